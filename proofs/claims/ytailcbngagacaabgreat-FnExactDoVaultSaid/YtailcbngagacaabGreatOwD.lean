/- A verified reading of translated code: values in place of memory; part D of 6, spaces and remarks taken out. No condition. Own work of this seat. -/
import Derived.Test.YtailcbngagacaabGreatOwC
set_option linter.unusedSectionVars false
set_option linter.unusedVariables false
set_option linter.unusedSimpArgs false
namespace Go.Proofs.YtailcbngagacaabGreat.Ow
section
open Go
variable [Fr]
def nC (news:List Value) (s i:Nat):List Value:=(news.drop (i * s)).take s
theorem sw {news:List Value} {s i m:Nat} (h:news.length=m * s) (hi:i<m):(nC news s i).length=s:=by
 unfold nC
 have:(i+1) * s≤m * s:=aos _ hi
 rw [Nat.add_mul,Nat.one_mul] at this
 simp
 omega
theorem lW {news:List Value} {s i j:Nat} (hj:j<s):(nC news s i)[j]?=news[i * s+j]?:=by
 unfold nC
 rw [List.getElem?_take,if_pos hj,List.getElem?_drop]
theorem Ei {bD Ba:List (List Nat)} {i:Nat}:(bD++Ba).getD i []=if i<bD.length then bD.getD i [] else Ba.getD (i - bD.length) []:=by
 simp only [aoa,List.getElem?_append]
 split <;> rfl
section
variable {P:Program} {T:iV} {w:World}
theorem Mo {t u ty e:TypeId} {kk:K} (ht:fK P T t (.sl e kk)) {own:List TypeId} {ok:Nat→Prop} {x9 zU:List (El kk)} {v0 x:Value} {xV:List Nat} {bD:List (List Nat)} {news:List Value}
  (hO:Ow (hp w) own ok (.sl e kk) x9 [v0] xV) (hown:az e own=true) (hnd:(xV++bD.flatten).Nodup) (hok:∀b,ok b→b∉xV∧b<w.heap.size) (hlt:∀b∈xV++bD.flatten,b<w.heap.size)
  (hS:Src P w kk.size u x zU.length news) (hfl:bD.length=zU.length) (hel:∀i (hi:i<zU.length),Ow (hp w) own ok kk zU[i] (nC news kk.size i) (bD.getD i []))
  (hb:(x9.length+zU.length) * T.bytes e≤140737488355328) :
  ∃v' w' dH,(Builtin.append_ #[t,u] ty #[v0,x]).run P w=.ok v' w'∧(w'.os=w.os∧w'.tape=w.tape∧w'.output=w.output)∧w.heap.size≤w'.heap.size∧
   (∀b,b<w.heap.size→hp w' b≠hp w b→b∈xV∧qQ (hp w) b=some e)∧(∀b∈dH,b∈xV∨b∈bD.flatten∨(w.heap.size≤b∧b<w'.heap.size))∧dH.Nodup∧
   Ow (hp w') own ok (.sl e kk) (x9++zU) [v'] dH:=by
 have hsz:0<kk.size:=ht.sl.2.2.1
 have hnl:=hS.nl
 unfold Ow at hO
 rw [if_pos hown] at hO
 obtain ⟨a,n,c,e1,e2,e3,hO⟩:=hO
 simp only [List.cons.injEq,and_true] at e1
 subst e1
 have e2':n=x9.length:=e2
 have hnd':=an4.1 hnd
 by_cases hr:n+zU.length≤c
 ·have hrun:=xZ (ty:=ty) ht hS (b:=a) (n:=n) hr
  rcases hO with ⟨hc0,hf0⟩ | ⟨b,o,arr,lo,hi,ea,hbk,hf,hs,wS,hl0,hp0,hO⟩
  ·have hx1:zU=[]:=List.eq_nil_of_length_eq_zero (by omega)
   have hx0:x9=[]:=List.eq_nil_of_length_eq_zero (by omega)
   subst hx1
   subst hx0
   have hnews:news=[]:=List.eq_nil_of_length_eq_zero (by simpa using hnl)
   subst hnews
   have hn0:n=0:=by simpa using e2'
   subst hn0
   subst hc0
   have:(Builtin.append_ #[t,u] ty #[.slice a 0 0,x]).run P w=.ok (.slice a 0 0) w:=by
    rw [hrun]
    cases a <;> rfl
   exact ⟨_,w,[],this,⟨rfl,rfl,rfl⟩,aod _,fun b _ h=>absurd rfl h,fun b hb=>by simp at hb,List.nodup_nil,yG⟩
  ·subst ea
   have hle:(n+zU.length) * kk.size≤c * kk.size:=aos _ hr
   rw [Nat.add_mul] at hle
   have hst:=mP (P:=P) (o:=o+n * kk.size) news hbk hf (by rw [hnl]; omega) hS.one
   simp only [Result.andThen,addr_add,hst] at hrun
   obtain ⟨s1,s2,kL,s3,s4,s5,s6⟩:=uI b news w arr e (lo,hi) (o+n * kk.size) hbk (by rw [hnl]; omega)
   have s7:=qh b news w (o+n * kk.size)
   have hb0:b∈xV:=hp0.mem_iff.2 (by simp)
   have sI:=hp0.nodup hnd'.1
   have hne:∀b'∈wS.flatten++bD.flatten,b'≠b:=by
    intro b' hb' e
    subst e
    rcases an6.1 hb' with h | h
    ·exact (aou.1 sI).1 h
    ·exact hnd'.2.2 b' hb0 b' h rfl
   have agA:∀b',ok b'→hp (w.setCells b (o+n * kk.size) news) b'=hp w b':=fun b' h=>s1 b' (fun e=>(hok b' h).1 (e▸hb0))
   refine ⟨_,_,b :: (wS.flatten++bD.flatten),hrun,s7,by omega, ?_, ?_, ?_, ?_⟩
   ·intro b' _ hne'
    by_cases e:b'=b
    ·subst e; exact ⟨hb0,by unfold qQ; rw [hbk]⟩
    ·exact absurd (s1 b' e) hne'
   ·intro b' hb'
    rcases an9.1 hb' with h | h
    ·subst h; exact .inl hb0
    ·rcases an6.1 h with h | h
     ·exact .inl (hp0.mem_iff.2 (by simp [h]))
     ·exact .inr (.inl h)
   ·refine aou.2 ⟨fun h=>hne b h rfl,an4.2 ⟨(aou.1 sI).2,hnd'.2.1,fun b1 h1 b2 h2 e=>hnd'.2.2 b1 (hp0.mem_iff.2 (by simp [h1])) b2 h2 e⟩⟩
   ·unfold Ow
    rw [if_pos hown]
    refine ⟨_,_,_,rfl,by simp [e2'],hr, .inr ⟨b,o,kL,lo,hi,rfl,s3,by rw [s4]; exact hf,by rw [s4]; exact hs,wS++bD,by simp [hl0,hfl],by simp,fun i hi=>?_⟩⟩
    have hi':i<x9.length+zU.length:=by simpa using hi
    rw [Ei]
    by_cases hi0:i<x9.length
    ·obtain ⟨ds,h1,h2⟩:=hO i hi0
     have akA:i<wS.length:=by rw [hl0]; exact hi0
     rw [if_pos akA]
     have hx:(x9++zU)[i]'hi=x9[i]:=List.getElem_append_left hi0
     refine ⟨ds,fun j hj=>?_, ?_⟩
     ·have hdl:=dh h2
      have hlt2:(i+1) * kk.size≤n * kk.size:=aos _ (by omega)
      rw [Nat.add_mul,Nat.one_mul] at hlt2
      have:=h1 j hj
      unfold cellAt at this ⊢
      rw [hbk] at this
      rw [s3]
      simp only at this ⊢
      rw [s6 _ (by rw [hnl]; omega)]
      exact this
     ·show Ow _ own ok kk ((x9++zU)[i]'hi) ds _
      rw [hx]
      exact bz agA (fun _ h=>h) (fun b' hb'=>s1 b' (hne b' (an2 _ (sj hb')))) h2
    ·have hi1:i - x9.length<zU.length:=by omega
     rw [if_neg (by rw [hl0]; exact hi0)]
     have hx:(x9++zU)[i]'hi=zU[i - x9.length]:=List.getElem_append_right (by omega)
     have hfe:i - wS.length=i - x9.length:=by rw [hl0]
     rw [hfe]
     refine ⟨nC news kk.size (i - x9.length),fun j hj=>?_, ?_⟩
     ·rw [sw hnl hi1] at hj
      unfold cellAt
      rw [s3,lW hj]
      simp only
      have e4:o+i * kk.size+j=o+n * kk.size+((i - x9.length) * kk.size+j):=by
       have:i * kk.size=n * kk.size+(i - x9.length) * kk.size:=by rw [←Nat.add_mul]; congr 1; omega
       omega
      rw [e4]
      refine s5 _ ?_
      rw [hnl]
      have:(i - x9.length+1) * kk.size≤zU.length * kk.size:=aos _ hi1
      rw [Nat.add_mul,Nat.one_mul] at this
      omega
     ·show Ow _ own ok kk ((x9++zU)[i]'hi) _ _
      rw [hx]
      exact bz agA (fun _ h=>h) (fun b' hb'=>s1 b' (hne b' (anZ _ (sj hb')))) (hel _ hi1)
 ·
  obtain ⟨olds,ho1,ho2,wS,hl0,hf0,hOe⟩:∃olds,olds.length=n * kk.size∧(Builtin.firstCells kk.size n (.slice a n c)).run P w.drew=.ok olds.toArray w.drew∧∃wS:List (List Nat),wS.length=x9.length∧((∀b∈wS.flatten,b∈xV)∧wS.flatten.Nodup)∧
    ∀i (hi:i<x9.length),Ow (hp w) own ok kk x9[i] (nC olds kk.size i) (wS.getD i []):=by
   rcases hO with ⟨hc0,hf0⟩ | ⟨b,o,arr,lo,hi,ea,hbk,hf,hs,wS,hl0,hp0,hO⟩
   ·have hx0:x9=[]:=List.eq_nil_of_length_eq_zero (by omega)
    subst hx0
    have hn0:n=0:=by simpa using e2'
    subst hn0
    refine ⟨[],by simp, ?_,[],rfl,⟨by simp,by simp⟩,fun i hi=>by simp at hi⟩
    cases a with
    | none=>exact run_firstCells_none w.drew kk.size 0 0 c
    | some ad=>exact run_firstCells_some (P:=P) w.drew kk.size 0 ad 0 c [] (by simp) (fun j v hj=>by simp at hj)
   ·subst ea
    have hle:n * kk.size≤c * kk.size:=aos _ e3
    have hrow:=Fg (n:=n * kk.size) hbk (by omega:o+n * kk.size≤arr.size)
    have hrl:(qg (hp w) b o (n * kk.size)).length=n * kk.size:=by simp [qg]
    have sI:=hp0.nodup hnd'.1
    refine ⟨qg (hp w) b o (n * kk.size),hrl, ?_,wS,hl0,⟨fun b' hb'=>hp0.mem_iff.2 (by simp [hb']),(aou.1 sI).2⟩,fun i hi=>?_⟩
    ·refine run_firstCells_some (P:=P) w.drew kk.size n ⟨b,o,none⟩ n c _ hrl (fun j v hj=>?_)
     rw [addr_add,zq]
     have:=hrow j (by rw [hrl]; have:=(List.getElem?_eq_some_iff.1 hj).1; rw [hrl] at this; exact this)
     rw [hj] at this
     exact this
    ·obtain ⟨ds,h1,h2⟩:=hO i hi
     have hdl:=dh h2
     have:nC (qg (hp w) b o (n * kk.size)) kk.size i=ds:=by
      apply List.ext_getElem?
      intro j
      by_cases hj:j<kk.size
      ·rw [lW hj]
       have hlt2:(i+1) * kk.size≤n * kk.size:=aos _ (by omega)
       rw [Nat.add_mul,Nat.one_mul] at hlt2
       rw [←hrow _ (by rw [hrl]; omega), ←Nat.add_assoc]
       exact h1 j (by omega)
      ·rw [List.getElem?_eq_none (by rw [sw hrl (by omega)]; omega),List.getElem?_eq_none (by omega)]
     rw [this]
     exact h2
  obtain ⟨nc,hnc,hrun⟩:=BB (ty:=ty) ht hS ho2 hr (by rw [e2']; exact hb)
  have hnew:=rV w.drew (.cells (olds.toArray++news.toArray++Builtin.zeroCells (sJ kk).cells (nc - (n+zU.length))) e)
  have hold:∀b',b'<w.heap.size→hp (w.drew.alloc (.cells (olds.toArray++news.toArray++Builtin.zeroCells (sJ kk).cells (nc - (n+zU.length))) e)) b'=hp w b':=fun b' h=>pI w.drew _ h
  have hws:w.drew.heap.size=w.heap.size:=rfl
  rw [hws] at hnew
  have hsz2:(w.drew.alloc (.cells (olds.toArray++news.toArray++Builtin.zeroCells (sJ kk).cells (nc - (n+zU.length))) e)).heap.size=w.heap.size+1:=Array.size_push ..
  have hzl:(sJ kk).cells.size=kk.size:=by
   rw [wQ ht.sl.2.1.shape]
   simpa using dh (yZ (h:=hp w) (own:=own) (ok:=ok) ht.sl.2.1.eX)
  have hall:∀b'∈wS.flatten++bD.flatten,b'<w.heap.size:=by
   intro b' hb'
   rcases an6.1 hb' with h | h
   ·exact hlt b' (an2 _ (hf0.1 b' h))
   ·exact hlt b' (anZ _ h)
  refine ⟨_,_,w.heap.size :: (wS.flatten++bD.flatten),hrun,⟨rfl,rfl,rfl⟩,by omega,fun b' hb' hne=>absurd (hold b' hb') hne, ?_, ?_, ?_⟩
  ·intro b' hb'
   rcases an9.1 hb' with h | h
   ·subst h; exact .inr (.inr ⟨aod _,by omega⟩)
   ·rcases an6.1 h with h | h
    ·exact .inl (hf0.1 b' h)
    ·exact .inr (.inl h)
  ·refine aou.2 ⟨fun h=>by have:=hall _ h; omega,an4.2 ⟨hf0.2,hnd'.2.1,fun b1 h1 b2 h2 e=>hnd'.2.2 b1 (hf0.1 b1 h1) b2 h2 e⟩⟩
  ·unfold Ow
   rw [if_pos hown]
   refine ⟨_,_,_,rfl,by simp [e2'],hnc, .inr ⟨w.heap.size,0,_,0,0,rfl,hnew,fun i hi=>by omega, ?_,wS++bD,by simp [hl0,hfl],by simp,fun i hi=>?_⟩⟩
   ·simp only [Array.size_append,List.size_toArray,size_zeroCells,hzl,ho1,hnl, ←Nat.add_mul]
    have:n+zU.length+(nc - (n+zU.length))=nc:=by omega
    rw [this]
    omega
   have hi':i<x9.length+zU.length:=by simpa using hi
   rw [Ei]
   have hcell:∀q,q<(olds++news).length→cellAt (hp (w.drew.alloc (.cells (olds.toArray++news.toArray++Builtin.zeroCells (sJ kk).cells (nc - (n+zU.length))) e))) w.heap.size (0+q)=(olds++news)[q]?:=by
    intro q hq
    unfold cellAt
    rw [hnew]
    simp only [Nat.zero_add]
    rw [Array.getElem?_append_left (by simpa using hq)]
    simp
   by_cases hi0:i<x9.length
   ·rw [if_pos (by rw [hl0]; exact hi0)]
    have hx:(x9++zU)[i]'hi=x9[i]:=List.getElem_append_left hi0
    refine ⟨nC olds kk.size i,fun j hj=>?_, ?_⟩
    ·rw [sw ho1 (by omega)] at hj
     have hlt2:(i+1) * kk.size≤n * kk.size:=aos _ (by omega)
     rw [Nat.add_mul,Nat.one_mul] at hlt2
     rw [Nat.add_assoc,hcell _ (by rw [an5,ho1]; omega),List.getElem?_append_left (by rw [ho1]; omega),lW hj]
    ·show Ow _ own ok kk ((x9++zU)[i]'hi) _ _
     rw [hx]
     exact bz (fun b' h=>hold b' (hok b' h).2) (fun _ h=>h) (fun b' hb'=>hold b' (hall b' (an2 _ (sj hb')))) (hOe i hi0)
   ·have hi1:i - x9.length<zU.length:=by omega
    rw [if_neg (by rw [hl0]; exact hi0)]
    have hx:(x9++zU)[i]'hi=zU[i - x9.length]:=List.getElem_append_right (by omega)
    have hfe:i - wS.length=i - x9.length:=by rw [hl0]
    rw [hfe]
    refine ⟨nC news kk.size (i - x9.length),fun j hj=>?_, ?_⟩
    ·rw [sw hnl hi1] at hj
     have hlt2:(i - x9.length+1) * kk.size≤zU.length * kk.size:=aos _ hi1
     rw [Nat.add_mul,Nat.one_mul] at hlt2
     have e4:i * kk.size=n * kk.size+(i - x9.length) * kk.size:=by rw [←Nat.add_mul]; congr 1; omega
     rw [Nat.add_assoc,hcell _ (by rw [an5,ho1,hnl]; omega),List.getElem?_append_right (by rw [ho1]; omega),lW hj]
     congr 1
     rw [ho1]
     omega
    ·show Ow _ own ok kk ((x9++zU)[i]'hi) _ _
     rw [hx]
     exact bz (fun b' h=>hold b' (hok b' h).2) (fun _ h=>h) (fun b' hb'=>hold b' (hall b' (anZ _ (sj hb')))) (hel _ hi1)
end
end
section
open Go
variable [Fr]
section
variable {P:Program} {T:iV} {cx:Cx} {σ:St} {α:dL} {F:List Nat} {a:Act} {w:World}
theorem ZX {k l:K} (e:k=l) {x:El k} {y:El l} (ey:y=e▸x) {h:Heap} {ok:Nat→Prop} {cs:List Value} (H:Vw h ok k x cs):Vw h ok l y cs:=by subst e; subst ey; exact H
theorem ze {k l:K} (e:k=l) {x:El k} {y:El l} (ey:y=e▸x) {h:Heap} {own:List TypeId} {ok:Nat→Prop} {cs:List Value} {fo:List Nat} (H:Ow h own ok k x cs fo):Ow h own ok l y cs fo:=by subst e; subst ey; exact H
theorem Uv {u:TypeId} {size n c bb q:Nat} (hu:(∃e',P.underlying u=some (.slice e'))∨P.underlying u=some .string) (Q:Nat→List Value→Prop)
  (hE:∀i,i<n→∃ds,ds.length=size∧Cells (hp w) bb (q+i * size) ds∧(∀v∈ds,v.oneCell'=true)∧Q i ds) :
  ∃news,Src P w size u (.slice (some ⟨bb,q,none⟩) n c) n news∧∀i,i<n→Q i (nC news size i):=by
 have hrl:(qg (hp w) bb q (n * size)).length=n * size:=by simp [qg]
 have hseg:∀i,i<n→∃ds,nC (qg (hp w) bb q (n * size)) size i=ds∧ds.length=size∧Cells (hp w) bb (q+i * size) ds∧(∀v∈ds,v.oneCell'=true)∧Q i ds:=by
  intro i hi
  obtain ⟨ds,hdl,h1,h2,h3⟩:=hE i hi
  refine ⟨ds, ?_,hdl,h1,h2,h3⟩
  apply List.ext_getElem?
  intro j
  by_cases hj:j<size
  ·rw [lW hj]
   have hlt2:(i+1) * size≤n * size:=aos _ (by omega)
   rw [Nat.add_mul,Nat.one_mul] at hlt2
   unfold qg
   rw [List.getElem?_map,List.getElem?_range (by omega)]
   have:=h1 j (by omega)
   simp only [Option.map_some]
   rw [←Nat.add_assoc,this,aob (by omega)]
   rfl
  ·rw [List.getElem?_eq_none (by rw [sw hrl hi]; omega),List.getElem?_eq_none (by omega)]
 have hcell:∀j,j<n * size→cellAt (hp w) bb (q+j)=(qg (hp w) bb q (n * size))[j]?∧∀v,(qg (hp w) bb q (n * size))[j]?=some v→v.oneCell'=true:=by
  intro j hj
  have hk:0<size:=by
   rcases Nat.eq_zero_or_pos size with h | h
   ·rw [h] at hj; omega
   ·exact h
  have hi:j / size<n:=Nat.div_lt_of_lt_mul (by rw [Nat.mul_comm]; exact hj)
  have hm:j % size<size:=Nat.mod_lt _ hk
  obtain ⟨ds,s1,hdl,s2,s3,_⟩:=hseg _ hi
  have hjj:j / size * size+j % size=j:=by rw [Nat.mul_comm]; exact Nat.div_add_mod j size
  have h1:(qg (hp w) bb q (n * size))[j]?=ds[j % size]?:=by
   rw [←s1,lW hm,hjj]
  have h2:=s2 (j % size) (by omega)
  rw [Nat.add_assoc,hjj] at h2
  refine ⟨by rw [h2,h1],fun v hv=>?_⟩
  rw [h1] at hv
  exact s3 v (List.mem_of_getElem? hv)
 refine ⟨qg (hp w) bb q (n * size),Cc hu hrl (fun v hv=>?_) (fun _=>⟨bb,q,rfl,fun i hi=>(hcell i (by rw [hrl] at hi; exact hi)).1⟩),fun i hi=>?_⟩
 ·obtain ⟨j,hj,rfl⟩:=List.mem_iff_getElem.1 hv
  exact (hcell j (by rw [hrl] at hj; exact hj)).2 _ (aob hj)
 ·obtain ⟨ds,s1,_,_,_,s3⟩:=hseg i hi
  rw [s1]
  exact s3
theorem OQ {u e:TypeId} {kk:K} {h:Heap} {ok:Nat→Prop} {xs:List (El kk)} {v:Value} {cs:List Value} (hu:(∃e',P.underlying u=some (.slice e'))∨P.underlying u=some .string) (hg:eX kk=true)
  (hh:h=hp w) (hv:VC (.sl e kk) v cs) (hV:Vw h ok (.sl e kk) xs cs) :
  ∃news,Src P w kk.size u v xs.length news∧∀i (hi:i<xs.length),Vw h ok kk xs[i] (nC news kk.size i):=by
 subst hh
 obtain ⟨b,n,c,e1,e2,e3,e4,e5⟩:=Dq hv hV
 subst e1
 subst e3
 by_cases h0:0<xs.length
 ·obtain ⟨bb,q,eb,hok,hel,hE⟩:=e5 h0
  subst eb
  obtain ⟨news,g1,g2⟩:=Uv (P:=P) (w:=w) (n:=xs.length) (c:=c) (bb:=bb) (q:=q) hu (fun i ds=>∀hi:i<xs.length,Vw (hp w) ok kk xs[i] ds) (fun i hi=>by
   obtain ⟨ds,h1,h2⟩:=hE i hi
   exact ⟨ds,lN h2,h1,NG hg h2,fun _=>h2⟩)
  exact ⟨news,g1,fun i hi=>g2 i hi hi⟩
 ·have hx:xs=[]:=List.eq_nil_of_length_eq_zero (by omega)
  subst hx
  exact ⟨[],Cc hu (by simp) (by simp) (fun h=>by simp at h),fun i hi=>by simp at hi⟩
theorem YS {u e:TypeId} {kk:K} {own:List TypeId} {ok:Nat→Prop} {xs:List (El kk)} {v:Value} {cs:List Value} {fo:List Nat} (hu:(∃e',P.underlying u=some (.slice e'))∨P.underlying u=some .string) (hg:eX kk=true)
  (hv:VC (.sl e kk) v cs) (hown:az e own=true) (hO:Ow (hp w) own ok (.sl e kk) xs cs fo) (hnd:fo.Nodup) :
  ∃news,Src P w kk.size u v xs.length news∧∃bD:List (List Nat),bD.length=xs.length∧bD.flatten.Nodup∧(∀b∈bD.flatten,b∈fo)∧∀i (hi:i<xs.length),Ow (hp w) own ok kk xs[i] (nC news kk.size i) (bD.getD i []):=by
 unfold Ow at hO
 rw [if_pos hown] at hO
 obtain ⟨b,n,c,e1,e2,e3,hO⟩:=hO
 obtain ⟨e5,_⟩:cs=[v]∧_:=hv
 rw [e1] at e5
 simp only [List.cons.injEq,and_true] at e5
 subst e5
 have e2':n=xs.length:=e2
 subst e2'
 rcases hO with ⟨hc0,hf0⟩ | ⟨bb,q,arr,lo,hi,ea,hbk,hf,hs,wS,hl0,hp0,hO⟩
 ·have hx:xs=[]:=List.eq_nil_of_length_eq_zero (by omega)
  subst hx
  exact ⟨[],Cc hu (by simp) (by simp) (fun h=>by simp at h),[],rfl,by simp,by simp,fun i hi=>by simp at hi⟩
 ·subst ea
  have sI:=hp0.nodup hnd
  obtain ⟨news,g1,g2⟩:=Uv (P:=P) (w:=w) (n:=xs.length) (c:=c) (bb:=bb) (q:=q) hu (fun i ds=>∀hi:i<xs.length,Ow (hp w) own ok kk xs[i] ds (wS.getD i [])) (fun i hi=>by
   obtain ⟨ds,h1,h2⟩:=hO i hi
   exact ⟨ds,dh h2,h1,Rm hg h2,fun _=>h2⟩)
  exact ⟨news,g1,wS,hl0,(aou.1 sI).2,fun b hb=>hp0.mem_iff.2 (by simp [hb]),fun i hi=>g2 i hi hi⟩
theorem XA {kk:K} {own own':List TypeId} {ok:Nat→Prop} {xs:List (El kk)} {news:List Value} {bD:List (List Nat)} (hfl:bD.length=xs.length) (hnd:bD.flatten.Nodup) (hsub:∀t∈kk.tys,az t own'=true→az t own=true)
  (hel:∀i (hi:i<xs.length),Ow (hp w) own ok kk xs[i] (nC news kk.size i) (bD.getD i [])) :
  ∃(Ba:List (List Nat)) (Cy:List Nat),Ba.length=xs.length∧(Ba.flatten++Cy).Nodup∧(∀b∈Ba.flatten++Cy,b∈bD.flatten)∧
   ∀i (hi:i<xs.length),Ow (hp w) own' (fun b=>ok b∨b∈Cy) kk xs[i] (nC news kk.size i) (Ba.getD i []):=by
 suffices hs:∀(n:Nat),n≤xs.length→∃(Ba:List (List Nat)) (Cy:List Nat),Ba.length=n∧(bD.take n).flatten.Perm (Ba.flatten++Cy)∧
   ∀i (_:i<n) (hi:i<xs.length),Ow (hp w) own' (fun b=>ok b∨b∈Cy) kk xs[i] (nC news kk.size i) (Ba.getD i []) by
  obtain ⟨Ba,Cy,h1,h2,h3⟩:=hs xs.length (aod _)
  rw [List.take_of_length_le (by omega)] at h2
  exact ⟨Ba,Cy,h1,h2.nodup hnd,fun b hb=>h2.mem_iff.2 hb,fun i hi=>h3 i hi hi⟩
 intro n
 induction n with
 | zero=>intro _; exact ⟨[],[],rfl,by simp,fun i hi=>by omega⟩
 | succ n ih=>
  intro hn
  obtain ⟨Ba,Cy,h1,h2,h3⟩:=ih (by omega)
  obtain ⟨f1,f2,p1,p2⟩:=vk (own':=own') hsub (hel n (by omega))
  refine ⟨Ba++[f1],Cy++f2,by simp [h1], ?_,fun i hi hi'=>?_⟩
  ·rw [List.take_succ_eq_append_getElem (by omega),List.flatten_append]
   have e:[bD[n]'(by omega)].flatten=bD.getD n []:=by rw [bZ (show n<bD.length by omega)]; simp
   rw [e]
   refine (h2.append p1).trans ?_
   simp only [List.flatten_append,aoi]
   refine List.Perm.append_left _ ?_
   simp only [List.flatten_cons,List.flatten_nil,aoq]
   exact yJ
  ·rw [Ei,h1]
   by_cases h:i<n
   ·rw [if_pos h]
    exact bz (fun _ _=>rfl) (fun b hb=>hb.imp id (fun h=>by simp [h])) (fun _ _=>rfl) (h3 i h hi')
   ·have:i=n:=by omega
    subst this
    rw [if_neg (by omega)]
    simp only [Nat.sub_self]
    exact bz (fun _ _=>rfl) (fun b hb=>hb.imp id (fun h=>by simp [h])) (fun _ _=>rfl) p2
def WZ (P:Program) (cx:Cx) (σ:St) (α:dL) (F:List Nat) (a:Act) (w:World) (u e:TypeId) (kk:K) (v:Value) (s:vP kk):Prop:=
 ∃dK F1 news,Rel cx (aB s.ws σ) dK F1 a w∧(∀q,q∉s.ws.flatMap Wr.um→Same σ α (aB s.ws σ) dK q)∧(aB s.ws σ).slots=σ.slots∧(∀q,σ.roots q=none→(aB s.ws σ).roots q=none)∧(∀b∈F,b∈F1)∧
  eZ (aB s.ws σ) s.tags∧Src P w kk.size u v s.xs.length news∧
  ∀own',(∀t∈kk.tys,az t own'=true→t∉s.bad)→∃(bD:List (List Nat)) (Cy:List Nat),bD.length=s.xs.length∧(bD.flatten++Cy).Nodup∧(∀b∈bD.flatten++Cy,b∈F1∧b∉F)∧
   ∀i (hi:i<s.xs.length),Ow (hp w) own' (fun b=>(iQ cx (aB s.ws σ) dK F1 w s.tags b∧∃t∈s.bad,vU (hp w) b t)∨b∈Cy) kk s.xs[i] (nC news kk.size i) (bD.getD i [])
theorem P6 {n i:Nat}:(List.replicate n ([]:List Nat)).getD i []=[]:=by
 simp only [aoa,List.getElem?_replicate]
 split <;> rfl
theorem wP (H:Rel cx σ α F a w) {u e:TypeId} {kk:K} {v:Value} {s:vP kk} (hws:s.ws=[]) (uC:eZ σ s.tags) {news:List Value} (hS:Src P w kk.size u v s.xs.length news)
  (hV:∀i (hi:i<s.xs.length),Vw (hp w) (iQ cx σ α F w s.tags) kk s.xs[i] (nC news kk.size i)) (hbad:s.bad=kk.tys∨kk.flat=true∨s.xs=[]):WZ P cx σ α F a w u e kk v s:=by
 refine ⟨α,F,news,by rw [hws]; exact H,by rw [hws]; exact fun q _=>lJ ..,by rw [hws]; rfl,by rw [hws]; exact fun q h=>h,fun _ h=>h,by rw [hws]; exact uC,hS,fun own' ho=>?_⟩
 refine ⟨List.replicate s.xs.length [],[],by simp,by simp,by simp,fun i hi=>?_⟩
 rw [P6,hws]
 rcases hbad with h | h | h
 ·refine bz (fun _ _=>rfl) (fun b hb=>.inl (h▸hb)) (fun _ _=>rfl) (oG (fun t ht=>?_) (Jj kk.tys (fun _ h=>h) (hV i hi)))
  cases hm:az t own' with
  | false=>rfl
  | true=>exact absurd (h▸ht) (ho t ht hm)
 ·exact oG (fun t ht=>by rw [vX h] at ht; simp at ht) (iy h (hV i hi))
 ·rw [h] at hi; simp at hi
theorem QV {A:Type} {z:A} (H:Rel cx σ α F a w) {u e:TypeId} {kk:K} {x:AV} {v:Value} {k:vP kk→Prog A} (hu:(∃e',P.underlying u=some (.slice e'))∨P.underlying u=some .string) (hg:eX kk=true)
  (hx:bI cx σ α F w x v) (hw:rR σ x) (h:(Y9 e kk x k).ends σ z):∃s:vP kk,(k s).ends σ z∧WZ P cx σ α F a w u e kk v s:=by
 have Ac:(uX x fun k' y tags=>match bP k' (.sl e kk) y with
   | some xs=>k ⟨xs,kk.tys,bif kk.flat then [] else tags,[],false,[]⟩
   | none=>.fail).ends σ z→∃s:vP kk,(k s).ends σ z∧WZ P cx σ α F a w u e kk v s:=by
  intro h
  obtain ⟨k',y,Tg,cs,h1,h2,h3,h4⟩:=vG H hx hw h
  cases hc:bP k' (.sl e kk) y with
  | none=>rw [hc] at h4; exact h4.elim
  | some xs=>
   rw [hc] at h4
   obtain ⟨ek,ey⟩:=bM hc
   subst ek
   simp only at ey
   subst ey
   obtain ⟨news,g1,g2⟩:=OQ (P:=P) (u:=u) (xs:=xs) hu hg rfl h1 h2
   cases hf:kk.flat with
   | true=>
    rw [hf] at h4
    exact ⟨_,h4,wP H rfl (fun t ht=>by simp at ht) g1 (fun i hi=>iy hf (g2 i hi)) (.inr (.inl hf))⟩
   | false=>
    rw [hf] at h4
    exact ⟨_,h4,wP H rfl h3 g1 g2 (.inl rfl)⟩
 cases x with
 | val k1 y Tg=>
  cases k1 with
  | str=>
   simp only [Y9] at h
   cases h1:bP (.int .u8) kk (0:Int) with
   | none=>rw [h1] at h; exact h.elim
   | some q=>
    rw [h1] at h
    obtain ⟨ek,_⟩:=bM h1
    subst ek
    simp only at h
    cases h2:bP (.sl e (.int .u8)) (.sl e (.int .u8)) (show List Int from y) with
    | none=>rw [h2] at h; exact h.elim
    | some xs=>
     rw [h2] at h
     obtain ⟨_,ey⟩:=bM h2
     simp only at ey
     subst ey
     obtain ⟨B,e1,e2⟩:=xM hx
     subst e1
     have hlen:(bytesOf B).length=B.size:=lX B
     have hS:=Tc (P:=P) (w:=w) (u:=u) (B:=B) hu
     subst e2
     refine ⟨_,h,wP H rfl (fun t ht=>by simp at ht) (news:=B.data.toList.map fun b=>.int .u8 b.toNat) ?_ (fun i hi=>?_) (.inr (.inl rfl))⟩
     ·show Src P w 1 u _ (bytesOf B).length _
      rw [hlen]
      exact hS
     ·have hi':i<B.size:=by
       have:i<(bytesOf B).length:=hi
       rw [hlen] at this; exact this
      have hseg:nC (B.data.toList.map fun b=>Value.int .u8 b.toNat) (K.int .u8).size i=[.int .u8 (B.data.toList[i]'(by simpa using hi')).toNat]:=by
       apply List.ext_getElem?
       intro j
       show (nC (B.data.toList.map fun b=>Value.int .u8 b.toNat) 1 i)[j]?=_
       cases j with
       | zero=>rw [lW (by omega)]; simp [hi']
       | succ j=>rw [List.getElem?_eq_none (by rw [sw (m:=B.size) (by simp) hi']; omega)]; simp
      rw [hseg]
      have he:(bytesOf B)[i]'hi=((B.data.toList[i]'(by simpa using hi')).toNat:Int):=by simp [bytesOf]
      refine ⟨?_, ?_⟩
      ·show [Value.int .u8 _]=[Value.int .u8 _]
       congr 2
       exact he.symm
      ·show G9 .u8 _
       have:G9 .u8 ((B.data.toList[i]'(by simpa using hi')).toNat:Int):=⟨by omega,by have:=(B.data.toList[i]'(by simpa using hi')).toNat_lt; omega⟩
       exact he▸this
  | _=>exact Ac h
 | iP=>
  obtain ⟨b,rfl⟩:=hx
  exact ⟨_,h,wP H rfl (fun t ht=>by simp at ht) (news:=[]) (Cc hu (by simp) (by simp) (fun h=>by simp at h)) (fun i hi=>by simp at hi) (.inr (.inr rfl))⟩
 | ref r g=>
  simp only [Y9] at h
  obtain ⟨R,hr,hv,h⟩:=cB h
  rcases aA h with ⟨hg1,h⟩ | ⟨_,h⟩
  ·have hgg:=an1 hg1
   obtain ⟨hkind,FZ⟩:=hx R hr hgg
   cases hc:bP R.k (.sl e kk) R.x with
   | none=>rw [hc] at h; exact h.elim
   | some xs=>
    rw [hc] at h
    simp only at h
    obtain ⟨ek,ey⟩:=bM hc
    have K:=H.roots r R hr
    have hO:=K.ow hv
    have adr:=oN H hr hO (fun b hb=>hb)
    cases hf:kk.flat with
    | true=>
     rw [hf] at h
     have Kb:Vw (hp w) (iQ cx σ α F w (R.out r R.k)) (.sl e kk) xs (α.hdr r):=ZX ek ey adr
     obtain ⟨news,g1,g2⟩:=OQ (P:=P) (u:=u) (xs:=xs) hu hg rfl (ek▸FZ) Kb
     exact ⟨_,h,wP H rfl (fun t ht=>by simp at ht) g1 (fun i hi=>iy hf (g2 i hi)) (.inr (.inl hf))⟩
    | false=>
     rw [hf] at h
     simp only [cond_false] at h
     rcases aA h with ⟨_,h⟩ | ⟨_,h⟩
     ·exact h.elim
     ·obtain ⟨H1,T1,hh,hcl⟩:=kill H hr hkind hv
      have Vs:Ow (hp w) R.own (iQ cx (au σ r bT) (jK α r) (α.fo r++F) w R.tags) (.sl e kk) xs (α.hdr r) (α.fo r):=ze ek ey (hh.ow hcl)
      have af8:VC (.sl e kk) v (α.hdr r):=ek▸FZ
      have hsame:∀q,q∉([Wr.r r none]:List Wr).flatMap Wr.um→Same σ α (au σ r bT) (jK α r) q:=fun q hq=>iw (by simpa [Wr.um] using hq)
      have hnone:∀q,σ.roots q=none→(au σ r bT).roots q=none:=fun q hq=>by
       rw [bU]
       ·exact hq
       ·intro e; rw [e,hr.1] at hq; simp at hq
      have Ig:∀b∈α.fo r,b∉F:=fun b hb=>H.iX r R hr b (anZ _ hb)
      cases hme:az e R.own with
      | true=>
       obtain ⟨news,g1,bD,g2,g3,g4,g5⟩:=YS (P:=P) (u:=u) hu hg af8 hme Vs hh.nd
       rw [hme] at h
       simp only [cond_true,Bool.true_and] at h
       refine ⟨_,h,jK α r,α.fo r++F,news,H1,hsame,rfl,hnone,fun b hb=>anZ _ hb, ?_,g1,fun own' ho=>?_⟩
       ·intro t ht
        simp only at ht
        cases hal:(kk.tys.all fun t=>az t R.own) with
        | true=>rw [hal] at ht; simp at ht
        | false=>rw [hal] at ht; exact hh.wt t ht
       ·simp only at ho ⊢
        have g5':∀i (hi:i<List.length xs),Ow (hp w) R.own (fun b=>iQ cx (au σ r bT) (jK α r) (α.fo r++F) w (bif (kk.tys.all fun t=>az t R.own) then [] else R.tags) b∧∃t∈aU R.own kk,vU (hp w) b t) kk xs[i] (nC news kk.size i) (bD.getD i []):=by
         intro i hi
         cases hal:(kk.tys.all fun t=>az t R.own) with
         | false=>exact sS _ (fun _ h=>h) (g5 i hi)
         | true=>exact gH (dA (ku hal)) (g5 i hi)
        obtain ⟨Ba,Cy,f1,f2,f3,f4⟩:=XA (own':=own') g2 g3 (fun t ht hm=>(BL (own:=R.own) ht).resolve_left (fun hx=>ho t ht hm hx)) g5'
        exact ⟨Ba,Cy,f1,f2,fun b hb=>⟨an2 _ (g4 b (f3 b hb)),Ig b (g4 b (f3 b hb))⟩,f4⟩
      | false=>
       have hO2:=Vs
       unfold Ow at hO2
       rw [hme] at hO2 h
       simp only [an0,if_false] at hO2
       simp only [cond_false,Bool.false_and] at h
       obtain ⟨news,g1,g2⟩:=OQ (P:=P) (u:=u) (xs:=xs) hu hg rfl af8 hO2.2
       refine ⟨_,h,jK α r,α.fo r++F,news,H1,hsame,rfl,hnone,fun b hb=>anZ _ hb,hh.wt,g1,fun own' ho=>?_⟩
       refine ⟨List.replicate (List.length xs) [],[],by simp,by simp,by simp,fun i hi=>?_⟩
       rw [P6]
       refine bz (fun _ _=>rfl) (fun b hb=>.inl hb) (fun _ _=>rfl) (oG (fun t ht=>?_) (Jj kk.tys (fun _ h=>h) (g2 i hi)))
       cases hm:az t own' with
       | false=>rfl
       | true=>exact absurd ht (ho t ht hm)
  ·exact h.elim
 | sV r p n=>exact Ac h
 | undef=>exact Ac h
 | ptr r p n=>exact Ac h
 | jg bt k y T=>exact Ac h
 | JK _ _ _ _=>exact Ac h
 | Av _=>exact Ac h
 | part _ _ _ _ _=>exact Ac h
 | xY _ _ _ _=>exact Ac h
 | app _ _ _ _=>exact Ac h
 | su=>exact Ac h
 | fn f cs=>exact Ac h
end
end
section
open Go
variable [Fr]
section
variable {P:Program} {T:iV} {cx:Cx} {σ:St} {α:dL} {F:List Nat} {a:Act} {w:World} {o:Oper} {d:Nat} {ws:List Wr} {r:Nat} {R:Root}
theorem ag7 (H:Rel cx σ α F a w) (hr:aP σ r R) (hv:bu σ R) (hk:R.kind=.anon) {R':Root} (hk':R'.kind=.anon) {e:TypeId} (hw:R'.w=e :: R.w) (hh:R'.h=qz :: e :: R.h) (hg:R'.g=R.g+1) (hev:R'.ew=R.ew∧R'.eh=R.eh)
  (uC:eZ σ R'.tags∧∀n,(r,n)∉R'.tags) {w':World} (hos:w'.os=w.os∧w'.tape=w.tape∧w'.output=w.output) (hsize:w.heap.size≤w'.heap.size) {dH:List Nat}
  (Q7:∀b,b<w.heap.size→hp w' b≠hp w b→b∈F∨(b∈α.fo r∧qQ (hp w) b=some e)) (ag2:∀b∈dH,b∈α.fo r∨b∈F∨(w.heap.size≤b∧b<w'.heap.size)) (hnd:dH.Nodup)
  {hdr':List Value} (hlen:hdr'.length=R'.k.size) (how:Ow (hp w') R'.own (iQ cx (au σ r R') (aG α r (α.loc r) hdr' dH) [] w' R'.tags) R'.k R'.x hdr' dH) {v':Value} (hv':VC R'.k v' hdr') :
  Rel cx (au σ r R') (aG α r (α.loc r) hdr' dH) [] a w'∧bI cx (au σ r R') (aG α r (α.loc r) hdr' dH) [] w' (.ref r R'.g) v':=by
 have hblk:blk α R r=α.fo r:=by simp [blk,dU,hk]
 have hd':R'.aX=false:=by simp [Root.aX,hk']
 have T1:AR cx σ α F w r R R' dH [] w' [e] [qz,e]:=by
  refine ⟨.inr ⟨hw,hh,by omega,hk'.trans hk.symm,fun h=>by rw [hk] at h; simp at h, .inl (by simp)⟩,uC,hos,hsize,fun b hb hne=>?_,fun _ b hb=>?_,fun b hb=>by simp at hb,List.nodup_nil,fun _ b _ h=>by simp at h,fun j pi b o n hj hb hrj hne=>?_,fun _=>hev⟩
  ·rcases Q7 b hb hne with h | ⟨h1,h2⟩
   ·exact .inl h
   ·exact .inr ⟨by rw [hblk]; exact h1, .inr (.inl ⟨e,by simp,h2⟩)⟩
  ·rw [gY hk'] at hb
   rw [hblk]
   exact ag2 b hb
  ·obtain ⟨Q,hQ,hkq,_,_⟩:=H.kI j pi b o n hj hb
   have hQR:Q=R:=by have:=hQ.1; rw [←hrj,hr.1] at this; simpa using this.symm
   rw [hQR,hk] at hkq
   simp at hkq
 refine ⟨T1.rel H hr (fun _=>⟨fun _=>how,hlen,fun b o hb=>by rw [yY hk'] at hb; simp at hb,by rw [gY hk']; exact hnd⟩) ?_ ?_, ?_⟩
 ·intro _ p n v hn hold
  refine ⟨hold.1,fun Q hQ hvQ hcl hty hs=>?_⟩
  rw [aI] at hQ
  simp only [anX] at hQ
  subst hQ
  cases p with
  | nil=>
   obtain ⟨_,cs,b,o,h1,_⟩:=hold.2 R hr.1 hv (by simp [clean,dY,az]) (fun t ht=>by simp [ah] at ht) rfl
   simp only [bG,anX,an8] at h1
   have:dU α R r=none:=by simp [dU,hk]
   rw [this] at h1
   simp at h1
  | cons s p=>
   have e1:R'.h=[qz,e]++R.h:=hh
   rw [e1,pF hn] at hcl
   exact absurd (show qz∈dY (s :: p) R'.k from aot) (hcl.1 qz (by simp))
 ·intro _ g v hgl hold Q hQ hgQ
  obtain ⟨rfl,_⟩:=eU hQ
  omega
 ·intro Q hQ _
  obtain ⟨rfl,_⟩:=eU hQ
  refine ⟨hk', ?_⟩
  simp only [aG,upd_same]
  exact hv'
theorem Um (H:Rel cx σ α F a w) {w':World} (hs:w.heap.size≤w'.heap.size) {Tg Tg':List Tag} {dH:List Nat} {b:Nat} (hb:iQ cx σ α F w Tg b∨b∈F) (ht:∀t∈Tg,t∈Tg') (hfo:b∉dH):iQ cx σ α dH w' Tg' b:=by
 rcases hb with hb | hb
 ·exact ⟨Nat.lt_of_lt_of_le hb.1 hs,hfo,hb.2.2.1,fun q Q hq hbq=>(hb.2.2.2.1 q Q hq hbq).imp fun n hn=>ht _ hn,fun h0=>(hb.2.2.2.2 h0).imp (fun ⟨j,n,h1,h2⟩=>⟨j,n,ht _ h1,h2⟩) id⟩
 ·have hm:=H.fl b hb
  refine ⟨Nat.lt_of_lt_of_le hm.1 hs,hfo,sO H hb,fun q Q hq hbq=>absurd hb (H.iX q Q hq b hbq),fun h0=>?_⟩
  rcases hm.2 with h | ⟨j,pi,h1,h2⟩
  ·omega
  ·exact .inr ⟨j,pi,h1,h2⟩
theorem mO {c:Call} (ho:o.op=.call c) (hb:c.callee=.builtin .append) {x y:Operand} (ha:c.args.toList=[x,y]) {t u:TypeId} (ht:c.argTypes[0]?=some t) (hu:c.argTypes[1]?=some u) {v':Value} {w':World}
  (h:(Builtin.append_ #[t,u] o.type #[a.eval x,a.eval y]).run P w=.ok v' w'):(execOp a.eval o).run P w=.ok (.value v') w':=by
 obtain ⟨cc,hcc⟩:=jA (P:=P) (a:=a) (w:=w) ho hb
 rw [hcc]
 have h1:c.args.map a.eval=#[a.eval x,a.eval y]:=by
  apply Array.ext'
  rw [Array.toList_map,ha]
  rfl
 have h2:Builtin.append_ c.argTypes o.type #[a.eval x,a.eval y]=Builtin.append_ #[t,u] o.type #[a.eval x,a.eval y]:=by
  unfold Builtin.append_
  simp only [ht,hu]
  rfl
 rw [h1]
 simp only [builtin,aom,h2,h,aof,aor]
end
end
section
open Go
variable [Fr]
section
variable {P:Program} {T:iV} {cx:Cx} {σ:St} {α:dL} {F:List Nat} {a:Act} {w:World} {o:Oper} {d:Nat} {ws:List Wr}
theorem Jp (hT:eF P T) {σ1:St} {dK:dL} {F1:List Nat} (H1:Rel cx σ1 dK F1 a w) (hd:o.dst=some d) (hdn:d<cx.nt) {c:Call} (ho:o.op=.call c) (hcb:c.callee=.builtin .append) {x y:Operand} (ha:c.args.toList=[x,y])
  {t u e:TypeId} {kk:K} (ht0:c.argTypes[0]?=some t) (hu0:c.argTypes[1]?=some u) (hty:T.ty t=some (.sl e kk)) (hn1:σ1.roots (aZ d 0)=none)
  {own:List TypeId} {tags T1 T2:List Tag} {bad:List TypeId} {x9 zU:List (El kk)} {v0:Value} {xV fd:List Nat} {bD:List (List Nat)} {Cy:List Nat} {news:List Value} (hv0:a.eval x=v0) (hS:Src P w kk.size u (a.eval y) zU.length news)
  (hown:az e own=true) (hob:∀t,az t own=true→t∉bad) (hwt:eZ σ1 tags) (ht1:∀t∈T1,t∈tags) (ht2:∀t∈T2,t∈tags)
  (hO:Ow (hp w) own (fun b=>iQ cx σ1 dK F1 w T1 b∨b∈fd) (.sl e kk) x9 [v0] xV) (hF0:∀b∈xV++fd,b∈F1) (sI:(xV++fd).Nodup) (hF1:∀b∈bD.flatten++Cy,b∈F1∧b∉xV++fd) (Em:(bD.flatten++Cy).Nodup)
  (hfl:bD.length=zU.length) (hel:∀i (hi:i<zU.length),Ow (hp w) own (fun b=>((iQ cx σ1 dK F1 w T2 b∨b∈F1)∧∃t∈bad,vU (hp w) b t)∨b∈Cy) kk zU[i] (nC news kk.size i) (bD.getD i []))
  (hb:(x9.length+zU.length) * T.bytes e≤140737488355328) (kp:Bool) :
  qU P cx o a w (aB [.r (aZ d 0) (some (aL (.sl e kk) (x9++zU) own tags .anon kp)), .s d (.one (.ref (aZ d 0) 0))] σ1):=by
 have ht:=hT.ty t _ hty
 have n0:=an4.1 sI
 have n1:=an4.1 Em
 have hlt:∀b∈F1,b<w.heap.size:=fun b h=>(H1.fl b h).1
 have adq:=uu hO
 have hnot:∀b,((iQ cx σ1 dK F1 w T2 b∨b∈F1)∧∃t∈bad,vU (hp w) b t)→b∉xV:=by
  rintro b ⟨_,t,h1,h2⟩ hb0
  obtain ⟨e',_,h3,h4⟩:=adq b hb0
  have h2:=H1.Tt (H1.fl b (hF0 b (an2 _ hb0))) h2
  rw [h2] at h4
  simp only [anX] at h4
  subst h4
  exact hob _ h3 h1
 let ok:Nat→Prop:=fun b=>(iQ cx σ1 dK F1 w T1 b∨b∈fd)∨((iQ cx σ1 dK F1 w T2 b∨b∈F1)∧∃t∈bad,vU (hp w) b t)∨b∈Cy
 obtain ⟨v',w',dH,hrun,hos,hsz,Ke,hfo,Oc,Kb⟩:=Mo (w:=w) (ok:=ok) (u:=u) (ty:=o.type) (x:=a.eval y) (bD:=bD) ht (bz (fun _ _=>rfl) (fun b h=>.inl h) (fun _ _=>rfl) hO) hown
  (an4.2 ⟨n0.1,n1.1,fun b1 h1 b2 h2 e=>(hF1 b2 (an2 _ h2)).2 (an2 _ (e▸h1))⟩)
  (fun b hb=>by
   rcases hb with (h | h) | h | h
   ·exact ⟨fun h0=>h.2.1 (hF0 b (an2 _ h0)),h.1⟩
   ·exact ⟨fun h0=>n0.2.2 b h0 b h rfl,hlt b (hF0 b (anZ _ h))⟩
   ·refine ⟨hnot b h, ?_⟩
    rcases h.1 with h | h
    ·exact h.1
    ·exact hlt b h
   ·exact ⟨fun h0=>(hF1 b (anZ _ h)).2 (an2 _ h0),hlt b (hF1 b (anZ _ h)).1⟩)
  (fun b hb=>by
   rcases an6.1 hb with h | h
   ·exact hlt b (hF0 b (an2 _ h))
   ·exact hlt b (hF1 b (an2 _ h)).1)
  hS hfl (fun i hi=>bz (fun _ _=>rfl) (fun b h=>.inr h) (fun _ _=>rfl) (hel i hi)) hb
 have Ig:∀b∈dH,b∈F1∨(w.heap.size≤b∧b<w'.heap.size):=by
  intro b hb
  rcases hfo b hb with h | h | h
  ·exact .inl (hF0 b (an2 _ h))
  ·exact .inl (hF1 b (an2 _ h)).1
  ·exact .inr h
 have T2':=Ey (w':=w') (F':=dH) H1 hos hsz (fun b h1 h2=>hF0 b (an2 _ (Ke b h1 h2).1)) Ig Oc
 have H2:=H1.mem T2'
 have FZ:VC (.sl e kk) v' [v']:=⟨rfl,by
  unfold Ow at Kb
  rw [if_pos hown] at Kb
  obtain ⟨b,n,c,e1,_⟩:=Kb
  simp only [List.cons.injEq,and_true] at e1
  rw [e1]; simp⟩
 have hok:∀b,ok b→iQ cx σ1 dK dH w' tags b:=by
  intro b hb
  have hnew:b<w.heap.size→¬(w.heap.size≤b∧b<w'.heap.size):=fun h=>by omega
  rcases hb with (h | h) | h | h
  ·refine Um H1 hsz (.inl h) ht1 (fun hb=>?_)
   rcases hfo b hb with h2 | h2 | h2
   ·exact h.2.1 (hF0 b (an2 _ h2))
   ·exact h.2.1 (hF1 b (an2 _ h2)).1
   ·exact hnew h.1 h2
  ·have hF:=hF0 b (anZ _ h)
   refine Um H1 hsz (Tg:=[]) (.inr hF) (by simp) (fun hb=>?_)
   rcases hfo b hb with h2 | h2 | h2
   ·exact n0.2.2 b h2 b h rfl
   ·exact (hF1 b (an2 _ h2)).2 (anZ _ h)
   ·exact hnew (hlt b hF) h2
  ·refine Um H1 hsz h.1 ht2 (fun hb=>?_)
   have hlt':b<w.heap.size:=by
    rcases h.1 with h | h
    ·exact h.1
    ·exact hlt b h
   rcases hfo b hb with h2 | h2 | h2
   ·exact hnot b h h2
   ·obtain ⟨l,hl,hbl⟩:=List.mem_flatten.1 h2
    obtain ⟨i,hi,rfl⟩:=List.mem_iff_getElem.1 hl
    have:=uu (hel i (by omega)) b (by rw [bZ hi]; exact hbl)
    obtain ⟨e',_,h3,h4⟩:=this
    obtain ⟨_,t,h5,h6⟩:=h
    have h6:=H1.Tt (H1.fl b (hF1 b (an2 _ h2)).1) h6
    rw [h6] at h4
    simp only [anX] at h4
    subst h4
    exact hob _ h3 h5
   ·exact hnew hlt' h2
  ·have hF:=(hF1 b (anZ _ h)).1
   refine Um H1 hsz (Tg:=[]) (.inr hF) (by simp) (fun hb=>?_)
   rcases hfo b hb with h2 | h2 | h2
   ·exact (hF1 b (anZ _ h)).2 (an2 _ h2)
   ·exact n1.2.2 b h2 b h rfl
   ·exact hnew (hlt b hF) h2
 obtain ⟨Dy,k1,k2⟩:=yw (k:=.sl e kk) (x:=x9++zU) (own:=own) (tags:=tags) (v:=v') (cs:=[v']) (fo:=dH) (r:=aZ d 0) (F':=[]) H2 hn1 (fB d 0)
  (fun b hb=>hb) Oc hwt (fun b hb=>by simp at hb) List.nodup_nil rfl (fun _=>bz (fun _ _=>rfl) (fun b hb=>.inl (hok b hb)) (fun _ _=>rfl) Kb) FZ kp
 exact iW (x:=.one (.ref (aZ d 0) 0)) k1 hd hdn (mO ho hcb ha ht0 hu0 (by rw [hv0]; exact hrun)) k2 ⟨_,aI .., .inr (aov _)⟩
theorem GI {ws:List Wr} {tags:List Tag} (h:AU ws tags=true):∀t∈tags,t.1∉ws.flatMap Wr.um:=fun t ht=>by
 have:=aoc.1 h t ht
 simpa [aV] using this
theorem Qw {ws:List Wr} {r:Nat} (h:(ws.all fun w=>!w.loc.beq (.r r))=true):r∉ws.flatMap Wr.um:=by
 intro hm
 obtain ⟨wr,h1,h2⟩:=aoy.1 hm
 have:=aoc.1 h wr h1
 cases wr with
 | s n x=>simp [Wr.um] at h2
 | r n x=>
  simp only [Wr.um,aog] at h2
  subst h2
  simp [Wr.loc,Loc.beq] at this
theorem RX (hT:eF P T) (H:Rel cx σ α F a w) (hd:o.dst=some d) (hdn:d<cx.nt) {c:Call} (ho:o.op=.call c) (hcb:c.callee=.builtin .append)
  (h:(jR c.args.toList fun
   | [a,b]=>match c.argTypes[0]?,(c.argTypes[1]?).bind T.ty with
    | some t,some (.sl _ _)=>BM T d t a b fun ws=>(.ret ws:Prog (List Wr))
    | some t,some .str=>BM T d t a b fun ws=>(.ret ws:Prog (List Wr))
    | _,_=>.fail
   | _=>.fail).ends σ ws):qU P cx o a w (aB ws σ):=by
 obtain ⟨vs,h1,h2,h⟩:=ji H h
 obtain ⟨u,v,x,y,t,ut,hvs,ha,hx,hy,ht0,hu0,ald,h9⟩:∃u v x y t ut,vs=[u,v]∧c.args.toList=[x,y]∧bI cx σ α F w u (a.eval x)∧bI cx σ α F w v (a.eval y)∧c.argTypes[0]?=some t∧c.argTypes[1]?=some ut∧
   ((∃e',P.underlying ut=some (.slice e'))∨P.underlying ut=some .string)∧(BM T d t u v fun ws=>(.ret ws:Prog (List Wr))).ends σ ws:=by
  split at h
  ·rename_i u v
   have hargs:∃x y,c.args.toList=[x,y]∧bI cx σ α F w u (a.eval x)∧bI cx σ α F w v (a.eval y):=by
    revert h1
    generalize c.args.toList=l
    intro h1
    cases l with
    | nil=>exact h1.elim
    | cons x l=>
     cases l with
     | nil=>exact h1.2.elim
     | cons y l=>
      cases l with
      | nil=>exact ⟨x,y,rfl,h1.1,h1.2.1⟩
      | cons _ _=>exact h1.2.2.elim
   obtain ⟨x,y,e1,e2,e3⟩:=hargs
   split at h
   ·rename_i t e k e4 e5
    obtain ⟨ut,e6,e7⟩:=uU hT e5
    exact ⟨u,v,x,y,t,ut,rfl,e1,e2,e3,e4,e6, .inl ⟨_,e7.sl.1⟩,h⟩
   ·rename_i t e4 e5
    obtain ⟨ut,e6,e7⟩:=uU hT e5
    exact ⟨u,v,x,y,t,ut,rfl,e1,e2,e3,e4,e6, .inr e7.str,h⟩
   ·exact h.elim
  ·exact h.elim
 clear h
 have h:=h9
 clear h9
 subst hvs
 have hwu:=h2 u (by simp)
 have hwv:=h2 v (by simp)
 unfold BM at h
 cases hty:T.ty t with
 | none=>rw [hty] at h; exact h.elim
 | some k0=>
  rw [hty] at h
  cases k0 with
  | sl e kk=>
   have ht:=hT.ty t _ hty
   simp only at h
   obtain ⟨s,h8,dK,F1,news,H1,hsame,ak9,hnone,hFF,hwt,hS,hels⟩:=QV (P:=P) (u:=ut) H ald ht.sl.2.1.eX hy hwv h
   clear h
   rcases aA h8 with ⟨_,h⟩ | ⟨hbad,h⟩
   ·exact h.elim
   clear h8
   cases u with
   | iP=>
    obtain ⟨b0,hv0⟩:=hx
    obtain ⟨hb,h⟩:=h
    obtain ⟨hn,h⟩:=fQ h
    rw [aC h,bN]
    have ho1:az e (e :: bF kk.tys s.bad)=true:=aM.2 (by simp)
    have ho2:∀t,az t (e :: bF kk.tys s.bad)=true→t∉s.bad:=fun t ht=>by
     rcases an9.1 (aM.1 ht) with h | h
     ·rw [h]; exact aV.1 hbad
     ·exact (dD.1 (aM.2 h)).2
    obtain ⟨bD,Cy,f1,f2,f3,f4⟩:=hels (e :: bF kk.tys s.bad) (fun t _ ht=>ho2 t ht)
    exact Jp hT H1 hd hdn ho hcb ha ht0 hu0 hty (hnone _ hn) (x9:=[]) (v0:=.slice b0 0 0) (xV:=[]) (fd:=[]) (T1:=[]) (T2:=s.tags) (bad:=s.bad) hv0 hS ho1 ho2 hwt (by simp) (fun _ h=>h) yG (by simp) (by simp)
     (fun b hb=>⟨(f3 b hb).1,by simp⟩) f2 f1 (fun i hi=>bz (fun _ _=>rfl) (fun b hb=>hb.imp (fun h=>⟨.inl h.1,h.2⟩) id) (fun _ _=>rfl) (f4 i hi)) (by simpa using hb) s.keep
   | sV r p n=>
    obtain ⟨R,hr,hv,h⟩:=cB h
    rcases aA h with ⟨hc,h⟩ | ⟨_,h⟩
    ·simp only [an3] at hc
     obtain ⟨⟨⟨⟨⟨⟨⟨c1,c2⟩,c3⟩,c4⟩,c5⟩,c6⟩,c7⟩,c8⟩:=hc
     cases hg:aS p R.k R.x with
     | none=>rw [hg] at h; exact h.elim
     | some dd=>
      rw [hg] at h
      simp only at h
      cases hck:bP dd.1 (.sl e kk) dd.2 with
      | none=>rw [hck] at h; exact h.elim
      | some xs=>
       rw [hck] at h
       cases hga:Cz R p dd with
       | none=>rw [hga] at h; exact h.elim
       | some R'=>
        rw [hga] at h
        simp only at h
        obtain ⟨hb,h⟩:=h
        obtain ⟨hn,h⟩:=fQ h
        rw [aC h,bN]
        obtain ⟨ek,ey⟩:=bM hck
        unfold Cz at hga
        cases hz:dX p R.k R.x (rU dd) with
        | none=>rw [hz] at hga; simp at hga
        | some z=>
         rw [hz] at hga
         simp only [anX] at hga
         have eR:R'=dZ R dd z:=by rw [←hga]; rfl
         have hSr:=hsame r (Qw c7)
         have hr1:=(hSr.live R).2 hr
         have hv1:bu (aB s.ws σ) R:=⟨hv.1,by rw [fD (fun t ht=>(hsame t.1 (GI c8 t ht)).root)]; exact hv.2⟩
         obtain ⟨fT,hown,cs0,Zw,hn0,ac0⟩:=hx R hr.1 hv (an1 c1) dd hg
         have hpv:p≠[]∨∃t,R.kind=.var t:=by
          rw [Bool.or_eq_true] at c3
          rcases c3 with h | h
          ·exact .inl (by simpa using h)
          ·refine .inr ?_
           unfold Root.isVar at h
           cases hk:R.kind with
           | var t=>exact ⟨t,rfl⟩
           | _=>rw [hk] at h; simp at h
         obtain ⟨cs1,nG,fP,rest,g1,g2,g3,g4,g5,g6⟩:=gap H1 hr1 hv1 hg hz fT hown hpv
         rw [hSr.hdr,hSr.wh,hn0] at g1
         simp only [anX,an8] at g1
         obtain ⟨rfl,rfl⟩:=g1
         have hcl:bq (au (aB s.ws σ) r (dZ R dd z)) (aU R.own dd.1) R.tags=true:=by
          rw [g5]
          exact qB hv1.2 (fun _ h=>h) (xO p hg hown)
         have hO0:=ze (y:=xs) ek ey (g4.ow hcl)
         have ho1:az e (bF ((e :: kk.tys).filter fun t=>az t R.own) s.bad)=true:=dD.2 ⟨aM.2 (aoe.2 ⟨by simp,c5⟩),aV.1 hbad⟩
         have ho2:∀t,az t (bF ((e :: kk.tys).filter fun t=>az t R.own) s.bad)=true→t∉s.bad:=fun t ht=>(dD.1 ht).2
         obtain ⟨xV,fd,hp0,Vs⟩:=vk (own':=bF ((e :: kk.tys).filter fun t=>az t R.own) s.bad) (fun t _ hm=>(aoe.1 (aM.1 (dD.1 hm).1)).2) hO0
         obtain ⟨bD,Cy,f1,f2,f3,f4⟩:=hels (bF ((e :: kk.tys).filter fun t=>az t R.own) s.bad) (fun t _ ht=>ho2 t ht)
         have ac9:∀b∈fP,b∉F1:=fun b hb hF=>(an4.1 g2.zG).2.2 b hb b hF rfl
         have hcs:∃v0,cs0=[v0]∧a.eval x=v0:=by
          have hVk:VC (.sl e kk) (a.eval x) cs0:=ek▸ac0
          exact ⟨_,hVk.1,rfl⟩
         obtain ⟨v0,ecs,ev0⟩:=hcs
         subst ecs
         subst eR
         have hne:aZ d 0≠r:=fun e=>by have:=hr.1; rw [←e,hn] at this; simp at this
         refine Jp hT g2 hd hdn ho hcb ha ht0 hu0 hty (by rw [bU _ _ hne]; exact hnone _ hn) (x9:=xs) (v0:=v0) (xV:=xV) (fd:=fd) (T1:=R.tags) (T2:=s.tags) (bad:=s.bad) (bD:=bD) (Cy:=Cy) ev0 hS ho1 ho2
          (fun t ht=>?_) (fun t ht=>cZ.2 (.inr ht)) (fun t ht=>cZ.2 (.inl ht)) Vs (fun b hb=>an2 _ (hp0.mem_iff.2 hb)) (hp0.nodup g4.nd)
          (fun b hb=>⟨anZ _ (f3 b hb).1,fun hb'=>ac9 b (hp0.mem_iff.2 hb') (f3 b hb).1⟩) f2 f1 (fun i hi=>bz (fun _ _=>rfl) (fun b hb=>?_) (fun _ _=>rfl) (f4 i hi)) hb _
         ·rcases cZ.1 ht with h | h
          ·exact g3.tag (hwt t h)
          ·exact g4.wt t h
         ·rcases hb with ⟨hb,hbt⟩ | hb
          ·refine .inl ⟨?_,hbt⟩
           by_cases hbf:b∈fP
           ·exact .inr (an2 _ hbf)
           ·refine .inl ⟨hb.1,fun h=>?_,hb.2.2.1,fun q Q hq hbq=>?_,hb.2.2.2.2⟩
            ·rcases an6.1 h with h | h
             ·exact hbf h
             ·exact hb.2.1 h
            ·rcases jw hq with ⟨rfl,rfl,_⟩ | ⟨eq,hq'⟩
             ·refine hb.2.2.2.1 q R hr1 ?_
              rw [eG,oH (show (dZ R dd z).kind=R.kind from rfl)] at hbq
              rw [bW]
              rw [fu] at hbq ⊢
              exact hbq.imp id (fun h=>g6.mem_iff.2 (anZ _ h))
             ·rw [(iw (α:=dK) (σ:=aB s.ws σ) (R:=dZ R dd z) eq).blk] at hbq
              exact hb.2.2.2.1 q Q hq' hbq
          ·exact .inr hb
    ·exact h.elim
   | ref r g=>
    obtain ⟨R,hr,hv,h⟩:=cB h
    rcases aA h with ⟨hc,h⟩ | ⟨_,h⟩
    ·simp only [an3] at hc
     obtain ⟨⟨⟨⟨⟨c1,c4⟩,c5⟩,c6⟩,c7⟩,c8⟩:=hc
     cases hck:bP R.k (.sl e kk) R.x with
     | none=>rw [hck] at h; exact h.elim
     | some xs=>
      rw [hck] at h
      simp only at h
      obtain ⟨hb,h⟩:=h
      rw [aC h,bN]
      obtain ⟨ek,ey⟩:=bM hck
      have hSr:=hsame r (Qw c7)
      have hr1:=(hSr.live R).2 hr
      have hv1:bu (aB s.ws σ) R:=⟨hv.1,by rw [fD (fun t ht=>(hsame t.1 (GI c8 t ht)).root)]; exact hv.2⟩
      obtain ⟨hkind,ac0⟩:=hx R hr (an1 c1)
      have K1:=H1.roots r R hr1
      have aar:=H1.dz r R hr1.1
      have hfr:blk dK R r=dK.fo r:=by simp [blk,dU,hkind]
      have Ig:∀b∈dK.fo r,b∉F1:=fun b hb=>H1.iX r R hr1 b (by rw [hfr]; exact hb)
      have hVk:VC (.sl e kk) (a.eval x) (dK.hdr r):=by rw [hSr.hdr]; exact ek▸ac0
      have hO0:Ow (hp w) R.own (iQ cx (aB s.ws σ) dK F1 w R.tags) (.sl e kk) xs [a.eval x] (dK.fo r):=by
       have:=ze (y:=xs) ek ey (K1.ow hv1)
       rw [hVk.1] at this
       exact this
      have ho1:az e (bF R.own s.bad)=true:=dD.2 ⟨c5,aV.1 hbad⟩
      have ho2:∀t,az t (bF R.own s.bad)=true→t∉s.bad:=fun t ht=>(dD.1 ht).2
      have hnd:(dK.fo r).Nodup:=by rw [←hfr]; exact K1.nd
      obtain ⟨xV,fd,hp0,Vs⟩:=vk (own':=bF R.own s.bad) (fun t _ hm=>(dD.1 hm).1) hO0
      obtain ⟨bD,Cy,f1,f2,f3,f4⟩:=hels (bF R.own s.bad) (fun t _ ht=>ho2 t ht)
      have Kh:∀b∈xV,b∈dK.fo r:=fun b hb=>hp0.mem_iff.2 (an2 _ hb)
      have hfd0:∀b∈fd,b∈dK.fo r:=fun b hb=>hp0.mem_iff.2 (anZ _ hb)
      have n0:=an4.1 (hp0.nodup hnd)
      have n1:=an4.1 f2
      have hlt:∀b∈dK.fo r,b<w.heap.size:=fun b hb=>(K1.mine b (by rw [hfr]; exact hb)).1
      have adf:∀b∈F1,b<w.heap.size:=fun b hb=>(H1.fl b hb).1
      have adq:=uu Vs
      have hnot:∀b,(∃t∈s.bad,vU (hp w) b t)→b∉xV:=by
       rintro b ⟨t,h1,h2⟩ hb0
       obtain ⟨e',_,h3,h4⟩:=adq b hb0
       have h2:=H1.Tt (K1.mine b (by rw [hfr]; exact Kh b hb0)) h2
       rw [h2] at h4
       simp only [anX] at h4
       subst h4
       exact ho2 _ h3 h1
      let ok:Nat→Prop:=fun b=>(iQ cx (aB s.ws σ) dK F1 w R.tags b∨b∈fd)∨(iQ cx (aB s.ws σ) dK F1 w s.tags b∧∃t∈s.bad,vU (hp w) b t)∨b∈Cy
      have hRr:∀b,iQ cx (aB s.ws σ) dK F1 w R.tags b→b∉dK.fo r:=by
       intro b hb hbr
       obtain ⟨n,hn⟩:=hb.2.2.2.1 r R hr1 (by rw [hfr]; exact hbr)
       exact aar.2.2 n hn
      obtain ⟨v',w',dH,hrun,hos,hsz,Ke,hfo,Oc,Kb⟩:=Mo (w:=w) (ok:=ok) (u:=ut) (ty:=o.type) (x:=a.eval y) (bD:=bD) ht (bz (fun _ _=>rfl) (fun b h=>.inl h) (fun _ _=>rfl) Vs) ho1
       (an4.2 ⟨n0.1,n1.1,fun b1 h1 b2 h2 e=>Ig b1 (Kh b1 h1) (e▸(f3 b2 (an2 _ h2)).1)⟩)
       (fun b hb=>by
        rcases hb with (h | h) | h | h
        ·exact ⟨fun h0=>hRr b h (Kh b h0),h.1⟩
        ·exact ⟨fun h0=>n0.2.2 b h0 b h rfl,hlt b (hfd0 b h)⟩
        ·exact ⟨hnot b h.2,h.1.1⟩
        ·exact ⟨fun h0=>Ig b (Kh b h0) (f3 b (anZ _ h)).1,adf b (f3 b (anZ _ h)).1⟩)
       (fun b hb=>by
        rcases an6.1 hb with h | h
        ·exact hlt b (Kh b h)
        ·exact adf b (f3 b (an2 _ h)).1)
       hS f1 (fun i hi=>bz (fun _ _=>rfl) (fun b h=>.inr h) (fun _ _=>rfl) (f4 i hi)) hb
      have FZ:VC (.sl e kk) v' [v']:=⟨rfl,by
       have h5:=Kb
       unfold Ow at h5
       rw [if_pos ho1] at h5
       obtain ⟨b,n,c,e1,_⟩:=h5
       simp only [List.cons.injEq,and_true] at e1
       rw [e1]; simp⟩
      have agz:∀b,ok b→b∉dH∧b<w.heap.size:=by
       intro b hb
       have hlt':b<w.heap.size:=by
        rcases hb with (h | h) | h | h
        ·exact h.1
        ·exact hlt b (hfd0 b h)
        ·exact h.1.1
        ·exact adf b (f3 b (anZ _ h)).1
       refine ⟨fun hbf=>?_,hlt'⟩
       rcases hfo b hbf with h2 | h2 | h2
       ·rcases hb with (h | h) | h | h
        ·exact hRr b h (Kh b h2)
        ·exact n0.2.2 b h2 b h rfl
        ·exact hnot b h.2 h2
        ·exact Ig b (Kh b h2) (f3 b (anZ _ h)).1
       ·have hF:=(f3 b (an2 _ h2)).1
        rcases hb with (h | h) | h | h
        ·exact h.2.1 hF
        ·exact Ig b (hfd0 b h) hF
        ·exact h.1.2.1 hF
        ·exact n1.2.2 b h2 b h rfl
       ·omega
      have hnext:∀(j:Nat) (n:Nat),(pV j,n)∈s.tags→(pV j,n)∈iO (xq r s.tags) R.tags:=by
       intro j n hj
       refine cZ.2 (.inl (pK.2 ⟨hj,fun e=>?_⟩))
       have:=aar.2.1
       rw [←e] at this
       simp only at this
       rw [iN] at this
       simp at this
      obtain ⟨k1,k2⟩:=ag7 (R':={ R with k:=.sl e kk,x:=xs++s.xs,own:=bF R.own s.bad,tags:=iO (xq r s.tags) R.tags,w:=e :: R.w,h:=qz :: e :: R.h,g:=R.g+1,keep:=R.keep || s.keep })
       (v':=v') (hdr':=[v']) (dH:=dH) (w':=w') H1 hr1 hv1 hkind hkind rfl rfl rfl ⟨rfl,rfl⟩ ⟨fun t ht=>(cZ.1 ht).elim (fun h=>hwt t (pK.1 h).1) (aar.1 t),fun n hn=>(cZ.1 hn).elim (fun h=>(pK.1 h).2 rfl) (aar.2.2 n)⟩
       hos hsz (fun b h1 h2=>.inr ⟨Kh b (Ke b h1 h2).1,(Ke b h1 h2).2⟩) (fun b hb=>by
        rcases hfo b hb with h | h | h
        ·exact .inl (Kh b h)
        ·exact .inr (.inl (f3 b (an2 _ h)).1)
        ·exact .inr (.inr h)) Oc rfl
       (bz (k:=.sl e kk) (fun _ _=>rfl) (fun b hb=>by
        obtain ⟨z1,z2⟩:=agz b hb
        refine ⟨Nat.lt_of_lt_of_le z2 hsz,by simp, ?_,fun q Q hq hbq=>?_,fun h0=>?_⟩
        ·rcases hb with (h | h) | h | h
         ·exact h.2.2.1
         ·exact oJ H1 hr1 (hfd0 b h)
         ·exact h.1.2.2.1
         ·exact sO H1 (f3 b (anZ _ h)).1
        ·rcases jw hq with ⟨rfl,rfl,_⟩ | ⟨eq,hq'⟩
         ·rw [eG] at hbq
          have hbq:b∈dH:=by simpa [iE,hkind] using hbq
          exact absurd hbq z1
         ·rw [(iw (α:=dK) (σ:=aB s.ws σ) (R:={ R with k:=.sl e kk,x:=xs++s.xs,own:=bF R.own s.bad,tags:=iO (xq r s.tags) R.tags,w:=e :: R.w,h:=qz :: e :: R.h,g:=R.g+1,keep:=R.keep || s.keep }) eq).blk] at hbq
          rcases hb with (h | h) | h | h
          ·exact (h.2.2.2.1 q Q hq' hbq).imp fun n hn=>cZ.2 (.inr hn)
          ·exact absurd hbq (H1.IK r R q Q hr1 hq' (Ne.symm eq) b (by rw [hfr]; exact hfd0 b h))
          ·exact (h.1.2.2.2.1 q Q hq' hbq).imp fun n hn=>cZ.2 (.inl (pK.2 ⟨hn,eq⟩))
          ·exact absurd (f3 b (anZ _ h)).1 (H1.iX q Q hq' b hbq)
        ·have jJ:Ow.mine cx w b→(∃j n,(pV j,n)∈iO (xq r s.tags) R.tags∧cx.ext j b)∨∃j pi,cx.par j=some pi∧b∈pi.bl:=fun hm=>by
          rcases hm.2 with h | ⟨j,pi,h1,h2⟩
          ·omega
          ·exact .inr ⟨j,pi,h1,h2⟩
         rcases hb with (h | h) | h | h
         ·exact (h.2.2.2.2 h0).imp (fun ⟨j,n,h1,h2⟩=>⟨j,n,cZ.2 (.inr h1),h2⟩) id
         ·exact jJ (K1.mine b (by rw [hfr]; exact hfd0 b h))
         ·exact (h.1.2.2.2.2 h0).imp (fun ⟨j,n,h1,h2⟩=>⟨j,n,hnext j n h1,h2⟩) id
         ·exact jJ (H1.fl b (f3 b (anZ _ h)).1)) (fun _ _=>rfl) Kb) FZ
      exact iW (x:=.one (.ref r (R.g+1))) k1 hd hdn (mO ho hcb ha ht0 hu0 hrun) k2 ⟨_,aI .., .inr (aod _)⟩
    ·exact h.elim
   | val _ _ _=>exact h.elim
   | undef=>exact h.elim
   | ptr _ _ _=>exact h.elim
   | jg _ _ _ _=>exact h.elim
   | JK _ _ _ _=>exact h.elim
   | Av _=>exact h.elim
   | part _ _ _ _ _=>exact h.elim
   | xY _ _ _ _=>exact h.elim
   | app _ _ _ _=>exact h.elim
   | su=>exact h.elim
   | fn _ _=>exact h.elim
  | _=>exact h.elim
end
end
section
open Go
variable [Fr]
section
variable {P:Program} {T:iV} {cx:Cx} {σ:St} {α:dL} {F:List Nat} {a:Act} {w:World} {o:Oper} {d:Nat} {ws:List Wr}
def pG (kk:K):List (Nat×iD)→vP kk→Option (vP kk)
 | [],b=>some b
 | (n,tk) :: l,b=>match bP tk.k kk tk.x with
  | some y=>bif Nat.beq n (gJ b.xs) then pG kk l { xs:=b.xs++[y],bad:=tk.bad++b.bad,tags:=iO (tk.gN) b.tags,ws:=b.ws++tk.ws,keep:=tk.keep || b.keep,all:=tk.tags++b.all } else none
  | none=>none
theorem R9 {A:Type} {z:A} (H:Rel cx σ α F a w) {kk:K} {k:vP kk→Prog A}:∀{l:List (Nat×AV)} {vs:List Value} {b:vP kk},dR cx σ α F w (l.map (·.2)) vs→(∀v∈l,rR σ v.2)→(JS kk l b k).ends σ z→
  ∃(tks:List iD) (b':vP kk),tks.length=l.length∧vs.length=l.length∧(∀it∈vs.zip tks,xm cx σ α F w it.1 it.2)∧pG kk ((l.map (·.1)).zip tks) b=some b'∧(k b').ends σ z:=by
 intro l
 induction l with
 | nil=>
  intro vs b h1 _ h
  cases vs with
  | nil=>exact ⟨[],b,rfl,rfl,by simp,rfl,h⟩
  | cons v vs=>exact h1.elim
 | cons p l ih=>
  obtain ⟨n,x⟩:=p
  intro vs b h1 h2 h
  cases vs with
  | nil=>exact h1.elim
  | cons v vs=>
   simp only [JS] at h
   obtain ⟨tk,htk,h5⟩:=qO H h1.1 (h2 (n,x) (by simp)) h
   cases hc:bP tk.k kk tk.x with
   | none=>rw [hc] at h5; exact h5.elim
   | some y=>
    rw [hc] at h5
    simp only at h5
    rcases aA h5 with ⟨hn,h6⟩ | ⟨_,h6⟩
    ·obtain ⟨tks,b',g1,g2,g3,g4,g5⟩:=ih h1.2 (fun v hv=>h2 v (by simp [hv])) h6
     refine ⟨tk :: tks,b',by simp [g1],by simp [g2], ?_, ?_,g5⟩
     ·intro it hit
      rw [List.zip_cons_cons] at hit
      rcases an9.1 hit with h | h
      ·subst h; exact htk
      ·exact g3 it h
     ·rw [List.map_cons,List.zip_cons_cons]
      unfold pG
      simp only [hc,hn,cond_true]
      exact g4
    ·exact h6.elim
theorem Ic {kk:K}:∀(l:List (Nat×iD)) {b b':vP kk},pG kk l b=some b'→
  b'.ws=b.ws++l.flatMap (fun p=>p.2.ws)∧(∀p∈l,∀t∈p.2.tags,t∈b'.all)∧(∀p∈l,∀t∈p.2.bad,t∈b'.bad)∧(∀t∈b.bad,t∈b'.bad)∧
  (∀p∈l,∀t∈p.2.gN,t∈b'.tags)∧(∀t∈b.tags,t∈b'.tags)∧(∀t∈b'.tags,t∈b.tags∨∃p∈l,t∈p.2.gN)∧(∀t∈b.all,t∈b'.all)∧b'.xs.length=b.xs.length+l.length:=by
 intro l
 induction l with
 | nil=>
  intro b b' h
  simp only [pG,anX] at h
  subst h
  simp
 | cons p l ih=>
  obtain ⟨n,tk⟩:=p
  intro b b' h
  unfold pG at h
  cases hc:bP tk.k kk tk.x with
  | none=>rw [hc] at h; simp at h
  | some y=>
   rw [hc] at h
   simp only at h
   cases hn:Nat.beq n (gJ b.xs) with
   | false=>rw [hn] at h; simp at h
   | true=>
    rw [hn] at h
    simp only [cond_true] at h
    obtain ⟨g1,g2,g3,g4,g5,g6,g7,g8,g9⟩:=ih h
    refine ⟨by rw [g1]; simp, ?_, ?_,fun t ht=>g4 t (by simp [ht]), ?_,fun t ht=>g6 t (cZ.2 (.inr ht)), ?_,fun t ht=>g8 t (by simp [ht]),by rw [g9]; simp; omega⟩
    ·intro p hp t ht
     rcases an9.1 hp with h | h
     ·subst h; exact g8 t (by simp [ht])
     ·exact g2 p h t ht
    ·intro p hp t ht
     rcases an9.1 hp with h | h
     ·subst h; exact g4 t (by simp [ht])
     ·exact g3 p h t ht
    ·intro p hp t ht
     rcases an9.1 hp with h | h
     ·subst h; exact g6 t (cZ.2 (.inl ht))
     ·exact g5 p h t ht
    ·intro t ht
     rcases g7 t ht with h | ⟨p,h1,h2⟩
     ·rcases cZ.1 h with h | h
      ·exact .inr ⟨(n,tk),by simp,h⟩
      ·exact .inl h
     ·exact .inr ⟨p,by simp [h1],h2⟩
theorem R7 {h:Heap} {own:List TypeId} {ok:Nat→Prop} {kk:K} {N:Nat} :
  ∀(l:List (Nat×iD)) {vs:List Value} {zH:List (List Nat)} {b b':vP kk} {cells:Array Value} {bD:List (List Nat)},b.xs.length+l.length≤N→cells.size=N * kk.size→bD.length=b.xs.length→
   (∀i (hi:i<b.xs.length),Ow h own ok kk b.xs[i] (nC cells.toList kk.size i) (bD.getD i []))→xk h own ok l vs zH→pG kk l b=some b'→
   ∃cells',Instr.fill (fun i=>some (i * kk.size,kk.size)) cells ((l.map (·.1)).zip vs)=some cells'∧cells'.size=N * kk.size∧(bD++zH).length=b'.xs.length∧
    ∀i (hi:i<b'.xs.length),Ow h own ok kk b'.xs[i] (nC cells'.toList kk.size i) ((bD++zH).getD i []):=by
 intro l
 induction l with
 | nil=>
  intro vs zH b b' cells bD hN hs hf hO hP hb
  cases vs with
  | nil=>
   cases zH with
   | nil=>
    simp only [pG,anX] at hb
    subst hb
    exact ⟨cells,rfl,hs,by simpa using hf,by simpa using hO⟩
   | cons f fs=>exact hP.elim
  | cons v vs=>cases zH <;> exact hP.elim
 | cons p l ih=>
  obtain ⟨n,tk⟩:=p
  intro vs zH b b' cells bD hN hs hf hO hP hb
  cases vs with
  | nil=>cases zH <;> exact hP.elim
  | cons v vs=>
   cases zH with
   | nil=>exact hP.elim
   | cons ft zH=>
    obtain ⟨⟨cst,hv,hOt⟩,hP'⟩:=hP
    unfold pG at hb
    cases hc:bP tk.k kk tk.x with
    | none=>rw [hc] at hb; simp at hb
    | some y=>
     rw [hc] at hb
     simp only at hb
     cases hn:Nat.beq n (gJ b.xs) with
     | false=>rw [hn] at hb; simp at hb
     | true=>
      rw [hn] at hb
      simp only [cond_true] at hb
      have en:n=b.xs.length:=by rw [an1 hn,pJ]
      subst en
      obtain ⟨ek,ey⟩:=bM hc
      have hOy:Ow h own ok kk y cst ft:=ze ek ey hOt
      have hcl:cst.length=kk.size:=dh hOy
      have En:v.cells=cst.toArray:=by
       have:=hv.cells
       apply Array.ext'
       simpa using this
      simp only [aok] at hN
      have hle:(b.xs.length+1) * kk.size≤N * kk.size:=aos _ (by omega)
      rw [Nat.add_mul,Nat.one_mul] at hle
      have hoff:b.xs.length * kk.size+cst.length≤cells.size:=by rw [hs,hcl]; exact hle
      rw [List.map_cons,List.zip_cons_cons,FX (place:=fun i=>some (i * kk.size,kk.size)) (off:=b.xs.length * kk.size) (vs:=cst) (by simp [hcl]) En hoff]
      have hsz:(cells.toList.take (b.xs.length * kk.size)++(cst++cells.toList.drop (b.xs.length * kk.size+cst.length))).toArray.size=N * kk.size:=by
       simp
       omega
      obtain ⟨cells',g1,g2,g3,g4⟩:=ih (bD:=bD++[ft]) (b:={ xs:=b.xs++[y],bad:=tk.bad++b.bad,tags:=iO (tk.gN) b.tags,ws:=b.ws++tk.ws,keep:=tk.keep || b.keep,all:=tk.tags++b.all }) (by simp; omega) hsz (by simp [hf]) (by
       intro i hi
       simp only [an5,aok,List.length_nil,Nat.zero_add] at hi
       rw [Ei]
       by_cases h0:i<b.xs.length
       ·rw [if_pos (by rw [hf]; exact h0)]
        have e1:(b.xs++[y])[i]'(by simp; omega)=b.xs[i]:=List.getElem_append_left h0
        show Ow h own ok kk ((b.xs++[y])[i]'(by simp; omega)) _ _
        rw [e1]
        have e2:nC (cells.toList.take (b.xs.length * kk.size)++(cst++cells.toList.drop (b.xs.length * kk.size+cst.length))) kk.size i=nC cells.toList kk.size i:=by
         have hl2:(i+1) * kk.size≤b.xs.length * kk.size:=aos _ (by omega)
         rw [Nat.add_mul,Nat.one_mul] at hl2
         apply List.ext_getElem?
         intro j
         by_cases hj:j<kk.size
         ·rw [lW hj,lW hj,List.getElem?_append_left (by simp; omega),List.getElem?_take_of_lt (by omega)]
         ·unfold nC
          rw [List.getElem?_eq_none (by simp; omega),List.getElem?_eq_none (by simp; omega)]
        simp only
        rw [e2]
        exact hO i h0
       ·have:i=b.xs.length:=by omega
        subst this
        rw [if_neg (by omega),hf,Nat.sub_self]
        have e1:(b.xs++[y])[b.xs.length]'(by simp)=y:=by simp
        show Ow h own ok kk ((b.xs++[y])[b.xs.length]'(by simp)) _ _
        rw [e1]
        have e2:nC (cells.toList.take (b.xs.length * kk.size)++(cst++cells.toList.drop (b.xs.length * kk.size+cst.length))) kk.size b.xs.length=cst:=by
         have hl:(cells.toList.take (b.xs.length * kk.size)).length=b.xs.length * kk.size:=by simp; omega
         unfold nC
         conv=>lhs; arg 2; arg 1; rw [←hl]
         rw [List.drop_left, ←hcl,List.take_left]
        simp only
        rw [e2]
        exact hOy) hP' hb
      refine ⟨cells',g1,g2, ?_, ?_⟩
      ·rw [←g3]; simp
      ·intro i hi
       have:=g4 i hi
       simp only [aoi,List.cons_append,List.nil_append] at this
       exact this
end
end
section
open Go
variable [Fr]
section
variable {P:Program} {T:iV} {cx:Cx} {σ:St} {α:dL} {F:List Nat} {a:Act} {w:World} {o:Oper} {d:Nat} {ws:List Wr}
def y5 (z:Array Value) (n:Nat):Array Value:=(Array.range n).map (z[· % z.size]!)
theorem run_buildSlice {t e:TypeId} {kk:K} (ht:fK P T t (.sl e kk)) {len:Nat} {parts:Array (Nat×Value)} {cells:Array Value} (hb:len * kk.size≤16777216)
    (hf:Instr.fill (fun i=>some (i * kk.size,kk.size)) (y5 (bK kk).toArray (len * kk.size)) parts.toList=some cells) :
    (Instr.buildSlice t len parts).run P w=.ok (.slice (some ⟨w.heap.size,0,none⟩) len len) (w.alloc (.cells cells e)):=by
  obtain ⟨hu,he,hk,_⟩:=ht.sl
  have hzc:=wQ he.shape
  unfold Instr.buildSlice
  have h1:¬(len * kk.size>2 ^ 24):=by omega
  by_cases h0:len * kk.size=0
  · have hf':Instr.fill (fun i=>some (i * kk.size,kk.size)) #[] parts.toList=some cells:=by
      have e:y5 (bK kk).toArray (len * kk.size)=#[]:=by
        apply Array.eq_empty_of_size_eq_zero
        simp [y5,h0]
      rw [e] at hf
      exact hf
    have hr0:∀f:Nat→Value,Array.map f (Array.range 0)=#[]:=fun f=>by apply Array.eq_empty_of_size_eq_zero; simp
    simp [run_underlying hu,he.info.sizeOf w,Result.andThen,h0,hr0,hf',newRow]
  · have hf':Instr.fill (fun i=>some (i * kk.size,kk.size)) ((Array.range (len * kk.size)).map fun x=>(bK kk).toArray[x % (bK kk).toArray.size]!) parts.toList=some cells:=hf
    simp only [aom,run_underlying hu,aof,he.info.sizeOf w]
    rw [if_neg h1,if_neg h0]
    simp only [aom,aor,aof,he.info.zero w,hzc,hf']
    simp [newRow,Result.andThen]
theorem Q6 {kk:K} {len i:Nat} (hk:0<kk.size) (hz:(bK kk).length=kk.size) (hi:i<len):nC (y5 (bK kk).toArray (len * kk.size)).toList kk.size i=bK kk:=by
  have hle:(i+1) * kk.size≤len * kk.size:=aos _ (by omega)
  rw [Nat.add_mul,Nat.one_mul] at hle
  apply List.ext_getElem?
  intro j
  by_cases hj:j<kk.size
  · rw [lW hj,Array.getElem?_toList]
    unfold y5
    rw [Array.getElem?_map]
    have hlt:i * kk.size+j<len * kk.size:=by omega
    rw [Array.getElem?_range,if_pos hlt]
    simp only [Option.map_some,List.size_toArray,hz]
    have hm:(i * kk.size+j) % kk.size=j:=by
      rw [Nat.mul_comm,Nat.mul_add_mod]
      exact Nat.mod_eq_of_lt hj
    rw [hm,getElem!_pos _ _ (by simp; omega)]
    simp [show j<(bK kk).length by omega]
  · rw [List.getElem?_eq_none (by rw [sw (m:=len) (by simp [y5]) hi]; omega),List.getElem?_eq_none (by omega)]
theorem JN {L:K→List TypeId} (hT:eF P T) (H:Rel cx σ α F a w) (hd:o.dst=some d) (hdn:d<cx.nt) {t:TypeId} {len:Nat} {ps:Array (Nat×Operand)}
    (h:(match T.ty t with
      | some (.sl e kk)=>Cw ps.toList fun l=>JS kk l ⟨[],[],[],[],false,[]⟩ fun b=>bif !(E9 b.ws b.all && Nat.ble (len * kk.size) 16777216) then .fail else bif Nat.beq (gJ b.xs) len && !az e b.bad then
          iL (aZ d 0) (.ret (b.ws++[Wr.r (aZ d 0) (some (aL (.sl e kk) b.xs (e :: bF (L kk) b.bad) b.tags .anon b.keep)),Wr.s d (.one (.ref (aZ d 0) 0))]))
        else bif Nat.beq (gJ b.xs) 0 then
          iL (aZ d 0) (.ret [Wr.r (aZ d 0) (some (aL (.sl e kk) (List.replicate len kk.zero) (e :: kk.tys) [] .anon)),Wr.s d (.one (.ref (aZ d 0) 0))])
        else .fail
      | _=>(.fail:Prog (List Wr))).ends σ ws) (ho:o.op=.buildSlice t len ps):qU P cx o a w (aB ws σ):=by
  cases hty:T.ty t with
  | none=>rw [hty] at h; exact h.elim
  | some k0=>
    rw [hty] at h
    cases k0 with
    | sl e kk=>
      have ht:=hT.ty t _ hty
      obtain ⟨hu,he,hk,_⟩:=ht.sl
      simp only at h
      obtain ⟨vs,e1,h1,h2,h3⟩:=FW H h
      obtain ⟨tks,b',l1,l2,TS,GV,h4⟩:=R9 H h1 h2 h3
      have hlen:vs.length=tks.length:=l1.symm
      have Kj:(vs.map (·.1)).length=tks.length:=by rw [List.length_map]; exact hlen
      have Kn:((evs a ps.toList).map (·.2)).length=tks.length:=by rw [l2]; exact hlen
      generalize hns:vs.map (·.1)=ns at *
      generalize hvv:(evs a ps.toList).map (·.2)=vals at *
      obtain ⟨z1,z2,z3,z4⟩:=Gx ns vals tks Kj Kn
      obtain ⟨f1,f2,f4,_,f6,_,f8,_,f9⟩:=Ic _ GV
      simp only [List.nil_append] at f1
      have f9':b'.xs.length=tks.length:=by rw [f9]; simp; omega
      have hzO:∀h ok own,Ow h own ok kk kk.zero (bK kk) []:=fun h ok own=>yZ he.eX
      have hzl:(bK kk).length=kk.size:=dh (hzO (hp w) (fun _=>True) [])
      have hzs:(y5 (bK kk).toArray (len * kk.size)).size=len * kk.size:=by simp [y5]
      have hparts:((ps.map fun (p:Nat×Operand)=>(p.1,a.eval p.2)).toList)=ns.zip vals:=by
        rw [Array.toList_map, ←hvv,e1]
        have:∀l:List (Nat×Operand),l.map (fun p=>(p.1,a.eval p.2))=(l.map (·.1)).zip ((evs a l).map (·.2)):=by
          intro l
          induction l with
          | nil=>rfl
          | cons p l ih=>simp [evs] at ih ⊢; exact ih
        exact this _
      have abm:∀{cells:Array Value},len * kk.size≤16777216→Instr.fill (fun i=>some (i * kk.size,kk.size)) (y5 (bK kk).toArray (len * kk.size)) (ns.zip vals)=some cells→
          (execOp a.eval o).run P w=.ok (.value (.slice (some ⟨w.heap.size,0,none⟩) len len)) (w.alloc (.cells cells e)):=by
        intro cells hb hf
        have:=run_buildSlice (w:=w) ht (parts:=ps.map fun (p:Nat×Operand)=>(p.1,a.eval p.2)) hb (by rw [hparts]; exact hf)
        simp only [execOp,ho,aom,this,aof,aor]
      rcases aA h4 with ⟨_,h5⟩ | ⟨hws,h5⟩
      · exact h5.elim
      · have CX:(E9 b'.ws b'.all && Nat.ble (len * kk.size) 16777216)=true:=by simpa using hws
        rw [an3] at CX
        have agc:len * kk.size≤16777216:=Nat.le_of_ble_eq_true CX.2
        have VG:=CX.1
        unfold E9 at VG
        simp only [an3] at VG
        have hw1:=vT.1 VG.1
        have hw2:=zl.1 VG.2
        rw [f1, ←z4] at hw1 hw2
        rcases aA h5 with ⟨hc,h6⟩ | ⟨_,h6⟩
        · rw [an3] at hc
          have hxl:b'.xs.length=len:=by rw [←pJ]; exact an1 hc.1
          have hbad:e∉b'.bad:=by have:=hc.2; simp only [Bool.not_eq_true',aV] at this; exact this
          obtain ⟨g1,g2⟩:=fQ h6
          rw [aC g2]
          obtain ⟨α',F',hs,H',hA,hnd,hnF,hFF,hS,_⟩:=takes (vals.zip tks) H TS hw1 (fun tg uC=>hw2 tg (by
            obtain ⟨it,hit,h6⟩:=aoy.1 uC
            have:it∈(ns.zip (vals.zip tks)).map (·.2):=by rw [z1]; exact hit
            obtain ⟨q,hq,rfl⟩:=aox.1 this
            exact f2 (q.1,q.2.2) (by rw [←z2]; exact aox.2 ⟨q,hq,rfl⟩) tg h6))
          have hA0:=hA
          rw [←z1] at hA
          have ho2:∀t,az t (e :: bF (L kk) b'.bad)=true→t∉b'.bad:=fun t ht=>by
            rcases an9.1 (aM.1 ht) with h | h
            · rw [h]; exact hbad
            · exact (dD.1 (aM.2 h)).2
          obtain ⟨zH,A7,p1,p2⟩:=xX (own':=e :: bF (L kk) b'.bad) (T:=b'.tags) (ns.zip (vals.zip tks)) hA
            (fun it hit tg uC=>by
              cases hm:az tg (e :: bF (L kk) b'.bad) with
              | false=>rfl
              | true=>exact absurd (f4 (it.1,it.2.2) (by rw [←z2]; exact aox.2 ⟨it,hit,rfl⟩) tg uC) (ho2 tg hm))
            (fun it hit tg uC=>f6 (it.1,it.2.2) (by rw [←z2]; exact aox.2 ⟨it,hit,rfl⟩) tg uC)
          rw [z2,z3,z1] at p2
          have hzn:(ns.zip tks).map (·.1)=ns:=by rw [List.map_fst_zip (by omega)]
          obtain ⟨cells',c1,c2,c3,c4⟩:=R7 (N:=len) (ns.zip tks) (b:=⟨[],[],[],[],false,[]⟩) (cells:=y5 (bK kk).toArray (len * kk.size)) (bD:=[]) (by simp; omega) hzs rfl (fun i hi=>by simp at hi) p2 GV
          rw [hzn] at c1
          simp only [List.nil_append] at c3 c4
          have hrun:=abm agc c1
          have qR:=p1.nodup hnd
          have n2:=an4.1 qR
          have hin:∀b∈hs.flatMap (·.2),b∈F':=xx hA0
          have hwt:eZ (aB (uJ (vals.zip tks)) σ) b'.tags:=by
            intro tg uC
            rcases f8 tg uC with h | ⟨q,hq,hq2⟩
            · simp at h
            · rw [←z2] at hq
              obtain ⟨it,hit,rfl⟩:=aox.1 hq
              have hit2:it.2∈vals.zip tks:=by rw [←z1]; exact aox.2 ⟨it,hit,rfl⟩
              exact Cf (zI hA0 it.2 hit2) tg hq2
          have hnr:=Dt g1 TS
          have hn1:(aB (uJ (vals.zip tks)) σ).roots (aZ d 0)=none:=by rw [(hS _ hnr).root]; exact g1
          have VH:b'.ws=uJ (vals.zip tks):=by rw [f1,z4]
          obtain ⟨Dy,F2,k1,k2⟩:=Us (r:=aZ d 0) (e:=e) (k:=kk) (xs:=b'.xs) (own:=e :: bF (L kk) b'.bad) (tags:=b'.tags) (arr:=cells') (lo:=0) (hi:=0) (n:=len) (c:=len) (bD:=zH) (F1:=F'.filter fun b=>!az b (zH.flatten++A7)) H' hn1 (fB d 0)
            hwt (aM.2 (by simp)) (fun i hi=>by omega) hxl.symm (aod _) (by rw [c2]; exact aod _) c3 (fun b hb=>hin b (p1.mem_iff.2 (by simp [hb]))) n2.1
            (fun b hb=>by
              rw [aoe] at hb
              have:=hb.2
              simp only [Bool.not_eq_true',aV,an6,not_or] at this
              exact ⟨hb.1,this.1⟩) (H'.zG.filter _)
            (fun i hi=>by
              have hsl:(nC cells'.toList kk.size i).length=kk.size:=sw (m:=len) (by rw [Array.length_toList,c2]) (by omega)
              refine ⟨_,hsl,fun j hj=>?_,bz (fun _ _=>rfl) (fun b hb=>?_) (fun _ _=>rfl) (c4 i hi)⟩
              · rw [hsl] at hj
                rw [lW hj,Array.getElem?_toList]
              · rcases hb with hb | hb
                · exact .inl hb
                · refine .inr ⟨hin b (p1.mem_iff.2 (by simp [hb])),fun h=>?_,fun h=>n2.2.2 b h b hb rfl⟩
                  rw [aoe] at h
                  have:=h.2
                  simp only [Bool.not_eq_true',aV,an6,not_or] at this
                  exact this.2 hb) b'.keep w.drawn
          rw [VH,bN]
          exact iW (x:=.one (.ref (aZ d 0) 0)) k1 hd hdn hrun k2 ⟨_,aI .., .inr (aov _)⟩
        · rcases aA h6 with ⟨hc,h7⟩ | ⟨_,h7⟩
          · obtain ⟨g1,g2⟩:=fQ h7
            rw [aC g2]
            have hxl:b'.xs.length=0:=by rw [←pJ]; exact an1 hc
            have ht0:tks=[]:=List.eq_nil_of_length_eq_zero (by omega)
            have hv0:vals=[]:=List.eq_nil_of_length_eq_zero (by rw [ht0] at Kn; simpa using Kn)
            have hrun:=abm (cells:=y5 (bK kk).toArray (len * kk.size)) agc (by rw [hv0]; simp [Instr.fill])
            obtain ⟨Dy,F2,k1,k2⟩:=OD (r:=aZ d 0) (e:=e) (k:=kk) (xs:=List.replicate len kk.zero) (own:=e :: kk.tys) (arr:=y5 (bK kk).toArray (len * kk.size)) (lo:=0) (hi:=0) (n:=len) (c:=len) H g1 (fB d 0)
              (aM.2 (by simp)) (fun i hi=>by omega) (by simp) (aod _) (by rw [hzs]; exact aod _)
              (fun i hi=>by
                have hi':i<len:=by simpa using hi
                refine ⟨bK kk,hzl,fun j hj=>?_,fun h ok=>?_⟩
                · have hs:=congrArg (fun l=>l[j]?) (Q6 hk hzl hi')
                  rw [lW (by omega),Array.getElem?_toList] at hs
                  exact hs
                · have:(List.replicate len kk.zero)[i]'hi=kk.zero:=by simp
                  rw [this]
                  exact hzO h ok _) false w.drawn
            exact iW (x:=.one (.ref (aZ d 0) 0)) k1 hd hdn hrun k2 ⟨_,aI .., .inr (aov _)⟩
          · exact h7.elim
    | _=>exact h.elim
end
section
variable {P:Program} {T:iV} {cx:Cx} {σ:St} {α:dL} {F:List Nat} {a:Act} {w:World} {o:Oper} {d:Nat} {ws:List Wr} {r:Nat} {R:Root}
abbrev jX (R:Root) (e:TypeId) (kk:K) (ys:List (El kk)):Root:={ R with k:=.sl e kk,x:=ys,w:=e :: R.w }
theorem Ut (H:Rel cx σ α F a w) (hr:aP σ r R) (hv:bu σ R) (hk:R.kind=.anon) {e:TypeId} {kk:K} {xs ys:List (El kk)} (hq:(⟨R.k,R.x⟩:Dat)=⟨.sl e kk,xs⟩) (hf:kk.flat=true) (hl:ys.length=xs.length) {w':World}
    (hos:w'.os=w.os∧w'.tape=w.tape∧w'.output=w.output) (hsize:w.heap.size≤w'.heap.size) (Q7:∀b,hp w' b≠hp w b→b∈α.fo r∧qQ (hp w) b=some e) (how:∀ok,Ow (hp w') R.own ok (.sl e kk) ys (α.hdr r) (α.fo r)) :
    Rel cx (au σ r (jX R e kk ys)) (aG α r (α.loc r) (α.hdr r) (α.fo r)) [] a w'∧
      ∀g v,g≤R.g→bI cx σ α F w (.ref r g) v→bI cx (au σ r (jX R e kk ys)) (aG α r (α.loc r) (α.hdr r) (α.fo r)) [] w' (.ref r g) v:=by
  have hblk:blk α R r=α.fo r:=by simp [blk,dU,hk]
  have hk':(jX R e kk ys).kind=.anon:=hk
  have hRk:R.k=.sl e kk:=congrArg (fun q:Dat=>q.1) hq
  have hd':(jX R e kk ys).aX=false:=by simp [Root.aX,hk]
  have K0:=H.roots r R hr
  have hnt:=H.dz r R hr.1
  have Cn:∀g v,g≤R.g→bI cx σ α F w (.ref r g) v→bI cx (au σ r (jX R e kk ys)) (aG α r (α.loc r) (α.hdr r) (α.fo r)) [] w' (.ref r g) v:=by
    intro g v _ hold Q hQ hg
    obtain ⟨rfl,_⟩:=eU hQ
    obtain ⟨h1,h2⟩:=hold R hr hg
    refine ⟨h1, ?_⟩
    simp only [aG,upd_same]
    rw [hRk] at h2
    exact h2
  have T1:AR cx σ α F w r R (jX R e kk ys) (α.fo r) [] w' [e] []:=by
    refine ⟨.inr ⟨rfl,rfl,aod _,rfl,fun h=>by rw [hk] at h; simp at h, .inl (by simp)⟩,⟨fun t ht=>hnt.1 t ht,fun n hn=>hnt.2.2 n hn⟩,hos,hsize,fun b hb hne=>?_,fun _ b hb=>?_,fun b hb=>by simp at hb,List.nodup_nil,fun _ b _ h=>by simp at h,fun j pi b o n hj hb hrj hne=>?_,fun _=>⟨rfl,rfl⟩⟩
    · obtain ⟨h1,h2⟩:=Q7 b hne
      exact .inr ⟨by rw [hblk]; exact h1, .inr (.inl ⟨e,by simp,h2⟩)⟩
    · rw [gY hk'] at hb
      rw [hblk]
      exact .inl hb
    · obtain ⟨Q,hQ,hkq,_,_⟩:=H.kI j pi b o n hj hb
      have hQR:Q=R:=by have:=hQ.1; rw [←hrj,hr.1] at this; simpa using this.symm
      rw [hQR,hk] at hkq
      simp at hkq
  refine ⟨T1.rel H hr (fun _=>⟨fun _=>how _,by rw [K0.len,hRk],fun b o hb=>by rw [yY hk'] at hb; simp at hb,by rw [gY hk', ←hblk]; exact K0.nd⟩) ?_ (fun _=>Cn),Cn⟩
  intro _ p n v hn hold
  refine ⟨hold.1,fun Q hQ hvQ hcl hty hs=>?_⟩
  rw [aI] at hQ
  simp only [anX] at hQ
  subst hQ
  cases p with
  | nil=>
    obtain ⟨_,cs,b,o,h1,_⟩:=hold.2 R hr.1 hv (by simp [clean,dY,az]) (fun t ht=>by simp [ah] at ht) rfl
    simp only [bG,anX,an8] at h1
    have:dU α R r=none:=by simp [dU,hk]
    rw [this] at h1
    simp at h1
  | cons s q=>
    have hcl':clean R.h n (dY (s :: q) R.k)=true:=by rw [hRk]; exact hcl
    obtain ⟨g1,cs,b,o,g2,g3⟩:=hold.2 R hr.1 hv hcl' (fun t ht=>hty t (by rw [hRk] at ht; exact ht)) (by
      have h9:(aS (s :: q) (.sl e kk) ys).isSome=true:=hs
      rw [qJ (s :: q) (y:=xs)] at h9
      have:=congrArg (fun d:Dat=>(aS (s :: q) d.1 d.2).isSome) hq
      exact this.trans h9)
    have g1:=cast (congrArg (fun d:Dat=>nk (s :: q) d.1 d.2) hq) g1
    simp only at g1
    cases s with
    | fO m=>exact g1.elim
    | idx i=>
      obtain ⟨p1,p2,p3⟩:=g1
      rw [hRk] at g2
      have hwn:dU α R r=none:=by simp [dU,hk]
      have alf:dU (aG α r (α.loc r) (α.hdr r) (α.fo r)) (jX R e kk ys) r=none:=by
        have hkk:(jX R e kk ys).kind=R.kind:=rfl
        unfold dU
        rw [hkk,hk]
      have hd2:(aG α r (α.loc r) (α.hdr r) (α.fo r)).hdr r=α.hdr r:=by simp [aG,upd_same]
      rw [alf,hd2]
      simp only [bG] at g2
      split at g2
      · rename_i ad m c hh
        obtain ⟨k1,c1,k2⟩:=vD (h':=hp w') (own:=[]) q (y:=(show List (El kk) from ys).getD i.toNat kk.zero) (cs':=qg (hp w') ad.block (ad.off+i.toNat * kk.size) kk.size) p3 (fun t ht=>by
          have:=oQ q t ht
          rw [vX hf] at this
          simp at this) g2
        refine ⟨⟨p1, ?_,k1⟩,c1,b,o, ?_,g3⟩
        · show i<((ys.length:Nat):Int)
          have:i<((xs.length:Nat):Int):=p2
          omega
        · show bG (hp w') (.idx i :: q) (.sl e kk) (α.hdr r) none=_
          rw [hh]
          simp only [bG]
          exact k2
      · simp at g2
theorem acF {own:List TypeId} {ok:Nat→Prop} {e:TypeId} {kk:K} {xs zs:List (El kk)} {b q n c s:Nat} {fo:List Nat} {news:List Value} (hf:kk.flat=true) (he:az e own=true) (hs:s+zs.length≤xs.length) (hz:0<zs.length) (hkk:0<kk.size)
    (H:Ow (hp w) own ok (.sl e kk) xs [.slice (some ⟨b,q,none⟩) n c] fo) (hnl:news.length=zs.length * kk.size) (hel:∀i (hi:i<zs.length),Vw (hp w) (fun _=>True) kk zs[i] (nC news kk.size i)) (h1:∀v∈news,v.oneCell'=true) :
    (storeCells ⟨b,q+s * kk.size,none⟩ news).run P w=.ok () (w.setCells b (q+s * kk.size) news)∧b∈fo∧qQ (hp w) b=some e∧(∀b',b'≠b→hp (w.setCells b (q+s * kk.size) news) b'=hp w b')∧(w.setCells b (q+s * kk.size) news).heap.size=w.heap.size∧
      ∀ok',Ow (hp (w.setCells b (q+s * kk.size) news)) own ok' (.sl e kk) (xs.take s++zs++xs.drop (s+zs.length)) [.slice (some ⟨b,q,none⟩) n c] fo:=by
  unfold Ow at H
  rw [if_pos he] at H
  obtain ⟨a0,n',c',e1,e2,e3,H⟩:=H
  simp only [List.cons.injEq,Value.slice.injEq,and_true] at e1
  obtain ⟨rfl,rfl,rfl⟩:=e1
  have e2:n=xs.length:=e2
  rcases H with ⟨hc,_⟩ | ⟨bb,q',arr,lo,hi,ea,hb,hfr,hsz,bD,hl,hp0,H⟩
  · omega
  · simp only [anX,Addr.mk.injEq,and_true] at ea
    obtain ⟨rfl,rfl⟩:=ea
    have hm:(s+zs.length) * kk.size≤c * kk.size:=aos _ (by omega)
    rw [Nat.add_mul] at hm
    have hle:q+s * kk.size+news.length≤arr.size:=by rw [hnl]; omega
    have hst:=mP (P:=P) (o:=q+s * kk.size) news hb hfr hle h1
    obtain ⟨s1,s2,kL,s3,s4,s5,s6⟩:=uI b news w arr e (lo,hi) (q+s * kk.size) hb hle
    have h0:∀l∈bD,l=[]:=by
      intro l hl'
      obtain ⟨i,hi',rfl⟩:=List.mem_iff_getElem.1 hl'
      have hl:bD.length=xs.length:=hl
      obtain ⟨ds,_,h2⟩:=H i (by show i<xs.length; omega)
      have:=Je hf h2
      rw [←this]; simp [aoa,hi']
    have hg0:∀i,bD.getD i []=[]:=fun i=>by
      by_cases hi:i<bD.length
      · have:=h0 (bD[i]) (aop hi)
        simp [aoa,hi,this]
      · simp [aoa,hi]
    refine ⟨hst,hp0.mem_iff.2 (by simp),by unfold qQ; rw [hb],s1,s2,fun ok'=>?_⟩
    unfold Ow
    rw [if_pos he]
    have hlen:(xs.take s++zs++xs.drop (s+zs.length)).length=xs.length:=by simp; omega
    refine ⟨_,_,_,rfl,by show n=(xs.take s++zs++xs.drop (s+zs.length)).length; omega,e3, .inr ⟨b,q,kL,lo,hi,rfl,s3,by rw [s4]; exact hfr,by rw [s4]; exact hsz,bD,by show bD.length=(xs.take s++zs++xs.drop (s+zs.length)).length; rw [hlen]; exact hl,hp0,fun i hi=>?_⟩⟩
    rw [hg0]
    have hi':i<xs.length:=by have:i<(xs.take s++zs++xs.drop (s+zs.length)).length:=hi; omega
    have hcell:∀t,cellAt (hp (w.setCells b (q+s * kk.size) news)) b t=kL[t]?:=fun t=>by unfold cellAt; rw [s3]
    have hcell0:∀t,cellAt (hp w) b t=arr[t]?:=fun t=>by unfold cellAt; rw [hb]
    by_cases hin:s≤i∧i<s+zs.length
    · have hx:(show List (El kk) from xs.take s++zs++xs.drop (s+zs.length))[i]'hi=zs[i - s]'(by omega):=by
        show (xs.take s++zs++xs.drop (s+zs.length))[i]'hi=_
        rw [List.getElem_append_left (by simp; omega),List.getElem_append_right (by simp; omega)]
        congr 1
        simp
        omega
      rw [hx]
      have hlt:i - s<zs.length:=by omega
      have hv:=hel (i - s) hlt
      refine ⟨nC news kk.size (i - s),fun j hj=>?_,oG (fun t ht=>?_) (iy hf hv)⟩
      · rw [sw hnl hlt] at hj
        rw [hcell,lW hj]
        have hb2:(i - s+1) * kk.size≤zs.length * kk.size:=aos _ (by omega)
        rw [Nat.add_mul,Nat.one_mul] at hb2
        have hi2:i * kk.size=s * kk.size+(i - s) * kk.size:=by rw [←Nat.add_mul]; congr 1; omega
        rw [show q+i * kk.size+j=q+s * kk.size+((i - s) * kk.size+j) by omega]
        exact s5 _ (by rw [hnl]; omega)
      · rw [vX hf] at ht; simp at ht
    · have hx:(show List (El kk) from xs.take s++zs++xs.drop (s+zs.length))[i]'hi=xs[i]'hi':=by
        show (xs.take s++zs++xs.drop (s+zs.length))[i]'hi=_
        by_cases hlt:i<s
        · rw [List.getElem_append_left (by simp; omega),List.getElem_append_left (by simp; omega)]
          simp
        · rw [List.getElem_append_right (by simp; omega)]
          simp only [List.getElem_drop]
          congr 1
          simp
          omega
      rw [hx]
      obtain ⟨ds,g1,g2⟩:=H i hi'
      have hg:=hg0 i
      rw [hg] at g2
      refine ⟨ds,fun j hj=>?_,oG (fun t ht=>by rw [vX hf] at ht; simp at ht) (iy hf (kW (fun _=>True) (fun _ _=>trivial) (fun _ _=>trivial) g2))⟩
      rw [hcell]
      have hj':=g1 j hj
      rw [hcell0] at hj'
      rw [←hj']
      have hds:=dh g2
      refine s6 _ fun hc=>hin ?_
      rw [hnl] at hc
      constructor
      · refine aoj fun h=>?_
        have:(i+1) * kk.size≤s * kk.size:=aos _ (by omega)
        rw [Nat.add_mul,Nat.one_mul] at this
        omega
      · refine aoj fun h=>?_
        have:(s+zs.length) * kk.size≤i * kk.size:=aos _ (by omega)
        rw [Nat.add_mul] at this
        omega
end
section
variable {P:Program} {T:iV} {cx:Cx} {σ:St} {α:dL} {F:List Nat} {a:Act} {w:World} {o:Oper} {d:Nat} {ws:List Wr} {r:Nat} {R:Root}
theorem SX (H:Rel cx σ α F a w) (hr:aP σ r R) (hv:bu σ R) (hk:R.kind=.anon) {e:TypeId} {kk:K} {xs zs:List (El kk)} {s:Nat} (hq:(⟨R.k,R.x⟩:Dat)=⟨.sl e kk,xs⟩) (hf:kk.flat=true) (he:az e R.own=true) (hkk:0<kk.size) (hs:s+zs.length≤xs.length)
    {b:Option Addr} {n c:Nat} (hh:α.hdr r=[.slice b n c]) {bb:Option Addr} (hbb:0<zs.length→bb=b.map (·.add (s * kk.size)))
    {news:List Value} (hnl:news.length=zs.length * kk.size) (hel:∀i (hi:i<zs.length),Vw (hp w) (fun _=>True) kk zs[i] (nC news kk.size i)) (h1:∀v∈news,v.oneCell'=true) :
    ∃w',(∀ad,bb=some ad→(storeCells ad news).run P w=.ok () w')∧(zs.length=0→w'=w)∧(0<zs.length→∃ad,bb=some ad)∧
      Rel cx (au σ r (jX R e kk (xs.take s++zs++xs.drop (s+zs.length)))) (aG α r (α.loc r) (α.hdr r) (α.fo r)) [] a w'∧
      ∀g v,g≤R.g→bI cx σ α F w (.ref r g) v→bI cx (au σ r (jX R e kk (xs.take s++zs++xs.drop (s+zs.length)))) (aG α r (α.loc r) (α.hdr r) (α.fo r)) [] w' (.ref r g) v:=by
  have hRk:R.k=.sl e kk:=congrArg (fun q:Dat=>q.1) hq
  have hO:Ow (hp w) R.own (iQ cx σ α F w R.tags) (.sl e kk) xs [.slice b n c] (α.fo r):=by
    have:=cast (congrArg (fun q:Dat=>Ow (hp w) R.own (iQ cx σ α F w R.tags) q.1 q.2 (α.hdr r) (α.fo r)) hq) ((H.roots r R hr).ow hv)
    simp only at this
    rw [hh] at this
    exact this
  by_cases hz:0<zs.length
  · have hb0:∃bk q,b=some ⟨bk,q,none⟩:=by
      have Kb:=hO
      unfold Ow at Kb
      rw [if_pos he] at Kb
      obtain ⟨a0,n',c',e1,e2,e3,H'⟩:=Kb
      simp only [List.cons.injEq,Value.slice.injEq,and_true] at e1
      obtain ⟨rfl,rfl,rfl⟩:=e1
      have e2:n=xs.length:=e2
      rcases H' with ⟨hc,_⟩ | ⟨bk,q,arr,lo,hi,ea,_⟩
      · omega
      · exact ⟨bk,q,ea⟩
    obtain ⟨bk,q,rfl⟩:=hb0
    obtain ⟨g1,g2,g3,g4,g5,g6⟩:=acF (P:=P) (w:=w) hf he hs hz hkk hO hnl hel h1
    have hb1:bb=some ⟨bk,q+s * kk.size,none⟩:=by rw [hbb hz]; simp [addr_add]
    obtain ⟨r1,r2⟩:=Ut (w':=w.setCells bk (q+s * kk.size) news) H hr hv hk (ys:=xs.take s++zs++xs.drop (s+zs.length)) hq hf (by simp; omega) (qh _ _ _ _) (by omega)
      (fun b' hb'=>by
        by_cases e:b'=bk
        · subst e; exact ⟨g2,g3⟩
        · exact absurd (g4 b' e) hb') (fun ok=>by rw [hh]; exact g6 ok)
    exact ⟨_,fun ad ha=>by rw [hb1] at ha; simp only [anX] at ha; subst ha; exact g1,fun h=>by omega,fun _=>⟨_,hb1⟩,r1,r2⟩
  · have hz0:zs=[]:=List.eq_nil_of_length_eq_zero (by omega)
    subst hz0
    have hn0:news=[]:=List.eq_nil_of_length_eq_zero (by simpa using hnl)
    subst hn0
    have hys:xs.take s++[]++xs.drop (s+([]:List (El kk)).length)=xs:=by simp
    obtain ⟨r1,r2⟩:=Ut (w':=w) H hr hv hk (ys:=xs.take s++[]++xs.drop (s+([]:List (El kk)).length)) hq hf (by simp) ⟨rfl,rfl,rfl⟩ (aod _) (fun b' hb'=>absurd rfl hb') (fun ok=>by
      rw [hys,hh]
      have hO2:=gH (ok':=ok) (dA (k:=.sl e kk) (own:=R.own) (fun t ht=>by simp only [K.tys,vX hf,aog] at ht; subst ht; exact he)) hO
      exact hO2)
    exact ⟨w,fun ad _=>by cases ad; rfl,fun _=>rfl,fun h=>by simp at h,r1,r2⟩
end
section
variable {P:Program} {T:iV} {cx:Cx} {σ:St} {α:dL} {F:List Nat} {a:Act} {w:World} {o:Oper} {d:Nat} {ws:List Wr} {r:Nat} {R:Root}
theorem wF {A:Type} {z:A} {g:Nat} {k:Root→(e:TypeId)→(kk:K)→List (El kk)→Prog A} (h:(ownRow r g k).ends σ z) :
    ∃R e kk xs,aP σ r R∧bu σ R∧R.g=g∧(⟨R.k,R.x⟩:Dat)=⟨.sl e kk,xs⟩∧kk.flat=true∧az e R.own=true∧(k R e kk xs).ends σ z:=by
  unfold ownRow at h
  obtain ⟨R,hr,hv,h⟩:=cB h
  rcases aA h with ⟨hg,h⟩ | ⟨_,h⟩
  · have hK:∀q:Dat,(⟨R.k,R.x⟩:Dat)=q→(match q.1,q.2 with
        | .sl e kk,xs=>bif kk.flat && az e R.own then k R e kk (show List (El kk) from xs) else .fail
        | _,_=>Prog.fail).ends σ z→∃R e kk xs,aP σ r R∧bu σ R∧R.g=g∧(⟨R.k,R.x⟩:Dat)=⟨.sl e kk,xs⟩∧kk.flat=true∧az e R.own=true∧(k R e kk xs).ends σ z:=by
      intro q hq hh
      obtain ⟨qk,qx⟩:=q
      cases qk with
      | sl e kk=>
        simp only at hh
        rcases aA hh with ⟨hc,hh⟩ | ⟨_,hh⟩
        · simp only [an3] at hc
          exact ⟨R,e,kk,qx,hr,hv,an1 hg,hq,hc.1,hc.2,hh⟩
        · exact hh.elim
      | _=>exact hh.elim
    exact hK _ rfl h
  · exact h.elim
theorem Gd (H:Rel cx σ α F a w) (hr:aP σ r R) (hv:bu σ R) {e:TypeId} {kk:K} {xs:List (El kk)} (hq:(⟨R.k,R.x⟩:Dat)=⟨.sl e kk,xs⟩) (he:az e R.own=true) {v:Value} (h:VC R.k v (α.hdr r)) :
    ∃b n c,v=.slice b n c∧α.hdr r=[.slice b n c]∧n=xs.length∧n≤c:=by
  have hO:=cast (congrArg (fun q:Dat=>Ow (hp w) R.own (iQ cx σ α F w R.tags) q.1 q.2 (α.hdr r) (α.fo r)) hq) ((H.roots r R hr).ow hv)
  have hV:VC (.sl e kk) v (α.hdr r):=cast (congrArg (fun q:Dat=>VC q.1 v (α.hdr r)) hq) h
  simp only at hO
  unfold Ow at hO
  rw [if_pos he] at hO
  obtain ⟨b,n,c,e1,e2,e3,_⟩:=hO
  rw [hV.1] at e1
  simp only [List.cons.injEq,and_true] at e1
  exact ⟨b,n,c,e1,by rw [hV.1,e1],e2,e3⟩
theorem QN {len cap:Nat} {lo hi:Option Int} {l h:Option Value} (hl:lo=none→l=none) (hl':∀j,lo=some j→∃ik,l=some (.int ik j)) (hh:hi=none→h=none) (hh':∀j,hi=some j→∃ik,h=some (.int ik j))
    (h0:0≤lo.getD 0) (h1:lo.getD 0≤hi.getD (len:Int)) (h2:hi.getD (len:Int)≤(cap:Int)) :
    (Instr.sliceBounds true len cap l h none).run P w=.ok ((lo.getD 0).toNat,(hi.getD (len:Int)).toNat,cap) w:=by
  unfold Instr.sliceBounds
  cases hi with
  | none=>
    rw [hh rfl]
    simp only [Option.getD_none] at h1 h2
    cases lo with
    | none=>rw [hl rfl]; simp
    | some j=>
      obtain ⟨ik,e⟩:=hl' j rfl
      simp only [Option.getD_some] at h0 h1
      rw [e]
      simp [Instr.sliceBound,asIntOf,h0,h1]
  | some i=>
    obtain ⟨ik,e⟩:=hh' i rfl
    simp only [Option.getD_some] at h1 h2
    have f1:0≤i:=by omega
    rw [e]
    cases lo with
    | none=>rw [hl rfl]; simp [Instr.sliceBound,asIntOf,f1,h2]
    | some j=>
      obtain ⟨ik2,e2⟩:=hl' j rfl
      simp only [Option.getD_some] at h0 h1
      have g3:j≤max i 0:=by omega
      rw [e2]
      simp [Instr.sliceBound,asIntOf,f1,h2,h0]
      omega
theorem K5 {t e:TypeId} {k:K} (ht:fK P T t (.sl e k)) {b:Option Addr} {n c:Nat} {lo hi:Option Int} {l h:Option Value} (hl:lo=none→l=none) (hl':∀j,lo=some j→∃ik,l=some (.int ik j)) (hh:hi=none→h=none) (hh':∀j,hi=some j→∃ik,h=some (.int ik j))
    (h0:0≤lo.getD 0) (h1:lo.getD 0≤hi.getD (n:Int)) (h2:hi.getD (n:Int)≤(c:Int)) :
    (Instr.sliceAt t (.slice b n c) l h none).run P w=.ok (.slice (if c=(lo.getD 0).toNat then b else b.map (·.add ((lo.getD 0).toNat * k.size))) ((hi.getD (n:Int)).toNat - (lo.getD 0).toNat) (c - (lo.getD 0).toNat)) w:=by
  obtain ⟨hu,he,_,_⟩:=ht.sl
  unfold Instr.sliceAt Instr.slice
  simp only [aom,run_underlying hu,Result.andThen,QN (w:=w) hl hl' hh hh' h0 h1 h2,he.info.sizeOf w,aor]
theorem add_add (b:Option Addr) (m n:Nat):(b.map (·.add m)).map (·.add n)=b.map (·.add (m+n)):=by
  cases b with
  | none=>rfl
  | some ad=>obtain ⟨x,y,z⟩:=ad; by_cases hm:m=0 <;> by_cases hn:n=0 <;> simp [Addr.add,hm,hn,Nat.add_assoc]
theorem add_zero (b:Option Addr):b.map (·.add 0)=b:=by
  cases b with
  | none=>rfl
  | some ad=>obtain ⟨x,y,z⟩:=ad; simp [Addr.add]
theorem LM (hT:eF P T) (H:Rel cx σ α F a w) (hd:o.dst=some d) (hdn:d<cx.nt) {t:TypeId} {x:Operand} {lo hi mx:Option Operand}
    (h:(match T.ty t with
      | some kk=>dN x fun a=>Ij lo fun lo=>Ij hi fun hi=>Ij mx fun mx=>Uq kk a lo hi mx fun u=>.ret [Wr.s d (.one u)]
      | none=>(.fail:Prog (List Wr))).ends σ ws) (ho:o.op=.slice t x lo hi mx):qU P cx o a w (aB ws σ):=by
  cases hty:T.ty t with
  | none=>rw [hty] at h; exact h.elim
  | some k0=>
    rw [hty] at h
    have ht:=hT.ty t k0 hty
    obtain ⟨u,h1,h2,h⟩:=bR H h
    obtain ⟨lo',h,l1,l2⟩:=Bp H h
    obtain ⟨hi',h,g1,g2⟩:=Bp H h
    obtain ⟨mx',h,m1,m2⟩:=Bp H h
    have hl:lo'=none→lo.map a.eval=none:=fun e=>by rw [l1.1 e]; rfl
    have hh:hi'=none→hi.map a.eval=none:=fun e=>by rw [g1.1 e]; rfl
    cases u with
    | ref r g=>
      simp only [Uq] at h
      obtain ⟨R,e,kk,xs,hr,hv,hg,hq,hf,he,h⟩:=wF h
      rcases aA h with ⟨hk0,h5⟩ | ⟨_,h5⟩
      · clear h
        have ek:=K.eq_of_beq hk0
        subst ek
        obtain ⟨hka,FZ⟩:=h1 R hr hg
        obtain ⟨b,n,c,ev,eh,en,hnc⟩:=Gd H hr hv hq he FZ
        cases mx' with
        | none=>
          have hmx:mx.map a.eval=none:=by rw [m1.1 rfl]; rfl
          obtain ⟨⟨c1,c2,c3⟩,h6⟩:=h5
          rw [aC h6]
          have hrun:=K5 (P:=P) (w:=w) (b:=b) (n:=n) (c:=c) ht hl l2 hh g2 c1 (by rw [en]; exact c2) (by rw [en]; omega)
          refine bJ (x:=.one (.part r g (lo'.getD 0).toNat (hi'.getD (xs.length:Int)).toNat kk.size)) H hd hdn (v:=.slice (if c=(lo'.getD 0).toNat then b else b.map (·.add ((lo'.getD 0).toNat * kk.size))) ((hi'.getD (n:Int)).toNat - (lo'.getD 0).toNat) (c - (lo'.getD 0).toNat)) ?_ ?_ ⟨R,hr.1, .inr (by omega)⟩
          · simp only [execOp,ho,ev,hmx,aom,hrun,aof,aor]
          · refine ⟨_,b,n,c,by rw [en], ?_,by omega,by rw [en]; omega,hnc, ?_⟩
            · rintro (h0 | h0)
              · rw [h0]; simp [add_zero]
              · rw [if_neg h0]
            · rw [←ev]; exact h1
        | some m=>
          obtain ⟨jk,hmx⟩:=m2 m rfl
          simp only at h5
          rcases aA h5 with ⟨hs,h6⟩ | ⟨_,h6⟩
          · obtain ⟨⟨c1,c2,c3,c4⟩,h7⟩:=h6
            rw [aC h7]
            cases hi' with
            | none=>simp at hs
            | some i=>
              obtain ⟨ik,ehi⟩:=g2 i rfl
              simp only [Option.getD_some] at c2 c3
              obtain ⟨hu,he',_,_⟩:=ht.sl
              have c5:m≤(c:Int):=by omega
              have hrun:∃v,(Instr.sliceAt t (.slice b n c) (lo.map a.eval) (hi.map a.eval) (mx.map a.eval)).run P w=.ok v w:=by
                unfold Instr.sliceAt Instr.slice Instr.sliceBounds
                rw [hmx,ehi]
                cases lo' with
                | none=>
                  rw [hl rfl]
                  simp only [Option.getD_none] at c1 c2
                  refine ⟨.slice (if m.toNat=0 then b else b.map (·.add (0 * kk.size))) (i.toNat - 0) (m.toNat - 0), ?_⟩
                  simp [run_underlying hu,Instr.sliceBound,asIntOf,c5,c3,he'.info.sizeOf w,show 0≤m by omega,show 0≤i by omega,show (i≤max m 0) by omega,Result.andThen]
                | some j=>
                  obtain ⟨lk,elo⟩:=l2 j rfl
                  rw [elo]
                  simp only [Option.getD_some] at c1 c2
                  refine ⟨.slice (if m.toNat=j.toNat then b else b.map (·.add (j.toNat * kk.size))) (i.toNat - j.toNat) (m.toNat - j.toNat), ?_⟩
                  simp [run_underlying hu,Instr.sliceBound,asIntOf,c5,c3,c1,he'.info.sizeOf w,show 0≤m by omega,show 0≤i by omega,show (i≤max m 0) by omega,show (j≤max i 0) by omega,Result.andThen]
              obtain ⟨v,hrun⟩:=hrun
              exact bJ (x:=.one .undef) H hd hdn (v:=v) (by simp only [execOp,ho,ev,aom,hrun,aof,aor]) trivial trivial
          · exact h6.elim
      · exact h5.elim
    | part r g l0 h0 sz=>
      simp only [Uq] at h
      obtain ⟨R,e,kk,xs,hr,hv,hg,hq,hf,he,h⟩:=wF h
      rcases aA h with ⟨hk0,h5⟩ | ⟨_,h5⟩
      · clear h
        simp only [an3] at hk0
        have ek:=K.eq_of_beq hk0.1.1
        subst ek
        have hsz:kk.size=sz:=an1 hk0.1.2
        subst hsz
        cases mx' with
        | some m=>simp at hk0
        | none=>
          have hmx:mx.map a.eval=none:=by rw [m1.1 rfl]; rfl
          obtain ⟨⟨c1,c2,c3⟩,h6⟩:=h5
          rw [aC h6]
          obtain ⟨b',b,n,c,ev,eb,e2,e3,e4,hrf⟩:=h1
          obtain ⟨hka,FZ⟩:=hrf R hr hg
          obtain ⟨b2,n2,c2',ev2,eh,en,hnc⟩:=Gd H hr hv hq he FZ
          simp only [Value.slice.injEq] at ev2
          obtain ⟨rfl,rfl,rfl⟩:=ev2
          have hrun:=K5 (P:=P) (w:=w) (b:=b') (n:=h0 - l0) (c:=c - l0) ht hl l2 hh g2 c1 c2 (by omega)
          refine bJ (x:=.one (.part r g (l0+(lo'.getD 0).toNat) (l0+(hi'.getD ((h0 - l0:Nat):Int)).toNat) kk.size)) H hd hdn
            (v:=.slice (if c - l0=(lo'.getD 0).toNat then b' else b'.map (·.add ((lo'.getD 0).toNat * kk.size))) ((hi'.getD ((h0 - l0:Nat):Int)).toNat - (lo'.getD 0).toNat) (c - l0 - (lo'.getD 0).toNat)) ?_ ?_ ⟨R,hr.1, .inr (by omega)⟩
          · simp only [execOp,ho,ev,hmx,aom,hrun,aof,aor]
          · refine ⟨if c - l0=(lo'.getD 0).toNat then b' else b'.map (·.add ((lo'.getD 0).toNat * kk.size)),b,n,c, ?_, ?_,by omega,by rw [en]; omega,e4,hrf⟩
            · rw [show l0+(hi'.getD ((h0 - l0:Nat):Int)).toNat - (l0+(lo'.getD 0).toNat)=(hi'.getD ((h0 - l0:Nat):Int)).toNat - (lo'.getD 0).toNat by omega,show c - (l0+(lo'.getD 0).toNat)=c - l0 - (lo'.getD 0).toNat by omega]
            · rintro (h0' | h0')
              · have z1:l0=0:=by omega
                have z2:(lo'.getD 0).toNat=0:=by omega
                rw [eb (.inl z1),z1,z2]
                simp [add_zero]
              · rw [if_neg (by omega)]
                rw [eb (by omega),add_add,Nat.add_mul]
      · exact h5.elim
    | _=>exact h.elim
end
section
variable {P:Program} {T:iV} {cx:Cx} {σ:St} {α:dL} {F:List Nat} {a:Act} {w:World} {o:Oper} {d:Nat} {ws:List Wr} {r:Nat} {R:Root}
theorem Un {c:Call} {u:AV} (h:dR cx σ α F w [u] (c.args.toList.map a.eval)):∃x,c.args.toList=[x]∧bI cx σ α F w u (a.eval x):=by
  revert h
  generalize c.args.toList=l
  intro h
  cases l with
  | nil=>exact h.elim
  | cons x l=>cases l with
    | nil=>exact ⟨x,rfl,h.1⟩
    | cons _ _=>exact h.2.elim
theorem Ld {c:Call} {u v:AV} (h:dR cx σ α F w [u,v] (c.args.toList.map a.eval)):∃x y,c.args.toList=[x,y]∧bI cx σ α F w u (a.eval x)∧bI cx σ α F w v (a.eval y):=by
  revert h
  generalize c.args.toList=l
  intro h
  cases l with
  | nil=>exact h.elim
  | cons x l=>cases l with
    | nil=>exact h.2.elim
    | cons y l=>cases l with
      | nil=>exact ⟨x,y,rfl,h.1,h.2.1⟩
      | cons _ _=>exact h.2.2.elim
theorem Ty {kk:K} {m:Nat} (hk:0<kk.size) (hz:(bK kk).length=kk.size) (hg:eX kk=true):(y5 (bK kk).toArray (m * kk.size)).toList.length=m * kk.size∧(∀i,i<m→nC (y5 (bK kk).toArray (m * kk.size)).toList kk.size i=bK kk)∧
    ∀v∈(y5 (bK kk).toArray (m * kk.size)).toList,v.oneCell'=true:=by
  refine ⟨by simp [y5],fun i hi=>Q6 hk hz hi,fun v hv=>?_⟩
  simp only [y5,Array.toList_map,aox] at hv
  obtain ⟨i,_,rfl⟩:=hv
  have hlt:i % (bK kk).toArray.size<(bK kk).toArray.size:=Nat.mod_lt _ (by simp [hz,hk])
  have h1:=NG hg (kW (h:=hp (default:World)) (own:=kk.tys) (ok:=fun _=>False) (fun _=>True) (fun _ _=>trivial) (fun _ _=>trivial) (Fa hg (fun t ht=>aM.2 ht)))
  rw [getElem!_pos (bK kk).toArray _ hlt]
  exact h1 _ (by simp)
theorem Ve (hT:eF P T) (H:Rel cx σ α F a w) {c:Call} (ho:o.op=.call c) (hcb:c.callee=.builtin .clear) {u:AV} {e0:TypeId} {k0:K} (hl:dR cx σ α F w [u] (c.args.toList.map a.eval)) (ht0:(c.argTypes[0]?).bind T.ty=some (.sl e0 k0))
    (h:(RQ (.sl e0 k0) u fun ws=>(.ret ws:Prog (List Wr))).ends σ ws):∃v w' α',(execOp a.eval o).run P w=.ok (.value v) w'∧Rel cx (aB ws σ) α' [] a w':=by
  obtain ⟨x,hx,hu⟩:=Un hl
  obtain ⟨t,hat,ht⟩:=uU hT ht0
  cases u with
  | part r g lo hi sz=>
    simp only [RQ] at h
    obtain ⟨R,e,kk,xs,hr,hv,hg,hq,hf,he,h⟩:=wF h
    rcases aA h with ⟨hsz,h5⟩ | ⟨_,h5⟩
    · clear h
      simp only [an3] at hsz
      have ek:=K.eq_of_beq hsz.1
      have hsz:=an1 hsz.2
      subst hsz
      obtain ⟨rfl,rfl⟩:e=e0∧kk=k0:=by simpa using ek
      rw [aC h5]
      obtain ⟨b',b,n,c',ev,eb,e2,e3,e4,hrf⟩:=hu
      obtain ⟨hka,FZ⟩:=hrf R hr hg
      obtain ⟨b2,n2,c2',ev2,eh,en,hnc⟩:=Gd H hr hv hq he FZ
      simp only [Value.slice.injEq] at ev2
      obtain ⟨rfl,rfl,rfl⟩:=ev2
      obtain ⟨hun,hel,hks,_⟩:=ht.sl
      have hng:=hel.eX
      have hzl:(bK kk).length=kk.size:=by
        have:=Fa (h:=hp w) (ok:=fun _=>False) (own:=kk.tys) hng (fun t ht=>aM.2 ht)
        exact dh this
      obtain ⟨z1,z2,z3⟩:=Ty (m:=hi - lo) hks hzl hng
      obtain ⟨w',r1,r2,r3,r4,_⟩:=SX (P:=P) (zs:=List.replicate (hi - lo) kk.zero) (s:=lo) H hr hv hka hq hf he hks (by simp; omega) (b:=b) (n:=n) (c:=c') eh (bb:=b') (fun h0=>eb (by
          simp only [List.length_replicate] at h0
          omega)) (news:=(y5 (bK kk).toArray ((hi - lo) * kk.size)).toList) (by rw [z1]; simp) (fun i hi'=>by
          have hi2:i<hi - lo:=by simpa using hi'
          rw [z2 i hi2]
          have:(List.replicate (hi - lo) kk.zero)[i]'hi'=kk.zero:=by simp
          rw [this]
          exact kW (own:=kk.tys) (ok:=fun _=>False) _ (fun _ _=>trivial) (fun _ _=>trivial) (Fa hng (fun t ht=>aM.2 ht))) z3
      have hdrop:lo+(List.replicate (hi - lo) kk.zero).length=hi:=by simp; omega
      rw [hdrop] at r4
      obtain ⟨cc,hcc⟩:=jA (P:=P) (a:=a) (w:=w) ho hcb
      have XN:(c.args.map a.eval)[0]?=some (.slice b' (hi - lo) (c' - lo)):=by
        rw [←Array.getElem?_toList,Array.toList_map,hx]
        simp [ev]
      refine ⟨.tuple #[],w',_, ?_,r4⟩
      rw [hcc]
      have hrun:(Builtin.clear_ c.argTypes o.type (c.args.map a.eval)).run P w=.ok (.tuple #[]) w':=by
        unfold Builtin.clear_
        simp only [hat,XN]
        by_cases h0:hi - lo=0
        · rw [h0]
          rw [r2 (by simp [h0])]
          cases b' <;> simp [run_underlying hun,Result.andThen]
        · obtain ⟨ad,had⟩:=r3 (by simp; omega)
          subst had
          have hst:=r1 ad rfl
          have hzc:(Builtin.zeroCells (sJ kk).cells (hi - lo)).toList=(y5 (bK kk).toArray ((hi - lo) * kk.size)).toList:=by
            rw [wQ hel.shape]
            unfold Builtin.zeroCells y5
            simp [hzl]
          obtain ⟨m,hm⟩:∃m,hi - lo=m+1:=⟨hi - lo - 1,by omega⟩
          rw [hm] at hzc hst ⊢
          simp only [aom,run_underlying hun,aof,hel.info.zero w,hzc,hst,aor]
      simp only [builtin,aom,hrun,aof,aor]
    · exact h5.elim
  | _=>exact h.elim
end
section
variable {P:Program} {T:iV} {cx:Cx} {σ:St} {α:dL} {F:List Nat} {a:Act} {w:World} {o:Oper} {d:Nat} {ws:List Wr} {r:Nat} {R:Root}
theorem Vf (hT:eF P T) (H:Rel cx σ α F a w) (hd:o.dst=some d) (hdn:d<cx.nt) {c:Call} (ho:o.op=.call c) (hcb:c.callee=.builtin .append) {u v:AV} {e0 e1:TypeId} {k0 k1:K} (hl:dR cx σ α F w [u,v] (c.args.toList.map a.eval))
    (ht0:(c.argTypes[0]?).bind T.ty=some (.sl e0 k0)) (ht1:(c.argTypes[1]?).bind T.ty=some (.sl e1 k1)) (h:(RS (.sl e0 k0) d u v fun ws=>(.ret ws:Prog (List Wr))).ends σ ws):qU P cx o a w (aB ws σ):=by
  obtain ⟨x,y,hxy,hu,hv0⟩:=Ld hl
  obtain ⟨t,hat,ht⟩:=uU hT ht0
  obtain ⟨t2,aak,ht2⟩:=uU hT ht1
  cases u with
  | part r g l0 h0 sz=>
    cases v with
    | part r' g' l1 h1 sz'=>
      simp only [RS] at h
      obtain ⟨R,e,kk,xs,hr,hv,hg,hq,hf,he,h⟩:=wF h
      rcases aA h with ⟨hc,h5⟩ | ⟨_,h5⟩
      · clear h
        simp only [an3] at hc
        obtain ⟨⟨⟨⟨⟨c1,c2⟩,c3⟩,c4⟩,c5⟩,c6⟩:=hc
        have ek:=K.eq_of_beq c1
        have c2:=an1 c2
        have c3:=an1 c3
        have c4:=an1 c4
        have c5:=an1 c5
        have c6:=an1 c6
        subst c2 c3 c4 c5 c6
        obtain ⟨rfl,rfl⟩:e=e0∧kk=k0:=by simpa using ek
        obtain ⟨hle,h6⟩:=h5
        rw [aC h6]
        obtain ⟨b1,b,n,cp,ev1,eb1,e2,e3,e4,hrf⟩:=hu
        obtain ⟨b2,b',n',cp',ev2,eb2,f2,f3,f4,ak8⟩:=hv0
        obtain ⟨hka,FZ⟩:=hrf R hr hg
        obtain ⟨_,akq⟩:=ak8 R hr hg
        obtain ⟨q1,q2,q3,ev,eh,en,hnc⟩:=Gd H hr hv hq he FZ
        simp only [Value.slice.injEq] at ev
        obtain ⟨rfl,rfl,rfl⟩:=ev
        obtain ⟨q1,q2,q3,ev,eh',_,_⟩:=Gd H hr hv hq he akq
        simp only [Value.slice.injEq] at ev
        obtain ⟨rfl,rfl,rfl⟩:=ev
        rw [eh] at eh'
        simp only [List.cons.injEq,Value.slice.injEq,and_true] at eh'
        obtain ⟨rfl,rfl,rfl⟩:=eh'
        have hb1:b1=b:=by rw [eb1 (.inl rfl)]; simp [add_zero]
        subst hb1
        obtain ⟨hun,hel,hks,_⟩:=ht.sl
        have hng:=hel.eX
        have hO:Ow (hp w) R.own (iQ cx σ α F w R.tags) (.sl e kk) xs [.slice b1 n cp] (α.fo r):=by
          have:=cast (congrArg (fun q:Dat=>Ow (hp w) R.own (iQ cx σ α F w R.tags) q.1 q.2 (α.hdr r) (α.fo r)) hq) ((H.roots r R hr).ow hv)
          simp only at this
          rw [eh] at this
          exact this
        have hV:=kW (fun _=>True) (fun _ _=>trivial) (fun _ _=>trivial) hO
        have hVp:=TK hV f2 (by omega:h1≤n)
        have hlz:((xs.take h1).drop l1).length=h1 - l1:=by
          have:n=xs.length:=en
          simp; omega
        have hVy:Vw (hp w) (fun _=>True) (.sl e kk) (show List (El kk) from (xs.take h1).drop l1) [.slice b2 (h1 - l1) (cp - l1)]:=by
          by_cases hcl:cp=l1
          · refine ⟨_,_,_,rfl,hlz.symm,by omega,fun h=>?_⟩
            omega
          · rw [if_neg hcl] at hVp
            rw [eb2 (.inr hcl)]
            exact hVp
        obtain ⟨news,hS,hE⟩:=OQ (P:=P) (u:=t2) (xs:=(xs.take h1).drop l1) (v:=a.eval y) (.inl ⟨_,ht2.sl.1⟩) hng rfl (cs:=[.slice b2 (h1 - l1) (cp - l1)]) ⟨by rw [ev2],by rw [ev2]; simp⟩ hVy
        have hzl:((show List (El kk) from (xs.take h1).drop l1)).length=h1 - l1:=hlz
        have hroom:h0+((xs.take h1).drop l1).length≤cp:=by omega
        obtain ⟨w',r1,r2,r3,r4,r5⟩:=SX (P:=P) (zs:=(xs.take h1).drop l1) (s:=h0) H hr hv hka hq hf he hks (by rw [hlz]; have:n=xs.length:=en; omega) (b:=b1) (n:=n) (c:=cp) eh (bb:=b1.map (·.add (h0 * kk.size))) (fun _=>rfl) (news:=news) hS.nl hE hS.one
        rw [hlz] at r4 r5
        have hrun:=xZ (P:=P) (ty:=o.type) (t:=t) (u:=t2) ht hS (b:=b1) (n:=h0) (c:=cp) hroom
        have MK:(Builtin.append_ #[t,t2] o.type #[a.eval x,a.eval y]).run P w=.ok (.slice b1 (h0+(h1 - l1)) cp) w':=by
          rw [ev1]
          simp only [Nat.sub_zero]
          rw [hrun,hlz]
          cases hbb:b1 with
          | none=>
            have:((xs.take h1).drop l1).length=0:=by
              refine aoj fun hne=>?_
              obtain ⟨ad,had⟩:=r3 (by omega)
              rw [hbb] at had
              simp at had
            rw [r2 this]
            simp [Result.andThen]
          | some ad=>
            have:=r1 (ad.add (h0 * kk.size)) (by rw [hbb]; rfl)
            simp only [this,aof]
        show qU P cx o a w (aB [Wr.s d (.one (.part r g 0 (h0+(h1 - l1)) kk.size))] (au σ r (jX R e kk (xs.take h0++(xs.take h1).drop l1++xs.drop (h0+(h1 - l1))))))
        refine iW (x:=.one (.part r g 0 (h0+(h1 - l1)) kk.size)) (v:=.slice b1 (h0+(h1 - l1)) cp) r4 hd hdn (mO ho hcb hxy hat aak MK) ?_ ⟨_,aI .., .inr (by rw [←hg]; exact aod _)⟩
        refine ⟨b1,b1,n,cp,by simp,fun _=>by simp [add_zero],by omega,by omega,e4,r5 g (.slice b1 n cp) (by omega) hrf⟩
      · exact h5.elim
    | _=>exact h.elim
  | _=>exact h.elim
theorem PO (hT:eF P T) (H:Rel cx σ α F a w) (hd:o.dst=some d) (hdn:d<cx.nt) {c:Call} (ho:o.op=.call c) (hcb:c.callee=.builtin .len) {r g lo hi sz:Nat} {e0:TypeId} {k0:K} (hl:dR cx σ α F w [.part r g lo hi sz] (c.args.toList.map a.eval))
    (ht0:(c.argTypes[0]?).bind T.ty=some (.sl e0 k0)):qU P cx o a w (aB [.s d (.one (.val (.int .i64) ((hi - lo:Nat):Int) []))] σ):=by
  obtain ⟨x,hx,hu⟩:=Un hl
  obtain ⟨t,hat,ht⟩:=uU hT ht0
  obtain ⟨b',b,n,cp,ev,_⟩:=hu
  have XN:(c.args.map a.eval)[0]?=some (.slice b' (hi - lo) (cp - lo)):=by
    rw [←Array.getElem?_toList,Array.toList_map,hx]
    simp [ev]
  obtain ⟨cc,hcc⟩:=jA (P:=P) (a:=a) (w:=w) ho hcb
  refine bJ H hd hdn ?_ (oV .i64 (n:=((hi - lo:Nat):Int)) trivial) Az
  rw [hcc]
  simp only [builtin,aom,Uw (ty:=o.type) (w:=w) hat XN (.inr ⟨⟨_,ht.sl.1⟩,b',cp - lo,rfl⟩),aof,aor]
theorem QO {t u ty e:TypeId} {k:K} (ht:fK P T t (.sl e k)) {b:Option Addr} {n c m:Nat} {x:Value} {news:List Value} (hs:Src P w k.size u x m news) (hr:m≤n) :
    (Builtin.copy_ #[t,u] ty #[.slice b n c,x]).run P w=(match b with
      | some a=>(storeCells a news).run P w
      | none=>.ok () w).andThen fun _ w'=>.ok (.int .i64 (m:Int)) w':=by
  obtain ⟨hu,he,_,_⟩:=ht.sl
  have e1:=hs.len w
  have e2:=hs.cells.1
  have hm:Nat.min m n=m:=Nat.min_eq_left hr
  cases b <;> simp [Builtin.copy_,run_underlying hu,he.info.sizeOf w,e1,e2,hm,Result.andThen,goInt]
theorem Xu (hT:eF P T) (H:Rel cx σ α F a w) (hd:o.dst=some d) (hdn:d<cx.nt) {c:Call} (ho:o.op=.call c) (hcb:c.callee=.builtin .copy) {u v:AV} {e0 e1:TypeId} {k0 k1:K} (hl:dR cx σ α F w [u,v] (c.args.toList.map a.eval)) (hwv:rR σ v)
    (ht0:(c.argTypes[0]?).bind T.ty=some (.sl e0 k0)) (ht1:(c.argTypes[1]?).bind T.ty=some (.sl e1 k1)) (h:(Xq (.sl e0 k0) d u v fun ws=>(.ret ws:Prog (List Wr))).ends σ ws):qU P cx o a w (aB ws σ):=by
  obtain ⟨x,y,hxy,hu,hv0⟩:=Ld hl
  obtain ⟨t,hat,ht⟩:=uU hT ht0
  obtain ⟨t2,aak,ht2⟩:=uU hT ht1
  cases u with
  | ref r g=>
    simp only [Xq] at h
    obtain ⟨R,e,kk,xs,hr,hv,hg,hq,hf,he,h⟩:=wF h
    rcases aA h with ⟨hc,h5⟩ | ⟨_,h5⟩
    · clear h
      have ek:=K.eq_of_beq hc
      obtain ⟨rfl,rfl⟩:e=e0∧kk=k0:=by simpa using ek
      obtain ⟨hun,hel,hks,_⟩:=ht.sl
      have hng:=hel.eX
      obtain ⟨s,h6,_,_,news,_,_,_,_,_,_,hS,hels⟩:=QV (P:=P) (u:=t2) H (.inl ⟨_,ht2.sl.1⟩) hng hv0 hwv h5
      obtain ⟨hle,h7⟩:=h6
      rw [aC h7]
      obtain ⟨hka,FZ⟩:=hu R hr (by omega)
      obtain ⟨b,n,cp,ev,eh,en,hnc⟩:=Gd H hr hv hq he FZ
      obtain ⟨bD,Cy,_,_,_,hE⟩:=hels [] (fun t ht=>by rw [vX hf] at ht; simp at ht)
      have hb0:b.map (·.add (0 * kk.size))=b:=by rw [Nat.zero_mul]; exact add_zero b
      obtain ⟨w',r1,r2,r3,r4,r5⟩:=SX (P:=P) (zs:=s.xs) (s:=0) H hr hv hka hq hf he hks (by omega) (b:=b) (n:=n) (c:=cp) eh (bb:=b) (fun _=>hb0.symm) (news:=news) hS.nl (fun i hi=>kW (fun _=>True) (fun _ _=>trivial) (fun _ _=>trivial) (hE i hi)) hS.one
      have hxs:xs.take 0++s.xs++xs.drop (0+s.xs.length)=s.xs++xs.drop s.xs.length:=by simp
      rw [hxs] at r4 r5
      have hrun:=QO (P:=P) (ty:=o.type) (t:=t) (u:=t2) ht hS (b:=b) (n:=n) (c:=cp) (by omega)
      have MK:(Builtin.copy_ #[t,t2] o.type #[a.eval x,a.eval y]).run P w=.ok (.int .i64 (s.xs.length:Int)) w':=by
        rw [ev,hrun]
        cases hbb:b with
        | none=>
          have:s.xs.length=0:=by
            refine aoj fun hne=>?_
            obtain ⟨ad,had⟩:=r3 (by omega)
            rw [hbb] at had
            simp at had
          rw [r2 this]
          simp [Result.andThen]
        | some ad=>
          have:=r1 ad hbb
          simp only [this,aof]
      have agJ:(execOp a.eval o).run P w=.ok (.value (.int .i64 (s.xs.length:Int))) w':=by
        obtain ⟨cc,hcc⟩:=jA (P:=P) (a:=a) (w:=w) ho hcb
        rw [hcc]
        have h1:c.args.map a.eval=#[a.eval x,a.eval y]:=by
          apply Array.ext'
          rw [Array.toList_map,hxy]
          rfl
        have h2:Builtin.copy_ c.argTypes o.type #[a.eval x,a.eval y]=Builtin.copy_ #[t,t2] o.type #[a.eval x,a.eval y]:=by
          unfold Builtin.copy_
          simp only [hat]
          rfl
        rw [h1]
        simp only [builtin,aom,h2,MK,aof,aor]
      show qU P cx o a w (aB [Wr.s d (.one (.val (.int .i64) (s.xs.length:Int) []))] (au σ r (jX R e kk (s.xs++xs.drop s.xs.length))))
      exact iW (x:=.one (.val (.int .i64) (s.xs.length:Int) [])) r4 hd hdn agJ (oV .i64 (n:=((s.xs.length:Nat):Int)) trivial) Az
    · exact h5.elim
  | _=>exact h.elim
theorem NZ (hT:eF P T) (H:Rel cx σ α F a w) (hd:o.dst=some d) (hdn:d<cx.nt) (h:(K9 T o d fun ws=>(.ret ws:Prog (List Wr))).ends σ ws):qU P cx o a w (aB ws σ):=by
  unfold K9 at h
  split at h
  · rename_i t x lo hi mx ho
    exact LM hT H hd hdn h ho
  · rename_i c ho
    split at h
    · rename_i hcb
      obtain ⟨vs,h1,h2,h⟩:=ji H h
      split at h
      · split at h
        · rename_i ht0
          rw [aC h]
          exact PO hT H hd hdn ho hcb h1 ht0
        · exact h.elim
      · exact h.elim
    · rename_i hcb
      obtain ⟨vs,h1,h2,h⟩:=ji H h
      split at h
      · split at h
        · rename_i ht0 ht1
          exact Vf hT H hd hdn ho hcb h1 ht0 ht1 h
        · exact h.elim
      · exact h.elim
    · rename_i hcb
      obtain ⟨vs,h1,h2,h⟩:=ji H h
      split at h
      · split at h
        · rename_i ht0 ht1
          exact Xu hT H hd hdn ho hcb h1 (h2 _ (by simp)) ht0 ht1 h
        · exact h.elim
      · exact h.elim
    · exact h.elim
  · rename_i t ps ho
    exact Z9 hT H hd hdn h ho
  · exact h.elim
end
theorem Qn {p:List Stp}:∀{q:List Stp},wC p q=true→Qj p=Qj q→p=q:=by
  induction p with
  | nil=>intro q h _; cases q with
    | nil=>rfl
    | cons s q=>cases s <;> simp [wC] at h
  | cons s p ih=>
    intro q h hi
    cases q with
    | nil=>cases s <;> simp [wC] at h
    | cons u q=>
      cases s with
      | fO n=>
        cases u with
        | fO m=>
          simp only [wC,an3] at h
          rw [an1 h.1,ih h.2 hi]
        | idx j=>simp [wC] at h
      | idx i=>
        cases u with
        | fO m=>simp [wC] at h
        | idx j=>
          simp only [Qj,List.cons.injEq] at hi
          rw [hi.1,ih h hi.2]
theorem VP {p:List Stp}:∀{q:List Stp},wC p q=true→p.all Stp.qL=true→q.all Stp.qL=true:=by
  induction p with
  | nil=>intro q h _; cases q with
    | nil=>rfl
    | cons s q=>cases s <;> simp [wC] at h
  | cons s p ih=>
    intro q h hi
    cases q with
    | nil=>cases s <;> simp [wC] at h
    | cons u q=>
      cases s with
      | idx i=>simp [Stp.qL] at hi
      | fO n=>
        cases u with
        | idx j=>simp [wC] at h
        | fO m=>
          simp only [wC,an3] at h
          simp only [List.all_cons,an3] at hi ⊢
          exact ⟨rfl,ih h.2 hi.2⟩
theorem ML {p:List Stp}:p.all Stp.qL=true→Qj p=[]:=by
  induction p with
  | nil=>intro _; rfl
  | cons s p ih=>
    intro h
    simp only [List.all_cons,an3] at h
    cases s with
    | fO n=>exact ih h.2
    | idx i=>exact absurd h.1 (by simp [Stp.qL])
section
variable {P:Program} {T:iV} {cx:Cx} {σ:St} {α:dL} {F:List Nat} {a:Act} {w:World} {o:Oper} {d:Nat} {ws:List Wr} {r:Nat} {R:Root}
theorem QL {t e:TypeId} {kk:K} (hT:fK P T t (.sl e kk)) (H:Rel cx σ α F a w) (hr:aP σ r R) (hv:bu σ R) {p:List Stp} {xs ys:List (El kk)} {z:Dat} (hg:aS p R.k R.x=some ⟨.sl e kk,xs⟩) (hz:dX p R.k R.x ⟨.sl e kk,ys⟩=some z) (fT:nk p R.k R.x)
    (hown:∀t∈ah p R.k,az t R.own=true) (hall:∀t∈(K.sl e kk).tys,az t R.own=true) {cs1:List Value} {b o:Nat} (hn:bG (hp w) p R.k (α.hdr r) (dU α R r)=some (cs1,some (b,o))) {v:Value} (En:∃bv nv cv,v=.slice bv nv cv) {lw:List TypeId} (hlw:eT R p∈lw)
    (how:∀fP ok,Ow (hp w) R.own ok (.sl e kk) xs cs1 fP→fP.Nodup→(∀b∈fP,b∈α.fo r)→∃ft,ft.Nodup∧(∀b∈ft,b∈fP∨b∈F)∧Ow (hp w) R.own (fun _=>False) (.sl e kk) ys [v] ft) :
    ∃w',(Instr.storeAt t (.pointer (some ⟨b,o,none⟩)) v).run P w=.ok () w'∧∃α' F',Rel cx (au σ r (bH R z R.own R.tags lw (K.sl e kk).tys R.keep)) α' F' a w':=by
  have K0:=H.roots r R hr
  have hnt:=H.dz r R hr.1
  obtain ⟨_,_,hbb,⟨arr,te,lo,hi,hb,hf,hs,hlast⟩,_⟩:=qd H hr hv hg fT hown hn
  have hone:∀u∈[v],u.oneCell'=true:=by
    intro u hu
    simp only [aog] at hu
    subst hu
    obtain ⟨bv,nv,cv,rfl⟩:=En
    rfl
  have ale:VC (.sl e kk) v [v]:=by
    obtain ⟨bv,nv,cv,rfl⟩:=En
    exact ⟨rfl,by simp⟩
  have hrun:=He (o:=o) hT hb hf (show [v].length=(K.sl e kk).size from rfl) hs ale hone
  obtain ⟨s1,s2,kL,s3,s4,s5,s6⟩:=uI b [v] w arr te (lo,hi) o hb hs
  have s7:=qh b [v] w o
  refine ⟨_,hrun, ?_⟩
  obtain ⟨fd,ok',fP,rest,pU,nG,hn',hpf,hd1,hty,_,zJ,hwf,hgo⟩:=H.place hr hv (own':=R.own) hg fT (fun t h=>h) hown
  rw [hn] at hn'
  simp only [anX,an8] at hn'
  obtain ⟨rfl,rfl⟩:=hn'
  have hnd:=K0.nd
  rw [bW,ny] at hnd
  have X6:=hpf.nodup hnd.2
  have TU:∀b∈fP,b∈α.fo r:=fun b hb=>hpf.mem_iff.2 (an2 _ (an2 _ hb))
  obtain ⟨ft,akJ,XW,akK⟩:=how fP ok' hd1 (an4.1 (an4.1 X6).1).1 TU
  have Ie:b∉F:=H.iX r R hr b hbb
  have akt:b∉ft:=fun h=>by
    rcases XW b h with h | h
    · exact hwf b o rfl h
    · exact Ie h
  have hF':∀b',b'∈F.filter (fun b=>!az b ft)↔b'∈F∧b'∉ft:=fun b'=>by rw [aoe]; simp [aV]
  have hP:sU cx σ α F w r R p ⟨.sl e kk,xs⟩ R.own cs1 (some (b,o)) fP rest ⟨.sl e kk,ys⟩ z R.tags lw (K.sl e kk).tys R.keep ft (F.filter fun b=>!az b ft) [v] (w.setCells b o [v]):=by
    refine ⟨hz,rfl,fun _ h=>h,⟨s7.1,s7.2.1,s7.2.2⟩,by omega,fun b' _ hne=>?_,fun b' o' e'=>?_,fun h=>by simp at h,rfl, .inl (fun h=>by rw [h] at hlw; simp at hlw),⟨fun _ h=>h,hnt.1,hnt.2.2⟩,fun b' hb'=>(XW b' hb').imp id .inl,akJ,fun b' hb'=>.inl ((hF' b').1 hb').1,H.zG.filter _,
      fun b' hb' h=>((hF' b').1 h).2 hb', .inl rfl, .inl rfl,fun _ q c0 w0 hpq Yg hnq hqs=>?_,fun α' Tn hblk hval=>?_⟩
    · refine .inr (.inr ?_)
      by_cases e:b'=b
      · subst e; exact ⟨o,rfl,hlw⟩
      · exact absurd (s1 b' e) hne
    · simp only [anX,an8] at e'
      obtain ⟨rfl,rfl⟩:=e'
      refine ⟨fun i hi=>?_,arr,kL,te,(lo,hi),hb,s3,s4,fun i hi=>s6 i hi⟩
      unfold cellAt
      rw [s3]
      exact s5 i hi
    · cases q with
      | nil=>
        simp only [bG,anX,an8] at hnq
        exact ⟨trivial,[v],by simp only [bG]; rw [hnq.2]⟩
      | cons s q=>
        cases s with
        | fO n=>exact hpq.elim
        | idx i=>exact absurd (show e∈(K.sl e kk).tys by simp [K.tys]) (Yg e (by simp [ah])).2
    · exact gH (dA hall) (bz (fun _ h=>h.elim) (fun _ h=>h) (fun b' hb'=>s1 b' (fun e=>akt (e▸hb'))) akK)
  obtain ⟨α',h,_⟩:=hgo hP
  exact ⟨α',_,h⟩
theorem NV (hT:eF P T) (H:Rel cx σ α F a w) (hd:o.dst=none) {t:TypeId} {x y:Operand} (ho:o.op=.store t x y) {u:AV} {r n m:Nat} {p:List Stp} {k0:K} (hk0:T.ty t=some k0) (h1:bI cx σ α F w u (a.eval x)) (h2:rR σ u) (h3:bI cx σ α F w (.xY r p n m) (a.eval y))
    (h:(FU k0 u r p n m fun ws=>(.ret ws:Prog (List Wr))).ends σ ws):qU P cx o a w (aB ws σ):=by
  have ht:=hT.ty t k0 hk0
  cases k0 with
  | sl e kk=>
    cases u with
    | ptr r' p' h0=>
      simp only [FU] at h
      rcases aA h with ⟨hc,h5⟩ | ⟨_,h5⟩
      · clear h
        simp only [an3] at hc
        obtain ⟨hix,h6⟩:=h5
        have er:=an1 hc.1
        have ep:=Qn hc.2 hix
        subst er ep
        obtain ⟨R,hr,hv,h7⟩:=cB h6
        rcases aA h7 with ⟨hc2,h8⟩ | ⟨_,h8⟩
        · simp only [an3] at hc2
          obtain ⟨⟨⟨c1,c2⟩,c3⟩,c4⟩:=hc2
          have hall:=ku c4
          cases hg:aS p R.k R.x with
          | none=>rw [hg] at h8; exact h8.elim
          | some dd=>
            rw [hg] at h8
            simp only at h8
            cases hck:bP dd.1 (.sl e kk) dd.2 with
            | none=>rw [hck] at h8; exact h8.elim
            | some xs=>
              rw [hck] at h8
              simp only at h8
              obtain ⟨ek,ey⟩:=bM hck
              obtain ⟨dk,dx⟩:=dd
              simp only at ek ey
              subst ek
              simp only at ey
              subst ey
              cases hz:dX p R.k R.x ⟨.sl e kk,(show List (El kk) from xs).take m⟩ with
              | none=>rw [hz] at h8; exact h8.elim
              | some z=>
                rw [hz] at h8
                rw [aC h8]
                obtain ⟨b0,c,ev,h3⟩:=h3
                obtain ⟨fT,hown,q,wh,hn,hmq⟩:=h3 R hr.1 hv (an1 c1) _ hg
                obtain ⟨_,cs,b,o',hn2,ep⟩:=h1.2 R hr.1 hv c3 hown (by rw [hg]; rfl)
                rw [hn] at hn2
                simp only [anX,an8] at hn2
                obtain ⟨rfl,rfl⟩:=hn2
                obtain ⟨w',r1,α',F',r2⟩:=QL (P:=P) ht H hr hv hg hz fT hown hall hn (v:=.slice b0 m c) ⟨_,_,_,rfl⟩ (lw:=eT R p :: (K.sl e kk).tys) (by simp) (fun fP ok hO hnd hsub=>by
                  unfold Ow at hO
                  have he:az e R.own=true:=hall e (by simp [K.tys])
                  rw [if_pos he] at hO
                  obtain ⟨a0,n',c',e1,e2,e3,hO⟩:=hO
                  simp only [List.cons.injEq,Value.slice.injEq,and_true] at e1
                  obtain ⟨rfl,rfl,rfl⟩:=e1
                  have e2:q=@List.length (El kk) xs:=e2
                  have hmx:m≤@List.length (El kk) xs:=by omega
                  have hlen:(@List.take (El kk) m xs).length=m:=by rw [List.length_take]; omega
                  rcases hO with ⟨hc0,hf0⟩ | ⟨bb,o0,arr,lo,hi,ea,hb,hfr,hs,bD,hl,hp0,hO⟩
                  · refine ⟨[],List.nodup_nil,by simp, ?_⟩
                    unfold Ow
                    rw [if_pos he]
                    exact ⟨b0,m,c,rfl,hlen.symm,by omega, .inl ⟨hc0,rfl⟩⟩
                  · have hl:bD.length=(show List (El kk) from xs).length:=hl
                    have qR:=hp0.nodup hnd
                    have Yf:((bD.take m).flatten).Sublist bD.flatten:=by
                      have:(bD.take m++bD.drop m).flatten=bD.flatten:=by rw [List.take_append_drop]
                      rw [←this,List.flatten_append]
                      exact List.sublist_append_left _ _
                    refine ⟨bb :: (bD.take m).flatten,(aou.2 ⟨fun h=>(aou.1 qR).1 (Yf.subset h),(aou.1 qR).2.sublist Yf⟩),fun b' hb'=>.inl (hp0.mem_iff.2 (by
                      rcases an9.1 hb' with h | h
                      · rw [h]; exact aot
                      · exact aol _ (Yf.subset h))), ?_⟩
                    have hOO:Ow (hp w) R.own (fun _=>False) (.sl e kk) (show List (El kk) from (show List (El kk) from xs).take m) [.slice b0 m c] (bb :: (bD.take m).flatten):=by
                      unfold Ow
                      rw [if_pos he]
                      refine ⟨b0,m,c,rfl,hlen.symm,by omega, .inr ⟨bb,o0,arr,lo,hi,ea,hb,hfr,hs,bD.take m,by show (bD.take m).length=((show List (El kk) from xs).take m).length; simp [hl], .refl _,fun i hi'=>?_⟩⟩
                      have hi2:i<((show List (El kk) from xs).take m).length:=hi'
                      have hi3:i<m∧i < @List.length (El kk) xs:=by
                        have h9:i<(@List.take (El kk) m xs).length:=hi'
                        rw [hlen] at h9; omega
                      obtain ⟨ds,g1,g2⟩:=hO i hi3.2
                      refine ⟨ds,g1, ?_⟩
                      have e1:(show List (El kk) from (show List (El kk) from xs).take m)[i]'hi'=(show List (El kk) from xs)[i]'hi3.2:=by
                        show ((show List (El kk) from xs).take m)[i]=_
                        simp
                      have e2:(bD.take m).getD i []=bD.getD i []:=by simp [aoa,List.getElem?_take,hi3.1]
                      rw [e1,e2]
                      exact gH (dA (fun t ht=>hall t (by simp [K.tys,ht]))) g2
                    exact hOO)
                refine ⟨undef,w',α',F', .inr ⟨?_,rfl⟩, ?_⟩
                · simp only [execOp,ho,ep,ev,aom,r1,aof,aor]
                · rw [hd]
                  exact r2
        · exact h8.elim
      · exact h5.elim
    | _=>exact h.elim
  | _=>exact h.elim
end
section
variable {P:Program} {T:iV} {cx:Cx} {σ:St} {α:dL} {F:List Nat} {a:Act} {w:World} {o:Oper} {d:Nat} {ws:List Wr} {r:Nat} {R:Root}
theorem UX {t u ty e:TypeId} {kk:K} (ht:fK P T t (.sl e kk)) {own:List TypeId} {ok:Nat→Prop} {xs:List (El kk)} {b:Option Addr} {n c:Nat} {x:Value} {xV:List Nat} {news:List Value}
    (hO:Ow (hp w) own ok (.sl e kk) xs [.slice b n c] xV) (hown:az e own=true) (hS:Src P w kk.size u x 1 news) (hb:(xs.length+1) * T.bytes e≤140737488355328) :
    ∃w' b1 o1 c1 arr lo hi,(Builtin.append_ #[t,u] ty #[.slice b n c,x]).run P w=.ok (.slice (some ⟨b1,o1,none⟩) (n+1) c1) w'∧(w'.os=w.os∧w'.tape=w.tape∧w'.output=w.output)∧w.heap.size≤w'.heap.size∧n+1≤c1∧n=xs.length∧
      hp w' b1=some (.cells arr e (lo,hi))∧(∀i,i<arr.size→¬(lo≤i∧i<hi))∧o1+c1 * kk.size≤arr.size∧Cells (hp w') b1 (o1+n * kk.size) news∧(∀b',b'<w.heap.size→b'≠b1→hp w' b'=hp w b')∧
      ((b=some ⟨b1,o1,none⟩∧c=c1∧b1∈xV∧qQ (hp w) b1=some e∧gQ (hp w) (hp w') b1 (o1+n * kk.size) kk.size)∨
       (b1=w.heap.size∧w.heap.size<w'.heap.size∧(0<n→∃b0 o0,b=some ⟨b0,o0,none⟩∧b0∈xV∧∀i,i<n * kk.size→cellAt (hp w') b1 (o1+i)=cellAt (hp w) b0 (o0+i)))):=by
  have hnl:news.length=kk.size:=by simpa using hS.nl
  unfold Ow at hO
  rw [if_pos hown] at hO
  obtain ⟨a,n',c',e1,e2,e3,hO⟩:=hO
  simp only [List.cons.injEq,Value.slice.injEq,and_true] at e1
  obtain ⟨rfl,rfl,rfl⟩:=e1
  have e2':n=xs.length:=e2
  by_cases hr:n+1≤c
  · have hrun:=xZ (ty:=ty) ht hS (b:=b) (n:=n) hr
    rcases hO with ⟨hc0,_⟩ | ⟨bb,q,arr,lo,hi,ea,hbk,hf,hs,wS,hl0,hp0,hO⟩
    · omega
    · subst ea
      have hle:(n+1) * kk.size≤c * kk.size:=aos _ hr
      rw [Nat.add_mul,Nat.one_mul] at hle
      have hst:=mP (P:=P) (o:=q+n * kk.size) news hbk hf (by rw [hnl]; omega) hS.one
      simp only [Result.andThen,addr_add,hst] at hrun
      obtain ⟨s1,s2,kL,s3,s4,s5,s6⟩:=uI bb news w arr e (lo,hi) (q+n * kk.size) hbk (by rw [hnl]; omega)
      refine ⟨_,bb,q,c,kL,lo,hi,hrun,qh bb news w _,by omega,hr,e2',s3,by rw [s4]; exact hf,by rw [s4]; exact hs,fun i hi'=>?_,fun b' _ h=>s1 b' h, .inl ⟨rfl,rfl,hp0.mem_iff.2 (by simp),by unfold qQ; rw [hbk],arr,kL,e,(lo,hi),hbk,s3,s4,fun i hi'=>?_⟩⟩
      · unfold cellAt
        rw [s3]
        exact s5 i hi'
      · exact s6 i (by rw [hnl]; exact hi')
  · obtain ⟨olds,ho1,ho2,ho3⟩:∃olds:List Value,olds.length=n * kk.size∧(Builtin.firstCells kk.size n (.slice b n c)).run P w.drew=.ok olds.toArray w.drew∧(0<n→∃b0 o0,b=some ⟨b0,o0,none⟩∧b0∈xV∧∀i,i<n * kk.size→olds[i]?=cellAt (hp w) b0 (o0+i)):=by
      rcases hO with ⟨hc0,hf0⟩ | ⟨bb,q,arr,lo,hi,ea,hbk,hf,hs,wS,hl0,hp0,hO⟩
      · have hn0:n=0:=by omega
        subst hn0
        refine ⟨[],by simp, ?_,fun h=>by omega⟩
        cases b with
        | none=>exact run_firstCells_none w.drew kk.size 0 0 c
        | some ad=>exact run_firstCells_some (P:=P) w.drew kk.size 0 ad 0 c [] (by simp) (fun j v hj=>by simp at hj)
      · subst ea
        have hle:n * kk.size≤c * kk.size:=aos _ e3
        have hrow:=Fg (n:=n * kk.size) hbk (by omega:q+n * kk.size≤arr.size)
        have hrl:(qg (hp w) bb q (n * kk.size)).length=n * kk.size:=by simp [qg]
        refine ⟨qg (hp w) bb q (n * kk.size),hrl, ?_,fun _=>⟨bb,q,rfl,hp0.mem_iff.2 (by simp),fun i hi'=>(hrow i (by rw [hrl]; exact hi')).symm⟩⟩
        refine run_firstCells_some (P:=P) w.drew kk.size n ⟨bb,q,none⟩ n c _ hrl (fun j v hj=>?_)
        rw [addr_add,zq]
        have:=hrow j (by rw [hrl]; have:=(List.getElem?_eq_some_iff.1 hj).1; rw [hrl] at this; exact this)
        rw [hj] at this
        exact this
    obtain ⟨nc,hnc,hrun⟩:=BB (ty:=ty) ht hS ho2 hr (by rw [e2']; exact hb)
    have hnew:=rV w.drew (.cells (olds.toArray++news.toArray++Builtin.zeroCells (sJ kk).cells (nc - (n+1))) e)
    have hold:∀b',b'<w.heap.size→hp (w.drew.alloc (.cells (olds.toArray++news.toArray++Builtin.zeroCells (sJ kk).cells (nc - (n+1))) e)) b'=hp w b':=fun b' h=>pI w.drew _ h
    have hws:w.drew.heap.size=w.heap.size:=rfl
    rw [hws] at hnew
    have hsz2:(w.drew.alloc (.cells (olds.toArray++news.toArray++Builtin.zeroCells (sJ kk).cells (nc - (n+1))) e)).heap.size=w.heap.size+1:=Array.size_push ..
    have hzl:(sJ kk).cells.size=kk.size:=by
      rw [wQ ht.sl.2.1.shape]
      simpa using dh (yZ (h:=hp w) (own:=own) (ok:=ok) ht.sl.2.1.eX)
    have hcell:∀q,q<(olds++news).length→cellAt (hp (w.drew.alloc (.cells (olds.toArray++news.toArray++Builtin.zeroCells (sJ kk).cells (nc - (n+1))) e))) w.heap.size (0+q)=(olds++news)[q]?:=by
      intro q hq
      unfold cellAt
      rw [hnew]
      simp only [Nat.zero_add]
      rw [Array.getElem?_append_left (by simpa using hq)]
      simp
    refine ⟨_,w.heap.size,0,nc,_,0,0,hrun,⟨rfl,rfl,rfl⟩,by omega,hnc,e2',hnew,fun i hi=>by omega, ?_,fun i hi=>?_,fun b' h1 _=>hold b' h1, .inr ⟨rfl,by omega,fun hn=>?_⟩⟩
    · simp only [Array.size_append,List.size_toArray,size_zeroCells,hzl,ho1,hnl]
      have h9:n * kk.size+kk.size+(nc - (n+1)) * kk.size=(n+1+(nc - (n+1))) * kk.size:=by rw [Nat.add_mul,Nat.add_mul,Nat.one_mul]
      rw [h9]
      have:n+1+(nc - (n+1))=nc:=by omega
      rw [this]
      omega
    · rw [Nat.add_assoc,hcell _ (by rw [an5,ho1]; omega),List.getElem?_append_right (by omega),ho1]
      congr 1
      omega
    · obtain ⟨b0,o0,z1,z2,z3⟩:=ho3 hn
      refine ⟨b0,o0,z1,z2,fun i hi=>?_⟩
      rw [hcell _ (by rw [an5,ho1]; omega),List.getElem?_append_left (by rw [ho1]; exact hi)]
      exact z3 i hi
end
section
variable {P:Program} {T:iV} {cx:Cx} {σ:St} {α:dL} {F:List Nat} {a:Act} {w:World} {o:Oper} {d:Nat} {ws:List Wr} {r:Nat} {R:Root}
theorem UL {h h':Heap} {own:List TypeId} {ok ok':Nat→Prop} {e:TypeId} {kk:K} {xs:List (El kk)} {b1 o1 n c:Nat} {fo:List Nat} (hall:∀t∈(K.sl e kk).tys,az t own=true) (hnd:fo.Nodup)
    (H:Ow h own ok (.sl e kk) xs [.slice (some ⟨b1,o1,none⟩) n c] fo) (hb1:b1∈fo) (hs:gQ h h' b1 (o1+n * kk.size) kk.size) (ho:∀b∈fo,b≠b1→h' b=h b):Ow h' own ok' (.sl e kk) xs [.slice (some ⟨b1,o1,none⟩) n c] fo:=by
  have he:az e own=true:=hall e (by simp [K.tys])
  unfold Ow at H ⊢
  rw [if_pos he] at H ⊢
  obtain ⟨a,n',c',e1,e2,e3,H⟩:=H
  simp only [List.cons.injEq,Value.slice.injEq,and_true] at e1
  obtain ⟨rfl,rfl,rfl⟩:=e1
  have e2':n=xs.length:=e2
  refine ⟨_,n,c,rfl,e2,e3, ?_⟩
  rcases H with ⟨hc0,hf0⟩ | ⟨bb,q,arr,lo,hi,ea,hbk,hf,hsz,bD,hl,hp,H⟩
  · rw [hf0] at hb1; simp at hb1
  · simp only [anX,Addr.mk.injEq,and_true] at ea
    obtain ⟨rfl,rfl⟩:=ea
    obtain ⟨ajS,kL,te,fr,s1,s2,s3,s4⟩:=hs
    rw [hbk] at s1
    simp only [anX,Obj.cells.injEq] at s1
    obtain ⟨rfl,rfl,rfl⟩:=s1
    have qR:=hp.nodup hnd
    refine .inr ⟨b1,o1,kL,lo,hi,rfl,s2,by rw [s3]; exact hf,by rw [s3]; exact hsz,bD,hl,hp,fun i hi'=>?_⟩
    obtain ⟨ds,g1,g2⟩:=H i hi'
    have hds:=dh g2
    refine ⟨ds,fun j hj=>?_, ?_⟩
    · have:=g1 j hj
      unfold cellAt at this ⊢
      rw [hbk] at this
      rw [s2]
      simp only at this ⊢
      have hlt:(i+1) * kk.size≤n * kk.size:=aos _ (by have:i<xs.length:=hi'; omega)
      rw [Nat.add_mul,Nat.one_mul] at hlt
      rw [s4 _ (by omega)]
      exact this
    · refine gH (dA (fun t ht=>hall t (by simp [K.tys,ht]))) (bz (ok:=fun _=>False) (ok':=fun _=>False) (fun _ h=>h.elim) (fun _ h=>h) (fun b' hb'=>?_) (gH (dA (fun t ht=>hall t (by simp [K.tys,ht]))) g2))
      have hm:=sj hb'
      exact ho b' (hp.mem_iff.2 (aol _ hm)) (fun e=>(aou.1 qR).1 (e▸hm))
end
section
variable {P:Program} {T:iV} {cx:Cx} {σ:St} {α:dL} {F:List Nat} {a:Act} {w:World} {o:Oper} {d:Nat} {ws:List Wr} {r:Nat} {R:Root}
theorem Z6 (hT:eF P T) (H:Rel cx σ α F a w) (hd:o.dst=some d) (hdn:d<cx.nt) {c:Call} (ho:o.op=.call c) (hcb:c.callee=.builtin .append) {u v:AV} {t:TypeId} {e1:TypeId} {k1:K} (hl:dR cx σ α F w [u,v] (c.args.toList.map a.eval))
    (hat:c.argTypes[0]?=some t) (ht1:(c.argTypes[1]?).bind T.ty=some (.sl e1 k1)) (h:(acL T d t u v fun ws=>(.ret ws:Prog (List Wr))).ends σ ws):qU P cx o a w (aB ws σ):=by
  obtain ⟨x,y,hxy,hu,hv0⟩:=Ld hl
  obtain ⟨t2,aak,ht2⟩:=uU hT ht1
  unfold acL at h
  split at h
  · rename_i e kk r p n0 rb gb hty
    have ht:=hT.ty t _ hty
    obtain ⟨B,hrB,hvB,h⟩:=cB h
    rcases aA h with ⟨hc,h5⟩ | ⟨_,h5⟩
    · clear h
      simp only [an3,Bool.not_eq_true',aV] at hc
      obtain ⟨⟨⟨⟨⟨c1,c2⟩,c3⟩,c4⟩,c5⟩,c6⟩:=hc
      have hne:r≠rb:=fun e=>by rw [e] at c3; simp at c3
      have XI:=ku c6
      cases hcB:bP B.k (.sl e kk) B.x with
      | none=>rw [hcB] at h5; exact h5.elim
      | some ys=>
        rw [hcB] at h5
        simp only at h5
        obtain ⟨R,hr,hv,h6⟩:=cB h5
        rcases aA h6 with ⟨hc2,h7⟩ | ⟨_,h7⟩
        · clear h5 h6
          simp only [an3] at hc2
          obtain ⟨⟨⟨q1,q2⟩,q3⟩,q4⟩:=hc2
          have hall:=ku q3
          cases hg:aS p R.k R.x with
          | none=>rw [hg] at h7; exact h7.elim
          | some dd=>
            rw [hg] at h7
            simp only at h7
            cases hck:bP dd.1 (.sl e kk) dd.2 with
            | none=>rw [hck] at h7; exact h7.elim
            | some xs=>
              rw [hck] at h7
              simp only at h7
              obtain ⟨ek,ey⟩:=bM hck
              obtain ⟨dk,dx⟩:=dd
              simp only at ek ey
              subst ek
              simp only at ey
              subst ey
              cases hz:dX p R.k R.x ⟨.sl e kk,xs⟩ with
              | none=>rw [hz] at h7; exact h7.elim
              | some z=>
                rw [hz] at h7
                simp only at h7
                obtain ⟨⟨hy1,hbd⟩,h8⟩:=h7
                obtain ⟨hfr,h9⟩:=fQ h8
                rw [aC h9]
                obtain ⟨hkB,hVB⟩:=hv0 B hrB (an1 c1)
                obtain ⟨ekB,eyB⟩:=bM hcB
                obtain ⟨H1,T1,hH,hcl⟩:=kill H hrB hkB hvB
                have hSr:Same σ α (au σ rb bT) (jK α rb) r:=iw hne
                have hr1:=(hSr.live R).2 hr
                have htB:∀n,(rb,n)∉R.tags:=fun n hn=>by
                  have:=aoc.1 q4 _ hn
                  simp at this
                have hv1:bu (au σ rb bT) R:=⟨hv.1,by rw [mK htB]; exact hv.2⟩
                obtain ⟨fT,hown,cs,wh,hn,FZ⟩:=hu R hr.1 hv (an1 q1) _ hg
                have hn1:bG (hp w) p R.k ((jK α rb).hdr r) (dU (jK α rb) R r)=some (cs,wh):=by rw [hSr.hdr,hSr.wh]; exact hn
                obtain ⟨fd,ok',fP,rest,pU,nG,hn',hpf,hd1,anc,_,zJ,hwf,hgo⟩:=H1.place hr1 hv1 (own':=R.own) hg fT (fun t h=>h) hown
                rw [hn1] at hn'
                simp only [anX,an8] at hn'
                obtain ⟨rfl,rfl⟩:=hn'
                have K1:=H1.roots r R hr1
                have hnd:=K1.nd
                rw [bW,ny] at hnd
                have X6:=hpf.nodup hnd.2
                have TU:∀b∈fP,b∈(jK α rb).fo r:=fun b hb=>hpf.mem_iff.2 (an2 _ (an2 _ hb))
                have XV:=(an4.1 (an4.1 X6).1).1
                have F4:∀b∈fP,b<w.heap.size:=fun b hb=>(K1.mine b (by rw [bW,fu]; exact .inr (TU b hb))).1
                have abq:∀b∈fP,b∉α.fo rb++F:=fun b hb=>H1.iX r R hr1 b (by rw [bW,fu]; exact .inr (TU b hb))
                have hhd:∃b n c,a.eval x=.slice b n c∧cs=[.slice b n c]:=by
                  have hO:=hd1
                  unfold Ow at hO
                  rw [if_pos (hall e (by simp [K.tys]))] at hO
                  obtain ⟨b,n,c,e1,_⟩:=hO
                  have hV1:=FZ.1
                  rw [e1] at hV1
                  simp only [List.cons.injEq,and_true] at hV1
                  exact ⟨b,n,c,hV1.symm,e1⟩
                obtain ⟨b,n,cp,evx,rfl⟩:=hhd
                have hlen1 : @List.length (El kk) ys=1:=hy1
                have hOB:Ow (hp w) B.own (iQ cx (au σ rb bT) (jK α rb) (α.fo rb++F) w B.tags) (.sl e kk) ys (α.hdr rb) (α.fo rb):=by
                  have h0:=hH.ow hcl
                  exact ze ekB eyB h0
                have akp:VC (.sl e kk) (a.eval y) (α.hdr rb):=ekB▸hVB
                obtain ⟨news,hS,bD,hfl,Oc,agn,hE⟩:=YS (P:=P) (u:=t2) (.inl ⟨_,ht2.sl.1⟩) ht.sl.2.1.eX akp (XI e (by simp [K.tys])) hOB hH.nd
                rw [hlen1] at hS
                have hnl:news.length=kk.size:=by simpa using hS.nl
                have ade:0 < @List.length (El kk) ys:=by omega
                have hE0:=hE 0 ade
                have hseg:nC news kk.size 0=news:=by
                  unfold nC
                  simp only [Nat.zero_mul,List.drop_zero]
                  exact List.take_of_length_le (by omega)
                rw [hseg] at hE0
                generalize hfe:bD.getD 0 []=fe at hE0
                have aao:∀b∈fe,b∈α.fo rb:=fun b hb=>agn b (sj (by rw [hfe]; exact hb))
                have abp:fe.Nodup:=by
                  have:bD=[fe]:=by
                    cases bD with
                    | nil=>simp [hlen1] at hfl
                    | cons f l=>cases l with
                      | nil=>simp at hfe; rw [hfe]
                      | cons _ _=>simp [hlen1] at hfl
                  rw [this] at Oc
                  simpa using Oc
                obtain ⟨w',b1,o1,c1',arr,lo,hi,hrun,hos,hsz,hnc,hnx,hblk1,agm,hsize,hcells,hoth,hcase⟩:=UX (P:=P) (u:=t2) (ty:=o.type) (x:=a.eval y) ht hd1 (hall e (by simp [K.tys])) hS hbd
                obtain ⟨F',hF1,hF2,hF3,hF4⟩:∃F':List Nat,(∀b∈F',b∈α.fo rb++F∨(w.heap.size≤b∧b<w'.heap.size))∧F'.Nodup∧(∀b∈α.fo rb++F,b∈F')∧(b1=w.heap.size→w.heap.size<w'.heap.size→b1∈F'):=by
                  by_cases hs:w.heap.size<w'.heap.size
                  · refine ⟨w.heap.size :: (α.fo rb++F),fun b hb=>?_,aou.2 ⟨fun hm=>?_,H1.zG⟩,fun b hb=>aol _ hb,fun e _=>by rw [e]; exact aot⟩
                    · rcases an9.1 hb with h | h
                      · exact .inr ⟨by omega,by omega⟩
                      · exact .inl h
                    · have:=(H1.fl _ hm).1; omega
                  · exact ⟨α.fo rb++F,fun b hb=>.inl hb,H1.zG,fun b hb=>hb,fun _ h=>absurd h hs⟩
                have ac8:∀b∈fP,b∉F':=fun b hb hm=>by
                  rcases hF1 b hm with h | h
                  · exact abq b hb h
                  · have:=F4 b hb; omega
                have Yc:∀b',b'<w.heap.size→b'∉fP→hp w' b'=hp w b':=fun b' hlt hno=>hoth b' hlt (fun e=>by
                  rcases hcase with ⟨_,_,h,_⟩ | ⟨h,_⟩
                  · exact hno (e▸h)
                  · omega)
                have hP:sU cx (au σ rb bT) (jK α rb) (α.fo rb++F) w r R p ⟨.sl e kk,xs⟩ R.own [.slice b n cp] wh fP rest ⟨.sl e kk,xs⟩ z R.tags [e] (K.sl e kk).tys R.keep fP F' [.slice b n cp] w':=by
                  have hnt:=H1.dz r R hr1.1
                  refine ⟨hz,rfl,fun _ h=>h,hos,hsz,fun b' hlt hne'=>?_,fun b' o' e'=>?_,fun _=>rfl,rfl, .inl (by simp),⟨fun _ h=>h,hnt.1,hnt.2.2⟩,fun b' hb'=>.inl hb',XV,fun b' hb'=>(hF1 b' hb').imp id .inl,hF2,ac8, .inl rfl, .inl rfl,fun _ q c0 w0 hpq Yg hnq hqs=>?_,fun α' Tn hblk hval=>?_⟩
                  · refine .inr (.inl ?_)
                    by_cases e':b'=b1
                    · rcases hcase with ⟨_,_,h1,h2,_⟩ | ⟨h,_⟩
                      · exact ⟨e'▸h1,e,by simp,e'▸h2⟩
                      · omega
                    · exact absurd (hoth b' hlt e') hne'
                  · obtain ⟨m1,_,m2,⟨ajS,te,l0,h0,m3,_⟩,_⟩:=qd H1 hr1 hv1 hg fT hown (by rw [hn1,e'])
                    have hlt:=(K1.mine b' m2).1
                    have hs:=Yc b' hlt (hwf b' o' e')
                    exact ⟨m1.congr hs,gQ.of_same _ _ m3 hs⟩
                  · cases q with
                    | nil=>
                      simp only [bG,anX,an8] at hnq
                      exact ⟨trivial,[.slice b n cp],by simp only [bG]; rw [hnq.2]⟩
                    | cons s q=>
                      cases s with
                      | fO n=>exact hpq.elim
                      | idx i=>exact absurd (show e∈(K.sl e kk).tys by simp [K.tys]) (Yg e (by simp [ah])).2
                  · rcases hcase with ⟨hb,_,h1,h2,h3⟩ | ⟨hb,_⟩
                    · rw [hb] at hd1 ⊢
                      refine UL hall XV hd1 h1 h3 (fun b' hb' hne'=>hoth b' (F4 b' hb') hne')
                    · exact gH (dA hall) (bz (ok:=fun _=>False) (ok':=fun _=>False) (fun _ h=>h.elim) (fun _ h=>h) (fun b' hb'=>hoth b' (F4 b' hb') (fun e=>by have:=F4 b' hb'; omega)) (gH (dA hall) hd1))
                obtain ⟨Dy,hR2,hT2,hb2,adm,XW⟩:=hgo hP
                have hqr:aZ d 0≠r:=fun e=>by have:=hr.1; rw [←e,hfr] at this; simp at this
                have hqB:aZ d 0≠rb:=fun e=>by have:=hrB.1; rw [←e,hfr] at this; simp at this
                have hq0:(au (au σ rb bT) r (bH R z R.own R.tags [e] (K.sl e kk).tys R.keep)).roots (aZ d 0)=none:=by
                  rw [bU _ _ hqr,bU _ _ hqB]; exact hfr
                obtain ⟨hqv,foq,akE,akF,akG,akH⟩:∃(hqv:Value) (foq:List Nat),(∀b'∈foq,b'∈F')∧foq.Nodup∧
                    Ow (hp w') (e :: kk.tys) (fun _=>False) (Pp e kk) ((show List (El kk) from ys).getD 0 kk.zero,(([]:List Unit),())) (news++[hqv]) foq∧
                    ((b=some ⟨b1,o1,none⟩∧b1∈fP∧hqv=.slice none 0 0∧cp=c1')∨(hqv=.slice (some ⟨b1,o1,none⟩) 0 c1'∧b1∈foq∧(0<n→∃b0 o0,b=some ⟨b0,o0,none⟩∧b0∈fP∧∀i,i<n * kk.size→cellAt (hp w') b1 (o1+i)=cellAt (hp w') b0 (o0+i)))):=by
                  have abo:∀b'∈fe,b'<w.heap.size:=fun b' hb'=>(H1.fl b' (an2 _ (aao b' hb'))).1
                  have agk:∀b'∈fe,b'∉fP:=fun b' hb' h=>abq b' h (an2 _ (aao b' hb'))
                  have hy0:(show List (El kk) from ys).getD 0 kk.zero=@getElem (List (El kk)) Nat (El kk) _ _ ys 0 ade:=bZ ade
                  have hOe:Ow (hp w') (e :: kk.tys) (fun _=>False) kk ((show List (El kk) from ys).getD 0 kk.zero) news fe:=by
                    rw [hy0]
                    have h1:=gH (ok':=fun _=>False) (dA (fun t ht=>XI t (by simp [K.tys,ht]))) hE0
                    have h2:=bz (h':=hp w') (ok':=fun _=>False) (fun _ h=>h.elim) (fun _ h=>h) (fun b' hb'=>Yc b' (abo b' hb') (agk b' hb')) h1
                    exact rQ (fun t ht=>by rw [aM.2 (aol _ ht),XI t (by simp [K.tys,ht])]) h2
                  rcases hcase with ⟨hb,hcc,h1,h2,h3⟩ | ⟨hb,hlt,hcp⟩
                  · refine ⟨.slice none 0 0,fe,fun b' hb'=>hF3 b' (an2 _ (aao b' hb')),abp, ?_, .inl ⟨hb,h1,rfl,hcc⟩⟩
                    exact ⟨news,[.slice none 0 0],fe,[],rfl,by simp,hOe,[.slice none 0 0],[],[],[],rfl,by simp,yG,rfl,rfl⟩
                  · refine ⟨.slice (some ⟨b1,o1,none⟩) 0 c1',fe++[b1],fun b' hb'=>?_,an4.2 ⟨abp,by simp,fun b' h1 b2 h2 e=>by
                        simp only [aog] at h2
                        subst h2
                        have:=abo b' h1
                        omega⟩, ?_, .inr ⟨rfl,by simp,fun hn0=>?_⟩⟩
                    · rcases an6.1 hb' with h | h
                      · exact hF3 b' (an2 _ (aao b' h))
                      · simp only [aog] at h
                        rw [h]
                        exact hF4 hb hlt
                    · refine ⟨news,[.slice (some ⟨b1,o1,none⟩) 0 c1'],fe,[b1],rfl, .refl _,hOe,[.slice (some ⟨b1,o1,none⟩) 0 c1'],[],[b1],[],rfl,by simp, ?_,rfl,rfl⟩
                      have hOs:Ow (hp w') (e :: kk.tys) (fun _=>False) (.sl e (.gap kk.size)) (show List (El (.gap kk.size)) from []) [.slice (some ⟨b1,o1,none⟩) 0 c1'] [b1]:=by
                        unfold Ow
                        rw [if_pos (aM.2 aot)]
                        exact ⟨_,0,c1',rfl,rfl,aov _, .inr ⟨b1,o1,arr,lo,hi,rfl,hblk1,agm,hsize,[],rfl,by simp,fun i hi'=>absurd hi' (Nat.not_lt_zero _)⟩⟩
                      exact hOs
                    · obtain ⟨b0,o0,z1,z2,z3⟩:=hcp hn0
                      have hs0:hp w' b0=hp w b0:=hoth b0 (F4 b0 z2) (fun e=>by have:=F4 b0 z2; omega)
                      exact ⟨b0,o0,z1,z2,fun i hi'=>by rw [z3 i hi',vv hs0]⟩
                have hkq:(aL (Pp e kk) ((show List (El kk) from ys).getD 0 kk.zero,(([]:List Unit),())) (e :: kk.tys) [] .anon).kind=.anon:=rfl
                obtain ⟨A1,A2⟩:=Pm (R':=aL (Pp e kk) ((show List (El kk) from ys).getD 0 kk.zero,(([]:List Unit),())) (e :: kk.tys) [] .anon) hR2 hq0 (fB d 0) rfl (by simp [aL]) (fun t ht=>by simp [aL] at ht) (0,0) (news++[hqv]) foq []
                  (fun b' hb'=>by rw [gY hkq] at hb'; exact ⟨akE b' hb',by simp⟩) (by rw [gY hkq]; exact akF) (fun b' hb'=>by simp at hb') List.nodup_nil
                  (fun _=>bz (fun _ h=>h.elim) (fun _ h=>h.elim) (fun _ _=>rfl) akG) (by simp [aL,K.size,hnl]) (fun b' o' hb'=>by rw [yY hkq] at hb'; simp at hb')
                have Ua:(Builtin.append_ #[t,t2] o.type #[a.eval x,a.eval y]).run P w=.ok (.slice (some ⟨b1,o1,none⟩) (n+1) c1') w':=by rw [evx]; exact hrun
                refine iW (x:=.one (.app r p (gJ (e :: R.w)+gJ ((K.sl e kk).tys++R.h)) (aZ d 0))) A1 hd hdn (mO ho hcb hxy hat aak Ua) ?_ ?_
                · intro R2 acY agP _ Q2 hQ2 _
                  rw [bU _ _ hqr.symm,aI] at acY
                  simp only [anX] at acY
                  subst acY
                  obtain ⟨rfl,_⟩:=eU hQ2
                  have hv2:bu (au (au σ rb bT) r (bH R z R.own R.tags [e] (K.sl e kk).tys R.keep)) (bH R z R.own R.tags [e] (K.sl e kk).tys R.keep):=by
                    refine ⟨agP.1, ?_⟩
                    have h0:=agP.2
                    rw [mK] at h0
                    · exact h0
                    · intro m hm
                      have hm':(aZ d 0,m)∈R.tags:=hm
                      rcases (H.dz r R hr.1).1 _ hm' with h | ⟨Q,h1,_⟩
                      · simp only [fB] at h; simp at h
                      · simp only at h1; rw [hfr] at h1; simp at h1
                  have Cm:=adm c5 hv2
                  have hd2:(aG Dy (aZ d 0) (0,0) (news++[hqv]) foq).hdr r=Dy.hdr r:=upd_ne _ _ hqr.symm
                  have hw2:dU (aG Dy (aZ d 0) (0,0) (news++[hqv]) foq) (bH R z R.own R.tags [e] (K.sl e kk).tys R.keep) r=dU Dy (bH R z R.own R.tags [e] (K.sl e kk).tys R.keep) r:=by
                    unfold dU; simp [aG,upd_ne _ _ hqr.symm]
                  have hf2:(aG Dy (aZ d 0) (0,0) (news++[hqv]) foq).fo r=Dy.fo r:=upd_ne _ _ hqr.symm
                  obtain ⟨g1,g2,g3,g4⟩:=MG (h:=hp w') p c4 hg hz rfl
                  refine ⟨e,kk,xs,wh,b,n,cp,news,hqv,b1,o1,c1',arr,lo,hi,g1,g2,fun t ht=>?_,by rw [hd2,hw2]; exact Cm,⟨rfl,rfl⟩,by simp [aG,upd_same],hnl,rfl,hnc,hblk1,agm,hsize,hcells, ?_⟩
                  · have ht':t∈ah p z.1:=ht
                    rw [g3] at ht'
                    simp at ht'
                  · rcases akH with ⟨z1,z2,z3⟩ | ⟨z1,z2,z3⟩
                    · exact .inl ⟨z1,by rw [hf2]; exact XW b1 z2,z3⟩
                    · refine .inr ⟨z1,by simp only [aG,upd_same]; exact z2,fun hn0=>?_⟩
                      obtain ⟨b0,o0,y1,y2,y3⟩:=z3 hn0
                      exact ⟨b0,o0,y1,by rw [hf2]; exact XW b0 y2,y3⟩
                · refine ⟨⟨bH R z R.own R.tags [e] (K.sl e kk).tys R.keep, ?_, .inr (aod _)⟩,_,aI ..⟩
                  rw [bU _ _ hqr.symm,aI]
        · exact h7.elim
    · exact h5.elim
  · exact h.elim
end
section
variable {P:Program} {T:iV} {cx:Cx} {σ:St} {α:dL} {F:List Nat} {a:Act} {w:World} {o:Oper} {d:Nat} {ws:List Wr} {r:Nat} {R:Root}
theorem NU (hT:eF P T) (H:Rel cx σ α F a w) (hd:o.dst=none) {t:TypeId} {x y:Operand} (ho:o.op=.store t x y) {u:AV} {r n q:Nat} {p:List Stp} {k0:K} (hk0:T.ty t=some k0) (h1:bI cx σ α F w u (a.eval x)) (h2:rR σ u) (h3:bI cx σ α F w (.app r p n q) (a.eval y))
    (h:(FP k0 u r p n q fun ws=>(.ret ws:Prog (List Wr))).ends σ ws):qU P cx o a w (aB ws σ):=by
  have ht:=hT.ty t k0 hk0
  cases k0 with
  | sl e kk=>
    cases u with
    | ptr r' p' h0=>
      simp only [FP] at h
      rcases aA h with ⟨hc,h5⟩ | ⟨_,h5⟩
      · clear h
        simp only [an3,Bool.not_eq_true'] at hc
        obtain ⟨⟨⟨c1,c2⟩,c3⟩,c4⟩:=hc
        have hne:r≠q:=fun e=>by rw [e] at c4; simp at c4
        have er:=an1 c1
        have abr:p'.all Stp.qL=true:=VP c2 c3
        have ep:=Qn c2 (by rw [ML c3,ML abr])
        subst er ep
        obtain ⟨Q,hrQ,hvQ,h6⟩:=cB h5
        rcases aA h6 with ⟨hcQ,h7⟩ | ⟨_,h7⟩
        · clear h5 h6
          simp only [an3] at hcQ
          have XJ:=ku hcQ.2
          cases ac3:bP Q.k (Pp e kk) Q.x with
          | none=>rw [ac3] at h7; exact h7.elim
          | some yq=>
            rw [ac3] at h7
            simp only at h7
            obtain ⟨R,hr,hv,h8⟩:=cB h7
            rcases aA h8 with ⟨hcR,h9⟩ | ⟨_,h9⟩
            · clear h7 h8
              simp only [an3] at hcR
              obtain ⟨⟨⟨⟨d1,d2⟩,d3⟩,d4⟩,d5⟩:=hcR
              have hall:=ku d4
              cases hg:aS p R.k R.x with
              | none=>rw [hg] at h9; exact h9.elim
              | some dd=>
                rw [hg] at h9
                simp only at h9
                cases hck:bP dd.1 (.sl e kk) dd.2 with
                | none=>rw [hck] at h9; exact h9.elim
                | some xs=>
                  rw [hck] at h9
                  simp only at h9
                  obtain ⟨ek,ey⟩:=bM hck
                  obtain ⟨dk,dx⟩:=dd
                  simp only at ek ey
                  subst ek
                  simp only at ey
                  subst ey
                  cases hz:dX p R.k R.x ⟨.sl e kk,(show List (El kk) from xs)++[(show El kk from yq.1)]⟩ with
                  | none=>rw [hz] at h9; exact h9.elim
                  | some z=>
                    rw [hz] at h9
                    rw [aC h9]
                    obtain ⟨e',kk',xs',wh,b,n',c,ce,hq,b1,o1,cc,arr,lo,hi,a1,a2,a3,a4,⟨a5,akd⟩,a6,a7,a8,a9,a10,Xd,a12,a13,a14⟩:=h3 R hr.1 hv (an1 d1) Q hrQ (an1 hcQ.1)
                    rw [hg] at a1
                    simp only [anX,Sigma.mk.injEq,K.sl.injEq] at a1
                    obtain ⟨⟨rfl,rfl⟩,a1⟩:=a1
                    have a1:=eq_of_heq a1
                    subst a1
                    obtain ⟨H1,T1,hH,hcl⟩:=kill H hrQ akd hvQ
                    have hSr:Same σ α (au σ q bT) (jK α q) r:=iw hne
                    have hr1:=(hSr.live R).2 hr
                    have Yg:∀m,(q,m)∉R.tags:=fun m hm=>by
                      have:=aoc.1 d5 _ hm
                      simp at this
                    have hv1:bu (au σ q bT) R:=⟨hv.1,by rw [mK Yg]; exact hv.2⟩
                    obtain ⟨_,cs,bA,oA,hn2,eA⟩:=h1.2 R hr.1 hv d3 a3 (by rw [hg]; rfl)
                    rw [a4] at hn2
                    simp only [anX,an8] at hn2
                    obtain ⟨rfl,rfl⟩:=hn2
                    have hn1:bG (hp w) p R.k ((jK α q).hdr r) (dU (jK α q) R r)=some ([.slice b n' c],some (bA,oA)):=by rw [hSr.hdr,hSr.wh]; exact a4
                    obtain ⟨ekQ,eyQ⟩:=bM ac3
                    have hOQ:Ow (hp w) Q.own (iQ cx (au σ q bT) (jK α q) (α.fo q++F) w Q.tags) (Pp e kk) yq (ce++[hq]) (α.fo q):=by
                      have h0:=ze ekQ eyQ (hH.ow hcl)
                      rw [a6] at h0
                      exact h0
                    obtain ⟨c1',c2',f1,f2,ec,hpq,Vs,hO2⟩:=hOQ
                    have hlc:=dh Vs
                    have hcc:=List.append_inj ec (by rw [a7,hlc])
                    obtain ⟨rfl,rfl⟩:=hcc
                    obtain ⟨c3',c4',f3,f4,ec2,ak4,hO3,hO4⟩:=hO2
                    have hpn:=hpq.nodup hH.nd
                    have agE:=an4.1 hpn
                    have ac6:∀b'∈f1,b'∈α.fo q:=fun b' hb'=>hpq.mem_iff.2 (an2 _ hb')
                    have aki:Ow (hp w) R.own (fun _=>False) kk yq.1 ce f1:=rQ (fun t ht=>by rw [hall t (by simp [K.tys,ht]),XJ t (aol _ ht)]) (gH (dA (fun t ht=>XJ t (aol _ ht))) Vs)
                    have aga:b1∉f1∨b1∈α.fo r:=by
                      rcases a14 with ⟨_,z2,_⟩ | ⟨z1,z2,_⟩
                      · exact .inr z2
                      · refine .inl fun hm=>?_
                        have hlen3:=dh hO3
                        have hc3:c3'=[hq]∧c4'=[]:=by
                          cases c3' with
                          | nil=>simp [K.size] at hlen3
                          | cons a l=>
                            simp only [List.cons_append,List.cons.injEq] at ec2
                            obtain ⟨rfl,h⟩:=ec2
                            have:=List.append_eq_nil_iff.1 h.symm
                            rw [this.1,this.2]
                            exact ⟨rfl,rfl⟩
                        rw [hc3.1,z1] at hO3
                        unfold Ow at hO3
                        rw [if_pos (XJ e aot)] at hO3
                        obtain ⟨a',m',cm,g1,_,_,g4⟩:=hO3
                        simp only [List.cons.injEq,Value.slice.injEq,and_true] at g1
                        obtain ⟨rfl,rfl,rfl⟩:=g1
                        rcases g4 with ⟨g4,_⟩ | ⟨bb,q',_,_,_,g5,_,_,_,bD,_,g6,_⟩
                        · omega
                        · simp only [anX,Addr.mk.injEq,and_true] at g5
                          obtain ⟨rfl,rfl⟩:=g5
                          exact agE.2.2 b1 hm b1 (ak4.mem_iff.2 (an2 _ (g6.mem_iff.2 aot))) rfl
                    have XR:∀b'∈(jK α q).fo r,b'∉α.fo q++F:=fun b' hb'=>H1.iX r R hr1 b' (by rw [bW,fu]; exact .inr hb')
                    obtain ⟨w',r1,α',F',r2⟩:=QL (P:=P) ht H1 hr1 hv1 hg hz a2 a3 hall hn1 (v:=.slice (some ⟨b1,o1,none⟩) (n'+1) cc) ⟨_,_,_,rfl⟩ (lw:=[eT R p,e]) (by simp) (fun fP ok hO hnd hsub=>by
                      have he:az e R.own=true:=hall e (by simp [K.tys])
                      unfold Ow at hO
                      rw [if_pos he] at hO
                      obtain ⟨a0,n2,c2,e1,e2,e3,hO⟩:=hO
                      simp only [List.cons.injEq,Value.slice.injEq,and_true] at e1
                      obtain ⟨rfl,rfl,rfl⟩:=e1
                      have e2:n'=@List.length (El kk) xs:=e2
                      obtain ⟨bD,hfl,hfs,hfn,hfe⟩:∃bD:List (List Nat),bD.length=@List.length (El kk) xs∧(∀b'∈bD.flatten,b'∈fP∧b'≠b1)∧bD.flatten.Nodup∧∀(i:Nat) (hi:i < @List.length (El kk) xs),∃ds,Cells (hp w) b1 (o1+i * kk.size) ds∧Ow (hp w) R.own ok kk (@getElem (List (El kk)) Nat (El kk) _ _ xs i hi) ds (bD.getD i []):=by
                        rcases hO with ⟨hc0,hf0⟩ | ⟨bb,q',kL,lo',hi',ea,hbk,hfz,hs,bD,hl,hp0,hO⟩
                        · have hx0 : @List.length (El kk) xs=0:=by omega
                          exact ⟨[],by simp [hx0],by simp,by simp,fun i hi=>by omega⟩
                        · have qR:=hp0.nodup hnd
                          have ana:bb∈(jK α q).fo r:=hsub bb (hp0.mem_iff.2 aot)
                          refine ⟨bD,hl,fun b' hb'=>⟨hp0.mem_iff.2 (aol _ hb'),fun eb=>?_⟩,(aou.1 qR).2,fun i hi=>?_⟩
                          · subst eb
                            rcases a14 with ⟨z1,_,_⟩ | ⟨_,z2,_⟩
                            · rw [z1] at ea
                              simp only [anX,Addr.mk.injEq,and_true] at ea
                              rw [ea.1] at hb'
                              exact (aou.1 qR).1 hb'
                            · exact XR b' (hsub b' (hp0.mem_iff.2 (aol _ hb'))) (an2 _ z2)
                          · obtain ⟨ds,g1,g2⟩:=hO i hi
                            refine ⟨ds, ?_,g2⟩
                            rcases a14 with ⟨z1,_,_⟩ | ⟨_,_,z3⟩
                            · rw [z1] at ea
                              simp only [anX,Addr.mk.injEq,and_true] at ea
                              rw [ea.1,ea.2]
                              exact g1
                            · obtain ⟨b0,o0,y1,_,y3⟩:=z3 (by omega)
                              rw [y1] at ea
                              simp only [anX,Addr.mk.injEq,and_true] at ea
                              obtain ⟨rfl,rfl⟩:=ea
                              have hdl:=dh g2
                              intro j hj
                              rw [←g1 j hj,Nat.add_assoc,y3 (i * kk.size+j) (by
                                have hb2:(i+1) * kk.size≤n' * kk.size:=aos _ (by omega)
                                rw [Nat.add_mul,Nat.one_mul] at hb2
                                omega), ←Nat.add_assoc]
                      have agb:b1∉f1:=by
                        rcases aga with h | h
                        · exact h
                        · intro hm
                          exact XR b1 (by rw [hSr.fo]; exact h) (an2 _ (ac6 b1 hm))
                      refine ⟨b1 :: (bD.flatten++f1),aou.2 ⟨fun hm=>?_,an4.2 ⟨hfn,agE.1,fun b' h1' b2 h2' eb=>?_⟩⟩,fun b' hb'=>?_, ?_⟩
                      · rcases an6.1 hm with h | h
                        · exact (hfs b1 h).2 rfl
                        · exact agb h
                      · subst eb
                        exact XR b' (hsub b' (hfs b' h1').1) (an2 _ (ac6 b' h2'))
                      · rcases an9.1 hb' with h | h
                        · subst h
                          rcases a14 with ⟨z1,_,_,z4⟩ | ⟨_,z2,_⟩
                          · refine .inl ?_
                            rcases hO with ⟨hc0,_⟩ | ⟨bb,q',_,_,_,ea,_,_,_,_,_,hp0,_⟩
                            · omega
                            · rw [z1] at ea
                              simp only [anX,Addr.mk.injEq,and_true] at ea
                              rw [ea.1]
                              exact hp0.mem_iff.2 aot
                          · exact .inr (an2 _ z2)
                        · rcases an6.1 h with h | h
                          · exact .inl (hfs b' h).1
                          · exact .inr (an2 _ (ac6 b' h))
                      · have hOO:Ow (hp w) R.own (fun _=>False) (.sl e kk) (show List (El kk) from (show List (El kk) from xs)++[(show El kk from yq.1)]) [.slice (some ⟨b1,o1,none⟩) (n'+1) cc] (b1 :: (bD.flatten++f1)):=by
                          unfold Ow
                          rw [if_pos he]
                          have hlen:(@HAppend.hAppend (List (El kk)) (List (El kk)) (List (El kk)) _ xs [yq.1]).length=n'+1:=by rw [an5,e2]; rfl
                          refine ⟨_,n'+1,cc,rfl,hlen.symm,a9, .inr ⟨b1,o1,arr,lo,hi,rfl,a10,Xd,a12,bD++[f1],by show (bD++[f1]).length=_; rw [an5,hfl,hlen,e2]; rfl,by simp,fun i hi'=>?_⟩⟩
                          have hi2:i<(@HAppend.hAppend (List (El kk)) (List (El kk)) (List (El kk)) _ xs [yq.1]).length:=hi'
                          rw [hlen] at hi2
                          rw [Ei]
                          by_cases hi0:i < @List.length (El kk) xs
                          · obtain ⟨ds,g1,g2⟩:=hfe i hi0
                            rw [if_pos (by rw [hfl]; exact hi0)]
                            have hx:(show List (El kk) from (show List (El kk) from xs)++[(show El kk from yq.1)])[i]'hi'=@getElem (List (El kk)) Nat (El kk) _ _ xs i hi0:=List.getElem_append_left hi0
                            rw [hx]
                            exact ⟨ds,g1,gH (dA (fun t ht=>hall t (by simp [K.tys,ht]))) g2⟩
                          · have hin:i=n':=by omega
                            rw [if_neg (by rw [hfl]; exact hi0)]
                            have hx:(show List (El kk) from (show List (El kk) from xs)++[(show El kk from yq.1)])[i]'hi'=yq.1:=by
                              have:=@List.getElem_append_right (El kk) xs [yq.1] i (by omega) hi'
                              refine this.trans ?_
                              simp
                            rw [hx]
                            have agK:i - bD.length=0:=by omega
                            rw [agK]
                            exact ⟨ce,by rw [hin]; exact a13,aki⟩
                        exact hOO)
                    refine ⟨undef,w',α',F', .inr ⟨?_,rfl⟩, ?_⟩
                    · simp only [execOp,ho,eA,a8,aom,r1,aof,aor]
                    · rw [hd]
                      exact r2
            · exact h9.elim
        · exact h7.elim
      · exact h5.elim
    | _=>exact h.elim
  | _=>exact h.elim
theorem PR (hT:eF P T) (H:Rel cx σ α F a w) (hd:o.dst=some d) (hdn:d<cx.nt) (h:(OO T o d fun ws=>(.ret ws:Prog (List Wr))).ends σ ws):qU P cx o a w (aB ws σ):=by
  unfold OO at h
  split at h
  · rename_i t ps ho
    obtain ⟨us,h1,h2⟩:=FR h
    rw [aC h2]
    exact LP hT H hd hdn h1 ho
  · rename_i c ho
    split at h
    · rename_i hcb
      obtain ⟨vs,h1,h2,h⟩:=ji H h
      split at h
      · split at h
        · rename_i hat ht1
          exact Z6 hT H hd hdn ho hcb h1 hat ht1 h
        · exact h.elim
      · exact h.elim
    · exact h.elim
  · rename_i t x ho
    exact PN hT H hd hdn ho h
  · exact h.elim
theorem R3 (hT:eF P T) (H:Rel cx σ α F a w) (hd:o.dst=none) {t:TypeId} {x y:Operand} (ho:o.op=.store t x y)
    (h:(dN x fun u=>dN y fun v=>Tf T t u v fun ws=>(.ret ws:Prog (List Wr))).ends σ ws):qU P cx o a w (aB ws σ):=by
  obtain ⟨u,h1,h2,h⟩:=bR H h
  obtain ⟨v,h3,h4,h⟩:=bR H h
  unfold Tf at h
  split at h
  · split at h
    · rename_i hk0
      exact NV hT H hd ho hk0 h1 h2 h3 h
    · exact h.elim
  · split at h
    · rename_i hk0
      exact NU hT H hd ho hk0 h1 h2 h3 h
    · exact h.elim
  · exact R4 hT H hd ho h1 h2 h3 h4 h
end
end
section
open Go
variable [Fr]
section
variable {P:Program} {T:iV} {cx:Cx} {σ:St} {α:dL} {F:List Nat} {a:Act} {w:World}
structure Tk (cx:Cx) (σ:St) (α:dL) (F:List Nat) (a:Act) (w:World) (σ1:St) (dK:dL) (F1:List Nat) (ids:List Tag):Prop where
 rel:Rel cx σ1 dK F1 a w
 vws:Views cx σ α F w σ1 dK F1 w
 same:∀t∈ids,Same σ α σ1 dK t.1
theorem Tk.sub {σ1:St} {dK:dL} {F1:List Nat} {ids ids':List Tag} (h:Tk cx σ α F a w σ1 dK F1 ids') (hs:∀t∈ids,t∈ids'):Tk cx σ α F a w σ1 dK F1 ids:=⟨h.rel,h.vws,fun t ht=>h.same t (hs t ht)⟩
def ZW (cx:Cx) (σ:St) (α:dL) (F:List Nat) (a:Act) (w:World) (k:K) (x:El k) (ids:List Tag) (v:Value):Prop:=
 ∃cs,VC k v cs∧∀σ1 dK F1,Tk cx σ α F a w σ1 dK F1 ids→Vw (hp w) (iQ cx σ1 dK F1 w ids) k x cs
def TG (cx:Cx) (σ:St) (α:dL) (F:List Nat) (a:Act) (w:World) (k:K) (x:El k) (ids:List Tag) (v:Value):Prop:=
 ∃b o cs,v=.pointer (some ⟨b,o,none⟩)∧Cells (hp w) b o cs∧∀σ1 dK F1,Tk cx σ α F a w σ1 dK F1 ids→Vw (hp w) (iQ cx σ1 dK F1 w ids) k x cs∧KL σ1 dK F1 w ids b
def Cq (cx:Cx) (σ:St) (α:dL) (F:List Nat) (a:Act) (w:World) (ids:List Tag):(ks:List K)→Cont ks→List Value→Prop
 | [],_,[]=>True
 | k :: ks,c,v :: vs=>TG cx σ α F a w k c.1 ids v∧Cq cx σ α F a w ids ks c.2 vs
 | _,_,_=>False
structure PlG (cx:Cx) (σ:St) (α:dL) (w:World) (k:K) (x:El k) (ow:List TypeId) (i:cK) (wt ht:List TypeId) (r:Nat) (R:Root) (p:List Stp):Prop where
 wb:i.wb=some (r,p,wt,ht)
 ws:i.ws=[]
 ids:i.ids=R.tags
 lv:aP σ r R
 vl:bu σ R
 get:aS p R.k R.x=some ⟨k,x⟩
 pin:nk p R.k R.x
 own:∀t∈ah p R.k,az t R.own=true
 just:oO k R.own ow=true
def TB (cx:Cx) (σ:St) (α:dL) (F:List Nat) (a:Act) (w:World):(ps:List dF)→Cont (kin ps)→List Value→List cK→List (Value×iD)→Prop
 | [],_,[],[],[]=>True
 | .val k _ :: ps,c,v :: vs,i :: is,ts=>(i.wb=none∧i.ws=[]∧i.bt=[]∧ZW cx σ α F a w k c.1 i.ids v)∧TB cx σ α F a w ps c.2 vs is ts
 | .ro k :: ps,c,v :: vs,i :: is,ts=>(i.wb=none∧i.ws=[]∧i.bt=[]∧TG cx σ α F a w k c.1 i.ids v)∧TB cx σ α F a w ps c.2 vs is ts
 | .rw k ow wt ht :: ps,c,v :: vs,i :: is,ts=>(∃r R p,PlG cx σ α w k c.1 ow i wt ht r R p∧i.bt=[eT R p]∧∃cs b o,bG (hp w) p R.k (α.hdr r) (dU α R r)=some (cs,some (b,o))∧v=.pointer (some ⟨b,o,none⟩))∧TB cx σ α F a w ps c.2 vs is ts
 | .jC k ow wt :: ps,c,v :: vs,i :: is,ts=>(∃r R p,PlG cx σ α w k c.1 ow i wt k.tys r R p∧i.bt=[]∧∃cs wh,bG (hp w) p R.k (α.hdr r) (dU α R r)=some (cs,wh)∧VC k v cs)∧TB cx σ α F a w ps c.2 vs is ts
 | .own k ow :: ps,c,v :: vs,i :: is,q :: ts=>(q.1=v∧xm cx σ α F w v q.2∧i=⟨q.2.tags,none,q.2.ws,[]⟩∧(∃e:q.2.k=k,c.1=e▸q.2.x)∧oO k q.2.own ow=true)∧TB cx σ α F a w ps c.2 vs is ts
 | .fn f ks :: ps,c,v :: vs,i :: is,ts=>(i.wb=none∧i.ws=[]∧i.bt=[]∧∃us:List Value,v=.func (.func f) #[] us.toArray∧Cq cx σ α F a w i.ids ks (Cont.fst ks (kin ps) c) us)∧TB cx σ α F a w ps (Cont.snd ks (kin ps) c) vs is ts
 | .into _ p :: ps,c,v :: vs,i :: is,ts=>(i.wb=none∧i.ws=[]∧i.bt=[]∧∃b,v=.slice b 0 0)∧TB cx σ α F a w ps (Cont.snd (dF.into 0 p).kin (kin ps) c) vs is ts
 | _,_,_,_,_=>False
theorem Ej:∀(ks ls:List K) (c:Cont ks) (d:Cont ls),Cont.fst ks ls (Cont.app ks ls c d)=c
 | [],_,_,_=>rfl
 | _ :: ks,ls,c,d=>by show (c.1,Cont.fst ks ls (Cont.app ks ls c.2 d))=c; rw [Ej ks ls c.2 d]; rfl
theorem EY:∀(ks ls:List K) (c:Cont ks) (d:Cont ls),Cont.snd ks ls (Cont.app ks ls c d)=d
 | [],_,_,_=>rfl
 | _ :: ks,ls,c,d=>EY ks ls c.2 d
theorem TG.mono {ids ids':List Tag} (h:∀t∈ids,t∈ids') {k:K} {x:El k} {v:Value} (H:TG cx σ α F a w k x ids v):TG cx σ α F a w k x ids' v:=by
 obtain ⟨b,o,cs,h1,h2,h3⟩:=H
 refine ⟨b,o,cs,h1,h2,fun σ1 dK F1 hT=>?_⟩
 obtain ⟨g1,g2⟩:=h3 σ1 dK F1 (hT.sub h)
 exact ⟨gy (fun _ _=>rfl) (fun b hb=>wD hb h) g1,YP g2 h⟩
theorem Cq.mono {ids ids':List Tag} (h:∀t∈ids,t∈ids'):∀{ks:List K} {c:Cont ks} {vs:List Value},Cq cx σ α F a w ids ks c vs→Cq cx σ α F a w ids' ks c vs
 | [],_,[],_=>trivial
 | _ :: _,_,_ :: _,⟨h1,hh⟩=>⟨h1.mono h,Cq.mono h hh⟩
 | [],_,_ :: _,hh=>hh.elim
 | _ :: _,_,[],hh=>hh.elim
theorem Tk.clean {σ1:St} {dK:dL} {F1:List Nat} {ids:List Tag} (h:Tk cx σ α F a w σ1 dK F1 ids) (tys:List TypeId):bq σ1 tys ids=bq σ tys ids:=fD (fun t ht=>(h.same t ht).root)
theorem TG.abH {bt:TypeId} {k:K} {x:El k} {T:List Tag} {v:Value} (h:KU cx σ α F w bt k x T v) (hw:eZ σ T) (hc:bq σ (bt :: k.tys) T=true):TG cx σ α F a w k x T v:=by
 obtain ⟨b,o,cs,e,h1,h2,h3,h4⟩:=h.2 hc
 refine ⟨b,o,cs,e,h1,fun σ1 dK F1 hT=>?_⟩
 obtain ⟨b',o',cs',e',h1',h2',h3',_⟩:=(hT.vws.ro hw h).2 (by rw [hT.clean]; exact hc)
 have:b'=b∧o'=o:=by rw [e] at e'; simpa using e'.symm
 obtain ⟨rfl,rfl⟩:=this
 have hcs:cs'=cs:=cells_eq h1 h1' ((lN h2').trans (lN h2).symm)
 subst hcs
 exact ⟨h2',h3'⟩
theorem TG.Qy (H:Rel cx σ α F a w) {r:Nat} {R:Root} {p:List Stp} {d:Dat} {cs:List Value} {b o:Nat} (hr:aP σ r R) (hv:bu σ R) (hg:aS p R.k R.x=some d) (fT:nk p R.k R.x) (hown:∀t∈ah p R.k,az t R.own=true)
  (hn:bG (hp w) p R.k (α.hdr r) (dU α R r)=some (cs,some (b,o))) (n:Nat):TG cx σ α F a w d.1 d.2 ((r,n) :: R.tags) (.pointer (some ⟨b,o,none⟩)):=by
 obtain ⟨hC,_⟩:=qd H hr hv hg fT hown hn
 refine ⟨b,o,cs,rfl,hC,fun σ1 dK F1 hT=>?_⟩
 have hS:=hT.same (r,n) (by simp)
 have hr1:=(hS.live R).2 hr
 have hv1:bu σ1 R:=⟨hv.1,by rw [fD (fun t ht=>(hT.same t (by simp [ht])).root)]; exact hv.2⟩
 obtain ⟨_,⟨fP,hO,hf⟩,hbb,_,_⟩:=qd hT.rel hr1 hv1 hg fT hown (by rw [hS.hdr,hS.wh]; exact hn)
 have hq:∀b∈blk dK R r,KL σ1 dK F1 w ((r,n) :: R.tags) b:=fun b hb=>by
  refine ⟨((hT.rel.roots r R hr1).mine b hb).1,hT.rel.iX r R hr1 b hb,fun q Q hq hbq=>?_⟩
  by_cases e:q=r
  ·subst e; exact ⟨n,by simp⟩
  ·exact absurd hb (hT.rel.IK q Q r R hq hr1 e b hbq)
 refine ⟨kW _ (fun b hb=>wD hb (fun t ht=>by simp [ht])) (fun b hb=>?_) hO,hq b hbb⟩
 have hbr:b∈blk dK R r:=anZ _ (hf b hb)
 obtain ⟨q1,q2,q3⟩:=hq b hbr
 refine ⟨q1,q2,oJ hT.rel hr1 (hf b hb),q3,fun h0=>?_⟩
 rcases ((hT.rel.roots r R hr1).mine b hbr).2 with h | ⟨j,pi,h1,h2⟩
 ·omega
 ·exact .inr ⟨j,pi,h1,h2⟩
theorem Jr {A:Type} {z:A} (H:Rel cx σ α F a w) {x:AV} {v:Value} {k:(kk:K)→El kk→List Tag→Prog A} (hx:bI cx σ α F w x v) (hw:rR σ x) (h:(uX x k).ends σ z) :
  ∃kk y T,ZW cx σ α F a w kk y T v∧(k kk y T).ends σ z:=by
 have key:∀{r:Nat} {R:Root} {p:List Stp} {d:Dat} {cs:List Value} {wh:Option (Nat×Nat)},aP σ r R→bu σ R→aS p R.k R.x=some d→nk p R.k R.x→(∀t∈ah p R.k,az t R.own=true)→bG (hp w) p R.k (α.hdr r) (dU α R r)=some (cs,wh)→VC d.1 v cs→
   ZW cx σ α F a w d.1 d.2 (R.out r d.1) v:=by
  intro r R p d cs wh hr hv hg h1 h2 h3 h4
  refine ⟨cs,h4,fun σ1 dK F1 hT=>?_⟩
  cases hf:d.1.flat with
  | true=>
   obtain ⟨fP,h5,_⟩:=vE H hr hv hg h1 h2 h3
   exact iy hf (kW (fun _=>True) (fun _ _=>trivial) (fun _ _=>trivial) h5)
  | false=>
   rcases Cb R r hf with ho | ⟨ho,hn⟩
   ·rw [ho] at hT
    have hS:=hT.same (r,gJ R.w) (by simp)
    have hr1:=(hS.live R).2 hr
    have hv1:bu σ1 R:=⟨hv.1,by rw [fD (fun t ht=>(hT.same t (by simp [ht])).root)]; exact hv.2⟩
    obtain ⟨fP,h5,h6⟩:=vE hT.rel hr1 hv1 hg h1 h2 (by rw [hS.hdr,hS.wh]; exact h3)
    exact oN hT.rel hr1 h5 h6
   ·obtain ⟨fP,h5,h6⟩:=vE H hr hv hg h1 h2 h3
    have hV:=oN H hr h5 h6
    rw [ho] at hT hV ⊢
    exact hT.vws.vw (H.dz r R hr.1).1 (by rw [hT.clean]; exact qB hv.2 (fun _ h=>h) (fun t ht=>xO p hg h2 t ((BL ht).resolve_right (by rw [hn t ht]; exact Bool.false_ne_true)))) (fun _ h=>h) hV
 cases x with
 | val kk y T=>
  obtain ⟨h1,h2⟩:=gu h
  obtain ⟨cs,h3,h4⟩:=hx (.inr h1)
  exact ⟨kk,y,T,⟨cs,h3,fun σ1 dK F1 hT=>hT.vws.vw hw (by rw [hT.clean]; exact h1) (fun _ h=>h) h4⟩,h2⟩
 | ref r g=>
  obtain ⟨R,hr,hv,h⟩:=cB h
  rcases aA h with ⟨hg,h⟩ | ⟨_,h⟩
  ·obtain ⟨_,h2⟩:=hx R hr (an1 hg)
   exact ⟨R.k,R.x,R.out r R.k,key (p:=[]) (d:=⟨R.k,R.x⟩) hr hv rfl trivial (fun t ht=>by simp [ah] at ht) rfl h2,h⟩
  ·exact h.elim
 | sV r p n=>
  obtain ⟨R,hr,hv,h⟩:=cB h
  rcases aA h with ⟨hg,h⟩ | ⟨_,h⟩
  ·cases uL:aS p R.k R.x with
   | none=>rw [uL] at h; exact h.elim
   | some d=>
    rw [uL] at h
    obtain ⟨h1,h2,cs,wh,h3,h4⟩:=hx R hr.1 hv (an1 hg) d uL
    exact ⟨d.1,d.2,R.out r d.1,key hr hv uL h1 h2 h3 h4,h⟩
  ·exact h.elim
 | undef=>exact h.elim
 | iP=>exact h.elim
 | ptr r p n=>exact h.elim
 | jg bt k x T=>exact h.elim
 | JK _ _ _ _=>exact h.elim
 | Av _=>exact h.elim
 | part _ _ _ _ _=>exact h.elim
 | xY _ _ _ _=>exact h.elim
 | app _ _ _ _=>exact h.elim
 | su=>exact h.elim
 | fn f cs=>exact h.elim
theorem ZW.flat {k:K} {x:El k} {ids:List Tag} {v:Value} (hf:k.flat=true) (h:ZW cx σ α F a w k x ids v) (H:Rel cx σ α F a w):ZW cx σ α F a w k x [] v:=by
 obtain ⟨cs,h1,h2⟩:=h
 have h3:=h2 σ α F ⟨H,fun T tys _ h=>⟨h,fun b hb _=>⟨hb,rfl⟩,fun b hb _=>⟨hb,rfl⟩⟩,fun _ _=>lJ ..⟩
 exact ⟨cs,h1,fun _ _ _ _=>iy hf h3⟩
theorem U3 {A:Type} {z:A}:∀{ks:List K} {l:List (TypeId×Dat×List Tag)} {vs:List Value} {k:Cont ks→List Tag→Prog A},kG cx σ α F w l vs→(∀c∈l,eZ σ c.2.2)→(TN ks l k).ends σ z→
  ∃c T,Cq cx σ α F a w T ks c vs∧(k c T).ends σ z:=by
 intro ks
 induction ks with
 | nil=>
  intro l vs k h1 h2 h
  cases l with
  | nil=>
   cases vs with
   | nil=>exact ⟨(),[],trivial,h⟩
   | cons v vs=>exact h1.elim
  | cons q l=>exact h.elim
 | cons kk ks ih=>
  intro l vs k h1 h2 h
  cases l with
  | nil=>exact h.elim
  | cons q l=>
   obtain ⟨t,d,tags⟩:=q
   cases vs with
   | nil=>exact h1.elim
   | cons v vs=>
    simp only [TN] at h
    obtain ⟨hc,h⟩:=gu h
    cases hk:bP d.1 kk d.2 with
    | none=>rw [hk] at h; exact h.elim
    | some x=>
     rw [hk] at h
     simp only at h
     obtain ⟨ek,ey⟩:=bM hk
     obtain ⟨c,T,g1,g2⟩:=ih h1.2 (fun c hc=>h2 c (by simp [hc])) h
     refine ⟨(x,c),iO tags T,⟨?_,g1.mono (fun t ht=>cZ.2 (.inr ht))⟩,g2⟩
     obtain ⟨dk,dx⟩:=d
     simp only at ek ey h1
     subst ek
     subst ey
     exact (TG.abH h1.1 (h2 _ aot) hc).mono (fun t ht=>cZ.2 (.inl ht))
theorem Sk {A:Type} {z:A} (H:Rel cx σ α F a w):∀{ps:List dF} {Mq:List AV} {vs:List Value} {k:Cont (kin ps)→List cK→Prog A},dR cx σ α F w Mq vs→(∀v∈Mq,rR σ v)→(jS ps Mq k).ends σ z→
  ∃c is ts,TB cx σ α F a w ps c vs is ts∧(k c is).ends σ z:=by
 intro ps
 induction ps with
 | nil=>
  intro Mq vs k h1 _ h
  cases Mq with
  | nil=>
   cases vs with
   | nil=>exact ⟨(),[],[],trivial,h⟩
   | cons v vs=>exact h1.elim
  | cons x Mq=>exact h.elim
 | cons p ps ih=>
  intro Mq vs k h1 h2 h
  cases Mq with
  | nil=>
   cases p with
   | into j q=>cases q <;> exact h.elim
   | _=>exact h.elim
  | cons x Mq=>
   cases vs with
   | nil=>exact h1.elim
   | cons v vs=>
    have h2':∀v∈Mq,rR σ v:=fun v hv=>h2 v (by simp [hv])
    cases p with
    | val kk iA=>
     have hgo:∀(y:El kk) (tags:List Tag),ZW cx σ α F a w kk y tags v→
       (jS ps Mq fun c is=>k (y,c) (⟨tags,none,[],[]⟩ :: is)).ends σ z→∃c is ts,TB cx σ α F a w (.val kk iA :: ps) c (v :: vs) is ts∧(k c is).ends σ z:=by
      intro y tags hy h
      obtain ⟨c,is,ts,g1,g2⟩:=ih h1.2 h2' h
      exact ⟨(y,c),⟨tags,none,[],[]⟩ :: is,ts,⟨⟨rfl,rfl,rfl,hy⟩,g1⟩,g2⟩
     have hval:(uX x fun k' x tags=>match bP k' kk x with
       | some y=>jS ps Mq fun c is=>k (y,c) (⟨bif kk.flat then [] else tags,none,[],[]⟩ :: is)
       | none=>.fail).ends σ z→∃c is ts,TB cx σ α F a w (.val kk iA :: ps) c (v :: vs) is ts∧(k c is).ends σ z:=by
      intro h
      obtain ⟨k',y,Tg,f1,f5⟩:=Jr H h1.1 (h2 x (by simp)) h
      cases hc:bP k' kk y with
      | none=>rw [hc] at f5; exact f5.elim
      | some y'=>
       rw [hc] at f5
       obtain ⟨ek,ey⟩:=bM hc
       subst ek
       simp only at ey
       subst ey
       cases hf:k'.flat with
       | true=>
        rw [hf] at f5
        exact hgo _ _ (f1.flat hf H) f5
       | false=>
        rw [hf] at f5
        exact hgo _ _ f1 f5
     cases x with
     | iP=>
      cases kk with
      | sl e kk=>
       obtain ⟨b,rfl⟩:=h1.1
       exact hgo [] [] ⟨[.slice b 0 0],BH,fun _ _ _ _=>⟨b,0,0,rfl,rfl,aod _,fun h=>by omega⟩⟩ h
      | _=>exact h.elim
     | undef=>exact hval h
     | val _ _ _=>exact hval h
     | ref _ _=>exact hval h
     | sV _ _ _=>exact hval h
     | ptr _ _ _=>exact hval h
     | jg _ _ _ _=>exact hval h
     | JK _ _ _ _=>exact hval h
     | Av _=>exact hval h
     | part _ _ _ _ _=>exact hval h
     | xY _ _ _ _=>exact hval h
     | app _ _ _ _=>exact hval h
     | su=>exact hval h
     | fn _ _=>exact hval h
    | ro kk=>
     simp only [jS] at h
     have hgo:∀(d:Dat) (tags:List Tag),TG cx σ α F a w d.1 d.2 tags v→(match bP d.1 kk d.2 with
       | some y=>jS ps Mq fun c is=>k (y,c) (⟨tags,none,[],[]⟩ :: is)
       | none=>.fail).ends σ z→∃c is ts,TB cx σ α F a w (.ro kk :: ps) c (v :: vs) is ts∧(k c is).ends σ z:=by
      intro d tags hd h
      cases hc:bP d.1 kk d.2 with
      | none=>rw [hc] at h; exact h.elim
      | some y=>
       rw [hc] at h
       obtain ⟨ek,ey⟩:=bM hc
       obtain ⟨dk,dx⟩:=d
       simp only at ek ey hd
       subst ek
       subst ey
       obtain ⟨c,is,ts,g1,g2⟩:=ih h1.2 h2' h
       exact ⟨(y,c),⟨tags,none,[],[]⟩ :: is,ts,⟨⟨rfl,rfl,rfl,hd⟩,g1⟩,g2⟩
     cases x with
     | ptr r p n=>
      rcases zi H h1.1 (h2 (.ptr r p n) (by simp)) h with ⟨r',R,p',d,cs,b,o,hr,hv,hg,fT,hown,hn,e,h5⟩ | ⟨bt,d,Tg,b,o,cs,hw,e,hcs,hV,hok,hb,h5⟩
      ·subst e
       exact hgo d _ (TG.Qy H hr hv hg fT hown hn _) h5
      ·simp only [addrOf] at h
       obtain ⟨R,hr,hv,h⟩:=cB h
       rcases aA h with ⟨hc,h⟩ | ⟨_,h⟩
       ·simp only [an3] at hc
        cases uL:aS p R.k R.x with
        | none=>rw [uL] at h; exact h.elim
        | some d=>
         rw [uL] at h
         have hown:=ku hc.2
         obtain ⟨g1,cs,b,o,g2,g3⟩:=h1.1.2 R hr.1 hv hc.1 hown (by rw [uL]; rfl)
         subst g3
         exact hgo d _ (TG.Qy H hr hv uL g1 hown g2 _) h
       ·exact h.elim
     | jg bt kx y Tg=>
      simp only [addrOf] at h
      obtain ⟨hc,h⟩:=gu h
      exact hgo ⟨kx,y⟩ Tg (TG.abH h1.1 (h2 (.jg bt kx y Tg) (by simp)) hc) h
     | _=>exact h.elim
    | rw kk ow wt ht=>
     simp only [jS] at h
     cases x with
     | ptr r p n=>
      simp only at h
      obtain ⟨R,hr,hv,h⟩:=cB h
      rcases aA h with ⟨hc,h⟩ | ⟨_,h⟩
      ·simp only [an3] at hc
       cases uL:aS p R.k R.x with
       | none=>rw [uL] at h; exact h.elim
       | some d=>
        rw [uL] at h
        simp only at h
        cases hck:bP d.1 kk d.2 with
        | none=>rw [hck] at h; exact h.elim
        | some y=>
         rw [hck] at h
         obtain ⟨ek,ey⟩:=bM hck
         obtain ⟨dk,dx⟩:=d
         simp only at ek ey h
         subst ek
         subst ey
         rcases aA h with ⟨hj,h⟩ | ⟨_,h⟩
         ·have hown:=ku hc.2
          obtain ⟨g1,cs,b,o,g2,g3⟩:=h1.1.2 R hr.1 hv hc.1 hown (by rw [uL]; rfl)
          obtain ⟨c,is,ts,f1,f2⟩:=ih h1.2 h2' h
          exact ⟨(y,c),⟨R.tags,some (r,p,wt,ht),[],[eT R p]⟩ :: is,ts,⟨⟨r,R,p,⟨rfl,rfl,rfl,hr,hv,uL,g1,hown,hj⟩,rfl,cs,b,o,g2,g3⟩,f1⟩,f2⟩
         ·exact h.elim
      ·exact h.elim
     | _=>exact h.elim
    | jC kk ow wt=>
     simp only [jS] at h
     have hgo:∀(r:Nat) (R:Root) (p:List Stp) (d:Dat),aP σ r R→bu σ R→aS p R.k R.x=some d→nk p R.k R.x→(∀t∈ah p R.k,az t R.own=true)→(∃cs wh,bG (hp w) p R.k (α.hdr r) (dU α R r)=some (cs,wh)∧VC d.1 v cs)→
       (match bP d.1 kk d.2 with
       | some y=>bif oO kk R.own ow then jS ps Mq fun c is=>k (y,c) (⟨R.tags,some (r,p,wt,kk.tys),[],[]⟩ :: is) else .fail
       | none=>.fail).ends σ z→∃c is ts,TB cx σ α F a w (.jC kk ow wt :: ps) c (v :: vs) is ts∧(k c is).ends σ z:=by
      intro r R p d hr hv hg fT hown hn h
      cases hck:bP d.1 kk d.2 with
      | none=>rw [hck] at h; exact h.elim
      | some y=>
       rw [hck] at h
       obtain ⟨ek,ey⟩:=bM hck
       obtain ⟨dk,dx⟩:=d
       simp only at ek ey h hn
       subst ek
       subst ey
       rcases aA h with ⟨hj,h⟩ | ⟨_,h⟩
       ·obtain ⟨c,is,ts,f1,f2⟩:=ih h1.2 h2' h
        exact ⟨(y,c),⟨R.tags,some (r,p,wt,dk.tys),[],[]⟩ :: is,ts,⟨⟨r,R,p,⟨rfl,rfl,rfl,hr,hv,hg,fT,hown,hj⟩,rfl,hn⟩,f1⟩,f2⟩
       ·exact h.elim
     cases x with
     | sV r p n=>
      simp only at h
      obtain ⟨R,hr,hv,h⟩:=cB h
      rcases aA h with ⟨hc,h⟩ | ⟨_,h⟩
      ·cases uL:aS p R.k R.x with
       | none=>rw [uL] at h; exact h.elim
       | some d=>
        rw [uL] at h
        obtain ⟨g1,g2,cs,wh,g3,g4⟩:=h1.1 R hr.1 hv (an1 hc) d uL
        exact hgo r R p d hr hv uL g1 g2 ⟨cs,wh,g3,g4⟩ h
      ·exact h.elim
     | ref r g=>
      simp only at h
      obtain ⟨R,hr,hv,h⟩:=cB h
      rcases aA h with ⟨hc,h⟩ | ⟨_,h⟩
      ·obtain ⟨_,g4⟩:=h1.1 R hr (an1 hc)
       exact hgo r R [] ⟨R.k,R.x⟩ hr hv rfl trivial (fun t ht=>by simp [ah] at ht) ⟨_,_,rfl,g4⟩ h
      ·exact h.elim
     | _=>exact h.elim
    | own kk ow=>
     simp only [jS] at h
     obtain ⟨tk,htk,h⟩:=qO H h1.1 (h2 x (by simp)) h
     cases hck:bP tk.k kk tk.x with
     | none=>rw [hck] at h; exact h.elim
     | some y=>
      rw [hck] at h
      obtain ⟨ek,ey⟩:=bM hck
      simp only at h
      rcases aA h with ⟨hj,h⟩ | ⟨_,h⟩
      ·obtain ⟨c,is,ts,f1,f2⟩:=ih h1.2 h2' h
       exact ⟨(y,c),⟨tk.tags,none,tk.ws,[]⟩ :: is,(v,tk) :: ts,⟨⟨rfl,htk,rfl,⟨ek,ey⟩,hj⟩,f1⟩,f2⟩
      ·exact h.elim
    | fn f ks=>
     simp only [jS] at h
     cases x with
     | fn f' caps=>
      simp only at h
      rcases aA h with ⟨hf,h⟩ | ⟨_,h⟩
      ·obtain ⟨us,e1,e2⟩:=h1.1
       obtain ⟨c0,T0,g1,h⟩:=U3 (a:=a) e2 (fun c hc=>h2 (.fn f' caps) (by simp) c hc) h
       obtain ⟨c,is,ts,f1,f2⟩:=ih h1.2 h2' h
       refine ⟨Cont.app ks (kin ps) c0 c,⟨T0,none,[],[]⟩ :: is,ts,⟨⟨rfl,rfl,rfl,us, ?_, ?_⟩, ?_⟩,f2⟩
       ·rw [e1,an1 hf]
       ·rw [Ej]; exact g1
       ·rw [EY]; exact f1
      ·exact h.elim
     | _=>exact h.elim
    | into j q=>
     cases q with
     | cons _ _=>exact h.elim
     | nil=>
      cases x with
      | iP=>
       obtain ⟨b,hb⟩:=h1.1
       obtain ⟨c,is,ts,f1,f2⟩:=ih h1.2 h2' h
       exact ⟨c,⟨[],none,[],[]⟩ :: is,ts,⟨⟨rfl,rfl,rfl,b,hb⟩,f1⟩,f2⟩
      | _=>exact h.elim
end
end
end Go.Proofs.YtailcbngagacaabGreat.Ow
