/- A verified reading of translated code: values in place of memory; part D of 6, spaces and remarks taken out. No condition. Own work of this seat. -/
import Derived.Test.YtabnmpabdhmkoaaOwC
set_option linter.unusedSectionVars false
set_option linter.unusedVariables false
set_option linter.unusedSimpArgs false
namespace Go.Proofs.Ytabnmpabdhmkoaa.Ow
section
open Go
variable [Fr]
def jQ (news:List Value) (s i:Nat):List Value:=(news.drop (i * s)).take s
theorem mF {news:List Value} {s i m:Nat} (h:news.length=m * s) (hi:i<m):(jQ news s i).length=s:=by
 unfold jQ
 have:(i+1) * s≤m * s:=abX _ hi
 rw [Nat.add_mul,Nat.one_mul] at this
 simp
 omega
theorem jv {news:List Value} {s i j:Nat} (hj:j<s):(jQ news s i)[j]?=news[i * s+j]?:=by
 unfold jQ
 rw [List.getElem?_take,if_pos hj,List.getElem?_drop]
theorem vY {bE tq:List (List Nat)} {i:Nat}:(bE++tq).getD i []=if i<bE.length then bE.getD i [] else tq.getD (i - bE.length) []:=by
 simp only [abF,List.getElem?_append]
 split <;> rfl
section
variable {P:Program} {T:gL} {w:World}
theorem Bq {t u ty e:TypeId} {kk:K} (ht:eP P T t (.sl e kk)) {own:List TypeId} {ok:Nat→Prop} {qG rX:List (El kk)} {v0 x:Value} {qC:List Nat} {bE:List (List Nat)} {news:List Value}
  (hO:Ow (hp w) own ok (.sl e kk) qG [v0] qC) (hown:aA e own=true) (hnd:(qC++bE.flatten).Nodup) (hok:∀b,ok b→b∉qC∧b<w.heap.size) (hlt:∀b∈qC++bE.flatten,b<w.heap.size)
  (hS:Src P w kk.size u x rX.length news) (hfl:bE.length=rX.length) (hel:∀i (hi:i<rX.length),Ow (hp w) own ok kk rX[i] (jQ news kk.size i) (bE.getD i []))
  (hb:(qG.length+rX.length) * T.bytes e≤140737488355328) :
  ∃v' w' gu,(Builtin.append_ #[t,u] ty #[v0,x]).run P w=.ok v' w'∧(w'.os=w.os∧w'.tape=w.tape∧w'.output=w.output)∧w.heap.size≤w'.heap.size∧
   (∀b,b<w.heap.size→hp w' b≠hp w b→b∈qC∧lH (hp w) b=some e)∧(∀b∈gu,b∈qC∨b∈bE.flatten∨(w.heap.size≤b∧b<w'.heap.size))∧gu.Nodup∧
   Ow (hp w') own ok (.sl e kk) (qG++rX) [v'] gu:=by
 have hsz:0<kk.size:=ht.sl.2.2.1
 have hnl:=hS.nl
 unfold Ow at hO
 rw [if_pos hown] at hO
 obtain ⟨a,n,c,e1,e2,e3,hO⟩:=hO
 simp only [List.cons.injEq,and_true] at e1
 subst e1
 have e2':n=qG.length:=e2
 have hnd':=abz.1 hnd
 by_cases hr:n+rX.length≤c
 ·have hrun:=qF (ty:=ty) ht hS (b:=a) (n:=n) hr
  rcases hO with ⟨hc0,hf0⟩ | ⟨b,o,arr,lo,hi,ea,hbk,hf,hs,pW,hl0,hp0,hO⟩
  ·have hx1:rX=[]:=List.eq_nil_of_length_eq_zero (by omega)
   have hx0:qG=[]:=List.eq_nil_of_length_eq_zero (by omega)
   subst hx1
   subst hx0
   have hnews:news=[]:=List.eq_nil_of_length_eq_zero (by simpa using hnl)
   subst hnews
   have hn0:n=0:=by simpa using e2'
   subst hn0
   subst hc0
   have:(Builtin.append_ #[t,u] ty #[.slice a 0 0,x]).run P w=.ok (.slice a 0 0) w:=by
    rw [hrun]
    cases a <;> rfl
   exact ⟨_,w,[],this,⟨rfl,rfl,rfl⟩,abI _,fun b _ h=>absurd rfl h,fun b hb=>by simp at hb,List.nodup_nil,tX⟩
  ·subst ea
   have hle:(n+rX.length) * kk.size≤c * kk.size:=abX _ hr
   rw [Nat.add_mul] at hle
   have hst:=jI (P:=P) (o:=o+n * kk.size) news hbk hf (by rw [hnl]; omega) hS.one
   simp only [Result.andThen,addr_add,hst] at hrun
   obtain ⟨s1,s2,iW,s3,s4,s5,s6⟩:=nN b news w arr e (lo,hi) (o+n * kk.size) hbk (by rw [hnl]; omega)
   have s7:=kX b news w (o+n * kk.size)
   have hb0:b∈qC:=hp0.mem_iff.2 (by simp)
   have uJ:=hp0.nodup hnd'.1
   have hne:∀b'∈pW.flatten++bE.flatten,b'≠b:=by
    intro b' hb' e
    subst e
    rcases abB.1 hb' with h | h
    ·exact (abZ.1 uJ).1 h
    ·exact hnd'.2.2 b' hb0 b' h rfl
   have Uz:∀b',ok b'→hp (w.setCells b (o+n * kk.size) news) b'=hp w b':=fun b' h=>s1 b' (fun e=>(hok b' h).1 (e▸hb0))
   refine ⟨_,_,b :: (pW.flatten++bE.flatten),hrun,s7,by omega, ?_, ?_, ?_, ?_⟩
   ·intro b' _ hne'
    by_cases e:b'=b
    ·subst e; exact ⟨hb0,by unfold lH; rw [hbk]⟩
    ·exact absurd (s1 b' e) hne'
   ·intro b' hb'
    rcases abE.1 hb' with h | h
    ·subst h; exact .inl hb0
    ·rcases abB.1 h with h | h
     ·exact .inl (hp0.mem_iff.2 (by simp [h]))
     ·exact .inr (.inl h)
   ·refine abZ.2 ⟨fun h=>hne b h rfl,abz.2 ⟨(abZ.1 uJ).2,hnd'.2.1,fun b1 h1 b2 h2 e=>hnd'.2.2 b1 (hp0.mem_iff.2 (by simp [h1])) b2 h2 e⟩⟩
   ·unfold Ow
    rw [if_pos hown]
    refine ⟨_,_,_,rfl,by simp [e2'],hr, .inr ⟨b,o,iW,lo,hi,rfl,s3,by rw [s4]; exact hf,by rw [s4]; exact hs,pW++bE,by simp [hl0,hfl],by simp,fun i hi=>?_⟩⟩
    have hi':i<qG.length+rX.length:=by simpa using hi
    rw [vY]
    by_cases hi0:i<qG.length
    ·obtain ⟨ds,h1,h2⟩:=hO i hi0
     have X4:i<pW.length:=by rw [hl0]; exact hi0
     rw [if_pos X4]
     have hx:(qG++rX)[i]'hi=qG[i]:=List.getElem_append_left hi0
     refine ⟨ds,fun j hj=>?_, ?_⟩
     ·have hdl:=cz h2
      have hlt2:(i+1) * kk.size≤n * kk.size:=abX _ (by omega)
      rw [Nat.add_mul,Nat.one_mul] at hlt2
      have:=h1 j hj
      unfold cellAt at this ⊢
      rw [hbk] at this
      rw [s3]
      simp only at this ⊢
      rw [s6 _ (by rw [hnl]; omega)]
      exact this
     ·show Ow _ own ok kk ((qG++rX)[i]'hi) ds _
      rw [hx]
      exact aY Uz (fun _ h=>h) (fun b' hb'=>s1 b' (hne b' (abx _ (mD hb')))) h2
    ·have hi1:i - qG.length<rX.length:=by omega
     rw [if_neg (by rw [hl0]; exact hi0)]
     have hx:(qG++rX)[i]'hi=rX[i - qG.length]:=List.getElem_append_right (by omega)
     have hfe:i - pW.length=i - qG.length:=by rw [hl0]
     rw [hfe]
     refine ⟨jQ news kk.size (i - qG.length),fun j hj=>?_, ?_⟩
     ·rw [mF hnl hi1] at hj
      unfold cellAt
      rw [s3,jv hj]
      simp only
      have e4:o+i * kk.size+j=o+n * kk.size+((i - qG.length) * kk.size+j):=by
       have:i * kk.size=n * kk.size+(i - qG.length) * kk.size:=by rw [←Nat.add_mul]; congr 1; omega
       omega
      rw [e4]
      refine s5 _ ?_
      rw [hnl]
      have:(i - qG.length+1) * kk.size≤rX.length * kk.size:=abX _ hi1
      rw [Nat.add_mul,Nat.one_mul] at this
      omega
     ·show Ow _ own ok kk ((qG++rX)[i]'hi) _ _
      rw [hx]
      exact aY Uz (fun _ h=>h) (fun b' hb'=>s1 b' (hne b' (abu _ (mD hb')))) (hel _ hi1)
 ·
  obtain ⟨olds,ho1,ho2,pW,hl0,hf0,Vt⟩:∃olds,olds.length=n * kk.size∧(Builtin.firstCells kk.size n (.slice a n c)).run P w.drew=.ok olds.toArray w.drew∧∃pW:List (List Nat),pW.length=qG.length∧((∀b∈pW.flatten,b∈qC)∧pW.flatten.Nodup)∧
    ∀i (hi:i<qG.length),Ow (hp w) own ok kk qG[i] (jQ olds kk.size i) (pW.getD i []):=by
   rcases hO with ⟨hc0,hf0⟩ | ⟨b,o,arr,lo,hi,ea,hbk,hf,hs,pW,hl0,hp0,hO⟩
   ·have hx0:qG=[]:=List.eq_nil_of_length_eq_zero (by omega)
    subst hx0
    have hn0:n=0:=by simpa using e2'
    subst hn0
    refine ⟨[],by simp, ?_,[],rfl,⟨by simp,by simp⟩,fun i hi=>by simp at hi⟩
    cases a with
    | none=>exact run_firstCells_none w.drew kk.size 0 0 c
    | some ad=>exact run_firstCells_some (P:=P) w.drew kk.size 0 ad 0 c [] (by simp) (fun j v hj=>by simp at hj)
   ·subst ea
    have hle:n * kk.size≤c * kk.size:=abX _ e3
    have hrow:=wS (n:=n * kk.size) hbk (by omega:o+n * kk.size≤arr.size)
    have hrl:(kW (hp w) b o (n * kk.size)).length=n * kk.size:=by simp [kW]
    have uJ:=hp0.nodup hnd'.1
    refine ⟨kW (hp w) b o (n * kk.size),hrl, ?_,pW,hl0,⟨fun b' hb'=>hp0.mem_iff.2 (by simp [hb']),(abZ.1 uJ).2⟩,fun i hi=>?_⟩
    ·refine run_firstCells_some (P:=P) w.drew kk.size n ⟨b,o,none⟩ n c _ hrl (fun j v hj=>?_)
     rw [addr_add,qg]
     have:=hrow j (by rw [hrl]; have:=(List.getElem?_eq_some_iff.1 hj).1; rw [hrl] at this; exact this)
     rw [hj] at this
     exact this
    ·obtain ⟨ds,h1,h2⟩:=hO i hi
     have hdl:=cz h2
     have:jQ (kW (hp w) b o (n * kk.size)) kk.size i=ds:=by
      apply List.ext_getElem?
      intro j
      by_cases hj:j<kk.size
      ·rw [jv hj]
       have hlt2:(i+1) * kk.size≤n * kk.size:=abX _ (by omega)
       rw [Nat.add_mul,Nat.one_mul] at hlt2
       rw [←hrow _ (by rw [hrl]; omega), ←Nat.add_assoc]
       exact h1 j (by omega)
      ·rw [List.getElem?_eq_none (by rw [mF hrl (by omega)]; omega),List.getElem?_eq_none (by omega)]
     rw [this]
     exact h2
  obtain ⟨nc,hnc,hrun⟩:=uh (ty:=ty) ht hS ho2 hr (by rw [e2']; exact hb)
  have hnew:=mo w.drew (.cells (olds.toArray++news.toArray++Builtin.zeroCells (mJ kk).cells (nc - (n+rX.length))) e)
  have hold:∀b',b'<w.heap.size→hp (w.drew.alloc (.cells (olds.toArray++news.toArray++Builtin.zeroCells (mJ kk).cells (nc - (n+rX.length))) e)) b'=hp w b':=fun b' h=>kJ w.drew _ h
  have hws:w.drew.heap.size=w.heap.size:=rfl
  rw [hws] at hnew
  have hsz2:(w.drew.alloc (.cells (olds.toArray++news.toArray++Builtin.zeroCells (mJ kk).cells (nc - (n+rX.length))) e)).heap.size=w.heap.size+1:=Array.size_push ..
  have hzl:(mJ kk).cells.size=kk.size:=by
   rw [pQ ht.sl.2.1.shape]
   simpa using cz (q9 (h:=hp w) (own:=own) (ok:=ok) ht.sl.2.1.dV)
  have hall:∀b'∈pW.flatten++bE.flatten,b'<w.heap.size:=by
   intro b' hb'
   rcases abB.1 hb' with h | h
   ·exact hlt b' (abx _ (hf0.1 b' h))
   ·exact hlt b' (abu _ h)
  refine ⟨_,_,w.heap.size :: (pW.flatten++bE.flatten),hrun,⟨rfl,rfl,rfl⟩,by omega,fun b' hb' hne=>absurd (hold b' hb') hne, ?_, ?_, ?_⟩
  ·intro b' hb'
   rcases abE.1 hb' with h | h
   ·subst h; exact .inr (.inr ⟨abI _,by omega⟩)
   ·rcases abB.1 h with h | h
    ·exact .inl (hf0.1 b' h)
    ·exact .inr (.inl h)
  ·refine abZ.2 ⟨fun h=>by have:=hall _ h; omega,abz.2 ⟨hf0.2,hnd'.2.1,fun b1 h1 b2 h2 e=>hnd'.2.2 b1 (hf0.1 b1 h1) b2 h2 e⟩⟩
  ·unfold Ow
   rw [if_pos hown]
   refine ⟨_,_,_,rfl,by simp [e2'],hnc, .inr ⟨w.heap.size,0,_,0,0,rfl,hnew,wQ.zero, ?_,pW++bE,by simp [hl0,hfl],by simp,fun i hi=>?_⟩⟩
   ·simp only [Array.size_append,List.size_toArray,size_zeroCells,hzl,ho1,hnl, ←Nat.add_mul]
    have:n+rX.length+(nc - (n+rX.length))=nc:=by omega
    rw [this]
    omega
   have hi':i<qG.length+rX.length:=by simpa using hi
   rw [vY]
   have hcell:∀q,q<(olds++news).length→cellAt (hp (w.drew.alloc (.cells (olds.toArray++news.toArray++Builtin.zeroCells (mJ kk).cells (nc - (n+rX.length))) e))) w.heap.size (0+q)=(olds++news)[q]?:=by
    intro q hq
    unfold cellAt
    rw [hnew]
    simp only [Nat.zero_add]
    rw [Array.getElem?_append_left (by simpa using hq)]
    simp
   by_cases hi0:i<qG.length
   ·rw [if_pos (by rw [hl0]; exact hi0)]
    have hx:(qG++rX)[i]'hi=qG[i]:=List.getElem_append_left hi0
    refine ⟨jQ olds kk.size i,fun j hj=>?_, ?_⟩
    ·rw [mF ho1 (by omega)] at hj
     have hlt2:(i+1) * kk.size≤n * kk.size:=abX _ (by omega)
     rw [Nat.add_mul,Nat.one_mul] at hlt2
     rw [Nat.add_assoc,hcell _ (by rw [abA,ho1]; omega),List.getElem?_append_left (by rw [ho1]; omega),jv hj]
    ·show Ow _ own ok kk ((qG++rX)[i]'hi) _ _
     rw [hx]
     exact aY (fun b' h=>hold b' (hok b' h).2) (fun _ h=>h) (fun b' hb'=>hold b' (hall b' (abx _ (mD hb')))) (Vt i hi0)
   ·have hi1:i - qG.length<rX.length:=by omega
    rw [if_neg (by rw [hl0]; exact hi0)]
    have hx:(qG++rX)[i]'hi=rX[i - qG.length]:=List.getElem_append_right (by omega)
    have hfe:i - pW.length=i - qG.length:=by rw [hl0]
    rw [hfe]
    refine ⟨jQ news kk.size (i - qG.length),fun j hj=>?_, ?_⟩
    ·rw [mF hnl hi1] at hj
     have hlt2:(i - qG.length+1) * kk.size≤rX.length * kk.size:=abX _ hi1
     rw [Nat.add_mul,Nat.one_mul] at hlt2
     have e4:i * kk.size=n * kk.size+(i - qG.length) * kk.size:=by rw [←Nat.add_mul]; congr 1; omega
     rw [Nat.add_assoc,hcell _ (by rw [abA,ho1,hnl]; omega),List.getElem?_append_right (by rw [ho1]; omega),jv hj]
     congr 1
     rw [ho1]
     omega
    ·show Ow _ own ok kk ((qG++rX)[i]'hi) _ _
     rw [hx]
     exact aY (fun b' h=>hold b' (hok b' h).2) (fun _ h=>h) (fun b' hb'=>hold b' (hall b' (abu _ (mD hb')))) (hel _ hi1)
end
end
section
open Go
variable [Fr]
section
variable {P:Program} {T:gL} {cx:Cx} {σ:St} {α:dA} {F:List Nat} {a:Act} {w:World}
theorem M8 {k l:K} (e:k=l) {x:El k} {y:El l} (ey:y=e▸x) {h:Heap} {ok:Nat→Prop} {cs:List Value} (H:Vw h ok k x cs):Vw h ok l y cs:=by subst e; subst ey; exact H
theorem rC {k l:K} (e:k=l) {x:El k} {y:El l} (ey:y=e▸x) {h:Heap} {own:List TypeId} {ok:Nat→Prop} {cs:List Value} {fo:List Nat} (H:Ow h own ok k x cs fo):Ow h own ok l y cs fo:=by subst e; subst ey; exact H
theorem IA {u:TypeId} {size n c bb q:Nat} (hu:(∃e',P.underlying u=some (.slice e'))∨P.underlying u=some .string) (Q:Nat→List Value→Prop)
  (hE:∀i,i<n→∃ds,ds.length=size∧Cells (hp w) bb (q+i * size) ds∧(∀v∈ds,v.oneCell'=true)∧Q i ds) :
  ∃news,Src P w size u (.slice (some ⟨bb,q,none⟩) n c) n news∧∀i,i<n→Q i (jQ news size i):=by
 have hrl:(kW (hp w) bb q (n * size)).length=n * size:=by simp [kW]
 have hseg:∀i,i<n→∃ds,jQ (kW (hp w) bb q (n * size)) size i=ds∧ds.length=size∧Cells (hp w) bb (q+i * size) ds∧(∀v∈ds,v.oneCell'=true)∧Q i ds:=by
  intro i hi
  obtain ⟨ds,hdl,h1,h2,h3⟩:=hE i hi
  refine ⟨ds, ?_,hdl,h1,h2,h3⟩
  apply List.ext_getElem?
  intro j
  by_cases hj:j<size
  ·rw [jv hj]
   have hlt2:(i+1) * size≤n * size:=abX _ (by omega)
   rw [Nat.add_mul,Nat.one_mul] at hlt2
   unfold kW
   rw [List.getElem?_map,List.getElem?_range (by omega)]
   have:=h1 j (by omega)
   simp only [Option.map_some]
   rw [←Nat.add_assoc,this,abG (by omega)]
   rfl
  ·rw [List.getElem?_eq_none (by rw [mF hrl hi]; omega),List.getElem?_eq_none (by omega)]
 have hcell:∀j,j<n * size→cellAt (hp w) bb (q+j)=(kW (hp w) bb q (n * size))[j]?∧∀v,(kW (hp w) bb q (n * size))[j]?=some v→v.oneCell'=true:=by
  intro j hj
  have hk:0<size:=by
   rcases Nat.eq_zero_or_pos size with h | h
   ·rw [h] at hj; omega
   ·exact h
  have hi:j / size<n:=Nat.div_lt_of_lt_mul (by rw [Nat.mul_comm]; exact hj)
  have hm:j % size<size:=Nat.mod_lt _ hk
  obtain ⟨ds,s1,hdl,s2,s3,_⟩:=hseg _ hi
  have hjj:j / size * size+j % size=j:=by rw [Nat.mul_comm]; exact Nat.div_add_mod j size
  have h1:(kW (hp w) bb q (n * size))[j]?=ds[j % size]?:=by
   rw [←s1,jv hm,hjj]
  have h2:=s2 (j % size) (by omega)
  rw [Nat.add_assoc,hjj] at h2
  refine ⟨by rw [h2,h1],fun v hv=>?_⟩
  rw [h1] at hv
  exact s3 v (List.mem_of_getElem? hv)
 refine ⟨kW (hp w) bb q (n * size),uD hu hrl (fun v hv=>?_) (fun _=>⟨bb,q,rfl,fun i hi=>(hcell i (by rw [hrl] at hi; exact hi)).1⟩),fun i hi=>?_⟩
 ·obtain ⟨j,hj,rfl⟩:=List.mem_iff_getElem.1 hv
  exact (hcell j (by rw [hrl] at hj; exact hj)).2 _ (abG hj)
 ·obtain ⟨ds,s1,_,_,_,s3⟩:=hseg i hi
  rw [s1]
  exact s3
theorem Di {u e:TypeId} {kk:K} {h:Heap} {ok:Nat→Prop} {xs:List (El kk)} {v:Value} {cs:List Value} (hu:(∃e',P.underlying u=some (.slice e'))∨P.underlying u=some .string) (hg:dV kk=true)
  (hh:h=hp w) (hv:VC (.sl e kk) v cs) (hV:Vw h ok (.sl e kk) xs cs) :
  ∃news,Src P w kk.size u v xs.length news∧∀i (hi:i<xs.length),Vw h ok kk xs[i] (jQ news kk.size i):=by
 subst hh
 obtain ⟨b,n,c,e1,e2,e3,e4,e5⟩:=vC hv hV
 subst e1
 subst e3
 by_cases h0:0<xs.length
 ·obtain ⟨bb,q,eb,hok,hel,hE⟩:=e5 h0
  subst eb
  obtain ⟨news,g1,g2⟩:=IA (P:=P) (w:=w) (n:=xs.length) (c:=c) (bb:=bb) (q:=q) hu (fun i ds=>∀hi:i<xs.length,Vw (hp w) ok kk xs[i] ds) (fun i hi=>by
   obtain ⟨ds,h1,h2⟩:=hE i hi
   exact ⟨ds,jh h2,h1,Cm hg h2,fun _=>h2⟩)
  exact ⟨news,g1,fun i hi=>g2 i hi hi⟩
 ·have hx:xs=[]:=List.eq_nil_of_length_eq_zero (by omega)
  subst hx
  exact ⟨[],uD hu (by simp) (by simp) (fun h=>by simp at h),fun i hi=>by simp at hi⟩
theorem Mc {u e:TypeId} {kk:K} {own:List TypeId} {ok:Nat→Prop} {xs:List (El kk)} {v:Value} {cs:List Value} {fo:List Nat} (hu:(∃e',P.underlying u=some (.slice e'))∨P.underlying u=some .string) (hg:dV kk=true)
  (hv:VC (.sl e kk) v cs) (hown:aA e own=true) (hO:Ow (hp w) own ok (.sl e kk) xs cs fo) (hnd:fo.Nodup) :
  ∃news,Src P w kk.size u v xs.length news∧∃bE:List (List Nat),bE.length=xs.length∧bE.flatten.Nodup∧(∀b∈bE.flatten,b∈fo)∧∀i (hi:i<xs.length),Ow (hp w) own ok kk xs[i] (jQ news kk.size i) (bE.getD i []):=by
 unfold Ow at hO
 rw [if_pos hown] at hO
 obtain ⟨b,n,c,e1,e2,e3,hO⟩:=hO
 obtain ⟨e5,_⟩:cs=[v]∧_:=hv
 rw [e1] at e5
 simp only [List.cons.injEq,and_true] at e5
 subst e5
 have e2':n=xs.length:=e2
 subst e2'
 rcases hO with ⟨hc0,hf0⟩ | ⟨bb,q,arr,lo,hi,ea,hbk,hf,hs,pW,hl0,hp0,hO⟩
 ·have hx:xs=[]:=List.eq_nil_of_length_eq_zero (by omega)
  subst hx
  exact ⟨[],uD hu (by simp) (by simp) (fun h=>by simp at h),[],rfl,by simp,by simp,fun i hi=>by simp at hi⟩
 ·subst ea
  have uJ:=hp0.nodup hnd
  obtain ⟨news,g1,g2⟩:=IA (P:=P) (w:=w) (n:=xs.length) (c:=c) (bb:=bb) (q:=q) hu (fun i ds=>∀hi:i<xs.length,Ow (hp w) own ok kk xs[i] ds (pW.getD i [])) (fun i hi=>by
   obtain ⟨ds,h1,h2⟩:=hO i hi
   exact ⟨ds,cz h2,h1,Fx hg h2,fun _=>h2⟩)
  exact ⟨news,g1,pW,hl0,(abZ.1 uJ).2,fun b hb=>hp0.mem_iff.2 (by simp [hb]),fun i hi=>g2 i hi hi⟩
theorem KO {kk:K} {own own':List TypeId} {ok:Nat→Prop} {xs:List (El kk)} {news:List Value} {bE:List (List Nat)} (hfl:bE.length=xs.length) (hnd:bE.flatten.Nodup) (hsub:∀t∈kk.tys,aA t own'=true→aA t own=true)
  (hel:∀i (hi:i<xs.length),Ow (hp w) own ok kk xs[i] (jQ news kk.size i) (bE.getD i [])) :
  ∃(tq:List (List Nat)) (uO:List Nat),tq.length=xs.length∧(tq.flatten++uO).Nodup∧(∀b∈tq.flatten++uO,b∈bE.flatten)∧
   ∀i (hi:i<xs.length),Ow (hp w) own' (fun b=>ok b∨b∈uO) kk xs[i] (jQ news kk.size i) (tq.getD i []):=by
 suffices hs:∀(n:Nat),n≤xs.length→∃(tq:List (List Nat)) (uO:List Nat),tq.length=n∧(bE.take n).flatten.Perm (tq.flatten++uO)∧
   ∀i (_:i<n) (hi:i<xs.length),Ow (hp w) own' (fun b=>ok b∨b∈uO) kk xs[i] (jQ news kk.size i) (tq.getD i []) by
  obtain ⟨tq,uO,h1,h2,h3⟩:=hs xs.length (abI _)
  rw [List.take_of_length_le (by omega)] at h2
  exact ⟨tq,uO,h1,h2.nodup hnd,fun b hb=>h2.mem_iff.2 hb,fun i hi=>h3 i hi hi⟩
 intro n
 induction n with
 | zero=>intro _; exact ⟨[],[],rfl,by simp,fun i hi=>by omega⟩
 | succ n ih=>
  intro hn
  obtain ⟨tq,uO,h1,h2,h3⟩:=ih (by omega)
  obtain ⟨f1,f2,p1,p2⟩:=om (own':=own') hsub (hel n (by omega))
  refine ⟨tq++[f1],uO++f2,by simp [h1], ?_,fun i hi hi'=>?_⟩
  ·rw [List.take_succ_eq_append_getElem (by omega),List.flatten_append]
   have e:[bE[n]'(by omega)].flatten=bE.getD n []:=by rw [bR (show n<bE.length by omega)]; simp
   rw [e]
   refine (h2.append p1).trans ?_
   simp only [List.flatten_append,abN]
   refine List.Perm.append_left _ ?_
   simp only [List.flatten_cons,List.flatten_nil,abV]
   exact qX
  ·rw [vY,h1]
   by_cases h:i<n
   ·rw [if_pos h]
    exact aY (fun _ _=>rfl) (fun b hb=>hb.imp id (fun h=>by simp [h])) (fun _ _=>rfl) (h3 i h hi')
   ·have:i=n:=by omega
    subst this
    rw [if_neg (by omega)]
    simp only [Nat.sub_self]
    exact aY (fun _ _=>rfl) (fun b hb=>hb.imp id (fun h=>by simp [h])) (fun _ _=>rfl) p2
def gD (P:Program) (cx:Cx) (σ:St) (α:dA) (F:List Nat) (a:Act) (w:World) (u e:TypeId) (kk:K) (v:Value) (s:oN kk):Prop:=
 ∃fB F1 news,Rel cx (aj s.ws σ) fB F1 a w∧(∀q,q∉s.ws.flatMap Wr.nG→Same σ α (aj s.ws σ) fB q)∧(aj s.ws σ).slots=σ.slots∧(∀q,σ.roots q=none→(aj s.ws σ).roots q=none)∧(∀b∈F,b∈F1)∧
  dW (aj s.ws σ) s.tags∧Src P w kk.size u v s.xs.length news∧
  ∀own',(∀t∈kk.tys,aA t own'=true→t∉s.bad)→∃(bE:List (List Nat)) (uO:List Nat),bE.length=s.xs.length∧(bE.flatten++uO).Nodup∧(∀b∈bE.flatten++uO,b∈F1∧b∉F)∧
   ∀i (hi:i<s.xs.length),Ow (hp w) own' (fun b=>(gy cx (aj s.ws σ) fB F1 w s.tags b∧∃t∈s.bad,oW (hp w) b t)∨b∈uO) kk s.xs[i] (jQ news kk.size i) (bE.getD i [])
theorem Ee {n i:Nat}:(List.replicate n ([]:List Nat)).getD i []=[]:=by
 simp only [abF,List.getElem?_replicate]
 split <;> rfl
theorem pO (H:Rel cx σ α F a w) {u e:TypeId} {kk:K} {v:Value} {s:oN kk} (hws:s.ws=[]) (nL:dW σ s.tags) {news:List Value} (hS:Src P w kk.size u v s.xs.length news)
  (hV:∀i (hi:i<s.xs.length),Vw (hp w) (gy cx σ α F w s.tags) kk s.xs[i] (jQ news kk.size i)) (hbad:s.bad=kk.tys∨kk.flat=true∨s.xs=[]):gD P cx σ α F a w u e kk v s:=by
 refine ⟨α,F,news,by rw [hws]; exact H,by rw [hws]; exact fun q _=>jg ..,by rw [hws]; rfl,by rw [hws]; exact fun q h=>h,fun _ h=>h,by rw [hws]; exact nL,hS,fun own' ho=>?_⟩
 refine ⟨List.replicate s.xs.length [],[],by simp,by simp,by simp,fun i hi=>?_⟩
 rw [Ee,hws]
 rcases hbad with h | h | h
 ·refine aY (fun _ _=>rfl) (fun b hb=>.inl (h▸hb)) (fun _ _=>rfl) (lD (fun t ht=>?_) (yS kk.tys (fun _ h=>h) (hV i hi)))
  cases hm:aA t own' with
  | false=>rfl
  | true=>exact absurd (h▸ht) (ho t ht hm)
 ·exact lD (fun t ht=>by rw [qR h] at ht; simp at ht) (gN h (hV i hi))
 ·rw [h] at hi; simp at hi
theorem EZ {A:Type} {z:A} (H:Rel cx σ α F a w) {u e:TypeId} {kk:K} {x:AV} {v:Value} {k:oN kk→Prog A} (hu:(∃e',P.underlying u=some (.slice e'))∨P.underlying u=some .string) (hg:dV kk=true)
  (hx:bz cx σ α F w x v) (hw:l9 σ x) (h:(Ms e kk x k).ends σ z):∃s:oN kk,(k s).ends σ z∧gD P cx σ α F a w u e kk v s:=by
 have sj:(nW x fun k' y tags=>match bL k' (.sl e kk) y with
   | some xs=>k ⟨xs,kk.tys,bif kk.flat then [] else tags,[],false,[]⟩
   | none=>.fail).ends σ z→∃s:oN kk,(k s).ends σ z∧gD P cx σ α F a w u e kk v s:=by
  intro h
  obtain ⟨k',y,Tg,cs,h1,h2,h3,h4⟩:=oG H hx hw h
  cases hc:bL k' (.sl e kk) y with
  | none=>rw [hc] at h4; exact h4.elim
  | some xs=>
   rw [hc] at h4
   obtain ⟨ek,ey⟩:=bF hc
   subst ek
   simp only at ey
   subst ey
   obtain ⟨news,g1,g2⟩:=Di (P:=P) (u:=u) (xs:=xs) hu hg rfl h1 h2
   cases hf:kk.flat with
   | true=>
    rw [hf] at h4
    exact ⟨_,h4,pO H rfl (fun t ht=>by simp at ht) g1 (fun i hi=>gN hf (g2 i hi)) (.inr (.inl hf))⟩
   | false=>
    rw [hf] at h4
    exact ⟨_,h4,pO H rfl h3 g1 g2 (.inl rfl)⟩
 cases x with
 | val k1 y Tg=>
  cases k1 with
  | str=>
   simp only [Ms] at h
   cases h1:bL (.int .u8) kk (0:Int) with
   | none=>rw [h1] at h; exact h.elim
   | some q=>
    rw [h1] at h
    obtain ⟨ek,_⟩:=bF h1
    subst ek
    simp only at h
    cases h2:bL (.sl e (.int .u8)) (.sl e (.int .u8)) (show List Int from y) with
    | none=>rw [h2] at h; exact h.elim
    | some xs=>
     rw [h2] at h
     obtain ⟨_,ey⟩:=bF h2
     simp only at ey
     subst ey
     obtain ⟨B,e1,e2⟩:=qp hx
     subst e1
     have hlen:(bytesOf B).length=B.size:=iR B
     have hS:=GL (P:=P) (w:=w) (u:=u) (B:=B) hu
     subst e2
     refine ⟨_,h,pO H rfl (fun t ht=>by simp at ht) (news:=B.data.toList.map fun b=>.int .u8 b.toNat) ?_ (fun i hi=>?_) (.inr (.inl rfl))⟩
     ·show Src P w 1 u _ (bytesOf B).length _
      rw [hlen]
      exact hS
     ·have hi':i<B.size:=by
       have:i<(bytesOf B).length:=hi
       rw [hlen] at this; exact this
      have hseg:jQ (B.data.toList.map fun b=>Value.int .u8 b.toNat) (K.int .u8).size i=[.int .u8 (B.data.toList[i]'(by simpa using hi')).toNat]:=by
       apply List.ext_getElem?
       intro j
       show (jQ (B.data.toList.map fun b=>Value.int .u8 b.toNat) 1 i)[j]?=_
       cases j with
       | zero=>rw [jv (by omega)]; simp [hi']
       | succ j=>rw [List.getElem?_eq_none (by rw [mF (m:=B.size) (by simp) hi']; omega)]; simp
      rw [hseg]
      have he:(bytesOf B)[i]'hi=((B.data.toList[i]'(by simpa using hi')).toNat:Int):=by simp [bytesOf]
      refine ⟨?_, ?_⟩
      ·show [Value.int .u8 _]=[Value.int .u8 _]
       congr 2
       exact he.symm
      ·show Al .u8 _
       have:Al .u8 ((B.data.toList[i]'(by simpa using hi')).toNat:Int):=⟨by omega,by have:=(B.data.toList[i]'(by simpa using hi')).toNat_lt; omega⟩
       exact he▸this
  | _=>exact sj h
 | gK=>
  obtain ⟨b,rfl⟩:=hx
  exact ⟨_,h,pO H rfl (fun t ht=>by simp at ht) (news:=[]) (uD hu (by simp) (by simp) (fun h=>by simp at h)) (fun i hi=>by simp at hi) (.inr (.inr rfl))⟩
 | ref r g=>
  simp only [Ms] at h
  obtain ⟨R,hr,hv,h⟩:=bU h
  rcases ah h with ⟨hg1,h⟩ | ⟨_,h⟩
  ·have hgg:=abw hg1
   obtain ⟨hkind,wz⟩:=hx R hr hgg
   cases hc:bL R.k (.sl e kk) R.x with
   | none=>rw [hc] at h; exact h.elim
   | some xs=>
    rw [hc] at h
    simp only at h
    obtain ⟨ek,ey⟩:=bF hc
    have K:=H.roots r R hr
    have hO:=K.ow hv
    have QG:=ku H hr hO (fun b hb=>hb)
    cases hf:kk.flat with
    | true=>
     rw [hf] at h
     have A8:Vw (hp w) (gy cx σ α F w (R.out r R.k)) (.sl e kk) xs (α.hdr r):=M8 ek ey QG
     obtain ⟨news,g1,g2⟩:=Di (P:=P) (u:=u) (xs:=xs) hu hg rfl (ek▸wz) A8
     exact ⟨_,h,pO H rfl (fun t ht=>by simp at ht) g1 (fun i hi=>gN hf (g2 i hi)) (.inr (.inl hf))⟩
    | false=>
     rw [hf] at h
     simp only [cond_false] at h
     rcases ah h with ⟨_,h⟩ | ⟨_,h⟩
     ·exact h.elim
     ·obtain ⟨H1,T1,hh,hcl⟩:=kill H hr hkind hv
      have Jk:Ow (hp w) R.own (gy cx (ak σ r bN) (iE α r) (α.fo r++F) w R.tags) (.sl e kk) xs (α.hdr r) (α.fo r):=rC ek ey (hh.ow hcl)
      have TZ:VC (.sl e kk) v (α.hdr r):=ek▸wz
      have hsame:∀q,q∉([Wr.r r none]:List Wr).flatMap Wr.nG→Same σ α (ak σ r bN) (iE α r) q:=fun q hq=>fQ (by simpa [Wr.nG] using hq)
      have hnone:∀q,σ.roots q=none→(ak σ r bN).roots q=none:=fun q hq=>by
       rw [bS]
       ·exact hq
       ·intro e; rw [e,hr.1] at hq; simp at hq
      have yu:∀b∈α.fo r,b∉F:=fun b hb=>H.gQ r R hr b (abu _ hb)
      cases hme:aA e R.own with
      | true=>
       obtain ⟨news,g1,bE,g2,g3,g4,g5⟩:=Mc (P:=P) (u:=u) hu hg TZ hme Jk hh.nd
       rw [hme] at h
       simp only [cond_true,Bool.true_and] at h
       refine ⟨_,h,iE α r,α.fo r++F,news,H1,hsame,rfl,hnone,fun b hb=>abu _ hb, ?_,g1,fun own' ho=>?_⟩
       ·intro t ht
        simp only at ht
        cases hal:(kk.tys.all fun t=>aA t R.own) with
        | true=>rw [hal] at ht; simp at ht
        | false=>rw [hal] at ht; exact hh.wt t ht
       ·simp only at ho ⊢
        have XH:∀i (hi:i<List.length xs),Ow (hp w) R.own (fun b=>gy cx (ak σ r bN) (iE α r) (α.fo r++F) w (bif (kk.tys.all fun t=>aA t R.own) then [] else R.tags) b∧∃t∈aK R.own kk,oW (hp w) b t) kk xs[i] (jQ news kk.size i) (bE.getD i []):=by
         intro i hi
         cases hal:(kk.tys.all fun t=>aA t R.own) with
         | false=>exact mQ _ (fun _ h=>h) (g5 i hi)
         | true=>exact jC (fP (iT hal)) (g5 i hi)
        obtain ⟨tq,uO,f1,f2,f3,f4⟩:=KO (own':=own') g2 g3 (fun t ht hm=>(uu (own:=R.own) ht).resolve_left (fun hx=>ho t ht hm hx)) XH
        exact ⟨tq,uO,f1,f2,fun b hb=>⟨abx _ (g4 b (f3 b hb)),yu b (g4 b (f3 b hb))⟩,f4⟩
      | false=>
       have hO2:=Jk
       unfold Ow at hO2
       rw [hme] at hO2 h
       simp only [abv,if_false] at hO2
       simp only [cond_false,Bool.false_and] at h
       obtain ⟨news,g1,g2⟩:=Di (P:=P) (u:=u) (xs:=xs) hu hg rfl TZ hO2.2
       refine ⟨_,h,iE α r,α.fo r++F,news,H1,hsame,rfl,hnone,fun b hb=>abu _ hb,hh.wt,g1,fun own' ho=>?_⟩
       refine ⟨List.replicate (List.length xs) [],[],by simp,by simp,by simp,fun i hi=>?_⟩
       rw [Ee]
       refine aY (fun _ _=>rfl) (fun b hb=>.inl hb) (fun _ _=>rfl) (lD (fun t ht=>?_) (yS kk.tys (fun _ h=>h) (g2 i hi)))
       cases hm:aA t own' with
       | false=>rfl
       | true=>exact absurd ht (ho t ht hm)
  ·exact h.elim
 | mU r p n=>exact sj h
 | undef=>exact sj h
 | ptr r p n=>exact sj h
 | gV bt k y T=>exact sj h
 | zo _ _ _ _=>exact sj h
 | sI _=>exact sj h
 | part _ _ _ _ _=>exact sj h
 | qE _ _ _ _=>exact sj h
 | app _ _ _ _=>exact sj h
 | mE=>exact sj h
 | fn f cs=>exact sj h
end
end
section
open Go
variable [Fr]
section
variable {P:Program} {T:gL} {cx:Cx} {σ:St} {α:dA} {F:List Nat} {a:Act} {w:World} {o:Oper} {d:Nat} {ws:List Wr} {r:Nat} {R:Root}
theorem Vb (H:Rel cx σ α F a w) (hr:aM σ r R) (hv:bg σ R) (hk:R.kind=.anon) {R':Root} (hk':R'.kind=.anon) {e:TypeId} (hw:R'.w=e :: R.w) (hh:R'.h=mI :: e :: R.h) (hg:R'.g=R.g+1) (hev:R'.ew=R.ew∧R'.eh=R.eh)
  (nL:dW σ R'.tags∧∀n,(r,n)∉R'.tags) {w':World} (hos:w'.os=w.os∧w'.tape=w.tape∧w'.output=w.output) (hsize:w.heap.size≤w'.heap.size) {gu:List Nat}
  (Fp:∀b,b<w.heap.size→hp w' b≠hp w b→b∈F∨(b∈α.fo r∧lH (hp w) b=some e)) (U4:∀b∈gu,b∈α.fo r∨b∈F∨(w.heap.size≤b∧b<w'.heap.size)) (hnd:gu.Nodup)
  {hdr':List Value} (hlen:hdr'.length=R'.k.size) (how:Ow (hp w') R'.own (gy cx (ak σ r R') (aB α r (α.loc r) hdr' gu) [] w' R'.tags) R'.k R'.x hdr' gu) {v':Value} (hv':VC R'.k v' hdr') :
  Rel cx (ak σ r R') (aB α r (α.loc r) hdr' gu) [] a w'∧bz cx (ak σ r R') (aB α r (α.loc r) hdr' gu) [] w' (.ref r R'.g) v':=by
 have hblk:blk α R r=α.fo r:=by simp [blk,dY,hk]
 have hd':R'.aT=false:=by simp [Root.aT,hk']
 have T1:sQ cx σ α F w r R R' gu [] w' [e] [mI,e]:=by
  refine ⟨.inr ⟨hw,hh,by omega,hk'.trans hk.symm,fun h=>by rw [hk] at h; simp at h, .inl (by simp)⟩,nL,hos,hsize,fun b hb hne=>?_,fun _ b hb=>?_,fun b hb=>by simp at hb,List.nodup_nil,fun _ b _ h=>by simp at h,fun j pi b o n hj hb Ru hne=>?_,fun _=>hev⟩
  ·rcases Fp b hb hne with h | ⟨h1,h2⟩
   ·exact .inl h
   ·exact .inr ⟨by rw [hblk]; exact h1, .inr (.inl ⟨e,by simp,h2⟩)⟩
  ·rw [fO hk'] at hb
   rw [hblk]
   exact U4 b hb
  ·obtain ⟨Q,hQ,hkq,_,_⟩:=H.kP j pi b o n hj hb
   have hQR:Q=R:=by have:=hQ.1; rw [←Ru,hr.1] at this; simpa using this.symm
   rw [hQR,hk] at hkq
   simp at hkq
 refine ⟨T1.rel H hr (fun _=>⟨fun _=>how,hlen,fun b o hb=>by rw [q8 hk'] at hb; simp at hb,by rw [fO hk']; exact hnd⟩) ?_ ?_, ?_⟩
 ·intro _ p n v hn hold
  refine ⟨hold.1,fun Q hQ NM hcl hty hs=>?_⟩
  rw [aF] at hQ
  simp only [abr] at hQ
  subst hQ
  cases p with
  | nil=>
   obtain ⟨_,cs,b,o,h1,_⟩:=hold.2 R hr.1 hv (by simp [clean,fI,aA]) (fun t ht=>by simp [aa] at ht) rfl
   simp only [bn,abr,abD] at h1
   have:dY α R r=none:=by simp [dY,hk]
   rw [this] at h1
   simp at h1
  | cons s p=>
   have e1:R'.h=[mI,e]++R.h:=hh
   rw [e1,kH hn] at hcl
   exact absurd (show mI∈fI (s :: p) R'.k from abY) (hcl.1 mI (by simp))
 ·intro _ g v hgl hold Q hQ Vv
  obtain ⟨rfl,_⟩:=dU hQ
  omega
 ·intro Q hQ _
  obtain ⟨rfl,_⟩:=dU hQ
  refine ⟨hk', ?_⟩
  simp only [aB,upd_same]
  exact hv'
theorem Ir (H:Rel cx σ α F a w) {w':World} (hs:w.heap.size≤w'.heap.size) {Tg Y2:List Tag} {gu:List Nat} {b:Nat} (hb:gy cx σ α F w Tg b∨b∈F) (ht:∀t∈Tg,t∈Y2) (hfo:b∉gu):gy cx σ α gu w' Y2 b:=by
 rcases hb with hb | hb
 ·exact ⟨Nat.lt_of_lt_of_le hb.1 hs,hfo,hb.2.2.1,fun q Q hq hbq=>(hb.2.2.2.1 q Q hq hbq).imp fun n hn=>ht _ hn,fun h0=>(hb.2.2.2.2 h0).imp (fun ⟨j,n,h1,h2⟩=>⟨j,n,ht _ h1,h2⟩) id⟩
 ·have hm:=H.fl b hb
  refine ⟨Nat.lt_of_lt_of_le hm.1 hs,hfo,mO H hb,fun q Q hq hbq=>absurd hb (H.gQ q Q hq b hbq),fun h0=>?_⟩
  rcases hm.2 with h | ⟨j,pi,h1,h2⟩
  ·omega
  ·exact .inr ⟨j,pi,h1,h2⟩
theorem jH {c:Call} (ho:o.op=.call c) (hb:c.callee=.builtin .append) {x y:Operand} (ha:c.args.toList=[x,y]) {t u:TypeId} (ht:c.argTypes[0]?=some t) (hu:c.argTypes[1]?=some u) {v':Value} {w':World}
  (h:(Builtin.append_ #[t,u] o.type #[a.eval x,a.eval y]).run P w=.ok v' w'):(execOp a.eval o).run P w=.ok (.value v') w':=by
 obtain ⟨cc,hcc⟩:=iw (P:=P) (a:=a) (w:=w) ho hb
 rw [hcc]
 have h1:c.args.map a.eval=#[a.eval x,a.eval y]:=by
  apply Array.ext'
  rw [Array.toList_map,ha]
  rfl
 have h2:Builtin.append_ c.argTypes o.type #[a.eval x,a.eval y]=Builtin.append_ #[t,u] o.type #[a.eval x,a.eval y]:=by
  unfold Builtin.append_
  simp only [ht,hu]
  rfl
 rw [h1]
 simp only [builtin,abR,h2,h,abK,abW]
end
end
section
open Go
variable [Fr]
section
variable {P:Program} {T:gL} {cx:Cx} {σ:St} {α:dA} {F:List Nat} {a:Act} {w:World} {o:Oper} {d:Nat} {ws:List Wr}
theorem yU (hT:dO P T) {σ1:St} {fB:dA} {F1:List Nat} (H1:Rel cx σ1 fB F1 a w) (hd:o.dst=some d) (hdn:d<cx.nt) {c:Call} (ho:o.op=.call c) (hcb:c.callee=.builtin .append) {x y:Operand} (ha:c.args.toList=[x,y])
  {t u e:TypeId} {kk:K} (ht0:c.argTypes[0]?=some t) (hu0:c.argTypes[1]?=some u) (hty:T.ty t=some (.sl e kk)) (hn1:σ1.roots (aS d 0)=none)
  {own:List TypeId} {tags T1 T2:List Tag} {bad:List TypeId} {qG rX:List (El kk)} {v0:Value} {qC fd:List Nat} {bE:List (List Nat)} {uO:List Nat} {news:List Value} (hv0:a.eval x=v0) (hS:Src P w kk.size u (a.eval y) rX.length news)
  (hown:aA e own=true) (Zn:∀t,aA t own=true→t∉bad) (hwt:dW σ1 tags) (ht1:∀t∈T1,t∈tags) (ht2:∀t∈T2,t∈tags)
  (hO:Ow (hp w) own (fun b=>gy cx σ1 fB F1 w T1 b∨b∈fd) (.sl e kk) qG [v0] qC) (OV:∀b∈qC++fd,b∈F1) (uJ:(qC++fd).Nodup) (hF1:∀b∈bE.flatten++uO,b∈F1∧b∉qC++fd) (Eh:(bE.flatten++uO).Nodup)
  (hfl:bE.length=rX.length) (hel:∀i (hi:i<rX.length),Ow (hp w) own (fun b=>((gy cx σ1 fB F1 w T2 b∨b∈F1)∧∃t∈bad,oW (hp w) b t)∨b∈uO) kk rX[i] (jQ news kk.size i) (bE.getD i []))
  (hb:(qG.length+rX.length) * T.bytes e≤140737488355328) (kp:Bool) :
  lS P cx o a w (aj [.r (aS d 0) (some (aD (.sl e kk) (qG++rX) own tags .anon kp)), .s d (.one (.ref (aS d 0) 0))] σ1):=by
 have ht:=hT.ty t _ hty
 have n0:=abz.1 uJ
 have n1:=abz.1 Eh
 have hlt:∀b∈F1,b<w.heap.size:=fun b h=>(H1.fl b h).1
 have QF:=oQ hO
 have hnot:∀b,((gy cx σ1 fB F1 w T2 b∨b∈F1)∧∃t∈bad,oW (hp w) b t)→b∉qC:=by
  rintro b ⟨_,t,h1,h2⟩ hb0
  obtain ⟨e',_,h3,h4⟩:=QF b hb0
  have h2:=H1.GQ (H1.fl b (OV b (abx _ hb0))) h2
  rw [h2] at h4
  simp only [abr] at h4
  subst h4
  exact Zn _ h3 h1
 let ok:Nat→Prop:=fun b=>(gy cx σ1 fB F1 w T1 b∨b∈fd)∨((gy cx σ1 fB F1 w T2 b∨b∈F1)∧∃t∈bad,oW (hp w) b t)∨b∈uO
 obtain ⟨v',w',gu,hrun,hos,hsz,zN,hfo,CK,A8⟩:=Bq (w:=w) (ok:=ok) (u:=u) (ty:=o.type) (x:=a.eval y) (bE:=bE) ht (aY (fun _ _=>rfl) (fun b h=>.inl h) (fun _ _=>rfl) hO) hown
  (abz.2 ⟨n0.1,n1.1,fun b1 h1 b2 h2 e=>(hF1 b2 (abx _ h2)).2 (abx _ (e▸h1))⟩)
  (fun b hb=>by
   rcases hb with (h | h) | h | h
   ·exact ⟨fun h0=>h.2.1 (OV b (abx _ h0)),h.1⟩
   ·exact ⟨fun h0=>n0.2.2 b h0 b h rfl,hlt b (OV b (abu _ h))⟩
   ·refine ⟨hnot b h, ?_⟩
    rcases h.1 with h | h
    ·exact h.1
    ·exact hlt b h
   ·exact ⟨fun h0=>(hF1 b (abu _ h)).2 (abx _ h0),hlt b (hF1 b (abu _ h)).1⟩)
  (fun b hb=>by
   rcases abB.1 hb with h | h
   ·exact hlt b (OV b (abx _ h))
   ·exact hlt b (hF1 b (abx _ h)).1)
  hS hfl (fun i hi=>aY (fun _ _=>rfl) (fun b h=>.inr h) (fun _ _=>rfl) (hel i hi)) hb
 have yu:∀b∈gu,b∈F1∨(w.heap.size≤b∧b<w'.heap.size):=by
  intro b hb
  rcases hfo b hb with h | h | h
  ·exact .inl (OV b (abx _ h))
  ·exact .inl (hF1 b (abx _ h)).1
  ·exact .inr h
 have T2':=wG (w':=w') (F':=gu) H1 hos hsz (fun b h1 h2=>OV b (abx _ (zN b h1 h2).1)) yu CK
 have H2:=H1.mem T2'
 have wz:VC (.sl e kk) v' [v']:=⟨rfl,by
  unfold Ow at A8
  rw [if_pos hown] at A8
  obtain ⟨b,n,c,e1,_⟩:=A8
  simp only [List.cons.injEq,and_true] at e1
  rw [e1]; simp⟩
 have hok:∀b,ok b→gy cx σ1 fB gu w' tags b:=by
  intro b hb
  have hnew:b<w.heap.size→¬(w.heap.size≤b∧b<w'.heap.size):=fun h=>by omega
  rcases hb with (h | h) | h | h
  ·refine Ir H1 hsz (.inl h) ht1 (fun hb=>?_)
   rcases hfo b hb with h2 | h2 | h2
   ·exact h.2.1 (OV b (abx _ h2))
   ·exact h.2.1 (hF1 b (abx _ h2)).1
   ·exact hnew h.1 h2
  ·have hF:=OV b (abu _ h)
   refine Ir H1 hsz (Tg:=[]) (.inr hF) (by simp) (fun hb=>?_)
   rcases hfo b hb with h2 | h2 | h2
   ·exact n0.2.2 b h2 b h rfl
   ·exact (hF1 b (abx _ h2)).2 (abu _ h)
   ·exact hnew (hlt b hF) h2
  ·refine Ir H1 hsz h.1 ht2 (fun hb=>?_)
   have hlt':b<w.heap.size:=by
    rcases h.1 with h | h
    ·exact h.1
    ·exact hlt b h
   rcases hfo b hb with h2 | h2 | h2
   ·exact hnot b h h2
   ·obtain ⟨l,hl,hbl⟩:=List.mem_flatten.1 h2
    obtain ⟨i,hi,rfl⟩:=List.mem_iff_getElem.1 hl
    have:=oQ (hel i (by omega)) b (by rw [bR hi]; exact hbl)
    obtain ⟨e',_,h3,h4⟩:=this
    obtain ⟨_,t,h5,h6⟩:=h
    have h6:=H1.GQ (H1.fl b (hF1 b (abx _ h2)).1) h6
    rw [h6] at h4
    simp only [abr] at h4
    subst h4
    exact Zn _ h3 h5
   ·exact hnew hlt' h2
  ·have hF:=(hF1 b (abu _ h)).1
   refine Ir H1 hsz (Tg:=[]) (.inr hF) (by simp) (fun hb=>?_)
   rcases hfo b hb with h2 | h2 | h2
   ·exact (hF1 b (abu _ h)).2 (abx _ h2)
   ·exact n1.2.2 b h2 b h rfl
   ·exact hnew (hlt b hF) h2
 obtain ⟨vI,k1,k2⟩:=qN (k:=.sl e kk) (x:=qG++rX) (own:=own) (tags:=tags) (v:=v') (cs:=[v']) (fo:=gu) (r:=aS d 0) (F':=[]) H2 hn1 (dZ d 0)
  (fun b hb=>hb) CK hwt (fun b hb=>by simp at hb) List.nodup_nil rfl (fun _=>aY (fun _ _=>rfl) (fun b hb=>.inl (hok b hb)) (fun _ _=>rfl) A8) wz kp
 exact gq (x:=.one (.ref (aS d 0) 0)) k1 hd hdn (jH ho hcb ha ht0 hu0 (by rw [hv0]; exact hrun)) k2 ⟨_,aF .., .inr (ab0 _)⟩
theorem xK {ws:List Wr} {tags:List Tag} (h:sU ws tags=true):∀t∈tags,t.1∉ws.flatMap Wr.nG:=fun t ht=>by
 have:=abH.1 h t ht
 simpa [aO] using this
theorem EH {ws:List Wr} {r:Nat} (h:(ws.all fun w=>!w.loc.beq (.r r))=true):r∉ws.flatMap Wr.nG:=by
 intro hm
 obtain ⟨wr,h1,h2⟩:=ab3.1 hm
 have:=abH.1 h wr h1
 cases wr with
 | s n x=>simp [Wr.nG] at h2
 | r n x=>
  simp only [Wr.nG,abL] at h2
  subst h2
  simp [Wr.loc,Loc.beq] at this
theorem FW (hT:dO P T) (H:Rel cx σ α F a w) (hd:o.dst=some d) (hdn:d<cx.nt) {c:Call} (ho:o.op=.call c) (hcb:c.callee=.builtin .append)
  (h:(iI c.args.toList fun
   | [a,b]=>match c.argTypes[0]?,(c.argTypes[1]?).bind T.ty with
    | some t,some (.sl _ _)=>uw T d t a b fun ws=>(.ret ws:Prog (List Wr))
    | some t,some .str=>uw T d t a b fun ws=>(.ret ws:Prog (List Wr))
    | _,_=>.fail
   | _=>.fail).ends σ ws):lS P cx o a w (aj ws σ):=by
 obtain ⟨vs,h1,h2,h⟩:=gY H h
 obtain ⟨u,v,x,y,t,ut,hvs,ha,hx,hy,ht0,hu0,YF,h9⟩:∃u v x y t ut,vs=[u,v]∧c.args.toList=[x,y]∧bz cx σ α F w u (a.eval x)∧bz cx σ α F w v (a.eval y)∧c.argTypes[0]?=some t∧c.argTypes[1]?=some ut∧
   ((∃e',P.underlying ut=some (.slice e'))∨P.underlying ut=some .string)∧(uw T d t u v fun ws=>(.ret ws:Prog (List Wr))).ends σ ws:=by
  split at h
  ·rename_i u v
   have hargs:∃x y,c.args.toList=[x,y]∧bz cx σ α F w u (a.eval x)∧bz cx σ α F w v (a.eval y):=by
    revert h1
    generalize c.args.toList=l
    intro h1
    cases l with
    | nil=>exact h1.elim
    | cons x l=>
     cases l with
     | nil=>exact h1.2.elim
     | cons y l=>
      cases l with
      | nil=>exact ⟨x,y,rfl,h1.1,h1.2.1⟩
      | cons _ _=>exact h1.2.2.elim
   obtain ⟨x,y,e1,e2,e3⟩:=hargs
   split at h
   ·rename_i t e k e4 e5
    obtain ⟨ut,e6,e7⟩:=nU hT e5
    exact ⟨u,v,x,y,t,ut,rfl,e1,e2,e3,e4,e6, .inl ⟨_,e7.sl.1⟩,h⟩
   ·rename_i t e4 e5
    obtain ⟨ut,e6,e7⟩:=nU hT e5
    exact ⟨u,v,x,y,t,ut,rfl,e1,e2,e3,e4,e6, .inr e7.str,h⟩
   ·exact h.elim
  ·exact h.elim
 clear h
 have h:=h9
 clear h9
 subst hvs
 have hwu:=h2 u (by simp)
 have hwv:=h2 v (by simp)
 unfold uw at h
 cases hty:T.ty t with
 | none=>rw [hty] at h; exact h.elim
 | some k0=>
  rw [hty] at h
  cases k0 with
  | sl e kk=>
   have ht:=hT.ty t _ hty
   simp only at h
   obtain ⟨s,h8,fB,F1,news,H1,hsame,YB,hnone,XJ,hwt,hS,hels⟩:=EZ (P:=P) (u:=ut) H YF ht.sl.2.1.dV hy hwv h
   clear h
   rcases ah h8 with ⟨_,h⟩ | ⟨hbad,h⟩
   ·exact h.elim
   clear h8
   cases u with
   | gK=>
    obtain ⟨b0,hv0⟩:=hx
    obtain ⟨hb,h⟩:=h
    obtain ⟨hn,h⟩:=eY h
    rw [az h,bK]
    have ho1:aA e (e :: aZ kk.tys s.bad)=true:=bu.2 (by simp)
    have ho2:∀t,aA t (e :: aZ kk.tys s.bad)=true→t∉s.bad:=fun t ht=>by
     rcases abE.1 (bu.1 ht) with h | h
     ·rw [h]; exact aO.1 hbad
     ·exact (cZ.1 (bu.2 h)).2
    obtain ⟨bE,uO,f1,f2,f3,f4⟩:=hels (e :: aZ kk.tys s.bad) (fun t _ ht=>ho2 t ht)
    exact yU hT H1 hd hdn ho hcb ha ht0 hu0 hty (hnone _ hn) (qG:=[]) (v0:=.slice b0 0 0) (qC:=[]) (fd:=[]) (T1:=[]) (T2:=s.tags) (bad:=s.bad) hv0 hS ho1 ho2 hwt (by simp) (fun _ h=>h) tX (by simp) (by simp)
     (fun b hb=>⟨(f3 b hb).1,by simp⟩) f2 f1 (fun i hi=>aY (fun _ _=>rfl) (fun b hb=>hb.imp (fun h=>⟨.inl h.1,h.2⟩) id) (fun _ _=>rfl) (f4 i hi)) (by simpa using hb) s.keep
   | mU r p n=>
    obtain ⟨R,hr,hv,h⟩:=bU h
    rcases ah h with ⟨hc,h⟩ | ⟨_,h⟩
    ·simp only [aby] at hc
     obtain ⟨⟨⟨⟨⟨⟨⟨c1,c2⟩,c3⟩,c4⟩,c5⟩,c6⟩,c7⟩,c8⟩:=hc
     cases hg:aI p R.k R.x with
     | none=>rw [hg] at h; exact h.elim
     | some dd=>
      rw [hg] at h
      simp only at h
      cases hck:bL dd.1 (.sl e kk) dd.2 with
      | none=>rw [hck] at h; exact h.elim
      | some xs=>
       rw [hck] at h
       cases hga:uP R p dd with
       | none=>rw [hga] at h; exact h.elim
       | some R'=>
        rw [hga] at h
        simp only at h
        obtain ⟨hb,h⟩:=h
        obtain ⟨hn,h⟩:=eY h
        rw [az h,bK]
        obtain ⟨ek,ey⟩:=bF hck
        unfold uP at hga
        cases hz:dL p R.k R.x (mh dd) with
        | none=>rw [hz] at hga; simp at hga
        | some z=>
         rw [hz] at hga
         simp only [abr] at hga
         have eR:R'=dQ R dd z:=by rw [←hga]; rfl
         have hSr:=hsame r (EH c7)
         have hr1:=(hSr.live R).2 hr
         have hv1:bg (aj s.ws σ) R:=⟨hv.1,by rw [eD (fun t ht=>(hsame t.1 (xK c8 t ht)).root)]; exact hv.2⟩
         obtain ⟨eZ,hown,cs0,MO,hn0,Qi⟩:=hx R hr.1 hv (abw c1) dd hg
         have hpv:p≠[]∨∃t,R.kind=.var t:=by
          rw [Bool.or_eq_true] at c3
          rcases c3 with h | h
          ·exact .inl (by simpa using h)
          ·refine .inr ?_
           unfold Root.isVar at h
           cases hk:R.kind with
           | var t=>exact ⟨t,rfl⟩
           | _=>rw [hk] at h; simp at h
         obtain ⟨cs1,jS,eX,rest,g1,g2,g3,g4,g5,g6⟩:=gap H1 hr1 hv1 hg hz eZ hown hpv
         rw [hSr.hdr,hSr.wh,hn0] at g1
         simp only [abr,abD] at g1
         obtain ⟨rfl,rfl⟩:=g1
         have hcl:aU (ak (aj s.ws σ) r (dQ R dd z)) (aK R.own dd.1) R.tags=true:=by
          rw [g5]
          exact lG hv1.2 (fun _ h=>h) (qy p hg hown)
         have Vs:=rC (y:=xs) ek ey (g4.ow hcl)
         have ho1:aA e (aZ ((e :: kk.tys).filter fun t=>aA t R.own) s.bad)=true:=cZ.2 ⟨bu.2 (abJ.2 ⟨by simp,c5⟩),aO.1 hbad⟩
         have ho2:∀t,aA t (aZ ((e :: kk.tys).filter fun t=>aA t R.own) s.bad)=true→t∉s.bad:=fun t ht=>(cZ.1 ht).2
         obtain ⟨qC,fd,hp0,Jk⟩:=om (own':=aZ ((e :: kk.tys).filter fun t=>aA t R.own) s.bad) (fun t _ hm=>(abJ.1 (bu.1 (cZ.1 hm).1)).2) Vs
         obtain ⟨bE,uO,f1,f2,f3,f4⟩:=hels (aZ ((e :: kk.tys).filter fun t=>aA t R.own) s.bad) (fun t _ ht=>ho2 t ht)
         have Qr:∀b∈eX,b∉F1:=fun b hb hF=>(abz.1 g2.rZ).2.2 b hb b hF rfl
         have hcs:∃v0,cs0=[v0]∧a.eval x=v0:=by
          have T9:VC (.sl e kk) (a.eval x) cs0:=ek▸Qi
          exact ⟨_,T9.1,rfl⟩
         obtain ⟨v0,XC,ZZ⟩:=hcs
         subst XC
         subst eR
         have hne:aS d 0≠r:=fun e=>by have:=hr.1; rw [←e,hn] at this; simp at this
         refine yU hT g2 hd hdn ho hcb ha ht0 hu0 hty (by rw [bS _ _ hne]; exact hnone _ hn) (qG:=xs) (v0:=v0) (qC:=qC) (fd:=fd) (T1:=R.tags) (T2:=s.tags) (bad:=s.bad) (bE:=bE) (uO:=uO) ZZ hS ho1 ho2
          (fun t ht=>?_) (fun t ht=>bX.2 (.inr ht)) (fun t ht=>bX.2 (.inl ht)) Jk (fun b hb=>abx _ (hp0.mem_iff.2 hb)) (hp0.nodup g4.nd)
          (fun b hb=>⟨abu _ (f3 b hb).1,fun hb'=>Qr b (hp0.mem_iff.2 hb') (f3 b hb).1⟩) f2 f1 (fun i hi=>aY (fun _ _=>rfl) (fun b hb=>?_) (fun _ _=>rfl) (f4 i hi)) hb _
         ·rcases bX.1 ht with h | h
          ·exact g3.tag (hwt t h)
          ·exact g4.wt t h
         ·rcases hb with ⟨hb,hbt⟩ | hb
          ·refine .inl ⟨?_,hbt⟩
           by_cases hbf:b∈eX
           ·exact .inr (abx _ hbf)
           ·refine .inl ⟨hb.1,fun h=>?_,hb.2.2.1,fun q Q hq hbq=>?_,hb.2.2.2.2⟩
            ·rcases abB.1 h with h | h
             ·exact hbf h
             ·exact hb.2.1 h
            ·rcases jr hq with ⟨rfl,rfl,_⟩ | ⟨eq,hq'⟩
             ·refine hb.2.2.2.1 q R hr1 ?_
              rw [eU,kg (show (dQ R dd z).kind=R.kind from rfl)] at hbq
              rw [bO]
              rw [dX] at hbq ⊢
              exact hbq.imp id (fun h=>g6.mem_iff.2 (abu _ h))
             ·rw [(fQ (α:=fB) (σ:=aj s.ws σ) (R:=dQ R dd z) eq).blk] at hbq
              exact hb.2.2.2.1 q Q hq' hbq
          ·exact .inr hb
    ·exact h.elim
   | ref r g=>
    obtain ⟨R,hr,hv,h⟩:=bU h
    rcases ah h with ⟨hc,h⟩ | ⟨_,h⟩
    ·simp only [aby] at hc
     obtain ⟨⟨⟨⟨⟨c1,c4⟩,c5⟩,c6⟩,c7⟩,c8⟩:=hc
     cases hck:bL R.k (.sl e kk) R.x with
     | none=>rw [hck] at h; exact h.elim
     | some xs=>
      rw [hck] at h
      simp only at h
      obtain ⟨hb,h⟩:=h
      rw [az h,bK]
      obtain ⟨ek,ey⟩:=bF hck
      have hSr:=hsame r (EH c7)
      have hr1:=(hSr.live R).2 hr
      have hv1:bg (aj s.ws σ) R:=⟨hv.1,by rw [eD (fun t ht=>(hsame t.1 (xK c8 t ht)).root)]; exact hv.2⟩
      obtain ⟨hkind,Qi⟩:=hx R hr (abw c1)
      have K1:=H1.roots r R hr1
      have NJ:=H1.cB r R hr1.1
      have hfr:blk fB R r=fB.fo r:=by simp [blk,dY,hkind]
      have yu:∀b∈fB.fo r,b∉F1:=fun b hb=>H1.gQ r R hr1 b (by rw [hfr]; exact hb)
      have T9:VC (.sl e kk) (a.eval x) (fB.hdr r):=by rw [hSr.hdr]; exact ek▸Qi
      have Vs:Ow (hp w) R.own (gy cx (aj s.ws σ) fB F1 w R.tags) (.sl e kk) xs [a.eval x] (fB.fo r):=by
       have:=rC (y:=xs) ek ey (K1.ow hv1)
       rw [T9.1] at this
       exact this
      have ho1:aA e (aZ R.own s.bad)=true:=cZ.2 ⟨c5,aO.1 hbad⟩
      have ho2:∀t,aA t (aZ R.own s.bad)=true→t∉s.bad:=fun t ht=>(cZ.1 ht).2
      have hnd:(fB.fo r).Nodup:=by rw [←hfr]; exact K1.nd
      obtain ⟨qC,fd,hp0,Jk⟩:=om (own':=aZ R.own s.bad) (fun t _ hm=>(cZ.1 hm).1) Vs
      obtain ⟨bE,uO,f1,f2,f3,f4⟩:=hels (aZ R.own s.bad) (fun t _ ht=>ho2 t ht)
      have zP:∀b∈qC,b∈fB.fo r:=fun b hb=>hp0.mem_iff.2 (abx _ hb)
      have hfd0:∀b∈fd,b∈fB.fo r:=fun b hb=>hp0.mem_iff.2 (abu _ hb)
      have n0:=abz.1 (hp0.nodup hnd)
      have n1:=abz.1 f2
      have hlt:∀b∈fB.fo r,b<w.heap.size:=fun b hb=>(K1.mine b (by rw [hfr]; exact hb)).1
      have Qu:∀b∈F1,b<w.heap.size:=fun b hb=>(H1.fl b hb).1
      have QF:=oQ Jk
      have hnot:∀b,(∃t∈s.bad,oW (hp w) b t)→b∉qC:=by
       rintro b ⟨t,h1,h2⟩ hb0
       obtain ⟨e',_,h3,h4⟩:=QF b hb0
       have h2:=H1.GQ (K1.mine b (by rw [hfr]; exact zP b hb0)) h2
       rw [h2] at h4
       simp only [abr] at h4
       subst h4
       exact ho2 _ h3 h1
      let ok:Nat→Prop:=fun b=>(gy cx (aj s.ws σ) fB F1 w R.tags b∨b∈fd)∨(gy cx (aj s.ws σ) fB F1 w s.tags b∧∃t∈s.bad,oW (hp w) b t)∨b∈uO
      have hRr:∀b,gy cx (aj s.ws σ) fB F1 w R.tags b→b∉fB.fo r:=by
       intro b hb hbr
       obtain ⟨n,hn⟩:=hb.2.2.2.1 r R hr1 (by rw [hfr]; exact hbr)
       exact NJ.2.2 n hn
      obtain ⟨v',w',gu,hrun,hos,hsz,zN,hfo,CK,A8⟩:=Bq (w:=w) (ok:=ok) (u:=ut) (ty:=o.type) (x:=a.eval y) (bE:=bE) ht (aY (fun _ _=>rfl) (fun b h=>.inl h) (fun _ _=>rfl) Jk) ho1
       (abz.2 ⟨n0.1,n1.1,fun b1 h1 b2 h2 e=>yu b1 (zP b1 h1) (e▸(f3 b2 (abx _ h2)).1)⟩)
       (fun b hb=>by
        rcases hb with (h | h) | h | h
        ·exact ⟨fun h0=>hRr b h (zP b h0),h.1⟩
        ·exact ⟨fun h0=>n0.2.2 b h0 b h rfl,hlt b (hfd0 b h)⟩
        ·exact ⟨hnot b h.2,h.1.1⟩
        ·exact ⟨fun h0=>yu b (zP b h0) (f3 b (abu _ h)).1,Qu b (f3 b (abu _ h)).1⟩)
       (fun b hb=>by
        rcases abB.1 hb with h | h
        ·exact hlt b (zP b h)
        ·exact Qu b (f3 b (abx _ h)).1)
       hS f1 (fun i hi=>aY (fun _ _=>rfl) (fun b h=>.inr h) (fun _ _=>rfl) (f4 i hi)) hb
      have wz:VC (.sl e kk) v' [v']:=⟨rfl,by
       have h5:=A8
       unfold Ow at h5
       rw [if_pos ho1] at h5
       obtain ⟨b,n,c,e1,_⟩:=h5
       simp only [List.cons.injEq,and_true] at e1
       rw [e1]; simp⟩
      have Uy:∀b,ok b→b∉gu∧b<w.heap.size:=by
       intro b hb
       have hlt':b<w.heap.size:=by
        rcases hb with (h | h) | h | h
        ·exact h.1
        ·exact hlt b (hfd0 b h)
        ·exact h.1.1
        ·exact Qu b (f3 b (abu _ h)).1
       refine ⟨fun hbf=>?_,hlt'⟩
       rcases hfo b hbf with h2 | h2 | h2
       ·rcases hb with (h | h) | h | h
        ·exact hRr b h (zP b h2)
        ·exact n0.2.2 b h2 b h rfl
        ·exact hnot b h.2 h2
        ·exact yu b (zP b h2) (f3 b (abu _ h)).1
       ·have hF:=(f3 b (abx _ h2)).1
        rcases hb with (h | h) | h | h
        ·exact h.2.1 hF
        ·exact yu b (hfd0 b h) hF
        ·exact h.1.2.1 hF
        ·exact n1.2.2 b h2 b h rfl
       ·omega
      have hnext:∀(j:Nat) (n:Nat),(j4 j,n)∈s.tags→(j4 j,n)∈gH (qh r s.tags) R.tags:=by
       intro j n hj
       refine bX.2 (.inl (kM.2 ⟨hj,fun e=>?_⟩))
       have:=NJ.2.1
       rw [←e] at this
       simp only at this
       rw [iV] at this
       simp at this
      obtain ⟨k1,k2⟩:=Vb (R':={ R with k:=.sl e kk,x:=xs++s.xs,own:=aZ R.own s.bad,tags:=gH (qh r s.tags) R.tags,w:=e :: R.w,h:=mI :: e :: R.h,g:=R.g+1,keep:=R.keep || s.keep })
       (v':=v') (hdr':=[v']) (gu:=gu) (w':=w') H1 hr1 hv1 hkind hkind rfl rfl rfl ⟨rfl,rfl⟩ ⟨fun t ht=>(bX.1 ht).elim (fun h=>hwt t (kM.1 h).1) (NJ.1 t),fun n hn=>(bX.1 hn).elim (fun h=>(kM.1 h).2 rfl) (NJ.2.2 n)⟩
       hos hsz (fun b h1 h2=>.inr ⟨zP b (zN b h1 h2).1,(zN b h1 h2).2⟩) (fun b hb=>by
        rcases hfo b hb with h | h | h
        ·exact .inl (zP b h)
        ·exact .inr (.inl (f3 b (abx _ h)).1)
        ·exact .inr (.inr h)) CK rfl
       (aY (k:=.sl e kk) (fun _ _=>rfl) (fun b hb=>by
        obtain ⟨z1,z2⟩:=Uy b hb
        refine ⟨Nat.lt_of_lt_of_le z2 hsz,by simp, ?_,fun q Q hq hbq=>?_,fun h0=>?_⟩
        ·rcases hb with (h | h) | h | h
         ·exact h.2.2.1
         ·exact ko H1 hr1 (hfd0 b h)
         ·exact h.1.2.2.1
         ·exact mO H1 (f3 b (abu _ h)).1
        ·rcases jr hq with ⟨rfl,rfl,_⟩ | ⟨eq,hq'⟩
         ·rw [eU] at hbq
          have hbq:b∈gu:=by simpa [gJ,hkind] using hbq
          exact absurd hbq z1
         ·rw [(fQ (α:=fB) (σ:=aj s.ws σ) (R:={ R with k:=.sl e kk,x:=xs++s.xs,own:=aZ R.own s.bad,tags:=gH (qh r s.tags) R.tags,w:=e :: R.w,h:=mI :: e :: R.h,g:=R.g+1,keep:=R.keep || s.keep }) eq).blk] at hbq
          rcases hb with (h | h) | h | h
          ·exact (h.2.2.2.1 q Q hq' hbq).imp fun n hn=>bX.2 (.inr hn)
          ·exact absurd hbq (H1.yI r R q Q hr1 hq' (Ne.symm eq) b (by rw [hfr]; exact hfd0 b h))
          ·exact (h.1.2.2.2.1 q Q hq' hbq).imp fun n hn=>bX.2 (.inl (kM.2 ⟨hn,eq⟩))
          ·exact absurd (f3 b (abu _ h)).1 (H1.gQ q Q hq' b hbq)
        ·have jm:Ow.mine cx w b→(∃j n,(j4 j,n)∈gH (qh r s.tags) R.tags∧cx.ext j b)∨∃j pi,cx.par j=some pi∧b∈pi.bl:=fun hm=>by
          rcases hm.2 with h | ⟨j,pi,h1,h2⟩
          ·omega
          ·exact .inr ⟨j,pi,h1,h2⟩
         rcases hb with (h | h) | h | h
         ·exact (h.2.2.2.2 h0).imp (fun ⟨j,n,h1,h2⟩=>⟨j,n,bX.2 (.inr h1),h2⟩) id
         ·exact jm (K1.mine b (by rw [hfr]; exact hfd0 b h))
         ·exact (h.1.2.2.2.2 h0).imp (fun ⟨j,n,h1,h2⟩=>⟨j,n,hnext j n h1,h2⟩) id
         ·exact jm (H1.fl b (f3 b (abu _ h)).1)) (fun _ _=>rfl) A8) wz
      exact gq (x:=.one (.ref r (R.g+1))) k1 hd hdn (jH ho hcb ha ht0 hu0 hrun) k2 ⟨_,aF .., .inr (abI _)⟩
    ·exact h.elim
   | val _ _ _=>exact h.elim
   | undef=>exact h.elim
   | ptr _ _ _=>exact h.elim
   | gV _ _ _ _=>exact h.elim
   | zo _ _ _ _=>exact h.elim
   | sI _=>exact h.elim
   | part _ _ _ _ _=>exact h.elim
   | qE _ _ _ _=>exact h.elim
   | app _ _ _ _=>exact h.elim
   | mE=>exact h.elim
   | fn _ _=>exact h.elim
  | _=>exact h.elim
end
end
section
open Go
variable [Fr]
section
variable {P:Program} {T:gL} {cx:Cx} {σ:St} {α:dA} {F:List Nat} {a:Act} {w:World} {o:Oper} {d:Nat} {ws:List Wr}
def kI (kk:K):List (Nat×gp)→oN kk→Option (oN kk)
 | [],b=>some b
 | (n,tk) :: l,b=>match bL tk.k kk tk.x with
  | some y=>bif Nat.beq n (fF b.xs) then kI kk l { xs:=b.xs++[y],bad:=tk.bad++b.bad,tags:=gH (tk.fH) b.tags,ws:=b.ws++tk.ws,keep:=tk.keep || b.keep,all:=tk.tags++b.all } else none
  | none=>none
theorem F7 {A:Type} {z:A} (H:Rel cx σ α F a w) {kk:K} {k:oN kk→Prog A}:∀{l:List (Nat×AV)} {vs:List Value} {b:oN kk},dJ cx σ α F w (l.map (·.2)) vs→(∀v∈l,l9 σ v.2)→(zB kk l b k).ends σ z→
  ∃(tks:List gp) (b':oN kk),tks.length=l.length∧vs.length=l.length∧(∀it∈vs.zip tks,qd cx σ α F w it.1 it.2)∧kI kk ((l.map (·.1)).zip tks) b=some b'∧(k b').ends σ z:=by
 intro l
 induction l with
 | nil=>
  intro vs b h1 _ h
  cases vs with
  | nil=>exact ⟨[],b,rfl,rfl,by simp,rfl,h⟩
  | cons v vs=>exact h1.elim
 | cons p l ih=>
  obtain ⟨n,x⟩:=p
  intro vs b h1 h2 h
  cases vs with
  | nil=>exact h1.elim
  | cons v vs=>
   simp only [zB] at h
   obtain ⟨tk,htk,h5⟩:=lN H h1.1 (h2 (n,x) (by simp)) h
   cases hc:bL tk.k kk tk.x with
   | none=>rw [hc] at h5; exact h5.elim
   | some y=>
    rw [hc] at h5
    simp only at h5
    rcases ah h5 with ⟨hn,h6⟩ | ⟨_,h6⟩
    ·obtain ⟨tks,b',g1,g2,g3,g4,g5⟩:=ih h1.2 (fun v hv=>h2 v (by simp [hv])) h6
     refine ⟨tk :: tks,b',by simp [g1],by simp [g2], ?_, ?_,g5⟩
     ·intro it hit
      rw [List.zip_cons_cons] at hit
      rcases abE.1 hit with h | h
      ·subst h; exact htk
      ·exact g3 it h
     ·rw [List.map_cons,List.zip_cons_cons]
      unfold kI
      simp only [hc,hn,cond_true]
      exact g4
    ·exact h6.elim
theorem yt {kk:K}:∀(l:List (Nat×gp)) {b b':oN kk},kI kk l b=some b'→
  b'.ws=b.ws++l.flatMap (fun p=>p.2.ws)∧(∀p∈l,∀t∈p.2.tags,t∈b'.all)∧(∀p∈l,∀t∈p.2.bad,t∈b'.bad)∧(∀t∈b.bad,t∈b'.bad)∧
  (∀p∈l,∀t∈p.2.fH,t∈b'.tags)∧(∀t∈b.tags,t∈b'.tags)∧(∀t∈b'.tags,t∈b.tags∨∃p∈l,t∈p.2.fH)∧(∀t∈b.all,t∈b'.all)∧b'.xs.length=b.xs.length+l.length:=by
 intro l
 induction l with
 | nil=>
  intro b b' h
  simp only [kI,abr] at h
  subst h
  simp
 | cons p l ih=>
  obtain ⟨n,tk⟩:=p
  intro b b' h
  unfold kI at h
  cases hc:bL tk.k kk tk.x with
  | none=>rw [hc] at h; simp at h
  | some y=>
   rw [hc] at h
   simp only at h
   cases hn:Nat.beq n (fF b.xs) with
   | false=>rw [hn] at h; simp at h
   | true=>
    rw [hn] at h
    simp only [cond_true] at h
    obtain ⟨g1,g2,g3,g4,g5,g6,g7,g8,g9⟩:=ih h
    refine ⟨by rw [g1]; simp, ?_, ?_,fun t ht=>g4 t (by simp [ht]), ?_,fun t ht=>g6 t (bX.2 (.inr ht)), ?_,fun t ht=>g8 t (by simp [ht]),by rw [g9]; simp; omega⟩
    ·intro p hp t ht
     rcases abE.1 hp with h | h
     ·subst h; exact g8 t (by simp [ht])
     ·exact g2 p h t ht
    ·intro p hp t ht
     rcases abE.1 hp with h | h
     ·subst h; exact g4 t (by simp [ht])
     ·exact g3 p h t ht
    ·intro p hp t ht
     rcases abE.1 hp with h | h
     ·subst h; exact g6 t (bX.2 (.inl ht))
     ·exact g5 p h t ht
    ·intro t ht
     rcases g7 t ht with h | ⟨p,h1,h2⟩
     ·rcases bX.1 h with h | h
      ·exact .inr ⟨(n,tk),by simp,h⟩
      ·exact .inl h
     ·exact .inr ⟨p,by simp [h1],h2⟩
theorem F6 {h:Heap} {own:List TypeId} {ok:Nat→Prop} {kk:K} {N:Nat} :
  ∀(l:List (Nat×gp)) {vs:List Value} {rQ:List (List Nat)} {b b':oN kk} {cells:Array Value} {bE:List (List Nat)},b.xs.length+l.length≤N→cells.size=N * kk.size→bE.length=b.xs.length→
   (∀i (hi:i<b.xs.length),Ow h own ok kk b.xs[i] (jQ cells.toList kk.size i) (bE.getD i []))→qc h own ok l vs rQ→kI kk l b=some b'→
   ∃cells',Instr.fill (fun i=>some (i * kk.size,kk.size)) cells ((l.map (·.1)).zip vs)=some cells'∧cells'.size=N * kk.size∧(bE++rQ).length=b'.xs.length∧
    ∀i (hi:i<b'.xs.length),Ow h own ok kk b'.xs[i] (jQ cells'.toList kk.size i) ((bE++rQ).getD i []):=by
 intro l
 induction l with
 | nil=>
  intro vs rQ b b' cells bE hN hs hf hO hP hb
  cases vs with
  | nil=>
   cases rQ with
   | nil=>
    simp only [kI,abr] at hb
    subst hb
    exact ⟨cells,rfl,hs,by simpa using hf,by simpa using hO⟩
   | cons f fs=>exact hP.elim
  | cons v vs=>cases rQ <;> exact hP.elim
 | cons p l ih=>
  obtain ⟨n,tk⟩:=p
  intro vs rQ b b' cells bE hN hs hf hO hP hb
  cases vs with
  | nil=>cases rQ <;> exact hP.elim
  | cons v vs=>
   cases rQ with
   | nil=>exact hP.elim
   | cons ft rQ=>
    obtain ⟨⟨cst,hv,TU⟩,hP'⟩:=hP
    unfold kI at hb
    cases hc:bL tk.k kk tk.x with
    | none=>rw [hc] at hb; simp at hb
    | some y=>
     rw [hc] at hb
     simp only at hb
     cases hn:Nat.beq n (fF b.xs) with
     | false=>rw [hn] at hb; simp at hb
     | true=>
      rw [hn] at hb
      simp only [cond_true] at hb
      have en:n=b.xs.length:=by rw [abw hn,kL]
      subst en
      obtain ⟨ek,ey⟩:=bF hc
      have Zc:Ow h own ok kk y cst ft:=rC ek ey TU
      have hcl:cst.length=kk.size:=cz Zc
      have wC:v.cells=cst.toArray:=by
       have:=hv.cells
       apply Array.ext'
       simpa using this
      simp only [abP] at hN
      have hle:(b.xs.length+1) * kk.size≤N * kk.size:=abX _ (by omega)
      rw [Nat.add_mul,Nat.one_mul] at hle
      have hoff:b.xs.length * kk.size+cst.length≤cells.size:=by rw [hs,hcl]; exact hle
      rw [List.map_cons,List.zip_cons_cons,xk (place:=fun i=>some (i * kk.size,kk.size)) (off:=b.xs.length * kk.size) (vs:=cst) (by simp [hcl]) wC hoff]
      have hsz:(cells.toList.take (b.xs.length * kk.size)++(cst++cells.toList.drop (b.xs.length * kk.size+cst.length))).toArray.size=N * kk.size:=by
       simp
       omega
      obtain ⟨cells',g1,g2,g3,g4⟩:=ih (bE:=bE++[ft]) (b:={ xs:=b.xs++[y],bad:=tk.bad++b.bad,tags:=gH (tk.fH) b.tags,ws:=b.ws++tk.ws,keep:=tk.keep || b.keep,all:=tk.tags++b.all }) (by simp; omega) hsz (by simp [hf]) (by
       intro i hi
       simp only [abA,abP,List.length_nil,Nat.zero_add] at hi
       rw [vY]
       by_cases h0:i<b.xs.length
       ·rw [if_pos (by rw [hf]; exact h0)]
        have e1:(b.xs++[y])[i]'(by simp; omega)=b.xs[i]:=List.getElem_append_left h0
        show Ow h own ok kk ((b.xs++[y])[i]'(by simp; omega)) _ _
        rw [e1]
        have e2:jQ (cells.toList.take (b.xs.length * kk.size)++(cst++cells.toList.drop (b.xs.length * kk.size+cst.length))) kk.size i=jQ cells.toList kk.size i:=by
         have hl2:(i+1) * kk.size≤b.xs.length * kk.size:=abX _ (by omega)
         rw [Nat.add_mul,Nat.one_mul] at hl2
         apply List.ext_getElem?
         intro j
         by_cases hj:j<kk.size
         ·rw [jv hj,jv hj,List.getElem?_append_left (by simp; omega),List.getElem?_take_of_lt (by omega)]
         ·unfold jQ
          rw [List.getElem?_eq_none (by simp; omega),List.getElem?_eq_none (by simp; omega)]
        simp only
        rw [e2]
        exact hO i h0
       ·have:i=b.xs.length:=by omega
        subst this
        rw [if_neg (by omega),hf,Nat.sub_self]
        have e1:(b.xs++[y])[b.xs.length]'(by simp)=y:=by simp
        show Ow h own ok kk ((b.xs++[y])[b.xs.length]'(by simp)) _ _
        rw [e1]
        have e2:jQ (cells.toList.take (b.xs.length * kk.size)++(cst++cells.toList.drop (b.xs.length * kk.size+cst.length))) kk.size b.xs.length=cst:=by
         have hl:(cells.toList.take (b.xs.length * kk.size)).length=b.xs.length * kk.size:=by simp; omega
         unfold jQ
         conv=>lhs; arg 2; arg 1; rw [←hl]
         rw [List.drop_left, ←hcl,List.take_left]
        simp only
        rw [e2]
        exact Zc) hP' hb
      refine ⟨cells',g1,g2, ?_, ?_⟩
      ·rw [←g3]; simp
      ·intro i hi
       have:=g4 i hi
       simp only [abN,List.cons_append,List.nil_append] at this
       exact this
end
end
section
open Go
variable [Fr]
section
variable {P:Program} {T:gL} {cx:Cx} {σ:St} {α:dA} {F:List Nat} {a:Act} {w:World} {o:Oper} {d:Nat} {ws:List Wr}
def rq (z:Array Value) (n:Nat):Array Value:=(Array.range n).map (z[· % z.size]!)
theorem run_buildSlice {t e:TypeId} {kk:K} (ht:eP P T t (.sl e kk)) {len:Nat} {parts:Array (Nat×Value)} {cells:Array Value} (hb:len * kk.size≤16777216)
    (hf:Instr.fill (fun i=>some (i * kk.size,kk.size)) (rq (bD kk).toArray (len * kk.size)) parts.toList=some cells) :
    (Instr.buildSlice t len parts).run P w=.ok (.slice (some ⟨w.heap.size,0,none⟩) len len) (w.alloc (.cells cells e)):=by
  obtain ⟨hu,he,hk,_⟩:=ht.sl
  have hzc:=pQ he.shape
  unfold Instr.buildSlice
  have h1:¬(len * kk.size>2 ^ 24):=by omega
  by_cases h0:len * kk.size=0
  · have hf':Instr.fill (fun i=>some (i * kk.size,kk.size)) #[] parts.toList=some cells:=by
      have e:rq (bD kk).toArray (len * kk.size)=#[]:=by
        apply Array.eq_empty_of_size_eq_zero
        simp [rq,h0]
      rw [e] at hf
      exact hf
    have hr0:∀f:Nat→Value,Array.map f (Array.range 0)=#[]:=fun f=>by apply Array.eq_empty_of_size_eq_zero; simp
    simp [run_underlying hu,he.info.sizeOf w,Result.andThen,h0,hr0,hf',newRow]
  · have hf':Instr.fill (fun i=>some (i * kk.size,kk.size)) ((Array.range (len * kk.size)).map fun x=>(bD kk).toArray[x % (bD kk).toArray.size]!) parts.toList=some cells:=hf
    simp only [abR,run_underlying hu,abK,he.info.sizeOf w]
    rw [if_neg h1,if_neg h0]
    simp only [abR,abW,abK,he.info.zero w,hzc,hf']
    simp [newRow,Result.andThen]
theorem Fh {kk:K} {len i:Nat} (hk:0<kk.size) (hz:(bD kk).length=kk.size) (hi:i<len):jQ (rq (bD kk).toArray (len * kk.size)).toList kk.size i=bD kk:=by
  have hle:(i+1) * kk.size≤len * kk.size:=abX _ (by omega)
  rw [Nat.add_mul,Nat.one_mul] at hle
  apply List.ext_getElem?
  intro j
  by_cases hj:j<kk.size
  · rw [jv hj,Array.getElem?_toList]
    unfold rq
    rw [Array.getElem?_map]
    have hlt:i * kk.size+j<len * kk.size:=by omega
    rw [Array.getElem?_range,if_pos hlt]
    simp only [Option.map_some,List.size_toArray,hz]
    have hm:(i * kk.size+j) % kk.size=j:=by
      rw [Nat.mul_comm,Nat.mul_add_mod]
      exact Nat.mod_eq_of_lt hj
    rw [hm,getElem!_pos _ _ (by simp; omega)]
    simp [show j<(bD kk).length by omega]
  · rw [List.getElem?_eq_none (by rw [mF (m:=len) (by simp [rq]) hi]; omega),List.getElem?_eq_none (by omega)]
theorem zq {L:K→List TypeId} (hT:dO P T) (H:Rel cx σ α F a w) (hd:o.dst=some d) (hdn:d<cx.nt) {t:TypeId} {len:Nat} {ps:Array (Nat×Operand)}
    (h:(match T.ty t with
      | some (.sl e kk)=>uN ps.toList fun l=>zB kk l ⟨[],[],[],[],false,[]⟩ fun b=>bif !(wN b.ws b.all && Nat.ble (len * kk.size) 16777216) then .fail else bif Nat.beq (fF b.xs) len && !aA e b.bad then
          gG (aS d 0) (.ret (b.ws++[Wr.r (aS d 0) (some (aD (.sl e kk) b.xs (e :: aZ (L kk) b.bad) b.tags .anon b.keep)),Wr.s d (.one (.ref (aS d 0) 0))]))
        else bif Nat.beq (fF b.xs) 0 then
          gG (aS d 0) (.ret [Wr.r (aS d 0) (some (aD (.sl e kk) (List.replicate len kk.zero) (e :: kk.tys) [] .anon)),Wr.s d (.one (.ref (aS d 0) 0))])
        else .fail
      | _=>(.fail:Prog (List Wr))).ends σ ws) (ho:o.op=.buildSlice t len ps):lS P cx o a w (aj ws σ):=by
  cases hty:T.ty t with
  | none=>rw [hty] at h; exact h.elim
  | some k0=>
    rw [hty] at h
    cases k0 with
    | sl e kk=>
      have ht:=hT.ty t _ hty
      obtain ⟨hu,he,hk,_⟩:=ht.sl
      simp only at h
      obtain ⟨vs,e1,h1,h2,h3⟩:=xh H h
      obtain ⟨tks,b',l1,l2,HZ,xS,h4⟩:=F7 H h1 h2 h3
      have hlen:vs.length=tks.length:=l1.symm
      have zR:(vs.map (·.1)).length=tks.length:=by rw [List.length_map]; exact hlen
      have zU:((evs a ps.toList).map (·.2)).length=tks.length:=by rw [l2]; exact hlen
      generalize hns:vs.map (·.1)=ns at *
      generalize hvv:(evs a ps.toList).map (·.2)=vals at *
      obtain ⟨z1,z2,z3,z4⟩:=xG ns vals tks zR zU
      obtain ⟨f1,f2,f4,_,f6,_,f8,_,f9⟩:=yt _ xS
      simp only [List.nil_append] at f1
      have f9':b'.xs.length=tks.length:=by rw [f9]; simp; omega
      have UU:∀h ok own,Ow h own ok kk kk.zero (bD kk) []:=fun h ok own=>q9 he.dV
      have hzl:(bD kk).length=kk.size:=cz (UU (hp w) (fun _=>True) [])
      have hzs:(rq (bD kk).toArray (len * kk.size)).size=len * kk.size:=by simp [rq]
      have hparts:((ps.map fun (p:Nat×Operand)=>(p.1,a.eval p.2)).toList)=ns.zip vals:=by
        rw [Array.toList_map, ←hvv,e1]
        have:∀l:List (Nat×Operand),l.map (fun p=>(p.1,a.eval p.2))=(l.map (·.1)).zip ((evs a l).map (·.2)):=by
          intro l
          induction l with
          | nil=>rfl
          | cons p l ih=>simp [evs] at ih ⊢; exact ih
        exact this _
      have OY:∀{cells:Array Value},len * kk.size≤16777216→Instr.fill (fun i=>some (i * kk.size,kk.size)) (rq (bD kk).toArray (len * kk.size)) (ns.zip vals)=some cells→
          (execOp a.eval o).run P w=.ok (.value (.slice (some ⟨w.heap.size,0,none⟩) len len)) (w.alloc (.cells cells e)):=by
        intro cells hb hf
        have:=run_buildSlice (w:=w) ht (parts:=ps.map fun (p:Nat×Operand)=>(p.1,a.eval p.2)) hb (by rw [hparts]; exact hf)
        simp only [execOp,ho,abR,this,abK,abW]
      rcases ah h4 with ⟨_,h5⟩ | ⟨hws,h5⟩
      · exact h5.elim
      · have uZ:(wN b'.ws b'.all && Nat.ble (len * kk.size) 16777216)=true:=by simpa using hws
        rw [aby] at uZ
        have Uc:len * kk.size≤16777216:=Nat.le_of_ble_eq_true uZ.2
        have Ju:=uZ.1
        unfold wN at Ju
        simp only [aby] at Ju
        have hw1:=oU.1 Ju.1
        have hw2:=rE.1 Ju.2
        rw [f1, ←z4] at hw1 hw2
        rcases ah h5 with ⟨hc,h6⟩ | ⟨_,h6⟩
        · rw [aby] at hc
          have hxl:b'.xs.length=len:=by rw [←kL]; exact abw hc.1
          have hbad:e∉b'.bad:=by have:=hc.2; simp only [Bool.not_eq_true',aO] at this; exact this
          obtain ⟨g1,g2⟩:=eY h6
          rw [az g2]
          obtain ⟨α',F',hs,H',hA,hnd,hnF,XJ,hS,_⟩:=takes (vals.zip tks) H HZ hw1 (fun tg nL=>hw2 tg (by
            obtain ⟨it,hit,h6⟩:=ab3.1 nL
            have:it∈(ns.zip (vals.zip tks)).map (·.2):=by rw [z1]; exact hit
            obtain ⟨q,hq,rfl⟩:=ab2.1 this
            exact f2 (q.1,q.2.2) (by rw [←z2]; exact ab2.2 ⟨q,hq,rfl⟩) tg h6))
          have OU:=hA
          rw [←z1] at hA
          have ho2:∀t,aA t (e :: aZ (L kk) b'.bad)=true→t∉b'.bad:=fun t ht=>by
            rcases abE.1 (bu.1 ht) with h | h
            · rw [h]; exact hbad
            · exact (cZ.1 (bu.2 h)).2
          obtain ⟨rQ,sZ,p1,p2⟩:=qD (own':=e :: aZ (L kk) b'.bad) (T:=b'.tags) (ns.zip (vals.zip tks)) hA
            (fun it hit tg nL=>by
              cases hm:aA tg (e :: aZ (L kk) b'.bad) with
              | false=>rfl
              | true=>exact absurd (f4 (it.1,it.2.2) (by rw [←z2]; exact ab2.2 ⟨it,hit,rfl⟩) tg nL) (ho2 tg hm))
            (fun it hit tg nL=>f6 (it.1,it.2.2) (by rw [←z2]; exact ab2.2 ⟨it,hit,rfl⟩) tg nL)
          rw [z2,z3,z1] at p2
          have hzn:(ns.zip tks).map (·.1)=ns:=by rw [List.map_fst_zip (by omega)]
          obtain ⟨cells',c1,c2,c3,c4⟩:=F6 (N:=len) (ns.zip tks) (b:=⟨[],[],[],[],false,[]⟩) (cells:=rq (bD kk).toArray (len * kk.size)) (bE:=[]) (by simp; omega) hzs rfl (fun i hi=>by simp at hi) p2 xS
          rw [hzn] at c1
          simp only [List.nil_append] at c3 c4
          have hrun:=OY Uc c1
          have qU:=p1.nodup hnd
          have n2:=abz.1 qU
          have hin:∀b∈hs.flatMap (·.2),b∈F':=qi OU
          have hwt:dW (aj (nO (vals.zip tks)) σ) b'.tags:=by
            intro tg nL
            rcases f8 tg nL with h | ⟨q,hq,hq2⟩
            · simp at h
            · rw [←z2] at hq
              obtain ⟨it,hit,rfl⟩:=ab2.1 hq
              have hit2:it.2∈vals.zip tks:=by rw [←z1]; exact ab2.2 ⟨it,hit,rfl⟩
              exact uF (rR OU it.2 hit2) tg hq2
          have hnr:=vD g1 HZ
          have hn1:(aj (nO (vals.zip tks)) σ).roots (aS d 0)=none:=by rw [(hS _ hnr).root]; exact g1
          have Jv:b'.ws=nO (vals.zip tks):=by rw [f1,z4]
          obtain ⟨vI,F2,k1,k2⟩:=Iz (r:=aS d 0) (e:=e) (k:=kk) (xs:=b'.xs) (own:=e :: aZ (L kk) b'.bad) (tags:=b'.tags) (arr:=cells') (lo:=0) (hi:=0) (n:=len) (c:=len) (bE:=rQ) (F1:=F'.filter fun b=>!aA b (rQ.flatten++sZ)) H' hn1 (dZ d 0)
            hwt (bu.2 (by simp)) wQ.zero hxl.symm (abI _) (by rw [c2]; exact abI _) c3 (fun b hb=>hin b (p1.mem_iff.2 (by simp [hb]))) n2.1
            (fun b hb=>by
              rw [abJ] at hb
              have:=hb.2
              simp only [Bool.not_eq_true',aO,abB,not_or] at this
              exact ⟨hb.1,this.1⟩) (H'.rZ.filter _)
            (fun i hi=>by
              have hsl:(jQ cells'.toList kk.size i).length=kk.size:=mF (m:=len) (by rw [Array.length_toList,c2]) (by omega)
              refine ⟨_,hsl,fun j hj=>?_,aY (fun _ _=>rfl) (fun b hb=>?_) (fun _ _=>rfl) (c4 i hi)⟩
              · rw [hsl] at hj
                rw [jv hj,Array.getElem?_toList]
              · rcases hb with hb | hb
                · exact .inl hb
                · refine .inr ⟨hin b (p1.mem_iff.2 (by simp [hb])),fun h=>?_,fun h=>n2.2.2 b h b hb rfl⟩
                  rw [abJ] at h
                  have:=h.2
                  simp only [Bool.not_eq_true',aO,abB,not_or] at this
                  exact this.2 hb) b'.keep w.drawn
          rw [Jv,bK]
          exact gq (x:=.one (.ref (aS d 0) 0)) k1 hd hdn hrun k2 ⟨_,aF .., .inr (ab0 _)⟩
        · rcases ah h6 with ⟨hc,h7⟩ | ⟨_,h7⟩
          · obtain ⟨g1,g2⟩:=eY h7
            rw [az g2]
            have hxl:b'.xs.length=0:=by rw [←kL]; exact abw hc
            have ht0:tks=[]:=List.eq_nil_of_length_eq_zero (by omega)
            have hv0:vals=[]:=List.eq_nil_of_length_eq_zero (by rw [ht0] at zU; simpa using zU)
            have hrun:=OY (cells:=rq (bD kk).toArray (len * kk.size)) Uc (by rw [hv0]; simp [Instr.fill])
            obtain ⟨vI,F2,k1,k2⟩:=C9 (r:=aS d 0) (e:=e) (k:=kk) (xs:=List.replicate len kk.zero) (own:=e :: kk.tys) (arr:=rq (bD kk).toArray (len * kk.size)) (lo:=0) (hi:=0) (n:=len) (c:=len) H g1 (dZ d 0)
              (bu.2 (by simp)) wQ.zero (by simp) (abI _) (by rw [hzs]; exact abI _)
              (fun i hi=>by
                have hi':i<len:=by simpa using hi
                refine ⟨bD kk,hzl,fun j hj=>?_,fun h ok=>?_⟩
                · have hs:=congrArg (fun l=>l[j]?) (Fh hk hzl hi')
                  rw [jv (by omega),Array.getElem?_toList] at hs
                  exact hs
                · have:(List.replicate len kk.zero)[i]'hi=kk.zero:=by simp
                  rw [this]
                  exact UU h ok _) false w.drawn
            exact gq (x:=.one (.ref (aS d 0) 0)) k1 hd hdn hrun k2 ⟨_,aF .., .inr (ab0 _)⟩
          · exact h7.elim
    | _=>exact h.elim
end
section
variable {P:Program} {T:gL} {cx:Cx} {σ:St} {α:dA} {F:List Nat} {a:Act} {w:World} {o:Oper} {d:Nat} {ws:List Wr} {r:Nat} {R:Root}
abbrev iq (R:Root) (e:TypeId) (kk:K) (ys:List (El kk)):Root:={ R with k:=.sl e kk,x:=ys,w:=e :: R.w }
theorem Da (H:Rel cx σ α F a w) (hr:aM σ r R) (hv:bg σ R) (hk:R.kind=.anon) {e:TypeId} {kk:K} {xs ys:List (El kk)} (hq:(⟨R.k,R.x⟩:Dat)=⟨.sl e kk,xs⟩) (hf:kk.flat=true) (hl:ys.length=xs.length) {w':World}
    (hos:w'.os=w.os∧w'.tape=w.tape∧w'.output=w.output) (hsize:w.heap.size≤w'.heap.size) (Fp:∀b,hp w' b≠hp w b→b∈α.fo r∧lH (hp w) b=some e) (how:∀ok,Ow (hp w') R.own ok (.sl e kk) ys (α.hdr r) (α.fo r)) :
    Rel cx (ak σ r (iq R e kk ys)) (aB α r (α.loc r) (α.hdr r) (α.fo r)) [] a w'∧
      ∀g v,g≤R.g→bz cx σ α F w (.ref r g) v→bz cx (ak σ r (iq R e kk ys)) (aB α r (α.loc r) (α.hdr r) (α.fo r)) [] w' (.ref r g) v:=by
  have hblk:blk α R r=α.fo r:=by simp [blk,dY,hk]
  have hk':(iq R e kk ys).kind=.anon:=hk
  have hRk:R.k=.sl e kk:=congrArg (fun q:Dat=>q.1) hq
  have hd':(iq R e kk ys).aT=false:=by simp [Root.aT,hk]
  have K0:=H.roots r R hr
  have hnt:=H.cB r R hr.1
  have xw:∀g v,g≤R.g→bz cx σ α F w (.ref r g) v→bz cx (ak σ r (iq R e kk ys)) (aB α r (α.loc r) (α.hdr r) (α.fo r)) [] w' (.ref r g) v:=by
    intro g v _ hold Q hQ hg
    obtain ⟨rfl,_⟩:=dU hQ
    obtain ⟨h1,h2⟩:=hold R hr hg
    refine ⟨h1, ?_⟩
    simp only [aB,upd_same]
    rw [hRk] at h2
    exact h2
  have T1:sQ cx σ α F w r R (iq R e kk ys) (α.fo r) [] w' [e] []:=by
    refine ⟨.inr ⟨rfl,rfl,abI _,rfl,fun h=>by rw [hk] at h; simp at h, .inl (by simp)⟩,⟨fun t ht=>hnt.1 t ht,fun n hn=>hnt.2.2 n hn⟩,hos,hsize,fun b hb hne=>?_,fun _ b hb=>?_,fun b hb=>by simp at hb,List.nodup_nil,fun _ b _ h=>by simp at h,fun j pi b o n hj hb Ru hne=>?_,fun _=>⟨rfl,rfl⟩⟩
    · obtain ⟨h1,h2⟩:=Fp b hne
      exact .inr ⟨by rw [hblk]; exact h1, .inr (.inl ⟨e,by simp,h2⟩)⟩
    · rw [fO hk'] at hb
      rw [hblk]
      exact .inl hb
    · obtain ⟨Q,hQ,hkq,_,_⟩:=H.kP j pi b o n hj hb
      have hQR:Q=R:=by have:=hQ.1; rw [←Ru,hr.1] at this; simpa using this.symm
      rw [hQR,hk] at hkq
      simp at hkq
  refine ⟨T1.rel H hr (fun _=>⟨fun _=>how _,by rw [K0.len,hRk],fun b o hb=>by rw [q8 hk'] at hb; simp at hb,by rw [fO hk', ←hblk]; exact K0.nd⟩) ?_ (fun _=>xw),xw⟩
  intro _ p n v hn hold
  refine ⟨hold.1,fun Q hQ NM hcl hty hs=>?_⟩
  rw [aF] at hQ
  simp only [abr] at hQ
  subst hQ
  cases p with
  | nil=>
    obtain ⟨_,cs,b,o,h1,_⟩:=hold.2 R hr.1 hv (by simp [clean,fI,aA]) (fun t ht=>by simp [aa] at ht) rfl
    simp only [bn,abr,abD] at h1
    have:dY α R r=none:=by simp [dY,hk]
    rw [this] at h1
    simp at h1
  | cons s q=>
    have hcl':clean R.h n (fI (s :: q) R.k)=true:=by rw [hRk]; exact hcl
    obtain ⟨g1,cs,b,o,g2,g3⟩:=hold.2 R hr.1 hv hcl' (fun t ht=>hty t (by rw [hRk] at ht; exact ht)) (by
      have h9:(aI (s :: q) (.sl e kk) ys).isSome=true:=hs
      rw [lK (s :: q) (y:=xs)] at h9
      have:=congrArg (fun d:Dat=>(aI (s :: q) d.1 d.2).isSome) hq
      exact this.trans h9)
    have g1:=cast (congrArg (fun d:Dat=>jM (s :: q) d.1 d.2) hq) g1
    simp only at g1
    cases s with
    | fu m=>exact g1.elim
    | idx i=>
      obtain ⟨p1,p2,p3⟩:=g1
      rw [hRk] at g2
      have hwn:dY α R r=none:=by simp [dY,hk]
      have YH:dY (aB α r (α.loc r) (α.hdr r) (α.fo r)) (iq R e kk ys) r=none:=by
        have hkk:(iq R e kk ys).kind=R.kind:=rfl
        unfold dY
        rw [hkk,hk]
      have hd2:(aB α r (α.loc r) (α.hdr r) (α.fo r)).hdr r=α.hdr r:=by simp [aB,upd_same]
      rw [YH,hd2]
      simp only [bn] at g2
      split at g2
      · rename_i ad m c hh
        obtain ⟨k1,c1,k2⟩:=oz (h':=hp w') (own:=[]) q (y:=(show List (El kk) from ys).getD i.toNat kk.zero) (cs':=kW (hp w') ad.block (ad.off+i.toNat * kk.size) kk.size) p3 (fun t ht=>by
          have:=kD q t ht
          rw [qR hf] at this
          simp at this) g2
        refine ⟨⟨p1, ?_,k1⟩,c1,b,o, ?_,g3⟩
        · show i<((ys.length:Nat):Int)
          have:i<((xs.length:Nat):Int):=p2
          omega
        · show bn (hp w') (.idx i :: q) (.sl e kk) (α.hdr r) none=_
          rw [hh]
          simp only [bn]
          exact k2
      · simp at g2
theorem PU {own:List TypeId} {ok:Nat→Prop} {e:TypeId} {kk:K} {xs zs:List (El kk)} {b q n c s:Nat} {fo:List Nat} {news:List Value} (hf:kk.flat=true) (he:aA e own=true) (hs:s+zs.length≤xs.length) (hz:0<zs.length) (hkk:0<kk.size)
    (H:Ow (hp w) own ok (.sl e kk) xs [.slice (some ⟨b,q,none⟩) n c] fo) (hnl:news.length=zs.length * kk.size) (hel:∀i (hi:i<zs.length),Vw (hp w) (fun _=>True) kk zs[i] (jQ news kk.size i)) (h1:∀v∈news,v.oneCell'=true) :
    (storeCells ⟨b,q+s * kk.size,none⟩ news).run P w=.ok () (w.setCells b (q+s * kk.size) news)∧b∈fo∧lH (hp w) b=some e∧(∀b',b'≠b→hp (w.setCells b (q+s * kk.size) news) b'=hp w b')∧(w.setCells b (q+s * kk.size) news).heap.size=w.heap.size∧
      ∀ok',Ow (hp (w.setCells b (q+s * kk.size) news)) own ok' (.sl e kk) (xs.take s++zs++xs.drop (s+zs.length)) [.slice (some ⟨b,q,none⟩) n c] fo:=by
  unfold Ow at H
  rw [if_pos he] at H
  obtain ⟨a0,n',c',e1,e2,e3,H⟩:=H
  simp only [List.cons.injEq,Value.slice.injEq,and_true] at e1
  obtain ⟨rfl,rfl,rfl⟩:=e1
  have e2:n=xs.length:=e2
  rcases H with ⟨hc,_⟩ | ⟨bb,q',arr,lo,hi,ea,hb,hfr,hsz,bE,hl,hp0,H⟩
  · omega
  · simp only [abr,Addr.mk.injEq,and_true] at ea
    obtain ⟨rfl,rfl⟩:=ea
    have hm:(s+zs.length) * kk.size≤c * kk.size:=abX _ (by omega)
    rw [Nat.add_mul] at hm
    have hle:q+s * kk.size+news.length≤arr.size:=by rw [hnl]; omega
    have hst:=jI (P:=P) (o:=q+s * kk.size) news hb hfr hle h1
    obtain ⟨s1,s2,iW,s3,s4,s5,s6⟩:=nN b news w arr e (lo,hi) (q+s * kk.size) hb hle
    have h0:∀l∈bE,l=[]:=by
      intro l hl'
      obtain ⟨i,hi',rfl⟩:=List.mem_iff_getElem.1 hl'
      have hl:bE.length=xs.length:=hl
      obtain ⟨ds,_,h2⟩:=H i (by show i<xs.length; omega)
      have:=yP hf h2
      rw [←this]; simp [abF,hi']
    have hg0:∀i,bE.getD i []=[]:=fun i=>by
      by_cases hi:i<bE.length
      · have:=h0 (bE[i]) (abU hi)
        simp [abF,hi,this]
      · simp [abF,hi]
    refine ⟨hst,hp0.mem_iff.2 (by simp),by unfold lH; rw [hb],s1,s2,fun ok'=>?_⟩
    unfold Ow
    rw [if_pos he]
    have hlen:(xs.take s++zs++xs.drop (s+zs.length)).length=xs.length:=by simp; omega
    refine ⟨_,_,_,rfl,by show n=(xs.take s++zs++xs.drop (s+zs.length)).length; omega,e3, .inr ⟨b,q,iW,lo,hi,rfl,s3,by rw [s4]; exact hfr,by rw [s4]; exact hsz,bE,by show bE.length=(xs.take s++zs++xs.drop (s+zs.length)).length; rw [hlen]; exact hl,hp0,fun i hi=>?_⟩⟩
    rw [hg0]
    have hi':i<xs.length:=by have:i<(xs.take s++zs++xs.drop (s+zs.length)).length:=hi; omega
    have hcell:∀t,cellAt (hp (w.setCells b (q+s * kk.size) news)) b t=iW[t]?:=fun t=>by unfold cellAt; rw [s3]
    have hcell0:∀t,cellAt (hp w) b t=arr[t]?:=fun t=>by unfold cellAt; rw [hb]
    by_cases hin:s≤i∧i<s+zs.length
    · have hx:(show List (El kk) from xs.take s++zs++xs.drop (s+zs.length))[i]'hi=zs[i - s]'(by omega):=by
        show (xs.take s++zs++xs.drop (s+zs.length))[i]'hi=_
        rw [List.getElem_append_left (by simp; omega),List.getElem_append_right (by simp; omega)]
        congr 1
        simp
        omega
      rw [hx]
      have hlt:i - s<zs.length:=by omega
      have hv:=hel (i - s) hlt
      refine ⟨jQ news kk.size (i - s),fun j hj=>?_,lD (fun t ht=>?_) (gN hf hv)⟩
      · rw [mF hnl hlt] at hj
        rw [hcell,jv hj]
        have hb2:(i - s+1) * kk.size≤zs.length * kk.size:=abX _ (by omega)
        rw [Nat.add_mul,Nat.one_mul] at hb2
        have hi2:i * kk.size=s * kk.size+(i - s) * kk.size:=by rw [←Nat.add_mul]; congr 1; omega
        rw [show q+i * kk.size+j=q+s * kk.size+((i - s) * kk.size+j) by omega]
        exact s5 _ (by rw [hnl]; omega)
      · rw [qR hf] at ht; simp at ht
    · have hx:(show List (El kk) from xs.take s++zs++xs.drop (s+zs.length))[i]'hi=xs[i]'hi':=by
        show (xs.take s++zs++xs.drop (s+zs.length))[i]'hi=_
        by_cases hlt:i<s
        · rw [List.getElem_append_left (by simp; omega),List.getElem_append_left (by simp; omega)]
          simp
        · rw [List.getElem_append_right (by simp; omega)]
          simp only [List.getElem_drop]
          congr 1
          simp
          omega
      rw [hx]
      obtain ⟨ds,g1,g2⟩:=H i hi'
      have hg:=hg0 i
      rw [hg] at g2
      refine ⟨ds,fun j hj=>?_,lD (fun t ht=>by rw [qR hf] at ht; simp at ht) (gN hf (iY (fun _=>True) (fun _ _=>trivial) (fun _ _=>trivial) g2))⟩
      rw [hcell]
      have hj':=g1 j hj
      rw [hcell0] at hj'
      rw [←hj']
      have hds:=cz g2
      refine s6 _ fun hc=>hin ?_
      rw [hnl] at hc
      constructor
      · refine abO fun h=>?_
        have:(i+1) * kk.size≤s * kk.size:=abX _ (by omega)
        rw [Nat.add_mul,Nat.one_mul] at this
        omega
      · refine abO fun h=>?_
        have:(s+zs.length) * kk.size≤i * kk.size:=abX _ (by omega)
        rw [Nat.add_mul] at this
        omega
end
section
variable {P:Program} {T:gL} {cx:Cx} {σ:St} {α:dA} {F:List Nat} {a:Act} {w:World} {o:Oper} {d:Nat} {ws:List Wr} {r:Nat} {R:Root}
theorem GG (H:Rel cx σ α F a w) (hr:aM σ r R) (hv:bg σ R) (hk:R.kind=.anon) {e:TypeId} {kk:K} {xs zs:List (El kk)} {s:Nat} (hq:(⟨R.k,R.x⟩:Dat)=⟨.sl e kk,xs⟩) (hf:kk.flat=true) (he:aA e R.own=true) (hkk:0<kk.size) (hs:s+zs.length≤xs.length)
    {b:Option Addr} {n c:Nat} (hh:α.hdr r=[.slice b n c]) {bb:Option Addr} (hbb:0<zs.length→bb=b.map (·.add (s * kk.size)))
    {news:List Value} (hnl:news.length=zs.length * kk.size) (hel:∀i (hi:i<zs.length),Vw (hp w) (fun _=>True) kk zs[i] (jQ news kk.size i)) (h1:∀v∈news,v.oneCell'=true) :
    ∃w',(∀ad,bb=some ad→(storeCells ad news).run P w=.ok () w')∧(zs.length=0→w'=w)∧(0<zs.length→∃ad,bb=some ad)∧
      Rel cx (ak σ r (iq R e kk (xs.take s++zs++xs.drop (s+zs.length)))) (aB α r (α.loc r) (α.hdr r) (α.fo r)) [] a w'∧
      ∀g v,g≤R.g→bz cx σ α F w (.ref r g) v→bz cx (ak σ r (iq R e kk (xs.take s++zs++xs.drop (s+zs.length)))) (aB α r (α.loc r) (α.hdr r) (α.fo r)) [] w' (.ref r g) v:=by
  have hRk:R.k=.sl e kk:=congrArg (fun q:Dat=>q.1) hq
  have hO:Ow (hp w) R.own (gy cx σ α F w R.tags) (.sl e kk) xs [.slice b n c] (α.fo r):=by
    have:=cast (congrArg (fun q:Dat=>Ow (hp w) R.own (gy cx σ α F w R.tags) q.1 q.2 (α.hdr r) (α.fo r)) hq) ((H.roots r R hr).ow hv)
    simp only at this
    rw [hh] at this
    exact this
  by_cases hz:0<zs.length
  · have hb0:∃bk q,b=some ⟨bk,q,none⟩:=by
      have A8:=hO
      unfold Ow at A8
      rw [if_pos he] at A8
      obtain ⟨a0,n',c',e1,e2,e3,H'⟩:=A8
      simp only [List.cons.injEq,Value.slice.injEq,and_true] at e1
      obtain ⟨rfl,rfl,rfl⟩:=e1
      have e2:n=xs.length:=e2
      rcases H' with ⟨hc,_⟩ | ⟨bk,q,arr,lo,hi,ea,_⟩
      · omega
      · exact ⟨bk,q,ea⟩
    obtain ⟨bk,q,rfl⟩:=hb0
    obtain ⟨g1,g2,g3,g4,g5,g6⟩:=PU (P:=P) (w:=w) hf he hs hz hkk hO hnl hel h1
    have hb1:bb=some ⟨bk,q+s * kk.size,none⟩:=by rw [hbb hz]; simp [addr_add]
    obtain ⟨r1,r2⟩:=Da (w':=w.setCells bk (q+s * kk.size) news) H hr hv hk (ys:=xs.take s++zs++xs.drop (s+zs.length)) hq hf (by simp; omega) (kX _ _ _ _) (by omega)
      (fun b' hb'=>by
        by_cases e:b'=bk
        · subst e; exact ⟨g2,g3⟩
        · exact absurd (g4 b' e) hb') (fun ok=>by rw [hh]; exact g6 ok)
    exact ⟨_,fun ad ha=>by rw [hb1] at ha; simp only [abr] at ha; subst ha; exact g1,fun h=>by omega,fun _=>⟨_,hb1⟩,r1,r2⟩
  · have hz0:zs=[]:=List.eq_nil_of_length_eq_zero (by omega)
    subst hz0
    have hn0:news=[]:=List.eq_nil_of_length_eq_zero (by simpa using hnl)
    subst hn0
    have hys:xs.take s++[]++xs.drop (s+([]:List (El kk)).length)=xs:=by simp
    obtain ⟨r1,r2⟩:=Da (w':=w) H hr hv hk (ys:=xs.take s++[]++xs.drop (s+([]:List (El kk)).length)) hq hf (by simp) ⟨rfl,rfl,rfl⟩ (abI _) (fun b' hb'=>absurd rfl hb') (fun ok=>by
      rw [hys,hh]
      have hO2:=jC (ok':=ok) (fP (k:=.sl e kk) (own:=R.own) (fun t ht=>by simp only [K.tys,qR hf,abL] at ht; subst ht; exact he)) hO
      exact hO2)
    exact ⟨w,fun ad _=>by cases ad; rfl,fun _=>rfl,fun h=>by simp at h,r1,r2⟩
end
section
variable {P:Program} {T:gL} {cx:Cx} {σ:St} {α:dA} {F:List Nat} {a:Act} {w:World} {o:Oper} {d:Nat} {ws:List Wr} {r:Nat} {R:Root}
theorem nk {A:Type} {z:A} {g:Nat} {k:Root→(e:TypeId)→(kk:K)→List (El kk)→Prog A} (h:(ownRow r g k).ends σ z) :
    ∃R e kk xs,aM σ r R∧bg σ R∧R.g=g∧(⟨R.k,R.x⟩:Dat)=⟨.sl e kk,xs⟩∧kk.flat=true∧aA e R.own=true∧(k R e kk xs).ends σ z:=by
  unfold ownRow at h
  obtain ⟨R,hr,hv,h⟩:=bU h
  rcases ah h with ⟨hg,h⟩ | ⟨_,h⟩
  · have hK:∀q:Dat,(⟨R.k,R.x⟩:Dat)=q→(match q.1,q.2 with
        | .sl e kk,xs=>bif kk.flat && aA e R.own then k R e kk (show List (El kk) from xs) else .fail
        | _,_=>Prog.fail).ends σ z→∃R e kk xs,aM σ r R∧bg σ R∧R.g=g∧(⟨R.k,R.x⟩:Dat)=⟨.sl e kk,xs⟩∧kk.flat=true∧aA e R.own=true∧(k R e kk xs).ends σ z:=by
      intro q hq hh
      obtain ⟨qk,qx⟩:=q
      cases qk with
      | sl e kk=>
        simp only at hh
        rcases ah hh with ⟨hc,hh⟩ | ⟨_,hh⟩
        · simp only [aby] at hc
          exact ⟨R,e,kk,qx,hr,hv,abw hg,hq,hc.1,hc.2,hh⟩
        · exact hh.elim
      | _=>exact hh.elim
    exact hK _ rfl h
  · exact h.elim
theorem xA (H:Rel cx σ α F a w) (hr:aM σ r R) (hv:bg σ R) {e:TypeId} {kk:K} {xs:List (El kk)} (hq:(⟨R.k,R.x⟩:Dat)=⟨.sl e kk,xs⟩) (he:aA e R.own=true) {v:Value} (h:VC R.k v (α.hdr r)) :
    ∃b n c,v=.slice b n c∧α.hdr r=[.slice b n c]∧n=xs.length∧n≤c:=by
  have hO:=cast (congrArg (fun q:Dat=>Ow (hp w) R.own (gy cx σ α F w R.tags) q.1 q.2 (α.hdr r) (α.fo r)) hq) ((H.roots r R hr).ow hv)
  have hV:VC (.sl e kk) v (α.hdr r):=cast (congrArg (fun q:Dat=>VC q.1 v (α.hdr r)) hq) h
  simp only at hO
  unfold Ow at hO
  rw [if_pos he] at hO
  obtain ⟨b,n,c,e1,e2,e3,_⟩:=hO
  rw [hV.1] at e1
  simp only [List.cons.injEq,and_true] at e1
  exact ⟨b,n,c,e1,by rw [hV.1,e1],e2,e3⟩
theorem EU {len cap:Nat} {lo hi:Option Int} {l h:Option Value} (hl:lo=none→l=none) (hl':∀j,lo=some j→∃ik,l=some (.int ik j)) (hh:hi=none→h=none) (hh':∀j,hi=some j→∃ik,h=some (.int ik j))
    (h0:0≤lo.getD 0) (h1:lo.getD 0≤hi.getD (len:Int)) (h2:hi.getD (len:Int)≤(cap:Int)) :
    (Instr.sliceBounds true len cap l h none).run P w=.ok ((lo.getD 0).toNat,(hi.getD (len:Int)).toNat,cap) w:=by
  unfold Instr.sliceBounds
  cases hi with
  | none=>
    rw [hh rfl]
    simp only [Option.getD_none] at h1 h2
    cases lo with
    | none=>rw [hl rfl]; simp
    | some j=>
      obtain ⟨ik,e⟩:=hl' j rfl
      simp only [Option.getD_some] at h0 h1
      rw [e]
      simp [Instr.sliceBound,asIntOf,h0,h1]
  | some i=>
    obtain ⟨ik,e⟩:=hh' i rfl
    simp only [Option.getD_some] at h1 h2
    have f1:0≤i:=by omega
    rw [e]
    cases lo with
    | none=>rw [hl rfl]; simp [Instr.sliceBound,asIntOf,f1,h2]
    | some j=>
      obtain ⟨Vy,e2⟩:=hl' j rfl
      simp only [Option.getD_some] at h0 h1
      have g3:j≤max i 0:=by omega
      rw [e2]
      simp [Instr.sliceBound,asIntOf,f1,h2,h0]
      omega
theorem Ar {t e:TypeId} {k:K} (ht:eP P T t (.sl e k)) {b:Option Addr} {n c:Nat} {lo hi:Option Int} {l h:Option Value} (hl:lo=none→l=none) (hl':∀j,lo=some j→∃ik,l=some (.int ik j)) (hh:hi=none→h=none) (hh':∀j,hi=some j→∃ik,h=some (.int ik j))
    (h0:0≤lo.getD 0) (h1:lo.getD 0≤hi.getD (n:Int)) (h2:hi.getD (n:Int)≤(c:Int)) :
    (Instr.sliceAt t (.slice b n c) l h none).run P w=.ok (.slice (if c=(lo.getD 0).toNat then b else b.map (·.add ((lo.getD 0).toNat * k.size))) ((hi.getD (n:Int)).toNat - (lo.getD 0).toNat) (c - (lo.getD 0).toNat)) w:=by
  obtain ⟨hu,he,_,_⟩:=ht.sl
  unfold Instr.sliceAt Instr.slice
  simp only [abR,run_underlying hu,Result.andThen,EU (w:=w) hl hl' hh hh' h0 h1 h2,he.info.sizeOf w,abW]
theorem add_add (b:Option Addr) (m n:Nat):(b.map (·.add m)).map (·.add n)=b.map (·.add (m+n)):=by
  cases b with
  | none=>rfl
  | some ad=>obtain ⟨x,y,z⟩:=ad; by_cases hm:m=0 <;> by_cases hn:n=0 <;> simp [Addr.add,hm,hn,Nat.add_assoc]
theorem add_zero (b:Option Addr):b.map (·.add 0)=b:=by
  cases b with
  | none=>rfl
  | some ad=>obtain ⟨x,y,z⟩:=ad; simp [Addr.add]
theorem AY (hT:dO P T) (H:Rel cx σ α F a w) (hd:o.dst=some d) (hdn:d<cx.nt) {t:TypeId} {x:Operand} {lo hi mx:Option Operand}
    (h:(match T.ty t with
      | some kk=>dz x fun a=>yw lo fun lo=>yw hi fun hi=>yw mx fun mx=>Iy kk a lo hi mx fun u=>.ret [Wr.s d (.one u)]
      | none=>(.fail:Prog (List Wr))).ends σ ws) (ho:o.op=.slice t x lo hi mx):lS P cx o a w (aj ws σ):=by
  cases hty:T.ty t with
  | none=>rw [hty] at h; exact h.elim
  | some k0=>
    rw [hty] at h
    have ht:=hT.ty t k0 hty
    obtain ⟨u,h1,h2,h⟩:=bI H h
    obtain ⟨lo',h,l1,l2⟩:=tY H h
    obtain ⟨hi',h,g1,g2⟩:=tY H h
    obtain ⟨mx',h,m1,m2⟩:=tY H h
    have hl:lo'=none→lo.map a.eval=none:=fun e=>by rw [l1.1 e]; rfl
    have hh:hi'=none→hi.map a.eval=none:=fun e=>by rw [g1.1 e]; rfl
    cases u with
    | ref r g=>
      simp only [Iy] at h
      obtain ⟨R,e,kk,xs,hr,hv,hg,hq,hf,he,h⟩:=nk h
      rcases ah h with ⟨hk0,h5⟩ | ⟨_,h5⟩
      · clear h
        have ek:=K.eq_of_beq hk0
        subst ek
        obtain ⟨hka,wz⟩:=h1 R hr hg
        obtain ⟨b,n,c,ev,eh,en,hnc⟩:=xA H hr hv hq he wz
        cases mx' with
        | none=>
          have hmx:mx.map a.eval=none:=by rw [m1.1 rfl]; rfl
          obtain ⟨⟨c1,c2,c3⟩,h6⟩:=h5
          rw [az h6]
          have hrun:=Ar (P:=P) (w:=w) (b:=b) (n:=n) (c:=c) ht hl l2 hh g2 c1 (by rw [en]; exact c2) (by rw [en]; omega)
          refine bB (x:=.one (.part r g (lo'.getD 0).toNat (hi'.getD (xs.length:Int)).toNat kk.size)) H hd hdn (v:=.slice (if c=(lo'.getD 0).toNat then b else b.map (·.add ((lo'.getD 0).toNat * kk.size))) ((hi'.getD (n:Int)).toNat - (lo'.getD 0).toNat) (c - (lo'.getD 0).toNat)) ?_ ?_ ⟨R,hr.1, .inr (by omega)⟩
          · simp only [execOp,ho,ev,hmx,abR,hrun,abK,abW]
          · refine ⟨_,b,n,c,by rw [en], ?_,by omega,by rw [en]; omega,hnc, ?_⟩
            · rintro (h0 | h0)
              · rw [h0]; simp [add_zero]
              · rw [if_neg h0]
            · rw [←ev]; exact h1
        | some m=>
          obtain ⟨jk,hmx⟩:=m2 m rfl
          simp only at h5
          rcases ah h5 with ⟨hs,h6⟩ | ⟨_,h6⟩
          · obtain ⟨⟨c1,c2,c3,c4⟩,h7⟩:=h6
            rw [az h7]
            cases hi' with
            | none=>simp at hs
            | some i=>
              obtain ⟨ik,ZT⟩:=g2 i rfl
              simp only [Option.getD_some] at c2 c3
              obtain ⟨hu,he',_,_⟩:=ht.sl
              have c5:m≤(c:Int):=by omega
              have hrun:∃v,(Instr.sliceAt t (.slice b n c) (lo.map a.eval) (hi.map a.eval) (mx.map a.eval)).run P w=.ok v w:=by
                unfold Instr.sliceAt Instr.slice Instr.sliceBounds
                rw [hmx,ZT]
                cases lo' with
                | none=>
                  rw [hl rfl]
                  simp only [Option.getD_none] at c1 c2
                  refine ⟨.slice (if m.toNat=0 then b else b.map (·.add (0 * kk.size))) (i.toNat - 0) (m.toNat - 0), ?_⟩
                  simp [run_underlying hu,Instr.sliceBound,asIntOf,c5,c3,he'.info.sizeOf w,show 0≤m by omega,show 0≤i by omega,show (i≤max m 0) by omega,Result.andThen]
                | some j=>
                  obtain ⟨lk,ZW⟩:=l2 j rfl
                  rw [ZW]
                  simp only [Option.getD_some] at c1 c2
                  refine ⟨.slice (if m.toNat=j.toNat then b else b.map (·.add (j.toNat * kk.size))) (i.toNat - j.toNat) (m.toNat - j.toNat), ?_⟩
                  simp [run_underlying hu,Instr.sliceBound,asIntOf,c5,c3,c1,he'.info.sizeOf w,show 0≤m by omega,show 0≤i by omega,show (i≤max m 0) by omega,show (j≤max i 0) by omega,Result.andThen]
              obtain ⟨v,hrun⟩:=hrun
              exact bB (x:=.one .undef) H hd hdn (v:=v) (by simp only [execOp,ho,ev,abR,hrun,abK,abW]) trivial trivial
          · exact h6.elim
      · exact h5.elim
    | part r g l0 h0 sz=>
      simp only [Iy] at h
      obtain ⟨R,e,kk,xs,hr,hv,hg,hq,hf,he,h⟩:=nk h
      rcases ah h with ⟨hk0,h5⟩ | ⟨_,h5⟩
      · clear h
        simp only [aby] at hk0
        have ek:=K.eq_of_beq hk0.1.1
        subst ek
        have hsz:kk.size=sz:=abw hk0.1.2
        subst hsz
        cases mx' with
        | some m=>simp at hk0
        | none=>
          have hmx:mx.map a.eval=none:=by rw [m1.1 rfl]; rfl
          obtain ⟨⟨c1,c2,c3⟩,h6⟩:=h5
          rw [az h6]
          obtain ⟨b',b,n,c,ev,eb,e2,e3,e4,hrf⟩:=h1
          obtain ⟨hka,wz⟩:=hrf R hr hg
          obtain ⟨b2,n2,c2',OP,eh,en,hnc⟩:=xA H hr hv hq he wz
          simp only [Value.slice.injEq] at OP
          obtain ⟨rfl,rfl,rfl⟩:=OP
          have hrun:=Ar (P:=P) (w:=w) (b:=b') (n:=h0 - l0) (c:=c - l0) ht hl l2 hh g2 c1 c2 (by omega)
          refine bB (x:=.one (.part r g (l0+(lo'.getD 0).toNat) (l0+(hi'.getD ((h0 - l0:Nat):Int)).toNat) kk.size)) H hd hdn
            (v:=.slice (if c - l0=(lo'.getD 0).toNat then b' else b'.map (·.add ((lo'.getD 0).toNat * kk.size))) ((hi'.getD ((h0 - l0:Nat):Int)).toNat - (lo'.getD 0).toNat) (c - l0 - (lo'.getD 0).toNat)) ?_ ?_ ⟨R,hr.1, .inr (by omega)⟩
          · simp only [execOp,ho,ev,hmx,abR,hrun,abK,abW]
          · refine ⟨if c - l0=(lo'.getD 0).toNat then b' else b'.map (·.add ((lo'.getD 0).toNat * kk.size)),b,n,c, ?_, ?_,by omega,by rw [en]; omega,e4,hrf⟩
            · rw [show l0+(hi'.getD ((h0 - l0:Nat):Int)).toNat - (l0+(lo'.getD 0).toNat)=(hi'.getD ((h0 - l0:Nat):Int)).toNat - (lo'.getD 0).toNat by omega,show c - (l0+(lo'.getD 0).toNat)=c - l0 - (lo'.getD 0).toNat by omega]
            · rintro (h0' | h0')
              · have z1:l0=0:=by omega
                have z2:(lo'.getD 0).toNat=0:=by omega
                rw [eb (.inl z1),z1,z2]
                simp [add_zero]
              · rw [if_neg (by omega)]
                rw [eb (by omega),add_add,Nat.add_mul]
      · exact h5.elim
    | _=>exact h.elim
end
section
variable {P:Program} {T:gL} {cx:Cx} {σ:St} {α:dA} {F:List Nat} {a:Act} {w:World} {o:Oper} {d:Nat} {ws:List Wr} {r:Nat} {R:Root}
theorem Iu {c:Call} {u:AV} (h:dJ cx σ α F w [u] (c.args.toList.map a.eval)):∃x,c.args.toList=[x]∧bz cx σ α F w u (a.eval x):=by
  revert h
  generalize c.args.toList=l
  intro h
  cases l with
  | nil=>exact h.elim
  | cons x l=>cases l with
    | nil=>exact ⟨x,rfl,h.1⟩
    | cons _ _=>exact h.2.elim
theorem Az {c:Call} {u v:AV} (h:dJ cx σ α F w [u,v] (c.args.toList.map a.eval)):∃x y,c.args.toList=[x,y]∧bz cx σ α F w u (a.eval x)∧bz cx σ α F w v (a.eval y):=by
  revert h
  generalize c.args.toList=l
  intro h
  cases l with
  | nil=>exact h.elim
  | cons x l=>cases l with
    | nil=>exact h.2.elim
    | cons y l=>cases l with
      | nil=>exact ⟨x,y,rfl,h.1,h.2.1⟩
      | cons _ _=>exact h.2.2.elim
theorem GX {kk:K} {m:Nat} (hk:0<kk.size) (hz:(bD kk).length=kk.size) (hg:dV kk=true):(rq (bD kk).toArray (m * kk.size)).toList.length=m * kk.size∧(∀i,i<m→jQ (rq (bD kk).toArray (m * kk.size)).toList kk.size i=bD kk)∧
    ∀v∈(rq (bD kk).toArray (m * kk.size)).toList,v.oneCell'=true:=by
  refine ⟨by simp [rq],fun i hi=>Fh hk hz hi,fun v hv=>?_⟩
  simp only [rq,Array.toList_map,ab2] at hv
  obtain ⟨i,_,rfl⟩:=hv
  have hlt:i % (bD kk).toArray.size<(bD kk).toArray.size:=Nat.mod_lt _ (by simp [hz,hk])
  have h1:=Cm hg (iY (h:=hp (default:World)) (own:=kk.tys) (ok:=fun _=>False) (fun _=>True) (fun _ _=>trivial) (fun _ _=>trivial) (wO hg (fun t ht=>bu.2 ht)))
  rw [getElem!_pos (bD kk).toArray _ hlt]
  exact h1 _ (by simp)
theorem Ja (hT:dO P T) (H:Rel cx σ α F a w) {c:Call} (ho:o.op=.call c) (hcb:c.callee=.builtin .clear) {u:AV} {e0:TypeId} {k0:K} (hl:dJ cx σ α F w [u] (c.args.toList.map a.eval)) (ht0:(c.argTypes[0]?).bind T.ty=some (.sl e0 k0))
    (h:(FT (.sl e0 k0) u fun ws=>(.ret ws:Prog (List Wr))).ends σ ws):∃v w' α',(execOp a.eval o).run P w=.ok (.value v) w'∧Rel cx (aj ws σ) α' [] a w':=by
  obtain ⟨x,hx,hu⟩:=Iu hl
  obtain ⟨t,hat,ht⟩:=nU hT ht0
  cases u with
  | part r g lo hi sz=>
    simp only [FT] at h
    obtain ⟨R,e,kk,xs,hr,hv,hg,hq,hf,he,h⟩:=nk h
    rcases ah h with ⟨hsz,h5⟩ | ⟨_,h5⟩
    · clear h
      simp only [aby] at hsz
      have ek:=K.eq_of_beq hsz.1
      have hsz:=abw hsz.2
      subst hsz
      obtain ⟨rfl,rfl⟩:e=e0∧kk=k0:=by simpa using ek
      rw [az h5]
      obtain ⟨b',b,n,c',ev,eb,e2,e3,e4,hrf⟩:=hu
      obtain ⟨hka,wz⟩:=hrf R hr hg
      obtain ⟨b2,n2,c2',OP,eh,en,hnc⟩:=xA H hr hv hq he wz
      simp only [Value.slice.injEq] at OP
      obtain ⟨rfl,rfl,rfl⟩:=OP
      obtain ⟨hun,hel,hks,_⟩:=ht.sl
      have Qx:=hel.dV
      have hzl:(bD kk).length=kk.size:=by
        have:=wO (h:=hp w) (ok:=fun _=>False) (own:=kk.tys) Qx (fun t ht=>bu.2 ht)
        exact cz this
      obtain ⟨z1,z2,z3⟩:=GX (m:=hi - lo) hks hzl Qx
      obtain ⟨w',r1,r2,r3,r4,_⟩:=GG (P:=P) (zs:=List.replicate (hi - lo) kk.zero) (s:=lo) H hr hv hka hq hf he hks (by simp; omega) (b:=b) (n:=n) (c:=c') eh (bb:=b') (fun h0=>eb (by
          simp only [List.length_replicate] at h0
          omega)) (news:=(rq (bD kk).toArray ((hi - lo) * kk.size)).toList) (by rw [z1]; simp) (fun i hi'=>by
          have hi2:i<hi - lo:=by simpa using hi'
          rw [z2 i hi2]
          have:(List.replicate (hi - lo) kk.zero)[i]'hi'=kk.zero:=by simp
          rw [this]
          exact iY (own:=kk.tys) (ok:=fun _=>False) _ (fun _ _=>trivial) (fun _ _=>trivial) (wO Qx (fun t ht=>bu.2 ht))) z3
      have hdrop:lo+(List.replicate (hi - lo) kk.zero).length=hi:=by simp; omega
      rw [hdrop] at r4
      obtain ⟨cc,hcc⟩:=iw (P:=P) (a:=a) (w:=w) ho hcb
      have NB:(c.args.map a.eval)[0]?=some (.slice b' (hi - lo) (c' - lo)):=by
        rw [←Array.getElem?_toList,Array.toList_map,hx]
        simp [ev]
      refine ⟨.tuple #[],w',_, ?_,r4⟩
      rw [hcc]
      have hrun:(Builtin.clear_ c.argTypes o.type (c.args.map a.eval)).run P w=.ok (.tuple #[]) w':=by
        unfold Builtin.clear_
        simp only [hat,NB]
        by_cases h0:hi - lo=0
        · rw [h0]
          rw [r2 (by simp [h0])]
          cases b' <;> simp [run_underlying hun,Result.andThen]
        · obtain ⟨ad,had⟩:=r3 (by simp; omega)
          subst had
          have hst:=r1 ad rfl
          have hzc:(Builtin.zeroCells (mJ kk).cells (hi - lo)).toList=(rq (bD kk).toArray ((hi - lo) * kk.size)).toList:=by
            rw [pQ hel.shape]
            unfold Builtin.zeroCells rq
            simp [hzl]
          obtain ⟨m,hm⟩:∃m,hi - lo=m+1:=⟨hi - lo - 1,by omega⟩
          rw [hm] at hzc hst ⊢
          simp only [abR,run_underlying hun,abK,hel.info.zero w,hzc,hst,abW]
      simp only [builtin,abR,hrun,abK,abW]
    · exact h5.elim
  | _=>exact h.elim
end
section
variable {P:Program} {T:gL} {cx:Cx} {σ:St} {α:dA} {F:List Nat} {a:Act} {w:World} {o:Oper} {d:Nat} {ws:List Wr} {r:Nat} {R:Root}
theorem Jb (hT:dO P T) (H:Rel cx σ α F a w) (hd:o.dst=some d) (hdn:d<cx.nt) {c:Call} (ho:o.op=.call c) (hcb:c.callee=.builtin .append) {u v:AV} {e0 e1:TypeId} {k0 k1:K} (hl:dJ cx σ α F w [u,v] (c.args.toList.map a.eval))
    (ht0:(c.argTypes[0]?).bind T.ty=some (.sl e0 k0)) (ht1:(c.argTypes[1]?).bind T.ty=some (.sl e1 k1)) (h:(FU (.sl e0 k0) d u v fun ws=>(.ret ws:Prog (List Wr))).ends σ ws):lS P cx o a w (aj ws σ):=by
  obtain ⟨x,y,hxy,hu,hv0⟩:=Az hl
  obtain ⟨t,hat,ht⟩:=nU hT ht0
  obtain ⟨t2,NA,ht2⟩:=nU hT ht1
  cases u with
  | part r g l0 h0 sz=>
    cases v with
    | part r' g' l1 h1 sz'=>
      simp only [FU] at h
      obtain ⟨R,e,kk,xs,hr,hv,hg,hq,hf,he,h⟩:=nk h
      rcases ah h with ⟨hc,h5⟩ | ⟨_,h5⟩
      · clear h
        simp only [aby] at hc
        obtain ⟨⟨⟨⟨⟨c1,c2⟩,c3⟩,c4⟩,c5⟩,c6⟩:=hc
        have ek:=K.eq_of_beq c1
        have c2:=abw c2
        have c3:=abw c3
        have c4:=abw c4
        have c5:=abw c5
        have c6:=abw c6
        subst c2 c3 c4 c5 c6
        obtain ⟨rfl,rfl⟩:e=e0∧kk=k0:=by simpa using ek
        obtain ⟨hle,h6⟩:=h5
        rw [az h6]
        obtain ⟨b1,b,n,cp,Z0,ZQ,e2,e3,e4,hrf⟩:=hu
        obtain ⟨b2,b',n',cp',OP,ZR,f2,f3,f4,YA⟩:=hv0
        obtain ⟨hka,wz⟩:=hrf R hr hg
        obtain ⟨_,XQ⟩:=YA R hr hg
        obtain ⟨q1,q2,q3,ev,eh,en,hnc⟩:=xA H hr hv hq he wz
        simp only [Value.slice.injEq] at ev
        obtain ⟨rfl,rfl,rfl⟩:=ev
        obtain ⟨q1,q2,q3,ev,eh',_,_⟩:=xA H hr hv hq he XQ
        simp only [Value.slice.injEq] at ev
        obtain ⟨rfl,rfl,rfl⟩:=ev
        rw [eh] at eh'
        simp only [List.cons.injEq,Value.slice.injEq,and_true] at eh'
        obtain ⟨rfl,rfl,rfl⟩:=eh'
        have hb1:b1=b:=by rw [ZQ (.inl rfl)]; simp [add_zero]
        subst hb1
        obtain ⟨hun,hel,hks,_⟩:=ht.sl
        have Qx:=hel.dV
        have hO:Ow (hp w) R.own (gy cx σ α F w R.tags) (.sl e kk) xs [.slice b1 n cp] (α.fo r):=by
          have:=cast (congrArg (fun q:Dat=>Ow (hp w) R.own (gy cx σ α F w R.tags) q.1 q.2 (α.hdr r) (α.fo r)) hq) ((H.roots r R hr).ow hv)
          simp only at this
          rw [eh] at this
          exact this
        have hV:=iY (fun _=>True) (fun _ _=>trivial) (fun _ _=>trivial) hO
        have Zj:=Ht hV f2 (by omega:h1≤n)
        have hlz:((xs.take h1).drop l1).length=h1 - l1:=by
          have:n=xs.length:=en
          simp; omega
        have hVy:Vw (hp w) (fun _=>True) (.sl e kk) (show List (El kk) from (xs.take h1).drop l1) [.slice b2 (h1 - l1) (cp - l1)]:=by
          by_cases hcl:cp=l1
          · refine ⟨_,_,_,rfl,hlz.symm,by omega,fun h=>?_⟩
            omega
          · rw [if_neg hcl] at Zj
            rw [ZR (.inr hcl)]
            exact Zj
        obtain ⟨news,hS,hE⟩:=Di (P:=P) (u:=t2) (xs:=(xs.take h1).drop l1) (v:=a.eval y) (.inl ⟨_,ht2.sl.1⟩) Qx rfl (cs:=[.slice b2 (h1 - l1) (cp - l1)]) ⟨by rw [OP],by rw [OP]; simp⟩ hVy
        have hzl:((show List (El kk) from (xs.take h1).drop l1)).length=h1 - l1:=hlz
        have hroom:h0+((xs.take h1).drop l1).length≤cp:=by omega
        obtain ⟨w',r1,r2,r3,r4,r5⟩:=GG (P:=P) (zs:=(xs.take h1).drop l1) (s:=h0) H hr hv hka hq hf he hks (by rw [hlz]; have:n=xs.length:=en; omega) (b:=b1) (n:=n) (c:=cp) eh (bb:=b1.map (·.add (h0 * kk.size))) (fun _=>rfl) (news:=news) hS.nl hE hS.one
        rw [hlz] at r4 r5
        have hrun:=qF (P:=P) (ty:=o.type) (t:=t) (u:=t2) ht hS (b:=b1) (n:=h0) (c:=cp) hroom
        have BH:(Builtin.append_ #[t,t2] o.type #[a.eval x,a.eval y]).run P w=.ok (.slice b1 (h0+(h1 - l1)) cp) w':=by
          rw [Z0]
          simp only [Nat.sub_zero]
          rw [hrun,hlz]
          cases hbb:b1 with
          | none=>
            have:((xs.take h1).drop l1).length=0:=by
              refine abO fun hne=>?_
              obtain ⟨ad,had⟩:=r3 (by omega)
              rw [hbb] at had
              simp at had
            rw [r2 this]
            simp [Result.andThen]
          | some ad=>
            have:=r1 (ad.add (h0 * kk.size)) (by rw [hbb]; rfl)
            simp only [this,abK]
        show lS P cx o a w (aj [Wr.s d (.one (.part r g 0 (h0+(h1 - l1)) kk.size))] (ak σ r (iq R e kk (xs.take h0++(xs.take h1).drop l1++xs.drop (h0+(h1 - l1))))))
        refine gq (x:=.one (.part r g 0 (h0+(h1 - l1)) kk.size)) (v:=.slice b1 (h0+(h1 - l1)) cp) r4 hd hdn (jH ho hcb hxy hat NA BH) ?_ ⟨_,aF .., .inr (by rw [←hg]; exact abI _)⟩
        refine ⟨b1,b1,n,cp,by simp,fun _=>by simp [add_zero],by omega,by omega,e4,r5 g (.slice b1 n cp) (by omega) hrf⟩
      · exact h5.elim
    | _=>exact h.elim
  | _=>exact h.elim
theorem D5 (hT:dO P T) (H:Rel cx σ α F a w) (hd:o.dst=some d) (hdn:d<cx.nt) {c:Call} (ho:o.op=.call c) (hcb:c.callee=.builtin .len) {r g lo hi sz:Nat} {e0:TypeId} {k0:K} (hl:dJ cx σ α F w [.part r g lo hi sz] (c.args.toList.map a.eval))
    (ht0:(c.argTypes[0]?).bind T.ty=some (.sl e0 k0)):lS P cx o a w (aj [.s d (.one (.val (.int .i64) ((hi - lo:Nat):Int) []))] σ):=by
  obtain ⟨x,hx,hu⟩:=Iu hl
  obtain ⟨t,hat,ht⟩:=nU hT ht0
  obtain ⟨b',b,n,cp,ev,_⟩:=hu
  have NB:(c.args.map a.eval)[0]?=some (.slice b' (hi - lo) (cp - lo)):=by
    rw [←Array.getElem?_toList,Array.toList_map,hx]
    simp [ev]
  obtain ⟨cc,hcc⟩:=iw (P:=P) (a:=a) (w:=w) ho hcb
  refine bB H hd hdn ?_ (kF .i64 (n:=((hi - lo:Nat):Int)) trivial) sJ
  rw [hcc]
  simp only [builtin,abR,IB (ty:=o.type) (w:=w) hat NB (.inr ⟨⟨_,ht.sl.1⟩,b',cp - lo,rfl⟩),abK,abW]
theorem EW {t u ty e:TypeId} {k:K} (ht:eP P T t (.sl e k)) {b:Option Addr} {n c m:Nat} {x:Value} {news:List Value} (hs:Src P w k.size u x m news) (hr:m≤n) :
    (Builtin.copy_ #[t,u] ty #[.slice b n c,x]).run P w=(match b with
      | some a=>(storeCells a news).run P w
      | none=>.ok () w).andThen fun _ w'=>.ok (.int .i64 (m:Int)) w':=by
  obtain ⟨hu,he,_,_⟩:=ht.sl
  have e1:=hs.len w
  have e2:=hs.cells.1
  have hm:Nat.min m n=m:=Nat.min_eq_left hr
  cases b <;> simp [Builtin.copy_,run_underlying hu,he.info.sizeOf w,e1,e2,hm,Result.andThen,goInt]
theorem KG (hT:dO P T) (H:Rel cx σ α F a w) (hd:o.dst=some d) (hdn:d<cx.nt) {c:Call} (ho:o.op=.call c) (hcb:c.callee=.builtin .copy) {u v:AV} {e0 e1:TypeId} {k0 k1:K} (hl:dJ cx σ α F w [u,v] (c.args.toList.map a.eval)) (hwv:l9 σ v)
    (ht0:(c.argTypes[0]?).bind T.ty=some (.sl e0 k0)) (ht1:(c.argTypes[1]?).bind T.ty=some (.sl e1 k1)) (h:(KC (.sl e0 k0) d u v fun ws=>(.ret ws:Prog (List Wr))).ends σ ws):lS P cx o a w (aj ws σ):=by
  obtain ⟨x,y,hxy,hu,hv0⟩:=Az hl
  obtain ⟨t,hat,ht⟩:=nU hT ht0
  obtain ⟨t2,NA,ht2⟩:=nU hT ht1
  cases u with
  | ref r g=>
    simp only [KC] at h
    obtain ⟨R,e,kk,xs,hr,hv,hg,hq,hf,he,h⟩:=nk h
    rcases ah h with ⟨hc,h5⟩ | ⟨_,h5⟩
    · clear h
      have ek:=K.eq_of_beq hc
      obtain ⟨rfl,rfl⟩:e=e0∧kk=k0:=by simpa using ek
      obtain ⟨hun,hel,hks,_⟩:=ht.sl
      have Qx:=hel.dV
      obtain ⟨s,h6,_,_,news,_,_,_,_,_,_,hS,hels⟩:=EZ (P:=P) (u:=t2) H (.inl ⟨_,ht2.sl.1⟩) Qx hv0 hwv h5
      obtain ⟨hle,h7⟩:=h6
      rw [az h7]
      obtain ⟨hka,wz⟩:=hu R hr (by omega)
      obtain ⟨b,n,cp,ev,eh,en,hnc⟩:=xA H hr hv hq he wz
      obtain ⟨bE,uO,_,_,_,hE⟩:=hels [] (fun t ht=>by rw [qR hf] at ht; simp at ht)
      have hb0:b.map (·.add (0 * kk.size))=b:=by rw [Nat.zero_mul]; exact add_zero b
      obtain ⟨w',r1,r2,r3,r4,r5⟩:=GG (P:=P) (zs:=s.xs) (s:=0) H hr hv hka hq hf he hks (by omega) (b:=b) (n:=n) (c:=cp) eh (bb:=b) (fun _=>hb0.symm) (news:=news) hS.nl (fun i hi=>iY (fun _=>True) (fun _ _=>trivial) (fun _ _=>trivial) (hE i hi)) hS.one
      have hxs:xs.take 0++s.xs++xs.drop (0+s.xs.length)=s.xs++xs.drop s.xs.length:=by simp
      rw [hxs] at r4 r5
      have hrun:=EW (P:=P) (ty:=o.type) (t:=t) (u:=t2) ht hS (b:=b) (n:=n) (c:=cp) (by omega)
      have BH:(Builtin.copy_ #[t,t2] o.type #[a.eval x,a.eval y]).run P w=.ok (.int .i64 (s.xs.length:Int)) w':=by
        rw [ev,hrun]
        cases hbb:b with
        | none=>
          have:s.xs.length=0:=by
            refine abO fun hne=>?_
            obtain ⟨ad,had⟩:=r3 (by omega)
            rw [hbb] at had
            simp at had
          rw [r2 this]
          simp [Result.andThen]
        | some ad=>
          have:=r1 ad hbb
          simp only [this,abK]
      have UH:(execOp a.eval o).run P w=.ok (.value (.int .i64 (s.xs.length:Int))) w':=by
        obtain ⟨cc,hcc⟩:=iw (P:=P) (a:=a) (w:=w) ho hcb
        rw [hcc]
        have h1:c.args.map a.eval=#[a.eval x,a.eval y]:=by
          apply Array.ext'
          rw [Array.toList_map,hxy]
          rfl
        have h2:Builtin.copy_ c.argTypes o.type #[a.eval x,a.eval y]=Builtin.copy_ #[t,t2] o.type #[a.eval x,a.eval y]:=by
          unfold Builtin.copy_
          simp only [hat]
          rfl
        rw [h1]
        simp only [builtin,abR,h2,BH,abK,abW]
      show lS P cx o a w (aj [Wr.s d (.one (.val (.int .i64) (s.xs.length:Int) []))] (ak σ r (iq R e kk (s.xs++xs.drop s.xs.length))))
      exact gq (x:=.one (.val (.int .i64) (s.xs.length:Int) [])) r4 hd hdn UH (kF .i64 (n:=((s.xs.length:Nat):Int)) trivial) sJ
    · exact h5.elim
  | _=>exact h.elim
theorem Be {t e:TypeId} (ht:eP P T t (.sl e (.int .u8))) {b q n c:Nat} {arr:Array Value} {e':TypeId} {fr:Nat×Nat} (hb:hp w b=some (.cells arr e' fr)) :
    (convert t t (.slice (some ⟨b,q,none⟩) n c)).run P w=.ok (.slice (some ⟨b,q,none⟩) n c) (w.freeze ⟨b,arr.size,none⟩ 1):=by
  obtain ⟨h1,h2,_⟩:=ht.sl
  have he:P.underlying e=some (.int .u8):=by
    unfold eP iC at h2
    exact h2.1
  have hsh:w.shape? b=some (e',arr.size):=by
    have:w.heap[b]?=some (.cells arr e' fr):=hb
    unfold World.shape?
    rw [this]
  simp [convert,run_underlying h1,run_underlying he,markStringish,hsh]
theorem Ji {b:Nat} {arr:Array Value} {e':TypeId} {lo hi:Nat} (hb:hp w b=some (.cells arr e' (lo,hi))) (hf:wQ arr.size lo hi) :
    (∀b',b'≠b→hp (w.freeze ⟨b,arr.size,none⟩ 1) b'=hp w b')∧∃lo' hi',hp (w.freeze ⟨b,arr.size,none⟩ 1) b=some (.cells arr e' (lo',hi'))∧wQ arr.size lo' hi':=by
  have hb':w.heap[b]?=some (.cells arr e' (lo,hi)):=hb
  have e0:(w.freeze ⟨b,arr.size,none⟩ 1).heap=w.heap.modify b fun
      | .cells c elem (lo,hi)=>.cells c elem (if lo == hi then (arr.size,arr.size+1) else (min lo arr.size,max hi (arr.size+1)))
      | o=>o:=by
    unfold World.freeze
    rw [if_neg (by decide)]
    rfl
  refine ⟨fun b' hne=>?_, ?_⟩
  · show (w.freeze ⟨b,arr.size,none⟩ 1).heap[b']?=w.heap[b']?
    rw [e0,Array.getElem?_modify,if_neg (Ne.symm hne)]
  · have e1:hp (w.freeze ⟨b,arr.size,none⟩ 1) b=some (.cells arr e' (if lo == hi then (arr.size,arr.size+1) else (min lo arr.size,max hi (arr.size+1)))):=by
      show (w.freeze ⟨b,arr.size,none⟩ 1).heap[b]?=_
      rw [e0,Array.getElem?_modify,if_pos rfl,hb']
      rfl
    cases hlh:(lo == hi) with
    | true=>rw [hlh] at e1; exact ⟨_,_,e1,by omega,fun i hi=>by omega⟩
    | false=>
      rw [hlh] at e1
      have hne:lo≠hi:=by simpa using hlh
      have hle:=hf.le
      have hs:arr.size≤lo:=abO fun h=>hf.out lo (by omega) ⟨abI _,by omega⟩
      exact ⟨_,_,e1,by omega,fun i hi=>by omega⟩
theorem I9 (hT:dO P T) (H:Rel cx σ α F a w) (hd:o.dst=some d) (hdn:d<cx.nt) {t e:TypeId} {x:Operand} {u:AV} (ho:o.op=.convert t t x) (ht0:T.ty t=some (.sl e (.int .u8))) (hu:bz cx σ α F w u (a.eval x))
    (h:(FK e d u fun ws=>(.ret ws:Prog (List Wr))).ends σ ws):lS P cx o a w (aj ws σ):=by
  have ht:=hT.ty t _ ht0
  cases u with
  | ref r g=>
    simp only [FK] at h
    obtain ⟨R,e',kk,xs,hr,hv,hg,hq,hf,he,h⟩:=nk h
    rcases ah h with ⟨hc,h5⟩ | ⟨_,h5⟩
    · clear h
      obtain ⟨h6,h7⟩:=h5
      rw [az h7]
      have ek:=K.eq_of_beq hc
      obtain ⟨rfl,rfl⟩:e'=e∧kk=.int .u8:=by simpa using ek
      obtain ⟨hka,wz⟩:=hu R hr (by omega)
      have hO:=cast (congrArg (fun q:Dat=>Ow (hp w) R.own (gy cx σ α F w R.tags) q.1 q.2 (α.hdr r) (α.fo r)) hq) ((H.roots r R hr).ow hv)
      have hV:VC (.sl e' (.int .u8)) (a.eval x) (α.hdr r):=cast (congrArg (fun q:Dat=>VC q.1 (a.eval x) (α.hdr r)) hq) wz
      simp only at hO
      have Vs:=hO
      unfold Ow at hO
      rw [if_pos he] at hO
      obtain ⟨ad,n,c,e1,e2,e3,hO⟩:=hO
      have h6':0<(show List Int from xs).length:=h6
      rcases hO with ⟨hc0,_⟩ | ⟨b,q,arr,lo,hi,ea,hb,hfr,hs,bE,hl,hpm,hE⟩
      · have:n=(show List Int from xs).length:=e2
        omega
      · subst ea
        have ev:a.eval x=.slice (some ⟨b,q,none⟩) n c:=by
          have:=hV.1
          rw [e1] at this
          simpa using this.symm
        have UG:=Be (P:=P) (w:=w) ht (n:=n) (c:=c) (q:=q) hb
        obtain ⟨g1,lo',hi',g2,g3⟩:=Ji hb hfr
        have hcell:∀i,cellAt (hp (w.freeze ⟨b,arr.size,none⟩ 1)) b i=cellAt (hp w) b i:=fun i=>by unfold cellAt; rw [g2,hb]
        have XU:b∈α.fo r:=hpm.mem_iff.2 (by simp)
        have NG:(w.freeze ⟨b,arr.size,none⟩ 1).os=w.os∧(w.freeze ⟨b,arr.size,none⟩ 1).tape=w.tape∧(w.freeze ⟨b,arr.size,none⟩ 1).output=w.output∧(w.freeze ⟨b,arr.size,none⟩ 1).heap.size=w.heap.size:=by
          unfold World.freeze
          rw [if_neg (by decide)]
          exact ⟨rfl,rfl,rfl,by simp⟩
        have hE':∀(i:Nat) (hi:i<(show List Int from xs).length),∃ds,Cells (hp w) b (q+i * K.size (.int .u8)) ds∧Ow (hp w) R.own (gy cx σ α F w R.tags) (.int .u8) ((show List Int from xs)[i]) ds (bE.getD i []):=hE
        obtain ⟨r4,r5⟩:=Da (w':=w.freeze ⟨b,arr.size,none⟩ 1) (ys:=xs) H hr hv hka hq hf rfl ⟨NG.1,NG.2.1,NG.2.2.1⟩ (by rw [NG.2.2.2]; exact abI _)
          (fun b' hne=>by
            by_cases hbb:b'=b
            · subst hbb
              exact ⟨XU,by unfold lH; rw [hb]⟩
            · exact absurd (g1 b' hbb) hne)
          (fun ok=>by
            unfold Ow
            rw [if_pos he]
            refine ⟨some ⟨b,q,none⟩,n,c,e1,e2,e3, .inr ⟨b,q,arr,lo',hi',rfl,g2,g3,hs,bE,hl,hpm,fun i hi=>?_⟩⟩
            obtain ⟨ds,k1,k2⟩:=hE' i hi
            exact ⟨ds,fun j hj=>by rw [hcell]; exact k1 j hj,k2⟩)
        have hrun:(execOp a.eval o).run P w=.ok (.value (a.eval x)) (w.freeze ⟨b,arr.size,none⟩ 1):=by
          simp only [execOp,ho,ev,abR,UG,abK,abW]
        show lS P cx o a w (aj [Wr.s d (.one (.ref r g))] (ak σ r (iq R e' (.int .u8) xs)))
        exact gq (x:=.one (.ref r g)) r4 hd hdn hrun (r5 g (a.eval x) (by omega) hu) ⟨_,aF .., .inr (by show g≤R.g; omega)⟩
    · exact h5.elim
  | _=>exact h.elim
theorem CB (hT:dO P T) (H:Rel cx σ α F a w) (hd:o.dst=some d) (hdn:d<cx.nt) (h:(Aw T o d fun ws=>(.ret ws:Prog (List Wr))).ends σ ws):lS P cx o a w (aj ws σ):=by
  unfold Aw at h
  split at h
  · rename_i t x lo hi mx ho
    exact AY hT H hd hdn h ho
  · rename_i c ho
    split at h
    · rename_i hcb
      obtain ⟨vs,h1,h2,h⟩:=gY H h
      split at h
      · split at h
        · rename_i ht0
          rw [az h]
          exact D5 hT H hd hdn ho hcb h1 ht0
        · exact h.elim
      · exact h.elim
    · rename_i hcb
      obtain ⟨vs,h1,h2,h⟩:=gY H h
      split at h
      · split at h
        · rename_i ht0 ht1
          exact Jb hT H hd hdn ho hcb h1 ht0 ht1 h
        · exact h.elim
      · exact h.elim
    · rename_i hcb
      obtain ⟨vs,h1,h2,h⟩:=gY H h
      split at h
      · split at h
        · rename_i ht0 ht1
          exact KG hT H hd hdn ho hcb h1 (h2 _ (by simp)) ht0 ht1 h
        · exact h.elim
      · exact h.elim
    · exact h.elim
  · rename_i t ps ho
    exact Nn hT H hd hdn h ho
  · rename_i s t x ho
    split at h
    · rename_i hty
      rcases ah h with ⟨hst,h9⟩ | ⟨_,h9⟩
      · have hst:=abw hst
        obtain ⟨u,h1,h2,h9⟩:=bI H h9
        exact I9 hT H hd hdn (by rw [ho,hst]) hty h1 h9
      · exact h9.elim
    · exact h.elim
  · exact h.elim
end
theorem Ew {p:List Stp}:∀{q:List Stp},pz p q=true→Er p=Er q→p=q:=by
  induction p with
  | nil=>intro q h _; cases q with
    | nil=>rfl
    | cons s q=>cases s <;> simp [pz] at h
  | cons s p ih=>
    intro q h hi
    cases q with
    | nil=>cases s <;> simp [pz] at h
    | cons u q=>
      cases s with
      | fu n=>
        cases u with
        | fu m=>
          simp only [pz,aby] at h
          rw [abw h.1,ih h.2 hi]
        | idx j=>simp [pz] at h
      | idx i=>
        cases u with
        | fu m=>simp [pz] at h
        | idx j=>
          simp only [Er,List.cons.injEq] at hi
          rw [hi.1,ih h hi.2]
theorem JB {p:List Stp}:∀{q:List Stp},pz p q=true→p.all Stp.lM=true→q.all Stp.lM=true:=by
  induction p with
  | nil=>intro q h _; cases q with
    | nil=>rfl
    | cons s q=>cases s <;> simp [pz] at h
  | cons s p ih=>
    intro q h hi
    cases q with
    | nil=>cases s <;> simp [pz] at h
    | cons u q=>
      cases s with
      | idx i=>simp [Stp.lM] at hi
      | fu n=>
        cases u with
        | idx j=>simp [pz] at h
        | fu m=>
          simp only [pz,aby] at h
          simp only [List.all_cons,aby] at hi ⊢
          exact ⟨rfl,ih h.2 hi.2⟩
theorem BI {p:List Stp}:p.all Stp.lM=true→Er p=[]:=by
  induction p with
  | nil=>intro _; rfl
  | cons s p ih=>
    intro h
    simp only [List.all_cons,aby] at h
    cases s with
    | fu n=>exact ih h.2
    | idx i=>exact absurd h.1 (by simp [Stp.lM])
section
variable {P:Program} {T:gL} {cx:Cx} {σ:St} {α:dA} {F:List Nat} {a:Act} {w:World} {o:Oper} {d:Nat} {ws:List Wr} {r:Nat} {R:Root}
theorem ES {t e:TypeId} {kk:K} (hT:eP P T t (.sl e kk)) (H:Rel cx σ α F a w) (hr:aM σ r R) (hv:bg σ R) {p:List Stp} {xs ys:List (El kk)} {z:Dat} (hg:aI p R.k R.x=some ⟨.sl e kk,xs⟩) (hz:dL p R.k R.x ⟨.sl e kk,ys⟩=some z) (eZ:jM p R.k R.x)
    (hown:∀t∈aa p R.k,aA t R.own=true) (hall:∀t∈(K.sl e kk).tys,aA t R.own=true) {cs1:List Value} {b o:Nat} (hn:bn (hp w) p R.k (α.hdr r) (dY α R r)=some (cs1,some (b,o))) {v:Value} (wC:∃bv nv cv,v=.slice bv nv cv) {lw:List TypeId} (Uw:dS R p∈lw)
    (how:∀eX ok,Ow (hp w) R.own ok (.sl e kk) xs cs1 eX→eX.Nodup→(∀b∈eX,b∈α.fo r)→∃ft,ft.Nodup∧(∀b∈ft,b∈eX∨b∈F)∧Ow (hp w) R.own (fun _=>False) (.sl e kk) ys [v] ft) :
    ∃w',(Instr.storeAt t (.pointer (some ⟨b,o,none⟩)) v).run P w=.ok () w'∧∃α' F',Rel cx (ak σ r (bq R z R.own R.tags lw (K.sl e kk).tys R.keep)) α' F' a w':=by
  have K0:=H.roots r R hr
  have hnt:=H.cB r R hr.1
  obtain ⟨_,_,hbb,⟨arr,te,lo,hi,hb,hf,hs,hlast⟩,_⟩:=kV H hr hv hg eZ hown hn
  have hone:∀u∈[v],u.oneCell'=true:=by
    intro u hu
    simp only [abL] at hu
    subst hu
    obtain ⟨bv,nv,cv,rfl⟩:=wC
    rfl
  have YG:VC (.sl e kk) v [v]:=by
    obtain ⟨bv,nv,cv,rfl⟩:=wC
    exact ⟨rfl,by simp⟩
  have hrun:=yf (o:=o) hT hb hf (show [v].length=(K.sl e kk).size from rfl) hs YG hone
  obtain ⟨s1,s2,iW,s3,s4,s5,s6⟩:=nN b [v] w arr te (lo,hi) o hb hs
  have s7:=kX b [v] w o
  refine ⟨_,hrun, ?_⟩
  obtain ⟨fd,ok',eX,rest,kQ,jS,hn',hpf,hd1,hty,_,sH,hwf,hgo⟩:=H.place hr hv (own':=R.own) hg eZ (fun t h=>h) hown
  rw [hn] at hn'
  simp only [abr,abD] at hn'
  obtain ⟨rfl,rfl⟩:=hn'
  have hnd:=K0.nd
  rw [bO,jO] at hnd
  have Lf:=hpf.nodup hnd.2
  have H6:∀b∈eX,b∈α.fo r:=fun b hb=>hpf.mem_iff.2 (abx _ (abx _ hb))
  obtain ⟨ft,Yd,K9,Ye⟩:=how eX ok' hd1 (abz.1 (abz.1 Lf).1).1 H6
  have AB:b∉F:=H.gQ r R hr b hbb
  have XV:b∉ft:=fun h=>by
    rcases K9 b h with h | h
    · exact hwf b o rfl h
    · exact AB h
  have hF':∀b',b'∈F.filter (fun b=>!aA b ft)↔b'∈F∧b'∉ft:=fun b'=>by rw [abJ]; simp [aO]
  have hP:mR cx σ α F w r R p ⟨.sl e kk,xs⟩ R.own cs1 (some (b,o)) eX rest ⟨.sl e kk,ys⟩ z R.tags lw (K.sl e kk).tys R.keep ft (F.filter fun b=>!aA b ft) [v] (w.setCells b o [v]):=by
    refine ⟨hz,rfl,fun _ h=>h,⟨s7.1,s7.2.1,s7.2.2⟩,by omega,fun b' _ hne=>?_,fun b' o' e'=>?_,fun h=>by simp at h,rfl, .inl (fun h=>by rw [h] at Uw; simp at Uw),⟨fun _ h=>h,hnt.1,hnt.2.2⟩,fun b' hb'=>(K9 b' hb').imp id .inl,Yd,fun b' hb'=>.inl ((hF' b').1 hb').1,H.rZ.filter _,
      fun b' hb' h=>((hF' b').1 h).2 hb', .inl rfl, .inl rfl,fun _ q c0 w0 hpq Ls hnq Rt=>?_,fun α' Tn hblk hval=>?_⟩
    · refine .inr (.inr ?_)
      by_cases e:b'=b
      · subst e; exact ⟨o,rfl,Uw⟩
      · exact absurd (s1 b' e) hne
    · simp only [abr,abD] at e'
      obtain ⟨rfl,rfl⟩:=e'
      refine ⟨fun i hi=>?_,arr,iW,te,(lo,hi),hb,s3,s4,fun i hi=>s6 i hi⟩
      unfold cellAt
      rw [s3]
      exact s5 i hi
    · cases q with
      | nil=>
        simp only [bn,abr,abD] at hnq
        exact ⟨trivial,[v],by simp only [bn]; rw [hnq.2]⟩
      | cons s q=>
        cases s with
        | fu n=>exact hpq.elim
        | idx i=>exact absurd (show e∈(K.sl e kk).tys by simp [K.tys]) (Ls e (by simp [aa])).2
    · exact jC (fP hall) (aY (fun _ h=>h.elim) (fun _ h=>h) (fun b' hb'=>s1 b' (fun e=>XV (e▸hb'))) Ye)
  obtain ⟨α',h,_⟩:=hgo hP
  exact ⟨α',_,h⟩
theorem Cw (hT:dO P T) (H:Rel cx σ α F a w) (hd:o.dst=none) {t:TypeId} {x y:Operand} (ho:o.op=.store t x y) {u:AV} {r n m:Nat} {p:List Stp} {k0:K} (hk0:T.ty t=some k0) (h1:bz cx σ α F w u (a.eval x)) (h2:l9 σ u) (h3:bz cx σ α F w (.qE r p n m) (a.eval y))
    (h:(xe k0 u r p n m fun ws=>(.ret ws:Prog (List Wr))).ends σ ws):lS P cx o a w (aj ws σ):=by
  have ht:=hT.ty t k0 hk0
  cases k0 with
  | sl e kk=>
    cases u with
    | ptr r' p' h0=>
      simp only [xe] at h
      rcases ah h with ⟨hc,h5⟩ | ⟨_,h5⟩
      · clear h
        simp only [aby] at hc
        obtain ⟨hix,h6⟩:=h5
        have er:=abw hc.1
        have ep:=Ew hc.2 hix
        subst er ep
        obtain ⟨R,hr,hv,h7⟩:=bU h6
        rcases ah h7 with ⟨hc2,h8⟩ | ⟨_,h8⟩
        · simp only [aby] at hc2
          obtain ⟨⟨⟨c1,c2⟩,c3⟩,c4⟩:=hc2
          have hall:=iT c4
          cases hg:aI p R.k R.x with
          | none=>rw [hg] at h8; exact h8.elim
          | some dd=>
            rw [hg] at h8
            simp only at h8
            cases hck:bL dd.1 (.sl e kk) dd.2 with
            | none=>rw [hck] at h8; exact h8.elim
            | some xs=>
              rw [hck] at h8
              simp only at h8
              obtain ⟨ek,ey⟩:=bF hck
              obtain ⟨dk,dx⟩:=dd
              simp only at ek ey
              subst ek
              simp only at ey
              subst ey
              cases hz:dL p R.k R.x ⟨.sl e kk,(show List (El kk) from xs).take m⟩ with
              | none=>rw [hz] at h8; exact h8.elim
              | some z=>
                rw [hz] at h8
                rw [az h8]
                obtain ⟨b0,c,ev,h3⟩:=h3
                obtain ⟨eZ,hown,q,wh,hn,hmq⟩:=h3 R hr.1 hv (abw c1) _ hg
                obtain ⟨_,cs,b,o',hn2,ep⟩:=h1.2 R hr.1 hv c3 hown (by rw [hg]; rfl)
                rw [hn] at hn2
                simp only [abr,abD] at hn2
                obtain ⟨rfl,rfl⟩:=hn2
                obtain ⟨w',r1,α',F',r2⟩:=ES (P:=P) ht H hr hv hg hz eZ hown hall hn (v:=.slice b0 m c) ⟨_,_,_,rfl⟩ (lw:=dS R p :: (K.sl e kk).tys) (by simp) (fun eX ok hO hnd hsub=>by
                  unfold Ow at hO
                  have he:aA e R.own=true:=hall e (by simp [K.tys])
                  rw [if_pos he] at hO
                  obtain ⟨a0,n',c',e1,e2,e3,hO⟩:=hO
                  simp only [List.cons.injEq,Value.slice.injEq,and_true] at e1
                  obtain ⟨rfl,rfl,rfl⟩:=e1
                  have e2:q=@List.length (El kk) xs:=e2
                  have hmx:m≤@List.length (El kk) xs:=by omega
                  have hlen:(@List.take (El kk) m xs).length=m:=by rw [List.length_take]; omega
                  rcases hO with ⟨hc0,hf0⟩ | ⟨bb,o0,arr,lo,hi,ea,hb,hfr,hs,bE,hl,hp0,hO⟩
                  · refine ⟨[],List.nodup_nil,by simp, ?_⟩
                    unfold Ow
                    rw [if_pos he]
                    exact ⟨b0,m,c,rfl,hlen.symm,by omega, .inl ⟨hc0,rfl⟩⟩
                  · have hl:bE.length=(show List (El kk) from xs).length:=hl
                    have qU:=hp0.nodup hnd
                    have Lr:((bE.take m).flatten).Sublist bE.flatten:=by
                      have:(bE.take m++bE.drop m).flatten=bE.flatten:=by rw [List.take_append_drop]
                      rw [←this,List.flatten_append]
                      exact List.sublist_append_left _ _
                    refine ⟨bb :: (bE.take m).flatten,(abZ.2 ⟨fun h=>(abZ.1 qU).1 (Lr.subset h),(abZ.1 qU).2.sublist Lr⟩),fun b' hb'=>.inl (hp0.mem_iff.2 (by
                      rcases abE.1 hb' with h | h
                      · rw [h]; exact abY
                      · exact abQ _ (Lr.subset h))), ?_⟩
                    have XL:Ow (hp w) R.own (fun _=>False) (.sl e kk) (show List (El kk) from (show List (El kk) from xs).take m) [.slice b0 m c] (bb :: (bE.take m).flatten):=by
                      unfold Ow
                      rw [if_pos he]
                      refine ⟨b0,m,c,rfl,hlen.symm,by omega, .inr ⟨bb,o0,arr,lo,hi,ea,hb,hfr,hs,bE.take m,by show (bE.take m).length=((show List (El kk) from xs).take m).length; simp [hl], .refl _,fun i hi'=>?_⟩⟩
                      have hi2:i<((show List (El kk) from xs).take m).length:=hi'
                      have hi3:i<m∧i < @List.length (El kk) xs:=by
                        have h9:i<(@List.take (El kk) m xs).length:=hi'
                        rw [hlen] at h9; omega
                      obtain ⟨ds,g1,g2⟩:=hO i hi3.2
                      refine ⟨ds,g1, ?_⟩
                      have e1:(show List (El kk) from (show List (El kk) from xs).take m)[i]'hi'=(show List (El kk) from xs)[i]'hi3.2:=by
                        show ((show List (El kk) from xs).take m)[i]=_
                        simp
                      have e2:(bE.take m).getD i []=bE.getD i []:=by simp [abF,List.getElem?_take,hi3.1]
                      rw [e1,e2]
                      exact jC (fP (fun t ht=>hall t (by simp [K.tys,ht]))) g2
                    exact XL)
                refine ⟨undef,w',α',F', .inr ⟨?_,rfl⟩, ?_⟩
                · simp only [execOp,ho,ep,ev,abR,r1,abK,abW]
                · rw [hd]
                  exact r2
        · exact h8.elim
      · exact h5.elim
    | _=>exact h.elim
  | _=>exact h.elim
end
section
variable {P:Program} {T:gL} {cx:Cx} {σ:St} {α:dA} {F:List Nat} {a:Act} {w:World} {o:Oper} {d:Nat} {ws:List Wr} {r:Nat} {R:Root}
theorem IU {t u ty e:TypeId} {kk:K} (ht:eP P T t (.sl e kk)) {own:List TypeId} {ok:Nat→Prop} {xs:List (El kk)} {b:Option Addr} {n c:Nat} {x:Value} {qC:List Nat} {news:List Value}
    (hO:Ow (hp w) own ok (.sl e kk) xs [.slice b n c] qC) (hown:aA e own=true) (hS:Src P w kk.size u x 1 news) (hb:(xs.length+1) * T.bytes e≤140737488355328) :
    ∃w' b1 o1 c1 arr lo hi,(Builtin.append_ #[t,u] ty #[.slice b n c,x]).run P w=.ok (.slice (some ⟨b1,o1,none⟩) (n+1) c1) w'∧(w'.os=w.os∧w'.tape=w.tape∧w'.output=w.output)∧w.heap.size≤w'.heap.size∧n+1≤c1∧n=xs.length∧
      hp w' b1=some (.cells arr e (lo,hi))∧wQ arr.size lo hi∧o1+c1 * kk.size≤arr.size∧Cells (hp w') b1 (o1+n * kk.size) news∧(∀b',b'<w.heap.size→b'≠b1→hp w' b'=hp w b')∧
      ((b=some ⟨b1,o1,none⟩∧c=c1∧b1∈qC∧lH (hp w) b1=some e∧fJ (hp w) (hp w') b1 (o1+n * kk.size) kk.size)∨
       (b1=w.heap.size∧w.heap.size<w'.heap.size∧(0<n→∃b0 o0,b=some ⟨b0,o0,none⟩∧b0∈qC∧∀i,i<n * kk.size→cellAt (hp w') b1 (o1+i)=cellAt (hp w) b0 (o0+i)))):=by
  have hnl:news.length=kk.size:=by simpa using hS.nl
  unfold Ow at hO
  rw [if_pos hown] at hO
  obtain ⟨a,n',c',e1,e2,e3,hO⟩:=hO
  simp only [List.cons.injEq,Value.slice.injEq,and_true] at e1
  obtain ⟨rfl,rfl,rfl⟩:=e1
  have e2':n=xs.length:=e2
  by_cases hr:n+1≤c
  · have hrun:=qF (ty:=ty) ht hS (b:=b) (n:=n) hr
    rcases hO with ⟨hc0,_⟩ | ⟨bb,q,arr,lo,hi,ea,hbk,hf,hs,pW,hl0,hp0,hO⟩
    · omega
    · subst ea
      have hle:(n+1) * kk.size≤c * kk.size:=abX _ hr
      rw [Nat.add_mul,Nat.one_mul] at hle
      have hst:=jI (P:=P) (o:=q+n * kk.size) news hbk hf (by rw [hnl]; omega) hS.one
      simp only [Result.andThen,addr_add,hst] at hrun
      obtain ⟨s1,s2,iW,s3,s4,s5,s6⟩:=nN bb news w arr e (lo,hi) (q+n * kk.size) hbk (by rw [hnl]; omega)
      refine ⟨_,bb,q,c,iW,lo,hi,hrun,kX bb news w _,by omega,hr,e2',s3,by rw [s4]; exact hf,by rw [s4]; exact hs,fun i hi'=>?_,fun b' _ h=>s1 b' h, .inl ⟨rfl,rfl,hp0.mem_iff.2 (by simp),by unfold lH; rw [hbk],arr,iW,e,(lo,hi),hbk,s3,s4,fun i hi'=>?_⟩⟩
      · unfold cellAt
        rw [s3]
        exact s5 i hi'
      · exact s6 i (by rw [hnl]; exact hi')
  · obtain ⟨olds,ho1,ho2,ho3⟩:∃olds:List Value,olds.length=n * kk.size∧(Builtin.firstCells kk.size n (.slice b n c)).run P w.drew=.ok olds.toArray w.drew∧(0<n→∃b0 o0,b=some ⟨b0,o0,none⟩∧b0∈qC∧∀i,i<n * kk.size→olds[i]?=cellAt (hp w) b0 (o0+i)):=by
      rcases hO with ⟨hc0,hf0⟩ | ⟨bb,q,arr,lo,hi,ea,hbk,hf,hs,pW,hl0,hp0,hO⟩
      · have hn0:n=0:=by omega
        subst hn0
        refine ⟨[],by simp, ?_,fun h=>by omega⟩
        cases b with
        | none=>exact run_firstCells_none w.drew kk.size 0 0 c
        | some ad=>exact run_firstCells_some (P:=P) w.drew kk.size 0 ad 0 c [] (by simp) (fun j v hj=>by simp at hj)
      · subst ea
        have hle:n * kk.size≤c * kk.size:=abX _ e3
        have hrow:=wS (n:=n * kk.size) hbk (by omega:q+n * kk.size≤arr.size)
        have hrl:(kW (hp w) bb q (n * kk.size)).length=n * kk.size:=by simp [kW]
        refine ⟨kW (hp w) bb q (n * kk.size),hrl, ?_,fun _=>⟨bb,q,rfl,hp0.mem_iff.2 (by simp),fun i hi'=>(hrow i (by rw [hrl]; exact hi')).symm⟩⟩
        refine run_firstCells_some (P:=P) w.drew kk.size n ⟨bb,q,none⟩ n c _ hrl (fun j v hj=>?_)
        rw [addr_add,qg]
        have:=hrow j (by rw [hrl]; have:=(List.getElem?_eq_some_iff.1 hj).1; rw [hrl] at this; exact this)
        rw [hj] at this
        exact this
    obtain ⟨nc,hnc,hrun⟩:=uh (ty:=ty) ht hS ho2 hr (by rw [e2']; exact hb)
    have hnew:=mo w.drew (.cells (olds.toArray++news.toArray++Builtin.zeroCells (mJ kk).cells (nc - (n+1))) e)
    have hold:∀b',b'<w.heap.size→hp (w.drew.alloc (.cells (olds.toArray++news.toArray++Builtin.zeroCells (mJ kk).cells (nc - (n+1))) e)) b'=hp w b':=fun b' h=>kJ w.drew _ h
    have hws:w.drew.heap.size=w.heap.size:=rfl
    rw [hws] at hnew
    have hsz2:(w.drew.alloc (.cells (olds.toArray++news.toArray++Builtin.zeroCells (mJ kk).cells (nc - (n+1))) e)).heap.size=w.heap.size+1:=Array.size_push ..
    have hzl:(mJ kk).cells.size=kk.size:=by
      rw [pQ ht.sl.2.1.shape]
      simpa using cz (q9 (h:=hp w) (own:=own) (ok:=ok) ht.sl.2.1.dV)
    have hcell:∀q,q<(olds++news).length→cellAt (hp (w.drew.alloc (.cells (olds.toArray++news.toArray++Builtin.zeroCells (mJ kk).cells (nc - (n+1))) e))) w.heap.size (0+q)=(olds++news)[q]?:=by
      intro q hq
      unfold cellAt
      rw [hnew]
      simp only [Nat.zero_add]
      rw [Array.getElem?_append_left (by simpa using hq)]
      simp
    refine ⟨_,w.heap.size,0,nc,_,0,0,hrun,⟨rfl,rfl,rfl⟩,by omega,hnc,e2',hnew,wQ.zero, ?_,fun i hi=>?_,fun b' h1 _=>hold b' h1, .inr ⟨rfl,by omega,fun hn=>?_⟩⟩
    · simp only [Array.size_append,List.size_toArray,size_zeroCells,hzl,ho1,hnl]
      have h9:n * kk.size+kk.size+(nc - (n+1)) * kk.size=(n+1+(nc - (n+1))) * kk.size:=by rw [Nat.add_mul,Nat.add_mul,Nat.one_mul]
      rw [h9]
      have:n+1+(nc - (n+1))=nc:=by omega
      rw [this]
      omega
    · rw [Nat.add_assoc,hcell _ (by rw [abA,ho1]; omega),List.getElem?_append_right (by omega),ho1]
      congr 1
      omega
    · obtain ⟨b0,o0,z1,z2,z3⟩:=ho3 hn
      refine ⟨b0,o0,z1,z2,fun i hi=>?_⟩
      rw [hcell _ (by rw [abA,ho1]; omega),List.getElem?_append_left (by rw [ho1]; exact hi)]
      exact z3 i hi
end
section
variable {P:Program} {T:gL} {cx:Cx} {σ:St} {α:dA} {F:List Nat} {a:Act} {w:World} {o:Oper} {d:Nat} {ws:List Wr} {r:Nat} {R:Root}
theorem IL {h h':Heap} {own:List TypeId} {ok ok':Nat→Prop} {e:TypeId} {kk:K} {xs:List (El kk)} {b1 o1 n c:Nat} {fo:List Nat} (hall:∀t∈(K.sl e kk).tys,aA t own=true) (hnd:fo.Nodup)
    (H:Ow h own ok (.sl e kk) xs [.slice (some ⟨b1,o1,none⟩) n c] fo) (hb1:b1∈fo) (hs:fJ h h' b1 (o1+n * kk.size) kk.size) (ho:∀b∈fo,b≠b1→h' b=h b):Ow h' own ok' (.sl e kk) xs [.slice (some ⟨b1,o1,none⟩) n c] fo:=by
  have he:aA e own=true:=hall e (by simp [K.tys])
  unfold Ow at H ⊢
  rw [if_pos he] at H ⊢
  obtain ⟨a,n',c',e1,e2,e3,H⟩:=H
  simp only [List.cons.injEq,Value.slice.injEq,and_true] at e1
  obtain ⟨rfl,rfl,rfl⟩:=e1
  have e2':n=xs.length:=e2
  refine ⟨_,n,c,rfl,e2,e3, ?_⟩
  rcases H with ⟨hc0,hf0⟩ | ⟨bb,q,arr,lo,hi,ea,hbk,hf,hsz,bE,hl,hp,H⟩
  · rw [hf0] at hb1; simp at hb1
  · simp only [abr,Addr.mk.injEq,and_true] at ea
    obtain ⟨rfl,rfl⟩:=ea
    obtain ⟨Xq,iW,te,fr,s1,s2,s3,s4⟩:=hs
    rw [hbk] at s1
    simp only [abr,Obj.cells.injEq] at s1
    obtain ⟨rfl,rfl,rfl⟩:=s1
    have qU:=hp.nodup hnd
    refine .inr ⟨b1,o1,iW,lo,hi,rfl,s2,by rw [s3]; exact hf,by rw [s3]; exact hsz,bE,hl,hp,fun i hi'=>?_⟩
    obtain ⟨ds,g1,g2⟩:=H i hi'
    have hds:=cz g2
    refine ⟨ds,fun j hj=>?_, ?_⟩
    · have:=g1 j hj
      unfold cellAt at this ⊢
      rw [hbk] at this
      rw [s2]
      simp only at this ⊢
      have hlt:(i+1) * kk.size≤n * kk.size:=abX _ (by have:i<xs.length:=hi'; omega)
      rw [Nat.add_mul,Nat.one_mul] at hlt
      rw [s4 _ (by omega)]
      exact this
    · refine jC (fP (fun t ht=>hall t (by simp [K.tys,ht]))) (aY (ok:=fun _=>False) (ok':=fun _=>False) (fun _ h=>h.elim) (fun _ h=>h) (fun b' hb'=>?_) (jC (fP (fun t ht=>hall t (by simp [K.tys,ht]))) g2))
      have hm:=mD hb'
      exact ho b' (hp.mem_iff.2 (abQ _ hm)) (fun e=>(abZ.1 qU).1 (e▸hm))
end
section
variable {P:Program} {T:gL} {cx:Cx} {σ:St} {α:dA} {F:List Nat} {a:Act} {w:World} {o:Oper} {d:Nat} {ws:List Wr} {r:Nat} {R:Root}
theorem Nj (hT:dO P T) (H:Rel cx σ α F a w) (hd:o.dst=some d) (hdn:d<cx.nt) {c:Call} (ho:o.op=.call c) (hcb:c.callee=.builtin .append) {u v:AV} {t:TypeId} {e1:TypeId} {k1:K} (hl:dJ cx σ α F w [u,v] (c.args.toList.map a.eval))
    (hat:c.argTypes[0]?=some t) (ht1:(c.argTypes[1]?).bind T.ty=some (.sl e1 k1)) (h:(P5 T d t u v fun ws=>(.ret ws:Prog (List Wr))).ends σ ws):lS P cx o a w (aj ws σ):=by
  obtain ⟨x,y,hxy,hu,hv0⟩:=Az hl
  obtain ⟨t2,NA,ht2⟩:=nU hT ht1
  unfold P5 at h
  split at h
  · rename_i e kk r p n0 rb gb hty
    have ht:=hT.ty t _ hty
    obtain ⟨B,Yz,hvB,h⟩:=bU h
    rcases ah h with ⟨hc,h5⟩ | ⟨_,h5⟩
    · clear h
      simp only [aby,Bool.not_eq_true',aO] at hc
      obtain ⟨⟨⟨⟨⟨c1,c2⟩,c3⟩,c4⟩,c5⟩,c6⟩:=hc
      have hne:r≠rb:=fun e=>by rw [e] at c3; simp at c3
      have KW:=iT c6
      cases hcB:bL B.k (.sl e kk) B.x with
      | none=>rw [hcB] at h5; exact h5.elim
      | some ys=>
        rw [hcB] at h5
        simp only at h5
        obtain ⟨R,hr,hv,h6⟩:=bU h5
        rcases ah h6 with ⟨hc2,h7⟩ | ⟨_,h7⟩
        · clear h5 h6
          simp only [aby] at hc2
          obtain ⟨⟨⟨q1,q2⟩,q3⟩,q4⟩:=hc2
          have hall:=iT q3
          cases hg:aI p R.k R.x with
          | none=>rw [hg] at h7; exact h7.elim
          | some dd=>
            rw [hg] at h7
            simp only at h7
            cases hck:bL dd.1 (.sl e kk) dd.2 with
            | none=>rw [hck] at h7; exact h7.elim
            | some xs=>
              rw [hck] at h7
              simp only at h7
              obtain ⟨ek,ey⟩:=bF hck
              obtain ⟨dk,dx⟩:=dd
              simp only at ek ey
              subst ek
              simp only at ey
              subst ey
              cases hz:dL p R.k R.x ⟨.sl e kk,xs⟩ with
              | none=>rw [hz] at h7; exact h7.elim
              | some z=>
                rw [hz] at h7
                simp only at h7
                obtain ⟨⟨hy1,hbd⟩,h8⟩:=h7
                obtain ⟨hfr,h9⟩:=eY h8
                rw [az h9]
                obtain ⟨hkB,hVB⟩:=hv0 B Yz (abw c1)
                obtain ⟨Y7,Z5⟩:=bF hcB
                obtain ⟨H1,T1,hH,hcl⟩:=kill H Yz hkB hvB
                have hSr:Same σ α (ak σ rb bN) (iE α rb) r:=fQ hne
                have hr1:=(hSr.live R).2 hr
                have htB:∀n,(rb,n)∉R.tags:=fun n hn=>by
                  have:=abH.1 q4 _ hn
                  simp at this
                have hv1:bg (ak σ rb bN) R:=⟨hv.1,by rw [jG htB]; exact hv.2⟩
                obtain ⟨eZ,hown,cs,wh,hn,wz⟩:=hu R hr.1 hv (abw q1) _ hg
                have hn1:bn (hp w) p R.k ((iE α rb).hdr r) (dY (iE α rb) R r)=some (cs,wh):=by rw [hSr.hdr,hSr.wh]; exact hn
                obtain ⟨fd,ok',eX,rest,kQ,jS,hn',hpf,hd1,aau,_,sH,hwf,hgo⟩:=H1.place hr1 hv1 (own':=R.own) hg eZ (fun t h=>h) hown
                rw [hn1] at hn'
                simp only [abr,abD] at hn'
                obtain ⟨rfl,rfl⟩:=hn'
                have K1:=H1.roots r R hr1
                have hnd:=K1.nd
                rw [bO,jO] at hnd
                have Lf:=hpf.nodup hnd.2
                have H6:∀b∈eX,b∈(iE α rb).fo r:=fun b hb=>hpf.mem_iff.2 (abx _ (abx _ hb))
                have K8:=(abz.1 (abz.1 Lf).1).1
                have xq:∀b∈eX,b<w.heap.size:=fun b hb=>(K1.mine b (by rw [bO,dX]; exact .inr (H6 b hb))).1
                have O3:∀b∈eX,b∉α.fo rb++F:=fun b hb=>H1.gQ r R hr1 b (by rw [bO,dX]; exact .inr (H6 b hb))
                have hhd:∃b n c,a.eval x=.slice b n c∧cs=[.slice b n c]:=by
                  have hO:=hd1
                  unfold Ow at hO
                  rw [if_pos (hall e (by simp [K.tys]))] at hO
                  obtain ⟨b,n,c,e1,_⟩:=hO
                  have hV1:=wz.1
                  rw [e1] at hV1
                  simp only [List.cons.injEq,and_true] at hV1
                  exact ⟨b,n,c,hV1.symm,e1⟩
                obtain ⟨b,n,cp,Z4,rfl⟩:=hhd
                have hlen1 : @List.length (El kk) ys=1:=hy1
                have hOB:Ow (hp w) B.own (gy cx (ak σ rb bN) (iE α rb) (α.fo rb++F) w B.tags) (.sl e kk) ys (α.hdr rb) (α.fo rb):=by
                  have h0:=hH.ow hcl
                  exact rC Y7 Z5 h0
                have XP:VC (.sl e kk) (a.eval y) (α.hdr rb):=Y7▸hVB
                obtain ⟨news,hS,bE,hfl,CK,Un,hE⟩:=Mc (P:=P) (u:=t2) (.inl ⟨_,ht2.sl.1⟩) ht.sl.2.1.dV XP (KW e (by simp [K.tys])) hOB hH.nd
                rw [hlen1] at hS
                have hnl:news.length=kk.size:=by simpa using hS.nl
                have Qt:0 < @List.length (El kk) ys:=by omega
                have hE0:=hE 0 Qt
                have hseg:jQ news kk.size 0=news:=by
                  unfold jQ
                  simp only [Nat.zero_mul,List.drop_zero]
                  exact List.take_of_length_le (by omega)
                rw [hseg] at hE0
                generalize hfe:bE.getD 0 []=fe at hE0
                have NF:∀b∈fe,b∈α.fo rb:=fun b hb=>Un b (mD (by rw [hfe]; exact hb))
                have O1:fe.Nodup:=by
                  have:bE=[fe]:=by
                    cases bE with
                    | nil=>simp [hlen1] at hfl
                    | cons f l=>cases l with
                      | nil=>simp at hfe; rw [hfe]
                      | cons _ _=>simp [hlen1] at hfl
                  rw [this] at CK
                  simpa using CK
                obtain ⟨w',b1,o1,c1',arr,lo,hi,hrun,hos,hsz,hnc,hnx,hblk1,Um,hsize,hcells,hoth,hcase⟩:=IU (P:=P) (u:=t2) (ty:=o.type) (x:=a.eval y) ht hd1 (hall e (by simp [K.tys])) hS hbd
                obtain ⟨F',hF1,hF2,Y8,hF4⟩:∃F':List Nat,(∀b∈F',b∈α.fo rb++F∨(w.heap.size≤b∧b<w'.heap.size))∧F'.Nodup∧(∀b∈α.fo rb++F,b∈F')∧(b1=w.heap.size→w.heap.size<w'.heap.size→b1∈F'):=by
                  by_cases hs:w.heap.size<w'.heap.size
                  · refine ⟨w.heap.size :: (α.fo rb++F),fun b hb=>?_,abZ.2 ⟨fun hm=>?_,H1.rZ⟩,fun b hb=>abQ _ hb,fun e _=>by rw [e]; exact abY⟩
                    · rcases abE.1 hb with h | h
                      · exact .inr ⟨by omega,by omega⟩
                      · exact .inl h
                    · have:=(H1.fl _ hm).1; omega
                  · exact ⟨α.fo rb++F,fun b hb=>.inl hb,H1.rZ,fun b hb=>hb,fun _ h=>absurd h hs⟩
                have Qq:∀b∈eX,b∉F':=fun b hb hm=>by
                  rcases hF1 b hm with h | h
                  · exact O3 b hb h
                  · have:=xq b hb; omega
                have Ll:∀b',b'<w.heap.size→b'∉eX→hp w' b'=hp w b':=fun b' hlt hno=>hoth b' hlt (fun e=>by
                  rcases hcase with ⟨_,_,h,_⟩ | ⟨h,_⟩
                  · exact hno (e▸h)
                  · omega)
                have hP:mR cx (ak σ rb bN) (iE α rb) (α.fo rb++F) w r R p ⟨.sl e kk,xs⟩ R.own [.slice b n cp] wh eX rest ⟨.sl e kk,xs⟩ z R.tags [e] (K.sl e kk).tys R.keep eX F' [.slice b n cp] w':=by
                  have hnt:=H1.cB r R hr1.1
                  refine ⟨hz,rfl,fun _ h=>h,hos,hsz,fun b' hlt hne'=>?_,fun b' o' e'=>?_,fun _=>rfl,rfl, .inl (by simp),⟨fun _ h=>h,hnt.1,hnt.2.2⟩,fun b' hb'=>.inl hb',K8,fun b' hb'=>(hF1 b' hb').imp id .inl,hF2,Qq, .inl rfl, .inl rfl,fun _ q c0 w0 hpq Ls hnq Rt=>?_,fun α' Tn hblk hval=>?_⟩
                  · refine .inr (.inl ?_)
                    by_cases e':b'=b1
                    · rcases hcase with ⟨_,_,h1,h2,_⟩ | ⟨h,_⟩
                      · exact ⟨e'▸h1,e,by simp,e'▸h2⟩
                      · omega
                    · exact absurd (hoth b' hlt e') hne'
                  · obtain ⟨m1,_,m2,⟨Xq,te,l0,h0,m3,_⟩,_⟩:=kV H1 hr1 hv1 hg eZ hown (by rw [hn1,e'])
                    have hlt:=(K1.mine b' m2).1
                    have hs:=Ll b' hlt (hwf b' o' e')
                    exact ⟨m1.congr hs,fJ.of_same _ _ m3 hs⟩
                  · cases q with
                    | nil=>
                      simp only [bn,abr,abD] at hnq
                      exact ⟨trivial,[.slice b n cp],by simp only [bn]; rw [hnq.2]⟩
                    | cons s q=>
                      cases s with
                      | fu n=>exact hpq.elim
                      | idx i=>exact absurd (show e∈(K.sl e kk).tys by simp [K.tys]) (Ls e (by simp [aa])).2
                  · rcases hcase with ⟨hb,_,h1,h2,h3⟩ | ⟨hb,_⟩
                    · rw [hb] at hd1 ⊢
                      refine IL hall K8 hd1 h1 h3 (fun b' hb' hne'=>hoth b' (xq b' hb') hne')
                    · exact jC (fP hall) (aY (ok:=fun _=>False) (ok':=fun _=>False) (fun _ h=>h.elim) (fun _ h=>h) (fun b' hb'=>hoth b' (xq b' hb') (fun e=>by have:=xq b' hb'; omega)) (jC (fP hall) hd1))
                obtain ⟨vI,hR2,XO,hb2,QB,K9⟩:=hgo hP
                have NK:aS d 0≠r:=fun e=>by have:=hr.1; rw [←e,hfr] at this; simp at this
                have hqB:aS d 0≠rb:=fun e=>by have:=Yz.1; rw [←e,hfr] at this; simp at this
                have hq0:(ak (ak σ rb bN) r (bq R z R.own R.tags [e] (K.sl e kk).tys R.keep)).roots (aS d 0)=none:=by
                  rw [bS _ _ NK,bS _ _ hqB]; exact hfr
                obtain ⟨NL,Nv,X8,X9,Ya,Yb⟩:∃(NL:Value) (Nv:List Nat),(∀b'∈Nv,b'∈F')∧Nv.Nodup∧
                    Ow (hp w') (e :: kk.tys) (fun _=>False) (DF e kk) ((show List (El kk) from ys).getD 0 kk.zero,(([]:List Unit),())) (news++[NL]) Nv∧
                    ((b=some ⟨b1,o1,none⟩∧b1∈eX∧NL=.slice none 0 0∧cp=c1')∨(NL=.slice (some ⟨b1,o1,none⟩) 0 c1'∧b1∈Nv∧(0<n→∃b0 o0,b=some ⟨b0,o0,none⟩∧b0∈eX∧∀i,i<n * kk.size→cellAt (hp w') b1 (o1+i)=cellAt (hp w') b0 (o0+i)))):=by
                  have O0:∀b'∈fe,b'<w.heap.size:=fun b' hb'=>(H1.fl b' (abx _ (NF b' hb'))).1
                  have Uk:∀b'∈fe,b'∉eX:=fun b' hb' h=>O3 b' h (abx _ (NF b' hb'))
                  have hy0:(show List (El kk) from ys).getD 0 kk.zero=@getElem (List (El kk)) Nat (El kk) _ _ ys 0 Qt:=bR Qt
                  have Vt:Ow (hp w') (e :: kk.tys) (fun _=>False) kk ((show List (El kk) from ys).getD 0 kk.zero) news fe:=by
                    rw [hy0]
                    have h1:=jC (ok':=fun _=>False) (fP (fun t ht=>KW t (by simp [K.tys,ht]))) hE0
                    have h2:=aY (h':=hp w') (ok':=fun _=>False) (fun _ h=>h.elim) (fun _ h=>h) (fun b' hb'=>Ll b' (O0 b' hb') (Uk b' hb')) h1
                    exact lZ (fun t ht=>by rw [bu.2 (abQ _ ht),KW t (by simp [K.tys,ht])]) h2
                  rcases hcase with ⟨hb,hcc,h1,h2,h3⟩ | ⟨hb,hlt,hcp⟩
                  · refine ⟨.slice none 0 0,fe,fun b' hb'=>Y8 b' (abx _ (NF b' hb')),O1, ?_, .inl ⟨hb,h1,rfl,hcc⟩⟩
                    exact ⟨news,[.slice none 0 0],fe,[],rfl,by simp,Vt,[.slice none 0 0],[],[],[],rfl,by simp,tX,rfl,rfl⟩
                  · refine ⟨.slice (some ⟨b1,o1,none⟩) 0 c1',fe++[b1],fun b' hb'=>?_,abz.2 ⟨O1,by simp,fun b' h1 b2 h2 e=>by
                        simp only [abL] at h2
                        subst h2
                        have:=O0 b' h1
                        omega⟩, ?_, .inr ⟨rfl,by simp,fun hn0=>?_⟩⟩
                    · rcases abB.1 hb' with h | h
                      · exact Y8 b' (abx _ (NF b' h))
                      · simp only [abL] at h
                        rw [h]
                        exact hF4 hb hlt
                    · refine ⟨news,[.slice (some ⟨b1,o1,none⟩) 0 c1'],fe,[b1],rfl, .refl _,Vt,[.slice (some ⟨b1,o1,none⟩) 0 c1'],[],[b1],[],rfl,by simp, ?_,rfl,rfl⟩
                      have hOs:Ow (hp w') (e :: kk.tys) (fun _=>False) (.sl e (.gap kk.size)) (show List (El (.gap kk.size)) from []) [.slice (some ⟨b1,o1,none⟩) 0 c1'] [b1]:=by
                        unfold Ow
                        rw [if_pos (bu.2 abY)]
                        exact ⟨_,0,c1',rfl,rfl,ab0 _, .inr ⟨b1,o1,arr,lo,hi,rfl,hblk1,Um,hsize,[],rfl,by simp,fun i hi'=>absurd hi' (Nat.not_lt_zero _)⟩⟩
                      exact hOs
                    · obtain ⟨b0,o0,z1,z2,z3⟩:=hcp hn0
                      have hs0:hp w' b0=hp w b0:=hoth b0 (xq b0 z2) (fun e=>by have:=xq b0 z2; omega)
                      exact ⟨b0,o0,z1,z2,fun i hi'=>by rw [z3 i hi',oq hs0]⟩
                have hkq:(aD (DF e kk) ((show List (El kk) from ys).getD 0 kk.zero,(([]:List Unit),())) (e :: kk.tys) [] .anon).kind=.anon:=rfl
                obtain ⟨A1,A2⟩:=Dz (R':=aD (DF e kk) ((show List (El kk) from ys).getD 0 kk.zero,(([]:List Unit),())) (e :: kk.tys) [] .anon) hR2 hq0 (dZ d 0) rfl (by simp [aD]) (fun t ht=>by simp [aD] at ht) (0,0) (news++[NL]) Nv []
                  (fun b' hb'=>by rw [fO hkq] at hb'; exact ⟨X8 b' hb',by simp⟩) (by rw [fO hkq]; exact X9) (fun b' hb'=>by simp at hb') List.nodup_nil
                  (fun _=>aY (fun _ h=>h.elim) (fun _ h=>h.elim) (fun _ _=>rfl) Ya) (by simp [aD,K.size,hnl]) (fun b' o' hb'=>by rw [q8 hkq] at hb'; simp at hb')
                have Ia:(Builtin.append_ #[t,t2] o.type #[a.eval x,a.eval y]).run P w=.ok (.slice (some ⟨b1,o1,none⟩) (n+1) c1') w':=by rw [Z4]; exact hrun
                refine gq (x:=.one (.app r p (fF (e :: R.w)+fF ((K.sl e kk).tys++R.h)) (aS d 0))) A1 hd hdn (jH ho hcb hxy hat NA Ia) ?_ ?_
                · intro R2 Qg UN _ Q2 Qf _
                  rw [bS _ _ NK.symm,aF] at Qg
                  simp only [abr] at Qg
                  subst Qg
                  obtain ⟨rfl,_⟩:=dU Qf
                  have hv2:bg (ak (ak σ rb bN) r (bq R z R.own R.tags [e] (K.sl e kk).tys R.keep)) (bq R z R.own R.tags [e] (K.sl e kk).tys R.keep):=by
                    refine ⟨UN.1, ?_⟩
                    have h0:=UN.2
                    rw [jG] at h0
                    · exact h0
                    · intro m hm
                      have hm':(aS d 0,m)∈R.tags:=hm
                      rcases (H.cB r R hr.1).1 _ hm' with h | ⟨Q,h1,_⟩
                      · simp only [dZ] at h; simp at h
                      · simp only at h1; rw [hfr] at h1; simp at h1
                  have uI:=QB c5 hv2
                  have hd2:(aB vI (aS d 0) (0,0) (news++[NL]) Nv).hdr r=vI.hdr r:=upd_ne _ _ NK.symm
                  have hw2:dY (aB vI (aS d 0) (0,0) (news++[NL]) Nv) (bq R z R.own R.tags [e] (K.sl e kk).tys R.keep) r=dY vI (bq R z R.own R.tags [e] (K.sl e kk).tys R.keep) r:=by
                    unfold dY; simp [aB,upd_ne _ _ NK.symm]
                  have hf2:(aB vI (aS d 0) (0,0) (news++[NL]) Nv).fo r=vI.fo r:=upd_ne _ _ NK.symm
                  obtain ⟨g1,g2,g3,g4⟩:=BD (h:=hp w') p c4 hg hz rfl
                  refine ⟨e,kk,xs,wh,b,n,cp,news,NL,b1,o1,c1',arr,lo,hi,g1,g2,fun t ht=>?_,by rw [hd2,hw2]; exact uI,⟨rfl,rfl⟩,by simp [aB,upd_same],hnl,rfl,hnc,hblk1,Um,hsize,hcells, ?_⟩
                  · have ht':t∈aa p z.1:=ht
                    rw [g3] at ht'
                    simp at ht'
                  · rcases Yb with ⟨z1,z2,z3⟩ | ⟨z1,z2,z3⟩
                    · exact .inl ⟨z1,by rw [hf2]; exact K9 b1 z2,z3⟩
                    · refine .inr ⟨z1,by simp only [aB,upd_same]; exact z2,fun hn0=>?_⟩
                      obtain ⟨b0,o0,y1,y2,y3⟩:=z3 hn0
                      exact ⟨b0,o0,y1,by rw [hf2]; exact K9 b0 y2,y3⟩
                · refine ⟨⟨bq R z R.own R.tags [e] (K.sl e kk).tys R.keep, ?_, .inr (abI _)⟩,_,aF ..⟩
                  rw [bS _ _ NK.symm,aF]
        · exact h7.elim
    · exact h5.elim
  · exact h.elim
end
section
variable {P:Program} {T:gL} {cx:Cx} {σ:St} {α:dA} {F:List Nat} {a:Act} {w:World} {o:Oper} {d:Nat} {ws:List Wr} {r:Nat} {R:Root}
theorem Cv (hT:dO P T) (H:Rel cx σ α F a w) (hd:o.dst=none) {t:TypeId} {x y:Operand} (ho:o.op=.store t x y) {u:AV} {r n q:Nat} {p:List Stp} {k0:K} (hk0:T.ty t=some k0) (h1:bz cx σ α F w u (a.eval x)) (h2:l9 σ u) (h3:bz cx σ α F w (.app r p n q) (a.eval y))
    (h:(wW k0 u r p n q fun ws=>(.ret ws:Prog (List Wr))).ends σ ws):lS P cx o a w (aj ws σ):=by
  have ht:=hT.ty t k0 hk0
  cases k0 with
  | sl e kk=>
    cases u with
    | ptr r' p' h0=>
      simp only [wW] at h
      rcases ah h with ⟨hc,h5⟩ | ⟨_,h5⟩
      · clear h
        simp only [aby,Bool.not_eq_true'] at hc
        obtain ⟨⟨⟨c1,c2⟩,c3⟩,c4⟩:=hc
        have hne:r≠q:=fun e=>by rw [e] at c4; simp at c4
        have er:=abw c1
        have O4:p'.all Stp.lM=true:=JB c2 c3
        have ep:=Ew c2 (by rw [BI c3,BI O4])
        subst er ep
        obtain ⟨Q,Zp,NM,h6⟩:=bU h5
        rcases ah h6 with ⟨XW,h7⟩ | ⟨_,h7⟩
        · clear h5 h6
          simp only [aby] at XW
          have KX:=iT XW.2
          cases Ql:bL Q.k (DF e kk) Q.x with
          | none=>rw [Ql] at h7; exact h7.elim
          | some yq=>
            rw [Ql] at h7
            simp only at h7
            obtain ⟨R,hr,hv,h8⟩:=bU h7
            rcases ah h8 with ⟨hcR,h9⟩ | ⟨_,h9⟩
            · clear h7 h8
              simp only [aby] at hcR
              obtain ⟨⟨⟨⟨d1,d2⟩,d3⟩,d4⟩,d5⟩:=hcR
              have hall:=iT d4
              cases hg:aI p R.k R.x with
              | none=>rw [hg] at h9; exact h9.elim
              | some dd=>
                rw [hg] at h9
                simp only at h9
                cases hck:bL dd.1 (.sl e kk) dd.2 with
                | none=>rw [hck] at h9; exact h9.elim
                | some xs=>
                  rw [hck] at h9
                  simp only at h9
                  obtain ⟨ek,ey⟩:=bF hck
                  obtain ⟨dk,dx⟩:=dd
                  simp only at ek ey
                  subst ek
                  simp only at ey
                  subst ey
                  cases hz:dL p R.k R.x ⟨.sl e kk,(show List (El kk) from xs)++[(show El kk from yq.1)]⟩ with
                  | none=>rw [hz] at h9; exact h9.elim
                  | some z=>
                    rw [hz] at h9
                    rw [az h9]
                    obtain ⟨e',Vz,xs',wh,b,n',c,ce,hq,b1,o1,cc,arr,lo,hi,a1,a2,a3,a4,⟨a5,ZM⟩,a6,a7,a8,a9,Xn,Xo,a12,Xp,PZ⟩:=h3 R hr.1 hv (abw d1) Q Zp (abw XW.1)
                    rw [hg] at a1
                    simp only [abr,Sigma.mk.injEq,K.sl.injEq] at a1
                    obtain ⟨⟨rfl,rfl⟩,a1⟩:=a1
                    have a1:=eq_of_heq a1
                    subst a1
                    obtain ⟨H1,T1,hH,hcl⟩:=kill H Zp ZM NM
                    have hSr:Same σ α (ak σ q bN) (iE α q) r:=fQ hne
                    have hr1:=(hSr.live R).2 hr
                    have Ls:∀m,(q,m)∉R.tags:=fun m hm=>by
                      have:=abH.1 d5 _ hm
                      simp at this
                    have hv1:bg (ak σ q bN) R:=⟨hv.1,by rw [jG Ls]; exact hv.2⟩
                    obtain ⟨_,cs,bA,oA,hn2,eA⟩:=h1.2 R hr.1 hv d3 a3 (by rw [hg]; rfl)
                    rw [a4] at hn2
                    simp only [abr,abD] at hn2
                    obtain ⟨rfl,rfl⟩:=hn2
                    have hn1:bn (hp w) p R.k ((iE α q).hdr r) (dY (iE α q) R r)=some ([.slice b n' c],some (bA,oA)):=by rw [hSr.hdr,hSr.wh]; exact a4
                    obtain ⟨ZV,Z6⟩:=bF Ql
                    have hOQ:Ow (hp w) Q.own (gy cx (ak σ q bN) (iE α q) (α.fo q++F) w Q.tags) (DF e kk) yq (ce++[hq]) (α.fo q):=by
                      have h0:=rC ZV Z6 (hH.ow hcl)
                      rw [a6] at h0
                      exact h0
                    obtain ⟨c1',c2',f1,f2,ec,hpq,Jk,hO2⟩:=hOQ
                    have hlc:=cz Jk
                    have hcc:=List.append_inj ec (by rw [a7,hlc])
                    obtain ⟨rfl,rfl⟩:=hcc
                    obtain ⟨c3',ZO,f3,f4,Y6,Yw,hO3,hO4⟩:=hO2
                    have hpn:=hpq.nodup hH.nd
                    have UB:=abz.1 hpn
                    have Qo:∀b'∈f1,b'∈α.fo q:=fun b' hb'=>hpq.mem_iff.2 (abx _ hb')
                    have XK:Ow (hp w) R.own (fun _=>False) kk yq.1 ce f1:=lZ (fun t ht=>by rw [hall t (by simp [K.tys,ht]),KX t (abQ _ ht)]) (jC (fP (fun t ht=>KX t (abQ _ ht))) Jk)
                    have Ua:b1∉f1∨b1∈α.fo r:=by
                      rcases PZ with ⟨_,z2,_⟩ | ⟨z1,z2,_⟩
                      · exact .inr z2
                      · refine .inl fun hm=>?_
                        have hlen3:=cz hO3
                        have hc3:c3'=[hq]∧ZO=[]:=by
                          cases c3' with
                          | nil=>simp [K.size] at hlen3
                          | cons a l=>
                            simp only [List.cons_append,List.cons.injEq] at Y6
                            obtain ⟨rfl,h⟩:=Y6
                            have:=List.append_eq_nil_iff.1 h.symm
                            rw [this.1,this.2]
                            exact ⟨rfl,rfl⟩
                        rw [hc3.1,z1] at hO3
                        unfold Ow at hO3
                        rw [if_pos (KX e abY)] at hO3
                        obtain ⟨a',m',cm,g1,_,_,g4⟩:=hO3
                        simp only [List.cons.injEq,Value.slice.injEq,and_true] at g1
                        obtain ⟨rfl,rfl,rfl⟩:=g1
                        rcases g4 with ⟨g4,_⟩ | ⟨bb,q',_,_,_,g5,_,_,_,bE,_,g6,_⟩
                        · omega
                        · simp only [abr,Addr.mk.injEq,and_true] at g5
                          obtain ⟨rfl,rfl⟩:=g5
                          exact UB.2.2 b1 hm b1 (Yw.mem_iff.2 (abx _ (g6.mem_iff.2 abY))) rfl
                    have K6:∀b'∈(iE α q).fo r,b'∉α.fo q++F:=fun b' hb'=>H1.gQ r R hr1 b' (by rw [bO,dX]; exact .inr hb')
                    obtain ⟨w',r1,α',F',r2⟩:=ES (P:=P) ht H1 hr1 hv1 hg hz a2 a3 hall hn1 (v:=.slice (some ⟨b1,o1,none⟩) (n'+1) cc) ⟨_,_,_,rfl⟩ (lw:=[dS R p,e]) (by simp) (fun eX ok hO hnd hsub=>by
                      have he:aA e R.own=true:=hall e (by simp [K.tys])
                      unfold Ow at hO
                      rw [if_pos he] at hO
                      obtain ⟨a0,n2,c2,e1,e2,e3,hO⟩:=hO
                      simp only [List.cons.injEq,Value.slice.injEq,and_true] at e1
                      obtain ⟨rfl,rfl,rfl⟩:=e1
                      have e2:n'=@List.length (El kk) xs:=e2
                      obtain ⟨bE,hfl,hfs,hfn,hfe⟩:∃bE:List (List Nat),bE.length=@List.length (El kk) xs∧(∀b'∈bE.flatten,b'∈eX∧b'≠b1)∧bE.flatten.Nodup∧∀(i:Nat) (hi:i < @List.length (El kk) xs),∃ds,Cells (hp w) b1 (o1+i * kk.size) ds∧Ow (hp w) R.own ok kk (@getElem (List (El kk)) Nat (El kk) _ _ xs i hi) ds (bE.getD i []):=by
                        rcases hO with ⟨hc0,hf0⟩ | ⟨bb,q',iW,lo',hi',ea,hbk,hfz,hs,bE,hl,hp0,hO⟩
                        · have hx0 : @List.length (El kk) xs=0:=by omega
                          exact ⟨[],by simp [hx0],by simp,by simp,fun i hi=>by omega⟩
                        · have qU:=hp0.nodup hnd
                          have aat:bb∈(iE α q).fo r:=hsub bb (hp0.mem_iff.2 abY)
                          refine ⟨bE,hl,fun b' hb'=>⟨hp0.mem_iff.2 (abQ _ hb'),fun eb=>?_⟩,(abZ.1 qU).2,fun i hi=>?_⟩
                          · subst eb
                            rcases PZ with ⟨z1,_,_⟩ | ⟨_,z2,_⟩
                            · rw [z1] at ea
                              simp only [abr,Addr.mk.injEq,and_true] at ea
                              rw [ea.1] at hb'
                              exact (abZ.1 qU).1 hb'
                            · exact K6 b' (hsub b' (hp0.mem_iff.2 (abQ _ hb'))) (abx _ z2)
                          · obtain ⟨ds,g1,g2⟩:=hO i hi
                            refine ⟨ds, ?_,g2⟩
                            rcases PZ with ⟨z1,_,_⟩ | ⟨_,_,z3⟩
                            · rw [z1] at ea
                              simp only [abr,Addr.mk.injEq,and_true] at ea
                              rw [ea.1,ea.2]
                              exact g1
                            · obtain ⟨b0,o0,y1,_,y3⟩:=z3 (by omega)
                              rw [y1] at ea
                              simp only [abr,Addr.mk.injEq,and_true] at ea
                              obtain ⟨rfl,rfl⟩:=ea
                              have hdl:=cz g2
                              intro j hj
                              rw [←g1 j hj,Nat.add_assoc,y3 (i * kk.size+j) (by
                                have hb2:(i+1) * kk.size≤n' * kk.size:=abX _ (by omega)
                                rw [Nat.add_mul,Nat.one_mul] at hb2
                                omega), ←Nat.add_assoc]
                      have Ub:b1∉f1:=by
                        rcases Ua with h | h
                        · exact h
                        · intro hm
                          exact K6 b1 (by rw [hSr.fo]; exact h) (abx _ (Qo b1 hm))
                      refine ⟨b1 :: (bE.flatten++f1),abZ.2 ⟨fun hm=>?_,abz.2 ⟨hfn,UB.1,fun b' h1' b2 h2' eb=>?_⟩⟩,fun b' hb'=>?_, ?_⟩
                      · rcases abB.1 hm with h | h
                        · exact (hfs b1 h).2 rfl
                        · exact Ub h
                      · subst eb
                        exact K6 b' (hsub b' (hfs b' h1').1) (abx _ (Qo b' h2'))
                      · rcases abE.1 hb' with h | h
                        · subst h
                          rcases PZ with ⟨z1,_,_,z4⟩ | ⟨_,z2,_⟩
                          · refine .inl ?_
                            rcases hO with ⟨hc0,_⟩ | ⟨bb,q',_,_,_,ea,_,_,_,_,_,hp0,_⟩
                            · omega
                            · rw [z1] at ea
                              simp only [abr,Addr.mk.injEq,and_true] at ea
                              rw [ea.1]
                              exact hp0.mem_iff.2 abY
                          · exact .inr (abx _ z2)
                        · rcases abB.1 h with h | h
                          · exact .inl (hfs b' h).1
                          · exact .inr (abx _ (Qo b' h))
                      · have XL:Ow (hp w) R.own (fun _=>False) (.sl e kk) (show List (El kk) from (show List (El kk) from xs)++[(show El kk from yq.1)]) [.slice (some ⟨b1,o1,none⟩) (n'+1) cc] (b1 :: (bE.flatten++f1)):=by
                          unfold Ow
                          rw [if_pos he]
                          have hlen:(@HAppend.hAppend (List (El kk)) (List (El kk)) (List (El kk)) _ xs [yq.1]).length=n'+1:=by rw [abA,e2]; rfl
                          refine ⟨_,n'+1,cc,rfl,hlen.symm,a9, .inr ⟨b1,o1,arr,lo,hi,rfl,Xn,Xo,a12,bE++[f1],by show (bE++[f1]).length=_; rw [abA,hfl,hlen,e2]; rfl,by simp,fun i hi'=>?_⟩⟩
                          have hi2:i<(@HAppend.hAppend (List (El kk)) (List (El kk)) (List (El kk)) _ xs [yq.1]).length:=hi'
                          rw [hlen] at hi2
                          rw [vY]
                          by_cases hi0:i < @List.length (El kk) xs
                          · obtain ⟨ds,g1,g2⟩:=hfe i hi0
                            rw [if_pos (by rw [hfl]; exact hi0)]
                            have hx:(show List (El kk) from (show List (El kk) from xs)++[(show El kk from yq.1)])[i]'hi'=@getElem (List (El kk)) Nat (El kk) _ _ xs i hi0:=List.getElem_append_left hi0
                            rw [hx]
                            exact ⟨ds,g1,jC (fP (fun t ht=>hall t (by simp [K.tys,ht]))) g2⟩
                          · have hin:i=n':=by omega
                            rw [if_neg (by rw [hfl]; exact hi0)]
                            have hx:(show List (El kk) from (show List (El kk) from xs)++[(show El kk from yq.1)])[i]'hi'=yq.1:=by
                              have:=@List.getElem_append_right (El kk) xs [yq.1] i (by omega) hi'
                              refine this.trans ?_
                              simp
                            rw [hx]
                            have UI:i - bE.length=0:=by omega
                            rw [UI]
                            exact ⟨ce,by rw [hin]; exact Xp,XK⟩
                        exact XL)
                    refine ⟨undef,w',α',F', .inr ⟨?_,rfl⟩, ?_⟩
                    · simp only [execOp,ho,eA,a8,abR,r1,abK,abW]
                    · rw [hd]
                      exact r2
            · exact h9.elim
        · exact h7.elim
      · exact h5.elim
    | _=>exact h.elim
  | _=>exact h.elim
theorem D6 (hT:dO P T) (H:Rel cx σ α F a w) (hd:o.dst=some d) (hdn:d<cx.nt) (h:(Df T o d fun ws=>(.ret ws:Prog (List Wr))).ends σ ws):lS P cx o a w (aj ws σ):=by
  unfold Df at h
  split at h
  · rename_i t ps ho
    obtain ⟨us,h1,h2⟩:=wY h
    rw [az h2]
    exact AZ hT H hd hdn h1 ho
  · rename_i c ho
    split at h
    · rename_i hcb
      obtain ⟨vs,h1,h2,h⟩:=gY H h
      split at h
      · split at h
        · rename_i hat ht1
          exact Nj hT H hd hdn ho hcb h1 hat ht1 h
        · exact h.elim
      · exact h.elim
    · exact h.elim
  · rename_i t x ho
    exact DZ hT H hd hdn ho h
  · exact h.elim
theorem FZ (hT:dO P T) (H:Rel cx σ α F a w) (hd:o.dst=none) {t:TypeId} {x y:Operand} (ho:o.op=.store t x y)
    (h:(dz x fun u=>dz y fun v=>GN T t u v fun ws=>(.ret ws:Prog (List Wr))).ends σ ws):lS P cx o a w (aj ws σ):=by
  obtain ⟨u,h1,h2,h⟩:=bI H h
  obtain ⟨v,h3,h4,h⟩:=bI H h
  unfold GN at h
  split at h
  · split at h
    · rename_i hk0
      exact Cw hT H hd ho hk0 h1 h2 h3 h
    · exact h.elim
  · split at h
    · rename_i hk0
      exact Cv hT H hd ho hk0 h1 h2 h3 h
    · exact h.elim
  · exact F3 hT H hd ho h1 h2 h3 h4 h
end
end
end Go.Proofs.Ytabnmpabdhmkoaa.Ow
