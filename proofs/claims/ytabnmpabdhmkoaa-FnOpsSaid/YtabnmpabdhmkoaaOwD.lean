/- A verified reading of translated code: values in place of memory; part D of 6, spaces and remarks taken out. No condition. Own work of this seat. -/
import Derived.Test.YtabnmpabdhmkoaaOwC
set_option linter.unusedSectionVars false
set_option linter.unusedVariables false
set_option linter.unusedSimpArgs false
namespace Go.Proofs.Ytabnmpabdhmkoaa.Ow
section
open Go
variable [Fr]
def kN (news:List Value) (s i:Nat):List Value:=(news.drop (i * s)).take s
theorem oM {news:List Value} {s i m:Nat} (h:news.length=m * s) (hi:i<m):(kN news s i).length=s:=by
 unfold kN
 have:(i+1) * s≤m * s:=agJ _ hi
 rw [Nat.add_mul,Nat.one_mul] at this
 simp
 omega
theorem jW {news:List Value} {s i j:Nat} (hj:j<s):(kN news s i)[j]?=news[i * s+j]?:=by
 unfold kN
 rw [List.getElem?_take,if_pos hj,List.getElem?_drop]
theorem xZ {bC vF:List (List Nat)} {i:Nat}:(bC++vF).getD i []=if i<bC.length then bC.getD i [] else vF.getD (i - bC.length) []:=by
 simp only [agq,List.getElem?_append]
 split <;> rfl
section
variable {P:Program} {T:iF} {w:World}
theorem DJ {t u ty e:TypeId} {kk:K} (ht:fE P T t (.sl e kk)) {own:List TypeId} {ok:Nat→Prop} {tJ uT:List (El kk)} {v0 x:Value} {sV:List Nat} {bC:List (List Nat)} {news:List Value}
  (hO:Ow (hp w) own ok (.sl e kk) tJ [v0] sV) (hown:au e own=true) (hnd:(sV++bC.flatten).Nodup) (hok:∀b,ok b→b∉sV∧b<w.heap.size) (hlt:∀b∈sV++bC.flatten,b<w.heap.size)
  (hS:Src P w kk.size u x uT.length news) (hfl:bC.length=uT.length) (hel:∀i (hi:i<uT.length),Ow (hp w) own ok kk uT[i] (kN news kk.size i) (bC.getD i []))
  (hb:(tJ.length+uT.length) * T.bytes e≤140737488355328) :
  ∃v' w' dG,(Builtin.append_ #[t,u] ty #[v0,x]).run P w=.ok v' w'∧(w'.os=w.os∧w'.tape=w.tape∧w'.output=w.output)∧w.heap.size≤w'.heap.size∧
   (∀b,b<w.heap.size→hp w' b≠hp w b→b∈sV∧nH (hp w) b=some e)∧(∀b∈dG,b∈sV∨b∈bC.flatten∨(w.heap.size≤b∧b<w'.heap.size))∧dG.Nodup∧
   Ow (hp w') own ok (.sl e kk) (tJ++uT) [v'] dG:=by
 have hsz:0<kk.size:=ht.sl.2.2.1
 have hnl:=hS.nl
 unfold Ow at hO
 rw [if_pos hown] at hO
 obtain ⟨a,n,c,e1,e2,e3,hO⟩:=hO
 simp only [List.cons.injEq,and_true] at e1
 subst e1
 have e2':n=tJ.length:=e2
 have hnd':=agj.1 hnd
 by_cases hr:n+uT.length≤c
 ·have hrun:=tF (ty:=ty) ht hS (b:=a) (n:=n) hr
  rcases hO with ⟨hc0,hf0⟩ | ⟨b,o,arr,lo,hi,ea,hbk,hf,hs,rX,hl0,hp0,hO⟩
  ·have hx1:uT=[]:=List.eq_nil_of_length_eq_zero (by omega)
   have hx0:tJ=[]:=List.eq_nil_of_length_eq_zero (by omega)
   subst hx1
   subst hx0
   have hnews:news=[]:=List.eq_nil_of_length_eq_zero (by simpa using hnl)
   subst hnews
   have hn0:n=0:=by simpa using e2'
   subst hn0
   subst hc0
   have:(Builtin.append_ #[t,u] ty #[.slice a 0 0,x]).run P w=.ok (.slice a 0 0) w:=by
    rw [hrun]
    cases a <;> rfl
   exact ⟨_,w,[],this,⟨rfl,rfl,rfl⟩,agt _,fun b _ h=>absurd rfl h,fun b hb=>by simp at hb,List.nodup_nil,vO⟩
  ·subst ea
   have hle:(n+uT.length) * kk.size≤c * kk.size:=agJ _ hr
   rw [Nat.add_mul] at hle
   have hst:=kE (P:=P) (o:=o+n * kk.size) news hbk hf (by rw [hnl]; omega) hS.one
   simp only [Result.andThen,addr_add,hst] at hrun
   obtain ⟨s1,s2,jH,s3,s4,s5,s6⟩:=qo b news w arr e (lo,hi) (o+n * kk.size) hbk (by rw [hnl]; omega)
   have s7:=mZ b news w (o+n * kk.size)
   have hb0:b∈sV:=hp0.mem_iff.2 (by simp)
   have oQ:=hp0.nodup hnd'.1
   have hne:∀b'∈rX.flatten++bC.flatten,b'≠b:=by
    intro b' hb' e
    subst e
    rcases agl.1 hb' with h | h
    ·exact (agL.1 oQ).1 h
    ·exact hnd'.2.2 b' hb0 b' h rfl
   have X7:∀b',ok b'→hp (w.setCells b (o+n * kk.size) news) b'=hp w b':=fun b' h=>s1 b' (fun e=>(hok b' h).1 (e▸hb0))
   refine ⟨_,_,b :: (rX.flatten++bC.flatten),hrun,s7,by omega, ?_, ?_, ?_, ?_⟩
   ·intro b' _ hne'
    by_cases e:b'=b
    ·subst e; exact ⟨hb0,by unfold nH; rw [hbk]⟩
    ·exact absurd (s1 b' e) hne'
   ·intro b' hb'
    rcases agp.1 hb' with h | h
    ·subst h; exact .inl hb0
    ·rcases agl.1 h with h | h
     ·exact .inl (hp0.mem_iff.2 (by simp [h]))
     ·exact .inr (.inl h)
   ·refine agL.2 ⟨fun h=>hne b h rfl,agj.2 ⟨(agL.1 oQ).2,hnd'.2.1,fun b1 h1 b2 h2 e=>hnd'.2.2 b1 (hp0.mem_iff.2 (by simp [h1])) b2 h2 e⟩⟩
   ·unfold Ow
    rw [if_pos hown]
    refine ⟨_,_,_,rfl,by simp [e2'],hr, .inr ⟨b,o,jH,lo,hi,rfl,s3,by rw [s4]; exact hf,by rw [s4]; exact hs,rX++bC,by simp [hl0,hfl],by simp,fun i hi=>?_⟩⟩
    have hi':i<tJ.length+uT.length:=by simpa using hi
    rw [xZ]
    by_cases hi0:i<tJ.length
    ·obtain ⟨ds,h1,h2⟩:=hO i hi0
     have acE:i<rX.length:=by rw [hl0]; exact hi0
     rw [if_pos acE]
     have hx:(tJ++uT)[i]'hi=tJ[i]:=List.getElem_append_left hi0
     refine ⟨ds,fun j hj=>?_, ?_⟩
     ·have hdl:=dh h2
      have hlt2:(i+1) * kk.size≤n * kk.size:=agJ _ (by omega)
      rw [Nat.add_mul,Nat.one_mul] at hlt2
      have:=h1 j hj
      unfold cellAt at this ⊢
      rw [hbk] at this
      rw [s3]
      simp only at this ⊢
      rw [s6 _ (by rw [hnl]; omega)]
      exact this
     ·show Ow _ own ok kk ((tJ++uT)[i]'hi) ds _
      rw [hx]
      exact bz X7 (fun _ h=>h) (fun b' hb'=>s1 b' (hne b' (agh _ (oK hb')))) h2
    ·have hi1:i - tJ.length<uT.length:=by omega
     rw [if_neg (by rw [hl0]; exact hi0)]
     have hx:(tJ++uT)[i]'hi=uT[i - tJ.length]:=List.getElem_append_right (by omega)
     have hfe:i - rX.length=i - tJ.length:=by rw [hl0]
     rw [hfe]
     refine ⟨kN news kk.size (i - tJ.length),fun j hj=>?_, ?_⟩
     ·rw [oM hnl hi1] at hj
      unfold cellAt
      rw [s3,jW hj]
      simp only
      have e4:o+i * kk.size+j=o+n * kk.size+((i - tJ.length) * kk.size+j):=by
       have:i * kk.size=n * kk.size+(i - tJ.length) * kk.size:=by rw [←Nat.add_mul]; congr 1; omega
       omega
      rw [e4]
      refine s5 _ ?_
      rw [hnl]
      have:(i - tJ.length+1) * kk.size≤uT.length * kk.size:=agJ _ hi1
      rw [Nat.add_mul,Nat.one_mul] at this
      omega
     ·show Ow _ own ok kk ((tJ++uT)[i]'hi) _ _
      rw [hx]
      exact bz X7 (fun _ h=>h) (fun b' hb'=>s1 b' (hne b' (agd _ (oK hb')))) (hel _ hi1)
 ·
  obtain ⟨olds,ho1,ho2,rX,hl0,hf0,Zc⟩:∃olds,olds.length=n * kk.size∧(Builtin.firstCells kk.size n (.slice a n c)).run P w.drew=.ok olds.toArray w.drew∧∃rX:List (List Nat),rX.length=tJ.length∧((∀b∈rX.flatten,b∈sV)∧rX.flatten.Nodup)∧
    ∀i (hi:i<tJ.length),Ow (hp w) own ok kk tJ[i] (kN olds kk.size i) (rX.getD i []):=by
   rcases hO with ⟨hc0,hf0⟩ | ⟨b,o,arr,lo,hi,ea,hbk,hf,hs,rX,hl0,hp0,hO⟩
   ·have hx0:tJ=[]:=List.eq_nil_of_length_eq_zero (by omega)
    subst hx0
    have hn0:n=0:=by simpa using e2'
    subst hn0
    refine ⟨[],by simp, ?_,[],rfl,⟨by simp,by simp⟩,fun i hi=>by simp at hi⟩
    cases a with
    | none=>exact run_firstCells_none w.drew kk.size 0 0 c
    | some ad=>exact run_firstCells_some (P:=P) w.drew kk.size 0 ad 0 c [] (by simp) (fun j v hj=>by simp at hj)
   ·subst ea
    have hle:n * kk.size≤c * kk.size:=agJ _ e3
    have hrow:=yK (n:=n * kk.size) hbk (by omega:o+n * kk.size≤arr.size)
    have hrl:(mY (hp w) b o (n * kk.size)).length=n * kk.size:=by simp [mY]
    have oQ:=hp0.nodup hnd'.1
    refine ⟨mY (hp w) b o (n * kk.size),hrl, ?_,rX,hl0,⟨fun b' hb'=>hp0.mem_iff.2 (by simp [hb']),(agL.1 oQ).2⟩,fun i hi=>?_⟩
    ·refine run_firstCells_some (P:=P) w.drew kk.size n ⟨b,o,none⟩ n c _ hrl (fun j v hj=>?_)
     rw [addr_add,uD]
     have:=hrow j (by rw [hrl]; have:=(List.getElem?_eq_some_iff.1 hj).1; rw [hrl] at this; exact this)
     rw [hj] at this
     exact this
    ·obtain ⟨ds,h1,h2⟩:=hO i hi
     have hdl:=dh h2
     have:kN (mY (hp w) b o (n * kk.size)) kk.size i=ds:=by
      apply List.ext_getElem?
      intro j
      by_cases hj:j<kk.size
      ·rw [jW hj]
       have hlt2:(i+1) * kk.size≤n * kk.size:=agJ _ (by omega)
       rw [Nat.add_mul,Nat.one_mul] at hlt2
       rw [←hrow _ (by rw [hrl]; omega), ←Nat.add_assoc]
       exact h1 j (by omega)
      ·rw [List.getElem?_eq_none (by rw [oM hrl (by omega)]; omega),List.getElem?_eq_none (by omega)]
     rw [this]
     exact h2
  obtain ⟨nc,hnc,hrun⟩:=vS (ty:=ty) ht hS ho2 hr (by rw [e2']; exact hb)
  have hnew:=oG w.drew (.cells (olds.toArray++news.toArray++Builtin.zeroCells (oU kk).cells (nc - (n+uT.length))) e)
  have hold:∀b',b'<w.heap.size→hp (w.drew.alloc (.cells (olds.toArray++news.toArray++Builtin.zeroCells (oU kk).cells (nc - (n+uT.length))) e)) b'=hp w b':=fun b' h=>mF w.drew _ h
  have hws:w.drew.heap.size=w.heap.size:=rfl
  rw [hws] at hnew
  have hsz2:(w.drew.alloc (.cells (olds.toArray++news.toArray++Builtin.zeroCells (oU kk).cells (nc - (n+uT.length))) e)).heap.size=w.heap.size+1:=Array.size_push ..
  have hzl:(oU kk).cells.size=kk.size:=by
   rw [rU ht.sl.2.1.shape]
   simpa using dh (uh (h:=hp w) (own:=own) (ok:=ok) ht.sl.2.1.eO)
  have hall:∀b'∈rX.flatten++bC.flatten,b'<w.heap.size:=by
   intro b' hb'
   rcases agl.1 hb' with h | h
   ·exact hlt b' (agh _ (hf0.1 b' h))
   ·exact hlt b' (agd _ h)
  refine ⟨_,_,w.heap.size :: (rX.flatten++bC.flatten),hrun,⟨rfl,rfl,rfl⟩,by omega,fun b' hb' hne=>absurd (hold b' hb') hne, ?_, ?_, ?_⟩
  ·intro b' hb'
   rcases agp.1 hb' with h | h
   ·subst h; exact .inr (.inr ⟨agt _,by omega⟩)
   ·rcases agl.1 h with h | h
    ·exact .inl (hf0.1 b' h)
    ·exact .inr (.inl h)
  ·refine agL.2 ⟨fun h=>by have:=hall _ h; omega,agj.2 ⟨hf0.2,hnd'.2.1,fun b1 h1 b2 h2 e=>hnd'.2.2 b1 (hf0.1 b1 h1) b2 h2 e⟩⟩
  ·unfold Ow
   rw [if_pos hown]
   refine ⟨_,_,_,rfl,by simp [e2'],hnc, .inr ⟨w.heap.size,0,_,0,0,rfl,hnew,yJ.zero, ?_,rX++bC,by simp [hl0,hfl],by simp,fun i hi=>?_⟩⟩
   ·simp only [Array.size_append,List.size_toArray,size_zeroCells,hzl,ho1,hnl, ←Nat.add_mul]
    have:n+uT.length+(nc - (n+uT.length))=nc:=by omega
    rw [this]
    omega
   have hi':i<tJ.length+uT.length:=by simpa using hi
   rw [xZ]
   have hcell:∀q,q<(olds++news).length→cellAt (hp (w.drew.alloc (.cells (olds.toArray++news.toArray++Builtin.zeroCells (oU kk).cells (nc - (n+uT.length))) e))) w.heap.size (0+q)=(olds++news)[q]?:=by
    intro q hq
    unfold cellAt
    rw [hnew]
    simp only [Nat.zero_add]
    rw [Array.getElem?_append_left (by simpa using hq)]
    simp
   by_cases hi0:i<tJ.length
   ·rw [if_pos (by rw [hl0]; exact hi0)]
    have hx:(tJ++uT)[i]'hi=tJ[i]:=List.getElem_append_left hi0
    refine ⟨kN olds kk.size i,fun j hj=>?_, ?_⟩
    ·rw [oM ho1 (by omega)] at hj
     have hlt2:(i+1) * kk.size≤n * kk.size:=agJ _ (by omega)
     rw [Nat.add_mul,Nat.one_mul] at hlt2
     rw [Nat.add_assoc,hcell _ (by rw [agk,ho1]; omega),List.getElem?_append_left (by rw [ho1]; omega),jW hj]
    ·show Ow _ own ok kk ((tJ++uT)[i]'hi) _ _
     rw [hx]
     exact bz (fun b' h=>hold b' (hok b' h).2) (fun _ h=>h) (fun b' hb'=>hold b' (hall b' (agh _ (oK hb')))) (Zc i hi0)
   ·have hi1:i - tJ.length<uT.length:=by omega
    rw [if_neg (by rw [hl0]; exact hi0)]
    have hx:(tJ++uT)[i]'hi=uT[i - tJ.length]:=List.getElem_append_right (by omega)
    have hfe:i - rX.length=i - tJ.length:=by rw [hl0]
    rw [hfe]
    refine ⟨kN news kk.size (i - tJ.length),fun j hj=>?_, ?_⟩
    ·rw [oM hnl hi1] at hj
     have hlt2:(i - tJ.length+1) * kk.size≤uT.length * kk.size:=agJ _ hi1
     rw [Nat.add_mul,Nat.one_mul] at hlt2
     have e4:i * kk.size=n * kk.size+(i - tJ.length) * kk.size:=by rw [←Nat.add_mul]; congr 1; omega
     rw [Nat.add_assoc,hcell _ (by rw [agk,ho1,hnl]; omega),List.getElem?_append_right (by rw [ho1]; omega),jW hj]
     congr 1
     rw [ho1]
     omega
    ·show Ow _ own ok kk ((tJ++uT)[i]'hi) _ _
     rw [hx]
     exact bz (fun b' h=>hold b' (hok b' h).2) (fun _ h=>h) (fun b' hb'=>hold b' (hall b' (agd _ (oK hb')))) (hel _ hi1)
end
end
section
open Go
variable [Fr]
section
variable {P:Program} {T:iF} {cx:Cx} {σ:St} {α:dK} {F:List Nat} {a:Act} {w:World}
theorem QI {k l:K} (e:k=l) {x:El k} {y:El l} (ey:y=e▸x) {h:Heap} {ok:Nat→Prop} {cs:List Value} (H:Vw h ok k x cs):Vw h ok l y cs:=by subst e; subst ey; exact H
theorem uu {k l:K} (e:k=l) {x:El k} {y:El l} (ey:y=e▸x) {h:Heap} {own:List TypeId} {ok:Nat→Prop} {cs:List Value} {fo:List Nat} (H:Ow h own ok k x cs fo):Ow h own ok l y cs fo:=by subst e; subst ey; exact H
theorem La {u:TypeId} {size n c bb q:Nat} (hu:(∃e',P.underlying u=some (.slice e'))∨P.underlying u=some .string) (Q:Nat→List Value→Prop)
  (hE:∀i,i<n→∃ds,ds.length=size∧Cells (hp w) bb (q+i * size) ds∧(∀v∈ds,v.oneCell'=true)∧Q i ds) :
  ∃news,Src P w size u (.slice (some ⟨bb,q,none⟩) n c) n news∧∀i,i<n→Q i (kN news size i):=by
 have hrl:(mY (hp w) bb q (n * size)).length=n * size:=by simp [mY]
 have hseg:∀i,i<n→∃ds,kN (mY (hp w) bb q (n * size)) size i=ds∧ds.length=size∧Cells (hp w) bb (q+i * size) ds∧(∀v∈ds,v.oneCell'=true)∧Q i ds:=by
  intro i hi
  obtain ⟨ds,hdl,h1,h2,h3⟩:=hE i hi
  refine ⟨ds, ?_,hdl,h1,h2,h3⟩
  apply List.ext_getElem?
  intro j
  by_cases hj:j<size
  ·rw [jW hj]
   have hlt2:(i+1) * size≤n * size:=agJ _ (by omega)
   rw [Nat.add_mul,Nat.one_mul] at hlt2
   unfold mY
   rw [List.getElem?_map,List.getElem?_range (by omega)]
   have:=h1 j (by omega)
   simp only [Option.map_some]
   rw [←Nat.add_assoc,this,agr (by omega)]
   rfl
  ·rw [List.getElem?_eq_none (by rw [oM hrl hi]; omega),List.getElem?_eq_none (by omega)]
 have hcell:∀j,j<n * size→cellAt (hp w) bb (q+j)=(mY (hp w) bb q (n * size))[j]?∧∀v,(mY (hp w) bb q (n * size))[j]?=some v→v.oneCell'=true:=by
  intro j hj
  have hk:0<size:=by
   rcases Nat.eq_zero_or_pos size with h | h
   ·rw [h] at hj; omega
   ·exact h
  have hi:j / size<n:=Nat.div_lt_of_lt_mul (by rw [Nat.mul_comm]; exact hj)
  have hm:j % size<size:=Nat.mod_lt _ hk
  obtain ⟨ds,s1,hdl,s2,s3,_⟩:=hseg _ hi
  have hjj:j / size * size+j % size=j:=by rw [Nat.mul_comm]; exact Nat.div_add_mod j size
  have h1:(mY (hp w) bb q (n * size))[j]?=ds[j % size]?:=by
   rw [←s1,jW hm,hjj]
  have h2:=s2 (j % size) (by omega)
  rw [Nat.add_assoc,hjj] at h2
  refine ⟨by rw [h2,h1],fun v hv=>?_⟩
  rw [h1] at hv
  exact s3 v (List.mem_of_getElem? hv)
 refine ⟨mY (hp w) bb q (n * size),wC hu hrl (fun v hv=>?_) (fun _=>⟨bb,q,rfl,fun i hi=>(hcell i (by rw [hrl] at hi; exact hi)).1⟩),fun i hi=>?_⟩
 ·obtain ⟨j,hj,rfl⟩:=List.mem_iff_getElem.1 hv
  exact (hcell j (by rw [hrl] at hj; exact hj)).2 _ (agr hj)
 ·obtain ⟨ds,s1,_,_,_,s3⟩:=hseg i hi
  rw [s1]
  exact s3
theorem FU {u e:TypeId} {kk:K} {h:Heap} {ok:Nat→Prop} {xs:List (El kk)} {v:Value} {cs:List Value} (hu:(∃e',P.underlying u=some (.slice e'))∨P.underlying u=some .string) (hg:eO kk=true)
  (hh:h=hp w) (hv:VC (.sl e kk) v cs) (hV:Vw h ok (.sl e kk) xs cs) :
  ∃news,Src P w kk.size u v xs.length news∧∀i (hi:i<xs.length),Vw h ok kk xs[i] (kN news kk.size i):=by
 subst hh
 obtain ⟨b,n,c,e1,e2,e3,e4,e5⟩:=xB hv hV
 subst e1
 subst e3
 by_cases h0:0<xs.length
 ·obtain ⟨bb,q,eb,hok,hel,hE⟩:=e5 h0
  subst eb
  obtain ⟨news,g1,g2⟩:=La (P:=P) (w:=w) (n:=xs.length) (c:=c) (bb:=bb) (q:=q) hu (fun i ds=>∀hi:i<xs.length,Vw (hp w) ok kk xs[i] ds) (fun i hi=>by
   obtain ⟨ds,h1,h2⟩:=hE i hi
   exact ⟨ds,jQ h2,h1,EI hg h2,fun _=>h2⟩)
  exact ⟨news,g1,fun i hi=>g2 i hi hi⟩
 ·have hx:xs=[]:=List.eq_nil_of_length_eq_zero (by omega)
  subst hx
  exact ⟨[],wC hu (by simp) (by simp) (fun h=>by simp at h),fun i hi=>by simp at hi⟩
theorem PI {u e:TypeId} {kk:K} {own:List TypeId} {ok:Nat→Prop} {xs:List (El kk)} {v:Value} {cs:List Value} {fo:List Nat} (hu:(∃e',P.underlying u=some (.slice e'))∨P.underlying u=some .string) (hg:eO kk=true)
  (hv:VC (.sl e kk) v cs) (hown:au e own=true) (hO:Ow (hp w) own ok (.sl e kk) xs cs fo) (hnd:fo.Nodup) :
  ∃news,Src P w kk.size u v xs.length news∧∃bC:List (List Nat),bC.length=xs.length∧bC.flatten.Nodup∧(∀b∈bC.flatten,b∈fo)∧∀i (hi:i<xs.length),Ow (hp w) own ok kk xs[i] (kN news kk.size i) (bC.getD i []):=by
 unfold Ow at hO
 rw [if_pos hown] at hO
 obtain ⟨b,n,c,e1,e2,e3,hO⟩:=hO
 obtain ⟨e5,_⟩:cs=[v]∧_:=hv
 rw [e1] at e5
 simp only [List.cons.injEq,and_true] at e5
 subst e5
 have e2':n=xs.length:=e2
 subst e2'
 rcases hO with ⟨hc0,hf0⟩ | ⟨bb,q,arr,lo,hi,ea,hbk,hf,hs,rX,hl0,hp0,hO⟩
 ·have hx:xs=[]:=List.eq_nil_of_length_eq_zero (by omega)
  subst hx
  exact ⟨[],wC hu (by simp) (by simp) (fun h=>by simp at h),[],rfl,by simp,by simp,fun i hi=>by simp at hi⟩
 ·subst ea
  have oQ:=hp0.nodup hnd
  obtain ⟨news,g1,g2⟩:=La (P:=P) (w:=w) (n:=xs.length) (c:=c) (bb:=bb) (q:=q) hu (fun i ds=>∀hi:i<xs.length,Ow (hp w) own ok kk xs[i] ds (rX.getD i [])) (fun i hi=>by
   obtain ⟨ds,h1,h2⟩:=hO i hi
   exact ⟨ds,dh h2,h1,IP hg h2,fun _=>h2⟩)
  exact ⟨news,g1,rX,hl0,(agL.1 oQ).2,fun b hb=>hp0.mem_iff.2 (by simp [hb]),fun i hi=>g2 i hi hi⟩
theorem N9 {kk:K} {own own':List TypeId} {ok:Nat→Prop} {xs:List (El kk)} {news:List Value} {bC:List (List Nat)} (hfl:bC.length=xs.length) (hnd:bC.flatten.Nodup) (hsub:∀t∈kk.tys,au t own'=true→au t own=true)
  (hel:∀i (hi:i<xs.length),Ow (hp w) own ok kk xs[i] (kN news kk.size i) (bC.getD i [])) :
  ∃(vF:List (List Nat)) (wL:List Nat),vF.length=xs.length∧(vF.flatten++wL).Nodup∧(∀b∈vF.flatten++wL,b∈bC.flatten)∧
   ∀i (hi:i<xs.length),Ow (hp w) own' (fun b=>ok b∨b∈wL) kk xs[i] (kN news kk.size i) (vF.getD i []):=by
 suffices hs:∀(n:Nat),n≤xs.length→∃(vF:List (List Nat)) (wL:List Nat),vF.length=n∧(bC.take n).flatten.Perm (vF.flatten++wL)∧
   ∀i (_:i<n) (hi:i<xs.length),Ow (hp w) own' (fun b=>ok b∨b∈wL) kk xs[i] (kN news kk.size i) (vF.getD i []) by
  obtain ⟨vF,wL,h1,h2,h3⟩:=hs xs.length (agt _)
  rw [List.take_of_length_le (by omega)] at h2
  exact ⟨vF,wL,h1,h2.nodup hnd,fun b hb=>h2.mem_iff.2 hb,fun i hi=>h3 i hi hi⟩
 intro n
 induction n with
 | zero=>intro _; exact ⟨[],[],rfl,by simp,fun i hi=>by omega⟩
 | succ n ih=>
  intro hn
  obtain ⟨vF,wL,h1,h2,h3⟩:=ih (by omega)
  obtain ⟨f1,f2,p1,p2⟩:=qL (own':=own') hsub (hel n (by omega))
  refine ⟨vF++[f1],wL++f2,by simp [h1], ?_,fun i hi hi'=>?_⟩
  ·rw [List.take_succ_eq_append_getElem (by omega),List.flatten_append]
   have e:[bC[n]'(by omega)].flatten=bC.getD n []:=by rw [cz (show n<bC.length by omega)]; simp
   rw [e]
   refine (h2.append p1).trans ?_
   simp only [List.flatten_append,agy]
   refine List.Perm.append_left _ ?_
   simp only [List.flatten_cons,List.flatten_nil,agH]
   exact tZ
  ·rw [xZ,h1]
   by_cases h:i<n
   ·rw [if_pos h]
    exact bz (fun _ _=>rfl) (fun b hb=>hb.imp id (fun h=>by simp [h])) (fun _ _=>rfl) (h3 i h hi')
   ·have:i=n:=by omega
    subst this
    rw [if_neg (by omega)]
    simp only [Nat.sub_self]
    exact bz (fun _ _=>rfl) (fun b hb=>hb.imp id (fun h=>by simp [h])) (fun _ _=>rfl) p2
def gY (P:Program) (cx:Cx) (σ:St) (α:dK) (F:List Nat) (a:Act) (w:World) (u e:TypeId) (kk:K) (v:Value) (s:q9 kk):Prop:=
 ∃dJ F1 news,Rel cx (az s.ws σ) dJ F1 a w∧(∀q,q∉s.ws.flatMap Wr.p9→Same σ α (az s.ws σ) dJ q)∧(az s.ws σ).slots=σ.slots∧(∀q,σ.roots q=none→(az s.ws σ).roots q=none)∧(∀b∈F,b∈F1)∧
  eP (az s.ws σ) s.tags∧Src P w kk.size u v s.xs.length news∧
  ∀own',(∀t∈kk.tys,au t own'=true→t∉s.bad)→∃(bC:List (List Nat)) (wL:List Nat),bC.length=s.xs.length∧(bC.flatten++wL).Nodup∧(∀b∈bC.flatten++wL,b∈F1∧b∉F)∧
   ∀i (hi:i<s.xs.length),Ow (hp w) own' (fun b=>(gW cx (az s.ws σ) dJ F1 w s.tags b∧∃t∈s.bad,ry (hp w) b t)∨b∈wL) kk s.xs[i] (kN news kk.size i) (bC.getD i [])
theorem GN {n i:Nat}:(List.replicate n ([]:List Nat)).getD i []=[]:=by
 simp only [agq,List.getElem?_replicate]
 split <;> rfl
theorem rT (H:Rel cx σ α F a w) {u e:TypeId} {kk:K} {v:Value} {s:q9 kk} (hws:s.ws=[]) (qi:eP σ s.tags) {news:List Value} (hS:Src P w kk.size u v s.xs.length news)
  (hV:∀i (hi:i<s.xs.length),Vw (hp w) (gW cx σ α F w s.tags) kk s.xs[i] (kN news kk.size i)) (hbad:s.bad=kk.tys∨kk.flat=true∨s.xs=[]):gY P cx σ α F a w u e kk v s:=by
 refine ⟨α,F,news,by rw [hws]; exact H,by rw [hws]; exact fun q _=>jP ..,by rw [hws]; rfl,by rw [hws]; exact fun q h=>h,fun _ h=>h,by rw [hws]; exact qi,hS,fun own' ho=>?_⟩
 refine ⟨List.replicate s.xs.length [],[],by simp,by simp,by simp,fun i hi=>?_⟩
 rw [GN,hws]
 rcases hbad with h | h | h
 ·refine bz (fun _ _=>rfl) (fun b hb=>.inl (h▸hb)) (fun _ _=>rfl) (nE (fun t ht=>?_) (A8 kk.tys (fun _ h=>h) (hV i hi)))
  cases hm:au t own' with
  | false=>rfl
  | true=>exact absurd (h▸ht) (ho t ht hm)
 ·exact nE (fun t ht=>by rw [tV h] at ht; simp at ht) (iG h (hV i hi))
 ·rw [h] at hi; simp at hi
theorem Ip {A:Type} {z:A} (H:Rel cx σ α F a w) {u e:TypeId} {kk:K} {x:AV} {v:Value} {k:q9 kk→Prog A} (hu:(∃e',P.underlying u=some (.slice e'))∨P.underlying u=some .string) (hg:eO kk=true)
  (hx:bJ cx σ α F w x v) (hw:oz σ x) (h:(PZ e kk x k).ends σ z):∃s:q9 kk,(k s).ends σ z∧gY P cx σ α F a w u e kk v s:=by
 have uX:(qG x fun k' y tags=>match bT k' (.sl e kk) y with
   | some xs=>k ⟨xs,kk.tys,bif kk.flat then [] else tags,[],false,[]⟩
   | none=>.fail).ends σ z→∃s:q9 kk,(k s).ends σ z∧gY P cx σ α F a w u e kk v s:=by
  intro h
  obtain ⟨k',y,Tg,cs,h1,h2,h3,h4⟩:=qU H hx hw h
  cases hc:bT k' (.sl e kk) y with
  | none=>rw [hc] at h4; exact h4.elim
  | some xs=>
   rw [hc] at h4
   obtain ⟨ek,ey⟩:=bO hc
   subst ek
   simp only at ey
   subst ey
   obtain ⟨news,g1,g2⟩:=FU (P:=P) (u:=u) (xs:=xs) hu hg rfl h1 h2
   cases hf:kk.flat with
   | true=>
    rw [hf] at h4
    exact ⟨_,h4,rT H rfl (fun t ht=>by simp at ht) g1 (fun i hi=>iG hf (g2 i hi)) (.inr (.inl hf))⟩
   | false=>
    rw [hf] at h4
    exact ⟨_,h4,rT H rfl h3 g1 g2 (.inl rfl)⟩
 cases x with
 | val k1 y Tg=>
  cases k1 with
  | str=>
   simp only [PZ] at h
   cases h1:bT (.int .u8) kk (0:Int) with
   | none=>rw [h1] at h; exact h.elim
   | some q=>
    rw [h1] at h
    obtain ⟨ek,_⟩:=bO h1
    subst ek
    simp only at h
    cases h2:bT (.sl e (.int .u8)) (.sl e (.int .u8)) (show List Int from y) with
    | none=>rw [h2] at h; exact h.elim
    | some xs=>
     rw [h2] at h
     obtain ⟨_,ey⟩:=bO h2
     simp only at ey
     subst ey
     obtain ⟨B,e1,e2⟩:=sJ hx
     subst e1
     have hlen:(bytesOf B).length=B.size:=jX B
     have hS:=J4 (P:=P) (w:=w) (u:=u) (B:=B) hu
     subst e2
     refine ⟨_,h,rT H rfl (fun t ht=>by simp at ht) (news:=B.data.toList.map fun b=>.int .u8 b.toNat) ?_ (fun i hi=>?_) (.inr (.inl rfl))⟩
     ·show Src P w 1 u _ (bytesOf B).length _
      rw [hlen]
      exact hS
     ·have hi':i<B.size:=by
       have:i<(bytesOf B).length:=hi
       rw [hlen] at this; exact this
      have hseg:kN (B.data.toList.map fun b=>Value.int .u8 b.toNat) (K.int .u8).size i=[.int .u8 (B.data.toList[i]'(by simpa using hi')).toNat]:=by
       apply List.ext_getElem?
       intro j
       show (kN (B.data.toList.map fun b=>Value.int .u8 b.toNat) 1 i)[j]?=_
       cases j with
       | zero=>rw [jW (by omega)]; simp [hi']
       | succ j=>rw [List.getElem?_eq_none (by rw [oM (m:=B.size) (by simp) hi']; omega)]; simp
      rw [hseg]
      have he:(bytesOf B)[i]'hi=((B.data.toList[i]'(by simpa using hi')).toNat:Int):=by simp [bytesOf]
      refine ⟨?_, ?_⟩
      ·show [Value.int .u8 _]=[Value.int .u8 _]
       congr 2
       exact he.symm
      ·show CO .u8 _
       have:CO .u8 ((B.data.toList[i]'(by simpa using hi')).toNat:Int):=⟨by omega,by have:=(B.data.toList[i]'(by simpa using hi')).toNat_lt; omega⟩
       exact he▸this
  | _=>exact uX h
 | iE=>
  obtain ⟨b,rfl⟩:=hx
  exact ⟨_,h,rT H rfl (fun t ht=>by simp at ht) (news:=[]) (wC hu (by simp) (by simp) (fun h=>by simp at h)) (fun i hi=>by simp at hi) (.inr (.inr rfl))⟩
 | ref r g=>
  simp only [PZ] at h
  obtain ⟨R,hr,hv,h⟩:=cK h
  rcases ay h with ⟨hg1,h⟩ | ⟨_,h⟩
  ·have hgg:=agf hg1
   obtain ⟨hkind,x9⟩:=hx R hr hgg
   cases hc:bT R.k (.sl e kk) R.x with
   | none=>rw [hc] at h; exact h.elim
   | some xs=>
    rw [hc] at h
    simp only at h
    obtain ⟨ek,ey⟩:=bO hc
    have K:=H.roots r R hr
    have hO:=K.ow hv
    have UT:=lU H hr hO (fun b hb=>hb)
    cases hf:kk.flat with
    | true=>
     rw [hf] at h
     have BZ:Vw (hp w) (gW cx σ α F w (R.out r R.k)) (.sl e kk) xs (α.hdr r):=QI ek ey UT
     obtain ⟨news,g1,g2⟩:=FU (P:=P) (u:=u) (xs:=xs) hu hg rfl (ek▸x9) BZ
     exact ⟨_,h,rT H rfl (fun t ht=>by simp at ht) g1 (fun i hi=>iG hf (g2 i hi)) (.inr (.inl hf))⟩
    | false=>
     rw [hf] at h
     simp only [cond_false] at h
     rcases ay h with ⟨_,h⟩ | ⟨_,h⟩
     ·exact h.elim
     ·obtain ⟨H1,T1,hh,hcl⟩:=kill H hr hkind hv
      have Mh:Ow (hp w) R.own (gW cx (aj σ r bV) (je α r) (α.fo r++F) w R.tags) (.sl e kk) xs (α.hdr r) (α.fo r):=uu ek ey (hh.ow hcl)
      have XD:VC (.sl e kk) v (α.hdr r):=ek▸x9
      have hsame:∀q,q∉([Wr.r r none]:List Wr).flatMap Wr.p9→Same σ α (aj σ r bV) (je α r) q:=fun q hq=>gK (by simpa [Wr.p9] using hq)
      have hnone:∀q,σ.roots q=none→(aj σ r bV).roots q=none:=fun q hq=>by
       rw [bW]
       ·exact hq
       ·intro e; rw [e,hr.1] at hq; simp at hq
      have Ai:∀b∈α.fo r,b∉F:=fun b hb=>H.iD r R hr b (agd _ hb)
      cases hme:au e R.own with
      | true=>
       obtain ⟨news,g1,bC,g2,g3,g4,g5⟩:=PI (P:=P) (u:=u) hu hg XD hme Mh hh.nd
       rw [hme] at h
       simp only [cond_true,Bool.true_and] at h
       refine ⟨_,h,je α r,α.fo r++F,news,H1,hsame,rfl,hnone,fun b hb=>agd _ hb, ?_,g1,fun own' ho=>?_⟩
       ·intro t ht
        simp only at ht
        cases hal:(kk.tys.all fun t=>au t R.own) with
        | true=>rw [hal] at ht; simp at ht
        | false=>rw [hal] at ht; exact hh.wt t ht
       ·simp only at ho ⊢
        have g5':∀i (hi:i<List.length xs),Ow (hp w) R.own (fun b=>gW cx (aj σ r bV) (je α r) (α.fo r++F) w (bif (kk.tys.all fun t=>au t R.own) then [] else R.tags) b∧∃t∈aS R.own kk,ry (hp w) b t) kk xs[i] (kN news kk.size i) (bC.getD i []):=by
         intro i hi
         cases hal:(kk.tys.all fun t=>au t R.own) with
         | false=>exact oZ _ (fun _ h=>h) (g5 i hi)
         | true=>exact fV (dA (jA hal)) (g5 i hi)
        obtain ⟨vF,wL,f1,f2,f3,f4⟩:=N9 (own':=own') g2 g3 (fun t ht hm=>(vY (own:=R.own) ht).resolve_left (fun hx=>ho t ht hm hx)) g5'
        exact ⟨vF,wL,f1,f2,fun b hb=>⟨agh _ (g4 b (f3 b hb)),Ai b (g4 b (f3 b hb))⟩,f4⟩
      | false=>
       have hO2:=Mh
       unfold Ow at hO2
       rw [hme] at hO2 h
       simp only [age,if_false] at hO2
       simp only [cond_false,Bool.false_and] at h
       obtain ⟨news,g1,g2⟩:=FU (P:=P) (u:=u) (xs:=xs) hu hg rfl XD hO2.2
       refine ⟨_,h,je α r,α.fo r++F,news,H1,hsame,rfl,hnone,fun b hb=>agd _ hb,hh.wt,g1,fun own' ho=>?_⟩
       refine ⟨List.replicate (List.length xs) [],[],by simp,by simp,by simp,fun i hi=>?_⟩
       rw [GN]
       refine bz (fun _ _=>rfl) (fun b hb=>.inl hb) (fun _ _=>rfl) (nE (fun t ht=>?_) (A8 kk.tys (fun _ h=>h) (g2 i hi)))
       cases hm:au t own' with
       | false=>rfl
       | true=>exact absurd ht (ho t ht hm)
  ·exact h.elim
 | o8 r p n=>exact uX h
 | undef=>exact uX h
 | ptr r p n=>exact uX h
 | iK bt k y T=>exact uX h
 | Bv _ _ _ _=>exact uX h
 | ve _=>exact uX h
 | part _ _ _ _ _=>exact uX h
 | tq _ _ _ _=>exact uX h
 | app _ _ _ _=>exact uX h
 | oL=>exact uX h
 | fn f cs=>exact uX h
end
end
section
open Go
variable [Fr]
section
variable {P:Program} {T:iF} {cx:Cx} {σ:St} {α:dK} {F:List Nat} {a:Act} {w:World} {o:Oper} {d:Nat} {ws:List Wr} {r:Nat} {R:Root}
theorem YO (H:Rel cx σ α F a w) (hr:aO σ r R) (hv:bu σ R) (hk:R.kind=.anon) {R':Root} (hk':R'.kind=.anon) {e:TypeId} (hw:R'.w=e :: R.w) (hh:R'.h=nD :: e :: R.h) (hg:R'.g=R.g+1) (hev:R'.ew=R.ew∧R'.eh=R.eh)
  (qi:eP σ R'.tags∧∀n,(r,n)∉R'.tags) {w':World} (hos:w'.os=w.os∧w'.tape=w.tape∧w'.output=w.output) (hsize:w.heap.size≤w'.heap.size) {dG:List Nat}
  (IB:∀b,b<w.heap.size→hp w' b≠hp w b→b∈F∨(b∈α.fo r∧nH (hp w) b=some e)) (Yy:∀b∈dG,b∈α.fo r∨b∈F∨(w.heap.size≤b∧b<w'.heap.size)) (hnd:dG.Nodup)
  {hdr':List Value} (hlen:hdr'.length=R'.k.size) (how:Ow (hp w') R'.own (gW cx (aj σ r R') (aG α r (α.loc r) hdr' dG) [] w' R'.tags) R'.k R'.x hdr' dG) {v':Value} (hv':VC R'.k v' hdr') :
  Rel cx (aj σ r R') (aG α r (α.loc r) hdr' dG) [] a w'∧bJ cx (aj σ r R') (aG α r (α.loc r) hdr' dG) [] w' (.ref r R'.g) v':=by
 have hblk:blk α R r=α.fo r:=by simp [blk,dS,hk]
 have hd':R'.bn=false:=by simp [Root.bn,hk']
 have T1:vo cx σ α F w r R R' dG [] w' [e] [nD,e]:=by
  refine ⟨.inr ⟨hw,hh,by omega,hk'.trans hk.symm,fun h=>by rw [hk] at h; simp at h, .inl (by simp)⟩,qi,hos,hsize,fun b hb hne=>?_,fun _ b hb=>?_,fun b hb=>by simp at hb,List.nodup_nil,fun _ b _ h=>by simp at h,fun j pi b o n hj hb Vr hne=>?_,fun _=>hev⟩
  ·rcases IB b hb hne with h | ⟨h1,h2⟩
   ·exact .inl h
   ·exact .inr ⟨by rw [hblk]; exact h1, .inr (.inl ⟨e,by simp,h2⟩)⟩
  ·rw [gG hk'] at hb
   rw [hblk]
   exact Yy b hb
  ·obtain ⟨Q,hQ,hkq,_,_⟩:=H.jV j pi b o n hj hb
   have hQR:Q=R:=by have:=hQ.1; rw [←Vr,hr.1] at this; simpa using this.symm
   rw [hQR,hk] at hkq
   simp at hkq
 refine ⟨T1.rel H hr (fun _=>⟨fun _=>how,hlen,fun b o hb=>by rw [ug hk'] at hb; simp at hb,by rw [gG hk']; exact hnd⟩) ?_ ?_, ?_⟩
 ·intro _ p n v hn hold
  refine ⟨hold.1,fun Q hQ Rp hcl hty hs=>?_⟩
  rw [aH] at hQ
  simp only [agb] at hQ
  subst hQ
  cases p with
  | nil=>
   obtain ⟨_,cs,b,o,h1,_⟩:=hold.2 R hr.1 hv (by simp [clean,dW,au]) (fun t ht=>by simp [aa] at ht) rfl
   simp only [bH,agb,agn] at h1
   have:dS α R r=none:=by simp [dS,hk]
   rw [this] at h1
   simp at h1
  | cons s p=>
   have e1:R'.h=[nD,e]++R.h:=hh
   rw [e1,mD hn] at hcl
   exact absurd (show nD∈dW (s :: p) R'.k from agK) (hcl.1 nD (by simp))
 ·intro _ g v hgl hold Q hQ Ze
  obtain ⟨rfl,_⟩:=eH hQ
  omega
 ·intro Q hQ _
  obtain ⟨rfl,_⟩:=eH hQ
  refine ⟨hk', ?_⟩
  simp only [aG,upd_same]
  exact hv'
theorem K3 (H:Rel cx σ α F a w) {w':World} (hs:w.heap.size≤w'.heap.size) {Tg Tg':List Tag} {dG:List Nat} {b:Nat} (hb:gW cx σ α F w Tg b∨b∈F) (ht:∀t∈Tg,t∈Tg') (hfo:b∉dG):gW cx σ α dG w' Tg' b:=by
 rcases hb with hb | hb
 ·exact ⟨Nat.lt_of_lt_of_le hb.1 hs,hfo,hb.2.2.1,fun q Q hq hbq=>(hb.2.2.2.1 q Q hq hbq).imp fun n hn=>ht _ hn,fun h0=>(hb.2.2.2.2 h0).imp (fun ⟨j,n,h1,h2⟩=>⟨j,n,ht _ h1,h2⟩) id⟩
 ·have hm:=H.fl b hb
  refine ⟨Nat.lt_of_lt_of_le hm.1 hs,hfo,oV H hb,fun q Q hq hbq=>absurd hb (H.iD q Q hq b hbq),fun h0=>?_⟩
  rcases hm.2 with h | ⟨j,pi,h1,h2⟩
  ·omega
  ·exact .inr ⟨j,pi,h1,h2⟩
theorem kD {c:Call} (ho:o.op=.call c) (hb:c.callee=.builtin .append) {x y:Operand} (ha:c.args.toList=[x,y]) {t u:TypeId} (ht:c.argTypes[0]?=some t) (hu:c.argTypes[1]?=some u) {v':Value} {w':World}
  (h:(Builtin.append_ #[t,u] o.type #[a.eval x,a.eval y]).run P w=.ok v' w'):(execOp a.eval o).run P w=.ok (.value v') w':=by
 obtain ⟨cc,hcc⟩:=iU (P:=P) (a:=a) (w:=w) ho hb
 rw [hcc]
 have h1:c.args.map a.eval=#[a.eval x,a.eval y]:=by
  apply Array.ext'
  rw [Array.toList_map,ha]
  rfl
 have h2:Builtin.append_ c.argTypes o.type #[a.eval x,a.eval y]=Builtin.append_ #[t,u] o.type #[a.eval x,a.eval y]:=by
  unfold Builtin.append_
  simp only [ht,hu]
  rfl
 rw [h1]
 simp only [builtin,agD,h2,h,agv,agI]
end
end
section
open Go
variable [Fr]
section
variable {P:Program} {T:iF} {cx:Cx} {σ:St} {α:dK} {F:List Nat} {a:Act} {w:World} {o:Oper} {d:Nat} {ws:List Wr}
theorem Bb (hT:dX P T) {σ1:St} {dJ:dK} {F1:List Nat} (H1:Rel cx σ1 dJ F1 a w) (hd:o.dst=some d) (hdn:d<cx.nt) {c:Call} (ho:o.op=.call c) (hcb:c.callee=.builtin .append) {x y:Operand} (ha:c.args.toList=[x,y])
  {t u e:TypeId} {kk:K} (ht0:c.argTypes[0]?=some t) (hu0:c.argTypes[1]?=some u) (hty:T.ty t=some (.sl e kk)) (hn1:σ1.roots (aZ d 0)=none)
  {own:List TypeId} {tags T1 T2:List Tag} {bad:List TypeId} {tJ uT:List (El kk)} {v0:Value} {sV fd:List Nat} {bC:List (List Nat)} {wL:List Nat} {news:List Value} (hv0:a.eval x=v0) (hS:Src P w kk.size u (a.eval y) uT.length news)
  (hown:au e own=true) (Zg:∀t,au t own=true→t∉bad) (hwt:eP σ1 tags) (ht1:∀t∈T1,t∈tags) (ht2:∀t∈T2,t∈tags)
  (hO:Ow (hp w) own (fun b=>gW cx σ1 dJ F1 w T1 b∨b∈fd) (.sl e kk) tJ [v0] sV) (R9:∀b∈sV++fd,b∈F1) (oQ:(sV++fd).Nodup) (hF1:∀b∈bC.flatten++wL,b∈F1∧b∉sV++fd) (yc:(bC.flatten++wL).Nodup)
  (hfl:bC.length=uT.length) (hel:∀i (hi:i<uT.length),Ow (hp w) own (fun b=>((gW cx σ1 dJ F1 w T2 b∨b∈F1)∧∃t∈bad,ry (hp w) b t)∨b∈wL) kk uT[i] (kN news kk.size i) (bC.getD i []))
  (hb:(tJ.length+uT.length) * T.bytes e≤140737488355328) (kp:Bool) :
  nU P cx o a w (az [.r (aZ d 0) (some (aI (.sl e kk) (tJ++uT) own tags .anon kp)), .s d (.one (.ref (aZ d 0) 0))] σ1):=by
 have ht:=hT.ty t _ hty
 have n0:=agj.1 oQ
 have n1:=agj.1 yc
 have hlt:∀b∈F1,b<w.heap.size:=fun b h=>(H1.fl b h).1
 have UR:=qb hO
 have hnot:∀b,((gW cx σ1 dJ F1 w T2 b∨b∈F1)∧∃t∈bad,ry (hp w) b t)→b∉sV:=by
  rintro b ⟨_,t,h1,h2⟩ hb0
  obtain ⟨e',_,h3,h4⟩:=UR b hb0
  have h2:=H1.J9 (H1.fl b (R9 b (agh _ hb0))) h2
  rw [h2] at h4
  simp only [agb] at h4
  subst h4
  exact Zg _ h3 h1
 let ok:Nat→Prop:=fun b=>(gW cx σ1 dJ F1 w T1 b∨b∈fd)∨((gW cx σ1 dJ F1 w T2 b∨b∈F1)∧∃t∈bad,ry (hp w) b t)∨b∈wL
 obtain ⟨v',w',dG,hrun,hos,hsz,Cb,hfo,Fh,BZ⟩:=DJ (w:=w) (ok:=ok) (u:=u) (ty:=o.type) (x:=a.eval y) (bC:=bC) ht (bz (fun _ _=>rfl) (fun b h=>.inl h) (fun _ _=>rfl) hO) hown
  (agj.2 ⟨n0.1,n1.1,fun b1 h1 b2 h2 e=>(hF1 b2 (agh _ h2)).2 (agh _ (e▸h1))⟩)
  (fun b hb=>by
   rcases hb with (h | h) | h | h
   ·exact ⟨fun h0=>h.2.1 (R9 b (agh _ h0)),h.1⟩
   ·exact ⟨fun h0=>n0.2.2 b h0 b h rfl,hlt b (R9 b (agd _ h))⟩
   ·refine ⟨hnot b h, ?_⟩
    rcases h.1 with h | h
    ·exact h.1
    ·exact hlt b h
   ·exact ⟨fun h0=>(hF1 b (agd _ h)).2 (agh _ h0),hlt b (hF1 b (agd _ h)).1⟩)
  (fun b hb=>by
   rcases agl.1 hb with h | h
   ·exact hlt b (R9 b (agh _ h))
   ·exact hlt b (hF1 b (agh _ h)).1)
  hS hfl (fun i hi=>bz (fun _ _=>rfl) (fun b h=>.inr h) (fun _ _=>rfl) (hel i hi)) hb
 have Ai:∀b∈dG,b∈F1∨(w.heap.size≤b∧b<w'.heap.size):=by
  intro b hb
  rcases hfo b hb with h | h | h
  ·exact .inl (R9 b (agh _ h))
  ·exact .inl (hF1 b (agh _ h)).1
  ·exact .inr h
 have T2':=yl (w':=w') (F':=dG) H1 hos hsz (fun b h1 h2=>R9 b (agh _ (Cb b h1 h2).1)) Ai Fh
 have H2:=H1.mem T2'
 have x9:VC (.sl e kk) v' [v']:=⟨rfl,by
  unfold Ow at BZ
  rw [if_pos hown] at BZ
  obtain ⟨b,n,c,e1,_⟩:=BZ
  simp only [List.cons.injEq,and_true] at e1
  rw [e1]; simp⟩
 have hok:∀b,ok b→gW cx σ1 dJ dG w' tags b:=by
  intro b hb
  have hnew:b<w.heap.size→¬(w.heap.size≤b∧b<w'.heap.size):=fun h=>by omega
  rcases hb with (h | h) | h | h
  ·refine K3 H1 hsz (.inl h) ht1 (fun hb=>?_)
   rcases hfo b hb with h2 | h2 | h2
   ·exact h.2.1 (R9 b (agh _ h2))
   ·exact h.2.1 (hF1 b (agh _ h2)).1
   ·exact hnew h.1 h2
  ·have hF:=R9 b (agd _ h)
   refine K3 H1 hsz (Tg:=[]) (.inr hF) (by simp) (fun hb=>?_)
   rcases hfo b hb with h2 | h2 | h2
   ·exact n0.2.2 b h2 b h rfl
   ·exact (hF1 b (agh _ h2)).2 (agd _ h)
   ·exact hnew (hlt b hF) h2
  ·refine K3 H1 hsz h.1 ht2 (fun hb=>?_)
   have hlt':b<w.heap.size:=by
    rcases h.1 with h | h
    ·exact h.1
    ·exact hlt b h
   rcases hfo b hb with h2 | h2 | h2
   ·exact hnot b h h2
   ·obtain ⟨l,hl,hbl⟩:=List.mem_flatten.1 h2
    obtain ⟨i,hi,rfl⟩:=List.mem_iff_getElem.1 hl
    have:=qb (hel i (by omega)) b (by rw [cz hi]; exact hbl)
    obtain ⟨e',_,h3,h4⟩:=this
    obtain ⟨_,t,h5,h6⟩:=h
    have h6:=H1.J9 (H1.fl b (hF1 b (agh _ h2)).1) h6
    rw [h6] at h4
    simp only [agb] at h4
    subst h4
    exact Zg _ h3 h5
   ·exact hnew hlt' h2
  ·have hF:=(hF1 b (agd _ h)).1
   refine K3 H1 hsz (Tg:=[]) (.inr hF) (by simp) (fun hb=>?_)
   rcases hfo b hb with h2 | h2 | h2
   ·exact (hF1 b (agd _ h)).2 (agh _ h2)
   ·exact n1.2.2 b h2 b h rfl
   ·exact hnew (hlt b hF) h2
 obtain ⟨xH,k1,k2⟩:=tN (k:=.sl e kk) (x:=tJ++uT) (own:=own) (tags:=tags) (v:=v') (cs:=[v']) (fo:=dG) (r:=aZ d 0) (F':=[]) H2 hn1 (eU d 0)
  (fun b hb=>hb) Fh hwt (fun b hb=>by simp at hb) List.nodup_nil rfl (fun _=>bz (fun _ _=>rfl) (fun b hb=>.inl (hok b hb)) (fun _ _=>rfl) BZ) x9 kp
 exact gU (x:=.one (.ref (aZ d 0) 0)) k1 hd hdn (kD ho hcb ha ht0 hu0 (by rw [hv0]; exact hrun)) k2 ⟨_,aH .., .inr (agM _)⟩
theorem zF {ws:List Wr} {tags:List Tag} (h:vv ws tags=true):∀t∈tags,t.1∉ws.flatMap Wr.p9:=fun t ht=>by
 have:=ags.1 h t ht
 simpa [aT] using this
theorem HZ {ws:List Wr} {r:Nat} (h:(ws.all fun w=>!w.loc.beq (.r r))=true):r∉ws.flatMap Wr.p9:=by
 intro hm
 obtain ⟨wr,h1,h2⟩:=agP.1 hm
 have:=ags.1 h wr h1
 cases wr with
 | s n x=>simp [Wr.p9] at h2
 | r n x=>
  simp only [Wr.p9,agw] at h2
  subst h2
  simp [Wr.loc,Loc.beq] at this
theorem Jj (hT:dX P T) (H:Rel cx σ α F a w) (hd:o.dst=some d) (hdn:d<cx.nt) {c:Call} (ho:o.op=.call c) (hcb:c.callee=.builtin .append)
  (h:(ji c.args.toList fun
   | [a,b]=>match c.argTypes[0]?,(c.argTypes[1]?).bind T.ty with
    | some t,some (.sl _ _)=>vZ T d t a b fun ws=>(.ret ws:Prog (List Wr))
    | some t,some .str=>vZ T d t a b fun ws=>(.ret ws:Prog (List Wr))
    | _,_=>.fail
   | _=>.fail).ends σ ws):nU P cx o a w (az ws σ):=by
 obtain ⟨vs,h1,h2,h⟩:=iN H h
 obtain ⟨u,v,x,y,t,ut,hvs,ha,hx,hy,ht0,hu0,adj,h9⟩:∃u v x y t ut,vs=[u,v]∧c.args.toList=[x,y]∧bJ cx σ α F w u (a.eval x)∧bJ cx σ α F w v (a.eval y)∧c.argTypes[0]?=some t∧c.argTypes[1]?=some ut∧
   ((∃e',P.underlying ut=some (.slice e'))∨P.underlying ut=some .string)∧(vZ T d t u v fun ws=>(.ret ws:Prog (List Wr))).ends σ ws:=by
  split at h
  ·rename_i u v
   have hargs:∃x y,c.args.toList=[x,y]∧bJ cx σ α F w u (a.eval x)∧bJ cx σ α F w v (a.eval y):=by
    revert h1
    generalize c.args.toList=l
    intro h1
    cases l with
    | nil=>exact h1.elim
    | cons x l=>
     cases l with
     | nil=>exact h1.2.elim
     | cons y l=>
      cases l with
      | nil=>exact ⟨x,y,rfl,h1.1,h1.2.1⟩
      | cons _ _=>exact h1.2.2.elim
   obtain ⟨x,y,e1,e2,e3⟩:=hargs
   split at h
   ·rename_i t e k e4 e5
    obtain ⟨ut,e6,e7⟩:=qF hT e5
    exact ⟨u,v,x,y,t,ut,rfl,e1,e2,e3,e4,e6, .inl ⟨_,e7.sl.1⟩,h⟩
   ·rename_i t e4 e5
    obtain ⟨ut,e6,e7⟩:=qF hT e5
    exact ⟨u,v,x,y,t,ut,rfl,e1,e2,e3,e4,e6, .inr e7.str,h⟩
   ·exact h.elim
  ·exact h.elim
 clear h
 have h:=h9
 clear h9
 subst hvs
 have hwu:=h2 u (by simp)
 have hwv:=h2 v (by simp)
 unfold vZ at h
 cases hty:T.ty t with
 | none=>rw [hty] at h; exact h.elim
 | some k0=>
  rw [hty] at h
  cases k0 with
  | sl e kk=>
   have ht:=hT.ty t _ hty
   simp only at h
   obtain ⟨s,h8,dJ,F1,news,H1,hsame,adf,hnone,hFF,hwt,hS,hels⟩:=Ip (P:=P) (u:=ut) H adj ht.sl.2.1.eO hy hwv h
   clear h
   rcases ay h8 with ⟨_,h⟩ | ⟨hbad,h⟩
   ·exact h.elim
   clear h8
   cases u with
   | iE=>
    obtain ⟨b0,hv0⟩:=hx
    obtain ⟨hb,h⟩:=h
    obtain ⟨hn,h⟩:=fJ h
    rw [aB h,bS]
    have ho1:au e (e :: bG kk.tys s.bad)=true:=aJ.2 (by simp)
    have ho2:∀t,au t (e :: bG kk.tys s.bad)=true→t∉s.bad:=fun t ht=>by
     rcases agp.1 (aJ.1 ht) with h | h
     ·rw [h]; exact aT.1 hbad
     ·exact (dF.1 (aJ.2 h)).2
    obtain ⟨bC,wL,f1,f2,f3,f4⟩:=hels (e :: bG kk.tys s.bad) (fun t _ ht=>ho2 t ht)
    exact Bb hT H1 hd hdn ho hcb ha ht0 hu0 hty (hnone _ hn) (tJ:=[]) (v0:=.slice b0 0 0) (sV:=[]) (fd:=[]) (T1:=[]) (T2:=s.tags) (bad:=s.bad) hv0 hS ho1 ho2 hwt (by simp) (fun _ h=>h) vO (by simp) (by simp)
     (fun b hb=>⟨(f3 b hb).1,by simp⟩) f2 f1 (fun i hi=>bz (fun _ _=>rfl) (fun b hb=>hb.imp (fun h=>⟨.inl h.1,h.2⟩) id) (fun _ _=>rfl) (f4 i hi)) (by simpa using hb) s.keep
   | o8 r p n=>
    obtain ⟨R,hr,hv,h⟩:=cK h
    rcases ay h with ⟨hc,h⟩ | ⟨_,h⟩
    ·simp only [agi] at hc
     obtain ⟨⟨⟨⟨⟨⟨⟨c1,c2⟩,c3⟩,c4⟩,c5⟩,c6⟩,c7⟩,c8⟩:=hc
     cases hg:aP p R.k R.x with
     | none=>rw [hg] at h; exact h.elim
     | some dd=>
      rw [hg] at h
      simp only at h
      cases hck:bT dd.1 (.sl e kk) dd.2 with
      | none=>rw [hck] at h; exact h.elim
      | some xs=>
       rw [hck] at h
       cases hga:wM R p dd with
       | none=>rw [hga] at h; exact h.elim
       | some R'=>
        rw [hga] at h
        simp only at h
        obtain ⟨hb,h⟩:=h
        obtain ⟨hn,h⟩:=fJ h
        rw [aB h,bS]
        obtain ⟨ek,ey⟩:=bO hck
        unfold wM at hga
        cases hz:dU p R.k R.x (oF dd) with
        | none=>rw [hz] at hga; simp at hga
        | some z=>
         rw [hz] at hga
         simp only [agb] at hga
         have eR:R'=dY R dd z:=by rw [←hga]; rfl
         have hSr:=hsame r (HZ c7)
         have hr1:=(hSr.live R).2 hr
         have hv1:bu (az s.ws σ) R:=⟨hv.1,by rw [eZ (fun t ht=>(hsame t.1 (zF c8 t ht)).root)]; exact hv.2⟩
         obtain ⟨fK,hown,cs0,Qk,hn0,Us⟩:=hx R hr.1 hv (agf c1) dd hg
         have hpv:p≠[]∨∃t,R.kind=.var t:=by
          rw [Bool.or_eq_true] at c3
          rcases c3 with h | h
          ·exact .inl (by simpa using h)
          ·refine .inr ?_
           unfold Root.isVar at h
           cases hk:R.kind with
           | var t=>exact ⟨t,rfl⟩
           | _=>rw [hk] at h; simp at h
         obtain ⟨cs1,kS,fI,rest,g1,g2,g3,g4,g5,g6⟩:=gap H1 hr1 hv1 hg hz fK hown hpv
         rw [hSr.hdr,hSr.wh,hn0] at g1
         simp only [agb,agn] at g1
         obtain ⟨rfl,rfl⟩:=g1
         have hcl:bq (aj (az s.ws σ) r (dY R dd z)) (aS R.own dd.1) R.tags=true:=by
          rw [g5]
          exact nG hv1.2 (fun _ h=>h) (sM p hg hown)
         have Zb:=uu (y:=xs) ek ey (g4.ow hcl)
         have ho1:au e (bG ((e :: kk.tys).filter fun t=>au t R.own) s.bad)=true:=dF.2 ⟨aJ.2 (agu.2 ⟨by simp,c5⟩),aT.1 hbad⟩
         have ho2:∀t,au t (bG ((e :: kk.tys).filter fun t=>au t R.own) s.bad)=true→t∉s.bad:=fun t ht=>(dF.1 ht).2
         obtain ⟨sV,fd,hp0,Mh⟩:=qL (own':=bG ((e :: kk.tys).filter fun t=>au t R.own) s.bad) (fun t _ hm=>(agu.1 (aJ.1 (dF.1 hm).1)).2) Zb
         obtain ⟨bC,wL,f1,f2,f3,f4⟩:=hels (bG ((e :: kk.tys).filter fun t=>au t R.own) s.bad) (fun t _ ht=>ho2 t ht)
         have UA:∀b∈fI,b∉F1:=fun b hb hF=>(agj.1 g2.uW).2.2 b hb b hF rfl
         have hcs:∃v0,cs0=[v0]∧a.eval x=v0:=by
          have XE:VC (.sl e kk) (a.eval x) cs0:=ek▸Us
          exact ⟨_,XE.1,rfl⟩
         obtain ⟨v0,ecs,ev0⟩:=hcs
         subst ecs
         subst eR
         have hne:aZ d 0≠r:=fun e=>by have:=hr.1; rw [←e,hn] at this; simp at this
         refine Bb hT g2 hd hdn ho hcb ha ht0 hu0 hty (by rw [bW _ _ hne]; exact hnone _ hn) (tJ:=xs) (v0:=v0) (sV:=sV) (fd:=fd) (T1:=R.tags) (T2:=s.tags) (bad:=s.bad) (bC:=bC) (wL:=wL) ev0 hS ho1 ho2
          (fun t ht=>?_) (fun t ht=>cZ.2 (.inr ht)) (fun t ht=>cZ.2 (.inl ht)) Mh (fun b hb=>agh _ (hp0.mem_iff.2 hb)) (hp0.nodup g4.nd)
          (fun b hb=>⟨agd _ (f3 b hb).1,fun hb'=>UA b (hp0.mem_iff.2 hb') (f3 b hb).1⟩) f2 f1 (fun i hi=>bz (fun _ _=>rfl) (fun b hb=>?_) (fun _ _=>rfl) (f4 i hi)) hb _
         ·rcases cZ.1 ht with h | h
          ·exact g3.tag (hwt t h)
          ·exact g4.wt t h
         ·rcases hb with ⟨hb,hbt⟩ | hb
          ·refine .inl ⟨?_,hbt⟩
           by_cases hbf:b∈fI
           ·exact .inr (agh _ hbf)
           ·refine .inl ⟨hb.1,fun h=>?_,hb.2.2.1,fun q Q hq hbq=>?_,hb.2.2.2.2⟩
            ·rcases agl.1 h with h | h
             ·exact hbf h
             ·exact hb.2.1 h
            ·rcases iR hq with ⟨rfl,rfl,_⟩ | ⟨eq,hq'⟩
             ·refine hb.2.2.2.1 q R hr1 ?_
              rw [eD,lM (show (dY R dd z).kind=R.kind from rfl)] at hbq
              rw [bX]
              rw [eT] at hbq ⊢
              exact hbq.imp id (fun h=>g6.mem_iff.2 (agd _ h))
             ·rw [(gK (α:=dJ) (σ:=az s.ws σ) (R:=dY R dd z) eq).blk] at hbq
              exact hb.2.2.2.1 q Q hq' hbq
          ·exact .inr hb
    ·exact h.elim
   | ref r g=>
    obtain ⟨R,hr,hv,h⟩:=cK h
    rcases ay h with ⟨hc,h⟩ | ⟨_,h⟩
    ·simp only [agi] at hc
     obtain ⟨⟨⟨⟨⟨c1,c4⟩,c5⟩,c6⟩,c7⟩,c8⟩:=hc
     cases hck:bT R.k (.sl e kk) R.x with
     | none=>rw [hck] at h; exact h.elim
     | some xs=>
      rw [hck] at h
      simp only at h
      obtain ⟨hb,h⟩:=h
      rw [aB h,bS]
      obtain ⟨ek,ey⟩:=bO hck
      have hSr:=hsame r (HZ c7)
      have hr1:=(hSr.live R).2 hr
      have hv1:bu (az s.ws σ) R:=⟨hv.1,by rw [eZ (fun t ht=>(hsame t.1 (zF c8 t ht)).root)]; exact hv.2⟩
      obtain ⟨hkind,Us⟩:=hx R hr (agf c1)
      have K1:=H1.roots r R hr1
      have Rl:=H1.dn r R hr1.1
      have hfr:blk dJ R r=dJ.fo r:=by simp [blk,dS,hkind]
      have Ai:∀b∈dJ.fo r,b∉F1:=fun b hb=>H1.iD r R hr1 b (by rw [hfr]; exact hb)
      have XE:VC (.sl e kk) (a.eval x) (dJ.hdr r):=by rw [hSr.hdr]; exact ek▸Us
      have Zb:Ow (hp w) R.own (gW cx (az s.ws σ) dJ F1 w R.tags) (.sl e kk) xs [a.eval x] (dJ.fo r):=by
       have:=uu (y:=xs) ek ey (K1.ow hv1)
       rw [XE.1] at this
       exact this
      have ho1:au e (bG R.own s.bad)=true:=dF.2 ⟨c5,aT.1 hbad⟩
      have ho2:∀t,au t (bG R.own s.bad)=true→t∉s.bad:=fun t ht=>(dF.1 ht).2
      have hnd:(dJ.fo r).Nodup:=by rw [←hfr]; exact K1.nd
      obtain ⟨sV,fd,hp0,Mh⟩:=qL (own':=bG R.own s.bad) (fun t _ hm=>(dF.1 hm).1) Zb
      obtain ⟨bC,wL,f1,f2,f3,f4⟩:=hels (bG R.own s.bad) (fun t _ ht=>ho2 t ht)
      have Ce:∀b∈sV,b∈dJ.fo r:=fun b hb=>hp0.mem_iff.2 (agh _ hb)
      have hfd0:∀b∈fd,b∈dJ.fo r:=fun b hb=>hp0.mem_iff.2 (agd _ hb)
      have n0:=agj.1 (hp0.nodup hnd)
      have n1:=agj.1 f2
      have hlt:∀b∈dJ.fo r,b<w.heap.size:=fun b hb=>(K1.mine b (by rw [hfr]; exact hb)).1
      have UE:∀b∈F1,b<w.heap.size:=fun b hb=>(H1.fl b hb).1
      have UR:=qb Mh
      have hnot:∀b,(∃t∈s.bad,ry (hp w) b t)→b∉sV:=by
       rintro b ⟨t,h1,h2⟩ hb0
       obtain ⟨e',_,h3,h4⟩:=UR b hb0
       have h2:=H1.J9 (K1.mine b (by rw [hfr]; exact Ce b hb0)) h2
       rw [h2] at h4
       simp only [agb] at h4
       subst h4
       exact ho2 _ h3 h1
      let ok:Nat→Prop:=fun b=>(gW cx (az s.ws σ) dJ F1 w R.tags b∨b∈fd)∨(gW cx (az s.ws σ) dJ F1 w s.tags b∧∃t∈s.bad,ry (hp w) b t)∨b∈wL
      have hRr:∀b,gW cx (az s.ws σ) dJ F1 w R.tags b→b∉dJ.fo r:=by
       intro b hb hbr
       obtain ⟨n,hn⟩:=hb.2.2.2.1 r R hr1 (by rw [hfr]; exact hbr)
       exact Rl.2.2 n hn
      obtain ⟨v',w',dG,hrun,hos,hsz,Cb,hfo,Fh,BZ⟩:=DJ (w:=w) (ok:=ok) (u:=ut) (ty:=o.type) (x:=a.eval y) (bC:=bC) ht (bz (fun _ _=>rfl) (fun b h=>.inl h) (fun _ _=>rfl) Mh) ho1
       (agj.2 ⟨n0.1,n1.1,fun b1 h1 b2 h2 e=>Ai b1 (Ce b1 h1) (e▸(f3 b2 (agh _ h2)).1)⟩)
       (fun b hb=>by
        rcases hb with (h | h) | h | h
        ·exact ⟨fun h0=>hRr b h (Ce b h0),h.1⟩
        ·exact ⟨fun h0=>n0.2.2 b h0 b h rfl,hlt b (hfd0 b h)⟩
        ·exact ⟨hnot b h.2,h.1.1⟩
        ·exact ⟨fun h0=>Ai b (Ce b h0) (f3 b (agd _ h)).1,UE b (f3 b (agd _ h)).1⟩)
       (fun b hb=>by
        rcases agl.1 hb with h | h
        ·exact hlt b (Ce b h)
        ·exact UE b (f3 b (agh _ h)).1)
       hS f1 (fun i hi=>bz (fun _ _=>rfl) (fun b h=>.inr h) (fun _ _=>rfl) (f4 i hi)) hb
      have x9:VC (.sl e kk) v' [v']:=⟨rfl,by
       have h5:=BZ
       unfold Ow at h5
       rw [if_pos ho1] at h5
       obtain ⟨b,n,c,e1,_⟩:=h5
       simp only [List.cons.injEq,and_true] at e1
       rw [e1]; simp⟩
      have X6:∀b,ok b→b∉dG∧b<w.heap.size:=by
       intro b hb
       have hlt':b<w.heap.size:=by
        rcases hb with (h | h) | h | h
        ·exact h.1
        ·exact hlt b (hfd0 b h)
        ·exact h.1.1
        ·exact UE b (f3 b (agd _ h)).1
       refine ⟨fun hbf=>?_,hlt'⟩
       rcases hfo b hbf with h2 | h2 | h2
       ·rcases hb with (h | h) | h | h
        ·exact hRr b h (Ce b h2)
        ·exact n0.2.2 b h2 b h rfl
        ·exact hnot b h.2 h2
        ·exact Ai b (Ce b h2) (f3 b (agd _ h)).1
       ·have hF:=(f3 b (agh _ h2)).1
        rcases hb with (h | h) | h | h
        ·exact h.2.1 hF
        ·exact Ai b (hfd0 b h) hF
        ·exact h.1.2.1 hF
        ·exact n1.2.2 b h2 b h rfl
       ·omega
      have hnext:∀(j:Nat) (n:Nat),(mW j,n)∈s.tags→(mW j,n)∈iw (sw r s.tags) R.tags:=by
       intro j n hj
       refine cZ.2 (.inl (mH.2 ⟨hj,fun e=>?_⟩))
       have:=Rl.2.1
       rw [←e] at this
       simp only at this
       rw [iq] at this
       simp at this
      obtain ⟨k1,k2⟩:=YO (R':={ R with k:=.sl e kk,x:=xs++s.xs,own:=bG R.own s.bad,tags:=iw (sw r s.tags) R.tags,w:=e :: R.w,h:=nD :: e :: R.h,g:=R.g+1,keep:=R.keep || s.keep })
       (v':=v') (hdr':=[v']) (dG:=dG) (w':=w') H1 hr1 hv1 hkind hkind rfl rfl rfl ⟨rfl,rfl⟩ ⟨fun t ht=>(cZ.1 ht).elim (fun h=>hwt t (mH.1 h).1) (Rl.1 t),fun n hn=>(cZ.1 hn).elim (fun h=>(mH.1 h).2 rfl) (Rl.2.2 n)⟩
       hos hsz (fun b h1 h2=>.inr ⟨Ce b (Cb b h1 h2).1,(Cb b h1 h2).2⟩) (fun b hb=>by
        rcases hfo b hb with h | h | h
        ·exact .inl (Ce b h)
        ·exact .inr (.inl (f3 b (agh _ h)).1)
        ·exact .inr (.inr h)) Fh rfl
       (bz (k:=.sl e kk) (fun _ _=>rfl) (fun b hb=>by
        obtain ⟨z1,z2⟩:=X6 b hb
        refine ⟨Nat.lt_of_lt_of_le z2 hsz,by simp, ?_,fun q Q hq hbq=>?_,fun h0=>?_⟩
        ·rcases hb with (h | h) | h | h
         ·exact h.2.2.1
         ·exact lQ H1 hr1 (hfd0 b h)
         ·exact h.1.2.2.1
         ·exact oV H1 (f3 b (agd _ h)).1
        ·rcases iR hq with ⟨rfl,rfl,_⟩ | ⟨eq,hq'⟩
         ·rw [eD] at hbq
          have hbq:b∈dG:=by simpa [gT,hkind] using hbq
          exact absurd hbq z1
         ·rw [(gK (α:=dJ) (σ:=az s.ws σ) (R:={ R with k:=.sl e kk,x:=xs++s.xs,own:=bG R.own s.bad,tags:=iw (sw r s.tags) R.tags,w:=e :: R.w,h:=nD :: e :: R.h,g:=R.g+1,keep:=R.keep || s.keep }) eq).blk] at hbq
          rcases hb with (h | h) | h | h
          ·exact (h.2.2.2.1 q Q hq' hbq).imp fun n hn=>cZ.2 (.inr hn)
          ·exact absurd hbq (H1.AA r R q Q hr1 hq' (Ne.symm eq) b (by rw [hfr]; exact hfd0 b h))
          ·exact (h.1.2.2.2.1 q Q hq' hbq).imp fun n hn=>cZ.2 (.inl (mH.2 ⟨hn,eq⟩))
          ·exact absurd (f3 b (agd _ h)).1 (H1.iD q Q hq' b hbq)
        ·have jc:Ow.mine cx w b→(∃j n,(mW j,n)∈iw (sw r s.tags) R.tags∧cx.ext j b)∨∃j pi,cx.par j=some pi∧b∈pi.bl:=fun hm=>by
          rcases hm.2 with h | ⟨j,pi,h1,h2⟩
          ·omega
          ·exact .inr ⟨j,pi,h1,h2⟩
         rcases hb with (h | h) | h | h
         ·exact (h.2.2.2.2 h0).imp (fun ⟨j,n,h1,h2⟩=>⟨j,n,cZ.2 (.inr h1),h2⟩) id
         ·exact jc (K1.mine b (by rw [hfr]; exact hfd0 b h))
         ·exact (h.1.2.2.2.2 h0).imp (fun ⟨j,n,h1,h2⟩=>⟨j,n,hnext j n h1,h2⟩) id
         ·exact jc (H1.fl b (f3 b (agd _ h)).1)) (fun _ _=>rfl) BZ) x9
      exact gU (x:=.one (.ref r (R.g+1))) k1 hd hdn (kD ho hcb ha ht0 hu0 hrun) k2 ⟨_,aH .., .inr (agt _)⟩
    ·exact h.elim
   | val _ _ _=>exact h.elim
   | undef=>exact h.elim
   | ptr _ _ _=>exact h.elim
   | iK _ _ _ _=>exact h.elim
   | Bv _ _ _ _=>exact h.elim
   | ve _=>exact h.elim
   | part _ _ _ _ _=>exact h.elim
   | tq _ _ _ _=>exact h.elim
   | app _ _ _ _=>exact h.elim
   | oL=>exact h.elim
   | fn _ _=>exact h.elim
  | _=>exact h.elim
end
end
section
open Go
variable [Fr]
section
variable {P:Program} {T:iF} {cx:Cx} {σ:St} {α:dK} {F:List Nat} {a:Act} {w:World} {o:Oper} {d:Nat} {ws:List Wr}
def mE (kk:K):List (Nat×gQ)→q9 kk→Option (q9 kk)
 | [],b=>some b
 | (n,tk) :: l,b=>match bT tk.k kk tk.x with
  | some y=>bif Nat.beq n (gq b.xs) then mE kk l { xs:=b.xs++[y],bad:=tk.bad++b.bad,tags:=iw (tk.gz) b.tags,ws:=b.ws++tk.ws,keep:=tk.keep || b.keep,all:=tk.tags++b.all } else none
  | none=>none
theorem Jr {A:Type} {z:A} (H:Rel cx σ α F a w) {kk:K} {k:q9 kk→Prog A}:∀{l:List (Nat×AV)} {vs:List Value} {b:q9 kk},dQ cx σ α F w (l.map (·.2)) vs→(∀v∈l,oz σ v.2)→(BG kk l b k).ends σ z→
  ∃(tks:List gQ) (b':q9 kk),tks.length=l.length∧vs.length=l.length∧(∀it∈vs.zip tks,su cx σ α F w it.1 it.2)∧mE kk ((l.map (·.1)).zip tks) b=some b'∧(k b').ends σ z:=by
 intro l
 induction l with
 | nil=>
  intro vs b h1 _ h
  cases vs with
  | nil=>exact ⟨[],b,rfl,rfl,by simp,rfl,h⟩
  | cons v vs=>exact h1.elim
 | cons p l ih=>
  obtain ⟨n,x⟩:=p
  intro vs b h1 h2 h
  cases vs with
  | nil=>exact h1.elim
  | cons v vs=>
   simp only [BG] at h
   obtain ⟨tk,htk,h5⟩:=nS H h1.1 (h2 (n,x) (by simp)) h
   cases hc:bT tk.k kk tk.x with
   | none=>rw [hc] at h5; exact h5.elim
   | some y=>
    rw [hc] at h5
    simp only at h5
    rcases ay h5 with ⟨hn,h6⟩ | ⟨_,h6⟩
    ·obtain ⟨tks,b',g1,g2,g3,g4,g5⟩:=ih h1.2 (fun v hv=>h2 v (by simp [hv])) h6
     refine ⟨tk :: tks,b',by simp [g1],by simp [g2], ?_, ?_,g5⟩
     ·intro it hit
      rw [List.zip_cons_cons] at hit
      rcases agp.1 hit with h | h
      ·subst h; exact htk
      ·exact g3 it h
     ·rw [List.map_cons,List.zip_cons_cons]
      unfold mE
      simp only [hc,hn,cond_true]
      exact g4
    ·exact h6.elim
theorem Ag {kk:K}:∀(l:List (Nat×gQ)) {b b':q9 kk},mE kk l b=some b'→
  b'.ws=b.ws++l.flatMap (fun p=>p.2.ws)∧(∀p∈l,∀t∈p.2.tags,t∈b'.all)∧(∀p∈l,∀t∈p.2.bad,t∈b'.bad)∧(∀t∈b.bad,t∈b'.bad)∧
  (∀p∈l,∀t∈p.2.gz,t∈b'.tags)∧(∀t∈b.tags,t∈b'.tags)∧(∀t∈b'.tags,t∈b.tags∨∃p∈l,t∈p.2.gz)∧(∀t∈b.all,t∈b'.all)∧b'.xs.length=b.xs.length+l.length:=by
 intro l
 induction l with
 | nil=>
  intro b b' h
  simp only [mE,agb] at h
  subst h
  simp
 | cons p l ih=>
  obtain ⟨n,tk⟩:=p
  intro b b' h
  unfold mE at h
  cases hc:bT tk.k kk tk.x with
  | none=>rw [hc] at h; simp at h
  | some y=>
   rw [hc] at h
   simp only at h
   cases hn:Nat.beq n (gq b.xs) with
   | false=>rw [hn] at h; simp at h
   | true=>
    rw [hn] at h
    simp only [cond_true] at h
    obtain ⟨g1,g2,g3,g4,g5,g6,g7,g8,g9⟩:=ih h
    refine ⟨by rw [g1]; simp, ?_, ?_,fun t ht=>g4 t (by simp [ht]), ?_,fun t ht=>g6 t (cZ.2 (.inr ht)), ?_,fun t ht=>g8 t (by simp [ht]),by rw [g9]; simp; omega⟩
    ·intro p hp t ht
     rcases agp.1 hp with h | h
     ·subst h; exact g8 t (by simp [ht])
     ·exact g2 p h t ht
    ·intro p hp t ht
     rcases agp.1 hp with h | h
     ·subst h; exact g4 t (by simp [ht])
     ·exact g3 p h t ht
    ·intro p hp t ht
     rcases agp.1 hp with h | h
     ·subst h; exact g6 t (cZ.2 (.inl ht))
     ·exact g5 p h t ht
    ·intro t ht
     rcases g7 t ht with h | ⟨p,h1,h2⟩
     ·rcases cZ.1 h with h | h
      ·exact .inr ⟨(n,tk),by simp,h⟩
      ·exact .inl h
     ·exact .inr ⟨p,by simp [h1],h2⟩
theorem Jq {h:Heap} {own:List TypeId} {ok:Nat→Prop} {kk:K} {N:Nat} :
  ∀(l:List (Nat×gQ)) {vs:List Value} {uL:List (List Nat)} {b b':q9 kk} {cells:Array Value} {bC:List (List Nat)},b.xs.length+l.length≤N→cells.size=N * kk.size→bC.length=b.xs.length→
   (∀i (hi:i<b.xs.length),Ow h own ok kk b.xs[i] (kN cells.toList kk.size i) (bC.getD i []))→sj h own ok l vs uL→mE kk l b=some b'→
   ∃cells',Instr.fill (fun i=>some (i * kk.size,kk.size)) cells ((l.map (·.1)).zip vs)=some cells'∧cells'.size=N * kk.size∧(bC++uL).length=b'.xs.length∧
    ∀i (hi:i<b'.xs.length),Ow h own ok kk b'.xs[i] (kN cells'.toList kk.size i) ((bC++uL).getD i []):=by
 intro l
 induction l with
 | nil=>
  intro vs uL b b' cells bC hN hs hf hO hP hb
  cases vs with
  | nil=>
   cases uL with
   | nil=>
    simp only [mE,agb] at hb
    subst hb
    exact ⟨cells,rfl,hs,by simpa using hf,by simpa using hO⟩
   | cons f fs=>exact hP.elim
  | cons v vs=>cases uL <;> exact hP.elim
 | cons p l ih=>
  obtain ⟨n,tk⟩:=p
  intro vs uL b b' cells bC hN hs hf hO hP hb
  cases vs with
  | nil=>cases uL <;> exact hP.elim
  | cons v vs=>
   cases uL with
   | nil=>exact hP.elim
   | cons ft uL=>
    obtain ⟨⟨cst,hv,Xx⟩,hP'⟩:=hP
    unfold mE at hb
    cases hc:bT tk.k kk tk.x with
    | none=>rw [hc] at hb; simp at hb
    | some y=>
     rw [hc] at hb
     simp only at hb
     cases hn:Nat.beq n (gq b.xs) with
     | false=>rw [hn] at hb; simp at hb
     | true=>
      rw [hn] at hb
      simp only [cond_true] at hb
      have en:n=b.xs.length:=by rw [agf hn,mG]
      subst en
      obtain ⟨ek,ey⟩:=bO hc
      have hOy:Ow h own ok kk y cst ft:=uu ek ey Xx
      have hcl:cst.length=kk.size:=dh hOy
      have yf:v.cells=cst.toArray:=by
       have:=hv.cells
       apply Array.ext'
       simpa using this
      simp only [agA] at hN
      have hle:(b.xs.length+1) * kk.size≤N * kk.size:=agJ _ (by omega)
      rw [Nat.add_mul,Nat.one_mul] at hle
      have hoff:b.xs.length * kk.size+cst.length≤cells.size:=by rw [hs,hcl]; exact hle
      rw [List.map_cons,List.zip_cons_cons,yY (place:=fun i=>some (i * kk.size,kk.size)) (off:=b.xs.length * kk.size) (vs:=cst) (by simp [hcl]) yf hoff]
      have hsz:(cells.toList.take (b.xs.length * kk.size)++(cst++cells.toList.drop (b.xs.length * kk.size+cst.length))).toArray.size=N * kk.size:=by
       simp
       omega
      obtain ⟨cells',g1,g2,g3,g4⟩:=ih (bC:=bC++[ft]) (b:={ xs:=b.xs++[y],bad:=tk.bad++b.bad,tags:=iw (tk.gz) b.tags,ws:=b.ws++tk.ws,keep:=tk.keep || b.keep,all:=tk.tags++b.all }) (by simp; omega) hsz (by simp [hf]) (by
       intro i hi
       simp only [agk,agA,List.length_nil,Nat.zero_add] at hi
       rw [xZ]
       by_cases h0:i<b.xs.length
       ·rw [if_pos (by rw [hf]; exact h0)]
        have e1:(b.xs++[y])[i]'(by simp; omega)=b.xs[i]:=List.getElem_append_left h0
        show Ow h own ok kk ((b.xs++[y])[i]'(by simp; omega)) _ _
        rw [e1]
        have e2:kN (cells.toList.take (b.xs.length * kk.size)++(cst++cells.toList.drop (b.xs.length * kk.size+cst.length))) kk.size i=kN cells.toList kk.size i:=by
         have hl2:(i+1) * kk.size≤b.xs.length * kk.size:=agJ _ (by omega)
         rw [Nat.add_mul,Nat.one_mul] at hl2
         apply List.ext_getElem?
         intro j
         by_cases hj:j<kk.size
         ·rw [jW hj,jW hj,List.getElem?_append_left (by simp; omega),List.getElem?_take_of_lt (by omega)]
         ·unfold kN
          rw [List.getElem?_eq_none (by simp; omega),List.getElem?_eq_none (by simp; omega)]
        simp only
        rw [e2]
        exact hO i h0
       ·have:i=b.xs.length:=by omega
        subst this
        rw [if_neg (by omega),hf,Nat.sub_self]
        have e1:(b.xs++[y])[b.xs.length]'(by simp)=y:=by simp
        show Ow h own ok kk ((b.xs++[y])[b.xs.length]'(by simp)) _ _
        rw [e1]
        have e2:kN (cells.toList.take (b.xs.length * kk.size)++(cst++cells.toList.drop (b.xs.length * kk.size+cst.length))) kk.size b.xs.length=cst:=by
         have hl:(cells.toList.take (b.xs.length * kk.size)).length=b.xs.length * kk.size:=by simp; omega
         unfold kN
         conv=>lhs; arg 2; arg 1; rw [←hl]
         rw [List.drop_left, ←hcl,List.take_left]
        simp only
        rw [e2]
        exact hOy) hP' hb
      refine ⟨cells',g1,g2, ?_, ?_⟩
      ·rw [←g3]; simp
      ·intro i hi
       have:=g4 i hi
       simp only [agy,List.cons_append,List.nil_append] at this
       exact this
end
end
section
open Go
variable [Fr]
section
variable {P:Program} {T:iF} {cx:Cx} {σ:St} {α:dK} {F:List Nat} {a:Act} {w:World} {o:Oper} {d:Nat} {ws:List Wr}
def uj (z:Array Value) (n:Nat):Array Value:=(Array.range n).map (z[· % z.size]!)
theorem run_buildSlice {t e:TypeId} {kk:K} (ht:fE P T t (.sl e kk)) {len:Nat} {parts:Array (Nat×Value)} {cells:Array Value} (hb:len * kk.size≤16777216)
    (hf:Instr.fill (fun i=>some (i * kk.size,kk.size)) (uj (bN kk).toArray (len * kk.size)) parts.toList=some cells) :
    (Instr.buildSlice t len parts).run P w=.ok (.slice (some ⟨w.heap.size,0,none⟩) len len) (w.alloc (.cells cells e)):=by
  obtain ⟨hu,he,hk,_⟩:=ht.sl
  have hzc:=rU he.shape
  unfold Instr.buildSlice
  have h1:¬(len * kk.size>2 ^ 24):=by omega
  by_cases h0:len * kk.size=0
  · have hf':Instr.fill (fun i=>some (i * kk.size,kk.size)) #[] parts.toList=some cells:=by
      have e:uj (bN kk).toArray (len * kk.size)=#[]:=by
        apply Array.eq_empty_of_size_eq_zero
        simp [uj,h0]
      rw [e] at hf
      exact hf
    have hr0:∀f:Nat→Value,Array.map f (Array.range 0)=#[]:=fun f=>by apply Array.eq_empty_of_size_eq_zero; simp
    simp [run_underlying hu,he.info.sizeOf w,Result.andThen,h0,hr0,hf',newRow]
  · have hf':Instr.fill (fun i=>some (i * kk.size,kk.size)) ((Array.range (len * kk.size)).map fun x=>(bN kk).toArray[x % (bN kk).toArray.size]!) parts.toList=some cells:=hf
    simp only [agD,run_underlying hu,agv,he.info.sizeOf w]
    rw [if_neg h1,if_neg h0]
    simp only [agD,agI,agv,he.info.zero w,hzc,hf']
    simp [newRow,Result.andThen]
theorem IA {kk:K} {len i:Nat} (hk:0<kk.size) (hz:(bN kk).length=kk.size) (hi:i<len):kN (uj (bN kk).toArray (len * kk.size)).toList kk.size i=bN kk:=by
  have hle:(i+1) * kk.size≤len * kk.size:=agJ _ (by omega)
  rw [Nat.add_mul,Nat.one_mul] at hle
  apply List.ext_getElem?
  intro j
  by_cases hj:j<kk.size
  · rw [jW hj,Array.getElem?_toList]
    unfold uj
    rw [Array.getElem?_map]
    have hlt:i * kk.size+j<len * kk.size:=by omega
    rw [Array.getElem?_range,if_pos hlt]
    simp only [Option.map_some,List.size_toArray,hz]
    have hm:(i * kk.size+j) % kk.size=j:=by
      rw [Nat.mul_comm,Nat.mul_add_mod]
      exact Nat.mod_eq_of_lt hj
    rw [hm,getElem!_pos _ _ (by simp; omega)]
    simp [show j<(bN kk).length by omega]
  · rw [List.getElem?_eq_none (by rw [oM (m:=len) (by simp [uj]) hi]; omega),List.getElem?_eq_none (by omega)]
theorem BA {L:K→List TypeId} (hT:dX P T) (H:Rel cx σ α F a w) (hd:o.dst=some d) (hdn:d<cx.nt) {t:TypeId} {len:Nat} {ps:Array (Nat×Operand)}
    (h:(match T.ty t with
      | some (.sl e kk)=>wK ps.toList fun l=>BG kk l ⟨[],[],[],[],false,[]⟩ fun b=>bif !(yG b.ws b.all && Nat.ble (len * kk.size) 16777216) then .fail else bif Nat.beq (gq b.xs) len && !au e b.bad then
          gZ (aZ d 0) (.ret (b.ws++[Wr.r (aZ d 0) (some (aI (.sl e kk) b.xs (e :: bG (L kk) b.bad) b.tags .anon b.keep)),Wr.s d (.one (.ref (aZ d 0) 0))]))
        else bif Nat.beq (gq b.xs) 0 then
          gZ (aZ d 0) (.ret [Wr.r (aZ d 0) (some (aI (.sl e kk) (List.replicate len kk.zero) (e :: kk.tys) [] .anon)),Wr.s d (.one (.ref (aZ d 0) 0))])
        else .fail
      | _=>(.fail:Prog (List Wr))).ends σ ws) (ho:o.op=.buildSlice t len ps):nU P cx o a w (az ws σ):=by
  cases hty:T.ty t with
  | none=>rw [hty] at h; exact h.elim
  | some k0=>
    rw [hty] at h
    cases k0 with
    | sl e kk=>
      have ht:=hT.ty t _ hty
      obtain ⟨hu,he,hk,_⟩:=ht.sl
      simp only at h
      obtain ⟨vs,e1,h1,h2,h3⟩:=yX H h
      obtain ⟨tks,b',l1,l2,KC,zQ,h4⟩:=Jr H h1 h2 h3
      have hlen:vs.length=tks.length:=l1.symm
      have Cg:(vs.map (·.1)).length=tks.length:=by rw [List.length_map]; exact hlen
      have Ck:((evs a ps.toList).map (·.2)).length=tks.length:=by rw [l2]; exact hlen
      generalize hns:vs.map (·.1)=ns at *
      generalize hvv:(evs a ps.toList).map (·.2)=vals at *
      obtain ⟨z1,z2,z3,z4⟩:=zy ns vals tks Cg Ck
      obtain ⟨f1,f2,f4,_,f6,_,f8,_,f9⟩:=Ag _ zQ
      simp only [List.nil_append] at f1
      have f9':b'.xs.length=tks.length:=by rw [f9]; simp; omega
      have Yq:∀h ok own,Ow h own ok kk kk.zero (bN kk) []:=fun h ok own=>uh he.eO
      have hzl:(bN kk).length=kk.size:=dh (Yq (hp w) (fun _=>True) [])
      have hzs:(uj (bN kk).toArray (len * kk.size)).size=len * kk.size:=by simp [uj]
      have hparts:((ps.map fun (p:Nat×Operand)=>(p.1,a.eval p.2)).toList)=ns.zip vals:=by
        rw [Array.toList_map, ←hvv,e1]
        have:∀l:List (Nat×Operand),l.map (fun p=>(p.1,a.eval p.2))=(l.map (·.1)).zip ((evs a l).map (·.2)):=by
          intro l
          induction l with
          | nil=>rfl
          | cons p l ih=>simp [evs] at ih ⊢; exact ih
        exact this _
      have Sb:∀{cells:Array Value},len * kk.size≤16777216→Instr.fill (fun i=>some (i * kk.size,kk.size)) (uj (bN kk).toArray (len * kk.size)) (ns.zip vals)=some cells→
          (execOp a.eval o).run P w=.ok (.value (.slice (some ⟨w.heap.size,0,none⟩) len len)) (w.alloc (.cells cells e)):=by
        intro cells hb hf
        have:=run_buildSlice (w:=w) ht (parts:=ps.map fun (p:Nat×Operand)=>(p.1,a.eval p.2)) hb (by rw [hparts]; exact hf)
        simp only [execOp,ho,agD,this,agv,agI]
      rcases ay h4 with ⟨_,h5⟩ | ⟨hws,h5⟩
      · exact h5.elim
      · have wZ:(yG b'.ws b'.all && Nat.ble (len * kk.size) 16777216)=true:=by simpa using hws
        rw [agi] at wZ
        have XH:len * kk.size≤16777216:=Nat.le_of_ble_eq_true wZ.2
        have Mt:=wZ.1
        unfold yG at Mt
        simp only [agi] at Mt
        have hw1:=ru.1 Mt.1
        have hw2:=uA.1 Mt.2
        rw [f1, ←z4] at hw1 hw2
        rcases ay h5 with ⟨hc,h6⟩ | ⟨_,h6⟩
        · rw [agi] at hc
          have hxl:b'.xs.length=len:=by rw [←mG]; exact agf hc.1
          have hbad:e∉b'.bad:=by have:=hc.2; simp only [Bool.not_eq_true',aT] at this; exact this
          obtain ⟨g1,g2⟩:=fJ h6
          rw [aB g2]
          obtain ⟨α',F',hs,H',hA,hnd,hnF,hFF,hS,_⟩:=takes (vals.zip tks) H KC hw1 (fun tg qi=>hw2 tg (by
            obtain ⟨it,hit,h6⟩:=agP.1 qi
            have:it∈(ns.zip (vals.zip tks)).map (·.2):=by rw [z1]; exact hit
            obtain ⟨q,hq,rfl⟩:=agO.1 this
            exact f2 (q.1,q.2.2) (by rw [←z2]; exact agO.2 ⟨q,hq,rfl⟩) tg h6))
          have R8:=hA
          rw [←z1] at hA
          have ho2:∀t,au t (e :: bG (L kk) b'.bad)=true→t∉b'.bad:=fun t ht=>by
            rcases agp.1 (aJ.1 ht) with h | h
            · rw [h]; exact hbad
            · exact (dF.1 (aJ.2 h)).2
          obtain ⟨uL,vE,p1,p2⟩:=sZ (own':=e :: bG (L kk) b'.bad) (T:=b'.tags) (ns.zip (vals.zip tks)) hA
            (fun it hit tg qi=>by
              cases hm:au tg (e :: bG (L kk) b'.bad) with
              | false=>rfl
              | true=>exact absurd (f4 (it.1,it.2.2) (by rw [←z2]; exact agO.2 ⟨it,hit,rfl⟩) tg qi) (ho2 tg hm))
            (fun it hit tg qi=>f6 (it.1,it.2.2) (by rw [←z2]; exact agO.2 ⟨it,hit,rfl⟩) tg qi)
          rw [z2,z3,z1] at p2
          have hzn:(ns.zip tks).map (·.1)=ns:=by rw [List.map_fst_zip (by omega)]
          obtain ⟨cells',c1,c2,c3,c4⟩:=Jq (N:=len) (ns.zip tks) (b:=⟨[],[],[],[],false,[]⟩) (cells:=uj (bN kk).toArray (len * kk.size)) (bC:=[]) (by simp; omega) hzs rfl (fun i hi=>by simp at hi) p2 zQ
          rw [hzn] at c1
          simp only [List.nil_append] at c3 c4
          have hrun:=Sb XH c1
          have nV:=p1.nodup hnd
          have n2:=agj.1 nV
          have hin:∀b∈hs.flatMap (·.2),b∈F':=sD R8
          have hwt:eP (az (qp (vals.zip tks)) σ) b'.tags:=by
            intro tg qi
            rcases f8 tg qi with h | ⟨q,hq,hq2⟩
            · simp at h
            · rw [←z2] at hq
              obtain ⟨it,hit,rfl⟩:=agO.1 hq
              have hit2:it.2∈vals.zip tks:=by rw [←z1]; exact agO.2 ⟨it,hit,rfl⟩
              exact wE (uM R8 it.2 hit2) tg hq2
          have hnr:=xC g1 KC
          have hn1:(az (qp (vals.zip tks)) σ).roots (aZ d 0)=none:=by rw [(hS _ hnr).root]; exact g1
          have Mv:b'.ws=qp (vals.zip tks):=by rw [f1,z4]
          obtain ⟨xH,F2,k1,k2⟩:=K8 (r:=aZ d 0) (e:=e) (k:=kk) (xs:=b'.xs) (own:=e :: bG (L kk) b'.bad) (tags:=b'.tags) (arr:=cells') (lo:=0) (hi:=0) (n:=len) (c:=len) (bC:=uL) (F1:=F'.filter fun b=>!au b (uL.flatten++vE)) H' hn1 (eU d 0)
            hwt (aJ.2 (by simp)) yJ.zero hxl.symm (agt _) (by rw [c2]; exact agt _) c3 (fun b hb=>hin b (p1.mem_iff.2 (by simp [hb]))) n2.1
            (fun b hb=>by
              rw [agu] at hb
              have:=hb.2
              simp only [Bool.not_eq_true',aT,agl,not_or] at this
              exact ⟨hb.1,this.1⟩) (H'.uW.filter _)
            (fun i hi=>by
              have hsl:(kN cells'.toList kk.size i).length=kk.size:=oM (m:=len) (by rw [Array.length_toList,c2]) (by omega)
              refine ⟨_,hsl,fun j hj=>?_,bz (fun _ _=>rfl) (fun b hb=>?_) (fun _ _=>rfl) (c4 i hi)⟩
              · rw [hsl] at hj
                rw [jW hj,Array.getElem?_toList]
              · rcases hb with hb | hb
                · exact .inl hb
                · refine .inr ⟨hin b (p1.mem_iff.2 (by simp [hb])),fun h=>?_,fun h=>n2.2.2 b h b hb rfl⟩
                  rw [agu] at h
                  have:=h.2
                  simp only [Bool.not_eq_true',aT,agl,not_or] at this
                  exact this.2 hb) b'.keep w.drawn
          rw [Mv,bS]
          exact gU (x:=.one (.ref (aZ d 0) 0)) k1 hd hdn hrun k2 ⟨_,aH .., .inr (agM _)⟩
        · rcases ay h6 with ⟨hc,h7⟩ | ⟨_,h7⟩
          · obtain ⟨g1,g2⟩:=fJ h7
            rw [aB g2]
            have hxl:b'.xs.length=0:=by rw [←mG]; exact agf hc
            have ht0:tks=[]:=List.eq_nil_of_length_eq_zero (by omega)
            have hv0:vals=[]:=List.eq_nil_of_length_eq_zero (by rw [ht0] at Ck; simpa using Ck)
            have hrun:=Sb (cells:=uj (bN kk).toArray (len * kk.size)) XH (by rw [hv0]; simp [Instr.fill])
            obtain ⟨xH,F2,k1,k2⟩:=FL (r:=aZ d 0) (e:=e) (k:=kk) (xs:=List.replicate len kk.zero) (own:=e :: kk.tys) (arr:=uj (bN kk).toArray (len * kk.size)) (lo:=0) (hi:=0) (n:=len) (c:=len) H g1 (eU d 0)
              (aJ.2 (by simp)) yJ.zero (by simp) (agt _) (by rw [hzs]; exact agt _)
              (fun i hi=>by
                have hi':i<len:=by simpa using hi
                refine ⟨bN kk,hzl,fun j hj=>?_,fun h ok=>?_⟩
                · have hs:=congrArg (fun l=>l[j]?) (IA hk hzl hi')
                  rw [jW (by omega),Array.getElem?_toList] at hs
                  exact hs
                · have:(List.replicate len kk.zero)[i]'hi=kk.zero:=by simp
                  rw [this]
                  exact Yq h ok _) false w.drawn
            exact gU (x:=.one (.ref (aZ d 0) 0)) k1 hd hdn hrun k2 ⟨_,aH .., .inr (agM _)⟩
          · exact h7.elim
    | _=>exact h.elim
end
section
variable {P:Program} {T:iF} {cx:Cx} {σ:St} {α:dK} {F:List Nat} {a:Act} {w:World} {o:Oper} {d:Nat} {ws:List Wr} {r:Nat} {R:Root}
abbrev iT (R:Root) (e:TypeId) (kk:K) (ys:List (El kk)):Root:={ R with k:=.sl e kk,x:=ys,w:=e :: R.w }
theorem FM (H:Rel cx σ α F a w) (hr:aO σ r R) (hv:bu σ R) (hk:R.kind=.anon) {e:TypeId} {kk:K} {xs ys:List (El kk)} (hq:(⟨R.k,R.x⟩:Dat)=⟨.sl e kk,xs⟩) (hf:kk.flat=true) (hl:ys.length=xs.length) {w':World}
    (hos:w'.os=w.os∧w'.tape=w.tape∧w'.output=w.output) (hsize:w.heap.size≤w'.heap.size) (IB:∀b,hp w' b≠hp w b→b∈α.fo r∧nH (hp w) b=some e) (how:∀ok,Ow (hp w') R.own ok (.sl e kk) ys (α.hdr r) (α.fo r)) :
    Rel cx (aj σ r (iT R e kk ys)) (aG α r (α.loc r) (α.hdr r) (α.fo r)) [] a w'∧
      ∀g v,g≤R.g→bJ cx σ α F w (.ref r g) v→bJ cx (aj σ r (iT R e kk ys)) (aG α r (α.loc r) (α.hdr r) (α.fo r)) [] w' (.ref r g) v:=by
  have hblk:blk α R r=α.fo r:=by simp [blk,dS,hk]
  have hk':(iT R e kk ys).kind=.anon:=hk
  have hRk:R.k=.sl e kk:=congrArg (fun q:Dat=>q.1) hq
  have hd':(iT R e kk ys).bn=false:=by simp [Root.bn,hk]
  have K0:=H.roots r R hr
  have hnt:=H.dn r R hr.1
  have wG:∀g v,g≤R.g→bJ cx σ α F w (.ref r g) v→bJ cx (aj σ r (iT R e kk ys)) (aG α r (α.loc r) (α.hdr r) (α.fo r)) [] w' (.ref r g) v:=by
    intro g v _ hold Q hQ hg
    obtain ⟨rfl,_⟩:=eH hQ
    obtain ⟨h1,h2⟩:=hold R hr hg
    refine ⟨h1, ?_⟩
    simp only [aG,upd_same]
    rw [hRk] at h2
    exact h2
  have T1:vo cx σ α F w r R (iT R e kk ys) (α.fo r) [] w' [e] []:=by
    refine ⟨.inr ⟨rfl,rfl,agt _,rfl,fun h=>by rw [hk] at h; simp at h, .inl (by simp)⟩,⟨fun t ht=>hnt.1 t ht,fun n hn=>hnt.2.2 n hn⟩,hos,hsize,fun b hb hne=>?_,fun _ b hb=>?_,fun b hb=>by simp at hb,List.nodup_nil,fun _ b _ h=>by simp at h,fun j pi b o n hj hb Vr hne=>?_,fun _=>⟨rfl,rfl⟩⟩
    · obtain ⟨h1,h2⟩:=IB b hne
      exact .inr ⟨by rw [hblk]; exact h1, .inr (.inl ⟨e,by simp,h2⟩)⟩
    · rw [gG hk'] at hb
      rw [hblk]
      exact .inl hb
    · obtain ⟨Q,hQ,hkq,_,_⟩:=H.jV j pi b o n hj hb
      have hQR:Q=R:=by have:=hQ.1; rw [←Vr,hr.1] at this; simpa using this.symm
      rw [hQR,hk] at hkq
      simp at hkq
  refine ⟨T1.rel H hr (fun _=>⟨fun _=>how _,by rw [K0.len,hRk],fun b o hb=>by rw [ug hk'] at hb; simp at hb,by rw [gG hk', ←hblk]; exact K0.nd⟩) ?_ (fun _=>wG),wG⟩
  intro _ p n v hn hold
  refine ⟨hold.1,fun Q hQ Rp hcl hty hs=>?_⟩
  rw [aH] at hQ
  simp only [agb] at hQ
  subst hQ
  cases p with
  | nil=>
    obtain ⟨_,cs,b,o,h1,_⟩:=hold.2 R hr.1 hv (by simp [clean,dW,au]) (fun t ht=>by simp [aa] at ht) rfl
    simp only [bH,agb,agn] at h1
    have:dS α R r=none:=by simp [dS,hk]
    rw [this] at h1
    simp at h1
  | cons s q=>
    have hcl':clean R.h n (dW (s :: q) R.k)=true:=by rw [hRk]; exact hcl
    obtain ⟨g1,cs,b,o,g2,g3⟩:=hold.2 R hr.1 hv hcl' (fun t ht=>hty t (by rw [hRk] at ht; exact ht)) (by
      have h9:(aP (s :: q) (.sl e kk) ys).isSome=true:=hs
      rw [nP (s :: q) (y:=xs)] at h9
      have:=congrArg (fun d:Dat=>(aP (s :: q) d.1 d.2).isSome) hq
      exact this.trans h9)
    have g1:=cast (congrArg (fun d:Dat=>kJ (s :: q) d.1 d.2) hq) g1
    simp only at g1
    cases s with
    | fH m=>exact g1.elim
    | idx i=>
      obtain ⟨p1,p2,p3⟩:=g1
      rw [hRk] at g2
      have hwn:dS α R r=none:=by simp [dS,hk]
      have adl:dS (aG α r (α.loc r) (α.hdr r) (α.fo r)) (iT R e kk ys) r=none:=by
        have hkk:(iT R e kk ys).kind=R.kind:=rfl
        unfold dS
        rw [hkk,hk]
      have hd2:(aG α r (α.loc r) (α.hdr r) (α.fo r)).hdr r=α.hdr r:=by simp [aG,upd_same]
      rw [adl,hd2]
      simp only [bH] at g2
      split at g2
      · rename_i ad m c hh
        obtain ⟨k1,c1,k2⟩:=qP (h':=hp w') (own:=[]) q (y:=(show List (El kk) from ys).getD i.toNat kk.zero) (cs':=mY (hp w') ad.block (ad.off+i.toNat * kk.size) kk.size) p3 (fun t ht=>by
          have:=lX q t ht
          rw [tV hf] at this
          simp at this) g2
        refine ⟨⟨p1, ?_,k1⟩,c1,b,o, ?_,g3⟩
        · show i<((ys.length:Nat):Int)
          have:i<((xs.length:Nat):Int):=p2
          omega
        · show bH (hp w') (.idx i :: q) (.sl e kk) (α.hdr r) none=_
          rw [hh]
          simp only [bH]
          exact k2
      · simp at g2
theorem TY {own:List TypeId} {ok:Nat→Prop} {e:TypeId} {kk:K} {xs zs:List (El kk)} {b q n c s:Nat} {fo:List Nat} {news:List Value} (hf:kk.flat=true) (he:au e own=true) (hs:s+zs.length≤xs.length) (hz:0<zs.length) (hkk:0<kk.size)
    (H:Ow (hp w) own ok (.sl e kk) xs [.slice (some ⟨b,q,none⟩) n c] fo) (hnl:news.length=zs.length * kk.size) (hel:∀i (hi:i<zs.length),Vw (hp w) (fun _=>True) kk zs[i] (kN news kk.size i)) (h1:∀v∈news,v.oneCell'=true) :
    (storeCells ⟨b,q+s * kk.size,none⟩ news).run P w=.ok () (w.setCells b (q+s * kk.size) news)∧b∈fo∧nH (hp w) b=some e∧(∀b',b'≠b→hp (w.setCells b (q+s * kk.size) news) b'=hp w b')∧(w.setCells b (q+s * kk.size) news).heap.size=w.heap.size∧
      ∀ok',Ow (hp (w.setCells b (q+s * kk.size) news)) own ok' (.sl e kk) (xs.take s++zs++xs.drop (s+zs.length)) [.slice (some ⟨b,q,none⟩) n c] fo:=by
  unfold Ow at H
  rw [if_pos he] at H
  obtain ⟨a0,n',c',e1,e2,e3,H⟩:=H
  simp only [List.cons.injEq,Value.slice.injEq,and_true] at e1
  obtain ⟨rfl,rfl,rfl⟩:=e1
  have e2:n=xs.length:=e2
  rcases H with ⟨hc,_⟩ | ⟨bb,q',arr,lo,hi,ea,hb,hfr,hsz,bC,hl,hp0,H⟩
  · omega
  · simp only [agb,Addr.mk.injEq,and_true] at ea
    obtain ⟨rfl,rfl⟩:=ea
    have hm:(s+zs.length) * kk.size≤c * kk.size:=agJ _ (by omega)
    rw [Nat.add_mul] at hm
    have hle:q+s * kk.size+news.length≤arr.size:=by rw [hnl]; omega
    have hst:=kE (P:=P) (o:=q+s * kk.size) news hb hfr hle h1
    obtain ⟨s1,s2,jH,s3,s4,s5,s6⟩:=qo b news w arr e (lo,hi) (q+s * kk.size) hb hle
    have h0:∀l∈bC,l=[]:=by
      intro l hl'
      obtain ⟨i,hi',rfl⟩:=List.mem_iff_getElem.1 hl'
      have hl:bC.length=xs.length:=hl
      obtain ⟨ds,_,h2⟩:=H i (by show i<xs.length; omega)
      have:=AU hf h2
      rw [←this]; simp [agq,hi']
    have hg0:∀i,bC.getD i []=[]:=fun i=>by
      by_cases hi:i<bC.length
      · have:=h0 (bC[i]) (agG hi)
        simp [agq,hi,this]
      · simp [agq,hi]
    refine ⟨hst,hp0.mem_iff.2 (by simp),by unfold nH; rw [hb],s1,s2,fun ok'=>?_⟩
    unfold Ow
    rw [if_pos he]
    have hlen:(xs.take s++zs++xs.drop (s+zs.length)).length=xs.length:=by simp; omega
    refine ⟨_,_,_,rfl,by show n=(xs.take s++zs++xs.drop (s+zs.length)).length; omega,e3, .inr ⟨b,q,jH,lo,hi,rfl,s3,by rw [s4]; exact hfr,by rw [s4]; exact hsz,bC,by show bC.length=(xs.take s++zs++xs.drop (s+zs.length)).length; rw [hlen]; exact hl,hp0,fun i hi=>?_⟩⟩
    rw [hg0]
    have hi':i<xs.length:=by have:i<(xs.take s++zs++xs.drop (s+zs.length)).length:=hi; omega
    have hcell:∀t,cellAt (hp (w.setCells b (q+s * kk.size) news)) b t=jH[t]?:=fun t=>by unfold cellAt; rw [s3]
    have hcell0:∀t,cellAt (hp w) b t=arr[t]?:=fun t=>by unfold cellAt; rw [hb]
    by_cases hin:s≤i∧i<s+zs.length
    · have hx:(show List (El kk) from xs.take s++zs++xs.drop (s+zs.length))[i]'hi=zs[i - s]'(by omega):=by
        show (xs.take s++zs++xs.drop (s+zs.length))[i]'hi=_
        rw [List.getElem_append_left (by simp; omega),List.getElem_append_right (by simp; omega)]
        congr 1
        simp
        omega
      rw [hx]
      have hlt:i - s<zs.length:=by omega
      have hv:=hel (i - s) hlt
      refine ⟨kN news kk.size (i - s),fun j hj=>?_,nE (fun t ht=>?_) (iG hf hv)⟩
      · rw [oM hnl hlt] at hj
        rw [hcell,jW hj]
        have hb2:(i - s+1) * kk.size≤zs.length * kk.size:=agJ _ (by omega)
        rw [Nat.add_mul,Nat.one_mul] at hb2
        have hi2:i * kk.size=s * kk.size+(i - s) * kk.size:=by rw [←Nat.add_mul]; congr 1; omega
        rw [show q+i * kk.size+j=q+s * kk.size+((i - s) * kk.size+j) by omega]
        exact s5 _ (by rw [hnl]; omega)
      · rw [tV hf] at ht; simp at ht
    · have hx:(show List (El kk) from xs.take s++zs++xs.drop (s+zs.length))[i]'hi=xs[i]'hi':=by
        show (xs.take s++zs++xs.drop (s+zs.length))[i]'hi=_
        by_cases hlt:i<s
        · rw [List.getElem_append_left (by simp; omega),List.getElem_append_left (by simp; omega)]
          simp
        · rw [List.getElem_append_right (by simp; omega)]
          simp only [List.getElem_drop]
          congr 1
          simp
          omega
      rw [hx]
      obtain ⟨ds,g1,g2⟩:=H i hi'
      have hg:=hg0 i
      rw [hg] at g2
      refine ⟨ds,fun j hj=>?_,nE (fun t ht=>by rw [tV hf] at ht; simp at ht) (iG hf (jK (fun _=>True) (fun _ _=>trivial) (fun _ _=>trivial) g2))⟩
      rw [hcell]
      have hj':=g1 j hj
      rw [hcell0] at hj'
      rw [←hj']
      have hds:=dh g2
      refine s6 _ fun hc=>hin ?_
      rw [hnl] at hc
      constructor
      · refine agz fun h=>?_
        have:(i+1) * kk.size≤s * kk.size:=agJ _ (by omega)
        rw [Nat.add_mul,Nat.one_mul] at this
        omega
      · refine agz fun h=>?_
        have:(s+zs.length) * kk.size≤i * kk.size:=agJ _ (by omega)
        rw [Nat.add_mul] at this
        omega
end
section
variable {P:Program} {T:iF} {cx:Cx} {σ:St} {α:dK} {F:List Nat} {a:Act} {w:World} {o:Oper} {d:Nat} {ws:List Wr} {r:Nat} {R:Root}
theorem JY (H:Rel cx σ α F a w) (hr:aO σ r R) (hv:bu σ R) (hk:R.kind=.anon) {e:TypeId} {kk:K} {xs zs:List (El kk)} {s:Nat} (hq:(⟨R.k,R.x⟩:Dat)=⟨.sl e kk,xs⟩) (hf:kk.flat=true) (he:au e R.own=true) (hkk:0<kk.size) (hs:s+zs.length≤xs.length)
    {b:Option Addr} {n c:Nat} (hh:α.hdr r=[.slice b n c]) {bb:Option Addr} (hbb:0<zs.length→bb=b.map (·.add (s * kk.size)))
    {news:List Value} (hnl:news.length=zs.length * kk.size) (hel:∀i (hi:i<zs.length),Vw (hp w) (fun _=>True) kk zs[i] (kN news kk.size i)) (h1:∀v∈news,v.oneCell'=true) :
    ∃w',(∀ad,bb=some ad→(storeCells ad news).run P w=.ok () w')∧(zs.length=0→w'=w)∧(0<zs.length→∃ad,bb=some ad)∧
      Rel cx (aj σ r (iT R e kk (xs.take s++zs++xs.drop (s+zs.length)))) (aG α r (α.loc r) (α.hdr r) (α.fo r)) [] a w'∧
      ∀g v,g≤R.g→bJ cx σ α F w (.ref r g) v→bJ cx (aj σ r (iT R e kk (xs.take s++zs++xs.drop (s+zs.length)))) (aG α r (α.loc r) (α.hdr r) (α.fo r)) [] w' (.ref r g) v:=by
  have hRk:R.k=.sl e kk:=congrArg (fun q:Dat=>q.1) hq
  have hO:Ow (hp w) R.own (gW cx σ α F w R.tags) (.sl e kk) xs [.slice b n c] (α.fo r):=by
    have:=cast (congrArg (fun q:Dat=>Ow (hp w) R.own (gW cx σ α F w R.tags) q.1 q.2 (α.hdr r) (α.fo r)) hq) ((H.roots r R hr).ow hv)
    simp only at this
    rw [hh] at this
    exact this
  by_cases hz:0<zs.length
  · have hb0:∃bk q,b=some ⟨bk,q,none⟩:=by
      have BZ:=hO
      unfold Ow at BZ
      rw [if_pos he] at BZ
      obtain ⟨a0,n',c',e1,e2,e3,H'⟩:=BZ
      simp only [List.cons.injEq,Value.slice.injEq,and_true] at e1
      obtain ⟨rfl,rfl,rfl⟩:=e1
      have e2:n=xs.length:=e2
      rcases H' with ⟨hc,_⟩ | ⟨bk,q,arr,lo,hi,ea,_⟩
      · omega
      · exact ⟨bk,q,ea⟩
    obtain ⟨bk,q,rfl⟩:=hb0
    obtain ⟨g1,g2,g3,g4,g5,g6⟩:=TY (P:=P) (w:=w) hf he hs hz hkk hO hnl hel h1
    have hb1:bb=some ⟨bk,q+s * kk.size,none⟩:=by rw [hbb hz]; simp [addr_add]
    obtain ⟨r1,r2⟩:=FM (w':=w.setCells bk (q+s * kk.size) news) H hr hv hk (ys:=xs.take s++zs++xs.drop (s+zs.length)) hq hf (by simp; omega) (mZ _ _ _ _) (by omega)
      (fun b' hb'=>by
        by_cases e:b'=bk
        · subst e; exact ⟨g2,g3⟩
        · exact absurd (g4 b' e) hb') (fun ok=>by rw [hh]; exact g6 ok)
    exact ⟨_,fun ad ha=>by rw [hb1] at ha; simp only [agb] at ha; subst ha; exact g1,fun h=>by omega,fun _=>⟨_,hb1⟩,r1,r2⟩
  · have hz0:zs=[]:=List.eq_nil_of_length_eq_zero (by omega)
    subst hz0
    have hn0:news=[]:=List.eq_nil_of_length_eq_zero (by simpa using hnl)
    subst hn0
    have hys:xs.take s++[]++xs.drop (s+([]:List (El kk)).length)=xs:=by simp
    obtain ⟨r1,r2⟩:=FM (w':=w) H hr hv hk (ys:=xs.take s++[]++xs.drop (s+([]:List (El kk)).length)) hq hf (by simp) ⟨rfl,rfl,rfl⟩ (agt _) (fun b' hb'=>absurd rfl hb') (fun ok=>by
      rw [hys,hh]
      have hO2:=fV (ok':=ok) (dA (k:=.sl e kk) (own:=R.own) (fun t ht=>by simp only [K.tys,tV hf,agw] at ht; subst ht; exact he)) hO
      exact hO2)
    exact ⟨w,fun ad _=>by cases ad; rfl,fun _=>rfl,fun h=>by simp at h,r1,r2⟩
end
section
variable {P:Program} {T:iF} {cx:Cx} {σ:St} {α:dK} {F:List Nat} {a:Act} {w:World} {o:Oper} {d:Nat} {ws:List Wr} {r:Nat} {R:Root}
theorem pG {A:Type} {z:A} {g:Nat} {k:Root→(e:TypeId)→(kk:K)→List (El kk)→Prog A} (h:(ownRow r g k).ends σ z) :
    ∃R e kk xs,aO σ r R∧bu σ R∧R.g=g∧(⟨R.k,R.x⟩:Dat)=⟨.sl e kk,xs⟩∧kk.flat=true∧au e R.own=true∧(k R e kk xs).ends σ z:=by
  unfold ownRow at h
  obtain ⟨R,hr,hv,h⟩:=cK h
  rcases ay h with ⟨hg,h⟩ | ⟨_,h⟩
  · have hK:∀q:Dat,(⟨R.k,R.x⟩:Dat)=q→(match q.1,q.2 with
        | .sl e kk,xs=>bif kk.flat && au e R.own then k R e kk (show List (El kk) from xs) else .fail
        | _,_=>Prog.fail).ends σ z→∃R e kk xs,aO σ r R∧bu σ R∧R.g=g∧(⟨R.k,R.x⟩:Dat)=⟨.sl e kk,xs⟩∧kk.flat=true∧au e R.own=true∧(k R e kk xs).ends σ z:=by
      intro q hq hh
      obtain ⟨qk,qx⟩:=q
      cases qk with
      | sl e kk=>
        simp only at hh
        rcases ay hh with ⟨hc,hh⟩ | ⟨_,hh⟩
        · simp only [agi] at hc
          exact ⟨R,e,kk,qx,hr,hv,agf hg,hq,hc.1,hc.2,hh⟩
        · exact hh.elim
      | _=>exact hh.elim
    exact hK _ rfl h
  · exact h.elim
theorem zh (H:Rel cx σ α F a w) (hr:aO σ r R) (hv:bu σ R) {e:TypeId} {kk:K} {xs:List (El kk)} (hq:(⟨R.k,R.x⟩:Dat)=⟨.sl e kk,xs⟩) (he:au e R.own=true) {v:Value} (h:VC R.k v (α.hdr r)) :
    ∃b n c,v=.slice b n c∧α.hdr r=[.slice b n c]∧n=xs.length∧n≤c:=by
  have hO:=cast (congrArg (fun q:Dat=>Ow (hp w) R.own (gW cx σ α F w R.tags) q.1 q.2 (α.hdr r) (α.fo r)) hq) ((H.roots r R hr).ow hv)
  have hV:VC (.sl e kk) v (α.hdr r):=cast (congrArg (fun q:Dat=>VC q.1 v (α.hdr r)) hq) h
  simp only at hO
  unfold Ow at hO
  rw [if_pos he] at hO
  obtain ⟨b,n,c,e1,e2,e3,_⟩:=hO
  rw [hV.1] at e1
  simp only [List.cons.injEq,and_true] at e1
  exact ⟨b,n,c,e1,by rw [hV.1,e1],e2,e3⟩
theorem Ik {len cap:Nat} {lo hi:Option Int} {l h:Option Value} (hl:lo=none→l=none) (hl':∀j,lo=some j→∃ik,l=some (.int ik j)) (hh:hi=none→h=none) (hh':∀j,hi=some j→∃ik,h=some (.int ik j))
    (h0:0≤lo.getD 0) (h1:lo.getD 0≤hi.getD (len:Int)) (h2:hi.getD (len:Int)≤(cap:Int)) :
    (Instr.sliceBounds true len cap l h none).run P w=.ok ((lo.getD 0).toNat,(hi.getD (len:Int)).toNat,cap) w:=by
  unfold Instr.sliceBounds
  cases hi with
  | none=>
    rw [hh rfl]
    simp only [Option.getD_none] at h1 h2
    cases lo with
    | none=>rw [hl rfl]; simp
    | some j=>
      obtain ⟨ik,e⟩:=hl' j rfl
      simp only [Option.getD_some] at h0 h1
      rw [e]
      simp [Instr.sliceBound,asIntOf,h0,h1]
  | some i=>
    obtain ⟨ik,e⟩:=hh' i rfl
    simp only [Option.getD_some] at h1 h2
    have f1:0≤i:=by omega
    rw [e]
    cases lo with
    | none=>rw [hl rfl]; simp [Instr.sliceBound,asIntOf,f1,h2]
    | some j=>
      obtain ⟨Zj,e2⟩:=hl' j rfl
      simp only [Option.getD_some] at h0 h1
      have g3:j≤max i 0:=by omega
      rw [e2]
      simp [Instr.sliceBound,asIntOf,f1,h2,h0]
      omega
theorem CU {t e:TypeId} {k:K} (ht:fE P T t (.sl e k)) {b:Option Addr} {n c:Nat} {lo hi:Option Int} {l h:Option Value} (hl:lo=none→l=none) (hl':∀j,lo=some j→∃ik,l=some (.int ik j)) (hh:hi=none→h=none) (hh':∀j,hi=some j→∃ik,h=some (.int ik j))
    (h0:0≤lo.getD 0) (h1:lo.getD 0≤hi.getD (n:Int)) (h2:hi.getD (n:Int)≤(c:Int)) :
    (Instr.sliceAt t (.slice b n c) l h none).run P w=.ok (.slice (if c=(lo.getD 0).toNat then b else b.map (·.add ((lo.getD 0).toNat * k.size))) ((hi.getD (n:Int)).toNat - (lo.getD 0).toNat) (c - (lo.getD 0).toNat)) w:=by
  obtain ⟨hu,he,_,_⟩:=ht.sl
  unfold Instr.sliceAt Instr.slice
  simp only [agD,run_underlying hu,Result.andThen,Ik (w:=w) hl hl' hh hh' h0 h1 h2,he.info.sizeOf w,agI]
theorem add_add (b:Option Addr) (m n:Nat):(b.map (·.add m)).map (·.add n)=b.map (·.add (m+n)):=by
  cases b with
  | none=>rfl
  | some ad=>obtain ⟨x,y,z⟩:=ad; by_cases hm:m=0 <;> by_cases hn:n=0 <;> simp [Addr.add,hm,hn,Nat.add_assoc]
theorem add_zero (b:Option Addr):b.map (·.add 0)=b:=by
  cases b with
  | none=>rfl
  | some ad=>obtain ⟨x,y,z⟩:=ad; simp [Addr.add]
theorem Dk (hT:dX P T) (H:Rel cx σ α F a w) (hd:o.dst=some d) (hdn:d<cx.nt) {t:TypeId} {x:Operand} {lo hi mx:Option Operand}
    (h:(match T.ty t with
      | some kk=>dL x fun a=>Ak lo fun lo=>Ak hi fun hi=>Ak mx fun mx=>K7 kk a lo hi mx fun u=>.ret [Wr.s d (.one u)]
      | none=>(.fail:Prog (List Wr))).ends σ ws) (ho:o.op=.slice t x lo hi mx):nU P cx o a w (az ws σ):=by
  cases hty:T.ty t with
  | none=>rw [hty] at h; exact h.elim
  | some k0=>
    rw [hty] at h
    have ht:=hT.ty t k0 hty
    obtain ⟨u,h1,h2,h⟩:=bR H h
    obtain ⟨lo',h,l1,l2⟩:=vP H h
    obtain ⟨hi',h,g1,g2⟩:=vP H h
    obtain ⟨mx',h,m1,m2⟩:=vP H h
    have hl:lo'=none→lo.map a.eval=none:=fun e=>by rw [l1.1 e]; rfl
    have hh:hi'=none→hi.map a.eval=none:=fun e=>by rw [g1.1 e]; rfl
    cases u with
    | ref r g=>
      simp only [K7] at h
      obtain ⟨R,e,kk,xs,hr,hv,hg,hq,hf,he,h⟩:=pG h
      rcases ay h with ⟨hk0,h5⟩ | ⟨_,h5⟩
      · clear h
        have ek:=K.eq_of_beq hk0
        subst ek
        obtain ⟨hka,x9⟩:=h1 R hr hg
        obtain ⟨b,n,c,ev,eh,en,hnc⟩:=zh H hr hv hq he x9
        cases mx' with
        | none=>
          have hmx:mx.map a.eval=none:=by rw [m1.1 rfl]; rfl
          obtain ⟨⟨c1,c2,c3⟩,h6⟩:=h5
          rw [aB h6]
          have hrun:=CU (P:=P) (w:=w) (b:=b) (n:=n) (c:=c) ht hl l2 hh g2 c1 (by rw [en]; exact c2) (by rw [en]; omega)
          refine bK (x:=.one (.part r g (lo'.getD 0).toNat (hi'.getD (xs.length:Int)).toNat kk.size)) H hd hdn (v:=.slice (if c=(lo'.getD 0).toNat then b else b.map (·.add ((lo'.getD 0).toNat * kk.size))) ((hi'.getD (n:Int)).toNat - (lo'.getD 0).toNat) (c - (lo'.getD 0).toNat)) ?_ ?_ ⟨R,hr.1, .inr (by omega)⟩
          · simp only [execOp,ho,ev,hmx,agD,hrun,agv,agI]
          · refine ⟨_,b,n,c,by rw [en], ?_,by omega,by rw [en]; omega,hnc, ?_⟩
            · rintro (h0 | h0)
              · rw [h0]; simp [add_zero]
              · rw [if_neg h0]
            · rw [←ev]; exact h1
        | some m=>
          obtain ⟨jk,hmx⟩:=m2 m rfl
          simp only at h5
          rcases ay h5 with ⟨hs,h6⟩ | ⟨_,h6⟩
          · obtain ⟨⟨c1,c2,c3,c4⟩,h7⟩:=h6
            rw [aB h7]
            cases hi' with
            | none=>simp at hs
            | some i=>
              obtain ⟨ik,ehi⟩:=g2 i rfl
              simp only [Option.getD_some] at c2 c3
              obtain ⟨hu,he',_,_⟩:=ht.sl
              have c5:m≤(c:Int):=by omega
              have hrun:∃v,(Instr.sliceAt t (.slice b n c) (lo.map a.eval) (hi.map a.eval) (mx.map a.eval)).run P w=.ok v w:=by
                unfold Instr.sliceAt Instr.slice Instr.sliceBounds
                rw [hmx,ehi]
                cases lo' with
                | none=>
                  rw [hl rfl]
                  simp only [Option.getD_none] at c1 c2
                  refine ⟨.slice (if m.toNat=0 then b else b.map (·.add (0 * kk.size))) (i.toNat - 0) (m.toNat - 0), ?_⟩
                  simp [run_underlying hu,Instr.sliceBound,asIntOf,c5,c3,he'.info.sizeOf w,show 0≤m by omega,show 0≤i by omega,show (i≤max m 0) by omega,Result.andThen]
                | some j=>
                  obtain ⟨lk,elo⟩:=l2 j rfl
                  rw [elo]
                  simp only [Option.getD_some] at c1 c2
                  refine ⟨.slice (if m.toNat=j.toNat then b else b.map (·.add (j.toNat * kk.size))) (i.toNat - j.toNat) (m.toNat - j.toNat), ?_⟩
                  simp [run_underlying hu,Instr.sliceBound,asIntOf,c5,c3,c1,he'.info.sizeOf w,show 0≤m by omega,show 0≤i by omega,show (i≤max m 0) by omega,show (j≤max i 0) by omega,Result.andThen]
              obtain ⟨v,hrun⟩:=hrun
              exact bK (x:=.one .undef) H hd hdn (v:=v) (by simp only [execOp,ho,ev,agD,hrun,agv,agI]) trivial trivial
          · exact h6.elim
      · exact h5.elim
    | part r g l0 h0 sz=>
      simp only [K7] at h
      obtain ⟨R,e,kk,xs,hr,hv,hg,hq,hf,he,h⟩:=pG h
      rcases ay h with ⟨hk0,h5⟩ | ⟨_,h5⟩
      · clear h
        simp only [agi] at hk0
        have ek:=K.eq_of_beq hk0.1.1
        subst ek
        have hsz:kk.size=sz:=agf hk0.1.2
        subst hsz
        cases mx' with
        | some m=>simp at hk0
        | none=>
          have hmx:mx.map a.eval=none:=by rw [m1.1 rfl]; rfl
          obtain ⟨⟨c1,c2,c3⟩,h6⟩:=h5
          rw [aB h6]
          obtain ⟨b',b,n,c,ev,eb,e2,e3,e4,hrf⟩:=h1
          obtain ⟨hka,x9⟩:=hrf R hr hg
          obtain ⟨b2,n2,c2',R6,eh,en,hnc⟩:=zh H hr hv hq he x9
          simp only [Value.slice.injEq] at R6
          obtain ⟨rfl,rfl,rfl⟩:=R6
          have hrun:=CU (P:=P) (w:=w) (b:=b') (n:=h0 - l0) (c:=c - l0) ht hl l2 hh g2 c1 c2 (by omega)
          refine bK (x:=.one (.part r g (l0+(lo'.getD 0).toNat) (l0+(hi'.getD ((h0 - l0:Nat):Int)).toNat) kk.size)) H hd hdn
            (v:=.slice (if c - l0=(lo'.getD 0).toNat then b' else b'.map (·.add ((lo'.getD 0).toNat * kk.size))) ((hi'.getD ((h0 - l0:Nat):Int)).toNat - (lo'.getD 0).toNat) (c - l0 - (lo'.getD 0).toNat)) ?_ ?_ ⟨R,hr.1, .inr (by omega)⟩
          · simp only [execOp,ho,ev,hmx,agD,hrun,agv,agI]
          · refine ⟨if c - l0=(lo'.getD 0).toNat then b' else b'.map (·.add ((lo'.getD 0).toNat * kk.size)),b,n,c, ?_, ?_,by omega,by rw [en]; omega,e4,hrf⟩
            · rw [show l0+(hi'.getD ((h0 - l0:Nat):Int)).toNat - (l0+(lo'.getD 0).toNat)=(hi'.getD ((h0 - l0:Nat):Int)).toNat - (lo'.getD 0).toNat by omega,show c - (l0+(lo'.getD 0).toNat)=c - l0 - (lo'.getD 0).toNat by omega]
            · rintro (h0' | h0')
              · have z1:l0=0:=by omega
                have z2:(lo'.getD 0).toNat=0:=by omega
                rw [eb (.inl z1),z1,z2]
                simp [add_zero]
              · rw [if_neg (by omega)]
                rw [eb (by omega),add_add,Nat.add_mul]
      · exact h5.elim
    | _=>exact h.elim
end
section
variable {P:Program} {T:iF} {cx:Cx} {σ:St} {α:dK} {F:List Nat} {a:Act} {w:World} {o:Oper} {d:Nat} {ws:List Wr} {r:Nat} {R:Root}
theorem K5 {c:Call} {u:AV} (h:dQ cx σ α F w [u] (c.args.toList.map a.eval)):∃x,c.args.toList=[x]∧bJ cx σ α F w u (a.eval x):=by
  revert h
  generalize c.args.toList=l
  intro h
  cases l with
  | nil=>exact h.elim
  | cons x l=>cases l with
    | nil=>exact ⟨x,rfl,h.1⟩
    | cons _ _=>exact h.2.elim
theorem C9 {c:Call} {u v:AV} (h:dQ cx σ α F w [u,v] (c.args.toList.map a.eval)):∃x y,c.args.toList=[x,y]∧bJ cx σ α F w u (a.eval x)∧bJ cx σ α F w v (a.eval y):=by
  revert h
  generalize c.args.toList=l
  intro h
  cases l with
  | nil=>exact h.elim
  | cons x l=>cases l with
    | nil=>exact h.2.elim
    | cons y l=>cases l with
      | nil=>exact ⟨x,y,rfl,h.1,h.2.1⟩
      | cons _ _=>exact h.2.2.elim
theorem Ke {kk:K} {m:Nat} (hk:0<kk.size) (hz:(bN kk).length=kk.size) (hg:eO kk=true):(uj (bN kk).toArray (m * kk.size)).toList.length=m * kk.size∧(∀i,i<m→kN (uj (bN kk).toArray (m * kk.size)).toList kk.size i=bN kk)∧
    ∀v∈(uj (bN kk).toArray (m * kk.size)).toList,v.oneCell'=true:=by
  refine ⟨by simp [uj],fun i hi=>IA hk hz hi,fun v hv=>?_⟩
  simp only [uj,Array.toList_map,agO] at hv
  obtain ⟨i,_,rfl⟩:=hv
  have hlt:i % (bN kk).toArray.size<(bN kk).toArray.size:=Nat.mod_lt _ (by simp [hz,hk])
  have h1:=EI hg (jK (h:=hp (default:World)) (own:=kk.tys) (ok:=fun _=>False) (fun _=>True) (fun _ _=>trivial) (fun _ _=>trivial) (yH hg (fun t ht=>aJ.2 ht)))
  rw [getElem!_pos (bN kk).toArray _ hlt]
  exact h1 _ (by simp)
theorem LV (hT:dX P T) (H:Rel cx σ α F a w) {c:Call} (ho:o.op=.call c) (hcb:c.callee=.builtin .clear) {u:AV} {e0:TypeId} {k0:K} (hl:dQ cx σ α F w [u] (c.args.toList.map a.eval)) (ht0:(c.argTypes[0]?).bind T.ty=some (.sl e0 k0))
    (h:(Jf (.sl e0 k0) u fun ws=>(.ret ws:Prog (List Wr))).ends σ ws):∃v w' α',(execOp a.eval o).run P w=.ok (.value v) w'∧Rel cx (az ws σ) α' [] a w':=by
  obtain ⟨x,hx,hu⟩:=K5 hl
  obtain ⟨t,hat,ht⟩:=qF hT ht0
  cases u with
  | part r g lo hi sz=>
    simp only [Jf] at h
    obtain ⟨R,e,kk,xs,hr,hv,hg,hq,hf,he,h⟩:=pG h
    rcases ay h with ⟨hsz,h5⟩ | ⟨_,h5⟩
    · clear h
      simp only [agi] at hsz
      have ek:=K.eq_of_beq hsz.1
      have hsz:=agf hsz.2
      subst hsz
      obtain ⟨rfl,rfl⟩:e=e0∧kk=k0:=by simpa using ek
      rw [aB h5]
      obtain ⟨b',b,n,c',ev,eb,e2,e3,e4,hrf⟩:=hu
      obtain ⟨hka,x9⟩:=hrf R hr hg
      obtain ⟨b2,n2,c2',R6,eh,en,hnc⟩:=zh H hr hv hq he x9
      simp only [Value.slice.injEq] at R6
      obtain ⟨rfl,rfl,rfl⟩:=R6
      obtain ⟨hun,hel,hks,_⟩:=ht.sl
      have UH:=hel.eO
      have hzl:(bN kk).length=kk.size:=by
        have:=yH (h:=hp w) (ok:=fun _=>False) (own:=kk.tys) UH (fun t ht=>aJ.2 ht)
        exact dh this
      obtain ⟨z1,z2,z3⟩:=Ke (m:=hi - lo) hks hzl UH
      obtain ⟨w',r1,r2,r3,r4,_⟩:=JY (P:=P) (zs:=List.replicate (hi - lo) kk.zero) (s:=lo) H hr hv hka hq hf he hks (by simp; omega) (b:=b) (n:=n) (c:=c') eh (bb:=b') (fun h0=>eb (by
          simp only [List.length_replicate] at h0
          omega)) (news:=(uj (bN kk).toArray ((hi - lo) * kk.size)).toList) (by rw [z1]; simp) (fun i hi'=>by
          have hi2:i<hi - lo:=by simpa using hi'
          rw [z2 i hi2]
          have:(List.replicate (hi - lo) kk.zero)[i]'hi'=kk.zero:=by simp
          rw [this]
          exact jK (own:=kk.tys) (ok:=fun _=>False) _ (fun _ _=>trivial) (fun _ _=>trivial) (yH UH (fun t ht=>aJ.2 ht))) z3
      have hdrop:lo+(List.replicate (hi - lo) kk.zero).length=hi:=by simp; omega
      rw [hdrop] at r4
      obtain ⟨cc,hcc⟩:=iU (P:=P) (a:=a) (w:=w) ho hcb
      have Oq:(c.args.map a.eval)[0]?=some (.slice b' (hi - lo) (c' - lo)):=by
        rw [←Array.getElem?_toList,Array.toList_map,hx]
        simp [ev]
      refine ⟨.tuple #[],w',_, ?_,r4⟩
      rw [hcc]
      have hrun:(Builtin.clear_ c.argTypes o.type (c.args.map a.eval)).run P w=.ok (.tuple #[]) w':=by
        unfold Builtin.clear_
        simp only [hat,Oq]
        by_cases h0:hi - lo=0
        · rw [h0]
          rw [r2 (by simp [h0])]
          cases b' <;> simp [run_underlying hun,Result.andThen]
        · obtain ⟨ad,had⟩:=r3 (by simp; omega)
          subst had
          have hst:=r1 ad rfl
          have hzc:(Builtin.zeroCells (oU kk).cells (hi - lo)).toList=(uj (bN kk).toArray ((hi - lo) * kk.size)).toList:=by
            rw [rU hel.shape]
            unfold Builtin.zeroCells uj
            simp [hzl]
          obtain ⟨m,hm⟩:∃m,hi - lo=m+1:=⟨hi - lo - 1,by omega⟩
          rw [hm] at hzc hst ⊢
          simp only [agD,run_underlying hun,agv,hel.info.zero w,hzc,hst,agI]
      simp only [builtin,agD,hrun,agv,agI]
    · exact h5.elim
  | _=>exact h.elim
end
section
variable {P:Program} {T:iF} {cx:Cx} {σ:St} {α:dK} {F:List Nat} {a:Act} {w:World} {o:Oper} {d:Nat} {ws:List Wr} {r:Nat} {R:Root}
theorem LW (hT:dX P T) (H:Rel cx σ α F a w) (hd:o.dst=some d) (hdn:d<cx.nt) {c:Call} (ho:o.op=.call c) (hcb:c.callee=.builtin .append) {u v:AV} {e0 e1:TypeId} {k0 k1:K} (hl:dQ cx σ α F w [u,v] (c.args.toList.map a.eval))
    (ht0:(c.argTypes[0]?).bind T.ty=some (.sl e0 k0)) (ht1:(c.argTypes[1]?).bind T.ty=some (.sl e1 k1)) (h:(Jg (.sl e0 k0) d u v fun ws=>(.ret ws:Prog (List Wr))).ends σ ws):nU P cx o a w (az ws σ):=by
  obtain ⟨x,y,hxy,hu,hv0⟩:=C9 hl
  obtain ⟨t,hat,ht⟩:=qF hT ht0
  obtain ⟨t2,Q9,ht2⟩:=qF hT ht1
  cases u with
  | part r g l0 h0 sz=>
    cases v with
    | part r' g' l1 h1 sz'=>
      simp only [Jg] at h
      obtain ⟨R,e,kk,xs,hr,hv,hg,hq,hf,he,h⟩:=pG h
      rcases ay h with ⟨hc,h5⟩ | ⟨_,h5⟩
      · clear h
        simp only [agi] at hc
        obtain ⟨⟨⟨⟨⟨c1,c2⟩,c3⟩,c4⟩,c5⟩,c6⟩:=hc
        have ek:=K.eq_of_beq c1
        have c2:=agf c2
        have c3:=agf c3
        have c4:=agf c4
        have c5:=agf c5
        have c6:=agf c6
        subst c2 c3 c4 c5 c6
        obtain ⟨rfl,rfl⟩:e=e0∧kk=k0:=by simpa using ek
        obtain ⟨hle,h6⟩:=h5
        rw [aB h6]
        obtain ⟨b1,b,n,cp,ev1,eb1,e2,e3,e4,hrf⟩:=hu
        obtain ⟨b2,b',n',cp',R6,eb2,f2,f3,f4,ade⟩:=hv0
        obtain ⟨hka,x9⟩:=hrf R hr hg
        obtain ⟨_,acr⟩:=ade R hr hg
        obtain ⟨q1,q2,q3,ev,eh,en,hnc⟩:=zh H hr hv hq he x9
        simp only [Value.slice.injEq] at ev
        obtain ⟨rfl,rfl,rfl⟩:=ev
        obtain ⟨q1,q2,q3,ev,eh',_,_⟩:=zh H hr hv hq he acr
        simp only [Value.slice.injEq] at ev
        obtain ⟨rfl,rfl,rfl⟩:=ev
        rw [eh] at eh'
        simp only [List.cons.injEq,Value.slice.injEq,and_true] at eh'
        obtain ⟨rfl,rfl,rfl⟩:=eh'
        have hb1:b1=b:=by rw [eb1 (.inl rfl)]; simp [add_zero]
        subst hb1
        obtain ⟨hun,hel,hks,_⟩:=ht.sl
        have UH:=hel.eO
        have hO:Ow (hp w) R.own (gW cx σ α F w R.tags) (.sl e kk) xs [.slice b1 n cp] (α.fo r):=by
          have:=cast (congrArg (fun q:Dat=>Ow (hp w) R.own (gW cx σ α F w R.tags) q.1 q.2 (α.hdr r) (α.fo r)) hq) ((H.roots r R hr).ow hv)
          simp only at this
          rw [eh] at this
          exact this
        have hV:=jK (fun _=>True) (fun _ _=>trivial) (fun _ _=>trivial) hO
        have hVp:=Kt hV f2 (by omega:h1≤n)
        have hlz:((xs.take h1).drop l1).length=h1 - l1:=by
          have:n=xs.length:=en
          simp; omega
        have hVy:Vw (hp w) (fun _=>True) (.sl e kk) (show List (El kk) from (xs.take h1).drop l1) [.slice b2 (h1 - l1) (cp - l1)]:=by
          by_cases hcl:cp=l1
          · refine ⟨_,_,_,rfl,hlz.symm,by omega,fun h=>?_⟩
            omega
          · rw [if_neg hcl] at hVp
            rw [eb2 (.inr hcl)]
            exact hVp
        obtain ⟨news,hS,hE⟩:=FU (P:=P) (u:=t2) (xs:=(xs.take h1).drop l1) (v:=a.eval y) (.inl ⟨_,ht2.sl.1⟩) UH rfl (cs:=[.slice b2 (h1 - l1) (cp - l1)]) ⟨by rw [R6],by rw [R6]; simp⟩ hVy
        have hzl:((show List (El kk) from (xs.take h1).drop l1)).length=h1 - l1:=hlz
        have hroom:h0+((xs.take h1).drop l1).length≤cp:=by omega
        obtain ⟨w',r1,r2,r3,r4,r5⟩:=JY (P:=P) (zs:=(xs.take h1).drop l1) (s:=h0) H hr hv hka hq hf he hks (by rw [hlz]; have:n=xs.length:=en; omega) (b:=b1) (n:=n) (c:=cp) eh (bb:=b1.map (·.add (h0 * kk.size))) (fun _=>rfl) (news:=news) hS.nl hE hS.one
        rw [hlz] at r4 r5
        have hrun:=tF (P:=P) (ty:=o.type) (t:=t) (u:=t2) ht hS (b:=b1) (n:=h0) (c:=cp) hroom
        have D7:(Builtin.append_ #[t,t2] o.type #[a.eval x,a.eval y]).run P w=.ok (.slice b1 (h0+(h1 - l1)) cp) w':=by
          rw [ev1]
          simp only [Nat.sub_zero]
          rw [hrun,hlz]
          cases hbb:b1 with
          | none=>
            have:((xs.take h1).drop l1).length=0:=by
              refine agz fun hne=>?_
              obtain ⟨ad,had⟩:=r3 (by omega)
              rw [hbb] at had
              simp at had
            rw [r2 this]
            simp [Result.andThen]
          | some ad=>
            have:=r1 (ad.add (h0 * kk.size)) (by rw [hbb]; rfl)
            simp only [this,agv]
        show nU P cx o a w (az [Wr.s d (.one (.part r g 0 (h0+(h1 - l1)) kk.size))] (aj σ r (iT R e kk (xs.take h0++(xs.take h1).drop l1++xs.drop (h0+(h1 - l1))))))
        refine gU (x:=.one (.part r g 0 (h0+(h1 - l1)) kk.size)) (v:=.slice b1 (h0+(h1 - l1)) cp) r4 hd hdn (kD ho hcb hxy hat Q9 D7) ?_ ⟨_,aH .., .inr (by rw [←hg]; exact agt _)⟩
        refine ⟨b1,b1,n,cp,by simp,fun _=>by simp [add_zero],by omega,by omega,e4,r5 g (.slice b1 n cp) (by omega) hrf⟩
      · exact h5.elim
    | _=>exact h.elim
  | _=>exact h.elim
theorem GD (hT:dX P T) (H:Rel cx σ α F a w) (hd:o.dst=some d) (hdn:d<cx.nt) {c:Call} (ho:o.op=.call c) (hcb:c.callee=.builtin .len) {r g lo hi sz:Nat} {e0:TypeId} {k0:K} (hl:dQ cx σ α F w [.part r g lo hi sz] (c.args.toList.map a.eval))
    (ht0:(c.argTypes[0]?).bind T.ty=some (.sl e0 k0)):nU P cx o a w (az [.s d (.one (.val (.int .i64) ((hi - lo:Nat):Int) []))] σ):=by
  obtain ⟨x,hx,hu⟩:=K5 hl
  obtain ⟨t,hat,ht⟩:=qF hT ht0
  obtain ⟨b',b,n,cp,ev,_⟩:=hu
  have Oq:(c.args.map a.eval)[0]?=some (.slice b' (hi - lo) (cp - lo)):=by
    rw [←Array.getElem?_toList,Array.toList_map,hx]
    simp [ev]
  obtain ⟨cc,hcc⟩:=iU (P:=P) (a:=a) (w:=w) ho hcb
  refine bK H hd hdn ?_ (lY .i64 (n:=((hi - lo:Nat):Int)) trivial) vg
  rw [hcc]
  simp only [builtin,agD,Lb (ty:=o.type) (w:=w) hat Oq (.inr ⟨⟨_,ht.sl.1⟩,b',cp - lo,rfl⟩),agv,agI]
theorem Il {t u ty e:TypeId} {k:K} (ht:fE P T t (.sl e k)) {b:Option Addr} {n c m:Nat} {x:Value} {news:List Value} (hs:Src P w k.size u x m news) (hr:m≤n) :
    (Builtin.copy_ #[t,u] ty #[.slice b n c,x]).run P w=(match b with
      | some a=>(storeCells a news).run P w
      | none=>.ok () w).andThen fun _ w'=>.ok (.int .i64 (m:Int)) w':=by
  obtain ⟨hu,he,_,_⟩:=ht.sl
  have e1:=hs.len w
  have e2:=hs.cells.1
  have hm:Nat.min m n=m:=Nat.min_eq_left hr
  cases b <;> simp [Builtin.copy_,run_underlying hu,he.info.sizeOf w,e1,e2,hm,Result.andThen,goInt]
theorem NV (hT:dX P T) (H:Rel cx σ α F a w) (hd:o.dst=some d) (hdn:d<cx.nt) {c:Call} (ho:o.op=.call c) (hcb:c.callee=.builtin .copy) {u v:AV} {e0 e1:TypeId} {k0 k1:K} (hl:dQ cx σ α F w [u,v] (c.args.toList.map a.eval)) (hwv:oz σ v)
    (ht0:(c.argTypes[0]?).bind T.ty=some (.sl e0 k0)) (ht1:(c.argTypes[1]?).bind T.ty=some (.sl e1 k1)) (h:(NS (.sl e0 k0) d u v fun ws=>(.ret ws:Prog (List Wr))).ends σ ws):nU P cx o a w (az ws σ):=by
  obtain ⟨x,y,hxy,hu,hv0⟩:=C9 hl
  obtain ⟨t,hat,ht⟩:=qF hT ht0
  obtain ⟨t2,Q9,ht2⟩:=qF hT ht1
  cases u with
  | ref r g=>
    simp only [NS] at h
    obtain ⟨R,e,kk,xs,hr,hv,hg,hq,hf,he,h⟩:=pG h
    rcases ay h with ⟨hc,h5⟩ | ⟨_,h5⟩
    · clear h
      have ek:=K.eq_of_beq hc
      obtain ⟨rfl,rfl⟩:e=e0∧kk=k0:=by simpa using ek
      obtain ⟨hun,hel,hks,_⟩:=ht.sl
      have UH:=hel.eO
      obtain ⟨s,h6,_,_,news,_,_,_,_,_,_,hS,hels⟩:=Ip (P:=P) (u:=t2) H (.inl ⟨_,ht2.sl.1⟩) UH hv0 hwv h5
      obtain ⟨hle,h7⟩:=h6
      rw [aB h7]
      obtain ⟨hka,x9⟩:=hu R hr (by omega)
      obtain ⟨b,n,cp,ev,eh,en,hnc⟩:=zh H hr hv hq he x9
      obtain ⟨bC,wL,_,_,_,hE⟩:=hels [] (fun t ht=>by rw [tV hf] at ht; simp at ht)
      have hb0:b.map (·.add (0 * kk.size))=b:=by rw [Nat.zero_mul]; exact add_zero b
      obtain ⟨w',r1,r2,r3,r4,r5⟩:=JY (P:=P) (zs:=s.xs) (s:=0) H hr hv hka hq hf he hks (by omega) (b:=b) (n:=n) (c:=cp) eh (bb:=b) (fun _=>hb0.symm) (news:=news) hS.nl (fun i hi=>jK (fun _=>True) (fun _ _=>trivial) (fun _ _=>trivial) (hE i hi)) hS.one
      have hxs:xs.take 0++s.xs++xs.drop (0+s.xs.length)=s.xs++xs.drop s.xs.length:=by simp
      rw [hxs] at r4 r5
      have hrun:=Il (P:=P) (ty:=o.type) (t:=t) (u:=t2) ht hS (b:=b) (n:=n) (c:=cp) (by omega)
      have D7:(Builtin.copy_ #[t,t2] o.type #[a.eval x,a.eval y]).run P w=.ok (.int .i64 (s.xs.length:Int)) w':=by
        rw [ev,hrun]
        cases hbb:b with
        | none=>
          have:s.xs.length=0:=by
            refine agz fun hne=>?_
            obtain ⟨ad,had⟩:=r3 (by omega)
            rw [hbb] at had
            simp at had
          rw [r2 this]
          simp [Result.andThen]
        | some ad=>
          have:=r1 ad hbb
          simp only [this,agv]
      have Yf:(execOp a.eval o).run P w=.ok (.value (.int .i64 (s.xs.length:Int))) w':=by
        obtain ⟨cc,hcc⟩:=iU (P:=P) (a:=a) (w:=w) ho hcb
        rw [hcc]
        have h1:c.args.map a.eval=#[a.eval x,a.eval y]:=by
          apply Array.ext'
          rw [Array.toList_map,hxy]
          rfl
        have h2:Builtin.copy_ c.argTypes o.type #[a.eval x,a.eval y]=Builtin.copy_ #[t,t2] o.type #[a.eval x,a.eval y]:=by
          unfold Builtin.copy_
          simp only [hat]
          rfl
        rw [h1]
        simp only [builtin,agD,h2,D7,agv,agI]
      show nU P cx o a w (az [Wr.s d (.one (.val (.int .i64) (s.xs.length:Int) []))] (aj σ r (iT R e kk (s.xs++xs.drop s.xs.length))))
      exact gU (x:=.one (.val (.int .i64) (s.xs.length:Int) [])) r4 hd hdn Yf (lY .i64 (n:=((s.xs.length:Nat):Int)) trivial) vg
    · exact h5.elim
  | _=>exact h.elim
theorem Du {t e:TypeId} (ht:fE P T t (.sl e (.int .u8))) {b q n c:Nat} {arr:Array Value} {e':TypeId} {fr:Nat×Nat} (hb:hp w b=some (.cells arr e' fr)) :
    (convert t t (.slice (some ⟨b,q,none⟩) n c)).run P w=.ok (.slice (some ⟨b,q,none⟩) n c) (w.freeze ⟨b,arr.size,none⟩ 1):=by
  obtain ⟨h1,h2,_⟩:=ht.sl
  have he:P.underlying e=some (.int .u8):=by
    unfold fE iX at h2
    exact h2.1
  have hsh:w.shape? b=some (e',arr.size):=by
    have:w.heap[b]?=some (.cells arr e' fr):=hb
    unfold World.shape?
    rw [this]
  simp [convert,run_underlying h1,run_underlying he,markStringish,hsh]
theorem Me {b:Nat} {arr:Array Value} {e':TypeId} {lo hi:Nat} (hb:hp w b=some (.cells arr e' (lo,hi))) (hf:yJ arr.size lo hi) :
    (∀b',b'≠b→hp (w.freeze ⟨b,arr.size,none⟩ 1) b'=hp w b')∧∃lo' hi',hp (w.freeze ⟨b,arr.size,none⟩ 1) b=some (.cells arr e' (lo',hi'))∧yJ arr.size lo' hi':=by
  have hb':w.heap[b]?=some (.cells arr e' (lo,hi)):=hb
  have e0:(w.freeze ⟨b,arr.size,none⟩ 1).heap=w.heap.modify b fun
      | .cells c elem (lo,hi)=>.cells c elem (if lo == hi then (arr.size,arr.size+1) else (min lo arr.size,max hi (arr.size+1)))
      | o=>o:=by
    unfold World.freeze
    rw [if_neg (by decide)]
    rfl
  refine ⟨fun b' hne=>?_, ?_⟩
  · show (w.freeze ⟨b,arr.size,none⟩ 1).heap[b']?=w.heap[b']?
    rw [e0,Array.getElem?_modify,if_neg (Ne.symm hne)]
  · have e1:hp (w.freeze ⟨b,arr.size,none⟩ 1) b=some (.cells arr e' (if lo == hi then (arr.size,arr.size+1) else (min lo arr.size,max hi (arr.size+1)))):=by
      show (w.freeze ⟨b,arr.size,none⟩ 1).heap[b]?=_
      rw [e0,Array.getElem?_modify,if_pos rfl,hb']
      rfl
    cases hlh:(lo == hi) with
    | true=>rw [hlh] at e1; exact ⟨_,_,e1,by omega,fun i hi=>by omega⟩
    | false=>
      rw [hlh] at e1
      have hne:lo≠hi:=by simpa using hlh
      have hle:=hf.le
      have hs:arr.size≤lo:=agz fun h=>hf.out lo (by omega) ⟨agt _,by omega⟩
      exact ⟨_,_,e1,by omega,fun i hi=>by omega⟩
theorem LU (hT:dX P T) (H:Rel cx σ α F a w) (hd:o.dst=some d) (hdn:d<cx.nt) {t e:TypeId} {x:Operand} {u:AV} (ho:o.op=.convert t t x) (ht0:T.ty t=some (.sl e (.int .u8))) (hu:bJ cx σ α F w u (a.eval x))
    (h:(I8 e d u fun ws=>(.ret ws:Prog (List Wr))).ends σ ws):nU P cx o a w (az ws σ):=by
  have ht:=hT.ty t _ ht0
  cases u with
  | ref r g=>
    simp only [I8] at h
    obtain ⟨R,e',kk,xs,hr,hv,hg,hq,hf,he,h⟩:=pG h
    rcases ay h with ⟨hc,h5⟩ | ⟨_,h5⟩
    · clear h
      obtain ⟨h6,h7⟩:=h5
      rw [aB h7]
      have ek:=K.eq_of_beq hc
      obtain ⟨rfl,rfl⟩:e'=e∧kk=.int .u8:=by simpa using ek
      obtain ⟨hka,x9⟩:=hu R hr (by omega)
      have hO:=cast (congrArg (fun q:Dat=>Ow (hp w) R.own (gW cx σ α F w R.tags) q.1 q.2 (α.hdr r) (α.fo r)) hq) ((H.roots r R hr).ow hv)
      have hV:VC (.sl e' (.int .u8)) (a.eval x) (α.hdr r):=cast (congrArg (fun q:Dat=>VC q.1 (a.eval x) (α.hdr r)) hq) x9
      simp only at hO
      have Zb:=hO
      unfold Ow at hO
      rw [if_pos he] at hO
      obtain ⟨ad,n,c,e1,e2,e3,hO⟩:=hO
      have h6':0<(show List Int from xs).length:=h6
      rcases hO with ⟨hc0,_⟩ | ⟨b,q,arr,lo,hi,ea,hb,hfr,hs,bC,hl,hpm,hE⟩
      · have:n=(show List Int from xs).length:=e2
        omega
      · subst ea
        have ev:a.eval x=.slice (some ⟨b,q,none⟩) n c:=by
          have:=hV.1
          rw [e1] at this
          simpa using this.symm
        have Ye:=Du (P:=P) (w:=w) ht (n:=n) (c:=c) (q:=q) hb
        obtain ⟨g1,lo',hi',g2,g3⟩:=Me hb hfr
        have hcell:∀i,cellAt (hp (w.freeze ⟨b,arr.size,none⟩ 1)) b i=cellAt (hp w) b i:=fun i=>by unfold cellAt; rw [g2,hb]
        have acv:b∈α.fo r:=hpm.mem_iff.2 (by simp)
        have Re:(w.freeze ⟨b,arr.size,none⟩ 1).os=w.os∧(w.freeze ⟨b,arr.size,none⟩ 1).tape=w.tape∧(w.freeze ⟨b,arr.size,none⟩ 1).output=w.output∧(w.freeze ⟨b,arr.size,none⟩ 1).heap.size=w.heap.size:=by
          unfold World.freeze
          rw [if_neg (by decide)]
          exact ⟨rfl,rfl,rfl,by simp⟩
        have hE':∀(i:Nat) (hi:i<(show List Int from xs).length),∃ds,Cells (hp w) b (q+i * K.size (.int .u8)) ds∧Ow (hp w) R.own (gW cx σ α F w R.tags) (.int .u8) ((show List Int from xs)[i]) ds (bC.getD i []):=hE
        obtain ⟨r4,r5⟩:=FM (w':=w.freeze ⟨b,arr.size,none⟩ 1) (ys:=xs) H hr hv hka hq hf rfl ⟨Re.1,Re.2.1,Re.2.2.1⟩ (by rw [Re.2.2.2]; exact agt _)
          (fun b' hne=>by
            by_cases hbb:b'=b
            · subst hbb
              exact ⟨acv,by unfold nH; rw [hb]⟩
            · exact absurd (g1 b' hbb) hne)
          (fun ok=>by
            unfold Ow
            rw [if_pos he]
            refine ⟨some ⟨b,q,none⟩,n,c,e1,e2,e3, .inr ⟨b,q,arr,lo',hi',rfl,g2,g3,hs,bC,hl,hpm,fun i hi=>?_⟩⟩
            obtain ⟨ds,k1,k2⟩:=hE' i hi
            exact ⟨ds,fun j hj=>by rw [hcell]; exact k1 j hj,k2⟩)
        have hrun:(execOp a.eval o).run P w=.ok (.value (a.eval x)) (w.freeze ⟨b,arr.size,none⟩ 1):=by
          simp only [execOp,ho,ev,agD,Ye,agv,agI]
        show nU P cx o a w (az [Wr.s d (.one (.ref r g))] (aj σ r (iT R e' (.int .u8) xs)))
        exact gU (x:=.one (.ref r g)) r4 hd hdn hrun (r5 g (a.eval x) (by omega) hu) ⟨_,aH .., .inr (by show g≤R.g; omega)⟩
    · exact h5.elim
  | _=>exact h.elim
theorem E8 (hT:dX P T) (H:Rel cx σ α F a w) (hd:o.dst=some d) (hdn:d<cx.nt) (h:(CY T o d fun ws=>(.ret ws:Prog (List Wr))).ends σ ws):nU P cx o a w (az ws σ):=by
  unfold CY at h
  split at h
  · rename_i t x lo hi mx ho
    exact Dk hT H hd hdn h ho
  · rename_i c ho
    split at h
    · rename_i hcb
      obtain ⟨vs,h1,h2,h⟩:=iN H h
      split at h
      · split at h
        · rename_i ht0
          rw [aB h]
          exact GD hT H hd hdn ho hcb h1 ht0
        · exact h.elim
      · exact h.elim
    · rename_i hcb
      obtain ⟨vs,h1,h2,h⟩:=iN H h
      split at h
      · split at h
        · rename_i ht0 ht1
          exact LW hT H hd hdn ho hcb h1 ht0 ht1 h
        · exact h.elim
      · exact h.elim
    · rename_i hcb
      obtain ⟨vs,h1,h2,h⟩:=iN H h
      split at h
      · split at h
        · rename_i ht0 ht1
          exact NV hT H hd hdn ho hcb h1 (h2 _ (by simp)) ht0 ht1 h
        · exact h.elim
      · exact h.elim
    · exact h.elim
  · rename_i t ps ho
    exact QX hT H hd hdn h ho
  · rename_i s t x ho
    split at h
    · rename_i hty
      rcases ay h with ⟨hst,h9⟩ | ⟨_,h9⟩
      · have hst:=agf hst
        obtain ⟨u,h1,h2,h9⟩:=bR H h9
        exact LU hT H hd hdn (by rw [ho,hst]) hty h1 h9
      · exact h9.elim
    · exact h.elim
  · exact h.elim
end
theorem Hq {p:List Stp}:∀{q:List Stp},rJ p q=true→He p=He q→p=q:=by
  induction p with
  | nil=>intro q h _; cases q with
    | nil=>rfl
    | cons s q=>cases s <;> simp [rJ] at h
  | cons s p ih=>
    intro q h hi
    cases q with
    | nil=>cases s <;> simp [rJ] at h
    | cons u q=>
      cases s with
      | fH n=>
        cases u with
        | fH m=>
          simp only [rJ,agi] at h
          rw [agf h.1,ih h.2 hi]
        | idx j=>simp [rJ] at h
      | idx i=>
        cases u with
        | fH m=>simp [rJ] at h
        | idx j=>
          simp only [He,List.cons.injEq] at hi
          rw [hi.1,ih h hi.2]
theorem MG {p:List Stp}:∀{q:List Stp},rJ p q=true→p.all Stp.nR=true→q.all Stp.nR=true:=by
  induction p with
  | nil=>intro q h _; cases q with
    | nil=>rfl
    | cons s q=>cases s <;> simp [rJ] at h
  | cons s p ih=>
    intro q h hi
    cases q with
    | nil=>cases s <;> simp [rJ] at h
    | cons u q=>
      cases s with
      | idx i=>simp [Stp.nR] at hi
      | fH n=>
        cases u with
        | idx j=>simp [rJ] at h
        | fH m=>
          simp only [rJ,agi] at h
          simp only [List.all_cons,agi] at hi ⊢
          exact ⟨rfl,ih h.2 hi.2⟩
theorem D8 {p:List Stp}:p.all Stp.nR=true→He p=[]:=by
  induction p with
  | nil=>intro _; rfl
  | cons s p ih=>
    intro h
    simp only [List.all_cons,agi] at h
    cases s with
    | fH n=>exact ih h.2
    | idx i=>exact absurd h.1 (by simp [Stp.nR])
section
variable {P:Program} {T:iF} {cx:Cx} {σ:St} {α:dK} {F:List Nat} {a:Act} {w:World} {o:Oper} {d:Nat} {ws:List Wr} {r:Nat} {R:Root}
theorem Ii {t e:TypeId} {kk:K} (hT:fE P T t (.sl e kk)) (H:Rel cx σ α F a w) (hr:aO σ r R) (hv:bu σ R) {p:List Stp} {xs ys:List (El kk)} {z:Dat} (hg:aP p R.k R.x=some ⟨.sl e kk,xs⟩) (hz:dU p R.k R.x ⟨.sl e kk,ys⟩=some z) (fK:kJ p R.k R.x)
    (hown:∀t∈aa p R.k,au t R.own=true) (hall:∀t∈(K.sl e kk).tys,au t R.own=true) {cs1:List Value} {b o:Nat} (hn:bH (hp w) p R.k (α.hdr r) (dS α R r)=some (cs1,some (b,o))) {v:Value} (yf:∃bv nv cv,v=.slice bv nv cv) {lw:List TypeId} (X0:eG R p∈lw)
    (how:∀fI ok,Ow (hp w) R.own ok (.sl e kk) xs cs1 fI→fI.Nodup→(∀b∈fI,b∈α.fo r)→∃ft,ft.Nodup∧(∀b∈ft,b∈fI∨b∈F)∧Ow (hp w) R.own (fun _=>False) (.sl e kk) ys [v] ft) :
    ∃w',(Instr.storeAt t (.pointer (some ⟨b,o,none⟩)) v).run P w=.ok () w'∧∃α' F',Rel cx (aj σ r (bI R z R.own R.tags lw (K.sl e kk).tys R.keep)) α' F' a w':=by
  have K0:=H.roots r R hr
  have hnt:=H.dn r R hr.1
  obtain ⟨_,_,hbb,⟨arr,te,lo,hi,hb,hf,hs,hlast⟩,_⟩:=mX H hr hv hg fK hown hn
  have hone:∀u∈[v],u.oneCell'=true:=by
    intro u hu
    simp only [agw] at hu
    subst hu
    obtain ⟨bv,nv,cv,rfl⟩:=yf
    rfl
  have adk:VC (.sl e kk) v [v]:=by
    obtain ⟨bv,nv,cv,rfl⟩:=yf
    exact ⟨rfl,by simp⟩
  have hrun:=zZ (o:=o) hT hb hf (show [v].length=(K.sl e kk).size from rfl) hs adk hone
  obtain ⟨s1,s2,jH,s3,s4,s5,s6⟩:=qo b [v] w arr te (lo,hi) o hb hs
  have s7:=mZ b [v] w o
  refine ⟨_,hrun, ?_⟩
  obtain ⟨fd,ok',fI,rest,mM,kS,hn',hpf,hd1,hty,_,uN,hwf,hgo⟩:=H.place hr hv (own':=R.own) hg fK (fun t h=>h) hown
  rw [hn] at hn'
  simp only [agb,agn] at hn'
  obtain ⟨rfl,rfl⟩:=hn'
  have hnd:=K0.nd
  rw [bX,kL] at hnd
  have OJ:=hpf.nodup hnd.2
  have KF:∀b∈fI,b∈α.fo r:=fun b hb=>hpf.mem_iff.2 (agh _ (agh _ hb))
  obtain ⟨ft,acN,OA,acO⟩:=how fI ok' hd1 (agj.1 (agj.1 OJ).1).1 KF
  have Ah:b∉F:=H.iD r R hr b hbb
  have acw:b∉ft:=fun h=>by
    rcases OA b h with h | h
    · exact hwf b o rfl h
    · exact Ah h
  have hF':∀b',b'∈F.filter (fun b=>!au b ft)↔b'∈F∧b'∉ft:=fun b'=>by rw [agu]; simp [aT]
  have hP:o7 cx σ α F w r R p ⟨.sl e kk,xs⟩ R.own cs1 (some (b,o)) fI rest ⟨.sl e kk,ys⟩ z R.tags lw (K.sl e kk).tys R.keep ft (F.filter fun b=>!au b ft) [v] (w.setCells b o [v]):=by
    refine ⟨hz,rfl,fun _ h=>h,⟨s7.1,s7.2.1,s7.2.2⟩,by omega,fun b' _ hne=>?_,fun b' o' e'=>?_,fun h=>by simp at h,rfl, .inl (fun h=>by rw [h] at X0; simp at X0),⟨fun _ h=>h,hnt.1,hnt.2.2⟩,fun b' hb'=>(OA b' hb').imp id .inl,acN,fun b' hb'=>.inl ((hF' b').1 hb').1,H.uW.filter _,
      fun b' hb' h=>((hF' b').1 h).2 hb', .inl rfl, .inl rfl,fun _ q c0 w0 hpq OX hnq Vq=>?_,fun α' Tn hblk hval=>?_⟩
    · refine .inr (.inr ?_)
      by_cases e:b'=b
      · subst e; exact ⟨o,rfl,X0⟩
      · exact absurd (s1 b' e) hne
    · simp only [agb,agn] at e'
      obtain ⟨rfl,rfl⟩:=e'
      refine ⟨fun i hi=>?_,arr,jH,te,(lo,hi),hb,s3,s4,fun i hi=>s6 i hi⟩
      unfold cellAt
      rw [s3]
      exact s5 i hi
    · cases q with
      | nil=>
        simp only [bH,agb,agn] at hnq
        exact ⟨trivial,[v],by simp only [bH]; rw [hnq.2]⟩
      | cons s q=>
        cases s with
        | fH n=>exact hpq.elim
        | idx i=>exact absurd (show e∈(K.sl e kk).tys by simp [K.tys]) (OX e (by simp [aa])).2
    · exact fV (dA hall) (bz (fun _ h=>h.elim) (fun _ h=>h) (fun b' hb'=>s1 b' (fun e=>acw (e▸hb'))) acO)
  obtain ⟨α',h,_⟩:=hgo hP
  exact ⟨α',_,h⟩
theorem EY (hT:dX P T) (H:Rel cx σ α F a w) (hd:o.dst=none) {t:TypeId} {x y:Operand} (ho:o.op=.store t x y) {u:AV} {r n m:Nat} {p:List Stp} {k0:K} (hk0:T.ty t=some k0) (h1:bJ cx σ α F w u (a.eval x)) (h2:oz σ u) (h3:bJ cx σ α F w (.tq r p n m) (a.eval y))
    (h:(yU k0 u r p n m fun ws=>(.ret ws:Prog (List Wr))).ends σ ws):nU P cx o a w (az ws σ):=by
  have ht:=hT.ty t k0 hk0
  cases k0 with
  | sl e kk=>
    cases u with
    | ptr r' p' h0=>
      simp only [yU] at h
      rcases ay h with ⟨hc,h5⟩ | ⟨_,h5⟩
      · clear h
        simp only [agi] at hc
        obtain ⟨hix,h6⟩:=h5
        have er:=agf hc.1
        have ep:=Hq hc.2 hix
        subst er ep
        obtain ⟨R,hr,hv,h7⟩:=cK h6
        rcases ay h7 with ⟨hc2,h8⟩ | ⟨_,h8⟩
        · simp only [agi] at hc2
          obtain ⟨⟨⟨c1,c2⟩,c3⟩,c4⟩:=hc2
          have hall:=jA c4
          cases hg:aP p R.k R.x with
          | none=>rw [hg] at h8; exact h8.elim
          | some dd=>
            rw [hg] at h8
            simp only at h8
            cases hck:bT dd.1 (.sl e kk) dd.2 with
            | none=>rw [hck] at h8; exact h8.elim
            | some xs=>
              rw [hck] at h8
              simp only at h8
              obtain ⟨ek,ey⟩:=bO hck
              obtain ⟨dk,dx⟩:=dd
              simp only at ek ey
              subst ek
              simp only at ey
              subst ey
              cases hz:dU p R.k R.x ⟨.sl e kk,(show List (El kk) from xs).take m⟩ with
              | none=>rw [hz] at h8; exact h8.elim
              | some z=>
                rw [hz] at h8
                rw [aB h8]
                obtain ⟨b0,c,ev,h3⟩:=h3
                obtain ⟨fK,hown,q,wh,hn,hmq⟩:=h3 R hr.1 hv (agf c1) _ hg
                obtain ⟨_,cs,b,o',hn2,ep⟩:=h1.2 R hr.1 hv c3 hown (by rw [hg]; rfl)
                rw [hn] at hn2
                simp only [agb,agn] at hn2
                obtain ⟨rfl,rfl⟩:=hn2
                obtain ⟨w',r1,α',F',r2⟩:=Ii (P:=P) ht H hr hv hg hz fK hown hall hn (v:=.slice b0 m c) ⟨_,_,_,rfl⟩ (lw:=eG R p :: (K.sl e kk).tys) (by simp) (fun fI ok hO hnd hsub=>by
                  unfold Ow at hO
                  have he:au e R.own=true:=hall e (by simp [K.tys])
                  rw [if_pos he] at hO
                  obtain ⟨a0,n',c',e1,e2,e3,hO⟩:=hO
                  simp only [List.cons.injEq,Value.slice.injEq,and_true] at e1
                  obtain ⟨rfl,rfl,rfl⟩:=e1
                  have e2:q=@List.length (El kk) xs:=e2
                  have hmx:m≤@List.length (El kk) xs:=by omega
                  have hlen:(@List.take (El kk) m xs).length=m:=by rw [List.length_take]; omega
                  rcases hO with ⟨hc0,hf0⟩ | ⟨bb,o0,arr,lo,hi,ea,hb,hfr,hs,bC,hl,hp0,hO⟩
                  · refine ⟨[],List.nodup_nil,by simp, ?_⟩
                    unfold Ow
                    rw [if_pos he]
                    exact ⟨b0,m,c,rfl,hlen.symm,by omega, .inl ⟨hc0,rfl⟩⟩
                  · have hl:bC.length=(show List (El kk) from xs).length:=hl
                    have nV:=hp0.nodup hnd
                    have OW:((bC.take m).flatten).Sublist bC.flatten:=by
                      have:(bC.take m++bC.drop m).flatten=bC.flatten:=by rw [List.take_append_drop]
                      rw [←this,List.flatten_append]
                      exact List.sublist_append_left _ _
                    refine ⟨bb :: (bC.take m).flatten,(agL.2 ⟨fun h=>(agL.1 nV).1 (OW.subset h),(agL.1 nV).2.sublist OW⟩),fun b' hb'=>.inl (hp0.mem_iff.2 (by
                      rcases agp.1 hb' with h | h
                      · rw [h]; exact agK
                      · exact agB _ (OW.subset h))), ?_⟩
                    have hOO:Ow (hp w) R.own (fun _=>False) (.sl e kk) (show List (El kk) from (show List (El kk) from xs).take m) [.slice b0 m c] (bb :: (bC.take m).flatten):=by
                      unfold Ow
                      rw [if_pos he]
                      refine ⟨b0,m,c,rfl,hlen.symm,by omega, .inr ⟨bb,o0,arr,lo,hi,ea,hb,hfr,hs,bC.take m,by show (bC.take m).length=((show List (El kk) from xs).take m).length; simp [hl], .refl _,fun i hi'=>?_⟩⟩
                      have hi2:i<((show List (El kk) from xs).take m).length:=hi'
                      have hi3:i<m∧i < @List.length (El kk) xs:=by
                        have h9:i<(@List.take (El kk) m xs).length:=hi'
                        rw [hlen] at h9; omega
                      obtain ⟨ds,g1,g2⟩:=hO i hi3.2
                      refine ⟨ds,g1, ?_⟩
                      have e1:(show List (El kk) from (show List (El kk) from xs).take m)[i]'hi'=(show List (El kk) from xs)[i]'hi3.2:=by
                        show ((show List (El kk) from xs).take m)[i]=_
                        simp
                      have e2:(bC.take m).getD i []=bC.getD i []:=by simp [agq,List.getElem?_take,hi3.1]
                      rw [e1,e2]
                      exact fV (dA (fun t ht=>hall t (by simp [K.tys,ht]))) g2
                    exact hOO)
                refine ⟨undef,w',α',F', .inr ⟨?_,rfl⟩, ?_⟩
                · simp only [execOp,ho,ep,ev,agD,r1,agv,agI]
                · rw [hd]
                  exact r2
        · exact h8.elim
      · exact h5.elim
    | _=>exact h.elim
  | _=>exact h.elim
end
section
variable {P:Program} {T:iF} {cx:Cx} {σ:St} {α:dK} {F:List Nat} {a:Act} {w:World} {o:Oper} {d:Nat} {ws:List Wr} {r:Nat} {R:Root}
theorem Lt {t u ty e:TypeId} {kk:K} (ht:fE P T t (.sl e kk)) {own:List TypeId} {ok:Nat→Prop} {xs:List (El kk)} {b:Option Addr} {n c:Nat} {x:Value} {sV:List Nat} {news:List Value}
    (hO:Ow (hp w) own ok (.sl e kk) xs [.slice b n c] sV) (hown:au e own=true) (hS:Src P w kk.size u x 1 news) (hb:(xs.length+1) * T.bytes e≤140737488355328) :
    ∃w' b1 o1 c1 arr lo hi,(Builtin.append_ #[t,u] ty #[.slice b n c,x]).run P w=.ok (.slice (some ⟨b1,o1,none⟩) (n+1) c1) w'∧(w'.os=w.os∧w'.tape=w.tape∧w'.output=w.output)∧w.heap.size≤w'.heap.size∧n+1≤c1∧n=xs.length∧
      hp w' b1=some (.cells arr e (lo,hi))∧yJ arr.size lo hi∧o1+c1 * kk.size≤arr.size∧Cells (hp w') b1 (o1+n * kk.size) news∧(∀b',b'<w.heap.size→b'≠b1→hp w' b'=hp w b')∧
      ((b=some ⟨b1,o1,none⟩∧c=c1∧b1∈sV∧nH (hp w) b1=some e∧gB (hp w) (hp w') b1 (o1+n * kk.size) kk.size)∨
       (b1=w.heap.size∧w.heap.size<w'.heap.size∧(0<n→∃b0 o0,b=some ⟨b0,o0,none⟩∧b0∈sV∧∀i,i<n * kk.size→cellAt (hp w') b1 (o1+i)=cellAt (hp w) b0 (o0+i)))):=by
  have hnl:news.length=kk.size:=by simpa using hS.nl
  unfold Ow at hO
  rw [if_pos hown] at hO
  obtain ⟨a,n',c',e1,e2,e3,hO⟩:=hO
  simp only [List.cons.injEq,Value.slice.injEq,and_true] at e1
  obtain ⟨rfl,rfl,rfl⟩:=e1
  have e2':n=xs.length:=e2
  by_cases hr:n+1≤c
  · have hrun:=tF (ty:=ty) ht hS (b:=b) (n:=n) hr
    rcases hO with ⟨hc0,_⟩ | ⟨bb,q,arr,lo,hi,ea,hbk,hf,hs,rX,hl0,hp0,hO⟩
    · omega
    · subst ea
      have hle:(n+1) * kk.size≤c * kk.size:=agJ _ hr
      rw [Nat.add_mul,Nat.one_mul] at hle
      have hst:=kE (P:=P) (o:=q+n * kk.size) news hbk hf (by rw [hnl]; omega) hS.one
      simp only [Result.andThen,addr_add,hst] at hrun
      obtain ⟨s1,s2,jH,s3,s4,s5,s6⟩:=qo bb news w arr e (lo,hi) (q+n * kk.size) hbk (by rw [hnl]; omega)
      refine ⟨_,bb,q,c,jH,lo,hi,hrun,mZ bb news w _,by omega,hr,e2',s3,by rw [s4]; exact hf,by rw [s4]; exact hs,fun i hi'=>?_,fun b' _ h=>s1 b' h, .inl ⟨rfl,rfl,hp0.mem_iff.2 (by simp),by unfold nH; rw [hbk],arr,jH,e,(lo,hi),hbk,s3,s4,fun i hi'=>?_⟩⟩
      · unfold cellAt
        rw [s3]
        exact s5 i hi'
      · exact s6 i (by rw [hnl]; exact hi')
  · obtain ⟨olds,ho1,ho2,ho3⟩:∃olds:List Value,olds.length=n * kk.size∧(Builtin.firstCells kk.size n (.slice b n c)).run P w.drew=.ok olds.toArray w.drew∧(0<n→∃b0 o0,b=some ⟨b0,o0,none⟩∧b0∈sV∧∀i,i<n * kk.size→olds[i]?=cellAt (hp w) b0 (o0+i)):=by
      rcases hO with ⟨hc0,hf0⟩ | ⟨bb,q,arr,lo,hi,ea,hbk,hf,hs,rX,hl0,hp0,hO⟩
      · have hn0:n=0:=by omega
        subst hn0
        refine ⟨[],by simp, ?_,fun h=>by omega⟩
        cases b with
        | none=>exact run_firstCells_none w.drew kk.size 0 0 c
        | some ad=>exact run_firstCells_some (P:=P) w.drew kk.size 0 ad 0 c [] (by simp) (fun j v hj=>by simp at hj)
      · subst ea
        have hle:n * kk.size≤c * kk.size:=agJ _ e3
        have hrow:=yK (n:=n * kk.size) hbk (by omega:q+n * kk.size≤arr.size)
        have hrl:(mY (hp w) bb q (n * kk.size)).length=n * kk.size:=by simp [mY]
        refine ⟨mY (hp w) bb q (n * kk.size),hrl, ?_,fun _=>⟨bb,q,rfl,hp0.mem_iff.2 (by simp),fun i hi'=>(hrow i (by rw [hrl]; exact hi')).symm⟩⟩
        refine run_firstCells_some (P:=P) w.drew kk.size n ⟨bb,q,none⟩ n c _ hrl (fun j v hj=>?_)
        rw [addr_add,uD]
        have:=hrow j (by rw [hrl]; have:=(List.getElem?_eq_some_iff.1 hj).1; rw [hrl] at this; exact this)
        rw [hj] at this
        exact this
    obtain ⟨nc,hnc,hrun⟩:=vS (ty:=ty) ht hS ho2 hr (by rw [e2']; exact hb)
    have hnew:=oG w.drew (.cells (olds.toArray++news.toArray++Builtin.zeroCells (oU kk).cells (nc - (n+1))) e)
    have hold:∀b',b'<w.heap.size→hp (w.drew.alloc (.cells (olds.toArray++news.toArray++Builtin.zeroCells (oU kk).cells (nc - (n+1))) e)) b'=hp w b':=fun b' h=>mF w.drew _ h
    have hws:w.drew.heap.size=w.heap.size:=rfl
    rw [hws] at hnew
    have hsz2:(w.drew.alloc (.cells (olds.toArray++news.toArray++Builtin.zeroCells (oU kk).cells (nc - (n+1))) e)).heap.size=w.heap.size+1:=Array.size_push ..
    have hzl:(oU kk).cells.size=kk.size:=by
      rw [rU ht.sl.2.1.shape]
      simpa using dh (uh (h:=hp w) (own:=own) (ok:=ok) ht.sl.2.1.eO)
    have hcell:∀q,q<(olds++news).length→cellAt (hp (w.drew.alloc (.cells (olds.toArray++news.toArray++Builtin.zeroCells (oU kk).cells (nc - (n+1))) e))) w.heap.size (0+q)=(olds++news)[q]?:=by
      intro q hq
      unfold cellAt
      rw [hnew]
      simp only [Nat.zero_add]
      rw [Array.getElem?_append_left (by simpa using hq)]
      simp
    refine ⟨_,w.heap.size,0,nc,_,0,0,hrun,⟨rfl,rfl,rfl⟩,by omega,hnc,e2',hnew,yJ.zero, ?_,fun i hi=>?_,fun b' h1 _=>hold b' h1, .inr ⟨rfl,by omega,fun hn=>?_⟩⟩
    · simp only [Array.size_append,List.size_toArray,size_zeroCells,hzl,ho1,hnl]
      have h9:n * kk.size+kk.size+(nc - (n+1)) * kk.size=(n+1+(nc - (n+1))) * kk.size:=by rw [Nat.add_mul,Nat.add_mul,Nat.one_mul]
      rw [h9]
      have:n+1+(nc - (n+1))=nc:=by omega
      rw [this]
      omega
    · rw [Nat.add_assoc,hcell _ (by rw [agk,ho1]; omega),List.getElem?_append_right (by omega),ho1]
      congr 1
      omega
    · obtain ⟨b0,o0,z1,z2,z3⟩:=ho3 hn
      refine ⟨b0,o0,z1,z2,fun i hi=>?_⟩
      rw [hcell _ (by rw [agk,ho1]; omega),List.getElem?_append_left (by rw [ho1]; exact hi)]
      exact z3 i hi
end
section
variable {P:Program} {T:iF} {cx:Cx} {σ:St} {α:dK} {F:List Nat} {a:Act} {w:World} {o:Oper} {d:Nat} {ws:List Wr} {r:Nat} {R:Root}
theorem Lj {h h':Heap} {own:List TypeId} {ok ok':Nat→Prop} {e:TypeId} {kk:K} {xs:List (El kk)} {b1 o1 n c:Nat} {fo:List Nat} (hall:∀t∈(K.sl e kk).tys,au t own=true) (hnd:fo.Nodup)
    (H:Ow h own ok (.sl e kk) xs [.slice (some ⟨b1,o1,none⟩) n c] fo) (hb1:b1∈fo) (hs:gB h h' b1 (o1+n * kk.size) kk.size) (ho:∀b∈fo,b≠b1→h' b=h b):Ow h' own ok' (.sl e kk) xs [.slice (some ⟨b1,o1,none⟩) n c] fo:=by
  have he:au e own=true:=hall e (by simp [K.tys])
  unfold Ow at H ⊢
  rw [if_pos he] at H ⊢
  obtain ⟨a,n',c',e1,e2,e3,H⟩:=H
  simp only [List.cons.injEq,Value.slice.injEq,and_true] at e1
  obtain ⟨rfl,rfl,rfl⟩:=e1
  have e2':n=xs.length:=e2
  refine ⟨_,n,c,rfl,e2,e3, ?_⟩
  rcases H with ⟨hc0,hf0⟩ | ⟨bb,q,arr,lo,hi,ea,hbk,hf,hsz,bC,hl,hp,H⟩
  · rw [hf0] at hb1; simp at hb1
  · simp only [agb,Addr.mk.injEq,and_true] at ea
    obtain ⟨rfl,rfl⟩:=ea
    obtain ⟨abS,jH,te,fr,s1,s2,s3,s4⟩:=hs
    rw [hbk] at s1
    simp only [agb,Obj.cells.injEq] at s1
    obtain ⟨rfl,rfl,rfl⟩:=s1
    have nV:=hp.nodup hnd
    refine .inr ⟨b1,o1,jH,lo,hi,rfl,s2,by rw [s3]; exact hf,by rw [s3]; exact hsz,bC,hl,hp,fun i hi'=>?_⟩
    obtain ⟨ds,g1,g2⟩:=H i hi'
    have hds:=dh g2
    refine ⟨ds,fun j hj=>?_, ?_⟩
    · have:=g1 j hj
      unfold cellAt at this ⊢
      rw [hbk] at this
      rw [s2]
      simp only at this ⊢
      have hlt:(i+1) * kk.size≤n * kk.size:=agJ _ (by have:i<xs.length:=hi'; omega)
      rw [Nat.add_mul,Nat.one_mul] at hlt
      rw [s4 _ (by omega)]
      exact this
    · refine fV (dA (fun t ht=>hall t (by simp [K.tys,ht]))) (bz (ok:=fun _=>False) (ok':=fun _=>False) (fun _ h=>h.elim) (fun _ h=>h) (fun b' hb'=>?_) (fV (dA (fun t ht=>hall t (by simp [K.tys,ht]))) g2))
      have hm:=oK hb'
      exact ho b' (hp.mem_iff.2 (agB _ hm)) (fun e=>(agL.1 nV).1 (e▸hm))
end
section
variable {P:Program} {T:iF} {cx:Cx} {σ:St} {α:dK} {F:List Nat} {a:Act} {w:World} {o:Oper} {d:Nat} {ws:List Wr} {r:Nat} {R:Root}
theorem QU (hT:dX P T) (H:Rel cx σ α F a w) (hd:o.dst=some d) (hdn:d<cx.nt) {c:Call} (ho:o.op=.call c) (hcb:c.callee=.builtin .append) {u v:AV} {t:TypeId} {e1:TypeId} {k1:K} (hl:dQ cx σ α F w [u,v] (c.args.toList.map a.eval))
    (hat:c.argTypes[0]?=some t) (ht1:(c.argTypes[1]?).bind T.ty=some (.sl e1 k1)) (h:(Ua T d t u v fun ws=>(.ret ws:Prog (List Wr))).ends σ ws):nU P cx o a w (az ws σ):=by
  obtain ⟨x,y,hxy,hu,hv0⟩:=C9 hl
  obtain ⟨t2,Q9,ht2⟩:=qF hT ht1
  unfold Ua at h
  split at h
  · rename_i e kk r p n0 rb gb hty
    have ht:=hT.ty t _ hty
    obtain ⟨B,hrB,hvB,h⟩:=cK h
    rcases ay h with ⟨hc,h5⟩ | ⟨_,h5⟩
    · clear h
      simp only [agi,Bool.not_eq_true',aT] at hc
      obtain ⟨⟨⟨⟨⟨c1,c2⟩,c3⟩,c4⟩,c5⟩,c6⟩:=hc
      have hne:r≠rb:=fun e=>by rw [e] at c3; simp at c3
      have Oi:=jA c6
      cases hcB:bT B.k (.sl e kk) B.x with
      | none=>rw [hcB] at h5; exact h5.elim
      | some ys=>
        rw [hcB] at h5
        simp only at h5
        obtain ⟨R,hr,hv,h6⟩:=cK h5
        rcases ay h6 with ⟨hc2,h7⟩ | ⟨_,h7⟩
        · clear h5 h6
          simp only [agi] at hc2
          obtain ⟨⟨⟨q1,q2⟩,q3⟩,q4⟩:=hc2
          have hall:=jA q3
          cases hg:aP p R.k R.x with
          | none=>rw [hg] at h7; exact h7.elim
          | some dd=>
            rw [hg] at h7
            simp only at h7
            cases hck:bT dd.1 (.sl e kk) dd.2 with
            | none=>rw [hck] at h7; exact h7.elim
            | some xs=>
              rw [hck] at h7
              simp only at h7
              obtain ⟨ek,ey⟩:=bO hck
              obtain ⟨dk,dx⟩:=dd
              simp only at ek ey
              subst ek
              simp only at ey
              subst ey
              cases hz:dU p R.k R.x ⟨.sl e kk,xs⟩ with
              | none=>rw [hz] at h7; exact h7.elim
              | some z=>
                rw [hz] at h7
                simp only at h7
                obtain ⟨⟨hy1,hbd⟩,h8⟩:=h7
                obtain ⟨hfr,h9⟩:=fJ h8
                rw [aB h9]
                obtain ⟨hkB,hVB⟩:=hv0 B hrB (agf c1)
                obtain ⟨ekB,eyB⟩:=bO hcB
                obtain ⟨H1,T1,hH,hcl⟩:=kill H hrB hkB hvB
                have hSr:Same σ α (aj σ rb bV) (je α rb) r:=gK hne
                have hr1:=(hSr.live R).2 hr
                have htB:∀n,(rb,n)∉R.tags:=fun n hn=>by
                  have:=ags.1 q4 _ hn
                  simp at this
                have hv1:bu (aj σ rb bV) R:=⟨hv.1,by rw [kC htB]; exact hv.2⟩
                obtain ⟨fK,hown,cs,wh,hn,x9⟩:=hu R hr.1 hv (agf q1) _ hg
                have hn1:bH (hp w) p R.k ((je α rb).hdr r) (dS (je α rb) R r)=some (cs,wh):=by rw [hSr.hdr,hSr.wh]; exact hn
                obtain ⟨fd,ok',fI,rest,mM,kS,hn',hpf,hd1,afx,_,uN,hwf,hgo⟩:=H1.place hr1 hv1 (own':=R.own) hg fK (fun t h=>h) hown
                rw [hn1] at hn'
                simp only [agb,agn] at hn'
                obtain ⟨rfl,rfl⟩:=hn'
                have K1:=H1.roots r R hr1
                have hnd:=K1.nd
                rw [bX,kL] at hnd
                have OJ:=hpf.nodup hnd.2
                have KF:∀b∈fI,b∈(je α rb).fo r:=fun b hb=>hpf.mem_iff.2 (agh _ (agh _ hb))
                have Oz:=(agj.1 (agj.1 OJ).1).1
                have y5:∀b∈fI,b<w.heap.size:=fun b hb=>(K1.mine b (by rw [bX,eT]; exact .inr (KF b hb))).1
                have Si:∀b∈fI,b∉α.fo rb++F:=fun b hb=>H1.iD r R hr1 b (by rw [bX,eT]; exact .inr (KF b hb))
                have hhd:∃b n c,a.eval x=.slice b n c∧cs=[.slice b n c]:=by
                  have hO:=hd1
                  unfold Ow at hO
                  rw [if_pos (hall e (by simp [K.tys]))] at hO
                  obtain ⟨b,n,c,e1,_⟩:=hO
                  have hV1:=x9.1
                  rw [e1] at hV1
                  simp only [List.cons.injEq,and_true] at hV1
                  exact ⟨b,n,c,hV1.symm,e1⟩
                obtain ⟨b,n,cp,evx,rfl⟩:=hhd
                have hlen1 : @List.length (El kk) ys=1:=hy1
                have hOB:Ow (hp w) B.own (gW cx (aj σ rb bV) (je α rb) (α.fo rb++F) w B.tags) (.sl e kk) ys (α.hdr rb) (α.fo rb):=by
                  have h0:=hH.ow hcl
                  exact uu ekB eyB h0
                have acp:VC (.sl e kk) (a.eval y) (α.hdr rb):=ekB▸hVB
                obtain ⟨news,hS,bC,hfl,Fh,XT,hE⟩:=PI (P:=P) (u:=t2) (.inl ⟨_,ht2.sl.1⟩) ht.sl.2.1.eO acp (Oi e (by simp [K.tys])) hOB hH.nd
                rw [hlen1] at hS
                have hnl:news.length=kk.size:=by simpa using hS.nl
                have UD:0 < @List.length (El kk) ys:=by omega
                have hE0:=hE 0 UD
                have hseg:kN news kk.size 0=news:=by
                  unfold kN
                  simp only [Nat.zero_mul,List.drop_zero]
                  exact List.take_of_length_le (by omega)
                rw [hseg] at hE0
                generalize hfe:bC.getD 0 []=fe at hE0
                have Rc:∀b∈fe,b∈α.fo rb:=fun b hb=>XT b (oK (by rw [hfe]; exact hb))
                have Sg:fe.Nodup:=by
                  have:bC=[fe]:=by
                    cases bC with
                    | nil=>simp [hlen1] at hfl
                    | cons f l=>cases l with
                      | nil=>simp at hfe; rw [hfe]
                      | cons _ _=>simp [hlen1] at hfl
                  rw [this] at Fh
                  simpa using Fh
                obtain ⟨w',b1,o1,c1',arr,lo,hi,hrun,hos,hsz,hnc,hnx,hblk1,XR,hsize,hcells,hoth,hcase⟩:=Lt (P:=P) (u:=t2) (ty:=o.type) (x:=a.eval y) ht hd1 (hall e (by simp [K.tys])) hS hbd
                obtain ⟨F',hF1,hF2,hF3,hF4⟩:∃F':List Nat,(∀b∈F',b∈α.fo rb++F∨(w.heap.size≤b∧b<w'.heap.size))∧F'.Nodup∧(∀b∈α.fo rb++F,b∈F')∧(b1=w.heap.size→w.heap.size<w'.heap.size→b1∈F'):=by
                  by_cases hs:w.heap.size<w'.heap.size
                  · refine ⟨w.heap.size :: (α.fo rb++F),fun b hb=>?_,agL.2 ⟨fun hm=>?_,H1.uW⟩,fun b hb=>agB _ hb,fun e _=>by rw [e]; exact agK⟩
                    · rcases agp.1 hb with h | h
                      · exact .inr ⟨by omega,by omega⟩
                      · exact .inl h
                    · have:=(H1.fl _ hm).1; omega
                  · exact ⟨α.fo rb++F,fun b hb=>.inl hb,H1.uW,fun b hb=>hb,fun _ h=>absurd h hs⟩
                have Uz:∀b∈fI,b∉F':=fun b hb hm=>by
                  rcases hF1 b hm with h | h
                  · exact Si b hb h
                  · have:=y5 b hb; omega
                have OT:∀b',b'<w.heap.size→b'∉fI→hp w' b'=hp w b':=fun b' hlt hno=>hoth b' hlt (fun e=>by
                  rcases hcase with ⟨_,_,h,_⟩ | ⟨h,_⟩
                  · exact hno (e▸h)
                  · omega)
                have hP:o7 cx (aj σ rb bV) (je α rb) (α.fo rb++F) w r R p ⟨.sl e kk,xs⟩ R.own [.slice b n cp] wh fI rest ⟨.sl e kk,xs⟩ z R.tags [e] (K.sl e kk).tys R.keep fI F' [.slice b n cp] w':=by
                  have hnt:=H1.dn r R hr1.1
                  refine ⟨hz,rfl,fun _ h=>h,hos,hsz,fun b' hlt hne'=>?_,fun b' o' e'=>?_,fun _=>rfl,rfl, .inl (by simp),⟨fun _ h=>h,hnt.1,hnt.2.2⟩,fun b' hb'=>.inl hb',Oz,fun b' hb'=>(hF1 b' hb').imp id .inl,hF2,Uz, .inl rfl, .inl rfl,fun _ q c0 w0 hpq OX hnq Vq=>?_,fun α' Tn hblk hval=>?_⟩
                  · refine .inr (.inl ?_)
                    by_cases e':b'=b1
                    · rcases hcase with ⟨_,_,h1,h2,_⟩ | ⟨h,_⟩
                      · exact ⟨e'▸h1,e,by simp,e'▸h2⟩
                      · omega
                    · exact absurd (hoth b' hlt e') hne'
                  · obtain ⟨m1,_,m2,⟨abS,te,l0,h0,m3,_⟩,_⟩:=mX H1 hr1 hv1 hg fK hown (by rw [hn1,e'])
                    have hlt:=(K1.mine b' m2).1
                    have hs:=OT b' hlt (hwf b' o' e')
                    exact ⟨m1.congr hs,gB.of_same _ _ m3 hs⟩
                  · cases q with
                    | nil=>
                      simp only [bH,agb,agn] at hnq
                      exact ⟨trivial,[.slice b n cp],by simp only [bH]; rw [hnq.2]⟩
                    | cons s q=>
                      cases s with
                      | fH n=>exact hpq.elim
                      | idx i=>exact absurd (show e∈(K.sl e kk).tys by simp [K.tys]) (OX e (by simp [aa])).2
                  · rcases hcase with ⟨hb,_,h1,h2,h3⟩ | ⟨hb,_⟩
                    · rw [hb] at hd1 ⊢
                      refine Lj hall Oz hd1 h1 h3 (fun b' hb' hne'=>hoth b' (y5 b' hb') hne')
                    · exact fV (dA hall) (bz (ok:=fun _=>False) (ok':=fun _=>False) (fun _ h=>h.elim) (fun _ h=>h) (fun b' hb'=>hoth b' (y5 b' hb') (fun e=>by have:=y5 b' hb'; omega)) (fV (dA hall) hd1))
                obtain ⟨xH,hR2,hT2,hb2,UL,OA⟩:=hgo hP
                have Rm:aZ d 0≠r:=fun e=>by have:=hr.1; rw [←e,hfr] at this; simp at this
                have hqB:aZ d 0≠rb:=fun e=>by have:=hrB.1; rw [←e,hfr] at this; simp at this
                have hq0:(aj (aj σ rb bV) r (bI R z R.own R.tags [e] (K.sl e kk).tys R.keep)).roots (aZ d 0)=none:=by
                  rw [bW _ _ Rm,bW _ _ hqB]; exact hfr
                obtain ⟨Rn,Q5,acI,acJ,acK,acL⟩:∃(Rn:Value) (Q5:List Nat),(∀b'∈Q5,b'∈F')∧Q5.Nodup∧
                    Ow (hp w') (e :: kk.tys) (fun _=>False) (Gj e kk) ((show List (El kk) from ys).getD 0 kk.zero,(([]:List Unit),())) (news++[Rn]) Q5∧
                    ((b=some ⟨b1,o1,none⟩∧b1∈fI∧Rn=.slice none 0 0∧cp=c1')∨(Rn=.slice (some ⟨b1,o1,none⟩) 0 c1'∧b1∈Q5∧(0<n→∃b0 o0,b=some ⟨b0,o0,none⟩∧b0∈fI∧∀i,i<n * kk.size→cellAt (hp w') b1 (o1+i)=cellAt (hp w') b0 (o0+i)))):=by
                  have Sd:∀b'∈fe,b'<w.heap.size:=fun b' hb'=>(H1.fl b' (agh _ (Rc b' hb'))).1
                  have XP:∀b'∈fe,b'∉fI:=fun b' hb' h=>Si b' h (agh _ (Rc b' hb'))
                  have hy0:(show List (El kk) from ys).getD 0 kk.zero=@getElem (List (El kk)) Nat (El kk) _ _ ys 0 UD:=cz UD
                  have Zc:Ow (hp w') (e :: kk.tys) (fun _=>False) kk ((show List (El kk) from ys).getD 0 kk.zero) news fe:=by
                    rw [hy0]
                    have h1:=fV (ok':=fun _=>False) (dA (fun t ht=>Oi t (by simp [K.tys,ht]))) hE0
                    have h2:=bz (h':=hp w') (ok':=fun _=>False) (fun _ h=>h.elim) (fun _ h=>h) (fun b' hb'=>OT b' (Sd b' hb') (XP b' hb')) h1
                    exact ou (fun t ht=>by rw [aJ.2 (agB _ ht),Oi t (by simp [K.tys,ht])]) h2
                  rcases hcase with ⟨hb,hcc,h1,h2,h3⟩ | ⟨hb,hlt,hcp⟩
                  · refine ⟨.slice none 0 0,fe,fun b' hb'=>hF3 b' (agh _ (Rc b' hb')),Sg, ?_, .inl ⟨hb,h1,rfl,hcc⟩⟩
                    exact ⟨news,[.slice none 0 0],fe,[],rfl,by simp,Zc,[.slice none 0 0],[],[],[],rfl,by simp,vO,rfl,rfl⟩
                  · refine ⟨.slice (some ⟨b1,o1,none⟩) 0 c1',fe++[b1],fun b' hb'=>?_,agj.2 ⟨Sg,by simp,fun b' h1 b2 h2 e=>by
                        simp only [agw] at h2
                        subst h2
                        have:=Sd b' h1
                        omega⟩, ?_, .inr ⟨rfl,by simp,fun hn0=>?_⟩⟩
                    · rcases agl.1 hb' with h | h
                      · exact hF3 b' (agh _ (Rc b' h))
                      · simp only [agw] at h
                        rw [h]
                        exact hF4 hb hlt
                    · refine ⟨news,[.slice (some ⟨b1,o1,none⟩) 0 c1'],fe,[b1],rfl, .refl _,Zc,[.slice (some ⟨b1,o1,none⟩) 0 c1'],[],[b1],[],rfl,by simp, ?_,rfl,rfl⟩
                      have hOs:Ow (hp w') (e :: kk.tys) (fun _=>False) (.sl e (.gap kk.size)) (show List (El (.gap kk.size)) from []) [.slice (some ⟨b1,o1,none⟩) 0 c1'] [b1]:=by
                        unfold Ow
                        rw [if_pos (aJ.2 agK)]
                        exact ⟨_,0,c1',rfl,rfl,agM _, .inr ⟨b1,o1,arr,lo,hi,rfl,hblk1,XR,hsize,[],rfl,by simp,fun i hi'=>absurd hi' (Nat.not_lt_zero _)⟩⟩
                      exact hOs
                    · obtain ⟨b0,o0,z1,z2,z3⟩:=hcp hn0
                      have hs0:hp w' b0=hp w b0:=hoth b0 (y5 b0 z2) (fun e=>by have:=y5 b0 z2; omega)
                      exact ⟨b0,o0,z1,z2,fun i hi'=>by rw [z3 i hi',qN hs0]⟩
                have hkq:(aI (Gj e kk) ((show List (El kk) from ys).getD 0 kk.zero,(([]:List Unit),())) (e :: kk.tys) [] .anon).kind=.anon:=rfl
                obtain ⟨A1,A2⟩:=Gg (R':=aI (Gj e kk) ((show List (El kk) from ys).getD 0 kk.zero,(([]:List Unit),())) (e :: kk.tys) [] .anon) hR2 hq0 (eU d 0) rfl (by simp [aI]) (fun t ht=>by simp [aI] at ht) (0,0) (news++[Rn]) Q5 []
                  (fun b' hb'=>by rw [gG hkq] at hb'; exact ⟨acI b' hb',by simp⟩) (by rw [gG hkq]; exact acJ) (fun b' hb'=>by simp at hb') List.nodup_nil
                  (fun _=>bz (fun _ h=>h.elim) (fun _ h=>h.elim) (fun _ _=>rfl) acK) (by simp [aI,K.size,hnl]) (fun b' o' hb'=>by rw [ug hkq] at hb'; simp at hb')
                have KL:(Builtin.append_ #[t,t2] o.type #[a.eval x,a.eval y]).run P w=.ok (.slice (some ⟨b1,o1,none⟩) (n+1) c1') w':=by rw [evx]; exact hrun
                refine gU (x:=.one (.app r p (gq (e :: R.w)+gq ((K.sl e kk).tys++R.h)) (aZ d 0))) A1 hd hdn (kD ho hcb hxy hat Q9 KL) ?_ ?_
                · intro R2 Uq Yl _ Q2 Un _
                  rw [bW _ _ Rm.symm,aH] at Uq
                  simp only [agb] at Uq
                  subst Uq
                  obtain ⟨rfl,_⟩:=eH Un
                  have hv2:bu (aj (aj σ rb bV) r (bI R z R.own R.tags [e] (K.sl e kk).tys R.keep)) (bI R z R.own R.tags [e] (K.sl e kk).tys R.keep):=by
                    refine ⟨Yl.1, ?_⟩
                    have h0:=Yl.2
                    rw [kC] at h0
                    · exact h0
                    · intro m hm
                      have hm':(aZ d 0,m)∈R.tags:=hm
                      rcases (H.dn r R hr.1).1 _ hm' with h | ⟨Q,h1,_⟩
                      · simp only [eU] at h; simp at h
                      · simp only at h1; rw [hfr] at h1; simp at h1
                  have wF:=UL c5 hv2
                  have hd2:(aG xH (aZ d 0) (0,0) (news++[Rn]) Q5).hdr r=xH.hdr r:=upd_ne _ _ Rm.symm
                  have hw2:dS (aG xH (aZ d 0) (0,0) (news++[Rn]) Q5) (bI R z R.own R.tags [e] (K.sl e kk).tys R.keep) r=dS xH (bI R z R.own R.tags [e] (K.sl e kk).tys R.keep) r:=by
                    unfold dS; simp [aG,upd_ne _ _ Rm.symm]
                  have hf2:(aG xH (aZ d 0) (0,0) (news++[Rn]) Q5).fo r=xH.fo r:=upd_ne _ _ Rm.symm
                  obtain ⟨g1,g2,g3,g4⟩:=DX (h:=hp w') p c4 hg hz rfl
                  refine ⟨e,kk,xs,wh,b,n,cp,news,Rn,b1,o1,c1',arr,lo,hi,g1,g2,fun t ht=>?_,by rw [hd2,hw2]; exact wF,⟨rfl,rfl⟩,by simp [aG,upd_same],hnl,rfl,hnc,hblk1,XR,hsize,hcells, ?_⟩
                  · have ht':t∈aa p z.1:=ht
                    rw [g3] at ht'
                    simp at ht'
                  · rcases acL with ⟨z1,z2,z3⟩ | ⟨z1,z2,z3⟩
                    · exact .inl ⟨z1,by rw [hf2]; exact OA b1 z2,z3⟩
                    · refine .inr ⟨z1,by simp only [aG,upd_same]; exact z2,fun hn0=>?_⟩
                      obtain ⟨b0,o0,y1,y2,y3⟩:=z3 hn0
                      exact ⟨b0,o0,y1,by rw [hf2]; exact OA b0 y2,y3⟩
                · refine ⟨⟨bI R z R.own R.tags [e] (K.sl e kk).tys R.keep, ?_, .inr (agt _)⟩,_,aH ..⟩
                  rw [bW _ _ Rm.symm,aH]
        · exact h7.elim
    · exact h5.elim
  · exact h.elim
end
section
variable {P:Program} {T:iF} {cx:Cx} {σ:St} {α:dK} {F:List Nat} {a:Act} {w:World} {o:Oper} {d:Nat} {ws:List Wr} {r:Nat} {R:Root}
theorem EX (hT:dX P T) (H:Rel cx σ α F a w) (hd:o.dst=none) {t:TypeId} {x y:Operand} (ho:o.op=.store t x y) {u:AV} {r n q:Nat} {p:List Stp} {k0:K} (hk0:T.ty t=some k0) (h1:bJ cx σ α F w u (a.eval x)) (h2:oz σ u) (h3:bJ cx σ α F w (.app r p n q) (a.eval y))
    (h:(yQ k0 u r p n q fun ws=>(.ret ws:Prog (List Wr))).ends σ ws):nU P cx o a w (az ws σ):=by
  have ht:=hT.ty t k0 hk0
  cases k0 with
  | sl e kk=>
    cases u with
    | ptr r' p' h0=>
      simp only [yQ] at h
      rcases ay h with ⟨hc,h5⟩ | ⟨_,h5⟩
      · clear h
        simp only [agi,Bool.not_eq_true'] at hc
        obtain ⟨⟨⟨c1,c2⟩,c3⟩,c4⟩:=hc
        have hne:r≠q:=fun e=>by rw [e] at c4; simp at c4
        have er:=agf c1
        have Sj:p'.all Stp.nR=true:=MG c2 c3
        have ep:=Hq c2 (by rw [D8 c3,D8 Sj])
        subst er ep
        obtain ⟨Q,hrQ,Rp,h6⟩:=cK h5
        rcases ay h6 with ⟨hcQ,h7⟩ | ⟨_,h7⟩
        · clear h5 h6
          simp only [agi] at hcQ
          have Oj:=jA hcQ.2
          cases Uv:bT Q.k (Gj e kk) Q.x with
          | none=>rw [Uv] at h7; exact h7.elim
          | some yq=>
            rw [Uv] at h7
            simp only at h7
            obtain ⟨R,hr,hv,h8⟩:=cK h7
            rcases ay h8 with ⟨hcR,h9⟩ | ⟨_,h9⟩
            · clear h7 h8
              simp only [agi] at hcR
              obtain ⟨⟨⟨⟨d1,d2⟩,d3⟩,d4⟩,d5⟩:=hcR
              have hall:=jA d4
              cases hg:aP p R.k R.x with
              | none=>rw [hg] at h9; exact h9.elim
              | some dd=>
                rw [hg] at h9
                simp only at h9
                cases hck:bT dd.1 (.sl e kk) dd.2 with
                | none=>rw [hck] at h9; exact h9.elim
                | some xs=>
                  rw [hck] at h9
                  simp only at h9
                  obtain ⟨ek,ey⟩:=bO hck
                  obtain ⟨dk,dx⟩:=dd
                  simp only at ek ey
                  subst ek
                  simp only at ey
                  subst ey
                  cases hz:dU p R.k R.x ⟨.sl e kk,(show List (El kk) from xs)++[(show El kk from yq.1)]⟩ with
                  | none=>rw [hz] at h9; exact h9.elim
                  | some z=>
                    rw [hz] at h9
                    rw [aB h9]
                    obtain ⟨e',Zk,xs',wh,b,n',c,ce,hq,b1,o1,cc,arr,lo,hi,a1,a2,a3,a4,⟨a5,akd⟩,a6,a7,a8,a9,a10,a11,a12,a13,T9⟩:=h3 R hr.1 hv (agf d1) Q hrQ (agf hcQ.1)
                    rw [hg] at a1
                    simp only [agb,Sigma.mk.injEq,K.sl.injEq] at a1
                    obtain ⟨⟨rfl,rfl⟩,a1⟩:=a1
                    have a1:=eq_of_heq a1
                    subst a1
                    obtain ⟨H1,T1,hH,hcl⟩:=kill H hrQ akd Rp
                    have hSr:Same σ α (aj σ q bV) (je α q) r:=gK hne
                    have hr1:=(hSr.live R).2 hr
                    have OX:∀m,(q,m)∉R.tags:=fun m hm=>by
                      have:=ags.1 d5 _ hm
                      simp at this
                    have hv1:bu (aj σ q bV) R:=⟨hv.1,by rw [kC OX]; exact hv.2⟩
                    obtain ⟨_,cs,bA,oA,hn2,eA⟩:=h1.2 R hr.1 hv d3 a3 (by rw [hg]; rfl)
                    rw [a4] at hn2
                    simp only [agb,agn] at hn2
                    obtain ⟨rfl,rfl⟩:=hn2
                    have hn1:bH (hp w) p R.k ((je α q).hdr r) (dS (je α q) R r)=some ([.slice b n' c],some (bA,oA)):=by rw [hSr.hdr,hSr.wh]; exact a4
                    obtain ⟨ekQ,eyQ⟩:=bO Uv
                    have hOQ:Ow (hp w) Q.own (gW cx (aj σ q bV) (je α q) (α.fo q++F) w Q.tags) (Gj e kk) yq (ce++[hq]) (α.fo q):=by
                      have h0:=uu ekQ eyQ (hH.ow hcl)
                      rw [a6] at h0
                      exact h0
                    obtain ⟨c1',c2',f1,f2,ec,hpq,Mh,hO2⟩:=hOQ
                    have hlc:=dh Mh
                    have hcc:=List.append_inj ec (by rw [a7,hlc])
                    obtain ⟨rfl,rfl⟩:=hcc
                    obtain ⟨c3',c4',f3,f4,ec2,ac8,hO3,hO4⟩:=hO2
                    have hpn:=hpq.nodup hH.nd
                    have X9:=agj.1 hpn
                    have Ux:∀b'∈f1,b'∈α.fo q:=fun b' hb'=>hpq.mem_iff.2 (agh _ hb')
                    have ach:Ow (hp w) R.own (fun _=>False) kk yq.1 ce f1:=ou (fun t ht=>by rw [hall t (by simp [K.tys,ht]),Oj t (agB _ ht)]) (fV (dA (fun t ht=>Oj t (agB _ ht))) Mh)
                    have XF:b1∉f1∨b1∈α.fo r:=by
                      rcases T9 with ⟨_,z2,_⟩ | ⟨z1,z2,_⟩
                      · exact .inr z2
                      · refine .inl fun hm=>?_
                        have hlen3:=dh hO3
                        have hc3:c3'=[hq]∧c4'=[]:=by
                          cases c3' with
                          | nil=>simp [K.size] at hlen3
                          | cons a l=>
                            simp only [List.cons_append,List.cons.injEq] at ec2
                            obtain ⟨rfl,h⟩:=ec2
                            have:=List.append_eq_nil_iff.1 h.symm
                            rw [this.1,this.2]
                            exact ⟨rfl,rfl⟩
                        rw [hc3.1,z1] at hO3
                        unfold Ow at hO3
                        rw [if_pos (Oj e agK)] at hO3
                        obtain ⟨a',m',cm,g1,_,_,g4⟩:=hO3
                        simp only [List.cons.injEq,Value.slice.injEq,and_true] at g1
                        obtain ⟨rfl,rfl,rfl⟩:=g1
                        rcases g4 with ⟨g4,_⟩ | ⟨bb,q',_,_,_,g5,_,_,_,bC,_,g6,_⟩
                        · omega
                        · simp only [agb,Addr.mk.injEq,and_true] at g5
                          obtain ⟨rfl,rfl⟩:=g5
                          exact X9.2.2 b1 hm b1 (ac8.mem_iff.2 (agh _ (g6.mem_iff.2 agK))) rfl
                    have Ov:∀b'∈(je α q).fo r,b'∉α.fo q++F:=fun b' hb'=>H1.iD r R hr1 b' (by rw [bX,eT]; exact .inr hb')
                    obtain ⟨w',r1,α',F',r2⟩:=Ii (P:=P) ht H1 hr1 hv1 hg hz a2 a3 hall hn1 (v:=.slice (some ⟨b1,o1,none⟩) (n'+1) cc) ⟨_,_,_,rfl⟩ (lw:=[eG R p,e]) (by simp) (fun fI ok hO hnd hsub=>by
                      have he:au e R.own=true:=hall e (by simp [K.tys])
                      unfold Ow at hO
                      rw [if_pos he] at hO
                      obtain ⟨a0,n2,c2,e1,e2,e3,hO⟩:=hO
                      simp only [List.cons.injEq,Value.slice.injEq,and_true] at e1
                      obtain ⟨rfl,rfl,rfl⟩:=e1
                      have e2:n'=@List.length (El kk) xs:=e2
                      obtain ⟨bC,hfl,hfs,hfn,hfe⟩:∃bC:List (List Nat),bC.length=@List.length (El kk) xs∧(∀b'∈bC.flatten,b'∈fI∧b'≠b1)∧bC.flatten.Nodup∧∀(i:Nat) (hi:i < @List.length (El kk) xs),∃ds,Cells (hp w) b1 (o1+i * kk.size) ds∧Ow (hp w) R.own ok kk (@getElem (List (El kk)) Nat (El kk) _ _ xs i hi) ds (bC.getD i []):=by
                        rcases hO with ⟨hc0,hf0⟩ | ⟨bb,q',jH,lo',hi',ea,hbk,hfz,hs,bC,hl,hp0,hO⟩
                        · have hx0 : @List.length (El kk) xs=0:=by omega
                          exact ⟨[],by simp [hx0],by simp,by simp,fun i hi=>by omega⟩
                        · have nV:=hp0.nodup hnd
                          have afv:bb∈(je α q).fo r:=hsub bb (hp0.mem_iff.2 agK)
                          refine ⟨bC,hl,fun b' hb'=>⟨hp0.mem_iff.2 (agB _ hb'),fun eb=>?_⟩,(agL.1 nV).2,fun i hi=>?_⟩
                          · subst eb
                            rcases T9 with ⟨z1,_,_⟩ | ⟨_,z2,_⟩
                            · rw [z1] at ea
                              simp only [agb,Addr.mk.injEq,and_true] at ea
                              rw [ea.1] at hb'
                              exact (agL.1 nV).1 hb'
                            · exact Ov b' (hsub b' (hp0.mem_iff.2 (agB _ hb'))) (agh _ z2)
                          · obtain ⟨ds,g1,g2⟩:=hO i hi
                            refine ⟨ds, ?_,g2⟩
                            rcases T9 with ⟨z1,_,_⟩ | ⟨_,_,z3⟩
                            · rw [z1] at ea
                              simp only [agb,Addr.mk.injEq,and_true] at ea
                              rw [ea.1,ea.2]
                              exact g1
                            · obtain ⟨b0,o0,y1,_,y3⟩:=z3 (by omega)
                              rw [y1] at ea
                              simp only [agb,Addr.mk.injEq,and_true] at ea
                              obtain ⟨rfl,rfl⟩:=ea
                              have hdl:=dh g2
                              intro j hj
                              rw [←g1 j hj,Nat.add_assoc,y3 (i * kk.size+j) (by
                                have hb2:(i+1) * kk.size≤n' * kk.size:=agJ _ (by omega)
                                rw [Nat.add_mul,Nat.one_mul] at hb2
                                omega), ←Nat.add_assoc]
                      have XG:b1∉f1:=by
                        rcases XF with h | h
                        · exact h
                        · intro hm
                          exact Ov b1 (by rw [hSr.fo]; exact h) (agh _ (Ux b1 hm))
                      refine ⟨b1 :: (bC.flatten++f1),agL.2 ⟨fun hm=>?_,agj.2 ⟨hfn,X9.1,fun b' h1' b2 h2' eb=>?_⟩⟩,fun b' hb'=>?_, ?_⟩
                      · rcases agl.1 hm with h | h
                        · exact (hfs b1 h).2 rfl
                        · exact XG h
                      · subst eb
                        exact Ov b' (hsub b' (hfs b' h1').1) (agh _ (Ux b' h2'))
                      · rcases agp.1 hb' with h | h
                        · subst h
                          rcases T9 with ⟨z1,_,_,z4⟩ | ⟨_,z2,_⟩
                          · refine .inl ?_
                            rcases hO with ⟨hc0,_⟩ | ⟨bb,q',_,_,_,ea,_,_,_,_,_,hp0,_⟩
                            · omega
                            · rw [z1] at ea
                              simp only [agb,Addr.mk.injEq,and_true] at ea
                              rw [ea.1]
                              exact hp0.mem_iff.2 agK
                          · exact .inr (agh _ z2)
                        · rcases agl.1 h with h | h
                          · exact .inl (hfs b' h).1
                          · exact .inr (agh _ (Ux b' h))
                      · have hOO:Ow (hp w) R.own (fun _=>False) (.sl e kk) (show List (El kk) from (show List (El kk) from xs)++[(show El kk from yq.1)]) [.slice (some ⟨b1,o1,none⟩) (n'+1) cc] (b1 :: (bC.flatten++f1)):=by
                          unfold Ow
                          rw [if_pos he]
                          have hlen:(@HAppend.hAppend (List (El kk)) (List (El kk)) (List (El kk)) _ xs [yq.1]).length=n'+1:=by rw [agk,e2]; rfl
                          refine ⟨_,n'+1,cc,rfl,hlen.symm,a9, .inr ⟨b1,o1,arr,lo,hi,rfl,a10,a11,a12,bC++[f1],by show (bC++[f1]).length=_; rw [agk,hfl,hlen,e2]; rfl,by simp,fun i hi'=>?_⟩⟩
                          have hi2:i<(@HAppend.hAppend (List (El kk)) (List (El kk)) (List (El kk)) _ xs [yq.1]).length:=hi'
                          rw [hlen] at hi2
                          rw [xZ]
                          by_cases hi0:i < @List.length (El kk) xs
                          · obtain ⟨ds,g1,g2⟩:=hfe i hi0
                            rw [if_pos (by rw [hfl]; exact hi0)]
                            have hx:(show List (El kk) from (show List (El kk) from xs)++[(show El kk from yq.1)])[i]'hi'=@getElem (List (El kk)) Nat (El kk) _ _ xs i hi0:=List.getElem_append_left hi0
                            rw [hx]
                            exact ⟨ds,g1,fV (dA (fun t ht=>hall t (by simp [K.tys,ht]))) g2⟩
                          · have hin:i=n':=by omega
                            rw [if_neg (by rw [hfl]; exact hi0)]
                            have hx:(show List (El kk) from (show List (El kk) from xs)++[(show El kk from yq.1)])[i]'hi'=yq.1:=by
                              have:=@List.getElem_append_right (El kk) xs [yq.1] i (by omega) hi'
                              refine this.trans ?_
                              simp
                            rw [hx]
                            have Yg:i - bC.length=0:=by omega
                            rw [Yg]
                            exact ⟨ce,by rw [hin]; exact a13,ach⟩
                        exact hOO)
                    refine ⟨undef,w',α',F', .inr ⟨?_,rfl⟩, ?_⟩
                    · simp only [execOp,ho,eA,a8,agD,r1,agv,agI]
                    · rw [hd]
                      exact r2
            · exact h9.elim
        · exact h7.elim
      · exact h5.elim
    | _=>exact h.elim
  | _=>exact h.elim
theorem GG (hT:dX P T) (H:Rel cx σ α F a w) (hd:o.dst=some d) (hdn:d<cx.nt) (h:(FR T o d fun ws=>(.ret ws:Prog (List Wr))).ends σ ws):nU P cx o a w (az ws σ):=by
  unfold FR at h
  split at h
  · rename_i t ps ho
    obtain ⟨us,h1,h2⟩:=yS h
    rw [aB h2]
    exact Dl hT H hd hdn h1 ho
  · rename_i c ho
    split at h
    · rename_i hcb
      obtain ⟨vs,h1,h2,h⟩:=iN H h
      split at h
      · split at h
        · rename_i hat ht1
          exact QU hT H hd hdn ho hcb h1 hat ht1 h
        · exact h.elim
      · exact h.elim
    · exact h.elim
  · rename_i t x ho
    exact Gz hT H hd hdn ho h
  · exact h.elim
theorem Jm (hT:dX P T) (H:Rel cx σ α F a w) (hd:o.dst=none) {t:TypeId} {x y:Operand} (ho:o.op=.store t x y)
    (h:(dL x fun u=>dL y fun v=>J6 T t u v fun ws=>(.ret ws:Prog (List Wr))).ends σ ws):nU P cx o a w (az ws σ):=by
  obtain ⟨u,h1,h2,h⟩:=bR H h
  obtain ⟨v,h3,h4,h⟩:=bR H h
  unfold J6 at h
  split at h
  · split at h
    · rename_i hk0
      exact EY hT H hd ho hk0 h1 h2 h3 h
    · exact h.elim
  · split at h
    · rename_i hk0
      exact EX hT H hd ho hk0 h1 h2 h3 h
    · exact h.elim
  · exact Jn hT H hd ho h1 h2 h3 h4 h
end
end
end Go.Proofs.Ytabnmpabdhmkoaa.Ow
