/- A verified reading of translated code: values in place of memory; part D of 6, spaces and remarks taken out. No condition. Own work of this seat. -/
import Derived.Test.YtabnmpabdhmkoaaOwC
set_option linter.unusedSectionVars false
set_option linter.unusedVariables false
set_option linter.unusedSimpArgs false
namespace Go.Proofs.Ytabnmpabdhmkoaa.Ow
section
open Go
variable [Fr]
def kL (news:List Value) (s i:Nat):List Value:=(news.drop (i * s)).take s
theorem oC {news:List Value} {s i m:Nat} (h:news.length=m * s) (hi:i<m):(kL news s i).length=s:=by
 unfold kL
 have:(i+1) * s≤m * s:=agm _ hi
 rw [Nat.add_mul,Nat.one_mul] at this
 simp
 omega
theorem jU {news:List Value} {s i j:Nat} (hj:j<s):(kL news s i)[j]?=news[i * s+j]?:=by
 unfold kL
 rw [List.getElem?_take,if_pos hj,List.getElem?_drop]
theorem xW {bz vD:List (List Nat)} {i:Nat}:(bz++vD).getD i []=if i<bz.length then bz.getD i [] else vD.getD (i - bz.length) []:=by
 simp only [af3,List.getElem?_append]
 split <;> rfl
section
variable {P:Program} {T:iD} {w:World}
theorem DF {t u ty e:TypeId} {kk:K} (ht:fB P T t (.sl e kk)) {own:List TypeId} {ok:Nat→Prop} {tu uR:List (El kk)} {v0 x:Value} {sS:List Nat} {bz:List (List Nat)} {news:List Value}
  (hO:Ow (hp w) own ok (.sl e kk) tu [v0] sS) (hown:au e own=true) (hnd:(sS++bz.flatten).Nodup) (hok:∀b,ok b→b∉sS∧b<w.heap.size) (hlt:∀b∈sS++bz.flatten,b<w.heap.size)
  (hS:Src P w kk.size u x uR.length news) (hfl:bz.length=uR.length) (hel:∀i (hi:i<uR.length),Ow (hp w) own ok kk uR[i] (kL news kk.size i) (bz.getD i []))
  (hb:(tu.length+uR.length) * T.bytes e≤140737488355328) :
  ∃v' w' dA,(Builtin.append_ #[t,u] ty #[v0,x]).run P w=.ok v' w'∧(w'.os=w.os∧w'.tape=w.tape∧w'.output=w.output)∧w.heap.size≤w'.heap.size∧
   (∀b,b<w.heap.size→hp w' b≠hp w b→b∈sS∧ni (hp w) b=some e)∧(∀b∈dA,b∈sS∨b∈bz.flatten∨(w.heap.size≤b∧b<w'.heap.size))∧dA.Nodup∧
   Ow (hp w') own ok (.sl e kk) (tu++uR) [v'] dA:=by
 have hsz:0<kk.size:=ht.sl.2.2.1
 have hnl:=hS.nl
 unfold Ow at hO
 rw [if_pos hown] at hO
 obtain ⟨a,n,c,e1,e2,e3,hO⟩:=hO
 simp only [List.cons.injEq,and_true] at e1
 subst e1
 have e2':n=tu.length:=e2
 have hnd':=afX.1 hnd
 by_cases hr:n+uR.length≤c
 ·have hrun:=sZ (ty:=ty) ht hS (b:=a) (n:=n) hr
  rcases hO with ⟨hc0,hf0⟩ | ⟨b,o,arr,lo,hi,ea,hbk,hf,hs,rT,hl0,hp0,hO⟩
  ·have hx1:uR=[]:=List.eq_nil_of_length_eq_zero (by omega)
   have hx0:tu=[]:=List.eq_nil_of_length_eq_zero (by omega)
   subst hx1
   subst hx0
   have hnews:news=[]:=List.eq_nil_of_length_eq_zero (by simpa using hnl)
   subst hnews
   have hn0:n=0:=by simpa using e2'
   subst hn0
   subst hc0
   have:(Builtin.append_ #[t,u] ty #[.slice a 0 0,x]).run P w=.ok (.slice a 0 0) w:=by
    rw [hrun]
    cases a <;> rfl
   exact ⟨_,w,[],this,⟨rfl,rfl,rfl⟩,af6 _,fun b _ h=>absurd rfl h,fun b hb=>by simp at hb,List.nodup_nil,vM⟩
  ·subst ea
   have hle:(n+uR.length) * kk.size≤c * kk.size:=agm _ hr
   rw [Nat.add_mul] at hle
   have hst:=kC (P:=P) (o:=o+n * kk.size) news hbk hf (by rw [hnl]; omega) hS.one
   simp only [Result.andThen,addr_add,hst] at hrun
   obtain ⟨s1,s2,jG,s3,s4,s5,s6⟩:=qd b news w arr e (lo,hi) (o+n * kk.size) hbk (by rw [hnl]; omega)
   have s7:=mQ b news w (o+n * kk.size)
   have hb0:b∈sS:=hp0.mem_iff.2 (by simp)
   have oI:=hp0.nodup hnd'.1
   have hne:∀b'∈rT.flatten++bz.flatten,b'≠b:=by
    intro b' hb' e
    subst e
    rcases afZ.1 hb' with h | h
    ·exact (agp.1 oI).1 h
    ·exact hnd'.2.2 b' hb0 b' h rfl
   have XK:∀b',ok b'→hp (w.setCells b (o+n * kk.size) news) b'=hp w b':=fun b' h=>s1 b' (fun e=>(hok b' h).1 (e▸hb0))
   refine ⟨_,_,b :: (rT.flatten++bz.flatten),hrun,s7,by omega, ?_, ?_, ?_, ?_⟩
   ·intro b' _ hne'
    by_cases e:b'=b
    ·subst e; exact ⟨hb0,by unfold ni; rw [hbk]⟩
    ·exact absurd (s1 b' e) hne'
   ·intro b' hb'
    rcases af2.1 hb' with h | h
    ·subst h; exact .inl hb0
    ·rcases afZ.1 h with h | h
     ·exact .inl (hp0.mem_iff.2 (by simp [h]))
     ·exact .inr (.inl h)
   ·refine agp.2 ⟨fun h=>hne b h rfl,afX.2 ⟨(agp.1 oI).2,hnd'.2.1,fun b1 h1 b2 h2 e=>hnd'.2.2 b1 (hp0.mem_iff.2 (by simp [h1])) b2 h2 e⟩⟩
   ·unfold Ow
    rw [if_pos hown]
    refine ⟨_,_,_,rfl,by simp [e2'],hr, .inr ⟨b,o,jG,lo,hi,rfl,s3,by rw [s4]; exact hf,by rw [s4]; exact hs,rT++bz,by simp [hl0,hfl],by simp,fun i hi=>?_⟩⟩
    have hi':i<tu.length+uR.length:=by simpa using hi
    rw [xW]
    by_cases hi0:i<tu.length
    ·obtain ⟨ds,h1,h2⟩:=hO i hi0
     have ab6:i<rT.length:=by rw [hl0]; exact hi0
     rw [if_pos ab6]
     have hx:(tu++uR)[i]'hi=tu[i]:=List.getElem_append_left hi0
     refine ⟨ds,fun j hj=>?_, ?_⟩
     ·have hdl:=cO h2
      have hlt2:(i+1) * kk.size≤n * kk.size:=agm _ (by omega)
      rw [Nat.add_mul,Nat.one_mul] at hlt2
      have:=h1 j hj
      unfold cellAt at this ⊢
      rw [hbk] at this
      rw [s3]
      simp only at this ⊢
      rw [s6 _ (by rw [hnl]; omega)]
      exact this
     ·show Ow _ own ok kk ((tu++uR)[i]'hi) ds _
      rw [hx]
      exact bq XK (fun _ h=>h) (fun b' hb'=>s1 b' (hne b' (afV _ (ou hb')))) h2
    ·have hi1:i - tu.length<uR.length:=by omega
     rw [if_neg (by rw [hl0]; exact hi0)]
     have hx:(tu++uR)[i]'hi=uR[i - tu.length]:=List.getElem_append_right (by omega)
     have hfe:i - rT.length=i - tu.length:=by rw [hl0]
     rw [hfe]
     refine ⟨kL news kk.size (i - tu.length),fun j hj=>?_, ?_⟩
     ·rw [oC hnl hi1] at hj
      unfold cellAt
      rw [s3,jU hj]
      simp only
      have e4:o+i * kk.size+j=o+n * kk.size+((i - tu.length) * kk.size+j):=by
       have:i * kk.size=n * kk.size+(i - tu.length) * kk.size:=by rw [←Nat.add_mul]; congr 1; omega
       omega
      rw [e4]
      refine s5 _ ?_
      rw [hnl]
      have:(i - tu.length+1) * kk.size≤uR.length * kk.size:=agm _ hi1
      rw [Nat.add_mul,Nat.one_mul] at this
      omega
     ·show Ow _ own ok kk ((tu++uR)[i]'hi) _ _
      rw [hx]
      exact bq XK (fun _ h=>h) (fun b' hb'=>s1 b' (hne b' (afS _ (ou hb')))) (hel _ hi1)
 ·
  obtain ⟨olds,ho1,ho2,rT,hl0,hf0,YN⟩:∃olds,olds.length=n * kk.size∧(Builtin.firstCells kk.size n (.slice a n c)).run P w.drew=.ok olds.toArray w.drew∧∃rT:List (List Nat),rT.length=tu.length∧((∀b∈rT.flatten,b∈sS)∧rT.flatten.Nodup)∧
    ∀i (hi:i<tu.length),Ow (hp w) own ok kk tu[i] (kL olds kk.size i) (rT.getD i []):=by
   rcases hO with ⟨hc0,hf0⟩ | ⟨b,o,arr,lo,hi,ea,hbk,hf,hs,rT,hl0,hp0,hO⟩
   ·have hx0:tu=[]:=List.eq_nil_of_length_eq_zero (by omega)
    subst hx0
    have hn0:n=0:=by simpa using e2'
    subst hn0
    refine ⟨[],by simp, ?_,[],rfl,⟨by simp,by simp⟩,fun i hi=>by simp at hi⟩
    cases a with
    | none=>exact run_firstCells_none w.drew kk.size 0 0 c
    | some ad=>exact run_firstCells_some (P:=P) w.drew kk.size 0 ad 0 c [] (by simp) (fun j v hj=>by simp at hj)
   ·subst ea
    have hle:n * kk.size≤c * kk.size:=agm _ e3
    have hrow:=yK (n:=n * kk.size) hbk (by omega:o+n * kk.size≤arr.size)
    have hrl:(mP (hp w) b o (n * kk.size)).length=n * kk.size:=by simp [mP]
    have oI:=hp0.nodup hnd'.1
    refine ⟨mP (hp w) b o (n * kk.size),hrl, ?_,rT,hl0,⟨fun b' hb'=>hp0.mem_iff.2 (by simp [hb']),(agp.1 oI).2⟩,fun i hi=>?_⟩
    ·refine run_firstCells_some (P:=P) w.drew kk.size n ⟨b,o,none⟩ n c _ hrl (fun j v hj=>?_)
     rw [addr_add,uB]
     have:=hrow j (by rw [hrl]; have:=(List.getElem?_eq_some_iff.1 hj).1; rw [hrl] at this; exact this)
     rw [hj] at this
     exact this
    ·obtain ⟨ds,h1,h2⟩:=hO i hi
     have hdl:=cO h2
     have:kL (mP (hp w) b o (n * kk.size)) kk.size i=ds:=by
      apply List.ext_getElem?
      intro j
      by_cases hj:j<kk.size
      ·rw [jU hj]
       have hlt2:(i+1) * kk.size≤n * kk.size:=agm _ (by omega)
       rw [Nat.add_mul,Nat.one_mul] at hlt2
       rw [←hrow _ (by rw [hrl]; omega), ←Nat.add_assoc]
       exact h1 j (by omega)
      ·rw [List.getElem?_eq_none (by rw [oC hrl (by omega)]; omega),List.getElem?_eq_none (by omega)]
     rw [this]
     exact h2
  obtain ⟨nc,hnc,hrun⟩:=vQ (ty:=ty) ht hS ho2 hr (by rw [e2']; exact hb)
  have hnew:=oh w.drew (.cells (olds.toArray++news.toArray++Builtin.zeroCells (oJ kk).cells (nc - (n+uR.length))) e)
  have hold:∀b',b'<w.heap.size→hp (w.drew.alloc (.cells (olds.toArray++news.toArray++Builtin.zeroCells (oJ kk).cells (nc - (n+uR.length))) e)) b'=hp w b':=fun b' h=>mg w.drew _ h
  have hws:w.drew.heap.size=w.heap.size:=rfl
  rw [hws] at hnew
  have hsz2:(w.drew.alloc (.cells (olds.toArray++news.toArray++Builtin.zeroCells (oJ kk).cells (nc - (n+uR.length))) e)).heap.size=w.heap.size+1:=Array.size_push ..
  have hzl:(oJ kk).cells.size=kk.size:=by
   rw [rQ ht.sl.2.1.shape]
   simpa using cO (tZ (h:=hp w) (own:=own) (ok:=ok) ht.sl.2.1.eF)
  have hall:∀b'∈rT.flatten++bz.flatten,b'<w.heap.size:=by
   intro b' hb'
   rcases afZ.1 hb' with h | h
   ·exact hlt b' (afV _ (hf0.1 b' h))
   ·exact hlt b' (afS _ h)
  refine ⟨_,_,w.heap.size :: (rT.flatten++bz.flatten),hrun,⟨rfl,rfl,rfl⟩,by omega,fun b' hb' hne=>absurd (hold b' hb') hne, ?_, ?_, ?_⟩
  ·intro b' hb'
   rcases af2.1 hb' with h | h
   ·subst h; exact .inr (.inr ⟨af6 _,by omega⟩)
   ·rcases afZ.1 h with h | h
    ·exact .inl (hf0.1 b' h)
    ·exact .inr (.inl h)
  ·refine agp.2 ⟨fun h=>by have:=hall _ h; omega,afX.2 ⟨hf0.2,hnd'.2.1,fun b1 h1 b2 h2 e=>hnd'.2.2 b1 (hf0.1 b1 h1) b2 h2 e⟩⟩
  ·unfold Ow
   rw [if_pos hown]
   refine ⟨_,_,_,rfl,by simp [e2'],hnc, .inr ⟨w.heap.size,0,_,0,0,rfl,hnew,yI.zero, ?_,rT++bz,by simp [hl0,hfl],by simp,fun i hi=>?_⟩⟩
   ·simp only [Array.size_append,List.size_toArray,size_zeroCells,hzl,ho1,hnl, ←Nat.add_mul]
    have:n+uR.length+(nc - (n+uR.length))=nc:=by omega
    rw [this]
    omega
   have hi':i<tu.length+uR.length:=by simpa using hi
   rw [xW]
   have hcell:∀q,q<(olds++news).length→cellAt (hp (w.drew.alloc (.cells (olds.toArray++news.toArray++Builtin.zeroCells (oJ kk).cells (nc - (n+uR.length))) e))) w.heap.size (0+q)=(olds++news)[q]?:=by
    intro q hq
    unfold cellAt
    rw [hnew]
    simp only [Nat.zero_add]
    rw [Array.getElem?_append_left (by simpa using hq)]
    simp
   by_cases hi0:i<tu.length
   ·rw [if_pos (by rw [hl0]; exact hi0)]
    have hx:(tu++uR)[i]'hi=tu[i]:=List.getElem_append_left hi0
    refine ⟨kL olds kk.size i,fun j hj=>?_, ?_⟩
    ·rw [oC ho1 (by omega)] at hj
     have hlt2:(i+1) * kk.size≤n * kk.size:=agm _ (by omega)
     rw [Nat.add_mul,Nat.one_mul] at hlt2
     rw [Nat.add_assoc,hcell _ (by rw [afY,ho1]; omega),List.getElem?_append_left (by rw [ho1]; omega),jU hj]
    ·show Ow _ own ok kk ((tu++uR)[i]'hi) _ _
     rw [hx]
     exact bq (fun b' h=>hold b' (hok b' h).2) (fun _ h=>h) (fun b' hb'=>hold b' (hall b' (afV _ (ou hb')))) (YN i hi0)
   ·have hi1:i - tu.length<uR.length:=by omega
    rw [if_neg (by rw [hl0]; exact hi0)]
    have hx:(tu++uR)[i]'hi=uR[i - tu.length]:=List.getElem_append_right (by omega)
    have hfe:i - rT.length=i - tu.length:=by rw [hl0]
    rw [hfe]
    refine ⟨kL news kk.size (i - tu.length),fun j hj=>?_, ?_⟩
    ·rw [oC hnl hi1] at hj
     have hlt2:(i - tu.length+1) * kk.size≤uR.length * kk.size:=agm _ hi1
     rw [Nat.add_mul,Nat.one_mul] at hlt2
     have e4:i * kk.size=n * kk.size+(i - tu.length) * kk.size:=by rw [←Nat.add_mul]; congr 1; omega
     rw [Nat.add_assoc,hcell _ (by rw [afY,ho1,hnl]; omega),List.getElem?_append_right (by rw [ho1]; omega),jU hj]
     congr 1
     rw [ho1]
     omega
    ·show Ow _ own ok kk ((tu++uR)[i]'hi) _ _
     rw [hx]
     exact bq (fun b' h=>hold b' (hok b' h).2) (fun _ h=>h) (fun b' hb'=>hold b' (hall b' (afS _ (ou hb')))) (hel _ hi1)
end
end
section
open Go
variable [Fr]
section
variable {P:Program} {T:iD} {cx:Cx} {σ:St} {α:dI} {F:List Nat} {a:Act} {w:World}
theorem QE {k l:K} (e:k=l) {x:El k} {y:El l} (ey:y=e▸x) {h:Heap} {ok:Nat→Prop} {cs:List Value} (H:Vw h ok k x cs):Vw h ok l y cs:=by subst e; subst ey; exact H
theorem uq {k l:K} (e:k=l) {x:El k} {y:El l} (ey:y=e▸x) {h:Heap} {own:List TypeId} {ok:Nat→Prop} {cs:List Value} {fo:List Nat} (H:Ow h own ok k x cs fo):Ow h own ok l y cs fo:=by subst e; subst ey; exact H
theorem K7 {u:TypeId} {size n c bb q:Nat} (hu:(∃e',P.underlying u=some (.slice e'))∨P.underlying u=some .string) (Q:Nat→List Value→Prop)
  (hE:∀i,i<n→∃ds,ds.length=size∧Cells (hp w) bb (q+i * size) ds∧(∀v∈ds,v.oneCell'=true)∧Q i ds) :
  ∃news,Src P w size u (.slice (some ⟨bb,q,none⟩) n c) n news∧∀i,i<n→Q i (kL news size i):=by
 have hrl:(mP (hp w) bb q (n * size)).length=n * size:=by simp [mP]
 have hseg:∀i,i<n→∃ds,kL (mP (hp w) bb q (n * size)) size i=ds∧ds.length=size∧Cells (hp w) bb (q+i * size) ds∧(∀v∈ds,v.oneCell'=true)∧Q i ds:=by
  intro i hi
  obtain ⟨ds,hdl,h1,h2,h3⟩:=hE i hi
  refine ⟨ds, ?_,hdl,h1,h2,h3⟩
  apply List.ext_getElem?
  intro j
  by_cases hj:j<size
  ·rw [jU hj]
   have hlt2:(i+1) * size≤n * size:=agm _ (by omega)
   rw [Nat.add_mul,Nat.one_mul] at hlt2
   unfold mP
   rw [List.getElem?_map,List.getElem?_range (by omega)]
   have:=h1 j (by omega)
   simp only [Option.map_some]
   rw [←Nat.add_assoc,this,af4 (by omega)]
   rfl
  ·rw [List.getElem?_eq_none (by rw [oC hrl hi]; omega),List.getElem?_eq_none (by omega)]
 have hcell:∀j,j<n * size→cellAt (hp w) bb (q+j)=(mP (hp w) bb q (n * size))[j]?∧∀v,(mP (hp w) bb q (n * size))[j]?=some v→v.oneCell'=true:=by
  intro j hj
  have hk:0<size:=by
   rcases Nat.eq_zero_or_pos size with h | h
   ·rw [h] at hj; omega
   ·exact h
  have hi:j / size<n:=Nat.div_lt_of_lt_mul (by rw [Nat.mul_comm]; exact hj)
  have hm:j % size<size:=Nat.mod_lt _ hk
  obtain ⟨ds,s1,hdl,s2,s3,_⟩:=hseg _ hi
  have hjj:j / size * size+j % size=j:=by rw [Nat.mul_comm]; exact Nat.div_add_mod j size
  have h1:(mP (hp w) bb q (n * size))[j]?=ds[j % size]?:=by
   rw [←s1,jU hm,hjj]
  have h2:=s2 (j % size) (by omega)
  rw [Nat.add_assoc,hjj] at h2
  refine ⟨by rw [h2,h1],fun v hv=>?_⟩
  rw [h1] at hv
  exact s3 v (List.mem_of_getElem? hv)
 refine ⟨mP (hp w) bb q (n * size),wz hu hrl (fun v hv=>?_) (fun _=>⟨bb,q,rfl,fun i hi=>(hcell i (by rw [hrl] at hi; exact hi)).1⟩),fun i hi=>?_⟩
 ·obtain ⟨j,hj,rfl⟩:=List.mem_iff_getElem.1 hv
  exact (hcell j (by rw [hrl] at hj; exact hj)).2 _ (af4 hj)
 ·obtain ⟨ds,s1,_,_,_,s3⟩:=hseg i hi
  rw [s1]
  exact s3
theorem FP {u e:TypeId} {kk:K} {h:Heap} {ok:Nat→Prop} {xs:List (El kk)} {v:Value} {cs:List Value} (hu:(∃e',P.underlying u=some (.slice e'))∨P.underlying u=some .string) (hg:eF kk=true)
  (hh:h=hp w) (hv:VC (.sl e kk) v cs) (hV:Vw h ok (.sl e kk) xs cs) :
  ∃news,Src P w kk.size u v xs.length news∧∀i (hi:i<xs.length),Vw h ok kk xs[i] (kL news kk.size i):=by
 subst hh
 obtain ⟨b,n,c,e1,e2,e3,e4,e5⟩:=xy hv hV
 subst e1
 subst e3
 by_cases h0:0<xs.length
 ·obtain ⟨bb,q,eb,hok,hel,hE⟩:=e5 h0
  subst eb
  obtain ⟨news,g1,g2⟩:=K7 (P:=P) (w:=w) (n:=xs.length) (c:=c) (bb:=bb) (q:=q) hu (fun i ds=>∀hi:i<xs.length,Vw (hp w) ok kk xs[i] ds) (fun i hi=>by
   obtain ⟨ds,h1,h2⟩:=hE i hi
   exact ⟨ds,jP h2,h1,EE hg h2,fun _=>h2⟩)
  exact ⟨news,g1,fun i hi=>g2 i hi hi⟩
 ·have hx:xs=[]:=List.eq_nil_of_length_eq_zero (by omega)
  subst hx
  exact ⟨[],wz hu (by simp) (by simp) (fun h=>by simp at h),fun i hi=>by simp at hi⟩
theorem PD {u e:TypeId} {kk:K} {own:List TypeId} {ok:Nat→Prop} {xs:List (El kk)} {v:Value} {cs:List Value} {fo:List Nat} (hu:(∃e',P.underlying u=some (.slice e'))∨P.underlying u=some .string) (hg:eF kk=true)
  (hv:VC (.sl e kk) v cs) (hown:au e own=true) (hO:Ow (hp w) own ok (.sl e kk) xs cs fo) (hnd:fo.Nodup) :
  ∃news,Src P w kk.size u v xs.length news∧∃bz:List (List Nat),bz.length=xs.length∧bz.flatten.Nodup∧(∀b∈bz.flatten,b∈fo)∧∀i (hi:i<xs.length),Ow (hp w) own ok kk xs[i] (kL news kk.size i) (bz.getD i []):=by
 unfold Ow at hO
 rw [if_pos hown] at hO
 obtain ⟨b,n,c,e1,e2,e3,hO⟩:=hO
 obtain ⟨e5,_⟩:cs=[v]∧_:=hv
 rw [e1] at e5
 simp only [List.cons.injEq,and_true] at e5
 subst e5
 have e2':n=xs.length:=e2
 subst e2'
 rcases hO with ⟨hc0,hf0⟩ | ⟨bb,q,arr,lo,hi,ea,hbk,hf,hs,rT,hl0,hp0,hO⟩
 ·have hx:xs=[]:=List.eq_nil_of_length_eq_zero (by omega)
  subst hx
  exact ⟨[],wz hu (by simp) (by simp) (fun h=>by simp at h),[],rfl,by simp,by simp,fun i hi=>by simp at hi⟩
 ·subst ea
  have oI:=hp0.nodup hnd
  obtain ⟨news,g1,g2⟩:=K7 (P:=P) (w:=w) (n:=xs.length) (c:=c) (bb:=bb) (q:=q) hu (fun i ds=>∀hi:i<xs.length,Ow (hp w) own ok kk xs[i] ds (rT.getD i [])) (fun i hi=>by
   obtain ⟨ds,h1,h2⟩:=hO i hi
   exact ⟨ds,cO h2,h1,IJ hg h2,fun _=>h2⟩)
  exact ⟨news,g1,rT,hl0,(agp.1 oI).2,fun b hb=>hp0.mem_iff.2 (by simp [hb]),fun i hi=>g2 i hi hi⟩
theorem NY {kk:K} {own own':List TypeId} {ok:Nat→Prop} {xs:List (El kk)} {news:List Value} {bz:List (List Nat)} (hfl:bz.length=xs.length) (hnd:bz.flatten.Nodup) (hsub:∀t∈kk.tys,au t own'=true→au t own=true)
  (hel:∀i (hi:i<xs.length),Ow (hp w) own ok kk xs[i] (kL news kk.size i) (bz.getD i [])) :
  ∃(vD:List (List Nat)) (wJ:List Nat),vD.length=xs.length∧(vD.flatten++wJ).Nodup∧(∀b∈vD.flatten++wJ,b∈bz.flatten)∧
   ∀i (hi:i<xs.length),Ow (hp w) own' (fun b=>ok b∨b∈wJ) kk xs[i] (kL news kk.size i) (vD.getD i []):=by
 suffices hs:∀(n:Nat),n≤xs.length→∃(vD:List (List Nat)) (wJ:List Nat),vD.length=n∧(bz.take n).flatten.Perm (vD.flatten++wJ)∧
   ∀i (_:i<n) (hi:i<xs.length),Ow (hp w) own' (fun b=>ok b∨b∈wJ) kk xs[i] (kL news kk.size i) (vD.getD i []) by
  obtain ⟨vD,wJ,h1,h2,h3⟩:=hs xs.length (af6 _)
  rw [List.take_of_length_le (by omega)] at h2
  exact ⟨vD,wJ,h1,h2.nodup hnd,fun b hb=>h2.mem_iff.2 hb,fun i hi=>h3 i hi hi⟩
 intro n
 induction n with
 | zero=>intro _; exact ⟨[],[],rfl,by simp,fun i hi=>by omega⟩
 | succ n ih=>
  intro hn
  obtain ⟨vD,wJ,h1,h2,h3⟩:=ih (by omega)
  obtain ⟨f1,f2,p1,p2⟩:=qG (own':=own') hsub (hel n (by omega))
  refine ⟨vD++[f1],wJ++f2,by simp [h1], ?_,fun i hi hi'=>?_⟩
  ·rw [List.take_succ_eq_append_getElem (by omega),List.flatten_append]
   have e:[bz[n]'(by omega)].flatten=bz.getD n []:=by rw [bZ (show n<bz.length by omega)]; simp
   rw [e]
   refine (h2.append p1).trans ?_
   simp only [List.flatten_append,agb]
   refine List.Perm.append_left _ ?_
   simp only [List.flatten_cons,List.flatten_nil,agk]
   exact tV
  ·rw [xW,h1]
   by_cases h:i<n
   ·rw [if_pos h]
    exact bq (fun _ _=>rfl) (fun b hb=>hb.imp id (fun h=>by simp [h])) (fun _ _=>rfl) (h3 i h hi')
   ·have:i=n:=by omega
    subst this
    rw [if_neg (by omega)]
    simp only [Nat.sub_self]
    exact bq (fun _ _=>rfl) (fun b hb=>hb.imp id (fun h=>by simp [h])) (fun _ _=>rfl) p2
def gY (P:Program) (cx:Cx) (σ:St) (α:dI) (F:List Nat) (a:Act) (w:World) (u e:TypeId) (kk:K) (v:Value) (s:qX kk):Prop:=
 ∃dH F1 news,Rel cx (az s.ws σ) dH F1 a w∧(∀q,q∉s.ws.flatMap Wr.pQ→Same σ α (az s.ws σ) dH q)∧(az s.ws σ).slots=σ.slots∧(∀q,σ.roots q=none→(az s.ws σ).roots q=none)∧(∀b∈F,b∈F1)∧
  eG (az s.ws σ) s.tags∧Src P w kk.size u v s.xs.length news∧
  ∀own',(∀t∈kk.tys,au t own'=true→t∉s.bad)→∃(bz:List (List Nat)) (wJ:List Nat),bz.length=s.xs.length∧(bz.flatten++wJ).Nodup∧(∀b∈bz.flatten++wJ,b∈F1∧b∉F)∧
   ∀i (hi:i<s.xs.length),Ow (hp w) own' (fun b=>(gV cx (az s.ws σ) dH F1 w s.tags b∧∃t∈s.bad,q9 (hp w) b t)∨b∈wJ) kk s.xs[i] (kL news kk.size i) (bz.getD i [])
theorem GL {n i:Nat}:(List.replicate n ([]:List Nat)).getD i []=[]:=by
 simp only [af3,List.getElem?_replicate]
 split <;> rfl
theorem rP (H:Rel cx σ α F a w) {u e:TypeId} {kk:K} {v:Value} {s:qX kk} (hws:s.ws=[]) (p9:eG σ s.tags) {news:List Value} (hS:Src P w kk.size u v s.xs.length news)
  (hV:∀i (hi:i<s.xs.length),Vw (hp w) (gV cx σ α F w s.tags) kk s.xs[i] (kL news kk.size i)) (hbad:s.bad=kk.tys∨kk.flat=true∨s.xs=[]):gY P cx σ α F a w u e kk v s:=by
 refine ⟨α,F,news,by rw [hws]; exact H,by rw [hws]; exact fun q _=>jO ..,by rw [hws]; rfl,by rw [hws]; exact fun q h=>h,fun _ h=>h,by rw [hws]; exact p9,hS,fun own' ho=>?_⟩
 refine ⟨List.replicate s.xs.length [],[],by simp,by simp,by simp,fun i hi=>?_⟩
 rw [GL,hws]
 rcases hbad with h | h | h
 ·refine bq (fun _ _=>rfl) (fun b hb=>.inl (h▸hb)) (fun _ _=>rfl) (mZ (fun t ht=>?_) (A8 kk.tys (fun _ h=>h) (hV i hi)))
  cases hm:au t own' with
  | false=>rfl
  | true=>exact absurd (h▸ht) (ho t ht hm)
 ·exact mZ (fun t ht=>by rw [tO h] at ht; simp at ht) (iF h (hV i hi))
 ·rw [h] at hi; simp at hi
theorem Ik {A:Type} {z:A} (H:Rel cx σ α F a w) {u e:TypeId} {kk:K} {x:AV} {v:Value} {k:qX kk→Prog A} (hu:(∃e',P.underlying u=some (.slice e'))∨P.underlying u=some .string) (hg:eF kk=true)
  (hx:bH cx σ α F w x v) (hw:nW σ x) (h:(PV e kk x k).ends σ z):∃s:qX kk,(k s).ends σ z∧gY P cx σ α F a w u e kk v s:=by
 have uV:(qz x fun k' y tags=>match bR k' (.sl e kk) y with
   | some xs=>k ⟨xs,kk.tys,bif kk.flat then [] else tags,[],false,[]⟩
   | none=>.fail).ends σ z→∃s:qX kk,(k s).ends σ z∧gY P cx σ α F a w u e kk v s:=by
  intro h
  obtain ⟨k',y,Tg,cs,h1,h2,h3,h4⟩:=qO H hx hw h
  cases hc:bR k' (.sl e kk) y with
  | none=>rw [hc] at h4; exact h4.elim
  | some xs=>
   rw [hc] at h4
   obtain ⟨ek,ey⟩:=bL hc
   subst ek
   simp only at ey
   subst ey
   obtain ⟨news,g1,g2⟩:=FP (P:=P) (u:=u) (xs:=xs) hu hg rfl h1 h2
   cases hf:kk.flat with
   | true=>
    rw [hf] at h4
    exact ⟨_,h4,rP H rfl (fun t ht=>by simp at ht) g1 (fun i hi=>iF hf (g2 i hi)) (.inr (.inl hf))⟩
   | false=>
    rw [hf] at h4
    exact ⟨_,h4,rP H rfl h3 g1 g2 (.inl rfl)⟩
 cases x with
 | val k1 y Tg=>
  cases k1 with
  | str=>
   simp only [PV] at h
   cases h1:bR (.int .u8) kk (0:Int) with
   | none=>rw [h1] at h; exact h.elim
   | some q=>
    rw [h1] at h
    obtain ⟨ek,_⟩:=bL h1
    subst ek
    simp only at h
    cases h2:bR (.sl e (.int .u8)) (.sl e (.int .u8)) (show List Int from y) with
    | none=>rw [h2] at h; exact h.elim
    | some xs=>
     rw [h2] at h
     obtain ⟨_,ey⟩:=bL h2
     simp only at ey
     subst ey
     obtain ⟨B,e1,e2⟩:=sH hx
     subst e1
     have hlen:(bytesOf B).length=B.size:=jV B
     have hS:=JZ (P:=P) (w:=w) (u:=u) (B:=B) hu
     subst e2
     refine ⟨_,h,rP H rfl (fun t ht=>by simp at ht) (news:=B.data.toList.map fun b=>.int .u8 b.toNat) ?_ (fun i hi=>?_) (.inr (.inl rfl))⟩
     ·show Src P w 1 u _ (bytesOf B).length _
      rw [hlen]
      exact hS
     ·have hi':i<B.size:=by
       have:i<(bytesOf B).length:=hi
       rw [hlen] at this; exact this
      have hseg:kL (B.data.toList.map fun b=>Value.int .u8 b.toNat) (K.int .u8).size i=[.int .u8 (B.data.toList[i]'(by simpa using hi')).toNat]:=by
       apply List.ext_getElem?
       intro j
       show (kL (B.data.toList.map fun b=>Value.int .u8 b.toNat) 1 i)[j]?=_
       cases j with
       | zero=>rw [jU (by omega)]; simp [hi']
       | succ j=>rw [List.getElem?_eq_none (by rw [oC (m:=B.size) (by simp) hi']; omega)]; simp
      rw [hseg]
      have he:(bytesOf B)[i]'hi=((B.data.toList[i]'(by simpa using hi')).toNat:Int):=by simp [bytesOf]
      refine ⟨?_, ?_⟩
      ·show [Value.int .u8 _]=[Value.int .u8 _]
       congr 2
       exact he.symm
      ·show CG .u8 _
       have:CG .u8 ((B.data.toList[i]'(by simpa using hi')).toNat:Int):=⟨by omega,by have:=(B.data.toList[i]'(by simpa using hi')).toNat_lt; omega⟩
       exact he▸this
  | _=>exact uV h
 | iC=>
  obtain ⟨b,rfl⟩:=hx
  exact ⟨_,h,rP H rfl (fun t ht=>by simp at ht) (news:=[]) (wz hu (by simp) (by simp) (fun h=>by simp at h)) (fun i hi=>by simp at hi) (.inr (.inr rfl))⟩
 | ref r g=>
  simp only [PV] at h
  obtain ⟨R,hr,hv,h⟩:=cz h
  rcases ay h with ⟨hg1,h⟩ | ⟨_,h⟩
  ·have hgg:=afU hg1
   obtain ⟨hkind,xY⟩:=hx R hr hgg
   cases hc:bR R.k (.sl e kk) R.x with
   | none=>rw [hc] at h; exact h.elim
   | some xs=>
    rw [hc] at h
    simp only at h
    obtain ⟨ek,ey⟩:=bL hc
    have K:=H.roots r R hr
    have hO:=K.ow hv
    have UF:=lI H hr hO (fun b hb=>hb)
    cases hf:kk.flat with
    | true=>
     rw [hf] at h
     have BS:Vw (hp w) (gV cx σ α F w (R.out r R.k)) (.sl e kk) xs (α.hdr r):=QE ek ey UF
     obtain ⟨news,g1,g2⟩:=FP (P:=P) (u:=u) (xs:=xs) hu hg rfl (ek▸xY) BS
     exact ⟨_,h,rP H rfl (fun t ht=>by simp at ht) g1 (fun i hi=>iF hf (g2 i hi)) (.inr (.inl hf))⟩
    | false=>
     rw [hf] at h
     simp only [cond_false] at h
     rcases ay h with ⟨_,h⟩ | ⟨_,h⟩
     ·exact h.elim
     ·obtain ⟨H1,T1,hh,hcl⟩:=kill H hr hkind hv
      have Md:Ow (hp w) R.own (gV cx (aj σ r bT) (jd α r) (α.fo r++F) w R.tags) (.sl e kk) xs (α.hdr r) (α.fo r):=uq ek ey (hh.ow hcl)
      have Xj:VC (.sl e kk) v (α.hdr r):=ek▸xY
      have hsame:∀q,q∉([Wr.r r none]:List Wr).flatMap Wr.pQ→Same σ α (aj σ r bT) (jd α r) q:=fun q hq=>gI (by simpa [Wr.pQ] using hq)
      have hnone:∀q,σ.roots q=none→(aj σ r bT).roots q=none:=fun q hq=>by
       rw [bU]
       ·exact hq
       ·intro e; rw [e,hr.1] at hq; simp at hq
      have Ai:∀b∈α.fo r,b∉F:=fun b hb=>H.iB r R hr b (afS _ hb)
      cases hme:au e R.own with
      | true=>
       obtain ⟨news,g1,bz,g2,g3,g4,g5⟩:=PD (P:=P) (u:=u) hu hg Xj hme Md hh.nd
       rw [hme] at h
       simp only [cond_true,Bool.true_and] at h
       refine ⟨_,h,jd α r,α.fo r++F,news,H1,hsame,rfl,hnone,fun b hb=>afS _ hb, ?_,g1,fun own' ho=>?_⟩
       ·intro t ht
        simp only at ht
        cases hal:(kk.tys.all fun t=>au t R.own) with
        | true=>rw [hal] at ht; simp at ht
        | false=>rw [hal] at ht; exact hh.wt t ht
       ·simp only at ho ⊢
        have g5':∀i (hi:i<List.length xs),Ow (hp w) R.own (fun b=>gV cx (aj σ r bT) (jd α r) (α.fo r++F) w (bif (kk.tys.all fun t=>au t R.own) then [] else R.tags) b∧∃t∈aR R.own kk,q9 (hp w) b t) kk xs[i] (kL news kk.size i) (bz.getD i []):=by
         intro i hi
         cases hal:(kk.tys.all fun t=>au t R.own) with
         | false=>exact oN _ (fun _ h=>h) (g5 i hi)
         | true=>exact fP (dm (jy hal)) (g5 i hi)
        obtain ⟨vD,wJ,f1,f2,f3,f4⟩:=NY (own':=own') g2 g3 (fun t ht hm=>(vW (own:=R.own) ht).resolve_left (fun hx=>ho t ht hm hx)) g5'
        exact ⟨vD,wJ,f1,f2,fun b hb=>⟨afV _ (g4 b (f3 b hb)),Ai b (g4 b (f3 b hb))⟩,f4⟩
      | false=>
       have hO2:=Md
       unfold Ow at hO2
       rw [hme] at hO2 h
       simp only [afT,if_false] at hO2
       simp only [cond_false,Bool.false_and] at h
       obtain ⟨news,g1,g2⟩:=FP (P:=P) (u:=u) (xs:=xs) hu hg rfl Xj hO2.2
       refine ⟨_,h,jd α r,α.fo r++F,news,H1,hsame,rfl,hnone,fun b hb=>afS _ hb,hh.wt,g1,fun own' ho=>?_⟩
       refine ⟨List.replicate (List.length xs) [],[],by simp,by simp,by simp,fun i hi=>?_⟩
       rw [GL]
       refine bq (fun _ _=>rfl) (fun b hb=>.inl hb) (fun _ _=>rfl) (mZ (fun t ht=>?_) (A8 kk.tys (fun _ h=>h) (g2 i hi)))
       cases hm:au t own' with
       | false=>rfl
       | true=>exact absurd ht (ho t ht hm)
  ·exact h.elim
 | oQ r p n=>exact uV h
 | undef=>exact uV h
 | ptr r p n=>exact uV h
 | iK bt k y T=>exact uV h
 | Bu _ _ _ _=>exact uV h
 | u6 _=>exact uV h
 | part _ _ _ _ _=>exact uV h
 | sW _ _ _ _=>exact uV h
 | app _ _ _ _=>exact uV h
 | oz=>exact uV h
 | fn f cs=>exact uV h
end
end
section
open Go
variable [Fr]
section
variable {P:Program} {T:iD} {cx:Cx} {σ:St} {α:dI} {F:List Nat} {a:Act} {w:World} {o:Oper} {d:Nat} {ws:List Wr} {r:Nat} {R:Root}
theorem Yv (H:Rel cx σ α F a w) (hr:aN σ r R) (hv:bn σ R) (hk:R.kind=.anon) {R':Root} (hk':R'.kind=.anon) {e:TypeId} (hw:R'.w=e :: R.w) (hh:R'.h=mY :: e :: R.h) (hg:R'.g=R.g+1) (hev:R'.ew=R.ew∧R'.eh=R.eh)
  (p9:eG σ R'.tags∧∀n,(r,n)∉R'.tags) {w':World} (hos:w'.os=w.os∧w'.tape=w.tape∧w'.output=w.output) (hsize:w.heap.size≤w'.heap.size) {dA:List Nat}
  (Iw:∀b,b<w.heap.size→hp w' b≠hp w b→b∈F∨(b∈α.fo r∧ni (hp w) b=some e)) (Yd:∀b∈dA,b∈α.fo r∨b∈F∨(w.heap.size≤b∧b<w'.heap.size)) (hnd:dA.Nodup)
  {hdr':List Value} (hlen:hdr'.length=R'.k.size) (how:Ow (hp w') R'.own (gV cx (aj σ r R') (aG α r (α.loc r) hdr' dA) [] w' R'.tags) R'.k R'.x hdr' dA) {v':Value} (hv':VC R'.k v' hdr') :
  Rel cx (aj σ r R') (aG α r (α.loc r) hdr' dA) [] a w'∧bH cx (aj σ r R') (aG α r (α.loc r) hdr' dA) [] w' (.ref r R'.g) v':=by
 have hblk:blk α R r=α.fo r:=by simp [blk,dQ,hk]
 have hd':R'.aZ=false:=by simp [Root.aZ,hk']
 have T1:vg cx σ α F w r R R' dA [] w' [e] [mY,e]:=by
  refine ⟨.inr ⟨hw,hh,by omega,hk'.trans hk.symm,fun h=>by rw [hk] at h; simp at h, .inl (by simp)⟩,p9,hos,hsize,fun b hb hne=>?_,fun _ b hb=>?_,fun b hb=>by simp at hb,List.nodup_nil,fun _ b _ h=>by simp at h,fun j pi b o n hj hb Vg hne=>?_,fun _=>hev⟩
  ·rcases Iw b hb hne with h | ⟨h1,h2⟩
   ·exact .inl h
   ·exact .inr ⟨by rw [hblk]; exact h1, .inr (.inl ⟨e,by simp,h2⟩)⟩
  ·rw [gF hk'] at hb
   rw [hblk]
   exact Yd b hb
  ·obtain ⟨Q,hQ,hkq,_,_⟩:=H.jT j pi b o n hj hb
   have hQR:Q=R:=by have:=hQ.1; rw [←Vg,hr.1] at this; simpa using this.symm
   rw [hQR,hk] at hkq
   simp at hkq
 refine ⟨T1.rel H hr (fun _=>⟨fun _=>how,hlen,fun b o hb=>by rw [tY hk'] at hb; simp at hb,by rw [gF hk']; exact hnd⟩) ?_ ?_, ?_⟩
 ·intro _ p n v hn hold
  refine ⟨hold.1,fun Q hQ Rl hcl hty hs=>?_⟩
  rw [aH] at hQ
  simp only [afQ] at hQ
  subst hQ
  cases p with
  | nil=>
   obtain ⟨_,cs,b,o,h1,_⟩:=hold.2 R hr.1 hv (by simp [clean,dS,au]) (fun t ht=>by simp [aa] at ht) rfl
   simp only [bE,afQ,af1] at h1
   have:dQ α R r=none:=by simp [dQ,hk]
   rw [this] at h1
   simp at h1
  | cons s p=>
   have e1:R'.h=[mY,e]++R.h:=hh
   rw [e1,lZ hn] at hcl
   exact absurd (show mY∈dS (s :: p) R'.k from agn) (hcl.1 mY (by simp))
 ·intro _ g v hgl hold Q hQ YP
  obtain ⟨rfl,_⟩:=eD hQ
  omega
 ·intro Q hQ _
  obtain ⟨rfl,_⟩:=eD hQ
  refine ⟨hk', ?_⟩
  simp only [aG,upd_same]
  exact hv'
theorem KX (H:Rel cx σ α F a w) {w':World} (hs:w.heap.size≤w'.heap.size) {Tg Tg':List Tag} {dA:List Nat} {b:Nat} (hb:gV cx σ α F w Tg b∨b∈F) (ht:∀t∈Tg,t∈Tg') (hfo:b∉dA):gV cx σ α dA w' Tg' b:=by
 rcases hb with hb | hb
 ·exact ⟨Nat.lt_of_lt_of_le hb.1 hs,hfo,hb.2.2.1,fun q Q hq hbq=>(hb.2.2.2.1 q Q hq hbq).imp fun n hn=>ht _ hn,fun h0=>(hb.2.2.2.2 h0).imp (fun ⟨j,n,h1,h2⟩=>⟨j,n,ht _ h1,h2⟩) id⟩
 ·have hm:=H.fl b hb
  refine ⟨Nat.lt_of_lt_of_le hm.1 hs,hfo,oL H hb,fun q Q hq hbq=>absurd hb (H.iB q Q hq b hbq),fun h0=>?_⟩
  rcases hm.2 with h | ⟨j,pi,h1,h2⟩
  ·omega
  ·exact .inr ⟨j,pi,h1,h2⟩
theorem ku {c:Call} (ho:o.op=.call c) (hb:c.callee=.builtin .append) {x y:Operand} (ha:c.args.toList=[x,y]) {t u:TypeId} (ht:c.argTypes[0]?=some t) (hu:c.argTypes[1]?=some u) {v':Value} {w':World}
  (h:(Builtin.append_ #[t,u] o.type #[a.eval x,a.eval y]).run P w=.ok v' w'):(execOp a.eval o).run P w=.ok (.value v') w':=by
 obtain ⟨cc,hcc⟩:=iT (P:=P) (a:=a) (w:=w) ho hb
 rw [hcc]
 have h1:c.args.map a.eval=#[a.eval x,a.eval y]:=by
  apply Array.ext'
  rw [Array.toList_map,ha]
  rfl
 have h2:Builtin.append_ c.argTypes o.type #[a.eval x,a.eval y]=Builtin.append_ #[t,u] o.type #[a.eval x,a.eval y]:=by
  unfold Builtin.append_
  simp only [ht,hu]
  rfl
 rw [h1]
 simp only [builtin,agf,h2,h,af8,agl]
end
end
section
open Go
variable [Fr]
section
variable {P:Program} {T:iD} {cx:Cx} {σ:St} {α:dI} {F:List Nat} {a:Act} {w:World} {o:Oper} {d:Nat} {ws:List Wr}
theorem Ba (hT:dU P T) {σ1:St} {dH:dI} {F1:List Nat} (H1:Rel cx σ1 dH F1 a w) (hd:o.dst=some d) (hdn:d<cx.nt) {c:Call} (ho:o.op=.call c) (hcb:c.callee=.builtin .append) {x y:Operand} (ha:c.args.toList=[x,y])
  {t u e:TypeId} {kk:K} (ht0:c.argTypes[0]?=some t) (hu0:c.argTypes[1]?=some u) (hty:T.ty t=some (.sl e kk)) (hn1:σ1.roots (aX d 0)=none)
  {own:List TypeId} {tags T1 T2:List Tag} {bad:List TypeId} {tu uR:List (El kk)} {v0:Value} {sS fd:List Nat} {bz:List (List Nat)} {wJ:List Nat} {news:List Value} (hv0:a.eval x=v0) (hS:Src P w kk.size u (a.eval y) uR.length news)
  (hown:au e own=true) (hob:∀t,au t own=true→t∉bad) (hwt:eG σ1 tags) (ht1:∀t∈T1,t∈tags) (ht2:∀t∈T2,t∈tags)
  (hO:Ow (hp w) own (fun b=>gV cx σ1 dH F1 w T1 b∨b∈fd) (.sl e kk) tu [v0] sS) (R3:∀b∈sS++fd,b∈F1) (oI:(sS++fd).Nodup) (hF1:∀b∈bz.flatten++wJ,b∈F1∧b∉sS++fd) (xZ:(bz.flatten++wJ).Nodup)
  (hfl:bz.length=uR.length) (hel:∀i (hi:i<uR.length),Ow (hp w) own (fun b=>((gV cx σ1 dH F1 w T2 b∨b∈F1)∧∃t∈bad,q9 (hp w) b t)∨b∈wJ) kk uR[i] (kL news kk.size i) (bz.getD i []))
  (hb:(tu.length+uR.length) * T.bytes e≤140737488355328) (kp:Bool) :
  nJ P cx o a w (az [.r (aX d 0) (some (aI (.sl e kk) (tu++uR) own tags .anon kp)), .s d (.one (.ref (aX d 0) 0))] σ1):=by
 have ht:=hT.ty t _ hty
 have n0:=afX.1 oI
 have n1:=afX.1 xZ
 have hlt:∀b∈F1,b<w.heap.size:=fun b h=>(H1.fl b h).1
 have UE:=pU hO
 have hnot:∀b,((gV cx σ1 dH F1 w T2 b∨b∈F1)∧∃t∈bad,q9 (hp w) b t)→b∉sS:=by
  rintro b ⟨_,t,h1,h2⟩ hb0
  obtain ⟨e',_,h3,h4⟩:=UE b hb0
  have h2:=H1.J6 (H1.fl b (R3 b (afV _ hb0))) h2
  rw [h2] at h4
  simp only [afQ] at h4
  subst h4
  exact hob _ h3 h1
 let ok:Nat→Prop:=fun b=>(gV cx σ1 dH F1 w T1 b∨b∈fd)∨((gV cx σ1 dH F1 w T2 b∨b∈F1)∧∃t∈bad,q9 (hp w) b t)∨b∈wJ
 obtain ⟨v',w',dA,hrun,hos,hsz,BX,hfo,Fb,BS⟩:=DF (w:=w) (ok:=ok) (u:=u) (ty:=o.type) (x:=a.eval y) (bz:=bz) ht (bq (fun _ _=>rfl) (fun b h=>.inl h) (fun _ _=>rfl) hO) hown
  (afX.2 ⟨n0.1,n1.1,fun b1 h1 b2 h2 e=>(hF1 b2 (afV _ h2)).2 (afV _ (e▸h1))⟩)
  (fun b hb=>by
   rcases hb with (h | h) | h | h
   ·exact ⟨fun h0=>h.2.1 (R3 b (afV _ h0)),h.1⟩
   ·exact ⟨fun h0=>n0.2.2 b h0 b h rfl,hlt b (R3 b (afS _ h))⟩
   ·refine ⟨hnot b h, ?_⟩
    rcases h.1 with h | h
    ·exact h.1
    ·exact hlt b h
   ·exact ⟨fun h0=>(hF1 b (afS _ h)).2 (afV _ h0),hlt b (hF1 b (afS _ h)).1⟩)
  (fun b hb=>by
   rcases afZ.1 hb with h | h
   ·exact hlt b (R3 b (afV _ h))
   ·exact hlt b (hF1 b (afV _ h)).1)
  hS hfl (fun i hi=>bq (fun _ _=>rfl) (fun b h=>.inr h) (fun _ _=>rfl) (hel i hi)) hb
 have Ai:∀b∈dA,b∈F1∨(w.heap.size≤b∧b<w'.heap.size):=by
  intro b hb
  rcases hfo b hb with h | h | h
  ·exact .inl (R3 b (afV _ h))
  ·exact .inl (hF1 b (afV _ h)).1
  ·exact .inr h
 have T2':=yh (w':=w') (F':=dA) H1 hos hsz (fun b h1 h2=>R3 b (afV _ (BX b h1 h2).1)) Ai Fb
 have H2:=H1.mem T2'
 have xY:VC (.sl e kk) v' [v']:=⟨rfl,by
  unfold Ow at BS
  rw [if_pos hown] at BS
  obtain ⟨b,n,c,e1,_⟩:=BS
  simp only [List.cons.injEq,and_true] at e1
  rw [e1]; simp⟩
 have hok:∀b,ok b→gV cx σ1 dH dA w' tags b:=by
  intro b hb
  have hnew:b<w.heap.size→¬(w.heap.size≤b∧b<w'.heap.size):=fun h=>by omega
  rcases hb with (h | h) | h | h
  ·refine KX H1 hsz (.inl h) ht1 (fun hb=>?_)
   rcases hfo b hb with h2 | h2 | h2
   ·exact h.2.1 (R3 b (afV _ h2))
   ·exact h.2.1 (hF1 b (afV _ h2)).1
   ·exact hnew h.1 h2
  ·have hF:=R3 b (afS _ h)
   refine KX H1 hsz (Tg:=[]) (.inr hF) (by simp) (fun hb=>?_)
   rcases hfo b hb with h2 | h2 | h2
   ·exact n0.2.2 b h2 b h rfl
   ·exact (hF1 b (afV _ h2)).2 (afS _ h)
   ·exact hnew (hlt b hF) h2
  ·refine KX H1 hsz h.1 ht2 (fun hb=>?_)
   have hlt':b<w.heap.size:=by
    rcases h.1 with h | h
    ·exact h.1
    ·exact hlt b h
   rcases hfo b hb with h2 | h2 | h2
   ·exact hnot b h h2
   ·obtain ⟨l,hl,hbl⟩:=List.mem_flatten.1 h2
    obtain ⟨i,hi,rfl⟩:=List.mem_iff_getElem.1 hl
    have:=pU (hel i (by omega)) b (by rw [bZ hi]; exact hbl)
    obtain ⟨e',_,h3,h4⟩:=this
    obtain ⟨_,t,h5,h6⟩:=h
    have h6:=H1.J6 (H1.fl b (hF1 b (afV _ h2)).1) h6
    rw [h6] at h4
    simp only [afQ] at h4
    subst h4
    exact hob _ h3 h5
   ·exact hnew hlt' h2
  ·have hF:=(hF1 b (afS _ h)).1
   refine KX H1 hsz (Tg:=[]) (.inr hF) (by simp) (fun hb=>?_)
   rcases hfo b hb with h2 | h2 | h2
   ·exact (hF1 b (afS _ h)).2 (afV _ h2)
   ·exact n1.2.2 b h2 b h rfl
   ·exact hnew (hlt b hF) h2
 obtain ⟨xE,k1,k2⟩:=tJ (k:=.sl e kk) (x:=tu++uR) (own:=own) (tags:=tags) (v:=v') (cs:=[v']) (fo:=dA) (r:=aX d 0) (F':=[]) H2 hn1 (eO d 0)
  (fun b hb=>hb) Fb hwt (fun b hb=>by simp at hb) List.nodup_nil rfl (fun _=>bq (fun _ _=>rfl) (fun b hb=>.inl (hok b hb)) (fun _ _=>rfl) BS) xY kp
 exact gT (x:=.one (.ref (aX d 0) 0)) k1 hd hdn (ku ho hcb ha ht0 hu0 (by rw [hv0]; exact hrun)) k2 ⟨_,aH .., .inr (agq _)⟩
theorem zG {ws:List Wr} {tags:List Tag} (h:vk ws tags=true):∀t∈tags,t.1∉ws.flatMap Wr.pQ:=fun t ht=>by
 have:=af5.1 h t ht
 simpa [aS] using this
theorem Hy {ws:List Wr} {r:Nat} (h:(ws.all fun w=>!w.loc.beq (.r r))=true):r∉ws.flatMap Wr.pQ:=by
 intro hm
 obtain ⟨wr,h1,h2⟩:=agt.1 hm
 have:=af5.1 h wr h1
 cases wr with
 | s n x=>simp [Wr.pQ] at h2
 | r n x=>
  simp only [Wr.pQ,af9] at h2
  subst h2
  simp [Wr.loc,Loc.beq] at this
theorem Je (hT:dU P T) (H:Rel cx σ α F a w) (hd:o.dst=some d) (hdn:d<cx.nt) {c:Call} (ho:o.op=.call c) (hcb:c.callee=.builtin .append)
  (h:(jg c.args.toList fun
   | [a,b]=>match c.argTypes[0]?,(c.argTypes[1]?).bind T.ty with
    | some t,some (.sl _ _)=>vX T d t a b fun ws=>(.ret ws:Prog (List Wr))
    | some t,some .str=>vX T d t a b fun ws=>(.ret ws:Prog (List Wr))
    | _,_=>.fail
   | _=>.fail).ends σ ws):nJ P cx o a w (az ws σ):=by
 obtain ⟨vs,h1,h2,h⟩:=iN H h
 obtain ⟨u,v,x,y,t,ut,hvs,ha,hx,hy,ht0,hu0,acR,h9⟩:∃u v x y t ut,vs=[u,v]∧c.args.toList=[x,y]∧bH cx σ α F w u (a.eval x)∧bH cx σ α F w v (a.eval y)∧c.argTypes[0]?=some t∧c.argTypes[1]?=some ut∧
   ((∃e',P.underlying ut=some (.slice e'))∨P.underlying ut=some .string)∧(vX T d t u v fun ws=>(.ret ws:Prog (List Wr))).ends σ ws:=by
  split at h
  ·rename_i u v
   have hargs:∃x y,c.args.toList=[x,y]∧bH cx σ α F w u (a.eval x)∧bH cx σ α F w v (a.eval y):=by
    revert h1
    generalize c.args.toList=l
    intro h1
    cases l with
    | nil=>exact h1.elim
    | cons x l=>
     cases l with
     | nil=>exact h1.2.elim
     | cons y l=>
      cases l with
      | nil=>exact ⟨x,y,rfl,h1.1,h1.2.1⟩
      | cons _ _=>exact h1.2.2.elim
   obtain ⟨x,y,e1,e2,e3⟩:=hargs
   split at h
   ·rename_i t e k e4 e5
    obtain ⟨ut,e6,e7⟩:=qy hT e5
    exact ⟨u,v,x,y,t,ut,rfl,e1,e2,e3,e4,e6, .inl ⟨_,e7.sl.1⟩,h⟩
   ·rename_i t e4 e5
    obtain ⟨ut,e6,e7⟩:=qy hT e5
    exact ⟨u,v,x,y,t,ut,rfl,e1,e2,e3,e4,e6, .inr e7.str,h⟩
   ·exact h.elim
  ·exact h.elim
 clear h
 have h:=h9
 clear h9
 subst hvs
 have hwu:=h2 u (by simp)
 have hwv:=h2 v (by simp)
 unfold vX at h
 cases hty:T.ty t with
 | none=>rw [hty] at h; exact h.elim
 | some k0=>
  rw [hty] at h
  cases k0 with
  | sl e kk=>
   have ht:=hT.ty t _ hty
   simp only at h
   obtain ⟨s,h8,dH,F1,news,H1,hsame,acM,hnone,hFF,hwt,hS,hels⟩:=Ik (P:=P) (u:=ut) H acR ht.sl.2.1.eF hy hwv h
   clear h
   rcases ay h8 with ⟨_,h⟩ | ⟨hbad,h⟩
   ·exact h.elim
   clear h8
   cases u with
   | iC=>
    obtain ⟨b0,hv0⟩:=hx
    obtain ⟨hb,h⟩:=h
    obtain ⟨hn,h⟩:=fF h
    rw [aA h,bQ]
    have ho1:au e (e :: bD kk.tys s.bad)=true:=aJ.2 (by simp)
    have ho2:∀t,au t (e :: bD kk.tys s.bad)=true→t∉s.bad:=fun t ht=>by
     rcases af2.1 (aJ.1 ht) with h | h
     ·rw [h]; exact aS.1 hbad
     ·exact (dn.1 (aJ.2 h)).2
    obtain ⟨bz,wJ,f1,f2,f3,f4⟩:=hels (e :: bD kk.tys s.bad) (fun t _ ht=>ho2 t ht)
    exact Ba hT H1 hd hdn ho hcb ha ht0 hu0 hty (hnone _ hn) (tu:=[]) (v0:=.slice b0 0 0) (sS:=[]) (fd:=[]) (T1:=[]) (T2:=s.tags) (bad:=s.bad) hv0 hS ho1 ho2 hwt (by simp) (fun _ h=>h) vM (by simp) (by simp)
     (fun b hb=>⟨(f3 b hb).1,by simp⟩) f2 f1 (fun i hi=>bq (fun _ _=>rfl) (fun b hb=>hb.imp (fun h=>⟨.inl h.1,h.2⟩) id) (fun _ _=>rfl) (f4 i hi)) (by simpa using hb) s.keep
   | oQ r p n=>
    obtain ⟨R,hr,hv,h⟩:=cz h
    rcases ay h with ⟨hc,h⟩ | ⟨_,h⟩
    ·simp only [afW] at hc
     obtain ⟨⟨⟨⟨⟨⟨⟨c1,c2⟩,c3⟩,c4⟩,c5⟩,c6⟩,c7⟩,c8⟩:=hc
     cases hg:aO p R.k R.x with
     | none=>rw [hg] at h; exact h.elim
     | some dd=>
      rw [hg] at h
      simp only at h
      cases hck:bR dd.1 (.sl e kk) dd.2 with
      | none=>rw [hck] at h; exact h.elim
      | some xs=>
       rw [hck] at h
       cases hga:wK R p dd with
       | none=>rw [hga] at h; exact h.elim
       | some R'=>
        rw [hga] at h
        simp only at h
        obtain ⟨hb,h⟩:=h
        obtain ⟨hn,h⟩:=fF h
        rw [aA h,bQ]
        obtain ⟨ek,ey⟩:=bL hck
        unfold wK at hga
        cases hz:dR p R.k R.x (og dd) with
        | none=>rw [hz] at hga; simp at hga
        | some z=>
         rw [hz] at hga
         simp only [afQ] at hga
         have eR:R'=dV R dd z:=by rw [←hga]; rfl
         have hSr:=hsame r (Hy c7)
         have hr1:=(hSr.live R).2 hr
         have hv1:bn (az s.ws σ) R:=⟨hv.1,by rw [eP (fun t ht=>(hsame t.1 (zG c8 t ht)).root)]; exact hv.2⟩
         obtain ⟨fG,hown,cs0,Qh,hn0,Uf⟩:=hx R hr.1 hv (afU c1) dd hg
         have hpv:p≠[]∨∃t,R.kind=.var t:=by
          rw [Bool.or_eq_true] at c3
          rcases c3 with h | h
          ·exact .inl (by simpa using h)
          ·refine .inr ?_
           unfold Root.isVar at h
           cases hk:R.kind with
           | var t=>exact ⟨t,rfl⟩
           | _=>rw [hk] at h; simp at h
         obtain ⟨cs1,kP,fE,rest,g1,g2,g3,g4,g5,g6⟩:=gap H1 hr1 hv1 hg hz fG hown hpv
         rw [hSr.hdr,hSr.wh,hn0] at g1
         simp only [afQ,af1] at g1
         obtain ⟨rfl,rfl⟩:=g1
         have hcl:bg (aj (az s.ws σ) r (dV R dd z)) (aR R.own dd.1) R.tags=true:=by
          rw [g5]
          exact ng hv1.2 (fun _ h=>h) (sJ p hg hown)
         have YM:=uq (y:=xs) ek ey (g4.ow hcl)
         have ho1:au e (bD ((e :: kk.tys).filter fun t=>au t R.own) s.bad)=true:=dn.2 ⟨aJ.2 (af7.2 ⟨by simp,c5⟩),aS.1 hbad⟩
         have ho2:∀t,au t (bD ((e :: kk.tys).filter fun t=>au t R.own) s.bad)=true→t∉s.bad:=fun t ht=>(dn.1 ht).2
         obtain ⟨sS,fd,hp0,Md⟩:=qG (own':=bD ((e :: kk.tys).filter fun t=>au t R.own) s.bad) (fun t _ hm=>(af7.1 (aJ.1 (dn.1 hm).1)).2) YM
         obtain ⟨bz,wJ,f1,f2,f3,f4⟩:=hels (bD ((e :: kk.tys).filter fun t=>au t R.own) s.bad) (fun t _ ht=>ho2 t ht)
         have Uo:∀b∈fE,b∉F1:=fun b hb hF=>(afX.1 g2.uU).2.2 b hb b hF rfl
         have hcs:∃v0,cs0=[v0]∧a.eval x=v0:=by
          have Xk:VC (.sl e kk) (a.eval x) cs0:=ek▸Uf
          exact ⟨_,Xk.1,rfl⟩
         obtain ⟨v0,ecs,ev0⟩:=hcs
         subst ecs
         subst eR
         have hne:aX d 0≠r:=fun e=>by have:=hr.1; rw [←e,hn] at this; simp at this
         refine Ba hT g2 hd hdn ho hcb ha ht0 hu0 hty (by rw [bU _ _ hne]; exact hnone _ hn) (tu:=xs) (v0:=v0) (sS:=sS) (fd:=fd) (T1:=R.tags) (T2:=s.tags) (bad:=s.bad) (bz:=bz) (wJ:=wJ) ev0 hS ho1 ho2
          (fun t ht=>?_) (fun t ht=>cK.2 (.inr ht)) (fun t ht=>cK.2 (.inl ht)) Md (fun b hb=>afV _ (hp0.mem_iff.2 hb)) (hp0.nodup g4.nd)
          (fun b hb=>⟨afS _ (f3 b hb).1,fun hb'=>Uo b (hp0.mem_iff.2 hb') (f3 b hb).1⟩) f2 f1 (fun i hi=>bq (fun _ _=>rfl) (fun b hb=>?_) (fun _ _=>rfl) (f4 i hi)) hb _
         ·rcases cK.1 ht with h | h
          ·exact g3.tag (hwt t h)
          ·exact g4.wt t h
         ·rcases hb with ⟨hb,hbt⟩ | hb
          ·refine .inl ⟨?_,hbt⟩
           by_cases hbf:b∈fE
           ·exact .inr (afV _ hbf)
           ·refine .inl ⟨hb.1,fun h=>?_,hb.2.2.1,fun q Q hq hbq=>?_,hb.2.2.2.2⟩
            ·rcases afZ.1 h with h | h
             ·exact hbf h
             ·exact hb.2.1 h
            ·rcases iQ hq with ⟨rfl,rfl,_⟩ | ⟨eq,hq'⟩
             ·refine hb.2.2.2.1 q R hr1 ?_
              rw [dY,lC (show (dV R dd z).kind=R.kind from rfl)] at hbq
              rw [bV]
              rw [eH] at hbq ⊢
              exact hbq.imp id (fun h=>g6.mem_iff.2 (afS _ h))
             ·rw [(gI (α:=dH) (σ:=az s.ws σ) (R:=dV R dd z) eq).blk] at hbq
              exact hb.2.2.2.1 q Q hq' hbq
          ·exact .inr hb
    ·exact h.elim
   | ref r g=>
    obtain ⟨R,hr,hv,h⟩:=cz h
    rcases ay h with ⟨hc,h⟩ | ⟨_,h⟩
    ·simp only [afW] at hc
     obtain ⟨⟨⟨⟨⟨c1,c4⟩,c5⟩,c6⟩,c7⟩,c8⟩:=hc
     cases hck:bR R.k (.sl e kk) R.x with
     | none=>rw [hck] at h; exact h.elim
     | some xs=>
      rw [hck] at h
      simp only at h
      obtain ⟨hb,h⟩:=h
      rw [aA h,bQ]
      obtain ⟨ek,ey⟩:=bL hck
      have hSr:=hsame r (Hy c7)
      have hr1:=(hSr.live R).2 hr
      have hv1:bn (az s.ws σ) R:=⟨hv.1,by rw [eP (fun t ht=>(hsame t.1 (zG c8 t ht)).root)]; exact hv.2⟩
      obtain ⟨hkind,Uf⟩:=hx R hr (afU c1)
      have K1:=H1.roots r R hr1
      have Rc:=H1.dh r R hr1.1
      have hfr:blk dH R r=dH.fo r:=by simp [blk,dQ,hkind]
      have Ai:∀b∈dH.fo r,b∉F1:=fun b hb=>H1.iB r R hr1 b (by rw [hfr]; exact hb)
      have Xk:VC (.sl e kk) (a.eval x) (dH.hdr r):=by rw [hSr.hdr]; exact ek▸Uf
      have YM:Ow (hp w) R.own (gV cx (az s.ws σ) dH F1 w R.tags) (.sl e kk) xs [a.eval x] (dH.fo r):=by
       have:=uq (y:=xs) ek ey (K1.ow hv1)
       rw [Xk.1] at this
       exact this
      have ho1:au e (bD R.own s.bad)=true:=dn.2 ⟨c5,aS.1 hbad⟩
      have ho2:∀t,au t (bD R.own s.bad)=true→t∉s.bad:=fun t ht=>(dn.1 ht).2
      have hnd:(dH.fo r).Nodup:=by rw [←hfr]; exact K1.nd
      obtain ⟨sS,fd,hp0,Md⟩:=qG (own':=bD R.own s.bad) (fun t _ hm=>(dn.1 hm).1) YM
      obtain ⟨bz,wJ,f1,f2,f3,f4⟩:=hels (bD R.own s.bad) (fun t _ ht=>ho2 t ht)
      have Ca:∀b∈sS,b∈dH.fo r:=fun b hb=>hp0.mem_iff.2 (afV _ hb)
      have hfd0:∀b∈fd,b∈dH.fo r:=fun b hb=>hp0.mem_iff.2 (afS _ hb)
      have n0:=afX.1 (hp0.nodup hnd)
      have n1:=afX.1 f2
      have hlt:∀b∈dH.fo r,b<w.heap.size:=fun b hb=>(K1.mine b (by rw [hfr]; exact hb)).1
      have Ut:∀b∈F1,b<w.heap.size:=fun b hb=>(H1.fl b hb).1
      have UE:=pU Md
      have hnot:∀b,(∃t∈s.bad,q9 (hp w) b t)→b∉sS:=by
       rintro b ⟨t,h1,h2⟩ hb0
       obtain ⟨e',_,h3,h4⟩:=UE b hb0
       have h2:=H1.J6 (K1.mine b (by rw [hfr]; exact Ca b hb0)) h2
       rw [h2] at h4
       simp only [afQ] at h4
       subst h4
       exact ho2 _ h3 h1
      let ok:Nat→Prop:=fun b=>(gV cx (az s.ws σ) dH F1 w R.tags b∨b∈fd)∨(gV cx (az s.ws σ) dH F1 w s.tags b∧∃t∈s.bad,q9 (hp w) b t)∨b∈wJ
      have hRr:∀b,gV cx (az s.ws σ) dH F1 w R.tags b→b∉dH.fo r:=by
       intro b hb hbr
       obtain ⟨n,hn⟩:=hb.2.2.2.1 r R hr1 (by rw [hfr]; exact hbr)
       exact Rc.2.2 n hn
      obtain ⟨v',w',dA,hrun,hos,hsz,BX,hfo,Fb,BS⟩:=DF (w:=w) (ok:=ok) (u:=ut) (ty:=o.type) (x:=a.eval y) (bz:=bz) ht (bq (fun _ _=>rfl) (fun b h=>.inl h) (fun _ _=>rfl) Md) ho1
       (afX.2 ⟨n0.1,n1.1,fun b1 h1 b2 h2 e=>Ai b1 (Ca b1 h1) (e▸(f3 b2 (afV _ h2)).1)⟩)
       (fun b hb=>by
        rcases hb with (h | h) | h | h
        ·exact ⟨fun h0=>hRr b h (Ca b h0),h.1⟩
        ·exact ⟨fun h0=>n0.2.2 b h0 b h rfl,hlt b (hfd0 b h)⟩
        ·exact ⟨hnot b h.2,h.1.1⟩
        ·exact ⟨fun h0=>Ai b (Ca b h0) (f3 b (afS _ h)).1,Ut b (f3 b (afS _ h)).1⟩)
       (fun b hb=>by
        rcases afZ.1 hb with h | h
        ·exact hlt b (Ca b h)
        ·exact Ut b (f3 b (afV _ h)).1)
       hS f1 (fun i hi=>bq (fun _ _=>rfl) (fun b h=>.inr h) (fun _ _=>rfl) (f4 i hi)) hb
      have xY:VC (.sl e kk) v' [v']:=⟨rfl,by
       have h5:=BS
       unfold Ow at h5
       rw [if_pos ho1] at h5
       obtain ⟨b,n,c,e1,_⟩:=h5
       simp only [List.cons.injEq,and_true] at e1
       rw [e1]; simp⟩
      have XJ:∀b,ok b→b∉dA∧b<w.heap.size:=by
       intro b hb
       have hlt':b<w.heap.size:=by
        rcases hb with (h | h) | h | h
        ·exact h.1
        ·exact hlt b (hfd0 b h)
        ·exact h.1.1
        ·exact Ut b (f3 b (afS _ h)).1
       refine ⟨fun hbf=>?_,hlt'⟩
       rcases hfo b hbf with h2 | h2 | h2
       ·rcases hb with (h | h) | h | h
        ·exact hRr b h (Ca b h2)
        ·exact n0.2.2 b h2 b h rfl
        ·exact hnot b h.2 h2
        ·exact Ai b (Ca b h2) (f3 b (afS _ h)).1
       ·have hF:=(f3 b (afV _ h2)).1
        rcases hb with (h | h) | h | h
        ·exact h.2.1 hF
        ·exact Ai b (hfd0 b h) hF
        ·exact h.1.2.1 hF
        ·exact n1.2.2 b h2 b h rfl
       ·omega
      have hnext:∀(j:Nat) (n:Nat),(mM j,n)∈s.tags→(mM j,n)∈iy (sj r s.tags) R.tags:=by
       intro j n hj
       refine cK.2 (.inl (mo.2 ⟨hj,fun e=>?_⟩))
       have:=Rc.2.1
       rw [←e] at this
       simp only at this
       rw [iw] at this
       simp at this
      obtain ⟨k1,k2⟩:=Yv (R':={ R with k:=.sl e kk,x:=xs++s.xs,own:=bD R.own s.bad,tags:=iy (sj r s.tags) R.tags,w:=e :: R.w,h:=mY :: e :: R.h,g:=R.g+1,keep:=R.keep || s.keep })
       (v':=v') (hdr':=[v']) (dA:=dA) (w':=w') H1 hr1 hv1 hkind hkind rfl rfl rfl ⟨rfl,rfl⟩ ⟨fun t ht=>(cK.1 ht).elim (fun h=>hwt t (mo.1 h).1) (Rc.1 t),fun n hn=>(cK.1 hn).elim (fun h=>(mo.1 h).2 rfl) (Rc.2.2 n)⟩
       hos hsz (fun b h1 h2=>.inr ⟨Ca b (BX b h1 h2).1,(BX b h1 h2).2⟩) (fun b hb=>by
        rcases hfo b hb with h | h | h
        ·exact .inl (Ca b h)
        ·exact .inr (.inl (f3 b (afV _ h)).1)
        ·exact .inr (.inr h)) Fb rfl
       (bq (k:=.sl e kk) (fun _ _=>rfl) (fun b hb=>by
        obtain ⟨z1,z2⟩:=XJ b hb
        refine ⟨Nat.lt_of_lt_of_le z2 hsz,by simp, ?_,fun q Q hq hbq=>?_,fun h0=>?_⟩
        ·rcases hb with (h | h) | h | h
         ·exact h.2.2.1
         ·exact lF H1 hr1 (hfd0 b h)
         ·exact h.1.2.2.1
         ·exact oL H1 (f3 b (afS _ h)).1
        ·rcases iQ hq with ⟨rfl,rfl,_⟩ | ⟨eq,hq'⟩
         ·rw [dY] at hbq
          have hbq:b∈dA:=by simpa [gQ,hkind] using hbq
          exact absurd hbq z1
         ·rw [(gI (α:=dH) (σ:=az s.ws σ) (R:={ R with k:=.sl e kk,x:=xs++s.xs,own:=bD R.own s.bad,tags:=iy (sj r s.tags) R.tags,w:=e :: R.w,h:=mY :: e :: R.h,g:=R.g+1,keep:=R.keep || s.keep }) eq).blk] at hbq
          rcases hb with (h | h) | h | h
          ·exact (h.2.2.2.1 q Q hq' hbq).imp fun n hn=>cK.2 (.inr hn)
          ·exact absurd hbq (H1.AB r R q Q hr1 hq' (Ne.symm eq) b (by rw [hfr]; exact hfd0 b h))
          ·exact (h.1.2.2.2.1 q Q hq' hbq).imp fun n hn=>cK.2 (.inl (mo.2 ⟨hn,eq⟩))
          ·exact absurd (f3 b (afS _ h)).1 (H1.iB q Q hq' b hbq)
        ·have iZ:Ow.mine cx w b→(∃j n,(mM j,n)∈iy (sj r s.tags) R.tags∧cx.ext j b)∨∃j pi,cx.par j=some pi∧b∈pi.bl:=fun hm=>by
          rcases hm.2 with h | ⟨j,pi,h1,h2⟩
          ·omega
          ·exact .inr ⟨j,pi,h1,h2⟩
         rcases hb with (h | h) | h | h
         ·exact (h.2.2.2.2 h0).imp (fun ⟨j,n,h1,h2⟩=>⟨j,n,cK.2 (.inr h1),h2⟩) id
         ·exact iZ (K1.mine b (by rw [hfr]; exact hfd0 b h))
         ·exact (h.1.2.2.2.2 h0).imp (fun ⟨j,n,h1,h2⟩=>⟨j,n,hnext j n h1,h2⟩) id
         ·exact iZ (H1.fl b (f3 b (afS _ h)).1)) (fun _ _=>rfl) BS) xY
      exact gT (x:=.one (.ref r (R.g+1))) k1 hd hdn (ku ho hcb ha ht0 hu0 hrun) k2 ⟨_,aH .., .inr (af6 _)⟩
    ·exact h.elim
   | val _ _ _=>exact h.elim
   | undef=>exact h.elim
   | ptr _ _ _=>exact h.elim
   | iK _ _ _ _=>exact h.elim
   | Bu _ _ _ _=>exact h.elim
   | u6 _=>exact h.elim
   | part _ _ _ _ _=>exact h.elim
   | sW _ _ _ _=>exact h.elim
   | app _ _ _ _=>exact h.elim
   | oz=>exact h.elim
   | fn _ _=>exact h.elim
  | _=>exact h.elim
end
end
section
open Go
variable [Fr]
section
variable {P:Program} {T:iD} {cx:Cx} {σ:St} {α:dI} {F:List Nat} {a:Act} {w:World} {o:Oper} {d:Nat} {ws:List Wr}
def l9 (kk:K):List (Nat×gP)→qX kk→Option (qX kk)
 | [],b=>some b
 | (n,tk) :: l,b=>match bR tk.k kk tk.x with
  | some y=>bif Nat.beq n (fV b.xs) then l9 kk l { xs:=b.xs++[y],bad:=tk.bad++b.bad,tags:=iy (tk.gq) b.tags,ws:=b.ws++tk.ws,keep:=tk.keep || b.keep,all:=tk.tags++b.all } else none
  | none=>none
theorem Jm {A:Type} {z:A} (H:Rel cx σ α F a w) {kk:K} {k:qX kk→Prog A}:∀{l:List (Nat×AV)} {vs:List Value} {b:qX kk},dO cx σ α F w (l.map (·.2)) vs→(∀v∈l,nW σ v.2)→(BF kk l b k).ends σ z→
  ∃(tks:List gP) (b':qX kk),tks.length=l.length∧vs.length=l.length∧(∀it∈vs.zip tks,rZ cx σ α F w it.1 it.2)∧l9 kk ((l.map (·.1)).zip tks) b=some b'∧(k b').ends σ z:=by
 intro l
 induction l with
 | nil=>
  intro vs b h1 _ h
  cases vs with
  | nil=>exact ⟨[],b,rfl,rfl,by simp,rfl,h⟩
  | cons v vs=>exact h1.elim
 | cons p l ih=>
  obtain ⟨n,x⟩:=p
  intro vs b h1 h2 h
  cases vs with
  | nil=>exact h1.elim
  | cons v vs=>
   simp only [BF] at h
   obtain ⟨tk,htk,h5⟩:=nH H h1.1 (h2 (n,x) (by simp)) h
   cases hc:bR tk.k kk tk.x with
   | none=>rw [hc] at h5; exact h5.elim
   | some y=>
    rw [hc] at h5
    simp only at h5
    rcases ay h5 with ⟨hn,h6⟩ | ⟨_,h6⟩
    ·obtain ⟨tks,b',g1,g2,g3,g4,g5⟩:=ih h1.2 (fun v hv=>h2 v (by simp [hv])) h6
     refine ⟨tk :: tks,b',by simp [g1],by simp [g2], ?_, ?_,g5⟩
     ·intro it hit
      rw [List.zip_cons_cons] at hit
      rcases af2.1 hit with h | h
      ·subst h; exact htk
      ·exact g3 it h
     ·rw [List.map_cons,List.zip_cons_cons]
      unfold l9
      simp only [hc,hn,cond_true]
      exact g4
    ·exact h6.elim
theorem Ag {kk:K}:∀(l:List (Nat×gP)) {b b':qX kk},l9 kk l b=some b'→
  b'.ws=b.ws++l.flatMap (fun p=>p.2.ws)∧(∀p∈l,∀t∈p.2.tags,t∈b'.all)∧(∀p∈l,∀t∈p.2.bad,t∈b'.bad)∧(∀t∈b.bad,t∈b'.bad)∧
  (∀p∈l,∀t∈p.2.gq,t∈b'.tags)∧(∀t∈b.tags,t∈b'.tags)∧(∀t∈b'.tags,t∈b.tags∨∃p∈l,t∈p.2.gq)∧(∀t∈b.all,t∈b'.all)∧b'.xs.length=b.xs.length+l.length:=by
 intro l
 induction l with
 | nil=>
  intro b b' h
  simp only [l9,afQ] at h
  subst h
  simp
 | cons p l ih=>
  obtain ⟨n,tk⟩:=p
  intro b b' h
  unfold l9 at h
  cases hc:bR tk.k kk tk.x with
  | none=>rw [hc] at h; simp at h
  | some y=>
   rw [hc] at h
   simp only at h
   cases hn:Nat.beq n (fV b.xs) with
   | false=>rw [hn] at h; simp at h
   | true=>
    rw [hn] at h
    simp only [cond_true] at h
    obtain ⟨g1,g2,g3,g4,g5,g6,g7,g8,g9⟩:=ih h
    refine ⟨by rw [g1]; simp, ?_, ?_,fun t ht=>g4 t (by simp [ht]), ?_,fun t ht=>g6 t (cK.2 (.inr ht)), ?_,fun t ht=>g8 t (by simp [ht]),by rw [g9]; simp; omega⟩
    ·intro p hp t ht
     rcases af2.1 hp with h | h
     ·subst h; exact g8 t (by simp [ht])
     ·exact g2 p h t ht
    ·intro p hp t ht
     rcases af2.1 hp with h | h
     ·subst h; exact g4 t (by simp [ht])
     ·exact g3 p h t ht
    ·intro p hp t ht
     rcases af2.1 hp with h | h
     ·subst h; exact g6 t (cK.2 (.inl ht))
     ·exact g5 p h t ht
    ·intro t ht
     rcases g7 t ht with h | ⟨p,h1,h2⟩
     ·rcases cK.1 h with h | h
      ·exact .inr ⟨(n,tk),by simp,h⟩
      ·exact .inl h
     ·exact .inr ⟨p,by simp [h1],h2⟩
theorem Jl {h:Heap} {own:List TypeId} {ok:Nat→Prop} {kk:K} {N:Nat} :
  ∀(l:List (Nat×gP)) {vs:List Value} {uJ:List (List Nat)} {b b':qX kk} {cells:Array Value} {bz:List (List Nat)},b.xs.length+l.length≤N→cells.size=N * kk.size→bz.length=b.xs.length→
   (∀i (hi:i<b.xs.length),Ow h own ok kk b.xs[i] (kL cells.toList kk.size i) (bz.getD i []))→rY h own ok l vs uJ→l9 kk l b=some b'→
   ∃cells',Instr.fill (fun i=>some (i * kk.size,kk.size)) cells ((l.map (·.1)).zip vs)=some cells'∧cells'.size=N * kk.size∧(bz++uJ).length=b'.xs.length∧
    ∀i (hi:i<b'.xs.length),Ow h own ok kk b'.xs[i] (kL cells'.toList kk.size i) ((bz++uJ).getD i []):=by
 intro l
 induction l with
 | nil=>
  intro vs uJ b b' cells bz hN hs hf hO hP hb
  cases vs with
  | nil=>
   cases uJ with
   | nil=>
    simp only [l9,afQ] at hb
    subst hb
    exact ⟨cells,rfl,hs,by simpa using hf,by simpa using hO⟩
   | cons f fs=>exact hP.elim
  | cons v vs=>cases uJ <;> exact hP.elim
 | cons p l ih=>
  obtain ⟨n,tk⟩:=p
  intro vs uJ b b' cells bz hN hs hf hO hP hb
  cases vs with
  | nil=>cases uJ <;> exact hP.elim
  | cons v vs=>
   cases uJ with
   | nil=>exact hP.elim
   | cons ft uJ=>
    obtain ⟨⟨cst,hv,Xd⟩,hP'⟩:=hP
    unfold l9 at hb
    cases hc:bR tk.k kk tk.x with
    | none=>rw [hc] at hb; simp at hb
    | some y=>
     rw [hc] at hb
     simp only at hb
     cases hn:Nat.beq n (fV b.xs) with
     | false=>rw [hn] at hb; simp at hb
     | true=>
      rw [hn] at hb
      simp only [cond_true] at hb
      have en:n=b.xs.length:=by rw [afU hn,mh]
      subst en
      obtain ⟨ek,ey⟩:=bL hc
      have hOy:Ow h own ok kk y cst ft:=uq ek ey Xd
      have hcl:cst.length=kk.size:=cO hOy
      have x8:v.cells=cst.toArray:=by
       have:=hv.cells
       apply Array.ext'
       simpa using this
      simp only [agd] at hN
      have hle:(b.xs.length+1) * kk.size≤N * kk.size:=agm _ (by omega)
      rw [Nat.add_mul,Nat.one_mul] at hle
      have hoff:b.xs.length * kk.size+cst.length≤cells.size:=by rw [hs,hcl]; exact hle
      rw [List.map_cons,List.zip_cons_cons,y5 (place:=fun i=>some (i * kk.size,kk.size)) (off:=b.xs.length * kk.size) (vs:=cst) (by simp [hcl]) x8 hoff]
      have hsz:(cells.toList.take (b.xs.length * kk.size)++(cst++cells.toList.drop (b.xs.length * kk.size+cst.length))).toArray.size=N * kk.size:=by
       simp
       omega
      obtain ⟨cells',g1,g2,g3,g4⟩:=ih (bz:=bz++[ft]) (b:={ xs:=b.xs++[y],bad:=tk.bad++b.bad,tags:=iy (tk.gq) b.tags,ws:=b.ws++tk.ws,keep:=tk.keep || b.keep,all:=tk.tags++b.all }) (by simp; omega) hsz (by simp [hf]) (by
       intro i hi
       simp only [afY,agd,List.length_nil,Nat.zero_add] at hi
       rw [xW]
       by_cases h0:i<b.xs.length
       ·rw [if_pos (by rw [hf]; exact h0)]
        have e1:(b.xs++[y])[i]'(by simp; omega)=b.xs[i]:=List.getElem_append_left h0
        show Ow h own ok kk ((b.xs++[y])[i]'(by simp; omega)) _ _
        rw [e1]
        have e2:kL (cells.toList.take (b.xs.length * kk.size)++(cst++cells.toList.drop (b.xs.length * kk.size+cst.length))) kk.size i=kL cells.toList kk.size i:=by
         have hl2:(i+1) * kk.size≤b.xs.length * kk.size:=agm _ (by omega)
         rw [Nat.add_mul,Nat.one_mul] at hl2
         apply List.ext_getElem?
         intro j
         by_cases hj:j<kk.size
         ·rw [jU hj,jU hj,List.getElem?_append_left (by simp; omega),List.getElem?_take_of_lt (by omega)]
         ·unfold kL
          rw [List.getElem?_eq_none (by simp; omega),List.getElem?_eq_none (by simp; omega)]
        simp only
        rw [e2]
        exact hO i h0
       ·have:i=b.xs.length:=by omega
        subst this
        rw [if_neg (by omega),hf,Nat.sub_self]
        have e1:(b.xs++[y])[b.xs.length]'(by simp)=y:=by simp
        show Ow h own ok kk ((b.xs++[y])[b.xs.length]'(by simp)) _ _
        rw [e1]
        have e2:kL (cells.toList.take (b.xs.length * kk.size)++(cst++cells.toList.drop (b.xs.length * kk.size+cst.length))) kk.size b.xs.length=cst:=by
         have hl:(cells.toList.take (b.xs.length * kk.size)).length=b.xs.length * kk.size:=by simp; omega
         unfold kL
         conv=>lhs; arg 2; arg 1; rw [←hl]
         rw [List.drop_left, ←hcl,List.take_left]
        simp only
        rw [e2]
        exact hOy) hP' hb
      refine ⟨cells',g1,g2, ?_, ?_⟩
      ·rw [←g3]; simp
      ·intro i hi
       have:=g4 i hi
       simp only [agb,List.cons_append,List.nil_append] at this
       exact this
end
end
section
open Go
variable [Fr]
section
variable {P:Program} {T:iD} {cx:Cx} {σ:St} {α:dI} {F:List Nat} {a:Act} {w:World} {o:Oper} {d:Nat} {ws:List Wr}
def uf (z:Array Value) (n:Nat):Array Value:=(Array.range n).map (z[· % z.size]!)
theorem run_buildSlice {t e:TypeId} {kk:K} (ht:fB P T t (.sl e kk)) {len:Nat} {parts:Array (Nat×Value)} {cells:Array Value} (hb:len * kk.size≤16777216)
    (hf:Instr.fill (fun i=>some (i * kk.size,kk.size)) (uf (bK kk).toArray (len * kk.size)) parts.toList=some cells) :
    (Instr.buildSlice t len parts).run P w=.ok (.slice (some ⟨w.heap.size,0,none⟩) len len) (w.alloc (.cells cells e)):=by
  obtain ⟨hu,he,hk,_⟩:=ht.sl
  have hzc:=rQ he.shape
  unfold Instr.buildSlice
  have h1:¬(len * kk.size>2 ^ 24):=by omega
  by_cases h0:len * kk.size=0
  · have hf':Instr.fill (fun i=>some (i * kk.size,kk.size)) #[] parts.toList=some cells:=by
      have e:uf (bK kk).toArray (len * kk.size)=#[]:=by
        apply Array.eq_empty_of_size_eq_zero
        simp [uf,h0]
      rw [e] at hf
      exact hf
    have hr0:∀f:Nat→Value,Array.map f (Array.range 0)=#[]:=fun f=>by apply Array.eq_empty_of_size_eq_zero; simp
    simp [run_underlying hu,he.info.sizeOf w,Result.andThen,h0,hr0,hf',newRow]
  · have hf':Instr.fill (fun i=>some (i * kk.size,kk.size)) ((Array.range (len * kk.size)).map fun x=>(bK kk).toArray[x % (bK kk).toArray.size]!) parts.toList=some cells:=hf
    simp only [agf,run_underlying hu,af8,he.info.sizeOf w]
    rw [if_neg h1,if_neg h0]
    simp only [agf,agl,af8,he.info.zero w,hzc,hf']
    simp [newRow,Result.andThen]
theorem Iu {kk:K} {len i:Nat} (hk:0<kk.size) (hz:(bK kk).length=kk.size) (hi:i<len):kL (uf (bK kk).toArray (len * kk.size)).toList kk.size i=bK kk:=by
  have hle:(i+1) * kk.size≤len * kk.size:=agm _ (by omega)
  rw [Nat.add_mul,Nat.one_mul] at hle
  apply List.ext_getElem?
  intro j
  by_cases hj:j<kk.size
  · rw [jU hj,Array.getElem?_toList]
    unfold uf
    rw [Array.getElem?_map]
    have hlt:i * kk.size+j<len * kk.size:=by omega
    rw [Array.getElem?_range,if_pos hlt]
    simp only [Option.map_some,List.size_toArray,hz]
    have hm:(i * kk.size+j) % kk.size=j:=by
      rw [Nat.mul_comm,Nat.mul_add_mod]
      exact Nat.mod_eq_of_lt hj
    rw [hm,getElem!_pos _ _ (by simp; omega)]
    simp [show j<(bK kk).length by omega]
  · rw [List.getElem?_eq_none (by rw [oC (m:=len) (by simp [uf]) hi]; omega),List.getElem?_eq_none (by omega)]
theorem Bz {L:K→List TypeId} (hT:dU P T) (H:Rel cx σ α F a w) (hd:o.dst=some d) (hdn:d<cx.nt) {t:TypeId} {len:Nat} {ps:Array (Nat×Operand)}
    (h:(match T.ty t with
      | some (.sl e kk)=>wI ps.toList fun l=>BF kk l ⟨[],[],[],[],false,[]⟩ fun b=>bif !(yF b.ws b.all && Nat.ble (len * kk.size) 16777216) then .fail else bif Nat.beq (fV b.xs) len && !au e b.bad then
          ig (aX d 0) (.ret (b.ws++[Wr.r (aX d 0) (some (aI (.sl e kk) b.xs (e :: bD (L kk) b.bad) b.tags .anon b.keep)),Wr.s d (.one (.ref (aX d 0) 0))]))
        else bif Nat.beq (fV b.xs) 0 then
          ig (aX d 0) (.ret [Wr.r (aX d 0) (some (aI (.sl e kk) (List.replicate len kk.zero) (e :: kk.tys) [] .anon)),Wr.s d (.one (.ref (aX d 0) 0))])
        else .fail
      | _=>(.fail:Prog (List Wr))).ends σ ws) (ho:o.op=.buildSlice t len ps):nJ P cx o a w (az ws σ):=by
  cases hty:T.ty t with
  | none=>rw [hty] at h; exact h.elim
  | some k0=>
    rw [hty] at h
    cases k0 with
    | sl e kk=>
      have ht:=hT.ty t _ hty
      obtain ⟨hu,he,hk,_⟩:=ht.sl
      simp only at h
      obtain ⟨vs,e1,h1,h2,h3⟩:=yZ H h
      obtain ⟨tks,b',l1,l2,Ky,zR,h4⟩:=Jm H h1 h2 h3
      have hlen:vs.length=tks.length:=l1.symm
      have Cc:(vs.map (·.1)).length=tks.length:=by rw [List.length_map]; exact hlen
      have Ch:((evs a ps.toList).map (·.2)).length=tks.length:=by rw [l2]; exact hlen
      generalize hns:vs.map (·.1)=ns at *
      generalize hvv:(evs a ps.toList).map (·.2)=vals at *
      obtain ⟨z1,z2,z3,z4⟩:=zA ns vals tks Cc Ch
      obtain ⟨f1,f2,f4,_,f6,_,f8,_,f9⟩:=Ag _ zR
      simp only [List.nil_append] at f1
      have f9':b'.xs.length=tks.length:=by rw [f9]; simp; omega
      have X6:∀h ok own,Ow h own ok kk kk.zero (bK kk) []:=fun h ok own=>tZ he.eF
      have hzl:(bK kk).length=kk.size:=cO (X6 (hp w) (fun _=>True) [])
      have hzs:(uf (bK kk).toArray (len * kk.size)).size=len * kk.size:=by simp [uf]
      have hparts:((ps.map fun (p:Nat×Operand)=>(p.1,a.eval p.2)).toList)=ns.zip vals:=by
        rw [Array.toList_map, ←hvv,e1]
        have:∀l:List (Nat×Operand),l.map (fun p=>(p.1,a.eval p.2))=(l.map (·.1)).zip ((evs a l).map (·.2)):=by
          intro l
          induction l with
          | nil=>rfl
          | cons p l ih=>simp [evs] at ih ⊢; exact ih
        exact this _
      have R5:∀{cells:Array Value},len * kk.size≤16777216→Instr.fill (fun i=>some (i * kk.size,kk.size)) (uf (bK kk).toArray (len * kk.size)) (ns.zip vals)=some cells→
          (execOp a.eval o).run P w=.ok (.value (.slice (some ⟨w.heap.size,0,none⟩) len len)) (w.alloc (.cells cells e)):=by
        intro cells hb hf
        have:=run_buildSlice (w:=w) ht (parts:=ps.map fun (p:Nat×Operand)=>(p.1,a.eval p.2)) hb (by rw [hparts]; exact hf)
        simp only [execOp,ho,agf,this,af8,agl]
      rcases ay h4 with ⟨_,h5⟩ | ⟨hws,h5⟩
      · exact h5.elim
      · have wW:(yF b'.ws b'.all && Nat.ble (len * kk.size) 16777216)=true:=by simpa using hws
        rw [afW] at wW
        have Xn:len * kk.size≤16777216:=Nat.le_of_ble_eq_true wW.2
        have Mo:=wW.1
        unfold yF at Mo
        simp only [afW] at Mo
        have hw1:=q8.1 Mo.1
        have hw2:=uy.1 Mo.2
        rw [f1, ←z4] at hw1 hw2
        rcases ay h5 with ⟨hc,h6⟩ | ⟨_,h6⟩
        · rw [afW] at hc
          have hxl:b'.xs.length=len:=by rw [←mh]; exact afU hc.1
          have hbad:e∉b'.bad:=by have:=hc.2; simp only [Bool.not_eq_true',aS] at this; exact this
          obtain ⟨g1,g2⟩:=fF h6
          rw [aA g2]
          obtain ⟨α',F',hs,H',hA,hnd,hnF,hFF,hS,_⟩:=takes (vals.zip tks) H Ky hw1 (fun tg p9=>hw2 tg (by
            obtain ⟨it,hit,h6⟩:=agt.1 p9
            have:it∈(ns.zip (vals.zip tks)).map (·.2):=by rw [z1]; exact hit
            obtain ⟨q,hq,rfl⟩:=ags.1 this
            exact f2 (q.1,q.2.2) (by rw [←z2]; exact ags.2 ⟨q,hq,rfl⟩) tg h6))
          have RZ:=hA
          rw [←z1] at hA
          have ho2:∀t,au t (e :: bD (L kk) b'.bad)=true→t∉b'.bad:=fun t ht=>by
            rcases af2.1 (aJ.1 ht) with h | h
            · rw [h]; exact hbad
            · exact (dn.1 (aJ.2 h)).2
          obtain ⟨uJ,vC,p1,p2⟩:=sV (own':=e :: bD (L kk) b'.bad) (T:=b'.tags) (ns.zip (vals.zip tks)) hA
            (fun it hit tg p9=>by
              cases hm:au tg (e :: bD (L kk) b'.bad) with
              | false=>rfl
              | true=>exact absurd (f4 (it.1,it.2.2) (by rw [←z2]; exact ags.2 ⟨it,hit,rfl⟩) tg p9) (ho2 tg hm))
            (fun it hit tg p9=>f6 (it.1,it.2.2) (by rw [←z2]; exact ags.2 ⟨it,hit,rfl⟩) tg p9)
          rw [z2,z3,z1] at p2
          have hzn:(ns.zip tks).map (·.1)=ns:=by rw [List.map_fst_zip (by omega)]
          obtain ⟨cells',c1,c2,c3,c4⟩:=Jl (N:=len) (ns.zip tks) (b:=⟨[],[],[],[],false,[]⟩) (cells:=uf (bK kk).toArray (len * kk.size)) (bz:=[]) (by simp; omega) hzs rfl (fun i hi=>by simp at hi) p2 zR
          rw [hzn] at c1
          simp only [List.nil_append] at c3 c4
          have hrun:=R5 Xn c1
          have nK:=p1.nodup hnd
          have n2:=afX.1 nK
          have hin:∀b∈hs.flatMap (·.2),b∈F':=su RZ
          have hwt:eG (az (qh (vals.zip tks)) σ) b'.tags:=by
            intro tg p9
            rcases f8 tg p9 with h | ⟨q,hq,hq2⟩
            · simp at h
            · rw [←z2] at hq
              obtain ⟨it,hit,rfl⟩:=ags.1 hq
              have hit2:it.2∈vals.zip tks:=by rw [←z1]; exact ags.2 ⟨it,hit,rfl⟩
              exact wC (uK RZ it.2 hit2) tg hq2
          have hnr:=xz g1 Ky
          have hn1:(az (qh (vals.zip tks)) σ).roots (aX d 0)=none:=by rw [(hS _ hnr).root]; exact g1
          have Mq:b'.ws=qh (vals.zip tks):=by rw [f1,z4]
          obtain ⟨xE,F2,k1,k2⟩:=K5 (r:=aX d 0) (e:=e) (k:=kk) (xs:=b'.xs) (own:=e :: bD (L kk) b'.bad) (tags:=b'.tags) (arr:=cells') (lo:=0) (hi:=0) (n:=len) (c:=len) (bz:=uJ) (F1:=F'.filter fun b=>!au b (uJ.flatten++vC)) H' hn1 (eO d 0)
            hwt (aJ.2 (by simp)) yI.zero hxl.symm (af6 _) (by rw [c2]; exact af6 _) c3 (fun b hb=>hin b (p1.mem_iff.2 (by simp [hb]))) n2.1
            (fun b hb=>by
              rw [af7] at hb
              have:=hb.2
              simp only [Bool.not_eq_true',aS,afZ,not_or] at this
              exact ⟨hb.1,this.1⟩) (H'.uU.filter _)
            (fun i hi=>by
              have hsl:(kL cells'.toList kk.size i).length=kk.size:=oC (m:=len) (by rw [Array.length_toList,c2]) (by omega)
              refine ⟨_,hsl,fun j hj=>?_,bq (fun _ _=>rfl) (fun b hb=>?_) (fun _ _=>rfl) (c4 i hi)⟩
              · rw [hsl] at hj
                rw [jU hj,Array.getElem?_toList]
              · rcases hb with hb | hb
                · exact .inl hb
                · refine .inr ⟨hin b (p1.mem_iff.2 (by simp [hb])),fun h=>?_,fun h=>n2.2.2 b h b hb rfl⟩
                  rw [af7] at h
                  have:=h.2
                  simp only [Bool.not_eq_true',aS,afZ,not_or] at this
                  exact this.2 hb) b'.keep w.drawn
          rw [Mq,bQ]
          exact gT (x:=.one (.ref (aX d 0) 0)) k1 hd hdn hrun k2 ⟨_,aH .., .inr (agq _)⟩
        · rcases ay h6 with ⟨hc,h7⟩ | ⟨_,h7⟩
          · obtain ⟨g1,g2⟩:=fF h7
            rw [aA g2]
            have hxl:b'.xs.length=0:=by rw [←mh]; exact afU hc
            have ht0:tks=[]:=List.eq_nil_of_length_eq_zero (by omega)
            have hv0:vals=[]:=List.eq_nil_of_length_eq_zero (by rw [ht0] at Ch; simpa using Ch)
            have hrun:=R5 (cells:=uf (bK kk).toArray (len * kk.size)) Xn (by rw [hv0]; simp [Instr.fill])
            obtain ⟨xE,F2,k1,k2⟩:=FE (r:=aX d 0) (e:=e) (k:=kk) (xs:=List.replicate len kk.zero) (own:=e :: kk.tys) (arr:=uf (bK kk).toArray (len * kk.size)) (lo:=0) (hi:=0) (n:=len) (c:=len) H g1 (eO d 0)
              (aJ.2 (by simp)) yI.zero (by simp) (af6 _) (by rw [hzs]; exact af6 _)
              (fun i hi=>by
                have hi':i<len:=by simpa using hi
                refine ⟨bK kk,hzl,fun j hj=>?_,fun h ok=>?_⟩
                · have hs:=congrArg (fun l=>l[j]?) (Iu hk hzl hi')
                  rw [jU (by omega),Array.getElem?_toList] at hs
                  exact hs
                · have:(List.replicate len kk.zero)[i]'hi=kk.zero:=by simp
                  rw [this]
                  exact X6 h ok _) false w.drawn
            exact gT (x:=.one (.ref (aX d 0) 0)) k1 hd hdn hrun k2 ⟨_,aH .., .inr (agq _)⟩
          · exact h7.elim
    | _=>exact h.elim
end
section
variable {P:Program} {T:iD} {cx:Cx} {σ:St} {α:dI} {F:List Nat} {a:Act} {w:World} {o:Oper} {d:Nat} {ws:List Wr} {r:Nat} {R:Root}
abbrev iR (R:Root) (e:TypeId) (kk:K) (ys:List (El kk)):Root:={ R with k:=.sl e kk,x:=ys,w:=e :: R.w }
theorem FH (H:Rel cx σ α F a w) (hr:aN σ r R) (hv:bn σ R) (hk:R.kind=.anon) {e:TypeId} {kk:K} {xs ys:List (El kk)} (hq:(⟨R.k,R.x⟩:Dat)=⟨.sl e kk,xs⟩) (hf:kk.flat=true) (hl:ys.length=xs.length) {w':World}
    (hos:w'.os=w.os∧w'.tape=w.tape∧w'.output=w.output) (hsize:w.heap.size≤w'.heap.size) (Iw:∀b,hp w' b≠hp w b→b∈α.fo r∧ni (hp w) b=some e) (how:∀ok,Ow (hp w') R.own ok (.sl e kk) ys (α.hdr r) (α.fo r)) :
    Rel cx (aj σ r (iR R e kk ys)) (aG α r (α.loc r) (α.hdr r) (α.fo r)) [] a w'∧
      ∀g v,g≤R.g→bH cx σ α F w (.ref r g) v→bH cx (aj σ r (iR R e kk ys)) (aG α r (α.loc r) (α.hdr r) (α.fo r)) [] w' (.ref r g) v:=by
  have hblk:blk α R r=α.fo r:=by simp [blk,dQ,hk]
  have hk':(iR R e kk ys).kind=.anon:=hk
  have hRk:R.k=.sl e kk:=congrArg (fun q:Dat=>q.1) hq
  have hd':(iR R e kk ys).aZ=false:=by simp [Root.aZ,hk]
  have K0:=H.roots r R hr
  have hnt:=H.dh r R hr.1
  have wE:∀g v,g≤R.g→bH cx σ α F w (.ref r g) v→bH cx (aj σ r (iR R e kk ys)) (aG α r (α.loc r) (α.hdr r) (α.fo r)) [] w' (.ref r g) v:=by
    intro g v _ hold Q hQ hg
    obtain ⟨rfl,_⟩:=eD hQ
    obtain ⟨h1,h2⟩:=hold R hr hg
    refine ⟨h1, ?_⟩
    simp only [aG,upd_same]
    rw [hRk] at h2
    exact h2
  have T1:vg cx σ α F w r R (iR R e kk ys) (α.fo r) [] w' [e] []:=by
    refine ⟨.inr ⟨rfl,rfl,af6 _,rfl,fun h=>by rw [hk] at h; simp at h, .inl (by simp)⟩,⟨fun t ht=>hnt.1 t ht,fun n hn=>hnt.2.2 n hn⟩,hos,hsize,fun b hb hne=>?_,fun _ b hb=>?_,fun b hb=>by simp at hb,List.nodup_nil,fun _ b _ h=>by simp at h,fun j pi b o n hj hb Vg hne=>?_,fun _=>⟨rfl,rfl⟩⟩
    · obtain ⟨h1,h2⟩:=Iw b hne
      exact .inr ⟨by rw [hblk]; exact h1, .inr (.inl ⟨e,by simp,h2⟩)⟩
    · rw [gF hk'] at hb
      rw [hblk]
      exact .inl hb
    · obtain ⟨Q,hQ,hkq,_,_⟩:=H.jT j pi b o n hj hb
      have hQR:Q=R:=by have:=hQ.1; rw [←Vg,hr.1] at this; simpa using this.symm
      rw [hQR,hk] at hkq
      simp at hkq
  refine ⟨T1.rel H hr (fun _=>⟨fun _=>how _,by rw [K0.len,hRk],fun b o hb=>by rw [tY hk'] at hb; simp at hb,by rw [gF hk', ←hblk]; exact K0.nd⟩) ?_ (fun _=>wE),wE⟩
  intro _ p n v hn hold
  refine ⟨hold.1,fun Q hQ Rl hcl hty hs=>?_⟩
  rw [aH] at hQ
  simp only [afQ] at hQ
  subst hQ
  cases p with
  | nil=>
    obtain ⟨_,cs,b,o,h1,_⟩:=hold.2 R hr.1 hv (by simp [clean,dS,au]) (fun t ht=>by simp [aa] at ht) rfl
    simp only [bE,afQ,af1] at h1
    have:dQ α R r=none:=by simp [dQ,hk]
    rw [this] at h1
    simp at h1
  | cons s q=>
    have hcl':clean R.h n (dS (s :: q) R.k)=true:=by rw [hRk]; exact hcl
    obtain ⟨g1,cs,b,o,g2,g3⟩:=hold.2 R hr.1 hv hcl' (fun t ht=>hty t (by rw [hRk] at ht; exact ht)) (by
      have h9:(aO (s :: q) (.sl e kk) ys).isSome=true:=hs
      rw [nD (s :: q) (y:=xs)] at h9
      have:=congrArg (fun d:Dat=>(aO (s :: q) d.1 d.2).isSome) hq
      exact this.trans h9)
    have g1:=cast (congrArg (fun d:Dat=>kH (s :: q) d.1 d.2) hq) g1
    simp only at g1
    cases s with
    | fD m=>exact g1.elim
    | idx i=>
      obtain ⟨p1,p2,p3⟩:=g1
      rw [hRk] at g2
      have hwn:dQ α R r=none:=by simp [dQ,hk]
      have acU:dQ (aG α r (α.loc r) (α.hdr r) (α.fo r)) (iR R e kk ys) r=none:=by
        have hkk:(iR R e kk ys).kind=R.kind:=rfl
        unfold dQ
        rw [hkk,hk]
      have hd2:(aG α r (α.loc r) (α.hdr r) (α.fo r)).hdr r=α.hdr r:=by simp [aG,upd_same]
      rw [acU,hd2]
      simp only [bE] at g2
      split at g2
      · rename_i ad m c hh
        obtain ⟨k1,c1,k2⟩:=qL (h':=hp w') (own:=[]) q (y:=(show List (El kk) from ys).getD i.toNat kk.zero) (cs':=mP (hp w') ad.block (ad.off+i.toNat * kk.size) kk.size) p3 (fun t ht=>by
          have:=lM q t ht
          rw [tO hf] at this
          simp at this) g2
        refine ⟨⟨p1, ?_,k1⟩,c1,b,o, ?_,g3⟩
        · show i<((ys.length:Nat):Int)
          have:i<((xs.length:Nat):Int):=p2
          omega
        · show bE (hp w') (.idx i :: q) (.sl e kk) (α.hdr r) none=_
          rw [hh]
          simp only [bE]
          exact k2
      · simp at g2
theorem TL {own:List TypeId} {ok:Nat→Prop} {e:TypeId} {kk:K} {xs zs:List (El kk)} {b q n c s:Nat} {fo:List Nat} {news:List Value} (hf:kk.flat=true) (he:au e own=true) (hs:s+zs.length≤xs.length) (hz:0<zs.length) (hkk:0<kk.size)
    (H:Ow (hp w) own ok (.sl e kk) xs [.slice (some ⟨b,q,none⟩) n c] fo) (hnl:news.length=zs.length * kk.size) (hel:∀i (hi:i<zs.length),Vw (hp w) (fun _=>True) kk zs[i] (kL news kk.size i)) (h1:∀v∈news,v.oneCell'=true) :
    (storeCells ⟨b,q+s * kk.size,none⟩ news).run P w=.ok () (w.setCells b (q+s * kk.size) news)∧b∈fo∧ni (hp w) b=some e∧(∀b',b'≠b→hp (w.setCells b (q+s * kk.size) news) b'=hp w b')∧(w.setCells b (q+s * kk.size) news).heap.size=w.heap.size∧
      ∀ok',Ow (hp (w.setCells b (q+s * kk.size) news)) own ok' (.sl e kk) (xs.take s++zs++xs.drop (s+zs.length)) [.slice (some ⟨b,q,none⟩) n c] fo:=by
  unfold Ow at H
  rw [if_pos he] at H
  obtain ⟨a0,n',c',e1,e2,e3,H⟩:=H
  simp only [List.cons.injEq,Value.slice.injEq,and_true] at e1
  obtain ⟨rfl,rfl,rfl⟩:=e1
  have e2:n=xs.length:=e2
  rcases H with ⟨hc,_⟩ | ⟨bb,q',arr,lo,hi,ea,hb,hfr,hsz,bz,hl,hp0,H⟩
  · omega
  · simp only [afQ,Addr.mk.injEq,and_true] at ea
    obtain ⟨rfl,rfl⟩:=ea
    have hm:(s+zs.length) * kk.size≤c * kk.size:=agm _ (by omega)
    rw [Nat.add_mul] at hm
    have hle:q+s * kk.size+news.length≤arr.size:=by rw [hnl]; omega
    have hst:=kC (P:=P) (o:=q+s * kk.size) news hb hfr hle h1
    obtain ⟨s1,s2,jG,s3,s4,s5,s6⟩:=qd b news w arr e (lo,hi) (q+s * kk.size) hb hle
    have h0:∀l∈bz,l=[]:=by
      intro l hl'
      obtain ⟨i,hi',rfl⟩:=List.mem_iff_getElem.1 hl'
      have hl:bz.length=xs.length:=hl
      obtain ⟨ds,_,h2⟩:=H i (by show i<xs.length; omega)
      have:=AU hf h2
      rw [←this]; simp [af3,hi']
    have hg0:∀i,bz.getD i []=[]:=fun i=>by
      by_cases hi:i<bz.length
      · have:=h0 (bz[i]) (agj hi)
        simp [af3,hi,this]
      · simp [af3,hi]
    refine ⟨hst,hp0.mem_iff.2 (by simp),by unfold ni; rw [hb],s1,s2,fun ok'=>?_⟩
    unfold Ow
    rw [if_pos he]
    have hlen:(xs.take s++zs++xs.drop (s+zs.length)).length=xs.length:=by simp; omega
    refine ⟨_,_,_,rfl,by show n=(xs.take s++zs++xs.drop (s+zs.length)).length; omega,e3, .inr ⟨b,q,jG,lo,hi,rfl,s3,by rw [s4]; exact hfr,by rw [s4]; exact hsz,bz,by show bz.length=(xs.take s++zs++xs.drop (s+zs.length)).length; rw [hlen]; exact hl,hp0,fun i hi=>?_⟩⟩
    rw [hg0]
    have hi':i<xs.length:=by have:i<(xs.take s++zs++xs.drop (s+zs.length)).length:=hi; omega
    have hcell:∀t,cellAt (hp (w.setCells b (q+s * kk.size) news)) b t=jG[t]?:=fun t=>by unfold cellAt; rw [s3]
    have hcell0:∀t,cellAt (hp w) b t=arr[t]?:=fun t=>by unfold cellAt; rw [hb]
    by_cases hin:s≤i∧i<s+zs.length
    · have hx:(show List (El kk) from xs.take s++zs++xs.drop (s+zs.length))[i]'hi=zs[i - s]'(by omega):=by
        show (xs.take s++zs++xs.drop (s+zs.length))[i]'hi=_
        rw [List.getElem_append_left (by simp; omega),List.getElem_append_right (by simp; omega)]
        congr 1
        simp
        omega
      rw [hx]
      have hlt:i - s<zs.length:=by omega
      have hv:=hel (i - s) hlt
      refine ⟨kL news kk.size (i - s),fun j hj=>?_,mZ (fun t ht=>?_) (iF hf hv)⟩
      · rw [oC hnl hlt] at hj
        rw [hcell,jU hj]
        have hb2:(i - s+1) * kk.size≤zs.length * kk.size:=agm _ (by omega)
        rw [Nat.add_mul,Nat.one_mul] at hb2
        have hi2:i * kk.size=s * kk.size+(i - s) * kk.size:=by rw [←Nat.add_mul]; congr 1; omega
        rw [show q+i * kk.size+j=q+s * kk.size+((i - s) * kk.size+j) by omega]
        exact s5 _ (by rw [hnl]; omega)
      · rw [tO hf] at ht; simp at ht
    · have hx:(show List (El kk) from xs.take s++zs++xs.drop (s+zs.length))[i]'hi=xs[i]'hi':=by
        show (xs.take s++zs++xs.drop (s+zs.length))[i]'hi=_
        by_cases hlt:i<s
        · rw [List.getElem_append_left (by simp; omega),List.getElem_append_left (by simp; omega)]
          simp
        · rw [List.getElem_append_right (by simp; omega)]
          simp only [List.getElem_drop]
          congr 1
          simp
          omega
      rw [hx]
      obtain ⟨ds,g1,g2⟩:=H i hi'
      have hg:=hg0 i
      rw [hg] at g2
      refine ⟨ds,fun j hj=>?_,mZ (fun t ht=>by rw [tO hf] at ht; simp at ht) (iF hf (jJ (fun _=>True) (fun _ _=>trivial) (fun _ _=>trivial) g2))⟩
      rw [hcell]
      have hj':=g1 j hj
      rw [hcell0] at hj'
      rw [←hj']
      have hds:=cO g2
      refine s6 _ fun hc=>hin ?_
      rw [hnl] at hc
      constructor
      · refine agc fun h=>?_
        have:(i+1) * kk.size≤s * kk.size:=agm _ (by omega)
        rw [Nat.add_mul,Nat.one_mul] at this
        omega
      · refine agc fun h=>?_
        have:(s+zs.length) * kk.size≤i * kk.size:=agm _ (by omega)
        rw [Nat.add_mul] at this
        omega
end
section
variable {P:Program} {T:iD} {cx:Cx} {σ:St} {α:dI} {F:List Nat} {a:Act} {w:World} {o:Oper} {d:Nat} {ws:List Wr} {r:Nat} {R:Root}
theorem JV (H:Rel cx σ α F a w) (hr:aN σ r R) (hv:bn σ R) (hk:R.kind=.anon) {e:TypeId} {kk:K} {xs zs:List (El kk)} {s:Nat} (hq:(⟨R.k,R.x⟩:Dat)=⟨.sl e kk,xs⟩) (hf:kk.flat=true) (he:au e R.own=true) (hkk:0<kk.size) (hs:s+zs.length≤xs.length)
    {b:Option Addr} {n c:Nat} (hh:α.hdr r=[.slice b n c]) {bb:Option Addr} (hbb:0<zs.length→bb=b.map (·.add (s * kk.size)))
    {news:List Value} (hnl:news.length=zs.length * kk.size) (hel:∀i (hi:i<zs.length),Vw (hp w) (fun _=>True) kk zs[i] (kL news kk.size i)) (h1:∀v∈news,v.oneCell'=true) :
    ∃w',(∀ad,bb=some ad→(storeCells ad news).run P w=.ok () w')∧(zs.length=0→w'=w)∧(0<zs.length→∃ad,bb=some ad)∧
      Rel cx (aj σ r (iR R e kk (xs.take s++zs++xs.drop (s+zs.length)))) (aG α r (α.loc r) (α.hdr r) (α.fo r)) [] a w'∧
      ∀g v,g≤R.g→bH cx σ α F w (.ref r g) v→bH cx (aj σ r (iR R e kk (xs.take s++zs++xs.drop (s+zs.length)))) (aG α r (α.loc r) (α.hdr r) (α.fo r)) [] w' (.ref r g) v:=by
  have hRk:R.k=.sl e kk:=congrArg (fun q:Dat=>q.1) hq
  have hO:Ow (hp w) R.own (gV cx σ α F w R.tags) (.sl e kk) xs [.slice b n c] (α.fo r):=by
    have:=cast (congrArg (fun q:Dat=>Ow (hp w) R.own (gV cx σ α F w R.tags) q.1 q.2 (α.hdr r) (α.fo r)) hq) ((H.roots r R hr).ow hv)
    simp only at this
    rw [hh] at this
    exact this
  by_cases hz:0<zs.length
  · have hb0:∃bk q,b=some ⟨bk,q,none⟩:=by
      have BS:=hO
      unfold Ow at BS
      rw [if_pos he] at BS
      obtain ⟨a0,n',c',e1,e2,e3,H'⟩:=BS
      simp only [List.cons.injEq,Value.slice.injEq,and_true] at e1
      obtain ⟨rfl,rfl,rfl⟩:=e1
      have e2:n=xs.length:=e2
      rcases H' with ⟨hc,_⟩ | ⟨bk,q,arr,lo,hi,ea,_⟩
      · omega
      · exact ⟨bk,q,ea⟩
    obtain ⟨bk,q,rfl⟩:=hb0
    obtain ⟨g1,g2,g3,g4,g5,g6⟩:=TL (P:=P) (w:=w) hf he hs hz hkk hO hnl hel h1
    have hb1:bb=some ⟨bk,q+s * kk.size,none⟩:=by rw [hbb hz]; simp [addr_add]
    obtain ⟨r1,r2⟩:=FH (w':=w.setCells bk (q+s * kk.size) news) H hr hv hk (ys:=xs.take s++zs++xs.drop (s+zs.length)) hq hf (by simp; omega) (mQ _ _ _ _) (by omega)
      (fun b' hb'=>by
        by_cases e:b'=bk
        · subst e; exact ⟨g2,g3⟩
        · exact absurd (g4 b' e) hb') (fun ok=>by rw [hh]; exact g6 ok)
    exact ⟨_,fun ad ha=>by rw [hb1] at ha; simp only [afQ] at ha; subst ha; exact g1,fun h=>by omega,fun _=>⟨_,hb1⟩,r1,r2⟩
  · have hz0:zs=[]:=List.eq_nil_of_length_eq_zero (by omega)
    subst hz0
    have hn0:news=[]:=List.eq_nil_of_length_eq_zero (by simpa using hnl)
    subst hn0
    have hys:xs.take s++[]++xs.drop (s+([]:List (El kk)).length)=xs:=by simp
    obtain ⟨r1,r2⟩:=FH (w':=w) H hr hv hk (ys:=xs.take s++[]++xs.drop (s+([]:List (El kk)).length)) hq hf (by simp) ⟨rfl,rfl,rfl⟩ (af6 _) (fun b' hb'=>absurd rfl hb') (fun ok=>by
      rw [hys,hh]
      have hO2:=fP (ok':=ok) (dm (k:=.sl e kk) (own:=R.own) (fun t ht=>by simp only [K.tys,tO hf,af9] at ht; subst ht; exact he)) hO
      exact hO2)
    exact ⟨w,fun ad _=>by cases ad; rfl,fun _=>rfl,fun h=>by simp at h,r1,r2⟩
end
section
variable {P:Program} {T:iD} {cx:Cx} {σ:St} {α:dI} {F:List Nat} {a:Act} {w:World} {o:Oper} {d:Nat} {ws:List Wr} {r:Nat} {R:Root}
theorem o9 {A:Type} {z:A} {g:Nat} {k:Root→(e:TypeId)→(kk:K)→List (El kk)→Prog A} (h:(ownRow r g k).ends σ z) :
    ∃R e kk xs,aN σ r R∧bn σ R∧R.g=g∧(⟨R.k,R.x⟩:Dat)=⟨.sl e kk,xs⟩∧kk.flat=true∧au e R.own=true∧(k R e kk xs).ends σ z:=by
  unfold ownRow at h
  obtain ⟨R,hr,hv,h⟩:=cz h
  rcases ay h with ⟨hg,h⟩ | ⟨_,h⟩
  · have hK:∀q:Dat,(⟨R.k,R.x⟩:Dat)=q→(match q.1,q.2 with
        | .sl e kk,xs=>bif kk.flat && au e R.own then k R e kk (show List (El kk) from xs) else .fail
        | _,_=>Prog.fail).ends σ z→∃R e kk xs,aN σ r R∧bn σ R∧R.g=g∧(⟨R.k,R.x⟩:Dat)=⟨.sl e kk,xs⟩∧kk.flat=true∧au e R.own=true∧(k R e kk xs).ends σ z:=by
      intro q hq hh
      obtain ⟨qk,qx⟩:=q
      cases qk with
      | sl e kk=>
        simp only at hh
        rcases ay hh with ⟨hc,hh⟩ | ⟨_,hh⟩
        · simp only [afW] at hc
          exact ⟨R,e,kk,qx,hr,hv,afU hg,hq,hc.1,hc.2,hh⟩
        · exact hh.elim
      | _=>exact hh.elim
    exact hK _ rfl h
  · exact h.elim
theorem zi (H:Rel cx σ α F a w) (hr:aN σ r R) (hv:bn σ R) {e:TypeId} {kk:K} {xs:List (El kk)} (hq:(⟨R.k,R.x⟩:Dat)=⟨.sl e kk,xs⟩) (he:au e R.own=true) {v:Value} (h:VC R.k v (α.hdr r)) :
    ∃b n c,v=.slice b n c∧α.hdr r=[.slice b n c]∧n=xs.length∧n≤c:=by
  have hO:=cast (congrArg (fun q:Dat=>Ow (hp w) R.own (gV cx σ α F w R.tags) q.1 q.2 (α.hdr r) (α.fo r)) hq) ((H.roots r R hr).ow hv)
  have hV:VC (.sl e kk) v (α.hdr r):=cast (congrArg (fun q:Dat=>VC q.1 v (α.hdr r)) hq) h
  simp only at hO
  unfold Ow at hO
  rw [if_pos he] at hO
  obtain ⟨b,n,c,e1,e2,e3,_⟩:=hO
  rw [hV.1] at e1
  simp only [List.cons.injEq,and_true] at e1
  exact ⟨b,n,c,e1,by rw [hV.1,e1],e2,e3⟩
theorem Ig {len cap:Nat} {lo hi:Option Int} {l h:Option Value} (hl:lo=none→l=none) (hl':∀j,lo=some j→∃ik,l=some (.int ik j)) (hh:hi=none→h=none) (hh':∀j,hi=some j→∃ik,h=some (.int ik j))
    (h0:0≤lo.getD 0) (h1:lo.getD 0≤hi.getD (len:Int)) (h2:hi.getD (len:Int)≤(cap:Int)) :
    (Instr.sliceBounds true len cap l h none).run P w=.ok ((lo.getD 0).toNat,(hi.getD (len:Int)).toNat,cap) w:=by
  unfold Instr.sliceBounds
  cases hi with
  | none=>
    rw [hh rfl]
    simp only [Option.getD_none] at h1 h2
    cases lo with
    | none=>rw [hl rfl]; simp
    | some j=>
      obtain ⟨ik,e⟩:=hl' j rfl
      simp only [Option.getD_some] at h0 h1
      rw [e]
      simp [Instr.sliceBound,asIntOf,h0,h1]
  | some i=>
    obtain ⟨ik,e⟩:=hh' i rfl
    simp only [Option.getD_some] at h1 h2
    have f1:0≤i:=by omega
    rw [e]
    cases lo with
    | none=>rw [hl rfl]; simp [Instr.sliceBound,asIntOf,f1,h2]
    | some j=>
      obtain ⟨YT,e2⟩:=hl' j rfl
      simp only [Option.getD_some] at h0 h1
      have g3:j≤max i 0:=by omega
      rw [e2]
      simp [Instr.sliceBound,asIntOf,f1,h2,h0]
      omega
theorem CP {t e:TypeId} {k:K} (ht:fB P T t (.sl e k)) {b:Option Addr} {n c:Nat} {lo hi:Option Int} {l h:Option Value} (hl:lo=none→l=none) (hl':∀j,lo=some j→∃ik,l=some (.int ik j)) (hh:hi=none→h=none) (hh':∀j,hi=some j→∃ik,h=some (.int ik j))
    (h0:0≤lo.getD 0) (h1:lo.getD 0≤hi.getD (n:Int)) (h2:hi.getD (n:Int)≤(c:Int)) :
    (Instr.sliceAt t (.slice b n c) l h none).run P w=.ok (.slice (if c=(lo.getD 0).toNat then b else b.map (·.add ((lo.getD 0).toNat * k.size))) ((hi.getD (n:Int)).toNat - (lo.getD 0).toNat) (c - (lo.getD 0).toNat)) w:=by
  obtain ⟨hu,he,_,_⟩:=ht.sl
  unfold Instr.sliceAt Instr.slice
  simp only [agf,run_underlying hu,Result.andThen,Ig (w:=w) hl hl' hh hh' h0 h1 h2,he.info.sizeOf w,agl]
theorem add_add (b:Option Addr) (m n:Nat):(b.map (·.add m)).map (·.add n)=b.map (·.add (m+n)):=by
  cases b with
  | none=>rfl
  | some ad=>obtain ⟨x,y,z⟩:=ad; by_cases hm:m=0 <;> by_cases hn:n=0 <;> simp [Addr.add,hm,hn,Nat.add_assoc]
theorem add_zero (b:Option Addr):b.map (·.add 0)=b:=by
  cases b with
  | none=>rfl
  | some ad=>obtain ⟨x,y,z⟩:=ad; simp [Addr.add]
theorem Df (hT:dU P T) (H:Rel cx σ α F a w) (hd:o.dst=some d) (hdn:d<cx.nt) {t:TypeId} {x:Operand} {lo hi mx:Option Operand}
    (h:(match T.ty t with
      | some kk=>dJ x fun a=>Ak lo fun lo=>Ak hi fun hi=>Ak mx fun mx=>K4 kk a lo hi mx fun u=>.ret [Wr.s d (.one u)]
      | none=>(.fail:Prog (List Wr))).ends σ ws) (ho:o.op=.slice t x lo hi mx):nJ P cx o a w (az ws σ):=by
  cases hty:T.ty t with
  | none=>rw [hty] at h; exact h.elim
  | some k0=>
    rw [hty] at h
    have ht:=hT.ty t k0 hty
    obtain ⟨u,h1,h2,h⟩:=bP H h
    obtain ⟨lo',h,l1,l2⟩:=vN H h
    obtain ⟨hi',h,g1,g2⟩:=vN H h
    obtain ⟨mx',h,m1,m2⟩:=vN H h
    have hl:lo'=none→lo.map a.eval=none:=fun e=>by rw [l1.1 e]; rfl
    have hh:hi'=none→hi.map a.eval=none:=fun e=>by rw [g1.1 e]; rfl
    cases u with
    | ref r g=>
      simp only [K4] at h
      obtain ⟨R,e,kk,xs,hr,hv,hg,hq,hf,he,h⟩:=o9 h
      rcases ay h with ⟨hk0,h5⟩ | ⟨_,h5⟩
      · clear h
        have ek:=K.eq_of_beq hk0
        subst ek
        obtain ⟨hka,xY⟩:=h1 R hr hg
        obtain ⟨b,n,c,ev,eh,en,hnc⟩:=zi H hr hv hq he xY
        cases mx' with
        | none=>
          have hmx:mx.map a.eval=none:=by rw [m1.1 rfl]; rfl
          obtain ⟨⟨c1,c2,c3⟩,h6⟩:=h5
          rw [aA h6]
          have hrun:=CP (P:=P) (w:=w) (b:=b) (n:=n) (c:=c) ht hl l2 hh g2 c1 (by rw [en]; exact c2) (by rw [en]; omega)
          refine bI (x:=.one (.part r g (lo'.getD 0).toNat (hi'.getD (xs.length:Int)).toNat kk.size)) H hd hdn (v:=.slice (if c=(lo'.getD 0).toNat then b else b.map (·.add ((lo'.getD 0).toNat * kk.size))) ((hi'.getD (n:Int)).toNat - (lo'.getD 0).toNat) (c - (lo'.getD 0).toNat)) ?_ ?_ ⟨R,hr.1, .inr (by omega)⟩
          · simp only [execOp,ho,ev,hmx,agf,hrun,af8,agl]
          · refine ⟨_,b,n,c,by rw [en], ?_,by omega,by rw [en]; omega,hnc, ?_⟩
            · rintro (h0 | h0)
              · rw [h0]; simp [add_zero]
              · rw [if_neg h0]
            · rw [←ev]; exact h1
        | some m=>
          obtain ⟨jk,hmx⟩:=m2 m rfl
          simp only at h5
          rcases ay h5 with ⟨hs,h6⟩ | ⟨_,h6⟩
          · obtain ⟨⟨c1,c2,c3,c4⟩,h7⟩:=h6
            rw [aA h7]
            cases hi' with
            | none=>simp at hs
            | some i=>
              obtain ⟨ik,ehi⟩:=g2 i rfl
              simp only [Option.getD_some] at c2 c3
              obtain ⟨hu,he',_,_⟩:=ht.sl
              have c5:m≤(c:Int):=by omega
              have hrun:∃v,(Instr.sliceAt t (.slice b n c) (lo.map a.eval) (hi.map a.eval) (mx.map a.eval)).run P w=.ok v w:=by
                unfold Instr.sliceAt Instr.slice Instr.sliceBounds
                rw [hmx,ehi]
                cases lo' with
                | none=>
                  rw [hl rfl]
                  simp only [Option.getD_none] at c1 c2
                  refine ⟨.slice (if m.toNat=0 then b else b.map (·.add (0 * kk.size))) (i.toNat - 0) (m.toNat - 0), ?_⟩
                  simp [run_underlying hu,Instr.sliceBound,asIntOf,c5,c3,he'.info.sizeOf w,show 0≤m by omega,show 0≤i by omega,show (i≤max m 0) by omega,Result.andThen]
                | some j=>
                  obtain ⟨lk,elo⟩:=l2 j rfl
                  rw [elo]
                  simp only [Option.getD_some] at c1 c2
                  refine ⟨.slice (if m.toNat=j.toNat then b else b.map (·.add (j.toNat * kk.size))) (i.toNat - j.toNat) (m.toNat - j.toNat), ?_⟩
                  simp [run_underlying hu,Instr.sliceBound,asIntOf,c5,c3,c1,he'.info.sizeOf w,show 0≤m by omega,show 0≤i by omega,show (i≤max m 0) by omega,show (j≤max i 0) by omega,Result.andThen]
              obtain ⟨v,hrun⟩:=hrun
              exact bI (x:=.one .undef) H hd hdn (v:=v) (by simp only [execOp,ho,ev,agf,hrun,af8,agl]) trivial trivial
          · exact h6.elim
      · exact h5.elim
    | part r g l0 h0 sz=>
      simp only [K4] at h
      obtain ⟨R,e,kk,xs,hr,hv,hg,hq,hf,he,h⟩:=o9 h
      rcases ay h with ⟨hk0,h5⟩ | ⟨_,h5⟩
      · clear h
        simp only [afW] at hk0
        have ek:=K.eq_of_beq hk0.1.1
        subst ek
        have hsz:kk.size=sz:=afU hk0.1.2
        subst hsz
        cases mx' with
        | some m=>simp at hk0
        | none=>
          have hmx:mx.map a.eval=none:=by rw [m1.1 rfl]; rfl
          obtain ⟨⟨c1,c2,c3⟩,h6⟩:=h5
          rw [aA h6]
          obtain ⟨b',b,n,c,ev,eb,e2,e3,e4,hrf⟩:=h1
          obtain ⟨hka,xY⟩:=hrf R hr hg
          obtain ⟨b2,n2,c2',RX,eh,en,hnc⟩:=zi H hr hv hq he xY
          simp only [Value.slice.injEq] at RX
          obtain ⟨rfl,rfl,rfl⟩:=RX
          have hrun:=CP (P:=P) (w:=w) (b:=b') (n:=h0 - l0) (c:=c - l0) ht hl l2 hh g2 c1 c2 (by omega)
          refine bI (x:=.one (.part r g (l0+(lo'.getD 0).toNat) (l0+(hi'.getD ((h0 - l0:Nat):Int)).toNat) kk.size)) H hd hdn
            (v:=.slice (if c - l0=(lo'.getD 0).toNat then b' else b'.map (·.add ((lo'.getD 0).toNat * kk.size))) ((hi'.getD ((h0 - l0:Nat):Int)).toNat - (lo'.getD 0).toNat) (c - l0 - (lo'.getD 0).toNat)) ?_ ?_ ⟨R,hr.1, .inr (by omega)⟩
          · simp only [execOp,ho,ev,hmx,agf,hrun,af8,agl]
          · refine ⟨if c - l0=(lo'.getD 0).toNat then b' else b'.map (·.add ((lo'.getD 0).toNat * kk.size)),b,n,c, ?_, ?_,by omega,by rw [en]; omega,e4,hrf⟩
            · rw [show l0+(hi'.getD ((h0 - l0:Nat):Int)).toNat - (l0+(lo'.getD 0).toNat)=(hi'.getD ((h0 - l0:Nat):Int)).toNat - (lo'.getD 0).toNat by omega,show c - (l0+(lo'.getD 0).toNat)=c - l0 - (lo'.getD 0).toNat by omega]
            · rintro (h0' | h0')
              · have z1:l0=0:=by omega
                have z2:(lo'.getD 0).toNat=0:=by omega
                rw [eb (.inl z1),z1,z2]
                simp [add_zero]
              · rw [if_neg (by omega)]
                rw [eb (by omega),add_add,Nat.add_mul]
      · exact h5.elim
    | _=>exact h.elim
end
section
variable {P:Program} {T:iD} {cx:Cx} {σ:St} {α:dI} {F:List Nat} {a:Act} {w:World} {o:Oper} {d:Nat} {ws:List Wr} {r:Nat} {R:Root}
theorem KZ {c:Call} {u:AV} (h:dO cx σ α F w [u] (c.args.toList.map a.eval)):∃x,c.args.toList=[x]∧bH cx σ α F w u (a.eval x):=by
  revert h
  generalize c.args.toList=l
  intro h
  cases l with
  | nil=>exact h.elim
  | cons x l=>cases l with
    | nil=>exact ⟨x,rfl,h.1⟩
    | cons _ _=>exact h.2.elim
theorem CW {c:Call} {u v:AV} (h:dO cx σ α F w [u,v] (c.args.toList.map a.eval)):∃x y,c.args.toList=[x,y]∧bH cx σ α F w u (a.eval x)∧bH cx σ α F w v (a.eval y):=by
  revert h
  generalize c.args.toList=l
  intro h
  cases l with
  | nil=>exact h.elim
  | cons x l=>cases l with
    | nil=>exact h.2.elim
    | cons y l=>cases l with
      | nil=>exact ⟨x,y,rfl,h.1,h.2.1⟩
      | cons _ _=>exact h.2.2.elim
theorem Ka {kk:K} {m:Nat} (hk:0<kk.size) (hz:(bK kk).length=kk.size) (hg:eF kk=true):(uf (bK kk).toArray (m * kk.size)).toList.length=m * kk.size∧(∀i,i<m→kL (uf (bK kk).toArray (m * kk.size)).toList kk.size i=bK kk)∧
    ∀v∈(uf (bK kk).toArray (m * kk.size)).toList,v.oneCell'=true:=by
  refine ⟨by simp [uf],fun i hi=>Iu hk hz hi,fun v hv=>?_⟩
  simp only [uf,Array.toList_map,ags] at hv
  obtain ⟨i,_,rfl⟩:=hv
  have hlt:i % (bK kk).toArray.size<(bK kk).toArray.size:=Nat.mod_lt _ (by simp [hz,hk])
  have h1:=EE hg (jJ (h:=hp (default:World)) (own:=kk.tys) (ok:=fun _=>False) (fun _=>True) (fun _ _=>trivial) (fun _ _=>trivial) (yG hg (fun t ht=>aJ.2 ht)))
  rw [getElem!_pos (bK kk).toArray _ hlt]
  exact h1 _ (by simp)
theorem LP (hT:dU P T) (H:Rel cx σ α F a w) {c:Call} (ho:o.op=.call c) (hcb:c.callee=.builtin .clear) {u:AV} {e0:TypeId} {k0:K} (hl:dO cx σ α F w [u] (c.args.toList.map a.eval)) (ht0:(c.argTypes[0]?).bind T.ty=some (.sl e0 k0))
    (h:(Ja (.sl e0 k0) u fun ws=>(.ret ws:Prog (List Wr))).ends σ ws):∃v w' α',(execOp a.eval o).run P w=.ok (.value v) w'∧Rel cx (az ws σ) α' [] a w':=by
  obtain ⟨x,hx,hu⟩:=KZ hl
  obtain ⟨t,hat,ht⟩:=qy hT ht0
  cases u with
  | part r g lo hi sz=>
    simp only [Ja] at h
    obtain ⟨R,e,kk,xs,hr,hv,hg,hq,hf,he,h⟩:=o9 h
    rcases ay h with ⟨hsz,h5⟩ | ⟨_,h5⟩
    · clear h
      simp only [afW] at hsz
      have ek:=K.eq_of_beq hsz.1
      have hsz:=afU hsz.2
      subst hsz
      obtain ⟨rfl,rfl⟩:e=e0∧kk=k0:=by simpa using ek
      rw [aA h5]
      obtain ⟨b',b,n,c',ev,eb,e2,e3,e4,hrf⟩:=hu
      obtain ⟨hka,xY⟩:=hrf R hr hg
      obtain ⟨b2,n2,c2',RX,eh,en,hnc⟩:=zi H hr hv hq he xY
      simp only [Value.slice.injEq] at RX
      obtain ⟨rfl,rfl,rfl⟩:=RX
      obtain ⟨hun,hel,hks,_⟩:=ht.sl
      have Uw:=hel.eF
      have hzl:(bK kk).length=kk.size:=by
        have:=yG (h:=hp w) (ok:=fun _=>False) (own:=kk.tys) Uw (fun t ht=>aJ.2 ht)
        exact cO this
      obtain ⟨z1,z2,z3⟩:=Ka (m:=hi - lo) hks hzl Uw
      obtain ⟨w',r1,r2,r3,r4,_⟩:=JV (P:=P) (zs:=List.replicate (hi - lo) kk.zero) (s:=lo) H hr hv hka hq hf he hks (by simp; omega) (b:=b) (n:=n) (c:=c') eh (bb:=b') (fun h0=>eb (by
          simp only [List.length_replicate] at h0
          omega)) (news:=(uf (bK kk).toArray ((hi - lo) * kk.size)).toList) (by rw [z1]; simp) (fun i hi'=>by
          have hi2:i<hi - lo:=by simpa using hi'
          rw [z2 i hi2]
          have:(List.replicate (hi - lo) kk.zero)[i]'hi'=kk.zero:=by simp
          rw [this]
          exact jJ (own:=kk.tys) (ok:=fun _=>False) _ (fun _ _=>trivial) (fun _ _=>trivial) (yG Uw (fun t ht=>aJ.2 ht))) z3
      have hdrop:lo+(List.replicate (hi - lo) kk.zero).length=hi:=by simp; omega
      rw [hdrop] at r4
      obtain ⟨cc,hcc⟩:=iT (P:=P) (a:=a) (w:=w) ho hcb
      have Ol:(c.args.map a.eval)[0]?=some (.slice b' (hi - lo) (c' - lo)):=by
        rw [←Array.getElem?_toList,Array.toList_map,hx]
        simp [ev]
      refine ⟨.tuple #[],w',_, ?_,r4⟩
      rw [hcc]
      have hrun:(Builtin.clear_ c.argTypes o.type (c.args.map a.eval)).run P w=.ok (.tuple #[]) w':=by
        unfold Builtin.clear_
        simp only [hat,Ol]
        by_cases h0:hi - lo=0
        · rw [h0]
          rw [r2 (by simp [h0])]
          cases b' <;> simp [run_underlying hun,Result.andThen]
        · obtain ⟨ad,had⟩:=r3 (by simp; omega)
          subst had
          have hst:=r1 ad rfl
          have hzc:(Builtin.zeroCells (oJ kk).cells (hi - lo)).toList=(uf (bK kk).toArray ((hi - lo) * kk.size)).toList:=by
            rw [rQ hel.shape]
            unfold Builtin.zeroCells uf
            simp [hzl]
          obtain ⟨m,hm⟩:∃m,hi - lo=m+1:=⟨hi - lo - 1,by omega⟩
          rw [hm] at hzc hst ⊢
          simp only [agf,run_underlying hun,af8,hel.info.zero w,hzc,hst,agl]
      simp only [builtin,agf,hrun,af8,agl]
    · exact h5.elim
  | _=>exact h.elim
end
section
variable {P:Program} {T:iD} {cx:Cx} {σ:St} {α:dI} {F:List Nat} {a:Act} {w:World} {o:Oper} {d:Nat} {ws:List Wr} {r:Nat} {R:Root}
theorem LQ (hT:dU P T) (H:Rel cx σ α F a w) (hd:o.dst=some d) (hdn:d<cx.nt) {c:Call} (ho:o.op=.call c) (hcb:c.callee=.builtin .append) {u v:AV} {e0 e1:TypeId} {k0 k1:K} (hl:dO cx σ α F w [u,v] (c.args.toList.map a.eval))
    (ht0:(c.argTypes[0]?).bind T.ty=some (.sl e0 k0)) (ht1:(c.argTypes[1]?).bind T.ty=some (.sl e1 k1)) (h:(Jb (.sl e0 k0) d u v fun ws=>(.ret ws:Prog (List Wr))).ends σ ws):nJ P cx o a w (az ws σ):=by
  obtain ⟨x,y,hxy,hu,hv0⟩:=CW hl
  obtain ⟨t,hat,ht⟩:=qy hT ht0
  obtain ⟨t2,Q5,ht2⟩:=qy hT ht1
  cases u with
  | part r g l0 h0 sz=>
    cases v with
    | part r' g' l1 h1 sz'=>
      simp only [Jb] at h
      obtain ⟨R,e,kk,xs,hr,hv,hg,hq,hf,he,h⟩:=o9 h
      rcases ay h with ⟨hc,h5⟩ | ⟨_,h5⟩
      · clear h
        simp only [afW] at hc
        obtain ⟨⟨⟨⟨⟨c1,c2⟩,c3⟩,c4⟩,c5⟩,c6⟩:=hc
        have ek:=K.eq_of_beq c1
        have c2:=afU c2
        have c3:=afU c3
        have c4:=afU c4
        have c5:=afU c5
        have c6:=afU c6
        subst c2 c3 c4 c5 c6
        obtain ⟨rfl,rfl⟩:e=e0∧kk=k0:=by simpa using ek
        obtain ⟨hle,h6⟩:=h5
        rw [aA h6]
        obtain ⟨b1,b,n,cp,ev1,eb1,e2,e3,e4,hrf⟩:=hu
        obtain ⟨b2,b',n',cp',RX,eb2,f2,f3,f4,acL⟩:=hv0
        obtain ⟨hka,xY⟩:=hrf R hr hg
        obtain ⟨_,abU⟩:=acL R hr hg
        obtain ⟨q1,q2,q3,ev,eh,en,hnc⟩:=zi H hr hv hq he xY
        simp only [Value.slice.injEq] at ev
        obtain ⟨rfl,rfl,rfl⟩:=ev
        obtain ⟨q1,q2,q3,ev,eh',_,_⟩:=zi H hr hv hq he abU
        simp only [Value.slice.injEq] at ev
        obtain ⟨rfl,rfl,rfl⟩:=ev
        rw [eh] at eh'
        simp only [List.cons.injEq,Value.slice.injEq,and_true] at eh'
        obtain ⟨rfl,rfl,rfl⟩:=eh'
        have hb1:b1=b:=by rw [eb1 (.inl rfl)]; simp [add_zero]
        subst hb1
        obtain ⟨hun,hel,hks,_⟩:=ht.sl
        have Uw:=hel.eF
        have hO:Ow (hp w) R.own (gV cx σ α F w R.tags) (.sl e kk) xs [.slice b1 n cp] (α.fo r):=by
          have:=cast (congrArg (fun q:Dat=>Ow (hp w) R.own (gV cx σ α F w R.tags) q.1 q.2 (α.hdr r) (α.fo r)) hq) ((H.roots r R hr).ow hv)
          simp only at this
          rw [eh] at this
          exact this
        have hV:=jJ (fun _=>True) (fun _ _=>trivial) (fun _ _=>trivial) hO
        have hVp:=Kn hV f2 (by omega:h1≤n)
        have hlz:((xs.take h1).drop l1).length=h1 - l1:=by
          have:n=xs.length:=en
          simp; omega
        have hVy:Vw (hp w) (fun _=>True) (.sl e kk) (show List (El kk) from (xs.take h1).drop l1) [.slice b2 (h1 - l1) (cp - l1)]:=by
          by_cases hcl:cp=l1
          · refine ⟨_,_,_,rfl,hlz.symm,by omega,fun h=>?_⟩
            omega
          · rw [if_neg hcl] at hVp
            rw [eb2 (.inr hcl)]
            exact hVp
        obtain ⟨news,hS,hE⟩:=FP (P:=P) (u:=t2) (xs:=(xs.take h1).drop l1) (v:=a.eval y) (.inl ⟨_,ht2.sl.1⟩) Uw rfl (cs:=[.slice b2 (h1 - l1) (cp - l1)]) ⟨by rw [RX],by rw [RX]; simp⟩ hVy
        have hzl:((show List (El kk) from (xs.take h1).drop l1)).length=h1 - l1:=hlz
        have hroom:h0+((xs.take h1).drop l1).length≤cp:=by omega
        obtain ⟨w',r1,r2,r3,r4,r5⟩:=JV (P:=P) (zs:=(xs.take h1).drop l1) (s:=h0) H hr hv hka hq hf he hks (by rw [hlz]; have:n=xs.length:=en; omega) (b:=b1) (n:=n) (c:=cp) eh (bb:=b1.map (·.add (h0 * kk.size))) (fun _=>rfl) (news:=news) hS.nl hE hS.one
        rw [hlz] at r4 r5
        have hrun:=sZ (P:=P) (ty:=o.type) (t:=t) (u:=t2) ht hS (b:=b1) (n:=h0) (c:=cp) hroom
        have DZ:(Builtin.append_ #[t,t2] o.type #[a.eval x,a.eval y]).run P w=.ok (.slice b1 (h0+(h1 - l1)) cp) w':=by
          rw [ev1]
          simp only [Nat.sub_zero]
          rw [hrun,hlz]
          cases hbb:b1 with
          | none=>
            have:((xs.take h1).drop l1).length=0:=by
              refine agc fun hne=>?_
              obtain ⟨ad,had⟩:=r3 (by omega)
              rw [hbb] at had
              simp at had
            rw [r2 this]
            simp [Result.andThen]
          | some ad=>
            have:=r1 (ad.add (h0 * kk.size)) (by rw [hbb]; rfl)
            simp only [this,af8]
        show nJ P cx o a w (az [Wr.s d (.one (.part r g 0 (h0+(h1 - l1)) kk.size))] (aj σ r (iR R e kk (xs.take h0++(xs.take h1).drop l1++xs.drop (h0+(h1 - l1))))))
        refine gT (x:=.one (.part r g 0 (h0+(h1 - l1)) kk.size)) (v:=.slice b1 (h0+(h1 - l1)) cp) r4 hd hdn (ku ho hcb hxy hat Q5 DZ) ?_ ⟨_,aH .., .inr (by rw [←hg]; exact af6 _)⟩
        refine ⟨b1,b1,n,cp,by simp,fun _=>by simp [add_zero],by omega,by omega,e4,r5 g (.slice b1 n cp) (by omega) hrf⟩
      · exact h5.elim
    | _=>exact h.elim
  | _=>exact h.elim
theorem Gx (hT:dU P T) (H:Rel cx σ α F a w) (hd:o.dst=some d) (hdn:d<cx.nt) {c:Call} (ho:o.op=.call c) (hcb:c.callee=.builtin .len) {r g lo hi sz:Nat} {e0:TypeId} {k0:K} (hl:dO cx σ α F w [.part r g lo hi sz] (c.args.toList.map a.eval))
    (ht0:(c.argTypes[0]?).bind T.ty=some (.sl e0 k0)):nJ P cx o a w (az [.s d (.one (.val (.int .i64) ((hi - lo:Nat):Int) []))] σ):=by
  obtain ⟨x,hx,hu⟩:=KZ hl
  obtain ⟨t,hat,ht⟩:=qy hT ht0
  obtain ⟨b',b,n,cp,ev,_⟩:=hu
  have Ol:(c.args.map a.eval)[0]?=some (.slice b' (hi - lo) (cp - lo)):=by
    rw [←Array.getElem?_toList,Array.toList_map,hx]
    simp [ev]
  obtain ⟨cc,hcc⟩:=iT (P:=P) (a:=a) (w:=w) ho hcb
  refine bI H hd hdn ?_ (lN .i64 (n:=((hi - lo:Nat):Int)) trivial) u7
  rw [hcc]
  simp only [builtin,agf,K8 (ty:=o.type) (w:=w) hat Ol (.inr ⟨⟨_,ht.sl.1⟩,b',cp - lo,rfl⟩),af8,agl]
theorem Ih {t u ty e:TypeId} {k:K} (ht:fB P T t (.sl e k)) {b:Option Addr} {n c m:Nat} {x:Value} {news:List Value} (hs:Src P w k.size u x m news) (hr:m≤n) :
    (Builtin.copy_ #[t,u] ty #[.slice b n c,x]).run P w=(match b with
      | some a=>(storeCells a news).run P w
      | none=>.ok () w).andThen fun _ w'=>.ok (.int .i64 (m:Int)) w':=by
  obtain ⟨hu,he,_,_⟩:=ht.sl
  have e1:=hs.len w
  have e2:=hs.cells.1
  have hm:Nat.min m n=m:=Nat.min_eq_left hr
  cases b <;> simp [Builtin.copy_,run_underlying hu,he.info.sizeOf w,e1,e2,hm,Result.andThen,goInt]
theorem NR (hT:dU P T) (H:Rel cx σ α F a w) (hd:o.dst=some d) (hdn:d<cx.nt) {c:Call} (ho:o.op=.call c) (hcb:c.callee=.builtin .copy) {u v:AV} {e0 e1:TypeId} {k0 k1:K} (hl:dO cx σ α F w [u,v] (c.args.toList.map a.eval)) (hwv:nW σ v)
    (ht0:(c.argTypes[0]?).bind T.ty=some (.sl e0 k0)) (ht1:(c.argTypes[1]?).bind T.ty=some (.sl e1 k1)) (h:(NN (.sl e0 k0) d u v fun ws=>(.ret ws:Prog (List Wr))).ends σ ws):nJ P cx o a w (az ws σ):=by
  obtain ⟨x,y,hxy,hu,hv0⟩:=CW hl
  obtain ⟨t,hat,ht⟩:=qy hT ht0
  obtain ⟨t2,Q5,ht2⟩:=qy hT ht1
  cases u with
  | ref r g=>
    simp only [NN] at h
    obtain ⟨R,e,kk,xs,hr,hv,hg,hq,hf,he,h⟩:=o9 h
    rcases ay h with ⟨hc,h5⟩ | ⟨_,h5⟩
    · clear h
      have ek:=K.eq_of_beq hc
      obtain ⟨rfl,rfl⟩:e=e0∧kk=k0:=by simpa using ek
      obtain ⟨hun,hel,hks,_⟩:=ht.sl
      have Uw:=hel.eF
      obtain ⟨s,h6,_,_,news,_,_,_,_,_,_,hS,hels⟩:=Ik (P:=P) (u:=t2) H (.inl ⟨_,ht2.sl.1⟩) Uw hv0 hwv h5
      obtain ⟨hle,h7⟩:=h6
      rw [aA h7]
      obtain ⟨hka,xY⟩:=hu R hr (by omega)
      obtain ⟨b,n,cp,ev,eh,en,hnc⟩:=zi H hr hv hq he xY
      obtain ⟨bz,wJ,_,_,_,hE⟩:=hels [] (fun t ht=>by rw [tO hf] at ht; simp at ht)
      have hb0:b.map (·.add (0 * kk.size))=b:=by rw [Nat.zero_mul]; exact add_zero b
      obtain ⟨w',r1,r2,r3,r4,r5⟩:=JV (P:=P) (zs:=s.xs) (s:=0) H hr hv hka hq hf he hks (by omega) (b:=b) (n:=n) (c:=cp) eh (bb:=b) (fun _=>hb0.symm) (news:=news) hS.nl (fun i hi=>jJ (fun _=>True) (fun _ _=>trivial) (fun _ _=>trivial) (hE i hi)) hS.one
      have hxs:xs.take 0++s.xs++xs.drop (0+s.xs.length)=s.xs++xs.drop s.xs.length:=by simp
      rw [hxs] at r4 r5
      have hrun:=Ih (P:=P) (ty:=o.type) (t:=t) (u:=t2) ht hS (b:=b) (n:=n) (c:=cp) (by omega)
      have DZ:(Builtin.copy_ #[t,t2] o.type #[a.eval x,a.eval y]).run P w=.ok (.int .i64 (s.xs.length:Int)) w':=by
        rw [ev,hrun]
        cases hbb:b with
        | none=>
          have:s.xs.length=0:=by
            refine agc fun hne=>?_
            obtain ⟨ad,had⟩:=r3 (by omega)
            rw [hbb] at had
            simp at had
          rw [r2 this]
          simp [Result.andThen]
        | some ad=>
          have:=r1 ad hbb
          simp only [this,af8]
      have XT:(execOp a.eval o).run P w=.ok (.value (.int .i64 (s.xs.length:Int))) w':=by
        obtain ⟨cc,hcc⟩:=iT (P:=P) (a:=a) (w:=w) ho hcb
        rw [hcc]
        have h1:c.args.map a.eval=#[a.eval x,a.eval y]:=by
          apply Array.ext'
          rw [Array.toList_map,hxy]
          rfl
        have h2:Builtin.copy_ c.argTypes o.type #[a.eval x,a.eval y]=Builtin.copy_ #[t,t2] o.type #[a.eval x,a.eval y]:=by
          unfold Builtin.copy_
          simp only [hat]
          rfl
        rw [h1]
        simp only [builtin,agf,h2,DZ,af8,agl]
      show nJ P cx o a w (az [Wr.s d (.one (.val (.int .i64) (s.xs.length:Int) []))] (aj σ r (iR R e kk (s.xs++xs.drop s.xs.length))))
      exact gT (x:=.one (.val (.int .i64) (s.xs.length:Int) [])) r4 hd hdn XT (lN .i64 (n:=((s.xs.length:Nat):Int)) trivial) u7
    · exact h5.elim
  | _=>exact h.elim
theorem Dr {t e:TypeId} (ht:fB P T t (.sl e (.int .u8))) {b q n c:Nat} {arr:Array Value} {e':TypeId} {fr:Nat×Nat} (hb:hp w b=some (.cells arr e' fr)) :
    (convert t t (.slice (some ⟨b,q,none⟩) n c)).run P w=.ok (.slice (some ⟨b,q,none⟩) n c) (w.freeze ⟨b,arr.size,none⟩ 1):=by
  obtain ⟨h1,h2,_⟩:=ht.sl
  have he:P.underlying e=some (.int .u8):=by
    unfold fB iW at h2
    exact h2.1
  have hsh:w.shape? b=some (e',arr.size):=by
    have:w.heap[b]?=some (.cells arr e' fr):=hb
    unfold World.shape?
    rw [this]
  simp [convert,run_underlying h1,run_underlying he,markStringish,hsh]
theorem L9 {b:Nat} {arr:Array Value} {e':TypeId} {lo hi:Nat} (hb:hp w b=some (.cells arr e' (lo,hi))) (hf:yI arr.size lo hi) :
    (∀b',b'≠b→hp (w.freeze ⟨b,arr.size,none⟩ 1) b'=hp w b')∧∃lo' hi',hp (w.freeze ⟨b,arr.size,none⟩ 1) b=some (.cells arr e' (lo',hi'))∧yI arr.size lo' hi':=by
  have hb':w.heap[b]?=some (.cells arr e' (lo,hi)):=hb
  have e0:(w.freeze ⟨b,arr.size,none⟩ 1).heap=w.heap.modify b fun
      | .cells c elem (lo,hi)=>.cells c elem (if lo == hi then (arr.size,arr.size+1) else (min lo arr.size,max hi (arr.size+1)))
      | o=>o:=by
    unfold World.freeze
    rw [if_neg (by decide)]
    rfl
  refine ⟨fun b' hne=>?_, ?_⟩
  · show (w.freeze ⟨b,arr.size,none⟩ 1).heap[b']?=w.heap[b']?
    rw [e0,Array.getElem?_modify,if_neg (Ne.symm hne)]
  · have e1:hp (w.freeze ⟨b,arr.size,none⟩ 1) b=some (.cells arr e' (if lo == hi then (arr.size,arr.size+1) else (min lo arr.size,max hi (arr.size+1)))):=by
      show (w.freeze ⟨b,arr.size,none⟩ 1).heap[b]?=_
      rw [e0,Array.getElem?_modify,if_pos rfl,hb']
      rfl
    cases hlh:(lo == hi) with
    | true=>rw [hlh] at e1; exact ⟨_,_,e1,by omega,fun i hi=>by omega⟩
    | false=>
      rw [hlh] at e1
      have hne:lo≠hi:=by simpa using hlh
      have hle:=hf.le
      have hs:arr.size≤lo:=agc fun h=>hf.out lo (by omega) ⟨af6 _,by omega⟩
      exact ⟨_,_,e1,by omega,fun i hi=>by omega⟩
theorem LM (hT:dU P T) (H:Rel cx σ α F a w) (hd:o.dst=some d) (hdn:d<cx.nt) {t e:TypeId} {x:Operand} {u:AV} (ho:o.op=.convert t t x) (ht0:T.ty t=some (.sl e (.int .u8))) (hu:bH cx σ α F w u (a.eval x))
    (h:(I1 e d u fun ws=>(.ret ws:Prog (List Wr))).ends σ ws):nJ P cx o a w (az ws σ):=by
  have ht:=hT.ty t _ ht0
  cases u with
  | ref r g=>
    simp only [I1] at h
    obtain ⟨R,e',kk,xs,hr,hv,hg,hq,hf,he,h⟩:=o9 h
    rcases ay h with ⟨hc,h5⟩ | ⟨_,h5⟩
    · clear h
      obtain ⟨h6,h7⟩:=h5
      rw [aA h7]
      have ek:=K.eq_of_beq hc
      obtain ⟨rfl,rfl⟩:e'=e∧kk=.int .u8:=by simpa using ek
      obtain ⟨hka,xY⟩:=hu R hr (by omega)
      have hO:=cast (congrArg (fun q:Dat=>Ow (hp w) R.own (gV cx σ α F w R.tags) q.1 q.2 (α.hdr r) (α.fo r)) hq) ((H.roots r R hr).ow hv)
      have hV:VC (.sl e' (.int .u8)) (a.eval x) (α.hdr r):=cast (congrArg (fun q:Dat=>VC q.1 (a.eval x) (α.hdr r)) hq) xY
      simp only at hO
      have YM:=hO
      unfold Ow at hO
      rw [if_pos he] at hO
      obtain ⟨ad,n,c,e1,e2,e3,hO⟩:=hO
      have h6':0<(show List Int from xs).length:=h6
      rcases hO with ⟨hc0,_⟩ | ⟨b,q,arr,lo,hi,ea,hb,hfr,hs,bz,hl,hpm,hE⟩
      · have:n=(show List Int from xs).length:=e2
        omega
      · subst ea
        have ev:a.eval x=.slice (some ⟨b,q,none⟩) n c:=by
          have:=hV.1
          rw [e1] at this
          simpa using this.symm
        have XR:=Dr (P:=P) (w:=w) ht (n:=n) (c:=c) (q:=q) hb
        obtain ⟨g1,lo',hi',g2,g3⟩:=L9 hb hfr
        have hcell:∀i,cellAt (hp (w.freeze ⟨b,arr.size,none⟩ 1)) b i=cellAt (hp w) b i:=fun i=>by unfold cellAt; rw [g2,hb]
        have abX:b∈α.fo r:=hpm.mem_iff.2 (by simp)
        have Q9:(w.freeze ⟨b,arr.size,none⟩ 1).os=w.os∧(w.freeze ⟨b,arr.size,none⟩ 1).tape=w.tape∧(w.freeze ⟨b,arr.size,none⟩ 1).output=w.output∧(w.freeze ⟨b,arr.size,none⟩ 1).heap.size=w.heap.size:=by
          unfold World.freeze
          rw [if_neg (by decide)]
          exact ⟨rfl,rfl,rfl,by simp⟩
        have hE':∀(i:Nat) (hi:i<(show List Int from xs).length),∃ds,Cells (hp w) b (q+i * K.size (.int .u8)) ds∧Ow (hp w) R.own (gV cx σ α F w R.tags) (.int .u8) ((show List Int from xs)[i]) ds (bz.getD i []):=hE
        obtain ⟨r4,r5⟩:=FH (w':=w.freeze ⟨b,arr.size,none⟩ 1) (ys:=xs) H hr hv hka hq hf rfl ⟨Q9.1,Q9.2.1,Q9.2.2.1⟩ (by rw [Q9.2.2.2]; exact af6 _)
          (fun b' hne=>by
            by_cases hbb:b'=b
            · subst hbb
              exact ⟨abX,by unfold ni; rw [hb]⟩
            · exact absurd (g1 b' hbb) hne)
          (fun ok=>by
            unfold Ow
            rw [if_pos he]
            refine ⟨some ⟨b,q,none⟩,n,c,e1,e2,e3, .inr ⟨b,q,arr,lo',hi',rfl,g2,g3,hs,bz,hl,hpm,fun i hi=>?_⟩⟩
            obtain ⟨ds,k1,k2⟩:=hE' i hi
            exact ⟨ds,fun j hj=>by rw [hcell]; exact k1 j hj,k2⟩)
        have hrun:(execOp a.eval o).run P w=.ok (.value (a.eval x)) (w.freeze ⟨b,arr.size,none⟩ 1):=by
          simp only [execOp,ho,ev,agf,XR,af8,agl]
        show nJ P cx o a w (az [Wr.s d (.one (.ref r g))] (aj σ r (iR R e' (.int .u8) xs)))
        exact gT (x:=.one (.ref r g)) r4 hd hdn hrun (r5 g (a.eval x) (by omega) hu) ⟨_,aH .., .inr (by show g≤R.g; omega)⟩
    · exact h5.elim
  | _=>exact h.elim
theorem EY (hT:dU P T) (H:Rel cx σ α F a w) (hd:o.dst=some d) (hdn:d<cx.nt) (h:(CS T o d fun ws=>(.ret ws:Prog (List Wr))).ends σ ws):nJ P cx o a w (az ws σ):=by
  unfold CS at h
  split at h
  · rename_i t x lo hi mx ho
    exact Df hT H hd hdn h ho
  · rename_i c ho
    split at h
    · rename_i hcb
      obtain ⟨vs,h1,h2,h⟩:=iN H h
      split at h
      · split at h
        · rename_i ht0
          rw [aA h]
          exact Gx hT H hd hdn ho hcb h1 ht0
        · exact h.elim
      · exact h.elim
    · rename_i hcb
      obtain ⟨vs,h1,h2,h⟩:=iN H h
      split at h
      · split at h
        · rename_i ht0 ht1
          exact LQ hT H hd hdn ho hcb h1 ht0 ht1 h
        · exact h.elim
      · exact h.elim
    · rename_i hcb
      obtain ⟨vs,h1,h2,h⟩:=iN H h
      split at h
      · split at h
        · rename_i ht0 ht1
          exact NR hT H hd hdn ho hcb h1 (h2 _ (by simp)) ht0 ht1 h
        · exact h.elim
      · exact h.elim
    · exact h.elim
  · rename_i t ps ho
    exact QT hT H hd hdn h ho
  · rename_i s t x ho
    split at h
    · rename_i hty
      rcases ay h with ⟨hst,h9⟩ | ⟨_,h9⟩
      · have hst:=afU hst
        obtain ⟨u,h1,h2,h9⟩:=bP H h9
        exact LM hT H hd hdn (by rw [ho,hst]) hty h1 h9
      · exact h9.elim
    · exact h.elim
  · exact h.elim
end
theorem G9 {p:List Stp}:∀{q:List Stp},rF p q=true→G6 p=G6 q→p=q:=by
  induction p with
  | nil=>intro q h _; cases q with
    | nil=>rfl
    | cons s q=>cases s <;> simp [rF] at h
  | cons s p ih=>
    intro q h hi
    cases q with
    | nil=>cases s <;> simp [rF] at h
    | cons u q=>
      cases s with
      | fD n=>
        cases u with
        | fD m=>
          simp only [rF,afW] at h
          rw [afU h.1,ih h.2 hi]
        | idx j=>simp [rF] at h
      | idx i=>
        cases u with
        | fD m=>simp [rF] at h
        | idx j=>
          simp only [G6,List.cons.injEq] at hi
          rw [hi.1,ih h hi.2]
theorem MC {p:List Stp}:∀{q:List Stp},rF p q=true→p.all Stp.nG=true→q.all Stp.nG=true:=by
  induction p with
  | nil=>intro q h _; cases q with
    | nil=>rfl
    | cons s q=>cases s <;> simp [rF] at h
  | cons s p ih=>
    intro q h hi
    cases q with
    | nil=>cases s <;> simp [rF] at h
    | cons u q=>
      cases s with
      | idx i=>simp [Stp.nG] at hi
      | fD n=>
        cases u with
        | idx j=>simp [rF] at h
        | fD m=>
          simp only [rF,afW] at h
          simp only [List.all_cons,afW] at hi ⊢
          exact ⟨rfl,ih h.2 hi.2⟩
theorem D5 {p:List Stp}:p.all Stp.nG=true→G6 p=[]:=by
  induction p with
  | nil=>intro _; rfl
  | cons s p ih=>
    intro h
    simp only [List.all_cons,afW] at h
    cases s with
    | fD n=>exact ih h.2
    | idx i=>exact absurd h.1 (by simp [Stp.nG])
section
variable {P:Program} {T:iD} {cx:Cx} {σ:St} {α:dI} {F:List Nat} {a:Act} {w:World} {o:Oper} {d:Nat} {ws:List Wr} {r:Nat} {R:Root}
theorem Ic {t e:TypeId} {kk:K} (hT:fB P T t (.sl e kk)) (H:Rel cx σ α F a w) (hr:aN σ r R) (hv:bn σ R) {p:List Stp} {xs ys:List (El kk)} {z:Dat} (hg:aO p R.k R.x=some ⟨.sl e kk,xs⟩) (hz:dR p R.k R.x ⟨.sl e kk,ys⟩=some z) (fG:kH p R.k R.x)
    (hown:∀t∈aa p R.k,au t R.own=true) (hall:∀t∈(K.sl e kk).tys,au t R.own=true) {cs1:List Value} {b o:Nat} (hn:bE (hp w) p R.k (α.hdr r) (dQ α R r)=some (cs1,some (b,o))) {v:Value} (x8:∃bv nv cv,v=.slice bv nv cv) {lw:List TypeId} (Vd:eB R p∈lw)
    (how:∀fE ok,Ow (hp w) R.own ok (.sl e kk) xs cs1 fE→fE.Nodup→(∀b∈fE,b∈α.fo r)→∃ft,ft.Nodup∧(∀b∈ft,b∈fE∨b∈F)∧Ow (hp w) R.own (fun _=>False) (.sl e kk) ys [v] ft) :
    ∃w',(Instr.storeAt t (.pointer (some ⟨b,o,none⟩)) v).run P w=.ok () w'∧∃α' F',Rel cx (aj σ r (bG R z R.own R.tags lw (K.sl e kk).tys R.keep)) α' F' a w':=by
  have K0:=H.roots r R hr
  have hnt:=H.dh r R hr.1
  obtain ⟨_,_,hbb,⟨arr,te,lo,hi,hb,hf,hs,hlast⟩,_⟩:=mO H hr hv hg fG hown hn
  have hone:∀u∈[v],u.oneCell'=true:=by
    intro u hu
    simp only [af9] at hu
    subst hu
    obtain ⟨bv,nv,cv,rfl⟩:=x8
    rfl
  have acT:VC (.sl e kk) v [v]:=by
    obtain ⟨bv,nv,cv,rfl⟩:=x8
    exact ⟨rfl,by simp⟩
  have hrun:=z8 (o:=o) hT hb hf (show [v].length=(K.sl e kk).size from rfl) hs acT hone
  obtain ⟨s1,s2,jG,s3,s4,s5,s6⟩:=qd b [v] w arr te (lo,hi) o hb hs
  have s7:=mQ b [v] w o
  refine ⟨_,hrun, ?_⟩
  obtain ⟨fd,ok',fE,rest,mF,kP,hn',hpf,hd1,hty,_,uL,hwf,hgo⟩:=H.place hr hv (own':=R.own) hg fG (fun t h=>h) hown
  rw [hn] at hn'
  simp only [afQ,af1] at hn'
  obtain ⟨rfl,rfl⟩:=hn'
  have hnd:=K0.nd
  rw [bV,kJ] at hnd
  have OG:=hpf.nodup hnd.2
  have KA:∀b∈fE,b∈α.fo r:=fun b hb=>hpf.mem_iff.2 (afV _ (afV _ hb))
  obtain ⟨ft,aci,Ox,acj⟩:=how fE ok' hd1 (afX.1 (afX.1 OG).1).1 KA
  have Ah:b∉F:=H.iB r R hr b hbb
  have abY:b∉ft:=fun h=>by
    rcases Ox b h with h | h
    · exact hwf b o rfl h
    · exact Ah h
  have hF':∀b',b'∈F.filter (fun b=>!au b ft)↔b'∈F∧b'∉ft:=fun b'=>by rw [af7]; simp [aS]
  have hP:oO cx σ α F w r R p ⟨.sl e kk,xs⟩ R.own cs1 (some (b,o)) fE rest ⟨.sl e kk,ys⟩ z R.tags lw (K.sl e kk).tys R.keep ft (F.filter fun b=>!au b ft) [v] (w.setCells b o [v]):=by
    refine ⟨hz,rfl,fun _ h=>h,⟨s7.1,s7.2.1,s7.2.2⟩,by omega,fun b' _ hne=>?_,fun b' o' e'=>?_,fun h=>by simp at h,rfl, .inl (fun h=>by rw [h] at Vd; simp at Vd),⟨fun _ h=>h,hnt.1,hnt.2.2⟩,fun b' hb'=>(Ox b' hb').imp id .inl,aci,fun b' hb'=>.inl ((hF' b').1 hb').1,H.uU.filter _,
      fun b' hb' h=>((hF' b').1 h).2 hb', .inl rfl, .inl rfl,fun _ q c0 w0 hpq OU hnq Vf=>?_,fun α' Tn hblk hval=>?_⟩
    · refine .inr (.inr ?_)
      by_cases e:b'=b
      · subst e; exact ⟨o,rfl,Vd⟩
      · exact absurd (s1 b' e) hne
    · simp only [afQ,af1] at e'
      obtain ⟨rfl,rfl⟩:=e'
      refine ⟨fun i hi=>?_,arr,jG,te,(lo,hi),hb,s3,s4,fun i hi=>s6 i hi⟩
      unfold cellAt
      rw [s3]
      exact s5 i hi
    · cases q with
      | nil=>
        simp only [bE,afQ,af1] at hnq
        exact ⟨trivial,[v],by simp only [bE]; rw [hnq.2]⟩
      | cons s q=>
        cases s with
        | fD n=>exact hpq.elim
        | idx i=>exact absurd (show e∈(K.sl e kk).tys by simp [K.tys]) (OU e (by simp [aa])).2
    · exact fP (dm hall) (bq (fun _ h=>h.elim) (fun _ h=>h) (fun b' hb'=>s1 b' (fun e=>abY (e▸hb'))) acj)
  obtain ⟨α',h,_⟩:=hgo hP
  exact ⟨α',_,h⟩
theorem EU (hT:dU P T) (H:Rel cx σ α F a w) (hd:o.dst=none) {t:TypeId} {x y:Operand} (ho:o.op=.store t x y) {u:AV} {r n m:Nat} {p:List Stp} {k0:K} (hk0:T.ty t=some k0) (h1:bH cx σ α F w u (a.eval x)) (h2:nW σ u) (h3:bH cx σ α F w (.sW r p n m) (a.eval y))
    (h:(yX k0 u r p n m fun ws=>(.ret ws:Prog (List Wr))).ends σ ws):nJ P cx o a w (az ws σ):=by
  have ht:=hT.ty t k0 hk0
  cases k0 with
  | sl e kk=>
    cases u with
    | ptr r' p' h0=>
      simp only [yX] at h
      rcases ay h with ⟨hc,h5⟩ | ⟨_,h5⟩
      · clear h
        simp only [afW] at hc
        obtain ⟨hix,h6⟩:=h5
        have er:=afU hc.1
        have ep:=G9 hc.2 hix
        subst er ep
        obtain ⟨R,hr,hv,h7⟩:=cz h6
        rcases ay h7 with ⟨hc2,h8⟩ | ⟨_,h8⟩
        · simp only [afW] at hc2
          obtain ⟨⟨⟨c1,c2⟩,c3⟩,c4⟩:=hc2
          have hall:=jy c4
          cases hg:aO p R.k R.x with
          | none=>rw [hg] at h8; exact h8.elim
          | some dd=>
            rw [hg] at h8
            simp only at h8
            cases hck:bR dd.1 (.sl e kk) dd.2 with
            | none=>rw [hck] at h8; exact h8.elim
            | some xs=>
              rw [hck] at h8
              simp only at h8
              obtain ⟨ek,ey⟩:=bL hck
              obtain ⟨dk,dx⟩:=dd
              simp only at ek ey
              subst ek
              simp only at ey
              subst ey
              cases hz:dR p R.k R.x ⟨.sl e kk,(show List (El kk) from xs).take m⟩ with
              | none=>rw [hz] at h8; exact h8.elim
              | some z=>
                rw [hz] at h8
                rw [aA h8]
                obtain ⟨b0,c,ev,h3⟩:=h3
                obtain ⟨fG,hown,q,wh,hn,hmq⟩:=h3 R hr.1 hv (afU c1) _ hg
                obtain ⟨_,cs,b,o',hn2,ep⟩:=h1.2 R hr.1 hv c3 hown (by rw [hg]; rfl)
                rw [hn] at hn2
                simp only [afQ,af1] at hn2
                obtain ⟨rfl,rfl⟩:=hn2
                obtain ⟨w',r1,α',F',r2⟩:=Ic (P:=P) ht H hr hv hg hz fG hown hall hn (v:=.slice b0 m c) ⟨_,_,_,rfl⟩ (lw:=eB R p :: (K.sl e kk).tys) (by simp) (fun fE ok hO hnd hsub=>by
                  unfold Ow at hO
                  have he:au e R.own=true:=hall e (by simp [K.tys])
                  rw [if_pos he] at hO
                  obtain ⟨a0,n',c',e1,e2,e3,hO⟩:=hO
                  simp only [List.cons.injEq,Value.slice.injEq,and_true] at e1
                  obtain ⟨rfl,rfl,rfl⟩:=e1
                  have e2:q=@List.length (El kk) xs:=e2
                  have hmx:m≤@List.length (El kk) xs:=by omega
                  have hlen:(@List.take (El kk) m xs).length=m:=by rw [List.length_take]; omega
                  rcases hO with ⟨hc0,hf0⟩ | ⟨bb,o0,arr,lo,hi,ea,hb,hfr,hs,bz,hl,hp0,hO⟩
                  · refine ⟨[],List.nodup_nil,by simp, ?_⟩
                    unfold Ow
                    rw [if_pos he]
                    exact ⟨b0,m,c,rfl,hlen.symm,by omega, .inl ⟨hc0,rfl⟩⟩
                  · have hl:bz.length=(show List (El kk) from xs).length:=hl
                    have nK:=hp0.nodup hnd
                    have OT:((bz.take m).flatten).Sublist bz.flatten:=by
                      have:(bz.take m++bz.drop m).flatten=bz.flatten:=by rw [List.take_append_drop]
                      rw [←this,List.flatten_append]
                      exact List.sublist_append_left _ _
                    refine ⟨bb :: (bz.take m).flatten,(agp.2 ⟨fun h=>(agp.1 nK).1 (OT.subset h),(agp.1 nK).2.sublist OT⟩),fun b' hb'=>.inl (hp0.mem_iff.2 (by
                      rcases af2.1 hb' with h | h
                      · rw [h]; exact agn
                      · exact age _ (OT.subset h))), ?_⟩
                    have hOO:Ow (hp w) R.own (fun _=>False) (.sl e kk) (show List (El kk) from (show List (El kk) from xs).take m) [.slice b0 m c] (bb :: (bz.take m).flatten):=by
                      unfold Ow
                      rw [if_pos he]
                      refine ⟨b0,m,c,rfl,hlen.symm,by omega, .inr ⟨bb,o0,arr,lo,hi,ea,hb,hfr,hs,bz.take m,by show (bz.take m).length=((show List (El kk) from xs).take m).length; simp [hl], .refl _,fun i hi'=>?_⟩⟩
                      have hi2:i<((show List (El kk) from xs).take m).length:=hi'
                      have hi3:i<m∧i < @List.length (El kk) xs:=by
                        have h9:i<(@List.take (El kk) m xs).length:=hi'
                        rw [hlen] at h9; omega
                      obtain ⟨ds,g1,g2⟩:=hO i hi3.2
                      refine ⟨ds,g1, ?_⟩
                      have e1:(show List (El kk) from (show List (El kk) from xs).take m)[i]'hi'=(show List (El kk) from xs)[i]'hi3.2:=by
                        show ((show List (El kk) from xs).take m)[i]=_
                        simp
                      have e2:(bz.take m).getD i []=bz.getD i []:=by simp [af3,List.getElem?_take,hi3.1]
                      rw [e1,e2]
                      exact fP (dm (fun t ht=>hall t (by simp [K.tys,ht]))) g2
                    exact hOO)
                refine ⟨undef,w',α',F', .inr ⟨?_,rfl⟩, ?_⟩
                · simp only [execOp,ho,ep,ev,agf,r1,af8,agl]
                · rw [hd]
                  exact r2
        · exact h8.elim
      · exact h5.elim
    | _=>exact h.elim
  | _=>exact h.elim
end
section
variable {P:Program} {T:iD} {cx:Cx} {σ:St} {α:dI} {F:List Nat} {a:Act} {w:World} {o:Oper} {d:Nat} {ws:List Wr} {r:Nat} {R:Root}
theorem Lp {t u ty e:TypeId} {kk:K} (ht:fB P T t (.sl e kk)) {own:List TypeId} {ok:Nat→Prop} {xs:List (El kk)} {b:Option Addr} {n c:Nat} {x:Value} {sS:List Nat} {news:List Value}
    (hO:Ow (hp w) own ok (.sl e kk) xs [.slice b n c] sS) (hown:au e own=true) (hS:Src P w kk.size u x 1 news) (hb:(xs.length+1) * T.bytes e≤140737488355328) :
    ∃w' b1 o1 c1 arr lo hi,(Builtin.append_ #[t,u] ty #[.slice b n c,x]).run P w=.ok (.slice (some ⟨b1,o1,none⟩) (n+1) c1) w'∧(w'.os=w.os∧w'.tape=w.tape∧w'.output=w.output)∧w.heap.size≤w'.heap.size∧n+1≤c1∧n=xs.length∧
      hp w' b1=some (.cells arr e (lo,hi))∧yI arr.size lo hi∧o1+c1 * kk.size≤arr.size∧Cells (hp w') b1 (o1+n * kk.size) news∧(∀b',b'<w.heap.size→b'≠b1→hp w' b'=hp w b')∧
      ((b=some ⟨b1,o1,none⟩∧c=c1∧b1∈sS∧ni (hp w) b1=some e∧gu (hp w) (hp w') b1 (o1+n * kk.size) kk.size)∨
       (b1=w.heap.size∧w.heap.size<w'.heap.size∧(0<n→∃b0 o0,b=some ⟨b0,o0,none⟩∧b0∈sS∧∀i,i<n * kk.size→cellAt (hp w') b1 (o1+i)=cellAt (hp w) b0 (o0+i)))):=by
  have hnl:news.length=kk.size:=by simpa using hS.nl
  unfold Ow at hO
  rw [if_pos hown] at hO
  obtain ⟨a,n',c',e1,e2,e3,hO⟩:=hO
  simp only [List.cons.injEq,Value.slice.injEq,and_true] at e1
  obtain ⟨rfl,rfl,rfl⟩:=e1
  have e2':n=xs.length:=e2
  by_cases hr:n+1≤c
  · have hrun:=sZ (ty:=ty) ht hS (b:=b) (n:=n) hr
    rcases hO with ⟨hc0,_⟩ | ⟨bb,q,arr,lo,hi,ea,hbk,hf,hs,rT,hl0,hp0,hO⟩
    · omega
    · subst ea
      have hle:(n+1) * kk.size≤c * kk.size:=agm _ hr
      rw [Nat.add_mul,Nat.one_mul] at hle
      have hst:=kC (P:=P) (o:=q+n * kk.size) news hbk hf (by rw [hnl]; omega) hS.one
      simp only [Result.andThen,addr_add,hst] at hrun
      obtain ⟨s1,s2,jG,s3,s4,s5,s6⟩:=qd bb news w arr e (lo,hi) (q+n * kk.size) hbk (by rw [hnl]; omega)
      refine ⟨_,bb,q,c,jG,lo,hi,hrun,mQ bb news w _,by omega,hr,e2',s3,by rw [s4]; exact hf,by rw [s4]; exact hs,fun i hi'=>?_,fun b' _ h=>s1 b' h, .inl ⟨rfl,rfl,hp0.mem_iff.2 (by simp),by unfold ni; rw [hbk],arr,jG,e,(lo,hi),hbk,s3,s4,fun i hi'=>?_⟩⟩
      · unfold cellAt
        rw [s3]
        exact s5 i hi'
      · exact s6 i (by rw [hnl]; exact hi')
  · obtain ⟨olds,ho1,ho2,ho3⟩:∃olds:List Value,olds.length=n * kk.size∧(Builtin.firstCells kk.size n (.slice b n c)).run P w.drew=.ok olds.toArray w.drew∧(0<n→∃b0 o0,b=some ⟨b0,o0,none⟩∧b0∈sS∧∀i,i<n * kk.size→olds[i]?=cellAt (hp w) b0 (o0+i)):=by
      rcases hO with ⟨hc0,hf0⟩ | ⟨bb,q,arr,lo,hi,ea,hbk,hf,hs,rT,hl0,hp0,hO⟩
      · have hn0:n=0:=by omega
        subst hn0
        refine ⟨[],by simp, ?_,fun h=>by omega⟩
        cases b with
        | none=>exact run_firstCells_none w.drew kk.size 0 0 c
        | some ad=>exact run_firstCells_some (P:=P) w.drew kk.size 0 ad 0 c [] (by simp) (fun j v hj=>by simp at hj)
      · subst ea
        have hle:n * kk.size≤c * kk.size:=agm _ e3
        have hrow:=yK (n:=n * kk.size) hbk (by omega:q+n * kk.size≤arr.size)
        have hrl:(mP (hp w) bb q (n * kk.size)).length=n * kk.size:=by simp [mP]
        refine ⟨mP (hp w) bb q (n * kk.size),hrl, ?_,fun _=>⟨bb,q,rfl,hp0.mem_iff.2 (by simp),fun i hi'=>(hrow i (by rw [hrl]; exact hi')).symm⟩⟩
        refine run_firstCells_some (P:=P) w.drew kk.size n ⟨bb,q,none⟩ n c _ hrl (fun j v hj=>?_)
        rw [addr_add,uB]
        have:=hrow j (by rw [hrl]; have:=(List.getElem?_eq_some_iff.1 hj).1; rw [hrl] at this; exact this)
        rw [hj] at this
        exact this
    obtain ⟨nc,hnc,hrun⟩:=vQ (ty:=ty) ht hS ho2 hr (by rw [e2']; exact hb)
    have hnew:=oh w.drew (.cells (olds.toArray++news.toArray++Builtin.zeroCells (oJ kk).cells (nc - (n+1))) e)
    have hold:∀b',b'<w.heap.size→hp (w.drew.alloc (.cells (olds.toArray++news.toArray++Builtin.zeroCells (oJ kk).cells (nc - (n+1))) e)) b'=hp w b':=fun b' h=>mg w.drew _ h
    have hws:w.drew.heap.size=w.heap.size:=rfl
    rw [hws] at hnew
    have hsz2:(w.drew.alloc (.cells (olds.toArray++news.toArray++Builtin.zeroCells (oJ kk).cells (nc - (n+1))) e)).heap.size=w.heap.size+1:=Array.size_push ..
    have hzl:(oJ kk).cells.size=kk.size:=by
      rw [rQ ht.sl.2.1.shape]
      simpa using cO (tZ (h:=hp w) (own:=own) (ok:=ok) ht.sl.2.1.eF)
    have hcell:∀q,q<(olds++news).length→cellAt (hp (w.drew.alloc (.cells (olds.toArray++news.toArray++Builtin.zeroCells (oJ kk).cells (nc - (n+1))) e))) w.heap.size (0+q)=(olds++news)[q]?:=by
      intro q hq
      unfold cellAt
      rw [hnew]
      simp only [Nat.zero_add]
      rw [Array.getElem?_append_left (by simpa using hq)]
      simp
    refine ⟨_,w.heap.size,0,nc,_,0,0,hrun,⟨rfl,rfl,rfl⟩,by omega,hnc,e2',hnew,yI.zero, ?_,fun i hi=>?_,fun b' h1 _=>hold b' h1, .inr ⟨rfl,by omega,fun hn=>?_⟩⟩
    · simp only [Array.size_append,List.size_toArray,size_zeroCells,hzl,ho1,hnl]
      have h9:n * kk.size+kk.size+(nc - (n+1)) * kk.size=(n+1+(nc - (n+1))) * kk.size:=by rw [Nat.add_mul,Nat.add_mul,Nat.one_mul]
      rw [h9]
      have:n+1+(nc - (n+1))=nc:=by omega
      rw [this]
      omega
    · rw [Nat.add_assoc,hcell _ (by rw [afY,ho1]; omega),List.getElem?_append_right (by omega),ho1]
      congr 1
      omega
    · obtain ⟨b0,o0,z1,z2,z3⟩:=ho3 hn
      refine ⟨b0,o0,z1,z2,fun i hi=>?_⟩
      rw [hcell _ (by rw [afY,ho1]; omega),List.getElem?_append_left (by rw [ho1]; exact hi)]
      exact z3 i hi
end
section
variable {P:Program} {T:iD} {cx:Cx} {σ:St} {α:dI} {F:List Nat} {a:Act} {w:World} {o:Oper} {d:Nat} {ws:List Wr} {r:Nat} {R:Root}
theorem Lg {h h':Heap} {own:List TypeId} {ok ok':Nat→Prop} {e:TypeId} {kk:K} {xs:List (El kk)} {b1 o1 n c:Nat} {fo:List Nat} (hall:∀t∈(K.sl e kk).tys,au t own=true) (hnd:fo.Nodup)
    (H:Ow h own ok (.sl e kk) xs [.slice (some ⟨b1,o1,none⟩) n c] fo) (hb1:b1∈fo) (hs:gu h h' b1 (o1+n * kk.size) kk.size) (ho:∀b∈fo,b≠b1→h' b=h b):Ow h' own ok' (.sl e kk) xs [.slice (some ⟨b1,o1,none⟩) n c] fo:=by
  have he:au e own=true:=hall e (by simp [K.tys])
  unfold Ow at H ⊢
  rw [if_pos he] at H ⊢
  obtain ⟨a,n',c',e1,e2,e3,H⟩:=H
  simp only [List.cons.injEq,Value.slice.injEq,and_true] at e1
  obtain ⟨rfl,rfl,rfl⟩:=e1
  have e2':n=xs.length:=e2
  refine ⟨_,n,c,rfl,e2,e3, ?_⟩
  rcases H with ⟨hc0,hf0⟩ | ⟨bb,q,arr,lo,hi,ea,hbk,hf,hsz,bz,hl,hp,H⟩
  · rw [hf0] at hb1; simp at hb1
  · simp only [afQ,Addr.mk.injEq,and_true] at ea
    obtain ⟨rfl,rfl⟩:=ea
    obtain ⟨abo,jG,te,fr,s1,s2,s3,s4⟩:=hs
    rw [hbk] at s1
    simp only [afQ,Obj.cells.injEq] at s1
    obtain ⟨rfl,rfl,rfl⟩:=s1
    have nK:=hp.nodup hnd
    refine .inr ⟨b1,o1,jG,lo,hi,rfl,s2,by rw [s3]; exact hf,by rw [s3]; exact hsz,bz,hl,hp,fun i hi'=>?_⟩
    obtain ⟨ds,g1,g2⟩:=H i hi'
    have hds:=cO g2
    refine ⟨ds,fun j hj=>?_, ?_⟩
    · have:=g1 j hj
      unfold cellAt at this ⊢
      rw [hbk] at this
      rw [s2]
      simp only at this ⊢
      have hlt:(i+1) * kk.size≤n * kk.size:=agm _ (by have:i<xs.length:=hi'; omega)
      rw [Nat.add_mul,Nat.one_mul] at hlt
      rw [s4 _ (by omega)]
      exact this
    · refine fP (dm (fun t ht=>hall t (by simp [K.tys,ht]))) (bq (ok:=fun _=>False) (ok':=fun _=>False) (fun _ h=>h.elim) (fun _ h=>h) (fun b' hb'=>?_) (fP (dm (fun t ht=>hall t (by simp [K.tys,ht]))) g2))
      have hm:=ou hb'
      exact ho b' (hp.mem_iff.2 (age _ hm)) (fun e=>(agp.1 nK).1 (e▸hm))
end
section
variable {P:Program} {T:iD} {cx:Cx} {σ:St} {α:dI} {F:List Nat} {a:Act} {w:World} {o:Oper} {d:Nat} {ws:List Wr} {r:Nat} {R:Root}
theorem QN (hT:dU P T) (H:Rel cx σ α F a w) (hd:o.dst=some d) (hdn:d<cx.nt) {c:Call} (ho:o.op=.call c) (hcb:c.callee=.builtin .append) {u v:AV} {t:TypeId} {e1:TypeId} {k1:K} (hl:dO cx σ α F w [u,v] (c.args.toList.map a.eval))
    (hat:c.argTypes[0]?=some t) (ht1:(c.argTypes[1]?).bind T.ty=some (.sl e1 k1)) (h:(TP T d t u v fun ws=>(.ret ws:Prog (List Wr))).ends σ ws):nJ P cx o a w (az ws σ):=by
  obtain ⟨x,y,hxy,hu,hv0⟩:=CW hl
  obtain ⟨t2,Q5,ht2⟩:=qy hT ht1
  unfold TP at h
  split at h
  · rename_i e kk r p n0 rb gb hty
    have ht:=hT.ty t _ hty
    obtain ⟨B,hrB,hvB,h⟩:=cz h
    rcases ay h with ⟨hc,h5⟩ | ⟨_,h5⟩
    · clear h
      simp only [afW,Bool.not_eq_true',aS] at hc
      obtain ⟨⟨⟨⟨⟨c1,c2⟩,c3⟩,c4⟩,c5⟩,c6⟩:=hc
      have hne:r≠rb:=fun e=>by rw [e] at c3; simp at c3
      have Oe:=jy c6
      cases hcB:bR B.k (.sl e kk) B.x with
      | none=>rw [hcB] at h5; exact h5.elim
      | some ys=>
        rw [hcB] at h5
        simp only at h5
        obtain ⟨R,hr,hv,h6⟩:=cz h5
        rcases ay h6 with ⟨hc2,h7⟩ | ⟨_,h7⟩
        · clear h5 h6
          simp only [afW] at hc2
          obtain ⟨⟨⟨q1,q2⟩,q3⟩,q4⟩:=hc2
          have hall:=jy q3
          cases hg:aO p R.k R.x with
          | none=>rw [hg] at h7; exact h7.elim
          | some dd=>
            rw [hg] at h7
            simp only at h7
            cases hck:bR dd.1 (.sl e kk) dd.2 with
            | none=>rw [hck] at h7; exact h7.elim
            | some xs=>
              rw [hck] at h7
              simp only at h7
              obtain ⟨ek,ey⟩:=bL hck
              obtain ⟨dk,dx⟩:=dd
              simp only at ek ey
              subst ek
              simp only at ey
              subst ey
              cases hz:dR p R.k R.x ⟨.sl e kk,xs⟩ with
              | none=>rw [hz] at h7; exact h7.elim
              | some z=>
                rw [hz] at h7
                simp only at h7
                obtain ⟨⟨hy1,hbd⟩,h8⟩:=h7
                obtain ⟨hfr,h9⟩:=fF h8
                rw [aA h9]
                obtain ⟨hkB,hVB⟩:=hv0 B hrB (afU c1)
                obtain ⟨ekB,eyB⟩:=bL hcB
                obtain ⟨H1,T1,hH,hcl⟩:=kill H hrB hkB hvB
                have hSr:Same σ α (aj σ rb bT) (jd α rb) r:=gI hne
                have hr1:=(hSr.live R).2 hr
                have htB:∀n,(rb,n)∉R.tags:=fun n hn=>by
                  have:=af5.1 q4 _ hn
                  simp at this
                have hv1:bn (aj σ rb bT) R:=⟨hv.1,by rw [kr htB]; exact hv.2⟩
                obtain ⟨fG,hown,cs,wh,hn,xY⟩:=hu R hr.1 hv (afU q1) _ hg
                have hn1:bE (hp w) p R.k ((jd α rb).hdr r) (dQ (jd α rb) R r)=some (cs,wh):=by rw [hSr.hdr,hSr.wh]; exact hn
                obtain ⟨fd,ok',fE,rest,mF,kP,hn',hpf,hd1,afc,_,uL,hwf,hgo⟩:=H1.place hr1 hv1 (own':=R.own) hg fG (fun t h=>h) hown
                rw [hn1] at hn'
                simp only [afQ,af1] at hn'
                obtain ⟨rfl,rfl⟩:=hn'
                have K1:=H1.roots r R hr1
                have hnd:=K1.nd
                rw [bV,kJ] at hnd
                have OG:=hpf.nodup hnd.2
                have KA:∀b∈fE,b∈(jd α rb).fo r:=fun b hb=>hpf.mem_iff.2 (afV _ (afV _ hb))
                have Ov:=(afX.1 (afX.1 OG).1).1
                have y8:∀b∈fE,b<w.heap.size:=fun b hb=>(K1.mine b (by rw [bV,eH]; exact .inr (KA b hb))).1
                have R9:∀b∈fE,b∉α.fo rb++F:=fun b hb=>H1.iB r R hr1 b (by rw [bV,eH]; exact .inr (KA b hb))
                have hhd:∃b n c,a.eval x=.slice b n c∧cs=[.slice b n c]:=by
                  have hO:=hd1
                  unfold Ow at hO
                  rw [if_pos (hall e (by simp [K.tys]))] at hO
                  obtain ⟨b,n,c,e1,_⟩:=hO
                  have hV1:=xY.1
                  rw [e1] at hV1
                  simp only [List.cons.injEq,and_true] at hV1
                  exact ⟨b,n,c,hV1.symm,e1⟩
                obtain ⟨b,n,cp,evx,rfl⟩:=hhd
                have hlen1 : @List.length (El kk) ys=1:=hy1
                have hOB:Ow (hp w) B.own (gV cx (aj σ rb bT) (jd α rb) (α.fo rb++F) w B.tags) (.sl e kk) ys (α.hdr rb) (α.fo rb):=by
                  have h0:=hH.ow hcl
                  exact uq ekB eyB h0
                have abT:VC (.sl e kk) (a.eval y) (α.hdr rb):=ekB▸hVB
                obtain ⟨news,hS,bz,hfl,Fb,Xz,hE⟩:=PD (P:=P) (u:=t2) (.inl ⟨_,ht2.sl.1⟩) ht.sl.2.1.eF abT (Oe e (by simp [K.tys])) hOB hH.nd
                rw [hlen1] at hS
                have hnl:news.length=kk.size:=by simpa using hS.nl
                have Us:0 < @List.length (El kk) ys:=by omega
                have hE0:=hE 0 Us
                have hseg:kL news kk.size 0=news:=by
                  unfold kL
                  simp only [Nat.zero_mul,List.drop_zero]
                  exact List.take_of_length_le (by omega)
                rw [hseg] at hE0
                generalize hfe:bz.getD 0 []=fe at hE0
                have Q8:∀b∈fe,b∈α.fo rb:=fun b hb=>Xz b (ou (by rw [hfe]; exact hb))
                have R8:fe.Nodup:=by
                  have:bz=[fe]:=by
                    cases bz with
                    | nil=>simp [hlen1] at hfl
                    | cons f l=>cases l with
                      | nil=>simp at hfe; rw [hfe]
                      | cons _ _=>simp [hlen1] at hfl
                  rw [this] at Fb
                  simpa using Fb
                obtain ⟨w',b1,o1,c1',arr,lo,hi,hrun,hos,hsz,hnc,hnx,hblk1,Xy,hsize,hcells,hoth,hcase⟩:=Lp (P:=P) (u:=t2) (ty:=o.type) (x:=a.eval y) ht hd1 (hall e (by simp [K.tys])) hS hbd
                obtain ⟨F',hF1,hF2,hF3,hF4⟩:∃F':List Nat,(∀b∈F',b∈α.fo rb++F∨(w.heap.size≤b∧b<w'.heap.size))∧F'.Nodup∧(∀b∈α.fo rb++F,b∈F')∧(b1=w.heap.size→w.heap.size<w'.heap.size→b1∈F'):=by
                  by_cases hs:w.heap.size<w'.heap.size
                  · refine ⟨w.heap.size :: (α.fo rb++F),fun b hb=>?_,agp.2 ⟨fun hm=>?_,H1.uU⟩,fun b hb=>age _ hb,fun e _=>by rw [e]; exact agn⟩
                    · rcases af2.1 hb with h | h
                      · exact .inr ⟨by omega,by omega⟩
                      · exact .inl h
                    · have:=(H1.fl _ hm).1; omega
                  · exact ⟨α.fo rb++F,fun b hb=>.inl hb,H1.uU,fun b hb=>hb,fun _ h=>absurd h hs⟩
                have Un:∀b∈fE,b∉F':=fun b hb hm=>by
                  rcases hF1 b hm with h | h
                  · exact R9 b hb h
                  · have:=y8 b hb; omega
                have OO:∀b',b'<w.heap.size→b'∉fE→hp w' b'=hp w b':=fun b' hlt hno=>hoth b' hlt (fun e=>by
                  rcases hcase with ⟨_,_,h,_⟩ | ⟨h,_⟩
                  · exact hno (e▸h)
                  · omega)
                have hP:oO cx (aj σ rb bT) (jd α rb) (α.fo rb++F) w r R p ⟨.sl e kk,xs⟩ R.own [.slice b n cp] wh fE rest ⟨.sl e kk,xs⟩ z R.tags [e] (K.sl e kk).tys R.keep fE F' [.slice b n cp] w':=by
                  have hnt:=H1.dh r R hr1.1
                  refine ⟨hz,rfl,fun _ h=>h,hos,hsz,fun b' hlt hne'=>?_,fun b' o' e'=>?_,fun _=>rfl,rfl, .inl (by simp),⟨fun _ h=>h,hnt.1,hnt.2.2⟩,fun b' hb'=>.inl hb',Ov,fun b' hb'=>(hF1 b' hb').imp id .inl,hF2,Un, .inl rfl, .inl rfl,fun _ q c0 w0 hpq OU hnq Vf=>?_,fun α' Tn hblk hval=>?_⟩
                  · refine .inr (.inl ?_)
                    by_cases e':b'=b1
                    · rcases hcase with ⟨_,_,h1,h2,_⟩ | ⟨h,_⟩
                      · exact ⟨e'▸h1,e,by simp,e'▸h2⟩
                      · omega
                    · exact absurd (hoth b' hlt e') hne'
                  · obtain ⟨m1,_,m2,⟨abo,te,l0,h0,m3,_⟩,_⟩:=mO H1 hr1 hv1 hg fG hown (by rw [hn1,e'])
                    have hlt:=(K1.mine b' m2).1
                    have hs:=OO b' hlt (hwf b' o' e')
                    exact ⟨m1.congr hs,gu.of_same _ _ m3 hs⟩
                  · cases q with
                    | nil=>
                      simp only [bE,afQ,af1] at hnq
                      exact ⟨trivial,[.slice b n cp],by simp only [bE]; rw [hnq.2]⟩
                    | cons s q=>
                      cases s with
                      | fD n=>exact hpq.elim
                      | idx i=>exact absurd (show e∈(K.sl e kk).tys by simp [K.tys]) (OU e (by simp [aa])).2
                  · rcases hcase with ⟨hb,_,h1,h2,h3⟩ | ⟨hb,_⟩
                    · rw [hb] at hd1 ⊢
                      refine Lg hall Ov hd1 h1 h3 (fun b' hb' hne'=>hoth b' (y8 b' hb') hne')
                    · exact fP (dm hall) (bq (ok:=fun _=>False) (ok':=fun _=>False) (fun _ h=>h.elim) (fun _ h=>h) (fun b' hb'=>hoth b' (y8 b' hb') (fun e=>by have:=y8 b' hb'; omega)) (fP (dm hall) hd1))
                obtain ⟨xE,hR2,hT2,hb2,UA,Ox⟩:=hgo hP
                have Re:aX d 0≠r:=fun e=>by have:=hr.1; rw [←e,hfr] at this; simp at this
                have hqB:aX d 0≠rb:=fun e=>by have:=hrB.1; rw [←e,hfr] at this; simp at this
                have hq0:(aj (aj σ rb bT) r (bG R z R.own R.tags [e] (K.sl e kk).tys R.keep)).roots (aX d 0)=none:=by
                  rw [bU _ _ Re,bU _ _ hqB]; exact hfr
                obtain ⟨Ri,QY,acd,ace,acf,acg⟩:∃(Ri:Value) (QY:List Nat),(∀b'∈QY,b'∈F')∧QY.Nodup∧
                    Ow (hp w') (e :: kk.tys) (fun _=>False) (Gg e kk) ((show List (El kk) from ys).getD 0 kk.zero,(([]:List Unit),())) (news++[Ri]) QY∧
                    ((b=some ⟨b1,o1,none⟩∧b1∈fE∧Ri=.slice none 0 0∧cp=c1')∨(Ri=.slice (some ⟨b1,o1,none⟩) 0 c1'∧b1∈QY∧(0<n→∃b0 o0,b=some ⟨b0,o0,none⟩∧b0∈fE∧∀i,i<n * kk.size→cellAt (hp w') b1 (o1+i)=cellAt (hp w') b0 (o0+i)))):=by
                  have R7:∀b'∈fe,b'<w.heap.size:=fun b' hb'=>(H1.fl b' (afV _ (Q8 b' hb'))).1
                  have Xw:∀b'∈fe,b'∉fE:=fun b' hb' h=>R9 b' h (afV _ (Q8 b' hb'))
                  have hy0:(show List (El kk) from ys).getD 0 kk.zero=@getElem (List (El kk)) Nat (El kk) _ _ ys 0 Us:=bZ Us
                  have YN:Ow (hp w') (e :: kk.tys) (fun _=>False) kk ((show List (El kk) from ys).getD 0 kk.zero) news fe:=by
                    rw [hy0]
                    have h1:=fP (ok':=fun _=>False) (dm (fun t ht=>Oe t (by simp [K.tys,ht]))) hE0
                    have h2:=bq (h':=hp w') (ok':=fun _=>False) (fun _ h=>h.elim) (fun _ h=>h) (fun b' hb'=>OO b' (R7 b' hb') (Xw b' hb')) h1
                    exact nV (fun t ht=>by rw [aJ.2 (age _ ht),Oe t (by simp [K.tys,ht])]) h2
                  rcases hcase with ⟨hb,hcc,h1,h2,h3⟩ | ⟨hb,hlt,hcp⟩
                  · refine ⟨.slice none 0 0,fe,fun b' hb'=>hF3 b' (afV _ (Q8 b' hb')),R8, ?_, .inl ⟨hb,h1,rfl,hcc⟩⟩
                    exact ⟨news,[.slice none 0 0],fe,[],rfl,by simp,YN,[.slice none 0 0],[],[],[],rfl,by simp,vM,rfl,rfl⟩
                  · refine ⟨.slice (some ⟨b1,o1,none⟩) 0 c1',fe++[b1],fun b' hb'=>?_,afX.2 ⟨R8,by simp,fun b' h1 b2 h2 e=>by
                        simp only [af9] at h2
                        subst h2
                        have:=R7 b' h1
                        omega⟩, ?_, .inr ⟨rfl,by simp,fun hn0=>?_⟩⟩
                    · rcases afZ.1 hb' with h | h
                      · exact hF3 b' (afV _ (Q8 b' h))
                      · simp only [af9] at h
                        rw [h]
                        exact hF4 hb hlt
                    · refine ⟨news,[.slice (some ⟨b1,o1,none⟩) 0 c1'],fe,[b1],rfl, .refl _,YN,[.slice (some ⟨b1,o1,none⟩) 0 c1'],[],[b1],[],rfl,by simp, ?_,rfl,rfl⟩
                      have hOs:Ow (hp w') (e :: kk.tys) (fun _=>False) (.sl e (.gap kk.size)) (show List (El (.gap kk.size)) from []) [.slice (some ⟨b1,o1,none⟩) 0 c1'] [b1]:=by
                        unfold Ow
                        rw [if_pos (aJ.2 agn)]
                        exact ⟨_,0,c1',rfl,rfl,agq _, .inr ⟨b1,o1,arr,lo,hi,rfl,hblk1,Xy,hsize,[],rfl,by simp,fun i hi'=>absurd hi' (Nat.not_lt_zero _)⟩⟩
                      exact hOs
                    · obtain ⟨b0,o0,z1,z2,z3⟩:=hcp hn0
                      have hs0:hp w' b0=hp w b0:=hoth b0 (y8 b0 z2) (fun e=>by have:=y8 b0 z2; omega)
                      exact ⟨b0,o0,z1,z2,fun i hi'=>by rw [z3 i hi',qJ hs0]⟩
                have hkq:(aI (Gg e kk) ((show List (El kk) from ys).getD 0 kk.zero,(([]:List Unit),())) (e :: kk.tys) [] .anon).kind=.anon:=rfl
                obtain ⟨A1,A2⟩:=Gc (R':=aI (Gg e kk) ((show List (El kk) from ys).getD 0 kk.zero,(([]:List Unit),())) (e :: kk.tys) [] .anon) hR2 hq0 (eO d 0) rfl (by simp [aI]) (fun t ht=>by simp [aI] at ht) (0,0) (news++[Ri]) QY []
                  (fun b' hb'=>by rw [gF hkq] at hb'; exact ⟨acd b' hb',by simp⟩) (by rw [gF hkq]; exact ace) (fun b' hb'=>by simp at hb') List.nodup_nil
                  (fun _=>bq (fun _ h=>h.elim) (fun _ h=>h.elim) (fun _ _=>rfl) acf) (by simp [aI,K.size,hnl]) (fun b' o' hb'=>by rw [tY hkq] at hb'; simp at hb')
                have KH:(Builtin.append_ #[t,t2] o.type #[a.eval x,a.eval y]).run P w=.ok (.slice (some ⟨b1,o1,none⟩) (n+1) c1') w':=by rw [evx]; exact hrun
                refine gT (x:=.one (.app r p (fV (e :: R.w)+fV ((K.sl e kk).tys++R.h)) (aX d 0))) A1 hd hdn (ku ho hcb hxy hat Q5 KH) ?_ ?_
                · intro R2 Ud XZ _ Q2 Ub _
                  rw [bU _ _ Re.symm,aH] at Ud
                  simp only [afQ] at Ud
                  subst Ud
                  obtain ⟨rfl,_⟩:=eD Ub
                  have hv2:bn (aj (aj σ rb bT) r (bG R z R.own R.tags [e] (K.sl e kk).tys R.keep)) (bG R z R.own R.tags [e] (K.sl e kk).tys R.keep):=by
                    refine ⟨XZ.1, ?_⟩
                    have h0:=XZ.2
                    rw [kr] at h0
                    · exact h0
                    · intro m hm
                      have hm':(aX d 0,m)∈R.tags:=hm
                      rcases (H.dh r R hr.1).1 _ hm' with h | ⟨Q,h1,_⟩
                      · simp only [eO] at h; simp at h
                      · simp only at h1; rw [hfr] at h1; simp at h1
                  have wD:=UA c5 hv2
                  have hd2:(aG xE (aX d 0) (0,0) (news++[Ri]) QY).hdr r=xE.hdr r:=upd_ne _ _ Re.symm
                  have hw2:dQ (aG xE (aX d 0) (0,0) (news++[Ri]) QY) (bG R z R.own R.tags [e] (K.sl e kk).tys R.keep) r=dQ xE (bG R z R.own R.tags [e] (K.sl e kk).tys R.keep) r:=by
                    unfold dQ; simp [aG,upd_ne _ _ Re.symm]
                  have hf2:(aG xE (aX d 0) (0,0) (news++[Ri]) QY).fo r=xE.fo r:=upd_ne _ _ Re.symm
                  obtain ⟨g1,g2,g3,g4⟩:=DV (h:=hp w') p c4 hg hz rfl
                  refine ⟨e,kk,xs,wh,b,n,cp,news,Ri,b1,o1,c1',arr,lo,hi,g1,g2,fun t ht=>?_,by rw [hd2,hw2]; exact wD,⟨rfl,rfl⟩,by simp [aG,upd_same],hnl,rfl,hnc,hblk1,Xy,hsize,hcells, ?_⟩
                  · have ht':t∈aa p z.1:=ht
                    rw [g3] at ht'
                    simp at ht'
                  · rcases acg with ⟨z1,z2,z3⟩ | ⟨z1,z2,z3⟩
                    · exact .inl ⟨z1,by rw [hf2]; exact Ox b1 z2,z3⟩
                    · refine .inr ⟨z1,by simp only [aG,upd_same]; exact z2,fun hn0=>?_⟩
                      obtain ⟨b0,o0,y1,y2,y3⟩:=z3 hn0
                      exact ⟨b0,o0,y1,by rw [hf2]; exact Ox b0 y2,y3⟩
                · refine ⟨⟨bG R z R.own R.tags [e] (K.sl e kk).tys R.keep, ?_, .inr (af6 _)⟩,_,aH ..⟩
                  rw [bU _ _ Re.symm,aH]
        · exact h7.elim
    · exact h5.elim
  · exact h.elim
end
section
variable {P:Program} {T:iD} {cx:Cx} {σ:St} {α:dI} {F:List Nat} {a:Act} {w:World} {o:Oper} {d:Nat} {ws:List Wr} {r:Nat} {R:Root}
theorem ET (hT:dU P T) (H:Rel cx σ α F a w) (hd:o.dst=none) {t:TypeId} {x y:Operand} (ho:o.op=.store t x y) {u:AV} {r n q:Nat} {p:List Stp} {k0:K} (hk0:T.ty t=some k0) (h1:bH cx σ α F w u (a.eval x)) (h2:nW σ u) (h3:bH cx σ α F w (.app r p n q) (a.eval y))
    (h:(yS k0 u r p n q fun ws=>(.ret ws:Prog (List Wr))).ends σ ws):nJ P cx o a w (az ws σ):=by
  have ht:=hT.ty t k0 hk0
  cases k0 with
  | sl e kk=>
    cases u with
    | ptr r' p' h0=>
      simp only [yS] at h
      rcases ay h with ⟨hc,h5⟩ | ⟨_,h5⟩
      · clear h
        simp only [afW,Bool.not_eq_true'] at hc
        obtain ⟨⟨⟨c1,c2⟩,c3⟩,c4⟩:=hc
        have hne:r≠q:=fun e=>by rw [e] at c4; simp at c4
        have er:=afU c1
        have Sa:p'.all Stp.nG=true:=MC c2 c3
        have ep:=G9 c2 (by rw [D5 c3,D5 Sa])
        subst er ep
        obtain ⟨Q,hrQ,Rl,h6⟩:=cz h5
        rcases ay h6 with ⟨hcQ,h7⟩ | ⟨_,h7⟩
        · clear h5 h6
          simp only [afW] at hcQ
          have Og:=jy hcQ.2
          cases Ui:bR Q.k (Gg e kk) Q.x with
          | none=>rw [Ui] at h7; exact h7.elim
          | some yq=>
            rw [Ui] at h7
            simp only at h7
            obtain ⟨R,hr,hv,h8⟩:=cz h7
            rcases ay h8 with ⟨hcR,h9⟩ | ⟨_,h9⟩
            · clear h7 h8
              simp only [afW] at hcR
              obtain ⟨⟨⟨⟨d1,d2⟩,d3⟩,d4⟩,d5⟩:=hcR
              have hall:=jy d4
              cases hg:aO p R.k R.x with
              | none=>rw [hg] at h9; exact h9.elim
              | some dd=>
                rw [hg] at h9
                simp only at h9
                cases hck:bR dd.1 (.sl e kk) dd.2 with
                | none=>rw [hck] at h9; exact h9.elim
                | some xs=>
                  rw [hck] at h9
                  simp only at h9
                  obtain ⟨ek,ey⟩:=bL hck
                  obtain ⟨dk,dx⟩:=dd
                  simp only at ek ey
                  subst ek
                  simp only at ey
                  subst ey
                  cases hz:dR p R.k R.x ⟨.sl e kk,(show List (El kk) from xs)++[(show El kk from yq.1)]⟩ with
                  | none=>rw [hz] at h9; exact h9.elim
                  | some z=>
                    rw [hz] at h9
                    rw [aA h9]
                    obtain ⟨e',YU,xs',wh,b,n',c,ce,hq,b1,o1,cc,arr,lo,hi,a1,a2,a3,a4,⟨a5,akd⟩,a6,a7,a8,a9,a10,a11,a12,a13,TN⟩:=h3 R hr.1 hv (afU d1) Q hrQ (afU hcQ.1)
                    rw [hg] at a1
                    simp only [afQ,Sigma.mk.injEq,K.sl.injEq] at a1
                    obtain ⟨⟨rfl,rfl⟩,a1⟩:=a1
                    have a1:=eq_of_heq a1
                    subst a1
                    obtain ⟨H1,T1,hH,hcl⟩:=kill H hrQ akd Rl
                    have hSr:Same σ α (aj σ q bT) (jd α q) r:=gI hne
                    have hr1:=(hSr.live R).2 hr
                    have OU:∀m,(q,m)∉R.tags:=fun m hm=>by
                      have:=af5.1 d5 _ hm
                      simp at this
                    have hv1:bn (aj σ q bT) R:=⟨hv.1,by rw [kr OU]; exact hv.2⟩
                    obtain ⟨_,cs,bA,oA,hn2,eA⟩:=h1.2 R hr.1 hv d3 a3 (by rw [hg]; rfl)
                    rw [a4] at hn2
                    simp only [afQ,af1] at hn2
                    obtain ⟨rfl,rfl⟩:=hn2
                    have hn1:bE (hp w) p R.k ((jd α q).hdr r) (dQ (jd α q) R r)=some ([.slice b n' c],some (bA,oA)):=by rw [hSr.hdr,hSr.wh]; exact a4
                    obtain ⟨ekQ,eyQ⟩:=bL Ui
                    have hOQ:Ow (hp w) Q.own (gV cx (aj σ q bT) (jd α q) (α.fo q++F) w Q.tags) (Gg e kk) yq (ce++[hq]) (α.fo q):=by
                      have h0:=uq ekQ eyQ (hH.ow hcl)
                      rw [a6] at h0
                      exact h0
                    obtain ⟨c1',c2',f1,f2,ec,hpq,Md,hO2⟩:=hOQ
                    have hlc:=cO Md
                    have hcc:=List.append_inj ec (by rw [a7,hlc])
                    obtain ⟨rfl,rfl⟩:=hcc
                    obtain ⟨c3',c4',f3,f4,ec2,acH,hO3,hO4⟩:=hO2
                    have hpn:=hpq.nodup hH.nd
                    have XM:=afX.1 hpn
                    have Ul:∀b'∈f1,b'∈α.fo q:=fun b' hb'=>hpq.mem_iff.2 (afV _ hb')
                    have abM:Ow (hp w) R.own (fun _=>False) kk yq.1 ce f1:=nV (fun t ht=>by rw [hall t (by simp [K.tys,ht]),Og t (age _ ht)]) (fP (dm (fun t ht=>Og t (age _ ht))) Md)
                    have Xl:b1∉f1∨b1∈α.fo r:=by
                      rcases TN with ⟨_,z2,_⟩ | ⟨z1,z2,_⟩
                      · exact .inr z2
                      · refine .inl fun hm=>?_
                        have hlen3:=cO hO3
                        have hc3:c3'=[hq]∧c4'=[]:=by
                          cases c3' with
                          | nil=>simp [K.size] at hlen3
                          | cons a l=>
                            simp only [List.cons_append,List.cons.injEq] at ec2
                            obtain ⟨rfl,h⟩:=ec2
                            have:=List.append_eq_nil_iff.1 h.symm
                            rw [this.1,this.2]
                            exact ⟨rfl,rfl⟩
                        rw [hc3.1,z1] at hO3
                        unfold Ow at hO3
                        rw [if_pos (Og e agn)] at hO3
                        obtain ⟨a',m',cm,g1,_,_,g4⟩:=hO3
                        simp only [List.cons.injEq,Value.slice.injEq,and_true] at g1
                        obtain ⟨rfl,rfl,rfl⟩:=g1
                        rcases g4 with ⟨g4,_⟩ | ⟨bb,q',_,_,_,g5,_,_,_,bz,_,g6,_⟩
                        · omega
                        · simp only [afQ,Addr.mk.injEq,and_true] at g5
                          obtain ⟨rfl,rfl⟩:=g5
                          exact XM.2.2 b1 hm b1 (acH.mem_iff.2 (afV _ (g6.mem_iff.2 agn))) rfl
                    have Ot:∀b'∈(jd α q).fo r,b'∉α.fo q++F:=fun b' hb'=>H1.iB r R hr1 b' (by rw [bV,eH]; exact .inr hb')
                    obtain ⟨w',r1,α',F',r2⟩:=Ic (P:=P) ht H1 hr1 hv1 hg hz a2 a3 hall hn1 (v:=.slice (some ⟨b1,o1,none⟩) (n'+1) cc) ⟨_,_,_,rfl⟩ (lw:=[eB R p,e]) (by simp) (fun fE ok hO hnd hsub=>by
                      have he:au e R.own=true:=hall e (by simp [K.tys])
                      unfold Ow at hO
                      rw [if_pos he] at hO
                      obtain ⟨a0,n2,c2,e1,e2,e3,hO⟩:=hO
                      simp only [List.cons.injEq,Value.slice.injEq,and_true] at e1
                      obtain ⟨rfl,rfl,rfl⟩:=e1
                      have e2:n'=@List.length (El kk) xs:=e2
                      obtain ⟨bz,hfl,hfs,hfn,hfe⟩:∃bz:List (List Nat),bz.length=@List.length (El kk) xs∧(∀b'∈bz.flatten,b'∈fE∧b'≠b1)∧bz.flatten.Nodup∧∀(i:Nat) (hi:i < @List.length (El kk) xs),∃ds,Cells (hp w) b1 (o1+i * kk.size) ds∧Ow (hp w) R.own ok kk (@getElem (List (El kk)) Nat (El kk) _ _ xs i hi) ds (bz.getD i []):=by
                        rcases hO with ⟨hc0,hf0⟩ | ⟨bb,q',jG,lo',hi',ea,hbk,hfz,hs,bz,hl,hp0,hO⟩
                        · have hx0 : @List.length (El kk) xs=0:=by omega
                          exact ⟨[],by simp [hx0],by simp,by simp,fun i hi=>by omega⟩
                        · have nK:=hp0.nodup hnd
                          have afb:bb∈(jd α q).fo r:=hsub bb (hp0.mem_iff.2 agn)
                          refine ⟨bz,hl,fun b' hb'=>⟨hp0.mem_iff.2 (age _ hb'),fun eb=>?_⟩,(agp.1 nK).2,fun i hi=>?_⟩
                          · subst eb
                            rcases TN with ⟨z1,_,_⟩ | ⟨_,z2,_⟩
                            · rw [z1] at ea
                              simp only [afQ,Addr.mk.injEq,and_true] at ea
                              rw [ea.1] at hb'
                              exact (agp.1 nK).1 hb'
                            · exact Ot b' (hsub b' (hp0.mem_iff.2 (age _ hb'))) (afV _ z2)
                          · obtain ⟨ds,g1,g2⟩:=hO i hi
                            refine ⟨ds, ?_,g2⟩
                            rcases TN with ⟨z1,_,_⟩ | ⟨_,_,z3⟩
                            · rw [z1] at ea
                              simp only [afQ,Addr.mk.injEq,and_true] at ea
                              rw [ea.1,ea.2]
                              exact g1
                            · obtain ⟨b0,o0,y1,_,y3⟩:=z3 (by omega)
                              rw [y1] at ea
                              simp only [afQ,Addr.mk.injEq,and_true] at ea
                              obtain ⟨rfl,rfl⟩:=ea
                              have hdl:=cO g2
                              intro j hj
                              rw [←g1 j hj,Nat.add_assoc,y3 (i * kk.size+j) (by
                                have hb2:(i+1) * kk.size≤n' * kk.size:=agm _ (by omega)
                                rw [Nat.add_mul,Nat.one_mul] at hb2
                                omega), ←Nat.add_assoc]
                      have Xm:b1∉f1:=by
                        rcases Xl with h | h
                        · exact h
                        · intro hm
                          exact Ot b1 (by rw [hSr.fo]; exact h) (afV _ (Ul b1 hm))
                      refine ⟨b1 :: (bz.flatten++f1),agp.2 ⟨fun hm=>?_,afX.2 ⟨hfn,XM.1,fun b' h1' b2 h2' eb=>?_⟩⟩,fun b' hb'=>?_, ?_⟩
                      · rcases afZ.1 hm with h | h
                        · exact (hfs b1 h).2 rfl
                        · exact Xm h
                      · subst eb
                        exact Ot b' (hsub b' (hfs b' h1').1) (afV _ (Ul b' h2'))
                      · rcases af2.1 hb' with h | h
                        · subst h
                          rcases TN with ⟨z1,_,_,z4⟩ | ⟨_,z2,_⟩
                          · refine .inl ?_
                            rcases hO with ⟨hc0,_⟩ | ⟨bb,q',_,_,_,ea,_,_,_,_,_,hp0,_⟩
                            · omega
                            · rw [z1] at ea
                              simp only [afQ,Addr.mk.injEq,and_true] at ea
                              rw [ea.1]
                              exact hp0.mem_iff.2 agn
                          · exact .inr (afV _ z2)
                        · rcases afZ.1 h with h | h
                          · exact .inl (hfs b' h).1
                          · exact .inr (afV _ (Ul b' h))
                      · have hOO:Ow (hp w) R.own (fun _=>False) (.sl e kk) (show List (El kk) from (show List (El kk) from xs)++[(show El kk from yq.1)]) [.slice (some ⟨b1,o1,none⟩) (n'+1) cc] (b1 :: (bz.flatten++f1)):=by
                          unfold Ow
                          rw [if_pos he]
                          have hlen:(@HAppend.hAppend (List (El kk)) (List (El kk)) (List (El kk)) _ xs [yq.1]).length=n'+1:=by rw [afY,e2]; rfl
                          refine ⟨_,n'+1,cc,rfl,hlen.symm,a9, .inr ⟨b1,o1,arr,lo,hi,rfl,a10,a11,a12,bz++[f1],by show (bz++[f1]).length=_; rw [afY,hfl,hlen,e2]; rfl,by simp,fun i hi'=>?_⟩⟩
                          have hi2:i<(@HAppend.hAppend (List (El kk)) (List (El kk)) (List (El kk)) _ xs [yq.1]).length:=hi'
                          rw [hlen] at hi2
                          rw [xW]
                          by_cases hi0:i < @List.length (El kk) xs
                          · obtain ⟨ds,g1,g2⟩:=hfe i hi0
                            rw [if_pos (by rw [hfl]; exact hi0)]
                            have hx:(show List (El kk) from (show List (El kk) from xs)++[(show El kk from yq.1)])[i]'hi'=@getElem (List (El kk)) Nat (El kk) _ _ xs i hi0:=List.getElem_append_left hi0
                            rw [hx]
                            exact ⟨ds,g1,fP (dm (fun t ht=>hall t (by simp [K.tys,ht]))) g2⟩
                          · have hin:i=n':=by omega
                            rw [if_neg (by rw [hfl]; exact hi0)]
                            have hx:(show List (El kk) from (show List (El kk) from xs)++[(show El kk from yq.1)])[i]'hi'=yq.1:=by
                              have:=@List.getElem_append_right (El kk) xs [yq.1] i (by omega) hi'
                              refine this.trans ?_
                              simp
                            rw [hx]
                            have XU:i - bz.length=0:=by omega
                            rw [XU]
                            exact ⟨ce,by rw [hin]; exact a13,abM⟩
                        exact hOO)
                    refine ⟨undef,w',α',F', .inr ⟨?_,rfl⟩, ?_⟩
                    · simp only [execOp,ho,eA,a8,agf,r1,af8,agl]
                    · rw [hd]
                      exact r2
            · exact h9.elim
        · exact h7.elim
      · exact h5.elim
    | _=>exact h.elim
  | _=>exact h.elim
theorem Gy (hT:dU P T) (H:Rel cx σ α F a w) (hd:o.dst=some d) (hdn:d<cx.nt) (h:(FN T o d fun ws=>(.ret ws:Prog (List Wr))).ends σ ws):nJ P cx o a w (az ws σ):=by
  unfold FN at h
  split at h
  · rename_i t ps ho
    obtain ⟨us,h1,h2⟩:=yU h
    rw [aA h2]
    exact Dh hT H hd hdn h1 ho
  · rename_i c ho
    split at h
    · rename_i hcb
      obtain ⟨vs,h1,h2,h⟩:=iN H h
      split at h
      · split at h
        · rename_i hat ht1
          exact QN hT H hd hdn ho hcb h1 hat ht1 h
        · exact h.elim
      · exact h.elim
    · exact h.elim
  · rename_i t x ho
    exact Gw hT H hd hdn ho h
  · exact h.elim
theorem Jh (hT:dU P T) (H:Rel cx σ α F a w) (hd:o.dst=none) {t:TypeId} {x y:Operand} (ho:o.op=.store t x y)
    (h:(dJ x fun u=>dJ y fun v=>J3 T t u v fun ws=>(.ret ws:Prog (List Wr))).ends σ ws):nJ P cx o a w (az ws σ):=by
  obtain ⟨u,h1,h2,h⟩:=bP H h
  obtain ⟨v,h3,h4,h⟩:=bP H h
  unfold J3 at h
  split at h
  · split at h
    · rename_i hk0
      exact EU hT H hd ho hk0 h1 h2 h3 h
    · exact h.elim
  · split at h
    · rename_i hk0
      exact ET hT H hd ho hk0 h1 h2 h3 h
    · exact h.elim
  · exact Ji hT H hd ho h1 h2 h3 h4 h
end
end
end Go.Proofs.Ytabnmpabdhmkoaa.Ow
