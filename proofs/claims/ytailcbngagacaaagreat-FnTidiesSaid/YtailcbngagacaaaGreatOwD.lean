/- A verified reading of translated code, part D of 7. No condition. -/
import Derived.Test.YtailcbngagacaaaGreatOwC
set_option linter.unusedSectionVars false
set_option linter.unusedVariables false
set_option linter.unusedSimpArgs false
namespace Go.Proofs.YtailcbngagacaaaGreat.Ow
section
open Go
variable [Fr]
def mF (news:List Value) (s i:Nat):List Value:=(news.drop (i * s)).take s
theorem pW {news:List Value} {s i m:Nat} (h:news.length=m * s) (hi:i<m):(mF news s i).length=s:=by
 unfold mF
 have:(i+1) * s<=m * s:=anL _ hi
 rw [aoO,aoP] at this
 simp
 omega
theorem kZ {news:List Value} {s i j:Nat} (hj:j<s):(mF news s i)[j]?=news[i * s+j]?:=by
 unfold mF
 rw [apy,aoi hj,apo]
theorem BF {bC yX:List (List Nat)} {i:Nat}:(bC++yX).getD i []=if i<bC.length then bC.getD i [] else yX.getD (i - bC.length) []:=by
 simp only [anr,List.getElem?_append]
 split <;> rfl
section
variable {P:Program} {T:jh} {w:World}
theorem IK {t u ty e:TypeId} {kk:K} (ht:fM P T t (.sl e kk)) {own:List TypeId} {ok:Nat->Prop} {wV yz:List (El kk)} {v0 x:Value} {wQ:List Nat} {bC:List (List Nat)} {news:List Value}
  (hO:Ow (hp w) own ok (.sl e kk) wV [v0] wQ) (hown:az e own=true) (hnd:(wQ++bC.flatten).Nodup) (hok:∀b,ok b->b∉wQ/\b<w.heap.size) (hlt:∀b∈wQ++bC.flatten,b<w.heap.size)
  (hS:Src P w kk.size u x yz.length news) (hfl:bC.length=yz.length) (hel:∀i (hi:i<yz.length),Ow (hp w) own ok kk yz[i] (mF news kk.size i) (bC.getD i []))
  (hb:(wV.length+yz.length) * T.bytes e<=140737488355328) :
  ∃v' w' dO,(Builtin.append_ #[t,u] ty #[v0,x]).run P w=.ok v' w'/\(w'.os=w.os/\w'.tape=w.tape/\w'.output=w.output)/\w.heap.size<=w'.heap.size/\
   (∀b,b<w.heap.size->hp w' b≠hp w b->b∈wQ/\qm (hp w) b=some e)/\(∀b∈dO,b∈wQ\/b∈bC.flatten\/(w.heap.size<=b/\b<w'.heap.size))/\dO.Nodup/\
   Ow (hp w') own ok (.sl e kk) (wV++yz) [v'] dO:=by
 have hsz:0<kk.size:=ht.sl.2.2.1
 have hnl:=hS.nl
 unfold Ow at hO
 rw [aoi hown] at hO
 obtain ⟨a,n,c,e1,e2,e3,hO⟩:=hO
 simp only [apr,an9] at e1
 subst e1
 have e2':n=wV.length:=e2
 have hnd':=anl.1 hnd
 by_cases hr:n+yz.length<=c
 ·have hrun:=tH (ty:=ty) ht hS (b:=a) (n:=n) hr
  rcases hO with ⟨hc0,hf0⟩ | ⟨b,o,arr,lo,hi,ea,hbk,hf,hs,vX,hl0,hp0,hO⟩
  ·have hx1:yz=[]:=aom (by omega)
   have hx0:wV=[]:=aom (by omega)
   subst hx1
   subst hx0
   have hnews:news=[]:=aom (by simpa using hnl)
   subst hnews
   have hn0:n=0:=by simpa using e2'
   subst hn0
   subst hc0
   have:(Builtin.append_ #[t,u] ty #[.slice a 0 0,x]).run P w=.ok (.slice a 0 0) w:=by
    rw [hrun]
    cases a <;> rfl
   exact ⟨_,w,[],this,⟨rfl,rfl,rfl⟩,anv _,fun b _ h=>absurd rfl h,fun b hb=>by simp at hb,an4,zi⟩
  ·subst ea
   have hle:(n+yz.length) * kk.size<=c * kk.size:=anL _ hr
   rw [aoO] at hle
   have hst:=kC (P:=P) (o:=o+n * kk.size) news hbk hf (by rw [hnl]; omega) hS.one
   simp only [Result.andThen,addr_add,hst] at hrun
   obtain ⟨s1,s2,kJ,s3,s4,s5,s6⟩:=qF b news w arr e (lo,hi) (o+n * kk.size) hbk (by rw [hnl]; omega)
   have s7:=nK b news w (o+n * kk.size)
   have hb0:b∈wQ:=hp0.mem_iff.2 (by simp)
   have rJ:=hp0.nodup hnd'.1
   have hne:∀b'∈vX.flatten++bC.flatten,b'≠b:=by
    intro b' hb' e
    subst e
    rcases ann.1 hb' with h | h
    ·exact (anN.1 rJ).1 h
    ·exact hnd'.2.2 b' hb0 b' h rfl
   have afx:∀b',ok b'->hp (w.setCells b (o+n * kk.size) news) b'=hp w b':=fun b' h=>s1 b' (fun e=>(hok b' h).1 (e▸hb0))
   refine ⟨_,_,b :: (vX.flatten++bC.flatten),hrun,s7,by omega, ?_, ?_, ?_, ?_⟩
   ·intro b' _ hne'
    by_cases e:b'=b
    ·subst e; exact ⟨hb0,by unfold qm; rw [hbk]⟩
    ·exact absurd (s1 b' e) hne'
   ·intro b' hb'
    rcases anq.1 hb' with h | h
    ·subst h; exact .inl hb0
    ·rcases ann.1 h with h | h
     ·exact .inl (hp0.mem_iff.2 (by simp [h]))
     ·exact .inr (.inl h)
   ·refine anN.2 ⟨fun h=>hne b h rfl,anl.2 ⟨(anN.1 rJ).2,hnd'.2.1,fun b1 h1 b2 h2 e=>hnd'.2.2 b1 (hp0.mem_iff.2 (by simp [h1])) b2 h2 e⟩⟩
   ·unfold Ow
    rw [aoi hown]
    refine ⟨_,_,_,rfl,by simp [e2'],hr, .inr ⟨b,o,kJ,lo,hi,rfl,s3,by rw [s4]; exact hf,by rw [s4]; exact hs,vX++bC,by simp [hl0,hfl],by simp,fun i hi=>?_⟩⟩
    have hi':i<wV.length+yz.length:=by simpa using hi
    rw [BF]
    by_cases hi0:i<wV.length
    ·obtain ⟨ds,h1,h2⟩:=hO i hi0
     have ajD:i<vX.length:=by rw [hl0]; exact hi0
     rw [aoi ajD]
     have hx:(wV++yz)[i]'hi=wV[i]:=apz hi0
     refine ⟨ds,fun j hj=>?_, ?_⟩
     ·have hdl:=cZ h2
      have hlt2:(i+1) * kk.size<=n * kk.size:=anL _ (by omega)
      rw [aoO,aoP] at hlt2
      have:=h1 j hj
      unfold cellAt at this ⊢
      rw [hbk] at this
      rw [s3]
      simp only at this ⊢
      rw [s6 _ (by rw [hnl]; omega)]
      exact this
     ·show Ow _ own ok kk ((wV++yz)[i]'hi) ds _
      rw [hx]
      exact bE afx (fun _ h=>h) (fun b' hb'=>s1 b' (hne b' (anj _ (rz hb')))) h2
    ·have hi1:i - wV.length<yz.length:=by omega
     rw [aok (by rw [hl0]; exact hi0)]
     have hx:(wV++yz)[i]'hi=yz[i - wV.length]:=apA (by omega)
     have hfe:i - vX.length=i - wV.length:=by rw [hl0]
     rw [hfe]
     refine ⟨mF news kk.size (i - wV.length),fun j hj=>?_, ?_⟩
     ·rw [pW hnl hi1] at hj
      unfold cellAt
      rw [s3,kZ hj]
      simp only
      have e4:o+i * kk.size+j=o+n * kk.size+((i - wV.length) * kk.size+j):=by
       have:i * kk.size=n * kk.size+(i - wV.length) * kk.size:=by rw [<-aoO]; congr 1; omega
       omega
      rw [e4]
      refine s5 _ ?_
      rw [hnl]
      have:(i - wV.length+1) * kk.size<=yz.length * kk.size:=anL _ hi1
      rw [aoO,aoP] at this
      omega
     ·show Ow _ own ok kk ((wV++yz)[i]'hi) _ _
      rw [hx]
      exact bE afx (fun _ h=>h) (fun b' hb'=>s1 b' (hne b' (ang _ (rz hb')))) (hel _ hi1)
 ·
  obtain ⟨olds,ho1,ho2,vX,hl0,hf0,hOe⟩:∃olds,olds.length=n * kk.size/\(Builtin.firstCells kk.size n (.slice a n c)).run P w.drew=.ok olds.toArray w.drew/\∃vX:List (List Nat),vX.length=wV.length/\((∀b∈vX.flatten,b∈wQ)/\vX.flatten.Nodup)/\
    ∀i (hi:i<wV.length),Ow (hp w) own ok kk wV[i] (mF olds kk.size i) (vX.getD i []):=by
   rcases hO with ⟨hc0,hf0⟩ | ⟨b,o,arr,lo,hi,ea,hbk,hf,hs,vX,hl0,hp0,hO⟩
   ·have hx0:wV=[]:=aom (by omega)
    subst hx0
    have hn0:n=0:=by simpa using e2'
    subst hn0
    refine ⟨[],by simp, ?_,[],rfl,⟨by simp,by simp⟩,fun i hi=>by simp at hi⟩
    cases a with
    | none=>exact apB w.drew kk.size 0 0 c
    | some ad=>exact apC (P:=P) w.drew kk.size 0 ad 0 c [] (by simp) (fun j v hj=>by simp at hj)
   ·subst ea
    have hle:n * kk.size<=c * kk.size:=anL _ e3
    have hrow:=wX (n:=n * kk.size) hbk (by omega:o+n * kk.size<=arr.size)
    have hrl:(nL (hp w) b o (n * kk.size)).length=n * kk.size:=by simp [nL]
    have rJ:=hp0.nodup hnd'.1
    refine ⟨nL (hp w) b o (n * kk.size),hrl, ?_,vX,hl0,⟨fun b' hb'=>hp0.mem_iff.2 (by simp [hb']),(anN.1 rJ).2⟩,fun i hi=>?_⟩
    ·refine apC (P:=P) w.drew kk.size n ⟨b,o,none⟩ n c _ hrl (fun j v hj=>?_)
     rw [addr_add,wu]
     have:=hrow j (by rw [hrl]; have:=(anZ.1 hj).1; rw [hrl] at this; exact this)
     rw [hj] at this
     exact this
    ·obtain ⟨ds,h1,h2⟩:=hO i hi
     have hdl:=cZ h2
     have:mF (nL (hp w) b o (n * kk.size)) kk.size i=ds:=by
      apply apD
      intro j
      by_cases hj:j<kk.size
      ·rw [kZ hj]
       have hlt2:(i+1) * kk.size<=n * kk.size:=anL _ (by omega)
       rw [aoO,aoP] at hlt2
       rw [<-hrow _ (by rw [hrl]; omega), <-aoK]
       exact h1 j (by omega)
      ·rw [aoQ (by rw [pW hrl (by omega)]; omega),aoQ (by omega)]
     rw [this]
     exact h2
  obtain ⟨nc,hnc,hrun⟩:=vQ (ty:=ty) ht hS ho2 hr (by rw [e2']; exact hb)
  have hnew:=o9 w.drew (.cells (olds.toArray++news.toArray++Builtin.zeroCells (pG kk).cells (nc - (n+yz.length))) e)
  have hold:∀b',b'<w.heap.size->hp (w.drew.alloc (.cells (olds.toArray++news.toArray++Builtin.zeroCells (pG kk).cells (nc - (n+yz.length))) e)) b'=hp w b':=fun b' h=>mW w.drew _ h
  have hws:w.drew.heap.size=w.heap.size:=rfl
  rw [hws] at hnew
  have hsz2:(w.drew.alloc (.cells (olds.toArray++news.toArray++Builtin.zeroCells (pG kk).cells (nc - (n+yz.length))) e)).heap.size=w.heap.size+1:=Array.size_push ..
  have hzl:(pG kk).cells.size=kk.size:=by
   rw [sJ ht.sl.2.1.shape]
   simpa using cZ (vU (h:=hp w) (own:=own) (ok:=ok) ht.sl.2.1.eY)
  have hall:∀b'∈vX.flatten++bC.flatten,b'<w.heap.size:=by
   intro b' hb'
   rcases ann.1 hb' with h | h
   ·exact hlt b' (anj _ (hf0.1 b' h))
   ·exact hlt b' (ang _ h)
  refine ⟨_,_,w.heap.size :: (vX.flatten++bC.flatten),hrun,⟨rfl,rfl,rfl⟩,by omega,fun b' hb' hne=>absurd (hold b' hb') hne, ?_, ?_, ?_⟩
  ·intro b' hb'
   rcases anq.1 hb' with h | h
   ·subst h; exact .inr (.inr ⟨anv _,by omega⟩)
   ·rcases ann.1 h with h | h
    ·exact .inl (hf0.1 b' h)
    ·exact .inr (.inl h)
  ·refine anN.2 ⟨fun h=>by have:=hall _ h; omega,anl.2 ⟨hf0.2,hnd'.2.1,fun b1 h1 b2 h2 e=>hnd'.2.2 b1 (hf0.1 b1 h1) b2 h2 e⟩⟩
  ·unfold Ow
   rw [aoi hown]
   refine ⟨_,_,_,rfl,by simp [e2'],hnc, .inr ⟨w.heap.size,0,_,0,0,rfl,hnew,zY.zero, ?_,vX++bC,by simp [hl0,hfl],by simp,fun i hi=>?_⟩⟩
   ·simp only [Array.size_append,apE,size_zeroCells,hzl,ho1,hnl, <-aoO]
    have:n+yz.length+(nc - (n+yz.length))=nc:=by omega
    rw [this]
    omega
   have hi':i<wV.length+yz.length:=by simpa using hi
   rw [BF]
   have hcell:∀q,q<(olds++news).length->cellAt (hp (w.drew.alloc (.cells (olds.toArray++news.toArray++Builtin.zeroCells (pG kk).cells (nc - (n+yz.length))) e))) w.heap.size (0+q)=(olds++news)[q]?:=by
    intro q hq
    unfold cellAt
    rw [hnew]
    simp only [anY]
    rw [apF (by simpa using hq)]
    simp
   by_cases hi0:i<wV.length
   ·rw [aoi (by rw [hl0]; exact hi0)]
    have hx:(wV++yz)[i]'hi=wV[i]:=apz hi0
    refine ⟨mF olds kk.size i,fun j hj=>?_, ?_⟩
    ·rw [pW ho1 (by omega)] at hj
     have hlt2:(i+1) * kk.size<=n * kk.size:=anL _ (by omega)
     rw [aoO,aoP] at hlt2
     rw [aoK,hcell _ (by rw [anm,ho1]; omega),aoI (by rw [ho1]; omega),kZ hj]
    ·show Ow _ own ok kk ((wV++yz)[i]'hi) _ _
     rw [hx]
     exact bE (fun b' h=>hold b' (hok b' h).2) (fun _ h=>h) (fun b' hb'=>hold b' (hall b' (anj _ (rz hb')))) (hOe i hi0)
   ·have hi1:i - wV.length<yz.length:=by omega
    rw [aok (by rw [hl0]; exact hi0)]
    have hx:(wV++yz)[i]'hi=yz[i - wV.length]:=apA (by omega)
    have hfe:i - vX.length=i - wV.length:=by rw [hl0]
    rw [hfe]
    refine ⟨mF news kk.size (i - wV.length),fun j hj=>?_, ?_⟩
    ·rw [pW hnl hi1] at hj
     have hlt2:(i - wV.length+1) * kk.size<=yz.length * kk.size:=anL _ hi1
     rw [aoO,aoP] at hlt2
     have e4:i * kk.size=n * kk.size+(i - wV.length) * kk.size:=by rw [<-aoO]; congr 1; omega
     rw [aoK,hcell _ (by rw [anm,ho1,hnl]; omega),aoJ (by rw [ho1]; omega),kZ hj]
     congr 1
     rw [ho1]
     omega
    ·show Ow _ own ok kk ((wV++yz)[i]'hi) _ _
     rw [hx]
     exact bE (fun b' h=>hold b' (hok b' h).2) (fun _ h=>h) (fun b' hb'=>hold b' (hall b' (ang _ (rz hb')))) (hel _ hi1)
end
end
section
open Go
variable [Fr]
section
variable {P:Program} {T:jh} {cx:Cx} {Z:St} {J:dP} {F:List Nat} {a:Act} {w:World}
theorem Xw {k l:K} (e:k=l) {x:El k} {y:El l} (ey:y=e▸x) {h:Heap} {ok:Nat->Prop} {cs:List Value} (H:Vw h ok k x cs):Vw h ok l y cs:=by subst e; subst ey; exact H
theorem tC {k l:K} (e:k=l) {x:El k} {y:El l} (ey:y=e▸x) {h:Heap} {own:List TypeId} {ok:Nat->Prop} {cs:List Value} {fo:List Nat} (H:Ow h own ok k x cs fo):Ow h own ok l y cs fo:=by subst e; subst ey; exact H
theorem KP {u:TypeId} {size n c bb q:Nat} (hu:(∃e',P.underlying u=some (.slice e'))\/P.underlying u=some .string) (Q:Nat->List Value->Prop)
  (hE:∀i,i<n->∃ds,ds.length=size/\Cells (hp w) bb (q+i * size) ds/\(∀v∈ds,v.oneCell'=true)/\Q i ds) :
  ∃news,Src P w size u (.slice (some ⟨bb,q,none⟩) n c) n news/\∀i,i<n->Q i (mF news size i):=by
 have hrl:(nL (hp w) bb q (n * size)).length=n * size:=by simp [nL]
 have hseg:∀i,i<n->∃ds,mF (nL (hp w) bb q (n * size)) size i=ds/\ds.length=size/\Cells (hp w) bb (q+i * size) ds/\(∀v∈ds,v.oneCell'=true)/\Q i ds:=by
  intro i hi
  obtain ⟨ds,hdl,h1,h2,h3⟩:=hE i hi
  refine ⟨ds, ?_,hdl,h1,h2,h3⟩
  apply apD
  intro j
  by_cases hj:j<size
  ·rw [kZ hj]
   have hlt2:(i+1) * size<=n * size:=anL _ (by omega)
   rw [aoO,aoP] at hlt2
   unfold nL
   rw [aoG,aoH (by omega)]
   have:=h1 j (by omega)
   simp only [an1]
   rw [<-aoK,this,ant (by omega)]
   rfl
  ·rw [aoQ (by rw [pW hrl hi]; omega),aoQ (by omega)]
 have hcell:∀j,j<n * size->cellAt (hp w) bb (q+j)=(nL (hp w) bb q (n * size))[j]?/\∀v,(nL (hp w) bb q (n * size))[j]?=some v->v.oneCell'=true:=by
  intro j hj
  have hk:0<size:=by
   rcases Nat.eq_zero_or_pos size with h | h
   ·rw [h] at hj; omega
   ·exact h
  have hi:j / size<n:=Nat.div_lt_of_lt_mul (by rw [Nat.mul_comm]; exact hj)
  have hm:j % size<size:=Nat.mod_lt _ hk
  obtain ⟨ds,s1,hdl,s2,s3,_⟩:=hseg _ hi
  have hjj:j / size * size+j % size=j:=by rw [Nat.mul_comm]; exact Nat.div_add_mod j size
  have h1:(nL (hp w) bb q (n * size))[j]?=ds[j % size]?:=by
   rw [<-s1,kZ hm,hjj]
  have h2:=s2 (j % size) (by omega)
  rw [aoK,hjj] at h2
  refine ⟨by rw [h2,h1],fun v hv=>?_⟩
  rw [h1] at hv
  exact s3 v (anV hv)
 refine ⟨nL (hp w) bb q (n * size),xD hu hrl (fun v hv=>?_) (fun _=>⟨bb,q,rfl,fun i hi=>(hcell i (by rw [hrl] at hi; exact hi)).1⟩),fun i hi=>?_⟩
 ·obtain ⟨j,hj,rfl⟩:=aoc.1 hv
  exact (hcell j (by rw [hrl] at hj; exact hj)).2 _ (ant hj)
 ·obtain ⟨ds,s1,_,_,_,s3⟩:=hseg i hi
  rw [s1]
  exact s3
theorem KX {u e:TypeId} {kk:K} {h:Heap} {ok:Nat->Prop} {xs:List (El kk)} {v:Value} {cs:List Value} (hu:(∃e',P.underlying u=some (.slice e'))\/P.underlying u=some .string) (hg:eY kk=true)
  (hh:h=hp w) (hv:VC (.sl e kk) v cs) (hV:Vw h ok (.sl e kk) xs cs) :
  ∃news,Src P w kk.size u v xs.length news/\∀i (hi:i<xs.length),Vw h ok kk xs[i] (mF news kk.size i):=by
 subst hh
 obtain ⟨b,n,c,e1,e2,e3,e4,e5⟩:=A9 hv hV
 subst e1
 subst e3
 by_cases h0:0<xs.length
 ·obtain ⟨bb,q,eb,hok,hel,hE⟩:=e5 h0
  subst eb
  obtain ⟨news,g1,g2⟩:=KP (P:=P) (w:=w) (n:=xs.length) (c:=c) (bb:=bb) (q:=q) hu (fun i ds=>∀hi:i<xs.length,Vw (hp w) ok kk xs[i] ds) (fun i hi=>by
   obtain ⟨ds,h1,h2⟩:=hE i hi
   exact ⟨ds,mh h2,h1,JQ hg h2,fun _=>h2⟩)
  exact ⟨news,g1,fun i hi=>g2 i hi hi⟩
 ·have hx:xs=[]:=aom (by omega)
  subst hx
  exact ⟨[],xD hu (by simp) (by simp) (fun h=>by simp at h),fun i hi=>by simp at hi⟩
theorem Wd {u e:TypeId} {kk:K} {own:List TypeId} {ok:Nat->Prop} {xs:List (El kk)} {v:Value} {cs:List Value} {fo:List Nat} (hu:(∃e',P.underlying u=some (.slice e'))\/P.underlying u=some .string) (hg:eY kk=true)
  (hv:VC (.sl e kk) v cs) (hown:az e own=true) (hO:Ow (hp w) own ok (.sl e kk) xs cs fo) (hnd:fo.Nodup) :
  ∃news,Src P w kk.size u v xs.length news/\∃bC:List (List Nat),bC.length=xs.length/\bC.flatten.Nodup/\(∀b∈bC.flatten,b∈fo)/\∀i (hi:i<xs.length),Ow (hp w) own ok kk xs[i] (mF news kk.size i) (bC.getD i []):=by
 unfold Ow at hO
 rw [aoi hown] at hO
 obtain ⟨b,n,c,e1,e2,e3,hO⟩:=hO
 obtain ⟨e5,_⟩:cs=[v]/\_:=hv
 rw [e1] at e5
 simp only [apr,an9] at e5
 subst e5
 have e2':n=xs.length:=e2
 subst e2'
 rcases hO with ⟨hc0,hf0⟩ | ⟨bb,q,arr,lo,hi,ea,hbk,hf,hs,vX,hl0,hp0,hO⟩
 ·have hx:xs=[]:=aom (by omega)
  subst hx
  exact ⟨[],xD hu (by simp) (by simp) (fun h=>by simp at h),[],rfl,by simp,by simp,fun i hi=>by simp at hi⟩
 ·subst ea
  have rJ:=hp0.nodup hnd
  obtain ⟨news,g1,g2⟩:=KP (P:=P) (w:=w) (n:=xs.length) (c:=c) (bb:=bb) (q:=q) hu (fun i ds=>∀hi:i<xs.length,Ow (hp w) own ok kk xs[i] ds (vX.getD i [])) (fun i hi=>by
   obtain ⟨ds,h1,h2⟩:=hO i hi
   exact ⟨ds,cZ h2,h1,JM hg h2,fun _=>h2⟩)
  exact ⟨news,g1,vX,hl0,(anN.1 rJ).2,fun b hb=>hp0.mem_iff.2 (by simp [hb]),fun i hi=>g2 i hi hi⟩
theorem UM {kk:K} {own own':List TypeId} {ok:Nat->Prop} {xs:List (El kk)} {news:List Value} {bC:List (List Nat)} (hfl:bC.length=xs.length) (hnd:bC.flatten.Nodup) (hsub:∀t∈kk.tys,az t own'=true->az t own=true)
  (hel:∀i (hi:i<xs.length),Ow (hp w) own ok kk xs[i] (mF news kk.size i) (bC.getD i [])) :
  ∃(yX:List (List Nat)) (Ae:List Nat),yX.length=xs.length/\(yX.flatten++Ae).Nodup/\(∀b∈yX.flatten++Ae,b∈bC.flatten)/\
   ∀i (hi:i<xs.length),Ow (hp w) own' (fun b=>ok b\/b∈Ae) kk xs[i] (mF news kk.size i) (yX.getD i []):=by
 suffices hs:∀(n:Nat),n<=xs.length->∃(yX:List (List Nat)) (Ae:List Nat),yX.length=n/\(bC.take n).flatten.Perm (yX.flatten++Ae)/\
   ∀i (_:i<n) (hi:i<xs.length),Ow (hp w) own' (fun b=>ok b\/b∈Ae) kk xs[i] (mF news kk.size i) (yX.getD i []) by
  obtain ⟨yX,Ae,h1,h2,h3⟩:=hs xs.length (anv _)
  rw [aoW (by omega)] at h2
  exact ⟨yX,Ae,h1,h2.nodup hnd,fun b hb=>h2.mem_iff.2 hb,fun i hi=>h3 i hi hi⟩
 intro n
 induction n with
 | zero=>intro _; exact ⟨[],[],rfl,by simp,fun i hi=>by omega⟩
 | succ n ih=>
  intro hn
  obtain ⟨yX,Ae,h1,h2,h3⟩:=ih (by omega)
  obtain ⟨f1,f2,p1,p2⟩:=uK (own':=own') hsub (hel n (by omega))
  refine ⟨yX++[f1],Ae++f2,by simp [h1], ?_,fun i hi hi'=>?_⟩
  ·rw [apj (by omega),apx]
   have e:[bC[n]'(by omega)].flatten=bC.getD n []:=by rw [dh (show n<bC.length by omega)]; simp
   rw [e]
   refine (h2.append p1).trans ?_
   simp only [apx,anB]
   refine aoD _ ?_
   simp only [aoa,aob,anJ]
   exact xA
  ·rw [BF,h1]
   by_cases h:i<n
   ·rw [aoi h]
    exact bE (fun _ _=>rfl) (fun b hb=>hb.imp id (fun h=>by simp [h])) (fun _ _=>rfl) (h3 i h hi')
   ·have:i=n:=by omega
    subst this
    rw [aok (by omega)]
    simp only [aps]
    exact bE (fun _ _=>rfl) (fun b hb=>hb.imp id (fun h=>by simp [h])) (fun _ _=>rfl) p2
def iC (P:Program) (cx:Cx) (Z:St) (J:dP) (F:List Nat) (a:Act) (w:World) (u e:TypeId) (kk:K) (v:Value) (s:u7 kk):Prop:=
 ∃dR F1 news,Rel cx (aB s.ws Z) dR F1 a w/\(∀q,q∉s.ws.flatMap Wr.tF->Same Z J (aB s.ws Z) dR q)/\(aB s.ws Z).slots=Z.slots/\(∀q,Z.roots q=none->(aB s.ws Z).roots q=none)/\(∀b∈F,b∈F1)/\
  fG (aB s.ws Z) s.tags/\Src P w kk.size u v s.xs.length news/\
  ∀own',(∀t∈kk.tys,az t own'=true->t∉s.bad)->∃(bC:List (List Nat)) (Ae:List Nat),bC.length=s.xs.length/\(bC.flatten++Ae).Nodup/\(∀b∈bC.flatten++Ae,b∈F1/\b∉F)/\
   ∀i (hi:i<s.xs.length),Ow (hp w) own' (fun b=>(jc cx (aB s.ws Z) dR F1 w s.tags b/\∃t∈s.bad,vo (hp w) b t)\/b∈Ae) kk s.xs[i] (mF news kk.size i) (bC.getD i [])
theorem F8 {n i:Nat}:(List.replicate n ([]:List Nat)).getD i []=[]:=by
 simp only [anr,List.getElem?_replicate]
 split <;> rfl
theorem vT (H:Rel cx Z J F a w) {u e:TypeId} {kk:K} {v:Value} {s:u7 kk} (hws:s.ws=[]) (tY:fG Z s.tags) {news:List Value} (hS:Src P w kk.size u v s.xs.length news)
  (hV:∀i (hi:i<s.xs.length),Vw (hp w) (jc cx Z J F w s.tags) kk s.xs[i] (mF news kk.size i)) (hbad:s.bad=kk.tys\/kk.flat=true\/s.xs=[]):iC P cx Z J F a w u e kk v s:=by
 refine ⟨J,F,news,by rw [hws]; exact H,by rw [hws]; exact fun q _=>mg ..,by rw [hws]; rfl,by rw [hws]; exact fun q h=>h,fun _ h=>h,by rw [hws]; exact tY,hS,fun own' ho=>?_⟩
 refine ⟨List.replicate s.xs.length [],[],by simp,by simp,by simp,fun i hi=>?_⟩
 rw [F8,hws]
 rcases hbad with h | h | h
 ·refine bE (fun _ _=>rfl) (fun b hb=>.inl (h▸hb)) (fun _ _=>rfl) (qi (fun t ht=>?_) (E8 kk.tys (fun _ h=>h) (hV i hi)))
  cases hm:az t own' with
  | false=>rfl
  | true=>exact absurd (h▸ht) (ho t ht hm)
 ·exact qi (fun t ht=>by rw [xq h] at ht; simp at ht) (jA h (hV i hi))
 ·rw [h] at hi; simp at hi
theorem M8 {A:Type} {z:A} (H:Rel cx Z J F a w) {u e:TypeId} {kk:K} {x:AV} {v:Value} {k:u7 kk->Prog A} (hu:(∃e',P.underlying u=some (.slice e'))\/P.underlying u=some .string) (hg:eY kk=true)
  (hx:bN cx Z J F w x v) (hw:qM Z x) (h:(WB e kk x k).ends Z z):∃s:u7 kk,(k s).ends Z z/\iC P cx Z J F a w u e kk v s:=by
 have wC:(uB x fun k' y tags=>match bQ k' (.sl e kk) y with
   | some xs=>k ⟨xs,kk.tys,bif kk.flat then [] else tags,[],false,[]⟩
   | none=>.fail).ends Z z->∃s:u7 kk,(k s).ends Z z/\iC P cx Z J F a w u e kk v s:=by
  intro h
  obtain ⟨k',y,Tg,cs,h1,h2,h3,h4⟩:=uT H hx hw h
  cases hc:bQ k' (.sl e kk) y with
  | none=>rw [hc] at h4; exact h4.elim
  | some xs=>
   rw [hc] at h4
   obtain ⟨ek,ey⟩:=bF hc
   subst ek
   simp only at ey
   subst ey
   obtain ⟨news,g1,g2⟩:=KX (P:=P) (u:=u) (xs:=xs) hu hg rfl h1 h2
   cases hf:kk.flat with
   | true=>
    rw [hf] at h4
    exact ⟨_,h4,vT H rfl (fun t ht=>by simp at ht) g1 (fun i hi=>jA hf (g2 i hi)) (.inr (.inl hf))⟩
   | false=>
    rw [hf] at h4
    exact ⟨_,h4,vT H rfl h3 g1 g2 (.inl rfl)⟩
 cases x with
 | val k1 y Tg=>
  cases k1 with
  | str=>
   simp only [WB] at h
   cases h1:bQ (.int .u8) kk (0:Int) with
   | none=>rw [h1] at h; exact h.elim
   | some q=>
    rw [h1] at h
    obtain ⟨ek,_⟩:=bF h1
    subst ek
    simp only at h
    cases h2:bQ (.sl e (.int .u8)) (.sl e (.int .u8)) (show List Int from y) with
    | none=>rw [h2] at h; exact h.elim
    | some xs=>
     rw [h2] at h
     obtain ⟨_,ey⟩:=bF h2
     simp only at ey
     subst ey
     obtain ⟨B,e1,e2⟩:=wI hx
     subst e1
     have hlen:(bytesOf B).length=B.size:=mH B
     have hS:=Pf (P:=P) (w:=w) (u:=u) (B:=B) hu
     subst e2
     refine ⟨_,h,vT H rfl (fun t ht=>by simp at ht) (news:=B.data.toList.map fun b=>.int .u8 b.toNat) ?_ (fun i hi=>?_) (.inr (.inl rfl))⟩
     ·show Src P w 1 u _ (bytesOf B).length _
      rw [hlen]
      exact hS
     ·have hi':i<B.size:=by
       have:i<(bytesOf B).length:=hi
       rw [hlen] at this; exact this
      have hseg:mF (B.data.toList.map fun b=>Value.int .u8 b.toNat) (K.int .u8).size i=[.int .u8 (B.data.toList[i]'(by simpa using hi')).toNat]:=by
       apply apD
       intro j
       show (mF (B.data.toList.map fun b=>Value.int .u8 b.toNat) 1 i)[j]?=_
       cases j with
       | zero=>rw [kZ (by omega)]; simp [hi']
       | succ j=>rw [aoQ (by rw [pW (m:=B.size) (by simp) hi']; omega)]; simp
      rw [hseg]
      have he:(bytesOf B)[i]'hi=((B.data.toList[i]'(by simpa using hi')).toNat:Int):=by simp [bytesOf]
      refine ⟨?_, ?_⟩
      ·show [Value.int .u8 _]=[Value.int .u8 _]
       congr 2
       exact he.symm
      ·show GV .u8 _
       have:GV .u8 ((B.data.toList[i]'(by simpa using hi')).toNat:Int):=⟨by omega,by have:=(B.data.toList[i]'(by simpa using hi')).toNat_lt; omega⟩
       exact he▸this
  | _=>exact wC h
 | jy=>
  obtain ⟨b,rfl⟩:=hx
  exact ⟨_,h,vT H rfl (fun t ht=>by simp at ht) (news:=[]) (xD hu (by simp) (by simp) (fun h=>by simp at h)) (fun i hi=>by simp at hi) (.inr (.inr rfl))⟩
 | ref r g=>
  simp only [WB] at h
  obtain ⟨R,hr,hv,h⟩:=bU h
  rcases ay h with ⟨hg1,h⟩ | ⟨_,h⟩
  ·have hgg:=ani hg1
   obtain ⟨hkind,Au⟩:=hx R hr hgg
   cases hc:bQ R.k (.sl e kk) R.x with
   | none=>rw [hc] at h; exact h.elim
   | some xs=>
    rw [hc] at h
    simp only at h
    obtain ⟨ek,ey⟩:=bF hc
    have K:=H.roots r R hr
    have hO:=K.ow hv
    have abl:=oG H hr hO (fun b hb=>hb)
    cases hf:kk.flat with
    | true=>
     rw [hf] at h
     have Gc:Vw (hp w) (jc cx Z J F w (R.out r R.k)) (.sl e kk) xs (J.hdr r):=Xw ek ey abl
     obtain ⟨news,g1,g2⟩:=KX (P:=P) (u:=u) (xs:=xs) hu hg rfl (ek▸Au) Gc
     exact ⟨_,h,vT H rfl (fun t ht=>by simp at ht) g1 (fun i hi=>jA hf (g2 i hi)) (.inr (.inl hf))⟩
    | false=>
     rw [hf] at h
     simp only [an3] at h
     rcases ay h with ⟨_,h⟩ | ⟨_,h⟩
     ·exact h.elim
     ·obtain ⟨H1,T1,hh,hcl⟩:=kill H hr hkind hv
      have R3:Ow (hp w) R.own (jc cx (au Z r bT) (fI J r) (J.fo r++F) w R.tags) (.sl e kk) xs (J.hdr r) (J.fo r):=tC ek ey (hh.ow hcl)
      have ae2:VC (.sl e kk) v (J.hdr r):=ek▸Au
      have hsame:∀q,q∉([Wr.r r none]:List Wr).flatMap Wr.tF->Same Z J (au Z r bT) (fI J r) q:=fun q hq=>gV (by simpa [Wr.tF] using hq)
      have hnone:∀q,Z.roots q=none->(au Z r bT).roots q=none:=fun q hq=>by
       rw [bP]
       ·exact hq
       ·intro e; rw [e,hr.1] at hq; simp at hq
      have Et:∀b∈J.fo r,b∉F:=fun b hb=>H.iY r R hr b (ang _ hb)
      cases hme:az e R.own with
      | true=>
       obtain ⟨news,g1,bC,g2,g3,g4,g5⟩:=Wd (P:=P) (u:=u) hu hg ae2 hme R3 hh.nd
       rw [hme] at h
       simp only [an0,ao2] at h
       refine ⟨_,h,fI J r,J.fo r++F,news,H1,hsame,rfl,hnone,fun b hb=>ang _ hb, ?_,g1,fun own' ho=>?_⟩
       ·intro t ht
        simp only at ht
        cases hal:(kk.tys.all fun t=>az t R.own) with
        | true=>rw [hal] at ht; simp at ht
        | false=>rw [hal] at ht; exact hh.wt t ht
       ·simp only at ho ⊢
        have g5':∀i (hi:i<List.length xs),Ow (hp w) R.own (fun b=>jc cx (au Z r bT) (fI J r) (J.fo r++F) w (bif (kk.tys.all fun t=>az t R.own) then [] else R.tags) b/\∃t∈aV R.own kk,vo (hp w) b t) kk xs[i] (mF news kk.size i) (bC.getD i []):=by
         intro i hi
         cases hal:(kk.tys.all fun t=>az t R.own) with
         | false=>exact rQ _ (fun _ h=>h) (g5 i hi)
         | true=>exact gI (dH (jw hal)) (g5 i hi)
        obtain ⟨yX,Ae,f1,f2,f3,f4⟩:=UM (own':=own') g2 g3 (fun t ht hm=>(zF (own:=R.own) ht).resolve_left (fun hx=>ho t ht hm hx)) g5'
        exact ⟨yX,Ae,f1,f2,fun b hb=>⟨anj _ (g4 b (f3 b hb)),Et b (g4 b (f3 b hb))⟩,f4⟩
      | false=>
       have hO2:=R3
       unfold Ow at hO2
       rw [hme] at hO2 h
       simp only [anh,aog] at hO2
       simp only [an3,Bool.false_and] at h
       obtain ⟨news,g1,g2⟩:=KX (P:=P) (u:=u) (xs:=xs) hu hg rfl ae2 hO2.2
       refine ⟨_,h,fI J r,J.fo r++F,news,H1,hsame,rfl,hnone,fun b hb=>ang _ hb,hh.wt,g1,fun own' ho=>?_⟩
       refine ⟨List.replicate (List.length xs) [],[],by simp,by simp,by simp,fun i hi=>?_⟩
       rw [F8]
       refine bE (fun _ _=>rfl) (fun b hb=>.inl hb) (fun _ _=>rfl) (qi (fun t ht=>?_) (E8 kk.tys (fun _ h=>h) (g2 i hi)))
       cases hm:az t own' with
       | false=>rfl
       | true=>exact absurd ht (ho t ht hm)
  ·exact h.elim
 | rH r p n=>exact wC h
 | undef=>exact wC h
 | ptr r p n=>exact wC h
 | jE bt k y T=>exact wC h
 | FM _ _ _ _=>exact wC h
 | yI _=>exact wC h
 | part _ _ _ _ _=>exact wC h
 | wT _ _ _ _=>exact wC h
 | sub _ _ _ _ _ _=>exact wC h
 | sel _ _ _ _ _ _=>exact wC h
 | app _ _ _ _=>exact wC h
 | rA=>exact wC h
 | fn f cs=>exact wC h
end
end
section
open Go
variable [Fr]
section
variable {P:Program} {T:jh} {cx:Cx} {Z:St} {J:dP} {F:List Nat} {a:Act} {w:World} {o:Oper} {d:Nat} {ws:List Wr} {r:Nat} {R:Root}
theorem agc (H:Rel cx Z J F a w) (hr:aQ Z r R) (hv:bB Z R) (hk:R.kind=.anon) {R':Root} (hk':R'.kind=.anon) {e:TypeId} (hw:R'.w=e :: R.w) (hh:R'.h=qh :: e :: R.h) (hg:R'.g=R.g+1) (hev:R'.ew=R.ew/\R'.eh=R.eh)
  (tY:fG Z R'.tags/\∀n,(r,n)∉R'.tags) {w':World} (hos:w'.os=w.os/\w'.tape=w.tape/\w'.output=w.output) (hsize:w.heap.size<=w'.heap.size) {dO:List Nat}
  (Nk:∀b,b<w.heap.size->hp w' b≠hp w b->b∈F\/(b∈J.fo r/\qm (hp w) b=some e)) (afX:∀b∈dO,b∈J.fo r\/b∈F\/(w.heap.size<=b/\b<w'.heap.size)) (hnd:dO.Nodup)
  {hdr':List Value} (hlen:hdr'.length=R'.k.size) (how:Ow (hp w') R'.own (jc cx (au Z r R') (aG J r (J.loc r) hdr' dO) [] w' R'.tags) R'.k R'.x hdr' dO) {v':Value} (hv':VC R'.k v' hdr') :
  Rel cx (au Z r R') (aG J r (J.loc r) hdr' dO) [] a w'/\bN cx (au Z r R') (aG J r (J.loc r) hdr' dO) [] w' (.ref r R'.g) v':=by
 have hblk:blk J R r=J.fo r:=by simp [blk,dY,hk]
 have hd':R'.bg=false:=by simp [Root.bg,hk']
 have T1:yN cx Z J F w r R R' dO [] w' [e] [qh,e]:=by
  refine ⟨.inr ⟨hw,hh,by omega,hk'.trans hk.symm,fun h=>by rw [hk] at h; simp at h, .inl (by simp)⟩,tY,hos,hsize,fun b hb hne=>?_,fun _ b hb=>?_,fun b hb=>by simp at hb,an4,fun _ b _ h=>by simp at h,fun j pi b o n hj hb hrj hne=>?_,fun _=>hev⟩
  ·rcases Nk b hb hne with h | ⟨h1,h2⟩
   ·exact .inl h
   ·exact .inr ⟨by rw [hblk]; exact h1, .inr (.inl ⟨e,by simp,h2⟩)⟩
  ·rw [gD hk'] at hb
   rw [hblk]
   exact afX b hb
  ·obtain ⟨Q,hQ,hkq,_,_⟩:=H.mE j pi b o n hj hb
   have hQR:Q=R:=by have:=hQ.1; rw [<-hrj,hr.1] at this; simpa using this.symm
   rw [hQR,hk] at hkq
   simp at hkq
 refine ⟨T1.rel H hr (fun _=>⟨fun _=>how,hlen,fun b o hb=>by rw [uY hk'] at hb; simp at hb,by rw [gD hk']; exact hnd⟩) ?_ ?_, ?_⟩
 ·intro _ p n v hn hold
  refine ⟨hold.1,fun Q hQ Kr hcl hty hs=>?_⟩
  rw [aI] at hQ
  simp only [ane] at hQ
  subst hQ
  cases p with
  | nil=>
   obtain ⟨_,cs,b,o,h1,_⟩:=hold.2 R hr.1 hv (by simp [clean,eT,az]) (fun t ht=>by simp [ah] at ht) rfl
   simp only [bH,ane,anp] at h1
   have:dY J R r=none:=by simp [dY,hk]
   rw [this] at h1
   simp at h1
  | cons s p=>
   have e1:R'.h=[qh,e]++R.h:=hh
   rw [e1,o7 hn] at hcl
   exact absurd (show qh∈eT (s :: p) R'.k from anM) (hcl.1 qh (by simp))
 ·intro _ g v hgl hold Q hQ hgQ
  obtain ⟨rfl,_⟩:=eP hQ
  omega
 ·intro Q hQ _
  obtain ⟨rfl,_⟩:=eP hQ
  refine ⟨hk', ?_⟩
  simp only [aG,upd_same]
  exact hv'
theorem QA (H:Rel cx Z J F a w) {w':World} (hs:w.heap.size<=w'.heap.size) {Tg Tg':List Tag} {dO:List Nat} {b:Nat} (hb:jc cx Z J F w Tg b\/b∈F) (ht:∀t∈Tg,t∈Tg') (hfo:b∉dO):jc cx Z J dO w' Tg' b:=by
 rcases hb with hb | hb
 ·exact ⟨an5 hb.1 hs,hfo,hb.2.2.1,fun q Q hq hbq=>(hb.2.2.2.1 q Q hq hbq).imp fun n hn=>ht _ hn,fun h0=>(hb.2.2.2.2 h0).imp (fun ⟨j,n,h1,h2⟩=>⟨j,n,ht _ h1,h2⟩) id⟩
 ·have hm:=H.fl b hb
  refine ⟨an5 hm.1 hs,hfo,rO H hb,fun q Q hq hbq=>absurd hb (H.iY q Q hq b hbq),fun h0=>?_⟩
  rcases hm.2 with h | ⟨j,pi,h1,h2⟩
  ·omega
  ·exact .inr ⟨j,pi,h1,h2⟩
theorem ku {c:Call} (ho:o.op=.call c) (hb:c.callee=.builtin .append) {x y:Operand} (ha:c.args.toList=[x,y]) {t u:TypeId} (ht:c.argTypes[0]?=some t) (hu:c.argTypes[1]?=some u) {v':Value} {w':World}
  (h:(Builtin.append_ #[t,u] o.type #[a.eval x,a.eval y]).run P w=.ok v' w'):(execOp a.eval o).run P w=.ok (.value v') w':=by
 obtain ⟨cc,hcc⟩:=jW (P:=P) (a:=a) (w:=w) ho hb
 rw [hcc]
 have h1:c.args.map a.eval=#[a.eval x,a.eval y]:=by
  apply aod
  rw [apG,ha]
  rfl
 have h2:Builtin.append_ c.argTypes o.type #[a.eval x,a.eval y]=Builtin.append_ #[t,u] o.type #[a.eval x,a.eval y]:=by
  unfold Builtin.append_
  simp only [ht,hu]
  rfl
 rw [h1]
 simp only [builtin,anF,h2,h,anx,anK]
end
end
section
open Go
variable [Fr]
section
variable {P:Program} {T:jh} {cx:Cx} {Z:St} {J:dP} {F:List Nat} {a:Act} {w:World} {o:Oper} {d:Nat} {ws:List Wr}
theorem Fe (hT:eG P T) {Z1:St} {dR:dP} {F1:List Nat} (H1:Rel cx Z1 dR F1 a w) (hd:o.dst=some d) (hdn:d<cx.nt) {c:Call} (ho:o.op=.call c) (hcb:c.callee=.builtin .append) {x y:Operand} (ha:c.args.toList=[x,y])
  {t u e:TypeId} {kk:K} (ht0:c.argTypes[0]?=some t) (hu0:c.argTypes[1]?=some u) (hty:T.ty t=some (.sl e kk)) (hn1:Z1.roots (aY d 0)=none)
  {own:List TypeId} {tags T1 T2:List Tag} {bad:List TypeId} {wV yz:List (El kk)} {v0:Value} {wQ fd:List Nat} {bC:List (List Nat)} {Ae:List Nat} {news:List Value} (hv0:a.eval x=v0) (hS:Src P w kk.size u (a.eval y) yz.length news)
  (hown:az e own=true) (hob:∀t,az t own=true->t∉bad) (hwt:fG Z1 tags) (ht1:∀t∈T1,t∈tags) (ht2:∀t∈T2,t∈tags)
  (hO:Ow (hp w) own (fun b=>jc cx Z1 dR F1 w T1 b\/b∈fd) (.sl e kk) wV [v0] wQ) (Zf:∀b∈wQ++fd,b∈F1) (rJ:(wQ++fd).Nodup) (hF1:∀b∈bC.flatten++Ae,b∈F1/\b∉wQ++fd) (BI:(bC.flatten++Ae).Nodup)
  (hfl:bC.length=yz.length) (hel:∀i (hi:i<yz.length),Ow (hp w) own (fun b=>((jc cx Z1 dR F1 w T2 b\/b∈F1)/\∃t∈bad,vo (hp w) b t)\/b∈Ae) kk yz[i] (mF news kk.size i) (bC.getD i []))
  (hb:(wV.length+yz.length) * T.bytes e<=140737488355328) (kp:Bool) :
  pY P cx o a w (aB [.r (aY d 0) (some (aK (.sl e kk) (wV++yz) own tags .anon kp)), .s d (.one (.ref (aY d 0) 0))] Z1):=by
 have ht:=hT.ty t _ hty
 have n0:=anl.1 rJ
 have n1:=anl.1 BI
 have hlt:∀b∈F1,b<w.heap.size:=fun b h=>(H1.fl b h).1
 have abk:=tN hO
 have hnot:∀b,((jc cx Z1 dR F1 w T2 b\/b∈F1)/\∃t∈bad,vo (hp w) b t)->b∉wQ:=by
  rintro b ⟨_,t,h1,h2⟩ hb0
  obtain ⟨e',_,h3,h4⟩:=abk b hb0
  have h2:=H1.Po (H1.fl b (Zf b (anj _ hb0))) h2
  rw [h2] at h4
  simp only [ane] at h4
  subst h4
  exact hob _ h3 h1
 let ok:Nat->Prop:=fun b=>(jc cx Z1 dR F1 w T1 b\/b∈fd)\/((jc cx Z1 dR F1 w T2 b\/b∈F1)/\∃t∈bad,vo (hp w) b t)\/b∈Ae
 obtain ⟨v',w',dO,hrun,hos,hsz,BH,hfo,Kn,Gc⟩:=IK (w:=w) (ok:=ok) (u:=u) (ty:=o.type) (x:=a.eval y) (bC:=bC) ht (bE (fun _ _=>rfl) (fun b h=>.inl h) (fun _ _=>rfl) hO) hown
  (anl.2 ⟨n0.1,n1.1,fun b1 h1 b2 h2 e=>(hF1 b2 (anj _ h2)).2 (anj _ (e▸h1))⟩)
  (fun b hb=>by
   rcases hb with (h | h) | h | h
   ·exact ⟨fun h0=>h.2.1 (Zf b (anj _ h0)),h.1⟩
   ·exact ⟨fun h0=>n0.2.2 b h0 b h rfl,hlt b (Zf b (ang _ h))⟩
   ·refine ⟨hnot b h, ?_⟩
    rcases h.1 with h | h
    ·exact h.1
    ·exact hlt b h
   ·exact ⟨fun h0=>(hF1 b (ang _ h)).2 (anj _ h0),hlt b (hF1 b (ang _ h)).1⟩)
  (fun b hb=>by
   rcases ann.1 hb with h | h
   ·exact hlt b (Zf b (anj _ h))
   ·exact hlt b (hF1 b (anj _ h)).1)
  hS hfl (fun i hi=>bE (fun _ _=>rfl) (fun b h=>.inr h) (fun _ _=>rfl) (hel i hi)) hb
 have Et:∀b∈dO,b∈F1\/(w.heap.size<=b/\b<w'.heap.size):=by
  intro b hb
  rcases hfo b hb with h | h | h
  ·exact .inl (Zf b (anj _ h))
  ·exact .inl (hF1 b (anj _ h)).1
  ·exact .inr h
 have T2':=zM (w':=w') (F':=dO) H1 hos hsz (fun b h1 h2=>Zf b (anj _ (BH b h1 h2).1)) Et Kn
 have H2:=H1.mem T2'
 have Au:VC (.sl e kk) v' [v']:=⟨rfl,by
  unfold Ow at Gc
  rw [aoi hown] at Gc
  obtain ⟨b,n,c,e1,_⟩:=Gc
  simp only [apr,an9] at e1
  rw [e1]; simp⟩
 have hok:∀b,ok b->jc cx Z1 dR dO w' tags b:=by
  intro b hb
  have hnew:b<w.heap.size->¬(w.heap.size<=b/\b<w'.heap.size):=fun h=>by omega
  rcases hb with (h | h) | h | h
  ·refine QA H1 hsz (.inl h) ht1 (fun hb=>?_)
   rcases hfo b hb with h2 | h2 | h2
   ·exact h.2.1 (Zf b (anj _ h2))
   ·exact h.2.1 (hF1 b (anj _ h2)).1
   ·exact hnew h.1 h2
  ·have hF:=Zf b (ang _ h)
   refine QA H1 hsz (Tg:=[]) (.inr hF) (by simp) (fun hb=>?_)
   rcases hfo b hb with h2 | h2 | h2
   ·exact n0.2.2 b h2 b h rfl
   ·exact (hF1 b (anj _ h2)).2 (ang _ h)
   ·exact hnew (hlt b hF) h2
  ·refine QA H1 hsz h.1 ht2 (fun hb=>?_)
   have hlt':b<w.heap.size:=by
    rcases h.1 with h | h
    ·exact h.1
    ·exact hlt b h
   rcases hfo b hb with h2 | h2 | h2
   ·exact hnot b h h2
   ·obtain ⟨l,hl,hbl⟩:=aoB.1 h2
    obtain ⟨i,hi,rfl⟩:=aoc.1 hl
    have:=tN (hel i (by omega)) b (by rw [dh hi]; exact hbl)
    obtain ⟨e',_,h3,h4⟩:=this
    obtain ⟨_,t,h5,h6⟩:=h
    have h6:=H1.Po (H1.fl b (hF1 b (anj _ h2)).1) h6
    rw [h6] at h4
    simp only [ane] at h4
    subst h4
    exact hob _ h3 h5
   ·exact hnew hlt' h2
  ·have hF:=(hF1 b (ang _ h)).1
   refine QA H1 hsz (Tg:=[]) (.inr hF) (by simp) (fun hb=>?_)
   rcases hfo b hb with h2 | h2 | h2
   ·exact (hF1 b (ang _ h)).2 (anj _ h2)
   ·exact n1.2.2 b h2 b h rfl
   ·exact hnew (hlt b hF) h2
 obtain ⟨Bj,k1,k2⟩:=w9 (k:=.sl e kk) (x:=wV++yz) (own:=own) (tags:=tags) (v:=v') (cs:=[v']) (fo:=dO) (r:=aY d 0) (F':=[]) H2 hn1 (fE d 0)
  (fun b hb=>hb) Kn hwt (fun b hb=>by simp at hb) an4 rfl (fun _=>bE (fun _ _=>rfl) (fun b hb=>.inl (hok b hb)) (fun _ _=>rfl) Gc) Au kp
 exact iF (x:=.one (.ref (aY d 0) 0)) k1 hd hdn (ku ho hcb ha ht0 hu0 (by rw [hv0]; exact hrun)) k2 ⟨_,aI .., .inr (anO _)⟩
theorem DL {ws:List Wr} {tags:List Tag} (h:yO ws tags=true):∀t∈tags,t.1∉ws.flatMap Wr.tF:=fun t ht=>by
 have:=anu.1 h t ht
 simpa [aW] using this
theorem MJ {ws:List Wr} {r:Nat} (h:(ws.all fun w=>!w.loc.beq (.r r))=true):r∉ws.flatMap Wr.tF:=by
 intro hm
 obtain ⟨wr,h1,h2⟩:=anR.1 hm
 have:=anu.1 h wr h1
 cases wr with
 | s n x=>simp [Wr.tF] at h2
 | r n x=>
  simp only [Wr.tF,anz] at h2
  subst h2
  simp [Wr.loc,Loc.beq] at this
theorem Od (hT:eG P T) (H:Rel cx Z J F a w) (hd:o.dst=some d) (hdn:d<cx.nt) {c:Call} (ho:o.op=.call c) (hcb:c.callee=.builtin .append)
  (h:(kH c.args.toList fun
   | [a,b]=>match c.argTypes[0]?,(c.argTypes[1]?).bind T.ty with
    | some t,some (.sl _ _)=>zH T d t a b fun ws=>(.ret ws:Prog (List Wr))
    | some t,some .str=>zH T d t a b fun ws=>(.ret ws:Prog (List Wr))
    | _,_=>.fail
   | _=>.fail).ends Z ws):pY P cx o a w (aB ws Z):=by
 obtain ⟨vs,h1,h2,h⟩:=jJ H h
 obtain ⟨u,v,x,y,t,ut,hvs,ha,hx,hy,ht0,hu0,akb,h9⟩:∃u v x y t ut,vs=[u,v]/\c.args.toList=[x,y]/\bN cx Z J F w u (a.eval x)/\bN cx Z J F w v (a.eval y)/\c.argTypes[0]?=some t/\c.argTypes[1]?=some ut/\
   ((∃e',P.underlying ut=some (.slice e'))\/P.underlying ut=some .string)/\(zH T d t u v fun ws=>(.ret ws:Prog (List Wr))).ends Z ws:=by
  split at h
  ·rename_i u v
   have hargs:∃x y,c.args.toList=[x,y]/\bN cx Z J F w u (a.eval x)/\bN cx Z J F w v (a.eval y):=by
    revert h1
    generalize c.args.toList=l
    intro h1
    cases l with
    | nil=>exact h1.elim
    | cons x l=>
     cases l with
     | nil=>exact h1.2.elim
     | cons y l=>
      cases l with
      | nil=>exact ⟨x,y,rfl,h1.1,h1.2.1⟩
      | cons _ _=>exact h1.2.2.elim
   obtain ⟨x,y,e1,e2,e3⟩:=hargs
   split at h
   ·rename_i t e k e4 e5
    obtain ⟨ut,e6,e7⟩:=sG hT e5
    exact ⟨u,v,x,y,t,ut,rfl,e1,e2,e3,e4,e6, .inl ⟨_,e7.sl.1⟩,h⟩
   ·rename_i t e4 e5
    obtain ⟨ut,e6,e7⟩:=sG hT e5
    exact ⟨u,v,x,y,t,ut,rfl,e1,e2,e3,e4,e6, .inr e7.str,h⟩
   ·exact h.elim
  ·exact h.elim
 clear h
 have h:=h9
 clear h9
 subst hvs
 have hwu:=h2 u (by simp)
 have hwv:=h2 v (by simp)
 unfold zH at h
 cases hty:T.ty t with
 | none=>rw [hty] at h; exact h.elim
 | some k0=>
  rw [hty] at h
  cases k0 with
  | sl e kk=>
   have ht:=hT.ty t _ hty
   simp only at h
   obtain ⟨s,h8,dR,F1,news,H1,hsame,aj8,hnone,hFF,hwt,hS,hels⟩:=M8 (P:=P) (u:=ut) H akb ht.sl.2.1.eY hy hwv h
   clear h
   rcases ay h8 with ⟨_,h⟩ | ⟨hbad,h⟩
   ·exact h.elim
   clear h8
   cases u with
   | jy=>
    obtain ⟨b0,hv0⟩:=hx
    obtain ⟨hb,h⟩:=h
    obtain ⟨hn,h⟩:=fC h
    rw [aD h,bZ]
    have ho1:az e (e :: bM kk.tys s.bad)=true:=aM.2 (by simp)
    have ho2:∀t,az t (e :: bM kk.tys s.bad)=true->t∉s.bad:=fun t ht=>by
     rcases anq.1 (aM.1 ht) with h | h
     ·rw [h]; exact aW.1 hbad
     ·exact (dK.1 (aM.2 h)).2
    obtain ⟨bC,Ae,f1,f2,f3,f4⟩:=hels (e :: bM kk.tys s.bad) (fun t _ ht=>ho2 t ht)
    exact Fe hT H1 hd hdn ho hcb ha ht0 hu0 hty (hnone _ hn) (wV:=[]) (v0:=.slice b0 0 0) (wQ:=[]) (fd:=[]) (T1:=[]) (T2:=s.tags) (bad:=s.bad) hv0 hS ho1 ho2 hwt (by simp) (fun _ h=>h) zi (by simp) (by simp)
     (fun b hb=>⟨(f3 b hb).1,by simp⟩) f2 f1 (fun i hi=>bE (fun _ _=>rfl) (fun b hb=>hb.imp (fun h=>⟨.inl h.1,h.2⟩) id) (fun _ _=>rfl) (f4 i hi)) (by simpa using hb) s.keep
   | rH r p n=>
    obtain ⟨R,hr,hv,h⟩:=bU h
    rcases ay h with ⟨hc,h⟩ | ⟨_,h⟩
    ·simp only [ank] at hc
     obtain ⟨⟨⟨⟨⟨⟨⟨c1,c2⟩,c3⟩,c4⟩,c5⟩,c6⟩,c7⟩,c8⟩:=hc
     cases hg:aR p R.k R.x with
     | none=>rw [hg] at h; exact h.elim
     | some dd=>
      rw [hg] at h
      simp only at h
      cases hck:bQ dd.1 (.sl e kk) dd.2 with
      | none=>rw [hck] at h; exact h.elim
      | some xs=>
       rw [hck] at h
       cases hga:Af R p dd with
       | none=>rw [hga] at h; exact h.elim
       | some R'=>
        rw [hga] at h
        simp only at h
        obtain ⟨hb,h⟩:=h
        obtain ⟨hn,h⟩:=fC h
        rw [aD h,bZ]
        obtain ⟨ek,ey⟩:=bF hck
        unfold Af at hga
        cases hz:eF p R.k R.x (q8 dd) with
        | none=>rw [hz] at hga; simp at hga
        | some z=>
         rw [hz] at hga
         simp only [ane] at hga
         have eR:R'=fq R dd z:=by rw [<-hga]; rfl
         have hSr:=hsame r (MJ c7)
         have hr1:=(hSr.live R).2 hr
         have hv1:bB (aB s.ws Z) R:=⟨hv.1,by rw [fK (fun t ht=>(hsame t.1 (DL c8 t ht)).root)]; exact hv.2⟩
         obtain ⟨eZ,hown,cs0,WY,hn0,aaP⟩:=hx R hr.1 hv (ani c1) dd hg
         have hpv:p≠[]\/∃t,R.kind=.var t:=by
          rw [aol] at c3
          rcases c3 with h | h
          ·exact .inl (by simpa using h)
          ·refine .inr ?_
           unfold Root.isVar at h
           cases hk:R.kind with
           | var t=>exact ⟨t,rfl⟩
           | _=>rw [hk] at h; simp at h
         obtain ⟨cs1,nG,fT,rest,g1,g2,g3,g4,g5,g6⟩:=gap H1 hr1 hv1 hg hz eZ hown hpv
         rw [hSr.hdr,hSr.wh,hn0] at g1
         simp only [ane,anp] at g1
         obtain ⟨rfl,rfl⟩:=g1
         have hcl:bD (au (aB s.ws Z) r (fq R dd z)) (aV R.own dd.1) R.tags=true:=by
          rw [g5]
          exact ql hv1.2 (fun _ h=>h) (wK p hg hown)
         have hO0:=tC (y:=xs) ek ey (g4.ow hcl)
         have ho1:az e (bM ((e :: kk.tys).filter fun t=>az t R.own) s.bad)=true:=dK.2 ⟨aM.2 (anw.2 ⟨by simp,c5⟩),aW.1 hbad⟩
         have ho2:∀t,az t (bM ((e :: kk.tys).filter fun t=>az t R.own) s.bad)=true->t∉s.bad:=fun t ht=>(dK.1 ht).2
         obtain ⟨wQ,fd,hp0,R3⟩:=uK (own':=bM ((e :: kk.tys).filter fun t=>az t R.own) s.bad) (fun t _ hm=>(anw.1 (aM.1 (dK.1 hm).1)).2) hO0
         obtain ⟨bC,Ae,f1,f2,f3,f4⟩:=hels (bM ((e :: kk.tys).filter fun t=>az t R.own) s.bad) (fun t _ ht=>ho2 t ht)
         have aaX:∀b∈fT,b∉F1:=fun b hb hF=>(anl.1 g2.xK).2.2 b hb b hF rfl
         have hcs:∃v0,cs0=[v0]/\a.eval x=v0:=by
          have hVk:VC (.sl e kk) (a.eval x) cs0:=ek▸aaP
          exact ⟨_,hVk.1,rfl⟩
         obtain ⟨v0,ecs,ev0⟩:=hcs
         subst ecs
         subst eR
         have hne:aY d 0≠r:=fun e=>by have:=hr.1; rw [<-e,hn] at this; simp at this
         refine Fe hT g2 hd hdn ho hcb ha ht0 hu0 hty (by rw [bP _ _ hne]; exact hnone _ hn) (wV:=xs) (v0:=v0) (wQ:=wQ) (fd:=fd) (T1:=R.tags) (T2:=s.tags) (bad:=s.bad) (bC:=bC) (Ae:=Ae) ev0 hS ho1 ho2
          (fun t ht=>?_) (fun t ht=>dF.2 (.inr ht)) (fun t ht=>dF.2 (.inl ht)) R3 (fun b hb=>anj _ (hp0.mem_iff.2 hb)) (hp0.nodup g4.nd)
          (fun b hb=>⟨ang _ (f3 b hb).1,fun hb'=>aaX b (hp0.mem_iff.2 hb') (f3 b hb).1⟩) f2 f1 (fun i hi=>bE (fun _ _=>rfl) (fun b hb=>?_) (fun _ _=>rfl) (f4 i hi)) hb _
         ·rcases dF.1 ht with h | h
          ·exact g3.tag (hwt t h)
          ·exact g4.wt t h
         ·rcases hb with ⟨hb,hbt⟩ | hb
          ·refine .inl ⟨?_,hbt⟩
           by_cases hbf:b∈fT
           ·exact .inr (anj _ hbf)
           ·refine .inl ⟨hb.1,fun h=>?_,hb.2.2.1,fun q Q hq hbq=>?_,hb.2.2.2.2⟩
            ·rcases ann.1 h with h | h
             ·exact hbf h
             ·exact hb.2.1 h
            ·rcases jS hq with ⟨rfl,rfl,_⟩ | ⟨eq,hq'⟩
             ·refine hb.2.2.2.1 q R hr1 ?_
              rw [fB,om (show (fq R dd z).kind=R.kind from rfl)] at hbq
              rw [bX]
              rw [dX] at hbq ⊢
              exact hbq.imp id (fun h=>g6.mem_iff.2 (ang _ h))
             ·rw [(gV (J:=dR) (Z:=aB s.ws Z) (R:=fq R dd z) eq).blk] at hbq
              exact hb.2.2.2.1 q Q hq' hbq
          ·exact .inr hb
    ·exact h.elim
   | ref r g=>
    obtain ⟨R,hr,hv,h⟩:=bU h
    rcases ay h with ⟨hc,h⟩ | ⟨_,h⟩
    ·simp only [ank] at hc
     obtain ⟨⟨⟨⟨⟨c1,c4⟩,c5⟩,c6⟩,c7⟩,c8⟩:=hc
     cases hck:bQ R.k (.sl e kk) R.x with
     | none=>rw [hck] at h; exact h.elim
     | some xs=>
      rw [hck] at h
      simp only at h
      obtain ⟨hb,h⟩:=h
      rw [aD h,bZ]
      obtain ⟨ek,ey⟩:=bF hck
      have hSr:=hsame r (MJ c7)
      have hr1:=(hSr.live R).2 hr
      have hv1:bB (aB s.ws Z) R:=⟨hv.1,by rw [fK (fun t ht=>(hsame t.1 (DL c8 t ht)).root)]; exact hv.2⟩
      obtain ⟨hkind,aaP⟩:=hx R hr (ani c1)
      have K1:=H1.roots r R hr1
      have X0:=H1.dG r R hr1.1
      have hfr:blk dR R r=dR.fo r:=by simp [blk,dY,hkind]
      have Et:∀b∈dR.fo r,b∉F1:=fun b hb=>H1.iY r R hr1 b (by rw [hfr]; exact hb)
      have hVk:VC (.sl e kk) (a.eval x) (dR.hdr r):=by rw [hSr.hdr]; exact ek▸aaP
      have hO0:Ow (hp w) R.own (jc cx (aB s.ws Z) dR F1 w R.tags) (.sl e kk) xs [a.eval x] (dR.fo r):=by
       have:=tC (y:=xs) ek ey (K1.ow hv1)
       rw [hVk.1] at this
       exact this
      have ho1:az e (bM R.own s.bad)=true:=dK.2 ⟨c5,aW.1 hbad⟩
      have ho2:∀t,az t (bM R.own s.bad)=true->t∉s.bad:=fun t ht=>(dK.1 ht).2
      have hnd:(dR.fo r).Nodup:=by rw [<-hfr]; exact K1.nd
      obtain ⟨wQ,fd,hp0,R3⟩:=uK (own':=bM R.own s.bad) (fun t _ hm=>(dK.1 hm).1) hO0
      obtain ⟨bC,Ae,f1,f2,f3,f4⟩:=hels (bM R.own s.bad) (fun t _ ht=>ho2 t ht)
      have Gg:∀b∈wQ,b∈dR.fo r:=fun b hb=>hp0.mem_iff.2 (anj _ hb)
      have hfd0:∀b∈fd,b∈dR.fo r:=fun b hb=>hp0.mem_iff.2 (ang _ hb)
      have n0:=anl.1 (hp0.nodup hnd)
      have n1:=anl.1 f2
      have hlt:∀b∈dR.fo r,b<w.heap.size:=fun b hb=>(K1.mine b (by rw [hfr]; exact hb)).1
      have aa6:∀b∈F1,b<w.heap.size:=fun b hb=>(H1.fl b hb).1
      have abk:=tN R3
      have hnot:∀b,(∃t∈s.bad,vo (hp w) b t)->b∉wQ:=by
       rintro b ⟨t,h1,h2⟩ hb0
       obtain ⟨e',_,h3,h4⟩:=abk b hb0
       have h2:=H1.Po (K1.mine b (by rw [hfr]; exact Gg b hb0)) h2
       rw [h2] at h4
       simp only [ane] at h4
       subst h4
       exact ho2 _ h3 h1
      let ok:Nat->Prop:=fun b=>(jc cx (aB s.ws Z) dR F1 w R.tags b\/b∈fd)\/(jc cx (aB s.ws Z) dR F1 w s.tags b/\∃t∈s.bad,vo (hp w) b t)\/b∈Ae
      have hRr:∀b,jc cx (aB s.ws Z) dR F1 w R.tags b->b∉dR.fo r:=by
       intro b hb hbr
       obtain ⟨n,hn⟩:=hb.2.2.2.1 r R hr1 (by rw [hfr]; exact hbr)
       exact X0.2.2 n hn
      obtain ⟨v',w',dO,hrun,hos,hsz,BH,hfo,Kn,Gc⟩:=IK (w:=w) (ok:=ok) (u:=ut) (ty:=o.type) (x:=a.eval y) (bC:=bC) ht (bE (fun _ _=>rfl) (fun b h=>.inl h) (fun _ _=>rfl) R3) ho1
       (anl.2 ⟨n0.1,n1.1,fun b1 h1 b2 h2 e=>Et b1 (Gg b1 h1) (e▸(f3 b2 (anj _ h2)).1)⟩)
       (fun b hb=>by
        rcases hb with (h | h) | h | h
        ·exact ⟨fun h0=>hRr b h (Gg b h0),h.1⟩
        ·exact ⟨fun h0=>n0.2.2 b h0 b h rfl,hlt b (hfd0 b h)⟩
        ·exact ⟨hnot b h.2,h.1.1⟩
        ·exact ⟨fun h0=>Et b (Gg b h0) (f3 b (ang _ h)).1,aa6 b (f3 b (ang _ h)).1⟩)
       (fun b hb=>by
        rcases ann.1 hb with h | h
        ·exact hlt b (Gg b h)
        ·exact aa6 b (f3 b (anj _ h)).1)
       hS f1 (fun i hi=>bE (fun _ _=>rfl) (fun b h=>.inr h) (fun _ _=>rfl) (f4 i hi)) hb
      have Au:VC (.sl e kk) v' [v']:=⟨rfl,by
       have h5:=Gc
       unfold Ow at h5
       rw [aoi ho1] at h5
       obtain ⟨b,n,c,e1,_⟩:=h5
       simp only [apr,an9] at e1
       rw [e1]; simp⟩
      have afw:∀b,ok b->b∉dO/\b<w.heap.size:=by
       intro b hb
       have hlt':b<w.heap.size:=by
        rcases hb with (h | h) | h | h
        ·exact h.1
        ·exact hlt b (hfd0 b h)
        ·exact h.1.1
        ·exact aa6 b (f3 b (ang _ h)).1
       refine ⟨fun hbf=>?_,hlt'⟩
       rcases hfo b hbf with h2 | h2 | h2
       ·rcases hb with (h | h) | h | h
        ·exact hRr b h (Gg b h2)
        ·exact n0.2.2 b h2 b h rfl
        ·exact hnot b h.2 h2
        ·exact Et b (Gg b h2) (f3 b (ang _ h)).1
       ·have hF:=(f3 b (anj _ h2)).1
        rcases hb with (h | h) | h | h
        ·exact h.2.1 hF
        ·exact Et b (hfd0 b h) hF
        ·exact h.1.2.1 hF
        ·exact n1.2.2 b h2 b h rfl
       ·omega
      have hnext:∀(j:Nat) (n:Nat),(pO j,n)∈s.tags->(pO j,n)∈jq (wz r s.tags) R.tags:=by
       intro j n hj
       refine dF.2 (.inl (pg.2 ⟨hj,fun e=>?_⟩))
       have:=X0.2.1
       rw [<-e] at this
       simp only at this
       rw [jo] at this
       simp at this
      obtain ⟨k1,k2⟩:=agc (R':={ R with k:=.sl e kk,x:=xs++s.xs,own:=bM R.own s.bad,tags:=jq (wz r s.tags) R.tags,w:=e :: R.w,h:=qh :: e :: R.h,g:=R.g+1,keep:=R.keep || s.keep })
       (v':=v') (hdr':=[v']) (dO:=dO) (w':=w') H1 hr1 hv1 hkind hkind rfl rfl rfl ⟨rfl,rfl⟩ ⟨fun t ht=>(dF.1 ht).elim (fun h=>hwt t (pg.1 h).1) (X0.1 t),fun n hn=>(dF.1 hn).elim (fun h=>(pg.1 h).2 rfl) (X0.2.2 n)⟩
       hos hsz (fun b h1 h2=>.inr ⟨Gg b (BH b h1 h2).1,(BH b h1 h2).2⟩) (fun b hb=>by
        rcases hfo b hb with h | h | h
        ·exact .inl (Gg b h)
        ·exact .inr (.inl (f3 b (anj _ h)).1)
        ·exact .inr (.inr h)) Kn rfl
       (bE (k:=.sl e kk) (fun _ _=>rfl) (fun b hb=>by
        obtain ⟨z1,z2⟩:=afw b hb
        refine ⟨an5 z2 hsz,by simp, ?_,fun q Q hq hbq=>?_,fun h0=>?_⟩
        ·rcases hb with (h | h) | h | h
         ·exact h.2.2.1
         ·exact oq H1 hr1 (hfd0 b h)
         ·exact h.1.2.2.1
         ·exact rO H1 (f3 b (ang _ h)).1
        ·rcases jS hq with ⟨rfl,rfl,_⟩ | ⟨eq,hq'⟩
         ·rw [fB] at hbq
          have hbq:b∈dO:=by simpa [iX,hkind] using hbq
          exact absurd hbq z1
         ·rw [(gV (J:=dR) (Z:=aB s.ws Z) (R:={ R with k:=.sl e kk,x:=xs++s.xs,own:=bM R.own s.bad,tags:=jq (wz r s.tags) R.tags,w:=e :: R.w,h:=qh :: e :: R.h,g:=R.g+1,keep:=R.keep || s.keep }) eq).blk] at hbq
          rcases hb with (h | h) | h | h
          ·exact (h.2.2.2.1 q Q hq' hbq).imp fun n hn=>dF.2 (.inr hn)
          ·exact absurd hbq (H1.EK r R q Q hr1 hq' (Ne.symm eq) b (by rw [hfr]; exact hfd0 b h))
          ·exact (h.1.2.2.2.1 q Q hq' hbq).imp fun n hn=>dF.2 (.inl (pg.2 ⟨hn,eq⟩))
          ·exact absurd (f3 b (ang _ h)).1 (H1.iY q Q hq' b hbq)
        ·have ko:Ow.mine cx w b->(∃j n,(pO j,n)∈jq (wz r s.tags) R.tags/\cx.ext j b)\/∃j pi,cx.par j=some pi/\b∈pi.bl:=fun hm=>by
          rcases hm.2 with h | ⟨j,pi,h1,h2⟩
          ·omega
          ·exact .inr ⟨j,pi,h1,h2⟩
         rcases hb with (h | h) | h | h
         ·exact (h.2.2.2.2 h0).imp (fun ⟨j,n,h1,h2⟩=>⟨j,n,dF.2 (.inr h1),h2⟩) id
         ·exact ko (K1.mine b (by rw [hfr]; exact hfd0 b h))
         ·exact (h.1.2.2.2.2 h0).imp (fun ⟨j,n,h1,h2⟩=>⟨j,n,hnext j n h1,h2⟩) id
         ·exact ko (H1.fl b (f3 b (ang _ h)).1)) (fun _ _=>rfl) Gc) Au
      exact iF (x:=.one (.ref r (R.g+1))) k1 hd hdn (ku ho hcb ha ht0 hu0 hrun) k2 ⟨_,aI .., .inr (anv _)⟩
    ·exact h.elim
   | val _ _ _=>exact h.elim
   | undef=>exact h.elim
   | ptr _ _ _=>exact h.elim
   | jE _ _ _ _=>exact h.elim
   | FM _ _ _ _=>exact h.elim
   | yI _=>exact h.elim
   | part _ _ _ _ _=>exact h.elim
   | wT _ _ _ _=>exact h.elim
   | sub _ _ _ _ _ _=>exact h.elim
   | sel _ _ _ _ _ _=>exact h.elim
   | app _ _ _ _=>exact h.elim
   | rA=>exact h.elim
   | fn _ _=>exact h.elim
  | _=>exact h.elim
end
end
section
open Go
variable [Fr]
section
variable {P:Program} {T:jh} {cx:Cx} {Z:St} {J:dP} {F:List Nat} {a:Act} {w:World} {o:Oper} {d:Nat} {ws:List Wr}
def o8 (kk:K):List (Nat×iW)->u7 kk->Option (u7 kk)
 | [],b=>some b
 | (n,tk) :: l,b=>match bQ tk.k kk tk.x with
  | some y=>bif Nat.beq n (gY b.xs) then o8 kk l { xs:=b.xs++[y],bad:=tk.bad++b.bad,tags:=jq (tk.iD) b.tags,ws:=b.ws++tk.ws,keep:=tk.keep || b.keep,all:=tk.tags++b.all } else none
  | none=>none
theorem Oo {A:Type} {z:A} (H:Rel cx Z J F a w) {kk:K} {k:u7 kk->Prog A}:∀{l:List (Nat×AV)} {vs:List Value} {b:u7 kk},eD cx Z J F w (l.map (·.2)) vs->(∀v∈l,qM Z v.2)->(FV kk l b k).ends Z z->
  ∃(tks:List iW) (b':u7 kk),tks.length=l.length/\vs.length=l.length/\(∀it∈vs.zip tks,wo cx Z J F w it.1 it.2)/\o8 kk ((l.map (·.1)).zip tks) b=some b'/\(k b').ends Z z:=by
 intro l
 induction l with
 | nil=>
  intro vs b h1 _ h
  cases vs with
  | nil=>exact ⟨[],b,rfl,rfl,by simp,rfl,h⟩
  | cons v vs=>exact h1.elim
 | cons p l ih=>
  obtain ⟨n,x⟩:=p
  intro vs b h1 h2 h
  cases vs with
  | nil=>exact h1.elim
  | cons v vs=>
   simp only [FV] at h
   obtain ⟨tk,htk,h5⟩:=qG H h1.1 (h2 (n,x) (by simp)) h
   cases hc:bQ tk.k kk tk.x with
   | none=>rw [hc] at h5; exact h5.elim
   | some y=>
    rw [hc] at h5
    simp only at h5
    rcases ay h5 with ⟨hn,h6⟩ | ⟨_,h6⟩
    ·obtain ⟨tks,b',g1,g2,g3,g4,g5⟩:=ih h1.2 (fun v hv=>h2 v (by simp [hv])) h6
     refine ⟨tk :: tks,b',by simp [g1],by simp [g2], ?_, ?_,g5⟩
     ·intro it hit
      rw [apH] at hit
      rcases anq.1 hit with h | h
      ·subst h; exact htk
      ·exact g3 it h
     ·rw [aoh,apH]
      unfold o8
      simp only [hc,hn,an0]
      exact g4
    ·exact h6.elim
theorem Er {kk:K}:∀(l:List (Nat×iW)) {b b':u7 kk},o8 kk l b=some b'->
  b'.ws=b.ws++l.flatMap (fun p=>p.2.ws)/\(∀p∈l,∀t∈p.2.tags,t∈b'.all)/\(∀p∈l,∀t∈p.2.bad,t∈b'.bad)/\(∀t∈b.bad,t∈b'.bad)/\
  (∀p∈l,∀t∈p.2.iD,t∈b'.tags)/\(∀t∈b.tags,t∈b'.tags)/\(∀t∈b'.tags,t∈b.tags\/∃p∈l,t∈p.2.iD)/\(∀t∈b.all,t∈b'.all)/\b'.xs.length=b.xs.length+l.length:=by
 intro l
 induction l with
 | nil=>
  intro b b' h
  simp only [o8,ane] at h
  subst h
  simp
 | cons p l ih=>
  obtain ⟨n,tk⟩:=p
  intro b b' h
  unfold o8 at h
  cases hc:bQ tk.k kk tk.x with
  | none=>rw [hc] at h; simp at h
  | some y=>
   rw [hc] at h
   simp only at h
   cases hn:Nat.beq n (gY b.xs) with
   | false=>rw [hn] at h; simp at h
   | true=>
    rw [hn] at h
    simp only [an0] at h
    obtain ⟨g1,g2,g3,g4,g5,g6,g7,g8,g9⟩:=ih h
    refine ⟨by rw [g1]; simp, ?_, ?_,fun t ht=>g4 t (by simp [ht]), ?_,fun t ht=>g6 t (dF.2 (.inr ht)), ?_,fun t ht=>g8 t (by simp [ht]),by rw [g9]; simp; omega⟩
    ·intro p hp t ht
     rcases anq.1 hp with h | h
     ·subst h; exact g8 t (by simp [ht])
     ·exact g2 p h t ht
    ·intro p hp t ht
     rcases anq.1 hp with h | h
     ·subst h; exact g4 t (by simp [ht])
     ·exact g3 p h t ht
    ·intro p hp t ht
     rcases anq.1 hp with h | h
     ·subst h; exact g6 t (dF.2 (.inl ht))
     ·exact g5 p h t ht
    ·intro t ht
     rcases g7 t ht with h | ⟨p,h1,h2⟩
     ·rcases dF.1 h with h | h
      ·exact .inr ⟨(n,tk),by simp,h⟩
      ·exact .inl h
     ·exact .inr ⟨p,by simp [h1],h2⟩
theorem Om {h:Heap} {own:List TypeId} {ok:Nat->Prop} {kk:K} {N:Nat} :
  ∀(l:List (Nat×iW)) {vs:List Value} {x9:List (List Nat)} {b b':u7 kk} {cells:Array Value} {bC:List (List Nat)},b.xs.length+l.length<=N->cells.size=N * kk.size->bC.length=b.xs.length->
   (∀i (hi:i<b.xs.length),Ow h own ok kk b.xs[i] (mF cells.toList kk.size i) (bC.getD i []))->wm h own ok l vs x9->o8 kk l b=some b'->
   ∃cells',Instr.fill (fun i=>some (i * kk.size,kk.size)) cells ((l.map (·.1)).zip vs)=some cells'/\cells'.size=N * kk.size/\(bC++x9).length=b'.xs.length/\
    ∀i (hi:i<b'.xs.length),Ow h own ok kk b'.xs[i] (mF cells'.toList kk.size i) ((bC++x9).getD i []):=by
 intro l
 induction l with
 | nil=>
  intro vs x9 b b' cells bC hN hs hf hO hP hb
  cases vs with
  | nil=>
   cases x9 with
   | nil=>
    simp only [o8,ane] at hb
    subst hb
    exact ⟨cells,rfl,hs,by simpa using hf,by simpa using hO⟩
   | cons f fs=>exact hP.elim
  | cons v vs=>cases x9 <;> exact hP.elim
 | cons p l ih=>
  obtain ⟨n,tk⟩:=p
  intro vs x9 b b' cells bC hN hs hf hO hP hb
  cases vs with
  | nil=>cases x9 <;> exact hP.elim
  | cons v vs=>
   cases x9 with
   | nil=>exact hP.elim
   | cons ft x9=>
    obtain ⟨⟨cst,hv,hOt⟩,hP'⟩:=hP
    unfold o8 at hb
    cases hc:bQ tk.k kk tk.x with
    | none=>rw [hc] at hb; simp at hb
    | some y=>
     rw [hc] at hb
     simp only at hb
     cases hn:Nat.beq n (gY b.xs) with
     | false=>rw [hn] at hb; simp at hb
     | true=>
      rw [hn] at hb
      simp only [an0] at hb
      have en:n=b.xs.length:=by rw [ani hn,lV]
      subst en
      obtain ⟨ek,ey⟩:=bF hc
      have hOy:Ow h own ok kk y cst ft:=tC ek ey hOt
      have hcl:cst.length=kk.size:=cZ hOy
      have BJ:v.cells=cst.toArray:=by
       have:=hv.cells
       apply aod
       simpa using this
      simp only [anD] at hN
      have hle:(b.xs.length+1) * kk.size<=N * kk.size:=anL _ (by omega)
      rw [aoO,aoP] at hle
      have hoff:b.xs.length * kk.size+cst.length<=cells.size:=by rw [hs,hcl]; exact hle
      rw [aoh,apH,CR (place:=fun i=>some (i * kk.size,kk.size)) (off:=b.xs.length * kk.size) (vs:=cst) (by simp [hcl]) BJ hoff]
      have hsz:(cells.toList.take (b.xs.length * kk.size)++(cst++cells.toList.drop (b.xs.length * kk.size+cst.length))).toArray.size=N * kk.size:=by
       simp
       omega
      obtain ⟨cells',g1,g2,g3,g4⟩:=ih (bC:=bC++[ft]) (b:={ xs:=b.xs++[y],bad:=tk.bad++b.bad,tags:=jq (tk.iD) b.tags,ws:=b.ws++tk.ws,keep:=tk.keep || b.keep,all:=tk.tags++b.all }) (by simp; omega) hsz (by simp [hf]) (by
       intro i hi
       simp only [anm,anD,ao6,anY] at hi
       rw [BF]
       by_cases h0:i<b.xs.length
       ·rw [aoi (by rw [hf]; exact h0)]
        have e1:(b.xs++[y])[i]'(by simp; omega)=b.xs[i]:=apz h0
        show Ow h own ok kk ((b.xs++[y])[i]'(by simp; omega)) _ _
        rw [e1]
        have e2:mF (cells.toList.take (b.xs.length * kk.size)++(cst++cells.toList.drop (b.xs.length * kk.size+cst.length))) kk.size i=mF cells.toList kk.size i:=by
         have hl2:(i+1) * kk.size<=b.xs.length * kk.size:=anL _ (by omega)
         rw [aoO,aoP] at hl2
         apply apD
         intro j
         by_cases hj:j<kk.size
         ·rw [kZ hj,kZ hj,aoI (by simp; omega),apn (by omega)]
         ·unfold mF
          rw [aoQ (by simp; omega),aoQ (by simp; omega)]
        simp only
        rw [e2]
        exact hO i h0
       ·have:i=b.xs.length:=by omega
        subst this
        rw [aok (by omega),hf,aps]
        have e1:(b.xs++[y])[b.xs.length]'(by simp)=y:=by simp
        show Ow h own ok kk ((b.xs++[y])[b.xs.length]'(by simp)) _ _
        rw [e1]
        have e2:mF (cells.toList.take (b.xs.length * kk.size)++(cst++cells.toList.drop (b.xs.length * kk.size+cst.length))) kk.size b.xs.length=cst:=by
         have hl:(cells.toList.take (b.xs.length * kk.size)).length=b.xs.length * kk.size:=by simp; omega
         unfold mF
         conv=>lhs; arg 2; arg 1; rw [<-hl]
         rw [List.drop_left, <-hcl,List.take_left]
        simp only
        rw [e2]
        exact hOy) hP' hb
      refine ⟨cells',g1,g2, ?_, ?_⟩
      ·rw [<-g3]; simp
      ·intro i hi
       have:=g4 i hi
       simp only [anB,anW,anX] at this
       exact this
end
end
end Go.Proofs.YtailcbngagacaaaGreat.Ow
