/- A verified reading of translated code, part D of 7. No condition. -/
import Derived.Test.YtailcbngagacaabGreatOwC
set_option linter.unusedSectionVars false
set_option linter.unusedVariables false
set_option linter.unusedSimpArgs false
namespace Go.Proofs.YtailcbngagacaabGreat.Ow
section
open Go
variable [Fr]
def iD (news:List Value) (s i:Nat):List Value:=(news.drop (i * s)).take s
theorem xx {news:List Value} {s i m:Nat} (h:news.length=m * s) (hi:i<m):(iD news s i).length=s:=by
 unfold iD
 have:(i+1) * s<=m * s:=kC _ hi
 rw [iT,m_] at this
 simp
 omega
theorem sJ {news:List Value} {s i j:Nat} (hj:j<s):(iD news s i)[j]?=news[i * s+j]?:=by
 unfold iD
 rw [Ma,ak hj,Bq]
theorem IA {ay pX:List (List Nat)} {i:Nat}:(ay++pX).getD i []=if i<ay.length then ay.getD i [] else pX.getD (i - ay.length) []:=by
 simp only [h_,List.getElem?_append]
 split <;> rfl
section
variable {P:Program} {T:bI} {w:World}
theorem XO {t u ty e:TypeId} {kk:K} (ht:dn P T t (.sl e kk)) {own:List TypeId} {ok:Nat->Prop} {gY iM:List (El kk)} {v0 x:Value} {gU:List Nat} {ay:List (List Nat)} {news:List Value}
  (hO:Ow (hp w) own ok (.sl e kk) gY [v0] gU) (hown:aa e own=true) (hnd:(gU++ay.flatten).Nodup) (hok:∀b,ok b->b∉gU/\b<w.heap.size) (hlt:∀b∈gU++ay.flatten,b<w.heap.size)
  (hS:Src P w kk.size u x iM.length news) (hfl:ay.length=iM.length) (hel:∀i (hi:i<iM.length),Ow (hp w) own ok kk iM[i] (iD news kk.size i) (ay.getD i []))
  (hb:(gY.length+iM.length) * T.bytes e<=140737488355328) :
  ∃v' w' aF,(Builtin.append_ #[t,u] ty #[v0,x]).run P w=.ok v' w'/\(w'.os=w.os/\w'.tape=w.tape/\w'.output=w.output)/\w.heap.size<=w'.heap.size/\
   (∀b,b<w.heap.size->hp w' b≠hp w b->b∈gU/\jR (hp w) b=some e)/\(∀b∈aF,b∈gU\/b∈ay.flatten\/(w.heap.size<=b/\b<w'.heap.size))/\aF.Nodup/\
   Ow (hp w') own ok (.sl e kk) (gY++iM) [v'] aF:=by
 have hsz:0<kk.size:=ht.sl.2.2.1
 have hnl:=hS.nl
 unfold Ow at hO
 rw [ak hown] at hO
 obtain ⟨a,n,c,e1,e2,e3,hO⟩:=hO
 simp only [jv,eY] at e1
 subst e1
 have e2':n=gY.length:=e2
 have hnd':=cK.1 hnd
 by_cases hr:n+iM.length<=c
 ·have hrun:=N8 (ty:=ty) ht hS (b:=a) (n:=n) hr
  rcases hO with ⟨hc0,hf0⟩ | ⟨b,o,arr,lo,hi,ea,hbk,hf,hs,mV,hl0,hp0,hO⟩
  ·have hx1:iM=[]:=sS (by omega)
   have hx0:gY=[]:=sS (by omega)
   subst hx1
   subst hx0
   have hnews:news=[]:=sS (by simpa using hnl)
   subst hnews
   have hn0:n=0:=by simpa using e2'
   subst hn0
   subst hc0
   have:(Builtin.append_ #[t,u] ty #[.slice a 0 0,x]).run P w=.ok (.slice a 0 0) w:=by
    rw [hrun]
    cases a <;> rfl
   exact ⟨_,w,[],this,⟨rfl,rfl,rfl⟩,bP _,fun b _ h=>absurd rfl h,fun b hb=>by simp at hb,mM,FE⟩
  ·subst ea
   have hle:(n+iM.length) * kk.size<=c * kk.size:=kC _ hr
   rw [iT] at hle
   have hst:=JX (P:=P) (o:=o+n * kk.size) news hbk hf (by rw [hnl]; omega) hS.one
   simp only [Result.andThen,addr_add,hst] at hrun
   obtain ⟨s1,s2,gI,s3,s4,s5,s6⟩:=FY b news w arr e (lo,hi) (o+n * kk.size) hbk (by rw [hnl]; omega)
   have s7:=FZ b news w (o+n * kk.size)
   have hb0:b∈gU:=hp0.mem_iff.2 (by simp)
   have kM:=hp0.nodup hnd'.1
   have hne:∀b'∈mV.flatten++ay.flatten,b'≠b:=by
    intro b' hb' e
    subst e
    rcases bW.1 hb' with h | h
    ·exact (jg.1 kM).1 h
    ·exact hnd'.2.2 b' hb0 b' h rfl
   have ZL:∀b',ok b'->hp (w.setCells b (o+n * kk.size) news) b'=hp w b':=fun b' h=>s1 b' (fun e=>(hok b' h).1 (e▸hb0))
   refine ⟨_,_,b :: (mV.flatten++ay.flatten),hrun,s7,by omega, ?_, ?_, ?_, ?_⟩
   ·intro b' _ hne'
    by_cases e:b'=b
    ·subst e; exact ⟨hb0,by unfold jR; rw [hbk]⟩
    ·exact absurd (s1 b' e) hne'
   ·intro b' hb'
    rcases bT.1 hb' with h | h
    ·subst h; exact .inl hb0
    ·rcases bW.1 h with h | h
     ·exact .inl (hp0.mem_iff.2 (by simp [h]))
     ·exact .inr (.inl h)
   ·refine jg.2 ⟨fun h=>hne b h rfl,cK.2 ⟨(jg.1 kM).2,hnd'.2.1,fun b1 h1 b2 h2 e=>hnd'.2.2 b1 (hp0.mem_iff.2 (by simp [h1])) b2 h2 e⟩⟩
   ·unfold Ow
    rw [ak hown]
    refine ⟨_,_,_,rfl,by simp [e2'],hr, .inr ⟨b,o,gI,lo,hi,rfl,s3,by rw [s4]; exact hf,by rw [s4]; exact hs,mV++ay,by simp [hl0,hfl],by simp,fun i hi=>?_⟩⟩
    have hi':i<gY.length+iM.length:=by simpa using hi
    rw [IA]
    by_cases hi0:i<gY.length
    ·obtain ⟨ds,h1,h2⟩:=hO i hi0
     have akw:i<mV.length:=by rw [hl0]; exact hi0
     rw [ak akw]
     have hx:(gY++iM)[i]'hi=gY[i]:=Br hi0
     refine ⟨ds,fun j hj=>?_, ?_⟩
     ·have hdl:=fP h2
      have hlt2:(i+1) * kk.size<=n * kk.size:=kC _ (by omega)
      rw [iT,m_] at hlt2
      have:=h1 j hj
      unfold cellAt at this ⊢
      rw [hbk] at this
      rw [s3]
      simp only at this ⊢
      rw [s6 _ (by rw [hnl]; omega)]
      exact this
     ·show Ow _ own ok kk ((gY++iM)[i]'hi) ds _
      rw [hx]
      exact dZ ZL (fun _ h=>h) (fun b' hb'=>s1 b' (hne b' (bN _ (vW hb')))) h2
    ·have hi1:i - gY.length<iM.length:=by omega
     rw [aA (by rw [hl0]; exact hi0)]
     have hx:(gY++iM)[i]'hi=iM[i - gY.length]:=Md (by omega)
     have hfe:i - mV.length=i - gY.length:=by rw [hl0]
     rw [hfe]
     refine ⟨iD news kk.size (i - gY.length),fun j hj=>?_, ?_⟩
     ·rw [xx hnl hi1] at hj
      unfold cellAt
      rw [s3,sJ hj]
      simp only
      have e4:o+i * kk.size+j=o+n * kk.size+((i - gY.length) * kk.size+j):=by
       have:i * kk.size=n * kk.size+(i - gY.length) * kk.size:=by rw [<-iT]; congr 1; omega
       omega
      rw [e4]
      refine s5 _ ?_
      rw [hnl]
      have:(i - gY.length+1) * kk.size<=iM.length * kk.size:=kC _ hi1
      rw [iT,m_] at this
      omega
     ·show Ow _ own ok kk ((gY++iM)[i]'hi) _ _
      rw [hx]
      exact dZ ZL (fun _ h=>h) (fun b' hb'=>s1 b' (hne b' (bC _ (vW hb')))) (hel _ hi1)
 ·
  obtain ⟨olds,ho1,ho2,mV,hl0,hf0,M5⟩:∃olds,olds.length=n * kk.size/\(Builtin.firstCells kk.size n (.slice a n c)).run P w.drew=.ok olds.toArray w.drew/\∃mV:List (List Nat),mV.length=gY.length/\((∀b∈mV.flatten,b∈gU)/\mV.flatten.Nodup)/\
    ∀i (hi:i<gY.length),Ow (hp w) own ok kk gY[i] (iD olds kk.size i) (mV.getD i []):=by
   rcases hO with ⟨hc0,hf0⟩ | ⟨b,o,arr,lo,hi,ea,hbk,hf,hs,mV,hl0,hp0,hO⟩
   ·have hx0:gY=[]:=sS (by omega)
    subst hx0
    have hn0:n=0:=by simpa using e2'
    subst hn0
    refine ⟨[],by simp, ?_,[],rfl,⟨by simp,by simp⟩,fun i hi=>by simp at hi⟩
    cases a with
    | none=>exact Ut w.drew kk.size 0 0 c
    | some ad=>exact CX (P:=P) w.drew kk.size 0 ad 0 c [] (by simp) (fun j v hj=>by simp at hj)
   ·subst ea
    have hle:n * kk.size<=c * kk.size:=kC _ e3
    have hrow:=Gg (n:=n * kk.size) hbk (by omega:o+n * kk.size<=arr.size)
    have hrl:(iY (hp w) b o (n * kk.size)).length=n * kk.size:=by simp [iY]
    have kM:=hp0.nodup hnd'.1
    refine ⟨iY (hp w) b o (n * kk.size),hrl, ?_,mV,hl0,⟨fun b' hb'=>hp0.mem_iff.2 (by simp [hb']),(jg.1 kM).2⟩,fun i hi=>?_⟩
    ·refine CX (P:=P) w.drew kk.size n ⟨b,o,none⟩ n c _ hrl (fun j v hj=>?_)
     rw [addr_add,zJ]
     have:=hrow j (by rw [hrl]; have:=(ql.1 hj).1; rw [hrl] at this; exact this)
     rw [hj] at this
     exact this
    ·obtain ⟨ds,h1,h2⟩:=hO i hi
     have hdl:=fP h2
     have:iD (iY (hp w) b o (n * kk.size)) kk.size i=ds:=by
      apply Hw
      intro j
      by_cases hj:j<kk.size
      ·rw [sJ hj]
       have hlt2:(i+1) * kk.size<=n * kk.size:=kC _ (by omega)
       rw [iT,m_] at hlt2
       rw [<-hrow _ (by rw [hrl]; omega), <-nN]
       exact h1 j (by omega)
      ·rw [uy (by rw [xx hrl (by omega)]; omega),uy (by omega)]
     rw [this]
     exact h2
  obtain ⟨nc,hnc,hrun⟩:=Us (ty:=ty) ht hS ho2 hr (by rw [e2']; exact hb)
  have hnew:=EX w.drew (.cells (olds.toArray++news.toArray++Builtin.zeroCells (jB kk).cells (nc - (n+iM.length))) e)
  have hold:∀b',b'<w.heap.size->hp (w.drew.alloc (.cells (olds.toArray++news.toArray++Builtin.zeroCells (jB kk).cells (nc - (n+iM.length))) e)) b'=hp w b':=fun b' h=>Cr w.drew _ h
  have hws:w.drew.heap.size=w.heap.size:=rfl
  rw [hws] at hnew
  have hsz2:(w.drew.alloc (.cells (olds.toArray++news.toArray++Builtin.zeroCells (jB kk).cells (nc - (n+iM.length))) e)).heap.size=w.heap.size+1:=Array.size_push ..
  have hzl:(jB kk).cells.size=kk.size:=by
   rw [Gb ht.sl.2.1.shape]
   simpa using fP (Dc (h:=hp w) (own:=own) (ok:=ok) ht.sl.2.1.f_)
  have hall:∀b'∈mV.flatten++ay.flatten,b'<w.heap.size:=by
   intro b' hb'
   rcases bW.1 hb' with h | h
   ·exact hlt b' (bN _ (hf0.1 b' h))
   ·exact hlt b' (bC _ h)
  refine ⟨_,_,w.heap.size :: (mV.flatten++ay.flatten),hrun,⟨rfl,rfl,rfl⟩,by omega,fun b' hb' hne=>absurd (hold b' hb') hne, ?_, ?_, ?_⟩
  ·intro b' hb'
   rcases bT.1 hb' with h | h
   ·subst h; exact .inr (.inr ⟨bP _,by omega⟩)
   ·rcases bW.1 h with h | h
    ·exact .inl (hf0.1 b' h)
    ·exact .inr (.inl h)
  ·refine jg.2 ⟨fun h=>by have:=hall _ h; omega,cK.2 ⟨hf0.2,hnd'.2.1,fun b1 h1 b2 h2 e=>hnd'.2.2 b1 (hf0.1 b1 h1) b2 h2 e⟩⟩
  ·unfold Ow
   rw [ak hown]
   refine ⟨_,_,_,rfl,by simp [e2'],hnc, .inr ⟨w.heap.size,0,_,0,0,rfl,hnew,jo.zero, ?_,mV++ay,by simp [hl0,hfl],by simp,fun i hi=>?_⟩⟩
   ·simp only [Array.size_append,D8,size_zeroCells,hzl,ho1,hnl, <-iT]
    have:n+iM.length+(nc - (n+iM.length))=nc:=by omega
    rw [this]
    omega
   have hi':i<gY.length+iM.length:=by simpa using hi
   rw [IA]
   have hcell:∀q,q<(olds++news).length->cellAt (hp (w.drew.alloc (.cells (olds.toArray++news.toArray++Builtin.zeroCells (jB kk).cells (nc - (n+iM.length))) e))) w.heap.size (0+q)=(olds++news)[q]?:=by
    intro q hq
    unfold cellAt
    rw [hnew]
    simp only [og]
    rw [Ot (by simpa using hq)]
    simp
   by_cases hi0:i<gY.length
   ·rw [ak (by rw [hl0]; exact hi0)]
    have hx:(gY++iM)[i]'hi=gY[i]:=Br hi0
    refine ⟨iD olds kk.size i,fun j hj=>?_, ?_⟩
    ·rw [xx ho1 (by omega)] at hj
     have hlt2:(i+1) * kk.size<=n * kk.size:=kC _ (by omega)
     rw [iT,m_] at hlt2
     rw [nN,hcell _ (by rw [bX,ho1]; omega),za (by rw [ho1]; omega),sJ hj]
    ·show Ow _ own ok kk ((gY++iM)[i]'hi) _ _
     rw [hx]
     exact dZ (fun b' h=>hold b' (hok b' h).2) (fun _ h=>h) (fun b' hb'=>hold b' (hall b' (bN _ (vW hb')))) (M5 i hi0)
   ·have hi1:i - gY.length<iM.length:=by omega
    rw [aA (by rw [hl0]; exact hi0)]
    have hx:(gY++iM)[i]'hi=iM[i - gY.length]:=Md (by omega)
    have hfe:i - mV.length=i - gY.length:=by rw [hl0]
    rw [hfe]
    refine ⟨iD news kk.size (i - gY.length),fun j hj=>?_, ?_⟩
    ·rw [xx hnl hi1] at hj
     have hlt2:(i - gY.length+1) * kk.size<=iM.length * kk.size:=kC _ hi1
     rw [iT,m_] at hlt2
     have e4:i * kk.size=n * kk.size+(i - gY.length) * kk.size:=by rw [<-iT]; congr 1; omega
     rw [nN,hcell _ (by rw [bX,ho1,hnl]; omega),xP (by rw [ho1]; omega),sJ hj]
     congr 1
     rw [ho1]
     omega
    ·show Ow _ own ok kk ((gY++iM)[i]'hi) _ _
     rw [hx]
     exact dZ (fun b' h=>hold b' (hok b' h).2) (fun _ h=>h) (fun b' hb'=>hold b' (hall b' (bC _ (vW hb')))) (hel _ hi1)
end
end
section
open Go
variable [Fr]
section
variable {P:Program} {T:bI} {cx:Cx} {Z:St} {J:aH} {F:List Nat} {a:Act} {w:World}
theorem ag1 {k l:K} (e:k=l) {x:El k} {y:El l} (ey:y=e▸x) {h:Heap} {ok:Nat->Prop} {cs:List Value} (H:Vw h ok k x cs):Vw h ok l y cs:=by subst e; subst ey; exact H
theorem wQ {k l:K} (e:k=l) {x:El k} {y:El l} (ey:y=e▸x) {h:Heap} {own:List TypeId} {ok:Nat->Prop} {cs:List Value} {fo:List Nat} (H:Ow h own ok k x cs fo):Ow h own ok l y cs fo:=by subst e; subst ey; exact H
theorem Uq {u:TypeId} {size n c bb q:Nat} (hu:(∃e',P.underlying u=some (.slice e'))\/P.underlying u=some .string) (Q:Nat->List Value->Prop)
  (hE:∀i,i<n->∃ds,ds.length=size/\Cells (hp w) bb (q+i * size) ds/\(∀v∈ds,v.oneCell'=true)/\Q i ds) :
  ∃news,Src P w size u (.slice (some ⟨bb,q,none⟩) n c) n news/\∀i,i<n->Q i (iD news size i):=by
 have hrl:(iY (hp w) bb q (n * size)).length=n * size:=by simp [iY]
 have hseg:∀i,i<n->∃ds,iD (iY (hp w) bb q (n * size)) size i=ds/\ds.length=size/\Cells (hp w) bb (q+i * size) ds/\(∀v∈ds,v.oneCell'=true)/\Q i ds:=by
  intro i hi
  obtain ⟨ds,hdl,h1,h2,h3⟩:=hE i hi
  refine ⟨ds, ?_,hdl,h1,h2,h3⟩
  apply Hw
  intro j
  by_cases hj:j<size
  ·rw [sJ hj]
   have hlt2:(i+1) * size<=n * size:=kC _ (by omega)
   rw [iT,m_] at hlt2
   unfold iY
   rw [D7,L_ (by omega)]
   have:=h1 j (by omega)
   simp only [oP]
   rw [<-nN,this,jc (by omega)]
   rfl
  ·rw [uy (by rw [xx hrl hi]; omega),uy (by omega)]
 have hcell:∀j,j<n * size->cellAt (hp w) bb (q+j)=(iY (hp w) bb q (n * size))[j]?/\∀v,(iY (hp w) bb q (n * size))[j]?=some v->v.oneCell'=true:=by
  intro j hj
  have hk:0<size:=by
   rcases Nat.eq_zero_or_pos size with h | h
   ·rw [h] at hj; omega
   ·exact h
  have hi:j / size<n:=Nat.div_lt_of_lt_mul (by rw [Nat.mul_comm]; exact hj)
  have hm:j % size<size:=Nat.mod_lt _ hk
  obtain ⟨ds,s1,hdl,s2,s3,_⟩:=hseg _ hi
  have hjj:j / size * size+j % size=j:=by rw [Nat.mul_comm]; exact Nat.div_add_mod j size
  have h1:(iY (hp w) bb q (n * size))[j]?=ds[j % size]?:=by
   rw [<-s1,sJ hm,hjj]
  have h2:=s2 (j % size) (by omega)
  rw [nN,hjj] at h2
  refine ⟨by rw [h2,h1],fun v hv=>?_⟩
  rw [h1] at hv
  exact s3 v (qm hv)
 refine ⟨iY (hp w) bb q (n * size),J8 hu hrl (fun v hv=>?_) (fun _=>⟨bb,q,rfl,fun i hi=>(hcell i (by rw [hrl] at hi; exact hi)).1⟩),fun i hi=>?_⟩
 ·obtain ⟨j,hj,rfl⟩:=sU.1 hv
  exact (hcell j (by rw [hrl] at hj; exact hj)).2 _ (jc hj)
 ·obtain ⟨ds,s1,_,_,_,s3⟩:=hseg i hi
  rw [s1]
  exact s3
theorem Om {u e:TypeId} {kk:K} {h:Heap} {ok:Nat->Prop} {xs:List (El kk)} {v:Value} {cs:List Value} (hu:(∃e',P.underlying u=some (.slice e'))\/P.underlying u=some .string) (hg:f_ kk=true)
  (hh:h=hp w) (hv:VC (.sl e kk) v cs) (hV:Vw h ok (.sl e kk) xs cs) :
  ∃news,Src P w kk.size u v xs.length news/\∀i (hi:i<xs.length),Vw h ok kk xs[i] (iD news kk.size i):=by
 subst hh
 obtain ⟨b,n,c,e1,e2,e3,e4,e5⟩:=CY hv hV
 subst e1
 subst e3
 by_cases h0:0<xs.length
 ·obtain ⟨bb,q,eb,hok,hel,hE⟩:=e5 h0
  subst eb
  obtain ⟨news,g1,g2⟩:=Uq (P:=P) (w:=w) (n:=xs.length) (c:=c) (bb:=bb) (q:=q) hu (fun i ds=>∀hi:i<xs.length,Vw (hp w) ok kk xs[i] ds) (fun i hi=>by
   obtain ⟨ds,h1,h2⟩:=hE i hi
   exact ⟨ds,nP h2,h1,Mv hg h2,fun _=>h2⟩)
  exact ⟨news,g1,fun i hi=>g2 i hi hi⟩
 ·have hx:xs=[]:=sS (by omega)
  subst hx
  exact ⟨[],J8 hu (by simp) (by simp) (fun h=>by simp at h),fun i hi=>by simp at hi⟩
theorem aa6 {u e:TypeId} {kk:K} {own:List TypeId} {ok:Nat->Prop} {xs:List (El kk)} {v:Value} {cs:List Value} {fo:List Nat} (hu:(∃e',P.underlying u=some (.slice e'))\/P.underlying u=some .string) (hg:f_ kk=true)
  (hv:VC (.sl e kk) v cs) (hown:aa e own=true) (hO:Ow (hp w) own ok (.sl e kk) xs cs fo) (hnd:fo.Nodup) :
  ∃news,Src P w kk.size u v xs.length news/\∃ay:List (List Nat),ay.length=xs.length/\ay.flatten.Nodup/\(∀b∈ay.flatten,b∈fo)/\∀i (hi:i<xs.length),Ow (hp w) own ok kk xs[i] (iD news kk.size i) (ay.getD i []):=by
 unfold Ow at hO
 rw [ak hown] at hO
 obtain ⟨b,n,c,e1,e2,e3,hO⟩:=hO
 obtain ⟨e5,_⟩:cs=[v]/\_:=hv
 rw [e1] at e5
 simp only [jv,eY] at e5
 subst e5
 have e2':n=xs.length:=e2
 subst e2'
 rcases hO with ⟨hc0,hf0⟩ | ⟨bb,q,arr,lo,hi,ea,hbk,hf,hs,mV,hl0,hp0,hO⟩
 ·have hx:xs=[]:=sS (by omega)
  subst hx
  exact ⟨[],J8 hu (by simp) (by simp) (fun h=>by simp at h),[],rfl,by simp,by simp,fun i hi=>by simp at hi⟩
 ·subst ea
  have kM:=hp0.nodup hnd
  obtain ⟨news,g1,g2⟩:=Uq (P:=P) (w:=w) (n:=xs.length) (c:=c) (bb:=bb) (q:=q) hu (fun i ds=>∀hi:i<xs.length,Ow (hp w) own ok kk xs[i] ds (mV.getD i [])) (fun i hi=>by
   obtain ⟨ds,h1,h2⟩:=hO i hi
   exact ⟨ds,fP h2,h1,Mo hg h2,fun _=>h2⟩)
  exact ⟨news,g1,mV,hl0,(jg.1 kM).2,fun b hb=>hp0.mem_iff.2 (by simp [hb]),fun i hi=>g2 i hi hi⟩
theorem ai1 {kk:K} {own own':List TypeId} {ok:Nat->Prop} {xs:List (El kk)} {news:List Value} {ay:List (List Nat)} (hfl:ay.length=xs.length) (hnd:ay.flatten.Nodup) (hsub:∀t∈kk.tys,aa t own'=true->aa t own=true)
  (hel:∀i (hi:i<xs.length),Ow (hp w) own ok kk xs[i] (iD news kk.size i) (ay.getD i [])) :
  ∃(pX:List (List Nat)) (jH:List Nat),pX.length=xs.length/\(pX.flatten++jH).Nodup/\(∀b∈pX.flatten++jH,b∈ay.flatten)/\
   ∀i (hi:i<xs.length),Ow (hp w) own' (fun b=>ok b\/b∈jH) kk xs[i] (iD news kk.size i) (pX.getD i []):=by
 suffices hs:∀(n:Nat),n<=xs.length->∃(pX:List (List Nat)) (jH:List Nat),pX.length=n/\(ay.take n).flatten.Perm (pX.flatten++jH)/\
   ∀i (_:i<n) (hi:i<xs.length),Ow (hp w) own' (fun b=>ok b\/b∈jH) kk xs[i] (iD news kk.size i) (pX.getD i []) by
  obtain ⟨pX,jH,h1,h2,h3⟩:=hs xs.length (bP _)
  rw [HV (by omega)] at h2
  exact ⟨pX,jH,h1,h2.nodup hnd,fun b hb=>h2.mem_iff.2 hb,fun i hi=>h3 i hi hi⟩
 intro n
 induction n with
 | zero=>intro _; exact ⟨[],[],rfl,by simp,fun i hi=>by omega⟩
 | succ n ih=>
  intro hn
  obtain ⟨pX,jH,h1,h2,h3⟩:=ih (by omega)
  obtain ⟨f1,f2,p1,p2⟩:=xS (own':=own') hsub (hel n (by omega))
  refine ⟨pX++[f1],jH++f2,by simp [h1], ?_,fun i hi hi'=>?_⟩
  ·rw [Qd (by omega),Hy]
   have e:[ay[n]'(by omega)].flatten=ay.getD n []:=by rw [oF (show n<ay.length by omega)]; simp
   rw [e]
   refine (h2.append p1).trans ?_
   simp only [Hy,gJ]
   refine vg _ ?_
   simp only [lX,Bp,gT]
   exact FN
  ·rw [IA,h1]
   by_cases h:i<n
   ·rw [ak h]
    exact dZ (fun _ _=>rfl) (fun b hb=>hb.imp id (fun h=>by simp [h])) (fun _ _=>rfl) (h3 i h hi')
   ·have:i=n:=by omega
    subst this
    rw [aA (by omega)]
    simp only [HY]
    exact dZ (fun _ _=>rfl) (fun b hb=>hb.imp id (fun h=>by simp [h])) (fun _ _=>rfl) p2
def iO (P:Program) (cx:Cx) (Z:St) (J:aH) (F:List Nat) (a:Act) (w:World) (u e:TypeId) (kk:K) (v:Value) (s:qL kk):Prop:=
 ∃aI F1 news,Rel cx (aD s.ws Z) aI F1 a w/\(∀q,q∉s.ws.flatMap Wr.eU->Same Z J (aD s.ws Z) aI q)/\(aD s.ws Z).slots=Z.slots/\(∀q,Z.roots q=none->(aD s.ws Z).roots q=none)/\(∀b∈F,b∈F1)/\
  gG (aD s.ws Z) s.tags/\Src P w kk.size u v s.xs.length news/\
  ∀own',(∀t∈kk.tys,aa t own'=true->t∉s.bad)->∃(ay:List (List Nat)) (jH:List Nat),ay.length=s.xs.length/\(ay.flatten++jH).Nodup/\(∀b∈ay.flatten++jH,b∈F1/\b∉F)/\
   ∀i (hi:i<s.xs.length),Ow (hp w) own' (fun b=>(bH cx (aD s.ws Z) aI F1 w s.tags b/\∃t∈s.bad,mg (hp w) b t)\/b∈jH) kk s.xs[i] (iD news kk.size i) (ay.getD i [])
theorem Rv {n i:Nat}:(List.replicate n ([]:List Nat)).getD i []=[]:=by
 simp only [h_,List.getElem?_replicate]
 split <;> rfl
theorem J6 (H:Rel cx Z J F a w) {u e:TypeId} {kk:K} {v:Value} {s:qL kk} (hws:s.ws=[]) (fq:gG Z s.tags) {news:List Value} (hS:Src P w kk.size u v s.xs.length news)
  (hV:∀i (hi:i<s.xs.length),Vw (hp w) (bH cx Z J F w s.tags) kk s.xs[i] (iD news kk.size i)) (hbad:s.bad=kk.tys\/kk.flat=true\/s.xs=[]):iO P cx Z J F a w u e kk v s:=by
 refine ⟨J,F,news,by rw [hws]; exact H,by rw [hws]; exact fun q _=>vB ..,by rw [hws]; rfl,by rw [hws]; exact fun q h=>h,fun _ h=>h,by rw [hws]; exact fq,hS,fun own' ho=>?_⟩
 refine ⟨List.replicate s.xs.length [],[],by simp,by simp,by simp,fun i hi=>?_⟩
 rw [Rv,hws]
 rcases hbad with h | h | h
 ·refine dZ (fun _ _=>rfl) (fun b hb=>.inl (h▸hb)) (fun _ _=>rfl) (zi (fun t ht=>?_) (Ib kk.tys (fun _ h=>h) (hV i hi)))
  cases hm:aa t own' with
  | false=>rfl
  | true=>exact absurd (h▸ht) (ho t ht hm)
 ·exact zi (fun t ht=>by rw [Ca h] at ht; simp at ht) (nk h (hV i hi))
 ·rw [h] at hi; simp at hi
theorem acm {A:Type} {z:A} (H:Rel cx Z J F a w) {u e:TypeId} {kk:K} {x:AV} {v:Value} {k:qL kk->Prog A} (hu:(∃e',P.underlying u=some (.slice e'))\/P.underlying u=some .string) (hg:f_ kk=true)
  (hx:aW cx Z J F w x v) (hw:dQ Z x) (h:(J7 e kk x k).ends Z z):∃s:qL kk,(k s).ends Z z/\iO P cx Z J F a w u e kk v s:=by
 have sG:(qp x fun k' y tags=>match bV k' (.sl e kk) y with
   | some xs=>k ⟨xs,kk.tys,bif kk.flat then [] else tags,[],false,[]⟩
   | none=>.fail).ends Z z->∃s:qL kk,(k s).ends Z z/\iO P cx Z J F a w u e kk v s:=by
  intro h
  obtain ⟨k',y,Tg,cs,h1,h2,h3,h4⟩:=Ep H hx hw h
  cases hc:bV k' (.sl e kk) y with
  | none=>rw [hc] at h4; exact h4.elim
  | some xs=>
   rw [hc] at h4
   obtain ⟨ek,ey⟩:=ji hc
   subst ek
   simp only at ey
   subst ey
   obtain ⟨news,g1,g2⟩:=Om (P:=P) (u:=u) (xs:=xs) hu hg rfl h1 h2
   cases hf:kk.flat with
   | true=>
    rw [hf] at h4
    exact ⟨_,h4,J6 H rfl (fun t ht=>by simp at ht) g1 (fun i hi=>nk hf (g2 i hi)) (.inr (.inl hf))⟩
   | false=>
    rw [hf] at h4
    exact ⟨_,h4,J6 H rfl h3 g1 g2 (.inl rfl)⟩
 cases x with
 | val k1 y Tg=>
  cases k1 with
  | str=>
   simp only [J7] at h
   cases h1:bV (.int .u8) kk (0:Int) with
   | none=>rw [h1] at h; exact h.elim
   | some q=>
    rw [h1] at h
    obtain ⟨ek,_⟩:=ji h1
    subst ek
    simp only at h
    cases h2:bV (.sl e (.int .u8)) (.sl e (.int .u8)) (show List Int from y) with
    | none=>rw [h2] at h; exact h.elim
    | some xs=>
     rw [h2] at h
     obtain ⟨_,ey⟩:=ji h2
     simp only at ey
     subst ey
     obtain ⟨B,e1,e2⟩:=Au hx
     subst e1
     have hlen:(bytesOf B).length=B.size:=zI B
     have hS:=an0 (P:=P) (w:=w) (u:=u) (B:=B) hu
     subst e2
     refine ⟨_,h,J6 H rfl (fun t ht=>by simp at ht) (news:=B.data.toList.map fun b=>.int .u8 b.toNat) ?_ (fun i hi=>?_) (.inr (.inl rfl))⟩
     ·show Src P w 1 u _ (bytesOf B).length _
      rw [hlen]
      exact hS
     ·have hi':i<B.size:=by
       have:i<(bytesOf B).length:=hi
       rw [hlen] at this; exact this
      have hseg:iD (B.data.toList.map fun b=>Value.int .u8 b.toNat) (K.int .u8).size i=[.int .u8 (B.data.toList[i]'(by simpa using hi')).toNat]:=by
       apply Hw
       intro j
       show (iD (B.data.toList.map fun b=>Value.int .u8 b.toNat) 1 i)[j]?=_
       cases j with
       | zero=>rw [sJ (by omega)]; simp [hi']
       | succ j=>rw [uy (by rw [xx (m:=B.size) (by simp) hi']; omega)]; simp
      rw [hseg]
      have he:(bytesOf B)[i]'hi=((B.data.toList[i]'(by simpa using hi')).toNat:Int):=by simp [bytesOf]
      refine ⟨?_, ?_⟩
      ·show [Value.int .u8 _]=[Value.int .u8 _]
       congr 2
       exact he.symm
      ·show mJ .u8 _
       have:mJ .u8 ((B.data.toList[i]'(by simpa using hi')).toNat:Int):=⟨by omega,by have:=(B.data.toList[i]'(by simpa using hi')).toNat_lt; omega⟩
       exact he▸this
  | _=>exact sG h
 | fI=>
  obtain ⟨b,rfl⟩:=hx
  exact ⟨_,h,J6 H rfl (fun t ht=>by simp at ht) (news:=[]) (J8 hu (by simp) (by simp) (fun h=>by simp at h)) (fun i hi=>by simp at hi) (.inr (.inr rfl))⟩
 | ref r g=>
  simp only [J7] at h
  obtain ⟨R,hr,hv,h⟩:=iR h
  rcases bD h with ⟨hg1,h⟩ | ⟨_,h⟩
  ·have hgg:=bB hg1
   obtain ⟨hkind,jT⟩:=hx R hr hgg
   cases hc:bV R.k (.sl e kk) R.x with
   | none=>rw [hc] at h; exact h.elim
   | some xs=>
    rw [hc] at h
    simp only at h
    obtain ⟨ek,ey⟩:=ji hc
    have K:=H.roots r R hr
    have hO:=K.ow hv
    have alD:=vZ H hr hO (fun b hb=>hb)
    cases hf:kk.flat with
    | true=>
     rw [hf] at h
     have mq:Vw (hp w) (bH cx Z J F w (R.out r R.k)) (.sl e kk) xs (J.hdr r):=ag1 ek ey alD
     obtain ⟨news,g1,g2⟩:=Om (P:=P) (u:=u) (xs:=xs) hu hg rfl (ek▸jT) mq
     exact ⟨_,h,J6 H rfl (fun t ht=>by simp at ht) g1 (fun i hi=>nk hf (g2 i hi)) (.inr (.inl hf))⟩
    | false=>
     rw [hf] at h
     simp only [j6] at h
     rcases bD h with ⟨_,h⟩ | ⟨_,h⟩
     ·exact h.elim
     ·obtain ⟨H1,T1,hh,hcl⟩:=kill H hr hkind hv
      have tQ:Ow (hp w) R.own (bH cx (aK Z r iG) (jq J r) (J.fo r++F) w R.tags) (.sl e kk) xs (J.hdr r) (J.fo r):=wQ ek ey (hh.ow hcl)
      have Zb:VC (.sl e kk) v (J.hdr r):=ek▸jT
      have hsame:∀q,q∉([Wr.r r none]:List Wr).flatMap Wr.eU->Same Z J (aK Z r iG) (jq J r) q:=fun q hq=>lZ (by simpa [Wr.eU] using hq)
      have hnone:∀q,Z.roots q=none->(aK Z r iG).roots q=none:=fun q hq=>by
       rw [jV]
       ·exact hq
       ·intro e; rw [e,hr.1] at hq; simp at hq
      have uG:∀b∈J.fo r,b∉F:=fun b hb=>H.fC r R hr b (bC _ hb)
      cases hme:aa e R.own with
      | true=>
       obtain ⟨news,g1,ay,g2,g3,g4,g5⟩:=aa6 (P:=P) (u:=u) hu hg Zb hme tQ hh.nd
       rw [hme] at h
       simp only [gM,yL] at h
       refine ⟨_,h,jq J r,J.fo r++F,news,H1,hsame,rfl,hnone,fun b hb=>bC _ hb, ?_,g1,fun own' ho=>?_⟩
       ·intro t ht
        simp only at ht
        cases hal:(kk.tys.all fun t=>aa t R.own) with
        | true=>rw [hal] at ht; simp at ht
        | false=>rw [hal] at ht; exact hh.wt t ht
       ·simp only at ho ⊢
        have Ru:∀i (hi:i<List.length xs),Ow (hp w) R.own (fun b=>bH cx (aK Z r iG) (jq J r) (J.fo r++F) w (bif (kk.tys.all fun t=>aa t R.own) then [] else R.tags) b/\∃t∈bu R.own kk,mg (hp w) b t) kk xs[i] (iD news kk.size i) (ay.getD i []):=by
         intro i hi
         cases hal:(kk.tys.all fun t=>aa t R.own) with
         | false=>exact sW _ (fun _ h=>h) (g5 i hi)
         | true=>exact j4 (lu (qF hal)) (g5 i hi)
        obtain ⟨pX,jH,f1,f2,f3,f4⟩:=ai1 (own':=own') g2 g3 (fun t ht hm=>(Kg (own:=R.own) ht).resolve_left (fun hx=>ho t ht hm hx)) Ru
        exact ⟨pX,jH,f1,f2,fun b hb=>⟨bN _ (g4 b (f3 b hb)),uG b (g4 b (f3 b hb))⟩,f4⟩
      | false=>
       have hO2:=tQ
       unfold Ow at hO2
       rw [hme] at hO2 h
       simp only [bG,bE] at hO2
       simp only [j6,Bool.false_and] at h
       obtain ⟨news,g1,g2⟩:=Om (P:=P) (u:=u) (xs:=xs) hu hg rfl Zb hO2.2
       refine ⟨_,h,jq J r,J.fo r++F,news,H1,hsame,rfl,hnone,fun b hb=>bC _ hb,hh.wt,g1,fun own' ho=>?_⟩
       refine ⟨List.replicate (List.length xs) [],[],by simp,by simp,by simp,fun i hi=>?_⟩
       rw [Rv]
       refine dZ (fun _ _=>rfl) (fun b hb=>.inl hb) (fun _ _=>rfl) (zi (fun t ht=>?_) (Ib kk.tys (fun _ h=>h) (g2 i hi)))
       cases hm:aa t own' with
       | false=>rfl
       | true=>exact absurd ht (ho t ht hm)
  ·exact h.elim
 | d_ r p n=>exact sG h
 | undef=>exact sG h
 | ptr r p n=>exact sG h
 | fU bt k y T=>exact sG h
 | l_ _ _ _ _=>exact sG h
 | pz _=>exact sG h
 | part _ _ _ _ _=>exact sG h
 | nJ _ _ _ _=>exact sG h
 | sub _ _ _ _ _ _=>exact sG h
 | sel _ _ _ _ _ _=>exact sG h
 | app _ _ _ _=>exact sG h
 | kF=>exact sG h
 | fn f cs=>exact sG h
end
end
section
open Go
variable [Fr]
section
variable {P:Program} {T:bI} {cx:Cx} {Z:St} {J:aH} {F:List Nat} {a:Act} {w:World} {o:Oper} {d:Nat} {ws:List Wr} {r:Nat} {R:Root}
theorem anl (H:Rel cx Z J F a w) (hr:aU Z r R) (hv:cB Z R) (hk:R.kind=.anon) {R':Root} (hk':R'.kind=.anon) {e:TypeId} (hw:R'.w=e :: R.w) (hh:R'.h=jM :: e :: R.h) (hg:R'.g=R.g+1) (hev:R'.ew=R.ew/\R'.eh=R.eh)
  (fq:gG Z R'.tags/\∀n,(r,n)∉R'.tags) {w':World} (hos:w'.os=w.os/\w'.tape=w.tape/\w'.output=w.output) (hsize:w.heap.size<=w'.heap.size) {aF:List Nat}
  (qy:∀b,b<w.heap.size->hp w' b≠hp w b->b∈F\/(b∈J.fo r/\jR (hp w) b=some e)) (amI:∀b∈aF,b∈J.fo r\/b∈F\/(w.heap.size<=b/\b<w'.heap.size)) (hnd:aF.Nodup)
  {hdr':List Value} (hlen:hdr'.length=R'.k.size) (how:Ow (hp w') R'.own (bH cx (aK Z r R') (aR J r (J.loc r) hdr' aF) [] w' R'.tags) R'.k R'.x hdr' aF) {v':Value} (hv':VC R'.k v' hdr') :
  Rel cx (aK Z r R') (aR J r (J.loc r) hdr' aF) [] a w'/\aW cx (aK Z r R') (aR J r (J.loc r) hdr' aF) [] w' (.ref r R'.g) v':=by
 have hblk:blk J R r=J.fo r:=by simp [blk,aM,hk]
 have hd':R'.bZ=false:=by simp [Root.bZ,hk']
 have T1:vC cx Z J F w r R R' aF [] w' [e] [jM,e]:=by
  refine ⟨.inr ⟨hw,hh,by omega,hk'.trans hk.symm,fun h=>by rw [hk] at h; simp at h, .inl (by simp)⟩,fq,hos,hsize,fun b hb hne=>?_,fun _ b hb=>?_,fun b hb=>by simp at hb,mM,fun _ b _ h=>by simp at h,fun j pi b o n hj hb E5 hne=>?_,fun _=>hev⟩
  ·rcases qy b hb hne with h | ⟨h1,h2⟩
   ·exact .inl h
   ·exact .inr ⟨by rw [hblk]; exact h1, .inr (.inl ⟨e,by simp,h2⟩)⟩
  ·rw [qQ hk'] at hb
   rw [hblk]
   exact amI b hb
  ·obtain ⟨Q,hQ,hkq,_,_⟩:=H.kP j pi b o n hj hb
   have hQR:Q=R:=by have:=hQ.1; rw [<-E5,hr.1] at this; simpa using this.symm
   rw [hQR,hk] at hkq
   simp at hkq
 refine ⟨T1.rel H hr (fun _=>⟨fun _=>how,hlen,fun b o hb=>by rw [F9 hk'] at hb; simp at hb,by rw [qQ hk']; exact hnd⟩) ?_ ?_, ?_⟩
 ·intro _ p n v hn hold
  refine ⟨hold.1,fun Q hQ oJ hcl hty hs=>?_⟩
  rw [fF] at hQ
  simp only [au] at hQ
  subst hQ
  cases p with
  | nil=>
   obtain ⟨_,cs,b,o,h1,_⟩:=hold.2 R hr.1 hv (by simp [clean,iW,aa]) (fun t ht=>by simp [az] at ht) rfl
   simp only [aT,au,bS] at h1
   have:aM J R r=none:=by simp [aM,hk]
   rw [this] at h1
   simp at h1
  | cons s p=>
   have e1:R'.h=[jM,e]++R.h:=hh
   rw [e1,EA hn] at hcl
   exact absurd (show jM∈iW (s :: p) R'.k from jE) (hcl.1 jM (by simp))
 ·intro _ g v hgl hold Q hQ Nf
  obtain ⟨rfl,_⟩:=pq hQ
  omega
 ·intro Q hQ _
  obtain ⟨rfl,_⟩:=pq hQ
  refine ⟨hk', ?_⟩
  simp only [aR,upd_same]
  exact hv'
theorem NL (H:Rel cx Z J F a w) {w':World} (hs:w.heap.size<=w'.heap.size) {Tg XB:List Tag} {aF:List Nat} {b:Nat} (hb:bH cx Z J F w Tg b\/b∈F) (ht:∀t∈Tg,t∈XB) (hfo:b∉aF):bH cx Z J aF w' XB b:=by
 rcases hb with hb | hb
 ·exact ⟨xQ hb.1 hs,hfo,hb.2.2.1,fun q Q hq hbq=>(hb.2.2.2.1 q Q hq hbq).imp fun n hn=>ht _ hn,fun h0=>(hb.2.2.2.2 h0).imp (fun ⟨j,n,h1,h2⟩=>⟨j,n,ht _ h1,h2⟩) id⟩
 ·have hm:=H.fl b hb
  refine ⟨xQ hm.1 hs,hfo,A7 H hb,fun q Q hq hbq=>absurd hb (H.fC q Q hq b hbq),fun h0=>?_⟩
  rcases hm.2 with h | ⟨j,pi,h1,h2⟩
  ·omega
  ·exact .inr ⟨j,pi,h1,h2⟩
theorem JW {c:Call} (ho:o.op=.call c) (hb:c.callee=.builtin .append) {x y:Operand} (ha:c.args.toList=[x,y]) {t u:TypeId} (ht:c.argTypes[0]?=some t) (hu:c.argTypes[1]?=some u) {v':Value} {w':World}
  (h:(Builtin.append_ #[t,u] o.type #[a.eval x,a.eval y]).run P w=.ok v' w'):(execOp a.eval o).run P w=.ok (.value v') w':=by
 obtain ⟨cc,hcc⟩:=FW (P:=P) (a:=a) (w:=w) ho hb
 rw [hcc]
 have h1:c.args.map a.eval=#[a.eval x,a.eval y]:=by
  apply uV
  rw [wD,ha]
  rfl
 have h2:Builtin.append_ c.argTypes o.type #[a.eval x,a.eval y]=Builtin.append_ #[t,u] o.type #[a.eval x,a.eval y]:=by
  unfold Builtin.append_
  simp only [ht,hu]
  rfl
 rw [h1]
 simp only [builtin,dP,h2,h,fZ,fB]
end
end
section
open Go
variable [Fr]
section
variable {P:Program} {T:bI} {cx:Cx} {Z:St} {J:aH} {F:List Nat} {a:Act} {w:World} {o:Oper} {d:Nat} {ws:List Wr}
theorem XP (hT:fM P T) {Z1:St} {aI:aH} {F1:List Nat} (H1:Rel cx Z1 aI F1 a w) (hd:o.dst=some d) (hdn:d<cx.nt) {c:Call} (ho:o.op=.call c) (hcb:c.callee=.builtin .append) {x y:Operand} (ha:c.args.toList=[x,y])
  {t u e:TypeId} {kk:K} (ht0:c.argTypes[0]?=some t) (hu0:c.argTypes[1]?=some u) (hty:T.ty t=some (.sl e kk)) (hn1:Z1.roots (aG d 0)=none)
  {own:List TypeId} {tags T1 T2:List Tag} {bad:List TypeId} {gY iM:List (El kk)} {v0:Value} {gU fd:List Nat} {ay:List (List Nat)} {jH:List Nat} {news:List Value} (hv0:a.eval x=v0) (hS:Src P w kk.size u (a.eval y) iM.length news)
  (hown:aa e own=true) (ZJ:∀t,aa t own=true->t∉bad) (hwt:gG Z1 tags) (ht1:∀t∈T1,t∈tags) (ht2:∀t∈T2,t∈tags)
  (hO:Ow (hp w) own (fun b=>bH cx Z1 aI F1 w T1 b\/b∈fd) (.sl e kk) gY [v0] gU) (zX:∀b∈gU++fd,b∈F1) (kM:(gU++fd).Nodup) (hF1:∀b∈ay.flatten++jH,b∈F1/\b∉gU++fd) (sF:(ay.flatten++jH).Nodup)
  (hfl:ay.length=iM.length) (hel:∀i (hi:i<iM.length),Ow (hp w) own (fun b=>((bH cx Z1 aI F1 w T2 b\/b∈F1)/\∃t∈bad,mg (hp w) b t)\/b∈jH) kk iM[i] (iD news kk.size i) (ay.getD i []))
  (hb:(gY.length+iM.length) * T.bytes e<=140737488355328) (kp:Bool) :
  dH P cx o a w (aD [.r (aG d 0) (some (bK (.sl e kk) (gY++iM) own tags .anon kp)), .s d (.one (.ref (aG d 0) 0))] Z1):=by
 have ht:=hT.ty t _ hty
 have n0:=cK.1 kM
 have n1:=cK.1 sF
 have hlt:∀b∈F1,b<w.heap.size:=fun b h=>(H1.fl b h).1
 have SK:=zh hO
 have hnot:∀b,((bH cx Z1 aI F1 w T2 b\/b∈F1)/\∃t∈bad,mg (hp w) b t)->b∉gU:=by
  rintro b ⟨_,t,h1,h2⟩ hb0
  obtain ⟨e',_,h3,h4⟩:=SK b hb0
  have h2:=H1.C9 (H1.fl b (zX b (bN _ hb0))) h2
  rw [h2] at h4
  simp only [au] at h4
  subst h4
  exact ZJ _ h3 h1
 let ok:Nat->Prop:=fun b=>(bH cx Z1 aI F1 w T1 b\/b∈fd)\/((bH cx Z1 aI F1 w T2 b\/b∈F1)/\∃t∈bad,mg (hp w) b t)\/b∈jH
 obtain ⟨v',w',aF,hrun,hos,hsz,sw,hfo,ym,mq⟩:=XO (w:=w) (ok:=ok) (u:=u) (ty:=o.type) (x:=a.eval y) (ay:=ay) ht (dZ (fun _ _=>rfl) (fun b h=>.inl h) (fun _ _=>rfl) hO) hown
  (cK.2 ⟨n0.1,n1.1,fun b1 h1 b2 h2 e=>(hF1 b2 (bN _ h2)).2 (bN _ (e▸h1))⟩)
  (fun b hb=>by
   rcases hb with (h | h) | h | h
   ·exact ⟨fun h0=>h.2.1 (zX b (bN _ h0)),h.1⟩
   ·exact ⟨fun h0=>n0.2.2 b h0 b h rfl,hlt b (zX b (bC _ h))⟩
   ·refine ⟨hnot b h, ?_⟩
    rcases h.1 with h | h
    ·exact h.1
    ·exact hlt b h
   ·exact ⟨fun h0=>(hF1 b (bC _ h)).2 (bN _ h0),hlt b (hF1 b (bC _ h)).1⟩)
  (fun b hb=>by
   rcases bW.1 hb with h | h
   ·exact hlt b (zX b (bN _ h))
   ·exact hlt b (hF1 b (bN _ h)).1)
  hS hfl (fun i hi=>dZ (fun _ _=>rfl) (fun b h=>.inr h) (fun _ _=>rfl) (hel i hi)) hb
 have uG:∀b∈aF,b∈F1\/(w.heap.size<=b/\b<w'.heap.size):=by
  intro b hb
  rcases hfo b hb with h | h | h
  ·exact .inl (zX b (bN _ h))
  ·exact .inl (hF1 b (bN _ h)).1
  ·exact .inr h
 have T2':=FC (w':=w') (F':=aF) H1 hos hsz (fun b h1 h2=>zX b (bN _ (sw b h1 h2).1)) uG ym
 have H2:=H1.mem T2'
 have jT:VC (.sl e kk) v' [v']:=⟨rfl,by
  unfold Ow at mq
  rw [ak hown] at mq
  obtain ⟨b,n,c,e1,_⟩:=mq
  simp only [jv,eY] at e1
  rw [e1]; simp⟩
 have hok:∀b,ok b->bH cx Z1 aI aF w' tags b:=by
  intro b hb
  have hnew:b<w.heap.size->¬(w.heap.size<=b/\b<w'.heap.size):=fun h=>by omega
  rcases hb with (h | h) | h | h
  ·refine NL H1 hsz (.inl h) ht1 (fun hb=>?_)
   rcases hfo b hb with h2 | h2 | h2
   ·exact h.2.1 (zX b (bN _ h2))
   ·exact h.2.1 (hF1 b (bN _ h2)).1
   ·exact hnew h.1 h2
  ·have hF:=zX b (bC _ h)
   refine NL H1 hsz (Tg:=[]) (.inr hF) (by simp) (fun hb=>?_)
   rcases hfo b hb with h2 | h2 | h2
   ·exact n0.2.2 b h2 b h rfl
   ·exact (hF1 b (bN _ h2)).2 (bC _ h)
   ·exact hnew (hlt b hF) h2
  ·refine NL H1 hsz h.1 ht2 (fun hb=>?_)
   have hlt':b<w.heap.size:=by
    rcases h.1 with h | h
    ·exact h.1
    ·exact hlt b h
   rcases hfo b hb with h2 | h2 | h2
   ·exact hnot b h h2
   ·obtain ⟨l,hl,hbl⟩:=Bt.1 h2
    obtain ⟨i,hi,rfl⟩:=sU.1 hl
    have:=zh (hel i (by omega)) b (by rw [oF hi]; exact hbl)
    obtain ⟨e',_,h3,h4⟩:=this
    obtain ⟨_,t,h5,h6⟩:=h
    have h6:=H1.C9 (H1.fl b (hF1 b (bN _ h2)).1) h6
    rw [h6] at h4
    simp only [au] at h4
    subst h4
    exact ZJ _ h3 h5
   ·exact hnew hlt' h2
  ·have hF:=(hF1 b (bC _ h)).1
   refine NL H1 hsz (Tg:=[]) (.inr hF) (by simp) (fun hb=>?_)
   rcases hfo b hb with h2 | h2 | h2
   ·exact (hF1 b (bC _ h)).2 (bN _ h2)
   ·exact n1.2.2 b h2 b h rfl
   ·exact hnew (hlt b hF) h2
 obtain ⟨ko,k1,k2⟩:=Ej (k:=.sl e kk) (x:=gY++iM) (own:=own) (tags:=tags) (v:=v') (cs:=[v']) (fo:=aF) (r:=aG d 0) (F':=[]) H2 hn1 (qa d 0)
  (fun b hb=>hb) ym hwt (fun b hb=>by simp at hb) mM rfl (fun _=>dZ (fun _ _=>rfl) (fun b hb=>.inl (hok b hb)) (fun _ _=>rfl) mq) jT kp
 exact o7 (x:=.one (.ref (aG d 0) 0)) k1 hd hdn (JW ho hcb ha ht0 hu0 (by rw [hv0]; exact hrun)) k2 ⟨_,fF .., .inr (gq _)⟩
theorem XL {ws:List Wr} {tags:List Tag} (h:zC ws tags=true):∀t∈tags,t.1∉ws.flatMap Wr.eU:=fun t ht=>by
 have:=eO.1 h t ht
 simpa [gV] using this
theorem aaS {ws:List Wr} {r:Nat} (h:(ws.all fun w=>!w.loc.beq (.r r))=true):r∉ws.flatMap Wr.eU:=by
 intro hm
 obtain ⟨wr,h1,h2⟩:=jY.1 hm
 have:=eO.1 h wr h1
 cases wr with
 | s n x=>simp [Wr.eU] at h2
 | r n x=>
  simp only [Wr.eU,fV] at h2
  subst h2
  simp [Wr.loc,Loc.beq] at this
theorem aib (hT:fM P T) (H:Rel cx Z J F a w) (hd:o.dst=some d) (hdn:d<cx.nt) {c:Call} (ho:o.op=.call c) (hcb:c.callee=.builtin .append)
  (h:(o8 c.args.toList fun
   | [a,b]=>match c.argTypes[0]?,(c.argTypes[1]?).bind T.ty with
    | some t,some (.sl _ _)=>Eo T d t a b fun ws=>(.ret ws:Prog (List Wr))
    | some t,some .str=>Eo T d t a b fun ws=>(.ret ws:Prog (List Wr))
    | _,_=>.fail
   | _=>.fail).ends Z ws):dH P cx o a w (aD ws Z):=by
 obtain ⟨vs,h1,h2,h⟩:=w_ H h
 obtain ⟨u,v,x,y,t,ut,hvs,ha,hx,hy,ht0,hu0,alA,h9⟩:∃u v x y t ut,vs=[u,v]/\c.args.toList=[x,y]/\aW cx Z J F w u (a.eval x)/\aW cx Z J F w v (a.eval y)/\c.argTypes[0]?=some t/\c.argTypes[1]?=some ut/\
   ((∃e',P.underlying ut=some (.slice e'))\/P.underlying ut=some .string)/\(Eo T d t u v fun ws=>(.ret ws:Prog (List Wr))).ends Z ws:=by
  split at h
  ·rename_i u v
   have hargs:∃x y,c.args.toList=[x,y]/\aW cx Z J F w u (a.eval x)/\aW cx Z J F w v (a.eval y):=by
    revert h1
    generalize c.args.toList=l
    intro h1
    cases l with
    | nil=>exact h1.elim
    | cons x l=>
     cases l with
     | nil=>exact h1.2.elim
     | cons y l=>
      cases l with
      | nil=>exact ⟨x,y,rfl,h1.1,h1.2.1⟩
      | cons _ _=>exact h1.2.2.elim
   obtain ⟨x,y,e1,e2,e3⟩:=hargs
   split at h
   ·rename_i t e k e4 e5
    obtain ⟨ut,e6,e7⟩:=uo hT e5
    exact ⟨u,v,x,y,t,ut,rfl,e1,e2,e3,e4,e6, .inl ⟨_,e7.sl.1⟩,h⟩
   ·rename_i t e4 e5
    obtain ⟨ut,e6,e7⟩:=uo hT e5
    exact ⟨u,v,x,y,t,ut,rfl,e1,e2,e3,e4,e6, .inr e7.str,h⟩
   ·exact h.elim
  ·exact h.elim
 clear h
 have h:=h9
 clear h9
 subst hvs
 have hwu:=h2 u (by simp)
 have hwv:=h2 v (by simp)
 unfold Eo at h
 cases hty:T.ty t with
 | none=>rw [hty] at h; exact h.elim
 | some k0=>
  rw [hty] at h
  cases k0 with
  | sl e kk=>
   have ht:=hT.ty t _ hty
   simp only at h
   obtain ⟨s,h8,aI,F1,news,H1,hsame,aoQ,hnone,RI,hwt,hS,hels⟩:=acm (P:=P) (u:=ut) H alA ht.sl.2.1.f_ hy hwv h
   clear h
   rcases bD h8 with ⟨_,h⟩ | ⟨hbad,h⟩
   ·exact h.elim
   clear h8
   cases u with
   | fI=>
    obtain ⟨b0,hv0⟩:=hx
    obtain ⟨hb,h⟩:=h
    obtain ⟨hn,h⟩:=pY h
    rw [bz h,ou]
    have ho1:aa e (e :: fu kk.tys s.bad)=true:=b_.2 (by simp)
    have ho2:∀t,aa t (e :: fu kk.tys s.bad)=true->t∉s.bad:=fun t ht=>by
     rcases bT.1 (b_.1 ht) with h | h
     ·rw [h]; exact gV.1 hbad
     ·exact (qd.1 (b_.2 h)).2
    obtain ⟨ay,jH,f1,f2,f3,f4⟩:=hels (e :: fu kk.tys s.bad) (fun t _ ht=>ho2 t ht)
    exact XP hT H1 hd hdn ho hcb ha ht0 hu0 hty (hnone _ hn) (gY:=[]) (v0:=.slice b0 0 0) (gU:=[]) (fd:=[]) (T1:=[]) (T2:=s.tags) (bad:=s.bad) hv0 hS ho1 ho2 hwt (by simp) (fun _ h=>h) FE (by simp) (by simp)
     (fun b hb=>⟨(f3 b hb).1,by simp⟩) f2 f1 (fun i hi=>dZ (fun _ _=>rfl) (fun b hb=>hb.imp (fun h=>⟨.inl h.1,h.2⟩) id) (fun _ _=>rfl) (f4 i hi)) (by simpa using hb) s.keep
   | d_ r p n=>
    obtain ⟨R,hr,hv,h⟩:=iR h
    rcases bD h with ⟨hc,h⟩ | ⟨_,h⟩
    ·simp only [bg] at hc
     obtain ⟨⟨⟨⟨⟨⟨⟨c1,c2⟩,c3⟩,c4⟩,c5⟩,c6⟩,c7⟩,c8⟩:=hc
     cases hg:aB p R.k R.x with
     | none=>rw [hg] at h; exact h.elim
     | some dd=>
      rw [hg] at h
      simp only at h
      cases hck:bV dd.1 (.sl e kk) dd.2 with
      | none=>rw [hck] at h; exact h.elim
      | some xs=>
       rw [hck] at h
       cases hga:xg R p dd with
       | none=>rw [hga] at h; exact h.elim
       | some R'=>
        rw [hga] at h
        simp only at h
        obtain ⟨hb,h⟩:=h
        obtain ⟨hn,h⟩:=pY h
        rw [bz h,ou]
        obtain ⟨ek,ey⟩:=ji hck
        unfold xg at hga
        cases hz:cz p R.k R.x (oG dd) with
        | none=>rw [hz] at hga; simp at hga
        | some z=>
         rw [hz] at hga
         simp only [au] at hga
         have eR:R'=kL R dd z:=by rw [<-hga]; rfl
         have hSr:=hsame r (aaS c7)
         have hr1:=(hSr.live R).2 hr
         have hv1:cB (aD s.ws Z) R:=⟨hv.1,by rw [rX (fun t ht=>(hsame t.1 (XL c8 t ht)).root)]; exact hv.2⟩
         obtain ⟨dh,hown,cs0,xA,hn0,RX⟩:=hx R hr.1 hv (bB c1) dd hg
         have hpv:p≠[]\/∃t,R.kind=.var t:=by
          rw [nZ] at c3
          rcases c3 with h | h
          ·exact .inl (by simpa using h)
          ·refine .inr ?_
           unfold Root.isVar at h
           cases hk:R.kind with
           | var t=>exact ⟨t,rfl⟩
           | _=>rw [hk] at h; simp at h
         obtain ⟨cs1,cu,aX,rest,g1,g2,g3,g4,g5,g6⟩:=gap H1 hr1 hv1 hg hz dh hown hpv
         rw [hSr.hdr,hSr.wh,hn0] at g1
         simp only [au,bS] at g1
         obtain ⟨rfl,rfl⟩:=g1
         have hcl:cO (aK (aD s.ws Z) r (kL R dd z)) (bu R.own dd.1) R.tags=true:=by
          rw [g5]
          exact BL hv1.2 (fun _ h=>h) (Ol p hg hown)
         have M4:=wQ (y:=xs) ek ey (g4.ow hcl)
         have ho1:aa e (fu ((e :: kk.tys).filter fun t=>aa t R.own) s.bad)=true:=qd.2 ⟨b_.2 (eG.2 ⟨by simp,c5⟩),gV.1 hbad⟩
         have ho2:∀t,aa t (fu ((e :: kk.tys).filter fun t=>aa t R.own) s.bad)=true->t∉s.bad:=fun t ht=>(qd.1 ht).2
         obtain ⟨gU,fd,hp0,tQ⟩:=xS (own':=fu ((e :: kk.tys).filter fun t=>aa t R.own) s.bad) (fun t _ hm=>(eG.1 (b_.1 (qd.1 hm).1)).2) M4
         obtain ⟨ay,jH,f1,f2,f3,f4⟩:=hels (fu ((e :: kk.tys).filter fun t=>aa t R.own) s.bad) (fun t _ ht=>ho2 t ht)
         have akA:∀b∈aX,b∉F1:=fun b hb hF=>(cK.1 g2.iw).2.2 b hb b hF rfl
         have hcs:∃v0,cs0=[v0]/\a.eval x=v0:=by
          have IM:VC (.sl e kk) (a.eval x) cs0:=ek▸RX
          exact ⟨_,IM.1,rfl⟩
         obtain ⟨v0,Ra,ev0⟩:=hcs
         subst Ra
         subst eR
         have hne:aG d 0≠r:=fun e=>by have:=hr.1; rw [<-e,hn] at this; simp at this
         refine XP hT g2 hd hdn ho hcb ha ht0 hu0 hty (by rw [jV _ _ hne]; exact hnone _ hn) (gY:=xs) (v0:=v0) (gU:=gU) (fd:=fd) (T1:=R.tags) (T2:=s.tags) (bad:=s.bad) (ay:=ay) (jH:=jH) ev0 hS ho1 ho2
          (fun t ht=>?_) (fun t ht=>mG.2 (.inr ht)) (fun t ht=>mG.2 (.inl ht)) tQ (fun b hb=>bN _ (hp0.mem_iff.2 hb)) (hp0.nodup g4.nd)
          (fun b hb=>⟨bC _ (f3 b hb).1,fun hb'=>akA b (hp0.mem_iff.2 hb') (f3 b hb).1⟩) f2 f1 (fun i hi=>dZ (fun _ _=>rfl) (fun b hb=>?_) (fun _ _=>rfl) (f4 i hi)) hb _
         ·rcases mG.1 ht with h | h
          ·exact g3.tag (hwt t h)
          ·exact g4.wt t h
         ·rcases hb with ⟨hb,hbt⟩ | hb
          ·refine .inl ⟨?_,hbt⟩
           by_cases hbf:b∈aX
           ·exact .inr (bN _ hbf)
           ·refine .inl ⟨hb.1,fun h=>?_,hb.2.2.1,fun q Q hq hbq=>?_,hb.2.2.2.2⟩
            ·rcases bW.1 h with h | h
             ·exact hbf h
             ·exact hb.2.1 h
            ·rcases ug hq with ⟨rfl,rfl,_⟩ | ⟨eq,hq'⟩
             ·refine hb.2.2.2.1 q R hr1 ?_
              rw [pU,zH (show (kL R dd z).kind=R.kind from rfl)] at hbq
              rw [jG]
              rw [mW] at hbq ⊢
              exact hbq.imp id (fun h=>g6.mem_iff.2 (bC _ h))
             ·rw [(lZ (J:=aI) (Z:=aD s.ws Z) (R:=kL R dd z) eq).blk] at hbq
              exact hb.2.2.2.1 q Q hq' hbq
          ·exact .inr hb
    ·exact h.elim
   | ref r g=>
    obtain ⟨R,hr,hv,h⟩:=iR h
    rcases bD h with ⟨hc,h⟩ | ⟨_,h⟩
    ·simp only [bg] at hc
     obtain ⟨⟨⟨⟨⟨c1,c4⟩,c5⟩,c6⟩,c7⟩,c8⟩:=hc
     cases hck:bV R.k (.sl e kk) R.x with
     | none=>rw [hck] at h; exact h.elim
     | some xs=>
      rw [hck] at h
      simp only at h
      obtain ⟨hb,h⟩:=h
      rw [bz h,ou]
      obtain ⟨ek,ey⟩:=ji hck
      have hSr:=hsame r (aaS c7)
      have hr1:=(hSr.live R).2 hr
      have hv1:cB (aD s.ws Z) R:=⟨hv.1,by rw [rX (fun t ht=>(hsame t.1 (XL c8 t ht)).root)]; exact hv.2⟩
      obtain ⟨hkind,RX⟩:=hx R hr (bB c1)
      have K1:=H1.roots r R hr1
      have Nn:=H1.gz r R hr1.1
      have hfr:blk aI R r=aI.fo r:=by simp [blk,aM,hkind]
      have uG:∀b∈aI.fo r,b∉F1:=fun b hb=>H1.fC r R hr1 b (by rw [hfr]; exact hb)
      have IM:VC (.sl e kk) (a.eval x) (aI.hdr r):=by rw [hSr.hdr]; exact ek▸RX
      have M4:Ow (hp w) R.own (bH cx (aD s.ws Z) aI F1 w R.tags) (.sl e kk) xs [a.eval x] (aI.fo r):=by
       have:=wQ (y:=xs) ek ey (K1.ow hv1)
       rw [IM.1] at this
       exact this
      have ho1:aa e (fu R.own s.bad)=true:=qd.2 ⟨c5,gV.1 hbad⟩
      have ho2:∀t,aa t (fu R.own s.bad)=true->t∉s.bad:=fun t ht=>(qd.1 ht).2
      have hnd:(aI.fo r).Nodup:=by rw [<-hfr]; exact K1.nd
      obtain ⟨gU,fd,hp0,tQ⟩:=xS (own':=fu R.own s.bad) (fun t _ hm=>(qd.1 hm).1) M4
      obtain ⟨ay,jH,f1,f2,f3,f4⟩:=hels (fu R.own s.bad) (fun t _ ht=>ho2 t ht)
      have vS:∀b∈gU,b∈aI.fo r:=fun b hb=>hp0.mem_iff.2 (bN _ hb)
      have hfd0:∀b∈fd,b∈aI.fo r:=fun b hb=>hp0.mem_iff.2 (bC _ hb)
      have n0:=cK.1 (hp0.nodup hnd)
      have n1:=cK.1 f2
      have hlt:∀b∈aI.fo r,b<w.heap.size:=fun b hb=>(K1.mine b (by rw [hfr]; exact hb)).1
      have Sm:∀b∈F1,b<w.heap.size:=fun b hb=>(H1.fl b hb).1
      have SK:=zh tQ
      have hnot:∀b,(∃t∈s.bad,mg (hp w) b t)->b∉gU:=by
       rintro b ⟨t,h1,h2⟩ hb0
       obtain ⟨e',_,h3,h4⟩:=SK b hb0
       have h2:=H1.C9 (K1.mine b (by rw [hfr]; exact vS b hb0)) h2
       rw [h2] at h4
       simp only [au] at h4
       subst h4
       exact ho2 _ h3 h1
      let ok:Nat->Prop:=fun b=>(bH cx (aD s.ws Z) aI F1 w R.tags b\/b∈fd)\/(bH cx (aD s.ws Z) aI F1 w s.tags b/\∃t∈s.bad,mg (hp w) b t)\/b∈jH
      have hRr:∀b,bH cx (aD s.ws Z) aI F1 w R.tags b->b∉aI.fo r:=by
       intro b hb hbr
       obtain ⟨n,hn⟩:=hb.2.2.2.1 r R hr1 (by rw [hfr]; exact hbr)
       exact Nn.2.2 n hn
      obtain ⟨v',w',aF,hrun,hos,hsz,sw,hfo,ym,mq⟩:=XO (w:=w) (ok:=ok) (u:=ut) (ty:=o.type) (x:=a.eval y) (ay:=ay) ht (dZ (fun _ _=>rfl) (fun b h=>.inl h) (fun _ _=>rfl) tQ) ho1
       (cK.2 ⟨n0.1,n1.1,fun b1 h1 b2 h2 e=>uG b1 (vS b1 h1) (e▸(f3 b2 (bN _ h2)).1)⟩)
       (fun b hb=>by
        rcases hb with (h | h) | h | h
        ·exact ⟨fun h0=>hRr b h (vS b h0),h.1⟩
        ·exact ⟨fun h0=>n0.2.2 b h0 b h rfl,hlt b (hfd0 b h)⟩
        ·exact ⟨hnot b h.2,h.1.1⟩
        ·exact ⟨fun h0=>uG b (vS b h0) (f3 b (bC _ h)).1,Sm b (f3 b (bC _ h)).1⟩)
       (fun b hb=>by
        rcases bW.1 hb with h | h
        ·exact hlt b (vS b h)
        ·exact Sm b (f3 b (bN _ h)).1)
       hS f1 (fun i hi=>dZ (fun _ _=>rfl) (fun b h=>.inr h) (fun _ _=>rfl) (f4 i hi)) hb
      have jT:VC (.sl e kk) v' [v']:=⟨rfl,by
       have h5:=mq
       unfold Ow at h5
       rw [ak ho1] at h5
       obtain ⟨b,n,c,e1,_⟩:=h5
       simp only [jv,eY] at e1
       rw [e1]; simp⟩
      have ak1:∀b,ok b->b∉aF/\b<w.heap.size:=by
       intro b hb
       have hlt':b<w.heap.size:=by
        rcases hb with (h | h) | h | h
        ·exact h.1
        ·exact hlt b (hfd0 b h)
        ·exact h.1.1
        ·exact Sm b (f3 b (bC _ h)).1
       refine ⟨fun hbf=>?_,hlt'⟩
       rcases hfo b hbf with h2 | h2 | h2
       ·rcases hb with (h | h) | h | h
        ·exact hRr b h (vS b h2)
        ·exact n0.2.2 b h2 b h rfl
        ·exact hnot b h.2 h2
        ·exact uG b (vS b h2) (f3 b (bC _ h)).1
       ·have hF:=(f3 b (bN _ h2)).1
        rcases hb with (h | h) | h | h
        ·exact h.2.1 hF
        ·exact uG b (hfd0 b h) hF
        ·exact h.1.2.1 hF
        ·exact n1.2.2 b h2 b h rfl
       ·omega
      have hnext:∀(j:Nat) (n:Nat),(jy j,n)∈s.tags->(jy j,n)∈lN (rZ r s.tags) R.tags:=by
       intro j n hj
       refine mG.2 (.inl (yB.2 ⟨hj,fun e=>?_⟩))
       have:=Nn.2.1
       rw [<-e] at this
       simp only at this
       rw [uJ] at this
       simp at this
      obtain ⟨k1,k2⟩:=anl (R':={ R with k:=.sl e kk,x:=xs++s.xs,own:=fu R.own s.bad,tags:=lN (rZ r s.tags) R.tags,w:=e :: R.w,h:=jM :: e :: R.h,g:=R.g+1,keep:=R.keep || s.keep })
       (v':=v') (hdr':=[v']) (aF:=aF) (w':=w') H1 hr1 hv1 hkind hkind rfl rfl rfl ⟨rfl,rfl⟩ ⟨fun t ht=>(mG.1 ht).elim (fun h=>hwt t (yB.1 h).1) (Nn.1 t),fun n hn=>(mG.1 hn).elim (fun h=>(yB.1 h).2 rfl) (Nn.2.2 n)⟩
       hos hsz (fun b h1 h2=>.inr ⟨vS b (sw b h1 h2).1,(sw b h1 h2).2⟩) (fun b hb=>by
        rcases hfo b hb with h | h | h
        ·exact .inl (vS b h)
        ·exact .inr (.inl (f3 b (bN _ h)).1)
        ·exact .inr (.inr h)) ym rfl
       (dZ (k:=.sl e kk) (fun _ _=>rfl) (fun b hb=>by
        obtain ⟨z1,z2⟩:=ak1 b hb
        refine ⟨xQ z2 hsz,by simp, ?_,fun q Q hq hbq=>?_,fun h0=>?_⟩
        ·rcases hb with (h | h) | h | h
         ·exact h.2.2.1
         ·exact zV H1 hr1 (hfd0 b h)
         ·exact h.1.2.2.1
         ·exact A7 H1 (f3 b (bC _ h)).1
        ·rcases ug hq with ⟨rfl,rfl,_⟩ | ⟨eq,hq'⟩
         ·rw [pU] at hbq
          have hbq:b∈aF:=by simpa [jh,hkind] using hbq
          exact absurd hbq z1
         ·rw [(lZ (J:=aI) (Z:=aD s.ws Z) (R:={ R with k:=.sl e kk,x:=xs++s.xs,own:=fu R.own s.bad,tags:=lN (rZ r s.tags) R.tags,w:=e :: R.w,h:=jM :: e :: R.h,g:=R.g+1,keep:=R.keep || s.keep }) eq).blk] at hbq
          rcases hb with (h | h) | h | h
          ·exact (h.2.2.2.1 q Q hq' hbq).imp fun n hn=>mG.2 (.inr hn)
          ·exact absurd hbq (H1.lT r R q Q hr1 hq' (Ne.symm eq) b (by rw [hfr]; exact hfd0 b h))
          ·exact (h.1.2.2.2.1 q Q hq' hbq).imp fun n hn=>mG.2 (.inl (yB.2 ⟨hn,eq⟩))
          ·exact absurd (f3 b (bC _ h)).1 (H1.fC q Q hq' b hbq)
        ·have jU:Ow.mine cx w b->(∃j n,(jy j,n)∈lN (rZ r s.tags) R.tags/\cx.ext j b)\/∃j pi,cx.par j=some pi/\b∈pi.bl:=fun hm=>by
          rcases hm.2 with h | ⟨j,pi,h1,h2⟩
          ·omega
          ·exact .inr ⟨j,pi,h1,h2⟩
         rcases hb with (h | h) | h | h
         ·exact (h.2.2.2.2 h0).imp (fun ⟨j,n,h1,h2⟩=>⟨j,n,mG.2 (.inr h1),h2⟩) id
         ·exact jU (K1.mine b (by rw [hfr]; exact hfd0 b h))
         ·exact (h.1.2.2.2.2 h0).imp (fun ⟨j,n,h1,h2⟩=>⟨j,n,hnext j n h1,h2⟩) id
         ·exact jU (H1.fl b (f3 b (bC _ h)).1)) (fun _ _=>rfl) mq) jT
      exact o7 (x:=.one (.ref r (R.g+1))) k1 hd hdn (JW ho hcb ha ht0 hu0 hrun) k2 ⟨_,fF .., .inr (bP _)⟩
    ·exact h.elim
   | val _ _ _=>exact h.elim
   | undef=>exact h.elim
   | ptr _ _ _=>exact h.elim
   | fU _ _ _ _=>exact h.elim
   | l_ _ _ _ _=>exact h.elim
   | pz _=>exact h.elim
   | part _ _ _ _ _=>exact h.elim
   | nJ _ _ _ _=>exact h.elim
   | sub _ _ _ _ _ _=>exact h.elim
   | sel _ _ _ _ _ _=>exact h.elim
   | app _ _ _ _=>exact h.elim
   | kF=>exact h.elim
   | fn _ _=>exact h.elim
  | _=>exact h.elim
end
end
section
open Go
variable [Fr]
section
variable {P:Program} {T:bI} {cx:Cx} {Z:St} {J:aH} {F:List Nat} {a:Act} {w:World} {o:Oper} {d:Nat} {ws:List Wr}
def yf (kk:K):List (Nat×eX)->qL kk->Option (qL kk)
 | [],b=>some b
 | (n,tk) :: l,b=>match bV tk.k kk tk.x with
  | some y=>bif Nat.beq n (dU b.xs) then yf kk l { xs:=b.xs++[y],bad:=tk.bad++b.bad,tags:=lN (tk.iQ) b.tags,ws:=b.ws++tk.ws,keep:=tk.keep || b.keep,all:=tk.tags++b.all } else none
  | none=>none
theorem aiZ {A:Type} {z:A} (H:Rel cx Z J F a w) {kk:K} {k:qL kk->Prog A}:∀{l:List (Nat×AV)} {vs:List Value} {b:qL kk},iP cx Z J F w (l.map (·.2)) vs->(∀v∈l,dQ Z v.2)->(Ip kk l b k).ends Z z->
  ∃(tks:List eX) (b':qL kk),tks.length=l.length/\vs.length=l.length/\(∀it∈vs.zip tks,rU cx Z J F w it.1 it.2)/\yf kk ((l.map (·.1)).zip tks) b=some b'/\(k b').ends Z z:=by
 intro l
 induction l with
 | nil=>
  intro vs b h1 _ h
  cases vs with
  | nil=>exact ⟨[],b,rfl,rfl,by simp,rfl,h⟩
  | cons v vs=>exact h1.elim
 | cons p l ih=>
  obtain ⟨n,x⟩:=p
  intro vs b h1 h2 h
  cases vs with
  | nil=>exact h1.elim
  | cons v vs=>
   simp only [Ip] at h
   obtain ⟨tk,htk,h5⟩:=Ap H h1.1 (h2 (n,x) (by simp)) h
   cases hc:bV tk.k kk tk.x with
   | none=>rw [hc] at h5; exact h5.elim
   | some y=>
    rw [hc] at h5
    simp only at h5
    rcases bD h5 with ⟨hn,h6⟩ | ⟨_,h6⟩
    ·obtain ⟨tks,b',g1,g2,g3,g4,g5⟩:=ih h1.2 (fun v hv=>h2 v (by simp [hv])) h6
     refine ⟨tk :: tks,b',by simp [g1],by simp [g2], ?_, ?_,g5⟩
     ·intro it hit
      rw [Bv] at hit
      rcases bT.1 hit with h | h
      ·subst h; exact htk
      ·exact g3 it h
     ·rw [lG,Bv]
      unfold yf
      simp only [hc,hn,gM]
      exact g4
    ·exact h6.elim
theorem aiY {kk:K}:∀(l:List (Nat×eX)) {b b':qL kk},yf kk l b=some b'->
  b'.ws=b.ws++l.flatMap (fun p=>p.2.ws)/\(∀p∈l,∀t∈p.2.tags,t∈b'.all)/\(∀p∈l,∀t∈p.2.bad,t∈b'.bad)/\(∀t∈b.bad,t∈b'.bad)/\
  (∀p∈l,∀t∈p.2.iQ,t∈b'.tags)/\(∀t∈b.tags,t∈b'.tags)/\(∀t∈b'.tags,t∈b.tags\/∃p∈l,t∈p.2.iQ)/\(∀t∈b.all,t∈b'.all)/\b'.xs.length=b.xs.length+l.length:=by
 intro l
 induction l with
 | nil=>
  intro b b' h
  simp only [yf,au] at h
  subst h
  simp
 | cons p l ih=>
  obtain ⟨n,tk⟩:=p
  intro b b' h
  unfold yf at h
  cases hc:bV tk.k kk tk.x with
  | none=>rw [hc] at h; simp at h
  | some y=>
   rw [hc] at h
   simp only at h
   cases hn:Nat.beq n (dU b.xs) with
   | false=>rw [hn] at h; simp at h
   | true=>
    rw [hn] at h
    simp only [gM] at h
    obtain ⟨g1,g2,g3,g4,g5,g6,g7,g8,g9⟩:=ih h
    refine ⟨by rw [g1]; simp, ?_, ?_,fun t ht=>g4 t (by simp [ht]), ?_,fun t ht=>g6 t (mG.2 (.inr ht)), ?_,fun t ht=>g8 t (by simp [ht]),by rw [g9]; simp; omega⟩
    ·intro p hp t ht
     rcases bT.1 hp with h | h
     ·subst h; exact g8 t (by simp [ht])
     ·exact g2 p h t ht
    ·intro p hp t ht
     rcases bT.1 hp with h | h
     ·subst h; exact g4 t (by simp [ht])
     ·exact g3 p h t ht
    ·intro p hp t ht
     rcases bT.1 hp with h | h
     ·subst h; exact g6 t (mG.2 (.inl ht))
     ·exact g5 p h t ht
    ·intro t ht
     rcases g7 t ht with h | ⟨p,h1,h2⟩
     ·rcases mG.1 h with h | h
      ·exact .inr ⟨(n,tk),by simp,h⟩
      ·exact .inl h
     ·exact .inr ⟨p,by simp [h1],h2⟩
theorem aiX {h:Heap} {own:List TypeId} {ok:Nat->Prop} {kk:K} {N:Nat} :
  ∀(l:List (Nat×eX)) {vs:List Value} {iH:List (List Nat)} {b b':qL kk} {cells:Array Value} {ay:List (List Nat)},b.xs.length+l.length<=N->cells.size=N * kk.size->ay.length=b.xs.length->
   (∀i (hi:i<b.xs.length),Ow h own ok kk b.xs[i] (iD cells.toList kk.size i) (ay.getD i []))->zm h own ok l vs iH->yf kk l b=some b'->
   ∃cells',Instr.fill (fun i=>some (i * kk.size,kk.size)) cells ((l.map (·.1)).zip vs)=some cells'/\cells'.size=N * kk.size/\(ay++iH).length=b'.xs.length/\
    ∀i (hi:i<b'.xs.length),Ow h own ok kk b'.xs[i] (iD cells'.toList kk.size i) ((ay++iH).getD i []):=by
 intro l
 induction l with
 | nil=>
  intro vs iH b b' cells ay hN hs hf hO hP hb
  cases vs with
  | nil=>
   cases iH with
   | nil=>
    simp only [yf,au] at hb
    subst hb
    exact ⟨cells,rfl,hs,by simpa using hf,by simpa using hO⟩
   | cons f fs=>exact hP.elim
  | cons v vs=>cases iH <;> exact hP.elim
 | cons p l ih=>
  obtain ⟨n,tk⟩:=p
  intro vs iH b b' cells ay hN hs hf hO hP hb
  cases vs with
  | nil=>cases iH <;> exact hP.elim
  | cons v vs=>
   cases iH with
   | nil=>exact hP.elim
   | cons ft iH=>
    obtain ⟨⟨cst,hv,II⟩,hP'⟩:=hP
    unfold yf at hb
    cases hc:bV tk.k kk tk.x with
    | none=>rw [hc] at hb; simp at hb
    | some y=>
     rw [hc] at hb
     simp only at hb
     cases hn:Nat.beq n (dU b.xs) with
     | false=>rw [hn] at hb; simp at hb
     | true=>
      rw [hn] at hb
      simp only [gM] at hb
      have en:n=b.xs.length:=by rw [bB hn,qD]
      subst en
      obtain ⟨ek,ey⟩:=ji hc
      have Y1:Ow h own ok kk y cst ft:=wQ ek ey II
      have hcl:cst.length=kk.size:=fP Y1
      have kE:v.cells=cst.toArray:=by
       have:=hv.cells
       apply uV
       simpa using this
      simp only [ig] at hN
      have hle:(b.xs.length+1) * kk.size<=N * kk.size:=kC _ (by omega)
      rw [iT,m_] at hle
      have hoff:b.xs.length * kk.size+cst.length<=cells.size:=by rw [hs,hcl]; exact hle
      rw [lG,Bv,Rm (place:=fun i=>some (i * kk.size,kk.size)) (off:=b.xs.length * kk.size) (vs:=cst) (by simp [hcl]) kE hoff]
      have hsz:(cells.toList.take (b.xs.length * kk.size)++(cst++cells.toList.drop (b.xs.length * kk.size+cst.length))).toArray.size=N * kk.size:=by
       simp
       omega
      obtain ⟨cells',g1,g2,g3,g4⟩:=ih (ay:=ay++[ft]) (b:={ xs:=b.xs++[y],bad:=tk.bad++b.bad,tags:=lN (tk.iQ) b.tags,ws:=b.ws++tk.ws,keep:=tk.keep || b.keep,all:=tk.tags++b.all }) (by simp; omega) hsz (by simp [hf]) (by
       intro i hi
       simp only [bX,ig,mZ,og] at hi
       rw [IA]
       by_cases h0:i<b.xs.length
       ·rw [ak (by rw [hf]; exact h0)]
        have e1:(b.xs++[y])[i]'(by simp; omega)=b.xs[i]:=Br h0
        show Ow h own ok kk ((b.xs++[y])[i]'(by simp; omega)) _ _
        rw [e1]
        have e2:iD (cells.toList.take (b.xs.length * kk.size)++(cst++cells.toList.drop (b.xs.length * kk.size+cst.length))) kk.size i=iD cells.toList kk.size i:=by
         have hl2:(i+1) * kk.size<=b.xs.length * kk.size:=kC _ (by omega)
         rw [iT,m_] at hl2
         apply Hw
         intro j
         by_cases hj:j<kk.size
         ·rw [sJ hj,sJ hj,za (by simp; omega),Mc (by omega)]
         ·unfold iD
          rw [uy (by simp; omega),uy (by simp; omega)]
        simp only
        rw [e2]
        exact hO i h0
       ·have:i=b.xs.length:=by omega
        subst this
        rw [aA (by omega),hf,HY]
        have e1:(b.xs++[y])[b.xs.length]'(by simp)=y:=by simp
        show Ow h own ok kk ((b.xs++[y])[b.xs.length]'(by simp)) _ _
        rw [e1]
        have e2:iD (cells.toList.take (b.xs.length * kk.size)++(cst++cells.toList.drop (b.xs.length * kk.size+cst.length))) kk.size b.xs.length=cst:=by
         have hl:(cells.toList.take (b.xs.length * kk.size)).length=b.xs.length * kk.size:=by simp; omega
         unfold iD
         conv=>lhs; arg 2; arg 1; rw [<-hl]
         rw [List.drop_left, <-hcl,List.take_left]
        simp only
        rw [e2]
        exact Y1) hP' hb
      refine ⟨cells',g1,g2, ?_, ?_⟩
      ·rw [<-g3]; simp
      ·intro i hi
       have:=g4 i hi
       simp only [gJ,lF,rO] at this
       exact this
end
end
end Go.Proofs.YtailcbngagacaabGreat.Ow
