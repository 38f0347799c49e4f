/- A verified reading of translated code, part D of 7. No condition. -/
import Derived.Test.YtplpeegfeajkkaaGreatDoorOwC
set_option linter.unusedSectionVars false
set_option linter.unusedVariables false
set_option linter.unusedSimpArgs false
namespace Go.Proofs.YtplpeegfeajkkaaGreatDoor.Ow
section
open Go
variable [Fr]
def iy(news:List Value)(s i:Nat):List Value:=(news.drop (i*s)).take s
theorem xI{news:List Value}{s i m:Nat}(h:news.length=m*s)(hi:i<m):(iy news s i).length=s:=by
 unfold iy
 have:(i+1)*s<=m*s:=j4 _ hi
 rw[iZ,nD]at this
 simp
 omega
theorem tu{news:List Value}{s i j:Nat}(hj:j<s):(iy news s i)[j]?=news[i*s+j]?:=by
 unfold iy
 rw[MP,aj hj,BB]
theorem I7{ay qc:List (List Nat)}{i:Nat}:(ay++qc).getD i []=if i<ay.length then ay.getD i []else qc.getD (i-ay.length) []:=by
 simp only[iR,List.getElem?_append]
 split<;>rfl
section
variable {P:Program}{T:bL}{w:World}
theorem Y9{t u ty e:TypeId}{kk:K}(ht:dO P T t (.sl e kk)){own:List TypeId}{ok:Nat->Prop}{gY iN:List (El kk)}{v0 x:Value}{gX:List Nat}{ay:List (List Nat)}{news:List Value}
  (hO:Ow (hp w) own ok (.sl e kk) gY [v0] gX) (hown:ah e own=true) (hnd:(gX++ay.flatten).Nodup) (hok:∀b,ok b->b∉gX/\b<w.heap.size) (hlt:∀b∈gX++ay.flatten,b<w.heap.size)
  (hS:Src P w kk.size u x iN.length news) (hfl:ay.length=iN.length) (hel:∀i (hi:i<iN.length),Ow (hp w) own ok kk iN[i] (iy news kk.size i) (ay.getD i []))
  (hb:(gY.length+iN.length)*T.bytes e<=140737488355328) :
  ∃v' w' aM,(Builtin.append_ #[t,u] ty #[v0,x]).run P w=.ok v' w'/\(w'.os=w.os/\w'.tape=w.tape/\w'.output=w.output)/\w.heap.size<=w'.heap.size/\
   (∀b,b<w.heap.size->hp w' b≠hp w b->b∈gX/\jM (hp w) b=some e)/\(∀b∈aM,b∈gX\/b∈ay.flatten\/(w.heap.size<=b/\b<w'.heap.size))/\aM.Nodup/\
   Ow (hp w') own ok (.sl e kk) (gY++iN) [v'] aM:=by
 have hsz:0<kk.size:=ht.sl.2.2.1
 have hnl:=hS.nl
 unfold Ow at hO
 rw[aj hown]at hO
 obtain⟨a,n,c,e1,e2,e3,hO⟩:=hO
 simp only[jr,fM]at e1
 subst e1
 have e2':n=gY.length:=e2
 have hnd':=dH.1 hnd
 by_cases hr:n+iN.length<=c
 ·have hrun:=OP (ty:=ty) ht hS (b:=a) (n:=n) hr
  rcases hO with⟨hc0,hf0⟩|⟨b,o,arr,lo,hi,ea,hbk,hf,hs,ng,hl0,hp0,hO⟩
  ·have hx1:iN=[]:=tV (by omega)
   have hx0:gY=[]:=tV (by omega)
   subst hx1
   subst hx0
   have hnews:news=[]:=tV (by simpa using hnl)
   subst hnews
   have hn0:n=0:=by simpa using e2'
   subst hn0
   subst hc0
   have:(Builtin.append_ #[t,u] ty #[.slice a 0 0,x]).run P w=.ok (.slice a 0 0) w:=by
    rw[hrun]
    cases a<;>rfl
   exact⟨_,w,[],this,⟨rfl,rfl,rfl⟩,bV _,λb _ h=>absurd rfl h,λb hb=>by simp at hb,lZ,J4⟩
  ·subst ea
   have hle:(n+iN.length)*kk.size<=c*kk.size:=j4 _ hr
   rw[iZ]at hle
   have hst:=Kk (P:=P) (o:=o+n*kk.size) news hbk hf (by rw[hnl];omega) hS.one
   simp only[Result.andThen,addr_add,hst]at hrun
   obtain⟨s1,s2,gH,s3,s4,s5,s6⟩:=FZ b news w arr e (lo,hi) (o+n*kk.size) hbk (by rw[hnl];omega)
   have s7:=F3 b news w (o+n*kk.size)
   have hb0:b∈gX:=hp0.mem_iff.2 (by simp)
   have kC:=hp0.nodup hnd'.1
   have hne:∀b'∈ng.flatten++ay.flatten,b'≠b:=by
    intro b' hb' e
    subst e
    rcases dD.1 hb' with h|h
    ·exact(jg.1 kC).1 h
    ·exact hnd'.2.2 b' hb0 b' h rfl
   have aa9:∀b',ok b'->hp (w.setCells b (o+n*kk.size) news) b'=hp w b':=λb' h=>s1 b' (λe=>(hok b' h).1 (e▸hb0))
   refine⟨_,_,b :: (ng.flatten++ay.flatten),hrun,s7,by omega,?_,?_,?_,?_⟩
   ·intro b' _ hne'
    by_cases e:b'=b
    ·subst e;exact⟨hb0,by unfold jM;rw[hbk]⟩
    ·exact absurd (s1 b' e) hne'
   ·intro b' hb'
    rcases bW.1 hb' with h|h
    ·subst h;exact .inl hb0
    ·rcases dD.1 h with h|h
     ·exact .inl (hp0.mem_iff.2 (by simp[h]))
     ·exact .inr (.inl h)
   ·refine jg.2 ⟨λh=>hne b h rfl,dH.2 ⟨(jg.1 kC).2,hnd'.2.1,λb1 h1 b2 h2 e=>hnd'.2.2 b1 (hp0.mem_iff.2 (by simp[h1])) b2 h2 e⟩⟩
   ·unfold Ow
    rw[aj hown]
    refine⟨_,_,_,rfl,by simp[e2'],hr,.inr ⟨b,o,gH,lo,hi,rfl,s3,by rw[s4];exact hf,by rw[s4];exact hs,ng++ay,by simp[hl0,hfl],by simp,λi hi=>?_⟩⟩
    have hi':i<gY.length+iN.length:=by simpa using hi
    rw[I7]
    by_cases hi0:i<gY.length
    ·obtain⟨ds,h1,h2⟩:=hO i hi0
     have aoc:i<ng.length:=by rw[hl0];exact hi0
     rw[aj aoc]
     have hx:(gY++iN)[i]'hi=gY[i]:=zy hi0
     refine⟨ds,λj hj=>?_,?_⟩
     ·have hdl:=fU h2
      have hlt2:(i+1)*kk.size<=n*kk.size:=j4 _ (by omega)
      rw[iZ,nD]at hlt2
      have:=h1 j hj
      unfold cellAt at this ⊢
      rw[hbk]at this
      rw[s3]
      simp only at this ⊢
      rw[s6 _ (by rw[hnl];omega)]
      exact this
     ·show Ow _ own ok kk ((gY++iN)[i]'hi) ds _
      rw[hx]
      exact eO aa9 (λ_ h=>h) (λb' hb'=>s1 b' (hne b' (bQ _ (wB hb')))) h2
    ·have hi1:i-gY.length<iN.length:=by omega
     rw[aC (by rw[hl0];exact hi0)]
     have hx:(gY++iN)[i]'hi=iN[i-gY.length]:=MR (by omega)
     have hfe:i-ng.length=i-gY.length:=by rw[hl0]
     rw[hfe]
     refine⟨iy news kk.size (i-gY.length),λj hj=>?_,?_⟩
     ·rw[xI hnl hi1]at hj
      unfold cellAt
      rw[s3,tu hj]
      simp only
      have e4:o+i*kk.size+j=o+n*kk.size+((i-gY.length)*kk.size+j):=by
       have:i*kk.size=n*kk.size+(i-gY.length)*kk.size:=by rw[<-iZ];congr 1;omega
       omega
      rw[e4]
      refine s5 _ ?_
      rw[hnl]
      have:(i-gY.length+1)*kk.size<=iN.length*kk.size:=j4 _ hi1
      rw[iZ,nD]at this
      omega
     ·show Ow _ own ok kk ((gY++iN)[i]'hi) _ _
      rw[hx]
      exact eO aa9 (λ_ h=>h) (λb' hb'=>s1 b' (hne b' (bH _ (wB hb')))) (hel _ hi1)
 ·
  obtain⟨olds,ho1,ho2,ng,hl0,hf0,NC⟩:∃olds,olds.length=n*kk.size/\(Builtin.firstCells kk.size n (.slice a n c)).run P w.drew=.ok olds.toArray w.drew/\∃ng:List (List Nat),ng.length=gY.length/\((∀b∈ng.flatten,b∈gX)/\ng.flatten.Nodup)/\
    ∀i (hi:i<gY.length),Ow (hp w) own ok kk gY[i] (iy olds kk.size i) (ng.getD i []):=by
   rcases hO with⟨hc0,hf0⟩|⟨b,o,arr,lo,hi,ea,hbk,hf,hs,ng,hl0,hp0,hO⟩
   ·have hx0:gY=[]:=tV (by omega)
    subst hx0
    have hn0:n=0:=by simpa using e2'
    subst hn0
    refine⟨[],by simp,?_,[],rfl,⟨by simp,by simp⟩,λi hi=>by simp at hi⟩
    cases a with
    |none=>exact UY w.drew kk.size 0 0 c
    |some ad=>exact CY (P:=P) w.drew kk.size 0 ad 0 c [] (by simp) (λj v hj=>by simp at hj)
   ·subst ea
    have hle:n*kk.size<=c*kk.size:=j4 _ e3
    have hrow:=Gl (n:=n*kk.size) hbk (by omega:o+n*kk.size<=arr.size)
    have hrl:(iW (hp w) b o (n*kk.size)).length=n*kk.size:=by simp[iW]
    have kC:=hp0.nodup hnd'.1
    refine⟨iW (hp w) b o (n*kk.size),hrl,?_,ng,hl0,⟨λb' hb'=>hp0.mem_iff.2 (by simp[hb']),(jg.1 kC).2⟩,λi hi=>?_⟩
    ·refine CY (P:=P) w.drew kk.size n ⟨b,o,none⟩ n c _ hrl (λj v hj=>?_)
     rw[addr_add,zU]
     have:=hrow j (by rw[hrl];have:=(qB.1 hj).1;rw[hrl]at this;exact this)
     rw[hj]at this
     exact this
    ·obtain⟨ds,h1,h2⟩:=hO i hi
     have hdl:=fU h2
     have:iy (iW (hp w) b o (n*kk.size)) kk.size i=ds:=by
      apply Io
      intro j
      by_cases hj:j<kk.size
      ·rw[tu hj]
       have hlt2:(i+1)*kk.size<=n*kk.size:=j4 _ (by omega)
       rw[iZ,nD]at hlt2
       rw[<-hrow _ (by rw[hrl];omega),<-oF]
       exact h1 j (by omega)
      ·rw[uO (by rw[xI hrl (by omega)];omega),uO (by omega)]
     rw[this]
     exact h2
  obtain⟨nc,hnc,hrun⟩:=UX (ty:=ty) ht hS ho2 hr (by rw[e2'];exact hb)
  have hnew:=EX w.drew (.cells (olds.toArray++news.toArray++Builtin.zeroCells (jB kk).cells (nc-(n+iN.length))) e)
  have hold:∀b',b'<w.heap.size->hp (w.drew.alloc (.cells (olds.toArray++news.toArray++Builtin.zeroCells (jB kk).cells (nc-(n+iN.length))) e)) b'=hp w b':=λb' h=>CB w.drew _ h
  have hws:w.drew.heap.size=w.heap.size:=rfl
  rw[hws]at hnew
  have hsz2:(w.drew.alloc (.cells (olds.toArray++news.toArray++Builtin.zeroCells (jB kk).cells (nc-(n+iN.length))) e)).heap.size=w.heap.size+1:=Array.size_push ..
  have hzl:(jB kk).cells.size=kk.size:=by
   rw[Gg ht.sl.2.1.shape]
   simpa using fU (Db (h:=hp w) (own:=own) (ok:=ok) ht.sl.2.1.gy)
  have hall:∀b'∈ng.flatten++ay.flatten,b'<w.heap.size:=by
   intro b' hb'
   rcases dD.1 hb' with h|h
   ·exact hlt b' (bQ _ (hf0.1 b' h))
   ·exact hlt b' (bH _ h)
  refine⟨_,_,w.heap.size :: (ng.flatten++ay.flatten),hrun,⟨rfl,rfl,rfl⟩,by omega,λb' hb' hne=>absurd (hold b' hb') hne,?_,?_,?_⟩
  ·intro b' hb'
   rcases bW.1 hb' with h|h
   ·subst h;exact .inr (.inr ⟨bV _,by omega⟩)
   ·rcases dD.1 h with h|h
    ·exact .inl (hf0.1 b' h)
    ·exact .inr (.inl h)
  ·refine jg.2 ⟨λh=>by have:=hall _ h;omega,dH.2 ⟨hf0.2,hnd'.2.1,λb1 h1 b2 h2 e=>hnd'.2.2 b1 (hf0.1 b1 h1) b2 h2 e⟩⟩
  ·unfold Ow
   rw[aj hown]
   refine⟨_,_,_,rfl,by simp[e2'],hnc,.inr ⟨w.heap.size,0,_,0,0,rfl,hnew,jq.zero,?_,ng++ay,by simp[hl0,hfl],by simp,λi hi=>?_⟩⟩
   ·simp only[Array.size_append,DX,size_zeroCells,hzl,ho1,hnl,<-iZ]
    have:n+iN.length+(nc-(n+iN.length))=nc:=by omega
    rw[this]
    omega
   have hi':i<gY.length+iN.length:=by simpa using hi
   rw[I7]
   have hcell:∀q,q<(olds++news).length->cellAt (hp (w.drew.alloc (.cells (olds.toArray++news.toArray++Builtin.zeroCells (jB kk).cells (nc-(n+iN.length))) e))) w.heap.size (0+q)=(olds++news)[q]?:=by
    intro q hq
    unfold cellAt
    rw[hnew]
    simp only[nR]
    rw[Pb (by simpa using hq)]
    simp
   by_cases hi0:i<gY.length
   ·rw[aj (by rw[hl0];exact hi0)]
    have hx:(gY++iN)[i]'hi=gY[i]:=zy hi0
    refine⟨iy olds kk.size i,λj hj=>?_,?_⟩
    ·rw[xI ho1 (by omega)]at hj
     have hlt2:(i+1)*kk.size<=n*kk.size:=j4 _ (by omega)
     rw[iZ,nD]at hlt2
     rw[oF,hcell _ (by rw[dN,ho1];omega),xY (by rw[ho1];omega),tu hj]
    ·show Ow _ own ok kk ((gY++iN)[i]'hi) _ _
     rw[hx]
     exact eO (λb' h=>hold b' (hok b' h).2) (λ_ h=>h) (λb' hb'=>hold b' (hall b' (bQ _ (wB hb')))) (NC i hi0)
   ·have hi1:i-gY.length<iN.length:=by omega
    rw[aC (by rw[hl0];exact hi0)]
    have hx:(gY++iN)[i]'hi=iN[i-gY.length]:=MR (by omega)
    have hfe:i-ng.length=i-gY.length:=by rw[hl0]
    rw[hfe]
    refine⟨iy news kk.size (i-gY.length),λj hj=>?_,?_⟩
    ·rw[xI hnl hi1]at hj
     have hlt2:(i-gY.length+1)*kk.size<=iN.length*kk.size:=j4 _ hi1
     rw[iZ,nD]at hlt2
     have e4:i*kk.size=n*kk.size+(i-gY.length)*kk.size:=by rw[<-iZ];congr 1;omega
     rw[oF,hcell _ (by rw[dN,ho1,hnl];omega),xZ (by rw[ho1];omega),tu hj]
     congr 1
     rw[ho1]
     omega
    ·show Ow _ own ok kk ((gY++iN)[i]'hi) _ _
     rw[hx]
     exact eO (λb' h=>hold b' (hok b' h).2) (λ_ h=>h) (λb' hb'=>hold b' (hall b' (bH _ (wB hb')))) (hel _ hi1)
end
end
section
open Go
variable [Fr]
section
variable {P:Program}{T:bL}{cx:Cx}{Z:St}{J:aO}{F:List Nat}{a:Act}{w:World}
theorem akn{k l:K}(e:k=l){x:El k}{y:El l}(ey:y=e▸x){h:Heap}{ok:Nat->Prop}{cs:List Value}(H:Vw h ok k x cs):Vw h ok l y cs:=by subst e;subst ey;exact H
theorem wY{k l:K}(e:k=l){x:El k}{y:El l}(ey:y=e▸x){h:Heap}{own:List TypeId}{ok:Nat->Prop}{cs:List Value}{fo:List Nat}(H:Ow h own ok k x cs fo):Ow h own ok l y cs fo:=by subst e;subst ey;exact H
theorem UU{u:TypeId}{size n c bb q:Nat}(hu:(∃e',P.underlying u=some (.slice e'))\/P.underlying u=some .string)(Q:Nat->List Value->Prop)
  (hE:∀i,i<n->∃ds,ds.length=size/\Cells (hp w) bb (q+i*size) ds/\(∀v∈ds,v.oneCell'=true)/\Q i ds) :
  ∃news,Src P w size u (.slice (some ⟨bb,q,none⟩) n c) n news/\∀i,i<n->Q i (iy news size i):=by
 have hrl:(iW (hp w) bb q (n*size)).length=n*size:=by simp[iW]
 have hseg:∀i,i<n->∃ds,iy (iW (hp w) bb q (n*size)) size i=ds/\ds.length=size/\Cells (hp w) bb (q+i*size) ds/\(∀v∈ds,v.oneCell'=true)/\Q i ds:=by
  intro i hi
  obtain⟨ds,hdl,h1,h2,h3⟩:=hE i hi
  refine⟨ds,?_,hdl,h1,h2,h3⟩
  apply Io
  intro j
  by_cases hj:j<size
  ·rw[tu hj]
   have hlt2:(i+1)*size<=n*size:=j4 _ (by omega)
   rw[iZ,nD]at hlt2
   unfold iW
   rw[DV,MO (by omega)]
   have:=h1 j (by omega)
   simp only[o_]
   rw[<-oF,this,jl (by omega)]
   rfl
  ·rw[uO (by rw[xI hrl hi];omega),uO (by omega)]
 have hcell:∀j,j<n*size->cellAt (hp w) bb (q+j)=(iW (hp w) bb q (n*size))[j]?/\∀v,(iW (hp w) bb q (n*size))[j]?=some v->v.oneCell'=true:=by
  intro j hj
  have hk:0<size:=by
   rcases Nat.eq_zero_or_pos size with h|h
   ·rw[h]at hj;omega
   ·exact h
  have hi:j / size<n:=Nat.div_lt_of_lt_mul (by rw[Nat.mul_comm];exact hj)
  have hm:j%size<size:=Nat.mod_lt _ hk
  obtain⟨ds,s1,hdl,s2,s3,_⟩:=hseg _ hi
  have hjj:j / size*size+j%size=j:=by rw[Nat.mul_comm];exact Nat.div_add_mod j size
  have h1:(iW (hp w) bb q (n*size))[j]?=ds[j%size]?:=by
   rw[<-s1,tu hm,hjj]
  have h2:=s2 (j%size) (by omega)
  rw[oF,hjj]at h2
  refine⟨by rw[h2,h1],λv hv=>?_⟩
  rw[h1]at hv
  exact s3 v (rq hv)
 refine⟨iW (hp w) bb q (n*size),Kr hu hrl (λv hv=>?_) (λ_=>⟨bb,q,rfl,λi hi=>(hcell i (by rw[hrl]at hi;exact hi)).1⟩),λi hi=>?_⟩
 ·obtain⟨j,hj,rfl⟩:=qC.1 hv
  exact(hcell j (by rw[hrl]at hj;exact hj)).2 _ (jl hj)
 ·obtain⟨ds,s1,_,_,_,s3⟩:=hseg i hi
  rw[s1]
  exact s3
theorem O8{u e:TypeId}{kk:K}{h:Heap}{ok:Nat->Prop}{xs:List (El kk)}{v:Value}{cs:List Value}(hu:(∃e',P.underlying u=some (.slice e'))\/P.underlying u=some .string)(hg:gy kk=true)
  (hh:h=hp w) (hv:VC (.sl e kk) v cs) (hV:Vw h ok (.sl e kk) xs cs) :
  ∃news,Src P w kk.size u v xs.length news/\∀i (hi:i<xs.length),Vw h ok kk xs[i] (iy news kk.size i):=by
 subst hh
 obtain⟨b,n,c,e1,e2,e3,e4,e5⟩:=CZ hv hV
 subst e1
 subst e3
 by_cases h0:0<xs.length
 ·obtain⟨bb,q,eb,hok,hel,hE⟩:=e5 h0
  subst eb
  obtain⟨news,g1,g2⟩:=UU (P:=P) (w:=w) (n:=xs.length) (c:=c) (bb:=bb) (q:=q) hu (λi ds=>∀hi:i<xs.length,Vw (hp w) ok kk xs[i] ds) (λi hi=>by
   obtain⟨ds,h1,h2⟩:=hE i hi
   exact⟨ds,nV h2,h1,M9 hg h2,λ_=>h2⟩)
  exact⟨news,g1,λi hi=>g2 i hi hi⟩
 ·have hx:xs=[]:=tV (by omega)
  subst hx
  exact⟨[],Kr hu (by simp) (by simp) (λh=>by simp at h),λi hi=>by simp at hi⟩
theorem acD{u e:TypeId}{kk:K}{own:List TypeId}{ok:Nat->Prop}{xs:List (El kk)}{v:Value}{cs:List Value}{fo:List Nat}(hu:(∃e',P.underlying u=some (.slice e'))\/P.underlying u=some .string)(hg:gy kk=true)
  (hv:VC (.sl e kk) v cs) (hown:ah e own=true) (hO:Ow (hp w) own ok (.sl e kk) xs cs fo) (hnd:fo.Nodup) :
  ∃news,Src P w kk.size u v xs.length news/\∃ay:List (List Nat),ay.length=xs.length/\ay.flatten.Nodup/\(∀b∈ay.flatten,b∈fo)/\∀i (hi:i<xs.length),Ow (hp w) own ok kk xs[i] (iy news kk.size i) (ay.getD i []):=by
 unfold Ow at hO
 rw[aj hown]at hO
 obtain⟨b,n,c,e1,e2,e3,hO⟩:=hO
 obtain⟨e5,_⟩:cs=[v]/\_:=hv
 rw[e1]at e5
 simp only[jr,fM]at e5
 subst e5
 have e2':n=xs.length:=e2
 subst e2'
 rcases hO with⟨hc0,hf0⟩|⟨bb,q,arr,lo,hi,ea,hbk,hf,hs,ng,hl0,hp0,hO⟩
 ·have hx:xs=[]:=tV (by omega)
  subst hx
  exact⟨[],Kr hu (by simp) (by simp) (λh=>by simp at h),[],rfl,by simp,by simp,λi hi=>by simp at hi⟩
 ·subst ea
  have kC:=hp0.nodup hnd
  obtain⟨news,g1,g2⟩:=UU (P:=P) (w:=w) (n:=xs.length) (c:=c) (bb:=bb) (q:=q) hu (λi ds=>∀hi:i<xs.length,Ow (hp w) own ok kk xs[i] ds (ng.getD i [])) (λi hi=>by
   obtain⟨ds,h1,h2⟩:=hO i hi
   exact⟨ds,fU h2,h1,M5 hg h2,λ_=>h2⟩)
  exact⟨news,g1,ng,hl0,(jg.1 kC).2,λb hb=>hp0.mem_iff.2 (by simp[hb]),λi hi=>g2 i hi hi⟩
theorem amr{kk:K}{own own':List TypeId}{ok:Nat->Prop}{xs:List (El kk)}{news:List Value}{ay:List (List Nat)}(hfl:ay.length=xs.length)(hnd:ay.flatten.Nodup)(hsub:∀t∈kk.tys,ah t own'=true->ah t own=true)
  (hel:∀i (hi:i<xs.length),Ow (hp w) own ok kk xs[i] (iy news kk.size i) (ay.getD i [])) :
  ∃(qc:List (List Nat)) (jG:List Nat),qc.length=xs.length/\(qc.flatten++jG).Nodup/\(∀b∈qc.flatten++jG,b∈ay.flatten)/\
   ∀i (hi:i<xs.length),Ow (hp w) own' (λb=>ok b\/b∈jG) kk xs[i] (iy news kk.size i) (qc.getD i []):=by
 suffices hs:∀(n:Nat),n<=xs.length->∃(qc:List (List Nat)) (jG:List Nat),qc.length=n/\(ay.take n).flatten.Perm (qc.flatten++jG)/\
   ∀i (_:i<n) (hi:i<xs.length),Ow (hp w) own' (λb=>ok b\/b∈jG) kk xs[i] (iy news kk.size i) (qc.getD i []) by
  obtain⟨qc,jG,h1,h2,h3⟩:=hs xs.length (bV _)
  rw[DZ (by omega)]at h2
  exact⟨qc,jG,h1,h2.nodup hnd,λb hb=>h2.mem_iff.2 hb,λi hi=>h3 i hi hi⟩
 intro n
 induction n with
 |zero=>intro _;exact⟨[],[],rfl,by simp,λi hi=>by omega⟩
 |succ n ih=>
  intro hn
  obtain⟨qc,jG,h1,h2,h3⟩:=ih (by omega)
  obtain⟨f1,f2,p1,p2⟩:=yg (own':=own') hsub (hel n (by omega))
  refine⟨qc++[f1],jG++f2,by simp[h1],?_,λi hi hi'=>?_⟩
  ·rw[D5 (by omega),QM]
   have e:[ay[n]'(by omega)].flatten=ay.getD n []:=by rw[oP (show n<ay.length by omega)];simp
   rw[e]
   refine(h2.append p1).trans ?_
   simp only[QM,gD]
   refine vL _ ?_
   simp only[nO,MN,iq]
   exact FP
  ·rw[I7,h1]
   by_cases h:i<n
   ·rw[aj h]
    exact eO (λ_ _=>rfl) (λb hb=>hb.imp id (λh=>by simp[h])) (λ_ _=>rfl) (h3 i h hi')
   ·have:i=n:=by omega
    subst this
    rw[aC (by omega)]
    simp only[Iq]
    exact eO (λ_ _=>rfl) (λb hb=>hb.imp id (λh=>by simp[h])) (λ_ _=>rfl) p2
def Q5(P:Program)(cx:Cx)(Z:St)(J:aO)(F:List Nat)(a:Act)(w:World)(u e:TypeId)(kk:K)(v:Value)(s:qX kk):Prop:=
 ∃aP F1 news,Rel cx (aL s.ws Z) aP F1 a w/\(∀q,q∉s.ws.flatMap Wr.fA->Same Z J (aL s.ws Z) aP q)/\(aL s.ws Z).slots=Z.slots/\(∀q,Z.roots q=none->(aL s.ws Z).roots q=none)/\(∀b∈F,b∈F1)/\
  gB (aL s.ws Z) s.tags/\Src P w kk.size u v s.xs.length news/\
  ∀own',(∀t∈kk.tys,ah t own'=true->t∉s.bad)->∃(ay:List (List Nat)) (jG:List Nat),ay.length=s.xs.length/\(ay.flatten++jG).Nodup/\(∀b∈ay.flatten++jG,b∈F1/\b∉F)/\
   ∀i (hi:i<s.xs.length),Ow (hp w) own' (λb=>(bK cx (aL s.ws Z) aP F1 w s.tags b/\∃t∈s.bad,mh (hp w) b t)\/b∈jG) kk s.xs[i] (iy news kk.size i) (ay.getD i [])
theorem Sm{n i:Nat}:(List.replicate n ([]:List Nat)).getD i []=[]:=by
 simp only[iR,List.getElem?_replicate]
 split<;>rfl
theorem Ko(H:Rel cx Z J F a w){u e:TypeId}{kk:K}{v:Value}{s:qX kk}(hws:s.ws=[])(fE:gB Z s.tags){news:List Value}(hS:Src P w kk.size u v s.xs.length news)
  (hV:∀i (hi:i<s.xs.length),Vw (hp w) (bK cx Z J F w s.tags) kk s.xs[i] (iy news kk.size i)) (hbad:s.bad=kk.tys\/kk.flat=true\/s.xs=[]):Q5 P cx Z J F a w u e kk v s:=by
 refine⟨J,F,news,by rw[hws];exact H,by rw[hws];exact λq _=>vN ..,by rw[hws];rfl,by rw[hws];exact λq h=>h,λ_ h=>h,by rw[hws];exact fE,hS,λown' ho=>?_⟩
 refine⟨List.replicate s.xs.length [],[],by simp,by simp,by simp,λi hi=>?_⟩
 rw[Sm,hws]
 rcases hbad with h|h|h
 ·refine eO (λ_ _=>rfl) (λb hb=>.inl (h▸hb)) (λ_ _=>rfl) (BG (λt ht=>?_) (IB kk.tys (λ_ h=>h) (hV i hi)))
  cases hm:ah t own' with
  |false=>rfl
  |true=>exact absurd (h▸ht) (ho t ht hm)
 ·exact BG (λt ht=>by rw[EF h]at ht;simp at ht) (nG h (hV i hi))
 ·rw[h]at hi;simp at hi
theorem aeo{A:Type}{z:A}(H:Rel cx Z J F a w){u e:TypeId}{kk:K}{x:AV}{v:Value}{k:qX kk->Prog A}(hu:(∃e',P.underlying u=some (.slice e'))\/P.underlying u=some .string)(hg:gy kk=true)
  (hx:a_ cx Z J F w x v) (hw:dV Z x) (h:(Kq e kk x k).ends Z z):∃s:qX kk,(k s).ends Z z/\Q5 P cx Z J F a w u e kk v s:=by
 have sU:(qH x λk' y tags=>match b_ k' (.sl e kk) y with
   |some xs=>k ⟨xs,kk.tys,bif kk.flat then []else tags,[],false,[]⟩
   |none=>.fail).ends Z z->∃s:qX kk,(k s).ends Z z/\Q5 P cx Z J F a w u e kk v s:=by
  intro h
  obtain⟨k',y,Tg,cs,h1,h2,h3,h4⟩:=En H hx hw h
  cases hc:b_ k' (.sl e kk) y with
  |none=>rw[hc]at h4;exact h4.elim
  |some xs=>
   rw[hc]at h4
   obtain⟨ek,ey⟩:=ji hc
   subst ek
   simp only at ey
   subst ey
   obtain⟨news,g1,g2⟩:=O8 (P:=P) (u:=u) (xs:=xs) hu hg rfl h1 h2
   cases hf:kk.flat with
   |true=>
    rw[hf]at h4
    exact⟨_,h4,Ko H rfl (λt ht=>by simp at ht) g1 (λi hi=>nG hf (g2 i hi)) (.inr (.inl hf))⟩
   |false=>
    rw[hf]at h4
    exact⟨_,h4,Ko H rfl h3 g1 g2 (.inl rfl)⟩
 cases x with
 |val k1 y Tg=>
  cases k1 with
  |str=>
   simp only[Kq]at h
   cases h1:b_ (.int .u8) kk (0:Int)with
   |none=>rw[h1]at h;exact h.elim
   |some q=>
    rw[h1]at h
    obtain⟨ek,_⟩:=ji h1
    subst ek
    simp only at h
    cases h2:b_ (.sl e (.int .u8)) (.sl e (.int .u8)) (show List Int from y)with
    |none=>rw[h2]at h;exact h.elim
    |some xs=>
     rw[h2]at h
     obtain⟨_,ey⟩:=ji h2
     simp only at ey
     subst ey
     obtain⟨B,e1,e2⟩:=AP hx
     subst e1
     have hlen:(bytesOf B).length=B.size:=yw B
     have hS:=asW (P:=P) (w:=w) (u:=u) (B:=B) hu
     subst e2
     refine⟨_,h,Ko H rfl (λt ht=>by simp at ht) (news:=B.data.toList.map λb=>.int .u8 b.toNat) ?_ (λi hi=>?_) (.inr (.inl rfl))⟩
     ·show Src P w 1 u _ (bytesOf B).length _
      rw[hlen]
      exact hS
     ·have hi':i<B.size:=by
       have:i<(bytesOf B).length:=hi
       rw[hlen]at this;exact this
      have hseg:iy (B.data.toList.map λb=>Value.int .u8 b.toNat) (K.int .u8).size i=[.int .u8 (B.data.toList[i]'(by simpa using hi')).toNat]:=by
       apply Io
       intro j
       show(iy (B.data.toList.map λb=>Value.int .u8 b.toNat) 1 i)[j]?=_
       cases j with
       |zero=>rw[tu (by omega)];simp[hi']
       |succ j=>rw[uO (by rw[xI (m:=B.size) (by simp) hi'];omega)];simp
      rw[hseg]
      have he:(bytesOf B)[i]'hi=((B.data.toList[i]'(by simpa using hi')).toNat:Int):=by simp[bytesOf]
      refine⟨?_,?_⟩
      ·show [Value.int .u8 _]=[Value.int .u8 _]
       congr 2
       exact he.symm
      ·show lH .u8 _
       have:lH .u8 ((B.data.toList[i]'(by simpa using hi')).toNat:Int):=⟨by omega,by have:=(B.data.toList[i]'(by simpa using hi')).toNat_lt;omega⟩
       exact he▸this
  |_=>exact sU h
 |fZ=>
  obtain⟨b,rfl⟩:=hx
  exact⟨_,h,Ko H rfl (λt ht=>by simp at ht) (news:=[]) (Kr hu (by simp) (by simp) (λh=>by simp at h)) (λi hi=>by simp at hi) (.inr (.inr rfl))⟩
 |ref r g=>
  simp only[Kq]at h
  obtain⟨R,hr,hv,h⟩:=iA h
  rcases bF h with⟨hg1,h⟩|⟨_,h⟩
  ·have hgg:=bD hg1
   obtain⟨hkind,jO⟩:=hx R hr hgg
   cases hc:b_ R.k (.sl e kk) R.x with
   |none=>rw[hc]at h;exact h.elim
   |some xs=>
    rw[hc]at h
    simp only at h
    obtain⟨ek,ey⟩:=ji hc
    have K:=H.roots r R hr
    have hO:=K.ow hv
    have apd:=wE H hr hO (λb hb=>hb)
    cases hf:kk.flat with
    |true=>
     rw[hf]at h
     have mq:Vw (hp w) (bK cx Z J F w (R.out r R.k)) (.sl e kk) xs (J.hdr r):=akn ek ey apd
     obtain⟨news,g1,g2⟩:=O8 (P:=P) (u:=u) (xs:=xs) hu hg rfl (ek▸jO) mq
     exact⟨_,h,Ko H rfl (λt ht=>by simp at ht) g1 (λi hi=>nG hf (g2 i hi)) (.inr (.inl hf))⟩
    |false=>
     rw[hf]at h
     simp only[jV]at h
     rcases bF h with⟨_,h⟩|⟨_,h⟩
     ·exact h.elim
     ·obtain⟨H1,T1,hh,hcl⟩:=kill H hr hkind hv
      have uy:Ow (hp w) R.own (bK cx (aR Z r iF) (jm J r) (J.fo r++F) w R.tags) (.sl e kk) xs (J.hdr r) (J.fo r):=wY ek ey (hh.ow hcl)
      have aaB:VC (.sl e kk) v (J.hdr r):=ek▸jO
      have hsame:∀q,q∉([Wr.r r none]:List Wr).flatMap Wr.fA->Same Z J (aR Z r iF) (jm J r) q:=λq hq=>l9 (by simpa[Wr.fA]using hq)
      have hnone:∀q,Z.roots q=none->(aR Z r iF).roots q=none:=λq hq=>by
       rw[jR]
       ·exact hq
       ·intro e;rw[e,hr.1]at hq;simp at hq
      have uW:∀b∈J.fo r,b∉F:=λb hb=>H.fI r R hr b (bH _ hb)
      cases hme:ah e R.own with
      |true=>
       obtain⟨news,g1,ay,g2,g3,g4,g5⟩:=acD (P:=P) (u:=u) hu hg aaB hme uy hh.nd
       rw[hme]at h
       simp only[gP,xO]at h
       refine⟨_,h,jm J r,J.fo r++F,news,H1,hsame,rfl,hnone,λb hb=>bH _ hb,?_,g1,λown' ho=>?_⟩
       ·intro t ht
        simp only at ht
        cases hal:(kk.tys.all λt=>ah t R.own)with
        |true=>rw[hal]at ht;simp at ht
        |false=>rw[hal]at ht;exact hh.wt t ht
       ·simp only at ho ⊢
        have Sl:∀i (hi:i<List.length xs),Ow (hp w) R.own (λb=>bK cx (aR Z r iF) (jm J r) (J.fo r++F) w (bif (kk.tys.all λt=>ah t R.own)then []else R.tags) b/\∃t∈bC R.own kk,mh (hp w) b t) kk xs[i] (iy news kk.size i) (ay.getD i []):=by
         intro i hi
         cases hal:(kk.tys.all λt=>ah t R.own)with
         |false=>exact tY _ (λ_ h=>h) (g5 i hi)
         |true=>exact jU (kU (pM hal)) (g5 i hi)
        obtain⟨qc,jG,f1,f2,f3,f4⟩:=amr (own':=own') g2 g3 (λt ht hm=>(Ky (own:=R.own) ht).resolve_left (λhx=>ho t ht hm hx)) Sl
        exact⟨qc,jG,f1,f2,λb hb=>⟨bQ _ (g4 b (f3 b hb)),uW b (g4 b (f3 b hb))⟩,f4⟩
      |false=>
       have hO2:=uy
       unfold Ow at hO2
       rw[hme]at hO2 h
       simp only[bg,aZ]at hO2
       simp only[jV,Bool.false_and]at h
       obtain⟨news,g1,g2⟩:=O8 (P:=P) (u:=u) (xs:=xs) hu hg rfl aaB hO2.2
       refine⟨_,h,jm J r,J.fo r++F,news,H1,hsame,rfl,hnone,λb hb=>bH _ hb,hh.wt,g1,λown' ho=>?_⟩
       refine⟨List.replicate (List.length xs) [],[],by simp,by simp,by simp,λi hi=>?_⟩
       rw[Sm]
       refine eO (λ_ _=>rfl) (λb hb=>.inl hb) (λ_ _=>rfl) (BG (λt ht=>?_) (IB kk.tys (λ_ h=>h) (g2 i hi)))
       cases hm:ah t own' with
       |false=>rfl
       |true=>exact absurd ht (ho t ht hm)
  ·exact h.elim
 |eP r p n=>exact sU h
 |undef=>exact sU h
 |ptr r p n=>exact sU h
 |gq bt k y T=>exact sU h
 |mg _ _ _ _=>exact sU h
 |pO _=>exact sU h
 |part _ _ _ _ _=>exact sU h
 |nN _ _ _ _=>exact sU h
 |sub _ _ _ _ _ _=>exact sU h
 |sel _ _ _ _ _ _=>exact sU h
 |app _ _ _ _=>exact sU h
 |jA=>exact sU h
 |fn f cs=>exact sU h
end
end
section
open Go
variable [Fr]
section
variable {P:Program}{T:bL}{cx:Cx}{Z:St}{J:aO}{F:List Nat}{a:Act}{w:World}{o:Oper}{d:Nat}{ws:List Wr}{r:Nat}{R:Root}
theorem ari(H:Rel cx Z J F a w)(hr:aX Z r R)(hv:dF Z R)(hk:R.kind=.anon){R':Root}(hk':R'.kind=.anon){e:TypeId}(hw:R'.w=e :: R.w)(hh:R'.h=jC :: e :: R.h)(hg:R'.g=R.g+1)(hev:R'.ew=R.ew/\R'.eh=R.eh)
  (fE:gB Z R'.tags/\∀n,(r,n)∉R'.tags) {w':World} (hos:w'.os=w.os/\w'.tape=w.tape/\w'.output=w.output) (hsize:w.heap.size<=w'.heap.size) {aM:List Nat}
  (qI:∀b,b<w.heap.size->hp w' b≠hp w b->b∈F\/(b∈J.fo r/\jM (hp w) b=some e)) (aqC:∀b∈aM,b∈J.fo r\/b∈F\/(w.heap.size<=b/\b<w'.heap.size)) (hnd:aM.Nodup)
  {hdr':List Value} (hlen:hdr'.length=R'.k.size) (how:Ow (hp w') R'.own (bK cx (aR Z r R') (aV J r (J.loc r) hdr' aM) [] w' R'.tags) R'.k R'.x hdr' aM) {v':Value} (hv':VC R'.k v' hdr') :
  Rel cx (aR Z r R') (aV J r (J.loc r) hdr' aM) [] a w'/\a_ cx (aR Z r R') (aV J r (J.loc r) hdr' aM) [] w' (.ref r R'.g) v':=by
 have hblk:blk J R r=J.fo r:=by simp[blk,aS,hk]
 have hd':R'.cZ=false:=by simp[Root.cZ,hk']
 have T1:vO cx Z J F w r R R' aM [] w' [e] [jC,e]:=by
  refine⟨.inr ⟨hw,hh,by omega,hk'.trans hk.symm,λh=>by rw[hk]at h;simp at h,.inl (by simp)⟩,fE,hos,hsize,λb hb hne=>?_,λ_ b hb=>?_,λb hb=>by simp at hb,lZ,λ_ b _ h=>by simp at h,λj pi b o n hj hb E5 hne=>?_,λ_=>hev⟩
  ·rcases qI b hb hne with h|⟨h1,h2⟩
   ·exact .inl h
   ·exact .inr ⟨by rw[hblk];exact h1,.inr (.inl ⟨e,by simp,h2⟩)⟩
  ·rw[rA hk']at hb
   rw[hblk]
   exact aqC b hb
  ·obtain⟨Q,hQ,hkq,_,_⟩:=H.kI j pi b o n hj hb
   have hQR:Q=R:=by have:=hQ.1;rw[<-E5,hr.1]at this;simpa using this.symm
   rw[hQR,hk]at hkq
   simp at hkq
 refine⟨T1.rel H hr (λ_=>⟨λ_=>how,hlen,λb o hb=>by rw[Gc hk']at hb;simp at hb,by rw[rA hk'];exact hnd⟩) ?_ ?_,?_⟩
 ·intro _ p n v hn hold
  refine⟨hold.1,λQ hQ oW hcl hty hs=>?_⟩
  rw[fG]at hQ
  simp only[au]at hQ
  subst hQ
  cases p with
  |nil=>
   obtain⟨_,cs,b,o,h1,_⟩:=hold.2 R hr.1 hv (by simp[clean,iL,ah]) (λt ht=>by simp[az]at ht) rfl
   simp only[aW,au,bZ]at h1
   have:aS J R r=none:=by simp[aS,hk]
   rw[this]at h1
   simp at h1
  |cons s p=>
   have e1:R'.h=[jC,e]++R.h:=hh
   rw[e1,Et hn]at hcl
   exact absurd (show jC∈iL (s :: p) R'.k from jE) (hcl.1 jC (by simp))
 ·intro _ g v hgl hold Q hQ NM
  obtain⟨rfl,_⟩:=pK hQ
  omega
 ·intro Q hQ _
  obtain⟨rfl,_⟩:=pK hQ
  refine⟨hk',?_⟩
  simp only[aV,upd_same]
  exact hv'
theorem Oz(H:Rel cx Z J F a w){w':World}(hs:w.heap.size<=w'.heap.size){Tg YT:List Tag}{aM:List Nat}{b:Nat}(hb:bK cx Z J F w Tg b\/b∈F)(ht:∀t∈Tg,t∈YT)(hfo:b∉aM):bK cx Z J aM w' YT b:=by
 rcases hb with hb|hb
 ·exact⟨x_ hb.1 hs,hfo,hb.2.2.1,λq Q hq hbq=>(hb.2.2.2.1 q Q hq hbq).imp λn hn=>ht _ hn,λh0=>(hb.2.2.2.2 h0).imp (λ⟨j,n,h1,h2⟩=>⟨j,n,ht _ h1,h2⟩) id⟩
 ·have hm:=H.fl b hb
  refine⟨x_ hm.1 hs,hfo,Bh H hb,λq Q hq hbq=>absurd hb (H.fI q Q hq b hbq),λh0=>?_⟩
  rcases hm.2 with h|⟨j,pi,h1,h2⟩
  ·omega
  ·exact .inr ⟨j,pi,h1,h2⟩
theorem Kj{c:Call}(ho:o.op=.call c)(hb:c.callee=.builtin .append){x y:Operand}(ha:c.args.toList=[x,y]){t u:TypeId}(ht:c.argTypes[0]?=some t)(hu:c.argTypes[1]?=some u){v':Value}{w':World}
  (h:(Builtin.append_ #[t,u] o.type #[a.eval x,a.eval y]).run P w=.ok v' w'):(execOp a.eval o).run P w=.ok (.value v') w':=by
 obtain⟨cc,hcc⟩:=FX (P:=P) (a:=a) (w:=w) ho hb
 rw[hcc]
 have h1:c.args.map a.eval=#[a.eval x,a.eval y]:=by
  apply vE
  rw[wO,ha]
  rfl
 have h2:Builtin.append_ c.argTypes o.type #[a.eval x,a.eval y]=Builtin.append_ #[t,u] o.type #[a.eval x,a.eval y]:=by
  unfold Builtin.append_
  simp only[ht,hu]
  rfl
 rw[h1]
 simp only[builtin,dZ,h2,h,gu,fH]
end
end
section
open Go
variable [Fr]
section
variable {P:Program}{T:bL}{cx:Cx}{Z:St}{J:aO}{F:List Nat}{a:Act}{w:World}{o:Oper}{d:Nat}{ws:List Wr}
theorem Y_(hT:fT P T){Z1:St}{aP:aO}{F1:List Nat}(H1:Rel cx Z1 aP F1 a w)(hd:o.dst=some d)(hdn:d<cx.nt){c:Call}(ho:o.op=.call c)(hcb:c.callee=.builtin .append){x y:Operand}(ha:c.args.toList=[x,y])
  {t u e:TypeId} {kk:K} (ht0:c.argTypes[0]?=some t) (hu0:c.argTypes[1]?=some u) (hty:T.ty t=some (.sl e kk)) (hn1:Z1.roots (aN d 0)=none)
  {own:List TypeId} {tags T1 T2:List Tag} {bad:List TypeId} {gY iN:List (El kk)} {v0:Value} {gX fd:List Nat} {ay:List (List Nat)} {jG:List Nat} {news:List Value} (hv0:a.eval x=v0) (hS:Src P w kk.size u (a.eval y) iN.length news)
  (hown:ah e own=true) (hob:∀t,ah t own=true->t∉bad) (hwt:gB Z1 tags) (ht1:∀t∈T1,t∈tags) (ht2:∀t∈T2,t∈tags)
  (hO:Ow (hp w) own (λb=>bK cx Z1 aP F1 w T1 b\/b∈fd) (.sl e kk) gY [v0] gX) (Ae:∀b∈gX++fd,b∈F1) (kC:(gX++fd).Nodup) (hF1:∀b∈ay.flatten++jG,b∈F1/\b∉gX++fd) (sS:(ay.flatten++jG).Nodup)
  (hfl:ay.length=iN.length) (hel:∀i (hi:i<iN.length),Ow (hp w) own (λb=>((bK cx Z1 aP F1 w T2 b\/b∈F1)/\∃t∈bad,mh (hp w) b t)\/b∈jG) kk iN[i] (iy news kk.size i) (ay.getD i []))
  (hb:(gY.length+iN.length)*T.bytes e<=140737488355328) (kp:Bool) :
  dQ P cx o a w (aL [.r (aN d 0) (some (bP (.sl e kk) (gY++iN) own tags .anon kp)),.s d (.one (.ref (aN d 0) 0))] Z1):=by
 have ht:=hT.ty t _ hty
 have n0:=dH.1 kC
 have n1:=dH.1 sS
 have hlt:∀b∈F1,b<w.heap.size:=λb h=>(H1.fl b h).1
 have TQ:=zC hO
 have hnot:∀b,((bK cx Z1 aP F1 w T2 b\/b∈F1)/\∃t∈bad,mh (hp w) b t)->b∉gX:=by
  rintro b ⟨_,t,h1,h2⟩ hb0
  obtain⟨e',_,h3,h4⟩:=TQ b hb0
  have h2:=H1.C_ (H1.fl b (Ae b (bQ _ hb0))) h2
  rw[h2]at h4
  simp only[au]at h4
  subst h4
  exact hob _ h3 h1
 let ok:Nat->Prop:=λb=>(bK cx Z1 aP F1 w T1 b\/b∈fd)\/((bK cx Z1 aP F1 w T2 b\/b∈F1)/\∃t∈bad,mh (hp w) b t)\/b∈jG
 obtain⟨v',w',aM,hrun,hos,hsz,sO,hfo,yH,mq⟩:=Y9 (w:=w) (ok:=ok) (u:=u) (ty:=o.type) (x:=a.eval y) (ay:=ay) ht (eO (λ_ _=>rfl) (λb h=>.inl h) (λ_ _=>rfl) hO) hown
  (dH.2 ⟨n0.1,n1.1,λb1 h1 b2 h2 e=>(hF1 b2 (bQ _ h2)).2 (bQ _ (e▸h1))⟩)
  (λb hb=>by
   rcases hb with(h|h)|h|h
   ·exact⟨λh0=>h.2.1 (Ae b (bQ _ h0)),h.1⟩
   ·exact⟨λh0=>n0.2.2 b h0 b h rfl,hlt b (Ae b (bH _ h))⟩
   ·refine⟨hnot b h,?_⟩
    rcases h.1 with h|h
    ·exact h.1
    ·exact hlt b h
   ·exact⟨λh0=>(hF1 b (bH _ h)).2 (bQ _ h0),hlt b (hF1 b (bH _ h)).1⟩)
  (λb hb=>by
   rcases dD.1 hb with h|h
   ·exact hlt b (Ae b (bQ _ h))
   ·exact hlt b (hF1 b (bQ _ h)).1)
  hS hfl (λi hi=>eO (λ_ _=>rfl) (λb h=>.inr h) (λ_ _=>rfl) (hel i hi)) hb
 have uW:∀b∈aM,b∈F1\/(w.heap.size<=b/\b<w'.heap.size):=by
  intro b hb
  rcases hfo b hb with h|h|h
  ·exact .inl (Ae b (bQ _ h))
  ·exact .inl (hF1 b (bQ _ h)).1
  ·exact .inr h
 have T2':=FE (w':=w') (F':=aM) H1 hos hsz (λb h1 h2=>Ae b (bQ _ (sO b h1 h2).1)) uW yH
 have H2:=H1.mem T2'
 have jO:VC (.sl e kk) v' [v']:=⟨rfl,by
  unfold Ow at mq
  rw[aj hown]at mq
  obtain⟨b,n,c,e1,_⟩:=mq
  simp only[jr,fM]at e1
  rw[e1];simp⟩
 have hok:∀b,ok b->bK cx Z1 aP aM w' tags b:=by
  intro b hb
  have hnew:b<w.heap.size->¬(w.heap.size<=b/\b<w'.heap.size):=λh=>by omega
  rcases hb with(h|h)|h|h
  ·refine Oz H1 hsz (.inl h) ht1 (λhb=>?_)
   rcases hfo b hb with h2|h2|h2
   ·exact h.2.1 (Ae b (bQ _ h2))
   ·exact h.2.1 (hF1 b (bQ _ h2)).1
   ·exact hnew h.1 h2
  ·have hF:=Ae b (bH _ h)
   refine Oz H1 hsz (Tg:=[]) (.inr hF) (by simp) (λhb=>?_)
   rcases hfo b hb with h2|h2|h2
   ·exact n0.2.2 b h2 b h rfl
   ·exact(hF1 b (bQ _ h2)).2 (bH _ h)
   ·exact hnew (hlt b hF) h2
  ·refine Oz H1 hsz h.1 ht2 (λhb=>?_)
   have hlt':b<w.heap.size:=by
    rcases h.1 with h|h
    ·exact h.1
    ·exact hlt b h
   rcases hfo b hb with h2|h2|h2
   ·exact hnot b h h2
   ·obtain⟨l,hl,hbl⟩:=BC.1 h2
    obtain⟨i,hi,rfl⟩:=qC.1 hl
    have:=zC (hel i (by omega)) b (by rw[oP hi];exact hbl)
    obtain⟨e',_,h3,h4⟩:=this
    obtain⟨_,t,h5,h6⟩:=h
    have h6:=H1.C_ (H1.fl b (hF1 b (bQ _ h2)).1) h6
    rw[h6]at h4
    simp only[au]at h4
    subst h4
    exact hob _ h3 h5
   ·exact hnew hlt' h2
  ·have hF:=(hF1 b (bH _ h)).1
   refine Oz H1 hsz (Tg:=[]) (.inr hF) (by simp) (λhb=>?_)
   rcases hfo b hb with h2|h2|h2
   ·exact(hF1 b (bH _ h)).2 (bQ _ h2)
   ·exact n1.2.2 b h2 b h rfl
   ·exact hnew (hlt b hF) h2
 obtain⟨jY,k1,k2⟩:=Eh (k:=.sl e kk) (x:=gY++iN) (own:=own) (tags:=tags) (v:=v') (cs:=[v']) (fo:=aM) (r:=aN d 0) (F':=[]) H2 hn1 (qi d 0)
  (λb hb=>hb) yH hwt (λb hb=>by simp at hb) lZ rfl (λ_=>eO (λ_ _=>rfl) (λb hb=>.inl (hok b hb)) (λ_ _=>rfl) mq) jO kp
 exact pE (x:=.one (.ref (aN d 0) 0)) k1 hd hdn (Kj ho hcb ha ht0 hu0 (by rw[hv0];exact hrun)) k2 ⟨_,fG ..,.inr (fQ _)⟩
theorem Y6{ws:List Wr}{tags:List Tag}(h:zN ws tags=true):∀t∈tags,t.1∉ws.flatMap Wr.fA:=λt ht=>by
 have:=eX.1 h t ht
 simpa[gJ]using this
theorem acm{ws:List Wr}{r:Nat}(h:(ws.all λw=>!w.loc.beq (.r r))=true):r∉ws.flatMap Wr.fA:=by
 intro hm
 obtain⟨wr,h1,h2⟩:=jZ.1 hm
 have:=eX.1 h wr h1
 cases wr with
 |s n x=>simp[Wr.fA]at h2
 |r n x=>
  simp only[Wr.fA,iD]at h2
  subst h2
  simp[Wr.loc,Loc.beq]at this
theorem alC(hT:fT P T)(H:Rel cx Z J F a w)(hd:o.dst=some d)(hdn:d<cx.nt){c:Call}(ho:o.op=.call c)(hcb:c.callee=.builtin .append)
  (h:(pF c.args.toList fun
   | [a,b]=>match c.argTypes[0]?,(c.argTypes[1]?).bind T.ty with
    |some t,some (.sl _ _)=>Em T d t a b λws=>(.ret ws:Prog (List Wr))
    |some t,some .str=>Em T d t a b λws=>(.ret ws:Prog (List Wr))
    |_,_=>.fail
   |_=>.fail).ends Z ws):dQ P cx o a w (aL ws Z):=by
 obtain⟨vs,h1,h2,h⟩:=xx H h
 obtain⟨u,v,x,y,t,ut,hvs,ha,hx,hy,ht0,hu0,apa,h9⟩:∃u v x y t ut,vs=[u,v]/\c.args.toList=[x,y]/\a_ cx Z J F w u (a.eval x)/\a_ cx Z J F w v (a.eval y)/\c.argTypes[0]?=some t/\c.argTypes[1]?=some ut/\
   ((∃e',P.underlying ut=some (.slice e'))\/P.underlying ut=some .string)/\(Em T d t u v λws=>(.ret ws:Prog (List Wr))).ends Z ws:=by
  split at h
  ·rename_i u v
   have hargs:∃x y,c.args.toList=[x,y]/\a_ cx Z J F w u (a.eval x)/\a_ cx Z J F w v (a.eval y):=by
    revert h1
    generalize c.args.toList=l
    intro h1
    cases l with
    |nil=>exact h1.elim
    |cons x l=>
     cases l with
     |nil=>exact h1.2.elim
     |cons y l=>
      cases l with
      |nil=>exact⟨x,y,rfl,h1.1,h1.2.1⟩
      |cons _ _=>exact h1.2.2.elim
   obtain⟨x,y,e1,e2,e3⟩:=hargs
   split at h
   ·rename_i t e k e4 e5
    obtain⟨ut,e6,e7⟩:=uK hT e5
    exact⟨u,v,x,y,t,ut,rfl,e1,e2,e3,e4,e6,.inl ⟨_,e7.sl.1⟩,h⟩
   ·rename_i t e4 e5
    obtain⟨ut,e6,e7⟩:=uK hT e5
    exact⟨u,v,x,y,t,ut,rfl,e1,e2,e3,e4,e6,.inr e7.str,h⟩
   ·exact h.elim
  ·exact h.elim
 clear h
 have h:=h9
 clear h9
 subst hvs
 have hwu:=h2 u (by simp)
 have hwv:=h2 v (by simp)
 unfold Em at h
 cases hty:T.ty t with
 |none=>rw[hty]at h;exact h.elim
 |some k0=>
  rw[hty]at h
  cases k0 with
  |sl e kk=>
   have ht:=hT.ty t _ hty
   simp only at h
   obtain⟨s,h8,aP,F1,news,H1,hsame,at5,hnone,SB,hwt,hS,hels⟩:=aeo (P:=P) (u:=ut) H apa ht.sl.2.1.gy hy hwv h
   clear h
   rcases bF h8 with⟨_,h⟩|⟨hbad,h⟩
   ·exact h.elim
   clear h8
   cases u with
   |fZ=>
    obtain⟨b0,hv0⟩:=hx
    obtain⟨hb,h⟩:=h
    obtain⟨hn,h⟩:=qd h
    rw[bE h,oM]
    have ho1:ah e (e :: fF kk.tys s.bad)=true:=dh.2 (by simp)
    have ho2:∀t,ah t (e :: fF kk.tys s.bad)=true->t∉s.bad:=λt ht=>by
     rcases bW.1 (dh.1 ht)with h|h
     ·rw[h];exact gJ.1 hbad
     ·exact(qm.1 (dh.2 h)).2
    obtain⟨ay,jG,f1,f2,f3,f4⟩:=hels (e :: fF kk.tys s.bad) (λt _ ht=>ho2 t ht)
    exact Y_ hT H1 hd hdn ho hcb ha ht0 hu0 hty (hnone _ hn) (gY:=[]) (v0:=.slice b0 0 0) (gX:=[]) (fd:=[]) (T1:=[]) (T2:=s.tags) (bad:=s.bad) hv0 hS ho1 ho2 hwt (by simp) (λ_ h=>h) J4 (by simp) (by simp)
     (λb hb=>⟨(f3 b hb).1,by simp⟩) f2 f1 (λi hi=>eO (λ_ _=>rfl) (λb hb=>hb.imp (λh=>⟨.inl h.1,h.2⟩) id) (λ_ _=>rfl) (f4 i hi)) (by simpa using hb) s.keep
   |eP r p n=>
    obtain⟨R,hr,hv,h⟩:=iA h
    rcases bF h with⟨hc,h⟩|⟨_,h⟩
    ·simp only[bB]at hc
     obtain⟨⟨⟨⟨⟨⟨⟨c1,c2⟩,c3⟩,c4⟩,c5⟩,c6⟩,c7⟩,c8⟩:=hc
     cases hg:aB p R.k R.x with
     |none=>rw[hg]at h;exact h.elim
     |some dd=>
      rw[hg]at h
      simp only at h
      cases hck:b_ dd.1 (.sl e kk) dd.2 with
      |none=>rw[hck]at h;exact h.elim
      |some xs=>
       rw[hck]at h
       cases hga:xz R p dd with
       |none=>rw[hga]at h;exact h.elim
       |some R'=>
        rw[hga]at h
        simp only at h
        obtain⟨hb,h⟩:=h
        obtain⟨hn,h⟩:=qd h
        rw[bE h,oM]
        obtain⟨ek,ey⟩:=ji hck
        unfold xz at hga
        cases hz:dz p R.k R.x (oQ dd)with
        |none=>rw[hz]at hga;simp at hga
        |some z=>
         rw[hz]at hga
         simp only[au]at hga
         have eR:R'=kr R dd z:=by rw[<-hga];rfl
         have hSr:=hsame r (acm c7)
         have hr1:=(hSr.live R).2 hr
         have hv1:dF (aL s.ws Z) R:=⟨hv.1,by rw[sH (λt ht=>(hsame t.1 (Y6 c8 t ht)).root)];exact hv.2⟩
         obtain⟨dn,hown,cs0,xM,hn0,SQ⟩:=hx R hr.1 hv (bD c1) dd hg
         have hpv:p≠[]\/∃t,R.kind=.var t:=by
          rw[oD]at c3
          rcases c3 with h|h
          ·exact .inl (by simpa using h)
          ·refine .inr ?_
           unfold Root.isVar at h
           cases hk:R.kind with
           |var t=>exact⟨t,rfl⟩
           |_=>rw[hk]at h;simp at h
         obtain⟨cs1,dm,bu,rest,g1,g2,g3,g4,g5,g6⟩:=gap H1 hr1 hv1 hg hz dn hown hpv
         rw[hSr.hdr,hSr.wh,hn0]at g1
         simp only[au,bZ]at g1
         obtain⟨rfl,rfl⟩:=g1
         have hcl:dG (aR (aL s.ws Z) r (kr R dd z)) (bC R.own dd.1) R.tags=true:=by
          rw[g5]
          exact B_ hv1.2 (λ_ h=>h) (O7 p hg hown)
         have NB:=wY (y:=xs) ek ey (g4.ow hcl)
         have ho1:ah e (fF ((e :: kk.tys).filter λt=>ah t R.own) s.bad)=true:=qm.2 ⟨dh.2 (eH.2 ⟨by simp,c5⟩),gJ.1 hbad⟩
         have ho2:∀t,ah t (fF ((e :: kk.tys).filter λt=>ah t R.own) s.bad)=true->t∉s.bad:=λt ht=>(qm.1 ht).2
         obtain⟨gX,fd,hp0,uy⟩:=yg (own':=fF ((e :: kk.tys).filter λt=>ah t R.own) s.bad) (λt _ hm=>(eH.1 (dh.1 (qm.1 hm).1)).2) NB
         obtain⟨ay,jG,f1,f2,f3,f4⟩:=hels (fF ((e :: kk.tys).filter λt=>ah t R.own) s.bad) (λt _ ht=>ho2 t ht)
         have aog:∀b∈bu,b∉F1:=λb hb hF=>(dH.1 g2.iw).2.2 b hb b hF rfl
         have hcs:∃v0,cs0=[v0]/\a.eval x=v0:=by
          have Jg:VC (.sl e kk) (a.eval x) cs0:=ek▸SQ
          exact⟨_,Jg.1,rfl⟩
         obtain⟨v0,R4,ev0⟩:=hcs
         subst R4
         subst eR
         have hne:aN d 0≠r:=λe=>by have:=hr.1;rw[<-e,hn]at this;simp at this
         refine Y_ hT g2 hd hdn ho hcb ha ht0 hu0 hty (by rw[jR _ _ hne];exact hnone _ hn) (gY:=xs) (v0:=v0) (gX:=gX) (fd:=fd) (T1:=R.tags) (T2:=s.tags) (bad:=s.bad) (ay:=ay) (jG:=jG) ev0 hS ho1 ho2
          (λt ht=>?_) (λt ht=>mG.2 (.inr ht)) (λt ht=>mG.2 (.inl ht)) uy (λb hb=>bQ _ (hp0.mem_iff.2 hb)) (hp0.nodup g4.nd)
          (λb hb=>⟨bH _ (f3 b hb).1,λhb'=>aog b (hp0.mem_iff.2 hb') (f3 b hb).1⟩) f2 f1 (λi hi=>eO (λ_ _=>rfl) (λb hb=>?_) (λ_ _=>rfl) (f4 i hi)) hb _
         ·rcases mG.1 ht with h|h
          ·exact g3.tag (hwt t h)
          ·exact g4.wt t h
         ·rcases hb with⟨hb,hbt⟩|hb
          ·refine .inl ⟨?_,hbt⟩
           by_cases hbf:b∈bu
           ·exact .inr (bQ _ hbf)
           ·refine .inl ⟨hb.1,λh=>?_,hb.2.2.1,λq Q hq hbq=>?_,hb.2.2.2.2⟩
            ·rcases dD.1 h with h|h
             ·exact hbf h
             ·exact hb.2.1 h
            ·rcases uF hq with⟨rfl,rfl,_⟩|⟨eq,hq'⟩
             ·refine hb.2.2.2.1 q R hr1 ?_
              rw[qa,zT (show(kr R dd z).kind=R.kind from rfl)]at hbq
              rw[jF]
              rw[nu]at hbq ⊢
              exact hbq.imp id (λh=>g6.mem_iff.2 (bH _ h))
             ·rw[(l9 (J:=aP) (Z:=aL s.ws Z) (R:=kr R dd z) eq).blk]at hbq
              exact hb.2.2.2.1 q Q hq' hbq
          ·exact .inr hb
    ·exact h.elim
   |ref r g=>
    obtain⟨R,hr,hv,h⟩:=iA h
    rcases bF h with⟨hc,h⟩|⟨_,h⟩
    ·simp only[bB]at hc
     obtain⟨⟨⟨⟨⟨c1,c4⟩,c5⟩,c6⟩,c7⟩,c8⟩:=hc
     cases hck:b_ R.k (.sl e kk) R.x with
     |none=>rw[hck]at h;exact h.elim
     |some xs=>
      rw[hck]at h
      simp only at h
      obtain⟨hb,h⟩:=h
      rw[bE h,oM]
      obtain⟨ek,ey⟩:=ji hck
      have hSr:=hsame r (acm c7)
      have hr1:=(hSr.live R).2 hr
      have hv1:dF (aL s.ws Z) R:=⟨hv.1,by rw[sH (λt ht=>(hsame t.1 (Y6 c8 t ht)).root)];exact hv.2⟩
      obtain⟨hkind,SQ⟩:=hx R hr (bD c1)
      have K1:=H1.roots r R hr1
      have NV:=H1.gz r R hr1.1
      have hfr:blk aP R r=aP.fo r:=by simp[blk,aS,hkind]
      have uW:∀b∈aP.fo r,b∉F1:=λb hb=>H1.fI r R hr1 b (by rw[hfr];exact hb)
      have Jg:VC (.sl e kk) (a.eval x) (aP.hdr r):=by rw[hSr.hdr];exact ek▸SQ
      have NB:Ow (hp w) R.own (bK cx (aL s.ws Z) aP F1 w R.tags) (.sl e kk) xs [a.eval x] (aP.fo r):=by
       have:=wY (y:=xs) ek ey (K1.ow hv1)
       rw[Jg.1]at this
       exact this
      have ho1:ah e (fF R.own s.bad)=true:=qm.2 ⟨c5,gJ.1 hbad⟩
      have ho2:∀t,ah t (fF R.own s.bad)=true->t∉s.bad:=λt ht=>(qm.1 ht).2
      have hnd:(aP.fo r).Nodup:=by rw[<-hfr];exact K1.nd
      obtain⟨gX,fd,hp0,uy⟩:=yg (own':=fF R.own s.bad) (λt _ hm=>(qm.1 hm).1) NB
      obtain⟨ay,jG,f1,f2,f3,f4⟩:=hels (fF R.own s.bad) (λt _ ht=>ho2 t ht)
      have wm:∀b∈gX,b∈aP.fo r:=λb hb=>hp0.mem_iff.2 (bQ _ hb)
      have hfd0:∀b∈fd,b∈aP.fo r:=λb hb=>hp0.mem_iff.2 (bH _ hb)
      have n0:=dH.1 (hp0.nodup hnd)
      have n1:=dH.1 f2
      have hlt:∀b∈aP.fo r,b<w.heap.size:=λb hb=>(K1.mine b (by rw[hfr];exact hb)).1
      have Tx:∀b∈F1,b<w.heap.size:=λb hb=>(H1.fl b hb).1
      have TQ:=zC uy
      have hnot:∀b,(∃t∈s.bad,mh (hp w) b t)->b∉gX:=by
       rintro b ⟨t,h1,h2⟩ hb0
       obtain⟨e',_,h3,h4⟩:=TQ b hb0
       have h2:=H1.C_ (K1.mine b (by rw[hfr];exact wm b hb0)) h2
       rw[h2]at h4
       simp only[au]at h4
       subst h4
       exact ho2 _ h3 h1
      let ok:Nat->Prop:=λb=>(bK cx (aL s.ws Z) aP F1 w R.tags b\/b∈fd)\/(bK cx (aL s.ws Z) aP F1 w s.tags b/\∃t∈s.bad,mh (hp w) b t)\/b∈jG
      have hRr:∀b,bK cx (aL s.ws Z) aP F1 w R.tags b->b∉aP.fo r:=by
       intro b hb hbr
       obtain⟨n,hn⟩:=hb.2.2.2.1 r R hr1 (by rw[hfr];exact hbr)
       exact NV.2.2 n hn
      obtain⟨v',w',aM,hrun,hos,hsz,sO,hfo,yH,mq⟩:=Y9 (w:=w) (ok:=ok) (u:=ut) (ty:=o.type) (x:=a.eval y) (ay:=ay) ht (eO (λ_ _=>rfl) (λb h=>.inl h) (λ_ _=>rfl) uy) ho1
       (dH.2 ⟨n0.1,n1.1,λb1 h1 b2 h2 e=>uW b1 (wm b1 h1) (e▸(f3 b2 (bQ _ h2)).1)⟩)
       (λb hb=>by
        rcases hb with(h|h)|h|h
        ·exact⟨λh0=>hRr b h (wm b h0),h.1⟩
        ·exact⟨λh0=>n0.2.2 b h0 b h rfl,hlt b (hfd0 b h)⟩
        ·exact⟨hnot b h.2,h.1.1⟩
        ·exact⟨λh0=>uW b (wm b h0) (f3 b (bH _ h)).1,Tx b (f3 b (bH _ h)).1⟩)
       (λb hb=>by
        rcases dD.1 hb with h|h
        ·exact hlt b (wm b h)
        ·exact Tx b (f3 b (bQ _ h)).1)
       hS f1 (λi hi=>eO (λ_ _=>rfl) (λb h=>.inr h) (λ_ _=>rfl) (f4 i hi)) hb
      have jO:VC (.sl e kk) v' [v']:=⟨rfl,by
       have h5:=mq
       unfold Ow at h5
       rw[aj ho1]at h5
       obtain⟨b,n,c,e1,_⟩:=h5
       simp only[jr,fM]at e1
       rw[e1];simp⟩
      have aoH:∀b,ok b->b∉aM/\b<w.heap.size:=by
       intro b hb
       have hlt':b<w.heap.size:=by
        rcases hb with(h|h)|h|h
        ·exact h.1
        ·exact hlt b (hfd0 b h)
        ·exact h.1.1
        ·exact Tx b (f3 b (bH _ h)).1
       refine⟨λhbf=>?_,hlt'⟩
       rcases hfo b hbf with h2|h2|h2
       ·rcases hb with(h|h)|h|h
        ·exact hRr b h (wm b h2)
        ·exact n0.2.2 b h2 b h rfl
        ·exact hnot b h.2 h2
        ·exact uW b (wm b h2) (f3 b (bH _ h)).1
       ·have hF:=(f3 b (bQ _ h2)).1
        rcases hb with(h|h)|h|h
        ·exact h.2.1 hF
        ·exact uW b (hfd0 b h) hF
        ·exact h.1.2.1 hF
        ·exact n1.2.2 b h2 b h rfl
       ·omega
      have hnext:∀(j:Nat) (n:Nat),(jy j,n)∈s.tags->(jy j,n)∈lF (sJ r s.tags) R.tags:=by
       intro j n hj
       refine mG.2 (.inl (yP.2 ⟨hj,λe=>?_⟩))
       have:=NV.2.1
       rw[<-e]at this
       simp only at this
       rw[uY]at this
       simp at this
      obtain⟨k1,k2⟩:=ari (R':={ R with k:=.sl e kk,x:=xs++s.xs,own:=fF R.own s.bad,tags:=lF (sJ r s.tags) R.tags,w:=e :: R.w,h:=jC :: e :: R.h,g:=R.g+1,keep:=R.keep||s.keep })
       (v':=v') (hdr':=[v']) (aM:=aM) (w':=w') H1 hr1 hv1 hkind hkind rfl rfl rfl ⟨rfl,rfl⟩ ⟨λt ht=>(mG.1 ht).elim (λh=>hwt t (yP.1 h).1) (NV.1 t),λn hn=>(mG.1 hn).elim (λh=>(yP.1 h).2 rfl) (NV.2.2 n)⟩
       hos hsz (λb h1 h2=>.inr ⟨wm b (sO b h1 h2).1,(sO b h1 h2).2⟩) (λb hb=>by
        rcases hfo b hb with h|h|h
        ·exact .inl (wm b h)
        ·exact .inr (.inl (f3 b (bQ _ h)).1)
        ·exact .inr (.inr h)) yH rfl
       (eO (k:=.sl e kk) (λ_ _=>rfl) (λb hb=>by
        obtain⟨z1,z2⟩:=aoH b hb
        refine⟨x_ z2 hsz,by simp,?_,λq Q hq hbq=>?_,λh0=>?_⟩
        ·rcases hb with(h|h)|h|h
         ·exact h.2.2.1
         ·exact Ac H1 hr1 (hfd0 b h)
         ·exact h.1.2.2.1
         ·exact Bh H1 (f3 b (bH _ h)).1
        ·rcases uF hq with⟨rfl,rfl,_⟩|⟨eq,hq'⟩
         ·rw[qa]at hbq
          have hbq:b∈aM:=by simpa[jh,hkind]using hbq
          exact absurd hbq z1
         ·rw[(l9 (J:=aP) (Z:=aL s.ws Z) (R:={ R with k:=.sl e kk,x:=xs++s.xs,own:=fF R.own s.bad,tags:=lF (sJ r s.tags) R.tags,w:=e :: R.w,h:=jC :: e :: R.h,g:=R.g+1,keep:=R.keep||s.keep }) eq).blk]at hbq
          rcases hb with(h|h)|h|h
          ·exact(h.2.2.2.1 q Q hq' hbq).imp λn hn=>mG.2 (.inr hn)
          ·exact absurd hbq (H1.lN r R q Q hr1 hq' (Ne.symm eq) b (by rw[hfr];exact hfd0 b h))
          ·exact(h.1.2.2.2.1 q Q hq' hbq).imp λn hn=>mG.2 (.inl (yP.2 ⟨hn,eq⟩))
          ·exact absurd (f3 b (bH _ h)).1 (H1.fI q Q hq' b hbq)
        ·have jQ:Ow.mine cx w b->(∃j n,(jy j,n)∈lF (sJ r s.tags) R.tags/\cx.ext j b)\/∃j pi,cx.par j=some pi/\b∈pi.bl:=λhm=>by
          rcases hm.2 with h|⟨j,pi,h1,h2⟩
          ·omega
          ·exact .inr ⟨j,pi,h1,h2⟩
         rcases hb with(h|h)|h|h
         ·exact(h.2.2.2.2 h0).imp (λ⟨j,n,h1,h2⟩=>⟨j,n,mG.2 (.inr h1),h2⟩) id
         ·exact jQ (K1.mine b (by rw[hfr];exact hfd0 b h))
         ·exact(h.1.2.2.2.2 h0).imp (λ⟨j,n,h1,h2⟩=>⟨j,n,hnext j n h1,h2⟩) id
         ·exact jQ (H1.fl b (f3 b (bH _ h)).1)) (λ_ _=>rfl) mq) jO
      exact pE (x:=.one (.ref r (R.g+1))) k1 hd hdn (Kj ho hcb ha ht0 hu0 hrun) k2 ⟨_,fG ..,.inr (bV _)⟩
    ·exact h.elim
   |val _ _ _=>exact h.elim
   |undef=>exact h.elim
   |ptr _ _ _=>exact h.elim
   |gq _ _ _ _=>exact h.elim
   |mg _ _ _ _=>exact h.elim
   |pO _=>exact h.elim
   |part _ _ _ _ _=>exact h.elim
   |nN _ _ _ _=>exact h.elim
   |sub _ _ _ _ _ _=>exact h.elim
   |sel _ _ _ _ _ _=>exact h.elim
   |app _ _ _ _=>exact h.elim
   |jA=>exact h.elim
   |fn _ _=>exact h.elim
  |_=>exact h.elim
end
end
section
open Go
variable [Fr]
section
variable {P:Program}{T:bL}{cx:Cx}{Z:St}{J:aO}{F:List Nat}{a:Act}{w:World}{o:Oper}{d:Nat}{ws:List Wr}
def yD(kk:K):List (Nat×fC)->qX kk->Option (qX kk)
 | [],b=>some b
 |(n,tk) :: l,b=>match b_ tk.k kk tk.x with
  |some y=>bif Nat.beq n (dR b.xs)then yD kk l { xs:=b.xs++[y],bad:=tk.bad++b.bad,tags:=lF (tk.iQ) b.tags,ws:=b.ws++tk.ws,keep:=tk.keep||b.keep,all:=tk.tags++b.all }else none
  |none=>none
theorem amo{A:Type}{z:A}(H:Rel cx Z J F a w){kk:K}{k:qX kk->Prog A}:∀{l:List (Nat×AV)} {vs:List Value} {b:qX kk},iP cx Z J F w (l.map (·.2)) vs->(∀v∈l,dV Z v.2)->(IV kk l b k).ends Z z->
  ∃(tks:List fC) (b':qX kk),tks.length=l.length/\vs.length=l.length/\(∀it∈vs.zip tks,su cx Z J F w it.1 it.2)/\yD kk ((l.map (·.1)).zip tks) b=some b'/\(k b').ends Z z:=by
 intro l
 induction l with
 |nil=>
  intro vs b h1 _ h
  cases vs with
  |nil=>exact⟨[],b,rfl,rfl,by simp,rfl,h⟩
  |cons v vs=>exact h1.elim
 |cons p l ih=>
  obtain⟨n,x⟩:=p
  intro vs b h1 h2 h
  cases vs with
  |nil=>exact h1.elim
  |cons v vs=>
   simp only[IV]at h
   obtain⟨tk,htk,h5⟩:=AJ H h1.1 (h2 (n,x) (by simp)) h
   cases hc:b_ tk.k kk tk.x with
   |none=>rw[hc]at h5;exact h5.elim
   |some y=>
    rw[hc]at h5
    simp only at h5
    rcases bF h5 with⟨hn,h6⟩|⟨_,h6⟩
    ·obtain⟨tks,b',g1,g2,g3,g4,g5⟩:=ih h1.2 (λv hv=>h2 v (by simp[hv])) h6
     refine⟨tk :: tks,b',by simp[g1],by simp[g2],?_,?_,g5⟩
     ·intro it hit
      rw[BF]at hit
      rcases bW.1 hit with h|h
      ·subst h;exact htk
      ·exact g3 it h
     ·rw[kZ,BF]
      unfold yD
      simp only[hc,hn,gP]
      exact g4
    ·exact h6.elim
theorem amn{kk:K}:∀(l:List (Nat×fC)) {b b':qX kk},yD kk l b=some b'->
  b'.ws=b.ws++l.flatMap (λp=>p.2.ws)/\(∀p∈l,∀t∈p.2.tags,t∈b'.all)/\(∀p∈l,∀t∈p.2.bad,t∈b'.bad)/\(∀t∈b.bad,t∈b'.bad)/\
  (∀p∈l,∀t∈p.2.iQ,t∈b'.tags)/\(∀t∈b.tags,t∈b'.tags)/\(∀t∈b'.tags,t∈b.tags\/∃p∈l,t∈p.2.iQ)/\(∀t∈b.all,t∈b'.all)/\b'.xs.length=b.xs.length+l.length:=by
 intro l
 induction l with
 |nil=>
  intro b b' h
  simp only[yD,au]at h
  subst h
  simp
 |cons p l ih=>
  obtain⟨n,tk⟩:=p
  intro b b' h
  unfold yD at h
  cases hc:b_ tk.k kk tk.x with
  |none=>rw[hc]at h;simp at h
  |some y=>
   rw[hc]at h
   simp only at h
   cases hn:Nat.beq n (dR b.xs)with
   |false=>rw[hn]at h;simp at h
   |true=>
    rw[hn]at h
    simp only[gP]at h
    obtain⟨g1,g2,g3,g4,g5,g6,g7,g8,g9⟩:=ih h
    refine⟨by rw[g1];simp,?_,?_,λt ht=>g4 t (by simp[ht]),?_,λt ht=>g6 t (mG.2 (.inr ht)),?_,λt ht=>g8 t (by simp[ht]),by rw[g9];simp;omega⟩
    ·intro p hp t ht
     rcases bW.1 hp with h|h
     ·subst h;exact g8 t (by simp[ht])
     ·exact g2 p h t ht
    ·intro p hp t ht
     rcases bW.1 hp with h|h
     ·subst h;exact g4 t (by simp[ht])
     ·exact g3 p h t ht
    ·intro p hp t ht
     rcases bW.1 hp with h|h
     ·subst h;exact g6 t (mG.2 (.inl ht))
     ·exact g5 p h t ht
    ·intro t ht
     rcases g7 t ht with h|⟨p,h1,h2⟩
     ·rcases mG.1 h with h|h
      ·exact .inr ⟨(n,tk),by simp,h⟩
      ·exact .inl h
     ·exact .inr ⟨p,by simp[h1],h2⟩
theorem amm{h:Heap}{own:List TypeId}{ok:Nat->Prop}{kk:K}{N:Nat} :
  ∀(l:List (Nat×fC)) {vs:List Value} {iG:List (List Nat)} {b b':qX kk} {cells:Array Value} {ay:List (List Nat)},b.xs.length+l.length<=N->cells.size=N*kk.size->ay.length=b.xs.length->
   (∀i (hi:i<b.xs.length),Ow h own ok kk b.xs[i] (iy cells.toList kk.size i) (ay.getD i []))->zF h own ok l vs iG->yD kk l b=some b'->
   ∃cells',Instr.fill (λi=>some (i*kk.size,kk.size)) cells ((l.map (·.1)).zip vs)=some cells'/\cells'.size=N*kk.size/\(ay++iG).length=b'.xs.length/\
    ∀i (hi:i<b'.xs.length),Ow h own ok kk b'.xs[i] (iy cells'.toList kk.size i) ((ay++iG).getD i []):=by
 intro l
 induction l with
 |nil=>
  intro vs iG b b' cells ay hN hs hf hO hP hb
  cases vs with
  |nil=>
   cases iG with
   |nil=>
    simp only[yD,au]at hb
    subst hb
    exact⟨cells,rfl,hs,by simpa using hf,by simpa using hO⟩
   |cons f fs=>exact hP.elim
  |cons v vs=>cases iG<;>exact hP.elim
 |cons p l ih=>
  obtain⟨n,tk⟩:=p
  intro vs iG b b' cells ay hN hs hf hO hP hb
  cases vs with
  |nil=>cases iG<;>exact hP.elim
  |cons v vs=>
   cases iG with
   |nil=>exact hP.elim
   |cons ft iG=>
    obtain⟨⟨cst,hv,Jc⟩,hP'⟩:=hP
    unfold yD at hb
    cases hc:b_ tk.k kk tk.x with
    |none=>rw[hc]at hb;simp at hb
    |some y=>
     rw[hc]at hb
     simp only at hb
     cases hn:Nat.beq n (dR b.xs)with
     |false=>rw[hn]at hb;simp at hb
     |true=>
      rw[hn]at hb
      simp only[gP]at hb
      have en:n=b.xs.length:=by rw[bD hn,qO]
      subst en
      obtain⟨ek,ey⟩:=ji hc
      have hOy:Ow h own ok kk y cst ft:=wY ek ey Jc
      have hcl:cst.length=kk.size:=fU hOy
      have j6:v.cells=cst.toArray:=by
       have:=hv.cells
       apply vE
       simpa using this
      simp only[gF]at hN
      have hle:(b.xs.length+1)*kk.size<=N*kk.size:=j4 _ (by omega)
      rw[iZ,nD]at hle
      have hoff:b.xs.length*kk.size+cst.length<=cells.size:=by rw[hs,hcl];exact hle
      rw[kZ,BF,Sg (place:=λi=>some (i*kk.size,kk.size)) (off:=b.xs.length*kk.size) (vs:=cst) (by simp[hcl]) j6 hoff]
      have hsz:(cells.toList.take (b.xs.length*kk.size)++(cst++cells.toList.drop (b.xs.length*kk.size+cst.length))).toArray.size=N*kk.size:=by
       simp
       omega
      obtain⟨cells',g1,g2,g3,g4⟩:=ih (ay:=ay++[ft]) (b:={ xs:=b.xs++[y],bad:=tk.bad++b.bad,tags:=lF (tk.iQ) b.tags,ws:=b.ws++tk.ws,keep:=tk.keep||b.keep,all:=tk.tags++b.all }) (by simp;omega) hsz (by simp[hf]) (by
       intro i hi
       simp only[dN,gF,kK,nR]at hi
       rw[I7]
       by_cases h0:i<b.xs.length
       ·rw[aj (by rw[hf];exact h0)]
        have e1:(b.xs++[y])[i]'(by simp;omega)=b.xs[i]:=zy h0
        show Ow h own ok kk ((b.xs++[y])[i]'(by simp;omega)) _ _
        rw[e1]
        have e2:iy (cells.toList.take (b.xs.length*kk.size)++(cst++cells.toList.drop (b.xs.length*kk.size+cst.length))) kk.size i=iy cells.toList kk.size i:=by
         have hl2:(i+1)*kk.size<=b.xs.length*kk.size:=j4 _ (by omega)
         rw[iZ,nD]at hl2
         apply Io
         intro j
         by_cases hj:j<kk.size
         ·rw[tu hj,tu hj,xY (by simp;omega),MQ (by omega)]
         ·unfold iy
          rw[uO (by simp;omega),uO (by simp;omega)]
        simp only
        rw[e2]
        exact hO i h0
       ·have:i=b.xs.length:=by omega
        subst this
        rw[aC (by omega),hf,Iq]
        have e1:(b.xs++[y])[b.xs.length]'(by simp)=y:=by simp
        show Ow h own ok kk ((b.xs++[y])[b.xs.length]'(by simp)) _ _
        rw[e1]
        have e2:iy (cells.toList.take (b.xs.length*kk.size)++(cst++cells.toList.drop (b.xs.length*kk.size+cst.length))) kk.size b.xs.length=cst:=by
         have hl:(cells.toList.take (b.xs.length*kk.size)).length=b.xs.length*kk.size:=by simp;omega
         unfold iy
         conv=>lhs;arg 2;arg 1;rw[<-hl]
         rw[List.drop_left,<-hcl,List.take_left]
        simp only
        rw[e2]
        exact hOy) hP' hb
      refine⟨cells',g1,g2,?_,?_⟩
      ·rw[<-g3];simp
      ·intro i hi
       have:=g4 i hi
       simp only[gD,kY,ru]at this
       exact this
end
end
end Go.Proofs.YtplpeegfeajkkaaGreatDoor.Ow
