/- A verified reading of translated code, part D of 7. No condition. -/
import Derived.Test.YtgppmpedglhhfaaGreatDoorOwC
set_option linter.unusedSectionVars false
set_option linter.unusedVariables false
set_option linter.unusedSimpArgs false
namespace Go.Proofs.YtgppmpedglhhfaaGreatDoor.Ow
section
open Go
variable [Fr]
def gH(news:List Value)(s i:Nat):List Value:=(news.drop (i*s)).take s
theorem uQ{news:List Value}{s i m:Nat}(h:news.length=m*s)(hi:i<m):(gH news s i).length=s:=by
 unfold gH
 have:(i+1)*s<=m*s:=jC _ hi
 rw[gX,kZ]at this
 simp
 omega
theorem qo{news:List Value}{s i j:Nat}(hj:j<s):(gH news s i)[j]?=news[i*s+j]?:=by
 unfold gH
 rw[Lh,ak hj,yD]
theorem DI{au nR:List (List Nat)}{i:Nat}:(au++nR).getD i []=if i<au.length then au.getD i []else nR.getD (i-au.length) []:=by
 simp only[gy,List.getElem?_append]
 split<;>rfl
section
variable {P:Program}{T:bF}{w:World}
theorem TW{t u ty e:TypeId}{kk:K}(ht:cK P T t (.sl e kk)){own:List TypeId}{ok:Nat->Prop}{fP gP:List (El kk)}{v0 x:Value}{fK:List Nat}{au:List (List Nat)}{news:List Value}
  (hO:Ow (hp w) own ok (.sl e kk) fP [v0] fK) (hown:ah e own=true) (hnd:(fK++au.flatten).Nodup) (hok:∀b,ok b->b∉fK/\b<w.heap.size) (hlt:∀b∈fK++au.flatten,b<w.heap.size)
  (hS:Src P w kk.size u x gP.length news) (hfl:au.length=gP.length) (hel:∀i (hi:i<gP.length),Ow (hp w) own ok kk gP[i] (gH news kk.size i) (au.getD i []))
  (hb:(fP.length+gP.length)*T.bytes e<=140737488355328) :
  ∃v' w' bE,(Builtin.append_ #[t,u] ty #[v0,x]).run P w=.ok v' w'/\(w'.os=w.os/\w'.tape=w.tape/\w'.output=w.output)/\w.heap.size<=w'.heap.size/\
   (∀b,b<w.heap.size->hp w' b≠hp w b->b∈fK/\h_ (hp w) b=some e)/\(∀b∈bE,b∈fK\/b∈au.flatten\/(w.heap.size<=b/\b<w'.heap.size))/\bE.Nodup/\
   Ow (hp w') own ok (.sl e kk) (fP++gP) [v'] bE:=by
 have hsz:0<kk.size:=ht.sl.2.2.1
 have hnl:=hS.nl
 unfold Ow at hO
 rw[ak hown]at hO
 obtain⟨a,n,c,e1,e2,e3,hO⟩:=hO
 simp only[gQ,dZ]at e1
 subst e1
 have e2':n=fP.length:=e2
 have hnd':=dA.1 hnd
 by_cases hr:n+gP.length<=c
 ·have hrun:=J7 (ty:=ty) ht hS (b:=a) (n:=n) hr
  rcases hO with⟨hc0,hf0⟩|⟨b,o,arr,lo,hi,ea,hbk,hf,hs,kR,hl0,hp0,hO⟩
  ·have hx1:gP=[]:=qB (by omega)
   have hx0:fP=[]:=qB (by omega)
   subst hx1
   subst hx0
   have hnews:news=[]:=qB (by simpa using hnl)
   subst hnews
   have hn0:n=0:=by simpa using e2'
   subst hn0
   subst hc0
   have:(Builtin.append_ #[t,u] ty #[.slice a 0 0,x]).run P w=.ok (.slice a 0 0) w:=by
    rw[hrun]
    cases a<;>rfl
   exact⟨_,w,[],this,⟨rfl,rfl,rfl⟩,bT _,λb _ h=>absurd rfl h,λb hb=>by simp at hb,lM,Fp⟩
  ·subst ea
   have hle:(n+gP.length)*kk.size<=c*kk.size:=jC _ hr
   rw[gX]at hle
   have hst:=FH (P:=P) (o:=o+n*kk.size) news hbk hf (by rw[hnl];omega) hS.one
   simp only[Result.andThen,addr_add,hst]at hrun
   obtain⟨s1,s2,fD,s3,s4,s5,s6⟩:=Cf b news w arr e (lo,hi) (o+n*kk.size) hbk (by rw[hnl];omega)
   have s7:=Cg b news w (o+n*kk.size)
   have hb0:b∈fK:=hp0.mem_iff.2 (by simp)
   have oI:=hp0.nodup hnd'.1
   have hne:∀b'∈kR.flatten++au.flatten,b'≠b:=by
    intro b' hb' e
    subst e
    rcases cZ.1 hb' with h|h
    ·exact(jB.1 oI).1 h
    ·exact hnd'.2.2 b' hb0 b' h rfl
   have V7:∀b',ok b'->hp (w.setCells b (o+n*kk.size) news) b'=hp w b':=λb' h=>s1 b' (λe=>(hok b' h).1 (e▸hb0))
   refine⟨_,_,b :: (kR.flatten++au.flatten),hrun,s7,by omega,?_,?_,?_,?_⟩
   ·intro b' _ hne'
    by_cases e:b'=b
    ·subst e;exact⟨hb0,by unfold h_;rw[hbk]⟩
    ·exact absurd (s1 b' e) hne'
   ·intro b' hb'
    rcases bH.1 hb' with h|h
    ·subst h;exact .inl hb0
    ·rcases cZ.1 h with h|h
     ·exact .inl (hp0.mem_iff.2 (by simp[h]))
     ·exact .inr (.inl h)
   ·refine jB.2 ⟨λh=>hne b h rfl,dA.2 ⟨(jB.1 oI).2,hnd'.2.1,λb1 h1 b2 h2 e=>hnd'.2.2 b1 (hp0.mem_iff.2 (by simp[h1])) b2 h2 e⟩⟩
   ·unfold Ow
    rw[ak hown]
    refine⟨_,_,_,rfl,by simp[e2'],hr,.inr ⟨b,o,fD,lo,hi,rfl,s3,by rw[s4];exact hf,by rw[s4];exact hs,kR++au,by simp[hl0,hfl],by simp,λi hi=>?_⟩⟩
    have hi':i<fP.length+gP.length:=by simpa using hi
    rw[DI]
    by_cases hi0:i<fP.length
    ·obtain⟨ds,h1,h2⟩:=hO i hi0
     have ag6:i<kR.length:=by rw[hl0];exact hi0
     rw[ak ag6]
     have hx:(fP++gP)[i]'hi=fP[i]:=yE hi0
     refine⟨ds,λj hj=>?_,?_⟩
     ·have hdl:=eO h2
      have hlt2:(i+1)*kk.size<=n*kk.size:=jC _ (by omega)
      rw[gX,kZ]at hlt2
      have:=h1 j hj
      unfold cellAt at this ⊢
      rw[hbk]at this
      rw[s3]
      simp only at this ⊢
      rw[s6 _ (by rw[hnl];omega)]
      exact this
     ·show Ow _ own ok kk ((fP++gP)[i]'hi) ds _
      rw[hx]
      exact dK V7 (λ_ h=>h) (λb' hb'=>s1 b' (hne b' (bP _ (tu hb')))) h2
    ·have hi1:i-fP.length<gP.length:=by omega
     rw[aj (by rw[hl0];exact hi0)]
     have hx:(fP++gP)[i]'hi=gP[i-fP.length]:=GR (by omega)
     have hfe:i-kR.length=i-fP.length:=by rw[hl0]
     rw[hfe]
     refine⟨gH news kk.size (i-fP.length),λj hj=>?_,?_⟩
     ·rw[uQ hnl hi1]at hj
      unfold cellAt
      rw[s3,qo hj]
      simp only
      have e4:o+i*kk.size+j=o+n*kk.size+((i-fP.length)*kk.size+j):=by
       have:i*kk.size=n*kk.size+(i-fP.length)*kk.size:=by rw[<-gX];congr 1;omega
       omega
      rw[e4]
      refine s5 _ ?_
      rw[hnl]
      have:(i-fP.length+1)*kk.size<=gP.length*kk.size:=jC _ hi1
      rw[gX,kZ]at this
      omega
     ·show Ow _ own ok kk ((fP++gP)[i]'hi) _ _
      rw[hx]
      exact dK V7 (λ_ h=>h) (λb' hb'=>s1 b' (hne b' (bD _ (tu hb')))) (hel _ hi1)
 ·
  obtain⟨olds,ho1,ho2,kR,hl0,hf0,Iq⟩:∃olds,olds.length=n*kk.size/\(Builtin.firstCells kk.size n (.slice a n c)).run P w.drew=.ok olds.toArray w.drew/\∃kR:List (List Nat),kR.length=fP.length/\((∀b∈kR.flatten,b∈fK)/\kR.flatten.Nodup)/\
    ∀i (hi:i<fP.length),Ow (hp w) own ok kk fP[i] (gH olds kk.size i) (kR.getD i []):=by
   rcases hO with⟨hc0,hf0⟩|⟨b,o,arr,lo,hi,ea,hbk,hf,hs,kR,hl0,hp0,hO⟩
   ·have hx0:fP=[]:=qB (by omega)
    subst hx0
    have hn0:n=0:=by simpa using e2'
    subst hn0
    refine⟨[],by simp,?_,[],rfl,⟨by simp,by simp⟩,λi hi=>by simp at hi⟩
    cases a with
    |none=>exact Qq w.drew kk.size 0 0 c
    |some ad=>exact zP (P:=P) w.drew kk.size 0 ad 0 c [] (by simp) (λj v hj=>by simp at hj)
   ·subst ea
    have hle:n*kk.size<=c*kk.size:=jC _ e3
    have hrow:=Cv (n:=n*kk.size) hbk (by omega:o+n*kk.size<=arr.size)
    have hrl:(gZ (hp w) b o (n*kk.size)).length=n*kk.size:=by simp[gZ]
    have oI:=hp0.nodup hnd'.1
    refine⟨gZ (hp w) b o (n*kk.size),hrl,?_,kR,hl0,⟨λb' hb'=>hp0.mem_iff.2 (by simp[hb']),(jB.1 oI).2⟩,λi hi=>?_⟩
    ·refine zP (P:=P) w.drew kk.size n ⟨b,o,none⟩ n c _ hrl (λj v hj=>?_)
     rw[addr_add,uC]
     have:=hrow j (by rw[hrl];have:=(nL.1 hj).1;rw[hrl]at this;exact this)
     rw[hj]at this
     exact this
    ·obtain⟨ds,h1,h2⟩:=hO i hi
     have hdl:=eO h2
     have:gH (gZ (hp w) b o (n*kk.size)) kk.size i=ds:=by
      apply CX
      intro j
      by_cases hj:j<kk.size
      ·rw[qo hj]
       have hlt2:(i+1)*kk.size<=n*kk.size:=jC _ (by omega)
       rw[gX,kZ]at hlt2
       rw[<-hrow _ (by rw[hrl];omega),<-nO]
       exact h1 j (by omega)
      ·rw[qD (by rw[uQ hrl (by omega)];omega),qD (by omega)]
     rw[this]
     exact h2
  obtain⟨nc,hnc,hrun⟩:=Qp (ty:=ty) ht hS ho2 hr (by rw[e2'];exact hb)
  have hnew:=Bo w.drew (.cells (olds.toArray++news.toArray++Builtin.zeroCells (iK kk).cells (nc-(n+gP.length))) e)
  have hold:∀b',b'<w.heap.size->hp (w.drew.alloc (.cells (olds.toArray++news.toArray++Builtin.zeroCells (iK kk).cells (nc-(n+gP.length))) e)) b'=hp w b':=λb' h=>zw w.drew _ h
  have hws:w.drew.heap.size=w.heap.size:=rfl
  rw[hws]at hnew
  have hsz2:(w.drew.alloc (.cells (olds.toArray++news.toArray++Builtin.zeroCells (iK kk).cells (nc-(n+gP.length))) e)).heap.size=w.heap.size+1:=Array.size_push ..
  have hzl:(iK kk).cells.size=kk.size:=by
   rw[Cu ht.sl.2.1.shape]
   simpa using eO (zU (h:=hp w) (own:=own) (ok:=ok) ht.sl.2.1.fq)
  have hall:∀b'∈kR.flatten++au.flatten,b'<w.heap.size:=by
   intro b' hb'
   rcases cZ.1 hb' with h|h
   ·exact hlt b' (bP _ (hf0.1 b' h))
   ·exact hlt b' (bD _ h)
  refine⟨_,_,w.heap.size :: (kR.flatten++au.flatten),hrun,⟨rfl,rfl,rfl⟩,by omega,λb' hb' hne=>absurd (hold b' hb') hne,?_,?_,?_⟩
  ·intro b' hb'
   rcases bH.1 hb' with h|h
   ·subst h;exact .inr (.inr ⟨bT _,by omega⟩)
   ·rcases cZ.1 h with h|h
    ·exact .inl (hf0.1 b' h)
    ·exact .inr (.inl h)
  ·refine jB.2 ⟨λh=>by have:=hall _ h;omega,dA.2 ⟨hf0.2,hnd'.2.1,λb1 h1 b2 h2 e=>hnd'.2.2 b1 (hf0.1 b1 h1) b2 h2 e⟩⟩
  ·unfold Ow
   rw[ak hown]
   refine⟨_,_,_,rfl,by simp[e2'],hnc,.inr ⟨w.heap.size,0,_,0,0,rfl,hnew,iE.zero,?_,kR++au,by simp[hl0,hfl],by simp,λi hi=>?_⟩⟩
   ·simp only[Array.size_append,Al,size_zeroCells,hzl,ho1,hnl,<-gX]
    have:n+gP.length+(nc-(n+gP.length))=nc:=by omega
    rw[this]
    omega
   have hi':i<fP.length+gP.length:=by simpa using hi
   rw[DI]
   have hcell:∀q,q<(olds++news).length->cellAt (hp (w.drew.alloc (.cells (olds.toArray++news.toArray++Builtin.zeroCells (iK kk).cells (nc-(n+gP.length))) e))) w.heap.size (0+q)=(olds++news)[q]?:=by
    intro q hq
    unfold cellAt
    rw[hnew]
    simp only[jN]
    rw[Kv (by simpa using hq)]
    simp
   by_cases hi0:i<fP.length
   ·rw[ak (by rw[hl0];exact hi0)]
    have hx:(fP++gP)[i]'hi=fP[i]:=yE hi0
    refine⟨gH olds kk.size i,λj hj=>?_,?_⟩
    ·rw[uQ ho1 (by omega)]at hj
     have hlt2:(i+1)*kk.size<=n*kk.size:=jC _ (by omega)
     rw[gX,kZ]at hlt2
     rw[nO,hcell _ (by rw[d_,ho1];omega),uo (by rw[ho1];omega),qo hj]
    ·show Ow _ own ok kk ((fP++gP)[i]'hi) _ _
     rw[hx]
     exact dK (λb' h=>hold b' (hok b' h).2) (λ_ h=>h) (λb' hb'=>hold b' (hall b' (bP _ (tu hb')))) (Iq i hi0)
   ·have hi1:i-fP.length<gP.length:=by omega
    rw[aj (by rw[hl0];exact hi0)]
    have hx:(fP++gP)[i]'hi=gP[i-fP.length]:=GR (by omega)
    have hfe:i-kR.length=i-fP.length:=by rw[hl0]
    rw[hfe]
    refine⟨gH news kk.size (i-fP.length),λj hj=>?_,?_⟩
    ·rw[uQ hnl hi1]at hj
     have hlt2:(i-fP.length+1)*kk.size<=gP.length*kk.size:=jC _ hi1
     rw[gX,kZ]at hlt2
     have e4:i*kk.size=n*kk.size+(i-fP.length)*kk.size:=by rw[<-gX];congr 1;omega
     rw[nO,hcell _ (by rw[d_,ho1,hnl];omega),u7 (by rw[ho1];omega),qo hj]
     congr 1
     rw[ho1]
     omega
    ·show Ow _ own ok kk ((fP++gP)[i]'hi) _ _
     rw[hx]
     exact dK (λb' h=>hold b' (hok b' h).2) (λ_ h=>h) (λb' hb'=>hold b' (hall b' (bD _ (tu hb')))) (hel _ hi1)
end
end
section
open Go
variable [Fr]
section
variable {P:Program}{T:bF}{cx:Cx}{Z:St}{J:aF}{F:List Nat}{a:Act}{w:World}
theorem adG{k l:K}(e:k=l){x:El k}{y:El l}(ey:y=e▸x){h:Heap}{ok:Nat->Prop}{cs:List Value}(H:Vw h ok k x cs):Vw h ok l y cs:=by subst e;subst ey;exact H
theorem uw{k l:K}(e:k=l){x:El k}{y:El l}(ey:y=e▸x){h:Heap}{own:List TypeId}{ok:Nat->Prop}{cs:List Value}{fo:List Nat}(H:Ow h own ok k x cs fo):Ow h own ok l y cs fo:=by subst e;subst ey;exact H
theorem Qo{u:TypeId}{size n c bb q:Nat}(hu:(∃e',P.underlying u=some (.slice e'))\/P.underlying u=some .string)(Q:Nat->List Value->Prop)
  (hE:∀i,i<n->∃ds,ds.length=size/\Cells (hp w) bb (q+i*size) ds/\(∀v∈ds,v.oneCell'=true)/\Q i ds) :
  ∃news,Src P w size u (.slice (some ⟨bb,q,none⟩) n c) n news/\∀i,i<n->Q i (gH news size i):=by
 have hrl:(gZ (hp w) bb q (n*size)).length=n*size:=by simp[gZ]
 have hseg:∀i,i<n->∃ds,gH (gZ (hp w) bb q (n*size)) size i=ds/\ds.length=size/\Cells (hp w) bb (q+i*size) ds/\(∀v∈ds,v.oneCell'=true)/\Q i ds:=by
  intro i hi
  obtain⟨ds,hdl,h1,h2,h3⟩:=hE i hi
  refine⟨ds,?_,hdl,h1,h2,h3⟩
  apply CX
  intro j
  by_cases hj:j<size
  ·rw[qo hj]
   have hlt2:(i+1)*size<=n*size:=jC _ (by omega)
   rw[gX,kZ]at hlt2
   unfold gZ
   rw[CY,Tj (by omega)]
   have:=h1 j (by omega)
   simp only[gz]
   rw[<-nO,this,gK (by omega)]
   rfl
  ·rw[qD (by rw[uQ hrl hi];omega),qD (by omega)]
 have hcell:∀j,j<n*size->cellAt (hp w) bb (q+j)=(gZ (hp w) bb q (n*size))[j]?/\∀v,(gZ (hp w) bb q (n*size))[j]?=some v->v.oneCell'=true:=by
  intro j hj
  have hk:0<size:=by
   rcases Nat.eq_zero_or_pos size with h|h
   ·rw[h]at hj;omega
   ·exact h
  have hi:j / size<n:=Nat.div_lt_of_lt_mul (by rw[Nat.mul_comm];exact hj)
  have hm:j%size<size:=Nat.mod_lt _ hk
  obtain⟨ds,s1,hdl,s2,s3,_⟩:=hseg _ hi
  have hjj:j / size*size+j%size=j:=by rw[Nat.mul_comm];exact Nat.div_add_mod j size
  have h1:(gZ (hp w) bb q (n*size))[j]?=ds[j%size]?:=by
   rw[<-s1,qo hm,hjj]
  have h2:=s2 (j%size) (by omega)
  rw[nO,hjj]at h2
  refine⟨by rw[h2,h1],λv hv=>?_⟩
  rw[h1]at hv
  exact s3 v (pX hv)
 refine⟨gZ (hp w) bb q (n*size),FO hu hrl (λv hv=>?_) (λ_=>⟨bb,q,rfl,λi hi=>(hcell i (by rw[hrl]at hi;exact hi)).1⟩),λi hi=>?_⟩
 ·obtain⟨j,hj,rfl⟩:=u_.1 hv
  exact(hcell j (by rw[hrl]at hj;exact hj)).2 _ (gK hj)
 ·obtain⟨ds,s1,_,_,_,s3⟩:=hseg i hi
  rw[s1]
  exact s3
theorem Kq{u e:TypeId}{kk:K}{h:Heap}{ok:Nat->Prop}{xs:List (El kk)}{v:Value}{cs:List Value}(hu:(∃e',P.underlying u=some (.slice e'))\/P.underlying u=some .string)(hg:fq kk=true)
  (hh:h=hp w) (hv:VC (.sl e kk) v cs) (hV:Vw h ok (.sl e kk) xs cs) :
  ∃news,Src P w kk.size u v xs.length news/\∀i (hi:i<xs.length),Vw h ok kk xs[i] (gH news kk.size i):=by
 subst hh
 obtain⟨b,n,c,e1,e2,e3,e4,e5⟩:=zQ hv hV
 subst e1
 subst e3
 by_cases h0:0<xs.length
 ·obtain⟨bb,q,eb,hok,hel,hE⟩:=e5 h0
  subst eb
  obtain⟨news,g1,g2⟩:=Qo (P:=P) (w:=w) (n:=xs.length) (c:=c) (bb:=bb) (q:=q) hu (λi ds=>∀hi:i<xs.length,Vw (hp w) ok kk xs[i] ds) (λi hi=>by
   obtain⟨ds,h1,h2⟩:=hE i hi
   exact⟨ds,lQ h2,h1,Ho hg h2,λ_=>h2⟩)
  exact⟨news,g1,λi hi=>g2 i hi hi⟩
 ·have hx:xs=[]:=qB (by omega)
  subst hx
  exact⟨[],FO hu (by simp) (by simp) (λh=>by simp at h),λi hi=>by simp at hi⟩
theorem Zr{u e:TypeId}{kk:K}{own:List TypeId}{ok:Nat->Prop}{xs:List (El kk)}{v:Value}{cs:List Value}{fo:List Nat}(hu:(∃e',P.underlying u=some (.slice e'))\/P.underlying u=some .string)(hg:fq kk=true)
  (hv:VC (.sl e kk) v cs) (hown:ah e own=true) (hO:Ow (hp w) own ok (.sl e kk) xs cs fo) (hnd:fo.Nodup) :
  ∃news,Src P w kk.size u v xs.length news/\∃au:List (List Nat),au.length=xs.length/\au.flatten.Nodup/\(∀b∈au.flatten,b∈fo)/\∀i (hi:i<xs.length),Ow (hp w) own ok kk xs[i] (gH news kk.size i) (au.getD i []):=by
 unfold Ow at hO
 rw[ak hown]at hO
 obtain⟨b,n,c,e1,e2,e3,hO⟩:=hO
 obtain⟨e5,_⟩:cs=[v]/\_:=hv
 rw[e1]at e5
 simp only[gQ,dZ]at e5
 subst e5
 have e2':n=xs.length:=e2
 subst e2'
 rcases hO with⟨hc0,hf0⟩|⟨bb,q,arr,lo,hi,ea,hbk,hf,hs,kR,hl0,hp0,hO⟩
 ·have hx:xs=[]:=qB (by omega)
  subst hx
  exact⟨[],FO hu (by simp) (by simp) (λh=>by simp at h),[],rfl,by simp,by simp,λi hi=>by simp at hi⟩
 ·subst ea
  have oI:=hp0.nodup hnd
  obtain⟨news,g1,g2⟩:=Qo (P:=P) (w:=w) (n:=xs.length) (c:=c) (bb:=bb) (q:=q) hu (λi ds=>∀hi:i<xs.length,Ow (hp w) own ok kk xs[i] ds (kR.getD i [])) (λi hi=>by
   obtain⟨ds,h1,h2⟩:=hO i hi
   exact⟨ds,eO h2,h1,G6 hg h2,λ_=>h2⟩)
  exact⟨news,g1,kR,hl0,(jB.1 oI).2,λb hb=>hp0.mem_iff.2 (by simp[hb]),λi hi=>g2 i hi hi⟩
theorem afz{kk:K}{own own':List TypeId}{ok:Nat->Prop}{xs:List (El kk)}{news:List Value}{au:List (List Nat)}(hfl:au.length=xs.length)(hnd:au.flatten.Nodup)(hsub:∀t∈kk.tys,ah t own'=true->ah t own=true)
  (hel:∀i (hi:i<xs.length),Ow (hp w) own ok kk xs[i] (gH news kk.size i) (au.getD i [])) :
  ∃(nR:List (List Nat)) (iO:List Nat),nR.length=xs.length/\(nR.flatten++iO).Nodup/\(∀b∈nR.flatten++iO,b∈au.flatten)/\
   ∀i (hi:i<xs.length),Ow (hp w) own' (λb=>ok b\/b∈iO) kk xs[i] (gH news kk.size i) (nR.getD i []):=by
 suffices hs:∀(n:Nat),n<=xs.length->∃(nR:List (List Nat)) (iO:List Nat),nR.length=n/\(au.take n).flatten.Perm (nR.flatten++iO)/\
   ∀i (_:i<n) (hi:i<xs.length),Ow (hp w) own' (λb=>ok b\/b∈iO) kk xs[i] (gH news kk.size i) (nR.getD i []) by
  obtain⟨nR,iO,h1,h2,h3⟩:=hs xs.length (bT _)
  rw[Tp (by omega)]at h2
  exact⟨nR,iO,h1,h2.nodup hnd,λb hb=>h2.mem_iff.2 hb,λi hi=>h3 i hi hi⟩
 intro n
 induction n with
 |zero=>intro _;exact⟨[],[],rfl,by simp,λi hi=>by omega⟩
 |succ n ih=>
  intro hn
  obtain⟨nR,iO,h1,h2,h3⟩:=ih (by omega)
  obtain⟨f1,f2,p1,p2⟩:=vo (own':=own') hsub (hel n (by omega))
  refine⟨nR++[f1],iO++f2,by simp[h1],?_,λi hi hi'=>?_⟩
  ·rw[GX (by omega),Tf]
   have e:[au[n]'(by omega)].flatten=au.getD n []:=by rw[mM (show n<au.length by omega)];simp
   rw[e]
   refine(h2.append p1).trans ?_
   simp only[Tf,fH]
   refine yC _ ?_
   simp only[oW,GQ,jJ]
   exact BV
  ·rw[DI,h1]
   by_cases h:i<n
   ·rw[ak h]
    exact dK (λ_ _=>rfl) (λb hb=>hb.imp id (λh=>by simp[h])) (λ_ _=>rfl) (h3 i h hi')
   ·have:i=n:=by omega
    subst this
    rw[aj (by omega)]
    simp only[Ao]
    exact dK (λ_ _=>rfl) (λb hb=>hb.imp id (λh=>by simp[h])) (λ_ _=>rfl) p2
def LB(P:Program)(cx:Cx)(Z:St)(J:aF)(F:List Nat)(a:Act)(w:World)(u e:TypeId)(kk:K)(v:Value)(s:oU kk):Prop:=
 ∃aV F1 news,Rel cx (aB s.ws Z) aV F1 a w/\(∀q,q∉s.ws.flatMap Wr.dR->Same Z J (aB s.ws Z) aV q)/\(aB s.ws Z).slots=Z.slots/\(∀q,Z.roots q=none->(aB s.ws Z).roots q=none)/\(∀b∈F,b∈F1)/\
  fC (aB s.ws Z) s.tags/\Src P w kk.size u v s.xs.length news/\
  ∀own',(∀t∈kk.tys,ah t own'=true->t∉s.bad)->∃(au:List (List Nat)) (iO:List Nat),au.length=s.xs.length/\(au.flatten++iO).Nodup/\(∀b∈au.flatten++iO,b∈F1/\b∉F)/\
   ∀i (hi:i<s.xs.length),Ow (hp w) own' (λb=>(aO cx (aB s.ws Z) aV F1 w s.tags b/\∃t∈s.bad,kr (hp w) b t)\/b∈iO) kk s.xs[i] (gH news kk.size i) (au.getD i [])
theorem MZ{n i:Nat}:(List.replicate n ([]:List Nat)).getD i []=[]:=by
 simp only[gy,List.getElem?_replicate]
 split<;>rfl
theorem FM(H:Rel cx Z J F a w){u e:TypeId}{kk:K}{v:Value}{s:oU kk}(hws:s.ws=[])(dU:fC Z s.tags){news:List Value}(hS:Src P w kk.size u v s.xs.length news)
  (hV:∀i (hi:i<s.xs.length),Vw (hp w) (aO cx Z J F w s.tags) kk s.xs[i] (gH news kk.size i)) (hbad:s.bad=kk.tys\/kk.flat=true\/s.xs=[]):LB P cx Z J F a w u e kk v s:=by
 refine⟨J,F,news,by rw[hws];exact H,by rw[hws];exact λq _=>sG ..,by rw[hws];rfl,by rw[hws];exact λq h=>h,λ_ h=>h,by rw[hws];exact dU,hS,λown' ho=>?_⟩
 refine⟨List.replicate s.xs.length [],[],by simp,by simp,by simp,λi hi=>?_⟩
 rw[MZ,hws]
 rcases hbad with h|h|h
 ·refine dK (λ_ _=>rfl) (λb hb=>.inl (h▸hb)) (λ_ _=>rfl) (yH (λt ht=>?_) (De kk.tys (λ_ h=>h) (hV i hi)))
  cases hm:ah t own' with
  |false=>rfl
  |true=>exact absurd (h▸ht) (ho t ht hm)
 ·exact yH (λt ht=>by rw[A8 h]at ht;simp at ht) (kL h (hV i hi))
 ·rw[h]at hi;simp at hi
theorem aau{A:Type}{z:A}(H:Rel cx Z J F a w){u e:TypeId}{kk:K}{x:AV}{v:Value}{k:oU kk->Prog A}(hu:(∃e',P.underlying u=some (.slice e'))\/P.underlying u=some .string)(hg:fq kk=true)
  (hx:aR cx Z J F w x v) (hw:dB Z x) (h:(FN e kk x k).ends Z z):∃s:oU kk,(k s).ends Z z/\LB P cx Z J F a w u e kk v s:=by
 have qi:(oD x λk' y tags=>match bR k' (.sl e kk) y with
   |some xs=>k ⟨xs,kk.tys,bif kk.flat then []else tags,[],false,[]⟩
   |none=>.fail).ends Z z->∃s:oU kk,(k s).ends Z z/\LB P cx Z J F a w u e kk v s:=by
  intro h
  obtain⟨k',y,Tg,cs,h1,h2,h3,h4⟩:=AB H hx hw h
  cases hc:bR k' (.sl e kk) y with
  |none=>rw[hc]at h4;exact h4.elim
  |some xs=>
   rw[hc]at h4
   obtain⟨ek,ey⟩:=iw hc
   subst ek
   simp only at ey
   subst ey
   obtain⟨news,g1,g2⟩:=Kq (P:=P) (u:=u) (xs:=xs) hu hg rfl h1 h2
   cases hf:kk.flat with
   |true=>
    rw[hf]at h4
    exact⟨_,h4,FM H rfl (λt ht=>by simp at ht) g1 (λi hi=>kL hf (g2 i hi)) (.inr (.inl hf))⟩
   |false=>
    rw[hf]at h4
    exact⟨_,h4,FM H rfl h3 g1 g2 (.inl rfl)⟩
 cases x with
 |val k1 y Tg=>
  cases k1 with
  |str=>
   simp only[FN]at h
   cases h1:bR (.int .u8) kk (0:Int)with
   |none=>rw[h1]at h;exact h.elim
   |some q=>
    rw[h1]at h
    obtain⟨ek,_⟩:=iw h1
    subst ek
    simp only at h
    cases h2:bR (.sl e (.int .u8)) (.sl e (.int .u8)) (show List Int from y)with
    |none=>rw[h2]at h;exact h.elim
    |some xs=>
     rw[h2]at h
     obtain⟨_,ey⟩:=iw h2
     simp only at ey
     subst ey
     obtain⟨B,e1,e2⟩:=xW hx
     subst e1
     have hlen:(bytesOf B).length=B.size:=qF B
     have hS:=aox (P:=P) (w:=w) (u:=u) (B:=B) hu
     subst e2
     refine⟨_,h,FM H rfl (λt ht=>by simp at ht) (news:=B.data.toList.map λb=>.int .u8 b.toNat) ?_ (λi hi=>?_) (.inr (.inl rfl))⟩
     ·show Src P w 1 u _ (bytesOf B).length _
      rw[hlen]
      exact hS
     ·have hi':i<B.size:=by
       have:i<(bytesOf B).length:=hi
       rw[hlen]at this;exact this
      have hseg:gH (B.data.toList.map λb=>Value.int .u8 b.toNat) (K.int .u8).size i=[.int .u8 (B.data.toList[i]'(by simpa using hi')).toNat]:=by
       apply CX
       intro j
       show(gH (B.data.toList.map λb=>Value.int .u8 b.toNat) 1 i)[j]?=_
       cases j with
       |zero=>rw[qo (by omega)];simp[hi']
       |succ j=>rw[qD (by rw[uQ (m:=B.size) (by simp) hi'];omega)];simp
      rw[hseg]
      have he:(bytesOf B)[i]'hi=((B.data.toList[i]'(by simpa using hi')).toNat:Int):=by simp[bytesOf]
      refine⟨?_,?_⟩
      ·show [Value.int .u8 _]=[Value.int .u8 _]
       congr 2
       exact he.symm
      ·show kI .u8 _
       have:kI .u8 ((B.data.toList[i]'(by simpa using hi')).toNat:Int):=⟨by omega,by have:=(B.data.toList[i]'(by simpa using hi')).toNat_lt;omega⟩
       exact he▸this
  |_=>exact qi h
 |eH=>
  obtain⟨b,rfl⟩:=hx
  exact⟨_,h,FM H rfl (λt ht=>by simp at ht) (news:=[]) (FO hu (by simp) (by simp) (λh=>by simp at h)) (λi hi=>by simp at hi) (.inr (.inr rfl))⟩
 |ref r g=>
  simp only[FN]at h
  obtain⟨R,hr,hv,h⟩:=gJ h
  rcases bz h with⟨hg1,h⟩|⟨_,h⟩
  ·have hgg:=a_ hg1
   obtain⟨hkind,iX⟩:=hx R hr hgg
   cases hc:bR R.k (.sl e kk) R.x with
   |none=>rw[hc]at h;exact h.elim
   |some xs=>
    rw[hc]at h
    simp only at h
    obtain⟨ek,ey⟩:=iw hc
    have K:=H.roots r R hr
    have hO:=K.ow hv
    have ah7:=tL H hr hO (λb hb=>hb)
    cases hf:kk.flat with
    |true=>
     rw[hf]at h
     have lC:Vw (hp w) (aO cx Z J F w (R.out r R.k)) (.sl e kk) xs (J.hdr r):=adG ek ey ah7
     obtain⟨news,g1,g2⟩:=Kq (P:=P) (u:=u) (xs:=xs) hu hg rfl (ek▸iX) lC
     exact⟨_,h,FM H rfl (λt ht=>by simp at ht) g1 (λi hi=>kL hf (g2 i hi)) (.inr (.inl hf))⟩
    |false=>
     rw[hf]at h
     simp only[jr]at h
     rcases bz h with⟨_,h⟩|⟨_,h⟩
     ·exact h.elim
     ·obtain⟨H1,T1,hh,hcl⟩:=kill H hr hkind hv
      have o_:Ow (hp w) R.own (aO cx (aL Z r gM) (iC J r) (J.fo r++F) w R.tags) (.sl e kk) xs (J.hdr r) (J.fo r):=uw ek ey (hh.ow hcl)
      have Vu:VC (.sl e kk) v (J.hdr r):=ek▸iX
      have hsame:∀q,q∉([Wr.r r none]:List Wr).flatMap Wr.dR->Same Z J (aL Z r gM) (iC J r) q:=λq hq=>kg (by simpa[Wr.dR]using hq)
      have hnone:∀q,Z.roots q=none->(aL Z r gM).roots q=none:=λq hq=>by
       rw[jf]
       ·exact hq
       ·intro e;rw[e,hr.1]at hq;simp at hq
      have rC:∀b∈J.fo r,b∉F:=λb hb=>H.dM r R hr b (bD _ hb)
      cases hme:ah e R.own with
      |true=>
       obtain⟨news,g1,au,g2,g3,g4,g5⟩:=Zr (P:=P) (u:=u) hu hg Vu hme o_ hh.nd
       rw[hme]at h
       simp only[fJ,Bool.true_and]at h
       refine⟨_,h,iC J r,J.fo r++F,news,H1,hsame,rfl,hnone,λb hb=>bD _ hb,?_,g1,λown' ho=>?_⟩
       ·intro t ht
        simp only at ht
        cases hal:(kk.tys.all λt=>ah t R.own)with
        |true=>rw[hal]at ht;simp at ht
        |false=>rw[hal]at ht;exact hh.wt t ht
       ·simp only at ho ⊢
        have MX:∀i (hi:i<List.length xs),Ow (hp w) R.own (λb=>aO cx (aL Z r gM) (iC J r) (J.fo r++F) w (bif (kk.tys.all λt=>ah t R.own)then []else R.tags) b/\∃t∈aZ R.own kk,kr (hp w) b t) kk xs[i] (gH news kk.size i) (au.getD i []):=by
         intro i hi
         cases hal:(kk.tys.all λt=>ah t R.own)with
         |false=>exact qE _ (λ_ h=>h) (g5 i hi)
         |true=>exact lq (om (mQ hal)) (g5 i hi)
        obtain⟨nR,iO,f1,f2,f3,f4⟩:=afz (own':=own') g2 g3 (λt ht hm=>(FT (own:=R.own) ht).resolve_left (λhx=>ho t ht hm hx)) MX
        exact⟨nR,iO,f1,f2,λb hb=>⟨bP _ (g4 b (f3 b hb)),rC b (g4 b (f3 b hb))⟩,f4⟩
      |false=>
       have hO2:=o_
       unfold Ow at hO2
       rw[hme]at hO2 h
       simp only[bY,bO]at hO2
       simp only[jr,Bool.false_and]at h
       obtain⟨news,g1,g2⟩:=Kq (P:=P) (u:=u) (xs:=xs) hu hg rfl Vu hO2.2
       refine⟨_,h,iC J r,J.fo r++F,news,H1,hsame,rfl,hnone,λb hb=>bD _ hb,hh.wt,g1,λown' ho=>?_⟩
       refine⟨List.replicate (List.length xs) [],[],by simp,by simp,by simp,λi hi=>?_⟩
       rw[MZ]
       refine dK (λ_ _=>rfl) (λb hb=>.inl hb) (λ_ _=>rfl) (yH (λt ht=>?_) (De kk.tys (λ_ h=>h) (g2 i hi)))
       cases hm:ah t own' with
       |false=>rfl
       |true=>exact absurd ht (ho t ht hm)
  ·exact h.elim
 |dJ r p n=>exact qi h
 |undef=>exact qi h
 |ptr r p n=>exact qi h
 |eY bt k y T=>exact qi h
 |ko _ _ _ _=>exact qi h
 |nG _=>exact qi h
 |part _ _ _ _ _=>exact qi h
 |lH _ _ _ _=>exact qi h
 |sub _ _ _ _ _ _=>exact qi h
 |sel _ _ _ _ _ _=>exact qi h
 |app _ _ _ _=>exact qi h
 |iI=>exact qi h
 |fn f cs=>exact qi h
end
end
section
open Go
variable [Fr]
section
variable {P:Program}{T:bF}{cx:Cx}{Z:St}{J:aF}{F:List Nat}{a:Act}{w:World}{o:Oper}{d:Nat}{ws:List Wr}{r:Nat}{R:Root}
theorem anI(H:Rel cx Z J F a w)(hr:aU Z r R)(hv:cz Z R)(hk:R.kind=.anon){R':Root}(hk':R'.kind=.anon){e:TypeId}(hw:R'.w=e :: R.w)(hh:R'.h=iZ :: e :: R.h)(hg:R'.g=R.g+1)(hev:R'.ew=R.ew/\R'.eh=R.eh)
  (dU:fC Z R'.tags/\∀n,(r,n)∉R'.tags) {w':World} (hos:w'.os=w.os/\w'.tape=w.tape/\w'.output=w.output) (hsize:w.heap.size<=w'.heap.size) {bE:List Nat}
  (oF:∀b,b<w.heap.size->hp w' b≠hp w b->b∈F\/(b∈J.fo r/\h_ (hp w) b=some e)) (am4:∀b∈bE,b∈J.fo r\/b∈F\/(w.heap.size<=b/\b<w'.heap.size)) (hnd:bE.Nodup)
  {hdr':List Value} (hlen:hdr'.length=R'.k.size) (how:Ow (hp w') R'.own (aO cx (aL Z r R') (aW J r (J.loc r) hdr' bE) [] w' R'.tags) R'.k R'.x hdr' bE) {v':Value} (hv':VC R'.k v' hdr') :
  Rel cx (aL Z r R') (aW J r (J.loc r) hdr' bE) [] a w'/\aR cx (aL Z r R') (aW J r (J.loc r) hdr' bE) [] w' (.ref r R'.g) v':=by
 have hblk:blk J R r=J.fo r:=by simp[blk,aK,hk]
 have hd':R'.bV=false:=by simp[Root.bV,hk']
 have T1:sH cx Z J F w r R R' bE [] w' [e] [iZ,e]:=by
  refine⟨.inr ⟨hw,hh,by omega,hk'.trans hk.symm,λh=>by rw[hk]at h;simp at h,.inl (by simp)⟩,dU,hos,hsize,λb hb hne=>?_,λ_ b hb=>?_,λb hb=>by simp at hb,lM,λ_ b _ h=>by simp at h,λj pi b o n hj hb Br hne=>?_,λ_=>hev⟩
  ·rcases oF b hb hne with h|⟨h1,h2⟩
   ·exact .inl h
   ·exact .inr ⟨by rw[hblk];exact h1,.inr (.inl ⟨e,by simp,h2⟩)⟩
  ·rw[o7 hk']at hb
   rw[hblk]
   exact am4 b hb
  ·obtain⟨Q,hQ,hkq,_,_⟩:=H.jT j pi b o n hj hb
   have hQR:Q=R:=by have:=hQ.1;rw[<-Br,hr.1]at this;simpa using this.symm
   rw[hQR,hk]at hkq
   simp at hkq
 refine⟨T1.rel H hr (λ_=>⟨λ_=>how,hlen,λb o hb=>by rw[Cs hk']at hb;simp at hb,by rw[o7 hk'];exact hnd⟩) ?_ ?_,?_⟩
 ·intro _ p n v hn hold
  refine⟨hold.1,λQ hQ lF hcl hty hs=>?_⟩
  rw[fF]at hQ
  simp only[aa]at hQ
  subst hQ
  cases p with
  |nil=>
   obtain⟨_,cs,b,o,h1,_⟩:=hold.2 R hr.1 hv (by simp[clean,iD,ah]) (λt ht=>by simp[az]at ht) rfl
   simp only[aN,aa,bK]at h1
   have:aK J R r=none:=by simp[aK,hk]
   rw[this]at h1
   simp at h1
  |cons s p=>
   have e1:R'.h=[iZ,e]++R.h:=hh
   rw[e1,yS hn]at hcl
   exact absurd (show iZ∈iD (s :: p) R'.k from jl) (hcl.1 iZ (by simp))
 ·intro _ g v hgl hold Q hQ Bf
  obtain⟨rfl,_⟩:=nE hQ
  omega
 ·intro Q hQ _
  obtain⟨rfl,_⟩:=nE hQ
  refine⟨hk',?_⟩
  simp only[aW,upd_same]
  exact hv'
theorem JR(H:Rel cx Z J F a w){w':World}(hs:w.heap.size<=w'.heap.size){Tg TE:List Tag}{bE:List Nat}{b:Nat}(hb:aO cx Z J F w Tg b\/b∈F)(ht:∀t∈Tg,t∈TE)(hfo:b∉bE):aO cx Z J bE w' TE b:=by
 rcases hb with hb|hb
 ·exact⟨uu hb.1 hs,hfo,hb.2.2.1,λq Q hq hbq=>(hb.2.2.2.1 q Q hq hbq).imp λn hn=>ht _ hn,λh0=>(hb.2.2.2.2 h0).imp (λ⟨j,n,h1,h2⟩=>⟨j,n,ht _ h1,h2⟩) id⟩
 ·have hm:=H.fl b hb
  refine⟨uu hm.1 hs,hfo,yh H hb,λq Q hq hbq=>absurd hb (H.dM q Q hq b hbq),λh0=>?_⟩
  rcases hm.2 with h|⟨j,pi,h1,h2⟩
  ·omega
  ·exact .inr ⟨j,pi,h1,h2⟩
theorem FE{c:Call}(ho:o.op=.call c)(hb:c.callee=.builtin .append){x y:Operand}(ha:c.args.toList=[x,y]){t u:TypeId}(ht:c.argTypes[0]?=some t)(hu:c.argTypes[1]?=some u){v':Value}{w':World}
  (h:(Builtin.append_ #[t,u] o.type #[a.eval x,a.eval y]).run P w=.ok v' w'):(execOp a.eval o).run P w=.ok (.value v') w':=by
 obtain⟨cc,hcc⟩:=Cc (P:=P) (a:=a) (w:=w) ho hb
 rw[hcc]
 have h1:c.args.map a.eval=#[a.eval x,a.eval y]:=by
  apply qV
  rw[uf,ha]
  rfl
 have h2:Builtin.append_ c.argTypes o.type #[a.eval x,a.eval y]=Builtin.append_ #[t,u] o.type #[a.eval x,a.eval y]:=by
  unfold Builtin.append_
  simp only[ht,hu]
  rfl
 rw[h1]
 simp only[builtin,dG,h2,h,eZ,dW]
end
end
section
open Go
variable [Fr]
section
variable {P:Program}{T:bF}{cx:Cx}{Z:St}{J:aF}{F:List Nat}{a:Act}{w:World}{o:Oper}{d:Nat}{ws:List Wr}
theorem TY(hT:eG P T){Z1:St}{aV:aF}{F1:List Nat}(H1:Rel cx Z1 aV F1 a w)(hd:o.dst=some d)(hdn:d<cx.nt){c:Call}(ho:o.op=.call c)(hcb:c.callee=.builtin .append){x y:Operand}(ha:c.args.toList=[x,y])
  {t u e:TypeId} {kk:K} (ht0:c.argTypes[0]?=some t) (hu0:c.argTypes[1]?=some u) (hty:T.ty t=some (.sl e kk)) (hn1:Z1.roots (aG d 0)=none)
  {own:List TypeId} {tags T1 T2:List Tag} {bad:List TypeId} {fP gP:List (El kk)} {v0:Value} {fK fd:List Nat} {au:List (List Nat)} {iO:List Nat} {news:List Value} (hv0:a.eval x=v0) (hS:Src P w kk.size u (a.eval y) gP.length news)
  (hown:ah e own=true) (V5:∀t,ah t own=true->t∉bad) (hwt:fC Z1 tags) (ht1:∀t∈T1,t∈tags) (ht2:∀t∈T2,t∈tags)
  (hO:Ow (hp w) own (λb=>aO cx Z1 aV F1 w T1 b\/b∈fd) (.sl e kk) fP [v0] fK) (xy:∀b∈fK++fd,b∈F1) (oI:(fK++fd).Nodup) (hF1:∀b∈au.flatten++iO,b∈F1/\b∉fK++fd) (xA:(au.flatten++iO).Nodup)
  (hfl:au.length=gP.length) (hel:∀i (hi:i<gP.length),Ow (hp w) own (λb=>((aO cx Z1 aV F1 w T2 b\/b∈F1)/\∃t∈bad,kr (hp w) b t)\/b∈iO) kk gP[i] (gH news kk.size i) (au.getD i []))
  (hb:(fP.length+gP.length)*T.bytes e<=140737488355328) (kp:Bool) :
  dn P cx o a w (aB [.r (aG d 0) (some (bL (.sl e kk) (fP++gP) own tags .anon kp)),.s d (.one (.ref (aG d 0) 0))] Z1):=by
 have ht:=hT.ty t _ hty
 have n0:=dA.1 oI
 have n1:=dA.1 xA
 have hlt:∀b∈F1,b<w.heap.size:=λb h=>(H1.fl b h).1
 have NR:=yG hO
 have hnot:∀b,((aO cx Z1 aV F1 w T2 b\/b∈F1)/\∃t∈bad,kr (hp w) b t)->b∉fK:=by
  rintro b ⟨_,t,h1,h2⟩ hb0
  obtain⟨e',_,h3,h4⟩:=NR b hb0
  have h2:=H1.zR (H1.fl b (xy b (bP _ hb0))) h2
  rw[h2]at h4
  simp only[aa]at h4
  subst h4
  exact V5 _ h3 h1
 let ok:Nat->Prop:=λb=>(aO cx Z1 aV F1 w T1 b\/b∈fd)\/((aO cx Z1 aV F1 w T2 b\/b∈F1)/\∃t∈bad,kr (hp w) b t)\/b∈iO
 obtain⟨v',w',bE,hrun,hos,hsz,nT,hfo,vP,lC⟩:=TW (w:=w) (ok:=ok) (u:=u) (ty:=o.type) (x:=a.eval y) (au:=au) ht (dK (λ_ _=>rfl) (λb h=>.inl h) (λ_ _=>rfl) hO) hown
  (dA.2 ⟨n0.1,n1.1,λb1 h1 b2 h2 e=>(hF1 b2 (bP _ h2)).2 (bP _ (e▸h1))⟩)
  (λb hb=>by
   rcases hb with(h|h)|h|h
   ·exact⟨λh0=>h.2.1 (xy b (bP _ h0)),h.1⟩
   ·exact⟨λh0=>n0.2.2 b h0 b h rfl,hlt b (xy b (bD _ h))⟩
   ·refine⟨hnot b h,?_⟩
    rcases h.1 with h|h
    ·exact h.1
    ·exact hlt b h
   ·exact⟨λh0=>(hF1 b (bD _ h)).2 (bP _ h0),hlt b (hF1 b (bD _ h)).1⟩)
  (λb hb=>by
   rcases cZ.1 hb with h|h
   ·exact hlt b (xy b (bP _ h))
   ·exact hlt b (hF1 b (bP _ h)).1)
  hS hfl (λi hi=>dK (λ_ _=>rfl) (λb h=>.inr h) (λ_ _=>rfl) (hel i hi)) hb
 have rC:∀b∈bE,b∈F1\/(w.heap.size<=b/\b<w'.heap.size):=by
  intro b hb
  rcases hfo b hb with h|h|h
  ·exact .inl (xy b (bP _ h))
  ·exact .inl (hF1 b (bP _ h)).1
  ·exact .inr h
 have T2':=BO (w':=w') (F':=bE) H1 hos hsz (λb h1 h2=>xy b (bP _ (nT b h1 h2).1)) rC vP
 have H2:=H1.mem T2'
 have iX:VC (.sl e kk) v' [v']:=⟨rfl,by
  unfold Ow at lC
  rw[ak hown]at lC
  obtain⟨b,n,c,e1,_⟩:=lC
  simp only[gQ,dZ]at e1
  rw[e1];simp⟩
 have hok:∀b,ok b->aO cx Z1 aV bE w' tags b:=by
  intro b hb
  have hnew:b<w.heap.size->¬(w.heap.size<=b/\b<w'.heap.size):=λh=>by omega
  rcases hb with(h|h)|h|h
  ·refine JR H1 hsz (.inl h) ht1 (λhb=>?_)
   rcases hfo b hb with h2|h2|h2
   ·exact h.2.1 (xy b (bP _ h2))
   ·exact h.2.1 (hF1 b (bP _ h2)).1
   ·exact hnew h.1 h2
  ·have hF:=xy b (bD _ h)
   refine JR H1 hsz (Tg:=[]) (.inr hF) (by simp) (λhb=>?_)
   rcases hfo b hb with h2|h2|h2
   ·exact n0.2.2 b h2 b h rfl
   ·exact(hF1 b (bP _ h2)).2 (bD _ h)
   ·exact hnew (hlt b hF) h2
  ·refine JR H1 hsz h.1 ht2 (λhb=>?_)
   have hlt':b<w.heap.size:=by
    rcases h.1 with h|h
    ·exact h.1
    ·exact hlt b h
   rcases hfo b hb with h2|h2|h2
   ·exact hnot b h h2
   ·obtain⟨l,hl,hbl⟩:=GV.1 h2
    obtain⟨i,hi,rfl⟩:=u_.1 hl
    have:=yG (hel i (by omega)) b (by rw[mM hi];exact hbl)
    obtain⟨e',_,h3,h4⟩:=this
    obtain⟨_,t,h5,h6⟩:=h
    have h6:=H1.zR (H1.fl b (hF1 b (bP _ h2)).1) h6
    rw[h6]at h4
    simp only[aa]at h4
    subst h4
    exact V5 _ h3 h5
   ·exact hnew hlt' h2
  ·have hF:=(hF1 b (bD _ h)).1
   refine JR H1 hsz (Tg:=[]) (.inr hF) (by simp) (λhb=>?_)
   rcases hfo b hb with h2|h2|h2
   ·exact(hF1 b (bD _ h)).2 (bP _ h2)
   ·exact n1.2.2 b h2 b h rfl
   ·exact hnew (hlt b hF) h2
 obtain⟨fZ,k1,k2⟩:=Aw (k:=.sl e kk) (x:=fP++gP) (own:=own) (tags:=tags) (v:=v') (cs:=[v']) (fo:=bE) (r:=aG d 0) (F':=[]) H2 hn1 (nX d 0)
  (λb hb=>hb) vP hwt (λb hb=>by simp at hb) lM rfl (λ_=>dK (λ_ _=>rfl) (λb hb=>.inl (hok b hb)) (λ_ _=>rfl) lC) iX kp
 exact nk (x:=.one (.ref (aG d 0) 0)) k1 hd hdn (FE ho hcb ha ht0 hu0 (by rw[hv0];exact hrun)) k2 ⟨_,fF ..,.inr (dY _)⟩
theorem TT{ws:List Wr}{tags:List Tag}(h:wX ws tags=true):∀t∈tags,t.1∉ws.flatMap Wr.dR:=λt ht=>by
 have:=dX.1 h t ht
 simpa[gq]using this
theorem Zc{ws:List Wr}{r:Nat}(h:(ws.all λw=>!w.loc.beq (.r r))=true):r∉ws.flatMap Wr.dR:=by
 intro hm
 obtain⟨wr,h1,h2⟩:=nN.1 hm
 have:=dX.1 h wr h1
 cases wr with
 |s n x=>simp[Wr.dR]at h2
 |r n x=>
  simp only[Wr.dR,gW]at h2
  subst h2
  simp[Wr.loc,Loc.beq]at this
theorem aeO(hT:eG P T)(H:Rel cx Z J F a w)(hd:o.dst=some d)(hdn:d<cx.nt){c:Call}(ho:o.op=.call c)(hcb:c.callee=.builtin .append)
  (h:(nu c.args.toList fun
   | [a,b]=>match c.argTypes[0]?,(c.argTypes[1]?).bind T.ty with
    |some t,some (.sl _ _)=>AA T d t a b λws=>(.ret ws:Prog (List Wr))
    |some t,some .str=>AA T d t a b λws=>(.ret ws:Prog (List Wr))
    |_,_=>.fail
   |_=>.fail).ends Z ws):dn P cx o a w (aB ws Z):=by
 obtain⟨vs,h1,h2,h⟩:=uH H h
 obtain⟨u,v,x,y,t,ut,hvs,ha,hx,hy,ht0,hu0,ah4,h9⟩:∃u v x y t ut,vs=[u,v]/\c.args.toList=[x,y]/\aR cx Z J F w u (a.eval x)/\aR cx Z J F w v (a.eval y)/\c.argTypes[0]?=some t/\c.argTypes[1]?=some ut/\
   ((∃e',P.underlying ut=some (.slice e'))\/P.underlying ut=some .string)/\(AA T d t u v λws=>(.ret ws:Prog (List Wr))).ends Z ws:=by
  split at h
  ·rename_i u v
   have hargs:∃x y,c.args.toList=[x,y]/\aR cx Z J F w u (a.eval x)/\aR cx Z J F w v (a.eval y):=by
    revert h1
    generalize c.args.toList=l
    intro h1
    cases l with
    |nil=>exact h1.elim
    |cons x l=>
     cases l with
     |nil=>exact h1.2.elim
     |cons y l=>
      cases l with
      |nil=>exact⟨x,y,rfl,h1.1,h1.2.1⟩
      |cons _ _=>exact h1.2.2.elim
   obtain⟨x,y,e1,e2,e3⟩:=hargs
   split at h
   ·rename_i t e k e4 e5
    obtain⟨ut,e6,e7⟩:=qR hT e5
    exact⟨u,v,x,y,t,ut,rfl,e1,e2,e3,e4,e6,.inl ⟨_,e7.sl.1⟩,h⟩
   ·rename_i t e4 e5
    obtain⟨ut,e6,e7⟩:=qR hT e5
    exact⟨u,v,x,y,t,ut,rfl,e1,e2,e3,e4,e6,.inr e7.str,h⟩
   ·exact h.elim
  ·exact h.elim
 clear h
 have h:=h9
 clear h9
 subst hvs
 have hwu:=h2 u (by simp)
 have hwv:=h2 v (by simp)
 unfold AA at h
 cases hty:T.ty t with
 |none=>rw[hty]at h;exact h.elim
 |some k0=>
  rw[hty]at h
  cases k0 with
  |sl e kk=>
   have ht:=hT.ty t _ hty
   simp only at h
   obtain⟨s,h8,aV,F1,news,H1,hsame,apd,hnone,M5,hwt,hS,hels⟩:=aau (P:=P) (u:=ut) H ah4 ht.sl.2.1.fq hy hwv h
   clear h
   rcases bz h8 with⟨_,h⟩|⟨hbad,h⟩
   ·exact h.elim
   clear h8
   cases u with
   |eH=>
    obtain⟨b0,hv0⟩:=hx
    obtain⟨hb,h⟩:=h
    obtain⟨hn,h⟩:=nS h
    rw[bu h,mF]
    have ho1:ah e (e :: dV kk.tys s.bad)=true:=fA.2 (by simp)
    have ho2:∀t,ah t (e :: dV kk.tys s.bad)=true->t∉s.bad:=λt ht=>by
     rcases bH.1 (fA.1 ht)with h|h
     ·rw[h];exact gq.1 hbad
     ·exact(nZ.1 (fA.2 h)).2
    obtain⟨au,iO,f1,f2,f3,f4⟩:=hels (e :: dV kk.tys s.bad) (λt _ ht=>ho2 t ht)
    exact TY hT H1 hd hdn ho hcb ha ht0 hu0 hty (hnone _ hn) (fP:=[]) (v0:=.slice b0 0 0) (fK:=[]) (fd:=[]) (T1:=[]) (T2:=s.tags) (bad:=s.bad) hv0 hS ho1 ho2 hwt (by simp) (λ_ h=>h) Fp (by simp) (by simp)
     (λb hb=>⟨(f3 b hb).1,by simp⟩) f2 f1 (λi hi=>dK (λ_ _=>rfl) (λb hb=>hb.imp (λh=>⟨.inl h.1,h.2⟩) id) (λ_ _=>rfl) (f4 i hi)) (by simpa using hb) s.keep
   |dJ r p n=>
    obtain⟨R,hr,hv,h⟩:=gJ h
    rcases bz h with⟨hc,h⟩|⟨_,h⟩
    ·simp only[bg]at hc
     obtain⟨⟨⟨⟨⟨⟨⟨c1,c2⟩,c3⟩,c4⟩,c5⟩,c6⟩,c7⟩,c8⟩:=hc
     cases hg:aA p R.k R.x with
     |none=>rw[hg]at h;exact h.elim
     |some dd=>
      rw[hg]at h
      simp only at h
      cases hck:bR dd.1 (.sl e kk) dd.2 with
      |none=>rw[hck]at h;exact h.elim
      |some xs=>
       rw[hck]at h
       cases hga:uJ R p dd with
       |none=>rw[hga]at h;exact h.elim
       |some R'=>
        rw[hga]at h
        simp only at h
        obtain⟨hb,h⟩:=h
        obtain⟨hn,h⟩:=nS h
        rw[bu h,mF]
        obtain⟨ek,ey⟩:=iw hck
        unfold uJ at hga
        cases hz:bJ p R.k R.x (mO dd)with
        |none=>rw[hz]at hga;simp at hga
        |some z=>
         rw[hz]at hga
         simp only[aa]at hga
         have eR:R'=jv R dd z:=by rw[<-hga];rfl
         have hSr:=hsame r (Zc c7)
         have hr1:=(hSr.live R).2 hr
         have hv1:cz (aB s.ws Z) R:=⟨hv.1,by rw[qc (λt ht=>(hsame t.1 (TT c8 t ht)).root)];exact hv.2⟩
         obtain⟨b_,hown,cs0,uS,hn0,Na⟩:=hx R hr.1 hv (a_ c1) dd hg
         have hpv:p≠[]\/∃t,R.kind=.var t:=by
          rw[nI]at c3
          rcases c3 with h|h
          ·exact .inl (by simpa using h)
          ·refine .inr ?_
           unfold Root.isVar at h
           cases hk:R.kind with
           |var t=>exact⟨t,rfl⟩
           |_=>rw[hk]at h;simp at h
         obtain⟨cs1,bZ,aS,rest,g1,g2,g3,g4,g5,g6⟩:=gap H1 hr1 hv1 hg hz b_ hown hpv
         rw[hSr.hdr,hSr.wh,hn0]at g1
         simp only[aa,bK]at g1
         obtain⟨rfl,rfl⟩:=g1
         have hcl:cu (aL (aB s.ws Z) r (jv R dd z)) (aZ R.own dd.1) R.tags=true:=by
          rw[g5]
          exact yR hv1.2 (λ_ h=>h) (Ko p hg hown)
         have Ip:=uw (y:=xs) ek ey (g4.ow hcl)
         have ho1:ah e (dV ((e :: kk.tys).filter λt=>ah t R.own) s.bad)=true:=nZ.2 ⟨fA.2 (iU.2 ⟨by simp,c5⟩),gq.1 hbad⟩
         have ho2:∀t,ah t (dV ((e :: kk.tys).filter λt=>ah t R.own) s.bad)=true->t∉s.bad:=λt ht=>(nZ.1 ht).2
         obtain⟨fK,fd,hp0,o_⟩:=vo (own':=dV ((e :: kk.tys).filter λt=>ah t R.own) s.bad) (λt _ hm=>(iU.1 (fA.1 (nZ.1 hm).1)).2) Ip
         obtain⟨au,iO,f1,f2,f3,f4⟩:=hels (dV ((e :: kk.tys).filter λt=>ah t R.own) s.bad) (λt _ ht=>ho2 t ht)
         have ag_:∀b∈aS,b∉F1:=λb hb hF=>(dA.1 g2.gD).2.2 b hb b hF rfl
         have hcs:∃v0,cs0=[v0]/\a.eval x=v0:=by
          have DR:VC (.sl e kk) (a.eval x) cs0:=ek▸Na
          exact⟨_,DR.1,rfl⟩
         obtain⟨v0,MK,ev0⟩:=hcs
         subst MK
         subst eR
         have hne:aG d 0≠r:=λe=>by have:=hr.1;rw[<-e,hn]at this;simp at this
         refine TY hT g2 hd hdn ho hcb ha ht0 hu0 hty (by rw[jf _ _ hne];exact hnone _ hn) (fP:=xs) (v0:=v0) (fK:=fK) (fd:=fd) (T1:=R.tags) (T2:=s.tags) (bad:=s.bad) (au:=au) (iO:=iO) ev0 hS ho1 ho2
          (λt ht=>?_) (λt ht=>kF.2 (.inr ht)) (λt ht=>kF.2 (.inl ht)) o_ (λb hb=>bP _ (hp0.mem_iff.2 hb)) (hp0.nodup g4.nd)
          (λb hb=>⟨bD _ (f3 b hb).1,λhb'=>ag_ b (hp0.mem_iff.2 hb') (f3 b hb).1⟩) f2 f1 (λi hi=>dK (λ_ _=>rfl) (λb hb=>?_) (λ_ _=>rfl) (f4 i hi)) hb _
         ·rcases kF.1 ht with h|h
          ·exact g3.tag (hwt t h)
          ·exact g4.wt t h
         ·rcases hb with⟨hb,hbt⟩|hb
          ·refine .inl ⟨?_,hbt⟩
           by_cases hbf:b∈aS
           ·exact .inr (bP _ hbf)
           ·refine .inl ⟨hb.1,λh=>?_,hb.2.2.1,λq Q hq hbq=>?_,hb.2.2.2.2⟩
            ·rcases cZ.1 h with h|h
             ·exact hbf h
             ·exact hb.2.1 h
            ·rcases tq hq with⟨rfl,rfl,_⟩|⟨eq,hq'⟩
             ·refine hb.2.2.2.1 q R hr1 ?_
              rw[o8,w_ (show(jv R dd z).kind=R.kind from rfl)]at hbq
              rw[iN]
              rw[kW]at hbq ⊢
              exact hbq.imp id (λh=>g6.mem_iff.2 (bD _ h))
             ·rw[(kg (J:=aV) (Z:=aB s.ws Z) (R:=jv R dd z) eq).blk]at hbq
              exact hb.2.2.2.1 q Q hq' hbq
          ·exact .inr hb
    ·exact h.elim
   |ref r g=>
    obtain⟨R,hr,hv,h⟩:=gJ h
    rcases bz h with⟨hc,h⟩|⟨_,h⟩
    ·simp only[bg]at hc
     obtain⟨⟨⟨⟨⟨c1,c4⟩,c5⟩,c6⟩,c7⟩,c8⟩:=hc
     cases hck:bR R.k (.sl e kk) R.x with
     |none=>rw[hck]at h;exact h.elim
     |some xs=>
      rw[hck]at h
      simp only at h
      obtain⟨hb,h⟩:=h
      rw[bu h,mF]
      obtain⟨ek,ey⟩:=iw hck
      have hSr:=hsame r (Zc c7)
      have hr1:=(hSr.live R).2 hr
      have hv1:cz (aB s.ws Z) R:=⟨hv.1,by rw[qc (λt ht=>(hsame t.1 (TT c8 t ht)).root)];exact hv.2⟩
      obtain⟨hkind,Na⟩:=hx R hr (a_ c1)
      have K1:=H1.roots r R hr1
      have IL:=H1.fu r R hr1.1
      have hfr:blk aV R r=aV.fo r:=by simp[blk,aK,hkind]
      have rC:∀b∈aV.fo r,b∉F1:=λb hb=>H1.dM r R hr1 b (by rw[hfr];exact hb)
      have DR:VC (.sl e kk) (a.eval x) (aV.hdr r):=by rw[hSr.hdr];exact ek▸Na
      have Ip:Ow (hp w) R.own (aO cx (aB s.ws Z) aV F1 w R.tags) (.sl e kk) xs [a.eval x] (aV.fo r):=by
       have:=uw (y:=xs) ek ey (K1.ow hv1)
       rw[DR.1]at this
       exact this
      have ho1:ah e (dV R.own s.bad)=true:=nZ.2 ⟨c5,gq.1 hbad⟩
      have ho2:∀t,ah t (dV R.own s.bad)=true->t∉s.bad:=λt ht=>(nZ.1 ht).2
      have hnd:(aV.fo r).Nodup:=by rw[<-hfr];exact K1.nd
      obtain⟨fK,fd,hp0,o_⟩:=vo (own':=dV R.own s.bad) (λt _ hm=>(nZ.1 hm).1) Ip
      obtain⟨au,iO,f1,f2,f3,f4⟩:=hels (dV R.own s.bad) (λt _ ht=>ho2 t ht)
      have sQ:∀b∈fK,b∈aV.fo r:=λb hb=>hp0.mem_iff.2 (bP _ hb)
      have hfd0:∀b∈fd,b∈aV.fo r:=λb hb=>hp0.mem_iff.2 (bD _ hb)
      have n0:=dA.1 (hp0.nodup hnd)
      have n1:=dA.1 f2
      have hlt:∀b∈aV.fo r,b<w.heap.size:=λb hb=>(K1.mine b (by rw[hfr];exact hb)).1
      have Ny:∀b∈F1,b<w.heap.size:=λb hb=>(H1.fl b hb).1
      have NR:=yG o_
      have hnot:∀b,(∃t∈s.bad,kr (hp w) b t)->b∉fK:=by
       rintro b ⟨t,h1,h2⟩ hb0
       obtain⟨e',_,h3,h4⟩:=NR b hb0
       have h2:=H1.zR (K1.mine b (by rw[hfr];exact sQ b hb0)) h2
       rw[h2]at h4
       simp only[aa]at h4
       subst h4
       exact ho2 _ h3 h1
      let ok:Nat->Prop:=λb=>(aO cx (aB s.ws Z) aV F1 w R.tags b\/b∈fd)\/(aO cx (aB s.ws Z) aV F1 w s.tags b/\∃t∈s.bad,kr (hp w) b t)\/b∈iO
      have hRr:∀b,aO cx (aB s.ws Z) aV F1 w R.tags b->b∉aV.fo r:=by
       intro b hb hbr
       obtain⟨n,hn⟩:=hb.2.2.2.1 r R hr1 (by rw[hfr];exact hbr)
       exact IL.2.2 n hn
      obtain⟨v',w',bE,hrun,hos,hsz,nT,hfo,vP,lC⟩:=TW (w:=w) (ok:=ok) (u:=ut) (ty:=o.type) (x:=a.eval y) (au:=au) ht (dK (λ_ _=>rfl) (λb h=>.inl h) (λ_ _=>rfl) o_) ho1
       (dA.2 ⟨n0.1,n1.1,λb1 h1 b2 h2 e=>rC b1 (sQ b1 h1) (e▸(f3 b2 (bP _ h2)).1)⟩)
       (λb hb=>by
        rcases hb with(h|h)|h|h
        ·exact⟨λh0=>hRr b h (sQ b h0),h.1⟩
        ·exact⟨λh0=>n0.2.2 b h0 b h rfl,hlt b (hfd0 b h)⟩
        ·exact⟨hnot b h.2,h.1.1⟩
        ·exact⟨λh0=>rC b (sQ b h0) (f3 b (bD _ h)).1,Ny b (f3 b (bD _ h)).1⟩)
       (λb hb=>by
        rcases cZ.1 hb with h|h
        ·exact hlt b (sQ b h)
        ·exact Ny b (f3 b (bP _ h)).1)
       hS f1 (λi hi=>dK (λ_ _=>rfl) (λb h=>.inr h) (λ_ _=>rfl) (f4 i hi)) hb
      have iX:VC (.sl e kk) v' [v']:=⟨rfl,by
       have h5:=lC
       unfold Ow at h5
       rw[ak ho1]at h5
       obtain⟨b,n,c,e1,_⟩:=h5
       simp only[gQ,dZ]at e1
       rw[e1];simp⟩
      have ahy:∀b,ok b->b∉bE/\b<w.heap.size:=by
       intro b hb
       have hlt':b<w.heap.size:=by
        rcases hb with(h|h)|h|h
        ·exact h.1
        ·exact hlt b (hfd0 b h)
        ·exact h.1.1
        ·exact Ny b (f3 b (bD _ h)).1
       refine⟨λhbf=>?_,hlt'⟩
       rcases hfo b hbf with h2|h2|h2
       ·rcases hb with(h|h)|h|h
        ·exact hRr b h (sQ b h2)
        ·exact n0.2.2 b h2 b h rfl
        ·exact hnot b h.2 h2
        ·exact rC b (sQ b h2) (f3 b (bD _ h)).1
       ·have hF:=(f3 b (bP _ h2)).1
        rcases hb with(h|h)|h|h
        ·exact h.2.1 hF
        ·exact rC b (hfd0 b h) hF
        ·exact h.1.2.1 hF
        ·exact n1.2.2 b h2 b h rfl
       ·omega
      have hnext:∀(j:Nat) (n:Nat),(gB j,n)∈s.tags->(gB j,n)∈jS (qd r s.tags) R.tags:=by
       intro j n hj
       refine kF.2 (.inl (wm.2 ⟨hj,λe=>?_⟩))
       have:=IL.2.1
       rw[<-e]at this
       simp only at this
       rw[sU]at this
       simp at this
      obtain⟨k1,k2⟩:=anI (R':={ R with k:=.sl e kk,x:=xs++s.xs,own:=dV R.own s.bad,tags:=jS (qd r s.tags) R.tags,w:=e :: R.w,h:=iZ :: e :: R.h,g:=R.g+1,keep:=R.keep||s.keep })
       (v':=v') (hdr':=[v']) (bE:=bE) (w':=w') H1 hr1 hv1 hkind hkind rfl rfl rfl ⟨rfl,rfl⟩ ⟨λt ht=>(kF.1 ht).elim (λh=>hwt t (wm.1 h).1) (IL.1 t),λn hn=>(kF.1 hn).elim (λh=>(wm.1 h).2 rfl) (IL.2.2 n)⟩
       hos hsz (λb h1 h2=>.inr ⟨sQ b (nT b h1 h2).1,(nT b h1 h2).2⟩) (λb hb=>by
        rcases hfo b hb with h|h|h
        ·exact .inl (sQ b h)
        ·exact .inr (.inl (f3 b (bP _ h)).1)
        ·exact .inr (.inr h)) vP rfl
       (dK (k:=.sl e kk) (λ_ _=>rfl) (λb hb=>by
        obtain⟨z1,z2⟩:=ahy b hb
        refine⟨uu z2 hsz,by simp,?_,λq Q hq hbq=>?_,λh0=>?_⟩
        ·rcases hb with(h|h)|h|h
         ·exact h.2.2.1
         ·exact xu H1 hr1 (hfd0 b h)
         ·exact h.1.2.2.1
         ·exact yh H1 (f3 b (bD _ h)).1
        ·rcases tq hq with⟨rfl,rfl,_⟩|⟨eq,hq'⟩
         ·rw[o8]at hbq
          have hbq:b∈bE:=by simpa[iF,hkind]using hbq
          exact absurd hbq z1
         ·rw[(kg (J:=aV) (Z:=aB s.ws Z) (R:={ R with k:=.sl e kk,x:=xs++s.xs,own:=dV R.own s.bad,tags:=jS (qd r s.tags) R.tags,w:=e :: R.w,h:=iZ :: e :: R.h,g:=R.g+1,keep:=R.keep||s.keep }) eq).blk]at hbq
          rcases hb with(h|h)|h|h
          ·exact(h.2.2.2.1 q Q hq' hbq).imp λn hn=>kF.2 (.inr hn)
          ·exact absurd hbq (H1.jc r R q Q hr1 hq' (Ne.symm eq) b (by rw[hfr];exact hfd0 b h))
          ·exact(h.1.2.2.2.1 q Q hq' hbq).imp λn hn=>kF.2 (.inl (wm.2 ⟨hn,eq⟩))
          ·exact absurd (f3 b (bD _ h)).1 (H1.dM q Q hq' b hbq)
        ·have jE:Ow.mine cx w b->(∃j n,(gB j,n)∈jS (qd r s.tags) R.tags/\cx.ext j b)\/∃j pi,cx.par j=some pi/\b∈pi.bl:=λhm=>by
          rcases hm.2 with h|⟨j,pi,h1,h2⟩
          ·omega
          ·exact .inr ⟨j,pi,h1,h2⟩
         rcases hb with(h|h)|h|h
         ·exact(h.2.2.2.2 h0).imp (λ⟨j,n,h1,h2⟩=>⟨j,n,kF.2 (.inr h1),h2⟩) id
         ·exact jE (K1.mine b (by rw[hfr];exact hfd0 b h))
         ·exact(h.1.2.2.2.2 h0).imp (λ⟨j,n,h1,h2⟩=>⟨j,n,hnext j n h1,h2⟩) id
         ·exact jE (H1.fl b (f3 b (bD _ h)).1)) (λ_ _=>rfl) lC) iX
      exact nk (x:=.one (.ref r (R.g+1))) k1 hd hdn (FE ho hcb ha ht0 hu0 hrun) k2 ⟨_,fF ..,.inr (bT _)⟩
    ·exact h.elim
   |val _ _ _=>exact h.elim
   |undef=>exact h.elim
   |ptr _ _ _=>exact h.elim
   |eY _ _ _ _=>exact h.elim
   |ko _ _ _ _=>exact h.elim
   |nG _=>exact h.elim
   |part _ _ _ _ _=>exact h.elim
   |lH _ _ _ _=>exact h.elim
   |sub _ _ _ _ _ _=>exact h.elim
   |sel _ _ _ _ _ _=>exact h.elim
   |app _ _ _ _=>exact h.elim
   |iI=>exact h.elim
   |fn _ _=>exact h.elim
  |_=>exact h.elim
end
end
section
open Go
variable [Fr]
section
variable {P:Program}{T:bF}{cx:Cx}{Z:St}{J:aF}{F:List Nat}{a:Act}{w:World}{o:Oper}{d:Nat}{ws:List Wr}
def vL(kk:K):List (Nat×dS)->oU kk->Option (oU kk)
 | [],b=>some b
 |(n,tk) :: l,b=>match bR tk.k kk tk.x with
  |some y=>bif Nat.beq n (dz b.xs)then vL kk l { xs:=b.xs++[y],bad:=tk.bad++b.bad,tags:=jS (tk.gV) b.tags,ws:=b.ws++tk.ws,keep:=tk.keep||b.keep,all:=tk.tags++b.all }else none
  |none=>none
theorem afx{A:Type}{z:A}(H:Rel cx Z J F a w){kk:K}{k:oU kk->Prog A}:∀{l:List (Nat×AV)} {vs:List Value} {b:oU kk},gU cx Z J F w (l.map (·.2)) vs->(∀v∈l,dB Z v.2)->(Du kk l b k).ends Z z->
  ∃(tks:List dS) (b':oU kk),tks.length=l.length/\vs.length=l.length/\(∀it∈vs.zip tks,p_ cx Z J F w it.1 it.2)/\vL kk ((l.map (·.1)).zip tks) b=some b'/\(k b').ends Z z:=by
 intro l
 induction l with
 |nil=>
  intro vs b h1 _ h
  cases vs with
  |nil=>exact⟨[],b,rfl,rfl,by simp,rfl,h⟩
  |cons v vs=>exact h1.elim
 |cons p l ih=>
  obtain⟨n,x⟩:=p
  intro vs b h1 h2 h
  cases vs with
  |nil=>exact h1.elim
  |cons v vs=>
   simp only[Du]at h
   obtain⟨tk,htk,h5⟩:=xS H h1.1 (h2 (n,x) (by simp)) h
   cases hc:bR tk.k kk tk.x with
   |none=>rw[hc]at h5;exact h5.elim
   |some y=>
    rw[hc]at h5
    simp only at h5
    rcases bz h5 with⟨hn,h6⟩|⟨_,h6⟩
    ·obtain⟨tks,b',g1,g2,g3,g4,g5⟩:=ih h1.2 (λv hv=>h2 v (by simp[hv])) h6
     refine⟨tk :: tks,b',by simp[g1],by simp[g2],?_,?_,g5⟩
     ·intro it hit
      rw[yF]at hit
      rcases bH.1 hit with h|h
      ·subst h;exact htk
      ·exact g3 it h
     ·rw[jh,yF]
      unfold vL
      simp only[hc,hn,fJ]
      exact g4
    ·exact h6.elim
theorem afw{kk:K}:∀(l:List (Nat×dS)) {b b':oU kk},vL kk l b=some b'->
  b'.ws=b.ws++l.flatMap (λp=>p.2.ws)/\(∀p∈l,∀t∈p.2.tags,t∈b'.all)/\(∀p∈l,∀t∈p.2.bad,t∈b'.bad)/\(∀t∈b.bad,t∈b'.bad)/\
  (∀p∈l,∀t∈p.2.gV,t∈b'.tags)/\(∀t∈b.tags,t∈b'.tags)/\(∀t∈b'.tags,t∈b.tags\/∃p∈l,t∈p.2.gV)/\(∀t∈b.all,t∈b'.all)/\b'.xs.length=b.xs.length+l.length:=by
 intro l
 induction l with
 |nil=>
  intro b b' h
  simp only[vL,aa]at h
  subst h
  simp
 |cons p l ih=>
  obtain⟨n,tk⟩:=p
  intro b b' h
  unfold vL at h
  cases hc:bR tk.k kk tk.x with
  |none=>rw[hc]at h;simp at h
  |some y=>
   rw[hc]at h
   simp only at h
   cases hn:Nat.beq n (dz b.xs)with
   |false=>rw[hn]at h;simp at h
   |true=>
    rw[hn]at h
    simp only[fJ]at h
    obtain⟨g1,g2,g3,g4,g5,g6,g7,g8,g9⟩:=ih h
    refine⟨by rw[g1];simp,?_,?_,λt ht=>g4 t (by simp[ht]),?_,λt ht=>g6 t (kF.2 (.inr ht)),?_,λt ht=>g8 t (by simp[ht]),by rw[g9];simp;omega⟩
    ·intro p hp t ht
     rcases bH.1 hp with h|h
     ·subst h;exact g8 t (by simp[ht])
     ·exact g2 p h t ht
    ·intro p hp t ht
     rcases bH.1 hp with h|h
     ·subst h;exact g4 t (by simp[ht])
     ·exact g3 p h t ht
    ·intro p hp t ht
     rcases bH.1 hp with h|h
     ·subst h;exact g6 t (kF.2 (.inl ht))
     ·exact g5 p h t ht
    ·intro t ht
     rcases g7 t ht with h|⟨p,h1,h2⟩
     ·rcases kF.1 h with h|h
      ·exact .inr ⟨(n,tk),by simp,h⟩
      ·exact .inl h
     ·exact .inr ⟨p,by simp[h1],h2⟩
theorem afv{h:Heap}{own:List TypeId}{ok:Nat->Prop}{kk:K}{N:Nat} :
  ∀(l:List (Nat×dS)) {vs:List Value} {gN:List (List Nat)} {b b':oU kk} {cells:Array Value} {au:List (List Nat)},b.xs.length+l.length<=N->cells.size=N*kk.size->au.length=b.xs.length->
   (∀i (hi:i<b.xs.length),Ow h own ok kk b.xs[i] (gH cells.toList kk.size i) (au.getD i []))->wP h own ok l vs gN->vL kk l b=some b'->
   ∃cells',Instr.fill (λi=>some (i*kk.size,kk.size)) cells ((l.map (·.1)).zip vs)=some cells'/\cells'.size=N*kk.size/\(au++gN).length=b'.xs.length/\
    ∀i (hi:i<b'.xs.length),Ow h own ok kk b'.xs[i] (gH cells'.toList kk.size i) ((au++gN).getD i []):=by
 intro l
 induction l with
 |nil=>
  intro vs gN b b' cells au hN hs hf hO hP hb
  cases vs with
  |nil=>
   cases gN with
   |nil=>
    simp only[vL,aa]at hb
    subst hb
    exact⟨cells,rfl,hs,by simpa using hf,by simpa using hO⟩
   |cons f fs=>exact hP.elim
  |cons v vs=>cases gN<;>exact hP.elim
 |cons p l ih=>
  obtain⟨n,tk⟩:=p
  intro vs gN b b' cells au hN hs hf hO hP hb
  cases vs with
  |nil=>cases gN<;>exact hP.elim
  |cons v vs=>
   cases gN with
   |nil=>exact hP.elim
   |cons ft gN=>
    obtain⟨⟨cst,hv,DN⟩,hP'⟩:=hP
    unfold vL at hb
    cases hc:bR tk.k kk tk.x with
    |none=>rw[hc]at hb;simp at hb
    |some y=>
     rw[hc]at hb
     simp only at hb
     cases hn:Nat.beq n (dz b.xs)with
     |false=>rw[hn]at hb;simp at hb
     |true=>
      rw[hn]at hb
      simp only[fJ]at hb
      have en:n=b.xs.length:=by rw[a_ hn,nY]
      subst en
      obtain⟨ek,ey⟩:=iw hc
      have Vn:Ow h own ok kk y cst ft:=uw ek ey DN
      have hcl:cst.length=kk.size:=eO Vn
      have jm:v.cells=cst.toArray:=by
       have:=hv.cells
       apply qV
       simpa using this
      simp only[iT]at hN
      have hle:(b.xs.length+1)*kk.size<=N*kk.size:=jC _ (by omega)
      rw[gX,kZ]at hle
      have hoff:b.xs.length*kk.size+cst.length<=cells.size:=by rw[hs,hcl];exact hle
      rw[jh,yF,MU (place:=λi=>some (i*kk.size,kk.size)) (off:=b.xs.length*kk.size) (vs:=cst) (by simp[hcl]) jm hoff]
      have hsz:(cells.toList.take (b.xs.length*kk.size)++(cst++cells.toList.drop (b.xs.length*kk.size+cst.length))).toArray.size=N*kk.size:=by
       simp
       omega
      obtain⟨cells',g1,g2,g3,g4⟩:=ih (au:=au++[ft]) (b:={ xs:=b.xs++[y],bad:=tk.bad++b.bad,tags:=jS (tk.gV) b.tags,ws:=b.ws++tk.ws,keep:=tk.keep||b.keep,all:=tk.tags++b.all }) (by simp;omega) hsz (by simp[hf]) (by
       intro i hi
       simp only[d_,iT,jA,jN]at hi
       rw[DI]
       by_cases h0:i<b.xs.length
       ·rw[ak (by rw[hf];exact h0)]
        have e1:(b.xs++[y])[i]'(by simp;omega)=b.xs[i]:=yE h0
        show Ow h own ok kk ((b.xs++[y])[i]'(by simp;omega)) _ _
        rw[e1]
        have e2:gH (cells.toList.take (b.xs.length*kk.size)++(cst++cells.toList.drop (b.xs.length*kk.size+cst.length))) kk.size i=gH cells.toList kk.size i:=by
         have hl2:(i+1)*kk.size<=b.xs.length*kk.size:=jC _ (by omega)
         rw[gX,kZ]at hl2
         apply CX
         intro j
         by_cases hj:j<kk.size
         ·rw[qo hj,qo hj,uo (by simp;omega),CZ (by omega)]
         ·unfold gH
          rw[qD (by simp;omega),qD (by simp;omega)]
        simp only
        rw[e2]
        exact hO i h0
       ·have:i=b.xs.length:=by omega
        subst this
        rw[aj (by omega),hf,Ao]
        have e1:(b.xs++[y])[b.xs.length]'(by simp)=y:=by simp
        show Ow h own ok kk ((b.xs++[y])[b.xs.length]'(by simp)) _ _
        rw[e1]
        have e2:gH (cells.toList.take (b.xs.length*kk.size)++(cst++cells.toList.drop (b.xs.length*kk.size+cst.length))) kk.size b.xs.length=cst:=by
         have hl:(cells.toList.take (b.xs.length*kk.size)).length=b.xs.length*kk.size:=by simp;omega
         unfold gH
         conv=>lhs;arg 2;arg 1;rw[<-hl]
         rw[List.drop_left,<-hcl,List.take_left]
        simp only
        rw[e2]
        exact Vn) hP' hb
      refine⟨cells',g1,g2,?_,?_⟩
      ·rw[<-g3];simp
      ·intro i hi
       have:=g4 i hi
       simp only[fH,iR,jq]at this
       exact this
end
end
end Go.Proofs.YtgppmpedglhhfaaGreatDoor.Ow
