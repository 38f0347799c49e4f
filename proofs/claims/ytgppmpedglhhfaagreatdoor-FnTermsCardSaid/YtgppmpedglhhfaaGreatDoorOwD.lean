/- A verified reading of translated code, part D of 7. No condition. -/
import Derived.Test.YtgppmpedglhhfaaGreatDoorOwC
set_option linter.unusedSectionVars false
set_option linter.unusedVariables false
set_option linter.unusedSimpArgs false
namespace Go.Proofs.YtgppmpedglhhfaaGreatDoor.Ow
section
open Go
variable [Fr]
def gP(news:List Value)(s i:Nat):List Value:=(news.drop (i*s)).take s
theorem wE{news:List Value}{s i m:Nat}(h:news.length=m*s)(hi:i<m):(gP news s i).length=s:=by
 unfold gP
 have:(i+1)*s<=m*s:=jP _ hi
 rw[iB,lT]at this
 simp
 omega
theorem qW{news:List Value}{s i j:Nat}(hj:j<s):(gP news s i)[j]?=news[i*s+j]?:=by
 unfold gP
 rw[QE,aj hj,CG]
theorem G8{az oD:List (List Nat)}{i:Nat}:(az++oD).getD i []=if i<az.length then az.getD i []else oD.getD (i-az.length) []:=by
 simp only[eP,List.getElem?_append]
 split<;>rfl
section
variable {P:Program}{T:bK}{w:World}
theorem ZR{t u ty e:TypeId}{kk:K}(ht:dz P T t (.sl e kk)){own:List TypeId}{ok:Nat->Prop}{fZ gV:List (El kk)}{v0 x:Value}{fU:List Nat}{az:List (List Nat)}{news:List Value}
  (hO:Ow (hp w) own ok (.sl e kk) fZ [v0] fU) (hown:ay e own=true) (hnd:(fU++az.flatten).Nodup) (hok:∀b,ok b->b∉fU/\b<w.heap.size) (hlt:∀b∈fU++az.flatten,b<w.heap.size)
  (hS:Src P w kk.size u x gV.length news) (hfl:az.length=gV.length) (hel:∀i (hi:i<gV.length),Ow (hp w) own ok kk gV[i] (gP news kk.size i) (az.getD i []))
  (hb:(fZ.length+gV.length)*T.bytes e<=140737488355328) :
  ∃v' w' bH,(Builtin.append_ #[t,u] ty #[v0,x]).run P w=.ok v' w'/\(w'.os=w.os/\w'.tape=w.tape/\w'.output=w.output)/\w.heap.size<=w'.heap.size/\
   (∀b,b<w.heap.size->hp w' b≠hp w b->b∈fU/\iH (hp w) b=some e)/\(∀b∈bH,b∈fU\/b∈az.flatten\/(w.heap.size<=b/\b<w'.heap.size))/\bH.Nodup/\
   Ow (hp w') own ok (.sl e kk) (fZ++gV) [v'] bH:=by
 have hsz:0<kk.size:=ht.sl.2.2.1
 have hnl:=hS.nl
 unfold Ow at hO
 rw[aj hown]at hO
 obtain⟨a,n,c,e1,e2,e3,hO⟩:=hO
 simp only[gW,eO]at e1
 subst e1
 have e2':n=fZ.length:=e2
 have hnd':=dJ.1 hnd
 by_cases hr:n+gV.length<=c
 ·have hrun:=O_ (ty:=ty) ht hS (b:=a) (n:=n) hr
  rcases hO with⟨hc0,hf0⟩|⟨b,o,arr,lo,hi,ea,hbk,hf,hs,lI,hl0,hp0,hO⟩
  ·have hx1:gV=[]:=rz (by omega)
   have hx0:fZ=[]:=rz (by omega)
   subst hx1
   subst hx0
   have hnews:news=[]:=rz (by simpa using hnl)
   subst hnews
   have hn0:n=0:=by simpa using e2'
   subst hn0
   subst hc0
   have:(Builtin.append_ #[t,u] ty #[.slice a 0 0,x]).run P w=.ok (.slice a 0 0) w:=by
    rw[hrun]
    cases a<;>rfl
   exact⟨_,w,[],this,⟨rfl,rfl,rfl⟩,bZ _,λb _ h=>absurd rfl h,λb hb=>by simp at hb,mq,JX⟩
  ·subst ea
   have hle:(n+gV.length)*kk.size<=c*kk.size:=jP _ hr
   rw[iB]at hle
   have hst:=J9 (P:=P) (o:=o+n*kk.size) news hbk hf (by rw[hnl];omega) hS.one
   simp only[Result.andThen,addr_add,hst]at hrun
   obtain⟨s1,s2,fK,s3,s4,s5,s6⟩:=Fv b news w arr e (lo,hi) (o+n*kk.size) hbk (by rw[hnl];omega)
   have s7:=Fw b news w (o+n*kk.size)
   have hb0:b∈fU:=hp0.mem_iff.2 (by simp)
   have pE:=hp0.nodup hnd'.1
   have hne:∀b'∈lI.flatten++az.flatten,b'≠b:=by
    intro b' hb' e
    subst e
    rcases dh.1 hb' with h|h
    ·exact(jO.1 pE).1 h
    ·exact hnd'.2.2 b' hb0 b' h rfl
   have abX:∀b',ok b'->hp (w.setCells b (o+n*kk.size) news) b'=hp w b':=λb' h=>s1 b' (λe=>(hok b' h).1 (e▸hb0))
   refine⟨_,_,b :: (lI.flatten++az.flatten),hrun,s7,by omega,?_,?_,?_,?_⟩
   ·intro b' _ hne'
    by_cases e:b'=b
    ·subst e;exact⟨hb0,by unfold iH;rw[hbk]⟩
    ·exact absurd (s1 b' e) hne'
   ·intro b' hb'
    rcases bM.1 hb' with h|h
    ·subst h;exact .inl hb0
    ·rcases dh.1 h with h|h
     ·exact .inl (hp0.mem_iff.2 (by simp[h]))
     ·exact .inr (.inl h)
   ·refine jO.2 ⟨λh=>hne b h rfl,dJ.2 ⟨(jO.1 pE).2,hnd'.2.1,λb1 h1 b2 h2 e=>hnd'.2.2 b1 (hp0.mem_iff.2 (by simp[h1])) b2 h2 e⟩⟩
   ·unfold Ow
    rw[aj hown]
    refine⟨_,_,_,rfl,by simp[e2'],hr,.inr ⟨b,o,fK,lo,hi,rfl,s3,by rw[s4];exact hf,by rw[s4];exact hs,lI++az,by simp[hl0,hfl],by simp,λi hi=>?_⟩⟩
    have hi':i<fZ.length+gV.length:=by simpa using hi
    rw[G8]
    by_cases hi0:i<fZ.length
    ·obtain⟨ds,h1,h2⟩:=hO i hi0
     have apl:i<lI.length:=by rw[hl0];exact hi0
     rw[aj apl]
     have hx:(fZ++gV)[i]'hi=fZ[i]:=CK hi0
     refine⟨ds,λj hj=>?_,?_⟩
     ·have hdl:=eY h2
      have hlt2:(i+1)*kk.size<=n*kk.size:=jP _ (by omega)
      rw[iB,lT]at hlt2
      have:=h1 j hj
      unfold cellAt at this ⊢
      rw[hbk]at this
      rw[s3]
      simp only at this ⊢
      rw[s6 _ (by rw[hnl];omega)]
      exact this
     ·show Ow _ own ok kk ((fZ++gV)[i]'hi) ds _
      rw[hx]
      exact dR abX (λ_ h=>h) (λb' hb'=>s1 b' (hne b' (bV _ (uN hb')))) h2
    ·have hi1:i-fZ.length<gV.length:=by omega
     rw[ah (by rw[hl0];exact hi0)]
     have hx:(fZ++gV)[i]'hi=gV[i-fZ.length]:=K8 (by omega)
     have hfe:i-lI.length=i-fZ.length:=by rw[hl0]
     rw[hfe]
     refine⟨gP news kk.size (i-fZ.length),λj hj=>?_,?_⟩
     ·rw[wE hnl hi1]at hj
      unfold cellAt
      rw[s3,qW hj]
      simp only
      have e4:o+i*kk.size+j=o+n*kk.size+((i-fZ.length)*kk.size+j):=by
       have:i*kk.size=n*kk.size+(i-fZ.length)*kk.size:=by rw[<-iB];congr 1;omega
       omega
      rw[e4]
      refine s5 _ ?_
      rw[hnl]
      have:(i-fZ.length+1)*kk.size<=gV.length*kk.size:=jP _ hi1
      rw[iB,lT]at this
      omega
     ·show Ow _ own ok kk ((fZ++gV)[i]'hi) _ _
      rw[hx]
      exact dR abX (λ_ h=>h) (λb' hb'=>s1 b' (hne b' (bG _ (uN hb')))) (hel _ hi1)
 ·
  obtain⟨olds,ho1,ho2,lI,hl0,hf0,Md⟩:∃olds,olds.length=n*kk.size/\(Builtin.firstCells kk.size n (.slice a n c)).run P w.drew=.ok olds.toArray w.drew/\∃lI:List (List Nat),lI.length=fZ.length/\((∀b∈lI.flatten,b∈fU)/\lI.flatten.Nodup)/\
    ∀i (hi:i<fZ.length),Ow (hp w) own ok kk fZ[i] (gP olds kk.size i) (lI.getD i []):=by
   rcases hO with⟨hc0,hf0⟩|⟨b,o,arr,lo,hi,ea,hbk,hf,hs,lI,hl0,hp0,hO⟩
   ·have hx0:fZ=[]:=rz (by omega)
    subst hx0
    have hn0:n=0:=by simpa using e2'
    subst hn0
    refine⟨[],by simp,?_,[],rfl,⟨by simp,by simp⟩,λi hi=>by simp at hi⟩
    cases a with
    |none=>exact WZ w.drew kk.size 0 0 c
    |some ad=>exact BU (P:=P) w.drew kk.size 0 ad 0 c [] (by simp) (λj v hj=>by simp at hj)
   ·subst ea
    have hle:n*kk.size<=c*kk.size:=jP _ e3
    have hrow:=FN (n:=n*kk.size) hbk (by omega:o+n*kk.size<=arr.size)
    have hrl:(iE (hp w) b o (n*kk.size)).length=n*kk.size:=by simp[iE]
    have pE:=hp0.nodup hnd'.1
    refine⟨iE (hp w) b o (n*kk.size),hrl,?_,lI,hl0,⟨λb' hb'=>hp0.mem_iff.2 (by simp[hb']),(jO.1 pE).2⟩,λi hi=>?_⟩
    ·refine BU (P:=P) w.drew kk.size n ⟨b,o,none⟩ n c _ hrl (λj v hj=>?_)
     rw[addr_add,vN]
     have:=hrow j (by rw[hrl];have:=(oh.1 hj).1;rw[hrl]at this;exact this)
     rw[hj]at this
     exact this
    ·obtain⟨ds,h1,h2⟩:=hO i hi
     have hdl:=eY h2
     have:gP (iE (hp w) b o (n*kk.size)) kk.size i=ds:=by
      apply Gj
      intro j
      by_cases hj:j<kk.size
      ·rw[qW hj]
       have hlt2:(i+1)*kk.size<=n*kk.size:=jP _ (by omega)
       rw[iB,lT]at hlt2
       rw[<-hrow _ (by rw[hrl];omega),<-ou]
       exact h1 j (by omega)
      ·rw[pY (by rw[wE hrl (by omega)];omega),pY (by omega)]
     rw[this]
     exact h2
  obtain⟨nc,hnc,hrun⟩:=WY (ty:=ty) ht hS ho2 hr (by rw[e2'];exact hb)
  have hnew:=DI w.drew (.cells (olds.toArray++news.toArray++Builtin.zeroCells (iY kk).cells (nc-(n+gV.length))) e)
  have hold:∀b',b'<w.heap.size->hp (w.drew.alloc (.cells (olds.toArray++news.toArray++Builtin.zeroCells (iY kk).cells (nc-(n+gV.length))) e)) b'=hp w b':=λb' h=>Bc w.drew _ h
  have hws:w.drew.heap.size=w.heap.size:=rfl
  rw[hws]at hnew
  have hsz2:(w.drew.alloc (.cells (olds.toArray++news.toArray++Builtin.zeroCells (iY kk).cells (nc-(n+gV.length))) e)).heap.size=w.heap.size+1:=Array.size_push ..
  have hzl:(iY kk).cells.size=kk.size:=by
   rw[FM ht.sl.2.1.shape]
   simpa using eY (Ce (h:=hp w) (own:=own) (ok:=ok) ht.sl.2.1.fD)
  have hall:∀b'∈lI.flatten++az.flatten,b'<w.heap.size:=by
   intro b' hb'
   rcases dh.1 hb' with h|h
   ·exact hlt b' (bV _ (hf0.1 b' h))
   ·exact hlt b' (bG _ h)
  refine⟨_,_,w.heap.size :: (lI.flatten++az.flatten),hrun,⟨rfl,rfl,rfl⟩,by omega,λb' hb' hne=>absurd (hold b' hb') hne,?_,?_,?_⟩
  ·intro b' hb'
   rcases bM.1 hb' with h|h
   ·subst h;exact .inr (.inr ⟨bZ _,by omega⟩)
   ·rcases dh.1 h with h|h
    ·exact .inl (hf0.1 b' h)
    ·exact .inr (.inl h)
  ·refine jO.2 ⟨λh=>by have:=hall _ h;omega,dJ.2 ⟨hf0.2,hnd'.2.1,λb1 h1 b2 h2 e=>hnd'.2.2 b1 (hf0.1 b1 h1) b2 h2 e⟩⟩
  ·unfold Ow
   rw[aj hown]
   refine⟨_,_,_,rfl,by simp[e2'],hnc,.inr ⟨w.heap.size,0,_,0,0,rfl,hnew,iU.zero,?_,lI++az,by simp[hl0,hfl],by simp,λi hi=>?_⟩⟩
   ·simp only[Array.size_append,CO,size_zeroCells,hzl,ho1,hnl,<-iB]
    have:n+gV.length+(nc-(n+gV.length))=nc:=by omega
    rw[this]
    omega
   have hi':i<fZ.length+gV.length:=by simpa using hi
   rw[G8]
   have hcell:∀q,q<(olds++news).length->cellAt (hp (w.drew.alloc (.cells (olds.toArray++news.toArray++Builtin.zeroCells (iY kk).cells (nc-(n+gV.length))) e))) w.heap.size (0+q)=(olds++news)[q]?:=by
    intro q hq
    unfold cellAt
    rw[hnew]
    simp only[jq]
    rw[PE (by simpa using hq)]
    simp
   by_cases hi0:i<fZ.length
   ·rw[aj (by rw[hl0];exact hi0)]
    have hx:(fZ++gV)[i]'hi=fZ[i]:=CK hi0
    refine⟨gP olds kk.size i,λj hj=>?_,?_⟩
    ·rw[wE ho1 (by omega)]at hj
     have hlt2:(i+1)*kk.size<=n*kk.size:=jP _ (by omega)
     rw[iB,lT]at hlt2
     rw[ou,hcell _ (by rw[dI,ho1];omega),vE (by rw[ho1];omega),qW hj]
    ·show Ow _ own ok kk ((fZ++gV)[i]'hi) _ _
     rw[hx]
     exact dR (λb' h=>hold b' (hok b' h).2) (λ_ h=>h) (λb' hb'=>hold b' (hall b' (bV _ (uN hb')))) (Md i hi0)
   ·have hi1:i-fZ.length<gV.length:=by omega
    rw[ah (by rw[hl0];exact hi0)]
    have hx:(fZ++gV)[i]'hi=gV[i-fZ.length]:=K8 (by omega)
    have hfe:i-lI.length=i-fZ.length:=by rw[hl0]
    rw[hfe]
    refine⟨gP news kk.size (i-fZ.length),λj hj=>?_,?_⟩
    ·rw[wE hnl hi1]at hj
     have hlt2:(i-fZ.length+1)*kk.size<=gV.length*kk.size:=jP _ hi1
     rw[iB,lT]at hlt2
     have e4:i*kk.size=n*kk.size+(i-fZ.length)*kk.size:=by rw[<-iB];congr 1;omega
     rw[ou,hcell _ (by rw[dI,ho1,hnl];omega),yc (by rw[ho1];omega),qW hj]
     congr 1
     rw[ho1]
     omega
    ·show Ow _ own ok kk ((fZ++gV)[i]'hi) _ _
     rw[hx]
     exact dR (λb' h=>hold b' (hok b' h).2) (λ_ h=>h) (λb' hb'=>hold b' (hall b' (bG _ (uN hb')))) (hel _ hi1)
end
end
section
open Go
variable [Fr]
section
variable {P:Program}{T:bK}{cx:Cx}{Z:St}{J:aJ}{F:List Nat}{a:Act}{w:World}
theorem alO{k l:K}(e:k=l){x:El k}{y:El l}(ey:y=e▸x){h:Heap}{ok:Nat->Prop}{cs:List Value}(H:Vw h ok k x cs):Vw h ok l y cs:=by subst e;subst ey;exact H
theorem vI{k l:K}(e:k=l){x:El k}{y:El l}(ey:y=e▸x){h:Heap}{own:List TypeId}{ok:Nat->Prop}{cs:List Value}{fo:List Nat}(H:Ow h own ok k x cs fo):Ow h own ok l y cs fo:=by subst e;subst ey;exact H
theorem WX{u:TypeId}{size n c bb q:Nat}(hu:(∃e',P.underlying u=some (.slice e'))\/P.underlying u=some .string)(Q:Nat->List Value->Prop)
  (hE:∀i,i<n->∃ds,ds.length=size/\Cells (hp w) bb (q+i*size) ds/\(∀v∈ds,v.oneCell'=true)/\Q i ds) :
  ∃news,Src P w size u (.slice (some ⟨bb,q,none⟩) n c) n news/\∀i,i<n->Q i (gP news size i):=by
 have hrl:(iE (hp w) bb q (n*size)).length=n*size:=by simp[iE]
 have hseg:∀i,i<n->∃ds,gP (iE (hp w) bb q (n*size)) size i=ds/\ds.length=size/\Cells (hp w) bb (q+i*size) ds/\(∀v∈ds,v.oneCell'=true)/\Q i ds:=by
  intro i hi
  obtain⟨ds,hdl,h1,h2,h3⟩:=hE i hi
  refine⟨ds,?_,hdl,h1,h2,h3⟩
  apply Gj
  intro j
  by_cases hj:j<size
  ·rw[qW hj]
   have hlt2:(i+1)*size<=n*size:=jP _ (by omega)
   rw[iB,lT]at hlt2
   unfold iE
   rw[CJ,Zm (by omega)]
   have:=h1 j (by omega)
   simp only[gq]
   rw[<-ou,this,fG (by omega)]
   rfl
  ·rw[pY (by rw[wE hrl hi];omega),pY (by omega)]
 have hcell:∀j,j<n*size->cellAt (hp w) bb (q+j)=(iE (hp w) bb q (n*size))[j]?/\∀v,(iE (hp w) bb q (n*size))[j]?=some v->v.oneCell'=true:=by
  intro j hj
  have hk:0<size:=by
   rcases Nat.eq_zero_or_pos size with h|h
   ·rw[h]at hj;omega
   ·exact h
  have hi:j / size<n:=Nat.div_lt_of_lt_mul (by rw[Nat.mul_comm];exact hj)
  have hm:j%size<size:=Nat.mod_lt _ hk
  obtain⟨ds,s1,hdl,s2,s3,_⟩:=hseg _ hi
  have hjj:j / size*size+j%size=j:=by rw[Nat.mul_comm];exact Nat.div_add_mod j size
  have h1:(iE (hp w) bb q (n*size))[j]?=ds[j%size]?:=by
   rw[<-s1,qW hm,hjj]
  have h2:=s2 (j%size) (by omega)
  rw[ou,hjj]at h2
  refine⟨by rw[h2,h1],λv hv=>?_⟩
  rw[h1]at hv
  exact s3 v (p9 hv)
 refine⟨iE (hp w) bb q (n*size),Kh hu hrl (λv hv=>?_) (λ_=>⟨bb,q,rfl,λi hi=>(hcell i (by rw[hrl]at hi;exact hi)).1⟩),λi hi=>?_⟩
 ·obtain⟨j,hj,rfl⟩:=wQ.1 hv
  exact(hcell j (by rw[hrl]at hj;exact hj)).2 _ (fG hj)
 ·obtain⟨ds,s1,_,_,_,s3⟩:=hseg i hi
  rw[s1]
  exact s3
theorem Pw{u e:TypeId}{kk:K}{h:Heap}{ok:Nat->Prop}{xs:List (El kk)}{v:Value}{cs:List Value}(hu:(∃e',P.underlying u=some (.slice e'))\/P.underlying u=some .string)(hg:fD kk=true)
  (hh:h=hp w) (hv:VC (.sl e kk) v cs) (hV:Vw h ok (.sl e kk) xs cs) :
  ∃news,Src P w kk.size u v xs.length news/\∀i (hi:i<xs.length),Vw h ok kk xs[i] (gP news kk.size i):=by
 subst hh
 obtain⟨b,n,c,e1,e2,e3,e4,e5⟩:=BV hv hV
 subst e1
 subst e3
 by_cases h0:0<xs.length
 ·obtain⟨bb,q,eb,hok,hel,hE⟩:=e5 h0
  subst eb
  obtain⟨news,g1,g2⟩:=WX (P:=P) (w:=w) (n:=xs.length) (c:=c) (bb:=bb) (q:=q) hu (λi ds=>∀hi:i<xs.length,Vw (hp w) ok kk xs[i] ds) (λi hi=>by
   obtain⟨ds,h1,h2⟩:=hE i hi
   exact⟨ds,lD h2,h1,Lp hg h2,λ_=>h2⟩)
  exact⟨news,g1,λi hi=>g2 i hi hi⟩
 ·have hx:xs=[]:=rz (by omega)
  subst hx
  exact⟨[],Kh hu (by simp) (by simp) (λh=>by simp at h),λi hi=>by simp at hi⟩
theorem ahk{u e:TypeId}{kk:K}{own:List TypeId}{ok:Nat->Prop}{xs:List (El kk)}{v:Value}{cs:List Value}{fo:List Nat}(hu:(∃e',P.underlying u=some (.slice e'))\/P.underlying u=some .string)(hg:fD kk=true)
  (hv:VC (.sl e kk) v cs) (hown:ay e own=true) (hO:Ow (hp w) own ok (.sl e kk) xs cs fo) (hnd:fo.Nodup) :
  ∃news,Src P w kk.size u v xs.length news/\∃az:List (List Nat),az.length=xs.length/\az.flatten.Nodup/\(∀b∈az.flatten,b∈fo)/\∀i (hi:i<xs.length),Ow (hp w) own ok kk xs[i] (gP news kk.size i) (az.getD i []):=by
 unfold Ow at hO
 rw[aj hown]at hO
 obtain⟨b,n,c,e1,e2,e3,hO⟩:=hO
 obtain⟨e5,_⟩:cs=[v]/\_:=hv
 rw[e1]at e5
 simp only[gW,eO]at e5
 subst e5
 have e2':n=xs.length:=e2
 subst e2'
 rcases hO with⟨hc0,hf0⟩|⟨bb,q,arr,lo,hi,ea,hbk,hf,hs,lI,hl0,hp0,hO⟩
 ·have hx:xs=[]:=rz (by omega)
  subst hx
  exact⟨[],Kh hu (by simp) (by simp) (λh=>by simp at h),[],rfl,by simp,by simp,λi hi=>by simp at hi⟩
 ·subst ea
  have pE:=hp0.nodup hnd
  obtain⟨news,g1,g2⟩:=WX (P:=P) (w:=w) (n:=xs.length) (c:=c) (bb:=bb) (q:=q) hu (λi ds=>∀hi:i<xs.length,Ow (hp w) own ok kk xs[i] ds (lI.getD i [])) (λi hi=>by
   obtain⟨ds,h1,h2⟩:=hO i hi
   exact⟨ds,eY h2,h1,Le hg h2,λ_=>h2⟩)
  exact⟨news,g1,lI,hl0,(jO.1 pE).2,λb hb=>hp0.mem_iff.2 (by simp[hb]),λi hi=>g2 i hi hi⟩
theorem anS{kk:K}{own own':List TypeId}{ok:Nat->Prop}{xs:List (El kk)}{news:List Value}{az:List (List Nat)}(hfl:az.length=xs.length)(hnd:az.flatten.Nodup)(hsub:∀t∈kk.tys,ay t own'=true->ay t own=true)
  (hel:∀i (hi:i<xs.length),Ow (hp w) own ok kk xs[i] (gP news kk.size i) (az.getD i [])) :
  ∃(oD:List (List Nat)) (je:List Nat),oD.length=xs.length/\(oD.flatten++je).Nodup/\(∀b∈oD.flatten++je,b∈az.flatten)/\
   ∀i (hi:i<xs.length),Ow (hp w) own' (λb=>ok b\/b∈je) kk xs[i] (gP news kk.size i) (oD.getD i []):=by
 suffices hs:∀(n:Nat),n<=xs.length->∃(oD:List (List Nat)) (je:List Nat),oD.length=n/\(az.take n).flatten.Perm (oD.flatten++je)/\
   ∀i (_:i<n) (hi:i<xs.length),Ow (hp w) own' (λb=>ok b\/b∈je) kk xs[i] (gP news kk.size i) (oD.getD i []) by
  obtain⟨oD,je,h1,h2,h3⟩:=hs xs.length (bZ _)
  rw[Zp (by omega)]at h2
  exact⟨oD,je,h1,h2.nodup hnd,λb hb=>h2.mem_iff.2 hb,λi hi=>h3 i hi hi⟩
 intro n
 induction n with
 |zero=>intro _;exact⟨[],[],rfl,by simp,λi hi=>by omega⟩
 |succ n ih=>
  intro hn
  obtain⟨oD,je,h1,h2,h3⟩:=ih (by omega)
  obtain⟨f1,f2,p1,p2⟩:=wS (own':=own') hsub (hel n (by omega))
  refine⟨oD++[f1],je++f2,by simp[h1],?_,λi hi hi'=>?_⟩
  ·rw[Gp (by omega),Zk]
   have e:[az[n]'(by omega)].flatten=az.getD n []:=by rw[nk (show n<az.length by omega)];simp
   rw[e]
   refine(h2.append p1).trans ?_
   simp only[Zk,eG]
   refine z_ _ ?_
   simp only[pX,K7,jf]
   exact Fa
  ·rw[G8,h1]
   by_cases h:i<n
   ·rw[aj h]
    exact dR (λ_ _=>rfl) (λb hb=>hb.imp id (λh=>by simp[h])) (λ_ _=>rfl) (h3 i h hi')
   ·have:i=n:=by omega
    subst this
    rw[ah (by omega)]
    simp only[Ad]
    exact dR (λ_ _=>rfl) (λb hb=>hb.imp id (λh=>by simp[h])) (λ_ _=>rfl) p2
def jQ(P:Program)(cx:Cx)(Z:St)(J:aJ)(F:List Nat)(a:Act)(w:World)(u e:TypeId)(kk:K)(v:Value)(s:pV kk):Prop:=
 ∃a_ F1 news,Rel cx (aF s.ws Z) a_ F1 a w/\(∀q,q∉s.ws.flatMap Wr.dZ->Same Z J (aF s.ws Z) a_ q)/\(aF s.ws Z).slots=Z.slots/\(∀q,Z.roots q=none->(aF s.ws Z).roots q=none)/\(∀b∈F,b∈F1)/\
  fI (aF s.ws Z) s.tags/\Src P w kk.size u v s.xs.length news/\
  ∀own',(∀t∈kk.tys,ay t own'=true->t∉s.bad)->∃(az:List (List Nat)) (je:List Nat),az.length=s.xs.length/\(az.flatten++je).Nodup/\(∀b∈az.flatten++je,b∈F1/\b∉F)/\
   ∀i (hi:i<s.xs.length),Ow (hp w) own' (λb=>(aN cx (aF s.ws Z) a_ F1 w s.tags b/\∃t∈s.bad,kT (hp w) b t)\/b∈je) kk s.xs[i] (gP news kk.size i) (az.getD i [])
theorem Sk{n i:Nat}:(List.replicate n ([]:List Nat)).getD i []=[]:=by
 simp only[eP,List.getElem?_replicate]
 split<;>rfl
theorem Ke(H:Rel cx Z J F a w){u e:TypeId}{kk:K}{v:Value}{s:pV kk}(hws:s.ws=[])(eD:fI Z s.tags){news:List Value}(hS:Src P w kk.size u v s.xs.length news)
  (hV:∀i (hi:i<s.xs.length),Vw (hp w) (aN cx Z J F w s.tags) kk s.xs[i] (gP news kk.size i)) (hbad:s.bad=kk.tys\/kk.flat=true\/s.xs=[]):jQ P cx Z J F a w u e kk v s:=by
 refine⟨J,F,news,by rw[hws];exact H,by rw[hws];exact λq _=>uq ..,by rw[hws];rfl,by rw[hws];exact λq h=>h,λ_ h=>h,by rw[hws];exact eD,hS,λown' ho=>?_⟩
 refine⟨List.replicate s.xs.length [],[],by simp,by simp,by simp,λi hi=>?_⟩
 rw[Sk,hws]
 rcases hbad with h|h|h
 ·refine dR (λ_ _=>rfl) (λb hb=>.inl (h▸hb)) (λ_ _=>rfl) (Af (λt ht=>?_) (Gu kk.tys (λ_ h=>h) (hV i hi)))
  cases hm:ay t own' with
  |false=>rfl
  |true=>exact absurd (h▸ht) (ho t ht hm)
 ·exact Af (λt ht=>by rw[Dm h]at ht;simp at ht) (lC h (hV i hi))
 ·rw[h]at hi;simp at hi
theorem aiv{A:Type}{z:A}(H:Rel cx Z J F a w){u e:TypeId}{kk:K}{x:AV}{v:Value}{k:pV kk->Prog A}(hu:(∃e',P.underlying u=some (.slice e'))\/P.underlying u=some .string)(hg:fD kk=true)
  (hx:aW cx Z J F w x v) (hw:dK Z x) (h:(Kg e kk x k).ends Z z):∃s:pV kk,(k s).ends Z z/\jQ P cx Z J F a w u e kk v s:=by
 have qQ:(oZ x λk' y tags=>match b_ k' (.sl e kk) y with
   |some xs=>k ⟨xs,kk.tys,bif kk.flat then []else tags,[],false,[]⟩
   |none=>.fail).ends Z z->∃s:pV kk,(k s).ends Z z/\jQ P cx Z J F a w u e kk v s:=by
  intro h
  obtain⟨k',y,Tg,cs,h1,h2,h3,h4⟩:=CZ H hx hw h
  cases hc:b_ k' (.sl e kk) y with
  |none=>rw[hc]at h4;exact h4.elim
  |some xs=>
   rw[hc]at h4
   obtain⟨ek,ey⟩:=iJ hc
   subst ek
   simp only at ey
   subst ey
   obtain⟨news,g1,g2⟩:=Pw (P:=P) (u:=u) (xs:=xs) hu hg rfl h1 h2
   cases hf:kk.flat with
   |true=>
    rw[hf]at h4
    exact⟨_,h4,Ke H rfl (λt ht=>by simp at ht) g1 (λi hi=>lC hf (g2 i hi)) (.inr (.inl hf))⟩
   |false=>
    rw[hf]at h4
    exact⟨_,h4,Ke H rfl h3 g1 g2 (.inl rfl)⟩
 cases x with
 |val k1 y Tg=>
  cases k1 with
  |str=>
   simp only[Kg]at h
   cases h1:b_ (.int .u8) kk (0:Int)with
   |none=>rw[h1]at h;exact h.elim
   |some q=>
    rw[h1]at h
    obtain⟨ek,_⟩:=iJ h1
    subst ek
    simp only at h
    cases h2:b_ (.sl e (.int .u8)) (.sl e (.int .u8)) (show List Int from y)with
    |none=>rw[h2]at h;exact h.elim
    |some xs=>
     rw[h2]at h
     obtain⟨_,ey⟩:=iJ h2
     simp only at ey
     subst ey
     obtain⟨B,e1,e2⟩:=zG hx
     subst e1
     have hlen:(bytesOf B).length=B.size:=rD B
     have hS:=ayo (P:=P) (w:=w) (u:=u) (B:=B) hu
     subst e2
     refine⟨_,h,Ke H rfl (λt ht=>by simp at ht) (news:=B.data.toList.map λb=>.int .u8 b.toNat) ?_ (λi hi=>?_) (.inr (.inl rfl))⟩
     ·show Src P w 1 u _ (bytesOf B).length _
      rw[hlen]
      exact hS
     ·have hi':i<B.size:=by
       have:i<(bytesOf B).length:=hi
       rw[hlen]at this;exact this
      have hseg:gP (B.data.toList.map λb=>Value.int .u8 b.toNat) (K.int .u8).size i=[.int .u8 (B.data.toList[i]'(by simpa using hi')).toNat]:=by
       apply Gj
       intro j
       show(gP (B.data.toList.map λb=>Value.int .u8 b.toNat) 1 i)[j]?=_
       cases j with
       |zero=>rw[qW (by omega)];simp[hi']
       |succ j=>rw[pY (by rw[wE (m:=B.size) (by simp) hi'];omega)];simp
      rw[hseg]
      have he:(bytesOf B)[i]'hi=((B.data.toList[i]'(by simpa using hi')).toNat:Int):=by simp[bytesOf]
      refine⟨?_,?_⟩
      ·show [Value.int .u8 _]=[Value.int .u8 _]
       congr 2
       exact he.symm
      ·show lq .u8 _
       have:lq .u8 ((B.data.toList[i]'(by simpa using hi')).toNat:Int):=⟨by omega,by have:=(B.data.toList[i]'(by simpa using hi')).toNat_lt;omega⟩
       exact he▸this
  |_=>exact qQ h
 |eX=>
  obtain⟨b,rfl⟩:=hx
  exact⟨_,h,Ke H rfl (λt ht=>by simp at ht) (news:=[]) (Kh hu (by simp) (by simp) (λh=>by simp at h)) (λi hi=>by simp at hi) (.inr (.inr rfl))⟩
 |ref r g=>
  simp only[Kg]at h
  obtain⟨R,hr,hv,h⟩:=gH h
  rcases bB h with⟨hg1,h⟩|⟨_,h⟩
  ·have hgg:=bu hg1
   obtain⟨hkind,ji⟩:=hx R hr hgg
   cases hc:b_ R.k (.sl e kk) R.x with
   |none=>rw[hc]at h;exact h.elim
   |some xs=>
    rw[hc]at h
    simp only at h
    obtain⟨ek,ey⟩:=iJ hc
    have K:=H.roots r R hr
    have hO:=K.ow hv
    have aqn:=tJ H hr hO (λb hb=>hb)
    cases hf:kk.flat with
    |true=>
     rw[hf]at h
     have lX:Vw (hp w) (aN cx Z J F w (R.out r R.k)) (.sl e kk) xs (J.hdr r):=alO ek ey aqn
     obtain⟨news,g1,g2⟩:=Pw (P:=P) (u:=u) (xs:=xs) hu hg rfl (ek▸ji) lX
     exact⟨_,h,Ke H rfl (λt ht=>by simp at ht) g1 (λi hi=>lC hf (g2 i hi)) (.inr (.inl hf))⟩
    |false=>
     rw[hf]at h
     simp only[jI]at h
     rcases bB h with⟨_,h⟩|⟨_,h⟩
     ·exact h.elim
     ·obtain⟨H1,T1,hh,hcl⟩:=kill H hr hkind hv
      have qd:Ow (hp w) R.own (aN cx (aO Z r g_) (iQ J r) (J.fo r++F) w R.tags) (.sl e kk) xs (J.hdr r) (J.fo r):=vI ek ey (hh.ow hcl)
      have abo:VC (.sl e kk) v (J.hdr r):=ek▸ji
      have hsame:∀q,q∉([Wr.r r none]:List Wr).flatMap Wr.dZ->Same Z J (aO Z r g_) (iQ J r) q:=λq hq=>kR (by simpa[Wr.dZ]using hq)
      have hnone:∀q,Z.roots q=none->(aO Z r g_).roots q=none:=λq hq=>by
       rw[jA]
       ·exact hq
       ·intro e;rw[e,hr.1]at hq;simp at hq
      have sP:∀b∈J.fo r,b∉F:=λb hb=>H.dU r R hr b (bG _ hb)
      cases hme:ay e R.own with
      |true=>
       obtain⟨news,g1,az,g2,g3,g4,g5⟩:=ahk (P:=P) (u:=u) hu hg abo hme qd hh.nd
       rw[hme]at h
       simp only[fT,Bool.true_and]at h
       refine⟨_,h,iQ J r,J.fo r++F,news,H1,hsame,rfl,hnone,λb hb=>bG _ hb,?_,g1,λown' ho=>?_⟩
       ·intro t ht
        simp only at ht
        cases hal:(kk.tys.all λt=>ay t R.own)with
        |true=>rw[hal]at ht;simp at ht
        |false=>rw[hal]at ht;exact hh.wt t ht
       ·simp only at ho ⊢
        have Sj:∀i (hi:i<List.length xs),Ow (hp w) R.own (λb=>aN cx (aO Z r g_) (iQ J r) (J.fo r++F) w (bif (kk.tys.all λt=>ay t R.own)then []else R.tags) b/\∃t∈bz R.own kk,kT (hp w) b t) kk xs[i] (gP news kk.size i) (az.getD i []):=by
         intro i hi
         cases hal:(kk.tys.all λt=>ay t R.own)with
         |false=>exact rC _ (λ_ h=>h) (g5 i hi)
         |true=>exact lU (oQ (nA hal)) (g5 i hi)
        obtain⟨oD,je,f1,f2,f3,f4⟩:=anS (own':=own') g2 g3 (λt ht hm=>(Kl (own:=R.own) ht).resolve_left (λhx=>ho t ht hm hx)) Sj
        exact⟨oD,je,f1,f2,λb hb=>⟨bV _ (g4 b (f3 b hb)),sP b (g4 b (f3 b hb))⟩,f4⟩
      |false=>
       have hO2:=qd
       unfold Ow at hO2
       rw[hme]at hO2 h
       simp only[bP,bI]at hO2
       simp only[jI,Bool.false_and]at h
       obtain⟨news,g1,g2⟩:=Pw (P:=P) (u:=u) (xs:=xs) hu hg rfl abo hO2.2
       refine⟨_,h,iQ J r,J.fo r++F,news,H1,hsame,rfl,hnone,λb hb=>bG _ hb,hh.wt,g1,λown' ho=>?_⟩
       refine⟨List.replicate (List.length xs) [],[],by simp,by simp,by simp,λi hi=>?_⟩
       rw[Sk]
       refine dR (λ_ _=>rfl) (λb hb=>.inl hb) (λ_ _=>rfl) (Af (λt ht=>?_) (Gu kk.tys (λ_ h=>h) (g2 i hi)))
       cases hm:ay t own' with
       |false=>rfl
       |true=>exact absurd ht (ho t ht hm)
  ·exact h.elim
 |dP r p n=>exact qQ h
 |undef=>exact qQ h
 |ptr r p n=>exact qQ h
 |fC bt k y T=>exact qQ h
 |kS _ _ _ _=>exact qQ h
 |nZ _=>exact qQ h
 |part _ _ _ _ _=>exact qQ h
 |l9 _ _ _ _=>exact qQ h
 |sub _ _ _ _ _ _=>exact qQ h
 |sel _ _ _ _ _ _=>exact qQ h
 |app _ _ _ _=>exact qQ h
 |iW=>exact qQ h
 |fn f cs=>exact qQ h
end
end
section
open Go
variable [Fr]
section
variable {P:Program}{T:bK}{cx:Cx}{Z:St}{J:aJ}{F:List Nat}{a:Act}{w:World}{o:Oper}{d:Nat}{ws:List Wr}{r:Nat}{R:Root}
theorem axL(H:Rel cx Z J F a w)(hr:aY Z r R)(hv:cZ Z R)(hk:R.kind=.anon){R':Root}(hk':R'.kind=.anon){e:TypeId}(hw:R'.w=e :: R.w)(hh:R'.h=jm :: e :: R.h)(hg:R'.g=R.g+1)(hev:R'.ew=R.ew/\R'.eh=R.eh)
  (eD:fI Z R'.tags/\∀n,(r,n)∉R'.tags) {w':World} (hos:w'.os=w.os/\w'.tape=w.tape/\w'.output=w.output) (hsize:w.heap.size<=w'.heap.size) {bH:List Nat}
  (o7:∀b,b<w.heap.size->hp w' b≠hp w b->b∈F\/(b∈J.fo r/\iH (hp w) b=some e)) (aw1:∀b∈bH,b∈J.fo r\/b∈F\/(w.heap.size<=b/\b<w'.heap.size)) (hnd:bH.Nodup)
  {hdr':List Value} (hlen:hdr'.length=R'.k.size) (how:Ow (hp w') R'.own (aN cx (aO Z r R') (bn J r (J.loc r) hdr' bH) [] w' R'.tags) R'.k R'.x hdr' bH) {v':Value} (hv':VC R'.k v' hdr') :
  Rel cx (aO Z r R') (bn J r (J.loc r) hdr' bH) [] a w'/\aW cx (aO Z r R') (bn J r (J.loc r) hdr' bH) [] w' (.ref r R'.g) v':=by
 have hblk:blk J R r=J.fo r:=by simp[blk,aL,hk]
 have hd':R'.cu=false:=by simp[Root.cu,hk']
 have T1:uu cx Z J F w r R R' bH [] w' [e] [jm,e]:=by
  refine⟨.inr ⟨hw,hh,by omega,hk'.trans hk.symm,λh=>by rw[hk]at h;simp at h,.inl (by simp)⟩,eD,hos,hsize,λb hb hne=>?_,λ_ b hb=>?_,λb hb=>by simp at hb,mq,λ_ b _ h=>by simp at h,λj pi b o n hj hb DL hne=>?_,λ_=>hev⟩
  ·rcases o7 b hb hne with h|⟨h1,h2⟩
   ·exact .inl h
   ·exact .inr ⟨by rw[hblk];exact h1,.inr (.inl ⟨e,by simp,h2⟩)⟩
  ·rw[qb hk']at hb
   rw[hblk]
   exact aw1 b hb
  ·obtain⟨Q,hQ,hkq,_,_⟩:=H.kG j pi b o n hj hb
   have hQR:Q=R:=by have:=hQ.1;rw[<-DL,hr.1]at this;simpa using this.symm
   rw[hQR,hk]at hkq
   simp at hkq
 refine⟨T1.rel H hr (λ_=>⟨λ_=>how,hlen,λb o hb=>by rw[FK hk']at hb;simp at hb,by rw[qb hk'];exact hnd⟩) ?_ ?_,?_⟩
 ·intro _ p n v hn hold
  refine⟨hold.1,λQ hQ lZ hcl hty hs=>?_⟩
  rw[fQ]at hQ
  simp only[ak]at hQ
  subst hQ
  cases p with
  |nil=>
   obtain⟨_,cs,b,o,h1,_⟩:=hold.2 R hr.1 hv (by simp[clean,iR,ay]) (λt ht=>by simp[aC]at ht) rfl
   simp only[aR,ak,bS]at h1
   have:aL J R r=none:=by simp[aL,hk]
   rw[this]at h1
   simp at h1
  |cons s p=>
   have e1:R'.h=[jm,e]++R.h:=hh
   rw[e1,Aq hn]at hcl
   exact absurd (show jm∈iR (s :: p) R'.k from jE) (hcl.1 jm (by simp))
 ·intro _ g v hgl hold Q hQ Dw
  obtain⟨rfl,_⟩:=nY hQ
  omega
 ·intro Q hQ _
  obtain⟨rfl,_⟩:=nY hQ
  refine⟨hk',?_⟩
  simp only[bn,upd_same]
  exact hv'
theorem OO(H:Rel cx Z J F a w){w':World}(hs:w.heap.size<=w'.heap.size){Tg ZA:List Tag}{bH:List Nat}{b:Nat}(hb:aN cx Z J F w Tg b\/b∈F)(ht:∀t∈Tg,t∈ZA)(hfo:b∉bH):aN cx Z J bH w' ZA b:=by
 rcases hb with hb|hb
 ·exact⟨vH hb.1 hs,hfo,hb.2.2.1,λq Q hq hbq=>(hb.2.2.2.1 q Q hq hbq).imp λn hn=>ht _ hn,λh0=>(hb.2.2.2.2 h0).imp (λ⟨j,n,h1,h2⟩=>⟨j,n,ht _ h1,h2⟩) id⟩
 ·have hm:=H.fl b hb
  refine⟨vH hm.1 hs,hfo,zP H hb,λq Q hq hbq=>absurd hb (H.dU q Q hq b hbq),λh0=>?_⟩
  rcases hm.2 with h|⟨j,pi,h1,h2⟩
  ·omega
  ·exact .inr ⟨j,pi,h1,h2⟩
theorem J8{c:Call}(ho:o.op=.call c)(hb:c.callee=.builtin .append){x y:Operand}(ha:c.args.toList=[x,y]){t u:TypeId}(ht:c.argTypes[0]?=some t)(hu:c.argTypes[1]?=some u){v':Value}{w':World}
  (h:(Builtin.append_ #[t,u] o.type #[a.eval x,a.eval y]).run P w=.ok v' w'):(execOp a.eval o).run P w=.ok (.value v') w':=by
 obtain⟨cc,hcc⟩:=Fq (P:=P) (a:=a) (w:=w) ho hb
 rw[hcc]
 have h1:c.args.map a.eval=#[a.eval x,a.eval y]:=by
  apply rW
  rw[u7,ha]
  rfl
 have h2:Builtin.append_ c.argTypes o.type #[a.eval x,a.eval y]=Builtin.append_ #[t,u] o.type #[a.eval x,a.eval y]:=by
  unfold Builtin.append_
  simp only[ht,hu]
  rfl
 rw[h1]
 simp only[builtin,dH,h2,h,eZ,eH]
end
end
section
open Go
variable [Fr]
section
variable {P:Program}{T:bK}{cx:Cx}{Z:St}{J:aJ}{F:List Nat}{a:Act}{w:World}{o:Oper}{d:Nat}{ws:List Wr}
theorem ZT(hT:eU P T){Z1:St}{a_:aJ}{F1:List Nat}(H1:Rel cx Z1 a_ F1 a w)(hd:o.dst=some d)(hdn:d<cx.nt){c:Call}(ho:o.op=.call c)(hcb:c.callee=.builtin .append){x y:Operand}(ha:c.args.toList=[x,y])
  {t u e:TypeId} {kk:K} (ht0:c.argTypes[0]?=some t) (hu0:c.argTypes[1]?=some u) (hty:T.ty t=some (.sl e kk)) (hn1:Z1.roots (aK d 0)=none)
  {own:List TypeId} {tags T1 T2:List Tag} {bad:List TypeId} {fZ gV:List (El kk)} {v0:Value} {fU fd:List Nat} {az:List (List Nat)} {je:List Nat} {news:List Value} (hv0:a.eval x=v0) (hS:Src P w kk.size u (a.eval y) gV.length news)
  (hown:ay e own=true) (hob:∀t,ay t own=true->t∉bad) (hwt:fI Z1 tags) (ht1:∀t∈T1,t∈tags) (ht2:∀t∈T2,t∈tags)
  (hO:Ow (hp w) own (λb=>aN cx Z1 a_ F1 w T1 b\/b∈fd) (.sl e kk) fZ [v0] fU) (yO:∀b∈fU++fd,b∈F1) (pE:(fU++fd).Nodup) (hF1:∀b∈az.flatten++je,b∈F1/\b∉fU++fd) (yR:(az.flatten++je).Nodup)
  (hfl:az.length=gV.length) (hel:∀i (hi:i<gV.length),Ow (hp w) own (λb=>((aN cx Z1 a_ F1 w T2 b\/b∈F1)/\∃t∈bad,kT (hp w) b t)\/b∈je) kk gV[i] (gP news kk.size i) (az.getD i []))
  (hb:(fZ.length+gV.length)*T.bytes e<=140737488355328) (kp:Bool) :
  dG P cx o a w (aF [.r (aK d 0) (some (bU (.sl e kk) (fZ++gV) own tags .anon kp)),.s d (.one (.ref (aK d 0) 0))] Z1):=by
 have ht:=hT.ty t _ hty
 have n0:=dJ.1 pE
 have n1:=dJ.1 yR
 have hlt:∀b∈F1,b<w.heap.size:=λb h=>(H1.fl b h).1
 have Tz:=Ae hO
 have hnot:∀b,((aN cx Z1 a_ F1 w T2 b\/b∈F1)/\∃t∈bad,kT (hp w) b t)->b∉fU:=by
  rintro b ⟨_,t,h1,h2⟩ hb0
  obtain⟨e',_,h3,h4⟩:=Tz b hb0
  have h2:=H1.BZ (H1.fl b (yO b (bV _ hb0))) h2
  rw[h2]at h4
  simp only[ak]at h4
  subst h4
  exact hob _ h3 h1
 let ok:Nat->Prop:=λb=>(aN cx Z1 a_ F1 w T1 b\/b∈fd)\/((aN cx Z1 a_ F1 w T2 b\/b∈F1)/\∃t∈bad,kT (hp w) b t)\/b∈je
 obtain⟨v',w',bH,hrun,hos,hsz,oG,hfo,xh,lX⟩:=ZR (w:=w) (ok:=ok) (u:=u) (ty:=o.type) (x:=a.eval y) (az:=az) ht (dR (λ_ _=>rfl) (λb h=>.inl h) (λ_ _=>rfl) hO) hown
  (dJ.2 ⟨n0.1,n1.1,λb1 h1 b2 h2 e=>(hF1 b2 (bV _ h2)).2 (bV _ (e▸h1))⟩)
  (λb hb=>by
   rcases hb with(h|h)|h|h
   ·exact⟨λh0=>h.2.1 (yO b (bV _ h0)),h.1⟩
   ·exact⟨λh0=>n0.2.2 b h0 b h rfl,hlt b (yO b (bG _ h))⟩
   ·refine⟨hnot b h,?_⟩
    rcases h.1 with h|h
    ·exact h.1
    ·exact hlt b h
   ·exact⟨λh0=>(hF1 b (bG _ h)).2 (bV _ h0),hlt b (hF1 b (bG _ h)).1⟩)
  (λb hb=>by
   rcases dh.1 hb with h|h
   ·exact hlt b (yO b (bV _ h))
   ·exact hlt b (hF1 b (bV _ h)).1)
  hS hfl (λi hi=>dR (λ_ _=>rfl) (λb h=>.inr h) (λ_ _=>rfl) (hel i hi)) hb
 have sP:∀b∈bH,b∈F1\/(w.heap.size<=b/\b<w'.heap.size):=by
  intro b hb
  rcases hfo b hb with h|h|h
  ·exact .inl (yO b (bV _ h))
  ·exact .inl (hF1 b (bV _ h)).1
  ·exact .inr h
 have T2':=EX (w':=w') (F':=bH) H1 hos hsz (λb h1 h2=>yO b (bV _ (oG b h1 h2).1)) sP xh
 have H2:=H1.mem T2'
 have ji:VC (.sl e kk) v' [v']:=⟨rfl,by
  unfold Ow at lX
  rw[aj hown]at lX
  obtain⟨b,n,c,e1,_⟩:=lX
  simp only[gW,eO]at e1
  rw[e1];simp⟩
 have hok:∀b,ok b->aN cx Z1 a_ bH w' tags b:=by
  intro b hb
  have hnew:b<w.heap.size->¬(w.heap.size<=b/\b<w'.heap.size):=λh=>by omega
  rcases hb with(h|h)|h|h
  ·refine OO H1 hsz (.inl h) ht1 (λhb=>?_)
   rcases hfo b hb with h2|h2|h2
   ·exact h.2.1 (yO b (bV _ h2))
   ·exact h.2.1 (hF1 b (bV _ h2)).1
   ·exact hnew h.1 h2
  ·have hF:=yO b (bG _ h)
   refine OO H1 hsz (Tg:=[]) (.inr hF) (by simp) (λhb=>?_)
   rcases hfo b hb with h2|h2|h2
   ·exact n0.2.2 b h2 b h rfl
   ·exact(hF1 b (bV _ h2)).2 (bG _ h)
   ·exact hnew (hlt b hF) h2
  ·refine OO H1 hsz h.1 ht2 (λhb=>?_)
   have hlt':b<w.heap.size:=by
    rcases h.1 with h|h
    ·exact h.1
    ·exact hlt b h
   rcases hfo b hb with h2|h2|h2
   ·exact hnot b h h2
   ·obtain⟨l,hl,hbl⟩:=K_.1 h2
    obtain⟨i,hi,rfl⟩:=wQ.1 hl
    have:=Ae (hel i (by omega)) b (by rw[nk hi];exact hbl)
    obtain⟨e',_,h3,h4⟩:=this
    obtain⟨_,t,h5,h6⟩:=h
    have h6:=H1.BZ (H1.fl b (hF1 b (bV _ h2)).1) h6
    rw[h6]at h4
    simp only[ak]at h4
    subst h4
    exact hob _ h3 h5
   ·exact hnew hlt' h2
  ·have hF:=(hF1 b (bG _ h)).1
   refine OO H1 hsz (Tg:=[]) (.inr hF) (by simp) (λhb=>?_)
   rcases hfo b hb with h2|h2|h2
   ·exact(hF1 b (bG _ h)).2 (bV _ h2)
   ·exact n1.2.2 b h2 b h rfl
   ·exact hnew (hlt b hF) h2
 obtain⟨gB,k1,k2⟩:=CV (k:=.sl e kk) (x:=fZ++gV) (own:=own) (tags:=tags) (v:=v') (cs:=[v']) (fo:=bH) (r:=aK d 0) (F':=[]) H2 hn1 (oK d 0)
  (λb hb=>hb) xh hwt (λb hb=>by simp at hb) mq rfl (λ_=>dR (λ_ _=>rfl) (λb hb=>.inl (hok b hb)) (λ_ _=>rfl) lX) ji kp
 exact nR (x:=.one (.ref (aK d 0) 0)) k1 hd hdn (J8 ho hcb ha ht0 hu0 (by rw[hv0];exact hrun)) k2 ⟨_,fQ ..,.inr (dW _)⟩
theorem ZO{ws:List Wr}{tags:List Tag}(h:yx ws tags=true):∀t∈tags,t.1∉ws.flatMap Wr.dZ:=λt ht=>by
 have:=dV.1 h t ht
 simpa[gF]using this
theorem ag6{ws:List Wr}{r:Nat}(h:(ws.all λw=>!w.loc.beq (.r r))=true):r∉ws.flatMap Wr.dZ:=by
 intro hm
 obtain⟨wr,h1,h2⟩:=mW.1 hm
 have:=dV.1 h wr h1
 cases wr with
 |s n x=>simp[Wr.dZ]at h2
 |r n x=>
  simp only[Wr.dZ,gY]at h2
  subst h2
  simp[Wr.loc,Loc.beq]at this
theorem am4(hT:eU P T)(H:Rel cx Z J F a w)(hd:o.dst=some d)(hdn:d<cx.nt){c:Call}(ho:o.op=.call c)(hcb:c.callee=.builtin .append)
  (h:(nS c.args.toList fun
   | [a,b]=>match c.argTypes[0]?,(c.argTypes[1]?).bind T.ty with
    |some t,some (.sl _ _)=>CY T d t a b λws=>(.ret ws:Prog (List Wr))
    |some t,some .str=>CY T d t a b λws=>(.ret ws:Prog (List Wr))
    |_,_=>.fail
   |_=>.fail).ends Z ws):dG P cx o a w (aF ws Z):=by
 obtain⟨vs,h1,h2,h⟩:=vR H h
 obtain⟨u,v,x,y,t,ut,hvs,ha,hx,hy,ht0,hu0,aqk,h9⟩:∃u v x y t ut,vs=[u,v]/\c.args.toList=[x,y]/\aW cx Z J F w u (a.eval x)/\aW cx Z J F w v (a.eval y)/\c.argTypes[0]?=some t/\c.argTypes[1]?=some ut/\
   ((∃e',P.underlying ut=some (.slice e'))\/P.underlying ut=some .string)/\(CY T d t u v λws=>(.ret ws:Prog (List Wr))).ends Z ws:=by
  split at h
  ·rename_i u v
   have hargs:∃x y,c.args.toList=[x,y]/\aW cx Z J F w u (a.eval x)/\aW cx Z J F w v (a.eval y):=by
    revert h1
    generalize c.args.toList=l
    intro h1
    cases l with
    |nil=>exact h1.elim
    |cons x l=>
     cases l with
     |nil=>exact h1.2.elim
     |cons y l=>
      cases l with
      |nil=>exact⟨x,y,rfl,h1.1,h1.2.1⟩
      |cons _ _=>exact h1.2.2.elim
   obtain⟨x,y,e1,e2,e3⟩:=hargs
   split at h
   ·rename_i t e k e4 e5
    obtain⟨ut,e6,e7⟩:=rU hT e5
    exact⟨u,v,x,y,t,ut,rfl,e1,e2,e3,e4,e6,.inl ⟨_,e7.sl.1⟩,h⟩
   ·rename_i t e4 e5
    obtain⟨ut,e6,e7⟩:=rU hT e5
    exact⟨u,v,x,y,t,ut,rfl,e1,e2,e3,e4,e6,.inr e7.str,h⟩
   ·exact h.elim
  ·exact h.elim
 clear h
 have h:=h9
 clear h9
 subst hvs
 have hwu:=h2 u (by simp)
 have hwv:=h2 v (by simp)
 unfold CY at h
 cases hty:T.ty t with
 |none=>rw[hty]at h;exact h.elim
 |some k0=>
  rw[hty]at h
  cases k0 with
  |sl e kk=>
   have ht:=hT.ty t _ hty
   simp only at h
   obtain⟨s,h8,a_,F1,news,H1,hsame,aza,hnone,Sq,hwt,hS,hels⟩:=aiv (P:=P) (u:=ut) H aqk ht.sl.2.1.fD hy hwv h
   clear h
   rcases bB h8 with⟨_,h⟩|⟨hbad,h⟩
   ·exact h.elim
   clear h8
   cases u with
   |eX=>
    obtain⟨b0,hv0⟩:=hx
    obtain⟨hb,h⟩:=h
    obtain⟨hn,h⟩:=oF h
    rw[bC h,mY]
    have ho1:ay e (e :: eF kk.tys s.bad)=true:=fF.2 (by simp)
    have ho2:∀t,ay t (e :: eF kk.tys s.bad)=true->t∉s.bad:=λt ht=>by
     rcases bM.1 (fF.1 ht)with h|h
     ·rw[h];exact gF.1 hbad
     ·exact(oM.1 (fF.2 h)).2
    obtain⟨az,je,f1,f2,f3,f4⟩:=hels (e :: eF kk.tys s.bad) (λt _ ht=>ho2 t ht)
    exact ZT hT H1 hd hdn ho hcb ha ht0 hu0 hty (hnone _ hn) (fZ:=[]) (v0:=.slice b0 0 0) (fU:=[]) (fd:=[]) (T1:=[]) (T2:=s.tags) (bad:=s.bad) hv0 hS ho1 ho2 hwt (by simp) (λ_ h=>h) JX (by simp) (by simp)
     (λb hb=>⟨(f3 b hb).1,by simp⟩) f2 f1 (λi hi=>dR (λ_ _=>rfl) (λb hb=>hb.imp (λh=>⟨.inl h.1,h.2⟩) id) (λ_ _=>rfl) (f4 i hi)) (by simpa using hb) s.keep
   |dP r p n=>
    obtain⟨R,hr,hv,h⟩:=gH h
    rcases bB h with⟨hc,h⟩|⟨_,h⟩
    ·simp only[bf]at hc
     obtain⟨⟨⟨⟨⟨⟨⟨c1,c2⟩,c3⟩,c4⟩,c5⟩,c6⟩,c7⟩,c8⟩:=hc
     cases hg:aD p R.k R.x with
     |none=>rw[hg]at h;exact h.elim
     |some dd=>
      rw[hg]at h
      simp only at h
      cases hck:b_ dd.1 (.sl e kk) dd.2 with
      |none=>rw[hck]at h;exact h.elim
      |some xs=>
       rw[hck]at h
       cases hga:vV R p dd with
       |none=>rw[hga]at h;exact h.elim
       |some R'=>
        rw[hga]at h
        simp only at h
        obtain⟨hb,h⟩:=h
        obtain⟨hn,h⟩:=oF h
        rw[bC h,mY]
        obtain⟨ek,ey⟩:=iJ hck
        unfold vV at hga
        cases hz:bO p R.k R.x (nu dd)with
        |none=>rw[hz]at hga;simp at hga
        |some z=>
         rw[hz]at hga
         simp only[ak]at hga
         have eR:R'=jJ R dd z:=by rw[<-hga];rfl
         have hSr:=hsame r (ag6 c7)
         have hr1:=(hSr.live R).2 hr
         have hv1:cZ (aF s.ws Z) R:=⟨hv.1,by rw[qL (λt ht=>(hsame t.1 (ZO c8 t ht)).root)];exact hv.2⟩
         obtain⟨cK,hown,cs0,wF,hn0,Sz⟩:=hx R hr.1 hv (bu c1) dd hg
         have hpv:p≠[]\/∃t,R.kind=.var t:=by
          rw[og]at c3
          rcases c3 with h|h
          ·exact .inl (by simpa using h)
          ·refine .inr ?_
           unfold Root.isVar at h
           cases hk:R.kind with
           |var t=>exact⟨t,rfl⟩
           |_=>rw[hk]at h;simp at h
         obtain⟨cs1,cB,aT,rest,g1,g2,g3,g4,g5,g6⟩:=gap H1 hr1 hv1 hg hz cK hown hpv
         rw[hSr.hdr,hSr.wh,hn0]at g1
         simp only[ak,bS]at g1
         obtain⟨rfl,rfl⟩:=g1
         have hcl:cO (aO (aF s.ws Z) r (jJ R dd z)) (bz R.own dd.1) R.tags=true:=by
          rw[g5]
          exact yH hv1.2 (λ_ h=>h) (Km p hg hown)
         have Mc:=vI (y:=xs) ek ey (g4.ow hcl)
         have ho1:ay e (eF ((e :: kk.tys).filter λt=>ay t R.own) s.bad)=true:=oM.2 ⟨fF.2 (jg.2 ⟨by simp,c5⟩),gF.1 hbad⟩
         have ho2:∀t,ay t (eF ((e :: kk.tys).filter λt=>ay t R.own) s.bad)=true->t∉s.bad:=λt ht=>(oM.1 ht).2
         obtain⟨fU,fd,hp0,qd⟩:=wS (own':=eF ((e :: kk.tys).filter λt=>ay t R.own) s.bad) (λt _ hm=>(jg.1 (fF.1 (oM.1 hm).1)).2) Mc
         obtain⟨az,je,f1,f2,f3,f4⟩:=hels (eF ((e :: kk.tys).filter λt=>ay t R.own) s.bad) (λt _ ht=>ho2 t ht)
         have apq:∀b∈aT,b∉F1:=λb hb hF=>(dJ.1 g2.gL).2.2 b hb b hF rfl
         have hcs:∃v0,cs0=[v0]/\a.eval x=v0:=by
          have Ho:VC (.sl e kk) (a.eval x) cs0:=ek▸Sz
          exact⟨_,Ho.1,rfl⟩
         obtain⟨v0,R5,ev0⟩:=hcs
         subst R5
         subst eR
         have hne:aK d 0≠r:=λe=>by have:=hr.1;rw[<-e,hn]at this;simp at this
         refine ZT hT g2 hd hdn ho hcb ha ht0 hu0 hty (by rw[jA _ _ hne];exact hnone _ hn) (fZ:=xs) (v0:=v0) (fU:=fU) (fd:=fd) (T1:=R.tags) (T2:=s.tags) (bad:=s.bad) (az:=az) (je:=je) ev0 hS ho1 ho2
          (λt ht=>?_) (λt ht=>kY.2 (.inr ht)) (λt ht=>kY.2 (.inl ht)) qd (λb hb=>bV _ (hp0.mem_iff.2 hb)) (hp0.nodup g4.nd)
          (λb hb=>⟨bG _ (f3 b hb).1,λhb'=>apq b (hp0.mem_iff.2 hb') (f3 b hb).1⟩) f2 f1 (λi hi=>dR (λ_ _=>rfl) (λb hb=>?_) (λ_ _=>rfl) (f4 i hi)) hb _
         ·rcases kY.1 ht with h|h
          ·exact g3.tag (hwt t h)
          ·exact g4.wt t h
         ·rcases hb with⟨hb,hbt⟩|hb
          ·refine .inl ⟨?_,hbt⟩
           by_cases hbf:b∈aT
           ·exact .inr (bV _ hbf)
           ·refine .inl ⟨hb.1,λh=>?_,hb.2.2.1,λq Q hq hbq=>?_,hb.2.2.2.2⟩
            ·rcases dh.1 h with h|h
             ·exact hbf h
             ·exact hb.2.1 h
            ·rcases uM hq with⟨rfl,rfl,_⟩|⟨eq,hq'⟩
             ·refine hb.2.2.2.1 q R hr1 ?_
              rw[qc,yC (show(jJ R dd z).kind=R.kind from rfl)]at hbq
              rw[jd]
              rw[lN]at hbq ⊢
              exact hbq.imp id (λh=>g6.mem_iff.2 (bG _ h))
             ·rw[(kR (J:=a_) (Z:=aF s.ws Z) (R:=jJ R dd z) eq).blk]at hbq
              exact hb.2.2.2.1 q Q hq' hbq
          ·exact .inr hb
    ·exact h.elim
   |ref r g=>
    obtain⟨R,hr,hv,h⟩:=gH h
    rcases bB h with⟨hc,h⟩|⟨_,h⟩
    ·simp only[bf]at hc
     obtain⟨⟨⟨⟨⟨c1,c4⟩,c5⟩,c6⟩,c7⟩,c8⟩:=hc
     cases hck:b_ R.k (.sl e kk) R.x with
     |none=>rw[hck]at h;exact h.elim
     |some xs=>
      rw[hck]at h
      simp only at h
      obtain⟨hb,h⟩:=h
      rw[bC h,mY]
      obtain⟨ek,ey⟩:=iJ hck
      have hSr:=hsame r (ag6 c7)
      have hr1:=(hSr.live R).2 hr
      have hv1:cZ (aF s.ws Z) R:=⟨hv.1,by rw[qL (λt ht=>(hsame t.1 (ZO c8 t ht)).root)];exact hv.2⟩
      obtain⟨hkind,Sz⟩:=hx R hr (bu c1)
      have K1:=H1.roots r R hr1
      have Mt:=H1.fE r R hr1.1
      have hfr:blk a_ R r=a_.fo r:=by simp[blk,aL,hkind]
      have sP:∀b∈a_.fo r,b∉F1:=λb hb=>H1.dU r R hr1 b (by rw[hfr];exact hb)
      have Ho:VC (.sl e kk) (a.eval x) (a_.hdr r):=by rw[hSr.hdr];exact ek▸Sz
      have Mc:Ow (hp w) R.own (aN cx (aF s.ws Z) a_ F1 w R.tags) (.sl e kk) xs [a.eval x] (a_.fo r):=by
       have:=vI (y:=xs) ek ey (K1.ow hv1)
       rw[Ho.1]at this
       exact this
      have ho1:ay e (eF R.own s.bad)=true:=oM.2 ⟨c5,gF.1 hbad⟩
      have ho2:∀t,ay t (eF R.own s.bad)=true->t∉s.bad:=λt ht=>(oM.1 ht).2
      have hnd:(a_.fo r).Nodup:=by rw[<-hfr];exact K1.nd
      obtain⟨fU,fd,hp0,qd⟩:=wS (own':=eF R.own s.bad) (λt _ hm=>(oM.1 hm).1) Mc
      obtain⟨az,je,f1,f2,f3,f4⟩:=hels (eF R.own s.bad) (λt _ ht=>ho2 t ht)
      have uE:∀b∈fU,b∈a_.fo r:=λb hb=>hp0.mem_iff.2 (bV _ hb)
      have hfd0:∀b∈fd,b∈a_.fo r:=λb hb=>hp0.mem_iff.2 (bG _ hb)
      have n0:=dJ.1 (hp0.nodup hnd)
      have n1:=dJ.1 f2
      have hlt:∀b∈a_.fo r,b<w.heap.size:=λb hb=>(K1.mine b (by rw[hfr];exact hb)).1
      have Ta:∀b∈F1,b<w.heap.size:=λb hb=>(H1.fl b hb).1
      have Tz:=Ae qd
      have hnot:∀b,(∃t∈s.bad,kT (hp w) b t)->b∉fU:=by
       rintro b ⟨t,h1,h2⟩ hb0
       obtain⟨e',_,h3,h4⟩:=Tz b hb0
       have h2:=H1.BZ (K1.mine b (by rw[hfr];exact uE b hb0)) h2
       rw[h2]at h4
       simp only[ak]at h4
       subst h4
       exact ho2 _ h3 h1
      let ok:Nat->Prop:=λb=>(aN cx (aF s.ws Z) a_ F1 w R.tags b\/b∈fd)\/(aN cx (aF s.ws Z) a_ F1 w s.tags b/\∃t∈s.bad,kT (hp w) b t)\/b∈je
      have hRr:∀b,aN cx (aF s.ws Z) a_ F1 w R.tags b->b∉a_.fo r:=by
       intro b hb hbr
       obtain⟨n,hn⟩:=hb.2.2.2.1 r R hr1 (by rw[hfr];exact hbr)
       exact Mt.2.2 n hn
      obtain⟨v',w',bH,hrun,hos,hsz,oG,hfo,xh,lX⟩:=ZR (w:=w) (ok:=ok) (u:=ut) (ty:=o.type) (x:=a.eval y) (az:=az) ht (dR (λ_ _=>rfl) (λb h=>.inl h) (λ_ _=>rfl) qd) ho1
       (dJ.2 ⟨n0.1,n1.1,λb1 h1 b2 h2 e=>sP b1 (uE b1 h1) (e▸(f3 b2 (bV _ h2)).1)⟩)
       (λb hb=>by
        rcases hb with(h|h)|h|h
        ·exact⟨λh0=>hRr b h (uE b h0),h.1⟩
        ·exact⟨λh0=>n0.2.2 b h0 b h rfl,hlt b (hfd0 b h)⟩
        ·exact⟨hnot b h.2,h.1.1⟩
        ·exact⟨λh0=>sP b (uE b h0) (f3 b (bG _ h)).1,Ta b (f3 b (bG _ h)).1⟩)
       (λb hb=>by
        rcases dh.1 hb with h|h
        ·exact hlt b (uE b h)
        ·exact Ta b (f3 b (bV _ h)).1)
       hS f1 (λi hi=>dR (λ_ _=>rfl) (λb h=>.inr h) (λ_ _=>rfl) (f4 i hi)) hb
      have ji:VC (.sl e kk) v' [v']:=⟨rfl,by
       have h5:=lX
       unfold Ow at h5
       rw[aj ho1]at h5
       obtain⟨b,n,c,e1,_⟩:=h5
       simp only[gW,eO]at e1
       rw[e1];simp⟩
      have apP:∀b,ok b->b∉bH/\b<w.heap.size:=by
       intro b hb
       have hlt':b<w.heap.size:=by
        rcases hb with(h|h)|h|h
        ·exact h.1
        ·exact hlt b (hfd0 b h)
        ·exact h.1.1
        ·exact Ta b (f3 b (bG _ h)).1
       refine⟨λhbf=>?_,hlt'⟩
       rcases hfo b hbf with h2|h2|h2
       ·rcases hb with(h|h)|h|h
        ·exact hRr b h (uE b h2)
        ·exact n0.2.2 b h2 b h rfl
        ·exact hnot b h.2 h2
        ·exact sP b (uE b h2) (f3 b (bG _ h)).1
       ·have hF:=(f3 b (bV _ h2)).1
        rcases hb with(h|h)|h|h
        ·exact h.2.1 hF
        ·exact sP b (hfd0 b h) hF
        ·exact h.1.2.1 hF
        ·exact n1.2.2 b h2 b h rfl
       ·omega
      have hnext:∀(j:Nat) (n:Nat),(gK j,n)∈s.tags->(gK j,n)∈kF (qN r s.tags) R.tags:=by
       intro j n hj
       refine kY.2 (.inl (xG.2 ⟨hj,λe=>?_⟩))
       have:=Mt.2.1
       rw[<-e]at this
       simp only at this
       rw[uG]at this
       simp at this
      obtain⟨k1,k2⟩:=axL (R':={ R with k:=.sl e kk,x:=xs++s.xs,own:=eF R.own s.bad,tags:=kF (qN r s.tags) R.tags,w:=e :: R.w,h:=jm :: e :: R.h,g:=R.g+1,keep:=R.keep||s.keep })
       (v':=v') (hdr':=[v']) (bH:=bH) (w':=w') H1 hr1 hv1 hkind hkind rfl rfl rfl ⟨rfl,rfl⟩ ⟨λt ht=>(kY.1 ht).elim (λh=>hwt t (xG.1 h).1) (Mt.1 t),λn hn=>(kY.1 hn).elim (λh=>(xG.1 h).2 rfl) (Mt.2.2 n)⟩
       hos hsz (λb h1 h2=>.inr ⟨uE b (oG b h1 h2).1,(oG b h1 h2).2⟩) (λb hb=>by
        rcases hfo b hb with h|h|h
        ·exact .inl (uE b h)
        ·exact .inr (.inl (f3 b (bV _ h)).1)
        ·exact .inr (.inr h)) xh rfl
       (dR (k:=.sl e kk) (λ_ _=>rfl) (λb hb=>by
        obtain⟨z1,z2⟩:=apP b hb
        refine⟨vH z2 hsz,by simp,?_,λq Q hq hbq=>?_,λh0=>?_⟩
        ·rcases hb with(h|h)|h|h
         ·exact h.2.2.1
         ·exact yN H1 hr1 (hfd0 b h)
         ·exact h.1.2.2.1
         ·exact zP H1 (f3 b (bG _ h)).1
        ·rcases uM hq with⟨rfl,rfl,_⟩|⟨eq,hq'⟩
         ·rw[qc]at hbq
          have hbq:b∈bH:=by simpa[iV,hkind]using hbq
          exact absurd hbq z1
         ·rw[(kR (J:=a_) (Z:=aF s.ws Z) (R:={ R with k:=.sl e kk,x:=xs++s.xs,own:=eF R.own s.bad,tags:=kF (qN r s.tags) R.tags,w:=e :: R.w,h:=jm :: e :: R.h,g:=R.g+1,keep:=R.keep||s.keep }) eq).blk]at hbq
          rcases hb with(h|h)|h|h
          ·exact(h.2.2.2.1 q Q hq' hbq).imp λn hn=>kY.2 (.inr hn)
          ·exact absurd hbq (H1.jr r R q Q hr1 hq' (Ne.symm eq) b (by rw[hfr];exact hfd0 b h))
          ·exact(h.1.2.2.2.1 q Q hq' hbq).imp λn hn=>kY.2 (.inl (xG.2 ⟨hn,eq⟩))
          ·exact absurd (f3 b (bG _ h)).1 (H1.dU q Q hq' b hbq)
        ·have jT:Ow.mine cx w b->(∃j n,(gK j,n)∈kF (qN r s.tags) R.tags/\cx.ext j b)\/∃j pi,cx.par j=some pi/\b∈pi.bl:=λhm=>by
          rcases hm.2 with h|⟨j,pi,h1,h2⟩
          ·omega
          ·exact .inr ⟨j,pi,h1,h2⟩
         rcases hb with(h|h)|h|h
         ·exact(h.2.2.2.2 h0).imp (λ⟨j,n,h1,h2⟩=>⟨j,n,kY.2 (.inr h1),h2⟩) id
         ·exact jT (K1.mine b (by rw[hfr];exact hfd0 b h))
         ·exact(h.1.2.2.2.2 h0).imp (λ⟨j,n,h1,h2⟩=>⟨j,n,hnext j n h1,h2⟩) id
         ·exact jT (H1.fl b (f3 b (bG _ h)).1)) (λ_ _=>rfl) lX) ji
      exact nR (x:=.one (.ref r (R.g+1))) k1 hd hdn (J8 ho hcb ha ht0 hu0 hrun) k2 ⟨_,fQ ..,.inr (bZ _)⟩
    ·exact h.elim
   |val _ _ _=>exact h.elim
   |undef=>exact h.elim
   |ptr _ _ _=>exact h.elim
   |fC _ _ _ _=>exact h.elim
   |kS _ _ _ _=>exact h.elim
   |nZ _=>exact h.elim
   |part _ _ _ _ _=>exact h.elim
   |l9 _ _ _ _=>exact h.elim
   |sub _ _ _ _ _ _=>exact h.elim
   |sel _ _ _ _ _ _=>exact h.elim
   |app _ _ _ _=>exact h.elim
   |iW=>exact h.elim
   |fn _ _=>exact h.elim
  |_=>exact h.elim
end
end
section
open Go
variable [Fr]
section
variable {P:Program}{T:bK}{cx:Cx}{Z:St}{J:aJ}{F:List Nat}{a:Act}{w:World}{o:Oper}{d:Nat}{ws:List Wr}
def w_(kk:K):List (Nat×dS)->pV kk->Option (pV kk)
 | [],b=>some b
 |(n,tk) :: l,b=>match b_ tk.k kk tk.x with
  |some y=>bif Nat.beq n (dL b.xs)then w_ kk l { xs:=b.xs++[y],bad:=tk.bad++b.bad,tags:=kF (tk.ig) b.tags,ws:=b.ws++tk.ws,keep:=tk.keep||b.keep,all:=tk.tags++b.all }else none
  |none=>none
theorem anQ{A:Type}{z:A}(H:Rel cx Z J F a w){kk:K}{k:pV kk->Prog A}:∀{l:List (Nat×AV)} {vs:List Value} {b:pV kk},h_ cx Z J F w (l.map (·.2)) vs->(∀v∈l,dK Z v.2)->(GQ kk l b k).ends Z z->
  ∃(tks:List dS) (b':pV kk),tks.length=l.length/\vs.length=l.length/\(∀it∈vs.zip tks,qa cx Z J F w it.1 it.2)/\w_ kk ((l.map (·.1)).zip tks) b=some b'/\(k b').ends Z z:=by
 intro l
 induction l with
 |nil=>
  intro vs b h1 _ h
  cases vs with
  |nil=>exact⟨[],b,rfl,rfl,by simp,rfl,h⟩
  |cons v vs=>exact h1.elim
 |cons p l ih=>
  obtain⟨n,x⟩:=p
  intro vs b h1 h2 h
  cases vs with
  |nil=>exact h1.elim
  |cons v vs=>
   simp only[GQ]at h
   obtain⟨tk,htk,h5⟩:=xP H h1.1 (h2 (n,x) (by simp)) h
   cases hc:b_ tk.k kk tk.x with
   |none=>rw[hc]at h5;exact h5.elim
   |some y=>
    rw[hc]at h5
    simp only at h5
    rcases bB h5 with⟨hn,h6⟩|⟨_,h6⟩
    ·obtain⟨tks,b',g1,g2,g3,g4,g5⟩:=ih h1.2 (λv hv=>h2 v (by simp[hv])) h6
     refine⟨tk :: tks,b',by simp[g1],by simp[g2],?_,?_,g5⟩
     ·intro it hit
      rw[Ac]at hit
      rcases bM.1 hit with h|h
      ·subst h;exact htk
      ·exact g3 it h
     ·rw[jo,Ac]
      unfold w_
      simp only[hc,hn,fT]
      exact g4
    ·exact h6.elim
theorem anP{kk:K}:∀(l:List (Nat×dS)) {b b':pV kk},w_ kk l b=some b'->
  b'.ws=b.ws++l.flatMap (λp=>p.2.ws)/\(∀p∈l,∀t∈p.2.tags,t∈b'.all)/\(∀p∈l,∀t∈p.2.bad,t∈b'.bad)/\(∀t∈b.bad,t∈b'.bad)/\
  (∀p∈l,∀t∈p.2.ig,t∈b'.tags)/\(∀t∈b.tags,t∈b'.tags)/\(∀t∈b'.tags,t∈b.tags\/∃p∈l,t∈p.2.ig)/\(∀t∈b.all,t∈b'.all)/\b'.xs.length=b.xs.length+l.length:=by
 intro l
 induction l with
 |nil=>
  intro b b' h
  simp only[w_,ak]at h
  subst h
  simp
 |cons p l ih=>
  obtain⟨n,tk⟩:=p
  intro b b' h
  unfold w_ at h
  cases hc:b_ tk.k kk tk.x with
  |none=>rw[hc]at h;simp at h
  |some y=>
   rw[hc]at h
   simp only at h
   cases hn:Nat.beq n (dL b.xs)with
   |false=>rw[hn]at h;simp at h
   |true=>
    rw[hn]at h
    simp only[fT]at h
    obtain⟨g1,g2,g3,g4,g5,g6,g7,g8,g9⟩:=ih h
    refine⟨by rw[g1];simp,?_,?_,λt ht=>g4 t (by simp[ht]),?_,λt ht=>g6 t (kY.2 (.inr ht)),?_,λt ht=>g8 t (by simp[ht]),by rw[g9];simp;omega⟩
    ·intro p hp t ht
     rcases bM.1 hp with h|h
     ·subst h;exact g8 t (by simp[ht])
     ·exact g2 p h t ht
    ·intro p hp t ht
     rcases bM.1 hp with h|h
     ·subst h;exact g4 t (by simp[ht])
     ·exact g3 p h t ht
    ·intro p hp t ht
     rcases bM.1 hp with h|h
     ·subst h;exact g6 t (kY.2 (.inl ht))
     ·exact g5 p h t ht
    ·intro t ht
     rcases g7 t ht with h|⟨p,h1,h2⟩
     ·rcases kY.1 h with h|h
      ·exact .inr ⟨(n,tk),by simp,h⟩
      ·exact .inl h
     ·exact .inr ⟨p,by simp[h1],h2⟩
theorem anO{h:Heap}{own:List TypeId}{ok:Nat->Prop}{kk:K}{N:Nat} :
  ∀(l:List (Nat×dS)) {vs:List Value} {gU:List (List Nat)} {b b':pV kk} {cells:Array Value} {az:List (List Nat)},b.xs.length+l.length<=N->cells.size=N*kk.size->az.length=b.xs.length->
   (∀i (hi:i<b.xs.length),Ow h own ok kk b.xs[i] (gP cells.toList kk.size i) (az.getD i []))->yh h own ok l vs gU->w_ kk l b=some b'->
   ∃cells',Instr.fill (λi=>some (i*kk.size,kk.size)) cells ((l.map (·.1)).zip vs)=some cells'/\cells'.size=N*kk.size/\(az++gU).length=b'.xs.length/\
    ∀i (hi:i<b'.xs.length),Ow h own ok kk b'.xs[i] (gP cells'.toList kk.size i) ((az++gU).getD i []):=by
 intro l
 induction l with
 |nil=>
  intro vs gU b b' cells az hN hs hf hO hP hb
  cases vs with
  |nil=>
   cases gU with
   |nil=>
    simp only[w_,ak]at hb
    subst hb
    exact⟨cells,rfl,hs,by simpa using hf,by simpa using hO⟩
   |cons f fs=>exact hP.elim
  |cons v vs=>cases gU<;>exact hP.elim
 |cons p l ih=>
  obtain⟨n,tk⟩:=p
  intro vs gU b b' cells az hN hs hf hO hP hb
  cases vs with
  |nil=>cases gU<;>exact hP.elim
  |cons v vs=>
   cases gU with
   |nil=>exact hP.elim
   |cons ft gU=>
    obtain⟨⟨cst,hv,Hg⟩,hP'⟩:=hP
    unfold w_ at hb
    cases hc:b_ tk.k kk tk.x with
    |none=>rw[hc]at hb;simp at hb
    |some y=>
     rw[hc]at hb
     simp only at hb
     cases hn:Nat.beq n (dL b.xs)with
     |false=>rw[hn]at hb;simp at hb
     |true=>
      rw[hn]at hb
      simp only[fT]at hb
      have en:n=b.xs.length:=by rw[bu hn,oL]
      subst en
      obtain⟨ek,ey⟩:=iJ hc
      have hOy:Ow h own ok kk y cst ft:=vI ek ey Hg
      have hcl:cst.length=kk.size:=eY hOy
      have jF:v.cells=cst.toArray:=by
       have:=hv.cells
       apply rW
       simpa using this
      simp only[iy]at hN
      have hle:(b.xs.length+1)*kk.size<=N*kk.size:=jP _ (by omega)
      rw[iB,lT]at hle
      have hoff:b.xs.length*kk.size+cst.length<=cells.size:=by rw[hs,hcl];exact hle
      rw[jo,Ac,Sd (place:=λi=>some (i*kk.size,kk.size)) (off:=b.xs.length*kk.size) (vs:=cst) (by simp[hcl]) jF hoff]
      have hsz:(cells.toList.take (b.xs.length*kk.size)++(cst++cells.toList.drop (b.xs.length*kk.size+cst.length))).toArray.size=N*kk.size:=by
       simp
       omega
      obtain⟨cells',g1,g2,g3,g4⟩:=ih (az:=az++[ft]) (b:={ xs:=b.xs++[y],bad:=tk.bad++b.bad,tags:=kF (tk.ig) b.tags,ws:=b.ws++tk.ws,keep:=tk.keep||b.keep,all:=tk.tags++b.all }) (by simp;omega) hsz (by simp[hf]) (by
       intro i hi
       simp only[dI,iy,iF,jq]at hi
       rw[G8]
       by_cases h0:i<b.xs.length
       ·rw[aj (by rw[hf];exact h0)]
        have e1:(b.xs++[y])[i]'(by simp;omega)=b.xs[i]:=CK h0
        show Ow h own ok kk ((b.xs++[y])[i]'(by simp;omega)) _ _
        rw[e1]
        have e2:gP (cells.toList.take (b.xs.length*kk.size)++(cst++cells.toList.drop (b.xs.length*kk.size+cst.length))) kk.size i=gP cells.toList kk.size i:=by
         have hl2:(i+1)*kk.size<=b.xs.length*kk.size:=jP _ (by omega)
         rw[iB,lT]at hl2
         apply Gj
         intro j
         by_cases hj:j<kk.size
         ·rw[qW hj,qW hj,vE (by simp;omega),Gl (by omega)]
         ·unfold gP
          rw[pY (by simp;omega),pY (by simp;omega)]
        simp only
        rw[e2]
        exact hO i h0
       ·have:i=b.xs.length:=by omega
        subst this
        rw[ah (by omega),hf,Ad]
        have e1:(b.xs++[y])[b.xs.length]'(by simp)=y:=by simp
        show Ow h own ok kk ((b.xs++[y])[b.xs.length]'(by simp)) _ _
        rw[e1]
        have e2:gP (cells.toList.take (b.xs.length*kk.size)++(cst++cells.toList.drop (b.xs.length*kk.size+cst.length))) kk.size b.xs.length=cst:=by
         have hl:(cells.toList.take (b.xs.length*kk.size)).length=b.xs.length*kk.size:=by simp;omega
         unfold gP
         conv=>lhs;arg 2;arg 1;rw[<-hl]
         rw[List.drop_left,<-hcl,List.take_left]
        simp only
        rw[e2]
        exact hOy) hP' hb
      refine⟨cells',g1,g2,?_,?_⟩
      ·rw[<-g3];simp
      ·intro i hi
       have:=g4 i hi
       simp only[eG,gX,iA]at this
       exact this
end
end
end Go.Proofs.YtgppmpedglhhfaaGreatDoor.Ow
