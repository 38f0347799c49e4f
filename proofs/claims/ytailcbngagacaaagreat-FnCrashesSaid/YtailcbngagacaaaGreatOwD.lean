/- A verified reading of translated code, part D of 7. No condition. -/
import Derived.Test.YtailcbngagacaaaGreatOwC
set_option linter.unusedSectionVars false
set_option linter.unusedVariables false
set_option linter.unusedSimpArgs false
namespace Go.Proofs.YtailcbngagacaaaGreat.Ow
section
open Go
variable [Fr]
def iB (news:List Value) (s i:Nat):List Value:=(news.drop (i * s)).take s
theorem xz {news:List Value} {s i m:Nat} (h:news.length=m * s) (hi:i<m):(iB news s i).length=s:=by
 unfold iB
 have:(i+1) * s<=m * s:=kD _ hi
 rw [iR,m_] at this
 simp
 omega
theorem sM {news:List Value} {s i j:Nat} (hj:j<s):(iB news s i)[j]?=news[i * s+j]?:=by
 unfold iB
 rw [Ma,aj hj,Bw]
theorem IG {ay pY:List (List Nat)} {i:Nat}:(ay++pY).getD i []=if i<ay.length then ay.getD i [] else pY.getD (i - ay.length) []:=by
 simp only [ig,List.getElem?_append]
 split <;> rfl
section
variable {P:Program} {T:bH} {w:World}
theorem XH {t u ty e:TypeId} {kk:K} (ht:dn P T t (.sl e kk)) {own:List TypeId} {ok:Nat->Prop} {gX iL:List (El kk)} {v0 x:Value} {gQ:List Nat} {ay:List (List Nat)} {news:List Value}
  (hO:Ow (hp w) own ok (.sl e kk) gX [v0] gQ) (hown:aa e own=true) (hnd:(gQ++ay.flatten).Nodup) (hok:∀b,ok b->b∉gQ/\b<w.heap.size) (hlt:∀b∈gQ++ay.flatten,b<w.heap.size)
  (hS:Src P w kk.size u x iL.length news) (hfl:ay.length=iL.length) (hel:∀i (hi:i<iL.length),Ow (hp w) own ok kk iL[i] (iB news kk.size i) (ay.getD i []))
  (hb:(gX.length+iL.length) * T.bytes e<=140737488355328) :
  ∃v' w' aF,(Builtin.append_ #[t,u] ty #[v0,x]).run P w=.ok v' w'/\(w'.os=w.os/\w'.tape=w.tape/\w'.output=w.output)/\w.heap.size<=w'.heap.size/\
   (∀b,b<w.heap.size->hp w' b≠hp w b->b∈gQ/\jS (hp w) b=some e)/\(∀b∈aF,b∈gQ\/b∈ay.flatten\/(w.heap.size<=b/\b<w'.heap.size))/\aF.Nodup/\
   Ow (hp w') own ok (.sl e kk) (gX++iL) [v'] aF:=by
 have hsz:0<kk.size:=ht.sl.2.2.1
 have hnl:=hS.nl
 unfold Ow at hO
 rw [aj hown] at hO
 obtain ⟨a,n,c,e1,e2,e3,hO⟩:=hO
 simp only [jw,eX] at e1
 subst e1
 have e2':n=gX.length:=e2
 have hnd':=cK.1 hnd
 by_cases hr:n+iL.length<=c
 ·have hrun:=Ob (ty:=ty) ht hS (b:=a) (n:=n) hr
  rcases hO with ⟨hc0,hf0⟩ | ⟨b,o,arr,lo,hi,ea,hbk,hf,hs,mU,hl0,hp0,hO⟩
  ·have hx1:iL=[]:=sW (by omega)
   have hx0:gX=[]:=sW (by omega)
   subst hx1
   subst hx0
   have hnews:news=[]:=sW (by simpa using hnl)
   subst hnews
   have hn0:n=0:=by simpa using e2'
   subst hn0
   subst hc0
   have:(Builtin.append_ #[t,u] ty #[.slice a 0 0,x]).run P w=.ok (.slice a 0 0) w:=by
    rw [hrun]
    cases a <;> rfl
   exact ⟨_,w,[],this,⟨rfl,rfl,rfl⟩,bN _,fun b _ h=>absurd rfl h,fun b hb=>by simp at hb,mJ,FC⟩
  ·subst ea
   have hle:(n+iL.length) * kk.size<=c * kk.size:=kD _ hr
   rw [iR] at hle
   have hst:=JX (P:=P) (o:=o+n * kk.size) news hbk hf (by rw [hnl]; omega) hS.one
   simp only [Result.andThen,addr_add,hst] at hrun
   obtain ⟨s1,s2,gG,s3,s4,s5,s6⟩:=FX b news w arr e (lo,hi) (o+n * kk.size) hbk (by rw [hnl]; omega)
   have s7:=FY b news w (o+n * kk.size)
   have hb0:b∈gQ:=hp0.mem_iff.2 (by simp)
   have kK:=hp0.nodup hnd'.1
   have hne:∀b'∈mU.flatten++ay.flatten,b'≠b:=by
    intro b' hb' e
    subst e
    rcases bW.1 hb' with h | h
    ·exact (jg.1 kK).1 h
    ·exact hnd'.2.2 b' hb0 b' h rfl
   have ZF:∀b',ok b'->hp (w.setCells b (o+n * kk.size) news) b'=hp w b':=fun b' h=>s1 b' (fun e=>(hok b' h).1 (e▸hb0))
   refine ⟨_,_,b :: (mU.flatten++ay.flatten),hrun,s7,by omega, ?_, ?_, ?_, ?_⟩
   ·intro b' _ hne'
    by_cases e:b'=b
    ·subst e; exact ⟨hb0,by unfold jS; rw [hbk]⟩
    ·exact absurd (s1 b' e) hne'
   ·intro b' hb'
    rcases bT.1 hb' with h | h
    ·subst h; exact .inl hb0
    ·rcases bW.1 h with h | h
     ·exact .inl (hp0.mem_iff.2 (by simp [h]))
     ·exact .inr (.inl h)
   ·refine jg.2 ⟨fun h=>hne b h rfl,cK.2 ⟨(jg.1 kK).2,hnd'.2.1,fun b1 h1 b2 h2 e=>hnd'.2.2 b1 (hp0.mem_iff.2 (by simp [h1])) b2 h2 e⟩⟩
   ·unfold Ow
    rw [aj hown]
    refine ⟨_,_,_,rfl,by simp [e2'],hr, .inr ⟨b,o,gG,lo,hi,rfl,s3,by rw [s4]; exact hf,by rw [s4]; exact hs,mU++ay,by simp [hl0,hfl],by simp,fun i hi=>?_⟩⟩
    have hi':i<gX.length+iL.length:=by simpa using hi
    rw [IG]
    by_cases hi0:i<gX.length
    ·obtain ⟨ds,h1,h2⟩:=hO i hi0
     have akk:i<mU.length:=by rw [hl0]; exact hi0
     rw [aj akk]
     have hx:(gX++iL)[i]'hi=gX[i]:=Bz hi0
     refine ⟨ds,fun j hj=>?_, ?_⟩
     ·have hdl:=fM h2
      have hlt2:(i+1) * kk.size<=n * kk.size:=kD _ (by omega)
      rw [iR,m_] at hlt2
      have:=h1 j hj
      unfold cellAt at this ⊢
      rw [hbk] at this
      rw [s3]
      simp only at this ⊢
      rw [s6 _ (by rw [hnl]; omega)]
      exact this
     ·show Ow _ own ok kk ((gX++iL)[i]'hi) ds _
      rw [hx]
      exact dY ZF (fun _ h=>h) (fun b' hb'=>s1 b' (hne b' (bK _ (vW hb')))) h2
    ·have hi1:i - gX.length<iL.length:=by omega
     rw [aA (by rw [hl0]; exact hi0)]
     have hx:(gX++iL)[i]'hi=iL[i - gX.length]:=Md (by omega)
     have hfe:i - mU.length=i - gX.length:=by rw [hl0]
     rw [hfe]
     refine ⟨iB news kk.size (i - gX.length),fun j hj=>?_, ?_⟩
     ·rw [xz hnl hi1] at hj
      unfold cellAt
      rw [s3,sM hj]
      simp only
      have e4:o+i * kk.size+j=o+n * kk.size+((i - gX.length) * kk.size+j):=by
       have:i * kk.size=n * kk.size+(i - gX.length) * kk.size:=by rw [<-iR]; congr 1; omega
       omega
      rw [e4]
      refine s5 _ ?_
      rw [hnl]
      have:(i - gX.length+1) * kk.size<=iL.length * kk.size:=kD _ hi1
      rw [iR,m_] at this
      omega
     ·show Ow _ own ok kk ((gX++iL)[i]'hi) _ _
      rw [hx]
      exact dY ZF (fun _ h=>h) (fun b' hb'=>s1 b' (hne b' (bB _ (vW hb')))) (hel _ hi1)
 ·
  obtain ⟨olds,ho1,ho2,mU,hl0,hf0,M7⟩:∃olds,olds.length=n * kk.size/\(Builtin.firstCells kk.size n (.slice a n c)).run P w.drew=.ok olds.toArray w.drew/\∃mU:List (List Nat),mU.length=gX.length/\((∀b∈mU.flatten,b∈gQ)/\mU.flatten.Nodup)/\
    ∀i (hi:i<gX.length),Ow (hp w) own ok kk gX[i] (iB olds kk.size i) (mU.getD i []):=by
   rcases hO with ⟨hc0,hf0⟩ | ⟨b,o,arr,lo,hi,ea,hbk,hf,hs,mU,hl0,hp0,hO⟩
   ·have hx0:gX=[]:=sW (by omega)
    subst hx0
    have hn0:n=0:=by simpa using e2'
    subst hn0
    refine ⟨[],by simp, ?_,[],rfl,⟨by simp,by simp⟩,fun i hi=>by simp at hi⟩
    cases a with
    | none=>exact Uk w.drew kk.size 0 0 c
    | some ad=>exact De (P:=P) w.drew kk.size 0 ad 0 c [] (by simp) (fun j v hj=>by simp at hj)
   ·subst ea
    have hle:n * kk.size<=c * kk.size:=kD _ e3
    have hrow:=Gf (n:=n * kk.size) hbk (by omega:o+n * kk.size<=arr.size)
    have hrl:(iY (hp w) b o (n * kk.size)).length=n * kk.size:=by simp [iY]
    have kK:=hp0.nodup hnd'.1
    refine ⟨iY (hp w) b o (n * kk.size),hrl, ?_,mU,hl0,⟨fun b' hb'=>hp0.mem_iff.2 (by simp [hb']),(jg.1 kK).2⟩,fun i hi=>?_⟩
    ·refine De (P:=P) w.drew kk.size n ⟨b,o,none⟩ n c _ hrl (fun j v hj=>?_)
     rw [addr_add,zI]
     have:=hrow j (by rw [hrl]; have:=(qm.1 hj).1; rw [hrl] at this; exact this)
     rw [hj] at this
     exact this
    ·obtain ⟨ds,h1,h2⟩:=hO i hi
     have hdl:=fM h2
     have:iB (iY (hp w) b o (n * kk.size)) kk.size i=ds:=by
      apply HY
      intro j
      by_cases hj:j<kk.size
      ·rw [sM hj]
       have hlt2:(i+1) * kk.size<=n * kk.size:=kD _ (by omega)
       rw [iR,m_] at hlt2
       rw [<-hrow _ (by rw [hrl]; omega), <-nM]
       exact h1 j (by omega)
      ·rw [uE (by rw [xz hrl (by omega)]; omega),uE (by omega)]
     rw [this]
     exact h2
  obtain ⟨nc,hnc,hrun⟩:=Uj (ty:=ty) ht hS ho2 hr (by rw [e2']; exact hb)
  have hnew:=ET w.drew (.cells (olds.toArray++news.toArray++Builtin.zeroCells (jC kk).cells (nc - (n+iL.length))) e)
  have hold:∀b',b'<w.heap.size->hp (w.drew.alloc (.cells (olds.toArray++news.toArray++Builtin.zeroCells (jC kk).cells (nc - (n+iL.length))) e)) b'=hp w b':=fun b' h=>CE w.drew _ h
  have hws:w.drew.heap.size=w.heap.size:=rfl
  rw [hws] at hnew
  have hsz2:(w.drew.alloc (.cells (olds.toArray++news.toArray++Builtin.zeroCells (jC kk).cells (nc - (n+iL.length))) e)).heap.size=w.heap.size+1:=Array.size_push ..
  have hzl:(jC kk).cells.size=kk.size:=by
   rw [Ga ht.sl.2.1.shape]
   simpa using fM (Dl (h:=hp w) (own:=own) (ok:=ok) ht.sl.2.1.fV)
  have hall:∀b'∈mU.flatten++ay.flatten,b'<w.heap.size:=by
   intro b' hb'
   rcases bW.1 hb' with h | h
   ·exact hlt b' (bK _ (hf0.1 b' h))
   ·exact hlt b' (bB _ h)
  refine ⟨_,_,w.heap.size :: (mU.flatten++ay.flatten),hrun,⟨rfl,rfl,rfl⟩,by omega,fun b' hb' hne=>absurd (hold b' hb') hne, ?_, ?_, ?_⟩
  ·intro b' hb'
   rcases bT.1 hb' with h | h
   ·subst h; exact .inr (.inr ⟨bN _,by omega⟩)
   ·rcases bW.1 h with h | h
    ·exact .inl (hf0.1 b' h)
    ·exact .inr (.inl h)
  ·refine jg.2 ⟨fun h=>by have:=hall _ h; omega,cK.2 ⟨hf0.2,hnd'.2.1,fun b1 h1 b2 h2 e=>hnd'.2.2 b1 (hf0.1 b1 h1) b2 h2 e⟩⟩
  ·unfold Ow
   rw [aj hown]
   refine ⟨_,_,_,rfl,by simp [e2'],hnc, .inr ⟨w.heap.size,0,_,0,0,rfl,hnew,jq.zero, ?_,mU++ay,by simp [hl0,hfl],by simp,fun i hi=>?_⟩⟩
   ·simp only [Array.size_append,D5,size_zeroCells,hzl,ho1,hnl, <-iR]
    have:n+iL.length+(nc - (n+iL.length))=nc:=by omega
    rw [this]
    omega
   have hi':i<gX.length+iL.length:=by simpa using hi
   rw [IG]
   have hcell:∀q,q<(olds++news).length->cellAt (hp (w.drew.alloc (.cells (olds.toArray++news.toArray++Builtin.zeroCells (jC kk).cells (nc - (n+iL.length))) e))) w.heap.size (0+q)=(olds++news)[q]?:=by
    intro q hq
    unfold cellAt
    rw [hnew]
    simp only [om]
    rw [OA (by simpa using hq)]
    simp
   by_cases hi0:i<gX.length
   ·rw [aj (by rw [hl0]; exact hi0)]
    have hx:(gX++iL)[i]'hi=gX[i]:=Bz hi0
    refine ⟨iB olds kk.size i,fun j hj=>?_, ?_⟩
    ·rw [xz ho1 (by omega)] at hj
     have hlt2:(i+1) * kk.size<=n * kk.size:=kD _ (by omega)
     rw [iR,m_] at hlt2
     rw [nM,hcell _ (by rw [bV,ho1]; omega),y9 (by rw [ho1]; omega),sM hj]
    ·show Ow _ own ok kk ((gX++iL)[i]'hi) _ _
     rw [hx]
     exact dY (fun b' h=>hold b' (hok b' h).2) (fun _ h=>h) (fun b' hb'=>hold b' (hall b' (bK _ (vW hb')))) (M7 i hi0)
   ·have hi1:i - gX.length<iL.length:=by omega
    rw [aA (by rw [hl0]; exact hi0)]
    have hx:(gX++iL)[i]'hi=iL[i - gX.length]:=Md (by omega)
    have hfe:i - mU.length=i - gX.length:=by rw [hl0]
    rw [hfe]
    refine ⟨iB news kk.size (i - gX.length),fun j hj=>?_, ?_⟩
    ·rw [xz hnl hi1] at hj
     have hlt2:(i - gX.length+1) * kk.size<=iL.length * kk.size:=kD _ hi1
     rw [iR,m_] at hlt2
     have e4:i * kk.size=n * kk.size+(i - gX.length) * kk.size:=by rw [<-iR]; congr 1; omega
     rw [nM,hcell _ (by rw [bV,ho1,hnl]; omega),xQ (by rw [ho1]; omega),sM hj]
     congr 1
     rw [ho1]
     omega
    ·show Ow _ own ok kk ((gX++iL)[i]'hi) _ _
     rw [hx]
     exact dY (fun b' h=>hold b' (hok b' h).2) (fun _ h=>h) (fun b' hb'=>hold b' (hall b' (bB _ (vW hb')))) (hel _ hi1)
end
end
section
open Go
variable [Fr]
section
variable {P:Program} {T:bH} {cx:Cx} {Z:St} {J:aH} {F:List Nat} {a:Act} {w:World}
theorem agR {k l:K} (e:k=l) {x:El k} {y:El l} (ey:y=e▸x) {h:Heap} {ok:Nat->Prop} {cs:List Value} (H:Vw h ok k x cs):Vw h ok l y cs:=by subst e; subst ey; exact H
theorem wS {k l:K} (e:k=l) {x:El k} {y:El l} (ey:y=e▸x) {h:Heap} {own:List TypeId} {ok:Nat->Prop} {cs:List Value} {fo:List Nat} (H:Ow h own ok k x cs fo):Ow h own ok l y cs fo:=by subst e; subst ey; exact H
theorem Uh {u:TypeId} {size n c bb q:Nat} (hu:(∃e',P.underlying u=some (.slice e'))\/P.underlying u=some .string) (Q:Nat->List Value->Prop)
  (hE:∀i,i<n->∃ds,ds.length=size/\Cells (hp w) bb (q+i * size) ds/\(∀v∈ds,v.oneCell'=true)/\Q i ds) :
  ∃news,Src P w size u (.slice (some ⟨bb,q,none⟩) n c) n news/\∀i,i<n->Q i (iB news size i):=by
 have hrl:(iY (hp w) bb q (n * size)).length=n * size:=by simp [iY]
 have hseg:∀i,i<n->∃ds,iB (iY (hp w) bb q (n * size)) size i=ds/\ds.length=size/\Cells (hp w) bb (q+i * size) ds/\(∀v∈ds,v.oneCell'=true)/\Q i ds:=by
  intro i hi
  obtain ⟨ds,hdl,h1,h2,h3⟩:=hE i hi
  refine ⟨ds, ?_,hdl,h1,h2,h3⟩
  apply HY
  intro j
  by_cases hj:j<size
  ·rw [sM hj]
   have hlt2:(i+1) * size<=n * size:=kD _ (by omega)
   rw [iR,m_] at hlt2
   unfold iY
   rw [DZ,L_ (by omega)]
   have:=h1 j (by omega)
   simp only [oU]
   rw [<-nM,this,jd (by omega)]
   rfl
  ·rw [uE (by rw [xz hrl hi]; omega),uE (by omega)]
 have hcell:∀j,j<n * size->cellAt (hp w) bb (q+j)=(iY (hp w) bb q (n * size))[j]?/\∀v,(iY (hp w) bb q (n * size))[j]?=some v->v.oneCell'=true:=by
  intro j hj
  have hk:0<size:=by
   rcases Nat.eq_zero_or_pos size with h | h
   ·rw [h] at hj; omega
   ·exact h
  have hi:j / size<n:=Nat.div_lt_of_lt_mul (by rw [Nat.mul_comm]; exact hj)
  have hm:j % size<size:=Nat.mod_lt _ hk
  obtain ⟨ds,s1,hdl,s2,s3,_⟩:=hseg _ hi
  have hjj:j / size * size+j % size=j:=by rw [Nat.mul_comm]; exact Nat.div_add_mod j size
  have h1:(iY (hp w) bb q (n * size))[j]?=ds[j % size]?:=by
   rw [<-s1,sM hm,hjj]
  have h2:=s2 (j % size) (by omega)
  rw [nM,hjj] at h2
  refine ⟨by rw [h2,h1],fun v hv=>?_⟩
  rw [h1] at hv
  exact s3 v (qo hv)
 refine ⟨iY (hp w) bb q (n * size),J7 hu hrl (fun v hv=>?_) (fun _=>⟨bb,q,rfl,fun i hi=>(hcell i (by rw [hrl] at hi; exact hi)).1⟩),fun i hi=>?_⟩
 ·obtain ⟨j,hj,rfl⟩:=sZ.1 hv
  exact (hcell j (by rw [hrl] at hj; exact hj)).2 _ (jd hj)
 ·obtain ⟨ds,s1,_,_,_,s3⟩:=hseg i hi
  rw [s1]
  exact s3
theorem Ox {u e:TypeId} {kk:K} {h:Heap} {ok:Nat->Prop} {xs:List (El kk)} {v:Value} {cs:List Value} (hu:(∃e',P.underlying u=some (.slice e'))\/P.underlying u=some .string) (hg:fV kk=true)
  (hh:h=hp w) (hv:VC (.sl e kk) v cs) (hV:Vw h ok (.sl e kk) xs cs) :
  ∃news,Src P w kk.size u v xs.length news/\∀i (hi:i<xs.length),Vw h ok kk xs[i] (iB news kk.size i):=by
 subst hh
 obtain ⟨b,n,c,e1,e2,e3,e4,e5⟩:=Df hv hV
 subst e1
 subst e3
 by_cases h0:0<xs.length
 ·obtain ⟨bb,q,eb,hok,hel,hE⟩:=e5 h0
  subst eb
  obtain ⟨news,g1,g2⟩:=Uh (P:=P) (w:=w) (n:=xs.length) (c:=c) (bb:=bb) (q:=q) hu (fun i ds=>∀hi:i<xs.length,Vw (hp w) ok kk xs[i] ds) (fun i hi=>by
   obtain ⟨ds,h1,h2⟩:=hE i hi
   exact ⟨ds,nO h2,h1,Mv hg h2,fun _=>h2⟩)
  exact ⟨news,g1,fun i hi=>g2 i hi hi⟩
 ·have hx:xs=[]:=sW (by omega)
  subst hx
  exact ⟨[],J7 hu (by simp) (by simp) (fun h=>by simp at h),fun i hi=>by simp at hi⟩
theorem aa6 {u e:TypeId} {kk:K} {own:List TypeId} {ok:Nat->Prop} {xs:List (El kk)} {v:Value} {cs:List Value} {fo:List Nat} (hu:(∃e',P.underlying u=some (.slice e'))\/P.underlying u=some .string) (hg:fV kk=true)
  (hv:VC (.sl e kk) v cs) (hown:aa e own=true) (hO:Ow (hp w) own ok (.sl e kk) xs cs fo) (hnd:fo.Nodup) :
  ∃news,Src P w kk.size u v xs.length news/\∃ay:List (List Nat),ay.length=xs.length/\ay.flatten.Nodup/\(∀b∈ay.flatten,b∈fo)/\∀i (hi:i<xs.length),Ow (hp w) own ok kk xs[i] (iB news kk.size i) (ay.getD i []):=by
 unfold Ow at hO
 rw [aj hown] at hO
 obtain ⟨b,n,c,e1,e2,e3,hO⟩:=hO
 obtain ⟨e5,_⟩:cs=[v]/\_:=hv
 rw [e1] at e5
 simp only [jw,eX] at e5
 subst e5
 have e2':n=xs.length:=e2
 subst e2'
 rcases hO with ⟨hc0,hf0⟩ | ⟨bb,q,arr,lo,hi,ea,hbk,hf,hs,mU,hl0,hp0,hO⟩
 ·have hx:xs=[]:=sW (by omega)
  subst hx
  exact ⟨[],J7 hu (by simp) (by simp) (fun h=>by simp at h),[],rfl,by simp,by simp,fun i hi=>by simp at hi⟩
 ·subst ea
  have kK:=hp0.nodup hnd
  obtain ⟨news,g1,g2⟩:=Uh (P:=P) (w:=w) (n:=xs.length) (c:=c) (bb:=bb) (q:=q) hu (fun i ds=>∀hi:i<xs.length,Ow (hp w) own ok kk xs[i] ds (mU.getD i [])) (fun i hi=>by
   obtain ⟨ds,h1,h2⟩:=hO i hi
   exact ⟨ds,fM h2,h1,Mq hg h2,fun _=>h2⟩)
  exact ⟨news,g1,mU,hl0,(jg.1 kK).2,fun b hb=>hp0.mem_iff.2 (by simp [hb]),fun i hi=>g2 i hi hi⟩
theorem aiQ {kk:K} {own own':List TypeId} {ok:Nat->Prop} {xs:List (El kk)} {news:List Value} {ay:List (List Nat)} (hfl:ay.length=xs.length) (hnd:ay.flatten.Nodup) (hsub:∀t∈kk.tys,aa t own'=true->aa t own=true)
  (hel:∀i (hi:i<xs.length),Ow (hp w) own ok kk xs[i] (iB news kk.size i) (ay.getD i [])) :
  ∃(pY:List (List Nat)) (jH:List Nat),pY.length=xs.length/\(pY.flatten++jH).Nodup/\(∀b∈pY.flatten++jH,b∈ay.flatten)/\
   ∀i (hi:i<xs.length),Ow (hp w) own' (fun b=>ok b\/b∈jH) kk xs[i] (iB news kk.size i) (pY.getD i []):=by
 suffices hs:∀(n:Nat),n<=xs.length->∃(pY:List (List Nat)) (jH:List Nat),pY.length=n/\(ay.take n).flatten.Perm (pY.flatten++jH)/\
   ∀i (_:i<n) (hi:i<xs.length),Ow (hp w) own' (fun b=>ok b\/b∈jH) kk xs[i] (iB news kk.size i) (pY.getD i []) by
  obtain ⟨pY,jH,h1,h2,h3⟩:=hs xs.length (bN _)
  rw [BD (by omega)] at h2
  exact ⟨pY,jH,h1,h2.nodup hnd,fun b hb=>h2.mem_iff.2 hb,fun i hi=>h3 i hi hi⟩
 intro n
 induction n with
 | zero=>intro _; exact ⟨[],[],rfl,by simp,fun i hi=>by omega⟩
 | succ n ih=>
  intro hn
  obtain ⟨pY,jH,h1,h2,h3⟩:=ih (by omega)
  obtain ⟨f1,f2,p1,p2⟩:=xU (own':=own') hsub (hel n (by omega))
  refine ⟨pY++[f1],jH++f2,by simp [h1], ?_,fun i hi hi'=>?_⟩
  ·rw [Mh (by omega),HZ]
   have e:[ay[n]'(by omega)].flatten=ay.getD n []:=by rw [oH (show n<ay.length by omega)]; simp
   rw [e]
   refine (h2.append p1).trans ?_
   simp only [HZ,gD]
   refine vo _ ?_
   simp only [lV,Bv,h_]
   exact FL
  ·rw [IG,h1]
   by_cases h:i<n
   ·rw [aj h]
    exact dY (fun _ _=>rfl) (fun b hb=>hb.imp id (fun h=>by simp [h])) (fun _ _=>rfl) (h3 i h hi')
   ·have:i=n:=by omega
    subst this
    rw [aA (by omega)]
    simp only [H7]
    exact dY (fun _ _=>rfl) (fun b hb=>hb.imp id (fun h=>by simp [h])) (fun _ _=>rfl) p2
def iT (P:Program) (cx:Cx) (Z:St) (J:aH) (F:List Nat) (a:Act) (w:World) (u e:TypeId) (kk:K) (v:Value) (s:qN kk):Prop:=
 ∃aI F1 news,Rel cx (aC s.ws Z) aI F1 a w/\(∀q,q∉s.ws.flatMap Wr.eT->Same Z J (aC s.ws Z) aI q)/\(aC s.ws Z).slots=Z.slots/\(∀q,Z.roots q=none->(aC s.ws Z).roots q=none)/\(∀b∈F,b∈F1)/\
  gB (aC s.ws Z) s.tags/\Src P w kk.size u v s.xs.length news/\
  ∀own',(∀t∈kk.tys,aa t own'=true->t∉s.bad)->∃(ay:List (List Nat)) (jH:List Nat),ay.length=s.xs.length/\(ay.flatten++jH).Nodup/\(∀b∈ay.flatten++jH,b∈F1/\b∉F)/\
   ∀i (hi:i<s.xs.length),Ow (hp w) own' (fun b=>(bG cx (aC s.ws Z) aI F1 w s.tags b/\∃t∈s.bad,l9 (hp w) b t)\/b∈jH) kk s.xs[i] (iB news kk.size i) (ay.getD i [])
theorem Rp {n i:Nat}:(List.replicate n ([]:List Nat)).getD i []=[]:=by
 simp only [ig,List.getElem?_replicate]
 split <;> rfl
theorem J5 (H:Rel cx Z J F a w) {u e:TypeId} {kk:K} {v:Value} {s:qN kk} (hws:s.ws=[]) (eZ:gB Z s.tags) {news:List Value} (hS:Src P w kk.size u v s.xs.length news)
  (hV:∀i (hi:i<s.xs.length),Vw (hp w) (bG cx Z J F w s.tags) kk s.xs[i] (iB news kk.size i)) (hbad:s.bad=kk.tys\/kk.flat=true\/s.xs=[]):iT P cx Z J F a w u e kk v s:=by
 refine ⟨J,F,news,by rw [hws]; exact H,by rw [hws]; exact fun q _=>vD ..,by rw [hws]; rfl,by rw [hws]; exact fun q h=>h,fun _ h=>h,by rw [hws]; exact eZ,hS,fun own' ho=>?_⟩
 refine ⟨List.replicate s.xs.length [],[],by simp,by simp,by simp,fun i hi=>?_⟩
 rw [Rp,hws]
 rcases hbad with h | h | h
 ·refine dY (fun _ _=>rfl) (fun b hb=>.inl (h▸hb)) (fun _ _=>rfl) (ze (fun t ht=>?_) (Ig kk.tys (fun _ h=>h) (hV i hi)))
  cases hm:aa t own' with
  | false=>rfl
  | true=>exact absurd (h▸ht) (ho t ht hm)
 ·exact ze (fun t ht=>by rw [Cj h] at ht; simp at ht) (ni h (hV i hi))
 ·rw [h] at hi; simp at hi
theorem ack {A:Type} {z:A} (H:Rel cx Z J F a w) {u e:TypeId} {kk:K} {x:AV} {v:Value} {k:qN kk->Prog A} (hu:(∃e',P.underlying u=some (.slice e'))\/P.underlying u=some .string) (hg:fV kk=true)
  (hx:aW cx Z J F w x v) (hw:dQ Z x) (h:(J6 e kk x k).ends Z z):∃s:qN kk,(k s).ends Z z/\iT P cx Z J F a w u e kk v s:=by
 have sI:(qw x fun k' y tags=>match bU k' (.sl e kk) y with
   | some xs=>k ⟨xs,kk.tys,bif kk.flat then [] else tags,[],false,[]⟩
   | none=>.fail).ends Z z->∃s:qN kk,(k s).ends Z z/\iT P cx Z J F a w u e kk v s:=by
  intro h
  obtain ⟨k',y,Tg,cs,h1,h2,h3,h4⟩:=En H hx hw h
  cases hc:bU k' (.sl e kk) y with
  | none=>rw [hc] at h4; exact h4.elim
  | some xs=>
   rw [hc] at h4
   obtain ⟨ek,ey⟩:=jl hc
   subst ek
   simp only at ey
   subst ey
   obtain ⟨news,g1,g2⟩:=Ox (P:=P) (u:=u) (xs:=xs) hu hg rfl h1 h2
   cases hf:kk.flat with
   | true=>
    rw [hf] at h4
    exact ⟨_,h4,J5 H rfl (fun t ht=>by simp at ht) g1 (fun i hi=>ni hf (g2 i hi)) (.inr (.inl hf))⟩
   | false=>
    rw [hf] at h4
    exact ⟨_,h4,J5 H rfl h3 g1 g2 (.inl rfl)⟩
 cases x with
 | val k1 y Tg=>
  cases k1 with
  | str=>
   simp only [J6] at h
   cases h1:bU (.int .u8) kk (0:Int) with
   | none=>rw [h1] at h; exact h.elim
   | some q=>
    rw [h1] at h
    obtain ⟨ek,_⟩:=jl h1
    subst ek
    simp only at h
    cases h2:bU (.sl e (.int .u8)) (.sl e (.int .u8)) (show List Int from y) with
    | none=>rw [h2] at h; exact h.elim
    | some xs=>
     rw [h2] at h
     obtain ⟨_,ey⟩:=jl h2
     simp only at ey
     subst ey
     obtain ⟨B,e1,e2⟩:=Au hx
     subst e1
     have hlen:(bytesOf B).length=B.size:=zH B
     have hS:=anL (P:=P) (w:=w) (u:=u) (B:=B) hu
     subst e2
     refine ⟨_,h,J5 H rfl (fun t ht=>by simp at ht) (news:=B.data.toList.map fun b=>.int .u8 b.toNat) ?_ (fun i hi=>?_) (.inr (.inl rfl))⟩
     ·show Src P w 1 u _ (bytesOf B).length _
      rw [hlen]
      exact hS
     ·have hi':i<B.size:=by
       have:i<(bytesOf B).length:=hi
       rw [hlen] at this; exact this
      have hseg:iB (B.data.toList.map fun b=>Value.int .u8 b.toNat) (K.int .u8).size i=[.int .u8 (B.data.toList[i]'(by simpa using hi')).toNat]:=by
       apply HY
       intro j
       show (iB (B.data.toList.map fun b=>Value.int .u8 b.toNat) 1 i)[j]?=_
       cases j with
       | zero=>rw [sM (by omega)]; simp [hi']
       | succ j=>rw [uE (by rw [xz (m:=B.size) (by simp) hi']; omega)]; simp
      rw [hseg]
      have he:(bytesOf B)[i]'hi=((B.data.toList[i]'(by simpa using hi')).toNat:Int):=by simp [bytesOf]
      refine ⟨?_, ?_⟩
      ·show [Value.int .u8 _]=[Value.int .u8 _]
       congr 2
       exact he.symm
      ·show mG .u8 _
       have:mG .u8 ((B.data.toList[i]'(by simpa using hi')).toNat:Int):=⟨by omega,by have:=(B.data.toList[i]'(by simpa using hi')).toNat_lt; omega⟩
       exact he▸this
  | _=>exact sI h
 | fG=>
  obtain ⟨b,rfl⟩:=hx
  exact ⟨_,h,J5 H rfl (fun t ht=>by simp at ht) (news:=[]) (J7 hu (by simp) (by simp) (fun h=>by simp at h)) (fun i hi=>by simp at hi) (.inr (.inr rfl))⟩
 | ref r g=>
  simp only [J6] at h
  obtain ⟨R,hr,hv,h⟩:=iQ h
  rcases bD h with ⟨hg1,h⟩ | ⟨_,h⟩
  ·have hgg:=bC hg1
   obtain ⟨hkind,jU⟩:=hx R hr hgg
   cases hc:bU R.k (.sl e kk) R.x with
   | none=>rw [hc] at h; exact h.elim
   | some xs=>
    rw [hc] at h
    simp only at h
    obtain ⟨ek,ey⟩:=jl hc
    have K:=H.roots r R hr
    have hO:=K.ow hv
    have alq:=vZ H hr hO (fun b hb=>hb)
    cases hf:kk.flat with
    | true=>
     rw [hf] at h
     have mg:Vw (hp w) (bG cx Z J F w (R.out r R.k)) (.sl e kk) xs (J.hdr r):=agR ek ey alq
     obtain ⟨news,g1,g2⟩:=Ox (P:=P) (u:=u) (xs:=xs) hu hg rfl (ek▸jU) mg
     exact ⟨_,h,J5 H rfl (fun t ht=>by simp at ht) g1 (fun i hi=>ni hf (g2 i hi)) (.inr (.inl hf))⟩
    | false=>
     rw [hf] at h
     simp only [kg] at h
     rcases bD h with ⟨_,h⟩ | ⟨_,h⟩
     ·exact h.elim
     ·obtain ⟨H1,T1,hh,hcl⟩:=kill H hr hkind hv
      have tX:Ow (hp w) R.own (bG cx (aJ Z r iE) (jr J r) (J.fo r++F) w R.tags) (.sl e kk) xs (J.hdr r) (J.fo r):=wS ek ey (hh.ow hcl)
      have Y5:VC (.sl e kk) v (J.hdr r):=ek▸jU
      have hsame:∀q,q∉([Wr.r r none]:List Wr).flatMap Wr.eT->Same Z J (aJ Z r iE) (jr J r) q:=fun q hq=>lX (by simpa [Wr.eT] using hq)
      have hnone:∀q,Z.roots q=none->(aJ Z r iE).roots q=none:=fun q hq=>by
       rw [jW]
       ·exact hq
       ·intro e; rw [e,hr.1] at hq; simp at hq
      have uM:∀b∈J.fo r,b∉F:=fun b hb=>H.fB r R hr b (bB _ hb)
      cases hme:aa e R.own with
      | true=>
       obtain ⟨news,g1,ay,g2,g3,g4,g5⟩:=aa6 (P:=P) (u:=u) hu hg Y5 hme tX hh.nd
       rw [hme] at h
       simp only [gJ,yM] at h
       refine ⟨_,h,jr J r,J.fo r++F,news,H1,hsame,rfl,hnone,fun b hb=>bB _ hb, ?_,g1,fun own' ho=>?_⟩
       ·intro t ht
        simp only at ht
        cases hal:(kk.tys.all fun t=>aa t R.own) with
        | true=>rw [hal] at ht; simp at ht
        | false=>rw [hal] at ht; exact hh.wt t ht
       ·simp only at ho ⊢
        have Ro:∀i (hi:i<List.length xs),Ow (hp w) R.own (fun b=>bG cx (aJ Z r iE) (jr J r) (J.fo r++F) w (bif (kk.tys.all fun t=>aa t R.own) then [] else R.tags) b/\∃t∈bu R.own kk,l9 (hp w) b t) kk xs[i] (iB news kk.size i) (ay.getD i []):=by
         intro i hi
         cases hal:(kk.tys.all fun t=>aa t R.own) with
         | false=>exact tu _ (fun _ h=>h) (g5 i hi)
         | true=>exact j5 (lu (qH hal)) (g5 i hi)
        obtain ⟨pY,jH,f1,f2,f3,f4⟩:=aiQ (own':=own') g2 g3 (fun t ht hm=>(Ke (own:=R.own) ht).resolve_left (fun hx=>ho t ht hm hx)) Ro
        exact ⟨pY,jH,f1,f2,fun b hb=>⟨bK _ (g4 b (f3 b hb)),uM b (g4 b (f3 b hb))⟩,f4⟩
      | false=>
       have hO2:=tX
       unfold Ow at hO2
       rw [hme] at hO2 h
       simp only [bJ,bF] at hO2
       simp only [kg,Bool.false_and] at h
       obtain ⟨news,g1,g2⟩:=Ox (P:=P) (u:=u) (xs:=xs) hu hg rfl Y5 hO2.2
       refine ⟨_,h,jr J r,J.fo r++F,news,H1,hsame,rfl,hnone,fun b hb=>bB _ hb,hh.wt,g1,fun own' ho=>?_⟩
       refine ⟨List.replicate (List.length xs) [],[],by simp,by simp,by simp,fun i hi=>?_⟩
       rw [Rp]
       refine dY (fun _ _=>rfl) (fun b hb=>.inl hb) (fun _ _=>rfl) (ze (fun t ht=>?_) (Ig kk.tys (fun _ h=>h) (g2 i hi)))
       cases hm:aa t own' with
       | false=>rfl
       | true=>exact absurd ht (ho t ht hm)
  ·exact h.elim
 | dZ r p n=>exact sI h
 | undef=>exact sI h
 | ptr r p n=>exact sI h
 | fQ bt k y T=>exact sI h
 | lZ _ _ _ _=>exact sI h
 | pz _=>exact sI h
 | part _ _ _ _ _=>exact sI h
 | nI _ _ _ _=>exact sI h
 | sub _ _ _ _ _ _=>exact sI h
 | sel _ _ _ _ _ _=>exact sI h
 | app _ _ _ _=>exact sI h
 | kG=>exact sI h
 | fn f cs=>exact sI h
end
end
section
open Go
variable [Fr]
section
variable {P:Program} {T:bH} {cx:Cx} {Z:St} {J:aH} {F:List Nat} {a:Act} {w:World} {o:Oper} {d:Nat} {ws:List Wr} {r:Nat} {R:Root}
theorem am6 (H:Rel cx Z J F a w) (hr:aU Z r R) (hv:cB Z R) (hk:R.kind=.anon) {R':Root} (hk':R'.kind=.anon) {e:TypeId} (hw:R'.w=e :: R.w) (hh:R'.h=jM :: e :: R.h) (hg:R'.g=R.g+1) (hev:R'.ew=R.ew/\R'.eh=R.eh)
  (eZ:gB Z R'.tags/\∀n,(r,n)∉R'.tags) {w':World} (hos:w'.os=w.os/\w'.tape=w.tape/\w'.output=w.output) (hsize:w.heap.size<=w'.heap.size) {aF:List Nat}
  (qA:∀b,b<w.heap.size->hp w' b≠hp w b->b∈F\/(b∈J.fo r/\jS (hp w) b=some e)) (amt:∀b∈aF,b∈J.fo r\/b∈F\/(w.heap.size<=b/\b<w'.heap.size)) (hnd:aF.Nodup)
  {hdr':List Value} (hlen:hdr'.length=R'.k.size) (how:Ow (hp w') R'.own (bG cx (aJ Z r R') (aR J r (J.loc r) hdr' aF) [] w' R'.tags) R'.k R'.x hdr' aF) {v':Value} (hv':VC R'.k v' hdr') :
  Rel cx (aJ Z r R') (aR J r (J.loc r) hdr' aF) [] a w'/\aW cx (aJ Z r R') (aR J r (J.loc r) hdr' aF) [] w' (.ref r R'.g) v':=by
 have hblk:blk J R r=J.fo r:=by simp [blk,aK,hk]
 have hd':R'.bY=false:=by simp [Root.bY,hk']
 have T1:vE cx Z J F w r R R' aF [] w' [e] [jM,e]:=by
  refine ⟨.inr ⟨hw,hh,by omega,hk'.trans hk.symm,fun h=>by rw [hk] at h; simp at h, .inl (by simp)⟩,eZ,hos,hsize,fun b hb hne=>?_,fun _ b hb=>?_,fun b hb=>by simp at hb,mJ,fun _ b _ h=>by simp at h,fun j pi b o n hj hb EX hne=>?_,fun _=>hev⟩
  ·rcases qA b hb hne with h | ⟨h1,h2⟩
   ·exact .inl h
   ·exact .inr ⟨by rw [hblk]; exact h1, .inr (.inl ⟨e,by simp,h2⟩)⟩
  ·rw [qV hk'] at hb
   rw [hblk]
   exact amt b hb
  ·obtain ⟨Q,hQ,hkq,_,_⟩:=H.kM j pi b o n hj hb
   have hQR:Q=R:=by have:=hQ.1; rw [<-EX,hr.1] at this; simpa using this.symm
   rw [hQR,hk] at hkq
   simp at hkq
 refine ⟨T1.rel H hr (fun _=>⟨fun _=>how,hlen,fun b o hb=>by rw [F8 hk'] at hb; simp at hb,by rw [qV hk']; exact hnd⟩) ?_ ?_, ?_⟩
 ·intro _ p n v hn hold
  refine ⟨hold.1,fun Q hQ oL hcl hty hs=>?_⟩
  rw [fE] at hQ
  simp only [au] at hQ
  subst hQ
  cases p with
  | nil=>
   obtain ⟨_,cs,b,o,h1,_⟩:=hold.2 R hr.1 hv (by simp [clean,iW,aa]) (fun t ht=>by simp [az] at ht) rfl
   simp only [aT,au,bS] at h1
   have:aK J R r=none:=by simp [aK,hk]
   rw [this] at h1
   simp at h1
  | cons s p=>
   have e1:R'.h=[jM,e]++R.h:=hh
   rw [e1,Eu hn] at hcl
   exact absurd (show jM∈iW (s :: p) R'.k from jE) (hcl.1 jM (by simp))
 ·intro _ g v hgl hold Q hQ Nh
  obtain ⟨rfl,_⟩:=pq hQ
  omega
 ·intro Q hQ _
  obtain ⟨rfl,_⟩:=pq hQ
  refine ⟨hk', ?_⟩
  simp only [aR,upd_same]
  exact hv'
theorem NQ (H:Rel cx Z J F a w) {w':World} (hs:w.heap.size<=w'.heap.size) {Tg Xq:List Tag} {aF:List Nat} {b:Nat} (hb:bG cx Z J F w Tg b\/b∈F) (ht:∀t∈Tg,t∈Xq) (hfo:b∉aF):bG cx Z J aF w' Xq b:=by
 rcases hb with hb | hb
 ·exact ⟨xR hb.1 hs,hfo,hb.2.2.1,fun q Q hq hbq=>(hb.2.2.2.1 q Q hq hbq).imp fun n hn=>ht _ hn,fun h0=>(hb.2.2.2.2 h0).imp (fun ⟨j,n,h1,h2⟩=>⟨j,n,ht _ h1,h2⟩) id⟩
 ·have hm:=H.fl b hb
  refine ⟨xR hm.1 hs,hfo,A7 H hb,fun q Q hq hbq=>absurd hb (H.fB q Q hq b hbq),fun h0=>?_⟩
  rcases hm.2 with h | ⟨j,pi,h1,h2⟩
  ·omega
  ·exact .inr ⟨j,pi,h1,h2⟩
theorem JW {c:Call} (ho:o.op=.call c) (hb:c.callee=.builtin .append) {x y:Operand} (ha:c.args.toList=[x,y]) {t u:TypeId} (ht:c.argTypes[0]?=some t) (hu:c.argTypes[1]?=some u) {v':Value} {w':World}
  (h:(Builtin.append_ #[t,u] o.type #[a.eval x,a.eval y]).run P w=.ok v' w'):(execOp a.eval o).run P w=.ok (.value v') w':=by
 obtain ⟨cc,hcc⟩:=FU (P:=P) (a:=a) (w:=w) ho hb
 rw [hcc]
 have h1:c.args.map a.eval=#[a.eval x,a.eval y]:=by
  apply u6
  rw [wE,ha]
  rfl
 have h2:Builtin.append_ c.argTypes o.type #[a.eval x,a.eval y]=Builtin.append_ #[t,u] o.type #[a.eval x,a.eval y]:=by
  unfold Builtin.append_
  simp only [ht,hu]
  rfl
 rw [h1]
 simp only [builtin,dO,h2,h,fU,fA]
end
end
section
open Go
variable [Fr]
section
variable {P:Program} {T:bH} {cx:Cx} {Z:St} {J:aH} {F:List Nat} {a:Act} {w:World} {o:Oper} {d:Nat} {ws:List Wr}
theorem XI (hT:fJ P T) {Z1:St} {aI:aH} {F1:List Nat} (H1:Rel cx Z1 aI F1 a w) (hd:o.dst=some d) (hdn:d<cx.nt) {c:Call} (ho:o.op=.call c) (hcb:c.callee=.builtin .append) {x y:Operand} (ha:c.args.toList=[x,y])
  {t u e:TypeId} {kk:K} (ht0:c.argTypes[0]?=some t) (hu0:c.argTypes[1]?=some u) (hty:T.ty t=some (.sl e kk)) (hn1:Z1.roots (aG d 0)=none)
  {own:List TypeId} {tags T1 T2:List Tag} {bad:List TypeId} {gX iL:List (El kk)} {v0:Value} {gQ fd:List Nat} {ay:List (List Nat)} {jH:List Nat} {news:List Value} (hv0:a.eval x=v0) (hS:Src P w kk.size u (a.eval y) iL.length news)
  (hown:aa e own=true) (ZC:∀t,aa t own=true->t∉bad) (hwt:gB Z1 tags) (ht1:∀t∈T1,t∈tags) (ht2:∀t∈T2,t∈tags)
  (hO:Ow (hp w) own (fun b=>bG cx Z1 aI F1 w T1 b\/b∈fd) (.sl e kk) gX [v0] gQ) (zW:∀b∈gQ++fd,b∈F1) (kK:(gQ++fd).Nodup) (hF1:∀b∈ay.flatten++jH,b∈F1/\b∉gQ++fd) (sH:(ay.flatten++jH).Nodup)
  (hfl:ay.length=iL.length) (hel:∀i (hi:i<iL.length),Ow (hp w) own (fun b=>((bG cx Z1 aI F1 w T2 b\/b∈F1)/\∃t∈bad,l9 (hp w) b t)\/b∈jH) kk iL[i] (iB news kk.size i) (ay.getD i []))
  (hb:(gX.length+iL.length) * T.bytes e<=140737488355328) (kp:Bool) :
  dG P cx o a w (aC [.r (aG d 0) (some (bL (.sl e kk) (gX++iL) own tags .anon kp)), .s d (.one (.ref (aG d 0) 0))] Z1):=by
 have ht:=hT.ty t _ hty
 have n0:=cK.1 kK
 have n1:=cK.1 sH
 have hlt:∀b∈F1,b<w.heap.size:=fun b h=>(H1.fl b h).1
 have SE:=zb hO
 have hnot:∀b,((bG cx Z1 aI F1 w T2 b\/b∈F1)/\∃t∈bad,l9 (hp w) b t)->b∉gQ:=by
  rintro b ⟨_,t,h1,h2⟩ hb0
  obtain ⟨e',_,h3,h4⟩:=SE b hb0
  have h2:=H1.Di (H1.fl b (zW b (bK _ hb0))) h2
  rw [h2] at h4
  simp only [au] at h4
  subst h4
  exact ZC _ h3 h1
 let ok:Nat->Prop:=fun b=>(bG cx Z1 aI F1 w T1 b\/b∈fd)\/((bG cx Z1 aI F1 w T2 b\/b∈F1)/\∃t∈bad,l9 (hp w) b t)\/b∈jH
 obtain ⟨v',w',aF,hrun,hos,hsz,sF,hfo,yt,mg⟩:=XH (w:=w) (ok:=ok) (u:=u) (ty:=o.type) (x:=a.eval y) (ay:=ay) ht (dY (fun _ _=>rfl) (fun b h=>.inl h) (fun _ _=>rfl) hO) hown
  (cK.2 ⟨n0.1,n1.1,fun b1 h1 b2 h2 e=>(hF1 b2 (bK _ h2)).2 (bK _ (e▸h1))⟩)
  (fun b hb=>by
   rcases hb with (h | h) | h | h
   ·exact ⟨fun h0=>h.2.1 (zW b (bK _ h0)),h.1⟩
   ·exact ⟨fun h0=>n0.2.2 b h0 b h rfl,hlt b (zW b (bB _ h))⟩
   ·refine ⟨hnot b h, ?_⟩
    rcases h.1 with h | h
    ·exact h.1
    ·exact hlt b h
   ·exact ⟨fun h0=>(hF1 b (bB _ h)).2 (bK _ h0),hlt b (hF1 b (bB _ h)).1⟩)
  (fun b hb=>by
   rcases bW.1 hb with h | h
   ·exact hlt b (zW b (bK _ h))
   ·exact hlt b (hF1 b (bK _ h)).1)
  hS hfl (fun i hi=>dY (fun _ _=>rfl) (fun b h=>.inr h) (fun _ _=>rfl) (hel i hi)) hb
 have uM:∀b∈aF,b∈F1\/(w.heap.size<=b/\b<w'.heap.size):=by
  intro b hb
  rcases hfo b hb with h | h | h
  ·exact .inl (zW b (bK _ h))
  ·exact .inl (hF1 b (bK _ h)).1
  ·exact .inr h
 have T2':=Fz (w':=w') (F':=aF) H1 hos hsz (fun b h1 h2=>zW b (bK _ (sF b h1 h2).1)) uM yt
 have H2:=H1.mem T2'
 have jU:VC (.sl e kk) v' [v']:=⟨rfl,by
  unfold Ow at mg
  rw [aj hown] at mg
  obtain ⟨b,n,c,e1,_⟩:=mg
  simp only [jw,eX] at e1
  rw [e1]; simp⟩
 have hok:∀b,ok b->bG cx Z1 aI aF w' tags b:=by
  intro b hb
  have hnew:b<w.heap.size->¬(w.heap.size<=b/\b<w'.heap.size):=fun h=>by omega
  rcases hb with (h | h) | h | h
  ·refine NQ H1 hsz (.inl h) ht1 (fun hb=>?_)
   rcases hfo b hb with h2 | h2 | h2
   ·exact h.2.1 (zW b (bK _ h2))
   ·exact h.2.1 (hF1 b (bK _ h2)).1
   ·exact hnew h.1 h2
  ·have hF:=zW b (bB _ h)
   refine NQ H1 hsz (Tg:=[]) (.inr hF) (by simp) (fun hb=>?_)
   rcases hfo b hb with h2 | h2 | h2
   ·exact n0.2.2 b h2 b h rfl
   ·exact (hF1 b (bK _ h2)).2 (bB _ h)
   ·exact hnew (hlt b hF) h2
  ·refine NQ H1 hsz h.1 ht2 (fun hb=>?_)
   have hlt':b<w.heap.size:=by
    rcases h.1 with h | h
    ·exact h.1
    ·exact hlt b h
   rcases hfo b hb with h2 | h2 | h2
   ·exact hnot b h h2
   ·obtain ⟨l,hl,hbl⟩:=BA.1 h2
    obtain ⟨i,hi,rfl⟩:=sZ.1 hl
    have:=zb (hel i (by omega)) b (by rw [oH hi]; exact hbl)
    obtain ⟨e',_,h3,h4⟩:=this
    obtain ⟨_,t,h5,h6⟩:=h
    have h6:=H1.Di (H1.fl b (hF1 b (bK _ h2)).1) h6
    rw [h6] at h4
    simp only [au] at h4
    subst h4
    exact ZC _ h3 h5
   ·exact hnew hlt' h2
  ·have hF:=(hF1 b (bB _ h)).1
   refine NQ H1 hsz (Tg:=[]) (.inr hF) (by simp) (fun hb=>?_)
   rcases hfo b hb with h2 | h2 | h2
   ·exact (hF1 b (bB _ h)).2 (bK _ h2)
   ·exact n1.2.2 b h2 b h rfl
   ·exact hnew (hlt b hF) h2
 obtain ⟨ku,k1,k2⟩:=Eh (k:=.sl e kk) (x:=gX++iL) (own:=own) (tags:=tags) (v:=v') (cs:=[v']) (fo:=aF) (r:=aG d 0) (F':=[]) H2 hn1 (qb d 0)
  (fun b hb=>hb) yt hwt (fun b hb=>by simp at hb) mJ rfl (fun _=>dY (fun _ _=>rfl) (fun b hb=>.inl (hok b hb)) (fun _ _=>rfl) mg) jU kp
 exact o7 (x:=.one (.ref (aG d 0) 0)) k1 hd hdn (JW ho hcb ha ht0 hu0 (by rw [hv0]; exact hrun)) k2 ⟨_,fE .., .inr (fT _)⟩
theorem XE {ws:List Wr} {tags:List Tag} (h:zB ws tags=true):∀t∈tags,t.1∉ws.flatMap Wr.eT:=fun t ht=>by
 have:=eH.1 h t ht
 simpa [gT] using this
theorem aaR {ws:List Wr} {r:Nat} (h:(ws.all fun w=>!w.loc.beq (.r r))=true):r∉ws.flatMap Wr.eT:=by
 intro hm
 obtain ⟨wr,h1,h2⟩:=jZ.1 hm
 have:=eH.1 h wr h1
 cases wr with
 | s n x=>simp [Wr.eT] at h2
 | r n x=>
  simp only [Wr.eT,gI] at h2
  subst h2
  simp [Wr.loc,Loc.beq] at this
theorem ah1 (hT:fJ P T) (H:Rel cx Z J F a w) (hd:o.dst=some d) (hdn:d<cx.nt) {c:Call} (ho:o.op=.call c) (hcb:c.callee=.builtin .append)
  (h:(o8 c.args.toList fun
   | [a,b]=>match c.argTypes[0]?,(c.argTypes[1]?).bind T.ty with
    | some t,some (.sl _ _)=>Em T d t a b fun ws=>(.ret ws:Prog (List Wr))
    | some t,some .str=>Em T d t a b fun ws=>(.ret ws:Prog (List Wr))
    | _,_=>.fail
   | _=>.fail).ends Z ws):dG P cx o a w (aC ws Z):=by
 obtain ⟨vs,h1,h2,h⟩:=xe H h
 obtain ⟨u,v,x,y,t,ut,hvs,ha,hx,hy,ht0,hu0,aln,h9⟩:∃u v x y t ut,vs=[u,v]/\c.args.toList=[x,y]/\aW cx Z J F w u (a.eval x)/\aW cx Z J F w v (a.eval y)/\c.argTypes[0]?=some t/\c.argTypes[1]?=some ut/\
   ((∃e',P.underlying ut=some (.slice e'))\/P.underlying ut=some .string)/\(Em T d t u v fun ws=>(.ret ws:Prog (List Wr))).ends Z ws:=by
  split at h
  ·rename_i u v
   have hargs:∃x y,c.args.toList=[x,y]/\aW cx Z J F w u (a.eval x)/\aW cx Z J F w v (a.eval y):=by
    revert h1
    generalize c.args.toList=l
    intro h1
    cases l with
    | nil=>exact h1.elim
    | cons x l=>
     cases l with
     | nil=>exact h1.2.elim
     | cons y l=>
      cases l with
      | nil=>exact ⟨x,y,rfl,h1.1,h1.2.1⟩
      | cons _ _=>exact h1.2.2.elim
   obtain ⟨x,y,e1,e2,e3⟩:=hargs
   split at h
   ·rename_i t e k e4 e5
    obtain ⟨ut,e6,e7⟩:=uy hT e5
    exact ⟨u,v,x,y,t,ut,rfl,e1,e2,e3,e4,e6, .inl ⟨_,e7.sl.1⟩,h⟩
   ·rename_i t e4 e5
    obtain ⟨ut,e6,e7⟩:=uy hT e5
    exact ⟨u,v,x,y,t,ut,rfl,e1,e2,e3,e4,e6, .inr e7.str,h⟩
   ·exact h.elim
  ·exact h.elim
 clear h
 have h:=h9
 clear h9
 subst hvs
 have hwu:=h2 u (by simp)
 have hwv:=h2 v (by simp)
 unfold Em at h
 cases hty:T.ty t with
 | none=>rw [hty] at h; exact h.elim
 | some k0=>
  rw [hty] at h
  cases k0 with
  | sl e kk=>
   have ht:=hT.ty t _ hty
   simp only at h
   obtain ⟨s,h8,aI,F1,news,H1,hsame,aoD,hnone,RA,hwt,hS,hels⟩:=ack (P:=P) (u:=ut) H aln ht.sl.2.1.fV hy hwv h
   clear h
   rcases bD h8 with ⟨_,h⟩ | ⟨hbad,h⟩
   ·exact h.elim
   clear h8
   cases u with
   | fG=>
    obtain ⟨b0,hv0⟩:=hx
    obtain ⟨hb,h⟩:=h
    obtain ⟨hn,h⟩:=p9 h
    rw [bz h,oD]
    have ho1:aa e (e :: fq kk.tys s.bad)=true:=b_.2 (by simp)
    have ho2:∀t,aa t (e :: fq kk.tys s.bad)=true->t∉s.bad:=fun t ht=>by
     rcases bT.1 (b_.1 ht) with h | h
     ·rw [h]; exact gT.1 hbad
     ·exact (qg.1 (b_.2 h)).2
    obtain ⟨ay,jH,f1,f2,f3,f4⟩:=hels (e :: fq kk.tys s.bad) (fun t _ ht=>ho2 t ht)
    exact XI hT H1 hd hdn ho hcb ha ht0 hu0 hty (hnone _ hn) (gX:=[]) (v0:=.slice b0 0 0) (gQ:=[]) (fd:=[]) (T1:=[]) (T2:=s.tags) (bad:=s.bad) hv0 hS ho1 ho2 hwt (by simp) (fun _ h=>h) FC (by simp) (by simp)
     (fun b hb=>⟨(f3 b hb).1,by simp⟩) f2 f1 (fun i hi=>dY (fun _ _=>rfl) (fun b hb=>hb.imp (fun h=>⟨.inl h.1,h.2⟩) id) (fun _ _=>rfl) (f4 i hi)) (by simpa using hb) s.keep
   | dZ r p n=>
    obtain ⟨R,hr,hv,h⟩:=iQ h
    rcases bD h with ⟨hc,h⟩ | ⟨_,h⟩
    ·simp only [bg] at hc
     obtain ⟨⟨⟨⟨⟨⟨⟨c1,c2⟩,c3⟩,c4⟩,c5⟩,c6⟩,c7⟩,c8⟩:=hc
     cases hg:aB p R.k R.x with
     | none=>rw [hg] at h; exact h.elim
     | some dd=>
      rw [hg] at h
      simp only at h
      cases hck:bU dd.1 (.sl e kk) dd.2 with
      | none=>rw [hck] at h; exact h.elim
      | some xs=>
       rw [hck] at h
       cases hga:xh R p dd with
       | none=>rw [hga] at h; exact h.elim
       | some R'=>
        rw [hga] at h
        simp only at h
        obtain ⟨hb,h⟩:=h
        obtain ⟨hn,h⟩:=p9 h
        rw [bz h,oD]
        obtain ⟨ek,ey⟩:=jl hck
        unfold xh at hga
        cases hz:cz p R.k R.x (oI dd) with
        | none=>rw [hz] at hga; simp at hga
        | some z=>
         rw [hz] at hga
         simp only [au] at hga
         have eR:R'=kJ R dd z:=by rw [<-hga]; rfl
         have hSr:=hsame r (aaR c7)
         have hr1:=(hSr.live R).2 hr
         have hv1:cB (aC s.ws Z) R:=⟨hv.1,by rw [rZ (fun t ht=>(hsame t.1 (XE c8 t ht)).root)]; exact hv.2⟩
         obtain ⟨dh,hown,cs0,xC,hn0,RP⟩:=hx R hr.1 hv (bC c1) dd hg
         have hpv:p≠[]\/∃t,R.kind=.var t:=by
          rw [nZ] at c3
          rcases c3 with h | h
          ·exact .inl (by simpa using h)
          ·refine .inr ?_
           unfold Root.isVar at h
           cases hk:R.kind with
           | var t=>exact ⟨t,rfl⟩
           | _=>rw [hk] at h; simp at h
         obtain ⟨cs1,cu,aX,rest,g1,g2,g3,g4,g5,g6⟩:=gap H1 hr1 hv1 hg hz dh hown hpv
         rw [hSr.hdr,hSr.wh,hn0] at g1
         simp only [au,bS] at g1
         obtain ⟨rfl,rfl⟩:=g1
         have hcl:cO (aJ (aC s.ws Z) r (kJ R dd z)) (bu R.own dd.1) R.tags=true:=by
          rw [g5]
          exact BU hv1.2 (fun _ h=>h) (Ov p hg hown)
         have M6:=wS (y:=xs) ek ey (g4.ow hcl)
         have ho1:aa e (fq ((e :: kk.tys).filter fun t=>aa t R.own) s.bad)=true:=qg.2 ⟨b_.2 (eF.2 ⟨by simp,c5⟩),gT.1 hbad⟩
         have ho2:∀t,aa t (fq ((e :: kk.tys).filter fun t=>aa t R.own) s.bad)=true->t∉s.bad:=fun t ht=>(qg.1 ht).2
         obtain ⟨gQ,fd,hp0,tX⟩:=xU (own':=fq ((e :: kk.tys).filter fun t=>aa t R.own) s.bad) (fun t _ hm=>(eF.1 (b_.1 (qg.1 hm).1)).2) M6
         obtain ⟨ay,jH,f1,f2,f3,f4⟩:=hels (fq ((e :: kk.tys).filter fun t=>aa t R.own) s.bad) (fun t _ ht=>ho2 t ht)
         have ako:∀b∈aX,b∉F1:=fun b hb hF=>(cK.1 g2.iq).2.2 b hb b hF rfl
         have hcs:∃v0,cs0=[v0]/\a.eval x=v0:=by
          have IV:VC (.sl e kk) (a.eval x) cs0:=ek▸RP
          exact ⟨_,IV.1,rfl⟩
         obtain ⟨v0,Q7,ev0⟩:=hcs
         subst Q7
         subst eR
         have hne:aG d 0≠r:=fun e=>by have:=hr.1; rw [<-e,hn] at this; simp at this
         refine XI hT g2 hd hdn ho hcb ha ht0 hu0 hty (by rw [jW _ _ hne]; exact hnone _ hn) (gX:=xs) (v0:=v0) (gQ:=gQ) (fd:=fd) (T1:=R.tags) (T2:=s.tags) (bad:=s.bad) (ay:=ay) (jH:=jH) ev0 hS ho1 ho2
          (fun t ht=>?_) (fun t ht=>mD.2 (.inr ht)) (fun t ht=>mD.2 (.inl ht)) tX (fun b hb=>bK _ (hp0.mem_iff.2 hb)) (hp0.nodup g4.nd)
          (fun b hb=>⟨bB _ (f3 b hb).1,fun hb'=>ako b (hp0.mem_iff.2 hb') (f3 b hb).1⟩) f2 f1 (fun i hi=>dY (fun _ _=>rfl) (fun b hb=>?_) (fun _ _=>rfl) (f4 i hi)) hb _
         ·rcases mD.1 ht with h | h
          ·exact g3.tag (hwt t h)
          ·exact g4.wt t h
         ·rcases hb with ⟨hb,hbt⟩ | hb
          ·refine .inl ⟨?_,hbt⟩
           by_cases hbf:b∈aX
           ·exact .inr (bK _ hbf)
           ·refine .inl ⟨hb.1,fun h=>?_,hb.2.2.1,fun q Q hq hbq=>?_,hb.2.2.2.2⟩
            ·rcases bW.1 h with h | h
             ·exact hbf h
             ·exact hb.2.1 h
            ·rcases uo hq with ⟨rfl,rfl,_⟩ | ⟨eq,hq'⟩
             ·refine hb.2.2.2.1 q R hr1 ?_
              rw [pR,zG (show (kJ R dd z).kind=R.kind from rfl)] at hbq
              rw [jG]
              rw [mV] at hbq ⊢
              exact hbq.imp id (fun h=>g6.mem_iff.2 (bB _ h))
             ·rw [(lX (J:=aI) (Z:=aC s.ws Z) (R:=kJ R dd z) eq).blk] at hbq
              exact hb.2.2.2.1 q Q hq' hbq
          ·exact .inr hb
    ·exact h.elim
   | ref r g=>
    obtain ⟨R,hr,hv,h⟩:=iQ h
    rcases bD h with ⟨hc,h⟩ | ⟨_,h⟩
    ·simp only [bg] at hc
     obtain ⟨⟨⟨⟨⟨c1,c4⟩,c5⟩,c6⟩,c7⟩,c8⟩:=hc
     cases hck:bU R.k (.sl e kk) R.x with
     | none=>rw [hck] at h; exact h.elim
     | some xs=>
      rw [hck] at h
      simp only at h
      obtain ⟨hb,h⟩:=h
      rw [bz h,oD]
      obtain ⟨ek,ey⟩:=jl hck
      have hSr:=hsame r (aaR c7)
      have hr1:=(hSr.live R).2 hr
      have hv1:cB (aC s.ws Z) R:=⟨hv.1,by rw [rZ (fun t ht=>(hsame t.1 (XE c8 t ht)).root)]; exact hv.2⟩
      obtain ⟨hkind,RP⟩:=hx R hr (bC c1)
      have K1:=H1.roots r R hr1
      have Nq:=H1.gy r R hr1.1
      have hfr:blk aI R r=aI.fo r:=by simp [blk,aK,hkind]
      have uM:∀b∈aI.fo r,b∉F1:=fun b hb=>H1.fB r R hr1 b (by rw [hfr]; exact hb)
      have IV:VC (.sl e kk) (a.eval x) (aI.hdr r):=by rw [hSr.hdr]; exact ek▸RP
      have M6:Ow (hp w) R.own (bG cx (aC s.ws Z) aI F1 w R.tags) (.sl e kk) xs [a.eval x] (aI.fo r):=by
       have:=wS (y:=xs) ek ey (K1.ow hv1)
       rw [IV.1] at this
       exact this
      have ho1:aa e (fq R.own s.bad)=true:=qg.2 ⟨c5,gT.1 hbad⟩
      have ho2:∀t,aa t (fq R.own s.bad)=true->t∉s.bad:=fun t ht=>(qg.1 ht).2
      have hnd:(aI.fo r).Nodup:=by rw [<-hfr]; exact K1.nd
      obtain ⟨gQ,fd,hp0,tX⟩:=xU (own':=fq R.own s.bad) (fun t _ hm=>(qg.1 hm).1) M6
      obtain ⟨ay,jH,f1,f2,f3,f4⟩:=hels (fq R.own s.bad) (fun t _ ht=>ho2 t ht)
      have vT:∀b∈gQ,b∈aI.fo r:=fun b hb=>hp0.mem_iff.2 (bK _ hb)
      have hfd0:∀b∈fd,b∈aI.fo r:=fun b hb=>hp0.mem_iff.2 (bB _ hb)
      have n0:=cK.1 (hp0.nodup hnd)
      have n1:=cK.1 f2
      have hlt:∀b∈aI.fo r,b<w.heap.size:=fun b hb=>(K1.mine b (by rw [hfr]; exact hb)).1
      have Sg:∀b∈F1,b<w.heap.size:=fun b hb=>(H1.fl b hb).1
      have SE:=zb tX
      have hnot:∀b,(∃t∈s.bad,l9 (hp w) b t)->b∉gQ:=by
       rintro b ⟨t,h1,h2⟩ hb0
       obtain ⟨e',_,h3,h4⟩:=SE b hb0
       have h2:=H1.Di (K1.mine b (by rw [hfr]; exact vT b hb0)) h2
       rw [h2] at h4
       simp only [au] at h4
       subst h4
       exact ho2 _ h3 h1
      let ok:Nat->Prop:=fun b=>(bG cx (aC s.ws Z) aI F1 w R.tags b\/b∈fd)\/(bG cx (aC s.ws Z) aI F1 w s.tags b/\∃t∈s.bad,l9 (hp w) b t)\/b∈jH
      have hRr:∀b,bG cx (aC s.ws Z) aI F1 w R.tags b->b∉aI.fo r:=by
       intro b hb hbr
       obtain ⟨n,hn⟩:=hb.2.2.2.1 r R hr1 (by rw [hfr]; exact hbr)
       exact Nq.2.2 n hn
      obtain ⟨v',w',aF,hrun,hos,hsz,sF,hfo,yt,mg⟩:=XH (w:=w) (ok:=ok) (u:=ut) (ty:=o.type) (x:=a.eval y) (ay:=ay) ht (dY (fun _ _=>rfl) (fun b h=>.inl h) (fun _ _=>rfl) tX) ho1
       (cK.2 ⟨n0.1,n1.1,fun b1 h1 b2 h2 e=>uM b1 (vT b1 h1) (e▸(f3 b2 (bK _ h2)).1)⟩)
       (fun b hb=>by
        rcases hb with (h | h) | h | h
        ·exact ⟨fun h0=>hRr b h (vT b h0),h.1⟩
        ·exact ⟨fun h0=>n0.2.2 b h0 b h rfl,hlt b (hfd0 b h)⟩
        ·exact ⟨hnot b h.2,h.1.1⟩
        ·exact ⟨fun h0=>uM b (vT b h0) (f3 b (bB _ h)).1,Sg b (f3 b (bB _ h)).1⟩)
       (fun b hb=>by
        rcases bW.1 hb with h | h
        ·exact hlt b (vT b h)
        ·exact Sg b (f3 b (bK _ h)).1)
       hS f1 (fun i hi=>dY (fun _ _=>rfl) (fun b h=>.inr h) (fun _ _=>rfl) (f4 i hi)) hb
      have jU:VC (.sl e kk) v' [v']:=⟨rfl,by
       have h5:=mg
       unfold Ow at h5
       rw [aj ho1] at h5
       obtain ⟨b,n,c,e1,_⟩:=h5
       simp only [jw,eX] at e1
       rw [e1]; simp⟩
      have akP:∀b,ok b->b∉aF/\b<w.heap.size:=by
       intro b hb
       have hlt':b<w.heap.size:=by
        rcases hb with (h | h) | h | h
        ·exact h.1
        ·exact hlt b (hfd0 b h)
        ·exact h.1.1
        ·exact Sg b (f3 b (bB _ h)).1
       refine ⟨fun hbf=>?_,hlt'⟩
       rcases hfo b hbf with h2 | h2 | h2
       ·rcases hb with (h | h) | h | h
        ·exact hRr b h (vT b h2)
        ·exact n0.2.2 b h2 b h rfl
        ·exact hnot b h.2 h2
        ·exact uM b (vT b h2) (f3 b (bB _ h)).1
       ·have hF:=(f3 b (bK _ h2)).1
        rcases hb with (h | h) | h | h
        ·exact h.2.1 hF
        ·exact uM b (hfd0 b h) hF
        ·exact h.1.2.1 hF
        ·exact n1.2.2 b h2 b h rfl
       ·omega
      have hnext:∀(j:Nat) (n:Nat),(jA j,n)∈s.tags->(jA j,n)∈lM (sj r s.tags) R.tags:=by
       intro j n hj
       refine mD.2 (.inl (yC.2 ⟨hj,fun e=>?_⟩))
       have:=Nq.2.1
       rw [<-e] at this
       simp only at this
       rw [uP] at this
       simp at this
      obtain ⟨k1,k2⟩:=am6 (R':={ R with k:=.sl e kk,x:=xs++s.xs,own:=fq R.own s.bad,tags:=lM (sj r s.tags) R.tags,w:=e :: R.w,h:=jM :: e :: R.h,g:=R.g+1,keep:=R.keep || s.keep })
       (v':=v') (hdr':=[v']) (aF:=aF) (w':=w') H1 hr1 hv1 hkind hkind rfl rfl rfl ⟨rfl,rfl⟩ ⟨fun t ht=>(mD.1 ht).elim (fun h=>hwt t (yC.1 h).1) (Nq.1 t),fun n hn=>(mD.1 hn).elim (fun h=>(yC.1 h).2 rfl) (Nq.2.2 n)⟩
       hos hsz (fun b h1 h2=>.inr ⟨vT b (sF b h1 h2).1,(sF b h1 h2).2⟩) (fun b hb=>by
        rcases hfo b hb with h | h | h
        ·exact .inl (vT b h)
        ·exact .inr (.inl (f3 b (bK _ h)).1)
        ·exact .inr (.inr h)) yt rfl
       (dY (k:=.sl e kk) (fun _ _=>rfl) (fun b hb=>by
        obtain ⟨z1,z2⟩:=akP b hb
        refine ⟨xR z2 hsz,by simp, ?_,fun q Q hq hbq=>?_,fun h0=>?_⟩
        ·rcases hb with (h | h) | h | h
         ·exact h.2.2.1
         ·exact zU H1 hr1 (hfd0 b h)
         ·exact h.1.2.2.1
         ·exact A7 H1 (f3 b (bB _ h)).1
        ·rcases uo hq with ⟨rfl,rfl,_⟩ | ⟨eq,hq'⟩
         ·rw [pR] at hbq
          have hbq:b∈aF:=by simpa [ji,hkind] using hbq
          exact absurd hbq z1
         ·rw [(lX (J:=aI) (Z:=aC s.ws Z) (R:={ R with k:=.sl e kk,x:=xs++s.xs,own:=fq R.own s.bad,tags:=lM (sj r s.tags) R.tags,w:=e :: R.w,h:=jM :: e :: R.h,g:=R.g+1,keep:=R.keep || s.keep }) eq).blk] at hbq
          rcases hb with (h | h) | h | h
          ·exact (h.2.2.2.1 q Q hq' hbq).imp fun n hn=>mD.2 (.inr hn)
          ·exact absurd hbq (H1.lQ r R q Q hr1 hq' (Ne.symm eq) b (by rw [hfr]; exact hfd0 b h))
          ·exact (h.1.2.2.2.1 q Q hq' hbq).imp fun n hn=>mD.2 (.inl (yC.2 ⟨hn,eq⟩))
          ·exact absurd (f3 b (bB _ h)).1 (H1.fB q Q hq' b hbq)
        ·have jV:Ow.mine cx w b->(∃j n,(jA j,n)∈lM (sj r s.tags) R.tags/\cx.ext j b)\/∃j pi,cx.par j=some pi/\b∈pi.bl:=fun hm=>by
          rcases hm.2 with h | ⟨j,pi,h1,h2⟩
          ·omega
          ·exact .inr ⟨j,pi,h1,h2⟩
         rcases hb with (h | h) | h | h
         ·exact (h.2.2.2.2 h0).imp (fun ⟨j,n,h1,h2⟩=>⟨j,n,mD.2 (.inr h1),h2⟩) id
         ·exact jV (K1.mine b (by rw [hfr]; exact hfd0 b h))
         ·exact (h.1.2.2.2.2 h0).imp (fun ⟨j,n,h1,h2⟩=>⟨j,n,hnext j n h1,h2⟩) id
         ·exact jV (H1.fl b (f3 b (bB _ h)).1)) (fun _ _=>rfl) mg) jU
      exact o7 (x:=.one (.ref r (R.g+1))) k1 hd hdn (JW ho hcb ha ht0 hu0 hrun) k2 ⟨_,fE .., .inr (bN _)⟩
    ·exact h.elim
   | val _ _ _=>exact h.elim
   | undef=>exact h.elim
   | ptr _ _ _=>exact h.elim
   | fQ _ _ _ _=>exact h.elim
   | lZ _ _ _ _=>exact h.elim
   | pz _=>exact h.elim
   | part _ _ _ _ _=>exact h.elim
   | nI _ _ _ _=>exact h.elim
   | sub _ _ _ _ _ _=>exact h.elim
   | sel _ _ _ _ _ _=>exact h.elim
   | app _ _ _ _=>exact h.elim
   | kG=>exact h.elim
   | fn _ _=>exact h.elim
  | _=>exact h.elim
end
end
section
open Go
variable [Fr]
section
variable {P:Program} {T:bH} {cx:Cx} {Z:St} {J:aH} {F:List Nat} {a:Act} {w:World} {o:Oper} {d:Nat} {ws:List Wr}
def yg (kk:K):List (Nat×eU)->qN kk->Option (qN kk)
 | [],b=>some b
 | (n,tk) :: l,b=>match bU tk.k kk tk.x with
  | some y=>bif Nat.beq n (dS b.xs) then yg kk l { xs:=b.xs++[y],bad:=tk.bad++b.bad,tags:=lM (tk.iP) b.tags,ws:=b.ws++tk.ws,keep:=tk.keep || b.keep,all:=tk.tags++b.all } else none
  | none=>none
theorem aiO {A:Type} {z:A} (H:Rel cx Z J F a w) {kk:K} {k:qN kk->Prog A}:∀{l:List (Nat×AV)} {vs:List Value} {b:qN kk},iN cx Z J F w (l.map (·.2)) vs->(∀v∈l,dQ Z v.2)->(Iw kk l b k).ends Z z->
  ∃(tks:List eU) (b':qN kk),tks.length=l.length/\vs.length=l.length/\(∀it∈vs.zip tks,rX cx Z J F w it.1 it.2)/\yg kk ((l.map (·.1)).zip tks) b=some b'/\(k b').ends Z z:=by
 intro l
 induction l with
 | nil=>
  intro vs b h1 _ h
  cases vs with
  | nil=>exact ⟨[],b,rfl,rfl,by simp,rfl,h⟩
  | cons v vs=>exact h1.elim
 | cons p l ih=>
  obtain ⟨n,x⟩:=p
  intro vs b h1 h2 h
  cases vs with
  | nil=>exact h1.elim
  | cons v vs=>
   simp only [Iw] at h
   obtain ⟨tk,htk,h5⟩:=Ap H h1.1 (h2 (n,x) (by simp)) h
   cases hc:bU tk.k kk tk.x with
   | none=>rw [hc] at h5; exact h5.elim
   | some y=>
    rw [hc] at h5
    simp only at h5
    rcases bD h5 with ⟨hn,h6⟩ | ⟨_,h6⟩
    ·obtain ⟨tks,b',g1,g2,g3,g4,g5⟩:=ih h1.2 (fun v hv=>h2 v (by simp [hv])) h6
     refine ⟨tk :: tks,b',by simp [g1],by simp [g2], ?_, ?_,g5⟩
     ·intro it hit
      rw [BF] at hit
      rcases bT.1 hit with h | h
      ·subst h; exact htk
      ·exact g3 it h
     ·rw [lD,BF]
      unfold yg
      simp only [hc,hn,gJ]
      exact g4
    ·exact h6.elim
theorem aiN {kk:K}:∀(l:List (Nat×eU)) {b b':qN kk},yg kk l b=some b'->
  b'.ws=b.ws++l.flatMap (fun p=>p.2.ws)/\(∀p∈l,∀t∈p.2.tags,t∈b'.all)/\(∀p∈l,∀t∈p.2.bad,t∈b'.bad)/\(∀t∈b.bad,t∈b'.bad)/\
  (∀p∈l,∀t∈p.2.iP,t∈b'.tags)/\(∀t∈b.tags,t∈b'.tags)/\(∀t∈b'.tags,t∈b.tags\/∃p∈l,t∈p.2.iP)/\(∀t∈b.all,t∈b'.all)/\b'.xs.length=b.xs.length+l.length:=by
 intro l
 induction l with
 | nil=>
  intro b b' h
  simp only [yg,au] at h
  subst h
  simp
 | cons p l ih=>
  obtain ⟨n,tk⟩:=p
  intro b b' h
  unfold yg at h
  cases hc:bU tk.k kk tk.x with
  | none=>rw [hc] at h; simp at h
  | some y=>
   rw [hc] at h
   simp only at h
   cases hn:Nat.beq n (dS b.xs) with
   | false=>rw [hn] at h; simp at h
   | true=>
    rw [hn] at h
    simp only [gJ] at h
    obtain ⟨g1,g2,g3,g4,g5,g6,g7,g8,g9⟩:=ih h
    refine ⟨by rw [g1]; simp, ?_, ?_,fun t ht=>g4 t (by simp [ht]), ?_,fun t ht=>g6 t (mD.2 (.inr ht)), ?_,fun t ht=>g8 t (by simp [ht]),by rw [g9]; simp; omega⟩
    ·intro p hp t ht
     rcases bT.1 hp with h | h
     ·subst h; exact g8 t (by simp [ht])
     ·exact g2 p h t ht
    ·intro p hp t ht
     rcases bT.1 hp with h | h
     ·subst h; exact g4 t (by simp [ht])
     ·exact g3 p h t ht
    ·intro p hp t ht
     rcases bT.1 hp with h | h
     ·subst h; exact g6 t (mD.2 (.inl ht))
     ·exact g5 p h t ht
    ·intro t ht
     rcases g7 t ht with h | ⟨p,h1,h2⟩
     ·rcases mD.1 h with h | h
      ·exact .inr ⟨(n,tk),by simp,h⟩
      ·exact .inl h
     ·exact .inr ⟨p,by simp [h1],h2⟩
theorem aiM {h:Heap} {own:List TypeId} {ok:Nat->Prop} {kk:K} {N:Nat} :
  ∀(l:List (Nat×eU)) {vs:List Value} {iG:List (List Nat)} {b b':qN kk} {cells:Array Value} {ay:List (List Nat)},b.xs.length+l.length<=N->cells.size=N * kk.size->ay.length=b.xs.length->
   (∀i (hi:i<b.xs.length),Ow h own ok kk b.xs[i] (iB cells.toList kk.size i) (ay.getD i []))->zh h own ok l vs iG->yg kk l b=some b'->
   ∃cells',Instr.fill (fun i=>some (i * kk.size,kk.size)) cells ((l.map (·.1)).zip vs)=some cells'/\cells'.size=N * kk.size/\(ay++iG).length=b'.xs.length/\
    ∀i (hi:i<b'.xs.length),Ow h own ok kk b'.xs[i] (iB cells'.toList kk.size i) ((ay++iG).getD i []):=by
 intro l
 induction l with
 | nil=>
  intro vs iG b b' cells ay hN hs hf hO hP hb
  cases vs with
  | nil=>
   cases iG with
   | nil=>
    simp only [yg,au] at hb
    subst hb
    exact ⟨cells,rfl,hs,by simpa using hf,by simpa using hO⟩
   | cons f fs=>exact hP.elim
  | cons v vs=>cases iG <;> exact hP.elim
 | cons p l ih=>
  obtain ⟨n,tk⟩:=p
  intro vs iG b b' cells ay hN hs hf hO hP hb
  cases vs with
  | nil=>cases iG <;> exact hP.elim
  | cons v vs=>
   cases iG with
   | nil=>exact hP.elim
   | cons ft iG=>
    obtain ⟨⟨cst,hv,IM⟩,hP'⟩:=hP
    unfold yg at hb
    cases hc:bU tk.k kk tk.x with
    | none=>rw [hc] at hb; simp at hb
    | some y=>
     rw [hc] at hb
     simp only at hb
     cases hn:Nat.beq n (dS b.xs) with
     | false=>rw [hn] at hb; simp at hb
     | true=>
      rw [hn] at hb
      simp only [gJ] at hb
      have en:n=b.xs.length:=by rw [bC hn,qF]
      subst en
      obtain ⟨ek,ey⟩:=jl hc
      have YV:Ow h own ok kk y cst ft:=wS ek ey IM
      have hcl:cst.length=kk.size:=fM YV
      have kF:v.cells=cst.toArray:=by
       have:=hv.cells
       apply u6
       simpa using this
      simp only [gY] at hN
      have hle:(b.xs.length+1) * kk.size<=N * kk.size:=kD _ (by omega)
      rw [iR,m_] at hle
      have hoff:b.xs.length * kk.size+cst.length<=cells.size:=by rw [hs,hcl]; exact hle
      rw [lD,BF,Re (place:=fun i=>some (i * kk.size,kk.size)) (off:=b.xs.length * kk.size) (vs:=cst) (by simp [hcl]) kF hoff]
      have hsz:(cells.toList.take (b.xs.length * kk.size)++(cst++cells.toList.drop (b.xs.length * kk.size+cst.length))).toArray.size=N * kk.size:=by
       simp
       omega
      obtain ⟨cells',g1,g2,g3,g4⟩:=ih (ay:=ay++[ft]) (b:={ xs:=b.xs++[y],bad:=tk.bad++b.bad,tags:=lM (tk.iP) b.tags,ws:=b.ws++tk.ws,keep:=tk.keep || b.keep,all:=tk.tags++b.all }) (by simp; omega) hsz (by simp [hf]) (by
       intro i hi
       simp only [bV,gY,mY,om] at hi
       rw [IG]
       by_cases h0:i<b.xs.length
       ·rw [aj (by rw [hf]; exact h0)]
        have e1:(b.xs++[y])[i]'(by simp; omega)=b.xs[i]:=Bz h0
        show Ow h own ok kk ((b.xs++[y])[i]'(by simp; omega)) _ _
        rw [e1]
        have e2:iB (cells.toList.take (b.xs.length * kk.size)++(cst++cells.toList.drop (b.xs.length * kk.size+cst.length))) kk.size i=iB cells.toList kk.size i:=by
         have hl2:(i+1) * kk.size<=b.xs.length * kk.size:=kD _ (by omega)
         rw [iR,m_] at hl2
         apply HY
         intro j
         by_cases hj:j<kk.size
         ·rw [sM hj,sM hj,y9 (by simp; omega),Mc (by omega)]
         ·unfold iB
          rw [uE (by simp; omega),uE (by simp; omega)]
        simp only
        rw [e2]
        exact hO i h0
       ·have:i=b.xs.length:=by omega
        subst this
        rw [aA (by omega),hf,H7]
        have e1:(b.xs++[y])[b.xs.length]'(by simp)=y:=by simp
        show Ow h own ok kk ((b.xs++[y])[b.xs.length]'(by simp)) _ _
        rw [e1]
        have e2:iB (cells.toList.take (b.xs.length * kk.size)++(cst++cells.toList.drop (b.xs.length * kk.size+cst.length))) kk.size b.xs.length=cst:=by
         have hl:(cells.toList.take (b.xs.length * kk.size)).length=b.xs.length * kk.size:=by simp; omega
         unfold iB
         conv=>lhs; arg 2; arg 1; rw [<-hl]
         rw [List.drop_left, <-hcl,List.take_left]
        simp only
        rw [e2]
        exact YV) hP' hb
      refine ⟨cells',g1,g2, ?_, ?_⟩
      ·rw [<-g3]; simp
      ·intro i hi
       have:=g4 i hi
       simp only [gD,kX,rR] at this
       exact this
end
end
end Go.Proofs.YtailcbngagacaaaGreat.Ow
