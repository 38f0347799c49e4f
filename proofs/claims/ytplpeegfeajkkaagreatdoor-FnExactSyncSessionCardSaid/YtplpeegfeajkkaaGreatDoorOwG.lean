/- A verified reading of translated code, part G of 7. No condition. -/
import Derived.Test.YtplpeegfeajkkaaGreatDoorOwF
import Derived.Conc.MuLone
import Derived.ChangeArms
import Derived.ChangeReads
import Derived.ChangeOld
import Derived.ChangeSame
import Derived.DataShut
set_option linter.unusedSectionVars false
set_option linter.unusedVariables false
set_option linter.unusedSimpArgs false
namespace Go.Proofs.YtplpeegfeajkkaaGreatDoor.Ow
section
open Go
variable [Fr]
section
variable {P:Program}{T:bL}{hi:Hint}{n:Nat}{cx:Cx}{Z:St}{J:aO}{F:List Nat}{a:Act}{w:World}
theorem Z9{i:Nat}{R:Root}(h:Nw Z i=some R):Z.roots (aa i)=some R/\dF Z R:=by
 unfold Nw at h
 split at h
 ·rename_i Q hQ
  cases hb:Q.cZ || !dG Z Q.qR Q.tags with
  |true=>rw[hb]at h;simp at h
  |false=>
   rw[hb]at h
   simp only[jV,au]at h
   subst h
   simp only[za,Bool.not_eq_false']at hb
   exact⟨hQ,hb⟩
 ·simp at h
theorem Nv:∀{ps:List aD} {i:Nat} {d:Cont (gI ps)},m_ Z ps i=some d->rZ Z ps i d:=by
 intro ps
 induction ps with
 |nil=>intro i d _;trivial
 |cons p ps ih=>
  intro i d h
  cases p with
  |val k bJ=>exact ih (show m_ Z ps (i+1)=some d from h)
  |ro k=>exact ih (show m_ Z ps (i+1)=some d from h)
  |own k ow=>exact ih (show m_ Z ps (i+1)=some d from h)
  |fn f ks=>exact ih (show m_ Z ps (i+1)=some d from h)
  |into j q=>exact ih (show m_ Z ps (i+1)=some d from h)
  |rw k ow wt ht=>
   simp only[m_]at h
   split at h
   ·rename_i R d' hR hd
    obtain⟨hb,h⟩:=zR h
    simp only[bB,oD]at hb
    obtain⟨⟨b1,b2⟩,b3⟩:=hb
    obtain⟨r1,r2⟩:=Z9 hR
    split at h
    ·rename_i x hx
     have h2:(x,d')=d:=jc h
     subst h2
     exact⟨⟨R,r1,r2,ji hx,b1,b2,b3⟩,ih hd⟩
    ·simp at h
   ·simp at h
  |bO k ow wt=>
   simp only[m_]at h
   split at h
   ·rename_i R d' hR hd
    obtain⟨hb,h⟩:=zR h
    simp only[bB,oD]at hb
    obtain⟨⟨b1,b2⟩,b3⟩:=hb
    obtain⟨r1,r2⟩:=Z9 hR
    split at h
    ·rename_i x hx
     have h2:(x,d')=d:=jc h
     subst h2
     exact⟨⟨R,r1,r2,ji hx,b1,b2,b3⟩,ih hd⟩
    ·simp at h
   ·simp at h
theorem OQ{fn:Func}{vs:List Value}(h:(fn.results.toList.mapM (FT a)).run P w=.ok vs w):(results fn a.tmps).run P w=.ok (C8 vs) w:=by
 have h2:results fn a.tmps=(do
   let vs <-fn.results.mapM (FT a)
   pure (if h:vs.size=1 then vs[0]else .tuple vs)):=by
  unfold results
  congr 1
 rw[h2,Array.mapM_eq_mapM_toList]
 simp only[dZ,map_eq_pure_bind,h,gu,fH]
 match vs with
 | []=>rfl
 | [v]=>rfl
 |v :: u :: vs=>simp[C8]
theorem amS(hT:fT P T)(H:Rel cx Z J F a w){ps:List aD}{rs:List bN}{fn:Func}{out:Cont (eU rs++gI ps)}(h:fin T ps rs fn.results.toList Z=some out) :
  ∃v,(results fn a.tmps).run P w=.ok v w/\Post cx ps rs out v w:=by
 unfold fin at h
 obtain⟨q,h1,h2⟩:=Az _ h
 obtain⟨c,vs,its,jX,f1,f2⟩:=amQ (P:=P) hT H h1
 rcases bF f2 with⟨hb,f2⟩|⟨_,f2⟩
 ·have f2:q=_:=f2
  subst f2
  have e1:(its.map (·.2)).flatMap (·.ws)=fB its:=by simp[fB,List.flatMap_map]
  have e2:(its.map (·.2)).flatMap (·.tags)=oz its:=by simp[oz,List.flatMap_map]
  rw[e1,e2]at hb
  simp only[e1]at h2
  unfold tH zN at hb
  simp only[bB,II,eX,lI,gJ]at hb
  obtain⟨b1,b2⟩:=hb
  have sN:∀{rs:List bN} {gK:List ResultVar} {c:Cont (eU rs)} {vs:List Value} {its:List (Value×fC)} {jX:List (List Tag)},Bz P cx Z J F a w rs gK c vs its jX->∀it∈its,su cx Z J F w it.1 it.2:=by
   intro rs
   induction rs with
   |nil=>intro gK c vs its jX h it hi;cases gK<;>cases vs<;>cases its<;>first|exact h.elim|simp at hi
   |cons r rs ih=>
    intro gK c vs its jX h it hi
    cases r with
    |into _ _=>cases gK<;>cases vs<;>exact h.elim
    |ptr _ _ _ _=>cases gK<;>cases vs<;>exact h.elim
    |val kk exts bJ=>
     cases gK<;>cases vs<;>cases jX<;>first|exact h.elim|exact ih h.2 it hi
    |own kk ow exts bJ=>
     cases gK<;>cases vs<;>cases its<;>first|exact h.elim|skip
     rcases bW.1 hi with h3|h3
     ·subst h3;rw[h.1.2.1];exact h.1.2.2.1
     ·exact ih h.2 it h3
  obtain⟨aP,F1,hs,H1,g1,g2,g3,g4,g5,g6,g7,g8,g9⟩:=takes its H (sN f1) b1 (λt ht=>b2 t (bQ _ ht))
  obtain⟨ay,k1,k2,k3,k4⟩:=amR H1 g7 f1 g1 (λt ht=>g5 t.1 (b2 t (bH _ ht)))
  split at h2
  ·rename_i d hd
   simp only[au]at h2
   subst h2
   refine⟨C8 vs,OQ k4,_,aP,F1,a,vs,ay,H1,rfl,by rw[EI];exact k1,by rw[k2];exact g2,k3,by rw[F4];exact Nv hd⟩
  ·simp at h2
 ·exact f2.elim
theorem aq6{A:Type}{z:A}{t:TypeId}{kk:K}{ow:List TypeId}{exts:List Nat}{x:AV}{v:Value}{k:El kk->Nat->Prog A}(hx:a_ cx Z J F w x v)(h:(OH t kk ow exts x k).ends Z z) :
  ∃r R y b o,aX Z r R/\dF Z R/\R.kind=.var t/\iM (kk.tys.filter λt=>ah t ow) R.own=true/\((kk.tys.all λt=>ah t ow)=true\/rU exts [] R.tags=true)/\(∃e:R.k=kk,y=e▸R.x)/\aS J R r=some (b,o)/\v=.pointer (some ⟨b,o,none⟩)/\(k y r).ends Z z:=by
 cases x with
 |ptr r p n=>
  cases p with
  |cons s p=>exact h.elim
  |nil=>
   unfold OH at h
   obtain⟨R,hr,hv,h⟩:=iA h
   rcases bF h with⟨hb,h⟩|⟨_,h⟩
   ·simp only[bB,oD]at hb
    obtain⟨⟨b1,b2⟩,b3⟩:=hb
    have hk:R.kind=.var t:=by
     unfold Root.abD at b1
     split at b1
     ·rename_i u hu;rw[hu,bD b1]
     ·simp at b1
    cases hc:b_ R.k kk R.x with
    |none=>rw[hc]at h;exact h.elim
    |some y=>
     rw[hc]at h
     obtain⟨_,cs,b,o,hn,e⟩:=hx.2 R hr.1 hv (by unfold iL clean;simp[ah]) (λt ht=>by simp[az]at ht) rfl
     simp only[aW,au,bZ]at hn
     exact⟨r,R,y,b,o,hr,hv,hk,b2,b3,ji hc,hn.2,e,h⟩
   ·exact h.elim
 |_=>exact h.elim
theorem alm(H:Rel cx Z J F a w){j:Nat}{x:AV}{v:Value}{m:Int}(hx:a_ cx Z J F w x v)(h:(cutV j x λm=>(.ret m:Prog Int)).ends Z m) :
  ∃b n cp,v=.slice b m.toNat cp/\m.toNat<=n/\a_ cx Z J F w (.ref (aa j) 0) (.slice b n cp):=by
 cases x with
 |ref r g=>
  simp only[cutV]at h
  rcases bF h with⟨hc,h5⟩|⟨_,h5⟩
  ·clear h
   simp only[bB]at hc
   have e1:=bD hc.1
   have e2:=bD hc.2
   subst e1 e2
   obtain⟨R,hr,hv,h⟩:=iA h5
   rcases bF h with⟨hg,h⟩|⟨_,h⟩
   ·obtain⟨h1,h2⟩:=hx R hr (bD hg)
    have hO:=(H.roots _ R hr).ow hv
    have hK:∀q:Dat,(⟨R.k,R.x⟩:Dat)=q->(match q.1,q.2 with
      |.sl _ kk,xs=>(.ret ((show List (El kk)from xs).length:Int):Prog Int)
      |_,_=>.fail).ends Z m->∃b n cp,v=.slice b m.toNat cp/\m.toNat<=n/\a_ cx Z J F w (.ref (aa j) 0) (.slice b n cp):=by
     intro q hq hh
     obtain⟨qk,qx⟩:=q
     cases qk with
     |sl e kk=>
      have hm:m=((show List (El kk)from qx).length:Int):=hh
      have hV:=qE (λ_=>True) (λ_ _=>trivial) (λ_ _=>trivial) hO
      have hV:=cast (congrArg (λq:Dat=>Vw (hp w) (λ_=>True) q.1 q.2 (J.hdr (aa j))) hq) hV
      have jO:=cast (congrArg (λq:Dat=>VC q.1 v (J.hdr (aa j))) hq) h2
      obtain⟨b,n,c,g1,g2,g3,_⟩:=hV
      have jO:VC (.sl e kk) v (J.hdr (aa j)):=jO
      have g1:J.hdr (aa j)=[.slice b n c]:=g1
      have h3:=jO.1
      rw[g1]at h3
      simp only[jr,fM]at h3
      have g2:n=(show List (El kk)from qx).length:=g2
      refine⟨b,n,c,by rw[hm,<-g2];simpa using h3.symm,by rw[hm,<-g2];simp,by rw[h3];exact hx⟩
     |_=>exact hh.elim
    exact hK _ rfl h
   ·exact h.elim
  ·exact h5.elim
 |part r g lo hi sz=>
  simp only[cutV]at h
  rcases bF h with⟨hc,h5⟩|⟨_,h5⟩
  ·clear h
   simp only[bB]at hc
   have e1:=bD hc.1.1
   have e2:=bD hc.1.2
   have e3:=bD hc.2
   subst e1 e2 e3
   have hm:m=(hi:Int):=h5
   obtain⟨b',b,n,c,g1,g2,g3,g4,g5,g6⟩:=hx
   have hb:b'=b:=by rw[g2 (.inl rfl)];simp[add_zero]
   subst hb
   exact⟨b',n,c,by rw[g1,hm];simp,by rw[hm];simpa using g4,g6⟩
  ·exact h5.elim
 |_=>exact h.elim
theorem aeC:∀{p:List (Option Nat)} {q:List Stp},ou p q=some none->∀m,sZ p m=q
 | [],[],_,_=>rfl
 | [],_ :: _,h,_=>by simp[ou]at h
 |some n :: p,[],h,_=>by simp[ou]at h
 |some n :: p,.idx i :: q,h,_=>by simp[ou]at h
 |some n :: p,.aY m :: q,h,k=>by
  have h':(bif Nat.beq n m then ou p q else none)=some none:=h
  cases hb:Nat.beq n m with
  |false=>rw[hb]at h';simp at h'
  |true=>
   rw[hb]at h'
   have:=bD hb
   subst this
   show Stp.aY n :: sZ p k=_
   rw[aeC (p:=p) (q:=q) h']
 |none :: p,[],h,_=>by simp[ou]at h
 |none :: p,.aY i :: q,h,_=>by simp[ou]at h
 |none :: p,.idx i :: q,h,_=>by
  simp only[ou]at h
  split at h<;>simp at h
theorem aeD:∀{p:List (Option Nat)} {q:List Stp} {i:Int},ou p q=some (some i)->sZ p i=q/\∀{k:K} {x:El k},(aB q k x).isSome=true->az q k≠[]
 | [],[],_,h=>by simp[ou]at h
 | [],_ :: _,_,h=>by simp[ou]at h
 |some n :: p,[],_,h=>by simp[ou]at h
 |some n :: p,.idx i :: q,_,h=>by simp[ou]at h
 |some n :: p,.aY m :: q,i,h=>by
  have h':(bif Nat.beq n m then ou p q else none)=some (some i):=h
  cases hb:Nat.beq n m with
  |false=>rw[hb]at h';simp at h'
  |true=>
   rw[hb]at h'
   have:=bD hb
   subst this
   obtain⟨g1,g2⟩:=aeD (p:=p) (q:=q) h'
   refine⟨by show Stp.aY n :: sZ p i=_;rw[g1],λ{k} {x} hx=>?_⟩
   cases k with
   |st c=>
    simp only[aB]at hx
    cases hg:aU n c x with
    |none=>rw[hg]at hx;simp at hx
    |some s=>
     rw[hg]at hx
     simp only[az,kL n hg]
     exact g2 hx
   |_=>simp[aB]at hx
 |none :: p,[],_,h=>by simp[ou]at h
 |none :: p,.aY i :: q,_,h=>by simp[ou]at h
 |none :: p,.idx i :: q,j,h=>by
  simp only[ou]at h
  split at h
  ·rename_i h2
   simp only[au]at h
   subst h
   refine⟨by show Stp.idx i :: sZ p i=_;rw[aeC h2],λ{k} {x} hx=>?_⟩
   cases k with
   |sl e k=>simp[az]
   |_=>simp[aB]at hx
  ·simp at h
theorem apo{j:Nat}{p:List (Option Nat)}{x:AV}{v:Value}{m:Int}(hx:a_ cx Z J F w x v)(h:(Oe j p x λm=>(.ret m:Prog Int)).ends Z m):Qj Z J w j p m v:=by
 cases x with
 |jA=>
  have hm:m=-1:=h
  exact .inl ⟨by omega,hx⟩
 |ptr r q n=>
  simp only[Oe]at h
  rcases bF h with⟨hc,h⟩|⟨_,h⟩
  ·have e1:=bD hc
   subst e1
   obtain⟨R,hr,hv,h⟩:=iA h
   rcases bF h with⟨hc,h⟩|⟨_,h⟩
   ·simp only[bB]at hc
    obtain⟨⟨c1,c2⟩,c3⟩:=hc
    split at h
    ·rename_i i ht
     obtain⟨h0,h⟩:=h
     have hm:m=i:=h
     subst hm
     obtain⟨g1,g2⟩:=aeD ht
     obtain⟨dn,cs,b,o,hn,ev⟩:=hx.2 R hr.1 hv c1 (pM c2) c3
     exact .inr ⟨h0,R,cs,b,o,hr,by rw[g1];exact dn,by rw[g1];exact g2 c3,by rw[g1];exact hn,ev⟩
    ·exact h.elim
   ·exact h.elim
  ·exact h.elim
 |_=>exact h.elim
theorem amP(hT:fT P T)(H:Rel cx Z J F a w){ps:List aD}{rs:List bN}{fn:Func}{out:Cont (eU rs++gI ps)}(h:Nu T ps rs fn.results.toList Z=some out) :
  ∃v,(results fn a.tmps).run P w=.ok v w/\Post cx ps rs out v w:=by
 obtain⟨gK,wo⟩:∃gK,fn.results.toList=gK:=⟨_,rfl⟩
 rw[wo]at h
 have other:fin T ps rs gK Z=some out->∃v,(results fn a.tmps).run P w=.ok v w/\Post cx ps rs out v w:=λh=>amS hT H (by rw[wo];exact h)
 cases rs with
 |nil=>exact other h
 |cons q rs=>
  cases q with
  |val _ _ _=>exact other h
  |own _ _ _ _=>exact other h
  |into j q=>
   cases rs with
   |cons _ _=>cases q<;>exact other h
   |nil=>
    cases q with
    |cons t q=>
     match gK,wo,h,other with
     | [],_,h,other=>exact other h
     |_ :: _ :: _,_,h,other=>exact other h
     | [rv],wo,h,_=>
      have h:((yX T false rv λa=>Oe j (t :: q) a λm=>.ret m:Prog Int).run Z λm=>
        match m_ Z ps 0 with
        |some d=>some (m,d)
        |none=>none)=some out:=h
      obtain⟨m,h1,h2⟩:=Az _ h
      obtain⟨y,u,g1,g2,_,h1⟩:=Kh hT H h1
      have hI:=apo g2 h1
      split at h2
      ·rename_i d hd
       have h2:some ((m,d):Cont (eU [bN.into j (t :: q)]++gI ps))=some out:=h2
       have h2:=jc h2
       subst h2
       exact⟨_,OQ (vs:=[_]) (by rw[wo];simp[Ip,g1,Result.andThen]),_,_,_,a,[_],[[]],H,rfl,⟨⟨rfl,.inr ⟨by simp,hI⟩⟩,trivial⟩,by simp,by simp,Nv hd⟩
      ·simp at h2
    |nil=>
     match gK,wo,h,other with
     | [],_,h,other=>exact other h
     |_ :: _ :: _,_,h,other=>exact other h
     | [rv],wo,h,_=>
      have h:((yX T false rv λa=>cutV j a λm=>.ret m:Prog Int).run Z λm=>
        match m_ Z ps 0 with
        |some d=>some (m,d)
        |none=>none)=some out:=h
      obtain⟨m,h1,h2⟩:=Az _ h
      obtain⟨y,u,g1,g2,_,h1⟩:=Kh hT H h1
      obtain⟨b,n,cp,e1,e2,e3⟩:=alm H g2 h1
      split at h2
      ·rename_i d hd
       have h2:some ((m,d):Cont (eU [bN.into j []]++gI ps))=some out:=h2
       have h2:=jc h2
       subst h2
       exact⟨_,OQ (vs:=[_]) (by rw[wo];simp[Ip,g1,Result.andThen]),_,_,_,a,[_],[[]],H,rfl,⟨⟨rfl,.inl ⟨rfl,b,n,cp,e1,e2,e3⟩⟩,trivial⟩,by simp,by simp,Nv hd⟩
      ·simp at h2
  |ptr t kk ow exts=>
   cases rs with
   |cons _ _=>exact other h
   |nil=>
    match gK,wo,h,other with
    | [],_,h,other=>exact other h
    |_ :: _ :: _,_,h,other=>exact other h
    | [rv],wo,h,_=>
     have h:((yX T false rv λa=>OH t kk ow exts a λy r=>.ret (y,r):Prog (El kk×Nat)).run Z λq=>
       match m_ (aL [.r q.2 none] Z) ps 0 with
       |some d=>some (q.1,d)
       |none=>none)=some out:=h
     obtain⟨q,h1,h2⟩:=Az _ h
     obtain⟨y,u,g1,g2,_,h1⟩:=Kh hT H h1
     obtain⟨r,R,x,b,o,hr,hv,hk,b2,b3,ex,iH,rfl,h1⟩:=aq6 g2 h1
     have h1:q=(x,r):=h1
     subst h1
     obtain⟨k1,k2,k3,k4⟩:=apD H hr (by rw[hk];simp) hv
     have hblk:blk J R r=b :: J.fo r:=by unfold blk;rw[iH];rfl
     have K:=H.roots r R hr
     have hnd:=K.nd
     rw[hblk]at hnd
     split at h2
     ·rename_i d hd
      have h2:some ((x,d):Cont (eU [bN.ptr t kk ow exts]++gI ps))=some out:=h2
      have h2:=jc h2
      subst h2
      refine⟨_,OQ (vs:=[_]) (by rw[wo];simp[Ip,g1,Result.andThen]),_,_,_,a,[_],[b :: J.fo r],k1,rfl,⟨⟨b,o,R.tags,J.hdr r,R.own,J.fo r,rfl,rfl,b3,?_,?_,?_⟩,trivial⟩,by simpa using hnd,?_,Nv hd⟩
      ·intro u hu hm
       exact dh.2 (rT.1 b2 u (eH.2 ⟨hu,hm⟩))
      ·obtain⟨m1,arr,e,lo,hi,m2,m3,m4,m5⟩:=K.mem b o iH
       obtain⟨ek,_⟩:=ex
       exact⟨m1,arr,e,lo,hi,m2,m3,by rw[<-ek];exact m4,m5 t hk⟩
      ·obtain⟨ek,ey⟩:=ex
       subst ek
       simp only at ey
       subst ey
       exact k3.ow k4
      ·intro c hc
       simp only[nO,MN,iq]at hc
       exact bQ _ (by rw[hblk];exact hc)
     ·simp at h2
def Cx.wC(cx:Cx)(m:Nat):Cx:={ cx with nt:=m }
theorem RG{m:Nat}:∀{cs:List (TypeId×Dat×List Tag)} {vs:List Value},nJ (cx.wC m) Z J F w cs vs↔nJ cx Z J F w cs vs
 | [],[]=>Iff.rfl
 |c :: cs,v :: vs=>and_congr Iff.rfl RG
 | [],_ :: _=>Iff.rfl
 |_ :: _,[]=>Iff.rfl
theorem VI{m:Nat}{x:AV}{v:Value}:a_ (cx.wC m) Z J F w x v↔a_ cx Z J F w x v:=by
 cases x with
 |fn f cs=>
  constructor
  ·rintro⟨vs,h1,h2⟩;exact⟨vs,h1,RG.1 h2⟩
  ·rintro⟨vs,h1,h2⟩;exact⟨vs,h1,RG.2 h2⟩
 |_=>exact Iff.rfl
theorem JR{m:Nat}:∀{l:List AV} {vs:List Value},iP (cx.wC m) Z J F w l vs↔iP cx Z J F w l vs
 | [],[]=>Iff.rfl
 |c :: cs,v :: vs=>and_congr VI JR
 | [],_ :: _=>Iff.rfl
 |_ :: _,[]=>Iff.rfl
theorem aeW{m:Nat}{x:gU}{v:Value}:jo (cx.wC m) Z J F w x v↔jo cx Z J F w x v:=by
 cases x with
 |one x=>exact VI
 |mO l=>
  constructor
  ·rintro⟨vs,h1,h2⟩;exact⟨vs,h1,JR.1 h2⟩
  ·rintro⟨vs,h1,h2⟩;exact⟨vs,h1,JR.2 h2⟩
 |lit _ _ l=>
  constructor
  ·rintro⟨vs,cs,h1,h2⟩;exact⟨vs,cs,h1,JR.1 h2⟩
  ·rintro⟨vs,cs,h1,h2⟩;exact⟨vs,cs,h1,JR.2 h2⟩
theorem Rel.wC{a':Act}(H:Rel cx Z J F a w){m:Nat}(hd:a'.defers=[])(hm:m<=a'.tmps.size)(hs:∀s,a'.tmps.getD s undef=a.tmps.getD s undef):Rel (cx.wC m) Z J F a' w where
 defs:=hd
 sz:=hm
 kI:=H.kI
 sW:=H.sW
 slots:=λs=>by rw[hs s];exact aeW.2 (H.slots s)
 tJ:=H.tJ
 roots:=λr R hr=>by
  obtain⟨o1,o2,o3,o4,o5⟩:=H.roots r R hr
  exact⟨o1,o2,o3,o4,o5⟩
 gz:=H.gz
 lN:=H.lN
 fl:=H.fl
 iw:=H.iw
 fI:=H.fI
 frame:=H.frame
 qj:=H.qj
 mJ:=H.mJ
 rJ:=H.rJ
 rM:=H.rM
theorem apm:∀{ps:List aD} {i:Nat} {c:Cont (kin ps)} {r:Nat} {R:Root},iJ (iI ps i c) r=some R->∃j p cj,r=aa (i+j)/\ps[j]?=some p/\kG p (i+j) cj=some R:=by
 intro ps
 induction ps with
 |nil=>intro i c r R h;simp[iI,iJ]at h
 |cons p ps ih=>
  intro i c r R h
  rw[JE,JV]at h
  have hrec:iJ (iI ps (i+1) (AL p ps c)) r=some R->∃j q cj,r=aa (i+j)/\(p :: ps)[j]?=some q/\kG q (i+j) cj=some R:=by
   intro h
   obtain⟨j,q,cj,h1,h2,h3⟩:=ih h
   have e:i+1+j=i+(j+1):=by omega
   exact⟨j+1,q,cj,by rw[h1,e],by simpa using h2,by rw[<-e];exact h3⟩
  cases hr:kG p i (v_ p ps c)with
  |none=>rw[hr]at h;exact hrec h
  |some Q=>
   rw[hr]at h
   simp only[iJ]at h
   cases hb:Nat.beq r (aa i)with
   |true=>
    rw[hb]at h
    have h':Q=R:=by simpa using h
    exact⟨0,p,v_ p ps c,bD hb,rfl,by rw[<-h'];exact hr⟩
   |false=>rw[hb]at h;exact hrec h
theorem amV:∀{ps:List aD} {i j:Nat} {k:K},wW ps j k->∃l,oN (aa (i+j)) (wG ps i)=some (k,l):=by
 intro ps
 induction ps with
 |nil=>intro i j k h;obtain⟨ow,wt,ht,h|h⟩:=h<;>simp at h
 |cons p ps ih=>
  intro i j k h
  have hne:∀j,Nat.beq (aa (i+(j+1))) (aa i)=false:=λj=>by
   cases h:Nat.beq (aa (i+(j+1))) (aa i)with
   |true=>
    have:=bD h
    unfold aa at this
    omega
   |false=>rfl
  cases j with
  |zero=>
   obtain⟨ow,wt,ht,h|h⟩:=h
   ·simp only[qA,au]at h
    subst h
    exact⟨(wt,ht),by simp[wG,oN]⟩
   ·simp only[qA,au]at h
    subst h
    exact⟨(wt,k.tys),by simp[wG,oN]⟩
  |succ j=>
   have h':wW ps j k:=by
    obtain⟨ow,wt,ht,h⟩:=h
    exact⟨ow,wt,ht,by simpa using h⟩
   obtain⟨l,hl⟩:=ih (i:=i+1) h'
   have e:i+1+j=i+(j+1):=by omega
   rw[e]at hl
   cases p<;>first|exact⟨l,by simp only[wG,oN,hne j,jV];exact hl⟩|exact⟨l,hl⟩
theorem aqY{ps:List aD}{c:Cont (kin ps)}(hP:D9 cx ps)(H:Rel cx (fu ps c) J F a w)(m:Nat):QU (cx.wC m) (wG ps 0):=by
 have hf:∀{j:Nat} {k:K},wW ps j k->∃l,oN (aa j) (wG ps 0)=some (k,l):=λ{j} {k} h=>by
  have:=amV (i:=0) h
  simpa using this
 refine⟨λj pi hj h=>?_,λj p ts v hv=>?_,λj v hv=>?_⟩
 ·rcases h with h|⟨⟨b,o,n⟩,h⟩
  ·obtain⟨k,hk⟩:=hP.par j pi hj h
   obtain⟨l,hl⟩:=hf hk
   exact⟨_,hl⟩
  ·obtain⟨R,hR,hk,_⟩:=H.kI j pi b o n hj h
   obtain⟨j',p,cj,h1,h2,h3⟩:=apm (show iJ (iI ps 0 c) (aa j)=some R from hR.1)
   have e:j=j':=by unfold aa at h1;omega
   subst e
   have:∃k,wW ps j k:=by
    cases p with
    |rw k ow wt ht=>exact⟨k,ow,wt,ht,.inl h2⟩
    |bO k ow wt=>exact⟨k,ow,wt,[],.inr h2⟩
    |own k ow=>
     have h4:=jc h3
     rw[<-h4]at hk
     simp[bP]at hk
    |_=>simp[kG]at h3
   obtain⟨k,hk⟩:=this
   obtain⟨l,hl⟩:=hf hk
   exact⟨_,hl⟩
 ·obtain⟨k,hk,e⟩:=hP.ptr j p ts v hv
  obtain⟨l,hl⟩:=hf hk
  exact⟨k,l,hl,e⟩
 ·obtain⟨k,hk⟩:=hP.ref j v hv
  obtain⟨l,hl⟩:=hf hk
  exact⟨_,hl⟩
theorem ZP(hm:P.follows .mixedOrders=true)(hT:fT P T)(hSt:wZ P T){E:Entry}{fn:Func}(hf:P.funcs[E.f]?=some fn)(hname:(fn.name == "runtime.NumGoroutine")=false){m:Nat}(hC:xQ P m hi)
  (hF:∀c out,E.F n c=some out->Ey T hi fn E.ps E.rs m c=some out):aA P n E:=by
 intro c out hout cx J args w hnt hw hsz hP H
 have h:=hF c out hout
 unfold Ey at h
 cases hb:fn.body with
 |none=>rw[hb]at h;simp at h
 |some code=>
  rw[hb]at h
  simp only at h
  refine .inl ⟨Go.MuLone.run_callFunc_enter hf hname hb args w,calls_of_wp hf hb ?_⟩
  have H2:Rel (cx.wC fn.ntmps) (fu E.ps c) J [] { tmps:=args++Array.replicate (fn.ntmps-args.size) undef,defers:=[] } w:=by
   refine H.wC rfl (by simp;omega) λs=>?_
   simp only[Gi]
   rw[Array.getElem?_append]
   split
   ·rfl
   ·rename_i hlt
    rw[Array.getElem?_eq_none (by omega:args.size<=s)]
    rw[Array.getElem?_replicate]
    split<;>rfl
  have hC':xQ P m { hi with nt:=fn.ntmps,f_:=wG E.ps 0 }:=hC
  refine wp_mono (aly aks hm hT hSt hC' rfl (aqY hP H _) code 0 h H2) ?_
  have hend:∀{Z':St} {J':aO} {F':List Nat} {a':Act} {w':World},Nu T E.ps E.rs fn.results.toList Z'=some out->Rel (cx.wC fn.ntmps) Z' J' F' a' w'->
    a'.defers=[]/\∃v,(results fn a'.tmps).run P w'=.ok v w'/\∃v',Ending.returned v=.returned v'/\Post cx E.ps E.rs out v' w':=by
   intro Z' J' F' a' w' h1 H3
   have H4:Rel cx Z' J' F' a' w':=by
    have:=H3.wC (m:=0) (a':=a') H3.defs (fQ _) (λ_=>rfl)
    obtain⟨nt,w0,ext,par,ptrs,refs⟩:=cx
    simp only at hnt
    subst hnt
    exact this
   obtain⟨v,v1,v2⟩:=amP (P:=P) hT H4 h1
   exact⟨H3.defs,v,v1,v,rfl,v2⟩
  rintro e a' w' ⟨ex,Z',J',F',h1,h2,h3⟩
  cases e<;>simp only[IX,au,reduceCtorEq]at h1
  ·subst h1;exact hend h2 h3
  ·subst h1;simp at h2
  ·subst h1;exact hend h2 h3
end
end
section
open Go
variable [Fr]
def vP(W:World):(ps:List aD)->Cont (kin ps)->List Value->Prop
 | [],_,[]=>True
 |.val k [] :: ps,c,v :: vs=>(∃cs,VC k v cs/\Vw (hp W) (λb=>b<W.heap.size) k c.1 cs)/\vP W ps c.2 vs
 |_,_,_=>False
def zB(W W':World):Prop:=W'.os=W.os/\W'.output=W.output/\W.heap.size<=W'.heap.size/\∀b,b<W.heap.size->hp W' b=hp W b
def wu(W:World):Cx:={ nt:=0,w0:=W,ext:=λ_ b=>b<W.heap.size,par:=λ_=>none,ptrs:=λ_ _ _ _=>False,refs:=λ_ _=>False }
def UA:aO:={ loc:=λ_=>(0,0),hdr:=λ_=>[],fo:=λ_=>[] }
section
variable {P:Program}{W:World}
theorem vP.roots:∀{ps:List aD} {c:Cont (kin ps)} {vs:List Value} {i:Nat},vP W ps c vs->iI ps i c=[]/\vs.length=ps.length
 | [],_,[],_,_=>⟨rfl,rfl⟩
 | [],_,_ :: _,_,h=>h.elim
 |.val k [] :: ps,c,v :: vs,i,h=>by
  obtain⟨h1,h2⟩:=vP.roots (i:=i+1) h.2
  exact⟨h1,by simp[h2]⟩
 |.val k (_ :: _) :: ps,c,vs,_,h=>by cases vs<;>exact h.elim
 |.val k [] :: ps,c,[],_,h=>h.elim
 |.ro _ :: _,_,vs,_,h=>by cases vs<;>exact h.elim
 |.rw _ _ _ _ :: _,_,vs,_,h=>by cases vs<;>exact h.elim
 |.bO _ _ _ :: _,_,vs,_,h=>by cases vs<;>exact h.elim
 |.own _ _ :: _,_,vs,_,h=>by cases vs<;>exact h.elim
 |.fn _ _ :: _,_,vs,_,h=>by cases vs<;>exact h.elim
 |.into _ _ :: _,_,vs,_,h=>by cases vs<;>exact h.elim
theorem vP.slots{Z:St}(hσ:∀r R,¬aX Z r R):∀{ps:List aD} {c:Cont (kin ps)} {vs:List Value} {i:Nat},vP W ps c vs->∀s,(∀v,vs[s-i]?=some v->i<=s->jo (wu W) Z UA [] W (lD (iU ps i c) s) v)/\((vs[s-i]?=none\/s<i)->lD (iU ps i c) s=.one .undef)/\nI Z (lD (iU ps i c) s)
 | [],_,[],_,_=>λs=>⟨λv h=>by simp at h,λ_=>rfl,trivial⟩
 | [],_,_ :: _,_,h=>h.elim
 |.val k [] :: ps,c,v :: vs,i,h=>by
  intro s
  have ih:=vP.slots hσ (i:=i+1) h.2 s
  simp only[iU,lD]
  cases hb:Nat.beq s i with
  |true=>
   have:=bD hb
   subst this
   simp only[Iq,qA,au,gP]
   refine⟨λu hu _=>?_,λh=>by rcases h with h|h;simp at h;omega,?_⟩
   ·subst hu
    intro _
    obtain⟨cs,h1,h2⟩:=h.1
    refine⟨cs,h1,?_⟩
    cases hf:k.flat with
    |true=>exact nG hf h2
    |false=>
     refine lJ (λ_ _=>rfl) (λb hb=>⟨hb,by simp,?_,λr R hr=>absurd hr (hσ r R),λ_=>.inl ⟨s,0,by simp,hb⟩⟩) h2
     rintro⟨j,pi,o,n,h3,_⟩
     simp[wu]at h3
   ·intro t ht
    cases hf:k.flat with
    |true=>rw[hf]at ht;simp at ht
    |false=>
     rw[hf]at ht
     simp only[jV,List.map_nil,iD]at ht
     subst ht
     exact .inl (uY s)
  |false=>
   have hne:=M0 hb
   simp only[jV]
   refine⟨λu hu hle=>?_,λhh=>?_,ih.2.2⟩
   ·refine ih.1 u ?_ (by omega)
    have e:s-i=(s-(i+1))+1:=by omega
    rw[e]at hu
    simpa using hu
   ·refine ih.2.1 ?_
    rcases hh with hh|hh
    ·by_cases hlt:s<i
     ·exact .inr (by omega)
     ·have e:s-i=(s-(i+1))+1:=by omega
      rw[e]at hh
      exact .inl (by simpa using hh)
    ·exact .inr (by omega)
 |.val k (_ :: _) :: ps,c,vs,_,h=>by cases vs<;>exact h.elim
 |.val k [] :: ps,c,[],_,h=>h.elim
 |.ro _ :: _,_,vs,_,h=>by cases vs<;>exact h.elim
 |.rw _ _ _ _ :: _,_,vs,_,h=>by cases vs<;>exact h.elim
 |.bO _ _ _ :: _,_,vs,_,h=>by cases vs<;>exact h.elim
 |.own _ _ :: _,_,vs,_,h=>by cases vs<;>exact h.elim
 |.fn _ _ :: _,_,vs,_,h=>by cases vs<;>exact h.elim
 |.into _ _ :: _,_,vs,_,h=>by cases vs<;>exact h.elim
theorem apK(hfr:∀b,Fr.free b->b<W.heap.size/\hp W b=Fr.obj b){ps:List aD}{c:Cont (kin ps)}{args:Array Value}(hV:vP W ps c args.toList):Rel (wu W) (fu ps c) UA [] ⟨args,[]⟩ W:=by
 have hr0:∀r,(fu ps c).roots r=none:=λr=>by
  show iJ (iI ps 0 c) r=none
  rw[(hV.roots (i:=0)).1]
  rfl
 have hno:∀r R,¬aX (fu ps c) r R:=λr R h=>by have h2:=h.1;rw[hr0 r]at h2;simp at h2
 have hs:=λs=>vP.slots hno (i:=0) hV s
 refine⟨rfl,fQ _,λj pi b o n h=>by simp[wu]at h,λr R h=>absurd h (hno r R),λs=>?_,λs=>(hs s).2.2,λr R h=>absurd h (hno r R),λr R h=>by rw[hr0 r]at h;simp at h,
  λr R _ _ h=>absurd h (hno r R),λb h=>by simp at h,lZ,λr R h=>absurd h (hno r R),⟨rfl,rfl,rfl,bV _,λ_ _ _=>rfl,λj pi b o n h=>by simp[wu]at h⟩,
  λj pi h=>by simp[wu]at h,⟨λj pi h=>by simp[wu]at h,λb hb=>⟨(hfr b hb).1,λj pi h=>by simp[wu]at h⟩,λb hb=>(hfr b hb).2⟩,λj p ts v h=>h.elim,λj v h=>h.elim⟩
 obtain⟨h1,h2,_⟩:=hs s
 cases hv:args.toList[s]? with
 |none=>
  have:=h2 (.inl (by simpa using hv))
  rw[show(fu ps c).slots s=.one .undef from this]
  trivial
 |some v=>
  have:=h1 v (by simpa using hv) (fQ _)
  have e:args.getD s undef=v:=by
   rw[wN]at hv
   simp[Gi,hv]
  show jo _ _ _ _ _ _ (args.getD s undef)
  rw[e]
  exact this
theorem apL(hfr:∀b,Fr.free b->b<W.heap.size/\hp W b=Fr.obj b){f:FuncId}{ps:List aD}{F:Nat->Cont (kin ps)->Option (Cont (eU [.val .bool [] []]++gI ps))}{n:Nat}(hE:aA P n ⟨f,ps,[.val .bool [] []],F⟩)
  {c:Cont (kin ps)} {out:Cont (eU [.val .bool [] []]++gI ps)} (hF:F n c=some out) (ht:out.1=true) {args:Array Value} (hV:vP W ps c args.toList) (hcall:(callFunc f args).run P W=.ok (.enter f args) W) :
  Calls P f args W λe W'=>e=.returned (.bool true)/\zB W W':=by
 have h:=hE c out hF (wu W) UA args W rfl rfl (by rw[<-Pe,(hV.roots (i:=0)).2]) ⟨λj pi h=>by simp[wu]at h,λj p ts v h=>h.elim,λj v h=>h.elim⟩ (apK hfr hV)
 rcases h with⟨_,h⟩|⟨v,w',h,_⟩
 ·refine h.mono ?_
  rintro e W' ⟨v,rfl,Z,J,F',a,vs,ay,H,rfl,hR,_⟩
  refine⟨?_,H.frame.1,H.frame.2.2.1,H.frame.2.2.2.1,λb hb=>H.frame.2.2.2.2.1 b hb (λj pi h=>by simp[wu]at h)⟩
  cases vs with
  |nil=>exact hR.elim
  |cons v vs=>
   cases ay with
   |nil=>exact hR.elim
   |cons fo ay=>
    obtain⟨⟨_,T,cs,_,hv,hw⟩,hr⟩:=hR
    cases vs with
    |cons _ _=>exact hr.elim
    |nil=>
     obtain⟨e1,_⟩:=hv
     have e2:cs=[.bool out.1]:=hw
     rw[e1,ht]at e2
     simp only[jr,fM]at e2
     subst e2
     rfl
 ·rw[hcall]at h
  simp at h
end
end
section
open Go
mutual
def xu{H:Type}:DataW H->Nat
 |.lit (.string bytes)=>bytes.length+1
 |.lit _=>1
 |.nil=>1
 |.ptr d=>xu d+1
 |.slice elems spare=>uU elems+uU spare+1
 |.agg parts=>uU parts+1
 |.iface _ d=>xu d+1
 |.map _=>1
 |.held _=>1
def uU{H:Type}:List (DataW H)->Nat
 | []=>0
 |d :: r=>xu d+uU r
end
def sV:(k:K)->El k->Nat
 |.int _,_=>1
 |.bool,_=>1
 |.str,s=>(show List Int from s).length+1
 |.sl _ k,xs=>((show List (El k)from xs).map (sV k)).sum+1
 |.unit,_=>0
 |.pair a b,x=>sV a x.1+sV b x.2
 |.st f,x=>sV f x+1
 |.gap _,_=>0
 |.id _,_=>1
def wz:(k:K)->El k->Prop
 |.int ik,x=>lH ik x
 |.str,s=>(show List Int from s).length<=9223372036854775807/\∀b∈(show List Int from s),0<=b/\b<256
 |.sl _ k,xs=>(show List (El k)from xs).length<=9223372036854775807/\∀x∈(show List (El k)from xs),wz k x
 |.pair a b,x=>wz a x.1/\wz b x.2
 |.st f,x=>wz f x
 |_,_=>True
theorem ZF{A:Type}{p:Nat->A->Prop}:∀{n:Nat},(∀i,i<n->∃x,p i x)->∃xs:List A,xs.length=n/\∀i (h:i<xs.length),p i xs[i]:=by
 intro n h
 induction n with
 |zero=>exact⟨[],rfl,λi h=>by simp at h⟩
 |succ n ih=>
  obtain⟨xs,h1,h2⟩:=ih (λi hi=>h i (by omega))
  obtain⟨x,hx⟩:=h n (by omega)
  refine⟨xs++[x],by simp[h1],λi hi=>?_⟩
  rw[List.getElem_append]
  split
  ·exact h2 i _
  ·have:i=n:=by simp[h1]at hi;omega
   subst this
   simpa using hx
theorem aex{A H:Type}{f:A->Nat}:∀{xs:List A} {ds:List (DataW H)},xs.length=ds.length->(∀i (h:i<xs.length) (h':i<ds.length),f xs[i]<=xu ds[i])->(xs.map f).sum<=uU ds
 | [],[],_,_=>bV _
 |x :: xs,d :: ds,hl,h=>by
  simp only[kZ,List.sum_cons,uU]
  have h0:=h 0 (by simp) (by simp)
  have:=aex (xs:=xs) (ds:=ds) (by simpa using hl) (λi h1 h2=>by
   have:=h (i+1) (by simp;omega) (by simp;omega)
   simpa using this)
  simp only[List.getElem_cons_zero]at h0
  omega
 | [],_ :: _,hl,_=>by simp at hl
 |_ :: _,[],hl,_=>by simp at hl
section
variable {P:Program}{T:bL}{W:World}{H:Type}{enc:TypeId×Value->H}
def aj9[Fr](W:World)(k:K)(cs:List Value)(d:DataW H):Prop:=∃x:El k,Vw (hp W) (λb=>b<W.heap.size) k x cs/\sV k x<=xu d/\wz k x
theorem Oc{t:TypeId}{k:K}(h:tO P t k):P.cellsOf t=k.size:=by
 obtain⟨i,h1,h2,_⟩:=h
 simp[Program.cellsOf,h1,h2]
theorem atn[Fr](hid:T.ids=false)(hfr:∀b,b<W.heap.size->Fr.free b):∀(k:K),
  (∀t n cs d ps,(jK P T k).1 t->DataW.trod enc P W 0 (λ_=>true) true n t cs=some (d,ps)->aj9 W k cs d)/\
  (∀(fs:List Field) off n (cs:List Value) (xs:List (DataW H×List MemPlace)),(jK P T k).2 fs off->cs.length=off+k.size->xs.length=fs.length->
   (∀(i:Nat) f,fs[i]?=some f->DataW.trod enc P W 0 (λ_=>true) true n f.type ((cs.drop f.offset).take (P.cellsOf f.type))=xs[i]?)->
   ∃x:El k,Vw (hp W) (λb=>b<W.heap.size) k x (cs.drop off)/\sV k x<=uU (xs.map (·.1))/\wz k x):=by
 intro k
 induction k with
 |int ik=>
  refine⟨λt n cs d ps ht h=>?_,λ_ _ _ _ _ h=>h.elim⟩
  obtain⟨m,rfl,e,hw⟩:=DataW.trod_int ht.1 h
  simp only[bZ]at e
  obtain⟨rfl,rfl⟩:=e
  have hr:lH ik m:=by
   cases ik<;>simp[lH]
   simp[Lit.wf,IntKind.min,IntKind.max,IntKind.signed,IntKind.bits]at hw
   omega
  exact⟨m,⟨rfl,hr⟩,bV _,hr⟩
 |bool=>
  refine⟨λt n cs d ps ht h=>?_,λ_ _ _ _ _ h=>h.elim⟩
  obtain⟨b,rfl,e⟩:=DataW.trod_bool ht.1 h
  simp only[bZ]at e
  obtain⟨rfl,rfl⟩:=e
  exact⟨b,rfl,bV _,trivial⟩
 |str=>
  refine⟨λt n cs d ps ht h=>?_,λ_ _ _ _ _ h=>h.elim⟩
  obtain⟨s,rfl,e,hsz⟩:=DataW.trod_string ht.1 h
  simp only[bZ]at e
  obtain⟨rfl,rfl⟩:=e
  exact⟨bytesOf s,⟨s,rfl,rfl⟩,by simp[sV,xu,bytesOf],by
   unfold maxLen at hsz
   have:(bytesOf s).length=s.size:=by simp[bytesOf]
   refine⟨(show(bytesOf s).length<=9223372036854775807 by omega),λb hb=>?_⟩
   have hb':b∈bytesOf s:=hb
   unfold bytesOf at hb'
   obtain⟨x,_,rfl⟩:=fP.1 hb'
   have:=x.toNat_lt
   omega⟩
 |unit=>exact⟨λ_ _ _ _ _ h=>h.elim,λfs off n cs xs _ hl hx hf=>⟨(),by
   have:cs.drop off=[]:=Il (by simp[K.size]at hl;omega)
   exact this,fQ _,trivial⟩⟩
 |gap n=>exact⟨λ_ _ _ _ _ h=>h.elim,λ_ _ _ _ _ h=>h.elim⟩
 |id e=>exact⟨λt n cs d ps ht h=>by have:=ht.2.2;rw[hid]at this;simp at this,λ_ _ _ _ _ h=>h.elim⟩
 |sl e k ih=>
  refine⟨λt n cs d ps ht h=>?_,λ_ _ _ _ _ h=>h.elim⟩
  obtain⟨hu,_,hte,hk0,_⟩:=ht
  have hce:P.cellsOf e=k.size:=Oc (dO.info hte)
  rcases DataW.trod_slice hu h with⟨rfl,e1⟩|⟨a,len,cap,elems,rest,m,rfl,rfl,e1,_,hlc,hmx,hle,hel,_,_⟩
  ·simp only[bZ]at e1
   obtain⟨rfl,rfl⟩:=e1
   exact⟨[],⟨none,0,0,rfl,rfl,bV _,λh=>by omega⟩,by simp[sV,xu],⟨fQ _,λx hx=>by simp at hx⟩⟩
  ·simp only[bZ]at e1
   obtain⟨rfl,rfl⟩:=e1
   have hone:∀i (hi:i<len),∃x:El k,∃ds,W.cells? 0 (a.add (i*k.size)) k.size=some ds/\Vw (hp W) (λb=>b<W.heap.size) k x ds/\(∀(h':i<elems.length),sV k x<=xu elems[i].1)/\wz k x:=by
    intro i hi
    have h1:=hel i hi
    have hi':i<elems.length:=by omega
    rw[hce,jl hi']at h1
    obtain⟨ds,h2,h3⟩:=Ir.1 h1
    obtain⟨x,h4,h5,h6⟩:=ih.1 e m ds _ _ hte h3
    exact⟨x,ds,h2,h4,λ_=>h5,h6⟩
   obtain⟨xs,hl,hxs⟩:=ZF hone
   refine⟨xs,⟨some a,len,cap,rfl,hl.symm,hlc,λh0=>?_⟩,?_,?_⟩
   ·obtain⟨b,o,sp⟩:=a
    have h0':0<xs.length:=by omega
    obtain⟨ds0,h2,h3,_⟩:=hxs 0 h0'
    have hb:=World.cells?_block h2 hk0
    obtain⟨_,g1,g2⟩:=World.cells?_some h2
    have hsp:sp=none:=by
     have:=g2 0 hk0
     rw[jl (by omega)]at this
     simp only[Nat.zero_mul,Addr.add,aQ,World.cell?]at this
     cases sp with
     |none=>rfl
     |some q=>split at this<;>simp at this
    subst hsp
    have hb':b<W.heap.size:=by
     rw[addr_add]at hb
     exact hb
    refine⟨b,o,rfl,hb',.inr (hfr b hb'),λi hi=>?_⟩
    obtain⟨ds,h2,h3,_⟩:=hxs i hi
    obtain⟨_,g1,g2⟩:=World.cells?_some h2
    refine⟨ds,λj hj=>?_,h3⟩
    have:=g2 j (by omega)
    rw[addr_add,addr_add,zU]at this
    exact this
   ·simp only[sV,xu]
    have:=aex (H:=H) (f:=sV k) (xs:=xs) (ds:=elems.map (·.1)) (by simp;omega) (λi h1 h2=>by
     obtain⟨ds,_,_,h5,_⟩:=hxs i h1
     simpa using h5 (by simpa using h2))
    omega
   ·unfold maxLen at hmx
    refine⟨show xs.length<=_ by omega,λx hx=>?_⟩
    obtain⟨i,hi,rfl⟩:=qC.1 hx
    obtain⟨_,_,_,_,h6⟩:=hxs i hi
    exact h6
 |pair a b iha ihb=>
  refine⟨λ_ _ _ _ _ h=>h.elim,λfs off n cs xs ht hl hx hf=>?_⟩
  cases fs with
  |nil=>exact ht.elim
  |cons f fs=>
   cases xs with
   |nil=>simp at hx
   |cons x0 xs=>
    obtain⟨h1,h2,h3,h4⟩:=ht
    have hca:P.cellsOf f.type=a.size:=Oc (dO.info h2)
    have h5:=hf 0 f rfl
    rw[h1,hca]at h5
    simp only[qA]at h5
    obtain⟨x,g1,g2,l1⟩:=iha.1 f.type n _ x0.1 x0.2 h2 h5
    obtain⟨y,g3,g4,l2⟩:=ihb.2 fs (off+a.size) n cs xs h4 (by simp[K.size]at hl;omega) (by simpa using hx) (λi f' hi=>by
     have:=hf (i+1) f' (by simpa using hi)
     simpa using this)
    refine⟨(x,y),⟨(cs.drop off).take a.size,cs.drop (off+a.size),?_,g1,g3⟩,?_,l1,l2⟩
    ·rw[<-tT,DY]
    ·simp only[sV,kZ,uU]
     omega
 |st c ih=>
  refine⟨λt n cs d ps ht h=>?_,λ_ _ _ _ _ h=>h.elim⟩
  obtain⟨⟨fs,hu,hfs⟩,hinfo⟩:=ht
  obtain⟨xs,m,rfl,e1,hl,hlen,hf⟩:=DataW.trod_struct hu h
  simp only[bZ]at e1
  obtain⟨rfl,rfl⟩:=e1
  obtain⟨x,g1,g2,l1⟩:=ih.2 fs.toList 0 m cs xs hfs (by rw[hl,Oc hinfo];simp[K.size]) (by simpa using hlen) (λi f hi=>hf i f (by simpa using hi))
  refine⟨x,by simp only[BA]at g1;exact g1,?_,l1⟩
  simp only[sV,xu]
  omega
theorem amO:∀{k:K} {fs:List Field} {off:Nat},(jK P T k).2 fs off->∀f∈fs,∃k',(jK P T k').1 f.type:=by
 intro k
 induction k with
 |pair a b iha ihb=>
  intro fs off h f hf
  cases fs with
  |nil=>simp at hf
  |cons f0 fs=>
   rcases bW.1 hf with h1|h1
   ·subst h1;exact⟨a,h.2.1⟩
   ·exact ihb h.2.2.2 f h1
 |unit=>intro fs off h f hf;rw[show fs=[]from h]at hf;simp at hf
 |_=>intro fs off h;exact h.elim
theorem ato[Fr](hid:T.ids=false){sp:Nat->Bool}(hsp:∀b,b<W.heap.size->sp b=true):∀(n:Nat) (t:TypeId) (k:K) (cs:List Value) (x:DataW H×List MemPlace),(jK P T k).1 t->DataW.trod enc P W 0 (λ_=>true) true n t cs=some x->DataW.trod enc P W 0 sp true n t cs=some x:=by
 intro n
 induction n with
 |zero=>intro t k cs x _ h;simp[DataW.trod]at h
 |succ n ih=>
  intro t k cs x ht h
  cases k with
  |int ik=>obtain⟨m,rfl,rfl,hw⟩:=DataW.trod_int ht.1 h;simp[DataW.trod,ht.1,hw]
  |bool=>obtain⟨m,rfl,rfl⟩:=DataW.trod_bool ht.1 h;simp[DataW.trod,ht.1]
  |str=>obtain⟨m,rfl,rfl,hw⟩:=DataW.trod_string ht.1 h;simp[DataW.trod,ht.1,hw]
  |unit=>exact ht.elim
  |gap n=>exact ht.elim
  |id e=>have:=ht.2.2;rw[hid]at this;simp at this
  |pair a b=>exact ht.elim
  |st c=>
   obtain⟨⟨fs,hu,hfs⟩,_⟩:=ht
   obtain⟨xs,m,e,rfl,hl,hlen,hf⟩:=DataW.trod_struct hu h
   have e':m=n:=by omega
   subst e'
   refine ChangeShapes.trod_struct_mk hu hl (mapM_some_of_get _ _ (by simpa using hlen) λi f hi=>?_)
   have hi':i<xs.length:=by
    have:=(qB.1 hi).1
    simp at this
    omega
   have h1:=hf i f (by simpa using hi)
   rw[jl hi']at h1 ⊢
   obtain⟨k',hk'⟩:=amO hfs f (rq hi)
   exact ih f.type k' _ _ hk' h1
  |sl e k=>
   obtain⟨hu,_,hte,hk0,_⟩:=ht
   have hce:P.cellsOf e=k.size:=Oc (dO.info hte)
   rcases DataW.trod_slice hu h with⟨rfl,rfl⟩|⟨a,len,cap,_,_,_,_,rfl,_⟩
   ·simp[DataW.trod,hu]
   ·unfold DataW.trod at h ⊢
    rw[hu]at h ⊢
    simp only[hce]at h ⊢
    split at h
    ·rename_i hc
     rw[aj hc]
     obtain⟨elems,he,h⟩:=Ir.1 h
     obtain⟨rest,hr,hd⟩:=Option.map_eq_some_iff.1 h
     have hstep:∀i y,(W.cells? 0 (a.add (i*k.size)) k.size).bind (DataW.trod enc P W 0 (λ_=>true) true n e)=some y->(W.cells? 0 (a.add (i*k.size)) k.size).bind (DataW.trod enc P W 0 sp true n e)=some y:=by
      intro i y h
      obtain⟨ds,h1,h2⟩:=Ir.1 h
      exact Ir.2 ⟨ds,h1,ih e k ds y hte h2⟩
     refine Ir.2 ⟨elems,mapM_carry he (λi y _ _ hy=>hstep i y hy),Option.map_eq_some_iff.2 ⟨rest,?_,hd⟩⟩
     simp only[aQ]at hr
     cases hs:sp a.block with
     |true=>
      simp only[aQ]
      exact mapM_carry hr (λi y _ _ hy=>hstep _ y hy)
     |false=>
      simp only[bg,aZ]
      cases hcl:cap-len with
      |zero=>rw[hcl]at hr;simpa using hr
      |succ m=>
       exfalso
       rw[hcl]at hr
       have h1:=mapM_some_get hr 0 0 (by simp)
       have hlr:rest.length=m+1:=by simpa using mapM_some_length hr
       rw[jl (by omega)]at h1
       obtain⟨ds,h2,_⟩:=Ir.1 h1
       have h3:=World.cells?_block h2 hk0
       have h4:(a.add ((len+0)*k.size)).block=a.block:=by unfold Addr.add;split<;>rfl
       rw[h4]at h3
       rw[hsp _ h3]at hs
       simp at hs
    ·simp at h
end
end
section
open Go
section
variable {P:Program}{T:bL}{W W':World}{H:Type}{enc:TypeId×Value->H}
def Iu(P:Program)(T:bL):List aD->List TypeId->Prop
 | [],[]=>True
 |.val k [] :: ps,t :: ts=>dO P T t k/\Iu P T ps ts
 |_,_=>False
def Kt:(ps:List aD)->Cont (kin ps)->Nat
 |.val k _ :: ps,c=>sV k c.1+Kt ps c.2
 |_,_=>0
def Oq:(ps:List aD)->Cont (kin ps)->Prop
 |.val k _ :: ps,c=>wz k c.1/\Oq ps c.2
 |_,_=>True
theorem att[Fr]{t:TypeId}{k:K}{v:Value}{base:Nat}{x:El k}{ok:Nat->Prop}(ht:dO P T t k)(hv:Value.okWide P W .any base t v)(hV:Vw (hp W) ok k x v.cells.toList):VC k v v.cells.toList:=by
 have hplain:∀{u:Value},(∀y,v≠.agg y)->v.cells.toList=[u]->VC k v v.cells.toList\/∃c,k=.st c:=by
  intro u hn hu
  cases k with
  |st c=>exact .inr ⟨c,rfl⟩
  |_=>
   refine .inl ⟨?_,hn⟩
   cases v<;>first|rfl|exact absurd rfl (hn _)
 unfold dO jK at ht
 cases k with
 |st c=>
  obtain⟨⟨fs,hu,_⟩,_⟩:=ht
  unfold Value.okWide at hv
  rw[hu]at hv
  obtain⟨cs,rfl,_⟩:=hv
  show Value.agg cs=.agg (cs.toList).toArray
  simp
 |unit=>exact ht.elim
 |pair a b=>exact ht.elim
 |gap n=>exact ht.elim
 |int ik=>
  unfold Value.okWide at hv
  rw[ht.1]at hv
  refine⟨?_,?_⟩<;>cases v<;>simp_all[Cell.okWide,Cell.ok,Value.cells]
 |bool=>
  unfold Value.okWide at hv
  rw[ht.1]at hv
  refine⟨?_,?_⟩<;>cases v<;>simp_all[Cell.okWide,Cell.ok,Value.cells]
 |id e=>
  unfold Value.okWide at hv
  rw[ht.1]at hv
  refine⟨?_,?_⟩<;>cases v<;>simp_all[Cell.okWide,Cell.ok,Value.cells]
 |str=>
  unfold Value.okWide at hv
  rw[ht.1]at hv
  refine⟨?_,?_⟩<;>cases v<;>simp_all[Cell.okWide,Cell.ok,Value.cells]
 |sl e k=>
  unfold Value.okWide at hv
  rw[ht.1]at hv
  refine⟨?_,?_⟩<;>cases v<;>simp_all[Cell.okWide,Cell.ok,Value.cells]
theorem acA[Fr](hid:T.ids=false)(hfr:∀b,b<W.heap.size->Fr.free b):∀{ps:List aD} {ts:List TypeId} {vs:List Value} {ds:List (DataW H)} {p:List MemPlace} {base:Nat},Iu P T ps ts->DataW.TrodAll enc P W 0 (λ_=>true) true ts vs ds p->
  (∀(j:Nat) t v,ts[j]?=some t->vs[j]?=some v->Value.okWide P W .any base t v)->∃c,vP W ps c vs/\Kt ps c<=uU ds/\ds.length=ps.length/\Oq ps c
 | [],[],vs,ds,p,_,_,h,_=>by
  obtain⟨rfl,rfl,_⟩:=ChangeShapes.trodAll_nil h
  exact⟨(),trivial,bV _,rfl,trivial⟩
 |.val k [] :: ps,t :: ts,vs,ds,p,base,hp1,h,hv=>by
  obtain⟨v,vs',d,ds',p1,q,rfl,rfl,rfl,⟨n,h1⟩,h2⟩:=ChangeShapes.trodAll_cons h
  obtain⟨c,g1,g2,g3,g4⟩:=acA hid hfr hp1.2 h2 (λj t v ht hv'=>hv (j+1) t v (by simpa using ht) (by simpa using hv'))
  obtain⟨x,f1,f2,f3⟩:=(atn (T:=T) (enc:=enc) hid hfr k).1 t n _ d p1 hp1.1 h1
  refine⟨(x,c),⟨⟨_,att hp1.1 (hv 0 t v rfl rfl) f1,f1⟩,g1⟩,?_,by simp[g3],f3,g4⟩
  simp only[Kt,uU]
  omega
 | [],_ :: _,_,_,_,_,h,_,_=>h.elim
 |.val _ [] :: _,[],_,_,_,_,h,_,_=>h.elim
 |.val _ (_ :: _) :: _,ts,_,_,_,_,h,_,_=>by cases ts<;>exact h.elim
 |.ro _ :: _,ts,_,_,_,_,h,_,_=>by cases ts<;>exact h.elim
 |.rw _ _ _ _ :: _,ts,_,_,_,_,h,_,_=>by cases ts<;>exact h.elim
 |.bO _ _ _ :: _,ts,_,_,_,_,h,_,_=>by cases ts<;>exact h.elim
 |.own _ _ :: _,ts,_,_,_,_,h,_,_=>by cases ts<;>exact h.elim
 |.fn _ _ :: _,ts,_,_,_,_,h,_,_=>by cases ts<;>exact h.elim
 |.into _ _ :: _,ts,_,_,_,_,h,_,_=>by cases ts<;>exact h.elim
theorem asH(hO:zB W W'){p:MemPlace}(hp1:p.block<W.heap.size):W.sameAt W' p:=by
 have h:=hO.2.2.2 p.block hp1
 cases p with
 |cell b off=>
  have h':W'.heap[b]?=W.heap[b]?:=h
  show W'.cell? _=W.cell? _
  unfold World.cell?
  simp only[h']
 |map b=>exact h
theorem adR[Fr](hid:T.ids=false)(hO:zB W W'){sp:Nat->Bool}(hsp:∀b,b<W.heap.size->sp b=true):∀{ps:List aD} {ts:List TypeId} {vs:List Value} {ds:List (DataW H)} {p:List MemPlace},Iu P T ps ts->DataW.TrodAll enc P W 0 (λ_=>true) true ts vs ds p->
  DataW.TrodAll enc P W' 0 sp true ts vs ds p
 | [],[],vs,ds,p,_,h=>by
  obtain⟨rfl,rfl,rfl⟩:=ChangeShapes.trodAll_nil h
  exact rfl
 |.val k [] :: ps,t :: ts,vs,ds,p,hp1,h=>by
  obtain⟨v,vs',d,ds',p1,q,rfl,rfl,rfl,⟨n,h1⟩,h2⟩:=ChangeShapes.trodAll_cons h
  have h3:=adR hid hO hsp hp1.2 h2
  have h4:=ato hid hsp n t k _ _ hp1.1 h1
  exact⟨p1,q,⟨n,DataW.trod_carry n t _ _ h4 (λp hp2=>asH hO (DataW.trod_lt n t _ _ h1 p hp2))⟩,h3,rfl⟩
 | [],_ :: _,_,_,_,h,_=>h.elim
 |.val _ [] :: _,[],_,_,_,h,_=>h.elim
 |.val _ (_ :: _) :: _,ts,_,_,_,h,_=>by cases ts<;>exact h.elim
 |.ro _ :: _,ts,_,_,_,h,_=>by cases ts<;>exact h.elim
 |.rw _ _ _ _ :: _,ts,_,_,_,h,_=>by cases ts<;>exact h.elim
 |.bO _ _ _ :: _,ts,_,_,_,h,_=>by cases ts<;>exact h.elim
 |.own _ _ :: _,ts,_,_,_,h,_=>by cases ts<;>exact h.elim
 |.fn _ _ :: _,ts,_,_,_,h,_=>by cases ts<;>exact h.elim
 |.into _ _ :: _,ts,_,_,_,h,_=>by cases ts<;>exact h.elim
theorem apB(hO:zB W W')(may:MemPlace->Prop):W.keptBut W' may:=by
 refine⟨hO.1,hO.2.1,λi hi=>?_⟩
 have h:W'.heap[i]?=W.heap[i]?:=hO.2.2.2 i hi
 rw[h]
 cases W.heap[i]? with
 |none=>rfl
 |some o=>
  cases o with
  |cells c t fr=>exact⟨rfl,rfl,rfl,λ_ _=>rfl⟩
  |map es clock=>exact .inr ⟨rfl,rfl⟩
  |_=>rfl
abbrev I8(W:World):Fr:=⟨λb=>b<W.heap.size,hp W,λ_=>.slice none 0 0,rfl,λ_=>⟨none,0,0,rfl⟩⟩
theorem apM{f:FuncId}{fn:Func}{code:Code}{ps:List aD}{F:Nat->Cont (kin ps)->Option (Cont (eU [.val .bool [] []]++gI ps))}{s:ChangeSpec}{tb:TypeId}{N:Nat}
  (hf:P.funcs[f]?=some fn) (hname:(fn.name == "runtime.NumGoroutine")=false) (hbody:fn.body=some code) (hps:Iu P T ps fn.params.toList) (hres:fn.resultTypes=#[tb]) (htb:P.underlying tb=some .bool)
  (hE:letI:=I8 W; ∀n,aA P n ⟨f,ps,[.val .bool [] []],F⟩) (aoz:∀c:Cont (kin ps),Oq ps c->Kt ps c<=N->∃n out,F n c=some out/\out.1=true)
  (hvars:s.vars=[]) (hspec:∀ds:List (DataW H),ds.length=ps.length->s.fn H ds={ results:=[.lit (.bool true)],args:=ds })
  {base:Nat} {args:Array Value} {ds gs:List (DataW H)} {before:List MemPlace}
  (hval:∀(j:Nat) t v,fn.params[j]?=some t->args[j]?=some v->Value.okWide P W .any base t v)
  (hW:DataW.Whole enc P fn.params.toList s.vars false W args.toList ds gs before) (hb:uU (ds++gs)<=N) (hid:T.ids=false:=by rfl) :
  Calls P f args W λe W'=>∃v,e=.returned v/\s.post enc P fn false true false false W args v W':=by
 letI fr:Fr:=I8 W
 have hW':=hW
 obtain⟨p,q,hA,hV,hpq,hfz,hnd⟩:=hW
 rw[hvars]at hV
 obtain⟨rfl,rfl⟩:=ChangeShapes.trodVars_none hV
 rw[iq]at hb
 obtain⟨c,h1,h2,h3,h6⟩:=acA (T:=T) hid (λb hb=>hb) hps hA (λj t v ht hv=>hval j t v (by simpa using ht) (by simpa using hv))
 obtain⟨n,out,h4,h5⟩:=aoz c h6 (by omega)
 refine(apL (λb hb=>⟨hb,rfl⟩) (hE n) h4 h5 h1 (Go.MuLone.run_callFunc_enter hf hname hbody args W)).mono ?_
 rintro e W' ⟨rfl,hO⟩
 have hsp:=hspec ds h3
 rw[iq]at hpq
 refine⟨_,rfl,ds,[],before,[],p,[],hW',?_,?_,?_,apB hO _,λh=>by simp at h⟩
 ·rw[iq,hsp,hres]
  exact⟨[],[],⟨1,by simp[DataW.trod,Value.cells,htb]⟩,rfl,rfl⟩
 ·rw[iq,hsp]
  exact adR hid hO (λb hb=>by simpa using hb) hps hA
 ·rw[iq,hsp,hvars]
  exact rfl
end
end
section
open Go
structure t_ where
 ty:List (TypeId×K)
 bytes:List (TypeId×Nat)
 ptr:List TypeId
 ids:Bool:=false
def look{A:Type}(n:Nat):List (Nat×A)->Option A
 | []=>none
 |(m,a) :: l=>bif Nat.beq n m then some a else look n l
def abZ(n:Nat):List (Nat×Nat)->Nat
 | []=>0
 |(m,a) :: l=>bif Nat.beq n m then a else abZ n l
def t_.tab(L:t_):bL:={ ty:=λt=>look t L.ty,bytes:=λt=>abZ t L.bytes,ptr:=λt=>ah t L.ptr,eq:=λ_=>false,ids:=L.ids }
def JG:K->Value->Bool
 |.int ik,.int jk (.ofNat 0)=>uX ik jk
 |.bool,.bool false=>true
 |.str,.string s=>Nat.beq s.data.size 0
 |.sl _ _,.slice none 0 0=>true
 |.id _,.slice none 0 0=>true
 |_,_=>false
def yM:K->List Value->Option (List Value)
 |.pair a b,l=>match yM a l with
  |some m=>yM b m
  |none=>none
 |.unit,l=>some l
 |.st f,l=>yM f l
 |.gap _,_=>none
 |k,v :: l=>bif JG k v then some l else none
 |_,[]=>none
def T9:K->Value->Bool
 |.st f,.agg arr=>match yM f arr.toList with
  |some []=>true
  |_=>false
 |.st _,_=>false
 |k,v=>JG k v
def Al(P:Program)(t:TypeId)(k:K):Bool:=match P.info? t with
 |some i=>Nat.beq i.size k.size&&(match i.zero with
  |some v=>T9 k v
  |none=>false)
 |none=>false
def kT(P:Program)(T:bL):K->(TypeId->Bool)×(List Field->Nat->Bool)
 |.int ik=>(λt=>(match P.underlying t with
  |some (.int jk)=>uX ik jk
  |_=>false)&&Al P t (.int ik),λ_ _=>false)
 |.bool=>(λt=>(match P.underlying t with
  |some .bool=>true
  |_=>false)&&Al P t .bool,λ_ _=>false)
 |.str=>(λt=>(match P.underlying t with
  |some .string=>true
  |_=>false)&&Al P t .str,λ_ _=>false)
 |.sl e k=>(λt=>(match P.underlying t with
  |some (.slice e')=>Nat.beq e e'
  |_=>false)&&Al P t (.sl e k)&&(kT P T k).1 e&&Nat.blt 0 k.size&&(match P.info? e with
  |some i=>Nat.beq i.bytes (T.bytes e)&&Nat.blt 0 i.bytes
  |none=>false),λ_ _=>false)
 |.unit=>(λ_=>false,λfs _=>fs.isEmpty)
 |.pair a b=>(λ_=>false,λfs off=>match fs with
  | []=>false
  |f :: fs=>Nat.beq f.offset off&&(kT P T a).1 f.type&&Nat.blt 0 a.size&&(kT P T b).2 fs (off+a.size))
 |.st c=>(λt=>(match P.underlying t with
  |some (.struct fs)=>(kT P T c).2 fs.toList 0
  |_=>false)&&Al P t (.st c),λ_ _=>false)
 |.gap _=>(λ_=>false,λ_ _=>false)
 |.id e=>(λt=>(match P.underlying t with
  |some (.slice e')=>Nat.beq e e'
  |_=>false)&&Al P t (.id e)&&T.ids,λ_ _=>false)
def y7(P:Program)(L:t_):Bool:=L.ty.all (λq=>(kT P L.tab q.2).1 q.1)&&L.ptr.all λt=>match P.underlying t with
 |some (.pointer _)=>true
 |_=>false
section
variable [Fr]{P:Program}{T:bL}
theorem abE{k:K}{v:Value}(h:JG k v=true):d_ k=[v]/\jB k=v:=by
 unfold JG at h
 split at h
 ·have:=JC h;subst this;exact⟨rfl,rfl⟩
 ·exact⟨rfl,rfl⟩
 ·rename_i s
  have:s=ByteArray.empty:=by
   have h1:=bD h
   obtain⟨d⟩:=s
   have:d=#[]:=VJ h1
   subst this
   rfl
  subst this
  exact⟨rfl,rfl⟩
 ·exact⟨rfl,rfl⟩
 ·exact⟨rfl,rfl⟩
 ·simp at h
theorem apt:∀{k:K} {l m:List Value},yM k l=some m->l=d_ k++m:=by
 intro k
 have one:∀{k:K} {l m:List Value},(match l with|v :: l=>(bif JG k v then some l else none) | []=>none)=some m->l=d_ k++m:=by
  intro k l m h
  cases l with
  |nil=>simp at h
  |cons v l=>
   obtain⟨hb,h⟩:=zR h
   simp only[au]at h
   subst h
   rw[(abE hb).1]
   rfl
 induction k with
 |pair a b iha ihb=>
  intro l m h
  simp only[yM]at h
  split at h
  ·rename_i q hq
   rw[iha hq,ihb h]
   simp[d_]
  ·simp at h
 |unit=>intro l m h;simp only[yM,au]at h;subst h;rfl
 |st f ih=>intro l m h;exact ih (show yM f l=some m from h)
 |gap n=>intro l m h;simp[yM]at h
 |int ik=>intro l m h;exact one (k:=.int ik) (by cases l<;>exact h)
 |bool=>intro l m h;exact one (k:=.bool) (by cases l<;>exact h)
 |id e=>intro l m h;exact one (k:=.id e) (by cases l<;>exact h)
 |str=>intro l m h;exact one (k:=.str) (by cases l<;>exact h)
 |sl e k _=>intro l m h;exact one (k:=.sl e k) (by cases l<;>exact h)
theorem apu{k:K}{v:Value}(h:T9 k v=true):jB k=v:=by
 unfold T9 at h
 split at h
 ·rename_i f arr
  split at h
  ·rename_i hz
   have:=apt hz
   simp only[iq]at this
   show Value.agg (d_ f).toArray=.agg arr
   rw[<-this]
  ·simp at h
 ·simp at h
 ·exact(abE h).2
theorem Fj{t:TypeId}{k:K}(h:Al P t k=true):tO P t k:=by
 unfold Al at h
 split at h
 ·rename_i i hi
  simp only[bB]at h
  obtain⟨h1,h2⟩:=h
  split at h2
  ·rename_i v hv
   exact⟨i,hi,bD h1,by rw[hv,apu h2]⟩
  ·simp at h2
 ·simp at h
theorem Rv{a b:Nat}(h:Nat.blt a b=true):a<b:=by
 unfold Nat.blt at h
 exact MZ h
theorem atq:∀{k:K},(∀t,(kT P T k).1 t=true->(jK P T k).1 t)/\∀fs off,(kT P T k).2 fs off=true->(jK P T k).2 fs off:=by
 intro k
 induction k with
 |int ik=>
  refine⟨λt h=>?_,λfs off h=>by simp[kT]at h⟩
  simp only[kT,bB]at h
  obtain⟨h1,h2⟩:=h
  split at h1
  ·rename_i jk hu
   have:=JC h1;subst this
   exact⟨hu,Fj h2⟩
  ·simp at h1
 |bool=>
  refine⟨λt h=>?_,λfs off h=>by simp[kT]at h⟩
  simp only[kT,bB]at h
  obtain⟨h1,h2⟩:=h
  split at h1
  ·rename_i hu;exact⟨hu,Fj h2⟩
  ·simp at h1
 |str=>
  refine⟨λt h=>?_,λfs off h=>by simp[kT]at h⟩
  simp only[kT,bB]at h
  obtain⟨h1,h2⟩:=h
  split at h1
  ·rename_i hu;exact⟨hu,Fj h2⟩
  ·simp at h1
 |sl e k ih=>
  refine⟨λt h=>?_,λfs off h=>by simp[kT]at h⟩
  simp only[kT,bB]at h
  obtain⟨⟨⟨⟨h1,h2⟩,h3⟩,h4⟩,h5⟩:=h
  split at h1
  ·rename_i e' hu
   have:=bD h1;subst this
   split at h5
   ·rename_i i hi
    simp only[bB]at h5
    exact⟨hu,Fj h2,ih.1 e h3,Rv h4,i,hi,bD h5.1,Rv h5.2⟩
   ·simp at h5
  ·simp at h1
 |unit=>exact⟨λt h=>by simp[kT]at h,λfs off h=>show fs=[] by simpa[kT]using h⟩
 |gap n=>exact⟨λt h=>by simp[kT]at h,λfs off h=>by simp[kT]at h⟩
 |id e=>
  refine⟨λt h=>?_,λfs off h=>by simp[kT]at h⟩
  simp only[kT,bB]at h
  obtain⟨⟨h1,h2⟩,h3⟩:=h
  split at h1
  ·rename_i e' hu
   have:=bD h1;subst this
   exact⟨hu,Fj h2,h3⟩
  ·simp at h1
 |pair a b iha ihb=>
  refine⟨λt h=>by simp[kT]at h,λfs off h=>?_⟩
  cases fs with
  |nil=>simp[kT]at h
  |cons f fs=>
   simp only[kT,bB]at h
   obtain⟨⟨⟨h1,h2⟩,h3⟩,h4⟩:=h
   exact⟨bD h1,iha.1 _ h2,Rv h3,ihb.2 _ _ h4⟩
 |st c ih=>
  refine⟨λt h=>?_,λfs off h=>by simp[kT]at h⟩
  simp only[kT,bB]at h
  obtain⟨h1,h2⟩:=h
  split at h1
  ·rename_i fs hu
   exact⟨⟨fs,hu,ih.2 _ _ h1⟩,Fj h2⟩
  ·simp at h1
theorem ab2{A:Type}{n:Nat}{a:A}:∀{l:List (Nat×A)},look n l=some a->(n,a)∈l
 | [],h=>by simp[look]at h
 |(m,b) :: l,h=>by
  simp only[look]at h
  cases hb:Nat.beq n m with
  |true=>
   rw[hb]at h
   have:=bD hb
   simp only[gP,au]at h
   subst this h
   simp
  |false=>
   rw[hb]at h
   exact .tail _ (ab2 h)
theorem Vl{L:t_}(h:y7 P L=true):fT P L.tab:=by
 unfold y7 at h
 simp only[bB,eX]at h
 refine⟨λt k ht=>atq.1 t (h.1 (t,k) (ab2 ht)),λt ht=>?_⟩
 have:=h.2 t (dh.1 ht)
 split at this
 ·rename_i e he;exact⟨e,he⟩
 ·simp at this
theorem ack{L:t_}:wZ P L.tab:=λt c x y u v w hp1 hp2 ok1 ok2 _ he=>by simp[t_.tab]at he
end
end
section
open Go
abbrev Df(T:bL)(hi:Hint)(fn:Func)(E:Entry):Prop:=∀n (c:Cont (kin E.ps)),Ey T hi fn E.ps E.rs n c=E.F n c
variable [Fr]{P:Program}{n:Nat}
theorem aJ:∀q∈([]:List (Nat×Option Nat×Entry)),aA P n q.2.2:=by simp
theorem ak{f:Nat}{d:Option Nat}{E:Entry}{l:List (Nat×Option Nat×Entry)}(h:aA P n E)(t:∀q∈l,aA P n q.2.2):∀q∈(f,d,E) :: l,aA P n q.2.2:=by
 intro q hq
 rcases bW.1 hq with rfl|hq
 ·exact h
 ·exact t q hq
theorem aK(hm:P.follows .mixedOrders=true){L:t_}(hL:y7 P L=true){E:Entry}{fn:Func}(hf:P.funcs[E.f]?=some fn)(hname:(fn.name == "runtime.NumGoroutine")=false){hi:Hint}(hC:∀q∈hi.calls,aA P n q.2.2)
  (hD:∀n (c:Cont (kin E.ps)),Ey L.tab hi fn E.ps E.rs n c=E.F n c):aA P n E:=
 ZP hm (Vl hL) ack hf hname hC (λc out h=>by rw[hD];exact h)
end
section
open Go
def bY{A:Type}(xs:List A)(i:Nat)(d:A)(f:A->A):List A:=xs.set i (f (xs.getD i d))
def fJ{R:Type}(step:Nat->Option R)(fin:R):Nat->Nat->R
 |0,_=>fin
 |m+1,i=>match step i with
  |some r=>r
  |none=>fJ step fin m (i+1)
theorem aro{V R:Type}{B:(V->Option R)->V->Option R}(S:Nat->V)(step:Nat->Option (Option R))(fin:Option R){m:Nat}(h1:∀L i,i<m->(∀j,j<i->step j=none)->B L (S i)=match step i with|some r=>r|none=>L (S (i+1)))(h2:∀L,(∀j,j<m->step j=none)->B L (S m)=fin) :
  ∀(d i n:Nat),i+d=m->d<n->(∀j,j<i->step j=none)->rounds B n (S i)=fJ step fin d i:=by
 intro d
 induction d with
 |zero=>
  intro i n hi hn hp
  cases n with
  |zero=>omega
  |succ n=>
   have:i=m:=by omega
   subst this
   exact h2 _ hp
 |succ d ih=>
  intro i n hi hn hp
  cases n with
  |zero=>omega
  |succ n=>
   show B (rounds B n) (S i)=_
   rw[h1 _ i (by omega) hp]
   unfold fJ
   cases hs:step i with
   |some r=>rfl
   |none=>exact ih (i+1) n (by omega) (by omega) (λj hj=>by
     by_cases e:j=i
     ·rw[e,hs]
     ·exact hp j (by omega))
theorem gp{V R:Type}{B:(V->Option R)->V->Option R}{v0:V}(S:Nat->V)(step:Nat->Option (Option R))(fin:Option R){m n:Nat}(h0:v0=S 0)(hn:m<n)(h1:∀L i,i<m->(∀j,j<i->step j=none)->B L (S i)=match step i with|some r=>r|none=>L (S (i+1)))(h2:∀L,(∀j,j<m->step j=none)->B L (S m)=fin) :
  rounds B n v0=fJ step fin m 0:=by
 rw[h0]
 exact aro S step fin h1 h2 m 0 n (by omega) hn (λj h=>by omega)
theorem ali{A:Type}(d:A){xs:List A}{i:Nat}(h:i<xs.length):(xs.take i++List.replicate (xs.length-i) d).set ((i:Int).toNat) xs[i]=xs.take (i+1)++List.replicate (xs.length-(i+1)) d:=by
 rw[dA]
 apply Im
 ·simp;omega
 ·intro j h1 h2
  rw[List.getElem_set]
  split
  ·rename_i e
   subst e
   rw[zy (by simp;omega)]
   simp
  ·rename_i e
   simp only[List.getElem_append,pX,List.getElem_take,List.getElem_replicate]
   split<;>split<;>first|rfl|omega
theorem ku{A:Type}{l:List A}{i:Nat}(h:i<l.length)(d:A):l.getD ((i:Int).toNat) d=l[i]:=by
 simp[h]
theorem ko{R:Type}{step:Nat->Option R}{fin:R}:∀{m i:Nat},(∀j,i<=j->j<i+m->step j=none)->fJ step fin m i=fin:=by
 intro m
 induction m with
 |zero=>intro i _;rfl
 |succ m ih=>
  intro i h
  unfold fJ
  rw[h i (bV _) (by omega)]
  exact ih (λj h1 h2=>h j (by omega) (by omega))
theorem amW{R:Type}{s1 s2:Nat->Option R}{f1 f2:R}(hf:f1=f2):∀{m i:Nat},(∀j,i<=j->j<i+m->s1 j=s2 j)->fJ s1 f1 m i=fJ s2 f2 m i:=by
 intro m
 induction m with
 |zero=>intro i _;exact hf
 |succ m ih=>
  intro i h
  unfold fJ
  rw[h i (bV _) (by omega)]
  cases s2 i with
  |some r=>rfl
  |none=>exact ih (λj h1 h2=>h j (by omega) (by omega))
theorem aab{R:Type}{step:Nat->Option R}{fin r:R}(hc:∀j,step j=none\/step j=some r):∀{m i:Nat},fJ step fin m i=r\/fJ step fin m i=fin:=by
 intro m
 induction m with
 |zero=>intro i;exact .inr rfl
 |succ m ih=>
  intro i
  unfold fJ
  rcases hc i with h|h
  ·rw[h];exact ih
  ·rw[h];exact .inl rfl
theorem wrap_i64{x:Int}(h1 : -9223372036854775808<=x)(h2:x<=9223372036854775807):IntKind.i64.wrap x=x:=by
 simp[IntKind.wrap,IntKind.bits,IntKind.signed]
 omega
theorem dL{i:Nat}{n:Nat}(h:i<n)(hn:n<=9223372036854775807):IntKind.i64.wrap ((i:Int)+1)=((i+1:Nat):Int):=by
 rw[wrap_i64 (by omega) (by omega)]
 omega
theorem bU{i n:Nat}(h:i<n):aF (i:Int) n:=⟨by omega,by omega⟩
end
section
open Go
variable [Fr]
section
variable {P:Program}{cx:Cx}{Z:St}{J:aO}{F:List Nat}{a:Act}{w w':World}
theorem Rel.grown(H:Rel cx Z J F a w)(hO:zB w w')(ht:w'.tape=w.tape):Rel cx Z J F a w':=H.aan hO.1 hO.2.1 hO.2.2.1 hO.2.2.2 ht
def Qf:(ps:List aD)->Cont (kin ps)->List Value->Prop
 | [],_,[]=>True
 |.val k _ :: ps,c,v :: vs=>(∃cs,VC k v cs/\Vw (λ_=>none) (λ_=>False) k c.1 cs)/\Qf ps c.2 vs
 |_,_,_=>False
def pG:List aD->Bool
 | []=>true
 |.val k _ :: ps=>k.flat&&pG ps
 |_=>false
def Mv:(rs:List bN)->Cont (eU rs)->List Value->Prop
 | [],_,[]=>True
 |.val k _ _ :: rs,c,v :: vs=>k.flat=true/\(∃cs,VC k v cs/\Vw (λ_=>none) (λ_=>False) k c.1 cs)/\Mv rs c.2 vs
 |_,_,_=>False
theorem aad:∀{ps:List aD} {i:Nat} {c:Cont (kin ps)} {vs:List Value},pG ps=true->vs.length=ps.length->(∀j v,vs[j]?=some v->jo cx Z J F w (lD (iU ps i c) (i+j)) v)->Qf ps c vs
 | [],_,_,[],_,_,_=>trivial
 | [],_,_,_ :: _,_,h,_=>by simp at h
 |.val k l :: ps,i,c,[],_,h,_=>by simp at h
 |.val k l :: ps,i,c,v :: vs,hf,hl,h=>by
  simp only[pG,bB]at hf
  have h0:=h 0 v rfl
  have e0:lD (iU (.val k l :: ps) i c) (i+0)=.one (.val k c.1 (bif k.flat then []else(jy i,0) :: l.map λj=>(aa j,0))):=by
   simp only[iU,lD,ry]
   rw[show Nat.beq i i=true from Nat.beq_refl i]
   rfl
  rw[e0]at h0
  obtain⟨cs,h1,h2⟩:=h0 (.inl hf.1)
  refine⟨⟨cs,h1,nG hf.1 h2⟩,aad (i:=i+1) hf.2 (by simpa using hl) λj u hu=>?_⟩
  have hj:=h (j+1) u (by simpa using hu)
  have e1:lD (iU (.val k l :: ps) i c) (i+(j+1))=lD (iU ps (i+1) c.2) (i+1+j):=by
   simp only[iU,lD]
   have hb:Nat.beq (i+(j+1)) i=false:=by
    cases hb:Nat.beq (i+(j+1)) i with
    |true=>have:=bD hb;omega
    |false=>rfl
   rw[hb,show i+(j+1)=i+1+j by omega]
   rfl
  rw[e1]at hj
  exact hj
 |.ro _ :: _,_,_,_,hf,_,_=>by simp[pG]at hf
 |.rw _ _ _ _ :: _,_,_,_,hf,_,_=>by simp[pG]at hf
 |.bO _ _ _ :: _,_,_,_,hf,_,_=>by simp[pG]at hf
 |.own _ _ :: _,_,_,_,hf,_,_=>by simp[pG]at hf
 |.fn _ _ :: _,_,_,_,hf,_,_=>by simp[pG]at hf
 |.into _ _ :: _,_,_,_,hf,_,_=>by simp[pG]at hf
theorem aae{Z:St}:∀{ps:List aD} {i:Nat} {c:Cont (gI ps)},pG ps=true->rZ Z ps i c
 | [],_,_,_=>trivial
 |.val k l :: ps,i,c,hf=>by
  simp only[pG,bB]at hf
  exact aae (ps:=ps) (i:=i+1) (c:=c) hf.2
 |.ro _ :: _,_,_,hf=>by simp[pG]at hf
 |.rw _ _ _ _ :: _,_,_,hf=>by simp[pG]at hf
 |.bO _ _ _ :: _,_,_,hf=>by simp[pG]at hf
 |.own _ _ :: _,_,_,hf=>by simp[pG]at hf
 |.fn _ _ :: _,_,_,hf=>by simp[pG]at hf
 |.into _ _ :: _,_,_,hf=>by simp[pG]at hf
theorem aaf:∀{rs:List bN} {c:Cont (eU rs)} {vs:List Value},Mv rs c vs->∃ay,uQ cx Z J F w rs c vs ay/\ay.flatten=[]
 | [],_,[],_=>⟨[],trivial,rfl⟩
 | [],_,_ :: _,h=>h.elim
 |.val k e p :: rs,c,[],h=>h.elim
 |.val k e p :: rs,c,v :: vs,⟨h0,⟨cs,h1,h2⟩,h3⟩=>by
  obtain⟨ay,g1,g2⟩:=aaf h3
  exact⟨[] :: ay,⟨⟨rfl,[],cs,.inl h0,h1,nG h0 h2⟩,g1⟩,by simpa using g2⟩
 |.own _ _ _ _ :: _,_,vs,h=>by cases vs<;>exact h.elim
 |.ptr _ _ _ _ :: _,_,vs,h=>by cases vs<;>exact h.elim
 |.into _ _ :: _,_,vs,h=>by cases vs<;>exact h.elim
theorem alg{n:Nat}{E:Entry}(hps:pG E.ps=true)(h:∀c out,E.F n c=some out->∀(args:Array Value) (w:World),(∀b,Fr.free b->hp w b=Fr.obj b)->Qf E.ps c args.toList->
  De P E.f args w λv w'=>∃vs,v=C8 vs/\Mv E.rs (Cont.fst _ _ out) vs/\zB w w'/\w'.tape=w.tape):aA P n E:=by
 intro c out hout cx J args w _ _ hsz _ H
 have hA:=aad (cx:=cx) (Z:=fu E.ps c) (J:=J) (F:=[]) (w:=w) (i:=0) (c:=c) (vs:=args.toList) hps (by simpa using hsz) (λj v hv=>by
  have:=H.slots j
  rw[wN]at hv
  rw[Gi,hv]at this
  rw[nR]
  exact this)
 have hpost:∀v w',(∃vs,v=C8 vs/\Mv E.rs (Cont.fst _ _ out) vs/\zB w w'/\w'.tape=w.tape)->Post cx E.ps E.rs out v w':=by
  rintro v w' ⟨vs,h1,h2,h3,h4⟩
  obtain⟨ay,g1,g2⟩:=aaf (cx:=cx) (Z:=fu E.ps c) (J:=J) (F:=[]) (w:=w') h2
  exact⟨_,J,[],_,vs,ay,H.grown h3 h4,h1,g1,by rw[g2];exact lZ,λb hb=>by rw[g2]at hb;simp at hb,aae hps⟩
 rcases h c out hout args w (λb hb=>H.fixed hb) hA with⟨h1,h2⟩|⟨v,w',h1,h2⟩
 ·refine .inl ⟨h1,h2.mono ?_⟩
  rintro e w' ⟨v,rfl,hv⟩
  exact⟨v,rfl,hpost v w' hv⟩
 ·exact .inr ⟨v,w',h1,hpost v w' h2⟩
end
end
section
open Go
variable [Fr]
section
variable {P:Program}{cx:Cx}{Z:St}{J:aO}{F:List Nat}{a:Act}{w w':World}
end
end
section
open Go
variable [Fr]
section
variable {P:Program}{cx:Cx}{Z:St}{J:aO}{F:List Nat}{a:Act}{w w':World}
theorem atD{E:Entry}(h:∀c,E.F 0 c=none):aA P 0 E:=λc out hout=>by rw[h c]at hout;simp at hout
theorem arf{n:Nat}(hm:P.follows .mixedOrders=true){L:t_}(hL:y7 P L=true){E:Entry}{fn:Func}(hf:P.funcs[E.f]?=some fn)(hname:(fn.name == "runtime.NumGoroutine")=false){hi:Hint}(hC:∀q∈hi.calls,aA P n q.2.2)
  (hD:∀(c:Cont (kin E.ps)),Ey L.tab hi fn E.ps E.rs n c=E.F (n+1) c):aA P (n+1) E:=
 ZP hm (Vl hL) ack hf hname hC (λc out h=>by rw[hD];exact h)
end
end
section
open Go
section
variable {e:TypeId}{kk:K}
def Rw(e:TypeId)(kk:K)(z:Bool)(tb:Nat->List (El kk)):(k k':K)->El k->El k'->List Nat->Prop
 |.sl f k,.id f',xs,i,ns=>f=e/\f'=e/\∃h:k=kk,h▸(show List (El k)from xs)=tb i/\((i≠(0:Nat)/\ns=[i])\/(z=true/\i=(0:Nat)/\tb 0=[]/\ns=[]))
 |.sl f k,.sl f' k',xs,ys,ns=>f=f'/\k'.size=k.size/\(show List (El k)from xs).length=(show List (El k')from ys).length/\∃nss:List (List Nat),nss.length=(show List (El k)from xs).length/\ns=nss.flatten/\
   ∀(i:Nat) (h1:i<(show List (El k)from xs).length) (h2:i<(show List (El k')from ys).length),Rw e kk z tb k k' ((show List (El k)from xs)[i]) ((show List (El k')from ys)[i]) (nss.getD i [])
 |.pair a b,.pair a' b',x,y,ns=>∃n1 n2,ns=n1++n2/\Rw e kk z tb a a' x.1 y.1 n1/\Rw e kk z tb b b' x.2 y.2 n2
 |.st f,.st f',x,y,ns=>Rw e kk z tb f f' x y ns
 |.int ik,.int jk,x,y,ns=>ik=jk/\(show Int from x)=y/\ns=[]
 |.bool,.bool,x,y,ns=>(show Bool from x)=y/\ns=[]
 |.str,.str,x,y,ns=>(show List Int from x)=y/\ns=[]
 |.unit,.unit,_,_,ns=>ns=[]
 |_,_,_,_,_=>False
theorem Rw.size{z:Bool}{tb:Nat->List (El kk)}:∀{k k':K} {x:El k} {y:El k'} {ns:List Nat},Rw e kk z tb k k' x y ns->k'.size=k.size:=by
 intro k
 induction k with
 |sl f k ih=>intro k' x y ns h;cases k'<;>first|rfl|exact h.elim
 |pair a b iha ihb=>
  intro k' x y ns h
  cases k' with
  |pair a' b'=>unfold Rw at h;obtain⟨n1,n2,_,h1,h2⟩:=h;simp[K.size,iha h1,ihb h2]
  |_=>exact h.elim
 |st f ih=>
  intro k' x y ns h
  cases k' with
  |st f'=>unfold Rw at h;exact ih (k':=f') (x:=x) (y:=y) (ns:=ns) h
  |_=>exact h.elim
 |int ik=>intro k' x y ns h;cases k'<;>first|rfl|exact h.elim
 |bool=>intro k' x y ns h;cases k'<;>first|rfl|exact h.elim
 |str=>intro k' x y ns h;cases k'<;>first|rfl|exact h.elim
 |unit=>intro k' x y ns h;cases k'<;>first|rfl|exact h.elim
 |gap n=>intro k' x y ns h;cases k'<;>exact h.elim
 |id f=>intro k' x y ns h;cases k'<;>exact h.elim
abbrev nU:=Nat×Value×List Nat
def bz(l:List nU):List Nat:=l.flatMap (·.2.2)
theorem Vq:∀(l:List (List nU)),bz l.flatten=(l.map bz).flatten
 | []=>rfl
 |a :: l=>by
  simp only[nO,kZ]
  unfold bz at *
  rw[YE]
  congr 1
  exact Vq l
theorem UF{A:Type}:∀{ay fs gs:List (List A)},fs.length=ay.length->gs.length=ay.length->(∀i,i<ay.length->(ay.getD i []).Perm (fs.getD i []++gs.getD i []))->ay.flatten.Perm (fs.flatten++gs.flatten)
 | [],[],[],_,_,_=>.refl _
 |f :: ay,[],_,h,_,_=>by simp at h
 |f :: ay,_ :: _,[],_,h,_=>by simp at h
 | [],_ :: _,_,h,_,_=>by simp at h
 | [],[],_ :: _,_,h,_=>by simp at h
 |f :: ay,a :: fs,b :: gs,h1,h2,h=>by
  have h0:=h 0 (by simp)
  have ht:=UF (ay:=ay) (fs:=fs) (gs:=gs) (by simpa using h1) (by simpa using h2) (λi hi=>by have:=h (i+1) (by simpa using hi);simpa using this)
  simp only[nO]
  have h0':f.Perm (a++b):=by simpa using h0
  refine(h0'.append ht).trans ?_
  simp only[gD]
  refine vL a ?_
  rw[<-gD,<-gD]
  exact tQ _ BD
variable [fr:Fr]
abbrev eD(fr:Fr)(bM:Nat->Value)(h0:bM 0=.slice none 0 0)(hs:∀i,∃a n c,bM i=.slice a n c):Fr:=⟨fr.free,fr.obj,bM,h0,hs⟩
theorem YL{h:Heap}{own:List TypeId}{ok:Nat->Prop}{tb:Nat->List (El kk)}:∀{k k':K} {x:El k} {y:El k'} {ns:List Nat} {cs:List Value} {fo:List Nat},(∀t∈k.tys,ah t own=true)->
  Rw e kk false tb k k' x y ns->Ow h own ok k x cs fo->
  ∃(aT:List nU) (aM:List Nat),aT.map (·.1)=ns/\fo.Perm (aM++bz aT)/\(∀q∈aT,Ow h own ok (.sl e kk) (tb q.1) [q.2.1] q.2.2)/\
   ∀fr':Fr,fr'.free=fr.free->(∀q∈aT,fr'.bM q.1=q.2.1)->@Ow fr' h own ok k' y cs aM:=by
 intro k
 induction k with
 |sl f k ih=>
  intro k' x y ns cs fo hown hR hO
  cases k' with
  |id f'=>
   obtain⟨rfl,rfl,hk,hx,hi⟩:=hR
   subst hk
   rcases hi with⟨_,rfl⟩|⟨hz,_⟩
   ·have mq:=hO
    unfold Ow at hO
    rw[aj (hown f' (by simp[K.tys]))]at hO
    obtain⟨a,n,c,rfl,_⟩:=hO
    refine⟨[(y,.slice a n c,fo)],[],rfl,by simp[bz],λq hq=>?_,λfr' _ aos=>⟨rfl,?_⟩⟩
    ·simp only[iD]at hq
     subst hq
     show Ow h own ok (.sl f' k) (tb y:List (El k)) _ _
     rw[<-hx]
     exact mq
    ·show _=[fr'.bM y]
     rw[aos _ (iD.2 rfl)]
   ·simp at hz
  |sl f' k'=>
   obtain⟨rfl,hsz,hl,nss,hnl,rfl,hat⟩:=hR
   have hf:ah f own=true:=hown f (by simp[K.tys])
   unfold Ow at hO
   rw[aj hf]at hO
   obtain⟨a,n,c,rfl,hn,hnc,hO⟩:=hO
   rcases hO with⟨hc,rfl⟩|⟨b,o,arr,lo,hi,rfl,hb,hfz,hoc,ay,hfl,hfo,hel⟩
   ·have h0:(show List (El k)from x).length=0:=by omega
    refine⟨[],[],?_,by simp[bz],λq hq=>by simp at hq,λfr' _ _=>?_⟩
    ·have:nss=[]:=List.length_eq_zero_iff.1 (by omega)
     rw[this];rfl
    ·unfold Ow
     rw[aj hf]
     exact⟨a,n,c,rfl,by omega,hnc,.inl ⟨hc,rfl⟩⟩
   ·have hone:∀i,i<(show List (El k)from x).length->∃q:List nU×List Nat,∀(h1:i<(show List (El k)from x).length) (h2:i<(show List (El k')from y).length),q.1.map (·.1)=nss.getD i []/\(ay.getD i []).Perm (q.2++bz q.1)/\(∀t∈q.1,Ow h own ok (.sl e kk) (tb t.1) [t.2.1] t.2.2)/\
      ∀fr':Fr,fr'.free=fr.free->(∀t∈q.1,fr'.bM t.1=t.2.1)->∃ds,@Cells h b (o+i*k.size) ds/\@Ow fr' h own ok k' ((show List (El k')from y)[i]) ds q.2:=by
     intro i h1
     obtain⟨ds,g1,g2⟩:=hel i h1
     obtain⟨aT,aM,f1,f2,f3,f4⟩:=ih (λt ht=>hown t (by simp[K.tys,ht])) (hat i h1 (by omega)) g2
     exact⟨(aT,aM),λ_ _=>⟨f1,f2,f3,λfr' e1 e2=>⟨ds,g1,f4 fr' e1 e2⟩⟩⟩
    obtain⟨qs,NY,hq⟩:=ZF hone
    refine⟨(qs.map (·.1)).flatten,b :: (qs.map (·.2)).flatten,?_,?_,?_,λfr' e1 e2=>?_⟩
    ·rw[List.map_flatten,MS]
     congr 1
     apply Im
     ·simp;omega
     ·intro i h1 h2
      have hi:i<qs.length:=by simpa using h1
      have:=(hq i hi (by omega) (by omega)).1
      simp only[List.getElem_map,Function.comp_apply]
      rw[this,iR,jl h2]
      rfl
    ·refine hfo.trans ?_
     rw[Vq,kY]
     refine List.Perm.cons b (UF (by simp;omega) (by simp;omega) λi hi=>?_)
     have hi':i<qs.length:=by omega
     have:=(hq i hi' (by omega) (by omega)).2.1
     simp only[iR,DV,jl hi',o_,tX,MS,Function.comp_apply]at this ⊢
     exact this
    ·intro t ht
     obtain⟨l,hl,ht⟩:=BC.1 ht
     obtain⟨q,hq',rfl⟩:=fP.1 hl
     obtain⟨i,hi,rfl⟩:=List.getElem_of_mem hq'
     exact(hq i hi (by omega) (by omega)).2.2.1 t ht
    ·unfold Ow
     rw[aj hf]
     refine⟨_,n,c,rfl,by omega,hnc,.inr ⟨b,o,arr,lo,hi,rfl,hb,hfz,?_,qs.map (·.2),by rw[nP,NY];exact hl,.refl _,λi hi'=>?_⟩⟩
     ·rw[hsz];exact hoc
     ·have Tp:i<qs.length:=by omega
      obtain⟨ds,g1,g2⟩:=(hq i Tp (by omega) hi').2.2.2 fr' e1 (λt ht=>e2 t (BC.2 ⟨_,fP.2 ⟨qs[i],iC Tp,rfl⟩,ht⟩))
      refine⟨ds,?_,?_⟩
      ·rw[hsz];exact g1
      ·have:(qs.map (·.2)).getD i []=qs[i].2:=by simp[iR,DV,jl Tp]
       rw[this]
       exact g2
  |_=>exact hR.elim
 |pair a b iha ihb=>
  intro k' x y ns cs fo hown hR hO
  cases k' with
  |pair a' b'=>
   obtain⟨n1,n2,rfl,r1,r2⟩:=hR
   obtain⟨c1,c2,f1,f2,rfl,hp,o1,o2⟩:=hO
   obtain⟨t1,g1,p1,p2,p3,p4⟩:=iha (λt ht=>hown t (by simp[K.tys,ht])) r1 o1
   obtain⟨t2,g2,q1,q2,q3,q4⟩:=ihb (λt ht=>hown t (by simp[K.tys,ht])) r2 o2
   refine⟨t1++t2,g1++g2,by rw[q9,p1,q1],?_,λq hq=>?_,λfr' e1 e2=>⟨c1,c2,g1,g2,rfl,.refl _,p4 fr' e1 (λq hq=>e2 q (bQ _ hq)),q4 fr' e1 (λq hq=>e2 q (bH _ hq))⟩⟩
   ·refine hp.trans ((p2.append q2).trans ?_)
    have:bz (t1++t2)=bz t1++bz t2:=by simp[bz]
    rw[this]
    simp only[gD]
    refine vL g1 ?_
    rw[<-gD,<-gD]
    exact tQ _ BD
   ·rcases dD.1 hq with hq|hq
    ·exact p3 q hq
    ·exact q3 q hq
  |_=>exact hR.elim
 |st f ih=>
  intro k' x y ns cs fo hown hR hO
  cases k' with
  |st f'=>
   obtain⟨aT,aM,f1,f2,f3,f4⟩:=ih (k':=f') (x:=x) (y:=y) (ns:=ns) (cs:=cs) (fo:=fo) hown hR hO
   exact⟨aT,aM,f1,f2,f3,λfr' e1 e2=>f4 fr' e1 e2⟩
  |_=>exact hR.elim
 |int ik=>
  intro k' x y ns cs fo hown hR hO
  cases k' with
  |int jk=>
   obtain⟨rfl,rfl,rfl⟩:=hR
   exact⟨[],fo,rfl,by simp[bz],λq hq=>by simp at hq,λ_ _ _=>hO⟩
  |_=>exact hR.elim
 |bool=>
  intro k' x y ns cs fo hown hR hO
  cases k' with
  |bool=>
   obtain⟨rfl,rfl⟩:=hR
   exact⟨[],fo,rfl,by simp[bz],λq hq=>by simp at hq,λ_ _ _=>hO⟩
  |_=>exact hR.elim
 |str=>
  intro k' x y ns cs fo hown hR hO
  cases k' with
  |str=>
   obtain⟨rfl,rfl⟩:=hR
   exact⟨[],fo,rfl,by simp[bz],λq hq=>by simp at hq,λ_ _ _=>hO⟩
  |_=>exact hR.elim
 |unit=>
  intro k' x y ns cs fo hown hR hO
  cases k' with
  |unit=>
   have:ns=[]:=hR
   subst this
   exact⟨[],fo,rfl,by simp[bz],λq hq=>by simp at hq,λ_ _ _=>hO⟩
  |_=>exact hR.elim
 |gap n=>intro k' x y ns cs fo _ hR;cases k'<;>exact hR.elim
 |id f=>intro k' x y ns cs fo _ hR;cases k'<;>exact hR.elim
theorem aen{A B:Type}(f:A->B):∀{nss:List (List B)} {l:List A},l.map f=nss.flatten->∃pU:List (List A),pU.flatten=l/\pU.map (·.map f)=nss
 | [],l,h=>by
  have:l=[]:=by simpa using h
  exact⟨[],by simp[this],rfl⟩
 |ns :: nss,l,h=>by
  rw[nO,List.map_eq_append_iff]at h
  obtain⟨l1,l2,rfl,h1,h2⟩:=h
  obtain⟨pU,g1,g2⟩:=aen f h2
  exact⟨l1 :: pU,by simp[g1],by simp[h1,g2]⟩
theorem QT{h:Heap}{own:List TypeId}{ok:Nat->Prop}{tb:Nat->List (El kk)}(fr':Fr):∀{k k':K} {x:El k} {y:El k'} {aT:List nU} {cs:List Value} {aM:List Nat},(∀t∈k.tys,ah t own=true)->
  Rw e kk true tb k k' x y (aT.map (·.1))->@Ow fr' h own ok k' y cs aM->(∀q∈aT,@Ow fr h own ok (.sl e kk) (tb q.1) [q.2.1] q.2.2/\fr'.bM q.1=q.2.1)->@Ow fr h own ok k x cs (aM++bz aT):=by
 intro k
 induction k with
 |sl f k ih=>
  intro k' x y aT cs aM hown hR hO htr
  cases k' with
  |id f'=>
   obtain⟨rfl,rfl,hk,hx,hi⟩:=hR
   subst hk
   obtain⟨rfl,hcs⟩:=hO
   have hcs:cs=[fr'.bM y]:=hcs
   subst hcs
   rcases hi with⟨_,hns⟩|⟨_,h0,hx0,hns⟩
   ·cases aT with
    |nil=>simp at hns
    |cons q l=>
     cases l with
     |cons _ _=>simp at hns
     |nil=>
      simp only[kZ,List.map_nil,jr,fM]at hns
      obtain⟨g1,g2⟩:=htr q (by simp)
      rw[hns]at g1 g2
      have hx':(show List (El k)from x)=tb y:=hx
      show @Ow fr h own ok (.sl f' k) (show List (El k)from x) _ _
      rw[hx',g2]
      simpa[bz]using g1
   ·have ht:aT=[]:=by simpa using hns
    subst ht
    have hy:y=(0:Nat):=h0
    subst hy
    have hx':(show List (El k)from x)=[]:=hx.trans hx0
    rw[fr'.TU]
    unfold Ow
    rw[aj (hown f' (by simp[K.tys]))]
    exact⟨none,0,0,rfl,by rw[hx'];rfl,bV _,.inl ⟨rfl,rfl⟩⟩
  |sl f' k'=>
   obtain⟨rfl,hsz,hl,nss,hnl,hns,hat⟩:=hR
   have hf:ah f own=true:=hown f (by simp[K.tys])
   unfold Ow at hO ⊢
   rw[aj hf]at hO ⊢
   obtain⟨a,n,c,rfl,hn,hnc,hO⟩:=hO
   obtain⟨pU,rfl,hts⟩:=aen (λq:nU=>q.1) hns
   have htl:pU.length=nss.length:=by rw[<-hts,nP]
   rcases hO with⟨hc,rfl⟩|⟨b,o,arr,lo,hi,rfl,hb,hfz,hoc,ay,hfl,hfo,hel⟩
   ·have h0:(show List (El k)from x).length=0:=by omega
    have:pU=[]:=List.length_eq_zero_iff.1 (by omega)
    subst this
    exact⟨a,n,c,rfl,by omega,hnc,.inl ⟨hc,rfl⟩⟩
   ·have hone:∀i (hi1:i<(show List (El k)from x).length),∃ds,Cells h b (o+i*k.size) ds/\@Ow fr h own ok k ((show List (El k)from x)[i]) ds (ay.getD i []++bz (pU.getD i [])):=by
     intro i h1
     obtain⟨ds,g1,g2⟩:=hel i (by omega)
     have hti:i<pU.length:=by omega
     have e1:pU.getD i []=pU[i]:=by simp[hti]
     have e2:nss.getD i []=(pU[i]).map (·.1):=by
      rw[<-hts]
      simp[hti]
     have hR':=hat i h1 (by omega)
     rw[e2]at hR'
     refine⟨ds,by rw[<-hsz];exact g1,?_⟩
     rw[e1]
     exact ih (λt ht=>hown t (by simp[K.tys,ht])) hR' g2 (λq hq=>htr q (BC.2 ⟨_,iC hti,hq⟩))
    refine⟨_,n,c,rfl,by omega,hnc,.inr ⟨b,o,arr,lo,hi,rfl,hb,hfz,by rw[<-hsz];exact hoc,(List.range (show List (El k)from x).length).map λi=>ay.getD i []++bz (pU.getD i []),by simp,?_,λi h1=>?_⟩⟩
    ·refine(hfo.append_right _).trans ?_
     rw[kY]
     refine List.Perm.cons b ?_
     rw[Vq]
     refine(UF (ay:=(List.range (show List (El k)from x).length).map λi=>ay.getD i []++bz (pU.getD i [])) (fs:=ay) (gs:=pU.map bz) (by rw[nP,List.length_range];omega) (by rw[nP,nP,List.length_range];omega) λi hi1=>?_).symm
     have hi2:i<(show List (El k)from x).length:=by simpa using hi1
     have hti:i<pU.length:=by omega
     simp[iR,DV,MO,hi2,hti]
    ·obtain⟨ds,g1,g2⟩:=hone i h1
     refine⟨ds,g1,?_⟩
     have:((List.range (show List (El k)from x).length).map λi=>ay.getD i []++bz (pU.getD i [])).getD i []=ay.getD i []++bz (pU.getD i []):=by
      simp[iR,DV,MO,h1]
     rw[this]
     exact g2
  |_=>exact hR.elim
 |pair a b iha ihb=>
  intro k' x y aT cs aM hown hR hO htr
  cases k' with
  |pair a' b'=>
   obtain⟨n1,n2,hns,r1,r2⟩:=hR
   obtain⟨c1,c2,f1,f2,rfl,hp,o1,o2⟩:=hO
   rw[List.map_eq_append_iff]at hns
   obtain⟨t1,t2,rfl,rfl,rfl⟩:=hns
   refine⟨c1,c2,f1++bz t1,f2++bz t2,rfl,?_,iha (λt ht=>hown t (by simp[K.tys,ht])) r1 o1 (λq hq=>htr q (bQ _ hq)),ihb (λt ht=>hown t (by simp[K.tys,ht])) r2 o2 (λq hq=>htr q (bH _ hq))⟩
   refine(hp.append_right _).trans ?_
   have:bz (t1++t2)=bz t1++bz t2:=by simp[bz]
   rw[this]
   simp only[gD]
   refine vL f1 ?_
   rw[<-gD,<-gD]
   exact tQ _ BD
  |_=>exact hR.elim
 |st f ih=>
  intro k' x y aT cs aM hown hR hO htr
  cases k' with
  |st f'=>exact ih (k':=f') (x:=x) (y:=y) (aT:=aT) (cs:=cs) (aM:=aM) hown hR hO htr
  |_=>exact hR.elim
 |int ik=>
  intro k' x y aT cs aM hown hR hO htr
  cases k' with
  |int jk=>
   obtain⟨rfl,rfl,hns⟩:=hR
   have:aT=[]:=by simpa using hns
   subst this
   have e0:aM++bz []=aM:=iq _
   rw[e0]
   exact hO
  |_=>exact hR.elim
 |bool=>
  intro k' x y aT cs aM hown hR hO htr
  cases k' with
  |bool=>
   obtain⟨rfl,hns⟩:=hR
   have:aT=[]:=by simpa using hns
   subst this
   have e0:aM++bz []=aM:=iq _
   rw[e0]
   exact hO
  |_=>exact hR.elim
 |str=>
  intro k' x y aT cs aM hown hR hO htr
  cases k' with
  |str=>
   obtain⟨rfl,hns⟩:=hR
   have:aT=[]:=by simpa using hns
   subst this
   have e0:aM++bz []=aM:=iq _
   rw[e0]
   exact hO
  |_=>exact hR.elim
 |unit=>
  intro k' x y aT cs aM hown hR hO htr
  cases k' with
  |unit=>
   have hns:aT.map (·.1)=[]:=hR
   have:aT=[]:=by simpa using hns
   subst this
   have e0:aM++bz []=aM:=iq _
   rw[e0]
   exact hO
  |_=>exact hR.elim
 |gap n=>intro k' x y aT cs aM _ hR;cases k'<;>exact hR.elim
 |id f=>intro k' x y aT cs aM _ hR;cases k'<;>exact hR.elim
def rP:K->Bool
 |.id _=>false
 |.sl _ k=>rP k
 |.pair a b=>rP a&&rP b
 |.st f=>rP f
 |_=>true
theorem Q8{h:Heap}{ok:Nat->Prop}(fr':Fr)(hf:fr'.free=fr.free):∀{k:K} {x:El k} {cs:List Value},rP k=true->@Vw fr h ok k x cs->@Vw fr' h ok k x cs:=by
 intro k
 induction k with
 |sl f k ih=>
  intro x cs hk H
  obtain⟨a,n,c,e1,e2,e3,H⟩:=H
  refine⟨a,n,c,e1,e2,e3,λhn=>?_⟩
  obtain⟨b,o,ea,hb,ht,H⟩:=H hn
  refine⟨b,o,ea,hb,ht.imp id (λh=>by rw[hf];exact h),λi hi=>?_⟩
  obtain⟨ds,h1,h2⟩:=H i hi
  exact⟨ds,h1,ih hk h2⟩
 |pair a b iha ihb=>
  intro x cs hk H
  simp only[rP,bB]at hk
  obtain⟨c1,c2,e,h1,h2⟩:=H
  exact⟨c1,c2,e,iha hk.1 h1,ihb hk.2 h2⟩
 |st f ih=>intro x cs hk H;exact ih (x:=x) (cs:=cs) hk H
 |id f=>intro x cs hk;simp[rP]at hk
 |int ik=>intro x cs _ H;exact H
 |bool=>intro x cs _ H;exact H
 |str=>intro x cs _ H;exact H
 |unit=>intro x cs _ H;exact H
 |gap n=>intro x cs _ H;exact H
def iE(cx:Cx)(bad:List Nat):Cx:={ cx with
 par:=λj=>(cx.par j).map λpi=>{ pi with bl:=pi.bl.filter λb=>!ah b bad }
 ptrs:=λ_ _ _ _=>False
 refs:=λ_ _=>False }
theorem sI{cx:Cx}{bad:List Nat}{j:Nat}{kg:D8}(h:(iE cx bad).par j=some kg):∃pi,cx.par j=some pi/\kg={ pi with bl:=pi.bl.filter λb=>!ah b bad }:=by
 simp only[iE,Option.map_eq_some_iff]at h
 obtain⟨pi,h1,h2⟩:=h
 exact⟨pi,h1,h2.symm⟩
theorem RV{cx:Cx}{bad:List Nat}{b:Nat}:oh (iE cx bad) b↔oh cx b:=by
 constructor
 ·rintro⟨j,kg,o,n,h1,h2⟩
  obtain⟨pi,g1,rfl⟩:=sI h1
  exact⟨j,pi,o,n,g1,h2⟩
 ·rintro⟨j,pi,o,n,h1,h2⟩
  exact⟨j,{ pi with bl:=pi.bl.filter λb=>!ah b bad },o,n,by simp[iE,h1],h2⟩
def Ch(T:List Tag):Prop:=∀t∈T,gZ t.1=true
def yh:gU->Prop
 |.one .undef=>True
 |.one (.ptr r p n)=>r=aa 0/\p=[]/\n=0
 |.one (.val k _ T)=>rP k=true/\Ch T
 |.one (.fn _ cs)=>∀c∈cs,rP c.2.1.1=true/\Ch c.2.2/\c.1=SENT
 |_=>False
section
variable {cx:Cx}{Z:St}{J:aO}{a:Act}{w:World}
theorem aqJ{R0 R1:Root}{aM bad:List Nat}(h0:∀r R,aX Z r R->r=aa 0/\R=R0)(h1:aX Z (aa 0) R0)(hk:R1.kind=R0.kind)(hsub:∀b∈aM,b∈J.fo (aa 0))(hbad:∀b∈bad,b∈J.fo (aa 0)){T:List Tag}(hT:Ch T){b:Nat}(h:bK cx Z J [] w T b) :
  bK (iE cx bad) (aR Z (aa 0) R1) (aV J (aa 0) (J.loc (aa 0)) (J.hdr (aa 0)) aM) [] w T b:=by
 obtain⟨g1,g2,g3,g4,g5⟩:=h
 refine⟨g1,g2,λhb=>g3 (RV.1 hb),λr R hr hb=>?_,λhlt=>?_⟩
 ·rcases uF hr with⟨rfl,rfl,_⟩|⟨e,hr'⟩
  ·rw[qa]at hb
   refine g4 _ R0 h1 ?_
   rw[jF]
   unfold jh at hb ⊢
   rw[hk]at hb
   rcases dD.1 hb with h|h
   ·exact bQ _ h
   ·exact bH _ (hsub b h)
  ·exact absurd (h0 r R hr').1 e
 ·rcases g5 hlt with⟨j,n,f1,f2⟩|⟨j,pi,f1,f2⟩
  ·exact .inl ⟨j,n,f1,f2⟩
  ·refine .inr ⟨j,{ pi with bl:=pi.bl.filter λb=>!ah b bad },by simp[iE,f1],?_⟩
   refine eH.2 ⟨f2,?_⟩
   cases hm:ah b bad with
   |false=>rfl
   |true=>
    have hb:=hbad b (dh.1 hm)
    obtain⟨n,hn⟩:=g4 _ R0 h1 (by rw[jF];exact bH _ hb)
    have:=hT _ hn
    rw[Ao]at this
    simp at this
theorem ZG{Z:St}{tys:List TypeId}{T:List Tag}(h:Ch T):dG Z tys T=true:=zV.2 λt ht=>.inl (h t ht)
structure wX(cx:Cx)(Z:St)(J:aO)(R0 R1:Root)(aM bad:List Nat):Prop where
 only:∀r R,aX Z r R->r=aa 0/\R=R0
 lv:aX Z (aa 0) R0
 kind:R1.kind=R0.kind
 tags:R0.tags=[]
 sub:∀b∈aM,b∈J.fo (aa 0)
 bad:∀b∈bad,b∈J.fo (aa 0)
theorem wX.bK{R0 R1:Root}{aM bad:List Nat}(L:wX cx Z J R0 R1 aM bad){T:List Tag}(hT:Ch T){b:Nat}(h:Ow.bK cx Z J [] w T b) :
  Ow.bK (iE cx bad) (aR Z (aa 0) R1) (aV J (aa 0) (J.loc (aa 0)) (J.hdr (aa 0)) aM) [] w T b:=aqJ L.only L.lv L.kind L.sub L.bad hT h
theorem wX.wh{R0 R1:Root}{aM bad:List Nat}(L:wX cx Z J R0 R1 aM bad):aS (aV J (aa 0) (J.loc (aa 0)) (J.hdr (aa 0)) aM) R1 (aa 0)=aS J R0 (aa 0):=by
 rw[wL]
 unfold ny aS
 rw[L.kind]<;>cases R0.kind<;>rfl
theorem wX.av(fr':Fr)(hf:fr'.free=fr.free){R0 R1:Root}{aM bad:List Nat}(L:wX cx Z J R0 R1 aM bad){x:gU}{v:Value}(hx:yh x)(h : @jo fr cx Z J [] w x v) :
  @jo fr' (iE cx bad) (aR Z (aa 0) R1) (aV J (aa 0) (J.loc (aa 0)) (J.hdr (aa 0)) aM) [] w x v:=by
 have hv0:dF Z R0:=⟨L.lv.2,by rw[L.tags];rfl⟩
 cases x with
 |mO l=>exact hx.elim
 |lit _ _ _=>exact hx.elim
 |one x=>
  cases x with
  |undef=>trivial
  |ptr r p n=>
   obtain⟨rfl,rfl,rfl⟩:=hx
   refine⟨h.1,λR hR _ _ _ _=>?_⟩
   rw[fG]at hR
   have hR:=jc hR
   subst hR
   obtain⟨_,cs,b,o,hn,e⟩:=h.2 R0 L.lv.1 hv0 (by unfold iL clean;simp[ah]) (λt ht=>by simp[az]at ht) rfl
   simp only[aW,au,bZ]at hn
   refine⟨trivial,J.hdr (aa 0),b,o,?_,e⟩
   simp only[aW]
   rw[L.wh,hn.2]
   simp[aV,upd_same]
  |val k x T=>
   intro _
   obtain⟨cs,h1,h2⟩:=h (.inr (ZG hx.2))
   exact⟨cs,h1,@Q8 fr _ _ fr' hf _ _ _ hx.1 (@lJ fr _ _ _ _ (λ_ _=>rfl) (λb hb=>L.bK hx.2 hb) _ _ _ h2)⟩
  |fn f cs=>
   obtain⟨vs,e,hc⟩:=h
   refine⟨vs,e,?_⟩
   clear e
   have key:∀(cs:List (TypeId×Dat×List Tag)) (vs:List Value),(∀c∈cs,rP c.2.1.1=true/\Ch c.2.2/\c.1=SENT)->@nJ fr cx Z J [] w cs vs->@nJ fr' (iE cx bad) (aR Z (aa 0) R1) (aV J (aa 0) (J.loc (aa 0)) (J.hdr (aa 0)) aM) [] w cs vs:=by
    intro cs
    induction cs with
    |nil=>intro vs _ h;cases vs<;>exact h
    |cons c cs ih=>
     intro vs hc h
     cases vs with
     |nil=>exact h
     |cons v vs=>
      obtain⟨⟨h1,h2⟩,h3⟩:=h
      obtain⟨g1,g2,g3⟩:=hc c (by simp)
      refine⟨⟨h1,λ_=>?_⟩,ih vs (λc hc'=>hc c (by simp[hc'])) h3⟩
      obtain⟨b,o,ds,e,q1,q2,⟨q3,q4,q5⟩,_⟩:=h2 (ZG g2)
      refine⟨b,o,ds,e,q1,@Q8 fr _ _ fr' hf _ _ _ g1 (@lJ fr _ _ _ _ (λ_ _=>rfl) (λb hb=>L.bK g2 hb) _ _ _ q2),⟨q3,q4,λr R hr hb=>?_⟩,.inl ⟨g3,g2⟩⟩
      rcases uF hr with⟨rfl,rfl,_⟩|⟨e,hr'⟩
      ·rw[qa]at hb
       refine q5 _ R0 L.lv ?_
       rw[jF]
       unfold jh at hb ⊢
       rw[L.kind]at hb
       rcases dD.1 hb with h|h
       ·exact bQ _ h
       ·exact bH _ (L.sub b h)
      ·exact absurd (L.only r R hr').1 e
   exact key cs vs hx hc
  |_=>exact hx.elim
theorem TV:∀{aT:List nU},(aT.map (·.1)).Nodup->0∉aT.map (·.1)->(∀q∈aT,∃a n c,q.2.1=Value.slice a n c)->∃bM:Nat->Value,bM 0=.slice none 0 0/\(∀i,∃a n c,bM i=.slice a n c)/\∀q∈aT,bM q.1=q.2.1
 | [],_,_,_=>⟨λ_=>.slice none 0 0,rfl,λ_=>⟨none,0,0,rfl⟩,λq hq=>by simp at hq⟩
 |q :: l,hn,h0,hs=>by
  rw[kZ,jg]at hn
  rw[kZ,bW,not_or]at h0
  obtain⟨bM,g1,g2,g3⟩:=TV hn.2 h0.2 (λq hq=>hs q (by simp[hq]))
  refine⟨λi=>if i=q.1 then q.2.1 else bM i,by simp only[aC h0.1];exact g1,λi=>?_,λt ht=>?_⟩
  ·by_cases h:i=q.1
   ·simp only[aj h];exact hs q (by simp)
   ·simp only[aC h];exact g2 i
  ·rcases bW.1 ht with rfl|ht
   ·simp only[aQ]
   ·have hne:¬t.1=q.1:=λe=>hn.1 (fP.2 ⟨t,ht,e⟩)
    simp only[aC hne];exact g3 t ht
theorem ad2{h:Heap}{own:List TypeId}{ok:Nat->Prop}{xs:List (El kk)}{v:Value}{fo:List Nat}(he:ah e own=true)(H:Ow h own ok (.sl e kk) xs [v] fo):∃a n c,v=.slice a n c:=by
 unfold Ow at H
 rw[aj he]at H
 obtain⟨a,n,c,hv,_⟩:=H
 simp only[jr,fM]at hv
 exact⟨a,n,c,hv⟩
theorem apW(H:Rel cx Z J [] a w)(hw0:cx.w0=w){R0:Root}(hR0:aX Z (aa 0) R0)(lU:∀r,r≠aa 0->Z.roots r=none)(hpar:R0.kind=.par)(oV:R0.tags=[])(hown:∀t∈R0.k.tys,ah t R0.own=true)(he:ah e R0.own=true)
  (hsl:∀s,yh (Z.slots s)) {k':K} {x':El k'} {tb:Nat->List (El kk)} {ns:List Nat} (hR:Rw e kk false tb R0.k k' R0.x x' ns) (hnd:ns.Nodup) (hn0:0∉ns) (hown':∀t∈k'.tys,ah t R0.own=true) :
  ∃(aT:List nU) (aM:List Nat) (bM:Nat->Value) (h0:bM 0=.slice none 0 0) (hs:∀i,∃a n c,bM i=.slice a n c),aT.map (·.1)=ns/\(J.fo (aa 0)).Perm (aM++bz aT)/\
   (∀q∈aT,@Ow fr (hp w) R0.own (λ_=>False) (.sl e kk) (tb q.1) [q.2.1] q.2.2)/\(∀q∈aT,bM q.1=q.2.1)/\
   @Rel (eD fr bM h0 hs) (iE cx (bz aT)) (aR Z (aa 0) { R0 with k:=k',x:=x' }) (aV J (aa 0) (J.loc (aa 0)) (J.hdr (aa 0)) aM) [] a w:=by
 have K:=H.roots _ R0 hR0
 have hv0:dF Z R0:=⟨hR0.2,by rw[oV];rfl⟩
 have hO:Ow (hp w) R0.own (λ_=>False) R0.k R0.x (J.hdr (aa 0)) (J.fo (aa 0)):=jU (kU hown) (K.ow hv0)
 obtain⟨aT,aM,g1,g2,g3,g4⟩:=YL hown hR hO
 obtain⟨bM,i1,i2,i3⟩:=TV (aT:=aT) (by rw[g1];exact hnd) (by rw[g1];exact hn0) (λq hq=>ad2 he (g3 q hq))
 refine⟨aT,aM,bM,i1,i2,g1,g2,g3,i3,?_⟩
 have hblk:blk J R0 (aa 0)=(J.loc (aa 0)).1 :: J.fo (aa 0):=by unfold blk aS;rw[hpar];rfl
 have hsub:∀b∈aM,b∈J.fo (aa 0):=λb hb=>g2.mem_iff.2 (bQ _ hb)
 have hbad:∀b∈bz aT,b∈J.fo (aa 0):=λb hb=>g2.mem_iff.2 (bH _ hb)
 have L:wX cx Z J R0 { R0 with k:=k',x:=x' } aM (bz aT):=⟨λr R hr=>by
  by_cases e:r=aa 0
  ·subst e;refine⟨rfl,?_⟩;have:=hr.1;rw[hR0.1]at this;exact(jc this).symm
  ·have:=hr.1;rw[lU r e]at this;simp at this,hR0,rfl,oV,hsub,hbad⟩
 have kC:=K.nd
 rw[hblk]at kC
 have sS:=jg.1 kC
 have jH:=dH.1 (g2.nodup sS.2)
 have hlv:∀{q Q},aX (aR Z (aa 0) { R0 with k:=k',x:=x' }) q Q->q=aa 0/\Q={ R0 with k:=k',x:=x' }:=λ{q Q} hq=>by
  rcases uF hq with⟨rfl,rfl,_⟩|⟨e,hq'⟩
  ·exact⟨rfl,rfl⟩
  ·exact absurd (L.only q Q hq').1 e
 have hlv1:aX (aR Z (aa 0) { R0 with k:=k',x:=x' }) (aa 0) { R0 with k:=k',x:=x' }:=⟨fG ..,hR0.2⟩
 have hblk':blk (aV J (aa 0) (J.loc (aa 0)) (J.hdr (aa 0)) aM) { R0 with k:=k',x:=x' } (aa 0)=(J.loc (aa 0)).1 :: aM:=by
  rw[qa];unfold jh;simp only[hpar];rfl
 have jQ:∀b∈(J.loc (aa 0)).1 :: aM,Ow.mine (iE cx (bz aT)) w b:=λb hb=>by
  have hb0:b∈blk J R0 (aa 0):=by
   rw[hblk]
   rcases bW.1 hb with h|h
   ·rw[h];exact jE
   ·exact jD _ (hsub b h)
  obtain⟨m1,m2⟩:=K.mine b hb0
  refine⟨m1,?_⟩
  rcases m2 with m2|⟨j,pi,m2,m3⟩
  ·exact .inl m2
  ·refine .inr ⟨j,{ pi with bl:=pi.bl.filter λb=>!ah b (bz aT) },by simp[iE,m2],eH.2 ⟨m3,?_⟩⟩
   have:ah b (bz aT)=false:=by
    rw[gJ]
    intro hm
    rcases bW.1 hb with h|h
    ·subst h;exact sS.1 (hbad _ hm)
    ·exact jH.2.2 b h b hm rfl
   rw[this];rfl
 have hpl:=H.mJ
 refine @Rel.mk (eD fr bM i1 i2) _ _ _ _ _ _ H.defs H.sz ?_ ?_ ?_ ?_ ?_ ?_ ?_ (λb hb=>by simp at hb) lZ (λr R hr b hb h=>by simp at h) ?_ ?_ ?_ (λj p ts v h=>h.elim) (λj v h=>h.elim)
 ·intro j kg b o n hj hb
  obtain⟨pi,hj',rfl⟩:=sI hj
  obtain⟨R,f1,f2,f3,f4⟩:=H.kI j pi b o n hj' hb
  obtain⟨e1,rfl⟩:=L.only _ R f1
  rw[e1]at f3 ⊢
  exact⟨_,hlv1,hpar,by simp[aV,upd_same,f3],by show k'.size=n;rw[hR.size];exact f4⟩
 ·intro r R hr hk
  obtain⟨rfl,rfl⟩:=hlv hr
  obtain⟨j,pi,n,f1,f2,f3⟩:=H.sW _ R0 hR0 hpar
  exact⟨j,{ pi with bl:=pi.bl.filter λb=>!ah b (bz aT) },n,f1,by simp[iE,f2],by simp[aV,upd_same,f3]⟩
 ·intro s
  exact wX.av (fr:=fr) (eD fr bM i1 i2) rfl L (hsl s) (H.slots s)
 ·intro s
  have hs:=hsl s
  show nI _ (Z.slots s)
  cases hx:Z.slots s with
  |mO l=>rw[hx]at hs;exact hs.elim
  |lit _ _ _=>rw[hx]at hs;exact hs.elim
  |one x=>
   rw[hx]at hs
   cases x with
   |undef=>trivial
   |ptr r p n=>obtain⟨rfl,rfl,rfl⟩:=hs;exact⟨_,fG ..,.inr (fQ _)⟩
   |val k x T=>exact λt ht=>.inl (hs.2 t ht)
   |fn f cs=>exact λc hc t ht=>.inl ((hs c hc).2.1 t ht)
   |_=>exact hs.elim
 ·intro r R hr
  obtain⟨rfl,rfl⟩:=hlv hr
  refine @uR.mk (eD fr bM i1 i2) _ _ _ _ _ _ _ (λ_=>?_) ?_ ?_ ?_ ?_
  ·have e1:(aV J (aa 0) (J.loc (aa 0)) (J.hdr (aa 0)) aM).hdr (aa 0)=J.hdr (aa 0):=by simp[aV,upd_same]
   have e2:(aV J (aa 0) (J.loc (aa 0)) (J.hdr (aa 0)) aM).fo (aa 0)=aM:=by simp[aV,upd_same]
   rw[e1,e2]
   exact @jU (eD fr bM i1 i2) _ _ _ _ _ _ _ _ (kU hown') (g4 (eD fr bM i1 i2) rfl i3)
  ·show((aV J (aa 0) (J.loc (aa 0)) (J.hdr (aa 0)) aM).hdr (aa 0)).length=k'.size
   rw[hR.size]
   simpa[aV,upd_same]using K.len
  ·intro b o hb
   rw[L.wh]at hb
   obtain⟨m1,arr,e',lo,hi,m2,m3,m4,m5⟩:=K.mem b o hb
   refine⟨by simpa[aV,upd_same]using m1,arr,e',lo,hi,m2,m3,by show o+k'.size<=_;rw[hR.size];exact m4,m5⟩
  ·rw[hblk']
   exact jg.2 ⟨λh=>sS.1 (hsub _ h),jH.1⟩
  ·intro b hb
   rw[hblk']at hb
   exact jQ b hb
 ·intro r R hr
  by_cases e:r=aa 0
  ·subst e
   rw[fG]at hr
   have hr:=jc hr
   subst hr
   exact⟨λt ht=>by rw[show({ R0 with k:=k',x:=x' }:Root).tags=R0.tags from rfl,oV]at ht;simp at ht,Ao 0,λn hn=>by rw[show({ R0 with k:=k',x:=x' }:Root).tags=R0.tags from rfl,oV]at hn;simp at hn⟩
  ·rw[jR _ _ e,lU r e]at hr;simp at hr
 ·intro r R r' R' hr hr' hne
  exact absurd ((hlv hr).1.trans (hlv hr').1.symm) hne
 ·obtain⟨f1,f2,f3,f4,f5,f6⟩:=H.frame
  refine⟨f1,f2,f3,f4,λb _ _=>by show hp w b=hp cx.w0 b;rw[hw0],λj kg b o n hj hb=>?_⟩
  obtain⟨pi,hj',rfl⟩:=sI hj
  exact f6 j pi b o n hj' hb
 ·intro j kg hj hkp
  obtain⟨pi,hj',rfl⟩:=sI hj
  obtain⟨R,f1,f2⟩:=H.qj j pi hj' hkp
  by_cases e:aa j=aa 0
  ·refine⟨_,by rw[e];exact fG ..,λ_ b hb hnb=>.inr ⟨by show hp w b=hp cx.w0 b;rw[hw0],by simp,λq Q hq _=>by rw[(hlv hq).1,e]⟩⟩
  ·rw[lU _ e]at f1;simp at f1
 ·refine⟨λj kg hj b hb=>?_,λb hb=>⟨?_,λj kg hj hbl=>?_⟩,λb hb=>hpl.2.2 b hb⟩
  ·obtain⟨pi,hj',rfl⟩:=sI hj
   exact hpl.1 j pi hj' b (eH.1 hb).1
  ·exact(hpl.2.1 b hb).1
  ·obtain⟨pi,hj',rfl⟩:=sI hj
   exact(hpl.2.1 b hb).2 j pi hj' (eH.1 hbl).1
theorem M6{h:Heap}{own own':List TypeId}{ok:Nat->Prop}:∀{k:K} {x:El k} {cs:List Value} {fo:List Nat},(∀t∈k.tys,ah t own=ah t own')->Ow h own ok k x cs fo->Ow h own' ok k x cs fo:=by
 intro k
 induction k with
 |sl f k ih=>
  intro x cs fo ht H
  have hf:=ht f (by simp[K.tys])
  unfold Ow at H ⊢
  cases hm:ah f own with
  |true=>
   rw[aj hm]at H
   rw[aj (by rw[<-hf];exact hm)]
   obtain⟨a,n,c,e1,e2,e3,H⟩:=H
   refine⟨a,n,c,e1,e2,e3,?_⟩
   rcases H with H|⟨b,o,arr,lo,hi,ea,hb,hz,hs,ay,hl,hp,H⟩
   ·exact .inl H
   ·refine .inr ⟨b,o,arr,lo,hi,ea,hb,hz,hs,ay,hl,hp,λi hi=>?_⟩
    obtain⟨ds,h1,h2⟩:=H i hi
    exact⟨ds,h1,ih (λt h=>ht t (by simp[K.tys,h])) h2⟩
  |false=>
   rw[aC (by rw[hm];simp)]at H
   rw[aC (by rw[<-hf,hm];simp)]
   exact H
 |pair a b iha ihb=>
  intro x cs fo ht H
  obtain⟨c1,c2,f1,f2,e,hp,h1,h2⟩:=H
  exact⟨c1,c2,f1,f2,e,hp,iha (λt h=>ht t (by simp[K.tys,h])) h1,ihb (λt h=>ht t (by simp[K.tys,h])) h2⟩
 |st f ih=>intro x cs fo ht H;exact ih (x:=x) ht H
 |int ik=>intro x cs fo _ H;exact H
 |bool=>intro x cs fo _ H;exact H
 |id e=>intro x cs fo _ H;exact H
 |str=>intro x cs fo _ H;exact H
 |unit=>intro x cs fo _ H;exact H
 |gap n=>intro x cs fo _ H;exact H
theorem akm{z:Bool}{tb:Nat->List (El kk)}{k k':K}{x:El k}{y:El k'}{ns:List Nat}{v:Value}{cs:List Value}(hR:Rw e kk z tb k k' x y ns)(h:VC k' v cs):VC k v cs:=by
 cases k<;>cases k'<;>first|exact hR.elim|exact h
def Iz(e:TypeId)(kk:K)(tb:Nat->List (El kk)):(rs rs':List bN)->Cont (eU rs)->Cont (eU rs')->List Nat->Prop
 | [],[],_,_,ns=>ns=[]
 |.val k _ _ :: rs,.val k' _ _ :: rs',c,c',ns=>(∃h:k=k',k.flat=true/\rP k=true/\h▸c.1=c'.1)/\Iz e kk tb rs rs' c.2 c'.2 ns
 |.own k ow _ _ :: rs,.own k' ow' _ _ :: rs',c,c',ns=>∃n1 n2,ns=n1++n2/\((k.tys.all λt=>ah t ow)=true/\(k'.tys.all λt=>ah t ow')=true/\Rw e kk true tb k k' c.1 c'.1 n1)/\Iz e kk tb rs rs' c.2 c'.2 n2
 |_,_,_,_,_=>False
theorem select{aT:List nU}:∀{ns:List Nat},(∀n∈ns,n∈aT.map (·.1))->∃l:List nU,l.map (·.1)=ns/\∀q∈l,q∈aT
 | [],_=>⟨[],rfl,λq hq=>by simp at hq⟩
 |n :: ns,h=>by
  obtain⟨l,h1,h2⟩:=select (ns:=ns) (λn hn=>h n (by simp[hn]))
  obtain⟨q,hq,e⟩:=fP.1 (h n (by simp))
  exact⟨q :: l,by simp[h1,e],λt ht=>by
   rcases bW.1 ht with rfl|ht
   ·exact hq
   ·exact h2 t ht⟩
theorem Vr:∀{aT:List nU},(bz aT).Nodup->(aT.map (·.1)).Nodup->∀q∈aT,q.2.2.Nodup/\∀q'∈aT,q.1≠q'.1->∀b∈q.2.2,b∉q'.2.2
 | [],_,_,q,hq=>by simp at hq
 |t :: l,hn,hm,q,hq=>by
  have e:bz (t :: l)=t.2.2++bz l:=rfl
  rw[e]at hn
  obtain⟨n1,n2,n3⟩:=dH.1 hn
  rw[kZ,jg]at hm
  have hin:∀q∈l,∀b∈q.2.2,b∈bz l:=λq hq b hb=>jZ.2 ⟨q,hq,hb⟩
  rcases bW.1 hq with rfl|NY
  ·refine⟨n1,λq' hq' hne b hb hb'=>?_⟩
   rcases bW.1 hq' with rfl|hq'
   ·exact hne rfl
   ·exact n3 b hb b (hin q' hq' b hb') rfl
  ·obtain⟨g1,g2⟩:=Vr n2 hm.2 q NY
   refine⟨g1,λq' hq' hne b hb hb'=>?_⟩
   rcases bW.1 hq' with rfl|hq'
   ·exact n3 b hb' b (hin q NY b hb) rfl
   ·exact g2 q' hq' hne b hb hb'
theorem Vs{aT:List nU}(hn:(bz aT).Nodup)(hm:(aT.map (·.1)).Nodup):∀{l:List nU},(∀q∈l,q∈aT)->(l.map (·.1)).Nodup->(bz l).Nodup
 | [],_,_=>lZ
 |t :: l,hs,hl=>by
  have e:bz (t :: l)=t.2.2++bz l:=rfl
  rw[e]
  rw[kZ,jg]at hl
  refine dH.2 ⟨(Vr hn hm t (hs t (by simp))).1,Vs hn hm (λq hq=>hs q (by simp[hq])) hl.2,λb hb c hc Cc=>?_⟩
  subst Cc
  obtain⟨q,hq,hb'⟩:=jZ.1 hc
  exact(Vr hn hm t (hs t (by simp))).2 q (hs q (by simp[hq])) (λe=>hl.1 (fP.2 ⟨q,hq,e.symm⟩)) b hb hb'
theorem apY(fr':Fr)(hf:fr'.free=fr.free){uo:Cx}{Z':St}{J':aO}{F':List Nat}{w':World}{tb:Nat->List (El kk)}{O:List TypeId}(hO:∀t∈(K.sl e kk).tys,ah t O=true)  :
  ∀{rs rs':List bN} {c:Cont (eU rs)} {c':Cont (eU rs')} {vs:List Value} {ay:List (List Nat)} {aT:List nU},Iz e kk tb rs rs' c c' (aT.map (·.1))->@uQ fr' uo Z' J' F' w' rs' c' vs ay->
   (∀q∈aT,@Ow fr (hp w') O (λ_=>False) (.sl e kk) (tb q.1) [q.2.1] q.2.2/\fr'.bM q.1=q.2.1)->
   ∃EG,(∀Z1 aP F1,@uQ fr cx Z1 aP F1 w' rs c vs EG)/\EG.flatten.Perm (ay.flatten++bz aT):=by
 intro rs
 induction rs with
 |nil=>
  intro rs' c c' vs ay aT hR hL htr
  cases rs' with
  |cons _ _=>exact hR.elim
  |nil=>
   have ht:aT=[]:=by simpa using (show aT.map (·.1)=[]from hR)
   subst ht
   cases vs with
   |cons _ _=>exact hL.elim
   |nil=>cases ay with
    |cons _ _=>exact hL.elim
    |nil=>exact⟨[],λ_ _ _=>trivial,.refl _⟩
 |cons r rs ih=>
  intro rs' c c' vs ay aT hR hL htr
  cases rs' with
  |nil=>cases r<;>exact hR.elim
  |cons r' rs'=>
   cases r with
   |into _ _=>exact hR.elim
   |ptr _ _ _ _=>exact hR.elim
   |val k ex pr=>
    cases r' with
    |val k' ex' pr'=>
     obtain⟨⟨hk,h1,h2,h3⟩,hR⟩:=hR
     subst hk
     cases vs with
     |nil=>exact hL.elim
     |cons v vs=>
      cases ay with
      |nil=>exact hL.elim
      |cons fo ay=>
       obtain⟨⟨rfl,T,cs,g1,g2,g3⟩,hL⟩:=hL
       obtain⟨EG,q1,q2⟩:=ih hR hL htr
       refine⟨[] :: EG,λZ1 aP F1=>⟨⟨rfl,[],cs,.inl h1,g2,?_⟩,q1 Z1 aP F1⟩,by simpa using q2⟩
       have h3:c.1=c'.1:=h3
       rw[h3]
       exact @nG fr _ _ _ _ _ _ _ h1 (@Q8 fr' _ _ fr hf.symm _ _ _ h2 g3)
    |_=>exact hR.elim
   |own k ow ex pr=>
    cases r' with
    |own k' ow' ex' pr'=>
     obtain⟨n1,n2,hns,⟨a1,a2,a3⟩,hR⟩:=hR
     rw[List.map_eq_append_iff]at hns
     obtain⟨t1,t2,rfl,rfl,rfl⟩:=hns
     cases vs with
     |nil=>exact hL.elim
     |cons v vs=>
      cases ay with
      |nil=>exact hL.elim
      |cons fo ay=>
       obtain⟨⟨T,cs,aqT,g1,g2,g3,g4⟩,hL⟩:=hL
       obtain⟨EG,q1,q2⟩:=ih hR hL (λq hq=>htr q (bH _ hq))
       have hk':∀t∈k'.tys,ah t aqT=true:=λt ht=>g2 t ht (eX.1 a2 t ht)
       let O2:List TypeId:=O++k.tys++k'.tys
       have m1:∀t∈k.tys,ah t O2=true:=λt ht=>dh.2 (bQ _ (bH _ ht))
       have m2:∀t∈k'.tys,ah t O2=true:=λt ht=>dh.2 (bH _ ht)
       have m3:∀t∈(K.sl e kk).tys,ah t O2=true:=λt ht=>dh.2 (bQ _ (bQ _ (dh.1 (hO t ht))))
       have g5 : @Ow fr' (hp w') O2 (λ_=>False) k' c'.1 cs fo:=@jU fr' _ _ _ _ _ _ _ _ (kU m2) (@M6 fr' _ _ _ _ _ _ _ _ (λt ht=>by rw[hk' t ht,m2 t ht]) g4)
       have g6:=QT (fr:=fr) fr' m1 a3 g5 (λq hq=>by
        obtain⟨f1,f2⟩:=htr q (bQ _ hq)
        exact⟨@M6 fr _ _ _ _ _ _ _ _ (λt ht=>by rw[hO t ht,m3 t ht]) f1,f2⟩)
       refine⟨(fo++bz t1) :: EG,λZ1 aP F1=>⟨⟨[],cs,O2,.inl a1,λt ht _=>m1 t ht,akm a3 g3,@jU fr _ _ _ _ _ _ _ _ (kU m1) g6⟩,q1 Z1 aP F1⟩,?_⟩
       simp only[nO]
       have et:bz (t1++t2)=bz t1++bz t2:=by simp[bz]
       rw[et]
       refine(q2.append_left (fo++bz t1)).trans ?_
       simp only[gD]
       refine vL fo ?_
       rw[<-gD,<-gD]
       exact tQ _ BD
    |_=>exact hR.elim
end
end
end
section
open Go
section
variable {e:TypeId}{kk:K}[fr:Fr]
variable {cx:Cx}{Z:St}{J:aO}{a:Act}{w:World}
def sK(k:K)(x:El k)(ow wt ht:List TypeId):Root:={ k,x,own:=ow,tags:=[],w:=wt,h:=ht,g:=0,kind:=.par,fixed:=false,keep:=true,ew:=[],eh:=ht }
def vU(R:Root):St:=⟨λ_=>.one .undef,λr=>bif Nat.beq r (aa 0)then some R else none⟩
def Ce(loc:Nat×Nat)(hdr:List Value)(fo:List Nat):aO:=⟨λ_=>loc,λ_=>hdr,λ_=>fo⟩
theorem Cf{R:Root}{r:Nat}{Q:Root}(h:(vU R).roots r=some Q):r=aa 0/\Q=R:=by
 unfold vU at h
 simp only at h
 cases hb:Nat.beq r (aa 0)with
 |true=>rw[hb]at h;exact⟨bD hb,(jc h).symm⟩
 |false=>rw[hb]at h;simp at h
theorem zZ{R:Root}:(vU R).roots (aa 0)=some R:=by simp[vU]
theorem apU(H:Rel cx Z J [] a w)(hw0:cx.w0=w){R0:Root}(hR0:aX Z (aa 0) R0)(lU:∀r,r≠aa 0->Z.roots r=none)(hpar:R0.kind=.par)(hg0:R0.g=0)(hv0:dF Z R0)
  (hown:∀t∈R0.k.tys,ah t R0.own=true) {k':K} (hown':∀t∈k'.tys,ah t R0.own=true) (sP:∀t∈(K.sl e kk).tys,ah t R0.own=true)
  {tb:Nat->List (El kk)} {aT:List nU} {aM:List Nat} {bM:Nat->Value} {h0:bM 0=.slice none 0 0} {hs:∀i,∃a n c,bM i=.slice a n c}
  (hperm:(J.fo (aa 0)).Perm (aM++bz aT)) (hnd:(aT.map (·.1)).Nodup) (hrow:∀q∈aT,@Ow fr (hp w) R0.own (λ_=>False) (.sl e kk) (tb q.1) [q.2.1] q.2.2) (hid:∀q∈aT,bM q.1=q.2.1)
  {Z1:St} {aP:aO} {F1:List Nat} {a1:Act} {w':World} (H1 : @Rel (eD fr bM h0 hs) (iE cx (bz aT)) Z1 aP F1 a1 w') {Q:Root} (hQ:Z1.roots (aa 0)=some Q) (Cq:dF Z1 Q) (EK:Q.k=k') (SG:∀t∈k'.tys,ah t Q.own=true)
  {wt ht:List TypeId} (hwt:iM Q.w wt=true/\iM Q.ew wt=true) (hwk:∀t∈(K.sl e kk).tys,t∈wt) (Jn:jC∈ht)
  {y:El R0.k} {jS:List nU} (hP:Rw e kk true tb R0.k Q.k y Q.x (jS.map (·.1))) (yF:∀q∈jS,q∈aT)
  {rs rs':List bN} {c:Cont (eU rs)} {c':Cont (eU rs')} {vs:List Value} {ay:List (List Nat)} {uJ:List nU} (hRs:∀q∈uJ,q∈aT) (hRR:Iz e kk tb rs rs' c c' (uJ.map (·.1)))
  (hL : @uQ (eD fr bM h0 hs) (iE cx (bz aT)) Z1 aP F1 w' rs' c' vs ay) (hfn:ay.flatten.Nodup) (qK:∀b∈ay.flatten,b∈F1) (hall:((uJ++jS).map (·.1)).Nodup)
  (qL:∀j p ts v,cx.ptrs j p ts v->∃k,ts=iL p k) :
  ∃iB vW,Rel cx (vU (sK R0.k y R0.own wt ht)) iB vW.flatten a1 w'/\uQ cx (vU (sK R0.k y R0.own wt ht)) iB vW.flatten w' rs c vs vW/\vW.flatten.Nodup:=by
 have K0:=H.roots _ R0 hR0
 have hlv1:aX Z1 (aa 0) Q:=⟨hQ,Cq.1⟩
 have K1:=@Rel.roots (eD fr bM h0 hs) _ _ _ _ _ _ H1 _ Q hlv1
 have Qo:=@uR.ow (eD fr bM h0 hs) _ _ _ _ _ _ _ K1
 have Ql:=@uR.len (eD fr bM h0 hs) _ _ _ _ _ _ _ K1
 have ah2:=@uR.mem (eD fr bM h0 hs) _ _ _ _ _ _ _ K1
 have Qn:=@uR.nd (eD fr bM h0 hs) _ _ _ _ _ _ _ K1
 have Qm:=@uR.mine (eD fr bM h0 hs) _ _ _ _ _ _ _ K1
 have TF:∀r R,aX Z r R->r=aa 0/\R=R0:=λr R hr=>by
  by_cases e:r=aa 0
  ·subst e;refine⟨rfl,?_⟩;have:=hr.1;rw[hR0.1]at this;exact(jc this).symm
  ·have:=hr.1;rw[lU r e]at this;simp at this
 obtain⟨j0,UG,n0,p1,p2,p3⟩:=H.sW _ R0 hR0 hpar
 obtain⟨Q',q1,q2,q3,q4⟩:=@Rel.kI (eD fr bM h0 hs) _ _ _ _ _ _ H1 j0 { UG with bl:=UG.bl.filter λb=>!ah b (bz aT) } (J.loc (aa 0)).1 (J.loc (aa 0)).2 n0 (by simp[iE,p2]) p3
 rw[<-p1]at q1 q3
 have eQ:Q'=Q:=by have:=q1.1;rw[hQ]at this;exact(jc this).symm
 subst eQ
 have Ji:blk J R0 (aa 0)=(J.loc (aa 0)).1 :: J.fo (aa 0):=by unfold blk aS;rw[hpar];rfl
 have hblk1:blk aP Q' (aa 0)=(J.loc (aa 0)).1 :: aP.fo (aa 0):=by unfold blk aS;rw[q2];simp[q3]
 have hsize:w.heap.size<=w'.heap.size:=by have:=(@Rel.frame (eD fr bM h0 hs) _ _ _ _ _ _ H1).2.2.2.1;simpa[iE,hw0]using this
 have kC:=K0.nd
 rw[Ji]at kC
 have sS:=jg.1 kC
 have jH:=dH.1 (hperm.nodup sS.2)
 have hbad:∀b∈bz aT,b∈J.fo (aa 0):=λb hb=>hperm.mem_iff.2 (bH _ hb)
 have Cr:∀b∈bz aT,b∈blk J R0 (aa 0):=λb hb=>by rw[Ji];exact jD _ (hbad b hb)
 have hno:∀b∈bz aT,¬Ow.mine (iE cx (bz aT)) w' b:=λb hb hm=>by
  have hlt:=(K0.mine b (Cr b hb)).1
  rcases hm.2 with h|⟨j,kg,h1,h2⟩
  ·have:w.heap.size<=b:=by simpa[iE,hw0]using h
   omega
  ·obtain⟨pi,_,rfl⟩:=sI h1
   have:=(eH.1 h2).2
   rw[dh.2 hb]at this
   simp at this
 have hsame:∀b∈bz aT,hp w' b=hp w b:=λb hb=>by
  have hlt:=(K0.mine b (Cr b hb)).1
  have:=(@Rel.frame (eD fr bM h0 hs) _ _ _ _ _ _ H1).2.2.2.2.1 b (by simpa[iE,hw0]using hlt) (λj kg h1 h2=>by
   obtain⟨pi,_,rfl⟩:=sI h1
   have:=(eH.1 h2).2
   rw[dh.2 hb]at this
   simp at this)
  simpa[iE,hw0]using this
 have hrow':∀q∈aT,@Ow fr (hp w') R0.own (λ_=>False) (.sl e kk) (tb q.1) [q.2.1] q.2.2:=λq hq=>
  eO (λ_ h=>h.elim) (λ_ h=>h) (λb hb=>hsame b (jZ.2 ⟨q,hq,hb⟩)) (hrow q hq)
 obtain⟨vW,r1,r2⟩:=apY (fr:=fr) (cx:=cx) (eD fr bM h0 hs) rfl sP hRR hL (λq hq=>⟨hrow' q (hRs q hq),hid q (hRs q hq)⟩)
 have NZ:∀b∈bz uJ,b∈bz aT:=λb hb=>by
  obtain⟨q,hq,h⟩:=jZ.1 hb
  exact jZ.2 ⟨q,hRs q hq,h⟩
 have CF:∀b∈bz jS,b∈bz aT:=λb hb=>by
  obtain⟨q,hq,h⟩:=jZ.1 hb
  exact jZ.2 ⟨q,yF q hq,h⟩
 have hsel:(bz uJ++bz jS).Nodup:=by
  have:=Vs jH.2.1 hnd (l:=uJ++jS) (λq hq=>(dD.1 hq).elim (hRs q) (yF q)) hall
  have e:bz (uJ++jS)=bz uJ++bz jS:=by simp[bz]
  rwa[e]at this
 obtain⟨hnR,Ty,Jd⟩:=dH.1 hsel
 have NT:∀b∈F1,Ow.mine (iE cx (bz aT)) w' b:=@Rel.fl (eD fr bM h0 hs) _ _ _ _ _ _ H1
 have Ag:∀b∈(J.loc (aa 0)).1 :: aP.fo (aa 0),Ow.mine (iE cx (bz aT)) w' b:=λb hb=>Qm b (by rw[hblk1];exact hb)
 have Jp:∀b,Ow.mine (iE cx (bz aT)) w' b->Ow.mine cx w' b:=λb hb=>⟨hb.1,hb.2.imp (λh=>h) (λ⟨j,kg,h1,h2⟩=>by
  obtain⟨pi,h3,rfl⟩:=sI h1
  exact⟨j,pi,h3,(eH.1 h2).1⟩)⟩
 have NU:∀b∈bz aT,Ow.mine cx w' b:=λb hb=>by
  obtain⟨m1,m2⟩:=K0.mine b (Cr b hb)
  exact⟨by omega,m2⟩
 have aa4:vW.flatten.Nodup:=r2.nodup_iff.2 (dH.2 ⟨hfn,hnR,λb hb c hc Cc=>by subst Cc;exact hno b (NZ b hc) (NT b (qK b hb))⟩)
 have Ja:∀b∈vW.flatten,b∈ay.flatten\/b∈bz uJ:=λb hb=>dD.1 (r2.mem_iff.1 hb)
 refine⟨Ce (J.loc (aa 0)) (aP.hdr (aa 0)) (aP.fo (aa 0)++bz jS),vW,?_,r1 _ _ _,aa4⟩
 have uA:∀{r R},aX (vU (sK R0.k y R0.own wt ht)) r R->r=aa 0/\R=sK R0.k y R0.own wt ht:=λh=>Cf h.1
 have EM:blk (Ce (J.loc (aa 0)) (aP.hdr (aa 0)) (aP.fo (aa 0)++bz jS)) (sK R0.k y R0.own wt ht) (aa 0)=(J.loc (aa 0)).1 :: (aP.fo (aa 0)++bz jS):=rfl
 have Jr:=Qn
 rw[hblk1]at Jr
 have aa3:=jg.1 Jr
 have hf1:=@Rel.frame (eD fr bM h0 hs) _ _ _ _ _ _ H1
 have hfd1:=@Rel.fI (eD fr bM h0 hs) _ _ _ _ _ _ H1
 have iH:∀b o,aS (Ce (J.loc (aa 0)) (aP.hdr (aa 0)) (aP.fo (aa 0)++bz jS)) (sK R0.k y R0.own wt ht) (aa 0)=some (b,o)->J.loc (aa 0)=(b,o):=λb o h=>jc h
 have N7:R0.k.size=Q'.k.size:=hP.size.symm
 have TH:∀j p ts v,cx.ptrs j p ts v->aa j=aa 0:=λj p ts v h=>by
  obtain⟨_,R,f1,_⟩:=H.rJ j p ts v h
  refine kD λe=>?_
  rw[lU _ e]at f1
  simp at f1
 have hdf:=@Rel.defs (eD fr bM h0 hs) _ _ _ _ _ _ H1
 have hsz0:=@Rel.sz (eD fr bM h0 hs) _ _ _ _ _ _ H1
 have hsz1:cx.nt<=a1.tmps.size:=hsz0
 have Tv:=@Rel.qj (eD fr bM h0 hs) _ _ _ _ _ _ H1
 refine⟨hdf,hsz1,?_,?_,λs=>trivial,λs=>trivial,?_,?_,?_,?_,aa4,?_,?_,?_,?_,?_,?_⟩
 ·intro j pi b o n hj hb
  obtain⟨R,f1,f2,f3,f4⟩:=H.kI j pi b o n hj hb
  obtain⟨e1,rfl⟩:=TF _ R f1
  rw[e1]at f3 ⊢
  exact⟨_,⟨zZ,rfl⟩,rfl,f3,f4⟩
 ·intro r R hr _
  obtain⟨rfl,rfl⟩:=uA hr
  exact⟨j0,UG,n0,p1,p2,p3⟩
 ·intro r R hr
  obtain⟨rfl,rfl⟩:=uA hr
  refine⟨λ_=>?_,by show(aP.hdr (aa 0)).length=R0.k.size;rw[Ql,N7],λb o hb=>?_,?_,λb hb=>?_⟩
  ·have o1 : @Ow (eD fr bM h0 hs) (hp w') R0.own (λ_=>False) Q'.k Q'.x (aP.hdr (aa 0)) (aP.fo (aa 0)):=by
    have hk1:∀t∈Q'.k.tys,ah t Q'.own=true:=λt ht=>SG t (by rw[<-EK];exact ht)
    have hk2:∀t∈Q'.k.tys,ah t R0.own=true:=λt ht=>hown' t (by rw[<-EK];exact ht)
    exact @jU (eD fr bM h0 hs) _ _ _ _ _ _ _ _ (kU hk2) (@M6 (eD fr bM h0 hs) _ _ _ _ _ _ _ _ (λt ht=>by rw[hk1 t ht,hk2 t ht]) (Qo Cq))
   have o2:=QT (fr:=fr) (eD fr bM h0 hs) hown hP o1 (λq hq=>⟨hrow' q (yF q hq),hid q (yF q hq)⟩)
   exact jU (kU hown) o2
  ·have hbo:=iH b o hb
   obtain⟨m1,arr,e',lo,hi,m2,m3,m4,m5⟩:=ah2 b o (by unfold aS;rw[q2];simp[q3,hbo])
   exact⟨m1,arr,e',lo,hi,m2,m3,by show o+R0.k.size<=_;rw[N7];exact m4,λt ht=>by simp[sK]at ht⟩
  ·rw[EM]
   refine jg.2 ⟨λh=>?_,dH.2 ⟨aa3.2,Ty,λb hb c hc Cc=>by subst Cc;exact hno b (CF b hc) (Ag b (jD _ hb))⟩⟩
   rcases dD.1 h with h|h
   ·exact aa3.1 h
   ·exact hno _ (CF _ h) (Ag _ jE)
  ·rw[EM]at hb
   rcases bW.1 hb with h|h
   ·exact Jp b (Ag b (by rw[h];exact jE))
   ·rcases dD.1 h with h|h
    ·exact Jp b (Ag b (jD _ h))
    ·exact NU b (CF b h)
 ·intro r R hr
  obtain⟨rfl,rfl⟩:=Cf hr
  exact⟨λt ht=>by simp[sK]at ht,Ao 0,λn hn=>by simp[sK]at hn⟩
 ·intro r R r' R' hr hr' hne
  exact absurd ((uA hr).1.trans (uA hr').1.symm) hne
 ·intro b hb
  rcases Ja b hb with h|h
  ·exact Jp b (NT b (qK b h))
  ·exact NU b (NZ b h)
 ·intro r R hr b hb lC
  obtain⟨rfl,rfl⟩:=uA hr
  rw[EM]at hb
  have hc1:b∈(J.loc (aa 0)).1 :: aP.fo (aa 0)\/b∈bz jS:=by
   rcases bW.1 hb with h|h
   ·exact .inl (by rw[h];exact jE)
   ·exact(dD.1 h).imp (λh=>jD _ h) id
  rcases hc1 with h|h
  ·rcases Ja b lC with g|g
   ·exact hfd1 _ Q' hlv1 b (by rw[hblk1];exact h) (qK b g)
   ·exact hno b (NZ b g) (Ag b h)
  ·rcases Ja b lC with g|g
   ·exact hno b (CF b h) (NT b (qK b g))
   ·exact Jd b g b h rfl
 ·obtain⟨f1,f2,f3,f4,f5,f6⟩:=hf1
  refine⟨f1,f2,f3,f4,λb hb hnb=>f5 b hb (λj kg h1 h2=>?_),λj pi b o n hj hb=>?_⟩
  ·obtain⟨pi,h3,rfl⟩:=sI h1
   exact hnb j pi h3 (eH.1 h2).1
  ·exact f6 j { pi with bl:=pi.bl.filter λb=>!ah b (bz aT) } b o n (by simp[iE,hj]) hb
 ·intro j pi hj hkp
  obtain⟨R,f1,_⟩:=H.qj j pi hj hkp
  have ej:aa j=aa 0:=kD λne=>by rw[lU _ ne]at f1;simp at f1
  refine⟨sK R0.k y R0.own wt ht,by rw[ej];exact zZ,λ_ b hb hnb=>?_⟩
  have hone:∀q Q,aX (vU (sK R0.k y R0.own wt ht)) q Q->b∈blk (Ce (J.loc (aa 0)) (aP.hdr (aa 0)) (aP.fo (aa 0)++bz jS)) Q q->q=aa j:=λq Q hq _=>by rw[(uA hq).1,ej]
  by_cases hbt:b∈bz aT
  ·by_cases hbR:b∈bz uJ
   ·obtain⟨q,hq,h⟩:=jZ.1 hbR
    obtain⟨t,t1,_,t3⟩:=zC (hrow q (hRs q hq)) b h
    exact .inl ⟨t,by rw[hw0];exact t3,.inl (hwk t t1)⟩
   ·refine .inr ⟨by rw[hw0];exact hsame b hbt,λhF=>?_,hone⟩
    rcases Ja b hF with g|g
    ·exact hno b hbt (NT b (qK b g))
    ·exact hbR g
  ·obtain⟨R1,k1,k2⟩:=Tv j { pi with bl:=pi.bl.filter λb=>!ah b (bz aT) } (by simp[iE,hj]) hkp
   have eR:R1=Q':=by rw[ej,hQ]at k1;exact(jc k1).symm
   subst eR
   rcases k2 Cq.1 b (eH.2 ⟨hb,by rw[gJ.2 hbt];rfl⟩) (λh=>hnb (RV.1 h))with⟨t,t1,t2⟩|⟨t1,t2,_⟩
   ·exact .inl ⟨t,t1,.inl (t2.elim (rT.1 hwt.1 t) (rT.1 hwt.2 t))⟩
   ·refine .inr ⟨t1,λhF=>?_,hone⟩
    rcases Ja b hF with g|g
    ·exact t2 (qK b g)
    ·exact hbt (NZ b g)
 ·refine⟨λj pi hj b hb=>H.mJ.1 j pi hj b hb,λb hb=>H.mJ.2.1 b hb,λb hb=>H.mJ.2.2 b hb⟩
 ·intro j p ts v hv
  have ej:=TH j p ts v hv
  obtain⟨g1,R,f1,f2⟩:=H.rJ j p ts v hv
  obtain⟨k0,rfl⟩:=qL j p ts v hv
  refine⟨g1,sK R0.k y R0.own wt ht,by rw[ej];exact zZ,λhts=>?_⟩
  cases p with
  |cons s p=>exact absurd Jn (hts jC (by simp[iL]))
  |nil=>
   refine⟨g1,λR' hR' _ _ _ _=>?_⟩
   rw[ej]at hR'
   obtain⟨_,rfl⟩:=Cf hR'
   obtain⟨_,cs,b,o,hn,ev⟩:=(f2 (λt ht=>by simp[iL]at ht)).2 R0 (by rw[ej];exact hR0.1) hv0 (by unfold iL clean;simp[ah]) (λt ht=>by simp[az]at ht) rfl
   rw[ej]at hn
   simp only[aW,au,bZ]at hn
   refine⟨trivial,aP.hdr (aa 0),b,o,?_,ev⟩
   have h2:=hn.2
   unfold aS at h2
   rw[hpar]at h2
   rw[ej]
   simp only[aW]
   exact congrArg (λz=>some (aP.hdr (aa 0),z)) h2
 ·intro j v hv
  obtain⟨⟨R,f1⟩,f2⟩:=H.rM j v hv
  have ej:aa j=aa 0:=kD λne=>by rw[lU _ ne]at f1;simp at f1
  rw[ej]at f2
  have:=(f2 R0 hR0 hg0).1
  rw[hpar]at this
  simp at this
end
end
section
open Go
def jI:List aD->Bool
 | []=>true
 |.val k [] :: l=>rP k&&jI l
 |.fn _ ks :: l=>ks.all rP&&jI l
 |_=>false
section
variable [Fr]
theorem FU:∀{ps:List aD} {i:Nat} {c:Cont (kin ps)},jI ps=true->iI ps i c=[]
 | [],_,_,_=>rfl
 |.val k [] :: ps,i,c,h=>by
  simp only[jI,bB]at h
  exact FU (ps:=ps) (i:=i+1) (c:=c.2) h.2
 |.fn f ks :: ps,i,c,h=>by
  simp only[jI,bB]at h
  exact FU (ps:=ps) (i:=i+1) (c:=Cont.snd ks (kin ps) c) h.2
 |.val _ (_ :: _) :: _,_,_,h=>by simp[jI]at h
 |.ro _ :: _,_,_,h=>by simp[jI]at h
 |.rw _ _ _ _ :: _,_,_,h=>by simp[jI]at h
 |.bO _ _ _ :: _,_,_,h=>by simp[jI]at h
 |.own _ _ :: _,_,_,h=>by simp[jI]at h
 |.into _ _ :: _,_,_,h=>by simp[jI]at h
theorem Zw(i:Nat):∀{ks:List K} {c:Cont ks},ks.all rP=true->∀q∈iU.yx i ks c,rP q.2.1.1=true/\Ch q.2.2/\q.1=SENT
 | [],_,_,q,hq=>by simp[iU.yx]at hq
 |k :: ks,c,h,q,hq=>by
  simp only[List.all_cons,bB]at h
  simp only[iU.yx]at hq
  rcases bW.1 hq with rfl|hq
  ·exact⟨h.1,λt ht=>by simp only[iD]at ht;subst ht;exact uY i,rfl⟩
  ·exact Zw i h.2 q hq
theorem OM:∀{ps:List aD} {i:Nat} {c:Cont (kin ps)},jI ps=true->∀s,yh (lD (iU ps i c) s)
 | [],_,_,_,s=>trivial
 |.val k [] :: ps,i,c,h,s=>by
  simp only[jI,bB]at h
  simp only[iU,lD]
  cases Nat.beq s i with
  |true=>
   refine⟨h.1,λt ht=>?_⟩
   cases hf:k.flat with
   |true=>rw[hf]at ht;simp at ht
   |false=>rw[hf]at ht;simp at ht;subst ht;exact uY i
  |false=>exact OM (ps:=ps) (i:=i+1) (c:=c.2) h.2 s
 |.fn f ks :: ps,i,c,h,s=>by
  simp only[jI,bB]at h
  simp only[iU,lD]
  cases Nat.beq s i with
  |true=>exact Zw i h.1
  |false=>exact OM (ps:=ps) (i:=i+1) (c:=Cont.snd ks (kin ps) c) h.2 s
 |.val _ (_ :: _) :: _,_,_,h,_=>by simp[jI]at h
 |.ro _ :: _,_,_,h,_=>by simp[jI]at h
 |.rw _ _ _ _ :: _,_,_,h,_=>by simp[jI]at h
 |.bO _ _ _ :: _,_,_,h,_=>by simp[jI]at h
 |.own _ _ :: _,_,_,h,_=>by simp[jI]at h
 |.into _ _ :: _,_,_,h,_=>by simp[jI]at h
theorem OL{Z:St}:∀{ps:List aD} {i:Nat} {c:Cont (gI ps)},jI ps=true->rZ Z ps i c
 | [],_,_,_=>trivial
 |.val k [] :: ps,i,c,h=>by
  simp only[jI,bB]at h
  exact OL (ps:=ps) (i:=i+1) (c:=c) h.2
 |.fn f ks :: ps,i,c,h=>by
  simp only[jI,bB]at h
  exact OL (ps:=ps) (i:=i+1) (c:=c) h.2
 |.val _ (_ :: _) :: _,_,_,h=>by simp[jI]at h
 |.ro _ :: _,_,_,h=>by simp[jI]at h
 |.rw _ _ _ _ :: _,_,_,h=>by simp[jI]at h
 |.bO _ _ _ :: _,_,_,h=>by simp[jI]at h
 |.own _ _ :: _,_,_,h=>by simp[jI]at h
 |.into _ _ :: _,_,_,h=>by simp[jI]at h
theorem YP{e:TypeId}{kk:K}{z:Bool}{tb:Nat->List (El kk)}{k k1 k2:K}{x:El k}{y1:El k1}{y2:El k2}{ns:List Nat}(ek:k1=k2)(ey:y2=ek▸y1)(h:Rw e kk z tb k k2 x y2 ns):Rw e kk z tb k k1 x y1 ns:=by
 subst ek
 simp only at ey
 subst ey
 exact h
end
theorem abR[fr:Fr]{e:TypeId}{kk:K}{P:Program}{n:Nat}{f:FuncId}{k k':K}{ow wt ht eG ht':List TypeId}{rest:List aD}{rs rs':List bN}
  {F:Nat->Cont (kin (.rw k ow wt ht :: rest))->Option (Cont (eU rs++gI (.rw k ow wt ht :: rest)))} {F':Nat->Cont (kin (.rw k' ow eG ht' :: rest))->Option (Cont (eU rs'++gI (.rw k' ow eG ht' :: rest)))}
  (hrest:jI rest=true) (hown:∀t∈k.tys,ah t ow=true) (hown':∀t∈k'.tys,ah t ow=true) (sP:∀t∈(K.sl e kk).tys,ah t ow=true)
  (hE:∀fr:Fr,@aA fr P n ⟨f,.rw k' ow eG ht' :: rest,rs',F'⟩) (hwt:iM eG wt=true) (hwk:∀t∈(K.sl e kk).tys,t∈wt) (Jn:jC∈ht)
  (hF:∀c out,F n c=some out->∃(x':El k') (ns ms1 ms2:List Nat) (tb:Nat->List (El kk)) (out':Cont (eU rs'++gI (.rw k' ow eG ht' :: rest))),Rw e kk false tb k k' c.1 x' ns/\ns.Nodup/\0∉ns/\F' n (x',c.2)=some out'/\
   Iz e kk tb rs rs' (Cont.fst _ _ out) (Cont.fst _ _ out') ms1/\Rw e kk true tb k k' (Cont.snd _ _ out).1 (Cont.snd _ _ out').1 ms2/\(ms1++ms2).Nodup/\∀m∈ms1++ms2,m∈ns) :
  aA P n ⟨f,.rw k ow wt ht :: rest,rs,F⟩:=by
 intro c out hout cx J args w hnt hw hsz hP H
 obtain⟨x',ns,ms1,ms2,tb,out',hR,hnd,hn0,hF',hRR,Jd,hmm,hsub⟩:=hF c out hout
 have ha:(k.tys.all λt=>ah t ow)=true:=eX.2 hown
 have ha':(k'.tys.all λt=>ah t ow)=true:=eX.2 hown'
 have CE:∀r,(fu (.rw k ow wt ht :: rest) c).roots r=bif Nat.beq r (aa 0)then some (bP k c.1 ow [] .par true)else none:=λr=>by
  show iJ (iI (.rw k ow wt ht :: rest) 0 c) r=_
  simp only[iI,FU hrest,iJ,ha,gP]
 have hR0:aX (fu (.rw k ow wt ht :: rest) c) (aa 0) (bP k c.1 ow [] .par true):=⟨by rw[CE];simp,rfl⟩
 have lU:∀r,r≠aa 0->(fu (.rw k ow wt ht :: rest) c).roots r=none:=λr hr=>by
  rw[CE]
  have:Nat.beq r (aa 0)=false:=by
   cases hb:Nat.beq r (aa 0)with
   |true=>exact absurd (bD hb) hr
   |false=>rfl
  rw[this];rfl
 have hsl:∀s,yh ((fu (.rw k ow wt ht :: rest) c).slots s):=λs=>by
  show yh (lD (iU (.rw k ow wt ht :: rest) 0 c) s)
  simp only[iU,lD]
  cases Nat.beq s 0 with
  |true=>exact⟨rfl,rfl,rfl⟩
  |false=>exact OM hrest s
 obtain⟨aT,aM,bM,i0,is,g1,g2,g3,g4,Je⟩:=apW H hw hR0 lU rfl rfl hown (sP e (by simp[K.tys])) hsl (k':=k') (x':=x') hR hnd hn0 hown'
 have hst:aR (fu (.rw k ow wt ht :: rest) c) (aa 0) { bP k c.1 ow [] .par true with k:=k',x:=x' }=fu (.rw k' ow eG ht' :: rest) (x',c.2):=by
  unfold aR fu
  congr 1
  funext r
  show upd (fu (.rw k ow wt ht :: rest) c).roots (aa 0) _ r=iJ (iI (.rw k' ow eG ht' :: rest) 0 (x',c.2)) r
  simp only[iI,FU hrest,iJ,ha',gP]
  unfold upd
  cases hb:Nat.beq r (aa 0)with
  |true=>rfl
  |false=>simp only[jV];rw[CE,hb];rfl
 rw[hst]at Je
 have hP':D9 (iE cx (bz aT)) (.rw k' ow eG ht' :: rest):=by
  refine⟨λj kg hj hkp=>?_,λj p ts v h=>h.elim,λj v h=>h.elim⟩
  obtain⟨pi,hj',rfl⟩:=sI hj
  obtain⟨k0,o1,o2,o3,h⟩:=hP.par j pi hj' hkp
  cases j with
  |zero=>exact⟨k',ow,eG,ht',.inl rfl⟩
  |succ j=>exact⟨k0,o1,o2,o3,by simpa using h⟩
 have h:=hE (eD fr bM i0 is) (x',c.2) out' hF' (iE cx (bz aT)) _ args w hnt hw hsz hP' Je
 have hpost:∀v w',@Post (eD fr bM i0 is) (iE cx (bz aT)) (.rw k' ow eG ht' :: rest) rs' out' v w'->@Post fr cx (.rw k ow wt ht :: rest) rs out v w':=by
  rintro v w' ⟨Z1,aP,F1,a1,vs,ay,H1,rfl,hL,hfn,qK,hOut,_⟩
  obtain⟨Q,q1,q2,⟨ek,ey⟩,q4,q5,_⟩:=hOut
  have SI:=YP ek ey Jd
  obtain⟨uJ,t1,t2⟩:=select (aT:=aT) (ns:=ms1) (λm hm=>by rw[g1];exact hsub m (bQ _ hm))
  obtain⟨jS,t3,t4⟩:=select (aT:=aT) (ns:=ms2) (λm hm=>by rw[g1];exact hsub m (bH _ hm))
  have nM:=q5
  unfold xE at nM
  simp only[bB]at nM
  obtain⟨⟨⟨⟨l1,l2⟩,_⟩,_⟩,_⟩:=nM
  have htr:∀{l:List Nat},iM l eG=true->iM l wt=true:=λhl=>rT.2 λt ht=>rT.1 hwt t (rT.1 hl t ht)
  obtain⟨iB,vW,r1,r2,r3⟩:=apU (fr:=fr) H hw hR0 lU rfl rfl ⟨rfl,rfl⟩ hown hown' sP g2 (by rw[g1];exact hnd) g3 g4 H1 q1 q2 ek (λt ht=>by
    have:=eX.1 q4 t ht
    rw[hown' t ht]at this
    simpa using this) (wt:=wt) (ht:=ht) ⟨htr l1,htr l2⟩ hwk Jn (y:=(Cont.snd _ _ out).1) (jS:=jS) (by rw[t3];exact SI) t4 (uJ:=uJ) t2 (by rw[t1];exact hRR) hL hfn qK
    (by rw[q9,t1,t3];exact hmm) (λj p ts v h=>by obtain⟨k0,_,h⟩:=hP.ptr j p ts v h;exact⟨k0,h⟩)
  refine⟨_,iB,vW.flatten,a1,vs,vW,r1,rfl,r2,r3,λb hb=>hb,⟨_,zZ,⟨rfl,rfl⟩,⟨rfl,rfl⟩,?_,?_,.inl ha⟩,OL hrest⟩
  ·exact eX.2 λt _=>by simp[sK];rfl
  ·unfold xE sK
   simp only[iM,List.all_nil,bB,eX]
   exact⟨⟨⟨⟨λx hx=>dh.2 hx,trivial⟩,λx hx=>dh.2 hx⟩,λx hx=>dh.2 hx⟩,rfl⟩
 rcases h with⟨h1,h2⟩|⟨v,w',h1,h2⟩
 ·refine .inl ⟨h1,h2.mono ?_⟩
  rintro e w' ⟨v,rfl,hv⟩
  exact⟨v,rfl,hpost v w' hv⟩
 ·exact .inr ⟨v,w',h1,hpost v w' h2⟩
end
section
open Go
theorem IA{e:TypeId}{kk:K}{z:Bool}{tb:Nat->List (El kk)}{k k':K}{t:TypeId}{C:Type}(hsz:k'.size=k.size)(l:List C)(f:C->El k)(g:C->El k')(q:C->List Nat)
  (h:∀c∈l,Rw e kk z tb k k' (f c) (g c) (q c)):Rw e kk z tb (.sl t k) (.sl t k') (l.map f) (l.map g) (l.map q).flatten:=by
 unfold Rw
 refine⟨rfl,hsz,by simp,l.map q,by simp,rfl,λi h1 h2=>?_⟩
 have hi:i<l.length:=by simpa using h1
 have:=h l[i] (iC hi)
 simpa[iR,hi]using this
theorem yS{C:Type}(xs:List C):((xs.zipIdx 1).map (·.2)).Nodup/\0∉(xs.zipIdx 1).map (·.2):=by
 rw[List.zipIdx_map_snd]
 exact⟨List.nodup_range',by simp⟩
theorem J5{C:Type}(xs:List C):(xs.zipIdx 1).map (·.1)=xs:=List.zipIdx_map_fst ..
theorem UC{C R:Type}{xs:List C}{m:C->R}{d:R}{x:C}{i:Nat}(h:(x,i)∈xs.zipIdx 1):((xs[i-1]?).map m).getD d=m x/\i≠0:=by
 obtain⟨h1,h2,h3⟩:=List.mem_zipIdx h
 have hi:i-1<xs.length:=by omega
 exact⟨by simp[hi,h3],by omega⟩
end
section
open Go
section
variable {e:TypeId}{kk:K}[fr:Fr]
variable {cx:Cx}{Z:St}{J:aO}{a:Act}{w:World}
def mZ(cx:Cx)(bad:List Nat):Cx:={ iE cx bad with refs:=cx.refs }
theorem Zr{bad:List Nat}{Z':St}{J':aO}{F':List Nat}:∀{cs:List (TypeId×Dat×List Tag)} {vs:List Value},nJ (iE cx bad) Z' J' F' w cs vs->nJ (mZ cx bad) Z' J' F' w cs vs
 | [],[],_=>trivial
 |_ :: _,_ :: _,h=>⟨h.1,Zr h.2⟩
 | [],_ :: _,h=>h.elim
 |_ :: _,[],h=>h.elim
theorem aeX{bad:List Nat}{Z':St}{J':aO}{F':List Nat}{x:AV}{v:Value}(h:a_ (iE cx bad) Z' J' F' w x v):a_ (mZ cx bad) Z' J' F' w x v:=by
 cases x with
 |fn f cs=>obtain⟨vs,h1,h2⟩:=h;exact⟨vs,h1,Zr h2⟩
 |_=>exact h
theorem Q6{e1 e2:TypeId}{k1 k2:K}{v:Value}{cs:List Value}(h:VC (.sl e1 k1) v cs):VC (.sl e2 k2) v cs:=h
def uq(k:K)(x:El k)(ow wt ht:List TypeId):Root:={ k,x,own:=ow,tags:=[],w:=wt,h:=ht,g:=0,kind:=.anon,fixed:=true,keep:=true,ew:=[],eh:=ht }
theorem apX(H:Rel cx Z J [] a w)(hw0:cx.w0=w){R0:Root}{e1:TypeId}{k1:K}(hk0:R0.k=.sl e1 k1)(hR0:aX Z (aa 0) R0)(lU:∀r,r≠aa 0->Z.roots r=none)(xB:R0.kind=.anon)(oV:R0.tags=[])(hown:∀t∈R0.k.tys,ah t R0.own=true)(he:ah e R0.own=true)
  (hs0:Z.slots 0=.one (.ref (aa 0) 0)) (hsl:∀s,s≠0->yh (Z.slots s)) {e2:TypeId} {k2:K} {x':El (.sl e2 k2)} {tb:Nat->List (El kk)} {ns:List Nat} (hR:Rw e kk false tb R0.k (.sl e2 k2) R0.x x' ns) (hnd:ns.Nodup) (hn0:0∉ns) (hown':∀t∈(K.sl e2 k2).tys,ah t R0.own=true) (hg0:R0.g=0) :
  ∃(aT:List nU) (aM:List Nat) (bM:Nat->Value) (h0:bM 0=.slice none 0 0) (hs:∀i,∃a n c,bM i=.slice a n c),aT.map (·.1)=ns/\(J.fo (aa 0)).Perm (aM++bz aT)/\
   (∀q∈aT,@Ow fr (hp w) R0.own (λ_=>False) (.sl e kk) (tb q.1) [q.2.1] q.2.2)/\(∀q∈aT,bM q.1=q.2.1)/\
   @Rel (eD fr bM h0 hs) (mZ cx (bz aT)) (aR Z (aa 0) { R0 with k:=.sl e2 k2,x:=x' }) (aV J (aa 0) (J.loc (aa 0)) (J.hdr (aa 0)) aM) [] a w:=by
 have KR:=H.roots _ R0 hR0
 have hv0:dF Z R0:=⟨hR0.2,by rw[oV];rfl⟩
 have hO:Ow (hp w) R0.own (λ_=>False) R0.k R0.x (J.hdr (aa 0)) (J.fo (aa 0)):=jU (kU hown) (KR.ow hv0)
 obtain⟨aT,aM,g1,g2,g3,g4⟩:=YL hown hR hO
 obtain⟨bM,i1,i2,i3⟩:=TV (aT:=aT) (by rw[g1];exact hnd) (by rw[g1];exact hn0) (λq hq=>ad2 he (g3 q hq))
 refine⟨aT,aM,bM,i1,i2,g1,g2,g3,i3,?_⟩
 have hblk:blk J R0 (aa 0)=J.fo (aa 0):=by unfold blk aS;rw[xB];rfl
 have hsub:∀b∈aM,b∈J.fo (aa 0):=λb hb=>g2.mem_iff.2 (bQ _ hb)
 have hbad:∀b∈bz aT,b∈J.fo (aa 0):=λb hb=>g2.mem_iff.2 (bH _ hb)
 have L:wX cx Z J R0 { R0 with k:=.sl e2 k2,x:=x' } aM (bz aT):=⟨λr R hr=>by
  by_cases e:r=aa 0
  ·subst e;refine⟨rfl,?_⟩;have:=hr.1;rw[hR0.1]at this;exact(jc this).symm
  ·have:=hr.1;rw[lU r e]at this;simp at this,hR0,rfl,oV,hsub,hbad⟩
 have kC:=KR.nd
 rw[hblk]at kC
 have jH:=dH.1 (g2.nodup kC)
 have hlv:∀{q Q},aX (aR Z (aa 0) { R0 with k:=.sl e2 k2,x:=x' }) q Q->q=aa 0/\Q={ R0 with k:=.sl e2 k2,x:=x' }:=λ{q Q} hq=>by
  rcases uF hq with⟨rfl,rfl,_⟩|⟨e,hq'⟩
  ·exact⟨rfl,rfl⟩
  ·exact absurd (L.only q Q hq').1 e
 have hlv1:aX (aR Z (aa 0) { R0 with k:=.sl e2 k2,x:=x' }) (aa 0) { R0 with k:=.sl e2 k2,x:=x' }:=⟨fG ..,hR0.2⟩
 have hblk':blk (aV J (aa 0) (J.loc (aa 0)) (J.hdr (aa 0)) aM) { R0 with k:=.sl e2 k2,x:=x' } (aa 0)=aM:=by
  rw[qa];unfold jh;simp only[xB];rfl
 have qN:∀v,a_ cx Z J [] w (.ref (aa 0) 0) v->@a_ (eD fr bM i1 i2) (mZ cx (bz aT)) (aR Z (aa 0) { R0 with k:=.sl e2 k2,x:=x' }) (aV J (aa 0) (J.loc (aa 0)) (J.hdr (aa 0)) aM) [] w (.ref (aa 0) 0) v:=by
  intro v hv Q hQ _
  obtain⟨_,rfl⟩:=hlv hQ
  obtain⟨h1,h2⟩:=hv R0 hR0 hg0
  refine⟨xB,?_⟩
  rw[hk0]at h2
  simp only[aV,upd_same]
  exact Q6 h2
 have vY:∀{x:gU} {v:Value},yh x->@jo fr cx Z J [] w x v->@jo (eD fr bM i1 i2) (mZ cx (bz aT)) (aR Z (aa 0) { R0 with k:=.sl e2 k2,x:=x' }) (aV J (aa 0) (J.loc (aa 0)) (J.hdr (aa 0)) aM) [] w x v:=λhx h=>by
  have h1:=wX.av (fr:=fr) (eD fr bM i1 i2) rfl L hx h
  rename_i x v
  cases x with
  |mO l=>exact hx.elim
  |lit _ _ _=>exact hx.elim
  |one x=>exact @aeX (eD fr bM i1 i2) _ _ _ _ _ _ _ _ h1
 have jQ:∀b∈aM,Ow.mine (mZ cx (bz aT)) w b:=λb hb=>by
  obtain⟨m1,m2⟩:=KR.mine b (by rw[hblk];exact hsub b hb)
  refine⟨m1,?_⟩
  rcases m2 with m2|⟨j,pi,m2,m3⟩
  ·exact .inl m2
  ·refine .inr ⟨j,{ pi with bl:=pi.bl.filter λb=>!ah b (bz aT) },by simp[mZ,iE,m2],eH.2 ⟨m3,?_⟩⟩
   have:ah b (bz aT)=false:=by
    rw[gJ]
    intro hm
    exact jH.2.2 b hb b hm rfl
   rw[this];rfl
 have xC:∀{j:Nat} {kg:D8},(mZ cx (bz aT)).par j=some kg->∃pi,cx.par j=some pi/\kg={ pi with bl:=pi.bl.filter λb=>!ah b (bz aT) }:=λh=>sI (cx:=cx) h
 have hpl:=H.mJ
 refine @Rel.mk (eD fr bM i1 i2) _ _ _ _ _ _ H.defs H.sz ?_ ?_ ?_ ?_ ?_ ?_ ?_ (λb hb=>by simp at hb) lZ (λr R hr b hb h=>by simp at h) ?_ ?_ ?_ (λj p ts v h=>h.elim) ?_
 ·intro j kg b o n hj hb
  obtain⟨pi,hj',rfl⟩:=xC hj
  obtain⟨R,f1,f2,_⟩:=H.kI j pi b o n hj' hb
  obtain⟨_,rfl⟩:=L.only _ R f1
  rw[xB]at f2
  simp at f2
 ·intro r R hr hk
  obtain⟨rfl,rfl⟩:=hlv hr
  have hk:R0.kind=.par:=hk
  rw[xB]at hk
  simp at hk
 ·intro s
  show @jo (eD fr bM i1 i2) _ _ _ _ _ (Z.slots s) _
  by_cases h0:s=0
  ·subst h0
   have:=H.slots 0
   rw[hs0]at this ⊢
   exact qN _ this
  ·exact vY (hsl s h0) (H.slots s)
 ·intro s
  show nI _ (Z.slots s)
  by_cases h0:s=0
  ·subst h0
   rw[hs0]
   exact⟨_,fG ..,.inr (fQ _)⟩
  have hs:=hsl s h0
  cases hx:Z.slots s with
  |mO l=>rw[hx]at hs;exact hs.elim
  |lit _ _ _=>rw[hx]at hs;exact hs.elim
  |one x=>
   rw[hx]at hs
   cases x with
   |undef=>trivial
   |ptr r p n=>obtain⟨rfl,rfl,rfl⟩:=hs;exact⟨_,fG ..,.inr (fQ _)⟩
   |val k x T=>exact λt ht=>.inl (hs.2 t ht)
   |fn f cs=>exact λc hc t ht=>.inl ((hs c hc).2.1 t ht)
   |_=>exact hs.elim
 ·intro r R hr
  obtain⟨rfl,rfl⟩:=hlv hr
  refine @uR.mk (eD fr bM i1 i2) _ _ _ _ _ _ _ (λ_=>?_) ?_ ?_ ?_ ?_
  ·have e1:(aV J (aa 0) (J.loc (aa 0)) (J.hdr (aa 0)) aM).hdr (aa 0)=J.hdr (aa 0):=by simp[aV,upd_same]
   have e2:(aV J (aa 0) (J.loc (aa 0)) (J.hdr (aa 0)) aM).fo (aa 0)=aM:=by simp[aV,upd_same]
   rw[e1,e2]
   exact @jU (eD fr bM i1 i2) _ _ _ _ _ _ _ _ (kU hown') (g4 (eD fr bM i1 i2) rfl i3)
  ·show((aV J (aa 0) (J.loc (aa 0)) (J.hdr (aa 0)) aM).hdr (aa 0)).length=(K.sl e2 k2).size
   rw[hR.size]
   simpa[aV,upd_same]using KR.len
  ·intro b o hb
   rw[L.wh]at hb
   unfold aS at hb
   rw[xB]at hb
   simp at hb
  ·rw[hblk']
   exact jH.1
  ·intro b hb
   rw[hblk']at hb
   exact jQ b hb
 ·intro r R hr
  by_cases e:r=aa 0
  ·subst e
   rw[fG]at hr
   have hr:=jc hr
   subst hr
   exact⟨λt ht=>by rw[show({ R0 with k:=.sl e2 k2,x:=x' }:Root).tags=R0.tags from rfl,oV]at ht;simp at ht,Ao 0,λn hn=>by rw[show({ R0 with k:=.sl e2 k2,x:=x' }:Root).tags=R0.tags from rfl,oV]at hn;simp at hn⟩
  ·rw[jR _ _ e,lU r e]at hr;simp at hr
 ·intro r R r' R' hr hr' hne
  exact absurd ((hlv hr).1.trans (hlv hr').1.symm) hne
 ·obtain⟨f1,f2,f3,f4,f5,f6⟩:=H.frame
  refine⟨f1,f2,f3,f4,λb _ _=>by show hp w b=hp cx.w0 b;rw[hw0],λj kg b o n hj hb=>?_⟩
  obtain⟨pi,hj',rfl⟩:=xC hj
  exact f6 j pi b o n hj' hb
 ·intro j kg hj hkp
  obtain⟨pi,hj',rfl⟩:=xC hj
  obtain⟨R,f1,f2⟩:=H.qj j pi hj' hkp
  by_cases e:aa j=aa 0
  ·refine⟨_,by rw[e];exact fG ..,λ_ b hb hnb=>.inr ⟨by show hp w b=hp cx.w0 b;rw[hw0],by simp,λq Q hq _=>by rw[(hlv hq).1,e]⟩⟩
  ·rw[lU _ e]at f1;simp at f1
 ·refine⟨λj kg hj b hb=>?_,λb hb=>⟨?_,λj kg hj hbl=>?_⟩,λb hb=>hpl.2.2 b hb⟩
  ·obtain⟨pi,hj',rfl⟩:=xC hj
   exact hpl.1 j pi hj' b (eH.1 hb).1
  ·exact(hpl.2.1 b hb).1
  ·obtain⟨pi,hj',rfl⟩:=xC hj
   exact(hpl.2.1 b hb).2 j pi hj' (eH.1 hbl).1
 ·intro j v hv
  have hv:cx.refs j v:=hv
  obtain⟨⟨R,f1⟩,f2⟩:=H.rM j v hv
  have ej:aa j=aa 0:=kD λne=>by rw[lU _ ne]at f1;simp at f1
  rw[ej]at f2 ⊢
  exact⟨⟨_,fG ..⟩,qN v f2⟩
theorem apV(H:Rel cx Z J [] a w)(hw0:cx.w0=w){R0:Root}{e1:TypeId}{k1:K}(hk0:R0.k=.sl e1 k1)(hR0:aX Z (aa 0) R0)(lU:∀r,r≠aa 0->Z.roots r=none)(xB:R0.kind=.anon)(hg0:R0.g=0)(hv0:dF Z R0)
  (hown:∀t∈R0.k.tys,ah t R0.own=true) {e2:TypeId} {k2:K} (hown':∀t∈(K.sl e2 k2).tys,ah t R0.own=true) (sP:∀t∈(K.sl e kk).tys,ah t R0.own=true)
  {tb:Nat->List (El kk)} {aT:List nU} {aM:List Nat} {bM:Nat->Value} {h0:bM 0=.slice none 0 0} {hs:∀i,∃a n c,bM i=.slice a n c}
  (hperm:(J.fo (aa 0)).Perm (aM++bz aT)) (hnd:(aT.map (·.1)).Nodup) (hrow:∀q∈aT,@Ow fr (hp w) R0.own (λ_=>False) (.sl e kk) (tb q.1) [q.2.1] q.2.2) (hid:∀q∈aT,bM q.1=q.2.1)
  {Z1:St} {aP:aO} {F1:List Nat} {a1:Act} {w':World} (H1 : @Rel (eD fr bM h0 hs) (mZ cx (bz aT)) Z1 aP F1 a1 w') {Q:Root} (hQ:Z1.roots (aa 0)=some Q) (Cq:dF Z1 Q) (EK:Q.k=.sl e2 k2) (SG:∀t∈(K.sl e2 k2).tys,ah t Q.own=true) (hQn:Q.kind=.anon) (hQg:Q.g=0)
  {wt:List TypeId} (hwt:iM Q.w wt=true/\iM Q.ew wt=true)
  {y:El R0.k} {jS:List nU} (hP:Rw e kk true tb R0.k Q.k y Q.x (jS.map (·.1))) (yF:∀q∈jS,q∈aT) (hall:(jS.map (·.1)).Nodup)
  (qL:∀j p ts v,cx.ptrs j p ts v->j=0->ts=iL p R0.k) :
  Rel cx (vU (uq R0.k y R0.own wt R0.k.tys)) (Ce (J.loc (aa 0)) (aP.hdr (aa 0)) (aP.fo (aa 0)++bz jS)) [] a1 w':=by
 have K0:=H.roots _ R0 hR0
 have hlv1:aX Z1 (aa 0) Q:=⟨hQ,Cq.1⟩
 have K1:=@Rel.roots (eD fr bM h0 hs) _ _ _ _ _ _ H1 _ Q hlv1
 have Qo:=@uR.ow (eD fr bM h0 hs) _ _ _ _ _ _ _ K1
 have Ql:=@uR.len (eD fr bM h0 hs) _ _ _ _ _ _ _ K1
 have Qn:=@uR.nd (eD fr bM h0 hs) _ _ _ _ _ _ _ K1
 have Qm:=@uR.mine (eD fr bM h0 hs) _ _ _ _ _ _ _ K1
 have TF:∀r R,aX Z r R->r=aa 0/\R=R0:=λr R hr=>by
  by_cases e:r=aa 0
  ·subst e;refine⟨rfl,?_⟩;have:=hr.1;rw[hR0.1]at this;exact(jc this).symm
  ·have:=hr.1;rw[lU r e]at this;simp at this
 have Ji:blk J R0 (aa 0)=J.fo (aa 0):=by unfold blk aS;rw[xB];rfl
 have hblk1:blk aP Q (aa 0)=aP.fo (aa 0):=by unfold blk aS;rw[hQn];rfl
 have hsize:w.heap.size<=w'.heap.size:=by have:=(@Rel.frame (eD fr bM h0 hs) _ _ _ _ _ _ H1).2.2.2.1;simpa[mZ,iE,hw0]using this
 have kC:=K0.nd
 rw[Ji]at kC
 have jH:=dH.1 (hperm.nodup kC)
 have hbad:∀b∈bz aT,b∈J.fo (aa 0):=λb hb=>hperm.mem_iff.2 (bH _ hb)
 have Cr:∀b∈bz aT,b∈blk J R0 (aa 0):=λb hb=>by rw[Ji];exact hbad b hb
 have xC:∀{j:Nat} {kg:D8},(mZ cx (bz aT)).par j=some kg->∃pi,cx.par j=some pi/\kg={ pi with bl:=pi.bl.filter λb=>!ah b (bz aT) }:=λh=>sI (cx:=cx) h
 have hno:∀b∈bz aT,¬Ow.mine (mZ cx (bz aT)) w' b:=λb hb hm=>by
  have hlt:=(K0.mine b (Cr b hb)).1
  rcases hm.2 with h|⟨j,kg,h1,h2⟩
  ·have:w.heap.size<=b:=by simpa[mZ,iE,hw0]using h
   omega
  ·obtain⟨pi,_,rfl⟩:=xC h1
   have:=(eH.1 h2).2
   rw[dh.2 hb]at this
   simp at this
 have hsame:∀b∈bz aT,hp w' b=hp w b:=λb hb=>by
  have hlt:=(K0.mine b (Cr b hb)).1
  have:=(@Rel.frame (eD fr bM h0 hs) _ _ _ _ _ _ H1).2.2.2.2.1 b (by simpa[mZ,iE,hw0]using hlt) (λj kg h1 h2=>by
   obtain⟨pi,_,rfl⟩:=xC h1
   have:=(eH.1 h2).2
   rw[dh.2 hb]at this
   simp at this)
  simpa[mZ,iE,hw0]using this
 have hrow':∀q∈aT,@Ow fr (hp w') R0.own (λ_=>False) (.sl e kk) (tb q.1) [q.2.1] q.2.2:=λq hq=>
  eO (λ_ h=>h.elim) (λ_ h=>h) (λb hb=>hsame b (jZ.2 ⟨q,hq,hb⟩)) (hrow q hq)
 have CF:∀b∈bz jS,b∈bz aT:=λb hb=>by
  obtain⟨q,hq,h⟩:=jZ.1 hb
  exact jZ.2 ⟨q,yF q hq,h⟩
 have Ty:(bz jS).Nodup:=Vs jH.2.1 hnd (l:=jS) yF hall
 have Ag:∀b∈aP.fo (aa 0),Ow.mine (mZ cx (bz aT)) w' b:=λb hb=>Qm b (by rw[hblk1];exact hb)
 have Jp:∀b,Ow.mine (mZ cx (bz aT)) w' b->Ow.mine cx w' b:=λb hb=>⟨hb.1,hb.2.imp (λh=>h) (λ⟨j,kg,h1,h2⟩=>by
  obtain⟨pi,h3,rfl⟩:=xC h1
  exact⟨j,pi,h3,(eH.1 h2).1⟩)⟩
 have NU:∀b∈bz aT,Ow.mine cx w' b:=λb hb=>by
  obtain⟨m1,m2⟩:=K0.mine b (Cr b hb)
  exact⟨by omega,m2⟩
 have uA:∀{r R},aX (vU (uq R0.k y R0.own wt R0.k.tys)) r R->r=aa 0/\R=uq R0.k y R0.own wt R0.k.tys:=λh=>Cf h.1
 have EM:blk (Ce (J.loc (aa 0)) (aP.hdr (aa 0)) (aP.fo (aa 0)++bz jS)) (uq R0.k y R0.own wt R0.k.tys) (aa 0)=aP.fo (aa 0)++bz jS:=rfl
 have Jr:=Qn
 rw[hblk1]at Jr
 have hf1:=@Rel.frame (eD fr bM h0 hs) _ _ _ _ _ _ H1
 have N7:R0.k.size=Q.k.size:=hP.size.symm
 have TH:∀j p ts v,cx.ptrs j p ts v->aa j=aa 0:=λj p ts v h=>by
  obtain⟨_,R,f1,_⟩:=H.rJ j p ts v h
  refine kD λe=>?_
  rw[lU _ e]at f1
  simp at f1
 have hdf:=@Rel.defs (eD fr bM h0 hs) _ _ _ _ _ _ H1
 have hsz0:=@Rel.sz (eD fr bM h0 hs) _ _ _ _ _ _ H1
 have hsz1:cx.nt<=a1.tmps.size:=hsz0
 have Tv:=@Rel.qj (eD fr bM h0 hs) _ _ _ _ _ _ H1
 have aov:=@Rel.rM (eD fr bM h0 hs) _ _ _ _ _ _ H1
 refine⟨hdf,hsz1,?_,?_,λs=>trivial,λs=>trivial,?_,?_,?_,λb hb=>by simp at hb,lZ,λr R hr b hb h=>by simp at h,?_,?_,?_,?_,?_⟩
 ·intro j pi b o n hj hb
  obtain⟨R,f1,f2,_⟩:=H.kI j pi b o n hj hb
  obtain⟨_,rfl⟩:=TF _ R f1
  rw[xB]at f2
  simp at f2
 ·intro r R hr hk
  obtain⟨rfl,rfl⟩:=uA hr
  simp[uq]at hk
 ·intro r R hr
  obtain⟨rfl,rfl⟩:=uA hr
  refine⟨λ_=>?_,by show(aP.hdr (aa 0)).length=R0.k.size;rw[Ql,N7],λb o hb=>by simp[aS,uq]at hb,?_,λb hb=>?_⟩
  ·have o1 : @Ow (eD fr bM h0 hs) (hp w') R0.own (λ_=>False) Q.k Q.x (aP.hdr (aa 0)) (aP.fo (aa 0)):=by
    have hk1:∀t∈Q.k.tys,ah t Q.own=true:=λt ht=>SG t (by rw[<-EK];exact ht)
    have hk2:∀t∈Q.k.tys,ah t R0.own=true:=λt ht=>hown' t (by rw[<-EK];exact ht)
    exact @jU (eD fr bM h0 hs) _ _ _ _ _ _ _ _ (kU hk2) (@M6 (eD fr bM h0 hs) _ _ _ _ _ _ _ _ (λt ht=>by rw[hk1 t ht,hk2 t ht]) (Qo Cq))
   have o2:=QT (fr:=fr) (eD fr bM h0 hs) hown hP o1 (λq hq=>⟨hrow' q (yF q hq),hid q (yF q hq)⟩)
   exact jU (kU hown) o2
  ·rw[EM]
   exact dH.2 ⟨Jr,Ty,λb hb c hc Cc=>by subst Cc;exact hno b (CF b hc) (Ag b hb)⟩
  ·rw[EM]at hb
   rcases dD.1 hb with h|h
   ·exact Jp b (Ag b h)
   ·exact NU b (CF b h)
 ·intro r R hr
  obtain⟨rfl,rfl⟩:=Cf hr
  exact⟨λt ht=>by simp[uq]at ht,Ao 0,λn hn=>by simp[uq]at hn⟩
 ·intro r R r' R' hr hr' hne
  exact absurd ((uA hr).1.trans (uA hr').1.symm) hne
 ·obtain⟨f1,f2,f3,f4,f5,f6⟩:=hf1
  refine⟨f1,f2,f3,f4,λb hb hnb=>f5 b hb (λj kg h1 h2=>?_),λj pi b o n hj hb=>?_⟩
  ·obtain⟨pi,h3,rfl⟩:=xC h1
   exact hnb j pi h3 (eH.1 h2).1
  ·exact f6 j { pi with bl:=pi.bl.filter λb=>!ah b (bz aT) } b o n (by simp[mZ,iE,hj]) hb
 ·intro j pi hj hkp
  obtain⟨R,f1,_⟩:=H.qj j pi hj hkp
  have ej:aa j=aa 0:=kD λne=>by rw[lU _ ne]at f1;simp at f1
  refine⟨uq R0.k y R0.own wt R0.k.tys,by rw[ej];exact zZ,λ_ b hb hnb=>?_⟩
  have hone:∀q Q,aX (vU (uq R0.k y R0.own wt R0.k.tys)) q Q->b∈blk (Ce (J.loc (aa 0)) (aP.hdr (aa 0)) (aP.fo (aa 0)++bz jS)) Q q->q=aa j:=λq Q hq _=>by rw[(uA hq).1,ej]
  by_cases hbt:b∈bz aT
  ·exact .inr ⟨by rw[hw0];exact hsame b hbt,by simp,hone⟩
  ·obtain⟨R1,q1,q2⟩:=Tv j { pi with bl:=pi.bl.filter λb=>!ah b (bz aT) } (by simp[mZ,iE,hj]) hkp
   have eR:R1=Q:=by rw[ej,hQ]at q1;exact(jc q1).symm
   subst eR
   rcases q2 Cq.1 b (eH.2 ⟨hb,by rw[gJ.2 hbt];rfl⟩) (λh=>hnb (RV.1 h))with⟨t,t1,t2⟩|⟨t1,t2,_⟩
   ·exact .inl ⟨t,t1,.inl (t2.elim (rT.1 hwt.1 t) (rT.1 hwt.2 t))⟩
   ·exact .inr ⟨t1,by simp,hone⟩
 ·refine⟨λj pi hj b hb=>H.mJ.1 j pi hj b hb,λb hb=>H.mJ.2.1 b hb,λb hb=>H.mJ.2.2 b hb⟩
 ·intro j p ts v hv
  have ej:=TH j p ts v hv
  have ej0:j=0:=by unfold aa at ej;omega
  obtain⟨g1,R,f1,f2⟩:=H.rJ j p ts v hv
  have hts:=qL j p ts v hv ej0
  refine⟨g1,uq R0.k y R0.own wt R0.k.tys,by rw[ej];exact zZ,λhno'=>?_⟩
  refine⟨g1,λR' hR' _ _ _ hsome=>?_⟩
  rw[ej]at hR'
  obtain⟨_,rfl⟩:=Cf hR'
  have hsome:(aB p R0.k y).isSome=true:=hsome
  cases p with
  |nil=>
   have hRR:R=R0:=by rw[ej,hR0.1]at f1;exact(jc f1).symm
   obtain⟨_,cs,b,o,hn,ev⟩:=(f2 (λt ht=>by rw[hts]at ht;simp[iL]at ht)).2 R0 (by rw[ej];exact hR0.1) hv0 (by unfold iL clean;simp[ah]) (λt ht=>by simp[az]at ht) rfl
   rw[ej]at hn
   simp only[aW,au,bZ]at hn
   have h2:=hn.2
   unfold aS at h2
   rw[xB]at h2
   simp at h2
  |cons s p=>
   cases s with
   |aY m=>
    rw[hk0]at hts
    have:aB (.aY m :: p) R0.k y=none:=by
     have hg:∀(k:K) (z:El k),k=.sl e1 k1->aB (.aY m :: p) k z=none:=by
      intro k z hk;subst hk;rfl
     exact hg _ y hk0
    rw[this]at hsome;simp at hsome
   |idx i=>
    exfalso
    refine hno' e1 ?_ ?_
    ·rw[hts,hk0];simp[iL,az]
    ·show e1∈R0.k.tys
     rw[hk0];simp[K.tys]
 ·intro j v hv
  obtain⟨⟨R,f1⟩,f2⟩:=H.rM j v hv
  have ej:aa j=aa 0:=kD λne=>by rw[lU _ ne]at f1;simp at f1
  obtain⟨_,q2⟩:=aov j v hv
  rw[ej]at q2 ⊢
  refine⟨⟨_,zZ⟩,λR' hR' _=>?_⟩
  obtain⟨_,rfl⟩:=uA hR'
  obtain⟨z1,z2⟩:=q2 Q hlv1 hQg
  refine⟨rfl,?_⟩
  show VC R0.k v (aP.hdr (aa 0))
  rw[hk0]
  rw[EK]at z2
  exact Q6 z2
end
theorem apT[fr:Fr]{e e1 e2:TypeId}{kk k1 k2:K}{P:Program}{n:Nat}{f:FuncId}{ow wt eG:List TypeId}{rest:List aD}
  {F:Nat->Cont (kin (.bO (.sl e1 k1) ow wt :: rest))->Option (Cont (eU [.into 0 []]++gI (.bO (.sl e1 k1) ow wt :: rest)))} {F':Nat->Cont (kin (.bO (.sl e2 k2) ow eG :: rest))->Option (Cont (eU [.into 0 []]++gI (.bO (.sl e2 k2) ow eG :: rest)))}
  (hrest:jI rest=true) (hown:∀t∈(K.sl e1 k1).tys,ah t ow=true) (hown':∀t∈(K.sl e2 k2).tys,ah t ow=true) (sP:∀t∈(K.sl e kk).tys,ah t ow=true)
  (hE:∀fr:Fr,@aA fr P n ⟨f,.bO (.sl e2 k2) ow eG :: rest,[.into 0 []],F'⟩) (hwt:iM eG wt=true)
  (hF:∀c out,F n c=some out->∃(x':El (.sl e2 k2)) (ns ms:List Nat) (tb:Nat->List (El kk)) (out':Cont (eU [.into 0 []]++gI (.bO (.sl e2 k2) ow eG :: rest))),Rw e kk false tb (.sl e1 k1) (.sl e2 k2) c.1 x' ns/\ns.Nodup/\0∉ns/\F' n (x',c.2)=some out'/\
   (show Int from out.1)=(show Int from out'.1)/\Rw e kk true tb (.sl e1 k1) (.sl e2 k2) out.2.1 out'.2.1 ms/\ms.Nodup/\∀m∈ms,m∈ns) :
  aA P n ⟨f,.bO (.sl e1 k1) ow wt :: rest,[.into 0 []],F⟩:=by
 intro c out hout cx J args w hnt hw hsz hP H
 obtain⟨x',ns,ms,tb,out',hR,hnd,hn0,hF',hRI,Jd,hmm,hsub⟩:=hF c out hout
 have ha:((K.sl e1 k1).tys.all λt=>ah t ow)=true:=eX.2 hown
 have ha':((K.sl e2 k2).tys.all λt=>ah t ow)=true:=eX.2 hown'
 have CE:∀r,(fu (.bO (.sl e1 k1) ow wt :: rest) c).roots r=bif Nat.beq r (aa 0)then some { bP (.sl e1 k1) c.1 ow [] .anon true with fixed:=true }else none:=λr=>by
  show iJ (iI (.bO (.sl e1 k1) ow wt :: rest) 0 c) r=_
  simp only[iI,FU hrest,iJ,ha,gP]
  rfl
 have hR0:aX (fu (.bO (.sl e1 k1) ow wt :: rest) c) (aa 0) { bP (.sl e1 k1) c.1 ow [] .anon true with fixed:=true }:=⟨by rw[CE];simp,rfl⟩
 have lU:∀r,r≠aa 0->(fu (.bO (.sl e1 k1) ow wt :: rest) c).roots r=none:=λr hr=>by
  rw[CE]
  have:Nat.beq r (aa 0)=false:=by
   cases hb:Nat.beq r (aa 0)with
   |true=>exact absurd (bD hb) hr
   |false=>rfl
  rw[this];rfl
 have hs0:(fu (.bO (.sl e1 k1) ow wt :: rest) c).slots 0=.one (.ref (aa 0) 0):=rfl
 have hsl:∀s,s≠0->yh ((fu (.bO (.sl e1 k1) ow wt :: rest) c).slots s):=λs hs=>by
  show yh (lD (iU (.bO (.sl e1 k1) ow wt :: rest) 0 c) s)
  simp only[iU,lD]
  cases hb:Nat.beq s 0 with
  |true=>exact absurd (bD hb) hs
  |false=>exact OM hrest s
 obtain⟨aT,aM,bM,i0,is,g1,g2,g3,g4,Je⟩:=apX H hw (R0:={ bP (.sl e1 k1) c.1 ow [] .anon true with fixed:=true }) rfl hR0 lU rfl rfl hown (sP e (by simp[K.tys])) hs0 hsl (x':=x') hR hnd hn0 hown' rfl
 have hst:aR (fu (.bO (.sl e1 k1) ow wt :: rest) c) (aa 0) { ({ bP (.sl e1 k1) c.1 ow [] .anon true with fixed:=true }:Root)with k:=.sl e2 k2,x:=x' }=fu (.bO (.sl e2 k2) ow eG :: rest) (x',c.2):=by
  unfold aR fu
  congr 1
  funext r
  show upd (fu (.bO (.sl e1 k1) ow wt :: rest) c).roots (aa 0) _ r=iJ (iI (.bO (.sl e2 k2) ow eG :: rest) 0 (x',c.2)) r
  simp only[iI,FU hrest,iJ,ha',gP]
  unfold upd
  cases hb:Nat.beq r (aa 0)with
  |true=>rfl
  |false=>simp only[jV];rw[CE,hb];rfl
 rw[hst]at Je
 have NQ:∀j,(∃k,wW (.bO (.sl e1 k1) ow wt :: rest) j k)->∃k,wW (.bO (.sl e2 k2) ow eG :: rest) j k:=by
  rintro j ⟨k0,o1,o2,o3,h⟩
  cases j with
  |zero=>exact⟨.sl e2 k2,ow,eG,[],.inr rfl⟩
  |succ j=>exact⟨k0,o1,o2,o3,by simpa using h⟩
 have hP':D9 (mZ cx (bz aT)) (.bO (.sl e2 k2) ow eG :: rest):=by
  refine⟨λj kg hj hkp=>?_,λj p ts v h=>h.elim,λj v h=>NQ j (hP.ref j v h)⟩
  obtain⟨pi,hj',rfl⟩:=sI (cx:=cx) hj
  exact NQ j (hP.par j pi hj' hkp)
 have h:=hE (eD fr bM i0 is) (x',c.2) out' hF' (mZ cx (bz aT)) _ args w hnt hw hsz hP' Je
 have hpost:∀v w',@Post (eD fr bM i0 is) (mZ cx (bz aT)) (.bO (.sl e2 k2) ow eG :: rest) [.into 0 []] out' v w'->@Post fr cx (.bO (.sl e1 k1) ow wt :: rest) [.into 0 []] out v w':=by
  rintro v w' ⟨Z1,aP,F1,a1,vs,ay,H1,rfl,hL,hfn,qK,hOut,_⟩
  obtain⟨Q,q1,q2,⟨ek,ey⟩,q4,q5,_⟩:=hOut
  have SI:=YP ek ey Jd
  obtain⟨jS,t3,t4⟩:=select (aT:=aT) (ns:=ms) (λm hm=>by rw[g1];exact hsub m hm)
  have nM:=q5
  unfold xE at nM
  simp only[bB]at nM
  obtain⟨⟨⟨⟨l1,l2⟩,_⟩,_⟩,l5⟩:=nM
  have hg0:Q.g=0:=bD l5
  have htr:∀{l:List Nat},iM l eG=true->iM l wt=true:=λhl=>rT.2 λt ht=>rT.1 hwt t (rT.1 hl t ht)
  cases vs with
  |nil=>exact hL.elim
  |cons v vs=>
   cases ay with
   |nil=>exact hL.elim
   |cons fo ay=>
    obtain⟨⟨rfl,⟨_,b,m,cp,e3,e4,e5⟩|⟨hno,_⟩⟩,hL2⟩:=hL
    rotate_left
    ·exact absurd rfl hno
    cases vs with
    |cons _ _=>cases ay<;>exact hL2.elim
    |nil=>
     cases ay with
     |cons _ _=>exact hL2.elim
     |nil=>
      obtain⟨hQn,hQV⟩:=e5 Q ⟨q1,q2.1⟩ hg0
      have r1:=apV (fr:=fr) H hw (R0:={ bP (.sl e1 k1) c.1 ow [] .anon true with fixed:=true }) rfl hR0 lU rfl rfl ⟨rfl,rfl⟩ hown hown' sP g2 (by rw[g1];exact hnd) g3 g4 H1 q1 q2 ek (λt ht=>by
        have:=eX.1 q4 t ht
        rw[hown' t ht]at this
        simpa using this) hQn hg0 (wt:=wt) ⟨htr l1,htr l2⟩ (y:=out.2.1) (jS:=jS) (by rw[t3];exact SI) t4 (by rw[t3];exact hmm) (λj p ts v h hj=>by
         obtain⟨k0,⟨o1,o2,o3,h1⟩,h2⟩:=hP.ptr j p ts v h
         subst hj
         rcases h1 with h1|h1
         ·simp at h1
         ·simp only[qA,au,aD.bO.injEq]at h1
          rw[h2,<-h1.1];rfl)
      refine⟨_,_,[],a1,[v],[[]],r1,rfl,⟨⟨rfl,.inl ⟨rfl,b,m,cp,?_,?_,?_⟩⟩,trivial⟩,by simp,by simp,⟨_,zZ,⟨rfl,rfl⟩,⟨rfl,rfl⟩,?_,?_,.inl ha⟩,OL hrest⟩
      ·have hI:(show Int from(Cont.fst (eU [bN.into 0 []]) _ out).1)=(show Int from(Cont.fst (eU [bN.into 0 []]) _ out').1):=hRI
       rw[hI];exact e3
      ·have hI:(show Int from(Cont.fst (eU [bN.into 0 []]) _ out).1)=(show Int from(Cont.fst (eU [bN.into 0 []]) _ out').1):=hRI
       rw[hI];exact e4
      ·intro R' hR' _
       obtain⟨_,rfl⟩:=Cf hR'.1
       refine⟨rfl,?_⟩
       have ek:Q.k=.sl e2 k2:=ek
       rw[ek]at hQV
       exact Q6 hQV
      ·exact eX.2 λt _=>by simp[uq];rfl
      ·unfold xE uq
       simp only[iM,List.all_nil,bB,eX]
       exact⟨⟨⟨⟨λx hx=>dh.2 hx,trivial⟩,λx hx=>dh.2 hx⟩,λx hx=>dh.2 hx⟩,rfl⟩
 rcases h with⟨h1,h2⟩|⟨v,w',h1,h2⟩
 ·refine .inl ⟨h1,h2.mono ?_⟩
  rintro e w' ⟨v,rfl,hv⟩
  exact⟨v,rfl,hpost v w' hv⟩
 ·exact .inr ⟨v,w',h1,hpost v w' h2⟩
end
end Go.Proofs.YtplpeegfeajkkaaGreatDoor.Ow
