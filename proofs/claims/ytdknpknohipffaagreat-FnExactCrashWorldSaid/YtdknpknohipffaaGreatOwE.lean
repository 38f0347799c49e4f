/- A verified reading of translated code: values in place of memory; part E of 6, spaces and remarks taken out. No condition. Own work of this seat. -/
import Derived.Test.YtdknpknohipffaaGreatOwD
import Derived.Test.YtdknpknohipffaaGreatOwC
import Derived.Conc.MuLone
import Derived.ChangeArms
import Derived.ChangeReads
import Derived.ChangeOld
import Derived.ChangeSame
import Derived.DataShut
set_option linter.unusedSectionVars false
set_option linter.unusedVariables false
set_option linter.unusedSimpArgs false
namespace Go.Proofs.YtdknpknohipffaaGreat.Ow
section
open Go
variable [Fr]
section
variable {P:Program} {T:ji} {cx:Cx} {σ:St} {α:dK} {F:List Nat} {a:Act} {w w':World} {ps:List cZ} {c:Cont (kin ps)} {vs:List Value} {is:List cB} {gs:List GA}
theorem jM {l m:List Nat}:nJ l m=true↔∀t∈l,t∈m:=by
 unfold nJ
 rw [apt]
 simp [aL]
theorem VE (h:Heap):∀(q:List Stp) {k:K} {cs:List Value} {wh:Option (Nat×Nat)} {c0:List Value} {w0:Option (Nat×Nat)},ah q k≠[]→bF h q k cs wh=some (c0,w0)→(∀nY,bF h q k cs nY=some (c0,w0))∧∃b o,w0=some (b,o):=by
 intro q
 induction q with
 | nil=>intro k cs wh c0 w0 h1; simp [ah] at h1
 | cons s q ih=>
  intro k cs wh c0 w0 h1 h2
  cases s with
  | gL n=>
   cases k with
   | st c=>
    simp only [bF] at h2 ⊢
    cases ho:bD n c with
    | none=>rw [ho] at h2; simp at h2
    | some p=>
     obtain ⟨off,k'⟩:=p
     rw [ho] at h2
     simp only at h2 ⊢
     have hk:ah.Js n c=some k':=by
      have:∀(n:Nat) {c:K} {off:Nat} {k':K},bD n c=some (off,k')→ah.Js n c=some k':=by
       intro n
       induction n with
       | zero=>intro c off k' h; cases c <;> simp_all [bD,ah.Js]
       | succ n ih=>
        intro c off k' h
        cases c with
        | pair a b=>
         simp only [bD] at h
         cases h5:bD n b with
         | none=>rw [h5] at h; simp at h
         | some q=>
          rw [h5] at h
          simp only [apd,apo] at h
          simp only [ah.Js]
          exact ih (by rw [h5, ←h.2])
        | _=>simp [bD] at h
      exact this n ho
     have hpt:ah (.gL n :: q) (.st c)=ah q k':=by simp [ah,hk]
     rw [hpt] at h1
     obtain ⟨g1,g2⟩:=ih h1 h2
     exact ⟨fun nY=>g1 _,g2⟩
   | _=>simp [bF] at h2
  | idx i=>
   cases k with
   | sl e k=>
    simp only [bF] at h2 ⊢
    split at h2
    ·rename_i ad _ _
     refine ⟨fun nY=>h2, ?_⟩
     have key:∀(q:List Stp) {k:K} {cs:List Value} {p:Nat×Nat} {c0:List Value} {w0:Option (Nat×Nat)},bF h q k cs (some p)=some (c0,w0)→∃b o,w0=some (b,o):=by
      intro q
      induction q with
      | nil=>intro k cs p c0 w0 h; simp only [bF,apd,apo] at h; exact ⟨p.1,p.2,h.2.symm⟩
      | cons s q ih=>
       intro k cs p c0 w0 h
       cases s with
       | gL n=>
        cases k with
        | st c=>
         simp only [bF] at h
         cases ho:bD n c with
         | none=>rw [ho] at h; simp at h
         | some q2=>rw [ho] at h; exact ih h
        | _=>simp [bF] at h
       | idx i=>
        cases k with
        | sl e k=>
         simp only [bF] at h
         split at h
         ·exact ih h
         ·simp at h
        | _=>simp [bF] at h
     exact key q h2
    ·simp at h2
   | _=>simp [bF] at h2
theorem Fu (H:Rel cx σ α F a w) {EJ:St} {AX:dK} {Ff G:List Nat} {r j:Nat} {R Rf R':Root} {i:cB} {u:List Stp×List TypeId×List TypeId} {g:GA} {rest:List Nat} {II:dK} {lw lh:List Nat} (hr:aR σ r R) (hi:is[j]?=some i) (hw:i.wb=some (r,u)) (hlf:aR EJ (au j) Rf)
  (hg:gs[j]?=some g) (hpr:(α.fo r).Perm (g.fo++rest)) (hoth:∀(m:Nat) (gm:GA),m≠j→gs[m]?=some gm→∀b∈gm.fo,b∈F)
  (T:nE cx σ α F w (az σ r R') II G w' (tQ r lw) (tQ r lh)) (hblk:∀b∈Ow.blk II R' r,(∃o,eB α R r=some (b,o))∨b∈AX.fo (au j)∨b∈rest) (hG:∀b∈G,b∈Ff):DV σ α is gs EJ AX Ff (az σ r R') II G:=by
 have hK:=H.roots r R hr
 have Xb:=hK.nd
 rw [bT,nQ] at Xb
 have RA:=apk.1 (hpr.nodup Xb.2)
 have aeB:∀{q:Nat} {Q:Root} {b:Nat},aR σ q Q→b∈Ow.blk α Q q→b∉g.fo→∀(m:Nat) (gm:GA),gs[m]?=some gm→b∉gm.fo:=by
  intro q Q b hq hb hno m gm hm Y6
  by_cases e:m=j
  ·subst e
   rw [hg] at hm
   simp only [apd] at hm
   subst hm
   exact hno Y6
  ·exact H.jB q Q hq b hb (hoth m gm e hm b Y6)
 refine ⟨fun q Q b hq hb=>?_,hG⟩
 by_cases e:q=r
 ·subst e
  obtain ⟨rfl,_⟩:=eX hq
  rcases hblk b hb with ⟨o,h⟩ | h | h
  ·have hbb:b∈Ow.blk α R q:=by rw [bT,eZ]; exact .inl ⟨o,h⟩
   exact .inr (.inl ⟨R,hr,hbb,aeB hr hbb (fun h'=>Xb.1 b o h (hpr.mem_iff.2 (api _ h')))⟩)
  ·exact .inr (.inr ⟨j,i,Rf,u,hi,hw,hlf,apf _ h⟩)
  ·have hbb:b∈Ow.blk α R q:=apf _ (hpr.mem_iff.2 (apf _ h))
   exact .inr (.inl ⟨R,hr,hbb,aeB hr hbb (fun h'=>RA.2.2 b h' b h rfl)⟩)
 ·have hq':=(Ma e).1 hq
  obtain ⟨Q2,g1,g2⟩:=T.old q Q hq'.1
  have hS:Same σ α (az σ r R') II q:=by
   refine apA fun hns=>?_
   rw [bZ σ R' e,hq'.1] at g1
   simp only [apd] at g1
   subst g1
   rcases g2 with ⟨h1,_⟩ | ⟨_,h2⟩
   ·rw [hq'.2] at h1; simp at h1
   ·rcases h2.2.2.2.2.2.2 with h3 | ⟨_,_,h3⟩
    ·rw [qI _ e,qI _ e] at h3; simp at h3
    ·exact hns h3
  rw [hS.blk] at hb
  refine .inr (.inl ⟨Q,hq',hb,aeB hq' hb (fun h'=>?_)⟩)
  exact H.MX r R q Q hr hq' (Ne.symm e) b (apf _ (hpr.mem_iff.2 (api _ h'))) hb
theorem ab2:∀(p:List Stp) {k:K} {x:El k} {t z:Dat},nX p k x→eF p k x t=some z→aT p z.1 z.2=some t∧nX p z.1 z.2∧ah p z.1=ah p k:=by
 intro p
 induction p with
 | nil=>
  intro k x t z _ hz
  simp only [eF,apd] at hz
  subst hz
  exact ⟨rfl,trivial,rfl⟩
 | cons s p ih=>
  intro k x t z hp hz
  cases s with
  | gL n=>
   cases k with
   | st c=>
    simp only [eF] at hz
    simp only [nX] at hp
    cases hg:aQ n c x with
    | none=>rw [hg] at hz; simp at hz
    | some s=>
     rw [hg] at hz hp
     simp only at hz hp
     cases hs:eF p s.1 s.2 t with
     | none=>rw [hs] at hz; simp at hz
     | some u=>
      rw [hs] at hz
      simp only at hz
      cases hcp:cz n c x u with
      | none=>rw [hcp] at hz; simp at hz
      | some y=>
       rw [hcp] at hz
       simp only [apd] at hz
       subst hz
       obtain ⟨h1,h2,h3⟩:=ih hp hs
       have hg2:=zl n hcp
       refine ⟨?_, ?_, ?_⟩
       ·show aT (.gL n :: p) (.st y.1) y.2=some t
        simp only [aT,hg2]
        exact h1
       ·show nX (.gL n :: p) (.st y.1) y.2
        simp only [nX,hg2]
        exact h2
       ·show ah (.gL n :: p) (.st y.1)=_
        simp only [ah,bU n hg2,bU n hg]
        exact h3
   | _=>exact hp.elim
  | idx i=>
   cases k with
   | sl e k=>
    simp only [eF] at hz
    obtain ⟨hp0,hp1,hp2⟩:=hp
    cases hs:eF p k ((show List (El k) from x).getD i.toNat k.zero) t with
    | none=>rw [hs] at hz; simp at hz
    | some u=>
     rw [hs] at hz
     simp only at hz
     cases hc:bP u.1 k u.2 with
     | none=>rw [hc] at hz; simp at hz
     | some y=>
      rw [hc] at hz
      simp only [apd] at hz
      subst hz
      obtain ⟨ek,ey⟩:=bL hc
      obtain ⟨uk,ux⟩:=u
      simp only at ek
      subst ek
      simp only at ey
      subst ey
      obtain ⟨h1,h2,h3⟩:=ih hp2 hs
      have hlt:i.toNat < @List.length (El uk) x:=by
       have:i<((@List.length (El uk) x:Nat):Int):=hp1
       omega
      have hgd:(show List (El uk) from (show List (El uk) from x).set i.toNat y).getD i.toNat uk.zero=y:=by
       have hl2:i.toNat<(@List.set (El uk) x i.toNat y).length:=by rw [List.length_set]; exact hlt
       exact (bY hl2).trans (List.getElem_set_self hl2)
      refine ⟨?_,⟨hp0, ?_, ?_⟩, ?_⟩
      ·simp only [aT]
       rw [hgd]
       exact h1
      ·have:i<((@List.length (El uk) x:Nat):Int):=hp1
       simpa using this
      ·rw [hgd]
       exact h2
      ·rfl
   | _=>exact hp.elim
theorem Tz (H:Rel cx σ α F a w) (hJ:GJs cx σ α F a w ps c vs is gs) (ho:FU is=true) {EJ:St} {AX:dK} {Ff:List Nat} {af:Act} (Hf:Rel (dI cx σ α F w ps c is gs) EJ AX Ff af w')
  {c':Cont (jL ps)} {ws:List Wr} (hB:wm σ ps is c' ws) (hO:Fh EJ ps 0 c') {G:List Nat} (hG:∀b∈G,b∈Ff) (hGn:G.Nodup) :
  ∃II,Rel cx (aC ws σ) II G a w'∧DV σ α is gs EJ AX Ff (aC ws σ) II G∧(aC ws σ).slots=σ.slots∧(∀q,σ.roots q=none→(aC ws σ).roots q=none)∧(∀t,Gl σ t→Gl (aC ws σ) t)∧(ws=[]∨∃r R,ws=[.r r (some R)])∧
   ∀(j:Nat) (i:cB) (r:Nat) (q:List Stp) (wt ht:List TypeId),qK∉ht→is[j]?=some i→i.wb=some (r,q,wt,ht)→∃Rf R' R,EJ.roots (au j)=some Rf∧bq EJ Rf∧Rf.g=0∧ws=[.r r (some R')]∧σ.roots r=some R∧nX q R'.k R'.x∧(∀t∈ah q R'.k,ay t R'.own=true)∧
    (bq (aC ws σ) R'→∃wh,bF (hp w') q R'.k (II.hdr r) (eB II R' r)=some (AX.hdr (au j),wh)):=by
 obtain ⟨lv,li,lg,hat⟩:=hJ.at (i0:=0)
 simp only [Nat.zero_add] at hat
 obtain ⟨f1,f2,f3,f4,f5,f6⟩:=Hf.frame
 have hgj:∀{j:Nat} {g:GA},gs[j]?=some g→∃p cj v i,ps[j]?=some p∧vs[j]?=some v∧is[j]?=some i∧XX cx σ α F a w p cj v i g:=by
  intro j g hg
  have hj:j<ps.length:=by have:=(List.getElem?_eq_some_iff.1 hg).1; omega
  obtain ⟨cj,v,i,g',e1,e2,e3,e4,_⟩:=hat j ps[j] (aps hj)
  rw [hg] at e3
  simp only [apd] at e3
  subst e3
  exact ⟨ps[j],cj,v,i,aps hj,e1,e2,e4⟩
 have LD:∀b,b<w.heap.size→hp w' b≠hp w b→∃(j:Nat) (g:GA),gs[j]?=some g∧b∈gU g∧(g.ow=true∨g.wb=true):=by
  intro b hb hne
  refine apA fun hno=>hne (f5 b hb fun j pi hj hbl=>?_)
  obtain ⟨g,p,cj,v,i,e1,e2,e3,e4,e5,rfl⟩:=tH H hJ hj
  exact hno ⟨j,g,e1,hbl,e5⟩
 have jJ:∀b∈Ff,b<w'.heap.size∧(w.heap.size≤b∨∃(j:Nat) (g:GA),gs[j]?=some g∧b∈gU g∧(g.ow=true∨g.wb=true)):=by
  intro b hb
  obtain ⟨h1,h2⟩:=Hf.fl b hb
  refine ⟨h1,h2.imp id ?_⟩
  rintro ⟨j,pi,h3,h4⟩
  obtain ⟨g,p,cj,v,i,e1,e2,e3,e4,e5,rfl⟩:=tH H hJ h3
  exact ⟨j,g,e1,h4,e5⟩
 have hal:∀(m:Nat) (p:cZ) (i:cB),ps[m]?=some p→is[m]?=some i→(∀k ow wt ht,p≠.rw k ow wt ht)→(∀k ow wt,p≠.jl k ow wt)→i.wb=none:=by
  intro m p i hp hi h1 h2
  obtain ⟨cj,v,i',g,e1,e2,e3,e4,_⟩:=hat m p hp
  rw [hi] at e2
  simp only [apd] at e2
  subst e2
  obtain ⟨_,e4⟩:=e4
  cases p with
  | val k iB=>exact e4.2.2.1
  | ro k=>exact e4.2.2.1
  | own k ow=>exact e4.2.2.1
  | fn f ks=>exact e4.2.2.1
  | rw k ow wt ht=>exact absurd rfl (h1 k ow wt ht)
  | jl k ow wt=>exact absurd rfl (h2 k ow wt)
  | into j q=>exact e4.2.2.1
 have Xg:∀{m:Nat} {g:GA} {i:cB},gs[m]?=some g→is[m]?=some i→i.wb=none→g.wb=false:=by
  intro m g i hg hi hn
  obtain ⟨p,cj,v,i',e1,e2,e3,e4⟩:=hgj hg
  rw [hi] at e3
  simp only [apd] at e3
  subst e3
  cases hw:g.wb with
  | false=>rfl
  | true=>exact absurd hn ((oK H e4).2.2.2.1 hw)
 have LK:∀{m:Nat} {g:GA} {b:Nat},gs[m]?=some g→g.wb=false→b∈gU g→b∈F:=by
  intro m g b hg hw hb
  obtain ⟨p,cj,v,i,e1,e2,e3,e4⟩:=hgj hg
  rcases (oK H e4).1 b hb with ⟨_,h⟩ | ⟨h,_⟩
  ·exact h
  ·rw [hw] at h; simp at h
 rcases Ty (j0:=0) ho hal hB hO with ⟨rfl,hnone⟩ | ⟨j,i,k,x,ow,wt,ht,r,p,R,z,sK,ht',e1,e2,e3,e4,e5,e6,e7⟩
 ·
  have hnw:∀{m:Nat} {g:GA},gs[m]?=some g→g.wb=false:=by
   intro m g hg
   obtain ⟨p,cj,v,i,g1,g2,g3,g4⟩:=hgj hg
   exact Xg hg g3 (hnone i (List.mem_of_getElem? g3))
  have T:=FQ (w':=w') (F':=G) H ⟨f1,f2,f3⟩ f4 (fun b hb hne=>by obtain ⟨j,g,h1,h2,_⟩:=LD b hb hne; exact LK h1 (hnw h1) h2)
   (fun b hb=>by
    obtain ⟨h1,h2⟩:=jJ b (hG b hb)
    rcases h2 with h2 | ⟨j,g,h3,h4,_⟩
    ·exact .inr ⟨h2,h1⟩
    ·exact .inl (LK h3 (hnw h3) h4)) hGn
  refine ⟨α,H.mem T,⟨fun q Q b hq hb=>.inr (.inl ⟨Q,hq,hb,fun m g hg hbg=>?_⟩),hG⟩,rfl,fun q h=>h,fun t h=>h, .inl rfl,fun j i r q wt ht _ hi hw=>by rw [hnone i (List.mem_of_getElem? hi)] at hw; simp at hw⟩
  exact H.jB q Q hq b hb (LK hg (hnw hg) (apf _ hbg))
 ·
  have hj:j<ps.length:=by rcases e7 with ⟨h,_⟩ | ⟨h,_⟩ <;> exact (List.getElem?_eq_some_iff.1 h).1
  obtain ⟨g,hg⟩:∃g,gs[j]?=some g:=⟨gs[j]'(by omega),aps _⟩
  obtain ⟨p0,cj,v,i',g1,g2,g3,g4⟩:=hgj hg
  rw [e1] at g3
  simp only [apd] at g3
  subst g3
  obtain ⟨cj2,v2,i2,gg2,a1,a2,a3,a4,a5,a6⟩:=hat j p0 g1
  obtain ⟨x0,wh,rest,hP,Dr,hOw,hfo,hgn,hpr,Az,hwf,hgo,hbase,hps,hwt,hht,hR0⟩:∃(x0:El k) (wh:Option (Nat×Nat)) (rest:List Nat),PlG cx σ α w k x0 ow i sK ht' r R p∧bF (hp w) p R.k (α.hdr r) (eB α R r)=some (g.cs,wh)∧Ow (hp w) R.own (iT cx σ α F w R.tags) k x0 g.cs g.fo∧(∀b∈g.fo,b∈α.fo r)∧g.fo.Nodup∧
    (α.fo r).Perm (g.fo++rest)∧(∀b o,wh=some (b,o)→b∈rest∨∃o0,eB α R r=some (b,o0)∧o0≤o∧o+k.size≤o0+R.k.size)∧(∀b o,wh=some (b,o)→b∉g.fo)∧
    (∀{t z:Dat} {tags':List Tag} {lw lh:List TypeId} {kp:Bool} {ft F':List Nat} {cs':List Value} {w':World},tu cx σ α F w r R p ⟨k,x0⟩ R.own g.cs wh g.fo rest t z tags' lw lh kp ft F' cs' w'→
     ∃α',Rel cx (az σ r (bH R z R.own tags' lw lh kp)) α' F' a w'∧nE cx σ α F w (az σ r (bH R z R.own tags' lw lh kp)) α' F' w' (tQ r lw) (tQ r lh)∧(∀b∈Ow.blk α' (bH R z R.own tags' lw lh kp) r,(∃o,eB α R r=some (b,o))∨b∈ft∨b∈rest)∧
      (qK∉lh→bq (az σ r (bH R z R.own tags' lw lh kp)) (bH R z R.own tags' lw lh kp)→bF (hp w') p z.1 (α'.hdr r) (eB α' (bH R z R.own tags' lw lh kp) r)=some (cs',wh))∧∀b∈ft,b∈α'.fo r)∧
    ((∃b o,wh=some (b,o)∧g.base=some (b,o))∨(g.base=none∧VC k g.v g.cs))∧(xu p0=k.size∨g.base=none)∧(sK=wt)∧(ht'=ht)∧
    (∃R0,gH (gD ps 0 c) (au j)=some R0∧R0.k=k∧HEq R0.x x0∧R0.own=ow):=by
   have h4:XX cx σ α F a w p0 cj2 v2 i2 gg2:=a4
   rw [hg] at a3
   simp only [apd] at a3
   subst a3
   rw [e1] at a2
   simp only [apd] at a2
   subst a2
   rcases e7 with ⟨h,_⟩ | ⟨h,al9,_⟩
   ·rw [g1] at h
    simp only [apd] at h
    subst h
    obtain ⟨hv0,h1,h2,r1,R1,q1,b,o,h3,h4',h5,h6,h7,h8,h9,h10,h11,rest,h12,h13,h14,h15⟩:=h4
    have hwb:=h3.wb
    rw [e2] at hwb
    simp only [apd,apo] at hwb
    obtain ⟨rfl,rfl,rfl,rfl⟩:=hwb
    have hRR:R1=R:=by have:=h3.lv.1; rw [e3] at this; simpa using this.symm
    subst hRR
    refine ⟨cj2.1,some (b,o),rest,h3,h5,h8,h9,h10,h12,h13,h14,h15, .inl ⟨b,o,rfl,h7⟩, .inl rfl,rfl,rfl, ?_⟩
    rw [a6]
    exact ⟨_,rfl,rfl,HEq.rfl,rfl⟩
   ·rw [g1] at h
    simp only [apd] at h
    subst h
    obtain ⟨hv0,h1,h2,r1,R1,q1,wh,h3,h4',h5,h6,h7,h8,h9,h10,rest,h12,h13,h14,h15⟩:=h4
    have hwb:=h3.wb
    rw [e2] at hwb
    simp only [apd,apo] at hwb
    obtain ⟨rfl,rfl,rfl,rfl⟩:=hwb
    have hRR:R1=R:=by have:=h3.lv.1; rw [e3] at this; simpa using this.symm
    subst hRR
    refine ⟨cj2.1,wh,rest,h3,h5,h8,h9,h10,h12,h13,h14,h15, .inr ⟨h7,hv0▸h6⟩, .inr h7,rfl,al9.symm, ?_⟩
    rw [a6]
    exact ⟨_,rfl,rfl,HEq.rfl,rfl⟩
  subst hwt
  subst hht
  rw [Nat.zero_add] at e5
  obtain ⟨lw,ami,amj,amk,hws⟩:∃lw:List TypeId,(∀e∈sK,e∈lw)∧lw≠[]∧(g.base≠none→eU R p∈lw)∧ws=[.r r (some (bH R z R.own R.tags lw ht' R.keep))]:=by
   rcases e7 with ⟨h,hw⟩ | ⟨h,hh,hw⟩
   ·exact ⟨eU R p :: sK,fun e he=>by simp [he],by simp,fun _=>by simp,hw⟩
   ·refine ⟨SENT :: (k.tys++sK),fun e he=>by simp [he],by simp,fun hb=>?_,by rw [hw,hh]; rfl⟩
    rw [g1] at h
    simp only [apd] at h
    subst h
    exact absurd (g4.2.2.2 |> fun ⟨_,_,_,_,_,_,_,_,hb,_⟩=>hb) hb
  subst hws
  obtain ⟨Rf,hRf,hvf,⟨ek,ex⟩,Zf,yJ,su⟩:=e5
  have hlf:aR EJ (au j) Rf:=⟨hRf,hvf.1⟩
  subst ek
  simp only at ex
  subst ex
  have Kf:=Hf.roots (au j) Rf hlf
  have hgw:g.wb=true:=(oK H g4).2.2.2.2 (by rw [e2]; simp)
  have Vs:(dI cx σ α F w ps c is gs).par j=some ⟨g.base.map fun q=>(q.1,q.2,xu p0),gU g,g.wb⟩:=by
   simp only [dI]
   rw [hg,g1]
   simp [hgw]
  unfold DJ at yJ
  simp only [apj,jM] at yJ
  obtain ⟨⟨⟨⟨l1,l2⟩,l3⟩,l4⟩,l5⟩:=yJ
  have hg0:Rf.g=0:=aph l5
  have hkind:eB AX Rf (au j)=g.base∧(g.base=none→AX.hdr (au j)=g.cs):=by
   rcases hbase with ⟨b,o,_,hb⟩ | ⟨hb,hV⟩
   ·obtain ⟨Q,hQ,hk,hl,_⟩:=Hf.mQ j _ b o (xu p0) Vs (by simp [hb])
    have hQR:Q=Rf:=by have:=hQ.1; rw [hRf] at this; simpa using this.symm
    subst hQR
    refine ⟨?_,fun h=>by rw [hb] at h; simp at h⟩
    unfold eB
    rw [hk,hl,hb]
   ·have hrf:=(Hf.zy j g.v ⟨g,hg,rfl,hb,hgw⟩).2 Rf hlf hg0
    refine ⟨by unfold eB; rw [hrf.1,hb],fun _=>?_⟩
    have h1:=hrf.2.cells
    have h2:=hV.cells
    rw [←h1,h2]
  obtain ⟨aid,ahE⟩:=hkind
  have acJ:Ow.blk AX Rf (au j)=(match g.base with | some q=>[q.1] | none=>[])++AX.fo (au j):=by
   unfold Ow.blk
   rw [aid]
   cases g.base <;> rfl
  have Zl:(AX.fo (au j)).Nodup:=(apk.1 (acJ▸Kf.nd)).2.1
  have ahQ:(AX.hdr (au j)).length=Rf.k.size:=Kf.len
  have hK:=H.roots r R hP.lv
  have Xb:=hK.nd
  rw [bT,nQ] at Xb
  have aoC:∀b,b∈α.fo r↔b∈g.fo∨b∈rest:=fun b=>by rw [hpr.mem_iff,apm]
  have RA:=apk.1 (hpr.nodup Xb.2)
  have hcells:∀b o,wh=some (b,o)→Cells (hp w') b o (AX.hdr (au j))∧gT (hp w) (hp w') b o Rf.k.size:=by
   intro b o hw
   obtain ⟨m1,_,m2,⟨arr,e,lo,hi,m3,m4,m5,m6⟩,_⟩:=qB H hP.lv hP.vl hP.get hP.pin hP.own (by rw [Dr,hw])
   rcases hbase with ⟨b',o',hw',hb⟩ | ⟨hb,_⟩
   ·rw [hw] at hw'
    simp only [apd,apo] at hw'
    obtain ⟨rfl,rfl⟩:=hw'
    have hm:=Kf.mem b o (by rw [aid,hb])
    have hsz:xu p0=Rf.k.size:=by
     rcases hps with h | h
     ·exact h
     ·rw [hb] at h; simp at h
    have:=f6 j _ b o (xu p0) Vs (by simp [hb])
    rw [hsz] at this
    exact ⟨hm.1,this⟩
   ·have hlt:=(hK.mine b m2).1
    have hsame:hp w' b=hp w b:=by
     refine apA fun hne=>?_
     obtain ⟨m,gm,h1,h2,h3⟩:=LD b hlt hne
     by_cases e:m=j
     ·subst e
      rw [hg] at h1
      simp only [apd] at h1
      subst h1
      unfold gU at h2
      rw [hb] at h2
      exact hwf b o hw (by simpa using h2)
     ·have hgm:gm.wb=false:=by
       obtain ⟨pm,cm,vm,im,k1,k2,k3,k4⟩:=hgj h1
       exact Xg h1 k3 (e6 m im e k3)
      exact H.jB r R hP.lv b m2 (LK h1 hgm h2)
    rw [ahE hb]
    exact ⟨m1.congr hsame,gT.of_same _ _ m3 hsame⟩
  have hwho:∀b,(w.heap.size≤b∨∃(j:Nat) (g:GA),gs[j]?=some g∧b∈gU g∧(g.ow=true∨g.wb=true))→(∀o,g.base≠some (b,o))→b<w'.heap.size→b∈g.fo∨b∈F∨(w.heap.size≤b∧b<w'.heap.size):=by
   intro b hb hnb hlt
   rcases hb with hb | ⟨m,gm,h1,h2,h3⟩
   ·exact .inr (.inr ⟨hb,hlt⟩)
   ·by_cases e:m=j
    ·subst e
     rw [hg] at h1
     simp only [apd] at h1
     subst h1
     unfold gU at h2
     cases hbb:g.base with
     | none=>rw [hbb] at h2; exact .inl (by simpa using h2)
     | some q=>
      rw [hbb] at h2
      simp only [List.cons_append,List.nil_append,apq] at h2
      rcases h2 with h2 | h2
      ·exact absurd (by rw [hbb,h2]) (hnb q.2)
      ·exact .inl h2
    ·have hgm:gm.wb=false:=by
      obtain ⟨pm,cm,vm,im,k1,k2,k3,k4⟩:=hgj h1
      exact Xg h1 k3 (e6 m im e k3)
     exact .inr (.inl (LK h1 hgm h2))
  have LH:∀b∈g.fo,b∈gU g:=fun b hb=>apf _ hb
  have aey:∀b∈g.fo,¬mG (dI cx σ α F w ps c is gs) b:=by
   rintro b hb ⟨m,pi,o,n,h1,h2⟩
   obtain ⟨gm,pm,cm,vm,im,k1,k2,k3,k4,k5,rfl⟩:=tH H hJ h1
   simp only at h2
   cases Y6:gm.base with
   | none=>rw [Y6] at h2; simp at h2
   | some q=>
    rw [Y6] at h2
    simp only [Option.map_some,apd,apo] at h2
    have ahN:gm.wb=true:=by
     obtain ⟨_,_,_,_,_,_,_,hw,_⟩:=(oK H k4).2.1 q.1 q.2 (by rw [Y6])
     exact (oK H k4).2.2.2.2 (by rw [hw]; simp)
    by_cases e:m=j
    ·subst e
     rw [hg] at k1
     simp only [apd] at k1
     subst k1
     rcases hbase with ⟨b',o',hw',hb'⟩ | ⟨hb',_⟩
     ·rw [Y6] at hb'
      simp only [apd] at hb'
      subst hb'
      exact hwf b' o' hw' (by have:=h2.1; simp only at this; rw [this]; exact hb)
     ·rw [Y6] at hb'; simp at hb'
    ·have:=Xg k1 k3 (e6 m im e k3)
     rw [this] at ahN
     simp at ahN
  have hkb:∀b∈g.fo,(∃e∈lw,q8 (hp w) b=some e)∨(hp w' b=hp w b∧b∉Ff∧∀q Q,aR EJ q Q→b∈Ow.blk AX Q q→q=au j):=by
   intro b hb
   obtain ⟨R2,h1,h2⟩:=Hf.wP j _ Vs (by simp [hgw])
   rw [hRf] at h1
   simp only [apd] at h1
   subst h1
   rcases h2 hvf.1 b (LH b hb) (aey b hb) with ⟨e,h3,h4⟩ | h
   ·refine .inl ⟨e,ami e ?_,h3⟩
    rcases h4 with h4 | h4
    ·exact l1 e h4
    ·exact l2 e h4
   ·exact .inr h
  have abF:∀b∈AX.fo (au j),∀o,g.base≠some (b,o):=by
   intro b hb o hbb
   have:=acJ▸Kf.nd
   rw [hbb] at this
   simp only [List.cons_append,List.nil_append] at this
   exact (apL.1 this).1 hb
  have abB:∀b∈Ff,∀o,g.base≠some (b,o):=fun b hb o hbb=>sU Hf hb ⟨j,_,o,xu p0,Vs,by simp [hbb]⟩
  have hoth:∀(m:Nat) (gm:GA),m≠j→gs[m]?=some gm→∀b∈gm.fo,b∈F:=by
   intro m gm e hm b hb
   obtain ⟨pm,cm,vm,im,k1,k2,k3,k4⟩:=hgj hm
   exact LK hm (Xg hm k3 (e6 m im e k3)) (apf _ hb)
  have hPT:tu cx σ α F w r R p ⟨Rf.k,x0⟩ R.own g.cs wh g.fo rest ⟨Rf.k,Rf.x⟩ z R.tags lw ht' R.keep (AX.fo (au j)) G (AX.hdr (au j)) w':=by
   refine ⟨e4,rfl,fun _ h=>h,⟨f1,f2,f3⟩,f4, ?_,hcells, ?_,ahQ, .inl amj,⟨fun _ h=>h,(H.dD r R e3).1,(H.dD r R e3).2.2⟩, ?_,Zl, ?_,hGn, ?_, .inl rfl, .inl rfl, ?_, ?_⟩
   ·intro b hb hne
    obtain ⟨m,gm,h1,h2,h3⟩:=LD b hb hne
    by_cases e:m=j
    ·subst e
     rw [hg] at h1
     simp only [apd] at h1
     subst h1
     unfold gU at h2
     rcases apm.1 h2 with h2 | h2
     ·cases hbb:g.base with
      | none=>rw [hbb] at h2; simp at h2
      | some q=>
       rw [hbb] at h2
       simp only [apx] at h2
       rcases hbase with ⟨b',o',hw',hb'⟩ | ⟨hb',_⟩
       ·rw [hbb] at hb'
        simp only [apd] at hb'
        subst hb'
        simp only at h2
        exact .inr (.inr ⟨o',by rw [h2]; exact hw',amk (by rw [hbb]; simp)⟩)
       ·rw [hbb] at hb'; simp at hb'
     ·rcases hkb b h2 with h | h
      ·exact .inr (.inl ⟨h2,h⟩)
      ·exact absurd h.1 hne
    ·have hgm:gm.wb=false:=by
      obtain ⟨pm,cm,vm,im,k1,k2,k3,k4⟩:=hgj h1
      exact Xg h1 k3 (e6 m im e k3)
     exact .inl (LK h1 hgm h2)
   ·intro hw
    rcases hbase with ⟨b',o',hw',_⟩ | ⟨hb',_⟩
    ·rw [hw] at hw'; simp at hw'
    ·exact ahE hb'
   ·intro b hb
    have hbl:b∈Ow.blk AX Rf (au j):=apf _ hb
    obtain ⟨m1,m2⟩:=Kf.mine b hbl
    refine hwho b (m2.imp id ?_) (abF b hb) m1
    rintro ⟨m,pi,h3,h4⟩
    obtain ⟨gm,pm,cm,vm,im,k1,k2,k3,k4,k5,rfl⟩:=tH H hJ h3
    exact ⟨m,gm,k1,h4,k5⟩
   ·intro b hb
    obtain ⟨m1,m2⟩:=jJ b (hG b hb)
    rcases hwho b m2 (abB b (hG b hb)) m1 with h | h | h
    ·rcases hkb b h with h' | h'
     ·exact .inr (.inr ⟨h,h'⟩)
     ·exact absurd (hG b hb) h'.2.1
    ·exact .inl h
    ·exact .inr (.inl h)
   ·intro b hb hbG
    exact Hf.jB (au j) Rf hlf b (apf _ hb) (hG b hbG)
   ·intro Ze q c0 w0 fU Zw hnq _
    by_cases hpt:ah q Rf.k=[]
    ·exact vQ (own:=R.own) q fU (fun t ht=>by rw [hpt] at ht; simp at ht) hnq
    ·obtain ⟨hany,b,o,hw0⟩:=VE _ q hpt hnq
     subst hw0
     have hq:q≠[]:=fun e=>hpt (by rw [e]; simp [ah])
     have ams:eD q Rf.k=qK :: ah q Rf.k:=by
      cases q with
      | nil=>exact absurd rfl hq
      | cons s q=>rfl
     have hto:∀t∈ah q Rf.k,ay t ow=true:=fun t ht=>by
      have h1:=apt.1 hP.just t (pG q t ht)
      have h2:=(Zw t ht).1
      have h1':ay t R.own=ay t ow:=by simpa using h1
      rw [←h1',h2]
     obtain ⟨R0,r1,r2,r3,r4⟩:=hR0
     have Ia:(dI cx σ α F w ps c is gs).ptrs j q (eD q Rf.k) (.pointer (some ⟨b,o,none⟩)):=by
      refine ⟨g,R0,c0,b,o,hg,hgw,r1,by rw [r2],fun t ht=>by rw [r4]; exact hto t (r2▸ht), ?_, ?_,rfl⟩
      ·obtain ⟨R0k,R0x,_,_,_,_,_,_,_,_,_,_⟩:=R0
       simp only at r2 r3
       subst r2
       rw [eq_of_heq r3]
       exact fU
      ·rw [r2]; exact hany _
     obtain ⟨_,R2,h1,h2⟩:=Hf.zw j q _ _ Ia
     rw [hRf] at h1
     simp only [apd] at h1
     subst h1
     have hno:∀t∈ht',t∉eD q Rf.k:=by
      intro t ht hm
      rw [ams] at hm
      rcases apq.1 hm with h | h
      ·exact Ze (h▸ht)
      ·exact (Zw t h).2 ht
     obtain ⟨q1,cs,b',o',q2,q3⟩:=(h2 (fun t ht hm=>hno t (l4 t hm) ht)).2 Rf hRf hvf (by
       unfold clean
       rw [apt]
       intro t ht
       have:t∈Rf.h:=List.mem_of_mem_take ht
       simp only [Bool.not_eq_true',aV]
       exact hno t (l3 t this))
      (fun t ht=>by
       have h1:=apt.1 Zf t (pG q t ht)
       have h1':ay t Rf.own=ay t ow:=by simpa using h1
       rw [h1']
       exact hto t ht)
      (by rw [qU q (y:=x0)]; exact U9 q fU)
     simp only [Value.pointer.injEq,apd,Addr.mk.injEq,and_true] at q3
     obtain ⟨rfl,rfl⟩:=q3
     exact ⟨q1,cs,(VE _ q hpt q2).1 _⟩
   ·intro α' Tn hblk _
    have hOf:=Kf.ow hvf
    have hsame:∀t∈Rf.k.tys,ay t R.own=ay t Rf.own:=fun t ht=>by
     have h1:=apt.1 hP.just t ht
     have h2:=apt.1 Zf t ht
     have h1':ay t R.own=ay t ow:=by simpa using h1
     have h2':ay t Rf.own=ay t ow:=by simpa using h2
     rw [h1',h2']
    refine uE hsame ?_
    rcases su with hall | su
    ·refine gP (dm (fun t ht=>?_)) hOf
     have h2:=apt.1 Zf t ht
     have h2':ay t Rf.own=ay t ow:=by simpa using h2
     rw [h2']
     exact kI hall t ht
    ·refine bC (fun _ _=>rfl) (fun b hb=>?_) (fun _ _=>rfl) hOf
     refine P8 H hJ Hf (Fu H hP.lv e1 e2 hlf hg hpr hoth Tn hblk hG) (fun j' n hn i' hi' t ht=>?_) (fun m n hn=>?_) hb
     ·have h1:=apt.1 su _ hn
      simp only [iO,cond_true] at h1
      have h2:qp j' / 4=j':=by unfold qp; omega
      rw [h2,aL,apx] at h1
      subst h1
      rw [e1] at hi'
      simp only [apd] at hi'
      subst hi'
      rw [hP.ids] at ht
      exact ⟨t.2,ht⟩
     ·have h1:=apt.1 su _ hn
      have h2:Nat.beq (au m % 4) 0=true:=by unfold au; simp
      simp only [pg,cond_false,h2,cond_true] at h1
      simp [ay] at h1
  obtain ⟨II,hR2,hT2,hb2,aeE,_⟩:=hgo hPT
  refine ⟨II,hR2,Fu H hP.lv e1 e2 hlf hg hpr hoth hT2 hb2 hG,rfl,fun q hq=>?_,fun t ht=>hT2.tag ht, .inr ⟨_,_,rfl⟩,fun j' i' r' q' wt0 ht0 al7 hi' hw'=>?_⟩
  rotate_left
  ·have ej:j'=j:=by
    refine apA fun hne=>?_
    rw [e6 j' i' hne hi'] at hw'
    simp at hw'
   subst ej
   rw [e1] at hi'
   simp only [apd] at hi'
   subst hi'
   rw [e2] at hw'
   simp only [apd,apo] at hw'
   obtain ⟨rfl,rfl,rfl,rfl⟩:=hw'
   obtain ⟨s1,s2,s3⟩:=ab2 p hP.pin e4
   exact ⟨Rf,_,R,hRf,hvf,hg0,rfl,e3,s2,fun t ht=>hP.own t (by rw [←s3]; exact ht),fun hv'=>⟨wh,aeE al7 hv'⟩⟩
  have hne:q≠r:=fun e=>by rw [e,e3] at hq; simp at hq
  show (az σ r _).roots q=none
  rw [bZ σ _ hne]
  exact hq
end
end
section
open Go
variable [Fr]
def QC (σ:St) (ws:List Wr) (l:List Nat) (tags:List Tag):Prop:=
 (∀r∈l,∃n,(r,n)∈tags)∧∀t∈tags,fP t.1=true∨(∃R,ws.find? (fun w=>w.loc.beq (.r t.1))=some (.r t.1 (some R))∧t.2=gG R.w)∨(∃R,σ.roots t.1=some R∧t.2=gG R.w)
theorem Xt {w:Wr} {r:Nat} (h:w.loc.beq (.r r)=true):∃o,w=.r r o:=by
 cases w with
 | s n a=>simp [Wr.loc,Loc.beq] at h
 | r n o=>
  simp only [Wr.loc,Loc.beq] at h
  exact ⟨o,by rw [aph h]⟩
theorem Mi {A:Type} {z:A} {σ:St} {ws:List Wr}:∀{l:List Nat} {k:List Tag→Prog A},(R9 ws l k).ends σ z→∃tags,QC σ ws l tags∧(k tags).ends σ z:=by
 intro l
 induction l with
 | nil=>intro k h; exact ⟨[],⟨by simp,by simp⟩,h⟩
 | cons r l ih=>
  intro k h
  unfold R9 at h
  have hadd:∀{n:Nat} {tags:List Tag},QC σ ws l tags→(fP r=true∨(∃R,ws.find? (fun w=>w.loc.beq (.r r))=some (.r r (some R))∧n=gG R.w)∨(∃R,σ.roots r=some R∧n=gG R.w))→QC σ ws (r :: l) ((r,n) :: tags):=by
   intro n tags h1 h2
   refine ⟨fun q hq=>?_,fun t ht=>?_⟩
   ·rcases apq.1 hq with h | h
    ·subst h; exact ⟨n,by simp⟩
    ·obtain ⟨m,hm⟩:=h1.1 q h; exact ⟨m,by simp [hm]⟩
   ·rcases apq.1 ht with h | h
    ·subst h; exact h2
    ·exact h1.2 t h
  cases he:fP r with
  | true=>
   rw [he] at h
   obtain ⟨tags,g1,g2⟩:=ih h
   exact ⟨_,hadd g1 (.inl he),g2⟩
  | false=>
   rw [he] at h
   simp only [cond_false] at h
   split at h
   ·rename_i q R hf
    have hq:q=r:=by
     have:=List.find?_some hf
     obtain ⟨o,ho⟩:=Xt this
     simp only [Wr.r.injEq] at ho
     exact ho.1
    subst hq
    obtain ⟨tags,g1,g2⟩:=ih h
    exact ⟨_,hadd g1 (.inr (.inl ⟨R,hf,rfl⟩)),g2⟩
   ·exact h.elim
   ·simp only [Prog.ends] at h
    cases hr:σ.roots r with
    | none=>rw [hr] at h; exact h.elim
    | some R=>
     rw [hr] at h
     obtain ⟨tags,g1,g2⟩:=ih h
     exact ⟨_,hadd g1 (.inr (.inr ⟨R,hr,rfl⟩)),g2⟩
def Yj (σ:St) (d:Nat) (is:List cB) (ws:List Wr):(rs:List jy)→Nat→Cont (ig rs)→List AV→List Wr→Prop
 | [],_,_,as,ws'=>as=[]∧ws'=[]
 | .val k exts iB :: rs,c,x,as,ws'=>∃tags as',QC σ ws (bif k.flat then [] else yH (FH is exts iB)) tags∧as=.val k x.1 tags :: as'∧Yj σ d is ws rs (c+1) x.2 as' ws'
 | .own k ow exts iB :: rs,c,x,as,ws'=>∃tags as' U1,QC σ ws (bif k.tys.all (fun t=>ay t ow) then [] else yH (FH is exts iB)) tags∧σ.roots (bE d c)=none∧as=.ref (bE d c) 0 :: as'∧ws'=.r (bE d c) (some (aP k x.1 ow tags .anon)) :: U1∧Yj σ d is ws rs (c+1) x.2 as' U1
 | .ptr t k ow exts :: rs,c,x,as,ws'=>∃tags as' U1,QC σ ws (bif k.tys.all (fun t=>ay t ow) then [] else yH (FH is exts [])) tags∧σ.roots (bE d c)=none∧as=.ptr (bE d c) [] 0 :: as'∧ws'=.r (bE d c) (some (aP k x.1 ow tags (.var t))) :: U1∧Yj σ d is ws rs (c+1) x.2 as' U1
 | .into j p :: rs,c,x,as,ws'=>c=0∧p=[]∧rs=[]∧ws'=[]∧∃i r q wt ht R,is[j]?=some i∧i.wb=some (r,q,wt,ht)∧qK∉ht∧ws.find? (fun w=>w.loc.beq (.r r))=some (.r r (some R))∧as=[.yL r q (gG R.w+gG R.h) (show Int from x.1).toNat]
theorem aao {A:Type} {z:A} {σ:St} {d:Nat} {is:List cB} {ws:List Wr}:∀{rs:List jy} {c:Nat} {x:Cont (ig rs)} {k:List AV→List Wr→Prog A},(zP d is ws rs c x k).ends σ z→∃as ws',Yj σ d is ws rs c x as ws'∧(k as ws').ends σ z:=by
 intro rs
 induction rs with
 | nil=>intro c x k h; exact ⟨[],[],⟨rfl,rfl⟩,h⟩
 | cons p rs ih=>
  intro c x k h
  cases p with
  | val kk exts iB=>
   simp only [zP] at h
   obtain ⟨tags,h1,h⟩:=Mi h
   obtain ⟨as,ws',h2,h⟩:=ih h
   exact ⟨_,ws',⟨tags,as,h1,rfl,h2⟩,h⟩
  | own kk ow exts iB=>
   simp only [zP] at h
   obtain ⟨tags,h1,h⟩:=Mi h
   obtain ⟨hn,h⟩:=gZ h
   obtain ⟨as,ws',h2,h⟩:=ih h
   exact ⟨_,_,⟨tags,as,ws',h1,hn,rfl,rfl,h2⟩,h⟩
  | ptr t kk ow exts=>
   simp only [zP] at h
   obtain ⟨tags,h1,h⟩:=Mi h
   obtain ⟨hn,h⟩:=gZ h
   obtain ⟨as,ws',h2,h⟩:=ih h
   exact ⟨_,_,⟨tags,as,ws',h1,hn,rfl,rfl,h2⟩,h⟩
  | into j q=>
   simp only [zP] at h
   rcases aB h with ⟨hc,h⟩ | ⟨_,h⟩
   ·simp only [apj,List.isEmpty_iff] at hc
    split at h
    ·rename_i i hi
     split at h
     ·rename_i r q' wt ht hw
      split at h
      ·rename_i r' R hf
       rcases aB h with ⟨_,h⟩ | ⟨Ay,h⟩
       ·exact h.elim
       have hb:=List.find?_some hf
       simp only [Wr.loc,Loc.beq] at hb
       have hb:=aph hb
       subst hb
       exact ⟨_,_,⟨aph hc.1.1,hc.1.2,hc.2,rfl,i,r',q',wt,ht,R,hi,hw,aV.1 Ay,hf,rfl⟩,h⟩
      ·exact h.elim
     ·exact h.elim
    ·exact h.elim
   ·exact h.elim
theorem Ej {n:Nat} {l:List Nat}:n∈l→n∈yH l:=by
 induction l with
 | nil=>simp
 | cons m l ih=>
  intro h
  unfold yH
  cases hm:ay m l with
  | true=>
   simp only [cond_true]
   rcases apq.1 h with h | h
   ·subst h; exact ih (aL.1 hm)
   ·exact ih h
  | false=>
   simp only [cond_false]
   rcases apq.1 h with h | h
   ·subst h; simp
   ·simp [ih h]
section
variable {P:Program} {T:ji} {cx:Cx} {σ:St} {α:dK} {F:List Nat} {a:Act} {w w':World} {ps:List cZ} {c:Cont (kin ps)} {vs:List Value} {is:List cB} {gs:List GA}
theorem CP {exts iB:List Nat} {Tg U:List Tag} {l:List Nat} (ht:qN exts iB Tg=true) (hU:∀r∈l,∃n,(r,n)∈U) (hl:∀r∈FH is exts iB,r∈l) :
  (∀j n,(qp j,n)∈Tg→∀i,is[j]?=some i→∀t∈i.ids,∃n',(t.1,n')∈U)∧(∀m n,(au m,n)∈Tg→∀i q,is[m]?=some i→i.wb=some q→∃n',(q.1,n')∈U):=by
 refine ⟨fun j n hn i hi t ht'=>?_,fun m n hn i q hi hq=>?_⟩
 ·have h1:=apt.1 ht _ hn
  simp only [iO,cond_true] at h1
  have h2:qp j / 4=j:=by unfold qp; omega
  rw [h2,aL] at h1
  refine hU _ (hl _ ?_)
  unfold FH
  refine api _ (apP.2 ⟨j,h1, ?_⟩)
  rw [hi]
  exact apO.2 ⟨t,ht',rfl⟩
 ·have h1:=apt.1 ht _ hn
  have h2:Nat.beq (au m % 4) 0=true:=by unfold au; simp
  simp only [pg,cond_false,h2,cond_true] at h1
  rw [Sb,aL] at h1
  refine hU _ (hl _ ?_)
  unfold FH
  refine apf _ (apP.2 ⟨m,h1, ?_⟩)
  simp [hi,hq]
theorem RU {d c c':Nat} (h:bE d c=bE d c'):c=c':=by unfold bE at h; omega
theorem Wj (H:Rel cx σ α F a w) (hJ:GJs cx σ α F a w ps c vs is gs) {EJ:St} {AX:dK} {Ff:List Nat} {af:Act} (Hf:Rel (dI cx σ α F w ps c is gs) EJ AX Ff af w') {σ0:St} {d:Nat} {ws:List Wr} :
  ∀{rs:List jy} {ci:Nat} {x:Cont (ig rs)} {as:List AV} {ws':List Wr} {us:List Value} {bz:List (List Nat)} {σ':St} {α':dK},Rel cx σ' α' bz.flatten a w'→DV σ α is gs EJ AX Ff σ' α' bz.flatten→
   KD (dI cx σ α F w ps c is gs) EJ AX Ff w' rs x us bz→Yj σ0 d is ws rs ci x as ws'→(∀l tags,QC σ0 ws l tags→fD σ' tags)→(∀cj,ci≤cj→σ0.roots (bE d cj)=none→σ'.roots (bE d cj)=none)→(∀b∈bz.flatten,b∈Ff)→
   (ci=0→∀(j:Nat) (i:cB) (r:Nat) (q:List Stp) (wt ht:List TypeId) (R:Root) (b:Option Addr) (n cp m:Nat),is[j]?=some i→i.wb=some (r,q,wt,ht)→qK∉ht→ws.find? (fun w=>w.loc.beq (.r r))=some (.r r (some R))→m≤n→bI (dI cx σ α F w ps c is gs) EJ AX Ff w' (.ref (au j) 0) (.slice b n cp)→
    bI cx σ' α' bz.flatten w' (.yL r q (gG R.w+gG R.h) m) (.slice b m cp)∧tF σ' (.yL r q (gG R.w+gG R.h) m))→
   ∃α'',Rel cx (aC ws' σ') α'' [] a w'∧fG cx (aC ws' σ') α'' [] w' as us∧(∀v∈as,tF (aC ws' σ') v)∧(aC ws' σ').slots=σ'.slots∧DV σ α is gs EJ AX Ff (aC ws' σ') α'' []∧
    (∀u v,tF σ' u→bI cx σ' α' bz.flatten w' u v→bI cx (aC ws' σ') α'' [] w' u v)∧(∀t,Gl σ' t→Gl (aC ws' σ') t)∧(∀u,tF σ' u→tF (aC ws' σ') u):=by
 intro rs
 induction rs with
 | nil=>
  intro ci x as ws' us bz σ' α' H' B hL hW _ _ _ _
  obtain ⟨rfl,rfl⟩:=hW
  cases us with
  | cons _ _=>exact hL.elim
  | nil=>cases bz with
   | cons _ _=>exact hL.elim
   | nil=>exact ⟨α',H',trivial,by simp,rfl,B,fun _ _ _ h=>h,fun _ h=>h,fun _ h=>h⟩
 | cons p rs ih=>
  intro ci x as ws' us bz σ' α' H' B hL hW xC hfr hFf hcut
  cases us with
  | nil=>cases p <;> exact hL.elim
  | cons u us=>
   cases bz with
   | nil=>cases p <;> exact hL.elim
   | cons fo bz=>
    cases p with
    | val k exts iB=>
     obtain ⟨⟨rfl,Tg,cs,h1,h2,h3⟩,h4⟩:=hL
     obtain ⟨tags,as',hN,rfl,hW⟩:=hW
     simp only [List.flatten_cons,List.nil_append] at H' B hFf
     obtain ⟨α'',k1,k2,k3,k4,k5,k6,k7,k8⟩:=ih H' B h4 hW xC (fun cj hc=>hfr cj (by omega)) hFf (fun h=>absurd h (Nat.succ_ne_zero _))
     refine ⟨α'',k1,⟨fun _=>⟨cs,h2, ?_⟩,k2⟩, ?_,k4,k5,by simpa using k6,k7,k8⟩
     ·cases hf:k.flat with
      | true=>exact iA hf h3
      | false=>
       rw [hf] at hN h1
       obtain ⟨b1,b2⟩:=CP (is:=is) (h1.resolve_left (by simp)) hN.1 (fun r hr=>Ej hr)
       exact fT (fun _ _=>rfl) (fun b hb=>P8 H hJ Hf k5 b1 b2 hb) h3
     ·intro v hv
      rcases apq.1 hv with h | h
      ·subst h; exact fun t ht=>k7 t (xC _ _ hN t ht)
      ·exact k3 v h
    | own k ow exts iB=>
     obtain ⟨⟨Tg,cs,own,h1,h2,h3,h5⟩,h4⟩:=hL
     obtain ⟨tags,as',U1,hN,hn,rfl,rfl,hW⟩:=hW
     simp only [List.flatten_cons] at H' B hFf
     obtain ⟨dJ,fd,hpm,hO⟩:=vM (own':=ow) (fun t ht hm=>h2 t ht hm) h5
     have hnd:=apk.1 H'.Ca
     have RA:=apk.1 (hpm.nodup hnd.1)
     have hk:(aP k x.1 ow tags .anon false).kind=.anon:=rfl
     have hn':=hfr ci (apu _) hn
     have Ul:∀b∈dJ,b∈fo:=fun b hb=>hpm.mem_iff.2 (api _ hb)
     obtain ⟨q1,q2⟩:=QL (R':=aP k x.1 ow tags .anon false) H' hn' (gF d ci) rfl (by simp [aP]) (xC _ _ hN) (0,0) cs dJ bz.flatten
      (fun b hb=>by rw [gY hk] at hb; exact ⟨api _ (Ul b hb),fun h=>hnd.2.2 b (Ul b hb) b h rfl⟩) (by rw [gY hk]; exact RA.1) (fun b hb=>apf _ hb) hnd.2.1
      (fun _=>by
       rw [gY hk]
       show Ow (hp w') ow _ k x.1 cs dJ
       cases hall:(k.tys.all fun t=>ay t ow) with
       | true=>exact gP (dm (kI hall)) hO
       | false=>
        rw [hall] at hN h1
        obtain ⟨b1,b2⟩:=CP (is:=is) (h1.resolve_left (by simp)) hN.1 (fun r hr=>Ej hr)
        refine bC (fun _ _=>rfl) (fun b hb=>?_) (fun _ _=>rfl) hO
        rcases hb with hb | hb
        ·exact .inl (P8 H hJ Hf B b1 b2 hb)
        ·have hbf:b∈fo:=hpm.mem_iff.2 (apf _ hb)
         exact .inr ⟨api _ hbf,fun h=>hnd.2.2 b hbf b h rfl,fun h=>RA.2.2 b h b hb rfl⟩) (dn h5) (fun b o hb=>by rw [zV hk] at hb; simp at hb)
     have hB2:DV σ α is gs EJ AX Ff (az σ' (bE d ci) (aP k x.1 ow tags .anon false)) (aJ α' (bE d ci) (0,0) cs dJ) bz.flatten:=by
      refine ⟨fun q Q b hq hb=>?_,fun b hb=>hFf b (apf _ hb)⟩
      rcases jC hq with ⟨rfl,rfl,_⟩ | ⟨e,hq'⟩
      ·rw [eO,gY hk] at hb
       exact .inl (hFf b (api _ (Ul b hb)))
      ·rw [(iy (σ:=σ') (α:=α') (R:=aP k x.1 ow tags .anon false) e).blk] at hb
       exact B.blk q Q b hq' hb
     have Y4:∀u v,tF σ' u→bI cx σ' α' (fo++bz.flatten) w' u v→bI cx (az σ' (bE d ci) (aP k x.1 ow tags .anon false)) (aJ α' (bE d ci) (0,0) cs dJ) bz.flatten w' u v:=fun u v hu hv=>
      q2.av H' (fun r R hr hs=>absurd (iy (fun e=>by have:=hr.1; rw [e,hn'] at this; simp at this)) hs) (fun r R hr hs=>absurd (iy (fun e=>by have:=hr.1; rw [e,hn'] at this; simp at this)) hs) hu hv
     obtain ⟨α'',k1,k2,k3,k4,k5,k6,k7,k8⟩:=ih (ci:=ci+1) q1 hB2 h4 hW (fun l tags hN t ht=>q2.tag (xC l tags hN t ht)) (fun cj hc h=>by
      rw [bZ]
      ·exact hfr cj (by omega) h
      ·intro e; have:=RU e; omega) (fun b hb=>hFf b (apf _ hb)) (fun h=>absurd h (Nat.succ_ne_zero _))
     have hroot:(az σ' (bE d ci) (aP k x.1 ow tags .anon false)).roots (bE d ci)=some (aP k x.1 ow tags .anon false):=aK ..
     have RF:tF (az σ' (bE d ci) (aP k x.1 ow tags .anon false)) (.ref (bE d ci) 0):=⟨_,hroot, .inr (apM _)⟩
     refine ⟨α'',k1,⟨k6 _ _ RF (Z7 h3),k2⟩, ?_,k4,k5,fun u v hu hv=>?_,fun t ht=>k7 t (q2.tag ht),fun u hu=>k8 u (q2.tF hu)⟩
     ·intro v hv
      rcases apq.1 hv with h | h
      ·subst h
       exact k8 _ RF
      ·exact k3 v h
     ·exact k6 u v (q2.tF hu) (Y4 u v hu hv)
    | ptr t k ow exts=>
     obtain ⟨⟨b0,o0,Tg,cs,own,yI,h3,rfl,h1,h2,hmem,h5⟩,h4⟩:=hL
     obtain ⟨tags,as',U1,hN,hn,rfl,rfl,hW⟩:=hW
     simp only [List.flatten_cons] at H' B hFf
     obtain ⟨dJ,fd,hpm,hO⟩:=vM (own':=ow) (fun t ht hm=>h2 t ht hm) h5
     have hnd:=apk.1 H'.Ca
     have sO:=apL.1 hnd.1
     have RA:=apk.1 (hpm.nodup sO.2)
     have hk:(aP k x.1 ow tags (.var t) false).kind=.var t:=rfl
     have hn':=hfr ci (apu _) hn
     have Ul:∀b∈b0 :: dJ,b∈b0 :: yI:=fun b hb=>by
      rcases apq.1 hb with h | h
      ·rw [h]; exact apK
      ·exact apC _ (hpm.mem_iff.2 (api _ h))
     obtain ⟨q1,q2⟩:=QL (R':=aP k x.1 ow tags (.var t) false) H' hn' (gF d ci) rfl (by simp [aP]) (xC _ _ hN) (b0,o0) cs dJ bz.flatten
      (fun b hb=>by rw [vT hk] at hb; exact ⟨api _ (Ul b hb),fun h=>hnd.2.2 b (Ul b hb) b h rfl⟩) (by rw [vT hk]; exact apL.2 ⟨fun h=>sO.1 (hpm.mem_iff.2 (api _ h)),RA.1⟩) (fun b hb=>apf _ hb) hnd.2.1
      (fun _=>by
       rw [vT hk]
       show Ow (hp w') ow _ k x.1 cs dJ
       cases hall:(k.tys.all fun t=>ay t ow) with
       | true=>exact gP (dm (kI hall)) hO
       | false=>
        rw [hall] at hN h1
        obtain ⟨b1,b2⟩:=CP (is:=is) (h1.resolve_left (by simp)) hN.1 (fun r hr=>Ej hr)
        refine bC (fun _ _=>rfl) (fun b hb=>?_) (fun _ _=>rfl) hO
        rcases hb with hb | hb
        ·exact .inl (P8 H hJ Hf B b1 b2 hb)
        ·have hbf:b∈b0 :: yI:=apC _ (hpm.mem_iff.2 (apf _ hb))
         exact .inr ⟨api _ hbf,fun h=>hnd.2.2 b hbf b h rfl,fun h=>by
          rcases apq.1 h with h | h
          ·subst h; exact sO.1 (hpm.mem_iff.2 (apf _ hb))
          ·exact RA.2.2 b h b hb rfl⟩) (dn h5) (fun b o hb=>by
       rw [SC hk] at hb
       simp only [apd,apo] at hb
       obtain ⟨rfl,rfl⟩:=hb
       obtain ⟨m1,arr,e,lo,hi,m2,m3,m4,m5⟩:=hmem
       exact ⟨m1,arr,e,lo,hi,m2,m3,m4,fun u hu=>by rw [m5]; rw [hk] at hu; simpa using hu⟩)
     have hB2:DV σ α is gs EJ AX Ff (az σ' (bE d ci) (aP k x.1 ow tags (.var t) false)) (aJ α' (bE d ci) (b0,o0) cs dJ) bz.flatten:=by
      refine ⟨fun q Q b hq hb=>?_,fun b hb=>hFf b (apf _ hb)⟩
      rcases jC hq with ⟨rfl,rfl,_⟩ | ⟨e,hq'⟩
      ·rw [eO,vT hk] at hb
       exact .inl (hFf b (api _ (Ul b hb)))
      ·rw [(iy (σ:=σ') (α:=α') (R:=aP k x.1 ow tags (.var t) false) e).blk] at hb
       exact B.blk q Q b hq' hb
     have Y4:∀u v,tF σ' u→bI cx σ' α' ((b0 :: yI)++bz.flatten) w' u v→bI cx (az σ' (bE d ci) (aP k x.1 ow tags (.var t) false)) (aJ α' (bE d ci) (b0,o0) cs dJ) bz.flatten w' u v:=fun u v hu hv=>
      q2.av H' (fun r R hr hs=>absurd (iy (fun e=>by have:=hr.1; rw [e,hn'] at this; simp at this)) hs) (fun r R hr hs=>absurd (iy (fun e=>by have:=hr.1; rw [e,hn'] at this; simp at this)) hs) hu hv
     obtain ⟨α'',k1,k2,k3,k4,k5,k6,k7,k8⟩:=ih (ci:=ci+1) q1 hB2 h4 hW (fun l tags hN t ht=>q2.tag (xC l tags hN t ht)) (fun cj hc h=>by
      rw [bZ]
      ·exact hfr cj (by omega) h
      ·intro e; have:=RU e; omega) (fun b hb=>hFf b (apf _ hb)) (fun h=>absurd h (Nat.succ_ne_zero _))
     have hroot:(az σ' (bE d ci) (aP k x.1 ow tags (.var t) false)).roots (bE d ci)=some (aP k x.1 ow tags (.var t) false):=aK ..
     have RF:tF (az σ' (bE d ci) (aP k x.1 ow tags (.var t) false)) (.ptr (bE d ci) [] 0):=⟨_,hroot, .inr (apM _)⟩
     refine ⟨α'',k1,⟨k6 _ _ RF (by rw [h3]; exact abV),k2⟩, ?_,k4,k5,fun u v hu hv=>?_,fun t ht=>k7 t (q2.tag ht),fun u hu=>k8 u (q2.tF hu)⟩
     ·intro v hv
      rcases apq.1 hv with h | h
      ·subst h
       exact k8 _ RF
      ·exact k3 v h
     ·exact k6 u v (q2.tF hu) (Y4 u v hu hv)
    | into j q=>
     obtain ⟨⟨rfl,_,b,n,cp,e1,e2,e3⟩,h4⟩:=hL
     obtain ⟨hci,_,rfl,rfl,i,r,q',wt,ht,R,g1,g2,g0,g3,rfl⟩:=hW
     cases us with
     | cons _ _=>exact h4.elim
     | nil=>
      cases bz with
      | cons _ _=>exact h4.elim
      | nil=>
       obtain ⟨k1,k2⟩:=hcut hci j i r q' wt ht R b n cp _ g1 g2 g0 g3 e2 e3
       simp only [List.flatten_cons,List.flatten_nil,apH] at H' k1
       simp only [List.flatten_cons,List.flatten_nil,apH] at B
       refine ⟨α',H',⟨by rw [e1]; exact k1,trivial⟩,fun v hv=>?_,rfl,B,fun _ _ _ h=>?_,fun _ h=>h,fun _ h=>h⟩
       ·simp only [apx] at hv
        subst hv
        exact k2
       ·simp only [List.flatten_cons,List.flatten_nil,apH] at h
        exact h
end
end
section
open Go
variable [Fr]
section
variable {P:Program} {T:ji} {cx:Cx} {σ:St} {α:dK} {F:List Nat} {a:Act} {w w':World}
theorem adG:∀{ps:List cZ} {c:Cont (kin ps)} {vs:List Value} {is:List cB} {ts:List (Value×iL)},U5 cx σ α F a w ps c vs is ts→
  is.flatMap cB.ws=vF ts∧(∀q∈ts,xQ cx σ α F w q.1 q.2)∧(∀t∈qZ ts,∃(j:Nat) (i:cB) (k:K) (ow:List TypeId),ps[j]?=some (.own k ow)∧is[j]?=some i∧t∈i.ids)∧vs.length=ps.length∧is.length=ps.length:=by
 intro ps
 induction ps with
 | nil=>
  intro c vs is ts h
  cases vs with
  | cons _ _=>exact h.elim
  | nil=>cases is with
   | cons _ _=>exact h.elim
   | nil=>cases ts with
    | cons _ _=>exact h.elim
    | nil=>exact ⟨rfl,by simp,by simp [qZ],rfl,rfl⟩
 | cons p ps ih=>
  intro c vs is ts h
  cases vs with
  | nil=>cases p <;> exact h.elim
  | cons v vs=>
   cases is with
   | nil=>cases p <;> exact h.elim
   | cons i is=>
    have hshift:∀{ts:List (Value×iL)},(∀t∈qZ ts,∃(j:Nat) (i:cB) (k:K) (ow:List TypeId),ps[j]?=some (.own k ow)∧is[j]?=some i∧t∈i.ids)→∀t∈qZ ts,∃(j:Nat) (i':cB) (k:K) (ow:List TypeId),(p :: ps)[j]?=some (.own k ow)∧(i :: is)[j]?=some i'∧t∈i'.ids:=by
     intro ts h t ht
     obtain ⟨j,i',k,ow,h1,h2,h3⟩:=h t ht
     exact ⟨j+1,i',k,ow,by simpa using h1,by simpa using h2,h3⟩
    cases p with
    | val k iB=>obtain ⟨⟨_,h1,_⟩,h6⟩:=h; obtain ⟨g1,g2,g3,g4,g5⟩:=ih h6; exact ⟨by simp [h1,g1],g2,hshift g3,by simp [g4],by simp [g5]⟩
    | ro k=>obtain ⟨⟨_,h1,_⟩,h6⟩:=h; obtain ⟨g1,g2,g3,g4,g5⟩:=ih h6; exact ⟨by simp [h1,g1],g2,hshift g3,by simp [g4],by simp [g5]⟩
    | rw k ow wt ht=>obtain ⟨⟨r,R,p,hP,_⟩,h6⟩:=h; obtain ⟨g1,g2,g3,g4,g5⟩:=ih h6; exact ⟨by simp [hP.ws,g1],g2,hshift g3,by simp [g4],by simp [g5]⟩
    | jl k ow wt=>obtain ⟨⟨r,R,p,hP,_⟩,h6⟩:=h; obtain ⟨g1,g2,g3,g4,g5⟩:=ih h6; exact ⟨by simp [hP.ws,g1],g2,hshift g3,by simp [g4],by simp [g5]⟩
    | fn f ks=>obtain ⟨⟨_,h1,_⟩,h6⟩:=h; obtain ⟨g1,g2,g3,g4,g5⟩:=ih h6; exact ⟨by simp [h1,g1],g2,hshift g3,by simp [g4],by simp [g5]⟩
    | own k ow=>
     cases ts with
     | nil=>exact h.elim
     | cons q ts=>
      obtain ⟨⟨h1,h2,h3,h4,h5⟩,h6⟩:=h
      obtain ⟨g1,g2,g3,g4,g5⟩:=ih h6
      refine ⟨?_, ?_, ?_,by simp [g4],by simp [g5]⟩
      ·rw [h3]; simp [g1,vF]
      ·intro q' hq
       rcases apq.1 hq with h | h
       ·subst h; rw [h1]; exact h2
       ·exact g2 q' h
      ·intro t ht
       simp only [qZ,List.flatMap_cons,apm] at ht
       rcases ht with ht | ht
       ·exact ⟨0,i,k,ow,rfl,rfl,by rw [h3]; exact ht⟩
       ·exact hshift g3 t ht
    | into j q=>obtain ⟨⟨_,h1,_⟩,h6⟩:=h; obtain ⟨g1,g2,g3,g4,g5⟩:=ih h6; exact ⟨by simp [h1,g1],g2,hshift g3,by simp [g4],by simp [g5]⟩
theorem Mq {r:Nat}:∀{is:List cB} {n m:Nat},Be r is n=some m→∃i q,n≤m∧is[m - n]?=some i∧i.wb=some (r,q):=by
 intro is
 induction is with
 | nil=>intro n m h; simp [Be] at h
 | cons i is ih=>
  intro n m h
  unfold Be at h
  have hrec:Be r is (n+1)=some m→∃i' q,n≤m∧(i :: is)[m - n]?=some i'∧i'.wb=some (r,q):=by
   intro h
   obtain ⟨i',q,h1,h2,h3⟩:=ih h
   refine ⟨i',q,by omega, ?_,h3⟩
   have:m - n=(m - (n+1))+1:=by omega
   rw [this]
   simpa using h2
  cases hw:i.wb with
  | none=>rw [hw] at h; exact hrec h
  | some q=>
   rw [hw] at h
   simp only at h
   cases hb:Nat.beq r q.1 with
   | true=>
    rw [hb] at h
    simp only [cond_true,apd] at h
    subst h
    exact ⟨i,q.2,apu _,by simp,by rw [hw,aph hb]⟩
   | false=>rw [hb] at h; exact hrec h
theorem UC {r:Nat}:∀{is:List cB} {n:Nat},Be r is n=none→∀i∈is,∀q,i.wb≠some (r,q):=by
 intro is
 induction is with
 | nil=>intro n _ i hi; simp at hi
 | cons i is ih=>
  intro n h i' hi q he
  unfold Be at h
  rcases apq.1 hi with h' | h'
  ·subst h'
   rw [he] at h
   simp at h
  ·cases hw:i.wb with
   | none=>rw [hw] at h; exact ih h i' h' q he
   | some q'=>
    rw [hw] at h
    simp only at h
    cases hb:Nat.beq r q'.1 with
    | true=>rw [hb] at h; simp at h
    | false=>rw [hb] at h; exact ih h i' h' q he
theorem Mo:∀{is:List cB} {j j':Nat} {i i':cB},FU is=true→is[j]?=some i→is[j']?=some i'→i.wb≠none→i'.wb≠none→j=j':=by
 intro is
 induction is with
 | nil=>intro j j' i i' _ h; simp at h
 | cons x is ih=>
  intro j j' i i' ho h1 h2 h3 h4
  cases j with
  | zero=>
   simp only [List.getElem?_cons_zero,apd] at h1
   subst h1
   cases j' with
   | zero=>rfl
   | succ j'=>
    rcases wU ho with ⟨h,_⟩ | ⟨_,h⟩
    ·exact absurd h h3
    ·exact absurd (h i' (List.mem_of_getElem? (by simpa using h2))) h4
  | succ j=>
   cases j' with
   | zero=>
    simp only [List.getElem?_cons_zero,apd] at h2
    subst h2
    rcases wU ho with ⟨h,_⟩ | ⟨_,h⟩
    ·exact absurd h h4
    ·exact absurd (h i (List.mem_of_getElem? (by simpa using h1))) h3
   | succ j'=>
    rcases wU ho with ⟨_,h⟩ | ⟨_,h⟩
    ·have:=ih h (by simpa using h1) (by simpa using h2) h3 h4; omega
    ·exact absurd (h i (List.mem_of_getElem? (by simpa using h1))) h3
def Yn (is:List cB) (p:cZ) (i:cB):Prop:=
 (∃(k:K) (iB:List Nat),p=.val k iB∧(∀m∈iB,∃q:cB,is[m]?=some q∧q.wb≠none)∧∀t∈i.ids,(∃(n:Nat) (j':cB),Be t.1 is 0=some n∧n∈iB∧is[n]?=some j'∧∀b∈j'.bt,b∉k.tys)∨(Be t.1 is 0=none∧t.1∉is.flatMap fun j=>j.ws.flatMap Wr.uF))∨
  ((∀k iB,p≠.val k iB)∧∀t∈i.ids,t.1∉is.flatMap cB.touched)
theorem Qn {is:List cB}:∀{ps:List cZ} {l:List cB},yC is ps l=true→∀(j:Nat) (p:cZ) (i:cB),ps[j]?=some p→l[j]?=some i→Yn is p i:=by
 intro ps
 induction ps with
 | nil=>intro l _ j p i hp; simp at hp
 | cons p ps ih=>
  intro l h j q i hq hi
  cases l with
  | nil=>cases p <;> simp [yC] at h
  | cons x l=>
   have hhead:(j=0→q=p∧i=x):=by
    intro e
    subst e
    simp only [List.getElem?_cons_zero,apd] at hq hi
    exact ⟨hq.symm,hi.symm⟩
   have acX:yC is ps l=true→j≠0→Yn is q i:=by
    intro h hj
    obtain ⟨j',rfl⟩:∃j',j=j'+1:=⟨j - 1,by omega⟩
    exact ih h j' q i (by simpa using hq) (by simpa using hi)
   have hother:(∀(k:K) (iB:List Nat),p≠.val k iB)→(x.ids.all (fun t=>!ay t.1 (is.flatMap cB.touched)) && yC is ps l)=true→Yn is q i:=by
    intro hp hx
    rw [apj] at hx
    by_cases hj:j=0
    ·obtain ⟨e1,e2⟩:=hhead hj
     rw [e1,e2]
     refine .inr ⟨hp,fun t ht=>?_⟩
     have:=apt.1 hx.1 t ht
     simpa [aV] using this
    ·exact acX hx.2 hj
   cases p with
   | val k iB=>
    simp only [yC,apj] at h
    by_cases hj:j=0
    ·obtain ⟨rfl,rfl⟩:=hhead hj
     refine .inl ⟨k,iB,rfl,fun m hm=>?_,fun t ht=>?_⟩
     ·have:=apt.1 h.1.1 m hm
      cases hmi:is[m]? with
      | none=>rw [hmi] at this; simp at this
      | some q=>
       rw [hmi] at this
       refine ⟨q,rfl,fun e=>?_⟩
       simp [e] at this
     ·have:=apt.1 h.1.2 t ht
      cases hpo:Be t.1 is 0 with
      | none=>
       rw [hpo] at this
       refine .inr ⟨rfl, ?_⟩
       simpa [aV] using this
      | some n=>
       rw [hpo] at this
       simp only [apj] at this
       cases hni:is[n]? with
       | none=>rw [hni] at this; simp at this
       | some j'=>
        rw [hni] at this
        refine .inl ⟨n,j',rfl,aL.1 this.1,hni,fun b hb=>?_⟩
        have h2:=apt.1 this.2 b hb
        simpa [aV] using h2
    ·exact acX h.2 hj
   | ro k=>exact hother (by simp) h
   | rw k ow wt ht=>exact hother (by simp) h
   | jl k ow wt=>exact hother (by simp) h
   | own k ow=>exact hother (by simp) h
   | fn f ks=>exact hother (by simp) h
   | into j q=>exact hother (by simp) h
theorem Qw {σ1:St}:∀{ps:List cZ} {is:List cB} {c:Cont (jL ps)} {ws:List Wr},(∀i∈is,∀r q,i.wb=some (r,q)→σ1.roots r=σ.roots r)→wm σ ps is c ws→wm σ1 ps is c ws:=by
 intro ps
 induction ps with
 | nil=>
  intro is c ws _ h
  cases is with
  | nil=>exact h
  | cons _ _=>exact h.elim
 | cons p ps ih=>
  intro is c ws hr h
  cases is with
  | nil=>cases p <;> exact h.elim
  | cons i is=>
   have hr':∀i∈is,∀r q,i.wb=some (r,q)→σ1.roots r=σ.roots r:=fun i hi=>hr i (by simp [hi])
   cases p with
   | rw kk ow wt0 ht0=>obtain ⟨r,p,wt,ht,R,z,ws',h1,h2,h3,h4,h5⟩:=h; exact ⟨r,p,wt,ht,R,z,ws',h1,by rw [hr i (by simp) r _ h1]; exact h2,h3,h4,ih hr' h5⟩
   | jl kk ow wt0=>obtain ⟨r,p,wt,ht,R,z,ws',h1,h2,h3,h4,h5⟩:=h; exact ⟨r,p,wt,ht,R,z,ws',h1,by rw [hr i (by simp) r _ h1]; exact h2,h3,h4,ih hr' h5⟩
   | val _ _=>exact ih hr' h
   | ro _=>exact ih hr' h
   | own _ _=>exact ih hr' h
   | fn _ _=>exact ih hr' h
   | into _ _=>exact ih hr' h
theorem Yy {as:List AV} {us:List Value} (h:fG cx σ α F w as us):jT cx σ α F w (Yx as) (aaF us):=by
 cases as with
 | nil=>cases us with
  | nil=>exact ⟨[],rfl,trivial⟩
  | cons _ _=>exact h.elim
 | cons x as=>cases us with
  | nil=>exact h.elim
  | cons u us=>
   cases as with
   | nil=>cases us with
    | nil=>exact h.1
    | cons _ _=>exact h.2.elim
   | cons y as=>cases us with
    | nil=>exact h.2.elim
    | cons u' us=>exact ⟨u :: u' :: us,rfl,h⟩
theorem abl {as:List AV} (h:∀v∈as,tF σ v):Ah σ (Yx as):=by
 cases as with
 | nil=>exact fun a ha=>by simp at ha
 | cons x as=>cases as with
  | nil=>exact h x (by simp)
  | cons y as=>exact h
theorem Ih {A:Type} {f g:A→List Nat}:∀{l:List A},(∀x∈l,(g x).Sublist (f x))→(l.flatMap f).Nodup→(l.flatMap g).Nodup:=by
 intro l hs h
 refine h.sublist ?_
 clear h
 induction l with
 | nil=>simp
 | cons x l ih=>
  simp only [List.flatMap_cons]
  exact (hs x (by simp)).append (ih (fun y hy=>hs y (by simp [hy])))
theorem Ls {A:Type} {f:A→List Nat}:∀{l:List A} {x:A},x∈l→(l.flatMap f).Nodup→(f x).Nodup:=by
 intro l
 induction l with
 | nil=>intro x hx; simp at hx
 | cons y l ih=>
  intro x hx h
  simp only [List.flatMap_cons] at h
  have n:=apk.1 h
  rcases apq.1 hx with h1 | h1
  ·subst h1; exact n.1
  ·exact ih h1 n.2.1
theorem Gq.mono {f:FuncId} {args:Array Value} {R R':Value→World→Prop} (h:Gq P f args w R) (hr:∀v w',R v w'→R' v w'):Gq P f args w R':=by
 rcases h with ⟨h1,h2⟩ | ⟨v,w',h1,h2⟩
 ·exact .inl ⟨h1,h2.mono fun e w' ⟨v,he,h⟩=>⟨v,he,hr _ _ h⟩⟩
 ·exact .inr ⟨v,w',h1,hr _ _ h2⟩
theorem Wp {n:Nat} {E:Entry} (hE:ak P n E) (H:Rel cx σ α F a w) {dst:Option Nat} {NJ:List AV} {vs:List Value} (hl:fG cx σ α F w NJ vs) (hlw:∀v∈NJ,tF σ v) (hdn:∀d,dst=some d→d<cx.nt) {ws:List Wr}
  (h:(YD n E dst NJ fun ws=>(.ret ws:Prog (List Wr))).ends σ ws):Gq P E.f vs.toArray w fun v w'=>∃α' F',Rel cx (aC ws σ) α' F' (a.put dst v) w':=by
 unfold YD at h
 obtain ⟨c,is,ts,hG,h⟩:=Uh H hl hlw h
 obtain ⟨gw,gt,gtt,gl1,gl2⟩:=adG hG
 rcases aB h with ⟨hc,h⟩ | ⟨_,h⟩
 ·rw [apj,apj] at hc
  obtain ⟨⟨hap,ho⟩,hvo⟩:=hc
  have hnd:=Ag.1 hap
  obtain ⟨out,hout,h⟩:=h
  obtain ⟨ws2,hB,h⟩:=Wn h
  have hvs:=Qn hvo
  have Xe:(vF ts).flatMap Wr.uF=is.flatMap fun i=>i.ws.flatMap Wr.uF:=by rw [←gw,List.flatMap_assoc]
  have ah2:((vF ts).flatMap Wr.uF).Nodup:=by
   rw [Xe]
   exact Ih (fun i _=>by unfold cB.touched; exact List.sublist_append_right _ _) hnd
  have ah3:∀r,r∈(vF ts).flatMap Wr.uF→r∈is.flatMap cB.touched:=by
   intro r hr
   rw [Xe] at hr
   obtain ⟨i,hi,h1⟩:=apP.1 hr
   exact apP.2 ⟨i,hi,by unfold cB.touched; exact apf _ h1⟩
  have aic:∀(m:Nat) (i:cB) r q,is[m]?=some i→i.wb=some (r,q)→r∉(vF ts).flatMap Wr.uF:=by
   intro m i r q hi hw hr
   rw [Xe] at hr
   obtain ⟨i',hi',h1⟩:=apP.1 hr
   obtain ⟨m',hm',he⟩:=List.mem_iff_getElem.1 hi'
   have hi2:is[m']?=some i':=by rw [aps hm',he]
   have ht1:r∈i.touched:=by unfold cB.touched; rw [hw]; simp
   by_cases e:m=m'
   ·subst e
    rw [hi] at hi2
    simp only [apd] at hi2
    subst hi2
    have:=Ls hi' hnd
    unfold cB.touched at this
    rw [hw] at this
    simp only [List.cons_append,List.nil_append] at this
    exact (apL.1 this).1 h1
   ·exact flatMap_apart hnd hi hi2 e r ht1 (by unfold cB.touched; exact apf _ h1)
  have abI:∀(j:Nat) (i:cB),is[j]?=some i→∀t∈i.ids,t.1∉(vF ts).flatMap Wr.uF:=by
   intro j i hi t ht hr
   have hj:j<E.ps.length:=by have:=(List.getElem?_eq_some_iff.1 hi).1; omega
   rcases hvs j E.ps[j] i (aps hj) hi with ⟨k,iB,_,_,h1⟩ | ⟨_,h1⟩
   ·rcases h1 t ht with ⟨n,j',h2,_,_,_⟩ | ⟨_,h2⟩
    ·obtain ⟨i',q,_,h3,h4⟩:=Mq h2
     simp only [Nat.sub_zero] at h3
     exact aic n i' t.1 q h3 h4 hr
    ·exact h2 (by rw [←Xe]; exact hr)
   ·exact h1 t ht (ah3 _ hr)
  obtain ⟨dL,F1,hs,H1,hA1,FE,hnF1,aog,hS1,_,hV1,ah7,aeC⟩:=takes ts H gt ah2 (fun t ht=>by
   obtain ⟨j,i,k,ow,h1,h2,h3⟩:=gtt t ht
   exact abI j i h2 t h3)
  have ahv:∀i∈is,∀t∈i.ids,Same σ α (aC (vF ts) σ) dL t.1:=by
   intro i hi t ht
   obtain ⟨j,hj,he⟩:=List.mem_iff_getElem.1 hi
   exact hS1 _ (abI j i (by rw [aps hj,he]) t ht)
  have ahw:∀i∈is,∀r q,i.wb=some (r,q)→Same σ α (aC (vF ts) σ) dL r:=by
   intro i hi r q hw
   obtain ⟨j,hj,he⟩:=List.mem_iff_getElem.1 hi
   exact hS1 _ (aic j i r q (by rw [aps hj,he]) hw)
  obtain ⟨gs,hJ,hfl⟩:=Tw H1 hV1 hG hA1 ahv ahw
  obtain ⟨lv,li,lg,hat⟩:=hJ.at (i0:=0)
  have hA:Apart cx (aC (vF ts) σ) dL F1 w E.ps is gs:=by
   refine ⟨fun j j' g g' hg hg' hw hw'=>?_,by rw [hfl]; exact FE,fun j p i r n hp hi hn m i' q hm hq=>?_,fun j p hp m hm=>?_⟩
   ·have hget:∀{j:Nat} {g:GA},gs[j]?=some g→g.wb=true→∃i,is[j]?=some i∧i.wb≠none:=by
     intro j g hg hw
     have hj:j<E.ps.length:=by have:=(List.getElem?_eq_some_iff.1 hg).1; omega
     obtain ⟨cj,v,i,g',e1,e2,e3,e4,_⟩:=hat j E.ps[j] (aps hj)
     rw [hg] at e3
     simp only [apd] at e3
     subst e3
     exact ⟨i,e2,(oK H1 e4).2.2.2.1 hw⟩
    obtain ⟨i,h1,h2⟩:=hget hg hw
    obtain ⟨i',h3,h4⟩:=hget hg' hw'
    exact Mo ho h1 h3 h2 h4
   ·rcases hvs j p i hp hi with ⟨k,iB,h0,_,h1⟩ | ⟨_,h1⟩
    ·rcases h1 (r,n) hn with ⟨n',j',h2,h3,h4,h5⟩ | ⟨h2,_⟩
     ·obtain ⟨i'',q',_,h6,h7⟩:=Mq h2
      simp only [Nat.sub_zero] at h6
      have e:=Mo ho h6 hm (by rw [h7]; simp) (by rw [hq]; simp)
      subst e
      rw [hm] at h4
      simp only [apd] at h4
      subst h4
      subst h0
      exact ⟨h3,k,iB,rfl,h5⟩
     ·exact absurd hq (UC h2 i' (List.mem_of_getElem? hm) q)
    ·refine absurd ?_ (h1 (r,n) hn)
     exact apP.2 ⟨i',List.mem_of_getElem? hm,by unfold cB.touched; rw [hq]; simp⟩
   ·have hj:j<is.length:=by have:=(List.getElem?_eq_some_iff.1 hp).1; omega
    rcases hvs j p is[j] hp (aps hj) with ⟨k,iB,h0,h1,_⟩ | ⟨h0,_⟩
    ·subst h0
     obtain ⟨q,h2,h3⟩:=h1 m hm
     cases hw:q.wb with
     | none=>exact absurd hw h3
     | some u=>exact ⟨q,u,h2,hw⟩
    ·cases p with
     | val k iB=>exact absurd rfl (h0 k iB)
     | _=>simp [Mr] at hm
  have hinit:=abP H1 hJ hA
  have ahY:He (dI cx (aC (vF ts) σ) dL F1 w E.ps c is gs) E.ps:=Nt H1 hJ
  refine (hE c out hout _ _ vs.toArray w rfl rfl (by simpa using gl1) ahY hinit).mono ?_
  rintro v w' ⟨EJ,AX,Ff,af,us,bz,Hf,hv,hRL,hfn,SK,hOL⟩
  have hB1:wm (aC (vF ts) σ) E.ps is (Cont.snd (ig E.rs) (jL E.ps) out) ws2:=Qw (fun i hi r q hw=>(ahw i hi r q hw).root) hB
  obtain ⟨II,H2,hBS,hsl2,aeD,ah8,Xh,aeG⟩:=Tz H1 hJ ho Hf hB1 hOL SK hfn
  have amm:∀l tags,QC σ ws2 l tags→fD (aC ws2 (aC (vF ts) σ)) tags:=by
   intro l tags hN t ht
   rcases hN.2 t ht with h | ⟨R,hf,hn⟩ | ⟨R,hr,hn⟩
   ·exact .inl h
   ·rcases Xh with rfl | ⟨r,R',rfl⟩
    ·simp at hf
    ·have hm:=List.mem_of_find?_eq_some hf
     simp only [apx,Wr.r.injEq,apd] at hm
     obtain ⟨h1,h2⟩:=hm
     refine .inr ⟨R, ?_, .inr (by rw [hn]; exact apu _)⟩
     rw [h1,h2]
     exact aK ..
   ·exact ah8 t (ah7 t (.inr ⟨R,hr, .inr (by rw [hn]; exact apu _)⟩))
  cases dst with
  | none=>
   simp only at h
   rw [aD h,dA,gw]
   exact ⟨II,_,H2⟩
  | some d=>
   simp only at h
   obtain ⟨as,ws3,hW,h⟩:=aao h
   rw [aD h,dA,dA,dA,gw]
   obtain ⟨α3,k1,k2,k3,k4,_⟩:=Wj H1 hJ Hf H2 hBS hRL hW amm (fun cj _ hn=>aeD _ (aeC _ hn)) SK (fun _ j i r q wt ht R b n cp m g1 g2 g0 g3 g4 g5=>by
    obtain ⟨Rf,R',R0,p1,p2,p3,p4,p5,p6,p7,p8⟩:=aeG j i r q wt ht g0 g1 g2
    have eR:R=R':=by
     rw [p4] at g3
     simp [Wr.loc,Loc.beq] at g3
     exact g3.symm
    subst eR
    have hroot:(aC ws2 (aC (vF ts) σ)).roots r=some R:=by
     rw [p4]; exact aK ..
    refine ⟨⟨b,cp,rfl,fun R2 hR2 hv2 _ dd hdd=>?_⟩,R,hroot, .inr (apu _)⟩
    rw [hroot] at hR2
    simp only [apd] at hR2
    subst hR2
    obtain ⟨wh,Dr⟩:=p8 hv2
    obtain ⟨hk,H6⟩:=g5 Rf ⟨p1,p2.1⟩ p3
    have hh:AX.hdr (au j)=[.slice b n cp]:=by
     unfold VC at H6
     split at H6
     ·simp at H6
     ·exact H6.1
    exact ⟨p6,p7,n,wh,by rw [←hh]; exact Dr,g4⟩)
   refine ⟨α3,[], ?_⟩
   rw [hv]
   exact k1.put (hdn d rfl) (abl k3) (Yy k2)
 ·exact h.elim
end
end
section
open Go
variable [Fr]
section
variable {P:Program} {T:ji} {cx:Cx} {σ:St} {α:dK} {F:List Nat} {a:Act} {w:World} {o:Oper} {ws:List Wr} {hi:Hint} {n:Nat}
def adn (P:Program) (cx:Cx) (o:Oper) (a:Act) (w:World) (σ':St):Prop:=
 ∀(K:Act→World→Prop) (Q:Exit→Act→World→Prop),(∀α' F' a' w',Rel cx σ' α' F' a' w'→K a' w')→o.wp P a w K Q
theorem sM.toW {σ':St} (h:sM P cx o a w σ'):adn P cx o a w σ':=fun K Q hK=>h.wp hK
def vG (P:Program) (n:Nat) (hi:Hint):Prop:=∀q∈hi.calls,ak P n q.2.2
theorem PD {f d:Nat}:∀{l:List (Nat×Option Nat×Entry)} {E:Entry},uK f d l=some E→∃q∈l,q.2.2=E:=by
 intro l
 induction l with
 | nil=>intro E h; simp [uK] at h
 | cons q l ih=>
  intro E h
  obtain ⟨g,od,E'⟩:=q
  cases od with
  | none=>
   unfold uK at h
   cases hb:Nat.beq f g with
   | true=>rw [hb] at h; simp only [cond_true,apd] at h; exact ⟨_,apK,h⟩
   | false=>
    rw [hb] at h
    obtain ⟨q,h1,h2⟩:=ih h
    exact ⟨q,apC _ h1,h2⟩
  | some e=>
   unfold uK at h
   cases hb:(Nat.beq f g && Nat.beq d e) with
   | true=>rw [hb] at h; simp only [cond_true,apd] at h; exact ⟨_,apK,h⟩
   | false=>
    rw [hb] at h
    obtain ⟨q,h1,h2⟩:=ih h
    exact ⟨q,apC _ h1,h2⟩
theorem Uv {l m:List AV} {vs us:List Value} (h1:fG cx σ α F w l vs) (h2:fG cx σ α F w m us):fG cx σ α F w (l++m) (vs++us):=by
 induction l generalizing vs with
 | nil=>cases vs with
  | nil=>exact h2
  | cons _ _=>exact h1.elim
 | cons x l ih=>cases vs with
  | nil=>exact h1.elim
  | cons v vs=>exact ⟨h1.1,ih h1.2⟩
theorem NQ:∀{cs:List (TypeId×Dat×List Tag)} {vs:List Value},kK cx σ α F w cs vs→fG cx σ α F w (cs.map fun q=>.je q.1 q.2.1.1 q.2.1.2 q.2.2) vs
 | [],[],_=>trivial
 | _ :: _,_ :: _,h=>⟨h.1,NQ h.2⟩
 | [],_ :: _,h=>h.elim
 | _ :: _,[],h=>h.elim
theorem QY (hC:vG P n hi) (H:Rel cx σ α F a w) {c:Call} (ho:o.op=.call c) (hdn:∀d,o.dst=some d→d<cx.nt) (h:(Vh hi n o.dst c fun ws=>(.ret ws:Prog (List Wr))).ends σ ws):adn P cx o a w (aC ws σ):=by
 intro K Q hK
 unfold Vh at h
 split at h
 ·rename_i f alS
  obtain ⟨fv,h1,h2,h⟩:=bR H h
  cases fv with
  | fn f' caps=>
   simp only at h
   obtain ⟨us,e1,e2⟩:=h1
   obtain ⟨l,h3,h4,h⟩:=jm H h
   cases hf:uK f' (o.dst.getD 0) hi.calls with
   | none=>rw [hf] at h; exact h.elim
   | some E=>
    rw [hf] at h
    simp only at h
    rcases aB h with ⟨hb,h9⟩ | ⟨_,h⟩
    ·have hEf:E.f=f':=aph hb
     clear h
     subst hEf
     obtain ⟨q,hq,rfl⟩:=PD hf
     have hcall:=Wp (hC q hq) H (Uv h3 (NQ e2)) (fun v hv=>by
      rcases apm.1 hv with h | h
      ·exact h4 v h
      ·obtain ⟨cc,hcc,rfl⟩:=apO.1 h
       exact h2 cc hcc) hdn h9
     have hargs:(c.args.toList.map a.eval++us).toArray=c.args.map a.eval++us.toArray:=by
      apply Array.ext'
      simp
     rw [hargs] at hcall
     have hrun:(execOp a.eval o).run P w=(callFunc q.2.2.f (c.args.map a.eval++us.toArray)).run P w:=by
      simp only [execOp,ho,resolve,alS,e1,Deferred.ofValue,apD,apI,apw,invoke,Array.empty_append]
     unfold Oper.wp
     rw [hrun]
     rcases hcall with ⟨g1,g2⟩ | ⟨v,w',g1,α',F',g2⟩
     ·rw [g1]
      refine g2.mono fun e w' he=>?_
      obtain ⟨v,rfl,α',F',hR⟩:=he
      exact hK _ _ _ _ hR
     ·rw [g1]
      exact hK _ _ _ _ g2
    ·exact h.elim
  | _=>exact h.elim
 ·exact h.elim
theorem Sz (hT:fu P T) (hSt:M8 P T) (hC:vG P n hi) (H:Rel cx σ α F a w) (hnt:hi.nt=cx.nt) (h:(I9 T hi n o fun ws=>(.ret ws:Prog (List Wr))).ends σ ws):adn P cx o a w (aC ws σ):=by
 unfold I9 at h
 cases hd:o.dst with
 | none=>
  rw [hd] at h
  simp only at h
  unfold adg at h
  split at h
  ·rename_i t x v ho
   exact (TV hT H hd ho h).toW
  ·rename_i c ho
   split at h
   ·rename_i hcb
    obtain ⟨vs,h1,h2,h⟩:=jm H h
    split at h
    ·split at h
     ·rename_i ht0
      obtain ⟨v,w',α',r1,r2⟩:=WE hT H ho hcb h1 ht0 h
      refine (show sM P cx o a w (aC ws σ) from ⟨v,w',α',[], .inl r1, ?_⟩).toW
      rw [hd]
      exact r2
     ·exact h.elim
    ·exact h.elim
   ·exact QY hC H ho (by rw [hd]; simp) (by rw [hd]; exact h)
  ·exact h.elim
 | some d=>
  rw [hd] at h
  simp only at h
  rcases aB h with ⟨hb,h⟩ | ⟨_,h⟩
  ·have hdn:d<cx.nt:=by
    rw [←hnt]
    unfold Nat.blt at hb
    exact Nat.le_of_ble_eq_true hb
   rcases aB h with ⟨_,h⟩ | ⟨_,h⟩
   ·exact (Py hT H hd hdn h).toW
   rcases aB h with ⟨_,h⟩ | ⟨_,h⟩
   ·exact (Rc hT H hd hdn h).toW
   unfold adf at h
   cases ho:o.op with
   | move x=>rw [ho] at h; exact (YL H hd hdn ho h).toW
   | assign x=>rw [ho] at h; exact (TT (L:=VB hi d) H hd hdn ho h).toW
   | pick c x y=>rw [ho] at h; exact (YM H hd hdn ho h).toW
   | alloc t=>rw [ho] at h; exact (WA hT H hd hdn ho h).toW
   | box t x=>rw [ho] at h; exact (abr H hd hdn ho h).toW
   | build t ps=>rw [ho] at h; exact (WC hT H hd hdn h ho).toW
   | buildSlice t l ps=>rw [ho] at h; exact (K8 (L:=VB hi d) hT H hd hdn h ho).toW
   | load t x=>rw [ho] at h; exact (YK hT H hd hdn ho h).toW
   | nilCheck x=>rw [ho] at h; exact (Px H hd hdn ho h).toW
   | binOp op t x y t2=>rw [ho] at h; exact (WB hT hSt H hd hdn ho h).toW
   | unOp op t x=>rw [ho] at h; exact (YN H hd hdn ho h).toW
   | convert s t x=>rw [ho] at h; exact (Q8 hT H hd hdn ho h).toW
   | field t x n=>rw [ho] at h; exact (WH hT H hd hdn ho h).toW
   | fieldAddr t x n=>rw [ho] at h; exact (Nh hT H hd hdn ho h).toW
   | indexAddr t x y=>rw [ho] at h; exact (Ni hT H hd hdn ho h).toW
   | index t x y=>rw [ho] at h; exact (WI hT H hd hdn ho h).toW
   | extract x i=>rw [ho] at h; exact (Q9 H hd hdn ho h).toW
   | makeSlice t x y=>rw [ho] at h; exact (Nj hT H hd hdn h ho).toW
   | makeFunc f first caps=>
    rw [ho] at h
    cases f with
    | func f=>exact (Pw H hd hdn ho h).toW
    | _=>exact h.elim
   | slice t x lo hi2 mx=>rw [ho] at h; exact (WJ hT H hd hdn h ho).toW
   | call c=>
    rw [ho] at h
    simp only at h
    split at h
    ·rename_i hcb; exact (abt hT H hd hdn ho hcb h).toW
    ·rename_i hcb; exact (TS hT H hd hdn ho hcb h).toW
    ·rename_i hcb; exact (K9 (mx:=false) H hd hdn ho hcb h).toW
    ·rename_i hcb; exact (K9 (mx:=true) H hd hdn ho hcb h).toW
    ·exact QY hC H ho (by rw [hd]; intro d2 e; simp only [apd] at e; subst e; exact hdn) (by rw [hd]; exact h)
    ·exact h.elim
   | _=>rw [ho] at h; exact h.elim
  ·exact h.elim
end
end
section
open Go
variable [Fr]
def Prog.qR {α:Type}:Prog α→St→List Loc→α→List Loc→Prop
 | .ret a,_,l,x,l'=>x=a∧l'=l
 | .fail,_,_,_,_=>False
 | .slot n k,σ,l,x,l'=>(k (σ.slots n)).qR σ (.s n :: l) x l'
 | .root r k,σ,l,x,l'=>(k (σ.roots r)).qR σ (.r r :: l) x l'
 | .xA c _ k,σ,l,x,l'=>c∧k.qR σ l x l'
 | .br c t e,σ,l,x,l'=>(c=true∧t.qR σ l x l')∨(c=false∧e.qR σ l x l')
 | .opt _ o k,σ,l,x,l'=>∃b,o=some b∧(k b).qR σ l x l'
theorem OA {α R:Type} (p:Prog α) {σ:St} {l:List Loc} {K:α→List Loc→Option R} {r:R} (h:p.JQ σ l K=some r):∃x l',p.qR σ l x l'∧K x l'=some r:=by
 induction p generalizing l with
 | ret a=>exact ⟨a,l,⟨rfl,rfl⟩,h⟩
 | fail=>simp [Prog.JQ] at h
 | slot n k ih=>exact ih _ h
 | root n k ih=>exact ih _ h
 | xA c d k ih=>
  simp only [Prog.JQ] at h
  split at h
  ·rename_i hc
   obtain ⟨x,l',h1,h2⟩:=ih h
   exact ⟨x,l',⟨hc,h1⟩,h2⟩
  ·simp at h
 | br c t e ZB ZA=>
  simp only [Prog.JQ] at h
  cases c with
  | true=>
   simp only [if_true] at h
   obtain ⟨x,l',h1,h2⟩:=ZB h
   exact ⟨x,l', .inl ⟨rfl,h1⟩,h2⟩
  | false=>
   simp only [apg,if_false] at h
   obtain ⟨x,l',h1,h2⟩:=ZA h
   exact ⟨x,l', .inr ⟨rfl,h1⟩,h2⟩
 | opt β o k ih=>
  simp only [Prog.JQ] at h
  cases o with
  | none=>simp at h
  | some b=>
   simp only [ape] at h
   obtain ⟨x,l',h1,h2⟩:=ih b h
   exact ⟨x,l',⟨b,rfl,h1⟩,h2⟩
theorem Le {α:Type} (p:Prog α) {σ:St} {l l':List Loc} {x:α} (h:p.qR σ l x l'):p.ends σ x:=by
 induction p generalizing l with
 | ret a=>exact h.1
 | fail=>exact h.elim
 | slot n k ih=>exact ih _ h
 | root n k ih=>exact ih _ h
 | xA c d k ih=>exact ⟨h.1,ih h.2⟩
 | br c t e ZB ZA=>exact h.imp (fun h=>⟨h.1,ZB h.2⟩) (fun h=>⟨h.1,ZA h.2⟩)
 | opt β o k ih=>obtain ⟨b,h1,h2⟩:=h; exact ⟨b,h1,ih b h2⟩
theorem Lf {α:Type} (p:Prog α) {σ:St} {x:α} (h:p.ends σ x):∀l,∃l',p.qR σ l x l':=by
 induction p with
 | ret a=>exact fun l=>⟨l,h,rfl⟩
 | fail=>exact h.elim
 | slot n k ih=>exact fun l=>ih _ h _
 | root n k ih=>exact fun l=>ih _ h _
 | xA c d k ih=>exact fun l=>(ih h.2 l).imp fun _ h'=>⟨h.1,h'⟩
 | br c t e ZB ZA=>
  intro l
  rcases h with h | h
  ·exact (ZB h.2 l).imp fun _ h'=>.inl ⟨h.1,h'⟩
  ·exact (ZA h.2 l).imp fun _ h'=>.inr ⟨h.1,h'⟩
 | opt β o k ih=>obtain ⟨b,h1,h2⟩:=h; exact fun l=>(ih b h2 l).imp fun _ h'=>⟨b,h1,h'⟩
theorem HV {α:Type} (p:Prog α) {σ:St} {l l':List Loc} {x:α} (h:p.qR σ l x l'):∀y∈l,y∈l':=by
 induction p generalizing l with
 | ret a=>rw [h.2]; exact fun _ h=>h
 | fail=>exact h.elim
 | slot n k ih=>exact fun y hy=>ih _ h y (by simp [hy])
 | root n k ih=>exact fun y hy=>ih _ h y (by simp [hy])
 | xA c d k ih=>exact ih h.2
 | br c t e ZB ZA=>rcases h with h | h; exact ZB h.2; exact ZA h.2
 | opt β o k ih=>obtain ⟨b,h1,h2⟩:=h; exact ih b h2
def agree (σ τ:St):Loc→Prop
 | .s n=>τ.slots n=σ.slots n
 | .r n=>τ.roots n=σ.roots n
theorem IU {α:Type} (p:Prog α) {σ τ:St} {l l':List Loc} {x:α} (h:p.qR σ l x l') (ha:∀y∈l',agree σ τ y):p.qR τ l x l':=by
 induction p generalizing l with
 | ret a=>exact h
 | fail=>exact h.elim
 | slot n k ih=>
  have h':(k (σ.slots n)).qR σ (.s n :: l) x l':=h
  have:=ha (.s n) (HV _ h' _ apK)
  show (k (τ.slots n)).qR τ _ _ _
  rw [show τ.slots n=σ.slots n from this]
  exact ih _ h
 | root n k ih=>
  have h':(k (σ.roots n)).qR σ (.r n :: l) x l':=h
  have:=ha (.r n) (HV _ h' _ apK)
  show (k (τ.roots n)).qR τ _ _ _
  rw [show τ.roots n=σ.roots n from this]
  exact ih _ h
 | xA c d k ih=>exact ⟨h.1,ih h.2⟩
 | br c t e ZB ZA=>exact h.imp (fun h=>⟨h.1,ZB h.2⟩) (fun h=>⟨h.1,ZA h.2⟩)
 | opt β o k ih=>obtain ⟨b,h1,h2⟩:=h; exact ⟨b,h1,ih b h2⟩
theorem IZ {a b:Loc}:a.beq b=true↔a=b:=by
 cases a <;> cases b <;> simp [Loc.beq]
theorem R3 {x:Loc} {l:List Loc}:Xx x l=true↔x∈l:=by
 induction l with
 | nil=>simp [Xx]
 | cons y l ih=>
  simp only [Xx,apq]
  cases h:x.beq y with
  | true=>simp [IZ.1 h]
  | false=>
   have:x≠y:=fun e=>by rw [e] at h; rw [(IZ (a:=y) (b:=y)).2 rfl] at h; simp at h
   simp [this,ih]
theorem KJ {a b:List Loc}:Pd a b=true↔∀x∈a,x∉b:=by
 unfold Pd
 rw [apt]
 refine ⟨fun h x hx hb=>?_,fun h x hx=>?_⟩
 ·have:=h x hx
  rw [R3.2 hb] at this
  simp at this
 ·cases hm:Xx x b with
  | false=>rfl
  | true=>exact absurd (R3.1 hm) (h x hx)
theorem Hw (wr:Wr) (σ:St) {y:Loc} (h:y≠wr.loc):agree σ (wr.app σ) y:=by
 cases wr with
 | s n a=>
  cases y with
  | s m=>exact upd_ne _ _ (fun e=>h (by rw [e]; rfl))
  | r m=>rfl
 | r n o=>
  cases o with
  | none=>
   cases y with
   | s m=>rfl
   | r m=>exact upd_ne _ _ (fun e=>h (by rw [e]; rfl))
  | some R=>
   cases y with
   | s m=>rfl
   | r m=>exact upd_ne _ _ (fun e=>h (by rw [e]; rfl))
theorem QM {σ τ ρ:St} {y:Loc} (h1:agree σ τ y) (h2:agree τ ρ y):agree σ ρ y:=by
 cases y with
 | s n=>exact h2.trans h1
 | r n=>exact h2.trans h1
theorem pY:∀(ws:List Wr) (σ:St) {y:Loc},y∉ws.map Wr.loc→agree σ (aC ws σ) y
 | [],σ,y,_=>by cases y <;> rfl
 | w :: ws,σ,y,h=>by
  simp only [List.map_cons,apq,not_or] at h
  exact QM (Hw w σ h.1) (pY ws _ h.2)
theorem St.ext' {σ τ:St} (h:∀y,agree σ τ y):τ=σ:=by
 obtain ⟨s,r⟩:=σ
 obtain ⟨s',r'⟩:=τ
 have h1:s'=s:=funext fun n=>h (.s n)
 have h2:r'=r:=funext fun n=>h (.r n)
 subst h1
 subst h2
 rfl
theorem QS (w:Wr) (σ τ:St):agree (w.app σ) (w.app τ) w.loc:=by
 cases w with
 | s n a=>show upd τ.slots n a n=upd σ.slots n a n; rw [upd_same,upd_same]
 | r n o=>cases o <;> (show upd _ n _ n=upd _ n _ n; rw [upd_same,upd_same])
theorem Yv (w:Wr) {σ τ:St} {y:Loc} (h:agree σ τ y):agree (w.app σ) (w.app τ) y:=by
 by_cases e:y=w.loc
 ·subst e; exact QS w σ τ
 ·have h1:=Hw w σ e
  have h2:=Hw w τ e
  cases y with
  | s n=>exact h2.trans (h.trans h1.symm)
  | r n=>exact h2.trans (h.trans h1.symm)
theorem BU:∀(ws:List Wr) {σ τ:St} {y:Loc},agree σ τ y→agree (aC ws σ) (aC ws τ) y
 | [],_,_,_,h=>h
 | w :: ws,_,_,_,h=>BU ws (Yv w h)
theorem NH:∀(ws:List Wr) {σ τ:St} {y:Loc},y∈ws.map Wr.loc→agree (aC ws σ) (aC ws τ) y
 | [],_,_,_,h=>by simp at h
 | w :: ws,σ,τ,y,h=>by
  simp only [List.map_cons,apq] at h
  by_cases e:y∈ws.map Wr.loc
  ·exact NH ws e
  ·have e2:y=w.loc:=h.resolve_right e
   subst e2
   exact BU ws (QS w σ τ)
theorem QN {u v:List Wr} (h:∀x∈u.map Wr.loc,x∉v.map Wr.loc) (σ:St):aC u (aC v σ)=aC v (aC u σ):=by
 refine St.ext' fun y=>?_
 by_cases hu:y∈u.map Wr.loc
 ·have h1:agree (aC u σ) (aC v (aC u σ)) y:=pY v _ (h y hu)
  have h2:agree (aC u σ) (aC u (aC v σ)) y:=NH u hu
  cases y with
  | s n=>exact h2.trans h1.symm
  | r n=>exact h2.trans h1.symm
 ·have h1:agree (aC v σ) (aC u (aC v σ)) y:=pY u _ hu
  have h2:agree (aC v σ) (aC v (aC u σ)) y:=by
   refine BU v ?_
   have:=pY u σ hu
   cases y with
   | s n=>exact this
   | r n=>exact this
  cases y with
  | s n=>exact h1.trans h2.symm
  | r n=>exact h1.trans h2.symm
section
variable {P:Program} {T:ji} {hi:Hint} {n:Nat} {ops:Array Oper}
inductive O1 (T:ji) (hi:Hint) (n:Nat) (ops:Array Oper) (o:Oper) (σ:St):List Wr→List Loc→Prop
 | plain (ws:List Wr) (rd:List Loc) (hg:guardOf ops o=none) (h:(I9 T hi n o fun ws=>(.ret ws:Prog (List Wr))).qR σ [] ws rd):O1 T hi n ops o σ ws rd
 | done (s:Nat) (want:Bool) (tg:List Tag) (ws:List Wr) (rd:List Loc) (hg:guardOf ops o=some (some s,want)) (hs:σ.slots s=.one (.val .bool want tg)) (h:(I9 T hi n o fun ws=>(.ret ws:Prog (List Wr))).qR σ [.s s] ws rd):O1 T hi n ops o σ ws rd
 | skip (s:Nat) (want:Bool) (hg:guardOf ops o=some (some s,want)) (hs:(∃tg,σ.slots s=.one (.val .bool (!want) tg))∨σ.slots s=.J7 []) (hd:La hi o=true):O1 T hi n ops o σ (I8 o) [.s s]
theorem O1.agree {o:Oper} {σ τ:St} {ws:List Wr} {rd:List Loc} (h:O1 T hi n ops o σ ws rd) (ha:∀y∈rd,Ow.agree σ τ y):O1 T hi n ops o τ ws rd:=by
 cases h with
 | plain _ _ hg h=>exact .plain ws rd hg (IU _ h ha)
 | done s want tg _ _ hg hs h=>
  have:=ha (.s s) (HV _ h _ apK)
  exact .done s want tg ws rd hg (by rw [show τ.slots s=σ.slots s from this]; exact hs) (IU _ h ha)
 | skip s want hg hs hd=>
  have:=ha (.s s) (by simp)
  exact .skip s want hg (by rw [show τ.slots s=σ.slots s from this]; exact hs) hd
theorem Oz {σ:St} {s:Nat} {b:Bool} {tg:List Tag} (h:σ.slots s=.one (.val .bool b tg)):refine σ s b tg=σ:=by
 unfold refine
 have:upd σ.slots s (.one (.val .bool b tg))=σ.slots:=by
  funext m
  by_cases e:m=s
  ·subst e; rw [upd_same,h]
  ·rw [upd_ne _ _ e]
 rw [this]
theorem LA {R:Type} {o:Oper} {σ:St} {go skip:List Loc→St→Option R} {r:R} (h:guarded σ ops o go skip=some r) :
  (guardOf ops o=none∧go [] σ=some r)∨(∃s want tg,guardOf ops o=some (some s,want)∧σ.slots s=.one (.val .bool want tg)∧go [.s s] σ=some r)∨
  (∃s want,guardOf ops o=some (some s,want)∧((∃tg,σ.slots s=.one (.val .bool (!want) tg))∨σ.slots s=.J7 [])∧skip [.s s] σ=some r):=by
 unfold guarded at h
 cases hg:guardOf ops o with
 | none=>rw [hg] at h; exact .inl ⟨rfl,h⟩
 | some q=>
  obtain ⟨os,want⟩:=q
  rw [hg] at h
  cases os with
  | none=>simp at h
  | some s=>
   simp only at h
   refine .inr ?_
   split at h
   ·rename_i b tg hs
    cases b with
    | true=>
     simp only [if_true] at h
     rw [Oz hs] at h
     cases want with
     | true=>exact .inl ⟨s,true,tg,rfl,hs,h⟩
     | false=>exact .inr ⟨s,false,rfl, .inl ⟨tg,hs⟩,h⟩
    | false=>
     simp only [apg,if_false] at h
     rw [Oz hs] at h
     cases want with
     | true=>exact .inr ⟨s,true,rfl, .inl ⟨tg,hs⟩,h⟩
     | false=>exact .inl ⟨s,false,tg,rfl,hs,h⟩
   ·rename_i hs
    exact .inr ⟨s,want,rfl, .inr hs,h⟩
   ·simp at h
variable {cx:Cx} {σ:St} {α:dK} {F:List Nat} {a:Act} {w:World}
theorem Rel.skipped (H:Rel cx σ α F a w) {o:Oper} (hnt:hi.nt=cx.nt) (hd:La hi o=true):Rel cx (aC (I8 o) σ) α F (a.put o.dst undef) w:=by
 unfold I8 La at *
 cases ho:o.dst with
 | none=>exact H
 | some d=>
  rw [ho] at hd
  have hdn:d<cx.nt:=by
   rw [←hnt]
   have:Nat.blt d hi.nt=true:=hd
   unfold Nat.blt at this
   exact Nat.le_of_ble_eq_true this
  exact H.put hdn (fun a ha=>by simp at ha) ⟨[],rfl,trivial⟩
theorem J2 (hT:fu P T) (hSt:M8 P T) (hC:vG P n hi) (H:Rel cx σ α F a w) (hnt:hi.nt=cx.nt) {i:Nat} {o:Oper} (ho:ops[i]?=some o) {ws:List Wr} {rd:List Loc} (h:O1 T hi n ops o σ ws rd)
  {K:Act→World→Prop} {Q:Exit→Act→World→Prop} (hK:∀α' F' a' w',Rel cx (aC ws σ) α' F' a' w'→K a' w'):wpOp P ops Q i K a w:=by
 unfold wpOp
 simp only [ho]
 have Zy:∀{s:Nat} {want:Bool},guardOf ops o=some (some s,want)→∃g,o.guard=some (g,want)∧(ops[g]?).bind (·.dst)=some s:=by
  intro s want hg
  unfold guardOf at hg
  cases hgd:o.guard with
  | none=>rw [hgd] at hg; simp at hg
  | some q=>
   obtain ⟨g,wt⟩:=q
   rw [hgd] at hg
   simp only [apd,apo] at hg
   exact ⟨g,by rw [hg.2],hg.1⟩
 have ah9:∀{s:Nat} {v:Value},a.tmps.getD s undef=v→(∃b,v=.bool b)→a.tmps[s]?=some v:=by
  rintro s v h ⟨b,rfl⟩
  rw [Array.getD_eq_getD_getElem?] at h
  cases hs:a.tmps[s]? with
  | none=>rw [hs] at h; simp [undef] at h
  | some u=>rw [hs] at h; simpa using h
 cases h with
 | plain _ _ hg h=>
  have hw:Region.wanted o (yielded ops a.tmps)=true:=by
   unfold Region.wanted
   unfold guardOf at hg
   cases hgd:o.guard with
   | none=>rfl
   | some q=>rw [hgd] at hg; simp at hg
  rw [if_pos hw]
  exact .inl (Sz hT hSt hC H hnt (Le _ h) K Q hK)
 | done s want tg _ _ hg hs h=>
  have hw:Region.wanted o (yielded ops a.tmps)=true:=by
   obtain ⟨g,h1,h2⟩:=Zy hg
   unfold Region.wanted
   rw [h1]
   have hb:=H.slots s
   rw [hs] at hb
   have:=zU (show bI cx σ α F w (.val .bool want tg) _ from hb)
   have h3:=ah9 this ⟨_,rfl⟩
   show (yielded ops a.tmps g == some want)=true
   unfold yielded
   rw [h2]
   simp only [ape,h3]
   simp
  rw [if_pos hw]
  exact .inl (Sz hT hSt hC H hnt (Le _ h) K Q hK)
 | skip s want hg hs hd=>
  have hw:Region.wanted o (yielded ops a.tmps)=false:=by
   obtain ⟨g,h1,h2⟩:=Zy hg
   unfold Region.wanted
   rw [h1]
   have hb:=H.slots s
   show (yielded ops a.tmps g == some want)=false
   unfold yielded
   rw [h2]
   rcases hs with ⟨tg,hs⟩ | hs
   ·rw [hs] at hb
    have:=zU (show bI cx σ α F w (.val .bool (!want) tg) _ from hb)
    have h3:=ah9 this ⟨_,rfl⟩
    simp only [ape,h3]
    cases want <;> rfl
   ·rw [hs] at hb
    obtain ⟨vs,h3,h4⟩:=hb
    cases vs with
    | cons _ _=>exact h4.elim
    | nil=>
     rw [Array.getD_eq_getD_getElem?] at h3
     simp only [ape]
     cases hs2:a.tmps[s]? with
     | none=>rfl
     | some u=>
      rw [hs2] at h3
      simp only [Option.getD_some] at h3
      subst h3
      rfl
  rw [if_neg (by rw [hw]; simp)]
  exact hK _ _ _ _ (H.skipped hnt hd)
theorem Uc (hT:fu P T) (hSt:M8 P T) (hC:vG P n hi) (hnt:hi.nt=cx.nt) {R:Type} {K:St→Option R} {r:R} {Q:Exit→Act→World→Prop} (hQ:∀σ' α' F' a' w',K σ'=some r→Rel cx σ' α' F' a' w'→Q .normal a' w') :
  ∀(l:List Oper) (i:Nat) {σ:St} {α:dK} {F:List Nat} {a:Act} {w:World},ops.toList.drop i=l→Fz T hi n ops l σ K=some r→Rel cx σ α F a w→wpOps P ops Q (List.range' i l.length) a w:=by
 intro l
 induction l with
 | nil=>intro i σ α F a w _ h H; exact hQ _ _ _ _ _ h H
 | cons o l ih=>
  intro i σ α F a w hl h H
  have hoi:ops[i]?=some o:=by
   have:=congrArg (fun l=>l[0]?) hl
   simpa using this
  have hl':ops.toList.drop (i+1)=l:=by
   have:=congrArg List.tail hl
   simpa using this
  simp only [apB,List.range'_succ]
  rw [wpOps_cons]
  unfold Fz at h
  rcases LA h with ⟨hg,h⟩ | ⟨s,want,tg,hg,hs,h⟩ | ⟨s,want,hg,hs,h⟩
  ·obtain ⟨ws,h1,h2⟩:=xq _ h
   obtain ⟨rd,h3⟩:∃rd,(I9 T hi n o fun ws=>(.ret ws:Prog (List Wr))).qR σ [] ws rd:=Lf _ h1 []
   exact J2 hT hSt hC H hnt hoi (.plain ws rd hg h3) (fun α' F' a' w' H'=>ih (i+1) hl' h2 H')
  ·obtain ⟨ws,h1,h2⟩:=xq _ h
   obtain ⟨rd,h3⟩:∃rd,(I9 T hi n o fun ws=>(.ret ws:Prog (List Wr))).qR σ [.s s] ws rd:=Lf _ h1 _
   exact J2 hT hSt hC H hnt hoi (.done s want tg ws rd hg hs h3) (fun α' F' a' w' H'=>ih (i+1) hl' h2 H')
  ·cases hd:La hi o with
   | false=>rw [hd] at h; simp at h
   | true=>
    rw [hd] at h
    exact J2 hT hSt hC H hnt hoi (.skip s want hg hs hd) (fun α' F' a' w' H'=>ih (i+1) hl' h H')
end
end
section
open Go
variable [Fr]
section
variable {P:Program} {T:ji} {hi:Hint} {n:Nat} {ops:Array Oper} {cx:Cx} {σ:St} {α:dK} {F:List Nat} {a:Act} {w:World}
structure Ev where
 i:Nat
 ws:List Wr
 rd:List Loc
def Ev.wr (e:Ev):List Loc:=e.ws.map Wr.loc
def Bef (ops:Array Oper) (j i:Nat):Prop:=leads ops 7 j i=true
theorem RN {ops:Array Oper}:∀{f:Nat} {j i:Nat},leads ops f j i=true→leads ops (f+1) j i=true
 | 0,_,_,h=>by simp [leads] at h
 | f+1,j,i,h=>by
  unfold leads at h ⊢
  simp only [Bool.or_eq_true,List.any_eq_true,apj] at h ⊢
  rcases h with h | ⟨b,hb,h1,h2⟩
  ·exact .inl h
  ·exact .inr ⟨b,hb,h1,RN h2⟩
theorem FM {ops:Array Oper} {L:Nat→Prop} (hcl:∀b,L b→∀c∈binders ops b,L c):∀{f:Nat} {j i:Nat},leads ops f j i=true→(∀c∈binders ops i,L c)→L j
 | 0,_,_,h,_=>by simp [leads] at h
 | f+1,j,i,h,hi=>by
  unfold leads at h
  simp only [Bool.or_eq_true,List.any_eq_true,apj] at h
  rcases h with h | ⟨b,hb,_,h2⟩
  ·exact hi j (aL.1 h)
  ·exact FM hcl h2 (hcl b (hi b hb))
def QB (e e':Ev):Prop:=(∀x∈e.wr,x∉e'.rd++e'.wr)∧∀x∈e.rd,x∉e'.wr
def IJ (T:ji) (hi:Hint) (n:Nat) (ops:Array Oper):List Ev→St→St→Prop
 | [],σ,τ=>τ=σ
 | e :: l,σ,τ=>(∃o,ops[e.i]?=some o∧O1 T hi n ops o σ e.ws e.rd)∧IJ T hi n ops l (aC e.ws σ) τ
def V6 (ops:Array Oper):List Ev→Prop
 | []=>True
 | e :: l=>(∀e'∈l,Bef ops e.i e'.i∨QB e e')∧V6 ops l
theorem TL {e e':Ev} {l:List Ev} {τ:St} (hi':QB e e') (h:IJ T hi n ops (e :: e' :: l) σ τ):IJ T hi n ops (e' :: e :: l) σ τ:=by
 obtain ⟨⟨o,ho,h1⟩,⟨o',ho',h2⟩,h3⟩:=h
 have ha:∀y∈e'.rd,Ow.agree (aC e.ws σ) σ y:=by
  intro y hy
  have:=pY e.ws σ (y:=y) (fun hm=>hi'.1 y hm (api _ hy))
  cases y with
  | s n=>exact this.symm
  | r n=>exact this.symm
 have hb:∀y∈e.rd,Ow.agree σ (aC e'.ws σ) y:=fun y hy=>pY e'.ws σ (hi'.2 y hy)
 refine ⟨⟨o',ho',h2.agree ha⟩,⟨o,ho,h1.agree hb⟩, ?_⟩
 rw [QN (u:=e.ws) (v:=e'.ws) (fun x hx hx'=>hi'.1 x hx (apf _ hx'))]
 exact h3
theorem Q5 {e:Ev} {l:List Ev}:∀{pre:List Ev} {σ τ:St},(∀x∈pre,QB x e)→IJ T hi n ops (pre++e :: l) σ τ→IJ T hi n ops (e :: (pre++l)) σ τ:=by
 intro pre
 induction pre with
 | nil=>intro σ τ _ h; exact h
 | cons x pre ih=>
  intro σ τ hx h
  refine TL (hx x (by simp)) ?_
  obtain ⟨h1,h2⟩:=h
  exact ⟨h1,ih (fun y hy=>hx y (by simp [hy])) h2⟩
theorem XD {e:Ev} {l:List Ev}:∀{pre:List Ev},V6 ops (pre++e :: l)→V6 ops (pre++l)∧∀x∈pre,Bef ops x.i e.i∨QB x e:=by
 intro pre
 induction pre with
 | nil=>intro h; exact ⟨h.2,by simp⟩
 | cons x pre ih=>
  intro h
  obtain ⟨g1,g2⟩:=ih h.2
  refine ⟨⟨fun e' he'=>h.1 e' ?_,g1⟩,fun y hy=>?_⟩
  ·rcases apm.1 he' with h | h
   ·exact api _ h
   ·exact apf _ (apC _ h)
  ·rcases apq.1 hy with h' | h'
   ·subst h'; exact h.1 e (by simp)
   ·exact g2 y h'
theorem TY {e:Eff} {l:List Eff} (h:IQ ops e l=true):(∀b∈binders ops e.i,b<e.i)∧∀b∈l,Bef ops b.i e.i∨((∀x∈b.wr,x∉e.rd++e.wr)∧∀x∈b.rd,x∉e.wr):=by
 unfold IQ at h
 simp only [apj,apt] at h
 refine ⟨fun b hb=>?_,fun b hb=>?_⟩
 ·have:=h.1 b hb
  unfold Nat.blt at this
  exact Nat.le_of_ble_eq_true this
 ·have:=h.2 b hb
  rw [Bool.or_eq_true,Bool.or_eq_true,apj] at this
  rcases this with h1 | ⟨h1,h2⟩ | h1
  ·exact .inl (by unfold Bef leads; rw [h1]; rfl)
  ·exact .inr ⟨KJ.1 h1,KJ.1 h2⟩
  ·exact .inl (RN h1)
theorem Rl {R:Type} {K:St→Option R} {r:R}:∀(l:List Oper) (i:Nat) (es:List Eff) {σ:St},ops.toList.drop i=l→Li T hi n ops l i es σ K=some r→
  ∃(evs:List Ev) (τ:St),K τ=some r∧IJ T hi n ops evs σ τ∧V6 ops evs∧evs.map (·.i)=List.range' i l.length∧(∀e∈evs,∀b∈binders ops e.i,b<e.i)∧
   ∀e∈evs,∀b∈es,Bef ops b.i e.i∨((∀x∈b.wr,x∉e.rd++e.wr)∧∀x∈b.rd,x∉e.wr):=by
 intro l
 induction l with
 | nil=>intro i es σ _ h; exact ⟨[],σ,h,rfl,trivial,rfl,by simp,by simp⟩
 | cons o l ih=>
  intro i es σ hl h
  have hoi:ops[i]?=some o:=by
   have:=congrArg (fun l=>l[0]?) hl
   simpa using this
  have hl':ops.toList.drop (i+1)=l:=by
   have:=congrArg List.tail hl
   simpa using this
  have step:∀{ws:List Wr} {rd:List Loc},O1 T hi n ops o σ ws rd→IQ ops ⟨i,rd,ws.map Wr.loc⟩ es=true→Li T hi n ops l (i+1) (⟨i,rd,ws.map Wr.loc⟩ :: es) (aC ws σ) K=some r→
    ∃(evs:List Ev) (τ:St),K τ=some r∧IJ T hi n ops evs σ τ∧V6 ops evs∧evs.map (·.i)=List.range' i (l.length+1)∧(∀e∈evs,∀b∈binders ops e.i,b<e.i)∧
     ∀e∈evs,∀b∈es,Bef ops b.i e.i∨((∀x∈b.wr,x∉e.rd++e.wr)∧∀x∈b.rd,x∉e.wr):=by
   intro ws rd hab hok h
   obtain ⟨evs,τ,g1,g2,g3,g4,g5,g6⟩:=ih (i+1) _ hl' h
   obtain ⟨k1,k2⟩:=TY hok
   refine ⟨⟨i,ws,rd⟩ :: evs,τ,g1,⟨⟨o,hoi,hab⟩,g2⟩,⟨fun e' he'=>?_,g3⟩, ?_, ?_, ?_⟩
   ·exact g6 e' he' ⟨i,rd,ws.map Wr.loc⟩ (by simp)
   ·rw [List.range'_succ,List.map_cons,g4]
   ·intro e he
    rcases apq.1 he with h | h
    ·subst h; exact k1
    ·exact g5 e h
   ·intro e he b hb
    rcases apq.1 he with h | h
    ·subst h; exact k2 b hb
    ·exact g6 e h b (by simp [hb])
  simp only [apB]
  unfold Li at h
  rcases LA h with ⟨hg,h⟩ | ⟨s,want,tg,hg,hs,h⟩ | ⟨s,want,hg,hs,h⟩
  ·obtain ⟨ws,rd,h1,h2⟩:=OA _ h
   cases hok:IQ ops ⟨i,rd,ws.map Wr.loc⟩ es with
   | false=>rw [hok] at h2; simp at h2
   | true=>rw [hok] at h2; exact step (.plain ws rd hg h1) hok h2
  ·obtain ⟨ws,rd,h1,h2⟩:=OA _ h
   cases hok:IQ ops ⟨i,rd,ws.map Wr.loc⟩ es with
   | false=>rw [hok] at h2; simp at h2
   | true=>rw [hok] at h2; exact step (.done s want tg ws rd hg hs h1) hok h2
  ·cases hok:(La hi o && IQ ops ⟨i,[.s s],(I8 o).map Wr.loc⟩ es) with
   | false=>rw [hok] at h; simp at h
   | true=>
    rw [hok] at h
    rw [apj] at hok
    exact step (.skip s want hg hs hok.1) hok.2 h
theorem Wv (hT:fu P T) (hSt:M8 P T) (hC:vG P n hi) (hnt:hi.nt=cx.nt) {Q:Exit→Act→World→Prop} {τ:St} (hQ:∀α' F' a' w',Rel cx τ α' F' a' w'→Q .normal a' w') :
  ∀(m:Nat) (evs:List Ev) (listed:Array Bool) {σ:St} {α:dK} {F:List Nat} {a:Act} {w:World},evs.length=m→IJ T hi n ops evs σ τ→V6 ops evs→(evs.map (·.i)).Pairwise (· < ·)→(∀e∈evs,∀b∈binders ops e.i,b<e.i)→
   listed.size=ops.size→(∀j,j<ops.size→(listed.getD j false=false↔j∈evs.map (·.i)))→(∀e∈evs,e.i<ops.size)→(∀b,listed.getD b false=true→∀c∈binders ops b,listed.getD c false=true)→Rel cx σ α F a w→wpAny P .any ops Q m listed a w:=by
 intro m
 induction m with
 | zero=>
  intro evs listed σ α F a w hl hc _ _ _ hsz hlist _ _ H
  have:evs=[]:=List.eq_nil_of_length_eq_zero hl
  subst this
  have hc':τ=σ:=hc
  subst hc'
  refine ⟨?_,hQ _ _ _ _ H⟩
  cases hr:Region.ready .any ops listed with
  | nil=>rfl
  | cons j l=>
   have hj:j∈Region.ready .any ops listed:=by rw [hr]; simp
   obtain ⟨h0,o,ho,_⟩:=mem_ready.1 hj
   have hlt:=(Array.getElem?_eq_some_iff.1 ho).1
   have:listed.getD j false=false:=by
    have hj2:j<listed.size:=by omega
    simp [hj2] at h0 ⊢
    exact h0
   exact absurd ((hlist j hlt).1 this) (by simp)
 | succ m ih=>
  intro evs listed σ α F a w hl hc hp hsort hbind hsz hlist hlt hcl H
  refine ⟨fun hr=>?_,fun j hj=>?_⟩
  ·
   exfalso
   cases evs with
   | nil=>simp at hl
   | cons e evs=>
    obtain ⟨⟨o,ho,_⟩,_⟩:=hc
    have he:e.i∈Region.ready .any ops listed:=by
     rw [mem_ready]
     have hei:=hlt e (by simp)
     have hun:=(hlist e.i hei).2 (by simp)
     refine ⟨?_,o,ho,fun q hq hb=>?_⟩
     ·have hj2:e.i<listed.size:=by omega
      simp [hj2] at hun ⊢
      exact hun
     ·have hm:q.on∈binders ops e.i:=by
       unfold binders
       rw [ho]
       simp only [Option.getD_some,apO,apv]
       exact ⟨q,⟨Array.mem_toList_iff.2 hq,hb⟩,rfl⟩
      have hlt2:=hbind e (by simp) q.on hm
      cases hb2:listed.getD q.on false with
      | true=>rfl
      | false=>
       have:=(hlist q.on (by omega)).1 hb2
       simp only [List.map_cons,apq] at this
       rcases this with h | h
       ·omega
       ·have hlt3:e.i<q.on:=by simpa using (List.pairwise_cons.1 hsort).1 q.on h
        omega
    rw [hr] at he
    simp at he
  ·obtain ⟨h0,o,ho,hall⟩:=mem_ready.1 hj
   have hjlt:=(Array.getElem?_eq_some_iff.1 ho).1
   have hj2:j<listed.size:=by omega
   have hun:listed.getD j false=false:=by
    simp [hj2] at h0 ⊢
    exact h0
   have hjm:=(hlist j hjlt).1 hun
   obtain ⟨e,he,hej⟩:=apO.1 hjm
   obtain ⟨pre,post,hsplit⟩:=List.append_of_mem he
   subst hsplit
   subst hej
   obtain ⟨p1,p2⟩:=XD hp
   have hle:∀c∈binders ops e.i,listed.getD c false=true:=by
    intro c h
    unfold binders at h
    rw [ho] at h
    simp only [Option.getD_some,apO,apv] at h
    obtain ⟨q,⟨hq,hb⟩,hon⟩:=h
    rw [←hon]
    exact hall q (Array.mem_toList_iff.1 hq) hb
   have hpre:∀x∈pre,QB x e:=by
    intro x hx
    rcases p2 x hx with h | h
    ·exfalso
     have hl2:=FM (L:=fun b=>listed.getD b false=true) hcl h hle
     have hxi:=hlt x (by simp [hx])
     have:=(hlist x.i hxi).2 (by simp only [List.map_append,apm,apO]; exact .inl ⟨x,hx,rfl⟩)
     rw [hl2] at this
     simp at this
    ·exact h
   have hc2:=Q5 hpre hc
   obtain ⟨⟨o',ho',hab⟩,hc3⟩:=hc2
   rw [ho] at ho'
   simp only [apd] at ho'
   subst ho'
   have Zt:(pre.map (·.i)++e.i :: post.map (·.i)).Pairwise (· < ·):=by simpa using hsort
   have hsub:(pre++post).Sublist (pre++e :: post):=List.Sublist.append_left (List.sublist_cons_self _ _) _
   refine J2 hT hSt hC H hnt ho hab (fun α' F' a' w' H'=>?_)
   refine ih (pre++post) (listed.setIfInBounds e.i true) (by simp at hl ⊢; omega) hc3 p1 (hsort.sublist (hsub.map _)) (fun x hx=>hbind x (hsub.subset hx)) (by simpa using hsz) (fun k hk=>?_) (fun x hx=>hlt x (hsub.subset hx)) ?_ H'
   rotate_left
   ·intro b hb c hc4
    have hset:∀k,listed.getD k false=true→(listed.setIfInBounds e.i true).getD k false=true:=fun k hk=>by
     by_cases hke:k=e.i
     ·subst hke; simp [hj2]
     ·rw [getD_set_ne false (Ne.symm hke)]; exact hk
    by_cases hbe:b=e.i
    ·subst hbe; exact hset c (hle c hc4)
    ·rw [getD_set_ne false (Ne.symm hbe)] at hb
     exact hset c (hcl b hb c hc4)
   have hnot:e.i∉(pre++post).map (·.i):=by
    intro hm
    rw [List.map_append,apm] at hm
    rcases hm with h | h
    ·have:=(List.pairwise_append.1 Zt).2.2 e.i h e.i (by simp)
     omega
    ·have:=(List.pairwise_cons.1 (List.pairwise_append.1 Zt).2.1).1 e.i h
     omega
   by_cases hke:k=e.i
   ·subst hke
    constructor
    ·intro h
     exfalso
     simp [hj2] at h
    ·intro h; exact absurd h hnot
   ·rw [getD_set_ne false (Ne.symm hke),hlist k hk]
    simp only [List.map_append,List.map_cons,apm,apq]
    constructor
    ·rintro (h | h | h)
     ·exact .inl h
     ·exact absurd h hke
     ·exact .inr h
    ·rintro (h | h)
     ·exact .inl h
     ·exact .inr (.inr h)
theorem YR (hT:fu P T) (hSt:M8 P T) (hC:vG P n hi) (hnt:hi.nt=cx.nt) {R:Type} {K:St→Option R} {r:R} {Q:Exit→Act→World→Prop} (hQ:∀σ' α' F' a' w',K σ'=some r→Rel cx σ' α' F' a' w'→Q .normal a' w')
  (h:Li T hi n ops ops.toList 0 [] σ K=some r) (H:Rel cx σ α F a w):wpAny P .any ops Q ops.size (Array.replicate ops.size false) a w:=by
 obtain ⟨evs,τ,h1,h2,h3,h4,h5,_⟩:=Rl ops.toList 0 [] (by simp) h
 rw [Array.length_toList, ←List.range_eq_range'] at h4
 refine Wv hT hSt hC hnt (fun α' F' a' w' H'=>hQ _ _ _ _ _ h1 H') ops.size evs _ ?_ h2 h3 ?_ h5 (by simp) (fun j hj=>?_) (fun e he=>?_) (fun b hb=>?_) H
 rotate_left 4
 ·exfalso; by_cases hbs:b<ops.size <;> simp [hbs] at hb
 ·have:=congrArg List.length h4; simpa using this
 ·rw [h4]; exact List.pairwise_lt_range
 ·rw [h4]; simp [hj]
 ·have:e.i∈evs.map (·.i):=apO.2 ⟨e,he,rfl⟩
  rw [h4] at this
  exact List.mem_range.1 this
end
end
section
open Go
variable [Fr]
abbrev Te:=List (Nat×K×List TypeId×List TypeId)
structure Tf (cx:Cx) (jd:Te):Prop where
 par:∀j pi,cx.par j=some pi→(pi.kp=true∨∃q,pi.base=some q)→∃q,jc (au j) jd=some q
 ptr:∀j p ts v,cx.ptrs j p ts v→∃k l,jc (au j) jd=some (k,l)∧ts=eD p k
 ref:∀j v,cx.refs j v→∃q,jc (au j) jd=some q
theorem uI {A:Type} {b:Bool} {x:Option A} {d:A} (h:(bif b then x else none)=some d):b=true∧x=some d:=by
 cases b with
 | true=>exact ⟨rfl,h⟩
 | false=>exact absurd h (by simp)
def Qp.idl:Qp→List Nat
 | .val _ ids=>ids
 | .je _ _ ids=>ids
 | .fn _ caps=>caps.flatMap fun c=>c.2.2
 | _=>[]
def Cf (rs:List Nat) (i:Nat):Prop:=fP i=true∨i∈rs
structure D6 (σ:St) (jd:Te) (rs:List Nat) (r:Nat) (R R':Root):Prop where
 live:aR σ r R
 valid:bq σ R
 form:∃ow tg ew eh,R'={ R with own:=ow,tags:=tg,w:=[],h:=[],g:=0,ew:=ew,eh:=eh }∧(∀t∈R.k.tys,ay t ow=ay t R.own)
 tags:∀t∈R.tags,Cf rs t.1→(t.1,0)∈R'.tags
 adh:∀t∈R'.tags,t.2=0∧Cf rs t.1∧t.1≠r
 log:∀k wt ht,jc r jd=some (k,wt,ht)→R.k=k∧R'.ew=wt∧R'.eh=ht∧(∀t∈R.w,t∈wt)∧(∀t∈R.ew,t∈wt)∧(∀t∈R.h,t∈ht)∧(∀t∈R.eh,t∈ht)∧R.g=0
structure QF (σ:St) (jd:Te) (rs:List Nat) (σ':St):Prop where
 roots:∀r R',σ'.roots r=some R'→r∈rs∧fP r=false∧∃R,D6 σ jd rs r R R'
 made:∀r∈rs,∃R',σ'.roots r=some R'
 slots:∀s,σ'.slots s=.one .undef∨∃sh av d,σ.slots s=.one av∧Wx σ rs sh av=some d∧σ'.slots s=.one (mkA sh d)∧∀i∈sh.idl,Cf rs i
 jd:∀r q,jc r jd=some q→r∈rs
theorem Ed:∀{p:List (Option Nat)} {q:List Stp} {c:Cont (cZ.into 0 p).kin},idxOf p q=some c→pathOf p c=q
 | [],[],_,_=>rfl
 | [],_ :: _,_,h=>by simp [idxOf] at h
 | some n :: p,[],_,h=>by simp [idxOf] at h
 | some n :: p, .idx i :: q,_,h=>by simp [idxOf] at h
 | some n :: p, .gL m :: q,c,h=>by
  have h':(bif Nat.beq n m then idxOf p q else none)=some c:=h
  cases hb:Nat.beq n m with
  | false=>rw [hb] at h'; simp at h'
  | true=>
   rw [hb] at h'
   have:=aph hb
   subst this
   show Stp.gL n :: pathOf p c=_
   rw [Ed (p:=p) (q:=q) (c:=c) h']
 | none :: p,[],_,h=>by simp [idxOf] at h
 | none :: p, .gL i :: q,_,h=>by simp [idxOf] at h
 | none :: p, .idx i :: q,c,h=>by
  have h':(match idxOf p q with
   | some d=>some ((i,d):Cont (cZ.into 0 (none :: p)).kin)
   | none=>none)=some c:=h
  cases hq:idxOf p q with
  | none=>rw [hq] at h'; simp at h'
  | some d=>
   rw [hq] at h'
   have h2:((i,d):Cont (cZ.into 0 (none :: p)).kin)=c:=apN h'
   rw [←h2]
   show Stp.idx i :: pathOf p d=_
   rw [Ed hq]
theorem vW {rs:List Nat}:∀{l:List Tag} {r:Nat},r∈pq rs l↔(∃n,(r,n)∈l)∧Cf rs r
 | [],r=>by simp [pq]
 | (q,m) :: l,r=>by
  have ih:=vW (rs:=rs) (l:=l) (r:=r)
  unfold pq
  cases hb:(fP q || ay q rs) && !ay q (pq rs l) with
  | true=>
   simp only [cond_true,apq]
   simp only [apj,Bool.or_eq_true,aL] at hb
   constructor
   ·rintro (h | h)
    ·subst h
     exact ⟨⟨m, .inl rfl⟩,hb.1⟩
    ·obtain ⟨⟨n,hn⟩,h2⟩:=ih.1 h
     exact ⟨⟨n, .inr hn⟩,h2⟩
   ·rintro ⟨⟨n,h | h⟩,h2⟩
    ·exact .inl (by simpa using congrArg Prod.fst h)
    ·exact .inr (ih.2 ⟨⟨n,h⟩,h2⟩)
  | false=>
   simp only [cond_false]
   constructor
   ·intro h
    obtain ⟨⟨n,hn⟩,h2⟩:=ih.1 h
    exact ⟨⟨n, .tail _ hn⟩,h2⟩
   ·rintro ⟨⟨n,h⟩,h2⟩
    rcases apq.1 h with h | h
    ·have e:r=q:=by simpa using congrArg Prod.fst h
     subst e
     cases hm:ay r (pq rs l) with
     | true=>exact aL.1 hm
     | false=>
      exfalso
      rw [hm] at hb
      simp only [apQ,Bool.and_true,Bool.or_eq_false_iff] at hb
      rcases h2 with h2 | h2
      ·rw [hb.1] at h2; simp at h2
      ·rw [aL.2 h2] at hb; simp at hb
    ·exact ih.2 ⟨⟨n,h⟩,h2⟩
section
variable {P:Program} {T:ji} {cx:Cx} {σ σ':St} {α:dK} {F:List Nat} {a:Act} {w:World} {jd:Te} {rs:List Nat}
theorem D6.kind {r:Nat} {R R':Root} (h:D6 σ jd rs r R R'):R'.kind=R.kind∧R'.k=R.k∧R'.w=[]∧R'.h=[]∧R'.g=0∧R'.aX=R.aX:=by
 obtain ⟨ow,tg,ew,eh,rfl,_⟩:=h.form
 exact ⟨rfl,rfl,rfl,rfl,rfl,rfl⟩
theorem D6.blk {r:Nat} {R R':Root} (h:D6 σ jd rs r R R'):blk α R' r=blk α R r∧eB α R' r=eB α R r:=by
 have hk:=h.kind.1
 unfold Ow.blk eB
 rw [hk]
 exact ⟨rfl,rfl⟩
theorem QF.iT (hB:QF σ jd rs σ') {U U':List Tag} (hU:∀t∈U,Cf rs t.1→∃n,(t.1,n)∈U') {b:Nat} (h:iT cx σ α F w U b):iT cx σ' α F w U' b:=by
 obtain ⟨h1,h2,h3,h4,h5⟩:=h
 refine ⟨h1,h2,h3,fun r R' hr hb=>?_,fun hlt=>?_⟩
 ·obtain ⟨g1,g2,R,g3⟩:=hB.roots r R' hr.1
  rw [g3.blk.1] at hb
  obtain ⟨n,hn⟩:=h4 r R g3.live hb
  exact hU _ hn (.inr g1)
 ·rcases h5 hlt with ⟨j,n,g1,g2⟩ | h
  ·obtain ⟨n',hn'⟩:=hU _ g1 (.inl (iO j))
   exact .inl ⟨j,n',hn',g2⟩
  ·exact .inr h
theorem QF.Ml (hB:QF σ jd rs σ') {U U':List Tag} (hU:∀t∈U,Cf rs t.1→∃n,(t.1,n)∈U') {b:Nat} (h:Ml σ α F w U b):Ml σ' α F w U' b:=by
 obtain ⟨h1,h2,h4⟩:=h
 refine ⟨h1,h2,fun r R' hr hb=>?_⟩
 obtain ⟨g1,g2,R,g3⟩:=hB.roots r R' hr.1
 rw [g3.blk.1] at hb
 obtain ⟨n,hn⟩:=h4 r R g3.live hb
 exact hU _ hn (.inr g1)
theorem ab5 {tags:List Tag} {ids:List Nat} (h:nJ (pq rs tags) ids=true):∀t∈tags,Cf rs t.1→∃n,(t.1,n)∈ids.map fun r=>((r,0):Tag):=by
 intro t ht hi
 refine ⟨0,apO.2 ⟨t.1,jM.1 h _ (vW.2 ⟨⟨t.2,ht⟩,hi⟩),rfl⟩⟩
theorem QF.fD (hB:QF σ jd rs σ') {ids:List Nat} (h:∀i∈ids,Cf rs i):fD σ' (ids.map fun r=>((r,0):Tag)):=by
 intro t ht
 obtain ⟨i,h1,rfl⟩:=apO.1 ht
 rcases h i h1 with h | h
 ·exact .inl h
 ·obtain ⟨R',hR⟩:=hB.made i h
  exact .inr ⟨R',hR, .inr (apM _)⟩
theorem QF.ro (hB:QF σ jd rs σ') {bt:TypeId} {k:K} {x:El k} {tags:List Tag} {ids:List Nat} {v:Value} (hs:nJ (pq rs tags) ids=true) (hc:bg σ (bt :: k.tys) tags=true)(hE:NS bt ids=true)
  (h:MB cx σ α F w bt k x tags v):MB cx σ' α F w bt k x (ids.map fun r=>((r,0):Tag)) v:=by
 obtain ⟨h1,h2⟩:=h
 obtain ⟨b,o,cs,e1,e2,e3,e4,e5⟩:=h2 hc
 refine ⟨h1,fun _=>⟨b,o,cs,e1,e2,fT (fun _ _=>rfl) (fun b hb=>hB.iT (ab5 hs) hb) e3,hB.Ml (ab5 hs) e4, ?_⟩⟩
 rcases e5 with ⟨g1,g2⟩ | h
 ·refine .inl ⟨g1,fun t ht=>?_⟩
  obtain ⟨i,h1,rfl⟩:=apO.1 ht
  unfold NS at hE
  rw [g1] at hE
  simp only [show Nat.beq SENT SENT=true from rfl,apF,Bool.false_or,apt] at hE
  exact hE i h1
 ·exact .inr h
theorem QF.caps (hB:QF σ jd rs σ'):∀{cs:List (TypeId×K×List Nat)} {l:List (TypeId×Dat×List Tag)} {d:Cont (TF cs)} {vs:List Value},Aq σ rs cs l=some d→(∀i∈cs.flatMap (fun c=>c.2.2),Cf rs i)→kK cx σ α F w l vs→
  kK cx σ' α F w (Mg cs d) vs∧∀c∈Mg cs d,Ow.fD σ' c.2.2
 | [],[],_,[],_,_,_=>⟨trivial,by intro c hc; exact absurd hc (by simp [Mg])⟩
 | [],_ :: _,_,_,h,_,_=>by simp [Aq] at h
 | _ :: _,[],_,_,h,_,_=>by simp [Aq] at h
 | [],[],_,_ :: _,_,_,h=>h.elim
 | _ :: _,_ :: _,_,[],_,_,h=>h.elim
 | (t,k,ids) :: cs,(t',d,tags) :: l,c,v :: vs,h,hi,hv=>by
  simp only [Aq] at h
  cases hb:Nat.beq t t' && bg σ (t :: k.tys) tags && nJ (pq rs tags) ids && NS t ids with
  | false=>rw [hb] at h; simp at h
  | true=>
   rw [hb] at h
   simp only [cond_true] at h
   simp only [apj] at hb
   obtain ⟨⟨⟨b1,b2⟩,b3⟩,b4⟩:=hb
   have:=aph b1
   subst this
   cases hck:bP d.1 k d.2 with
   | none=>rw [hck] at h; simp at h
   | some x=>
    rw [hck] at h
    cases hcs:Aq σ rs cs l with
    | none=>rw [hcs] at h; simp at h
    | some y=>
     rw [hcs] at h
     have h2:((x,y):Cont (TF ((t,k,ids) :: cs)))=c:=apN h
     subst h2
     obtain ⟨dk,dx⟩:=d
     obtain ⟨e,ex⟩:=bL hck
     simp only at e
     subst e
     simp only at ex
     subst ex
     have abI:∀i∈ids,Cf rs i:=fun i h=>hi i (by simp [h])
     obtain ⟨g1,g2⟩:=hB.caps (vs:=vs) hcs (fun i h=>hi i (by
      rw [List.flatMap_cons]; exact apf _ h)) hv.2
     refine ⟨⟨hB.ro b3 b2 b4 hv.1,g1⟩,fun q hq=>?_⟩
     rcases apq.1 hq with h | h
     ·subst h; exact hB.fD abI
     ·exact g2 q h
theorem QF.av (H:Rel cx σ α F a w) (hB:QF σ jd rs σ') {sh:Qp} {av:AV} {d:Cont sh.ks} {v:Value} (hct:Wx σ rs sh av=some d) (hi:∀i∈sh.idl,Cf rs i) (hv:bI cx σ α F w av v) :
  bI cx σ' α F w (mkA sh d) v∧tF σ' (mkA sh d):=by
 cases sh with
 | undef=>exact ⟨trivial,trivial⟩
 | val k ids=>
  cases av with
  | val k' x tags=>
   simp only [Wx] at hct
   cases hb:bg σ k.tys tags && nJ (pq rs tags) ids with
   | false=>rw [hb] at hct; simp at hct
   | true=>
    rw [hb] at hct
    simp only [cond_true] at hct
    simp only [apj] at hb
    cases hck:bP k' k x with
    | none=>rw [hck] at hct; simp at hct
    | some y=>
     rw [hck] at hct
     have h2:((y,()):Cont (Qp.val k ids).ks)=d:=apN hct
     subst h2
     obtain ⟨e,ex⟩:=bL hck
     subst e
     simp only at ex
     subst ex
     refine ⟨fun _=>?_,hB.fD hi⟩
     obtain ⟨cs,g1,g2⟩:=hv (.inr hb.1)
     exact ⟨cs,g1,fT (fun _ _=>rfl) (fun b hb2=>hB.iT (ab5 hb.2) hb2) g2⟩
  | _=>simp [Wx] at hct
 | iQ=>
  cases av with
  | iQ=>
   exact ⟨hv,trivial⟩
  | _=>simp [Wx] at hct
 | ref r=>
  cases av with
  | ref r' g=>
   obtain ⟨hb,_⟩:=uI (show (bif Nat.beq r r' && ay r rs && (match σ.roots r with | some R=>Nat.beq R.g g | none=>false) then some () else none)=some d from hct)
   simp only [apj] at hb
   obtain ⟨⟨b1,b2⟩,b3⟩:=hb
   have:=aph b1
   subst this
   obtain ⟨R',hR'⟩:=hB.made r (aL.1 b2)
   refine ⟨fun Q hQ _=>?_,R',hR', .inr (apM _)⟩
   obtain ⟨_,_,R,g3⟩:=hB.roots r Q hQ.1
   rw [g3.live.1] at b3
   obtain ⟨f1,f2⟩:=hv R g3.live (aph b3)
   obtain ⟨k1,k2,_⟩:=g3.kind
   exact ⟨k1.trans f1,by rw [k2]; exact f2⟩
  | _=>simp [Wx] at hct
 | ptr r p=>
  cases av with
  | ptr r' q n=>
   obtain ⟨hb,aem⟩:=uI (A:=Cont (cZ.into 0 p).kin) (x:=idxOf p q) (show (bif Nat.beq r r' && ay r rs && (match σ.roots r with | some R=>clean R.h n (eD q R.k) | none=>false) then idxOf p q else none)=some d from hct)
   simp only [apj] at hb
   obtain ⟨⟨b1,b2⟩,b3⟩:=hb
   have:=aph b1
   subst this
   have hpq:=Ed aem
   obtain ⟨R',hR'⟩:=hB.made r (aL.1 b2)
   show bI cx σ' α F w (.ptr r (pathOf p d) 0) v∧tF σ' (.ptr r (pathOf p d) 0)
   rw [hpq]
   refine ⟨⟨hv.1,fun Q hQ hvQ _ hpt hg=>?_⟩,R',hR', .inr (apM _)⟩
   obtain ⟨_,_,R,g3⟩:=hB.roots r Q hQ
   rw [g3.live.1] at b3
   have hw:=(D6.blk (α:=α) g3).2
   obtain ⟨ow,tg,ew,eh,rfl,hown⟩:=g3.form
   obtain ⟨f1,f2⟩:=hv.2 R g3.live.1 g3.valid b3 (fun t ht=>by rw [←hown t (pG q t ht)]; exact hpt t ht) hg
   exact ⟨f1,by rw [hw]; exact f2⟩
  | _=>simp [Wx] at hct
 | je bt k ids=>
  cases av with
  | je bt' k' x tags=>
   simp only [Wx] at hct
   cases hb:Nat.beq bt bt' && bg σ (bt :: k.tys) tags && nJ (pq rs tags) ids && NS bt ids with
   | false=>rw [hb] at hct; simp at hct
   | true=>
    rw [hb] at hct
    simp only [cond_true] at hct
    simp only [apj] at hb
    obtain ⟨⟨⟨b1,b2⟩,b3⟩,b4⟩:=hb
    have:=aph b1
    subst this
    cases hck:bP k' k x with
    | none=>rw [hck] at hct; simp at hct
    | some y=>
     rw [hck] at hct
     have h2:((y,()):Cont (Qp.je bt k ids).ks)=d:=apN hct
     subst h2
     obtain ⟨e,ex⟩:=bL hck
     subst e
     simp only at ex
     subst ex
     exact ⟨hB.ro b3 b2 b4 hv,hB.fD hi⟩
  | _=>simp [Wx] at hct
 | sG=>
  cases av with
  | sG=>
   exact ⟨hv,trivial⟩
  | _=>simp [Wx] at hct
 | fn f cs=>
  cases av with
  | fn f' caps=>
   obtain ⟨hb,aem⟩:=uI (A:=Cont (TF cs)) (x:=Aq σ rs cs caps) (show (bif Nat.beq f f' then Aq σ rs cs caps else none)=some d from hct)
   have:=aph hb
   subst this
   obtain ⟨vs,e,hc⟩:=hv
   obtain ⟨g1,g2⟩:=hB.caps aem hi hc
   exact ⟨⟨vs,e,g1⟩,g2⟩
  | _=>simp [Wx] at hct
end
end
section
open Go
variable [Fr]
section
variable {P:Program} {T:ji} {cx:Cx} {σ σ':St} {α:dK} {F:List Nat} {a:Act} {w:World} {jd:Te} {rs:List Nat}
theorem aan (H:Rel cx σ α F a w) (hP:Tf cx jd) (hB:QF σ jd rs σ'):Rel cx σ' α F a w:=by
 have W9:∀{r:Nat} {R':Root},aR σ' r R'→∃R,D6 σ jd rs r R R':=fun h=>by
  obtain ⟨_,_,R,h⟩:=hB.roots _ _ h.1
  exact ⟨R,h⟩
 have yJ:∀{j:Nat} {q},jc (au j) jd=some q→∃R R',σ'.roots (au j)=some R'∧D6 σ jd rs (au j) R R':=fun h=>by
  obtain ⟨R',hR'⟩:=hB.made _ (hB.jd _ _ h)
  obtain ⟨_,_,R,h⟩:=hB.roots _ _ hR'
  exact ⟨R,R',hR',h⟩
 have hsame:∀{τ:St} {r:Nat} {R Q:Root},τ.roots r=some R→τ.roots r=some Q→Q=R:=fun h1 h2=>by rw [h1] at h2; simpa using h2.symm
 refine ⟨H.defs,H.sz, ?_, ?_, ?_, ?_, ?_, ?_, ?_,H.fl,H.Ca, ?_,H.frame, ?_,H.qA, ?_, ?_⟩
 ·intro j pi b o n hj hb
  obtain ⟨Q,hQ,hk,hl,hs⟩:=H.mQ j pi b o n hj hb
  obtain ⟨q,hq⟩:=hP.par j pi hj (.inr ⟨_,hb⟩)
  obtain ⟨R,R',hR',h1⟩:=yJ hq
  have:=hsame hQ.1 h1.live.1
  subst this
  obtain ⟨k1,k2,_,_,_,k6⟩:=h1.kind
  exact ⟨R',⟨hR',k6.trans hQ.2⟩,k1.trans hk,hl,by rw [k2]; exact hs⟩
 ·intro r R' hr hk
  obtain ⟨R,h1⟩:=W9 hr
  exact H.JA r R h1.live (h1.kind.1.symm.trans hk)
 ·intro s
  rcases hB.slots s with h | ⟨sh,av,d,h1,h2,h3,h4⟩
  ·rw [h]; trivial
  ·rw [h3]
   have:=H.slots s
   rw [h1] at this
   exact (hB.av H h2 h4 this).1
 ·intro s
  rcases hB.slots s with h | ⟨sh,av,d,h1,h2,h3,h4⟩
  ·rw [h]; trivial
  ·rw [h3]
   have:=H.slots s
   rw [h1] at this
   exact (hB.av H h2 h4 this).2
 ·intro r R' hr
  obtain ⟨R,h1⟩:=W9 hr
  have O:=H.roots r R h1.live
  have hb:=(D6.blk (α:=α) h1).1
  have hw:=(D6.blk (α:=α) h1).2
  have ht:=h1.tags
  have hv:=h1.valid
  obtain ⟨ow,tg,ew,eh,rfl,hown⟩:=h1.form
  refine ⟨fun _=>uE hown (bC (fun _ _=>rfl) (fun b hb2=>?_) (fun _ _=>rfl) (O.ow hv)),O.len, ?_, ?_, ?_⟩
  ·exact hB.iT (fun t h hi=>⟨0,ht t h hi⟩) hb2
  ·rw [hw]; exact O.mem
  ·rw [hb]; exact O.nd
  ·rw [hb]; exact O.mine
 ·intro r R' hr
  obtain ⟨g1,g2,R,h1⟩:=hB.roots r R' hr
  refine ⟨fun t ht=>?_,g2,fun n hn=>(h1.adh _ hn).2.2 rfl⟩
  obtain ⟨f1,f2,_⟩:=h1.adh t ht
  rcases f2 with h | h
  ·exact .inl h
  ·obtain ⟨Q,hQ⟩:=hB.made _ h
   exact .inr ⟨Q,hQ, .inr (by rw [f1]; exact apM _)⟩
 ·intro r R1 r' R2 h1 h2 hne b hb
  obtain ⟨Q1,g1⟩:=W9 h1
  obtain ⟨Q2,g2⟩:=W9 h2
  rw [(D6.blk (α:=α) g1).1] at hb
  rw [(D6.blk (α:=α) g2).1]
  exact H.MX r Q1 r' Q2 g1.live g2.live hne b hb
 ·intro r R' hr b hb
  obtain ⟨R,h1⟩:=W9 hr
  rw [(D6.blk (α:=α) h1).1] at hb
  exact H.jB r R h1.live b hb
 ·intro j pi hj hk
  obtain ⟨⟨k,wt,ht⟩,hq⟩:=hP.par j pi hj (.inl hk)
  obtain ⟨R,R',hR',h1⟩:=yJ hq
  obtain ⟨l1,l2,l3,l4,l5,l6,l7,l8⟩:=h1.log k wt ht hq
  obtain ⟨Q,hQ,hk2⟩:=H.wP j pi hj hk
  have:=hsame h1.live.1 hQ
  subst this
  refine ⟨R',hR',fun _ b hb hnb=>?_⟩
  rcases hk2 h1.live.2 b hb hnb with ⟨e,e1,e2⟩ | ⟨g1,g2,g3⟩
  ·refine .inl ⟨e,e1, .inr ?_⟩
   rw [l2]
   rcases e2 with h | h
   ·exact l4 e h
   ·exact l5 e h
  ·refine .inr ⟨g1,g2,fun q Q hQ hbq=>?_⟩
   obtain ⟨Q0,h2⟩:=W9 hQ
   rw [(D6.blk (α:=α) h2).1] at hbq
   exact g3 q Q0 h2.live hbq
 ·intro j p ts v hv
  obtain ⟨k,⟨wt,ht⟩,hq,hts⟩:=hP.ptr j p ts v hv
  obtain ⟨R,R',hR',h1⟩:=yJ hq
  obtain ⟨l1,l2,l3,l4,l5,l6,l7,l8⟩:=h1.log k wt ht hq
  obtain ⟨f1,Q,hQ,f2⟩:=H.zw j p ts v hv
  have:=hsame h1.live.1 hQ
  subst this
  refine ⟨f1,R',hR',fun hno=>?_⟩
  rw [l3] at hno
  have Y4:=f2 (fun t h1 h2=>hno t h1 (l7 t h2))
  refine ⟨f1,fun Q2 hQ2 _ _ hpt hg=>?_⟩
  have:=hsame hR' hQ2
  subst this
  have hw:=(D6.blk (α:=α) h1).2
  have hv1:=h1.valid
  have hr1:=h1.live.1
  obtain ⟨ow,tg,ew,eh,rfl,hown⟩:=h1.form
  obtain ⟨q1,q2⟩:=Y4.2 Q hr1 hv1 (by
    unfold clean
    rw [apt]
    intro t ht1
    have h3:t∈Q.h:=List.mem_of_mem_take ht1
    simp only [Bool.not_eq_true',aV]
    rw [l1, ←hts]
    exact fun h4=>hno t h4 (l6 t h3))
   (fun t ht=>by rw [←hown t (pG p t ht)]; exact hpt t ht) hg
  exact ⟨q1,by rw [hw]; exact q2⟩
 ·intro j v hv
  obtain ⟨⟨k,wt,ht⟩,hq⟩:=hP.ref j v hv
  obtain ⟨R,R',hR',h1⟩:=yJ hq
  obtain ⟨l1,l2,l3,l4,l5,l6,l7,l8⟩:=h1.log k wt ht hq
  obtain ⟨_,f2⟩:=H.zy j v hv
  refine ⟨⟨R',hR'⟩,fun Q2 hQ2 _=>?_⟩
  have:=hsame hR' hQ2.1
  subst this
  obtain ⟨q1,q2⟩:=f2 R h1.live l8
  obtain ⟨k1,k2,_⟩:=h1.kind
  exact ⟨k1.trans q1,by rw [k2]; exact q2⟩
structure ag9 (jd:Te) (rs:List Nat) (s:PSt):Prop where
 slots:∀q∈s.ss,∀i∈q.2.idl,Cf rs i
 roots:∀q∈s.rs,q.1∈rs∧fP q.1=false∧(∀i∈q.2.ids,Cf rs i∧i≠q.1)∧q.2.log=jc q.1 jd
 keys:∀r∈rs,∃q∈s.rs,q.1=r
 jd:∀r q,jc r jd=some q→r∈rs
theorem Uy:∀{l:List (Nat×Qp)} {c:Cont (Xm l)},ctS σ rs l=some c→∀n,mkS l c n=.one .undef∨∃sh av d,(n,sh)∈l∧σ.slots n=.one av∧Wx σ rs sh av=some d∧mkS l c n=.one (mkA sh d)
 | [],_,_,_=>.inl rfl
 | (s,sh) :: l,c,h,n=>by
  simp only [ctS] at h
  split at h
  ·rename_i av hs
   split at h
   ·rename_i x y hx hy
    have h2:Cont.app sh.ks (Xm l) x y=c:=apN h
    subst h2
    simp only [mkS]
    rw [FD,Gj]
    cases hb:Nat.beq n s with
    | true=>
     have:=aph hb
     subst this
     exact .inr ⟨sh,av,x,by simp,hs,hx,rfl⟩
    | false=>
     rcases Uy hy n with h | ⟨sh',av',d,g1,g2,g3,g4⟩
     ·exact .inl h
     ·exact .inr ⟨sh',av',d, .tail _ g1,g2,g3,g4⟩
   ·simp at h
  ·split at h
   ·split at h
    ·rename_i d hd
     have h2:d=c:=apN h
     subst h2
     simp only [mkS]
     cases hb:Nat.beq n s with
     | true=>exact .inl rfl
     | false=>
      rcases Uy hd n with h | ⟨sh',av',d,g1,g2,g3,g4⟩
      ·exact .inl h
      ·exact .inr ⟨sh',av',d, .tail _ g1,g2,g3,g4⟩
    ·simp at h
   ·simp at h
theorem aaq {a b:IK} (h:aap a b=true):a=b:=by
 cases a <;> cases b <;> simp_all [aap]
theorem Z6:∀{l:List (Nat×QG)} {c:Cont (ksR l)},ctR σ rs l=some c→∀n R',mkR l c n=some R'→∃sh R,(n,sh)∈l∧σ.roots n=some R∧bq σ R∧nJ (pq rs R.tags) sh.ids=true∧aeV R sh.log=true∧
   (∀t∈R.k.tys,ay t sh.own=ay t R.own)∧R'={ R with own:=sh.own,tags:=sh.ids.map fun r=>(r,0),w:=[],h:=[],g:=0,ew:=ail sh.log,eh:=aik sh.log }
 | [],_,_,_,_,h=>by simp [mkR] at h
 | (r,sh) :: l,c,h,n,R',hm=>by
  simp only [ctR] at h
  split at h
  ·rename_i R hR
   obtain ⟨hb,h⟩:=uI h
   split at h
   ·rename_i x y hx hy
    have h2:(x,y)=c:=apN h
    subst h2
    simp only [mkR] at hm
    cases hn:Nat.beq n r with
    | false=>
     rw [hn] at hm
     obtain ⟨sh',R2,g1,g2⟩:=Z6 hy n R' hm
     exact ⟨sh',R2, .tail _ g1,g2⟩
    | true=>
     rw [hn] at hm
     have:=aph hn
     subst this
     simp only [apj] at hb
     obtain ⟨⟨⟨⟨⟨⟨⟨b1,b2⟩,b3⟩,b4⟩,b5⟩,b6⟩,b7⟩,b8⟩:=hb
     obtain ⟨e,ex⟩:=bL hx
     refine ⟨sh,R,by simp,hR,⟨by simpa using b7,b1⟩,b2,b8,fun t ht=>?_, ?_⟩
     ·have:=apt.1 b3 t (e▸ht)
      simp only [beq_iff_eq] at this
      exact this.symm
     ·have b4':=aaq b4
      have b5':R.fixed=sh.fixed:=by simpa using b5
      have b6':R.keep=sh.keep:=by simpa using b6
      obtain ⟨k,ow,ids,kd,fx,kp,lg⟩:=sh
      simp only at e ex b4' b5' b6'
      obtain ⟨Rk,Rx,anK,amW,Rw,Rh,Rg,amV,ale,amU,Rew,Reh⟩:=R
      simp only at e ex b4' b5' b6'
      subst e b4' b5' b6'
      simp only at ex
      subst ex
      simp only [cond_true,apd] at hm
      exact hm.symm
   ·simp at h
  ·simp at h
theorem R5:∀{l:List (Nat×QG)} (c:Cont (ksR l)) {r:Nat},(∃q∈l,q.1=r)→∃R',mkR l c r=some R'
 | [],_,_,h=>by obtain ⟨q,h,_⟩:=h; simp at h
 | (s,sh) :: l,c,r,h=>by
  simp only [mkR]
  cases hb:Nat.beq r s with
  | true=>exact ⟨_,rfl⟩
  | false=>
   refine R5 c.2 ?_
   obtain ⟨q,h1,h2⟩:=h
   rcases apq.1 h1 with h | h
   ·subst h; simp only at h2; subst h2; simp at hb
   ·exact ⟨q,h,h2⟩
theorem QF.of {s:PSt} (hs:ag9 jd rs s) {c:s.V} (h:Wy rs s σ=some c):QF σ jd rs (P6 s c):=by
 unfold Wy at h
 split at h
 ·rename_i x y hx hy
  have h2:Cont.app (Xm s.ss) (ksR s.rs) x y=c:=apN h
  subst h2
  have e1:(P6 s (Cont.app (Xm s.ss) (ksR s.rs) x y)).slots=mkS s.ss x:=by unfold P6; rw [FD]
  have e2:(P6 s (Cont.app (Xm s.ss) (ksR s.rs) x y)).roots=mkR s.rs y:=by unfold P6; rw [Gj]
  refine ⟨fun r R' hr=>?_,fun r hr=>?_,fun n=>?_,hs.jd⟩
  ·rw [e2] at hr
   obtain ⟨sh,R,g1,g2,g3,g4,g5,g6,g7⟩:=Z6 hy r R' hr
   obtain ⟨f1,f2,f3,f4⟩:=hs.roots _ g1
   refine ⟨f1,f2,R,⟨g2,g3.1⟩,g3,⟨_,_,_,_,g7,g6⟩, ?_, ?_, ?_⟩
   ·intro t ht hi
    rw [g7]
    obtain ⟨n,hn⟩:=ab5 g4 t ht hi
    obtain ⟨i,hi1,hi2⟩:=apO.1 hn
    simp only [apo] at hi2
    have h0:n=0:=hi2.2.symm
    subst h0
    exact hn
   ·intro t ht
    rw [g7] at ht
    obtain ⟨i,h1,rfl⟩:=apO.1 ht
    exact ⟨rfl,f3 i h1⟩
   ·intro k wt ht hq
    simp only at f4
    rw [f4,hq] at g5 g7
    simp only [aeV,DJ,apj,jM] at g5
    obtain ⟨p1,⟨⟨⟨p2,p3⟩,p4⟩,p5⟩,p6⟩:=g5
    subst g7
    exact ⟨K.eq_of_beq p1,rfl,rfl,p2,p3,p4,p5,aph p6⟩
  ·rw [e2]
   exact R5 y (hs.keys r hr)
  ·rw [e1]
   rcases Uy hx n with h | ⟨sh,av,d,g1,g2,g3,g4⟩
   ·exact .inl h
   ·exact .inr ⟨sh,av,d,g2,g3,g4,hs.slots _ g1⟩
 ·simp at h
theorem MM:∀{l:List (TypeId×Dat×List Tag)},∀i∈(ML rs l).flatMap (fun c=>c.2.2),Cf rs i
 | [],i,h=>by simp [ML] at h
 | (t,d,tags) :: l,i,h=>by
  simp only [ML,List.flatMap_cons,apm] at h
  rcases h with h | h
  ·exact (vW.1 h).2
  ·exact MM i h
theorem Rj {rs ex:List Nat}:∀i∈YQ rs ex,Cf rs i:=by
 intro i hi
 unfold YQ at hi
 rw [apv,Bool.or_eq_true,aL] at hi
 exact hi.2
theorem ab3 {ex:List Nat} {av:AV}:∀i∈(shA rs ex av).idl,Cf rs i:=by
 intro i hi
 cases av <;> simp only [shA,Qp.idl,List.not_mem_nil] at hi
 ·rcases apm.1 hi with hi | hi
  ·exact (vW.1 hi).2
  ·exact Rj i hi
 ·exact (vW.1 hi).2
 ·exact MM i hi
theorem VS {wd:List (Nat×List Nat)}:∀{l:List Nat},∀q∈shS wd rs σ l,∀i∈q.2.idl,Cf rs i
 | [],q,h,_,_=>by simp [shS] at h
 | s :: l,q,h,i,hi=>by
  simp only [shS,apq] at h
  rcases h with h | h
  ·subst h
   split at hi
   ·exact ab3 i hi
   ·simp [Qp.idl] at hi
  ·exact VS q h i hi
theorem aax {wd:List (Nat×List Nat)}:∀{l:List Nat} {q:List (Nat×QG)},shR wd jd rs σ l=some q→(∀z∈q,z.1∈l∧∃R,σ.roots z.1=some R∧z.2.ids=pq rs R.tags++(YQ rs (wK (2 * z.1+1) wd)).filter (fun q=>!Nat.beq q z.1)∧z.2.log=jc z.1 jd)∧∀r∈l,∃z∈q,z.1=r
 | [],q,h=>by simp [shR] at h; subst h; simp
 | r :: l,q,h=>by
  simp only [shR] at h
  split at h
  ·rename_i R q' hR hq
   obtain ⟨i1,i2⟩:=aax hq
   simp only [apd] at h
   subst h
   refine ⟨fun z hz=>?_,fun r' hr=>?_⟩
   ·rcases apq.1 hz with h | h
    ·subst h; exact ⟨by simp,R,hR,rfl,rfl⟩
    ·obtain ⟨f1,f2⟩:=i1 z h
     exact ⟨.tail _ f1,f2⟩
   ·rcases apq.1 hr with h | h
    ·exact ⟨_,apK,h.symm⟩
    ·obtain ⟨z,z1,z2⟩:=i2 r' h
     exact ⟨z, .tail _ z1,z2⟩
  ·simp at h
theorem IW:∀{l:Te} {r:Nat} {q},jc r l=some q→∃p∈l,p.1=r
 | [],_,_,h=>by simp [jc] at h
 | (s,p) :: l,r,q,h=>by
  simp only [jc] at h
  cases hb:Nat.beq r s with
  | true=>exact ⟨_,apK,(aph hb).symm⟩
  | false=>
   rw [hb] at h
   obtain ⟨p',h1,h2⟩:=IW h
   exact ⟨p', .tail _ h1,h2⟩
theorem ab4 {wd:List (Nat×List Nat)} (H:Rel cx σ α F a w) {ss:List Nat} {s:PSt} (h:ae4 wd jd ss rs σ=some s):ag9 jd rs s:=by
 unfold ae4 at h
 split at h
 ·rename_i q hq
  obtain ⟨hb,h⟩:=uI h
  simp only [apd] at h
  subst h
  obtain ⟨i1,i2⟩:=aax hq
  refine ⟨VS,fun z hz=>?_,i2,fun r q hf=>?_⟩
  ·obtain ⟨f1,R,f2,f3,f4⟩:=i1 z hz
   obtain ⟨_,g2,g3⟩:=H.dD _ R f2
   refine ⟨f1,g2,fun i hi=>?_,f4⟩
   rw [f3] at hi
   rcases apm.1 hi with hi | hi
   ·obtain ⟨⟨n,hn⟩,h2⟩:=vW.1 hi
    exact ⟨h2,fun e=>g3 n (e▸hn)⟩
   ·rw [apv] at hi
    refine ⟨Rj i hi.1,fun e=>?_⟩
    subst e
    have:=hi.2
    simp at this
  ·obtain ⟨p,p1,p2⟩:=IW hf
   have:=apt.1 hb p p1
   rw [←p2]
   exact aL.1 this
 ·simp at h
end
end
section
open Go
variable [Fr]
def exC:Exit→Option Ex
 | .normal=>some .normal
 | .exit i=>some (.exit i)
 | .ret=>some .ret
 | _=>none
section
variable {P:Program} {T:ji} {hi:Hint} {n:Nat} {cx:Cx} {σ:St} {α:dK} {F:List Nat} {a:Act} {w:World} {R:Type} {r:R} {ag:Option R→Option R→Option R}
def QK (cx:Cx) (K:Ex→St→Option R) (r:R) (e:Exit) (a:Act) (w:World):Prop:=∃x σ α F,exC e=some x∧K x σ=some r∧Rel cx σ α F a w
theorem least {p:Nat→Prop} (h:∃n,p n):∃m,p m∧∀k,p k→m≤k:=by
 obtain ⟨n,hn⟩:=h
 induction n using Nat.strongRecOn with
 | _ n ih=>
  by_cases hk:∃k,k<n∧p k
  ·obtain ⟨k,h1,h2⟩:=hk
   exact ih k h1 h2
  ·exact ⟨n,hn,fun k h=>Nat.le_of_not_lt fun hlt=>hk ⟨k,hlt,h⟩⟩
theorem ad5 (hag:∀{a b z},ag a b=some z→a=some z∧b=some z) (hm:P.follows .mixedOrders=true) (hT:fu P T) (hSt:M8 P T) (hC:vG P n hi) (hnt:hi.nt=cx.nt) (hP:Tf cx hi.jd) :
  ∀(code:Code) (b:Nat) {σ:St} {α:dK} {F:List Nat} {a:Act} {w:World} {K:Ex→St→Option R},den T hi n ag b code σ K=some r→Rel cx σ α F a w→code.wp P (QK cx K r) a w:=by
 intro code
 induction code with
 | skip=>intro b σ α F a w K h H; exact wp_skip ⟨_,_,_,_,rfl,h,H⟩
 | exit id=>intro b σ α F a w K h H; exact wp_exit ⟨_,_,_,_,rfl,h,H⟩
 | ret=>intro b σ α F a w K h H; exact wp_ret ⟨_,_,_,_,rfl,h,H⟩
 | seq x y ihx ihy=>
  intro b σ α F a w K h H
  refine wp_seq (wp_mono (ihx b h H) ?_)
  rintro e a' w' ⟨ex,σ',α',F',h1,h2,h3⟩
  cases e <;> simp only [exC,apd,reduceCtorEq] at h1
  ·subst h1; exact ihy b h2 h3
  ·subst h1; exact ⟨_,_,_,_,rfl,h2,h3⟩
  ·subst h1; exact ⟨_,_,_,_,rfl,h2,h3⟩
 | cond c x y ihx ihy=>
  intro b σ α F a w K h H
  simp only [den] at h
  obtain ⟨v0,h1,h2⟩:=xq _ h
  obtain ⟨v,g1,g2,g3⟩:=bR H h1
  have ev:v0=v:=g3
  subst ev
  have hplain:((asBool v0 .ret).run σ fun t=>if t=true then den T hi n ag b x σ K else den T hi n ag b y σ K)=some r→Code.wp P (.cond c x y) (QK cx K r) a w:=by
   intro h2
   obtain ⟨t,h3,h4⟩:=xq _ h2
   obtain ⟨b',e1,e2⟩:=KM g1 h3
   have e2':t=b':=e2
   subst e2'
   refine wp_cond (t:=t) e1 ?_
   cases t with
   | true=>exact ihx b h4 H
   | false=>exact ihy b h4 H
  cases v0 with
  | Bz e=>
   simp only at h2
   obtain ⟨b',e1,e2⟩:=g1
   refine wp_cond (t:=b') e1 ?_
   cases b' with
   | true=>
    rw [if_pos (e2 rfl)] at h2
    exact ihx b (hag h2).1 H
   | false=>
    split at h2
    ·exact ihy b (hag h2).2 H
    ·exact ihy b h2 H
  | _=>exact hplain h2
 | block id x ih=>
  intro b σ α F a w K h H
  simp only [den] at h
  refine wp_block (wp_mono (ih id h H) ?_)
  rintro e a' w' ⟨ex,σ',α',F',h1,h2,h3⟩
  cases e <;> simp only [exC,apd,reduceCtorEq] at h1
  ·subst h1; exact ⟨_,_,_,_,rfl,h2,h3⟩
  ·rename_i i
   subst h1
   simp only at h2
   unfold Exit.inBlock
   simp only
   cases hb:Nat.beq i id with
   | true=>
    rw [hb] at h2
    rw [if_pos (aph hb)]
    exact ⟨_,_,_,_,rfl,h2,h3⟩
   | false=>
    rw [hb] at h2
    rw [if_neg (Nat.ne_of_beq_eq_false hb)]
    exact ⟨_,_,_,_,rfl,h2,h3⟩
  ·subst h1; exact ⟨_,_,_,_,rfl,h2,h3⟩
 | loop x ih=>
  intro b σ α F a w K h H
  simp only [den] at h
  split at h
  ·rename_i ss rs hf
   split at h
   ·rename_i s hs
    obtain ⟨αl,Hl⟩:=PV hi rs H
    have hok:=ab4 Hl hs
    split at h
    ·rename_i c hc
     have H0:=aan Hl hP (QF.of hok hc)
     generalize hB:(fun (L:s.V→Option R) v=>den T hi n ag b x (P6 s v) fun
      | .normal,σ'=>match Wy rs s (Eg hi rs σ') with
       | some v'=>L v'
       | none=>none
      | e,σ'=>K e σ')=B at h
     have hBi:∀(L:s.V→Option R) v,B L v=den T hi n ag b x (P6 s v) fun
      | .normal,σ'=>match Wy rs s (Eg hi rs σ') with
       | some v'=>L v'
       | none=>none
      | e,σ'=>K e σ':=fun L v=>by rw [←hB]
     let I:Nat→Act→World→Prop:=fun m a w=>∃v α F,rounds B m v=some r∧Rel cx (P6 s v) α F a w
     have hex:∀{m:Nat} {a:Act} {w:World},I m a w→∃m,I m a w:=fun h=>⟨_,h⟩
     classical
     refine wp_loop (fun a w=>∃m,I m a w) (fun a w=>if h:∃m,I m a w then Classical.choose (least h) else 0) ⟨_,_,_,_,h,H0⟩ ?_
     intro a w hI
     rw [dif_pos hI]
     have hI2:=(Classical.choose_spec (least hI)).1
     generalize Classical.choose (least hI)=m at hI2
     obtain ⟨v,α,F,h1,h2⟩:=hI2
     cases m with
     | zero=>simp [rounds] at h1
     | succ m=>
      have h1':B (rounds B m) v=some r:=h1
      rw [hBi] at h1'
      refine wp_mono (ih b h1' h2) ?_
      rintro e a' w' ⟨ex,σ',α',F',g1,g2,g3⟩
      cases e <;> simp only [exC,apd,reduceCtorEq] at g1
      ·subst g1
       simp only at g2
       split at g2
       ·rename_i v' hv'
        obtain ⟨αm,Hm⟩:=PV hi rs g3
        have hI':I m a' w':=⟨v',_,_,g2,aan Hm hP (QF.of hok hv')⟩
        refine ⟨⟨m,hI'⟩, ?_⟩
        rw [dif_pos ⟨m,hI'⟩]
        exact Nat.lt_succ_of_le ((Classical.choose_spec (least ⟨m,hI'⟩)).2 m hI')
       ·simp at g2
      ·subst g1; exact ⟨_,_,_,_,rfl,g2,g3⟩
      ·subst g1; exact ⟨_,_,_,_,rfl,g2,g3⟩
    ·simp at h
   ·simp at h
  ·simp at h
 | region id ops draw=>
  intro b σ α F a w K h H
  simp only [den] at h
  cases draw with
  | true=>
   have H':Rel cx σ α F a { w with drawn:=w.drawn+1 }:=H.drawn (w.drawn+1)
   exact wp_region_any hm (YR hT hSt hC hnt (fun σ' α' F' a' w' h1 h2=>⟨_,_,_,_,rfl,h1,h2⟩) h H')
  | false=>
   refine wp_region ?_
   have:=Uc (P:=P) (Q:=QK cx K r) hT hSt hC hnt (fun σ' α' F' a' w' h1 h2=>⟨_,_,_,_,rfl,h1,h2⟩) ops.toList 0 (by simp) h H
   rw [Array.length_toList, ←List.range_eq_range'] at this
   exact this
 | _=>intro b σ α F a w K h; simp [den] at h
end
end
section
open Go
variable [Fr]
def XI (a:Act):ResultVar→Sem Value
 | .tmp t=>pure (a.tmps.getD t undef)
 | .cell x t=>do loadVar t (←asAddr (a.tmps.getD x undef))
section
variable {P:Program} {T:ji} {cx:Cx} {σ:St} {α:dK} {F:List Nat} {a:Act} {w:World} {A:Type} {z:A}
theorem Xr (hT:fu P T) (H:Rel cx σ α F a w) {t:TypeId} {x:AV} {v:Value} {xy:Bool} {k:AV→Prog A} (h1:bI cx σ α F w x v) (h2:tF σ x) (h:(FO T xy t x k).ends σ z) :
  ∃y u,(do loadVar t (←asAddr v):Sem Value).run P w=.ok u w∧bI cx σ α F w y u∧tF σ y∧(k y).ends σ z:=by
 have RH:∀{b o:Nat} {u:Value},(Instr.loadAt t (.pointer (some ⟨b,o,none⟩))).run P w=.ok u w→v=.pointer (some ⟨b,o,none⟩)→(do loadVar t (←asAddr v):Sem Value).run P w=.ok u w:=by
  intro b o u h e
  subst e
  exact h
 unfold FO at h
 split at h
 ·exact h.elim
 ·rename_i kk hty
  have ht:=hT.ty t kk hty
  obtain ⟨s1,s2,s3⟩:=ht.shape
  split at h
  ·rename_i r g k0 p
   obtain ⟨u,b,off,k1,e,hq,hC,ho1,hR⟩:=h1
   obtain ⟨R,hr,hv,h⟩:=cO h
   rcases aB h with ⟨hc,h⟩ | ⟨_,h⟩
   ·simp only [apj] at hc
    cases hg:aT p R.k R.x with
    | none=>rw [hg] at h; exact h.elim
    | some dd=>
     rw [hg] at h
     simp only at h
     obtain ⟨dk,dx⟩:=dd
     rcases beq_true h with ⟨ek,h5⟩ | ⟨_,h⟩
     ·simp only at ek
      subst ek
      have hk0:=K.eq_of_beq hc.1.2
      subst hk0
      obtain ⟨hka,Jw⟩:=hR R hr (aph hc.1.1)
      rw [Jw.cells] at hC
      have hwn:eB α R r=none:=by unfold eB; rw [hka]
      obtain ⟨g1,g2,g3,g4,g5⟩:=Lt (h:=hp w) p hg ho1 (H.roots r R hr).len
      simp only at g1
      subst g1
      have hown:∀t∈ah p R.k,ay t R.own=true:=fun t ht=>by rw [g5] at ht; simp at ht
      have hn:bF (hp w) p R.k (α.hdr r) (eB α R r)=some (((α.hdr r).drop off).take k1.size,none):=by rw [hwn]; exact g3
      obtain ⟨gq,hO,hf⟩:=vR H hr hv hg g4 hown hn
      have hV:=pE H hr hO hf
      have hcs:Cells (hp w) b off (((α.hdr r).drop off).take k1.size):=by
       intro i hi
       have hi':i<k1.size:=by rw [Df g2] at hi; exact hi
       have:=hC (off+i) (by omega)
       rw [Nat.zero_add] at this
       rw [this,List.getElem?_take_of_lt hi',List.getElem?_drop]
      obtain ⟨u',hu⟩:=VC.mk s1 s2 s3 hV
      have hrun:=tV (P:=P) ht hcs (mD hV) hu
      rcases aB h5 with ⟨hf,h6⟩ | ⟨_,h6⟩
      ·exact ⟨.val k1 dx [],u',RH hrun e,fun _=>⟨_,hu,iA hf hV⟩,(fun t ht=>by simp at ht),h6⟩
      ·exact ⟨.xy r p R.yO,u',RH hrun e,BV (cx:=cx) (F:=F) hr hg g4 hown hn hu,⟨R,hr.1, .inr (apu _)⟩,h6⟩
     ·exact h.elim
   ·exact h.elim
  rcases Af H h1 h2 h with ⟨r,R,p,dd,cs,b,q,hr,hv,hg,fU,hown,hn,e,h⟩ | ⟨bt,dd,Tg,b,q,cs,hw,e,hcs,hV,hok,hb,h⟩
  ·obtain ⟨hC,⟨gq,hO,hf⟩,_⟩:=qB H hr hv hg fU hown hn
   obtain ⟨dk,dx⟩:=dd
   rcases beq_true h with ⟨ek,h5⟩ | ⟨_,h⟩
   ·simp only at ek
    subst ek
    clear h
    have h:=h5
    clear h5
    have hV:=pE H hr hO hf
    obtain ⟨u,hu⟩:=VC.mk s1 s2 s3 hV
    have hrun:=tV (P:=P) ht hC (mD hV) hu
    rcases aB h with ⟨_,h⟩ | ⟨_,h⟩
    ·exact ⟨.xy r p R.yO,u,RH hrun e,BV (cx:=cx) (F:=F) hr hg fU hown hn hu,⟨R,hr.1, .inr (apu _)⟩,h⟩
    ·exact ⟨_,u,RH hrun e,(show bI cx σ α F w (.val dk dx _) u from fun _=>⟨cs,hu,hV⟩),Oo H hr _,h⟩
   ·exact h.elim
  ·obtain ⟨dk,dx⟩:=dd
   rcases beq_true h with ⟨ek,h5⟩ | ⟨_,h⟩
   ·simp only at ek
    subst ek
    clear h
    have h:=h5
    clear h5
    obtain ⟨u,hu⟩:=VC.mk s1 s2 s3 hV
    have hrun:=tV (P:=P) ht hcs (mD hV) hu
    refine ⟨_,u,RH hrun e,(show bI cx σ α F w (.val dk dx _) u from fun _=>⟨cs,hu, ?_⟩), ?_,h⟩
    ·cases hf:dk.flat with
     | true=>exact iA hf hV
     | false=>exact hV
    ·cases hf:dk.flat with
     | true=>intro t ht; simp at ht
     | false=>exact hw
   ·exact h.elim
theorem FY (hT:fu P T) (H:Rel cx σ α F a w) {own:Bool} {rv:ResultVar} {k:AV→Prog A} (h:(UG T own rv k).ends σ z):∃y u,(XI a rv).run P w=.ok u w∧bI cx σ α F w y u∧tF σ y∧(k y).ends σ z:=by
 cases rv with
 | tmp t=>
  obtain ⟨v,h1,h2,h3⟩:=bR H h
  exact ⟨v,_,rfl,h1,h2,h3⟩
 | cell t ty=>
  obtain ⟨v,h1,h2,h3⟩:=bR H h
  exact Xr hT H h1 h2 h3
def SS (P:Program) (cx:Cx) (σ:St) (α:dK) (F:List Nat) (a:Act) (w:World):(rs:List jy)→List ResultVar→Cont (ig rs)→List Value→List (Value×iL)→List (List Tag)→Prop
 | [],[],_,[],[],[]=>True
 | .val k exts iB :: rs,rv :: yx,c,v :: vs,its,tg :: EI=>((XI a rv).run P w=.ok v w∧(k.flat=true∨qN exts iB tg=true)∧VaG cx σ α F a w k c.1 tg v)∧SS P cx σ α F a w rs yx c.2 vs its EI
 | .own k ow exts iB :: rs,rv :: yx,c,v :: vs,it :: its,EI=>((XI a rv).run P w=.ok v w∧it.1=v∧xQ cx σ α F w v it.2∧(∃e:it.2.k=k,c.1=e▸it.2.x)∧nJ (k.tys.filter fun t=>ay t ow) it.2.own=true∧
   ((k.tys.all fun t=>ay t ow)=true∨qN exts iB it.2.tags=true))∧SS P cx σ α F a w rs yx c.2 vs its EI
 | _,_,_,_,_,_=>False
theorem YT (hT:fu P T) (H:Rel cx σ α F a w):∀{rs:List jy} {yx:List ResultVar} {k:Cont (ig rs)→List iL→List (List Tag)→Prog A},(Rm T rs yx k).ends σ z→
  ∃c vs its EI,SS P cx σ α F a w rs yx c vs its EI∧(k c (its.map (·.2)) EI).ends σ z:=by
 intro rs
 induction rs with
 | nil=>
  intro yx k h
  cases yx with
  | nil=>exact ⟨(),[],[],[],trivial,h⟩
  | cons _ _=>exact h.elim
 | cons r rs ih=>
  intro yx k h
  cases yx with
  | nil=>cases r <;> exact h.elim
  | cons rv yx=>
   cases r with
   | into _ _=>exact h.elim
   | ptr _ _ _ _=>exact h.elim
   | val kk exts iB=>
    simp only [Rm] at h
    obtain ⟨y,u,g1,g2,g3,h⟩:=FY hT H h
    have hgo:∀(x:El kk) (tags:List Tag),VaG cx σ α F a w kk x tags u→(bif kk.flat || qN exts iB tags then Rm T rs yx fun c ts tg=>k (x,c) ts (tags :: tg) else .fail).ends σ z→
      ∃c vs its EI,SS P cx σ α F a w (.val kk exts iB :: rs) (rv :: yx) c vs its EI∧(k c (its.map (·.2)) EI).ends σ z:=by
     intro x tags hv h
     rcases aB h with ⟨hb,h⟩ | ⟨_,h⟩
     ·obtain ⟨c,vs,its,EI,f1,f2⟩:=ih h
      exact ⟨(x,c),u :: vs,its,tags :: EI,⟨⟨g1,by simpa using hb,hv⟩,f1⟩,f2⟩
     ·exact h.elim
    have hval:(vB y fun k' x tags=>match bP k' kk x with
      | some y=>(bif kk.flat || qN exts iB (bif kk.flat then [] else tags) then Rm T rs yx fun c ts tg=>k (y,c) ts ((bif kk.flat then [] else tags) :: tg) else .fail)
      | none=>.fail).ends σ z→∃c vs its EI,SS P cx σ α F a w (.val kk exts iB :: rs) (rv :: yx) c vs its EI∧(k c (its.map (·.2)) EI).ends σ z:=by
     intro h
     obtain ⟨k',x,Tg,f1,f5⟩:=KN H g2 g3 h
     cases hc:bP k' kk x with
     | none=>rw [hc] at f5; exact f5.elim
     | some y'=>
      rw [hc] at f5
      obtain ⟨ek,ey⟩:=bL hc
      subst ek
      simp only at ey
      subst ey
      cases hf:k'.flat with
      | true=>
       rw [hf] at f5
       exact hgo _ _ (f1.flat hf H) (by rw [hf]; exact f5)
      | false=>
       rw [hf] at f5
       exact hgo _ _ f1 (by rw [hf]; exact f5)
    cases y with
    | iQ=>
     cases kk with
     | sl e kk=>
      obtain ⟨b,rfl⟩:=g2
      exact hgo [] [] ⟨[.slice b 0 0],CL,fun _ _ _ _=>⟨b,0,0,rfl,rfl,apu _,fun h=>by omega⟩⟩ h
     | _=>exact h.elim
    | undef=>exact hval h
    | val _ _ _=>exact hval h
    | ref _ _=>exact hval h
    | xy _ _ _=>exact hval h
    | ptr _ _ _=>exact hval h
    | je _ _ _ _=>exact hval h
    | K5 _ _ _ _=>exact hval h
    | Bz _=>exact hval h
    | part _ _ _ _ _=>exact hval h
    | yL _ _ _ _=>exact hval h
    | app _ _ _ _=>exact hval h
    | sG=>exact hval h
    | fn _ _=>exact hval h
   | own kk ow exts iB=>
    simp only [Rm] at h
    obtain ⟨y,u,g1,g2,g3,h⟩:=FY hT H h
    obtain ⟨tk,htk,h⟩:=tX H g2 g3 h
    cases hc:bP tk.k kk tk.x with
    | none=>rw [hc] at h; exact h.elim
    | some y'=>
     rw [hc] at h
     rcases aB h with ⟨hb,h⟩ | ⟨_,h⟩
     ·simp only [apj,Bool.or_eq_true] at hb
      obtain ⟨c,vs,its,EI,f1,f2⟩:=ih h
      exact ⟨(y',c),u :: vs,(u,tk) :: its,EI,⟨⟨g1,rfl,htk,bL hc,hb.1,hb.2⟩,f1⟩,f2⟩
     ·exact h.elim
theorem WM {σ1:St} {dL:dK} {F1:List Nat} (H1:Rel cx σ1 dL F1 a w) (hV:Views cx σ α F w σ1 dL F1 w):∀{rs:List jy} {yx:List ResultVar} {c:Cont (ig rs)} {vs:List Value} {its:List (Value×iL)} {EI:List (List Tag)} {hs:List (List Value×List Nat)},
  SS P cx σ α F a w rs yx c vs its EI→rW cx σ1 dL F1 w its hs→(∀t∈EI.flatten,Same σ α σ1 dL t.1)→
  ∃bz,KD cx σ1 dL F1 w rs c vs bz∧bz.flatten=hs.flatMap (·.2)∧(∀b∈bz.flatten,b∈F1)∧(yx.mapM (XI a)).run P w=.ok vs w:=by
 intro rs
 induction rs with
 | nil=>
  intro yx c vs its EI hs h hh _
  cases yx <;> cases vs <;> cases its <;> cases EI <;> first | exact h.elim | skip
  cases hs with
  | nil=>exact ⟨[],trivial,rfl,by simp,by simp⟩
  | cons _ _=>exact hh.elim
 | cons r rs ih=>
  intro yx c vs its EI hs h hh hS
  cases r with
  | into _ _=>cases yx <;> cases vs <;> exact h.elim
  | ptr _ _ _ _=>cases yx <;> cases vs <;> exact h.elim
  | val kk exts iB=>
   cases yx <;> cases vs <;> cases EI <;> first | exact h.elim | skip
   rename_i rv yx v vs tg EI
   obtain ⟨⟨h1,h2,cs,h3,h4⟩,h5⟩:=h
   obtain ⟨bz,f1,f2,f3,f4⟩:=ih h5 hh (fun t ht=>hS t (by simp only [List.flatten_cons,apm]; exact .inr ht))
   refine ⟨[] :: bz,⟨⟨rfl,tg,cs,h2,h3,h4 σ1 dL F1 ⟨H1,hV,fun t ht=>hS t (by simp only [List.flatten_cons,apm]; exact .inl ht)⟩⟩,f1⟩,by simpa using f2,by simpa using f3, ?_⟩
   simp [List.mapM_cons,h1,f4,Result.andThen]
  | own kk ow exts iB=>
   cases yx <;> cases vs <;> cases its <;> first | exact h.elim | skip
   rename_i rv yx v vs it its
   obtain ⟨⟨h1,h2,h3,⟨e,ex⟩,h4,h5⟩,h6⟩:=h
   cases hs with
   | nil=>exact hh.elim
   | cons q hs=>
    obtain ⟨⟨q1,q2,q3⟩,hh⟩:=hh
    obtain ⟨bz,f1,f2,f3,f4⟩:=ih h6 hh hS
    refine ⟨q.2 :: bz,⟨⟨it.2.tags,q.1,it.2.own,h5, ?_, ?_, ?_⟩,f1⟩,by simp [f2], ?_, ?_⟩
    ·intro t ht hm
     exact aL.2 (jM.1 h4 t (apv.2 ⟨ht,hm⟩))
    ·rw [←h2]; subst e; exact q1
    ·subst e
     rw [ex]
     exact q2.ow q3
    ·intro b hb
     rw [List.flatten_cons] at hb
     rcases apm.1 hb with h | h
     ·exact q2.sub b h
     ·exact f3 b h
    ·simp [List.mapM_cons,h1,f4,Result.andThen]
end
end
section
open Go
variable [Fr]
section
variable {P:Program} {T:ji} {hi:Hint} {n:Nat} {cx:Cx} {σ:St} {α:dK} {F:List Nat} {a:Act} {w:World}
theorem IV {i:Nat} {R:Root} (h:JX σ i=some R):σ.roots (au i)=some R∧bq σ R:=by
 unfold JX at h
 split at h
 ·rename_i Q hQ
  cases hb:Q.aX || !bg σ Q.Dw Q.tags with
  | true=>rw [hb] at h; simp at h
  | false=>
   rw [hb] at h
   simp only [cond_false,apd] at h
   subst h
   simp only [Bool.or_eq_false_iff,Bool.not_eq_false'] at hb
   exact ⟨hQ,hb⟩
 ·simp at h
theorem HZ:∀{ps:List cZ} {i:Nat} {d:Cont (jL ps)},mF σ ps i=some d→Fh σ ps i d:=by
 intro ps
 induction ps with
 | nil=>intro i d _; trivial
 | cons p ps ih=>
  intro i d h
  cases p with
  | val k iB=>exact ih (show mF σ ps (i+1)=some d from h)
  | ro k=>exact ih (show mF σ ps (i+1)=some d from h)
  | own k ow=>exact ih (show mF σ ps (i+1)=some d from h)
  | fn f ks=>exact ih (show mF σ ps (i+1)=some d from h)
  | into j q=>exact ih (show mF σ ps (i+1)=some d from h)
  | rw k ow wt ht=>
   simp only [mF] at h
   split at h
   ·rename_i R d' hR hd
    obtain ⟨hb,h⟩:=uI h
    simp only [apj,Bool.or_eq_true] at hb
    obtain ⟨⟨b1,b2⟩,b3⟩:=hb
    obtain ⟨r1,r2⟩:=IV hR
    split at h
    ·rename_i x hx
     have h2:(x,d')=d:=apN h
     subst h2
     exact ⟨⟨R,r1,r2,bL hx,b1,b2,b3⟩,ih hd⟩
    ·simp at h
   ·simp at h
  | jl k ow wt=>
   simp only [mF] at h
   split at h
   ·rename_i R d' hR hd
    obtain ⟨hb,h⟩:=uI h
    simp only [apj,Bool.or_eq_true] at hb
    obtain ⟨⟨b1,b2⟩,b3⟩:=hb
    obtain ⟨r1,r2⟩:=IV hR
    split at h
    ·rename_i x hx
     have h2:(x,d')=d:=apN h
     subst h2
     exact ⟨⟨R,r1,r2,bL hx,b1,b2,b3⟩,ih hd⟩
    ·simp at h
   ·simp at h
theorem CF {fn:Func} {vs:List Value} (h:(fn.results.toList.mapM (XI a)).run P w=.ok vs w):(results fn a.tmps).run P w=.ok (aaF vs) w:=by
 have h2:results fn a.tmps=(do
   let vs ←fn.results.mapM (XI a)
   pure (if h:vs.size=1 then vs[0] else .tuple vs)):=by
  unfold results
  congr 1
 rw [h2,Array.mapM_eq_mapM_toList]
 simp only [apD,map_eq_pure_bind,h,apw,apI]
 match vs with
 | []=>rfl
 | [v]=>rfl
 | v :: u :: vs=>simp [aaF]
theorem ad9 (hT:fu P T) (H:Rel cx σ α F a w) {ps:List cZ} {rs:List jy} {fn:Func} {out:Cont (ig rs++jL ps)} (h:fin T ps rs fn.results.toList σ=some out) :
  ∃v,(results fn a.tmps).run P w=.ok v w∧Post cx ps rs out v w:=by
 unfold fin at h
 obtain ⟨q,h1,h2⟩:=xq _ h
 obtain ⟨c,vs,its,EI,f1,f2⟩:=YT (P:=P) hT H h1
 rcases aB f2 with ⟨hb,f2⟩ | ⟨_,f2⟩
 ·have f2:q=_:=f2
  subst f2
  have e1:(its.map (·.2)).flatMap (·.ws)=vF its:=by simp [vF,List.flatMap_map]
  have e2:(its.map (·.2)).flatMap (·.tags)=qZ its:=by simp [qZ,List.flatMap_map]
  rw [e1,e2] at hb
  simp only [e1] at h2
  unfold NC BS at hb
  simp only [apj,Ag,apt,Bool.not_eq_true',aV] at hb
  obtain ⟨b1,b2⟩:=hb
  have Y2:∀{rs:List jy} {yx:List ResultVar} {c:Cont (ig rs)} {vs:List Value} {its:List (Value×iL)} {EI:List (List Tag)},SS P cx σ α F a w rs yx c vs its EI→∀it∈its,xQ cx σ α F w it.1 it.2:=by
   intro rs
   induction rs with
   | nil=>intro yx c vs its EI h it hi; cases yx <;> cases vs <;> cases its <;> first | exact h.elim | simp at hi
   | cons r rs ih=>
    intro yx c vs its EI h it hi
    cases r with
    | into _ _=>cases yx <;> cases vs <;> exact h.elim
    | ptr _ _ _ _=>cases yx <;> cases vs <;> exact h.elim
    | val kk exts iB=>
     cases yx <;> cases vs <;> cases EI <;> first | exact h.elim | exact ih h.2 it hi
    | own kk ow exts iB=>
     cases yx <;> cases vs <;> cases its <;> first | exact h.elim | skip
     rcases apq.1 hi with h3 | h3
     ·subst h3; rw [h.1.2.1]; exact h.1.2.2.1
     ·exact ih h.2 it h3
  obtain ⟨dL,F1,hs,H1,g1,g2,g3,g4,g5,g6,g7,g8,g9⟩:=takes its H (Y2 f1) b1 (fun t ht=>b2 t (api _ ht))
  obtain ⟨bz,k1,k2,k3,k4⟩:=WM H1 g7 f1 g1 (fun t ht=>g5 t.1 (b2 t (apf _ ht)))
  split at h2
  ·rename_i d hd
   simp only [apd] at h2
   subst h2
   refine ⟨aaF vs,CF k4,_,dL,F1,a,vs,bz,H1,rfl,by rw [FD]; exact k1,by rw [k2]; exact g2,k3,by rw [Gj]; exact HZ hd⟩
  ·simp at h2
 ·exact f2.elim
theorem aak {A:Type} {z:A} {t:TypeId} {kk:K} {ow:List TypeId} {exts:List Nat} {x:AV} {v:Value} {k:El kk→Nat→Prog A} (hx:bI cx σ α F w x v) (h:(abY t kk ow exts x k).ends σ z) :
  ∃r R y b o,aR σ r R∧bq σ R∧R.kind=.var t∧nJ (kk.tys.filter fun t=>ay t ow) R.own=true∧((kk.tys.all fun t=>ay t ow)=true∨qN exts [] R.tags=true)∧(∃e:R.k=kk,y=e▸R.x)∧eB α R r=some (b,o)∧v=.pointer (some ⟨b,o,none⟩)∧(k y r).ends σ z:=by
 cases x with
 | ptr r p n=>
  cases p with
  | cons s p=>exact h.elim
  | nil=>
   unfold abY at h
   obtain ⟨R,hr,hv,h⟩:=cO h
   rcases aB h with ⟨hb,h⟩ | ⟨_,h⟩
   ·simp only [apj,Bool.or_eq_true] at hb
    obtain ⟨⟨b1,b2⟩,b3⟩:=hb
    have hk:R.kind=.var t:=by
     unfold Root.ZG at b1
     split at b1
     ·rename_i u hu; rw [hu,aph b1]
     ·simp at b1
    cases hc:bP R.k kk R.x with
    | none=>rw [hc] at h; exact h.elim
    | some y=>
     rw [hc] at h
     obtain ⟨_,cs,b,o,hn,e⟩:=hx.2 R hr.1 hv (by unfold eD clean; simp [ay]) (fun t ht=>by simp [ah] at ht) rfl
     simp only [bF,apd,apo] at hn
     exact ⟨r,R,y,b,o,hr,hv,hk,b2,b3,bL hc,hn.2,e,h⟩
   ·exact h.elim
 | _=>exact h.elim
theorem YI (H:Rel cx σ α F a w) {j:Nat} {x:AV} {v:Value} {m:Int} (hx:bI cx σ α F w x v) (h:(cutV j x fun m=>(.ret m:Prog Int)).ends σ m) :
  ∃b n cp,v=.slice b m.toNat cp∧m.toNat≤n∧bI cx σ α F w (.ref (au j) 0) (.slice b n cp):=by
 cases x with
 | ref r g=>
  simp only [cutV] at h
  rcases aB h with ⟨hc,h5⟩ | ⟨_,h5⟩
  ·clear h
   simp only [apj] at hc
   have e1:=aph hc.1
   have e2:=aph hc.2
   subst e1 e2
   obtain ⟨R,hr,hv,h⟩:=cO h5
   rcases aB h with ⟨hg,h⟩ | ⟨_,h⟩
   ·obtain ⟨h1,h2⟩:=hx R hr (aph hg)
    have hO:=(H.roots _ R hr).ow hv
    have hK:∀q:Dat,(⟨R.k,R.x⟩:Dat)=q→(match q.1,q.2 with
      | .sl _ kk,xs=>(.ret ((show List (El kk) from xs).length:Int):Prog Int)
      | _,_=>.fail).ends σ m→∃b n cp,v=.slice b m.toNat cp∧m.toNat≤n∧bI cx σ α F w (.ref (au j) 0) (.slice b n cp):=by
     intro q hq hh
     obtain ⟨qk,qx⟩:=q
     cases qk with
     | sl e kk=>
      have hm:m=((show List (El kk) from qx).length:Int):=hh
      have hV:=lu (fun _=>True) (fun _ _=>trivial) (fun _ _=>trivial) hO
      have hV:=cast (congrArg (fun q:Dat=>Vw (hp w) (fun _=>True) q.1 q.2 (α.hdr (au j))) hq) hV
      have H6:=cast (congrArg (fun q:Dat=>VC q.1 v (α.hdr (au j))) hq) h2
      obtain ⟨b,n,c,g1,g2,g3,_⟩:=hV
      have H6:VC (.sl e kk) v (α.hdr (au j)):=H6
      have g1:α.hdr (au j)=[.slice b n c]:=g1
      have h3:=H6.1
      rw [g1] at h3
      simp only [List.cons.injEq,and_true] at h3
      have g2:n=(show List (El kk) from qx).length:=g2
      refine ⟨b,n,c,by rw [hm, ←g2]; simpa using h3.symm,by rw [hm, ←g2]; simp,by rw [h3]; exact hx⟩
     | _=>exact hh.elim
    exact hK _ rfl h
   ·exact h.elim
  ·exact h5.elim
 | part r g lo hi sz=>
  simp only [cutV] at h
  rcases aB h with ⟨hc,h5⟩ | ⟨_,h5⟩
  ·clear h
   simp only [apj] at hc
   have e1:=aph hc.1.1
   have e2:=aph hc.1.2
   have e3:=aph hc.2
   subst e1 e2 e3
   have hm:m=(hi:Int):=h5
   obtain ⟨b',b,n,c,g1,g2,g3,g4,g5,g6⟩:=hx
   have hb:b'=b:=by rw [g2 (.inl rfl)]; simp [add_zero]
   subst hb
   exact ⟨b',n,c,by rw [g1,hm]; simp,by rw [hm]; simpa using g4,g6⟩
  ·exact h5.elim
 | _=>exact h.elim
theorem abx (hT:fu P T) (H:Rel cx σ α F a w) {ps:List cZ} {rs:List jy} {fn:Func} {out:Cont (ig rs++jL ps)} (h:abw T ps rs fn.results.toList σ=some out) :
  ∃v,(results fn a.tmps).run P w=.ok v w∧Post cx ps rs out v w:=by
 obtain ⟨yx,hrv⟩:∃yx,fn.results.toList=yx:=⟨_,rfl⟩
 rw [hrv] at h
 have other:fin T ps rs yx σ=some out→∃v,(results fn a.tmps).run P w=.ok v w∧Post cx ps rs out v w:=fun h=>ad9 hT H (by rw [hrv]; exact h)
 cases rs with
 | nil=>exact other h
 | cons q rs=>
  cases q with
  | val _ _ _=>exact other h
  | own _ _ _ _=>exact other h
  | into j q=>
   cases rs with
   | cons _ _=>cases q <;> exact other h
   | nil=>
    cases q with
    | cons _ _=>exact other h
    | nil=>
     match yx,hrv,h,other with
     | [],_,h,other=>exact other h
     | _ :: _ :: _,_,h,other=>exact other h
     | [rv],hrv,h,_=>
      have h:((UG T false rv fun a=>cutV j a fun m=>.ret m:Prog Int).run σ fun m=>
        match mF σ ps 0 with
        | some d=>some (m,d)
        | none=>none)=some out:=h
      obtain ⟨m,h1,h2⟩:=xq _ h
      obtain ⟨y,u,g1,g2,_,h1⟩:=FY hT H h1
      obtain ⟨b,n,cp,e1,e2,e3⟩:=YI H g2 h1
      split at h2
      ·rename_i d hd
       have h2:some ((m,d):Cont (ig [jy.into j []]++jL ps))=some out:=h2
       have h2:=apN h2
       subst h2
       exact ⟨_,CF (vs:=[_]) (by rw [hrv]; simp [List.mapM_cons,g1,Result.andThen]),_,_,_,a,[_],[[]],H,rfl,⟨⟨rfl,rfl,b,n,cp,e1,e2,e3⟩,trivial⟩,by simp,by simp,HZ hd⟩
      ·simp at h2
  | ptr t kk ow exts=>
   cases rs with
   | cons _ _=>exact other h
   | nil=>
    match yx,hrv,h,other with
    | [],_,h,other=>exact other h
    | _ :: _ :: _,_,h,other=>exact other h
    | [rv],hrv,h,_=>
     have h:((UG T false rv fun a=>abY t kk ow exts a fun y r=>.ret (y,r):Prog (El kk×Nat)).run σ fun q=>
       match mF (aC [.r q.2 none] σ) ps 0 with
       | some d=>some (q.1,d)
       | none=>none)=some out:=h
     obtain ⟨q,h1,h2⟩:=xq _ h
     obtain ⟨y,u,g1,g2,_,h1⟩:=FY hT H h1
     obtain ⟨r,R,x,b,o,hr,hv,hk,b2,b3,ex,Az,rfl,h1⟩:=aak g2 h1
     have h1:q=(x,r):=h1
     subst h1
     obtain ⟨k1,k2,k3,k4⟩:=aij H hr (by rw [hk]; simp) hv
     have hblk:blk α R r=b :: α.fo r:=by unfold blk; rw [Az]; rfl
     have K:=H.roots r R hr
     have hnd:=K.nd
     rw [hblk] at hnd
     split at h2
     ·rename_i d hd
      have h2:some ((x,d):Cont (ig [jy.ptr t kk ow exts]++jL ps))=some out:=h2
      have h2:=apN h2
      subst h2
      refine ⟨_,CF (vs:=[_]) (by rw [hrv]; simp [List.mapM_cons,g1,Result.andThen]),_,_,_,a,[_],[b :: α.fo r],k1,rfl,⟨⟨b,o,R.tags,α.hdr r,R.own,α.fo r,rfl,rfl,b3, ?_, ?_, ?_⟩,trivial⟩,by simpa using hnd, ?_,HZ hd⟩
      ·intro u hu hm
       exact aL.2 (jM.1 b2 u (apv.2 ⟨hu,hm⟩))
      ·obtain ⟨m1,arr,e,lo,hi,m2,m3,m4,m5⟩:=K.mem b o Az
       obtain ⟨ek,_⟩:=ex
       exact ⟨m1,arr,e,lo,hi,m2,m3,by rw [←ek]; exact m4,m5 t hk⟩
      ·obtain ⟨ek,ey⟩:=ex
       subst ek
       simp only at ey
       subst ey
       exact k3.ow k4
      ·intro c hc
       simp only [List.flatten_cons,List.flatten_nil,apH] at hc
       exact api _ (by rw [hblk]; exact hc)
     ·simp at h2
def Cx.nt' (cx:Cx) (m:Nat):Cx:={ cx with nt:=m }
theorem Hy {m:Nat}:∀{cs:List (TypeId×Dat×List Tag)} {vs:List Value},kK (cx.nt' m) σ α F w cs vs↔kK cx σ α F w cs vs
 | [],[]=>Iff.rfl
 | c :: cs,v :: vs=>and_congr Iff.rfl Hy
 | [],_ :: _=>Iff.rfl
 | _ :: _,[]=>Iff.rfl
theorem U3 {m:Nat} {x:AV} {v:Value}:bI (cx.nt' m) σ α F w x v↔bI cx σ α F w x v:=by
 cases x with
 | fn f cs=>
  constructor
  ·rintro ⟨vs,h1,h2⟩; exact ⟨vs,h1,Hy.1 h2⟩
  ·rintro ⟨vs,h1,h2⟩; exact ⟨vs,h1,Hy.2 h2⟩
 | _=>exact Iff.rfl
theorem Ie {m:Nat}:∀{l:List AV} {vs:List Value},fG (cx.nt' m) σ α F w l vs↔fG cx σ α F w l vs
 | [],[]=>Iff.rfl
 | c :: cs,v :: vs=>and_congr U3 Ie
 | [],_ :: _=>Iff.rfl
 | _ :: _,[]=>Iff.rfl
theorem XZ {m:Nat} {x:yQ} {v:Value}:jT (cx.nt' m) σ α F w x v↔jT cx σ α F w x v:=by
 cases x with
 | one x=>exact U3
 | J7 l=>
  constructor
  ·rintro ⟨vs,h1,h2⟩; exact ⟨vs,h1,Ie.1 h2⟩
  ·rintro ⟨vs,h1,h2⟩; exact ⟨vs,h1,Ie.2 h2⟩
theorem Rel.nt' {a':Act} (H:Rel cx σ α F a w) {m:Nat} (hd:a'.defers=[]) (hm:m≤a'.tmps.size) (hs:∀s,a'.tmps.getD s undef=a.tmps.getD s undef):Rel (cx.nt' m) σ α F a' w where
 defs:=hd
 sz:=hm
 mQ:=H.mQ
 JA:=H.JA
 slots:=fun s=>by rw [hs s]; exact XZ.2 (H.slots s)
 AR:=H.AR
 roots:=fun r R hr=>by
  obtain ⟨o1,o2,o3,o4,o5⟩:=H.roots r R hr
  exact ⟨o1,o2,o3,o4,o5⟩
 dD:=H.dD
 MX:=H.MX
 fl:=H.fl
 Ca:=H.Ca
 jB:=H.jB
 frame:=H.frame
 wP:=H.wP
 qA:=H.qA
 zw:=H.zw
 zy:=H.zy
theorem RL:∀{ps:List cZ} {i:Nat} {c:Cont (kin ps)} {r:Nat} {R:Root},gH (gD ps i c) r=some R→∃j p cj,r=au (i+j)∧ps[j]?=some p∧dU p (i+j) cj=some R:=by
 intro ps
 induction ps with
 | nil=>intro i c r R h; simp [gD,gH] at h
 | cons p ps ih=>
  intro i c r R h
  rw [wN,zA] at h
  have hrec:gH (gD ps (i+1) (tlC p ps c)) r=some R→∃j q cj,r=au (i+j)∧(p :: ps)[j]?=some q∧dU q (i+j) cj=some R:=by
   intro h
   obtain ⟨j,q,cj,h1,h2,h3⟩:=ih h
   have e:i+1+j=i+(j+1):=by omega
   exact ⟨j+1,q,cj,by rw [h1,e],by simpa using h2,by rw [←e]; exact h3⟩
  cases hr:dU p i (Y7 p ps c) with
  | none=>rw [hr] at h; exact hrec h
  | some Q=>
   rw [hr] at h
   simp only [gH] at h
   cases hb:Nat.beq r (au i) with
   | true=>
    rw [hb] at h
    have h':Q=R:=by simpa using h
    exact ⟨0,p,Y7 p ps c,aph hb,rfl,by rw [←h']; exact hr⟩
   | false=>rw [hb] at h; exact hrec h
theorem Ue:∀{ps:List cZ} {i j:Nat} {k:K},yG ps j k→∃l,jc (au (i+j)) (wW ps i)=some (k,l):=by
 intro ps
 induction ps with
 | nil=>intro i j k h; obtain ⟨ow,wt,ht,h | h⟩:=h <;> simp at h
 | cons p ps ih=>
  intro i j k h
  have hne:∀j,Nat.beq (au (i+(j+1))) (au i)=false:=fun j=>by
   cases h:Nat.beq (au (i+(j+1))) (au i) with
   | true=>
    have:=aph h
    unfold au at this
    omega
   | false=>rfl
  cases j with
  | zero=>
   obtain ⟨ow,wt,ht,h | h⟩:=h
   ·simp only [List.getElem?_cons_zero,apd] at h
    subst h
    exact ⟨(wt,ht),by simp [wW,jc]⟩
   ·simp only [List.getElem?_cons_zero,apd] at h
    subst h
    exact ⟨(wt,k.tys),by simp [wW,jc]⟩
  | succ j=>
   have h':yG ps j k:=by
    obtain ⟨ow,wt,ht,h⟩:=h
    exact ⟨ow,wt,ht,by simpa using h⟩
   obtain ⟨l,hl⟩:=ih (i:=i+1) h'
   have e:i+1+j=i+(j+1):=by omega
   rw [e] at hl
   cases p <;> first | exact ⟨l,by simp only [wW,jc,hne j,cond_false]; exact hl⟩ | exact ⟨l,hl⟩
theorem Sd {ps:List cZ} {c:Cont (kin ps)} (hP:He cx ps) (H:Rel cx (bS ps c) α F a w) (m:Nat):Tf (cx.nt' m) (wW ps 0):=by
 have hf:∀{j:Nat} {k:K},yG ps j k→∃l,jc (au j) (wW ps 0)=some (k,l):=fun {j} {k} h=>by
  have:=Ue (i:=0) h
  simpa using this
 refine ⟨fun j pi hj h=>?_,fun j p ts v hv=>?_,fun j v hv=>?_⟩
 ·rcases h with h | ⟨⟨b,o,n⟩,h⟩
  ·obtain ⟨k,hk⟩:=hP.par j pi hj h
   obtain ⟨l,hl⟩:=hf hk
   exact ⟨_,hl⟩
  ·obtain ⟨R,hR,hk,_⟩:=H.mQ j pi b o n hj h
   obtain ⟨j',p,cj,h1,h2,h3⟩:=RL (show gH (gD ps 0 c) (au j)=some R from hR.1)
   have e:j=j':=by unfold au at h1; omega
   subst e
   have:∃k,yG ps j k:=by
    cases p with
    | rw k ow wt ht=>exact ⟨k,ow,wt,ht, .inl h2⟩
    | jl k ow wt=>exact ⟨k,ow,wt,[], .inr h2⟩
    | own k ow=>
     have h4:=apN h3
     rw [←h4] at hk
     simp [aP] at hk
    | _=>simp [dU] at h3
   obtain ⟨k,hk⟩:=this
   obtain ⟨l,hl⟩:=hf hk
   exact ⟨_,hl⟩
 ·obtain ⟨k,hk,e⟩:=hP.ptr j p ts v hv
  obtain ⟨l,hl⟩:=hf hk
  exact ⟨k,l,hl,e⟩
 ·obtain ⟨k,hk⟩:=hP.ref j v hv
  obtain ⟨l,hl⟩:=hf hk
  exact ⟨_,hl⟩
theorem TR (hm:P.follows .mixedOrders=true) (hT:fu P T) (hSt:M8 P T) {E:Entry} {fn:Func} (hf:P.funcs[E.f]?=some fn) (hname:(fn.name == "runtime.NumGoroutine")=false) {m:Nat} (hC:vG P m hi)
  (hF:∀c out,E.F n c=some out→abp T hi fn E.ps E.rs m c=some out):ak P n E:=by
 intro c out hout cx α args w hnt hw hsz hP H
 have h:=hF c out hout
 unfold abp at h
 cases hb:fn.body with
 | none=>rw [hb] at h; simp at h
 | some code=>
  rw [hb] at h
  simp only at h
  refine .inl ⟨Go.MuLone.run_callFunc_enter hf hname hb args w,calls_of_wp hf hb ?_⟩
  have H2:Rel (cx.nt' fn.ntmps) (bS E.ps c) α [] { tmps:=args++Array.replicate (fn.ntmps - args.size) undef,defers:=[] } w:=by
   refine H.nt' rfl (by simp; omega) fun s=>?_
   simp only [Array.getD_eq_getD_getElem?]
   rw [Array.getElem?_append]
   split
   ·rfl
   ·rename_i hlt
    rw [Array.getElem?_eq_none (by omega:args.size≤s)]
    rw [Array.getElem?_replicate]
    split <;> rfl
  have hC':vG P m { hi with nt:=fn.ntmps,jd:=wW E.ps 0 }:=hC
  refine wp_mono (ad5 Yu hm hT hSt hC' rfl (Sd hP H _) code 0 h H2) ?_
  have hend:∀{σ':St} {α':dK} {F':List Nat} {a':Act} {w':World},abw T E.ps E.rs fn.results.toList σ'=some out→Rel (cx.nt' fn.ntmps) σ' α' F' a' w'→
    a'.defers=[]∧∃v,(results fn a'.tmps).run P w'=.ok v w'∧∃v',Ending.returned v=.returned v'∧Post cx E.ps E.rs out v' w':=by
   intro σ' α' F' a' w' h1 H3
   have H4:Rel cx σ' α' F' a' w':=by
    have:=H3.nt' (m:=0) (a':=a') H3.defs (apM _) (fun _=>rfl)
    obtain ⟨nt,w0,ext,par,ptrs,refs⟩:=cx
    simp only at hnt
    subst hnt
    exact this
   obtain ⟨v,v1,v2⟩:=abx (P:=P) hT H4 h1
   exact ⟨H3.defs,v,v1,v,rfl,v2⟩
  rintro e a' w' ⟨ex,σ',α',F',h1,h2,h3⟩
  cases e <;> simp only [exC,apd,reduceCtorEq] at h1
  ·subst h1; exact hend h2 h3
  ·subst h1; simp at h2
  ·subst h1; exact hend h2 h3
end
end
section
open Go
variable [Fr]
def KF (W:World):(ps:List cZ)→Cont (kin ps)→List Value→Prop
 | [],_,[]=>True
 | .val k [] :: ps,c,v :: vs=>(∃cs,VC k v cs∧Vw (hp W) (fun b=>b<W.heap.size) k c.1 cs)∧KF W ps c.2 vs
 | _,_,_=>False
def QD (W W':World):Prop:=W'.os=W.os∧W'.output=W.output∧W.heap.size≤W'.heap.size∧∀b,b<W.heap.size→hp W' b=hp W b
def Ck (W:World):Cx:={ nt:=0,w0:=W,ext:=fun _ b=>b<W.heap.size,par:=fun _=>none,ptrs:=fun _ _ _ _=>False,refs:=fun _ _=>False }
def Z9:dK:={ loc:=fun _=>(0,0),hdr:=fun _=>[],fo:=fun _=>[] }
section
variable {P:Program} {W:World}
theorem KF.roots:∀{ps:List cZ} {c:Cont (kin ps)} {vs:List Value} {i:Nat},KF W ps c vs→gD ps i c=[]∧vs.length=ps.length
 | [],_,[],_,_=>⟨rfl,rfl⟩
 | [],_,_ :: _,_,h=>h.elim
 | .val k [] :: ps,c,v :: vs,i,h=>by
  obtain ⟨h1,h2⟩:=KF.roots (i:=i+1) h.2
  exact ⟨h1,by simp [h2]⟩
 | .val k (_ :: _) :: ps,c,vs,_,h=>by cases vs <;> exact h.elim
 | .val k [] :: ps,c,[],_,h=>h.elim
 | .ro _ :: _,_,vs,_,h=>by cases vs <;> exact h.elim
 | .rw _ _ _ _ :: _,_,vs,_,h=>by cases vs <;> exact h.elim
 | .jl _ _ _ :: _,_,vs,_,h=>by cases vs <;> exact h.elim
 | .own _ _ :: _,_,vs,_,h=>by cases vs <;> exact h.elim
 | .fn _ _ :: _,_,vs,_,h=>by cases vs <;> exact h.elim
 | .into _ _ :: _,_,vs,_,h=>by cases vs <;> exact h.elim
theorem KF.slots {σ:St} (hσ:∀r R,¬aR σ r R):∀{ps:List cZ} {c:Cont (kin ps)} {vs:List Value} {i:Nat},KF W ps c vs→∀s,(∀v,vs[s - i]?=some v→i≤s→jT (Ck W) σ Z9 [] W (iG (eT ps i c) s) v)∧((vs[s - i]?=none∨s<i)→iG (eT ps i c) s=.one .undef)∧Ah σ (iG (eT ps i c) s)
 | [],_,[],_,_=>fun s=>⟨fun v h=>by simp at h,fun _=>rfl,trivial⟩
 | [],_,_ :: _,_,h=>h.elim
 | .val k [] :: ps,c,v :: vs,i,h=>by
  intro s
  have ih:=KF.slots hσ (i:=i+1) h.2 s
  simp only [eT,iG]
  cases hb:Nat.beq s i with
  | true=>
   have:=aph hb
   subst this
   simp only [Nat.sub_self,List.getElem?_cons_zero,apd,cond_true]
   refine ⟨fun u hu _=>?_,fun h=>by rcases h with h | h; simp at h; omega, ?_⟩
   ·subst hu
    intro _
    obtain ⟨cs,h1,h2⟩:=h.1
    refine ⟨cs,h1, ?_⟩
    cases hf:k.flat with
    | true=>exact iA hf h2
    | false=>
     refine fT (fun _ _=>rfl) (fun b hb=>⟨hb,by simp, ?_,fun r R hr=>absurd hr (hσ r R),fun _=>.inl ⟨s,0,by simp,hb⟩⟩) h2
     rintro ⟨j,pi,o,n,h3,_⟩
     simp [Ck] at h3
   ·intro t ht
    cases hf:k.flat with
    | true=>rw [hf] at ht; simp at ht
    | false=>
     rw [hf] at ht
     simp only [cond_false,List.map_nil,apx] at ht
     subst ht
     exact .inl (iO s)
  | false=>
   have hne:=Nat.ne_of_beq_eq_false hb
   simp only [cond_false]
   refine ⟨fun u hu hle=>?_,fun hh=>?_,ih.2.2⟩
   ·refine ih.1 u ?_ (by omega)
    have e:s - i=(s - (i+1))+1:=by omega
    rw [e] at hu
    simpa using hu
   ·refine ih.2.1 ?_
    rcases hh with hh | hh
    ·by_cases hlt:s<i
     ·exact .inr (by omega)
     ·have e:s - i=(s - (i+1))+1:=by omega
      rw [e] at hh
      exact .inl (by simpa using hh)
    ·exact .inr (by omega)
 | .val k (_ :: _) :: ps,c,vs,_,h=>by cases vs <;> exact h.elim
 | .val k [] :: ps,c,[],_,h=>h.elim
 | .ro _ :: _,_,vs,_,h=>by cases vs <;> exact h.elim
 | .rw _ _ _ _ :: _,_,vs,_,h=>by cases vs <;> exact h.elim
 | .jl _ _ _ :: _,_,vs,_,h=>by cases vs <;> exact h.elim
 | .own _ _ :: _,_,vs,_,h=>by cases vs <;> exact h.elim
 | .fn _ _ :: _,_,vs,_,h=>by cases vs <;> exact h.elim
 | .into _ _ :: _,_,vs,_,h=>by cases vs <;> exact h.elim
theorem aeU (hfr:∀b,Fr.free b→b<W.heap.size∧hp W b=Fr.obj b) {ps:List cZ} {c:Cont (kin ps)} {args:Array Value} (hV:KF W ps c args.toList):Rel (Ck W) (bS ps c) Z9 [] ⟨args,[]⟩ W:=by
 have hr0:∀r,(bS ps c).roots r=none:=fun r=>by
  show gH (gD ps 0 c) r=none
  rw [(hV.roots (i:=0)).1]
  rfl
 have hno:∀r R,¬aR (bS ps c) r R:=fun r R h=>by have h2:=h.1; rw [hr0 r] at h2; simp at h2
 have hs:=fun s=>KF.slots hno (i:=0) hV s
 refine ⟨rfl,apM _,fun j pi b o n h=>by simp [Ck] at h,fun r R h=>absurd h (hno r R),fun s=>?_,fun s=>(hs s).2.2,fun r R h=>absurd h (hno r R),fun r R h=>by rw [hr0 r] at h; simp at h,
  fun r R _ _ h=>absurd h (hno r R),fun b h=>by simp at h,List.nodup_nil,fun r R h=>absurd h (hno r R),⟨rfl,rfl,rfl,apu _,fun _ _ _=>rfl,fun j pi b o n h=>by simp [Ck] at h⟩,
  fun j pi h=>by simp [Ck] at h,⟨fun j pi h=>by simp [Ck] at h,fun b hb=>⟨(hfr b hb).1,fun j pi h=>by simp [Ck] at h⟩,fun b hb=>(hfr b hb).2⟩,fun j p ts v h=>h.elim,fun j v h=>h.elim⟩
 obtain ⟨h1,h2,_⟩:=hs s
 cases hv:args.toList[s]? with
 | none=>
  have:=h2 (.inl (by simpa using hv))
  rw [show (bS ps c).slots s=.one .undef from this]
  trivial
 | some v=>
  have:=h1 v (by simpa using hv) (apM _)
  have e:args.getD s undef=v:=by
   rw [Array.getElem?_toList] at hv
   simp [Array.getD_eq_getD_getElem?,hv]
  show jT _ _ _ _ _ _ (args.getD s undef)
  rw [e]
  exact this
theorem ZN (hfr:∀b,Fr.free b→b<W.heap.size∧hp W b=Fr.obj b) {f:FuncId} {ps:List cZ} {F:Nat→Cont (kin ps)→Option (Cont (ig [.val .bool [] []]++jL ps))} {n:Nat} (hE:ak P n ⟨f,ps,[.val .bool [] []],F⟩)
  {c:Cont (kin ps)} {out:Cont (ig [.val .bool [] []]++jL ps)} (hF:F n c=some out) (ht:out.1=true) {args:Array Value} (hV:KF W ps c args.toList) (hcall:(callFunc f args).run P W=.ok (.enter f args) W) :
  Calls P f args W fun e W'=>e=.returned (.bool true)∧QD W W':=by
 have h:=hE c out hF (Ck W) Z9 args W rfl rfl (by rw [←Array.length_toList,(hV.roots (i:=0)).2]) ⟨fun j pi h=>by simp [Ck] at h,fun j p ts v h=>h.elim,fun j v h=>h.elim⟩ (aeU hfr hV)
 rcases h with ⟨_,h⟩ | ⟨v,w',h,_⟩
 ·refine h.mono ?_
  rintro e W' ⟨v,rfl,σ,α,F',a,vs,bz,H,rfl,hR,_⟩
  refine ⟨?_,H.frame.1,H.frame.2.2.1,H.frame.2.2.2.1,fun b hb=>H.frame.2.2.2.2.1 b hb (fun j pi h=>by simp [Ck] at h)⟩
  cases vs with
  | nil=>exact hR.elim
  | cons v vs=>
   cases bz with
   | nil=>exact hR.elim
   | cons fo bz=>
    obtain ⟨⟨_,T,cs,_,hv,hw⟩,hr⟩:=hR
    cases vs with
    | cons _ _=>exact hr.elim
    | nil=>
     obtain ⟨e1,_⟩:=hv
     have e2:cs=[.bool out.1]:=hw
     rw [e1,ht] at e2
     simp only [List.cons.injEq,and_true] at e2
     subst e2
     rfl
 ·rw [hcall] at h
  simp at h
end
end
section
open Go
mutual
def dsz {H:Type}:DataW H→Nat
 | .lit (.string bytes)=>bytes.length+1
 | .lit _=>1
 | .nil=>1
 | .ptr d=>dsz d+1
 | .slice elems spare=>Jt elems+Jt spare+1
 | .agg parts=>Jt parts+1
 | .iface _ d=>dsz d+1
 | .map _=>1
 | .held _=>1
def Jt {H:Type}:List (DataW H)→Nat
 | []=>0
 | d :: r=>dsz d+Jt r
end
def VA:(k:K)→El k→Nat
 | .int _,_=>1
 | .bool,_=>1
 | .str,s=>(show List Int from s).length+1
 | .sl _ k,xs=>((show List (El k) from xs).map (VA k)).sum+1
 | .unit,_=>0
 | .pair a b,x=>VA a x.1+VA b x.2
 | .st f,x=>VA f x+1
 | .gap _,_=>0
 | .id _,_=>1
def Cm:(k:K)→El k→Prop
 | .int ik,x=>JB ik x
 | .str,s=>(show List Int from s).length≤9223372036854775807∧∀b∈(show List Int from s),0≤b∧b<256
 | .sl _ k,xs=>(show List (El k) from xs).length≤9223372036854775807∧∀x∈(show List (El k) from xs),Cm k x
 | .pair a b,x=>Cm a x.1∧Cm b x.2
 | .st f,x=>Cm f x
 | _,_=>True
theorem IM {A:Type} {p:Nat→A→Prop}:∀{n:Nat},(∀i,i<n→∃x,p i x)→∃xs:List A,xs.length=n∧∀i (h:i<xs.length),p i xs[i]:=by
 intro n h
 induction n with
 | zero=>exact ⟨[],rfl,fun i h=>by simp at h⟩
 | succ n ih=>
  obtain ⟨xs,h1,h2⟩:=ih (fun i hi=>h i (by omega))
  obtain ⟨x,hx⟩:=h n (by omega)
  refine ⟨xs++[x],by simp [h1],fun i hi=>?_⟩
  rw [List.getElem_append]
  split
  ·exact h2 i _
  ·have:i=n:=by simp [h1] at hi; omega
   subst this
   simpa using hx
theorem aaB {A H:Type} {f:A→Nat}:∀{xs:List A} {ds:List (DataW H)},xs.length=ds.length→(∀i (h:i<xs.length) (h':i<ds.length),f xs[i]≤dsz ds[i])→(xs.map f).sum≤Jt ds
 | [],[],_,_=>apu _
 | x :: xs,d :: ds,hl,h=>by
  simp only [List.map_cons,List.sum_cons,Jt]
  have h0:=h 0 (by simp) (by simp)
  have:=aaB (xs:=xs) (ds:=ds) (by simpa using hl) (fun i h1 h2=>by
   have:=h (i+1) (by simp; omega) (by simp; omega)
   simpa using this)
  simp only [List.getElem_cons_zero] at h0
  omega
 | [],_ :: _,hl,_=>by simp at hl
 | _ :: _,[],hl,_=>by simp at hl
section
variable {P:Program} {T:ji} {W:World} {H:Type} {enc:TypeId×Value→H}
def ag5 [Fr] (W:World) (k:K) (cs:List Value) (d:DataW H):Prop:=∃x:El k,Vw (hp W) (fun b=>b<W.heap.size) k x cs∧VA k x≤dsz d∧Cm k x
theorem AA {t:TypeId} {k:K} (h:sV P t k):P.cellsOf t=k.size:=by
 obtain ⟨i,h1,h2,_⟩:=h
 simp [Program.cellsOf,h1,h2]
theorem XW [Fr] (hid:T.ids=false) (hfr:∀b,b<W.heap.size→Fr.free b):∀(k:K),
  (∀t n cs d ps,(jU P T k).1 t→DataW.trod enc P W 0 (fun _=>true) true n t cs=some (d,ps)→ag5 W k cs d)∧
  (∀(fs:List Field) off n (cs:List Value) (xs:List (DataW H×List MemPlace)),(jU P T k).2 fs off→cs.length=off+k.size→xs.length=fs.length→
   (∀(i:Nat) f,fs[i]?=some f→DataW.trod enc P W 0 (fun _=>true) true n f.type ((cs.drop f.offset).take (P.cellsOf f.type))=xs[i]?)→
   ∃x:El k,Vw (hp W) (fun b=>b<W.heap.size) k x (cs.drop off)∧VA k x≤Jt (xs.map (·.1))∧Cm k x):=by
 intro k
 induction k with
 | int ik=>
  refine ⟨fun t n cs d ps ht h=>?_,fun _ _ _ _ _ h=>h.elim⟩
  obtain ⟨m,rfl,e,hw⟩:=DataW.trod_int ht.1 h
  simp only [apo] at e
  obtain ⟨rfl,rfl⟩:=e
  have hr:JB ik m:=by
   cases ik <;> simp [JB]
   simp [Lit.wf,IntKind.min,IntKind.max,IntKind.signed,IntKind.bits] at hw
   omega
  exact ⟨m,⟨rfl,hr⟩,apu _,hr⟩
 | bool=>
  refine ⟨fun t n cs d ps ht h=>?_,fun _ _ _ _ _ h=>h.elim⟩
  obtain ⟨b,rfl,e⟩:=DataW.trod_bool ht.1 h
  simp only [apo] at e
  obtain ⟨rfl,rfl⟩:=e
  exact ⟨b,rfl,apu _,trivial⟩
 | str=>
  refine ⟨fun t n cs d ps ht h=>?_,fun _ _ _ _ _ h=>h.elim⟩
  obtain ⟨s,rfl,e,hsz⟩:=DataW.trod_string ht.1 h
  simp only [apo] at e
  obtain ⟨rfl,rfl⟩:=e
  exact ⟨bytesOf s,⟨s,rfl,rfl⟩,by simp [VA,dsz,bytesOf],by
   unfold maxLen at hsz
   have:(bytesOf s).length=s.size:=by simp [bytesOf]
   refine ⟨(show (bytesOf s).length≤9223372036854775807 by omega),fun b hb=>?_⟩
   have hb':b∈bytesOf s:=hb
   unfold bytesOf at hb'
   obtain ⟨x,_,rfl⟩:=apO.1 hb'
   have:=x.toNat_lt
   omega⟩
 | unit=>exact ⟨fun _ _ _ _ _ h=>h.elim,fun fs off n cs xs _ hl hx hf=>⟨(),by
   have:cs.drop off=[]:=List.drop_eq_nil_of_le (by simp [K.size] at hl; omega)
   exact this,apM _,trivial⟩⟩
 | gap n=>exact ⟨fun _ _ _ _ _ h=>h.elim,fun _ _ _ _ _ h=>h.elim⟩
 | id e=>exact ⟨fun t n cs d ps ht h=>by have:=ht.2.2; rw [hid] at this; simp at this,fun _ _ _ _ _ h=>h.elim⟩
 | sl e k ih=>
  refine ⟨fun t n cs d ps ht h=>?_,fun _ _ _ _ _ h=>h.elim⟩
  obtain ⟨hu,_,hte,hk0,_⟩:=ht
  have hce:P.cellsOf e=k.size:=AA (fM.info hte)
  rcases DataW.trod_slice hu h with ⟨rfl,e1⟩ | ⟨a,len,cap,elems,rest,m,rfl,rfl,e1,_,hlc,hmx,hle,hel,_,_⟩
  ·simp only [apo] at e1
   obtain ⟨rfl,rfl⟩:=e1
   exact ⟨[],⟨none,0,0,rfl,rfl,apu _,fun h=>by omega⟩,by simp [VA,dsz],⟨apM _,fun x hx=>by simp at hx⟩⟩
  ·simp only [apo] at e1
   obtain ⟨rfl,rfl⟩:=e1
   have hone:∀i (hi:i<len),∃x:El k,∃ds,W.cells? 0 (a.add (i * k.size)) k.size=some ds∧Vw (hp W) (fun b=>b<W.heap.size) k x ds∧(∀(h':i<elems.length),VA k x≤dsz elems[i].1)∧Cm k x:=by
    intro i hi
    have h1:=hel i hi
    have hi':i<elems.length:=by omega
    rw [hce,aps hi'] at h1
    obtain ⟨ds,h2,h3⟩:=Option.bind_eq_some_iff.1 h1
    obtain ⟨x,h4,h5,h6⟩:=ih.1 e m ds _ _ hte h3
    exact ⟨x,ds,h2,h4,fun _=>h5,h6⟩
   obtain ⟨xs,hl,hxs⟩:=IM hone
   refine ⟨xs,⟨some a,len,cap,rfl,hl.symm,hlc,fun h0=>?_⟩, ?_, ?_⟩
   ·obtain ⟨b,o,sp⟩:=a
    have h0':0<xs.length:=by omega
    obtain ⟨ds0,h2,h3,_⟩:=hxs 0 h0'
    have hb:=World.cells?_block h2 hk0
    obtain ⟨_,g1,g2⟩:=World.cells?_some h2
    have hsp:sp=none:=by
     have:=g2 0 hk0
     rw [aps (by omega)] at this
     simp only [Nat.zero_mul,Addr.add,if_true,World.cell?] at this
     cases sp with
     | none=>rfl
     | some q=>split at this <;> simp at this
    subst hsp
    have hb':b<W.heap.size:=by
     rw [addr_add] at hb
     exact hb
    refine ⟨b,o,rfl,hb', .inr (hfr b hb'),fun i hi=>?_⟩
    obtain ⟨ds,h2,h3,_⟩:=hxs i hi
    obtain ⟨_,g1,g2⟩:=World.cells?_some h2
    refine ⟨ds,fun j hj=>?_,h3⟩
    have:=g2 j (by omega)
    rw [addr_add,addr_add,Al] at this
    exact this
   ·simp only [VA,dsz]
    have:=aaB (H:=H) (f:=VA k) (xs:=xs) (ds:=elems.map (·.1)) (by simp; omega) (fun i h1 h2=>by
     obtain ⟨ds,_,_,h5,_⟩:=hxs i h1
     simpa using h5 (by simpa using h2))
    omega
   ·unfold maxLen at hmx
    refine ⟨show xs.length≤_ by omega,fun x hx=>?_⟩
    obtain ⟨i,hi,rfl⟩:=List.mem_iff_getElem.1 hx
    obtain ⟨_,_,_,_,h6⟩:=hxs i hi
    exact h6
 | pair a b iha ihb=>
  refine ⟨fun _ _ _ _ _ h=>h.elim,fun fs off n cs xs ht hl hx hf=>?_⟩
  cases fs with
  | nil=>exact ht.elim
  | cons f fs=>
   cases xs with
   | nil=>simp at hx
   | cons x0 xs=>
    obtain ⟨h1,h2,h3,h4⟩:=ht
    have hca:P.cellsOf f.type=a.size:=AA (fM.info h2)
    have h5:=hf 0 f rfl
    rw [h1,hca] at h5
    simp only [List.getElem?_cons_zero] at h5
    obtain ⟨x,g1,g2,l1⟩:=iha.1 f.type n _ x0.1 x0.2 h2 h5
    obtain ⟨y,g3,g4,l2⟩:=ihb.2 fs (off+a.size) n cs xs h4 (by simp [K.size] at hl; omega) (by simpa using hx) (fun i f' hi=>by
     have:=hf (i+1) f' (by simpa using hi)
     simpa using this)
    refine ⟨(x,y),⟨(cs.drop off).take a.size,cs.drop (off+a.size), ?_,g1,g3⟩, ?_,l1,l2⟩
    ·rw [←List.drop_drop,List.take_append_drop]
    ·simp only [VA,List.map_cons,Jt]
     omega
 | st c ih=>
  refine ⟨fun t n cs d ps ht h=>?_,fun _ _ _ _ _ h=>h.elim⟩
  obtain ⟨⟨fs,hu,hfs⟩,hinfo⟩:=ht
  obtain ⟨xs,m,rfl,e1,hl,hlen,hf⟩:=DataW.trod_struct hu h
  simp only [apo] at e1
  obtain ⟨rfl,rfl⟩:=e1
  obtain ⟨x,g1,g2,l1⟩:=ih.2 fs.toList 0 m cs xs hfs (by rw [hl,AA hinfo]; simp [K.size]) (by simpa using hlen) (fun i f hi=>hf i f (by simpa using hi))
  refine ⟨x,by simp only [List.drop_zero] at g1; exact g1, ?_,l1⟩
  simp only [VA,dsz]
  omega
theorem YS:∀{k:K} {fs:List Field} {off:Nat},(jU P T k).2 fs off→∀f∈fs,∃k',(jU P T k').1 f.type:=by
 intro k
 induction k with
 | pair a b iha ihb=>
  intro fs off h f hf
  cases fs with
  | nil=>simp at hf
  | cons f0 fs=>
   rcases apq.1 hf with h1 | h1
   ·subst h1; exact ⟨a,h.2.1⟩
   ·exact ihb h.2.2.2 f h1
 | unit=>intro fs off h f hf; rw [show fs=[] from h] at hf; simp at hf
 | _=>intro fs off h; exact h.elim
theorem ace [Fr] (hid:T.ids=false) {sp:Nat→Bool} (hsp:∀b,b<W.heap.size→sp b=true):∀(n:Nat) (t:TypeId) (k:K) (cs:List Value) (x:DataW H×List MemPlace),(jU P T k).1 t→DataW.trod enc P W 0 (fun _=>true) true n t cs=some x→DataW.trod enc P W 0 sp true n t cs=some x:=by
 intro n
 induction n with
 | zero=>intro t k cs x _ h; simp [DataW.trod] at h
 | succ n ih=>
  intro t k cs x ht h
  cases k with
  | int ik=>obtain ⟨m,rfl,rfl,hw⟩:=DataW.trod_int ht.1 h; simp [DataW.trod,ht.1,hw]
  | bool=>obtain ⟨m,rfl,rfl⟩:=DataW.trod_bool ht.1 h; simp [DataW.trod,ht.1]
  | str=>obtain ⟨m,rfl,rfl,hw⟩:=DataW.trod_string ht.1 h; simp [DataW.trod,ht.1,hw]
  | unit=>exact ht.elim
  | gap n=>exact ht.elim
  | id e=>have:=ht.2.2; rw [hid] at this; simp at this
  | pair a b=>exact ht.elim
  | st c=>
   obtain ⟨⟨fs,hu,hfs⟩,_⟩:=ht
   obtain ⟨xs,m,e,rfl,hl,hlen,hf⟩:=DataW.trod_struct hu h
   have e':m=n:=by omega
   subst e'
   refine ChangeShapes.trod_struct_mk hu hl (mapM_some_of_get _ _ (by simpa using hlen) fun i f hi=>?_)
   have hi':i<xs.length:=by
    have:=(List.getElem?_eq_some_iff.1 hi).1
    simp at this
    omega
   have h1:=hf i f (by simpa using hi)
   rw [aps hi'] at h1 ⊢
   obtain ⟨k',hk'⟩:=YS hfs f (List.mem_of_getElem? hi)
   exact ih f.type k' _ _ hk' h1
  | sl e k=>
   obtain ⟨hu,_,hte,hk0,_⟩:=ht
   have hce:P.cellsOf e=k.size:=AA (fM.info hte)
   rcases DataW.trod_slice hu h with ⟨rfl,rfl⟩ | ⟨a,len,cap,_,_,_,_,rfl,_⟩
   ·simp [DataW.trod,hu]
   ·unfold DataW.trod at h ⊢
    rw [hu] at h ⊢
    simp only [hce] at h ⊢
    split at h
    ·rename_i hc
     rw [if_pos hc]
     obtain ⟨elems,he,h⟩:=Option.bind_eq_some_iff.1 h
     obtain ⟨rest,hr,hd⟩:=Option.map_eq_some_iff.1 h
     have hstep:∀i y,(W.cells? 0 (a.add (i * k.size)) k.size).bind (DataW.trod enc P W 0 (fun _=>true) true n e)=some y→(W.cells? 0 (a.add (i * k.size)) k.size).bind (DataW.trod enc P W 0 sp true n e)=some y:=by
      intro i y h
      obtain ⟨ds,h1,h2⟩:=Option.bind_eq_some_iff.1 h
      exact Option.bind_eq_some_iff.2 ⟨ds,h1,ih e k ds y hte h2⟩
     refine Option.bind_eq_some_iff.2 ⟨elems,mapM_carry he (fun i y _ _ hy=>hstep i y hy),Option.map_eq_some_iff.2 ⟨rest, ?_,hd⟩⟩
     simp only [if_true] at hr
     cases hs:sp a.block with
     | true=>
      simp only [if_true]
      exact mapM_carry hr (fun i y _ _ hy=>hstep _ y hy)
     | false=>
      simp only [apg,if_false]
      cases hcl:cap - len with
      | zero=>rw [hcl] at hr; simpa using hr
      | succ m=>
       exfalso
       rw [hcl] at hr
       have h1:=mapM_some_get hr 0 0 (by simp)
       have hlr:rest.length=m+1:=by simpa using mapM_some_length hr
       rw [aps (by omega)] at h1
       obtain ⟨ds,h2,_⟩:=Option.bind_eq_some_iff.1 h1
       have h3:=World.cells?_block h2 hk0
       have h4:(a.add ((len+0) * k.size)).block=a.block:=by unfold Addr.add; split <;> rfl
       rw [h4] at h3
       rw [hsp _ h3] at hs
       simp at hs
    ·simp at h
end
end
section
open Go
section
variable {P:Program} {T:ji} {W W':World} {H:Type} {enc:TypeId×Value→H}
def KC (P:Program) (T:ji):List cZ→List TypeId→Prop
 | [],[]=>True
 | .val k [] :: ps,t :: ts=>fM P T t k∧KC P T ps ts
 | _,_=>False
def szC:(ps:List cZ)→Cont (kin ps)→Nat
 | .val k _ :: ps,c=>VA k c.1+szC ps c.2
 | _,_=>0
def abS:(ps:List cZ)→Cont (kin ps)→Prop
 | .val k _ :: ps,c=>Cm k c.1∧abS ps c.2
 | _,_=>True
theorem aiD [Fr] {t:TypeId} {k:K} {v:Value} {base:Nat} {x:El k} {ok:Nat→Prop} (ht:fM P T t k) (hv:Value.okWide P W .any base t v) (hV:Vw (hp W) ok k x v.cells.toList):VC k v v.cells.toList:=by
 have hplain:∀{u:Value},(∀y,v≠.agg y)→v.cells.toList=[u]→VC k v v.cells.toList∨∃c,k=.st c:=by
  intro u hn hu
  cases k with
  | st c=>exact .inr ⟨c,rfl⟩
  | _=>
   refine .inl ⟨?_,hn⟩
   cases v <;> first | rfl | exact absurd rfl (hn _)
 unfold fM jU at ht
 cases k with
 | st c=>
  obtain ⟨⟨fs,hu,_⟩,_⟩:=ht
  unfold Value.okWide at hv
  rw [hu] at hv
  obtain ⟨cs,rfl,_⟩:=hv
  show Value.agg cs=.agg (cs.toList).toArray
  simp
 | unit=>exact ht.elim
 | pair a b=>exact ht.elim
 | gap n=>exact ht.elim
 | int ik=>
  unfold Value.okWide at hv
  rw [ht.1] at hv
  refine ⟨?_, ?_⟩ <;> cases v <;> simp_all [Cell.okWide,Cell.ok,Value.cells]
 | bool=>
  unfold Value.okWide at hv
  rw [ht.1] at hv
  refine ⟨?_, ?_⟩ <;> cases v <;> simp_all [Cell.okWide,Cell.ok,Value.cells]
 | id e=>
  unfold Value.okWide at hv
  rw [ht.1] at hv
  refine ⟨?_, ?_⟩ <;> cases v <;> simp_all [Cell.okWide,Cell.ok,Value.cells]
 | str=>
  unfold Value.okWide at hv
  rw [ht.1] at hv
  refine ⟨?_, ?_⟩ <;> cases v <;> simp_all [Cell.okWide,Cell.ok,Value.cells]
 | sl e k=>
  unfold Value.okWide at hv
  rw [ht.1] at hv
  refine ⟨?_, ?_⟩ <;> cases v <;> simp_all [Cell.okWide,Cell.ok,Value.cells]
theorem Om [Fr] (hid:T.ids=false) (hfr:∀b,b<W.heap.size→Fr.free b):∀{ps:List cZ} {ts:List TypeId} {vs:List Value} {ds:List (DataW H)} {p:List MemPlace} {base:Nat},KC P T ps ts→DataW.TrodAll enc P W 0 (fun _=>true) true ts vs ds p→
  (∀(j:Nat) t v,ts[j]?=some t→vs[j]?=some v→Value.okWide P W .any base t v)→∃c,KF W ps c vs∧szC ps c≤Jt ds∧ds.length=ps.length∧abS ps c
 | [],[],vs,ds,p,_,_,h,_=>by
  obtain ⟨rfl,rfl,_⟩:=ChangeShapes.trodAll_nil h
  exact ⟨(),trivial,apu _,rfl,trivial⟩
 | .val k [] :: ps,t :: ts,vs,ds,p,base,hp1,h,hv=>by
  obtain ⟨v,vs',d,ds',p1,q,rfl,rfl,rfl,⟨n,h1⟩,h2⟩:=ChangeShapes.trodAll_cons h
  obtain ⟨c,g1,g2,g3,g4⟩:=Om hid hfr hp1.2 h2 (fun j t v ht hv'=>hv (j+1) t v (by simpa using ht) (by simpa using hv'))
  obtain ⟨x,f1,f2,f3⟩:=(XW (T:=T) (enc:=enc) hid hfr k).1 t n _ d p1 hp1.1 h1
  refine ⟨(x,c),⟨⟨_,aiD hp1.1 (hv 0 t v rfl rfl) f1,f1⟩,g1⟩, ?_,by simp [g3],f3,g4⟩
  simp only [szC,Jt]
  omega
 | [],_ :: _,_,_,_,_,h,_,_=>h.elim
 | .val _ [] :: _,[],_,_,_,_,h,_,_=>h.elim
 | .val _ (_ :: _) :: _,ts,_,_,_,_,h,_,_=>by cases ts <;> exact h.elim
 | .ro _ :: _,ts,_,_,_,_,h,_,_=>by cases ts <;> exact h.elim
 | .rw _ _ _ _ :: _,ts,_,_,_,_,h,_,_=>by cases ts <;> exact h.elim
 | .jl _ _ _ :: _,ts,_,_,_,_,h,_,_=>by cases ts <;> exact h.elim
 | .own _ _ :: _,ts,_,_,_,_,h,_,_=>by cases ts <;> exact h.elim
 | .fn _ _ :: _,ts,_,_,_,_,h,_,_=>by cases ts <;> exact h.elim
 | .into _ _ :: _,ts,_,_,_,_,h,_,_=>by cases ts <;> exact h.elim
theorem UJ (hO:QD W W') {p:MemPlace} (hp1:p.block<W.heap.size):W.sameAt W' p:=by
 have h:=hO.2.2.2 p.block hp1
 cases p with
 | cell b off=>
  have h':W'.heap[b]?=W.heap[b]?:=h
  show W'.cell? _=W.cell? _
  unfold World.cell?
  simp only [h']
 | map b=>exact h
theorem Mv [Fr] (hid:T.ids=false) (hO:QD W W') {sp:Nat→Bool} (hsp:∀b,b<W.heap.size→sp b=true):∀{ps:List cZ} {ts:List TypeId} {vs:List Value} {ds:List (DataW H)} {p:List MemPlace},KC P T ps ts→DataW.TrodAll enc P W 0 (fun _=>true) true ts vs ds p→
  DataW.TrodAll enc P W' 0 sp true ts vs ds p
 | [],[],vs,ds,p,_,h=>by
  obtain ⟨rfl,rfl,rfl⟩:=ChangeShapes.trodAll_nil h
  exact rfl
 | .val k [] :: ps,t :: ts,vs,ds,p,hp1,h=>by
  obtain ⟨v,vs',d,ds',p1,q,rfl,rfl,rfl,⟨n,h1⟩,h2⟩:=ChangeShapes.trodAll_cons h
  have h3:=Mv hid hO hsp hp1.2 h2
  have h4:=ace hid hsp n t k _ _ hp1.1 h1
  exact ⟨p1,q,⟨n,DataW.trod_carry n t _ _ h4 (fun p hp2=>UJ hO (DataW.trod_lt n t _ _ h1 p hp2))⟩,h3,rfl⟩
 | [],_ :: _,_,_,_,h,_=>h.elim
 | .val _ [] :: _,[],_,_,_,h,_=>h.elim
 | .val _ (_ :: _) :: _,ts,_,_,_,h,_=>by cases ts <;> exact h.elim
 | .ro _ :: _,ts,_,_,_,h,_=>by cases ts <;> exact h.elim
 | .rw _ _ _ _ :: _,ts,_,_,_,h,_=>by cases ts <;> exact h.elim
 | .jl _ _ _ :: _,ts,_,_,_,h,_=>by cases ts <;> exact h.elim
 | .own _ _ :: _,ts,_,_,_,h,_=>by cases ts <;> exact h.elim
 | .fn _ _ :: _,ts,_,_,_,h,_=>by cases ts <;> exact h.elim
 | .into _ _ :: _,ts,_,_,_,h,_=>by cases ts <;> exact h.elim
theorem ZM (hO:QD W W') (may:MemPlace→Prop):W.keptBut W' may:=by
 refine ⟨hO.1,hO.2.1,fun i hi=>?_⟩
 have h:W'.heap[i]?=W.heap[i]?:=hO.2.2.2 i hi
 rw [h]
 cases W.heap[i]? with
 | none=>rfl
 | some o=>
  cases o with
  | cells c t fr=>exact ⟨rfl,rfl,rfl,fun _ _=>rfl⟩
  | map es clock=>exact .inr ⟨rfl,rfl⟩
  | _=>rfl
abbrev aea (W:World):Fr:=⟨fun b=>b<W.heap.size,hp W,fun _=>.slice none 0 0,rfl,fun _=>⟨none,0,0,rfl⟩⟩
theorem PU {f:FuncId} {fn:Func} {code:Code} {ps:List cZ} {F:Nat→Cont (kin ps)→Option (Cont (ig [.val .bool [] []]++jL ps))} {s:ChangeSpec} {tb:TypeId} {N:Nat}
  (hf:P.funcs[f]?=some fn) (hname:(fn.name == "runtime.NumGoroutine")=false) (hbody:fn.body=some code) (hps:KC P T ps fn.params.toList) (hres:fn.resultTypes=#[tb]) (htb:P.underlying tb=some .bool)
  (hE:letI:=aea W; ∀n,ak P n ⟨f,ps,[.val .bool [] []],F⟩) (amh:∀c:Cont (kin ps),abS ps c→szC ps c≤N→∃n out,F n c=some out∧out.1=true)
  (hvars:s.vars=[]) (hspec:∀ds:List (DataW H),ds.length=ps.length→s.fn H ds={ results:=[.lit (.bool true)],args:=ds })
  {base:Nat} {args:Array Value} {ds gs:List (DataW H)} {before:List MemPlace}
  (hval:∀(j:Nat) t v,fn.params[j]?=some t→args[j]?=some v→Value.okWide P W .any base t v)
  (hW:DataW.Whole enc P fn.params.toList s.vars false W args.toList ds gs before) (hb:Jt (ds++gs)≤N) (hid:T.ids=false:=by rfl) :
  Calls P f args W fun e W'=>∃v,e=.returned v∧s.post enc P fn false true false false W args v W':=by
 letI fr:Fr:=aea W
 have hW':=hW
 obtain ⟨p,q,hA,hV,hpq,hfz,hnd⟩:=hW
 rw [hvars] at hV
 obtain ⟨rfl,rfl⟩:=ChangeShapes.trodVars_none hV
 rw [apH] at hb
 obtain ⟨c,h1,h2,h3,h6⟩:=Om (T:=T) hid (fun b hb=>hb) hps hA (fun j t v ht hv=>hval j t v (by simpa using ht) (by simpa using hv))
 obtain ⟨n,out,h4,h5⟩:=amh c h6 (by omega)
 refine (ZN (fun b hb=>⟨hb,rfl⟩) (hE n) h4 h5 h1 (Go.MuLone.run_callFunc_enter hf hname hbody args W)).mono ?_
 rintro e W' ⟨rfl,hO⟩
 have hsp:=hspec ds h3
 rw [apH] at hpq
 refine ⟨_,rfl,ds,[],before,[],p,[],hW', ?_, ?_, ?_,ZM hO _,fun h=>by simp at h⟩
 ·rw [apH,hsp,hres]
  exact ⟨[],[],⟨1,by simp [DataW.trod,Value.cells,htb]⟩,rfl,rfl⟩
 ·rw [apH,hsp]
  exact Mv hid hO (fun b hb=>by simpa using hb) hps hA
 ·rw [apH,hsp,hvars]
  exact rfl
end
end
end Go.Proofs.YtdknpknohipffaaGreat.Ow
