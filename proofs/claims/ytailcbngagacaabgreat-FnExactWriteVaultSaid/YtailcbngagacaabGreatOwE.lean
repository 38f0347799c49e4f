/- A verified reading of translated code: values in place of memory; part E of 6, spaces and remarks taken out. No condition. Own work of this seat. -/
import Derived.Test.YtailcbngagacaabGreatOwD
import Derived.Test.YtailcbngagacaabGreatOwC
set_option linter.unusedSectionVars false
set_option linter.unusedVariables false
set_option linter.unusedSimpArgs false
namespace Go.Proofs.YtailcbngagacaabGreat.Ow
section
open Go
variable [Fr]
structure GA where
 v:Value
 cs:List Value
 fo:List Nat
 base:Option (Nat×Nat)
 ow:Bool
 wb:Bool
def AX (p:dG) (i:Nat) (c:Cont p.kin):AV:=match p,c with
 | .val k ig,c=>.val k c.1 (bif k.flat then [] else (pY i,0) :: ig.map fun j=>(ay j,0))
 | .ro k,c=>.iZ SENT k c.1 [(pY i,0)]
 | .rw _ _ _ _,_=>.ptr (ay i) [] 0
 | .jK _ _ _,_=>.ref (ay i) 0
 | .own _ _,_=>.ref (ay i) 0
 | .fn f ks,c=>.fn f (jE.zf i ks c)
 | .into _ _,_=>.iQ
def dP (p:dG) (i:Nat) (c:Cont p.kin):Option Root:=match p,c with
 | .rw k ow _ _,c=>some (aL k c.1 ow (bif k.tys.all (fun t=>az t ow) then [] else [(pY i,0)]) .par true)
 | .jK k ow _,c=>some { aL k c.1 ow (bif k.tys.all (fun t=>az t ow) then [] else [(pY i,0)]) .anon true with fixed:=true }
 | .own k ow,c=>some (aL k c.1 ow (bif k.tys.all (fun t=>az t ow) then [] else [(pY i,0)]) .anon)
 | _,_=>none
def Xv:(p:dG)→(ps:List dG)→Cont (kin (p :: ps))→Cont p.kin
 | .val _ _,_,c=>(c.1,())
 | .ro _,_,c=>(c.1,())
 | .rw _ _ _ _,_,c=>(c.1,())
 | .jK _ _ _,_,c=>(c.1,())
 | .own _ _,_,c=>(c.1,())
 | .fn _ ks,ps,c=>Cont.fst ks (kin ps) c
 | .into _ p,ps,c=>Cont.fst (dG.into 0 p).kin (kin ps) c
def tlC:(p:dG)→(ps:List dG)→Cont (kin (p :: ps))→Cont (kin ps)
 | .val _ _,_,c=>c.2
 | .ro _,_,c=>c.2
 | .rw _ _ _ _,_,c=>c.2
 | .jK _ _ _,_,c=>c.2
 | .own _ _,_,c=>c.2
 | .fn _ ks,ps,c=>Cont.snd ks (kin ps) c
 | .into _ p,ps,c=>Cont.snd (dG.into 0 p).kin (kin ps) c
theorem CO (p:dG) (ps:List dG) (i:Nat) (c:Cont (kin (p :: ps))):jE (p :: ps) i c=(i,AX p i (Xv p ps c)) :: jE ps (i+1) (tlC p ps c):=by cases p <;> rfl
theorem vS (p:dG) (ps:List dG) (i:Nat) (c:Cont (kin (p :: ps))):gG (p :: ps) i c=(match dP p i (Xv p ps c) with
 | some R=>[(ay i,R)]
 | none=>[])++gG ps (i+1) (tlC p ps c):=by cases p <;> rfl
theorem Qm {i j:Nat} (h:ay i=ay j):i=j:=by unfold ay at h; omega
theorem GK:∀(ps:List dG) (i:Nat) (c:Cont (kin ps)) (s:Nat),rR (jE ps i c) s=.one .undef∨∃j p cj,s=i+j∧ps[j]?=some p∧rR (jE ps i c) s=.one (AX p s cj)
 | [],i,c,s=>.inl rfl
 | p :: ps,i,c,s=>by
  rw [CO]
  simp only [rR]
  by_cases h:s=i
  ·subst h
   refine .inr ⟨0,p,Xv p ps c,rfl,rfl, ?_⟩
   simp
  ·have:Nat.beq s i=false:=by
    cases hb:Nat.beq s i with
    | true=>exact absurd (anl hb) h
    | false=>rfl
   rw [this]
   simp only [cond_false]
   rcases GK ps (i+1) (tlC p ps c) s with h1 | ⟨j,q,cj,h1,h2,h3⟩
   ·exact .inl h1
   ·exact .inr ⟨j+1,q,cj,by omega,by simpa using h2,h3⟩
theorem yC (l m:List (Nat×Root)) (n:Nat):gI (l++m) n=match gI l n with
 | some R=>some R
 | none=>gI m n:=by
 induction l with
 | nil=>rfl
 | cons q l ih=>
  obtain ⟨s,a⟩:=q
  simp only [List.cons_append,gI]
  cases Nat.beq n s with
  | true=>rfl
  | false=>exact ih
theorem MG:∀(ps:List dG) (i:Nat) (c:Cont (kin ps)) (r:Nat),r<ay i→gI (gG ps i c) r=none
 | [],_,_,_,_=>rfl
 | p :: ps,i,c,r,h=>by
  rw [vS,yC]
  have h2:=MG ps (i+1) (tlC p ps c) r (by unfold ay at h ⊢; omega)
  cases dP p i (Xv p ps c) with
  | none=>exact h2
  | some R=>
   have:Nat.beq r (ay i)=false:=by
    cases hb:Nat.beq r (ay i) with
    | true=>have:=anl hb; omega
    | false=>rfl
   simp only [gI,this,cond_false]
   exact h2
def Np (cx:Cx) (σ:St) (α:dL) (F:List Nat) (a:Act) (w:World) (r:Nat) (R:Root) (p:List Stp) (d:Dat) (cs1:List Value) (nE:Option (Nat×Nat)) (fK:List Nat):Prop:=
 ∃rest,(α.fo r).Perm (fK++rest)∧(∀b o,nE=some (b,o)→b∈rest∨∃o0,dV α R r=some (b,o0)∧o0≤o∧o+d.1.size≤o0+R.k.size)∧(∀b o,nE=some (b,o)→b∉fK)∧
  ∀{t z:Dat} {tags':List Tag} {lw lh:List TypeId} {kp:Bool} {ft F':List Nat} {cs':List Value} {w':World},sJ cx σ α F w r R p d R.own cs1 nE fK rest t z tags' lw lh kp ft F' cs' w'→
    ∃α',Rel cx (au σ r (bH R z R.own tags' lw lh kp)) α' F' a w'∧ni cx σ α F w (au σ r (bH R z R.own tags' lw lh kp)) α' F' w' (sU r lw) (sU r lh)∧(∀b∈blk α' (bH R z R.own tags' lw lh kp) r,(∃o,dV α R r=some (b,o))∨b∈ft∨b∈rest)∧
     (qo∉lh→bu (au σ r (bH R z R.own tags' lw lh kp)) (bH R z R.own tags' lw lh kp)→bG (hp w') p z.1 (α'.hdr r) (dV α' (bH R z R.own tags' lw lh kp) r)=some (cs',nE))∧∀b∈ft,b∈α'.fo r
def V5 (cx:Cx) (σ:St) (α:dL) (F:List Nat) (a:Act) (w:World) (p:dG) (c:Cont p.kin) (v:Value) (i:cK) (g:GA):Prop:=g.v=v∧match p,c with
 | .val k _,c=>g.ow=false∧g.wb=false∧i.wb=none∧g.fo=[]∧g.base=none∧VC k v g.cs∧Vw (hp w) (iL cx σ α F w i.ids) k c.1 g.cs
 | .ro k,c=>g.ow=false∧g.wb=false∧i.wb=none∧g.fo=[]∧g.base=none∧∃b o,v=.pointer (some ⟨b,o,none⟩)∧Cells (hp w) b o g.cs∧Vw (hp w) (iL cx σ α F w i.ids) k c.1 g.cs∧Kw σ α F w i.ids b
 | .rw k ow wt ht,c=>g.ow=false∧g.wb=true∧∃r R p b o,PlG cx σ α w k c.1 ow i wt ht r R p∧i.bt=[eP R p]∧bG (hp w) p R.k (α.hdr r) (dV α R r)=some (g.cs,some (b,o))∧v=.pointer (some ⟨b,o,none⟩)∧g.base=some (b,o)∧
   Ow (hp w) R.own (iL cx σ α F w R.tags) k c.1 g.cs g.fo∧(∀b∈g.fo,b∈α.fo r)∧g.fo.Nodup∧b∉g.fo∧Np cx σ α F a w r R p ⟨k,c.1⟩ g.cs (some (b,o)) g.fo
 | .jK k ow wt,c=>g.ow=false∧g.wb=true∧∃r R p wh,PlG cx σ α w k c.1 ow i wt k.tys r R p∧i.bt=[]∧bG (hp w) p R.k (α.hdr r) (dV α R r)=some (g.cs,wh)∧VC k v g.cs∧g.base=none∧
   Ow (hp w) R.own (iL cx σ α F w R.tags) k c.1 g.cs g.fo∧(∀b∈g.fo,b∈α.fo r)∧g.fo.Nodup∧Np cx σ α F a w r R p ⟨k,c.1⟩ g.cs wh g.fo
 | .own k ow,c=>g.ow=true∧g.wb=false∧i.wb=none∧g.base=none∧VC k v g.cs∧Ow (hp w) ow (iL cx σ α F w i.ids) k c.1 g.cs g.fo∧(∀b∈g.fo,b∈F)∧g.fo.Nodup
 | .fn f ks,c=>g.ow=false∧g.wb=false∧i.wb=none∧g.fo=[]∧g.base=none∧∃us:List Value,v=.func (.func f) #[] us.toArray∧Ta ks c us i.ids
 | .into _ _,_=>g.ow=false∧g.wb=false∧i.wb=none∧g.fo=[]∧g.base=none∧∃b,v=.slice b 0 0
where Ta:(ks:List K)→Cont ks→List Value→List Tag→Prop
 | [],_,[],_=>True
 | k :: ks,c,v :: vs,ids=>(∃b o cs,v=.pointer (some ⟨b,o,none⟩)∧Cells (hp w) b o cs∧Vw (hp w) (iL cx σ α F w ids) k c.1 cs∧Kw σ α F w ids b)∧Ta ks c.2 vs ids
 | _,_,_,_=>False
def Y2 (cx:Cx) (σ:St) (α:dL) (F:List Nat) (a:Act) (w:World):(ps:List dG)→Cont (kin ps)→List Value→List cK→List GA→Prop
 | [],_,[],[],[]=>True
 | p :: ps,c,v :: vs,i :: is,g :: gs=>V5 cx σ α F a w p (Xv p ps c) v i g∧Y2 cx σ α F a w ps (tlC p ps c) vs is gs
 | _,_,_,_,_=>False
section
variable {P:Program} {T:iT} {cx:Cx} {σ:St} {α:dL} {F:List Nat} {a:Act} {w:World}
theorem Cf.caps {σ1:St} {dK:dL} {F1:List Nat} {ids:List Tag} (hT:Tk cx σ α F a w σ1 dK F1 ids):∀{ks:List K} {c:Cont ks} {us:List Value},Cf cx σ α F a w ids ks c us→V5.Ta cx σ1 dK F1 w ks c us ids
 | [],_,[],_=>trivial
 | _ :: _,_,_ :: _,⟨⟨b,o,cs,h1,h2,h3⟩,hh⟩=>⟨⟨b,o,cs,h1,h2,h3 σ1 dK F1 hT⟩,Cf.caps hT hh⟩
 | [],_,_ :: _,hh=>hh.elim
 | _ :: _,_,[],hh=>hh.elim
theorem Rb {σ1:St} {dK:dL} {F1:List Nat} (H1:Rel cx σ1 dK F1 a w) (hV:Views cx σ α F w σ1 dK F1 w):∀{ps:List dG} {c:Cont (kin ps)} {vs:List Value} {is:List cK} {ts:List (Value×iy)} {hs:List (List Value×List Nat)},
  Tc cx σ α F a w ps c vs is ts→ry cx σ1 dK F1 w ts hs→(∀i∈is,∀t∈i.ids,Same σ α σ1 dK t.1)→(∀i∈is,∀r q,i.wb=some (r,q)→Same σ α σ1 dK r)→
  ∃gs,Y2 cx σ1 dK F1 a w ps c vs is gs∧(gs.flatMap fun g=>bif g.ow then g.fo else [])=hs.flatMap (·.2):=by
 intro ps
 induction ps with
 | nil=>
  intro c vs is ts hs h hh _ _
  cases vs with
  | cons _ _=>exact h.elim
  | nil=>cases is with
   | cons _ _=>exact h.elim
   | nil=>cases ts with
    | cons _ _=>exact h.elim
    | nil=>cases hs with
     | cons _ _=>exact hh.elim
     | nil=>exact ⟨[],trivial,rfl⟩
 | cons p ps ih=>
  intro c vs is ts hs h hh hS hR
  have hpl:∀{k:K} {x:El k} {ow:List TypeId} {i:cK} {wt ht:List TypeId} {r:Nat} {R:Root} {p:List Stp} {cs:List Value} {wh:Option (Nat×Nat)},PlG cx σ α w k x ow i wt ht r R p→(∀t∈i.ids,Same σ α σ1 dK t.1)→Same σ α σ1 dK r→
    bG (hp w) p R.k (α.hdr r) (dV α R r)=some (cs,wh)→PlG cx σ1 dK w k x ow i wt ht r R p∧bG (hp w) p R.k (dK.hdr r) (dV dK R r)=some (cs,wh)∧
     ∃fo,Ow (hp w) R.own (iL cx σ1 dK F1 w R.tags) k x cs fo∧(∀b∈fo,b∈dK.fo r)∧fo.Nodup∧(∀b o,wh=some (b,o)→b∉fo)∧Np cx σ1 dK F1 a w r R p ⟨k,x⟩ cs wh fo:=by
   intro k x ow i wt ht r R p cs wh hP hid hr hn
   have hr1:=(hr.live R).2 hP.lv
   have hv1:bu σ1 R:=⟨hP.vl.1,by rw [fC (fun t ht=>(hid t (by rw [hP.ids]; exact ht)).root)]; exact hP.vl.2⟩
   have hn1:bG (hp w) p R.k (dK.hdr r) (dV dK R r)=some (cs,wh):=by rw [hr.hdr,hr.wh]; exact hn
   have K:=H1.roots r R hr1
   have hnd:=K.nd
   rw [bV,nu] at hnd
   obtain ⟨fd,ok',fK,rest,pM,wh2,hn',hpf,hd1,hty,hall,zB,hwf,hgo⟩:=H1.place hr1 hv1 (own':=R.own) hP.get hP.pin (fun _ h=>h) hP.own
   rw [hn1] at hn'
   simp only [anh,ant] at hn'
   obtain ⟨rfl,rfl⟩:=hn'
   obtain ⟨hfd,hO⟩:=hall (fun _ _=>rfl)
   subst hfd
   rw [anM] at hpf
   have qN:=hpf.nodup hnd.2
   exact ⟨⟨hP.wb,hP.ws,hP.ids,hr1,hv1,hP.get,hP.pin,hP.own,hP.just⟩,hn1,fK,hO,fun b hb=>hpf.mem_iff.2 (anm _ hb),(ano.1 qN).1,hwf,rest,hpf,zB,hwf,hgo⟩
  cases vs with
  | nil=>cases p <;> exact h.elim
  | cons v vs=>
   cases is with
   | nil=>cases p <;> exact h.elim
   | cons i is=>
    have hS1:=hS i (by simp)
    have hR1:=hR i (by simp)
    have Tx:Tk cx σ α F a w σ1 dK F1 i.ids:=⟨H1,hV,hS1⟩
    have hS2:∀i∈is,∀t∈i.ids,Same σ α σ1 dK t.1:=fun i hi=>hS i (by simp [hi])
    have hR2:∀i∈is,∀r q,i.wb=some (r,q)→Same σ α σ1 dK r:=fun i hi=>hR i (by simp [hi])
    cases p with
    | val k ig=>
     obtain ⟨⟨h1,h2,h3,cs,h4,h5⟩,h6⟩:=h
     obtain ⟨gs,g1,g2⟩:=ih h6 hh hS2 hR2
     exact ⟨⟨v,cs,[],none,false,false⟩ :: gs,⟨⟨rfl,rfl,rfl,h1,rfl,rfl,h4,h5 σ1 dK F1 Tx⟩,g1⟩,by simpa using g2⟩
    | ro k=>
     obtain ⟨⟨h1,h2,h3,b,o,cs,h4,h5,h7⟩,h6⟩:=h
     obtain ⟨gs,g1,g2⟩:=ih h6 hh hS2 hR2
     exact ⟨⟨v,cs,[],none,false,false⟩ :: gs,⟨⟨rfl,rfl,rfl,h1,rfl,rfl,b,o,h4,h5,h7 σ1 dK F1 Tx⟩,g1⟩,by simpa using g2⟩
    | rw k ow wt ht=>
     obtain ⟨⟨r,R,p,hP,hbt,cs,b,o,hn,hv⟩,h6⟩:=h
     obtain ⟨gs,g1,g2⟩:=ih h6 hh hS2 hR2
     obtain ⟨q1,q2,fo,q3,q4,q5,q6,q7⟩:=hpl hP hS1 (hR1 r _ hP.wb) hn
     exact ⟨⟨v,cs,fo,some (b,o),false,true⟩ :: gs,⟨⟨rfl,rfl,rfl,r,R,p,b,o,q1,hbt,q2,hv,rfl,q3,q4,q5,q6 b o rfl,q7⟩,g1⟩,by simpa using g2⟩
    | jK k ow wt=>
     obtain ⟨⟨r,R,p,hP,hbt,cs,wh,hn,hv⟩,h6⟩:=h
     obtain ⟨gs,g1,g2⟩:=ih h6 hh hS2 hR2
     obtain ⟨q1,q2,fo,q3,q4,q5,q6,q7⟩:=hpl hP hS1 (hR1 r _ hP.wb) hn
     exact ⟨⟨v,cs,fo,none,false,true⟩ :: gs,⟨⟨rfl,rfl,rfl,r,R,p,wh,q1,hbt,q2,hv,rfl,q3,q4,q5,q7⟩,g1⟩,by simpa using g2⟩
    | own k ow=>
     cases ts with
     | nil=>exact h.elim
     | cons q ts=>
      cases hs with
      | nil=>exact hh.elim
      | cons hd hs=>
       obtain ⟨⟨h1,h2,h3,⟨ek,ey⟩,h5⟩,h6⟩:=h
       obtain ⟨⟨k1,k2,k3⟩,k4⟩:=hh
       obtain ⟨gs,g1,g2⟩:=ih h6 k4 hS2 hR2
       obtain ⟨v',tk⟩:=q
       simp only at h1 h2 h3 ek ey h5 k1 k2 k3
       subst h1
       have hO:Ow (hp w) ow (iL cx σ1 dK F1 w tk.tags) k c.1 hd.1 hd.2:=by
        refine rF (fun t ht=>?_) (y7 ek ey (k2.ow k3))
        have:=anx.1 h5 t ht
        exact (by simpa using this:az t tk.own=az t ow).symm
       refine ⟨⟨v',hd.1,hd.2,none,true,false⟩ :: gs,⟨⟨rfl,rfl,rfl,by rw [h3],rfl,ek▸k1,by rw [h3]; exact hO,k2.sub,k2.nd⟩,g1⟩,by simp [g2]⟩
    | fn f ks=>
     obtain ⟨⟨h1,h2,h3,us,h4,h5⟩,h6⟩:=h
     obtain ⟨gs,g1,g2⟩:=ih h6 hh hS2 hR2
     exact ⟨⟨v,[],[],none,false,false⟩ :: gs,⟨⟨rfl,rfl,rfl,h1,rfl,rfl,us,h4,h5.caps Tx⟩,g1⟩,by simpa using g2⟩
    | into j q=>
     obtain ⟨⟨h1,h2,h3,b,h4⟩,h6⟩:=h
     obtain ⟨gs,g1,g2⟩:=ih h6 hh hS2 hR2
     exact ⟨⟨v,[],[],none,false,false⟩ :: gs,⟨⟨rfl,rfl,rfl,h1,rfl,rfl,b,h4⟩,g1⟩,by simpa using g2⟩
theorem Y2.at:∀{ps:List dG} {c:Cont (kin ps)} {vs:List Value} {is:List cK} {gs:List GA} {i0:Nat},Y2 cx σ α F a w ps c vs is gs→
  vs.length=ps.length∧is.length=ps.length∧gs.length=ps.length∧∀j p,ps[j]?=some p→∃cj v i g,vs[j]?=some v∧is[j]?=some i∧gs[j]?=some g∧V5 cx σ α F a w p cj v i g∧
   rR (jE ps i0 c) (i0+j)=.one (AX p (i0+j) cj)∧gI (gG ps i0 c) (ay (i0+j))=dP p (i0+j) cj:=by
 intro ps
 induction ps with
 | nil=>
  intro c vs is gs i0 h
  cases vs with
  | cons _ _=>exact h.elim
  | nil=>cases is with
   | cons _ _=>exact h.elim
   | nil=>cases gs with
    | cons _ _=>exact h.elim
    | nil=>exact ⟨rfl,rfl,rfl,fun j p hp=>by simp at hp⟩
 | cons p ps ih=>
  intro c vs is gs i0 h
  cases vs with
  | nil=>exact h.elim
  | cons v vs=>cases is with
   | nil=>exact h.elim
   | cons i is=>cases gs with
    | nil=>exact h.elim
    | cons g gs=>
     obtain ⟨h1,h2⟩:=h
     obtain ⟨l1,l2,l3,h3⟩:=ih (i0:=i0+1) h2
     refine ⟨by simp [l1],by simp [l2],by simp [l3],fun j q hq=>?_⟩
     cases j with
     | zero=>
      simp only [List.getElem?_cons_zero,anh] at hq
      subst hq
      refine ⟨Xv p ps c,v,i,g,rfl,rfl,rfl,h1, ?_, ?_⟩
      ·rw [CO]; simp [rR]
      ·rw [vS,yC]
       cases hr:dP p i0 (Xv p ps c) with
       | none=>
        simp only [gI,Nat.add_zero]
        rw [MG ps (i0+1) (tlC p ps c) (ay i0) (by unfold ay; omega)]
       | some R=>simp [gI]
     | succ j=>
      obtain ⟨cj,v',i',g',e1,e2,e3,e4,e5,e6⟩:=h3 j q (by simpa using hq)
      have ej:i0+(j+1)=i0+1+j:=by omega
      refine ⟨cj,v',i',g',e1,e2,e3,e4, ?_, ?_⟩
      ·rw [CO,ej]
       simp only [rR]
       have:Nat.beq (i0+1+j) i0=false:=by
        cases hb:Nat.beq (i0+1+j) i0 with
        | true=>have:=anl hb; omega
        | false=>rfl
       rw [this]
       exact e5
      ·rw [vS,yC,ej]
       cases hr:dP p i0 (Xv p ps c) with
       | none=>exact e6
       | some R=>
        have:Nat.beq (ay (i0+1+j)) (ay i0)=false:=by
         cases hb:Nat.beq (ay (i0+1+j)) (ay i0) with
         | true=>have:=Qm (anl hb); omega
         | false=>rfl
        simp only [gI,this,cond_false]
        exact e6
theorem Vz:∀{ps:List dG} {c:Cont (kin ps)} {i0 r:Nat} {R:Root},gI (gG ps i0 c) r=some R→∃j p,r=ay (i0+j)∧ps[j]?=some p:=by
 intro ps
 induction ps with
 | nil=>intro c i0 r R h; simp [gG,gI] at h
 | cons p ps ih=>
  intro c i0 r R h
  rw [vS,yC] at h
  have hrec:gI (gG ps (i0+1) (tlC p ps c)) r=some R→∃j q,r=ay (i0+j)∧(p :: ps)[j]?=some q:=by
   intro h
   obtain ⟨j,q,h1,h2⟩:=ih h
   exact ⟨j+1,q,by rw [h1]; congr 1; omega,by simpa using h2⟩
  cases hr:dP p i0 (Xv p ps c) with
  | none=>rw [hr] at h; exact hrec h
  | some Q=>
   rw [hr] at h
   simp only [gI] at h
   cases hb:Nat.beq r (ay i0) with
   | true=>exact ⟨0,p,anl hb,rfl⟩
   | false=>rw [hb] at h; exact hrec h
end
end
section
open Go
variable [Fr]
def gN (g:GA):List Nat:=(match g.base with
 | some q=>[q.1]
 | none=>[])++g.fo
def KA:dG→List Nat
 | .val _ ig=>ig
 | _=>[]
def wH:dG→Nat
 | .rw k _ _ _=>k.size
 | _=>0
def dJ (cx:Cx) (σ:St) (α:dL) (F:List Nat) (w:World) (ps:List dG) (c:Cont (kin ps)) (is:List cK) (gs:List GA):Cx where
 nt:=0
 w0:=w
 ext:=fun j b=>(∃i,is[j]?=some i∧iL cx σ α F w i.ids b)∧∀(m:Nat) (g:GA) (q:Nat×Nat),gs[m]?=some g→g.base=some q→b≠q.1
 par:=fun j=>match gs[j]?,ps[j]? with
  | some g,some p=>bif g.ow || g.wb then some ⟨g.base.map fun q=>(q.1,q.2,wH p),gN g,g.wb⟩ else none
  | _,_=>none
 ptrs:=fun j q ts v=>∃g R0 c0 b o,gs[j]?=some g∧g.wb=true∧gI (gG ps 0 c) (ay j)=some R0∧ts=dY q R0.k∧(∀t∈ah q R0.k,az t R0.own=true)∧ng q R0.k R0.x∧bG (hp w) q R0.k g.cs g.base=some (c0,some (b,o))∧v=.pointer (some ⟨b,o,none⟩)
 refs:=fun j v=>∃g,gs[j]?=some g∧g.v=v∧g.base=none∧g.wb=true
def jl (gs:List GA):dL where
 loc:=fun r=>((gs[r / 4]?).bind (·.base)).getD (0,0)
 hdr:=fun r=>((gs[r / 4]?).map (·.cs)).getD []
 fo:=fun r=>((gs[r / 4]?).map (·.fo)).getD []
theorem Ql (j:Nat):ay j / 4=j:=by unfold ay; omega
theorem oH (j:Nat):fI (ay j)=false:=by
 unfold fI ay
 have:4 * j % 4=0:=by omega
 rw [this]; rfl
section
variable {P:Program} {T:iT} {cx:Cx} {σ:St} {α:dL} {F:List Nat} {a:Act} {w:World} {ps:List dG} {c:Cont (kin ps)} {vs:List Value} {is:List cK} {gs:List GA}
structure Apart (cx:Cx) (σ:St) (α:dL) (F:List Nat) (w:World) (ps:List dG) (is:List cK) (gs:List GA):Prop where
 one:∀(j j':Nat) (g g':GA),gs[j]?=some g→gs[j']?=some g'→g.wb=true→g'.wb=true→j=j'
 own:(gs.flatMap fun g=>bif g.ow then g.fo else []).Nodup
 ig:∀(j:Nat) (p:dG) (i:cK) (r n:Nat),ps[j]?=some p→is[j]?=some i→(r,n)∈i.ids→∀(m:Nat) (i':cK) q,is[m]?=some i'→i'.wb=some (r,q)→m∈KA p∧∃k ig,p=.val k ig∧∀b∈i'.bt,b∉k.tys
 prw:∀(j:Nat) (p:dG),ps[j]?=some p→∀m∈KA p,∃(i':cK) (q:Nat×List Stp×List TypeId×List TypeId),is[m]?=some i'∧i'.wb=some q
theorem flatMap_apart {A:Type} {f:A→List Nat}:∀{l:List A} {i j:Nat} {x y:A},(l.flatMap f).Nodup→l[i]?=some x→l[j]?=some y→i≠j→∀b∈f x,b∉f y:=by
 intro l
 induction l with
 | nil=>intro i j x y _ h; simp at h
 | cons z l ih=>
  intro i j x y hnd hi hj hne b hb hb'
  simp only [List.flatMap_cons] at hnd
  have n:=ano.1 hnd
  cases i with
  | zero=>
   simp only [List.getElem?_cons_zero,anh] at hi
   subst hi
   cases j with
   | zero=>exact hne rfl
   | succ j=>exact n.2.2 b hb b (anU.2 ⟨y,List.mem_of_getElem? (by simpa using hj),hb'⟩) rfl
  | succ i=>
   cases j with
   | zero=>
    simp only [List.getElem?_cons_zero,anh] at hj
    subst hj
    exact n.2.2 b hb' b (anU.2 ⟨x,List.mem_of_getElem? (by simpa using hi),hb⟩) rfl
   | succ j=>exact ih n.2.1 (by simpa using hi) (by simpa using hj) (by omega) b hb hb'
theorem Y0 {p:dG} {cj:Cont p.kin} {v:Value} {i:cK} {g:GA} (h:V5 cx σ α F a w p cj v i g) (hw:g.wb=true) :
  ∃(k:K) (x:El k) (ow wt ht:List TypeId) (r:Nat) (R:Root) (q:List Stp) (wh:Option (Nat×Nat)),((p=.rw k ow wt ht∧i.bt=[eP R q]∧∃b o,wh=some (b,o)∧v=.pointer (some ⟨b,o,none⟩)∧g.base=some (b,o)∧b∉g.fo)∨(p=.jK k ow wt∧ht=k.tys∧i.bt=[]∧VC k v g.cs∧g.base=none))∧
   PlG cx σ α w k x ow i wt ht r R q∧bG (hp w) q R.k (α.hdr r) (dV α R r)=some (g.cs,wh)∧Ow (hp w) R.own (iL cx σ α F w R.tags) k x g.cs g.fo∧(∀b∈g.fo,b∈α.fo r)∧g.fo.Nodup∧g.ow=false∧g.v=v:=by
 obtain ⟨hv,h⟩:=h
 cases p with
 | val k ig=>rw [h.2.1] at hw; simp at hw
 | ro k=>rw [h.2.1] at hw; simp at hw
 | rw k ow wt ht=>
  obtain ⟨h1,h2,r,R,q,b,o,h3,h4,h5,h6,h7,h8,h9,h10,h11,_⟩:=h
  exact ⟨k,cj.1,ow,wt,ht,r,R,q,some (b,o), .inl ⟨rfl,h4,b,o,rfl,h6,h7,h11⟩,h3,h5,h8,h9,h10,h1,hv⟩
 | jK k ow wt=>
  obtain ⟨h1,h2,r,R,q,wh,h3,h4,h5,h6,h7,h8,h9,h10,_⟩:=h
  exact ⟨k,cj.1,ow,wt,k.tys,r,R,q,wh, .inr ⟨rfl,rfl,h4,h6,h7⟩,h3,h5,h8,h9,h10,h1,hv⟩
 | own k ow=>rw [h.2.1] at hw; simp at hw
 | fn f ks=>rw [h.2.1] at hw; simp at hw
 | into j q=>rw [h.2.1] at hw; simp at hw
structure RD (cx:Cx) (σ:St) (α:dL) (F:List Nat) (w:World) (ps:List dG) (vs:List Value) (is:List cK) (gs:List GA) (j:Nat) (R:Root) (g:GA) (i:cK) (p:dG):Prop where
 hg:gs[j]?=some g
 hi:is[j]?=some i
 hq:ps[j]?=some p
 hv:vs[j]?=some g.v
 held:g.ow=true∨g.wb=true
 ig:KA p=[]
 akJ:∀k ig,p≠.val k ig
 lw:R.w=[]
 lh:R.h=[]
 g0:R.g=0
 ew:R.ew=[]
 eh:R.eh=[]
 tags:R.tags=bif R.k.tys.all (fun t=>az t R.own) then [] else [(pY j,0)]
 ow:Ow (hp w) R.own (iL cx σ α F w i.ids) R.k R.x g.cs g.fo
 nd:g.fo.Nodup
 kind:(R.kind=.par∧wH p=R.k.size∧g.wb=true∧∃b o,g.base=some (b,o)∧b∉g.fo)∨(R.kind=.anon∧g.base=none∧VC R.k g.v g.cs)
theorem BK {p:dG} {cj:Cont p.kin} {v:Value} {i:cK} {g:GA} {j:Nat} {R:Root} (h:V5 cx σ α F a w p cj v i g) (hg:gs[j]?=some g) (hi:is[j]?=some i) (hp:ps[j]?=some p) (hv:vs[j]?=some v) (hR:dP p j cj=some R):RD cx σ α F w ps vs is gs j R g i p:=by
 obtain ⟨h0,h⟩:=h
 subst h0
 have hall:∀{k:K} {ow own:List TypeId},oL k own ow=true→∀t∈k.tys,az t ow=az t own:=fun hj t ht=>by
  have:=anx.1 hj t ht
  exact (by simpa using this:az t _=az t _).symm
 cases p with
 | rw k ow wt ht=>
  obtain ⟨h1,h2,r,R0,q,b,o,h3,h4,h5,h6,h7,h8,h9,h10,h11,_⟩:=h
  simp only [dP,anh] at hR
  subst hR
  refine ⟨hg,hi,hp,hv, .inr h2,rfl,by simp,rfl,rfl,rfl,rfl,rfl,rfl, ?_,h10, .inl ⟨rfl,rfl,h2,b,o,h7,h11⟩⟩
  rw [h3.ids]
  exact rF (hall h3.just) h8
 | jK k ow wt=>
  obtain ⟨h1,h2,r,R0,q,wh,h3,h4,h5,h6,h7,h8,h9,h10,_⟩:=h
  simp only [dP,anh] at hR
  subst hR
  refine ⟨hg,hi,hp,hv, .inr h2,rfl,by simp,rfl,rfl,rfl,rfl,rfl,rfl, ?_,h10, .inr ⟨rfl,h7,h6⟩⟩
  rw [h3.ids]
  exact rF (hall h3.just) h8
 | own k ow=>
  obtain ⟨h1,h2,h3,h4,h5,h6,h7,h8⟩:=h
  simp only [dP,anh] at hR
  subst hR
  exact ⟨hg,hi,hp,hv, .inl h1,rfl,by simp,rfl,rfl,rfl,rfl,rfl,rfl,h6,h8, .inr ⟨rfl,h4,h5⟩⟩
 | val k ig=>simp [dP] at hR
 | ro k=>simp [dP] at hR
 | fn f ks=>simp [dP] at hR
 | into j q=>simp [dP] at hR
theorem BJ {p:dG} {cj:Cont p.kin} {v:Value} {i:cK} {g:GA} (j:Nat) (h:V5 cx σ α F a w p cj v i g) (hh:g.ow=true∨g.wb=true):∃R,dP p j cj=some R:=by
 obtain ⟨h0,h⟩:=h
 cases p with
 | rw k ow wt ht=>exact ⟨_,rfl⟩
 | jK k ow wt=>exact ⟨_,rfl⟩
 | own k ow=>exact ⟨_,rfl⟩
 | val k ig=>rcases hh with hh | hh <;> simp [h.1,h.2.1] at hh
 | ro k=>rcases hh with hh | hh <;> simp [h.1,h.2.1] at hh
 | fn f ks=>rcases hh with hh | hh <;> simp [h.1,h.2.1] at hh
 | into j q=>rcases hh with hh | hh <;> simp [h.1,h.2.1] at hh
theorem nR (H:Rel cx σ α F a w) {p:dG} {cj:Cont p.kin} {v:Value} {i:cK} {g:GA} (h:V5 cx σ α F a w p cj v i g):(∀b∈gN g,(g.ow=true∧b∈F)∨(g.wb=true∧∃r R q,i.wb=some (r,q)∧aP σ r R∧b∈blk α R r))∧
  (∀b o,g.base=some (b,o)→∃r R q arr e lo hi,i.wb=some (r,q)∧aP σ r R∧b∈blk α R r∧hp w b=some (.cells arr e (lo,hi))∧(∀i,i<arr.size→¬(lo≤i∧i<hi))∧o+wH p≤arr.size∧Cells (hp w) b o g.cs∧((∀t∈i.bt,t=e)∧i.bt≠[]∧¬lN cx b∨lN cx b))∧
  (∀b∈g.fo,g.wb=true→∃r R q,i.wb=some (r,q)∧aP σ r R∧b∈α.fo r)∧(g.wb=true↔i.wb≠none):=by
 obtain ⟨hv,h⟩:=h
 cases p with
 | val k ig=>
  obtain ⟨h1,h2,h3,h4,h5,_⟩:=h
  exact ⟨fun b hb=>by simp [gN,h4,h5] at hb,fun b o hb=>by rw [h5] at hb; simp at hb,fun b hb=>by rw [h4] at hb; simp at hb,by simp [h2,h3]⟩
 | ro k=>
  obtain ⟨h1,h2,h3,h4,h5,_⟩:=h
  exact ⟨fun b hb=>by simp [gN,h4,h5] at hb,fun b o hb=>by rw [h5] at hb; simp at hb,fun b hb=>by rw [h4] at hb; simp at hb,by simp [h2,h3]⟩
 | fn f ks=>
  obtain ⟨h1,h2,h3,h4,h5,_⟩:=h
  exact ⟨fun b hb=>by simp [gN,h4,h5] at hb,fun b o hb=>by rw [h5] at hb; simp at hb,fun b hb=>by rw [h4] at hb; simp at hb,by simp [h2,h3]⟩
 | own k ow=>
  obtain ⟨h1,h2,h3,h4,h5,h6,h7,h8⟩:=h
  exact ⟨fun b hb=>.inl ⟨h1,h7 b (by simpa [gN,h4] using hb)⟩,fun b o hb=>by rw [h4] at hb; simp at hb,fun b hb hw=>by rw [h2] at hw; simp at hw,by simp [h2,h3]⟩
 | jK k ow wt=>
  obtain ⟨h1,h2,r,R,q,wh,h3,h4,h5,h6,h7,h8,h9,h10,_⟩:=h
  have hf:∀b∈g.fo,b∈blk α R r:=fun b hb=>anj _ (h9 b hb)
  exact ⟨fun b hb=>.inr ⟨h2,r,R,_,h3.wb,h3.lv,hf b (by simpa [gN,h7] using hb)⟩,fun b o hb=>by rw [h7] at hb; simp at hb,fun b hb _=>⟨r,R,_,h3.wb,h3.lv,h9 b hb⟩,by simp [h2,h3.wb]⟩
 | rw k ow wt ht=>
  obtain ⟨h1,h2,r,R,q,b,o,h3,h4,h5,h6,h7,h8,h9,h10,h11,_⟩:=h
  have hf:∀b∈g.fo,b∈blk α R r:=fun b hb=>anj _ (h9 b hb)
  obtain ⟨m1,_,m2,⟨arr,e,lo,hi,m3,m4,m5,m6⟩,_⟩:=qa H h3.lv h3.vl h3.get h3.pin h3.own h5
  refine ⟨fun b' hb=>?_,fun b' o' hb=>?_,fun b hb _=>⟨r,R,_,h3.wb,h3.lv,h9 b hb⟩,by simp [h2,h3.wb]⟩
  ·refine .inr ⟨h2,r,R,_,h3.wb,h3.lv, ?_⟩
   simp only [gN,h7,List.cons_append,List.nil_append,anu] at hb
   rcases hb with hb | hb
   ·subst hb; exact m2
   ·exact hf b' hb
  ·rw [h7] at hb
   simp only [anh,ant] at hb
   obtain ⟨rfl,rfl⟩:=hb
   refine ⟨r,R,_,arr,e,lo,hi,h3.wb,h3.lv,m2,m3,m4,m5,m1, ?_⟩
   rcases m6 with ⟨m6,m7⟩ | ⟨m6,_⟩
   ·exact .inl ⟨fun t ht=>by rw [h4] at ht; simp only [anC] at ht; rw [ht,m6],by rw [h4]; simp,m7⟩
   ·exact .inr m6
 | into j q=>
  obtain ⟨h1,h2,h3,h4,h5,_⟩:=h
  exact ⟨fun b hb=>by simp [gN,h4,h5] at hb,fun b o hb=>by rw [h5] at hb; simp at hb,fun b hb=>by rw [h4] at hb; simp at hb,by simp [h2,h3]⟩
end
end
section
open Go
variable [Fr]
section
variable {P:Program} {T:iT} {cx:Cx} {σ:St} {α:dL} {F:List Nat} {a:Act} {w:World} {ps:List dG} {c:Cont (kin ps)} {vs:List Value} {is:List cK} {gs:List GA}
theorem iW {j:Nat} {g:GA} (h:gs[j]?=some g):(jl gs).loc (ay j)=g.base.getD (0,0)∧(jl gs).hdr (ay j)=g.cs∧(jl gs).fo (ay j)=g.fo:=by
 simp [jl,Ql,h]
theorem RD.blk {j:Nat} {R:Root} {g:GA} {i:cK} {p:dG} (D:RD cx σ α F w ps vs is gs j R g i p):blk (jl gs) R (ay j)=gN g:=by
 obtain ⟨h1,h2,h3⟩:=iW D.hg
 unfold Ow.blk gN dV
 rw [h1,h3]
 rcases D.kind with ⟨hk,_,_,b,o,hb,_⟩ | ⟨hk,hb,_⟩
 ·rw [hk,hb]; rfl
 ·rw [hk,hb]
theorem RD.wh {j:Nat} {R:Root} {g:GA} {i:cK} {p:dG} (D:RD cx σ α F w ps vs is gs j R g i p):dV (jl gs) R (ay j)=g.base:=by
 obtain ⟨h1,h2,h3⟩:=iW D.hg
 unfold dV
 rw [h1]
 rcases D.kind with ⟨hk,_,_,b,o,hb,_⟩ | ⟨hk,hb,_⟩
 ·rw [hk,hb]; rfl
 ·rw [hk,hb]
theorem RD.live {j:Nat} {R:Root} {g:GA} {i:cK} {p:dG} (D:RD cx σ α F w ps vs is gs j R g i p):R.bg=false:=by
 unfold Root.bg
 rcases D.kind with ⟨hk,_⟩ | ⟨hk,_⟩ <;> rw [hk]
theorem aac (H:Rel cx σ α F a w) (hJ:Y2 cx σ α F a w ps c vs is gs) (hA:Apart cx σ α F w ps is gs):Rel (dJ cx σ α F w ps c is gs) (bX ps c) (jl gs) [] ⟨vs.toArray,[]⟩ w:=by
 obtain ⟨lv,li,lg,hat⟩:=hJ.at (i0:=0)
 simp only [Nat.zero_add] at hat
 have hroot:∀{r:Nat} {R:Root},(bX ps c).roots r=some R→∃j g i p,r=ay j∧RD cx σ α F w ps vs is gs j R g i p:=by
  intro r R h
  obtain ⟨j,p,h1,h2⟩:=Vz (show gI (gG ps 0 c) r=some R from h)
  simp only [Nat.zero_add] at h1
  subst h1
  obtain ⟨cj,v,i,g,e1,e2,e3,e4,e5,e6⟩:=hat j p h2
  have hR:dP p j cj=some R:=by rw [←e6]; exact h
  exact ⟨j,g,i,p,rfl,BK e4 e3 e2 h2 e1 hR⟩
 have acT:∀{j:Nat} {R:Root},(bX ps c).roots (ay j)=some R→∃g i p,RD cx σ α F w ps vs is gs j R g i p:=by
  intro j R h
  obtain ⟨j',g,i,p,h1,h2⟩:=hroot h
  have:=Qm h1
  subst this
  exact ⟨g,i,p,h2⟩
 have hmk:∀{j:Nat} {g:GA},gs[j]?=some g→(g.ow=true∨g.wb=true)→∃R i p,(bX ps c).roots (ay j)=some R∧RD cx σ α F w ps vs is gs j R g i p:=by
  intro j g hg hh
  have hj:j<ps.length:=by have:=(List.getElem?_eq_some_iff.1 hg).1; omega
  obtain ⟨cj,v,i,g',e1,e2,e3,e4,e5,e6⟩:=hat j ps[j] (anw hj)
  rw [hg] at e3
  simp only [anh] at e3
  subst e3
  obtain ⟨R,hR⟩:=BJ j e4 hh
  have hr:(bX ps c).roots (ay j)=some R:=by show gI (gG ps 0 c) (ay j)=some R; rw [e6,hR]
  exact ⟨R,i,ps[j],hr,BK e4 hg e2 (anw hj) e1 hR⟩
 have hgj:∀{j:Nat} {g:GA},gs[j]?=some g→∃p cj v i,ps[j]?=some p∧vs[j]?=some v∧is[j]?=some i∧V5 cx σ α F a w p cj v i g:=by
  intro j g hg
  have hj:j<ps.length:=by have:=(List.getElem?_eq_some_iff.1 hg).1; omega
  obtain ⟨cj,v,i,g',e1,e2,e3,e4,_⟩:=hat j ps[j] (anw hj)
  rw [hg] at e3
  simp only [anh] at e3
  subst e3
  exact ⟨ps[j],cj,v,i,anw hj,e1,e2,e4⟩
 have J5:∀{j:Nat} {g:GA} {b:Nat},gs[j]?=some g→b∈gN g→(g.ow=true∧b∈F)∨(g.wb=true∧∃i r R q,is[j]?=some i∧i.wb=some (r,q)∧aP σ r R∧b∈blk α R r):=by
  intro j g b hg hb
  obtain ⟨p,cj,v,i,e1,e2,e3,e4⟩:=hgj hg
  rcases (nR H e4).1 b hb with h | ⟨h,r,R,q,h1⟩
  ·exact .inl h
  ·exact .inr ⟨h,i,r,R,q,e3,h1⟩
 have hmn:∀{j:Nat} {g:GA} {b:Nat},gs[j]?=some g→b∈gN g→mine cx w b:=by
  intro j g b hg hb
  rcases J5 hg hb with ⟨_,h⟩ | ⟨_,i,r,R,q,_,_,h1,h2⟩
  ·exact H.fl b h
  ·exact (H.roots r R h1).mine b h2
 have hlt:∀{j:Nat} {g:GA} {b:Nat},gs[j]?=some g→b∈gN g→b<w.heap.size:=fun hg hb=>(hmn hg hb).1
 have XK:∀{j:Nat} {g:GA} {b:Nat},gs[j]?=some g→g.ow=true→b∈gN g→b∈g.fo:=by
  intro j g b hg ho hb
  obtain ⟨p,cj,v,i,e1,e2,e3,e4⟩:=hgj hg
  unfold gN at hb
  cases hbase:g.base with
  | none=>rw [hbase] at hb; simpa using hb
  | some q=>
   exfalso
   obtain ⟨q1,q2⟩:=q
   obtain ⟨r,R,q,_,_,_,_,h1,_⟩:=(nR H e4).2.1 q1 q2 hbase
   have hw:g.wb=true:=(nR H e4).2.2.2.2 (by rw [h1]; simp)
   obtain ⟨_,h⟩:=e4
   cases p <;> first | (obtain ⟨g1,g2,_⟩:=h; rw [ho] at g1; simp at g1; done) | (obtain ⟨g1,g2,_⟩:=h; rw [hw] at g2; simp at g2; done) | exact h.elim
 have afD:∀{j j':Nat} {g g':GA} {b:Nat},gs[j]?=some g→gs[j']?=some g'→j≠j'→b∈gN g→b∉gN g':=by
  intro j j' g g' b hg hg' hne hb hb'
  rcases J5 hg hb with ⟨ho,h⟩ | ⟨hw,i,r,R,q,_,_,h1,h2⟩
  ·rcases J5 hg' hb' with ⟨ho',h'⟩ | ⟨_,i',r',R',q',_,_,h1',h2'⟩
   ·refine flatMap_apart hA.own hg hg' hne b ?_ ?_
    ·rw [ho]; exact XK hg ho hb
    ·rw [ho']; exact XK hg' ho' hb'
   ·exact H.iP r' R' h1' b h2' h
  ·rcases J5 hg' hb' with ⟨_,h'⟩ | ⟨hw',_⟩
   ·exact H.iP r R h1 b h2 h'
   ·exact hne (hA.one j j' g g' hg hg' hw hw')
 have hnd:∀{j:Nat} {R:Root} {g:GA} {i:cK} {p:dG},RD cx σ α F w ps vs is gs j R g i p→(gN g).Nodup:=by
  intro j R g i p D
  unfold gN
  rcases D.kind with ⟨_,_,_,b,o,hb,hno⟩ | ⟨_,hb,_⟩
  ·rw [hb]; exact anQ.2 ⟨hno,D.nd⟩
  ·rw [hb]; exact D.nd
 have NS:∀{j m:Nat} {i:cK} {p:dG} {g:GA} {b:Nat},is[j]?=some i→ps[j]?=some p→Kw σ α F w i.ids b→gs[m]?=some g→b∈gN g→m∈KA p∧(∃k ig,p=.val k ig∧∀i',is[m]?=some i'→∀t∈i'.bt,t∉k.tys):=by
  intro j m i p g b hi hp hb hg hbf
  rcases J5 hg hbf with ⟨_,h⟩ | ⟨_,i',r,R,q,h0,h1,h2,h3⟩
  ·exact absurd h hb.2.1
  ·obtain ⟨n,hn⟩:=hb.2.2 r R h2 h3
   obtain ⟨g1,k,ig,g2,g3⟩:=hA.ig j p i r n hp hi hn m i' q h0 h1
   refine ⟨g1,k,ig,g2,fun i'' h=>?_⟩
   rw [h0] at h
   simp only [anh] at h
   subst h
   exact g3
 have acB:∀{j:Nat} {i:cK} {p:dG} {b:Nat},is[j]?=some i→ps[j]?=some p→iL cx σ α F w i.ids b→(∀k ig,p=.val k ig→∃t∈k.tys,vO (hp w) b t)→(dJ cx σ α F w ps c is gs).ext j b:=by
  intro j i p b hi hp hb ht
  refine ⟨⟨i,hi,hb⟩,fun m g q hg hbase e=>?_⟩
  have hbf:b∈gN g:=by unfold gN; rw [hbase,e]; simp
  obtain ⟨_,k,ig,h1,h2⟩:=NS hi hp hb.q hg hbf
  obtain ⟨p',cj,v,i',e1,e2,e3,e4⟩:=hgj hg
  obtain ⟨r,R,q',arr,e',lo,hi',f1,f2,f3,f4,f5,f6,f7,f8⟩:=(nR H e4).2.1 q.1 q.2 (by rw [hbase])
  rcases f8 with ⟨f8,f9,f10⟩ | f8
  ·obtain ⟨t,ht1,ht2⟩:=ht k ig h1
   have ht2:=H.SN (hmn hg hbf) ht2
   rw [e] at ht2
   unfold qM at ht2
   rw [f4] at ht2
   simp only [anh] at ht2
   cases hbt:i'.bt with
   | nil=>exact f9 hbt
   | cons t0 l=>
    have hm:t0∈i'.bt:=by rw [hbt]; simp
    exact h2 i' e3 t0 hm (by rw [f8 t0 hm,ht2]; exact ht1)
  ·exact hb.2.2.1 (e▸f8)
 have acR:∀{j:Nat} {i:cK} {p:dG} {b:Nat} {T:List Tag},is[j]?=some i→ps[j]?=some p→(dJ cx σ α F w ps c is gs).ext j b→(pY j,0)∈T→(∀n∈KA p,(ay n,0)∈T)→iL (dJ cx σ α F w ps c is gs) (bX ps c) (jl gs) [] w T b:=by
  intro j i p b T hi hp hb ht hpr
  obtain ⟨⟨i',hi',hok⟩,hno⟩:=hb
  rw [hi] at hi'
  simp only [anh] at hi'
  subst hi'
  refine ⟨hok.1,by simp, ?_,fun r R hr hbr=>?_,fun _=>.inl ⟨j,0,ht,⟨i,hi,hok⟩,hno⟩⟩
  ·rintro ⟨m,pi,o,n,h1,h2⟩
   simp only [dJ] at h1
   cases hgm:gs[m]? with
   | none=>rw [hgm] at h1; simp at h1
   | some g=>
    cases hpm:ps[m]? with
    | none=>rw [hgm,hpm] at h1; simp at h1
    | some pm=>
     rw [hgm,hpm] at h1
     simp only at h1
     cases hh:(g.ow || g.wb) with
     | false=>rw [hh] at h1; simp at h1
     | true=>
      rw [hh] at h1
      simp only [cond_true,anh] at h1
      subst h1
      simp only at h2
      cases hbase:g.base with
      | none=>rw [hbase] at h2; simp at h2
      | some q=>
       rw [hbase] at h2
       simp only [Option.map_some,anh,ant] at h2
       exact hno m g q hgm hbase h2.1.symm
  ·obtain ⟨m,g,im,pm,h1,D⟩:=hroot hr.1
   subst h1
   rw [D.blk] at hbr
   exact ⟨0,hpr m (NS hi hp hok.q D.hg hbr).1⟩
 have akp:∀{j:Nat} {i:cK} {p:dG} {b:Nat},is[j]?=some i→ps[j]?=some p→(∀k ig,p≠.val k ig)→Kw σ α F w i.ids b→Kw (bX ps c) (jl gs) [] w [(pY j,0)] b:=by
  intro j i p b hi hp hnv hb
  refine ⟨hb.1,by simp,fun r R hr hbr=>?_⟩
  obtain ⟨m,g,im,pm,h1,D⟩:=hroot hr.1
  subst h1
  rw [D.blk] at hbr
  obtain ⟨_,k,ig,h2,_⟩:=NS hi hp hb D.hg hbr
  exact absurd h2 (hnv k ig)
 have hpar:∀{j:Nat} {pi:Uu},(dJ cx σ α F w ps c is gs).par j=some pi→∃g p,gs[j]?=some g∧ps[j]?=some p∧(g.ow=true∨g.wb=true)∧pi=⟨g.base.map fun q=>(q.1,q.2,wH p),gN g,g.wb⟩:=by
  intro j pi h1
  simp only [dJ] at h1
  cases hgm:gs[j]? with
  | none=>rw [hgm] at h1; simp at h1
  | some g=>
   cases hpm:ps[j]? with
   | none=>rw [hgm,hpm] at h1; simp at h1
   | some pm=>
    rw [hgm,hpm] at h1
    simp only at h1
    cases hh:(g.ow || g.wb) with
    | false=>rw [hh] at h1; simp at h1
    | true=>
     rw [hh] at h1
     simp only [cond_true,anh] at h1
     exact ⟨g,pm,rfl,rfl,by simpa using hh,h1.symm⟩
 have aa2:∀{j:Nat} {R:Root} {g:GA} {i:cK} {p:dG},RD cx σ α F w ps vs is gs j R g i p→(dJ cx σ α F w ps c is gs).par j=some ⟨g.base.map fun q=>(q.1,q.2,wH p),gN g,g.wb⟩:=by
  intro j R g i p D
  simp only [dJ]
  rw [D.hg,D.hq]
  have:(g.ow || g.wb)=true:=by simpa using D.held
  simp only [this,cond_true]
 have hsame:∀{j:Nat} {R R':Root},(bX ps c).roots (ay j)=some R→(bX ps c).roots (ay j)=some R'→R'=R:=fun h1 h2=>by rw [h1] at h2; simpa using h2.symm
 have Xu:∀{j:Nat} {g:GA} {p:dG} {b o:Nat},gs[j]?=some g→ps[j]?=some p→g.base=some (b,o)→∃arr e lo hi,hp w b=some (.cells arr e (lo,hi))∧(∀i,i<arr.size→¬(lo≤i∧i<hi))∧o+wH p≤arr.size∧Cells (hp w) b o g.cs:=by
  intro j g p b o hg hp hb
  obtain ⟨p',cj,v,i,e1,e2,e3,e4⟩:=hgj hg
  rw [hp] at e1
  simp only [anh] at e1
  subst e1
  obtain ⟨r,R,q',arr,e',lo,hi',f1,f2,f3,f4,f5,f6,f7,f8⟩:=(nR H e4).2.1 b o hb
  exact ⟨arr,e',lo,hi',f4,f5,f6,f7⟩
 have aa5:∀s,jd (dJ cx σ α F w ps c is gs) (bX ps c) (jl gs) [] w ((bX ps c).slots s) (vs.toArray.getD s undef)∧xO (bX ps c) ((bX ps c).slots s):=by
  intro s
  rcases GK ps 0 c s with h | ⟨j,p,cj0,hj,hps,hs0⟩
  ·have:(bX ps c).slots s=.one .undef:=h
   rw [this]
   exact ⟨trivial,trivial⟩
  ·simp only [Nat.zero_add] at hj
   subst hj
   obtain ⟨cj,v,i,g,e1,e2,e3,e4,e5,e6⟩:=hat s p hps
   have hsl:(bX ps c).slots s=.one (AX p s cj):=e5
   have hvs:vs.toArray.getD s undef=v:=by
    rw [Array.getD_eq_getD_getElem?]
    simp [e1]
   rw [hsl,hvs]
   have hro:∀{k:K} {x:El k} {v:Value} {b o:Nat} {cs:List Value},(∀k ig,p≠.val k ig)→v=.pointer (some ⟨b,o,none⟩)→Cells (hp w) b o cs→Vw (hp w) (iL cx σ α F w i.ids) k x cs→Kw σ α F w i.ids b→KA p=[]→
     KG (dJ cx σ α F w ps c is gs) (bX ps c) (jl gs) [] w SENT k x [(pY s,0)] v:=by
    intro k x v b o cs hnv hv hC hV hq hpr
    refine ⟨⟨b,o,hv⟩,fun _=>⟨b,o,cs,hv,hC,gq (fun _ _=>rfl) (fun b hb=>?_) hV,akp e2 hps hnv hq, .inl ⟨rfl,fun t ht=>by simp only [anC] at ht; subst ht; exact iJ s⟩⟩⟩
    exact acR e2 hps (acB e2 hps hb (fun k ig h=>absurd h (hnv k ig))) (by simp) (by rw [hpr]; simp)
   have XN:∀{R:Root},dP p s cj=some R→rG (bX ps c) (.ref (ay s) 0)∧rG (bX ps c) (.ptr (ay s) [] 0):=by
    intro R hR
    have hr:(bX ps c).roots (ay s)=some R:=by show gI (gG ps 0 c) (ay s)=some R; rw [e6,hR]
    exact ⟨⟨R,hr, .inr (anR _)⟩,⟨R,hr, .inr (anR _)⟩⟩
   have aaT:eY (bX ps c) [(pY s,0)]:=fun t ht=>by simp only [anC] at ht; subst ht; exact .inl (iJ s)
   have Cc:∀{R:Root},dP p s cj=some R→R.kind=.anon→bI (dJ cx σ α F w ps c is gs) (bX ps c) (jl gs) [] w (.ref (ay s) 0) v:=by
    intro R hR hk Q hQ _
    have hr:(bX ps c).roots (ay s)=some R:=by show gI (gG ps 0 c) (ay s)=some R; rw [e6,hR]
    have D:=BK e4 e3 e2 hps e1 hR
    have hQR:=hsame hr hQ.1
    subst hQR
    rcases D.kind with ⟨hk',_⟩ | ⟨_,_,hV⟩
    ·rw [hk] at hk'; simp at hk'
    ·refine ⟨hk, ?_⟩
     rw [(iW D.hg).2.1, ←e4.1]
     exact hV
   cases p with
   | val k ig=>
    obtain ⟨h0,h1,h2,h3,h4,h5,h6,h7⟩:=e4
    refine ⟨fun hc=>⟨g.cs,h6, ?_⟩, ?_⟩
    ·cases hf:k.flat with
     | true=>exact iV hf h7
     | false=>
      rw [show (AX (.val k ig) s cj)=.val k cj.1 ((pY s,0) :: ig.map fun j=>(ay j,0)) by simp [AX,hf]] at *
      refine gq (fun _ _=>rfl) (fun b hb=>?_) (I9 k.tys (fun _ h=>h) h7)
      refine acR e2 hps (acB e2 hps hb.1 (fun k' amO h=>by simp only [dG.val.injEq] at h; obtain ⟨rfl,_⟩:=h; exact hb.2)) (by simp) (fun n hn=>by exact anH _ (anT.2 ⟨n,hn,rfl⟩))
    ·intro t ht
     cases hf:k.flat with
     | true=>simp [AX,hf] at ht
     | false=>
      simp only [AX,hf,cond_false,anu,anT] at ht
      rcases ht with ht | ⟨m,hm,ht⟩
      ·subst ht; exact .inl (iJ s)
      ·subst ht
       obtain ⟨i',q,f1,f2⟩:=hA.prw s _ hps m hm
       have hm':m<gs.length:=by have:=(List.getElem?_eq_some_iff.1 f1).1; omega
       obtain ⟨p',cj',v',i'',k1,k2,k3,k4⟩:=hgj (anw hm')
       rw [f1] at k3
       simp only [anh] at k3
       subst k3
       obtain ⟨R,_,_,hR,_⟩:=hmk (anw hm') (.inr ((nR H k4).2.2.2.2 (by rw [f2]; simp)))
       exact .inr ⟨R,hR, .inr (anR _)⟩
   | ro k=>
    obtain ⟨h0,h1,h2,h3,h4,h5,b,o,h6,h7,h8,h9⟩:=e4
    exact ⟨hro (by simp) h6 h7 h8 h9 rfl,aaT⟩
   | rw k ow wt ht=>
    obtain ⟨R,hR⟩:=BJ s e4 (.inr e4.2.2.1)
    have hr:(bX ps c).roots (ay s)=some R:=by show gI (gG ps 0 c) (ay s)=some R; rw [e6,hR]
    have D:=BK e4 e3 e2 hps e1 hR
    obtain ⟨h0,h1,h2,r,R0,q,b,o,h3,h4,h5,h6,h7,_⟩:=e4
    refine ⟨⟨⟨b,o,h6⟩,fun Q hQ _ _ _ _=>⟨trivial,g.cs,b,o, ?_,h6⟩⟩,(XN hR).2⟩
    have hQR:=hsame hr hQ
    subst hQR
    simp only [bG]
    rw [D.wh,h7,(iW D.hg).2.1]
   | jK k ow wt=>
    obtain ⟨R,hR⟩:=BJ s e4 (.inr e4.2.2.1)
    exact ⟨Cc hR (by simp only [dP,anh] at hR; subst hR; rfl),(XN hR).1⟩
   | own k ow=>
    obtain ⟨R,hR⟩:=BJ s e4 (.inl e4.2.1)
    exact ⟨Cc hR (by simp only [dP,anh] at hR; subst hR; rfl),(XN hR).1⟩
   | fn f ks=>
    obtain ⟨h0,h1,h2,h3,h4,h5,us,h6,h7⟩:=e4
    have afy:∀(ks:List K) (c0:Cont ks) (us:List Value),V5.Ta cx σ α F w ks c0 us i.ids→ku (dJ cx σ α F w ps c is gs) (bX ps c) (jl gs) [] w (jE.zf s ks c0) us:=by
     intro ks
     induction ks with
     | nil=>intro c0 us h; cases us with
      | nil=>exact trivial
      | cons _ _=>exact h.elim
     | cons k ks ih=>intro c0 us h; cases us with
      | nil=>exact h.elim
      | cons u us=>
       obtain ⟨⟨b,o,cs,g1,g2,g3,g4⟩,g5⟩:=h
       exact ⟨hro (by simp) g1 g2 g3 g4 rfl,ih c0.2 us g5⟩
    have acy:∀(ks:List K) (c0:Cont ks),∀q∈jE.zf s ks c0,eY (bX ps c) q.2.2:=by
     intro ks
     induction ks with
     | nil=>intro c0 q hq; simp [jE.zf] at hq
     | cons k ks ih=>
      intro c0 q hq
      rcases anu.1 hq with h | h
      ·subst h; exact aaT
      ·exact ih c0.2 q h
    exact ⟨⟨us,h6,afy ks cj us h7⟩,acy ks cj⟩
   | into j q=>
    obtain ⟨h0,h1,h2,h3,h4,h5,b,h6⟩:=e4
    exact ⟨⟨b,h6⟩,trivial⟩
 constructor
 ·rfl
 ·exact anR _
 ·intro j pi b o n hj hb
  obtain ⟨g,p,hg,hp,hh,rfl⟩:=hpar hj
  obtain ⟨R,i,p',hr,D⟩:=hmk hg hh
  have:p'=p:=by have:=D.hq; rw [hp] at this; simpa using this.symm
  subst this
  simp only at hb
  cases hbase:g.base with
  | none=>rw [hbase] at hb; simp at hb
  | some q=>
   rw [hbase] at hb
   simp only [Option.map_some,anh,ant] at hb
   obtain ⟨rfl,rfl,rfl⟩:=hb
   rcases D.kind with ⟨hk,hs,_⟩ | ⟨_,hn,_⟩
   ·refine ⟨R,⟨hr,D.live⟩,hk, ?_,hs.symm⟩
    rw [(iW hg).1,hbase]
    rfl
   ·rw [hbase] at hn; simp at hn
 ·intro r R hr hk
  obtain ⟨j,g,i,p,rfl,D⟩:=hroot hr.1
  rcases D.kind with ⟨_,hs,_,b,o,hb,_⟩ | ⟨hk',_⟩
  ·refine ⟨j,_,wH p,rfl,aa2 D, ?_⟩
   rw [(iW D.hg).1,hb]
   rfl
  ·rw [hk] at hk'; simp at hk'
 ·exact fun s=>(aa5 s).1
 ·exact fun s=>(aa5 s).2
 ·intro r R hr
  obtain ⟨j,g,i,p,rfl,D⟩:=hroot hr.1
  obtain ⟨a1,a2,a3⟩:=iW D.hg
  refine ⟨fun _=>?_,by rw [a2]; exact dh D.ow,fun b o hb=>?_,by rw [D.blk]; exact hnd D,fun b hb=>?_⟩
  ·rw [a2,a3]
   have uo:=D.tags
   cases hall:(R.k.tys.all fun t=>az t R.own) with
   | true=>exact gF (dA (j4 hall)) D.ow
   | false=>
    rw [hall] at uo
    refine bz (fun _ _=>rfl) (fun b hb=>?_) (fun _ _=>rfl) D.ow
    exact acR D.hi D.hq (acB D.hi D.hq hb (fun k ig h=>absurd h (D.akJ k ig))) (by rw [uo]; simp) (by rw [D.ig]; simp)
  ·rw [D.wh] at hb
   obtain ⟨arr,e,lo,hi,m1,m2,m3,m4⟩:=Xu D.hg D.hq hb
   rw [a2]
   rcases D.kind with ⟨hk,hs,_⟩ | ⟨_,hn,_⟩
   ·exact ⟨m4,arr,e,lo,hi,m1,m2,by rw [←hs]; exact m3,fun t ht=>by rw [hk] at ht; simp at ht⟩
   ·rw [hb] at hn; simp at hn
  ·rw [D.blk] at hb
   exact ⟨hlt D.hg hb, .inr ⟨j,_,aa2 D,hb⟩⟩
 ·intro r R hr
  obtain ⟨j,g,i,p,rfl,D⟩:=hroot hr
  have uo:=D.tags
  refine ⟨fun t ht=>?_,oH j,fun n hn=>?_⟩
  ·rw [uo] at ht
   cases hall:(R.k.tys.all fun t=>az t R.own) with
   | true=>rw [hall] at ht; simp at ht
   | false=>rw [hall] at ht; simp only [cond_false,anC] at ht; subst ht; exact .inl (iJ j)
  ·rw [uo] at hn
   cases hall:(R.k.tys.all fun t=>az t R.own) with
   | true=>rw [hall] at hn; simp at hn
   | false=>rw [hall] at hn; simp only [cond_false,anC,ant] at hn; unfold ay pY at hn; omega
 ·intro r R r' R' hr hr' hne b hb
  obtain ⟨j,g,i,p,rfl,D⟩:=hroot hr.1
  obtain ⟨j',g',i',p',rfl,D'⟩:=hroot hr'.1
  rw [D.blk] at hb
  rw [D'.blk]
  exact afD D.hg D'.hg (fun e=>hne (by rw [e])) hb
 ·intro b hb; simp at hb
 ·exact List.nodup_nil
 ·intro r R _ b _ h; simp at h
 ·refine ⟨rfl,rfl,rfl,anz _,fun _ _ _=>rfl,fun j pi b o n hj hb=>?_⟩
  obtain ⟨g,p,hg,hp,hh,rfl⟩:=hpar hj
  simp only at hb
  cases hbase:g.base with
  | none=>rw [hbase] at hb; simp at hb
  | some q=>
   rw [hbase] at hb
   simp only [Option.map_some,anh,ant] at hb
   obtain ⟨rfl,rfl,rfl⟩:=hb
   obtain ⟨arr,e,lo,hi,m1,_⟩:=Xu hg hp (b:=q.1) (o:=q.2) (by rw [hbase])
   exact gM.of_same _ _ m1 rfl
 ·intro j pi hj hk
  obtain ⟨g,p,hg,hp,hh,rfl⟩:=hpar hj
  obtain ⟨R,i,p',hr,D⟩:=hmk hg hh
  refine ⟨R,hr,fun _ b hb _=>.inr ⟨rfl,by simp,fun q Q hq hbq=>?_⟩⟩
  obtain ⟨j',g',i',p'',rfl,D'⟩:=hroot hq.1
  rw [D'.blk] at hbq
  by_cases e:j'=j
  ·rw [e]
  ·exact absurd hb (afD D'.hg hg e hbq)
 ·refine ⟨fun j pi hj b hb=>?_,fun b hb=>⟨?_,fun j pi hj hbl=>?_⟩,fun b hb=>H.fixed hb⟩
  ·obtain ⟨g,p,hg,hp,hh,rfl⟩:=hpar hj
   exact hlt hg hb
  ·exact Nat.lt_of_lt_of_le (H.oM.2.1 b hb).1 H.frame.2.2.2.1
  ·obtain ⟨g,p,hg,hp,hh,rfl⟩:=hpar hj
   exact H.TS (hmn hg hbl) hb
 ·intro j q ts v hv
  obtain ⟨g,R0,c0,b,o,h1,h2,h3,h4,h5,h6,h7,h8⟩:=hv
  refine ⟨⟨b,o,h8⟩,R0,h3,fun _=>⟨⟨b,o,h8⟩,fun Q hQ _ _ _ _=>?_⟩⟩
  have hQR:=hsame (show (bX ps c).roots (ay j)=some R0 from h3) hQ
  subst hQR
  obtain ⟨g',i',p',D⟩:=acT hQ
  have:g'=g:=by have:=D.hg; rw [h1] at this; simpa using this.symm
  subst this
  refine ⟨h6,c0,b,o, ?_,h8⟩
  rw [D.wh,(iW D.hg).2.1]
  exact h7
 ·intro j v hv
  obtain ⟨g,h1,h2,h3,h4⟩:=hv
  obtain ⟨R,i,p,hr,D⟩:=hmk h1 (.inr h4)
  refine ⟨⟨R,hr⟩,fun Q hQ _=>?_⟩
  have hQR:=hsame hr hQ.1
  subst hQR
  rcases D.kind with ⟨_,_,_,b,o,hb,_⟩ | ⟨hk,_,hV⟩
  ·rw [h3] at hb; simp at hb
  ·refine ⟨hk, ?_⟩
   rw [(iW D.hg).2.1, ←h2]
   exact hV
end
end
section
open Go
variable [Fr]
def I6 (cx:Cx) (σ:St) (α:dL) (F:List Nat) (w:World):(rs:List lU)→Cont (iB rs)→List Value→List (List Nat)→Prop
 | [],_,[],[]=>True
 | .val k exts ig :: rs,c,v :: vs,fo :: bD=>(fo=[]∧∃T cs,(k.flat=true∨qA exts ig T=true)∧VC k v cs∧Vw (hp w) (iL cx σ α F w T) k c.1 cs)∧I6 cx σ α F w rs c.2 vs bD
 | .own k ow exts ig :: rs,c,v :: vs,fo :: bD=>(∃T cs own,((k.tys.all fun t=>az t ow)=true∨qA exts ig T=true)∧(∀t∈k.tys,az t ow=true→az t own=true)∧VC k v cs∧Ow (hp w) own (iL cx σ α F w T) k c.1 cs fo)∧I6 cx σ α F w rs c.2 vs bD
 | .ptr t k ow exts :: rs,c,v :: vs,fo :: bD=>(∃b o T cs own dH,v=.pointer (some ⟨b,o,none⟩)∧fo=b :: dH∧((k.tys.all fun t=>az t ow)=true∨qA exts [] T=true)∧(∀t∈k.tys,az t ow=true→az t own=true)∧
   (Cells (hp w) b o cs∧∃arr e lo hi,hp w b=some (.cells arr e (lo,hi))∧(∀i,i<arr.size→¬(lo≤i∧i<hi))∧o+k.size≤arr.size∧e=t)∧Ow (hp w) own (iL cx σ α F w T) k c.1 cs dH)∧I6 cx σ α F w rs c.2 vs bD
 | .into j p :: rs,c,v :: vs,fo :: bD=>(fo=[]∧p=[]∧∃b n cp,v=.slice b (show Int from c.1).toNat cp∧(show Int from c.1).toNat≤n∧bI cx σ α F w (.ref (ay j) 0) (.slice b n cp))∧I6 cx σ α F w rs c.2 vs bD
 | _,_,_,_=>False
def Td (σ:St) (k:K) (x:El k) (ow wt ht:List TypeId) (j:Nat):Prop:=
 ∃R,σ.roots (ay j)=some R∧bu σ R∧(∃e:R.k=k,x=e▸R.x)∧oL k R.own ow=true∧Cr R (some (wt,ht))=true∧((k.tys.all fun t=>az t ow)=true∨qA [j] [] R.tags=true)
def Fv (σ:St):(ps:List dG)→Nat→Cont (kD ps)→Prop
 | [],_,_=>True
 | .rw k ow wt ht :: ps,j,c=>Td σ k c.1 ow wt ht j∧Fv σ ps (j+1) c.2
 | .jK k ow wt :: ps,j,c=>Td σ k c.1 ow wt k.tys j∧Fv σ ps (j+1) c.2
 | .val _ _ :: ps,j,c=>Fv σ ps (j+1) c
 | .ro _ :: ps,j,c=>Fv σ ps (j+1) c
 | .own _ _ :: ps,j,c=>Fv σ ps (j+1) c
 | .fn _ _ :: ps,j,c=>Fv σ ps (j+1) c
 | .into _ _ :: ps,j,c=>Fv σ ps (j+1) c
def YW:List Value→Value
 | [v]=>v
 | vs=>.tuple vs.toArray
def Post (cx:Cx) (ps:List dG) (rs:List lU) (out:Cont (iB rs++kD ps)) (v:Value) (w':World):Prop:=
 ∃σ α F a vs bD,Rel cx σ α F a w'∧v=YW vs∧I6 cx σ α F w' rs (Cont.fst _ _ out) vs bD∧bD.flatten.Nodup∧(∀b∈bD.flatten,b∈F)∧Fv σ ps 0 (Cont.snd _ _ out)
def IE (P:Program) (f:FuncId) (args:Array Value) (w:World) (R:Value→World→Prop):Prop:=
 ((callFunc f args).run P w=.ok (.enter f args) w∧Calls P f args w fun e w'=>∃v,e=.returned v∧R v w')∨∃v w',(callFunc f args).run P w=.ok (.value v) w'∧R v w'
def xN (ps:List dG) (j:Nat) (k:K):Prop:=∃ow wt ht,ps[j]?=some (.rw k ow wt ht)∨ps[j]?=some (.jK k ow wt)
structure Fw (cx:Cx) (ps:List dG):Prop where
 par:∀j pi,cx.par j=some pi→pi.kp=true→∃k,xN ps j k
 ptr:∀j p ts v,cx.ptrs j p ts v→∃k,xN ps j k∧ts=dY p k
 ref:∀j v,cx.refs j v→∃k,xN ps j k
def ak (P:Program) (n:Nat) (E:Entry):Prop:=
 ∀(c:Cont (kin E.ps)) (out:Cont (iB E.rs++kD E.ps)),E.F n c=some out→∀(cx:Cx) (α:dL) (args:Array Value) (w:World),cx.nt=0→cx.w0=w→args.size=E.ps.length→Fw cx E.ps→
  Rel cx (bX E.ps c) α [] ⟨args,[]⟩ w→IE P E.f args w (Post cx E.ps E.rs out)
section
variable {P:Program} {T:iT} {cx:Cx} {σ:St} {α:dL} {F:List Nat} {a:Act} {w w':World} {ps:List dG} {c:Cont (kin ps)} {vs:List Value} {is:List cK} {gs:List GA}
structure Cw (σ:St) (α:dL) (is:List cK) (gs:List GA) (Dn:St) (zM:dL) (Ff:List Nat) (σ':St) (α':dL) (F':List Nat):Prop where
 blk:∀q Q b,aP σ' q Q→b∈blk α' Q q→b∈Ff∨(∃Q0,aP σ q Q0∧b∈Ow.blk α Q0 q∧∀(m:Nat) (g:GA),gs[m]?=some g→b∉g.fo)∨
  ∃(m:Nat) (i:cK) (R:Root) (u:List Stp×List TypeId×List TypeId),is[m]?=some i∧i.wb=some (q,u)∧aP Dn (ay m) R∧b∈Ow.blk zM R (ay m)
 F:∀b∈F',b∈Ff
theorem sN (H:Rel cx σ α F a w) (hJ:Y2 cx σ α F a w ps c vs is gs) {j:Nat} {pi:Uu} (h:(dJ cx σ α F w ps c is gs).par j=some pi):∃g p cj v i,gs[j]?=some g∧ps[j]?=some p∧is[j]?=some i∧V5 cx σ α F a w p cj v i g∧(g.ow=true∨g.wb=true)∧pi=⟨g.base.map fun q=>(q.1,q.2,wH p),gN g,g.wb⟩:=by
 obtain ⟨lv,li,lg,hat⟩:=hJ.at (i0:=0)
 simp only [dJ] at h
 cases hgm:gs[j]? with
 | none=>rw [hgm] at h; simp at h
 | some g=>
  cases hpm:ps[j]? with
  | none=>rw [hgm,hpm] at h; simp at h
  | some pm=>
   rw [hgm,hpm] at h
   simp only at h
   cases hh:(g.ow || g.wb) with
   | false=>rw [hh] at h; simp at h
   | true=>
    rw [hh] at h
    simp only [cond_true,anh] at h
    obtain ⟨cj,v,i,g',e1,e2,e3,e4,_⟩:=hat j pm hpm
    rw [hgm] at e3
    simp only [anh] at e3
    subst e3
    exact ⟨g,pm,cj,v,i,rfl,rfl,e2,e4,by simpa using hh,h.symm⟩
theorem LG (H:Rel cx σ α F a w) (hJ:Y2 cx σ α F a w ps c vs is gs):Fw (dJ cx σ α F w ps c is gs) ps:=by
 obtain ⟨lv,li,lg,hat⟩:=hJ.at (i0:=0)
 simp only [Nat.zero_add] at hat
 have TA:∀{j:Nat} {g:GA},gs[j]?=some g→g.wb=true→∃p cj,ps[j]?=some p∧gI (gG ps 0 c) (ay j)=dP p j cj∧((∃k ow wt ht,p=.rw k ow wt ht)∨∃k ow wt,p=.jK k ow wt):=by
  intro j g hg hw
  have hj:j<ps.length:=by have:=(List.getElem?_eq_some_iff.1 hg).1; omega
  obtain ⟨cj,v,i,g',e1,e2,e3,e4,e5,e6⟩:=hat j ps[j] (anw hj)
  rw [hg] at e3
  simp only [anh] at e3
  subst e3
  refine ⟨ps[j],cj,anw hj,e6, ?_⟩
  obtain ⟨k,x,ow,wt,ht,r,R,q,wh,h,_⟩:=Y0 e4 hw
  rcases h with ⟨h,_⟩ | ⟨h,_⟩
  ·exact .inl ⟨k,ow,wt,ht,h⟩
  ·exact .inr ⟨k,ow,wt,h⟩
 have hk:∀{j:Nat} {g:GA},gs[j]?=some g→g.wb=true→∃k,xN ps j k∧∃R0,gI (gG ps 0 c) (ay j)=some R0∧R0.k=k:=by
  intro j g hg hw
  obtain ⟨p,cj,h1,h2,h3⟩:=TA hg hw
  rcases h3 with ⟨k,ow,wt,ht,rfl⟩ | ⟨k,ow,wt,rfl⟩
  ·exact ⟨k,⟨ow,wt,ht, .inl h1⟩,_,h2,rfl⟩
  ·exact ⟨k,⟨ow,wt,[], .inr h1⟩,_,h2,rfl⟩
 refine ⟨fun j pi hj hkp=>?_,fun j q ts v hv=>?_,fun j v hv=>?_⟩
 ·obtain ⟨g,p,cj,v,i,e1,e2,e3,e4,e5,rfl⟩:=sN H hJ hj
  obtain ⟨k,h,_⟩:=hk e1 hkp
  exact ⟨k,h⟩
 ·obtain ⟨g,R0,c0,b,o,h1,h2,h3,h4,_⟩:=hv
  obtain ⟨k,h,R1,h5,h6⟩:=hk h1 h2
  rw [h3] at h5
  simp only [anh] at h5
  subst h5
  exact ⟨k,h,by rw [h4,h6]⟩
 ·obtain ⟨g,h1,_,_,h2⟩:=hv
  obtain ⟨k,h,_⟩:=hk h1 h2
  exact ⟨k,h⟩
theorem Oc (H:Rel cx σ α F a w) (hJ:Y2 cx σ α F a w ps c vs is gs) {Dn:St} {zM:dL} {Ff:List Nat} {af:Act} (Hf:Rel (dJ cx σ α F w ps c is gs) Dn zM Ff af w') {σ':St} {α':dL} {F':List Nat}
  (B:Cw σ α is gs Dn zM Ff σ' α' F') {Tg U:List Tag} (hU1:∀j n,(pY j,n)∈Tg→∀i,is[j]?=some i→∀t∈i.ids,∃n',(t.1,n')∈U) (hU2:∀m n,(ay m,n)∈Tg→∀i q,is[m]?=some i→i.wb=some q→∃n',(q.1,n')∈U)
  {b:Nat} (hb:iL (dJ cx σ α F w ps c is gs) Dn zM Ff w' Tg b):iL cx σ' α' F' w' U b:=by
 obtain ⟨hb1,hb2,hb3,hb4,hb5⟩:=hb
 have hcl:w.heap.size≤b∨(b<w.heap.size∧∃j n i,(pY j,n)∈Tg∧is[j]?=some i∧iL cx σ α F w i.ids b)∨(b<w.heap.size∧∃(j:Nat) (g:GA),gs[j]?=some g∧b∈g.fo∧((g.ow=true∧b∈F)∨(g.wb=true∧∃r R,aP σ r R∧b∈α.fo r))):=by
  by_cases hlt:b<w.heap.size
  ·refine .inr ?_
   rcases hb5 hlt with ⟨j,n,h1,⟨i,h2,h3⟩,_⟩ | ⟨j,pi,h1,h2⟩
   ·exact .inl ⟨hlt,j,n,i,h1,h2,h3⟩
   ·refine .inr ⟨hlt, ?_⟩
    obtain ⟨g,p,cj,v,i,e1,e2,e3,e4,e5,rfl⟩:=sN H hJ h1
    simp only at h2
    have hfo:b∈g.fo:=by
     unfold gN at h2
     cases hbase:g.base with
     | none=>rw [hbase] at h2; simpa using h2
     | some q=>
      rw [hbase] at h2
      simp only [List.cons_append,List.nil_append,anu] at h2
      rcases h2 with h2 | h2
      ·exact absurd ⟨j,_,q.2,wH p,h1,by rw [hbase,h2]; rfl⟩ hb3
      ·exact h2
    refine ⟨j,g,e1,hfo, ?_⟩
    rcases (nR H e4).1 b (by unfold gN; exact anj _ hfo) with h | ⟨h,_⟩
    ·exact .inl h
    ·obtain ⟨r,R,q,_,f2,f3⟩:=(nR H e4).2.2.1 b hfo h
     exact .inr ⟨h,r,R,f2,f3⟩
  ·exact .inl (Nat.le_of_not_lt hlt)
 refine ⟨hb1,fun h=>hb2 (B.F b h), ?_, ?_, ?_⟩
 ·intro hbase
  have hlt:b<w.heap.size:=by
   obtain ⟨j,pi,o,n,h1,h2⟩:=hbase
   obtain ⟨Q,hQ,hk,hl,_⟩:=H.lQ j pi b o n h1 h2
   exact ((H.roots _ _ hQ).mine b (by simp [Ow.blk,dV,hk,hl])).1
  rcases hcl with h | ⟨_,j,n,i,_,_,h⟩ | ⟨_,j,g,h1,h2,h⟩
  ·omega
  ·exact h.2.2.1 hbase
  ·rcases h with ⟨_,h⟩ | ⟨_,r,R,h3,h4⟩
   ·exact sF H h hbase
   ·exact oG H h3 h4 hbase
 ·intro q Q hq hbq
  rcases B.blk q Q b hq hbq with h | ⟨Q0,h1,h2,h3⟩ | ⟨m,i,R,u,h1,h2,h3,h4⟩
  ·exact absurd h hb2
  ·have hlt:=((H.roots q Q0 h1).mine b h2).1
   rcases hcl with h | ⟨_,j,n,i,g1,g2,g3⟩ | ⟨_,j,g,g1,g2,_⟩
   ·omega
   ·obtain ⟨n',hn'⟩:=g3.2.2.2.1 q Q0 h1 h2
    exact hU1 j n g1 i g2 _ hn'
   ·exact absurd g2 (h3 j g g1)
  ·obtain ⟨n,hn⟩:=hb4 (ay m) R h3 h4
   exact hU2 m n hn i _ h1 h2
 ·intro h0
  have hlt:b<w.heap.size:=Nat.lt_of_lt_of_le h0 H.frame.2.2.2.1
  have jD:Ow.mine cx w b→(∃j n,(pY j,n)∈U∧cx.ext j b)∨∃j pi,cx.par j=some pi∧b∈pi.bl:=fun hm=>by
   rcases hm.2 with h | ⟨j,pi,h1,h2⟩
   ·omega
   ·exact .inr ⟨j,pi,h1,h2⟩
  rcases hcl with h | ⟨_,j,n,i,g1,g2,g3⟩ | ⟨_,j,g,g1,g2,g3⟩
  ·omega
  ·rcases g3.2.2.2.2 h0 with ⟨j',n',f1,f2⟩ | h
   ·obtain ⟨n2,hn2⟩:=hU1 j n g1 i g2 _ f1
    exact .inl ⟨j',n2,hn2,f2⟩
   ·exact .inr h
  ·rcases g3 with ⟨_,h⟩ | ⟨_,r,R,h3,h4⟩
   ·exact jD (H.fl b h)
   ·exact jD ((H.roots r R h3).mine b (anj _ h4))
end
end
section
open Go
variable [Fr]
def vE (σ:St):(ps:List dG)→List cK→Cont (kD ps)→List Wr→Prop
 | [],[],_,ws=>ws=[]
 | .rw k _ _ _ :: ps,i :: is,c,ws=>∃r p wt ht R z ws',i.wb=some (r,p,wt,ht)∧σ.roots r=some R∧dX p R.k R.x ⟨k,c.1⟩=some z∧ws=.r r (some { R with k:=z.1,x:=z.2,w:=(eP R p :: wt)++R.w,h:=ht++R.h }) :: ws'∧vE σ ps is c.2 ws'
 | .jK k _ _ :: ps,i :: is,c,ws=>∃r p wt ht R z ws',i.wb=some (r,p,wt,ht)∧σ.roots r=some R∧dX p R.k R.x ⟨k,c.1⟩=some z∧ws=.r r (some { R with k:=z.1,x:=z.2,w:=(SENT :: (k.tys++wt))++R.w,h:=ht++R.h }) :: ws'∧vE σ ps is c.2 ws'
 | .val _ _ :: ps,_ :: is,c,ws=>vE σ ps is c ws
 | .ro _ :: ps,_ :: is,c,ws=>vE σ ps is c ws
 | .own _ _ :: ps,_ :: is,c,ws=>vE σ ps is c ws
 | .fn _ _ :: ps,_ :: is,c,ws=>vE σ ps is c ws
 | .into _ _ :: ps,_ :: is,c,ws=>vE σ ps is c ws
 | _,_,_,_=>False
theorem UD {A:Type} {z:A} {σ:St}:∀{ps:List dG} {is:List cK} {c:Cont (kD ps)} {k:List Wr→Prog A},(Jj ps is c k).ends σ z→∃ws,vE σ ps is c ws∧(k ws).ends σ z:=by
 intro ps
 induction ps with
 | nil=>
  intro is c k h
  cases is with
  | nil=>exact ⟨[],rfl,h⟩
  | cons _ _=>exact h.elim
 | cons p ps ih=>
  intro is c k h
  cases is with
  | nil=>cases p <;> exact h.elim
  | cons i is=>
   cases p with
   | rw kk ow Zb ht0=>
    obtain ⟨ids,wb,ws0,bt⟩:=i
    cases wb with
    | none=>exact h.elim
    | some q=>
     obtain ⟨r,p,wt,ht⟩:=q
     simp only [Jj,Prog.ends] at h
     cases hr:σ.roots r with
     | none=>rw [hr] at h; exact h.elim
     | some R=>
      rw [hr] at h
      simp only at h
      cases hz:dX p R.k R.x ⟨kk,c.1⟩ with
      | none=>rw [hz] at h; exact h.elim
      | some z=>
       rw [hz] at h
       obtain ⟨ws,g1,g2⟩:=ih h
       exact ⟨_,⟨r,p,wt,ht,R,z,ws,rfl,hr,hz,rfl,g1⟩,g2⟩
   | jK kk ow Zb=>
    obtain ⟨ids,wb,ws0,bt⟩:=i
    cases wb with
    | none=>exact h.elim
    | some q=>
     obtain ⟨r,p,wt,ht⟩:=q
     simp only [Jj,Prog.ends] at h
     cases hr:σ.roots r with
     | none=>rw [hr] at h; exact h.elim
     | some R=>
      rw [hr] at h
      simp only at h
      cases hz:dX p R.k R.x ⟨kk,c.1⟩ with
      | none=>rw [hz] at h; exact h.elim
      | some z=>
       rw [hz] at h
       obtain ⟨ws,g1,g2⟩:=ih h
       exact ⟨_,⟨r,p,wt,ht,R,z,ws,rfl,hr,hz,rfl,g1⟩,g2⟩
   | val _ _=>exact ih h
   | ro _=>exact ih h
   | own _ _=>exact ih h
   | fn _ _=>exact ih h
   | into _ _=>exact ih h
theorem Mf {σ:St}:∀{ps:List dG} {is:List cK} {c:Cont (kD ps)} {ws:List Wr},(∀i∈is,i.wb=none)→vE σ ps is c ws→ws=[]:=by
 intro ps
 induction ps with
 | nil=>
  intro is c ws _ h
  cases is with
  | nil=>exact h
  | cons _ _=>exact h.elim
 | cons p ps ih=>
  intro is c ws hn h
  cases is with
  | nil=>cases p <;> exact h.elim
  | cons i is=>
   have hn':∀i∈is,i.wb=none:=fun i hi=>hn i (by simp [hi])
   have h0:=hn i (by simp)
   cases p with
   | rw kk ow Zb ht0=>obtain ⟨r,p,wt,ht,R,z,ws',h1,_⟩:=h; rw [h0] at h1; simp at h1
   | jK kk ow Zb=>obtain ⟨r,p,wt,ht,R,z,ws',h1,_⟩:=h; rw [h0] at h1; simp at h1
   | val _ _=>exact ih hn' h
   | ro _=>exact ih hn' h
   | own _ _=>exact ih hn' h
   | fn _ _=>exact ih hn' h
   | into _ _=>exact ih hn' h
theorem wm {i:cK} {is:List cK} (h:Eo (i :: is)=true):(i.wb=none∧Eo is=true)∨(i.wb≠none∧∀i'∈is,i'.wb=none):=by
 unfold Eo at h
 cases hw:i.wb with
 | none=>rw [hw] at h; exact .inl ⟨rfl,h⟩
 | some q=>
  rw [hw] at h
  refine .inr ⟨by simp,fun i' hi=>?_⟩
  have:=anx.1 h i' hi
  cases hw':i'.wb with
  | none=>rfl
  | some _=>rw [hw'] at this; simp at this
theorem Rc {σ Dn:St}:∀{ps:List dG} {is:List cK} {c:Cont (kD ps)} {ws:List Wr} {j0:Nat},Eo is=true→(∀(m:Nat) (p:dG) (i:cK),ps[m]?=some p→is[m]?=some i→(∀k ow wt ht,p≠.rw k ow wt ht)→(∀k ow wt,p≠.jK k ow wt)→i.wb=none)→
  vE σ ps is c ws→Fv Dn ps j0 c→(ws=[]∧∀i∈is,i.wb=none)∨
  ∃(j:Nat) (i:cK) (k:K) (x:El k) (ow wt ht:List TypeId) (r:Nat) (p:List Stp) (R:Root) (z:Dat) (rZ ht':List TypeId),is[j]?=some i∧i.wb=some (r,p,rZ,ht')∧σ.roots r=some R∧dX p R.k R.x ⟨k,x⟩=some z∧Td Dn k x ow wt ht (j0+j)∧(∀(m:Nat) (i':cK),m≠j→is[m]?=some i'→i'.wb=none)∧
   ((ps[j]?=some (.rw k ow wt ht)∧ws=[.r r (some { R with k:=z.1,x:=z.2,w:=(eP R p :: rZ)++R.w,h:=ht'++R.h })])∨(ps[j]?=some (.jK k ow wt)∧ht=k.tys∧ws=[.r r (some { R with k:=z.1,x:=z.2,w:=(SENT :: (k.tys++rZ))++R.w,h:=ht'++R.h })])):=by
 intro ps
 induction ps with
 | nil=>
  intro is c ws j0 _ _ hB _
  cases is with
  | nil=>exact .inl ⟨hB,by simp⟩
  | cons _ _=>exact hB.elim
 | cons p ps ih=>
  intro is c ws j0 h1 hal hB hO
  cases is with
  | nil=>cases p <;> exact hB.elim
  | cons i is=>
   have ajO:∀(m:Nat) (p:dG) (i:cK),ps[m]?=some p→is[m]?=some i→(∀k ow wt ht,p≠.rw k ow wt ht)→(∀k ow wt,p≠.jK k ow wt)→i.wb=none:=fun m p i hp hi=>hal (m+1) p i (by simpa using hp) (by simpa using hi)
   have hrest:∀{c':Cont (kD ps)} {ws':List Wr},i.wb=none→vE σ ps is c' ws'→Fv Dn ps (j0+1) c'→(ws'=[]∧∀i'∈i :: is,i'.wb=none)∨
     ∃(j:Nat) (i':cK) (k:K) (x:El k) (ow wt ht:List TypeId) (r:Nat) (q:List Stp) (R:Root) (z:Dat) (rZ ht':List TypeId),(i :: is)[j]?=some i'∧i'.wb=some (r,q,rZ,ht')∧σ.roots r=some R∧dX q R.k R.x ⟨k,x⟩=some z∧Td Dn k x ow wt ht (j0+j)∧(∀(m:Nat) (i'':cK),m≠j→(i :: is)[m]?=some i''→i''.wb=none)∧
      (((p :: ps)[j]?=some (.rw k ow wt ht)∧ws'=[.r r (some { R with k:=z.1,x:=z.2,w:=(eP R q :: rZ)++R.w,h:=ht'++R.h })])∨((p :: ps)[j]?=some (.jK k ow wt)∧ht=k.tys∧ws'=[.r r (some { R with k:=z.1,x:=z.2,w:=(SENT :: (k.tys++rZ))++R.w,h:=ht'++R.h })])):=by
    intro c' ws' hw hB hO
    have ho:Eo is=true:=by
     rcases wm h1 with ⟨_,h⟩ | ⟨h,_⟩
     ·exact h
     ·exact absurd hw h
    rcases ih ho ajO hB hO with ⟨e,h⟩ | ⟨j,i',k,x,ow,wt,ht,r,q,R,z,rZ,ht',e1,e2,e3,e4,e5,e6,e7⟩
    ·refine .inl ⟨e,fun i' hi=>?_⟩
     rcases anu.1 hi with h' | h'
     ·subst h'; exact hw
     ·exact h i' h'
    ·refine .inr ⟨j+1,i',k,x,ow,wt,ht,r,q,R,z,rZ,ht',by simpa using e1,e2,e3,e4,by rw [show j0+(j+1)=j0+1+j by omega]; exact e5,fun m i'' hm hi=>?_,by simpa using e7⟩
     cases m with
     | zero=>simp only [List.getElem?_cons_zero,anh] at hi; subst hi; exact hw
     | succ m=>exact e6 m i'' (by omega) (by simpa using hi)
   have hnw:∀{rZ:Option (Nat×List Stp×List TypeId×List TypeId)},i.wb=rZ→rZ≠none→∀i'∈is,i'.wb=none:=by
    intro rZ he hne
    rcases wm h1 with ⟨h,_⟩ | ⟨_,h⟩
    ·rw [he] at h; exact absurd h hne
    ·exact h
   cases p with
   | rw kk ow Zb ht0=>
    obtain ⟨r,q,wt,ht,R,z,ws',g1,g2,g3,g4,g5⟩:=hB
    have hn:=hnw g1 (by simp)
    have:=Mf hn g5
    subst this
    refine .inr ⟨0,i,kk,c.1,ow,Zb,ht0,r,q,R,z,wt,ht,rfl,g1,g2,g3,hO.1,fun m i' hm hi=>?_, .inl ⟨rfl,g4⟩⟩
    cases m with
    | zero=>exact absurd rfl hm
    | succ m=>exact hn i' (List.mem_of_getElem? (by simpa using hi))
   | jK kk ow Zb=>
    obtain ⟨r,q,wt,ht,R,z,ws',g1,g2,g3,g4,g5⟩:=hB
    have hn:=hnw g1 (by simp)
    have:=Mf hn g5
    subst this
    refine .inr ⟨0,i,kk,c.1,ow,Zb,kk.tys,r,q,R,z,wt,ht,rfl,g1,g2,g3,hO.1,fun m i' hm hi=>?_, .inr ⟨rfl,rfl,g4⟩⟩
    cases m with
    | zero=>exact absurd rfl hm
    | succ m=>exact hn i' (List.mem_of_getElem? (by simpa using hi))
   | val k ig=>exact hrest (hal 0 _ i rfl rfl (by simp) (by simp)) hB hO
   | ro k=>exact hrest (hal 0 _ i rfl rfl (by simp) (by simp)) hB hO
   | own k ow=>exact hrest (hal 0 _ i rfl rfl (by simp) (by simp)) hB hO
   | fn f ks=>exact hrest (hal 0 _ i rfl rfl (by simp) (by simp)) hB hO
   | into j q=>exact hrest (hal 0 _ i rfl rfl (by simp) (by simp)) hB hO
end
section
open Go
variable [Fr]
section
variable {P:Program} {T:iT} {cx:Cx} {σ:St} {α:dL} {F:List Nat} {a:Act} {w w':World} {ps:List dG} {c:Cont (kin ps)} {vs:List Value} {is:List cK} {gs:List GA}
theorem jG {l m:List Nat}:mO l m=true↔∀t∈l,t∈m:=by
 unfold mO
 rw [anx]
 simp [aM]
theorem TQ (h:Heap):∀(q:List Stp) {k:K} {cs:List Value} {wh:Option (Nat×Nat)} {c0:List Value} {w0:Option (Nat×Nat)},ah q k≠[]→bG h q k cs wh=some (c0,w0)→(∀nE,bG h q k cs nE=some (c0,w0))∧∃b o,w0=some (b,o):=by
 intro q
 induction q with
 | nil=>intro k cs wh c0 w0 h1; simp [ah] at h1
 | cons s q ih=>
  intro k cs wh c0 w0 h1 h2
  cases s with
  | fJ n=>
   cases k with
   | st c=>
    simp only [bG] at h2 ⊢
    cases ho:bB n c with
    | none=>rw [ho] at h2; simp at h2
    | some p=>
     obtain ⟨off,k'⟩:=p
     rw [ho] at h2
     simp only at h2 ⊢
     have hk:ah.Hu n c=some k':=by
      have:∀(n:Nat) {c:K} {off:Nat} {k':K},bB n c=some (off,k')→ah.Hu n c=some k':=by
       intro n
       induction n with
       | zero=>intro c off k' h; cases c <;> simp_all [bB,ah.Hu]
       | succ n ih=>
        intro c off k' h
        cases c with
        | pair a b=>
         simp only [bB] at h
         cases h5:bB n b with
         | none=>rw [h5] at h; simp at h
         | some q=>
          rw [h5] at h
          simp only [anh,ant] at h
          simp only [ah.Hu]
          exact ih (by rw [h5, ←h.2])
        | _=>simp [bB] at h
      exact this n ho
     have hpt:ah (.fJ n :: q) (.st c)=ah q k':=by simp [ah,hk]
     rw [hpt] at h1
     obtain ⟨g1,g2⟩:=ih h1 h2
     exact ⟨fun nE=>g1 _,g2⟩
   | _=>simp [bG] at h2
  | idx i=>
   cases k with
   | sl e k=>
    simp only [bG] at h2 ⊢
    split at h2
    ·rename_i ad _ _
     refine ⟨fun nE=>h2, ?_⟩
     have key:∀(q:List Stp) {k:K} {cs:List Value} {p:Nat×Nat} {c0:List Value} {w0:Option (Nat×Nat)},bG h q k cs (some p)=some (c0,w0)→∃b o,w0=some (b,o):=by
      intro q
      induction q with
      | nil=>intro k cs p c0 w0 h; simp only [bG,anh,ant] at h; exact ⟨p.1,p.2,h.2.symm⟩
      | cons s q ih=>
       intro k cs p c0 w0 h
       cases s with
       | fJ n=>
        cases k with
        | st c=>
         simp only [bG] at h
         cases ho:bB n c with
         | none=>rw [ho] at h; simp at h
         | some q2=>rw [ho] at h; exact ih h
        | _=>simp [bG] at h
       | idx i=>
        cases k with
        | sl e k=>
         simp only [bG] at h
         split at h
         ·exact ih h
         ·simp at h
        | _=>simp [bG] at h
     exact key q h2
    ·simp at h2
   | _=>simp [bG] at h2
theorem DT (H:Rel cx σ α F a w) {Dn:St} {zM:dL} {Ff G:List Nat} {r j:Nat} {R Rf R':Root} {i:cK} {u:List Stp×List TypeId×List TypeId} {g:GA} {rest:List Nat} {Dm:dL} {lw lh:List Nat} (hr:aP σ r R) (hi:is[j]?=some i) (hw:i.wb=some (r,u)) (hlf:aP Dn (ay j) Rf)
  (hg:gs[j]?=some g) (hpr:(α.fo r).Perm (g.fo++rest)) (hoth:∀(m:Nat) (gm:GA),m≠j→gs[m]?=some gm→∀b∈gm.fo,b∈F)
  (T:ni cx σ α F w (au σ r R') Dm G w' (sU r lw) (sU r lh)) (hblk:∀b∈Ow.blk Dm R' r,(∃o,dV α R r=some (b,o))∨b∈zM.fo (ay j)∨b∈rest) (hG:∀b∈G,b∈Ff):Cw σ α is gs Dn zM Ff (au σ r R') Dm G:=by
 have hK:=H.roots r R hr
 have Ve:=hK.nd
 rw [bV,nu] at Ve
 have PT:=ano.1 (hpr.nodup Ve.2)
 have acN:∀{q:Nat} {Q:Root} {b:Nat},aP σ q Q→b∈Ow.blk α Q q→b∉g.fo→∀(m:Nat) (gm:GA),gs[m]?=some gm→b∉gm.fo:=by
  intro q Q b hq hb hno m gm hm Xu
  by_cases e:m=j
  ·subst e
   rw [hg] at hm
   simp only [anh] at hm
   subst hm
   exact hno Xu
  ·exact H.iP q Q hq b hb (hoth m gm e hm b Xu)
 refine ⟨fun q Q b hq hb=>?_,hG⟩
 by_cases e:q=r
 ·subst e
  obtain ⟨rfl,_⟩:=eT hq
  rcases hblk b hb with ⟨o,h⟩ | h | h
  ·have hbb:b∈Ow.blk α R q:=by rw [bV,fq]; exact .inl ⟨o,h⟩
   exact .inr (.inl ⟨R,hr,hbb,acN hr hbb (fun h'=>Ve.1 b o h (hpr.mem_iff.2 (anm _ h')))⟩)
  ·exact .inr (.inr ⟨j,i,Rf,u,hi,hw,hlf,anj _ h⟩)
  ·have hbb:b∈Ow.blk α R q:=anj _ (hpr.mem_iff.2 (anj _ h))
   exact .inr (.inl ⟨R,hr,hbb,acN hr hbb (fun h'=>PT.2.2 b h' b h rfl)⟩)
 ·have hq':=(Kk e).1 hq
  obtain ⟨Q2,g1,g2⟩:=T.old q Q hq'.1
  have hS:Same σ α (au σ r R') Dm q:=by
   refine anF fun hns=>?_
   rw [bU σ R' e,hq'.1] at g1
   simp only [anh] at g1
   subst g1
   rcases g2 with ⟨h1,_⟩ | ⟨_,h2⟩
   ·rw [hq'.2] at h1; simp at h1
   ·rcases h2.2.2.2.2.2.2 with h3 | ⟨_,_,h3⟩
    ·rw [ql _ e,ql _ e] at h3; simp at h3
    ·exact hns h3
  rw [hS.blk] at hb
  refine .inr (.inl ⟨Q,hq',hb,acN hq' hb (fun h'=>?_)⟩)
  exact H.Iu r R q Q hr hq' (Ne.symm e) b (anj _ (hpr.mem_iff.2 (anm _ h'))) hb
theorem aar:∀(p:List Stp) {k:K} {x:El k} {t z:Dat},ng p k x→dX p k x t=some z→aQ p z.1 z.2=some t∧ng p z.1 z.2∧ah p z.1=ah p k:=by
 intro p
 induction p with
 | nil=>
  intro k x t z _ hz
  simp only [dX,anh] at hz
  subst hz
  exact ⟨rfl,trivial,rfl⟩
 | cons s p ih=>
  intro k x t z hp hz
  cases s with
  | fJ n=>
   cases k with
   | st c=>
    simp only [dX] at hz
    simp only [ng] at hp
    cases hg:aO n c x with
    | none=>rw [hg] at hz; simp at hz
    | some s=>
     rw [hg] at hz hp
     simp only at hz hp
     cases hs:dX p s.1 s.2 t with
     | none=>rw [hs] at hz; simp at hz
     | some u=>
      rw [hs] at hz
      simp only at hz
      cases hcp:cz n c x u with
      | none=>rw [hcp] at hz; simp at hz
      | some y=>
       rw [hcp] at hz
       simp only [anh] at hz
       subst hz
       obtain ⟨h1,h2,h3⟩:=ih hp hs
       have hg2:=yu n hcp
       refine ⟨?_, ?_, ?_⟩
       ·show aQ (.fJ n :: p) (.st y.1) y.2=some t
        simp only [aQ,hg2]
        exact h1
       ·show ng (.fJ n :: p) (.st y.1) y.2
        simp only [ng,hg2]
        exact h2
       ·show ah (.fJ n :: p) (.st y.1)=_
        simp only [ah,bW n hg2,bW n hg]
        exact h3
   | _=>exact hp.elim
  | idx i=>
   cases k with
   | sl e k=>
    simp only [dX] at hz
    obtain ⟨hp0,hp1,hp2⟩:=hp
    cases hs:dX p k ((show List (El k) from x).getD i.toNat k.zero) t with
    | none=>rw [hs] at hz; simp at hz
    | some u=>
     rw [hs] at hz
     simp only at hz
     cases hc:bP u.1 k u.2 with
     | none=>rw [hc] at hz; simp at hz
     | some y=>
      rw [hc] at hz
      simp only [anh] at hz
      subst hz
      obtain ⟨ek,ey⟩:=bL hc
      obtain ⟨uk,ux⟩:=u
      simp only at ek
      subst ek
      simp only at ey
      subst ey
      obtain ⟨h1,h2,h3⟩:=ih hp2 hs
      have hlt:i.toNat < @List.length (El uk) x:=by
       have:i<((@List.length (El uk) x:Nat):Int):=hp1
       omega
      have hgd:(show List (El uk) from (show List (El uk) from x).set i.toNat y).getD i.toNat uk.zero=y:=by
       have hl2:i.toNat<(@List.set (El uk) x i.toNat y).length:=by rw [List.length_set]; exact hlt
       exact (bZ hl2).trans (List.getElem_set_self hl2)
      refine ⟨?_,⟨hp0, ?_, ?_⟩, ?_⟩
      ·simp only [aQ]
       rw [hgd]
       exact h1
      ·have:i<((@List.length (El uk) x:Nat):Int):=hp1
       simpa using this
      ·rw [hgd]
       exact h2
      ·rfl
   | _=>exact hp.elim
theorem Re (H:Rel cx σ α F a w) (hJ:Y2 cx σ α F a w ps c vs is gs) (ho:Eo is=true) {Dn:St} {zM:dL} {Ff:List Nat} {af:Act} (Hf:Rel (dJ cx σ α F w ps c is gs) Dn zM Ff af w')
  {c':Cont (kD ps)} {ws:List Wr} (hB:vE σ ps is c' ws) (hO:Fv Dn ps 0 c') {G:List Nat} (hG:∀b∈G,b∈Ff) (hGn:G.Nodup) :
  ∃Dm,Rel cx (aB ws σ) Dm G a w'∧Cw σ α is gs Dn zM Ff (aB ws σ) Dm G∧(aB ws σ).slots=σ.slots∧(∀q,σ.roots q=none→(aB ws σ).roots q=none)∧(∀t,EO σ t→EO (aB ws σ) t)∧(ws=[]∨∃r R,ws=[.r r (some R)])∧
   ∀(j:Nat) (i:cK) (r:Nat) (q:List Stp) (wt ht:List TypeId),qo∉ht→is[j]?=some i→i.wb=some (r,q,wt,ht)→∃Rf R' R,Dn.roots (ay j)=some Rf∧bu Dn Rf∧Rf.g=0∧ws=[.r r (some R')]∧σ.roots r=some R∧ng q R'.k R'.x∧(∀t∈ah q R'.k,az t R'.own=true)∧
    (bu (aB ws σ) R'→∃wh,bG (hp w') q R'.k (Dm.hdr r) (dV Dm R' r)=some (zM.hdr (ay j),wh)):=by
 obtain ⟨lv,li,lg,hat⟩:=hJ.at (i0:=0)
 simp only [Nat.zero_add] at hat
 obtain ⟨f1,f2,f3,f4,f5,f6⟩:=Hf.frame
 have hgj:∀{j:Nat} {g:GA},gs[j]?=some g→∃p cj v i,ps[j]?=some p∧vs[j]?=some v∧is[j]?=some i∧V5 cx σ α F a w p cj v i g:=by
  intro j g hg
  have hj:j<ps.length:=by have:=(List.getElem?_eq_some_iff.1 hg).1; omega
  obtain ⟨cj,v,i,g',e1,e2,e3,e4,_⟩:=hat j ps[j] (anw hj)
  rw [hg] at e3
  simp only [anh] at e3
  subst e3
  exact ⟨ps[j],cj,v,i,anw hj,e1,e2,e4⟩
 have J2:∀b,b<w.heap.size→hp w' b≠hp w b→∃(j:Nat) (g:GA),gs[j]?=some g∧b∈gN g∧(g.ow=true∨g.wb=true):=by
  intro b hb hne
  refine anF fun hno=>hne (f5 b hb fun j pi hj hbl=>?_)
  obtain ⟨g,p,cj,v,i,e1,e2,e3,e4,e5,rfl⟩:=sN H hJ hj
  exact hno ⟨j,g,e1,hbl,e5⟩
 have jD:∀b∈Ff,b<w'.heap.size∧(w.heap.size≤b∨∃(j:Nat) (g:GA),gs[j]?=some g∧b∈gN g∧(g.ow=true∨g.wb=true)):=by
  intro b hb
  obtain ⟨h1,h2⟩:=Hf.fl b hb
  refine ⟨h1,h2.imp id ?_⟩
  rintro ⟨j,pi,h3,h4⟩
  obtain ⟨g,p,cj,v,i,e1,e2,e3,e4,e5,rfl⟩:=sN H hJ h3
  exact ⟨j,g,e1,h4,e5⟩
 have hal:∀(m:Nat) (p:dG) (i:cK),ps[m]?=some p→is[m]?=some i→(∀k ow wt ht,p≠.rw k ow wt ht)→(∀k ow wt,p≠.jK k ow wt)→i.wb=none:=by
  intro m p i hp hi h1 h2
  obtain ⟨cj,v,i',g,e1,e2,e3,e4,_⟩:=hat m p hp
  rw [hi] at e2
  simp only [anh] at e2
  subst e2
  obtain ⟨_,e4⟩:=e4
  cases p with
  | val k ig=>exact e4.2.2.1
  | ro k=>exact e4.2.2.1
  | own k ow=>exact e4.2.2.1
  | fn f ks=>exact e4.2.2.1
  | rw k ow wt ht=>exact absurd rfl (h1 k ow wt ht)
  | jK k ow wt=>exact absurd rfl (h2 k ow wt)
  | into j q=>exact e4.2.2.1
 have Vj:∀{m:Nat} {g:GA} {i:cK},gs[m]?=some g→is[m]?=some i→i.wb=none→g.wb=false:=by
  intro m g i hg hi hn
  obtain ⟨p,cj,v,i',e1,e2,e3,e4⟩:=hgj hg
  rw [hi] at e3
  simp only [anh] at e3
  subst e3
  cases hw:g.wb with
  | false=>rfl
  | true=>exact absurd hn ((nR H e4).2.2.2.1 hw)
 have J8:∀{m:Nat} {g:GA} {b:Nat},gs[m]?=some g→g.wb=false→b∈gN g→b∈F:=by
  intro m g b hg hw hb
  obtain ⟨p,cj,v,i,e1,e2,e3,e4⟩:=hgj hg
  rcases (nR H e4).1 b hb with ⟨_,h⟩ | ⟨h,_⟩
  ·exact h
  ·rw [hw] at h; simp at h
 rcases Rc (j0:=0) ho hal hB hO with ⟨rfl,hnone⟩ | ⟨j,i,k,x,ow,wt,ht,r,p,R,z,rZ,ht',e1,e2,e3,e4,e5,e6,e7⟩
 ·
  have hnw:∀{m:Nat} {g:GA},gs[m]?=some g→g.wb=false:=by
   intro m g hg
   obtain ⟨p,cj,v,i,g1,g2,g3,g4⟩:=hgj hg
   exact Vj hg g3 (hnone i (List.mem_of_getElem? g3))
  have T:=Ei (w':=w') (F':=G) H ⟨f1,f2,f3⟩ f4 (fun b hb hne=>by obtain ⟨j,g,h1,h2,_⟩:=J2 b hb hne; exact J8 h1 (hnw h1) h2)
   (fun b hb=>by
    obtain ⟨h1,h2⟩:=jD b (hG b hb)
    rcases h2 with h2 | ⟨j,g,h3,h4,_⟩
    ·exact .inr ⟨h2,h1⟩
    ·exact .inl (J8 h3 (hnw h3) h4)) hGn
  refine ⟨α,H.mem T,⟨fun q Q b hq hb=>.inr (.inl ⟨Q,hq,hb,fun m g hg hbg=>?_⟩),hG⟩,rfl,fun q h=>h,fun t h=>h, .inl rfl,fun j i r q wt ht _ hi hw=>by rw [hnone i (List.mem_of_getElem? hi)] at hw; simp at hw⟩
  exact H.iP q Q hq b hb (J8 hg (hnw hg) (anj _ hbg))
 ·
  have hj:j<ps.length:=by rcases e7 with ⟨h,_⟩ | ⟨h,_⟩ <;> exact (List.getElem?_eq_some_iff.1 h).1
  obtain ⟨g,hg⟩:∃g,gs[j]?=some g:=⟨gs[j]'(by omega),anw _⟩
  obtain ⟨p0,cj,v,i',g1,g2,g3,g4⟩:=hgj hg
  rw [e1] at g3
  simp only [anh] at g3
  subst g3
  obtain ⟨cj2,v2,i2,gg2,a1,a2,a3,a4,a5,a6⟩:=hat j p0 g1
  obtain ⟨x0,wh,rest,hP,Cb,hOw,hfo,hgn,hpr,zB,hwf,hgo,hbase,hps,hwt,hht,hR0⟩:∃(x0:El k) (wh:Option (Nat×Nat)) (rest:List Nat),PlG cx σ α w k x0 ow i rZ ht' r R p∧bG (hp w) p R.k (α.hdr r) (dV α R r)=some (g.cs,wh)∧Ow (hp w) R.own (iL cx σ α F w R.tags) k x0 g.cs g.fo∧(∀b∈g.fo,b∈α.fo r)∧g.fo.Nodup∧
    (α.fo r).Perm (g.fo++rest)∧(∀b o,wh=some (b,o)→b∈rest∨∃o0,dV α R r=some (b,o0)∧o0≤o∧o+k.size≤o0+R.k.size)∧(∀b o,wh=some (b,o)→b∉g.fo)∧
    (∀{t z:Dat} {tags':List Tag} {lw lh:List TypeId} {kp:Bool} {ft F':List Nat} {cs':List Value} {w':World},sJ cx σ α F w r R p ⟨k,x0⟩ R.own g.cs wh g.fo rest t z tags' lw lh kp ft F' cs' w'→
     ∃α',Rel cx (au σ r (bH R z R.own tags' lw lh kp)) α' F' a w'∧ni cx σ α F w (au σ r (bH R z R.own tags' lw lh kp)) α' F' w' (sU r lw) (sU r lh)∧(∀b∈Ow.blk α' (bH R z R.own tags' lw lh kp) r,(∃o,dV α R r=some (b,o))∨b∈ft∨b∈rest)∧
      (qo∉lh→bu (au σ r (bH R z R.own tags' lw lh kp)) (bH R z R.own tags' lw lh kp)→bG (hp w') p z.1 (α'.hdr r) (dV α' (bH R z R.own tags' lw lh kp) r)=some (cs',wh))∧∀b∈ft,b∈α'.fo r)∧
    ((∃b o,wh=some (b,o)∧g.base=some (b,o))∨(g.base=none∧VC k g.v g.cs))∧(wH p0=k.size∨g.base=none)∧(rZ=wt)∧(ht'=ht)∧
    (∃R0,gI (gG ps 0 c) (ay j)=some R0∧R0.k=k∧HEq R0.x x0∧R0.own=ow):=by
   have h4:V5 cx σ α F a w p0 cj2 v2 i2 gg2:=a4
   rw [hg] at a3
   simp only [anh] at a3
   subst a3
   rw [e1] at a2
   simp only [anh] at a2
   subst a2
   rcases e7 with ⟨h,_⟩ | ⟨h,aj9,_⟩
   ·rw [g1] at h
    simp only [anh] at h
    subst h
    obtain ⟨hv0,h1,h2,r1,R1,q1,b,o,h3,h4',h5,h6,h7,h8,h9,h10,h11,rest,h12,h13,h14,h15⟩:=h4
    have hwb:=h3.wb
    rw [e2] at hwb
    simp only [anh,ant] at hwb
    obtain ⟨rfl,rfl,rfl,rfl⟩:=hwb
    have hRR:R1=R:=by have:=h3.lv.1; rw [e3] at this; simpa using this.symm
    subst hRR
    refine ⟨cj2.1,some (b,o),rest,h3,h5,h8,h9,h10,h12,h13,h14,h15, .inl ⟨b,o,rfl,h7⟩, .inl rfl,rfl,rfl, ?_⟩
    rw [a6]
    exact ⟨_,rfl,rfl,HEq.rfl,rfl⟩
   ·rw [g1] at h
    simp only [anh] at h
    subst h
    obtain ⟨hv0,h1,h2,r1,R1,q1,wh,h3,h4',h5,h6,h7,h8,h9,h10,rest,h12,h13,h14,h15⟩:=h4
    have hwb:=h3.wb
    rw [e2] at hwb
    simp only [anh,ant] at hwb
    obtain ⟨rfl,rfl,rfl,rfl⟩:=hwb
    have hRR:R1=R:=by have:=h3.lv.1; rw [e3] at this; simpa using this.symm
    subst hRR
    refine ⟨cj2.1,wh,rest,h3,h5,h8,h9,h10,h12,h13,h14,h15, .inr ⟨h7,hv0▸h6⟩, .inr h7,rfl,aj9.symm, ?_⟩
    rw [a6]
    exact ⟨_,rfl,rfl,HEq.rfl,rfl⟩
  subst hwt
  subst hht
  rw [Nat.zero_add] at e5
  obtain ⟨lw,akj,akk,akl,hws⟩:∃lw:List TypeId,(∀e∈rZ,e∈lw)∧lw≠[]∧(g.base≠none→eP R p∈lw)∧ws=[.r r (some (bH R z R.own R.tags lw ht' R.keep))]:=by
   rcases e7 with ⟨h,hw⟩ | ⟨h,hh,hw⟩
   ·exact ⟨eP R p :: rZ,fun e he=>by simp [he],by simp,fun _=>by simp,hw⟩
   ·refine ⟨SENT :: (k.tys++rZ),fun e he=>by simp [he],by simp,fun hb=>?_,by rw [hw,hh]; rfl⟩
    rw [g1] at h
    simp only [anh] at h
    subst h
    exact absurd (g4.2.2.2 |> fun ⟨_,_,_,_,_,_,_,_,hb,_⟩=>hb) hb
  subst hws
  obtain ⟨Rf,hRf,hvf,⟨ek,ex⟩,XC,xR,rO⟩:=e5
  have hlf:aP Dn (ay j) Rf:=⟨hRf,hvf.1⟩
  subst ek
  simp only at ex
  subst ex
  have Kf:=Hf.roots (ay j) Rf hlf
  have hgw:g.wb=true:=(nR H g4).2.2.2.2 (by rw [e2]; simp)
  have TE:(dJ cx σ α F w ps c is gs).par j=some ⟨g.base.map fun q=>(q.1,q.2,wH p0),gN g,g.wb⟩:=by
   simp only [dJ]
   rw [hg,g1]
   simp [hgw]
  unfold Cr at xR
  simp only [ann,jG] at xR
  obtain ⟨⟨⟨⟨l1,l2⟩,l3⟩,l4⟩,l5⟩:=xR
  have hg0:Rf.g=0:=anl l5
  have hkind:dV zM Rf (ay j)=g.base∧(g.base=none→zM.hdr (ay j)=g.cs):=by
   rcases hbase with ⟨b,o,_,hb⟩ | ⟨hb,hV⟩
   ·obtain ⟨Q,hQ,hk,hl,_⟩:=Hf.lQ j _ b o (wH p0) TE (by simp [hb])
    have hQR:Q=Rf:=by have:=hQ.1; rw [hRf] at this; simpa using this.symm
    subst hQR
    refine ⟨?_,fun h=>by rw [hb] at h; simp at h⟩
    unfold dV
    rw [hk,hl,hb]
   ·have hrf:=(Hf.vV j g.v ⟨g,hg,rfl,hb,hgw⟩).2 Rf hlf hg0
    refine ⟨by unfold dV; rw [hrf.1,hb],fun _=>?_⟩
    have h1:=hrf.2.cells
    have h2:=hV.cells
    rw [←h1,h2]
  obtain ⟨af9,afA⟩:=hkind
  have aaR:Ow.blk zM Rf (ay j)=(match g.base with | some q=>[q.1] | none=>[])++zM.fo (ay j):=by
   unfold Ow.blk
   rw [af9]
   cases g.base <;> rfl
  have XI:(zM.fo (ay j)).Nodup:=(ano.1 (aaR▸Kf.nd)).2.1
  have afL:(zM.hdr (ay j)).length=Rf.k.size:=Kf.len
  have hK:=H.roots r R hP.lv
  have Ve:=hK.nd
  rw [bV,nu] at Ve
  have amB:∀b,b∈α.fo r↔b∈g.fo∨b∈rest:=fun b=>by rw [hpr.mem_iff,anq]
  have PT:=ano.1 (hpr.nodup Ve.2)
  have hcells:∀b o,wh=some (b,o)→Cells (hp w') b o (zM.hdr (ay j))∧gM (hp w) (hp w') b o Rf.k.size:=by
   intro b o hw
   obtain ⟨m1,_,m2,⟨arr,e,lo,hi,m3,m4,m5,m6⟩,_⟩:=qa H hP.lv hP.vl hP.get hP.pin hP.own (by rw [Cb,hw])
   rcases hbase with ⟨b',o',hw',hb⟩ | ⟨hb,_⟩
   ·rw [hw] at hw'
    simp only [anh,ant] at hw'
    obtain ⟨rfl,rfl⟩:=hw'
    have hm:=Kf.mem b o (by rw [af9,hb])
    have hsz:wH p0=Rf.k.size:=by
     rcases hps with h | h
     ·exact h
     ·rw [hb] at h; simp at h
    have:=f6 j _ b o (wH p0) TE (by simp [hb])
    rw [hsz] at this
    exact ⟨hm.1,this⟩
   ·have hlt:=(hK.mine b m2).1
    have hsame:hp w' b=hp w b:=by
     refine anF fun hne=>?_
     obtain ⟨m,gm,h1,h2,h3⟩:=J2 b hlt hne
     by_cases e:m=j
     ·subst e
      rw [hg] at h1
      simp only [anh] at h1
      subst h1
      unfold gN at h2
      rw [hb] at h2
      exact hwf b o hw (by simpa using h2)
     ·have hgm:gm.wb=false:=by
       obtain ⟨pm,cm,vm,im,k1,k2,k3,k4⟩:=hgj h1
       exact Vj h1 k3 (e6 m im e k3)
      exact H.iP r R hP.lv b m2 (J8 h1 hgm h2)
    rw [afA hb]
    exact ⟨m1.congr hsame,gM.of_same _ _ m3 hsame⟩
  have hwho:∀b,(w.heap.size≤b∨∃(j:Nat) (g:GA),gs[j]?=some g∧b∈gN g∧(g.ow=true∨g.wb=true))→(∀o,g.base≠some (b,o))→b<w'.heap.size→b∈g.fo∨b∈F∨(w.heap.size≤b∧b<w'.heap.size):=by
   intro b hb hnb hlt
   rcases hb with hb | ⟨m,gm,h1,h2,h3⟩
   ·exact .inr (.inr ⟨hb,hlt⟩)
   ·by_cases e:m=j
    ·subst e
     rw [hg] at h1
     simp only [anh] at h1
     subst h1
     unfold gN at h2
     cases hbb:g.base with
     | none=>rw [hbb] at h2; exact .inl (by simpa using h2)
     | some q=>
      rw [hbb] at h2
      simp only [List.cons_append,List.nil_append,anu] at h2
      rcases h2 with h2 | h2
      ·exact absurd (by rw [hbb,h2]) (hnb q.2)
      ·exact .inl h2
    ·have hgm:gm.wb=false:=by
      obtain ⟨pm,cm,vm,im,k1,k2,k3,k4⟩:=hgj h1
      exact Vj h1 k3 (e6 m im e k3)
     exact .inr (.inl (J8 h1 hgm h2))
  have J5:∀b∈g.fo,b∈gN g:=fun b hb=>anj _ hb
  have acK:∀b∈g.fo,¬lN (dJ cx σ α F w ps c is gs) b:=by
   rintro b hb ⟨m,pi,o,n,h1,h2⟩
   obtain ⟨gm,pm,cm,vm,im,k1,k2,k3,k4,k5,rfl⟩:=sN H hJ h1
   simp only at h2
   cases Xu:gm.base with
   | none=>rw [Xu] at h2; simp at h2
   | some q=>
    rw [Xu] at h2
    simp only [Option.map_some,anh,ant] at h2
    have afJ:gm.wb=true:=by
     obtain ⟨_,_,_,_,_,_,_,hw,_⟩:=(nR H k4).2.1 q.1 q.2 (by rw [Xu])
     exact (nR H k4).2.2.2.2 (by rw [hw]; simp)
    by_cases e:m=j
    ·subst e
     rw [hg] at k1
     simp only [anh] at k1
     subst k1
     rcases hbase with ⟨b',o',hw',hb'⟩ | ⟨hb',_⟩
     ·rw [Xu] at hb'
      simp only [anh] at hb'
      subst hb'
      exact hwf b' o' hw' (by have:=h2.1; simp only at this; rw [this]; exact hb)
     ·rw [Xu] at hb'; simp at hb'
    ·have:=Vj k1 k3 (e6 m im e k3)
     rw [this] at afJ
     simp at afJ
  have hkb:∀b∈g.fo,(∃e∈lw,qM (hp w) b=some e)∨(hp w' b=hp w b∧b∉Ff∧∀q Q,aP Dn q Q→b∈Ow.blk zM Q q→q=ay j):=by
   intro b hb
   obtain ⟨R2,h1,h2⟩:=Hf.uu j _ TE (by simp [hgw])
   rw [hRf] at h1
   simp only [anh] at h1
   subst h1
   rcases h2 hvf.1 b (J5 b hb) (acK b hb) with ⟨e,h3,h4⟩ | h
   ·refine .inl ⟨e,akj e ?_,h3⟩
    rcases h4 with h4 | h4
    ·exact l1 e h4
    ·exact l2 e h4
   ·exact .inr h
  have ZW:∀b∈zM.fo (ay j),∀o,g.base≠some (b,o):=by
   intro b hb o hbb
   have:=aaR▸Kf.nd
   rw [hbb] at this
   simp only [List.cons_append,List.nil_append] at this
   exact (anQ.1 this).1 hb
  have ZR:∀b∈Ff,∀o,g.base≠some (b,o):=fun b hb o hbb=>sF Hf hb ⟨j,_,o,wH p0,TE,by simp [hbb]⟩
  have hoth:∀(m:Nat) (gm:GA),m≠j→gs[m]?=some gm→∀b∈gm.fo,b∈F:=by
   intro m gm e hm b hb
   obtain ⟨pm,cm,vm,im,k1,k2,k3,k4⟩:=hgj hm
   exact J8 hm (Vj hm k3 (e6 m im e k3)) (anj _ hb)
  have hPT:sJ cx σ α F w r R p ⟨Rf.k,x0⟩ R.own g.cs wh g.fo rest ⟨Rf.k,Rf.x⟩ z R.tags lw ht' R.keep (zM.fo (ay j)) G (zM.hdr (ay j)) w':=by
   refine ⟨e4,rfl,fun _ h=>h,⟨f1,f2,f3⟩,f4, ?_,hcells, ?_,afL, .inl akk,⟨fun _ h=>h,(H.dz r R e3).1,(H.dz r R e3).2.2⟩, ?_,XI, ?_,hGn, ?_, .inl rfl, .inl rfl, ?_, ?_⟩
   ·intro b hb hne
    obtain ⟨m,gm,h1,h2,h3⟩:=J2 b hb hne
    by_cases e:m=j
    ·subst e
     rw [hg] at h1
     simp only [anh] at h1
     subst h1
     unfold gN at h2
     rcases anq.1 h2 with h2 | h2
     ·cases hbb:g.base with
      | none=>rw [hbb] at h2; simp at h2
      | some q=>
       rw [hbb] at h2
       simp only [anC] at h2
       rcases hbase with ⟨b',o',hw',hb'⟩ | ⟨hb',_⟩
       ·rw [hbb] at hb'
        simp only [anh] at hb'
        subst hb'
        simp only at h2
        exact .inr (.inr ⟨o',by rw [h2]; exact hw',akl (by rw [hbb]; simp)⟩)
       ·rw [hbb] at hb'; simp at hb'
     ·rcases hkb b h2 with h | h
      ·exact .inr (.inl ⟨h2,h⟩)
      ·exact absurd h.1 hne
    ·have hgm:gm.wb=false:=by
      obtain ⟨pm,cm,vm,im,k1,k2,k3,k4⟩:=hgj h1
      exact Vj h1 k3 (e6 m im e k3)
     exact .inl (J8 h1 hgm h2)
   ·intro hw
    rcases hbase with ⟨b',o',hw',_⟩ | ⟨hb',_⟩
    ·rw [hw] at hw'; simp at hw'
    ·exact afA hb'
   ·intro b hb
    have hbl:b∈Ow.blk zM Rf (ay j):=anj _ hb
    obtain ⟨m1,m2⟩:=Kf.mine b hbl
    refine hwho b (m2.imp id ?_) (ZW b hb) m1
    rintro ⟨m,pi,h3,h4⟩
    obtain ⟨gm,pm,cm,vm,im,k1,k2,k3,k4,k5,rfl⟩:=sN H hJ h3
    exact ⟨m,gm,k1,h4,k5⟩
   ·intro b hb
    obtain ⟨m1,m2⟩:=jD b (hG b hb)
    rcases hwho b m2 (ZR b (hG b hb)) m1 with h | h | h
    ·rcases hkb b h with h' | h'
     ·exact .inr (.inr ⟨h,h'⟩)
     ·exact absurd (hG b hb) h'.2.1
    ·exact .inl h
    ·exact .inr (.inl h)
   ·intro b hb hbG
    exact Hf.iP (ay j) Rf hlf b (anj _ hb) (hG b hbG)
   ·intro XB q c0 w0 fO XT hnq _
    by_cases hpt:ah q Rf.k=[]
    ·exact u6 (own:=R.own) q fO (fun t ht=>by rw [hpt] at ht; simp at ht) hnq
    ·obtain ⟨hany,b,o,hw0⟩:=TQ _ q hpt hnq
     subst hw0
     have hq:q≠[]:=fun e=>hpt (by rw [e]; simp [ah])
     have aks:dY q Rf.k=qo :: ah q Rf.k:=by
      cases q with
      | nil=>exact absurd rfl hq
      | cons s q=>rfl
     have hto:∀t∈ah q Rf.k,az t ow=true:=fun t ht=>by
      have h1:=anx.1 hP.just t (oN q t ht)
      have h2:=(XT t ht).1
      have h1':az t R.own=az t ow:=by simpa using h1
      rw [←h1',h2]
     obtain ⟨R0,r1,r2,r3,r4⟩:=hR0
     have FU:(dJ cx σ α F w ps c is gs).ptrs j q (dY q Rf.k) (.pointer (some ⟨b,o,none⟩)):=by
      refine ⟨g,R0,c0,b,o,hg,hgw,r1,by rw [r2],fun t ht=>by rw [r4]; exact hto t (r2▸ht), ?_, ?_,rfl⟩
      ·obtain ⟨R0k,R0x,_,_,_,_,_,_,_,_,_,_⟩:=R0
       simp only at r2 r3
       subst r2
       rw [eq_of_heq r3]
       exact fO
      ·rw [r2]; exact hany _
     obtain ⟨_,R2,h1,h2⟩:=Hf.vU j q _ _ FU
     rw [hRf] at h1
     simp only [anh] at h1
     subst h1
     have hno:∀t∈ht',t∉dY q Rf.k:=by
      intro t ht hm
      rw [aks] at hm
      rcases anu.1 hm with h | h
      ·exact XB (h▸ht)
      ·exact (XT t h).2 ht
     obtain ⟨q1,cs,b',o',q2,q3⟩:=(h2 (fun t ht hm=>hno t (l4 t hm) ht)).2 Rf hRf hvf (by
       unfold clean
       rw [anx]
       intro t ht
       have:t∈Rf.h:=List.mem_of_mem_take ht
       simp only [Bool.not_eq_true',aV]
       exact hno t (l3 t this))
      (fun t ht=>by
       have h1:=anx.1 XC t (oN q t ht)
       have h1':az t Rf.own=az t ow:=by simpa using h1
       rw [h1']
       exact hto t ht)
      (by rw [qF q (y:=x0)]; exact Te q fO)
     simp only [Value.pointer.injEq,anh,Addr.mk.injEq,and_true] at q3
     obtain ⟨rfl,rfl⟩:=q3
     exact ⟨q1,cs,(TQ _ q hpt q2).1 _⟩
   ·intro α' Tn hblk _
    have hOf:=Kf.ow hvf
    have hsame:∀t∈Rf.k.tys,az t R.own=az t Rf.own:=fun t ht=>by
     have h1:=anx.1 hP.just t ht
     have h2:=anx.1 XC t ht
     have h1':az t R.own=az t ow:=by simpa using h1
     have h2':az t Rf.own=az t ow:=by simpa using h2
     rw [h1',h2']
    refine rF hsame ?_
    rcases rO with hall | rO
    ·refine gF (dA (fun t ht=>?_)) hOf
     have h2:=anx.1 XC t ht
     have h2':az t Rf.own=az t ow:=by simpa using h2
     rw [h2']
     exact j4 hall t ht
    ·refine bz (fun _ _=>rfl) (fun b hb=>?_) (fun _ _=>rfl) hOf
     refine Oc H hJ Hf (DT H hP.lv e1 e2 hlf hg hpr hoth Tn hblk hG) (fun j' n hn i' hi' t ht=>?_) (fun m n hn=>?_) hb
     ·have h1:=anx.1 rO _ hn
      simp only [iJ,cond_true] at h1
      have h2:pY j' / 4=j':=by unfold pY; omega
      rw [h2,aM,anC] at h1
      subst h1
      rw [e1] at hi'
      simp only [anh] at hi'
      subst hi'
      rw [hP.ids] at ht
      exact ⟨t.2,ht⟩
     ·have h1:=anx.1 rO _ hn
      have h2:Nat.beq (ay m % 4) 0=true:=by unfold ay; simp
      simp only [oH,cond_false,h2,cond_true] at h1
      simp [az] at h1
  obtain ⟨Dm,hR2,hT2,hb2,acQ,_⟩:=hgo hPT
  refine ⟨Dm,hR2,DT H hP.lv e1 e2 hlf hg hpr hoth hT2 hb2 hG,rfl,fun q hq=>?_,fun t ht=>hT2.tag ht, .inr ⟨_,_,rfl⟩,fun j' i' r' q' Zb ht0 aj7 hi' hw'=>?_⟩
  rotate_left
  ·have ej:j'=j:=by
    refine anF fun hne=>?_
    rw [e6 j' i' hne hi'] at hw'
    simp at hw'
   subst ej
   rw [e1] at hi'
   simp only [anh] at hi'
   subst hi'
   rw [e2] at hw'
   simp only [anh,ant] at hw'
   obtain ⟨rfl,rfl,rfl,rfl⟩:=hw'
   obtain ⟨s1,s2,s3⟩:=aar p hP.pin e4
   exact ⟨Rf,_,R,hRf,hvf,hg0,rfl,e3,s2,fun t ht=>hP.own t (by rw [←s3]; exact ht),fun hv'=>⟨wh,acQ aj7 hv'⟩⟩
  have hne:q≠r:=fun e=>by rw [e,e3] at hq; simp at hq
  show (au σ r _).roots q=none
  rw [bU σ _ hne]
  exact hq
end
end
section
open Go
variable [Fr]
def OT (σ:St) (ws:List Wr) (l:List Nat) (tags:List Tag):Prop:=
 (∀r∈l,∃n,(r,n)∈tags)∧∀t∈tags,fI t.1=true∨(∃R,ws.find? (fun w=>w.loc.beq (.r t.1))=some (.r t.1 (some R))∧t.2=gH R.w)∨(∃R,σ.roots t.1=some R∧t.2=gH R.w)
theorem Vy {w:Wr} {r:Nat} (h:w.loc.beq (.r r)=true):∃o,w=.r r o:=by
 cases w with
 | s n a=>simp [Wr.loc,Loc.beq] at h
 | r n o=>
  simp only [Wr.loc,Loc.beq] at h
  exact ⟨o,by rw [anl h]⟩
theorem Kt {A:Type} {z:A} {σ:St} {ws:List Wr}:∀{l:List Nat} {k:List Tag→Prog A},(Qh ws l k).ends σ z→∃tags,OT σ ws l tags∧(k tags).ends σ z:=by
 intro l
 induction l with
 | nil=>intro k h; exact ⟨[],⟨by simp,by simp⟩,h⟩
 | cons r l ih=>
  intro k h
  unfold Qh at h
  have hadd:∀{n:Nat} {tags:List Tag},OT σ ws l tags→(fI r=true∨(∃R,ws.find? (fun w=>w.loc.beq (.r r))=some (.r r (some R))∧n=gH R.w)∨(∃R,σ.roots r=some R∧n=gH R.w))→OT σ ws (r :: l) ((r,n) :: tags):=by
   intro n tags h1 h2
   refine ⟨fun q hq=>?_,fun t ht=>?_⟩
   ·rcases anu.1 hq with h | h
    ·subst h; exact ⟨n,by simp⟩
    ·obtain ⟨m,hm⟩:=h1.1 q h; exact ⟨m,by simp [hm]⟩
   ·rcases anu.1 ht with h | h
    ·subst h; exact h2
    ·exact h1.2 t h
  cases he:fI r with
  | true=>
   rw [he] at h
   obtain ⟨tags,g1,g2⟩:=ih h
   exact ⟨_,hadd g1 (.inl he),g2⟩
  | false=>
   rw [he] at h
   simp only [cond_false] at h
   split at h
   ·rename_i q R hf
    have hq:q=r:=by
     have:=List.find?_some hf
     obtain ⟨o,ho⟩:=Vy this
     simp only [Wr.r.injEq] at ho
     exact ho.1
    subst hq
    obtain ⟨tags,g1,g2⟩:=ih h
    exact ⟨_,hadd g1 (.inr (.inl ⟨R,hf,rfl⟩)),g2⟩
   ·exact h.elim
   ·simp only [Prog.ends] at h
    cases hr:σ.roots r with
    | none=>rw [hr] at h; exact h.elim
    | some R=>
     rw [hr] at h
     obtain ⟨tags,g1,g2⟩:=ih h
     exact ⟨_,hadd g1 (.inr (.inr ⟨R,hr,rfl⟩)),g2⟩
def Wx (σ:St) (d:Nat) (is:List cK) (ws:List Wr):(rs:List lU)→Nat→Cont (iB rs)→List AV→List Wr→Prop
 | [],_,_,as,ws'=>as=[]∧ws'=[]
 | .val k exts ig :: rs,c,x,as,ws'=>∃tags as',OT σ ws (bif k.flat then [] else xP (Eb is exts ig)) tags∧as=.val k x.1 tags :: as'∧Wx σ d is ws rs (c+1) x.2 as' ws'
 | .own k ow exts ig :: rs,c,x,as,ws'=>∃tags as' SX,OT σ ws (bif k.tys.all (fun t=>az t ow) then [] else xP (Eb is exts ig)) tags∧σ.roots (aY d c)=none∧as=.ref (aY d c) 0 :: as'∧ws'=.r (aY d c) (some (aL k x.1 ow tags .anon)) :: SX∧Wx σ d is ws rs (c+1) x.2 as' SX
 | .ptr t k ow exts :: rs,c,x,as,ws'=>∃tags as' SX,OT σ ws (bif k.tys.all (fun t=>az t ow) then [] else xP (Eb is exts [])) tags∧σ.roots (aY d c)=none∧as=.ptr (aY d c) [] 0 :: as'∧ws'=.r (aY d c) (some (aL k x.1 ow tags (.var t))) :: SX∧Wx σ d is ws rs (c+1) x.2 as' SX
 | .into j p :: rs,c,x,as,ws'=>c=0∧p=[]∧rs=[]∧ws'=[]∧∃i r q wt ht R,is[j]?=some i∧i.wb=some (r,q,wt,ht)∧qo∉ht∧ws.find? (fun w=>w.loc.beq (.r r))=some (.r r (some R))∧as=[.xU r q (gH R.w+gH R.h) (show Int from x.1).toNat]
theorem YE {A:Type} {z:A} {σ:St} {d:Nat} {is:List cK} {ws:List Wr}:∀{rs:List lU} {c:Nat} {x:Cont (iB rs)} {k:List AV→List Wr→Prog A},(yN d is ws rs c x k).ends σ z→∃as ws',Wx σ d is ws rs c x as ws'∧(k as ws').ends σ z:=by
 intro rs
 induction rs with
 | nil=>intro c x k h; exact ⟨[],[],⟨rfl,rfl⟩,h⟩
 | cons p rs ih=>
  intro c x k h
  cases p with
  | val kk exts ig=>
   simp only [yN] at h
   obtain ⟨tags,h1,h⟩:=Kt h
   obtain ⟨as,ws',h2,h⟩:=ih h
   exact ⟨_,ws',⟨tags,as,h1,rfl,h2⟩,h⟩
  | own kk ow exts ig=>
   simp only [yN] at h
   obtain ⟨tags,h1,h⟩:=Kt h
   obtain ⟨hn,h⟩:=fM h
   obtain ⟨as,ws',h2,h⟩:=ih h
   exact ⟨_,_,⟨tags,as,ws',h1,hn,rfl,rfl,h2⟩,h⟩
  | ptr t kk ow exts=>
   simp only [yN] at h
   obtain ⟨tags,h1,h⟩:=Kt h
   obtain ⟨hn,h⟩:=fM h
   obtain ⟨as,ws',h2,h⟩:=ih h
   exact ⟨_,_,⟨tags,as,ws',h1,hn,rfl,rfl,h2⟩,h⟩
  | into j q=>
   simp only [yN] at h
   rcases aA h with ⟨hc,h⟩ | ⟨_,h⟩
   ·simp only [ann,List.isEmpty_iff] at hc
    split at h
    ·rename_i i hi
     split at h
     ·rename_i r q' wt ht hw
      split at h
      ·rename_i r' R hf
       rcases aA h with ⟨_,h⟩ | ⟨uD,h⟩
       ·exact h.elim
       have hb:=List.find?_some hf
       simp only [Wr.loc,Loc.beq] at hb
       have hb:=anl hb
       subst hb
       exact ⟨_,_,⟨anl hc.1.1,hc.1.2,hc.2,rfl,i,r',q',wt,ht,R,hi,hw,aV.1 uD,hf,rfl⟩,h⟩
      ·exact h.elim
     ·exact h.elim
    ·exact h.elim
   ·exact h.elim
theorem CW {n:Nat} {l:List Nat}:n∈l→n∈xP l:=by
 induction l with
 | nil=>simp
 | cons m l ih=>
  intro h
  unfold xP
  cases hm:az m l with
  | true=>
   simp only [cond_true]
   rcases anu.1 h with h | h
   ·subst h; exact ih (aM.1 hm)
   ·exact ih h
  | false=>
   simp only [cond_false]
   rcases anu.1 h with h | h
   ·subst h; simp
   ·simp [ih h]
section
variable {P:Program} {T:iT} {cx:Cx} {σ:St} {α:dL} {F:List Nat} {a:Act} {w w':World} {ps:List dG} {c:Cont (kin ps)} {vs:List Value} {is:List cK} {gs:List GA}
theorem Bz {exts ig:List Nat} {Tg U:List Tag} {l:List Nat} (ht:qA exts ig Tg=true) (hU:∀r∈l,∃n,(r,n)∈U) (hl:∀r∈Eb is exts ig,r∈l) :
  (∀j n,(pY j,n)∈Tg→∀i,is[j]?=some i→∀t∈i.ids,∃n',(t.1,n')∈U)∧(∀m n,(ay m,n)∈Tg→∀i q,is[m]?=some i→i.wb=some q→∃n',(q.1,n')∈U):=by
 refine ⟨fun j n hn i hi t ht'=>?_,fun m n hn i q hi hq=>?_⟩
 ·have h1:=anx.1 ht _ hn
  simp only [iJ,cond_true] at h1
  have h2:pY j / 4=j:=by unfold pY; omega
  rw [h2,aM] at h1
  refine hU _ (hl _ ?_)
  unfold Eb
  refine anm _ (anU.2 ⟨j,h1, ?_⟩)
  rw [hi]
  exact anT.2 ⟨t,ht',rfl⟩
 ·have h1:=anx.1 ht _ hn
  have h2:Nat.beq (ay m % 4) 0=true:=by unfold ay; simp
  simp only [oH,cond_false,h2,cond_true] at h1
  rw [Ql,aM] at h1
  refine hU _ (hl _ ?_)
  unfold Eb
  refine anj _ (anU.2 ⟨m,h1, ?_⟩)
  simp [hi,hq]
theorem P9 {d c c':Nat} (h:aY d c=aY d c'):c=c':=by unfold aY at h; omega
theorem UA (H:Rel cx σ α F a w) (hJ:Y2 cx σ α F a w ps c vs is gs) {Dn:St} {zM:dL} {Ff:List Nat} {af:Act} (Hf:Rel (dJ cx σ α F w ps c is gs) Dn zM Ff af w') {σ0:St} {d:Nat} {ws:List Wr} :
  ∀{rs:List lU} {ci:Nat} {x:Cont (iB rs)} {as:List AV} {ws':List Wr} {us:List Value} {bD:List (List Nat)} {σ':St} {α':dL},Rel cx σ' α' bD.flatten a w'→Cw σ α is gs Dn zM Ff σ' α' bD.flatten→
   I6 (dJ cx σ α F w ps c is gs) Dn zM Ff w' rs x us bD→Wx σ0 d is ws rs ci x as ws'→(∀l tags,OT σ0 ws l tags→eY σ' tags)→(∀cj,ci≤cj→σ0.roots (aY d cj)=none→σ'.roots (aY d cj)=none)→(∀b∈bD.flatten,b∈Ff)→
   (ci=0→∀(j:Nat) (i:cK) (r:Nat) (q:List Stp) (wt ht:List TypeId) (R:Root) (b:Option Addr) (n cp m:Nat),is[j]?=some i→i.wb=some (r,q,wt,ht)→qo∉ht→ws.find? (fun w=>w.loc.beq (.r r))=some (.r r (some R))→m≤n→bI (dJ cx σ α F w ps c is gs) Dn zM Ff w' (.ref (ay j) 0) (.slice b n cp)→
    bI cx σ' α' bD.flatten w' (.xU r q (gH R.w+gH R.h) m) (.slice b m cp)∧rG σ' (.xU r q (gH R.w+gH R.h) m))→
   ∃α'',Rel cx (aB ws' σ') α'' [] a w'∧dS cx (aB ws' σ') α'' [] w' as us∧(∀v∈as,rG (aB ws' σ') v)∧(aB ws' σ').slots=σ'.slots∧Cw σ α is gs Dn zM Ff (aB ws' σ') α'' []∧
    (∀u v,rG σ' u→bI cx σ' α' bD.flatten w' u v→bI cx (aB ws' σ') α'' [] w' u v)∧(∀t,EO σ' t→EO (aB ws' σ') t)∧(∀u,rG σ' u→rG (aB ws' σ') u):=by
 intro rs
 induction rs with
 | nil=>
  intro ci x as ws' us bD σ' α' H' B hL hW _ _ _ _
  obtain ⟨rfl,rfl⟩:=hW
  cases us with
  | cons _ _=>exact hL.elim
  | nil=>cases bD with
   | cons _ _=>exact hL.elim
   | nil=>exact ⟨α',H',trivial,by simp,rfl,B,fun _ _ _ h=>h,fun _ h=>h,fun _ h=>h⟩
 | cons p rs ih=>
  intro ci x as ws' us bD σ' α' H' B hL hW uo hfr hFf hcut
  cases us with
  | nil=>cases p <;> exact hL.elim
  | cons u us=>
   cases bD with
   | nil=>cases p <;> exact hL.elim
   | cons fo bD=>
    cases p with
    | val k exts ig=>
     obtain ⟨⟨rfl,Tg,cs,h1,h2,h3⟩,h4⟩:=hL
     obtain ⟨tags,as',hN,rfl,hW⟩:=hW
     simp only [List.flatten_cons,List.nil_append] at H' B hFf
     obtain ⟨α'',k1,k2,k3,k4,k5,k6,k7,k8⟩:=ih H' B h4 hW uo (fun cj hc=>hfr cj (by omega)) hFf (fun h=>absurd h (Nat.succ_ne_zero _))
     refine ⟨α'',k1,⟨fun _=>⟨cs,h2, ?_⟩,k2⟩, ?_,k4,k5,by simpa using k6,k7,k8⟩
     ·cases hf:k.flat with
      | true=>exact iV hf h3
      | false=>
       rw [hf] at hN h1
       obtain ⟨b1,b2⟩:=Bz (is:=is) (h1.resolve_left (by simp)) hN.1 (fun r hr=>CW hr)
       exact gq (fun _ _=>rfl) (fun b hb=>Oc H hJ Hf k5 b1 b2 hb) h3
     ·intro v hv
      rcases anu.1 hv with h | h
      ·subst h; exact fun t ht=>k7 t (uo _ _ hN t ht)
      ·exact k3 v h
    | own k ow exts ig=>
     obtain ⟨⟨Tg,cs,own,h1,h2,h3,h5⟩,h4⟩:=hL
     obtain ⟨tags,as',SX,hN,hn,rfl,rfl,hW⟩:=hW
     simp only [List.flatten_cons] at H' B hFf
     obtain ⟨dH,fd,hpm,hO⟩:=uV (own':=ow) (fun t ht hm=>h2 t ht hm) h5
     have hnd:=ano.1 H'.zV
     have PT:=ano.1 (hpm.nodup hnd.1)
     have hk:(aL k x.1 ow tags .anon false).kind=.anon:=rfl
     have hn':=hfr ci (anz _) hn
     have R4:∀b∈dH,b∈fo:=fun b hb=>hpm.mem_iff.2 (anm _ hb)
     obtain ⟨q1,q2⟩:=O1 (R':=aL k x.1 ow tags .anon false) H' hn' (fA d ci) rfl (by simp [aL]) (uo _ _ hN) (0,0) cs dH bD.flatten
      (fun b hb=>by rw [gW hk] at hb; exact ⟨anm _ (R4 b hb),fun h=>hnd.2.2 b (R4 b hb) b h rfl⟩) (by rw [gW hk]; exact PT.1) (fun b hb=>anj _ hb) hnd.2.1
      (fun _=>by
       rw [gW hk]
       show Ow (hp w') ow _ k x.1 cs dH
       cases hall:(k.tys.all fun t=>az t ow) with
       | true=>exact gF (dA (j4 hall)) hO
       | false=>
        rw [hall] at hN h1
        obtain ⟨b1,b2⟩:=Bz (is:=is) (h1.resolve_left (by simp)) hN.1 (fun r hr=>CW hr)
        refine bz (fun _ _=>rfl) (fun b hb=>?_) (fun _ _=>rfl) hO
        rcases hb with hb | hb
        ·exact .inl (Oc H hJ Hf B b1 b2 hb)
        ·have hbf:b∈fo:=hpm.mem_iff.2 (anj _ hb)
         exact .inr ⟨anm _ hbf,fun h=>hnd.2.2 b hbf b h rfl,fun h=>PT.2.2 b h b hb rfl⟩) (dh h5) (fun b o hb=>by rw [yT hk] at hb; simp at hb)
     have hB2:Cw σ α is gs Dn zM Ff (au σ' (aY d ci) (aL k x.1 ow tags .anon false)) (aG α' (aY d ci) (0,0) cs dH) bD.flatten:=by
      refine ⟨fun q Q b hq hb=>?_,fun b hb=>hFf b (anj _ hb)⟩
      rcases jm hq with ⟨rfl,rfl,_⟩ | ⟨e,hq'⟩
      ·rw [eG,gW hk] at hb
       exact .inl (hFf b (anm _ (R4 b hb)))
      ·rw [(gZ (σ:=σ') (α:=α') (R:=aL k x.1 ow tags .anon false) e).blk] at hb
       exact B.blk q Q b hq' hb
     have Xr:∀u v,rG σ' u→bI cx σ' α' (fo++bD.flatten) w' u v→bI cx (au σ' (aY d ci) (aL k x.1 ow tags .anon false)) (aG α' (aY d ci) (0,0) cs dH) bD.flatten w' u v:=fun u v hu hv=>
      q2.av H' (fun r R hr hs=>absurd (gZ (fun e=>by have:=hr.1; rw [e,hn'] at this; simp at this)) hs) (fun r R hr hs=>absurd (gZ (fun e=>by have:=hr.1; rw [e,hn'] at this; simp at this)) hs) hu hv
     obtain ⟨α'',k1,k2,k3,k4,k5,k6,k7,k8⟩:=ih (ci:=ci+1) q1 hB2 h4 hW (fun l tags hN t ht=>q2.tag (uo l tags hN t ht)) (fun cj hc h=>by
      rw [bU]
      ·exact hfr cj (by omega) h
      ·intro e; have:=P9 e; omega) (fun b hb=>hFf b (anj _ hb)) (fun h=>absurd h (Nat.succ_ne_zero _))
     have hroot:(au σ' (aY d ci) (aL k x.1 ow tags .anon false)).roots (aY d ci)=some (aL k x.1 ow tags .anon false):=aI ..
     have PV:rG (au σ' (aY d ci) (aL k x.1 ow tags .anon false)) (.ref (aY d ci) 0):=⟨_,hroot, .inr (anR _)⟩
     refine ⟨α'',k1,⟨k6 _ _ PV (Yo h3),k2⟩, ?_,k4,k5,fun u v hu hv=>?_,fun t ht=>k7 t (q2.tag ht),fun u hu=>k8 u (q2.rG hu)⟩
     ·intro v hv
      rcases anu.1 hv with h | h
      ·subst h
       exact k8 _ PV
      ·exact k3 v h
     ·exact k6 u v (q2.rG hu) (Xr u v hu hv)
    | ptr t k ow exts=>
     obtain ⟨⟨b0,o0,Tg,cs,own,xQ,h3,rfl,h1,h2,hmem,h5⟩,h4⟩:=hL
     obtain ⟨tags,as',SX,hN,hn,rfl,rfl,hW⟩:=hW
     simp only [List.flatten_cons] at H' B hFf
     obtain ⟨dH,fd,hpm,hO⟩:=uV (own':=ow) (fun t ht hm=>h2 t ht hm) h5
     have hnd:=ano.1 H'.zV
     have sj:=anQ.1 hnd.1
     have PT:=ano.1 (hpm.nodup sj.2)
     have hk:(aL k x.1 ow tags (.var t) false).kind=.var t:=rfl
     have hn':=hfr ci (anz _) hn
     have R4:∀b∈b0 :: dH,b∈b0 :: xQ:=fun b hb=>by
      rcases anu.1 hb with h | h
      ·rw [h]; exact anP
      ·exact anH _ (hpm.mem_iff.2 (anm _ h))
     obtain ⟨q1,q2⟩:=O1 (R':=aL k x.1 ow tags (.var t) false) H' hn' (fA d ci) rfl (by simp [aL]) (uo _ _ hN) (b0,o0) cs dH bD.flatten
      (fun b hb=>by rw [vk hk] at hb; exact ⟨anm _ (R4 b hb),fun h=>hnd.2.2 b (R4 b hb) b h rfl⟩) (by rw [vk hk]; exact anQ.2 ⟨fun h=>sj.1 (hpm.mem_iff.2 (anm _ h)),PT.1⟩) (fun b hb=>anj _ hb) hnd.2.1
      (fun _=>by
       rw [vk hk]
       show Ow (hp w') ow _ k x.1 cs dH
       cases hall:(k.tys.all fun t=>az t ow) with
       | true=>exact gF (dA (j4 hall)) hO
       | false=>
        rw [hall] at hN h1
        obtain ⟨b1,b2⟩:=Bz (is:=is) (h1.resolve_left (by simp)) hN.1 (fun r hr=>CW hr)
        refine bz (fun _ _=>rfl) (fun b hb=>?_) (fun _ _=>rfl) hO
        rcases hb with hb | hb
        ·exact .inl (Oc H hJ Hf B b1 b2 hb)
        ·have hbf:b∈b0 :: xQ:=anH _ (hpm.mem_iff.2 (anj _ hb))
         exact .inr ⟨anm _ hbf,fun h=>hnd.2.2 b hbf b h rfl,fun h=>by
          rcases anu.1 h with h | h
          ·subst h; exact sj.1 (hpm.mem_iff.2 (anj _ hb))
          ·exact PT.2.2 b h b hb rfl⟩) (dh h5) (fun b o hb=>by
       rw [QF hk] at hb
       simp only [anh,ant] at hb
       obtain ⟨rfl,rfl⟩:=hb
       obtain ⟨m1,arr,e,lo,hi,m2,m3,m4,m5⟩:=hmem
       exact ⟨m1,arr,e,lo,hi,m2,m3,m4,fun u hu=>by rw [m5]; rw [hk] at hu; simpa using hu⟩)
     have hB2:Cw σ α is gs Dn zM Ff (au σ' (aY d ci) (aL k x.1 ow tags (.var t) false)) (aG α' (aY d ci) (b0,o0) cs dH) bD.flatten:=by
      refine ⟨fun q Q b hq hb=>?_,fun b hb=>hFf b (anj _ hb)⟩
      rcases jm hq with ⟨rfl,rfl,_⟩ | ⟨e,hq'⟩
      ·rw [eG,vk hk] at hb
       exact .inl (hFf b (anm _ (R4 b hb)))
      ·rw [(gZ (σ:=σ') (α:=α') (R:=aL k x.1 ow tags (.var t) false) e).blk] at hb
       exact B.blk q Q b hq' hb
     have Xr:∀u v,rG σ' u→bI cx σ' α' ((b0 :: xQ)++bD.flatten) w' u v→bI cx (au σ' (aY d ci) (aL k x.1 ow tags (.var t) false)) (aG α' (aY d ci) (b0,o0) cs dH) bD.flatten w' u v:=fun u v hu hv=>
      q2.av H' (fun r R hr hs=>absurd (gZ (fun e=>by have:=hr.1; rw [e,hn'] at this; simp at this)) hs) (fun r R hr hs=>absurd (gZ (fun e=>by have:=hr.1; rw [e,hn'] at this; simp at this)) hs) hu hv
     obtain ⟨α'',k1,k2,k3,k4,k5,k6,k7,k8⟩:=ih (ci:=ci+1) q1 hB2 h4 hW (fun l tags hN t ht=>q2.tag (uo l tags hN t ht)) (fun cj hc h=>by
      rw [bU]
      ·exact hfr cj (by omega) h
      ·intro e; have:=P9 e; omega) (fun b hb=>hFf b (anj _ hb)) (fun h=>absurd h (Nat.succ_ne_zero _))
     have hroot:(au σ' (aY d ci) (aL k x.1 ow tags (.var t) false)).roots (aY d ci)=some (aL k x.1 ow tags (.var t) false):=aI ..
     have PV:rG (au σ' (aY d ci) (aL k x.1 ow tags (.var t) false)) (.ptr (aY d ci) [] 0):=⟨_,hroot, .inr (anR _)⟩
     refine ⟨α'',k1,⟨k6 _ _ PV (by rw [h3]; exact aaj),k2⟩, ?_,k4,k5,fun u v hu hv=>?_,fun t ht=>k7 t (q2.tag ht),fun u hu=>k8 u (q2.rG hu)⟩
     ·intro v hv
      rcases anu.1 hv with h | h
      ·subst h
       exact k8 _ PV
      ·exact k3 v h
     ·exact k6 u v (q2.rG hu) (Xr u v hu hv)
    | into j q=>
     obtain ⟨⟨rfl,_,b,n,cp,e1,e2,e3⟩,h4⟩:=hL
     obtain ⟨hci,_,rfl,rfl,i,r,q',wt,ht,R,g1,g2,g0,g3,rfl⟩:=hW
     cases us with
     | cons _ _=>exact h4.elim
     | nil=>
      cases bD with
      | cons _ _=>exact h4.elim
      | nil=>
       obtain ⟨k1,k2⟩:=hcut hci j i r q' wt ht R b n cp _ g1 g2 g0 g3 e2 e3
       simp only [List.flatten_cons,List.flatten_nil,anM] at H' k1
       simp only [List.flatten_cons,List.flatten_nil,anM] at B
       refine ⟨α',H',⟨by rw [e1]; exact k1,trivial⟩,fun v hv=>?_,rfl,B,fun _ _ _ h=>?_,fun _ h=>h,fun _ h=>h⟩
       ·simp only [anC] at hv
        subst hv
        exact k2
       ·simp only [List.flatten_cons,List.flatten_nil,anM] at h
        exact h
end
end
section
open Go
variable [Fr]
section
variable {P:Program} {T:iT} {cx:Cx} {σ:St} {α:dL} {F:List Nat} {a:Act} {w w':World}
theorem abR:∀{ps:List dG} {c:Cont (kin ps)} {vs:List Value} {is:List cK} {ts:List (Value×iy)},Tc cx σ α F a w ps c vs is ts→
  is.flatMap cK.ws=uB ts∧(∀q∈ts,wZ cx σ α F w q.1 q.2)∧(∀t∈qL ts,∃(j:Nat) (i:cK) (k:K) (ow:List TypeId),ps[j]?=some (.own k ow)∧is[j]?=some i∧t∈i.ids)∧vs.length=ps.length∧is.length=ps.length:=by
 intro ps
 induction ps with
 | nil=>
  intro c vs is ts h
  cases vs with
  | cons _ _=>exact h.elim
  | nil=>cases is with
   | cons _ _=>exact h.elim
   | nil=>cases ts with
    | cons _ _=>exact h.elim
    | nil=>exact ⟨rfl,by simp,by simp [qL],rfl,rfl⟩
 | cons p ps ih=>
  intro c vs is ts h
  cases vs with
  | nil=>cases p <;> exact h.elim
  | cons v vs=>
   cases is with
   | nil=>cases p <;> exact h.elim
   | cons i is=>
    have hshift:∀{ts:List (Value×iy)},(∀t∈qL ts,∃(j:Nat) (i:cK) (k:K) (ow:List TypeId),ps[j]?=some (.own k ow)∧is[j]?=some i∧t∈i.ids)→∀t∈qL ts,∃(j:Nat) (i':cK) (k:K) (ow:List TypeId),(p :: ps)[j]?=some (.own k ow)∧(i :: is)[j]?=some i'∧t∈i'.ids:=by
     intro ts h t ht
     obtain ⟨j,i',k,ow,h1,h2,h3⟩:=h t ht
     exact ⟨j+1,i',k,ow,by simpa using h1,by simpa using h2,h3⟩
    cases p with
    | val k ig=>obtain ⟨⟨_,h1,_⟩,h6⟩:=h; obtain ⟨g1,g2,g3,g4,g5⟩:=ih h6; exact ⟨by simp [h1,g1],g2,hshift g3,by simp [g4],by simp [g5]⟩
    | ro k=>obtain ⟨⟨_,h1,_⟩,h6⟩:=h; obtain ⟨g1,g2,g3,g4,g5⟩:=ih h6; exact ⟨by simp [h1,g1],g2,hshift g3,by simp [g4],by simp [g5]⟩
    | rw k ow wt ht=>obtain ⟨⟨r,R,p,hP,_⟩,h6⟩:=h; obtain ⟨g1,g2,g3,g4,g5⟩:=ih h6; exact ⟨by simp [hP.ws,g1],g2,hshift g3,by simp [g4],by simp [g5]⟩
    | jK k ow wt=>obtain ⟨⟨r,R,p,hP,_⟩,h6⟩:=h; obtain ⟨g1,g2,g3,g4,g5⟩:=ih h6; exact ⟨by simp [hP.ws,g1],g2,hshift g3,by simp [g4],by simp [g5]⟩
    | fn f ks=>obtain ⟨⟨_,h1,_⟩,h6⟩:=h; obtain ⟨g1,g2,g3,g4,g5⟩:=ih h6; exact ⟨by simp [h1,g1],g2,hshift g3,by simp [g4],by simp [g5]⟩
    | own k ow=>
     cases ts with
     | nil=>exact h.elim
     | cons q ts=>
      obtain ⟨⟨h1,h2,h3,h4,h5⟩,h6⟩:=h
      obtain ⟨g1,g2,g3,g4,g5⟩:=ih h6
      refine ⟨?_, ?_, ?_,by simp [g4],by simp [g5]⟩
      ·rw [h3]; simp [g1,uB]
      ·intro q' hq
       rcases anu.1 hq with h | h
       ·subst h; rw [h1]; exact h2
       ·exact g2 q' h
      ·intro t ht
       simp only [qL,List.flatMap_cons,anq] at ht
       rcases ht with ht | ht
       ·exact ⟨0,i,k,ow,rfl,rfl,by rw [h3]; exact ht⟩
       ·exact hshift g3 t ht
    | into j q=>obtain ⟨⟨_,h1,_⟩,h6⟩:=h; obtain ⟨g1,g2,g3,g4,g5⟩:=ih h6; exact ⟨by simp [h1,g1],g2,hshift g3,by simp [g4],by simp [g5]⟩
theorem Kz {r:Nat}:∀{is:List cK} {n m:Nat},zZ r is n=some m→∃i q,n≤m∧is[m - n]?=some i∧i.wb=some (r,q):=by
 intro is
 induction is with
 | nil=>intro n m h; simp [zZ] at h
 | cons i is ih=>
  intro n m h
  unfold zZ at h
  have hrec:zZ r is (n+1)=some m→∃i' q,n≤m∧(i :: is)[m - n]?=some i'∧i'.wb=some (r,q):=by
   intro h
   obtain ⟨i',q,h1,h2,h3⟩:=ih h
   refine ⟨i',q,by omega, ?_,h3⟩
   have:m - n=(m - (n+1))+1:=by omega
   rw [this]
   simpa using h2
  cases hw:i.wb with
  | none=>rw [hw] at h; exact hrec h
  | some q=>
   rw [hw] at h
   simp only at h
   cases hb:Nat.beq r q.1 with
   | true=>
    rw [hb] at h
    simp only [cond_true,anh] at h
    subst h
    exact ⟨i,q.2,anz _,by simp,by rw [hw,anl hb]⟩
   | false=>rw [hb] at h; exact hrec h
theorem Sm {r:Nat}:∀{is:List cK} {n:Nat},zZ r is n=none→∀i∈is,∀q,i.wb≠some (r,q):=by
 intro is
 induction is with
 | nil=>intro n _ i hi; simp at hi
 | cons i is ih=>
  intro n h i' hi q he
  unfold zZ at h
  rcases anu.1 hi with h' | h'
  ·subst h'
   rw [he] at h
   simp at h
  ·cases hw:i.wb with
   | none=>rw [hw] at h; exact ih h i' h' q he
   | some q'=>
    rw [hw] at h
    simp only at h
    cases hb:Nat.beq r q'.1 with
    | true=>rw [hb] at h; simp at h
    | false=>rw [hb] at h; exact ih h i' h' q he
theorem Ky:∀{is:List cK} {j j':Nat} {i i':cK},Eo is=true→is[j]?=some i→is[j']?=some i'→i.wb≠none→i'.wb≠none→j=j':=by
 intro is
 induction is with
 | nil=>intro j j' i i' _ h; simp at h
 | cons x is ih=>
  intro j j' i i' ho h1 h2 h3 h4
  cases j with
  | zero=>
   simp only [List.getElem?_cons_zero,anh] at h1
   subst h1
   cases j' with
   | zero=>rfl
   | succ j'=>
    rcases wm ho with ⟨h,_⟩ | ⟨_,h⟩
    ·exact absurd h h3
    ·exact absurd (h i' (List.mem_of_getElem? (by simpa using h2))) h4
  | succ j=>
   cases j' with
   | zero=>
    simp only [List.getElem?_cons_zero,anh] at h2
    subst h2
    rcases wm ho with ⟨h,_⟩ | ⟨_,h⟩
    ·exact absurd h h4
    ·exact absurd (h i (List.mem_of_getElem? (by simpa using h1))) h3
   | succ j'=>
    rcases wm ho with ⟨_,h⟩ | ⟨_,h⟩
    ·have:=ih h (by simpa using h1) (by simpa using h2) h3 h4; omega
    ·exact absurd (h i (List.mem_of_getElem? (by simpa using h1))) h3
def WE (is:List cK) (p:dG) (i:cK):Prop:=
 (∃(k:K) (ig:List Nat),p=.val k ig∧(∀m∈ig,∃q:cK,is[m]?=some q∧q.wb≠none)∧∀t∈i.ids,(∃(n:Nat) (j':cK),zZ t.1 is 0=some n∧n∈ig∧is[n]?=some j'∧∀b∈j'.bt,b∉k.tys)∨(zZ t.1 is 0=none∧t.1∉is.flatMap fun j=>j.ws.flatMap Wr.tX))∨
  ((∀k ig,p≠.val k ig)∧∀t∈i.ids,t.1∉is.flatMap cK.touched)
theorem Oz {is:List cK}:∀{ps:List dG} {l:List cK},xH is ps l=true→∀(j:Nat) (p:dG) (i:cK),ps[j]?=some p→l[j]?=some i→WE is p i:=by
 intro ps
 induction ps with
 | nil=>intro l _ j p i hp; simp at hp
 | cons p ps ih=>
  intro l h j q i hq hi
  cases l with
  | nil=>cases p <;> simp [xH] at h
  | cons x l=>
   have hhead:(j=0→q=p∧i=x):=by
    intro e
    subst e
    simp only [List.getElem?_cons_zero,anh] at hq hi
    exact ⟨hq.symm,hi.symm⟩
   have aa6:xH is ps l=true→j≠0→WE is q i:=by
    intro h hj
    obtain ⟨j',rfl⟩:∃j',j=j'+1:=⟨j - 1,by omega⟩
    exact ih h j' q i (by simpa using hq) (by simpa using hi)
   have hother:(∀(k:K) (ig:List Nat),p≠.val k ig)→(x.ids.all (fun t=>!az t.1 (is.flatMap cK.touched)) && xH is ps l)=true→WE is q i:=by
    intro hp hx
    rw [ann] at hx
    by_cases hj:j=0
    ·obtain ⟨e1,e2⟩:=hhead hj
     rw [e1,e2]
     refine .inr ⟨hp,fun t ht=>?_⟩
     have:=anx.1 hx.1 t ht
     simpa [aV] using this
    ·exact aa6 hx.2 hj
   cases p with
   | val k ig=>
    simp only [xH,ann] at h
    by_cases hj:j=0
    ·obtain ⟨rfl,rfl⟩:=hhead hj
     refine .inl ⟨k,ig,rfl,fun m hm=>?_,fun t ht=>?_⟩
     ·have:=anx.1 h.1.1 m hm
      cases hmi:is[m]? with
      | none=>rw [hmi] at this; simp at this
      | some q=>
       rw [hmi] at this
       refine ⟨q,rfl,fun e=>?_⟩
       simp [e] at this
     ·have:=anx.1 h.1.2 t ht
      cases hpo:zZ t.1 is 0 with
      | none=>
       rw [hpo] at this
       refine .inr ⟨rfl, ?_⟩
       simpa [aV] using this
      | some n=>
       rw [hpo] at this
       simp only [ann] at this
       cases hni:is[n]? with
       | none=>rw [hni] at this; simp at this
       | some j'=>
        rw [hni] at this
        refine .inl ⟨n,j',rfl,aM.1 this.1,hni,fun b hb=>?_⟩
        have h2:=anx.1 this.2 b hb
        simpa [aV] using h2
    ·exact aa6 h.2 hj
   | ro k=>exact hother (by simp) h
   | rw k ow wt ht=>exact hother (by simp) h
   | jK k ow wt=>exact hother (by simp) h
   | own k ow=>exact hother (by simp) h
   | fn f ks=>exact hother (by simp) h
   | into j q=>exact hother (by simp) h
theorem OG {σ1:St}:∀{ps:List dG} {is:List cK} {c:Cont (kD ps)} {ws:List Wr},(∀i∈is,∀r q,i.wb=some (r,q)→σ1.roots r=σ.roots r)→vE σ ps is c ws→vE σ1 ps is c ws:=by
 intro ps
 induction ps with
 | nil=>
  intro is c ws _ h
  cases is with
  | nil=>exact h
  | cons _ _=>exact h.elim
 | cons p ps ih=>
  intro is c ws hr h
  cases is with
  | nil=>cases p <;> exact h.elim
  | cons i is=>
   have hr':∀i∈is,∀r q,i.wb=some (r,q)→σ1.roots r=σ.roots r:=fun i hi=>hr i (by simp [hi])
   cases p with
   | rw kk ow Zb ht0=>obtain ⟨r,p,wt,ht,R,z,ws',h1,h2,h3,h4,h5⟩:=h; exact ⟨r,p,wt,ht,R,z,ws',h1,by rw [hr i (by simp) r _ h1]; exact h2,h3,h4,ih hr' h5⟩
   | jK kk ow Zb=>obtain ⟨r,p,wt,ht,R,z,ws',h1,h2,h3,h4,h5⟩:=h; exact ⟨r,p,wt,ht,R,z,ws',h1,by rw [hr i (by simp) r _ h1]; exact h2,h3,h4,ih hr' h5⟩
   | val _ _=>exact ih hr' h
   | ro _=>exact ih hr' h
   | own _ _=>exact ih hr' h
   | fn _ _=>exact ih hr' h
   | into _ _=>exact ih hr' h
theorem WQ {as:List AV} {us:List Value} (h:dS cx σ α F w as us):jd cx σ α F w (WO as) (YW us):=by
 cases as with
 | nil=>cases us with
  | nil=>exact ⟨[],rfl,trivial⟩
  | cons _ _=>exact h.elim
 | cons x as=>cases us with
  | nil=>exact h.elim
  | cons u us=>
   cases as with
   | nil=>cases us with
    | nil=>exact h.1
    | cons _ _=>exact h.2.elim
   | cons y as=>cases us with
    | nil=>exact h.2.elim
    | cons u' us=>exact ⟨u :: u' :: us,rfl,h⟩
theorem ZB {as:List AV} (h:∀v∈as,rG σ v):xO σ (WO as):=by
 cases as with
 | nil=>exact fun a ha=>by simp at ha
 | cons x as=>cases as with
  | nil=>exact h x (by simp)
  | cons y as=>exact h
theorem FX {A:Type} {f g:A→List Nat}:∀{l:List A},(∀x∈l,(g x).Sublist (f x))→(l.flatMap f).Nodup→(l.flatMap g).Nodup:=by
 intro l hs h
 refine h.sublist ?_
 clear h
 induction l with
 | nil=>simp
 | cons x l ih=>
  simp only [List.flatMap_cons]
  exact (hs x (by simp)).append (ih (fun y hy=>hs y (by simp [hy])))
theorem JR {A:Type} {f:A→List Nat}:∀{l:List A} {x:A},x∈l→(l.flatMap f).Nodup→(f x).Nodup:=by
 intro l
 induction l with
 | nil=>intro x hx; simp at hx
 | cons y l ih=>
  intro x hx h
  simp only [List.flatMap_cons] at h
  have n:=ano.1 h
  rcases anu.1 hx with h1 | h1
  ·subst h1; exact n.1
  ·exact ih h1 n.2.1
theorem IE.mono {f:FuncId} {args:Array Value} {R R':Value→World→Prop} (h:IE P f args w R) (hr:∀v w',R v w'→R' v w'):IE P f args w R':=by
 rcases h with ⟨h1,h2⟩ | ⟨v,w',h1,h2⟩
 ·exact .inl ⟨h1,h2.mono fun e w' ⟨v,he,h⟩=>⟨v,he,hr _ _ h⟩⟩
 ·exact .inr ⟨v,w',h1,hr _ _ h2⟩
theorem UF {n:Nat} {E:Entry} (hE:ak P n E) (H:Rel cx σ α F a w) {dst:Option Nat} {Me:List AV} {vs:List Value} (hl:dS cx σ α F w Me vs) (hlw:∀v∈Me,rG σ v) (hdn:∀d,dst=some d→d<cx.nt) {ws:List Wr}
  (h:(WT n E dst Me fun ws=>(.ret ws:Prog (List Wr))).ends σ ws):IE P E.f vs.toArray w fun v w'=>∃α' F',Rel cx (aB ws σ) α' F' (a.put dst v) w':=by
 unfold WT at h
 obtain ⟨c,is,ts,hG,h⟩:=RY H hl hlw h
 obtain ⟨gw,gt,gtt,gl1,gl2⟩:=abR hG
 rcases aA h with ⟨hc,h⟩ | ⟨_,h⟩
 ·rw [ann,ann] at hc
  obtain ⟨⟨hap,ho⟩,hvo⟩:=hc
  have hnd:=vN.1 hap
  obtain ⟨out,hout,h⟩:=h
  obtain ⟨ws2,hB,h⟩:=UD h
  have hvs:=Oz hvo
  have Vh:(uB ts).flatMap Wr.tX=is.flatMap fun i=>i.ws.flatMap Wr.tX:=by rw [←gw,List.flatMap_assoc]
  have afY:((uB ts).flatMap Wr.tX).Nodup:=by
   rw [Vh]
   exact FX (fun i _=>by unfold cK.touched; exact List.sublist_append_right _ _) hnd
  have afZ:∀r,r∈(uB ts).flatMap Wr.tX→r∈is.flatMap cK.touched:=by
   intro r hr
   rw [Vh] at hr
   obtain ⟨i,hi,h1⟩:=anU.1 hr
   exact anU.2 ⟨i,hi,by unfold cK.touched; exact anj _ h1⟩
  have af8:∀(m:Nat) (i:cK) r q,is[m]?=some i→i.wb=some (r,q)→r∉(uB ts).flatMap Wr.tX:=by
   intro m i r q hi hw hr
   rw [Vh] at hr
   obtain ⟨i',hi',h1⟩:=anU.1 hr
   obtain ⟨m',hm',he⟩:=List.mem_iff_getElem.1 hi'
   have hi2:is[m']?=some i':=by rw [anw hm',he]
   have ht1:r∈i.touched:=by unfold cK.touched; rw [hw]; simp
   by_cases e:m=m'
   ·subst e
    rw [hi] at hi2
    simp only [anh] at hi2
    subst hi2
    have:=JR hi' hnd
    unfold cK.touched at this
    rw [hw] at this
    simp only [List.cons_append,List.nil_append] at this
    exact (anQ.1 this).1 h1
   ·exact flatMap_apart hnd hi hi2 e r ht1 (by unfold cK.touched; exact anj _ h1)
  have Z0:∀(j:Nat) (i:cK),is[j]?=some i→∀t∈i.ids,t.1∉(uB ts).flatMap Wr.tX:=by
   intro j i hi t ht hr
   have hj:j<E.ps.length:=by have:=(List.getElem?_eq_some_iff.1 hi).1; omega
   rcases hvs j E.ps[j] i (anw hj) hi with ⟨k,ig,_,_,h1⟩ | ⟨_,h1⟩
   ·rcases h1 t ht with ⟨n,j',h2,_,_,_⟩ | ⟨_,h2⟩
    ·obtain ⟨i',q,_,h3,h4⟩:=Kz h2
     simp only [Nat.sub_zero] at h3
     exact af8 n i' t.1 q h3 h4 hr
    ·exact h2 (by rw [←Vh]; exact hr)
   ·exact h1 t ht (afZ _ hr)
  obtain ⟨dK,F1,hs,H1,hA1,D9,hnF1,amf,hS1,_,hV1,af3,acO⟩:=takes ts H gt afY (fun t ht=>by
   obtain ⟨j,i,k,ow,h1,h2,h3⟩:=gtt t ht
   exact Z0 j i h2 t h3)
  have afq:∀i∈is,∀t∈i.ids,Same σ α (aB (uB ts) σ) dK t.1:=by
   intro i hi t ht
   obtain ⟨j,hj,he⟩:=List.mem_iff_getElem.1 hi
   exact hS1 _ (Z0 j i (by rw [anw hj,he]) t ht)
  have afr:∀i∈is,∀r q,i.wb=some (r,q)→Same σ α (aB (uB ts) σ) dK r:=by
   intro i hi r q hw
   obtain ⟨j,hj,he⟩:=List.mem_iff_getElem.1 hi
   exact hS1 _ (af8 j i r q (by rw [anw hj,he]) hw)
  obtain ⟨gs,hJ,hfl⟩:=Rb H1 hV1 hG hA1 afq afr
  obtain ⟨lv,li,lg,hat⟩:=hJ.at (i0:=0)
  have hA:Apart cx (aB (uB ts) σ) dK F1 w E.ps is gs:=by
   refine ⟨fun j j' g g' hg hg' hw hw'=>?_,by rw [hfl]; exact D9,fun j p i r n hp hi hn m i' q hm hq=>?_,fun j p hp m hm=>?_⟩
   ·have hget:∀{j:Nat} {g:GA},gs[j]?=some g→g.wb=true→∃i,is[j]?=some i∧i.wb≠none:=by
     intro j g hg hw
     have hj:j<E.ps.length:=by have:=(List.getElem?_eq_some_iff.1 hg).1; omega
     obtain ⟨cj,v,i,g',e1,e2,e3,e4,_⟩:=hat j E.ps[j] (anw hj)
     rw [hg] at e3
     simp only [anh] at e3
     subst e3
     exact ⟨i,e2,(nR H1 e4).2.2.2.1 hw⟩
    obtain ⟨i,h1,h2⟩:=hget hg hw
    obtain ⟨i',h3,h4⟩:=hget hg' hw'
    exact Ky ho h1 h3 h2 h4
   ·rcases hvs j p i hp hi with ⟨k,ig,h0,_,h1⟩ | ⟨_,h1⟩
    ·rcases h1 (r,n) hn with ⟨n',j',h2,h3,h4,h5⟩ | ⟨h2,_⟩
     ·obtain ⟨i'',q',_,h6,h7⟩:=Kz h2
      simp only [Nat.sub_zero] at h6
      have e:=Ky ho h6 hm (by rw [h7]; simp) (by rw [hq]; simp)
      subst e
      rw [hm] at h4
      simp only [anh] at h4
      subst h4
      subst h0
      exact ⟨h3,k,ig,rfl,h5⟩
     ·exact absurd hq (Sm h2 i' (List.mem_of_getElem? hm) q)
    ·refine absurd ?_ (h1 (r,n) hn)
     exact anU.2 ⟨i',List.mem_of_getElem? hm,by unfold cK.touched; rw [hq]; simp⟩
   ·have hj:j<is.length:=by have:=(List.getElem?_eq_some_iff.1 hp).1; omega
    rcases hvs j p is[j] hp (anw hj) with ⟨k,ig,h0,h1,_⟩ | ⟨h0,_⟩
    ·subst h0
     obtain ⟨q,h2,h3⟩:=h1 m hm
     cases hw:q.wb with
     | none=>exact absurd hw h3
     | some u=>exact ⟨q,u,h2,hw⟩
    ·cases p with
     | val k ig=>exact absurd rfl (h0 k ig)
     | _=>simp [KA] at hm
  have hinit:=aac H1 hJ hA
  have afU:Fw (dJ cx (aB (uB ts) σ) dK F1 w E.ps c is gs) E.ps:=LG H1 hJ
  refine (hE c out hout _ _ vs.toArray w rfl rfl (by simpa using gl1) afU hinit).mono ?_
  rintro v w' ⟨Dn,zM,Ff,af,us,bD,Hf,hv,hRL,hfn,QM,hOL⟩
  have hB1:vE (aB (uB ts) σ) E.ps is (Cont.snd (iB E.rs) (kD E.ps) out) ws2:=OG (fun i hi r q hw=>(afr i hi r q hw).root) hB
  obtain ⟨Dm,H2,hBS,hsl2,acP,af4,Vk,acS⟩:=Re H1 hJ ho Hf hB1 hOL QM hfn
  have akn:∀l tags,OT σ ws2 l tags→eY (aB ws2 (aB (uB ts) σ)) tags:=by
   intro l tags hN t ht
   rcases hN.2 t ht with h | ⟨R,hf,hn⟩ | ⟨R,hr,hn⟩
   ·exact .inl h
   ·rcases Vk with rfl | ⟨r,R',rfl⟩
    ·simp at hf
    ·have hm:=List.mem_of_find?_eq_some hf
     simp only [anC,Wr.r.injEq,anh] at hm
     obtain ⟨h1,h2⟩:=hm
     refine .inr ⟨R, ?_, .inr (by rw [hn]; exact anz _)⟩
     rw [h1,h2]
     exact aI ..
   ·exact af4 t (af3 t (.inr ⟨R,hr, .inr (by rw [hn]; exact anz _)⟩))
  cases dst with
  | none=>
   simp only at h
   rw [aC h,bN,gw]
   exact ⟨Dm,_,H2⟩
  | some d=>
   simp only at h
   obtain ⟨as,ws3,hW,h⟩:=YE h
   rw [aC h,bN,bN,bN,gw]
   obtain ⟨α3,k1,k2,k3,k4,_⟩:=UA H1 hJ Hf H2 hBS hRL hW akn (fun cj _ hn=>acP _ (acO _ hn)) QM (fun _ j i r q wt ht R b n cp m g1 g2 g0 g3 g4 g5=>by
    obtain ⟨Rf,R',R0,p1,p2,p3,p4,p5,p6,p7,p8⟩:=acS j i r q wt ht g0 g1 g2
    have eR:R=R':=by
     rw [p4] at g3
     simp [Wr.loc,Loc.beq] at g3
     exact g3.symm
    subst eR
    have hroot:(aB ws2 (aB (uB ts) σ)).roots r=some R:=by
     rw [p4]; exact aI ..
    refine ⟨⟨b,cp,rfl,fun R2 hR2 hv2 _ dd hdd=>?_⟩,R,hroot, .inr (anz _)⟩
    rw [hroot] at hR2
    simp only [anh] at hR2
    subst hR2
    obtain ⟨wh,Cb⟩:=p8 hv2
    obtain ⟨hk,FP⟩:=g5 Rf ⟨p1,p2.1⟩ p3
    have hh:zM.hdr (ay j)=[.slice b n cp]:=by
     unfold VC at FP
     split at FP
     ·simp at FP
     ·exact FP.1
    exact ⟨p6,p7,n,wh,by rw [←hh]; exact Cb,g4⟩)
   refine ⟨α3,[], ?_⟩
   rw [hv]
   exact k1.put (hdn d rfl) (ZB k3) (WQ k2)
 ·exact h.elim
end
end
section
open Go
variable [Fr]
section
variable {P:Program} {T:iT} {cx:Cx} {σ:St} {α:dL} {F:List Nat} {a:Act} {w:World} {o:Oper} {ws:List Wr} {hi:Hint} {n:Nat}
def abx (P:Program) (cx:Cx) (o:Oper) (a:Act) (w:World) (σ':St):Prop:=
 ∀(K:Act→World→Prop) (Q:Exit→Act→World→Prop),(∀α' F' a' w',Rel cx σ' α' F' a' w'→K a' w')→o.wp P a w K Q
theorem qO.toW {σ':St} (h:qO P cx o a w σ'):abx P cx o a w σ':=fun K Q hK=>h.wp hK
def uQ (P:Program) (n:Nat) (hi:Hint):Prop:=∀q∈hi.calls,ak P n q.2.2
theorem NK {f d:Nat}:∀{l:List (Nat×Option Nat×Entry)} {E:Entry},uj f d l=some E→∃q∈l,q.2.2=E:=by
 intro l
 induction l with
 | nil=>intro E h; simp [uj] at h
 | cons q l ih=>
  intro E h
  obtain ⟨g,od,E'⟩:=q
  cases od with
  | none=>
   unfold uj at h
   cases hb:Nat.beq f g with
   | true=>rw [hb] at h; simp only [cond_true,anh] at h; exact ⟨_,anP,h⟩
   | false=>
    rw [hb] at h
    obtain ⟨q,h1,h2⟩:=ih h
    exact ⟨q,anH _ h1,h2⟩
  | some e=>
   unfold uj at h
   cases hb:(Nat.beq f g && Nat.beq d e) with
   | true=>rw [hb] at h; simp only [cond_true,anh] at h; exact ⟨_,anP,h⟩
   | false=>
    rw [hb] at h
    obtain ⟨q,h1,h2⟩:=ih h
    exact ⟨q,anH _ h1,h2⟩
theorem Sd {l m:List AV} {vs us:List Value} (h1:dS cx σ α F w l vs) (h2:dS cx σ α F w m us):dS cx σ α F w (l++m) (vs++us):=by
 induction l generalizing vs with
 | nil=>cases vs with
  | nil=>exact h2
  | cons _ _=>exact h1.elim
 | cons x l ih=>cases vs with
  | nil=>exact h1.elim
  | cons v vs=>exact ⟨h1.1,ih h1.2⟩
theorem Mk:∀{cs:List (TypeId×Dat×List Tag)} {vs:List Value},ku cx σ α F w cs vs→dS cx σ α F w (cs.map fun q=>.iZ q.1 q.2.1.1 q.2.1.2 q.2.2) vs
 | [],[],_=>trivial
 | _ :: _,_ :: _,h=>⟨h.1,Mk h.2⟩
 | [],_ :: _,h=>h.elim
 | _ :: _,[],h=>h.elim
theorem Pd (hC:uQ P n hi) (H:Rel cx σ α F a w) {c:Call} (ho:o.op=.call c) (hdn:∀d,o.dst=some d→d<cx.nt) (h:(Tt hi n o.dst c fun ws=>(.ret ws:Prog (List Wr))).ends σ ws):abx P cx o a w (aB ws σ):=by
 intro K Q hK
 unfold Tt at h
 split at h
 ·rename_i f ajR
  obtain ⟨fv,h1,h2,h⟩:=bR H h
  cases fv with
  | fn f' caps=>
   simp only at h
   obtain ⟨us,e1,e2⟩:=h1
   obtain ⟨l,h3,h4,h⟩:=je H h
   cases hf:uj f' (o.dst.getD 0) hi.calls with
   | none=>rw [hf] at h; exact h.elim
   | some E=>
    rw [hf] at h
    simp only at h
    rcases aA h with ⟨hb,h9⟩ | ⟨_,h⟩
    ·have hEf:E.f=f':=anl hb
     clear h
     subst hEf
     obtain ⟨q,hq,rfl⟩:=NK hf
     have hcall:=UF (hC q hq) H (Sd h3 (Mk e2)) (fun v hv=>by
      rcases anq.1 hv with h | h
      ·exact h4 v h
      ·obtain ⟨cc,hcc,rfl⟩:=anT.1 h
       exact h2 cc hcc) hdn h9
     have hargs:(c.args.toList.map a.eval++us).toArray=c.args.map a.eval++us.toArray:=by
      apply Array.ext'
      simp
     rw [hargs] at hcall
     have hrun:(execOp a.eval o).run P w=(callFunc q.2.2.f (c.args.map a.eval++us.toArray)).run P w:=by
      simp only [execOp,ho,resolve,ajR,e1,Deferred.ofValue,anI,anN,anB,invoke,Array.empty_append]
     unfold Oper.wp
     rw [hrun]
     rcases hcall with ⟨g1,g2⟩ | ⟨v,w',g1,α',F',g2⟩
     ·rw [g1]
      refine g2.mono fun e w' he=>?_
      obtain ⟨v,rfl,α',F',hR⟩:=he
      exact hK _ _ _ _ hR
     ·rw [g1]
      exact hK _ _ _ _ g2
    ·exact h.elim
  | _=>exact h.elim
 ·exact h.elim
theorem QC (hT:eF P T) (hSt:Lh P T) (hC:uQ P n hi) (H:Rel cx σ α F a w) (hnt:hi.nt=cx.nt) (h:(GX T hi n o fun ws=>(.ret ws:Prog (List Wr))).ends σ ws):abx P cx o a w (aB ws σ):=by
 unfold GX at h
 cases hd:o.dst with
 | none=>
  rw [hd] at h
  simp only at h
  unfold abo at h
  split at h
  ·rename_i t x v ho
   exact (RF hT H hd ho h).toW
  ·rename_i c ho
   split at h
   ·rename_i hcb
    obtain ⟨vs,h1,h2,h⟩:=je H h
    split at h
    ·split at h
     ·rename_i ht0
      obtain ⟨v,w',α',r1,r2⟩:=UT hT H ho hcb h1 ht0 h
      refine (show qO P cx o a w (aB ws σ) from ⟨v,w',α',[], .inl r1, ?_⟩).toW
      rw [hd]
      exact r2
     ·exact h.elim
    ·exact h.elim
   ·exact Pd hC H ho (by rw [hd]; simp) (by rw [hd]; exact h)
  ·exact h.elim
 | some d=>
  rw [hd] at h
  simp only at h
  rcases aA h with ⟨hb,h⟩ | ⟨_,h⟩
  ·have hdn:d<cx.nt:=by
    rw [←hnt]
    unfold Nat.blt at hb
    exact Nat.le_of_ble_eq_true hb
   rcases aA h with ⟨_,h⟩ | ⟨_,h⟩
   ·exact (NI hT H hd hdn h).toW
   rcases aA h with ⟨_,h⟩ | ⟨_,h⟩
   ·exact (Pq hT H hd hdn h).toW
   unfold abn at h
   cases ho:o.op with
   | move x=>rw [ho] at h; exact (Xa H hd hdn ho h).toW
   | assign x=>rw [ho] at h; exact (RA (L:=TN hi d) H hd hdn ho h).toW
   | pick c x y=>rw [ho] at h; exact (Xb H hd hdn ho h).toW
   | alloc t=>rw [ho] at h; exact (UQ hT H hd hdn ho h).toW
   | box t x=>rw [ho] at h; exact (ZI H hd hdn ho h).toW
   | build t ps=>rw [ho] at h; exact (Ml hT H hd hdn h ho).toW
   | buildSlice t l ps=>rw [ho] at h; exact (JD (L:=TN hi d) hT H hd hdn h ho).toW
   | load t x=>rw [ho] at h; exact (W9 hT H hd hdn ho h).toW
   | nilCheck x=>rw [ho] at h; exact (NH H hd hdn ho h).toW
   | binOp op t x y t2=>rw [ho] at h; exact (UR hT hSt H hd hdn ho h).toW
   | unOp op t x=>rw [ho] at h; exact (Xc H hd hdn ho h).toW
   | convert s t x=>rw [ho] at h; exact (Pm hT H hd hdn ho h).toW
   | field t x n=>rw [ho] at h; exact (UW hT H hd hdn ho h).toW
   | fieldAddr t x n=>rw [ho] at h; exact (Ls hT H hd hdn ho h).toW
   | indexAddr t x y=>rw [ho] at h; exact (Lt hT H hd hdn ho h).toW
   | index t x y=>rw [ho] at h; exact (UX hT H hd hdn ho h).toW
   | extract x i=>rw [ho] at h; exact (Pn H hd hdn ho h).toW
   | makeSlice t x y=>rw [ho] at h; exact (Lu hT H hd hdn h ho).toW
   | makeFunc f first caps=>
    rw [ho] at h
    cases f with
    | func f=>exact (NG H hd hdn ho h).toW
    | _=>exact h.elim
   | slice t x lo hi2 mx=>rw [ho] at h; exact (UY hT H hd hdn h ho).toW
   | call c=>
    rw [ho] at h
    simp only at h
    split at h
    ·rename_i hcb; exact (ZJ hT H hd hdn ho hcb h).toW
    ·rename_i hcb; exact (Rz hT H hd hdn ho hcb h).toW
    ·rename_i hcb; exact (JE (mx:=false) H hd hdn ho hcb h).toW
    ·rename_i hcb; exact (JE (mx:=true) H hd hdn ho hcb h).toW
    ·exact Pd hC H ho (by rw [hd]; intro d2 e; simp only [anh] at e; subst e; exact hdn) (by rw [hd]; exact h)
    ·exact h.elim
   | _=>rw [ho] at h; exact h.elim
  ·exact h.elim
end
end
section
open Go
variable [Fr]
def Prog.qE {α:Type}:Prog α→St→List Loc→α→List Loc→Prop
 | .ret a,_,l,x,l'=>x=a∧l'=l
 | .fail,_,_,_,_=>False
 | .slot n k,σ,l,x,l'=>(k (σ.slots n)).qE σ (.s n :: l) x l'
 | .root r k,σ,l,x,l'=>(k (σ.roots r)).qE σ (.r r :: l) x l'
 | .uY c _ k,σ,l,x,l'=>c∧k.qE σ l x l'
 | .br c t e,σ,l,x,l'=>(c=true∧t.qE σ l x l')∨(c=false∧e.qE σ l x l')
 | .opt _ o k,σ,l,x,l'=>∃b,o=some b∧(k b).qE σ l x l'
theorem MV {α R:Type} (p:Prog α) {σ:St} {l:List Loc} {K:α→List Loc→Option R} {r:R} (h:p.Ik σ l K=some r):∃x l',p.qE σ l x l'∧K x l'=some r:=by
 induction p generalizing l with
 | ret a=>exact ⟨a,l,⟨rfl,rfl⟩,h⟩
 | fail=>simp [Prog.Ik] at h
 | slot n k ih=>exact ih _ h
 | root n k ih=>exact ih _ h
 | uY c d k ih=>
  simp only [Prog.Ik] at h
  split at h
  ·rename_i hc
   obtain ⟨x,l',h1,h2⟩:=ih h
   exact ⟨x,l',⟨hc,h1⟩,h2⟩
  ·simp at h
 | br c t e Sa R9=>
  simp only [Prog.Ik] at h
  cases c with
  | true=>
   simp only [if_true] at h
   obtain ⟨x,l',h1,h2⟩:=Sa h
   exact ⟨x,l', .inl ⟨rfl,h1⟩,h2⟩
  | false=>
   simp only [ank,if_false] at h
   obtain ⟨x,l',h1,h2⟩:=R9 h
   exact ⟨x,l', .inr ⟨rfl,h1⟩,h2⟩
 | opt β o k ih=>
  simp only [Prog.Ik] at h
  cases o with
  | none=>simp at h
  | some b=>
   simp only [ani] at h
   obtain ⟨x,l',h1,h2⟩:=ih b h
   exact ⟨x,l',⟨b,rfl,h1⟩,h2⟩
theorem JJ {α:Type} (p:Prog α) {σ:St} {l l':List Loc} {x:α} (h:p.qE σ l x l'):p.ends σ x:=by
 induction p generalizing l with
 | ret a=>exact h.1
 | fail=>exact h.elim
 | slot n k ih=>exact ih _ h
 | root n k ih=>exact ih _ h
 | uY c d k ih=>exact ⟨h.1,ih h.2⟩
 | br c t e Sa R9=>exact h.imp (fun h=>⟨h.1,Sa h.2⟩) (fun h=>⟨h.1,R9 h.2⟩)
 | opt β o k ih=>obtain ⟨b,h1,h2⟩:=h; exact ⟨b,h1,ih b h2⟩
theorem JK {α:Type} (p:Prog α) {σ:St} {x:α} (h:p.ends σ x):∀l,∃l',p.qE σ l x l':=by
 induction p with
 | ret a=>exact fun l=>⟨l,h,rfl⟩
 | fail=>exact h.elim
 | slot n k ih=>exact fun l=>ih _ h _
 | root n k ih=>exact fun l=>ih _ h _
 | uY c d k ih=>exact fun l=>(ih h.2 l).imp fun _ h'=>⟨h.1,h'⟩
 | br c t e Sa R9=>
  intro l
  rcases h with h | h
  ·exact (Sa h.2 l).imp fun _ h'=>.inl ⟨h.1,h'⟩
  ·exact (R9 h.2 l).imp fun _ h'=>.inr ⟨h.1,h'⟩
 | opt β o k ih=>obtain ⟨b,h1,h2⟩:=h; exact fun l=>(ih b h2 l).imp fun _ h'=>⟨b,h1,h'⟩
theorem FL {α:Type} (p:Prog α) {σ:St} {l l':List Loc} {x:α} (h:p.qE σ l x l'):∀y∈l,y∈l':=by
 induction p generalizing l with
 | ret a=>rw [h.2]; exact fun _ h=>h
 | fail=>exact h.elim
 | slot n k ih=>exact fun y hy=>ih _ h y (by simp [hy])
 | root n k ih=>exact fun y hy=>ih _ h y (by simp [hy])
 | uY c d k ih=>exact ih h.2
 | br c t e Sa R9=>rcases h with h | h; exact Sa h.2; exact R9 h.2
 | opt β o k ih=>obtain ⟨b,h1,h2⟩:=h; exact ih b h2
def agree (σ τ:St):Loc→Prop
 | .s n=>τ.slots n=σ.slots n
 | .r n=>τ.roots n=σ.roots n
theorem Gx {α:Type} (p:Prog α) {σ τ:St} {l l':List Loc} {x:α} (h:p.qE σ l x l') (ha:∀y∈l',agree σ τ y):p.qE τ l x l':=by
 induction p generalizing l with
 | ret a=>exact h
 | fail=>exact h.elim
 | slot n k ih=>
  have h':(k (σ.slots n)).qE σ (.s n :: l) x l':=h
  have:=ha (.s n) (FL _ h' _ anP)
  show (k (τ.slots n)).qE τ _ _ _
  rw [show τ.slots n=σ.slots n from this]
  exact ih _ h
 | root n k ih=>
  have h':(k (σ.roots n)).qE σ (.r n :: l) x l':=h
  have:=ha (.r n) (FL _ h' _ anP)
  show (k (τ.roots n)).qE τ _ _ _
  rw [show τ.roots n=σ.roots n from this]
  exact ih _ h
 | uY c d k ih=>exact ⟨h.1,ih h.2⟩
 | br c t e Sa R9=>exact h.imp (fun h=>⟨h.1,Sa h.2⟩) (fun h=>⟨h.1,R9 h.2⟩)
 | opt β o k ih=>obtain ⟨b,h1,h2⟩:=h; exact ⟨b,h1,ih b h2⟩
theorem GJ {a b:Loc}:a.beq b=true↔a=b:=by
 cases a <;> cases b <;> simp [Loc.beq]
theorem Qd {x:Loc} {l:List Loc}:VB x l=true↔x∈l:=by
 induction l with
 | nil=>simp [VB]
 | cons y l ih=>
  simp only [VB,anu]
  cases h:x.beq y with
  | true=>simp [GJ.1 h]
  | false=>
   have:x≠y:=fun e=>by rw [e] at h; rw [(GJ (a:=y) (b:=y)).2 rfl] at h; simp at h
   simp [this,ih]
theorem Je {a b:List Loc}:Nu a b=true↔∀x∈a,x∉b:=by
 unfold Nu
 rw [anx]
 refine ⟨fun h x hx hb=>?_,fun h x hx=>?_⟩
 ·have:=h x hx
  rw [Qd.2 hb] at this
  simp at this
 ·cases hm:VB x b with
  | false=>rfl
  | true=>exact absurd (Qd.1 hm) (h x hx)
theorem FE (wr:Wr) (σ:St) {y:Loc} (h:y≠wr.loc):agree σ (wr.app σ) y:=by
 cases wr with
 | s n a=>
  cases y with
  | s m=>exact upd_ne _ _ (fun e=>h (by rw [e]; rfl))
  | r m=>rfl
 | r n o=>
  cases o with
  | none=>
   cases y with
   | s m=>rfl
   | r m=>exact upd_ne _ _ (fun e=>h (by rw [e]; rfl))
  | some R=>
   cases y with
   | s m=>rfl
   | r m=>exact upd_ne _ _ (fun e=>h (by rw [e]; rfl))
theorem O3 {σ τ ρ:St} {y:Loc} (h1:agree σ τ y) (h2:agree τ ρ y):agree σ ρ y:=by
 cases y with
 | s n=>exact h2.trans h1
 | r n=>exact h2.trans h1
theorem o8:∀(ws:List Wr) (σ:St) {y:Loc},y∉ws.map Wr.loc→agree σ (aB ws σ) y
 | [],σ,y,_=>by cases y <;> rfl
 | w :: ws,σ,y,h=>by
  simp only [List.map_cons,anu,not_or] at h
  exact O3 (FE w σ h.1) (o8 ws _ h.2)
theorem St.ext' {σ τ:St} (h:∀y,agree σ τ y):τ=σ:=by
 obtain ⟨s,r⟩:=σ
 obtain ⟨s',r'⟩:=τ
 have h1:s'=s:=funext fun n=>h (.s n)
 have h2:r'=r:=funext fun n=>h (.r n)
 subst h1
 subst h2
 rfl
theorem O6 (w:Wr) (σ τ:St):agree (w.app σ) (w.app τ) w.loc:=by
 cases w with
 | s n a=>show upd τ.slots n a n=upd σ.slots n a n; rw [upd_same,upd_same]
 | r n o=>cases o <;> (show upd _ n _ n=upd _ n _ n; rw [upd_same,upd_same])
theorem WM (w:Wr) {σ τ:St} {y:Loc} (h:agree σ τ y):agree (w.app σ) (w.app τ) y:=by
 by_cases e:y=w.loc
 ·subst e; exact O6 w σ τ
 ·have h1:=FE w σ e
  have h2:=FE w τ e
  cases y with
  | s n=>exact h2.trans (h.trans h1.symm)
  | r n=>exact h2.trans (h.trans h1.symm)
theorem AA:∀(ws:List Wr) {σ τ:St} {y:Loc},agree σ τ y→agree (aB ws σ) (aB ws τ) y
 | [],_,_,_,h=>h
 | w :: ws,_,_,_,h=>AA ws (WM w h)
theorem Mc:∀(ws:List Wr) {σ τ:St} {y:Loc},y∈ws.map Wr.loc→agree (aB ws σ) (aB ws τ) y
 | [],_,_,_,h=>by simp at h
 | w :: ws,σ,τ,y,h=>by
  simp only [List.map_cons,anu] at h
  by_cases e:y∈ws.map Wr.loc
  ·exact Mc ws e
  ·have e2:y=w.loc:=h.resolve_right e
   subst e2
   exact AA ws (O6 w σ τ)
theorem O4 {u v:List Wr} (h:∀x∈u.map Wr.loc,x∉v.map Wr.loc) (σ:St):aB u (aB v σ)=aB v (aB u σ):=by
 refine St.ext' fun y=>?_
 by_cases hu:y∈u.map Wr.loc
 ·have h1:agree (aB u σ) (aB v (aB u σ)) y:=o8 v _ (h y hu)
  have h2:agree (aB u σ) (aB u (aB v σ)) y:=Mc u hu
  cases y with
  | s n=>exact h2.trans h1.symm
  | r n=>exact h2.trans h1.symm
 ·have h1:agree (aB v σ) (aB u (aB v σ)) y:=o8 u _ hu
  have h2:agree (aB v σ) (aB v (aB u σ)) y:=by
   refine AA v ?_
   have:=o8 u σ hu
   cases y with
   | s n=>exact this
   | r n=>exact this
  cases y with
  | s n=>exact h1.trans h2.symm
  | r n=>exact h1.trans h2.symm
section
variable {P:Program} {T:iT} {hi:Hint} {n:Nat} {ops:Array Oper}
inductive Nl (T:iT) (hi:Hint) (n:Nat) (ops:Array Oper) (o:Oper) (σ:St):List Wr→List Loc→Prop
 | plain (ws:List Wr) (rd:List Loc) (hg:guardOf ops o=none) (h:(GX T hi n o fun ws=>(.ret ws:Prog (List Wr))).qE σ [] ws rd):Nl T hi n ops o σ ws rd
 | done (s:Nat) (want:Bool) (tg:List Tag) (ws:List Wr) (rd:List Loc) (hg:guardOf ops o=some (some s,want)) (hs:σ.slots s=.one (.val .bool want tg)) (h:(GX T hi n o fun ws=>(.ret ws:Prog (List Wr))).qE σ [.s s] ws rd):Nl T hi n ops o σ ws rd
 | skip (s:Nat) (want:Bool) (hg:guardOf ops o=some (some s,want)) (hs:(∃tg,σ.slots s=.one (.val .bool (!want) tg))∨σ.slots s=.KX []) (hd:JF hi o=true):Nl T hi n ops o σ (GV o) [.s s]
theorem Nl.agree {o:Oper} {σ τ:St} {ws:List Wr} {rd:List Loc} (h:Nl T hi n ops o σ ws rd) (ha:∀y∈rd,Ow.agree σ τ y):Nl T hi n ops o τ ws rd:=by
 cases h with
 | plain _ _ hg h=>exact .plain ws rd hg (Gx _ h ha)
 | done s want tg _ _ hg hs h=>
  have:=ha (.s s) (FL _ h _ anP)
  exact .done s want tg ws rd hg (by rw [show τ.slots s=σ.slots s from this]; exact hs) (Gx _ h ha)
 | skip s want hg hs hd=>
  have:=ha (.s s) (by simp)
  exact .skip s want hg (by rw [show τ.slots s=σ.slots s from this]; exact hs) hd
theorem MU {σ:St} {s:Nat} {b:Bool} {tg:List Tag} (h:σ.slots s=.one (.val .bool b tg)):refine σ s b tg=σ:=by
 unfold refine
 have:upd σ.slots s (.one (.val .bool b tg))=σ.slots:=by
  funext m
  by_cases e:m=s
  ·subst e; rw [upd_same,h]
  ·rw [upd_ne _ _ e]
 rw [this]
theorem JX {R:Type} {o:Oper} {σ:St} {go skip:List Loc→St→Option R} {r:R} (h:guarded σ ops o go skip=some r) :
  (guardOf ops o=none∧go [] σ=some r)∨(∃s want tg,guardOf ops o=some (some s,want)∧σ.slots s=.one (.val .bool want tg)∧go [.s s] σ=some r)∨
  (∃s want,guardOf ops o=some (some s,want)∧((∃tg,σ.slots s=.one (.val .bool (!want) tg))∨σ.slots s=.KX [])∧skip [.s s] σ=some r):=by
 unfold guarded at h
 cases hg:guardOf ops o with
 | none=>rw [hg] at h; exact .inl ⟨rfl,h⟩
 | some q=>
  obtain ⟨os,want⟩:=q
  rw [hg] at h
  cases os with
  | none=>simp at h
  | some s=>
   simp only at h
   refine .inr ?_
   split at h
   ·rename_i b tg hs
    cases b with
    | true=>
     simp only [if_true] at h
     rw [MU hs] at h
     cases want with
     | true=>exact .inl ⟨s,true,tg,rfl,hs,h⟩
     | false=>exact .inr ⟨s,false,rfl, .inl ⟨tg,hs⟩,h⟩
    | false=>
     simp only [ank,if_false] at h
     rw [MU hs] at h
     cases want with
     | true=>exact .inr ⟨s,true,rfl, .inl ⟨tg,hs⟩,h⟩
     | false=>exact .inl ⟨s,false,tg,rfl,hs,h⟩
   ·rename_i hs
    exact .inr ⟨s,want,rfl, .inr hs,h⟩
   ·simp at h
variable {cx:Cx} {σ:St} {α:dL} {F:List Nat} {a:Act} {w:World}
theorem Rel.skipped (H:Rel cx σ α F a w) {o:Oper} (hnt:hi.nt=cx.nt) (hd:JF hi o=true):Rel cx (aB (GV o) σ) α F (a.put o.dst undef) w:=by
 unfold GV JF at *
 cases ho:o.dst with
 | none=>exact H
 | some d=>
  rw [ho] at hd
  have hdn:d<cx.nt:=by
   rw [←hnt]
   have:Nat.blt d hi.nt=true:=hd
   unfold Nat.blt at this
   exact Nat.le_of_ble_eq_true this
  exact H.put hdn (fun a ha=>by simp at ha) ⟨[],rfl,trivial⟩
theorem IA (hT:eF P T) (hSt:Lh P T) (hC:uQ P n hi) (H:Rel cx σ α F a w) (hnt:hi.nt=cx.nt) {i:Nat} {o:Oper} (ho:ops[i]?=some o) {ws:List Wr} {rd:List Loc} (h:Nl T hi n ops o σ ws rd)
  {K:Act→World→Prop} {Q:Exit→Act→World→Prop} (hK:∀α' F' a' w',Rel cx (aB ws σ) α' F' a' w'→K a' w'):wpOp P ops Q i K a w:=by
 unfold wpOp
 simp only [ho]
 have XV:∀{s:Nat} {want:Bool},guardOf ops o=some (some s,want)→∃g,o.guard=some (g,want)∧(ops[g]?).bind (·.dst)=some s:=by
  intro s want hg
  unfold guardOf at hg
  cases hgd:o.guard with
  | none=>rw [hgd] at hg; simp at hg
  | some q=>
   obtain ⟨g,wt⟩:=q
   rw [hgd] at hg
   simp only [anh,ant] at hg
   exact ⟨g,by rw [hg.2],hg.1⟩
 have af5:∀{s:Nat} {v:Value},a.tmps.getD s undef=v→(∃b,v=.bool b)→a.tmps[s]?=some v:=by
  rintro s v h ⟨b,rfl⟩
  rw [Array.getD_eq_getD_getElem?] at h
  cases hs:a.tmps[s]? with
  | none=>rw [hs] at h; simp [undef] at h
  | some u=>rw [hs] at h; simpa using h
 cases h with
 | plain _ _ hg h=>
  have hw:Region.wanted o (yielded ops a.tmps)=true:=by
   unfold Region.wanted
   unfold guardOf at hg
   cases hgd:o.guard with
   | none=>rfl
   | some q=>rw [hgd] at hg; simp at hg
  rw [if_pos hw]
  exact .inl (QC hT hSt hC H hnt (JJ _ h) K Q hK)
 | done s want tg _ _ hg hs h=>
  have hw:Region.wanted o (yielded ops a.tmps)=true:=by
   obtain ⟨g,h1,h2⟩:=XV hg
   unfold Region.wanted
   rw [h1]
   have hb:=H.slots s
   rw [hs] at hb
   have:=yS (show bI cx σ α F w (.val .bool want tg) _ from hb)
   have h3:=af5 this ⟨_,rfl⟩
   show (yielded ops a.tmps g == some want)=true
   unfold yielded
   rw [h2]
   simp only [ani,h3]
   simp
  rw [if_pos hw]
  exact .inl (QC hT hSt hC H hnt (JJ _ h) K Q hK)
 | skip s want hg hs hd=>
  have hw:Region.wanted o (yielded ops a.tmps)=false:=by
   obtain ⟨g,h1,h2⟩:=XV hg
   unfold Region.wanted
   rw [h1]
   have hb:=H.slots s
   show (yielded ops a.tmps g == some want)=false
   unfold yielded
   rw [h2]
   rcases hs with ⟨tg,hs⟩ | hs
   ·rw [hs] at hb
    have:=yS (show bI cx σ α F w (.val .bool (!want) tg) _ from hb)
    have h3:=af5 this ⟨_,rfl⟩
    simp only [ani,h3]
    cases want <;> rfl
   ·rw [hs] at hb
    obtain ⟨vs,h3,h4⟩:=hb
    cases vs with
    | cons _ _=>exact h4.elim
    | nil=>
     rw [Array.getD_eq_getD_getElem?] at h3
     simp only [ani]
     cases hs2:a.tmps[s]? with
     | none=>rfl
     | some u=>
      rw [hs2] at h3
      simp only [Option.getD_some] at h3
      subst h3
      rfl
  rw [if_neg (by rw [hw]; simp)]
  exact hK _ _ _ _ (H.skipped hnt hd)
theorem RP (hT:eF P T) (hSt:Lh P T) (hC:uQ P n hi) (hnt:hi.nt=cx.nt) {R:Type} {K:St→Option R} {r:R} {Q:Exit→Act→World→Prop} (hQ:∀σ' α' F' a' w',K σ'=some r→Rel cx σ' α' F' a' w'→Q .normal a' w') :
  ∀(l:List Oper) (i:Nat) {σ:St} {α:dL} {F:List Nat} {a:Act} {w:World},ops.toList.drop i=l→D5 T hi n ops l σ K=some r→Rel cx σ α F a w→wpOps P ops Q (List.range' i l.length) a w:=by
 intro l
 induction l with
 | nil=>intro i σ α F a w _ h H; exact hQ _ _ _ _ _ h H
 | cons o l ih=>
  intro i σ α F a w hl h H
  have hoi:ops[i]?=some o:=by
   have:=congrArg (fun l=>l[0]?) hl
   simpa using this
  have hl':ops.toList.drop (i+1)=l:=by
   have:=congrArg List.tail hl
   simpa using this
  simp only [anG,List.range'_succ]
  rw [wpOps_cons]
  unfold D5 at h
  rcases JX h with ⟨hg,h⟩ | ⟨s,want,tg,hg,hs,h⟩ | ⟨s,want,hg,hs,h⟩
  ·obtain ⟨ws,h1,h2⟩:=wG _ h
   obtain ⟨rd,h3⟩:∃rd,(GX T hi n o fun ws=>(.ret ws:Prog (List Wr))).qE σ [] ws rd:=JK _ h1 []
   exact IA hT hSt hC H hnt hoi (.plain ws rd hg h3) (fun α' F' a' w' H'=>ih (i+1) hl' h2 H')
  ·obtain ⟨ws,h1,h2⟩:=wG _ h
   obtain ⟨rd,h3⟩:∃rd,(GX T hi n o fun ws=>(.ret ws:Prog (List Wr))).qE σ [.s s] ws rd:=JK _ h1 _
   exact IA hT hSt hC H hnt hoi (.done s want tg ws rd hg hs h3) (fun α' F' a' w' H'=>ih (i+1) hl' h2 H')
  ·cases hd:JF hi o with
   | false=>rw [hd] at h; simp at h
   | true=>
    rw [hd] at h
    exact IA hT hSt hC H hnt hoi (.skip s want hg hs hd) (fun α' F' a' w' H'=>ih (i+1) hl' h H')
end
end
section
open Go
variable [Fr]
section
variable {P:Program} {T:iT} {hi:Hint} {n:Nat} {ops:Array Oper} {cx:Cx} {σ:St} {α:dL} {F:List Nat} {a:Act} {w:World}
structure Ev where
 i:Nat
 ws:List Wr
 rd:List Loc
def Ev.wr (e:Ev):List Loc:=e.ws.map Wr.loc
def Bef (ops:Array Oper) (j i:Nat):Prop:=leads ops 7 j i=true
theorem P5 {ops:Array Oper}:∀{f:Nat} {j i:Nat},leads ops f j i=true→leads ops (f+1) j i=true
 | 0,_,_,h=>by simp [leads] at h
 | f+1,j,i,h=>by
  unfold leads at h ⊢
  simp only [Bool.or_eq_true,List.any_eq_true,ann] at h ⊢
  rcases h with h | ⟨b,hb,h1,h2⟩
  ·exact .inl h
  ·exact .inr ⟨b,hb,h1,P5 h2⟩
theorem Ef {ops:Array Oper} {L:Nat→Prop} (hcl:∀b,L b→∀c∈binders ops b,L c):∀{f:Nat} {j i:Nat},leads ops f j i=true→(∀c∈binders ops i,L c)→L j
 | 0,_,_,h,_=>by simp [leads] at h
 | f+1,j,i,h,hi=>by
  unfold leads at h
  simp only [Bool.or_eq_true,List.any_eq_true,ann] at h
  rcases h with h | ⟨b,hb,_,h2⟩
  ·exact hi j (aM.1 h)
  ·exact Ef hcl h2 (hcl b (hi b hb))
def OM (e e':Ev):Prop:=(∀x∈e.wr,x∉e'.rd++e'.wr)∧∀x∈e.rd,x∉e'.wr
def Gp (T:iT) (hi:Hint) (n:Nat) (ops:Array Oper):List Ev→St→St→Prop
 | [],σ,τ=>τ=σ
 | e :: l,σ,τ=>(∃o,ops[e.i]?=some o∧Nl T hi n ops o σ e.ws e.rd)∧Gp T hi n ops l (aB e.ws σ) τ
def Ut (ops:Array Oper):List Ev→Prop
 | []=>True
 | e :: l=>(∀e'∈l,Bef ops e.i e'.i∨OM e e')∧Ut ops l
theorem Rs {e e':Ev} {l:List Ev} {τ:St} (hi':OM e e') (h:Gp T hi n ops (e :: e' :: l) σ τ):Gp T hi n ops (e' :: e :: l) σ τ:=by
 obtain ⟨⟨o,ho,h1⟩,⟨o',ho',h2⟩,h3⟩:=h
 have ha:∀y∈e'.rd,Ow.agree (aB e.ws σ) σ y:=by
  intro y hy
  have:=o8 e.ws σ (y:=y) (fun hm=>hi'.1 y hm (anm _ hy))
  cases y with
  | s n=>exact this.symm
  | r n=>exact this.symm
 have hb:∀y∈e.rd,Ow.agree σ (aB e'.ws σ) y:=fun y hy=>o8 e'.ws σ (hi'.2 y hy)
 refine ⟨⟨o',ho',h2.agree ha⟩,⟨o,ho,h1.agree hb⟩, ?_⟩
 rw [O4 (u:=e.ws) (v:=e'.ws) (fun x hx hx'=>hi'.1 x hx (anj _ hx'))]
 exact h3
theorem Ph {e:Ev} {l:List Ev}:∀{pre:List Ev} {σ τ:St},(∀x∈pre,OM x e)→Gp T hi n ops (pre++e :: l) σ τ→Gp T hi n ops (e :: (pre++l)) σ τ:=by
 intro pre
 induction pre with
 | nil=>intro σ τ _ h; exact h
 | cons x pre ih=>
  intro σ τ hx h
  refine Rs (hx x (by simp)) ?_
  obtain ⟨h1,h2⟩:=h
  exact ⟨h1,ih (fun y hy=>hx y (by simp [hy])) h2⟩
theorem VI {e:Ev} {l:List Ev}:∀{pre:List Ev},Ut ops (pre++e :: l)→Ut ops (pre++l)∧∀x∈pre,Bef ops x.i e.i∨OM x e:=by
 intro pre
 induction pre with
 | nil=>intro h; exact ⟨h.2,by simp⟩
 | cons x pre ih=>
  intro h
  obtain ⟨g1,g2⟩:=ih h.2
  refine ⟨⟨fun e' he'=>h.1 e' ?_,g1⟩,fun y hy=>?_⟩
  ·rcases anq.1 he' with h | h
   ·exact anm _ h
   ·exact anj _ (anH _ h)
  ·rcases anu.1 hy with h' | h'
   ·subst h'; exact h.1 e (by simp)
   ·exact g2 y h'
theorem RH {e:Eff} {l:List Eff} (h:Gw ops e l=true):(∀b∈binders ops e.i,b<e.i)∧∀b∈l,Bef ops b.i e.i∨((∀x∈b.wr,x∉e.rd++e.wr)∧∀x∈b.rd,x∉e.wr):=by
 unfold Gw at h
 simp only [ann,anx] at h
 refine ⟨fun b hb=>?_,fun b hb=>?_⟩
 ·have:=h.1 b hb
  unfold Nat.blt at this
  exact Nat.le_of_ble_eq_true this
 ·have:=h.2 b hb
  rw [Bool.or_eq_true,Bool.or_eq_true,ann] at this
  rcases this with h1 | ⟨h1,h2⟩ | h1
  ·exact .inl (by unfold Bef leads; rw [h1]; rfl)
  ·exact .inr ⟨Je.1 h1,Je.1 h2⟩
  ·exact .inl (P5 h1)
theorem Py {R:Type} {K:St→Option R} {r:R}:∀(l:List Oper) (i:Nat) (es:List Eff) {σ:St},ops.toList.drop i=l→JL T hi n ops l i es σ K=some r→
  ∃(evs:List Ev) (τ:St),K τ=some r∧Gp T hi n ops evs σ τ∧Ut ops evs∧evs.map (·.i)=List.range' i l.length∧(∀e∈evs,∀b∈binders ops e.i,b<e.i)∧
   ∀e∈evs,∀b∈es,Bef ops b.i e.i∨((∀x∈b.wr,x∉e.rd++e.wr)∧∀x∈b.rd,x∉e.wr):=by
 intro l
 induction l with
 | nil=>intro i es σ _ h; exact ⟨[],σ,h,rfl,trivial,rfl,by simp,by simp⟩
 | cons o l ih=>
  intro i es σ hl h
  have hoi:ops[i]?=some o:=by
   have:=congrArg (fun l=>l[0]?) hl
   simpa using this
  have hl':ops.toList.drop (i+1)=l:=by
   have:=congrArg List.tail hl
   simpa using this
  have step:∀{ws:List Wr} {rd:List Loc},Nl T hi n ops o σ ws rd→Gw ops ⟨i,rd,ws.map Wr.loc⟩ es=true→JL T hi n ops l (i+1) (⟨i,rd,ws.map Wr.loc⟩ :: es) (aB ws σ) K=some r→
    ∃(evs:List Ev) (τ:St),K τ=some r∧Gp T hi n ops evs σ τ∧Ut ops evs∧evs.map (·.i)=List.range' i (l.length+1)∧(∀e∈evs,∀b∈binders ops e.i,b<e.i)∧
     ∀e∈evs,∀b∈es,Bef ops b.i e.i∨((∀x∈b.wr,x∉e.rd++e.wr)∧∀x∈b.rd,x∉e.wr):=by
   intro ws rd hab hok h
   obtain ⟨evs,τ,g1,g2,g3,g4,g5,g6⟩:=ih (i+1) _ hl' h
   obtain ⟨k1,k2⟩:=RH hok
   refine ⟨⟨i,ws,rd⟩ :: evs,τ,g1,⟨⟨o,hoi,hab⟩,g2⟩,⟨fun e' he'=>?_,g3⟩, ?_, ?_, ?_⟩
   ·exact g6 e' he' ⟨i,rd,ws.map Wr.loc⟩ (by simp)
   ·rw [List.range'_succ,List.map_cons,g4]
   ·intro e he
    rcases anu.1 he with h | h
    ·subst h; exact k1
    ·exact g5 e h
   ·intro e he b hb
    rcases anu.1 he with h | h
    ·subst h; exact k2 b hb
    ·exact g6 e h b (by simp [hb])
  simp only [anG]
  unfold JL at h
  rcases JX h with ⟨hg,h⟩ | ⟨s,want,tg,hg,hs,h⟩ | ⟨s,want,hg,hs,h⟩
  ·obtain ⟨ws,rd,h1,h2⟩:=MV _ h
   cases hok:Gw ops ⟨i,rd,ws.map Wr.loc⟩ es with
   | false=>rw [hok] at h2; simp at h2
   | true=>rw [hok] at h2; exact step (.plain ws rd hg h1) hok h2
  ·obtain ⟨ws,rd,h1,h2⟩:=MV _ h
   cases hok:Gw ops ⟨i,rd,ws.map Wr.loc⟩ es with
   | false=>rw [hok] at h2; simp at h2
   | true=>rw [hok] at h2; exact step (.done s want tg ws rd hg hs h1) hok h2
  ·cases hok:(JF hi o && Gw ops ⟨i,[.s s],(GV o).map Wr.loc⟩ es) with
   | false=>rw [hok] at h; simp at h
   | true=>
    rw [hok] at h
    rw [ann] at hok
    exact step (.skip s want hg hs hok.1) hok.2 h
theorem UK (hT:eF P T) (hSt:Lh P T) (hC:uQ P n hi) (hnt:hi.nt=cx.nt) {Q:Exit→Act→World→Prop} {τ:St} (hQ:∀α' F' a' w',Rel cx τ α' F' a' w'→Q .normal a' w') :
  ∀(m:Nat) (evs:List Ev) (listed:Array Bool) {σ:St} {α:dL} {F:List Nat} {a:Act} {w:World},evs.length=m→Gp T hi n ops evs σ τ→Ut ops evs→(evs.map (·.i)).Pairwise (· < ·)→(∀e∈evs,∀b∈binders ops e.i,b<e.i)→
   listed.size=ops.size→(∀j,j<ops.size→(listed.getD j false=false↔j∈evs.map (·.i)))→(∀e∈evs,e.i<ops.size)→(∀b,listed.getD b false=true→∀c∈binders ops b,listed.getD c false=true)→Rel cx σ α F a w→wpAny P .any ops Q m listed a w:=by
 intro m
 induction m with
 | zero=>
  intro evs listed σ α F a w hl hc _ _ _ hsz hlist _ _ H
  have:evs=[]:=List.eq_nil_of_length_eq_zero hl
  subst this
  have hc':τ=σ:=hc
  subst hc'
  refine ⟨?_,hQ _ _ _ _ H⟩
  cases hr:Region.ready .any ops listed with
  | nil=>rfl
  | cons j l=>
   have hj:j∈Region.ready .any ops listed:=by rw [hr]; simp
   obtain ⟨h0,o,ho,_⟩:=mem_ready.1 hj
   have hlt:=(Array.getElem?_eq_some_iff.1 ho).1
   have:listed.getD j false=false:=by
    have hj2:j<listed.size:=by omega
    simp [hj2] at h0 ⊢
    exact h0
   exact absurd ((hlist j hlt).1 this) (by simp)
 | succ m ih=>
  intro evs listed σ α F a w hl hc hp hsort hbind hsz hlist hlt hcl H
  refine ⟨fun hr=>?_,fun j hj=>?_⟩
  ·
   exfalso
   cases evs with
   | nil=>simp at hl
   | cons e evs=>
    obtain ⟨⟨o,ho,_⟩,_⟩:=hc
    have he:e.i∈Region.ready .any ops listed:=by
     rw [mem_ready]
     have hei:=hlt e (by simp)
     have hun:=(hlist e.i hei).2 (by simp)
     refine ⟨?_,o,ho,fun q hq hb=>?_⟩
     ·have hj2:e.i<listed.size:=by omega
      simp [hj2] at hun ⊢
      exact hun
     ·have hm:q.on∈binders ops e.i:=by
       unfold binders
       rw [ho]
       simp only [Option.getD_some,anT,anA]
       exact ⟨q,⟨Array.mem_toList_iff.2 hq,hb⟩,rfl⟩
      have hlt2:=hbind e (by simp) q.on hm
      cases hb2:listed.getD q.on false with
      | true=>rfl
      | false=>
       have:=(hlist q.on (by omega)).1 hb2
       simp only [List.map_cons,anu] at this
       rcases this with h | h
       ·omega
       ·have hlt3:e.i<q.on:=by simpa using (List.pairwise_cons.1 hsort).1 q.on h
        omega
    rw [hr] at he
    simp at he
  ·obtain ⟨h0,o,ho,hall⟩:=mem_ready.1 hj
   have hjlt:=(Array.getElem?_eq_some_iff.1 ho).1
   have hj2:j<listed.size:=by omega
   have hun:listed.getD j false=false:=by
    simp [hj2] at h0 ⊢
    exact h0
   have hjm:=(hlist j hjlt).1 hun
   obtain ⟨e,he,hej⟩:=anT.1 hjm
   obtain ⟨pre,post,hsplit⟩:=List.append_of_mem he
   subst hsplit
   subst hej
   obtain ⟨p1,p2⟩:=VI hp
   have hle:∀c∈binders ops e.i,listed.getD c false=true:=by
    intro c h
    unfold binders at h
    rw [ho] at h
    simp only [Option.getD_some,anT,anA] at h
    obtain ⟨q,⟨hq,hb⟩,hon⟩:=h
    rw [←hon]
    exact hall q (Array.mem_toList_iff.1 hq) hb
   have hpre:∀x∈pre,OM x e:=by
    intro x hx
    rcases p2 x hx with h | h
    ·exfalso
     have hl2:=Ef (L:=fun b=>listed.getD b false=true) hcl h hle
     have hxi:=hlt x (by simp [hx])
     have:=(hlist x.i hxi).2 (by simp only [List.map_append,anq,anT]; exact .inl ⟨x,hx,rfl⟩)
     rw [hl2] at this
     simp at this
    ·exact h
   have hc2:=Ph hpre hc
   obtain ⟨⟨o',ho',hab⟩,hc3⟩:=hc2
   rw [ho] at ho'
   simp only [anh] at ho'
   subst ho'
   have XP:(pre.map (·.i)++e.i :: post.map (·.i)).Pairwise (· < ·):=by simpa using hsort
   have hsub:(pre++post).Sublist (pre++e :: post):=List.Sublist.append_left (List.sublist_cons_self _ _) _
   refine IA hT hSt hC H hnt ho hab (fun α' F' a' w' H'=>?_)
   refine ih (pre++post) (listed.setIfInBounds e.i true) (by simp at hl ⊢; omega) hc3 p1 (hsort.sublist (hsub.map _)) (fun x hx=>hbind x (hsub.subset hx)) (by simpa using hsz) (fun k hk=>?_) (fun x hx=>hlt x (hsub.subset hx)) ?_ H'
   rotate_left
   ·intro b hb c hc4
    have hset:∀k,listed.getD k false=true→(listed.setIfInBounds e.i true).getD k false=true:=fun k hk=>by
     by_cases hke:k=e.i
     ·subst hke; simp [hj2]
     ·rw [getD_set_ne false (Ne.symm hke)]; exact hk
    by_cases hbe:b=e.i
    ·subst hbe; exact hset c (hle c hc4)
    ·rw [getD_set_ne false (Ne.symm hbe)] at hb
     exact hset c (hcl b hb c hc4)
   have hnot:e.i∉(pre++post).map (·.i):=by
    intro hm
    rw [List.map_append,anq] at hm
    rcases hm with h | h
    ·have:=(List.pairwise_append.1 XP).2.2 e.i h e.i (by simp)
     omega
    ·have:=(List.pairwise_cons.1 (List.pairwise_append.1 XP).2.1).1 e.i h
     omega
   by_cases hke:k=e.i
   ·subst hke
    constructor
    ·intro h
     exfalso
     simp [hj2] at h
    ·intro h; exact absurd h hnot
   ·rw [getD_set_ne false (Ne.symm hke),hlist k hk]
    simp only [List.map_append,List.map_cons,anq,anu]
    constructor
    ·rintro (h | h | h)
     ·exact .inl h
     ·exact absurd h hke
     ·exact .inr h
    ·rintro (h | h)
     ·exact .inl h
     ·exact .inr (.inr h)
theorem Xg (hT:eF P T) (hSt:Lh P T) (hC:uQ P n hi) (hnt:hi.nt=cx.nt) {R:Type} {K:St→Option R} {r:R} {Q:Exit→Act→World→Prop} (hQ:∀σ' α' F' a' w',K σ'=some r→Rel cx σ' α' F' a' w'→Q .normal a' w')
  (h:JL T hi n ops ops.toList 0 [] σ K=some r) (H:Rel cx σ α F a w):wpAny P .any ops Q ops.size (Array.replicate ops.size false) a w:=by
 obtain ⟨evs,τ,h1,h2,h3,h4,h5,_⟩:=Py ops.toList 0 [] (by simp) h
 rw [Array.length_toList, ←List.range_eq_range'] at h4
 refine UK hT hSt hC hnt (fun α' F' a' w' H'=>hQ _ _ _ _ _ h1 H') ops.size evs _ ?_ h2 h3 ?_ h5 (by simp) (fun j hj=>?_) (fun e he=>?_) (fun b hb=>?_) H
 rotate_left 4
 ·exfalso; by_cases hbs:b<ops.size <;> simp [hbs] at hb
 ·have:=congrArg List.length h4; simpa using this
 ·rw [h4]; exact List.pairwise_lt_range
 ·rw [h4]; simp [hj]
 ·have:e.i∈evs.map (·.i):=anT.2 ⟨e,he,rfl⟩
  rw [h4] at this
  exact List.mem_range.1 this
end
end
section
open Go
variable [Fr]
abbrev QZ:=List (Nat×K×List TypeId×List TypeId)
structure Q3 (cx:Cx) (iY:QZ):Prop where
 par:∀j pi,cx.par j=some pi→(pi.kp=true∨∃q,pi.base=some q)→∃q,iX (ay j) iY=some q
 ptr:∀j p ts v,cx.ptrs j p ts v→∃k l,iX (ay j) iY=some (k,l)∧ts=dY p k
 ref:∀j v,cx.refs j v→∃q,iX (ay j) iY=some q
theorem ug {A:Type} {b:Bool} {x:Option A} {d:A} (h:(bif b then x else none)=some d):b=true∧x=some d:=by
 cases b with
 | true=>exact ⟨rfl,h⟩
 | false=>exact absurd h (by simp)
def OB.idl:OB→List Nat
 | .val _ ids=>ids
 | .iZ _ _ ids=>ids
 | .fn _ caps=>caps.flatMap fun c=>c.2.2
 | _=>[]
def AR (rs:List Nat) (i:Nat):Prop:=fI i=true∨i∈rs
structure Cz (σ:St) (iY:QZ) (rs:List Nat) (r:Nat) (R R':Root):Prop where
 live:aP σ r R
 valid:bu σ R
 form:∃ow tg ew eh,R'={ R with own:=ow,tags:=tg,w:=[],h:=[],g:=0,ew:=ew,eh:=eh }∧(∀t∈R.k.tys,az t ow=az t R.own)
 tags:∀t∈R.tags,AR rs t.1→(t.1,0)∈R'.tags
 abp:∀t∈R'.tags,t.2=0∧AR rs t.1∧t.1≠r
 log:∀k wt ht,iX r iY=some (k,wt,ht)→R.k=k∧R'.ew=wt∧R'.eh=ht∧(∀t∈R.w,t∈wt)∧(∀t∈R.ew,t∈wt)∧(∀t∈R.h,t∈ht)∧(∀t∈R.eh,t∈ht)∧R.g=0
structure OW (σ:St) (iY:QZ) (rs:List Nat) (σ':St):Prop where
 roots:∀r R',σ'.roots r=some R'→r∈rs∧fI r=false∧∃R,Cz σ iY rs r R R'
 made:∀r∈rs,∃R',σ'.roots r=some R'
 slots:∀s,σ'.slots s=.one .undef∨∃sh av d,σ.slots s=.one av∧UM σ rs sh av=some d∧σ'.slots s=.one (mkA sh d)∧∀i∈sh.idl,AR rs i
 iY:∀r q,iX r iY=some q→r∈rs
theorem CL:∀{p:List (Option Nat)} {q:List Stp} {c:Cont (dG.into 0 p).kin},idxOf p q=some c→pathOf p c=q
 | [],[],_,_=>rfl
 | [],_ :: _,_,h=>by simp [idxOf] at h
 | some n :: p,[],_,h=>by simp [idxOf] at h
 | some n :: p, .idx i :: q,_,h=>by simp [idxOf] at h
 | some n :: p, .fJ m :: q,c,h=>by
  have h':(bif Nat.beq n m then idxOf p q else none)=some c:=h
  cases hb:Nat.beq n m with
  | false=>rw [hb] at h'; simp at h'
  | true=>
   rw [hb] at h'
   have:=anl hb
   subst this
   show Stp.fJ n :: pathOf p c=_
   rw [CL (p:=p) (q:=q) (c:=c) h']
 | none :: p,[],_,h=>by simp [idxOf] at h
 | none :: p, .fJ i :: q,_,h=>by simp [idxOf] at h
 | none :: p, .idx i :: q,c,h=>by
  have h':(match idxOf p q with
   | some d=>some ((i,d):Cont (dG.into 0 (none :: p)).kin)
   | none=>none)=some c:=h
  cases hq:idxOf p q with
  | none=>rw [hq] at h'; simp at h'
  | some d=>
   rw [hq] at h'
   have h2:((i,d):Cont (dG.into 0 (none :: p)).kin)=c:=anS h'
   rw [←h2]
   show Stp.idx i :: pathOf p d=_
   rw [CL hq]
theorem vv {rs:List Nat}:∀{l:List Tag} {r:Nat},r∈oI rs l↔(∃n,(r,n)∈l)∧AR rs r
 | [],r=>by simp [oI]
 | (q,m) :: l,r=>by
  have ih:=vv (rs:=rs) (l:=l) (r:=r)
  unfold oI
  cases hb:(fI q || az q rs) && !az q (oI rs l) with
  | true=>
   simp only [cond_true,anu]
   simp only [ann,Bool.or_eq_true,aM] at hb
   constructor
   ·rintro (h | h)
    ·subst h
     exact ⟨⟨m, .inl rfl⟩,hb.1⟩
    ·obtain ⟨⟨n,hn⟩,h2⟩:=ih.1 h
     exact ⟨⟨n, .inr hn⟩,h2⟩
   ·rintro ⟨⟨n,h | h⟩,h2⟩
    ·exact .inl (by simpa using congrArg Prod.fst h)
    ·exact .inr (ih.2 ⟨⟨n,h⟩,h2⟩)
  | false=>
   simp only [cond_false]
   constructor
   ·intro h
    obtain ⟨⟨n,hn⟩,h2⟩:=ih.1 h
    exact ⟨⟨n, .tail _ hn⟩,h2⟩
   ·rintro ⟨⟨n,h⟩,h2⟩
    rcases anu.1 h with h | h
    ·have e:r=q:=by simpa using congrArg Prod.fst h
     subst e
     cases hm:az r (oI rs l) with
     | true=>exact aM.1 hm
     | false=>
      exfalso
      rw [hm] at hb
      simp only [anV,Bool.and_true,Bool.or_eq_false_iff] at hb
      rcases h2 with h2 | h2
      ·rw [hb.1] at h2; simp at h2
      ·rw [aM.2 h2] at hb; simp at hb
    ·exact ih.2 ⟨⟨n,h⟩,h2⟩
section
variable {P:Program} {T:iT} {cx:Cx} {σ σ':St} {α:dL} {F:List Nat} {a:Act} {w:World} {iY:QZ} {rs:List Nat}
theorem Cz.kind {r:Nat} {R R':Root} (h:Cz σ iY rs r R R'):R'.kind=R.kind∧R'.k=R.k∧R'.w=[]∧R'.h=[]∧R'.g=0∧R'.bg=R.bg:=by
 obtain ⟨ow,tg,ew,eh,rfl,_⟩:=h.form
 exact ⟨rfl,rfl,rfl,rfl,rfl,rfl⟩
theorem Cz.blk {r:Nat} {R R':Root} (h:Cz σ iY rs r R R'):blk α R' r=blk α R r∧dV α R' r=dV α R r:=by
 have hk:=h.kind.1
 unfold Ow.blk dV
 rw [hk]
 exact ⟨rfl,rfl⟩
theorem OW.iL (hB:OW σ iY rs σ') {U U':List Tag} (hU:∀t∈U,AR rs t.1→∃n,(t.1,n)∈U') {b:Nat} (h:iL cx σ α F w U b):iL cx σ' α F w U' b:=by
 obtain ⟨h1,h2,h3,h4,h5⟩:=h
 refine ⟨h1,h2,h3,fun r R' hr hb=>?_,fun hlt=>?_⟩
 ·obtain ⟨g1,g2,R,g3⟩:=hB.roots r R' hr.1
  rw [g3.blk.1] at hb
  obtain ⟨n,hn⟩:=h4 r R g3.live hb
  exact hU _ hn (.inr g1)
 ·rcases h5 hlt with ⟨j,n,g1,g2⟩ | h
  ·obtain ⟨n',hn'⟩:=hU _ g1 (.inl (iJ j))
   exact .inl ⟨j,n',hn',g2⟩
  ·exact .inr h
theorem OW.Kw (hB:OW σ iY rs σ') {U U':List Tag} (hU:∀t∈U,AR rs t.1→∃n,(t.1,n)∈U') {b:Nat} (h:Kw σ α F w U b):Kw σ' α F w U' b:=by
 obtain ⟨h1,h2,h4⟩:=h
 refine ⟨h1,h2,fun r R' hr hb=>?_⟩
 obtain ⟨g1,g2,R,g3⟩:=hB.roots r R' hr.1
 rw [g3.blk.1] at hb
 obtain ⟨n,hn⟩:=h4 r R g3.live hb
 exact hU _ hn (.inr g1)
theorem aau {tags:List Tag} {ids:List Nat} (h:mO (oI rs tags) ids=true):∀t∈tags,AR rs t.1→∃n,(t.1,n)∈ids.map fun r=>((r,0):Tag):=by
 intro t ht hi
 refine ⟨0,anT.2 ⟨t.1,jG.1 h _ (vv.2 ⟨⟨t.2,ht⟩,hi⟩),rfl⟩⟩
theorem OW.eY (hB:OW σ iY rs σ') {ids:List Nat} (h:∀i∈ids,AR rs i):eY σ' (ids.map fun r=>((r,0):Tag)):=by
 intro t ht
 obtain ⟨i,h1,rfl⟩:=anT.1 ht
 rcases h i h1 with h | h
 ·exact .inl h
 ·obtain ⟨R',hR⟩:=hB.made i h
  exact .inr ⟨R',hR, .inr (anR _)⟩
theorem OW.ro (hB:OW σ iY rs σ') {bt:TypeId} {k:K} {x:El k} {tags:List Tag} {ids:List Nat} {v:Value} (hs:mO (oI rs tags) ids=true) (hc:bq σ (bt :: k.tys) tags=true)(hE:Mm bt ids=true)
  (h:KG cx σ α F w bt k x tags v):KG cx σ' α F w bt k x (ids.map fun r=>((r,0):Tag)) v:=by
 obtain ⟨h1,h2⟩:=h
 obtain ⟨b,o,cs,e1,e2,e3,e4,e5⟩:=h2 hc
 refine ⟨h1,fun _=>⟨b,o,cs,e1,e2,gq (fun _ _=>rfl) (fun b hb=>hB.iL (aau hs) hb) e3,hB.Kw (aau hs) e4, ?_⟩⟩
 rcases e5 with ⟨g1,g2⟩ | h
 ·refine .inl ⟨g1,fun t ht=>?_⟩
  obtain ⟨i,h1,rfl⟩:=anT.1 ht
  unfold Mm at hE
  rw [g1] at hE
  simp only [show Nat.beq SENT SENT=true from rfl,anK,Bool.false_or,anx] at hE
  exact hE i h1
 ·exact .inr h
theorem OW.caps (hB:OW σ iY rs σ'):∀{cs:List (TypeId×K×List Nat)} {l:List (TypeId×Dat×List Tag)} {d:Cont (Rm cs)} {vs:List Value},zo σ rs cs l=some d→(∀i∈cs.flatMap (fun c=>c.2.2),AR rs i)→ku cx σ α F w l vs→
  ku cx σ' α F w (Kq cs d) vs∧∀c∈Kq cs d,Ow.eY σ' c.2.2
 | [],[],_,[],_,_,_=>⟨trivial,by intro c hc; exact absurd hc (by simp [Kq])⟩
 | [],_ :: _,_,_,h,_,_=>by simp [zo] at h
 | _ :: _,[],_,_,h,_,_=>by simp [zo] at h
 | [],[],_,_ :: _,_,_,h=>h.elim
 | _ :: _,_ :: _,_,[],_,_,h=>h.elim
 | (t,k,ids) :: cs,(t',d,tags) :: l,c,v :: vs,h,hi,hv=>by
  simp only [zo] at h
  cases hb:Nat.beq t t' && bq σ (t :: k.tys) tags && mO (oI rs tags) ids && Mm t ids with
  | false=>rw [hb] at h; simp at h
  | true=>
   rw [hb] at h
   simp only [cond_true] at h
   simp only [ann] at hb
   obtain ⟨⟨⟨b1,b2⟩,b3⟩,b4⟩:=hb
   have:=anl b1
   subst this
   cases hck:bP d.1 k d.2 with
   | none=>rw [hck] at h; simp at h
   | some x=>
    rw [hck] at h
    cases hcs:zo σ rs cs l with
    | none=>rw [hcs] at h; simp at h
    | some y=>
     rw [hcs] at h
     have h2:((x,y):Cont (Rm ((t,k,ids) :: cs)))=c:=anS h
     subst h2
     obtain ⟨dk,dx⟩:=d
     obtain ⟨e,ex⟩:=bL hck
     simp only at e
     subst e
     simp only at ex
     subst ex
     have Z0:∀i∈ids,AR rs i:=fun i h=>hi i (by simp [h])
     obtain ⟨g1,g2⟩:=hB.caps (vs:=vs) hcs (fun i h=>hi i (by
      rw [List.flatMap_cons]; exact anj _ h)) hv.2
     refine ⟨⟨hB.ro b3 b2 b4 hv.1,g1⟩,fun q hq=>?_⟩
     rcases anu.1 hq with h | h
     ·subst h; exact hB.eY Z0
     ·exact g2 q h
theorem OW.av (H:Rel cx σ α F a w) (hB:OW σ iY rs σ') {sh:OB} {av:AV} {d:Cont sh.ks} {v:Value} (hct:UM σ rs sh av=some d) (hi:∀i∈sh.idl,AR rs i) (hv:bI cx σ α F w av v) :
  bI cx σ' α F w (mkA sh d) v∧rG σ' (mkA sh d):=by
 cases sh with
 | undef=>exact ⟨trivial,trivial⟩
 | val k ids=>
  cases av with
  | val k' x tags=>
   simp only [UM] at hct
   cases hb:bq σ k.tys tags && mO (oI rs tags) ids with
   | false=>rw [hb] at hct; simp at hct
   | true=>
    rw [hb] at hct
    simp only [cond_true] at hct
    simp only [ann] at hb
    cases hck:bP k' k x with
    | none=>rw [hck] at hct; simp at hct
    | some y=>
     rw [hck] at hct
     have h2:((y,()):Cont (OB.val k ids).ks)=d:=anS hct
     subst h2
     obtain ⟨e,ex⟩:=bL hck
     subst e
     simp only at ex
     subst ex
     refine ⟨fun _=>?_,hB.eY hi⟩
     obtain ⟨cs,g1,g2⟩:=hv (.inr hb.1)
     exact ⟨cs,g1,gq (fun _ _=>rfl) (fun b hb2=>hB.iL (aau hb.2) hb2) g2⟩
  | _=>simp [UM] at hct
 | iQ=>
  cases av with
  | iQ=>
   exact ⟨hv,trivial⟩
  | _=>simp [UM] at hct
 | ref r=>
  cases av with
  | ref r' g=>
   obtain ⟨hb,_⟩:=ug (show (bif Nat.beq r r' && az r rs && (match σ.roots r with | some R=>Nat.beq R.g g | none=>false) then some () else none)=some d from hct)
   simp only [ann] at hb
   obtain ⟨⟨b1,b2⟩,b3⟩:=hb
   have:=anl b1
   subst this
   obtain ⟨R',hR'⟩:=hB.made r (aM.1 b2)
   refine ⟨fun Q hQ _=>?_,R',hR', .inr (anR _)⟩
   obtain ⟨_,_,R,g3⟩:=hB.roots r Q hQ.1
   rw [g3.live.1] at b3
   obtain ⟨f1,f2⟩:=hv R g3.live (anl b3)
   obtain ⟨k1,k2,_⟩:=g3.kind
   exact ⟨k1.trans f1,by rw [k2]; exact f2⟩
  | _=>simp [UM] at hct
 | ptr r p=>
  cases av with
  | ptr r' q n=>
   obtain ⟨hb,acA⟩:=ug (A:=Cont (dG.into 0 p).kin) (x:=idxOf p q) (show (bif Nat.beq r r' && az r rs && (match σ.roots r with | some R=>clean R.h n (dY q R.k) | none=>false) then idxOf p q else none)=some d from hct)
   simp only [ann] at hb
   obtain ⟨⟨b1,b2⟩,b3⟩:=hb
   have:=anl b1
   subst this
   have hpq:=CL acA
   obtain ⟨R',hR'⟩:=hB.made r (aM.1 b2)
   show bI cx σ' α F w (.ptr r (pathOf p d) 0) v∧rG σ' (.ptr r (pathOf p d) 0)
   rw [hpq]
   refine ⟨⟨hv.1,fun Q hQ Z9 _ hpt hg=>?_⟩,R',hR', .inr (anR _)⟩
   obtain ⟨_,_,R,g3⟩:=hB.roots r Q hQ
   rw [g3.live.1] at b3
   have hw:=(Cz.blk (α:=α) g3).2
   obtain ⟨ow,tg,ew,eh,rfl,hown⟩:=g3.form
   obtain ⟨f1,f2⟩:=hv.2 R g3.live.1 g3.valid b3 (fun t ht=>by rw [←hown t (oN q t ht)]; exact hpt t ht) hg
   exact ⟨f1,by rw [hw]; exact f2⟩
  | _=>simp [UM] at hct
 | iZ bt k ids=>
  cases av with
  | iZ bt' k' x tags=>
   simp only [UM] at hct
   cases hb:Nat.beq bt bt' && bq σ (bt :: k.tys) tags && mO (oI rs tags) ids && Mm bt ids with
   | false=>rw [hb] at hct; simp at hct
   | true=>
    rw [hb] at hct
    simp only [cond_true] at hct
    simp only [ann] at hb
    obtain ⟨⟨⟨b1,b2⟩,b3⟩,b4⟩:=hb
    have:=anl b1
    subst this
    cases hck:bP k' k x with
    | none=>rw [hck] at hct; simp at hct
    | some y=>
     rw [hck] at hct
     have h2:((y,()):Cont (OB.iZ bt k ids).ks)=d:=anS hct
     subst h2
     obtain ⟨e,ex⟩:=bL hck
     subst e
     simp only at ex
     subst ex
     exact ⟨hB.ro b3 b2 b4 hv,hB.eY hi⟩
  | _=>simp [UM] at hct
 | rV=>
  cases av with
  | rV=>
   exact ⟨hv,trivial⟩
  | _=>simp [UM] at hct
 | fn f cs=>
  cases av with
  | fn f' caps=>
   obtain ⟨hb,acA⟩:=ug (A:=Cont (Rm cs)) (x:=zo σ rs cs caps) (show (bif Nat.beq f f' then zo σ rs cs caps else none)=some d from hct)
   have:=anl hb
   subst this
   obtain ⟨vs,e,hc⟩:=hv
   obtain ⟨g1,g2⟩:=hB.caps acA hi hc
   exact ⟨⟨vs,e,g1⟩,g2⟩
  | _=>simp [UM] at hct
end
end
end Go.Proofs.YtailcbngagacaabGreat.Ow
