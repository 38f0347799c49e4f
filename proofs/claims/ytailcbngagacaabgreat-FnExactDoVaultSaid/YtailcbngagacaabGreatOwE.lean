/- A verified reading of translated code: values in place of memory; part E of 6, spaces and remarks taken out. No condition. Own work of this seat. -/
import Derived.Test.YtailcbngagacaabGreatOwD
import Derived.Test.YtailcbngagacaabGreatOwC
set_option linter.unusedSectionVars false
set_option linter.unusedVariables false
set_option linter.unusedSimpArgs false
namespace Go.Proofs.YtailcbngagacaabGreat.Ow
section
open Go
variable [Fr]
structure GA where
 v:Value
 cs:List Value
 fo:List Nat
 base:Option (Nat×Nat)
 ow:Bool
 wb:Bool
def Bd (p:dF) (i:Nat) (c:Cont p.kin):AV:=match p,c with
 | .val k iA,c=>.val k c.1 (bif k.flat then [] else (pV i,0) :: iA.map fun j=>(ay j,0))
 | .ro k,c=>.jg SENT k c.1 [(pV i,0)]
 | .rw _ _ _ _,_=>.ptr (ay i) [] 0
 | .jC _ _ _,_=>.ref (ay i) 0
 | .own _ _,_=>.ref (ay i) 0
 | .fn f ks,c=>.fn f (eP.zn i ks c)
 | .into _ _,_=>.iP
def dO (p:dF) (i:Nat) (c:Cont p.kin):Option Root:=match p,c with
 | .rw k ow _ _,c=>some (aL k c.1 ow (bif k.tys.all (fun t=>az t ow) then [] else [(pV i,0)]) .par true)
 | .jC k ow _,c=>some { aL k c.1 ow (bif k.tys.all (fun t=>az t ow) then [] else [(pV i,0)]) .anon true with fixed:=true }
 | .own k ow,c=>some (aL k c.1 ow (bif k.tys.all (fun t=>az t ow) then [] else [(pV i,0)]) .anon)
 | _,_=>none
def XQ:(p:dF)→(ps:List dF)→Cont (kin (p :: ps))→Cont p.kin
 | .val _ _,_,c=>(c.1,())
 | .ro _,_,c=>(c.1,())
 | .rw _ _ _ _,_,c=>(c.1,())
 | .jC _ _ _,_,c=>(c.1,())
 | .own _ _,_,c=>(c.1,())
 | .fn _ ks,ps,c=>Cont.fst ks (kin ps) c
 | .into _ p,ps,c=>Cont.fst (dF.into 0 p).kin (kin ps) c
def tlC:(p:dF)→(ps:List dF)→Cont (kin (p :: ps))→Cont (kin ps)
 | .val _ _,_,c=>c.2
 | .ro _,_,c=>c.2
 | .rw _ _ _ _,_,c=>c.2
 | .jC _ _ _,_,c=>c.2
 | .own _ _,_,c=>c.2
 | .fn _ ks,ps,c=>Cont.snd ks (kin ps) c
 | .into _ p,ps,c=>Cont.snd (dF.into 0 p).kin (kin ps) c
theorem CZ (p:dF) (ps:List dF) (i:Nat) (c:Cont (kin (p :: ps))):eP (p :: ps) i c=(i,Bd p i (XQ p ps c)) :: eP ps (i+1) (tlC p ps c):=by cases p <;> rfl
theorem vZ (p:dF) (ps:List dF) (i:Nat) (c:Cont (kin (p :: ps))):gI (p :: ps) i c=(match dO p i (XQ p ps c) with
 | some R=>[(ay i,R)]
 | none=>[])++gI ps (i+1) (tlC p ps c):=by cases p <;> rfl
theorem QC {i j:Nat} (h:ay i=ay j):i=j:=by unfold ay at h; omega
theorem GZ:∀(ps:List dF) (i:Nat) (c:Cont (kin ps)) (s:Nat),iF (eP ps i c) s=.one .undef∨∃j p cj,s=i+j∧ps[j]?=some p∧iF (eP ps i c) s=.one (Bd p s cj)
 | [],i,c,s=>.inl rfl
 | p :: ps,i,c,s=>by
  rw [CZ]
  simp only [iF]
  by_cases h:s=i
  ·subst h
   refine .inr ⟨0,p,XQ p ps c,rfl,rfl, ?_⟩
   simp
  ·have:Nat.beq s i=false:=by
    cases hb:Nat.beq s i with
    | true=>exact absurd (an1 hb) h
    | false=>rfl
   rw [this]
   simp only [cond_false]
   rcases GZ ps (i+1) (tlC p ps c) s with h1 | ⟨j,q,cj,h1,h2,h3⟩
   ·exact .inl h1
   ·exact .inr ⟨j+1,q,cj,by omega,by simpa using h2,h3⟩
theorem yF (l m:List (Nat×Root)) (n:Nat):gK (l++m) n=match gK l n with
 | some R=>some R
 | none=>gK m n:=by
 induction l with
 | nil=>rfl
 | cons q l ih=>
  obtain ⟨s,a⟩:=q
  simp only [List.cons_append,gK]
  cases Nat.beq n s with
  | true=>rfl
  | false=>exact ih
theorem MR:∀(ps:List dF) (i:Nat) (c:Cont (kin ps)) (r:Nat),r<ay i→gK (gI ps i c) r=none
 | [],_,_,_,_=>rfl
 | p :: ps,i,c,r,h=>by
  rw [vZ,yF]
  have h2:=MR ps (i+1) (tlC p ps c) r (by unfold ay at h ⊢; omega)
  cases dO p i (XQ p ps c) with
  | none=>exact h2
  | some R=>
   have:Nat.beq r (ay i)=false:=by
    cases hb:Nat.beq r (ay i) with
    | true=>have:=an1 hb; omega
    | false=>rfl
   simp only [gK,this,cond_false]
   exact h2
def ND (cx:Cx) (σ:St) (α:dL) (F:List Nat) (a:Act) (w:World) (r:Nat) (R:Root) (p:List Stp) (d:Dat) (cs1:List Value) (nG:Option (Nat×Nat)) (fP:List Nat):Prop:=
 ∃rest,(α.fo r).Perm (fP++rest)∧(∀b o,nG=some (b,o)→b∈rest∨∃o0,dU α R r=some (b,o0)∧o0≤o∧o+d.1.size≤o0+R.k.size)∧(∀b o,nG=some (b,o)→b∉fP)∧
  ∀{t z:Dat} {tags':List Tag} {lw lh:List TypeId} {kp:Bool} {ft F':List Nat} {cs':List Value} {w':World},sU cx σ α F w r R p d R.own cs1 nG fP rest t z tags' lw lh kp ft F' cs' w'→
    ∃α',Rel cx (au σ r (bH R z R.own tags' lw lh kp)) α' F' a w'∧mJ cx σ α F w (au σ r (bH R z R.own tags' lw lh kp)) α' F' w' (tF r lw) (tF r lh)∧(∀b∈blk α' (bH R z R.own tags' lw lh kp) r,(∃o,dU α R r=some (b,o))∨b∈ft∨b∈rest)∧
     (qz∉lh→bu (au σ r (bH R z R.own tags' lw lh kp)) (bH R z R.own tags' lw lh kp)→bG (hp w') p z.1 (α'.hdr r) (dU α' (bH R z R.own tags' lw lh kp) r)=some (cs',nG))∧∀b∈ft,b∈α'.fo r
def Ww (cx:Cx) (σ:St) (α:dL) (F:List Nat) (a:Act) (w:World) (p:dF) (c:Cont p.kin) (v:Value) (i:cK) (g:GA):Prop:=g.v=v∧match p,c with
 | .val k _,c=>g.ow=false∧g.wb=false∧i.wb=none∧g.fo=[]∧g.base=none∧VC k v g.cs∧Vw (hp w) (iQ cx σ α F w i.ids) k c.1 g.cs
 | .ro k,c=>g.ow=false∧g.wb=false∧i.wb=none∧g.fo=[]∧g.base=none∧∃b o,v=.pointer (some ⟨b,o,none⟩)∧Cells (hp w) b o g.cs∧Vw (hp w) (iQ cx σ α F w i.ids) k c.1 g.cs∧KL σ α F w i.ids b
 | .rw k ow wt ht,c=>g.ow=false∧g.wb=true∧∃r R p b o,PlG cx σ α w k c.1 ow i wt ht r R p∧i.bt=[eT R p]∧bG (hp w) p R.k (α.hdr r) (dU α R r)=some (g.cs,some (b,o))∧v=.pointer (some ⟨b,o,none⟩)∧g.base=some (b,o)∧
   Ow (hp w) R.own (iQ cx σ α F w R.tags) k c.1 g.cs g.fo∧(∀b∈g.fo,b∈α.fo r)∧g.fo.Nodup∧b∉g.fo∧ND cx σ α F a w r R p ⟨k,c.1⟩ g.cs (some (b,o)) g.fo
 | .jC k ow wt,c=>g.ow=false∧g.wb=true∧∃r R p wh,PlG cx σ α w k c.1 ow i wt k.tys r R p∧i.bt=[]∧bG (hp w) p R.k (α.hdr r) (dU α R r)=some (g.cs,wh)∧VC k v g.cs∧g.base=none∧
   Ow (hp w) R.own (iQ cx σ α F w R.tags) k c.1 g.cs g.fo∧(∀b∈g.fo,b∈α.fo r)∧g.fo.Nodup∧ND cx σ α F a w r R p ⟨k,c.1⟩ g.cs wh g.fo
 | .own k ow,c=>g.ow=true∧g.wb=false∧i.wb=none∧g.base=none∧VC k v g.cs∧Ow (hp w) ow (iQ cx σ α F w i.ids) k c.1 g.cs g.fo∧(∀b∈g.fo,b∈F)∧g.fo.Nodup
 | .fn f ks,c=>g.ow=false∧g.wb=false∧i.wb=none∧g.fo=[]∧g.base=none∧∃us:List Value,v=.func (.func f) #[] us.toArray∧TA ks c us i.ids
 | .into _ _,_=>g.ow=false∧g.wb=false∧i.wb=none∧g.fo=[]∧g.base=none∧∃b,v=.slice b 0 0
where TA:(ks:List K)→Cont ks→List Value→List Tag→Prop
 | [],_,[],_=>True
 | k :: ks,c,v :: vs,ids=>(∃b o cs,v=.pointer (some ⟨b,o,none⟩)∧Cells (hp w) b o cs∧Vw (hp w) (iQ cx σ α F w ids) k c.1 cs∧KL σ α F w ids b)∧TA ks c.2 vs ids
 | _,_,_,_=>False
def Zn (cx:Cx) (σ:St) (α:dL) (F:List Nat) (a:Act) (w:World):(ps:List dF)→Cont (kin ps)→List Value→List cK→List GA→Prop
 | [],_,[],[],[]=>True
 | p :: ps,c,v :: vs,i :: is,g :: gs=>Ww cx σ α F a w p (XQ p ps c) v i g∧Zn cx σ α F a w ps (tlC p ps c) vs is gs
 | _,_,_,_,_=>False
section
variable {P:Program} {T:iV} {cx:Cx} {σ:St} {α:dL} {F:List Nat} {a:Act} {w:World}
theorem Cq.caps {σ1:St} {dK:dL} {F1:List Nat} {ids:List Tag} (hT:Tk cx σ α F a w σ1 dK F1 ids):∀{ks:List K} {c:Cont ks} {us:List Value},Cq cx σ α F a w ids ks c us→Ww.TA cx σ1 dK F1 w ks c us ids
 | [],_,[],_=>trivial
 | _ :: _,_,_ :: _,⟨⟨b,o,cs,h1,h2,h3⟩,hh⟩=>⟨⟨b,o,cs,h1,h2,h3 σ1 dK F1 hT⟩,Cq.caps hT hh⟩
 | [],_,_ :: _,hh=>hh.elim
 | _ :: _,_,[],hh=>hh.elim
theorem Ry {σ1:St} {dK:dL} {F1:List Nat} (H1:Rel cx σ1 dK F1 a w) (hV:Views cx σ α F w σ1 dK F1 w):∀{ps:List dF} {c:Cont (kin ps)} {vs:List Value} {is:List cK} {ts:List (Value×iD)} {hs:List (List Value×List Nat)},
  TB cx σ α F a w ps c vs is ts→rG cx σ1 dK F1 w ts hs→(∀i∈is,∀t∈i.ids,Same σ α σ1 dK t.1)→(∀i∈is,∀r q,i.wb=some (r,q)→Same σ α σ1 dK r)→
  ∃gs,Zn cx σ1 dK F1 a w ps c vs is gs∧(gs.flatMap fun g=>bif g.ow then g.fo else [])=hs.flatMap (·.2):=by
 intro ps
 induction ps with
 | nil=>
  intro c vs is ts hs h hh _ _
  cases vs with
  | cons _ _=>exact h.elim
  | nil=>cases is with
   | cons _ _=>exact h.elim
   | nil=>cases ts with
    | cons _ _=>exact h.elim
    | nil=>cases hs with
     | cons _ _=>exact hh.elim
     | nil=>exact ⟨[],trivial,rfl⟩
 | cons p ps ih=>
  intro c vs is ts hs h hh hS hR
  have hpl:∀{k:K} {x:El k} {ow:List TypeId} {i:cK} {wt ht:List TypeId} {r:Nat} {R:Root} {p:List Stp} {cs:List Value} {wh:Option (Nat×Nat)},PlG cx σ α w k x ow i wt ht r R p→(∀t∈i.ids,Same σ α σ1 dK t.1)→Same σ α σ1 dK r→
    bG (hp w) p R.k (α.hdr r) (dU α R r)=some (cs,wh)→PlG cx σ1 dK w k x ow i wt ht r R p∧bG (hp w) p R.k (dK.hdr r) (dU dK R r)=some (cs,wh)∧
     ∃fo,Ow (hp w) R.own (iQ cx σ1 dK F1 w R.tags) k x cs fo∧(∀b∈fo,b∈dK.fo r)∧fo.Nodup∧(∀b o,wh=some (b,o)→b∉fo)∧ND cx σ1 dK F1 a w r R p ⟨k,x⟩ cs wh fo:=by
   intro k x ow i wt ht r R p cs wh hP hid hr hn
   have hr1:=(hr.live R).2 hP.lv
   have hv1:bu σ1 R:=⟨hP.vl.1,by rw [fD (fun t ht=>(hid t (by rw [hP.ids]; exact ht)).root)]; exact hP.vl.2⟩
   have hn1:bG (hp w) p R.k (dK.hdr r) (dU dK R r)=some (cs,wh):=by rw [hr.hdr,hr.wh]; exact hn
   have K:=H1.roots r R hr1
   have hnd:=K.nd
   rw [bW,ny] at hnd
   obtain ⟨fd,ok',fP,rest,pU,wh2,hn',hpf,hd1,hty,hall,zJ,hwf,hgo⟩:=H1.place hr1 hv1 (own':=R.own) hP.get hP.pin (fun _ h=>h) hP.own
   rw [hn1] at hn'
   simp only [anX,an8] at hn'
   obtain ⟨rfl,rfl⟩:=hn'
   obtain ⟨hfd,hO⟩:=hall (fun _ _=>rfl)
   subst hfd
   rw [aoq] at hpf
   have qR:=hpf.nodup hnd.2
   exact ⟨⟨hP.wb,hP.ws,hP.ids,hr1,hv1,hP.get,hP.pin,hP.own,hP.just⟩,hn1,fP,hO,fun b hb=>hpf.mem_iff.2 (an2 _ hb),(an4.1 qR).1,hwf,rest,hpf,zJ,hwf,hgo⟩
  cases vs with
  | nil=>cases p <;> exact h.elim
  | cons v vs=>
   cases is with
   | nil=>cases p <;> exact h.elim
   | cons i is=>
    have hS1:=hS i (by simp)
    have hR1:=hR i (by simp)
    have TS:Tk cx σ α F a w σ1 dK F1 i.ids:=⟨H1,hV,hS1⟩
    have hS2:∀i∈is,∀t∈i.ids,Same σ α σ1 dK t.1:=fun i hi=>hS i (by simp [hi])
    have hR2:∀i∈is,∀r q,i.wb=some (r,q)→Same σ α σ1 dK r:=fun i hi=>hR i (by simp [hi])
    cases p with
    | val k iA=>
     obtain ⟨⟨h1,h2,h3,cs,h4,h5⟩,h6⟩:=h
     obtain ⟨gs,g1,g2⟩:=ih h6 hh hS2 hR2
     exact ⟨⟨v,cs,[],none,false,false⟩ :: gs,⟨⟨rfl,rfl,rfl,h1,rfl,rfl,h4,h5 σ1 dK F1 TS⟩,g1⟩,by simpa using g2⟩
    | ro k=>
     obtain ⟨⟨h1,h2,h3,b,o,cs,h4,h5,h7⟩,h6⟩:=h
     obtain ⟨gs,g1,g2⟩:=ih h6 hh hS2 hR2
     exact ⟨⟨v,cs,[],none,false,false⟩ :: gs,⟨⟨rfl,rfl,rfl,h1,rfl,rfl,b,o,h4,h5,h7 σ1 dK F1 TS⟩,g1⟩,by simpa using g2⟩
    | rw k ow wt ht=>
     obtain ⟨⟨r,R,p,hP,hbt,cs,b,o,hn,hv⟩,h6⟩:=h
     obtain ⟨gs,g1,g2⟩:=ih h6 hh hS2 hR2
     obtain ⟨q1,q2,fo,q3,q4,q5,q6,q7⟩:=hpl hP hS1 (hR1 r _ hP.wb) hn
     exact ⟨⟨v,cs,fo,some (b,o),false,true⟩ :: gs,⟨⟨rfl,rfl,rfl,r,R,p,b,o,q1,hbt,q2,hv,rfl,q3,q4,q5,q6 b o rfl,q7⟩,g1⟩,by simpa using g2⟩
    | jC k ow wt=>
     obtain ⟨⟨r,R,p,hP,hbt,cs,wh,hn,hv⟩,h6⟩:=h
     obtain ⟨gs,g1,g2⟩:=ih h6 hh hS2 hR2
     obtain ⟨q1,q2,fo,q3,q4,q5,q6,q7⟩:=hpl hP hS1 (hR1 r _ hP.wb) hn
     exact ⟨⟨v,cs,fo,none,false,true⟩ :: gs,⟨⟨rfl,rfl,rfl,r,R,p,wh,q1,hbt,q2,hv,rfl,q3,q4,q5,q7⟩,g1⟩,by simpa using g2⟩
    | own k ow=>
     cases ts with
     | nil=>exact h.elim
     | cons q ts=>
      cases hs with
      | nil=>exact hh.elim
      | cons hd hs=>
       obtain ⟨⟨h1,h2,h3,⟨ek,ey⟩,h5⟩,h6⟩:=h
       obtain ⟨⟨k1,k2,k3⟩,k4⟩:=hh
       obtain ⟨gs,g1,g2⟩:=ih h6 k4 hS2 hR2
       obtain ⟨v',tk⟩:=q
       simp only at h1 h2 h3 ek ey h5 k1 k2 k3
       subst h1
       have hO:Ow (hp w) ow (iQ cx σ1 dK F1 w tk.tags) k c.1 hd.1 hd.2:=by
        refine rQ (fun t ht=>?_) (ze ek ey (k2.ow k3))
        have:=aoc.1 h5 t ht
        exact (by simpa using this:az t tk.own=az t ow).symm
       refine ⟨⟨v',hd.1,hd.2,none,true,false⟩ :: gs,⟨⟨rfl,rfl,rfl,by rw [h3],rfl,ek▸k1,by rw [h3]; exact hO,k2.sub,k2.nd⟩,g1⟩,by simp [g2]⟩
    | fn f ks=>
     obtain ⟨⟨h1,h2,h3,us,h4,h5⟩,h6⟩:=h
     obtain ⟨gs,g1,g2⟩:=ih h6 hh hS2 hR2
     exact ⟨⟨v,[],[],none,false,false⟩ :: gs,⟨⟨rfl,rfl,rfl,h1,rfl,rfl,us,h4,h5.caps TS⟩,g1⟩,by simpa using g2⟩
    | into j q=>
     obtain ⟨⟨h1,h2,h3,b,h4⟩,h6⟩:=h
     obtain ⟨gs,g1,g2⟩:=ih h6 hh hS2 hR2
     exact ⟨⟨v,[],[],none,false,false⟩ :: gs,⟨⟨rfl,rfl,rfl,h1,rfl,rfl,b,h4⟩,g1⟩,by simpa using g2⟩
theorem Zn.at:∀{ps:List dF} {c:Cont (kin ps)} {vs:List Value} {is:List cK} {gs:List GA} {i0:Nat},Zn cx σ α F a w ps c vs is gs→
  vs.length=ps.length∧is.length=ps.length∧gs.length=ps.length∧∀j p,ps[j]?=some p→∃cj v i g,vs[j]?=some v∧is[j]?=some i∧gs[j]?=some g∧Ww cx σ α F a w p cj v i g∧
   iF (eP ps i0 c) (i0+j)=.one (Bd p (i0+j) cj)∧gK (gI ps i0 c) (ay (i0+j))=dO p (i0+j) cj:=by
 intro ps
 induction ps with
 | nil=>
  intro c vs is gs i0 h
  cases vs with
  | cons _ _=>exact h.elim
  | nil=>cases is with
   | cons _ _=>exact h.elim
   | nil=>cases gs with
    | cons _ _=>exact h.elim
    | nil=>exact ⟨rfl,rfl,rfl,fun j p hp=>by simp at hp⟩
 | cons p ps ih=>
  intro c vs is gs i0 h
  cases vs with
  | nil=>exact h.elim
  | cons v vs=>cases is with
   | nil=>exact h.elim
   | cons i is=>cases gs with
    | nil=>exact h.elim
    | cons g gs=>
     obtain ⟨h1,h2⟩:=h
     obtain ⟨l1,l2,l3,h3⟩:=ih (i0:=i0+1) h2
     refine ⟨by simp [l1],by simp [l2],by simp [l3],fun j q hq=>?_⟩
     cases j with
     | zero=>
      simp only [List.getElem?_cons_zero,anX] at hq
      subst hq
      refine ⟨XQ p ps c,v,i,g,rfl,rfl,rfl,h1, ?_, ?_⟩
      ·rw [CZ]; simp [iF]
      ·rw [vZ,yF]
       cases hr:dO p i0 (XQ p ps c) with
       | none=>
        simp only [gK,Nat.add_zero]
        rw [MR ps (i0+1) (tlC p ps c) (ay i0) (by unfold ay; omega)]
       | some R=>simp [gK]
     | succ j=>
      obtain ⟨cj,v',i',g',e1,e2,e3,e4,e5,e6⟩:=h3 j q (by simpa using hq)
      have ej:i0+(j+1)=i0+1+j:=by omega
      refine ⟨cj,v',i',g',e1,e2,e3,e4, ?_, ?_⟩
      ·rw [CZ,ej]
       simp only [iF]
       have:Nat.beq (i0+1+j) i0=false:=by
        cases hb:Nat.beq (i0+1+j) i0 with
        | true=>have:=an1 hb; omega
        | false=>rfl
       rw [this]
       exact e5
      ·rw [vZ,yF,ej]
       cases hr:dO p i0 (XQ p ps c) with
       | none=>exact e6
       | some R=>
        have:Nat.beq (ay (i0+1+j)) (ay i0)=false:=by
         cases hb:Nat.beq (ay (i0+1+j)) (ay i0) with
         | true=>have:=QC (an1 hb); omega
         | false=>rfl
        simp only [gK,this,cond_false]
        exact e6
theorem VV:∀{ps:List dF} {c:Cont (kin ps)} {i0 r:Nat} {R:Root},gK (gI ps i0 c) r=some R→∃j p,r=ay (i0+j)∧ps[j]?=some p:=by
 intro ps
 induction ps with
 | nil=>intro c i0 r R h; simp [gI,gK] at h
 | cons p ps ih=>
  intro c i0 r R h
  rw [vZ,yF] at h
  have hrec:gK (gI ps (i0+1) (tlC p ps c)) r=some R→∃j q,r=ay (i0+j)∧(p :: ps)[j]?=some q:=by
   intro h
   obtain ⟨j,q,h1,h2⟩:=ih h
   exact ⟨j+1,q,by rw [h1]; congr 1; omega,by simpa using h2⟩
  cases hr:dO p i0 (XQ p ps c) with
  | none=>rw [hr] at h; exact hrec h
  | some Q=>
   rw [hr] at h
   simp only [gK] at h
   cases hb:Nat.beq r (ay i0) with
   | true=>exact ⟨0,p,an1 hb,rfl⟩
   | false=>rw [hb] at h; exact hrec h
end
end
section
open Go
variable [Fr]
def gT (g:GA):List Nat:=(match g.base with
 | some q=>[q.1]
 | none=>[])++g.fo
def KO:dF→List Nat
 | .val _ iA=>iA
 | _=>[]
def wO:dF→Nat
 | .rw k _ _ _=>k.size
 | _=>0
def dJ (cx:Cx) (σ:St) (α:dL) (F:List Nat) (w:World) (ps:List dF) (c:Cont (kin ps)) (is:List cK) (gs:List GA):Cx where
 nt:=0
 w0:=w
 ext:=fun j b=>(∃i,is[j]?=some i∧iQ cx σ α F w i.ids b)∧∀(m:Nat) (g:GA) (q:Nat×Nat),gs[m]?=some g→g.base=some q→b≠q.1
 par:=fun j=>match gs[j]?,ps[j]? with
  | some g,some p=>bif g.ow || g.wb then some ⟨g.base.map fun q=>(q.1,q.2,wO p),gT g,g.wb⟩ else none
  | _,_=>none
 ptrs:=fun j q ts v=>∃g R0 c0 b o,gs[j]?=some g∧g.wb=true∧gK (gI ps 0 c) (ay j)=some R0∧ts=dY q R0.k∧(∀t∈ah q R0.k,az t R0.own=true)∧nk q R0.k R0.x∧bG (hp w) q R0.k g.cs g.base=some (c0,some (b,o))∧v=.pointer (some ⟨b,o,none⟩)
 refs:=fun j v=>∃g,gs[j]?=some g∧g.v=v∧g.base=none∧g.wb=true
def jv (gs:List GA):dL where
 loc:=fun r=>((gs[r / 4]?).bind (·.base)).getD (0,0)
 hdr:=fun r=>((gs[r / 4]?).map (·.cs)).getD []
 fo:=fun r=>((gs[r / 4]?).map (·.fo)).getD []
theorem QB (j:Nat):ay j / 4=j:=by unfold ay; omega
theorem oK (j:Nat):fJ (ay j)=false:=by
 unfold fJ ay
 have:4 * j % 4=0:=by omega
 rw [this]; rfl
section
variable {P:Program} {T:iV} {cx:Cx} {σ:St} {α:dL} {F:List Nat} {a:Act} {w:World} {ps:List dF} {c:Cont (kin ps)} {vs:List Value} {is:List cK} {gs:List GA}
structure Apart (cx:Cx) (σ:St) (α:dL) (F:List Nat) (w:World) (ps:List dF) (is:List cK) (gs:List GA):Prop where
 one:∀(j j':Nat) (g g':GA),gs[j]?=some g→gs[j']?=some g'→g.wb=true→g'.wb=true→j=j'
 own:(gs.flatMap fun g=>bif g.ow then g.fo else []).Nodup
 iA:∀(j:Nat) (p:dF) (i:cK) (r n:Nat),ps[j]?=some p→is[j]?=some i→(r,n)∈i.ids→∀(m:Nat) (i':cK) q,is[m]?=some i'→i'.wb=some (r,q)→m∈KO p∧∃k iA,p=.val k iA∧∀b∈i'.bt,b∉k.tys
 prw:∀(j:Nat) (p:dF),ps[j]?=some p→∀m∈KO p,∃(i':cK) (q:Nat×List Stp×List TypeId×List TypeId),is[m]?=some i'∧i'.wb=some q
theorem flatMap_apart {A:Type} {f:A→List Nat}:∀{l:List A} {i j:Nat} {x y:A},(l.flatMap f).Nodup→l[i]?=some x→l[j]?=some y→i≠j→∀b∈f x,b∉f y:=by
 intro l
 induction l with
 | nil=>intro i j x y _ h; simp at h
 | cons z l ih=>
  intro i j x y hnd hi hj hne b hb hb'
  simp only [List.flatMap_cons] at hnd
  have n:=an4.1 hnd
  cases i with
  | zero=>
   simp only [List.getElem?_cons_zero,anX] at hi
   subst hi
   cases j with
   | zero=>exact hne rfl
   | succ j=>exact n.2.2 b hb b (aoy.2 ⟨y,List.mem_of_getElem? (by simpa using hj),hb'⟩) rfl
  | succ i=>
   cases j with
   | zero=>
    simp only [List.getElem?_cons_zero,anX] at hj
    subst hj
    exact n.2.2 b hb' b (aoy.2 ⟨x,List.mem_of_getElem? (by simpa using hi),hb⟩) rfl
   | succ j=>exact ih n.2.1 (by simpa using hi) (by simpa using hj) (by omega) b hb hb'
theorem Zl {p:dF} {cj:Cont p.kin} {v:Value} {i:cK} {g:GA} (h:Ww cx σ α F a w p cj v i g) (hw:g.wb=true) :
  ∃(k:K) (x:El k) (ow wt ht:List TypeId) (r:Nat) (R:Root) (q:List Stp) (wh:Option (Nat×Nat)),((p=.rw k ow wt ht∧i.bt=[eT R q]∧∃b o,wh=some (b,o)∧v=.pointer (some ⟨b,o,none⟩)∧g.base=some (b,o)∧b∉g.fo)∨(p=.jC k ow wt∧ht=k.tys∧i.bt=[]∧VC k v g.cs∧g.base=none))∧
   PlG cx σ α w k x ow i wt ht r R q∧bG (hp w) q R.k (α.hdr r) (dU α R r)=some (g.cs,wh)∧Ow (hp w) R.own (iQ cx σ α F w R.tags) k x g.cs g.fo∧(∀b∈g.fo,b∈α.fo r)∧g.fo.Nodup∧g.ow=false∧g.v=v:=by
 obtain ⟨hv,h⟩:=h
 cases p with
 | val k iA=>rw [h.2.1] at hw; simp at hw
 | ro k=>rw [h.2.1] at hw; simp at hw
 | rw k ow wt ht=>
  obtain ⟨h1,h2,r,R,q,b,o,h3,h4,h5,h6,h7,h8,h9,h10,h11,_⟩:=h
  exact ⟨k,cj.1,ow,wt,ht,r,R,q,some (b,o), .inl ⟨rfl,h4,b,o,rfl,h6,h7,h11⟩,h3,h5,h8,h9,h10,h1,hv⟩
 | jC k ow wt=>
  obtain ⟨h1,h2,r,R,q,wh,h3,h4,h5,h6,h7,h8,h9,h10,_⟩:=h
  exact ⟨k,cj.1,ow,wt,k.tys,r,R,q,wh, .inr ⟨rfl,rfl,h4,h6,h7⟩,h3,h5,h8,h9,h10,h1,hv⟩
 | own k ow=>rw [h.2.1] at hw; simp at hw
 | fn f ks=>rw [h.2.1] at hw; simp at hw
 | into j q=>rw [h.2.1] at hw; simp at hw
structure RD (cx:Cx) (σ:St) (α:dL) (F:List Nat) (w:World) (ps:List dF) (vs:List Value) (is:List cK) (gs:List GA) (j:Nat) (R:Root) (g:GA) (i:cK) (p:dF):Prop where
 hg:gs[j]?=some g
 hi:is[j]?=some i
 hq:ps[j]?=some p
 hv:vs[j]?=some g.v
 held:g.ow=true∨g.wb=true
 iA:KO p=[]
 aln:∀k iA,p≠.val k iA
 lw:R.w=[]
 lh:R.h=[]
 g0:R.g=0
 ew:R.ew=[]
 eh:R.eh=[]
 tags:R.tags=bif R.k.tys.all (fun t=>az t R.own) then [] else [(pV j,0)]
 ow:Ow (hp w) R.own (iQ cx σ α F w i.ids) R.k R.x g.cs g.fo
 nd:g.fo.Nodup
 kind:(R.kind=.par∧wO p=R.k.size∧g.wb=true∧∃b o,g.base=some (b,o)∧b∉g.fo)∨(R.kind=.anon∧g.base=none∧VC R.k g.v g.cs)
theorem BU {p:dF} {cj:Cont p.kin} {v:Value} {i:cK} {g:GA} {j:Nat} {R:Root} (h:Ww cx σ α F a w p cj v i g) (hg:gs[j]?=some g) (hi:is[j]?=some i) (hp:ps[j]?=some p) (hv:vs[j]?=some v) (hR:dO p j cj=some R):RD cx σ α F w ps vs is gs j R g i p:=by
 obtain ⟨h0,h⟩:=h
 subst h0
 have hall:∀{k:K} {ow own:List TypeId},oO k own ow=true→∀t∈k.tys,az t ow=az t own:=fun hj t ht=>by
  have:=aoc.1 hj t ht
  exact (by simpa using this:az t _=az t _).symm
 cases p with
 | rw k ow wt ht=>
  obtain ⟨h1,h2,r,R0,q,b,o,h3,h4,h5,h6,h7,h8,h9,h10,h11,_⟩:=h
  simp only [dO,anX] at hR
  subst hR
  refine ⟨hg,hi,hp,hv, .inr h2,rfl,by simp,rfl,rfl,rfl,rfl,rfl,rfl, ?_,h10, .inl ⟨rfl,rfl,h2,b,o,h7,h11⟩⟩
  rw [h3.ids]
  exact rQ (hall h3.just) h8
 | jC k ow wt=>
  obtain ⟨h1,h2,r,R0,q,wh,h3,h4,h5,h6,h7,h8,h9,h10,_⟩:=h
  simp only [dO,anX] at hR
  subst hR
  refine ⟨hg,hi,hp,hv, .inr h2,rfl,by simp,rfl,rfl,rfl,rfl,rfl,rfl, ?_,h10, .inr ⟨rfl,h7,h6⟩⟩
  rw [h3.ids]
  exact rQ (hall h3.just) h8
 | own k ow=>
  obtain ⟨h1,h2,h3,h4,h5,h6,h7,h8⟩:=h
  simp only [dO,anX] at hR
  subst hR
  exact ⟨hg,hi,hp,hv, .inl h1,rfl,by simp,rfl,rfl,rfl,rfl,rfl,rfl,h6,h8, .inr ⟨rfl,h4,h5⟩⟩
 | val k iA=>simp [dO] at hR
 | ro k=>simp [dO] at hR
 | fn f ks=>simp [dO] at hR
 | into j q=>simp [dO] at hR
theorem BS {p:dF} {cj:Cont p.kin} {v:Value} {i:cK} {g:GA} (j:Nat) (h:Ww cx σ α F a w p cj v i g) (hh:g.ow=true∨g.wb=true):∃R,dO p j cj=some R:=by
 obtain ⟨h0,h⟩:=h
 cases p with
 | rw k ow wt ht=>exact ⟨_,rfl⟩
 | jC k ow wt=>exact ⟨_,rfl⟩
 | own k ow=>exact ⟨_,rfl⟩
 | val k iA=>rcases hh with hh | hh <;> simp [h.1,h.2.1] at hh
 | ro k=>rcases hh with hh | hh <;> simp [h.1,h.2.1] at hh
 | fn f ks=>rcases hh with hh | hh <;> simp [h.1,h.2.1] at hh
 | into j q=>rcases hh with hh | hh <;> simp [h.1,h.2.1] at hh
theorem nS (H:Rel cx σ α F a w) {p:dF} {cj:Cont p.kin} {v:Value} {i:cK} {g:GA} (h:Ww cx σ α F a w p cj v i g):(∀b∈gT g,(g.ow=true∧b∈F)∨(g.wb=true∧∃r R q,i.wb=some (r,q)∧aP σ r R∧b∈blk α R r))∧
  (∀b o,g.base=some (b,o)→∃r R q arr e lo hi,i.wb=some (r,q)∧aP σ r R∧b∈blk α R r∧hp w b=some (.cells arr e (lo,hi))∧(∀i,i<arr.size→¬(lo≤i∧i<hi))∧o+wO p≤arr.size∧Cells (hp w) b o g.cs∧((∀t∈i.bt,t=e)∧i.bt≠[]∧¬lU cx b∨lU cx b))∧
  (∀b∈g.fo,g.wb=true→∃r R q,i.wb=some (r,q)∧aP σ r R∧b∈α.fo r)∧(g.wb=true↔i.wb≠none):=by
 obtain ⟨hv,h⟩:=h
 cases p with
 | val k iA=>
  obtain ⟨h1,h2,h3,h4,h5,_⟩:=h
  exact ⟨fun b hb=>by simp [gT,h4,h5] at hb,fun b o hb=>by rw [h5] at hb; simp at hb,fun b hb=>by rw [h4] at hb; simp at hb,by simp [h2,h3]⟩
 | ro k=>
  obtain ⟨h1,h2,h3,h4,h5,_⟩:=h
  exact ⟨fun b hb=>by simp [gT,h4,h5] at hb,fun b o hb=>by rw [h5] at hb; simp at hb,fun b hb=>by rw [h4] at hb; simp at hb,by simp [h2,h3]⟩
 | fn f ks=>
  obtain ⟨h1,h2,h3,h4,h5,_⟩:=h
  exact ⟨fun b hb=>by simp [gT,h4,h5] at hb,fun b o hb=>by rw [h5] at hb; simp at hb,fun b hb=>by rw [h4] at hb; simp at hb,by simp [h2,h3]⟩
 | own k ow=>
  obtain ⟨h1,h2,h3,h4,h5,h6,h7,h8⟩:=h
  exact ⟨fun b hb=>.inl ⟨h1,h7 b (by simpa [gT,h4] using hb)⟩,fun b o hb=>by rw [h4] at hb; simp at hb,fun b hb hw=>by rw [h2] at hw; simp at hw,by simp [h2,h3]⟩
 | jC k ow wt=>
  obtain ⟨h1,h2,r,R,q,wh,h3,h4,h5,h6,h7,h8,h9,h10,_⟩:=h
  have hf:∀b∈g.fo,b∈blk α R r:=fun b hb=>anZ _ (h9 b hb)
  exact ⟨fun b hb=>.inr ⟨h2,r,R,_,h3.wb,h3.lv,hf b (by simpa [gT,h7] using hb)⟩,fun b o hb=>by rw [h7] at hb; simp at hb,fun b hb _=>⟨r,R,_,h3.wb,h3.lv,h9 b hb⟩,by simp [h2,h3.wb]⟩
 | rw k ow wt ht=>
  obtain ⟨h1,h2,r,R,q,b,o,h3,h4,h5,h6,h7,h8,h9,h10,h11,_⟩:=h
  have hf:∀b∈g.fo,b∈blk α R r:=fun b hb=>anZ _ (h9 b hb)
  obtain ⟨m1,_,m2,⟨arr,e,lo,hi,m3,m4,m5,m6⟩,_⟩:=qd H h3.lv h3.vl h3.get h3.pin h3.own h5
  refine ⟨fun b' hb=>?_,fun b' o' hb=>?_,fun b hb _=>⟨r,R,_,h3.wb,h3.lv,h9 b hb⟩,by simp [h2,h3.wb]⟩
  ·refine .inr ⟨h2,r,R,_,h3.wb,h3.lv, ?_⟩
   simp only [gT,h7,List.cons_append,List.nil_append,an9] at hb
   rcases hb with hb | hb
   ·subst hb; exact m2
   ·exact hf b' hb
  ·rw [h7] at hb
   simp only [anX,an8] at hb
   obtain ⟨rfl,rfl⟩:=hb
   refine ⟨r,R,_,arr,e,lo,hi,h3.wb,h3.lv,m2,m3,m4,m5,m1, ?_⟩
   rcases m6 with ⟨m6,m7⟩ | ⟨m6,_⟩
   ·exact .inl ⟨fun t ht=>by rw [h4] at ht; simp only [aog] at ht; rw [ht,m6],by rw [h4]; simp,m7⟩
   ·exact .inr m6
 | into j q=>
  obtain ⟨h1,h2,h3,h4,h5,_⟩:=h
  exact ⟨fun b hb=>by simp [gT,h4,h5] at hb,fun b o hb=>by rw [h5] at hb; simp at hb,fun b hb=>by rw [h4] at hb; simp at hb,by simp [h2,h3]⟩
end
end
section
open Go
variable [Fr]
section
variable {P:Program} {T:iV} {cx:Cx} {σ:St} {α:dL} {F:List Nat} {a:Act} {w:World} {ps:List dF} {c:Cont (kin ps)} {vs:List Value} {is:List cK} {gs:List GA}
theorem jd {j:Nat} {g:GA} (h:gs[j]?=some g):(jv gs).loc (ay j)=g.base.getD (0,0)∧(jv gs).hdr (ay j)=g.cs∧(jv gs).fo (ay j)=g.fo:=by
 simp [jv,QB,h]
theorem RD.blk {j:Nat} {R:Root} {g:GA} {i:cK} {p:dF} (D:RD cx σ α F w ps vs is gs j R g i p):blk (jv gs) R (ay j)=gT g:=by
 obtain ⟨h1,h2,h3⟩:=jd D.hg
 unfold Ow.blk gT dU
 rw [h1,h3]
 rcases D.kind with ⟨hk,_,_,b,o,hb,_⟩ | ⟨hk,hb,_⟩
 ·rw [hk,hb]; rfl
 ·rw [hk,hb]
theorem RD.wh {j:Nat} {R:Root} {g:GA} {i:cK} {p:dF} (D:RD cx σ α F w ps vs is gs j R g i p):dU (jv gs) R (ay j)=g.base:=by
 obtain ⟨h1,h2,h3⟩:=jd D.hg
 unfold dU
 rw [h1]
 rcases D.kind with ⟨hk,_,_,b,o,hb,_⟩ | ⟨hk,hb,_⟩
 ·rw [hk,hb]; rfl
 ·rw [hk,hb]
theorem RD.live {j:Nat} {R:Root} {g:GA} {i:cK} {p:dF} (D:RD cx σ α F w ps vs is gs j R g i p):R.aX=false:=by
 unfold Root.aX
 rcases D.kind with ⟨hk,_⟩ | ⟨hk,_⟩ <;> rw [hk]
theorem aay (H:Rel cx σ α F a w) (hJ:Zn cx σ α F a w ps c vs is gs) (hA:Apart cx σ α F w ps is gs):Rel (dJ cx σ α F w ps c is gs) (bV ps c) (jv gs) [] ⟨vs.toArray,[]⟩ w:=by
 obtain ⟨lv,li,lg,hat⟩:=hJ.at (i0:=0)
 simp only [Nat.zero_add] at hat
 have hroot:∀{r:Nat} {R:Root},(bV ps c).roots r=some R→∃j g i p,r=ay j∧RD cx σ α F w ps vs is gs j R g i p:=by
  intro r R h
  obtain ⟨j,p,h1,h2⟩:=VV (show gK (gI ps 0 c) r=some R from h)
  simp only [Nat.zero_add] at h1
  subst h1
  obtain ⟨cj,v,i,g,e1,e2,e3,e4,e5,e6⟩:=hat j p h2
  have hR:dO p j cj=some R:=by rw [←e6]; exact h
  exact ⟨j,g,i,p,rfl,BU e4 e3 e2 h2 e1 hR⟩
 have adp:∀{j:Nat} {R:Root},(bV ps c).roots (ay j)=some R→∃g i p,RD cx σ α F w ps vs is gs j R g i p:=by
  intro j R h
  obtain ⟨j',g,i,p,h1,h2⟩:=hroot h
  have:=QC h1
  subst this
  exact ⟨g,i,p,h2⟩
 have hmk:∀{j:Nat} {g:GA},gs[j]?=some g→(g.ow=true∨g.wb=true)→∃R i p,(bV ps c).roots (ay j)=some R∧RD cx σ α F w ps vs is gs j R g i p:=by
  intro j g hg hh
  have hj:j<ps.length:=by have:=(List.getElem?_eq_some_iff.1 hg).1; omega
  obtain ⟨cj,v,i,g',e1,e2,e3,e4,e5,e6⟩:=hat j ps[j] (aob hj)
  rw [hg] at e3
  simp only [anX] at e3
  subst e3
  obtain ⟨R,hR⟩:=BS j e4 hh
  have hr:(bV ps c).roots (ay j)=some R:=by show gK (gI ps 0 c) (ay j)=some R; rw [e6,hR]
  exact ⟨R,i,ps[j],hr,BU e4 hg e2 (aob hj) e1 hR⟩
 have hgj:∀{j:Nat} {g:GA},gs[j]?=some g→∃p cj v i,ps[j]?=some p∧vs[j]?=some v∧is[j]?=some i∧Ww cx σ α F a w p cj v i g:=by
  intro j g hg
  have hj:j<ps.length:=by have:=(List.getElem?_eq_some_iff.1 hg).1; omega
  obtain ⟨cj,v,i,g',e1,e2,e3,e4,_⟩:=hat j ps[j] (aob hj)
  rw [hg] at e3
  simp only [anX] at e3
  subst e3
  exact ⟨ps[j],cj,v,i,aob hj,e1,e2,e4⟩
 have Ki:∀{j:Nat} {g:GA} {b:Nat},gs[j]?=some g→b∈gT g→(g.ow=true∧b∈F)∨(g.wb=true∧∃i r R q,is[j]?=some i∧i.wb=some (r,q)∧aP σ r R∧b∈blk α R r):=by
  intro j g b hg hb
  obtain ⟨p,cj,v,i,e1,e2,e3,e4⟩:=hgj hg
  rcases (nS H e4).1 b hb with h | ⟨h,r,R,q,h1⟩
  ·exact .inl h
  ·exact .inr ⟨h,i,r,R,q,e3,h1⟩
 have hmn:∀{j:Nat} {g:GA} {b:Nat},gs[j]?=some g→b∈gT g→mine cx w b:=by
  intro j g b hg hb
  rcases Ki hg hb with ⟨_,h⟩ | ⟨_,i,r,R,q,_,_,h1,h2⟩
  ·exact H.fl b h
  ·exact (H.roots r R h1).mine b h2
 have hlt:∀{j:Nat} {g:GA} {b:Nat},gs[j]?=some g→b∈gT g→b<w.heap.size:=fun hg hb=>(hmn hg hb).1
 have X8:∀{j:Nat} {g:GA} {b:Nat},gs[j]?=some g→g.ow=true→b∈gT g→b∈g.fo:=by
  intro j g b hg ho hb
  obtain ⟨p,cj,v,i,e1,e2,e3,e4⟩:=hgj hg
  unfold gT at hb
  cases hbase:g.base with
  | none=>rw [hbase] at hb; simpa using hb
  | some q=>
   exfalso
   obtain ⟨q1,q2⟩:=q
   obtain ⟨r,R,q,_,_,_,_,h1,_⟩:=(nS H e4).2.1 q1 q2 hbase
   have hw:g.wb=true:=(nS H e4).2.2.2.2 (by rw [h1]; simp)
   obtain ⟨_,h⟩:=e4
   cases p <;> first | (obtain ⟨g1,g2,_⟩:=h; rw [ho] at g1; simp at g1; done) | (obtain ⟨g1,g2,_⟩:=h; rw [hw] at g2; simp at g2; done) | exact h.elim
 have agj:∀{j j':Nat} {g g':GA} {b:Nat},gs[j]?=some g→gs[j']?=some g'→j≠j'→b∈gT g→b∉gT g':=by
  intro j j' g g' b hg hg' hne hb hb'
  rcases Ki hg hb with ⟨ho,h⟩ | ⟨hw,i,r,R,q,_,_,h1,h2⟩
  ·rcases Ki hg' hb' with ⟨ho',h'⟩ | ⟨_,i',r',R',q',_,_,h1',h2'⟩
   ·refine flatMap_apart hA.own hg hg' hne b ?_ ?_
    ·rw [ho]; exact X8 hg ho hb
    ·rw [ho']; exact X8 hg' ho' hb'
   ·exact H.iX r' R' h1' b h2' h
  ·rcases Ki hg' hb' with ⟨_,h'⟩ | ⟨hw',_⟩
   ·exact H.iX r R h1 b h2 h'
   ·exact hne (hA.one j j' g g' hg hg' hw hw')
 have hnd:∀{j:Nat} {R:Root} {g:GA} {i:cK} {p:dF},RD cx σ α F w ps vs is gs j R g i p→(gT g).Nodup:=by
  intro j R g i p D
  unfold gT
  rcases D.kind with ⟨_,_,_,b,o,hb,hno⟩ | ⟨_,hb,_⟩
  ·rw [hb]; exact aou.2 ⟨hno,D.nd⟩
  ·rw [hb]; exact D.nd
 have Og:∀{j m:Nat} {i:cK} {p:dF} {g:GA} {b:Nat},is[j]?=some i→ps[j]?=some p→KL σ α F w i.ids b→gs[m]?=some g→b∈gT g→m∈KO p∧(∃k iA,p=.val k iA∧∀i',is[m]?=some i'→∀t∈i'.bt,t∉k.tys):=by
  intro j m i p g b hi hp hb hg hbf
  rcases Ki hg hbf with ⟨_,h⟩ | ⟨_,i',r,R,q,h0,h1,h2,h3⟩
  ·exact absurd h hb.2.1
  ·obtain ⟨n,hn⟩:=hb.2.2 r R h2 h3
   obtain ⟨g1,k,iA,g2,g3⟩:=hA.iA j p i r n hp hi hn m i' q h0 h1
   refine ⟨g1,k,iA,g2,fun i'' h=>?_⟩
   rw [h0] at h
   simp only [anX] at h
   subst h
   exact g3
 have ac5:∀{j:Nat} {i:cK} {p:dF} {b:Nat},is[j]?=some i→ps[j]?=some p→iQ cx σ α F w i.ids b→(∀k iA,p=.val k iA→∃t∈k.tys,vU (hp w) b t)→(dJ cx σ α F w ps c is gs).ext j b:=by
  intro j i p b hi hp hb ht
  refine ⟨⟨i,hi,hb⟩,fun m g q hg hbase e=>?_⟩
  have hbf:b∈gT g:=by unfold gT; rw [hbase,e]; simp
  obtain ⟨_,k,iA,h1,h2⟩:=Og hi hp hb.q hg hbf
  obtain ⟨p',cj,v,i',e1,e2,e3,e4⟩:=hgj hg
  obtain ⟨r,R,q',arr,e',lo,hi',f1,f2,f3,f4,f5,f6,f7,f8⟩:=(nS H e4).2.1 q.1 q.2 (by rw [hbase])
  rcases f8 with ⟨f8,f9,f10⟩ | f8
  ·obtain ⟨t,ht1,ht2⟩:=ht k iA h1
   have ht2:=H.Tt (hmn hg hbf) ht2
   rw [e] at ht2
   unfold qQ at ht2
   rw [f4] at ht2
   simp only [anX] at ht2
   cases hbt:i'.bt with
   | nil=>exact f9 hbt
   | cons t0 l=>
    have hm:t0∈i'.bt:=by rw [hbt]; simp
    exact h2 i' e3 t0 hm (by rw [f8 t0 hm,ht2]; exact ht1)
  ·exact hb.2.2.1 (e▸f8)
 have adn:∀{j:Nat} {i:cK} {p:dF} {b:Nat} {T:List Tag},is[j]?=some i→ps[j]?=some p→(dJ cx σ α F w ps c is gs).ext j b→(pV j,0)∈T→(∀n∈KO p,(ay n,0)∈T)→iQ (dJ cx σ α F w ps c is gs) (bV ps c) (jv gs) [] w T b:=by
  intro j i p b T hi hp hb ht hpr
  obtain ⟨⟨i',hi',hok⟩,hno⟩:=hb
  rw [hi] at hi'
  simp only [anX] at hi'
  subst hi'
  refine ⟨hok.1,by simp, ?_,fun r R hr hbr=>?_,fun _=>.inl ⟨j,0,ht,⟨i,hi,hok⟩,hno⟩⟩
  ·rintro ⟨m,pi,o,n,h1,h2⟩
   simp only [dJ] at h1
   cases hgm:gs[m]? with
   | none=>rw [hgm] at h1; simp at h1
   | some g=>
    cases hpm:ps[m]? with
    | none=>rw [hgm,hpm] at h1; simp at h1
    | some pm=>
     rw [hgm,hpm] at h1
     simp only at h1
     cases hh:(g.ow || g.wb) with
     | false=>rw [hh] at h1; simp at h1
     | true=>
      rw [hh] at h1
      simp only [cond_true,anX] at h1
      subst h1
      simp only at h2
      cases hbase:g.base with
      | none=>rw [hbase] at h2; simp at h2
      | some q=>
       rw [hbase] at h2
       simp only [Option.map_some,anX,an8] at h2
       exact hno m g q hgm hbase h2.1.symm
  ·obtain ⟨m,g,im,pm,h1,D⟩:=hroot hr.1
   subst h1
   rw [D.blk] at hbr
   exact ⟨0,hpr m (Og hi hp hok.q D.hg hbr).1⟩
 have ak2:∀{j:Nat} {i:cK} {p:dF} {b:Nat},is[j]?=some i→ps[j]?=some p→(∀k iA,p≠.val k iA)→KL σ α F w i.ids b→KL (bV ps c) (jv gs) [] w [(pV j,0)] b:=by
  intro j i p b hi hp hnv hb
  refine ⟨hb.1,by simp,fun r R hr hbr=>?_⟩
  obtain ⟨m,g,im,pm,h1,D⟩:=hroot hr.1
  subst h1
  rw [D.blk] at hbr
  obtain ⟨_,k,iA,h2,_⟩:=Og hi hp hb D.hg hbr
  exact absurd h2 (hnv k iA)
 have hpar:∀{j:Nat} {pi:UN},(dJ cx σ α F w ps c is gs).par j=some pi→∃g p,gs[j]?=some g∧ps[j]?=some p∧(g.ow=true∨g.wb=true)∧pi=⟨g.base.map fun q=>(q.1,q.2,wO p),gT g,g.wb⟩:=by
  intro j pi h1
  simp only [dJ] at h1
  cases hgm:gs[j]? with
  | none=>rw [hgm] at h1; simp at h1
  | some g=>
   cases hpm:ps[j]? with
   | none=>rw [hgm,hpm] at h1; simp at h1
   | some pm=>
    rw [hgm,hpm] at h1
    simp only at h1
    cases hh:(g.ow || g.wb) with
    | false=>rw [hh] at h1; simp at h1
    | true=>
     rw [hh] at h1
     simp only [cond_true,anX] at h1
     exact ⟨g,pm,rfl,rfl,by simpa using hh,h1.symm⟩
 have abx:∀{j:Nat} {R:Root} {g:GA} {i:cK} {p:dF},RD cx σ α F w ps vs is gs j R g i p→(dJ cx σ α F w ps c is gs).par j=some ⟨g.base.map fun q=>(q.1,q.2,wO p),gT g,g.wb⟩:=by
  intro j R g i p D
  simp only [dJ]
  rw [D.hg,D.hq]
  have:(g.ow || g.wb)=true:=by simpa using D.held
  simp only [this,cond_true]
 have hsame:∀{j:Nat} {R R':Root},(bV ps c).roots (ay j)=some R→(bV ps c).roots (ay j)=some R'→R'=R:=fun h1 h2=>by rw [h1] at h2; simpa using h2.symm
 have XP:∀{j:Nat} {g:GA} {p:dF} {b o:Nat},gs[j]?=some g→ps[j]?=some p→g.base=some (b,o)→∃arr e lo hi,hp w b=some (.cells arr e (lo,hi))∧(∀i,i<arr.size→¬(lo≤i∧i<hi))∧o+wO p≤arr.size∧Cells (hp w) b o g.cs:=by
  intro j g p b o hg hp hb
  obtain ⟨p',cj,v,i,e1,e2,e3,e4⟩:=hgj hg
  rw [hp] at e1
  simp only [anX] at e1
  subst e1
  obtain ⟨r,R,q',arr,e',lo,hi',f1,f2,f3,f4,f5,f6,f7,f8⟩:=(nS H e4).2.1 b o hb
  exact ⟨arr,e',lo,hi',f4,f5,f6,f7⟩
 have abA:∀s,iT (dJ cx σ α F w ps c is gs) (bV ps c) (jv gs) [] w ((bV ps c).slots s) (vs.toArray.getD s undef)∧xS (bV ps c) ((bV ps c).slots s):=by
  intro s
  rcases GZ ps 0 c s with h | ⟨j,p,cj0,hj,hps,hs0⟩
  ·have:(bV ps c).slots s=.one .undef:=h
   rw [this]
   exact ⟨trivial,trivial⟩
  ·simp only [Nat.zero_add] at hj
   subst hj
   obtain ⟨cj,v,i,g,e1,e2,e3,e4,e5,e6⟩:=hat s p hps
   have hsl:(bV ps c).slots s=.one (Bd p s cj):=e5
   have hvs:vs.toArray.getD s undef=v:=by
    rw [Array.getD_eq_getD_getElem?]
    simp [e1]
   rw [hsl,hvs]
   have hro:∀{k:K} {x:El k} {v:Value} {b o:Nat} {cs:List Value},(∀k iA,p≠.val k iA)→v=.pointer (some ⟨b,o,none⟩)→Cells (hp w) b o cs→Vw (hp w) (iQ cx σ α F w i.ids) k x cs→KL σ α F w i.ids b→KO p=[]→
     KU (dJ cx σ α F w ps c is gs) (bV ps c) (jv gs) [] w SENT k x [(pV s,0)] v:=by
    intro k x v b o cs hnv hv hC hV hq hpr
    refine ⟨⟨b,o,hv⟩,fun _=>⟨b,o,cs,hv,hC,gy (fun _ _=>rfl) (fun b hb=>?_) hV,ak2 e2 hps hnv hq, .inl ⟨rfl,fun t ht=>by simp only [aog] at ht; subst ht; exact iN s⟩⟩⟩
    exact adn e2 hps (ac5 e2 hps hb (fun k iA h=>absurd h (hnv k iA))) (by simp) (by rw [hpr]; simp)
   have Yb:∀{R:Root},dO p s cj=some R→rR (bV ps c) (.ref (ay s) 0)∧rR (bV ps c) (.ptr (ay s) [] 0):=by
    intro R hR
    have hr:(bV ps c).roots (ay s)=some R:=by show gK (gI ps 0 c) (ay s)=some R; rw [e6,hR]
    exact ⟨⟨R,hr, .inr (aov _)⟩,⟨R,hr, .inr (aov _)⟩⟩
   have abn:eZ (bV ps c) [(pV s,0)]:=fun t ht=>by simp only [aog] at ht; subst ht; exact .inl (iN s)
   have Cn:∀{R:Root},dO p s cj=some R→R.kind=.anon→bI (dJ cx σ α F w ps c is gs) (bV ps c) (jv gs) [] w (.ref (ay s) 0) v:=by
    intro R hR hk Q hQ _
    have hr:(bV ps c).roots (ay s)=some R:=by show gK (gI ps 0 c) (ay s)=some R; rw [e6,hR]
    have D:=BU e4 e3 e2 hps e1 hR
    have hQR:=hsame hr hQ.1
    subst hQR
    rcases D.kind with ⟨hk',_⟩ | ⟨_,_,hV⟩
    ·rw [hk] at hk'; simp at hk'
    ·refine ⟨hk, ?_⟩
     rw [(jd D.hg).2.1, ←e4.1]
     exact hV
   cases p with
   | val k iA=>
    obtain ⟨h0,h1,h2,h3,h4,h5,h6,h7⟩:=e4
    refine ⟨fun hc=>⟨g.cs,h6, ?_⟩, ?_⟩
    ·cases hf:k.flat with
     | true=>exact iy hf h7
     | false=>
      rw [show (Bd (.val k iA) s cj)=.val k cj.1 ((pV s,0) :: iA.map fun j=>(ay j,0)) by simp [Bd,hf]] at *
      refine gy (fun _ _=>rfl) (fun b hb=>?_) (Jj k.tys (fun _ h=>h) h7)
      refine adn e2 hps (ac5 e2 hps hb.1 (fun k' anu h=>by simp only [dF.val.injEq] at h; obtain ⟨rfl,_⟩:=h; exact hb.2)) (by simp) (fun n hn=>by exact aol _ (aox.2 ⟨n,hn,rfl⟩))
    ·intro t ht
     cases hf:k.flat with
     | true=>simp [Bd,hf] at ht
     | false=>
      simp only [Bd,hf,cond_false,an9,aox] at ht
      rcases ht with ht | ⟨m,hm,ht⟩
      ·subst ht; exact .inl (iN s)
      ·subst ht
       obtain ⟨i',q,f1,f2⟩:=hA.prw s _ hps m hm
       have hm':m<gs.length:=by have:=(List.getElem?_eq_some_iff.1 f1).1; omega
       obtain ⟨p',cj',v',i'',k1,k2,k3,k4⟩:=hgj (aob hm')
       rw [f1] at k3
       simp only [anX] at k3
       subst k3
       obtain ⟨R,_,_,hR,_⟩:=hmk (aob hm') (.inr ((nS H k4).2.2.2.2 (by rw [f2]; simp)))
       exact .inr ⟨R,hR, .inr (aov _)⟩
   | ro k=>
    obtain ⟨h0,h1,h2,h3,h4,h5,b,o,h6,h7,h8,h9⟩:=e4
    exact ⟨hro (by simp) h6 h7 h8 h9 rfl,abn⟩
   | rw k ow wt ht=>
    obtain ⟨R,hR⟩:=BS s e4 (.inr e4.2.2.1)
    have hr:(bV ps c).roots (ay s)=some R:=by show gK (gI ps 0 c) (ay s)=some R; rw [e6,hR]
    have D:=BU e4 e3 e2 hps e1 hR
    obtain ⟨h0,h1,h2,r,R0,q,b,o,h3,h4,h5,h6,h7,_⟩:=e4
    refine ⟨⟨⟨b,o,h6⟩,fun Q hQ _ _ _ _=>⟨trivial,g.cs,b,o, ?_,h6⟩⟩,(Yb hR).2⟩
    have hQR:=hsame hr hQ
    subst hQR
    simp only [bG]
    rw [D.wh,h7,(jd D.hg).2.1]
   | jC k ow wt=>
    obtain ⟨R,hR⟩:=BS s e4 (.inr e4.2.2.1)
    exact ⟨Cn hR (by simp only [dO,anX] at hR; subst hR; rfl),(Yb hR).1⟩
   | own k ow=>
    obtain ⟨R,hR⟩:=BS s e4 (.inl e4.2.1)
    exact ⟨Cn hR (by simp only [dO,anX] at hR; subst hR; rfl),(Yb hR).1⟩
   | fn f ks=>
    obtain ⟨h0,h1,h2,h3,h4,h5,us,h6,h7⟩:=e4
    have agd:∀(ks:List K) (c0:Cont ks) (us:List Value),Ww.TA cx σ α F w ks c0 us i.ids→kG (dJ cx σ α F w ps c is gs) (bV ps c) (jv gs) [] w (eP.zn s ks c0) us:=by
     intro ks
     induction ks with
     | nil=>intro c0 us h; cases us with
      | nil=>exact trivial
      | cons _ _=>exact h.elim
     | cons k ks ih=>intro c0 us h; cases us with
      | nil=>exact h.elim
      | cons u us=>
       obtain ⟨⟨b,o,cs,g1,g2,g3,g4⟩,g5⟩:=h
       exact ⟨hro (by simp) g1 g2 g3 g4 rfl,ih c0.2 us g5⟩
    have ac2:∀(ks:List K) (c0:Cont ks),∀q∈eP.zn s ks c0,eZ (bV ps c) q.2.2:=by
     intro ks
     induction ks with
     | nil=>intro c0 q hq; simp [eP.zn] at hq
     | cons k ks ih=>
      intro c0 q hq
      rcases an9.1 hq with h | h
      ·subst h; exact abn
      ·exact ih c0.2 q h
    exact ⟨⟨us,h6,agd ks cj us h7⟩,ac2 ks cj⟩
   | into j q=>
    obtain ⟨h0,h1,h2,h3,h4,h5,b,h6⟩:=e4
    exact ⟨⟨b,h6⟩,trivial⟩
 constructor
 ·rfl
 ·exact aov _
 ·intro j pi b o n hj hb
  obtain ⟨g,p,hg,hp,hh,rfl⟩:=hpar hj
  obtain ⟨R,i,p',hr,D⟩:=hmk hg hh
  have:p'=p:=by have:=D.hq; rw [hp] at this; simpa using this.symm
  subst this
  simp only at hb
  cases hbase:g.base with
  | none=>rw [hbase] at hb; simp at hb
  | some q=>
   rw [hbase] at hb
   simp only [Option.map_some,anX,an8] at hb
   obtain ⟨rfl,rfl,rfl⟩:=hb
   rcases D.kind with ⟨hk,hs,_⟩ | ⟨_,hn,_⟩
   ·refine ⟨R,⟨hr,D.live⟩,hk, ?_,hs.symm⟩
    rw [(jd hg).1,hbase]
    rfl
   ·rw [hbase] at hn; simp at hn
 ·intro r R hr hk
  obtain ⟨j,g,i,p,rfl,D⟩:=hroot hr.1
  rcases D.kind with ⟨_,hs,_,b,o,hb,_⟩ | ⟨hk',_⟩
  ·refine ⟨j,_,wO p,rfl,abx D, ?_⟩
   rw [(jd D.hg).1,hb]
   rfl
  ·rw [hk] at hk'; simp at hk'
 ·exact fun s=>(abA s).1
 ·exact fun s=>(abA s).2
 ·intro r R hr
  obtain ⟨j,g,i,p,rfl,D⟩:=hroot hr.1
  obtain ⟨a1,a2,a3⟩:=jd D.hg
  refine ⟨fun _=>?_,by rw [a2]; exact dh D.ow,fun b o hb=>?_,by rw [D.blk]; exact hnd D,fun b hb=>?_⟩
  ·rw [a2,a3]
   have uC:=D.tags
   cases hall:(R.k.tys.all fun t=>az t R.own) with
   | true=>exact gH (dA (ku hall)) D.ow
   | false=>
    rw [hall] at uC
    refine bz (fun _ _=>rfl) (fun b hb=>?_) (fun _ _=>rfl) D.ow
    exact adn D.hi D.hq (ac5 D.hi D.hq hb (fun k iA h=>absurd h (D.aln k iA))) (by rw [uC]; simp) (by rw [D.iA]; simp)
  ·rw [D.wh] at hb
   obtain ⟨arr,e,lo,hi,m1,m2,m3,m4⟩:=XP D.hg D.hq hb
   rw [a2]
   rcases D.kind with ⟨hk,hs,_⟩ | ⟨_,hn,_⟩
   ·exact ⟨m4,arr,e,lo,hi,m1,m2,by rw [←hs]; exact m3,fun t ht=>by rw [hk] at ht; simp at ht⟩
   ·rw [hb] at hn; simp at hn
  ·rw [D.blk] at hb
   exact ⟨hlt D.hg hb, .inr ⟨j,_,abx D,hb⟩⟩
 ·intro r R hr
  obtain ⟨j,g,i,p,rfl,D⟩:=hroot hr
  have uC:=D.tags
  refine ⟨fun t ht=>?_,oK j,fun n hn=>?_⟩
  ·rw [uC] at ht
   cases hall:(R.k.tys.all fun t=>az t R.own) with
   | true=>rw [hall] at ht; simp at ht
   | false=>rw [hall] at ht; simp only [cond_false,aog] at ht; subst ht; exact .inl (iN j)
  ·rw [uC] at hn
   cases hall:(R.k.tys.all fun t=>az t R.own) with
   | true=>rw [hall] at hn; simp at hn
   | false=>rw [hall] at hn; simp only [cond_false,aog,an8] at hn; unfold ay pV at hn; omega
 ·intro r R r' R' hr hr' hne b hb
  obtain ⟨j,g,i,p,rfl,D⟩:=hroot hr.1
  obtain ⟨j',g',i',p',rfl,D'⟩:=hroot hr'.1
  rw [D.blk] at hb
  rw [D'.blk]
  exact agj D.hg D'.hg (fun e=>hne (by rw [e])) hb
 ·intro b hb; simp at hb
 ·exact List.nodup_nil
 ·intro r R _ b _ h; simp at h
 ·refine ⟨rfl,rfl,rfl,aod _,fun _ _ _=>rfl,fun j pi b o n hj hb=>?_⟩
  obtain ⟨g,p,hg,hp,hh,rfl⟩:=hpar hj
  simp only at hb
  cases hbase:g.base with
  | none=>rw [hbase] at hb; simp at hb
  | some q=>
   rw [hbase] at hb
   simp only [Option.map_some,anX,an8] at hb
   obtain ⟨rfl,rfl,rfl⟩:=hb
   obtain ⟨arr,e,lo,hi,m1,_⟩:=XP hg hp (b:=q.1) (o:=q.2) (by rw [hbase])
   exact gQ.of_same _ _ m1 rfl
 ·intro j pi hj hk
  obtain ⟨g,p,hg,hp,hh,rfl⟩:=hpar hj
  obtain ⟨R,i,p',hr,D⟩:=hmk hg hh
  refine ⟨R,hr,fun _ b hb _=>.inr ⟨rfl,by simp,fun q Q hq hbq=>?_⟩⟩
  obtain ⟨j',g',i',p'',rfl,D'⟩:=hroot hq.1
  rw [D'.blk] at hbq
  by_cases e:j'=j
  ·rw [e]
  ·exact absurd hb (agj D'.hg hg e hbq)
 ·refine ⟨fun j pi hj b hb=>?_,fun b hb=>⟨?_,fun j pi hj hbl=>?_⟩,fun b hb=>H.fixed hb⟩
  ·obtain ⟨g,p,hg,hp,hh,rfl⟩:=hpar hj
   exact hlt hg hb
  ·exact Nat.lt_of_lt_of_le (H.oP.2.1 b hb).1 H.frame.2.2.2.1
  ·obtain ⟨g,p,hg,hp,hh,rfl⟩:=hpar hj
   exact H.Ul (hmn hg hbl) hb
 ·intro j q ts v hv
  obtain ⟨g,R0,c0,b,o,h1,h2,h3,h4,h5,h6,h7,h8⟩:=hv
  refine ⟨⟨b,o,h8⟩,R0,h3,fun _=>⟨⟨b,o,h8⟩,fun Q hQ _ _ _ _=>?_⟩⟩
  have hQR:=hsame (show (bV ps c).roots (ay j)=some R0 from h3) hQ
  subst hQR
  obtain ⟨g',i',p',D⟩:=adp hQ
  have:g'=g:=by have:=D.hg; rw [h1] at this; simpa using this.symm
  subst this
  refine ⟨h6,c0,b,o, ?_,h8⟩
  rw [D.wh,(jd D.hg).2.1]
  exact h7
 ·intro j v hv
  obtain ⟨g,h1,h2,h3,h4⟩:=hv
  obtain ⟨R,i,p,hr,D⟩:=hmk h1 (.inr h4)
  refine ⟨⟨R,hr⟩,fun Q hQ _=>?_⟩
  have hQR:=hsame hr hQ.1
  subst hQR
  rcases D.kind with ⟨_,_,_,b,o,hb,_⟩ | ⟨hk,_,hV⟩
  ·rw [h3] at hb; simp at hb
  ·refine ⟨hk, ?_⟩
   rw [(jd D.hg).2.1, ←h2]
   exact hV
end
end
section
open Go
variable [Fr]
def Jg (cx:Cx) (σ:St) (α:dL) (F:List Nat) (w:World):(rs:List kJ)→Cont (gZ rs)→List Value→List (List Nat)→Prop
 | [],_,[],[]=>True
 | .val k exts iA :: rs,c,v :: vs,fo :: bD=>(fo=[]∧∃T cs,(k.flat=true∨qD exts iA T=true)∧VC k v cs∧Vw (hp w) (iQ cx σ α F w T) k c.1 cs)∧Jg cx σ α F w rs c.2 vs bD
 | .own k ow exts iA :: rs,c,v :: vs,fo :: bD=>(∃T cs own,((k.tys.all fun t=>az t ow)=true∨qD exts iA T=true)∧(∀t∈k.tys,az t ow=true→az t own=true)∧VC k v cs∧Ow (hp w) own (iQ cx σ α F w T) k c.1 cs fo)∧Jg cx σ α F w rs c.2 vs bD
 | .ptr t k ow exts :: rs,c,v :: vs,fo :: bD=>(∃b o T cs own dH,v=.pointer (some ⟨b,o,none⟩)∧fo=b :: dH∧((k.tys.all fun t=>az t ow)=true∨qD exts [] T=true)∧(∀t∈k.tys,az t ow=true→az t own=true)∧
   (Cells (hp w) b o cs∧∃arr e lo hi,hp w b=some (.cells arr e (lo,hi))∧(∀i,i<arr.size→¬(lo≤i∧i<hi))∧o+k.size≤arr.size∧e=t)∧Ow (hp w) own (iQ cx σ α F w T) k c.1 cs dH)∧Jg cx σ α F w rs c.2 vs bD
 | .into j p :: rs,c,v :: vs,fo :: bD=>(fo=[]∧p=[]∧∃b n cp,v=.slice b (show Int from c.1).toNat cp∧(show Int from c.1).toNat≤n∧bI cx σ α F w (.ref (ay j) 0) (.slice b n cp))∧Jg cx σ α F w rs c.2 vs bD
 | _,_,_,_=>False
def TD (σ:St) (k:K) (x:El k) (ow wt ht:List TypeId) (j:Nat):Prop:=
 ∃R,σ.roots (ay j)=some R∧bu σ R∧(∃e:R.k=k,x=e▸R.x)∧oO k R.own ow=true∧CE R (some (wt,ht))=true∧((k.tys.all fun t=>az t ow)=true∨qD [j] [] R.tags=true)
def DZ (σ:St):(ps:List dF)→Nat→Cont (jL ps)→Prop
 | [],_,_=>True
 | .rw k ow wt ht :: ps,j,c=>TD σ k c.1 ow wt ht j∧DZ σ ps (j+1) c.2
 | .jC k ow wt :: ps,j,c=>TD σ k c.1 ow wt k.tys j∧DZ σ ps (j+1) c.2
 | .val _ _ :: ps,j,c=>DZ σ ps (j+1) c
 | .ro _ :: ps,j,c=>DZ σ ps (j+1) c
 | .own _ _ :: ps,j,c=>DZ σ ps (j+1) c
 | .fn _ _ :: ps,j,c=>DZ σ ps (j+1) c
 | .into _ _ :: ps,j,c=>DZ σ ps (j+1) c
def Zh:List Value→Value
 | [v]=>v
 | vs=>.tuple vs.toArray
def Post (cx:Cx) (ps:List dF) (rs:List kJ) (out:Cont (gZ rs++jL ps)) (v:Value) (w':World):Prop:=
 ∃σ α F a vs bD,Rel cx σ α F a w'∧v=Zh vs∧Jg cx σ α F w' rs (Cont.fst _ _ out) vs bD∧bD.flatten.Nodup∧(∀b∈bD.flatten,b∈F)∧DZ σ ps 0 (Cont.snd _ _ out)
def Fe (P:Program) (f:FuncId) (args:Array Value) (w:World) (R:Value→World→Prop):Prop:=
 ((callFunc f args).run P w=.ok (.enter f args) w∧Calls P f args w fun e w'=>∃v,e=.returned v∧R v w')∨∃v w',(callFunc f args).run P w=.ok (.value v) w'∧R v w'
def xR (ps:List dF) (j:Nat) (k:K):Prop:=∃ow wt ht,ps[j]?=some (.rw k ow wt ht)∨ps[j]?=some (.jC k ow wt)
structure FK (cx:Cx) (ps:List dF):Prop where
 par:∀j pi,cx.par j=some pi→pi.kp=true→∃k,xR ps j k
 ptr:∀j p ts v,cx.ptrs j p ts v→∃k,xR ps j k∧ts=dY p k
 ref:∀j v,cx.refs j v→∃k,xR ps j k
def aj (P:Program) (n:Nat) (E:Entry):Prop:=
 ∀(c:Cont (kin E.ps)) (out:Cont (gZ E.rs++jL E.ps)),E.F n c=some out→∀(cx:Cx) (α:dL) (args:Array Value) (w:World),cx.nt=0→cx.w0=w→args.size=E.ps.length→FK cx E.ps→
  Rel cx (bV E.ps c) α [] ⟨args,[]⟩ w→Fe P E.f args w (Post cx E.ps E.rs out)
section
variable {P:Program} {T:iV} {cx:Cx} {σ:St} {α:dL} {F:List Nat} {a:Act} {w w':World} {ps:List dF} {c:Cont (kin ps)} {vs:List Value} {is:List cK} {gs:List GA}
structure CL (σ:St) (α:dL) (is:List cK) (gs:List GA) (Dz:St) (zV:dL) (Ff:List Nat) (σ':St) (α':dL) (F':List Nat):Prop where
 blk:∀q Q b,aP σ' q Q→b∈blk α' Q q→b∈Ff∨(∃Q0,aP σ q Q0∧b∈Ow.blk α Q0 q∧∀(m:Nat) (g:GA),gs[m]?=some g→b∉g.fo)∨
  ∃(m:Nat) (i:cK) (R:Root) (u:List Stp×List TypeId×List TypeId),is[m]?=some i∧i.wb=some (q,u)∧aP Dz (ay m) R∧b∈Ow.blk zV R (ay m)
 F:∀b∈F',b∈Ff
theorem sW (H:Rel cx σ α F a w) (hJ:Zn cx σ α F a w ps c vs is gs) {j:Nat} {pi:UN} (h:(dJ cx σ α F w ps c is gs).par j=some pi):∃g p cj v i,gs[j]?=some g∧ps[j]?=some p∧is[j]?=some i∧Ww cx σ α F a w p cj v i g∧(g.ow=true∨g.wb=true)∧pi=⟨g.base.map fun q=>(q.1,q.2,wO p),gT g,g.wb⟩:=by
 obtain ⟨lv,li,lg,hat⟩:=hJ.at (i0:=0)
 simp only [dJ] at h
 cases hgm:gs[j]? with
 | none=>rw [hgm] at h; simp at h
 | some g=>
  cases hpm:ps[j]? with
  | none=>rw [hgm,hpm] at h; simp at h
  | some pm=>
   rw [hgm,hpm] at h
   simp only at h
   cases hh:(g.ow || g.wb) with
   | false=>rw [hh] at h; simp at h
   | true=>
    rw [hh] at h
    simp only [cond_true,anX] at h
    obtain ⟨cj,v,i,g',e1,e2,e3,e4,_⟩:=hat j pm hpm
    rw [hgm] at e3
    simp only [anX] at e3
    subst e3
    exact ⟨g,pm,cj,v,i,rfl,rfl,e2,e4,by simpa using hh,h.symm⟩
theorem LZ (H:Rel cx σ α F a w) (hJ:Zn cx σ α F a w ps c vs is gs):FK (dJ cx σ α F w ps c is gs) ps:=by
 obtain ⟨lv,li,lg,hat⟩:=hJ.at (i0:=0)
 simp only [Nat.zero_add] at hat
 have TV:∀{j:Nat} {g:GA},gs[j]?=some g→g.wb=true→∃p cj,ps[j]?=some p∧gK (gI ps 0 c) (ay j)=dO p j cj∧((∃k ow wt ht,p=.rw k ow wt ht)∨∃k ow wt,p=.jC k ow wt):=by
  intro j g hg hw
  have hj:j<ps.length:=by have:=(List.getElem?_eq_some_iff.1 hg).1; omega
  obtain ⟨cj,v,i,g',e1,e2,e3,e4,e5,e6⟩:=hat j ps[j] (aob hj)
  rw [hg] at e3
  simp only [anX] at e3
  subst e3
  refine ⟨ps[j],cj,aob hj,e6, ?_⟩
  obtain ⟨k,x,ow,wt,ht,r,R,q,wh,h,_⟩:=Zl e4 hw
  rcases h with ⟨h,_⟩ | ⟨h,_⟩
  ·exact .inl ⟨k,ow,wt,ht,h⟩
  ·exact .inr ⟨k,ow,wt,h⟩
 have hk:∀{j:Nat} {g:GA},gs[j]?=some g→g.wb=true→∃k,xR ps j k∧∃R0,gK (gI ps 0 c) (ay j)=some R0∧R0.k=k:=by
  intro j g hg hw
  obtain ⟨p,cj,h1,h2,h3⟩:=TV hg hw
  rcases h3 with ⟨k,ow,wt,ht,rfl⟩ | ⟨k,ow,wt,rfl⟩
  ·exact ⟨k,⟨ow,wt,ht, .inl h1⟩,_,h2,rfl⟩
  ·exact ⟨k,⟨ow,wt,[], .inr h1⟩,_,h2,rfl⟩
 refine ⟨fun j pi hj hkp=>?_,fun j q ts v hv=>?_,fun j v hv=>?_⟩
 ·obtain ⟨g,p,cj,v,i,e1,e2,e3,e4,e5,rfl⟩:=sW H hJ hj
  obtain ⟨k,h,_⟩:=hk e1 hkp
  exact ⟨k,h⟩
 ·obtain ⟨g,R0,c0,b,o,h1,h2,h3,h4,_⟩:=hv
  obtain ⟨k,h,R1,h5,h6⟩:=hk h1 h2
  rw [h3] at h5
  simp only [anX] at h5
  subst h5
  exact ⟨k,h,by rw [h4,h6]⟩
 ·obtain ⟨g,h1,_,_,h2⟩:=hv
  obtain ⟨k,h,_⟩:=hk h1 h2
  exact ⟨k,h⟩
theorem Ov (H:Rel cx σ α F a w) (hJ:Zn cx σ α F a w ps c vs is gs) {Dz:St} {zV:dL} {Ff:List Nat} {af:Act} (Hf:Rel (dJ cx σ α F w ps c is gs) Dz zV Ff af w') {σ':St} {α':dL} {F':List Nat}
  (B:CL σ α is gs Dz zV Ff σ' α' F') {Tg U:List Tag} (hU1:∀j n,(pV j,n)∈Tg→∀i,is[j]?=some i→∀t∈i.ids,∃n',(t.1,n')∈U) (hU2:∀m n,(ay m,n)∈Tg→∀i q,is[m]?=some i→i.wb=some q→∃n',(q.1,n')∈U)
  {b:Nat} (hb:iQ (dJ cx σ α F w ps c is gs) Dz zV Ff w' Tg b):iQ cx σ' α' F' w' U b:=by
 obtain ⟨hb1,hb2,hb3,hb4,hb5⟩:=hb
 have hcl:w.heap.size≤b∨(b<w.heap.size∧∃j n i,(pV j,n)∈Tg∧is[j]?=some i∧iQ cx σ α F w i.ids b)∨(b<w.heap.size∧∃(j:Nat) (g:GA),gs[j]?=some g∧b∈g.fo∧((g.ow=true∧b∈F)∨(g.wb=true∧∃r R,aP σ r R∧b∈α.fo r))):=by
  by_cases hlt:b<w.heap.size
  ·refine .inr ?_
   rcases hb5 hlt with ⟨j,n,h1,⟨i,h2,h3⟩,_⟩ | ⟨j,pi,h1,h2⟩
   ·exact .inl ⟨hlt,j,n,i,h1,h2,h3⟩
   ·refine .inr ⟨hlt, ?_⟩
    obtain ⟨g,p,cj,v,i,e1,e2,e3,e4,e5,rfl⟩:=sW H hJ h1
    simp only at h2
    have hfo:b∈g.fo:=by
     unfold gT at h2
     cases hbase:g.base with
     | none=>rw [hbase] at h2; simpa using h2
     | some q=>
      rw [hbase] at h2
      simp only [List.cons_append,List.nil_append,an9] at h2
      rcases h2 with h2 | h2
      ·exact absurd ⟨j,_,q.2,wO p,h1,by rw [hbase,h2]; rfl⟩ hb3
      ·exact h2
    refine ⟨j,g,e1,hfo, ?_⟩
    rcases (nS H e4).1 b (by unfold gT; exact anZ _ hfo) with h | ⟨h,_⟩
    ·exact .inl h
    ·obtain ⟨r,R,q,_,f2,f3⟩:=(nS H e4).2.2.1 b hfo h
     exact .inr ⟨h,r,R,f2,f3⟩
  ·exact .inl (Nat.le_of_not_lt hlt)
 refine ⟨hb1,fun h=>hb2 (B.F b h), ?_, ?_, ?_⟩
 ·intro hbase
  have hlt:b<w.heap.size:=by
   obtain ⟨j,pi,o,n,h1,h2⟩:=hbase
   obtain ⟨Q,hQ,hk,hl,_⟩:=H.kI j pi b o n h1 h2
   exact ((H.roots _ _ hQ).mine b (by simp [Ow.blk,dU,hk,hl])).1
  rcases hcl with h | ⟨_,j,n,i,_,_,h⟩ | ⟨_,j,g,h1,h2,h⟩
  ·omega
  ·exact h.2.2.1 hbase
  ·rcases h with ⟨_,h⟩ | ⟨_,r,R,h3,h4⟩
   ·exact sO H h hbase
   ·exact oJ H h3 h4 hbase
 ·intro q Q hq hbq
  rcases B.blk q Q b hq hbq with h | ⟨Q0,h1,h2,h3⟩ | ⟨m,i,R,u,h1,h2,h3,h4⟩
  ·exact absurd h hb2
  ·have hlt:=((H.roots q Q0 h1).mine b h2).1
   rcases hcl with h | ⟨_,j,n,i,g1,g2,g3⟩ | ⟨_,j,g,g1,g2,_⟩
   ·omega
   ·obtain ⟨n',hn'⟩:=g3.2.2.2.1 q Q0 h1 h2
    exact hU1 j n g1 i g2 _ hn'
   ·exact absurd g2 (h3 j g g1)
  ·obtain ⟨n,hn⟩:=hb4 (ay m) R h3 h4
   exact hU2 m n hn i _ h1 h2
 ·intro h0
  have hlt:b<w.heap.size:=Nat.lt_of_lt_of_le h0 H.frame.2.2.2.1
  have jJ:Ow.mine cx w b→(∃j n,(pV j,n)∈U∧cx.ext j b)∨∃j pi,cx.par j=some pi∧b∈pi.bl:=fun hm=>by
   rcases hm.2 with h | ⟨j,pi,h1,h2⟩
   ·omega
   ·exact .inr ⟨j,pi,h1,h2⟩
  rcases hcl with h | ⟨_,j,n,i,g1,g2,g3⟩ | ⟨_,j,g,g1,g2,g3⟩
  ·omega
  ·rcases g3.2.2.2.2 h0 with ⟨j',n',f1,f2⟩ | h
   ·obtain ⟨n2,hn2⟩:=hU1 j n g1 i g2 _ f1
    exact .inl ⟨j',n2,hn2,f2⟩
   ·exact .inr h
  ·rcases g3 with ⟨_,h⟩ | ⟨_,r,R,h3,h4⟩
   ·exact jJ (H.fl b h)
   ·exact jJ ((H.roots r R h3).mine b (anZ _ h4))
end
end
section
open Go
variable [Fr]
def vN (σ:St):(ps:List dF)→List cK→Cont (jL ps)→List Wr→Prop
 | [],[],_,ws=>ws=[]
 | .rw k _ _ _ :: ps,i :: is,c,ws=>∃r p wt ht R z ws',i.wb=some (r,p,wt,ht)∧σ.roots r=some R∧dX p R.k R.x ⟨k,c.1⟩=some z∧ws=.r r (some { R with k:=z.1,x:=z.2,w:=(eT R p :: wt)++R.w,h:=ht++R.h }) :: ws'∧vN σ ps is c.2 ws'
 | .jC k _ _ :: ps,i :: is,c,ws=>∃r p wt ht R z ws',i.wb=some (r,p,wt,ht)∧σ.roots r=some R∧dX p R.k R.x ⟨k,c.1⟩=some z∧ws=.r r (some { R with k:=z.1,x:=z.2,w:=(SENT :: (k.tys++wt))++R.w,h:=ht++R.h }) :: ws'∧vN σ ps is c.2 ws'
 | .val _ _ :: ps,_ :: is,c,ws=>vN σ ps is c ws
 | .ro _ :: ps,_ :: is,c,ws=>vN σ ps is c ws
 | .own _ _ :: ps,_ :: is,c,ws=>vN σ ps is c ws
 | .fn _ _ :: ps,_ :: is,c,ws=>vN σ ps is c ws
 | .into _ _ :: ps,_ :: is,c,ws=>vN σ ps is c ws
 | _,_,_,_=>False
theorem UZ {A:Type} {z:A} {σ:St}:∀{ps:List dF} {is:List cK} {c:Cont (jL ps)} {k:List Wr→Prog A},(Jt ps is c k).ends σ z→∃ws,vN σ ps is c ws∧(k ws).ends σ z:=by
 intro ps
 induction ps with
 | nil=>
  intro is c k h
  cases is with
  | nil=>exact ⟨[],rfl,h⟩
  | cons _ _=>exact h.elim
 | cons p ps ih=>
  intro is c k h
  cases is with
  | nil=>cases p <;> exact h.elim
  | cons i is=>
   cases p with
   | rw kk ow Zx ht0=>
    obtain ⟨ids,wb,ws0,bt⟩:=i
    cases wb with
    | none=>exact h.elim
    | some q=>
     obtain ⟨r,p,wt,ht⟩:=q
     simp only [Jt,Prog.ends] at h
     cases hr:σ.roots r with
     | none=>rw [hr] at h; exact h.elim
     | some R=>
      rw [hr] at h
      simp only at h
      cases hz:dX p R.k R.x ⟨kk,c.1⟩ with
      | none=>rw [hz] at h; exact h.elim
      | some z=>
       rw [hz] at h
       obtain ⟨ws,g1,g2⟩:=ih h
       exact ⟨_,⟨r,p,wt,ht,R,z,ws,rfl,hr,hz,rfl,g1⟩,g2⟩
   | jC kk ow Zx=>
    obtain ⟨ids,wb,ws0,bt⟩:=i
    cases wb with
    | none=>exact h.elim
    | some q=>
     obtain ⟨r,p,wt,ht⟩:=q
     simp only [Jt,Prog.ends] at h
     cases hr:σ.roots r with
     | none=>rw [hr] at h; exact h.elim
     | some R=>
      rw [hr] at h
      simp only at h
      cases hz:dX p R.k R.x ⟨kk,c.1⟩ with
      | none=>rw [hz] at h; exact h.elim
      | some z=>
       rw [hz] at h
       obtain ⟨ws,g1,g2⟩:=ih h
       exact ⟨_,⟨r,p,wt,ht,R,z,ws,rfl,hr,hz,rfl,g1⟩,g2⟩
   | val _ _=>exact ih h
   | ro _=>exact ih h
   | own _ _=>exact ih h
   | fn _ _=>exact ih h
   | into _ _=>exact ih h
theorem Mr {σ:St}:∀{ps:List dF} {is:List cK} {c:Cont (jL ps)} {ws:List Wr},(∀i∈is,i.wb=none)→vN σ ps is c ws→ws=[]:=by
 intro ps
 induction ps with
 | nil=>
  intro is c ws _ h
  cases is with
  | nil=>exact h
  | cons _ _=>exact h.elim
 | cons p ps ih=>
  intro is c ws hn h
  cases is with
  | nil=>cases p <;> exact h.elim
  | cons i is=>
   have hn':∀i∈is,i.wb=none:=fun i hi=>hn i (by simp [hi])
   have h0:=hn i (by simp)
   cases p with
   | rw kk ow Zx ht0=>obtain ⟨r,p,wt,ht,R,z,ws',h1,_⟩:=h; rw [h0] at h1; simp at h1
   | jC kk ow Zx=>obtain ⟨r,p,wt,ht,R,z,ws',h1,_⟩:=h; rw [h0] at h1; simp at h1
   | val _ _=>exact ih hn' h
   | ro _=>exact ih hn' h
   | own _ _=>exact ih hn' h
   | fn _ _=>exact ih hn' h
   | into _ _=>exact ih hn' h
theorem wE {i:cK} {is:List cK} (h:ED (i :: is)=true):(i.wb=none∧ED is=true)∨(i.wb≠none∧∀i'∈is,i'.wb=none):=by
 unfold ED at h
 cases hw:i.wb with
 | none=>rw [hw] at h; exact .inl ⟨rfl,h⟩
 | some q=>
  rw [hw] at h
  refine .inr ⟨by simp,fun i' hi=>?_⟩
  have:=aoc.1 h i' hi
  cases hw':i'.wb with
  | none=>rfl
  | some _=>rw [hw'] at this; simp at this
theorem Rz {σ Dz:St}:∀{ps:List dF} {is:List cK} {c:Cont (jL ps)} {ws:List Wr} {j0:Nat},ED is=true→(∀(m:Nat) (p:dF) (i:cK),ps[m]?=some p→is[m]?=some i→(∀k ow wt ht,p≠.rw k ow wt ht)→(∀k ow wt,p≠.jC k ow wt)→i.wb=none)→
  vN σ ps is c ws→DZ Dz ps j0 c→(ws=[]∧∀i∈is,i.wb=none)∨
  ∃(j:Nat) (i:cK) (k:K) (x:El k) (ow wt ht:List TypeId) (r:Nat) (p:List Stp) (R:Root) (z:Dat) (sG ht':List TypeId),is[j]?=some i∧i.wb=some (r,p,sG,ht')∧σ.roots r=some R∧dX p R.k R.x ⟨k,x⟩=some z∧TD Dz k x ow wt ht (j0+j)∧(∀(m:Nat) (i':cK),m≠j→is[m]?=some i'→i'.wb=none)∧
   ((ps[j]?=some (.rw k ow wt ht)∧ws=[.r r (some { R with k:=z.1,x:=z.2,w:=(eT R p :: sG)++R.w,h:=ht'++R.h })])∨(ps[j]?=some (.jC k ow wt)∧ht=k.tys∧ws=[.r r (some { R with k:=z.1,x:=z.2,w:=(SENT :: (k.tys++sG))++R.w,h:=ht'++R.h })])):=by
 intro ps
 induction ps with
 | nil=>
  intro is c ws j0 _ _ hB _
  cases is with
  | nil=>exact .inl ⟨hB,by simp⟩
  | cons _ _=>exact hB.elim
 | cons p ps ih=>
  intro is c ws j0 h1 hal hB hO
  cases is with
  | nil=>cases p <;> exact hB.elim
  | cons i is=>
   have aks:∀(m:Nat) (p:dF) (i:cK),ps[m]?=some p→is[m]?=some i→(∀k ow wt ht,p≠.rw k ow wt ht)→(∀k ow wt,p≠.jC k ow wt)→i.wb=none:=fun m p i hp hi=>hal (m+1) p i (by simpa using hp) (by simpa using hi)
   have hrest:∀{c':Cont (jL ps)} {ws':List Wr},i.wb=none→vN σ ps is c' ws'→DZ Dz ps (j0+1) c'→(ws'=[]∧∀i'∈i :: is,i'.wb=none)∨
     ∃(j:Nat) (i':cK) (k:K) (x:El k) (ow wt ht:List TypeId) (r:Nat) (q:List Stp) (R:Root) (z:Dat) (sG ht':List TypeId),(i :: is)[j]?=some i'∧i'.wb=some (r,q,sG,ht')∧σ.roots r=some R∧dX q R.k R.x ⟨k,x⟩=some z∧TD Dz k x ow wt ht (j0+j)∧(∀(m:Nat) (i'':cK),m≠j→(i :: is)[m]?=some i''→i''.wb=none)∧
      (((p :: ps)[j]?=some (.rw k ow wt ht)∧ws'=[.r r (some { R with k:=z.1,x:=z.2,w:=(eT R q :: sG)++R.w,h:=ht'++R.h })])∨((p :: ps)[j]?=some (.jC k ow wt)∧ht=k.tys∧ws'=[.r r (some { R with k:=z.1,x:=z.2,w:=(SENT :: (k.tys++sG))++R.w,h:=ht'++R.h })])):=by
    intro c' ws' hw hB hO
    have ho:ED is=true:=by
     rcases wE h1 with ⟨_,h⟩ | ⟨h,_⟩
     ·exact h
     ·exact absurd hw h
    rcases ih ho aks hB hO with ⟨e,h⟩ | ⟨j,i',k,x,ow,wt,ht,r,q,R,z,sG,ht',e1,e2,e3,e4,e5,e6,e7⟩
    ·refine .inl ⟨e,fun i' hi=>?_⟩
     rcases an9.1 hi with h' | h'
     ·subst h'; exact hw
     ·exact h i' h'
    ·refine .inr ⟨j+1,i',k,x,ow,wt,ht,r,q,R,z,sG,ht',by simpa using e1,e2,e3,e4,by rw [show j0+(j+1)=j0+1+j by omega]; exact e5,fun m i'' hm hi=>?_,by simpa using e7⟩
     cases m with
     | zero=>simp only [List.getElem?_cons_zero,anX] at hi; subst hi; exact hw
     | succ m=>exact e6 m i'' (by omega) (by simpa using hi)
   have hnw:∀{sG:Option (Nat×List Stp×List TypeId×List TypeId)},i.wb=sG→sG≠none→∀i'∈is,i'.wb=none:=by
    intro sG he hne
    rcases wE h1 with ⟨h,_⟩ | ⟨_,h⟩
    ·rw [he] at h; exact absurd h hne
    ·exact h
   cases p with
   | rw kk ow Zx ht0=>
    obtain ⟨r,q,wt,ht,R,z,ws',g1,g2,g3,g4,g5⟩:=hB
    have hn:=hnw g1 (by simp)
    have:=Mr hn g5
    subst this
    refine .inr ⟨0,i,kk,c.1,ow,Zx,ht0,r,q,R,z,wt,ht,rfl,g1,g2,g3,hO.1,fun m i' hm hi=>?_, .inl ⟨rfl,g4⟩⟩
    cases m with
    | zero=>exact absurd rfl hm
    | succ m=>exact hn i' (List.mem_of_getElem? (by simpa using hi))
   | jC kk ow Zx=>
    obtain ⟨r,q,wt,ht,R,z,ws',g1,g2,g3,g4,g5⟩:=hB
    have hn:=hnw g1 (by simp)
    have:=Mr hn g5
    subst this
    refine .inr ⟨0,i,kk,c.1,ow,Zx,kk.tys,r,q,R,z,wt,ht,rfl,g1,g2,g3,hO.1,fun m i' hm hi=>?_, .inr ⟨rfl,rfl,g4⟩⟩
    cases m with
    | zero=>exact absurd rfl hm
    | succ m=>exact hn i' (List.mem_of_getElem? (by simpa using hi))
   | val k iA=>exact hrest (hal 0 _ i rfl rfl (by simp) (by simp)) hB hO
   | ro k=>exact hrest (hal 0 _ i rfl rfl (by simp) (by simp)) hB hO
   | own k ow=>exact hrest (hal 0 _ i rfl rfl (by simp) (by simp)) hB hO
   | fn f ks=>exact hrest (hal 0 _ i rfl rfl (by simp) (by simp)) hB hO
   | into j q=>exact hrest (hal 0 _ i rfl rfl (by simp) (by simp)) hB hO
end
section
open Go
variable [Fr]
section
variable {P:Program} {T:iV} {cx:Cx} {σ:St} {α:dL} {F:List Nat} {a:Act} {w w':World} {ps:List dF} {c:Cont (kin ps)} {vs:List Value} {is:List cK} {gs:List GA}
theorem jM {l m:List Nat}:mQ l m=true↔∀t∈l,t∈m:=by
 unfold mQ
 rw [aoc]
 simp [aM]
theorem Uj (h:Heap):∀(q:List Stp) {k:K} {cs:List Value} {wh:Option (Nat×Nat)} {c0:List Value} {w0:Option (Nat×Nat)},ah q k≠[]→bG h q k cs wh=some (c0,w0)→(∀nG,bG h q k cs nG=some (c0,w0))∧∃b o,w0=some (b,o):=by
 intro q
 induction q with
 | nil=>intro k cs wh c0 w0 h1; simp [ah] at h1
 | cons s q ih=>
  intro k cs wh c0 w0 h1 h2
  cases s with
  | fO n=>
   cases k with
   | st c=>
    simp only [bG] at h2 ⊢
    cases ho:bB n c with
    | none=>rw [ho] at h2; simp at h2
    | some p=>
     obtain ⟨off,k'⟩:=p
     rw [ho] at h2
     simp only at h2 ⊢
     have hk:ah.Ia n c=some k':=by
      have:∀(n:Nat) {c:K} {off:Nat} {k':K},bB n c=some (off,k')→ah.Ia n c=some k':=by
       intro n
       induction n with
       | zero=>intro c off k' h; cases c <;> simp_all [bB,ah.Ia]
       | succ n ih=>
        intro c off k' h
        cases c with
        | pair a b=>
         simp only [bB] at h
         cases h5:bB n b with
         | none=>rw [h5] at h; simp at h
         | some q=>
          rw [h5] at h
          simp only [anX,an8] at h
          simp only [ah.Ia]
          exact ih (by rw [h5, ←h.2])
        | _=>simp [bB] at h
      exact this n ho
     have hpt:ah (.fO n :: q) (.st c)=ah q k':=by simp [ah,hk]
     rw [hpt] at h1
     obtain ⟨g1,g2⟩:=ih h1 h2
     exact ⟨fun nG=>g1 _,g2⟩
   | _=>simp [bG] at h2
  | idx i=>
   cases k with
   | sl e k=>
    simp only [bG] at h2 ⊢
    split at h2
    ·rename_i ad _ _
     refine ⟨fun nG=>h2, ?_⟩
     have key:∀(q:List Stp) {k:K} {cs:List Value} {p:Nat×Nat} {c0:List Value} {w0:Option (Nat×Nat)},bG h q k cs (some p)=some (c0,w0)→∃b o,w0=some (b,o):=by
      intro q
      induction q with
      | nil=>intro k cs p c0 w0 h; simp only [bG,anX,an8] at h; exact ⟨p.1,p.2,h.2.symm⟩
      | cons s q ih=>
       intro k cs p c0 w0 h
       cases s with
       | fO n=>
        cases k with
        | st c=>
         simp only [bG] at h
         cases ho:bB n c with
         | none=>rw [ho] at h; simp at h
         | some q2=>rw [ho] at h; exact ih h
        | _=>simp [bG] at h
       | idx i=>
        cases k with
        | sl e k=>
         simp only [bG] at h
         split at h
         ·exact ih h
         ·simp at h
        | _=>simp [bG] at h
     exact key q h2
    ·simp at h2
   | _=>simp [bG] at h2
theorem D9 (H:Rel cx σ α F a w) {Dz:St} {zV:dL} {Ff G:List Nat} {r j:Nat} {R Rf R':Root} {i:cK} {u:List Stp×List TypeId×List TypeId} {g:GA} {rest:List Nat} {Dy:dL} {lw lh:List Nat} (hr:aP σ r R) (hi:is[j]?=some i) (hw:i.wb=some (r,u)) (hlf:aP Dz (ay j) Rf)
  (hg:gs[j]?=some g) (hpr:(α.fo r).Perm (g.fo++rest)) (hoth:∀(m:Nat) (gm:GA),m≠j→gs[m]?=some gm→∀b∈gm.fo,b∈F)
  (T:mJ cx σ α F w (au σ r R') Dy G w' (tF r lw) (tF r lh)) (hblk:∀b∈Ow.blk Dy R' r,(∃o,dU α R r=some (b,o))∨b∈zV.fo (ay j)∨b∈rest) (hG:∀b∈G,b∈Ff):CL σ α is gs Dz zV Ff (au σ r R') Dy G:=by
 have hK:=H.roots r R hr
 have Vz:=hK.nd
 rw [bW,ny] at Vz
 have Qe:=an4.1 (hpr.nodup Vz.2)
 have adj:∀{q:Nat} {Q:Root} {b:Nat},aP σ q Q→b∈Ow.blk α Q q→b∉g.fo→∀(m:Nat) (gm:GA),gs[m]?=some gm→b∉gm.fo:=by
  intro q Q b hq hb hno m gm hm XP
  by_cases e:m=j
  ·subst e
   rw [hg] at hm
   simp only [anX] at hm
   subst hm
   exact hno XP
  ·exact H.iX q Q hq b hb (hoth m gm e hm b XP)
 refine ⟨fun q Q b hq hb=>?_,hG⟩
 by_cases e:q=r
 ·subst e
  obtain ⟨rfl,_⟩:=eU hq
  rcases hblk b hb with ⟨o,h⟩ | h | h
  ·have hbb:b∈Ow.blk α R q:=by rw [bW,fu]; exact .inl ⟨o,h⟩
   exact .inr (.inl ⟨R,hr,hbb,adj hr hbb (fun h'=>Vz.1 b o h (hpr.mem_iff.2 (an2 _ h')))⟩)
  ·exact .inr (.inr ⟨j,i,Rf,u,hi,hw,hlf,anZ _ h⟩)
  ·have hbb:b∈Ow.blk α R q:=anZ _ (hpr.mem_iff.2 (anZ _ h))
   exact .inr (.inl ⟨R,hr,hbb,adj hr hbb (fun h'=>Qe.2.2 b h' b h rfl)⟩)
 ·have hq':=(Kz e).1 hq
  obtain ⟨Q2,g1,g2⟩:=T.old q Q hq'.1
  have hS:Same σ α (au σ r R') Dy q:=by
   refine aoj fun hns=>?_
   rw [bU σ R' e,hq'.1] at g1
   simp only [anX] at g1
   subst g1
   rcases g2 with ⟨h1,_⟩ | ⟨_,h2⟩
   ·rw [hq'.2] at h1; simp at h1
   ·rcases h2.2.2.2.2.2.2 with h3 | ⟨_,_,h3⟩
    ·rw [qw _ e,qw _ e] at h3; simp at h3
    ·exact hns h3
  rw [hS.blk] at hb
  refine .inr (.inl ⟨Q,hq',hb,adj hq' hb (fun h'=>?_)⟩)
  exact H.IK r R q Q hr hq' (Ne.symm e) b (anZ _ (hpr.mem_iff.2 (an2 _ h'))) hb
theorem aaN:∀(p:List Stp) {k:K} {x:El k} {t z:Dat},nk p k x→dX p k x t=some z→aS p z.1 z.2=some t∧nk p z.1 z.2∧ah p z.1=ah p k:=by
 intro p
 induction p with
 | nil=>
  intro k x t z _ hz
  simp only [dX,anX] at hz
  subst hz
  exact ⟨rfl,trivial,rfl⟩
 | cons s p ih=>
  intro k x t z hp hz
  cases s with
  | fO n=>
   cases k with
   | st c=>
    simp only [dX] at hz
    simp only [nk] at hp
    cases hg:aO n c x with
    | none=>rw [hg] at hz; simp at hz
    | some s=>
     rw [hg] at hz hp
     simp only at hz hp
     cases hs:dX p s.1 s.2 t with
     | none=>rw [hs] at hz; simp at hz
     | some u=>
      rw [hs] at hz
      simp only at hz
      cases hcp:cz n c x u with
      | none=>rw [hcp] at hz; simp at hz
      | some y=>
       rw [hcp] at hz
       simp only [anX] at hz
       subst hz
       obtain ⟨h1,h2,h3⟩:=ih hp hs
       have hg2:=yz n hcp
       refine ⟨?_, ?_, ?_⟩
       ·show aS (.fO n :: p) (.st y.1) y.2=some t
        simp only [aS,hg2]
        exact h1
       ·show nk (.fO n :: p) (.st y.1) y.2
        simp only [nk,hg2]
        exact h2
       ·show ah (.fO n :: p) (.st y.1)=_
        simp only [ah,bX n hg2,bX n hg]
        exact h3
   | _=>exact hp.elim
  | idx i=>
   cases k with
   | sl e k=>
    simp only [dX] at hz
    obtain ⟨hp0,hp1,hp2⟩:=hp
    cases hs:dX p k ((show List (El k) from x).getD i.toNat k.zero) t with
    | none=>rw [hs] at hz; simp at hz
    | some u=>
     rw [hs] at hz
     simp only at hz
     cases hc:bP u.1 k u.2 with
     | none=>rw [hc] at hz; simp at hz
     | some y=>
      rw [hc] at hz
      simp only [anX] at hz
      subst hz
      obtain ⟨ek,ey⟩:=bM hc
      obtain ⟨uk,ux⟩:=u
      simp only at ek
      subst ek
      simp only at ey
      subst ey
      obtain ⟨h1,h2,h3⟩:=ih hp2 hs
      have hlt:i.toNat < @List.length (El uk) x:=by
       have:i<((@List.length (El uk) x:Nat):Int):=hp1
       omega
      have hgd:(show List (El uk) from (show List (El uk) from x).set i.toNat y).getD i.toNat uk.zero=y:=by
       have hl2:i.toNat<(@List.set (El uk) x i.toNat y).length:=by rw [List.length_set]; exact hlt
       exact (bZ hl2).trans (List.getElem_set_self hl2)
      refine ⟨?_,⟨hp0, ?_, ?_⟩, ?_⟩
      ·simp only [aS]
       rw [hgd]
       exact h1
      ·have:i<((@List.length (El uk) x:Nat):Int):=hp1
       simpa using this
      ·rw [hgd]
       exact h2
      ·rfl
   | _=>exact hp.elim
theorem RA (H:Rel cx σ α F a w) (hJ:Zn cx σ α F a w ps c vs is gs) (ho:ED is=true) {Dz:St} {zV:dL} {Ff:List Nat} {af:Act} (Hf:Rel (dJ cx σ α F w ps c is gs) Dz zV Ff af w')
  {c':Cont (jL ps)} {ws:List Wr} (hB:vN σ ps is c' ws) (hO:DZ Dz ps 0 c') {G:List Nat} (hG:∀b∈G,b∈Ff) (hGn:G.Nodup) :
  ∃Dy,Rel cx (aB ws σ) Dy G a w'∧CL σ α is gs Dz zV Ff (aB ws σ) Dy G∧(aB ws σ).slots=σ.slots∧(∀q,σ.roots q=none→(aB ws σ).roots q=none)∧(∀t,E5 σ t→E5 (aB ws σ) t)∧(ws=[]∨∃r R,ws=[.r r (some R)])∧
   ∀(j:Nat) (i:cK) (r:Nat) (q:List Stp) (wt ht:List TypeId),qz∉ht→is[j]?=some i→i.wb=some (r,q,wt,ht)→∃Rf R' R,Dz.roots (ay j)=some Rf∧bu Dz Rf∧Rf.g=0∧ws=[.r r (some R')]∧σ.roots r=some R∧nk q R'.k R'.x∧(∀t∈ah q R'.k,az t R'.own=true)∧
    (bu (aB ws σ) R'→∃wh,bG (hp w') q R'.k (Dy.hdr r) (dU Dy R' r)=some (zV.hdr (ay j),wh)):=by
 obtain ⟨lv,li,lg,hat⟩:=hJ.at (i0:=0)
 simp only [Nat.zero_add] at hat
 obtain ⟨f1,f2,f3,f4,f5,f6⟩:=Hf.frame
 have hgj:∀{j:Nat} {g:GA},gs[j]?=some g→∃p cj v i,ps[j]?=some p∧vs[j]?=some v∧is[j]?=some i∧Ww cx σ α F a w p cj v i g:=by
  intro j g hg
  have hj:j<ps.length:=by have:=(List.getElem?_eq_some_iff.1 hg).1; omega
  obtain ⟨cj,v,i,g',e1,e2,e3,e4,_⟩:=hat j ps[j] (aob hj)
  rw [hg] at e3
  simp only [anX] at e3
  subst e3
  exact ⟨ps[j],cj,v,i,aob hj,e1,e2,e4⟩
 have Ke:∀b,b<w.heap.size→hp w' b≠hp w b→∃(j:Nat) (g:GA),gs[j]?=some g∧b∈gT g∧(g.ow=true∨g.wb=true):=by
  intro b hb hne
  refine aoj fun hno=>hne (f5 b hb fun j pi hj hbl=>?_)
  obtain ⟨g,p,cj,v,i,e1,e2,e3,e4,e5,rfl⟩:=sW H hJ hj
  exact hno ⟨j,g,e1,hbl,e5⟩
 have jJ:∀b∈Ff,b<w'.heap.size∧(w.heap.size≤b∨∃(j:Nat) (g:GA),gs[j]?=some g∧b∈gT g∧(g.ow=true∨g.wb=true)):=by
  intro b hb
  obtain ⟨h1,h2⟩:=Hf.fl b hb
  refine ⟨h1,h2.imp id ?_⟩
  rintro ⟨j,pi,h3,h4⟩
  obtain ⟨g,p,cj,v,i,e1,e2,e3,e4,e5,rfl⟩:=sW H hJ h3
  exact ⟨j,g,e1,h4,e5⟩
 have hal:∀(m:Nat) (p:dF) (i:cK),ps[m]?=some p→is[m]?=some i→(∀k ow wt ht,p≠.rw k ow wt ht)→(∀k ow wt,p≠.jC k ow wt)→i.wb=none:=by
  intro m p i hp hi h1 h2
  obtain ⟨cj,v,i',g,e1,e2,e3,e4,_⟩:=hat m p hp
  rw [hi] at e2
  simp only [anX] at e2
  subst e2
  obtain ⟨_,e4⟩:=e4
  cases p with
  | val k iA=>exact e4.2.2.1
  | ro k=>exact e4.2.2.1
  | own k ow=>exact e4.2.2.1
  | fn f ks=>exact e4.2.2.1
  | rw k ow wt ht=>exact absurd rfl (h1 k ow wt ht)
  | jC k ow wt=>exact absurd rfl (h2 k ow wt)
  | into j q=>exact e4.2.2.1
 have VF:∀{m:Nat} {g:GA} {i:cK},gs[m]?=some g→is[m]?=some i→i.wb=none→g.wb=false:=by
  intro m g i hg hi hn
  obtain ⟨p,cj,v,i',e1,e2,e3,e4⟩:=hgj hg
  rw [hi] at e3
  simp only [anX] at e3
  subst e3
  cases hw:g.wb with
  | false=>rfl
  | true=>exact absurd hn ((nS H e4).2.2.2.1 hw)
 have Kl:∀{m:Nat} {g:GA} {b:Nat},gs[m]?=some g→g.wb=false→b∈gT g→b∈F:=by
  intro m g b hg hw hb
  obtain ⟨p,cj,v,i,e1,e2,e3,e4⟩:=hgj hg
  rcases (nS H e4).1 b hb with ⟨_,h⟩ | ⟨h,_⟩
  ·exact h
  ·rw [hw] at h; simp at h
 rcases Rz (j0:=0) ho hal hB hO with ⟨rfl,hnone⟩ | ⟨j,i,k,x,ow,wt,ht,r,p,R,z,sG,ht',e1,e2,e3,e4,e5,e6,e7⟩
 ·
  have hnw:∀{m:Nat} {g:GA},gs[m]?=some g→g.wb=false:=by
   intro m g hg
   obtain ⟨p,cj,v,i,g1,g2,g3,g4⟩:=hgj hg
   exact VF hg g3 (hnone i (List.mem_of_getElem? g3))
  have T:=Ey (w':=w') (F':=G) H ⟨f1,f2,f3⟩ f4 (fun b hb hne=>by obtain ⟨j,g,h1,h2,_⟩:=Ke b hb hne; exact Kl h1 (hnw h1) h2)
   (fun b hb=>by
    obtain ⟨h1,h2⟩:=jJ b (hG b hb)
    rcases h2 with h2 | ⟨j,g,h3,h4,_⟩
    ·exact .inr ⟨h2,h1⟩
    ·exact .inl (Kl h3 (hnw h3) h4)) hGn
  refine ⟨α,H.mem T,⟨fun q Q b hq hb=>.inr (.inl ⟨Q,hq,hb,fun m g hg hbg=>?_⟩),hG⟩,rfl,fun q h=>h,fun t h=>h, .inl rfl,fun j i r q wt ht _ hi hw=>by rw [hnone i (List.mem_of_getElem? hi)] at hw; simp at hw⟩
  exact H.iX q Q hq b hb (Kl hg (hnw hg) (anZ _ hbg))
 ·
  have hj:j<ps.length:=by rcases e7 with ⟨h,_⟩ | ⟨h,_⟩ <;> exact (List.getElem?_eq_some_iff.1 h).1
  obtain ⟨g,hg⟩:∃g,gs[j]?=some g:=⟨gs[j]'(by omega),aob _⟩
  obtain ⟨p0,cj,v,i',g1,g2,g3,g4⟩:=hgj hg
  rw [e1] at g3
  simp only [anX] at g3
  subst g3
  obtain ⟨cj2,v2,i2,gg2,a1,a2,a3,a4,a5,a6⟩:=hat j p0 g1
  obtain ⟨x0,wh,rest,hP,Cm,hOw,hfo,hgn,hpr,zJ,hwf,hgo,hbase,hps,hwt,hht,hR0⟩:∃(x0:El k) (wh:Option (Nat×Nat)) (rest:List Nat),PlG cx σ α w k x0 ow i sG ht' r R p∧bG (hp w) p R.k (α.hdr r) (dU α R r)=some (g.cs,wh)∧Ow (hp w) R.own (iQ cx σ α F w R.tags) k x0 g.cs g.fo∧(∀b∈g.fo,b∈α.fo r)∧g.fo.Nodup∧
    (α.fo r).Perm (g.fo++rest)∧(∀b o,wh=some (b,o)→b∈rest∨∃o0,dU α R r=some (b,o0)∧o0≤o∧o+k.size≤o0+R.k.size)∧(∀b o,wh=some (b,o)→b∉g.fo)∧
    (∀{t z:Dat} {tags':List Tag} {lw lh:List TypeId} {kp:Bool} {ft F':List Nat} {cs':List Value} {w':World},sU cx σ α F w r R p ⟨k,x0⟩ R.own g.cs wh g.fo rest t z tags' lw lh kp ft F' cs' w'→
     ∃α',Rel cx (au σ r (bH R z R.own tags' lw lh kp)) α' F' a w'∧mJ cx σ α F w (au σ r (bH R z R.own tags' lw lh kp)) α' F' w' (tF r lw) (tF r lh)∧(∀b∈Ow.blk α' (bH R z R.own tags' lw lh kp) r,(∃o,dU α R r=some (b,o))∨b∈ft∨b∈rest)∧
      (qz∉lh→bu (au σ r (bH R z R.own tags' lw lh kp)) (bH R z R.own tags' lw lh kp)→bG (hp w') p z.1 (α'.hdr r) (dU α' (bH R z R.own tags' lw lh kp) r)=some (cs',wh))∧∀b∈ft,b∈α'.fo r)∧
    ((∃b o,wh=some (b,o)∧g.base=some (b,o))∨(g.base=none∧VC k g.v g.cs))∧(wO p0=k.size∨g.base=none)∧(sG=wt)∧(ht'=ht)∧
    (∃R0,gK (gI ps 0 c) (ay j)=some R0∧R0.k=k∧HEq R0.x x0∧R0.own=ow):=by
   have h4:Ww cx σ α F a w p0 cj2 v2 i2 gg2:=a4
   rw [hg] at a3
   simp only [anX] at a3
   subst a3
   rw [e1] at a2
   simp only [anX] at a2
   subst a2
   rcases e7 with ⟨h,_⟩ | ⟨h,akN,_⟩
   ·rw [g1] at h
    simp only [anX] at h
    subst h
    obtain ⟨hv0,h1,h2,r1,R1,q1,b,o,h3,h4',h5,h6,h7,h8,h9,h10,h11,rest,h12,h13,h14,h15⟩:=h4
    have hwb:=h3.wb
    rw [e2] at hwb
    simp only [anX,an8] at hwb
    obtain ⟨rfl,rfl,rfl,rfl⟩:=hwb
    have hRR:R1=R:=by have:=h3.lv.1; rw [e3] at this; simpa using this.symm
    subst hRR
    refine ⟨cj2.1,some (b,o),rest,h3,h5,h8,h9,h10,h12,h13,h14,h15, .inl ⟨b,o,rfl,h7⟩, .inl rfl,rfl,rfl, ?_⟩
    rw [a6]
    exact ⟨_,rfl,rfl,HEq.rfl,rfl⟩
   ·rw [g1] at h
    simp only [anX] at h
    subst h
    obtain ⟨hv0,h1,h2,r1,R1,q1,wh,h3,h4',h5,h6,h7,h8,h9,h10,rest,h12,h13,h14,h15⟩:=h4
    have hwb:=h3.wb
    rw [e2] at hwb
    simp only [anX,an8] at hwb
    obtain ⟨rfl,rfl,rfl,rfl⟩:=hwb
    have hRR:R1=R:=by have:=h3.lv.1; rw [e3] at this; simpa using this.symm
    subst hRR
    refine ⟨cj2.1,wh,rest,h3,h5,h8,h9,h10,h12,h13,h14,h15, .inr ⟨h7,hv0▸h6⟩, .inr h7,rfl,akN.symm, ?_⟩
    rw [a6]
    exact ⟨_,rfl,rfl,HEq.rfl,rfl⟩
  subst hwt
  subst hht
  rw [Nat.zero_add] at e5
  obtain ⟨lw,akW,akX,akY,hws⟩:∃lw:List TypeId,(∀e∈sG,e∈lw)∧lw≠[]∧(g.base≠none→eT R p∈lw)∧ws=[.r r (some (bH R z R.own R.tags lw ht' R.keep))]:=by
   rcases e7 with ⟨h,hw⟩ | ⟨h,hh,hw⟩
   ·exact ⟨eT R p :: sG,fun e he=>by simp [he],by simp,fun _=>by simp,hw⟩
   ·refine ⟨SENT :: (k.tys++sG),fun e he=>by simp [he],by simp,fun hb=>?_,by rw [hw,hh]; rfl⟩
    rw [g1] at h
    simp only [anX] at h
    subst h
    exact absurd (g4.2.2.2 |> fun ⟨_,_,_,_,_,_,_,_,hb,_⟩=>hb) hb
  subst hws
  obtain ⟨Rf,hRf,hvf,⟨ek,ex⟩,XY,xW,rW⟩:=e5
  have hlf:aP Dz (ay j) Rf:=⟨hRf,hvf.1⟩
  subst ek
  simp only at ex
  subst ex
  have Kf:=Hf.roots (ay j) Rf hlf
  have hgw:g.wb=true:=(nS H g4).2.2.2.2 (by rw [e2]; simp)
  have T9:(dJ cx σ α F w ps c is gs).par j=some ⟨g.base.map fun q=>(q.1,q.2,wO p0),gT g,g.wb⟩:=by
   simp only [dJ]
   rw [hg,g1]
   simp [hgw]
  unfold CE at xW
  simp only [an3,jM] at xW
  obtain ⟨⟨⟨⟨l1,l2⟩,l3⟩,l4⟩,l5⟩:=xW
  have hg0:Rf.g=0:=an1 l5
  have hkind:dU zV Rf (ay j)=g.base∧(g.base=none→zV.hdr (ay j)=g.cs):=by
   rcases hbase with ⟨b,o,_,hb⟩ | ⟨hb,hV⟩
   ·obtain ⟨Q,hQ,hk,hl,_⟩:=Hf.kI j _ b o (wO p0) T9 (by simp [hb])
    have hQR:Q=Rf:=by have:=hQ.1; rw [hRf] at this; simpa using this.symm
    subst hQR
    refine ⟨?_,fun h=>by rw [hb] at h; simp at h⟩
    unfold dU
    rw [hk,hl,hb]
   ·have hrf:=(Hf.wu j g.v ⟨g,hg,rfl,hb,hgw⟩).2 Rf hlf hg0
    refine ⟨by unfold dU; rw [hrf.1,hb],fun _=>?_⟩
    have h1:=hrf.2.cells
    have h2:=hV.cells
    rw [←h1,h2]
  obtain ⟨agS,agf⟩:=hkind
  have abl:Ow.blk zV Rf (ay j)=(match g.base with | some q=>[q.1] | none=>[])++zV.fo (ay j):=by
   unfold Ow.blk
   rw [agS]
   cases g.base <;> rfl
  have X6:(zV.fo (ay j)).Nodup:=(an4.1 (abl▸Kf.nd)).2.1
  have ags:(zV.hdr (ay j)).length=Rf.k.size:=Kf.len
  have hK:=H.roots r R hP.lv
  have Vz:=hK.nd
  rw [bW,ny] at Vz
  have ang:∀b,b∈α.fo r↔b∈g.fo∨b∈rest:=fun b=>by rw [hpr.mem_iff,an6]
  have Qe:=an4.1 (hpr.nodup Vz.2)
  have hcells:∀b o,wh=some (b,o)→Cells (hp w') b o (zV.hdr (ay j))∧gQ (hp w) (hp w') b o Rf.k.size:=by
   intro b o hw
   obtain ⟨m1,_,m2,⟨arr,e,lo,hi,m3,m4,m5,m6⟩,_⟩:=qd H hP.lv hP.vl hP.get hP.pin hP.own (by rw [Cm,hw])
   rcases hbase with ⟨b',o',hw',hb⟩ | ⟨hb,_⟩
   ·rw [hw] at hw'
    simp only [anX,an8] at hw'
    obtain ⟨rfl,rfl⟩:=hw'
    have hm:=Kf.mem b o (by rw [agS,hb])
    have hsz:wO p0=Rf.k.size:=by
     rcases hps with h | h
     ·exact h
     ·rw [hb] at h; simp at h
    have:=f6 j _ b o (wO p0) T9 (by simp [hb])
    rw [hsz] at this
    exact ⟨hm.1,this⟩
   ·have hlt:=(hK.mine b m2).1
    have hsame:hp w' b=hp w b:=by
     refine aoj fun hne=>?_
     obtain ⟨m,gm,h1,h2,h3⟩:=Ke b hlt hne
     by_cases e:m=j
     ·subst e
      rw [hg] at h1
      simp only [anX] at h1
      subst h1
      unfold gT at h2
      rw [hb] at h2
      exact hwf b o hw (by simpa using h2)
     ·have hgm:gm.wb=false:=by
       obtain ⟨pm,cm,vm,im,k1,k2,k3,k4⟩:=hgj h1
       exact VF h1 k3 (e6 m im e k3)
      exact H.iX r R hP.lv b m2 (Kl h1 hgm h2)
    rw [agf hb]
    exact ⟨m1.congr hsame,gQ.of_same _ _ m3 hsame⟩
  have hwho:∀b,(w.heap.size≤b∨∃(j:Nat) (g:GA),gs[j]?=some g∧b∈gT g∧(g.ow=true∨g.wb=true))→(∀o,g.base≠some (b,o))→b<w'.heap.size→b∈g.fo∨b∈F∨(w.heap.size≤b∧b<w'.heap.size):=by
   intro b hb hnb hlt
   rcases hb with hb | ⟨m,gm,h1,h2,h3⟩
   ·exact .inr (.inr ⟨hb,hlt⟩)
   ·by_cases e:m=j
    ·subst e
     rw [hg] at h1
     simp only [anX] at h1
     subst h1
     unfold gT at h2
     cases hbb:g.base with
     | none=>rw [hbb] at h2; exact .inl (by simpa using h2)
     | some q=>
      rw [hbb] at h2
      simp only [List.cons_append,List.nil_append,an9] at h2
      rcases h2 with h2 | h2
      ·exact absurd (by rw [hbb,h2]) (hnb q.2)
      ·exact .inl h2
    ·have hgm:gm.wb=false:=by
      obtain ⟨pm,cm,vm,im,k1,k2,k3,k4⟩:=hgj h1
      exact VF h1 k3 (e6 m im e k3)
     exact .inr (.inl (Kl h1 hgm h2))
  have Ki:∀b∈g.fo,b∈gT g:=fun b hb=>anZ _ hb
  have adg:∀b∈g.fo,¬lU (dJ cx σ α F w ps c is gs) b:=by
   rintro b hb ⟨m,pi,o,n,h1,h2⟩
   obtain ⟨gm,pm,cm,vm,im,k1,k2,k3,k4,k5,rfl⟩:=sW H hJ h1
   simp only at h2
   cases XP:gm.base with
   | none=>rw [XP] at h2; simp at h2
   | some q=>
    rw [XP] at h2
    simp only [Option.map_some,anX,an8] at h2
    have agq:gm.wb=true:=by
     obtain ⟨_,_,_,_,_,_,_,hw,_⟩:=(nS H k4).2.1 q.1 q.2 (by rw [XP])
     exact (nS H k4).2.2.2.2 (by rw [hw]; simp)
    by_cases e:m=j
    ·subst e
     rw [hg] at k1
     simp only [anX] at k1
     subst k1
     rcases hbase with ⟨b',o',hw',hb'⟩ | ⟨hb',_⟩
     ·rw [XP] at hb'
      simp only [anX] at hb'
      subst hb'
      exact hwf b' o' hw' (by have:=h2.1; simp only at this; rw [this]; exact hb)
     ·rw [XP] at hb'; simp at hb'
    ·have:=VF k1 k3 (e6 m im e k3)
     rw [this] at agq
     simp at agq
  have hkb:∀b∈g.fo,(∃e∈lw,qQ (hp w) b=some e)∨(hp w' b=hp w b∧b∉Ff∧∀q Q,aP Dz q Q→b∈Ow.blk zV Q q→q=ay j):=by
   intro b hb
   obtain ⟨R2,h1,h2⟩:=Hf.uE j _ T9 (by simp [hgw])
   rw [hRf] at h1
   simp only [anX] at h1
   subst h1
   rcases h2 hvf.1 b (Ki b hb) (adg b hb) with ⟨e,h3,h4⟩ | h
   ·refine .inl ⟨e,akW e ?_,h3⟩
    rcases h4 with h4 | h4
    ·exact l1 e h4
    ·exact l2 e h4
   ·exact .inr h
  have aal:∀b∈zV.fo (ay j),∀o,g.base≠some (b,o):=by
   intro b hb o hbb
   have:=abl▸Kf.nd
   rw [hbb] at this
   simp only [List.cons_append,List.nil_append] at this
   exact (aou.1 this).1 hb
  have aah:∀b∈Ff,∀o,g.base≠some (b,o):=fun b hb o hbb=>sO Hf hb ⟨j,_,o,wO p0,T9,by simp [hbb]⟩
  have hoth:∀(m:Nat) (gm:GA),m≠j→gs[m]?=some gm→∀b∈gm.fo,b∈F:=by
   intro m gm e hm b hb
   obtain ⟨pm,cm,vm,im,k1,k2,k3,k4⟩:=hgj hm
   exact Kl hm (VF hm k3 (e6 m im e k3)) (anZ _ hb)
  have hPT:sU cx σ α F w r R p ⟨Rf.k,x0⟩ R.own g.cs wh g.fo rest ⟨Rf.k,Rf.x⟩ z R.tags lw ht' R.keep (zV.fo (ay j)) G (zV.hdr (ay j)) w':=by
   refine ⟨e4,rfl,fun _ h=>h,⟨f1,f2,f3⟩,f4, ?_,hcells, ?_,ags, .inl akX,⟨fun _ h=>h,(H.dz r R e3).1,(H.dz r R e3).2.2⟩, ?_,X6, ?_,hGn, ?_, .inl rfl, .inl rfl, ?_, ?_⟩
   ·intro b hb hne
    obtain ⟨m,gm,h1,h2,h3⟩:=Ke b hb hne
    by_cases e:m=j
    ·subst e
     rw [hg] at h1
     simp only [anX] at h1
     subst h1
     unfold gT at h2
     rcases an6.1 h2 with h2 | h2
     ·cases hbb:g.base with
      | none=>rw [hbb] at h2; simp at h2
      | some q=>
       rw [hbb] at h2
       simp only [aog] at h2
       rcases hbase with ⟨b',o',hw',hb'⟩ | ⟨hb',_⟩
       ·rw [hbb] at hb'
        simp only [anX] at hb'
        subst hb'
        simp only at h2
        exact .inr (.inr ⟨o',by rw [h2]; exact hw',akY (by rw [hbb]; simp)⟩)
       ·rw [hbb] at hb'; simp at hb'
     ·rcases hkb b h2 with h | h
      ·exact .inr (.inl ⟨h2,h⟩)
      ·exact absurd h.1 hne
    ·have hgm:gm.wb=false:=by
      obtain ⟨pm,cm,vm,im,k1,k2,k3,k4⟩:=hgj h1
      exact VF h1 k3 (e6 m im e k3)
     exact .inl (Kl h1 hgm h2)
   ·intro hw
    rcases hbase with ⟨b',o',hw',_⟩ | ⟨hb',_⟩
    ·rw [hw] at hw'; simp at hw'
    ·exact agf hb'
   ·intro b hb
    have hbl:b∈Ow.blk zV Rf (ay j):=anZ _ hb
    obtain ⟨m1,m2⟩:=Kf.mine b hbl
    refine hwho b (m2.imp id ?_) (aal b hb) m1
    rintro ⟨m,pi,h3,h4⟩
    obtain ⟨gm,pm,cm,vm,im,k1,k2,k3,k4,k5,rfl⟩:=sW H hJ h3
    exact ⟨m,gm,k1,h4,k5⟩
   ·intro b hb
    obtain ⟨m1,m2⟩:=jJ b (hG b hb)
    rcases hwho b m2 (aah b (hG b hb)) m1 with h | h | h
    ·rcases hkb b h with h' | h'
     ·exact .inr (.inr ⟨h,h'⟩)
     ·exact absurd (hG b hb) h'.2.1
    ·exact .inl h
    ·exact .inr (.inl h)
   ·intro b hb hbG
    exact Hf.iX (ay j) Rf hlf b (anZ _ hb) (hG b hbG)
   ·intro XX q c0 w0 fT Yg hnq _
    by_cases hpt:ah q Rf.k=[]
    ·exact vD (own:=R.own) q fT (fun t ht=>by rw [hpt] at ht; simp at ht) hnq
    ·obtain ⟨hany,b,o,hw0⟩:=Uj _ q hpt hnq
     subst hw0
     have hq:q≠[]:=fun e=>hpt (by rw [e]; simp [ah])
     have ak5:dY q Rf.k=qz :: ah q Rf.k:=by
      cases q with
      | nil=>exact absurd rfl hq
      | cons s q=>rfl
     have hto:∀t∈ah q Rf.k,az t ow=true:=fun t ht=>by
      have h1:=aoc.1 hP.just t (oQ q t ht)
      have h2:=(Yg t ht).1
      have h1':az t R.own=az t ow:=by simpa using h1
      rw [←h1',h2]
     obtain ⟨R0,r1,r2,r3,r4⟩:=hR0
     have F6:(dJ cx σ α F w ps c is gs).ptrs j q (dY q Rf.k) (.pointer (some ⟨b,o,none⟩)):=by
      refine ⟨g,R0,c0,b,o,hg,hgw,r1,by rw [r2],fun t ht=>by rw [r4]; exact hto t (r2▸ht), ?_, ?_,rfl⟩
      ·obtain ⟨R0k,R0x,_,_,_,_,_,_,_,_,_,_⟩:=R0
       simp only at r2 r3
       subst r2
       rw [eq_of_heq r3]
       exact fT
      ·rw [r2]; exact hany _
     obtain ⟨_,R2,h1,h2⟩:=Hf.wo j q _ _ F6
     rw [hRf] at h1
     simp only [anX] at h1
     subst h1
     have hno:∀t∈ht',t∉dY q Rf.k:=by
      intro t ht hm
      rw [ak5] at hm
      rcases an9.1 hm with h | h
      ·exact XX (h▸ht)
      ·exact (Yg t h).2 ht
     obtain ⟨q1,cs,b',o',q2,q3⟩:=(h2 (fun t ht hm=>hno t (l4 t hm) ht)).2 Rf hRf hvf (by
       unfold clean
       rw [aoc]
       intro t ht
       have:t∈Rf.h:=List.mem_of_mem_take ht
       simp only [Bool.not_eq_true',aV]
       exact hno t (l3 t this))
      (fun t ht=>by
       have h1:=aoc.1 XY t (oQ q t ht)
       have h1':az t Rf.own=az t ow:=by simpa using h1
       rw [h1']
       exact hto t ht)
      (by rw [qJ q (y:=x0)]; exact TE q fT)
     simp only [Value.pointer.injEq,anX,Addr.mk.injEq,and_true] at q3
     obtain ⟨rfl,rfl⟩:=q3
     exact ⟨q1,cs,(Uj _ q hpt q2).1 _⟩
   ·intro α' Tn hblk _
    have hOf:=Kf.ow hvf
    have hsame:∀t∈Rf.k.tys,az t R.own=az t Rf.own:=fun t ht=>by
     have h1:=aoc.1 hP.just t ht
     have h2:=aoc.1 XY t ht
     have h1':az t R.own=az t ow:=by simpa using h1
     have h2':az t Rf.own=az t ow:=by simpa using h2
     rw [h1',h2']
    refine rQ hsame ?_
    rcases rW with hall | rW
    ·refine gH (dA (fun t ht=>?_)) hOf
     have h2:=aoc.1 XY t ht
     have h2':az t Rf.own=az t ow:=by simpa using h2
     rw [h2']
     exact ku hall t ht
    ·refine bz (fun _ _=>rfl) (fun b hb=>?_) (fun _ _=>rfl) hOf
     refine Ov H hJ Hf (D9 H hP.lv e1 e2 hlf hg hpr hoth Tn hblk hG) (fun j' n hn i' hi' t ht=>?_) (fun m n hn=>?_) hb
     ·have h1:=aoc.1 rW _ hn
      simp only [iN,cond_true] at h1
      have h2:pV j' / 4=j':=by unfold pV; omega
      rw [h2,aM,aog] at h1
      subst h1
      rw [e1] at hi'
      simp only [anX] at hi'
      subst hi'
      rw [hP.ids] at ht
      exact ⟨t.2,ht⟩
     ·have h1:=aoc.1 rW _ hn
      have h2:Nat.beq (ay m % 4) 0=true:=by unfold ay; simp
      simp only [oK,cond_false,h2,cond_true] at h1
      simp [az] at h1
  obtain ⟨Dy,hR2,hT2,hb2,adm,_⟩:=hgo hPT
  refine ⟨Dy,hR2,D9 H hP.lv e1 e2 hlf hg hpr hoth hT2 hb2 hG,rfl,fun q hq=>?_,fun t ht=>hT2.tag ht, .inr ⟨_,_,rfl⟩,fun j' i' r' q' Zx ht0 akL hi' hw'=>?_⟩
  rotate_left
  ·have ej:j'=j:=by
    refine aoj fun hne=>?_
    rw [e6 j' i' hne hi'] at hw'
    simp at hw'
   subst ej
   rw [e1] at hi'
   simp only [anX] at hi'
   subst hi'
   rw [e2] at hw'
   simp only [anX,an8] at hw'
   obtain ⟨rfl,rfl,rfl,rfl⟩:=hw'
   obtain ⟨s1,s2,s3⟩:=aaN p hP.pin e4
   exact ⟨Rf,_,R,hRf,hvf,hg0,rfl,e3,s2,fun t ht=>hP.own t (by rw [←s3]; exact ht),fun hv'=>⟨wh,adm akL hv'⟩⟩
  have hne:q≠r:=fun e=>by rw [e,e3] at hq; simp at hq
  show (au σ r _).roots q=none
  rw [bU σ _ hne]
  exact hq
end
end
section
open Go
variable [Fr]
def O9 (σ:St) (ws:List Wr) (l:List Nat) (tags:List Tag):Prop:=
 (∀r∈l,∃n,(r,n)∈tags)∧∀t∈tags,fJ t.1=true∨(∃R,ws.find? (fun w=>w.loc.beq (.r t.1))=some (.r t.1 (some R))∧t.2=gJ R.w)∨(∃R,σ.roots t.1=some R∧t.2=gJ R.w)
theorem VU {w:Wr} {r:Nat} (h:w.loc.beq (.r r)=true):∃o,w=.r r o:=by
 cases w with
 | s n a=>simp [Wr.loc,Loc.beq] at h
 | r n o=>
  simp only [Wr.loc,Loc.beq] at h
  exact ⟨o,by rw [an1 h]⟩
theorem KH {A:Type} {z:A} {σ:St} {ws:List Wr}:∀{l:List Nat} {k:List Tag→Prog A},(Qx ws l k).ends σ z→∃tags,O9 σ ws l tags∧(k tags).ends σ z:=by
 intro l
 induction l with
 | nil=>intro k h; exact ⟨[],⟨by simp,by simp⟩,h⟩
 | cons r l ih=>
  intro k h
  unfold Qx at h
  have hadd:∀{n:Nat} {tags:List Tag},O9 σ ws l tags→(fJ r=true∨(∃R,ws.find? (fun w=>w.loc.beq (.r r))=some (.r r (some R))∧n=gJ R.w)∨(∃R,σ.roots r=some R∧n=gJ R.w))→O9 σ ws (r :: l) ((r,n) :: tags):=by
   intro n tags h1 h2
   refine ⟨fun q hq=>?_,fun t ht=>?_⟩
   ·rcases an9.1 hq with h | h
    ·subst h; exact ⟨n,by simp⟩
    ·obtain ⟨m,hm⟩:=h1.1 q h; exact ⟨m,by simp [hm]⟩
   ·rcases an9.1 ht with h | h
    ·subst h; exact h2
    ·exact h1.2 t h
  cases he:fJ r with
  | true=>
   rw [he] at h
   obtain ⟨tags,g1,g2⟩:=ih h
   exact ⟨_,hadd g1 (.inl he),g2⟩
  | false=>
   rw [he] at h
   simp only [cond_false] at h
   split at h
   ·rename_i q R hf
    have hq:q=r:=by
     have:=List.find?_some hf
     obtain ⟨o,ho⟩:=VU this
     simp only [Wr.r.injEq] at ho
     exact ho.1
    subst hq
    obtain ⟨tags,g1,g2⟩:=ih h
    exact ⟨_,hadd g1 (.inr (.inl ⟨R,hf,rfl⟩)),g2⟩
   ·exact h.elim
   ·simp only [Prog.ends] at h
    cases hr:σ.roots r with
    | none=>rw [hr] at h; exact h.elim
    | some R=>
     rw [hr] at h
     obtain ⟨tags,g1,g2⟩:=ih h
     exact ⟨_,hadd g1 (.inr (.inr ⟨R,hr,rfl⟩)),g2⟩
def WV (σ:St) (d:Nat) (is:List cK) (ws:List Wr):(rs:List kJ)→Nat→Cont (gZ rs)→List AV→List Wr→Prop
 | [],_,_,as,ws'=>as=[]∧ws'=[]
 | .val k exts iA :: rs,c,x,as,ws'=>∃tags as',O9 σ ws (bif k.flat then [] else xU (Eo is exts iA)) tags∧as=.val k x.1 tags :: as'∧WV σ d is ws rs (c+1) x.2 as' ws'
 | .own k ow exts iA :: rs,c,x,as,ws'=>∃tags as' Tx,O9 σ ws (bif k.tys.all (fun t=>az t ow) then [] else xU (Eo is exts iA)) tags∧σ.roots (aZ d c)=none∧as=.ref (aZ d c) 0 :: as'∧ws'=.r (aZ d c) (some (aL k x.1 ow tags .anon)) :: Tx∧WV σ d is ws rs (c+1) x.2 as' Tx
 | .ptr t k ow exts :: rs,c,x,as,ws'=>∃tags as' Tx,O9 σ ws (bif k.tys.all (fun t=>az t ow) then [] else xU (Eo is exts [])) tags∧σ.roots (aZ d c)=none∧as=.ptr (aZ d c) [] 0 :: as'∧ws'=.r (aZ d c) (some (aL k x.1 ow tags (.var t))) :: Tx∧WV σ d is ws rs (c+1) x.2 as' Tx
 | .into j p :: rs,c,x,as,ws'=>c=0∧p=[]∧rs=[]∧ws'=[]∧∃i r q wt ht R,is[j]?=some i∧i.wb=some (r,q,wt,ht)∧qz∉ht∧ws.find? (fun w=>w.loc.beq (.r r))=some (.r r (some R))∧as=[.xY r q (gJ R.w+gJ R.h) (show Int from x.1).toNat]
theorem Y0 {A:Type} {z:A} {σ:St} {d:Nat} {is:List cK} {ws:List Wr}:∀{rs:List kJ} {c:Nat} {x:Cont (gZ rs)} {k:List AV→List Wr→Prog A},(yR d is ws rs c x k).ends σ z→∃as ws',WV σ d is ws rs c x as ws'∧(k as ws').ends σ z:=by
 intro rs
 induction rs with
 | nil=>intro c x k h; exact ⟨[],[],⟨rfl,rfl⟩,h⟩
 | cons p rs ih=>
  intro c x k h
  cases p with
  | val kk exts iA=>
   simp only [yR] at h
   obtain ⟨tags,h1,h⟩:=KH h
   obtain ⟨as,ws',h2,h⟩:=ih h
   exact ⟨_,ws',⟨tags,as,h1,rfl,h2⟩,h⟩
  | own kk ow exts iA=>
   simp only [yR] at h
   obtain ⟨tags,h1,h⟩:=KH h
   obtain ⟨hn,h⟩:=fQ h
   obtain ⟨as,ws',h2,h⟩:=ih h
   exact ⟨_,_,⟨tags,as,ws',h1,hn,rfl,rfl,h2⟩,h⟩
  | ptr t kk ow exts=>
   simp only [yR] at h
   obtain ⟨tags,h1,h⟩:=KH h
   obtain ⟨hn,h⟩:=fQ h
   obtain ⟨as,ws',h2,h⟩:=ih h
   exact ⟨_,_,⟨tags,as,ws',h1,hn,rfl,rfl,h2⟩,h⟩
  | into j q=>
   simp only [yR] at h
   rcases aA h with ⟨hc,h⟩ | ⟨_,h⟩
   ·simp only [an3,List.isEmpty_iff] at hc
    split at h
    ·rename_i i hi
     split at h
     ·rename_i r q' wt ht hw
      split at h
      ·rename_i r' R hf
       rcases aA h with ⟨_,h⟩ | ⟨uL,h⟩
       ·exact h.elim
       have hb:=List.find?_some hf
       simp only [Wr.loc,Loc.beq] at hb
       have hb:=an1 hb
       subst hb
       exact ⟨_,_,⟨an1 hc.1.1,hc.1.2,hc.2,rfl,i,r',q',wt,ht,R,hi,hw,aV.1 uL,hf,rfl⟩,h⟩
      ·exact h.elim
     ·exact h.elim
    ·exact h.elim
   ·exact h.elim
theorem Df {n:Nat} {l:List Nat}:n∈l→n∈xU l:=by
 induction l with
 | nil=>simp
 | cons m l ih=>
  intro h
  unfold xU
  cases hm:az m l with
  | true=>
   simp only [cond_true]
   rcases an9.1 h with h | h
   ·subst h; exact ih (aM.1 hm)
   ·exact ih h
  | false=>
   simp only [cond_false]
   rcases an9.1 h with h | h
   ·subst h; simp
   ·simp [ih h]
section
variable {P:Program} {T:iV} {cx:Cx} {σ:St} {α:dL} {F:List Nat} {a:Act} {w w':World} {ps:List dF} {c:Cont (kin ps)} {vs:List Value} {is:List cK} {gs:List GA}
theorem BJ {exts iA:List Nat} {Tg U:List Tag} {l:List Nat} (ht:qD exts iA Tg=true) (hU:∀r∈l,∃n,(r,n)∈U) (hl:∀r∈Eo is exts iA,r∈l) :
  (∀j n,(pV j,n)∈Tg→∀i,is[j]?=some i→∀t∈i.ids,∃n',(t.1,n')∈U)∧(∀m n,(ay m,n)∈Tg→∀i q,is[m]?=some i→i.wb=some q→∃n',(q.1,n')∈U):=by
 refine ⟨fun j n hn i hi t ht'=>?_,fun m n hn i q hi hq=>?_⟩
 ·have h1:=aoc.1 ht _ hn
  simp only [iN,cond_true] at h1
  have h2:pV j / 4=j:=by unfold pV; omega
  rw [h2,aM] at h1
  refine hU _ (hl _ ?_)
  unfold Eo
  refine an2 _ (aoy.2 ⟨j,h1, ?_⟩)
  rw [hi]
  exact aox.2 ⟨t,ht',rfl⟩
 ·have h1:=aoc.1 ht _ hn
  have h2:Nat.beq (ay m % 4) 0=true:=by unfold ay; simp
  simp only [oK,cond_false,h2,cond_true] at h1
  rw [QB,aM] at h1
  refine hU _ (hl _ ?_)
  unfold Eo
  refine anZ _ (aoy.2 ⟨m,h1, ?_⟩)
  simp [hi,hq]
theorem Qp {d c c':Nat} (h:aZ d c=aZ d c'):c=c':=by unfold aZ at h; omega
theorem UW (H:Rel cx σ α F a w) (hJ:Zn cx σ α F a w ps c vs is gs) {Dz:St} {zV:dL} {Ff:List Nat} {af:Act} (Hf:Rel (dJ cx σ α F w ps c is gs) Dz zV Ff af w') {σ0:St} {d:Nat} {ws:List Wr} :
  ∀{rs:List kJ} {ci:Nat} {x:Cont (gZ rs)} {as:List AV} {ws':List Wr} {us:List Value} {bD:List (List Nat)} {σ':St} {α':dL},Rel cx σ' α' bD.flatten a w'→CL σ α is gs Dz zV Ff σ' α' bD.flatten→
   Jg (dJ cx σ α F w ps c is gs) Dz zV Ff w' rs x us bD→WV σ0 d is ws rs ci x as ws'→(∀l tags,O9 σ0 ws l tags→eZ σ' tags)→(∀cj,ci≤cj→σ0.roots (aZ d cj)=none→σ'.roots (aZ d cj)=none)→(∀b∈bD.flatten,b∈Ff)→
   (ci=0→∀(j:Nat) (i:cK) (r:Nat) (q:List Stp) (wt ht:List TypeId) (R:Root) (b:Option Addr) (n cp m:Nat),is[j]?=some i→i.wb=some (r,q,wt,ht)→qz∉ht→ws.find? (fun w=>w.loc.beq (.r r))=some (.r r (some R))→m≤n→bI (dJ cx σ α F w ps c is gs) Dz zV Ff w' (.ref (ay j) 0) (.slice b n cp)→
    bI cx σ' α' bD.flatten w' (.xY r q (gJ R.w+gJ R.h) m) (.slice b m cp)∧rR σ' (.xY r q (gJ R.w+gJ R.h) m))→
   ∃α'',Rel cx (aB ws' σ') α'' [] a w'∧dR cx (aB ws' σ') α'' [] w' as us∧(∀v∈as,rR (aB ws' σ') v)∧(aB ws' σ').slots=σ'.slots∧CL σ α is gs Dz zV Ff (aB ws' σ') α'' []∧
    (∀u v,rR σ' u→bI cx σ' α' bD.flatten w' u v→bI cx (aB ws' σ') α'' [] w' u v)∧(∀t,E5 σ' t→E5 (aB ws' σ') t)∧(∀u,rR σ' u→rR (aB ws' σ') u):=by
 intro rs
 induction rs with
 | nil=>
  intro ci x as ws' us bD σ' α' H' B hL hW _ _ _ _
  obtain ⟨rfl,rfl⟩:=hW
  cases us with
  | cons _ _=>exact hL.elim
  | nil=>cases bD with
   | cons _ _=>exact hL.elim
   | nil=>exact ⟨α',H',trivial,by simp,rfl,B,fun _ _ _ h=>h,fun _ h=>h,fun _ h=>h⟩
 | cons p rs ih=>
  intro ci x as ws' us bD σ' α' H' B hL hW uC hfr hFf hcut
  cases us with
  | nil=>cases p <;> exact hL.elim
  | cons u us=>
   cases bD with
   | nil=>cases p <;> exact hL.elim
   | cons fo bD=>
    cases p with
    | val k exts iA=>
     obtain ⟨⟨rfl,Tg,cs,h1,h2,h3⟩,h4⟩:=hL
     obtain ⟨tags,as',hN,rfl,hW⟩:=hW
     simp only [List.flatten_cons,List.nil_append] at H' B hFf
     obtain ⟨α'',k1,k2,k3,k4,k5,k6,k7,k8⟩:=ih H' B h4 hW uC (fun cj hc=>hfr cj (by omega)) hFf (fun h=>absurd h (Nat.succ_ne_zero _))
     refine ⟨α'',k1,⟨fun _=>⟨cs,h2, ?_⟩,k2⟩, ?_,k4,k5,by simpa using k6,k7,k8⟩
     ·cases hf:k.flat with
      | true=>exact iy hf h3
      | false=>
       rw [hf] at hN h1
       obtain ⟨b1,b2⟩:=BJ (is:=is) (h1.resolve_left (by simp)) hN.1 (fun r hr=>Df hr)
       exact gy (fun _ _=>rfl) (fun b hb=>Ov H hJ Hf k5 b1 b2 hb) h3
     ·intro v hv
      rcases an9.1 hv with h | h
      ·subst h; exact fun t ht=>k7 t (uC _ _ hN t ht)
      ·exact k3 v h
    | own k ow exts iA=>
     obtain ⟨⟨Tg,cs,own,h1,h2,h3,h5⟩,h4⟩:=hL
     obtain ⟨tags,as',Tx,hN,hn,rfl,rfl,hW⟩:=hW
     simp only [List.flatten_cons] at H' B hFf
     obtain ⟨dH,fd,hpm,hO⟩:=vk (own':=ow) (fun t ht hm=>h2 t ht hm) h5
     have hnd:=an4.1 H'.zG
     have Qe:=an4.1 (hpm.nodup hnd.1)
     have hk:(aL k x.1 ow tags .anon false).kind=.anon:=rfl
     have hn':=hfr ci (aod _) hn
     have Sq:∀b∈dH,b∈fo:=fun b hb=>hpm.mem_iff.2 (an2 _ hb)
     obtain ⟨q1,q2⟩:=Pm (R':=aL k x.1 ow tags .anon false) H' hn' (fB d ci) rfl (by simp [aL]) (uC _ _ hN) (0,0) cs dH bD.flatten
      (fun b hb=>by rw [gY hk] at hb; exact ⟨an2 _ (Sq b hb),fun h=>hnd.2.2 b (Sq b hb) b h rfl⟩) (by rw [gY hk]; exact Qe.1) (fun b hb=>anZ _ hb) hnd.2.1
      (fun _=>by
       rw [gY hk]
       show Ow (hp w') ow _ k x.1 cs dH
       cases hall:(k.tys.all fun t=>az t ow) with
       | true=>exact gH (dA (ku hall)) hO
       | false=>
        rw [hall] at hN h1
        obtain ⟨b1,b2⟩:=BJ (is:=is) (h1.resolve_left (by simp)) hN.1 (fun r hr=>Df hr)
        refine bz (fun _ _=>rfl) (fun b hb=>?_) (fun _ _=>rfl) hO
        rcases hb with hb | hb
        ·exact .inl (Ov H hJ Hf B b1 b2 hb)
        ·have hbf:b∈fo:=hpm.mem_iff.2 (anZ _ hb)
         exact .inr ⟨an2 _ hbf,fun h=>hnd.2.2 b hbf b h rfl,fun h=>Qe.2.2 b h b hb rfl⟩) (dh h5) (fun b o hb=>by rw [yY hk] at hb; simp at hb)
     have hB2:CL σ α is gs Dz zV Ff (au σ' (aZ d ci) (aL k x.1 ow tags .anon false)) (aG α' (aZ d ci) (0,0) cs dH) bD.flatten:=by
      refine ⟨fun q Q b hq hb=>?_,fun b hb=>hFf b (anZ _ hb)⟩
      rcases jw hq with ⟨rfl,rfl,_⟩ | ⟨e,hq'⟩
      ·rw [eG,gY hk] at hb
       exact .inl (hFf b (an2 _ (Sq b hb)))
      ·rw [(iw (σ:=σ') (α:=α') (R:=aL k x.1 ow tags .anon false) e).blk] at hb
       exact B.blk q Q b hq' hb
     have XN:∀u v,rR σ' u→bI cx σ' α' (fo++bD.flatten) w' u v→bI cx (au σ' (aZ d ci) (aL k x.1 ow tags .anon false)) (aG α' (aZ d ci) (0,0) cs dH) bD.flatten w' u v:=fun u v hu hv=>
      q2.av H' (fun r R hr hs=>absurd (iw (fun e=>by have:=hr.1; rw [e,hn'] at this; simp at this)) hs) (fun r R hr hs=>absurd (iw (fun e=>by have:=hr.1; rw [e,hn'] at this; simp at this)) hs) hu hv
     obtain ⟨α'',k1,k2,k3,k4,k5,k6,k7,k8⟩:=ih (ci:=ci+1) q1 hB2 h4 hW (fun l tags hN t ht=>q2.tag (uC l tags hN t ht)) (fun cj hc h=>by
      rw [bU]
      ·exact hfr cj (by omega) h
      ·intro e; have:=Qp e; omega) (fun b hb=>hFf b (anZ _ hb)) (fun h=>absurd h (Nat.succ_ne_zero _))
     have hroot:(au σ' (aZ d ci) (aL k x.1 ow tags .anon false)).roots (aZ d ci)=some (aL k x.1 ow tags .anon false):=aI ..
     have Qg:rR (au σ' (aZ d ci) (aL k x.1 ow tags .anon false)) (.ref (aZ d ci) 0):=⟨_,hroot, .inr (aov _)⟩
     refine ⟨α'',k1,⟨k6 _ _ Qg (YK h3),k2⟩, ?_,k4,k5,fun u v hu hv=>?_,fun t ht=>k7 t (q2.tag ht),fun u hu=>k8 u (q2.rR hu)⟩
     ·intro v hv
      rcases an9.1 hv with h | h
      ·subst h
       exact k8 _ Qg
      ·exact k3 v h
     ·exact k6 u v (q2.rR hu) (XN u v hu hv)
    | ptr t k ow exts=>
     obtain ⟨⟨b0,o0,Tg,cs,own,xV,h3,rfl,h1,h2,hmem,h5⟩,h4⟩:=hL
     obtain ⟨tags,as',Tx,hN,hn,rfl,rfl,hW⟩:=hW
     simp only [List.flatten_cons] at H' B hFf
     obtain ⟨dH,fd,hpm,hO⟩:=vk (own':=ow) (fun t ht hm=>h2 t ht hm) h5
     have hnd:=an4.1 H'.zG
     have sI:=aou.1 hnd.1
     have Qe:=an4.1 (hpm.nodup sI.2)
     have hk:(aL k x.1 ow tags (.var t) false).kind=.var t:=rfl
     have hn':=hfr ci (aod _) hn
     have Sq:∀b∈b0 :: dH,b∈b0 :: xV:=fun b hb=>by
      rcases an9.1 hb with h | h
      ·rw [h]; exact aot
      ·exact aol _ (hpm.mem_iff.2 (an2 _ h))
     obtain ⟨q1,q2⟩:=Pm (R':=aL k x.1 ow tags (.var t) false) H' hn' (fB d ci) rfl (by simp [aL]) (uC _ _ hN) (b0,o0) cs dH bD.flatten
      (fun b hb=>by rw [vH hk] at hb; exact ⟨an2 _ (Sq b hb),fun h=>hnd.2.2 b (Sq b hb) b h rfl⟩) (by rw [vH hk]; exact aou.2 ⟨fun h=>sI.1 (hpm.mem_iff.2 (an2 _ h)),Qe.1⟩) (fun b hb=>anZ _ hb) hnd.2.1
      (fun _=>by
       rw [vH hk]
       show Ow (hp w') ow _ k x.1 cs dH
       cases hall:(k.tys.all fun t=>az t ow) with
       | true=>exact gH (dA (ku hall)) hO
       | false=>
        rw [hall] at hN h1
        obtain ⟨b1,b2⟩:=BJ (is:=is) (h1.resolve_left (by simp)) hN.1 (fun r hr=>Df hr)
        refine bz (fun _ _=>rfl) (fun b hb=>?_) (fun _ _=>rfl) hO
        rcases hb with hb | hb
        ·exact .inl (Ov H hJ Hf B b1 b2 hb)
        ·have hbf:b∈b0 :: xV:=aol _ (hpm.mem_iff.2 (anZ _ hb))
         exact .inr ⟨an2 _ hbf,fun h=>hnd.2.2 b hbf b h rfl,fun h=>by
          rcases an9.1 h with h | h
          ·subst h; exact sI.1 (hpm.mem_iff.2 (anZ _ hb))
          ·exact Qe.2.2 b h b hb rfl⟩) (dh h5) (fun b o hb=>by
       rw [QZ hk] at hb
       simp only [anX,an8] at hb
       obtain ⟨rfl,rfl⟩:=hb
       obtain ⟨m1,arr,e,lo,hi,m2,m3,m4,m5⟩:=hmem
       exact ⟨m1,arr,e,lo,hi,m2,m3,m4,fun u hu=>by rw [m5]; rw [hk] at hu; simpa using hu⟩)
     have hB2:CL σ α is gs Dz zV Ff (au σ' (aZ d ci) (aL k x.1 ow tags (.var t) false)) (aG α' (aZ d ci) (b0,o0) cs dH) bD.flatten:=by
      refine ⟨fun q Q b hq hb=>?_,fun b hb=>hFf b (anZ _ hb)⟩
      rcases jw hq with ⟨rfl,rfl,_⟩ | ⟨e,hq'⟩
      ·rw [eG,vH hk] at hb
       exact .inl (hFf b (an2 _ (Sq b hb)))
      ·rw [(iw (σ:=σ') (α:=α') (R:=aL k x.1 ow tags (.var t) false) e).blk] at hb
       exact B.blk q Q b hq' hb
     have XN:∀u v,rR σ' u→bI cx σ' α' ((b0 :: xV)++bD.flatten) w' u v→bI cx (au σ' (aZ d ci) (aL k x.1 ow tags (.var t) false)) (aG α' (aZ d ci) (b0,o0) cs dH) bD.flatten w' u v:=fun u v hu hv=>
      q2.av H' (fun r R hr hs=>absurd (iw (fun e=>by have:=hr.1; rw [e,hn'] at this; simp at this)) hs) (fun r R hr hs=>absurd (iw (fun e=>by have:=hr.1; rw [e,hn'] at this; simp at this)) hs) hu hv
     obtain ⟨α'',k1,k2,k3,k4,k5,k6,k7,k8⟩:=ih (ci:=ci+1) q1 hB2 h4 hW (fun l tags hN t ht=>q2.tag (uC l tags hN t ht)) (fun cj hc h=>by
      rw [bU]
      ·exact hfr cj (by omega) h
      ·intro e; have:=Qp e; omega) (fun b hb=>hFf b (anZ _ hb)) (fun h=>absurd h (Nat.succ_ne_zero _))
     have hroot:(au σ' (aZ d ci) (aL k x.1 ow tags (.var t) false)).roots (aZ d ci)=some (aL k x.1 ow tags (.var t) false):=aI ..
     have Qg:rR (au σ' (aZ d ci) (aL k x.1 ow tags (.var t) false)) (.ptr (aZ d ci) [] 0):=⟨_,hroot, .inr (aov _)⟩
     refine ⟨α'',k1,⟨k6 _ _ Qg (by rw [h3]; exact aaF),k2⟩, ?_,k4,k5,fun u v hu hv=>?_,fun t ht=>k7 t (q2.tag ht),fun u hu=>k8 u (q2.rR hu)⟩
     ·intro v hv
      rcases an9.1 hv with h | h
      ·subst h
       exact k8 _ Qg
      ·exact k3 v h
     ·exact k6 u v (q2.rR hu) (XN u v hu hv)
    | into j q=>
     obtain ⟨⟨rfl,_,b,n,cp,e1,e2,e3⟩,h4⟩:=hL
     obtain ⟨hci,_,rfl,rfl,i,r,q',wt,ht,R,g1,g2,g0,g3,rfl⟩:=hW
     cases us with
     | cons _ _=>exact h4.elim
     | nil=>
      cases bD with
      | cons _ _=>exact h4.elim
      | nil=>
       obtain ⟨k1,k2⟩:=hcut hci j i r q' wt ht R b n cp _ g1 g2 g0 g3 e2 e3
       simp only [List.flatten_cons,List.flatten_nil,aoq] at H' k1
       simp only [List.flatten_cons,List.flatten_nil,aoq] at B
       refine ⟨α',H',⟨by rw [e1]; exact k1,trivial⟩,fun v hv=>?_,rfl,B,fun _ _ _ h=>?_,fun _ h=>h,fun _ h=>h⟩
       ·simp only [aog] at hv
        subst hv
        exact k2
       ·simp only [List.flatten_cons,List.flatten_nil,aoq] at h
        exact h
end
end
section
open Go
variable [Fr]
section
variable {P:Program} {T:iV} {cx:Cx} {σ:St} {α:dL} {F:List Nat} {a:Act} {w w':World}
theorem acn:∀{ps:List dF} {c:Cont (kin ps)} {vs:List Value} {is:List cK} {ts:List (Value×iD)},TB cx σ α F a w ps c vs is ts→
  is.flatMap cK.ws=uJ ts∧(∀q∈ts,xm cx σ α F w q.1 q.2)∧(∀t∈qP ts,∃(j:Nat) (i:cK) (k:K) (ow:List TypeId),ps[j]?=some (.own k ow)∧is[j]?=some i∧t∈i.ids)∧vs.length=ps.length∧is.length=ps.length:=by
 intro ps
 induction ps with
 | nil=>
  intro c vs is ts h
  cases vs with
  | cons _ _=>exact h.elim
  | nil=>cases is with
   | cons _ _=>exact h.elim
   | nil=>cases ts with
    | cons _ _=>exact h.elim
    | nil=>exact ⟨rfl,by simp,by simp [qP],rfl,rfl⟩
 | cons p ps ih=>
  intro c vs is ts h
  cases vs with
  | nil=>cases p <;> exact h.elim
  | cons v vs=>
   cases is with
   | nil=>cases p <;> exact h.elim
   | cons i is=>
    have hshift:∀{ts:List (Value×iD)},(∀t∈qP ts,∃(j:Nat) (i:cK) (k:K) (ow:List TypeId),ps[j]?=some (.own k ow)∧is[j]?=some i∧t∈i.ids)→∀t∈qP ts,∃(j:Nat) (i':cK) (k:K) (ow:List TypeId),(p :: ps)[j]?=some (.own k ow)∧(i :: is)[j]?=some i'∧t∈i'.ids:=by
     intro ts h t ht
     obtain ⟨j,i',k,ow,h1,h2,h3⟩:=h t ht
     exact ⟨j+1,i',k,ow,by simpa using h1,by simpa using h2,h3⟩
    cases p with
    | val k iA=>obtain ⟨⟨_,h1,_⟩,h6⟩:=h; obtain ⟨g1,g2,g3,g4,g5⟩:=ih h6; exact ⟨by simp [h1,g1],g2,hshift g3,by simp [g4],by simp [g5]⟩
    | ro k=>obtain ⟨⟨_,h1,_⟩,h6⟩:=h; obtain ⟨g1,g2,g3,g4,g5⟩:=ih h6; exact ⟨by simp [h1,g1],g2,hshift g3,by simp [g4],by simp [g5]⟩
    | rw k ow wt ht=>obtain ⟨⟨r,R,p,hP,_⟩,h6⟩:=h; obtain ⟨g1,g2,g3,g4,g5⟩:=ih h6; exact ⟨by simp [hP.ws,g1],g2,hshift g3,by simp [g4],by simp [g5]⟩
    | jC k ow wt=>obtain ⟨⟨r,R,p,hP,_⟩,h6⟩:=h; obtain ⟨g1,g2,g3,g4,g5⟩:=ih h6; exact ⟨by simp [hP.ws,g1],g2,hshift g3,by simp [g4],by simp [g5]⟩
    | fn f ks=>obtain ⟨⟨_,h1,_⟩,h6⟩:=h; obtain ⟨g1,g2,g3,g4,g5⟩:=ih h6; exact ⟨by simp [h1,g1],g2,hshift g3,by simp [g4],by simp [g5]⟩
    | own k ow=>
     cases ts with
     | nil=>exact h.elim
     | cons q ts=>
      obtain ⟨⟨h1,h2,h3,h4,h5⟩,h6⟩:=h
      obtain ⟨g1,g2,g3,g4,g5⟩:=ih h6
      refine ⟨?_, ?_, ?_,by simp [g4],by simp [g5]⟩
      ·rw [h3]; simp [g1,uJ]
      ·intro q' hq
       rcases an9.1 hq with h | h
       ·subst h; rw [h1]; exact h2
       ·exact g2 q' h
      ·intro t ht
       simp only [qP,List.flatMap_cons,an6] at ht
       rcases ht with ht | ht
       ·exact ⟨0,i,k,ow,rfl,rfl,by rw [h3]; exact ht⟩
       ·exact hshift g3 t ht
    | into j q=>obtain ⟨⟨_,h1,_⟩,h6⟩:=h; obtain ⟨g1,g2,g3,g4,g5⟩:=ih h6; exact ⟨by simp [h1,g1],g2,hshift g3,by simp [g4],by simp [g5]⟩
theorem KN {r:Nat}:∀{is:List cK} {n m:Nat},Af r is n=some m→∃i q,n≤m∧is[m - n]?=some i∧i.wb=some (r,q):=by
 intro is
 induction is with
 | nil=>intro n m h; simp [Af] at h
 | cons i is ih=>
  intro n m h
  unfold Af at h
  have hrec:Af r is (n+1)=some m→∃i' q,n≤m∧(i :: is)[m - n]?=some i'∧i'.wb=some (r,q):=by
   intro h
   obtain ⟨i',q,h1,h2,h3⟩:=ih h
   refine ⟨i',q,by omega, ?_,h3⟩
   have:m - n=(m - (n+1))+1:=by omega
   rw [this]
   simpa using h2
  cases hw:i.wb with
  | none=>rw [hw] at h; exact hrec h
  | some q=>
   rw [hw] at h
   simp only at h
   cases hb:Nat.beq r q.1 with
   | true=>
    rw [hb] at h
    simp only [cond_true,anX] at h
    subst h
    exact ⟨i,q.2,aod _,by simp,by rw [hw,an1 hb]⟩
   | false=>rw [hb] at h; exact hrec h
theorem SI {r:Nat}:∀{is:List cK} {n:Nat},Af r is n=none→∀i∈is,∀q,i.wb≠some (r,q):=by
 intro is
 induction is with
 | nil=>intro n _ i hi; simp at hi
 | cons i is ih=>
  intro n h i' hi q he
  unfold Af at h
  rcases an9.1 hi with h' | h'
  ·subst h'
   rw [he] at h
   simp at h
  ·cases hw:i.wb with
   | none=>rw [hw] at h; exact ih h i' h' q he
   | some q'=>
    rw [hw] at h
    simp only at h
    cases hb:Nat.beq r q'.1 with
    | true=>rw [hb] at h; simp at h
    | false=>rw [hb] at h; exact ih h i' h' q he
theorem KM:∀{is:List cK} {j j':Nat} {i i':cK},ED is=true→is[j]?=some i→is[j']?=some i'→i.wb≠none→i'.wb≠none→j=j':=by
 intro is
 induction is with
 | nil=>intro j j' i i' _ h; simp at h
 | cons x is ih=>
  intro j j' i i' ho h1 h2 h3 h4
  cases j with
  | zero=>
   simp only [List.getElem?_cons_zero,anX] at h1
   subst h1
   cases j' with
   | zero=>rfl
   | succ j'=>
    rcases wE ho with ⟨h,_⟩ | ⟨_,h⟩
    ·exact absurd h h3
    ·exact absurd (h i' (List.mem_of_getElem? (by simpa using h2))) h4
  | succ j=>
   cases j' with
   | zero=>
    simp only [List.getElem?_cons_zero,anX] at h2
    subst h2
    rcases wE ho with ⟨h,_⟩ | ⟨_,h⟩
    ·exact absurd h h4
    ·exact absurd (h i (List.mem_of_getElem? (by simpa using h1))) h3
   | succ j'=>
    rcases wE ho with ⟨_,h⟩ | ⟨_,h⟩
    ·have:=ih h (by simpa using h1) (by simpa using h2) h3 h4; omega
    ·exact absurd (h i (List.mem_of_getElem? (by simpa using h1))) h3
def Xa (is:List cK) (p:dF) (i:cK):Prop:=
 (∃(k:K) (iA:List Nat),p=.val k iA∧(∀m∈iA,∃q:cK,is[m]?=some q∧q.wb≠none)∧∀t∈i.ids,(∃(n:Nat) (j':cK),Af t.1 is 0=some n∧n∈iA∧is[n]?=some j'∧∀b∈j'.bt,b∉k.tys)∨(Af t.1 is 0=none∧t.1∉is.flatMap fun j=>j.ws.flatMap Wr.um))∨
  ((∀k iA,p≠.val k iA)∧∀t∈i.ids,t.1∉is.flatMap cK.touched)
theorem OP {is:List cK}:∀{ps:List dF} {l:List cK},xN is ps l=true→∀(j:Nat) (p:dF) (i:cK),ps[j]?=some p→l[j]?=some i→Xa is p i:=by
 intro ps
 induction ps with
 | nil=>intro l _ j p i hp; simp at hp
 | cons p ps ih=>
  intro l h j q i hq hi
  cases l with
  | nil=>cases p <;> simp [xN] at h
  | cons x l=>
   have hhead:(j=0→q=p∧i=x):=by
    intro e
    subst e
    simp only [List.getElem?_cons_zero,anX] at hq hi
    exact ⟨hq.symm,hi.symm⟩
   have abB:xN is ps l=true→j≠0→Xa is q i:=by
    intro h hj
    obtain ⟨j',rfl⟩:∃j',j=j'+1:=⟨j - 1,by omega⟩
    exact ih h j' q i (by simpa using hq) (by simpa using hi)
   have hother:(∀(k:K) (iA:List Nat),p≠.val k iA)→(x.ids.all (fun t=>!az t.1 (is.flatMap cK.touched)) && xN is ps l)=true→Xa is q i:=by
    intro hp hx
    rw [an3] at hx
    by_cases hj:j=0
    ·obtain ⟨e1,e2⟩:=hhead hj
     rw [e1,e2]
     refine .inr ⟨hp,fun t ht=>?_⟩
     have:=aoc.1 hx.1 t ht
     simpa [aV] using this
    ·exact abB hx.2 hj
   cases p with
   | val k iA=>
    simp only [xN,an3] at h
    by_cases hj:j=0
    ·obtain ⟨rfl,rfl⟩:=hhead hj
     refine .inl ⟨k,iA,rfl,fun m hm=>?_,fun t ht=>?_⟩
     ·have:=aoc.1 h.1.1 m hm
      cases hmi:is[m]? with
      | none=>rw [hmi] at this; simp at this
      | some q=>
       rw [hmi] at this
       refine ⟨q,rfl,fun e=>?_⟩
       simp [e] at this
     ·have:=aoc.1 h.1.2 t ht
      cases hpo:Af t.1 is 0 with
      | none=>
       rw [hpo] at this
       refine .inr ⟨rfl, ?_⟩
       simpa [aV] using this
      | some n=>
       rw [hpo] at this
       simp only [an3] at this
       cases hni:is[n]? with
       | none=>rw [hni] at this; simp at this
       | some j'=>
        rw [hni] at this
        refine .inl ⟨n,j',rfl,aM.1 this.1,hni,fun b hb=>?_⟩
        have h2:=aoc.1 this.2 b hb
        simpa [aV] using h2
    ·exact abB h.2 hj
   | ro k=>exact hother (by simp) h
   | rw k ow wt ht=>exact hother (by simp) h
   | jC k ow wt=>exact hother (by simp) h
   | own k ow=>exact hother (by simp) h
   | fn f ks=>exact hother (by simp) h
   | into j q=>exact hother (by simp) h
theorem OX {σ1:St}:∀{ps:List dF} {is:List cK} {c:Cont (jL ps)} {ws:List Wr},(∀i∈is,∀r q,i.wb=some (r,q)→σ1.roots r=σ.roots r)→vN σ ps is c ws→vN σ1 ps is c ws:=by
 intro ps
 induction ps with
 | nil=>
  intro is c ws _ h
  cases is with
  | nil=>exact h
  | cons _ _=>exact h.elim
 | cons p ps ih=>
  intro is c ws hr h
  cases is with
  | nil=>cases p <;> exact h.elim
  | cons i is=>
   have hr':∀i∈is,∀r q,i.wb=some (r,q)→σ1.roots r=σ.roots r:=fun i hi=>hr i (by simp [hi])
   cases p with
   | rw kk ow Zx ht0=>obtain ⟨r,p,wt,ht,R,z,ws',h1,h2,h3,h4,h5⟩:=h; exact ⟨r,p,wt,ht,R,z,ws',h1,by rw [hr i (by simp) r _ h1]; exact h2,h3,h4,ih hr' h5⟩
   | jC kk ow Zx=>obtain ⟨r,p,wt,ht,R,z,ws',h1,h2,h3,h4,h5⟩:=h; exact ⟨r,p,wt,ht,R,z,ws',h1,by rw [hr i (by simp) r _ h1]; exact h2,h3,h4,ih hr' h5⟩
   | val _ _=>exact ih hr' h
   | ro _=>exact ih hr' h
   | own _ _=>exact ih hr' h
   | fn _ _=>exact ih hr' h
   | into _ _=>exact ih hr' h
theorem Xk {as:List AV} {us:List Value} (h:dR cx σ α F w as us):iT cx σ α F w (Xj as) (Zh us):=by
 cases as with
 | nil=>cases us with
  | nil=>exact ⟨[],rfl,trivial⟩
  | cons _ _=>exact h.elim
 | cons x as=>cases us with
  | nil=>exact h.elim
  | cons u us=>
   cases as with
   | nil=>cases us with
    | nil=>exact h.1
    | cons _ _=>exact h.2.elim
   | cons y as=>cases us with
    | nil=>exact h.2.elim
    | cons u' us=>exact ⟨u :: u' :: us,rfl,h⟩
theorem ZY {as:List AV} (h:∀v∈as,rR σ v):xS σ (Xj as):=by
 cases as with
 | nil=>exact fun a ha=>by simp at ha
 | cons x as=>cases as with
  | nil=>exact h x (by simp)
  | cons y as=>exact h
theorem Ga {A:Type} {f g:A→List Nat}:∀{l:List A},(∀x∈l,(g x).Sublist (f x))→(l.flatMap f).Nodup→(l.flatMap g).Nodup:=by
 intro l hs h
 refine h.sublist ?_
 clear h
 induction l with
 | nil=>simp
 | cons x l ih=>
  simp only [List.flatMap_cons]
  exact (hs x (by simp)).append (ih (fun y hy=>hs y (by simp [hy])))
theorem J4 {A:Type} {f:A→List Nat}:∀{l:List A} {x:A},x∈l→(l.flatMap f).Nodup→(f x).Nodup:=by
 intro l
 induction l with
 | nil=>intro x hx; simp at hx
 | cons y l ih=>
  intro x hx h
  simp only [List.flatMap_cons] at h
  have n:=an4.1 h
  rcases an9.1 hx with h1 | h1
  ·subst h1; exact n.1
  ·exact ih h1 n.2.1
theorem Fe.mono {f:FuncId} {args:Array Value} {R R':Value→World→Prop} (h:Fe P f args w R) (hr:∀v w',R v w'→R' v w'):Fe P f args w R':=by
 rcases h with ⟨h1,h2⟩ | ⟨v,w',h1,h2⟩
 ·exact .inl ⟨h1,h2.mono fun e w' ⟨v,he,h⟩=>⟨v,he,hr _ _ h⟩⟩
 ·exact .inr ⟨v,w',h1,hr _ _ h2⟩
theorem U1 {n:Nat} {E:Entry} (hE:aj P n E) (H:Rel cx σ α F a w) {dst:Option Nat} {Mq:List AV} {vs:List Value} (hl:dR cx σ α F w Mq vs) (hlw:∀v∈Mq,rR σ v) (hdn:∀d,dst=some d→d<cx.nt) {ws:List Wr}
  (h:(Xn n E dst Mq fun ws=>(.ret ws:Prog (List Wr))).ends σ ws):Fe P E.f vs.toArray w fun v w'=>∃α' F',Rel cx (aB ws σ) α' F' (a.put dst v) w':=by
 unfold Xn at h
 obtain ⟨c,is,ts,hG,h⟩:=Sk H hl hlw h
 obtain ⟨gw,gt,gtt,gl1,gl2⟩:=acn hG
 rcases aA h with ⟨hc,h⟩ | ⟨_,h⟩
 ·rw [an3,an3] at hc
  obtain ⟨⟨hap,ho⟩,hvo⟩:=hc
  have hnd:=vT.1 hap
  obtain ⟨out,hout,h⟩:=h
  obtain ⟨ws2,hB,h⟩:=UZ h
  have hvs:=OP hvo
  have VD:(uJ ts).flatMap Wr.um=is.flatMap fun i=>i.ws.flatMap Wr.um:=by rw [←gw,List.flatMap_assoc]
  have agH:((uJ ts).flatMap Wr.um).Nodup:=by
   rw [VD]
   exact Ga (fun i _=>by unfold cK.touched; exact List.sublist_append_right _ _) hnd
  have agI:∀r,r∈(uJ ts).flatMap Wr.um→r∈is.flatMap cK.touched:=by
   intro r hr
   rw [VD] at hr
   obtain ⟨i,hi,h1⟩:=aoy.1 hr
   exact aoy.2 ⟨i,hi,by unfold cK.touched; exact anZ _ h1⟩
  have agR:∀(m:Nat) (i:cK) r q,is[m]?=some i→i.wb=some (r,q)→r∉(uJ ts).flatMap Wr.um:=by
   intro m i r q hi hw hr
   rw [VD] at hr
   obtain ⟨i',hi',h1⟩:=aoy.1 hr
   obtain ⟨m',hm',he⟩:=List.mem_iff_getElem.1 hi'
   have hi2:is[m']?=some i':=by rw [aob hm',he]
   have ht1:r∈i.touched:=by unfold cK.touched; rw [hw]; simp
   by_cases e:m=m'
   ·subst e
    rw [hi] at hi2
    simp only [anX] at hi2
    subst hi2
    have:=J4 hi' hnd
    unfold cK.touched at this
    rw [hw] at this
    simp only [List.cons_append,List.nil_append] at this
    exact (aou.1 this).1 h1
   ·exact flatMap_apart hnd hi hi2 e r ht1 (by unfold cK.touched; exact anZ _ h1)
  have aap:∀(j:Nat) (i:cK),is[j]?=some i→∀t∈i.ids,t.1∉(uJ ts).flatMap Wr.um:=by
   intro j i hi t ht hr
   have hj:j<E.ps.length:=by have:=(List.getElem?_eq_some_iff.1 hi).1; omega
   rcases hvs j E.ps[j] i (aob hj) hi with ⟨k,iA,_,_,h1⟩ | ⟨_,h1⟩
   ·rcases h1 t ht with ⟨n,j',h2,_,_,_⟩ | ⟨_,h2⟩
    ·obtain ⟨i',q,_,h3,h4⟩:=KN h2
     simp only [Nat.sub_zero] at h3
     exact agR n i' t.1 q h3 h4 hr
    ·exact h2 (by rw [←VD]; exact hr)
   ·exact h1 t ht (agI _ hr)
  obtain ⟨dK,F1,hs,H1,hA1,Em,hnF1,amT,hS1,_,hV1,agM,adk⟩:=takes ts H gt agH (fun t ht=>by
   obtain ⟨j,i,k,ow,h1,h2,h3⟩:=gtt t ht
   exact aap j i h2 t h3)
  have af5:∀i∈is,∀t∈i.ids,Same σ α (aB (uJ ts) σ) dK t.1:=by
   intro i hi t ht
   obtain ⟨j,hj,he⟩:=List.mem_iff_getElem.1 hi
   exact hS1 _ (aap j i (by rw [aob hj,he]) t ht)
  have af6:∀i∈is,∀r q,i.wb=some (r,q)→Same σ α (aB (uJ ts) σ) dK r:=by
   intro i hi r q hw
   obtain ⟨j,hj,he⟩:=List.mem_iff_getElem.1 hi
   exact hS1 _ (agR j i r q (by rw [aob hj,he]) hw)
  obtain ⟨gs,hJ,hfl⟩:=Ry H1 hV1 hG hA1 af5 af6
  obtain ⟨lv,li,lg,hat⟩:=hJ.at (i0:=0)
  have hA:Apart cx (aB (uJ ts) σ) dK F1 w E.ps is gs:=by
   refine ⟨fun j j' g g' hg hg' hw hw'=>?_,by rw [hfl]; exact Em,fun j p i r n hp hi hn m i' q hm hq=>?_,fun j p hp m hm=>?_⟩
   ·have hget:∀{j:Nat} {g:GA},gs[j]?=some g→g.wb=true→∃i,is[j]?=some i∧i.wb≠none:=by
     intro j g hg hw
     have hj:j<E.ps.length:=by have:=(List.getElem?_eq_some_iff.1 hg).1; omega
     obtain ⟨cj,v,i,g',e1,e2,e3,e4,_⟩:=hat j E.ps[j] (aob hj)
     rw [hg] at e3
     simp only [anX] at e3
     subst e3
     exact ⟨i,e2,(nS H1 e4).2.2.2.1 hw⟩
    obtain ⟨i,h1,h2⟩:=hget hg hw
    obtain ⟨i',h3,h4⟩:=hget hg' hw'
    exact KM ho h1 h3 h2 h4
   ·rcases hvs j p i hp hi with ⟨k,iA,h0,_,h1⟩ | ⟨_,h1⟩
    ·rcases h1 (r,n) hn with ⟨n',j',h2,h3,h4,h5⟩ | ⟨h2,_⟩
     ·obtain ⟨i'',q',_,h6,h7⟩:=KN h2
      simp only [Nat.sub_zero] at h6
      have e:=KM ho h6 hm (by rw [h7]; simp) (by rw [hq]; simp)
      subst e
      rw [hm] at h4
      simp only [anX] at h4
      subst h4
      subst h0
      exact ⟨h3,k,iA,rfl,h5⟩
     ·exact absurd hq (SI h2 i' (List.mem_of_getElem? hm) q)
    ·refine absurd ?_ (h1 (r,n) hn)
     exact aoy.2 ⟨i',List.mem_of_getElem? hm,by unfold cK.touched; rw [hq]; simp⟩
   ·have hj:j<is.length:=by have:=(List.getElem?_eq_some_iff.1 hp).1; omega
    rcases hvs j p is[j] hp (aob hj) with ⟨k,iA,h0,h1,_⟩ | ⟨h0,_⟩
    ·subst h0
     obtain ⟨q,h2,h3⟩:=h1 m hm
     cases hw:q.wb with
     | none=>exact absurd hw h3
     | some u=>exact ⟨q,u,h2,hw⟩
    ·cases p with
     | val k iA=>exact absurd rfl (h0 k iA)
     | _=>simp [KO] at hm
  have hinit:=aay H1 hJ hA
  have agD:FK (dJ cx (aB (uJ ts) σ) dK F1 w E.ps c is gs) E.ps:=LZ H1 hJ
  refine (hE c out hout _ _ vs.toArray w rfl rfl (by simpa using gl1) agD hinit).mono ?_
  rintro v w' ⟨Dz,zV,Ff,af,us,bD,Hf,hv,hRL,hfn,Q8,hOL⟩
  have hB1:vN (aB (uJ ts) σ) E.ps is (Cont.snd (gZ E.rs) (jL E.ps) out) ws2:=OX (fun i hi r q hw=>(af6 i hi r q hw).root) hB
  obtain ⟨Dy,H2,hBS,hsl2,adl,agN,VG,ado⟩:=RA H1 hJ ho Hf hB1 hOL Q8 hfn
  have ak0:∀l tags,O9 σ ws2 l tags→eZ (aB ws2 (aB (uJ ts) σ)) tags:=by
   intro l tags hN t ht
   rcases hN.2 t ht with h | ⟨R,hf,hn⟩ | ⟨R,hr,hn⟩
   ·exact .inl h
   ·rcases VG with rfl | ⟨r,R',rfl⟩
    ·simp at hf
    ·have hm:=List.mem_of_find?_eq_some hf
     simp only [aog,Wr.r.injEq,anX] at hm
     obtain ⟨h1,h2⟩:=hm
     refine .inr ⟨R, ?_, .inr (by rw [hn]; exact aod _)⟩
     rw [h1,h2]
     exact aI ..
   ·exact agN t (agM t (.inr ⟨R,hr, .inr (by rw [hn]; exact aod _)⟩))
  cases dst with
  | none=>
   simp only at h
   rw [aC h,bN,gw]
   exact ⟨Dy,_,H2⟩
  | some d=>
   simp only at h
   obtain ⟨as,ws3,hW,h⟩:=Y0 h
   rw [aC h,bN,bN,bN,gw]
   obtain ⟨α3,k1,k2,k3,k4,_⟩:=UW H1 hJ Hf H2 hBS hRL hW ak0 (fun cj _ hn=>adl _ (adk _ hn)) Q8 (fun _ j i r q wt ht R b n cp m g1 g2 g0 g3 g4 g5=>by
    obtain ⟨Rf,R',R0,p1,p2,p3,p4,p5,p6,p7,p8⟩:=ado j i r q wt ht g0 g1 g2
    have eR:R=R':=by
     rw [p4] at g3
     simp [Wr.loc,Loc.beq] at g3
     exact g3.symm
    subst eR
    have hroot:(aB ws2 (aB (uJ ts) σ)).roots r=some R:=by
     rw [p4]; exact aI ..
    refine ⟨⟨b,cp,rfl,fun R2 hR2 hv2 _ dd hdd=>?_⟩,R,hroot, .inr (aod _)⟩
    rw [hroot] at hR2
    simp only [anX] at hR2
    subst hR2
    obtain ⟨wh,Cm⟩:=p8 hv2
    obtain ⟨hk,FZ⟩:=g5 Rf ⟨p1,p2.1⟩ p3
    have hh:zV.hdr (ay j)=[.slice b n cp]:=by
     unfold VC at FZ
     split at FZ
     ·simp at FZ
     ·exact FZ.1
    exact ⟨p6,p7,n,wh,by rw [←hh]; exact Cm,g4⟩)
   refine ⟨α3,[], ?_⟩
   rw [hv]
   exact k1.put (hdn d rfl) (ZY k3) (Xk k2)
 ·exact h.elim
end
end
section
open Go
variable [Fr]
section
variable {P:Program} {T:iV} {cx:Cx} {σ:St} {α:dL} {F:List Nat} {a:Act} {w:World} {o:Oper} {ws:List Wr} {hi:Hint} {n:Nat}
def abZ (P:Program) (cx:Cx) (o:Oper) (a:Act) (w:World) (σ':St):Prop:=
 ∀(K:Act→World→Prop) (Q:Exit→Act→World→Prop),(∀α' F' a' w',Rel cx σ' α' F' a' w'→K a' w')→o.wp P a w K Q
theorem qU.toW {σ':St} (h:qU P cx o a w σ'):abZ P cx o a w σ':=fun K Q hK=>h.wp hK
def uZ (P:Program) (n:Nat) (hi:Hint):Prop:=∀q∈hi.calls,aj P n q.2.2
theorem N8 {f d:Nat}:∀{l:List (Nat×Option Nat×Entry)} {E:Entry},uA f d l=some E→∃q∈l,q.2.2=E:=by
 intro l
 induction l with
 | nil=>intro E h; simp [uA] at h
 | cons q l ih=>
  intro E h
  obtain ⟨g,od,E'⟩:=q
  cases od with
  | none=>
   unfold uA at h
   cases hb:Nat.beq f g with
   | true=>rw [hb] at h; simp only [cond_true,anX] at h; exact ⟨_,aot,h⟩
   | false=>
    rw [hb] at h
    obtain ⟨q,h1,h2⟩:=ih h
    exact ⟨q,aol _ h1,h2⟩
  | some e=>
   unfold uA at h
   cases hb:(Nat.beq f g && Nat.beq d e) with
   | true=>rw [hb] at h; simp only [cond_true,anX] at h; exact ⟨_,aot,h⟩
   | false=>
    rw [hb] at h
    obtain ⟨q,h1,h2⟩:=ih h
    exact ⟨q,aol _ h1,h2⟩
theorem SB {l m:List AV} {vs us:List Value} (h1:dR cx σ α F w l vs) (h2:dR cx σ α F w m us):dR cx σ α F w (l++m) (vs++us):=by
 induction l generalizing vs with
 | nil=>cases vs with
  | nil=>exact h2
  | cons _ _=>exact h1.elim
 | cons x l ih=>cases vs with
  | nil=>exact h1.elim
  | cons v vs=>exact ⟨h1.1,ih h1.2⟩
theorem Mx:∀{cs:List (TypeId×Dat×List Tag)} {vs:List Value},kG cx σ α F w cs vs→dR cx σ α F w (cs.map fun q=>.jg q.1 q.2.1.1 q.2.1.2 q.2.2) vs
 | [],[],_=>trivial
 | _ :: _,_ :: _,h=>⟨h.1,Mx h.2⟩
 | [],_ :: _,h=>h.elim
 | _ :: _,[],h=>h.elim
theorem Py (hC:uZ P n hi) (H:Rel cx σ α F a w) {c:Call} (ho:o.op=.call c) (hdn:∀d,o.dst=some d→d<cx.nt) (h:(TM hi n o.dst c fun ws=>(.ret ws:Prog (List Wr))).ends σ ws):abZ P cx o a w (aB ws σ):=by
 intro K Q hK
 unfold TM at h
 split at h
 ·rename_i f akv
  obtain ⟨fv,h1,h2,h⟩:=bR H h
  cases fv with
  | fn f' caps=>
   simp only at h
   obtain ⟨us,e1,e2⟩:=h1
   obtain ⟨l,h3,h4,h⟩:=ji H h
   cases hf:uA f' (o.dst.getD 0) hi.calls with
   | none=>rw [hf] at h; exact h.elim
   | some E=>
    rw [hf] at h
    simp only at h
    rcases aA h with ⟨hb,h9⟩ | ⟨_,h⟩
    ·have hEf:E.f=f':=an1 hb
     clear h
     subst hEf
     obtain ⟨q,hq,rfl⟩:=N8 hf
     have hcall:=U1 (hC q hq) H (SB h3 (Mx e2)) (fun v hv=>by
      rcases an6.1 hv with h | h
      ·exact h4 v h
      ·obtain ⟨cc,hcc,rfl⟩:=aox.1 h
       exact h2 cc hcc) hdn h9
     have hargs:(c.args.toList.map a.eval++us).toArray=c.args.map a.eval++us.toArray:=by
      apply Array.ext'
      simp
     rw [hargs] at hcall
     have hrun:(execOp a.eval o).run P w=(callFunc q.2.2.f (c.args.map a.eval++us.toArray)).run P w:=by
      simp only [execOp,ho,resolve,akv,e1,Deferred.ofValue,aom,aor,aof,invoke,Array.empty_append]
     unfold Oper.wp
     rw [hrun]
     rcases hcall with ⟨g1,g2⟩ | ⟨v,w',g1,α',F',g2⟩
     ·rw [g1]
      refine g2.mono fun e w' he=>?_
      obtain ⟨v,rfl,α',F',hR⟩:=he
      exact hK _ _ _ _ hR
     ·rw [g1]
      exact hK _ _ _ _ g2
    ·exact h.elim
  | _=>exact h.elim
 ·exact h.elim
theorem QW (hT:eF P T) (hSt:LA P T) (hC:uZ P n hi) (H:Rel cx σ α F a w) (hnt:hi.nt=cx.nt) (h:(Ho T hi n o fun ws=>(.ret ws:Prog (List Wr))).ends σ ws):abZ P cx o a w (aB ws σ):=by
 unfold Ho at h
 cases hd:o.dst with
 | none=>
  rw [hd] at h
  simp only at h
  unfold abR at h
  split at h
  ·rename_i t x v ho
   exact (R3 hT H hd ho h).toW
  ·rename_i c ho
   split at h
   ·rename_i hcb
    obtain ⟨vs,h1,h2,h⟩:=ji H h
    split at h
    ·split at h
     ·rename_i ht0
      obtain ⟨v,w',α',r1,r2⟩:=Ve hT H ho hcb h1 ht0 h
      refine (show qU P cx o a w (aB ws σ) from ⟨v,w',α',[], .inl r1, ?_⟩).toW
      rw [hd]
      exact r2
     ·exact h.elim
    ·exact h.elim
   ·exact Py hC H ho (by rw [hd]; simp) (by rw [hd]; exact h)
  ·exact h.elim
 | some d=>
  rw [hd] at h
  simp only at h
  rcases aA h with ⟨hb,h⟩ | ⟨_,h⟩
  ·have hdn:d<cx.nt:=by
    rw [←hnt]
    unfold Nat.blt at hb
    exact Nat.le_of_ble_eq_true hb
   rcases aA h with ⟨_,h⟩ | ⟨_,h⟩
   ·exact (NZ hT H hd hdn h).toW
   rcases aA h with ⟨_,h⟩ | ⟨_,h⟩
   ·exact (PR hT H hd hdn h).toW
   unfold abQ at h
   cases ho:o.op with
   | move x=>rw [ho] at h; exact (Xw H hd hdn ho h).toW
   | assign x=>rw [ho] at h; exact (RY (L:=Uh hi d) H hd hdn ho h).toW
   | pick c x y=>rw [ho] at h; exact (Xx H hd hdn ho h).toW
   | alloc t=>rw [ho] at h; exact (Vb hT H hd hdn ho h).toW
   | box t x=>rw [ho] at h; exact (Z7 H hd hdn ho h).toW
   | build t ps=>rw [ho] at h; exact (MB hT H hd hdn h ho).toW
   | buildSlice t l ps=>rw [ho] at h; exact (JN (L:=Uh hi d) hT H hd hdn h ho).toW
   | load t x=>rw [ho] at h; exact (Xv hT H hd hdn ho h).toW
   | nilCheck x=>rw [ho] at h; exact (NY H hd hdn ho h).toW
   | binOp op t x y t2=>rw [ho] at h; exact (Vd hT hSt H hd hdn ho h).toW
   | unOp op t x=>rw [ho] at h; exact (Xy H hd hdn ho h).toW
   | convert s t x=>rw [ho] at h; exact (PL hT H hd hdn ho h).toW
   | field t x n=>rw [ho] at h; exact (Vg hT H hd hdn ho h).toW
   | fieldAddr t x n=>rw [ho] at h; exact (LH hT H hd hdn ho h).toW
   | indexAddr t x y=>rw [ho] at h; exact (LJ hT H hd hdn ho h).toW
   | index t x y=>rw [ho] at h; exact (Vh hT H hd hdn ho h).toW
   | extract x i=>rw [ho] at h; exact (PM H hd hdn ho h).toW
   | makeSlice t x y=>rw [ho] at h; exact (LK hT H hd hdn h ho).toW
   | makeFunc f first caps=>
    rw [ho] at h
    cases f with
    | func f=>exact (NW H hd hdn ho h).toW
    | _=>exact h.elim
   | slice t x lo hi2 mx=>rw [ho] at h; exact (Vi hT H hd hdn h ho).toW
   | call c=>
    rw [ho] at h
    simp only at h
    split at h
    ·rename_i hcb; exact (Z8 hT H hd hdn ho hcb h).toW
    ·rename_i hcb; exact (RX hT H hd hdn ho hcb h).toW
    ·rename_i hcb; exact (JO (mx:=false) H hd hdn ho hcb h).toW
    ·rename_i hcb; exact (JO (mx:=true) H hd hdn ho hcb h).toW
    ·exact Py hC H ho (by rw [hd]; intro d2 e; simp only [anX] at e; subst e; exact hdn) (by rw [hd]; exact h)
    ·exact h.elim
   | _=>rw [ho] at h; exact h.elim
  ·exact h.elim
end
end
section
open Go
variable [Fr]
def Prog.qI {α:Type}:Prog α→St→List Loc→α→List Loc→Prop
 | .ret a,_,l,x,l'=>x=a∧l'=l
 | .fail,_,_,_,_=>False
 | .slot n k,σ,l,x,l'=>(k (σ.slots n)).qI σ (.s n :: l) x l'
 | .root r k,σ,l,x,l'=>(k (σ.roots r)).qI σ (.r r :: l) x l'
 | .vB c _ k,σ,l,x,l'=>c∧k.qI σ l x l'
 | .br c t e,σ,l,x,l'=>(c=true∧t.qI σ l x l')∨(c=false∧e.qI σ l x l')
 | .opt _ o k,σ,l,x,l'=>∃b,o=some b∧(k b).qI σ l x l'
theorem M9 {α R:Type} (p:Prog α) {σ:St} {l:List Loc} {K:α→List Loc→Option R} {r:R} (h:p.IA σ l K=some r):∃x l',p.qI σ l x l'∧K x l'=some r:=by
 induction p generalizing l with
 | ret a=>exact ⟨a,l,⟨rfl,rfl⟩,h⟩
 | fail=>simp [Prog.IA] at h
 | slot n k ih=>exact ih _ h
 | root n k ih=>exact ih _ h
 | vB c d k ih=>
  simp only [Prog.IA] at h
  split at h
  ·rename_i hc
   obtain ⟨x,l',h1,h2⟩:=ih h
   exact ⟨x,l',⟨hc,h1⟩,h2⟩
  ·simp at h
 | br c t e Sy Sw=>
  simp only [Prog.IA] at h
  cases c with
  | true=>
   simp only [if_true] at h
   obtain ⟨x,l',h1,h2⟩:=Sy h
   exact ⟨x,l', .inl ⟨rfl,h1⟩,h2⟩
  | false=>
   simp only [an0,if_false] at h
   obtain ⟨x,l',h1,h2⟩:=Sw h
   exact ⟨x,l', .inr ⟨rfl,h1⟩,h2⟩
 | opt β o k ih=>
  simp only [Prog.IA] at h
  cases o with
  | none=>simp at h
  | some b=>
   simp only [anY] at h
   obtain ⟨x,l',h1,h2⟩:=ih b h
   exact ⟨x,l',⟨b,rfl,h1⟩,h2⟩
theorem JU {α:Type} (p:Prog α) {σ:St} {l l':List Loc} {x:α} (h:p.qI σ l x l'):p.ends σ x:=by
 induction p generalizing l with
 | ret a=>exact h.1
 | fail=>exact h.elim
 | slot n k ih=>exact ih _ h
 | root n k ih=>exact ih _ h
 | vB c d k ih=>exact ⟨h.1,ih h.2⟩
 | br c t e Sy Sw=>exact h.imp (fun h=>⟨h.1,Sy h.2⟩) (fun h=>⟨h.1,Sw h.2⟩)
 | opt β o k ih=>obtain ⟨b,h1,h2⟩:=h; exact ⟨b,h1,ih b h2⟩
theorem JV {α:Type} (p:Prog α) {σ:St} {x:α} (h:p.ends σ x):∀l,∃l',p.qI σ l x l':=by
 induction p with
 | ret a=>exact fun l=>⟨l,h,rfl⟩
 | fail=>exact h.elim
 | slot n k ih=>exact fun l=>ih _ h _
 | root n k ih=>exact fun l=>ih _ h _
 | vB c d k ih=>exact fun l=>(ih h.2 l).imp fun _ h'=>⟨h.1,h'⟩
 | br c t e Sy Sw=>
  intro l
  rcases h with h | h
  ·exact (Sy h.2 l).imp fun _ h'=>.inl ⟨h.1,h'⟩
  ·exact (Sw h.2 l).imp fun _ h'=>.inr ⟨h.1,h'⟩
 | opt β o k ih=>obtain ⟨b,h1,h2⟩:=h; exact fun l=>(ih b h2 l).imp fun _ h'=>⟨b,h1,h'⟩
theorem FV {α:Type} (p:Prog α) {σ:St} {l l':List Loc} {x:α} (h:p.qI σ l x l'):∀y∈l,y∈l':=by
 induction p generalizing l with
 | ret a=>rw [h.2]; exact fun _ h=>h
 | fail=>exact h.elim
 | slot n k ih=>exact fun y hy=>ih _ h y (by simp [hy])
 | root n k ih=>exact fun y hy=>ih _ h y (by simp [hy])
 | vB c d k ih=>exact ih h.2
 | br c t e Sy Sw=>rcases h with h | h; exact Sy h.2; exact Sw h.2
 | opt β o k ih=>obtain ⟨b,h1,h2⟩:=h; exact ih b h2
def agree (σ τ:St):Loc→Prop
 | .s n=>τ.slots n=σ.slots n
 | .r n=>τ.roots n=σ.roots n
theorem GM {α:Type} (p:Prog α) {σ τ:St} {l l':List Loc} {x:α} (h:p.qI σ l x l') (ha:∀y∈l',agree σ τ y):p.qI τ l x l':=by
 induction p generalizing l with
 | ret a=>exact h
 | fail=>exact h.elim
 | slot n k ih=>
  have h':(k (σ.slots n)).qI σ (.s n :: l) x l':=h
  have:=ha (.s n) (FV _ h' _ aot)
  show (k (τ.slots n)).qI τ _ _ _
  rw [show τ.slots n=σ.slots n from this]
  exact ih _ h
 | root n k ih=>
  have h':(k (σ.roots n)).qI σ (.r n :: l) x l':=h
  have:=ha (.r n) (FV _ h' _ aot)
  show (k (τ.roots n)).qI τ _ _ _
  rw [show τ.roots n=σ.roots n from this]
  exact ih _ h
 | vB c d k ih=>exact ⟨h.1,ih h.2⟩
 | br c t e Sy Sw=>exact h.imp (fun h=>⟨h.1,Sy h.2⟩) (fun h=>⟨h.1,Sw h.2⟩)
 | opt β o k ih=>obtain ⟨b,h1,h2⟩:=h; exact ⟨b,h1,ih b h2⟩
theorem GY {a b:Loc}:a.beq b=true↔a=b:=by
 cases a <;> cases b <;> simp [Loc.beq]
theorem Qt {x:Loc} {l:List Loc}:VX x l=true↔x∈l:=by
 induction l with
 | nil=>simp [VX]
 | cons y l ih=>
  simp only [VX,an9]
  cases h:x.beq y with
  | true=>simp [GY.1 h]
  | false=>
   have:x≠y:=fun e=>by rw [e] at h; rw [(GY (a:=y) (b:=y)).2 rfl] at h; simp at h
   simp [this,ih]
theorem Jo {a b:List Loc}:NK a b=true↔∀x∈a,x∉b:=by
 unfold NK
 rw [aoc]
 refine ⟨fun h x hx hb=>?_,fun h x hx=>?_⟩
 ·have:=h x hx
  rw [Qt.2 hb] at this
  simp at this
 ·cases hm:VX x b with
  | false=>rfl
  | true=>exact absurd (Qt.1 hm) (h x hx)
theorem FQ (wr:Wr) (σ:St) {y:Loc} (h:y≠wr.loc):agree σ (wr.app σ) y:=by
 cases wr with
 | s n a=>
  cases y with
  | s m=>exact upd_ne _ _ (fun e=>h (by rw [e]; rfl))
  | r m=>rfl
 | r n o=>
  cases o with
  | none=>
   cases y with
   | s m=>rfl
   | r m=>exact upd_ne _ _ (fun e=>h (by rw [e]; rfl))
  | some R=>
   cases y with
   | s m=>rfl
   | r m=>exact upd_ne _ _ (fun e=>h (by rw [e]; rfl))
theorem Pn {σ τ ρ:St} {y:Loc} (h1:agree σ τ y) (h2:agree τ ρ y):agree σ ρ y:=by
 cases y with
 | s n=>exact h2.trans h1
 | r n=>exact h2.trans h1
theorem pz:∀(ws:List Wr) (σ:St) {y:Loc},y∉ws.map Wr.loc→agree σ (aB ws σ) y
 | [],σ,y,_=>by cases y <;> rfl
 | w :: ws,σ,y,h=>by
  simp only [List.map_cons,an9,not_or] at h
  exact Pn (FQ w σ h.1) (pz ws _ h.2)
theorem St.ext' {σ τ:St} (h:∀y,agree σ τ y):τ=σ:=by
 obtain ⟨s,r⟩:=σ
 obtain ⟨s',r'⟩:=τ
 have h1:s'=s:=funext fun n=>h (.s n)
 have h2:r'=r:=funext fun n=>h (.r n)
 subst h1
 subst h2
 rfl
theorem Pq (w:Wr) (σ τ:St):agree (w.app σ) (w.app τ) w.loc:=by
 cases w with
 | s n a=>show upd τ.slots n a n=upd σ.slots n a n; rw [upd_same,upd_same]
 | r n o=>cases o <;> (show upd _ n _ n=upd _ n _ n; rw [upd_same,upd_same])
theorem Xh (w:Wr) {σ τ:St} {y:Loc} (h:agree σ τ y):agree (w.app σ) (w.app τ) y:=by
 by_cases e:y=w.loc
 ·subst e; exact Pq w σ τ
 ·have h1:=FQ w σ e
  have h2:=FQ w τ e
  cases y with
  | s n=>exact h2.trans (h.trans h1.symm)
  | r n=>exact h2.trans (h.trans h1.symm)
theorem AX:∀(ws:List Wr) {σ τ:St} {y:Loc},agree σ τ y→agree (aB ws σ) (aB ws τ) y
 | [],_,_,_,h=>h
 | w :: ws,_,_,_,h=>AX ws (Xh w h)
theorem Mm:∀(ws:List Wr) {σ τ:St} {y:Loc},y∈ws.map Wr.loc→agree (aB ws σ) (aB ws τ) y
 | [],_,_,_,h=>by simp at h
 | w :: ws,σ,τ,y,h=>by
  simp only [List.map_cons,an9] at h
  by_cases e:y∈ws.map Wr.loc
  ·exact Mm ws e
  ·have e2:y=w.loc:=h.resolve_right e
   subst e2
   exact AX ws (Pq w σ τ)
theorem Po {u v:List Wr} (h:∀x∈u.map Wr.loc,x∉v.map Wr.loc) (σ:St):aB u (aB v σ)=aB v (aB u σ):=by
 refine St.ext' fun y=>?_
 by_cases hu:y∈u.map Wr.loc
 ·have h1:agree (aB u σ) (aB v (aB u σ)) y:=pz v _ (h y hu)
  have h2:agree (aB u σ) (aB u (aB v σ)) y:=Mm u hu
  cases y with
  | s n=>exact h2.trans h1.symm
  | r n=>exact h2.trans h1.symm
 ·have h1:agree (aB v σ) (aB u (aB v σ)) y:=pz u _ hu
  have h2:agree (aB v σ) (aB v (aB u σ)) y:=by
   refine AX v ?_
   have:=pz u σ hu
   cases y with
   | s n=>exact this
   | r n=>exact this
  cases y with
  | s n=>exact h1.trans h2.symm
  | r n=>exact h1.trans h2.symm
section
variable {P:Program} {T:iV} {hi:Hint} {n:Nat} {ops:Array Oper}
inductive NB (T:iV) (hi:Hint) (n:Nat) (ops:Array Oper) (o:Oper) (σ:St):List Wr→List Loc→Prop
 | plain (ws:List Wr) (rd:List Loc) (hg:guardOf ops o=none) (h:(Ho T hi n o fun ws=>(.ret ws:Prog (List Wr))).qI σ [] ws rd):NB T hi n ops o σ ws rd
 | done (s:Nat) (want:Bool) (tg:List Tag) (ws:List Wr) (rd:List Loc) (hg:guardOf ops o=some (some s,want)) (hs:σ.slots s=.one (.val .bool want tg)) (h:(Ho T hi n o fun ws=>(.ret ws:Prog (List Wr))).qI σ [.s s] ws rd):NB T hi n ops o σ ws rd
 | skip (s:Nat) (want:Bool) (hg:guardOf ops o=some (some s,want)) (hs:(∃tg,σ.slots s=.one (.val .bool (!want) tg))∨σ.slots s=.Lc []) (hd:JP hi o=true):NB T hi n ops o σ (Hg o) [.s s]
theorem NB.agree {o:Oper} {σ τ:St} {ws:List Wr} {rd:List Loc} (h:NB T hi n ops o σ ws rd) (ha:∀y∈rd,Ow.agree σ τ y):NB T hi n ops o τ ws rd:=by
 cases h with
 | plain _ _ hg h=>exact .plain ws rd hg (GM _ h ha)
 | done s want tg _ _ hg hs h=>
  have:=ha (.s s) (FV _ h _ aot)
  exact .done s want tg ws rd hg (by rw [show τ.slots s=σ.slots s from this]; exact hs) (GM _ h ha)
 | skip s want hg hs hd=>
  have:=ha (.s s) (by simp)
  exact .skip s want hg (by rw [show τ.slots s=σ.slots s from this]; exact hs) hd
theorem M8 {σ:St} {s:Nat} {b:Bool} {tg:List Tag} (h:σ.slots s=.one (.val .bool b tg)):refine σ s b tg=σ:=by
 unfold refine
 have:upd σ.slots s (.one (.val .bool b tg))=σ.slots:=by
  funext m
  by_cases e:m=s
  ·subst e; rw [upd_same,h]
  ·rw [upd_ne _ _ e]
 rw [this]
theorem Ka {R:Type} {o:Oper} {σ:St} {go skip:List Loc→St→Option R} {r:R} (h:guarded σ ops o go skip=some r) :
  (guardOf ops o=none∧go [] σ=some r)∨(∃s want tg,guardOf ops o=some (some s,want)∧σ.slots s=.one (.val .bool want tg)∧go [.s s] σ=some r)∨
  (∃s want,guardOf ops o=some (some s,want)∧((∃tg,σ.slots s=.one (.val .bool (!want) tg))∨σ.slots s=.Lc [])∧skip [.s s] σ=some r):=by
 unfold guarded at h
 cases hg:guardOf ops o with
 | none=>rw [hg] at h; exact .inl ⟨rfl,h⟩
 | some q=>
  obtain ⟨os,want⟩:=q
  rw [hg] at h
  cases os with
  | none=>simp at h
  | some s=>
   simp only at h
   refine .inr ?_
   split at h
   ·rename_i b tg hs
    cases b with
    | true=>
     simp only [if_true] at h
     rw [M8 hs] at h
     cases want with
     | true=>exact .inl ⟨s,true,tg,rfl,hs,h⟩
     | false=>exact .inr ⟨s,false,rfl, .inl ⟨tg,hs⟩,h⟩
    | false=>
     simp only [an0,if_false] at h
     rw [M8 hs] at h
     cases want with
     | true=>exact .inr ⟨s,true,rfl, .inl ⟨tg,hs⟩,h⟩
     | false=>exact .inl ⟨s,false,tg,rfl,hs,h⟩
   ·rename_i hs
    exact .inr ⟨s,want,rfl, .inr hs,h⟩
   ·simp at h
variable {cx:Cx} {σ:St} {α:dL} {F:List Nat} {a:Act} {w:World}
theorem Rel.skipped (H:Rel cx σ α F a w) {o:Oper} (hnt:hi.nt=cx.nt) (hd:JP hi o=true):Rel cx (aB (Hg o) σ) α F (a.put o.dst undef) w:=by
 unfold Hg JP at *
 cases ho:o.dst with
 | none=>exact H
 | some d=>
  rw [ho] at hd
  have hdn:d<cx.nt:=by
   rw [←hnt]
   have:Nat.blt d hi.nt=true:=hd
   unfold Nat.blt at this
   exact Nat.le_of_ble_eq_true this
  exact H.put hdn (fun a ha=>by simp at ha) ⟨[],rfl,trivial⟩
theorem IQ (hT:eF P T) (hSt:LA P T) (hC:uZ P n hi) (H:Rel cx σ α F a w) (hnt:hi.nt=cx.nt) {i:Nat} {o:Oper} (ho:ops[i]?=some o) {ws:List Wr} {rd:List Loc} (h:NB T hi n ops o σ ws rd)
  {K:Act→World→Prop} {Q:Exit→Act→World→Prop} (hK:∀α' F' a' w',Rel cx (aB ws σ) α' F' a' w'→K a' w'):wpOp P ops Q i K a w:=by
 unfold wpOp
 simp only [ho]
 have Yi:∀{s:Nat} {want:Bool},guardOf ops o=some (some s,want)→∃g,o.guard=some (g,want)∧(ops[g]?).bind (·.dst)=some s:=by
  intro s want hg
  unfold guardOf at hg
  cases hgd:o.guard with
  | none=>rw [hgd] at hg; simp at hg
  | some q=>
   obtain ⟨g,wt⟩:=q
   rw [hgd] at hg
   simp only [anX,an8] at hg
   exact ⟨g,by rw [hg.2],hg.1⟩
 have agO:∀{s:Nat} {v:Value},a.tmps.getD s undef=v→(∃b,v=.bool b)→a.tmps[s]?=some v:=by
  rintro s v h ⟨b,rfl⟩
  rw [Array.getD_eq_getD_getElem?] at h
  cases hs:a.tmps[s]? with
  | none=>rw [hs] at h; simp [undef] at h
  | some u=>rw [hs] at h; simpa using h
 cases h with
 | plain _ _ hg h=>
  have hw:Region.wanted o (yielded ops a.tmps)=true:=by
   unfold Region.wanted
   unfold guardOf at hg
   cases hgd:o.guard with
   | none=>rfl
   | some q=>rw [hgd] at hg; simp at hg
  rw [if_pos hw]
  exact .inl (QW hT hSt hC H hnt (JU _ h) K Q hK)
 | done s want tg _ _ hg hs h=>
  have hw:Region.wanted o (yielded ops a.tmps)=true:=by
   obtain ⟨g,h1,h2⟩:=Yi hg
   unfold Region.wanted
   rw [h1]
   have hb:=H.slots s
   rw [hs] at hb
   have:=yX (show bI cx σ α F w (.val .bool want tg) _ from hb)
   have h3:=agO this ⟨_,rfl⟩
   show (yielded ops a.tmps g == some want)=true
   unfold yielded
   rw [h2]
   simp only [anY,h3]
   simp
  rw [if_pos hw]
  exact .inl (QW hT hSt hC H hnt (JU _ h) K Q hK)
 | skip s want hg hs hd=>
  have hw:Region.wanted o (yielded ops a.tmps)=false:=by
   obtain ⟨g,h1,h2⟩:=Yi hg
   unfold Region.wanted
   rw [h1]
   have hb:=H.slots s
   show (yielded ops a.tmps g == some want)=false
   unfold yielded
   rw [h2]
   rcases hs with ⟨tg,hs⟩ | hs
   ·rw [hs] at hb
    have:=yX (show bI cx σ α F w (.val .bool (!want) tg) _ from hb)
    have h3:=agO this ⟨_,rfl⟩
    simp only [anY,h3]
    cases want <;> rfl
   ·rw [hs] at hb
    obtain ⟨vs,h3,h4⟩:=hb
    cases vs with
    | cons _ _=>exact h4.elim
    | nil=>
     rw [Array.getD_eq_getD_getElem?] at h3
     simp only [anY]
     cases hs2:a.tmps[s]? with
     | none=>rfl
     | some u=>
      rw [hs2] at h3
      simp only [Option.getD_some] at h3
      subst h3
      rfl
  rw [if_neg (by rw [hw]; simp)]
  exact hK _ _ _ _ (H.skipped hnt hd)
theorem Sb (hT:eF P T) (hSt:LA P T) (hC:uZ P n hi) (hnt:hi.nt=cx.nt) {R:Type} {K:St→Option R} {r:R} {Q:Exit→Act→World→Prop} (hQ:∀σ' α' F' a' w',K σ'=some r→Rel cx σ' α' F' a' w'→Q .normal a' w') :
  ∀(l:List Oper) (i:Nat) {σ:St} {α:dL} {F:List Nat} {a:Act} {w:World},ops.toList.drop i=l→Eg T hi n ops l σ K=some r→Rel cx σ α F a w→wpOps P ops Q (List.range' i l.length) a w:=by
 intro l
 induction l with
 | nil=>intro i σ α F a w _ h H; exact hQ _ _ _ _ _ h H
 | cons o l ih=>
  intro i σ α F a w hl h H
  have hoi:ops[i]?=some o:=by
   have:=congrArg (fun l=>l[0]?) hl
   simpa using this
  have hl':ops.toList.drop (i+1)=l:=by
   have:=congrArg List.tail hl
   simpa using this
  simp only [aok,List.range'_succ]
  rw [wpOps_cons]
  unfold Eg at h
  rcases Ka h with ⟨hg,h⟩ | ⟨s,want,tg,hg,hs,h⟩ | ⟨s,want,hg,hs,h⟩
  ·obtain ⟨ws,h1,h2⟩:=wN _ h
   obtain ⟨rd,h3⟩:∃rd,(Ho T hi n o fun ws=>(.ret ws:Prog (List Wr))).qI σ [] ws rd:=JV _ h1 []
   exact IQ hT hSt hC H hnt hoi (.plain ws rd hg h3) (fun α' F' a' w' H'=>ih (i+1) hl' h2 H')
  ·obtain ⟨ws,h1,h2⟩:=wN _ h
   obtain ⟨rd,h3⟩:∃rd,(Ho T hi n o fun ws=>(.ret ws:Prog (List Wr))).qI σ [.s s] ws rd:=JV _ h1 _
   exact IQ hT hSt hC H hnt hoi (.done s want tg ws rd hg hs h3) (fun α' F' a' w' H'=>ih (i+1) hl' h2 H')
  ·cases hd:JP hi o with
   | false=>rw [hd] at h; simp at h
   | true=>
    rw [hd] at h
    exact IQ hT hSt hC H hnt hoi (.skip s want hg hs hd) (fun α' F' a' w' H'=>ih (i+1) hl' h H')
end
end
section
open Go
variable [Fr]
section
variable {P:Program} {T:iV} {hi:Hint} {n:Nat} {ops:Array Oper} {cx:Cx} {σ:St} {α:dL} {F:List Nat} {a:Act} {w:World}
structure Ev where
 i:Nat
 ws:List Wr
 rd:List Loc
def Ev.wr (e:Ev):List Loc:=e.ws.map Wr.loc
def Bef (ops:Array Oper) (j i:Nat):Prop:=leads ops 7 j i=true
theorem Ql {ops:Array Oper}:∀{f:Nat} {j i:Nat},leads ops f j i=true→leads ops (f+1) j i=true
 | 0,_,_,h=>by simp [leads] at h
 | f+1,j,i,h=>by
  unfold leads at h ⊢
  simp only [Bool.or_eq_true,List.any_eq_true,an3] at h ⊢
  rcases h with h | ⟨b,hb,h1,h2⟩
  ·exact .inl h
  ·exact .inr ⟨b,hb,h1,Ql h2⟩
theorem Et {ops:Array Oper} {L:Nat→Prop} (hcl:∀b,L b→∀c∈binders ops b,L c):∀{f:Nat} {j i:Nat},leads ops f j i=true→(∀c∈binders ops i,L c)→L j
 | 0,_,_,h,_=>by simp [leads] at h
 | f+1,j,i,h,hi=>by
  unfold leads at h
  simp only [Bool.or_eq_true,List.any_eq_true,an3] at h
  rcases h with h | ⟨b,hb,_,h2⟩
  ·exact hi j (aM.1 h)
  ·exact Et hcl h2 (hcl b (hi b hb))
def O5 (e e':Ev):Prop:=(∀x∈e.wr,x∉e'.rd++e'.wr)∧∀x∈e.rd,x∉e'.wr
def Gz (T:iV) (hi:Hint) (n:Nat) (ops:Array Oper):List Ev→St→St→Prop
 | [],σ,τ=>τ=σ
 | e :: l,σ,τ=>(∃o,ops[e.i]?=some o∧NB T hi n ops o σ e.ws e.rd)∧Gz T hi n ops l (aB e.ws σ) τ
def UM (ops:Array Oper):List Ev→Prop
 | []=>True
 | e :: l=>(∀e'∈l,Bef ops e.i e'.i∨O5 e e')∧UM ops l
theorem RP {e e':Ev} {l:List Ev} {τ:St} (hi':O5 e e') (h:Gz T hi n ops (e :: e' :: l) σ τ):Gz T hi n ops (e' :: e :: l) σ τ:=by
 obtain ⟨⟨o,ho,h1⟩,⟨o',ho',h2⟩,h3⟩:=h
 have ha:∀y∈e'.rd,Ow.agree (aB e.ws σ) σ y:=by
  intro y hy
  have:=pz e.ws σ (y:=y) (fun hm=>hi'.1 y hm (an2 _ hy))
  cases y with
  | s n=>exact this.symm
  | r n=>exact this.symm
 have hb:∀y∈e.rd,Ow.agree σ (aB e'.ws σ) y:=fun y hy=>pz e'.ws σ (hi'.2 y hy)
 refine ⟨⟨o',ho',h2.agree ha⟩,⟨o,ho,h1.agree hb⟩, ?_⟩
 rw [Po (u:=e.ws) (v:=e'.ws) (fun x hx hx'=>hi'.1 x hx (anZ _ hx'))]
 exact h3
theorem PG {e:Ev} {l:List Ev}:∀{pre:List Ev} {σ τ:St},(∀x∈pre,O5 x e)→Gz T hi n ops (pre++e :: l) σ τ→Gz T hi n ops (e :: (pre++l)) σ τ:=by
 intro pre
 induction pre with
 | nil=>intro σ τ _ h; exact h
 | cons x pre ih=>
  intro σ τ hx h
  refine RP (hx x (by simp)) ?_
  obtain ⟨h1,h2⟩:=h
  exact ⟨h1,ih (fun y hy=>hx y (by simp [hy])) h2⟩
theorem V6 {e:Ev} {l:List Ev}:∀{pre:List Ev},UM ops (pre++e :: l)→UM ops (pre++l)∧∀x∈pre,Bef ops x.i e.i∨O5 x e:=by
 intro pre
 induction pre with
 | nil=>intro h; exact ⟨h.2,by simp⟩
 | cons x pre ih=>
  intro h
  obtain ⟨g1,g2⟩:=ih h.2
  refine ⟨⟨fun e' he'=>h.1 e' ?_,g1⟩,fun y hy=>?_⟩
  ·rcases an6.1 he' with h | h
   ·exact an2 _ h
   ·exact anZ _ (aol _ h)
  ·rcases an9.1 hy with h' | h'
   ·subst h'; exact h.1 e (by simp)
   ·exact g2 y h'
theorem R5 {e:Eff} {l:List Eff} (h:GL ops e l=true):(∀b∈binders ops e.i,b<e.i)∧∀b∈l,Bef ops b.i e.i∨((∀x∈b.wr,x∉e.rd++e.wr)∧∀x∈b.rd,x∉e.wr):=by
 unfold GL at h
 simp only [an3,aoc] at h
 refine ⟨fun b hb=>?_,fun b hb=>?_⟩
 ·have:=h.1 b hb
  unfold Nat.blt at this
  exact Nat.le_of_ble_eq_true this
 ·have:=h.2 b hb
  rw [Bool.or_eq_true,Bool.or_eq_true,an3] at this
  rcases this with h1 | ⟨h1,h2⟩ | h1
  ·exact .inl (by unfold Bef leads; rw [h1]; rfl)
  ·exact .inr ⟨Jo.1 h1,Jo.1 h2⟩
  ·exact .inl (Ql h1)
theorem PW {R:Type} {K:St→Option R} {r:R}:∀(l:List Oper) (i:Nat) (es:List Eff) {σ:St},ops.toList.drop i=l→JW T hi n ops l i es σ K=some r→
  ∃(evs:List Ev) (τ:St),K τ=some r∧Gz T hi n ops evs σ τ∧UM ops evs∧evs.map (·.i)=List.range' i l.length∧(∀e∈evs,∀b∈binders ops e.i,b<e.i)∧
   ∀e∈evs,∀b∈es,Bef ops b.i e.i∨((∀x∈b.wr,x∉e.rd++e.wr)∧∀x∈b.rd,x∉e.wr):=by
 intro l
 induction l with
 | nil=>intro i es σ _ h; exact ⟨[],σ,h,rfl,trivial,rfl,by simp,by simp⟩
 | cons o l ih=>
  intro i es σ hl h
  have hoi:ops[i]?=some o:=by
   have:=congrArg (fun l=>l[0]?) hl
   simpa using this
  have hl':ops.toList.drop (i+1)=l:=by
   have:=congrArg List.tail hl
   simpa using this
  have step:∀{ws:List Wr} {rd:List Loc},NB T hi n ops o σ ws rd→GL ops ⟨i,rd,ws.map Wr.loc⟩ es=true→JW T hi n ops l (i+1) (⟨i,rd,ws.map Wr.loc⟩ :: es) (aB ws σ) K=some r→
    ∃(evs:List Ev) (τ:St),K τ=some r∧Gz T hi n ops evs σ τ∧UM ops evs∧evs.map (·.i)=List.range' i (l.length+1)∧(∀e∈evs,∀b∈binders ops e.i,b<e.i)∧
     ∀e∈evs,∀b∈es,Bef ops b.i e.i∨((∀x∈b.wr,x∉e.rd++e.wr)∧∀x∈b.rd,x∉e.wr):=by
   intro ws rd hab hok h
   obtain ⟨evs,τ,g1,g2,g3,g4,g5,g6⟩:=ih (i+1) _ hl' h
   obtain ⟨k1,k2⟩:=R5 hok
   refine ⟨⟨i,ws,rd⟩ :: evs,τ,g1,⟨⟨o,hoi,hab⟩,g2⟩,⟨fun e' he'=>?_,g3⟩, ?_, ?_, ?_⟩
   ·exact g6 e' he' ⟨i,rd,ws.map Wr.loc⟩ (by simp)
   ·rw [List.range'_succ,List.map_cons,g4]
   ·intro e he
    rcases an9.1 he with h | h
    ·subst h; exact k1
    ·exact g5 e h
   ·intro e he b hb
    rcases an9.1 he with h | h
    ·subst h; exact k2 b hb
    ·exact g6 e h b (by simp [hb])
  simp only [aok]
  unfold JW at h
  rcases Ka h with ⟨hg,h⟩ | ⟨s,want,tg,hg,hs,h⟩ | ⟨s,want,hg,hs,h⟩
  ·obtain ⟨ws,rd,h1,h2⟩:=M9 _ h
   cases hok:GL ops ⟨i,rd,ws.map Wr.loc⟩ es with
   | false=>rw [hok] at h2; simp at h2
   | true=>rw [hok] at h2; exact step (.plain ws rd hg h1) hok h2
  ·obtain ⟨ws,rd,h1,h2⟩:=M9 _ h
   cases hok:GL ops ⟨i,rd,ws.map Wr.loc⟩ es with
   | false=>rw [hok] at h2; simp at h2
   | true=>rw [hok] at h2; exact step (.done s want tg ws rd hg hs h1) hok h2
  ·cases hok:(JP hi o && GL ops ⟨i,[.s s],(Hg o).map Wr.loc⟩ es) with
   | false=>rw [hok] at h; simp at h
   | true=>
    rw [hok] at h
    rw [an3] at hok
    exact step (.skip s want hg hs hok.1) hok.2 h
theorem U6 (hT:eF P T) (hSt:LA P T) (hC:uZ P n hi) (hnt:hi.nt=cx.nt) {Q:Exit→Act→World→Prop} {τ:St} (hQ:∀α' F' a' w',Rel cx τ α' F' a' w'→Q .normal a' w') :
  ∀(m:Nat) (evs:List Ev) (listed:Array Bool) {σ:St} {α:dL} {F:List Nat} {a:Act} {w:World},evs.length=m→Gz T hi n ops evs σ τ→UM ops evs→(evs.map (·.i)).Pairwise (· < ·)→(∀e∈evs,∀b∈binders ops e.i,b<e.i)→
   listed.size=ops.size→(∀j,j<ops.size→(listed.getD j false=false↔j∈evs.map (·.i)))→(∀e∈evs,e.i<ops.size)→(∀b,listed.getD b false=true→∀c∈binders ops b,listed.getD c false=true)→Rel cx σ α F a w→wpAny P .any ops Q m listed a w:=by
 intro m
 induction m with
 | zero=>
  intro evs listed σ α F a w hl hc _ _ _ hsz hlist _ _ H
  have:evs=[]:=List.eq_nil_of_length_eq_zero hl
  subst this
  have hc':τ=σ:=hc
  subst hc'
  refine ⟨?_,hQ _ _ _ _ H⟩
  cases hr:Region.ready .any ops listed with
  | nil=>rfl
  | cons j l=>
   have hj:j∈Region.ready .any ops listed:=by rw [hr]; simp
   obtain ⟨h0,o,ho,_⟩:=mem_ready.1 hj
   have hlt:=(Array.getElem?_eq_some_iff.1 ho).1
   have:listed.getD j false=false:=by
    have hj2:j<listed.size:=by omega
    simp [hj2] at h0 ⊢
    exact h0
   exact absurd ((hlist j hlt).1 this) (by simp)
 | succ m ih=>
  intro evs listed σ α F a w hl hc hp hsort hbind hsz hlist hlt hcl H
  refine ⟨fun hr=>?_,fun j hj=>?_⟩
  ·
   exfalso
   cases evs with
   | nil=>simp at hl
   | cons e evs=>
    obtain ⟨⟨o,ho,_⟩,_⟩:=hc
    have he:e.i∈Region.ready .any ops listed:=by
     rw [mem_ready]
     have hei:=hlt e (by simp)
     have hun:=(hlist e.i hei).2 (by simp)
     refine ⟨?_,o,ho,fun q hq hb=>?_⟩
     ·have hj2:e.i<listed.size:=by omega
      simp [hj2] at hun ⊢
      exact hun
     ·have hm:q.on∈binders ops e.i:=by
       unfold binders
       rw [ho]
       simp only [Option.getD_some,aox,aoe]
       exact ⟨q,⟨Array.mem_toList_iff.2 hq,hb⟩,rfl⟩
      have hlt2:=hbind e (by simp) q.on hm
      cases hb2:listed.getD q.on false with
      | true=>rfl
      | false=>
       have:=(hlist q.on (by omega)).1 hb2
       simp only [List.map_cons,an9] at this
       rcases this with h | h
       ·omega
       ·have hlt3:e.i<q.on:=by simpa using (List.pairwise_cons.1 hsort).1 q.on h
        omega
    rw [hr] at he
    simp at he
  ·obtain ⟨h0,o,ho,hall⟩:=mem_ready.1 hj
   have hjlt:=(Array.getElem?_eq_some_iff.1 ho).1
   have hj2:j<listed.size:=by omega
   have hun:listed.getD j false=false:=by
    simp [hj2] at h0 ⊢
    exact h0
   have hjm:=(hlist j hjlt).1 hun
   obtain ⟨e,he,hej⟩:=aox.1 hjm
   obtain ⟨pre,post,hsplit⟩:=List.append_of_mem he
   subst hsplit
   subst hej
   obtain ⟨p1,p2⟩:=V6 hp
   have hle:∀c∈binders ops e.i,listed.getD c false=true:=by
    intro c h
    unfold binders at h
    rw [ho] at h
    simp only [Option.getD_some,aox,aoe] at h
    obtain ⟨q,⟨hq,hb⟩,hon⟩:=h
    rw [←hon]
    exact hall q (Array.mem_toList_iff.1 hq) hb
   have hpre:∀x∈pre,O5 x e:=by
    intro x hx
    rcases p2 x hx with h | h
    ·exfalso
     have hl2:=Et (L:=fun b=>listed.getD b false=true) hcl h hle
     have hxi:=hlt x (by simp [hx])
     have:=(hlist x.i hxi).2 (by simp only [List.map_append,an6,aox]; exact .inl ⟨x,hx,rfl⟩)
     rw [hl2] at this
     simp at this
    ·exact h
   have hc2:=PG hpre hc
   obtain ⟨⟨o',ho',hab⟩,hc3⟩:=hc2
   rw [ho] at ho'
   simp only [anX] at ho'
   subst ho'
   have Yd:(pre.map (·.i)++e.i :: post.map (·.i)).Pairwise (· < ·):=by simpa using hsort
   have hsub:(pre++post).Sublist (pre++e :: post):=List.Sublist.append_left (List.sublist_cons_self _ _) _
   refine IQ hT hSt hC H hnt ho hab (fun α' F' a' w' H'=>?_)
   refine ih (pre++post) (listed.setIfInBounds e.i true) (by simp at hl ⊢; omega) hc3 p1 (hsort.sublist (hsub.map _)) (fun x hx=>hbind x (hsub.subset hx)) (by simpa using hsz) (fun k hk=>?_) (fun x hx=>hlt x (hsub.subset hx)) ?_ H'
   rotate_left
   ·intro b hb c hc4
    have hset:∀k,listed.getD k false=true→(listed.setIfInBounds e.i true).getD k false=true:=fun k hk=>by
     by_cases hke:k=e.i
     ·subst hke; simp [hj2]
     ·rw [getD_set_ne false (Ne.symm hke)]; exact hk
    by_cases hbe:b=e.i
    ·subst hbe; exact hset c (hle c hc4)
    ·rw [getD_set_ne false (Ne.symm hbe)] at hb
     exact hset c (hcl b hb c hc4)
   have hnot:e.i∉(pre++post).map (·.i):=by
    intro hm
    rw [List.map_append,an6] at hm
    rcases hm with h | h
    ·have:=(List.pairwise_append.1 Yd).2.2 e.i h e.i (by simp)
     omega
    ·have:=(List.pairwise_cons.1 (List.pairwise_append.1 Yd).2.1).1 e.i h
     omega
   by_cases hke:k=e.i
   ·subst hke
    constructor
    ·intro h
     exfalso
     simp [hj2] at h
    ·intro h; exact absurd h hnot
   ·rw [getD_set_ne false (Ne.symm hke),hlist k hk]
    simp only [List.map_append,List.map_cons,an6,an9]
    constructor
    ·rintro (h | h | h)
     ·exact .inl h
     ·exact absurd h hke
     ·exact .inr h
    ·rintro (h | h)
     ·exact .inl h
     ·exact .inr (.inr h)
theorem XC (hT:eF P T) (hSt:LA P T) (hC:uZ P n hi) (hnt:hi.nt=cx.nt) {R:Type} {K:St→Option R} {r:R} {Q:Exit→Act→World→Prop} (hQ:∀σ' α' F' a' w',K σ'=some r→Rel cx σ' α' F' a' w'→Q .normal a' w')
  (h:JW T hi n ops ops.toList 0 [] σ K=some r) (H:Rel cx σ α F a w):wpAny P .any ops Q ops.size (Array.replicate ops.size false) a w:=by
 obtain ⟨evs,τ,h1,h2,h3,h4,h5,_⟩:=PW ops.toList 0 [] (by simp) h
 rw [Array.length_toList, ←List.range_eq_range'] at h4
 refine U6 hT hSt hC hnt (fun α' F' a' w' H'=>hQ _ _ _ _ _ h1 H') ops.size evs _ ?_ h2 h3 ?_ h5 (by simp) (fun j hj=>?_) (fun e he=>?_) (fun b hb=>?_) H
 rotate_left 4
 ·exfalso; by_cases hbs:b<ops.size <;> simp [hbs] at hb
 ·have:=congrArg List.length h4; simpa using this
 ·rw [h4]; exact List.pairwise_lt_range
 ·rw [h4]; simp [hj]
 ·have:e.i∈evs.map (·.i):=aox.2 ⟨e,he,rfl⟩
  rw [h4] at this
  exact List.mem_range.1 this
end
end
section
open Go
variable [Fr]
abbrev Rn:=List (Nat×K×List TypeId×List TypeId)
structure Ro (cx:Cx) (jf:Rn):Prop where
 par:∀j pi,cx.par j=some pi→(pi.kp=true∨∃q,pi.base=some q)→∃q,je (ay j) jf=some q
 ptr:∀j p ts v,cx.ptrs j p ts v→∃k l,je (ay j) jf=some (k,l)∧ts=dY p k
 ref:∀j v,cx.refs j v→∃q,je (ay j) jf=some q
theorem uy {A:Type} {b:Bool} {x:Option A} {d:A} (h:(bif b then x else none)=some d):b=true∧x=some d:=by
 cases b with
 | true=>exact ⟨rfl,h⟩
 | false=>exact absurd h (by simp)
def OT.idl:OT→List Nat
 | .val _ ids=>ids
 | .jg _ _ ids=>ids
 | .fn _ caps=>caps.flatMap fun c=>c.2.2
 | _=>[]
def Bb (rs:List Nat) (i:Nat):Prop:=fJ i=true∨i∈rs
structure CP (σ:St) (jf:Rn) (rs:List Nat) (r:Nat) (R R':Root):Prop where
 live:aP σ r R
 valid:bu σ R
 form:∃ow tg ew eh,R'={ R with own:=ow,tags:=tg,w:=[],h:=[],g:=0,ew:=ew,eh:=eh }∧(∀t∈R.k.tys,az t ow=az t R.own)
 tags:∀t∈R.tags,Bb rs t.1→(t.1,0)∈R'.tags
 abS:∀t∈R'.tags,t.2=0∧Bb rs t.1∧t.1≠r
 log:∀k wt ht,je r jf=some (k,wt,ht)→R.k=k∧R'.ew=wt∧R'.eh=ht∧(∀t∈R.w,t∈wt)∧(∀t∈R.ew,t∈wt)∧(∀t∈R.h,t∈ht)∧(∀t∈R.eh,t∈ht)∧R.g=0
structure Pf (σ:St) (jf:Rn) (rs:List Nat) (σ':St):Prop where
 roots:∀r R',σ'.roots r=some R'→r∈rs∧fJ r=false∧∃R,CP σ jf rs r R R'
 made:∀r∈rs,∃R',σ'.roots r=some R'
 slots:∀s,σ'.slots s=.one .undef∨∃sh av d,σ.slots s=.one av∧U8 σ rs sh av=some d∧σ'.slots s=.one (mkA sh d)∧∀i∈sh.idl,Bb rs i
 jf:∀r q,je r jf=some q→r∈rs
theorem CY:∀{p:List (Option Nat)} {q:List Stp} {c:Cont (dF.into 0 p).kin},idxOf p q=some c→pathOf p c=q
 | [],[],_,_=>rfl
 | [],_ :: _,_,h=>by simp [idxOf] at h
 | some n :: p,[],_,h=>by simp [idxOf] at h
 | some n :: p, .idx i :: q,_,h=>by simp [idxOf] at h
 | some n :: p, .fO m :: q,c,h=>by
  have h':(bif Nat.beq n m then idxOf p q else none)=some c:=h
  cases hb:Nat.beq n m with
  | false=>rw [hb] at h'; simp at h'
  | true=>
   rw [hb] at h'
   have:=an1 hb
   subst this
   show Stp.fO n :: pathOf p c=_
   rw [CY (p:=p) (q:=q) (c:=c) h']
 | none :: p,[],_,h=>by simp [idxOf] at h
 | none :: p, .fO i :: q,_,h=>by simp [idxOf] at h
 | none :: p, .idx i :: q,c,h=>by
  have h':(match idxOf p q with
   | some d=>some ((i,d):Cont (dF.into 0 (none :: p)).kin)
   | none=>none)=some c:=h
  cases hq:idxOf p q with
  | none=>rw [hq] at h'; simp at h'
  | some d=>
   rw [hq] at h'
   have h2:((i,d):Cont (dF.into 0 (none :: p)).kin)=c:=aow h'
   rw [←h2]
   show Stp.idx i :: pathOf p d=_
   rw [CY hq]
theorem vJ {rs:List Nat}:∀{l:List Tag} {r:Nat},r∈oL rs l↔(∃n,(r,n)∈l)∧Bb rs r
 | [],r=>by simp [oL]
 | (q,m) :: l,r=>by
  have ih:=vJ (rs:=rs) (l:=l) (r:=r)
  unfold oL
  cases hb:(fJ q || az q rs) && !az q (oL rs l) with
  | true=>
   simp only [cond_true,an9]
   simp only [an3,Bool.or_eq_true,aM] at hb
   constructor
   ·rintro (h | h)
    ·subst h
     exact ⟨⟨m, .inl rfl⟩,hb.1⟩
    ·obtain ⟨⟨n,hn⟩,h2⟩:=ih.1 h
     exact ⟨⟨n, .inr hn⟩,h2⟩
   ·rintro ⟨⟨n,h | h⟩,h2⟩
    ·exact .inl (by simpa using congrArg Prod.fst h)
    ·exact .inr (ih.2 ⟨⟨n,h⟩,h2⟩)
  | false=>
   simp only [cond_false]
   constructor
   ·intro h
    obtain ⟨⟨n,hn⟩,h2⟩:=ih.1 h
    exact ⟨⟨n, .tail _ hn⟩,h2⟩
   ·rintro ⟨⟨n,h⟩,h2⟩
    rcases an9.1 h with h | h
    ·have e:r=q:=by simpa using congrArg Prod.fst h
     subst e
     cases hm:az r (oL rs l) with
     | true=>exact aM.1 hm
     | false=>
      exfalso
      rw [hm] at hb
      simp only [aoz,Bool.and_true,Bool.or_eq_false_iff] at hb
      rcases h2 with h2 | h2
      ·rw [hb.1] at h2; simp at h2
      ·rw [aM.2 h2] at hb; simp at hb
    ·exact ih.2 ⟨⟨n,h⟩,h2⟩
section
variable {P:Program} {T:iV} {cx:Cx} {σ σ':St} {α:dL} {F:List Nat} {a:Act} {w:World} {jf:Rn} {rs:List Nat}
theorem CP.kind {r:Nat} {R R':Root} (h:CP σ jf rs r R R'):R'.kind=R.kind∧R'.k=R.k∧R'.w=[]∧R'.h=[]∧R'.g=0∧R'.aX=R.aX:=by
 obtain ⟨ow,tg,ew,eh,rfl,_⟩:=h.form
 exact ⟨rfl,rfl,rfl,rfl,rfl,rfl⟩
theorem CP.blk {r:Nat} {R R':Root} (h:CP σ jf rs r R R'):blk α R' r=blk α R r∧dU α R' r=dU α R r:=by
 have hk:=h.kind.1
 unfold Ow.blk dU
 rw [hk]
 exact ⟨rfl,rfl⟩
theorem Pf.iQ (hB:Pf σ jf rs σ') {U U':List Tag} (hU:∀t∈U,Bb rs t.1→∃n,(t.1,n)∈U') {b:Nat} (h:iQ cx σ α F w U b):iQ cx σ' α F w U' b:=by
 obtain ⟨h1,h2,h3,h4,h5⟩:=h
 refine ⟨h1,h2,h3,fun r R' hr hb=>?_,fun hlt=>?_⟩
 ·obtain ⟨g1,g2,R,g3⟩:=hB.roots r R' hr.1
  rw [g3.blk.1] at hb
  obtain ⟨n,hn⟩:=h4 r R g3.live hb
  exact hU _ hn (.inr g1)
 ·rcases h5 hlt with ⟨j,n,g1,g2⟩ | h
  ·obtain ⟨n',hn'⟩:=hU _ g1 (.inl (iN j))
   exact .inl ⟨j,n',hn',g2⟩
  ·exact .inr h
theorem Pf.KL (hB:Pf σ jf rs σ') {U U':List Tag} (hU:∀t∈U,Bb rs t.1→∃n,(t.1,n)∈U') {b:Nat} (h:KL σ α F w U b):KL σ' α F w U' b:=by
 obtain ⟨h1,h2,h4⟩:=h
 refine ⟨h1,h2,fun r R' hr hb=>?_⟩
 obtain ⟨g1,g2,R,g3⟩:=hB.roots r R' hr.1
 rw [g3.blk.1] at hb
 obtain ⟨n,hn⟩:=h4 r R g3.live hb
 exact hU _ hn (.inr g1)
theorem aaQ {tags:List Tag} {ids:List Nat} (h:mQ (oL rs tags) ids=true):∀t∈tags,Bb rs t.1→∃n,(t.1,n)∈ids.map fun r=>((r,0):Tag):=by
 intro t ht hi
 refine ⟨0,aox.2 ⟨t.1,jM.1 h _ (vJ.2 ⟨⟨t.2,ht⟩,hi⟩),rfl⟩⟩
theorem Pf.eZ (hB:Pf σ jf rs σ') {ids:List Nat} (h:∀i∈ids,Bb rs i):eZ σ' (ids.map fun r=>((r,0):Tag)):=by
 intro t ht
 obtain ⟨i,h1,rfl⟩:=aox.1 ht
 rcases h i h1 with h | h
 ·exact .inl h
 ·obtain ⟨R',hR⟩:=hB.made i h
  exact .inr ⟨R',hR, .inr (aov _)⟩
theorem Pf.ro (hB:Pf σ jf rs σ') {bt:TypeId} {k:K} {x:El k} {tags:List Tag} {ids:List Nat} {v:Value} (hs:mQ (oL rs tags) ids=true) (hc:bq σ (bt :: k.tys) tags=true)(hE:MC bt ids=true)
  (h:KU cx σ α F w bt k x tags v):KU cx σ' α F w bt k x (ids.map fun r=>((r,0):Tag)) v:=by
 obtain ⟨h1,h2⟩:=h
 obtain ⟨b,o,cs,e1,e2,e3,e4,e5⟩:=h2 hc
 refine ⟨h1,fun _=>⟨b,o,cs,e1,e2,gy (fun _ _=>rfl) (fun b hb=>hB.iQ (aaQ hs) hb) e3,hB.KL (aaQ hs) e4, ?_⟩⟩
 rcases e5 with ⟨g1,g2⟩ | h
 ·refine .inl ⟨g1,fun t ht=>?_⟩
  obtain ⟨i,h1,rfl⟩:=aox.1 ht
  unfold MC at hE
  rw [g1] at hE
  simp only [show Nat.beq SENT SENT=true from rfl,aoo,Bool.false_or,aoc] at hE
  exact hE i h1
 ·exact .inr h
theorem Pf.caps (hB:Pf σ jf rs σ'):∀{cs:List (TypeId×K×List Nat)} {l:List (TypeId×Dat×List Tag)} {d:Cont (RH cs)} {vs:List Value},zA σ rs cs l=some d→(∀i∈cs.flatMap (fun c=>c.2.2),Bb rs i)→kG cx σ α F w l vs→
  kG cx σ' α F w (KF cs d) vs∧∀c∈KF cs d,Ow.eZ σ' c.2.2
 | [],[],_,[],_,_,_=>⟨trivial,by intro c hc; exact absurd hc (by simp [KF])⟩
 | [],_ :: _,_,_,h,_,_=>by simp [zA] at h
 | _ :: _,[],_,_,h,_,_=>by simp [zA] at h
 | [],[],_,_ :: _,_,_,h=>h.elim
 | _ :: _,_ :: _,_,[],_,_,h=>h.elim
 | (t,k,ids) :: cs,(t',d,tags) :: l,c,v :: vs,h,hi,hv=>by
  simp only [zA] at h
  cases hb:Nat.beq t t' && bq σ (t :: k.tys) tags && mQ (oL rs tags) ids && MC t ids with
  | false=>rw [hb] at h; simp at h
  | true=>
   rw [hb] at h
   simp only [cond_true] at h
   simp only [an3] at hb
   obtain ⟨⟨⟨b1,b2⟩,b3⟩,b4⟩:=hb
   have:=an1 b1
   subst this
   cases hck:bP d.1 k d.2 with
   | none=>rw [hck] at h; simp at h
   | some x=>
    rw [hck] at h
    cases hcs:zA σ rs cs l with
    | none=>rw [hcs] at h; simp at h
    | some y=>
     rw [hcs] at h
     have h2:((x,y):Cont (RH ((t,k,ids) :: cs)))=c:=aow h
     subst h2
     obtain ⟨dk,dx⟩:=d
     obtain ⟨e,ex⟩:=bM hck
     simp only at e
     subst e
     simp only at ex
     subst ex
     have aap:∀i∈ids,Bb rs i:=fun i h=>hi i (by simp [h])
     obtain ⟨g1,g2⟩:=hB.caps (vs:=vs) hcs (fun i h=>hi i (by
      rw [List.flatMap_cons]; exact anZ _ h)) hv.2
     refine ⟨⟨hB.ro b3 b2 b4 hv.1,g1⟩,fun q hq=>?_⟩
     rcases an9.1 hq with h | h
     ·subst h; exact hB.eZ aap
     ·exact g2 q h
theorem Pf.av (H:Rel cx σ α F a w) (hB:Pf σ jf rs σ') {sh:OT} {av:AV} {d:Cont sh.ks} {v:Value} (hct:U8 σ rs sh av=some d) (hi:∀i∈sh.idl,Bb rs i) (hv:bI cx σ α F w av v) :
  bI cx σ' α F w (mkA sh d) v∧rR σ' (mkA sh d):=by
 cases sh with
 | undef=>exact ⟨trivial,trivial⟩
 | val k ids=>
  cases av with
  | val k' x tags=>
   simp only [U8] at hct
   cases hb:bq σ k.tys tags && mQ (oL rs tags) ids with
   | false=>rw [hb] at hct; simp at hct
   | true=>
    rw [hb] at hct
    simp only [cond_true] at hct
    simp only [an3] at hb
    cases hck:bP k' k x with
    | none=>rw [hck] at hct; simp at hct
    | some y=>
     rw [hck] at hct
     have h2:((y,()):Cont (OT.val k ids).ks)=d:=aow hct
     subst h2
     obtain ⟨e,ex⟩:=bM hck
     subst e
     simp only at ex
     subst ex
     refine ⟨fun _=>?_,hB.eZ hi⟩
     obtain ⟨cs,g1,g2⟩:=hv (.inr hb.1)
     exact ⟨cs,g1,gy (fun _ _=>rfl) (fun b hb2=>hB.iQ (aaQ hb.2) hb2) g2⟩
  | _=>simp [U8] at hct
 | iP=>
  cases av with
  | iP=>
   exact ⟨hv,trivial⟩
  | _=>simp [U8] at hct
 | ref r=>
  cases av with
  | ref r' g=>
   obtain ⟨hb,_⟩:=uy (show (bif Nat.beq r r' && az r rs && (match σ.roots r with | some R=>Nat.beq R.g g | none=>false) then some () else none)=some d from hct)
   simp only [an3] at hb
   obtain ⟨⟨b1,b2⟩,b3⟩:=hb
   have:=an1 b1
   subst this
   obtain ⟨R',hR'⟩:=hB.made r (aM.1 b2)
   refine ⟨fun Q hQ _=>?_,R',hR', .inr (aov _)⟩
   obtain ⟨_,_,R,g3⟩:=hB.roots r Q hQ.1
   rw [g3.live.1] at b3
   obtain ⟨f1,f2⟩:=hv R g3.live (an1 b3)
   obtain ⟨k1,k2,_⟩:=g3.kind
   exact ⟨k1.trans f1,by rw [k2]; exact f2⟩
  | _=>simp [U8] at hct
 | ptr r p=>
  cases av with
  | ptr r' q n=>
   obtain ⟨hb,ac4⟩:=uy (A:=Cont (dF.into 0 p).kin) (x:=idxOf p q) (show (bif Nat.beq r r' && az r rs && (match σ.roots r with | some R=>clean R.h n (dY q R.k) | none=>false) then idxOf p q else none)=some d from hct)
   simp only [an3] at hb
   obtain ⟨⟨b1,b2⟩,b3⟩:=hb
   have:=an1 b1
   subst this
   have hpq:=CY ac4
   obtain ⟨R',hR'⟩:=hB.made r (aM.1 b2)
   show bI cx σ' α F w (.ptr r (pathOf p d) 0) v∧rR σ' (.ptr r (pathOf p d) 0)
   rw [hpq]
   refine ⟨⟨hv.1,fun Q hQ hvQ _ hpt hg=>?_⟩,R',hR', .inr (aov _)⟩
   obtain ⟨_,_,R,g3⟩:=hB.roots r Q hQ
   rw [g3.live.1] at b3
   have hw:=(CP.blk (α:=α) g3).2
   obtain ⟨ow,tg,ew,eh,rfl,hown⟩:=g3.form
   obtain ⟨f1,f2⟩:=hv.2 R g3.live.1 g3.valid b3 (fun t ht=>by rw [←hown t (oQ q t ht)]; exact hpt t ht) hg
   exact ⟨f1,by rw [hw]; exact f2⟩
  | _=>simp [U8] at hct
 | jg bt k ids=>
  cases av with
  | jg bt' k' x tags=>
   simp only [U8] at hct
   cases hb:Nat.beq bt bt' && bq σ (bt :: k.tys) tags && mQ (oL rs tags) ids && MC bt ids with
   | false=>rw [hb] at hct; simp at hct
   | true=>
    rw [hb] at hct
    simp only [cond_true] at hct
    simp only [an3] at hb
    obtain ⟨⟨⟨b1,b2⟩,b3⟩,b4⟩:=hb
    have:=an1 b1
    subst this
    cases hck:bP k' k x with
    | none=>rw [hck] at hct; simp at hct
    | some y=>
     rw [hck] at hct
     have h2:((y,()):Cont (OT.jg bt k ids).ks)=d:=aow hct
     subst h2
     obtain ⟨e,ex⟩:=bM hck
     subst e
     simp only at ex
     subst ex
     exact ⟨hB.ro b3 b2 b4 hv,hB.eZ hi⟩
  | _=>simp [U8] at hct
 | su=>
  cases av with
  | su=>
   exact ⟨hv,trivial⟩
  | _=>simp [U8] at hct
 | fn f cs=>
  cases av with
  | fn f' caps=>
   obtain ⟨hb,ac4⟩:=uy (A:=Cont (RH cs)) (x:=zA σ rs cs caps) (show (bif Nat.beq f f' then zA σ rs cs caps else none)=some d from hct)
   have:=an1 hb
   subst this
   obtain ⟨vs,e,hc⟩:=hv
   obtain ⟨g1,g2⟩:=hB.caps ac4 hi hc
   exact ⟨⟨vs,e,g1⟩,g2⟩
  | _=>simp [U8] at hct
end
end
end Go.Proofs.YtailcbngagacaabGreat.Ow
