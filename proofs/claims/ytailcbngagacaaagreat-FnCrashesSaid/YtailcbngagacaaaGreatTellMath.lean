/- What all ops of a list come to, and vaults that tell it. -/
import Derived.Test.YtailcbngagacaaaGreatCrashLibMath
set_option linter.unusedVariables false
set_option linter.unusedSimpArgs false
namespace Go.Proofs.YtailcbngagacaaaGreat.Mt
open Go Ow nJ oh vB pO ng yZ uA H_ Ms Bq zo BI Ie
def pV (s:bP) (o:OpC):kE:=if iF o=0 then ng.mW (oW s o) else bad (iF o)
theorem anM {s:bP} {o:OpC} {r:kE} (h:(iF o=0/\r=ng.mW (oW s o))\/(iF o≠0/\r=bad (iF o))):r=pV s o:=by
 unfold pV
 rcases h with ⟨h1,h2⟩ | ⟨h1,h2⟩
 ·rw [aj h1,h2]
 ·rw [aA h1,h2]
theorem Oh {n:Nat} {s:bP} {o:OpC} (hs:gU s) (hg:nE s) (ho:okO o) (hn:big<n):yU n s o=some (pV s o,())/\Dz n s o=some (pV s o,())/\Aj (pV s o)/\((pV s o).1=0->nE (pV s o).2.2.1):=by
 obtain ⟨r,e1,e2,e3,e4⟩:=XJ hs ho hg hn
 have h4:=YP hg e4
 obtain rfl:=anM e4
 exact ⟨e1,e2,e3,h4⟩
def iw:bP->List OpC->kE
 | s,[]=>(0,[],s,())
 | s,o :: l=>if (pV s o).1=0 then iw (pV s o).2.2.1 l else bad (pV s o).1
theorem Oc {s:bP} {o:OpC} {l:List OpC} (h:(iw s (o :: l)).1=0):(pV s o).1=0/\iw s (o :: l)=iw (pV s o).2.2.1 l:=by
 by_cases h0:(pV s o).1=0
 ·exact ⟨h0,by rw [iw,aj h0]⟩
 ·rw [iw,aA h0] at h
  exact absurd h h0
theorem ab2 {l:List OpC}:∀{s:bP},(iw s l).1=0->iw s l=(0,[],(iw s l).2.2.1,()):=by
 induction l with
 | nil=>intro s _; rfl
 | cons o l ih=>
  intro s h
  obtain ⟨_,h2⟩:=Oc h
  rw [h2] at h ⊢
  exact ih h
theorem anm {a b:List OpC}:∀{s:bP},(iw s a).1=0->iw s (a++b)=iw (iw s a).2.2.1 b:=by
 induction a with
 | nil=>intro s _; rfl
 | cons o a ih=>
  intro s h
  obtain ⟨h1,h2⟩:=Oc h
  rw [h2] at h ⊢
  rw [kX,iw,aj h1]
  exact ih h
theorem anv {a b:List OpC}:∀{s:bP},(iw s (a++b)).1=0->(iw s a).1=0:=by
 induction a with
 | nil=>intro s _; rfl
 | cons o a ih=>
  intro s h
  rw [kX] at h
  obtain ⟨h1,h2⟩:=Oc h
  rw [h2] at h
  rw [iw,aj h1]
  exact ih h
theorem Ul {l:List OpC}:∀{s:bP},gU s->nE s->(∀o∈l,okO o)->Aj (iw s l)/\((iw s l).1=0->nE (iw s l).2.2.1):=by
 induction l with
 | nil=>intro s h1 h2 _; exact ⟨⟨by simp [iw],h1⟩,fun _=>h2⟩
 | cons o l ih=>
  intro s h1 h2 h3
  obtain ⟨_,_,g1,g2⟩:=Oh (n:=big+1) h1 h2 (h3 o (by simp)) (by omega)
  rw [iw]
  split
  ·rename_i h0
   exact ih g1.2 (g2 h0) (fun x hx=>h3 x (by simp [hx]))
  ·rename_i h0
   exact ⟨FD _,fun h=>absurd h h0⟩
theorem MG {n:Nat} {s:bP} {l:List OpC} (hs:gU s) (hg:nE s) (hl:∀o∈l,okO o) (h60:l.length<=60) (hn:big<n):A9 n s l=some (iw s l,())/\xH n s l=some (iw s l,()):=by
 have hn':1048576<n:=hn
 obtain ⟨he,c,hc,hgc⟩:=zQ hs hn
 have h0:=hgc.2 hg
 unfold A9 xH
 rw [f_ (show ¬((l.length:Int)>60) by omega),aA (by decide),aA (by decide),he,hc]
 simp only [aL,h0,bQ,jc,bJ,bF,Jo hs hn,own hs hn,QB]
 generalize Co:(fun (L5:List OpC×Int×kE×kE×Unit->Option (kE×Unit)) v5=>_)=Bs
 generalize yj:(fun (L3:List OpC×Int×Int×kE×bP×Unit->Option (kE×Unit)) v3=>_)=Bi
 have key:∀(m i:Nat) (s:bP) (f:Nat),i+m=l.length->m<f->gU s->nE s->rounds Bs f (l,(i:Int),bad 0,(0,[],s,()),())=some (iw s (l.drop i),())/\rounds Bi f (l,(l.length:Int),(i:Int),bad 0,s,())=some (iw s (l.drop i),()):=by
  intro m
  induction m with
  | zero=>
   intro i s f hi hf hs hg
   obtain ⟨f,rfl⟩:∃g,f=g+1:=⟨f - 1,by omega⟩
   rw [DX (by omega)]
   refine ⟨?_, ?_⟩
   ·show Bs (rounds Bs f) _=_
    rw [<-Co]
    simp only
    rw [aA (by rw [dH]; omega)]
    rfl
   ·show Bi (rounds Bi f) _=_
    rw [<-yj]
    simp only
    rw [aA (by rw [dH]; omega)]
    rfl
  | succ m ih=>
   intro i s f hi hf hs hg
   obtain ⟨f,rfl⟩:∃g,f=g+1:=⟨f - 1,by omega⟩
   have hlt:i<l.length:=by omega
   obtain ⟨e1,e2,e3,e4⟩:=Oh hs hg (hl _ (jY hlt)) hn
   rw [HV hlt,iw]
   generalize pV s l[i]=r at e1 e2 e3 e4 ⊢
   have q1:rounds Bs (f+1) (l,(i:Int),bad 0,(0,[],s,()),())=if (!decide (r.1=(0:Int)))=true then some (bad r.1,()) else rounds Bs f (l,((i+1:Nat):Int),bad 0,(0,[],r.2.2.1,()),()):=by
    show Bs (rounds Bs f) _=_
    conv=>lhs; rw [<-Co]
    simp only [g_,hlt,bQ,a_,dz hlt,nT hlt,gu hlt (by omega),e1,aL]
    rw [Co]
   have q2:rounds Bi (f+1) (l,(l.length:Int),(i:Int),bad 0,s,())=if (!decide (r.1=(0:Int)))=true then some (bad r.1,()) else rounds Bi f (l,(l.length:Int),((i+1:Nat):Int),bad 0,r.2.2.1,()):=by
    show Bi (rounds Bi f) _=_
    conv=>lhs; rw [<-yj]
    simp only [g_,hlt,bQ,a_,dz hlt,nT hlt,gu hlt (by omega),e2,aL]
    rw [yj]
    rfl
   rw [q1,q2]
   by_cases hr:r.1=0
   ·have hb:(!decide (r.1=(0:Int)))=false:=by rw [gH hr]; rfl
    rw [hb,aj hr]
    exact ih (i+1) _ f (by omega) (by omega) e3.2 (e4 hr)
   ·have hb:(!decide (r.1=(0:Int)))=true:=by rw [f_ hr]; rfl
    rw [hb,aA hr]
    exact ⟨rfl,rfl⟩
 exact key l.length 0 s n (by omega) (by omega) hs hg
theorem aa7 (o:OpC):0<(bZ o).length:=by rw [xw]; omega
theorem alJ:∀{k1 k2:Nat} {d:List Int},d.length<k1->d.length<k2->jB R8 k1 d=jB R8 k2 d:=by
 intro k1
 induction k1 with
 | zero=>intro k2 d h; omega
 | succ k1 ih=>
  intro k2 d h1 h2
  obtain ⟨k2,rfl⟩:∃g,k2=g+1:=⟨k2 - 1,by omega⟩
  rw [jB,jB]
  cases hr:qi R8 d with
  | none=>rfl
  | some o=>
   have hle:=(Da hr).2.length_le
   have hp:=aa7 o
   simp only
   rw [ih (k2:=k2) (by rw [wQ]; omega) (by rw [wQ]; omega)]
theorem ND:jP []=([],0):=by
 unfold jP
 rw [jB,NY]
theorem aaf {o:OpC} {d:List Int} (h:iF o=0):jP (bZ o++d)=(o :: (jP d).1,(bZ o).length+(jP d).2):=by
 have hp:=aa7 o
 unfold jP
 rw [jB,Ua (o:=o) ⟨h,List.prefix_append _ _⟩]
 simp only [List.drop_left']
 rw [alJ (k1:=(bZ o++d).length) (k2:=d.length+1) (by rw [bV]; omega) (by omega)]
theorem SY {d:List Int}:∀{l:List OpC},(∀o∈l,iF o=0)->jP (l.flatMap bZ++d)=(l++(jP d).1,(l.flatMap bZ).length+(jP d).2)
 | [],_=>by simp
 | o :: l,h=>by
  rw [kQ,gD,aaf (h o (by simp)),SY (fun x hx=>h x (by simp [hx]))]
  simp only [kX,bV,nM]
theorem aae {l:List OpC} (h:∀o∈l,iF o=0):jP (l.flatMap bZ)=(l,(l.flatMap bZ).length):=by
 have:=SY (d:=[]) h
 rw [h_,ND] at this
 simpa using this
theorem aan:∀{k:Nat} {d:List Int},d.take (jB R8 k d).2=(jB R8 k d).1.flatMap bZ
 | 0,d=>by simp [jB]
 | k+1,d=>by
  rw [jB]
  cases hr:qi R8 d with
  | none=>simp
  | some o=>
   have h3:=(Fj (Da hr).2).2.2
   simp only [kQ]
   rw [<-aan (k:=k) (d:=d.drop (bZ o).length),List.take_add,h3]
theorem aai (d:List Int):d.take (jP d).2=(jP d).1.flatMap bZ:=aan
theorem aaj {d:List Int} (h:((jP d).2:Int)=(d.length:Int)):d=(jP d).1.flatMap bZ:=by
 rw [<-aai,BD (by omega)]
theorem aag:∀{l:List OpC} {k:Nat},(∀o∈l,iF o=0)->∃j,j<=l.length/\(jP ((l.flatMap bZ).take k)).1=l.take j
 | [],k,_=>⟨0,bN _,by simp [ND]⟩
 | o :: l,k,h=>by
  by_cases hk:(bZ o).length<=k
  ·obtain ⟨j,h1,h2⟩:=aag (l:=l) (k:=k - (bZ o).length) (fun x hx=>h x (by simp [hx]))
   refine ⟨j+1,by simp only [gY]; omega, ?_⟩
   rw [kQ,List.take_append,BD hk,aaf (h o (by simp)),h2,List.take_succ_cons]
  ·refine ⟨0,fT _, ?_⟩
   have hn:¬∃o',Is R8 (((o :: l).flatMap bZ).take k) o':=by
    rintro ⟨o',h1,h2⟩
    have h3:bZ o' <+: (o :: l).flatMap bZ:=h2.trans (List.take_prefix _ _)
    have h4:bZ o <+: (o :: l).flatMap bZ:=by rw [kQ]; exact List.prefix_append _ _
    obtain rfl:=aad h3 h4
    have:=h2.length_le
    rw [mZ] at this
    omega
   unfold jP
   rw [jB,NZ hn]
   simp
structure zn (v:jh):Prop where
 up:Xr v
 whole:yL v=true
 run:iw eS (opsV v)=(0,[],v.2.2.2.1,())
theorem zn.sure {v:jh} (h:zn v):v.2.1=(jP v.2.1).1.flatMap bZ/\v.2.2.1=(jP v.2.2.1).1.flatMap bZ:=by
 have:=h.whole
 unfold yL at this
 simp only [bg,dH] at this
 exact ⟨aaj this.1,aaj this.2⟩
theorem amG {v:jh}:∀o∈opsV v,iF o=0:=fun o ho=>(bW.1 ho).elim ((CP v.2.1).1 o) ((CP v.2.2.1).1 o)
theorem acI {n:Nat} {v:jh} (h:qQ v) (hk:zn v) (hn:big<n):uB n v=some (0,()):=by
 have g0:=hk.up.few
 obtain ⟨he,c,hc,hgc⟩:=zQ h.st hn
 have hc0:=hgc.2 hk.up.good
 have a2:=(MG pW.1 pW.2 (fun o ho=>(JE h o ho).1) hk.up.ops hn).2
 have e1:xJ n=some (eS,()):=rfl
 unfold uB
 simp only [he,hc,TN h hn,e1,a2,aL,hk.run,FW h.st hn]
 rw [wrap_i64 (x:=(v.2.1.length:Int)+(v.2.2.1.length:Int)) (by omega) (by omega),f_ (show ¬((v.2.1.length:Int)+(v.2.2.1.length:Int)>8000) by omega)]
 simp only [bJ,bF,hk.up.up,jc,hc0,bQ,hk.whole]
theorem an6 {n:Nat} {v:jh} (h:qQ v) (hk:zn v) (hn:big<n):wJ n v=some (0,()):=by
 unfold wJ
 rw [acI h hk hn]
 simp only [aL,bQ,jc,bJ,bF,hk.up.up,a_]
theorem an9 {n:Nat} {v:jh} (h:qQ v) (hf:wJ n v=some (0,())) (hn:big<n):zn v:=by
 obtain ⟨c',B_,_,hc'⟩:=acG h hn
 rw [hf] at B_
 simp only [au,bS,eX] at B_
 have hup:=hc' B_.symm
 have hf2:uB n v=some (0,()):=by
  obtain ⟨c,d1,_,_⟩:=acH h hn
  unfold wJ at hf
  rw [d1] at hf ⊢
  simp only [aL] at hf
  by_cases c0:c=0
  ·rw [c0]
  ·rw [aj (by simp [c0])] at hf
   simp only [au,bS,eX] at hf
   exact absurd hf c0
 have g0:=hup.few
 obtain ⟨he,c,hc,hgc⟩:=zQ h.st hn
 have hc0:=hgc.2 hup.good
 have a2:=(MG pW.1 pW.2 (fun o ho=>(JE h o ho).1) hup.ops hn).2
 have hro:=(Ul (l:=opsV v) pW.1 pW.2 (fun o ho=>(JE h o ho).1)).1
 have e1:xJ n=some (eS,()):=rfl
 unfold uB at hf2
 simp only [he,hc,TN h hn,e1,a2,aL,FW hro.2 hn] at hf2
 rw [wrap_i64 (x:=(v.2.1.length:Int)+(v.2.2.1.length:Int)) (by omega) (by omega),f_ (show ¬((v.2.1.length:Int)+(v.2.2.1.length:Int)>8000) by omega)] at hf2
 simp only [bJ,bF,hup.up,jc,hc0,bQ] at hf2
 refine ⟨hup, ?_, ?_⟩
 ·cases hw:yL v with
  | true=>rfl
  | false=>rw [hw] at hf2; simp at hf2
 ·cases hw:yL v with
  | false=>rw [hw] at hf2; simp at hf2
  | true=>
   rw [hw] at hf2
   simp only [jc,bJ,bF] at hf2
   by_cases h0:(iw eS (opsV v)).1=0
   ·simp only [h0,bQ,jc,bJ,bF] at hf2
    by_cases h1:(iw eS (opsV v)).2.2.1=v.2.2.2.1
    ·rw [ab2 h0,h1]
    ·rw [f_ h1] at hf2
     simp at hf2
   ·rw [f_ h0] at hf2
    simp at hf2
def told (l:List OpC):jh:=(true,l.flatMap bZ,[],(iw eS l).2.2.1,())
structure D_ (l:List OpC):Prop where
 right:∀o∈l,iF o=0
 ok:∀o∈l,okO o/\oo o
 few:l.length<=60
 small:(l.flatMap bZ).length<=8000
 run:(iw eS l).1=0
theorem SQ {l:List OpC} (h:∀o∈l,oo o):dA (l.flatMap bZ):=fun x hx=>by
 obtain ⟨o,ho,hx⟩:=jZ.1 hx
 have h8:=h o ho
 have h1:=h8.head.1
 have h2:=Ol (qZ o)
 exact (uO h1 (Jk h2.1 (by omega))) x hx
theorem anZ {l:List OpC} (h:D_ l):qQ (told l)/\zn (told l)/\opsV (told l)=l:=by
 have hj:=aae h.right
 have ho:opsV (told l)=l:=by
  show (jP (l.flatMap bZ)).1++(jP []).1=l
  rw [hj,ND]
  simp
 have hr:=Ul (l:=l) pW.1 pW.2 (fun o ho=>(h.ok o ho).1)
 have hs:=h.small
 refine ⟨⟨?_,SQ fun o ho=>(h.ok o ho).2,by simp [told], ?_,hr.1.2⟩,⟨⟨?_,rfl,hr.2 h.run,by rw [ho]; exact h.few⟩, ?_, ?_⟩,ho⟩
 ·show (l.flatMap bZ).length<=big
  unfold big; omega
 ·intro x hx; simp [told] at hx
 ·show (l.flatMap bZ).length+([]:List Int).length<=8000
  simpa using hs
 ·show (decide (((jP (l.flatMap bZ)).2:Int)=((l.flatMap bZ).length:Int)) && decide (((jP []).2:Int)=(([]:List Int).length:Int)))=true
  rw [hj,ND]
  simp
 ·rw [ho,ab2 h.run]
  rfl
theorem zn.tells {v:jh} (h:qQ v) (hk:zn v):D_ (opsV v)/\(opsV v).flatMap bZ=v.2.1++v.2.2.1:=by
 have e:(opsV v).flatMap bZ=v.2.1++v.2.2.1:=by
  have:=hk.sure
  unfold opsV
  rw [L6, <-this.1, <-this.2]
 refine ⟨⟨amG,JE h,hk.up.ops, ?_,by rw [hk.run]⟩,e⟩
 rw [e,bV]
 exact hk.up.few
end Go.Proofs.YtailcbngagacaaaGreat.Mt
