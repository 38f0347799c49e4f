/- What all ops of a list come to, and vaults that tell it. -/
import Derived.Test.YtailcbngagacaaaGreatRecLibMath
set_option linter.unusedVariables false
set_option linter.unusedSimpArgs false
namespace Go.Proofs.YtailcbngagacaaaGreat.EZ
open Go Ow JO kF qc iw gU tK kK yM zG tL qz vg JP
def nC (s:j4) (o:OpC):rG:=if dW o=0 then gU.uQ (ji s o) else bad (dW o)
theorem Yr {s:j4} {o:OpC} {r:rG} (h:(dW o=0/\r=gU.uQ (ji s o))\/(dW o≠0/\r=bad (dW o))):r=nC s o:=by
 unfold nC
 rcases h with ⟨h1,h2⟩ | ⟨h1,h2⟩
 ·rw [aoi h1,h2]
 ·rw [aok h1,h2]
theorem Dt {n:Nat} {s:j4} {o:OpC} (hs:wW s) (hg:qE s) (ho:okO o) (hn:big<n):iT n s o=some (nC s o,())/\nW n s o=some (nC s o,())/\ZA (nC s o)/\((nC s o).1=0->qE (nC s o).2.2.1):=by
 obtain ⟨r,e1,e2,e3,e4⟩:=Br hs ho hg hn
 have h4:=I5 hg e4
 obtain rfl:=Yr e4
 exact ⟨e1,e2,e3,h4⟩
def pF:j4->List OpC->rG
 | s,[]=>(0,[],s,())
 | s,o :: l=>if (nC s o).1=0 then pF (nC s o).2.2.1 l else bad (nC s o).1
theorem M0 {s:j4} {o:OpC} {l:List OpC} (h:(pF s (o :: l)).1=0):(nC s o).1=0/\pF s (o :: l)=pF (nC s o).2.2.1 l:=by
 by_cases h0:(nC s o).1=0
 ·exact ⟨h0,by rw [pF,aoi h0]⟩
 ·rw [pF,aok h0] at h
  exact absurd h h0
theorem M5 {l:List OpC}:∀{s:j4},(pF s l).1=0->pF s l=(0,[],(pF s l).2.2.1,()):=by
 induction l with
 | nil=>intro s _; rfl
 | cons o l ih=>
  intro s h
  obtain ⟨_,h2⟩:=M0 h
  rw [h2] at h ⊢
  exact ih h
theorem Wv {l:List OpC}:∀{s:j4},wW s->qE s->(∀o∈l,okO o)->ZA (pF s l)/\((pF s l).1=0->qE (pF s l).2.2.1):=by
 induction l with
 | nil=>intro s h1 h2 _; exact ⟨⟨by simp [pF],h1⟩,fun _=>h2⟩
 | cons o l ih=>
  intro s h1 h2 h3
  obtain ⟨_,_,g1,g2⟩:=Dt (n:=big+1) h1 h2 (h3 o (by simp)) (by omega)
  rw [pF]
  split
  ·rename_i h0
   exact ih g1.2 (g2 h0) (fun x hx=>h3 x (by simp [hx]))
  ·rename_i h0
   exact ⟨zN _,fun h=>absurd h h0⟩
theorem IL {n:Nat} {s:j4} {l:List OpC} (hs:wW s) (hg:qE s) (hl:∀o∈l,okO o) (h60:l.length<=60) (hn:big<n):iA n s l=some (pF s l,())/\iy n s l=some (pF s l,()):=by
 have hn':1048576<n:=hn
 obtain ⟨he,c,hc,hgc⟩:=vv hs hn
 have h0:=hgc.2 hg
 unfold iA iy
 rw [aoY (show ¬((l.length:Int)>60) by omega),aok (by decide),aok (by decide),he,hc]
 simp only [anf,h0,aox,anH,anh,aog,Da hs hn,own hs hn,Fu]
 generalize hBs:(fun (L5:List OpC×Int×rG×rG×Unit->Option (rG×Unit)) v5=>_)=Bs
 generalize XP:(fun (L3:List OpC×Int×Int×rG×j4×Unit->Option (rG×Unit)) v3=>_)=Bi
 have key:∀(m i:Nat) (s:j4) (f:Nat),i+m=l.length->m<f->wW s->qE s->rounds Bs f (l,(i:Int),bad 0,(0,[],s,()),())=some (pF s (l.drop i),())/\rounds Bi f (l,(l.length:Int),(i:Int),bad 0,s,())=some (pF s (l.drop i),()):=by
  intro m
  induction m with
  | zero=>
   intro i s f hi hf hs hg
   obtain ⟨f,rfl⟩:∃g,f=g+1:=⟨f - 1,by omega⟩
   rw [apu (by omega)]
   refine ⟨?_, ?_⟩
   ·show Bs (rounds Bs f) _=_
    rw [<-hBs]
    simp only
    rw [aok (by rw [ao1]; omega)]
    rfl
   ·show Bi (rounds Bi f) _=_
    rw [<-XP]
    simp only
    rw [aok (by rw [ao1]; omega)]
    rfl
  | succ m ih=>
   intro i s f hi hf hs hg
   obtain ⟨f,rfl⟩:∃g,f=g+1:=⟨f - 1,by omega⟩
   have hlt:i<l.length:=by omega
   obtain ⟨e1,e2,e3,e4⟩:=Dt hs hg (hl _ (anI hlt)) hn
   rw [aoM hlt,pF]
   generalize nC s l[i]=r at e1 e2 e3 e4 ⊢
   have q1:rounds Bs (f+1) (l,(i:Int),bad 0,(0,[],s,()),())=if (!decide (r.1=(0:Int)))=true then some (bad r.1,()) else rounds Bs f (l,((i+1:Nat):Int),bad 0,(0,[],r.2.2.1,()),()):=by
    show Bs (rounds Bs f) _=_
    conv=>lhs; rw [<-hBs]
    simp only [anG,hlt,aox,aof,aJ hlt,fV hlt,aX hlt (by omega),e1,anf]
    rw [hBs]
   have q2:rounds Bi (f+1) (l,(l.length:Int),(i:Int),bad 0,s,())=if (!decide (r.1=(0:Int)))=true then some (bad r.1,()) else rounds Bi f (l,(l.length:Int),((i+1:Nat):Int),bad 0,r.2.2.1,()):=by
    show Bi (rounds Bi f) _=_
    conv=>lhs; rw [<-XP]
    simp only [anG,hlt,aox,aof,aJ hlt,fV hlt,aX hlt (by omega),e2,anf]
    rw [XP]
    rfl
   rw [q1,q2]
   by_cases hr:r.1=0
   ·have hb:(!decide (r.1=(0:Int)))=false:=by rw [aoA hr]; rfl
    rw [hb,aoi hr]
    exact ih (i+1) _ f (by omega) (by omega) e3.2 (e4 hr)
   ·have hb:(!decide (r.1=(0:Int)))=true:=by rw [aoY hr]; rfl
    rw [hb,aok hr]
    exact ⟨rfl,rfl⟩
 exact key l.length 0 s n (by omega) (by omega) hs hg
theorem MM (o:OpC):0<(bK o).length:=by rw [oD]; omega
theorem Sq:∀{k1 k2:Nat} {d:List Int},d.length<k1->d.length<k2->pU R8 k1 d=pU R8 k2 d:=by
 intro k1
 induction k1 with
 | zero=>intro k2 d h; omega
 | succ k1 ih=>
  intro k2 d h1 h2
  obtain ⟨k2,rfl⟩:∃g,k2=g+1:=⟨k2 - 1,by omega⟩
  rw [pU,pU]
  cases hr:uj R8 d with
  | none=>rfl
  | some o=>
   have hle:=(ym hr).2.length_le
   have hp:=MM o
   simp only
   rw [ih (k2:=k2) (by rw [ao5]; omega) (by rw [ao5]; omega)]
theorem OM:jP []=([],0):=by
 unfold jP
 rw [pU,Cb]
theorem X9 {o:OpC} {d:List Int} (h:dW o=0):jP (bK o++d)=(o :: (jP d).1,(bK o).length+(jP d).2):=by
 have hp:=MM o
 unfold jP
 rw [pU,Dk (o:=o) ⟨h,List.prefix_append _ _⟩]
 simp only [List.drop_left']
 rw [Sq (k1:=(bK o++d).length) (k2:=d.length+1) (by rw [anm]; omega) (by omega)]
theorem VD {d:List Int}:∀{l:List OpC},(∀o∈l,dW o=0)->jP (l.flatMap bK++d)=(l++(jP d).1,(l.flatMap bK).length+(jP d).2)
 | [],_=>by simp
 | o :: l,h=>by
  rw [anT,anB,X9 (h o (by simp)),VD (fun x hx=>h x (by simp [hx]))]
  simp only [anW,anm,aoK]
theorem X8 {l:List OpC} (h:∀o∈l,dW o=0):jP (l.flatMap bK)=(l,(l.flatMap bK).length):=by
 have:=VD (d:=[]) h
 rw [anJ,OM] at this
 simpa using this
theorem Jb:∀{k:Nat} {d:List Int},d.take (pU R8 k d).2=(pU R8 k d).1.flatMap bK
 | 0,d=>by simp [pU]
 | k+1,d=>by
  rw [pU]
  cases hr:uj R8 d with
  | none=>simp
  | some o=>
   have h3:=(CZ (ym hr).2).2.2
   simp only [anT]
   rw [<-Jb (k:=k) (d:=d.drop (bK o).length),List.take_add,h3]
theorem Ya (d:List Int):d.take (jP d).2=(jP d).1.flatMap bK:=Jb
theorem Mt {d:List Int} (h:((jP d).2:Int)=(d.length:Int)):d=(jP d).1.flatMap bK:=by
 rw [<-Ya,aoW (by omega)]
structure Y8 (v:wZ):Prop where
 up:UpV v
 whole:yx v=true
 run:pF eS (opsV v)=(0,[],v.2.2.2.1,())
theorem Y8.sure {v:wZ} (h:Y8 v):v.2.1=(jP v.2.1).1.flatMap bK/\v.2.2.1=(jP v.2.2.1).1.flatMap bK:=by
 have:=h.whole
 unfold yx at this
 simp only [ank,ao1] at this
 exact ⟨Mt this.1,Mt this.2⟩
theorem OZ {v:wZ}:∀o∈opsV v,dW o=0:=fun o ho=>(ann.1 ho).elim ((vI v.2.1).1 o) ((vI v.2.2.1).1 o)
theorem Nc {n:Nat} {v:wZ} (h:IC v) (hk:Y8 v) (hn:big<n):dS n v=some (0,()):=by
 have g0:=hk.up.few
 obtain ⟨he,c,hc,hgc⟩:=vv h.st hn
 have hc0:=hgc.2 hk.up.good
 have a2:=(IL xm.1 xm.2 (fun o ho=>(zQ h o ho).1) hk.up.ops hn).2
 have e1:kT n=some (eS,()):=rfl
 unfold dS
 simp only [he,hc,BV h hn,e1,a2,anf,hk.run,zU h.st hn]
 rw [wrap_i64 (x:=(v.2.1.length:Int)+(v.2.2.1.length:Int)) (by omega) (by omega),aoY (show ¬((v.2.1.length:Int)+(v.2.2.1.length:Int)>8000) by omega)]
 simp only [anh,aog,hk.up.up,anH,hc0,aox,hk.whole]
theorem agl {n:Nat} {v:wZ} (h:IC v) (hk:Y8 v) (hn:big<n):gK n v=some (0,()):=by
 unfold gK
 rw [Nc h hk hn]
 simp only [anf,aox,anH,anh,aog,hk.up.up,aof]
theorem abQ {n:Nat} {v:wZ} (h:IC v) (hf:gK n v=some (0,())) (hn:big<n):Y8 v:=by
 obtain ⟨c',e1',_,hc'⟩:=WO h hn
 rw [hf] at e1'
 simp only [ane,anp,an9] at e1'
 have hup:=hc' e1'.symm
 have hf2:dS n v=some (0,()):=by
  obtain ⟨c,d1,_,_⟩:=yw h hn
  unfold gK at hf
  rw [d1] at hf ⊢
  simp only [anf] at hf
  by_cases c0:c=0
  ·rw [c0]
  ·rw [aoi (by simp [c0])] at hf
   simp only [ane,anp,an9] at hf
   exact absurd hf c0
 have g0:=hup.few
 obtain ⟨he,c,hc,hgc⟩:=vv h.st hn
 have hc0:=hgc.2 hup.good
 have a2:=(IL xm.1 xm.2 (fun o ho=>(zQ h o ho).1) hup.ops hn).2
 have hro:=(Wv (l:=opsV v) xm.1 xm.2 (fun o ho=>(zQ h o ho).1)).1
 have e1:kT n=some (eS,()):=rfl
 unfold dS at hf2
 simp only [he,hc,BV h hn,e1,a2,anf,zU hro.2 hn] at hf2
 rw [wrap_i64 (x:=(v.2.1.length:Int)+(v.2.2.1.length:Int)) (by omega) (by omega),aoY (show ¬((v.2.1.length:Int)+(v.2.2.1.length:Int)>8000) by omega)] at hf2
 simp only [anh,aog,hup.up,anH,hc0,aox] at hf2
 refine ⟨hup, ?_, ?_⟩
 ·cases hw:yx v with
  | true=>rfl
  | false=>rw [hw] at hf2; simp at hf2
 ·cases hw:yx v with
  | false=>rw [hw] at hf2; simp at hf2
  | true=>
   rw [hw] at hf2
   simp only [anH,anh,aog] at hf2
   by_cases h0:(pF eS (opsV v)).1=0
   ·simp only [h0,aox,anH,anh,aog] at hf2
    by_cases h1:(pF eS (opsV v)).2.2.1=v.2.2.2.1
    ·rw [M5 h0,h1]
    ·rw [aoY h1] at hf2
     simp at hf2
   ·rw [aoY h0] at hf2
    simp at hf2
def told (l:List OpC):wZ:=(true,l.flatMap bK,[],(pF eS l).2.2.1,())
structure PW (l:List OpC):Prop where
 right:∀o∈l,dW o=0
 ok:∀o∈l,okO o/\ES o
 few:l.length<=60
 small:(l.flatMap bK).length<=8000
 run:(pF eS l).1=0
theorem Ja {l:List OpC} (h:∀o∈l,ES o):pR (l.flatMap bK):=fun x hx=>by
 obtain ⟨o,ho,hx⟩:=anR.1 hx
 have h8:=h o ho
 have h1:=h8.head.1
 have h2:=yu (vD o)
 exact (rq h1 (BL h2.1 (by omega))) x hx
theorem Yw {l:List OpC} (h:PW l):IC (told l)/\Y8 (told l)/\opsV (told l)=l:=by
 have hj:=X8 h.right
 have ho:opsV (told l)=l:=by
  show (jP (l.flatMap bK)).1++(jP []).1=l
  rw [hj,OM]
  simp
 have hr:=Wv (l:=l) xm.1 xm.2 (fun o ho=>(h.ok o ho).1)
 have hs:=h.small
 refine ⟨⟨?_,Ja fun o ho=>(h.ok o ho).2,by simp [told], ?_,hr.1.2⟩,⟨⟨?_,rfl,hr.2 h.run,by rw [ho]; exact h.few⟩, ?_, ?_⟩,ho⟩
 ·show (l.flatMap bK).length<=big
  unfold big; omega
 ·intro x hx; simp [told] at hx
 ·show (l.flatMap bK).length+([]:List Int).length<=8000
  simpa using hs
 ·show (decide (((jP (l.flatMap bK)).2:Int)=((l.flatMap bK).length:Int)) && decide (((jP []).2:Int)=(([]:List Int).length:Int)))=true
  rw [hj,OM]
  simp
 ·rw [ho,M5 h.run]
  rfl
theorem Y8.tells {v:wZ} (h:IC v) (hk:Y8 v):PW (opsV v)/\(opsV v).flatMap bK=v.2.1++v.2.2.1:=by
 have e:(opsV v).flatMap bK=v.2.1++v.2.2.1:=by
  have:=hk.sure
  unfold opsV
  rw [apk, <-this.1, <-this.2]
 refine ⟨⟨OZ,zQ h,hk.up.ops, ?_,by rw [hk.run]⟩,e⟩
 rw [e,anm]
 exact hk.up.few
end Go.Proofs.YtailcbngagacaaaGreat.EZ
