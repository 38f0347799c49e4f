/- What all ops of a list come to, and vaults that tell it. -/
import Derived.Test.YtailcbngagacaabGreatFlushLibMath
set_option linter.unusedVariables false
set_option linter.unusedSimpArgs false
namespace Go.Proofs.YtailcbngagacaabGreat.Ms
open Go Ow ni nM vo oQ mP xL uu H7 Mr Bo zu BA Ia
def kK (s:bQ) (o:OpC):kI:=if iC o=0 then mP.mX (oV s o) else bad (iC o)
theorem an1 {s:bQ} {o:OpC} {r:kI} (h:(iC o=0/\r=mP.mX (oV s o))\/(iC o≠0/\r=bad (iC o))):r=kK s o:=by
 unfold kK
 rcases h with ⟨h1,h2⟩ | ⟨h1,h2⟩
 ·rw [ak h1,h2]
 ·rw [aA h1,h2]
theorem CZ {n:Nat} {s:bQ} {o:OpC} (hs:gW s) (hg:nG s) (ho:okO o) (hn:big<n):yU n s o=some (kK s o,())/\AX n s o=some (kK s o,())/\Aj (kK s o)/\((kK s o).1=0->nG (kK s o).2.2.1):=by
 obtain ⟨r,e1,e2,e3,e4⟩:=XQ hs ho hg hn
 have h4:=YV hg e4
 obtain rfl:=an1 e4
 exact ⟨e1,e2,e3,h4⟩
def jA:bQ->List OpC->kI
 | s,[]=>(0,[],s,())
 | s,o :: l=>if (kK s o).1=0 then jA (kK s o).2.2.1 l else bad (kK s o).1
theorem abZ {s:bQ} {o:OpC} {l:List OpC} (h:(jA s (o :: l)).1=0):(kK s o).1=0/\jA s (o :: l)=jA (kK s o).2.2.1 l:=by
 by_cases h0:(kK s o).1=0
 ·exact ⟨h0,by rw [jA,ak h0]⟩
 ·rw [jA,aA h0] at h
  exact absurd h h0
theorem ab2 {l:List OpC}:∀{s:bQ},(jA s l).1=0->jA s l=(0,[],(jA s l).2.2.1,()):=by
 induction l with
 | nil=>intro s _; rfl
 | cons o l ih=>
  intro s h
  obtain ⟨_,h2⟩:=abZ h
  rw [h2] at h ⊢
  exact ih h
theorem anE {a b:List OpC}:∀{s:bQ},(jA s a).1=0->jA s (a++b)=jA (jA s a).2.2.1 b:=by
 induction a with
 | nil=>intro s _; rfl
 | cons o a ih=>
  intro s h
  obtain ⟨h1,h2⟩:=abZ h
  rw [h2] at h ⊢
  rw [lF,jA,ak h1]
  exact ih h
theorem ab5 {l:List OpC}:∀{s:bQ},gW s->nG s->(∀o∈l,okO o)->Aj (jA s l)/\((jA s l).1=0->nG (jA s l).2.2.1):=by
 induction l with
 | nil=>intro s h1 h2 _; exact ⟨⟨by simp [jA],h1⟩,fun _=>h2⟩
 | cons o l ih=>
  intro s h1 h2 h3
  obtain ⟨_,_,g1,g2⟩:=CZ (n:=big+1) h1 h2 (h3 o (by simp)) (by omega)
  rw [jA]
  split
  ·rename_i h0
   exact ih g1.2 (g2 h0) (fun x hx=>h3 x (by simp [hx]))
  ·rename_i h0
   exact ⟨FH _,fun h=>absurd h h0⟩
theorem QA {n:Nat} {s:bQ} {l:List OpC} (hs:gW s) (hg:nG s) (hl:∀o∈l,okO o) (h60:l.length<=60) (hn:big<n):A8 n s l=some (jA s l,())/\yO n s l=some (jA s l,()):=by
 have hn':1048576<n:=hn
 obtain ⟨he,c,hc,hgc⟩:=zR hs hn
 have h0:=hgc.2 hg
 unfold A8 yO
 rw [fH (show ¬((l.length:Int)>60) by omega),aA (by decide),aA (by decide),he,hc]
 simp only [aJ,h0,bL,iB,bG,bE,Jm hs hn,own hs hn,QG]
 generalize Cf:(fun (L5:List OpC×Int×kI×kI×Unit->Option (kI×Unit)) v5=>_)=Bs
 generalize yh:(fun (L3:List OpC×Int×Int×kI×bQ×Unit->Option (kI×Unit)) v3=>_)=Bi
 have key:∀(m i:Nat) (s:bQ) (f:Nat),i+m=l.length->m<f->gW s->nG s->rounds Bs f (l,(i:Int),bad 0,(0,[],s,()),())=some (jA s (l.drop i),())/\rounds Bi f (l,(l.length:Int),(i:Int),bad 0,s,())=some (jA s (l.drop i),()):=by
  intro m
  induction m with
  | zero=>
   intro i s f hi hf hs hg
   obtain ⟨f,rfl⟩:∃g,f=g+1:=⟨f - 1,by omega⟩
   rw [DZ (by omega)]
   refine ⟨?_, ?_⟩
   ·show Bs (rounds Bs f) _=_
    rw [<-Cf]
    simp only
    rw [aA (by rw [dS]; omega)]
    rfl
   ·show Bi (rounds Bi f) _=_
    rw [<-yh]
    simp only
    rw [aA (by rw [dS]; omega)]
    rfl
  | succ m ih=>
   intro i s f hi hf hs hg
   obtain ⟨f,rfl⟩:∃g,f=g+1:=⟨f - 1,by omega⟩
   have hlt:i<l.length:=by omega
   obtain ⟨e1,e2,e3,e4⟩:=CZ hs hg (hl _ (ku hlt)) hn
   rw [Hu hlt,jA]
   generalize kK s l[i]=r at e1 e2 e3 e4 ⊢
   have q1:rounds Bs (f+1) (l,(i:Int),bad 0,(0,[],s,()),())=if (!decide (r.1=(0:Int)))=true then some (bad r.1,()) else rounds Bs f (l,((i+1:Nat):Int),bad 0,(0,[],r.2.2.1,()),()):=by
    show Bs (rounds Bs f) _=_
    conv=>lhs; rw [<-Cf]
    simp only [gZ,hlt,bL,a_,dA hlt,oD hlt,gp hlt (by omega),e1,aJ]
    rw [Cf]
   have q2:rounds Bi (f+1) (l,(l.length:Int),(i:Int),bad 0,s,())=if (!decide (r.1=(0:Int)))=true then some (bad r.1,()) else rounds Bi f (l,(l.length:Int),((i+1:Nat):Int),bad 0,r.2.2.1,()):=by
    show Bi (rounds Bi f) _=_
    conv=>lhs; rw [<-yh]
    simp only [gZ,hlt,bL,a_,dA hlt,oD hlt,gp hlt (by omega),e2,aJ]
    rw [yh]
    rfl
   rw [q1,q2]
   by_cases hr:r.1=0
   ·have hb:(!decide (r.1=(0:Int)))=false:=by rw [gB hr]; rfl
    rw [hb,ak hr]
    exact ih (i+1) _ f (by omega) (by omega) e3.2 (e4 hr)
   ·have hb:(!decide (r.1=(0:Int)))=true:=by rw [fH hr]; rfl
    rw [hb,aA hr]
    exact ⟨rfl,rfl⟩
 exact key l.length 0 s n (by omega) (by omega) hs hg
theorem TW (o:OpC):0<(bU o).length:=by rw [vV]; omega
theorem alX:∀{k1 k2:Nat} {d:List Int},d.length<k1->d.length<k2->jJ R8 k1 d=jJ R8 k2 d:=by
 intro k1
 induction k1 with
 | zero=>intro k2 d h; omega
 | succ k1 ih=>
  intro k2 d h1 h2
  obtain ⟨k2,rfl⟩:∃g,k2=g+1:=⟨k2 - 1,by omega⟩
  rw [jJ,jJ]
  cases hr:qh R8 d with
  | none=>rfl
  | some o=>
   have hle:=(CU hr).2.length_le
   have hp:=TW o
   simp only
   rw [ih (k2:=k2) (by rw [wP]; omega) (by rw [wP]; omega)]
theorem Te:jP []=([],0):=by
 unfold jP
 rw [jJ,NU]
theorem alU {o:OpC} {d:List Int} (h:iC o=0):jP (bU o++d)=(o :: (jP d).1,(bU o).length+(jP d).2):=by
 have hp:=TW o
 unfold jP
 rw [jJ,Ui (o:=o) ⟨h,List.prefix_append _ _⟩]
 simp only [List.drop_left']
 rw [alX (k1:=(bU o++d).length) (k2:=d.length+1) (by rw [bX]; omega) (by omega)]
theorem aai {d:List Int}:∀{l:List OpC},(∀o∈l,iC o=0)->jP (l.flatMap bU++d)=(l++(jP d).1,(l.flatMap bU).length+(jP d).2)
 | [],_=>by simp
 | o :: l,h=>by
  rw [kS,gJ,alU (h o (by simp)),aai (fun x hx=>h x (by simp [hx]))]
  simp only [lF,bX,nN]
theorem Td {l:List OpC} (h:∀o∈l,iC o=0):jP (l.flatMap bU)=(l,(l.flatMap bU).length):=by
 have:=aai (d:=[]) h
 rw [gT,Te] at this
 simpa using this
theorem aao:∀{k:Nat} {d:List Int},d.take (jJ R8 k d).2=(jJ R8 k d).1.flatMap bU
 | 0,d=>by simp [jJ]
 | k+1,d=>by
  rw [jJ]
  cases hr:qh R8 d with
  | none=>simp
  | some o=>
   have h3:=(Fu (CU hr).2).2.2
   simp only [kS]
   rw [<-aao (k:=k) (d:=d.drop (bU o).length),List.take_add,h3]
theorem alV (d:List Int):d.take (jP d).2=(jP d).1.flatMap bU:=aao
theorem aak {d:List Int} (h:((jP d).2:Int)=(d.length:Int)):d=(jP d).1.flatMap bU:=by
 rw [<-alV,HV (by omega)]
structure wS (v:iq):Prop where
 up:Qp v
 whole:xB v=true
 run:jA eS (opsV v)=(0,[],v.2.2.2.1,())
theorem wS.sure {v:iq} (h:wS v):v.2.1=(jP v.2.1).1.flatMap bU/\v.2.2.1=(jP v.2.2.1).1.flatMap bU:=by
 have:=h.whole
 unfold xB at this
 simp only [bg,dS] at this
 exact ⟨aak this.1,aak this.2⟩
theorem amV {v:iq}:∀o∈opsV v,iC o=0:=fun o ho=>(bW.1 ho).elim ((CB v.2.1).1 o) ((CB v.2.2.1).1 o)
theorem acJ {n:Nat} {v:iq} (h:pQ v) (hk:wS v) (hn:big<n):xH n v=some (0,()):=by
 have g0:=hk.up.few
 obtain ⟨he,c,hc,hgc⟩:=zR h.st hn
 have hc0:=hgc.2 hk.up.good
 have a2:=(QA tL.1 tL.2 (fun o ho=>(JC h o ho).1) hk.up.ops hn).2
 have e1:AY n=some (eS,()):=rfl
 unfold xH
 simp only [he,hc,NP h hn,e1,a2,aJ,hk.run,JY h.st hn]
 rw [wrap_i64 (x:=(v.2.1.length:Int)+(v.2.2.1.length:Int)) (by omega) (by omega),fH (show ¬((v.2.1.length:Int)+(v.2.2.1.length:Int)>8000) by omega)]
 simp only [bG,bE,hk.up.up,iB,hc0,bL,hk.whole]
theorem aoj {n:Nat} {v:iq} (h:pQ v) (hk:wS v) (hn:big<n):wI n v=some (0,()):=by
 unfold wI
 rw [acJ h hk hn]
 simp only [aJ,bL,iB,bG,bE,hk.up.up,a_]
theorem aom {n:Nat} {v:iq} (h:pQ v) (hf:wI n v=some (0,())) (hn:big<n):wS v:=by
 obtain ⟨c',BP,_,hc'⟩:=acH h hn
 rw [hf] at BP
 simp only [au,bS,eY] at BP
 have hup:=hc' BP.symm
 have hf2:xH n v=some (0,()):=by
  obtain ⟨c,d1,_,_⟩:=acI h hn
  unfold wI at hf
  rw [d1] at hf ⊢
  simp only [aJ] at hf
  by_cases c0:c=0
  ·rw [c0]
  ·rw [ak (by simp [c0])] at hf
   simp only [au,bS,eY] at hf
   exact absurd hf c0
 have g0:=hup.few
 obtain ⟨he,c,hc,hgc⟩:=zR h.st hn
 have hc0:=hgc.2 hup.good
 have a2:=(QA tL.1 tL.2 (fun o ho=>(JC h o ho).1) hup.ops hn).2
 have hro:=(ab5 (l:=opsV v) tL.1 tL.2 (fun o ho=>(JC h o ho).1)).1
 have e1:AY n=some (eS,()):=rfl
 unfold xH at hf2
 simp only [he,hc,NP h hn,e1,a2,aJ,JY hro.2 hn] at hf2
 rw [wrap_i64 (x:=(v.2.1.length:Int)+(v.2.2.1.length:Int)) (by omega) (by omega),fH (show ¬((v.2.1.length:Int)+(v.2.2.1.length:Int)>8000) by omega)] at hf2
 simp only [bG,bE,hup.up,iB,hc0,bL] at hf2
 refine ⟨hup, ?_, ?_⟩
 ·cases hw:xB v with
  | true=>rfl
  | false=>rw [hw] at hf2; simp at hf2
 ·cases hw:xB v with
  | false=>rw [hw] at hf2; simp at hf2
  | true=>
   rw [hw] at hf2
   simp only [iB,bG,bE] at hf2
   by_cases h0:(jA eS (opsV v)).1=0
   ·simp only [h0,bL,iB,bG,bE] at hf2
    by_cases h1:(jA eS (opsV v)).2.2.1=v.2.2.2.1
    ·rw [ab2 h0,h1]
    ·rw [fH h1] at hf2
     simp at hf2
   ·rw [fH h0] at hf2
    simp at hf2
def told (l:List OpC):iq:=(true,l.flatMap bU,[],(jA eS l).2.2.1,())
structure Mt (l:List OpC):Prop where
 right:∀o∈l,iC o=0
 ok:∀o∈l,okO o/\ng o
 few:l.length<=60
 small:(l.flatMap bU).length<=8000
 run:(jA eS l).1=0
theorem S9 {l:List OpC} (h:∀o∈l,ng o):dF (l.flatMap bU):=fun x hx=>by
 obtain ⟨o,ho,hx⟩:=jY.1 hx
 have h8:=h o ho
 have h1:=h8.head.1
 have h2:=Od (qW o)
 exact (uI h1 (Jh h2.1 (by omega))) x hx
theorem aoc {l:List OpC} (h:Mt l):pQ (told l)/\wS (told l)/\opsV (told l)=l:=by
 have hj:=Td h.right
 have ho:opsV (told l)=l:=by
  show (jP (l.flatMap bU)).1++(jP []).1=l
  rw [hj,Te]
  simp
 have hr:=ab5 (l:=l) tL.1 tL.2 (fun o ho=>(h.ok o ho).1)
 have hs:=h.small
 refine ⟨⟨?_,S9 fun o ho=>(h.ok o ho).2,by simp [told], ?_,hr.1.2⟩,⟨⟨?_,rfl,hr.2 h.run,by rw [ho]; exact h.few⟩, ?_, ?_⟩,ho⟩
 ·show (l.flatMap bU).length<=big
  unfold big; omega
 ·intro x hx; simp [told] at hx
 ·show (l.flatMap bU).length+([]:List Int).length<=8000
  simpa using hs
 ·show (decide (((jP (l.flatMap bU)).2:Int)=((l.flatMap bU).length:Int)) && decide (((jP []).2:Int)=(([]:List Int).length:Int)))=true
  rw [hj,Te]
  simp
 ·rw [ho,ab2 h.run]
  rfl
theorem wS.tells {v:iq} (h:pQ v) (hk:wS v):Mt (opsV v)/\(opsV v).flatMap bU=v.2.1++v.2.2.1:=by
 have e:(opsV v).flatMap bU=v.2.1++v.2.2.1:=by
  have:=hk.sure
  unfold opsV
  rw [D6, <-this.1, <-this.2]
 refine ⟨⟨amV,JC h,hk.up.ops, ?_,by rw [hk.run]⟩,e⟩
 rw [e,bX]
 exact hk.up.few
end Go.Proofs.YtailcbngagacaabGreat.Ms
