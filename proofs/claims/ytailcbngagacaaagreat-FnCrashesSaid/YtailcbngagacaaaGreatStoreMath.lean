/- Stores: copies, equalities, sizes, faults, as the printed functions make them. -/
import Derived.Test.YtailcbngagacaaaGreatCkF
set_option linter.unusedVariables false
set_option linter.unusedSimpArgs false
namespace Go.Proofs.YtailcbngagacaaaGreat.pO
open Go Ow nJ oh
abbrev dm:=Int×Int×Int×(List Int)×Unit
abbrev Bx:=(List Int)×Int×Int×(List dm)×Unit
abbrev bP:=Int×(List Bx)×Unit
def rD (m:dm):Prop:=m.2.2.2.1.length<=big
def okB (b:Bx):Prop:=b.1.length<=big/\b.2.2.2.1.length<=big/\∀m∈b.2.2.2.1,rD m
def gU (s:bP):Prop:=s.2.1.length<=big/\∀b∈s.2.1,okB b
theorem AA {n:Nat} (a b c:Int):uC n a b c=jL n a b c:=rfl
theorem um {n:Nat} (a b c:Int):jL n a b c=some (decide (b<=a/\a<=c),()):=by
 unfold jL
 by_cases h1:b<=a
 ·by_cases h2:a<=c <;> simp [h1,h2]
 ·simp [h1]
def nU (s:List Int):Prop:=(1<=s.length/\s.length<=8)/\∀c∈s,97<=c/\c<=122
instance (s:List Int):Decidable (nU s):=by unfold nU; infer_instance
theorem M0 {R:Type} {p:Nat->Prop} [DecidablePred p] {r fin:R}:∀{m i:Nat},((∃j,i<=j/\j<i+m/\p j)->gz (fun j=>if p j then some r else none) fin m i=r)/\((¬∃j,i<=j/\j<i+m/\p j)->gz (fun j=>if p j then some r else none) fin m i=fin):=by
 intro m
 induction m with
 | zero=>intro i; exact ⟨fun ⟨j,h1,h2,_⟩=>by omega,fun _=>rfl⟩
 | succ m ih=>
  intro i
  unfold gz
  by_cases h:p i
  ·simp only [h,a_]
   exact ⟨fun _=>by first | trivial | rfl,fun hn=>absurd ⟨i,bN _,by omega,h⟩ hn⟩
  ·simp only [h,bF]
   refine ⟨fun ⟨j,h1,h2,h3⟩=>ih.1 ⟨j, ?_,by omega,h3⟩,fun hn=>ih.2 fun ⟨j,h1,h2,h3⟩=>hn ⟨j,by omega,by omega,h3⟩⟩
   have:j≠i:=fun e=>h (e▸h3)
   omega
theorem YE {step:Nat->Option (Option (Int×Unit))} (h:∀i,step i=none\/∃r:Int,r≠0/\step i=some (some (r,()))):∀{m i:Nat},∃r:Int,gz step (some ((0:Int),())) m i=some (r,())/\(r=0↔∀j,i<=j->j<i+m->step j=none):=by
 intro m
 induction m with
 | zero=>intro i; exact ⟨0,rfl,fun _ j h1 h2=>by omega,fun _=>rfl⟩
 | succ m ih=>
  intro i
  unfold gz
  rcases h i with h0 | ⟨r,hr,h0⟩
  ·rw [h0]
   obtain ⟨r,h1,h2⟩:=ih (i:=i+1)
   refine ⟨r,h1,h2.trans ⟨fun g j g1 g2=>?_,fun g j g1 g2=>g j (by omega) (by omega)⟩⟩
   by_cases e:j=i
   ·subst e; exact h0
   ·exact g j (by omega) (by omega)
  ·rw [h0]
   refine ⟨r,rfl,fun e=>absurd e hr,fun g=>?_⟩
   have:=g i (bN _) (by omega)
   rw [h0] at this
   simp at this
theorem name_eq {n:Nat} {s:List Int} (hs:s.length<=big) (hn:big<n):DC n s=some (decide (nU s),())/\Be n s=some (decide (nU s),()):=by
 unfold big at hs hn
 let p:Nat->Prop:=fun i=>s.getD i 0<97\/s.getD i 0>122
 let step:Nat->Option (Option (Bool×Unit)):=fun i=>if s.getD i 0<97\/s.getD i 0>122 then some (some (false,())) else none
 let fin:Option (Bool×Unit):=some (decide (1<=(s.length:Int)/\(s.length:Int)<=8),())
 have h1:Be n s=gz step fin s.length 0:=by
  unfold Be
  refine iA (fun i=>(s,(i:Int),())) step fin rfl (by omega) ?_ ?_
  ·intro L i hi _
   simp only [g_,hi,bQ,a_,dz hi,gu hi (by omega),eD,step]
   by_cases c1:s.getD i 0<97
   ·rw [aj (gH c1),aj (Or.inl c1)]
   ·rw [aA (by rw [dH]; exact c1)]
    by_cases c2:s.getD i 0>122
    ·rw [aj (gH c2),aj (Or.inr c2)]
    ·rw [aA (by rw [dH]; exact c2),aA (by rintro (h | h); exact c1 h; exact c2 h)]
  ·intro L _
   simp only [pJ,d_,bJ,bF,um,aL,fin]
 have h2:KO n s 8=gz step fin s.length 0:=by
  unfold KO
  refine iA (fun i=>(s,(8:Int),(s.length:Int),(i:Int),())) step fin rfl (by omega) ?_ ?_
  ·intro L i hi _
   simp only [g_,hi,bQ,a_,dz hi,gu hi (by omega),eD,step]
   by_cases c1:s.getD i 0<97
   ·rw [aj (gH c1),aj (Or.inl c1)]
   ·rw [aA (by rw [dH]; exact c1)]
    by_cases c2:s.getD i 0>122
    ·rw [aj (gH c2),aj (Or.inr c2)]
    ·rw [aA (by rw [dH]; exact c2),aA (by rintro (h | h); exact c1 h; exact c2 h)]
  ·intro L _
   simp only [pJ,d_,bJ,bF,fin]
   by_cases c1:(1:Int)<=(s.length:Int)
   ·by_cases c2:(s.length:Int)<=8 <;> simp [c1,c2]
   ·simp [c1]
 have h3:gz step fin s.length 0=some (decide (nU s),()):=by
  by_cases hx:∃j,0<=j/\j<0+s.length/\p j
  ·refine (M0 (p:=p) (r:=some (false,())) (fin:=fin)).1 hx |>.trans ?_
   obtain ⟨j,_,hj,hp⟩:=hx
   have:¬nU s:=fun g=>by
    have hj':j<s.length:=by omega
    have hm:=g.2 s[j] (jY hj')
    have e:s.getD j 0=s[j]:=by simp [hj']
    have hp':s.getD j 0<97\/s.getD j 0>122:=hp
    rw [e] at hp'
    omega
   rw [f_ this]
  ·refine (M0 (p:=p) (r:=some (false,())) (fin:=fin)).2 hx |>.trans ?_
   show some (decide _,())=_
   congr 2
   rw [Q6]
   unfold nU
   constructor
   ·rintro ⟨a,b⟩
    refine ⟨⟨by omega,by omega⟩,fun c hc=>?_⟩
    obtain ⟨j,hj,rfl⟩:=List.getElem_of_mem hc
    have e:s.getD j 0=s[j]:=by simp [hj]
    have:¬p j:=fun hp=>hx ⟨j,fT _,by omega,hp⟩
    have:¬(s.getD j 0<97\/s.getD j 0>122):=this
    rw [e] at this
    omega
   ·rintro ⟨⟨a,b⟩,_⟩
    omega
 refine ⟨?_,by rw [h1,h3]⟩
 unfold DC
 rw [h2,h3]
 rfl
def CV (m:dm):Int:=if (1<=m.1/\m.1<=999)/\(0<=m.2.1/\m.2.1<=15)/\(0<=m.2.2.1/\m.2.2.1<=9999) then (if m.2.2.2.1.length<=400 then 0 else 2) else 3
def Cn (m:dm):Prop:=(1<=m.1/\m.1<=999)/\(0<=m.2.1/\m.2.1<=15)/\(0<=m.2.2.1/\m.2.2.1<=9999)/\m.2.2.2.1.length<=400
theorem Tx (m:dm):CV m=0↔Cn m:=by
 unfold CV Cn
 constructor
 ·intro h
  split at h
  ·rename_i g
   split at h
   ·rename_i g2; exact ⟨g.1,g.2.1,g.2.2,g2⟩
   ·omega
  ·omega
 ·rintro ⟨a,b,c,d⟩
  rw [aj ⟨a,b,c⟩,aj d]
theorem message_eq {n:Nat} (m:dm):Gv n m=some (CV m,())/\Bd n m=some (CV m,()):=by
 have h1:Gv n m=Bd n m:=by
  unfold Gv Bd DD xI xK
  simp only [AA,um,aL]
 rw [h1]
 refine (and_self_iff).2 ?_
 unfold Bd CV
 simp only [um,aL]
 by_cases c1:1<=m.1/\m.1<=999
 ·by_cases c2:0<=m.2.1/\m.2.1<=15
  ·by_cases c3:0<=m.2.2.1/\m.2.2.1<=9999
   ·by_cases c4:(m.2.2.2.1.length:Int)>400
    ·have c5:¬m.2.2.2.1.length<=400:=by omega
     simp [c1,c2,c3,c4,c5]
    ·have c5:m.2.2.2.1.length<=400:=by omega
     simp [c1,c2,c3,c4,c5]
   ·simp [c1,c2,c3]
  ·simp [c1,c2]
 ·simp [c1]
abbrev dM:dm:=((0:Int),(0:Int),(0:Int),([]:List Int),())
abbrev dB:Bx:=(([]:List Int),(0:Int),(0:Int),([]:List dm),())
def mf (_:Nat) (m:dm):Int:=CV m
theorem Tz (n:Nat) (m:dm):Bd n m=some (mf n m,())/\(mf n m=0->1<=m.1):=⟨(message_eq m).2,fun h=>((Tx m).1 h).1.1⟩
theorem amj (n:Nat) (m:dm):mf n m=CV m:=rfl
def qh (ms:List dm):Nat->Int
 | 0=>0
 | i+1=>(ms.getD i dM).1
theorem UY {j n:Nat} (h:j<n) (hn:n<=9223372036854775807):IntKind.i64.wrap (((j+1:Nat):Int) - 1)=(j:Int):=by
 rw [wrap_i64 (by omega) (by omega)]
 omega
def Cm (b:Bx):Prop:=nU b.1/\(1<=b.2.1/\b.2.1<=999)/\(1<=b.2.2.1/\b.2.2.1<=1000)/\b.2.2.2.1.length<=6/\∀i,i<b.2.2.2.1.length->Cn (b.2.2.2.1.getD i dM)/\qh b.2.2.2.1 i<(b.2.2.2.1.getD i dM).1/\(b.2.2.2.1.getD i dM).1<b.2.2.1
theorem ahm {n:Nat} {b:Bx} (hb:okB b) (hn:big<n):Gs n b=Ba n b/\∃r,Ba n b=some (r,())/\(r=0↔Cm b):=by
 obtain ⟨nm,id,nx,ms,⟨⟩⟩:=b
 obtain ⟨b1,b2,b3⟩:=hb
 obtain ⟨e1,e2⟩:=name_eq b1 hn
 have hlen:ms.length<=1048576:=b2
 unfold big at hn
 let step:Nat->Option (Option (Int×Unit)):=fun i=>if mf n (ms.getD i dM)=0 then (if (ms.getD i dM).1<=qh ms i\/(ms.getD i dM).1>=nx then some (some (1,())) else none) else some (some (mf n (ms.getD i dM),()))
 let fin:Option (Int×Unit):=some (0,())
 have hr:∃r:Int,gz step fin ms.length 0=some (r,())/\(r=0↔∀j,0<=j->j<0+ms.length->step j=none):=YE (fun i=>by
  simp only [step]
  by_cases c0:mf n (ms.getD i dM)=0
  ·rw [aj c0]
   by_cases c1:(ms.getD i dM).1<=qh ms i\/(ms.getD i dM).1>=nx
   ·rw [aj c1]; exact .inr ⟨1,by omega,rfl⟩
   ·rw [aA c1]; exact .inl rfl
  ·rw [aA c0]; exact .inr ⟨_,c0,rfl⟩)
 have h1:∀(B:((Bx×Int×Unit)->Option (Int×Unit))->(Bx×Int×Unit)->Option (Int×Unit)),
   (∀L i,i<ms.length->B L ((nm,id,nx,ms,()),(i:Int),())=(if (!decide (mf n (ms.getD i dM)=0))=true then some (mf n (ms.getD i dM),()) else (if (ms.getD i dM).1<=qh ms i\/(ms.getD i dM).1>=nx then some (1,()) else L ((nm,id,nx,ms,()),((i+1:Nat):Int),()))))->
   (∀L,B L ((nm,id,nx,ms,()),(ms.length:Int),())=some (0,()))->rounds B n ((nm,id,nx,ms,()),(0:Int),())=gz step fin ms.length 0:=by
  intro B g1 g2
  refine iA (fun i=>((nm,id,nx,ms,()),(i:Int),())) step fin rfl (show ms.length<n by omega) ?_ (fun L _=>g2 L)
  intro L i hi _
  rw [g1 L i hi]
  simp only [step]
  by_cases c0:mf n (ms.getD i dM)=0
  ·rw [aA (by rw [c0]; simp),aj c0]
   split <;> rfl
  ·rw [aj (by simp only [f_ c0,mI]),aA c0]
 have h2:∀(B:((Int×List dm×Int×Int×Bx×Unit)->Option (Int×Unit))->(Int×List dm×Int×Int×Bx×Unit)->Option (Int×Unit)),
   (∀L i,i<ms.length->B L (qh ms i,ms,(ms.length:Int),(i:Int),(nm,id,nx,ms,()),())=(if (!decide (mf n (ms.getD i dM)=0))=true then some (mf n (ms.getD i dM),()) else (if (ms.getD i dM).1<=qh ms i\/(ms.getD i dM).1>=nx then some (1,()) else L (qh ms (i+1),ms,(ms.length:Int),((i+1:Nat):Int),(nm,id,nx,ms,()),()))))->
   (∀L,B L (qh ms ms.length,ms,(ms.length:Int),(ms.length:Int),(nm,id,nx,ms,()),())=some (0,()))->rounds B n ((0:Int),ms,(ms.length:Int),(0:Int),(nm,id,nx,ms,()),())=gz step fin ms.length 0:=by
  intro B g1 g2
  refine iA (fun i=>(qh ms i,ms,(ms.length:Int),(i:Int),(nm,id,nx,ms,()),())) step fin rfl (show ms.length<n by omega) ?_ (fun L _=>g2 L)
  intro L i hi _
  rw [g1 L i hi]
  simp only [step]
  by_cases c0:mf n (ms.getD i dM)=0
  ·rw [aA (by rw [c0]; simp),aj c0]
   split <;> rfl
  ·rw [aj (by simp only [f_ c0,mI]),aA c0]
 unfold Gs Ba
 simp only [e1,e2,AA,um,aL]
 generalize hQ:rounds _ n ((nm,id,nx,ms,()),(0:Int),())=Q
 generalize RB:rounds _ n ((0:Int),ms,(ms.length:Int),(0:Int),(nm,id,nx,ms,()),())=Q1
 have hQ':Q=gz step fin ms.length 0:=by
  refine hQ.symm.trans (h1 _ ?_ ?_)
  ·intro L i hi
   simp only [g_,hi,bQ,a_,dz hi,gu hi (by omega),eD,(Tz n _).1,aL]
   by_cases c0:mf n (ms.getD i dM)=0
   ·simp only [c0,bQ,jc,bJ,bF]
    cases i with
    | zero=>
     have hp:=(Tz n (ms.getD 0 dM)).2 c0
     rw [aA (by simp)]
     by_cases c1:(ms.getD 0 dM).1>=nx
     ·rw [aj (gH c1),aj (Or.inr c1)]
     ·rw [aA (by rw [dH]; exact c1),aA (by
       rintro (h | h)
       ·simp only [qh] at h; omega
       ·exact c1 h)]
    | succ j=>
     have hj:j<ms.length:=by omega
     rw [aj (by simp),show qh ms (j+1)=(ms.getD j dM).1 from rfl]
     simp only [UY hj (by omega),dz hj,a_,eD]
     by_cases c1:(ms.getD (j+1) dM).1<=(ms.getD j dM).1
     ·rw [aj (gH c1),aj (Or.inl c1)]
     ·rw [aA (by rw [dH]; exact c1)]
      by_cases c2:(ms.getD (j+1) dM).1>=nx
      ·rw [aj (gH c2),aj (Or.inr c2)]
      ·rw [aA (by rw [dH]; exact c2),aA (by
        rintro (h | h)
        ·exact c1 h
        ·exact c2 h)]
   ·simp only [f_ c0,mI,a_]
  ·intro L
   simp only [pJ,d_,bJ,bF]
 have RF:Q1=gz step fin ms.length 0:=by
  refine RB.symm.trans (h2 _ ?_ ?_)
  ·intro L i hi
   simp only [g_,hi,bQ,a_,dz hi,gu hi (by omega),eD,(message_eq _).1, <-amj n,(Tz n _).1,aL]
   by_cases c0:mf n (ms.getD i dM)=0
   ·simp only [c0,bQ,jc,bJ,bF]
    by_cases c1:(ms.getD i dM).1<=qh ms i
    ·rw [aj (gH c1),aj (Or.inl c1)]
    ·rw [aA (by rw [dH]; exact c1)]
     by_cases c2:(ms.getD i dM).1>=nx
     ·rw [aj (gH c2),aj (Or.inr c2)]
     ·rw [aA (by rw [dH]; exact c2),aA (by
       rintro (h | h)
       ·exact c1 h
       ·exact c2 h)]
      rfl
   ·simp only [f_ c0,mI,a_]
  ·intro L
   simp only [pJ,d_,bJ,bF]
 rw [hQ',RF]
 obtain ⟨r,hr,hiff⟩:=hr
 rw [hr]
 refine ⟨rfl, ?_⟩
 have hstep:(∀j,0<=j->j<0+ms.length->step j=none)↔∀i,i<ms.length->Cn (ms.getD i dM)/\qh ms i<(ms.getD i dM).1/\(ms.getD i dM).1<nx:=by
  have one:∀i,step i=none↔Cn (ms.getD i dM)/\qh ms i<(ms.getD i dM).1/\(ms.getD i dM).1<nx:=fun i=>by
   simp only [step]
   by_cases c0:mf n (ms.getD i dM)=0
   ·rw [aj c0]
    have g:=(Tx (ms.getD i dM)).1 c0
    by_cases c1:(ms.getD i dM).1<=qh ms i\/(ms.getD i dM).1>=nx
    ·rw [aj c1]
     constructor
     ·intro h; simp at h
     ·rintro ⟨_,h1,h2⟩; omega
    ·rw [aA c1]
     exact ⟨fun _=>⟨g,by omega,by omega⟩,fun _=>rfl⟩
   ·rw [aA c0]
    constructor
    ·intro h; simp at h
    ·rintro ⟨h,_⟩; exact absurd ((Tx _).2 h) c0
  exact ⟨fun h i hi=>(one i).1 (h i (fT _) (by omega)),fun h i _ hi=>(one i).2 (h i (by omega))⟩
 rw [hstep] at hiff
 unfold Cm
 by_cases d1:nU nm
 ·by_cases d2:1<=id/\id<=999
  ·by_cases d3:1<=nx/\nx<=1000
   ·by_cases d4:(ms.length:Int)>6
    ·exact ⟨2,by simp [d1,d2,d3,d4],⟨fun h=>by omega,by rintro ⟨_,_,_,h,_⟩; exact absurd h (by show ¬ms.length<=6; omega)⟩⟩
    ·exact ⟨r,by simp [d1,d2,d3,d4],by rw [hiff]; exact ⟨fun h=>⟨d1,d2,d3,by show ms.length<=6; omega,h⟩,fun h=>h.2.2.2.2⟩⟩
   ·exact ⟨3,by simp [d1,d2,d3],⟨fun h=>by omega,by rintro ⟨_,_,h,_⟩; exact absurd h d3⟩⟩
  ·exact ⟨3,by simp [d1,d2],⟨fun h=>by omega,by rintro ⟨_,h,_⟩; exact absurd h d2⟩⟩
 ·exact ⟨5,by simp [d1],⟨fun h=>by omega,by rintro ⟨h,_⟩; exact absurd h d1⟩⟩
theorem ajb {p:Nat->Prop} [DecidablePred p]:∀{m i:Nat},∃q:Int,gz (fun j=>if p j then some (some ((j:Int),())) else none) (some ((-1:Int),())) m i=some (q,())/\(0<=q↔∃j,i<=j/\j<i+m/\p j):=by
 intro m
 induction m with
 | zero=>intro i; exact ⟨-1,rfl,⟨fun h=>by omega,by rintro ⟨j,h1,h2,_⟩; omega⟩⟩
 | succ m ih=>
  intro i
  unfold gz
  by_cases h:p i
  ·simp only [h,a_]
   exact ⟨i,rfl,fun _=>⟨i,bN _,by omega,h⟩,fun _=>by omega⟩
  ·simp only [h,bF]
   obtain ⟨q,h1,h2⟩:=ih (i:=i+1)
   refine ⟨q,h1,h2.trans ⟨fun ⟨j,g1,g2,g3⟩=>⟨j,by omega,by omega,g3⟩,fun ⟨j,g1,g2,g3⟩=>⟨j, ?_,by omega,g3⟩⟩⟩
   have:j≠i:=fun e=>h (e▸g3)
   omega
theorem aly {A C:Type} {f:A->C->Option (Bool×Unit)} {p:A->C->Prop} [∀x y,Decidable (p x y)] {d:A} {xs:List A} {y:C} {n:Nat} {B:(List A×C×Int×Int×Unit->Option (Int×Unit))->List A×C×Int×Int×Unit->Option (Int×Unit)}
  (hB:∀L v,B L v=(if decide (v.2.2.2.1<v.2.2.1)=true then (if aM v.2.2.2.1 v.1.length then ((f (v.1.getD v.2.2.2.1.toNat d) v.2.1).bind fun r2=>(if r2.1=true then some (v.2.2.2.1,()) else L (v.1,v.2.1,v.2.2.1,IntKind.i64.wrap (v.2.2.2.1+(1:Int)),()))) else none) else some ((-1:Int),())))
  (hf:∀x y,f x y=some (decide (p x y),())) (hb:xs.length<=big) (hn:big<n) :
  rounds B n (xs,y,(xs.length:Int),(0:Int),())=gz (fun j=>if p (xs.getD j d) y then some (some ((j:Int),())) else none) (some ((-1:Int),())) xs.length 0:=by
 unfold big at hb hn
 refine iA (fun i=>(xs,y,(xs.length:Int),(i:Int),())) _ _ rfl (by omega) ?_ ?_
 ·intro L i hi _
  simp only [hB,g_,hi,bQ,a_,dz hi,eD,hf,aL,gu hi (by omega)]
  by_cases h:p (xs.getD i d) y
  ·rw [aj (gH h),aj h]
  ·rw [aA (by rw [dH]; exact h),aA h]
 ·intro L _
  simp only [hB,pJ,d_,bJ,bF]
def dup (bs:List Bx) (i j:Nat):Prop:=(bs.getD j dB).1=(bs.getD i dB).1\/(bs.getD j dB).2.1=(bs.getD i dB).2.1
instance (bs:List Bx) (i j:Nat):Decidable (dup bs i j):=by unfold dup; infer_instance
theorem contains_eq {n:Nat} {bs:List Bx} {i:Nat} (hi:i<bs.length) (hb:bs.length<=big) (hn:big<n):∃t:Bool,KV n (bs.take i) (bs.getD i dB)=some (t,())/\(t=true↔∃j,0<=j/\j<0+i/\dup bs i j):=by
 have hl:(bs.take i).length=i:=by simp; omega
 have h2:GL n (bs.take i) (bs.getD i dB)=gz (fun j=>if (fun (x y:Bx)=>x.1=y.1\/x.2.1=y.2.1) ((bs.take i).getD j dB) (bs.getD i dB) then some (some ((j:Int),())) else none) (some ((-1:Int),())) (bs.take i).length 0:=by
  unfold GL
  refine aly (f:=KJ n) (p:=fun (x y:Bx)=>x.1=y.1\/x.2.1=y.2.1) (d:=dB) (fun L v=>rfl) (fun x y=>?_) (by rw [hl]; omega) hn
  unfold KJ
  by_cases h1:x.1=y.1
  ·simp [h1]
  ·simp [h1]
 rw [hl] at h2
 have h3:GL n (bs.take i) (bs.getD i dB)=gz (fun j=>if dup bs i j then some (some ((j:Int),())) else none) (some ((-1:Int),())) i 0:=by
  rw [h2]
  refine aja rfl fun j _ hj=>?_
  have e:(bs.take i).getD j dB=bs.getD j dB:=by
   simp only [ig,Ma,show j<i by omega,a_]
  show (if (_\/_) then _ else _)=_
  rw [e]
  rfl
 obtain ⟨q,hq,hiff⟩:=ajb (p:=dup bs i) (m:=i) (i:=0)
 refine ⟨decide (q>=0), ?_, ?_⟩
 ·unfold KV
  rw [h3,hq]
  rfl
 ·rw [dH]
  exact hiff
def bf (n:Nat) (b:Bx):Int:=((Ba n b).getD (0,())).1
theorem QD {n:Nat} {b:Bx} (hb:okB b) (hn:big<n):Ba n b=some (bf n b,())/\Gs n b=some (bf n b,())/\(bf n b=0↔Cm b):=by
 obtain ⟨h0,r,h1,h2⟩:=ahm hb hn
 have:bf n b=r:=by unfold bf; rw [h1]; rfl
 rw [h0,this]
 exact ⟨h1,h1,h2⟩
def nE (s:bP):Prop:=(1<=s.1/\s.1<=1000)/\s.2.1.length<=3/\∀i,i<s.2.1.length->Cm (s.2.1.getD i dB)/\(s.2.1.getD i dB).2.1<s.1/\∀j,j<i->¬dup s.2.1 i j
theorem zQ {n:Nat} {s:bP} (hs:gU s) (hn:big<n):AX n s=Bc n s/\∃r,Bc n s=some (r,())/\(r=0↔nE s):=by
 obtain ⟨nx,bs,⟨⟩⟩:=s
 obtain ⟨s1,s2⟩:=hs
 have hlen:bs.length<=1048576:=s1
 have hn':1048576<n:=hn
 classical
 let step:Nat->Option (Option (Int×Unit)):=fun i=>if bf n (bs.getD i dB)=0 then (if (bs.getD i dB).2.1>=nx then some (some (9,())) else if ∃j,0<=j/\j<0+i/\dup bs i j then some (some (6,())) else none) else some (some (bf n (bs.getD i dB),()))
 let fin:Option (Int×Unit):=some (0,())
 have hr:∃r:Int,gz step fin bs.length 0=some (r,())/\(r=0↔∀j,0<=j->j<0+bs.length->step j=none):=YE (fun i=>by
  simp only [step]
  by_cases c0:bf n (bs.getD i dB)=0
  ·rw [aj c0]
   by_cases c1:(bs.getD i dB).2.1>=nx
   ·rw [aj c1]; exact .inr ⟨9,by omega,rfl⟩
   ·rw [aA c1]
    by_cases c2:∃j,0<=j/\j<0+i/\dup bs i j
    ·rw [aj c2]; exact .inr ⟨6,by omega,rfl⟩
    ·rw [aA c2]; exact .inl rfl
  ·rw [aA c0]; exact .inr ⟨_,c0,rfl⟩)
 have hok:∀i,i<bs.length->okB (bs.getD i dB):=fun i hi=>by
  have:bs.getD i dB=bs[i]:=by simp [hi]
  rw [this]
  exact s2 _ (jY hi)
 unfold AX Bc
 simp only [AA,um,aL]
 generalize hQ:rounds _ n ((nx,bs,()),(0:Int),())=Q
 generalize RB:rounds _ n (bs,(bs.length:Int),(0:Int),(nx,bs,()),())=Q1
 have hQ':Q=gz step fin bs.length 0:=by
  refine hQ.symm.trans (iA (fun i=>((nx,bs,()),(i:Int),())) step fin rfl (by omega) ?_ ?_)
  ·intro L i hi _
   simp only [g_,hi,bQ,a_,dz hi,eD,(QD (hok i hi) hn).1,aL,step]
   by_cases c0:bf n (bs.getD i dB)=0
   ·simp only [c0,bQ,jc,bJ,bF,a_]
    by_cases c1:(bs.getD i dB).2.1>=nx
    ·rw [aj (gH c1),aj c1]
    ·rw [aA (by rw [dH]; exact c1),aA c1]
     refine (iA (fun j=>((nx,bs,()),(i:Int),(j:Int),())) (fun j=>if dup bs i j then some (some (6,())) else none) (L ((nx,bs,()),((i+1:Nat):Int),())) (m:=i) rfl (by omega) ?_ ?_).trans ?_
     ·intro L4 j hj _
      have hj':j<bs.length:=by omega
      simp only [g_,hj,bQ,a_,dz hj',dz hi,eD,gu hj (by omega)]
      by_cases d1:(bs.getD j dB).1=(bs.getD i dB).1
      ·rw [aj (gH d1),aj (show dup bs i j from .inl d1)]
      ·rw [aA (by rw [dH]; exact d1)]
       by_cases d2:(bs.getD j dB).2.1=(bs.getD i dB).2.1
       ·rw [aj (gH d2),aj (show dup bs i j from .inr d2)]
       ·rw [aA (by rw [dH]; exact d2),aA (by rintro (h | h); exact d1 h; exact d2 h)]
     ·intro L4 _
      simp only [pJ,d_,bJ,bF,gu hi (by omega)]
     ·by_cases hd:∃j,0<=j/\j<0+i/\dup bs i j
      ·rw [aj hd]; exact M0.1 hd
      ·rw [aA hd]; exact M0.2 hd
   ·simp only [f_ c0,mI,a_,aA c0]
  ·intro L _
   simp only [pJ,d_,bJ,bF,fin]
 have RF:Q1=gz step fin bs.length 0:=by
  refine RB.symm.trans (iA (fun i=>(bs,(bs.length:Int),(i:Int),(nx,bs,()),())) step fin rfl (by omega) ?_ ?_)
  ·intro L i hi _
   obtain ⟨t,t1,t2⟩:=contains_eq hi s1 hn
   simp only [g_,hi,bQ,a_,dz hi,eD,(QD (hok i hi) hn).2.1,aL,step]
   by_cases c0:bf n (bs.getD i dB)=0
   ·simp only [c0,bQ,jc,bJ,bF,a_]
    by_cases c1:(bs.getD i dB).2.1>=nx
    ·rw [aj (gH c1),aj c1]
    ·rw [aA (by rw [dH]; exact c1),aA c1,aj ⟨by omega,by omega⟩,t1]
     simp only [aL,gu hi (by omega)]
     by_cases hd:∃j,0<=j/\j<0+i/\dup bs i j
     ·rw [aj (t2.2 hd),aj hd]
     ·rw [aA (fun h=>hd (t2.1 h)),aA hd]
   ·simp only [f_ c0,mI,a_,aA c0]
  ·intro L _
   simp only [pJ,d_,bJ,bF,fin]
 rw [hQ',RF]
 obtain ⟨r,hr,hiff⟩:=hr
 rw [hr]
 refine ⟨rfl, ?_⟩
 have hstep:(∀j,0<=j->j<0+bs.length->step j=none)↔∀i,i<bs.length->Cm (bs.getD i dB)/\(bs.getD i dB).2.1<nx/\∀j,j<i->¬dup bs i j:=by
  have one:∀i,i<bs.length->(step i=none↔Cm (bs.getD i dB)/\(bs.getD i dB).2.1<nx/\∀j,j<i->¬dup bs i j):=fun i hi=>by
   simp only [step]
   have hg:=(QD (hok i hi) hn).2.2
   by_cases c0:bf n (bs.getD i dB)=0
   ·rw [aj c0]
    by_cases c1:(bs.getD i dB).2.1>=nx
    ·rw [aj c1]
     constructor
     ·intro h; simp at h
     ·rintro ⟨_,h1,_⟩; omega
    ·rw [aA c1]
     by_cases c2:∃j,0<=j/\j<0+i/\dup bs i j
     ·rw [aj c2]
      constructor
      ·intro h; simp at h
      ·rintro ⟨_,_,h⟩
       obtain ⟨j,_,hj,hd⟩:=c2
       exact absurd hd (h j (by omega))
     ·rw [aA c2]
      exact ⟨fun _=>⟨hg.1 c0,by omega,fun j hj hd=>c2 ⟨j,fT _,by omega,hd⟩⟩,fun _=>rfl⟩
   ·rw [aA c0]
    constructor
    ·intro h; simp at h
    ·rintro ⟨h,_⟩; exact absurd (hg.2 h) c0
  exact ⟨fun h i hi=>(one i hi).1 (h i (fT _) (by omega)),fun h i _ hi=>(one i (by omega)).2 (h i (by omega))⟩
 rw [hstep] at hiff
 unfold nE
 by_cases d1:1<=nx/\nx<=1000
 ·by_cases d2:(bs.length:Int)>3
  ·exact ⟨2,by simp [d1,d2],⟨fun h=>by omega,by rintro ⟨_,h,_⟩; exact absurd h (by show ¬bs.length<=3; omega)⟩⟩
  ·exact ⟨r,by simp [d1,d2],by rw [hiff]; exact ⟨fun h=>⟨d1,by show bs.length<=3; omega,h⟩,fun h=>h.2.2⟩⟩
 ·exact ⟨3,by simp [d1],⟨fun h=>by omega,by rintro ⟨h,_⟩; exact absurd h d1⟩⟩
end Go.Proofs.YtailcbngagacaaaGreat.pO
