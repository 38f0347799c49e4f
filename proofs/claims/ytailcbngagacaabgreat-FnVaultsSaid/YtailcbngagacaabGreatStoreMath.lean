/- Stores: copies, equalities, sizes, faults, as the printed functions make them. -/
import Derived.Test.YtailcbngagacaabGreatVuF
set_option linter.unusedVariables false
set_option linter.unusedSimpArgs false
namespace Go.Proofs.YtailcbngagacaabGreat.oQ
open Go Ow ni nM
abbrev dm:=Int×Int×Int×(List Int)×Unit
abbrev Bx:=(List Int)×Int×Int×(List dm)×Unit
abbrev bQ:=Int×(List Bx)×Unit
def rz (m:dm):Prop:=m.2.2.2.1.length<=big
def okB (b:Bx):Prop:=b.1.length<=big/\b.2.2.2.1.length<=big/\∀m∈b.2.2.2.1,rz m
def gW (s:bQ):Prop:=s.2.1.length<=big/\∀b∈s.2.1,okB b
theorem Da {n:Nat} (a b c:Int):uY n a b c=jX n a b c:=rfl
theorem uK {n:Nat} (a b c:Int):jX n a b c=some (decide (b<=a/\a<=c),()):=by
 unfold jX
 by_cases h1:b<=a
 ·by_cases h2:a<=c <;> simp [h1,h2]
 ·simp [h1]
def nU (s:List Int):Prop:=(1<=s.length/\s.length<=8)/\∀c∈s,97<=c/\c<=122
instance (s:List Int):Decidable (nU s):=by unfold nU; infer_instance
theorem MX {R:Type} {p:Nat->Prop} [DecidablePred p] {r fin:R}:∀{m i:Nat},((∃j,i<=j/\j<i+m/\p j)->gD (fun j=>if p j then some r else none) fin m i=r)/\((¬∃j,i<=j/\j<i+m/\p j)->gD (fun j=>if p j then some r else none) fin m i=fin):=by
 intro m
 induction m with
 | zero=>intro i; exact ⟨fun ⟨j,h1,h2,_⟩=>by omega,fun _=>rfl⟩
 | succ m ih=>
  intro i
  unfold gD
  by_cases h:p i
  ·simp only [h,a_]
   exact ⟨fun _=>by first | trivial | rfl,fun hn=>absurd ⟨i,bP _,by omega,h⟩ hn⟩
  ·simp only [h,bE]
   refine ⟨fun ⟨j,h1,h2,h3⟩=>ih.1 ⟨j, ?_,by omega,h3⟩,fun hn=>ih.2 fun ⟨j,h1,h2,h3⟩=>hn ⟨j,by omega,by omega,h3⟩⟩
   have:j≠i:=fun e=>h (e▸h3)
   omega
theorem YK {step:Nat->Option (Option (Int×Unit))} (h:∀i,step i=none\/∃r:Int,r≠0/\step i=some (some (r,()))):∀{m i:Nat},∃r:Int,gD step (some ((0:Int),())) m i=some (r,())/\(r=0↔∀j,i<=j->j<i+m->step j=none):=by
 intro m
 induction m with
 | zero=>intro i; exact ⟨0,rfl,fun _ j h1 h2=>by omega,fun _=>rfl⟩
 | succ m ih=>
  intro i
  unfold gD
  rcases h i with h0 | ⟨r,hr,h0⟩
  ·rw [h0]
   obtain ⟨r,h1,h2⟩:=ih (i:=i+1)
   refine ⟨r,h1,h2.trans ⟨fun g j g1 g2=>?_,fun g j g1 g2=>g j (by omega) (by omega)⟩⟩
   by_cases e:j=i
   ·subst e; exact h0
   ·exact g j (by omega) (by omega)
  ·rw [h0]
   refine ⟨r,rfl,fun e=>absurd e hr,fun g=>?_⟩
   have:=g i (bP _) (by omega)
   rw [h0] at this
   simp at this
theorem name_eq {n:Nat} {s:List Int} (hs:s.length<=big) (hn:big<n):Dy n s=some (decide (nU s),())/\Bd n s=some (decide (nU s),()):=by
 unfold big at hs hn
 let p:Nat->Prop:=fun i=>s.getD i 0<97\/s.getD i 0>122
 let step:Nat->Option (Option (Bool×Unit)):=fun i=>if s.getD i 0<97\/s.getD i 0>122 then some (some (false,())) else none
 let fin:Option (Bool×Unit):=some (decide (1<=(s.length:Int)/\(s.length:Int)<=8),())
 have h1:Bd n s=gD step fin s.length 0:=by
  unfold Bd
  refine iy (fun i=>(s,(i:Int),())) step fin rfl (by omega) ?_ ?_
  ·intro L i hi _
   simp only [gZ,hi,bL,a_,dA hi,gp hi (by omega),eF,step]
   by_cases c1:s.getD i 0<97
   ·rw [ak (gB c1),ak (Or.inl c1)]
   ·rw [aA (by rw [dS]; exact c1)]
    by_cases c2:s.getD i 0>122
    ·rw [ak (gB c2),ak (Or.inr c2)]
    ·rw [aA (by rw [dS]; exact c2),aA (by rintro (h | h); exact c1 h; exact c2 h)]
  ·intro L _
   simp only [pJ,eB,bG,bE,uK,aJ,fin]
 have h2:KX n s 8=gD step fin s.length 0:=by
  unfold KX
  refine iy (fun i=>(s,(8:Int),(s.length:Int),(i:Int),())) step fin rfl (by omega) ?_ ?_
  ·intro L i hi _
   simp only [gZ,hi,bL,a_,dA hi,gp hi (by omega),eF,step]
   by_cases c1:s.getD i 0<97
   ·rw [ak (gB c1),ak (Or.inl c1)]
   ·rw [aA (by rw [dS]; exact c1)]
    by_cases c2:s.getD i 0>122
    ·rw [ak (gB c2),ak (Or.inr c2)]
    ·rw [aA (by rw [dS]; exact c2),aA (by rintro (h | h); exact c1 h; exact c2 h)]
  ·intro L _
   simp only [pJ,eB,bG,bE,fin]
   by_cases c1:(1:Int)<=(s.length:Int)
   ·by_cases c2:(s.length:Int)<=8 <;> simp [c1,c2]
   ·simp [c1]
 have h3:gD step fin s.length 0=some (decide (nU s),()):=by
  by_cases hx:∃j,0<=j/\j<0+s.length/\p j
  ·refine (MX (p:=p) (r:=some (false,())) (fin:=fin)).1 hx |>.trans ?_
   obtain ⟨j,_,hj,hp⟩:=hx
   have:¬nU s:=fun g=>by
    have hj':j<s.length:=by omega
    have hm:=g.2 s[j] (ku hj')
    have e:s.getD j 0=s[j]:=by simp [hj']
    have hp':s.getD j 0<97\/s.getD j 0>122:=hp
    rw [e] at hp'
    omega
   rw [fH this]
  ·refine (MX (p:=p) (r:=some (false,())) (fin:=fin)).2 hx |>.trans ?_
   show some (decide _,())=_
   congr 2
   rw [Q_]
   unfold nU
   constructor
   ·rintro ⟨a,b⟩
    refine ⟨⟨by omega,by omega⟩,fun c hc=>?_⟩
    obtain ⟨j,hj,rfl⟩:=List.getElem_of_mem hc
    have e:s.getD j 0=s[j]:=by simp [hj]
    have:¬p j:=fun hp=>hx ⟨j,gq _,by omega,hp⟩
    have:¬(s.getD j 0<97\/s.getD j 0>122):=this
    rw [e] at this
    omega
   ·rintro ⟨⟨a,b⟩,_⟩
    omega
 refine ⟨?_,by rw [h1,h3]⟩
 unfold Dy
 rw [h2,h3]
 rfl
def CK (m:dm):Int:=if (1<=m.1/\m.1<=999)/\(0<=m.2.1/\m.2.1<=15)/\(0<=m.2.2.1/\m.2.2.1<=9999) then (if m.2.2.2.1.length<=400 then 0 else 2) else 3
def Ce (m:dm):Prop:=(1<=m.1/\m.1<=999)/\(0<=m.2.1/\m.2.1<=15)/\(0<=m.2.2.1/\m.2.2.1<=9999)/\m.2.2.2.1.length<=400
theorem TE (m:dm):CK m=0↔Ce m:=by
 unfold CK Ce
 constructor
 ·intro h
  split at h
  ·rename_i g
   split at h
   ·rename_i g2; exact ⟨g.1,g.2.1,g.2.2,g2⟩
   ·omega
  ·omega
 ·rintro ⟨a,b,c,d⟩
  rw [ak ⟨a,b,c⟩,ak d]
theorem message_eq {n:Nat} (m:dm):Gr n m=some (CK m,())/\Bc n m=some (CK m,()):=by
 have h1:Gr n m=Bc n m:=by
  unfold Gr Bc Dz xI xJ
  simp only [Da,uK,aJ]
 rw [h1]
 refine (and_self_iff).2 ?_
 unfold Bc CK
 simp only [uK,aJ]
 by_cases c1:1<=m.1/\m.1<=999
 ·by_cases c2:0<=m.2.1/\m.2.1<=15
  ·by_cases c3:0<=m.2.2.1/\m.2.2.1<=9999
   ·by_cases c4:(m.2.2.2.1.length:Int)>400
    ·have c5:¬m.2.2.2.1.length<=400:=by omega
     simp [c1,c2,c3,c4,c5]
    ·have c5:m.2.2.2.1.length<=400:=by omega
     simp [c1,c2,c3,c4,c5]
   ·simp [c1,c2,c3]
  ·simp [c1,c2]
 ·simp [c1]
abbrev dM:dm:=((0:Int),(0:Int),(0:Int),([]:List Int),())
abbrev dB:Bx:=(([]:List Int),(0:Int),(0:Int),([]:List dm),())
def mf (_:Nat) (m:dm):Int:=CK m
theorem TG (n:Nat) (m:dm):Bc n m=some (mf n m,())/\(mf n m=0->1<=m.1):=⟨(message_eq m).2,fun h=>((TE m).1 h).1.1⟩
theorem amy (n:Nat) (m:dm):mf n m=CK m:=rfl
def qg (ms:List dm):Nat->Int
 | 0=>0
 | i+1=>(ms.getD i dM).1
theorem U5 {j n:Nat} (h:j<n) (hn:n<=9223372036854775807):IntKind.i64.wrap (((j+1:Nat):Int) - 1)=(j:Int):=by
 rw [wrap_i64 (by omega) (by omega)]
 omega
def Cc (b:Bx):Prop:=nU b.1/\(1<=b.2.1/\b.2.1<=999)/\(1<=b.2.2.1/\b.2.2.1<=1000)/\b.2.2.2.1.length<=6/\∀i,i<b.2.2.2.1.length->Ce (b.2.2.2.1.getD i dM)/\qg b.2.2.2.1 i<(b.2.2.2.1.getD i dM).1/\(b.2.2.2.1.getD i dM).1<b.2.2.1
theorem ahx {n:Nat} {b:Bx} (hb:okB b) (hn:big<n):Gp n b=A_ n b/\∃r,A_ n b=some (r,())/\(r=0↔Cc b):=by
 obtain ⟨nm,id,nx,ms,⟨⟩⟩:=b
 obtain ⟨b1,b2,b3⟩:=hb
 obtain ⟨e1,e2⟩:=name_eq b1 hn
 have hlen:ms.length<=1048576:=b2
 unfold big at hn
 let step:Nat->Option (Option (Int×Unit)):=fun i=>if mf n (ms.getD i dM)=0 then (if (ms.getD i dM).1<=qg ms i\/(ms.getD i dM).1>=nx then some (some (1,())) else none) else some (some (mf n (ms.getD i dM),()))
 let fin:Option (Int×Unit):=some (0,())
 have hr:∃r:Int,gD step fin ms.length 0=some (r,())/\(r=0↔∀j,0<=j->j<0+ms.length->step j=none):=YK (fun i=>by
  simp only [step]
  by_cases c0:mf n (ms.getD i dM)=0
  ·rw [ak c0]
   by_cases c1:(ms.getD i dM).1<=qg ms i\/(ms.getD i dM).1>=nx
   ·rw [ak c1]; exact .inr ⟨1,by omega,rfl⟩
   ·rw [aA c1]; exact .inl rfl
  ·rw [aA c0]; exact .inr ⟨_,c0,rfl⟩)
 have h1:∀(B:((Bx×Int×Unit)->Option (Int×Unit))->(Bx×Int×Unit)->Option (Int×Unit)),
   (∀L i,i<ms.length->B L ((nm,id,nx,ms,()),(i:Int),())=(if (!decide (mf n (ms.getD i dM)=0))=true then some (mf n (ms.getD i dM),()) else (if (ms.getD i dM).1<=qg ms i\/(ms.getD i dM).1>=nx then some (1,()) else L ((nm,id,nx,ms,()),((i+1:Nat):Int),()))))->
   (∀L,B L ((nm,id,nx,ms,()),(ms.length:Int),())=some (0,()))->rounds B n ((nm,id,nx,ms,()),(0:Int),())=gD step fin ms.length 0:=by
  intro B g1 g2
  refine iy (fun i=>((nm,id,nx,ms,()),(i:Int),())) step fin rfl (show ms.length<n by omega) ?_ (fun L _=>g2 L)
  intro L i hi _
  rw [g1 L i hi]
  simp only [step]
  by_cases c0:mf n (ms.getD i dM)=0
  ·rw [aA (by rw [c0]; simp),ak c0]
   split <;> rfl
  ·rw [ak (by simp only [fH c0,lD]),aA c0]
 have h2:∀(B:((Int×List dm×Int×Int×Bx×Unit)->Option (Int×Unit))->(Int×List dm×Int×Int×Bx×Unit)->Option (Int×Unit)),
   (∀L i,i<ms.length->B L (qg ms i,ms,(ms.length:Int),(i:Int),(nm,id,nx,ms,()),())=(if (!decide (mf n (ms.getD i dM)=0))=true then some (mf n (ms.getD i dM),()) else (if (ms.getD i dM).1<=qg ms i\/(ms.getD i dM).1>=nx then some (1,()) else L (qg ms (i+1),ms,(ms.length:Int),((i+1:Nat):Int),(nm,id,nx,ms,()),()))))->
   (∀L,B L (qg ms ms.length,ms,(ms.length:Int),(ms.length:Int),(nm,id,nx,ms,()),())=some (0,()))->rounds B n ((0:Int),ms,(ms.length:Int),(0:Int),(nm,id,nx,ms,()),())=gD step fin ms.length 0:=by
  intro B g1 g2
  refine iy (fun i=>(qg ms i,ms,(ms.length:Int),(i:Int),(nm,id,nx,ms,()),())) step fin rfl (show ms.length<n by omega) ?_ (fun L _=>g2 L)
  intro L i hi _
  rw [g1 L i hi]
  simp only [step]
  by_cases c0:mf n (ms.getD i dM)=0
  ·rw [aA (by rw [c0]; simp),ak c0]
   split <;> rfl
  ·rw [ak (by simp only [fH c0,lD]),aA c0]
 unfold Gp A_
 simp only [e1,e2,Da,uK,aJ]
 generalize hQ:rounds _ n ((nm,id,nx,ms,()),(0:Int),())=Q
 generalize RJ:rounds _ n ((0:Int),ms,(ms.length:Int),(0:Int),(nm,id,nx,ms,()),())=Q1
 have hQ':Q=gD step fin ms.length 0:=by
  refine hQ.symm.trans (h1 _ ?_ ?_)
  ·intro L i hi
   simp only [gZ,hi,bL,a_,dA hi,gp hi (by omega),eF,(TG n _).1,aJ]
   by_cases c0:mf n (ms.getD i dM)=0
   ·simp only [c0,bL,iB,bG,bE]
    cases i with
    | zero=>
     have hp:=(TG n (ms.getD 0 dM)).2 c0
     rw [aA (by simp)]
     by_cases c1:(ms.getD 0 dM).1>=nx
     ·rw [ak (gB c1),ak (Or.inr c1)]
     ·rw [aA (by rw [dS]; exact c1),aA (by
       rintro (h | h)
       ·simp only [qg] at h; omega
       ·exact c1 h)]
    | succ j=>
     have hj:j<ms.length:=by omega
     rw [ak (by simp),show qg ms (j+1)=(ms.getD j dM).1 from rfl]
     simp only [U5 hj (by omega),dA hj,a_,eF]
     by_cases c1:(ms.getD (j+1) dM).1<=(ms.getD j dM).1
     ·rw [ak (gB c1),ak (Or.inl c1)]
     ·rw [aA (by rw [dS]; exact c1)]
      by_cases c2:(ms.getD (j+1) dM).1>=nx
      ·rw [ak (gB c2),ak (Or.inr c2)]
      ·rw [aA (by rw [dS]; exact c2),aA (by
        rintro (h | h)
        ·exact c1 h
        ·exact c2 h)]
   ·simp only [fH c0,lD,a_]
  ·intro L
   simp only [pJ,eB,bG,bE]
 have RL:Q1=gD step fin ms.length 0:=by
  refine RJ.symm.trans (h2 _ ?_ ?_)
  ·intro L i hi
   simp only [gZ,hi,bL,a_,dA hi,gp hi (by omega),eF,(message_eq _).1, <-amy n,(TG n _).1,aJ]
   by_cases c0:mf n (ms.getD i dM)=0
   ·simp only [c0,bL,iB,bG,bE]
    by_cases c1:(ms.getD i dM).1<=qg ms i
    ·rw [ak (gB c1),ak (Or.inl c1)]
    ·rw [aA (by rw [dS]; exact c1)]
     by_cases c2:(ms.getD i dM).1>=nx
     ·rw [ak (gB c2),ak (Or.inr c2)]
     ·rw [aA (by rw [dS]; exact c2),aA (by
       rintro (h | h)
       ·exact c1 h
       ·exact c2 h)]
      rfl
   ·simp only [fH c0,lD,a_]
  ·intro L
   simp only [pJ,eB,bG,bE]
 rw [hQ',RL]
 obtain ⟨r,hr,hiff⟩:=hr
 rw [hr]
 refine ⟨rfl, ?_⟩
 have hstep:(∀j,0<=j->j<0+ms.length->step j=none)↔∀i,i<ms.length->Ce (ms.getD i dM)/\qg ms i<(ms.getD i dM).1/\(ms.getD i dM).1<nx:=by
  have one:∀i,step i=none↔Ce (ms.getD i dM)/\qg ms i<(ms.getD i dM).1/\(ms.getD i dM).1<nx:=fun i=>by
   simp only [step]
   by_cases c0:mf n (ms.getD i dM)=0
   ·rw [ak c0]
    have g:=(TE (ms.getD i dM)).1 c0
    by_cases c1:(ms.getD i dM).1<=qg ms i\/(ms.getD i dM).1>=nx
    ·rw [ak c1]
     constructor
     ·intro h; simp at h
     ·rintro ⟨_,h1,h2⟩; omega
    ·rw [aA c1]
     exact ⟨fun _=>⟨g,by omega,by omega⟩,fun _=>rfl⟩
   ·rw [aA c0]
    constructor
    ·intro h; simp at h
    ·rintro ⟨h,_⟩; exact absurd ((TE _).2 h) c0
  exact ⟨fun h i hi=>(one i).1 (h i (gq _) (by omega)),fun h i _ hi=>(one i).2 (h i (by omega))⟩
 rw [hstep] at hiff
 unfold Cc
 by_cases d1:nU nm
 ·by_cases d2:1<=id/\id<=999
  ·by_cases d3:1<=nx/\nx<=1000
   ·by_cases d4:(ms.length:Int)>6
    ·exact ⟨2,by simp [d1,d2,d3,d4],⟨fun h=>by omega,by rintro ⟨_,_,_,h,_⟩; exact absurd h (by show ¬ms.length<=6; omega)⟩⟩
    ·exact ⟨r,by simp [d1,d2,d3,d4],by rw [hiff]; exact ⟨fun h=>⟨d1,d2,d3,by show ms.length<=6; omega,h⟩,fun h=>h.2.2.2.2⟩⟩
   ·exact ⟨3,by simp [d1,d2,d3],⟨fun h=>by omega,by rintro ⟨_,_,h,_⟩; exact absurd h d3⟩⟩
  ·exact ⟨3,by simp [d1,d2],⟨fun h=>by omega,by rintro ⟨_,h,_⟩; exact absurd h d2⟩⟩
 ·exact ⟨5,by simp [d1],⟨fun h=>by omega,by rintro ⟨h,_⟩; exact absurd h d1⟩⟩
theorem ajm {p:Nat->Prop} [DecidablePred p]:∀{m i:Nat},∃q:Int,gD (fun j=>if p j then some (some ((j:Int),())) else none) (some ((-1:Int),())) m i=some (q,())/\(0<=q↔∃j,i<=j/\j<i+m/\p j):=by
 intro m
 induction m with
 | zero=>intro i; exact ⟨-1,rfl,⟨fun h=>by omega,by rintro ⟨j,h1,h2,_⟩; omega⟩⟩
 | succ m ih=>
  intro i
  unfold gD
  by_cases h:p i
  ·simp only [h,a_]
   exact ⟨i,rfl,fun _=>⟨i,bP _,by omega,h⟩,fun _=>by omega⟩
  ·simp only [h,bE]
   obtain ⟨q,h1,h2⟩:=ih (i:=i+1)
   refine ⟨q,h1,h2.trans ⟨fun ⟨j,g1,g2,g3⟩=>⟨j,by omega,by omega,g3⟩,fun ⟨j,g1,g2,g3⟩=>⟨j, ?_,by omega,g3⟩⟩⟩
   have:j≠i:=fun e=>h (e▸g3)
   omega
theorem alJ {A C:Type} {f:A->C->Option (Bool×Unit)} {p:A->C->Prop} [∀x y,Decidable (p x y)] {d:A} {xs:List A} {y:C} {n:Nat} {B:(List A×C×Int×Int×Unit->Option (Int×Unit))->List A×C×Int×Int×Unit->Option (Int×Unit)}
  (hB:∀L v,B L v=(if decide (v.2.2.2.1<v.2.2.1)=true then (if aN v.2.2.2.1 v.1.length then ((f (v.1.getD v.2.2.2.1.toNat d) v.2.1).bind fun r2=>(if r2.1=true then some (v.2.2.2.1,()) else L (v.1,v.2.1,v.2.2.1,IntKind.i64.wrap (v.2.2.2.1+(1:Int)),()))) else none) else some ((-1:Int),())))
  (hf:∀x y,f x y=some (decide (p x y),())) (hb:xs.length<=big) (hn:big<n) :
  rounds B n (xs,y,(xs.length:Int),(0:Int),())=gD (fun j=>if p (xs.getD j d) y then some (some ((j:Int),())) else none) (some ((-1:Int),())) xs.length 0:=by
 unfold big at hb hn
 refine iy (fun i=>(xs,y,(xs.length:Int),(i:Int),())) _ _ rfl (by omega) ?_ ?_
 ·intro L i hi _
  simp only [hB,gZ,hi,bL,a_,dA hi,eF,hf,aJ,gp hi (by omega)]
  by_cases h:p (xs.getD i d) y
  ·rw [ak (gB h),ak h]
  ·rw [aA (by rw [dS]; exact h),aA h]
 ·intro L _
  simp only [hB,pJ,eB,bG,bE]
def dup (bs:List Bx) (i j:Nat):Prop:=(bs.getD j dB).1=(bs.getD i dB).1\/(bs.getD j dB).2.1=(bs.getD i dB).2.1
instance (bs:List Bx) (i j:Nat):Decidable (dup bs i j):=by unfold dup; infer_instance
theorem contains_eq {n:Nat} {bs:List Bx} {i:Nat} (hi:i<bs.length) (hb:bs.length<=big) (hn:big<n):∃t:Bool,K6 n (bs.take i) (bs.getD i dB)=some (t,())/\(t=true↔∃j,0<=j/\j<0+i/\dup bs i j):=by
 have hl:(bs.take i).length=i:=by simp; omega
 have h2:GD n (bs.take i) (bs.getD i dB)=gD (fun j=>if (fun (x y:Bx)=>x.1=y.1\/x.2.1=y.2.1) ((bs.take i).getD j dB) (bs.getD i dB) then some (some ((j:Int),())) else none) (some ((-1:Int),())) (bs.take i).length 0:=by
  unfold GD
  refine alJ (f:=KS n) (p:=fun (x y:Bx)=>x.1=y.1\/x.2.1=y.2.1) (d:=dB) (fun L v=>rfl) (fun x y=>?_) (by rw [hl]; omega) hn
  unfold KS
  by_cases h1:x.1=y.1
  ·simp [h1]
  ·simp [h1]
 rw [hl] at h2
 have h3:GD n (bs.take i) (bs.getD i dB)=gD (fun j=>if dup bs i j then some (some ((j:Int),())) else none) (some ((-1:Int),())) i 0:=by
  rw [h2]
  refine ajl rfl fun j _ hj=>?_
  have e:(bs.take i).getD j dB=bs.getD j dB:=by
   simp only [h_,Ma,show j<i by omega,a_]
  show (if (_\/_) then _ else _)=_
  rw [e]
  rfl
 obtain ⟨q,hq,hiff⟩:=ajm (p:=dup bs i) (m:=i) (i:=0)
 refine ⟨decide (q>=0), ?_, ?_⟩
 ·unfold K6
  rw [h3,hq]
  rfl
 ·rw [dS]
  exact hiff
def bf (n:Nat) (b:Bx):Int:=((A_ n b).getD (0,())).1
theorem QI {n:Nat} {b:Bx} (hb:okB b) (hn:big<n):A_ n b=some (bf n b,())/\Gp n b=some (bf n b,())/\(bf n b=0↔Cc b):=by
 obtain ⟨h0,r,h1,h2⟩:=ahx hb hn
 have:bf n b=r:=by unfold bf; rw [h1]; rfl
 rw [h0,this]
 exact ⟨h1,h1,h2⟩
def nG (s:bQ):Prop:=(1<=s.1/\s.1<=1000)/\s.2.1.length<=3/\∀i,i<s.2.1.length->Cc (s.2.1.getD i dB)/\(s.2.1.getD i dB).2.1<s.1/\∀j,j<i->¬dup s.2.1 i j
theorem zR {n:Nat} {s:bQ} (hs:gW s) (hn:big<n):AU n s=Bb n s/\∃r,Bb n s=some (r,())/\(r=0↔nG s):=by
 obtain ⟨nx,bs,⟨⟩⟩:=s
 obtain ⟨s1,s2⟩:=hs
 have hlen:bs.length<=1048576:=s1
 have hn':1048576<n:=hn
 classical
 let step:Nat->Option (Option (Int×Unit)):=fun i=>if bf n (bs.getD i dB)=0 then (if (bs.getD i dB).2.1>=nx then some (some (9,())) else if ∃j,0<=j/\j<0+i/\dup bs i j then some (some (6,())) else none) else some (some (bf n (bs.getD i dB),()))
 let fin:Option (Int×Unit):=some (0,())
 have hr:∃r:Int,gD step fin bs.length 0=some (r,())/\(r=0↔∀j,0<=j->j<0+bs.length->step j=none):=YK (fun i=>by
  simp only [step]
  by_cases c0:bf n (bs.getD i dB)=0
  ·rw [ak c0]
   by_cases c1:(bs.getD i dB).2.1>=nx
   ·rw [ak c1]; exact .inr ⟨9,by omega,rfl⟩
   ·rw [aA c1]
    by_cases c2:∃j,0<=j/\j<0+i/\dup bs i j
    ·rw [ak c2]; exact .inr ⟨6,by omega,rfl⟩
    ·rw [aA c2]; exact .inl rfl
  ·rw [aA c0]; exact .inr ⟨_,c0,rfl⟩)
 have hok:∀i,i<bs.length->okB (bs.getD i dB):=fun i hi=>by
  have:bs.getD i dB=bs[i]:=by simp [hi]
  rw [this]
  exact s2 _ (ku hi)
 unfold AU Bb
 simp only [Da,uK,aJ]
 generalize hQ:rounds _ n ((nx,bs,()),(0:Int),())=Q
 generalize RJ:rounds _ n (bs,(bs.length:Int),(0:Int),(nx,bs,()),())=Q1
 have hQ':Q=gD step fin bs.length 0:=by
  refine hQ.symm.trans (iy (fun i=>((nx,bs,()),(i:Int),())) step fin rfl (by omega) ?_ ?_)
  ·intro L i hi _
   simp only [gZ,hi,bL,a_,dA hi,eF,(QI (hok i hi) hn).1,aJ,step]
   by_cases c0:bf n (bs.getD i dB)=0
   ·simp only [c0,bL,iB,bG,bE,a_]
    by_cases c1:(bs.getD i dB).2.1>=nx
    ·rw [ak (gB c1),ak c1]
    ·rw [aA (by rw [dS]; exact c1),aA c1]
     refine (iy (fun j=>((nx,bs,()),(i:Int),(j:Int),())) (fun j=>if dup bs i j then some (some (6,())) else none) (L ((nx,bs,()),((i+1:Nat):Int),())) (m:=i) rfl (by omega) ?_ ?_).trans ?_
     ·intro L4 j hj _
      have hj':j<bs.length:=by omega
      simp only [gZ,hj,bL,a_,dA hj',dA hi,eF,gp hj (by omega)]
      by_cases d1:(bs.getD j dB).1=(bs.getD i dB).1
      ·rw [ak (gB d1),ak (show dup bs i j from .inl d1)]
      ·rw [aA (by rw [dS]; exact d1)]
       by_cases d2:(bs.getD j dB).2.1=(bs.getD i dB).2.1
       ·rw [ak (gB d2),ak (show dup bs i j from .inr d2)]
       ·rw [aA (by rw [dS]; exact d2),aA (by rintro (h | h); exact d1 h; exact d2 h)]
     ·intro L4 _
      simp only [pJ,eB,bG,bE,gp hi (by omega)]
     ·by_cases hd:∃j,0<=j/\j<0+i/\dup bs i j
      ·rw [ak hd]; exact MX.1 hd
      ·rw [aA hd]; exact MX.2 hd
   ·simp only [fH c0,lD,a_,aA c0]
  ·intro L _
   simp only [pJ,eB,bG,bE,fin]
 have RL:Q1=gD step fin bs.length 0:=by
  refine RJ.symm.trans (iy (fun i=>(bs,(bs.length:Int),(i:Int),(nx,bs,()),())) step fin rfl (by omega) ?_ ?_)
  ·intro L i hi _
   obtain ⟨t,t1,t2⟩:=contains_eq hi s1 hn
   simp only [gZ,hi,bL,a_,dA hi,eF,(QI (hok i hi) hn).2.1,aJ,step]
   by_cases c0:bf n (bs.getD i dB)=0
   ·simp only [c0,bL,iB,bG,bE,a_]
    by_cases c1:(bs.getD i dB).2.1>=nx
    ·rw [ak (gB c1),ak c1]
    ·rw [aA (by rw [dS]; exact c1),aA c1,ak ⟨by omega,by omega⟩,t1]
     simp only [aJ,gp hi (by omega)]
     by_cases hd:∃j,0<=j/\j<0+i/\dup bs i j
     ·rw [ak (t2.2 hd),ak hd]
     ·rw [aA (fun h=>hd (t2.1 h)),aA hd]
   ·simp only [fH c0,lD,a_,aA c0]
  ·intro L _
   simp only [pJ,eB,bG,bE,fin]
 rw [hQ',RL]
 obtain ⟨r,hr,hiff⟩:=hr
 rw [hr]
 refine ⟨rfl, ?_⟩
 have hstep:(∀j,0<=j->j<0+bs.length->step j=none)↔∀i,i<bs.length->Cc (bs.getD i dB)/\(bs.getD i dB).2.1<nx/\∀j,j<i->¬dup bs i j:=by
  have one:∀i,i<bs.length->(step i=none↔Cc (bs.getD i dB)/\(bs.getD i dB).2.1<nx/\∀j,j<i->¬dup bs i j):=fun i hi=>by
   simp only [step]
   have hg:=(QI (hok i hi) hn).2.2
   by_cases c0:bf n (bs.getD i dB)=0
   ·rw [ak c0]
    by_cases c1:(bs.getD i dB).2.1>=nx
    ·rw [ak c1]
     constructor
     ·intro h; simp at h
     ·rintro ⟨_,h1,_⟩; omega
    ·rw [aA c1]
     by_cases c2:∃j,0<=j/\j<0+i/\dup bs i j
     ·rw [ak c2]
      constructor
      ·intro h; simp at h
      ·rintro ⟨_,_,h⟩
       obtain ⟨j,_,hj,hd⟩:=c2
       exact absurd hd (h j (by omega))
     ·rw [aA c2]
      exact ⟨fun _=>⟨hg.1 c0,by omega,fun j hj hd=>c2 ⟨j,gq _,by omega,hd⟩⟩,fun _=>rfl⟩
   ·rw [aA c0]
    constructor
    ·intro h; simp at h
    ·rintro ⟨h,_⟩; exact absurd (hg.2 h) c0
  exact ⟨fun h i hi=>(one i hi).1 (h i (gq _) (by omega)),fun h i _ hi=>(one i (by omega)).2 (h i (by omega))⟩
 rw [hstep] at hiff
 unfold nG
 by_cases d1:1<=nx/\nx<=1000
 ·by_cases d2:(bs.length:Int)>3
  ·exact ⟨2,by simp [d1,d2],⟨fun h=>by omega,by rintro ⟨_,h,_⟩; exact absurd h (by show ¬bs.length<=3; omega)⟩⟩
  ·exact ⟨r,by simp [d1,d2],by rw [hiff]; exact ⟨fun h=>⟨d1,by show bs.length<=3; omega,h⟩,fun h=>h.2.2⟩⟩
 ·exact ⟨3,by simp [d1],⟨fun h=>by omega,by rintro ⟨h,_⟩; exact absurd h d1⟩⟩
end Go.Proofs.YtailcbngagacaabGreat.oQ
