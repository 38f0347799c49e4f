/- Stores: copies, equalities, sizes, faults, as the printed functions make them. -/
import Derived.Test.YtailcbngagacaaaGreatTdF
set_option linter.unusedVariables false
set_option linter.unusedSimpArgs false
namespace Go.Proofs.YtailcbngagacaaaGreat.iw
open Go Ow JO kF
abbrev oV:=Int×Int×Int×(List Int)×Unit
abbrev Bx:=(List Int)×Int×Int×(List oV)×Unit
abbrev j4:=Int×(List Bx)×Unit
def OX (m:oV):Prop:=m.2.2.2.1.length<=big
def okB (b:Bx):Prop:=b.1.length<=big/\b.2.2.2.1.length<=big/\∀m∈b.2.2.2.1,OX m
def wW (s:j4):Prop:=s.2.1.length<=big/\∀b∈s.2.1,okB b
theorem sH {n:Nat} (a b c:Int):fP n a b c=bJ n a b c:=rfl
theorem Eu {n:Nat} (a b c:Int):bJ n a b c=some (decide (b<=a/\a<=c),()):=by
 unfold bJ
 by_cases h1:b<=a
 ·by_cases h2:a<=c <;> simp [h1,h2]
 ·simp [h1]
def qD (s:List Int):Prop:=(1<=s.length/\s.length<=8)/\∀c∈s,97<=c/\c<=122
instance (s:List Int):Decidable (qD s):=by unfold qD; infer_instance
theorem zJ {R:Type} {p:Nat->Prop} [DecidablePred p] {r fin:R}:∀{m i:Nat},((∃j,i<=j/\j<i+m/\p j)->dI (fun j=>if p j then some r else none) fin m i=r)/\((¬∃j,i<=j/\j<i+m/\p j)->dI (fun j=>if p j then some r else none) fin m i=fin):=by
 intro m
 induction m with
 | zero=>intro i; exact ⟨fun ⟨j,h1,h2,_⟩=>by omega,fun _=>rfl⟩
 | succ m ih=>
  intro i
  unfold dI
  by_cases h:p i
  ·simp only [h,aof]
   exact ⟨fun _=>by first | trivial | rfl,fun hn=>absurd ⟨i,anv _,by omega,h⟩ hn⟩
  ·simp only [h,aog]
   refine ⟨fun ⟨j,h1,h2,h3⟩=>ih.1 ⟨j, ?_,by omega,h3⟩,fun hn=>ih.2 fun ⟨j,h1,h2,h3⟩=>hn ⟨j,by omega,by omega,h3⟩⟩
   have:j≠i:=fun e=>h (e▸h3)
   omega
theorem DY {step:Nat->Option (Option (Int×Unit))} (h:∀i,step i=none\/∃r:Int,r≠0/\step i=some (some (r,()))):∀{m i:Nat},∃r:Int,dI step (some ((0:Int),())) m i=some (r,())/\(r=0↔∀j,i<=j->j<i+m->step j=none):=by
 intro m
 induction m with
 | zero=>intro i; exact ⟨0,rfl,fun _ j h1 h2=>by omega,fun _=>rfl⟩
 | succ m ih=>
  intro i
  unfold dI
  rcases h i with h0 | ⟨r,hr,h0⟩
  ·rw [h0]
   obtain ⟨r,h1,h2⟩:=ih (i:=i+1)
   refine ⟨r,h1,h2.trans ⟨fun g j g1 g2=>?_,fun g j g1 g2=>g j (by omega) (by omega)⟩⟩
   by_cases e:j=i
   ·subst e; exact h0
   ·exact g j (by omega) (by omega)
  ·rw [h0]
   refine ⟨r,rfl,fun e=>absurd e hr,fun g=>?_⟩
   have:=g i (anv _) (by omega)
   rw [h0] at this
   simp at this
theorem name_eq {n:Nat} {s:List Int} (hs:s.length<=big) (hn:big<n):nH n s=some (decide (qD s),())/\lu n s=some (decide (qD s),()):=by
 unfold big at hs hn
 let p:Nat->Prop:=fun i=>s.getD i 0<97\/s.getD i 0>122
 let step:Nat->Option (Option (Bool×Unit)):=fun i=>if s.getD i 0<97\/s.getD i 0>122 then some (some (false,())) else none
 let fin:Option (Bool×Unit):=some (decide (1<=(s.length:Int)/\(s.length:Int)<=8),())
 have h1:lu n s=dI step fin s.length 0:=by
  unfold lu
  refine aT (fun i=>(s,(i:Int),())) step fin rfl (by omega) ?_ ?_
  ·intro L i hi _
   simp only [anG,hi,aox,aof,aJ hi,aX hi (by omega),ano,step]
   by_cases c1:s.getD i 0<97
   ·rw [aoi (aoA c1),aoi (Or.inl c1)]
   ·rw [aok (by rw [ao1]; exact c1)]
    by_cases c2:s.getD i 0>122
    ·rw [aoi (aoA c2),aoi (Or.inr c2)]
    ·rw [aok (by rw [ao1]; exact c2),aok (by rintro (h | h); exact c1 h; exact c2 h)]
  ·intro L _
   simp only [apc,apd,anh,aog,Eu,anf,fin]
 have h2:mO n s 8=dI step fin s.length 0:=by
  unfold mO
  refine aT (fun i=>(s,(8:Int),(s.length:Int),(i:Int),())) step fin rfl (by omega) ?_ ?_
  ·intro L i hi _
   simp only [anG,hi,aox,aof,aJ hi,aX hi (by omega),ano,step]
   by_cases c1:s.getD i 0<97
   ·rw [aoi (aoA c1),aoi (Or.inl c1)]
   ·rw [aok (by rw [ao1]; exact c1)]
    by_cases c2:s.getD i 0>122
    ·rw [aoi (aoA c2),aoi (Or.inr c2)]
    ·rw [aok (by rw [ao1]; exact c2),aok (by rintro (h | h); exact c1 h; exact c2 h)]
  ·intro L _
   simp only [apc,apd,anh,aog,fin]
   by_cases c1:(1:Int)<=(s.length:Int)
   ·by_cases c2:(s.length:Int)<=8 <;> simp [c1,c2]
   ·simp [c1]
 have h3:dI step fin s.length 0=some (decide (qD s),()):=by
  by_cases hx:∃j,0<=j/\j<0+s.length/\p j
  ·refine (zJ (p:=p) (r:=some (false,())) (fin:=fin)).1 hx |>.trans ?_
   obtain ⟨j,_,hj,hp⟩:=hx
   have:¬qD s:=fun g=>by
    have hj':j<s.length:=by omega
    have hm:=g.2 s[j] (anI hj')
    have e:s.getD j 0=s[j]:=by simp [hj']
    have hp':s.getD j 0<97\/s.getD j 0>122:=hp
    rw [e] at hp'
    omega
   rw [aoY this]
  ·refine (zJ (p:=p) (r:=some (false,())) (fin:=fin)).2 hx |>.trans ?_
   show some (decide _,())=_
   congr 2
   rw [apJ]
   unfold qD
   constructor
   ·rintro ⟨a,b⟩
    refine ⟨⟨by omega,by omega⟩,fun c hc=>?_⟩
    obtain ⟨j,hj,rfl⟩:=List.getElem_of_mem hc
    have e:s.getD j 0=s[j]:=by simp [hj]
    have:¬p j:=fun hp=>hx ⟨j,anO _,by omega,hp⟩
    have:¬(s.getD j 0<97\/s.getD j 0>122):=this
    rw [e] at this
    omega
   ·rintro ⟨⟨a,b⟩,_⟩
    omega
 refine ⟨?_,by rw [h1,h3]⟩
 unfold nH
 rw [h2,h3]
 rfl
def Gw (m:oV):Int:=if (1<=m.1/\m.1<=999)/\(0<=m.2.1/\m.2.1<=15)/\(0<=m.2.2.1/\m.2.2.1<=9999) then (if m.2.2.2.1.length<=400 then 0 else 2) else 3
def Ga (m:oV):Prop:=(1<=m.1/\m.1<=999)/\(0<=m.2.1/\m.2.1<=15)/\(0<=m.2.2.1/\m.2.2.1<=9999)/\m.2.2.2.1.length<=400
theorem AR (m:oV):Gw m=0↔Ga m:=by
 unfold Gw Ga
 constructor
 ·intro h
  split at h
  ·rename_i g
   split at h
   ·rename_i g2; exact ⟨g.1,g.2.1,g.2.2,g2⟩
   ·omega
  ·omega
 ·rintro ⟨a,b,c,d⟩
  rw [aoi ⟨a,b,c⟩,aoi d]
theorem message_eq {n:Nat} (m:oV):jv n m=some (Gw m,())/\iJ n m=some (Gw m,()):=by
 have h1:jv n m=iJ n m:=by
  unfold jv iJ oN gp iM
  simp only [sH,Eu,anf]
 rw [h1]
 refine (and_self_iff).2 ?_
 unfold iJ Gw
 simp only [Eu,anf]
 by_cases c1:1<=m.1/\m.1<=999
 ·by_cases c2:0<=m.2.1/\m.2.1<=15
  ·by_cases c3:0<=m.2.2.1/\m.2.2.1<=9999
   ·by_cases c4:(m.2.2.2.1.length:Int)>400
    ·have c5:¬m.2.2.2.1.length<=400:=by omega
     simp [c1,c2,c3,c4,c5]
    ·have c5:m.2.2.2.1.length<=400:=by omega
     simp [c1,c2,c3,c4,c5]
   ·simp [c1,c2,c3]
  ·simp [c1,c2]
 ·simp [c1]
abbrev dM:oV:=((0:Int),(0:Int),(0:Int),([]:List Int),())
abbrev dB:Bx:=(([]:List Int),(0:Int),(0:Int),([]:List oV),())
def mf (_:Nat) (m:oV):Int:=Gw m
theorem VW (n:Nat) (m:oV):iJ n m=some (mf n m,())/\(mf n m=0->1<=m.1):=⟨(message_eq m).2,fun h=>((AR m).1 h).1.1⟩
theorem abC (n:Nat) (m:oV):mf n m=Gw m:=rfl
def uh (ms:List oV):Nat->Int
 | 0=>0
 | i+1=>(ms.getD i dM).1
theorem DC {j n:Nat} (h:j<n) (hn:n<=9223372036854775807):IntKind.i64.wrap (((j+1:Nat):Int) - 1)=(j:Int):=by
 rw [wrap_i64 (by omega) (by omega)]
 omega
def F9 (b:Bx):Prop:=qD b.1/\(1<=b.2.1/\b.2.1<=999)/\(1<=b.2.2.1/\b.2.2.1<=1000)/\b.2.2.2.1.length<=6/\∀i,i<b.2.2.2.1.length->Ga (b.2.2.2.1.getD i dM)/\uh b.2.2.2.1 i<(b.2.2.2.1.getD i dM).1/\(b.2.2.2.1.getD i dM).1<b.2.2.1
theorem aaA {n:Nat} {b:Bx} (hb:okB b) (hn:big<n):mZ n b=mP n b/\∃r,mP n b=some (r,())/\(r=0↔F9 b):=by
 obtain ⟨nm,id,nx,ms,⟨⟩⟩:=b
 obtain ⟨b1,b2,b3⟩:=hb
 obtain ⟨e1,e2⟩:=name_eq b1 hn
 have hlen:ms.length<=1048576:=b2
 unfold big at hn
 let step:Nat->Option (Option (Int×Unit)):=fun i=>if mf n (ms.getD i dM)=0 then (if (ms.getD i dM).1<=uh ms i\/(ms.getD i dM).1>=nx then some (some (1,())) else none) else some (some (mf n (ms.getD i dM),()))
 let fin:Option (Int×Unit):=some (0,())
 have hr:∃r:Int,dI step fin ms.length 0=some (r,())/\(r=0↔∀j,0<=j->j<0+ms.length->step j=none):=DY (fun i=>by
  simp only [step]
  by_cases c0:mf n (ms.getD i dM)=0
  ·rw [aoi c0]
   by_cases c1:(ms.getD i dM).1<=uh ms i\/(ms.getD i dM).1>=nx
   ·rw [aoi c1]; exact .inr ⟨1,by omega,rfl⟩
   ·rw [aok c1]; exact .inl rfl
  ·rw [aok c0]; exact .inr ⟨_,c0,rfl⟩)
 have h1:∀(B:((Bx×Int×Unit)->Option (Int×Unit))->(Bx×Int×Unit)->Option (Int×Unit)),
   (∀L i,i<ms.length->B L ((nm,id,nx,ms,()),(i:Int),())=(if (!decide (mf n (ms.getD i dM)=0))=true then some (mf n (ms.getD i dM),()) else (if (ms.getD i dM).1<=uh ms i\/(ms.getD i dM).1>=nx then some (1,()) else L ((nm,id,nx,ms,()),((i+1:Nat):Int),()))))->
   (∀L,B L ((nm,id,nx,ms,()),(ms.length:Int),())=some (0,()))->rounds B n ((nm,id,nx,ms,()),(0:Int),())=dI step fin ms.length 0:=by
  intro B g1 g2
  refine aT (fun i=>((nm,id,nx,ms,()),(i:Int),())) step fin rfl (show ms.length<n by omega) ?_ (fun L _=>g2 L)
  intro L i hi _
  rw [g1 L i hi]
  simp only [step]
  by_cases c0:mf n (ms.getD i dM)=0
  ·rw [aok (by rw [c0]; simp),aoi c0]
   split <;> rfl
  ·rw [aoi (by simp only [aoY c0,anS]),aok c0]
 have h2:∀(B:((Int×List oV×Int×Int×Bx×Unit)->Option (Int×Unit))->(Int×List oV×Int×Int×Bx×Unit)->Option (Int×Unit)),
   (∀L i,i<ms.length->B L (uh ms i,ms,(ms.length:Int),(i:Int),(nm,id,nx,ms,()),())=(if (!decide (mf n (ms.getD i dM)=0))=true then some (mf n (ms.getD i dM),()) else (if (ms.getD i dM).1<=uh ms i\/(ms.getD i dM).1>=nx then some (1,()) else L (uh ms (i+1),ms,(ms.length:Int),((i+1:Nat):Int),(nm,id,nx,ms,()),()))))->
   (∀L,B L (uh ms ms.length,ms,(ms.length:Int),(ms.length:Int),(nm,id,nx,ms,()),())=some (0,()))->rounds B n ((0:Int),ms,(ms.length:Int),(0:Int),(nm,id,nx,ms,()),())=dI step fin ms.length 0:=by
  intro B g1 g2
  refine aT (fun i=>(uh ms i,ms,(ms.length:Int),(i:Int),(nm,id,nx,ms,()),())) step fin rfl (show ms.length<n by omega) ?_ (fun L _=>g2 L)
  intro L i hi _
  rw [g1 L i hi]
  simp only [step]
  by_cases c0:mf n (ms.getD i dM)=0
  ·rw [aok (by rw [c0]; simp),aoi c0]
   split <;> rfl
  ·rw [aoi (by simp only [aoY c0,anS]),aok c0]
 unfold mZ mP
 simp only [e1,e2,sH,Eu,anf]
 generalize hQ:rounds _ n ((nm,id,nx,ms,()),(0:Int),())=Q
 generalize hQ1:rounds _ n ((0:Int),ms,(ms.length:Int),(0:Int),(nm,id,nx,ms,()),())=Q1
 have hQ':Q=dI step fin ms.length 0:=by
  refine hQ.symm.trans (h1 _ ?_ ?_)
  ·intro L i hi
   simp only [anG,hi,aox,aof,aJ hi,aX hi (by omega),ano,(VW n _).1,anf]
   by_cases c0:mf n (ms.getD i dM)=0
   ·simp only [c0,aox,anH,anh,aog]
    cases i with
    | zero=>
     have hp:=(VW n (ms.getD 0 dM)).2 c0
     rw [aok (by simp)]
     by_cases c1:(ms.getD 0 dM).1>=nx
     ·rw [aoi (aoA c1),aoi (Or.inr c1)]
     ·rw [aok (by rw [ao1]; exact c1),aok (by
       rintro (h | h)
       ·simp only [uh] at h; omega
       ·exact c1 h)]
    | succ j=>
     have hj:j<ms.length:=by omega
     rw [aoi (by simp),show uh ms (j+1)=(ms.getD j dM).1 from rfl]
     simp only [DC hj (by omega),aJ hj,aof,ano]
     by_cases c1:(ms.getD (j+1) dM).1<=(ms.getD j dM).1
     ·rw [aoi (aoA c1),aoi (Or.inl c1)]
     ·rw [aok (by rw [ao1]; exact c1)]
      by_cases c2:(ms.getD (j+1) dM).1>=nx
      ·rw [aoi (aoA c2),aoi (Or.inr c2)]
      ·rw [aok (by rw [ao1]; exact c2),aok (by
        rintro (h | h)
        ·exact c1 h
        ·exact c2 h)]
   ·simp only [aoY c0,anS,aof]
  ·intro L
   simp only [apc,apd,anh,aog]
 have aaL:Q1=dI step fin ms.length 0:=by
  refine hQ1.symm.trans (h2 _ ?_ ?_)
  ·intro L i hi
   simp only [anG,hi,aox,aof,aJ hi,aX hi (by omega),ano,(message_eq _).1, <-abC n,(VW n _).1,anf]
   by_cases c0:mf n (ms.getD i dM)=0
   ·simp only [c0,aox,anH,anh,aog]
    by_cases c1:(ms.getD i dM).1<=uh ms i
    ·rw [aoi (aoA c1),aoi (Or.inl c1)]
    ·rw [aok (by rw [ao1]; exact c1)]
     by_cases c2:(ms.getD i dM).1>=nx
     ·rw [aoi (aoA c2),aoi (Or.inr c2)]
     ·rw [aok (by rw [ao1]; exact c2),aok (by
       rintro (h | h)
       ·exact c1 h
       ·exact c2 h)]
      rfl
   ·simp only [aoY c0,anS,aof]
  ·intro L
   simp only [apc,apd,anh,aog]
 rw [hQ',aaL]
 obtain ⟨r,hr,hiff⟩:=hr
 rw [hr]
 refine ⟨rfl, ?_⟩
 have hstep:(∀j,0<=j->j<0+ms.length->step j=none)↔∀i,i<ms.length->Ga (ms.getD i dM)/\uh ms i<(ms.getD i dM).1/\(ms.getD i dM).1<nx:=by
  have one:∀i,step i=none↔Ga (ms.getD i dM)/\uh ms i<(ms.getD i dM).1/\(ms.getD i dM).1<nx:=fun i=>by
   simp only [step]
   by_cases c0:mf n (ms.getD i dM)=0
   ·rw [aoi c0]
    have g:=(AR (ms.getD i dM)).1 c0
    by_cases c1:(ms.getD i dM).1<=uh ms i\/(ms.getD i dM).1>=nx
    ·rw [aoi c1]
     constructor
     ·intro h; simp at h
     ·rintro ⟨_,h1,h2⟩; omega
    ·rw [aok c1]
     exact ⟨fun _=>⟨g,by omega,by omega⟩,fun _=>rfl⟩
   ·rw [aok c0]
    constructor
    ·intro h; simp at h
    ·rintro ⟨h,_⟩; exact absurd ((AR _).2 h) c0
  exact ⟨fun h i hi=>(one i).1 (h i (anO _) (by omega)),fun h i _ hi=>(one i).2 (h i (by omega))⟩
 rw [hstep] at hiff
 unfold F9
 by_cases d1:qD nm
 ·by_cases d2:1<=id/\id<=999
  ·by_cases d3:1<=nx/\nx<=1000
   ·by_cases d4:(ms.length:Int)>6
    ·exact ⟨2,by simp [d1,d2,d3,d4],⟨fun h=>by omega,by rintro ⟨_,_,_,h,_⟩; exact absurd h (by show ¬ms.length<=6; omega)⟩⟩
    ·exact ⟨r,by simp [d1,d2,d3,d4],by rw [hiff]; exact ⟨fun h=>⟨d1,d2,d3,by show ms.length<=6; omega,h⟩,fun h=>h.2.2.2.2⟩⟩
   ·exact ⟨3,by simp [d1,d2,d3],⟨fun h=>by omega,by rintro ⟨_,_,h,_⟩; exact absurd h d3⟩⟩
  ·exact ⟨3,by simp [d1,d2],⟨fun h=>by omega,by rintro ⟨_,h,_⟩; exact absurd h d2⟩⟩
 ·exact ⟨5,by simp [d1],⟨fun h=>by omega,by rintro ⟨h,_⟩; exact absurd h d1⟩⟩
theorem Ox {p:Nat->Prop} [DecidablePred p]:∀{m i:Nat},∃q:Int,dI (fun j=>if p j then some (some ((j:Int),())) else none) (some ((-1:Int),())) m i=some (q,())/\(0<=q↔∃j,i<=j/\j<i+m/\p j):=by
 intro m
 induction m with
 | zero=>intro i; exact ⟨-1,rfl,⟨fun h=>by omega,by rintro ⟨j,h1,h2,_⟩; omega⟩⟩
 | succ m ih=>
  intro i
  unfold dI
  by_cases h:p i
  ·simp only [h,aof]
   exact ⟨i,rfl,fun _=>⟨i,anv _,by omega,h⟩,fun _=>by omega⟩
  ·simp only [h,aog]
   obtain ⟨q,h1,h2⟩:=ih (i:=i+1)
   refine ⟨q,h1,h2.trans ⟨fun ⟨j,g1,g2,g3⟩=>⟨j,by omega,by omega,g3⟩,fun ⟨j,g1,g2,g3⟩=>⟨j, ?_,by omega,g3⟩⟩⟩
   have:j≠i:=fun e=>h (e▸g3)
   omega
theorem Vx {A C:Type} {f:A->C->Option (Bool×Unit)} {p:A->C->Prop} [∀x y,Decidable (p x y)] {d:A} {xs:List A} {y:C} {n:Nat} {B:(List A×C×Int×Int×Unit->Option (Int×Unit))->List A×C×Int×Int×Unit->Option (Int×Unit)}
  (hB:∀L v,B L v=(if decide (v.2.2.2.1<v.2.2.1)=true then (if aL v.2.2.2.1 v.1.length then ((f (v.1.getD v.2.2.2.1.toNat d) v.2.1).bind fun r2=>(if r2.1=true then some (v.2.2.2.1,()) else L (v.1,v.2.1,v.2.2.1,IntKind.i64.wrap (v.2.2.2.1+(1:Int)),()))) else none) else some ((-1:Int),())))
  (hf:∀x y,f x y=some (decide (p x y),())) (hb:xs.length<=big) (hn:big<n) :
  rounds B n (xs,y,(xs.length:Int),(0:Int),())=dI (fun j=>if p (xs.getD j d) y then some (some ((j:Int),())) else none) (some ((-1:Int),())) xs.length 0:=by
 unfold big at hb hn
 refine aT (fun i=>(xs,y,(xs.length:Int),(i:Int),())) _ _ rfl (by omega) ?_ ?_
 ·intro L i hi _
  simp only [hB,anG,hi,aox,aof,aJ hi,ano,hf,anf,aX hi (by omega)]
  by_cases h:p (xs.getD i d) y
  ·rw [aoi (aoA h),aoi h]
  ·rw [aok (by rw [ao1]; exact h),aok h]
 ·intro L _
  simp only [hB,apc,apd,anh,aog]
def dup (bs:List Bx) (i j:Nat):Prop:=(bs.getD j dB).1=(bs.getD i dB).1\/(bs.getD j dB).2.1=(bs.getD i dB).2.1
instance (bs:List Bx) (i j:Nat):Decidable (dup bs i j):=by unfold dup; infer_instance
theorem contains_eq {n:Nat} {bs:List Bx} {i:Nat} (hi:i<bs.length) (hb:bs.length<=big) (hn:big<n):∃t:Bool,bL n (bs.take i) (bs.getD i dB)=some (t,())/\(t=true↔∃j,0<=j/\j<0+i/\dup bs i j):=by
 have hl:(bs.take i).length=i:=by simp; omega
 have h2:bu n (bs.take i) (bs.getD i dB)=dI (fun j=>if (fun (x y:Bx)=>x.1=y.1\/x.2.1=y.2.1) ((bs.take i).getD j dB) (bs.getD i dB) then some (some ((j:Int),())) else none) (some ((-1:Int),())) (bs.take i).length 0:=by
  unfold bu
  refine Vx (f:=lN n) (p:=fun (x y:Bx)=>x.1=y.1\/x.2.1=y.2.1) (d:=dB) (fun L v=>rfl) (fun x y=>?_) (by rw [hl]; omega) hn
  unfold lN
  by_cases h1:x.1=y.1
  ·simp [h1]
  ·simp [h1]
 rw [hl] at h2
 have h3:bu n (bs.take i) (bs.getD i dB)=dI (fun j=>if dup bs i j then some (some ((j:Int),())) else none) (some ((-1:Int),())) i 0:=by
  rw [h2]
  refine Kj rfl fun j _ hj=>?_
  have e:(bs.take i).getD j dB=bs.getD j dB:=by
   simp only [anr,apy,show j<i by omega,aof]
  show (if (_\/_) then _ else _)=_
  rw [e]
  rfl
 obtain ⟨q,hq,hiff⟩:=Ox (p:=dup bs i) (m:=i) (i:=0)
 refine ⟨decide (q>=0), ?_, ?_⟩
 ·unfold bL
  rw [h3,hq]
  rfl
 ·rw [ao1]
  exact hiff
def bf (n:Nat) (b:Bx):Int:=((mP n b).getD (0,())).1
theorem Uz {n:Nat} {b:Bx} (hb:okB b) (hn:big<n):mP n b=some (bf n b,())/\mZ n b=some (bf n b,())/\(bf n b=0↔F9 b):=by
 obtain ⟨h0,r,h1,h2⟩:=aaA hb hn
 have:bf n b=r:=by unfold bf; rw [h1]; rfl
 rw [h0,this]
 exact ⟨h1,h1,h2⟩
def qE (s:j4):Prop:=(1<=s.1/\s.1<=1000)/\s.2.1.length<=3/\∀i,i<s.2.1.length->F9 (s.2.1.getD i dB)/\(s.2.1.getD i dB).2.1<s.1/\∀j,j<i->¬dup s.2.1 i j
theorem vv {n:Nat} {s:j4} (hs:wW s) (hn:big<n):jd n s=jZ n s/\∃r,jZ n s=some (r,())/\(r=0↔qE s):=by
 obtain ⟨nx,bs,⟨⟩⟩:=s
 obtain ⟨s1,s2⟩:=hs
 have hlen:bs.length<=1048576:=s1
 have hn':1048576<n:=hn
 classical
 let step:Nat->Option (Option (Int×Unit)):=fun i=>if bf n (bs.getD i dB)=0 then (if (bs.getD i dB).2.1>=nx then some (some (9,())) else if ∃j,0<=j/\j<0+i/\dup bs i j then some (some (6,())) else none) else some (some (bf n (bs.getD i dB),()))
 let fin:Option (Int×Unit):=some (0,())
 have hr:∃r:Int,dI step fin bs.length 0=some (r,())/\(r=0↔∀j,0<=j->j<0+bs.length->step j=none):=DY (fun i=>by
  simp only [step]
  by_cases c0:bf n (bs.getD i dB)=0
  ·rw [aoi c0]
   by_cases c1:(bs.getD i dB).2.1>=nx
   ·rw [aoi c1]; exact .inr ⟨9,by omega,rfl⟩
   ·rw [aok c1]
    by_cases c2:∃j,0<=j/\j<0+i/\dup bs i j
    ·rw [aoi c2]; exact .inr ⟨6,by omega,rfl⟩
    ·rw [aok c2]; exact .inl rfl
  ·rw [aok c0]; exact .inr ⟨_,c0,rfl⟩)
 have hok:∀i,i<bs.length->okB (bs.getD i dB):=fun i hi=>by
  have:bs.getD i dB=bs[i]:=by simp [hi]
  rw [this]
  exact s2 _ (anI hi)
 unfold jd jZ
 simp only [sH,Eu,anf]
 generalize hQ:rounds _ n ((nx,bs,()),(0:Int),())=Q
 generalize hQ1:rounds _ n (bs,(bs.length:Int),(0:Int),(nx,bs,()),())=Q1
 have hQ':Q=dI step fin bs.length 0:=by
  refine hQ.symm.trans (aT (fun i=>((nx,bs,()),(i:Int),())) step fin rfl (by omega) ?_ ?_)
  ·intro L i hi _
   simp only [anG,hi,aox,aof,aJ hi,ano,(Uz (hok i hi) hn).1,anf,step]
   by_cases c0:bf n (bs.getD i dB)=0
   ·simp only [c0,aox,anH,anh,aog,aof]
    by_cases c1:(bs.getD i dB).2.1>=nx
    ·rw [aoi (aoA c1),aoi c1]
    ·rw [aok (by rw [ao1]; exact c1),aok c1]
     refine (aT (fun j=>((nx,bs,()),(i:Int),(j:Int),())) (fun j=>if dup bs i j then some (some (6,())) else none) (L ((nx,bs,()),((i+1:Nat):Int),())) (m:=i) rfl (by omega) ?_ ?_).trans ?_
     ·intro L4 j hj _
      have hj':j<bs.length:=by omega
      simp only [anG,hj,aox,aof,aJ hj',aJ hi,ano,aX hj (by omega)]
      by_cases d1:(bs.getD j dB).1=(bs.getD i dB).1
      ·rw [aoi (aoA d1),aoi (show dup bs i j from .inl d1)]
      ·rw [aok (by rw [ao1]; exact d1)]
       by_cases d2:(bs.getD j dB).2.1=(bs.getD i dB).2.1
       ·rw [aoi (aoA d2),aoi (show dup bs i j from .inr d2)]
       ·rw [aok (by rw [ao1]; exact d2),aok (by rintro (h | h); exact d1 h; exact d2 h)]
     ·intro L4 _
      simp only [apc,apd,anh,aog,aX hi (by omega)]
     ·by_cases hd:∃j,0<=j/\j<0+i/\dup bs i j
      ·rw [aoi hd]; exact zJ.1 hd
      ·rw [aok hd]; exact zJ.2 hd
   ·simp only [aoY c0,anS,aof,aok c0]
  ·intro L _
   simp only [apc,apd,anh,aog,fin]
 have aaL:Q1=dI step fin bs.length 0:=by
  refine hQ1.symm.trans (aT (fun i=>(bs,(bs.length:Int),(i:Int),(nx,bs,()),())) step fin rfl (by omega) ?_ ?_)
  ·intro L i hi _
   obtain ⟨t,t1,t2⟩:=contains_eq hi s1 hn
   simp only [anG,hi,aox,aof,aJ hi,ano,(Uz (hok i hi) hn).2.1,anf,step]
   by_cases c0:bf n (bs.getD i dB)=0
   ·simp only [c0,aox,anH,anh,aog,aof]
    by_cases c1:(bs.getD i dB).2.1>=nx
    ·rw [aoi (aoA c1),aoi c1]
    ·rw [aok (by rw [ao1]; exact c1),aok c1,aoi ⟨by omega,by omega⟩,t1]
     simp only [anf,aX hi (by omega)]
     by_cases hd:∃j,0<=j/\j<0+i/\dup bs i j
     ·rw [aoi (t2.2 hd),aoi hd]
     ·rw [aok (fun h=>hd (t2.1 h)),aok hd]
   ·simp only [aoY c0,anS,aof,aok c0]
  ·intro L _
   simp only [apc,apd,anh,aog,fin]
 rw [hQ',aaL]
 obtain ⟨r,hr,hiff⟩:=hr
 rw [hr]
 refine ⟨rfl, ?_⟩
 have hstep:(∀j,0<=j->j<0+bs.length->step j=none)↔∀i,i<bs.length->F9 (bs.getD i dB)/\(bs.getD i dB).2.1<nx/\∀j,j<i->¬dup bs i j:=by
  have one:∀i,i<bs.length->(step i=none↔F9 (bs.getD i dB)/\(bs.getD i dB).2.1<nx/\∀j,j<i->¬dup bs i j):=fun i hi=>by
   simp only [step]
   have hg:=(Uz (hok i hi) hn).2.2
   by_cases c0:bf n (bs.getD i dB)=0
   ·rw [aoi c0]
    by_cases c1:(bs.getD i dB).2.1>=nx
    ·rw [aoi c1]
     constructor
     ·intro h; simp at h
     ·rintro ⟨_,h1,_⟩; omega
    ·rw [aok c1]
     by_cases c2:∃j,0<=j/\j<0+i/\dup bs i j
     ·rw [aoi c2]
      constructor
      ·intro h; simp at h
      ·rintro ⟨_,_,h⟩
       obtain ⟨j,_,hj,hd⟩:=c2
       exact absurd hd (h j (by omega))
     ·rw [aok c2]
      exact ⟨fun _=>⟨hg.1 c0,by omega,fun j hj hd=>c2 ⟨j,anO _,by omega,hd⟩⟩,fun _=>rfl⟩
   ·rw [aok c0]
    constructor
    ·intro h; simp at h
    ·rintro ⟨h,_⟩; exact absurd (hg.2 h) c0
  exact ⟨fun h i hi=>(one i hi).1 (h i (anO _) (by omega)),fun h i _ hi=>(one i (by omega)).2 (h i (by omega))⟩
 rw [hstep] at hiff
 unfold qE
 by_cases d1:1<=nx/\nx<=1000
 ·by_cases d2:(bs.length:Int)>3
  ·exact ⟨2,by simp [d1,d2],⟨fun h=>by omega,by rintro ⟨_,h,_⟩; exact absurd h (by show ¬bs.length<=3; omega)⟩⟩
  ·exact ⟨r,by simp [d1,d2],by rw [hiff]; exact ⟨fun h=>⟨d1,by show bs.length<=3; omega,h⟩,fun h=>h.2.2⟩⟩
 ·exact ⟨3,by simp [d1],⟨fun h=>by omega,by rintro ⟨h,_⟩; exact absurd h d1⟩⟩
end Go.Proofs.YtailcbngagacaaaGreat.iw
