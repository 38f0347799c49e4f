/- Stores: copies, equalities, sizes, faults, as the printed functions make them. -/
import Derived.Test.YtabnmpabdhmkoaaOwF
import Derived.Test.YtabnmpabdhmkoaaLoopLib
import Derived.Test.YtabnmpabdhmkoaaFlF
set_option linter.unusedSectionVars false
set_option linter.unusedVariables false
set_option linter.unusedSimpArgs false
namespace Go.Proofs.Ytabnmpabdhmkoaa.oF
open Go Go.Proofs.Ytabnmpabdhmkoaa.Ow Go.Proofs.Ytabnmpabdhmkoaa.MV Go.Proofs.Ytabnmpabdhmkoaa.qb
abbrev qI:=Int×Int×Int×(List Int)×Unit
abbrev Bx:=(List Int)×Int×Int×(List qI)×Unit
abbrev qM:=Int×(List Bx)×Unit
def RA (m:qI):Prop:=m.2.2.2.1.length≤big
def okB (b:Bx):Prop:=b.1.length≤big∧b.2.2.2.1.length≤big∧∀m∈b.2.2.2.1,RA m
def Pm (s:qM):Prop:=s.2.1.length≤big∧∀b∈s.2.1,okB b
theorem uG {n:Nat} (a b c:Int):gX n a b c=bZ n a b c:=rfl
theorem Et {n:Nat} (a b c:Int):bZ n a b c=some (decide (b≤a∧a≤c),()):=by
 unfold bZ
 by_cases h1:b≤a
 ·by_cases h2:a≤c <;> simp [h1,h2]
 ·simp [h1]
def wu (s:List Int):Prop:=(1≤s.length∧s.length≤8)∧∀c∈s,97≤c∧c≤122
instance (s:List Int):Decidable (wu s):=by unfold wu; infer_instance
theorem uz {R:Type} {p:Nat→Prop} [DecidablePred p] {r fin:R}:∀{m i:Nat},((∃j,i≤j∧j<i+m∧p j)→dh (fun j=>if p j then some r else none) fin m i=r)∧((¬∃j,i≤j∧j<i+m∧p j)→dh (fun j=>if p j then some r else none) fin m i=fin):=by
 intro m
 induction m with
 | zero=>intro i; exact ⟨fun ⟨j,h1,h2,_⟩=>by omega,fun _=>rfl⟩
 | succ m ih=>
  intro i
  unfold dh
  by_cases h:p i
  ·simp only [h,if_true]
   exact ⟨fun _=>by first | trivial | rfl,fun hn=>absurd ⟨i,abI _,by omega,h⟩ hn⟩
  ·simp only [h,if_false]
   refine ⟨fun ⟨j,h1,h2,h3⟩=>ih.1 ⟨j, ?_,by omega,h3⟩,fun hn=>ih.2 fun ⟨j,h1,h2,h3⟩=>hn ⟨j,by omega,by omega,h3⟩⟩
   have:j≠i:=fun e=>h (e▸h3)
   omega
theorem xQ {step:Nat→Option (Option (Int×Unit))} (h:∀i,step i=none∨∃r:Int,r≠0∧step i=some (some (r,()))):∀{m i:Nat},∃r:Int,dh step (some ((0:Int),())) m i=some (r,())∧(r=0↔∀j,i≤j→j<i+m→step j=none):=by
 intro m
 induction m with
 | zero=>intro i; exact ⟨0,rfl,fun _ j h1 h2=>by omega,fun _=>rfl⟩
 | succ m ih=>
  intro i
  unfold dh
  rcases h i with h0 | ⟨r,hr,h0⟩
  ·rw [h0]
   obtain ⟨r,h1,h2⟩:=ih (i:=i+1)
   refine ⟨r,h1,h2.trans ⟨fun g j g1 g2=>?_,fun g j g1 g2=>g j (by omega) (by omega)⟩⟩
   by_cases e:j=i
   ·subst e; exact h0
   ·exact g j (by omega) (by omega)
  ·rw [h0]
   refine ⟨r,rfl,fun e=>absurd e hr,fun g=>?_⟩
   have:=g i (abI _) (by omega)
   rw [h0] at this
   simp at this
theorem name_eq {n:Nat} {s:List Int} (hs:s.length≤big) (hn:big<n):ny n s=some (decide (wu s),())∧kU n s=some (decide (wu s),()):=by
 unfold big at hs hn
 let p:Nat→Prop:=fun i=>s.getD i 0<97∨s.getD i 0>122
 let step:Nat→Option (Option (Bool×Unit)):=fun i=>if s.getD i 0<97∨s.getD i 0>122 then some (some (false,())) else none
 let fin:Option (Bool×Unit):=some (decide (1≤(s.length:Int)∧(s.length:Int)≤8),())
 have h1:kU n s=dh step fin s.length 0:=by
  unfold kU
  refine cu (fun i=>(s,(i:Int),())) step fin rfl (by omega) ?_ ?_
  ·intro L i hi _
   simp only [abS,hi,decide_true,if_true,cO hi,dP hi (by omega),abC,step]
   by_cases c1:s.getD i 0<97
   ·rw [if_pos (decide_eq_true c1),if_pos (Or.inl c1)]
   ·rw [if_neg (by rw [decide_eq_true_eq]; exact c1)]
    by_cases c2:s.getD i 0>122
    ·rw [if_pos (decide_eq_true c2),if_pos (Or.inr c2)]
    ·rw [if_neg (by rw [decide_eq_true_eq]; exact c2),if_neg (by rintro (h | h); exact c1 h; exact c2 h)]
  ·intro L _
   simp only [Int.lt_irrefl,decide_false,abv,if_false,Et,abt,fin]
 have h2:jB n s 8=dh step fin s.length 0:=by
  unfold jB
  refine cu (fun i=>(s,(8:Int),(s.length:Int),(i:Int),())) step fin rfl (by omega) ?_ ?_
  ·intro L i hi _
   simp only [abS,hi,decide_true,if_true,cO hi,dP hi (by omega),abC,step]
   by_cases c1:s.getD i 0<97
   ·rw [if_pos (decide_eq_true c1),if_pos (Or.inl c1)]
   ·rw [if_neg (by rw [decide_eq_true_eq]; exact c1)]
    by_cases c2:s.getD i 0>122
    ·rw [if_pos (decide_eq_true c2),if_pos (Or.inr c2)]
    ·rw [if_neg (by rw [decide_eq_true_eq]; exact c2),if_neg (by rintro (h | h); exact c1 h; exact c2 h)]
  ·intro L _
   simp only [Int.lt_irrefl,decide_false,abv,if_false,fin]
   by_cases c1:(1:Int)≤(s.length:Int)
   ·by_cases c2:(s.length:Int)≤8 <;> simp [c1,c2]
   ·simp [c1]
 have h3:dh step fin s.length 0=some (decide (wu s),()):=by
  by_cases hx:∃j,0≤j∧j<0+s.length∧p j
  ·refine (uz (p:=p) (r:=some (false,())) (fin:=fin)).1 hx |>.trans ?_
   obtain ⟨j,_,hj,hp⟩:=hx
   have:¬wu s:=fun g=>by
    have hj':j<s.length:=by omega
    have hm:=g.2 s[j] (abU hj')
    have e:s.getD j 0=s[j]:=by simp [hj']
    have hp':s.getD j 0<97∨s.getD j 0>122:=hp
    rw [e] at hp'
    omega
   rw [decide_eq_false this]
  ·refine (uz (p:=p) (r:=some (false,())) (fin:=fin)).2 hx |>.trans ?_
   show some (decide _,())=_
   congr 2
   rw [decide_eq_decide]
   unfold wu
   constructor
   ·rintro ⟨a,b⟩
    refine ⟨⟨by omega,by omega⟩,fun c hc=>?_⟩
    obtain ⟨j,hj,rfl⟩:=List.getElem_of_mem hc
    have e:s.getD j 0=s[j]:=by simp [hj]
    have:¬p j:=fun hp=>hx ⟨j,ab0 _,by omega,hp⟩
    have:¬(s.getD j 0<97∨s.getD j 0>122):=this
    rw [e] at this
    omega
   ·rintro ⟨⟨a,b⟩,_⟩
    omega
 refine ⟨?_,by rw [h1,h3]⟩
 unfold ny
 rw [h2,h3]
 rfl
def zZ (m:qI):Int:=if (1≤m.1∧m.1≤999)∧(0≤m.2.1∧m.2.1≤15)∧(0≤m.2.2.1∧m.2.2.1≤9999) then (if m.2.2.2.1.length≤400 then 0 else 2) else 3
def Ef (m:qI):Prop:=(1≤m.1∧m.1≤999)∧(0≤m.2.1∧m.2.1≤15)∧(0≤m.2.2.1∧m.2.2.1≤9999)∧m.2.2.2.1.length≤400
theorem vv (m:qI):zZ m=0↔Ef m:=by
 unfold zZ Ef
 constructor
 ·intro h
  split at h
  ·rename_i g
   split at h
   ·rename_i g2; exact ⟨g.1,g.2.1,g.2.2,g2⟩
   ·omega
  ·omega
 ·rintro ⟨a,b,c,d⟩
  rw [if_pos ⟨a,b,c⟩,if_pos d]
theorem message_eq {n:Nat} (m:qI):gI n m=some (zZ m,())∧fM n m=some (zZ m,()):=by
 have h1:gI n m=fM n m:=by
  unfold gI fM rz gF qz
  simp only [uG,Et,abt]
 rw [h1]
 refine (and_self_iff).2 ?_
 unfold fM zZ
 simp only [Et,abt]
 by_cases c1:1≤m.1∧m.1≤999
 ·by_cases c2:0≤m.2.1∧m.2.1≤15
  ·by_cases c3:0≤m.2.2.1∧m.2.2.1≤9999
   ·by_cases c4:(m.2.2.2.1.length:Int)>400
    ·have c5:¬m.2.2.2.1.length≤400:=by omega
     simp [c1,c2,c3,c4,c5]
    ·have c5:m.2.2.2.1.length≤400:=by omega
     simp [c1,c2,c3,c4,c5]
   ·simp [c1,c2,c3]
  ·simp [c1,c2]
 ·simp [c1]
abbrev dM:qI:=((0:Int),(0:Int),(0:Int),([]:List Int),())
abbrev dB:Bx:=(([]:List Int),(0:Int),(0:Int),([]:List qI),())
def mf (_:Nat) (m:qI):Int:=zZ m
theorem LQ (n:Nat) (m:qI):fM n m=some (mf n m,())∧(mf n m=0→1≤m.1):=⟨(message_eq m).2,fun h=>((vv m).1 h).1.1⟩
theorem QW (n:Nat) (m:qI):mf n m=zZ m:=rfl
def pJ (ms:List qI):Nat→Int
 | 0=>0
 | i+1=>(ms.getD i dM).1
theorem J2 {j n:Nat} (h:j<n) (hn:n≤9223372036854775807):IntKind.i64.wrap (((j+1:Nat):Int) - 1)=(j:Int):=by
 rw [wrap_i64 (by omega) (by omega)]
 omega
def zL (b:Bx):Prop:=wu b.1∧(1≤b.2.1∧b.2.1≤999)∧(1≤b.2.2.1∧b.2.2.1≤1000)∧b.2.2.2.1.length≤6∧∀i,i<b.2.2.2.1.length→Ef (b.2.2.2.1.getD i dM)∧pJ b.2.2.2.1 i<(b.2.2.2.1.getD i dM).1∧(b.2.2.2.1.getD i dM).1<b.2.2.1
theorem P8 {n:Nat} {b:Bx} (hb:okB b) (hn:big<n):bV n b=gM n b∧∃r,gM n b=some (r,())∧(r=0↔zL b):=by
 obtain ⟨nm,id,nx,ms,⟨⟩⟩:=b
 obtain ⟨b1,b2,b3⟩:=hb
 obtain ⟨e1,e2⟩:=name_eq b1 hn
 have hlen:ms.length≤1048576:=b2
 unfold big at hn
 let step:Nat→Option (Option (Int×Unit)):=fun i=>if mf n (ms.getD i dM)=0 then (if (ms.getD i dM).1≤pJ ms i∨(ms.getD i dM).1≥nx then some (some (1,())) else none) else some (some (mf n (ms.getD i dM),()))
 let fin:Option (Int×Unit):=some (0,())
 have hr:∃r:Int,dh step fin ms.length 0=some (r,())∧(r=0↔∀j,0≤j→j<0+ms.length→step j=none):=xQ (fun i=>by
  simp only [step]
  by_cases c0:mf n (ms.getD i dM)=0
  ·rw [if_pos c0]
   by_cases c1:(ms.getD i dM).1≤pJ ms i∨(ms.getD i dM).1≥nx
   ·rw [if_pos c1]; exact .inr ⟨1,by omega,rfl⟩
   ·rw [if_neg c1]; exact .inl rfl
  ·rw [if_neg c0]; exact .inr ⟨_,c0,rfl⟩)
 have h1:∀(B:((Bx×Int×Unit)→Option (Int×Unit))→(Bx×Int×Unit)→Option (Int×Unit)),
   (∀L i,i<ms.length→B L ((nm,id,nx,ms,()),(i:Int),())=(if (!decide (mf n (ms.getD i dM)=0))=true then some (mf n (ms.getD i dM),()) else (if (ms.getD i dM).1≤pJ ms i∨(ms.getD i dM).1≥nx then some (1,()) else L ((nm,id,nx,ms,()),((i+1:Nat):Int),()))))→
   (∀L,B L ((nm,id,nx,ms,()),(ms.length:Int),())=some (0,()))→rounds B n ((nm,id,nx,ms,()),(0:Int),())=dh step fin ms.length 0:=by
  intro B g1 g2
  refine cu (fun i=>((nm,id,nx,ms,()),(i:Int),())) step fin rfl (show ms.length<n by omega) ?_ (fun L _=>g2 L)
  intro L i hi _
  rw [g1 L i hi]
  simp only [step]
  by_cases c0:mf n (ms.getD i dM)=0
  ·rw [if_neg (by rw [c0]; simp),if_pos c0]
   split <;> rfl
  ·rw [if_pos (by simp only [decide_eq_false c0,ab4]),if_neg c0]
 have h2:∀(B:((Int×List qI×Int×Int×Bx×Unit)→Option (Int×Unit))→(Int×List qI×Int×Int×Bx×Unit)→Option (Int×Unit)),
   (∀L i,i<ms.length→B L (pJ ms i,ms,(ms.length:Int),(i:Int),(nm,id,nx,ms,()),())=(if (!decide (mf n (ms.getD i dM)=0))=true then some (mf n (ms.getD i dM),()) else (if (ms.getD i dM).1≤pJ ms i∨(ms.getD i dM).1≥nx then some (1,()) else L (pJ ms (i+1),ms,(ms.length:Int),((i+1:Nat):Int),(nm,id,nx,ms,()),()))))→
   (∀L,B L (pJ ms ms.length,ms,(ms.length:Int),(ms.length:Int),(nm,id,nx,ms,()),())=some (0,()))→rounds B n ((0:Int),ms,(ms.length:Int),(0:Int),(nm,id,nx,ms,()),())=dh step fin ms.length 0:=by
  intro B g1 g2
  refine cu (fun i=>(pJ ms i,ms,(ms.length:Int),(i:Int),(nm,id,nx,ms,()),())) step fin rfl (show ms.length<n by omega) ?_ (fun L _=>g2 L)
  intro L i hi _
  rw [g1 L i hi]
  simp only [step]
  by_cases c0:mf n (ms.getD i dM)=0
  ·rw [if_neg (by rw [c0]; simp),if_pos c0]
   split <;> rfl
  ·rw [if_pos (by simp only [decide_eq_false c0,ab4]),if_neg c0]
 unfold bV gM
 simp only [e1,e2,uG,Et,abt]
 generalize hQ:rounds _ n ((nm,id,nx,ms,()),(0:Int),())=Q
 generalize XM:rounds _ n ((0:Int),ms,(ms.length:Int),(0:Int),(nm,id,nx,ms,()),())=Q1
 have hQ':Q=dh step fin ms.length 0:=by
  refine hQ.symm.trans (h1 _ ?_ ?_)
  ·intro L i hi
   simp only [abS,hi,decide_true,if_true,cO hi,dP hi (by omega),abC,(LQ n _).1,abt]
   by_cases c0:mf n (ms.getD i dM)=0
   ·simp only [c0,decide_true,abT,abv,if_false]
    cases i with
    | zero=>
     have hp:=(LQ n (ms.getD 0 dM)).2 c0
     rw [if_neg (by simp)]
     by_cases c1:(ms.getD 0 dM).1≥nx
     ·rw [if_pos (decide_eq_true c1),if_pos (Or.inr c1)]
     ·rw [if_neg (by rw [decide_eq_true_eq]; exact c1),if_neg (by
       rintro (h | h)
       ·simp only [pJ] at h; omega
       ·exact c1 h)]
    | succ j=>
     have hj:j<ms.length:=by omega
     rw [if_pos (by simp),show pJ ms (j+1)=(ms.getD j dM).1 from rfl]
     simp only [J2 hj (by omega),cO hj,if_true,abC]
     by_cases c1:(ms.getD (j+1) dM).1≤(ms.getD j dM).1
     ·rw [if_pos (decide_eq_true c1),if_pos (Or.inl c1)]
     ·rw [if_neg (by rw [decide_eq_true_eq]; exact c1)]
      by_cases c2:(ms.getD (j+1) dM).1≥nx
      ·rw [if_pos (decide_eq_true c2),if_pos (Or.inr c2)]
      ·rw [if_neg (by rw [decide_eq_true_eq]; exact c2),if_neg (by
        rintro (h | h)
        ·exact c1 h
        ·exact c2 h)]
   ·simp only [decide_eq_false c0,ab4,if_true]
  ·intro L
   simp only [Int.lt_irrefl,decide_false,abv,if_false]
 have Qe:Q1=dh step fin ms.length 0:=by
  refine XM.symm.trans (h2 _ ?_ ?_)
  ·intro L i hi
   simp only [abS,hi,decide_true,if_true,cO hi,dP hi (by omega),abC,(message_eq _).1, ←QW n,(LQ n _).1,abt]
   by_cases c0:mf n (ms.getD i dM)=0
   ·simp only [c0,decide_true,abT,abv,if_false]
    by_cases c1:(ms.getD i dM).1≤pJ ms i
    ·rw [if_pos (decide_eq_true c1),if_pos (Or.inl c1)]
    ·rw [if_neg (by rw [decide_eq_true_eq]; exact c1)]
     by_cases c2:(ms.getD i dM).1≥nx
     ·rw [if_pos (decide_eq_true c2),if_pos (Or.inr c2)]
     ·rw [if_neg (by rw [decide_eq_true_eq]; exact c2),if_neg (by
       rintro (h | h)
       ·exact c1 h
       ·exact c2 h)]
      rfl
   ·simp only [decide_eq_false c0,ab4,if_true]
  ·intro L
   simp only [Int.lt_irrefl,decide_false,abv,if_false]
 rw [hQ',Qe]
 obtain ⟨r,hr,hiff⟩:=hr
 rw [hr]
 refine ⟨rfl, ?_⟩
 have hstep:(∀j,0≤j→j<0+ms.length→step j=none)↔∀i,i<ms.length→Ef (ms.getD i dM)∧pJ ms i<(ms.getD i dM).1∧(ms.getD i dM).1<nx:=by
  have one:∀i,step i=none↔Ef (ms.getD i dM)∧pJ ms i<(ms.getD i dM).1∧(ms.getD i dM).1<nx:=fun i=>by
   simp only [step]
   by_cases c0:mf n (ms.getD i dM)=0
   ·rw [if_pos c0]
    have g:=(vv (ms.getD i dM)).1 c0
    by_cases c1:(ms.getD i dM).1≤pJ ms i∨(ms.getD i dM).1≥nx
    ·rw [if_pos c1]
     constructor
     ·intro h; simp at h
     ·rintro ⟨_,h1,h2⟩; omega
    ·rw [if_neg c1]
     exact ⟨fun _=>⟨g,by omega,by omega⟩,fun _=>rfl⟩
   ·rw [if_neg c0]
    constructor
    ·intro h; simp at h
    ·rintro ⟨h,_⟩; exact absurd ((vv _).2 h) c0
  exact ⟨fun h i hi=>(one i).1 (h i (ab0 _) (by omega)),fun h i _ hi=>(one i).2 (h i (by omega))⟩
 rw [hstep] at hiff
 unfold zL
 by_cases d1:wu nm
 ·by_cases d2:1≤id∧id≤999
  ·by_cases d3:1≤nx∧nx≤1000
   ·by_cases d4:(ms.length:Int)>6
    ·exact ⟨2,by simp [d1,d2,d3,d4],⟨fun h=>by omega,by rintro ⟨_,_,_,h,_⟩; exact absurd h (by show ¬ms.length≤6; omega)⟩⟩
    ·exact ⟨r,by simp [d1,d2,d3,d4],by rw [hiff]; exact ⟨fun h=>⟨d1,d2,d3,by show ms.length≤6; omega,h⟩,fun h=>h.2.2.2.2⟩⟩
   ·exact ⟨3,by simp [d1,d2,d3],⟨fun h=>by omega,by rintro ⟨_,_,h,_⟩; exact absurd h d3⟩⟩
  ·exact ⟨3,by simp [d1,d2],⟨fun h=>by omega,by rintro ⟨_,h,_⟩; exact absurd h d2⟩⟩
 ·exact ⟨5,by simp [d1],⟨fun h=>by omega,by rintro ⟨h,_⟩; exact absurd h d1⟩⟩
theorem Ga {p:Nat→Prop} [DecidablePred p]:∀{m i:Nat},∃q:Int,dh (fun j=>if p j then some (some ((j:Int),())) else none) (some ((-1:Int),())) m i=some (q,())∧(0≤q↔∃j,i≤j∧j<i+m∧p j):=by
 intro m
 induction m with
 | zero=>intro i; exact ⟨-1,rfl,⟨fun h=>by omega,by rintro ⟨j,h1,h2,_⟩; omega⟩⟩
 | succ m ih=>
  intro i
  unfold dh
  by_cases h:p i
  ·simp only [h,if_true]
   exact ⟨i,rfl,fun _=>⟨i,abI _,by omega,h⟩,fun _=>by omega⟩
  ·simp only [h,if_false]
   obtain ⟨q,h1,h2⟩:=ih (i:=i+1)
   refine ⟨q,h1,h2.trans ⟨fun ⟨j,g1,g2,g3⟩=>⟨j,by omega,by omega,g3⟩,fun ⟨j,g1,g2,g3⟩=>⟨j, ?_,by omega,g3⟩⟩⟩
   have:j≠i:=fun e=>h (e▸g3)
   omega
theorem Lv {A C:Type} {f:A→C→Option (Bool×Unit)} {p:A→C→Prop} [∀x y,Decidable (p x y)] {d:A} {xs:List A} {y:C} {n:Nat} {B:(List A×C×Int×Int×Unit→Option (Int×Unit))→List A×C×Int×Int×Unit→Option (Int×Unit)}
  (hB:∀L v,B L v=(if decide (v.2.2.2.1<v.2.2.1)=true then (if aN v.2.2.2.1 v.1.length then ((f (v.1.getD v.2.2.2.1.toNat d) v.2.1).bind fun r2=>(if r2.1=true then some (v.2.2.2.1,()) else L (v.1,v.2.1,v.2.2.1,IntKind.i64.wrap (v.2.2.2.1+(1:Int)),()))) else none) else some ((-1:Int),())))
  (hf:∀x y,f x y=some (decide (p x y),())) (hb:xs.length≤big) (hn:big<n) :
  rounds B n (xs,y,(xs.length:Int),(0:Int),())=dh (fun j=>if p (xs.getD j d) y then some (some ((j:Int),())) else none) (some ((-1:Int),())) xs.length 0:=by
 unfold big at hb hn
 refine cu (fun i=>(xs,y,(xs.length:Int),(i:Int),())) _ _ rfl (by omega) ?_ ?_
 ·intro L i hi _
  simp only [hB,abS,hi,decide_true,if_true,cO hi,abC,hf,abt,dP hi (by omega)]
  by_cases h:p (xs.getD i d) y
  ·rw [if_pos (decide_eq_true h),if_pos h]
  ·rw [if_neg (by rw [decide_eq_true_eq]; exact h),if_neg h]
 ·intro L _
  simp only [hB,Int.lt_irrefl,decide_false,abv,if_false]
def dup (bs:List Bx) (i j:Nat):Prop:=(bs.getD j dB).1=(bs.getD i dB).1∨(bs.getD j dB).2.1=(bs.getD i dB).2.1
instance (bs:List Bx) (i j:Nat):Decidable (dup bs i j):=by unfold dup; infer_instance
theorem contains_eq {n:Nat} {bs:List Bx} {i:Nat} (hi:i<bs.length) (hb:bs.length≤big) (hn:big<n):∃t:Bool,aX n (bs.take i) (bs.getD i dB)=some (t,())∧(t=true↔∃j,0≤j∧j<0+i∧dup bs i j):=by
 have hl:(bs.take i).length=i:=by simp; omega
 have h2:aR n (bs.take i) (bs.getD i dB)=dh (fun j=>if (fun (x y:Bx)=>x.1=y.1∨x.2.1=y.2.1) ((bs.take i).getD j dB) (bs.getD i dB) then some (some ((j:Int),())) else none) (some ((-1:Int),())) (bs.take i).length 0:=by
  unfold aR
  refine Lv (f:=iX n) (p:=fun (x y:Bx)=>x.1=y.1∨x.2.1=y.2.1) (d:=dB) (fun L v=>rfl) (fun x y=>?_) (by rw [hl]; omega) hn
  unfold iX
  by_cases h1:x.1=y.1
  ·simp [h1]
  ·simp [h1]
 rw [hl] at h2
 have h3:aR n (bs.take i) (bs.getD i dB)=dh (fun j=>if dup bs i j then some (some ((j:Int),())) else none) (some ((-1:Int),())) i 0:=by
  rw [h2]
  refine CG rfl fun j _ hj=>?_
  have e:(bs.take i).getD j dB=bs.getD j dB:=by
   simp only [abF,List.getElem?_take,show j<i by omega,if_true]
  show (if (_∨_) then _ else _)=_
  rw [e]
  rfl
 obtain ⟨q,hq,hiff⟩:=Ga (p:=dup bs i) (m:=i) (i:=0)
 refine ⟨decide (q≥0), ?_, ?_⟩
 ·unfold aX
  rw [h3,hq]
  rfl
 ·rw [decide_eq_true_eq]
  exact hiff
def bf (n:Nat) (b:Bx):Int:=((gM n b).getD (0,())).1
theorem Bw {n:Nat} {b:Bx} (hb:okB b) (hn:big<n):gM n b=some (bf n b,())∧bV n b=some (bf n b,())∧(bf n b=0↔zL b):=by
 obtain ⟨h0,r,h1,h2⟩:=P8 hb hn
 have:bf n b=r:=by unfold bf; rw [h1]; rfl
 rw [h0,this]
 exact ⟨h1,h1,h2⟩
def OT (s:qM):Prop:=(1≤s.1∧s.1≤1000)∧s.2.1.length≤3∧∀i,i<s.2.1.length→zL (s.2.1.getD i dB)∧(s.2.1.getD i dB).2.1<s.1∧∀j,j<i→¬dup s.2.1 i j
theorem KR {n:Nat} {s:qM} (hs:Pm s) (hn:big<n):iP n s=j6 n s∧∃r,j6 n s=some (r,())∧(r=0↔OT s):=by
 obtain ⟨nx,bs,⟨⟩⟩:=s
 obtain ⟨s1,s2⟩:=hs
 have hlen:bs.length≤1048576:=s1
 have hn':1048576<n:=hn
 classical
 let step:Nat→Option (Option (Int×Unit)):=fun i=>if bf n (bs.getD i dB)=0 then (if (bs.getD i dB).2.1≥nx then some (some (9,())) else if ∃j,0≤j∧j<0+i∧dup bs i j then some (some (6,())) else none) else some (some (bf n (bs.getD i dB),()))
 let fin:Option (Int×Unit):=some (0,())
 have hr:∃r:Int,dh step fin bs.length 0=some (r,())∧(r=0↔∀j,0≤j→j<0+bs.length→step j=none):=xQ (fun i=>by
  simp only [step]
  by_cases c0:bf n (bs.getD i dB)=0
  ·rw [if_pos c0]
   by_cases c1:(bs.getD i dB).2.1≥nx
   ·rw [if_pos c1]; exact .inr ⟨9,by omega,rfl⟩
   ·rw [if_neg c1]
    by_cases c2:∃j,0≤j∧j<0+i∧dup bs i j
    ·rw [if_pos c2]; exact .inr ⟨6,by omega,rfl⟩
    ·rw [if_neg c2]; exact .inl rfl
  ·rw [if_neg c0]; exact .inr ⟨_,c0,rfl⟩)
 have hok:∀i,i<bs.length→okB (bs.getD i dB):=fun i hi=>by
  have:bs.getD i dB=bs[i]:=by simp [hi]
  rw [this]
  exact s2 _ (abU hi)
 unfold iP j6
 simp only [uG,Et,abt]
 generalize hQ:rounds _ n ((nx,bs,()),(0:Int),())=Q
 generalize XM:rounds _ n (bs,(bs.length:Int),(0:Int),(nx,bs,()),())=Q1
 have hQ':Q=dh step fin bs.length 0:=by
  refine hQ.symm.trans (cu (fun i=>((nx,bs,()),(i:Int),())) step fin rfl (by omega) ?_ ?_)
  ·intro L i hi _
   simp only [abS,hi,decide_true,if_true,cO hi,abC,(Bw (hok i hi) hn).1,abt,step]
   by_cases c0:bf n (bs.getD i dB)=0
   ·simp only [c0,decide_true,abT,abv,if_false,if_true]
    by_cases c1:(bs.getD i dB).2.1≥nx
    ·rw [if_pos (decide_eq_true c1),if_pos c1]
    ·rw [if_neg (by rw [decide_eq_true_eq]; exact c1),if_neg c1]
     refine (cu (fun j=>((nx,bs,()),(i:Int),(j:Int),())) (fun j=>if dup bs i j then some (some (6,())) else none) (L ((nx,bs,()),((i+1:Nat):Int),())) (m:=i) rfl (by omega) ?_ ?_).trans ?_
     ·intro L4 j hj _
      have hj':j<bs.length:=by omega
      simp only [abS,hj,decide_true,if_true,cO hj',cO hi,abC,dP hj (by omega)]
      by_cases d1:(bs.getD j dB).1=(bs.getD i dB).1
      ·rw [if_pos (decide_eq_true d1),if_pos (show dup bs i j from .inl d1)]
      ·rw [if_neg (by rw [decide_eq_true_eq]; exact d1)]
       by_cases d2:(bs.getD j dB).2.1=(bs.getD i dB).2.1
       ·rw [if_pos (decide_eq_true d2),if_pos (show dup bs i j from .inr d2)]
       ·rw [if_neg (by rw [decide_eq_true_eq]; exact d2),if_neg (by rintro (h | h); exact d1 h; exact d2 h)]
     ·intro L4 _
      simp only [Int.lt_irrefl,decide_false,abv,if_false,dP hi (by omega)]
     ·by_cases hd:∃j,0≤j∧j<0+i∧dup bs i j
      ·rw [if_pos hd]; exact uz.1 hd
      ·rw [if_neg hd]; exact uz.2 hd
   ·simp only [decide_eq_false c0,ab4,if_true,if_neg c0]
  ·intro L _
   simp only [Int.lt_irrefl,decide_false,abv,if_false,fin]
 have Qe:Q1=dh step fin bs.length 0:=by
  refine XM.symm.trans (cu (fun i=>(bs,(bs.length:Int),(i:Int),(nx,bs,()),())) step fin rfl (by omega) ?_ ?_)
  ·intro L i hi _
   obtain ⟨t,t1,t2⟩:=contains_eq hi s1 hn
   simp only [abS,hi,decide_true,if_true,cO hi,abC,(Bw (hok i hi) hn).2.1,abt,step]
   by_cases c0:bf n (bs.getD i dB)=0
   ·simp only [c0,decide_true,abT,abv,if_false,if_true]
    by_cases c1:(bs.getD i dB).2.1≥nx
    ·rw [if_pos (decide_eq_true c1),if_pos c1]
    ·rw [if_neg (by rw [decide_eq_true_eq]; exact c1),if_neg c1,if_pos ⟨by omega,by omega⟩,t1]
     simp only [abt,dP hi (by omega)]
     by_cases hd:∃j,0≤j∧j<0+i∧dup bs i j
     ·rw [if_pos (t2.2 hd),if_pos hd]
     ·rw [if_neg (fun h=>hd (t2.1 h)),if_neg hd]
   ·simp only [decide_eq_false c0,ab4,if_true,if_neg c0]
  ·intro L _
   simp only [Int.lt_irrefl,decide_false,abv,if_false,fin]
 rw [hQ',Qe]
 obtain ⟨r,hr,hiff⟩:=hr
 rw [hr]
 refine ⟨rfl, ?_⟩
 have hstep:(∀j,0≤j→j<0+bs.length→step j=none)↔∀i,i<bs.length→zL (bs.getD i dB)∧(bs.getD i dB).2.1<nx∧∀j,j<i→¬dup bs i j:=by
  have one:∀i,i<bs.length→(step i=none↔zL (bs.getD i dB)∧(bs.getD i dB).2.1<nx∧∀j,j<i→¬dup bs i j):=fun i hi=>by
   simp only [step]
   have hg:=(Bw (hok i hi) hn).2.2
   by_cases c0:bf n (bs.getD i dB)=0
   ·rw [if_pos c0]
    by_cases c1:(bs.getD i dB).2.1≥nx
    ·rw [if_pos c1]
     constructor
     ·intro h; simp at h
     ·rintro ⟨_,h1,_⟩; omega
    ·rw [if_neg c1]
     by_cases c2:∃j,0≤j∧j<0+i∧dup bs i j
     ·rw [if_pos c2]
      constructor
      ·intro h; simp at h
      ·rintro ⟨_,_,h⟩
       obtain ⟨j,_,hj,hd⟩:=c2
       exact absurd hd (h j (by omega))
     ·rw [if_neg c2]
      exact ⟨fun _=>⟨hg.1 c0,by omega,fun j hj hd=>c2 ⟨j,ab0 _,by omega,hd⟩⟩,fun _=>rfl⟩
   ·rw [if_neg c0]
    constructor
    ·intro h; simp at h
    ·rintro ⟨h,_⟩; exact absurd (hg.2 h) c0
  exact ⟨fun h i hi=>(one i hi).1 (h i (ab0 _) (by omega)),fun h i _ hi=>(one i (by omega)).2 (h i (by omega))⟩
 rw [hstep] at hiff
 unfold OT
 by_cases d1:1≤nx∧nx≤1000
 ·by_cases d2:(bs.length:Int)>3
  ·exact ⟨2,by simp [d1,d2],⟨fun h=>by omega,by rintro ⟨_,h,_⟩; exact absurd h (by show ¬bs.length≤3; omega)⟩⟩
  ·exact ⟨r,by simp [d1,d2],by rw [hiff]; exact ⟨fun h=>⟨d1,by show bs.length≤3; omega,h⟩,fun h=>h.2.2⟩⟩
 ·exact ⟨3,by simp [d1],⟨fun h=>by omega,by rintro ⟨h,_⟩; exact absurd h d1⟩⟩
end Go.Proofs.Ytabnmpabdhmkoaa.oF
