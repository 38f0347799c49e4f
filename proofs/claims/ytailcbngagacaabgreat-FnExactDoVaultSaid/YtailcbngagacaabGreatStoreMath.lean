/- Stores: copies, equalities, sizes, faults, as the printed functions make them. -/
import Derived.Test.YtailcbngagacaabGreatOwF
import Derived.Test.YtailcbngagacaabGreatLoopLib
import Derived.Test.YtailcbngagacaabGreatDoF
set_option linter.unusedSectionVars false
set_option linter.unusedVariables false
set_option linter.unusedSimpArgs false
namespace Go.Proofs.YtailcbngagacaabGreat.gp
open Go Go.Proofs.YtailcbngagacaabGreat.Ow Go.Proofs.YtailcbngagacaabGreat.Nr Go.Proofs.YtailcbngagacaabGreat.jO
abbrev mH:=Int×Int×Int×(List Int)×Unit
abbrev Bx:=(List Int)×Int×Int×(List mH)×Unit
abbrev lK:=Int×(List Bx)×Unit
def Ii (m:mH):Prop:=m.2.2.2.1.length≤big
def okB (b:Bx):Prop:=b.1.length≤big∧b.2.2.2.1.length≤big∧∀m∈b.2.2.2.1,Ii m
def zQ (s:lK):Prop:=s.2.1.length≤big∧∀b∈s.2.1,okB b
theorem IV {n:Nat} {bs:List Int} (hb:bs.length≤big) (hn:big<n):jF n bs=some (bs,()):=by
 have hb':=hb
 unfold big at hb
 unfold jF
 rw [if_pos (by omega)]
 exact BN (f:=fun x=>some (x,())) (d:=(0:Int)) (fun L v=>rfl) (fun _ _=>rfl) hb' hn
theorem toMessage {n:Nat} {m:mH} (h:Ii m) (hn:big<n):lH n m=some (m,()):=by
 unfold lH
 rw [IV h hn]
 rfl
theorem Tp {n:Nat} {ms:List mH} (hb:ms.length≤big) (h:∀m∈ms,Ii m) (hn:big<n):nN n ms=some (ms,()):=by
 have hb':=hb
 unfold big at hb
 unfold nN
 rw [if_pos (by omega)]
 exact BN (f:=lH n) (fun L v=>rfl) (fun m hm=>toMessage (h m hm) hn) hb' hn
theorem ahg {n:Nat} {b:Bx} (h:okB b) (hn:big<n):ry n b=some (b,()):=by
 unfold ry
 rw [Tp h.2.1 h.2.2 hn]
 rfl
theorem adS {n:Nat} {bs:List Bx} (hb:bs.length≤big) (h:∀b∈bs,okB b) (hn:big<n):tX n bs=some (bs,()):=by
 have hb':=hb
 unfold big at hb
 unfold tX
 rw [if_pos (by omega)]
 exact BN (f:=ry n) (fun L v=>rfl) (fun m hm=>ahg (h m hm) hn) hb' hn
theorem aaS {n:Nat} {s:lK} (h:zQ s) (hn:big<n):rz n s=some (s,()):=by
 unfold rz
 rw [adS h.1 h.2 hn]
 rfl
theorem BO {n:Nat} {bs:List Int} (hb:bs.length≤big) (hn:big<n):jD n bs bs=some (true,()):=by
 unfold jD
 rw [if_neg (by simp)]
 refine Ef (f:=fun x y=>some (decide (x=y),())) (d:=(0:Int)) (fun L v=>rfl) (fun _ _=>by simp) hb hn
theorem Vj {n:Nat} {m:mH} (h:Ii m) (hn:big<n):lq n m m=some (true,()):=by
 unfold lq
 simp [BO h hn]
theorem Sa {n:Nat} {ms:List mH} (hb:ms.length≤big) (h:∀m∈ms,Ii m) (hn:big<n):nL n ms ms=some (true,()):=by
 unfold nL
 rw [if_neg (by simp)]
 exact Ef (f:=lq n) (fun L v=>rfl) (fun m hm=>Vj (h m hm) hn) hb hn
theorem afU {n:Nat} {b:Bx} (h:okB b) (hn:big<n):q8 n b b=some (true,()):=by
 unfold q8
 simp [Sa h.2.1 h.2.2 hn]
theorem acQ {n:Nat} {bs:List Bx} (hb:bs.length≤big) (h:∀b∈bs,okB b) (hn:big<n):tQ n bs bs=some (true,()):=by
 unfold tQ
 rw [if_neg (by simp)]
 exact Ef (f:=q8 n) (fun L v=>rfl) (fun m hm=>afU (h m hm) hn) hb hn
theorem TQ {n:Nat} {s:lK} (h:zQ s) (hn:big<n):q9 n s s=some (true,()):=by
 unfold q9
 simp [acQ h.1 h.2 hn]
def lM (m:mH):Prop:=m.2.2.2.1.length≤9223372036854775807
def lB (b:Bx):Prop:=b.1.length≤9223372036854775807∧b.2.2.2.1.length≤9223372036854775807∧∀m∈b.2.2.2.1,lM m
def lS (s:lK):Prop:=s.2.1.length≤9223372036854775807∧∀b∈s.2.1,lB b
theorem EZ {n:Nat} {bs:List Int} (hl:bs.length≤9223372036854775807) {k:Int} (h1:0≤k) (h2:k≤1048576):∃r,jE n bs k=some (r,())∧(r<0∨(r≤k∧bs.length≤big)):=by
 unfold jE big
 rw [wrap_i64 (by omega) (by omega)]
 by_cases h:k - (bs.length:Int)<0
 ·exact ⟨-1,by simp [h], .inl (by omega)⟩
 ·exact ⟨k - bs.length,by simp [h], .inr ⟨by omega,by omega⟩⟩
theorem Wo {n:Nat} {m:mH} (hl:lM m) {k:Int} (h1:0≤k) (h2:k≤1048576):∃r,lG n m k=some (r,())∧(r<0∨(r≤k∧Ii m)):=by
 unfold lG
 obtain ⟨r,g1,g2⟩:=EZ (n:=n) hl h1 h2
 rw [g1]
 simp only [anY]
 by_cases hr:r<0
 ·exact ⟨-1,by simp [hr], .inl (by omega)⟩
 ·exact ⟨r,by simp [hr],g2⟩
theorem Ti {n:Nat} {ms:List mH} (hl:ms.length≤9223372036854775807) (hm:∀m∈ms,lM m) {k:Int} (h1:0≤k) (h2:k≤1048576) (hn:big<n) :
  ∃r,nM n ms k=some (r,())∧(r<0∨(r≤k∧ms.length≤big∧∀m∈ms,Ii m)):=by
 unfold nM
 rw [wrap_i64 (by omega) (by omega)]
 by_cases h:k - (ms.length:Int)<0
 ·exact ⟨-1,by simp [h], .inl (by omega)⟩
 ·have hb:ms.length≤big:=by unfold big; omega
  obtain ⟨r,g1,g2⟩:=Uy (f:=lG n) (ok:=Ii) (d:=((0:Int),(0:Int),(0:Int),([]:List Int),())) (xs:=ms) (fun L v=>rfl) (fun x hx k h1 h2=>Wo (hm x hx) h1 h2) hb ms.length 0 n (k - ms.length) (by omega) (by unfold big at hb hn; omega) (by omega) (by omega)
  refine ⟨r,by simp only [h,decide_false,an0,if_false]; exact g1,g2.imp id fun g=>⟨by omega,hb,fun m hm=>?_⟩⟩
  obtain ⟨i,hi,rfl⟩:=List.mem_iff_getElem.1 hm
  exact g.2 i hi (aov _)
theorem ahe {n:Nat} {b:Bx} (hl:lB b) {k:Int} (h1:0≤k) (h2:k≤1048576) (hn:big<n):∃r,rq n b k=some (r,())∧(r<0∨(r≤k∧okB b)):=by
 unfold rq
 obtain ⟨l1,l2,l3⟩:=hl
 rw [wrap_i64 (by omega) (by omega)]
 by_cases h:k - (b.1.length:Int)<0
 ·exact ⟨-1,by simp [h], .inl (by omega)⟩
 ·obtain ⟨r,g1,g2⟩:=Ti (n:=n) l2 l3 (k:=k - (b.1.length:Int)) (by omega) (by omega) hn
  simp only [h,decide_false,an0,if_false,g1,anY]
  by_cases hr:r<0
  ·exact ⟨-1,by simp [hr], .inl (by omega)⟩
  ·exact ⟨r,by simp [hr], .inr ⟨by have:=(g2.resolve_left hr).1; omega,by unfold big; omega,(g2.resolve_left hr).2⟩⟩
theorem adR {n:Nat} {bs:List Bx} (hl:bs.length≤9223372036854775807) (hm:∀b∈bs,lB b) {k:Int} (h1:0≤k) (h2:k≤1048576) (hn:big<n) :
  ∃r,tV n bs k=some (r,())∧(r<0∨(r≤k∧bs.length≤big∧∀m∈bs,okB m)):=by
 unfold tV
 rw [wrap_i64 (by omega) (by omega)]
 by_cases h:k - (bs.length:Int)<0
 ·exact ⟨-1,by simp [h], .inl (by omega)⟩
 ·have hb:bs.length≤big:=by unfold big; omega
  obtain ⟨r,g1,g2⟩:=Uy (f:=rq n) (ok:=okB) (d:=(([]:List Int),(0:Int),(0:Int),([]:List mH),())) (xs:=bs) (fun L v=>rfl) (fun x hx k h1 h2=>ahe (hm x hx) h1 h2 hn) hb bs.length 0 n (k - bs.length) (by omega) (by unfold big at hb hn; omega) (by omega) (by omega)
  refine ⟨r,by simp only [h,decide_false,an0,if_false]; exact g1,g2.imp id fun g=>⟨by omega,hb,fun m hm=>?_⟩⟩
  obtain ⟨i,hi,rfl⟩:=List.mem_iff_getElem.1 hm
  exact g.2 i hi (aov _)
theorem tL {n:Nat} (a b c:Int):fG n a b c=bS n a b c:=rfl
theorem Ih {n:Nat} (a b c:Int):bS n a b c=some (decide (b≤a∧a≤c),()):=by
 unfold bS
 by_cases h1:b≤a
 ·by_cases h2:a≤c <;> simp [h1,h2]
 ·simp [h1]
def qK (s:List Int):Prop:=(1≤s.length∧s.length≤8)∧∀c∈s,97≤c∧c≤122
instance (s:List Int):Decidable (qK s):=by unfold qK; infer_instance
theorem BQ {R:Type} {p:Nat→Prop} [DecidablePred p] {r fin:R}:∀{m i:Nat},((∃j,i≤j∧j<i+m∧p j)→dm (fun j=>if p j then some r else none) fin m i=r)∧((¬∃j,i≤j∧j<i+m∧p j)→dm (fun j=>if p j then some r else none) fin m i=fin):=by
 intro m
 induction m with
 | zero=>intro i; exact ⟨fun ⟨j,h1,h2,_⟩=>by omega,fun _=>rfl⟩
 | succ m ih=>
  intro i
  unfold dm
  by_cases h:p i
  ·simp only [h,if_true]
   exact ⟨fun _=>by first | trivial | rfl,fun hn=>absurd ⟨i,aod _,by omega,h⟩ hn⟩
  ·simp only [h,if_false]
   refine ⟨fun ⟨j,h1,h2,h3⟩=>ih.1 ⟨j, ?_,by omega,h3⟩,fun hn=>ih.2 fun ⟨j,h1,h2,h3⟩=>hn ⟨j,by omega,by omega,h3⟩⟩
   have:j≠i:=fun e=>h (e▸h3)
   omega
theorem GR {step:Nat→Option (Option (Int×Unit))} (h:∀i,step i=none∨∃r:Int,r≠0∧step i=some (some (r,()))):∀{m i:Nat},∃r:Int,dm step (some ((0:Int),())) m i=some (r,())∧(r=0↔∀j,i≤j→j<i+m→step j=none):=by
 intro m
 induction m with
 | zero=>intro i; exact ⟨0,rfl,fun _ j h1 h2=>by omega,fun _=>rfl⟩
 | succ m ih=>
  intro i
  unfold dm
  rcases h i with h0 | ⟨r,hr,h0⟩
  ·rw [h0]
   obtain ⟨r,h1,h2⟩:=ih (i:=i+1)
   refine ⟨r,h1,h2.trans ⟨fun g j g1 g2=>?_,fun g j g1 g2=>g j (by omega) (by omega)⟩⟩
   by_cases e:j=i
   ·subst e; exact h0
   ·exact g j (by omega) (by omega)
  ·rw [h0]
   refine ⟨r,rfl,fun e=>absurd e hr,fun g=>?_⟩
   have:=g i (aod _) (by omega)
   rw [h0] at this
   simp at this
theorem name_eq {n:Nat} {s:List Int} (hs:s.length≤big) (hn:big<n):nD n s=some (decide (qK s),())∧kF n s=some (decide (qK s),()):=by
 unfold big at hs hn
 let p:Nat→Prop:=fun i=>s.getD i 0<97∨s.getD i 0>122
 let step:Nat→Option (Option (Bool×Unit)):=fun i=>if s.getD i 0<97∨s.getD i 0>122 then some (some (false,())) else none
 let fin:Option (Bool×Unit):=some (decide (1≤(s.length:Int)∧(s.length:Int)≤8),())
 have h1:kF n s=dm step fin s.length 0:=by
  unfold kF
  refine aQ (fun i=>(s,(i:Int),())) step fin rfl (by omega) ?_ ?_
  ·intro L i hi _
   simp only [aon,hi,decide_true,if_true,aH hi,aR hi (by omega),an7,step]
   by_cases c1:s.getD i 0<97
   ·rw [if_pos (decide_eq_true c1),if_pos (Or.inl c1)]
   ·rw [if_neg (by rw [decide_eq_true_eq]; exact c1)]
    by_cases c2:s.getD i 0>122
    ·rw [if_pos (decide_eq_true c2),if_pos (Or.inr c2)]
    ·rw [if_neg (by rw [decide_eq_true_eq]; exact c2),if_neg (by rintro (h | h); exact c1 h; exact c2 h)]
  ·intro L _
   simp only [Int.lt_irrefl,decide_false,an0,if_false,Ih,anY,fin]
 have h2:mq n s 8=dm step fin s.length 0:=by
  unfold mq
  refine aQ (fun i=>(s,(8:Int),(s.length:Int),(i:Int),())) step fin rfl (by omega) ?_ ?_
  ·intro L i hi _
   simp only [aon,hi,decide_true,if_true,aH hi,aR hi (by omega),an7,step]
   by_cases c1:s.getD i 0<97
   ·rw [if_pos (decide_eq_true c1),if_pos (Or.inl c1)]
   ·rw [if_neg (by rw [decide_eq_true_eq]; exact c1)]
    by_cases c2:s.getD i 0>122
    ·rw [if_pos (decide_eq_true c2),if_pos (Or.inr c2)]
    ·rw [if_neg (by rw [decide_eq_true_eq]; exact c2),if_neg (by rintro (h | h); exact c1 h; exact c2 h)]
  ·intro L _
   simp only [Int.lt_irrefl,decide_false,an0,if_false,fin]
   by_cases c1:(1:Int)≤(s.length:Int)
   ·by_cases c2:(s.length:Int)≤8 <;> simp [c1,c2]
   ·simp [c1]
 have h3:dm step fin s.length 0=some (decide (qK s),()):=by
  by_cases hx:∃j,0≤j∧j<0+s.length∧p j
  ·refine (BQ (p:=p) (r:=some (false,())) (fin:=fin)).1 hx |>.trans ?_
   obtain ⟨j,_,hj,hp⟩:=hx
   have:¬qK s:=fun g=>by
    have hj':j<s.length:=by omega
    have hm:=g.2 s[j] (aop hj')
    have e:s.getD j 0=s[j]:=by simp [hj']
    have hp':s.getD j 0<97∨s.getD j 0>122:=hp
    rw [e] at hp'
    omega
   rw [decide_eq_false this]
  ·refine (BQ (p:=p) (r:=some (false,())) (fin:=fin)).2 hx |>.trans ?_
   show some (decide _,())=_
   congr 2
   rw [decide_eq_decide]
   unfold qK
   constructor
   ·rintro ⟨a,b⟩
    refine ⟨⟨by omega,by omega⟩,fun c hc=>?_⟩
    obtain ⟨j,hj,rfl⟩:=List.getElem_of_mem hc
    have e:s.getD j 0=s[j]:=by simp [hj]
    have:¬p j:=fun hp=>hx ⟨j,aov _,by omega,hp⟩
    have:¬(s.getD j 0<97∨s.getD j 0>122):=this
    rw [e] at this
    omega
   ·rintro ⟨⟨a,b⟩,_⟩
    omega
 refine ⟨?_,by rw [h1,h3]⟩
 unfold nD
 rw [h2,h3]
 rfl
def KE (m:mH):Int:=if (1≤m.1∧m.1≤999)∧(0≤m.2.1∧m.2.1≤15)∧(0≤m.2.2.1∧m.2.2.1≤9999) then (if m.2.2.2.1.length≤400 then 0 else 2) else 3
def J9 (m:mH):Prop:=(1≤m.1∧m.1≤999)∧(0≤m.2.1∧m.2.1≤15)∧(0≤m.2.2.1∧m.2.2.1≤9999)∧m.2.2.2.1.length≤400
theorem De (m:mH):KE m=0↔J9 m:=by
 unfold KE J9
 constructor
 ·intro h
  split at h
  ·rename_i g
   split at h
   ·rename_i g2; exact ⟨g.1,g.2.1,g.2.2,g2⟩
   ·omega
  ·omega
 ·rintro ⟨a,b,c,d⟩
  rw [if_pos ⟨a,b,c⟩,if_pos d]
theorem message_eq {n:Nat} (m:mH):iU n m=some (KE m,())∧gX n m=some (KE m,()):=by
 have h1:iU n m=gX n m:=by
  unfold iU gX o7 fI ig
  simp only [tL,Ih,anY]
 rw [h1]
 refine (and_self_iff).2 ?_
 unfold gX KE
 simp only [Ih,anY]
 by_cases c1:1≤m.1∧m.1≤999
 ·by_cases c2:0≤m.2.1∧m.2.1≤15
  ·by_cases c3:0≤m.2.2.1∧m.2.2.1≤9999
   ·by_cases c4:(m.2.2.2.1.length:Int)>400
    ·have c5:¬m.2.2.2.1.length≤400:=by omega
     simp [c1,c2,c3,c4,c5]
    ·have c5:m.2.2.2.1.length≤400:=by omega
     simp [c1,c2,c3,c4,c5]
   ·simp [c1,c2,c3]
  ·simp [c1,c2]
 ·simp [c1]
abbrev dM:mH:=((0:Int),(0:Int),(0:Int),([]:List Int),())
abbrev dB:Bx:=(([]:List Int),(0:Int),(0:Int),([]:List mH),())
def mf (_:Nat) (m:mH):Int:=KE m
theorem YH (n:Nat) (m:mH):gX n m=some (mf n m,())∧(mf n m=0→1≤m.1):=⟨(message_eq m).2,fun h=>((De m).1 h).1.1⟩
theorem adI (n:Nat) (m:mH):mf n m=KE m:=rfl
def uF (ms:List mH):Nat→Int
 | 0=>0
 | i+1=>(ms.getD i dM).1
theorem Gw {j n:Nat} (h:j<n) (hn:n≤9223372036854775807):IntKind.i64.wrap (((j+1:Nat):Int) - 1)=(j:Int):=by
 rw [wrap_i64 (by omega) (by omega)]
 omega
def J8 (b:Bx):Prop:=qK b.1∧(1≤b.2.1∧b.2.1≤999)∧(1≤b.2.2.1∧b.2.2.1≤1000)∧b.2.2.2.1.length≤6∧∀i,i<b.2.2.2.1.length→J9 (b.2.2.2.1.getD i dM)∧uF b.2.2.2.1 i<(b.2.2.2.1.getD i dM).1∧(b.2.2.2.1.getD i dM).1<b.2.2.1
theorem acM {n:Nat} {b:Bx} (hb:okB b) (hn:big<n):mW n b=mD n b∧∃r,mD n b=some (r,())∧(r=0↔J8 b):=by
 obtain ⟨nm,id,nx,ms,⟨⟩⟩:=b
 obtain ⟨b1,b2,b3⟩:=hb
 obtain ⟨e1,e2⟩:=name_eq b1 hn
 have hlen:ms.length≤1048576:=b2
 unfold big at hn
 let step:Nat→Option (Option (Int×Unit)):=fun i=>if mf n (ms.getD i dM)=0 then (if (ms.getD i dM).1≤uF ms i∨(ms.getD i dM).1≥nx then some (some (1,())) else none) else some (some (mf n (ms.getD i dM),()))
 let fin:Option (Int×Unit):=some (0,())
 have hr:∃r:Int,dm step fin ms.length 0=some (r,())∧(r=0↔∀j,0≤j→j<0+ms.length→step j=none):=GR (fun i=>by
  simp only [step]
  by_cases c0:mf n (ms.getD i dM)=0
  ·rw [if_pos c0]
   by_cases c1:(ms.getD i dM).1≤uF ms i∨(ms.getD i dM).1≥nx
   ·rw [if_pos c1]; exact .inr ⟨1,by omega,rfl⟩
   ·rw [if_neg c1]; exact .inl rfl
  ·rw [if_neg c0]; exact .inr ⟨_,c0,rfl⟩)
 have h1:∀(B:((Bx×Int×Unit)→Option (Int×Unit))→(Bx×Int×Unit)→Option (Int×Unit)),
   (∀L i,i<ms.length→B L ((nm,id,nx,ms,()),(i:Int),())=(if (!decide (mf n (ms.getD i dM)=0))=true then some (mf n (ms.getD i dM),()) else (if (ms.getD i dM).1≤uF ms i∨(ms.getD i dM).1≥nx then some (1,()) else L ((nm,id,nx,ms,()),((i+1:Nat):Int),()))))→
   (∀L,B L ((nm,id,nx,ms,()),(ms.length:Int),())=some (0,()))→rounds B n ((nm,id,nx,ms,()),(0:Int),())=dm step fin ms.length 0:=by
  intro B g1 g2
  refine aQ (fun i=>((nm,id,nx,ms,()),(i:Int),())) step fin rfl (show ms.length<n by omega) ?_ (fun L _=>g2 L)
  intro L i hi _
  rw [g1 L i hi]
  simp only [step]
  by_cases c0:mf n (ms.getD i dM)=0
  ·rw [if_neg (by rw [c0]; simp),if_pos c0]
   split <;> rfl
  ·rw [if_pos (by simp only [decide_eq_false c0,aoz]),if_neg c0]
 have h2:∀(B:((Int×List mH×Int×Int×Bx×Unit)→Option (Int×Unit))→(Int×List mH×Int×Int×Bx×Unit)→Option (Int×Unit)),
   (∀L i,i<ms.length→B L (uF ms i,ms,(ms.length:Int),(i:Int),(nm,id,nx,ms,()),())=(if (!decide (mf n (ms.getD i dM)=0))=true then some (mf n (ms.getD i dM),()) else (if (ms.getD i dM).1≤uF ms i∨(ms.getD i dM).1≥nx then some (1,()) else L (uF ms (i+1),ms,(ms.length:Int),((i+1:Nat):Int),(nm,id,nx,ms,()),()))))→
   (∀L,B L (uF ms ms.length,ms,(ms.length:Int),(ms.length:Int),(nm,id,nx,ms,()),())=some (0,()))→rounds B n ((0:Int),ms,(ms.length:Int),(0:Int),(nm,id,nx,ms,()),())=dm step fin ms.length 0:=by
  intro B g1 g2
  refine aQ (fun i=>(uF ms i,ms,(ms.length:Int),(i:Int),(nm,id,nx,ms,()),())) step fin rfl (show ms.length<n by omega) ?_ (fun L _=>g2 L)
  intro L i hi _
  rw [g1 L i hi]
  simp only [step]
  by_cases c0:mf n (ms.getD i dM)=0
  ·rw [if_neg (by rw [c0]; simp),if_pos c0]
   split <;> rfl
  ·rw [if_pos (by simp only [decide_eq_false c0,aoz]),if_neg c0]
 unfold mW mD
 simp only [e1,e2,tL,Ih,anY]
 generalize hQ:rounds _ n ((nm,id,nx,ms,()),(0:Int),())=Q
 generalize hQ1:rounds _ n ((0:Int),ms,(ms.length:Int),(0:Int),(nm,id,nx,ms,()),())=Q1
 have hQ':Q=dm step fin ms.length 0:=by
  refine hQ.symm.trans (h1 _ ?_ ?_)
  ·intro L i hi
   simp only [aon,hi,decide_true,if_true,aH hi,aR hi (by omega),an7,(YH n _).1,anY]
   by_cases c0:mf n (ms.getD i dM)=0
   ·simp only [c0,decide_true,aoo,an0,if_false]
    cases i with
    | zero=>
     have hp:=(YH n (ms.getD 0 dM)).2 c0
     rw [if_neg (by simp)]
     by_cases c1:(ms.getD 0 dM).1≥nx
     ·rw [if_pos (decide_eq_true c1),if_pos (Or.inr c1)]
     ·rw [if_neg (by rw [decide_eq_true_eq]; exact c1),if_neg (by
       rintro (h | h)
       ·simp only [uF] at h; omega
       ·exact c1 h)]
    | succ j=>
     have hj:j<ms.length:=by omega
     rw [if_pos (by simp),show uF ms (j+1)=(ms.getD j dM).1 from rfl]
     simp only [Gw hj (by omega),aH hj,if_true,an7]
     by_cases c1:(ms.getD (j+1) dM).1≤(ms.getD j dM).1
     ·rw [if_pos (decide_eq_true c1),if_pos (Or.inl c1)]
     ·rw [if_neg (by rw [decide_eq_true_eq]; exact c1)]
      by_cases c2:(ms.getD (j+1) dM).1≥nx
      ·rw [if_pos (decide_eq_true c2),if_pos (Or.inr c2)]
      ·rw [if_neg (by rw [decide_eq_true_eq]; exact c2),if_neg (by
        rintro (h | h)
        ·exact c1 h
        ·exact c2 h)]
   ·simp only [decide_eq_false c0,aoz,if_true]
  ·intro L
   simp only [Int.lt_irrefl,decide_false,an0,if_false]
 have acV:Q1=dm step fin ms.length 0:=by
  refine hQ1.symm.trans (h2 _ ?_ ?_)
  ·intro L i hi
   simp only [aon,hi,decide_true,if_true,aH hi,aR hi (by omega),an7,(message_eq _).1, ←adI n,(YH n _).1,anY]
   by_cases c0:mf n (ms.getD i dM)=0
   ·simp only [c0,decide_true,aoo,an0,if_false]
    by_cases c1:(ms.getD i dM).1≤uF ms i
    ·rw [if_pos (decide_eq_true c1),if_pos (Or.inl c1)]
    ·rw [if_neg (by rw [decide_eq_true_eq]; exact c1)]
     by_cases c2:(ms.getD i dM).1≥nx
     ·rw [if_pos (decide_eq_true c2),if_pos (Or.inr c2)]
     ·rw [if_neg (by rw [decide_eq_true_eq]; exact c2),if_neg (by
       rintro (h | h)
       ·exact c1 h
       ·exact c2 h)]
      rfl
   ·simp only [decide_eq_false c0,aoz,if_true]
  ·intro L
   simp only [Int.lt_irrefl,decide_false,an0,if_false]
 rw [hQ',acV]
 obtain ⟨r,hr,hiff⟩:=hr
 rw [hr]
 refine ⟨rfl, ?_⟩
 have hstep:(∀j,0≤j→j<0+ms.length→step j=none)↔∀i,i<ms.length→J9 (ms.getD i dM)∧uF ms i<(ms.getD i dM).1∧(ms.getD i dM).1<nx:=by
  have one:∀i,step i=none↔J9 (ms.getD i dM)∧uF ms i<(ms.getD i dM).1∧(ms.getD i dM).1<nx:=fun i=>by
   simp only [step]
   by_cases c0:mf n (ms.getD i dM)=0
   ·rw [if_pos c0]
    have g:=(De (ms.getD i dM)).1 c0
    by_cases c1:(ms.getD i dM).1≤uF ms i∨(ms.getD i dM).1≥nx
    ·rw [if_pos c1]
     constructor
     ·intro h; simp at h
     ·rintro ⟨_,h1,h2⟩; omega
    ·rw [if_neg c1]
     exact ⟨fun _=>⟨g,by omega,by omega⟩,fun _=>rfl⟩
   ·rw [if_neg c0]
    constructor
    ·intro h; simp at h
    ·rintro ⟨h,_⟩; exact absurd ((De _).2 h) c0
  exact ⟨fun h i hi=>(one i).1 (h i (aov _) (by omega)),fun h i _ hi=>(one i).2 (h i (by omega))⟩
 rw [hstep] at hiff
 unfold J8
 by_cases d1:qK nm
 ·by_cases d2:1≤id∧id≤999
  ·by_cases d3:1≤nx∧nx≤1000
   ·by_cases d4:(ms.length:Int)>6
    ·exact ⟨2,by simp [d1,d2,d3,d4],⟨fun h=>by omega,by rintro ⟨_,_,_,h,_⟩; exact absurd h (by show ¬ms.length≤6; omega)⟩⟩
    ·exact ⟨r,by simp [d1,d2,d3,d4],by rw [hiff]; exact ⟨fun h=>⟨d1,d2,d3,by show ms.length≤6; omega,h⟩,fun h=>h.2.2.2.2⟩⟩
   ·exact ⟨3,by simp [d1,d2,d3],⟨fun h=>by omega,by rintro ⟨_,_,h,_⟩; exact absurd h d3⟩⟩
  ·exact ⟨3,by simp [d1,d2],⟨fun h=>by omega,by rintro ⟨_,h,_⟩; exact absurd h d2⟩⟩
 ·exact ⟨5,by simp [d1],⟨fun h=>by omega,by rintro ⟨h,_⟩; exact absurd h d1⟩⟩
theorem Sg {p:Nat→Prop} [DecidablePred p]:∀{m i:Nat},∃q:Int,dm (fun j=>if p j then some (some ((j:Int),())) else none) (some ((-1:Int),())) m i=some (q,())∧(0≤q↔∃j,i≤j∧j<i+m∧p j):=by
 intro m
 induction m with
 | zero=>intro i; exact ⟨-1,rfl,⟨fun h=>by omega,by rintro ⟨j,h1,h2,_⟩; omega⟩⟩
 | succ m ih=>
  intro i
  unfold dm
  by_cases h:p i
  ·simp only [h,if_true]
   exact ⟨i,rfl,fun _=>⟨i,aod _,by omega,h⟩,fun _=>by omega⟩
  ·simp only [h,if_false]
   obtain ⟨q,h1,h2⟩:=ih (i:=i+1)
   refine ⟨q,h1,h2.trans ⟨fun ⟨j,g1,g2,g3⟩=>⟨j,by omega,by omega,g3⟩,fun ⟨j,g1,g2,g3⟩=>⟨j, ?_,by omega,g3⟩⟩⟩
   have:j≠i:=fun e=>h (e▸g3)
   omega
theorem Yj {A C:Type} {f:A→C→Option (Bool×Unit)} {p:A→C→Prop} [∀x y,Decidable (p x y)] {d:A} {xs:List A} {y:C} {n:Nat} {B:(List A×C×Int×Int×Unit→Option (Int×Unit))→List A×C×Int×Int×Unit→Option (Int×Unit)}
  (hB:∀L v,B L v=(if decide (v.2.2.2.1<v.2.2.1)=true then (if aK v.2.2.2.1 v.1.length then ((f (v.1.getD v.2.2.2.1.toNat d) v.2.1).bind fun r2=>(if r2.1=true then some (v.2.2.2.1,()) else L (v.1,v.2.1,v.2.2.1,IntKind.i64.wrap (v.2.2.2.1+(1:Int)),()))) else none) else some ((-1:Int),())))
  (hf:∀x y,f x y=some (decide (p x y),())) (hb:xs.length≤big) (hn:big<n) :
  rounds B n (xs,y,(xs.length:Int),(0:Int),())=dm (fun j=>if p (xs.getD j d) y then some (some ((j:Int),())) else none) (some ((-1:Int),())) xs.length 0:=by
 unfold big at hb hn
 refine aQ (fun i=>(xs,y,(xs.length:Int),(i:Int),())) _ _ rfl (by omega) ?_ ?_
 ·intro L i hi _
  simp only [hB,aon,hi,decide_true,if_true,aH hi,an7,hf,anY,aR hi (by omega)]
  by_cases h:p (xs.getD i d) y
  ·rw [if_pos (decide_eq_true h),if_pos h]
  ·rw [if_neg (by rw [decide_eq_true_eq]; exact h),if_neg h]
 ·intro L _
  simp only [hB,Int.lt_irrefl,decide_false,an0,if_false]
def dup (bs:List Bx) (i j:Nat):Prop:=(bs.getD j dB).1=(bs.getD i dB).1∨(bs.getD j dB).2.1=(bs.getD i dB).2.1
instance (bs:List Bx) (i j:Nat):Decidable (dup bs i j):=by unfold dup; infer_instance
theorem contains_eq {n:Nat} {bs:List Bx} {i:Nat} (hi:i<bs.length) (hb:bs.length≤big) (hn:big<n):∃t:Bool,bE n (bs.take i) (bs.getD i dB)=some (t,())∧(t=true↔∃j,0≤j∧j<0+i∧dup bs i j):=by
 have hl:(bs.take i).length=i:=by simp; omega
 have h2:aY n (bs.take i) (bs.getD i dB)=dm (fun j=>if (fun (x y:Bx)=>x.1=y.1∨x.2.1=y.2.1) ((bs.take i).getD j dB) (bs.getD i dB) then some (some ((j:Int),())) else none) (some ((-1:Int),())) (bs.take i).length 0:=by
  unfold aY
  refine Yj (f:=kP n) (p:=fun (x y:Bx)=>x.1=y.1∨x.2.1=y.2.1) (d:=dB) (fun L v=>rfl) (fun x y=>?_) (by rw [hl]; omega) hn
  unfold kP
  by_cases h1:x.1=y.1
  ·simp [h1]
  ·simp [h1]
 rw [hl] at h2
 have h3:aY n (bs.take i) (bs.getD i dB)=dm (fun j=>if dup bs i j then some (some ((j:Int),())) else none) (some ((-1:Int),())) i 0:=by
  rw [h2]
  refine N9 rfl fun j _ hj=>?_
  have e:(bs.take i).getD j dB=bs.getD j dB:=by
   simp only [aoa,List.getElem?_take,show j<i by omega,if_true]
  show (if (_∨_) then _ else _)=_
  rw [e]
  rfl
 obtain ⟨q,hq,hiff⟩:=Sg (p:=dup bs i) (m:=i) (i:=0)
 refine ⟨decide (q≥0), ?_, ?_⟩
 ·unfold bE
  rw [h3,hq]
  rfl
 ·rw [decide_eq_true_eq]
  exact hiff
def bf (n:Nat) (b:Bx):Int:=((mD n b).getD (0,())).1
theorem Xm {n:Nat} {b:Bx} (hb:okB b) (hn:big<n):mD n b=some (bf n b,())∧mW n b=some (bf n b,())∧(bf n b=0↔J8 b):=by
 obtain ⟨h0,r,h1,h2⟩:=acM hb hn
 have:bf n b=r:=by unfold bf; rw [h1]; rfl
 rw [h0,this]
 exact ⟨h1,h1,h2⟩
def xu (s:lK):Prop:=(1≤s.1∧s.1≤1000)∧s.2.1.length≤3∧∀i,i<s.2.1.length→J8 (s.2.1.getD i dB)∧(s.2.1.getD i dB).2.1<s.1∧∀j,j<i→¬dup s.2.1 i j
theorem JX {n:Nat} {s:lK} (hs:zQ s) (hn:big<n):iG n s=jH n s∧∃r,jH n s=some (r,())∧(r=0↔xu s):=by
 obtain ⟨nx,bs,⟨⟩⟩:=s
 obtain ⟨s1,s2⟩:=hs
 have hlen:bs.length≤1048576:=s1
 have hn':1048576<n:=hn
 classical
 let step:Nat→Option (Option (Int×Unit)):=fun i=>if bf n (bs.getD i dB)=0 then (if (bs.getD i dB).2.1≥nx then some (some (9,())) else if ∃j,0≤j∧j<0+i∧dup bs i j then some (some (6,())) else none) else some (some (bf n (bs.getD i dB),()))
 let fin:Option (Int×Unit):=some (0,())
 have hr:∃r:Int,dm step fin bs.length 0=some (r,())∧(r=0↔∀j,0≤j→j<0+bs.length→step j=none):=GR (fun i=>by
  simp only [step]
  by_cases c0:bf n (bs.getD i dB)=0
  ·rw [if_pos c0]
   by_cases c1:(bs.getD i dB).2.1≥nx
   ·rw [if_pos c1]; exact .inr ⟨9,by omega,rfl⟩
   ·rw [if_neg c1]
    by_cases c2:∃j,0≤j∧j<0+i∧dup bs i j
    ·rw [if_pos c2]; exact .inr ⟨6,by omega,rfl⟩
    ·rw [if_neg c2]; exact .inl rfl
  ·rw [if_neg c0]; exact .inr ⟨_,c0,rfl⟩)
 have hok:∀i,i<bs.length→okB (bs.getD i dB):=fun i hi=>by
  have:bs.getD i dB=bs[i]:=by simp [hi]
  rw [this]
  exact s2 _ (aop hi)
 unfold iG jH
 simp only [tL,Ih,anY]
 generalize hQ:rounds _ n ((nx,bs,()),(0:Int),())=Q
 generalize hQ1:rounds _ n (bs,(bs.length:Int),(0:Int),(nx,bs,()),())=Q1
 have hQ':Q=dm step fin bs.length 0:=by
  refine hQ.symm.trans (aQ (fun i=>((nx,bs,()),(i:Int),())) step fin rfl (by omega) ?_ ?_)
  ·intro L i hi _
   simp only [aon,hi,decide_true,if_true,aH hi,an7,(Xm (hok i hi) hn).1,anY,step]
   by_cases c0:bf n (bs.getD i dB)=0
   ·simp only [c0,decide_true,aoo,an0,if_false,if_true]
    by_cases c1:(bs.getD i dB).2.1≥nx
    ·rw [if_pos (decide_eq_true c1),if_pos c1]
    ·rw [if_neg (by rw [decide_eq_true_eq]; exact c1),if_neg c1]
     refine (aQ (fun j=>((nx,bs,()),(i:Int),(j:Int),())) (fun j=>if dup bs i j then some (some (6,())) else none) (L ((nx,bs,()),((i+1:Nat):Int),())) (m:=i) rfl (by omega) ?_ ?_).trans ?_
     ·intro L4 j hj _
      have hj':j<bs.length:=by omega
      simp only [aon,hj,decide_true,if_true,aH hj',aH hi,an7,aR hj (by omega)]
      by_cases d1:(bs.getD j dB).1=(bs.getD i dB).1
      ·rw [if_pos (decide_eq_true d1),if_pos (show dup bs i j from .inl d1)]
      ·rw [if_neg (by rw [decide_eq_true_eq]; exact d1)]
       by_cases d2:(bs.getD j dB).2.1=(bs.getD i dB).2.1
       ·rw [if_pos (decide_eq_true d2),if_pos (show dup bs i j from .inr d2)]
       ·rw [if_neg (by rw [decide_eq_true_eq]; exact d2),if_neg (by rintro (h | h); exact d1 h; exact d2 h)]
     ·intro L4 _
      simp only [Int.lt_irrefl,decide_false,an0,if_false,aR hi (by omega)]
     ·by_cases hd:∃j,0≤j∧j<0+i∧dup bs i j
      ·rw [if_pos hd]; exact BQ.1 hd
      ·rw [if_neg hd]; exact BQ.2 hd
   ·simp only [decide_eq_false c0,aoz,if_true,if_neg c0]
  ·intro L _
   simp only [Int.lt_irrefl,decide_false,an0,if_false,fin]
 have acV:Q1=dm step fin bs.length 0:=by
  refine hQ1.symm.trans (aQ (fun i=>(bs,(bs.length:Int),(i:Int),(nx,bs,()),())) step fin rfl (by omega) ?_ ?_)
  ·intro L i hi _
   obtain ⟨t,t1,t2⟩:=contains_eq hi s1 hn
   simp only [aon,hi,decide_true,if_true,aH hi,an7,(Xm (hok i hi) hn).2.1,anY,step]
   by_cases c0:bf n (bs.getD i dB)=0
   ·simp only [c0,decide_true,aoo,an0,if_false,if_true]
    by_cases c1:(bs.getD i dB).2.1≥nx
    ·rw [if_pos (decide_eq_true c1),if_pos c1]
    ·rw [if_neg (by rw [decide_eq_true_eq]; exact c1),if_neg c1,if_pos ⟨by omega,by omega⟩,t1]
     simp only [anY,aR hi (by omega)]
     by_cases hd:∃j,0≤j∧j<0+i∧dup bs i j
     ·rw [if_pos (t2.2 hd),if_pos hd]
     ·rw [if_neg (fun h=>hd (t2.1 h)),if_neg hd]
   ·simp only [decide_eq_false c0,aoz,if_true,if_neg c0]
  ·intro L _
   simp only [Int.lt_irrefl,decide_false,an0,if_false,fin]
 rw [hQ',acV]
 obtain ⟨r,hr,hiff⟩:=hr
 rw [hr]
 refine ⟨rfl, ?_⟩
 have hstep:(∀j,0≤j→j<0+bs.length→step j=none)↔∀i,i<bs.length→J8 (bs.getD i dB)∧(bs.getD i dB).2.1<nx∧∀j,j<i→¬dup bs i j:=by
  have one:∀i,i<bs.length→(step i=none↔J8 (bs.getD i dB)∧(bs.getD i dB).2.1<nx∧∀j,j<i→¬dup bs i j):=fun i hi=>by
   simp only [step]
   have hg:=(Xm (hok i hi) hn).2.2
   by_cases c0:bf n (bs.getD i dB)=0
   ·rw [if_pos c0]
    by_cases c1:(bs.getD i dB).2.1≥nx
    ·rw [if_pos c1]
     constructor
     ·intro h; simp at h
     ·rintro ⟨_,h1,_⟩; omega
    ·rw [if_neg c1]
     by_cases c2:∃j,0≤j∧j<0+i∧dup bs i j
     ·rw [if_pos c2]
      constructor
      ·intro h; simp at h
      ·rintro ⟨_,_,h⟩
       obtain ⟨j,_,hj,hd⟩:=c2
       exact absurd hd (h j (by omega))
     ·rw [if_neg c2]
      exact ⟨fun _=>⟨hg.1 c0,by omega,fun j hj hd=>c2 ⟨j,aov _,by omega,hd⟩⟩,fun _=>rfl⟩
   ·rw [if_neg c0]
    constructor
    ·intro h; simp at h
    ·rintro ⟨h,_⟩; exact absurd (hg.2 h) c0
  exact ⟨fun h i hi=>(one i hi).1 (h i (aov _) (by omega)),fun h i _ hi=>(one i (by omega)).2 (h i (by omega))⟩
 rw [hstep] at hiff
 unfold xu
 by_cases d1:1≤nx∧nx≤1000
 ·by_cases d2:(bs.length:Int)>3
  ·exact ⟨2,by simp [d1,d2],⟨fun h=>by omega,by rintro ⟨_,h,_⟩; exact absurd h (by show ¬bs.length≤3; omega)⟩⟩
  ·exact ⟨r,by simp [d1,d2],by rw [hiff]; exact ⟨fun h=>⟨d1,by show bs.length≤3; omega,h⟩,fun h=>h.2.2⟩⟩
 ·exact ⟨3,by simp [d1],⟨fun h=>by omega,by rintro ⟨h,_⟩; exact absurd h d1⟩⟩
end Go.Proofs.YtailcbngagacaabGreat.gp
