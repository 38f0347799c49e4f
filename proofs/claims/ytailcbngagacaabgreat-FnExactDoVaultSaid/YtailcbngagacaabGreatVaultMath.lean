/- Vaults: both sides find the same fault. -/
import Derived.Test.YtailcbngagacaabGreatOwF
import Derived.Test.YtailcbngagacaabGreatLoopLib
import Derived.Test.YtailcbngagacaabGreatPackLib
import Derived.Test.YtailcbngagacaabGreatStoreMath
import Derived.Test.YtailcbngagacaabGreatOpsMath
import Derived.Test.YtailcbngagacaabGreatGoodMath
import Derived.Test.YtailcbngagacaabGreatCodecMath
import Derived.Test.YtailcbngagacaabGreatReadMath
import Derived.Test.YtailcbngagacaabGreatReadSMath
import Derived.Test.YtailcbngagacaabGreatJourMath
import Derived.Test.YtailcbngagacaabGreatDoF
set_option linter.unusedSectionVars false
set_option linter.unusedVariables false
set_option linter.unusedSimpArgs false
namespace Go.Proofs.YtailcbngagacaabGreat.qG
open Go Go.Proofs.YtailcbngagacaabGreat.Ow Go.Proofs.YtailcbngagacaabGreat.Nr Go.Proofs.YtailcbngagacaabGreat.jO Go.Proofs.YtailcbngagacaabGreat.xh Go.Proofs.YtailcbngagacaabGreat.gp Go.Proofs.YtailcbngagacaabGreat.jc Go.Proofs.YtailcbngagacaabGreat.vR Go.Proofs.YtailcbngagacaabGreat.jV Go.Proofs.YtailcbngagacaabGreat.D5 Go.Proofs.YtailcbngagacaabGreat.FL Go.Proofs.YtailcbngagacaabGreat.DT
instance amx:DecidableEq mH:=inferInstance
instance amw:DecidableEq Bx:=instDecidableEqProd
instance amy:DecidableEq lK:=instDecidableEqProd
theorem vI {A:Type} [DecidableEq A] {xs ys:List A} {d:A} (hl:xs.length=ys.length):dm (fun j=>if (!decide (xs.getD j d=ys.getD j d))=true then some (some (false,())) else none) (some (true,())) xs.length 0=some (decide (xs=ys),()):=by
 by_cases h:xs=ys
 ·subst h
  rw [decide_eq_true rfl]
  exact bL (fun j _ _=>by simp)
 ·rw [decide_eq_false h]
  rcases Eh (step:=fun j=>if (!decide (xs.getD j d=ys.getD j d))=true then some (some (false,())) else none) (fin:=some (true,())) (r:=some (false,())) (fun j=>by
   by_cases hh:xs.getD j d=ys.getD j d
   ·rw [if_neg (by rw [decide_eq_true hh]; decide)]; exact .inl rfl
   ·rw [if_pos (by rw [decide_eq_false hh]; decide)]; exact .inr rfl) (m:=xs.length) (i:=0) with h1 | h1
  ·exact h1
  ·exfalso
   refine h (List.ext_getElem hl fun i h2 h3=>?_)
   have:=A8 (by simp) h1 i (aov _) (by omega)
   rw [getD_lt h2,getD_lt h3] at this
   simpa using this
theorem abO (a b:mH):decide (a=b)=(decide (a.1=b.1) && (decide (a.2.1=b.2.1) && (decide (a.2.2.1=b.2.2.1) && decide (a.2.2.2.1=b.2.2.2.1)))):=by
 obtain ⟨a1,a2,a3,a4,_⟩:=a
 obtain ⟨b1,b2,b3,b4,_⟩:=b
 simp only [an8,and_true,Bool.decide_and]
theorem abN (a b:Bx):decide (a=b)=(decide (a.1=b.1) && (decide (a.2.1=b.2.1) && (decide (a.2.2.1=b.2.2.1) && decide (a.2.2.2.1=b.2.2.2.1)))):=by
 obtain ⟨a1,a2,a3,a4,_⟩:=a
 obtain ⟨b1,b2,b3,b4,_⟩:=b
 simp only [an8,and_true,Bool.decide_and]
theorem abP (a b:lK):decide (a=b)=(decide (a.1=b.1) && decide (a.2.1=b.2.1)):=by
 obtain ⟨a1,a2,_⟩:=a
 obtain ⟨b1,b2,_⟩:=b
 simp only [an8,and_true,Bool.decide_and]
theorem Ky {A:Type} [DecidableEq A] {xs ys:List A} (h:¬xs.length=ys.length):decide (xs=ys)=false:=decide_eq_false fun e=>h (by rw [e])
theorem PU {n:Nat} {xs ys:List Int} (hb:xs.length≤big) (hn:big<n):iq n xs ys=some (decide (xs=ys),()):=by
 have hb':xs.length≤1048576:=hb
 unfold iq
 by_cases hl:xs.length=ys.length
 ·rw [if_neg (by simp [hl]), ←vI (d:=0) hl]
  refine aQ (fun i=>(xs,ys,(xs.length:Int),(i:Int),())) _ _ (m:=xs.length) rfl (by omega) ?_ ?_
  ·intro L i hi _
   simp only [aon,hi,decide_true,if_true,aH hi,aH (show i<ys.length by omega),an7,aR hi (by omega)]
   split <;> rfl
  ·intro L _
   simp
 ·rw [if_pos (by rw [decide_eq_false (show ¬((xs.length:Int)=(ys.length:Int)) by omega)]; rfl),Ky hl]
theorem Oo {n:Nat} {a b:mH} (ha:Ii a) (hn:big<n):kR n a b=some (decide (a=b),()):=by
 unfold kR
 rw [abO,PU ha hn]
 simp only [anY]
 cases decide (a.1=b.1) <;> cases decide (a.2.1=b.2.1) <;> cases decide (a.2.2.1=b.2.2.1) <;> rfl
theorem Oq {n:Nat} {a b:mH}:ko n a b=some (decide (a=b),()):=by
 unfold ko
 rw [abO]
 cases decide (a.1=b.1) <;> cases decide (a.2.1=b.2.1) <;> cases decide (a.2.2.1=b.2.2.1) <;> rfl
theorem LX {n:Nat} {xs ys:List mH} (hb:xs.length≤big) (hm:∀m∈xs,Ii m) (hn:big<n):aN n xs ys=some (decide (xs=ys),()):=by
 have hb':xs.length≤1048576:=hb
 unfold aN
 by_cases hl:xs.length=ys.length
 ·rw [if_neg (by simp [hl]), ←vI (d:=dM) hl]
  refine aQ (fun i=>(ys,xs,(xs.length:Int),(i:Int),())) _ _ (m:=xs.length) rfl (by omega) ?_ ?_
  ·intro L i hi _
   have h0:Ii (xs.getD i dM):=by rw [getD_lt hi]; exact hm _ (aop hi)
   simp only [aon,hi,decide_true,if_true,aH hi,aH (show i<ys.length by omega),an7,aR hi (by omega),Oo h0 hn,anY]
   split <;> rfl
  ·intro L _
   simp
 ·rw [if_pos (by rw [decide_eq_false (show ¬((xs.length:Int)=(ys.length:Int)) by omega)]; rfl),Ky hl]
theorem LD {n:Nat} {a b:Bx} (ha:okB a) (hn:big<n):kN n a b=some (decide (a=b),()):=by
 unfold kN
 rw [abN,LX ha.2.1 ha.2.2 hn]
 simp only [anY]
 cases decide (a.1=b.1) <;> cases decide (a.2.1=b.2.1) <;> cases decide (a.2.2.1=b.2.2.1) <;> rfl
theorem LF {n:Nat} {a b:Bx} (ha:okB a) (hn:big<n):o9 n a b=some (decide (a=b),()):=by
 have hb':a.2.2.2.1.length≤1048576:=ha.2.1
 have hn':1048576<n:=hn
 unfold o9
 rw [abN]
 have hlp:∀(hl:a.2.2.2.1.length=b.2.2.2.1.length),_=some (decide (a.2.2.2.1=b.2.2.2.1),()):=fun hl=>vI (d:=dM) hl
 cases h1:decide (a.1=b.1)
 ·rfl
 cases h2:decide (a.2.1=b.2.1)
 ·rfl
 cases h3:decide (a.2.2.1=b.2.2.1)
 ·rfl
 simp only [aoo,an0,if_false,Bool.true_and]
 by_cases hl:a.2.2.2.1.length=b.2.2.2.1.length
 ·rw [if_neg (by simp [hl]), ←hlp hl]
  refine aQ (fun i=>(a,b,(i:Int),())) _ _ (m:=a.2.2.2.1.length) rfl (by omega) ?_ ?_
  ·intro L i hi _
   simp only [aon,hi,decide_true,if_true,aH hi,aH (show i<b.2.2.2.1.length by omega),an7,aR hi (by omega),Oq,anY]
   split <;> rfl
  ·intro L _
   simp
 ·rw [if_pos (by rw [decide_eq_false (show ¬((a.2.2.2.1.length:Int)=(b.2.2.2.1.length:Int)) by omega)]; rfl),Ky hl]
theorem Wi {n:Nat} {a b:lK} (ha:zQ a) (hn:big<n):j5 n a b=some (decide (a=b),()):=by
 have hb':a.2.1.length≤1048576:=ha.1
 have hn':1048576<n:=hn
 unfold j5 bC
 rw [abP]
 cases h1:decide (a.1=b.1)
 ·rfl
 simp only [if_true,Bool.true_and]
 by_cases hl:a.2.1.length=b.2.1.length
 ·rw [if_neg (by simp [hl]), ←vI (d:=dB) hl]
  refine (congrArg (fun x=>Option.bind x fun r1:Bool×Unit=>some (r1.1,())) (aQ (fun i=>(b.2.1,a.2.1,(a.2.1.length:Int),(i:Int),())) (fun j=>if (!decide (a.2.1.getD j dB=b.2.1.getD j dB))=true then some (some (false,())) else none) (some (true,())) (m:=a.2.1.length) rfl (by omega) ?_ ?_)).trans ?_
  ·intro L i hi _
   have h0:okB (a.2.1.getD i dB):=by rw [getD_lt hi]; exact ha.2 _ (aop hi)
   simp only [aon,hi,decide_true,if_true,aH hi,aH (show i<b.2.1.length by omega),an7,aR hi (by omega),LD h0 hn,anY]
   split <;> rfl
  ·intro L _
   simp
  ·rw [vI (d:=dB) hl]; rfl
 ·rw [if_pos (by rw [decide_eq_false (show ¬((a.2.1.length:Int)=(b.2.1.length:Int)) by omega)]; rfl),Ky hl]
  rfl
theorem Wj {n:Nat} {a b:lK} (ha:zQ a) (hn:big<n):tZ n a b=some (decide (a=b),()):=by
 have hb':a.2.1.length≤1048576:=ha.1
 have hn':1048576<n:=hn
 unfold tZ
 rw [abP]
 cases h1:decide (a.1=b.1)
 ·rfl
 simp only [aoo,an0,if_false,Bool.true_and]
 by_cases hl:a.2.1.length=b.2.1.length
 ·rw [if_neg (by simp [hl]), ←vI (d:=dB) hl]
  refine aQ (fun i=>(a,b,(i:Int),())) _ _ (m:=a.2.1.length) rfl (by omega) ?_ ?_
  ·intro L i hi _
   have h0:okB (a.2.1.getD i dB):=by rw [getD_lt hi]; exact ha.2 _ (aop hi)
   simp only [aon,hi,decide_true,if_true,aH hi,aH (show i<b.2.1.length by omega),an7,aR hi (by omega),LF h0 hn,anY]
   split <;> rfl
  ·intro L _
   simp
 ·rw [if_pos (by rw [decide_eq_false (show ¬((a.2.1.length:Int)=(b.2.1.length:Int)) by omega)]; rfl),Ky hl]
theorem Pt {n:Nat} (c:Int):dV n c=some (bad c,()):=rfl
theorem Vq {s:lK} {o:OpC} {r:zf} (hg:xu s) (h:(iK o=0∧r=jc.yR (pR s o))∨(iK o≠0∧r=bad (iK o))) (h0:r.1=0):xu r.2.2.1:=by
 rcases h with ⟨h1,rfl⟩ | ⟨h1,rfl⟩
 ·unfold jc.yR at h0 ⊢
  by_cases h2:(pR s o).2.1=0
  ·rw [if_pos h2]
   exact P8.2 (WJ (P8.1 hg) (right h1) h2)
  ·rw [if_neg h2] at h0
   exact absurd h0 h2
 ·exact absurd h0 h1
theorem Xi {n:Nat} {s:lK} {l:List OpC} (hs:zQ s) (hg:xu s) (hl:∀o∈l,okO o) (hn:big<n) :
  ∃r:zf,ni n s l=some (r,())∧mU n s l=some (r,())∧okR r∧(r.1=0→xu r.2.2.1):=by
 have hn':1048576<n:=hn
 obtain ⟨he,c,hc,hgc⟩:=JX hs hn
 have h0:=hgc.2 hg
 unfold ni mU
 by_cases h6:(l.length:Int)>60
 ·rw [decide_eq_true h6,if_pos rfl,if_pos rfl]
  exact ⟨bad 2,rfl,rfl,IP _,fun h=>absurd h (by decide)⟩
 rw [decide_eq_false h6,if_neg (by decide),if_neg (by decide),he,hc]
 simp only [anY,h0,decide_true,aoo,an0,if_false,Kw hs hn,own hs hn,Pt]
 generalize hBs:(fun (L5:List OpC×Int×zf×zf×Unit→Option (zf×Unit)) v5=>_)=Bs
 generalize hBi:(fun (L3:List OpC×Int×Int×zf×lK×Unit→Option (zf×Unit)) v3=>_)=Bi
 have key:∀(m i:Nat) (s:lK) (f:Nat),i+m=l.length→m<f→zQ s→xu s→∃r:zf,rounds Bs f (l,(i:Int),bad 0,(0,[],s,()),())=some (r,())∧rounds Bi f (l,(l.length:Int),(i:Int),bad 0,s,())=some (r,())∧okR r∧(r.1=0→xu r.2.2.1):=by
  intro m
  induction m with
  | zero=>
   intro i s f hi hf hs hg
   obtain ⟨f,rfl⟩:∃g,f=g+1:=⟨f - 1,by omega⟩
   refine ⟨(0,[],s,()), ?_, ?_,⟨by simp,hs⟩,fun _=>hg⟩
   ·show Bs (rounds Bs f) _=_
    rw [←hBs]
    simp only
    rw [if_neg (by rw [decide_eq_true_eq]; omega)]
   ·show Bi (rounds Bi f) _=_
    rw [←hBi]
    simp only
    rw [if_neg (by rw [decide_eq_true_eq]; omega)]
  | succ m ih=>
   intro i s f hi hf hs hg
   obtain ⟨f,rfl⟩:∃g,f=g+1:=⟨f - 1,by omega⟩
   have hlt:i<l.length:=by omega
   obtain ⟨r,e1,e2,e3,e4⟩:=D8 hs (hl _ (aop hlt)) hg hn
   have q1:rounds Bs (f+1) (l,(i:Int),bad 0,(0,[],s,()),())=if (!decide (r.1=(0:Int)))=true then some (bad r.1,()) else rounds Bs f (l,((i+1:Nat):Int),bad 0,(0,[],r.2.2.1,()),()):=by
    show Bs (rounds Bs f) _=_
    conv=>lhs; rw [←hBs]
    simp only [aon,hlt,decide_true,if_true,aH hlt,dW hlt,aR hlt (by omega),e1,anY]
    rw [hBs]
   have q2:rounds Bi (f+1) (l,(l.length:Int),(i:Int),bad 0,s,())=if (!decide (r.1=(0:Int)))=true then some (bad r.1,()) else rounds Bi f (l,(l.length:Int),((i+1:Nat):Int),bad 0,r.2.2.1,()):=by
    show Bi (rounds Bi f) _=_
    conv=>lhs; rw [←hBi]
    simp only [aon,hlt,decide_true,if_true,aH hlt,dW hlt,aR hlt (by omega),e2,anY]
    rw [hBi]
    rfl
   rw [q1,q2]
   by_cases hr:r.1=0
   ·rw [if_neg (by simp [hr]),if_neg (by simp [hr])]
    exact ih (i+1) _ f (by omega) (by omega) e3.2 (Vq hg e4 hr)
   ·rw [if_pos (by simp [hr]),if_pos (by simp [hr])]
    exact ⟨bad r.1,rfl,rfl,IP _,fun h=>absurd h hr⟩
 exact key l.length 0 s n (by omega) (by omega) hs hg
abbrev CQ:=Bool×List Int×List Int×lK×Unit
structure WU (v:CQ):Prop where
 s1:v.2.1.length≤big
 b1:qc v.2.1
 s2:v.2.2.1.length≤big
 b2:qc v.2.2.1
 st:zQ v.2.2.2.1
abbrev eS:lK:=(1,[],())
theorem abf:zQ eS∧xu eS:=⟨⟨by simp [big],fun b hb=>absurd hb (List.not_mem_nil)⟩,⟨by decide,by decide,fun i hi=>absurd hi (Nat.not_lt_zero i)⟩⟩
noncomputable def opsV (v:CQ):List OpC:=(jP v.2.1).1++(jP v.2.2.1).1
noncomputable def Lg (v:CQ):Bool:=decide (((jP v.2.1).2:Int)=(v.2.1.length:Int)) && decide (((jP v.2.2.1).2:Int)=(v.2.2.1.length:Int))
theorem aaH {v:CQ} (h:WU v):∀o∈opsV v,okO o∧Pb o:=fun o ho=>(an6.1 ho).elim (abE h.b1 o) (abE h.b2 o)
theorem Qz {n:Nat} {v:CQ} (h:WU v) (hn:big<n):jq n v=some (opsV v,Lg v,()):=by
 have h1:=(Ep v.2.1).2.2
 have h2:=(Ep v.2.2.1).2.2
 have g1:=h.s1
 have g2:=h.s2
 unfold big at g1 g2
 unfold jq cO
 rw [MM h.b1 h.s1 hn,MM h.b2 h.s2 hn]
 simp only [anY]
 rw [if_pos (by omega)]
 unfold Lg opsV
 cases decide (((jP v.2.1).2:Int)=(v.2.1.length:Int)) <;> rfl
theorem QA {n:Nat} {v:CQ} (h:WU v) (hn:big<n):p9 n v=some (opsV v,Lg v,()):=by
 have h1:=(Ep v.2.1).2.2
 have h2:=(Ep v.2.2.1).2.2
 have g1:=h.s1
 have g2:=h.s2
 unfold big at g1 g2
 unfold p9
 rw [MN h.b1 h.s1 hn,MN h.b2 h.s2 hn]
 simp only [anY]
 rw [if_pos (by omega)]
 unfold Lg opsV
 cases decide (((jP v.2.1).2:Int)=(v.2.1.length:Int)) <;> rfl
theorem Tu {n:Nat} {v:CQ} (h:WU v) (hn:big<n):∃c:Int,nK n v=some (c,())∧qm n v=some (c,())∧
  (c=0→v.2.1.length+v.2.2.1.length≤8000∧(v.1=true→xu v.2.2.2.1∧(opsV v).length≤60)):=by
 have g1:=h.s1
 have g2:=h.s2
 unfold big at g1 g2
 obtain ⟨he,c,hc,hgc⟩:=JX h.st hn
 obtain ⟨r,a1,a2,a3,a4⟩:=Xi abf.1 abf.2 (fun o ho=>(aaH h o ho).1) hn
 have a5:r.1=0→(opsV v).length≤60:=by
  intro h0
  by_cases h6:((opsV v).length:Int)>60
  ·unfold ni at a1
   rw [decide_eq_true h6,if_pos rfl,Pt] at a1
   simp only [anY,anX,an8,and_true] at a1
   rw [←a1] at h0
   exact absurd h0 (by decide)
  ·omega
 have e1:u6 n=some (eS,()):=rfl
 have e2:uP n=some (eS,()):=rfl
 unfold nK qm
 simp only [he,hc,Qz h hn,QA h hn,e1,e2,a1,a2,anY,Wi a3.2 hn,Wj a3.2 hn]
 rw [wrap_i64 (x:=(v.2.1.length:Int)+(v.2.2.1.length:Int)) (by omega) (by omega)]
 by_cases c1:(v.2.1.length:Int)+(v.2.2.1.length:Int)>8000
 ·simp only [decide_eq_true c1,if_true]
  exact ⟨2,rfl,rfl,fun h=>absurd h (by decide)⟩
 simp only [decide_eq_false c1,an0,if_false]
 have l8:v.2.1.length+v.2.2.1.length≤8000:=by omega
 cases hu:v.1 with
 | false=>
  simp only [aoz,if_true]
  by_cases c2:(v.2.2.1.length:Int)>0
  ·simp only [decide_eq_true c2,if_true]
   exact ⟨1,rfl,rfl,fun h=>absurd h (by decide)⟩
  simp only [decide_eq_false c2,an0,if_false]
  by_cases c3:v.2.2.2.1.1=0
  ·simp only [decide_eq_true c3,aoo,an0,if_false]
   by_cases c4:(v.2.2.2.1.2.1.length:Int)>0
   ·simp only [decide_eq_true c4,if_true]
    exact ⟨1,rfl,rfl,fun h=>absurd h (by decide)⟩
   simp only [decide_eq_false c4,an0,if_false]
   exact ⟨0,rfl,rfl,fun _=>⟨l8,fun hh=>absurd hh (by decide)⟩⟩
  ·simp only [decide_eq_false c3,aoz,if_true]
   exact ⟨1,rfl,rfl,fun h=>absurd h (by decide)⟩
 | true=>
  simp only [aoo,an0,if_false]
  by_cases c2:c=0
  ·rw [decide_eq_true c2]
   simp only [aoo,an0,if_false]
   cases Lg v with
   | false=>exact ⟨5,rfl,rfl,fun h=>absurd h (by decide)⟩
   | true=>
    simp only [aoo,an0,if_false]
    by_cases c3:r.1=0
    ·rw [decide_eq_true c3]
     simp only [aoo,an0,if_false]
     cases decide (r.2.2.1=v.2.2.2.1) with
     | false=>exact ⟨9,rfl,rfl,fun h=>absurd h (by decide)⟩
     | true=>exact ⟨0,rfl,rfl,fun _=>⟨l8,fun _=>⟨hgc.1 c2,a5 c3⟩⟩⟩
    ·rw [decide_eq_false c3]
     exact ⟨9,rfl,rfl,fun h=>absurd h (by decide)⟩
  ·rw [decide_eq_false c2]
   exact ⟨c,rfl,rfl,fun h=>absurd h c2⟩
theorem aaT {n:Nat} {v:CQ} (h:WU v) (hn:big<n):jG n v=some (v,()):=by
 unfold jG
 rw [IV h.s1 hn,IV h.s2 hn,aaS h.st hn]
 rfl
theorem aaa {n:Nat} {v:CQ} (h:WU v) (hn:big<n):lu n v v=some (true,()):=by
 unfold lu
 rw [BO h.s1 hn,BO h.s2 hn,TQ h.st hn]
 simp
def lV (v:CQ):Prop:=(v.2.1.length≤9223372036854775807∧qc v.2.1)∧(v.2.2.1.length≤9223372036854775807∧qc v.2.2.1)∧lS v.2.2.2.1
theorem Zf {n:Nat} {v:CQ} (hl:lV v) (hn:big<n):∃r,ru n v 1048576=some (r,())∧(r<0∨(r≤1048576∧WU v)):=by
 unfold ru
 obtain ⟨r1,g1,g2⟩:=EZ (n:=n) hl.1.1 (k:=1048576) (by omega) (by omega)
 simp only [g1,anY]
 by_cases c1:r1<0
 ·exact ⟨-1,by simp [c1], .inl (by omega)⟩
 have g2:=g2.resolve_left c1
 obtain ⟨r2,e1,e2⟩:=EZ (n:=n) hl.2.1.1 (k:=r1) (by omega) (by omega)
 simp only [c1,decide_false,an0,if_false,e1,anY]
 by_cases c2:r2<0
 ·exact ⟨-1,by simp [c2], .inl (by omega)⟩
 have e2:=e2.resolve_left c2
 unfold vQ
 obtain ⟨r3,f1,f2⟩:=adR (n:=n) hl.2.2.1 hl.2.2.2 (k:=r2) (by omega) (by omega) hn
 simp only [c2,decide_false,an0,if_false,f1,anY]
 by_cases c3:r3<0
 ·exact ⟨-1,by simp [c3], .inl (by omega)⟩
 rcases f2 with h | ⟨h6,h4,h5⟩
 ·exact absurd h c3
 ·exact ⟨r3,by simp [c3], .inr ⟨by omega,g2.2,hl.1.2,e2.2,hl.2.1.2,h4,h5⟩⟩
end Go.Proofs.YtailcbngagacaabGreat.qG
