/- Vaults: both sides find the same fault. -/
import Derived.Test.YtailcbngagacaabGreatOwF
import Derived.Test.YtailcbngagacaabGreatLoopLib
import Derived.Test.YtailcbngagacaabGreatPackLib
import Derived.Test.YtailcbngagacaabGreatStoreMath
import Derived.Test.YtailcbngagacaabGreatOpsMath
import Derived.Test.YtailcbngagacaabGreatGoodMath
import Derived.Test.YtailcbngagacaabGreatCodecMath
import Derived.Test.YtailcbngagacaabGreatReadMath
import Derived.Test.YtailcbngagacaabGreatReadSMath
import Derived.Test.YtailcbngagacaabGreatJourMath
import Derived.Test.YtailcbngagacaabGreatWriteF
set_option linter.unusedSectionVars false
set_option linter.unusedVariables false
set_option linter.unusedSimpArgs false
namespace Go.Proofs.YtailcbngagacaabGreat.sK
open Go Go.Proofs.YtailcbngagacaabGreat.Ow Go.Proofs.YtailcbngagacaabGreat.oC Go.Proofs.YtailcbngagacaabGreat.kN Go.Proofs.YtailcbngagacaabGreat.wX Go.Proofs.YtailcbngagacaabGreat.gV Go.Proofs.YtailcbngagacaabGreat.jI Go.Proofs.YtailcbngagacaabGreat.vJ Go.Proofs.YtailcbngagacaabGreat.kR Go.Proofs.YtailcbngagacaabGreat.DK Go.Proofs.YtailcbngagacaabGreat.Fx Go.Proofs.YtailcbngagacaabGreat.Dz
instance alT:DecidableEq mG:=inferInstance
instance alS:DecidableEq Bx:=instDecidableEqProd
instance alU:DecidableEq lH:=instDecidableEqProd
theorem vo {A:Type} [DecidableEq A] {xs ys:List A} {d:A} (hl:xs.length=ys.length):dm (fun j=>if (!decide (xs.getD j d=ys.getD j d))=true then some (some (false,())) else none) (some (true,())) xs.length 0=some (decide (xs=ys),()):=by
 by_cases h:xs=ys
 ·subst h
  rw [decide_eq_true rfl]
  exact bM (fun j _ _=>by simp)
 ·rw [decide_eq_false h]
  rcases D6 (step:=fun j=>if (!decide (xs.getD j d=ys.getD j d))=true then some (some (false,())) else none) (fin:=some (true,())) (r:=some (false,())) (fun j=>by
   by_cases hh:xs.getD j d=ys.getD j d
   ·rw [if_neg (by rw [decide_eq_true hh]; decide)]; exact .inl rfl
   ·rw [if_pos (by rw [decide_eq_false hh]; decide)]; exact .inr rfl) (m:=xs.length) (i:=0) with h1 | h1
  ·exact h1
  ·exfalso
   refine h (List.ext_getElem hl fun i h2 h3=>?_)
   have:=AO (by simp) h1 i (anR _) (by omega)
   rw [getD_lt h2,getD_lt h3] at this
   simpa using this
theorem abl (a b:mG):decide (a=b)=(decide (a.1=b.1) && (decide (a.2.1=b.2.1) && (decide (a.2.2.1=b.2.2.1) && decide (a.2.2.2.1=b.2.2.2.1)))):=by
 obtain ⟨a1,a2,a3,a4,_⟩:=a
 obtain ⟨b1,b2,b3,b4,_⟩:=b
 simp only [ant,and_true,Bool.decide_and]
theorem abk (a b:Bx):decide (a=b)=(decide (a.1=b.1) && (decide (a.2.1=b.2.1) && (decide (a.2.2.1=b.2.2.1) && decide (a.2.2.2.1=b.2.2.2.1)))):=by
 obtain ⟨a1,a2,a3,a4,_⟩:=a
 obtain ⟨b1,b2,b3,b4,_⟩:=b
 simp only [ant,and_true,Bool.decide_and]
theorem abm (a b:lH):decide (a=b)=(decide (a.1=b.1) && decide (a.2.1=b.2.1)):=by
 obtain ⟨a1,a2,_⟩:=a
 obtain ⟨b1,b2,_⟩:=b
 simp only [ant,and_true,Bool.decide_and]
theorem Kj {A:Type} [DecidableEq A] {xs ys:List A} (h:¬xs.length=ys.length):decide (xs=ys)=false:=decide_eq_false fun e=>h (by rw [e])
theorem Pw {n:Nat} {xs ys:List Int} (hb:xs.length≤big) (hn:big<n):gY n xs ys=some (decide (xs=ys),()):=by
 have hb':xs.length≤1048576:=hb
 unfold gY
 by_cases hl:xs.length=ys.length
 ·rw [if_neg (by simp [hl]), ←vo (d:=0) hl]
  refine aS (fun i=>(xs,ys,(xs.length:Int),(i:Int),())) _ _ (m:=xs.length) rfl (by omega) ?_ ?_
  ·intro L i hi _
   simp only [anJ,hi,decide_true,if_true,aH hi,aH (show i<ys.length by omega),anr,aT hi (by omega)]
   split <;> rfl
  ·intro L _
   simp
 ·rw [if_pos (by rw [decide_eq_false (show ¬((xs.length:Int)=(ys.length:Int)) by omega)]; rfl),Kj hl]
theorem N8 {n:Nat} {a b:mG} (ha:HZ a) (hn:big<n):kJ n a b=some (decide (a=b),()):=by
 unfold kJ
 rw [abl,Pw ha hn]
 simp only [ani]
 cases decide (a.1=b.1) <;> cases decide (a.2.1=b.2.1) <;> cases decide (a.2.2.1=b.2.2.1) <;> rfl
theorem N9 {n:Nat} {a b:mG}:jY n a b=some (decide (a=b),()):=by
 unfold jY
 rw [abl]
 cases decide (a.1=b.1) <;> cases decide (a.2.1=b.2.1) <;> cases decide (a.2.2.1=b.2.2.1) <;> rfl
theorem LD {n:Nat} {xs ys:List mG} (hb:xs.length≤big) (hm:∀m∈xs,HZ m) (hn:big<n):aN n xs ys=some (decide (xs=ys),()):=by
 have hb':xs.length≤1048576:=hb
 unfold aN
 by_cases hl:xs.length=ys.length
 ·rw [if_neg (by simp [hl]), ←vo (d:=dM) hl]
  refine aS (fun i=>(ys,xs,(xs.length:Int),(i:Int),())) _ _ (m:=xs.length) rfl (by omega) ?_ ?_
  ·intro L i hi _
   have h0:HZ (xs.getD i dM):=by rw [getD_lt hi]; exact hm _ (anL hi)
   simp only [anJ,hi,decide_true,if_true,aH hi,aH (show i<ys.length by omega),anr,aT hi (by omega),N8 h0 hn,ani]
   split <;> rfl
  ·intro L _
   simp
 ·rw [if_pos (by rw [decide_eq_false (show ¬((xs.length:Int)=(ys.length:Int)) by omega)]; rfl),Kj hl]
theorem Lm {n:Nat} {a b:Bx} (ha:okB a) (hn:big<n):kG n a b=some (decide (a=b),()):=by
 unfold kG
 rw [abk,LD ha.2.1 ha.2.2 hn]
 simp only [ani]
 cases decide (a.1=b.1) <;> cases decide (a.2.1=b.2.1) <;> cases decide (a.2.2.1=b.2.2.1) <;> rfl
theorem Lp {n:Nat} {a b:Bx} (ha:okB a) (hn:big<n):oZ n a b=some (decide (a=b),()):=by
 have hb':a.2.2.2.1.length≤1048576:=ha.2.1
 have hn':1048576<n:=hn
 unfold oZ
 rw [abk]
 have hlp:∀(hl:a.2.2.2.1.length=b.2.2.2.1.length),_=some (decide (a.2.2.2.1=b.2.2.2.1),()):=fun hl=>vo (d:=dM) hl
 cases h1:decide (a.1=b.1)
 ·rfl
 cases h2:decide (a.2.1=b.2.1)
 ·rfl
 cases h3:decide (a.2.2.1=b.2.2.1)
 ·rfl
 simp only [anK,ank,if_false,Bool.true_and]
 by_cases hl:a.2.2.2.1.length=b.2.2.2.1.length
 ·rw [if_neg (by simp [hl]), ←hlp hl]
  refine aS (fun i=>(a,b,(i:Int),())) _ _ (m:=a.2.2.2.1.length) rfl (by omega) ?_ ?_
  ·intro L i hi _
   simp only [anJ,hi,decide_true,if_true,aH hi,aH (show i<b.2.2.2.1.length by omega),anr,aT hi (by omega),N9,ani]
   split <;> rfl
  ·intro L _
   simp
 ·rw [if_pos (by rw [decide_eq_false (show ¬((a.2.2.2.1.length:Int)=(b.2.2.2.1.length:Int)) by omega)]; rfl),Kj hl]
theorem VP {n:Nat} {a b:lH} (ha:zI a) (hn:big<n):jU n a b=some (decide (a=b),()):=by
 have hb':a.2.1.length≤1048576:=ha.1
 have hn':1048576<n:=hn
 unfold jU bC
 rw [abm]
 cases h1:decide (a.1=b.1)
 ·rfl
 simp only [if_true,Bool.true_and]
 by_cases hl:a.2.1.length=b.2.1.length
 ·rw [if_neg (by simp [hl]), ←vo (d:=dB) hl]
  refine (congrArg (fun x=>Option.bind x fun r1:Bool×Unit=>some (r1.1,())) (aS (fun i=>(b.2.1,a.2.1,(a.2.1.length:Int),(i:Int),())) (fun j=>if (!decide (a.2.1.getD j dB=b.2.1.getD j dB))=true then some (some (false,())) else none) (some (true,())) (m:=a.2.1.length) rfl (by omega) ?_ ?_)).trans ?_
  ·intro L i hi _
   have h0:okB (a.2.1.getD i dB):=by rw [getD_lt hi]; exact ha.2 _ (anL hi)
   simp only [anJ,hi,decide_true,if_true,aH hi,aH (show i<b.2.1.length by omega),anr,aT hi (by omega),Lm h0 hn,ani]
   split <;> rfl
  ·intro L _
   simp
  ·rw [vo (d:=dB) hl]; rfl
 ·rw [if_pos (by rw [decide_eq_false (show ¬((a.2.1.length:Int)=(b.2.1.length:Int)) by omega)]; rfl),Kj hl]
  rfl
theorem VQ {n:Nat} {a b:lH} (ha:zI a) (hn:big<n):tN n a b=some (decide (a=b),()):=by
 have hb':a.2.1.length≤1048576:=ha.1
 have hn':1048576<n:=hn
 unfold tN
 rw [abm]
 cases h1:decide (a.1=b.1)
 ·rfl
 simp only [anK,ank,if_false,Bool.true_and]
 by_cases hl:a.2.1.length=b.2.1.length
 ·rw [if_neg (by simp [hl]), ←vo (d:=dB) hl]
  refine aS (fun i=>(a,b,(i:Int),())) _ _ (m:=a.2.1.length) rfl (by omega) ?_ ?_
  ·intro L i hi _
   have h0:okB (a.2.1.getD i dB):=by rw [getD_lt hi]; exact ha.2 _ (anL hi)
   simp only [anJ,hi,decide_true,if_true,aH hi,aH (show i<b.2.1.length by omega),anr,aT hi (by omega),Lp h0 hn,ani]
   split <;> rfl
  ·intro L _
   simp
 ·rw [if_pos (by rw [decide_eq_false (show ¬((a.2.1.length:Int)=(b.2.1.length:Int)) by omega)]; rfl),Kj hl]
theorem O7 {n:Nat} (c:Int):dW n c=some (bad c,()):=rfl
theorem U6 {s:lH} {o:OpC} {r:y8} (hg:xe s) (h:(iG o=0∧r=jI.yN (pK s o))∨(iG o≠0∧r=bad (iG o))) (h0:r.1=0):xe r.2.2.1:=by
 rcases h with ⟨h1,rfl⟩ | ⟨h1,rfl⟩
 ·unfold jI.yN at h0 ⊢
  by_cases h2:(pK s o).2.1=0
  ·rw [if_pos h2]
   exact PL.2 (Wl (PL.1 hg) (right h1) h2)
  ·rw [if_neg h2] at h0
   exact absurd h0 h2
 ·exact absurd h0 h1
theorem WN {n:Nat} {s:lH} {l:List OpC} (hs:zI s) (hg:xe s) (hl:∀o∈l,okO o) (hn:big<n) :
  ∃r:y8,mZ n s l=some (r,())∧mP n s l=some (r,())∧okR r∧(r.1=0→xe r.2.2.1):=by
 have hn':1048576<n:=hn
 obtain ⟨he,c,hc,hgc⟩:=JM hs hn
 have h0:=hgc.2 hg
 unfold mZ mP
 by_cases h6:(l.length:Int)>60
 ·rw [decide_eq_true h6,if_pos rfl,if_pos rfl]
  exact ⟨bad 2,rfl,rfl,Iz _,fun h=>absurd h (by decide)⟩
 rw [decide_eq_false h6,if_neg (by decide),if_neg (by decide),he,hc]
 simp only [ani,h0,decide_true,anK,ank,if_false,NV hs hn,own hs hn,O7]
 generalize hBs:(fun (L5:List OpC×Int×y8×y8×Unit→Option (y8×Unit)) v5=>_)=Bs
 generalize hBi:(fun (L3:List OpC×Int×Int×y8×lH×Unit→Option (y8×Unit)) v3=>_)=Bi
 have key:∀(m i:Nat) (s:lH) (f:Nat),i+m=l.length→m<f→zI s→xe s→∃r:y8,rounds Bs f (l,(i:Int),bad 0,(0,[],s,()),())=some (r,())∧rounds Bi f (l,(l.length:Int),(i:Int),bad 0,s,())=some (r,())∧okR r∧(r.1=0→xe r.2.2.1):=by
  intro m
  induction m with
  | zero=>
   intro i s f hi hf hs hg
   obtain ⟨f,rfl⟩:∃g,f=g+1:=⟨f - 1,by omega⟩
   refine ⟨(0,[],s,()), ?_, ?_,⟨by simp,hs⟩,fun _=>hg⟩
   ·show Bs (rounds Bs f) _=_
    rw [←hBs]
    simp only
    rw [if_neg (by rw [decide_eq_true_eq]; omega)]
   ·show Bi (rounds Bi f) _=_
    rw [←hBi]
    simp only
    rw [if_neg (by rw [decide_eq_true_eq]; omega)]
  | succ m ih=>
   intro i s f hi hf hs hg
   obtain ⟨f,rfl⟩:∃g,f=g+1:=⟨f - 1,by omega⟩
   have hlt:i<l.length:=by omega
   obtain ⟨r,e1,e2,e3,e4⟩:=DR hs (hl _ (anL hlt)) hg hn
   have q1:rounds Bs (f+1) (l,(i:Int),bad 0,(0,[],s,()),())=if (!decide (r.1=(0:Int)))=true then some (bad r.1,()) else rounds Bs f (l,((i+1:Nat):Int),bad 0,(0,[],r.2.2.1,()),()):=by
    show Bs (rounds Bs f) _=_
    conv=>lhs; rw [←hBs]
    simp only [anJ,hlt,decide_true,if_true,aH hlt,fu hlt,aT hlt (by omega),e1,ani]
    rw [hBs]
   have q2:rounds Bi (f+1) (l,(l.length:Int),(i:Int),bad 0,s,())=if (!decide (r.1=(0:Int)))=true then some (bad r.1,()) else rounds Bi f (l,(l.length:Int),((i+1:Nat):Int),bad 0,r.2.2.1,()):=by
    show Bi (rounds Bi f) _=_
    conv=>lhs; rw [←hBi]
    simp only [anJ,hlt,decide_true,if_true,aH hlt,fu hlt,aT hlt (by omega),e2,ani]
    rw [hBi]
    rfl
   rw [q1,q2]
   by_cases hr:r.1=0
   ·rw [if_neg (by simp [hr]),if_neg (by simp [hr])]
    exact ih (i+1) _ f (by omega) (by omega) e3.2 (U6 hg e4 hr)
   ·rw [if_pos (by simp [hr]),if_pos (by simp [hr])]
    exact ⟨bad r.1,rfl,rfl,Iz _,fun h=>absurd h hr⟩
 exact key l.length 0 s n (by omega) (by omega) hs hg
abbrev Fz:=Bool×List Int×List Int×lH×Unit
structure Wv (v:Fz):Prop where
 s1:v.2.1.length≤big
 b1:p9 v.2.1
 s2:v.2.2.1.length≤big
 b2:p9 v.2.2.1
 st:zI v.2.2.2.1
abbrev eS:lH:=(1,[],())
theorem aaM:zI eS∧xe eS:=⟨⟨by simp [big],fun b hb=>absurd hb (List.not_mem_nil)⟩,⟨by decide,by decide,fun i hi=>absurd hi (Nat.not_lt_zero i)⟩⟩
noncomputable def opsV (v:Fz):List OpC:=(jP v.2.1).1++(jP v.2.2.1).1
noncomputable def K4 (v:Fz):Bool:=decide (((jP v.2.1).2:Int)=(v.2.1.length:Int)) && decide (((jP v.2.2.1).2:Int)=(v.2.2.1.length:Int))
theorem aal {v:Fz} (h:Wv v):∀o∈opsV v,okO o∧OU o:=fun o ho=>(anq.1 ho).elim (aa9 h.b1 o) (aa9 h.b2 o)
theorem Qj {n:Nat} {v:Fz} (h:Wv v) (hn:big<n):jh n v=some (opsV v,K4 v,()):=by
 have h1:=(Ec v.2.1).2.2
 have h2:=(Ec v.2.2.1).2.2
 have g1:=h.s1
 have g2:=h.s2
 unfold big at g1 g2
 unfold jh cO
 rw [Mx h.b1 h.s1 hn,Mx h.b2 h.s2 hn]
 simp only [ani]
 rw [if_pos (by omega)]
 unfold K4 opsV
 cases decide (((jP v.2.1).2:Int)=(v.2.1.length:Int)) <;> rfl
theorem Qk {n:Nat} {v:Fz} (h:Wv v) (hn:big<n):pV n v=some (opsV v,K4 v,()):=by
 have h1:=(Ec v.2.1).2.2
 have h2:=(Ec v.2.2.1).2.2
 have g1:=h.s1
 have g2:=h.s2
 unfold big at g1 g2
 unfold pV
 rw [MB h.b1 h.s1 hn,MB h.b2 h.s2 hn]
 simp only [ani]
 rw [if_pos (by omega)]
 unfold K4 opsV
 cases decide (((jP v.2.1).2:Int)=(v.2.1.length:Int)) <;> rfl
theorem SQ {n:Nat} {v:Fz} (h:Wv v) (hn:big<n):∃c:Int,nI n v=some (c,())∧qi n v=some (c,())∧
  (c=0→v.2.1.length+v.2.2.1.length≤8000∧(v.1=true→xe v.2.2.2.1∧(opsV v).length≤60)):=by
 have g1:=h.s1
 have g2:=h.s2
 unfold big at g1 g2
 obtain ⟨he,c,hc,hgc⟩:=JM h.st hn
 obtain ⟨r,a1,a2,a3,a4⟩:=WN aaM.1 aaM.2 (fun o ho=>(aal h o ho).1) hn
 have a5:r.1=0→(opsV v).length≤60:=by
  intro h0
  by_cases h6:((opsV v).length:Int)>60
  ·unfold mZ at a1
   rw [decide_eq_true h6,if_pos rfl,O7] at a1
   simp only [ani,anh,ant,and_true] at a1
   rw [←a1] at h0
   exact absurd h0 (by decide)
  ·omega
 have e1:uR n=some (eS,()):=rfl
 have e2:uH n=some (eS,()):=rfl
 unfold nI qi
 simp only [he,hc,Qj h hn,Qk h hn,e1,e2,a1,a2,ani,VP a3.2 hn,VQ a3.2 hn]
 rw [wrap_i64 (x:=(v.2.1.length:Int)+(v.2.2.1.length:Int)) (by omega) (by omega)]
 by_cases c1:(v.2.1.length:Int)+(v.2.2.1.length:Int)>8000
 ·simp only [decide_eq_true c1,if_true]
  exact ⟨2,rfl,rfl,fun h=>absurd h (by decide)⟩
 simp only [decide_eq_false c1,ank,if_false]
 have l8:v.2.1.length+v.2.2.1.length≤8000:=by omega
 cases hu:v.1 with
 | false=>
  simp only [anV,if_true]
  by_cases c2:(v.2.2.1.length:Int)>0
  ·simp only [decide_eq_true c2,if_true]
   exact ⟨1,rfl,rfl,fun h=>absurd h (by decide)⟩
  simp only [decide_eq_false c2,ank,if_false]
  by_cases c3:v.2.2.2.1.1=0
  ·simp only [decide_eq_true c3,anK,ank,if_false]
   by_cases c4:(v.2.2.2.1.2.1.length:Int)>0
   ·simp only [decide_eq_true c4,if_true]
    exact ⟨1,rfl,rfl,fun h=>absurd h (by decide)⟩
   simp only [decide_eq_false c4,ank,if_false]
   exact ⟨0,rfl,rfl,fun _=>⟨l8,fun hh=>absurd hh (by decide)⟩⟩
  ·simp only [decide_eq_false c3,anV,if_true]
   exact ⟨1,rfl,rfl,fun h=>absurd h (by decide)⟩
 | true=>
  simp only [anK,ank,if_false]
  by_cases c2:c=0
  ·rw [decide_eq_true c2]
   simp only [anK,ank,if_false]
   cases K4 v with
   | false=>exact ⟨5,rfl,rfl,fun h=>absurd h (by decide)⟩
   | true=>
    simp only [anK,ank,if_false]
    by_cases c3:r.1=0
    ·rw [decide_eq_true c3]
     simp only [anK,ank,if_false]
     cases decide (r.2.2.1=v.2.2.2.1) with
     | false=>exact ⟨9,rfl,rfl,fun h=>absurd h (by decide)⟩
     | true=>exact ⟨0,rfl,rfl,fun _=>⟨l8,fun _=>⟨hgc.1 c2,a5 c3⟩⟩⟩
    ·rw [decide_eq_false c3]
     exact ⟨9,rfl,rfl,fun h=>absurd h (by decide)⟩
  ·rw [decide_eq_false c2]
   exact ⟨c,rfl,rfl,fun h=>absurd h c2⟩
theorem aax {n:Nat} {v:Fz} (h:Wv v) (hn:big<n):jA n v=some (v,()):=by
 unfold jA
 rw [IC h.s1 hn,IC h.s2 hn,aaw h.st hn]
 rfl
theorem ZL {n:Nat} {v:Fz} (h:Wv v) (hn:big<n):kY n v v=some (true,()):=by
 unfold kY
 rw [BF h.s1 hn,BF h.s2 hn,Tw h.st hn]
 simp
def lV (v:Fz):Prop:=(v.2.1.length≤9223372036854775807∧p9 v.2.1)∧(v.2.2.1.length≤9223372036854775807∧p9 v.2.2.1)∧lS v.2.2.2.1
theorem YT {n:Nat} {v:Fz} (hl:lV v) (hn:big<n):∃r,qY n v 1048576=some (r,())∧(r<0∨(r≤1048576∧Wv v)):=by
 unfold qY
 obtain ⟨r1,g1,g2⟩:=EN (n:=n) hl.1.1 (k:=1048576) (by omega) (by omega)
 simp only [g1,ani]
 by_cases c1:r1<0
 ·exact ⟨-1,by simp [c1], .inl (by omega)⟩
 have g2:=g2.resolve_left c1
 obtain ⟨r2,e1,e2⟩:=EN (n:=n) hl.2.1.1 (k:=r1) (by omega) (by omega)
 simp only [c1,decide_false,ank,if_false,e1,ani]
 by_cases c2:r2<0
 ·exact ⟨-1,by simp [c2], .inl (by omega)⟩
 have e2:=e2.resolve_left c2
 unfold vH
 obtain ⟨r3,f1,f2⟩:=adm (n:=n) hl.2.2.1 hl.2.2.2 (k:=r2) (by omega) (by omega) hn
 simp only [c2,decide_false,ank,if_false,f1,ani]
 by_cases c3:r3<0
 ·exact ⟨-1,by simp [c3], .inl (by omega)⟩
 rcases f2 with h | ⟨h6,h4,h5⟩
 ·exact absurd h c3
 ·exact ⟨r3,by simp [c3], .inr ⟨by omega,g2.2,hl.1.2,e2.2,hl.2.1.2,h4,h5⟩⟩
end Go.Proofs.YtailcbngagacaabGreat.sK
