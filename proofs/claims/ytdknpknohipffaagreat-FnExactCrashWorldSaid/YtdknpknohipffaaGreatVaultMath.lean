/- Vaults: both sides find the same fault. -/
import Derived.Test.YtdknpknohipffaaGreatOwF
import Derived.Test.YtdknpknohipffaaGreatLoopLib
import Derived.Test.YtdknpknohipffaaGreatPackLib
import Derived.Test.YtdknpknohipffaaGreatStoreMath
import Derived.Test.YtdknpknohipffaaGreatOpsMath
import Derived.Test.YtdknpknohipffaaGreatGoodMath
import Derived.Test.YtdknpknohipffaaGreatCodecMath
import Derived.Test.YtdknpknohipffaaGreatReadMath
import Derived.Test.YtdknpknohipffaaGreatReadSMath
import Derived.Test.YtdknpknohipffaaGreatJourMath
import Derived.Test.YtdknpknohipffaaGreatCwF
set_option linter.unusedSectionVars false
set_option linter.unusedVariables false
set_option linter.unusedSimpArgs false
namespace Go.Proofs.YtdknpknohipffaaGreat.tC
open Go Go.Proofs.YtdknpknohipffaaGreat.Ow Go.Proofs.YtdknpknohipffaaGreat.Qq Go.Proofs.YtdknpknohipffaaGreat.kG Go.Proofs.YtdknpknohipffaaGreat.Ab Go.Proofs.YtdknpknohipffaaGreat.gK Go.Proofs.YtdknpknohipffaaGreat.jO Go.Proofs.YtdknpknohipffaaGreat.zb Go.Proofs.YtdknpknohipffaaGreat.lD Go.Proofs.YtdknpknohipffaaGreat.Fj Go.Proofs.YtdknpknohipffaaGreat.Hg Go.Proofs.YtdknpknohipffaaGreat.Ko
instance anU:DecidableEq nD:=inferInstance
instance anT:DecidableEq Bx:=instDecidableEqProd
instance anV:DecidableEq mq:=instDecidableEqProd
theorem vU {A:Type} [DecidableEq A] {xs ys:List A} {d:A} (hl:xs.length=ys.length):bX (fun j=>if (!decide (xs.getD j d=ys.getD j d))=true then some (some (false,())) else none) (some (true,())) xs.length 0=some (decide (xs=ys),()):=by
 by_cases h:xs=ys
 ·subst h
  rw [decide_eq_true rfl]
  exact bG (fun j _ _=>by simp)
 ·rw [decide_eq_false h]
  rcases FB (step:=fun j=>if (!decide (xs.getD j d=ys.getD j d))=true then some (some (false,())) else none) (fin:=some (true,())) (r:=some (false,())) (fun j=>by
   by_cases hh:xs.getD j d=ys.getD j d
   ·rw [if_neg (by rw [decide_eq_true hh]; decide)]; exact .inl rfl
   ·rw [if_pos (by rw [decide_eq_false hh]; decide)]; exact .inr rfl) (m:=xs.length) (i:=0) with h1 | h1
  ·exact h1
  ·exfalso
   refine h (List.ext_getElem hl fun i h2 h3=>?_)
   have:=BZ (by simp) h1 i (apM _) (by omega)
   rw [getD_lt h2,getD_lt h3] at this
   simpa using this
theorem adb (a b:nD):decide (a=b)=(decide (a.1=b.1) && (decide (a.2.1=b.2.1) && (decide (a.2.2.1=b.2.2.1) && decide (a.2.2.2.1=b.2.2.2.1)))):=by
 obtain ⟨a1,a2,a3,a4,_⟩:=a
 obtain ⟨b1,b2,b3,b4,_⟩:=b
 simp only [apo,and_true,Bool.decide_and]
theorem ada (a b:Bx):decide (a=b)=(decide (a.1=b.1) && (decide (a.2.1=b.2.1) && (decide (a.2.2.1=b.2.2.1) && decide (a.2.2.2.1=b.2.2.2.1)))):=by
 obtain ⟨a1,a2,a3,a4,_⟩:=a
 obtain ⟨b1,b2,b3,b4,_⟩:=b
 simp only [apo,and_true,Bool.decide_and]
theorem ade (a b:mq):decide (a=b)=(decide (a.1=b.1) && decide (a.2.1=b.2.1)):=by
 obtain ⟨a1,a2,_⟩:=a
 obtain ⟨b1,b2,_⟩:=b
 simp only [apo,and_true,Bool.decide_and]
theorem LZ {A:Type} [DecidableEq A] {xs ys:List A} (h:¬xs.length=ys.length):decide (xs=ys)=false:=decide_eq_false fun e=>h (by rw [e])
theorem Ri {n:Nat} {xs ys:List Int} (hb:xs.length≤big) (hn:big<n):iw n xs ys=some (decide (xs=ys),()):=by
 have hb':xs.length≤1048576:=hb
 unfold iw
 by_cases hl:xs.length=ys.length
 ·rw [if_neg (by simp [hl]), ←vU (d:=0) hl]
  refine aM (fun i=>(xs,ys,(xs.length:Int),(i:Int),())) _ _ (m:=xs.length) rfl (by omega) ?_ ?_
  ·intro L i hi _
   simp only [apE,hi,decide_true,if_true,aG hi,aG (show i<ys.length by omega),apn,aN hi (by omega)]
   split <;> rfl
  ·intro L _
   simp
 ·rw [if_pos (by rw [decide_eq_false (show ¬((xs.length:Int)=(ys.length:Int)) by omega)]; rfl),LZ hl]
theorem PZ {n:Nat} {a b:nD} (ha:Jy a) (hn:big<n):kU n a b=some (decide (a=b),()):=by
 unfold kU
 rw [adb,Ri ha hn]
 simp only [ape]
 cases decide (a.1=b.1) <;> cases decide (a.2.1=b.2.1) <;> cases decide (a.2.2.1=b.2.2.1) <;> rfl
theorem P5 {n:Nat} {a b:nD}:kF n a b=some (decide (a=b),()):=by
 unfold kF
 rw [adb]
 cases decide (a.1=b.1) <;> cases decide (a.2.1=b.2.1) <;> cases decide (a.2.2.1=b.2.2.1) <;> rfl
theorem Nr {n:Nat} {xs ys:List nD} (hb:xs.length≤big) (hm:∀m∈xs,Jy m) (hn:big<n):aO n xs ys=some (decide (xs=ys),()):=by
 have hb':xs.length≤1048576:=hb
 unfold aO
 by_cases hl:xs.length=ys.length
 ·rw [if_neg (by simp [hl]), ←vU (d:=dM) hl]
  refine aM (fun i=>(ys,xs,(xs.length:Int),(i:Int),())) _ _ (m:=xs.length) rfl (by omega) ?_ ?_
  ·intro L i hi _
   have h0:Jy (xs.getD i dM):=by rw [getD_lt hi]; exact hm _ (apG hi)
   simp only [apE,hi,decide_true,if_true,aG hi,aG (show i<ys.length by omega),apn,aN hi (by omega),PZ h0 hn,ape]
   split <;> rfl
  ·intro L _
   simp
 ·rw [if_pos (by rw [decide_eq_false (show ¬((xs.length:Int)=(ys.length:Int)) by omega)]; rfl),LZ hl]
theorem Nc {n:Nat} {a b:Bx} (ha:okB a) (hn:big<n):kQ n a b=some (decide (a=b),()):=by
 unfold kQ
 rw [ada,Nr ha.2.1 ha.2.2 hn]
 simp only [ape]
 cases decide (a.1=b.1) <;> cases decide (a.2.1=b.2.1) <;> cases decide (a.2.2.1=b.2.2.1) <;> rfl
theorem Nf {n:Nat} {a b:Bx} (ha:okB a) (hn:big<n):pX n a b=some (decide (a=b),()):=by
 have hb':a.2.2.2.1.length≤1048576:=ha.2.1
 have hn':1048576<n:=hn
 unfold pX
 rw [ada]
 have hlp:∀(hl:a.2.2.2.1.length=b.2.2.2.1.length),_=some (decide (a.2.2.2.1=b.2.2.2.1),()):=fun hl=>vU (d:=dM) hl
 cases h1:decide (a.1=b.1)
 ·rfl
 cases h2:decide (a.2.1=b.2.1)
 ·rfl
 cases h3:decide (a.2.2.1=b.2.2.1)
 ·rfl
 simp only [apF,apg,if_false,Bool.true_and]
 by_cases hl:a.2.2.2.1.length=b.2.2.2.1.length
 ·rw [if_neg (by simp [hl]), ←hlp hl]
  refine aM (fun i=>(a,b,(i:Int),())) _ _ (m:=a.2.2.2.1.length) rfl (by omega) ?_ ?_
  ·intro L i hi _
   simp only [apE,hi,decide_true,if_true,aG hi,aG (show i<b.2.2.2.1.length by omega),apn,aN hi (by omega),P5,ape]
   split <;> rfl
  ·intro L _
   simp
 ·rw [if_pos (by rw [decide_eq_false (show ¬((a.2.2.2.1.length:Int)=(b.2.2.2.1.length:Int)) by omega)]; rfl),LZ hl]
theorem XK {n:Nat} {a b:mq} (ha:AO a) (hn:big<n):kD n a b=some (decide (a=b),()):=by
 have hb':a.2.1.length≤1048576:=ha.1
 have hn':1048576<n:=hn
 unfold kD bu
 rw [ade]
 cases h1:decide (a.1=b.1)
 ·rfl
 simp only [if_true,Bool.true_and]
 by_cases hl:a.2.1.length=b.2.1.length
 ·rw [if_neg (by simp [hl]), ←vU (d:=dB) hl]
  refine (congrArg (fun x=>Option.bind x fun r1:Bool×Unit=>some (r1.1,())) (aM (fun i=>(b.2.1,a.2.1,(a.2.1.length:Int),(i:Int),())) (fun j=>if (!decide (a.2.1.getD j dB=b.2.1.getD j dB))=true then some (some (false,())) else none) (some (true,())) (m:=a.2.1.length) rfl (by omega) ?_ ?_)).trans ?_
  ·intro L i hi _
   have h0:okB (a.2.1.getD i dB):=by rw [getD_lt hi]; exact ha.2 _ (apG hi)
   simp only [apE,hi,decide_true,if_true,aG hi,aG (show i<b.2.1.length by omega),apn,aN hi (by omega),Nc h0 hn,ape]
   split <;> rfl
  ·intro L _
   simp
  ·rw [vU (d:=dB) hl]; rfl
 ·rw [if_pos (by rw [decide_eq_false (show ¬((a.2.1.length:Int)=(b.2.1.length:Int)) by omega)]; rfl),LZ hl]
  rfl
theorem XL {n:Nat} {a b:mq} (ha:AO a) (hn:big<n):uy n a b=some (decide (a=b),()):=by
 have hb':a.2.1.length≤1048576:=ha.1
 have hn':1048576<n:=hn
 unfold uy
 rw [ade]
 cases h1:decide (a.1=b.1)
 ·rfl
 simp only [apF,apg,if_false,Bool.true_and]
 by_cases hl:a.2.1.length=b.2.1.length
 ·rw [if_neg (by simp [hl]), ←vU (d:=dB) hl]
  refine aM (fun i=>(a,b,(i:Int),())) _ _ (m:=a.2.1.length) rfl (by omega) ?_ ?_
  ·intro L i hi _
   have h0:okB (a.2.1.getD i dB):=by rw [getD_lt hi]; exact ha.2 _ (apG hi)
   simp only [apE,hi,decide_true,if_true,aG hi,aG (show i<b.2.1.length by omega),apn,aN hi (by omega),Nf h0 hn,ape]
   split <;> rfl
  ·intro L _
   simp
 ·rw [if_pos (by rw [decide_eq_false (show ¬((a.2.1.length:Int)=(b.2.1.length:Int)) by omega)]; rfl),LZ hl]
theorem QU {n:Nat} (c:Int):dY n c=some (bad c,()):=rfl
theorem WU {s:mq} {o:OpC} {r:Ac} (hg:xS s) (h:(iZ o=0∧r=jO.zP (qm s o))∨(iZ o≠0∧r=bad (iZ o))) (h0:r.1=0):xS r.2.2.1:=by
 rcases h with ⟨h1,rfl⟩ | ⟨h1,rfl⟩
 ·unfold jO.zP at h0 ⊢
  by_cases h2:(qm s o).2.1=0
  ·rw [if_pos h2]
   exact Rq.2 (X9 (Rq.1 hg) (right h1) h2)
  ·rw [if_neg h2] at h0
   exact absurd h0 h2
 ·exact absurd h0 h1
theorem Yw {n:Nat} {s:mq} {l:List OpC} (hs:AO s) (hg:xS s) (hl:∀o∈l,okO o) (hn:big<n) :
  ∃r:Ac,nO n s l=some (r,())∧nK n s l=some (r,())∧okR r∧(r.1=0→xS r.2.2.1):=by
 have hn':1048576<n:=hn
 obtain ⟨he,c,hc,hgc⟩:=Lj hs hn
 have h0:=hgc.2 hg
 unfold nO nK
 by_cases h6:(l.length:Int)>60
 ·rw [decide_eq_true h6,if_pos rfl,if_pos rfl]
  exact ⟨bad 2,rfl,rfl,JZ _,fun h=>absurd h (by decide)⟩
 rw [decide_eq_false h6,if_neg (by decide),if_neg (by decide),he,hc]
 simp only [ape,h0,decide_true,apF,apg,if_false,Us hs hn,own hs hn,QU]
 generalize hBs:(fun (L5:List OpC×Int×Ac×Ac×Unit→Option (Ac×Unit)) v5=>_)=Bs
 generalize hBi:(fun (L3:List OpC×Int×Int×Ac×mq×Unit→Option (Ac×Unit)) v3=>_)=Bi
 have key:∀(m i:Nat) (s:mq) (f:Nat),i+m=l.length→m<f→AO s→xS s→∃r:Ac,rounds Bs f (l,(i:Int),bad 0,(0,[],s,()),())=some (r,())∧rounds Bi f (l,(l.length:Int),(i:Int),bad 0,s,())=some (r,())∧okR r∧(r.1=0→xS r.2.2.1):=by
  intro m
  induction m with
  | zero=>
   intro i s f hi hf hs hg
   obtain ⟨f,rfl⟩:∃g,f=g+1:=⟨f - 1,by omega⟩
   refine ⟨(0,[],s,()), ?_, ?_,⟨by simp,hs⟩,fun _=>hg⟩
   ·show Bs (rounds Bs f) _=_
    rw [←hBs]
    simp only
    rw [if_neg (by rw [decide_eq_true_eq]; omega)]
   ·show Bi (rounds Bi f) _=_
    rw [←hBi]
    simp only
    rw [if_neg (by rw [decide_eq_true_eq]; omega)]
  | succ m ih=>
   intro i s f hi hf hs hg
   obtain ⟨f,rfl⟩:∃g,f=g+1:=⟨f - 1,by omega⟩
   have hlt:i<l.length:=by omega
   obtain ⟨r,e1,e2,e3,e4⟩:=Pe hs (hl _ (apG hlt)) hg hn
   have q1:rounds Bs (f+1) (l,(i:Int),bad 0,(0,[],s,()),())=if (!decide (r.1=(0:Int)))=true then some (bad r.1,()) else rounds Bs f (l,((i+1:Nat):Int),bad 0,(0,[],r.2.2.1,()),()):=by
    show Bs (rounds Bs f) _=_
    conv=>lhs; rw [←hBs]
    simp only [apE,hlt,decide_true,if_true,aG hlt,dR hlt,aN hlt (by omega),e1,ape]
    rw [hBs]
   have q2:rounds Bi (f+1) (l,(l.length:Int),(i:Int),bad 0,s,())=if (!decide (r.1=(0:Int)))=true then some (bad r.1,()) else rounds Bi f (l,(l.length:Int),((i+1:Nat):Int),bad 0,r.2.2.1,()):=by
    show Bi (rounds Bi f) _=_
    conv=>lhs; rw [←hBi]
    simp only [apE,hlt,decide_true,if_true,aG hlt,dR hlt,aN hlt (by omega),e2,ape]
    rw [hBi]
    rfl
   rw [q1,q2]
   by_cases hr:r.1=0
   ·rw [if_neg (by simp [hr]),if_neg (by simp [hr])]
    exact ih (i+1) _ f (by omega) (by omega) e3.2 (WU hg e4 hr)
   ·rw [if_pos (by simp [hr]),if_pos (by simp [hr])]
    exact ⟨bad r.1,rfl,rfl,JZ _,fun h=>absurd h hr⟩
 exact key l.length 0 s n (by omega) (by omega) hs hg
abbrev Jn:=Bool×List Int×List Int×mq×Unit
structure Yi (v:Jn):Prop where
 s1:v.2.1.length≤big
 b1:qV v.2.1
 s2:v.2.2.1.length≤big
 b2:qV v.2.2.1
 st:AO v.2.2.2.1
abbrev eS:mq:=(1,[],())
theorem acF:AO eS∧xS eS:=⟨⟨by simp [big],fun b hb=>absurd hb (List.not_mem_nil)⟩,⟨by decide,by decide,fun i hi=>absurd hi (Nat.not_lt_zero i)⟩⟩
noncomputable def opsV (v:Jn):List OpC:=(jP v.2.1).1++(jP v.2.2.1).1
noncomputable def MU (v:Jn):Bool:=decide (((jP v.2.1).2:Int)=(v.2.1.length:Int)) && decide (((jP v.2.2.1).2:Int)=(v.2.2.1.length:Int))
theorem abX {v:Jn} (h:Yi v):∀o∈opsV v,okO o∧SH o:=fun o ho=>(apm.1 ho).elim (ac1 h.b1 o) (ac1 h.b2 o)
theorem aaf {n:Nat} {v:Jn} (h:Yi v) (hn:big<n):lG n v=some (opsV v,MU v,()):=by
 have h1:=(FJ v.2.1).2.2
 have h2:=(FJ v.2.2.1).2.2
 have g1:=h.s1
 have g2:=h.s2
 unfold big at g1 g2
 unfold lG bN
 rw [Oa h.b1 h.s1 hn,Oa h.b2 h.s2 hn]
 simp only [ape]
 rw [if_pos (by omega)]
 unfold MU opsV
 cases decide (((jP v.2.1).2:Int)=(v.2.1.length:Int)) <;> rfl
theorem aag {n:Nat} {v:Jn} (h:Yi v) (hn:big<n):uu n v=some (opsV v,MU v,()):=by
 have h1:=(FJ v.2.1).2.2
 have h2:=(FJ v.2.2.1).2.2
 have g1:=h.s1
 have g2:=h.s2
 unfold big at g1 g2
 unfold uu
 rw [Ob h.b1 h.s1 hn,Ob h.b2 h.s2 hn]
 simp only [ape]
 rw [if_pos (by omega)]
 unfold MU opsV
 cases decide (((jP v.2.1).2:Int)=(v.2.1.length:Int)) <;> rfl
theorem EG {n:Nat} {v:Jn} (h:Yi v) (hn:big<n):∃c:Int,iI n v=some (c,())∧j4 n v=some (c,())∧
  (c=0→v.2.1.length+v.2.2.1.length≤8000∧(v.1=true→xS v.2.2.2.1∧(opsV v).length≤60)):=by
 have g1:=h.s1
 have g2:=h.s2
 unfold big at g1 g2
 obtain ⟨he,c,hc,hgc⟩:=Lj h.st hn
 obtain ⟨r,a1,a2,a3,a4⟩:=Yw acF.1 acF.2 (fun o ho=>(abX h o ho).1) hn
 have a5:r.1=0→(opsV v).length≤60:=by
  intro h0
  by_cases h6:((opsV v).length:Int)>60
  ·unfold nO at a1
   rw [decide_eq_true h6,if_pos rfl,QU] at a1
   simp only [ape,apd,apo,and_true] at a1
   rw [←a1] at h0
   exact absurd h0 (by decide)
  ·omega
 have e1:vH n=some (eS,()):=rfl
 have e2:uY n=some (eS,()):=rfl
 unfold iI j4
 simp only [he,hc,aaf h hn,aag h hn,e1,e2,a1,a2,ape,XK a3.2 hn,XL a3.2 hn]
 rw [wrap_i64 (x:=(v.2.1.length:Int)+(v.2.2.1.length:Int)) (by omega) (by omega)]
 by_cases c1:(v.2.1.length:Int)+(v.2.2.1.length:Int)>8000
 ·simp only [decide_eq_true c1,if_true]
  exact ⟨2,rfl,rfl,fun h=>absurd h (by decide)⟩
 simp only [decide_eq_false c1,apg,if_false]
 have l8:v.2.1.length+v.2.2.1.length≤8000:=by omega
 cases hu:v.1 with
 | false=>
  simp only [apQ,if_true]
  by_cases c2:(v.2.2.1.length:Int)>0
  ·simp only [decide_eq_true c2,if_true]
   exact ⟨1,rfl,rfl,fun h=>absurd h (by decide)⟩
  simp only [decide_eq_false c2,apg,if_false]
  by_cases c3:v.2.2.2.1.1=0
  ·simp only [decide_eq_true c3,apF,apg,if_false]
   by_cases c4:(v.2.2.2.1.2.1.length:Int)>0
   ·simp only [decide_eq_true c4,if_true]
    exact ⟨1,rfl,rfl,fun h=>absurd h (by decide)⟩
   simp only [decide_eq_false c4,apg,if_false]
   exact ⟨0,rfl,rfl,fun _=>⟨l8,fun hh=>absurd hh (by decide)⟩⟩
  ·simp only [decide_eq_false c3,apQ,if_true]
   exact ⟨1,rfl,rfl,fun h=>absurd h (by decide)⟩
 | true=>
  simp only [apF,apg,if_false]
  by_cases c2:c=0
  ·rw [decide_eq_true c2]
   simp only [apF,apg,if_false]
   cases MU v with
   | false=>exact ⟨5,rfl,rfl,fun h=>absurd h (by decide)⟩
   | true=>
    simp only [apF,apg,if_false]
    by_cases c3:r.1=0
    ·rw [decide_eq_true c3]
     simp only [apF,apg,if_false]
     cases decide (r.2.2.1=v.2.2.2.1) with
     | false=>exact ⟨9,rfl,rfl,fun h=>absurd h (by decide)⟩
     | true=>exact ⟨0,rfl,rfl,fun _=>⟨l8,fun _=>⟨hgc.1 c2,a5 c3⟩⟩⟩
    ·rw [decide_eq_false c3]
     exact ⟨9,rfl,rfl,fun h=>absurd h (by decide)⟩
  ·rw [decide_eq_false c2]
   exact ⟨c,rfl,rfl,fun h=>absurd h c2⟩
theorem ab9 {n:Nat} {v:Jn} (h:Yi v) (hn:big<n):rP n v=some (v,()):=by
 unfold rP
 rw [Ql h.s1 hn,Ql h.s2 hn,ab8 h.st hn]
 rfl
theorem abu {n:Nat} {v:Jn} (h:Yi v) (hn:big<n):oU n v v=some (true,()):=by
 unfold oU
 rw [Fy h.s1 hn,Fy h.s2 hn,Vk h.st hn]
 simp
def lV (v:Jn):Prop:=(v.2.1.length≤9223372036854775807∧qV v.2.1)∧(v.2.2.1.length≤9223372036854775807∧qV v.2.2.1)∧lS v.2.2.2.1
theorem aaD {n:Nat} {v:Jn} (hl:lV v) (hn:big<n):∃r,rG n v 1048576=some (r,())∧(r<0∨(r≤1048576∧Yi v)):=by
 unfold rG
 obtain ⟨r1,g1,g2⟩:=J5 (n:=n) hl.1.1 (k:=1048576) (by omega) (by omega)
 simp only [g1,ape]
 by_cases c1:r1<0
 ·exact ⟨-1,by simp [c1], .inl (by omega)⟩
 have g2:=g2.resolve_left c1
 obtain ⟨r2,e1,e2⟩:=J5 (n:=n) hl.2.1.1 (k:=r1) (by omega) (by omega)
 simp only [c1,decide_false,apg,if_false,e1,ape]
 by_cases c2:r2<0
 ·exact ⟨-1,by simp [c2], .inl (by omega)⟩
 have e2:=e2.resolve_left c2
 unfold wC
 obtain ⟨r3,f1,f2⟩:=ae5 (n:=n) hl.2.2.1 hl.2.2.2 (k:=r2) (by omega) (by omega) hn
 simp only [c2,decide_false,apg,if_false,f1,ape]
 by_cases c3:r3<0
 ·exact ⟨-1,by simp [c3], .inl (by omega)⟩
 rcases f2 with h | ⟨h6,h4,h5⟩
 ·exact absurd h c3
 ·exact ⟨r3,by simp [c3], .inr ⟨by omega,g2.2,hl.1.2,e2.2,hl.2.1.2,h4,h5⟩⟩
end Go.Proofs.YtdknpknohipffaaGreat.tC
