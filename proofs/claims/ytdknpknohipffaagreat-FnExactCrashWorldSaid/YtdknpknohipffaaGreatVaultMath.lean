/- Vaults: both sides find the same fault. -/
import Derived.Test.YtdknpknohipffaaGreatOwF
import Derived.Test.YtdknpknohipffaaGreatLoopLib
import Derived.Test.YtdknpknohipffaaGreatPackLib
import Derived.Test.YtdknpknohipffaaGreatStoreMath
import Derived.Test.YtdknpknohipffaaGreatOpsMath
import Derived.Test.YtdknpknohipffaaGreatGoodMath
import Derived.Test.YtdknpknohipffaaGreatCodecMath
import Derived.Test.YtdknpknohipffaaGreatReadMath
import Derived.Test.YtdknpknohipffaaGreatReadSMath
import Derived.Test.YtdknpknohipffaaGreatJourMath
import Derived.Test.YtdknpknohipffaaGreatCwF
set_option linter.unusedSectionVars false
set_option linter.unusedVariables false
set_option linter.unusedSimpArgs false
namespace Go.Proofs.YtdknpknohipffaaGreat.wz
open Go Go.Proofs.YtdknpknohipffaaGreat.Ow Go.Proofs.YtdknpknohipffaaGreat.RG Go.Proofs.YtdknpknohipffaaGreat.kN Go.Proofs.YtdknpknohipffaaGreat.CO Go.Proofs.YtdknpknohipffaaGreat.gL Go.Proofs.YtdknpknohipffaaGreat.jV Go.Proofs.YtdknpknohipffaaGreat.Bu Go.Proofs.YtdknpknohipffaaGreat.lZ Go.Proofs.YtdknpknohipffaaGreat.Ib Go.Proofs.YtdknpknohipffaaGreat.Jy Go.Proofs.YtdknpknohipffaaGreat.LJ
instance aqB:DecidableEq nU:=inferInstance
instance aqA:DecidableEq Bx:=instDecidableEqProd
instance aqC:DecidableEq ni:=instDecidableEqProd
theorem yK {A:Type} [DecidableEq A] {xs ys:List A} {d:A} (hl:xs.length=ys.length):bY (fun j=>if (!decide (xs.getD j d=ys.getD j d))=true then some (some (false,())) else none) (some (true,())) xs.length 0=some (decide (xs=ys),()):=by
 by_cases h:xs=ys
 ·subst h
  rw [decide_eq_true rfl]
  exact bG (fun j _ _=>by simp)
 ·rw [decide_eq_false h]
  rcases Im (step:=fun j=>if (!decide (xs.getD j d=ys.getD j d))=true then some (some (false,())) else none) (fin:=some (true,())) (r:=some (false,())) (fun j=>by
   by_cases hh:xs.getD j d=ys.getD j d
   ·rw [if_neg (by rw [decide_eq_true hh]; decide)]; exact .inl rfl
   ·rw [if_pos (by rw [decide_eq_false hh]; decide)]; exact .inr rfl) (m:=xs.length) (i:=0) with h1 | h1
  ·exact h1
  ·exfalso
   refine h (List.ext_getElem hl fun i h2 h3=>?_)
   have:=EG (by simp) h1 i (Nat.zero_le _) (by omega)
   rw [getD_lt h2,getD_lt h3] at this
   simpa using this
theorem aeG (a b:nU):decide (a=b)=(decide (a.1=b.1) && (decide (a.2.1=b.2.1) && (decide (a.2.2.1=b.2.2.1) && decide (a.2.2.2.1=b.2.2.2.1)))):=by
 obtain ⟨a1,a2,a3,a4,_⟩:=a
 obtain ⟨b1,b2,b3,b4,_⟩:=b
 simp only [Prod.mk.injEq,and_true,Bool.decide_and]
theorem aeF (a b:Bx):decide (a=b)=(decide (a.1=b.1) && (decide (a.2.1=b.2.1) && (decide (a.2.2.1=b.2.2.1) && decide (a.2.2.2.1=b.2.2.2.1)))):=by
 obtain ⟨a1,a2,a3,a4,_⟩:=a
 obtain ⟨b1,b2,b3,b4,_⟩:=b
 simp only [Prod.mk.injEq,and_true,Bool.decide_and]
theorem aeH (a b:ni):decide (a=b)=(decide (a.1=b.1) && decide (a.2.1=b.2.1)):=by
 obtain ⟨a1,a2,_⟩:=a
 obtain ⟨b1,b2,_⟩:=b
 simp only [Prod.mk.injEq,and_true,Bool.decide_and]
theorem Nr {A:Type} [DecidableEq A] {xs ys:List A} (h:¬xs.length=ys.length):decide (xs=ys)=false:=decide_eq_false fun e=>h (by rw [e])
theorem SH {n:Nat} {xs ys:List Int} (hb:xs.length≤big) (hn:big<n):iB n xs ys=some (decide (xs=ys),()):=by
 have hb':xs.length≤1048576:=hb
 unfold iB
 by_cases hl:xs.length=ys.length
 ·rw [if_neg (by simp [hl]), ←yK (d:=0) hl]
  refine aM (fun i=>(xs,ys,(xs.length:Int),(i:Int),())) _ _ (m:=xs.length) rfl (by omega) ?_ ?_
  ·intro L i hi _
   simp only [Int.ofNat_lt,hi,decide_true,if_true,aG hi,aG (show i<ys.length by omega),Int.toNat_natCast,aN hi (by omega)]
   split <;> rfl
  ·intro L _
   simp
 ·rw [if_pos (by rw [decide_eq_false (show ¬((xs.length:Int)=(ys.length:Int)) by omega)]; rfl),Nr hl]
theorem Q9 {n:Nat} {a b:nU} (ha:KZ a) (hn:big<n):lJ n a b=some (decide (a=b),()):=by
 unfold lJ
 rw [aeG,SH ha hn]
 simp only [Option.bind_some]
 cases decide (a.1=b.1) <;> cases decide (a.2.1=b.2.1) <;> cases decide (a.2.2.1=b.2.2.1) <;> rfl
theorem Ra {n:Nat} {a b:nU}:kL n a b=some (decide (a=b),()):=by
 unfold kL
 rw [aeG]
 cases decide (a.1=b.1) <;> cases decide (a.2.1=b.2.1) <;> cases decide (a.2.2.1=b.2.2.1) <;> rfl
theorem OL {n:Nat} {xs ys:List nU} (hb:xs.length≤big) (hm:∀m∈xs,KZ m) (hn:big<n):aO n xs ys=some (decide (xs=ys),()):=by
 have hb':xs.length≤1048576:=hb
 unfold aO
 by_cases hl:xs.length=ys.length
 ·rw [if_neg (by simp [hl]), ←yK (d:=dM) hl]
  refine aM (fun i=>(ys,xs,(xs.length:Int),(i:Int),())) _ _ (m:=xs.length) rfl (by omega) ?_ ?_
  ·intro L i hi _
   have h0:KZ (xs.getD i dM):=by rw [getD_lt hi]; exact hm _ (List.getElem_mem hi)
   simp only [Int.ofNat_lt,hi,decide_true,if_true,aG hi,aG (show i<ys.length by omega),Int.toNat_natCast,aN hi (by omega),Q9 h0 hn,Option.bind_some]
   split <;> rfl
  ·intro L _
   simp
 ·rw [if_pos (by rw [decide_eq_false (show ¬((xs.length:Int)=(ys.length:Int)) by omega)]; rfl),Nr hl]
theorem Oy {n:Nat} {a b:Bx} (ha:okB a) (hn:big<n):lG n a b=some (decide (a=b),()):=by
 unfold lG
 rw [aeF,OL ha.2.1 ha.2.2 hn]
 simp only [Option.bind_some]
 cases decide (a.1=b.1) <;> cases decide (a.2.1=b.2.1) <;> cases decide (a.2.2.1=b.2.2.1) <;> rfl
theorem Oz {n:Nat} {a b:Bx} (ha:okB a) (hn:big<n):qY n a b=some (decide (a=b),()):=by
 have hb':a.2.2.2.1.length≤1048576:=ha.2.1
 have hn':1048576<n:=hn
 unfold qY
 rw [aeF]
 have hlp:∀(hl:a.2.2.2.1.length=b.2.2.2.1.length),_=some (decide (a.2.2.2.1=b.2.2.2.1),()):=fun hl=>yK (d:=dM) hl
 cases h1:decide (a.1=b.1)
 ·rfl
 cases h2:decide (a.2.1=b.2.1)
 ·rfl
 cases h3:decide (a.2.2.1=b.2.2.1)
 ·rfl
 simp only [Bool.not_true,Bool.false_eq_true,if_false,Bool.true_and]
 by_cases hl:a.2.2.2.1.length=b.2.2.2.1.length
 ·rw [if_neg (by simp [hl]), ←hlp hl]
  refine aM (fun i=>(a,b,(i:Int),())) _ _ (m:=a.2.2.2.1.length) rfl (by omega) ?_ ?_
  ·intro L i hi _
   simp only [Int.ofNat_lt,hi,decide_true,if_true,aG hi,aG (show i<b.2.2.2.1.length by omega),Int.toNat_natCast,aN hi (by omega),Ra,Option.bind_some]
   split <;> rfl
  ·intro L _
   simp
 ·rw [if_pos (by rw [decide_eq_false (show ¬((a.2.2.2.1.length:Int)=(b.2.2.2.1.length:Int)) by omega)]; rfl),Nr hl]
theorem YO {n:Nat} {a b:ni} (ha:Dp a) (hn:big<n):kJ n a b=some (decide (a=b),()):=by
 have hb':a.2.1.length≤1048576:=ha.1
 have hn':1048576<n:=hn
 unfold kJ bu
 rw [aeH]
 cases h1:decide (a.1=b.1)
 ·rfl
 simp only [if_true,Bool.true_and]
 by_cases hl:a.2.1.length=b.2.1.length
 ·rw [if_neg (by simp [hl]), ←yK (d:=dB) hl]
  refine (congrArg (fun x=>Option.bind x fun r1:Bool×Unit=>some (r1.1,())) (aM (fun i=>(b.2.1,a.2.1,(a.2.1.length:Int),(i:Int),())) (fun j=>if (!decide (a.2.1.getD j dB=b.2.1.getD j dB))=true then some (some (false,())) else none) (some (true,())) (m:=a.2.1.length) rfl (by omega) ?_ ?_)).trans ?_
  ·intro L i hi _
   have h0:okB (a.2.1.getD i dB):=by rw [getD_lt hi]; exact ha.2 _ (List.getElem_mem hi)
   simp only [Int.ofNat_lt,hi,decide_true,if_true,aG hi,aG (show i<b.2.1.length by omega),Int.toNat_natCast,aN hi (by omega),Oy h0 hn,Option.bind_some]
   split <;> rfl
  ·intro L _
   simp
  ·rw [yK (d:=dB) hl]; rfl
 ·rw [if_pos (by rw [decide_eq_false (show ¬((a.2.1.length:Int)=(b.2.1.length:Int)) by omega)]; rfl),Nr hl]
  rfl
theorem YP {n:Nat} {a b:ni} (ha:Dp a) (hn:big<n):wX n a b=some (decide (a=b),()):=by
 have hb':a.2.1.length≤1048576:=ha.1
 have hn':1048576<n:=hn
 unfold wX
 rw [aeH]
 cases h1:decide (a.1=b.1)
 ·rfl
 simp only [Bool.not_true,Bool.false_eq_true,if_false,Bool.true_and]
 by_cases hl:a.2.1.length=b.2.1.length
 ·rw [if_neg (by simp [hl]), ←yK (d:=dB) hl]
  refine aM (fun i=>(a,b,(i:Int),())) _ _ (m:=a.2.1.length) rfl (by omega) ?_ ?_
  ·intro L i hi _
   have h0:okB (a.2.1.getD i dB):=by rw [getD_lt hi]; exact ha.2 _ (List.getElem_mem hi)
   simp only [Int.ofNat_lt,hi,decide_true,if_true,aG hi,aG (show i<b.2.1.length by omega),Int.toNat_natCast,aN hi (by omega),Oz h0 hn,Option.bind_some]
   split <;> rfl
  ·intro L _
   simp
 ·rw [if_pos (by rw [decide_eq_false (show ¬((a.2.1.length:Int)=(b.2.1.length:Int)) by omega)]; rfl),Nr hl]
theorem Sk {n:Nat} (c:Int):dY n c=some (bad c,()):=rfl
theorem X7 {s:ni} {o:OpC} {r:CP} (hg:Al s) (h:(jh o=0∧r=jV.Ck (rV s o))∨(jh o≠0∧r=bad (jh o))) (h0:r.1=0):Al r.2.2.1:=by
 rcases h with ⟨h1,rfl⟩ | ⟨h1,rfl⟩
 ·unfold jV.Ck at h0 ⊢
  by_cases h2:(rV s o).2.1=0
  ·rw [if_pos h2]
   exact SV.2 (Zu (SV.1 hg) (right h1) h2)
  ·rw [if_neg h2] at h0
   exact absurd h0 h2
 ·exact absurd h0 h1
theorem ZR {n:Nat} {s:ni} {l:List OpC} (hs:Dp s) (hg:Al s) (hl:∀o∈l,okO o) (hn:big<n) :
  ∃r:CP,oI n s l=some (r,())∧oD n s l=some (r,())∧okR r∧(r.1=0→Al r.2.2.1):=by
 have hn':1048576<n:=hn
 obtain ⟨he,c,hc,hgc⟩:=MV hs hn
 have h0:=hgc.2 hg
 unfold oI oD
 by_cases h6:(l.length:Int)>60
 ·rw [decide_eq_true h6,if_pos rfl,if_pos rfl]
  exact ⟨bad 2,rfl,rfl,Lg _,fun h=>absurd h (by decide)⟩
 rw [decide_eq_false h6,if_neg (by decide),if_neg (by decide),he,hc]
 simp only [Option.bind_some,h0,decide_true,Bool.not_true,Bool.false_eq_true,if_false,Vv hs hn,own hs hn,Sk]
 generalize hBs:(fun (L5:List OpC×Int×CP×CP×Unit→Option (CP×Unit)) v5=>_)=Bs
 generalize hBi:(fun (L3:List OpC×Int×Int×CP×ni×Unit→Option (CP×Unit)) v3=>_)=Bi
 have key:∀(m i:Nat) (s:ni) (f:Nat),i+m=l.length→m<f→Dp s→Al s→∃r:CP,rounds Bs f (l,(i:Int),bad 0,(0,[],s,()),())=some (r,())∧rounds Bi f (l,(l.length:Int),(i:Int),bad 0,s,())=some (r,())∧okR r∧(r.1=0→Al r.2.2.1):=by
  intro m
  induction m with
  | zero=>
   intro i s f hi hf hs hg
   obtain ⟨f,rfl⟩:∃g,f=g+1:=⟨f - 1,by omega⟩
   refine ⟨(0,[],s,()), ?_, ?_,⟨by simp,hs⟩,fun _=>hg⟩
   ·show Bs (rounds Bs f) _=_
    rw [←hBs]
    simp only
    rw [if_neg (by rw [decide_eq_true_eq]; omega)]
   ·show Bi (rounds Bi f) _=_
    rw [←hBi]
    simp only
    rw [if_neg (by rw [decide_eq_true_eq]; omega)]
  | succ m ih=>
   intro i s f hi hf hs hg
   obtain ⟨f,rfl⟩:∃g,f=g+1:=⟨f - 1,by omega⟩
   have hlt:i<l.length:=by omega
   obtain ⟨r,e1,e2,e3,e4⟩:=Qu hs (hl _ (List.getElem_mem hlt)) hg hn
   have q1:rounds Bs (f+1) (l,(i:Int),bad 0,(0,[],s,()),())=if (!decide (r.1=(0:Int)))=true then some (bad r.1,()) else rounds Bs f (l,((i+1:Nat):Int),bad 0,(0,[],r.2.2.1,()),()):=by
    show Bs (rounds Bs f) _=_
    conv=>lhs; rw [←hBs]
    simp only [Int.ofNat_lt,hlt,decide_true,if_true,aG hlt,dR hlt,aN hlt (by omega),e1,Option.bind_some]
    rw [hBs]
   have q2:rounds Bi (f+1) (l,(l.length:Int),(i:Int),bad 0,s,())=if (!decide (r.1=(0:Int)))=true then some (bad r.1,()) else rounds Bi f (l,(l.length:Int),((i+1:Nat):Int),bad 0,r.2.2.1,()):=by
    show Bi (rounds Bi f) _=_
    conv=>lhs; rw [←hBi]
    simp only [Int.ofNat_lt,hlt,decide_true,if_true,aG hlt,dR hlt,aN hlt (by omega),e2,Option.bind_some]
    rw [hBi]
    rfl
   rw [q1,q2]
   by_cases hr:r.1=0
   ·rw [if_neg (by simp [hr]),if_neg (by simp [hr])]
    exact ih (i+1) _ f (by omega) (by omega) e3.2 (X7 hg e4 hr)
   ·rw [if_pos (by simp [hr]),if_pos (by simp [hr])]
    exact ⟨bad r.1,rfl,rfl,Lg _,fun h=>absurd h hr⟩
 exact key l.length 0 s n (by omega) (by omega) hs hg
abbrev KO:=Bool×List Int×List Int×ni×Unit
structure ZE (v:KO):Prop where
 s1:v.2.1.length≤big
 b1:tZ v.2.1
 s2:v.2.2.1.length≤big
 b2:tZ v.2.2.1
 st:Dp v.2.2.2.1
abbrev eS:ni:=(1,[],())
theorem ad9:Dp eS∧Al eS:=⟨⟨by simp [big],fun b hb=>absurd hb (List.not_mem_nil)⟩,⟨by decide,by decide,fun i hi=>absurd hi (Nat.not_lt_zero i)⟩⟩
noncomputable def opsV (v:KO):List OpC:=(jP v.2.1).1++(jP v.2.2.1).1
noncomputable def Oc (v:KO):Bool:=decide (((jP v.2.1).2:Int)=(v.2.1.length:Int)) && decide (((jP v.2.2.1).2:Int)=(v.2.2.1.length:Int))
theorem adv {v:KO} (h:ZE v):∀o∈opsV v,okO o∧Ui o:=fun o ho=>(List.mem_append.1 ho).elim (aew h.b1 o) (aew h.b2 o)
theorem abB {n:Nat} {v:KO} (h:ZE v) (hn:big<n):mq n v=some (opsV v,Oc v,()):=by
 have h1:=(Iu v.2.1).2.2
 have h2:=(Iu v.2.2.1).2.2
 have g1:=h.s1
 have g2:=h.s2
 unfold big at g1 g2
 unfold mq bN
 rw [Po h.b1 h.s1 hn,Po h.b2 h.s2 hn]
 simp only [Option.bind_some]
 rw [if_pos (by omega)]
 unfold Oc opsV
 cases decide (((jP v.2.1).2:Int)=(v.2.1.length:Int)) <;> rfl
theorem abC {n:Nat} {v:KO} (h:ZE v) (hn:big<n):wV n v=some (opsV v,Oc v,()):=by
 have h1:=(Iu v.2.1).2.2
 have h2:=(Iu v.2.2.1).2.2
 have g1:=h.s1
 have g2:=h.s2
 unfold big at g1 g2
 unfold wV
 rw [Pp h.b1 h.s1 hn,Pp h.b2 h.s2 hn]
 simp only [Option.bind_some]
 rw [if_pos (by omega)]
 unfold Oc opsV
 cases decide (((jP v.2.1).2:Int)=(v.2.1.length:Int)) <;> rfl
theorem GV {n:Nat} {v:KO} (h:ZE v) (hn:big<n):∃c:Int,iM n v=some (c,())∧kC n v=some (c,())∧
  (c=0→v.2.1.length+v.2.2.1.length≤8000∧(v.1=true→Al v.2.2.2.1∧(opsV v).length≤60)):=by
 have g1:=h.s1
 have g2:=h.s2
 unfold big at g1 g2
 obtain ⟨he,c,hc,hgc⟩:=MV h.st hn
 obtain ⟨r,a1,a2,a3,a4⟩:=ZR ad9.1 ad9.2 (fun o ho=>(adv h o ho).1) hn
 have a5:r.1=0→(opsV v).length≤60:=by
  intro h0
  by_cases h6:((opsV v).length:Int)>60
  ·unfold oI at a1
   rw [decide_eq_true h6,if_pos rfl,Sk] at a1
   simp only [Option.bind_some,Option.some.injEq,Prod.mk.injEq,and_true] at a1
   rw [←a1] at h0
   exact absurd h0 (by decide)
  ·omega
 have e1:yw n=some (eS,()):=rfl
 have e2:xW n=some (eS,()):=rfl
 unfold iM kC
 simp only [he,hc,abB h hn,abC h hn,e1,e2,a1,a2,Option.bind_some,YO a3.2 hn,YP a3.2 hn]
 rw [wrap_i64 (x:=(v.2.1.length:Int)+(v.2.2.1.length:Int)) (by omega) (by omega)]
 by_cases c1:(v.2.1.length:Int)+(v.2.2.1.length:Int)>8000
 ·simp only [decide_eq_true c1,if_true]
  exact ⟨2,rfl,rfl,fun h=>absurd h (by decide)⟩
 simp only [decide_eq_false c1,Bool.false_eq_true,if_false]
 have l8:v.2.1.length+v.2.2.1.length≤8000:=by omega
 cases hu:v.1 with
 | false=>
  simp only [Bool.not_false,if_true]
  by_cases c2:(v.2.2.1.length:Int)>0
  ·simp only [decide_eq_true c2,if_true]
   exact ⟨1,rfl,rfl,fun h=>absurd h (by decide)⟩
  simp only [decide_eq_false c2,Bool.false_eq_true,if_false]
  by_cases c3:v.2.2.2.1.1=0
  ·simp only [decide_eq_true c3,Bool.not_true,Bool.false_eq_true,if_false]
   by_cases c4:(v.2.2.2.1.2.1.length:Int)>0
   ·simp only [decide_eq_true c4,if_true]
    exact ⟨1,rfl,rfl,fun h=>absurd h (by decide)⟩
   simp only [decide_eq_false c4,Bool.false_eq_true,if_false]
   exact ⟨0,rfl,rfl,fun _=>⟨l8,fun hh=>absurd hh (by decide)⟩⟩
  ·simp only [decide_eq_false c3,Bool.not_false,if_true]
   exact ⟨1,rfl,rfl,fun h=>absurd h (by decide)⟩
 | true=>
  simp only [Bool.not_true,Bool.false_eq_true,if_false]
  by_cases c2:c=0
  ·rw [decide_eq_true c2]
   simp only [Bool.not_true,Bool.false_eq_true,if_false]
   cases Oc v with
   | false=>exact ⟨5,rfl,rfl,fun h=>absurd h (by decide)⟩
   | true=>
    simp only [Bool.not_true,Bool.false_eq_true,if_false]
    by_cases c3:r.1=0
    ·rw [decide_eq_true c3]
     simp only [Bool.not_true,Bool.false_eq_true,if_false]
     cases decide (r.2.2.1=v.2.2.2.1) with
     | false=>exact ⟨9,rfl,rfl,fun h=>absurd h (by decide)⟩
     | true=>exact ⟨0,rfl,rfl,fun _=>⟨l8,fun _=>⟨hgc.1 c2,a5 c3⟩⟩⟩
    ·rw [decide_eq_false c3]
     exact ⟨9,rfl,rfl,fun h=>absurd h (by decide)⟩
  ·rw [decide_eq_false c2]
   exact ⟨c,rfl,rfl,fun h=>absurd h c2⟩
theorem adH {n:Nat} {v:KO} (h:ZE v) (hn:big<n):uO n v=some (v,()):=by
 unfold uO
 rw [Ry h.s1 hn,Ry h.s2 hn,adG h.st hn]
 rfl
theorem ac0 {n:Nat} {v:KO} (h:ZE v) (hn:big<n):qA n v v=some (true,()):=by
 unfold qA
 rw [Ik h.s1 hn,Ik h.s2 hn,Wy h.st hn]
 simp
def lV (v:KO):Prop:=(v.2.1.length≤9223372036854775807∧tZ v.2.1)∧(v.2.2.1.length≤9223372036854775807∧tZ v.2.2.1)∧lS v.2.2.2.1
theorem abZ {n:Nat} {v:KO} (hl:lV v) (hn:big<n):∃r,uJ n v 1048576=some (r,())∧(r<0∨(r≤1048576∧ZE v)):=by
 unfold uJ
 obtain ⟨r1,g1,g2⟩:=Ll (n:=n) hl.1.1 (k:=1048576) (by omega) (by omega)
 simp only [g1,Option.bind_some]
 by_cases c1:r1<0
 ·exact ⟨-1,by simp [c1], .inl (by omega)⟩
 have g2:=g2.resolve_left c1
 obtain ⟨r2,e1,e2⟩:=Ll (n:=n) hl.2.1.1 (k:=r1) (by omega) (by omega)
 simp only [c1,decide_false,Bool.false_eq_true,if_false,e1,Option.bind_some]
 by_cases c2:r2<0
 ·exact ⟨-1,by simp [c2], .inl (by omega)⟩
 have e2:=e2.resolve_left c2
 unfold y5
 obtain ⟨r3,f1,f2⟩:=ag4 (n:=n) hl.2.2.1 hl.2.2.2 (k:=r2) (by omega) (by omega) hn
 simp only [c2,decide_false,Bool.false_eq_true,if_false,f1,Option.bind_some]
 by_cases c3:r3<0
 ·exact ⟨-1,by simp [c3], .inl (by omega)⟩
 rcases f2 with h | ⟨h6,h4,h5⟩
 ·exact absurd h c3
 ·exact ⟨r3,by simp [c3], .inr ⟨by omega,g2.2,hl.1.2,e2.2,hl.2.1.2,h4,h5⟩⟩
end Go.Proofs.YtdknpknohipffaaGreat.wz
