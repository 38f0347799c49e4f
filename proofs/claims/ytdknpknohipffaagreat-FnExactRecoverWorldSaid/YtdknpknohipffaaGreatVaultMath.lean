/- Vaults: both sides find the same fault. -/
import Derived.Test.YtdknpknohipffaaGreatOwF
import Derived.Test.YtdknpknohipffaaGreatLoopLib
import Derived.Test.YtdknpknohipffaaGreatPackLib
import Derived.Test.YtdknpknohipffaaGreatStoreMath
import Derived.Test.YtdknpknohipffaaGreatOpsMath
import Derived.Test.YtdknpknohipffaaGreatGoodMath
import Derived.Test.YtdknpknohipffaaGreatCodecMath
import Derived.Test.YtdknpknohipffaaGreatReadMath
import Derived.Test.YtdknpknohipffaaGreatReadSMath
import Derived.Test.YtdknpknohipffaaGreatJourMath
import Derived.Test.YtdknpknohipffaaGreatRwF
set_option linter.unusedSectionVars false
set_option linter.unusedVariables false
set_option linter.unusedSimpArgs false
namespace Go.Proofs.YtdknpknohipffaaGreat.yG
open Go Go.Proofs.YtdknpknohipffaaGreat.Ow Go.Proofs.YtdknpknohipffaaGreat.Uf Go.Proofs.YtdknpknohipffaaGreat.nW Go.Proofs.YtdknpknohipffaaGreat.CO Go.Proofs.YtdknpknohipffaaGreat.iI Go.Proofs.YtdknpknohipffaaGreat.kR Go.Proofs.YtdknpknohipffaaGreat.Bu Go.Proofs.YtdknpknohipffaaGreat.oQ Go.Proofs.YtdknpknohipffaaGreat.HY Go.Proofs.YtdknpknohipffaaGreat.Js Go.Proofs.YtdknpknohipffaaGreat.LF
instance aqj:DecidableEq nX:=inferInstance
instance aqi:DecidableEq Bx:=instDecidableEqProd
instance aqk:DecidableEq nA:=instDecidableEqProd
theorem yJ {A:Type} [DecidableEq A] {xs ys:List A} {d:A} (hl:xs.length=ys.length):bY (fun j=>if (!decide (xs.getD j d=ys.getD j d))=true then some (some (false,())) else none) (some (true,())) xs.length 0=some (decide (xs=ys),()):=by
 by_cases h:xs=ys
 ·subst h
  rw [decide_eq_true rfl]
  exact bJ (fun j _ _=>by simp)
 ·rw [decide_eq_false h]
  rcases Ig (step:=fun j=>if (!decide (xs.getD j d=ys.getD j d))=true then some (some (false,())) else none) (fin:=some (true,())) (r:=some (false,())) (fun j=>by
   by_cases hh:xs.getD j d=ys.getD j d
   ·rw [if_neg (by rw [decide_eq_true hh]; decide)]; exact .inl rfl
   ·rw [if_pos (by rw [decide_eq_false hh]; decide)]; exact .inr rfl) (m:=xs.length) (i:=0) with h1 | h1
  ·exact h1
  ·exfalso
   refine h (List.ext_getElem hl fun i h2 h3=>?_)
   have:=EC (by simp) h1 i (Nat.zero_le _) (by omega)
   rw [getD_lt h2,getD_lt h3] at this
   simpa using this
theorem aeA (a b:nX):decide (a=b)=(decide (a.1=b.1) && (decide (a.2.1=b.2.1) && (decide (a.2.2.1=b.2.2.1) && decide (a.2.2.2.1=b.2.2.2.1)))):=by
 obtain ⟨a1,a2,a3,a4,_⟩:=a
 obtain ⟨b1,b2,b3,b4,_⟩:=b
 simp only [Prod.mk.injEq,and_true,Bool.decide_and]
theorem aez (a b:Bx):decide (a=b)=(decide (a.1=b.1) && (decide (a.2.1=b.2.1) && (decide (a.2.2.1=b.2.2.1) && decide (a.2.2.2.1=b.2.2.2.1)))):=by
 obtain ⟨a1,a2,a3,a4,_⟩:=a
 obtain ⟨b1,b2,b3,b4,_⟩:=b
 simp only [Prod.mk.injEq,and_true,Bool.decide_and]
theorem aeB (a b:nA):decide (a=b)=(decide (a.1=b.1) && decide (a.2.1=b.2.1)):=by
 obtain ⟨a1,a2,_⟩:=a
 obtain ⟨b1,b2,_⟩:=b
 simp only [Prod.mk.injEq,and_true,Bool.decide_and]
theorem Nr {A:Type} [DecidableEq A] {xs ys:List A} (h:¬xs.length=ys.length):decide (xs=ys)=false:=decide_eq_false fun e=>h (by rw [e])
theorem SB {n:Nat} {xs ys:List Int} (hb:xs.length≤big) (hn:big<n):iq n xs ys=some (decide (xs=ys),()):=by
 have hb':xs.length≤1048576:=hb
 unfold iq
 by_cases hl:xs.length=ys.length
 ·rw [if_neg (by simp [hl]), ←yJ (d:=0) hl]
  refine aO (fun i=>(xs,ys,(xs.length:Int),(i:Int),())) _ _ (m:=xs.length) rfl (by omega) ?_ ?_
  ·intro L i hi _
   simp only [Int.ofNat_lt,hi,decide_true,if_true,aG hi,aG (show i<ys.length by omega),Int.toNat_natCast,aN hi (by omega)]
   split <;> rfl
  ·intro L _
   simp
 ·rw [if_pos (by rw [decide_eq_false (show ¬((xs.length:Int)=(ys.length:Int)) by omega)]; rfl),Nr hl]
theorem Q4 {n:Nat} {a b:nX} (ha:KT a) (hn:big<n):lT n a b=some (decide (a=b),()):=by
 unfold lT
 rw [aeA,SB ha hn]
 simp only [Option.bind_some]
 cases decide (a.1=b.1) <;> cases decide (a.2.1=b.2.1) <;> cases decide (a.2.2.1=b.2.2.1) <;> rfl
theorem Q5 {n:Nat} {a b:nX}:kQ n a b=some (decide (a=b),()):=by
 unfold kQ
 rw [aeA]
 cases decide (a.1=b.1) <;> cases decide (a.2.1=b.2.1) <;> cases decide (a.2.2.1=b.2.2.1) <;> rfl
theorem OJ {n:Nat} {xs ys:List nX} (hb:xs.length≤big) (hm:∀m∈xs,KT m) (hn:big<n):aM n xs ys=some (decide (xs=ys),()):=by
 have hb':xs.length≤1048576:=hb
 unfold aM
 by_cases hl:xs.length=ys.length
 ·rw [if_neg (by simp [hl]), ←yJ (d:=dM) hl]
  refine aO (fun i=>(ys,xs,(xs.length:Int),(i:Int),())) _ _ (m:=xs.length) rfl (by omega) ?_ ?_
  ·intro L i hi _
   have h0:KT (xs.getD i dM):=by rw [getD_lt hi]; exact hm _ (List.getElem_mem hi)
   simp only [Int.ofNat_lt,hi,decide_true,if_true,aG hi,aG (show i<ys.length by omega),Int.toNat_natCast,aN hi (by omega),Q4 h0 hn,Option.bind_some]
   split <;> rfl
  ·intro L _
   simp
 ·rw [if_pos (by rw [decide_eq_false (show ¬((xs.length:Int)=(ys.length:Int)) by omega)]; rfl),Nr hl]
theorem Ox {n:Nat} {a b:Bx} (ha:okB a) (hn:big<n):lK n a b=some (decide (a=b),()):=by
 unfold lK
 rw [aez,OJ ha.2.1 ha.2.2 hn]
 simp only [Option.bind_some]
 cases decide (a.1=b.1) <;> cases decide (a.2.1=b.2.1) <;> cases decide (a.2.2.1=b.2.2.1) <;> rfl
theorem Oy {n:Nat} {a b:Bx} (ha:okB a) (hn:big<n):q8 n a b=some (decide (a=b),()):=by
 have hb':a.2.2.2.1.length≤1048576:=ha.2.1
 have hn':1048576<n:=hn
 unfold q8
 rw [aez]
 have hlp:∀(hl:a.2.2.2.1.length=b.2.2.2.1.length),_=some (decide (a.2.2.2.1=b.2.2.2.1),()):=fun hl=>yJ (d:=dM) hl
 cases h1:decide (a.1=b.1)
 ·rfl
 cases h2:decide (a.2.1=b.2.1)
 ·rfl
 cases h3:decide (a.2.2.1=b.2.2.1)
 ·rfl
 simp only [Bool.not_true,Bool.false_eq_true,if_false,Bool.true_and]
 by_cases hl:a.2.2.2.1.length=b.2.2.2.1.length
 ·rw [if_neg (by simp [hl]), ←hlp hl]
  refine aO (fun i=>(a,b,(i:Int),())) _ _ (m:=a.2.2.2.1.length) rfl (by omega) ?_ ?_
  ·intro L i hi _
   simp only [Int.ofNat_lt,hi,decide_true,if_true,aG hi,aG (show i<b.2.2.2.1.length by omega),Int.toNat_natCast,aN hi (by omega),Q5,Option.bind_some]
   split <;> rfl
  ·intro L _
   simp
 ·rw [if_pos (by rw [decide_eq_false (show ¬((a.2.2.2.1.length:Int)=(b.2.2.2.1.length:Int)) by omega)]; rfl),Nr hl]
theorem YH {n:Nat} {a b:nA} (ha:Cy a) (hn:big<n):kN n a b=some (decide (a=b),()):=by
 have hb':a.2.1.length≤1048576:=ha.1
 have hn':1048576<n:=hn
 unfold kN bu
 rw [aeB]
 cases h1:decide (a.1=b.1)
 ·rfl
 simp only [if_true,Bool.true_and]
 by_cases hl:a.2.1.length=b.2.1.length
 ·rw [if_neg (by simp [hl]), ←yJ (d:=dB) hl]
  refine (congrArg (fun x=>Option.bind x fun r1:Bool×Unit=>some (r1.1,())) (aO (fun i=>(b.2.1,a.2.1,(a.2.1.length:Int),(i:Int),())) (fun j=>if (!decide (a.2.1.getD j dB=b.2.1.getD j dB))=true then some (some (false,())) else none) (some (true,())) (m:=a.2.1.length) rfl (by omega) ?_ ?_)).trans ?_
  ·intro L i hi _
   have h0:okB (a.2.1.getD i dB):=by rw [getD_lt hi]; exact ha.2 _ (List.getElem_mem hi)
   simp only [Int.ofNat_lt,hi,decide_true,if_true,aG hi,aG (show i<b.2.1.length by omega),Int.toNat_natCast,aN hi (by omega),Ox h0 hn,Option.bind_some]
   split <;> rfl
  ·intro L _
   simp
  ·rw [yJ (d:=dB) hl]; rfl
 ·rw [if_pos (by rw [decide_eq_false (show ¬((a.2.1.length:Int)=(b.2.1.length:Int)) by omega)]; rfl),Nr hl]
  rfl
theorem YI {n:Nat} {a b:nA} (ha:Cy a) (hn:big<n):wX n a b=some (decide (a=b),()):=by
 have hb':a.2.1.length≤1048576:=ha.1
 have hn':1048576<n:=hn
 unfold wX
 rw [aeB]
 cases h1:decide (a.1=b.1)
 ·rfl
 simp only [Bool.not_true,Bool.false_eq_true,if_false,Bool.true_and]
 by_cases hl:a.2.1.length=b.2.1.length
 ·rw [if_neg (by simp [hl]), ←yJ (d:=dB) hl]
  refine aO (fun i=>(a,b,(i:Int),())) _ _ (m:=a.2.1.length) rfl (by omega) ?_ ?_
  ·intro L i hi _
   have h0:okB (a.2.1.getD i dB):=by rw [getD_lt hi]; exact ha.2 _ (List.getElem_mem hi)
   simp only [Int.ofNat_lt,hi,decide_true,if_true,aG hi,aG (show i<b.2.1.length by omega),Int.toNat_natCast,aN hi (by omega),Oy h0 hn,Option.bind_some]
   split <;> rfl
  ·intro L _
   simp
 ·rw [if_pos (by rw [decide_eq_false (show ¬((a.2.1.length:Int)=(b.2.1.length:Int)) by omega)]; rfl),Nr hl]
theorem Sc {n:Nat} (c:Int):dY n c=some (bad c,()):=rfl
theorem XZ {s:nA} {o:OpC} {r:CP} (hg:BU s) (h:(jg o=0∧r=kR.Cj (rW s o))∨(jg o≠0∧r=bad (jg o))) (h0:r.1=0):BU r.2.2.1:=by
 rcases h with ⟨h1,rfl⟩ | ⟨h1,rfl⟩
 ·unfold kR.Cj at h0 ⊢
  by_cases h2:(rW s o).2.1=0
  ·rw [if_pos h2]
   exact SK.2 (Zm (SK.1 hg) (right h1) h2)
  ·rw [if_neg h2] at h0
   exact absurd h0 h2
 ·exact absurd h0 h1
theorem Sb {n:Nat} {s:nA} {l:List OpC} (hs:Cy s) (hg:BU s) (hl:∀o∈l,okO o) (hn:big<n) :
  ∃r:CP,kE n s l=some (r,())∧kC n s l=some (r,())∧okR r∧(r.1=0→BU r.2.2.1):=by
 have hn':1048576<n:=hn
 obtain ⟨he,c,hc,hgc⟩:=MU hs hn
 have h0:=hgc.2 hg
 unfold kE kC
 by_cases h6:(l.length:Int)>60
 ·rw [decide_eq_true h6,if_pos rfl,if_pos rfl]
  exact ⟨bad 2,rfl,rfl,Lc _,fun h=>absurd h (by decide)⟩
 rw [decide_eq_false h6,if_neg (by decide),if_neg (by decide),he,hc]
 simp only [Option.bind_some,h0,decide_true,Bool.not_true,Bool.false_eq_true,if_false,QV hs hn,own hs hn,Sc]
 generalize hBs:(fun (L5:List OpC×Int×CP×CP×Unit→Option (CP×Unit)) v5=>_)=Bs
 generalize hBi:(fun (L3:List OpC×Int×Int×CP×nA×Unit→Option (CP×Unit)) v3=>_)=Bi
 have key:∀(m i:Nat) (s:nA) (f:Nat),i+m=l.length→m<f→Cy s→BU s→∃r:CP,rounds Bs f (l,(i:Int),bad 0,(0,[],s,()),())=some (r,())∧rounds Bi f (l,(l.length:Int),(i:Int),bad 0,s,())=some (r,())∧okR r∧(r.1=0→BU r.2.2.1):=by
  intro m
  induction m with
  | zero=>
   intro i s f hi hf hs hg
   obtain ⟨f,rfl⟩:∃g,f=g+1:=⟨f - 1,by omega⟩
   refine ⟨(0,[],s,()), ?_, ?_,⟨by simp,hs⟩,fun _=>hg⟩
   ·show Bs (rounds Bs f) _=_
    rw [←hBs]
    simp only
    rw [if_neg (by rw [decide_eq_true_eq]; omega)]
   ·show Bi (rounds Bi f) _=_
    rw [←hBi]
    simp only
    rw [if_neg (by rw [decide_eq_true_eq]; omega)]
  | succ m ih=>
   intro i s f hi hf hs hg
   obtain ⟨f,rfl⟩:∃g,f=g+1:=⟨f - 1,by omega⟩
   have hlt:i<l.length:=by omega
   obtain ⟨r,e1,e2,e3,e4⟩:=Qo hs (hl _ (List.getElem_mem hlt)) hg hn
   have q1:rounds Bs (f+1) (l,(i:Int),bad 0,(0,[],s,()),())=if (!decide (r.1=(0:Int)))=true then some (bad r.1,()) else rounds Bs f (l,((i+1:Nat):Int),bad 0,(0,[],r.2.2.1,()),()):=by
    show Bs (rounds Bs f) _=_
    conv=>lhs; rw [←hBs]
    simp only [Int.ofNat_lt,hlt,decide_true,if_true,aG hlt,dU hlt,aN hlt (by omega),e1,Option.bind_some]
    rw [hBs]
   have q2:rounds Bi (f+1) (l,(l.length:Int),(i:Int),bad 0,s,())=if (!decide (r.1=(0:Int)))=true then some (bad r.1,()) else rounds Bi f (l,(l.length:Int),((i+1:Nat):Int),bad 0,r.2.2.1,()):=by
    show Bi (rounds Bi f) _=_
    conv=>lhs; rw [←hBi]
    simp only [Int.ofNat_lt,hlt,decide_true,if_true,aG hlt,dU hlt,aN hlt (by omega),e2,Option.bind_some]
    rw [hBi]
    rfl
   rw [q1,q2]
   by_cases hr:r.1=0
   ·rw [if_neg (by simp [hr]),if_neg (by simp [hr])]
    exact ih (i+1) _ f (by omega) (by omega) e3.2 (XZ hg e4 hr)
   ·rw [if_pos (by simp [hr]),if_pos (by simp [hr])]
    exact ⟨bad r.1,rfl,rfl,Lc _,fun h=>absurd h hr⟩
 exact key l.length 0 s n (by omega) (by omega) hs hg
abbrev K8:=Bool×List Int×List Int×nA×Unit
structure OKV (v:K8):Prop where
 s1:v.2.1.length≤big
 b1:uf v.2.1
 s2:v.2.2.1.length≤big
 b2:uf v.2.2.1
 st:Cy v.2.2.2.1
abbrev eS:nA:=(1,[],())
theorem Wo:Cy eS∧BU eS:=⟨⟨by simp [big],fun b hb=>absurd hb (List.not_mem_nil)⟩,⟨by decide,by decide,fun i hi=>absurd hi (Nat.not_lt_zero i)⟩⟩
noncomputable def opsV (v:K8):List OpC:=(jP v.2.1).1++(jP v.2.2.1).1
noncomputable def Oc (v:K8):Bool:=decide (((jP v.2.1).2:Int)=(v.2.1.length:Int)) && decide (((jP v.2.2.1).2:Int)=(v.2.2.1.length:Int))
theorem adr {v:K8} (h:OKV v):∀o∈opsV v,okO o∧Ue o:=fun o ho=>(List.mem_append.1 ho).elim (aaY h.b1 o) (aaY h.b2 o)
theorem abv {n:Nat} {v:K8} (h:OKV v) (hn:big<n):mG n v=some (opsV v,Oc v,()):=by
 have h1:=(EJ v.2.1).2.2
 have h2:=(EJ v.2.2.1).2.2
 have g1:=h.s1
 have g2:=h.s2
 unfold big at g1 g2
 unfold mG cO
 rw [JL h.b1 h.s1 hn,JL h.b2 h.s2 hn]
 simp only [Option.bind_some]
 rw [if_pos (by omega)]
 unfold Oc opsV
 cases decide (((jP v.2.1).2:Int)=(v.2.1.length:Int)) <;> rfl
theorem abw {n:Nat} {v:K8} (h:OKV v) (hn:big<n):wV n v=some (opsV v,Oc v,()):=by
 have h1:=(EJ v.2.1).2.2
 have h2:=(EJ v.2.2.1).2.2
 have g1:=h.s1
 have g2:=h.s2
 unfold big at g1 g2
 unfold wV
 rw [JM h.b1 h.s1 hn,JM h.b2 h.s2 hn]
 simp only [Option.bind_some]
 rw [if_pos (by omega)]
 unfold Oc opsV
 cases decide (((jP v.2.1).2:Int)=(v.2.1.length:Int)) <;> rfl
theorem Ob {n:Nat} {v:K8} (h:OKV v) (hn:big<n):∃c:Int,iH n v=some (c,())∧kF n v=some (c,())∧
  (c=0→v.2.1.length+v.2.2.1.length≤8000∧(v.1=true→BU v.2.2.2.1∧(opsV v).length≤60)):=by
 have g1:=h.s1
 have g2:=h.s2
 unfold big at g1 g2
 obtain ⟨he,c,hc,hgc⟩:=MU h.st hn
 obtain ⟨r,a1,a2,a3,a4⟩:=Sb Wo.1 Wo.2 (fun o ho=>(adr h o ho).1) hn
 have a5:r.1=0→(opsV v).length≤60:=by
  intro h0
  by_cases h6:((opsV v).length:Int)>60
  ·unfold kE at a1
   rw [decide_eq_true h6,if_pos rfl,Sc] at a1
   simp only [Option.bind_some,Option.some.injEq,Prod.mk.injEq,and_true] at a1
   rw [←a1] at h0
   exact absurd h0 (by decide)
  ·omega
 have e1:qU n=some (eS,()):=rfl
 have e2:oJ n=some (eS,()):=rfl
 unfold iH kF
 simp only [he,hc,abv h hn,abw h hn,e1,e2,a1,a2,Option.bind_some,YH a3.2 hn,YI a3.2 hn]
 rw [wrap_i64 (x:=(v.2.1.length:Int)+(v.2.2.1.length:Int)) (by omega) (by omega)]
 by_cases c1:(v.2.1.length:Int)+(v.2.2.1.length:Int)>8000
 ·simp only [decide_eq_true c1,if_true]
  exact ⟨2,rfl,rfl,fun h=>absurd h (by decide)⟩
 simp only [decide_eq_false c1,Bool.false_eq_true,if_false]
 have l8:v.2.1.length+v.2.2.1.length≤8000:=by omega
 cases hu:v.1 with
 | false=>
  simp only [Bool.not_false,if_true]
  by_cases c2:(v.2.2.1.length:Int)>0
  ·simp only [decide_eq_true c2,if_true]
   exact ⟨1,rfl,rfl,fun h=>absurd h (by decide)⟩
  simp only [decide_eq_false c2,Bool.false_eq_true,if_false]
  by_cases c3:v.2.2.2.1.1=0
  ·simp only [decide_eq_true c3,Bool.not_true,Bool.false_eq_true,if_false]
   by_cases c4:(v.2.2.2.1.2.1.length:Int)>0
   ·simp only [decide_eq_true c4,if_true]
    exact ⟨1,rfl,rfl,fun h=>absurd h (by decide)⟩
   simp only [decide_eq_false c4,Bool.false_eq_true,if_false]
   exact ⟨0,rfl,rfl,fun _=>⟨l8,fun hh=>absurd hh (by decide)⟩⟩
  ·simp only [decide_eq_false c3,Bool.not_false,if_true]
   exact ⟨1,rfl,rfl,fun h=>absurd h (by decide)⟩
 | true=>
  simp only [Bool.not_true,Bool.false_eq_true,if_false]
  by_cases c2:c=0
  ·rw [decide_eq_true c2]
   simp only [Bool.not_true,Bool.false_eq_true,if_false]
   cases Oc v with
   | false=>exact ⟨5,rfl,rfl,fun h=>absurd h (by decide)⟩
   | true=>
    simp only [Bool.not_true,Bool.false_eq_true,if_false]
    by_cases c3:r.1=0
    ·rw [decide_eq_true c3]
     simp only [Bool.not_true,Bool.false_eq_true,if_false]
     cases decide (r.2.2.1=v.2.2.2.1) with
     | false=>exact ⟨9,rfl,rfl,fun h=>absurd h (by decide)⟩
     | true=>exact ⟨0,rfl,rfl,fun _=>⟨l8,fun _=>⟨hgc.1 c2,a5 c3⟩⟩⟩
    ·rw [decide_eq_false c3]
     exact ⟨9,rfl,rfl,fun h=>absurd h (by decide)⟩
  ·rw [decide_eq_false c2]
   exact ⟨c,rfl,rfl,fun h=>absurd h c2⟩
theorem adD {n:Nat} {v:K8} (h:OKV v) (hn:big<n):uP n v=some (v,()):=by
 unfold uP
 rw [Rq h.s1 hn,Rq h.s2 hn,adC h.st hn]
 rfl
theorem acW {n:Nat} {v:K8} (h:OKV v) (hn:big<n):qA n v v=some (true,()):=by
 unfold qA
 rw [Ic h.s1 hn,Ic h.s2 hn,Wp h.st hn]
 simp
def lV (v:K8):Prop:=(v.2.1.length≤9223372036854775807∧uf v.2.1)∧(v.2.2.1.length≤9223372036854775807∧uf v.2.2.1)∧lS v.2.2.2.1
theorem abS {n:Nat} {v:K8} (hl:lV v) (hn:big<n):∃r,uK n v 1048576=some (r,())∧(r<0∨(r≤1048576∧OKV v)):=by
 unfold uK
 obtain ⟨r1,g1,g2⟩:=Lg (n:=n) hl.1.1 (k:=1048576) (by omega) (by omega)
 simp only [g1,Option.bind_some]
 by_cases c1:r1<0
 ·exact ⟨-1,by simp [c1], .inl (by omega)⟩
 have g2:=g2.resolve_left c1
 obtain ⟨r2,e1,e2⟩:=Lg (n:=n) hl.2.1.1 (k:=r1) (by omega) (by omega)
 simp only [c1,decide_false,Bool.false_eq_true,if_false,e1,Option.bind_some]
 by_cases c2:r2<0
 ·exact ⟨-1,by simp [c2], .inl (by omega)⟩
 have e2:=e2.resolve_left c2
 unfold y5
 obtain ⟨r3,f1,f2⟩:=agT (n:=n) hl.2.2.1 hl.2.2.2 (k:=r2) (by omega) (by omega) hn
 simp only [c2,decide_false,Bool.false_eq_true,if_false,f1,Option.bind_some]
 by_cases c3:r3<0
 ·exact ⟨-1,by simp [c3], .inl (by omega)⟩
 rcases f2 with h | ⟨h6,h4,h5⟩
 ·exact absurd h c3
 ·exact ⟨r3,by simp [c3], .inr ⟨by omega,g2.2,hl.1.2,e2.2,hl.2.1.2,h4,h5⟩⟩
end Go.Proofs.YtdknpknohipffaaGreat.yG
