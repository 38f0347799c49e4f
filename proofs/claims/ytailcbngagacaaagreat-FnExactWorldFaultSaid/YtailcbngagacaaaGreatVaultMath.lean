/- Vaults: both sides find the same fault. -/
import Derived.Test.YtailcbngagacaaaGreatOwF
import Derived.Test.YtailcbngagacaaaGreatLoopLib
import Derived.Test.YtailcbngagacaaaGreatPackLib
import Derived.Test.YtailcbngagacaaaGreatStoreMath
import Derived.Test.YtailcbngagacaaaGreatOpsMath
import Derived.Test.YtailcbngagacaaaGreatGoodMath
import Derived.Test.YtailcbngagacaaaGreatCodecMath
import Derived.Test.YtailcbngagacaaaGreatReadMath
import Derived.Test.YtailcbngagacaaaGreatReadSMath
import Derived.Test.YtailcbngagacaaaGreatJourMath
import Derived.Test.YtailcbngagacaaaGreatWfF
set_option linter.unusedSectionVars false
set_option linter.unusedVariables false
set_option linter.unusedSimpArgs false
namespace Go.Proofs.YtailcbngagacaaaGreat.Kc
open Go Go.Proofs.YtailcbngagacaaaGreat.Ow Go.Proofs.YtailcbngagacaaaGreat.UZ Go.Proofs.YtailcbngagacaaaGreat.tV Go.Proofs.YtailcbngagacaaaGreat.Bu Go.Proofs.YtailcbngagacaaaGreat.oz Go.Proofs.YtailcbngagacaaaGreat.pK Go.Proofs.YtailcbngagacaaaGreat.x9 Go.Proofs.YtailcbngagacaaaGreat.u7 Go.Proofs.YtailcbngagacaaaGreat.Df Go.Proofs.YtailcbngagacaaaGreat.Eo Go.Proofs.YtailcbngagacaaaGreat.M3
instance alx:DecidableEq nG:=inferInstance
instance alv:DecidableEq Bx:=instDecidableEqProd
instance aly:DecidableEq lZ:=instDecidableEqProd
theorem vk {A:Type} [DecidableEq A] {xs ys:List A} {d:A} (hl:xs.length=ys.length):bX (fun j=>if (!decide (xs.getD j d=ys.getD j d))=true then some (some (false,())) else none) (some (true,())) xs.length 0=some (decide (xs=ys),()):=by
 by_cases h:xs=ys
 ·subst h
  rw [decide_eq_true rfl]
  exact bU (fun j _ _=>by simp)
 ·rw [decide_eq_false h]
  rcases Dq (step:=fun j=>if (!decide (xs.getD j d=ys.getD j d))=true then some (some (false,())) else none) (fin:=some (true,())) (r:=some (false,())) (fun j=>by
   by_cases hh:xs.getD j d=ys.getD j d
   ·rw [if_neg (by rw [decide_eq_true hh]; decide)]; exact .inl rfl
   ·rw [if_pos (by rw [decide_eq_false hh]; decide)]; exact .inr rfl) (m:=xs.length) (i:=0) with h1 | h1
  ·exact h1
  ·exfalso
   refine h (List.ext_getElem hl fun i h2 h3=>?_)
   have:=AJ (by simp) h1 i (Nat.zero_le _) (by omega)
   rw [getD_lt h2,getD_lt h3] at this
   simpa using this
theorem ZR (a b:nG):decide (a=b)=(decide (a.1=b.1) && (decide (a.2.1=b.2.1) && (decide (a.2.2.1=b.2.2.1) && decide (a.2.2.2.1=b.2.2.2.1)))):=by
 obtain ⟨a1,a2,a3,a4,_⟩:=a
 obtain ⟨b1,b2,b3,b4,_⟩:=b
 simp only [Prod.mk.injEq,and_true,Bool.decide_and]
theorem ZQ (a b:Bx):decide (a=b)=(decide (a.1=b.1) && (decide (a.2.1=b.2.1) && (decide (a.2.2.1=b.2.2.1) && decide (a.2.2.2.1=b.2.2.2.1)))):=by
 obtain ⟨a1,a2,a3,a4,_⟩:=a
 obtain ⟨b1,b2,b3,b4,_⟩:=b
 simp only [Prod.mk.injEq,and_true,Bool.decide_and]
theorem ZT (a b:lZ):decide (a=b)=(decide (a.1=b.1) && decide (a.2.1=b.2.1)):=by
 obtain ⟨a1,a2,_⟩:=a
 obtain ⟨b1,b2,_⟩:=b
 simp only [Prod.mk.injEq,and_true,Bool.decide_and]
theorem IW {A:Type} [DecidableEq A] {xs ys:List A} (h:¬xs.length=ys.length):decide (xs=ys)=false:=decide_eq_false fun e=>h (by rw [e])
theorem NC {n:Nat} {xs ys:List Int} (hb:xs.length≤big) (hn:big<n):gP n xs ys=some (decide (xs=ys),()):=by
 have hb':xs.length≤1048576:=hb
 unfold gP
 by_cases hl:xs.length=ys.length
 ·rw [if_neg (by simp [hl]), ←vk (d:=0) hl]
  refine aR (fun i=>(xs,ys,(xs.length:Int),(i:Int),())) _ _ (m:=xs.length) rfl (by omega) ?_ ?_
  ·intro L i hi _
   simp only [Int.ofNat_lt,hi,decide_true,if_true,aH hi,aH (show i<ys.length by omega),Int.toNat_natCast,aU hi (by omega)]
   split <;> rfl
  ·intro L _
   simp
 ·rw [if_pos (by rw [decide_eq_false (show ¬((xs.length:Int)=(ys.length:Int)) by omega)]; rfl),IW hl]
theorem Mm {n:Nat} {a b:nG} (ha:J2 a) (hn:big<n):jW n a b=some (decide (a=b),()):=by
 unfold jW
 rw [ZR,NC ha hn]
 simp only [Option.bind_some]
 cases decide (a.1=b.1) <;> cases decide (a.2.1=b.2.1) <;> cases decide (a.2.2.1=b.2.2.1) <;> rfl
theorem Mo {n:Nat} {a b:nG}:jI n a b=some (decide (a=b),()):=by
 unfold jI
 rw [ZR]
 cases decide (a.1=b.1) <;> cases decide (a.2.1=b.2.1) <;> cases decide (a.2.2.1=b.2.2.1) <;> rfl
theorem JZ {n:Nat} {xs ys:List nG} (hb:xs.length≤big) (hm:∀m∈xs,J2 m) (hn:big<n):aL n xs ys=some (decide (xs=ys),()):=by
 have hb':xs.length≤1048576:=hb
 unfold aL
 by_cases hl:xs.length=ys.length
 ·rw [if_neg (by simp [hl]), ←vk (d:=dM) hl]
  refine aR (fun i=>(ys,xs,(xs.length:Int),(i:Int),())) _ _ (m:=xs.length) rfl (by omega) ?_ ?_
  ·intro L i hi _
   have h0:J2 (xs.getD i dM):=by rw [getD_lt hi]; exact hm _ (List.getElem_mem hi)
   simp only [Int.ofNat_lt,hi,decide_true,if_true,aH hi,aH (show i<ys.length by omega),Int.toNat_natCast,aU hi (by omega),Mm h0 hn,Option.bind_some]
   split <;> rfl
  ·intro L _
   simp
 ·rw [if_pos (by rw [decide_eq_false (show ¬((xs.length:Int)=(ys.length:Int)) by omega)]; rfl),IW hl]
theorem JO {n:Nat} {a b:Bx} (ha:okB a) (hn:big<n):jT n a b=some (decide (a=b),()):=by
 unfold jT
 rw [ZQ,JZ ha.2.1 ha.2.2 hn]
 simp only [Option.bind_some]
 cases decide (a.1=b.1) <;> cases decide (a.2.1=b.2.1) <;> cases decide (a.2.2.1=b.2.2.1) <;> rfl
theorem JP {n:Nat} {a b:Bx} (ha:okB a) (hn:big<n):ou n a b=some (decide (a=b),()):=by
 have hb':a.2.2.2.1.length≤1048576:=ha.2.1
 have hn':1048576<n:=hn
 unfold ou
 rw [ZQ]
 have hlp:∀(hl:a.2.2.2.1.length=b.2.2.2.1.length),_=some (decide (a.2.2.2.1=b.2.2.2.1),()):=fun hl=>vk (d:=dM) hl
 cases h1:decide (a.1=b.1)
 ·rfl
 cases h2:decide (a.2.1=b.2.1)
 ·rfl
 cases h3:decide (a.2.2.1=b.2.2.1)
 ·rfl
 simp only [Bool.not_true,Bool.false_eq_true,if_false,Bool.true_and]
 by_cases hl:a.2.2.2.1.length=b.2.2.2.1.length
 ·rw [if_neg (by simp [hl]), ←hlp hl]
  refine aR (fun i=>(a,b,(i:Int),())) _ _ (m:=a.2.2.2.1.length) rfl (by omega) ?_ ?_
  ·intro L i hi _
   simp only [Int.ofNat_lt,hi,decide_true,if_true,aH hi,aH (show i<b.2.2.2.1.length by omega),Int.toNat_natCast,aU hi (by omega),Mo,Option.bind_some]
   split <;> rfl
  ·intro L _
   simp
 ·rw [if_pos (by rw [decide_eq_false (show ¬((a.2.2.2.1.length:Int)=(b.2.2.2.1.length:Int)) by omega)]; rfl),IW hl]
theorem TZ {n:Nat} {a b:lZ} (ha:A9 a) (hn:big<n):jG n a b=some (decide (a=b),()):=by
 have hb':a.2.1.length≤1048576:=ha.1
 have hn':1048576<n:=hn
 unfold jG bu
 rw [ZT]
 cases h1:decide (a.1=b.1)
 ·rfl
 simp only [if_true,Bool.true_and]
 by_cases hl:a.2.1.length=b.2.1.length
 ·rw [if_neg (by simp [hl]), ←vk (d:=dB) hl]
  refine (congrArg (fun x=>Option.bind x fun r1:Bool×Unit=>some (r1.1,())) (aR (fun i=>(b.2.1,a.2.1,(a.2.1.length:Int),(i:Int),())) (fun j=>if (!decide (a.2.1.getD j dB=b.2.1.getD j dB))=true then some (some (false,())) else none) (some (true,())) (m:=a.2.1.length) rfl (by omega) ?_ ?_)).trans ?_
  ·intro L i hi _
   have h0:okB (a.2.1.getD i dB):=by rw [getD_lt hi]; exact ha.2 _ (List.getElem_mem hi)
   simp only [Int.ofNat_lt,hi,decide_true,if_true,aH hi,aH (show i<b.2.1.length by omega),Int.toNat_natCast,aU hi (by omega),JO h0 hn,Option.bind_some]
   split <;> rfl
  ·intro L _
   simp
  ·rw [vk (d:=dB) hl]; rfl
 ·rw [if_pos (by rw [decide_eq_false (show ¬((a.2.1.length:Int)=(b.2.1.length:Int)) by omega)]; rfl),IW hl]
  rfl
theorem T9 {n:Nat} {a b:lZ} (ha:A9 a) (hn:big<n):tK n a b=some (decide (a=b),()):=by
 have hb':a.2.1.length≤1048576:=ha.1
 have hn':1048576<n:=hn
 unfold tK
 rw [ZT]
 cases h1:decide (a.1=b.1)
 ·rfl
 simp only [Bool.not_true,Bool.false_eq_true,if_false,Bool.true_and]
 by_cases hl:a.2.1.length=b.2.1.length
 ·rw [if_neg (by simp [hl]), ←vk (d:=dB) hl]
  refine aR (fun i=>(a,b,(i:Int),())) _ _ (m:=a.2.1.length) rfl (by omega) ?_ ?_
  ·intro L i hi _
   have h0:okB (a.2.1.getD i dB):=by rw [getD_lt hi]; exact ha.2 _ (List.getElem_mem hi)
   simp only [Int.ofNat_lt,hi,decide_true,if_true,aH hi,aH (show i<b.2.1.length by omega),Int.toNat_natCast,aU hi (by omega),JP h0 hn,Option.bind_some]
   split <;> rfl
  ·intro L _
   simp
 ·rw [if_pos (by rw [decide_eq_false (show ¬((a.2.1.length:Int)=(b.2.1.length:Int)) by omega)]; rfl),IW hl]
theorem Nk {n:Nat} (c:Int):dU n c=some (bad c,()):=rfl
theorem Te {s:lZ} {o:OpC} {r:yX} (hg:yx s) (h:(iL o=0∧r=pK.yI (oV s o))∨(iL o≠0∧r=bad (iL o))) (h0:r.1=0):yx r.2.2.1:=by
 rcases h with ⟨h1,rfl⟩ | ⟨h1,rfl⟩
 ·unfold pK.yI at h0 ⊢
  by_cases h2:(oV s o).2.1=0
  ·rw [if_pos h2]
   exact NK.2 (UI (NK.1 hg) (right h1) h2)
  ·rw [if_neg h2] at h0
   exact absurd h0 h2
 ·exact absurd h0 h1
theorem U6 {n:Nat} {s:lZ} {l:List OpC} (hs:A9 s) (hg:yx s) (hl:∀o∈l,okO o) (hn:big<n) :
  ∃r:yX,lX n s l=some (r,())∧lQ n s l=some (r,())∧okR r∧(r.1=0→yx r.2.2.1):=by
 have hn':1048576<n:=hn
 obtain ⟨he,c,hc,hgc⟩:=Ik hs hn
 have h0:=hgc.2 hg
 unfold lX lQ
 by_cases h6:(l.length:Int)>60
 ·rw [decide_eq_true h6,if_pos rfl,if_pos rfl]
  exact ⟨bad 2,rfl,rfl,Gc _,fun h=>absurd h (by decide)⟩
 rw [decide_eq_false h6,if_neg (by decide),if_neg (by decide),he,hc]
 simp only [Option.bind_some,h0,decide_true,Bool.not_true,Bool.false_eq_true,if_false,Qh hs hn,own hs hn,Nk]
 generalize hBs:(fun (L5:List OpC×Int×yX×yX×Unit→Option (yX×Unit)) v5=>_)=Bs
 generalize hBi:(fun (L3:List OpC×Int×Int×yX×lZ×Unit→Option (yX×Unit)) v3=>_)=Bi
 have key:∀(m i:Nat) (s:lZ) (f:Nat),i+m=l.length→m<f→A9 s→yx s→∃r:yX,rounds Bs f (l,(i:Int),bad 0,(0,[],s,()),())=some (r,())∧rounds Bi f (l,(l.length:Int),(i:Int),bad 0,s,())=some (r,())∧okR r∧(r.1=0→yx r.2.2.1):=by
  intro m
  induction m with
  | zero=>
   intro i s f hi hf hs hg
   obtain ⟨f,rfl⟩:∃g,f=g+1:=⟨f - 1,by omega⟩
   refine ⟨(0,[],s,()), ?_, ?_,⟨by simp,hs⟩,fun _=>hg⟩
   ·show Bs (rounds Bs f) _=_
    rw [←hBs]
    simp only
    rw [if_neg (by rw [decide_eq_true_eq]; omega)]
   ·show Bi (rounds Bi f) _=_
    rw [←hBi]
    simp only
    rw [if_neg (by rw [decide_eq_true_eq]; omega)]
  | succ m ih=>
   intro i s f hi hf hs hg
   obtain ⟨f,rfl⟩:∃g,f=g+1:=⟨f - 1,by omega⟩
   have hlt:i<l.length:=by omega
   obtain ⟨r,e1,e2,e3,e4⟩:=LB hs (hl _ (List.getElem_mem hlt)) hg hn
   have q1:rounds Bs (f+1) (l,(i:Int),bad 0,(0,[],s,()),())=if (!decide (r.1=(0:Int)))=true then some (bad r.1,()) else rounds Bs f (l,((i+1:Nat):Int),bad 0,(0,[],r.2.2.1,()),()):=by
    show Bs (rounds Bs f) _=_
    conv=>lhs; rw [←hBs]
    simp only [Int.ofNat_lt,hlt,decide_true,if_true,aH hlt,gG hlt,aU hlt (by omega),e1,Option.bind_some]
    rw [hBs]
   have q2:rounds Bi (f+1) (l,(l.length:Int),(i:Int),bad 0,s,())=if (!decide (r.1=(0:Int)))=true then some (bad r.1,()) else rounds Bi f (l,(l.length:Int),((i+1:Nat):Int),bad 0,r.2.2.1,()):=by
    show Bi (rounds Bi f) _=_
    conv=>lhs; rw [←hBi]
    simp only [Int.ofNat_lt,hlt,decide_true,if_true,aH hlt,gG hlt,aU hlt (by omega),e2,Option.bind_some]
    rw [hBi]
    rfl
   rw [q1,q2]
   by_cases hr:r.1=0
   ·rw [if_neg (by simp [hr]),if_neg (by simp [hr])]
    exact ih (i+1) _ f (by omega) (by omega) e3.2 (Te hg e4 hr)
   ·rw [if_pos (by simp [hr]),if_pos (by simp [hr])]
    exact ⟨bad r.1,rfl,rfl,Gc _,fun h=>absurd h hr⟩
 exact key l.length 0 s n (by omega) (by omega) hs hg
abbrev Um:=Bool×List Int×List Int×lZ×Unit
structure Ze (v:Um):Prop where
 s1:v.2.1.length≤big
 b1:qA v.2.1
 s2:v.2.2.1.length≤big
 b2:qA v.2.2.1
 st:A9 v.2.2.2.1
abbrev eS:lZ:=(1,[],())
theorem Zj:A9 eS∧yx eS:=⟨⟨by simp [big],fun b hb=>absurd hb (List.not_mem_nil)⟩,⟨by decide,by decide,fun i hi=>absurd hi (Nat.not_lt_zero i)⟩⟩
noncomputable def opsV (v:Um):List OpC:=(jP v.2.1).1++(jP v.2.2.1).1
noncomputable def Jw (v:Um):Bool:=decide (((jP v.2.1).2:Int)=(v.2.1.length:Int)) && decide (((jP v.2.2.1).2:Int)=(v.2.2.1.length:Int))
theorem YQ {v:Um} (h:Ze v):∀o∈opsV v,okO o∧OV o:=fun o ho=>(List.mem_append.1 ho).elim (ZH h.b1 o) (ZH h.b2 o)
theorem WT {n:Nat} {v:Um} (h:Ze v) (hn:big<n):j4 n v=some (opsV v,Jw v,()):=by
 have h1:=(Dw v.2.1).2.2
 have h2:=(Dw v.2.2.1).2.2
 have g1:=h.s1
 have g2:=h.s2
 unfold big at g1 g2
 unfold j4 cK
 rw [KD h.b1 h.s1 hn,KD h.b2 h.s2 hn]
 simp only [Option.bind_some]
 rw [if_pos (by omega)]
 unfold Jw opsV
 cases decide (((jP v.2.1).2:Int)=(v.2.1.length:Int)) <;> rfl
theorem WU {n:Nat} {v:Um} (h:Ze v) (hn:big<n):tJ n v=some (opsV v,Jw v,()):=by
 have h1:=(Dw v.2.1).2.2
 have h2:=(Dw v.2.2.1).2.2
 have g1:=h.s1
 have g2:=h.s2
 unfold big at g1 g2
 unfold tJ
 rw [KE h.b1 h.s1 hn,KE h.b2 h.s2 hn]
 simp only [Option.bind_some]
 rw [if_pos (by omega)]
 unfold Jw opsV
 cases decide (((jP v.2.1).2:Int)=(v.2.1.length:Int)) <;> rfl
theorem QI {n:Nat} {v:Um} (h:Ze v) (hn:big<n):∃c:Int,jH n v=some (c,())∧lY n v=some (c,())∧
  (c=0→v.2.1.length+v.2.2.1.length≤8000∧(v.1=true→yx v.2.2.2.1∧(opsV v).length≤60)):=by
 have g1:=h.s1
 have g2:=h.s2
 unfold big at g1 g2
 obtain ⟨he,c,hc,hgc⟩:=Ik h.st hn
 obtain ⟨r,a1,a2,a3,a4⟩:=U6 Zj.1 Zj.2 (fun o ho=>(YQ h o ho).1) hn
 have a5:r.1=0→(opsV v).length≤60:=by
  intro h0
  by_cases h6:((opsV v).length:Int)>60
  ·unfold lX at a1
   rw [decide_eq_true h6,if_pos rfl,Nk] at a1
   simp only [Option.bind_some,Option.some.injEq,Prod.mk.injEq,and_true] at a1
   rw [←a1] at h0
   exact absurd h0 (by decide)
  ·omega
 have e1:uS n=some (eS,()):=rfl
 have e2:uI n=some (eS,()):=rfl
 unfold jH lY
 simp only [he,hc,WT h hn,WU h hn,e1,e2,a1,a2,Option.bind_some,TZ a3.2 hn,T9 a3.2 hn]
 rw [wrap_i64 (x:=(v.2.1.length:Int)+(v.2.2.1.length:Int)) (by omega) (by omega)]
 by_cases c1:(v.2.1.length:Int)+(v.2.2.1.length:Int)>8000
 ·simp only [decide_eq_true c1,if_true]
  exact ⟨2,rfl,rfl,fun h=>absurd h (by decide)⟩
 simp only [decide_eq_false c1,Bool.false_eq_true,if_false]
 have l8:v.2.1.length+v.2.2.1.length≤8000:=by omega
 cases hu:v.1 with
 | false=>
  simp only [Bool.not_false,if_true]
  by_cases c2:(v.2.2.1.length:Int)>0
  ·simp only [decide_eq_true c2,if_true]
   exact ⟨1,rfl,rfl,fun h=>absurd h (by decide)⟩
  simp only [decide_eq_false c2,Bool.false_eq_true,if_false]
  by_cases c3:v.2.2.2.1.1=0
  ·simp only [decide_eq_true c3,Bool.not_true,Bool.false_eq_true,if_false]
   by_cases c4:(v.2.2.2.1.2.1.length:Int)>0
   ·simp only [decide_eq_true c4,if_true]
    exact ⟨1,rfl,rfl,fun h=>absurd h (by decide)⟩
   simp only [decide_eq_false c4,Bool.false_eq_true,if_false]
   exact ⟨0,rfl,rfl,fun _=>⟨l8,fun hh=>absurd hh (by decide)⟩⟩
  ·simp only [decide_eq_false c3,Bool.not_false,if_true]
   exact ⟨1,rfl,rfl,fun h=>absurd h (by decide)⟩
 | true=>
  simp only [Bool.not_true,Bool.false_eq_true,if_false]
  by_cases c2:c=0
  ·rw [decide_eq_true c2]
   simp only [Bool.not_true,Bool.false_eq_true,if_false]
   cases Jw v with
   | false=>exact ⟨5,rfl,rfl,fun h=>absurd h (by decide)⟩
   | true=>
    simp only [Bool.not_true,Bool.false_eq_true,if_false]
    by_cases c3:r.1=0
    ·rw [decide_eq_true c3]
     simp only [Bool.not_true,Bool.false_eq_true,if_false]
     cases decide (r.2.2.1=v.2.2.2.1) with
     | false=>exact ⟨9,rfl,rfl,fun h=>absurd h (by decide)⟩
     | true=>exact ⟨0,rfl,rfl,fun _=>⟨l8,fun _=>⟨hgc.1 c2,a5 c3⟩⟩⟩
    ·rw [decide_eq_false c3]
     exact ⟨9,rfl,rfl,fun h=>absurd h (by decide)⟩
  ·rw [decide_eq_false c2]
   exact ⟨c,rfl,rfl,fun h=>absurd h c2⟩
theorem Y3 {n:Nat} {v:Um} (h:Ze v) (hn:big<n):q8 n v=some (v,()):=by
 unfold q8
 rw [MN h.s1 hn,MN h.s2 hn,Y2 h.st hn]
 rfl
theorem Ym {n:Nat} {v:Um} (h:Ze v) (hn:big<n):qP n v v=some (true,()):=by
 unfold qP
 rw [LY h.s1 hn,LY h.s2 hn,Yl h.st hn]
 simp
def lV (v:Um):Prop:=(v.2.1.length≤9223372036854775807∧qA v.2.1)∧(v.2.2.1.length≤9223372036854775807∧qA v.2.2.1)∧lS v.2.2.2.1
theorem Xo {n:Nat} {v:Um} (hl:lV v) (hn:big<n):∃r,qV n v 1048576=some (r,())∧(r<0∨(r≤1048576∧Ze v)):=by
 unfold qV
 obtain ⟨r1,g1,g2⟩:=Gg (n:=n) hl.1.1 (k:=1048576) (by omega) (by omega)
 simp only [g1,Option.bind_some]
 by_cases c1:r1<0
 ·exact ⟨-1,by simp [c1], .inl (by omega)⟩
 have g2:=g2.resolve_left c1
 obtain ⟨r2,e1,e2⟩:=Gg (n:=n) hl.2.1.1 (k:=r1) (by omega) (by omega)
 simp only [c1,decide_false,Bool.false_eq_true,if_false,e1,Option.bind_some]
 by_cases c2:r2<0
 ·exact ⟨-1,by simp [c2], .inl (by omega)⟩
 have e2:=e2.resolve_left c2
 unfold vP
 obtain ⟨r3,f1,f2⟩:=aci (n:=n) hl.2.2.1 hl.2.2.2 (k:=r2) (by omega) (by omega) hn
 simp only [c2,decide_false,Bool.false_eq_true,if_false,f1,Option.bind_some]
 by_cases c3:r3<0
 ·exact ⟨-1,by simp [c3], .inl (by omega)⟩
 rcases f2 with h | ⟨h6,h4,h5⟩
 ·exact absurd h c3
 ·exact ⟨r3,by simp [c3], .inr ⟨by omega,g2.2,hl.1.2,e2.2,hl.2.1.2,h4,h5⟩⟩
end Go.Proofs.YtailcbngagacaaaGreat.Kc
