/- Worlds: both sides find the same fault; sizes, copies, equalities. -/
import Derived.Test.YtdknpknohipffaaGreatOwF
import Derived.Test.YtdknpknohipffaaGreatLoopLib
import Derived.Test.YtdknpknohipffaaGreatStoreMath
import Derived.Test.YtdknpknohipffaaGreatOpsMath
import Derived.Test.YtdknpknohipffaaGreatCodecMath
import Derived.Test.YtdknpknohipffaaGreatVaultMath
import Derived.Test.YtdknpknohipffaaGreatRwF
set_option linter.unusedSectionVars false
set_option linter.unusedVariables false
set_option linter.unusedSimpArgs false
namespace Go.Proofs.YtdknpknohipffaaGreat.Ju
open Go Go.Proofs.YtdknpknohipffaaGreat.Ow Go.Proofs.YtdknpknohipffaaGreat.Uf Go.Proofs.YtdknpknohipffaaGreat.nW Go.Proofs.YtdknpknohipffaaGreat.iI Go.Proofs.YtdknpknohipffaaGreat.kR Go.Proofs.YtdknpknohipffaaGreat.oQ Go.Proofs.YtdknpknohipffaaGreat.yG
abbrev Ry:=List Int×Int×List Int×Int×Unit
abbrev Ou:=K8×List Ry×Unit
abbrev dS:Ry:=([],0,[],0,())
def KU (s:Ry):Prop:=s.1.length≤big∧s.2.2.1.length≤big
structure OKW (w:Ou):Prop where
 v:OKV w.1
 l:w.2.1.length≤big
 s:∀s∈w.2.1,KU s
def abJ (s:Ry):Int:=
 if (!decide (1≤s.2.2.2.1∧s.2.2.2.1≤3))=true then 3 else if (!decide (0≤s.2.1∧s.2.1≤999))=true then 3 else if decide ((s.2.2.1.length:Int)>6)=true then 3 else if (!Fh s.2.2.1)=true then 3 else
 if decide (s.1=[])=true then (if (!decide (s.2.1=0))=true then 1 else if decide ((s.2.2.1.length:Int)>0)=true then 1 else 0) else
 if (!decide (rO s.1))=true then 1 else if decide (s.2.1=0)=true then 1 else 0
theorem abK {n:Nat} {s:Ry} (h:KU s) (hn:big<n):pG n s=some (abJ s,()):=by
 unfold pG CJ abJ
 simp only [FW,PX h.2 hn,Fj,(name_eq h.1 hn).2,Option.bind_some]
 split
 ·rfl
 split
 ·rfl
 split
 ·rfl
 split
 ·rfl
 split
 ·split
  ·rfl
  ·split <;> rfl
 ·split
  ·rfl
  ·split <;> rfl
def AY (l:List Ry) (j:Nat):Option (Option (Int×Unit)):=if (!decide (abJ (l.getD j dS)=0))=true then some (some (abJ (l.getD j dS),())) else none
theorem YK {n:Nat} {w:Ou} (h:OKW w) (hn:big<n) {c:Int} (h1:kF n w.1=some (c,())) (h0:c=0) (hl:1≤w.2.1.length∧w.2.1.length≤3):iL n w=bY (AY w.2.1) (some (0,())) w.2.1.length 0:=by
 have hn':1048576<n:=hn
 unfold iL
 rw [h1]
 simp only [Option.bind_some,h0,decide_true,Bool.not_true,Bool.false_eq_true,if_false]
 rw [if_neg (by rw [decide_eq_true_eq]; omega),if_neg (by rw [decide_eq_true_eq]; omega)]
 refine aO (fun i=>(w,(i:Int),())) (AY w.2.1) (some (0,())) (m:=w.2.1.length) rfl (by omega) ?_ ?_
 ·intro L i hi _
  have hs:KU (w.2.1.getD i dS):=by rw [getD_lt hi]; exact h.s _ (List.getElem_mem hi)
  simp only [Int.ofNat_lt,hi,decide_true,if_true,aG hi,Int.toNat_natCast,aN hi (by omega),abK hs hn,Option.bind_some]
  unfold AY
  split <;> rfl
 ·intro L _
  simp
theorem YJ {n:Nat} {w:Ou} (h:OKW w) (hn:big<n) {c:Int} (h1:iH n w.1=some (c,())) (h0:c=0) (hl:1≤w.2.1.length∧w.2.1.length≤3):gu n w=bY (AY w.2.1) (some (0,())) w.2.1.length 0:=by
 have hn':1048576<n:=hn
 unfold gu gy
 rw [h1]
 simp only [Option.bind_some,h0,decide_true,Bool.not_true,Bool.false_eq_true,if_false,oW,FW]
 rw [decide_eq_true (show (1:Int)≤(w.2.1.length:Int)∧(w.2.1.length:Int)≤3 by omega)]
 simp only [Bool.not_true,Bool.false_eq_true,if_false]
 refine aO (fun i=>(w.2.1,(w.2.1.length:Int),(i:Int),())) (AY w.2.1) (some (0,())) (m:=w.2.1.length) rfl (by omega) ?_ ?_
 ·intro L i hi _
  have hs:KU (w.2.1.getD i dS):=by rw [getD_lt hi]; exact h.s _ (List.getElem_mem hi)
  simp only [Int.ofNat_lt,hi,decide_true,if_true,aG hi,Int.toNat_natCast,aN hi (by omega)]
  simp only [rU,oW,FW,PW hs.2 hn,Fj,(name_eq hs.1 hn).1,Option.bind_some]
  unfold AY abJ
  cases b1:decide (1≤(w.2.1.getD i dS).2.2.2.1∧(w.2.1.getD i dS).2.2.2.1≤3)
  ·simp only [Bool.not_false,if_true]; rfl
  cases b2:decide (0≤(w.2.1.getD i dS).2.1∧(w.2.1.getD i dS).2.1≤999)
  ·simp only [Bool.not_false,Bool.not_true,Bool.false_eq_true,if_false,if_true]; rfl
  cases b3:decide (((w.2.1.getD i dS).2.2.1.length:Int)>6)
  ·cases b4:Fh (w.2.1.getD i dS).2.2.1
   ·simp only [Bool.not_false,Bool.not_true,Bool.false_eq_true,if_false,if_true]; rfl
   cases b5:decide ((w.2.1.getD i dS).1=[])
   ·cases b6:decide (rO (w.2.1.getD i dS).1)
    ·simp only [Bool.not_false,Bool.not_true,Bool.false_eq_true,if_false,if_true]; rfl
    ·cases b7:decide ((w.2.1.getD i dS).2.1=0) <;> (simp only [Bool.not_false,Bool.not_true,Bool.false_eq_true,if_false,if_true]; rfl)
   ·cases b7:decide ((w.2.1.getD i dS).2.1=0)
    ·simp only [Bool.not_false,Bool.not_true,Bool.false_eq_true,if_false,if_true]; rfl
    ·cases b8:decide (((w.2.1.getD i dS).2.2.1.length:Int)>0) <;> (simp only [Bool.not_false,Bool.not_true,Bool.false_eq_true,if_false,if_true]; rfl)
  ·simp only [Bool.not_false,Bool.not_true,Bool.false_eq_true,if_false,if_true]; rfl
 ·intro L _
  simp
theorem xC {step:Nat→Option (Option (Int×Unit))} (hs:∀j r,step j=some r→∃c,r=some (c,())):∀{m i:Nat},∃c,bY step (some (0,())) m i=some (c,())
 | 0,i=>⟨0,rfl⟩
 | m+1,i=>by
  rw [bY]
  cases h:step i with
  | some r=>exact hs i r h
  | none=>exact xC hs
theorem VT {n:Nat} {w:Ou} (h:OKW w) (hn:big<n):∃c:Int,gu n w=some (c,())∧iL n w=some (c,()):=by
 obtain ⟨c,e1,e2,_⟩:=Ob h.v hn
 by_cases h0:c=0
 ·by_cases hl:1≤w.2.1.length∧w.2.1.length≤3
  ·rw [YJ h hn e1 h0 hl,YK h hn e2 h0 hl]
   obtain ⟨d,hd⟩:=xC (step:=AY w.2.1) (fun j r hj=>by
    unfold AY at hj
    split at hj
    ·exact ⟨_,(Option.some.inj hj).symm⟩
    ·simp at hj) (m:=w.2.1.length) (i:=0)
   exact ⟨d,hd,hd⟩
  ·refine ⟨2, ?_, ?_⟩
   ·unfold gu gy
    rw [e1]
    simp only [Option.bind_some,h0,decide_true,Bool.not_true,Bool.false_eq_true,if_false,oW,FW]
    rw [decide_eq_false (show ¬((1:Int)≤(w.2.1.length:Int)∧(w.2.1.length:Int)≤3) by omega)]
    rfl
   ·unfold iL
    rw [e2]
    simp only [Option.bind_some,h0,decide_true,Bool.not_true,Bool.false_eq_true,if_false]
    by_cases h1:(w.2.1.length:Int)<1
    ·rw [if_pos (by rw [decide_eq_true_eq]; exact h1)]
    ·rw [if_neg (by rw [decide_eq_true_eq]; exact h1),if_pos (by rw [decide_eq_true_eq]; omega)]
 ·refine ⟨c, ?_, ?_⟩
  ·unfold gu
   rw [e1]
   simp only [Option.bind_some,h0,decide_false,Bool.not_false,if_true]
  ·unfold iL
   rw [e2]
   simp only [Option.bind_some,h0,decide_false,Bool.not_false,if_true]
theorem abU {n:Nat} {bs:List Int} (hb:bs.length≤big) (hn:big<n):sJ n bs=some (bs,()):=by
 have hb':=hb
 unfold big at hb
 unfold sJ
 rw [if_pos (by omega)]
 exact BR (f:=fun x=>some (x,())) (d:=(0:Int)) (fun L v=>rfl) (fun _ _=>rfl) hb' hn
theorem MQ {n:Nat} {bs:List Int} (hb:bs.length≤big) (hn:big<n):kD n bs bs=some (true,()):=by
 unfold kD
 rw [if_neg (by simp)]
 refine zl (f:=fun x y=>some (decide (x=y),())) (d:=(0:Int)) (fun L v=>rfl) (fun _ _=>by simp) hb hn
theorem adE {n:Nat} {w:Ou} (h:OKW w) (hn:big<n):jQ n w=some (w,()):=by
 have hb:=h.l
 unfold big at hb
 unfold jQ uN
 rw [adD h.v hn]
 simp only [Option.bind_some]
 rw [if_pos ⟨trivial,by omega,by omega⟩]
 refine (congrArg (fun x=>Option.bind x fun r2:List Ry×Unit=>some ((w.1,r2.1,()),())) (BR (f:=qZ n) (d:=dS) (xs:=w.2.1) (fun L v=>rfl) (fun x hx=>?_) h.l hn)).trans rfl
 unfold qZ
 rw [abU (h.s x hx).2 hn]
 rfl
theorem acX {n:Nat} {w:Ou} (h:OKW w) (hn:big<n):mP n w w=some (true,()):=by
 unfold mP kP
 rw [acW h.v hn]
 simp only [Option.bind_some,Bool.not_true,Bool.false_eq_true,if_false,decide_true]
 refine (congrArg (fun x=>Option.bind x fun r2:Bool×Unit=>if (!r2.1)=true then some (false,()) else some (true,())) (zl (f:=jB n) (d:=dS) (xs:=w.2.1) (fun L v=>rfl) (fun x hx=>?_) h.l hn)).trans rfl
 unfold jB
 simp [MQ (h.s x hx).2 hn]
def lSe (s:Ry):Prop:=s.1.length≤9223372036854775807∧s.2.2.1.length≤9223372036854775807
theorem YO {n:Nat} {s:Ry} (hl:lSe s) {k:Int} (h1:0≤k) (h2:k≤1048576):∃r,ni n s k=some (r,())∧(r<0∨(r≤k∧KU s)):=by
 have l1:=hl.1
 have l2:=hl.2
 unfold ni
 rw [wrap_i64 (x:=k - (s.1.length:Int)) (by omega) (by omega)]
 by_cases c1:k - (s.1.length:Int)<0
 ·exact ⟨-1,by simp [c1], .inl (by omega)⟩
 simp only [c1,decide_false,Bool.false_eq_true,if_false]
 have hi:∃r,xW n s.2.2.1 (k - (s.1.length:Int))=some (r,())∧(r<0∨(r≤k - (s.1.length:Int)∧s.2.2.1.length≤big)):=Lg (n:=n) l2 (by omega) (by omega)
 obtain ⟨r,g1,g2⟩:=hi
 rw [g1]
 simp only [Option.bind_some]
 by_cases c2:r<0
 ·exact ⟨-1,by simp [c2], .inl (by omega)⟩
 have g2:=g2.resolve_left c2
 exact ⟨r,by simp [c2], .inr ⟨by omega,by unfold big; omega,g2.2⟩⟩
def lW (w:Ou):Prop:=lV w.1∧w.2.1.length≤9223372036854775807∧∀s∈w.2.1,lSe s
theorem adA {n:Nat} {w:Ou} (hl:lW w) (hn:big<n):∃r,uL n w 1048576=some (r,())∧(r<0∨OKW w):=by
 have hn':1048576<n:=hn
 have hll:=hl.2.1
 unfold uL uJ
 obtain ⟨r1,g1,g2⟩:=abS hl.1 hn
 simp only [g1,Option.bind_some]
 by_cases c1:r1<0
 ·exact ⟨-1,by simp [c1], .inl (by omega)⟩
 have g2:=g2.resolve_left c1
 simp only [c1,decide_false,Bool.false_eq_true,if_false]
 rw [wrap_i64 (x:=r1 - (w.2.1.length:Int)) (by omega) (by omega)]
 by_cases c2:r1 - (w.2.1.length:Int)<0
 ·exact ⟨-1,by simp [c2], .inl (by omega)⟩
 have hb:w.2.1.length≤big:=by unfold big; omega
 simp only [c2,decide_false,Bool.false_eq_true,if_false]
 have hz:∃r,rounds _ n (w.2.1,r1 - (w.2.1.length:Int),((0:Nat):Int),())=some (r,())∧_:=Rp (f:=ni n) (ok:=KU) (d:=dS) (xs:=w.2.1) (fun L v=>rfl) (fun x hx k h1 h2=>YO (hl.2.2 x hx) h1 h2) hb w.2.1.length 0 n (r1 - (w.2.1.length:Int)) (by omega) (by omega) (by omega) (by omega)
 obtain ⟨r,e1,e2⟩:=hz
 refine (?_:∃r',(Option.bind (rounds _ n (w.2.1,r1 - (w.2.1.length:Int),(0:Int),())) _)=some (r',())∧_)
 rw [show (0:Int)=((0:Nat):Int) from rfl]
 erw [e1]
 simp only [Option.bind_some]
 by_cases c3:r<0
 ·exact ⟨-1,by simp [c3], .inl (by omega)⟩
 have e2:=e2.resolve_left c3
 refine ⟨r,by simp [c3], .inr ⟨g2.2,hb,fun s hs=>?_⟩⟩
 obtain ⟨i,hi,rfl⟩:=List.mem_iff_getElem.1 hs
 exact e2.2 i hi (Nat.zero_le _)
theorem ao0 {w:Ou} (h:EM (.st (.pair (.st (.pair .bool (.pair (.sl 5 (.int .u8)) (.pair (.sl 5 (.int .u8)) (.pair (.st (.pair (.int .i64) (.pair (.sl 0 (.st (.pair .str (.pair (.int .i64) (.pair (.int .i64) (.pair (.sl 0 (.st (.pair (.int .i64) (.pair (.int .i64) (.pair (.int .i64) (.pair (.sl 5 (.int .u8)) .unit)))))) .unit)))))) .unit))) .unit))))) (.pair (.sl 0 (.st (.pair .str (.pair (.int .i64) (.pair (.sl 0 (.int .i64)) (.pair (.int .i64) .unit)))))) .unit))) w):lW w:=by
 obtain ⟨⟨_,⟨h1,b1⟩,⟨h2,b2⟩,⟨_,⟨h3,h4⟩,_⟩,_⟩,⟨h5,h6⟩,_⟩:=h
 refine ⟨⟨⟨h1,fun x hx=>?_⟩,⟨h2,fun x hx=>?_⟩,h3,fun b hb=>?_⟩,h5,fun s hs=>?_⟩
 ·have:=b1 x hx
  simp only [EM,KX] at this
  omega
 ·have:=b2 x hx
  simp only [EM,KX] at this
  omega
 ·obtain ⟨⟨g1,_⟩,_,_,⟨g2,g3⟩,_⟩:=h4 b hb
  refine ⟨g1,g2,fun m hm=>?_⟩
  obtain ⟨_,_,_,⟨f1,_⟩,_⟩:=g3 m hm
  exact f1
 ·obtain ⟨⟨g1,_⟩,_,⟨g2,_⟩,_⟩:=h6 s hs
  exact ⟨g1,g2⟩
end Go.Proofs.YtdknpknohipffaaGreat.Ju
