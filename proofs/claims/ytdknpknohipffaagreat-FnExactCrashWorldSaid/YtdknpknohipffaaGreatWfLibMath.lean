/- Worlds: both sides find the same fault; sizes, copies, equalities. -/
import Derived.Test.YtdknpknohipffaaGreatOwF
import Derived.Test.YtdknpknohipffaaGreatLoopLib
import Derived.Test.YtdknpknohipffaaGreatStoreMath
import Derived.Test.YtdknpknohipffaaGreatOpsMath
import Derived.Test.YtdknpknohipffaaGreatCodecMath
import Derived.Test.YtdknpknohipffaaGreatVaultMath
import Derived.Test.YtdknpknohipffaaGreatCwF
set_option linter.unusedSectionVars false
set_option linter.unusedVariables false
set_option linter.unusedSimpArgs false
namespace Go.Proofs.YtdknpknohipffaaGreat.Hq
open Go Go.Proofs.YtdknpknohipffaaGreat.Ow Go.Proofs.YtdknpknohipffaaGreat.Qq Go.Proofs.YtdknpknohipffaaGreat.kG Go.Proofs.YtdknpknohipffaaGreat.gK Go.Proofs.YtdknpknohipffaaGreat.jO Go.Proofs.YtdknpknohipffaaGreat.lD Go.Proofs.YtdknpknohipffaaGreat.tC
abbrev Qr:=List Int×Int×List Int×Int×Unit
abbrev M9:=Jn×List Qr×Unit
abbrev dS:Qr:=([],0,[],0,())
def Mm (s:Qr):Prop:=s.1.length≤big∧s.2.2.1.length≤big
structure OKW (w:M9):Prop where
 v:Yi w.1
 l:w.2.1.length≤big
 s:∀s∈w.2.1,Mm s
def aau (s:Qr):Int:=
 if (!decide (1≤s.2.2.2.1∧s.2.2.2.1≤3))=true then 3 else if (!decide (0≤s.2.1∧s.2.1≤999))=true then 3 else if decide ((s.2.2.1.length:Int)>6)=true then 3 else if (!CS s.2.2.1)=true then 3 else
 if decide (s.1=[])=true then (if (!decide (s.2.1=0))=true then 1 else if decide ((s.2.2.1.length:Int)>0)=true then 1 else 0) else
 if (!decide (qi s.1))=true then 1 else if decide (s.2.1=0)=true then 1 else 0
theorem aav {n:Nat} {s:Qr} (h:Mm s) (hn:big<n):oF n s=some (aau s,()):=by
 unfold oF zX aau
 simp only [Cj,OL h.2 hn,CU,(name_eq h.1 hn).2,ape]
 split
 ·rfl
 split
 ·rfl
 split
 ·rfl
 split
 ·rfl
 split
 ·split
  ·rfl
  ·split <;> rfl
 ·split
  ·rfl
  ·split <;> rfl
def yz (l:List Qr) (j:Nat):Option (Option (Int×Unit)):=if (!decide (aau (l.getD j dS)=0))=true then some (some (aau (l.getD j dS),())) else none
theorem XN {n:Nat} {w:M9} (h:OKW w) (hn:big<n) {c:Int} (h1:j4 n w.1=some (c,())) (h0:c=0) (hl:1≤w.2.1.length∧w.2.1.length≤3):fF n w=bX (yz w.2.1) (some (0,())) w.2.1.length 0:=by
 have hn':1048576<n:=hn
 unfold fF
 rw [h1]
 simp only [ape,h0,decide_true,apF,apg,if_false]
 rw [if_neg (by rw [decide_eq_true_eq]; omega),if_neg (by rw [decide_eq_true_eq]; omega)]
 refine aM (fun i=>(w,(i:Int),())) (yz w.2.1) (some (0,())) (m:=w.2.1.length) rfl (by omega) ?_ ?_
 ·intro L i hi _
  have hs:Mm (w.2.1.getD i dS):=by rw [getD_lt hi]; exact h.s _ (apG hi)
  simp only [apE,hi,decide_true,if_true,aG hi,apn,aN hi (by omega),aav hs hn,ape]
  unfold yz
  split <;> rfl
 ·intro L _
  simp
theorem XM {n:Nat} {w:M9} (h:OKW w) (hn:big<n) {c:Int} (h1:iI n w.1=some (c,())) (h0:c=0) (hl:1≤w.2.1.length∧w.2.1.length≤3):gy n w=bX (yz w.2.1) (some (0,())) w.2.1.length 0:=by
 have hn':1048576<n:=hn
 unfold gy gz
 rw [h1]
 simp only [ape,h0,decide_true,apF,apg,if_false,mK,Cj]
 rw [decide_eq_true (show (1:Int)≤(w.2.1.length:Int)∧(w.2.1.length:Int)≤3 by omega)]
 simp only [apF,apg,if_false]
 refine aM (fun i=>(w.2.1,(w.2.1.length:Int),(i:Int),())) (yz w.2.1) (some (0,())) (m:=w.2.1.length) rfl (by omega) ?_ ?_
 ·intro L i hi _
  have hs:Mm (w.2.1.getD i dS):=by rw [getD_lt hi]; exact h.s _ (apG hi)
  simp only [apE,hi,decide_true,if_true,aG hi,apn,aN hi (by omega)]
  simp only [qj,mK,Cj,OJ hs.2 hn,CU,(name_eq hs.1 hn).1,ape]
  unfold yz aau
  cases b1:decide (1≤(w.2.1.getD i dS).2.2.2.1∧(w.2.1.getD i dS).2.2.2.1≤3)
  ·simp only [apQ,if_true]; rfl
  cases b2:decide (0≤(w.2.1.getD i dS).2.1∧(w.2.1.getD i dS).2.1≤999)
  ·simp only [apQ,apF,apg,if_false,if_true]; rfl
  cases b3:decide (((w.2.1.getD i dS).2.2.1.length:Int)>6)
  ·cases b4:CS (w.2.1.getD i dS).2.2.1
   ·simp only [apQ,apF,apg,if_false,if_true]; rfl
   cases b5:decide ((w.2.1.getD i dS).1=[])
   ·cases b6:decide (qi (w.2.1.getD i dS).1)
    ·simp only [apQ,apF,apg,if_false,if_true]; rfl
    ·cases b7:decide ((w.2.1.getD i dS).2.1=0) <;> (simp only [apQ,apF,apg,if_false,if_true]; rfl)
   ·cases b7:decide ((w.2.1.getD i dS).2.1=0)
    ·simp only [apQ,apF,apg,if_false,if_true]; rfl
    ·cases b8:decide (((w.2.1.getD i dS).2.2.1.length:Int)>0) <;> (simp only [apQ,apF,apg,if_false,if_true]; rfl)
  ·simp only [apQ,apF,apg,if_false,if_true]; rfl
 ·intro L _
  simp
theorem uL {step:Nat→Option (Option (Int×Unit))} (hs:∀j r,step j=some r→∃c,r=some (c,())):∀{m i:Nat},∃c,bX step (some (0,())) m i=some (c,())
 | 0,i=>⟨0,rfl⟩
 | m+1,i=>by
  rw [bX]
  cases h:step i with
  | some r=>exact hs i r h
  | none=>exact uL hs
theorem U0 {n:Nat} {w:M9} (h:OKW w) (hn:big<n):∃c:Int,gy n w=some (c,())∧fF n w=some (c,()):=by
 obtain ⟨c,e1,e2,_⟩:=EG h.v hn
 by_cases h0:c=0
 ·by_cases hl:1≤w.2.1.length∧w.2.1.length≤3
  ·rw [XM h hn e1 h0 hl,XN h hn e2 h0 hl]
   obtain ⟨d,hd⟩:=uL (step:=yz w.2.1) (fun j r hj=>by
    unfold yz at hj
    split at hj
    ·exact ⟨_,(apN hj).symm⟩
    ·simp at hj) (m:=w.2.1.length) (i:=0)
   exact ⟨d,hd,hd⟩
  ·refine ⟨2, ?_, ?_⟩
   ·unfold gy gz
    rw [e1]
    simp only [ape,h0,decide_true,apF,apg,if_false,mK,Cj]
    rw [decide_eq_false (show ¬((1:Int)≤(w.2.1.length:Int)∧(w.2.1.length:Int)≤3) by omega)]
    rfl
   ·unfold fF
    rw [e2]
    simp only [ape,h0,decide_true,apF,apg,if_false]
    by_cases h1:(w.2.1.length:Int)<1
    ·rw [if_pos (by rw [decide_eq_true_eq]; exact h1)]
    ·rw [if_neg (by rw [decide_eq_true_eq]; exact h1),if_pos (by rw [decide_eq_true_eq]; omega)]
 ·refine ⟨c, ?_, ?_⟩
  ·unfold gy
   rw [e1]
   simp only [ape,h0,decide_false,apQ,if_true]
  ·unfold fF
   rw [e2]
   simp only [ape,h0,decide_false,apQ,if_true]
theorem aaE {n:Nat} {bs:List Int} (hb:bs.length≤big) (hn:big<n):qG n bs=some (bs,()):=by
 have hb':=hb
 unfold big at hb
 unfold qG
 rw [if_pos (by omega)]
 exact zm (f:=fun x=>some (x,())) (d:=(0:Int)) (fun L v=>rfl) (fun _ _=>rfl) hb' hn
theorem Lg {n:Nat} {bs:List Int} (hb:bs.length≤big) (hn:big<n):jZ n bs bs=some (true,()):=by
 unfold jZ
 rw [if_neg (by simp)]
 refine wI (f:=fun x y=>some (decide (x=y),())) (d:=(0:Int)) (fun L v=>rfl) (fun _ _=>by simp) hb hn
theorem acd {n:Nat} {w:M9} (h:OKW w) (hn:big<n):jG n w=some (w,()):=by
 have hb:=h.l
 unfold big at hb
 unfold jG rM
 rw [ab9 h.v hn]
 simp only [ape]
 rw [if_pos ⟨trivial,by omega,by omega⟩]
 refine (congrArg (fun x=>Option.bind x fun r2:List Qr×Unit=>some ((w.1,r2.1,()),())) (zm (f:=pW n) (d:=dS) (xs:=w.2.1) (fun L v=>rfl) (fun x hx=>?_) h.l hn)).trans rfl
 unfold pW
 rw [aaE (h.s x hx).2 hn]
 rfl
theorem abv {n:Nat} {w:M9} (h:OKW w) (hn:big<n):lK n w w=some (true,()):=by
 unfold lK kE
 rw [abu h.v hn]
 simp only [ape,apF,apg,if_false,decide_true]
 refine (congrArg (fun x=>Option.bind x fun r2:Bool×Unit=>if (!r2.1)=true then some (false,()) else some (true,())) (wI (f:=jr n) (d:=dS) (xs:=w.2.1) (fun L v=>rfl) (fun x hx=>?_) h.l hn)).trans rfl
 unfold jr
 simp [Lg (h.s x hx).2 hn]
def lSe (s:Qr):Prop:=s.1.length≤9223372036854775807∧s.2.2.1.length≤9223372036854775807
theorem XR {n:Nat} {s:Qr} (hl:lSe s) {k:Int} (h1:0≤k) (h2:k≤1048576):∃r,lZ n s k=some (r,())∧(r<0∨(r≤k∧Mm s)):=by
 have l1:=hl.1
 have l2:=hl.2
 unfold lZ
 rw [wrap_i64 (x:=k - (s.1.length:Int)) (by omega) (by omega)]
 by_cases c1:k - (s.1.length:Int)<0
 ·exact ⟨-1,by simp [c1], .inl (by omega)⟩
 simp only [c1,decide_false,apg,if_false]
 have hi:∃r,uX n s.2.2.1 (k - (s.1.length:Int))=some (r,())∧(r<0∨(r≤k - (s.1.length:Int)∧s.2.2.1.length≤big)):=J5 (n:=n) l2 (by omega) (by omega)
 obtain ⟨r,g1,g2⟩:=hi
 rw [g1]
 simp only [ape]
 by_cases c2:r<0
 ·exact ⟨-1,by simp [c2], .inl (by omega)⟩
 have g2:=g2.resolve_left c2
 exact ⟨r,by simp [c2], .inr ⟨by omega,by unfold big; omega,g2.2⟩⟩
def lW (w:M9):Prop:=lV w.1∧w.2.1.length≤9223372036854775807∧∀s∈w.2.1,lSe s
theorem ab6 {n:Nat} {w:M9} (hl:lW w) (hn:big<n):∃r,rH n w 1048576=some (r,())∧(r<0∨OKW w):=by
 have hn':1048576<n:=hn
 have hll:=hl.2.1
 unfold rH rF
 obtain ⟨r1,g1,g2⟩:=aaD hl.1 hn
 simp only [g1,ape]
 by_cases c1:r1<0
 ·exact ⟨-1,by simp [c1], .inl (by omega)⟩
 have g2:=g2.resolve_left c1
 simp only [c1,decide_false,apg,if_false]
 rw [wrap_i64 (x:=r1 - (w.2.1.length:Int)) (by omega) (by omega)]
 by_cases c2:r1 - (w.2.1.length:Int)<0
 ·exact ⟨-1,by simp [c2], .inl (by omega)⟩
 have hb:w.2.1.length≤big:=by unfold big; omega
 simp only [c2,decide_false,apg,if_false]
 have hz:∃r,rounds _ n (w.2.1,r1 - (w.2.1.length:Int),((0:Nat):Int),())=some (r,())∧_:=Qk (f:=lZ n) (ok:=Mm) (d:=dS) (xs:=w.2.1) (fun L v=>rfl) (fun x hx k h1 h2=>XR (hl.2.2 x hx) h1 h2) hb w.2.1.length 0 n (r1 - (w.2.1.length:Int)) (by omega) (by omega) (by omega) (by omega)
 obtain ⟨r,e1,e2⟩:=hz
 refine (?_:∃r',(Option.bind (rounds _ n (w.2.1,r1 - (w.2.1.length:Int),(0:Int),())) _)=some (r',())∧_)
 rw [show (0:Int)=((0:Nat):Int) from rfl]
 erw [e1]
 simp only [ape]
 by_cases c3:r<0
 ·exact ⟨-1,by simp [c3], .inl (by omega)⟩
 have e2:=e2.resolve_left c3
 refine ⟨r,by simp [c3], .inr ⟨g2.2,hb,fun s hs=>?_⟩⟩
 obtain ⟨i,hi,rfl⟩:=List.mem_iff_getElem.1 hs
 exact e2.2 i hi (apM _)
theorem amG {w:M9} (h:Cm (.st (.pair (.st (.pair .bool (.pair (.sl 5 (.int .u8)) (.pair (.sl 5 (.int .u8)) (.pair (.st (.pair (.int .i64) (.pair (.sl 0 (.st (.pair .str (.pair (.int .i64) (.pair (.int .i64) (.pair (.sl 0 (.st (.pair (.int .i64) (.pair (.int .i64) (.pair (.int .i64) (.pair (.sl 5 (.int .u8)) .unit)))))) .unit)))))) .unit))) .unit))))) (.pair (.sl 0 (.st (.pair .str (.pair (.int .i64) (.pair (.sl 0 (.int .i64)) (.pair (.int .i64) .unit)))))) .unit))) w):lW w:=by
 obtain ⟨⟨_,⟨h1,b1⟩,⟨h2,b2⟩,⟨_,⟨h3,h4⟩,_⟩,_⟩,⟨h5,h6⟩,_⟩:=h
 refine ⟨⟨⟨h1,fun x hx=>?_⟩,⟨h2,fun x hx=>?_⟩,h3,fun b hb=>?_⟩,h5,fun s hs=>?_⟩
 ·have:=b1 x hx
  simp only [Cm,JB] at this
  omega
 ·have:=b2 x hx
  simp only [Cm,JB] at this
  omega
 ·obtain ⟨⟨g1,_⟩,_,_,⟨g2,g3⟩,_⟩:=h4 b hb
  refine ⟨g1,g2,fun m hm=>?_⟩
  obtain ⟨_,_,_,⟨f1,_⟩,_⟩:=g3 m hm
  exact f1
 ·obtain ⟨⟨g1,_⟩,_,⟨g2,_⟩,_⟩:=h6 s hs
  exact ⟨g1,g2⟩
end Go.Proofs.YtdknpknohipffaaGreat.Hq
