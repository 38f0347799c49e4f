/- 'FnExactWorldFault': what it comes to. -/
import Derived.Test.YtailcbngagacaaaGreatOwF
import Derived.Test.YtailcbngagacaaaGreatLoopLib
import Derived.Test.YtailcbngagacaaaGreatStoreMath
import Derived.Test.YtailcbngagacaaaGreatOpsMath
import Derived.Test.YtailcbngagacaaaGreatCodecMath
import Derived.Test.YtailcbngagacaaaGreatVaultMath
import Derived.Test.YtailcbngagacaaaGreatWfF
set_option linter.unusedSectionVars false
set_option linter.unusedVariables false
set_option linter.unusedSimpArgs false
namespace Go.Proofs.YtailcbngagacaaaGreat.U0
open Go Go.Proofs.YtailcbngagacaaaGreat.Ow Go.Proofs.YtailcbngagacaaaGreat.UZ Go.Proofs.YtailcbngagacaaaGreat.tV Go.Proofs.YtailcbngagacaaaGreat.oz Go.Proofs.YtailcbngagacaaaGreat.pK Go.Proofs.YtailcbngagacaaaGreat.u7 Go.Proofs.YtailcbngagacaaaGreat.Kc
abbrev X9:=List Int×Int×List Int×Int×Unit
abbrev Yc:=Um×List X9×Unit
abbrev dS:X9:=([],0,[],0,())
def TP (s:X9):Prop:=s.1.length≤big∧s.2.2.1.length≤big
structure OKW (w:Yc):Prop where
 v:Ze w.1
 l:w.2.1.length≤big
 s:∀s∈w.2.1,TP s
def Xf (s:X9):Int:=
 if (!decide (1≤s.2.2.2.1∧s.2.2.2.1≤3))=true then 3 else if (!decide (0≤s.2.1∧s.2.1≤999))=true then 3 else if decide ((s.2.2.1.length:Int)>6)=true then 3 else if (!Bp s.2.2.1)=true then 3 else
 if decide (s.1=[])=true then (if (!decide (s.2.1=0))=true then 1 else if decide ((s.2.2.1.length:Int)>0)=true then 1 else 0) else
 if (!decide (oO s.1))=true then 1 else if decide (s.2.1=0)=true then 1 else 0
theorem Xg {n:Nat} {s:X9} (h:TP s) (hn:big<n):mU n s=some (Xf s,()):=by
 unfold mU yU Xf
 simp only [BK,K9 h.2 hn,Bq,(name_eq h.1 hn).2,Option.bind_some]
 split
 ·rfl
 split
 ·rfl
 split
 ·rfl
 split
 ·rfl
 split
 ·split
  ·rfl
  ·split <;> rfl
 ·split
  ·rfl
  ·split <;> rfl
def xD (l:List X9) (j:Nat):Option (Option (Int×Unit)):=if (!decide (Xf (l.getD j dS)=0))=true then some (some (Xf (l.getD j dS),())) else none
theorem Ub {n:Nat} {w:Yc} (h:OKW w) (hn:big<n) {c:Int} (h1:lY n w.1=some (c,())) (h0:c=0) (hl:1≤w.2.1.length∧w.2.1.length≤3):iq n w=bX (xD w.2.1) (some (0,())) w.2.1.length 0:=by
 have hn':1048576<n:=hn
 unfold iq
 rw [h1]
 simp only [Option.bind_some,h0,decide_true,Bool.not_true,Bool.false_eq_true,if_false]
 rw [if_neg (by rw [decide_eq_true_eq]; omega),if_neg (by rw [decide_eq_true_eq]; omega)]
 refine aR (fun i=>(w,(i:Int),())) (xD w.2.1) (some (0,())) (m:=w.2.1.length) rfl (by omega) ?_ ?_
 ·intro L i hi _
  have hs:TP (w.2.1.getD i dS):=by rw [getD_lt hi]; exact h.s _ (List.getElem_mem hi)
  simp only [Int.ofNat_lt,hi,decide_true,if_true,aH hi,Int.toNat_natCast,aU hi (by omega),Xg hs hn,Option.bind_some]
  unfold xD
  split <;> rfl
 ·intro L _
  simp
theorem Ua {n:Nat} {w:Yc} (h:OKW w) (hn:big<n) {c:Int} (h1:jH n w.1=some (c,())) (h0:c=0) (hl:1≤w.2.1.length∧w.2.1.length≤3):fQ n w=bX (xD w.2.1) (some (0,())) w.2.1.length 0:=by
 have hn':1048576<n:=hn
 unfold fQ fT
 rw [h1]
 simp only [Option.bind_some,h0,decide_true,Bool.not_true,Bool.false_eq_true,if_false,mH,BK]
 rw [decide_eq_true (show (1:Int)≤(w.2.1.length:Int)∧(w.2.1.length:Int)≤3 by omega)]
 simp only [Bool.not_true,Bool.false_eq_true,if_false]
 refine aR (fun i=>(w.2.1,(w.2.1.length:Int),(i:Int),())) (xD w.2.1) (some (0,())) (m:=w.2.1.length) rfl (by omega) ?_ ?_
 ·intro L i hi _
  have hs:TP (w.2.1.getD i dS):=by rw [getD_lt hi]; exact h.s _ (List.getElem_mem hi)
  simp only [Int.ofNat_lt,hi,decide_true,if_true,aH hi,Int.toNat_natCast,aU hi (by omega)]
  simp only [oQ,mH,BK,K8 hs.2 hn,Bq,(name_eq hs.1 hn).1,Option.bind_some]
  unfold xD Xf
  cases b1:decide (1≤(w.2.1.getD i dS).2.2.2.1∧(w.2.1.getD i dS).2.2.2.1≤3)
  ·simp only [Bool.not_false,if_true]; rfl
  cases b2:decide (0≤(w.2.1.getD i dS).2.1∧(w.2.1.getD i dS).2.1≤999)
  ·simp only [Bool.not_false,Bool.not_true,Bool.false_eq_true,if_false,if_true]; rfl
  cases b3:decide (((w.2.1.getD i dS).2.2.1.length:Int)>6)
  ·cases b4:Bp (w.2.1.getD i dS).2.2.1
   ·simp only [Bool.not_false,Bool.not_true,Bool.false_eq_true,if_false,if_true]; rfl
   cases b5:decide ((w.2.1.getD i dS).1=[])
   ·cases b6:decide (oO (w.2.1.getD i dS).1)
    ·simp only [Bool.not_false,Bool.not_true,Bool.false_eq_true,if_false,if_true]; rfl
    ·cases b7:decide ((w.2.1.getD i dS).2.1=0) <;> (simp only [Bool.not_false,Bool.not_true,Bool.false_eq_true,if_false,if_true]; rfl)
   ·cases b7:decide ((w.2.1.getD i dS).2.1=0)
    ·simp only [Bool.not_false,Bool.not_true,Bool.false_eq_true,if_false,if_true]; rfl
    ·cases b8:decide (((w.2.1.getD i dS).2.2.1.length:Int)>0) <;> (simp only [Bool.not_false,Bool.not_true,Bool.false_eq_true,if_false,if_true]; rfl)
  ·simp only [Bool.not_false,Bool.not_true,Bool.false_eq_true,if_false,if_true]; rfl
 ·intro L _
  simp
theorem uu {step:Nat→Option (Option (Int×Unit))} (hs:∀j r,step j=some r→∃c,r=some (c,())):∀{m i:Nat},∃c,bX step (some (0,())) m i=some (c,())
 | 0,i=>⟨0,rfl⟩
 | m+1,i=>by
  rw [bX]
  cases h:step i with
  | some r=>exact hs i r h
  | none=>exact uu hs
theorem QM {n:Nat} {w:Yc} (h:OKW w) (hn:big<n):∃c:Int,fQ n w=some (c,())∧iq n w=some (c,()):=by
 obtain ⟨c,e1,e2,_⟩:=QI h.v hn
 by_cases h0:c=0
 ·by_cases hl:1≤w.2.1.length∧w.2.1.length≤3
  ·rw [Ua h hn e1 h0 hl,Ub h hn e2 h0 hl]
   obtain ⟨d,hd⟩:=uu (step:=xD w.2.1) (fun j r hj=>by
    unfold xD at hj
    split at hj
    ·exact ⟨_,(Option.some.inj hj).symm⟩
    ·simp at hj) (m:=w.2.1.length) (i:=0)
   exact ⟨d,hd,hd⟩
  ·refine ⟨2, ?_, ?_⟩
   ·unfold fQ fT
    rw [e1]
    simp only [Option.bind_some,h0,decide_true,Bool.not_true,Bool.false_eq_true,if_false,mH,BK]
    rw [decide_eq_false (show ¬((1:Int)≤(w.2.1.length:Int)∧(w.2.1.length:Int)≤3) by omega)]
    rfl
   ·unfold iq
    rw [e2]
    simp only [Option.bind_some,h0,decide_true,Bool.not_true,Bool.false_eq_true,if_false]
    by_cases h1:(w.2.1.length:Int)<1
    ·rw [if_pos (by rw [decide_eq_true_eq]; exact h1)]
    ·rw [if_neg (by rw [decide_eq_true_eq]; exact h1),if_pos (by rw [decide_eq_true_eq]; omega)]
 ·refine ⟨c, ?_, ?_⟩
  ·unfold fQ
   rw [e1]
   simp only [Option.bind_some,h0,decide_false,Bool.not_false,if_true]
  ·unfold iq
   rw [e2]
   simp only [Option.bind_some,h0,decide_false,Bool.not_false,if_true]
theorem Xq {n:Nat} {bs:List Int} (hb:bs.length≤big) (hn:big<n):pJ n bs=some (bs,()):=by
 have hb':=hb
 unfold big at hb
 unfold pJ
 rw [if_pos (by omega)]
 exact yu (f:=fun x=>some (x,())) (d:=(0:Int)) (fun L v=>rfl) (fun _ _=>rfl) hb' hn
theorem Vq {n:Nat} {bs:List Int} (hb:bs.length≤big) (hn:big<n):pI n bs bs=some (true,()):=by
 unfold pI
 rw [if_neg (by simp)]
 refine AB (f:=fun x y=>some (decide (x=y),())) (d:=(0:Int)) (fun L v=>rfl) (fun _ _=>by simp) hb hn
theorem Y4 {n:Nat} {w:Yc} (h:OKW w) (hn:big<n):kE n w=some (w,()):=by
 have hb:=h.l
 unfold big at hb
 unfold kE qY
 rw [Y3 h.v hn]
 simp only [Option.bind_some]
 rw [if_pos ⟨trivial,by omega,by omega⟩]
 refine (congrArg (fun x=>Option.bind x fun r2:List X9×Unit=>some ((w.1,r2.1,()),())) (yu (f:=oq n) (d:=dS) (xs:=w.2.1) (fun L v=>rfl) (fun x hx=>?_) h.l hn)).trans rfl
 unfold oq
 rw [Xq (h.s x hx).2 hn]
 rfl
theorem Yn {n:Nat} {w:Yc} (h:OKW w) (hn:big<n):qQ n w w=some (true,()):=by
 unfold qQ qN
 rw [Ym h.v hn]
 simp only [Option.bind_some,Bool.not_true,Bool.false_eq_true,if_false,decide_true]
 refine (congrArg (fun x=>Option.bind x fun r2:Bool×Unit=>if (!r2.1)=true then some (false,()) else some (true,())) (AB (f:=oo n) (d:=dS) (xs:=w.2.1) (fun L v=>rfl) (fun x hx=>?_) h.l hn)).trans rfl
 unfold oo
 simp [Vq (h.s x hx).2 hn]
def lSe (s:X9):Prop:=s.1.length≤9223372036854775807∧s.2.2.1.length≤9223372036854775807
theorem Uf {n:Nat} {s:X9} (hl:lSe s) {k:Int} (h1:0≤k) (h2:k≤1048576):∃r,ku n s k=some (r,())∧(r<0∨(r≤k∧TP s)):=by
 have l1:=hl.1
 have l2:=hl.2
 unfold ku
 rw [wrap_i64 (x:=k - (s.1.length:Int)) (by omega) (by omega)]
 by_cases c1:k - (s.1.length:Int)<0
 ·exact ⟨-1,by simp [c1], .inl (by omega)⟩
 simp only [c1,decide_false,Bool.false_eq_true,if_false]
 have hi:∃r,uH n s.2.2.1 (k - (s.1.length:Int))=some (r,())∧(r<0∨(r≤k - (s.1.length:Int)∧s.2.2.1.length≤big)):=Gg (n:=n) l2 (by omega) (by omega)
 obtain ⟨r,g1,g2⟩:=hi
 rw [g1]
 simp only [Option.bind_some]
 by_cases c2:r<0
 ·exact ⟨-1,by simp [c2], .inl (by omega)⟩
 have g2:=g2.resolve_left c2
 exact ⟨r,by simp [c2], .inr ⟨by omega,by unfold big; omega,g2.2⟩⟩
def lW (w:Yc):Prop:=lV w.1∧w.2.1.length≤9223372036854775807∧∀s∈w.2.1,lSe s
theorem Y0 {n:Nat} {w:Yc} (hl:lW w) (hn:big<n):∃r,qW n w 1048576=some (r,())∧(r<0∨OKW w):=by
 have hn':1048576<n:=hn
 have hll:=hl.2.1
 unfold qW qU
 obtain ⟨r1,g1,g2⟩:=Xo hl.1 hn
 simp only [g1,Option.bind_some]
 by_cases c1:r1<0
 ·exact ⟨-1,by simp [c1], .inl (by omega)⟩
 have g2:=g2.resolve_left c1
 simp only [c1,decide_false,Bool.false_eq_true,if_false]
 rw [wrap_i64 (x:=r1 - (w.2.1.length:Int)) (by omega) (by omega)]
 by_cases c2:r1 - (w.2.1.length:Int)<0
 ·exact ⟨-1,by simp [c2], .inl (by omega)⟩
 have hb:w.2.1.length≤big:=by unfold big; omega
 simp only [c2,decide_false,Bool.false_eq_true,if_false]
 have hz:∃r,rounds _ n (w.2.1,r1 - (w.2.1.length:Int),((0:Nat):Int),())=some (r,())∧_:=ML (f:=ku n) (ok:=TP) (d:=dS) (xs:=w.2.1) (fun L v=>rfl) (fun x hx k h1 h2=>Uf (hl.2.2 x hx) h1 h2) hb w.2.1.length 0 n (r1 - (w.2.1.length:Int)) (by omega) (by omega) (by omega) (by omega)
 obtain ⟨r,e1,e2⟩:=hz
 refine (?_:∃r',(Option.bind (rounds _ n (w.2.1,r1 - (w.2.1.length:Int),(0:Int),())) _)=some (r',())∧_)
 rw [show (0:Int)=((0:Nat):Int) from rfl]
 erw [e1]
 simp only [Option.bind_some]
 by_cases c3:r<0
 ·exact ⟨-1,by simp [c3], .inl (by omega)⟩
 have e2:=e2.resolve_left c3
 refine ⟨r,by simp [c3], .inr ⟨g2.2,hb,fun s hs=>?_⟩⟩
 obtain ⟨i,hi,rfl⟩:=List.mem_iff_getElem.1 hs
 exact e2.2 i hi (Nat.zero_le _)
theorem law {w:Yc} (hw:lW w):jM 1048577 w=some (true,()):=by
 have hn:big<1048577:=by unfold big; omega
 unfold jM
 obtain ⟨r1,a1,a2⟩:=Y0 hw hn
 rw [a1]
 simp only [Option.bind_some]
 by_cases c1:r1<0
 ·simp only [c1,decide_true,if_true]
 ·have hV:=a2.resolve_left c1
  obtain ⟨c,e1,e2⟩:=QM hV hn
  have e3:mR 1048577 w=some (c,()):=by
   unfold mR
   rw [e2]
   rfl
  simp only [c1,decide_false,Bool.false_eq_true,if_false,Y4 hV hn,e1,e3,Option.bind_some,Yn hV hn,decide_true,Bool.not_true]
theorem all:∀(N:Nat) (c:Cont (kin bV)),YL bV c→szC bV c≤N→∃n out,jL.F n c=some out∧out.1=true:=by
 intro N c hc _
 refine ⟨1048577,(true,()),law (w:=c.1) ?_,rfl⟩
 obtain ⟨⟨⟨_,⟨h1,b1⟩,⟨h2,b2⟩,⟨_,⟨h3,h4⟩,_⟩,_⟩,⟨h5,h6⟩,_⟩,_⟩:=hc
 refine ⟨⟨⟨h1,fun x hx=>?_⟩,⟨h2,fun x hx=>?_⟩,h3,fun b hb=>?_⟩,h5,fun s hs=>?_⟩
 ·have:=b1 x hx
  simp only [BU,FY] at this
  omega
 ·have:=b2 x hx
  simp only [BU,FY] at this
  omega
 ·obtain ⟨⟨g1,_⟩,_,_,⟨g2,g3⟩,_⟩:=h4 b hb
  refine ⟨g1,g2,fun m hm=>?_⟩
  obtain ⟨_,_,_,⟨f1,_⟩,_⟩:=g3 m hm
  exact f1
 ·obtain ⟨⟨g1,_⟩,_,⟨g2,_⟩,_⟩:=h6 s hs
  exact ⟨g1,g2⟩
end Go.Proofs.YtailcbngagacaaaGreat.U0
