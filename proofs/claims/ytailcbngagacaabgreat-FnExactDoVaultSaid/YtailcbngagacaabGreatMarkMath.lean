/- Marks: what is written into a result, and that it is found again. -/
import Derived.Test.YtailcbngagacaabGreatOwF
import Derived.Test.YtailcbngagacaabGreatLoopLib
import Derived.Test.YtailcbngagacaabGreatStoreMath
import Derived.Test.YtailcbngagacaabGreatOpsMath
import Derived.Test.YtailcbngagacaabGreatDoF
set_option linter.unusedSectionVars false
set_option linter.unusedVariables false
set_option linter.unusedSimpArgs false
namespace Go.Proofs.YtailcbngagacaabGreat.DY
open Go Go.Proofs.YtailcbngagacaabGreat.Ow Go.Proofs.YtailcbngagacaabGreat.Nr Go.Proofs.YtailcbngagacaabGreat.jO Go.Proofs.YtailcbngagacaabGreat.gp Go.Proofs.YtailcbngagacaabGreat.jc
theorem QT {A:Type} {xs:List A} {i:Nat} {d:A} {f:A→A}:(iY xs i d f).length=xs.length:=by simp [iY]
theorem K6 {A:Type} {xs:List A} {i:Nat} {d:A} {f g:A→A} (h:i<xs.length):iY (iY xs i d f) i d g=iY xs i d (fun z=>g (f z)):=by
 unfold iY
 rw [List.set_set,BD h]
theorem Nb {A:Type} {xs:List A} {i:Nat} {d:A} {f:A→A} (h:i<xs.length):(iY xs i d f).getD i d=f (xs.getD i d):=BD h _ _
def mI (k:Int) (l:Nat):List Int:=(List.range l).map fun (i:Nat)=>k+(i:Int)
def mB (k:Int) (l:Nat):List Int:=(List.range l).map fun (i:Nat)=>IntKind.u8.wrap (k+(i:Int))
theorem KD {n:Nat} {xs:List Int} {k:Int} (hb:xs.length≤big) (hn:big<n) (h0:0≤k) (h1:k≤2305843009213693952):kg n xs k=some (k+(xs.length:Int),mI k xs.length,()):=by
 have hb':xs.length≤1048576:=hb
 have hl:(mI k xs.length).length=xs.length:=by simp [mI]
 unfold kg
 have h:=BZ (B:=fun L1 v1=>(if decide (v1.2.1<(v1.2.2.1.length:Int))=true then (if aK v1.2.1 v1.2.2.1.length then L1 (IntKind.i64.wrap (v1.1+(1:Int)),IntKind.i64.wrap (v1.2.1+(1:Int)),v1.2.2.1.set v1.2.1.toNat v1.1,()) else none) else some (v1.1,v1.2.2.1,())))
  (xs:=xs) (ys:=mI k xs.length) (K:=fun i=>k+i) (n:=n) hl (by omega) ?_ ?_
 ·simpa using h
 ·intro L i hi
  simp only [Ca hl (Nat.le_of_lt hi),aon,hi,decide_true,if_true,aH hi,an7,aR hi (by omega)]
  rw [wrap_i64 (by omega) (by omega),zP hl hi _ (by simp [mI])]
  congr 2
  omega
 ·intro L
  simp [hl]
theorem Sn {n:Nat} {l:Nat} {k:Int} (hb:l≤big) (hn:big<n) (h0:0≤k) (h1:k≤2305843009213693952):j6 n (mI k l) k=some (k+(l:Int),()):=by
 have hb':l≤1048576:=hb
 have hl:(mI k l).length=l:=by simp [mI]
 unfold j6
 have h:=BR (B:=fun L1 v1=>(if decide (v1.2.2.1<(v1.1.length:Int))=true then (if aK v1.2.2.1 v1.1.length then (if (!decide ((v1.1.getD v1.2.2.1.toNat (0:Int))=v1.2.1))=true then some ((-1:Int),()) else L1 (v1.1,IntKind.i64.wrap (v1.2.1+(1:Int)),IntKind.i64.wrap (v1.2.2.1+(1:Int)),())) else none) else some (v1.2.1,())))
  (ys:=mI k l) (K:=fun i=>k+i) (n:=n) (by omega) ?_ ?_
 ·rw [hl] at h
  simpa using h
 ·intro L i hi
  have hi':i<l:=by omega
  have hg:(mI k l)[i]=k+(i:Int):=by simp [mI]
  simp only [aon,hi,decide_true,if_true,aH hi,dW hi,hg,aoo,an0,if_false,aR hi (by omega)]
  rw [wrap_i64 (by omega) (by omega)]
  congr 3
  omega
 ·intro L
  simp
theorem BX {n:Nat} {xs:List Int} {k:Int} (hb:xs.length≤big) (hn:big<n) (h0:0≤k) (h1:k≤4611686018427387904):gW n xs k=some (k+(xs.length:Int),mB k xs.length,()):=by
 have hb':xs.length≤1048576:=hb
 have hl:(mB k xs.length).length=xs.length:=by simp [mB]
 unfold gW
 have h:=BZ (B:=fun L1 v1=>(if decide (v1.2.1<(v1.2.2.1.length:Int))=true then (if aK v1.2.1 v1.2.2.1.length then L1 (IntKind.i64.wrap (v1.1+(1:Int)),IntKind.i64.wrap (v1.2.1+(1:Int)),v1.2.2.1.set v1.2.1.toNat (IntKind.u8.wrap v1.1),()) else none) else some (v1.1,v1.2.2.1,())))
  (xs:=xs) (ys:=mB k xs.length) (K:=fun i=>k+i) (n:=n) hl (by omega) ?_ ?_
 ·simpa using h
 ·intro L i hi
  simp only [Ca hl (Nat.le_of_lt hi),aon,hi,decide_true,if_true,aH hi,an7,aR hi (by omega)]
  rw [wrap_i64 (by omega) (by omega),zP hl hi _ (by simp [mB])]
  congr 2
  omega
 ·intro L
  simp [hl]
theorem F3 {n:Nat} {l:Nat} {k:Int} (hb:l≤big) (hn:big<n) (h0:0≤k) (h1:k≤4611686018427387904):fZ n (mB k l) k=some (k+(l:Int),()):=by
 have hb':l≤1048576:=hb
 have hl:(mB k l).length=l:=by simp [mB]
 unfold fZ
 have h:=BR (B:=fun L1 v1=>(if decide (v1.2.2.1<(v1.1.length:Int))=true then (if aK v1.2.2.1 v1.1.length then (if (!decide ((v1.1.getD v1.2.2.1.toNat (0:Int))=(IntKind.u8.wrap v1.2.1)))=true then some ((-1:Int),()) else L1 (v1.1,IntKind.i64.wrap (v1.2.1+(1:Int)),IntKind.i64.wrap (v1.2.2.1+(1:Int)),())) else none) else some (v1.2.1,())))
  (ys:=mB k l) (K:=fun i=>k+i) (n:=n) (by omega) ?_ ?_
 ·rw [hl] at h
  simpa using h
 ·intro L i hi
  have hi':i<l:=by omega
  have hg:(mB k l)[i]=IntKind.u8.wrap (k+(i:Int)):=by simp [mB]
  simp only [aon,hi,decide_true,if_true,aH hi,dW hi,hg,aoo,an0,if_false,aR hi (by omega)]
  rw [wrap_i64 (by omega) (by omega)]
  congr 3
  omega
 ·intro L
  simp
def kM (k:Int) (ms:List mH):Nat→Int
 | 0=>k
 | i+1=>kM k ms i+3+((ms.getD i dM).2.2.2.1.length:Int)
def mM (k:Int) (ms:List mH):List mH:=(List.range ms.length).map fun (i:Nat)=>(kM k ms i,kM k ms i+1,kM k ms i+2,mB (kM k ms i+3) (ms.getD i dM).2.2.2.1.length,())
theorem MS (k:Int) (ms:List mH):(mM k ms).length=ms.length:=by simp [mM]
theorem Be {k:Int} {ms:List mH} (h:∀m∈ms,Ii m):∀i,i≤ms.length→k≤kM k ms i∧kM k ms i≤k+1048579 * (i:Int)
 | 0,_=>by simp [kM]
 | i+1,hi=>by
  have:=Be (k:=k) h i (by omega)
  have h1:=h _ (eO (xs:=ms) (k:=i) (by omega) dM)
  unfold Ii big at h1
  unfold kM
  omega
theorem Om {n:Nat} {ms:List mH} {k:Int} (hb:ms.length≤big) (h:∀m∈ms,Ii m) (hn:big<n) (h0:0≤k) (h1:k≤2305843009213693952):kU n ms k=some (kM k ms ms.length,mM k ms,()):=by
 have hb':ms.length≤1048576:=hb
 have hl:=MS k ms
 unfold kU
 refine BZ (xs:=ms) (ys:=mM k ms) (K:=kM k ms) (n:=n) hl (by omega) ?_ ?_
 ·intro L i hi
  have hlen:=Ca hl (Nat.le_of_lt hi)
  have hlt:i<((mM k ms).take i++ms.drop i).length:=by omega
  have hget:=EA hl hi dM
  have hkb:=Be (k:=k) h i (Nat.le_of_lt hi)
  have hm:(ms[i]).2.2.2.1.length≤big:=h _ (aop hi)
  have w1:IntKind.i64.wrap (kM k ms i+1)=kM k ms i+1:=wrap_i64 (by omega) (by omega)
  have w2:IntKind.i64.wrap (kM k ms i+1+1)=kM k ms i+2:=by rw [wrap_i64 (by omega) (by omega)]; omega
  have w3:IntKind.i64.wrap (kM k ms i+2+1)=kM k ms i+3:=by rw [wrap_i64 (by omega) (by omega)]; omega
  have hs:=zP hl hi (kM k ms i,kM k ms i+1,kM k ms i+2,mB (kM k ms i+3) (ms[i]).2.2.2.1.length,()) (by simp [mM,hi])
  have hk:kM k ms (i+1)=kM k ms i+3+((ms[i]).2.2.2.1.length:Int):=by rw [←getD_lt hi dM]; rfl
  simp only [QT,hlen,aon,hi,decide_true,if_true,aH hi,an7,K6 hlt,Nb hlt,hget,w1,w2,w3,aR hi (by omega),BX hm hn (show 0≤kM k ms i+3 by omega) (by omega),anY]
  rw [hk, ←hs]
  unfold iY
  rw [hget]
 ·intro L
  simp [hl]
theorem Ob {n:Nat} {ms:List mH} {k:Int} (hb:ms.length≤big) (h:∀m∈ms,Ii m) (hn:big<n) (h0:0≤k) (h1:k≤2305843009213693952):kT n (mM k ms) k=some (kM k ms ms.length,()):=by
 have hb':ms.length≤1048576:=hb
 have hl:=MS k ms
 unfold kT
 rw [←hl]
 refine BR (ys:=mM k ms) (K:=kM k ms) (n:=n) (by omega) ?_ ?_
 ·intro L i hi'
  have hi:i<ms.length:=by omega
  have hkb:=Be (k:=k) h i (Nat.le_of_lt hi)
  have hm:(ms[i]).2.2.2.1.length≤big:=h _ (aop hi)
  have w1:IntKind.i64.wrap (kM k ms i+1)=kM k ms i+1:=wrap_i64 (by omega) (by omega)
  have w2:IntKind.i64.wrap (kM k ms i+1+1)=kM k ms i+2:=by rw [wrap_i64 (by omega) (by omega)]; omega
  have w3:IntKind.i64.wrap (kM k ms i+2+1)=kM k ms i+3:=by rw [wrap_i64 (by omega) (by omega)]; omega
  have hg:(mM k ms)[i]=(kM k ms i,kM k ms i+1,kM k ms i+2,mB (kM k ms i+3) (ms[i]).2.2.2.1.length,()):=by simp [mM,hi]
  have hk:kM k ms (i+1)=kM k ms i+3+((ms[i]).2.2.2.1.length:Int):=by rw [←getD_lt hi dM]; rfl
  have hneg:¬(kM k ms i+3+((ms[i]).2.2.2.1.length:Int)<0):=by omega
  simp only [aon,hi',decide_true,if_true,aH hi',dW hi',hg,w1,w2,w3,aoo,an0,if_false,F3 hm hn (show 0≤kM k ms i+3 by omega) (by omega),anY,aR hi' (by omega),hneg,decide_false,hk]
 ·intro L
  simp
theorem LW {n:Nat} (hn:70≤n) {k:Int} (h1:k<4611686018427387904):∃r,iH n k=some (r,()):=by
 unfold iH
 by_cases h0:k≤0
 ·exact ⟨[109,48],by simp [h0]⟩
 ·simp only [h0,decide_false,an0,if_false]
  exact PS [109] (fun v=>IntKind.u8.wrap (IntKind.i64.wrap ((48:Int)+(v.tmod (10:Int))))) (by simp) (fun L v=>rfl) 62 n k [] (by omega) (by omega) h1 (by simp)
def txt (n:Nat) (k:Int):List Int:=((iH n k).getD ([],())).1
theorem Zi {n:Nat} (hn:70≤n) {k:Int} (h1:k<4611686018427387904):iH n k=some (txt n k,()):=by
 obtain ⟨r,h⟩:=LW hn h1
 unfold txt
 rw [h]
 rfl
def kX (k:Int) (bs:List Bx):Nat→Int
 | 0=>k
 | i+1=>kM (kX k bs i+3) (bs.getD i dB).2.2.2.1 (bs.getD i dB).2.2.2.1.length
def mX (n:Nat) (k:Int) (bs:List Bx):List Bx:=(List.range bs.length).map fun (i:Nat)=>(txt n (kX k bs i),kX k bs i+1,kX k bs i+2,mM (kX k bs i+3) (bs.getD i dB).2.2.2.1,())
theorem MU (n:Nat) (k:Int) (bs:List Bx):(mX n k bs).length=bs.length:=by simp [mX]
theorem Es {k:Int} {bs:List Bx} (h:∀b∈bs,okB b):∀i,i≤bs.length→k≤kX k bs i∧kX k bs i≤k+1099514773507 * (i:Int)
 | 0,_=>by simp [kX]
 | i+1,hi=>by
  have:=Es (k:=k) h i (by omega)
  have h1:=h _ (eO (xs:=bs) (k:=i) (by omega) dB)
  have h2:=Be (k:=kX k bs i+3) h1.2.2 _ (aod _)
  have h3:=h1.2.1
  unfold big at h3
  unfold kX
  omega
theorem YG {n:Nat} {bs:List Bx} {k:Int} (hb:bs.length≤big) (h:∀b∈bs,okB b) (hn:big<n) (h0:0≤k) (h1:k≤1099511627776):qj n bs k=some (kX k bs bs.length,mX n k bs,()):=by
 have hb':bs.length≤1048576:=hb
 have hn':1048576<n:=hn
 have hl:=MU n k bs
 unfold qj
 refine BZ (xs:=bs) (ys:=mX n k bs) (K:=kX k bs) (n:=n) hl (by omega) ?_ ?_
 ·intro L i hi
  have hlen:=Ca hl (Nat.le_of_lt hi)
  have hlt:i<((mX n k bs).take i++bs.drop i).length:=by omega
  have hget:=EA hl hi dB
  have hkb:=Es (k:=k) h i (Nat.le_of_lt hi)
  have hB:=h _ (aop hi)
  have w1:IntKind.i64.wrap (kX k bs i+1)=kX k bs i+1:=wrap_i64 (by omega) (by omega)
  have w2:IntKind.i64.wrap (kX k bs i+1+1)=kX k bs i+2:=by rw [wrap_i64 (by omega) (by omega)]; omega
  have w3:IntKind.i64.wrap (kX k bs i+2+1)=kX k bs i+3:=by rw [wrap_i64 (by omega) (by omega)]; omega
  have hs:=zP hl hi (txt n (kX k bs i),kX k bs i+1,kX k bs i+2,mM (kX k bs i+3) (bs[i]).2.2.2.1,()) (by simp [mX,hi])
  have hk:kX k bs (i+1)=kM (kX k bs i+3) (bs[i]).2.2.2.1 (bs[i]).2.2.2.1.length:=by rw [←getD_lt hi dB]; rfl
  simp only [QT,hlen,aon,hi,decide_true,if_true,aH hi,an7,K6 hlt,Nb hlt,hget,w1,w2,w3,aR hi (by omega),Zi (n:=n) (k:=kX k bs i) (by omega) (by omega),Om hB.2.1 hB.2.2 hn (show 0≤kX k bs i+3 by omega) (by omega),anY]
  rw [hk, ←hs]
  unfold iY
  rw [hget]
 ·intro L
  simp [hl]
theorem XU {n:Nat} {bs:List Bx} {k:Int} (hb:bs.length≤big) (h:∀b∈bs,okB b) (hn:big<n) (h0:0≤k) (h1:k≤1099511627776):ng n (mX n k bs) k=some (kX k bs bs.length,()):=by
 have hb':bs.length≤1048576:=hb
 have hn':1048576<n:=hn
 have hl:=MU n k bs
 unfold ng
 rw [←hl]
 refine BR (ys:=mX n k bs) (K:=kX k bs) (n:=n) (by omega) ?_ ?_
 ·intro L i hi'
  have hi:i<bs.length:=by omega
  have hkb:=Es (k:=k) h i (Nat.le_of_lt hi)
  have hB:=h _ (aop hi)
  have w1:IntKind.i64.wrap (kX k bs i+1)=kX k bs i+1:=wrap_i64 (by omega) (by omega)
  have w2:IntKind.i64.wrap (kX k bs i+1+1)=kX k bs i+2:=by rw [wrap_i64 (by omega) (by omega)]; omega
  have w3:IntKind.i64.wrap (kX k bs i+2+1)=kX k bs i+3:=by rw [wrap_i64 (by omega) (by omega)]; omega
  have hg:(mX n k bs)[i]=(txt n (kX k bs i),kX k bs i+1,kX k bs i+2,mM (kX k bs i+3) (bs[i]).2.2.2.1,()):=by simp [mX,hi]
  have hk:kX k bs (i+1)=kM (kX k bs i+3) (bs[i]).2.2.2.1 (bs[i]).2.2.2.1.length:=by rw [←getD_lt hi dB]; rfl
  have hneg:¬(kM (kX k bs i+3) (bs[i]).2.2.2.1 (bs[i]).2.2.2.1.length<0):=by
   have:=Be (k:=kX k bs i+3) hB.2.2 _ (aod _)
   omega
  simp only [aon,hi',decide_true,if_true,aH hi',dW hi',hg,w1,w2,w3,aoo,an0,if_false,Zi (n:=n) (k:=kX k bs i) (by omega) (by omega),Ob hB.2.1 hB.2.2 hn (show 0≤kX k bs i+3 by omega) (by omega),anY,aR hi' (by omega),hneg,decide_false,hk]
 ·intro L
  simp
def mS (n:Nat) (k:Int) (s:lK):lK:=(s.1,mX n k s.2.1,())
def kS (k:Int) (s:lK):Int:=kX k s.2.1 s.2.1.length
theorem Er {k:Int} {s:lK} (h:zQ s):k≤kS k s∧kS k s≤k+1152924803144876032:=by
 have h1:=Es (k:=k) h.2 _ (aod _)
 have h2:=h.1
 unfold big at h2
 unfold kS
 omega
theorem VW {n:Nat} {s:lK} {k:Int} (h:zQ s) (hn:big<n) (h0:0≤k) (h1:k≤1099511627776):o8 n s k=some (kS k s,mS n k s,()):=by
 unfold o8
 rw [YG h.1 h.2 hn h0 h1]
 rfl
theorem Vt {n:Nat} {s:lK} {k:Int} (h:zQ s) (hn:big<n) (h0:0≤k) (h1:k≤1099511627776):lC n (mS n k s) k=some (kS k s,()):=by
 have hb:=Er (k:=k) h
 unfold lC
 have h2:ng n (mS n k s).2.1 k=some (kS k s,()):=XU h.1 h.2 hn h0 h1
 rw [h2]
 have hneg:¬(kS k s<0):=by omega
 simp only [anY,hneg,decide_false,an0,if_false]
end Go.Proofs.YtailcbngagacaabGreat.DY
