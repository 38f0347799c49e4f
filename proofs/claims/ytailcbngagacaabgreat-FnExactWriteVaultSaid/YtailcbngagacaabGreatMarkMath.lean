/- Marks: what is written into a result, and that it is found again. -/
import Derived.Test.YtailcbngagacaabGreatOwF
import Derived.Test.YtailcbngagacaabGreatLoopLib
import Derived.Test.YtailcbngagacaabGreatStoreMath
import Derived.Test.YtailcbngagacaabGreatOpsMath
import Derived.Test.YtailcbngagacaabGreatWriteF
set_option linter.unusedSectionVars false
set_option linter.unusedVariables false
set_option linter.unusedSimpArgs false
namespace Go.Proofs.YtailcbngagacaabGreat.DJ
open Go Go.Proofs.YtailcbngagacaabGreat.Ow Go.Proofs.YtailcbngagacaabGreat.oC Go.Proofs.YtailcbngagacaabGreat.kN Go.Proofs.YtailcbngagacaabGreat.gV Go.Proofs.YtailcbngagacaabGreat.jI
theorem Qz {A:Type} {xs:List A} {i:Nat} {d:A} {f:A→A}:(iR xs i d f).length=xs.length:=by simp [iR]
theorem KQ {A:Type} {xs:List A} {i:Nat} {d:A} {f g:A→A} (h:i<xs.length):iR (iR xs i d f) i d g=iR xs i d (fun z=>g (f z)):=by
 unfold iR
 rw [List.set_set,Bt h]
theorem MX {A:Type} {xs:List A} {i:Nat} {d:A} {f:A→A} (h:i<xs.length):(iR xs i d f).getD i d=f (xs.getD i d):=Bt h _ _
def mI (k:Int) (l:Nat):List Int:=(List.range l).map fun (i:Nat)=>k+(i:Int)
def mB (k:Int) (l:Nat):List Int:=(List.range l).map fun (i:Nat)=>IntKind.u8.wrap (k+(i:Int))
theorem Kn {n:Nat} {xs:List Int} {k:Int} (hb:xs.length≤big) (hn:big<n) (h0:0≤k) (h1:k≤2305843009213693952):jX n xs k=some (k+(xs.length:Int),mI k xs.length,()):=by
 have hb':xs.length≤1048576:=hb
 have hl:(mI k xs.length).length=xs.length:=by simp [mI]
 unfold jX
 have h:=BN (B:=fun L1 v1=>(if decide (v1.2.1<(v1.2.2.1.length:Int))=true then (if aJ v1.2.1 v1.2.2.1.length then L1 (IntKind.i64.wrap (v1.1+(1:Int)),IntKind.i64.wrap (v1.2.1+(1:Int)),v1.2.2.1.set v1.2.1.toNat v1.1,()) else none) else some (v1.1,v1.2.2.1,())))
  (xs:=xs) (ys:=mI k xs.length) (K:=fun i=>k+i) (n:=n) hl (by omega) ?_ ?_
 ·simpa using h
 ·intro L i hi
  simp only [BO hl (Nat.le_of_lt hi),anJ,hi,decide_true,if_true,aH hi,anr,aT hi (by omega)]
  rw [wrap_i64 (by omega) (by omega),zH hl hi _ (by simp [mI])]
  congr 2
  omega
 ·intro L
  simp [hl]
theorem R3 {n:Nat} {l:Nat} {k:Int} (hb:l≤big) (hn:big<n) (h0:0≤k) (h1:k≤2305843009213693952):jW n (mI k l) k=some (k+(l:Int),()):=by
 have hb':l≤1048576:=hb
 have hl:(mI k l).length=l:=by simp [mI]
 unfold jW
 have h:=BI (B:=fun L1 v1=>(if decide (v1.2.2.1<(v1.1.length:Int))=true then (if aJ v1.2.2.1 v1.1.length then (if (!decide ((v1.1.getD v1.2.2.1.toNat (0:Int))=v1.2.1))=true then some ((-1:Int),()) else L1 (v1.1,IntKind.i64.wrap (v1.2.1+(1:Int)),IntKind.i64.wrap (v1.2.2.1+(1:Int)),())) else none) else some (v1.2.1,())))
  (ys:=mI k l) (K:=fun i=>k+i) (n:=n) (by omega) ?_ ?_
 ·rw [hl] at h
  simpa using h
 ·intro L i hi
  have hi':i<l:=by omega
  have hg:(mI k l)[i]=k+(i:Int):=by simp [mI]
  simp only [anJ,hi,decide_true,if_true,aH hi,fu hi,hg,anK,ank,if_false,aT hi (by omega)]
  rw [wrap_i64 (by omega) (by omega)]
  congr 3
  omega
 ·intro L
  simp
theorem BM {n:Nat} {xs:List Int} {k:Int} (hb:xs.length≤big) (hn:big<n) (h0:0≤k) (h1:k≤4611686018427387904):gT n xs k=some (k+(xs.length:Int),mB k xs.length,()):=by
 have hb':xs.length≤1048576:=hb
 have hl:(mB k xs.length).length=xs.length:=by simp [mB]
 unfold gT
 have h:=BN (B:=fun L1 v1=>(if decide (v1.2.1<(v1.2.2.1.length:Int))=true then (if aJ v1.2.1 v1.2.2.1.length then L1 (IntKind.i64.wrap (v1.1+(1:Int)),IntKind.i64.wrap (v1.2.1+(1:Int)),v1.2.2.1.set v1.2.1.toNat (IntKind.u8.wrap v1.1),()) else none) else some (v1.1,v1.2.2.1,())))
  (xs:=xs) (ys:=mB k xs.length) (K:=fun i=>k+i) (n:=n) hl (by omega) ?_ ?_
 ·simpa using h
 ·intro L i hi
  simp only [BO hl (Nat.le_of_lt hi),anJ,hi,decide_true,if_true,aH hi,anr,aT hi (by omega)]
  rw [wrap_i64 (by omega) (by omega),zH hl hi _ (by simp [mB])]
  congr 2
  omega
 ·intro L
  simp [hl]
theorem FQ {n:Nat} {l:Nat} {k:Int} (hb:l≤big) (hn:big<n) (h0:0≤k) (h1:k≤4611686018427387904):fT n (mB k l) k=some (k+(l:Int),()):=by
 have hb':l≤1048576:=hb
 have hl:(mB k l).length=l:=by simp [mB]
 unfold fT
 have h:=BI (B:=fun L1 v1=>(if decide (v1.2.2.1<(v1.1.length:Int))=true then (if aJ v1.2.2.1 v1.1.length then (if (!decide ((v1.1.getD v1.2.2.1.toNat (0:Int))=(IntKind.u8.wrap v1.2.1)))=true then some ((-1:Int),()) else L1 (v1.1,IntKind.i64.wrap (v1.2.1+(1:Int)),IntKind.i64.wrap (v1.2.2.1+(1:Int)),())) else none) else some (v1.2.1,())))
  (ys:=mB k l) (K:=fun i=>k+i) (n:=n) (by omega) ?_ ?_
 ·rw [hl] at h
  simpa using h
 ·intro L i hi
  have hi':i<l:=by omega
  have hg:(mB k l)[i]=IntKind.u8.wrap (k+(i:Int)):=by simp [mB]
  simp only [anJ,hi,decide_true,if_true,aH hi,fu hi,hg,anK,ank,if_false,aT hi (by omega)]
  rw [wrap_i64 (by omega) (by omega)]
  congr 3
  omega
 ·intro L
  simp
def kM (k:Int) (ms:List mG):Nat→Int
 | 0=>k
 | i+1=>kM k ms i+3+((ms.getD i dM).2.2.2.1.length:Int)
def mM (k:Int) (ms:List mG):List mG:=(List.range ms.length).map fun (i:Nat)=>(kM k ms i,kM k ms i+1,kM k ms i+2,mB (kM k ms i+3) (ms.getD i dM).2.2.2.1.length,())
theorem MH (k:Int) (ms:List mG):(mM k ms).length=ms.length:=by simp [mM]
theorem AY {k:Int} {ms:List mG} (h:∀m∈ms,HZ m):∀i,i≤ms.length→k≤kM k ms i∧kM k ms i≤k+1048579 * (i:Int)
 | 0,_=>by simp [kM]
 | i+1,hi=>by
  have:=AY (k:=k) h i (by omega)
  have h1:=h _ (eO (xs:=ms) (k:=i) (by omega) dM)
  unfold HZ big at h1
  unfold kM
  omega
theorem N7 {n:Nat} {ms:List mG} {k:Int} (hb:ms.length≤big) (h:∀m∈ms,HZ m) (hn:big<n) (h0:0≤k) (h1:k≤2305843009213693952):kL n ms k=some (kM k ms ms.length,mM k ms,()):=by
 have hb':ms.length≤1048576:=hb
 have hl:=MH k ms
 unfold kL
 refine BN (xs:=ms) (ys:=mM k ms) (K:=kM k ms) (n:=n) hl (by omega) ?_ ?_
 ·intro L i hi
  have hlen:=BO hl (Nat.le_of_lt hi)
  have hlt:i<((mM k ms).take i++ms.drop i).length:=by omega
  have hget:=Ej hl hi dM
  have hkb:=AY (k:=k) h i (Nat.le_of_lt hi)
  have hm:(ms[i]).2.2.2.1.length≤big:=h _ (anL hi)
  have w1:IntKind.i64.wrap (kM k ms i+1)=kM k ms i+1:=wrap_i64 (by omega) (by omega)
  have w2:IntKind.i64.wrap (kM k ms i+1+1)=kM k ms i+2:=by rw [wrap_i64 (by omega) (by omega)]; omega
  have w3:IntKind.i64.wrap (kM k ms i+2+1)=kM k ms i+3:=by rw [wrap_i64 (by omega) (by omega)]; omega
  have hs:=zH hl hi (kM k ms i,kM k ms i+1,kM k ms i+2,mB (kM k ms i+3) (ms[i]).2.2.2.1.length,()) (by simp [mM,hi])
  have hk:kM k ms (i+1)=kM k ms i+3+((ms[i]).2.2.2.1.length:Int):=by rw [←getD_lt hi dM]; rfl
  simp only [Qz,hlen,anJ,hi,decide_true,if_true,aH hi,anr,KQ hlt,MX hlt,hget,w1,w2,w3,aT hi (by omega),BM hm hn (show 0≤kM k ms i+3 by omega) (by omega),ani]
  rw [hk, ←hs]
  unfold iR
  rw [hget]
 ·intro L
  simp [hl]
theorem NN {n:Nat} {ms:List mG} {k:Int} (hb:ms.length≤big) (h:∀m∈ms,HZ m) (hn:big<n) (h0:0≤k) (h1:k≤2305843009213693952):kK n (mM k ms) k=some (kM k ms ms.length,()):=by
 have hb':ms.length≤1048576:=hb
 have hl:=MH k ms
 unfold kK
 rw [←hl]
 refine BI (ys:=mM k ms) (K:=kM k ms) (n:=n) (by omega) ?_ ?_
 ·intro L i hi'
  have hi:i<ms.length:=by omega
  have hkb:=AY (k:=k) h i (Nat.le_of_lt hi)
  have hm:(ms[i]).2.2.2.1.length≤big:=h _ (anL hi)
  have w1:IntKind.i64.wrap (kM k ms i+1)=kM k ms i+1:=wrap_i64 (by omega) (by omega)
  have w2:IntKind.i64.wrap (kM k ms i+1+1)=kM k ms i+2:=by rw [wrap_i64 (by omega) (by omega)]; omega
  have w3:IntKind.i64.wrap (kM k ms i+2+1)=kM k ms i+3:=by rw [wrap_i64 (by omega) (by omega)]; omega
  have hg:(mM k ms)[i]=(kM k ms i,kM k ms i+1,kM k ms i+2,mB (kM k ms i+3) (ms[i]).2.2.2.1.length,()):=by simp [mM,hi]
  have hk:kM k ms (i+1)=kM k ms i+3+((ms[i]).2.2.2.1.length:Int):=by rw [←getD_lt hi dM]; rfl
  have hneg:¬(kM k ms i+3+((ms[i]).2.2.2.1.length:Int)<0):=by omega
  simp only [anJ,hi',decide_true,if_true,aH hi',fu hi',hg,w1,w2,w3,anK,ank,if_false,FQ hm hn (show 0≤kM k ms i+3 by omega) (by omega),ani,aT hi' (by omega),hneg,decide_false,hk]
 ·intro L
  simp
theorem LC {n:Nat} (hn:70≤n) {k:Int} (h1:k<4611686018427387904):∃r,iD n k=some (r,()):=by
 unfold iD
 by_cases h0:k≤0
 ·exact ⟨[109,48],by simp [h0]⟩
 ·simp only [h0,decide_false,ank,if_false]
  exact Pt [109] (fun v=>IntKind.u8.wrap (IntKind.i64.wrap ((48:Int)+(v.tmod (10:Int))))) (by simp) (fun L v=>rfl) 62 n k [] (by omega) (by omega) h1 (by simp)
def txt (n:Nat) (k:Int):List Int:=((iD n k).getD ([],())).1
theorem YX {n:Nat} (hn:70≤n) {k:Int} (h1:k<4611686018427387904):iD n k=some (txt n k,()):=by
 obtain ⟨r,h⟩:=LC hn h1
 unfold txt
 rw [h]
 rfl
def kX (k:Int) (bs:List Bx):Nat→Int
 | 0=>k
 | i+1=>kM (kX k bs i+3) (bs.getD i dB).2.2.2.1 (bs.getD i dB).2.2.2.1.length
def mX (n:Nat) (k:Int) (bs:List Bx):List Bx:=(List.range bs.length).map fun (i:Nat)=>(txt n (kX k bs i),kX k bs i+1,kX k bs i+2,mM (kX k bs i+3) (bs.getD i dB).2.2.2.1,())
theorem MI (n:Nat) (k:Int) (bs:List Bx):(mX n k bs).length=bs.length:=by simp [mX]
theorem Ee {k:Int} {bs:List Bx} (h:∀b∈bs,okB b):∀i,i≤bs.length→k≤kX k bs i∧kX k bs i≤k+1099514773507 * (i:Int)
 | 0,_=>by simp [kX]
 | i+1,hi=>by
  have:=Ee (k:=k) h i (by omega)
  have h1:=h _ (eO (xs:=bs) (k:=i) (by omega) dB)
  have h2:=AY (k:=kX k bs i+3) h1.2.2 _ (anz _)
  have h3:=h1.2.1
  unfold big at h3
  unfold kX
  omega
theorem Yk {n:Nat} {bs:List Bx} {k:Int} (hb:bs.length≤big) (h:∀b∈bs,okB b) (hn:big<n) (h0:0≤k) (h1:k≤1099511627776):qg n bs k=some (kX k bs bs.length,mX n k bs,()):=by
 have hb':bs.length≤1048576:=hb
 have hn':1048576<n:=hn
 have hl:=MI n k bs
 unfold qg
 refine BN (xs:=bs) (ys:=mX n k bs) (K:=kX k bs) (n:=n) hl (by omega) ?_ ?_
 ·intro L i hi
  have hlen:=BO hl (Nat.le_of_lt hi)
  have hlt:i<((mX n k bs).take i++bs.drop i).length:=by omega
  have hget:=Ej hl hi dB
  have hkb:=Ee (k:=k) h i (Nat.le_of_lt hi)
  have hB:=h _ (anL hi)
  have w1:IntKind.i64.wrap (kX k bs i+1)=kX k bs i+1:=wrap_i64 (by omega) (by omega)
  have w2:IntKind.i64.wrap (kX k bs i+1+1)=kX k bs i+2:=by rw [wrap_i64 (by omega) (by omega)]; omega
  have w3:IntKind.i64.wrap (kX k bs i+2+1)=kX k bs i+3:=by rw [wrap_i64 (by omega) (by omega)]; omega
  have hs:=zH hl hi (txt n (kX k bs i),kX k bs i+1,kX k bs i+2,mM (kX k bs i+3) (bs[i]).2.2.2.1,()) (by simp [mX,hi])
  have hk:kX k bs (i+1)=kM (kX k bs i+3) (bs[i]).2.2.2.1 (bs[i]).2.2.2.1.length:=by rw [←getD_lt hi dB]; rfl
  simp only [Qz,hlen,anJ,hi,decide_true,if_true,aH hi,anr,KQ hlt,MX hlt,hget,w1,w2,w3,aT hi (by omega),YX (n:=n) (k:=kX k bs i) (by omega) (by omega),N7 hB.2.1 hB.2.2 hn (show 0≤kX k bs i+3 by omega) (by omega),ani]
  rw [hk, ←hs]
  unfold iR
  rw [hget]
 ·intro L
  simp [hl]
theorem Xy {n:Nat} {bs:List Bx} {k:Int} (hb:bs.length≤big) (h:∀b∈bs,okB b) (hn:big<n) (h0:0≤k) (h1:k≤1099511627776):mY n (mX n k bs) k=some (kX k bs bs.length,()):=by
 have hb':bs.length≤1048576:=hb
 have hn':1048576<n:=hn
 have hl:=MI n k bs
 unfold mY
 rw [←hl]
 refine BI (ys:=mX n k bs) (K:=kX k bs) (n:=n) (by omega) ?_ ?_
 ·intro L i hi'
  have hi:i<bs.length:=by omega
  have hkb:=Ee (k:=k) h i (Nat.le_of_lt hi)
  have hB:=h _ (anL hi)
  have w1:IntKind.i64.wrap (kX k bs i+1)=kX k bs i+1:=wrap_i64 (by omega) (by omega)
  have w2:IntKind.i64.wrap (kX k bs i+1+1)=kX k bs i+2:=by rw [wrap_i64 (by omega) (by omega)]; omega
  have w3:IntKind.i64.wrap (kX k bs i+2+1)=kX k bs i+3:=by rw [wrap_i64 (by omega) (by omega)]; omega
  have hg:(mX n k bs)[i]=(txt n (kX k bs i),kX k bs i+1,kX k bs i+2,mM (kX k bs i+3) (bs[i]).2.2.2.1,()):=by simp [mX,hi]
  have hk:kX k bs (i+1)=kM (kX k bs i+3) (bs[i]).2.2.2.1 (bs[i]).2.2.2.1.length:=by rw [←getD_lt hi dB]; rfl
  have hneg:¬(kM (kX k bs i+3) (bs[i]).2.2.2.1 (bs[i]).2.2.2.1.length<0):=by
   have:=AY (k:=kX k bs i+3) hB.2.2 _ (anz _)
   omega
  simp only [anJ,hi',decide_true,if_true,aH hi',fu hi',hg,w1,w2,w3,anK,ank,if_false,YX (n:=n) (k:=kX k bs i) (by omega) (by omega),NN hB.2.1 hB.2.2 hn (show 0≤kX k bs i+3 by omega) (by omega),ani,aT hi' (by omega),hneg,decide_false,hk]
 ·intro L
  simp
def mS (n:Nat) (k:Int) (s:lH):lH:=(s.1,mX n k s.2.1,())
def kS (k:Int) (s:lH):Int:=kX k s.2.1 s.2.1.length
theorem Ed {k:Int} {s:lH} (h:zI s):k≤kS k s∧kS k s≤k+1152924803144876032:=by
 have h1:=Ee (k:=k) h.2 _ (anz _)
 have h2:=h.1
 unfold big at h2
 unfold kS
 omega
theorem VA {n:Nat} {s:lH} {k:Int} (h:zI s) (hn:big<n) (h0:0≤k) (h1:k≤1099511627776):oW n s k=some (kS k s,mS n k s,()):=by
 unfold oW
 rw [Yk h.1 h.2 hn h0 h1]
 rfl
theorem U8 {n:Nat} {s:lH} {k:Int} (h:zI s) (hn:big<n) (h0:0≤k) (h1:k≤1099511627776):kZ n (mS n k s) k=some (kS k s,()):=by
 have hb:=Ed (k:=k) h
 unfold kZ
 have h2:mY n (mS n k s).2.1 k=some (kS k s,()):=Xy h.1 h.2 hn h0 h1
 rw [h2]
 have hneg:¬(kS k s<0):=by omega
 simp only [ani,hneg,decide_false,ank,if_false]
end Go.Proofs.YtailcbngagacaabGreat.DJ
