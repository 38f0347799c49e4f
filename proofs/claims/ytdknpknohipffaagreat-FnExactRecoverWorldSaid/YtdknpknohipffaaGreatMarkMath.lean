/- Marks: what is written into a result, and that it is found again. -/
import Derived.Test.YtdknpknohipffaaGreatOwF
import Derived.Test.YtdknpknohipffaaGreatLoopLib
import Derived.Test.YtdknpknohipffaaGreatStoreMath
import Derived.Test.YtdknpknohipffaaGreatOpsMath
import Derived.Test.YtdknpknohipffaaGreatRwF
set_option linter.unusedSectionVars false
set_option linter.unusedVariables false
set_option linter.unusedSimpArgs false
namespace Go.Proofs.YtdknpknohipffaaGreat.LX
open Go Go.Proofs.YtdknpknohipffaaGreat.Ow Go.Proofs.YtdknpknohipffaaGreat.Uf Go.Proofs.YtdknpknohipffaaGreat.nW Go.Proofs.YtdknpknohipffaaGreat.iI Go.Proofs.YtdknpknohipffaaGreat.kR
theorem NU {A:Type} {xs:List A} {i:Nat} {d:A} {f:A→A}:(fF xs i d f).length=xs.length:=by simp [fF]
theorem GK {A:Type} {xs:List A} {i:Nat} {d:A} {f g:A→A} (h:i<xs.length):fF (fF xs i d f) i d g=fF xs i d (fun z=>g (f z)):=by
 unfold fF
 rw [List.set_set,E5 h]
theorem JV {A:Type} {xs:List A} {i:Nat} {d:A} {f:A→A} (h:i<xs.length):(fF xs i d f).getD i d=f (xs.getD i d):=E5 h _ _
def mI (k:Int) (l:Nat):List Int:=(List.range l).map fun (i:Nat)=>k+(i:Int)
def mB (k:Int) (l:Nat):List Int:=(List.range l).map fun (i:Nat)=>IntKind.u8.wrap (k+(i:Int))
theorem Vr {n:Nat} {xs:List Int} {k:Int} (hb:xs.length≤big) (hn:big<n) (h0:0≤k) (h1:k≤2305843009213693952):pz n xs k=some (k+(xs.length:Int),mI k xs.length,()):=by
 have hb':xs.length≤1048576:=hb
 have hl:(mI k xs.length).length=xs.length:=by simp [mI]
 unfold pz
 have h:=Ce (B:=fun L1 v1=>(if decide (v1.2.1<(v1.2.2.1.length:Int))=true then (if aH v1.2.1 v1.2.2.1.length then L1 (IntKind.i64.wrap (v1.1+(1:Int)),IntKind.i64.wrap (v1.2.1+(1:Int)),v1.2.2.1.set v1.2.1.toNat v1.1,()) else none) else some (v1.1,v1.2.2.1,())))
  (xs:=xs) (ys:=mI k xs.length) (K:=fun i=>k+i) (n:=n) hl (by omega) ?_ ?_
 ·simpa using h
 ·intro L i hi
  simp only [Dm hl (Nat.le_of_lt hi),Int.ofNat_lt,hi,decide_true,if_true,aG hi,Int.toNat_natCast,aN hi (by omega)]
  rw [wrap_i64 (by omega) (by omega),Aq hl hi _ (by simp [mI])]
  congr 2
  omega
 ·intro L
  simp [hl]
theorem Vh {n:Nat} {l:Nat} {k:Int} (hb:l≤big) (hn:big<n) (h0:0≤k) (h1:k≤2305843009213693952):pq n (mI k l) k=some (k+(l:Int),()):=by
 have hb':l≤1048576:=hb
 have hl:(mI k l).length=l:=by simp [mI]
 unfold pq
 have h:=BV (B:=fun L1 v1=>(if decide (v1.2.2.1<(v1.1.length:Int))=true then (if aH v1.2.2.1 v1.1.length then (if (!decide ((v1.1.getD v1.2.2.1.toNat (0:Int))=v1.2.1))=true then some ((-1:Int),()) else L1 (v1.1,IntKind.i64.wrap (v1.2.1+(1:Int)),IntKind.i64.wrap (v1.2.2.1+(1:Int)),())) else none) else some (v1.2.1,())))
  (ys:=mI k l) (K:=fun i=>k+i) (n:=n) (by omega) ?_ ?_
 ·rw [hl] at h
  simpa using h
 ·intro L i hi
  have hi':i<l:=by omega
  have hg:(mI k l)[i]=k+(i:Int):=by simp [mI]
  simp only [Int.ofNat_lt,hi,decide_true,if_true,aG hi,dU hi,hg,Bool.not_true,Bool.false_eq_true,if_false,aN hi (by omega)]
  rw [wrap_i64 (by omega) (by omega)]
  congr 3
  omega
 ·intro L
  simp
theorem JP {n:Nat} {xs:List Int} {k:Int} (hb:xs.length≤big) (hn:big<n) (h0:0≤k) (h1:k≤4611686018427387904):jC n xs k=some (k+(xs.length:Int),mB k xs.length,()):=by
 have hb':xs.length≤1048576:=hb
 have hl:(mB k xs.length).length=xs.length:=by simp [mB]
 unfold jC
 have h:=Ce (B:=fun L1 v1=>(if decide (v1.2.1<(v1.2.2.1.length:Int))=true then (if aH v1.2.1 v1.2.2.1.length then L1 (IntKind.i64.wrap (v1.1+(1:Int)),IntKind.i64.wrap (v1.2.1+(1:Int)),v1.2.2.1.set v1.2.1.toNat (IntKind.u8.wrap v1.1),()) else none) else some (v1.1,v1.2.2.1,())))
  (xs:=xs) (ys:=mB k xs.length) (K:=fun i=>k+i) (n:=n) hl (by omega) ?_ ?_
 ·simpa using h
 ·intro L i hi
  simp only [Dm hl (Nat.le_of_lt hi),Int.ofNat_lt,hi,decide_true,if_true,aG hi,Int.toNat_natCast,aN hi (by omega)]
  rw [wrap_i64 (by omega) (by omega),Aq hl hi _ (by simp [mB])]
  congr 2
  omega
 ·intro L
  simp [hl]
theorem JG {n:Nat} {l:Nat} {k:Int} (hb:l≤big) (hn:big<n) (h0:0≤k) (h1:k≤4611686018427387904):fI n (mB k l) k=some (k+(l:Int),()):=by
 have hb':l≤1048576:=hb
 have hl:(mB k l).length=l:=by simp [mB]
 unfold fI
 have h:=BV (B:=fun L1 v1=>(if decide (v1.2.2.1<(v1.1.length:Int))=true then (if aH v1.2.2.1 v1.1.length then (if (!decide ((v1.1.getD v1.2.2.1.toNat (0:Int))=(IntKind.u8.wrap v1.2.1)))=true then some ((-1:Int),()) else L1 (v1.1,IntKind.i64.wrap (v1.2.1+(1:Int)),IntKind.i64.wrap (v1.2.2.1+(1:Int)),())) else none) else some (v1.2.1,())))
  (ys:=mB k l) (K:=fun i=>k+i) (n:=n) (by omega) ?_ ?_
 ·rw [hl] at h
  simpa using h
 ·intro L i hi
  have hi':i<l:=by omega
  have hg:(mB k l)[i]=IntKind.u8.wrap (k+(i:Int)):=by simp [mB]
  simp only [Int.ofNat_lt,hi,decide_true,if_true,aG hi,dU hi,hg,Bool.not_true,Bool.false_eq_true,if_false,aN hi (by omega)]
  rw [wrap_i64 (by omega) (by omega)]
  congr 3
  omega
 ·intro L
  simp
def kM (k:Int) (ms:List nX):Nat→Int
 | 0=>k
 | i+1=>kM k ms i+3+((ms.getD i dM).2.2.2.1.length:Int)
def mM (k:Int) (ms:List nX):List nX:=(List.range ms.length).map fun (i:Nat)=>(kM k ms i,kM k ms i+1,kM k ms i+2,mB (kM k ms i+3) (ms.getD i dM).2.2.2.1.length,())
theorem Pq (k:Int) (ms:List nX):(mM k ms).length=ms.length:=by simp [mM]
theorem EK {k:Int} {ms:List nX} (h:∀m∈ms,KT m):∀i,i≤ms.length→k≤kM k ms i∧kM k ms i≤k+1048579 * (i:Int)
 | 0,_=>by simp [kM]
 | i+1,hi=>by
  have:=EK (k:=k) h i (by omega)
  have h1:=h _ (dZ (xs:=ms) (k:=i) (by omega) dM)
  unfold KT big at h1
  unfold kM
  omega
theorem QZ {n:Nat} {ms:List nX} {k:Int} (hb:ms.length≤big) (h:∀m∈ms,KT m) (hn:big<n) (h0:0≤k) (h1:k≤2305843009213693952):lX n ms k=some (kM k ms ms.length,mM k ms,()):=by
 have hb':ms.length≤1048576:=hb
 have hl:=Pq k ms
 unfold lX
 refine Ce (xs:=ms) (ys:=mM k ms) (K:=kM k ms) (n:=n) hl (by omega) ?_ ?_
 ·intro L i hi
  have hlen:=Dm hl (Nat.le_of_lt hi)
  have hlt:i<((mM k ms).take i++ms.drop i).length:=by omega
  have hget:=FC hl hi dM
  have hkb:=EK (k:=k) h i (Nat.le_of_lt hi)
  have hm:(ms[i]).2.2.2.1.length≤big:=h _ (List.getElem_mem hi)
  have w1:IntKind.i64.wrap (kM k ms i+1)=kM k ms i+1:=wrap_i64 (by omega) (by omega)
  have w2:IntKind.i64.wrap (kM k ms i+1+1)=kM k ms i+2:=by rw [wrap_i64 (by omega) (by omega)]; omega
  have w3:IntKind.i64.wrap (kM k ms i+2+1)=kM k ms i+3:=by rw [wrap_i64 (by omega) (by omega)]; omega
  have hs:=Aq hl hi (kM k ms i,kM k ms i+1,kM k ms i+2,mB (kM k ms i+3) (ms[i]).2.2.2.1.length,()) (by simp [mM,hi])
  have hk:kM k ms (i+1)=kM k ms i+3+((ms[i]).2.2.2.1.length:Int):=by rw [←getD_lt hi dM]; rfl
  simp only [NU,hlen,Int.ofNat_lt,hi,decide_true,if_true,aG hi,Int.toNat_natCast,GK hlt,JV hlt,hget,w1,w2,w3,aN hi (by omega),JP hm hn (show 0≤kM k ms i+3 by omega) (by omega),Option.bind_some]
  rw [hk, ←hs]
  unfold fF
  rw [hget]
 ·intro L
  simp [hl]
theorem QI {n:Nat} {ms:List nX} {k:Int} (hb:ms.length≤big) (h:∀m∈ms,KT m) (hn:big<n) (h0:0≤k) (h1:k≤2305843009213693952):lU n (mM k ms) k=some (kM k ms ms.length,()):=by
 have hb':ms.length≤1048576:=hb
 have hl:=Pq k ms
 unfold lU
 rw [←hl]
 refine BV (ys:=mM k ms) (K:=kM k ms) (n:=n) (by omega) ?_ ?_
 ·intro L i hi'
  have hi:i<ms.length:=by omega
  have hkb:=EK (k:=k) h i (Nat.le_of_lt hi)
  have hm:(ms[i]).2.2.2.1.length≤big:=h _ (List.getElem_mem hi)
  have w1:IntKind.i64.wrap (kM k ms i+1)=kM k ms i+1:=wrap_i64 (by omega) (by omega)
  have w2:IntKind.i64.wrap (kM k ms i+1+1)=kM k ms i+2:=by rw [wrap_i64 (by omega) (by omega)]; omega
  have w3:IntKind.i64.wrap (kM k ms i+2+1)=kM k ms i+3:=by rw [wrap_i64 (by omega) (by omega)]; omega
  have hg:(mM k ms)[i]=(kM k ms i,kM k ms i+1,kM k ms i+2,mB (kM k ms i+3) (ms[i]).2.2.2.1.length,()):=by simp [mM,hi]
  have hk:kM k ms (i+1)=kM k ms i+3+((ms[i]).2.2.2.1.length:Int):=by rw [←getD_lt hi dM]; rfl
  have hneg:¬(kM k ms i+3+((ms[i]).2.2.2.1.length:Int)<0):=by omega
  simp only [Int.ofNat_lt,hi',decide_true,if_true,aG hi',dU hi',hg,w1,w2,w3,Bool.not_true,Bool.false_eq_true,if_false,JG hm hn (show 0≤kM k ms i+3 by omega) (by omega),Option.bind_some,aN hi' (by omega),hneg,decide_false,hk]
 ·intro L
  simp
theorem OI {n:Nat} (hn:70≤n) {k:Int} (h1:k<4611686018427387904):∃r,dQ n k=some (r,()):=by
 unfold dQ
 by_cases h0:k≤0
 ·exact ⟨[109,48],by simp [h0]⟩
 ·simp only [h0,decide_false,Bool.false_eq_true,if_false]
  exact SA [109] (fun v=>IntKind.u8.wrap (IntKind.i64.wrap ((48:Int)+(v.tmod (10:Int))))) (by simp) (fun L v=>rfl) 62 n k [] (by omega) (by omega) h1 (by simp)
def txt (n:Nat) (k:Int):List Int:=((dQ n k).getD ([],())).1
theorem Rs {n:Nat} (hn:70≤n) {k:Int} (h1:k<4611686018427387904):dQ n k=some (txt n k,()):=by
 obtain ⟨r,h⟩:=OI hn h1
 unfold txt
 rw [h]
 rfl
def kX (k:Int) (bs:List Bx):Nat→Int
 | 0=>k
 | i+1=>kM (kX k bs i+3) (bs.getD i dB).2.2.2.1 (bs.getD i dB).2.2.2.1.length
def mX (n:Nat) (k:Int) (bs:List Bx):List Bx:=(List.range bs.length).map fun (i:Nat)=>(txt n (kX k bs i),kX k bs i+1,kX k bs i+2,mM (kX k bs i+3) (bs.getD i dB).2.2.2.1,())
theorem Pt (n:Nat) (k:Int) (bs:List Bx):(mX n k bs).length=bs.length:=by simp [mX]
theorem Im {k:Int} {bs:List Bx} (h:∀b∈bs,okB b):∀i,i≤bs.length→k≤kX k bs i∧kX k bs i≤k+1099514773507 * (i:Int)
 | 0,_=>by simp [kX]
 | i+1,hi=>by
  have:=Im (k:=k) h i (by omega)
  have h1:=h _ (dZ (xs:=bs) (k:=i) (by omega) dB)
  have h2:=EK (k:=kX k bs i+3) h1.2.2 _ (Nat.le_refl _)
  have h3:=h1.2.1
  unfold big at h3
  unfold kX
  omega
theorem abg {n:Nat} {bs:List Bx} {k:Int} (hb:bs.length≤big) (h:∀b∈bs,okB b) (hn:big<n) (h0:0≤k) (h1:k≤1099511627776):sI n bs k=some (kX k bs bs.length,mX n k bs,()):=by
 have hb':bs.length≤1048576:=hb
 have hn':1048576<n:=hn
 have hl:=Pt n k bs
 unfold sI
 refine Ce (xs:=bs) (ys:=mX n k bs) (K:=kX k bs) (n:=n) hl (by omega) ?_ ?_
 ·intro L i hi
  have hlen:=Dm hl (Nat.le_of_lt hi)
  have hlt:i<((mX n k bs).take i++bs.drop i).length:=by omega
  have hget:=FC hl hi dB
  have hkb:=Im (k:=k) h i (Nat.le_of_lt hi)
  have hB:=h _ (List.getElem_mem hi)
  have w1:IntKind.i64.wrap (kX k bs i+1)=kX k bs i+1:=wrap_i64 (by omega) (by omega)
  have w2:IntKind.i64.wrap (kX k bs i+1+1)=kX k bs i+2:=by rw [wrap_i64 (by omega) (by omega)]; omega
  have w3:IntKind.i64.wrap (kX k bs i+2+1)=kX k bs i+3:=by rw [wrap_i64 (by omega) (by omega)]; omega
  have hs:=Aq hl hi (txt n (kX k bs i),kX k bs i+1,kX k bs i+2,mM (kX k bs i+3) (bs[i]).2.2.2.1,()) (by simp [mX,hi])
  have hk:kX k bs (i+1)=kM (kX k bs i+3) (bs[i]).2.2.2.1 (bs[i]).2.2.2.1.length:=by rw [←getD_lt hi dB]; rfl
  simp only [NU,hlen,Int.ofNat_lt,hi,decide_true,if_true,aG hi,Int.toNat_natCast,GK hlt,JV hlt,hget,w1,w2,w3,aN hi (by omega),Rs (n:=n) (k:=kX k bs i) (by omega) (by omega),QZ hB.2.1 hB.2.2 hn (show 0≤kX k bs i+3 by omega) (by omega),Option.bind_some]
  rw [hk, ←hs]
  unfold fF
  rw [hget]
 ·intro L
  simp [hl]
theorem aas {n:Nat} {bs:List Bx} {k:Int} (hb:bs.length≤big) (h:∀b∈bs,okB b) (hn:big<n) (h0:0≤k) (h1:k≤1099511627776):oI n (mX n k bs) k=some (kX k bs bs.length,()):=by
 have hb':bs.length≤1048576:=hb
 have hn':1048576<n:=hn
 have hl:=Pt n k bs
 unfold oI
 rw [←hl]
 refine BV (ys:=mX n k bs) (K:=kX k bs) (n:=n) (by omega) ?_ ?_
 ·intro L i hi'
  have hi:i<bs.length:=by omega
  have hkb:=Im (k:=k) h i (Nat.le_of_lt hi)
  have hB:=h _ (List.getElem_mem hi)
  have w1:IntKind.i64.wrap (kX k bs i+1)=kX k bs i+1:=wrap_i64 (by omega) (by omega)
  have w2:IntKind.i64.wrap (kX k bs i+1+1)=kX k bs i+2:=by rw [wrap_i64 (by omega) (by omega)]; omega
  have w3:IntKind.i64.wrap (kX k bs i+2+1)=kX k bs i+3:=by rw [wrap_i64 (by omega) (by omega)]; omega
  have hg:(mX n k bs)[i]=(txt n (kX k bs i),kX k bs i+1,kX k bs i+2,mM (kX k bs i+3) (bs[i]).2.2.2.1,()):=by simp [mX,hi]
  have hk:kX k bs (i+1)=kM (kX k bs i+3) (bs[i]).2.2.2.1 (bs[i]).2.2.2.1.length:=by rw [←getD_lt hi dB]; rfl
  have hneg:¬(kM (kX k bs i+3) (bs[i]).2.2.2.1 (bs[i]).2.2.2.1.length<0):=by
   have:=EK (k:=kX k bs i+3) hB.2.2 _ (Nat.le_refl _)
   omega
  simp only [Int.ofNat_lt,hi',decide_true,if_true,aG hi',dU hi',hg,w1,w2,w3,Bool.not_true,Bool.false_eq_true,if_false,Rs (n:=n) (k:=kX k bs i) (by omega) (by omega),QI hB.2.1 hB.2.2 hn (show 0≤kX k bs i+3 by omega) (by omega),Option.bind_some,aN hi' (by omega),hneg,decide_false,hk]
 ·intro L
  simp
def mS (n:Nat) (k:Int) (s:nA):nA:=(s.1,mX n k s.2.1,())
def kS (k:Int) (s:nA):Int:=kX k s.2.1 s.2.1.length
theorem Il {k:Int} {s:nA} (h:Cy s):k≤kS k s∧kS k s≤k+1152924803144876032:=by
 have h1:=Im (k:=k) h.2 _ (Nat.le_refl _)
 have h2:=h.1
 unfold big at h2
 unfold kS
 omega
theorem Yr {n:Nat} {s:nA} {k:Int} (h:Cy s) (hn:big<n) (h0:0≤k) (h1:k≤1099511627776):qX n s k=some (kS k s,mS n k s,()):=by
 unfold qX
 rw [abg h.1 h.2 hn h0 h1]
 rfl
theorem X3 {n:Nat} {s:nA} {k:Int} (h:Cy s) (hn:big<n) (h0:0≤k) (h1:k≤1099511627776):mQ n (mS n k s) k=some (kS k s,()):=by
 have hb:=Il (k:=k) h
 unfold mQ
 have h2:oI n (mS n k s).2.1 k=some (kS k s,()):=aas h.1 h.2 hn h0 h1
 rw [h2]
 have hneg:¬(kS k s<0):=by omega
 simp only [Option.bind_some,hneg,decide_false,Bool.false_eq_true,if_false]
end Go.Proofs.YtdknpknohipffaaGreat.LX
