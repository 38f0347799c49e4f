/- Marks: what is written into a result, and that it is found again. -/
import Derived.Test.YtailcbngagacaaaGreatOwF
import Derived.Test.YtailcbngagacaaaGreatLoopLib
import Derived.Test.YtailcbngagacaaaGreatStoreMath
import Derived.Test.YtailcbngagacaaaGreatOpsMath
import Derived.Test.YtailcbngagacaaaGreatRecF
set_option linter.unusedSectionVars false
set_option linter.unusedVariables false
set_option linter.unusedSimpArgs false
namespace Go.Proofs.YtailcbngagacaaaGreat.Oc
open Go Go.Proofs.YtailcbngagacaaaGreat.Ow Go.Proofs.YtailcbngagacaaaGreat.FD Go.Proofs.YtailcbngagacaaaGreat.qM Go.Proofs.YtailcbngagacaaaGreat.lN Go.Proofs.YtailcbngagacaaaGreat.og
theorem PZ {A:Type} {xs:List A} {i:Nat} {d:A} {f:A→A}:(iM xs i d f).length=xs.length:=by simp [iM]
theorem Kn {A:Type} {xs:List A} {i:Nat} {d:A} {f g:A→A} (h:i<xs.length):iM (iM xs i d f) i d g=iM xs i d (fun z=>g (f z)):=by
 unfold iM
 rw [List.set_set,Ch h]
theorem Mk {A:Type} {xs:List A} {i:Nat} {d:A} {f:A→A} (h:i<xs.length):(iM xs i d f).getD i d=f (xs.getD i d):=Ch h _ _
def mI (k:Int) (l:Nat):List Int:=(List.range l).map fun (i:Nat)=>k+(i:Int)
def mB (k:Int) (l:Nat):List Int:=(List.range l).map fun (i:Nat)=>IntKind.u8.wrap (k+(i:Int))
theorem Ry {n:Nat} {xs:List Int} {k:Int} (hb:xs.length≤big) (hn:big<n) (h0:0≤k) (h1:k≤2305843009213693952):nW n xs k=some (k+(xs.length:Int),mI k xs.length,()):=by
 have hb':xs.length≤1048576:=hb
 have hl:(mI k xs.length).length=xs.length:=by simp [mI]
 unfold nW
 have h:=Cy (B:=fun L1 v1=>(if decide (v1.2.1<(v1.2.2.1.length:Int))=true then (if aI v1.2.1 v1.2.2.1.length then L1 (IntKind.i64.wrap (v1.1+(1:Int)),IntKind.i64.wrap (v1.2.1+(1:Int)),v1.2.2.1.set v1.2.1.toNat v1.1,()) else none) else some (v1.1,v1.2.2.1,())))
  (xs:=xs) (ys:=mI k xs.length) (K:=fun i=>k+i) (n:=n) hl (by omega) ?_ ?_
 ·simpa using h
 ·intro L i hi
  simp only [Cz hl (Nat.le_of_lt hi),Int.ofNat_lt,hi,decide_true,if_true,aG hi,Int.toNat_natCast,aS hi (by omega)]
  rw [wrap_i64 (by omega) (by omega),Aq hl hi _ (by simp [mI])]
  congr 2
  omega
 ·intro L
  simp [hl]
theorem Ri {n:Nat} {l:Nat} {k:Int} (hb:l≤big) (hn:big<n) (h0:0≤k) (h1:k≤2305843009213693952):jV n (mI k l) k=some (k+(l:Int),()):=by
 have hb':l≤1048576:=hb
 have hl:(mI k l).length=l:=by simp [mI]
 unfold jV
 have h:=Ct (B:=fun L1 v1=>(if decide (v1.2.2.1<(v1.1.length:Int))=true then (if aI v1.2.2.1 v1.1.length then (if (!decide ((v1.1.getD v1.2.2.1.toNat (0:Int))=v1.2.1))=true then some ((-1:Int),()) else L1 (v1.1,IntKind.i64.wrap (v1.2.1+(1:Int)),IntKind.i64.wrap (v1.2.2.1+(1:Int)),())) else none) else some (v1.2.1,())))
  (ys:=mI k l) (K:=fun i=>k+i) (n:=n) (by omega) ?_ ?_
 ·rw [hl] at h
  simpa using h
 ·intro L i hi
  have hi':i<l:=by omega
  have hg:(mI k l)[i]=k+(i:Int):=by simp [mI]
  simp only [Int.ofNat_lt,hi,decide_true,if_true,aG hi,eT hi,hg,Bool.not_true,Bool.false_eq_true,if_false,aS hi (by omega)]
  rw [wrap_i64 (by omega) (by omega)]
  congr 3
  omega
 ·intro L
  simp
theorem F7 {n:Nat} {xs:List Int} {k:Int} (hb:xs.length≤big) (hn:big<n) (h0:0≤k) (h1:k≤4611686018427387904):jc n xs k=some (k+(xs.length:Int),mB k xs.length,()):=by
 have hb':xs.length≤1048576:=hb
 have hl:(mB k xs.length).length=xs.length:=by simp [mB]
 unfold jc
 have h:=Cy (B:=fun L1 v1=>(if decide (v1.2.1<(v1.2.2.1.length:Int))=true then (if aI v1.2.1 v1.2.2.1.length then L1 (IntKind.i64.wrap (v1.1+(1:Int)),IntKind.i64.wrap (v1.2.1+(1:Int)),v1.2.2.1.set v1.2.1.toNat (IntKind.u8.wrap v1.1),()) else none) else some (v1.1,v1.2.2.1,())))
  (xs:=xs) (ys:=mB k xs.length) (K:=fun i=>k+i) (n:=n) hl (by omega) ?_ ?_
 ·simpa using h
 ·intro L i hi
  simp only [Cz hl (Nat.le_of_lt hi),Int.ofNat_lt,hi,decide_true,if_true,aG hi,Int.toNat_natCast,aS hi (by omega)]
  rw [wrap_i64 (by omega) (by omega),Aq hl hi _ (by simp [mB])]
  congr 2
  omega
 ·intro L
  simp [hl]
theorem FV {n:Nat} {l:Nat} {k:Int} (hb:l≤big) (hn:big<n) (h0:0≤k) (h1:k≤4611686018427387904):fF n (mB k l) k=some (k+(l:Int),()):=by
 have hb':l≤1048576:=hb
 have hl:(mB k l).length=l:=by simp [mB]
 unfold fF
 have h:=Ct (B:=fun L1 v1=>(if decide (v1.2.2.1<(v1.1.length:Int))=true then (if aI v1.2.2.1 v1.1.length then (if (!decide ((v1.1.getD v1.2.2.1.toNat (0:Int))=(IntKind.u8.wrap v1.2.1)))=true then some ((-1:Int),()) else L1 (v1.1,IntKind.i64.wrap (v1.2.1+(1:Int)),IntKind.i64.wrap (v1.2.2.1+(1:Int)),())) else none) else some (v1.2.1,())))
  (ys:=mB k l) (K:=fun i=>k+i) (n:=n) (by omega) ?_ ?_
 ·rw [hl] at h
  simpa using h
 ·intro L i hi
  have hi':i<l:=by omega
  have hg:(mB k l)[i]=IntKind.u8.wrap (k+(i:Int)):=by simp [mB]
  simp only [Int.ofNat_lt,hi,decide_true,if_true,aG hi,eT hi,hg,Bool.not_true,Bool.false_eq_true,if_false,aS hi (by omega)]
  rw [wrap_i64 (by omega) (by omega)]
  congr 3
  omega
 ·intro L
  simp
def kM (k:Int) (ms:List mP):Nat→Int
 | 0=>k
 | i+1=>kM k ms i+3+((ms.getD i dM).2.2.2.1.length:Int)
def mM (k:Int) (ms:List mP):List mP:=(List.range ms.length).map fun (i:Nat)=>(kM k ms i,kM k ms i+1,kM k ms i+2,mB (kM k ms i+3) (ms.getD i dM).2.2.2.1.length,())
theorem LU (k:Int) (ms:List mP):(mM k ms).length=ms.length:=by simp [mM]
theorem BP {k:Int} {ms:List mP} (h:∀m∈ms,Ht m):∀i,i≤ms.length→k≤kM k ms i∧kM k ms i≤k+1048579 * (i:Int)
 | 0,_=>by simp [kM]
 | i+1,hi=>by
  have:=BP (k:=k) h i (by omega)
  have h1:=h _ (eF (xs:=ms) (k:=i) (by omega) dM)
  unfold Ht big at h1
  unfold kM
  omega
theorem Nu {n:Nat} {ms:List mP} {k:Int} (hb:ms.length≤big) (h:∀m∈ms,Ht m) (hn:big<n) (h0:0≤k) (h1:k≤2305843009213693952):kJ n ms k=some (kM k ms ms.length,mM k ms,()):=by
 have hb':ms.length≤1048576:=hb
 have hl:=LU k ms
 unfold kJ
 refine Cy (xs:=ms) (ys:=mM k ms) (K:=kM k ms) (n:=n) hl (by omega) ?_ ?_
 ·intro L i hi
  have hlen:=Cz hl (Nat.le_of_lt hi)
  have hlt:i<((mM k ms).take i++ms.drop i).length:=by omega
  have hget:=EG hl hi dM
  have hkb:=BP (k:=k) h i (Nat.le_of_lt hi)
  have hm:(ms[i]).2.2.2.1.length≤big:=h _ (List.getElem_mem hi)
  have w1:IntKind.i64.wrap (kM k ms i+1)=kM k ms i+1:=wrap_i64 (by omega) (by omega)
  have w2:IntKind.i64.wrap (kM k ms i+1+1)=kM k ms i+2:=by rw [wrap_i64 (by omega) (by omega)]; omega
  have w3:IntKind.i64.wrap (kM k ms i+2+1)=kM k ms i+3:=by rw [wrap_i64 (by omega) (by omega)]; omega
  have hs:=Aq hl hi (kM k ms i,kM k ms i+1,kM k ms i+2,mB (kM k ms i+3) (ms[i]).2.2.2.1.length,()) (by simp [mM,hi])
  have hk:kM k ms (i+1)=kM k ms i+3+((ms[i]).2.2.2.1.length:Int):=by rw [←getD_lt hi dM]; rfl
  simp only [PZ,hlen,Int.ofNat_lt,hi,decide_true,if_true,aG hi,Int.toNat_natCast,Kn hlt,Mk hlt,hget,w1,w2,w3,aS hi (by omega),F7 hm hn (show 0≤kM k ms i+3 by omega) (by omega),Option.bind_some]
  rw [hk, ←hs]
  unfold iM
  rw [hget]
 ·intro L
  simp [hl]
theorem Ni {n:Nat} {ms:List mP} {k:Int} (hb:ms.length≤big) (h:∀m∈ms,Ht m) (hn:big<n) (h0:0≤k) (h1:k≤2305843009213693952):kI n (mM k ms) k=some (kM k ms ms.length,()):=by
 have hb':ms.length≤1048576:=hb
 have hl:=LU k ms
 unfold kI
 rw [←hl]
 refine Ct (ys:=mM k ms) (K:=kM k ms) (n:=n) (by omega) ?_ ?_
 ·intro L i hi'
  have hi:i<ms.length:=by omega
  have hkb:=BP (k:=k) h i (Nat.le_of_lt hi)
  have hm:(ms[i]).2.2.2.1.length≤big:=h _ (List.getElem_mem hi)
  have w1:IntKind.i64.wrap (kM k ms i+1)=kM k ms i+1:=wrap_i64 (by omega) (by omega)
  have w2:IntKind.i64.wrap (kM k ms i+1+1)=kM k ms i+2:=by rw [wrap_i64 (by omega) (by omega)]; omega
  have w3:IntKind.i64.wrap (kM k ms i+2+1)=kM k ms i+3:=by rw [wrap_i64 (by omega) (by omega)]; omega
  have hg:(mM k ms)[i]=(kM k ms i,kM k ms i+1,kM k ms i+2,mB (kM k ms i+3) (ms[i]).2.2.2.1.length,()):=by simp [mM,hi]
  have hk:kM k ms (i+1)=kM k ms i+3+((ms[i]).2.2.2.1.length:Int):=by rw [←getD_lt hi dM]; rfl
  have hneg:¬(kM k ms i+3+((ms[i]).2.2.2.1.length:Int)<0):=by omega
  simp only [Int.ofNat_lt,hi',decide_true,if_true,aG hi',eT hi',hg,w1,w2,w3,Bool.not_true,Bool.false_eq_true,if_false,FV hm hn (show 0≤kM k ms i+3 by omega) (by omega),Option.bind_some,aS hi' (by omega),hneg,decide_false,hk]
 ·intro L
  simp
theorem K6 {n:Nat} (hn:70≤n) {k:Int} (h1:k<4611686018427387904):∃r,iA n k=some (r,()):=by
 unfold iA
 by_cases h0:k≤0
 ·exact ⟨[109,48],by simp [h0]⟩
 ·simp only [h0,decide_false,Bool.false_eq_true,if_false]
  exact OV [109] (fun v=>IntKind.u8.wrap (IntKind.i64.wrap ((48:Int)+(v.tmod (10:Int))))) (by simp) (fun L v=>rfl) 62 n k [] (by omega) (by omega) h1 (by simp)
def txt (n:Nat) (k:Int):List Int:=((iA n k).getD ([],())).1
theorem Yv {n:Nat} (hn:70≤n) {k:Int} (h1:k<4611686018427387904):iA n k=some (txt n k,()):=by
 obtain ⟨r,h⟩:=K6 hn h1
 unfold txt
 rw [h]
 rfl
def kX (k:Int) (bs:List Bx):Nat→Int
 | 0=>k
 | i+1=>kM (kX k bs i+3) (bs.getD i dB).2.2.2.1 (bs.getD i dB).2.2.2.1.length
def mX (n:Nat) (k:Int) (bs:List Bx):List Bx:=(List.range bs.length).map fun (i:Nat)=>(txt n (kX k bs i),kX k bs i+1,kX k bs i+2,mM (kX k bs i+3) (bs.getD i dB).2.2.2.1,())
theorem LW (n:Nat) (k:Int) (bs:List Bx):(mX n k bs).length=bs.length:=by simp [mX]
theorem EB {k:Int} {bs:List Bx} (h:∀b∈bs,okB b):∀i,i≤bs.length→k≤kX k bs i∧kX k bs i≤k+1099514773507 * (i:Int)
 | 0,_=>by simp [kX]
 | i+1,hi=>by
  have:=EB (k:=k) h i (by omega)
  have h1:=h _ (eF (xs:=bs) (k:=i) (by omega) dB)
  have h2:=BP (k:=kX k bs i+3) h1.2.2 _ (Nat.le_refl _)
  have h3:=h1.2.1
  unfold big at h3
  unfold kX
  omega
theorem XT {n:Nat} {bs:List Bx} {k:Int} (hb:bs.length≤big) (h:∀b∈bs,okB b) (hn:big<n) (h0:0≤k) (h1:k≤1099511627776):qK n bs k=some (kX k bs bs.length,mX n k bs,()):=by
 have hb':bs.length≤1048576:=hb
 have hn':1048576<n:=hn
 have hl:=LW n k bs
 unfold qK
 refine Cy (xs:=bs) (ys:=mX n k bs) (K:=kX k bs) (n:=n) hl (by omega) ?_ ?_
 ·intro L i hi
  have hlen:=Cz hl (Nat.le_of_lt hi)
  have hlt:i<((mX n k bs).take i++bs.drop i).length:=by omega
  have hget:=EG hl hi dB
  have hkb:=EB (k:=k) h i (Nat.le_of_lt hi)
  have hB:=h _ (List.getElem_mem hi)
  have w1:IntKind.i64.wrap (kX k bs i+1)=kX k bs i+1:=wrap_i64 (by omega) (by omega)
  have w2:IntKind.i64.wrap (kX k bs i+1+1)=kX k bs i+2:=by rw [wrap_i64 (by omega) (by omega)]; omega
  have w3:IntKind.i64.wrap (kX k bs i+2+1)=kX k bs i+3:=by rw [wrap_i64 (by omega) (by omega)]; omega
  have hs:=Aq hl hi (txt n (kX k bs i),kX k bs i+1,kX k bs i+2,mM (kX k bs i+3) (bs[i]).2.2.2.1,()) (by simp [mX,hi])
  have hk:kX k bs (i+1)=kM (kX k bs i+3) (bs[i]).2.2.2.1 (bs[i]).2.2.2.1.length:=by rw [←getD_lt hi dB]; rfl
  simp only [PZ,hlen,Int.ofNat_lt,hi,decide_true,if_true,aG hi,Int.toNat_natCast,Kn hlt,Mk hlt,hget,w1,w2,w3,aS hi (by omega),Yv (n:=n) (k:=kX k bs i) (by omega) (by omega),Nu hB.2.1 hB.2.2 hn (show 0≤kX k bs i+3 by omega) (by omega),Option.bind_some]
  rw [hk, ←hs]
  unfold iM
  rw [hget]
 ·intro L
  simp [hl]
theorem WZ {n:Nat} {bs:List Bx} {k:Int} (hb:bs.length≤big) (h:∀b∈bs,okB b) (hn:big<n) (h0:0≤k) (h1:k≤1099511627776):nC n (mX n k bs) k=some (kX k bs bs.length,()):=by
 have hb':bs.length≤1048576:=hb
 have hn':1048576<n:=hn
 have hl:=LW n k bs
 unfold nC
 rw [←hl]
 refine Ct (ys:=mX n k bs) (K:=kX k bs) (n:=n) (by omega) ?_ ?_
 ·intro L i hi'
  have hi:i<bs.length:=by omega
  have hkb:=EB (k:=k) h i (Nat.le_of_lt hi)
  have hB:=h _ (List.getElem_mem hi)
  have w1:IntKind.i64.wrap (kX k bs i+1)=kX k bs i+1:=wrap_i64 (by omega) (by omega)
  have w2:IntKind.i64.wrap (kX k bs i+1+1)=kX k bs i+2:=by rw [wrap_i64 (by omega) (by omega)]; omega
  have w3:IntKind.i64.wrap (kX k bs i+2+1)=kX k bs i+3:=by rw [wrap_i64 (by omega) (by omega)]; omega
  have hg:(mX n k bs)[i]=(txt n (kX k bs i),kX k bs i+1,kX k bs i+2,mM (kX k bs i+3) (bs[i]).2.2.2.1,()):=by simp [mX,hi]
  have hk:kX k bs (i+1)=kM (kX k bs i+3) (bs[i]).2.2.2.1 (bs[i]).2.2.2.1.length:=by rw [←getD_lt hi dB]; rfl
  have hneg:¬(kM (kX k bs i+3) (bs[i]).2.2.2.1 (bs[i]).2.2.2.1.length<0):=by
   have:=BP (k:=kX k bs i+3) hB.2.2 _ (Nat.le_refl _)
   omega
  simp only [Int.ofNat_lt,hi',decide_true,if_true,aG hi',eT hi',hg,w1,w2,w3,Bool.not_true,Bool.false_eq_true,if_false,Yv (n:=n) (k:=kX k bs i) (by omega) (by omega),Ni hB.2.1 hB.2.2 hn (show 0≤kX k bs i+3 by omega) (by omega),Option.bind_some,aS hi' (by omega),hneg,decide_false,hk]
 ·intro L
  simp
def mS (n:Nat) (k:Int) (s:lK):lK:=(s.1,mX n k s.2.1,())
def kS (k:Int) (s:lK):Int:=kX k s.2.1 s.2.1.length
theorem JR {k:Int} {s:lK} (h:Ar s):k≤kS k s∧kS k s≤k+1152924803144876032:=by
 have h1:=EB (k:=k) h.2 _ (Nat.le_refl _)
 have h2:=h.1
 unfold big at h2
 unfold kS
 omega
theorem U2 {n:Nat} {s:lK} {k:Int} (h:Ar s) (hn:big<n) (h0:0≤k) (h1:k≤1099511627776):pU n s k=some (kS k s,mS n k s,()):=by
 unfold pU
 rw [XT h.1 h.2 hn h0 h1]
 rfl
theorem UD {n:Nat} {s:lK} {k:Int} (h:Ar s) (hn:big<n) (h0:0≤k) (h1:k≤1099511627776):lu n (mS n k s) k=some (kS k s,()):=by
 have hb:=JR (k:=k) h
 unfold lu
 have h2:nC n (mS n k s).2.1 k=some (kS k s,()):=WZ h.1 h.2 hn h0 h1
 rw [h2]
 have hneg:¬(kS k s<0):=by omega
 simp only [Option.bind_some,hneg,decide_false,Bool.false_eq_true,if_false]
end Go.Proofs.YtailcbngagacaaaGreat.Oc
