/- Marks: what is written into a result, and that it is found again. -/
import Derived.Test.YtailcbngagacaabGreatOwF
import Derived.Test.YtailcbngagacaabGreatLoopLib
import Derived.Test.YtailcbngagacaabGreatStoreMath
import Derived.Test.YtailcbngagacaabGreatOpsMath
import Derived.Test.YtailcbngagacaabGreatTidyF
set_option linter.unusedSectionVars false
set_option linter.unusedVariables false
set_option linter.unusedSimpArgs false
namespace Go.Proofs.YtailcbngagacaabGreat.Oz
open Go Go.Proofs.YtailcbngagacaabGreat.Ow Go.Proofs.YtailcbngagacaabGreat.yj Go.Proofs.YtailcbngagacaabGreat.pU Go.Proofs.YtailcbngagacaabGreat.jL Go.Proofs.YtailcbngagacaabGreat.mO
theorem Qh {A:Type} {xs:List A} {i:Nat} {d:A} {f:A→A}:(iM xs i d f).length=xs.length:=by simp [iM]
theorem KC {A:Type} {xs:List A} {i:Nat} {d:A} {f g:A→A} (h:i<xs.length):iM (iM xs i d f) i d g=iM xs i d (fun z=>g (f z)):=by
 unfold iM
 rw [List.set_set,Cr h]
theorem MH {A:Type} {xs:List A} {i:Nat} {d:A} {f:A→A} (h:i<xs.length):(iM xs i d f).getD i d=f (xs.getD i d):=Cr h _ _
def mI (k:Int) (l:Nat):List Int:=(List.range l).map fun (i:Nat)=>k+(i:Int)
def mB (k:Int) (l:Nat):List Int:=(List.range l).map fun (i:Nat)=>IntKind.u8.wrap (k+(i:Int))
theorem RS {n:Nat} {xs:List Int} {k:Int} (hb:xs.length≤big) (hn:big<n) (h0:0≤k) (h1:k≤2305843009213693952):nV n xs k=some (k+(xs.length:Int),mI k xs.length,()):=by
 have hb':xs.length≤1048576:=hb
 have hl:(mI k xs.length).length=xs.length:=by simp [mI]
 unfold nV
 have h:=CO (B:=fun L1 v1=>(if decide (v1.2.1<(v1.2.2.1.length:Int))=true then (if aI v1.2.1 v1.2.2.1.length then L1 (IntKind.i64.wrap (v1.1+(1:Int)),IntKind.i64.wrap (v1.2.1+(1:Int)),v1.2.2.1.set v1.2.1.toNat v1.1,()) else none) else some (v1.1,v1.2.2.1,())))
  (xs:=xs) (ys:=mI k xs.length) (K:=fun i=>k+i) (n:=n) hl (by omega) ?_ ?_
 ·simpa using h
 ·intro L i hi
  simp only [CP hl (Nat.le_of_lt hi),Int.ofNat_lt,hi,decide_true,if_true,aG hi,Int.toNat_natCast,aN hi (by omega)]
  rw [wrap_i64 (by omega) (by omega),AL hl hi _ (by simp [mI])]
  congr 2
  omega
 ·intro L
  simp [hl]
theorem RB {n:Nat} {l:Nat} {k:Int} (hb:l≤big) (hn:big<n) (h0:0≤k) (h1:k≤2305843009213693952):jT n (mI k l) k=some (k+(l:Int),()):=by
 have hb':l≤1048576:=hb
 have hl:(mI k l).length=l:=by simp [mI]
 unfold jT
 have h:=CG (B:=fun L1 v1=>(if decide (v1.2.2.1<(v1.1.length:Int))=true then (if aI v1.2.2.1 v1.1.length then (if (!decide ((v1.1.getD v1.2.2.1.toNat (0:Int))=v1.2.1))=true then some ((-1:Int),()) else L1 (v1.1,IntKind.i64.wrap (v1.2.1+(1:Int)),IntKind.i64.wrap (v1.2.2.1+(1:Int)),())) else none) else some (v1.2.1,())))
  (ys:=mI k l) (K:=fun i=>k+i) (n:=n) (by omega) ?_ ?_
 ·rw [hl] at h
  simpa using h
 ·intro L i hi
  have hi':i<l:=by omega
  have hg:(mI k l)[i]=k+(i:Int):=by simp [mI]
  simp only [Int.ofNat_lt,hi,decide_true,if_true,aG hi,dO hi,hg,Bool.not_true,Bool.false_eq_true,if_false,aN hi (by omega)]
  rw [wrap_i64 (by omega) (by omega)]
  congr 3
  omega
 ·intro L
  simp
theorem Gg {n:Nat} {xs:List Int} {k:Int} (hb:xs.length≤big) (hn:big<n) (h0:0≤k) (h1:k≤4611686018427387904):je n xs k=some (k+(xs.length:Int),mB k xs.length,()):=by
 have hb':xs.length≤1048576:=hb
 have hl:(mB k xs.length).length=xs.length:=by simp [mB]
 unfold je
 have h:=CO (B:=fun L1 v1=>(if decide (v1.2.1<(v1.2.2.1.length:Int))=true then (if aI v1.2.1 v1.2.2.1.length then L1 (IntKind.i64.wrap (v1.1+(1:Int)),IntKind.i64.wrap (v1.2.1+(1:Int)),v1.2.2.1.set v1.2.1.toNat (IntKind.u8.wrap v1.1),()) else none) else some (v1.1,v1.2.2.1,())))
  (xs:=xs) (ys:=mB k xs.length) (K:=fun i=>k+i) (n:=n) hl (by omega) ?_ ?_
 ·simpa using h
 ·intro L i hi
  simp only [CP hl (Nat.le_of_lt hi),Int.ofNat_lt,hi,decide_true,if_true,aG hi,Int.toNat_natCast,aN hi (by omega)]
  rw [wrap_i64 (by omega) (by omega),AL hl hi _ (by simp [mB])]
  congr 2
  omega
 ·intro L
  simp [hl]
theorem F7 {n:Nat} {l:Nat} {k:Int} (hb:l≤big) (hn:big<n) (h0:0≤k) (h1:k≤4611686018427387904):fH n (mB k l) k=some (k+(l:Int),()):=by
 have hb':l≤1048576:=hb
 have hl:(mB k l).length=l:=by simp [mB]
 unfold fH
 have h:=CG (B:=fun L1 v1=>(if decide (v1.2.2.1<(v1.1.length:Int))=true then (if aI v1.2.2.1 v1.1.length then (if (!decide ((v1.1.getD v1.2.2.1.toNat (0:Int))=(IntKind.u8.wrap v1.2.1)))=true then some ((-1:Int),()) else L1 (v1.1,IntKind.i64.wrap (v1.2.1+(1:Int)),IntKind.i64.wrap (v1.2.2.1+(1:Int)),())) else none) else some (v1.2.1,())))
  (ys:=mB k l) (K:=fun i=>k+i) (n:=n) (by omega) ?_ ?_
 ·rw [hl] at h
  simpa using h
 ·intro L i hi
  have hi':i<l:=by omega
  have hg:(mB k l)[i]=IntKind.u8.wrap (k+(i:Int)):=by simp [mB]
  simp only [Int.ofNat_lt,hi,decide_true,if_true,aG hi,dO hi,hg,Bool.not_true,Bool.false_eq_true,if_false,aN hi (by omega)]
  rw [wrap_i64 (by omega) (by omega)]
  congr 3
  omega
 ·intro L
  simp
def kM (k:Int) (ms:List mK):Nat→Int
 | 0=>k
 | i+1=>kM k ms i+3+((ms.getD i dM).2.2.2.1.length:Int)
def mM (k:Int) (ms:List mK):List mK:=(List.range ms.length).map fun (i:Nat)=>(kM k ms i,kM k ms i+1,kM k ms i+2,mB (kM k ms i+3) (ms.getD i dM).2.2.2.1.length,())
theorem Ml (k:Int) (ms:List mK):(mM k ms).length=ms.length:=by simp [mM]
theorem Ca {k:Int} {ms:List mK} (h:∀m∈ms,H9 m):∀i,i≤ms.length→k≤kM k ms i∧kM k ms i≤k+1048579 * (i:Int)
 | 0,_=>by simp [kM]
 | i+1,hi=>by
  have:=Ca (k:=k) h i (by omega)
  have h1:=h _ (eH (xs:=ms) (k:=i) (by omega) dM)
  unfold H9 big at h1
  unfold kM
  omega
theorem NM {n:Nat} {ms:List mK} {k:Int} (hb:ms.length≤big) (h:∀m∈ms,H9 m) (hn:big<n) (h0:0≤k) (h1:k≤2305843009213693952):kI n ms k=some (kM k ms ms.length,mM k ms,()):=by
 have hb':ms.length≤1048576:=hb
 have hl:=Ml k ms
 unfold kI
 refine CO (xs:=ms) (ys:=mM k ms) (K:=kM k ms) (n:=n) hl (by omega) ?_ ?_
 ·intro L i hi
  have hlen:=CP hl (Nat.le_of_lt hi)
  have hlt:i<((mM k ms).take i++ms.drop i).length:=by omega
  have hget:=ER hl hi dM
  have hkb:=Ca (k:=k) h i (Nat.le_of_lt hi)
  have hm:(ms[i]).2.2.2.1.length≤big:=h _ (List.getElem_mem hi)
  have w1:IntKind.i64.wrap (kM k ms i+1)=kM k ms i+1:=wrap_i64 (by omega) (by omega)
  have w2:IntKind.i64.wrap (kM k ms i+1+1)=kM k ms i+2:=by rw [wrap_i64 (by omega) (by omega)]; omega
  have w3:IntKind.i64.wrap (kM k ms i+2+1)=kM k ms i+3:=by rw [wrap_i64 (by omega) (by omega)]; omega
  have hs:=AL hl hi (kM k ms i,kM k ms i+1,kM k ms i+2,mB (kM k ms i+3) (ms[i]).2.2.2.1.length,()) (by simp [mM,hi])
  have hk:kM k ms (i+1)=kM k ms i+3+((ms[i]).2.2.2.1.length:Int):=by rw [←getD_lt hi dM]; rfl
  simp only [Qh,hlen,Int.ofNat_lt,hi,decide_true,if_true,aG hi,Int.toNat_natCast,KC hlt,MH hlt,hget,w1,w2,w3,aN hi (by omega),Gg hm hn (show 0≤kM k ms i+3 by omega) (by omega),Option.bind_some]
  rw [hk, ←hs]
  unfold iM
  rw [hget]
 ·intro L
  simp [hl]
theorem NA {n:Nat} {ms:List mK} {k:Int} (hb:ms.length≤big) (h:∀m∈ms,H9 m) (hn:big<n) (h0:0≤k) (h1:k≤2305843009213693952):kH n (mM k ms) k=some (kM k ms ms.length,()):=by
 have hb':ms.length≤1048576:=hb
 have hl:=Ml k ms
 unfold kH
 rw [←hl]
 refine CG (ys:=mM k ms) (K:=kM k ms) (n:=n) (by omega) ?_ ?_
 ·intro L i hi'
  have hi:i<ms.length:=by omega
  have hkb:=Ca (k:=k) h i (Nat.le_of_lt hi)
  have hm:(ms[i]).2.2.2.1.length≤big:=h _ (List.getElem_mem hi)
  have w1:IntKind.i64.wrap (kM k ms i+1)=kM k ms i+1:=wrap_i64 (by omega) (by omega)
  have w2:IntKind.i64.wrap (kM k ms i+1+1)=kM k ms i+2:=by rw [wrap_i64 (by omega) (by omega)]; omega
  have w3:IntKind.i64.wrap (kM k ms i+2+1)=kM k ms i+3:=by rw [wrap_i64 (by omega) (by omega)]; omega
  have hg:(mM k ms)[i]=(kM k ms i,kM k ms i+1,kM k ms i+2,mB (kM k ms i+3) (ms[i]).2.2.2.1.length,()):=by simp [mM,hi]
  have hk:kM k ms (i+1)=kM k ms i+3+((ms[i]).2.2.2.1.length:Int):=by rw [←getD_lt hi dM]; rfl
  have hneg:¬(kM k ms i+3+((ms[i]).2.2.2.1.length:Int)<0):=by omega
  simp only [Int.ofNat_lt,hi',decide_true,if_true,aG hi',dO hi',hg,w1,w2,w3,Bool.not_true,Bool.false_eq_true,if_false,F7 hm hn (show 0≤kM k ms i+3 by omega) (by omega),Option.bind_some,aN hi' (by omega),hneg,decide_false,hk]
 ·intro L
  simp
theorem Lj {n:Nat} (hn:70≤n) {k:Int} (h1:k<4611686018427387904):∃r,iB n k=some (r,()):=by
 unfold iB
 by_cases h0:k≤0
 ·exact ⟨[109,48],by simp [h0]⟩
 ·simp only [h0,decide_false,Bool.false_eq_true,if_false]
  exact O8 [109] (fun v=>IntKind.u8.wrap (IntKind.i64.wrap ((48:Int)+(v.tmod (10:Int))))) (by simp) (fun L v=>rfl) 62 n k [] (by omega) (by omega) h1 (by simp)
def txt (n:Nat) (k:Int):List Int:=((iB n k).getD ([],())).1
theorem YK {n:Nat} (hn:70≤n) {k:Int} (h1:k<4611686018427387904):iB n k=some (txt n k,()):=by
 obtain ⟨r,h⟩:=Lj hn h1
 unfold txt
 rw [h]
 rfl
def kX (k:Int) (bs:List Bx):Nat→Int
 | 0=>k
 | i+1=>kM (kX k bs i+3) (bs.getD i dB).2.2.2.1 (bs.getD i dB).2.2.2.1.length
def mX (n:Nat) (k:Int) (bs:List Bx):List Bx:=(List.range bs.length).map fun (i:Nat)=>(txt n (kX k bs i),kX k bs i+1,kX k bs i+2,mM (kX k bs i+3) (bs.getD i dB).2.2.2.1,())
theorem Mm (n:Nat) (k:Int) (bs:List Bx):(mX n k bs).length=bs.length:=by simp [mX]
theorem EL {k:Int} {bs:List Bx} (h:∀b∈bs,okB b):∀i,i≤bs.length→k≤kX k bs i∧kX k bs i≤k+1099514773507 * (i:Int)
 | 0,_=>by simp [kX]
 | i+1,hi=>by
  have:=EL (k:=k) h i (by omega)
  have h1:=h _ (eH (xs:=bs) (k:=i) (by omega) dB)
  have h2:=Ca (k:=kX k bs i+3) h1.2.2 _ (Nat.le_refl _)
  have h3:=h1.2.1
  unfold big at h3
  unfold kX
  omega
theorem Yc {n:Nat} {bs:List Bx} {k:Int} (hb:bs.length≤big) (h:∀b∈bs,okB b) (hn:big<n) (h0:0≤k) (h1:k≤1099511627776):qM n bs k=some (kX k bs bs.length,mX n k bs,()):=by
 have hb':bs.length≤1048576:=hb
 have hn':1048576<n:=hn
 have hl:=Mm n k bs
 unfold qM
 refine CO (xs:=bs) (ys:=mX n k bs) (K:=kX k bs) (n:=n) hl (by omega) ?_ ?_
 ·intro L i hi
  have hlen:=CP hl (Nat.le_of_lt hi)
  have hlt:i<((mX n k bs).take i++bs.drop i).length:=by omega
  have hget:=ER hl hi dB
  have hkb:=EL (k:=k) h i (Nat.le_of_lt hi)
  have hB:=h _ (List.getElem_mem hi)
  have w1:IntKind.i64.wrap (kX k bs i+1)=kX k bs i+1:=wrap_i64 (by omega) (by omega)
  have w2:IntKind.i64.wrap (kX k bs i+1+1)=kX k bs i+2:=by rw [wrap_i64 (by omega) (by omega)]; omega
  have w3:IntKind.i64.wrap (kX k bs i+2+1)=kX k bs i+3:=by rw [wrap_i64 (by omega) (by omega)]; omega
  have hs:=AL hl hi (txt n (kX k bs i),kX k bs i+1,kX k bs i+2,mM (kX k bs i+3) (bs[i]).2.2.2.1,()) (by simp [mX,hi])
  have hk:kX k bs (i+1)=kM (kX k bs i+3) (bs[i]).2.2.2.1 (bs[i]).2.2.2.1.length:=by rw [←getD_lt hi dB]; rfl
  simp only [Qh,hlen,Int.ofNat_lt,hi,decide_true,if_true,aG hi,Int.toNat_natCast,KC hlt,MH hlt,hget,w1,w2,w3,aN hi (by omega),YK (n:=n) (k:=kX k bs i) (by omega) (by omega),NM hB.2.1 hB.2.2 hn (show 0≤kX k bs i+3 by omega) (by omega),Option.bind_some]
  rw [hk, ←hs]
  unfold iM
  rw [hget]
 ·intro L
  simp [hl]
theorem Xp {n:Nat} {bs:List Bx} {k:Int} (hb:bs.length≤big) (h:∀b∈bs,okB b) (hn:big<n) (h0:0≤k) (h1:k≤1099511627776):nC n (mX n k bs) k=some (kX k bs bs.length,()):=by
 have hb':bs.length≤1048576:=hb
 have hn':1048576<n:=hn
 have hl:=Mm n k bs
 unfold nC
 rw [←hl]
 refine CG (ys:=mX n k bs) (K:=kX k bs) (n:=n) (by omega) ?_ ?_
 ·intro L i hi'
  have hi:i<bs.length:=by omega
  have hkb:=EL (k:=k) h i (Nat.le_of_lt hi)
  have hB:=h _ (List.getElem_mem hi)
  have w1:IntKind.i64.wrap (kX k bs i+1)=kX k bs i+1:=wrap_i64 (by omega) (by omega)
  have w2:IntKind.i64.wrap (kX k bs i+1+1)=kX k bs i+2:=by rw [wrap_i64 (by omega) (by omega)]; omega
  have w3:IntKind.i64.wrap (kX k bs i+2+1)=kX k bs i+3:=by rw [wrap_i64 (by omega) (by omega)]; omega
  have hg:(mX n k bs)[i]=(txt n (kX k bs i),kX k bs i+1,kX k bs i+2,mM (kX k bs i+3) (bs[i]).2.2.2.1,()):=by simp [mX,hi]
  have hk:kX k bs (i+1)=kM (kX k bs i+3) (bs[i]).2.2.2.1 (bs[i]).2.2.2.1.length:=by rw [←getD_lt hi dB]; rfl
  have hneg:¬(kM (kX k bs i+3) (bs[i]).2.2.2.1 (bs[i]).2.2.2.1.length<0):=by
   have:=Ca (k:=kX k bs i+3) hB.2.2 _ (Nat.le_refl _)
   omega
  simp only [Int.ofNat_lt,hi',decide_true,if_true,aG hi',dO hi',hg,w1,w2,w3,Bool.not_true,Bool.false_eq_true,if_false,YK (n:=n) (k:=kX k bs i) (by omega) (by omega),NA hB.2.1 hB.2.2 hn (show 0≤kX k bs i+3 by omega) (by omega),Option.bind_some,aN hi' (by omega),hneg,decide_false,hk]
 ·intro L
  simp
def mS (n:Nat) (k:Int) (s:lJ):lJ:=(s.1,mX n k s.2.1,())
def kS (k:Int) (s:lJ):Int:=kX k s.2.1 s.2.1.length
theorem J5 {k:Int} {s:lJ} (h:AO s):k≤kS k s∧kS k s≤k+1152924803144876032:=by
 have h1:=EL (k:=k) h.2 _ (Nat.le_refl _)
 have h2:=h.1
 unfold big at h2
 unfold kS
 omega
theorem Ve {n:Nat} {s:lJ} {k:Int} (h:AO s) (hn:big<n) (h0:0≤k) (h1:k≤1099511627776):pO n s k=some (kS k s,mS n k s,()):=by
 unfold pO
 rw [Yc h.1 h.2 hn h0 h1]
 rfl
theorem UO {n:Nat} {s:lJ} {k:Int} (h:AO s) (hn:big<n) (h0:0≤k) (h1:k≤1099511627776):kZ n (mS n k s) k=some (kS k s,()):=by
 have hb:=J5 (k:=k) h
 unfold kZ
 have h2:nC n (mS n k s).2.1 k=some (kS k s,()):=Xp h.1 h.2 hn h0 h1
 rw [h2]
 have hneg:¬(kS k s<0):=by omega
 simp only [Option.bind_some,hneg,decide_false,Bool.false_eq_true,if_false]
end Go.Proofs.YtailcbngagacaabGreat.Oz
