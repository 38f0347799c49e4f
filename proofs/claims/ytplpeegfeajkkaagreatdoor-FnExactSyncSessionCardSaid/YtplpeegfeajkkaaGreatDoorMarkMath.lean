/- Marks: what is written into a result, and that it is found again. -/
import Derived.Test.YtplpeegfeajkkaaGreatDoorVltArgMath
namespace Go.Proofs.YtplpeegfeajkkaaGreatDoor.MV
open Go Ow nE nQ oI nS
theorem U4{A:Type}{xs:List A}{i:Nat}{d:A}{f:A->A}:(bY xs i d f).length=xs.length:=by simp[bY]
theorem U5{A:Type}{xs:List A}{i:Nat}{d:A}{f g:A->A}(h:i<xs.length):bY (bY xs i d f) i d g=bY xs i d (λz=>g (f z)):=by
 unfold bY
 rw[List.set_set,xK h]
theorem U3{A:Type}{xs:List A}{i:Nat}{d:A}{f:A->A}(h:i<xs.length):(bY xs i d f).getD i d=f (xs.getD i d):=xK h _ _
def mI(k:Int)(l:Nat):List Int:=(List.range l).map λ(i:Nat)=>k+(i:Int)
def mB(k:Int)(l:Nat):List Int:=(List.range l).map λ(i:Nat)=>IntKind.u8.wrap (k+(i:Int))
theorem aqf{n:Nat}{xs:List Int}{k:Int}(hb:xs.length<=big)(hn:big<n)(h0:0<=k)(h1:k<=2305843009213693952):Lp n xs k=some (k+(xs.length:Int),mI k xs.length,()):=by
 have hb':xs.length<=1048576:=hb
 have hl:(mI k xs.length).length=xs.length:=by simp[mI]
 unfold Lp
 have h:=FC (B:=λL1 v1=>(if decide (v1.2.1<(v1.2.2.1.length:Int))=true then(if aF v1.2.1 v1.2.2.1.length then L1 (IntKind.i64.wrap (v1.1+(1:Int)),IntKind.i64.wrap (v1.2.1+(1:Int)),v1.2.2.1.set v1.2.1.toNat v1.1,())else none)else some (v1.1,v1.2.2.1,())))
  (xs:=xs) (ys:=mI k xs.length) (K:=λi=>k+i) (n:=n) hl (by omega) ?_ ?_
 ·simpa using h
 ·intro L i hi
  simp only[Av hl (Nat.le_of_lt hi),eB,hi,bG,aQ,bU hi,dA,dL hi (by omega)]
  rw[wrap_i64 (by omega) (by omega),yQ hl hi _ (by simp[mI])]
  congr 2
  omega
 ·intro L
  simp[hl]
theorem an2{n:Nat}{l:Nat}{k:Int}(hb:l<=big)(hn:big<n)(h0:0<=k)(h1:k<=2305843009213693952):Lj n (mI k l) k=some (k+(l:Int),()):=by
 have hb':l<=1048576:=hb
 have hl:(mI k l).length=l:=by simp[mI]
 unfold Lj
 have h:=EN (B:=λL1 v1=>(if decide (v1.2.2.1<(v1.1.length:Int))=true then(if aF v1.2.2.1 v1.1.length then(if(!decide ((v1.1.getD v1.2.2.1.toNat (0:Int))=v1.2.1))=true then some ((-1:Int),())else L1 (v1.1,IntKind.i64.wrap (v1.2.1+(1:Int)),IntKind.i64.wrap (v1.2.2.1+(1:Int)),()))else none)else some (v1.2.1,())))
  (ys:=mI k l) (K:=λi=>k+i) (n:=n) (by omega) ?_ ?_
 ·rw[hl]at h
  simpa using h
 ·intro L i hi
  have hi':i<l:=by omega
  have hg:(mI k l)[i]=k+(i:Int):=by simp[mI]
  simp only[eB,hi,bG,aQ,bU hi,ku hi,hg,fK,bg,aZ,dL hi (by omega)]
  rw[wrap_i64 (by omega) (by omega)]
  congr 3
  omega
 ·intro L
  simp
theorem Uo{n:Nat}{xs:List Int}{k:Int}(hb:xs.length<=big)(hn:big<n)(h0:0<=k)(h1:k<=4611686018427387904):DC n xs k=some (k+(xs.length:Int),mB k xs.length,()):=by
 have hb':xs.length<=1048576:=hb
 have hl:(mB k xs.length).length=xs.length:=by simp[mB]
 unfold DC
 have h:=FC (B:=λL1 v1=>(if decide (v1.2.1<(v1.2.2.1.length:Int))=true then(if aF v1.2.1 v1.2.2.1.length then L1 (IntKind.i64.wrap (v1.1+(1:Int)),IntKind.i64.wrap (v1.2.1+(1:Int)),v1.2.2.1.set v1.2.1.toNat (IntKind.u8.wrap v1.1),())else none)else some (v1.1,v1.2.2.1,())))
  (xs:=xs) (ys:=mB k xs.length) (K:=λi=>k+i) (n:=n) hl (by omega) ?_ ?_
 ·simpa using h
 ·intro L i hi
  simp only[Av hl (Nat.le_of_lt hi),eB,hi,bG,aQ,bU hi,dA,dL hi (by omega)]
  rw[wrap_i64 (by omega) (by omega),yQ hl hi _ (by simp[mB])]
  congr 2
  omega
 ·intro L
  simp[hl]
theorem S_{n:Nat}{l:Nat}{k:Int}(hb:l<=big)(hn:big<n)(h0:0<=k)(h1:k<=4611686018427387904):zl n (mB k l) k=some (k+(l:Int),()):=by
 have hb':l<=1048576:=hb
 have hl:(mB k l).length=l:=by simp[mB]
 unfold zl
 have h:=EN (B:=λL1 v1=>(if decide (v1.2.2.1<(v1.1.length:Int))=true then(if aF v1.2.2.1 v1.1.length then(if(!decide ((v1.1.getD v1.2.2.1.toNat (0:Int))=(IntKind.u8.wrap v1.2.1)))=true then some ((-1:Int),())else L1 (v1.1,IntKind.i64.wrap (v1.2.1+(1:Int)),IntKind.i64.wrap (v1.2.2.1+(1:Int)),()))else none)else some (v1.2.1,())))
  (ys:=mB k l) (K:=λi=>k+i) (n:=n) (by omega) ?_ ?_
 ·rw[hl]at h
  simpa using h
 ·intro L i hi
  have hi':i<l:=by omega
  have hg:(mB k l)[i]=IntKind.u8.wrap (k+(i:Int)):=by simp[mB]
  simp only[eB,hi,bG,aQ,bU hi,ku hi,hg,fK,bg,aZ,dL hi (by omega)]
  rw[wrap_i64 (by omega) (by omega)]
  congr 3
  omega
 ·intro L
  simp
def kM(k:Int)(ms:List cK):Nat->Int
 |0=>k
 |i+1=>kM k ms i+3+((ms.getD i dM).2.2.2.1.length:Int)
def mM(k:Int)(ms:List cK):List cK:=(List.range ms.length).map λ(i:Nat)=>(kM k ms i,kM k ms i+1,kM k ms i+2,mB (kM k ms i+3) (ms.getD i dM).2.2.2.1.length,())
theorem ab5(k:Int)(ms:List cK):(mM k ms).length=ms.length:=by simp[mM]
theorem JJ{k:Int}{ms:List cK}(h:∀m∈ms,lG m):∀i,i<=ms.length->k<=kM k ms i/\kM k ms i<=k+1048579*(i:Int)
 |0,_=>by simp[kM]
 |i+1,hi=>by
  have:=JJ (k:=k) h i (by omega)
  have h1:=h _ (kP (xs:=ms) (k:=i) (by omega) dM)
  unfold lG big at h1
  unfold kM
  omega
theorem aqh{n:Nat}{ms:List cK}{k:Int}(hb:ms.length<=big)(h:∀m∈ms,lG m)(hn:big<n)(h0:0<=k)(h1:k<=2305843009213693952):Lr n ms k=some (kM k ms ms.length,mM k ms,()):=by
 have hb':ms.length<=1048576:=hb
 have hl:=ab5 k ms
 unfold Lr
 refine FC (xs:=ms) (ys:=mM k ms) (K:=kM k ms) (n:=n) hl (by omega) ?_ ?_
 ·intro L i hi
  have hlen:=Av hl (Nat.le_of_lt hi)
  have hlt:i<((mM k ms).take i++ms.drop i).length:=by omega
  have hget:=FJ hl hi dM
  have hkb:=JJ (k:=k) h i (Nat.le_of_lt hi)
  have hm:(ms[i]).2.2.2.1.length<=big:=h _ (iC hi)
  have w1:IntKind.i64.wrap (kM k ms i+1)=kM k ms i+1:=wrap_i64 (by omega) (by omega)
  have w2:IntKind.i64.wrap (kM k ms i+1+1)=kM k ms i+2:=by rw[wrap_i64 (by omega) (by omega)];omega
  have w3:IntKind.i64.wrap (kM k ms i+2+1)=kM k ms i+3:=by rw[wrap_i64 (by omega) (by omega)];omega
  have hs:=yQ hl hi (kM k ms i,kM k ms i+1,kM k ms i+2,mB (kM k ms i+3) (ms[i]).2.2.2.1.length,()) (by simp[mM,hi])
  have hk:kM k ms (i+1)=kM k ms i+3+((ms[i]).2.2.2.1.length:Int):=by rw[<-getD_lt hi dM];rfl
  simp only[U4,hlen,eB,hi,bG,aQ,bU hi,dA,U5 hlt,U3 hlt,hget,w1,w2,w3,dL hi (by omega),Uo hm hn (show 0<=kM k ms i+3 by omega) (by omega),aG]
  rw[hk,<-hs]
  unfold bY
  rw[hget]
 ·intro L
  simp[hl]
theorem an4{n:Nat}{ms:List cK}{k:Int}(hb:ms.length<=big)(h:∀m∈ms,lG m)(hn:big<n)(h0:0<=k)(h1:k<=2305843009213693952):Ll n (mM k ms) k=some (kM k ms ms.length,()):=by
 have hb':ms.length<=1048576:=hb
 have hl:=ab5 k ms
 unfold Ll
 rw[<-hl]
 refine EN (ys:=mM k ms) (K:=kM k ms) (n:=n) (by omega) ?_ ?_
 ·intro L i hi'
  have hi:i<ms.length:=by omega
  have hkb:=JJ (k:=k) h i (Nat.le_of_lt hi)
  have hm:(ms[i]).2.2.2.1.length<=big:=h _ (iC hi)
  have w1:IntKind.i64.wrap (kM k ms i+1)=kM k ms i+1:=wrap_i64 (by omega) (by omega)
  have w2:IntKind.i64.wrap (kM k ms i+1+1)=kM k ms i+2:=by rw[wrap_i64 (by omega) (by omega)];omega
  have w3:IntKind.i64.wrap (kM k ms i+2+1)=kM k ms i+3:=by rw[wrap_i64 (by omega) (by omega)];omega
  have hg:(mM k ms)[i]=(kM k ms i,kM k ms i+1,kM k ms i+2,mB (kM k ms i+3) (ms[i]).2.2.2.1.length,()):=by simp[mM,hi]
  have hk:kM k ms (i+1)=kM k ms i+3+((ms[i]).2.2.2.1.length:Int):=by rw[<-getD_lt hi dM];rfl
  have hneg:¬(kM k ms i+3+((ms[i]).2.2.2.1.length:Int)<0):=by omega
  simp only[eB,hi',bG,aQ,bU hi',ku hi',hg,w1,w2,w3,fK,bg,aZ,S_ hm hn (show 0<=kM k ms i+3 by omega) (by omega),aG,dL hi' (by omega),hneg,cO,hk]
 ·intro L
  simp
theorem aqk{n:Nat}(hn:70<=n){k:Int}(h1:k<4611686018427387904):∃r,tN n k=some (r,()):=by
 unfold tN
 by_cases h0:k<=0
 ·exact⟨[109,48],by simp[h0]⟩
 ·simp only[h0,cO,bg,aZ]
  exact amc [109] (λv=>IntKind.u8.wrap (IntKind.i64.wrap ((48:Int)+(v.tmod (10:Int))))) (by simp) (λL v=>rfl) 62 n k [] (by omega) (by omega) h1 (by simp)
def txt(n:Nat)(k:Int):List Int:=((tN n k).getD ([],())).1
theorem F9{n:Nat}(hn:70<=n){k:Int}(h1:k<4611686018427387904):tN n k=some (txt n k,()):=by
 obtain⟨r,h⟩:=aqk hn h1
 unfold txt
 rw[h]
 rfl
def kX(k:Int)(bs:List Bx):Nat->Int
 |0=>k
 |i+1=>kM (kX k bs i+3) (bs.getD i dB).2.2.2.1 (bs.getD i dB).2.2.2.1.length
def mX(n:Nat)(k:Int)(bs:List Bx):List Bx:=(List.range bs.length).map λ(i:Nat)=>(txt n (kX k bs i),kX k bs i+1,kX k bs i+2,mM (kX k bs i+3) (bs.getD i dB).2.2.2.1,())
theorem ab7(n:Nat)(k:Int)(bs:List Bx):(mX n k bs).length=bs.length:=by simp[mX]
theorem Oi{k:Int}{bs:List Bx}(h:∀b∈bs,okB b):∀i,i<=bs.length->k<=kX k bs i/\kX k bs i<=k+1099514773507*(i:Int)
 |0,_=>by simp[kX]
 |i+1,hi=>by
  have:=Oi (k:=k) h i (by omega)
  have h1:=h _ (kP (xs:=bs) (k:=i) (by omega) dB)
  have h2:=JJ (k:=kX k bs i+3) h1.2.2 _ (bV _)
  have h3:=h1.2.1
  unfold big at h3
  unfold kX
  omega
theorem aqe{n:Nat}{bs:List Bx}{k:Int}(hb:bs.length<=big)(h:∀b∈bs,okB b)(hn:big<n)(h0:0<=k)(h1:k<=1099511627776):Lm n bs k=some (kX k bs bs.length,mX n k bs,()):=by
 have hb':bs.length<=1048576:=hb
 have hn':1048576<n:=hn
 have hl:=ab7 n k bs
 unfold Lm
 refine FC (xs:=bs) (ys:=mX n k bs) (K:=kX k bs) (n:=n) hl (by omega) ?_ ?_
 ·intro L i hi
  have hlen:=Av hl (Nat.le_of_lt hi)
  have hlt:i<((mX n k bs).take i++bs.drop i).length:=by omega
  have hget:=FJ hl hi dB
  have hkb:=Oi (k:=k) h i (Nat.le_of_lt hi)
  have hB:=h _ (iC hi)
  have w1:IntKind.i64.wrap (kX k bs i+1)=kX k bs i+1:=wrap_i64 (by omega) (by omega)
  have w2:IntKind.i64.wrap (kX k bs i+1+1)=kX k bs i+2:=by rw[wrap_i64 (by omega) (by omega)];omega
  have w3:IntKind.i64.wrap (kX k bs i+2+1)=kX k bs i+3:=by rw[wrap_i64 (by omega) (by omega)];omega
  have hs:=yQ hl hi (txt n (kX k bs i),kX k bs i+1,kX k bs i+2,mM (kX k bs i+3) (bs[i]).2.2.2.1,()) (by simp[mX,hi])
  have hk:kX k bs (i+1)=kM (kX k bs i+3) (bs[i]).2.2.2.1 (bs[i]).2.2.2.1.length:=by rw[<-getD_lt hi dB];rfl
  simp only[U4,hlen,eB,hi,bG,aQ,bU hi,dA,U5 hlt,U3 hlt,hget,w1,w2,w3,dL hi (by omega),F9 (n:=n) (k:=kX k bs i) (by omega) (by omega),aqh hB.2.1 hB.2.2 hn (show 0<=kX k bs i+3 by omega) (by omega),aG]
  rw[hk,<-hs]
  unfold bY
  rw[hget]
 ·intro L
  simp[hl]
theorem an1{n:Nat}{bs:List Bx}{k:Int}(hb:bs.length<=big)(h:∀b∈bs,okB b)(hn:big<n)(h0:0<=k)(h1:k<=1099511627776):G5 n (mX n k bs) k=some (kX k bs bs.length,()):=by
 have hb':bs.length<=1048576:=hb
 have hn':1048576<n:=hn
 have hl:=ab7 n k bs
 unfold G5
 rw[<-hl]
 refine EN (ys:=mX n k bs) (K:=kX k bs) (n:=n) (by omega) ?_ ?_
 ·intro L i hi'
  have hi:i<bs.length:=by omega
  have hkb:=Oi (k:=k) h i (Nat.le_of_lt hi)
  have hB:=h _ (iC hi)
  have w1:IntKind.i64.wrap (kX k bs i+1)=kX k bs i+1:=wrap_i64 (by omega) (by omega)
  have w2:IntKind.i64.wrap (kX k bs i+1+1)=kX k bs i+2:=by rw[wrap_i64 (by omega) (by omega)];omega
  have w3:IntKind.i64.wrap (kX k bs i+2+1)=kX k bs i+3:=by rw[wrap_i64 (by omega) (by omega)];omega
  have hg:(mX n k bs)[i]=(txt n (kX k bs i),kX k bs i+1,kX k bs i+2,mM (kX k bs i+3) (bs[i]).2.2.2.1,()):=by simp[mX,hi]
  have hk:kX k bs (i+1)=kM (kX k bs i+3) (bs[i]).2.2.2.1 (bs[i]).2.2.2.1.length:=by rw[<-getD_lt hi dB];rfl
  have hneg:¬(kM (kX k bs i+3) (bs[i]).2.2.2.1 (bs[i]).2.2.2.1.length<0):=by
   have:=JJ (k:=kX k bs i+3) hB.2.2 _ (bV _)
   omega
  simp only[eB,hi',bG,aQ,bU hi',ku hi',hg,w1,w2,w3,fK,bg,aZ,F9 (n:=n) (k:=kX k bs i) (by omega) (by omega),an4 hB.2.1 hB.2.2 hn (show 0<=kX k bs i+3 by omega) (by omega),aG,dL hi' (by omega),hneg,cO,hk]
 ·intro L
  simp
def mS(n:Nat)(k:Int)(s:cu):cu:=(s.1,mX n k s.2.1,())
def kS(k:Int)(s:cu):Int:=kX k s.2.1 s.2.1.length
theorem JL{k:Int}{s:cu}(h:iK s):k<=kS k s/\kS k s<=k+1152924803144876032:=by
 have h1:=Oi (k:=k) h.2 _ (bV _)
 have h2:=h.1
 unfold big at h2
 unfold kS
 omega
theorem aqi{n:Nat}{s:cu}{k:Int}(h:iK s)(hn:big<n)(h0:0<=k)(h1:k<=1099511627776):Lt n s k=some (kS k s,mS n k s,()):=by
 unfold Lt
 rw[aqe h.1 h.2 hn h0 h1]
 rfl
theorem an6{n:Nat}{s:cu}{k:Int}(h:iK s)(hn:big<n)(h0:0<=k)(h1:k<=1099511627776):G7 n (mS n k s) k=some (kS k s,()):=by
 have hb:=JL (k:=k) h
 unfold G7
 have h2:G5 n (mS n k s).2.1 k=some (kS k s,()):=an1 h.1 h.2 hn h0 h1
 rw[h2]
 have hneg:¬(kS k s<0):=by omega
 simp only[aG,hneg,cO,bg,aZ]
end Go.Proofs.YtplpeegfeajkkaaGreatDoor.MV
