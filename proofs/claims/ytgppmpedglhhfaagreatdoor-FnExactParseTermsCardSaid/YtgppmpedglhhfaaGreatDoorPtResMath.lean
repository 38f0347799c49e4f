/- Results that hold terms: held against each other, marked, read again. -/
import Derived.Test.YtgppmpedglhhfaaGreatDoorTTxtMath
set_option linter.unusedVariables false
set_option linter.unusedSimpArgs false
namespace Go.Proofs.YtgppmpedglhhfaaGreatDoor.Tw
open Go Ow q9 qZ
theorem getD_lt{A:Type}{xs:List A}{i:Nat}(h:i<xs.length)(d:A):xs.getD i d=xs[i]:=by simp[gy,h]
theorem aao{A:Type}{xs:List A}{i:Nat}{y d:A}(h:i<xs.length):(xs.set i y).getD i d=y:=by simp[gy,h]
theorem aaj{A:Type}{xs:List A}{i:Nat}{d:A}{f:A->A}:(gI xs i d f).length=xs.length:=by simp[gI]
theorem aak{A:Type}{xs:List A}{i:Nat}{d:A}{f g:A->A}(h:i<xs.length):gI (gI xs i d f) i d g=gI xs i d (λz=>g (f z)):=by
 unfold gI
 rw[List.set_set,aao h]
theorem aoj{A:Type}{xs:List A}{i:Nat}{d:A}{f:A->A}(h:i<xs.length):(gI xs i d f).getD i d=f (xs.getD i d):=aao h
def tJ(t:bn):Prop:=t.2.2.1.length<=big/\t.2.2.2.1.length<=big
theorem afC{n:Nat}{l:List Int}(hb:l.length<=big)(hn:big<n):Gi n l l=some (true,()):=by
 unfold Gi
 rw[aj (by simp)]
 refine MP (f:=λx y=>some (decide (x=y),())) (d:=(0:Int)) (λL v=>rfl) (λ_ _=>by simp) hb hn
theorem afD{n:Nat}{l:List ay}(hb:l.length<=big)(hn:big<n):Gl n l l=some (true,()):=by
 unfold Gl
 rw[aj (by simp)]
 exact MP (f:=Gj n) (λL v=>rfl) (λr _=>by unfold Gj;simp) hb hn
theorem afF{n:Nat}{l:List bn}(hb:l.length<=big)(h:∀t∈l,tJ t)(hn:big<n):Gn n l l=some (true,()):=by
 unfold Gn
 rw[aj (by simp)]
 exact MP (f:=Gm n) (λL v=>rfl) (λt ht=>by unfold Gm;simp[afC (h t ht).1 hn,afD (h t ht).2 hn]) hb hn
theorem afE{n:Nat}{c:Int}{l:List bn}(hb:l.length<=big)(h:∀t∈l,tJ t)(hn:big<n):CK n (c,l,()) (c,l,())=some (true,()):=by
 unfold CK
 simp[afF hb h hn]
def mI(k:Int)(l:Nat):List Int:=(List.range l).map λ(i:Nat)=>k+(i:Int)
theorem amQ{n:Nat}{xs:List Int}{k:Int}(hb:xs.length<=big)(hn:big<n)(h0:0<=k)(h1:k<=2305843009213693952):Gs n xs k=some (k+(xs.length:Int),mI k xs.length,()):=by
 have hb':xs.length<=1048576:=hb
 have hl:(mI k xs.length).length=xs.length:=by simp[mI]
 unfold Gs
 have h:=PV (B:=λL1 v1=>(if decide (v1.2.1<(v1.2.2.1.length:Int))=true then(if aX v1.2.1 v1.2.2.1.length then L1 (IntKind.i64.wrap (v1.1+(1:Int)),IntKind.i64.wrap (v1.2.1+(1:Int)),v1.2.2.1.set v1.2.1.toNat v1.1,())else none)else some (v1.1,v1.2.2.1,())))
  (xs:=xs) (ys:=mI k xs.length) (K:=λi=>k+i) (n:=n) hl (by omega) ?_ ?_
 ·simpa using h
 ·intro L i hi
  simp only[PZ hl (Nat.le_of_lt hi),ou,hi,cB,bQ,ig hi,kJ,kY hi (by omega)]
  rw[wrap_i64 (by omega) (by omega),P5 hl hi _ (by simp[mI])]
  congr 2
  omega
 ·intro L
  simp[hl]
theorem agY{n:Nat}{l:Nat}{k:Int}(hb:l<=big)(hn:big<n)(h0:0<=k)(h1:k<=2305843009213693952):Gp n (mI k l) k=some (k+(l:Int),()):=by
 have hb':l<=1048576:=hb
 have hl:(mI k l).length=l:=by simp[mI]
 unfold Gp
 have h:=Ni (B:=λL1 v1=>(if decide (v1.2.2.1<(v1.1.length:Int))=true then(if aX v1.2.2.1 v1.1.length then(if(!decide ((v1.1.getD v1.2.2.1.toNat (0:Int))=v1.2.1))=true then some ((-1:Int),())else L1 (v1.1,IntKind.i64.wrap (v1.2.1+(1:Int)),IntKind.i64.wrap (v1.2.2.1+(1:Int)),()))else none)else some (v1.2.1,())))
  (ys:=mI k l) (K:=λi=>k+i) (n:=n) (by omega) ?_ ?_
 ·rw[hl]at h
  simpa using h
 ·intro L i hi
  have hi':i<l:=by omega
  have hg:(mI k l)[i]=k+(i:Int):=by simp[mI]
  simp only[ou,hi,cB,bQ,ig hi,o9 hi,hg,iM,bY,bO,kY hi (by omega)]
  rw[wrap_i64 (by omega) (by omega)]
  congr 3
  omega
 ·intro L
  simp
def mR(k:Int)(l:Nat):List ay:=(List.range l).map λ(i:Nat)=>(k+2*(i:Int),k+2*(i:Int)+1,())
theorem amR{n:Nat}{xs:List ay}{k:Int}(hb:xs.length<=big)(hn:big<n)(h0:0<=k)(h1:k<=2305843009213693952):Gt n xs k=some (k+2*(xs.length:Int),mR k xs.length,()):=by
 have hb':xs.length<=1048576:=hb
 have hl:(mR k xs.length).length=xs.length:=by simp[mR]
 unfold Gt
 have h:=PV (B:=λL1 (v1:Int×Int×(List ay)×Unit)=>(if decide (v1.2.1<(v1.2.2.1.length:Int))=true then(if aX v1.2.1 v1.2.2.1.length then(if aX v1.2.1 (gI v1.2.2.1 v1.2.1.toNat fI λz1=>(v1.1,z1.2)).length then L1 (IntKind.i64.wrap ((IntKind.i64.wrap (v1.1+(1:Int)))+(1:Int)),IntKind.i64.wrap (v1.2.1+(1:Int)),(gI (gI v1.2.2.1 v1.2.1.toNat fI λz1=>(v1.1,z1.2)) v1.2.1.toNat fI λz1=>(z1.1,IntKind.i64.wrap (v1.1+(1:Int)),z1.2.2)),())else none)else none)else some (v1.1,v1.2.2.1,())))
  (xs:=xs) (ys:=mR k xs.length) (K:=λi=>k+2*i) (n:=n) hl (by omega) ?_ ?_
 ·simpa using h
 ·intro L i hi
  have hlen:=PZ hl (Nat.le_of_lt hi)
  have hlt:i<((mR k xs.length).take i++xs.drop i).length:=by omega
  have w1:IntKind.i64.wrap (k+2*(i:Int)+1)=k+2*(i:Int)+1:=wrap_i64 (by omega) (by omega)
  have w2:IntKind.i64.wrap (k+2*(i:Int)+1+1)=k+2*((i+1:Nat):Int):=by rw[wrap_i64 (by omega) (by omega)];omega
  have hs:=P5 hl hi (k+2*(i:Int),k+2*(i:Int)+1,()) (by simp[mR])
  simp only[aaj,hlen,ou,hi,cB,bQ,ig hi,kJ,aak hlt,w1,w2,kY hi (by omega)]
  rw[<-hs]
  rfl
 ·intro L
  simp[hl]
theorem agZ{n:Nat}{l:Nat}{k:Int}(hb:l<=big)(hn:big<n)(h0:0<=k)(h1:k<=2305843009213693952):Gq n (mR k l) k=some (k+2*(l:Int),()):=by
 have hb':l<=1048576:=hb
 have hl:(mR k l).length=l:=by simp[mR]
 unfold Gq
 have h:=Ni (B:=λL1 (v1:(List ay)×ay)=>(if decide (v1.2.2.1<(v1.1.length:Int))=true then(if aX v1.2.2.1 v1.1.length then(if(!decide (((v1.1.getD v1.2.2.1.toNat fI).1)=v1.2.1))=true then some ((-1:Int),())else(if aX v1.2.2.1 v1.1.length then(if(!decide ((((v1.1.getD v1.2.2.1.toNat fI).2).1)=(IntKind.i64.wrap (v1.2.1+(1:Int)))))=true then some ((-1:Int),())else L1 (v1.1,IntKind.i64.wrap ((IntKind.i64.wrap (v1.2.1+(1:Int)))+(1:Int)),IntKind.i64.wrap (v1.2.2.1+(1:Int)),()))else none))else none)else some (v1.2.1,())))
  (ys:=mR k l) (K:=λi=>k+2*i) (n:=n) (by omega) ?_ ?_
 ·rw[hl]at h
  simpa using h
 ·intro L i hi
  have hi':i<l:=by omega
  have hg:(mR k l)[i]=(k+2*(i:Int),k+2*(i:Int)+1,()):=by simp[mR]
  have w1:IntKind.i64.wrap (k+2*(i:Int)+1)=k+2*(i:Int)+1:=wrap_i64 (by omega) (by omega)
  have w2:IntKind.i64.wrap (k+2*(i:Int)+1+1)=k+2*((i+1:Nat):Int):=by rw[wrap_i64 (by omega) (by omega)];omega
  simp only[ou,hi,cB,bQ,ig hi,o9 hi,hg,w1,w2,iM,bY,bO,kY hi (by omega)]
 ·intro L
  simp
def kT(k:Int)(ts:List bn):Nat->Int
 |0=>k
 |i+1=>kT k ts i+2+((ts.getD i aJ).2.2.1.length:Int)+2*((ts.getD i aJ).2.2.2.1.length:Int)+2
def mT(k:Int)(ts:List bn):List bn:=(List.range ts.length).map λ(i:Nat)=>(kT k ts i,kT k ts i+1,mI (kT k ts i+2) (ts.getD i aJ).2.2.1.length,mR (kT k ts i+2+((ts.getD i aJ).2.2.1.length:Int)) (ts.getD i aJ).2.2.2.1.length,kT k ts i+2+((ts.getD i aJ).2.2.1.length:Int)+2*((ts.getD i aJ).2.2.2.1.length:Int),kT k ts i+2+((ts.getD i aJ).2.2.1.length:Int)+2*((ts.getD i aJ).2.2.2.1.length:Int)+1,())
theorem Y2(k:Int)(ts:List bn):(mT k ts).length=ts.length:=by simp[mT]
theorem JJ{k:Int}{ts:List bn}(h:∀t∈ts,tJ t):∀i,i<=ts.length->k<=kT k ts i/\kT k ts i<=k+3145740*(i:Int)
 |0,_=>by simp[kT]
 |i+1,hi=>by
  have:=JJ (k:=k) h i (by omega)
  have h1:tJ (ts.getD i aJ):=by rw[getD_lt (by omega)];exact h _ (nM _)
  unfold tJ big at h1
  unfold kT
  omega
theorem amT{n:Nat}{ts:List bn}{k:Int}(hb:ts.length<=big)(h:∀t∈ts,tJ t)(hn:big<n)(h0:0<=k)(h1:k<=1048576):Gu n ts k=some (kT k ts ts.length,mT k ts,()):=by
 have hb':ts.length<=1048576:=hb
 have hl:=Y2 k ts
 unfold Gu
 refine PV (xs:=ts) (ys:=mT k ts) (K:=kT k ts) (n:=n) hl (by omega) ?_ ?_
 ·intro L i hi
  have hlen:=PZ hl (Nat.le_of_lt hi)
  have hlt:i<((mT k ts).take i++ts.drop i).length:=by omega
  have hget:=amX hl hi aJ
  have hkb:=JJ (k:=k) h i (Nat.le_of_lt hi)
  obtain⟨m1,m2⟩:=h _ (nM hi)
  have m1':(ts[i]).2.2.1.length<=1048576:=m1
  have m2':(ts[i]).2.2.2.1.length<=1048576:=m2
  have w1:IntKind.i64.wrap (kT k ts i+1)=kT k ts i+1:=wrap_i64 (by omega) (by omega)
  have w2:IntKind.i64.wrap (kT k ts i+1+1)=kT k ts i+2:=by rw[wrap_i64 (by omega) (by omega)];omega
  have w3:IntKind.i64.wrap (kT k ts i+2+((ts[i]).2.2.1.length:Int)+2*((ts[i]).2.2.2.1.length:Int)+1)=kT k ts i+2+((ts[i]).2.2.1.length:Int)+2*((ts[i]).2.2.2.1.length:Int)+1:=wrap_i64 (by omega) (by omega)
  have w4:IntKind.i64.wrap (kT k ts i+2+((ts[i]).2.2.1.length:Int)+2*((ts[i]).2.2.2.1.length:Int)+1+1)=kT k ts i+2+((ts[i]).2.2.1.length:Int)+2*((ts[i]).2.2.2.1.length:Int)+2:=by rw[wrap_i64 (by omega) (by omega)];omega
  have hs:=P5 hl hi (kT k ts i,kT k ts i+1,mI (kT k ts i+2) (ts[i]).2.2.1.length,mR (kT k ts i+2+((ts[i]).2.2.1.length:Int)) (ts[i]).2.2.2.1.length,kT k ts i+2+((ts[i]).2.2.1.length:Int)+2*((ts[i]).2.2.2.1.length:Int),kT k ts i+2+((ts[i]).2.2.1.length:Int)+2*((ts[i]).2.2.2.1.length:Int)+1,()) (by simp[mT,hi])
  have hk:kT k ts (i+1)=kT k ts i+2+((ts[i]).2.2.1.length:Int)+2*((ts[i]).2.2.2.1.length:Int)+2:=by rw[<-getD_lt hi aJ];rfl
  simp only[aaj,hlen,ou,hi,cB,bQ,ig hi,kJ,aak hlt,aoj hlt,hget,w1,w2,kY hi (by omega),amQ m1 hn (show 0<=kT k ts i+2 by omega) (by omega),amR m2 hn (show 0<=kT k ts i+2+((ts[i]).2.2.1.length:Int) by omega) (by omega),w3,w4,bf]
  rw[hk,<-hs]
  unfold gI
  rw[hget]
 ·intro L
  simp[hl]
theorem ag1{n:Nat}{ts:List bn}{k:Int}(hb:ts.length<=big)(h:∀t∈ts,tJ t)(hn:big<n)(h0:0<=k)(h1:k<=1048576):Gr n (mT k ts) k=some (kT k ts ts.length,()):=by
 have hb':ts.length<=1048576:=hb
 have hl:=Y2 k ts
 unfold Gr
 rw[<-hl]
 refine Ni (ys:=mT k ts) (K:=kT k ts) (n:=n) (by omega) ?_ ?_
 ·intro L i hi'
  have hi:i<ts.length:=by omega
  have hkb:=JJ (k:=k) h i (Nat.le_of_lt hi)
  obtain⟨m1,m2⟩:=h _ (nM hi)
  have m1':(ts[i]).2.2.1.length<=1048576:=m1
  have m2':(ts[i]).2.2.2.1.length<=1048576:=m2
  have w1:IntKind.i64.wrap (kT k ts i+1)=kT k ts i+1:=wrap_i64 (by omega) (by omega)
  have w2:IntKind.i64.wrap (kT k ts i+1+1)=kT k ts i+2:=by rw[wrap_i64 (by omega) (by omega)];omega
  have w3:IntKind.i64.wrap (kT k ts i+2+((ts[i]).2.2.1.length:Int)+2*((ts[i]).2.2.2.1.length:Int)+1)=kT k ts i+2+((ts[i]).2.2.1.length:Int)+2*((ts[i]).2.2.2.1.length:Int)+1:=wrap_i64 (by omega) (by omega)
  have w4:IntKind.i64.wrap (kT k ts i+2+((ts[i]).2.2.1.length:Int)+2*((ts[i]).2.2.2.1.length:Int)+1+1)=kT k ts i+2+((ts[i]).2.2.1.length:Int)+2*((ts[i]).2.2.2.1.length:Int)+2:=by rw[wrap_i64 (by omega) (by omega)];omega
  have hg:(mT k ts)[i]=(kT k ts i,kT k ts i+1,mI (kT k ts i+2) (ts[i]).2.2.1.length,mR (kT k ts i+2+((ts[i]).2.2.1.length:Int)) (ts[i]).2.2.2.1.length,kT k ts i+2+((ts[i]).2.2.1.length:Int)+2*((ts[i]).2.2.2.1.length:Int),kT k ts i+2+((ts[i]).2.2.1.length:Int)+2*((ts[i]).2.2.2.1.length:Int)+1,()):=by simp[mT,hi]
  have hk:kT k ts (i+1)=kT k ts i+2+((ts[i]).2.2.1.length:Int)+2*((ts[i]).2.2.2.1.length:Int)+2:=by rw[<-getD_lt hi aJ];rfl
  have n1:¬(kT k ts i+2+((ts[i]).2.2.1.length:Int)<0):=by omega
  have n2:¬(kT k ts i+2+((ts[i]).2.2.1.length:Int)+2*((ts[i]).2.2.2.1.length:Int)<0):=by omega
  simp only[ou,hi',cB,bQ,ig hi',o9 hi',hg,w1,w2,w3,w4,iM,bY,bO,agY m1 hn (show 0<=kT k ts i+2 by omega) (by omega),agZ m2 hn (show 0<=kT k ts i+2+((ts[i]).2.2.1.length:Int) by omega) (by omega),bf,kY hi' (by omega),n1,n2,dL,hk]
 ·intro L
  simp
theorem amS{n:Nat}{c:Int}{ts:List bn}(hb:ts.length<=big)(h:∀t∈ts,tJ t)(hn:big<n):Gv n (c,ts,()) 1=some (kT 1 ts ts.length,(c,mT 1 ts,()),()):=by
 unfold Gv
 simp only[amT hb h hn (show(0:Int)<=1 by omega) (by omega),bf]
theorem ag0{n:Nat}{c:Int}{ts:List bn}(hb:ts.length<=big)(h:∀t∈ts,tJ t)(hn:big<n):CL n (c,mT 1 ts,()) 1=some (kT 1 ts ts.length,())/\0<=kT 1 ts ts.length:=by
 have hk:=(JJ (k:=1) h ts.length (bT _)).1
 refine⟨?_,by omega⟩
 unfold CL
 simp only[ag1 hb h hn (show(0:Int)<=1 by omega) (by omega),bf]
 rw[aj (by rw[bN];omega)]
end Go.Proofs.YtgppmpedglhhfaaGreatDoor.Tw
