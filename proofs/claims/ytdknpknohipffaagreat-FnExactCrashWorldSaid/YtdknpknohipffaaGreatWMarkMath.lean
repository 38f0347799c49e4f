/- Worlds as results: equalities and marks. -/
import Derived.Test.YtdknpknohipffaaGreatOwF
import Derived.Test.YtdknpknohipffaaGreatLoopLib
import Derived.Test.YtdknpknohipffaaGreatStoreMath
import Derived.Test.YtdknpknohipffaaGreatOpsMath
import Derived.Test.YtdknpknohipffaaGreatCodecMath
import Derived.Test.YtdknpknohipffaaGreatVaultMath
import Derived.Test.YtdknpknohipffaaGreatMarkMath
import Derived.Test.YtdknpknohipffaaGreatVResMath
import Derived.Test.YtdknpknohipffaaGreatWfLibMath
import Derived.Test.YtdknpknohipffaaGreatCwF
set_option linter.unusedSectionVars false
set_option linter.unusedVariables false
set_option linter.unusedSimpArgs false
namespace Go.Proofs.YtdknpknohipffaaGreat.OY
open Go Go.Proofs.YtdknpknohipffaaGreat.Ow Go.Proofs.YtdknpknohipffaaGreat.RG Go.Proofs.YtdknpknohipffaaGreat.kN Go.Proofs.YtdknpknohipffaaGreat.gL Go.Proofs.YtdknpknohipffaaGreat.jV Go.Proofs.YtdknpknohipffaaGreat.lZ Go.Proofs.YtdknpknohipffaaGreat.wz Go.Proofs.YtdknpknohipffaaGreat.LZ Go.Proofs.YtdknpknohipffaaGreat.BO Go.Proofs.YtdknpknohipffaaGreat.JA
def Bj (k:Int) (ss:List RH):Nat→Int
 | 0=>k
 | i+1=>Bj k ss i+3+((ss.getD i dS).2.2.1.length:Int)
def mSe (n:Nat) (k:Int) (ss:List RH):List RH:=(List.range ss.length).map fun (i:Nat)=>(txt n (Bj k ss i),Bj k ss i+1,mI (Bj k ss i+2) (ss.getD i dS).2.2.1.length,Bj k ss i+2+((ss.getD i dS).2.2.1.length:Int),())
theorem Nw (n:Nat) (k:Int) (ss:List RH):(mSe n k ss).length=ss.length:=by simp [mSe]
theorem FH {k:Int} {ss:List RH} (h:∀s∈ss,NG s):∀i,i≤ss.length→k≤Bj k ss i∧Bj k ss i≤k+1048579 * (i:Int)
 | 0,_=>by simp [Bj]
 | i+1,hi=>by
  have:=FH (k:=k) h i (by omega)
  have h1:=(h _ (dZ (xs:=ss) (k:=i) (by omega) dS)).2
  unfold big at h1
  unfold Bj
  omega
theorem Q8 {n:Nat} {ss:List RH} {k:Int} (hb:ss.length≤big) (h:∀s∈ss,NG s) (hn:big<n) (h0:0≤k) (h1:k≤1152925902656503808):lQ n ss k=some (Bj k ss ss.length,mSe n k ss,()):=by
 have hb':ss.length≤1048576:=hb
 have hn':1048576<n:=hn
 have hl:=Nw n k ss
 unfold lQ
 refine Ce (xs:=ss) (ys:=mSe n k ss) (K:=Bj k ss) (n:=n) hl (by omega) ?_ ?_
 ·intro L i hi
  have hlen:=Dn hl (Nat.le_of_lt hi)
  have hlt:i<((mSe n k ss).take i++ss.drop i).length:=by omega
  have hget:=FJ hl hi dS
  have hkb:=FH (k:=k) h i (Nat.le_of_lt hi)
  have hB:=(h _ (List.getElem_mem hi)).2
  have hB':(ss[i]).2.2.1.length≤1048576:=hB
  have w1:IntKind.i64.wrap (Bj k ss i+1)=Bj k ss i+1:=wrap_i64 (by omega) (by omega)
  have w2:IntKind.i64.wrap (Bj k ss i+1+1)=Bj k ss i+2:=by rw [wrap_i64 (by omega) (by omega)]; omega
  have w3:IntKind.i64.wrap (Bj k ss i+2+((ss[i]).2.2.1.length:Int)+1)=Bj k ss i+3+((ss[i]).2.2.1.length:Int):=by rw [wrap_i64 (by omega) (by omega)]; omega
  have hs:=Ap hl hi (txt n (Bj k ss i),Bj k ss i+1,mI (Bj k ss i+2) (ss[i]).2.2.1.length,Bj k ss i+2+((ss[i]).2.2.1.length:Int),()) (by simp [mSe,hi])
  have hk:Bj k ss (i+1)=Bj k ss i+3+((ss[i]).2.2.1.length:Int):=by rw [←getD_lt hi dS]; rfl
  simp only [NV,hlen,Int.ofNat_lt,hi,decide_true,if_true,aG hi,Int.toNat_natCast,GM hlt,JY hlt,hget,w1,w2,w3,aN hi (by omega),Rz (n:=n) (k:=Bj k ss i) (by omega) (by omega),VB hB hn (show 0≤Bj k ss i+2 by omega) (by omega),Option.bind_some]
  rw [hk, ←hs]
  unfold fH
  rw [hget]
 ·intro L
  simp [hl]
theorem QT {n:Nat} {ss:List RH} {k:Int} (hb:ss.length≤big) (h:∀s∈ss,NG s) (hn:big<n) (h0:0≤k) (h1:k≤1152925902656503808):jc n (mSe n k ss) k=some (Bj k ss ss.length,()):=by
 have hb':ss.length≤1048576:=hb
 have hn':1048576<n:=hn
 have hl:=Nw n k ss
 unfold jc
 rw [←hl]
 refine BV (ys:=mSe n k ss) (K:=Bj k ss) (n:=n) (by omega) ?_ ?_
 ·intro L i hi'
  have hi:i<ss.length:=by omega
  have hkb:=FH (k:=k) h i (Nat.le_of_lt hi)
  have hB:=(h _ (List.getElem_mem hi)).2
  have hB':(ss[i]).2.2.1.length≤1048576:=hB
  have w1:IntKind.i64.wrap (Bj k ss i+1)=Bj k ss i+1:=wrap_i64 (by omega) (by omega)
  have w2:IntKind.i64.wrap (Bj k ss i+1+1)=Bj k ss i+2:=by rw [wrap_i64 (by omega) (by omega)]; omega
  have w3:IntKind.i64.wrap (Bj k ss i+2+((ss[i]).2.2.1.length:Int)+1)=Bj k ss i+3+((ss[i]).2.2.1.length:Int):=by rw [wrap_i64 (by omega) (by omega)]; omega
  have hg:(mSe n k ss)[i]=(txt n (Bj k ss i),Bj k ss i+1,mI (Bj k ss i+2) (ss[i]).2.2.1.length,Bj k ss i+2+((ss[i]).2.2.1.length:Int),()):=by simp [mSe,hi]
  have hk:Bj k ss (i+1)=Bj k ss i+3+((ss[i]).2.2.1.length:Int):=by rw [←getD_lt hi dS]; rfl
  have hneg:¬(Bj k ss i+2+((ss[i]).2.2.1.length:Int)<0):=by omega
  simp only [Int.ofNat_lt,hi',decide_true,if_true,aG hi',dR hi',hg,w1,w2,w3,Bool.not_true,Bool.false_eq_true,if_false,Rz (n:=n) (k:=Bj k ss i) (by omega) (by omega),Vo hB hn (show 0≤Bj k ss i+2 by omega) (by omega),Option.bind_some,aN hi' (by omega),hneg,decide_false,hk]
 ·intro L
  simp
abbrev WR:=Int×List (List Int)×Ou×Unit
structure LW (w:Ou):Prop where
 v:LV w.1
 l:w.2.1.length≤big
 s:∀s∈w.2.1,NG s
theorem LW.of {w:Ou} (h:OKW w):LW w:=⟨LV.of h.v,h.l,h.s⟩
def ZV (c:Int):WR:=(c,[],((false,[],[],(0,[],()),()),[],()),())
def LWR (r:WR):Prop:=r.2.1=[]∧LW r.2.2.1
theorem Wl (c:Int):LWR (ZV c):=⟨rfl,(Uw c).2,by simp [ZV,big],fun b hb=>absurd hb (List.not_mem_nil)⟩
theorem ajT {n:Nat} {l:List RH} (hl:l.length≤big) (h:∀s∈l,NG s) (hn:big<n):kK n l l=some (true,()):=by
 unfold kK
 rw [if_neg (by simp)]
 refine zh (f:=jC n) (d:=dS) (xs:=l) (fun L v=>rfl) (fun x hx=>?_) hl hn
 unfold jC
 simp [BO.MR (h x hx).2 hn]
theorem XY {n:Nat} (hn:big<n):qU n [] []=some (true,()):=by
 unfold qU
 obtain ⟨m,rfl⟩:∃m,n=m+1:=⟨n - 1,by omega⟩
 rfl
theorem af5 {n:Nat} {r:WR} (h:LWR r) (hn:big<n):fJ n r r=some (true,()):=by
 obtain ⟨c,l,w,_⟩:=r
 obtain ⟨hl,hw⟩:=h
 simp only at hl hw
 subst hl
 unfold fJ mG qA
 simp [XY hn,Ik hw.v.s1 hn,Ik hw.v.s2 hn,Wy hw.v.st hn,ajT hw.l hw.s hn]
theorem TC {n:Nat} (hn:big<n) (k:Int):nP n [] k=some (k,[],()):=by
 unfold nP
 obtain ⟨m,rfl⟩:∃m,n=m+1:=⟨n - 1,by omega⟩
 rfl
theorem S9 {n:Nat} (hn:big<n) (k:Int):jL n [] k=some (k,()):=by
 unfold jL
 obtain ⟨m,rfl⟩:∃m,n=m+1:=⟨n - 1,by omega⟩
 rfl
theorem aa8 {v:KO} (h:LV v):0≤kV 1 v∧kV 1 v≤1152925902656503808:=by
 have h2:=h.s1
 have h3:=h.s2
 unfold big at h2 h3
 have:=Iw (k:=1+(v.2.1.length:Int)+(v.2.2.1.length:Int)) h.st
 unfold kV
 omega
def kW (w:Ou):Int:=Bj (kV 1 w.1) w.2.1 w.2.1.length
def mW (n:Nat) (w:Ou):Ou:=(mV n 1 w.1,mSe n (kV 1 w.1) w.2.1,())
theorem Q3 {w:Ou} (h:LW w):¬kW w<0:=by
 have h1:=aa8 h.v
 have h2:=FH (k:=kV 1 w.1) h.s _ (Nat.le_refl _)
 unfold kW
 omega
theorem Pz {n:Nat} {w:Ou} (h:LW w) (hn:big<n):mO n w 1=some (kW w,mW n w,()):=by
 have h1:=aa8 h.v
 unfold mO
 rw [YA h.v hn (by omega) (by omega)]
 simp only [Option.bind_some]
 rw [Q8 h.l h.s hn h1.1 h1.2]
 rfl
theorem Yc {n:Nat} {w:Ou} (h:LW w) (hn:big<n):mK n (mW n w) 1=some (kW w,()):=by
 have h1:=aa8 h.v
 have n1:¬kV 1 w.1<0:=by omega
 have n2:=Q3 h
 unfold mK
 have e1:mJ n (mW n w).1 1=some (kV 1 w.1,()):=Yb h.v hn (by omega) (by omega)
 have e2:jc n (mW n w).2.1 (kV 1 w.1)=some (kW w,()):=QT h.l h.s hn h1.1 h1.2
 simp only [e1,e2,Option.bind_some,n1,n2,decide_false,Bool.false_eq_true,if_false]
def mWR (n:Nat) (r:WR):WR:=(r.1,[],mW n r.2.2.1,())
theorem abo {n:Nat} {r:WR} (h:LWR r) (hn:big<n):jf n r 1=some (kW r.2.2.1,mWR n r,()):=by
 unfold jf
 rw [h.1,TC hn]
 simp only [Option.bind_some]
 rw [Pz h.2 hn]
 rfl
theorem aaA {n:Nat} {r:WR} (h:LWR r) (hn:big<n):gD n (mWR n r) 1=some (kW r.2.2.1,()):=by
 have n2:=Q3 h.2
 unfold gD
 have e1:jL n (mWR n r).2.1 1=some (1,()):=S9 hn 1
 have e2:mK n (mWR n r).2.2.1 1=some (kW r.2.2.1,()):=Yc h.2 hn
 simp only [e1,e2,Option.bind_some,n2,decide_false,Bool.false_eq_true,if_false]
 rfl
end Go.Proofs.YtdknpknohipffaaGreat.OY
