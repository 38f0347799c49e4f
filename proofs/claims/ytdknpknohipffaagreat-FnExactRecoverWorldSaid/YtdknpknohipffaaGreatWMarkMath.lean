/- Worlds as results: equalities and marks. -/
import Derived.Test.YtdknpknohipffaaGreatOwF
import Derived.Test.YtdknpknohipffaaGreatLoopLib
import Derived.Test.YtdknpknohipffaaGreatStoreMath
import Derived.Test.YtdknpknohipffaaGreatOpsMath
import Derived.Test.YtdknpknohipffaaGreatCodecMath
import Derived.Test.YtdknpknohipffaaGreatVaultMath
import Derived.Test.YtdknpknohipffaaGreatMarkMath
import Derived.Test.YtdknpknohipffaaGreatVResMath
import Derived.Test.YtdknpknohipffaaGreatWfLibMath
import Derived.Test.YtdknpknohipffaaGreatRwF
set_option linter.unusedSectionVars false
set_option linter.unusedVariables false
set_option linter.unusedSimpArgs false
namespace Go.Proofs.YtdknpknohipffaaGreat.OX
open Go Go.Proofs.YtdknpknohipffaaGreat.Ow Go.Proofs.YtdknpknohipffaaGreat.Uf Go.Proofs.YtdknpknohipffaaGreat.nW Go.Proofs.YtdknpknohipffaaGreat.iI Go.Proofs.YtdknpknohipffaaGreat.kR Go.Proofs.YtdknpknohipffaaGreat.oQ Go.Proofs.YtdknpknohipffaaGreat.yG Go.Proofs.YtdknpknohipffaaGreat.LX Go.Proofs.YtdknpknohipffaaGreat.Et Go.Proofs.YtdknpknohipffaaGreat.Ju
def Bj (k:Int) (ss:List Ry):Nat→Int
 | 0=>k
 | i+1=>Bj k ss i+3+((ss.getD i dS).2.2.1.length:Int)
def mSe (n:Nat) (k:Int) (ss:List Ry):List Ry:=(List.range ss.length).map fun (i:Nat)=>(txt n (Bj k ss i),Bj k ss i+1,mI (Bj k ss i+2) (ss.getD i dS).2.2.1.length,Bj k ss i+2+((ss.getD i dS).2.2.1.length:Int),())
theorem Nw (n:Nat) (k:Int) (ss:List Ry):(mSe n k ss).length=ss.length:=by simp [mSe]
theorem FB {k:Int} {ss:List Ry} (h:∀s∈ss,KU s):∀i,i≤ss.length→k≤Bj k ss i∧Bj k ss i≤k+1048579 * (i:Int)
 | 0,_=>by simp [Bj]
 | i+1,hi=>by
  have:=FB (k:=k) h i (by omega)
  have h1:=(h _ (dZ (xs:=ss) (k:=i) (by omega) dS)).2
  unfold big at h1
  unfold Bj
  omega
theorem Q3 {n:Nat} {ss:List Ry} {k:Int} (hb:ss.length≤big) (h:∀s∈ss,KU s) (hn:big<n) (h0:0≤k) (h1:k≤1152925902656503808):lY n ss k=some (Bj k ss ss.length,mSe n k ss,()):=by
 have hb':ss.length≤1048576:=hb
 have hn':1048576<n:=hn
 have hl:=Nw n k ss
 unfold lY
 refine Ce (xs:=ss) (ys:=mSe n k ss) (K:=Bj k ss) (n:=n) hl (by omega) ?_ ?_
 ·intro L i hi
  have hlen:=Dm hl (Nat.le_of_lt hi)
  have hlt:i<((mSe n k ss).take i++ss.drop i).length:=by omega
  have hget:=FC hl hi dS
  have hkb:=FB (k:=k) h i (Nat.le_of_lt hi)
  have hB:=(h _ (List.getElem_mem hi)).2
  have hB':(ss[i]).2.2.1.length≤1048576:=hB
  have w1:IntKind.i64.wrap (Bj k ss i+1)=Bj k ss i+1:=wrap_i64 (by omega) (by omega)
  have w2:IntKind.i64.wrap (Bj k ss i+1+1)=Bj k ss i+2:=by rw [wrap_i64 (by omega) (by omega)]; omega
  have w3:IntKind.i64.wrap (Bj k ss i+2+((ss[i]).2.2.1.length:Int)+1)=Bj k ss i+3+((ss[i]).2.2.1.length:Int):=by rw [wrap_i64 (by omega) (by omega)]; omega
  have hs:=Aq hl hi (txt n (Bj k ss i),Bj k ss i+1,mI (Bj k ss i+2) (ss[i]).2.2.1.length,Bj k ss i+2+((ss[i]).2.2.1.length:Int),()) (by simp [mSe,hi])
  have hk:Bj k ss (i+1)=Bj k ss i+3+((ss[i]).2.2.1.length:Int):=by rw [←getD_lt hi dS]; rfl
  simp only [NU,hlen,Int.ofNat_lt,hi,decide_true,if_true,aG hi,Int.toNat_natCast,GK hlt,JV hlt,hget,w1,w2,w3,aN hi (by omega),Rs (n:=n) (k:=Bj k ss i) (by omega) (by omega),Vr hB hn (show 0≤Bj k ss i+2 by omega) (by omega),Option.bind_some]
  rw [hk, ←hs]
  unfold fF
  rw [hget]
 ·intro L
  simp [hl]
theorem QJ {n:Nat} {ss:List Ry} {k:Int} (hb:ss.length≤big) (h:∀s∈ss,KU s) (hn:big<n) (h0:0≤k) (h1:k≤1152925902656503808):iX n (mSe n k ss) k=some (Bj k ss ss.length,()):=by
 have hb':ss.length≤1048576:=hb
 have hn':1048576<n:=hn
 have hl:=Nw n k ss
 unfold iX
 rw [←hl]
 refine BV (ys:=mSe n k ss) (K:=Bj k ss) (n:=n) (by omega) ?_ ?_
 ·intro L i hi'
  have hi:i<ss.length:=by omega
  have hkb:=FB (k:=k) h i (Nat.le_of_lt hi)
  have hB:=(h _ (List.getElem_mem hi)).2
  have hB':(ss[i]).2.2.1.length≤1048576:=hB
  have w1:IntKind.i64.wrap (Bj k ss i+1)=Bj k ss i+1:=wrap_i64 (by omega) (by omega)
  have w2:IntKind.i64.wrap (Bj k ss i+1+1)=Bj k ss i+2:=by rw [wrap_i64 (by omega) (by omega)]; omega
  have w3:IntKind.i64.wrap (Bj k ss i+2+((ss[i]).2.2.1.length:Int)+1)=Bj k ss i+3+((ss[i]).2.2.1.length:Int):=by rw [wrap_i64 (by omega) (by omega)]; omega
  have hg:(mSe n k ss)[i]=(txt n (Bj k ss i),Bj k ss i+1,mI (Bj k ss i+2) (ss[i]).2.2.1.length,Bj k ss i+2+((ss[i]).2.2.1.length:Int),()):=by simp [mSe,hi]
  have hk:Bj k ss (i+1)=Bj k ss i+3+((ss[i]).2.2.1.length:Int):=by rw [←getD_lt hi dS]; rfl
  have hneg:¬(Bj k ss i+2+((ss[i]).2.2.1.length:Int)<0):=by omega
  simp only [Int.ofNat_lt,hi',decide_true,if_true,aG hi',dU hi',hg,w1,w2,w3,Bool.not_true,Bool.false_eq_true,if_false,Rs (n:=n) (k:=Bj k ss i) (by omega) (by omega),Vh hB hn (show 0≤Bj k ss i+2 by omega) (by omega),Option.bind_some,aN hi' (by omega),hneg,decide_false,hk]
 ·intro L
  simp
abbrev WR:=Int×List (List Int)×Ou×Unit
structure LW (w:Ou):Prop where
 v:LV w.1
 l:w.2.1.length≤big
 s:∀s∈w.2.1,KU s
theorem LW.of {w:Ou} (h:OKW w):LW w:=⟨LV.of h.v,h.l,h.s⟩
def ZN (c:Int):WR:=(c,[],((false,[],[],(0,[],()),()),[],()),())
def LWR (r:WR):Prop:=r.2.1=[]∧LW r.2.2.1
theorem V6 (c:Int):LWR (ZN c):=⟨rfl,(Qe c).2,by simp [ZN,big],fun b hb=>absurd hb (List.not_mem_nil)⟩
theorem ajH {n:Nat} {l:List Ry} (hl:l.length≤big) (h:∀s∈l,KU s) (hn:big<n):kP n l l=some (true,()):=by
 unfold kP
 rw [if_neg (by simp)]
 refine zl (f:=jB n) (d:=dS) (xs:=l) (fun L v=>rfl) (fun x hx=>?_) hl hn
 unfold jB
 simp [Et.MQ (h x hx).2 hn]
theorem XR {n:Nat} (hn:big<n):qW n [] []=some (true,()):=by
 unfold qW
 obtain ⟨m,rfl⟩:∃m,n=m+1:=⟨n - 1,by omega⟩
 rfl
theorem afW {n:Nat} {r:WR} (h:LWR r) (hn:big<n):fH n r r=some (true,()):=by
 obtain ⟨c,l,w,_⟩:=r
 obtain ⟨hl,hw⟩:=h
 simp only at hl hw
 subst hl
 unfold fH mP qA
 simp [XR hn,Ic hw.v.s1 hn,Ic hw.v.s2 hn,Wp hw.v.st hn,ajH hw.l hw.s hn]
theorem Tx {n:Nat} (hn:big<n) (k:Int):nR n [] k=some (k,[],()):=by
 unfold nR
 obtain ⟨m,rfl⟩:∃m,n=m+1:=⟨n - 1,by omega⟩
 rfl
theorem SQ {n:Nat} (hn:big<n) (k:Int):jO n [] k=some (k,()):=by
 unfold jO
 obtain ⟨m,rfl⟩:∃m,n=m+1:=⟨n - 1,by omega⟩
 rfl
theorem aa2 {v:K8} (h:LV v):0≤kV 1 v∧kV 1 v≤1152925902656503808:=by
 have h2:=h.s1
 have h3:=h.s2
 unfold big at h2 h3
 have:=Il (k:=1+(v.2.1.length:Int)+(v.2.2.1.length:Int)) h.st
 unfold kV
 omega
def kW (w:Ou):Int:=Bj (kV 1 w.1) w.2.1 w.2.1.length
def mW (n:Nat) (w:Ou):Ou:=(mV n 1 w.1,mSe n (kV 1 w.1) w.2.1,())
theorem QU {w:Ou} (h:LW w):¬kW w<0:=by
 have h1:=aa2 h.v
 have h2:=FB (k:=kV 1 w.1) h.s _ (Nat.le_refl _)
 unfold kW
 omega
theorem Pv {n:Nat} {w:Ou} (h:LW w) (hn:big<n):mY n w 1=some (kW w,mW n w,()):=by
 have h1:=aa2 h.v
 unfold mY
 rw [Yt h.v hn (by omega) (by omega)]
 simp only [Option.bind_some]
 rw [Q3 h.l h.s hn h1.1 h1.2]
 rfl
theorem X5 {n:Nat} {w:Ou} (h:LW w) (hn:big<n):mU n (mW n w) 1=some (kW w,()):=by
 have h1:=aa2 h.v
 have n1:¬kV 1 w.1<0:=by omega
 have n2:=QU h
 unfold mU
 have e1:mR n (mW n w).1 1=some (kV 1 w.1,()):=X4 h.v hn (by omega) (by omega)
 have e2:iX n (mW n w).2.1 (kV 1 w.1)=some (kW w,()):=QJ h.l h.s hn h1.1 h1.2
 simp only [e1,e2,Option.bind_some,n1,n2,decide_false,Bool.false_eq_true,if_false]
def mWR (n:Nat) (r:WR):WR:=(r.1,[],mW n r.2.2.1,())
theorem abh {n:Nat} {r:WR} (h:LWR r) (hn:big<n):jd n r 1=some (kW r.2.2.1,mWR n r,()):=by
 unfold jd
 rw [h.1,Tx hn]
 simp only [Option.bind_some]
 rw [Pv h.2 hn]
 rfl
theorem aat {n:Nat} {r:WR} (h:LWR r) (hn:big<n):gz n (mWR n r) 1=some (kW r.2.2.1,()):=by
 have n2:=QU h.2
 unfold gz
 have e1:jO n (mWR n r).2.1 1=some (1,()):=SQ hn 1
 have e2:mU n (mWR n r).2.2.1 1=some (kW r.2.2.1,()):=X5 h.2 hn
 simp only [e1,e2,Option.bind_some,n2,decide_false,Bool.false_eq_true,if_false]
 rfl
end Go.Proofs.YtdknpknohipffaaGreat.OX
