/- Worlds as results: equalities and marks. -/
import Derived.Test.YtdknpknohipffaaGreatOwF
import Derived.Test.YtdknpknohipffaaGreatLoopLib
import Derived.Test.YtdknpknohipffaaGreatStoreMath
import Derived.Test.YtdknpknohipffaaGreatOpsMath
import Derived.Test.YtdknpknohipffaaGreatCodecMath
import Derived.Test.YtdknpknohipffaaGreatVaultMath
import Derived.Test.YtdknpknohipffaaGreatMarkMath
import Derived.Test.YtdknpknohipffaaGreatVResMath
import Derived.Test.YtdknpknohipffaaGreatWfLibMath
import Derived.Test.YtdknpknohipffaaGreatCwF
set_option linter.unusedSectionVars false
set_option linter.unusedVariables false
set_option linter.unusedSimpArgs false
namespace Go.Proofs.YtdknpknohipffaaGreat.NG
open Go Go.Proofs.YtdknpknohipffaaGreat.Ow Go.Proofs.YtdknpknohipffaaGreat.Qq Go.Proofs.YtdknpknohipffaaGreat.kG Go.Proofs.YtdknpknohipffaaGreat.gK Go.Proofs.YtdknpknohipffaaGreat.jO Go.Proofs.YtdknpknohipffaaGreat.lD Go.Proofs.YtdknpknohipffaaGreat.tC Go.Proofs.YtdknpknohipffaaGreat.Kz Go.Proofs.YtdknpknohipffaaGreat.zf Go.Proofs.YtdknpknohipffaaGreat.Hq
def yK (k:Int) (ss:List Qr):Nat→Int
 | 0=>k
 | i+1=>yK k ss i+3+((ss.getD i dS).2.2.1.length:Int)
def ZX (n:Nat) (k:Int) (ss:List Qr):List Qr:=(List.range ss.length).map fun (i:Nat)=>(txt n (yK k ss i),yK k ss i+1,mI (yK k ss i+2) (ss.getD i dS).2.2.1.length,yK k ss i+2+((ss.getD i dS).2.2.1.length:Int),())
theorem Me (n:Nat) (k:Int) (ss:List Qr):(ZX n k ss).length=ss.length:=by simp [ZX]
theorem Da {k:Int} {ss:List Qr} (h:∀s∈ss,Mm s):∀i,i≤ss.length→k≤yK k ss i∧yK k ss i≤k+1048579 * (i:Int)
 | 0,_=>by simp [yK]
 | i+1,hi=>by
  have:=Da (k:=k) h i (by omega)
  have h1:=(h _ (dZ (xs:=ss) (k:=i) (by omega) dS)).2
  unfold big at h1
  unfold yK
  omega
theorem PY {n:Nat} {ss:List Qr} {k:Int} (hb:ss.length≤big) (h:∀s∈ss,Mm s) (hn:big<n) (h0:0≤k) (h1:k≤1152925902656503808):lq n ss k=some (yK k ss ss.length,ZX n k ss,()):=by
 have hb':ss.length≤1048576:=hb
 have hn':1048576<n:=hn
 have hl:=Me n k ss
 unfold lq
 refine zB (xs:=ss) (ys:=ZX n k ss) (K:=yK k ss) (n:=n) hl (by omega) ?_ ?_
 ·intro L i hi
  have hlen:=AL hl (Nat.le_of_lt hi)
  have hlt:i<((ZX n k ss).take i++ss.drop i).length:=by omega
  have hget:=Db hl hi dS
  have hkb:=Da (k:=k) h i (Nat.le_of_lt hi)
  have hB:=(h _ (apG hi)).2
  have hB':(ss[i]).2.2.1.length≤1048576:=hB
  have w1:IntKind.i64.wrap (yK k ss i+1)=yK k ss i+1:=wrap_i64 (by omega) (by omega)
  have w2:IntKind.i64.wrap (yK k ss i+1+1)=yK k ss i+2:=by rw [wrap_i64 (by omega) (by omega)]; omega
  have w3:IntKind.i64.wrap (yK k ss i+2+((ss[i]).2.2.1.length:Int)+1)=yK k ss i+3+((ss[i]).2.2.1.length:Int):=by rw [wrap_i64 (by omega) (by omega)]; omega
  have hs:=xW hl hi (txt n (yK k ss i),yK k ss i+1,mI (yK k ss i+2) (ss[i]).2.2.1.length,yK k ss i+2+((ss[i]).2.2.1.length:Int),()) (by simp [ZX,hi])
  have hk:yK k ss (i+1)=yK k ss i+3+((ss[i]).2.2.1.length:Int):=by rw [←getD_lt hi dS]; rfl
  simp only [MK,hlen,apE,hi,decide_true,if_true,aG hi,apn,EB hlt,Iu hlt,hget,w1,w2,w3,aN hi (by omega),Qm (n:=n) (k:=yK k ss i) (by omega) (by omega),Ux hB hn (show 0≤yK k ss i+2 by omega) (by omega),ape]
  rw [hk, ←hs]
  unfold fH
  rw [hget]
 ·intro L
  simp [hl]
theorem PK {n:Nat} {ss:List Qr} {k:Int} (hb:ss.length≤big) (h:∀s∈ss,Mm s) (hn:big<n) (h0:0≤k) (h1:k≤1152925902656503808):iV n (ZX n k ss) k=some (yK k ss ss.length,()):=by
 have hb':ss.length≤1048576:=hb
 have hn':1048576<n:=hn
 have hl:=Me n k ss
 unfold iV
 rw [←hl]
 refine zo (ys:=ZX n k ss) (K:=yK k ss) (n:=n) (by omega) ?_ ?_
 ·intro L i hi'
  have hi:i<ss.length:=by omega
  have hkb:=Da (k:=k) h i (Nat.le_of_lt hi)
  have hB:=(h _ (apG hi)).2
  have hB':(ss[i]).2.2.1.length≤1048576:=hB
  have w1:IntKind.i64.wrap (yK k ss i+1)=yK k ss i+1:=wrap_i64 (by omega) (by omega)
  have w2:IntKind.i64.wrap (yK k ss i+1+1)=yK k ss i+2:=by rw [wrap_i64 (by omega) (by omega)]; omega
  have w3:IntKind.i64.wrap (yK k ss i+2+((ss[i]).2.2.1.length:Int)+1)=yK k ss i+3+((ss[i]).2.2.1.length:Int):=by rw [wrap_i64 (by omega) (by omega)]; omega
  have hg:(ZX n k ss)[i]=(txt n (yK k ss i),yK k ss i+1,mI (yK k ss i+2) (ss[i]).2.2.1.length,yK k ss i+2+((ss[i]).2.2.1.length:Int),()):=by simp [ZX,hi]
  have hk:yK k ss (i+1)=yK k ss i+3+((ss[i]).2.2.1.length:Int):=by rw [←getD_lt hi dS]; rfl
  have hneg:¬(yK k ss i+2+((ss[i]).2.2.1.length:Int)<0):=by omega
  simp only [apE,hi',decide_true,if_true,aG hi',dR hi',hg,w1,w2,w3,apF,apg,if_false,Qm (n:=n) (k:=yK k ss i) (by omega) (by omega),Uk hB hn (show 0≤yK k ss i+2 by omega) (by omega),ape,aN hi' (by omega),hneg,decide_false,hk]
 ·intro L
  simp
abbrev WR:=Int×List (List Int)×M9×Unit
structure LW (w:M9):Prop where
 v:LV w.1
 l:w.2.1.length≤big
 s:∀s∈w.2.1,Mm s
theorem LW.of {w:M9} (h:OKW w):LW w:=⟨LV.of h.v,h.l,h.s⟩
def Yz (c:Int):WR:=(c,[],((false,[],[],(0,[],()),()),[],()),())
def LWR (r:WR):Prop:=r.2.1=[]∧LW r.2.2.1
theorem U7 (c:Int):LWR (Yz c):=⟨rfl,(Ta c).2,by simp [Yz,big],fun b hb=>absurd hb (List.not_mem_nil)⟩
theorem ahj {n:Nat} {l:List Qr} (hl:l.length≤big) (h:∀s∈l,Mm s) (hn:big<n):kE n l l=some (true,()):=by
 unfold kE
 rw [if_neg (by simp)]
 refine wI (f:=jr n) (d:=dS) (xs:=l) (fun L v=>rfl) (fun x hx=>?_) hl hn
 unfold jr
 simp [zf.Lg (h x hx).2 hn]
theorem WL {n:Nat} (hn:big<n):pR n [] []=some (true,()):=by
 unfold pR
 obtain ⟨m,rfl⟩:∃m,n=m+1:=⟨n - 1,by omega⟩
 rfl
theorem ad8 {n:Nat} {r:WR} (h:LWR r) (hn:big<n):fJ n r r=some (true,()):=by
 obtain ⟨c,l,w,_⟩:=r
 obtain ⟨hl,hw⟩:=h
 simp only at hl hw
 subst hl
 unfold fJ lK oU
 simp [WL hn,Fy hw.v.s1 hn,Fy hw.v.s2 hn,Vk hw.v.st hn,ahj hw.l hw.s hn]
theorem RZ {n:Nat} (hn:big<n) (k:Int):nk n [] k=some (k,[],()):=by
 unfold nk
 obtain ⟨m,rfl⟩:∃m,n=m+1:=⟨n - 1,by omega⟩
 rfl
theorem Ru {n:Nat} (hn:big<n) (k:Int):jF n [] k=some (k,()):=by
 unfold jF
 obtain ⟨m,rfl⟩:∃m,n=m+1:=⟨n - 1,by omega⟩
 rfl
theorem ZL {v:Jn} (h:LV v):0≤kV 1 v∧kV 1 v≤1152925902656503808:=by
 have h2:=h.s1
 have h3:=h.s2
 unfold big at h2 h3
 have:=FK (k:=1+(v.2.1.length:Int)+(v.2.2.1.length:Int)) h.st
 unfold kV
 omega
def kW (w:M9):Int:=yK (kV 1 w.1) w.2.1 w.2.1.length
def mW (n:Nat) (w:M9):M9:=(mV n 1 w.1,ZX n (kV 1 w.1) w.2.1,())
theorem PT {w:M9} (h:LW w):¬kW w<0:=by
 have h1:=ZL h.v
 have h2:=Da (k:=kV 1 w.1) h.s _ (apu _)
 unfold kW
 omega
theorem Oj {n:Nat} {w:M9} (h:LW w) (hn:big<n):lU n w 1=some (kW w,mW n w,()):=by
 have h1:=ZL h.v
 unfold lU
 rw [Xw h.v hn (by omega) (by omega)]
 simp only [ape]
 rw [PY h.l h.s hn h1.1 h1.2]
 rfl
theorem WZ {n:Nat} {w:M9} (h:LW w) (hn:big<n):lT n (mW n w) 1=some (kW w,()):=by
 have h1:=ZL h.v
 have n1:¬kV 1 w.1<0:=by omega
 have n2:=PT h
 unfold lT
 have e1:lQ n (mW n w).1 1=some (kV 1 w.1,()):=WY h.v hn (by omega) (by omega)
 have e2:iV n (mW n w).2.1 (kV 1 w.1)=some (kW w,()):=PK h.l h.s hn h1.1 h1.2
 simp only [e1,e2,ape,n1,n2,decide_false,apg,if_false]
def mWR (n:Nat) (r:WR):WR:=(r.1,[],mW n r.2.2.1,())
theorem Z0 {n:Nat} {r:WR} (h:LWR r) (hn:big<n):iX n r 1=some (kW r.2.2.1,mWR n r,()):=by
 unfold iX
 rw [h.1,RZ hn]
 simp only [ape]
 rw [Oj h.2 hn]
 rfl
theorem Zb {n:Nat} {r:WR} (h:LWR r) (hn:big<n):gB n (mWR n r) 1=some (kW r.2.2.1,()):=by
 have n2:=PT h.2
 unfold gB
 have e1:jF n (mWR n r).2.1 1=some (1,()):=Ru hn 1
 have e2:lT n (mWR n r).2.2.1 1=some (kW r.2.2.1,()):=WZ h.2 hn
 simp only [e1,e2,ape,n2,decide_false,apg,if_false]
 rfl
end Go.Proofs.YtdknpknohipffaaGreat.NG
