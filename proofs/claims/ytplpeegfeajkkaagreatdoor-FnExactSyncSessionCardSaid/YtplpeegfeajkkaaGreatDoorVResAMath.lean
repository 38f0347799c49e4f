/- Results of vaults: equalities and marks. -/
import Derived.Test.YtplpeegfeajkkaaGreatDoorVResMath
namespace Go.Proofs.YtplpeegfeajkkaaGreatDoor.D_
open Go Ow nE nQ oI nS tK w9 MV
theorem R6{n:Nat}{bs:List Int}(hb:bs.length<=big)(hn:big<n):Dw n bs bs=some (true,()):=by
 unfold Dw
 rw[aC (by simp)]
 refine z8 (f:=λx y=>some (decide (x=y),())) (d:=(0:Int)) (λL v=>rfl) (λ_ _=>by simp) hb hn
def kV(k:Int)(v:l_):Int:=kS (k+(v.2.1.length:Int)+(v.2.2.1.length:Int)) v.2.2.2.1
def mV(n:Nat)(k:Int)(v:l_):l_:=(v.1,mB k v.2.1.length,mB (k+(v.2.1.length:Int)) v.2.2.1.length,mS n (k+(v.2.1.length:Int)+(v.2.2.1.length:Int)) v.2.2.2.1,())
theorem apz{v:l_}{k:Int}(h:LV v)(h0:0<=k)(h1:k<=1099509530624):0<=kV k v:=by
 have h2:=h.s1
 have h3:=h.s2
 unfold big at h2 h3
 have:=JL (k:=k+(v.2.1.length:Int)+(v.2.2.1.length:Int)) h.st
 unfold kV
 omega
theorem ab9{n:Nat}{v:l_}{k:Int}(h:LV v)(hn:big<n)(h0:0<=k)(h1:k<=1099509530624):Lv n v k=some (kV k v,mV n k v,()):=by
 have h2:=h.s1
 have h3:=h.s2
 unfold big at h2 h3
 unfold Lv
 rw[Uo h.s1 hn h0 (by omega)]
 simp only[aG]
 rw[Uo h.s2 hn (by omega) (by omega)]
 simp only[aG]
 rw[aqi h.st hn (by omega) (by omega)]
 rfl
theorem an8{n:Nat}{v:l_}{k:Int}(h:LV v)(hn:big<n)(h0:0<=k)(h1:k<=1099509530624):G9 n (mV n k v) k=some (kV k v,()):=by
 have h2:=h.s1
 have h3:=h.s2
 unfold big at h2 h3
 have hb:=JL (k:=k+(v.2.1.length:Int)+(v.2.2.1.length:Int)) h.st
 unfold G9
 have e1:zl n (mV n k v).2.1 k=some (k+(v.2.1.length:Int),()):=S_ h.s1 hn h0 (by omega)
 have e2:zl n (mV n k v).2.2.1 (k+(v.2.1.length:Int))=some (k+(v.2.1.length:Int)+(v.2.2.1.length:Int),()):=S_ h.s2 hn (by omega) (by omega)
 have e3:G7 n (mV n k v).2.2.2.1 (k+(v.2.1.length:Int)+(v.2.2.1.length:Int))=some (kV k v,()):=an6 h.st hn (by omega) (by omega)
 have n1:¬(k+(v.2.1.length:Int)<0):=by omega
 have n2:¬(k+(v.2.1.length:Int)+(v.2.2.1.length:Int)<0):=by omega
 have n3:¬(kV k v<0):=by have:=apz h h0 h1;omega
 simp only[e1,e2,e3,aG,n1,n2,n3,cO,bg,aZ]
end Go.Proofs.YtplpeegfeajkkaaGreatDoor.D_
