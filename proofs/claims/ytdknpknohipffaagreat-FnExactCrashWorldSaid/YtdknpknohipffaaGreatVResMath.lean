/- Results of vaults: equalities and marks. -/
import Derived.Test.YtdknpknohipffaaGreatOwF
import Derived.Test.YtdknpknohipffaaGreatLoopLib
import Derived.Test.YtdknpknohipffaaGreatStoreMath
import Derived.Test.YtdknpknohipffaaGreatOpsMath
import Derived.Test.YtdknpknohipffaaGreatCodecMath
import Derived.Test.YtdknpknohipffaaGreatVaultMath
import Derived.Test.YtdknpknohipffaaGreatMarkMath
import Derived.Test.YtdknpknohipffaaGreatCwF
set_option linter.unusedSectionVars false
set_option linter.unusedVariables false
set_option linter.unusedSimpArgs false
namespace Go.Proofs.YtdknpknohipffaaGreat.BO
open Go Go.Proofs.YtdknpknohipffaaGreat.Ow Go.Proofs.YtdknpknohipffaaGreat.RG Go.Proofs.YtdknpknohipffaaGreat.kN Go.Proofs.YtdknpknohipffaaGreat.gL Go.Proofs.YtdknpknohipffaaGreat.jV Go.Proofs.YtdknpknohipffaaGreat.lZ Go.Proofs.YtdknpknohipffaaGreat.wz Go.Proofs.YtdknpknohipffaaGreat.LZ
abbrev VR:=Int×List Int×KO×Unit
def Sj (c:Int):VR:=(c,[],(false,[],[],(0,[],()),()),())
structure LV (v:KO):Prop where
 s1:v.2.1.length≤big
 s2:v.2.2.1.length≤big
 st:Dp v.2.2.2.1
theorem LV.of {v:KO} (h:ZE v):LV v:=⟨h.s1,h.s2,h.st⟩
def LR (r:VR):Prop:=r.2.1.length≤big∧LV r.2.2.1
theorem Uw (c:Int):LR (Sj c):=⟨by simp [Sj,big],by simp [Sj,big],by simp [Sj,big],by simp [Sj,big],fun b hb=>absurd hb (List.not_mem_nil)⟩
theorem MR {n:Nat} {bs:List Int} (hb:bs.length≤big) (hn:big<n):ku n bs bs=some (true,()):=by
 unfold ku
 rw [if_neg (by simp)]
 refine zh (f:=fun x y=>some (decide (x=y),())) (d:=(0:Int)) (fun L v=>rfl) (fun _ _=>by simp) hb hn
def kV (k:Int) (v:KO):Int:=kS (k+(v.2.1.length:Int)+(v.2.2.1.length:Int)) v.2.2.2.1
def mV (n:Nat) (k:Int) (v:KO):KO:=(v.1,mB k v.2.1.length,mB (k+(v.2.1.length:Int)) v.2.2.1.length,mS n (k+(v.2.1.length:Int)+(v.2.2.1.length:Int)) v.2.2.2.1,())
theorem aa7 {v:KO} {k:Int} (h:LV v) (h0:0≤k) (h1:k≤1099509530624):0≤kV k v:=by
 have h2:=h.s1
 have h3:=h.s2
 unfold big at h2 h3
 have:=Iw (k:=k+(v.2.1.length:Int)+(v.2.2.1.length:Int)) h.st
 unfold kV
 omega
theorem YA {n:Nat} {v:KO} {k:Int} (h:LV v) (hn:big<n) (h0:0≤k) (h1:k≤1099509530624):qW n v k=some (kV k v,mV n k v,()):=by
 have h2:=h.s1
 have h3:=h.s2
 unfold big at h2 h3
 unfold qW
 rw [JS h.s1 hn h0 (by omega)]
 simp only [Option.bind_some]
 rw [JS h.s2 hn (by omega) (by omega)]
 simp only [Option.bind_some]
 rw [Yz h.st hn (by omega) (by omega)]
 rfl
theorem Yb {n:Nat} {v:KO} {k:Int} (h:LV v) (hn:big<n) (h0:0≤k) (h1:k≤1099509530624):mJ n (mV n k v) k=some (kV k v,()):=by
 have h2:=h.s1
 have h3:=h.s2
 unfold big at h2 h3
 have hb:=Iw (k:=k+(v.2.1.length:Int)+(v.2.2.1.length:Int)) h.st
 unfold mJ
 have e1:fK n (mV n k v).2.1 k=some (k+(v.2.1.length:Int),()):=JL h.s1 hn h0 (by omega)
 have e2:fK n (mV n k v).2.2.1 (k+(v.2.1.length:Int))=some (k+(v.2.1.length:Int)+(v.2.2.1.length:Int),()):=JL h.s2 hn (by omega) (by omega)
 have e3:mH n (mV n k v).2.2.2.1 (k+(v.2.1.length:Int)+(v.2.2.1.length:Int))=some (kV k v,()):=Ya h.st hn (by omega) (by omega)
 have n1:¬(k+(v.2.1.length:Int)<0):=by omega
 have n2:¬(k+(v.2.1.length:Int)+(v.2.2.1.length:Int)<0):=by omega
 have n3:¬(kV k v<0):=by have:=aa7 h h0 h1; omega
 simp only [e1,e2,e3,Option.bind_some,n1,n2,n3,decide_false,Bool.false_eq_true,if_false]
end Go.Proofs.YtdknpknohipffaaGreat.BO
