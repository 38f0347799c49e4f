/- Results of vaults: equalities and marks. -/
import Derived.Test.YtdknpknohipffaaGreatOwF
import Derived.Test.YtdknpknohipffaaGreatLoopLib
import Derived.Test.YtdknpknohipffaaGreatStoreMath
import Derived.Test.YtdknpknohipffaaGreatOpsMath
import Derived.Test.YtdknpknohipffaaGreatCodecMath
import Derived.Test.YtdknpknohipffaaGreatVaultMath
import Derived.Test.YtdknpknohipffaaGreatMarkMath
import Derived.Test.YtdknpknohipffaaGreatRwF
set_option linter.unusedSectionVars false
set_option linter.unusedVariables false
set_option linter.unusedSimpArgs false
namespace Go.Proofs.YtdknpknohipffaaGreat.Et
open Go Go.Proofs.YtdknpknohipffaaGreat.Ow Go.Proofs.YtdknpknohipffaaGreat.Uf Go.Proofs.YtdknpknohipffaaGreat.nW Go.Proofs.YtdknpknohipffaaGreat.iI Go.Proofs.YtdknpknohipffaaGreat.kR Go.Proofs.YtdknpknohipffaaGreat.oQ Go.Proofs.YtdknpknohipffaaGreat.yG Go.Proofs.YtdknpknohipffaaGreat.LX
abbrev VR:=Int×List Int×K8×Unit
def Qq (c:Int):VR:=(c,[],(false,[],[],(0,[],()),()),())
structure LV (v:K8):Prop where
 s1:v.2.1.length≤big
 s2:v.2.2.1.length≤big
 st:Cy v.2.2.2.1
theorem LV.of {v:K8} (h:OKV v):LV v:=⟨h.s1,h.s2,h.st⟩
def LR (r:VR):Prop:=r.2.1.length≤big∧LV r.2.2.1
theorem Qe (c:Int):LR (Qq c):=⟨by simp [Qq,big],by simp [Qq,big],by simp [Qq,big],by simp [Qq,big],fun b hb=>absurd hb (List.not_mem_nil)⟩
theorem MQ {n:Nat} {bs:List Int} (hb:bs.length≤big) (hn:big<n):kD n bs bs=some (true,()):=by
 unfold kD
 rw [if_neg (by simp)]
 refine zl (f:=fun x y=>some (decide (x=y),())) (d:=(0:Int)) (fun L v=>rfl) (fun _ _=>by simp) hb hn
def kV (k:Int) (v:K8):Int:=kS (k+(v.2.1.length:Int)+(v.2.2.1.length:Int)) v.2.2.2.1
def mV (n:Nat) (k:Int) (v:K8):K8:=(v.1,mB k v.2.1.length,mB (k+(v.2.1.length:Int)) v.2.2.1.length,mS n (k+(v.2.1.length:Int)+(v.2.2.1.length:Int)) v.2.2.2.1,())
theorem aa1 {v:K8} {k:Int} (h:LV v) (h0:0≤k) (h1:k≤1099509530624):0≤kV k v:=by
 have h2:=h.s1
 have h3:=h.s2
 unfold big at h2 h3
 have:=Il (k:=k+(v.2.1.length:Int)+(v.2.2.1.length:Int)) h.st
 unfold kV
 omega
theorem Yt {n:Nat} {v:K8} {k:Int} (h:LV v) (hn:big<n) (h0:0≤k) (h1:k≤1099509530624):qY n v k=some (kV k v,mV n k v,()):=by
 have h2:=h.s1
 have h3:=h.s2
 unfold big at h2 h3
 unfold qY
 rw [JP h.s1 hn h0 (by omega)]
 simp only [Option.bind_some]
 rw [JP h.s2 hn (by omega) (by omega)]
 simp only [Option.bind_some]
 rw [Yr h.st hn (by omega) (by omega)]
 rfl
theorem X4 {n:Nat} {v:K8} {k:Int} (h:LV v) (hn:big<n) (h0:0≤k) (h1:k≤1099509530624):mR n (mV n k v) k=some (kV k v,()):=by
 have h2:=h.s1
 have h3:=h.s2
 unfold big at h2 h3
 have hb:=Il (k:=k+(v.2.1.length:Int)+(v.2.2.1.length:Int)) h.st
 unfold mR
 have e1:fI n (mV n k v).2.1 k=some (k+(v.2.1.length:Int),()):=JG h.s1 hn h0 (by omega)
 have e2:fI n (mV n k v).2.2.1 (k+(v.2.1.length:Int))=some (k+(v.2.1.length:Int)+(v.2.2.1.length:Int),()):=JG h.s2 hn (by omega) (by omega)
 have e3:mQ n (mV n k v).2.2.2.1 (k+(v.2.1.length:Int)+(v.2.2.1.length:Int))=some (kV k v,()):=X3 h.st hn (by omega) (by omega)
 have n1:¬(k+(v.2.1.length:Int)<0):=by omega
 have n2:¬(k+(v.2.1.length:Int)+(v.2.2.1.length:Int)<0):=by omega
 have n3:¬(kV k v<0):=by have:=aa1 h h0 h1; omega
 simp only [e1,e2,e3,Option.bind_some,n1,n2,n3,decide_false,Bool.false_eq_true,if_false]
end Go.Proofs.YtdknpknohipffaaGreat.Et
