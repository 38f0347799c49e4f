/- Results of vaults: equalities and marks. -/
import Derived.Test.YtdknpknohipffaaGreatOwF
import Derived.Test.YtdknpknohipffaaGreatLoopLib
import Derived.Test.YtdknpknohipffaaGreatStoreMath
import Derived.Test.YtdknpknohipffaaGreatOpsMath
import Derived.Test.YtdknpknohipffaaGreatCodecMath
import Derived.Test.YtdknpknohipffaaGreatVaultMath
import Derived.Test.YtdknpknohipffaaGreatMarkMath
import Derived.Test.YtdknpknohipffaaGreatCwF
set_option linter.unusedSectionVars false
set_option linter.unusedVariables false
set_option linter.unusedSimpArgs false
namespace Go.Proofs.YtdknpknohipffaaGreat.zf
open Go Go.Proofs.YtdknpknohipffaaGreat.Ow Go.Proofs.YtdknpknohipffaaGreat.Qq Go.Proofs.YtdknpknohipffaaGreat.kG Go.Proofs.YtdknpknohipffaaGreat.gK Go.Proofs.YtdknpknohipffaaGreat.jO Go.Proofs.YtdknpknohipffaaGreat.lD Go.Proofs.YtdknpknohipffaaGreat.tC Go.Proofs.YtdknpknohipffaaGreat.Kz
abbrev VR:=Int×List Int×Jn×Unit
def QT (c:Int):VR:=(c,[],(false,[],[],(0,[],()),()),())
structure LV (v:Jn):Prop where
 s1:v.2.1.length≤big
 s2:v.2.2.1.length≤big
 st:AO v.2.2.2.1
theorem LV.of {v:Jn} (h:Yi v):LV v:=⟨h.s1,h.s2,h.st⟩
def LR (r:VR):Prop:=r.2.1.length≤big∧LV r.2.2.1
theorem Ta (c:Int):LR (QT c):=⟨by simp [QT,big],by simp [QT,big],by simp [QT,big],by simp [QT,big],fun b hb=>absurd hb (List.not_mem_nil)⟩
theorem Lg {n:Nat} {bs:List Int} (hb:bs.length≤big) (hn:big<n):jZ n bs bs=some (true,()):=by
 unfold jZ
 rw [if_neg (by simp)]
 refine wI (f:=fun x y=>some (decide (x=y),())) (d:=(0:Int)) (fun L v=>rfl) (fun _ _=>by simp) hb hn
def kV (k:Int) (v:Jn):Int:=kS (k+(v.2.1.length:Int)+(v.2.2.1.length:Int)) v.2.2.2.1
def mV (n:Nat) (k:Int) (v:Jn):Jn:=(v.1,mB k v.2.1.length,mB (k+(v.2.1.length:Int)) v.2.2.1.length,mS n (k+(v.2.1.length:Int)+(v.2.2.1.length:Int)) v.2.2.2.1,())
theorem ZK {v:Jn} {k:Int} (h:LV v) (h0:0≤k) (h1:k≤1099509530624):0≤kV k v:=by
 have h2:=h.s1
 have h3:=h.s2
 unfold big at h2 h3
 have:=FK (k:=k+(v.2.1.length:Int)+(v.2.2.1.length:Int)) h.st
 unfold kV
 omega
theorem Xw {n:Nat} {v:Jn} {k:Int} (h:LV v) (hn:big<n) (h0:0≤k) (h1:k≤1099509530624):pV n v k=some (kV k v,mV n k v,()):=by
 have h2:=h.s1
 have h3:=h.s2
 unfold big at h2 h3
 unfold pV
 rw [Ig h.s1 hn h0 (by omega)]
 simp only [ape]
 rw [Ig h.s2 hn (by omega) (by omega)]
 simp only [ape]
 rw [Xv h.st hn (by omega) (by omega)]
 rfl
theorem WY {n:Nat} {v:Jn} {k:Int} (h:LV v) (hn:big<n) (h0:0≤k) (h1:k≤1099509530624):lQ n (mV n k v) k=some (kV k v,()):=by
 have h2:=h.s1
 have h3:=h.s2
 unfold big at h2 h3
 have hb:=FK (k:=k+(v.2.1.length:Int)+(v.2.2.1.length:Int)) h.st
 unfold lQ
 have e1:fK n (mV n k v).2.1 k=some (k+(v.2.1.length:Int),()):=H7 h.s1 hn h0 (by omega)
 have e2:fK n (mV n k v).2.2.1 (k+(v.2.1.length:Int))=some (k+(v.2.1.length:Int)+(v.2.2.1.length:Int),()):=H7 h.s2 hn (by omega) (by omega)
 have e3:lN n (mV n k v).2.2.2.1 (k+(v.2.1.length:Int)+(v.2.2.1.length:Int))=some (kV k v,()):=WX h.st hn (by omega) (by omega)
 have n1:¬(k+(v.2.1.length:Int)<0):=by omega
 have n2:¬(k+(v.2.1.length:Int)+(v.2.2.1.length:Int)<0):=by omega
 have n3:¬(kV k v<0):=by have:=ZK h h0 h1; omega
 simp only [e1,e2,e3,ape,n1,n2,n3,decide_false,apg,if_false]
end Go.Proofs.YtdknpknohipffaaGreat.zf
