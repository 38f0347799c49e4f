/- Results of vaults: equalities and marks. -/
import Derived.Test.YtailcbngagacaaaGreatOwF
import Derived.Test.YtailcbngagacaaaGreatLoopLib
import Derived.Test.YtailcbngagacaaaGreatStoreMath
import Derived.Test.YtailcbngagacaaaGreatOpsMath
import Derived.Test.YtailcbngagacaaaGreatCodecMath
import Derived.Test.YtailcbngagacaaaGreatVaultMath
import Derived.Test.YtailcbngagacaaaGreatMarkMath
import Derived.Test.YtailcbngagacaaaGreatRecF
set_option linter.unusedSectionVars false
set_option linter.unusedVariables false
set_option linter.unusedSimpArgs false
namespace Go.Proofs.YtailcbngagacaaaGreat.Oi
open Go Go.Proofs.YtailcbngagacaaaGreat.Ow Go.Proofs.YtailcbngagacaaaGreat.FD Go.Proofs.YtailcbngagacaaaGreat.qM Go.Proofs.YtailcbngagacaaaGreat.lN Go.Proofs.YtailcbngagacaaaGreat.og Go.Proofs.YtailcbngagacaaaGreat.tY Go.Proofs.YtailcbngagacaaaGreat.FH Go.Proofs.YtailcbngagacaaaGreat.Oc
abbrev VR:=Int×List Int×IM×Unit
def MV (c:Int):VR:=(c,[],(false,[],[],(0,[],()),()),())
structure LV (v:IM):Prop where
 s1:v.2.1.length≤big
 s2:v.2.2.1.length≤big
 st:Ar v.2.2.2.1
theorem LV.of {v:IM} (h:Y3 v):LV v:=⟨h.s1,h.s2,h.st⟩
def LR (r:VR):Prop:=r.2.1.length≤big∧LV r.2.2.1
theorem Qo (c:Int):LR (MV c):=⟨by simp [MV,big],by simp [MV,big],by simp [MV,big],by simp [MV,big],fun b hb=>absurd hb (List.not_mem_nil)⟩
theorem WB {n:Nat} {bs:List Int} (hb:bs.length≤big) (hn:big<n):qJ n bs bs=some (true,()):=by
 unfold qJ
 rw [if_neg (by simp)]
 refine Ep (f:=fun x y=>some (decide (x=y),())) (d:=(0:Int)) (fun L v=>rfl) (fun _ _=>by simp) hb hn
theorem afC {n:Nat} {r:VR} (h:LR r) (hn:big<n):fE n r r=some (true,()):=by
 unfold fE lq
 simp [WB h.1 hn,Eo h.2.s1 hn,Eo h.2.s2 hn,SC h.2.st hn]
def kV (k:Int) (v:IM):Int:=kS (k+(v.2.1.length:Int)+(v.2.2.1.length:Int)) v.2.2.2.1
def mV (n:Nat) (k:Int) (v:IM):IM:=(v.1,mB k v.2.1.length,mB (k+(v.2.1.length:Int)) v.2.2.1.length,mS n (k+(v.2.1.length:Int)+(v.2.2.1.length:Int)) v.2.2.2.1,())
theorem EA {v:IM} {k:Int} (h:LV v) (h0:0≤k) (h1:k≤1099509530624):0≤kV k v:=by
 have h2:=h.s1
 have h3:=h.s2
 unfold big at h2 h3
 have:=JR (k:=k+(v.2.1.length:Int)+(v.2.2.1.length:Int)) h.st
 unfold kV
 omega
theorem LX {n:Nat} {v:IM} {k:Int} (h:LV v) (hn:big<n) (h0:0≤k) (h1:k≤1099509530624):lD n v k=some (kV k v,mV n k v,()):=by
 have h2:=h.s1
 have h3:=h.s2
 unfold big at h2 h3
 unfold lD
 rw [F7 h.s1 hn h0 (by omega)]
 simp only [Option.bind_some]
 rw [F7 h.s2 hn (by omega) (by omega)]
 simp only [Option.bind_some]
 rw [U2 h.st hn (by omega) (by omega)]
 rfl
theorem UE {n:Nat} {v:IM} {k:Int} (h:LV v) (hn:big<n) (h0:0≤k) (h1:k≤1099509530624):lC n (mV n k v) k=some (kV k v,()):=by
 have h2:=h.s1
 have h3:=h.s2
 unfold big at h2 h3
 have hb:=JR (k:=k+(v.2.1.length:Int)+(v.2.2.1.length:Int)) h.st
 unfold lC
 have e1:fF n (mV n k v).2.1 k=some (k+(v.2.1.length:Int),()):=FV h.s1 hn h0 (by omega)
 have e2:fF n (mV n k v).2.2.1 (k+(v.2.1.length:Int))=some (k+(v.2.1.length:Int)+(v.2.2.1.length:Int),()):=FV h.s2 hn (by omega) (by omega)
 have e3:lu n (mV n k v).2.2.2.1 (k+(v.2.1.length:Int)+(v.2.2.1.length:Int))=some (kV k v,()):=UD h.st hn (by omega) (by omega)
 have n1:¬(k+(v.2.1.length:Int)<0):=by omega
 have n2:¬(k+(v.2.1.length:Int)+(v.2.2.1.length:Int)<0):=by omega
 have n3:¬(kV k v<0):=by have:=EA h h0 h1; omega
 simp only [e1,e2,e3,Option.bind_some,n1,n2,n3,decide_false,Bool.false_eq_true,if_false]
def mR (n:Nat) (r:VR):VR:=(r.1,mI 1 r.2.1.length,mV n (1+(r.2.1.length:Int)) r.2.2.1,())
theorem ZN {n:Nat} {r:VR} (h:LR r) (hn:big<n):iO n r 1=some (kV (1+(r.2.1.length:Int)) r.2.2.1,mR n r,()):=by
 have h2:=h.1
 unfold big at h2
 unfold iO
 rw [Ry h.1 hn (by omega) (by omega)]
 simp only [Option.bind_some]
 rw [LX h.2 hn (by omega) (by omega)]
 rfl
theorem Zx {n:Nat} {r:VR} (h:LR r) (hn:big<n):fV n (mR n r) 1=some (kV (1+(r.2.1.length:Int)) r.2.2.1,()):=by
 have h2:=h.1
 unfold big at h2
 unfold fV
 have e1:jV n (mR n r).2.1 1=some (1+(r.2.1.length:Int),()):=Ri h.1 hn (by omega) (by omega)
 have e2:lC n (mR n r).2.2.1 (1+(r.2.1.length:Int))=some (kV (1+(r.2.1.length:Int)) r.2.2.1,()):=UE h.2 hn (by omega) (by omega)
 have n1:¬(1+(r.2.1.length:Int)<0):=by omega
 have n2:¬(kV (1+(r.2.1.length:Int)) r.2.2.1<0):=by have:=EA h.2 (k:=1+(r.2.1.length:Int)) (by omega) (by omega); omega
 simp only [e1,e2,Option.bind_some,n1,n2,decide_false,Bool.false_eq_true,if_false]
theorem adf {r:VR} (h:LR r):¬kV (1+(r.2.1.length:Int)) r.2.2.1<0:=by
 have h2:=h.1
 unfold big at h2
 have:=EA h.2 (k:=1+(r.2.1.length:Int)) (by omega) (by omega)
 omega
theorem akU {v:IM} (h:BR (.st (.pair .bool (.pair (.sl 5 (.int .u8)) (.pair (.sl 5 (.int .u8)) (.pair (.st (.pair (.int .i64) (.pair (.sl 0 (.st (.pair .str (.pair (.int .i64) (.pair (.int .i64) (.pair (.sl 0 (.st (.pair (.int .i64) (.pair (.int .i64) (.pair (.int .i64) (.pair (.sl 5 (.int .u8)) .unit)))))) .unit)))))) .unit))) .unit))))) v):lV v:=by
 obtain ⟨_,⟨h1,b1⟩,⟨h2,b2⟩,⟨_,⟨h3,h4⟩,_⟩,_⟩:=h
 refine ⟨⟨h1,fun x hx=>?_⟩,⟨h2,fun x hx=>?_⟩,h3,fun b hb=>?_⟩
 ·have:=b1 x hx
  simp only [BR,Hy] at this
  omega
 ·have:=b2 x hx
  simp only [BR,Hy] at this
  omega
 ·obtain ⟨⟨g1,_⟩,_,_,⟨g2,g3⟩,_⟩:=h4 b hb
  refine ⟨g1,g2,fun m hm=>?_⟩
  obtain ⟨_,_,_,⟨f1,_⟩,_⟩:=g3 m hm
  exact f1
end Go.Proofs.YtailcbngagacaaaGreat.Oi
