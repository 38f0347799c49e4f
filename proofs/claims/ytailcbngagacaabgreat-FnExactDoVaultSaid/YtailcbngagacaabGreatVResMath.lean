/- Results of vaults: equalities and marks. -/
import Derived.Test.YtailcbngagacaabGreatOwF
import Derived.Test.YtailcbngagacaabGreatLoopLib
import Derived.Test.YtailcbngagacaabGreatStoreMath
import Derived.Test.YtailcbngagacaabGreatOpsMath
import Derived.Test.YtailcbngagacaabGreatCodecMath
import Derived.Test.YtailcbngagacaabGreatVaultMath
import Derived.Test.YtailcbngagacaabGreatMarkMath
import Derived.Test.YtailcbngagacaabGreatDoF
set_option linter.unusedSectionVars false
set_option linter.unusedVariables false
set_option linter.unusedSimpArgs false
namespace Go.Proofs.YtailcbngagacaabGreat.uw
open Go Go.Proofs.YtailcbngagacaabGreat.Ow Go.Proofs.YtailcbngagacaabGreat.Nr Go.Proofs.YtailcbngagacaabGreat.jO Go.Proofs.YtailcbngagacaabGreat.gp Go.Proofs.YtailcbngagacaabGreat.jc Go.Proofs.YtailcbngagacaabGreat.jV Go.Proofs.YtailcbngagacaabGreat.qG Go.Proofs.YtailcbngagacaabGreat.DY
abbrev VR:=Int×List Int×CQ×Unit
def Jv (c:Int):VR:=(c,[],(false,[],[],(0,[],()),()),())
structure LV (v:CQ):Prop where
 s1:v.2.1.length≤big
 s2:v.2.2.1.length≤big
 st:zQ v.2.2.2.1
theorem LV.of {v:CQ} (h:WU v):LV v:=⟨h.s1,h.s2,h.st⟩
def LR (r:VR):Prop:=r.2.1.length≤big∧LV r.2.2.1
theorem NA (c:Int):LR (Jv c):=⟨by simp [Jv,big],by simp [Jv,big],by simp [Jv,big],by simp [Jv,big],fun b hb=>absurd hb (List.not_mem_nil)⟩
theorem PT {n:Nat} {bs:List Int} (hb:bs.length≤big) (hn:big<n):mZ n bs bs=some (true,()):=by
 unfold mZ
 rw [if_neg (by simp)]
 refine Ef (f:=fun x y=>some (decide (x=y),())) (d:=(0:Int)) (fun L v=>rfl) (fun _ _=>by simp) hb hn
def kV (k:Int) (v:CQ):Int:=kS (k+(v.2.1.length:Int)+(v.2.2.1.length:Int)) v.2.2.2.1
def mV (n:Nat) (k:Int) (v:CQ):CQ:=(v.1,mB k v.2.1.length,mB (k+(v.2.1.length:Int)) v.2.2.1.length,mS n (k+(v.2.1.length:Int)+(v.2.2.1.length:Int)) v.2.2.2.1,())
theorem Ku {v:CQ} {k:Int} (h:LV v) (h0:0≤k) (h1:k≤1099509530624):0≤kV k v:=by
 have h2:=h.s1
 have h3:=h.s2
 unfold big at h2 h3
 have:=Er (k:=k+(v.2.1.length:Int)+(v.2.2.1.length:Int)) h.st
 unfold kV
 omega
theorem MV {n:Nat} {v:CQ} {k:Int} (h:LV v) (hn:big<n) (h0:0≤k) (h1:k≤1099509530624):lF n v k=some (kV k v,mV n k v,()):=by
 have h2:=h.s1
 have h3:=h.s2
 unfold big at h2 h3
 unfold lF
 rw [BX h.s1 hn h0 (by omega)]
 simp only [anY]
 rw [BX h.s2 hn (by omega) (by omega)]
 simp only [anY]
 rw [VW h.st hn (by omega) (by omega)]
 rfl
theorem Vu {n:Nat} {v:CQ} {k:Int} (h:LV v) (hn:big<n) (h0:0≤k) (h1:k≤1099509530624):lD n (mV n k v) k=some (kV k v,()):=by
 have h2:=h.s1
 have h3:=h.s2
 unfold big at h2 h3
 have hb:=Er (k:=k+(v.2.1.length:Int)+(v.2.2.1.length:Int)) h.st
 unfold lD
 have e1:fZ n (mV n k v).2.1 k=some (k+(v.2.1.length:Int),()):=F3 h.s1 hn h0 (by omega)
 have e2:fZ n (mV n k v).2.2.1 (k+(v.2.1.length:Int))=some (k+(v.2.1.length:Int)+(v.2.2.1.length:Int),()):=F3 h.s2 hn (by omega) (by omega)
 have e3:lC n (mV n k v).2.2.2.1 (k+(v.2.1.length:Int)+(v.2.2.1.length:Int))=some (kV k v,()):=Vt h.st hn (by omega) (by omega)
 have n1:¬(k+(v.2.1.length:Int)<0):=by omega
 have n2:¬(k+(v.2.1.length:Int)+(v.2.2.1.length:Int)<0):=by omega
 have n3:¬(kV k v<0):=by have:=Ku h h0 h1; omega
 simp only [e1,e2,e3,anY,n1,n2,n3,decide_false,an0,if_false]
theorem alk {v:CQ} (h:yD (.st (.pair .bool (.pair (.sl 5 (.int .u8)) (.pair (.sl 5 (.int .u8)) (.pair (.st (.pair (.int .i64) (.pair (.sl 0 (.st (.pair .str (.pair (.int .i64) (.pair (.int .i64) (.pair (.sl 0 (.st (.pair (.int .i64) (.pair (.int .i64) (.pair (.int .i64) (.pair (.sl 5 (.int .u8)) .unit)))))) .unit)))))) .unit))) .unit))))) v):lV v:=by
 obtain ⟨_,⟨h1,b1⟩,⟨h2,b2⟩,⟨_,⟨h3,h4⟩,_⟩,_⟩:=h
 refine ⟨⟨h1,fun x hx=>?_⟩,⟨h2,fun x hx=>?_⟩,h3,fun b hb=>?_⟩
 ·have:=b1 x hx
  simp only [yD,G9] at this
  omega
 ·have:=b2 x hx
  simp only [yD,G9] at this
  omega
 ·obtain ⟨⟨g1,_⟩,_,_,⟨g2,g3⟩,_⟩:=h4 b hb
  refine ⟨g1,g2,fun m hm=>?_⟩
  obtain ⟨_,_,_,⟨f1,_⟩,_⟩:=g3 m hm
  exact f1
end Go.Proofs.YtailcbngagacaabGreat.uw
