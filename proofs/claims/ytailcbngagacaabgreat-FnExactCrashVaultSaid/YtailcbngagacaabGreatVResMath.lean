/- Results of vaults: equalities and marks. -/
import Derived.Test.YtailcbngagacaabGreatOwF
import Derived.Test.YtailcbngagacaabGreatLoopLib
import Derived.Test.YtailcbngagacaabGreatStoreMath
import Derived.Test.YtailcbngagacaabGreatOpsMath
import Derived.Test.YtailcbngagacaabGreatCodecMath
import Derived.Test.YtailcbngagacaabGreatVaultMath
import Derived.Test.YtailcbngagacaabGreatMarkMath
import Derived.Test.YtailcbngagacaabGreatCrashF
set_option linter.unusedSectionVars false
set_option linter.unusedVariables false
set_option linter.unusedSimpArgs false
namespace Go.Proofs.YtailcbngagacaabGreat.IW
open Go Go.Proofs.YtailcbngagacaabGreat.Ow Go.Proofs.YtailcbngagacaabGreat.rq Go.Proofs.YtailcbngagacaabGreat.om Go.Proofs.YtailcbngagacaabGreat.jl Go.Proofs.YtailcbngagacaabGreat.mQ Go.Proofs.YtailcbngagacaabGreat.rE Go.Proofs.YtailcbngagacaabGreat.CB Go.Proofs.YtailcbngagacaabGreat.Ou
abbrev VR:=Int×List Int×Gw×Unit
def OL (c:Int):VR:=(c,[],(false,[],[],(0,[],()),()),())
structure LV (v:Gw):Prop where
 s1:v.2.1.length≤big
 s2:v.2.2.1.length≤big
 st:AO v.2.2.2.1
theorem LV.of {v:Gw} (h:Wj v):LV v:=⟨h.s1,h.s2,h.st⟩
def LR (r:VR):Prop:=r.2.1.length≤big∧LV r.2.2.1
theorem Wh (c:Int):LR (OL c):=⟨by simp [OL,big],by simp [OL,big],by simp [OL,big],by simp [OL,big],fun b hb=>absurd hb (List.not_mem_nil)⟩
theorem WT {n:Nat} {bs:List Int} (hb:bs.length≤big) (hn:big<n):qM n bs bs=some (true,()):=by
 unfold qM
 rw [if_neg (by simp)]
 refine EC (f:=fun x y=>some (decide (x=y),())) (d:=(0:Int)) (fun L v=>rfl) (fun _ _=>by simp) hb hn
theorem af4 {n:Nat} {r:VR} (h:LR r) (hn:big<n):fF n r r=some (true,()):=by
 unfold fF kZ
 simp [WT h.1 hn,EB h.2.s1 hn,EB h.2.s2 hn,SY h.2.st hn]
def kV (k:Int) (v:Gw):Int:=kS (k+(v.2.1.length:Int)+(v.2.2.1.length:Int)) v.2.2.2.1
def mV (n:Nat) (k:Int) (v:Gw):Gw:=(v.1,mB k v.2.1.length,mB (k+(v.2.1.length:Int)) v.2.2.1.length,mS n (k+(v.2.1.length:Int)+(v.2.2.1.length:Int)) v.2.2.2.1,())
theorem EK {v:Gw} {k:Int} (h:LV v) (h0:0≤k) (h1:k≤1099509530624):0≤kV k v:=by
 have h2:=h.s1
 have h3:=h.s2
 unfold big at h2 h3
 have:=JY (k:=k+(v.2.1.length:Int)+(v.2.2.1.length:Int)) h.st
 unfold kV
 omega
theorem Mg {n:Nat} {v:Gw} {k:Int} (h:LV v) (hn:big<n) (h0:0≤k) (h1:k≤1099509530624):lC n v k=some (kV k v,mV n k v,()):=by
 have h2:=h.s1
 have h3:=h.s2
 unfold big at h2 h3
 unfold lC
 rw [Gd h.s1 hn h0 (by omega)]
 simp only [Option.bind_some]
 rw [Gd h.s2 hn (by omega) (by omega)]
 simp only [Option.bind_some]
 rw [Ve h.st hn (by omega) (by omega)]
 rfl
theorem UQ {n:Nat} {v:Gw} {k:Int} (h:LV v) (hn:big<n) (h0:0≤k) (h1:k≤1099509530624):lu n (mV n k v) k=some (kV k v,()):=by
 have h2:=h.s1
 have h3:=h.s2
 unfold big at h2 h3
 have hb:=JY (k:=k+(v.2.1.length:Int)+(v.2.2.1.length:Int)) h.st
 unfold lu
 have e1:fG n (mV n k v).2.1 k=some (k+(v.2.1.length:Int),()):=F5 h.s1 hn h0 (by omega)
 have e2:fG n (mV n k v).2.2.1 (k+(v.2.1.length:Int))=some (k+(v.2.1.length:Int)+(v.2.2.1.length:Int),()):=F5 h.s2 hn (by omega) (by omega)
 have e3:lq n (mV n k v).2.2.2.1 (k+(v.2.1.length:Int)+(v.2.2.1.length:Int))=some (kV k v,()):=UO h.st hn (by omega) (by omega)
 have n1:¬(k+(v.2.1.length:Int)<0):=by omega
 have n2:¬(k+(v.2.1.length:Int)+(v.2.2.1.length:Int)<0):=by omega
 have n3:¬(kV k v<0):=by have:=EK h h0 h1; omega
 simp only [e1,e2,e3,Option.bind_some,n1,n2,n3,decide_false,Bool.false_eq_true,if_false]
def mR (n:Nat) (r:VR):VR:=(r.1,mI 1 r.2.1.length,mV n (1+(r.2.1.length:Int)) r.2.2.1,())
theorem ZY {n:Nat} {r:VR} (h:LR r) (hn:big<n):iU n r 1=some (kV (1+(r.2.1.length:Int)) r.2.2.1,mR n r,()):=by
 have h2:=h.1
 unfold big at h2
 unfold iU
 rw [RS h.1 hn (by omega) (by omega)]
 simp only [Option.bind_some]
 rw [Mg h.2 hn (by omega) (by omega)]
 rfl
theorem ZI {n:Nat} {r:VR} (h:LR r) (hn:big<n):fZ n (mR n r) 1=some (kV (1+(r.2.1.length:Int)) r.2.2.1,()):=by
 have h2:=h.1
 unfold big at h2
 unfold fZ
 have e1:jW n (mR n r).2.1 1=some (1+(r.2.1.length:Int),()):=Rz h.1 hn (by omega) (by omega)
 have e2:lu n (mR n r).2.2.1 (1+(r.2.1.length:Int))=some (kV (1+(r.2.1.length:Int)) r.2.2.1,()):=UQ h.2 hn (by omega) (by omega)
 have n1:¬(1+(r.2.1.length:Int)<0):=by omega
 have n2:¬(kV (1+(r.2.1.length:Int)) r.2.2.1<0):=by have:=EK h.2 (k:=1+(r.2.1.length:Int)) (by omega) (by omega); omega
 simp only [e1,e2,Option.bind_some,n1,n2,decide_false,Bool.false_eq_true,if_false]
theorem adA {r:VR} (h:LR r):¬kV (1+(r.2.1.length:Int)) r.2.2.1<0:=by
 have h2:=h.1
 unfold big at h2
 have:=EK h.2 (k:=1+(r.2.1.length:Int)) (by omega) (by omega)
 omega
theorem alu {v:Gw} (h:Cc (.st (.pair .bool (.pair (.sl 5 (.int .u8)) (.pair (.sl 5 (.int .u8)) (.pair (.st (.pair (.int .i64) (.pair (.sl 0 (.st (.pair .str (.pair (.int .i64) (.pair (.int .i64) (.pair (.sl 0 (.st (.pair (.int .i64) (.pair (.int .i64) (.pair (.int .i64) (.pair (.sl 5 (.int .u8)) .unit)))))) .unit)))))) .unit))) .unit))))) v):lV v:=by
 obtain ⟨_,⟨h1,b1⟩,⟨h2,b2⟩,⟨_,⟨h3,h4⟩,_⟩,_⟩:=h
 refine ⟨⟨h1,fun x hx=>?_⟩,⟨h2,fun x hx=>?_⟩,h3,fun b hb=>?_⟩
 ·have:=b1 x hx
  simp only [Cc,H7] at this
  omega
 ·have:=b2 x hx
  simp only [Cc,H7] at this
  omega
 ·obtain ⟨⟨g1,_⟩,_,_,⟨g2,g3⟩,_⟩:=h4 b hb
  refine ⟨g1,g2,fun m hm=>?_⟩
  obtain ⟨_,_,_,⟨f1,_⟩,_⟩:=g3 m hm
  exact f1
end Go.Proofs.YtailcbngagacaabGreat.IW
