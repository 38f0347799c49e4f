/- Ops as arguments: sizes, copies, equalities, marks. -/
import Derived.Test.YtailcbngagacaabGreatOwF
import Derived.Test.YtailcbngagacaabGreatLoopLib
import Derived.Test.YtailcbngagacaabGreatStoreMath
import Derived.Test.YtailcbngagacaabGreatOpsMath
import Derived.Test.YtailcbngagacaabGreatCodecMath
import Derived.Test.YtailcbngagacaabGreatMarkMath
import Derived.Test.YtailcbngagacaabGreatVResMath
import Derived.Test.YtailcbngagacaabGreatDoF
set_option linter.unusedSectionVars false
set_option linter.unusedVariables false
set_option linter.unusedSimpArgs false
namespace Go.Proofs.YtailcbngagacaabGreat.Mj
open Go Go.Proofs.YtailcbngagacaabGreat.Ow Go.Proofs.YtailcbngagacaabGreat.Nr Go.Proofs.YtailcbngagacaabGreat.jO Go.Proofs.YtailcbngagacaabGreat.gp Go.Proofs.YtailcbngagacaabGreat.jc Go.Proofs.YtailcbngagacaabGreat.jV Go.Proofs.YtailcbngagacaabGreat.DY Go.Proofs.YtailcbngagacaabGreat.uw
def lO (o:OpC):Prop:=o.2.1.length≤9223372036854775807∧o.2.2.1.length≤9223372036854775807∧o.2.2.2.1.length≤9223372036854775807∧o.2.2.2.2.2.2.2.1.length≤9223372036854775807∧qc o.2.2.2.2.2.2.2.1
theorem Ze {n:Nat} {bs:List Int} (hl:bs.length≤9223372036854775807) {k:Int} (h1:0≤k) (h2:k≤1048576):∃r,uO n bs k=some (r,())∧(r<0∨(r≤k∧bs.length≤big)):=EZ (n:=n) hl h1 h2
theorem alu {n:Nat} {o:OpC} (hl:lO o) {k:Int} (h1:0≤k) (h2:k≤1048576):∃r,w9 n o k=some (r,())∧(r<0∨okO o):=by
 obtain ⟨l1,l2,l3,l4,_⟩:=hl
 unfold w9
 rw [wrap_i64 (x:=k - (o.2.1.length:Int)) (by omega) (by omega)]
 by_cases c1:k - (o.2.1.length:Int)<0
 ·exact ⟨-1,by simp [c1], .inl (by omega)⟩
 ·rw [wrap_i64 (x:=k - (o.2.1.length:Int) - (o.2.2.1.length:Int)) (by omega) (by omega)]
  simp only [c1,decide_false,an0,if_false]
  by_cases c2:k - (o.2.1.length:Int) - (o.2.2.1.length:Int)<0
  ·exact ⟨-1,by simp [c2], .inl (by omega)⟩
  ·obtain ⟨r1,g1,g2⟩:=Ze (n:=n) l3 (k:=k - (o.2.1.length:Int) - (o.2.2.1.length:Int)) (by omega) (by omega)
   simp only [c2,decide_false,an0,if_false,g1,anY]
   by_cases c3:r1<0
   ·exact ⟨-1,by simp [c3], .inl (by omega)⟩
   ·have g2:r1≤k - (o.2.1.length:Int) - (o.2.2.1.length:Int)∧o.2.2.2.1.length≤big:=g2.resolve_left c3
    obtain ⟨r2,e1,e2⟩:=EZ (n:=n) l4 (k:=r1) (by omega) (by omega)
    simp only [c3,decide_false,an0,if_false,e1,anY]
    by_cases c4:r2<0
    ·exact ⟨-1,by simp [c4], .inl (by omega)⟩
    ·have e2:=e2.resolve_left c4
     refine ⟨r2,by simp [c4], .inr ⟨?_, ?_,g2.2,e2.2⟩⟩
     ·unfold big; omega
     ·unfold big; omega
theorem Zg {n:Nat} {bs:List Int} (hb:bs.length≤big) (hn:big<n):ql n bs=some (bs,()):=by
 have hb':=hb
 unfold big at hb
 unfold ql
 rw [if_pos (by omega)]
 exact BN (f:=fun x=>some (x,())) (d:=(0:Int)) (fun L v=>rfl) (fun _ _=>rfl) hb' hn
theorem alv {n:Nat} {o:OpC} (h:okO o) (hn:big<n):ou n o=some (o,()):=by
 unfold ou
 rw [Zg h.2.2.1 hn]
 simp only [anY]
 rw [IV h.2.2.2 hn]
 rfl
theorem aj4 {n:Nat} {o:OpC} (h:okO o) (hn:big<n):wZ n o o=some (true,()):=by
 unfold wZ
 simp [PT h.2.2.1 hn,BO h.2.2.2 hn]
theorem adF {n:Nat} {o:OpC} {k:Int} (h:okO o) (hn:big<n) (h0:0≤k) (h1:k≤1152925902656503808):∃x y,tT n o k=some (x,y,())∧0≤x:=by
 have h2:=h.2.2.1
 have h3:=h.2.2.2
 unfold big at h2 h3
 unfold tT
 rw [KD h.2.2.1 hn h0 (by omega)]
 simp only [anY]
 rw [BX h.2.2.2 hn (by omega) (by omega)]
 exact ⟨_,_,rfl,by omega⟩
theorem agX {v:qG.CQ} (h:LV v):0≤kV 1 v∧kV 1 v≤1152925902656503808:=by
 have h2:=h.s1
 have h3:=h.s2
 unfold big at h2 h3
 have:=Er (k:=1+(v.2.1.length:Int)+(v.2.2.1.length:Int)) h.st
 unfold kV
 omega
theorem alj {o:OpC} (h:yD (.st (.pair (.int .i64) (.pair .str (.pair .str (.pair (.sl 0 (.int .i64)) (.pair (.int .i64) (.pair (.int .i64) (.pair (.int .i64) (.pair (.sl 0 (.int .u8)) .unit))))))))) o):lO o:=by
 obtain ⟨_,⟨h1,_⟩,⟨h2,_⟩,⟨h3,_⟩,_,_,_,⟨h4,b4⟩,_⟩:=h
 refine ⟨h1,h2,h3,h4,fun x hx=>?_⟩
 have:=b4 x hx
 simp only [yD,G9] at this
 omega
end Go.Proofs.YtailcbngagacaabGreat.Mj
