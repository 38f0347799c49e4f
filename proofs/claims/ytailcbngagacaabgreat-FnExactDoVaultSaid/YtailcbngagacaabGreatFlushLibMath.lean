/- A vault of which all is sure. -/
import Derived.Test.YtailcbngagacaabGreatOwF
import Derived.Test.YtailcbngagacaabGreatLoopLib
import Derived.Test.YtailcbngagacaabGreatStoreMath
import Derived.Test.YtailcbngagacaabGreatOpsMath
import Derived.Test.YtailcbngagacaabGreatCodecMath
import Derived.Test.YtailcbngagacaabGreatVaultMath
import Derived.Test.YtailcbngagacaabGreatVResMath
import Derived.Test.YtailcbngagacaabGreatUpMath
import Derived.Test.YtailcbngagacaabGreatConcMath
import Derived.Test.YtailcbngagacaabGreatDoF
set_option linter.unusedSectionVars false
set_option linter.unusedVariables false
set_option linter.unusedSimpArgs false
namespace Go.Proofs.YtailcbngagacaabGreat.pg
open Go Go.Proofs.YtailcbngagacaabGreat.Ow Go.Proofs.YtailcbngagacaabGreat.Nr Go.Proofs.YtailcbngagacaabGreat.jO Go.Proofs.YtailcbngagacaabGreat.gp Go.Proofs.YtailcbngagacaabGreat.jc Go.Proofs.YtailcbngagacaabGreat.jV Go.Proofs.YtailcbngagacaabGreat.qG Go.Proofs.YtailcbngagacaabGreat.uw Go.Proofs.YtailcbngagacaabGreat.NF Go.Proofs.YtailcbngagacaabGreat.OY
def J6 (v:CQ):CQ:=(true,v.2.1++v.2.2.1,[],v.2.2.2.1,())
theorem aad {n:Nat} {v:CQ} (h:LV v) (hn:big<n):qY n v=some (J6 v,()):=by
 have h1:=h.s1
 have h2:=h.s2
 unfold big at h1 h2
 unfold qY
 rw [concat (by simp) (by simp only [List.flatten_cons,List.flatten_nil,aoq,an5]; omega) hn,own h.st hn]
 simp only [anY,List.flatten_cons,List.flatten_nil,aoq]
 rfl
theorem flush {n:Nat} {v:CQ} (h:LV v) (hu:v.1=true) (hn:big<n):qo n v=some (J6 v,()):=by
 have h1:=h.s1
 have h2:=h.s2
 unfold big at h1 h2
 unfold qo oC
 rw [F8 h.s1,F8 h.s2,Kw h.st hn]
 simp only [anY]
 rw [if_pos (by omega),hu]
 rfl
end Go.Proofs.YtailcbngagacaabGreat.pg
