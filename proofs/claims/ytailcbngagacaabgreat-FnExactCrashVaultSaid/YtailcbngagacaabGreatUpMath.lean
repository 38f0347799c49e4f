/- Vaults that have to be up. -/
import Derived.Test.YtailcbngagacaabGreatOwF
import Derived.Test.YtailcbngagacaabGreatLoopLib
import Derived.Test.YtailcbngagacaabGreatPackLib
import Derived.Test.YtailcbngagacaabGreatStoreMath
import Derived.Test.YtailcbngagacaabGreatOpsMath
import Derived.Test.YtailcbngagacaabGreatCodecMath
import Derived.Test.YtailcbngagacaabGreatJourMath
import Derived.Test.YtailcbngagacaabGreatVaultMath
import Derived.Test.YtailcbngagacaabGreatVResMath
import Derived.Test.YtailcbngagacaabGreatCrashF
set_option linter.unusedSectionVars false
set_option linter.unusedVariables false
set_option linter.unusedSimpArgs false
namespace Go.Proofs.YtailcbngagacaabGreat.Wn
open Go Go.Proofs.YtailcbngagacaabGreat.Ow Go.Proofs.YtailcbngagacaabGreat.rq Go.Proofs.YtailcbngagacaabGreat.om Go.Proofs.YtailcbngagacaabGreat.Ab Go.Proofs.YtailcbngagacaabGreat.jl Go.Proofs.YtailcbngagacaabGreat.mQ Go.Proofs.YtailcbngagacaabGreat.rE Go.Proofs.YtailcbngagacaabGreat.II Go.Proofs.YtailcbngagacaabGreat.CB Go.Proofs.YtailcbngagacaabGreat.IW
structure UpV (v:Gw):Prop where
 few:v.2.1.length+v.2.2.1.length≤8000
 up:v.1=true
 good:ym v.2.2.2.1
 ops:(opsV v).length≤60
theorem adG {n:Nat} {v:Gw} (h:Wj v) (hn:big<n):∃c:Int,uO n v=some (c,())∧wD n v=some (c,())∧(c=0→UpV v):=by
 obtain ⟨c,e1,e2,hc⟩:=Sr h hn
 unfold uO wD
 simp only [e1,e2,Option.bind_some]
 by_cases c0:c=0
 ·simp only [decide_eq_true c0,Bool.not_true,Bool.false_eq_true,if_false]
  cases hu:v.1 with
  | true=>exact ⟨0,rfl,rfl,fun _=>⟨(hc c0).1,hu,((hc c0).2 hu).1,((hc c0).2 hu).2⟩⟩
  | false=>exact ⟨9,rfl,rfl,fun h=>absurd h (by decide)⟩
 ·simp only [decide_eq_false c0,Bool.not_false,if_true]
  exact ⟨c,rfl,rfl,fun h=>absurd h c0⟩
end Go.Proofs.YtailcbngagacaabGreat.Wn
