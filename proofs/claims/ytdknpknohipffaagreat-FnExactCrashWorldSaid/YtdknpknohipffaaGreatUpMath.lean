/- Vaults that have to be up. -/
import Derived.Test.YtdknpknohipffaaGreatOwF
import Derived.Test.YtdknpknohipffaaGreatLoopLib
import Derived.Test.YtdknpknohipffaaGreatPackLib
import Derived.Test.YtdknpknohipffaaGreatStoreMath
import Derived.Test.YtdknpknohipffaaGreatOpsMath
import Derived.Test.YtdknpknohipffaaGreatCodecMath
import Derived.Test.YtdknpknohipffaaGreatJourMath
import Derived.Test.YtdknpknohipffaaGreatVaultMath
import Derived.Test.YtdknpknohipffaaGreatVResMath
import Derived.Test.YtdknpknohipffaaGreatCwF
set_option linter.unusedSectionVars false
set_option linter.unusedVariables false
set_option linter.unusedSimpArgs false
namespace Go.Proofs.YtdknpknohipffaaGreat.ZH
open Go Go.Proofs.YtdknpknohipffaaGreat.Ow Go.Proofs.YtdknpknohipffaaGreat.RG Go.Proofs.YtdknpknohipffaaGreat.kN Go.Proofs.YtdknpknohipffaaGreat.CO Go.Proofs.YtdknpknohipffaaGreat.gL Go.Proofs.YtdknpknohipffaaGreat.jV Go.Proofs.YtdknpknohipffaaGreat.lZ Go.Proofs.YtdknpknohipffaaGreat.LJ Go.Proofs.YtdknpknohipffaaGreat.wz Go.Proofs.YtdknpknohipffaaGreat.BO
structure UpV (v:KO):Prop where
 few:v.2.1.length+v.2.2.1.length≤8000
 up:v.1=true
 good:Al v.2.2.2.1
 ops:(opsV v).length≤60
theorem ag7 {n:Nat} {v:KO} (h:ZE v) (hn:big<n):∃c:Int,wP n v=some (c,())∧yA n v=some (c,())∧(c=0→UpV v):=by
 obtain ⟨c,e1,e2,hc⟩:=GV h hn
 unfold wP yA
 simp only [e1,e2,Option.bind_some]
 by_cases c0:c=0
 ·simp only [decide_eq_true c0,Bool.not_true,Bool.false_eq_true,if_false]
  cases hu:v.1 with
  | true=>exact ⟨0,rfl,rfl,fun _=>⟨(hc c0).1,hu,((hc c0).2 hu).1,((hc c0).2 hu).2⟩⟩
  | false=>exact ⟨9,rfl,rfl,fun h=>absurd h (by decide)⟩
 ·simp only [decide_eq_false c0,Bool.not_false,if_true]
  exact ⟨c,rfl,rfl,fun h=>absurd h c0⟩
end Go.Proofs.YtdknpknohipffaaGreat.ZH
