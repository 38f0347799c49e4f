/- Vaults that have to be up. -/
import Derived.Test.YtdknpknohipffaaGreatOwF
import Derived.Test.YtdknpknohipffaaGreatLoopLib
import Derived.Test.YtdknpknohipffaaGreatPackLib
import Derived.Test.YtdknpknohipffaaGreatStoreMath
import Derived.Test.YtdknpknohipffaaGreatOpsMath
import Derived.Test.YtdknpknohipffaaGreatCodecMath
import Derived.Test.YtdknpknohipffaaGreatJourMath
import Derived.Test.YtdknpknohipffaaGreatVaultMath
import Derived.Test.YtdknpknohipffaaGreatVResMath
import Derived.Test.YtdknpknohipffaaGreatCwF
set_option linter.unusedSectionVars false
set_option linter.unusedVariables false
set_option linter.unusedSimpArgs false
namespace Go.Proofs.YtdknpknohipffaaGreat.Yl
open Go Go.Proofs.YtdknpknohipffaaGreat.Ow Go.Proofs.YtdknpknohipffaaGreat.Qq Go.Proofs.YtdknpknohipffaaGreat.kG Go.Proofs.YtdknpknohipffaaGreat.Ab Go.Proofs.YtdknpknohipffaaGreat.gK Go.Proofs.YtdknpknohipffaaGreat.jO Go.Proofs.YtdknpknohipffaaGreat.lD Go.Proofs.YtdknpknohipffaaGreat.Ko Go.Proofs.YtdknpknohipffaaGreat.tC Go.Proofs.YtdknpknohipffaaGreat.zf
structure UpV (v:Jn):Prop where
 few:v.2.1.length+v.2.2.1.length≤8000
 up:v.1=true
 good:xS v.2.2.2.1
 ops:(opsV v).length≤60
theorem ae8 {n:Nat} {v:Jn} (h:Yi v) (hn:big<n):∃c:Int,ug n v=some (c,())∧vK n v=some (c,())∧(c=0→UpV v):=by
 obtain ⟨c,e1,e2,hc⟩:=EG h hn
 unfold ug vK
 simp only [e1,e2,ape]
 by_cases c0:c=0
 ·simp only [decide_eq_true c0,apF,apg,if_false]
  cases hu:v.1 with
  | true=>exact ⟨0,rfl,rfl,fun _=>⟨(hc c0).1,hu,((hc c0).2 hu).1,((hc c0).2 hu).2⟩⟩
  | false=>exact ⟨9,rfl,rfl,fun h=>absurd h (by decide)⟩
 ·simp only [decide_eq_false c0,apQ,if_true]
  exact ⟨c,rfl,rfl,fun h=>absurd h c0⟩
end Go.Proofs.YtdknpknohipffaaGreat.Yl
