/- Vaults that have to be up. -/
import Derived.Test.YtailcbngagacaabGreatOwF
import Derived.Test.YtailcbngagacaabGreatLoopLib
import Derived.Test.YtailcbngagacaabGreatPackLib
import Derived.Test.YtailcbngagacaabGreatStoreMath
import Derived.Test.YtailcbngagacaabGreatOpsMath
import Derived.Test.YtailcbngagacaabGreatCodecMath
import Derived.Test.YtailcbngagacaabGreatJourMath
import Derived.Test.YtailcbngagacaabGreatVaultMath
import Derived.Test.YtailcbngagacaabGreatVResMath
import Derived.Test.YtailcbngagacaabGreatWriteF
set_option linter.unusedSectionVars false
set_option linter.unusedVariables false
set_option linter.unusedSimpArgs false
namespace Go.Proofs.YtailcbngagacaabGreat.Q4
open Go Go.Proofs.YtailcbngagacaabGreat.Ow Go.Proofs.YtailcbngagacaabGreat.oC Go.Proofs.YtailcbngagacaabGreat.kN Go.Proofs.YtailcbngagacaabGreat.wX Go.Proofs.YtailcbngagacaabGreat.gV Go.Proofs.YtailcbngagacaabGreat.jI Go.Proofs.YtailcbngagacaabGreat.kR Go.Proofs.YtailcbngagacaabGreat.Dz Go.Proofs.YtailcbngagacaabGreat.sK Go.Proofs.YtailcbngagacaabGreat.vL
structure UpV (v:Fz):Prop where
 few:v.2.1.length+v.2.2.1.length≤8000
 up:v.1=true
 good:xe v.2.2.2.1
 ops:(opsV v).length≤60
theorem adp {n:Nat} {v:Fz} (h:Wv v) (hn:big<n):∃c:Int,tC n v=some (c,())∧uT n v=some (c,())∧(c=0→UpV v):=by
 obtain ⟨c,e1,e2,hc⟩:=SQ h hn
 unfold tC uT
 simp only [e1,e2,ani]
 by_cases c0:c=0
 ·simp only [decide_eq_true c0,anK,ank,if_false]
  cases hu:v.1 with
  | true=>exact ⟨0,rfl,rfl,fun _=>⟨(hc c0).1,hu,((hc c0).2 hu).1,((hc c0).2 hu).2⟩⟩
  | false=>exact ⟨9,rfl,rfl,fun h=>absurd h (by decide)⟩
 ·simp only [decide_eq_false c0,anV,if_true]
  exact ⟨c,rfl,rfl,fun h=>absurd h c0⟩
end Go.Proofs.YtailcbngagacaabGreat.Q4
