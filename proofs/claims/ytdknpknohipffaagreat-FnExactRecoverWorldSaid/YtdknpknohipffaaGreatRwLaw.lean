/- 'FnExactRecoverWorld' returns true for every input, and its arguments read behind the call as they read before. -/
import Derived.Test.YtdknpknohipffaaGreatRows
import Derived.ProofKit
import Derived.Test.YtdknpknohipffaaGreatOwF
import Derived.Test.YtdknpknohipffaaGreatRwMath
set_option linter.unusedSectionVars false
set_option linter.unusedVariables false
set_option linter.unusedSimpArgs false
namespace Go.Proofs.YtdknpknohipffaaGreat.RwLaw
open Go Go.Proofs.YtdknpknohipffaaGreat.Ow Go.Proofs.YtdknpknohipffaaGreat.Uf Go.Proofs.YtdknpknohipffaaGreat
theorem own:ownKnob Tryz.prog.godebug=none:=by kernel_rfl
theorem ji:LZ Tryz.prog T bN Tryz.f3.params.toList:=by
 have h:=fun (t:TypeId) (k:K) (h:tyL.tab.ty t=some k)=>(letI:Fr:=ao1; (abT aI).ty t k h)
 exact ⟨h _ _ (by kernel_rfl),trivial⟩
set_option maxRecDepth 100000 in
theorem contract (H:Type) (enc:TypeId×Value→H) (W:World) (base:Nat) (args:Array Value) (ds gs:List (DataW H)) (before:List MemPlace)
  (hval:∀(j:Nat) t v, Tryz.f3.params[j]?=some t→args[j]?=some v→Value.okWide Tryz.prog W .any base t v)
  (hW:DataW.Whole enc Tryz.prog Tryz.f3.params.toList Rows.fnExactRecoverWorldSpec.vars false W args.toList ds gs before) :
  Calls Tryz.prog 3 args W fun e W'=>∃v,e=.returned v∧Rows.fnExactRecoverWorldSpec.post enc Tryz.prog Tryz.f3 false true false false W args v W':=
 QW (T:=T) (tb:=4) (N:=KO (ds++gs)) Tryz.func3 (by kernel_rfl) rfl ji rfl Tryz.underlying4 (letI:=afY W; fun n=>zb n) (Zy.all _) rfl
  (fun ds h=>by
   match ds,h with
   | [d1],_=>rfl) hval hW (Nat.le_refl _)
set_option maxRecDepth 100000 in
theorem lifted (os:Os) (started:os.Started) (H:Type) (enc:TypeId×Value→H) :
  ReturnsInHanded {} Tryz.checked os 3 .any (Rows.fnExactRecoverWorldSpec.pre6 enc Tryz.prog Tryz.f3 Rows.fnExactRecoverWorldRow.domain false) (Rows.fnExactRecoverWorldSpec.post enc Tryz.prog Tryz.f3 false true false false):=by
 refine returnsInHanded_of_change (C:=Tryz.checked) own started (by kernel_rfl) Tryz.func3
  (ChangeSpec.witness6 (enc:=enc) (C:=Tryz.checked) false ⟨#[], #[.agg #[.bool false, .slice none 0 0, .slice none 0 0, .int .i64 0, .slice none 0 0, .slice none 0 0]],[]⟩ 8 (by kernel_rfl) (by kernel_rfl) (by kernel_rfl) (by kernel_rfl)) ?_
 intro W base args ds gs before hval hW _ _
 exact contract H enc W base args ds gs before hval hW
theorem fnExactRecoverWorld_holds:Rows.FnExactRecoverWorldSaid:=
 OpenClaim.holds_of_wide 3 Tryz.f3 rfl rfl rfl rfl rfl rfl rfl ⟨rfl,rfl,rfl,rfl,rfl⟩ rfl rfl rfl rfl rfl (by kernel_rfl) Tryz.func3 (by kernel_rfl)
  (of_decide_eq_true (by kernel_rfl)) (by unfold Func.isWrapper; first | (rw [if_pos (by decide +kernel)]; kernel_rfl) | (rw [if_neg (by decide +kernel)]; exact ⟨rfl,rfl⟩))
  (fun os started H enc _=>lifted os started H enc)
end Go.Proofs.YtdknpknohipffaaGreat.RwLaw
