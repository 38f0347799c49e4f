/- 'FnExactCrashWorld' returns true for every input, and its arguments read behind the call as they read before. -/
import Derived.Test.YtdknpknohipffaaGreatRows
import Derived.ProofKit
import Derived.Test.YtdknpknohipffaaGreatOwF
import Derived.Test.YtdknpknohipffaaGreatCwMath
set_option linter.unusedSectionVars false
set_option linter.unusedVariables false
set_option linter.unusedSimpArgs false
namespace Go.Proofs.YtdknpknohipffaaGreat.CwLaw
open Go Go.Proofs.YtdknpknohipffaaGreat.Ow Go.Proofs.YtdknpknohipffaaGreat.Qq Go.Proofs.YtdknpknohipffaaGreat
theorem own:ownKnob Tryz.prog.godebug=none:=by kernel_rfl
theorem jd:KC Tryz.prog T dO Tryz.f4.params.toList:=by
 have h:=fun (t:TypeId) (k:K) (h:tyL.tab.ty t=some k)=>(letI:Fr:=amH; (UR aI).ty t k h)
 exact ⟨h _ _ (by kernel_rfl),h _ _ (by kernel_rfl),trivial⟩
set_option maxRecDepth 100000 in
theorem contract (H:Type) (enc:TypeId×Value→H) (W:World) (base:Nat) (args:Array Value) (ds gs:List (DataW H)) (before:List MemPlace)
  (hval:∀(j:Nat) t v, Tryz.f4.params[j]?=some t→args[j]?=some v→Value.okWide Tryz.prog W .any base t v)
  (hW:DataW.Whole enc Tryz.prog Tryz.f4.params.toList Rows.fnExactCrashWorldSpec.vars false W args.toList ds gs before) :
  Calls Tryz.prog 4 args W fun e W'=>∃v,e=.returned v∧Rows.fnExactCrashWorldSpec.post enc Tryz.prog Tryz.f4 false true false false W args v W':=
 PU (T:=T) (tb:=4) (N:=Jt (ds++gs)) Tryz.func4 (by kernel_rfl) rfl jd rfl Tryz.underlying4 (letI:=aea W; fun n=>yF n) (X0.all _) rfl
  (fun ds h=>by
   match ds,h with
   | [d1,d2],_=>rfl) hval hW (apu _)
set_option maxRecDepth 100000 in
theorem lifted (os:Os) (started:os.Started) (H:Type) (enc:TypeId×Value→H) :
  ReturnsInHanded {} Tryz.checked os 4 .any (Rows.fnExactCrashWorldSpec.pre6 enc Tryz.prog Tryz.f4 Rows.fnExactCrashWorldRow.domain false) (Rows.fnExactCrashWorldSpec.post enc Tryz.prog Tryz.f4 false true false false):=by
 refine returnsInHanded_of_change (C:=Tryz.checked) own started (by kernel_rfl) Tryz.func4
  (ChangeSpec.witness6 (enc:=enc) (C:=Tryz.checked) false ⟨#[], #[.agg #[.bool false, .slice none 0 0, .slice none 0 0, .int .i64 0, .slice none 0 0, .slice none 0 0], .int .i64 0],[]⟩ 8 (by kernel_rfl) (by kernel_rfl) (by kernel_rfl) (by kernel_rfl)) ?_
 intro W base args ds gs before hval hW _ _
 exact contract H enc W base args ds gs before hval hW
theorem fnExactCrashWorld_holds:Rows.FnExactCrashWorldSaid:=
 OpenClaim.holds_of_wide 4 Tryz.f4 rfl rfl rfl rfl rfl rfl rfl ⟨rfl,rfl,rfl,rfl,rfl⟩ rfl rfl rfl rfl rfl (by kernel_rfl) Tryz.func4 (by kernel_rfl)
  (of_decide_eq_true (by kernel_rfl)) (by unfold Func.isWrapper; first | (rw [if_pos (by decide +kernel)]; kernel_rfl) | (rw [if_neg (by decide +kernel)]; exact ⟨rfl,rfl⟩))
  (fun os started H enc _=>lifted os started H enc)
end Go.Proofs.YtdknpknohipffaaGreat.CwLaw
