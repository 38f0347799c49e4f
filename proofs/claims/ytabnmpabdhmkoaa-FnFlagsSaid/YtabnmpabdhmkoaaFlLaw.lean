/- 'FnFlags' returns true for every input, and its arguments read behind the call as they read before. -/
import Derived.Test.YtabnmpabdhmkoaaRows
import Derived.ProofKit
import Derived.Test.YtabnmpabdhmkoaaOwF
import Derived.Test.YtabnmpabdhmkoaaFlMath
set_option linter.unusedSectionVars false
set_option linter.unusedVariables false
set_option linter.unusedSimpArgs false
namespace Go.Proofs.Ytabnmpabdhmkoaa.FlLaw
open Go Go.Proofs.Ytabnmpabdhmkoaa.Ow Go.Proofs.Ytabnmpabdhmkoaa.MV Go.Proofs.Ytabnmpabdhmkoaa
theorem own:ownKnob Try.prog.godebug=none:=by kernel_rfl
theorem gU:yQ Try.prog T iO Try.f3.params.toList:=by
 have h:=fun (t:TypeId) (k:K) (h:YT.tab.ty t=some k)=>(letI:Fr:=YM; (Mw bJ).ty t k h)
 exact ⟨h _ _ (by kernel_rfl),trivial⟩
set_option maxRecDepth 100000 in
theorem contract (H:Type) (enc:TypeId×Value→H) (W:World) (base:Nat) (args:Array Value) (ds gs:List (DataW H)) (before:List MemPlace)
  (hval:∀(j:Nat) t v, Try.f3.params[j]?=some t→args[j]?=some v→Value.okWide Try.prog W .any base t v)
  (hW:DataW.Whole enc Try.prog Try.f3.params.toList Rows.fnFlagsSpec.vars false W args.toList ds gs before) :
  Calls Try.prog 3 args W fun e W'=>∃v,e=.returned v∧Rows.fnFlagsSpec.post enc Try.prog Try.f3 false true false false W args v W':=
 CS (T:=T) (tb:=4) (N:=ym (ds++gs)) Try.func3 (by kernel_rfl) rfl gU rfl Try.underlying4 (letI:=Qc W; fun n=>yO n) (Kg.all _) rfl
  (fun ds h=>by
   match ds,h with
   | [d1],_=>rfl) hval hW (abI _)
set_option maxRecDepth 100000 in
theorem lifted (os:Os) (started:os.Started) (H:Type) (enc:TypeId×Value→H) :
  ReturnsInHanded {} Try.checked os 3 .any (Rows.fnFlagsSpec.pre6 enc Try.prog Try.f3 Rows.fnFlagsRow.domain false) (Rows.fnFlagsSpec.post enc Try.prog Try.f3 false true false false):=by
 refine returnsInHanded_of_change (C:=Try.checked) own started (by kernel_rfl) Try.func3
  (ChangeSpec.witness6 (enc:=enc) (C:=Try.checked) false ⟨#[], #[.slice none 0 0],[]⟩ 8 (by kernel_rfl) (by kernel_rfl) (by kernel_rfl) (by kernel_rfl)) ?_
 intro W base args ds gs before hval hW _ _
 exact contract H enc W base args ds gs before hval hW
theorem fnFlags_holds:Rows.FnFlagsSaid:=
 OpenClaim.holds_of_wide 3 Try.f3 rfl rfl rfl rfl rfl rfl rfl ⟨rfl,rfl,rfl,rfl,rfl⟩ rfl rfl rfl rfl rfl (by kernel_rfl) Try.func3 (by kernel_rfl)
  (of_decide_eq_true (by kernel_rfl)) (by unfold Func.isWrapper; first | (rw [if_pos (by decide +kernel)]; kernel_rfl) | (rw [if_neg (by decide +kernel)]; exact ⟨rfl,rfl⟩))
  (fun os started H enc _=>lifted os started H enc)
end Go.Proofs.Ytabnmpabdhmkoaa.FlLaw
