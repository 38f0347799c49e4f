/- 'FnExactDoVault' returns true for every input, and its arguments read behind the call as they read before. -/
import Derived.Test.YtailcbngagacaabGreatRows
import Derived.ProofKit
import Derived.Test.YtailcbngagacaabGreatOwF
import Derived.Test.YtailcbngagacaabGreatDoMath
set_option linter.unusedSectionVars false
set_option linter.unusedVariables false
set_option linter.unusedSimpArgs false
namespace Go.Proofs.YtailcbngagacaabGreat.DoLaw
open Go Go.Proofs.YtailcbngagacaabGreat.Ow Go.Proofs.YtailcbngagacaabGreat.Nr Go.Proofs.YtailcbngagacaabGreat
theorem own:ownKnob Tryz.prog.godebug=none:=by kernel_rfl
theorem jf:Jf Tryz.prog T fA Tryz.f8.params.toList:=by
 have h:=fun (t:TypeId) (k:K) (h:tyL.tab.ty t=some k)=>(letI:Fr:=alm; (Tj aJ).ty t k h)
 exact ⟨h _ _ (by kernel_rfl),h _ _ (by kernel_rfl),trivial⟩
set_option maxRecDepth 100000 in
theorem contract (H:Type) (enc:TypeId×Value→H) (W:World) (base:Nat) (args:Array Value) (ds gs:List (DataW H)) (before:List MemPlace)
  (hval:∀(j:Nat) t v, Tryz.f8.params[j]?=some t→args[j]?=some v→Value.okWide Tryz.prog W .any base t v)
  (hW:DataW.Whole enc Tryz.prog Tryz.f8.params.toList Rows.fnExactDoVaultSpec.vars false W args.toList ds gs before) :
  Calls Tryz.prog 8 args W fun e W'=>∃v,e=.returned v∧Rows.fnExactDoVaultSpec.post enc Tryz.prog Tryz.f8 false true false false W args v W':=
 Oi (T:=T) (tb:=4) (N:=Ib (ds++gs)) Tryz.func8 (by kernel_rfl) rfl jf rfl Tryz.underlying4 (letI:=acS W; fun n=>Au n) (WA.all _) rfl
  (fun ds h=>by
   match ds,h with
   | [d1,d2],_=>rfl) hval hW (aod _)
set_option maxRecDepth 100000 in
theorem lifted (os:Os) (started:os.Started) (H:Type) (enc:TypeId×Value→H) :
  ReturnsInHanded {} Tryz.checked os 8 .any (Rows.fnExactDoVaultSpec.pre6 enc Tryz.prog Tryz.f8 Rows.fnExactDoVaultRow.domain false) (Rows.fnExactDoVaultSpec.post enc Tryz.prog Tryz.f8 false true false false):=by
 refine returnsInHanded_of_change (C:=Tryz.checked) own started (by kernel_rfl) Tryz.func8
  (ChangeSpec.witness6 (enc:=enc) (C:=Tryz.checked) false ⟨#[], #[.agg #[.bool false, .slice none 0 0, .slice none 0 0, .int .i64 0, .slice none 0 0], .agg #[.int .i64 0, .string ByteArray.empty, .string ByteArray.empty, .slice none 0 0, .int .i64 0, .int .i64 0, .int .i64 0, .slice none 0 0]],[]⟩ 8 (by kernel_rfl) (by kernel_rfl) (by kernel_rfl) (by kernel_rfl)) ?_
 intro W base args ds gs before hval hW _ _
 exact contract H enc W base args ds gs before hval hW
theorem fnExactDoVault_holds:Rows.FnExactDoVaultSaid:=
 OpenClaim.holds_of_wide 8 Tryz.f8 rfl rfl rfl rfl rfl rfl rfl ⟨rfl,rfl,rfl,rfl,rfl⟩ rfl rfl rfl rfl rfl (by kernel_rfl) Tryz.func8 (by kernel_rfl)
  (of_decide_eq_true (by kernel_rfl)) (by unfold Func.isWrapper; first | (rw [if_pos (by decide +kernel)]; kernel_rfl) | (rw [if_neg (by decide +kernel)]; exact ⟨rfl,rfl⟩))
  (fun os started H enc _=>lifted os started H enc)
end Go.Proofs.YtailcbngagacaabGreat.DoLaw
