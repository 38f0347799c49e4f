/- 'FnExactFlushVault' returns true for every input, and its arguments read behind the call as they read before. -/
import Derived.Test.YtailcbngagacaabGreatRows
import Derived.ProofKit
import Derived.Test.YtailcbngagacaabGreatOwF
import Derived.Test.YtailcbngagacaabGreatFlushMath
set_option linter.unusedSectionVars false
set_option linter.unusedVariables false
set_option linter.unusedSimpArgs false
namespace Go.Proofs.YtailcbngagacaabGreat.FlushLaw
open Go Go.Proofs.YtailcbngagacaabGreat.Ow Go.Proofs.YtailcbngagacaabGreat.ry Go.Proofs.YtailcbngagacaabGreat
theorem own:ownKnob Tryz.prog.godebug=none:=by kernel_rfl
theorem iY:IV Tryz.prog T bV Tryz.f5.params.toList:=by
 have h:=fun (t:TypeId) (k:K) (h:tyL.tab.ty t=some k)=>(letI:Fr:=alN; (Sm aK).ty t k h)
 exact ⟨h _ _ (by kernel_rfl),trivial⟩
set_option maxRecDepth 100000 in
theorem contract (H:Type) (enc:TypeId×Value→H) (W:World) (base:Nat) (args:Array Value) (ds gs:List (DataW H)) (before:List MemPlace)
  (hval:∀(j:Nat) t v, Tryz.f5.params[j]?=some t→args[j]?=some v→Value.okWide Tryz.prog W .any base t v)
  (hW:DataW.Whole enc Tryz.prog Tryz.f5.params.toList Rows.fnExactFlushVaultSpec.vars false W args.toList ds gs before) :
  Calls Tryz.prog 5 args W fun e W'=>∃v,e=.returned v∧Rows.fnExactFlushVaultSpec.post enc Tryz.prog Tryz.f5 false true false false W args v W':=
 NI (T:=T) (tb:=4) (N:=Hz (ds++gs)) Tryz.func5 (by kernel_rfl) rfl iY rfl Tryz.underlying4 (letI:=acR W; fun n=>yU n) (Lr.all _) rfl
  (fun ds h=>by
   match ds,h with
   | [d1],_=>rfl) hval hW (Nat.le_refl _)
set_option maxRecDepth 100000 in
theorem lifted (os:Os) (started:os.Started) (H:Type) (enc:TypeId×Value→H) :
  ReturnsInHanded {} Tryz.checked os 5 .any (Rows.fnExactFlushVaultSpec.pre6 enc Tryz.prog Tryz.f5 Rows.fnExactFlushVaultRow.domain false) (Rows.fnExactFlushVaultSpec.post enc Tryz.prog Tryz.f5 false true false false):=by
 refine returnsInHanded_of_change (C:=Tryz.checked) own started (by kernel_rfl) Tryz.func5
  (ChangeSpec.witness6 (enc:=enc) (C:=Tryz.checked) false ⟨#[], #[.agg #[.bool false, .slice none 0 0, .slice none 0 0, .int .i64 0, .slice none 0 0]],[]⟩ 8 (by kernel_rfl) (by kernel_rfl) (by kernel_rfl) (by kernel_rfl)) ?_
 intro W base args ds gs before hval hW _ _
 exact contract H enc W base args ds gs before hval hW
theorem fnExactFlushVault_holds:Rows.FnExactFlushVaultSaid:=
 OpenClaim.holds_of_wide 5 Tryz.f5 rfl rfl rfl rfl rfl rfl rfl ⟨rfl,rfl,rfl,rfl,rfl⟩ rfl rfl rfl rfl rfl (by kernel_rfl) Tryz.func5 (by kernel_rfl)
  (of_decide_eq_true (by kernel_rfl)) (by unfold Func.isWrapper; first | (rw [if_pos (by decide +kernel)]; kernel_rfl) | (rw [if_neg (by decide +kernel)]; exact ⟨rfl,rfl⟩))
  (fun os started H enc _=>lifted os started H enc)
end Go.Proofs.YtailcbngagacaabGreat.FlushLaw
