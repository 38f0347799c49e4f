/- 'FnExactApplyOp' returns true for every input, and its arguments read behind the call as they read before. -/
import Derived.Test.YtailcbngagacaaaRows
import Derived.ProofKit
import Derived.Test.YtailcbngagacaaaOwF
import Derived.Test.YtailcbngagacaaaApplyMath
set_option linter.unusedSectionVars false
set_option linter.unusedVariables false
set_option linter.unusedSimpArgs false
namespace Go.Proofs.Ytailcbngagacaaa.ApplyLaw
open Go Go.Proofs.Ytailcbngagacaaa.Ow Go.Proofs.Ytailcbngagacaaa.ApplyF Go.Proofs.Ytailcbngagacaaa

theorem own : ownKnob Try.prog.godebug = none := by kernel_rfl

theorem pars : ParsTy Try.prog T ps_laws_FnExactApplyOp Try.f3.params.toList := by
  have h := fun (t : TypeId) (k : K) (h : tyL.tab.ty t = some k) => (letI : Fr := noFr; (tab_ok tabOk).ty t k h)
  exact ⟨h _ _ (by kernel_rfl), h _ _ (by kernel_rfl), trivial⟩

set_option maxRecDepth 100000 in
theorem contract (H : Type) (enc : TypeId × Value → H) (W : World) (base : Nat) (args : Array Value) (ds gs : List (DataW H)) (before : List MemPlace)
    (hval : ∀ (j : Nat) t v, Try.f3.params[j]? = some t → args[j]? = some v → Value.okWide Try.prog W .any base t v)
    (hW : DataW.Whole enc Try.prog Try.f3.params.toList Rows.fnExactApplyOpSpec.vars false W args.toList ds gs before) :
    Calls Try.prog 3 args W fun e W' => ∃ v, e = .returned v ∧ Rows.fnExactApplyOpSpec.post enc Try.prog Try.f3 false true false false W args v W' :=
  law_contract (T := T) (tb := 4) (N := dszL (ds ++ gs)) Try.func3 (by kernel_rfl) rfl pars rfl Try.underlying4 (letI := frOf W; fun n => K_laws_FnExactApplyOp n) (ApplyMath.all _) rfl
    (fun ds h => by
      match ds, h with
      | [d1, d2], _ => rfl) hval hW (Nat.le_refl _)

set_option maxRecDepth 100000 in
theorem lifted (os : Os) (started : os.Started) (H : Type) (enc : TypeId × Value → H) :
    ReturnsInHanded {} Try.checked os 3 .any (Rows.fnExactApplyOpSpec.pre6 enc Try.prog Try.f3 Rows.fnExactApplyOpRow.domain false) (Rows.fnExactApplyOpSpec.post enc Try.prog Try.f3 false true false false) := by
  refine returnsInHanded_of_change (C := Try.checked) own started (by kernel_rfl) Try.func3
    (ChangeSpec.witness6 (enc := enc) (C := Try.checked) false ⟨#[], #[.agg #[.int .i64 0, .slice none 0 0], .agg #[.int .i64 0, .string ByteArray.empty, .string ByteArray.empty, .slice none 0 0, .int .i64 0, .int .i64 0, .int .i64 0, .slice none 0 0]], []⟩ 8 (by kernel_rfl) (by kernel_rfl) (by kernel_rfl) (by kernel_rfl)) ?_
  intro W base args ds gs before hval hW _ _
  exact contract H enc W base args ds gs before hval hW

theorem fnExactApplyOp_holds : Rows.FnExactApplyOpSaid :=
  OpenClaim.holds_of_wide 3 Try.f3 rfl rfl rfl rfl rfl rfl rfl ⟨rfl, rfl, rfl, rfl, rfl⟩ rfl rfl rfl rfl rfl (by kernel_rfl) Try.func3 (by kernel_rfl)
    (of_decide_eq_true (by kernel_rfl)) (by unfold Func.isWrapper; first | (rw [if_pos (by decide +kernel)]; kernel_rfl) | (rw [if_neg (by decide +kernel)]; exact ⟨rfl, rfl⟩))
    (fun os started H enc _ => lifted os started H enc)

end Go.Proofs.Ytailcbngagacaaa.ApplyLaw
