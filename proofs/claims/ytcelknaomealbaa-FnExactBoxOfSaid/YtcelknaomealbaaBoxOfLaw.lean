/- 'FnExactBoxOf' returns true for every input, and its arguments read behind the call as they read before. -/
import Derived.Test.YtcelknaomealbaaRows
import Derived.ProofKit
import Derived.Test.YtcelknaomealbaaOwE
import Derived.Test.YtcelknaomealbaaBoxOfMath
set_option linter.unusedSectionVars false
set_option linter.unusedVariables false
set_option linter.unusedSimpArgs false
namespace Go.Proofs.Ytcelknaomealbaa.BoxOfLaw
open Go Go.Proofs.Ytcelknaomealbaa.Ow Go.Proofs.Ytcelknaomealbaa.BoxOfF

theorem own : ownKnob Try.prog.godebug = none := by kernel_rfl

theorem pars : ParsTy Try.prog T ps_laws_FnExactBoxOf Try.f4.params.toList := by
  have h := fun (t : TypeId) (k : K) (h : tyL.tab.ty t = some k) => (letI : Fr := ⟨fun _ => False⟩; (tab_ok tabOk).ty t k h)
  exact ⟨h _ _ (by kernel_rfl), h _ _ (by kernel_rfl), trivial⟩

theorem math : ∀ (N : Nat) (c : Cont (kin ps_laws_FnExactBoxOf)), lenC ps_laws_FnExactBoxOf c → szC ps_laws_FnExactBoxOf c ≤ N → ∃ n out, E_laws_FnExactBoxOf.F n c = some out ∧ out.1 = true := by
  intro N c hl _
  obtain ⟨⟨_, ⟨hb, hbs⟩, _⟩, hn, _⟩ := hl
  refine ⟨1048577, (true, ()), BoxOfMath.law (s := c.1) (nm := c.2.1) ⟨hb, fun b hb => ?_⟩, rfl⟩
  obtain ⟨h1, _, _, ⟨h2, h3⟩, _⟩ := hbs b hb
  refine ⟨h1, h2, fun m hm => ?_⟩
  obtain ⟨_, _, _, ⟨h4, _⟩, _⟩ := h3 m hm
  exact h4

set_option maxRecDepth 100000 in
theorem contract (H : Type) (enc : TypeId × Value → H) (W : World) (base : Nat) (args : Array Value) (ds gs : List (DataW H)) (before : List MemPlace)
    (hval : ∀ (j : Nat) t v, Try.f4.params[j]? = some t → args[j]? = some v → Value.okWide Try.prog W .any base t v)
    (hW : DataW.Whole enc Try.prog Try.f4.params.toList Rows.fnExactBoxOfSpec.vars false W args.toList ds gs before) :
    Calls Try.prog 4 args W fun e W' => ∃ v, e = .returned v ∧ Rows.fnExactBoxOfSpec.post enc Try.prog Try.f4 false true false false W args v W' :=
  law_contract (T := T) (tb := 4) (N := dszL (ds ++ gs)) Try.func4 (by kernel_rfl) rfl pars rfl Try.underlying4 (fun n => K_laws_FnExactBoxOf n) (math _) rfl
    (fun ds h => by
      match ds, h with
      | [d1, d2], _ => rfl) hval hW (Nat.le_refl _)

set_option maxRecDepth 100000 in
theorem lifted (os : Os) (started : os.Started) (H : Type) (enc : TypeId × Value → H) :
    ReturnsInHanded {} Try.checked os 4 .any (Rows.fnExactBoxOfSpec.pre6 enc Try.prog Try.f4 Rows.fnExactBoxOfRow.domain false) (Rows.fnExactBoxOfSpec.post enc Try.prog Try.f4 false true false false) := by
  refine returnsInHanded_of_change (C := Try.checked) own started (by kernel_rfl) Try.func4
    (ChangeSpec.witness6 (enc := enc) (C := Try.checked) false ⟨#[], #[.agg #[.int .i64 0, .slice none 0 0], .string ByteArray.empty], []⟩ 8 (by kernel_rfl) (by kernel_rfl) (by kernel_rfl) (by kernel_rfl)) ?_
  intro W base args ds gs before hval hW _ _
  exact contract H enc W base args ds gs before hval hW

theorem fnExactBoxOf_holds : Rows.FnExactBoxOfSaid :=
  OpenClaim.holds_of_wide 4 Try.f4 rfl rfl rfl rfl rfl rfl rfl ⟨rfl, rfl, rfl, rfl, rfl⟩ rfl rfl rfl rfl rfl (by kernel_rfl) Try.func4 (by kernel_rfl)
    (of_decide_eq_true (by kernel_rfl)) (by unfold Func.isWrapper; first | (rw [if_pos (by decide +kernel)]; kernel_rfl) | (rw [if_neg (by decide +kernel)]; exact ⟨rfl, rfl⟩))
    (fun os started H enc _ => lifted os started H enc)

end Go.Proofs.Ytcelknaomealbaa.BoxOfLaw
