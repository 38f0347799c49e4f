/- 'FnExactNewWorld': what its functions come to. -/
import Derived.Test.YtcelknaomealbaaOwF
import Derived.Test.YtcelknaomealbaaNewWorldF
set_option linter.unusedSectionVars false
set_option linter.unusedVariables false
set_option linter.unusedSimpArgs false
namespace Go.Proofs.Ytcelknaomealbaa.NewWorldMath
open Go Go.Proofs.Ytcelknaomealbaa.Ow Go.Proofs.Ytcelknaomealbaa.NewWorldF

set_option maxRecDepth 100000 in
theorem one : F_laws_FnExactNewWorld 60 1 = some (true, ()) := by kernel_rfl
set_option maxRecDepth 100000 in
theorem two : F_laws_FnExactNewWorld 60 2 = some (true, ()) := by kernel_rfl
set_option maxRecDepth 100000 in
theorem three : F_laws_FnExactNewWorld 60 3 = some (true, ()) := by kernel_rfl
set_option maxRecDepth 100000 in
theorem zero : F_laws_FnExactNewWorld 60 0 = some (true, ()) := by kernel_rfl

theorem out_spec {a : Int} (h : ¬ (1 ≤ a ∧ a ≤ 3)) : F_spec_NewWorld 60 a = F_spec_NewWorld 60 0 := by
  have h1 : F_spec_l1In 60 a 1 3 = F_spec_l1In 60 0 1 3 := by
    unfold F_spec_l1In
    by_cases h1 : a ≥ 1
    · have h2 : ¬ a ≤ 3 := fun h2 => h ⟨h1, h2⟩
      simp [h1, h2]
    · simp [h1]
  unfold F_spec_NewWorld
  rw [h1]
  rfl
theorem out_impl {a : Int} (h : ¬ (1 ≤ a ∧ a ≤ 3)) : F_impl_NewWorld 60 a = F_impl_NewWorld 60 0 := by
  have h1 : F_impl_within 60 a 1 3 = F_impl_within 60 0 1 3 := by
    unfold F_impl_within
    by_cases h1 : a ≥ 1
    · have h2 : ¬ a ≤ 3 := fun h2 => h ⟨h1, h2⟩
      simp [h1, h2]
    · simp [h1]
  unfold F_impl_NewWorld
  rw [h1]
  rfl

theorem law (a : Int) : F_laws_FnExactNewWorld 60 a = some (true, ()) := by
  by_cases h : 1 ≤ a ∧ a ≤ 3
  · obtain ⟨h1, h2⟩ := h
    rcases (by omega : a = 1 ∨ a = 2 ∨ a = 3) with e | e | e <;> subst e
    · exact one
    · exact two
    · exact three
  · have e := zero
    unfold F_laws_FnExactNewWorld at e ⊢
    rw [out_spec h, out_impl h]
    exact e

theorem all : ∀ (N : Nat) (c : Cont (kin ps_laws_FnExactNewWorld)), lenC ps_laws_FnExactNewWorld c → szC ps_laws_FnExactNewWorld c ≤ N → ∃ n out, E_laws_FnExactNewWorld.F n c = some out ∧ out.1 = true :=
  fun N c _ _ => ⟨60, (true, ()), law c.1, rfl⟩

end Go.Proofs.Ytcelknaomealbaa.NewWorldMath
