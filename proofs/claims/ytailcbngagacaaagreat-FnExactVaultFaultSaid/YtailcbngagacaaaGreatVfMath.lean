/- 'FnExactVaultFault': what it comes to. -/
import Derived.Test.YtailcbngagacaaaGreatOwF
import Derived.Test.YtailcbngagacaaaGreatLoopLib
import Derived.Test.YtailcbngagacaaaGreatStoreMath
import Derived.Test.YtailcbngagacaaaGreatCodecMath
import Derived.Test.YtailcbngagacaaaGreatVaultMath
import Derived.Test.YtailcbngagacaaaGreatVfF
set_option linter.unusedSectionVars false
set_option linter.unusedVariables false
set_option linter.unusedSimpArgs false
namespace Go.Proofs.YtailcbngagacaaaGreat.SX
open Go Go.Proofs.YtailcbngagacaaaGreat.Ow Go.Proofs.YtailcbngagacaaaGreat.SV Go.Proofs.YtailcbngagacaaaGreat.sw Go.Proofs.YtailcbngagacaaaGreat.nT Go.Proofs.YtailcbngagacaaaGreat.uh Go.Proofs.YtailcbngagacaaaGreat.Iy

theorem law {v : Sb} (hv : lV v) : jJ 1048577 v = some (true, ()) := by
  have hn : big < 1048577 := by unfold big; omega
  unfold jJ
  obtain ⟨r1, a1, a2⟩ := Xm hv hn
  rw [a1]
  simp only [Option.bind_some]
  by_cases c1 : r1 < 0
  · simp only [c1, decide_true, if_true]
  · have hV := a2.resolve_left c1
    obtain ⟨c, e1, e2, _⟩ := OZ hV hn
    have e3 : mH 1048577 v = some (c, ()) := by
      unfold mH
      rw [e2]
      rfl
    simp only [c1, decide_false, Bool.false_eq_true, if_false, Xp hV hn, e1, e3, Option.bind_some, Wy hV hn, decide_true, Bool.not_true]

theorem all : ∀ (N : Nat) (c : Cont (kin bV)), WY bV c → szC bV c ≤ N → ∃ n out, jI.F n c = some out ∧ out.1 = true := by
  intro N c hc _
  refine ⟨1048577, (true, ()), law (v := c.1) ?_, rfl⟩
  obtain ⟨⟨_, ⟨h1, b1⟩, ⟨h2, b2⟩, ⟨_, ⟨h3, h4⟩, _⟩, _⟩, _⟩ := hc
  refine ⟨⟨h1, fun x hx => ?_⟩, ⟨h2, fun x hx => ?_⟩, h3, fun b hb => ?_⟩
  · have := b1 x hx
    simp only [Aj, Eb] at this
    omega
  · have := b2 x hx
    simp only [Aj, Eb] at this
    omega
  · obtain ⟨⟨g1, _⟩, _, _, ⟨g2, g3⟩, _⟩ := h4 b hb
    refine ⟨g1, g2, fun m hm => ?_⟩
    obtain ⟨_, _, _, ⟨f1, _⟩, _⟩ := g3 m hm
    exact f1
end Go.Proofs.YtailcbngagacaaaGreat.SX
