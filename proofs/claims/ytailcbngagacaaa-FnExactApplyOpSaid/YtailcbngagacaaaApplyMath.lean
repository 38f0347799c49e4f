/- 'FnExactApplyOp': what it comes to. -/
import Derived.Test.YtailcbngagacaaaOwF
import Derived.Test.YtailcbngagacaaaLoopLib
import Derived.Test.YtailcbngagacaaaStoreMath
import Derived.Test.YtailcbngagacaaaOpsMath
import Derived.Test.YtailcbngagacaaaMarkMath
import Derived.Test.YtailcbngagacaaaApplyF
set_option linter.unusedSectionVars false
set_option linter.unusedVariables false
set_option linter.unusedSimpArgs false
namespace Go.Proofs.Ytailcbngagacaaa.ApplyMath
open Go Go.Proofs.Ytailcbngagacaaa.Ow Go.Proofs.Ytailcbngagacaaa.ApplyF Go.Proofs.Ytailcbngagacaaa.LoopLib Go.Proofs.Ytailcbngagacaaa.StoreMath Go.Proofs.Ytailcbngagacaaa.OpsMath Go.Proofs.Ytailcbngagacaaa.MarkMath

/-! ### Sizes -/
theorem szStore2 {n : Nat} {s : Sto} (hl : lS s) (hn : big < n) : ∃ r, F_laws_szStore n s 1048576 = some (r, ()) ∧ (r < 0 ∨ (r ≤ 1048576 ∧ okS s)) := by
  unfold F_laws_szStore
  obtain ⟨r, h1, h2⟩ := szBoxS (n := n) hl.1 hl.2 (k := 1048576) (by omega) (by omega) hn
  rw [h1]
  simp only [Option.bind_some]
  by_cases hr : r < 0
  · exact ⟨-1, by simp [hr], .inl (by omega)⟩
  · refine ⟨r, by simp [hr], ?_⟩
    rcases h2 with h | ⟨h3, h4, h5⟩
    · exact .inl h
    · exact .inr ⟨h3, h4, h5⟩

def lO (o : OpC) : Prop := o.2.1.length ≤ 9223372036854775807 ∧ o.2.2.1.length ≤ 9223372036854775807 ∧ o.2.2.2.1.length ≤ 9223372036854775807 ∧ o.2.2.2.2.2.2.2.1.length ≤ 9223372036854775807
theorem szInt64S {n : Nat} {bs : List Int} (hl : bs.length ≤ 9223372036854775807) {k : Int} (h1 : 0 ≤ k) (h2 : k ≤ 1048576) : ∃ r, F_laws_szInt64S n bs k = some (r, ()) ∧ (r < 0 ∨ (r ≤ k ∧ bs.length ≤ big)) := szByteS (n := n) hl h1 h2
theorem szOp {n : Nat} {o : OpC} (hl : lO o) {k : Int} (h1 : 0 ≤ k) (h2 : k ≤ 1048576) : ∃ r, F_laws_szOp n o k = some (r, ()) ∧ (r < 0 ∨ okO o) := by
  obtain ⟨l1, l2, l3, l4⟩ := hl
  unfold F_laws_szOp
  rw [wrap_i64 (x := k - (o.2.1.length : Int)) (by omega) (by omega)]
  by_cases c1 : k - (o.2.1.length : Int) < 0
  · exact ⟨-1, by simp [c1], .inl (by omega)⟩
  · rw [wrap_i64 (x := k - (o.2.1.length : Int) - (o.2.2.1.length : Int)) (by omega) (by omega)]
    simp only [c1, decide_false, Bool.false_eq_true, if_false]
    by_cases c2 : k - (o.2.1.length : Int) - (o.2.2.1.length : Int) < 0
    · exact ⟨-1, by simp [c2], .inl (by omega)⟩
    · obtain ⟨r1, g1, g2⟩ := szInt64S (n := n) l3 (k := k - (o.2.1.length : Int) - (o.2.2.1.length : Int)) (by omega) (by omega)
      simp only [c2, decide_false, Bool.false_eq_true, if_false, g1, Option.bind_some]
      by_cases c3 : r1 < 0
      · exact ⟨-1, by simp [c3], .inl (by omega)⟩
      · have g2 : r1 ≤ k - (o.2.1.length : Int) - (o.2.2.1.length : Int) ∧ o.2.2.2.1.length ≤ big := g2.resolve_left c3
        obtain ⟨r2, e1, e2⟩ := szByteS (n := n) l4 (k := r1) (by omega) (by omega)
        simp only [c3, decide_false, Bool.false_eq_true, if_false, e1, Option.bind_some]
        by_cases c4 : r2 < 0
        · exact ⟨-1, by simp [c4], .inl (by omega)⟩
        · have e2 := e2.resolve_left c4
          refine ⟨r2, by simp [c4], .inr ⟨?_, ?_, g2.2, e2.2⟩⟩
          · unfold big; omega
          · unfold big; omega

/-! ### Copies and equalities -/
theorem toInt64S {n : Nat} {bs : List Int} (hb : bs.length ≤ big) (hn : big < n) : F_laws_toInt64S n bs = some (bs, ()) := by
  have hb' := hb
  unfold big at hb
  unfold F_laws_toInt64S
  rw [if_pos (by omega)]
  exact copy_loop (f := fun x => some (x, ())) (d := (0 : Int)) (fun L v => rfl) (fun _ _ => rfl) hb' hn
theorem toOp {n : Nat} {o : OpC} (h : okO o) (hn : big < n) : F_laws_toOp n o = some (o, ()) := by
  unfold F_laws_toOp
  rw [toInt64S h.2.2.1 hn]
  simp only [Option.bind_some]
  rw [toByteS h.2.2.2 hn]
  rfl
theorem eqInt64S {n : Nat} {bs : List Int} (hb : bs.length ≤ big) (hn : big < n) : F_laws_eqInt64S n bs bs = some (true, ()) := by
  unfold F_laws_eqInt64S
  rw [if_neg (by simp)]
  refine eq_loop1 (f := fun x y => some (decide (x = y), ())) (d := (0 : Int)) (fun L v => rfl) (fun _ _ => by simp) hb hn
theorem eqOp {n : Nat} {o : OpC} (h : okO o) (hn : big < n) : F_laws_eqOp n o o = some (true, ()) := by
  unfold F_laws_eqOp
  simp [eqInt64S h.2.2.1 hn, eqByteS h.2.2.2 hn]
theorem eqStoreResult {n : Nat} {r : ResC} (h : okR r) (hn : big < n) : F_laws_eqStoreResult n r r = some (true, ()) := by
  unfold F_laws_eqStoreResult
  simp [eqInt64S h.1 hn, eqStore h.2 hn]

/-! ### Marks -/
theorem markOp {n : Nat} {o : OpC} {k : Int} (h : okO o) (hn : big < n) (h0 : 0 ≤ k) (h1 : k ≤ 1152925902656503808) : ∃ x y, F_laws_markOp n o k = some (x, y, ()) ∧ 0 ≤ x := by
  have h2 := h.2.2.1
  have h3 := h.2.2.2
  unfold big at h2 h3
  unfold F_laws_markOp
  rw [markInt64S h.2.2.1 hn h0 (by omega)]
  simp only [Option.bind_some]
  rw [markByteS h.2.2.2 hn (by omega) (by omega)]
  exact ⟨_, _, rfl, by omega⟩
def mR (n : Nat) (r : ResC) : ResC := (r.1, mI 1 r.2.1.length, mS n (1 + (r.2.1.length : Int)) r.2.2.1, ())
theorem markResult {n : Nat} {r : ResC} (h : okR r) (hn : big < n) : F_laws_markStoreResult n r 1 = some (kS (1 + (r.2.1.length : Int)) r.2.2.1, mR n r, ()) := by
  have h2 := h.1
  unfold big at h2
  unfold F_laws_markStoreResult
  rw [markInt64S h.1 hn (by omega) (by omega)]
  simp only [Option.bind_some]
  rw [markStore h.2 hn (by omega) (by omega)]
  rfl
theorem heldResult {n : Nat} {r : ResC} (h : okR r) (hn : big < n) : F_laws_heldStoreResult n (mR n r) 1 = some (kS (1 + (r.2.1.length : Int)) r.2.2.1, ()) := by
  have h2 := h.1
  unfold big at h2
  have hb := kS_bound (k := 1 + (r.2.1.length : Int)) h.2
  unfold F_laws_heldStoreResult
  have e1 : F_laws_heldInt64S n (mR n r).2.1 1 = some (1 + (r.2.1.length : Int), ()) := heldInt64S h.1 hn (by omega) (by omega)
  have e2 : F_laws_heldStore n (mR n r).2.2.1 (1 + (r.2.1.length : Int)) = some (kS (1 + (r.2.1.length : Int)) r.2.2.1, ()) := heldStore h.2 hn (by omega) (by omega)
  have n1 : ¬ (1 + (r.2.1.length : Int) < 0) := by omega
  have n2 : ¬ (kS (1 + (r.2.1.length : Int)) r.2.2.1 < 0) := by omega
  simp only [e1, e2, Option.bind_some, n1, n2, decide_false, Bool.false_eq_true, if_false]

theorem law {s : Sto} {o : OpC} (hs : lS s) (ho : lO o) : F_laws_FnExactApplyOp 1048577 s o = some (true, ()) := by
  have hn : big < 1048577 := by unfold big; omega
  unfold F_laws_FnExactApplyOp
  obtain ⟨r1, a1, a2⟩ := szStore2 hs hn
  rw [a1]
  simp only [Option.bind_some]
  by_cases c1 : r1 < 0
  · simp only [c1, decide_true, if_true]
  · have a2 := a2.resolve_left c1
    obtain ⟨r2, b1, b2⟩ := szOp (n := 1048577) ho (k := r1) (by omega) a2.1
    simp only [c1, decide_false, Bool.false_eq_true, if_false, b1, Option.bind_some]
    by_cases c2 : r2 < 0
    · simp only [c2, decide_true, if_true]
    · have hO := b2.resolve_left c2
      have hS := a2.2
      obtain ⟨r, e1, e2, hR⟩ := applyOp hS hO hn
      have hb := kS_bound (k := 1) hS
      obtain ⟨x, y, m1, m2⟩ := markOp (n := 1048577) (k := kS 1 s) hO hn (by omega) (by omega)
      have hbr := kS_bound (k := 1 + (r.2.1.length : Int)) hR.2
      have m3 : ¬ x < 0 := by omega
      have m4 : ¬ kS (1 + (r.2.1.length : Int)) r.2.2.1 < 0 := by omega
      simp only [c2, decide_false, Bool.false_eq_true, if_false, toStore hS hn, toOp hO hn, e1, e2, Option.bind_some, eqStoreResult hR hn, eqStore hS hn, eqOp hO hn, Bool.not_true, markStore hS hn (show (0 : Int) ≤ 1 by omega) (show (1 : Int) ≤ 1099511627776 by omega), m1, m3, markResult hR hn, heldResult hR hn, m4, decide_true]

theorem all : ∀ (N : Nat) (c : Cont (kin ps_laws_FnExactApplyOp)), lenC ps_laws_FnExactApplyOp c → szC ps_laws_FnExactApplyOp c ≤ N → ∃ n out, E_laws_FnExactApplyOp.F n c = some out ∧ out.1 = true := by
  intro N c hc _
  refine ⟨1048577, (true, ()), law (s := c.1) (o := c.2.1) ?_ ?_, rfl⟩
  · obtain ⟨⟨_, ⟨h1, h2⟩, _⟩, _⟩ := hc
    refine ⟨h1, fun b hb => ?_⟩
    obtain ⟨⟨g1, _⟩, _, _, ⟨g2, g3⟩, _⟩ := h2 b hb
    refine ⟨g1, g2, fun m hm => ?_⟩
    obtain ⟨_, _, _, ⟨f1, _⟩, _⟩ := g3 m hm
    exact f1
  · obtain ⟨_, ⟨_, ⟨h1, _⟩, ⟨h2, _⟩, ⟨h3, _⟩, _, _, _, ⟨h4, _⟩, _⟩, _⟩ := hc
    exact ⟨h1, h2, h3, h4⟩
end Go.Proofs.Ytailcbngagacaaa.ApplyMath
