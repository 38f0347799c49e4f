/- 'FnExactStoreText' returns true for every input, and its arguments read behind the call as they read before; the variables that it reads are tied to the program's text. -/
import Derived.Test.YtcelknaomealbaaDoorRows
import Derived.Test.YtcelknaomealbaaDoorTie
import Derived.Test.YtcelknaomealbaaDoorCards
import Derived.ProofKit
import Derived.LaidMore
import Derived.SevenTiedAt
import Derived.Stop.LaidErr
import Derived.Stop.Joined
import Derived.Test.YtcelknaomealbaaDoorOwF
import Derived.Test.YtcelknaomealbaaDoorTextMath
set_option linter.unusedSectionVars false
set_option linter.unusedVariables false
set_option linter.unusedSimpArgs false
namespace Go.Proofs.YtcelknaomealbaaDoor.TextLaw
open Go Go.Proofs.YtcelknaomealbaaDoor.Ow Go.Proofs.YtcelknaomealbaaDoor.TextF Go.Proofs.YtcelknaomealbaaDoor

theorem own : ownKnob Tryd.prog.godebug = none := by kernel_rfl

theorem pars : ParsTy Tryd.prog T ps_laws_FnExactStoreText Tryd.f4.params.toList := by
  have h := fun (t : TypeId) (k : K) (h : tyL.tab.ty t = some k) => (letI : Fr := ⟨fun _ => False, fun _ => none⟩; (tab_ok tabOk).ty t k h)
  exact ⟨h _ _ (by kernel_rfl), trivial⟩

/-! ### What the variables hold -/
theorem tabs {W : World} (h : laidMetH Tryd.prog Rows.fnExactStoreTextRow.laid W) : letI := frOf W; LaidLib.LaidTab Tryd.prog := by
  rw [MakeChecks.laidMetH_plain _ _ _ (by kernel_rfl)] at h
  have h2 := h.tail.tail
  have e : (Rows.laid_internal_strconv_uint64pow10 : DataW Unit) = Lib.tabData .u64 Lib.pow10Tab := by kernel_rfl
  have ht : Lib.TabIs Tryd.prog W "internal/strconv.uint64pow10" .u64 Lib.pow10Tab :=
    Lib.tabIs_of_head (g := 2) (t := 140) (e := 100) (n := 20) (rest := []) (by kernel_rfl) (by kernel_rfl) (by kernel_rfl) (by kernel_rfl) (by kernel_rfl) (by kernel_rfl) (by rw [← e]; exact h2)
  letI := frOf W
  exact ⟨W, fun b hb => ⟨hb, rfl⟩, ht⟩

set_option maxRecDepth 100000 in
theorem contract (H : Type) (enc : TypeId × Value → H) (W : World) (base : Nat) (args : Array Value) (ds gs : List (DataW H)) (before : List MemPlace)
    (hval : ∀ (j : Nat) t v, Tryd.f4.params[j]? = some t → args[j]? = some v → Value.okWide Tryd.prog W .any base t v)
    (hW : DataW.Whole enc Tryd.prog Tryd.f4.params.toList Rows.fnExactStoreTextSpec.vars false W args.toList ds gs before) (hL : laidMetH Tryd.prog Rows.fnExactStoreTextRow.laid W) :
    Calls Tryd.prog 4 args W fun e W' => ∃ v, e = .returned v ∧ Rows.fnExactStoreTextSpec.post enc Tryd.prog Tryd.f4 false true false false W args v W' :=
  law_contract (T := T) (tb := 4) (N := dszL (ds ++ gs)) Tryd.func4 (by kernel_rfl) rfl pars rfl Tryd.underlying4 (letI := frOf W; haveI := tabs hL; fun n => K_laws_FnExactStoreText n) (TextMath.all _) rfl
    (fun ds h => by
      match ds, h with
      | [d1], _ => rfl) hval hW (Nat.le_refl _)

theorem door_met (os : Os) (args : Array Value) : laidMetH Tryd.prog Rows.fnExactStoreTextRow.laid ((World.doorLaid Tryd.prog 4000 os).forCall (fun _ _ => 0) ⟨#[], args, []⟩).memory := by
  rw [MakeChecks.laidMetH_plain _ _ _ (by kernel_rfl)]
  exact laidMet_of_run' 8 (by kernel_rfl) (by kernel_rfl)

set_option maxRecDepth 100000 in
theorem lifted (os : Os) (started : os.Started) (H : Type) (enc : TypeId × Value → H) :
    ReturnsInHanded {} Tryd.checked os 4 .any (fun w args => (Rows.fnExactStoreTextSpec.pre enc Tryd.prog Tryd.f4 [] false w args ∧ laidMetH Tryd.prog Rows.fnExactStoreTextRow.laid w) ∧ sizedMet enc Tryd.prog Tryd.f4 (OpenSpec.ofChange Rows.fnExactStoreTextSpec) false w args)
      (Rows.fnExactStoreTextSpec.post enc Tryd.prog Tryd.f4 false true false false) := by
  refine returnsInHanded_of_change_and (C := Tryd.checked) (X := fun w _ => laidMetH Tryd.prog Rows.fnExactStoreTextRow.laid w) (fun _ _ _ hh h => h.of_heap hh) own started (by kernel_rfl) Tryd.func4
    (ChangeSpec.witness_shaped (enc := enc) (C := Tryd.checked) (os := os) (X := fun w _ => laidMetH Tryd.prog Rows.fnExactStoreTextRow.laid w) false (World.doorLaid Tryd.prog 4000 os) #[.agg #[.int .i64 0, .slice none 0 0]] 8 rfl (World.shaped_of_RefB (by kernel_rfl) (by kernel_rfl)) (by kernel_rfl) (by kernel_rfl) (by kernel_rfl) (door_met os _)) ?_
  intro W base args ds gs before hval hW _ _ hL _
  exact contract H enc W base args ds gs before hval hW hL

theorem row_holds : Rows.FnExactStoreTextSaid :=
  OpenClaim.holds_of_wide 4 Tryd.f4 rfl rfl rfl rfl rfl rfl rfl ⟨rfl, rfl, rfl, rfl, rfl⟩ rfl rfl rfl rfl rfl (by kernel_rfl) Tryd.func4 (by kernel_rfl)
    (of_decide_eq_true (by kernel_rfl)) (by unfold Func.isWrapper; first | (rw [if_pos (by decide +kernel)]; kernel_rfl) | (rw [if_neg (by decide +kernel)]; exact ⟨rfl, rfl⟩))
    (fun os started H enc _ => lifted os started H enc)

theorem fnExactStoreTextCard_holds : Rows.FnExactStoreTextCardSaid :=
  Claim7.holds_tied_plain_at .later [] [.data, .data, .data] true (true, "36665b470bf9545e47b707de81f0cde98f61a44eaece2c9d7ee99359d6dca132") true
    row_holds (fun _ h => by cases h) (by kernel_rfl) (fun _ h => by cases h) fnExactStoreText_row_tie rfl ⟨rfl, rfl⟩ (by kernel_rfl) rfl
    (fun f fn hf hfn => by
      obtain rfl : f = 4 := Option.some.inj ((show Tryd.prog.funcNamed "loop.example/g00447/laws.FnExactStoreText" = some 4 by kernel_rfl).symm.trans hf) |>.symm
      obtain rfl : fn = Tryd.f4 := (Option.some.inj (Tryd.func4.symm.trans hfn)).symm
      exact ⟨by kernel_rfl, fun j t ht => by
        rw [Tryd.params4] at ht
        have hm : t ∈ [33] := by simpa using Array.mem_of_getElem? ht
        have hall : ([33].all fun u => !Tryd.prog.wantsStandIn u) = true := by kernel_rfl
        exact (show Tryd.prog.wantsStandIn t = false by simpa using List.all_eq_true.1 hall t hm)⟩)
    (by kernel_rfl)

end Go.Proofs.YtcelknaomealbaaDoor.TextLaw
