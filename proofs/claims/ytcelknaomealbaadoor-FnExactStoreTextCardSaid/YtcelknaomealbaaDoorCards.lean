/-
  DERIVED. GIVEN WITH THE SEED: THE CARDS: each row of YtcelknaomealbaaDoorRows.lean that lists a variable, with what it lists TIED to the program's text (the seventh form; the later family's looks); each row that meets fmt, with fmt's text TOLD by the authors' own Lean function (tested against real Go, not proved from fmt's source: count such statements apart). THE CARD IS WHAT COUNTS. Prove the row's statement (the work); the ties are given (YtcelknaomealbaaDoorTie.lean); close each card by the builder's one call (the guide's Derived/Test/ToyasCard.lean, 'card_holds'). Laid BY PROGRAM, IN A SANDBOX (cutbox-door.mjs). By AI agents, Wed Nov 11 2026. No macro, syntax, notation, axiom, sorry.
-/
import Derived.Test.YtcelknaomealbaaDoorRows
import GoSem.ClaimSeven
namespace Go.Proofs.YtcelknaomealbaaDoor
namespace Rows

/-- THE TIED CARD OF 'laws.FnExactMirrorCount'. -/
def fnExactMirrorCountCard : Claim7 := { stood := { row := fnExactMirrorCountRow, standIns := [], harness := (true, "36665b470bf9545e47b707de81f0cde98f61a44eaece2c9d7ee99359d6dca132"), looks := true }, kinds := [], alts := [], laidByText := true, laidKinds := [.data, .data, .data, .sentinel, .sentinel], laidTests := true, laidLooks := .later }
def FnExactMirrorCountCardSaid : Prop := Claim7.holds Tryd.pinned (.plain (OpenSpec.ofChange fnExactMirrorCountSpec)) fnExactMirrorCountCard

/-- THE TIED CARD OF 'laws.FnExactStoreText'. -/
def fnExactStoreTextCard : Claim7 := { stood := { row := fnExactStoreTextRow, standIns := [], harness := (true, "36665b470bf9545e47b707de81f0cde98f61a44eaece2c9d7ee99359d6dca132"), looks := true }, kinds := [], alts := [], laidByText := true, laidKinds := [.data, .data, .data], laidTests := true, laidLooks := .later }
def FnExactStoreTextCardSaid : Prop := Claim7.holds Tryd.pinned (.plain (OpenSpec.ofChange fnExactStoreTextSpec)) fnExactStoreTextCard

/-- THE SECOND FORM's CARD OF 'laws.FnExactMirrorCount'. -/
def fnExactMirrorCountUptoCard : Claim7 := { stood := { row := fnExactMirrorCountUptoRow, standIns := [], harness := (true, "36665b470bf9545e47b707de81f0cde98f61a44eaece2c9d7ee99359d6dca132"), looks := true }, kinds := [], alts := [], laidByText := true, laidKinds := [.data, .data, .data, .sentinel, .sentinel], laidTests := true, laidLooks := .later }
def FnExactMirrorCountUptoCardSaid : Prop := Claim7.holds Tryd.pinned (.plain (OpenSpec.upto fnExactMirrorCountSpec)) fnExactMirrorCountUptoCard

/-- THE SECOND FORM's CARD OF 'laws.FnExactStoreText'. -/
def fnExactStoreTextUptoCard : Claim7 := { stood := { row := fnExactStoreTextUptoRow, standIns := [], harness := (true, "36665b470bf9545e47b707de81f0cde98f61a44eaece2c9d7ee99359d6dca132"), looks := true }, kinds := [], alts := [], laidByText := true, laidKinds := [.data, .data, .data], laidTests := true, laidLooks := .later }
def FnExactStoreTextUptoCardSaid : Prop := Claim7.holds Tryd.pinned (.plain (OpenSpec.upto fnExactStoreTextSpec)) fnExactStoreTextUptoCard
end Rows
end Go.Proofs.YtcelknaomealbaaDoor
