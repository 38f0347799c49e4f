/-
  DERIVED. GIVEN WITH THE SEED: THE CARDS: each row of YtgppmpedglhhfaaGreatDoorRows.lean that lists a variable, with what it lists TIED to the program's text (the seventh form; the later family's looks); each row that meets fmt, with fmt's text TOLD by the authors' own Lean function (tested against real Go, not proved from fmt's source: count such statements apart). THE CARD IS WHAT COUNTS. Prove the row's statement (the work); the ties are given (YtgppmpedglhhfaaGreatDoorTie.lean); close each card by the builder's one call (the guide's Derived/Test/ToyasCard.lean, 'card_holds'). Laid BY PROGRAM, IN A SANDBOX (cutbox-door.mjs). By AI agents, Wed Nov 11 2026. No macro, syntax, notation, axiom, sorry.
-/
import Derived.Test.YtgppmpedglhhfaaGreatDoorRows
import GoSem.ClaimSeven
namespace Go.Proofs.YtgppmpedglhhfaaGreatDoor
namespace Rows

/-- THE TIED CARD OF 'laws.FnExactParseTerms'. -/
def fnExactParseTermsCard : Claim7 := { stood := { row := fnExactParseTermsRow, standIns := [], harness := (true, "5b38546db881b79b1b12fb0fb0206b026c7f209ca704682ffef1526354532af6"), looks := true }, kinds := [], alts := [], laidByText := true, laidKinds := [.data, .data, .data, .data, .sentinel, .sentinel, .pinned], laidTests := true, laidLooks := .later }
def FnExactParseTermsCardSaid : Prop := Claim7.holds Tryz.pinned (.plain (OpenSpec.ofChange fnExactParseTermsSpec)) fnExactParseTermsCard

/-- THE TIED CARD OF 'laws.FnTerms'. -/
def fnTermsCard : Claim7 := { stood := { row := fnTermsRow, standIns := [], harness := (true, "5b38546db881b79b1b12fb0fb0206b026c7f209ca704682ffef1526354532af6"), looks := true }, kinds := [], alts := [], laidByText := true, laidKinds := [.data, .data, .data, .data, .sentinel, .sentinel, .pinned], laidTests := true, laidLooks := .later }
def FnTermsCardSaid : Prop := Claim7.holds Tryz.pinned (.plain (OpenSpec.ofChange fnTermsSpec)) fnTermsCard

/-- THE SECOND FORM's CARD OF 'laws.FnExactParseTerms'. -/
def fnExactParseTermsUptoCard : Claim7 := { stood := { row := fnExactParseTermsUptoRow, standIns := [], harness := (true, "5b38546db881b79b1b12fb0fb0206b026c7f209ca704682ffef1526354532af6"), looks := true }, kinds := [], alts := [], laidByText := true, laidKinds := [.data, .data, .data, .data, .sentinel, .sentinel, .pinned], laidTests := true, laidLooks := .later }
def FnExactParseTermsUptoCardSaid : Prop := Claim7.holds Tryz.pinned (.plain (OpenSpec.upto fnExactParseTermsSpec)) fnExactParseTermsUptoCard

/-- THE SECOND FORM's CARD OF 'laws.FnTerms'. -/
def fnTermsUptoCard : Claim7 := { stood := { row := fnTermsUptoRow, standIns := [], harness := (true, "5b38546db881b79b1b12fb0fb0206b026c7f209ca704682ffef1526354532af6"), looks := true }, kinds := [], alts := [], laidByText := true, laidKinds := [.data, .data, .data, .data, .sentinel, .sentinel, .pinned], laidTests := true, laidLooks := .later }
def FnTermsUptoCardSaid : Prop := Claim7.holds Tryz.pinned (.plain (OpenSpec.upto fnTermsSpec)) fnTermsUptoCard
end Rows
end Go.Proofs.YtgppmpedglhhfaaGreatDoor
