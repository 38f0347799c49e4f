/-
  DERIVED. GIVEN WITH THE SEED: THE CARDS: each row of YtplpeegfeajkkaaGreatDoorRows.lean that lists a variable, with what it lists TIED to the program's text (the seventh form; the later family's looks); each row that meets fmt, with fmt's text TOLD by the authors' own Lean function (tested against real Go, not proved from fmt's source: count such statements apart). THE CARD IS WHAT COUNTS. Prove the row's statement (the work); the ties are given (YtplpeegfeajkkaaGreatDoorTie.lean); close each card by the builder's one call (the guide's Derived/Test/ToyasCard.lean, 'card_holds'). Laid BY PROGRAM, IN A SANDBOX (cutbox-door.mjs). By AI agents, Wed Nov 11 2026. No macro, syntax, notation, axiom, sorry.
-/
import Derived.Test.YtplpeegfeajkkaaGreatDoorRows
import GoSem.ClaimSeven
namespace Go.Proofs.YtplpeegfeajkkaaGreatDoor
namespace Rows

/-- THE TIED CARD OF 'laws.FnExactSyncSession'. -/
def fnExactSyncSessionCard : Claim7 := { stood := { row := fnExactSyncSessionRow, standIns := [], harness := (true, "20eb2dd6d23cc774546533c0acd00ac3be268b584da5a31ad20c15d1a6126699"), looks := false }, kinds := [], alts := [], laidByText := true, laidKinds := [.data, .data, .data], laidTests := true, laidLooks := .later }
def FnExactSyncSessionCardSaid : Prop := Claim7.holds Tryz.pinned (.plain (OpenSpec.ofChange fnExactSyncSessionSpec)) fnExactSyncSessionCard

/-- THE SECOND FORM's CARD OF 'laws.FnExactSyncSession'. -/
def fnExactSyncSessionUptoCard : Claim7 := { stood := { row := fnExactSyncSessionUptoRow, standIns := [], harness := (true, "20eb2dd6d23cc774546533c0acd00ac3be268b584da5a31ad20c15d1a6126699"), looks := false }, kinds := [], alts := [], laidByText := true, laidKinds := [.data, .data, .data], laidTests := true, laidLooks := .later }
def FnExactSyncSessionUptoCardSaid : Prop := Claim7.holds Tryz.pinned (.plain (OpenSpec.upto fnExactSyncSessionSpec)) fnExactSyncSessionUptoCard
end Rows
end Go.Proofs.YtplpeegfeajkkaaGreatDoor
