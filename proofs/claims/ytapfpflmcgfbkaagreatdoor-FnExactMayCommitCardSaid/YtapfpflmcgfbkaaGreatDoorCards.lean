/-
  DERIVED. GIVEN WITH THE SEED: THE CARDS: each row of YtapfpflmcgfbkaaGreatDoorRows.lean that lists a variable, with what it lists TIED to the program's text (the seventh form; the later family's looks); each row that meets fmt, with fmt's text TOLD by the authors' own Lean function (tested against real Go, not proved from fmt's source: count such statements apart). THE CARD IS WHAT COUNTS. Prove the row's statement (the work); the ties are given (YtapfpflmcgfbkaaGreatDoorTie.lean); close each card by the builder's one call (the guide's Derived/Test/ToyasCard.lean, 'card_holds'). Laid BY PROGRAM, IN A SANDBOX (cutbox-door.mjs). By AI agents, Wed Nov 11 2026. No macro, syntax, notation, axiom, sorry.
-/
import Derived.Test.YtapfpflmcgfbkaaGreatDoorRows
import GoSem.ClaimSeven
namespace Go.Proofs.YtapfpflmcgfbkaaGreatDoor
namespace Rows

/-- THE TIED CARD OF 'laws.FnExactMayCommit'. -/
def fnExactMayCommitCard : Claim7 := { stood := { row := fnExactMayCommitRow, standIns := [], harness := (true, "d6cdbe37af1d3fe04b72955ff17a57a9e65d921d08e48d85c3553b918a30e2c3"), looks := true }, kinds := [], alts := [], laidByText := true, laidKinds := [.data, .data, .data, .sentinel, .sentinel, .sentinel], laidTests := true, laidLooks := .later }
def FnExactMayCommitCardSaid : Prop := Claim7.holds Tryz.pinned (.plain (OpenSpec.ofChange fnExactMayCommitSpec)) fnExactMayCommitCard

/-- THE SECOND FORM's CARD OF 'laws.FnExactMayCommit'. -/
def fnExactMayCommitUptoCard : Claim7 := { stood := { row := fnExactMayCommitUptoRow, standIns := [], harness := (true, "d6cdbe37af1d3fe04b72955ff17a57a9e65d921d08e48d85c3553b918a30e2c3"), looks := true }, kinds := [], alts := [], laidByText := true, laidKinds := [.data, .data, .data, .sentinel, .sentinel, .sentinel], laidTests := true, laidLooks := .later }
def FnExactMayCommitUptoCardSaid : Prop := Claim7.holds Tryz.pinned (.plain (OpenSpec.upto fnExactMayCommitSpec)) fnExactMayCommitUptoCard
end Rows
end Go.Proofs.YtapfpflmcgfbkaaGreatDoor
