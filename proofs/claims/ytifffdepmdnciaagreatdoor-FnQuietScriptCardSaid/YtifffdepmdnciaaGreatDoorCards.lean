/-
  DERIVED. GIVEN WITH THE SEED: THE CARDS: each row of YtifffdepmdnciaaGreatDoorRows.lean that lists a variable, with what it lists TIED to the program's text (the seventh form; the later family's looks); each row that meets fmt, with fmt's text TOLD by the authors' own Lean function (tested against real Go, not proved from fmt's source: count such statements apart). THE CARD IS WHAT COUNTS. Prove the row's statement (the work); the ties are given (YtifffdepmdnciaaGreatDoorTie.lean); close each card by the builder's one call (the guide's Derived/Test/ToyasCard.lean, 'card_holds'). Laid BY PROGRAM, IN A SANDBOX (cutbox-door.mjs). By AI agents, Wed Nov 11 2026. No macro, syntax, notation, axiom, sorry.
-/
import Derived.Test.YtifffdepmdnciaaGreatDoorRows
import GoSem.ClaimSeven
namespace Go.Proofs.YtifffdepmdnciaaGreatDoor
namespace Rows

/-- THE TIED CARD OF 'laws.FnQuietScript'. -/
def fnQuietScriptCard : Claim7 := { stood := { row := fnQuietScriptRow, standIns := [], harness := (true, "540287a1a8df8bf79d22f282d125603c111ef3e393fcf972e941d4cfdaa404a2"), looks := true }, kinds := [], alts := [], laidByText := true, laidKinds := [.data, .data, .data, .data, .sentinel, .sentinel, .listed, .data, .sentinel, .widerDeep, .widerDeep, .pinned], laidTests := true, laidLooks := .later }
def FnQuietScriptCardSaid : Prop := Claim7.holds Tryz.pinned (.plain (OpenSpec.ofChange fnQuietScriptSpec)) fnQuietScriptCard

/-- THE SECOND FORM's CARD OF 'laws.FnQuietScript'. -/
def fnQuietScriptUptoCard : Claim7 := { stood := { row := fnQuietScriptUptoRow, standIns := [], harness := (true, "540287a1a8df8bf79d22f282d125603c111ef3e393fcf972e941d4cfdaa404a2"), looks := true }, kinds := [], alts := [], laidByText := true, laidKinds := [.data, .data, .data, .data, .sentinel, .sentinel, .listed, .data, .sentinel, .widerDeep, .widerDeep, .pinned], laidTests := true, laidLooks := .later }
def FnQuietScriptUptoCardSaid : Prop := Claim7.holds Tryz.pinned (.plain (OpenSpec.upto fnQuietScriptSpec)) fnQuietScriptUptoCard
end Rows
end Go.Proofs.YtifffdepmdnciaaGreatDoor
