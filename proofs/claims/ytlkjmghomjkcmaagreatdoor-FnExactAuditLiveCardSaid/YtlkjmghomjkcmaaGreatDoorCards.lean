/-
  DERIVED. GIVEN WITH THE SEED: THE CARDS: each row of YtlkjmghomjkcmaaGreatDoorRows.lean that lists a variable, with what it lists TIED to the program's text (the seventh form; the later family's looks); each row that meets fmt, with fmt's text TOLD by the authors' own Lean function (tested against real Go, not proved from fmt's source: count such statements apart). THE CARD IS WHAT COUNTS. Prove the row's statement (the work); the ties are given (YtlkjmghomjkcmaaGreatDoorTie.lean); close each card by the builder's one call (the guide's Derived/Test/ToyasCard.lean, 'card_holds'). Laid BY PROGRAM, IN A SANDBOX (cutbox-door.mjs). By AI agents, Wed Nov 11 2026. No macro, syntax, notation, axiom, sorry.
-/
import Derived.Test.YtlkjmghomjkcmaaGreatDoorRows
import GoSem.ClaimSeven
namespace Go.Proofs.YtlkjmghomjkcmaaGreatDoor
namespace Rows

/-- THE TIED CARD OF 'laws.FnExactAuditLive'. -/
def fnExactAuditLiveCard : Claim7 := { stood := { row := fnExactAuditLiveRow, standIns := [], harness := (true, "39f1bfa86d21d41d5e8f57ff6935408bcca53de05b8306e7f42c14cd81409ffb"), looks := true }, kinds := [], alts := [], laidByText := true, laidKinds := [.data, .data, .data, .sentinel, .sentinel, .sentinel], laidTests := true, laidLooks := .later }
def FnExactAuditLiveCardSaid : Prop := Claim7.holds Tryz.pinned (.plain (OpenSpec.ofChange fnExactAuditLiveSpec)) fnExactAuditLiveCard

/-- THE SECOND FORM's CARD OF 'laws.FnExactAuditLive'. -/
def fnExactAuditLiveUptoCard : Claim7 := { stood := { row := fnExactAuditLiveUptoRow, standIns := [], harness := (true, "39f1bfa86d21d41d5e8f57ff6935408bcca53de05b8306e7f42c14cd81409ffb"), looks := true }, kinds := [], alts := [], laidByText := true, laidKinds := [.data, .data, .data, .sentinel, .sentinel, .sentinel], laidTests := true, laidLooks := .later }
def FnExactAuditLiveUptoCardSaid : Prop := Claim7.holds Tryz.pinned (.plain (OpenSpec.upto fnExactAuditLiveSpec)) fnExactAuditLiveUptoCard
end Rows
end Go.Proofs.YtlkjmghomjkcmaaGreatDoor
