/-
  DERIVED. GIVEN WITH THE SEED: THE CARDS: each row of YtdghkmbppfmifaaGreatDoorRows.lean that lists a variable, with what it lists TIED to the program's text (the seventh form; the later family's looks); each row that meets fmt, with fmt's text TOLD by the authors' own Lean function (tested against real Go, not proved from fmt's source: count such statements apart). THE CARD IS WHAT COUNTS. Prove the row's statement (the work); the ties are given (YtdghkmbppfmifaaGreatDoorTie.lean); close each card by the builder's one call (the guide's Derived/Test/ToyasCard.lean, 'card_holds'). Laid BY PROGRAM, IN A SANDBOX (cutbox-door.mjs). By AI agents, Wed Nov 11 2026. No macro, syntax, notation, axiom, sorry.
-/
import Derived.Test.YtdghkmbppfmifaaGreatDoorRows
import GoSem.ClaimSeven
namespace Go.Proofs.YtdghkmbppfmifaaGreatDoor
namespace Rows

/-- THE TIED CARD OF 'laws.FnLineEach'. -/
def fnLineEachCard : Claim7 := { stood := { row := fnLineEachRow, standIns := [], harness := (true, "3ffe9a79f1a29b68329fe8055274c65018b7525895fb32315b27e73f43d24ddb"), looks := true }, kinds := [], alts := [], laidByText := true, laidKinds := [.data, .data, .data], laidTests := true, laidLooks := .later }
def FnLineEachCardSaid : Prop := Claim7.holds Tryz.pinned (.plain (OpenSpec.ofChange fnLineEachSpec)) fnLineEachCard

/-- THE TIED CARD OF 'laws.FnToldOf'. -/
def fnToldOfCard : Claim7 := { stood := { row := fnToldOfRow, standIns := [], harness := (true, "3ffe9a79f1a29b68329fe8055274c65018b7525895fb32315b27e73f43d24ddb"), looks := true }, kinds := [], alts := [], laidByText := true, laidKinds := [.data, .data, .data], laidTests := true, laidLooks := .later }
def FnToldOfCardSaid : Prop := Claim7.holds Tryz.pinned (.plain (OpenSpec.ofChange fnToldOfSpec)) fnToldOfCard

/-- THE TIED CARD OF 'laws.FnExactAuditLive'. -/
def fnExactAuditLiveCard : Claim7 := { stood := { row := fnExactAuditLiveRow, standIns := [], harness := (true, "3ffe9a79f1a29b68329fe8055274c65018b7525895fb32315b27e73f43d24ddb"), looks := true }, kinds := [], alts := [], laidByText := true, laidKinds := [.data, .data, .data, .sentinel, .sentinel, .sentinel], laidTests := true, laidLooks := .later }
def FnExactAuditLiveCardSaid : Prop := Claim7.holds Tryz.pinned (.plain (OpenSpec.ofChange fnExactAuditLiveSpec)) fnExactAuditLiveCard

/-- THE SECOND FORM's CARD OF 'laws.FnLineEach'. -/
def fnLineEachUptoCard : Claim7 := { stood := { row := fnLineEachUptoRow, standIns := [], harness := (true, "3ffe9a79f1a29b68329fe8055274c65018b7525895fb32315b27e73f43d24ddb"), looks := true }, kinds := [], alts := [], laidByText := true, laidKinds := [.data, .data, .data], laidTests := true, laidLooks := .later }
def FnLineEachUptoCardSaid : Prop := Claim7.holds Tryz.pinned (.plain (OpenSpec.upto fnLineEachSpec)) fnLineEachUptoCard

/-- THE SECOND FORM's CARD OF 'laws.FnToldOf'. -/
def fnToldOfUptoCard : Claim7 := { stood := { row := fnToldOfUptoRow, standIns := [], harness := (true, "3ffe9a79f1a29b68329fe8055274c65018b7525895fb32315b27e73f43d24ddb"), looks := true }, kinds := [], alts := [], laidByText := true, laidKinds := [.data, .data, .data], laidTests := true, laidLooks := .later }
def FnToldOfUptoCardSaid : Prop := Claim7.holds Tryz.pinned (.plain (OpenSpec.upto fnToldOfSpec)) fnToldOfUptoCard

/-- THE SECOND FORM's CARD OF 'laws.FnExactAuditLive'. -/
def fnExactAuditLiveUptoCard : Claim7 := { stood := { row := fnExactAuditLiveUptoRow, standIns := [], harness := (true, "3ffe9a79f1a29b68329fe8055274c65018b7525895fb32315b27e73f43d24ddb"), looks := true }, kinds := [], alts := [], laidByText := true, laidKinds := [.data, .data, .data, .sentinel, .sentinel, .sentinel], laidTests := true, laidLooks := .later }
def FnExactAuditLiveUptoCardSaid : Prop := Claim7.holds Tryz.pinned (.plain (OpenSpec.upto fnExactAuditLiveSpec)) fnExactAuditLiveUptoCard
end Rows
end Go.Proofs.YtdghkmbppfmifaaGreatDoor
