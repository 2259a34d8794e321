/-
  DERIVED. GIVEN WITH THE SEED: THE CARDS: each row of YtmjjcihoobnbgaaDoorRows.lean that lists a variable, with what it lists TIED to the program's text (the seventh form; the later family's looks); each row that meets fmt, with fmt's text TOLD by the authors' own Lean function (tested against real Go, not proved from fmt's source: count such statements apart). THE CARD IS WHAT COUNTS. Prove the row's statement (the work); the ties are given (YtmjjcihoobnbgaaDoorTie.lean); close each card by the builder's one call (the guide's Derived/Test/ToyasCard.lean, 'card_holds'). Laid BY PROGRAM, IN A SANDBOX (cutbox-door.mjs). By AI agents, Wed Nov 11 2026. No macro, syntax, notation, axiom, sorry.
-/
import Derived.Test.YtmjjcihoobnbgaaDoorRows
import GoSem.ClaimSeven
namespace Go.Proofs.YtmjjcihoobnbgaaDoor
namespace Rows

/-- THE TIED CARD OF 'laws.FnActsApart'. -/
def fnActsApartCard : Claim7 := { stood := { row := fnActsApartRow, standIns := [], harness := (true, "c92ada5cff6e9dda2d5334594b9f58e624b37b383a7acb95d78510338284d01f"), looks := true }, kinds := [], alts := [], laidByText := true, laidKinds := [.data, .data, .data, .widerDeep, .widerDeep], laidTests := true, laidLooks := .later }
def FnActsApartCardSaid : Prop := Claim7.holds Tryd.pinned (.plain (OpenSpec.ofChange fnActsApartSpec)) fnActsApartCard

/-- THE TIED CARD OF 'laws.FnExactCallLine'. -/
def fnExactCallLineCard : Claim7 := { stood := { row := fnExactCallLineRow, standIns := [], harness := (true, "c92ada5cff6e9dda2d5334594b9f58e624b37b383a7acb95d78510338284d01f"), looks := true }, kinds := [], alts := [], laidByText := true, laidKinds := [.data, .data, .data, .widerDeep], laidTests := true, laidLooks := .later }
def FnExactCallLineCardSaid : Prop := Claim7.holds Tryd.pinned (.plain (OpenSpec.ofChange fnExactCallLineSpec)) fnExactCallLineCard

/-- THE TIED CARD OF 'laws.FnExactActLine'. -/
def fnExactActLineCard : Claim7 := { stood := { row := fnExactActLineRow, standIns := [], harness := (true, "c92ada5cff6e9dda2d5334594b9f58e624b37b383a7acb95d78510338284d01f"), looks := true }, kinds := [], alts := [], laidByText := true, laidKinds := [.data, .data, .data, .widerDeep, .widerDeep], laidTests := true, laidLooks := .later }
def FnExactActLineCardSaid : Prop := Claim7.holds Tryd.pinned (.plain (OpenSpec.ofChange fnExactActLineSpec)) fnExactActLineCard

/-- THE TIED CARD OF 'laws.FnExactTxLines'. -/
def fnExactTxLinesCard : Claim7 := { stood := { row := fnExactTxLinesRow, standIns := [], harness := (true, "c92ada5cff6e9dda2d5334594b9f58e624b37b383a7acb95d78510338284d01f"), looks := true }, kinds := [], alts := [], laidByText := true, laidKinds := [.data, .data, .data], laidTests := true, laidLooks := .later }
def FnExactTxLinesCardSaid : Prop := Claim7.holds Tryd.pinned (.plain (OpenSpec.ofChange fnExactTxLinesSpec)) fnExactTxLinesCard

/-- THE TIED CARD OF 'laws.FnWordsBack'. -/
def fnWordsBackCard : Claim7 := { stood := { row := fnWordsBackRow, standIns := [], harness := (true, "c92ada5cff6e9dda2d5334594b9f58e624b37b383a7acb95d78510338284d01f"), looks := true }, kinds := [], alts := [], laidByText := true, laidKinds := [.data, .data, .data, .sentinel, .sentinel, .listed, .data, .sentinel, .widerDeep], laidTests := true, laidLooks := .later }
def FnWordsBackCardSaid : Prop := Claim7.holds Tryd.pinned (.plain (OpenSpec.ofChange fnWordsBackSpec)) fnWordsBackCard

/-- THE TIED CARD OF 'laws.FnExactReadCall'. -/
def fnExactReadCallCard : Claim7 := { stood := { row := fnExactReadCallRow, standIns := [], harness := (true, "c92ada5cff6e9dda2d5334594b9f58e624b37b383a7acb95d78510338284d01f"), looks := true }, kinds := [], alts := [], laidByText := true, laidKinds := [.data, .data, .data, .sentinel, .sentinel, .listed, .data, .sentinel, .widerDeep], laidTests := true, laidLooks := .later }
def FnExactReadCallCardSaid : Prop := Claim7.holds Tryd.pinned (.plain (OpenSpec.ofChange fnExactReadCallSpec)) fnExactReadCallCard

/-- THE TIED CARD OF 'laws.FnExactReadAct'. -/
def fnExactReadActCard : Claim7 := { stood := { row := fnExactReadActRow, standIns := [], harness := (true, "c92ada5cff6e9dda2d5334594b9f58e624b37b383a7acb95d78510338284d01f"), looks := true }, kinds := [], alts := [], laidByText := true, laidKinds := [.data, .data, .data, .sentinel, .sentinel, .listed, .data, .sentinel, .widerDeep, .widerDeep], laidTests := true, laidLooks := .later }
def FnExactReadActCardSaid : Prop := Claim7.holds Tryd.pinned (.plain (OpenSpec.ofChange fnExactReadActSpec)) fnExactReadActCard

/-- THE SECOND FORM's CARD OF 'laws.FnActsApart'. -/
def fnActsApartUptoCard : Claim7 := { stood := { row := fnActsApartUptoRow, standIns := [], harness := (true, "c92ada5cff6e9dda2d5334594b9f58e624b37b383a7acb95d78510338284d01f"), looks := true }, kinds := [], alts := [], laidByText := true, laidKinds := [.data, .data, .data, .widerDeep, .widerDeep], laidTests := true, laidLooks := .later }
def FnActsApartUptoCardSaid : Prop := Claim7.holds Tryd.pinned (.plain (OpenSpec.upto fnActsApartSpec)) fnActsApartUptoCard

/-- THE SECOND FORM's CARD OF 'laws.FnExactCallLine'. -/
def fnExactCallLineUptoCard : Claim7 := { stood := { row := fnExactCallLineUptoRow, standIns := [], harness := (true, "c92ada5cff6e9dda2d5334594b9f58e624b37b383a7acb95d78510338284d01f"), looks := true }, kinds := [], alts := [], laidByText := true, laidKinds := [.data, .data, .data, .widerDeep], laidTests := true, laidLooks := .later }
def FnExactCallLineUptoCardSaid : Prop := Claim7.holds Tryd.pinned (.plain (OpenSpec.upto fnExactCallLineSpec)) fnExactCallLineUptoCard

/-- THE SECOND FORM's CARD OF 'laws.FnExactActLine'. -/
def fnExactActLineUptoCard : Claim7 := { stood := { row := fnExactActLineUptoRow, standIns := [], harness := (true, "c92ada5cff6e9dda2d5334594b9f58e624b37b383a7acb95d78510338284d01f"), looks := true }, kinds := [], alts := [], laidByText := true, laidKinds := [.data, .data, .data, .widerDeep, .widerDeep], laidTests := true, laidLooks := .later }
def FnExactActLineUptoCardSaid : Prop := Claim7.holds Tryd.pinned (.plain (OpenSpec.upto fnExactActLineSpec)) fnExactActLineUptoCard

/-- THE SECOND FORM's CARD OF 'laws.FnExactTxLines'. -/
def fnExactTxLinesUptoCard : Claim7 := { stood := { row := fnExactTxLinesUptoRow, standIns := [], harness := (true, "c92ada5cff6e9dda2d5334594b9f58e624b37b383a7acb95d78510338284d01f"), looks := true }, kinds := [], alts := [], laidByText := true, laidKinds := [.data, .data, .data], laidTests := true, laidLooks := .later }
def FnExactTxLinesUptoCardSaid : Prop := Claim7.holds Tryd.pinned (.plain (OpenSpec.upto fnExactTxLinesSpec)) fnExactTxLinesUptoCard

/-- THE SECOND FORM's CARD OF 'laws.FnWordsBack'. -/
def fnWordsBackUptoCard : Claim7 := { stood := { row := fnWordsBackUptoRow, standIns := [], harness := (true, "c92ada5cff6e9dda2d5334594b9f58e624b37b383a7acb95d78510338284d01f"), looks := true }, kinds := [], alts := [], laidByText := true, laidKinds := [.data, .data, .data, .sentinel, .sentinel, .listed, .data, .sentinel, .widerDeep], laidTests := true, laidLooks := .later }
def FnWordsBackUptoCardSaid : Prop := Claim7.holds Tryd.pinned (.plain (OpenSpec.upto fnWordsBackSpec)) fnWordsBackUptoCard

/-- THE SECOND FORM's CARD OF 'laws.FnExactReadCall'. -/
def fnExactReadCallUptoCard : Claim7 := { stood := { row := fnExactReadCallUptoRow, standIns := [], harness := (true, "c92ada5cff6e9dda2d5334594b9f58e624b37b383a7acb95d78510338284d01f"), looks := true }, kinds := [], alts := [], laidByText := true, laidKinds := [.data, .data, .data, .sentinel, .sentinel, .listed, .data, .sentinel, .widerDeep], laidTests := true, laidLooks := .later }
def FnExactReadCallUptoCardSaid : Prop := Claim7.holds Tryd.pinned (.plain (OpenSpec.upto fnExactReadCallSpec)) fnExactReadCallUptoCard

/-- THE SECOND FORM's CARD OF 'laws.FnExactReadAct'. -/
def fnExactReadActUptoCard : Claim7 := { stood := { row := fnExactReadActUptoRow, standIns := [], harness := (true, "c92ada5cff6e9dda2d5334594b9f58e624b37b383a7acb95d78510338284d01f"), looks := true }, kinds := [], alts := [], laidByText := true, laidKinds := [.data, .data, .data, .sentinel, .sentinel, .listed, .data, .sentinel, .widerDeep, .widerDeep], laidTests := true, laidLooks := .later }
def FnExactReadActUptoCardSaid : Prop := Claim7.holds Tryd.pinned (.plain (OpenSpec.upto fnExactReadActSpec)) fnExactReadActUptoCard
end Rows
end Go.Proofs.YtmjjcihoobnbgaaDoor
