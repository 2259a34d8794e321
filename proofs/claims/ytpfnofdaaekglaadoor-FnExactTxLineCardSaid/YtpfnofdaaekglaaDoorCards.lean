/-
  DERIVED. GIVEN WITH THE SEED: THE CARDS: each row of YtpfnofdaaekglaaDoorRows.lean that lists a variable, with what it lists TIED to the program's text (the seventh form; the later family's looks); each row that meets fmt, with fmt's text TOLD by the authors' own Lean function (tested against real Go, not proved from fmt's source: count such statements apart). THE CARD IS WHAT COUNTS. Prove the row's statement (the work); the ties are given (YtpfnofdaaekglaaDoorTie.lean); close each card by the builder's one call (the guide's Derived/Test/ToyasCard.lean, 'card_holds'). Laid BY PROGRAM, IN A SANDBOX (cutbox-door.mjs). By AI agents, Wed Nov 11 2026. No macro, syntax, notation, axiom, sorry.
-/
import Derived.Test.YtpfnofdaaekglaaDoorRows
import GoSem.ClaimSeven
namespace Go.Proofs.YtpfnofdaaekglaaDoor
namespace Rows

/-- THE TIED CARD OF 'laws.FnExactActName'. -/
def fnExactActNameCard : Claim7 := { stood := { row := fnExactActNameRow, standIns := [], harness := (true, "ced246f210c11f613587500ac62ce721159eb83655c7454f67a98e7be25ea8d5"), looks := false }, kinds := [], alts := [], laidByText := true, laidKinds := [.widerDeep], laidTests := true, laidLooks := .later }
def FnExactActNameCardSaid : Prop := Claim7.holds Tryd.pinned (.plain (OpenSpec.ofChange fnExactActNameSpec)) fnExactActNameCard

/-- THE TIED CARD OF 'laws.FnActsApart'. -/
def fnActsApartCard : Claim7 := { stood := { row := fnActsApartRow, standIns := [], harness := (true, "ced246f210c11f613587500ac62ce721159eb83655c7454f67a98e7be25ea8d5"), looks := false }, kinds := [], alts := [], laidByText := true, laidKinds := [.data, .data, .data, .widerDeep, .widerDeep], laidTests := true, laidLooks := .later }
def FnActsApartCardSaid : Prop := Claim7.holds Tryd.pinned (.plain (OpenSpec.ofChange fnActsApartSpec)) fnActsApartCard

/-- THE TIED CARD OF 'laws.FnExactEntryLine'. -/
def fnExactEntryLineCard : Claim7 := { stood := { row := fnExactEntryLineRow, standIns := [], harness := (true, "ced246f210c11f613587500ac62ce721159eb83655c7454f67a98e7be25ea8d5"), looks := false }, kinds := [], alts := [], laidByText := true, laidKinds := [.data, .data, .data], laidTests := true, laidLooks := .later }
def FnExactEntryLineCardSaid : Prop := Claim7.holds Tryd.pinned (.plain (OpenSpec.ofChange fnExactEntryLineSpec)) fnExactEntryLineCard

/-- THE TIED CARD OF 'laws.FnExactCallLine'. -/
def fnExactCallLineCard : Claim7 := { stood := { row := fnExactCallLineRow, standIns := [], harness := (true, "ced246f210c11f613587500ac62ce721159eb83655c7454f67a98e7be25ea8d5"), looks := false }, kinds := [], alts := [], laidByText := true, laidKinds := [.data, .data, .data, .widerDeep], laidTests := true, laidLooks := .later }
def FnExactCallLineCardSaid : Prop := Claim7.holds Tryd.pinned (.plain (OpenSpec.ofChange fnExactCallLineSpec)) fnExactCallLineCard

/-- THE TIED CARD OF 'laws.FnExactActLine'. -/
def fnExactActLineCard : Claim7 := { stood := { row := fnExactActLineRow, standIns := [], harness := (true, "ced246f210c11f613587500ac62ce721159eb83655c7454f67a98e7be25ea8d5"), looks := false }, kinds := [], alts := [], laidByText := true, laidKinds := [.data, .data, .data, .widerDeep, .widerDeep], laidTests := true, laidLooks := .later }
def FnExactActLineCardSaid : Prop := Claim7.holds Tryd.pinned (.plain (OpenSpec.ofChange fnExactActLineSpec)) fnExactActLineCard

/-- THE TIED CARD OF 'laws.FnExactEntryLines'. -/
def fnExactEntryLinesCard : Claim7 := { stood := { row := fnExactEntryLinesRow, standIns := [], harness := (true, "ced246f210c11f613587500ac62ce721159eb83655c7454f67a98e7be25ea8d5"), looks := false }, kinds := [], alts := [], laidByText := true, laidKinds := [.data, .data, .data], laidTests := true, laidLooks := .later }
def FnExactEntryLinesCardSaid : Prop := Claim7.holds Tryd.pinned (.plain (OpenSpec.ofChange fnExactEntryLinesSpec)) fnExactEntryLinesCard

/-- THE TIED CARD OF 'laws.FnExactTxLine'. -/
def fnExactTxLineCard : Claim7 := { stood := { row := fnExactTxLineRow, standIns := [], harness := (true, "ced246f210c11f613587500ac62ce721159eb83655c7454f67a98e7be25ea8d5"), looks := false }, kinds := [], alts := [], laidByText := true, laidKinds := [.data, .data, .data], laidTests := true, laidLooks := .later }
def FnExactTxLineCardSaid : Prop := Claim7.holds Tryd.pinned (.plain (OpenSpec.ofChange fnExactTxLineSpec)) fnExactTxLineCard

/-- THE SECOND FORM's CARD OF 'laws.FnExactActName'. -/
def fnExactActNameUptoCard : Claim7 := { stood := { row := fnExactActNameUptoRow, standIns := [], harness := (true, "ced246f210c11f613587500ac62ce721159eb83655c7454f67a98e7be25ea8d5"), looks := false }, kinds := [], alts := [], laidByText := true, laidKinds := [.widerDeep], laidTests := true, laidLooks := .later }
def FnExactActNameUptoCardSaid : Prop := Claim7.holds Tryd.pinned (.plain (OpenSpec.upto fnExactActNameSpec)) fnExactActNameUptoCard

/-- THE SECOND FORM's CARD OF 'laws.FnActsApart'. -/
def fnActsApartUptoCard : Claim7 := { stood := { row := fnActsApartUptoRow, standIns := [], harness := (true, "ced246f210c11f613587500ac62ce721159eb83655c7454f67a98e7be25ea8d5"), looks := false }, kinds := [], alts := [], laidByText := true, laidKinds := [.data, .data, .data, .widerDeep, .widerDeep], laidTests := true, laidLooks := .later }
def FnActsApartUptoCardSaid : Prop := Claim7.holds Tryd.pinned (.plain (OpenSpec.upto fnActsApartSpec)) fnActsApartUptoCard

/-- THE SECOND FORM's CARD OF 'laws.FnExactEntryLine'. -/
def fnExactEntryLineUptoCard : Claim7 := { stood := { row := fnExactEntryLineUptoRow, standIns := [], harness := (true, "ced246f210c11f613587500ac62ce721159eb83655c7454f67a98e7be25ea8d5"), looks := false }, kinds := [], alts := [], laidByText := true, laidKinds := [.data, .data, .data], laidTests := true, laidLooks := .later }
def FnExactEntryLineUptoCardSaid : Prop := Claim7.holds Tryd.pinned (.plain (OpenSpec.upto fnExactEntryLineSpec)) fnExactEntryLineUptoCard

/-- THE SECOND FORM's CARD OF 'laws.FnExactCallLine'. -/
def fnExactCallLineUptoCard : Claim7 := { stood := { row := fnExactCallLineUptoRow, standIns := [], harness := (true, "ced246f210c11f613587500ac62ce721159eb83655c7454f67a98e7be25ea8d5"), looks := false }, kinds := [], alts := [], laidByText := true, laidKinds := [.data, .data, .data, .widerDeep], laidTests := true, laidLooks := .later }
def FnExactCallLineUptoCardSaid : Prop := Claim7.holds Tryd.pinned (.plain (OpenSpec.upto fnExactCallLineSpec)) fnExactCallLineUptoCard

/-- THE SECOND FORM's CARD OF 'laws.FnExactActLine'. -/
def fnExactActLineUptoCard : Claim7 := { stood := { row := fnExactActLineUptoRow, standIns := [], harness := (true, "ced246f210c11f613587500ac62ce721159eb83655c7454f67a98e7be25ea8d5"), looks := false }, kinds := [], alts := [], laidByText := true, laidKinds := [.data, .data, .data, .widerDeep, .widerDeep], laidTests := true, laidLooks := .later }
def FnExactActLineUptoCardSaid : Prop := Claim7.holds Tryd.pinned (.plain (OpenSpec.upto fnExactActLineSpec)) fnExactActLineUptoCard

/-- THE SECOND FORM's CARD OF 'laws.FnExactEntryLines'. -/
def fnExactEntryLinesUptoCard : Claim7 := { stood := { row := fnExactEntryLinesUptoRow, standIns := [], harness := (true, "ced246f210c11f613587500ac62ce721159eb83655c7454f67a98e7be25ea8d5"), looks := false }, kinds := [], alts := [], laidByText := true, laidKinds := [.data, .data, .data], laidTests := true, laidLooks := .later }
def FnExactEntryLinesUptoCardSaid : Prop := Claim7.holds Tryd.pinned (.plain (OpenSpec.upto fnExactEntryLinesSpec)) fnExactEntryLinesUptoCard

/-- THE SECOND FORM's CARD OF 'laws.FnExactTxLine'. -/
def fnExactTxLineUptoCard : Claim7 := { stood := { row := fnExactTxLineUptoRow, standIns := [], harness := (true, "ced246f210c11f613587500ac62ce721159eb83655c7454f67a98e7be25ea8d5"), looks := false }, kinds := [], alts := [], laidByText := true, laidKinds := [.data, .data, .data], laidTests := true, laidLooks := .later }
def FnExactTxLineUptoCardSaid : Prop := Claim7.holds Tryd.pinned (.plain (OpenSpec.upto fnExactTxLineSpec)) fnExactTxLineUptoCard
end Rows
end Go.Proofs.YtpfnofdaaekglaaDoor
