/-
  DERIVED. GIVEN WITH THE SEED: THE CARDS: each row of YtppialklomgajaaGreatDoorRows.lean that lists a variable, with what it lists TIED to the program's text (the seventh form; the later family's looks); each row that meets fmt, with fmt's text TOLD by the authors' own Lean function (tested against real Go, not proved from fmt's source: count such statements apart). THE CARD IS WHAT COUNTS. Prove the row's statement (the work); the ties are given (YtppialklomgajaaGreatDoorTie.lean); close each card by the builder's one call (the guide's Derived/Test/ToyasCard.lean, 'card_holds'). Laid BY PROGRAM, IN A SANDBOX (cutbox-door.mjs). By AI agents, Wed Nov 11 2026. No macro, syntax, notation, axiom, sorry.
-/
import Derived.Test.YtppialklomgajaaGreatDoorRows
import GoSem.ClaimSeven
namespace Go.Proofs.YtppialklomgajaaGreatDoor
namespace Rows

/-- THE TIED CARD OF 'laws.FnExactAuditStore'. -/
def fnExactAuditStoreCard : Claim7 := { stood := { row := fnExactAuditStoreRow, standIns := [], harness := (true, "3638aa29f232df4f4c689a3fe87831ed1d4259a176221a98d5fd43055939d1d2"), looks := true }, kinds := [], alts := [], laidByText := true, laidKinds := [.data, .data, .data, .data, .sentinel, .sentinel, .sentinel, .pinned], laidTests := true, laidLooks := .later }
def FnExactAuditStoreCardSaid : Prop := Claim7.holds Tryz.pinned (.plain (OpenSpec.ofChange fnExactAuditStoreSpec)) fnExactAuditStoreCard

/-- THE TIED CARD OF 'laws.FnExactSeenSure'. -/
def fnExactSeenSureCard : Claim7 := { stood := { row := fnExactSeenSureRow, standIns := [], harness := (true, "3638aa29f232df4f4c689a3fe87831ed1d4259a176221a98d5fd43055939d1d2"), looks := true }, kinds := [], alts := [], laidByText := true, laidKinds := [.data, .data, .data, .data, .sentinel, .sentinel, .sentinel, .pinned], laidTests := true, laidLooks := .later }
def FnExactSeenSureCardSaid : Prop := Claim7.holds Tryz.pinned (.plain (OpenSpec.ofChange fnExactSeenSureSpec)) fnExactSeenSureCard

/-- THE TIED CARD OF 'laws.FnExactSureOuts'. -/
def fnExactSureOutsCard : Claim7 := { stood := { row := fnExactSureOutsRow, standIns := [], harness := (true, "3638aa29f232df4f4c689a3fe87831ed1d4259a176221a98d5fd43055939d1d2"), looks := true }, kinds := [], alts := [], laidByText := true, laidKinds := [.data, .data, .data, .data, .sentinel, .sentinel, .sentinel, .pinned], laidTests := true, laidLooks := .later }
def FnExactSureOutsCardSaid : Prop := Claim7.holds Tryz.pinned (.plain (OpenSpec.ofChange fnExactSureOutsSpec)) fnExactSureOutsCard

/-- THE TIED CARD OF 'laws.FnExactSureHistory'. -/
def fnExactSureHistoryCard : Claim7 := { stood := { row := fnExactSureHistoryRow, standIns := [], harness := (true, "3638aa29f232df4f4c689a3fe87831ed1d4259a176221a98d5fd43055939d1d2"), looks := true }, kinds := [], alts := [], laidByText := true, laidKinds := [.data, .data, .data, .data, .sentinel, .sentinel, .sentinel, .pinned], laidTests := true, laidLooks := .later }
def FnExactSureHistoryCardSaid : Prop := Claim7.holds Tryz.pinned (.plain (OpenSpec.ofChange fnExactSureHistorySpec)) fnExactSureHistoryCard

/-- THE TIED CARD OF 'laws.FnExactLiveGone'. -/
def fnExactLiveGoneCard : Claim7 := { stood := { row := fnExactLiveGoneRow, standIns := [], harness := (true, "3638aa29f232df4f4c689a3fe87831ed1d4259a176221a98d5fd43055939d1d2"), looks := true }, kinds := [], alts := [], laidByText := true, laidKinds := [.data, .data, .data, .data, .sentinel, .sentinel, .sentinel, .pinned], laidTests := true, laidLooks := .later }
def FnExactLiveGoneCardSaid : Prop := Claim7.holds Tryz.pinned (.plain (OpenSpec.ofChange fnExactLiveGoneSpec)) fnExactLiveGoneCard

/-- THE TIED CARD OF 'laws.FnExactFallTwice'. -/
def fnExactFallTwiceCard : Claim7 := { stood := { row := fnExactFallTwiceRow, standIns := [], harness := (true, "3638aa29f232df4f4c689a3fe87831ed1d4259a176221a98d5fd43055939d1d2"), looks := true }, kinds := [], alts := [], laidByText := true, laidKinds := [.data, .data, .data, .data, .sentinel, .sentinel, .sentinel, .pinned], laidTests := true, laidLooks := .later }
def FnExactFallTwiceCardSaid : Prop := Claim7.holds Tryz.pinned (.plain (OpenSpec.ofChange fnExactFallTwiceSpec)) fnExactFallTwiceCard

/-- THE SECOND FORM's CARD OF 'laws.FnExactAuditStore'. -/
def fnExactAuditStoreUptoCard : Claim7 := { stood := { row := fnExactAuditStoreUptoRow, standIns := [], harness := (true, "3638aa29f232df4f4c689a3fe87831ed1d4259a176221a98d5fd43055939d1d2"), looks := true }, kinds := [], alts := [], laidByText := true, laidKinds := [.data, .data, .data, .data, .sentinel, .sentinel, .sentinel, .pinned], laidTests := true, laidLooks := .later }
def FnExactAuditStoreUptoCardSaid : Prop := Claim7.holds Tryz.pinned (.plain (OpenSpec.upto fnExactAuditStoreSpec)) fnExactAuditStoreUptoCard

/-- THE SECOND FORM's CARD OF 'laws.FnExactSeenSure'. -/
def fnExactSeenSureUptoCard : Claim7 := { stood := { row := fnExactSeenSureUptoRow, standIns := [], harness := (true, "3638aa29f232df4f4c689a3fe87831ed1d4259a176221a98d5fd43055939d1d2"), looks := true }, kinds := [], alts := [], laidByText := true, laidKinds := [.data, .data, .data, .data, .sentinel, .sentinel, .sentinel, .pinned], laidTests := true, laidLooks := .later }
def FnExactSeenSureUptoCardSaid : Prop := Claim7.holds Tryz.pinned (.plain (OpenSpec.upto fnExactSeenSureSpec)) fnExactSeenSureUptoCard

/-- THE SECOND FORM's CARD OF 'laws.FnExactSureOuts'. -/
def fnExactSureOutsUptoCard : Claim7 := { stood := { row := fnExactSureOutsUptoRow, standIns := [], harness := (true, "3638aa29f232df4f4c689a3fe87831ed1d4259a176221a98d5fd43055939d1d2"), looks := true }, kinds := [], alts := [], laidByText := true, laidKinds := [.data, .data, .data, .data, .sentinel, .sentinel, .sentinel, .pinned], laidTests := true, laidLooks := .later }
def FnExactSureOutsUptoCardSaid : Prop := Claim7.holds Tryz.pinned (.plain (OpenSpec.upto fnExactSureOutsSpec)) fnExactSureOutsUptoCard

/-- THE SECOND FORM's CARD OF 'laws.FnExactSureHistory'. -/
def fnExactSureHistoryUptoCard : Claim7 := { stood := { row := fnExactSureHistoryUptoRow, standIns := [], harness := (true, "3638aa29f232df4f4c689a3fe87831ed1d4259a176221a98d5fd43055939d1d2"), looks := true }, kinds := [], alts := [], laidByText := true, laidKinds := [.data, .data, .data, .data, .sentinel, .sentinel, .sentinel, .pinned], laidTests := true, laidLooks := .later }
def FnExactSureHistoryUptoCardSaid : Prop := Claim7.holds Tryz.pinned (.plain (OpenSpec.upto fnExactSureHistorySpec)) fnExactSureHistoryUptoCard

/-- THE SECOND FORM's CARD OF 'laws.FnExactLiveGone'. -/
def fnExactLiveGoneUptoCard : Claim7 := { stood := { row := fnExactLiveGoneUptoRow, standIns := [], harness := (true, "3638aa29f232df4f4c689a3fe87831ed1d4259a176221a98d5fd43055939d1d2"), looks := true }, kinds := [], alts := [], laidByText := true, laidKinds := [.data, .data, .data, .data, .sentinel, .sentinel, .sentinel, .pinned], laidTests := true, laidLooks := .later }
def FnExactLiveGoneUptoCardSaid : Prop := Claim7.holds Tryz.pinned (.plain (OpenSpec.upto fnExactLiveGoneSpec)) fnExactLiveGoneUptoCard

/-- THE SECOND FORM's CARD OF 'laws.FnExactFallTwice'. -/
def fnExactFallTwiceUptoCard : Claim7 := { stood := { row := fnExactFallTwiceUptoRow, standIns := [], harness := (true, "3638aa29f232df4f4c689a3fe87831ed1d4259a176221a98d5fd43055939d1d2"), looks := true }, kinds := [], alts := [], laidByText := true, laidKinds := [.data, .data, .data, .data, .sentinel, .sentinel, .sentinel, .pinned], laidTests := true, laidLooks := .later }
def FnExactFallTwiceUptoCardSaid : Prop := Claim7.holds Tryz.pinned (.plain (OpenSpec.upto fnExactFallTwiceSpec)) fnExactFallTwiceUptoCard
end Rows
end Go.Proofs.YtppialklomgajaaGreatDoor
