/-
  No cell of these rows narrows 'for every input' (looked for: loops, veiled, ifaces, maps, wideKeys, modest, calm, conditions, laid).
  DERIVED. THE GIVEN ROWS OF THIS SEAT. 6 by the template 'for every input the law returns true; each argument reads behind the call as it read before'; 0 by the template 'total and deterministic' (their statements: YtpfnofdaaekglaaTotals.lean).
  GIVEN WITH THE SEED: the statements are not yours to turn. If you find one false, say at which input.
  Laid BY PROGRAM, IN A SANDBOX (cutbox-rows.mjs): the forced cells as the released guide's own fill.sh prints them over the translation 56dd75239d102772… (all of the seat's roots in one cut). By AI agents, Wed Nov 11 2026. No macro, syntax, notation, axiom, sorry.
-/
import Derived.Test.YtpfnofdaaekglaaChecked
import GoSem.Claim
import GoSem.ClaimJoined
import GoSem.ClaimMapViews
import Derived.JoinedTies
import Derived.KernelRfl
namespace Go.Proofs.Ytpfnofdaaekglaa
/- THE CELL 'sum', in the pinned program and in every row, IS THE sha256 OF THE DUMP (.gsa) THAT YtpfnofdaaekglaaProg.lean LOADS. Nothing in Lean hashes anything: it is a label: what it is worth is what the hold of that sum in a sandbox is worth. -/
noncomputable def Try.pinned : Pinned := { name := "ytpfnofdaaekglaa", sum := "56dd75239d102772f9b9a996d1c1003b52904e0ad4c36b1148d107c7ac33141d", checked := Try.checked }
namespace Rows
def none {H : Type} : Left H := { results := [], args := [] }

/-- 'laws.FnExactCodeName': WHATEVER THE INPUT: true; the input reads as it did. -/
def fnExactCodeNameSpec : ChangeSpec := { name := "fnExactCodeName", fn := fun _ => fun
  | [d] => { results := [.lit (.bool true)], args := [d] }
  | _ => none }
def fnExactCodeNameRow : OpenClaim := { program := "ytpfnofdaaekglaa", sum := "56dd75239d102772f9b9a996d1c1003b52904e0ad4c36b1148d107c7ac33141d", func := "loop.example/g00974/laws.FnExactCodeName", spec := "fnExactCodeName", apart := false }
def FnExactCodeNameSaid : Prop := fnExactCodeNameRow.holds Try.pinned (OpenSpec.ofChange fnExactCodeNameSpec)

/-- ITS FALSE NEIGHBOUR: 'it returns false'. Refute it at one input. -/
def fnExactCodeNameWrong : ChangeSpec := { name := "fnExactCodeName", fn := fun _ => fun
  | [d] => { results := [.lit (.bool false)], args := [d] }
  | _ => none }
def FnExactCodeNameWrongFalsely : Prop := fnExactCodeNameRow.holds Try.pinned (OpenSpec.ofChange fnExactCodeNameWrong)

/-- 'laws.FnExactAuditSeqs': WHATEVER THE INPUT: true; the input reads as it did. -/
def fnExactAuditSeqsSpec : ChangeSpec := { name := "fnExactAuditSeqs", fn := fun _ => fun
  | [d] => { results := [.lit (.bool true)], args := [d] }
  | _ => none }
def fnExactAuditSeqsRow : OpenClaim := { program := "ytpfnofdaaekglaa", sum := "56dd75239d102772f9b9a996d1c1003b52904e0ad4c36b1148d107c7ac33141d", func := "loop.example/g00974/laws.FnExactAuditSeqs", spec := "fnExactAuditSeqs", apart := false }
def FnExactAuditSeqsSaid : Prop := fnExactAuditSeqsRow.holds Try.pinned (OpenSpec.ofChange fnExactAuditSeqsSpec)

/-- ITS FALSE NEIGHBOUR: 'it returns false'. Refute it at one input. -/
def fnExactAuditSeqsWrong : ChangeSpec := { name := "fnExactAuditSeqs", fn := fun _ => fun
  | [d] => { results := [.lit (.bool false)], args := [d] }
  | _ => none }
def FnExactAuditSeqsWrongFalsely : Prop := fnExactAuditSeqsRow.holds Try.pinned (OpenSpec.ofChange fnExactAuditSeqsWrong)

/-- 'laws.FnExactIsBeginning': WHATEVER THE INPUT: true; the input reads as it did. -/
def fnExactIsBeginningSpec : ChangeSpec := { name := "fnExactIsBeginning", fn := fun _ => fun
  | [d1, d2] => { results := [.lit (.bool true)], args := [d1, d2] }
  | _ => none }
def fnExactIsBeginningRow : OpenClaim := { program := "ytpfnofdaaekglaa", sum := "56dd75239d102772f9b9a996d1c1003b52904e0ad4c36b1148d107c7ac33141d", func := "loop.example/g00974/laws.FnExactIsBeginning", spec := "fnExactIsBeginning", unfollowed := true, recurses := true, apart := false }
def FnExactIsBeginningSaid : Prop := fnExactIsBeginningRow.holds Try.pinned (OpenSpec.ofChange fnExactIsBeginningSpec)

/-- ITS FALSE NEIGHBOUR: 'it returns false'. Refute it at one input. -/
def fnExactIsBeginningWrong : ChangeSpec := { name := "fnExactIsBeginning", fn := fun _ => fun
  | [d1, d2] => { results := [.lit (.bool false)], args := [d1, d2] }
  | _ => none }
def FnExactIsBeginningWrongFalsely : Prop := fnExactIsBeginningRow.holds Try.pinned (OpenSpec.ofChange fnExactIsBeginningWrong)

/-- 'laws.FnExactSpans': WHATEVER THE INPUT: true; the input reads as it did. -/
def fnExactSpansSpec : ChangeSpec := { name := "fnExactSpans", fn := fun _ => fun
  | [d1, d2] => { results := [.lit (.bool true)], args := [d1, d2] }
  | _ => none }
def fnExactSpansRow : OpenClaim := { program := "ytpfnofdaaekglaa", sum := "56dd75239d102772f9b9a996d1c1003b52904e0ad4c36b1148d107c7ac33141d", func := "loop.example/g00974/laws.FnExactSpans", spec := "fnExactSpans", apart := false }
def FnExactSpansSaid : Prop := fnExactSpansRow.holds Try.pinned (OpenSpec.ofChange fnExactSpansSpec)

/-- ITS FALSE NEIGHBOUR: 'it returns false'. Refute it at one input. -/
def fnExactSpansWrong : ChangeSpec := { name := "fnExactSpans", fn := fun _ => fun
  | [d1, d2] => { results := [.lit (.bool false)], args := [d1, d2] }
  | _ => none }
def FnExactSpansWrongFalsely : Prop := fnExactSpansRow.holds Try.pinned (OpenSpec.ofChange fnExactSpansWrong)

/-- 'laws.FnExactOutsOf': WHATEVER THE INPUT: true; the input reads as it did. -/
def fnExactOutsOfSpec : ChangeSpec := { name := "fnExactOutsOf", fn := fun _ => fun
  | [d] => { results := [.lit (.bool true)], args := [d] }
  | _ => none }
def fnExactOutsOfRow : OpenClaim := { program := "ytpfnofdaaekglaa", sum := "56dd75239d102772f9b9a996d1c1003b52904e0ad4c36b1148d107c7ac33141d", func := "loop.example/g00974/laws.FnExactOutsOf", spec := "fnExactOutsOf", apart := false }
def FnExactOutsOfSaid : Prop := fnExactOutsOfRow.holds Try.pinned (OpenSpec.ofChange fnExactOutsOfSpec)

/-- ITS FALSE NEIGHBOUR: 'it returns false'. Refute it at one input. -/
def fnExactOutsOfWrong : ChangeSpec := { name := "fnExactOutsOf", fn := fun _ => fun
  | [d] => { results := [.lit (.bool false)], args := [d] }
  | _ => none }
def FnExactOutsOfWrongFalsely : Prop := fnExactOutsOfRow.holds Try.pinned (OpenSpec.ofChange fnExactOutsOfWrong)

/-- 'laws.FnExactStillLive': WHATEVER THE INPUT: true; the input reads as it did. -/
def fnExactStillLiveSpec : ChangeSpec := { name := "fnExactStillLive", fn := fun _ => fun
  | [d1, d2] => { results := [.lit (.bool true)], args := [d1, d2] }
  | _ => none }
def fnExactStillLiveRow : OpenClaim := { program := "ytpfnofdaaekglaa", sum := "56dd75239d102772f9b9a996d1c1003b52904e0ad4c36b1148d107c7ac33141d", func := "loop.example/g00974/laws.FnExactStillLive", spec := "fnExactStillLive", unfollowed := true, recurses := true, apart := false }
def FnExactStillLiveSaid : Prop := fnExactStillLiveRow.holds Try.pinned (OpenSpec.ofChange fnExactStillLiveSpec)

/-- ITS FALSE NEIGHBOUR: 'it returns false'. Refute it at one input. -/
def fnExactStillLiveWrong : ChangeSpec := { name := "fnExactStillLive", fn := fun _ => fun
  | [d1, d2] => { results := [.lit (.bool false)], args := [d1, d2] }
  | _ => none }
def FnExactStillLiveWrongFalsely : Prop := fnExactStillLiveRow.holds Try.pinned (OpenSpec.ofChange fnExactStillLiveWrong)

/- THE SECOND FORM. 'bulk': how many values and letters a reading holds, each counted each time it is reached (what is shared counts as often as it is met; a slice's spare places count too). A statement '..UptoSaid' is the law's where the arguments, and the package variables that the reading takes, are together of bulk at most 1048576: NARROWER than '..Said'. Prove '..Said' where nothing that the law and all that it calls make is longer than what came in: it says more and counts as full. Else prove '..UptoSaid'. A law counts once. -/
mutual
def uptoBulk {H : Type} : DataW H → Nat
  | .lit (.string bytes) => bytes.length + 1
  | .lit _ => 1
  | .nil => 1
  | .ptr d => uptoBulk d + 1
  | .slice elems spare => uptoBulkAll elems + uptoBulkAll spare + 1
  | .agg parts => uptoBulkAll parts + 1
  | .iface _ d => uptoBulk d + 1
  | .map entries => uptoBulkEntries entries + 1
  | .held _ => 1
def uptoBulkAll {H : Type} : List (DataW H) → Nat
  | [] => 0
  | d :: r => uptoBulk d + uptoBulkAll r
def uptoBulkEntries {H : Type} : List (Lit × DataW H) → Nat
  | [] => 0
  | x :: r => uptoBulkEntry x + uptoBulkEntries r
def uptoBulkEntry {H : Type} : Lit × DataW H → Nat
  | (.string bytes, d) => bytes.length + uptoBulk d + 1
  | (_, d) => uptoBulk d + 1
 end
def uptoSmall : (H : Type) → List (DataW H) → Bool := fun _ ds => decide (uptoBulkAll ds ≤ 1048576)
def OpenSpec.upto (s : _root_.Go.ChangeSpec) : _root_.Go.OpenSpec := { _root_.Go.OpenSpec.ofChange s with cond := some uptoSmall }

/-- 'laws.FnExactCodeName', WHERE WHAT IT READS IS OF BULK AT MOST 1048576: true; the input reads as it did. -/
def fnExactCodeNameUptoRow : OpenClaim := { program := "ytpfnofdaaekglaa", sum := "56dd75239d102772f9b9a996d1c1003b52904e0ad4c36b1148d107c7ac33141d", func := "loop.example/g00974/laws.FnExactCodeName", spec := "fnExactCodeName", apart := false, narrowed := true }
def FnExactCodeNameUptoSaid : Prop := fnExactCodeNameUptoRow.holds Try.pinned (OpenSpec.upto fnExactCodeNameSpec)

/-- 'laws.FnExactAuditSeqs', WHERE WHAT IT READS IS OF BULK AT MOST 1048576: true; the input reads as it did. -/
def fnExactAuditSeqsUptoRow : OpenClaim := { program := "ytpfnofdaaekglaa", sum := "56dd75239d102772f9b9a996d1c1003b52904e0ad4c36b1148d107c7ac33141d", func := "loop.example/g00974/laws.FnExactAuditSeqs", spec := "fnExactAuditSeqs", apart := false, narrowed := true }
def FnExactAuditSeqsUptoSaid : Prop := fnExactAuditSeqsUptoRow.holds Try.pinned (OpenSpec.upto fnExactAuditSeqsSpec)

/-- 'laws.FnExactIsBeginning', WHERE WHAT IT READS IS OF BULK AT MOST 1048576: true; the input reads as it did. -/
def fnExactIsBeginningUptoRow : OpenClaim := { program := "ytpfnofdaaekglaa", sum := "56dd75239d102772f9b9a996d1c1003b52904e0ad4c36b1148d107c7ac33141d", func := "loop.example/g00974/laws.FnExactIsBeginning", spec := "fnExactIsBeginning", unfollowed := true, recurses := true, apart := false, narrowed := true }
def FnExactIsBeginningUptoSaid : Prop := fnExactIsBeginningUptoRow.holds Try.pinned (OpenSpec.upto fnExactIsBeginningSpec)

/-- 'laws.FnExactSpans', WHERE WHAT IT READS IS OF BULK AT MOST 1048576: true; the input reads as it did. -/
def fnExactSpansUptoRow : OpenClaim := { program := "ytpfnofdaaekglaa", sum := "56dd75239d102772f9b9a996d1c1003b52904e0ad4c36b1148d107c7ac33141d", func := "loop.example/g00974/laws.FnExactSpans", spec := "fnExactSpans", apart := false, narrowed := true }
def FnExactSpansUptoSaid : Prop := fnExactSpansUptoRow.holds Try.pinned (OpenSpec.upto fnExactSpansSpec)

/-- 'laws.FnExactOutsOf', WHERE WHAT IT READS IS OF BULK AT MOST 1048576: true; the input reads as it did. -/
def fnExactOutsOfUptoRow : OpenClaim := { program := "ytpfnofdaaekglaa", sum := "56dd75239d102772f9b9a996d1c1003b52904e0ad4c36b1148d107c7ac33141d", func := "loop.example/g00974/laws.FnExactOutsOf", spec := "fnExactOutsOf", apart := false, narrowed := true }
def FnExactOutsOfUptoSaid : Prop := fnExactOutsOfUptoRow.holds Try.pinned (OpenSpec.upto fnExactOutsOfSpec)

/-- 'laws.FnExactStillLive', WHERE WHAT IT READS IS OF BULK AT MOST 1048576: true; the input reads as it did. -/
def fnExactStillLiveUptoRow : OpenClaim := { program := "ytpfnofdaaekglaa", sum := "56dd75239d102772f9b9a996d1c1003b52904e0ad4c36b1148d107c7ac33141d", func := "loop.example/g00974/laws.FnExactStillLive", spec := "fnExactStillLive", unfollowed := true, recurses := true, apart := false, narrowed := true }
def FnExactStillLiveUptoSaid : Prop := fnExactStillLiveUptoRow.holds Try.pinned (OpenSpec.upto fnExactStillLiveSpec)

end Rows
end Go.Proofs.Ytpfnofdaaekglaa
