/- Lengths. By program (wip/gen). -/
import Derived.Test.YtmjjcihoobnbgaaDoorPD
namespace Go.Proofs.YtmjjcihoobnbgaaDoor.Fw
open Go.RowKit
set_option linter.unusedVariables false
set_option linter.unusedSimpArgs false


theorem len_I64 {n : Nat} (h : n ≤ maxLen) : I64 (n : Int) := by
  unfold maxLen at h
  unfold I64
  omega

end Go.Proofs.YtmjjcihoobnbgaaDoor.Fw
