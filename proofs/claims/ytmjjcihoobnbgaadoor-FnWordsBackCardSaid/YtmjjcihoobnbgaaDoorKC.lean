/-
  What a cursor over drawn bytes is. No condition.
-/
import Derived.Test.YtmjjcihoobnbgaaDoorPB
namespace Go.Proofs.YtmjjcihoobnbgaaDoor.Fw
open Go.RowKit
set_option linter.unusedVariables false
set_option linter.unusedSimpArgs false
set_option maxRecDepth 100000
structure Cur where
  i : Nat
  h : Int
end Go.Proofs.YtmjjcihoobnbgaaDoor.Fw
