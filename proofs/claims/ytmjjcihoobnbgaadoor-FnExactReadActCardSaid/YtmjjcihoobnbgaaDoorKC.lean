/-
  What a cursor over drawn bytes is. No condition.
-/
import Derived.Test.YtmjjcihoobnbgaaDoorPR
namespace Go.Proofs.YtmjjcihoobnbgaaDoor.Fw
open Go.RowKit
set_option linter.unusedVariables false
set_option linter.unusedSimpArgs false
set_option maxRecDepth 100000
structure Cur where
  i : Nat
  h : Int
theorem andI_in (x y : Int) : I64 (andI .i64 x y) := I64_wrap _
theorem orI_in (x y : Int) : I64 (orI .i64 x y) := I64_wrap _
theorem xorI_in (x y : Int) : I64 (xorI .i64 x y) := I64_wrap _
theorem shlI_in (x y : Int) : I64 (shlI .i64 x y) := I64_wrap _
theorem I64_tmod {x y : Int} (h : I64 x) : I64 (Int.tmod x y) := by
  have h1 : (Int.tmod x y).natAbs ≤ x.natAbs := by
    rw [Int.natAbs_tmod]
    exact Nat.mod_le _ _
  have h2 : 0 ≤ x → 0 ≤ Int.tmod x y := fun h => Int.tmod_nonneg _ h
  have h3 : x ≤ 0 → Int.tmod x y ≤ 0 := fun h => by
    have := Int.tmod_nonneg y (show 0 ≤ -x by omega)
    rw [Int.neg_tmod] at this
    omega
  unfold I64 at h ⊢
  omega
end Go.Proofs.YtmjjcihoobnbgaaDoor.Fw
