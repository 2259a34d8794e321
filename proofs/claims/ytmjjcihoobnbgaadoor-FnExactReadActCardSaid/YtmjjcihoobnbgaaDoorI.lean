/- strconv.Itoa: its contract out of the library shelf. By program (wip/gen). -/
import Derived.Test.YtmjjcihoobnbgaaDoorG
import Derived.Test.YtmjjcihoobnbgaaDoorFocus
import Derived.Test.YtmjjcihoobnbgaaDoorShelf
namespace Go.Proofs.YtmjjcihoobnbgaaDoor.Fw
open Go.RowKit
set_option linter.unusedVariables false
set_option linter.unusedSimpArgs false


def strconv_Itoa (p0 : Int) : ByteArray := ⟨(Lib.itoa p0).toArray⟩
theorem gl7_eq : gl7 = Lib.pow10Tab := by decide
open Go.Sort in
theorem below_grow (w : World) (k : Nat) (os : Array Obj) : Below w.heap.size w (grow (w.drewN k) os) := by
  refine ⟨rfl, rfl, rfl, by simp [grow, World.drewN], fun b hb => ?_⟩
  show (w.heap ++ os)[b]? = w.heap[b]?
  rw [Array.getElem?_append_left hb]
theorem c_strconv_Itoa (p0 : Int) {w : World} (hi0 : I64 p0) (hG7 : GV 7 (gl7.map (Value.int .u64)) w) :
    Calls Tryd.prog 86 [.int .i64 p0].toArray w (fun e w' => e = .returned (.string (strconv_Itoa p0)) ∧ Below w.heap.size w w') := by
  have ht : Lib.TabIs Tryd.prog w "internal/strconv.uint64pow10" .u64 Lib.pow10Tab := by
    rw [← gl7_eq]
    exact hG7.var (by kernel_rfl)
  refine (Tryd.strconv_Itoa p0 hi0.1 hi0.2 w ht).mono fun e w2 h => ?_
  obtain ⟨h1, k, os, rfl⟩ := h
  exact ⟨h1, below_grow w k os⟩

end Go.Proofs.YtmjjcihoobnbgaaDoor.Fw
