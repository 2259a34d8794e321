/- Sizes of the lines of transactions. By program (wip/gen). -/
import Derived.Test.YtmjjcihoobnbgaaDoorPT
namespace Go.Proofs.YtmjjcihoobnbgaaDoor.Fw
open Go.RowKit
set_option linter.unusedVariables false
set_option linter.unusedSimpArgs false


theorem bt_size' (a : Array UInt8) : (⟨a⟩ : ByteArray).size = a.size := rfl
theorem spec_TxLine_size {B : Nat → Prop} {w : World} {cs : List Value} {e : Tx} (h : Dat.rd B w cs e) : (spec_TxLine e).size ≤ 200 := by
  have hg := Dat.rd_good h
  have h1 : (spec_Decimal e.Id).size ≤ 20 := spec_Decimal_size hg.1
  have h2 : (spec_Decimal e.Age).size ≤ 20 := spec_Decimal_size hg.2.1
  have h3 : (spec_Decimal e.Proc).size ≤ 20 := spec_Decimal_size hg.2.2.1
  have h4 : (spec_Decimal (e.Calls.length : Int)).size ≤ 20 := spec_Decimal_size (len_I64 hg.2.2.2.2.1.1)
  unfold spec_TxLine
  repeat' split
  all_goals (simp only [ByteArray.size_append, bt_size', List.size_toArray, List.length]; omega)
theorem impl_TxLine_size {B : Nat → Prop} {w : World} {cs : List Value} {e : Tx} (h : Dat.rd B w cs e) : (impl_TxLine e).size ≤ 200 := by
  rw [TxLine_twin (Dat.rd_good h)]
  exact spec_TxLine_size h

end Go.Proofs.YtmjjcihoobnbgaaDoor.Fw
