/- Sizes of the lines of entries. By program (wip/gen). -/
import Derived.Test.YtpfnofdaaekglaaDoorPE
namespace Go.Proofs.YtpfnofdaaekglaaDoor.Fw
open Go.RowKit
set_option linter.unusedVariables false
set_option linter.unusedSimpArgs false


theorem bt_size (a : Array UInt8) : (⟨a⟩ : ByteArray).size = a.size := rfl
theorem spec_EntryLine_size {B : Nat → Prop} {w : World} {cs : List Value} {e : Entry} (h : Dat.rd B w cs e) : (spec_EntryLine e).size ≤ 60 := by
  have hg := Dat.rd_good h
  have h1 : (spec_Decimal e.Seq).size ≤ 20 := spec_Decimal_size hg.1
  have h2 : (spec_Decimal (e.Steps.length : Int)).size ≤ 20 := spec_Decimal_size (len_I64 hg.2.2.2.1.1)
  unfold spec_EntryLine
  split
  · split <;> (simp only [ByteArray.size_append, bt_size, List.size_toArray, List.length]; omega)
  · split
    · split <;> (simp only [ByteArray.size_append, bt_size, List.size_toArray, List.length]; omega)
    · split <;> (simp only [ByteArray.size_append, bt_size, List.size_toArray, List.length]; omega)
theorem impl_EntryLine_size {B : Nat → Prop} {w : World} {cs : List Value} {e : Entry} (h : Dat.rd B w cs e) : (impl_EntryLine e).size ≤ 60 := by
  rw [EntryLine_twin (Dat.rd_good h)]
  exact spec_EntryLine_size h

end Go.Proofs.YtpfnofdaaekglaaDoor.Fw
