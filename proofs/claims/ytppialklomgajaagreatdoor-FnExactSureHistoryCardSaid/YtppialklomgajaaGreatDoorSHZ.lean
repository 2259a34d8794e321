/-
  The texts ZSureHistory of this proof, one behind the other: what each proves stands at its head. No condition.
-/
import Derived.Test.YtppialklomgajaaGreatDoorCards
import Derived.Test.YtppialklomgajaaGreatDoorTie
import Derived.JoinedOf
import Derived.KernelRfl
import Derived.RowKit
import Derived.OpenShut
import Derived.ChangeOld
import Derived.SevenTiedAt
namespace Go.Proofs.YtppialklomgajaaGreatDoor.fnExactSureHistory
open Go.ChangeShapes Go.WideShapes Go.RowKit
set_option linter.unusedVariables false
theorem Yr6 : Rows.fnExactSureHistoryRow.wf (OpenSpec.ofChange Rows.fnExactSureHistorySpec) = true := by kernel_rfl
theorem Yih : laidOutB Tryz.prog = true := by kernel_rfl
theorem Ysd : mapsRowed Tryz.prog = true := by kernel_rfl
theorem Ysb : namedTie Tryz.prog Rows.fnExactSureHistoryRow.named Rows.fnExactSureHistorySpec.vars = true := by kernel_rfl
theorem Ysg : (Rows.fnExactSureHistoryRow.inPlace == Tryz.prog.inPlace 6) = true := by kernel_rfl
theorem Yr7 : (Rows.fnExactSureHistoryRow.unfollowed == Tryz.prog.unfollowed 6) = true := by kernel_rfl
theorem Yr9 : (Rows.fnExactSureHistoryRow.recurses == Tryz.prog.recurses 6) = true := by kernel_rfl
theorem Ysc : (Rows.fnExactSureHistoryRow.named == Tryz.prog.varsNamed 6) = true := by kernel_rfl
theorem Ysa : (Rows.fnExactSureHistoryRow.plainKeys == Tryz.prog.plainKeys) = true := by kernel_rfl
theorem Yr8 : Tryz.prog.stopsHeard = true := by kernel_rfl
theorem Yse : Tryz.prog.mayEnter = true := by kernel_rfl
theorem Ysf : (Rows.fnExactSureHistoryRow.lifted == Tryz.prog.liftsFinal) = true := by kernel_rfl
theorem You : Tryz.prog.funcNamed Rows.fnExactSureHistoryRow.func = some 6 := by kernel_rfl
set_option maxRecDepth 100000 in
theorem Yii : joinedFacts Tryz.prog 6 Tryz.f6 Rows.fnExactSureHistorySpec Rows.fnExactSureHistoryRow = true := by
 unfold joinedFacts
 rw [Yr6, Yih, Ysd, Ysb, Ysg, Yr7, Yr9, Ysc, Ysa, Yr8, Yse, Ysf]
 kernel_rfl
theorem Ynb : decide (Tryz.f6.isInstance Tryz.prog Rows.fnExactSureHistoryRow.origin Rows.fnExactSureHistoryRow.targs) = true := by kernel_rfl
theorem Yot : Rows.fnExactSureHistoryRow.wfByText (OpenSpec.ofChange Rows.fnExactSureHistorySpec) = true := by kernel_rfl
theorem Yna : Tryz.prog.mainIs = some (true, "3638aa29f232df4f4c689a3fe87831ed1d4259a176221a98d5fd43055939d1d2".toList) := by kernel_rfl
theorem Ykg : true = Tryz.prog.looks [] := by kernel_rfl
theorem Ync : false = Rows.fnExactSureHistoryRow.goesBy Tryz.prog := by kernel_rfl
end Go.Proofs.YtppialklomgajaaGreatDoor.fnExactSureHistory
