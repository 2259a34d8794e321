/-
  The texts ZSureOuts of this proof, one behind the other: what each proves stands at its head. No condition.
-/
import Derived.Test.YtppialklomgajaaGreatDoorCards
import Derived.Test.YtppialklomgajaaGreatDoorTie
import Derived.JoinedOf
import Derived.KernelRfl
import Derived.RowKit
import Derived.OpenShut
import Derived.ChangeOld
import Derived.SevenTiedAt
namespace Go.Proofs.YtppialklomgajaaGreatDoor.fnExactSureOuts
open Go.ChangeShapes Go.WideShapes Go.RowKit
set_option linter.unusedVariables false
theorem Ys2 : Rows.fnExactSureOutsRow.wf (OpenSpec.ofChange Rows.fnExactSureOutsSpec) = true := by kernel_rfl
theorem Yiz : laidOutB Tryz.prog = true := by kernel_rfl
theorem Ys9 : mapsRowed Tryz.prog = true := by kernel_rfl
theorem Ys7 : namedTie Tryz.prog Rows.fnExactSureOutsRow.named Rows.fnExactSureOutsSpec.vars = true := by kernel_rfl
theorem Ytc : (Rows.fnExactSureOutsRow.inPlace == Tryz.prog.inPlace 5) = true := by kernel_rfl
theorem Ys3 : (Rows.fnExactSureOutsRow.unfollowed == Tryz.prog.unfollowed 5) = true := by kernel_rfl
theorem Ys5 : (Rows.fnExactSureOutsRow.recurses == Tryz.prog.recurses 5) = true := by kernel_rfl
theorem Ys8 : (Rows.fnExactSureOutsRow.named == Tryz.prog.varsNamed 5) = true := by kernel_rfl
theorem Ys6 : (Rows.fnExactSureOutsRow.plainKeys == Tryz.prog.plainKeys) = true := by kernel_rfl
theorem Ys4 : Tryz.prog.stopsHeard = true := by kernel_rfl
theorem Yta : Tryz.prog.mayEnter = true := by kernel_rfl
theorem Ytb : (Rows.fnExactSureOutsRow.lifted == Tryz.prog.liftsFinal) = true := by kernel_rfl
theorem Ypl : Tryz.prog.funcNamed Rows.fnExactSureOutsRow.func = some 5 := by kernel_rfl
set_option maxRecDepth 100000 in
theorem Yi0 : joinedFacts Tryz.prog 5 Tryz.f5 Rows.fnExactSureOutsSpec Rows.fnExactSureOutsRow = true := by
 unfold joinedFacts
 rw [Ys2, Yiz, Ys9, Ys7, Ytc, Ys3, Ys5, Ys8, Ys6, Ys4, Yta, Ytb]
 kernel_rfl
theorem Yny : decide (Tryz.f5.isInstance Tryz.prog Rows.fnExactSureOutsRow.origin Rows.fnExactSureOutsRow.targs) = true := by kernel_rfl
theorem Ypk : Rows.fnExactSureOutsRow.wfByText (OpenSpec.ofChange Rows.fnExactSureOutsSpec) = true := by kernel_rfl
theorem Ynx : Tryz.prog.mainIs = some (true, "3638aa29f232df4f4c689a3fe87831ed1d4259a176221a98d5fd43055939d1d2".toList) := by kernel_rfl
theorem Yk6 : true = Tryz.prog.looks [] := by kernel_rfl
theorem Ynz : false = Rows.fnExactSureOutsRow.goesBy Tryz.prog := by kernel_rfl
end Go.Proofs.YtppialklomgajaaGreatDoor.fnExactSureOuts
