/-
  The texts ZFallTwice of this proof, one behind the other: what each proves stands at its head. No condition.
-/
import Derived.Test.YtppialklomgajaaGreatDoorCards
import Derived.Test.YtppialklomgajaaGreatDoorTie
import Derived.JoinedOf
import Derived.KernelRfl
import Derived.RowKit
import Derived.OpenShut
import Derived.ChangeOld
import Derived.SevenTiedAt
namespace Go.Proofs.YtppialklomgajaaGreatDoor.fnExactFallTwice
open Go.ChangeShapes Go.WideShapes Go.RowKit
set_option linter.unusedVariables false
theorem Yl1 : Rows.fnExactFallTwiceRow.wf (OpenSpec.ofChange Rows.fnExactFallTwiceSpec) = true := by kernel_rfl
theorem Ya2 : laidOutB Tryz.prog = true := by kernel_rfl
theorem Yl8 : mapsRowed Tryz.prog = true := by kernel_rfl
theorem Yl6 : namedTie Tryz.prog Rows.fnExactFallTwiceRow.named Rows.fnExactFallTwiceSpec.vars = true := by kernel_rfl
theorem Ymb : (Rows.fnExactFallTwiceRow.inPlace == Tryz.prog.inPlace 8) = true := by kernel_rfl
theorem Yl2 : (Rows.fnExactFallTwiceRow.unfollowed == Tryz.prog.unfollowed 8) = true := by kernel_rfl
theorem Yl4 : (Rows.fnExactFallTwiceRow.recurses == Tryz.prog.recurses 8) = true := by kernel_rfl
theorem Yl7 : (Rows.fnExactFallTwiceRow.named == Tryz.prog.varsNamed 8) = true := by kernel_rfl
theorem Yl5 : (Rows.fnExactFallTwiceRow.plainKeys == Tryz.prog.plainKeys) = true := by kernel_rfl
theorem Yl3 : Tryz.prog.stopsHeard = true := by kernel_rfl
theorem Yl9 : Tryz.prog.mayEnter = true := by kernel_rfl
theorem Yma : (Rows.fnExactFallTwiceRow.lifted == Tryz.prog.liftsFinal) = true := by kernel_rfl
theorem Yhp : Tryz.prog.funcNamed Rows.fnExactFallTwiceRow.func = some 8 := by kernel_rfl
set_option maxRecDepth 100000 in
theorem Ya3 : joinedFacts Tryz.prog 8 Tryz.f8 Rows.fnExactFallTwiceSpec Rows.fnExactFallTwiceRow = true := by
 unfold joinedFacts
 rw [Yl1, Ya2, Yl8, Yl6, Ymb, Yl2, Yl4, Yl7, Yl5, Yl3, Yl9, Yma]
 kernel_rfl
theorem Ygg : decide (Tryz.f8.isInstance Tryz.prog Rows.fnExactFallTwiceRow.origin Rows.fnExactFallTwiceRow.targs) = true := by kernel_rfl
theorem Yho : Rows.fnExactFallTwiceRow.wfByText (OpenSpec.ofChange Rows.fnExactFallTwiceSpec) = true := by kernel_rfl
theorem Ygf : Tryz.prog.mainIs = some (true, "3638aa29f232df4f4c689a3fe87831ed1d4259a176221a98d5fd43055939d1d2".toList) := by kernel_rfl
theorem Yde : true = Tryz.prog.looks [] := by kernel_rfl
theorem Ygh : false = Rows.fnExactFallTwiceRow.goesBy Tryz.prog := by kernel_rfl
end Go.Proofs.YtppialklomgajaaGreatDoor.fnExactFallTwice
