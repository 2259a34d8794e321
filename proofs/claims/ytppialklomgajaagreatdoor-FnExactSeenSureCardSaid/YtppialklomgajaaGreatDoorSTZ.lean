/-
  The texts ZSeenSure of this proof, one behind the other: what each proves stands at its head. No condition.
-/
import Derived.Test.YtppialklomgajaaGreatDoorCards
import Derived.Test.YtppialklomgajaaGreatDoorTie
import Derived.JoinedOf
import Derived.KernelRfl
import Derived.RowKit
import Derived.OpenShut
import Derived.ChangeOld
import Derived.SevenTiedAt
namespace Go.Proofs.YtppialklomgajaaGreatDoor.fnExactSeenSure
open Go.ChangeShapes Go.WideShapes Go.RowKit
set_option linter.unusedVariables false
theorem Ypb : Rows.fnExactSeenSureRow.wf (OpenSpec.ofChange Rows.fnExactSeenSureSpec) = true := by kernel_rfl
theorem Ygk : laidOutB Tryz.prog = true := by kernel_rfl
theorem Ypi : mapsRowed Tryz.prog = true := by kernel_rfl
theorem Ypg : namedTie Tryz.prog Rows.fnExactSeenSureRow.named Rows.fnExactSeenSureSpec.vars = true := by kernel_rfl
theorem Ypl : (Rows.fnExactSeenSureRow.inPlace == Tryz.prog.inPlace 4) = true := by kernel_rfl
theorem Ypc : (Rows.fnExactSeenSureRow.unfollowed == Tryz.prog.unfollowed 4) = true := by kernel_rfl
theorem Ype : (Rows.fnExactSeenSureRow.recurses == Tryz.prog.recurses 4) = true := by kernel_rfl
theorem Yph : (Rows.fnExactSeenSureRow.named == Tryz.prog.varsNamed 4) = true := by kernel_rfl
theorem Ypf : (Rows.fnExactSeenSureRow.plainKeys == Tryz.prog.plainKeys) = true := by kernel_rfl
theorem Ypd : Tryz.prog.stopsHeard = true := by kernel_rfl
theorem Ypj : Tryz.prog.mayEnter = true := by kernel_rfl
theorem Ypk : (Rows.fnExactSeenSureRow.lifted == Tryz.prog.liftsFinal) = true := by kernel_rfl
theorem Yl9 : Tryz.prog.funcNamed Rows.fnExactSeenSureRow.func = some 4 := by kernel_rfl
set_option maxRecDepth 100000 in
theorem Ygl : joinedFacts Tryz.prog 4 Tryz.f4 Rows.fnExactSeenSureSpec Rows.fnExactSeenSureRow = true := by
  unfold joinedFacts
  rw [Ypb, Ygk, Ypi, Ypg, Ypl, Ypc, Ype, Yph, Ypf, Ypd, Ypj, Ypk]
  kernel_rfl
theorem Yk2 : decide (Tryz.f4.isInstance Tryz.prog Rows.fnExactSeenSureRow.origin Rows.fnExactSeenSureRow.targs) = true := by kernel_rfl
theorem Yl8 : Rows.fnExactSeenSureRow.wfByText (OpenSpec.ofChange Rows.fnExactSeenSureSpec) = true := by kernel_rfl
theorem Yk1 : Tryz.prog.mainIs = some (true, "3638aa29f232df4f4c689a3fe87831ed1d4259a176221a98d5fd43055939d1d2".toList) := by kernel_rfl
theorem Yii : true = Tryz.prog.looks [] := by kernel_rfl
theorem Yk3 : false = Rows.fnExactSeenSureRow.goesBy Tryz.prog := by kernel_rfl
end Go.Proofs.YtppialklomgajaaGreatDoor.fnExactSeenSure
