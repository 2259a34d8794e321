/-
  The texts ZLiveGone of this proof, one behind the other: what each proves stands at its head. No condition.
-/
import Derived.Test.YtppialklomgajaaGreatDoorCards
import Derived.Test.YtppialklomgajaaGreatDoorTie
import Derived.JoinedOf
import Derived.KernelRfl
import Derived.RowKit
import Derived.OpenShut
import Derived.ChangeOld
import Derived.SevenTiedAt
namespace Go.Proofs.YtppialklomgajaaGreatDoor.fnExactLiveGone
open Go.ChangeShapes Go.WideShapes Go.RowKit
set_option linter.unusedVariables false
theorem Yt1 : Rows.fnExactLiveGoneRow.wf (OpenSpec.ofChange Rows.fnExactLiveGoneSpec) = true := by kernel_rfl
theorem Yj8 : laidOutB Tryz.prog = true := by kernel_rfl
theorem Yt8 : mapsRowed Tryz.prog = true := by kernel_rfl
theorem Yt6 : namedTie Tryz.prog Rows.fnExactLiveGoneRow.named Rows.fnExactLiveGoneSpec.vars = true := by kernel_rfl
theorem Yub : (Rows.fnExactLiveGoneRow.inPlace == Tryz.prog.inPlace 7) = true := by kernel_rfl
theorem Yt2 : (Rows.fnExactLiveGoneRow.unfollowed == Tryz.prog.unfollowed 7) = true := by kernel_rfl
theorem Yt4 : (Rows.fnExactLiveGoneRow.recurses == Tryz.prog.recurses 7) = true := by kernel_rfl
theorem Yt7 : (Rows.fnExactLiveGoneRow.named == Tryz.prog.varsNamed 7) = true := by kernel_rfl
theorem Yt5 : (Rows.fnExactLiveGoneRow.plainKeys == Tryz.prog.plainKeys) = true := by kernel_rfl
theorem Yt3 : Tryz.prog.stopsHeard = true := by kernel_rfl
theorem Yt9 : Tryz.prog.mayEnter = true := by kernel_rfl
theorem Yua : (Rows.fnExactLiveGoneRow.lifted == Tryz.prog.liftsFinal) = true := by kernel_rfl
theorem Yqh : Tryz.prog.funcNamed Rows.fnExactLiveGoneRow.func = some 7 := by kernel_rfl
set_option maxRecDepth 100000 in
theorem Yj9 : joinedFacts Tryz.prog 7 Tryz.f7 Rows.fnExactLiveGoneSpec Rows.fnExactLiveGoneRow = true := by
 unfold joinedFacts
 rw [Yt1, Yj8, Yt8, Yt6, Yub, Yt2, Yt4, Yt7, Yt5, Yt3, Yt9, Yua]
 kernel_rfl
theorem Ypc : decide (Tryz.f7.isInstance Tryz.prog Rows.fnExactLiveGoneRow.origin Rows.fnExactLiveGoneRow.targs) = true := by kernel_rfl
theorem Yqg : Rows.fnExactLiveGoneRow.wfByText (OpenSpec.ofChange Rows.fnExactLiveGoneSpec) = true := by kernel_rfl
theorem Ypb : Tryz.prog.mainIs = some (true, "3638aa29f232df4f4c689a3fe87831ed1d4259a176221a98d5fd43055939d1d2".toList) := by kernel_rfl
theorem Ymg : true = Tryz.prog.looks [] := by kernel_rfl
theorem Ypd : false = Rows.fnExactLiveGoneRow.goesBy Tryz.prog := by kernel_rfl
end Go.Proofs.YtppialklomgajaaGreatDoor.fnExactLiveGone
