/-
  Closed facts of the row of FnExactOutsWhole, each reckoned alone. No condition.
-/
import Derived.Test.YtnjidaonbcbphaaGreatDoorCards
import Derived.Test.YtnjidaonbcbphaaGreatDoorTie
import Derived.JoinedOf
import Derived.KernelRfl
import Derived.RowKit
import Derived.OpenShut
import Derived.ChangeOld
import Derived.SevenTiedAt
namespace Go.Proofs.YtnjidaonbcbphaaGreatDoor.fnExactOutsWhole
open Go.ChangeShapes Go.WideShapes Go.RowKit
set_option linter.unusedVariables false

theorem zf_wf : Rows.fnExactOutsWholeRow.wf (OpenSpec.ofChange Rows.fnExactOutsWholeSpec) = true := by kernel_rfl
theorem zf_laid : laidOutB Tryz.prog = true := by kernel_rfl
theorem zf_mr : mapsRowed Tryz.prog = true := by kernel_rfl
theorem zf_nt : namedTie Tryz.prog Rows.fnExactOutsWholeRow.named Rows.fnExactOutsWholeSpec.vars = true := by kernel_rfl
theorem zf_ip : (Rows.fnExactOutsWholeRow.inPlace == Tryz.prog.inPlace 5) = true := by kernel_rfl
theorem zf_un : (Rows.fnExactOutsWholeRow.unfollowed == Tryz.prog.unfollowed 5) = true := by kernel_rfl
theorem zf_re : (Rows.fnExactOutsWholeRow.recurses == Tryz.prog.recurses 5) = true := by kernel_rfl
theorem zf_na : (Rows.fnExactOutsWholeRow.named == Tryz.prog.varsNamed 5) = true := by kernel_rfl
theorem zf_pk : (Rows.fnExactOutsWholeRow.plainKeys == Tryz.prog.plainKeys) = true := by kernel_rfl
theorem zf_sh : Tryz.prog.stopsHeard = true := by kernel_rfl
theorem zf_me : Tryz.prog.mayEnter = true := by kernel_rfl
theorem zf_lf : (Rows.fnExactOutsWholeRow.lifted == Tryz.prog.liftsFinal) = true := by kernel_rfl
theorem zf_fn : Tryz.prog.funcNamed Rows.fnExactOutsWholeRow.func = some 5 := by kernel_rfl
set_option maxRecDepth 100000 in
theorem zf_closed : joinedFacts Tryz.prog 5 Tryz.f5 Rows.fnExactOutsWholeSpec Rows.fnExactOutsWholeRow = true := by
  unfold joinedFacts
  rw [zf_wf, zf_laid, zf_mr, zf_nt, zf_ip, zf_un, zf_re, zf_na, zf_pk, zf_sh, zf_me, zf_lf]
  kernel_rfl
theorem zf_inst : decide (Tryz.f5.isInstance Tryz.prog Rows.fnExactOutsWholeRow.origin Rows.fnExactOutsWholeRow.targs) = true := by kernel_rfl
theorem zf_wfb : Rows.fnExactOutsWholeRow.wfByText (OpenSpec.ofChange Rows.fnExactOutsWholeSpec) = true := by kernel_rfl
theorem zf_main : Tryz.prog.mainIs = some (true, "81da9f89cd1924f8074fa95ed256bdbba201bb1b06ffc350f947b5eb980d85d4".toList) := by kernel_rfl
theorem zf_looks : true = Tryz.prog.looks [] := by kernel_rfl
theorem zf_goes : false = Rows.fnExactOutsWholeRow.goesBy Tryz.prog := by kernel_rfl
end Go.Proofs.YtnjidaonbcbphaaGreatDoor.fnExactOutsWhole
