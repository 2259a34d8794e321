/-
  Closed facts of the row of FnLinesBack, each reckoned alone. No condition.
-/
import Derived.Test.YtnjidaonbcbphaaGreatDoorCards
import Derived.Test.YtnjidaonbcbphaaGreatDoorTie
import Derived.JoinedOf
import Derived.KernelRfl
import Derived.RowKit
import Derived.OpenShut
import Derived.ChangeOld
import Derived.SevenTiedAt
namespace Go.Proofs.YtnjidaonbcbphaaGreatDoor.fnLinesBack
open Go.ChangeShapes Go.WideShapes Go.RowKit
set_option linter.unusedVariables false

theorem zf_wf : Rows.fnLinesBackRow.wf (OpenSpec.ofChange Rows.fnLinesBackSpec) = true := by kernel_rfl
theorem zf_laid : laidOutB Tryz.prog = true := by kernel_rfl
theorem zf_mr : mapsRowed Tryz.prog = true := by kernel_rfl
theorem zf_nt : namedTie Tryz.prog Rows.fnLinesBackRow.named Rows.fnLinesBackSpec.vars = true := by kernel_rfl
theorem zf_ip : (Rows.fnLinesBackRow.inPlace == Tryz.prog.inPlace 6) = true := by kernel_rfl
theorem zf_un : (Rows.fnLinesBackRow.unfollowed == Tryz.prog.unfollowed 6) = true := by kernel_rfl
theorem zf_re : (Rows.fnLinesBackRow.recurses == Tryz.prog.recurses 6) = true := by kernel_rfl
theorem zf_na : (Rows.fnLinesBackRow.named == Tryz.prog.varsNamed 6) = true := by kernel_rfl
theorem zf_pk : (Rows.fnLinesBackRow.plainKeys == Tryz.prog.plainKeys) = true := by kernel_rfl
theorem zf_sh : Tryz.prog.stopsHeard = true := by kernel_rfl
theorem zf_me : Tryz.prog.mayEnter = true := by kernel_rfl
theorem zf_lf : (Rows.fnLinesBackRow.lifted == Tryz.prog.liftsFinal) = true := by kernel_rfl
theorem zf_fn : Tryz.prog.funcNamed Rows.fnLinesBackRow.func = some 6 := by kernel_rfl
set_option maxRecDepth 100000 in
theorem zf_closed : joinedFacts Tryz.prog 6 Tryz.f6 Rows.fnLinesBackSpec Rows.fnLinesBackRow = true := by
  unfold joinedFacts
  rw [zf_wf, zf_laid, zf_mr, zf_nt, zf_ip, zf_un, zf_re, zf_na, zf_pk, zf_sh, zf_me, zf_lf]
  kernel_rfl
theorem zf_inst : decide (Tryz.f6.isInstance Tryz.prog Rows.fnLinesBackRow.origin Rows.fnLinesBackRow.targs) = true := by kernel_rfl
theorem zf_wfb : Rows.fnLinesBackRow.wfByText (OpenSpec.ofChange Rows.fnLinesBackSpec) = true := by kernel_rfl
theorem zf_main : Tryz.prog.mainIs = some (true, "81da9f89cd1924f8074fa95ed256bdbba201bb1b06ffc350f947b5eb980d85d4".toList) := by kernel_rfl
theorem zf_looks : true = Tryz.prog.looks [] := by kernel_rfl
theorem zf_goes : false = Rows.fnLinesBackRow.goesBy Tryz.prog := by kernel_rfl
end Go.Proofs.YtnjidaonbcbphaaGreatDoor.fnLinesBack
