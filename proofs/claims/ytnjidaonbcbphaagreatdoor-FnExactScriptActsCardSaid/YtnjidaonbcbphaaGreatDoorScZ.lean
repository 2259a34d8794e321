/-
  Closed facts of the row of FnExactScriptActs, each reckoned alone. No condition.
-/
import Derived.Test.YtnjidaonbcbphaaGreatDoorCards
import Derived.Test.YtnjidaonbcbphaaGreatDoorTie
import Derived.JoinedOf
import Derived.KernelRfl
import Derived.RowKit
import Derived.OpenShut
import Derived.ChangeOld
import Derived.SevenTiedAt
namespace Go.Proofs.YtnjidaonbcbphaaGreatDoor.fnExactScriptActs
open Go.ChangeShapes Go.WideShapes Go.RowKit
set_option linter.unusedVariables false

theorem zf_wf : Rows.fnExactScriptActsRow.wf (OpenSpec.ofChange Rows.fnExactScriptActsSpec) = true := by kernel_rfl
theorem zf_laid : laidOutB Tryz.prog = true := by kernel_rfl
theorem zf_mr : mapsRowed Tryz.prog = true := by kernel_rfl
theorem zf_nt : namedTie Tryz.prog Rows.fnExactScriptActsRow.named Rows.fnExactScriptActsSpec.vars = true := by kernel_rfl
theorem zf_ip : (Rows.fnExactScriptActsRow.inPlace == Tryz.prog.inPlace 7) = true := by kernel_rfl
theorem zf_un : (Rows.fnExactScriptActsRow.unfollowed == Tryz.prog.unfollowed 7) = true := by kernel_rfl
theorem zf_re : (Rows.fnExactScriptActsRow.recurses == Tryz.prog.recurses 7) = true := by kernel_rfl
theorem zf_na : (Rows.fnExactScriptActsRow.named == Tryz.prog.varsNamed 7) = true := by kernel_rfl
theorem zf_pk : (Rows.fnExactScriptActsRow.plainKeys == Tryz.prog.plainKeys) = true := by kernel_rfl
theorem zf_sh : Tryz.prog.stopsHeard = true := by kernel_rfl
theorem zf_me : Tryz.prog.mayEnter = true := by kernel_rfl
theorem zf_lf : (Rows.fnExactScriptActsRow.lifted == Tryz.prog.liftsFinal) = true := by kernel_rfl
theorem zf_fn : Tryz.prog.funcNamed Rows.fnExactScriptActsRow.func = some 7 := by kernel_rfl
set_option maxRecDepth 100000 in
theorem zf_closed : joinedFacts Tryz.prog 7 Tryz.f7 Rows.fnExactScriptActsSpec Rows.fnExactScriptActsRow = true := by
  unfold joinedFacts
  rw [zf_wf, zf_laid, zf_mr, zf_nt, zf_ip, zf_un, zf_re, zf_na, zf_pk, zf_sh, zf_me, zf_lf]
  kernel_rfl
theorem zf_inst : decide (Tryz.f7.isInstance Tryz.prog Rows.fnExactScriptActsRow.origin Rows.fnExactScriptActsRow.targs) = true := by kernel_rfl
theorem zf_wfb : Rows.fnExactScriptActsRow.wfByText (OpenSpec.ofChange Rows.fnExactScriptActsSpec) = true := by kernel_rfl
theorem zf_main : Tryz.prog.mainIs = some (true, "81da9f89cd1924f8074fa95ed256bdbba201bb1b06ffc350f947b5eb980d85d4".toList) := by kernel_rfl
theorem zf_looks : true = Tryz.prog.looks [] := by kernel_rfl
theorem zf_goes : false = Rows.fnExactScriptActsRow.goesBy Tryz.prog := by kernel_rfl
end Go.Proofs.YtnjidaonbcbphaaGreatDoor.fnExactScriptActs
