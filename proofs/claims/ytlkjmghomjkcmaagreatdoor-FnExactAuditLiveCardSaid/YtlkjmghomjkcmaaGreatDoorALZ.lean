/-
  The texts ZFnExactAuditLive of this proof, one behind the other: what each proves stands at its head. No condition.
-/
import Derived.Test.YtlkjmghomjkcmaaGreatDoorCards
import Derived.Test.YtlkjmghomjkcmaaGreatDoorTie
import Derived.JoinedOf
import Derived.KernelRfl
import Derived.RowKit
import Derived.OpenShut
import Derived.ChangeOld
import Derived.SevenTiedAt
namespace Go.Proofs.YtlkjmghomjkcmaaGreatDoor.fnExactAuditLive
open Go.ChangeShapes Go.WideShapes Go.RowKit
set_option linter.unusedVariables false
theorem zf_wf : Rows.fnExactAuditLiveRow.wf (OpenSpec.ofChange Rows.fnExactAuditLiveSpec) = true := by kernel_rfl
theorem zf_laid : laidOutB Tryz.prog = true := by kernel_rfl
theorem zf_mr : mapsRowed Tryz.prog = true := by kernel_rfl
theorem zf_nt : namedTie Tryz.prog Rows.fnExactAuditLiveRow.named Rows.fnExactAuditLiveSpec.vars = true := by kernel_rfl
theorem zf_ip : (Rows.fnExactAuditLiveRow.inPlace == Tryz.prog.inPlace 3) = true := by kernel_rfl
theorem zf_un : (Rows.fnExactAuditLiveRow.unfollowed == Tryz.prog.unfollowed 3) = true := by kernel_rfl
theorem zf_re : (Rows.fnExactAuditLiveRow.recurses == Tryz.prog.recurses 3) = true := by kernel_rfl
theorem zf_na : (Rows.fnExactAuditLiveRow.named == Tryz.prog.varsNamed 3) = true := by kernel_rfl
theorem zf_pk : (Rows.fnExactAuditLiveRow.plainKeys == Tryz.prog.plainKeys) = true := by kernel_rfl
theorem zf_sh : Tryz.prog.stopsHeard = true := by kernel_rfl
theorem zf_me : Tryz.prog.mayEnter = true := by kernel_rfl
theorem zf_lf : (Rows.fnExactAuditLiveRow.lifted == Tryz.prog.liftsFinal) = true := by kernel_rfl
theorem zf_fn : Tryz.prog.funcNamed Rows.fnExactAuditLiveRow.func = some 3 := by kernel_rfl
set_option maxRecDepth 100000 in
theorem zf_closed : joinedFacts Tryz.prog 3 Tryz.f3 Rows.fnExactAuditLiveSpec Rows.fnExactAuditLiveRow = true := by
  unfold joinedFacts
  rw [zf_wf, zf_laid, zf_mr, zf_nt, zf_ip, zf_un, zf_re, zf_na, zf_pk, zf_sh, zf_me, zf_lf]
  kernel_rfl
theorem zf_inst : decide (Tryz.f3.isInstance Tryz.prog Rows.fnExactAuditLiveRow.origin Rows.fnExactAuditLiveRow.targs) = true := by kernel_rfl
theorem zf_wfb : Rows.fnExactAuditLiveRow.wfByText (OpenSpec.ofChange Rows.fnExactAuditLiveSpec) = true := by kernel_rfl
theorem zf_main : Tryz.prog.mainIs = some (true, "39f1bfa86d21d41d5e8f57ff6935408bcca53de05b8306e7f42c14cd81409ffb".toList) := by kernel_rfl
theorem zf_looks : true = Tryz.prog.looks [] := by kernel_rfl
theorem zf_goes : false = Rows.fnExactAuditLiveRow.goesBy Tryz.prog := by kernel_rfl
end Go.Proofs.YtlkjmghomjkcmaaGreatDoor.fnExactAuditLive
