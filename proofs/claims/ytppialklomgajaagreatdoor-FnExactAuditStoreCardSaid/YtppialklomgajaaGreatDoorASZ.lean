/-
  Closed facts of the row of FnExactAuditStore, each reckoned alone. No condition.
-/
import Derived.Test.YtppialklomgajaaGreatDoorCards
import Derived.Test.YtppialklomgajaaGreatDoorTie
import Derived.JoinedOf
import Derived.KernelRfl
import Derived.RowKit
import Derived.OpenShut
import Derived.ChangeOld
import Derived.SevenTiedAt
namespace Go.Proofs.YtppialklomgajaaGreatDoor.fnExactAuditStore
open Go.ChangeShapes Go.WideShapes Go.RowKit
set_option linter.unusedVariables false

theorem zf_wf : Rows.fnExactAuditStoreRow.wf (OpenSpec.ofChange Rows.fnExactAuditStoreSpec) = true := by kernel_rfl
theorem zf_laid : laidOutB Tryz.prog = true := by kernel_rfl
theorem zf_mr : mapsRowed Tryz.prog = true := by kernel_rfl
theorem zf_nt : namedTie Tryz.prog Rows.fnExactAuditStoreRow.named Rows.fnExactAuditStoreSpec.vars = true := by kernel_rfl
theorem zf_ip : (Rows.fnExactAuditStoreRow.inPlace == Tryz.prog.inPlace 3) = true := by kernel_rfl
theorem zf_un : (Rows.fnExactAuditStoreRow.unfollowed == Tryz.prog.unfollowed 3) = true := by kernel_rfl
theorem zf_re : (Rows.fnExactAuditStoreRow.recurses == Tryz.prog.recurses 3) = true := by kernel_rfl
theorem zf_na : (Rows.fnExactAuditStoreRow.named == Tryz.prog.varsNamed 3) = true := by kernel_rfl
theorem zf_pk : (Rows.fnExactAuditStoreRow.plainKeys == Tryz.prog.plainKeys) = true := by kernel_rfl
theorem zf_sh : Tryz.prog.stopsHeard = true := by kernel_rfl
theorem zf_me : Tryz.prog.mayEnter = true := by kernel_rfl
theorem zf_lf : (Rows.fnExactAuditStoreRow.lifted == Tryz.prog.liftsFinal) = true := by kernel_rfl
theorem zf_fn : Tryz.prog.funcNamed Rows.fnExactAuditStoreRow.func = some 3 := by kernel_rfl
set_option maxRecDepth 100000 in
theorem zf_closed : joinedFacts Tryz.prog 3 Tryz.f3 Rows.fnExactAuditStoreSpec Rows.fnExactAuditStoreRow = true := by
  unfold joinedFacts
  rw [zf_wf, zf_laid, zf_mr, zf_nt, zf_ip, zf_un, zf_re, zf_na, zf_pk, zf_sh, zf_me, zf_lf]
  kernel_rfl
theorem zf_inst : decide (Tryz.f3.isInstance Tryz.prog Rows.fnExactAuditStoreRow.origin Rows.fnExactAuditStoreRow.targs) = true := by kernel_rfl
theorem zf_wfb : Rows.fnExactAuditStoreRow.wfByText (OpenSpec.ofChange Rows.fnExactAuditStoreSpec) = true := by kernel_rfl
theorem zf_main : Tryz.prog.mainIs = some (true, "3638aa29f232df4f4c689a3fe87831ed1d4259a176221a98d5fd43055939d1d2".toList) := by kernel_rfl
theorem zf_looks : true = Tryz.prog.looks [] := by kernel_rfl
theorem zf_goes : false = Rows.fnExactAuditStoreRow.goesBy Tryz.prog := by kernel_rfl
end Go.Proofs.YtppialklomgajaaGreatDoor.fnExactAuditStore
