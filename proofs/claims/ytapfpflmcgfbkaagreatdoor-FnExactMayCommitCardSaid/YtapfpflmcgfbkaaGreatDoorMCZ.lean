/-
  The texts ZFnExactMayCommit of this proof, one behind the other: what each proves stands at its head. No condition.
-/
import Derived.Test.YtapfpflmcgfbkaaGreatDoorCards
import Derived.Test.YtapfpflmcgfbkaaGreatDoorTie
import Derived.JoinedOf
import Derived.KernelRfl
import Derived.RowKit
import Derived.OpenShut
import Derived.ChangeOld
import Derived.SevenTiedAt
namespace Go.Proofs.YtapfpflmcgfbkaaGreatDoor.fnExactMayCommit
open Go.ChangeShapes Go.WideShapes Go.RowKit
set_option linter.unusedVariables false
theorem zf_wf : Rows.fnExactMayCommitRow.wf (OpenSpec.ofChange Rows.fnExactMayCommitSpec) = true := by kernel_rfl
theorem zf_laid : laidOutB Tryz.prog = true := by kernel_rfl
theorem zf_mr : mapsRowed Tryz.prog = true := by kernel_rfl
theorem zf_nt : namedTie Tryz.prog Rows.fnExactMayCommitRow.named Rows.fnExactMayCommitSpec.vars = true := by kernel_rfl
theorem zf_ip : (Rows.fnExactMayCommitRow.inPlace == Tryz.prog.inPlace 3) = true := by kernel_rfl
theorem zf_un : (Rows.fnExactMayCommitRow.unfollowed == Tryz.prog.unfollowed 3) = true := by kernel_rfl
theorem zf_re : (Rows.fnExactMayCommitRow.recurses == Tryz.prog.recurses 3) = true := by kernel_rfl
theorem zf_na : (Rows.fnExactMayCommitRow.named == Tryz.prog.varsNamed 3) = true := by kernel_rfl
theorem zf_pk : (Rows.fnExactMayCommitRow.plainKeys == Tryz.prog.plainKeys) = true := by kernel_rfl
theorem zf_sh : Tryz.prog.stopsHeard = true := by kernel_rfl
theorem zf_me : Tryz.prog.mayEnter = true := by kernel_rfl
theorem zf_lf : (Rows.fnExactMayCommitRow.lifted == Tryz.prog.liftsFinal) = true := by kernel_rfl
theorem zf_fn : Tryz.prog.funcNamed Rows.fnExactMayCommitRow.func = some 3 := by kernel_rfl
set_option maxRecDepth 100000 in
theorem zf_closed : joinedFacts Tryz.prog 3 Tryz.f3 Rows.fnExactMayCommitSpec Rows.fnExactMayCommitRow = true := by
 unfold joinedFacts
 rw [zf_wf, zf_laid, zf_mr, zf_nt, zf_ip, zf_un, zf_re, zf_na, zf_pk, zf_sh, zf_me, zf_lf]
 kernel_rfl
theorem zf_inst : decide (Tryz.f3.isInstance Tryz.prog Rows.fnExactMayCommitRow.origin Rows.fnExactMayCommitRow.targs) = true := by kernel_rfl
theorem zf_wfb : Rows.fnExactMayCommitRow.wfByText (OpenSpec.ofChange Rows.fnExactMayCommitSpec) = true := by kernel_rfl
theorem zf_main : Tryz.prog.mainIs = some (true, "d6cdbe37af1d3fe04b72955ff17a57a9e65d921d08e48d85c3553b918a30e2c3".toList) := by kernel_rfl
theorem zf_looks : true = Tryz.prog.looks [] := by kernel_rfl
theorem zf_goes : false = Rows.fnExactMayCommitRow.goesBy Tryz.prog := by kernel_rfl
end Go.Proofs.YtapfpflmcgfbkaaGreatDoor.fnExactMayCommit
