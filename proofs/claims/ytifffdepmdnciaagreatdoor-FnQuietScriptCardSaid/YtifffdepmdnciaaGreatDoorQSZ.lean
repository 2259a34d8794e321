/-
  The texts ZFnQuietScript of this proof, one behind the other: what each proves stands at its head. No condition.
-/
import Derived.Test.YtifffdepmdnciaaGreatDoorCards
import Derived.Test.YtifffdepmdnciaaGreatDoorTie
import Derived.JoinedOf
import Derived.KernelRfl
import Derived.RowKit
import Derived.OpenShut
import Derived.ChangeOld
import Derived.SevenTiedAt
namespace Go.Proofs.YtifffdepmdnciaaGreatDoor.fnQuietScript
open Go.ChangeShapes Go.WideShapes Go.RowKit
set_option linter.unusedVariables false
theorem zf_wf : Rows.fnQuietScriptRow.wf (OpenSpec.ofChange Rows.fnQuietScriptSpec) = true := by kernel_rfl
theorem zf_laid : laidOutB Tryz.prog = true := by kernel_rfl
theorem zf_mr : mapsRowed Tryz.prog = true := by kernel_rfl
theorem zf_nt : namedTie Tryz.prog Rows.fnQuietScriptRow.named Rows.fnQuietScriptSpec.vars = true := by kernel_rfl
theorem zf_ip : (Rows.fnQuietScriptRow.inPlace == Tryz.prog.inPlace 3) = true := by kernel_rfl
theorem zf_un : (Rows.fnQuietScriptRow.unfollowed == Tryz.prog.unfollowed 3) = true := by kernel_rfl
theorem zf_re : (Rows.fnQuietScriptRow.recurses == Tryz.prog.recurses 3) = true := by kernel_rfl
theorem zf_na : (Rows.fnQuietScriptRow.named == Tryz.prog.varsNamed 3) = true := by kernel_rfl
theorem zf_pk : (Rows.fnQuietScriptRow.plainKeys == Tryz.prog.plainKeys) = true := by kernel_rfl
theorem zf_sh : Tryz.prog.stopsHeard = true := by kernel_rfl
theorem zf_me : Tryz.prog.mayEnter = true := by kernel_rfl
theorem zf_lf : (Rows.fnQuietScriptRow.lifted == Tryz.prog.liftsFinal) = true := by kernel_rfl
theorem zf_fn : Tryz.prog.funcNamed Rows.fnQuietScriptRow.func = some 3 := by kernel_rfl
set_option maxRecDepth 100000 in
theorem zf_closed : joinedFacts Tryz.prog 3 Tryz.f3 Rows.fnQuietScriptSpec Rows.fnQuietScriptRow = true := by
  unfold joinedFacts
  rw [zf_wf, zf_laid, zf_mr, zf_nt, zf_ip, zf_un, zf_re, zf_na, zf_pk, zf_sh, zf_me, zf_lf]
  kernel_rfl
theorem zf_inst : decide (Tryz.f3.isInstance Tryz.prog Rows.fnQuietScriptRow.origin Rows.fnQuietScriptRow.targs) = true := by kernel_rfl
theorem zf_wfb : Rows.fnQuietScriptRow.wfByText (OpenSpec.ofChange Rows.fnQuietScriptSpec) = true := by kernel_rfl
theorem zf_main : Tryz.prog.mainIs = some (true, "540287a1a8df8bf79d22f282d125603c111ef3e393fcf972e941d4cfdaa404a2".toList) := by kernel_rfl
theorem zf_looks : true = Tryz.prog.looks [] := by kernel_rfl
theorem zf_goes : false = Rows.fnQuietScriptRow.goesBy Tryz.prog := by kernel_rfl
end Go.Proofs.YtifffdepmdnciaaGreatDoor.fnQuietScript
