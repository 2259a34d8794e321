/-
  The texts ZFnLineEach of this proof, one behind the other: what each proves stands at its head. No condition.
-/
import Derived.Test.YtdghkmbppfmifaaGreatDoorCards
import Derived.Test.YtdghkmbppfmifaaGreatDoorTie
import Derived.JoinedOf
import Derived.KernelRfl
import Derived.RowKit
import Derived.OpenShut
import Derived.ChangeOld
import Derived.SevenTiedAt
namespace Go.Proofs.YtdghkmbppfmifaaGreatDoor.fnLineEach
open Go.ChangeShapes Go.WideShapes Go.RowKit
set_option linter.unusedVariables false
theorem zf_wf : Rows.fnLineEachRow.wf (OpenSpec.ofChange Rows.fnLineEachSpec) = true := by kernel_rfl
theorem zf_laid : laidOutB Tryz.prog = true := by kernel_rfl
theorem zf_mr : mapsRowed Tryz.prog = true := by kernel_rfl
theorem zf_nt : namedTie Tryz.prog Rows.fnLineEachRow.named Rows.fnLineEachSpec.vars = true := by kernel_rfl
theorem zf_ip : (Rows.fnLineEachRow.inPlace == Tryz.prog.inPlace 3) = true := by kernel_rfl
theorem zf_un : (Rows.fnLineEachRow.unfollowed == Tryz.prog.unfollowed 3) = true := by kernel_rfl
theorem zf_re : (Rows.fnLineEachRow.recurses == Tryz.prog.recurses 3) = true := by kernel_rfl
theorem zf_na : (Rows.fnLineEachRow.named == Tryz.prog.varsNamed 3) = true := by kernel_rfl
theorem zf_pk : (Rows.fnLineEachRow.plainKeys == Tryz.prog.plainKeys) = true := by kernel_rfl
theorem zf_sh : Tryz.prog.stopsHeard = true := by kernel_rfl
theorem zf_me : Tryz.prog.mayEnter = true := by kernel_rfl
theorem zf_lf : (Rows.fnLineEachRow.lifted == Tryz.prog.liftsFinal) = true := by kernel_rfl
theorem zf_fn : Tryz.prog.funcNamed Rows.fnLineEachRow.func = some 3 := by kernel_rfl
set_option maxRecDepth 100000 in
theorem zf_closed : joinedFacts Tryz.prog 3 Tryz.f3 Rows.fnLineEachSpec Rows.fnLineEachRow = true := by
  unfold joinedFacts
  rw [zf_wf, zf_laid, zf_mr, zf_nt, zf_ip, zf_un, zf_re, zf_na, zf_pk, zf_sh, zf_me, zf_lf]
  kernel_rfl
theorem zf_inst : decide (Tryz.f3.isInstance Tryz.prog Rows.fnLineEachRow.origin Rows.fnLineEachRow.targs) = true := by kernel_rfl
theorem zf_wfb : Rows.fnLineEachRow.wfByText (OpenSpec.ofChange Rows.fnLineEachSpec) = true := by kernel_rfl
theorem zf_main : Tryz.prog.mainIs = some (true, "3ffe9a79f1a29b68329fe8055274c65018b7525895fb32315b27e73f43d24ddb".toList) := by kernel_rfl
theorem zf_looks : true = Tryz.prog.looks [] := by kernel_rfl
theorem zf_goes : false = Rows.fnLineEachRow.goesBy Tryz.prog := by kernel_rfl
end Go.Proofs.YtdghkmbppfmifaaGreatDoor.fnLineEach
