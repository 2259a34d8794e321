/- The law FnExactCodeName: for every input it returns true, and what came in is as it was. No condition. By program (wip/gen). -/
import Derived.Test.YtpfnofdaaekglaaC2
import Derived.Test.YtpfnofdaaekglaaRows
import Derived.OpenShut
import Derived.ChangeOld
namespace Go.Proofs.Ytpfnofdaaekglaa.Fw
open Go.RowKit
set_option linter.unusedVariables false
set_option linter.unusedSimpArgs false

theorem fb10 : Try.f10.body.isNone = false := rfl
theorem fb9 : Try.f9.body.isNone = false := rfl
theorem fn10 : (Try.f10.name == "runtime.NumGoroutine") = false := by kernel_rfl
theorem fn9 : (Try.f9.name == "runtime.NumGoroutine") = false := by kernel_rfl


def laws_FnExactCodeName (p0 : Int) : Bool := (if (!decide ((impl_CodeName p0) = (spec_CodeName p0))) = true then false else true)
theorem c_laws_FnExactCodeName (p0 : Int) {w : World}  :
    Calls Try.prog 3 [.int .i64 p0].toArray w (fun e w' => e = .returned (.bool (laws_FnExactCodeName p0)) ∧ Below w.heap.size w w') := by
  refine enter Try.func3 rfl Try.ntmps3 (Nat.le_of_ble_eq_true rfl) ?_
  intro a0 hE0
  have hS0 := SH.start w
  have hM := laws_FnExactCodeName.eq_1 p0
  refine wp_seq (wp_region_lit ?_)
  refine st_val hE0 (y_assign hE0 rfl) rfl fun a1 hE1 => wpList_nil ?_
  clear hE0
  clear a0
  refine then_normal ?_
  refine wp_seq (wp_region_lit ?_)
  refine st_val hE1 (y_move hE1 rfl) rfl fun a2 hE2 => st_callF hE2 hS0 Try.func9 fb9 fn9 (c_spec_CodeName p0) rfl rfl fun w3 hS3 a4 hE4 => st_val hE4 (y_assign hE4 rfl) rfl fun a5 hE5 => wpList_nil ?_
  clear hE1 hE2 hE4
  clear a1 a2 a4
  refine then_normal ?_
  refine wp_seq (wp_region_lit ?_)
  refine st_val hE5 (y_move hE5 rfl) rfl fun a6 hE6 => st_callF hE6 hS3 Try.func10 fb10 fn10 (c_impl_CodeName p0) rfl rfl fun w7 hS7 a8 hE8 => st_val hE8 (y_assign hE8 rfl) rfl fun a9 hE9 => wpList_nil ?_
  clear hE5 hE6 hE8
  clear a5 a6 a8
  refine then_normal ?_
  refine wp_seq (wp_seq (wp_region_lit ?_))
  refine st_val hE9 (y_move hE9 rfl) rfl fun a10 hE10 => st_val hE10 (y_move hE10 rfl) rfl fun a11 hE11 => st_val hE11 (y_neq_string hE11 rfl rfl) rfl fun a12 hE12 => wpList_nil ?_
  clear hE9 hE10 hE11
  clear a9 a10 a11
  refine then_normal ?_
  refine cond_split hE12 rfl (fun hb13 => ?_) (fun hb13 => ?_)
  ·
    have hM := hM.trans (if_t hb13)
    refine wp_seq (wp_region_lit ?_)
    refine st_val hE12 (y_assign hE12 rfl) rfl fun a14 hE14 => wpList_nil ?_
    clear hE12
    clear a12
    refine then_normal ?_
    refine wp_ret ?_
    refine then_ret ?_
    exact fin1 hE14 rfl rfl ⟨by rw [hM], hS7.below⟩
  ·
    have hM := hM.trans (if_f hb13)
    refine wp_skip ?_
    refine then_normal ?_
    refine wp_seq (wp_region_lit ?_)
    refine st_val hE12 (y_assign hE12 rfl) rfl fun a15 hE15 => wpList_nil ?_
    clear hE12
    clear a12
    refine then_normal ?_
    refine wp_ret ?_
    exact fin1 hE15 rfl rfl ⟨by rw [hM], hS7.below⟩


theorem laws_FnExactCodeName_true (p0 : Int) : laws_FnExactCodeName p0 = true := by
  have h : impl_CodeName p0 = spec_CodeName p0 := by
    unfold impl_CodeName spec_CodeName impl_within spec_l01In
    rfl
  unfold laws_FnExactCodeName
  simp [h]

end Go.Proofs.Ytpfnofdaaekglaa.Fw

namespace Go.Proofs.Ytpfnofdaaekglaa.fnExactCodeName
open Go.ChangeShapes Go.WideShapes Go.ChangeAt Go.RowKit Go.Proofs.Ytpfnofdaaekglaa.Fw
set_option linter.unusedVariables false

theorem own : ownKnob Try.prog.godebug = none := by kernel_rfl
theorem laidOut : laidOutB Try.prog = true := by kernel_rfl

set_option maxRecDepth 100000 in
theorem lifted (os : Os) (started : os.Started) (H : Type) (enc : TypeId × Value → H) :
    ReturnsInHanded {} Try.checked os 3 .any (Rows.fnExactCodeNameSpec.pre6 enc Try.prog Try.f3 Rows.fnExactCodeNameRow.domain false) (Rows.fnExactCodeNameSpec.post enc Try.prog Try.f3 false true false false) := by
  refine returnsInHanded_of_change (C := Try.checked) own started (by kernel_rfl) Try.func3
    (ChangeSpec.witness6 (enc := enc) (C := Try.checked) false ⟨#[], #[.int .i64 0], []⟩ 8 (by kernel_rfl) (by kernel_rfl) (by kernel_rfl) (by kernel_rfl)) ?_
  intro W base args ds gs before hval0 hW hcnd _
  have hval : ∀ (j : Nat) t v, Try.f3.params[j]? = some t → args[j]? = some v → Value.okWide Try.prog W .any base t v := hval0
  have hW' := hW
  obtain ⟨p, q, hA0, hV, rfl, hfz, hnd⟩ := hW
  have hA : DataW.TrodAll enc Try.prog W 0 (fun _ => true) true Try.f3.params.toList args.toList ds p := hA0
  rw [Try.params3] at hA hval
  obtain ⟨v0, vs0, d0, ds0, p0, q0, hargs, rfl, rfl, h0, r0⟩ := trodAll_cons hA
  obtain ⟨rfl, rfl, rfl⟩ := trodAll_nil r0
  obtain rfl : args = #[v0] := by cases args; simp_all
  obtain ⟨rfl, rfl⟩ := trodVars_none hV
  have k0 := h0
  have lt0 : ∀ x ∈ p0, x.block < W.heap.size := by obtain ⟨m, hm⟩ := k0; exact DataW.trod_lt m _ _ _ hm
  obtain ⟨x0, rfl, _, _, w0⟩ := open_int Try.underlying3 (hval 0 3 v0 rfl rfl) h0
  have hc := c_laws_FnExactCodeName (w := W) x0
  refine hc.mono fun e W' ⟨he, bel⟩ => ?_
  rw [laws_FnExactCodeName_true x0] at he
  subst he
  exact ⟨_, rfl, _, _, _, [], _, [], hW', trodAll_mk1 (shut_bool Try.underlying4 _), (trodAll_cons_mk (Below.trod laidOut (by kernel_rfl) (of_decide_eq_true (by kernel_rfl)) k0 bel lt0) trodAll_mk0), rfl, bel.frame _, fun h => by cases h⟩

theorem over : Rows.fnExactCodeNameRow.holds Try.pinned (OpenSpec.ofChange Rows.fnExactCodeNameSpec) :=
  OpenClaim.holds_of_wide 3 Try.f3 rfl rfl rfl rfl rfl rfl rfl ⟨rfl, rfl, rfl, rfl, rfl⟩ rfl rfl rfl rfl rfl (by kernel_rfl) Try.func3 (by kernel_rfl)
    (of_decide_eq_true (by kernel_rfl)) (by unfold Func.isWrapper; first | (rw [if_pos (by decide +kernel)]; kernel_rfl) | (rw [if_neg (by decide +kernel)]; exact ⟨rfl, rfl⟩))
    (fun os started H enc _ => lifted os started H enc)

end Go.Proofs.Ytpfnofdaaekglaa.fnExactCodeName
namespace Go.Proofs.Ytpfnofdaaekglaa
/-- The statement. -/
theorem fnExactCodeName_proved : Rows.FnExactCodeNameSaid := fnExactCodeName.over
#print axioms fnExactCodeName_proved
end Go.Proofs.Ytpfnofdaaekglaa
