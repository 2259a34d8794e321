/- The law FnExactActName: for every input it returns true, and what came in is as it was. No condition. By program (wip/gen). -/
import Derived.Test.YtpfnofdaaekglaaDoorC2
import Derived.Test.YtpfnofdaaekglaaDoorCards
import Derived.Test.YtpfnofdaaekglaaDoorTie
import Derived.OpenShut
import Derived.ChangeOld
import Derived.ProofKit
import Derived.LaidMore
import Derived.Stop.Joined
import Derived.SevenTiedAt
namespace Go.Proofs.YtpfnofdaaekglaaDoor.Fw
open Go.RowKit
set_option linter.unusedVariables false
set_option linter.unusedSimpArgs false

theorem fb10 : Tryd.f10.body.isNone = false := rfl
theorem fb11 : Tryd.f11.body.isNone = false := rfl
theorem fn10 : (Tryd.f10.name == "runtime.NumGoroutine") = false := by kernel_rfl
theorem fn11 : (Tryd.f11.name == "runtime.NumGoroutine") = false := by kernel_rfl

theorem rd3 : Reads Tryd.prog 3 Int := reads_int Tryd.underlying3

def laws_FnExactActName (p0 : Int) : Bool := (if (!decide ((impl_ActName p0) = (spec_ActName p0))) = true then false else true)
theorem c_laws_FnExactActName (p0 : Int) {w : World} (hG0 : GV 0 (gl0.map Value.string) w) :
    Calls Tryd.prog 3 [.int .i64 p0].toArray w (fun e w' => e = .returned (.bool (laws_FnExactActName p0)) ∧ Below w.heap.size w w') := by
  refine enter Tryd.func3 rfl Tryd.ntmps3 (Nat.le_of_ble_eq_true rfl) ?_
  intro a0 hE0
  have hS0 := SH.start w
  have hM := laws_FnExactActName.eq_1 p0
  refine wp_seq (wp_region_lit ?_)
  refine st_val hE0 (y_assign hE0 rfl) rfl fun a1 hE1 => wpList_nil ?_
  clear hE0
  clear a0
  refine then_normal ?_
  refine wp_seq (wp_region_lit ?_)
  refine st_val hE1 (y_move hE1 rfl) rfl fun a2 hE2 => st_callF hE2 hS0 Tryd.func10 fb10 fn10 (c_spec_ActName p0) rfl rfl fun w3 hS3 a4 hE4 => st_val hE4 (y_assign hE4 rfl) rfl fun a5 hE5 => wpList_nil ?_
  clear hE1 hE2 hE4
  clear a1 a2 a4
  refine then_normal ?_
  refine wp_seq (wp_region_lit ?_)
  refine st_val hE5 (y_move hE5 rfl) rfl fun a6 hE6 => st_callF hE6 hS3 Tryd.func11 fb11 fn11 (c_impl_ActName p0 (GV.sh hS3 hG0)) rfl rfl fun w7 hS7 a8 hE8 => st_val hE8 (y_assign hE8 rfl) rfl fun a9 hE9 => wpList_nil ?_
  clear hE5 hE6 hE8
  clear a5 a6 a8
  refine then_normal ?_
  refine wp_seq (wp_seq (wp_region_lit ?_))
  refine st_val hE9 (y_move hE9 rfl) rfl fun a10 hE10 => st_val hE10 (y_move hE10 rfl) rfl fun a11 hE11 => st_val hE11 (y_neq_string hE11 rfl rfl) rfl fun a12 hE12 => wpList_nil ?_
  clear hE9 hE10 hE11
  clear a9 a10 a11
  refine then_normal ?_
  refine cond_split hE12 rfl (fun hb13 => ?_) (fun hb13 => ?_)
  ·
    have hM := hM.trans (if_t hb13)
    refine wp_seq (wp_region_lit ?_)
    refine st_val hE12 (y_assign hE12 rfl) rfl fun a14 hE14 => wpList_nil ?_
    clear hE12
    clear a12
    refine then_normal ?_
    refine wp_ret ?_
    refine then_ret ?_
    exact fin1 hE14 rfl rfl ⟨by rw [hM], hS7.below⟩
  ·
    have hM := hM.trans (if_f hb13)
    refine wp_skip ?_
    refine then_normal ?_
    refine wp_seq (wp_region_lit ?_)
    refine st_val hE12 (y_assign hE12 rfl) rfl fun a15 hE15 => wpList_nil ?_
    clear hE12
    clear a12
    refine then_normal ?_
    refine wp_ret ?_
    exact fin1 hE15 rfl rfl ⟨by rw [hM], hS7.below⟩


theorem laws_FnExactActName_true (p0 : Int) : laws_FnExactActName p0 = true := by
  have h : impl_ActName p0 = spec_ActName p0 := by
    have e : impl_within p0 1 12 = spec_l01In p0 1 12 := rfl
    unfold impl_ActName spec_ActName
    rw [e]
    by_cases hc : spec_l01In p0 1 12 = true
    · obtain ⟨h1, h2⟩ := spec_l01In_t hc
      simp only [hc, Bool.not_true, Bool.false_eq_true, if_false]
      have : p0 = 1 ∨ p0 = 2 ∨ p0 = 3 ∨ p0 = 4 ∨ p0 = 5 ∨ p0 = 6 ∨ p0 = 7 ∨ p0 = 8 ∨ p0 = 9 ∨ p0 = 10 ∨ p0 = 11 ∨ p0 = 12 := by omega
      rcases this with rfl | rfl | rfl | rfl | rfl | rfl | rfl | rfl | rfl | rfl | rfl | rfl <;> rfl
    · simp only [Bool.not_eq_true] at hc
      simp [hc]
  unfold laws_FnExactActName
  simp [h]

end Go.Proofs.YtpfnofdaaekglaaDoor.Fw

namespace Go.Proofs.YtpfnofdaaekglaaDoor.fnExactActName
open Go.ChangeShapes Go.WideShapes Go.ChangeAt Go.RowKit Go.Proofs.YtpfnofdaaekglaaDoor.Fw
set_option linter.unusedVariables false

theorem own : ownKnob Tryd.prog.godebug = none := by kernel_rfl
theorem laidOut : laidOutB Tryd.prog = true := by kernel_rfl

theorem door_met (os : Os) (args : Array Value) : laidMetH Tryd.prog Rows.fnExactActNameRow.laid ((World.doorLaid Tryd.prog 400 os).forCall (fun _ _ => 0) ⟨#[], args, []⟩).memory :=
  laidMetH_of_parts3 (fuel := 8) (laidMet_of_run' 8 (by kernel_rfl) (by kernel_rfl)) (by kernel_rfl) (by kernel_rfl)
theorem of_laid {W : World} (h : laidMetH Tryd.prog Rows.fnExactActNameRow.laid W) : GV 0 (gl0.map Value.string) W := by
  rw [MakeChecks.laidMetH_plain _ _ _ (by kernel_rfl)] at h
  obtain ⟨ps, ⟨g0, t0, cs0, f0, p0, q0, hg0, ht0, hv0, hd0, _, _⟩, _, _⟩ := h
  obtain rfl := Option.some.inj ((show Tryd.prog.globalNamed "loop.example/g00974/impl.actNames" = some 0 by kernel_rfl).symm.trans hg0)
  obtain rfl := Option.some.inj ((show (Tryd.prog.globals[0]?).map (·.type) = some 82 by kernel_rfl).symm.trans ht0)
  exact GV_strs (names := gl0) hg0 Tryd.underlying82 Tryd.underlying9 (by kernel_rfl) hv0 hd0

set_option maxRecDepth 100000 in
theorem lifted (os : Os) (started : os.Started) (H : Type) (enc : TypeId × Value → H) :
    ReturnsInHanded {} Tryd.checked os 3 .any (fun w args => (Rows.fnExactActNameSpec.pre enc Tryd.prog Tryd.f3 Rows.fnExactActNameRow.domain false w args ∧ laidMetH Tryd.prog Rows.fnExactActNameRow.laid w) ∧ sizedMet enc Tryd.prog Tryd.f3 (OpenSpec.ofChange Rows.fnExactActNameSpec) false w args) (Rows.fnExactActNameSpec.post enc Tryd.prog Tryd.f3 false true false false) := by
  refine returnsInHanded_of_change_and (C := Tryd.checked) (X := fun w _ => laidMetH Tryd.prog Rows.fnExactActNameRow.laid w) (fun _ _ _ hh h => h.of_heap hh) own started (by kernel_rfl) Tryd.func3
    (ChangeSpec.witness_shaped (enc := enc) (C := Tryd.checked) (os := os) (X := fun w _ => laidMetH Tryd.prog Rows.fnExactActNameRow.laid w) false (World.doorLaid Tryd.prog 400 os) #[.int .i64 0] 8 rfl (World.shaped_of_RefB (by kernel_rfl) (by kernel_rfl)) (by kernel_rfl) (by kernel_rfl) (by kernel_rfl) (door_met os _)) ?_
  intro W base args ds gs before hval0 hW hcnd _ hL _
  have hval : ∀ (j : Nat) t v, Tryd.f3.params[j]? = some t → args[j]? = some v → Value.okWide Tryd.prog W .any base t v := hval0
  have hW' := hW
  obtain ⟨p, q, hA0, hV, rfl, hfz, hnd⟩ := hW
  have hA : DataW.TrodAll enc Tryd.prog W 0 (fun _ => true) true Tryd.f3.params.toList args.toList ds p := hA0
  rw [Tryd.params3] at hA hval
  obtain ⟨v0, vs0, d0, ds0, p0, q0, hargs, rfl, rfl, h0, r0⟩ := trodAll_cons hA
  obtain ⟨rfl, rfl, rfl⟩ := trodAll_nil r0
  obtain rfl : args = #[v0] := by cases args; simp_all
  obtain ⟨gd0, gs0, gq0, rfl, hv0⟩ := trodVars_cons hV
  obtain rfl := trodVars_end hv0
  have hG0 := of_laid hL
  have k0 := h0
  have lt0 : ∀ x ∈ p0, x.block < W.heap.size := by obtain ⟨m, hm⟩ := k0; exact DataW.trod_lt m _ _ _ hm
  obtain ⟨x0, rfl, _, _, w0⟩ := open_int Tryd.underlying3 (hval 0 3 v0 rfl rfl) h0
  have hc := c_laws_FnExactActName (w := W) x0 hG0
  refine hc.mono fun e W' ⟨he, bel⟩ => ?_
  rw [laws_FnExactActName_true x0] at he
  subst he
  exact ⟨_, rfl, _, _, _, [], _, _, hW', trodAll_mk1 (shut_bool Tryd.underlying4 _), (trodAll_cons_mk (Below.trod laidOut (by kernel_rfl) (of_decide_eq_true (by kernel_rfl)) k0 bel lt0) trodAll_mk0), vars_below laidOut bel _ (by kernel_rfl) hV, bel.frame _, fun h => by cases h⟩

theorem over : Rows.fnExactActNameRow.holds Tryd.pinned (OpenSpec.ofChange Rows.fnExactActNameSpec) :=
  OpenClaim.holds_of_wide 3 Tryd.f3 rfl rfl rfl rfl rfl rfl rfl ⟨rfl, rfl, rfl, rfl, rfl⟩ rfl rfl rfl rfl rfl (by kernel_rfl) Tryd.func3 (by kernel_rfl)
    (of_decide_eq_true (by kernel_rfl)) (by unfold Func.isWrapper; first | (rw [if_pos (by decide +kernel)]; kernel_rfl) | (rw [if_neg (by decide +kernel)]; exact ⟨rfl, rfl⟩))
    (fun os started H enc _ => lifted os started H enc)

theorem card : Rows.FnExactActNameCardSaid :=
  Claim7.holds_tied_plain_at .later [] [.widerDeep] true (true, "ced246f210c11f613587500ac62ce721159eb83655c7454f67a98e7be25ea8d5") false
    over (fun _ h => by cases h) (by kernel_rfl) (fun _ h => by cases h) fnExactActName_row_tie rfl ⟨rfl, rfl⟩ (by kernel_rfl) rfl
    (fun f fn hf hfn => by
      obtain rfl : f = 3 := Option.some.inj ((show Tryd.prog.funcNamed "loop.example/g00974/laws.FnExactActName" = some 3 by kernel_rfl).symm.trans hf) |>.symm
      obtain rfl : fn = Tryd.f3 := (Option.some.inj (Tryd.func3.symm.trans hfn)).symm
      exact ⟨by kernel_rfl, fun j t ht => by
        rw [Tryd.params3] at ht
        have hm : t ∈ [3] := by simpa using Array.mem_of_getElem? ht
        have hall : ([3].all fun u => !Tryd.prog.wantsStandIn u) = true := by kernel_rfl
        exact (show Tryd.prog.wantsStandIn t = false by simpa using List.all_eq_true.1 hall t hm)⟩)
    (by kernel_rfl)
end Go.Proofs.YtpfnofdaaekglaaDoor.fnExactActName
namespace Go.Proofs.YtpfnofdaaekglaaDoor
/-- The statement. -/
theorem fnExactActName_proved : Rows.FnExactActNameCardSaid := fnExactActName.card
#print axioms fnExactActName_proved
end Go.Proofs.YtpfnofdaaekglaaDoor
