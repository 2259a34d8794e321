/- The law FnTimes: for every input it returns true, and what came in is as it was. No condition. By program (wip/gen). -/
import Derived.Test.YtdghkmbppfmifaaGreatRows
import Derived.OpenShut
import Derived.ChangeOld
import Derived.Test.YtdghkmbppfmifaaGreatTMA
import Derived.Test.YtdghkmbppfmifaaGreatTMB
import Derived.Test.YtdghkmbppfmifaaGreatTMC
import Derived.Test.YtdghkmbppfmifaaGreatTMD
import Derived.Test.YtdghkmbppfmifaaGreatTME
namespace Go.Proofs.YtdghkmbppfmifaaGreat.Fw
open Go.RowKit
set_option linter.unusedVariables false
set_option linter.unusedSimpArgs false

theorem sl22 : chkSlice Tryz.prog 22 5 1 1 = true := by kernel_rfl

theorem rd5 : Reads Tryz.prog 5 UInt8 := by
  intro H enc W fuel cs x h
  obtain ⟨n, rfl, _, hw⟩ := DataW.trod_int Tryz.underlying5 h
  refine ⟨UInt8.ofNat n.toNat, ?_, trivial⟩
  simp [Lit.wf, IntKind.min, IntKind.max, IntKind.signed, IntKind.bits] at hw
  have h2 : (UInt8.ofNat n.toNat).toNat = n.toNat % 256 := UInt8.toNat_ofNat'
  show [Value.int .u8 n] = [Value.int .u8 ((UInt8.ofNat n.toNat).toNat : Int)]
  rw [h2, show ((n.toNat % 256 : Nat) : Int) = n by omega]
theorem rd22 : Reads Tryz.prog 22 (List UInt8) := reads_slice sl22 (by kernel_rfl) rd5

def laws_FnTimes (p0 : List UInt8) : Bool := true
theorem oc_laws_FnTimes (p0 : List UInt8) {v0 : Value} {w : World} (hp0 : SlR (Old w) w v0 p0) :
    Calls Tryz.prog 4 [v0].toArray w (fun e w' => e = .returned (.bool (laws_FnTimes p0)) ∧ Below w.heap.size w w') := Ri.oc4 p0 hp0
theorem laws_FnTimes_true (p0 : List UInt8) (_ : Dat.good p0) : laws_FnTimes p0 = true := rfl
end Go.Proofs.YtdghkmbppfmifaaGreat.Fw

namespace Go.Proofs.YtdghkmbppfmifaaGreat.fnTimes
open Go.ChangeShapes Go.WideShapes Go.ChangeAt Go.RowKit Go.Proofs.YtdghkmbppfmifaaGreat.Fw
set_option linter.unusedVariables false

theorem own : ownKnob Tryz.prog.godebug = none := by kernel_rfl
theorem laidOut : laidOutB Tryz.prog = true := by kernel_rfl

set_option maxRecDepth 100000 in
theorem lifted (os : Os) (started : os.Started) (H : Type) (enc : TypeId × Value → H) :
    ReturnsInHanded {} Tryz.checked os 4 .any (Rows.fnTimesSpec.pre6 enc Tryz.prog Tryz.f4 Rows.fnTimesRow.domain false) (Rows.fnTimesSpec.post enc Tryz.prog Tryz.f4 false true false false) := by
  refine returnsInHanded_of_change (C := Tryz.checked) own started (by kernel_rfl) Tryz.func4
    (ChangeSpec.witness6 (enc := enc) (C := Tryz.checked) false ⟨#[], #[.slice none 0 0], []⟩ 8 (by kernel_rfl) (by kernel_rfl) (by kernel_rfl) (by kernel_rfl)) ?_
  intro W base args ds gs before hval0 hW hcnd _
  have hval : ∀ (j : Nat) t v, Tryz.f4.params[j]? = some t → args[j]? = some v → Value.okWide Tryz.prog W .any base t v := hval0
  have hW' := hW
  obtain ⟨p, q, hA0, hV, rfl, hfz, hnd⟩ := hW
  have hA : DataW.TrodAll enc Tryz.prog W 0 (fun _ => true) true Tryz.f4.params.toList args.toList ds p := hA0
  rw [Tryz.params4] at hA hval
  obtain ⟨v0, vs0, d0, ds0, p0, q0, hargs, rfl, rfl, h0, r0⟩ := trodAll_cons hA
  obtain ⟨rfl, rfl, rfl⟩ := trodAll_nil r0
  obtain rfl : args = #[v0] := by cases args; simp_all
  obtain ⟨rfl, rfl⟩ := trodVars_none hV
  have k0 := h0
  have lt0 : ∀ x ∈ p0, x.block < W.heap.size := by obtain ⟨m, hm⟩ := k0; exact DataW.trod_lt m _ _ _ hm
  obtain ⟨A0, len0, cap0, rfl⟩ := okWide_slice Tryz.underlying22 (hval 0 22 v0 rfl rfl)
  obtain ⟨x0, hx0⟩ : ∃ x : List UInt8, SlR (Old W) W (.slice A0 len0 cap0) x := by
    obtain ⟨fuel, hf⟩ := h0
    obtain ⟨x, v, hv, hx⟩ := rd22 hf
    cases hv
    exact ⟨x, hx⟩
  have hc := oc_laws_FnTimes (w := W) x0 hx0
  refine hc.mono fun e W' ⟨he, bel⟩ => ?_
  rw [laws_FnTimes_true x0 (Dat.rd_good (B := Old W) (w := W) (cs := [_]) ⟨_, rfl, hx0⟩)] at he
  subst he
  exact ⟨_, rfl, _, _, _, [], _, [], hW', trodAll_mk1 (shut_bool Tryz.underlying4 _), (trodAll_cons_mk (Below.trod laidOut (by kernel_rfl) (of_decide_eq_true (by kernel_rfl)) k0 bel lt0) trodAll_mk0), rfl, bel.frame _, fun h => by cases h⟩

theorem over : Rows.fnTimesRow.holds Tryz.pinned (OpenSpec.ofChange Rows.fnTimesSpec) :=
  OpenClaim.holds_of_wide 4 Tryz.f4 rfl rfl rfl rfl rfl rfl rfl ⟨rfl, rfl, rfl, rfl, rfl⟩ rfl rfl rfl rfl rfl (by kernel_rfl) Tryz.func4 (by kernel_rfl)
    (of_decide_eq_true (by kernel_rfl)) (by unfold Func.isWrapper; first | (rw [if_pos (by decide +kernel)]; kernel_rfl) | (rw [if_neg (by decide +kernel)]; exact ⟨rfl, rfl⟩))
    (fun os started H enc _ => lifted os started H enc)

end Go.Proofs.YtdghkmbppfmifaaGreat.fnTimes
namespace Go.Proofs.YtdghkmbppfmifaaGreat
/-- The statement. -/
theorem fnTimes_proved : Rows.FnTimesSaid := fnTimes.over
#print axioms fnTimes_proved
end Go.Proofs.YtdghkmbppfmifaaGreat
