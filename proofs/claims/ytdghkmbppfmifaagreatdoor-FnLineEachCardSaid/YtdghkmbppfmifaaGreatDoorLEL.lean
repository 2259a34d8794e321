/- The law FnLineEach: for every input it returns true, and what came in is as it was. No condition. By program (wip/gen). -/
import Derived.Test.YtdghkmbppfmifaaGreatDoorCards
import Derived.Test.YtdghkmbppfmifaaGreatDoorTie
import Derived.OpenShut
import Derived.ChangeOld
import Derived.ProofKit
import Derived.LaidMore
import Derived.Stop.Joined
import Derived.SevenTiedAt
import Derived.Test.YtdghkmbppfmifaaGreatDoorLEZ
import Derived.Test.YtdghkmbppfmifaaGreatDoorLEA
import Derived.Test.YtdghkmbppfmifaaGreatDoorLEB
import Derived.Test.YtdghkmbppfmifaaGreatDoorLEC
import Derived.Test.YtdghkmbppfmifaaGreatDoorLED
import Derived.Test.YtdghkmbppfmifaaGreatDoorLEE
namespace Go.Proofs.YtdghkmbppfmifaaGreatDoor.Fw
open Go.RowKit
set_option linter.unusedVariables false
set_option linter.unusedSimpArgs false

theorem sl22 : chkSlice Tryz.prog 22 5 1 1 = true := by kernel_rfl

theorem rd5 : Reads Tryz.prog 5 UInt8 := by
  intro H enc W fuel cs x h
  obtain ⟨n, rfl, _, hw⟩ := DataW.trod_int Tryz.underlying5 h
  refine ⟨UInt8.ofNat n.toNat, ?_, trivial⟩
  simp [Lit.wf, IntKind.min, IntKind.max, IntKind.signed, IntKind.bits] at hw
  have h2 : (UInt8.ofNat n.toNat).toNat = n.toNat % 256 := UInt8.toNat_ofNat'
  show [Value.int .u8 n] = [Value.int .u8 ((UInt8.ofNat n.toNat).toNat : Int)]
  rw [h2, show ((n.toNat % 256 : Nat) : Int) = n by omega]
theorem rd22 : Reads Tryz.prog 22 (List UInt8) := reads_slice sl22 (by kernel_rfl) rd5

def laws_FnLineEach (p0 : List UInt8) : Bool := true
theorem oc_laws_FnLineEach (p0 : List UInt8) {v0 : Value} {w : World} (hp0 : SlR (Old w) w v0 p0) (hG0 : GV 0 (gl0.map (Value.int .u64)) w) :
    Calls Tryz.prog 3 [v0].toArray w (fun e w' => e = .returned (.bool (laws_FnLineEach p0)) ∧ Below w.heap.size w w') := Ri.oc3 p0 hp0 hG0
theorem laws_FnLineEach_true (p0 : List UInt8) (_ : Dat.good p0) : laws_FnLineEach p0 = true := rfl
end Go.Proofs.YtdghkmbppfmifaaGreatDoor.Fw

namespace Go.Proofs.YtdghkmbppfmifaaGreatDoor.fnLineEach
open Go.ChangeShapes Go.WideShapes Go.ChangeAt Go.RowKit Go.Proofs.YtdghkmbppfmifaaGreatDoor.Fw
set_option linter.unusedVariables false

theorem own : ownKnob Tryz.prog.godebug = none := by kernel_rfl
theorem laidOut : laidOutB Tryz.prog = true := zf_laid

theorem door_met (os : Os) (args : Array Value) : laidMetH Tryz.prog Rows.fnLineEachRow.laid ((World.doorLaid Tryz.prog 400 os).forCall (fun _ _ => 0) ⟨#[], args, []⟩).memory :=
  laidMetH_of_parts3 (fuel := 8) (laidMet_of_run' 8 (by kernel_rfl) (by kernel_rfl)) (by kernel_rfl) (by kernel_rfl)
set_option maxRecDepth 100000 in
theorem of_laid {W : World} (h : laidMetH Tryz.prog Rows.fnLineEachRow.laid W) : GV 2 (gl2.map (Value.int .u8)) W ∧ GV 3 (gl3.map (Value.int .u8)) W ∧ GV 0 (gl0.map (Value.int .u64)) W := by
  rw [MakeChecks.laidMetH_plain _ _ _ (by kernel_rfl)] at h
  obtain ⟨ps, ⟨g0, t0, cs0, f0, p0, q0, hg0, ht0, hv0, hd0, ⟨g1, t1, cs1, f1, p1, q1, hg1, ht1, hv1, hd1, ⟨g2, t2, cs2, f2, p2, q2, hg2, ht2, hv2, hd2, _, _⟩, _⟩, _⟩, _, _⟩ := h
  obtain rfl := Option.some.inj ((show Tryz.prog.globalNamed "math/bits.deBruijn32tab" = some 2 by kernel_rfl).symm.trans hg0)
  obtain rfl := Option.some.inj ((show (Tryz.prog.globals[2]?).map (·.type) = some 387 by kernel_rfl).symm.trans ht0)
  obtain rfl := Option.some.inj ((show Tryz.prog.globalNamed "math/bits.deBruijn64tab" = some 3 by kernel_rfl).symm.trans hg1)
  obtain rfl := Option.some.inj ((show (Tryz.prog.globals[3]?).map (·.type) = some 388 by kernel_rfl).symm.trans ht1)
  obtain rfl := Option.some.inj ((show Tryz.prog.globalNamed "internal/strconv.uint64pow10" = some 0 by kernel_rfl).symm.trans hg2)
  obtain rfl := Option.some.inj ((show (Tryz.prog.globals[0]?).map (·.type) = some 305 by kernel_rfl).symm.trans ht2)
  exact ⟨GV_ints (names := gl2) hg0 Tryz.underlying387 Tryz.underlying5 (by kernel_rfl) (by kernel_rfl) hv0 hd0, GV_ints (names := gl3) hg1 Tryz.underlying388 Tryz.underlying5 (by kernel_rfl) (by kernel_rfl) hv1 hd1, GV_ints (names := gl0) hg2 Tryz.underlying305 Tryz.underlying224 (by kernel_rfl) (by kernel_rfl) hv2 hd2⟩

set_option maxRecDepth 100000 in
theorem lifted (os : Os) (started : os.Started) (H : Type) (enc : TypeId × Value → H) :
    ReturnsInHanded {} Tryz.checked os 3 .any (fun w args => (Rows.fnLineEachSpec.pre enc Tryz.prog Tryz.f3 Rows.fnLineEachRow.domain false w args ∧ laidMetH Tryz.prog Rows.fnLineEachRow.laid w) ∧ sizedMet enc Tryz.prog Tryz.f3 (OpenSpec.ofChange Rows.fnLineEachSpec) false w args) (Rows.fnLineEachSpec.post enc Tryz.prog Tryz.f3 false true false false) := by
  refine returnsInHanded_of_change_and (C := Tryz.checked) (X := fun w _ => laidMetH Tryz.prog Rows.fnLineEachRow.laid w) (fun _ _ _ hh h => h.of_heap hh) own started (by kernel_rfl) Tryz.func3
    (ChangeSpec.witness_shaped (enc := enc) (C := Tryz.checked) (os := os) (X := fun w _ => laidMetH Tryz.prog Rows.fnLineEachRow.laid w) false (World.doorLaid Tryz.prog 400 os) #[.slice none 0 0] 8 rfl (World.shaped_of_RefB (by kernel_rfl) (by kernel_rfl)) (by kernel_rfl) (by kernel_rfl) (by kernel_rfl) (door_met os _)) ?_
  intro W base args ds gs before hval0 hW hcnd _ hL _
  have hval : ∀ (j : Nat) t v, Tryz.f3.params[j]? = some t → args[j]? = some v → Value.okWide Tryz.prog W .any base t v := hval0
  have hW' := hW
  obtain ⟨p, q, hA0, hV, rfl, hfz, hnd⟩ := hW
  have hA : DataW.TrodAll enc Tryz.prog W 0 (fun _ => true) true Tryz.f3.params.toList args.toList ds p := hA0
  rw [Tryz.params3] at hA hval
  obtain ⟨v0, vs0, d0, ds0, p0, q0, hargs, rfl, rfl, h0, r0⟩ := trodAll_cons hA
  obtain ⟨rfl, rfl, rfl⟩ := trodAll_nil r0
  obtain rfl : args = #[v0] := by cases args; simp_all
  obtain rfl := trodVars_end hV
  obtain ⟨hG2, hG3, hG0⟩ := of_laid hL
  have k0 := h0
  have lt0 : ∀ x ∈ p0, x.block < W.heap.size := by obtain ⟨m, hm⟩ := k0; exact DataW.trod_lt m _ _ _ hm
  obtain ⟨A0, len0, cap0, rfl⟩ := okWide_slice Tryz.underlying22 (hval 0 22 v0 rfl rfl)
  obtain ⟨x0, hx0⟩ : ∃ x : List UInt8, SlR (Old W) W (.slice A0 len0 cap0) x := by
    obtain ⟨fuel, hf⟩ := h0
    obtain ⟨x, v, hv, hx⟩ := rd22 hf
    cases hv
    exact ⟨x, hx⟩
  have hc := oc_laws_FnLineEach (w := W) x0 hx0 hG0
  refine hc.mono fun e W' ⟨he, bel⟩ => ?_
  rw [laws_FnLineEach_true x0 (Dat.rd_good (B := Old W) (w := W) (cs := [_]) ⟨_, rfl, hx0⟩)] at he
  subst he
  exact ⟨_, rfl, _, _, _, [], _, _, hW', trodAll_mk1 (shut_bool Tryz.underlying4 _), (trodAll_cons_mk (Below.trod laidOut (by kernel_rfl) (of_decide_eq_true (by kernel_rfl)) k0 bel lt0) trodAll_mk0), vars_below laidOut bel _ (by kernel_rfl) hV, bel.frame _, fun h => by cases h⟩

theorem over : Rows.fnLineEachRow.holds Tryz.pinned (OpenSpec.ofChange Rows.fnLineEachSpec) :=
  OpenClaim.holds_of_wide 3 Tryz.f3 rfl rfl rfl rfl rfl rfl rfl ⟨rfl, rfl, rfl, rfl, rfl⟩ rfl rfl rfl rfl rfl zf_fn Tryz.func3 zf_closed
    (of_decide_eq_true zf_inst) (by unfold Func.isWrapper; first | (rw [if_pos (by decide +kernel)]; kernel_rfl) | (rw [if_neg (by decide +kernel)]; exact ⟨rfl, rfl⟩))
    (fun os started H enc _ => lifted os started H enc)

theorem card : Rows.FnLineEachCardSaid :=
  Claim7.holds_tied_plain_at .later [] [.data, .data, .data] true (true, "3ffe9a79f1a29b68329fe8055274c65018b7525895fb32315b27e73f43d24ddb") true
    over (fun _ h => by cases h) zf_wfb (fun _ h => by cases h) fnLineEach_row_tie rfl ⟨rfl, rfl⟩ zf_main rfl
    (fun f fn hf hfn => by
      obtain rfl : f = 3 := Option.some.inj ((show Tryz.prog.funcNamed "loop.example/g00974/laws.FnLineEach" = some 3 from zf_fn).symm.trans hf) |>.symm
      obtain rfl : fn = Tryz.f3 := (Option.some.inj (Tryz.func3.symm.trans hfn)).symm
      exact ⟨zf_looks, fun j t ht => by
        rw [Tryz.params3] at ht
        have hm : t ∈ [22] := by simpa using Array.mem_of_getElem? ht
        have hall : ([22].all fun u => !Tryz.prog.wantsStandIn u) = true := by kernel_rfl
        exact (show Tryz.prog.wantsStandIn t = false by simpa using List.all_eq_true.1 hall t hm)⟩)
    zf_goes
end Go.Proofs.YtdghkmbppfmifaaGreatDoor.fnLineEach
namespace Go.Proofs.YtdghkmbppfmifaaGreatDoor
/-- The statement. -/
theorem fnLineEach_proved : Rows.FnLineEachCardSaid := fnLineEach.card
#print axioms fnLineEach_proved
end Go.Proofs.YtdghkmbppfmifaaGreatDoor
