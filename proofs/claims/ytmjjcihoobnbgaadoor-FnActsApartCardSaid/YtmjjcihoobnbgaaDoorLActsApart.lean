/- The law FnActsApart: for every input it returns true, and what came in is as it was. No condition. By program (wip/gen). -/
import Derived.Test.YtmjjcihoobnbgaaDoorPX
import Derived.Test.YtmjjcihoobnbgaaDoorCards
import Derived.Test.YtmjjcihoobnbgaaDoorTie
import Derived.OpenShut
import Derived.ChangeOld
import Derived.ProofKit
import Derived.LaidMore
import Derived.Stop.Joined
import Derived.SevenTiedAt
namespace Go.Proofs.YtmjjcihoobnbgaaDoor.Fw
open Go.RowKit
set_option linter.unusedVariables false
set_option linter.unusedSimpArgs false

theorem sl22 : chkSlice Tryd.prog 22 5 1 1 = true := by kernel_rfl

theorem rd5 : Reads Tryd.prog 5 UInt8 := by
  intro H enc W fuel cs x h
  obtain ⟨n, rfl, _, hw⟩ := DataW.trod_int Tryd.underlying5 h
  refine ⟨UInt8.ofNat n.toNat, ?_, trivial⟩
  simp [Lit.wf, IntKind.min, IntKind.max, IntKind.signed, IntKind.bits] at hw
  have h2 : (UInt8.ofNat n.toNat).toNat = n.toNat % 256 := UInt8.toNat_ofNat'
  show [Value.int .u8 n] = [Value.int .u8 ((UInt8.ofNat n.toNat).toNat : Int)]
  rw [h2, show ((n.toNat % 256 : Nat) : Int) = n by omega]
theorem rd22 : Reads Tryd.prog 22 (List UInt8) := reads_slice sl22 (by kernel_rfl) rd5

theorem oc_laws_FnActsApart {v0 : Value} (p0 : List UInt8) {w : World} (hp0 : SlR (Old w) w v0 p0) (hG0 : GV 0 (gl0.map Value.string) w) (hG1 : GV 1 (gl1.map Value.string) w) (hG7 : GV 7 (gl7.map (Value.int .u64)) w) :
    Calls Tryd.prog 3 [v0].toArray w (fun e w' => e = .returned (.bool (laws_FnActsApart p0)) ∧ Below w.heap.size w w') := (c_laws_FnActsApart p0).close ⟨hG0, hG1, hG7⟩ ⟨hp0, trivial⟩

end Go.Proofs.YtmjjcihoobnbgaaDoor.Fw

namespace Go.Proofs.YtmjjcihoobnbgaaDoor.fnActsApart
open Go.ChangeShapes Go.WideShapes Go.ChangeAt Go.RowKit Go.Proofs.YtmjjcihoobnbgaaDoor.Fw
set_option linter.unusedVariables false

theorem own : ownKnob Tryd.prog.godebug = none := by kernel_rfl
theorem laidOut : laidOutB Tryd.prog = true := by kernel_rfl

theorem door_met (os : Os) (args : Array Value) : laidMetH Tryd.prog Rows.fnActsApartRow.laid ((World.doorLaid Tryd.prog 400 os).forCall (fun _ _ => 0) ⟨#[], args, []⟩).memory :=
  laidMetH_of_parts3 (fuel := 8) (laidMet_of_run' 8 (by kernel_rfl) (by kernel_rfl)) (by kernel_rfl) (by kernel_rfl)
theorem of_laid {W : World} (h : laidMetH Tryd.prog Rows.fnActsApartRow.laid W) : GV 9 (gl9.map (Value.int .u8)) W ∧ GV 10 (gl10.map (Value.int .u8)) W ∧ GV 7 (gl7.map (Value.int .u64)) W ∧ GV 1 (gl1.map Value.string) W ∧ GV 0 (gl0.map Value.string) W := by
  rw [MakeChecks.laidMetH_plain _ _ _ (by kernel_rfl)] at h
  obtain ⟨ps, ⟨g0, t0, cs0, f0, p0, q0, hg0, ht0, hv0, hd0, ⟨g1, t1, cs1, f1, p1, q1, hg1, ht1, hv1, hd1, ⟨g2, t2, cs2, f2, p2, q2, hg2, ht2, hv2, hd2, ⟨g3, t3, cs3, f3, p3, q3, hg3, ht3, hv3, hd3, ⟨g4, t4, cs4, f4, p4, q4, hg4, ht4, hv4, hd4, _, _⟩, _⟩, _⟩, _⟩, _⟩, _, _⟩ := h
  obtain rfl := Option.some.inj ((show Tryd.prog.globalNamed "math/bits.deBruijn32tab" = some 9 by kernel_rfl).symm.trans hg0)
  obtain rfl := Option.some.inj ((show (Tryd.prog.globals[9]?).map (·.type) = some 200 by kernel_rfl).symm.trans ht0)
  obtain rfl := Option.some.inj ((show Tryd.prog.globalNamed "math/bits.deBruijn64tab" = some 10 by kernel_rfl).symm.trans hg1)
  obtain rfl := Option.some.inj ((show (Tryd.prog.globals[10]?).map (·.type) = some 201 by kernel_rfl).symm.trans ht1)
  obtain rfl := Option.some.inj ((show Tryd.prog.globalNamed "internal/strconv.uint64pow10" = some 7 by kernel_rfl).symm.trans hg2)
  obtain rfl := Option.some.inj ((show (Tryd.prog.globals[7]?).map (·.type) = some 192 by kernel_rfl).symm.trans ht2)
  obtain rfl := Option.some.inj ((show Tryd.prog.globalNamed "loop.example/g00974/impl.callNames" = some 1 by kernel_rfl).symm.trans hg3)
  obtain rfl := Option.some.inj ((show (Tryd.prog.globals[1]?).map (·.type) = some 98 by kernel_rfl).symm.trans ht3)
  obtain rfl := Option.some.inj ((show Tryd.prog.globalNamed "loop.example/g00974/impl.actNames" = some 0 by kernel_rfl).symm.trans hg4)
  obtain rfl := Option.some.inj ((show (Tryd.prog.globals[0]?).map (·.type) = some 70 by kernel_rfl).symm.trans ht4)
  exact ⟨GV_ints (names := gl9) hg0 Tryd.underlying200 Tryd.underlying5 (by kernel_rfl) (by kernel_rfl) hv0 hd0, GV_ints (names := gl10) hg1 Tryd.underlying201 Tryd.underlying5 (by kernel_rfl) (by kernel_rfl) hv1 hd1, GV_ints (names := gl7) hg2 Tryd.underlying192 Tryd.underlying175 (by kernel_rfl) (by kernel_rfl) hv2 hd2, GV_strs (names := gl1) hg3 Tryd.underlying98 Tryd.underlying9 (by kernel_rfl) (by kernel_rfl) hv3 hd3, GV_strs (names := gl0) hg4 Tryd.underlying70 Tryd.underlying9 (by kernel_rfl) (by kernel_rfl) hv4 hd4⟩

set_option maxRecDepth 100000 in
theorem lifted (os : Os) (started : os.Started) (H : Type) (enc : TypeId × Value → H) :
    ReturnsInHanded {} Tryd.checked os 3 .any (fun w args => (Rows.fnActsApartSpec.pre enc Tryd.prog Tryd.f3 Rows.fnActsApartRow.domain false w args ∧ laidMetH Tryd.prog Rows.fnActsApartRow.laid w) ∧ sizedMet enc Tryd.prog Tryd.f3 (OpenSpec.ofChange Rows.fnActsApartSpec) false w args) (Rows.fnActsApartSpec.post enc Tryd.prog Tryd.f3 false true false false) := by
  refine returnsInHanded_of_change_and (C := Tryd.checked) (X := fun w _ => laidMetH Tryd.prog Rows.fnActsApartRow.laid w) (fun _ _ _ hh h => h.of_heap hh) own started (by kernel_rfl) Tryd.func3
    (ChangeSpec.witness_shaped (enc := enc) (C := Tryd.checked) (os := os) (X := fun w _ => laidMetH Tryd.prog Rows.fnActsApartRow.laid w) false (World.doorLaid Tryd.prog 400 os) #[.slice none 0 0] 8 rfl (World.shaped_of_RefB (by kernel_rfl) (by kernel_rfl)) (by kernel_rfl) (by kernel_rfl) (by kernel_rfl) (door_met os _)) ?_
  intro W base args ds gs before hval0 hW hcnd _ hL _
  have hval : ∀ (j : Nat) t v, Tryd.f3.params[j]? = some t → args[j]? = some v → Value.okWide Tryd.prog W .any base t v := hval0
  have hW' := hW
  obtain ⟨p, q, hA0, hV, rfl, hfz, hnd⟩ := hW
  have hA : DataW.TrodAll enc Tryd.prog W 0 (fun _ => true) true Tryd.f3.params.toList args.toList ds p := hA0
  rw [Tryd.params3] at hA hval
  obtain ⟨v0, vs0, d0, ds0, p0, q0, hargs, rfl, rfl, h0, r0⟩ := trodAll_cons hA
  obtain ⟨rfl, rfl, rfl⟩ := trodAll_nil r0
  obtain rfl : args = #[v0] := by cases args; simp_all
  obtain ⟨gd0, gs0, gq0, rfl, hv0⟩ := trodVars_cons hV
  obtain ⟨gd1, gs1, gq1, rfl, hv1⟩ := trodVars_cons hv0
  obtain rfl := trodVars_end hv1
  obtain ⟨hG9, hG10, hG7, hG1, hG0⟩ := of_laid hL
  have k0 := h0
  have lt0 : ∀ x ∈ p0, x.block < W.heap.size := by obtain ⟨m, hm⟩ := k0; exact DataW.trod_lt m _ _ _ hm
  obtain ⟨A0, len0, cap0, rfl⟩ := okWide_slice Tryd.underlying22 (hval 0 22 v0 rfl rfl)
  obtain ⟨x0, hx0⟩ : ∃ x : List UInt8, SlR (Old W) W (.slice A0 len0 cap0) x := by
    obtain ⟨fuel, hf⟩ := h0
    obtain ⟨x, v, hv, hx⟩ := rd22 hf
    cases hv
    exact ⟨x, hx⟩
  have hc := oc_laws_FnActsApart (w := W) x0 hx0 hG0 hG1 hG7
  refine hc.mono fun e W' ⟨he, bel⟩ => ?_
  rw [laws_FnActsApart_true x0 (Dat.rd_good (B := Old W) (w := W) (cs := [_]) ⟨_, rfl, hx0⟩)] at he
  subst he
  exact ⟨_, rfl, _, _, _, [], _, _, hW', trodAll_mk1 (shut_bool Tryd.underlying4 _), (trodAll_cons_mk (Below.trod laidOut (by kernel_rfl) (of_decide_eq_true (by kernel_rfl)) k0 bel lt0) trodAll_mk0), vars_below laidOut bel _ (by kernel_rfl) hV, bel.frame _, fun h => by cases h⟩

theorem over : Rows.fnActsApartRow.holds Tryd.pinned (OpenSpec.ofChange Rows.fnActsApartSpec) :=
  OpenClaim.holds_of_wide 3 Tryd.f3 rfl rfl rfl rfl rfl rfl rfl ⟨rfl, rfl, rfl, rfl, rfl⟩ rfl rfl rfl rfl rfl (by kernel_rfl) Tryd.func3 (by kernel_rfl)
    (of_decide_eq_true (by kernel_rfl)) (by unfold Func.isWrapper; first | (rw [if_pos (by decide +kernel)]; kernel_rfl) | (rw [if_neg (by decide +kernel)]; exact ⟨rfl, rfl⟩))
    (fun os started H enc _ => lifted os started H enc)

theorem card : Rows.FnActsApartCardSaid :=
  Claim7.holds_tied_plain_at .later [] [.data, .data, .data, .widerDeep, .widerDeep] true (true, "c92ada5cff6e9dda2d5334594b9f58e624b37b383a7acb95d78510338284d01f") true
    over (fun _ h => by cases h) (by kernel_rfl) (fun _ h => by cases h) fnActsApart_row_tie rfl ⟨rfl, rfl⟩ (by kernel_rfl) rfl
    (fun f fn hf hfn => by
      obtain rfl : f = 3 := Option.some.inj ((show Tryd.prog.funcNamed "loop.example/g00974/laws.FnActsApart" = some 3 by kernel_rfl).symm.trans hf) |>.symm
      obtain rfl : fn = Tryd.f3 := (Option.some.inj (Tryd.func3.symm.trans hfn)).symm
      exact ⟨by kernel_rfl, fun j t ht => by
        rw [Tryd.params3] at ht
        have hm : t ∈ [22] := by simpa using Array.mem_of_getElem? ht
        have hall : ([22].all fun u => !Tryd.prog.wantsStandIn u) = true := by kernel_rfl
        exact (show Tryd.prog.wantsStandIn t = false by simpa using List.all_eq_true.1 hall t hm)⟩)
    (by kernel_rfl)
end Go.Proofs.YtmjjcihoobnbgaaDoor.fnActsApart
namespace Go.Proofs.YtmjjcihoobnbgaaDoor
/-- The statement. -/
theorem fnActsApart_proved : Rows.FnActsApartCardSaid := fnActsApart.card
#print axioms fnActsApart_proved
end Go.Proofs.YtmjjcihoobnbgaaDoor
