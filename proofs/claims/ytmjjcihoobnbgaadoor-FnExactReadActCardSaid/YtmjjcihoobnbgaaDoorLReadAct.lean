/- The law FnExactReadAct: for every input it returns true, and what came in is as it was. No condition. By program (wip/gen). -/
import Derived.Test.YtmjjcihoobnbgaaDoorPK
import Derived.Test.YtmjjcihoobnbgaaDoorGEi
import Derived.Test.YtmjjcihoobnbgaaDoorCards
import Derived.Test.YtmjjcihoobnbgaaDoorTie
import Derived.OpenShut
import Derived.ChangeOld
import Derived.ProofKit
import Derived.LaidMore
import Derived.Stop.Joined
import Derived.SevenTiedAt
namespace Go.Proofs.YtmjjcihoobnbgaaDoor.Fw
open Go.RowKit
set_option linter.unusedVariables false
set_option linter.unusedSimpArgs false



theorem rd9 : Reads Tryd.prog 9 ByteArray := reads_string Tryd.underlying9

theorem oc_laws_FnExactReadAct (p0 : ByteArray) {w : World} (hz : p0.size ≤ 9223372036854775807) (hG0 : GV 0 (gl0.map Value.string) w) (hG1 : GV 1 (gl1.map Value.string) w) (hG2 : GV 2 (gl2.map (Value.int .u8)) w) (hG7 : GV 7 (gl7.map (Value.int .u64)) w) (hG4 : GE 4 w) (hG5 : GE 5 w) (hG6 : GE 6 w) :
    Calls Tryd.prog 9 [.string p0].toArray w (fun e w' => e = .returned (.bool (laws_FnExactReadAct p0)) ∧ Below w.heap.size w w') := (c_laws_FnExactReadAct p0 hz).close ⟨hG0, hG1, hG2, hG7, hG4, hG5, hG6⟩ ⟨rfl, trivial⟩

theorem eqCall_refl (c : Call) : laws_eqCall c c = true := by
  unfold laws_eqCall
  simp only [decide_true, Bool.not_true, cond_false]
theorem eqAct_refl (c : Deed) : laws_eqAct c c = true := by
  unfold laws_eqAct
  simp only [eqCall_refl, decide_true, Bool.not_true, cond_false]
theorem laws_FnExactReadAct_true (p0 : ByteArray) : laws_FnExactReadAct p0 = true := by
  unfold laws_FnExactReadAct
  rw [ReadAct_twin, eqAct_refl, decide_eq_true rfl]
  exact Bool.cond_self _ _

end Go.Proofs.YtmjjcihoobnbgaaDoor.Fw

namespace Go.Proofs.YtmjjcihoobnbgaaDoor.fnExactReadAct
open Go.ChangeShapes Go.WideShapes Go.ChangeAt Go.RowKit Go.Proofs.YtmjjcihoobnbgaaDoor.Fw
set_option linter.unusedVariables false

theorem own : ownKnob Tryd.prog.godebug = none := by kernel_rfl
theorem laidOut : laidOutB Tryd.prog = true := by kernel_rfl

theorem door_met (os : Os) (args : Array Value) : laidMetH Tryd.prog Rows.fnExactReadActRow.laid ((World.doorLaid Tryd.prog 400 os).forCall (fun _ _ => 0) ⟨#[], args, []⟩).memory :=
  laidMetH_of_parts3 (fuel := 8) (laidMet_of_run' 8 (by kernel_rfl) (by kernel_rfl)) (by kernel_rfl) (by kernel_rfl)
set_option maxRecDepth 100000 in
theorem of_laid {W : World} (h : laidMetH Tryd.prog Rows.fnExactReadActRow.laid W) : GV 9 (gl9.map (Value.int .u8)) W ∧ GV 10 (gl10.map (Value.int .u8)) W ∧ GV 7 (gl7.map (Value.int .u64)) W ∧ GE 6 W ∧ GE 5 W ∧ GV 2 (gl2.map (Value.int .u8)) W ∧ GE 4 W ∧ GV 1 (gl1.map Value.string) W ∧ GV 0 (gl0.map Value.string) W := by
  rw [MakeChecks.laidMetH_plain _ _ _ (by kernel_rfl)] at h
  obtain ⟨ps, ⟨g0, t0, cs0, f0, p0, q0, hg0, ht0, hv0, hd0, ⟨g1, t1, cs1, f1, p1, q1, hg1, ht1, hv1, hd1, ⟨g2, t2, cs2, f2, p2, q2, hg2, ht2, hv2, hd2, ⟨g3, t3, cs3, f3, p3, q3, hg3, ht3, hv3, hd3, ⟨g4, t4, cs4, f4, p4, q4, hg4, ht4, hv4, hd4, ⟨g5, t5, cs5, f5, p5, q5, hg5, ht5, hv5, hd5, ⟨g6, t6, cs6, f6, p6, q6, hg6, ht6, hv6, hd6, ⟨g7, t7, cs7, f7, p7, q7, hg7, ht7, hv7, hd7, ⟨g8, t8, cs8, f8, p8, q8, hg8, ht8, hv8, hd8, ⟨g9, t9, cs9, f9, p9, q9, hg9, ht9, hv9, hd9, _, _⟩, _⟩, _⟩, _⟩, _⟩, _⟩, _⟩, _⟩, _⟩, _⟩, _, _⟩ := h
  obtain rfl := Option.some.inj ((show Tryd.prog.globalNamed "math/bits.deBruijn32tab" = some 9 by kernel_rfl).symm.trans hg0)
  obtain rfl := Option.some.inj ((show (Tryd.prog.globals[9]?).map (·.type) = some 200 by kernel_rfl).symm.trans ht0)
  obtain rfl := Option.some.inj ((show Tryd.prog.globalNamed "math/bits.deBruijn64tab" = some 10 by kernel_rfl).symm.trans hg1)
  obtain rfl := Option.some.inj ((show (Tryd.prog.globals[10]?).map (·.type) = some 201 by kernel_rfl).symm.trans ht1)
  obtain rfl := Option.some.inj ((show Tryd.prog.globalNamed "internal/strconv.uint64pow10" = some 7 by kernel_rfl).symm.trans hg2)
  obtain rfl := Option.some.inj ((show (Tryd.prog.globals[7]?).map (·.type) = some 192 by kernel_rfl).symm.trans ht2)
  obtain rfl := Option.some.inj ((show Tryd.prog.globalNamed "strconv.ErrRange" = some 6 by kernel_rfl).symm.trans hg3)
  obtain rfl := Option.some.inj ((show (Tryd.prog.globals[6]?).map (·.type) = some 129 by kernel_rfl).symm.trans ht3)
  obtain rfl := Option.some.inj ((show Tryd.prog.globalNamed "strconv.ErrSyntax" = some 5 by kernel_rfl).symm.trans hg4)
  obtain rfl := Option.some.inj ((show (Tryd.prog.globals[5]?).map (·.type) = some 129 by kernel_rfl).symm.trans ht4)
  obtain rfl := Option.some.inj ((show Tryd.prog.globalNamed "strings.asciiSpace" = some 2 by kernel_rfl).symm.trans hg6)
  obtain rfl := Option.some.inj ((show (Tryd.prog.globals[2]?).map (·.type) = some 123 by kernel_rfl).symm.trans ht6)
  obtain rfl := Option.some.inj ((show Tryd.prog.globalNamed "encoding/hex.ErrLength" = some 4 by kernel_rfl).symm.trans hg7)
  obtain rfl := Option.some.inj ((show (Tryd.prog.globals[4]?).map (·.type) = some 129 by kernel_rfl).symm.trans ht7)
  obtain rfl := Option.some.inj ((show Tryd.prog.globalNamed "loop.example/g00974/impl.callNames" = some 1 by kernel_rfl).symm.trans hg8)
  obtain rfl := Option.some.inj ((show (Tryd.prog.globals[1]?).map (·.type) = some 98 by kernel_rfl).symm.trans ht8)
  obtain rfl := Option.some.inj ((show Tryd.prog.globalNamed "loop.example/g00974/impl.actNames" = some 0 by kernel_rfl).symm.trans hg9)
  obtain rfl := Option.some.inj ((show (Tryd.prog.globals[0]?).map (·.type) = some 70 by kernel_rfl).symm.trans ht9)
  exact ⟨GV_ints (names := gl9) hg0 Tryd.underlying200 Tryd.underlying5 (by kernel_rfl) (by kernel_rfl) hv0 hd0, GV_ints (names := gl10) hg1 Tryd.underlying201 Tryd.underlying5 (by kernel_rfl) (by kernel_rfl) hv1 hd1, GV_ints (names := gl7) hg2 Tryd.underlying192 Tryd.underlying175 (by kernel_rfl) (by kernel_rfl) hv2 hd2, GE_iface hg3 Tryd.underlying129 hv3 hd3, GE_iface hg4 Tryd.underlying129 hv4 hd4, GV_ints (names := gl2) hg6 Tryd.underlying123 Tryd.underlying5 (by kernel_rfl) (by kernel_rfl) hv6 hd6, GE_iface hg7 Tryd.underlying129 hv7 hd7, GV_strs (names := gl1) hg8 Tryd.underlying98 Tryd.underlying9 (by kernel_rfl) (by kernel_rfl) hv8 hd8, GV_strs (names := gl0) hg9 Tryd.underlying70 Tryd.underlying9 (by kernel_rfl) (by kernel_rfl) hv9 hd9⟩

set_option maxRecDepth 100000 in
theorem lifted (os : Os) (started : os.Started) (H : Type) (enc : TypeId × Value → H) :
    ReturnsInHanded {} Tryd.checked os 9 .any (fun w args => (Rows.fnExactReadActSpec.pre enc Tryd.prog Tryd.f9 Rows.fnExactReadActRow.domain false w args ∧ laidMetH Tryd.prog Rows.fnExactReadActRow.laid w) ∧ sizedMet enc Tryd.prog Tryd.f9 (OpenSpec.ofChange Rows.fnExactReadActSpec) false w args) (Rows.fnExactReadActSpec.post enc Tryd.prog Tryd.f9 false true false false) := by
  refine returnsInHanded_of_change_and (C := Tryd.checked) (X := fun w _ => laidMetH Tryd.prog Rows.fnExactReadActRow.laid w) (fun _ _ _ hh h => h.of_heap hh) own started (by kernel_rfl) Tryd.func9
    (ChangeSpec.witness_shaped (enc := enc) (C := Tryd.checked) (os := os) (X := fun w _ => laidMetH Tryd.prog Rows.fnExactReadActRow.laid w) false (World.doorLaid Tryd.prog 400 os) #[.string ⟨#[]⟩] 8 rfl (World.shaped_of_RefB (by kernel_rfl) (by kernel_rfl)) (by kernel_rfl) (by kernel_rfl) (by kernel_rfl) (door_met os _)) ?_
  intro W base args ds gs before hval0 hW hcnd _ hL _
  have hval : ∀ (j : Nat) t v, Tryd.f9.params[j]? = some t → args[j]? = some v → Value.okWide Tryd.prog W .any base t v := hval0
  have hW' := hW
  obtain ⟨p, q, hA0, hV, rfl, hfz, hnd⟩ := hW
  have hA : DataW.TrodAll enc Tryd.prog W 0 (fun _ => true) true Tryd.f9.params.toList args.toList ds p := hA0
  rw [Tryd.params9] at hA hval
  obtain ⟨v0, vs0, d0, ds0, p0, q0, hargs, rfl, rfl, h0, r0⟩ := trodAll_cons hA
  obtain ⟨rfl, rfl, rfl⟩ := trodAll_nil r0
  obtain rfl : args = #[v0] := by cases args; simp_all
  obtain ⟨gd0, gs0, gq0, rfl, hv0⟩ := trodVars_cons hV
  obtain ⟨gd1, gs1, gq1, rfl, hv1⟩ := trodVars_cons hv0
  obtain rfl := trodVars_end hv1
  obtain ⟨hG9, hG10, hG7, hG6, hG5, hG2, hG4, hG1, hG0⟩ := of_laid hL
  have k0 := h0
  have lt0 : ∀ x ∈ p0, x.block < W.heap.size := by obtain ⟨m, hm⟩ := k0; exact DataW.trod_lt m _ _ _ hm
  obtain ⟨x0, rfl, _, _, w0⟩ := Go.ChangeMaps.open_string Tryd.underlying9 (hval 0 9 v0 rfl rfl) h0
  have hc := oc_laws_FnExactReadAct (w := W) x0 w0 hG0 hG1 hG2 hG7 hG4 hG5 hG6
  refine hc.mono fun e W' ⟨he, bel⟩ => ?_
  rw [laws_FnExactReadAct_true x0] at he
  subst he
  exact ⟨_, rfl, _, _, _, [], _, _, hW', trodAll_mk1 (shut_bool Tryd.underlying4 _), (trodAll_cons_mk (Below.trod laidOut (by kernel_rfl) (of_decide_eq_true (by kernel_rfl)) k0 bel lt0) trodAll_mk0), vars_below laidOut bel _ (by kernel_rfl) hV, bel.frame _, fun h => by cases h⟩

theorem over : Rows.fnExactReadActRow.holds Tryd.pinned (OpenSpec.ofChange Rows.fnExactReadActSpec) :=
  OpenClaim.holds_of_wide 9 Tryd.f9 rfl rfl rfl rfl rfl rfl rfl ⟨rfl, rfl, rfl, rfl, rfl⟩ rfl rfl rfl rfl rfl (by kernel_rfl) Tryd.func9 (by kernel_rfl)
    (of_decide_eq_true (by kernel_rfl)) (by unfold Func.isWrapper; first | (rw [if_pos (by decide +kernel)]; kernel_rfl) | (rw [if_neg (by decide +kernel)]; exact ⟨rfl, rfl⟩))
    (fun os started H enc _ => lifted os started H enc)

theorem card : Rows.FnExactReadActCardSaid :=
  Claim7.holds_tied_plain_at .later [] [.data, .data, .data, .sentinel, .sentinel, .listed, .data, .sentinel, .widerDeep, .widerDeep] true (true, "c92ada5cff6e9dda2d5334594b9f58e624b37b383a7acb95d78510338284d01f") true
    over (fun _ h => by cases h) (by kernel_rfl) (fun _ h => by cases h) fnExactReadAct_row_tie rfl ⟨rfl, rfl⟩ (by kernel_rfl) rfl
    (fun f fn hf hfn => by
      obtain rfl : f = 9 := Option.some.inj ((show Tryd.prog.funcNamed "loop.example/g00974/laws.FnExactReadAct" = some 9 by kernel_rfl).symm.trans hf) |>.symm
      obtain rfl : fn = Tryd.f9 := (Option.some.inj (Tryd.func9.symm.trans hfn)).symm
      exact ⟨by kernel_rfl, fun j t ht => by
        rw [Tryd.params9] at ht
        have hm : t ∈ [9] := by simpa using Array.mem_of_getElem? ht
        have hall : ([9].all fun u => !Tryd.prog.wantsStandIn u) = true := by kernel_rfl
        exact (show Tryd.prog.wantsStandIn t = false by simpa using List.all_eq_true.1 hall t hm)⟩)
    (by kernel_rfl)
end Go.Proofs.YtmjjcihoobnbgaaDoor.fnExactReadAct
namespace Go.Proofs.YtmjjcihoobnbgaaDoor
/-- The statement. -/
theorem fnExactReadAct_proved : Rows.FnExactReadActCardSaid := fnExactReadAct.card
#print axioms fnExactReadAct_proved
end Go.Proofs.YtmjjcihoobnbgaaDoor
