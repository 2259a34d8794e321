/- The law FnExactKernelLines: for every input it returns true, and what came in is as it was. No condition. By program (wip/gen). -/
import Derived.Test.YtnjidaonbcbphaaGreatDoorCards
import Derived.Test.YtnjidaonbcbphaaGreatDoorTie
import Derived.OpenShut
import Derived.ChangeOld
import Derived.ProofKit
import Derived.LaidMore
import Derived.Stop.Joined
import Derived.SevenTiedAt
import Derived.Test.YtnjidaonbcbphaaGreatDoorKlZ
import Derived.Test.YtnjidaonbcbphaaGreatDoorKlA
import Derived.Test.YtnjidaonbcbphaaGreatDoorKlB
import Derived.Test.YtnjidaonbcbphaaGreatDoorKlC
import Derived.Test.YtnjidaonbcbphaaGreatDoorKlD
import Derived.Test.YtnjidaonbcbphaaGreatDoorKlE
namespace Go.Proofs.YtnjidaonbcbphaaGreatDoor.Fw
open Go.RowKit
set_option linter.unusedVariables false
set_option linter.unusedSimpArgs false

theorem agg128 : chkAgg Tryz.prog 128 2 = true := by kernel_rfl
theorem agg133 : chkAgg Tryz.prog 133 2 = true := by kernel_rfl
theorem agg136 : chkAgg Tryz.prog 136 10 = true := by kernel_rfl
theorem agg142 : chkAgg Tryz.prog 142 8 = true := by kernel_rfl
theorem agg204 : chkAgg Tryz.prog 204 3 = true := by kernel_rfl
theorem agg240 : chkAgg Tryz.prog 240 6 = true := by kernel_rfl
theorem agg242 : chkAgg Tryz.prog 242 3 = true := by kernel_rfl
theorem agg245 : chkAgg Tryz.prog 245 7 = true := by kernel_rfl
theorem agg26 : chkAgg Tryz.prog 26 2 = true := by kernel_rfl
theorem agg28 : chkAgg Tryz.prog 28 3 = true := by kernel_rfl
theorem agg32 : chkAgg Tryz.prog 32 11 = true := by kernel_rfl
theorem sl130 : chkSlice Tryz.prog 130 240 6 72 = true := by kernel_rfl
theorem sl131 : chkSlice Tryz.prog 131 242 3 32 = true := by kernel_rfl
theorem sl140 : chkSlice Tryz.prog 140 245 7 80 = true := by kernel_rfl
theorem sl22 : chkSlice Tryz.prog 22 128 2 32 = true := by kernel_rfl
theorem sl23 : chkSlice Tryz.prog 23 136 10 160 = true := by kernel_rfl
theorem sl24 : chkSlice Tryz.prog 24 204 3 40 = true := by kernel_rfl
theorem sl29 : chkSlice Tryz.prog 29 142 8 96 = true := by kernel_rfl

theorem rd9 : Reads Tryz.prog 9 ByteArray := reads_string Tryz.underlying9
theorem rd128 : Reads Tryz.prog 128 Cell := by
  intro H enc W fuel cs x h
  obtain ⟨a0, h0⟩ := reads_field (α := ByteArray) (o := 0) (by kernel_rfl : chkFieldT Tryz.prog 128 0 0 9 1 = true) rd9 h
  obtain ⟨a1, h1⟩ := reads_field (α := ByteArray) (o := 1) (by kernel_rfl : chkFieldT Tryz.prog 128 1 1 9 1 = true) rd9 h
  have hl := struct_len agg128 Tryz.underlying128 h
  have e : cs = (cs.drop 0).take 2 := by rw [List.drop_zero, List.take_of_length_le (by omega)]
  refine ⟨⟨a0, a1⟩, ?_⟩
  rw [e]
  exact rd_pair h0 h1
theorem rd22 : Reads Tryz.prog 22 (List Cell) := reads_slice sl22 (by kernel_rfl) rd128
theorem rd3 : Reads Tryz.prog 3 Int := reads_int Tryz.underlying3
theorem rd240 : Reads Tryz.prog 240 Call := by
  intro H enc W fuel cs x h
  obtain ⟨a0, h0⟩ := reads_field (α := Int) (o := 0) (by kernel_rfl : chkFieldT Tryz.prog 240 0 0 3 1 = true) rd3 h
  obtain ⟨a1, h1⟩ := reads_field (α := ByteArray) (o := 1) (by kernel_rfl : chkFieldT Tryz.prog 240 1 1 9 1 = true) rd9 h
  obtain ⟨a2, h2⟩ := reads_field (α := ByteArray) (o := 2) (by kernel_rfl : chkFieldT Tryz.prog 240 2 2 9 1 = true) rd9 h
  obtain ⟨a3, h3⟩ := reads_field (α := Int) (o := 3) (by kernel_rfl : chkFieldT Tryz.prog 240 3 3 3 1 = true) rd3 h
  obtain ⟨a4, h4⟩ := reads_field (α := Int) (o := 4) (by kernel_rfl : chkFieldT Tryz.prog 240 4 4 3 1 = true) rd3 h
  obtain ⟨a5, h5⟩ := reads_field (α := ByteArray) (o := 5) (by kernel_rfl : chkFieldT Tryz.prog 240 5 5 9 1 = true) rd9 h
  have hl := struct_len agg240 Tryz.underlying240 h
  have e : cs = (cs.drop 0).take 6 := by rw [List.drop_zero, List.take_of_length_le (by omega)]
  refine ⟨⟨a0, a1, a2, a3, a4, a5⟩, ?_⟩
  rw [e]
  exact rd_pair h0 (rd_pair h1 (rd_pair h2 (rd_pair h3 (rd_pair h4 h5))))
theorem rd130 : Reads Tryz.prog 130 (List Call) := reads_slice sl130 (by kernel_rfl) rd240
theorem rd242 : Reads Tryz.prog 242 Answer := by
  intro H enc W fuel cs x h
  obtain ⟨a0, h0⟩ := reads_field (α := Int) (o := 0) (by kernel_rfl : chkFieldT Tryz.prog 242 0 0 3 1 = true) rd3 h
  obtain ⟨a1, h1⟩ := reads_field (α := Int) (o := 1) (by kernel_rfl : chkFieldT Tryz.prog 242 1 1 3 1 = true) rd3 h
  obtain ⟨a2, h2⟩ := reads_field (α := ByteArray) (o := 2) (by kernel_rfl : chkFieldT Tryz.prog 242 2 2 9 1 = true) rd9 h
  have hl := struct_len agg242 Tryz.underlying242 h
  have e : cs = (cs.drop 0).take 3 := by rw [List.drop_zero, List.take_of_length_le (by omega)]
  refine ⟨⟨a0, a1, a2⟩, ?_⟩
  rw [e]
  exact rd_pair h0 (rd_pair h1 h2)
theorem rd131 : Reads Tryz.prog 131 (List Answer) := reads_slice sl131 (by kernel_rfl) rd242
theorem rd30 : Reads Tryz.prog 30 (List ByteArray) := reads_slice sl30 (by kernel_rfl) rd9
theorem rd133 : Reads Tryz.prog 133 Touch := by
  intro H enc W fuel cs x h
  obtain ⟨a0, h0⟩ := reads_field (α := List ByteArray) (o := 0) (by kernel_rfl : chkFieldT Tryz.prog 133 0 0 30 1 = true) rd30 h
  obtain ⟨a1, h1⟩ := reads_field (α := List ByteArray) (o := 1) (by kernel_rfl : chkFieldT Tryz.prog 133 1 1 30 1 = true) rd30 h
  have hl := struct_len agg133 Tryz.underlying133 h
  have e : cs = (cs.drop 0).take 2 := by rw [List.drop_zero, List.take_of_length_le (by omega)]
  refine ⟨⟨a0, a1⟩, ?_⟩
  rw [e]
  exact rd_pair h0 h1
theorem rd134 : Reads Tryz.prog 134 (List Int) := reads_slice sl134 (by kernel_rfl) rd3
theorem rd136 : Reads Tryz.prog 136 Tx := by
  intro H enc W fuel cs x h
  obtain ⟨a0, h0⟩ := reads_field (α := Int) (o := 0) (by kernel_rfl : chkFieldT Tryz.prog 136 0 0 3 1 = true) rd3 h
  obtain ⟨a1, h1⟩ := reads_field (α := Int) (o := 1) (by kernel_rfl : chkFieldT Tryz.prog 136 1 1 3 1 = true) rd3 h
  obtain ⟨a2, h2⟩ := reads_field (α := Int) (o := 2) (by kernel_rfl : chkFieldT Tryz.prog 136 2 2 3 1 = true) rd3 h
  obtain ⟨a3, h3⟩ := reads_field (α := Int) (o := 3) (by kernel_rfl : chkFieldT Tryz.prog 136 3 3 3 1 = true) rd3 h
  obtain ⟨a4, h4⟩ := reads_field (α := List Call) (o := 4) (by kernel_rfl : chkFieldT Tryz.prog 136 4 4 130 1 = true) rd130 h
  obtain ⟨a5, h5⟩ := reads_field (α := List Answer) (o := 5) (by kernel_rfl : chkFieldT Tryz.prog 136 5 5 131 1 = true) rd131 h
  obtain ⟨a6, h6⟩ := reads_field (α := Touch) (o := 6) (by kernel_rfl : chkFieldT Tryz.prog 136 6 6 133 2 = true) rd133 h
  obtain ⟨a7, h7⟩ := reads_field (α := List Int) (o := 8) (by kernel_rfl : chkFieldT Tryz.prog 136 7 8 134 1 = true) rd134 h
  obtain ⟨a8, h8⟩ := reads_field (α := Int) (o := 9) (by kernel_rfl : chkFieldT Tryz.prog 136 8 9 3 1 = true) rd3 h
  have hl := struct_len agg136 Tryz.underlying136 h
  have e : cs = (cs.drop 0).take 10 := by rw [List.drop_zero, List.take_of_length_le (by omega)]
  refine ⟨⟨a0, a1, a2, a3, a4, a5, a6, a7, a8⟩, ?_⟩
  rw [e]
  exact rd_pair h0 (rd_pair h1 (rd_pair h2 (rd_pair h3 (rd_pair h4 (rd_pair h5 (rd_pair h6 (rd_pair h7 h8)))))))
theorem rd23 : Reads Tryz.prog 23 (List Tx) := reads_slice sl23 (by kernel_rfl) rd136
theorem rd4 : Reads Tryz.prog 4 Bool := reads_bool Tryz.underlying4
theorem rd204 : Reads Tryz.prog 204 Slot := by
  intro H enc W fuel cs x h
  obtain ⟨a0, h0⟩ := reads_field (α := Int) (o := 0) (by kernel_rfl : chkFieldT Tryz.prog 204 0 0 3 1 = true) rd3 h
  obtain ⟨a1, h1⟩ := reads_field (α := List Cell) (o := 1) (by kernel_rfl : chkFieldT Tryz.prog 204 1 1 22 1 = true) rd22 h
  obtain ⟨a2, h2⟩ := reads_field (α := Bool) (o := 2) (by kernel_rfl : chkFieldT Tryz.prog 204 2 2 4 1 = true) rd4 h
  have hl := struct_len agg204 Tryz.underlying204 h
  have e : cs = (cs.drop 0).take 3 := by rw [List.drop_zero, List.take_of_length_le (by omega)]
  refine ⟨⟨a0, a1, a2⟩, ?_⟩
  rw [e]
  exact rd_pair h0 (rd_pair h1 h2)
theorem rd24 : Reads Tryz.prog 24 (List Slot) := reads_slice sl24 (by kernel_rfl) rd204
theorem rd26 : Reads Tryz.prog 26 Journal := by
  intro H enc W fuel cs x h
  obtain ⟨a0, h0⟩ := reads_field (α := ByteArray) (o := 0) (by kernel_rfl : chkFieldT Tryz.prog 26 0 0 9 1 = true) rd9 h
  obtain ⟨a1, h1⟩ := reads_field (α := Int) (o := 1) (by kernel_rfl : chkFieldT Tryz.prog 26 1 1 3 1 = true) rd3 h
  have hl := struct_len agg26 Tryz.underlying26 h
  have e : cs = (cs.drop 0).take 2 := by rw [List.drop_zero, List.take_of_length_le (by omega)]
  refine ⟨⟨a0, a1⟩, ?_⟩
  rw [e]
  exact rd_pair h0 h1
theorem rd28 : Reads Tryz.prog 28 Disk := by
  intro H enc W fuel cs x h
  obtain ⟨a0, h0⟩ := reads_field (α := List Slot) (o := 0) (by kernel_rfl : chkFieldT Tryz.prog 28 0 0 24 1 = true) rd24 h
  obtain ⟨a1, h1⟩ := reads_field (α := Journal) (o := 1) (by kernel_rfl : chkFieldT Tryz.prog 28 1 1 26 2 = true) rd26 h
  have hl := struct_len agg28 Tryz.underlying28 h
  have e : cs = (cs.drop 0).take 3 := by rw [List.drop_zero, List.take_of_length_le (by omega)]
  refine ⟨⟨a0, a1⟩, ?_⟩
  rw [e]
  exact rd_pair h0 h1
theorem rd245 : Reads Tryz.prog 245 Step := by
  intro H enc W fuel cs x h
  obtain ⟨a0, h0⟩ := reads_field (α := Int) (o := 0) (by kernel_rfl : chkFieldT Tryz.prog 245 0 0 3 1 = true) rd3 h
  obtain ⟨a1, h1⟩ := reads_field (α := Call) (o := 1) (by kernel_rfl : chkFieldT Tryz.prog 245 1 1 240 6 = true) rd240 h
  have hl := struct_len agg245 Tryz.underlying245 h
  have e : cs = (cs.drop 0).take 7 := by rw [List.drop_zero, List.take_of_length_le (by omega)]
  refine ⟨⟨a0, a1⟩, ?_⟩
  rw [e]
  exact rd_pair h0 h1
theorem rd140 : Reads Tryz.prog 140 (List Step) := reads_slice sl140 (by kernel_rfl) rd245
theorem rd142 : Reads Tryz.prog 142 Entry := by
  intro H enc W fuel cs x h
  obtain ⟨a0, h0⟩ := reads_field (α := Int) (o := 0) (by kernel_rfl : chkFieldT Tryz.prog 142 0 0 3 1 = true) rd3 h
  obtain ⟨a1, h1⟩ := reads_field (α := Int) (o := 1) (by kernel_rfl : chkFieldT Tryz.prog 142 1 1 3 1 = true) rd3 h
  obtain ⟨a2, h2⟩ := reads_field (α := Int) (o := 2) (by kernel_rfl : chkFieldT Tryz.prog 142 2 2 3 1 = true) rd3 h
  obtain ⟨a3, h3⟩ := reads_field (α := List Step) (o := 3) (by kernel_rfl : chkFieldT Tryz.prog 142 3 3 140 1 = true) rd140 h
  obtain ⟨a4, h4⟩ := reads_field (α := List Answer) (o := 4) (by kernel_rfl : chkFieldT Tryz.prog 142 4 4 131 1 = true) rd131 h
  obtain ⟨a5, h5⟩ := reads_field (α := Int) (o := 5) (by kernel_rfl : chkFieldT Tryz.prog 142 5 5 3 1 = true) rd3 h
  obtain ⟨a6, h6⟩ := reads_field (α := Int) (o := 6) (by kernel_rfl : chkFieldT Tryz.prog 142 6 6 3 1 = true) rd3 h
  obtain ⟨a7, h7⟩ := reads_field (α := Bool) (o := 7) (by kernel_rfl : chkFieldT Tryz.prog 142 7 7 4 1 = true) rd4 h
  have hl := struct_len agg142 Tryz.underlying142 h
  have e : cs = (cs.drop 0).take 8 := by rw [List.drop_zero, List.take_of_length_le (by omega)]
  refine ⟨⟨a0, a1, a2, a3, a4, a5, a6, a7⟩, ?_⟩
  rw [e]
  exact rd_pair h0 (rd_pair h1 (rd_pair h2 (rd_pair h3 (rd_pair h4 (rd_pair h5 (rd_pair h6 h7))))))
theorem rd29 : Reads Tryz.prog 29 (List Entry) := reads_slice sl29 (by kernel_rfl) rd142
theorem rd32 : Reads Tryz.prog 32 Kernel := by
  intro H enc W fuel cs x h
  obtain ⟨a0, h0⟩ := reads_field (α := List Cell) (o := 0) (by kernel_rfl : chkFieldT Tryz.prog 32 0 0 22 1 = true) rd22 h
  obtain ⟨a1, h1⟩ := reads_field (α := List Tx) (o := 1) (by kernel_rfl : chkFieldT Tryz.prog 32 1 1 23 1 = true) rd23 h
  obtain ⟨a2, h2⟩ := reads_field (α := Disk) (o := 2) (by kernel_rfl : chkFieldT Tryz.prog 32 2 2 28 3 = true) rd28 h
  obtain ⟨a3, h3⟩ := reads_field (α := Int) (o := 5) (by kernel_rfl : chkFieldT Tryz.prog 32 3 5 3 1 = true) rd3 h
  obtain ⟨a4, h4⟩ := reads_field (α := Int) (o := 6) (by kernel_rfl : chkFieldT Tryz.prog 32 4 6 3 1 = true) rd3 h
  obtain ⟨a5, h5⟩ := reads_field (α := Int) (o := 7) (by kernel_rfl : chkFieldT Tryz.prog 32 5 7 3 1 = true) rd3 h
  obtain ⟨a6, h6⟩ := reads_field (α := List Entry) (o := 8) (by kernel_rfl : chkFieldT Tryz.prog 32 6 8 29 1 = true) rd29 h
  obtain ⟨a7, h7⟩ := reads_field (α := List ByteArray) (o := 9) (by kernel_rfl : chkFieldT Tryz.prog 32 7 9 30 1 = true) rd30 h
  obtain ⟨a8, h8⟩ := reads_field (α := Bool) (o := 10) (by kernel_rfl : chkFieldT Tryz.prog 32 8 10 4 1 = true) rd4 h
  have hl := struct_len agg32 Tryz.underlying32 h
  have e : cs = (cs.drop 0).take 11 := by rw [List.drop_zero, List.take_of_length_le (by omega)]
  refine ⟨⟨a0, a1, a2, a3, a4, a5, a6, a7, a8⟩, ?_⟩
  rw [e]
  exact rd_pair h0 (rd_pair h1 (rd_pair h2 (rd_pair h3 (rd_pair h4 (rd_pair h5 (rd_pair h6 (rd_pair h7 h8)))))))

theorem oc_laws_FnExactKernelLines {c0 : List Value} (p0 : Kernel) {w : World} (hp0 : Dat.rd (Old w) w c0 p0) (hG8 : GV 8 (gl8.map (Value.int .u64)) w) :
    Calls Tryz.prog 3 [.agg c0.toArray].toArray w (fun e w' => e = .returned (.bool (laws_FnExactKernelLines p0)) ∧ Below w.heap.size w w') := (c_laws_FnExactKernelLines p0).close hG8 ⟨⟨c0, rfl, hp0⟩, trivial⟩

theorem laws_FnExactKernelLines_true (p0 : Kernel) (hg0 : Dat.good p0) : laws_FnExactKernelLines p0 = true := by
  unfold laws_FnExactKernelLines
  cases hs : decide ((laws_szKernel p0 1048576) < 0) with
  | true => rfl
  | false =>
    have hsm := (laws_szKernel_small p0 1048576 (by decide) (by decide) hg0 (of_decide_eq_false hs)).1
    have hm := laws_heldStringS_marked (spec_KernelLines_len hsm)
    have hk := laws_markKernel_pos hsm
    rw [laws_toKernel_id, KernelLines_twin hg0, laws_eqStringS_refl, laws_eqKernel_refl, hm.1]
    simp only [decide_eq_false (show ¬ laws_markKernel p0 1 < 0 by omega), decide_eq_false (show ¬ (laws_markStringS (spec_KernelLines p0) 1).2 < 0 by omega), decide_true, Bool.not_true, Bool.or_self, cond_false, cond_true]

end Go.Proofs.YtnjidaonbcbphaaGreatDoor.Fw

namespace Go.Proofs.YtnjidaonbcbphaaGreatDoor.fnExactKernelLines
open Go.ChangeShapes Go.WideShapes Go.ChangeAt Go.RowKit Go.Proofs.YtnjidaonbcbphaaGreatDoor.Fw
set_option linter.unusedVariables false

theorem own : ownKnob Tryz.prog.godebug = none := by kernel_rfl
theorem laidOut : laidOutB Tryz.prog = true := zf_laid

theorem door_met (os : Os) (args : Array Value) : laidMetH Tryz.prog Rows.fnExactKernelLinesRow.laid ((World.doorLaid Tryz.prog 400 os).forCall (fun _ _ => 0) ⟨#[], args, []⟩).memory :=
  laidMetH_of_parts3 (fuel := 8) (laidMet_of_run' 8 (by kernel_rfl) (by kernel_rfl)) (by kernel_rfl) (by kernel_rfl)
set_option maxRecDepth 100000 in
theorem of_laid {W : World} (h : laidMetH Tryz.prog Rows.fnExactKernelLinesRow.laid W) : GV 11 (gl11.map (Value.int .u8)) W ∧ GV 12 (gl12.map (Value.int .u8)) W ∧ GV 8 (gl8.map (Value.int .u64)) W := by
  rw [MakeChecks.laidMetH_plain _ _ _ (by kernel_rfl)] at h
  obtain ⟨ps, ⟨g0, t0, cs0, f0, p0, q0, hg0, ht0, hv0, hd0, ⟨g1, t1, cs1, f1, p1, q1, hg1, ht1, hv1, hd1, ⟨g2, t2, cs2, f2, p2, q2, hg2, ht2, hv2, hd2, _, _⟩, _⟩, _⟩, _, _⟩ := h
  obtain rfl := Option.some.inj ((show Tryz.prog.globalNamed "math/bits.deBruijn32tab" = some 11 by kernel_rfl).symm.trans hg0)
  obtain rfl := Option.some.inj ((show (Tryz.prog.globals[11]?).map (·.type) = some 312 by kernel_rfl).symm.trans ht0)
  obtain rfl := Option.some.inj ((show Tryz.prog.globalNamed "math/bits.deBruijn64tab" = some 12 by kernel_rfl).symm.trans hg1)
  obtain rfl := Option.some.inj ((show (Tryz.prog.globals[12]?).map (·.type) = some 313 by kernel_rfl).symm.trans ht1)
  obtain rfl := Option.some.inj ((show Tryz.prog.globalNamed "internal/strconv.uint64pow10" = some 8 by kernel_rfl).symm.trans hg2)
  obtain rfl := Option.some.inj ((show (Tryz.prog.globals[8]?).map (·.type) = some 296 by kernel_rfl).symm.trans ht2)
  exact ⟨GV_ints (names := gl11) hg0 Tryz.underlying312 Tryz.underlying5 (by kernel_rfl) (by kernel_rfl) hv0 hd0, GV_ints (names := gl12) hg1 Tryz.underlying313 Tryz.underlying5 (by kernel_rfl) (by kernel_rfl) hv1 hd1, GV_ints (names := gl8) hg2 Tryz.underlying296 Tryz.underlying281 (by kernel_rfl) (by kernel_rfl) hv2 hd2⟩

set_option maxRecDepth 100000 in
theorem lifted (os : Os) (started : os.Started) (H : Type) (enc : TypeId × Value → H) :
    ReturnsInHanded {} Tryz.checked os 3 .any (fun w args => (Rows.fnExactKernelLinesSpec.pre enc Tryz.prog Tryz.f3 Rows.fnExactKernelLinesRow.domain false w args ∧ laidMetH Tryz.prog Rows.fnExactKernelLinesRow.laid w) ∧ sizedMet enc Tryz.prog Tryz.f3 (OpenSpec.ofChange Rows.fnExactKernelLinesSpec) false w args) (Rows.fnExactKernelLinesSpec.post enc Tryz.prog Tryz.f3 false true false false) := by
  refine returnsInHanded_of_change_and (C := Tryz.checked) (X := fun w _ => laidMetH Tryz.prog Rows.fnExactKernelLinesRow.laid w) (fun _ _ _ hh h => h.of_heap hh) own started (by kernel_rfl) Tryz.func3
    (ChangeSpec.witness_shaped (enc := enc) (C := Tryz.checked) (os := os) (X := fun w _ => laidMetH Tryz.prog Rows.fnExactKernelLinesRow.laid w) false (World.doorLaid Tryz.prog 400 os) #[.agg #[.slice none 0 0, .slice none 0 0, .slice none 0 0, .string ⟨#[]⟩, .int .i64 0, .int .i64 0, .int .i64 0, .int .i64 0, .slice none 0 0, .slice none 0 0, .bool false]] 8 rfl (World.shaped_of_RefB (by kernel_rfl) (by kernel_rfl)) (by kernel_rfl) (by kernel_rfl) (by kernel_rfl) (door_met os _)) ?_
  intro W base args ds gs before hval0 hW hcnd _ hL _
  have hval : ∀ (j : Nat) t v, Tryz.f3.params[j]? = some t → args[j]? = some v → Value.okWide Tryz.prog W .any base t v := hval0
  have hW' := hW
  obtain ⟨p, q, hA0, hV, rfl, hfz, hnd⟩ := hW
  have hA : DataW.TrodAll enc Tryz.prog W 0 (fun _ => true) true Tryz.f3.params.toList args.toList ds p := hA0
  rw [Tryz.params3] at hA hval
  obtain ⟨v0, vs0, d0, ds0, p0, q0, hargs, rfl, rfl, h0, r0⟩ := trodAll_cons hA
  obtain ⟨rfl, rfl, rfl⟩ := trodAll_nil r0
  obtain rfl : args = #[v0] := by cases args; simp_all
  obtain rfl := trodVars_end hV
  obtain ⟨hG11, hG12, hG8⟩ := of_laid hL
  have k0 := h0
  have lt0 : ∀ x ∈ p0, x.block < W.heap.size := by obtain ⟨m, hm⟩ := k0; exact DataW.trod_lt m _ _ _ hm
  obtain ⟨cs0, rfl, _⟩ := okWide_struct Tryz.underlying32 (hval 0 32 v0 rfl rfl)
  obtain ⟨x0, hx0⟩ : ∃ x : Fw.Kernel, Dat.rd (Old W) W cs0.toList x := by
    obtain ⟨fuel, hf⟩ := h0
    exact rd32 hf
  have hc := oc_laws_FnExactKernelLines (w := W) x0 hx0 hG8
  refine hc.mono fun e W' ⟨he, bel⟩ => ?_
  rw [laws_FnExactKernelLines_true x0 (Dat.rd_good hx0)] at he
  subst he
  exact ⟨_, rfl, _, _, _, [], _, _, hW', trodAll_mk1 (shut_bool Tryz.underlying4 _), (trodAll_cons_mk (Below.trod laidOut (by kernel_rfl) (of_decide_eq_true (by kernel_rfl)) k0 bel lt0) trodAll_mk0), vars_below laidOut bel _ (by kernel_rfl) hV, bel.frame _, fun h => by cases h⟩

theorem over : Rows.fnExactKernelLinesRow.holds Tryz.pinned (OpenSpec.ofChange Rows.fnExactKernelLinesSpec) :=
  OpenClaim.holds_of_wide 3 Tryz.f3 rfl rfl rfl rfl rfl rfl rfl ⟨rfl, rfl, rfl, rfl, rfl⟩ rfl rfl rfl rfl rfl zf_fn Tryz.func3 zf_closed
    (of_decide_eq_true zf_inst) (by unfold Func.isWrapper; first | (rw [if_pos (by decide +kernel)]; kernel_rfl) | (rw [if_neg (by decide +kernel)]; exact ⟨rfl, rfl⟩))
    (fun os started H enc _ => lifted os started H enc)

theorem card : Rows.FnExactKernelLinesCardSaid :=
  Claim7.holds_tied_plain_at .later [] [.data, .data, .data] true (true, "81da9f89cd1924f8074fa95ed256bdbba201bb1b06ffc350f947b5eb980d85d4") true
    over (fun _ h => by cases h) zf_wfb (fun _ h => by cases h) fnExactKernelLines_row_tie rfl ⟨rfl, rfl⟩ zf_main rfl
    (fun f fn hf hfn => by
      obtain rfl : f = 3 := Option.some.inj ((show Tryz.prog.funcNamed "loop.example/g00974/laws.FnExactKernelLines" = some 3 from zf_fn).symm.trans hf) |>.symm
      obtain rfl : fn = Tryz.f3 := (Option.some.inj (Tryz.func3.symm.trans hfn)).symm
      exact ⟨zf_looks, fun j t ht => by
        rw [Tryz.params3] at ht
        have hm : t ∈ [32] := by simpa using Array.mem_of_getElem? ht
        have hall : ([32].all fun u => !Tryz.prog.wantsStandIn u) = true := by kernel_rfl
        exact (show Tryz.prog.wantsStandIn t = false by simpa using List.all_eq_true.1 hall t hm)⟩)
    zf_goes
end Go.Proofs.YtnjidaonbcbphaaGreatDoor.fnExactKernelLines
namespace Go.Proofs.YtnjidaonbcbphaaGreatDoor
/-- The statement. -/
theorem fnExactKernelLines_proved : Rows.FnExactKernelLinesCardSaid := fnExactKernelLines.card
#print axioms fnExactKernelLines_proved
end Go.Proofs.YtnjidaonbcbphaaGreatDoor
