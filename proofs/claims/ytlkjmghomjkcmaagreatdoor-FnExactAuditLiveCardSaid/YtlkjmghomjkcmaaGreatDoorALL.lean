/- The law FnExactAuditLive: for every input it returns true, and what came in is as it was. No condition. By program (wip/gen). -/
import Derived.Test.YtlkjmghomjkcmaaGreatDoorCards
import Derived.Test.YtlkjmghomjkcmaaGreatDoorTie
import Derived.OpenShut
import Derived.ChangeOld
import Derived.ProofKit
import Derived.LaidMore
import Derived.Stop.Joined
import Derived.SevenTiedAt
import Derived.Test.YtlkjmghomjkcmaaGreatDoorALZ
import Derived.Test.YtlkjmghomjkcmaaGreatDoorALA
import Derived.Test.YtlkjmghomjkcmaaGreatDoorALB
import Derived.Test.YtlkjmghomjkcmaaGreatDoorALC
import Derived.Test.YtlkjmghomjkcmaaGreatDoorALD
import Derived.Test.YtlkjmghomjkcmaaGreatDoorALE
namespace Go.Proofs.YtlkjmghomjkcmaaGreatDoor.Fw
open Go.RowKit
set_option linter.unusedVariables false
set_option linter.unusedSimpArgs false

theorem agg116 : chkAgg Tryz.prog 116 3 = true := by kernel_rfl
theorem agg147 : chkAgg Tryz.prog 147 6 = true := by kernel_rfl
theorem agg149 : chkAgg Tryz.prog 149 3 = true := by kernel_rfl
theorem agg152 : chkAgg Tryz.prog 152 7 = true := by kernel_rfl
theorem agg26 : chkAgg Tryz.prog 26 2 = true := by kernel_rfl
theorem agg28 : chkAgg Tryz.prog 28 3 = true := by kernel_rfl
theorem agg32 : chkAgg Tryz.prog 32 11 = true := by kernel_rfl
theorem agg74 : chkAgg Tryz.prog 74 2 = true := by kernel_rfl
theorem agg78 : chkAgg Tryz.prog 78 2 = true := by kernel_rfl
theorem agg80 : chkAgg Tryz.prog 80 10 = true := by kernel_rfl
theorem agg86 : chkAgg Tryz.prog 86 8 = true := by kernel_rfl
theorem sl22 : chkSlice Tryz.prog 22 74 2 32 = true := by kernel_rfl
theorem sl23 : chkSlice Tryz.prog 23 80 10 160 = true := by kernel_rfl
theorem sl24 : chkSlice Tryz.prog 24 116 3 40 = true := by kernel_rfl
theorem sl29 : chkSlice Tryz.prog 29 86 8 96 = true := by kernel_rfl
theorem sl30 : chkSlice Tryz.prog 30 9 1 16 = true := by kernel_rfl
theorem sl56 : chkSlice Tryz.prog 56 3 1 8 = true := by kernel_rfl
theorem sl76 : chkSlice Tryz.prog 76 147 6 72 = true := by kernel_rfl
theorem sl77 : chkSlice Tryz.prog 77 149 3 32 = true := by kernel_rfl
theorem sl84 : chkSlice Tryz.prog 84 152 7 80 = true := by kernel_rfl

theorem rd9 : Reads Tryz.prog 9 ByteArray := reads_string Tryz.underlying9
theorem rd74 : Reads Tryz.prog 74 Cell := by
  intro H enc W fuel cs x h
  obtain ⟨a0, h0⟩ := reads_field (α := ByteArray) (o := 0) (by kernel_rfl : chkFieldT Tryz.prog 74 0 0 9 1 = true) rd9 h
  obtain ⟨a1, h1⟩ := reads_field (α := ByteArray) (o := 1) (by kernel_rfl : chkFieldT Tryz.prog 74 1 1 9 1 = true) rd9 h
  have hl := struct_len agg74 Tryz.underlying74 h
  have e : cs = (cs.drop 0).take 2 := by rw [List.drop_zero, List.take_of_length_le (by omega)]
  refine ⟨⟨a0, a1⟩, ?_⟩
  rw [e]
  exact rd_pair h0 h1
theorem rd22 : Reads Tryz.prog 22 (List Cell) := reads_slice sl22 (by kernel_rfl) rd74
theorem rd3 : Reads Tryz.prog 3 Int := reads_int Tryz.underlying3
theorem rd147 : Reads Tryz.prog 147 Call := by
  intro H enc W fuel cs x h
  obtain ⟨a0, h0⟩ := reads_field (α := Int) (o := 0) (by kernel_rfl : chkFieldT Tryz.prog 147 0 0 3 1 = true) rd3 h
  obtain ⟨a1, h1⟩ := reads_field (α := ByteArray) (o := 1) (by kernel_rfl : chkFieldT Tryz.prog 147 1 1 9 1 = true) rd9 h
  obtain ⟨a2, h2⟩ := reads_field (α := ByteArray) (o := 2) (by kernel_rfl : chkFieldT Tryz.prog 147 2 2 9 1 = true) rd9 h
  obtain ⟨a3, h3⟩ := reads_field (α := Int) (o := 3) (by kernel_rfl : chkFieldT Tryz.prog 147 3 3 3 1 = true) rd3 h
  obtain ⟨a4, h4⟩ := reads_field (α := Int) (o := 4) (by kernel_rfl : chkFieldT Tryz.prog 147 4 4 3 1 = true) rd3 h
  obtain ⟨a5, h5⟩ := reads_field (α := ByteArray) (o := 5) (by kernel_rfl : chkFieldT Tryz.prog 147 5 5 9 1 = true) rd9 h
  have hl := struct_len agg147 Tryz.underlying147 h
  have e : cs = (cs.drop 0).take 6 := by rw [List.drop_zero, List.take_of_length_le (by omega)]
  refine ⟨⟨a0, a1, a2, a3, a4, a5⟩, ?_⟩
  rw [e]
  exact rd_pair h0 (rd_pair h1 (rd_pair h2 (rd_pair h3 (rd_pair h4 h5))))
theorem rd76 : Reads Tryz.prog 76 (List Call) := reads_slice sl76 (by kernel_rfl) rd147
theorem rd149 : Reads Tryz.prog 149 Answer := by
  intro H enc W fuel cs x h
  obtain ⟨a0, h0⟩ := reads_field (α := Int) (o := 0) (by kernel_rfl : chkFieldT Tryz.prog 149 0 0 3 1 = true) rd3 h
  obtain ⟨a1, h1⟩ := reads_field (α := Int) (o := 1) (by kernel_rfl : chkFieldT Tryz.prog 149 1 1 3 1 = true) rd3 h
  obtain ⟨a2, h2⟩ := reads_field (α := ByteArray) (o := 2) (by kernel_rfl : chkFieldT Tryz.prog 149 2 2 9 1 = true) rd9 h
  have hl := struct_len agg149 Tryz.underlying149 h
  have e : cs = (cs.drop 0).take 3 := by rw [List.drop_zero, List.take_of_length_le (by omega)]
  refine ⟨⟨a0, a1, a2⟩, ?_⟩
  rw [e]
  exact rd_pair h0 (rd_pair h1 h2)
theorem rd77 : Reads Tryz.prog 77 (List Answer) := reads_slice sl77 (by kernel_rfl) rd149
theorem rd30 : Reads Tryz.prog 30 (List ByteArray) := reads_slice sl30 (by kernel_rfl) rd9
theorem rd78 : Reads Tryz.prog 78 Touch := by
  intro H enc W fuel cs x h
  obtain ⟨a0, h0⟩ := reads_field (α := List ByteArray) (o := 0) (by kernel_rfl : chkFieldT Tryz.prog 78 0 0 30 1 = true) rd30 h
  obtain ⟨a1, h1⟩ := reads_field (α := List ByteArray) (o := 1) (by kernel_rfl : chkFieldT Tryz.prog 78 1 1 30 1 = true) rd30 h
  have hl := struct_len agg78 Tryz.underlying78 h
  have e : cs = (cs.drop 0).take 2 := by rw [List.drop_zero, List.take_of_length_le (by omega)]
  refine ⟨⟨a0, a1⟩, ?_⟩
  rw [e]
  exact rd_pair h0 h1
theorem rd56 : Reads Tryz.prog 56 (List Int) := reads_slice sl56 (by kernel_rfl) rd3
theorem rd80 : Reads Tryz.prog 80 Tx := by
  intro H enc W fuel cs x h
  obtain ⟨a0, h0⟩ := reads_field (α := Int) (o := 0) (by kernel_rfl : chkFieldT Tryz.prog 80 0 0 3 1 = true) rd3 h
  obtain ⟨a1, h1⟩ := reads_field (α := Int) (o := 1) (by kernel_rfl : chkFieldT Tryz.prog 80 1 1 3 1 = true) rd3 h
  obtain ⟨a2, h2⟩ := reads_field (α := Int) (o := 2) (by kernel_rfl : chkFieldT Tryz.prog 80 2 2 3 1 = true) rd3 h
  obtain ⟨a3, h3⟩ := reads_field (α := Int) (o := 3) (by kernel_rfl : chkFieldT Tryz.prog 80 3 3 3 1 = true) rd3 h
  obtain ⟨a4, h4⟩ := reads_field (α := List Call) (o := 4) (by kernel_rfl : chkFieldT Tryz.prog 80 4 4 76 1 = true) rd76 h
  obtain ⟨a5, h5⟩ := reads_field (α := List Answer) (o := 5) (by kernel_rfl : chkFieldT Tryz.prog 80 5 5 77 1 = true) rd77 h
  obtain ⟨a6, h6⟩ := reads_field (α := Touch) (o := 6) (by kernel_rfl : chkFieldT Tryz.prog 80 6 6 78 2 = true) rd78 h
  obtain ⟨a7, h7⟩ := reads_field (α := List Int) (o := 8) (by kernel_rfl : chkFieldT Tryz.prog 80 7 8 56 1 = true) rd56 h
  obtain ⟨a8, h8⟩ := reads_field (α := Int) (o := 9) (by kernel_rfl : chkFieldT Tryz.prog 80 8 9 3 1 = true) rd3 h
  have hl := struct_len agg80 Tryz.underlying80 h
  have e : cs = (cs.drop 0).take 10 := by rw [List.drop_zero, List.take_of_length_le (by omega)]
  refine ⟨⟨a0, a1, a2, a3, a4, a5, a6, a7, a8⟩, ?_⟩
  rw [e]
  exact rd_pair h0 (rd_pair h1 (rd_pair h2 (rd_pair h3 (rd_pair h4 (rd_pair h5 (rd_pair h6 (rd_pair h7 h8)))))))
theorem rd23 : Reads Tryz.prog 23 (List Tx) := reads_slice sl23 (by kernel_rfl) rd80
theorem rd4 : Reads Tryz.prog 4 Bool := reads_bool Tryz.underlying4
theorem rd116 : Reads Tryz.prog 116 Slot := by
  intro H enc W fuel cs x h
  obtain ⟨a0, h0⟩ := reads_field (α := Int) (o := 0) (by kernel_rfl : chkFieldT Tryz.prog 116 0 0 3 1 = true) rd3 h
  obtain ⟨a1, h1⟩ := reads_field (α := List Cell) (o := 1) (by kernel_rfl : chkFieldT Tryz.prog 116 1 1 22 1 = true) rd22 h
  obtain ⟨a2, h2⟩ := reads_field (α := Bool) (o := 2) (by kernel_rfl : chkFieldT Tryz.prog 116 2 2 4 1 = true) rd4 h
  have hl := struct_len agg116 Tryz.underlying116 h
  have e : cs = (cs.drop 0).take 3 := by rw [List.drop_zero, List.take_of_length_le (by omega)]
  refine ⟨⟨a0, a1, a2⟩, ?_⟩
  rw [e]
  exact rd_pair h0 (rd_pair h1 h2)
theorem rd24 : Reads Tryz.prog 24 (List Slot) := reads_slice sl24 (by kernel_rfl) rd116
theorem rd26 : Reads Tryz.prog 26 Journal := by
  intro H enc W fuel cs x h
  obtain ⟨a0, h0⟩ := reads_field (α := ByteArray) (o := 0) (by kernel_rfl : chkFieldT Tryz.prog 26 0 0 9 1 = true) rd9 h
  obtain ⟨a1, h1⟩ := reads_field (α := Int) (o := 1) (by kernel_rfl : chkFieldT Tryz.prog 26 1 1 3 1 = true) rd3 h
  have hl := struct_len agg26 Tryz.underlying26 h
  have e : cs = (cs.drop 0).take 2 := by rw [List.drop_zero, List.take_of_length_le (by omega)]
  refine ⟨⟨a0, a1⟩, ?_⟩
  rw [e]
  exact rd_pair h0 h1
theorem rd28 : Reads Tryz.prog 28 Disk := by
  intro H enc W fuel cs x h
  obtain ⟨a0, h0⟩ := reads_field (α := List Slot) (o := 0) (by kernel_rfl : chkFieldT Tryz.prog 28 0 0 24 1 = true) rd24 h
  obtain ⟨a1, h1⟩ := reads_field (α := Journal) (o := 1) (by kernel_rfl : chkFieldT Tryz.prog 28 1 1 26 2 = true) rd26 h
  have hl := struct_len agg28 Tryz.underlying28 h
  have e : cs = (cs.drop 0).take 3 := by rw [List.drop_zero, List.take_of_length_le (by omega)]
  refine ⟨⟨a0, a1⟩, ?_⟩
  rw [e]
  exact rd_pair h0 h1
theorem rd152 : Reads Tryz.prog 152 Step := by
  intro H enc W fuel cs x h
  obtain ⟨a0, h0⟩ := reads_field (α := Int) (o := 0) (by kernel_rfl : chkFieldT Tryz.prog 152 0 0 3 1 = true) rd3 h
  obtain ⟨a1, h1⟩ := reads_field (α := Call) (o := 1) (by kernel_rfl : chkFieldT Tryz.prog 152 1 1 147 6 = true) rd147 h
  have hl := struct_len agg152 Tryz.underlying152 h
  have e : cs = (cs.drop 0).take 7 := by rw [List.drop_zero, List.take_of_length_le (by omega)]
  refine ⟨⟨a0, a1⟩, ?_⟩
  rw [e]
  exact rd_pair h0 h1
theorem rd84 : Reads Tryz.prog 84 (List Step) := reads_slice sl84 (by kernel_rfl) rd152
theorem rd86 : Reads Tryz.prog 86 Entry := by
  intro H enc W fuel cs x h
  obtain ⟨a0, h0⟩ := reads_field (α := Int) (o := 0) (by kernel_rfl : chkFieldT Tryz.prog 86 0 0 3 1 = true) rd3 h
  obtain ⟨a1, h1⟩ := reads_field (α := Int) (o := 1) (by kernel_rfl : chkFieldT Tryz.prog 86 1 1 3 1 = true) rd3 h
  obtain ⟨a2, h2⟩ := reads_field (α := Int) (o := 2) (by kernel_rfl : chkFieldT Tryz.prog 86 2 2 3 1 = true) rd3 h
  obtain ⟨a3, h3⟩ := reads_field (α := List Step) (o := 3) (by kernel_rfl : chkFieldT Tryz.prog 86 3 3 84 1 = true) rd84 h
  obtain ⟨a4, h4⟩ := reads_field (α := List Answer) (o := 4) (by kernel_rfl : chkFieldT Tryz.prog 86 4 4 77 1 = true) rd77 h
  obtain ⟨a5, h5⟩ := reads_field (α := Int) (o := 5) (by kernel_rfl : chkFieldT Tryz.prog 86 5 5 3 1 = true) rd3 h
  obtain ⟨a6, h6⟩ := reads_field (α := Int) (o := 6) (by kernel_rfl : chkFieldT Tryz.prog 86 6 6 3 1 = true) rd3 h
  obtain ⟨a7, h7⟩ := reads_field (α := Bool) (o := 7) (by kernel_rfl : chkFieldT Tryz.prog 86 7 7 4 1 = true) rd4 h
  have hl := struct_len agg86 Tryz.underlying86 h
  have e : cs = (cs.drop 0).take 8 := by rw [List.drop_zero, List.take_of_length_le (by omega)]
  refine ⟨⟨a0, a1, a2, a3, a4, a5, a6, a7⟩, ?_⟩
  rw [e]
  exact rd_pair h0 (rd_pair h1 (rd_pair h2 (rd_pair h3 (rd_pair h4 (rd_pair h5 (rd_pair h6 h7))))))
theorem rd29 : Reads Tryz.prog 29 (List Entry) := reads_slice sl29 (by kernel_rfl) rd86
theorem rd32 : Reads Tryz.prog 32 Kernel := by
  intro H enc W fuel cs x h
  obtain ⟨a0, h0⟩ := reads_field (α := List Cell) (o := 0) (by kernel_rfl : chkFieldT Tryz.prog 32 0 0 22 1 = true) rd22 h
  obtain ⟨a1, h1⟩ := reads_field (α := List Tx) (o := 1) (by kernel_rfl : chkFieldT Tryz.prog 32 1 1 23 1 = true) rd23 h
  obtain ⟨a2, h2⟩ := reads_field (α := Disk) (o := 2) (by kernel_rfl : chkFieldT Tryz.prog 32 2 2 28 3 = true) rd28 h
  obtain ⟨a3, h3⟩ := reads_field (α := Int) (o := 5) (by kernel_rfl : chkFieldT Tryz.prog 32 3 5 3 1 = true) rd3 h
  obtain ⟨a4, h4⟩ := reads_field (α := Int) (o := 6) (by kernel_rfl : chkFieldT Tryz.prog 32 4 6 3 1 = true) rd3 h
  obtain ⟨a5, h5⟩ := reads_field (α := Int) (o := 7) (by kernel_rfl : chkFieldT Tryz.prog 32 5 7 3 1 = true) rd3 h
  obtain ⟨a6, h6⟩ := reads_field (α := List Entry) (o := 8) (by kernel_rfl : chkFieldT Tryz.prog 32 6 8 29 1 = true) rd29 h
  obtain ⟨a7, h7⟩ := reads_field (α := List ByteArray) (o := 9) (by kernel_rfl : chkFieldT Tryz.prog 32 7 9 30 1 = true) rd30 h
  obtain ⟨a8, h8⟩ := reads_field (α := Bool) (o := 10) (by kernel_rfl : chkFieldT Tryz.prog 32 8 10 4 1 = true) rd4 h
  have hl := struct_len agg32 Tryz.underlying32 h
  have e : cs = (cs.drop 0).take 11 := by rw [List.drop_zero, List.take_of_length_le (by omega)]
  refine ⟨⟨a0, a1, a2, a3, a4, a5, a6, a7, a8⟩, ?_⟩
  rw [e]
  exact rd_pair h0 (rd_pair h1 (rd_pair h2 (rd_pair h3 (rd_pair h4 (rd_pair h5 (rd_pair h6 (rd_pair h7 h8)))))))

def laws_FnExactAuditLive (p0 : Kernel) : Bool := true
theorem oc_laws_FnExactAuditLive {c0 : List Value} (p0 : Kernel) {w : World} (hp0 : Dat.rd (Old w) w c0 p0) (hG0 : GV 0 (gl0.map (Value.int .u64)) w) (hG1 : GX 1 w) (hG2 : GX 2 w) (hG3 : GX 3 w) :
    Calls Tryz.prog 3 [.agg c0.toArray].toArray w (fun e w' => e = .returned (.bool (laws_FnExactAuditLive p0)) ∧ Below w.heap.size w w') := Ri.oc3 p0 hp0 (Ri.gok_of hG0 hG1 hG2 hG3)
theorem laws_FnExactAuditLive_true (p0 : Kernel) (_ : Dat.good p0) : laws_FnExactAuditLive p0 = true := rfl
end Go.Proofs.YtlkjmghomjkcmaaGreatDoor.Fw

namespace Go.Proofs.YtlkjmghomjkcmaaGreatDoor.fnExactAuditLive
open Go.ChangeShapes Go.WideShapes Go.ChangeAt Go.RowKit Go.Proofs.YtlkjmghomjkcmaaGreatDoor.Fw
set_option linter.unusedVariables false

theorem own : ownKnob Tryz.prog.godebug = none := by kernel_rfl
theorem laidOut : laidOutB Tryz.prog = true := zf_laid

theorem door_met (os : Os) (args : Array Value) : laidMetH Tryz.prog Rows.fnExactAuditLiveRow.laid ((World.doorLaid Tryz.prog 400 os).forCall (fun _ _ => 0) ⟨#[], args, []⟩).memory :=
  laidMetH_of_parts3 (fuel := 8) (laidMet_of_run' 8 (by kernel_rfl) (by kernel_rfl)) (by kernel_rfl) (by kernel_rfl)
set_option maxRecDepth 100000 in
theorem of_laid {W : World} (h : laidMetH Tryz.prog Rows.fnExactAuditLiveRow.laid W) : GV 4 (gl4.map (Value.int .u8)) W ∧ GV 5 (gl5.map (Value.int .u8)) W ∧ GV 0 (gl0.map (Value.int .u64)) W ∧ GX 3 W ∧ GX 2 W ∧ GX 1 W := by
  rw [MakeChecks.laidMetH_plain _ _ _ (by kernel_rfl)] at h
  obtain ⟨ps, ⟨g0, t0, cs0, f0, p0, q0, hg0, ht0, hv0, hd0, ⟨g1, t1, cs1, f1, p1, q1, hg1, ht1, hv1, hd1, ⟨g2, t2, cs2, f2, p2, q2, hg2, ht2, hv2, hd2, ⟨g3, t3, cs3, f3, p3, q3, hg3, ht3, hv3, hd3, ⟨g4, t4, cs4, f4, p4, q4, hg4, ht4, hv4, hd4, ⟨g5, t5, cs5, f5, p5, q5, hg5, ht5, hv5, hd5, _, _⟩, _⟩, _⟩, _⟩, _⟩, _⟩, _, _⟩ := h
  obtain rfl := Option.some.inj ((show Tryz.prog.globalNamed "math/bits.deBruijn32tab" = some 4 by kernel_rfl).symm.trans hg0)
  obtain rfl := Option.some.inj ((show (Tryz.prog.globals[4]?).map (·.type) = some 294 by kernel_rfl).symm.trans ht0)
  obtain rfl := Option.some.inj ((show Tryz.prog.globalNamed "math/bits.deBruijn64tab" = some 5 by kernel_rfl).symm.trans hg1)
  obtain rfl := Option.some.inj ((show (Tryz.prog.globals[5]?).map (·.type) = some 295 by kernel_rfl).symm.trans ht1)
  obtain rfl := Option.some.inj ((show Tryz.prog.globalNamed "internal/strconv.uint64pow10" = some 0 by kernel_rfl).symm.trans hg2)
  obtain rfl := Option.some.inj ((show (Tryz.prog.globals[0]?).map (·.type) = some 276 by kernel_rfl).symm.trans ht2)
  obtain rfl := Option.some.inj ((show Tryz.prog.globalNamed "strconv.ErrRange" = some 3 by kernel_rfl).symm.trans hg3)
  obtain rfl := Option.some.inj ((show (Tryz.prog.globals[3]?).map (·.type) = some 251 by kernel_rfl).symm.trans ht3)
  obtain rfl := Option.some.inj ((show Tryz.prog.globalNamed "strconv.ErrSyntax" = some 2 by kernel_rfl).symm.trans hg4)
  obtain rfl := Option.some.inj ((show (Tryz.prog.globals[2]?).map (·.type) = some 251 by kernel_rfl).symm.trans ht4)
  obtain rfl := Option.some.inj ((show Tryz.prog.globalNamed "encoding/hex.ErrLength" = some 1 by kernel_rfl).symm.trans hg5)
  obtain rfl := Option.some.inj ((show (Tryz.prog.globals[1]?).map (·.type) = some 251 by kernel_rfl).symm.trans ht5)
  exact ⟨GV_ints (names := gl4) hg0 Tryz.underlying294 Tryz.underlying5 (by kernel_rfl) (by kernel_rfl) hv0 hd0, GV_ints (names := gl5) hg1 Tryz.underlying295 Tryz.underlying5 (by kernel_rfl) (by kernel_rfl) hv1 hd1, GV_ints (names := gl0) hg2 Tryz.underlying276 Tryz.underlying262 (by kernel_rfl) (by kernel_rfl) hv2 hd2, GX_iface hg3 Tryz.underlying251 hv3 hd3, GX_iface hg4 Tryz.underlying251 hv4 hd4, GX_iface hg5 Tryz.underlying251 hv5 hd5⟩

set_option maxRecDepth 100000 in
theorem lifted (os : Os) (started : os.Started) (H : Type) (enc : TypeId × Value → H) :
    ReturnsInHanded {} Tryz.checked os 3 .any (fun w args => (Rows.fnExactAuditLiveSpec.pre enc Tryz.prog Tryz.f3 Rows.fnExactAuditLiveRow.domain false w args ∧ laidMetH Tryz.prog Rows.fnExactAuditLiveRow.laid w) ∧ sizedMet enc Tryz.prog Tryz.f3 (OpenSpec.ofChange Rows.fnExactAuditLiveSpec) false w args) (Rows.fnExactAuditLiveSpec.post enc Tryz.prog Tryz.f3 false true false false) := by
  refine returnsInHanded_of_change_and (C := Tryz.checked) (X := fun w _ => laidMetH Tryz.prog Rows.fnExactAuditLiveRow.laid w) (fun _ _ _ hh h => h.of_heap hh) own started (by kernel_rfl) Tryz.func3
    (ChangeSpec.witness_shaped (enc := enc) (C := Tryz.checked) (os := os) (X := fun w _ => laidMetH Tryz.prog Rows.fnExactAuditLiveRow.laid w) false (World.doorLaid Tryz.prog 400 os) #[.agg #[.slice none 0 0, .slice none 0 0, .slice none 0 0, .string ⟨#[]⟩, .int .i64 0, .int .i64 0, .int .i64 0, .int .i64 0, .slice none 0 0, .slice none 0 0, .bool false]] 8 rfl (World.shaped_of_RefB (by kernel_rfl) (by kernel_rfl)) (by kernel_rfl) (by kernel_rfl) (by kernel_rfl) (door_met os _)) ?_
  intro W base args ds gs before hval0 hW hcnd _ hL _
  have hval : ∀ (j : Nat) t v, Tryz.f3.params[j]? = some t → args[j]? = some v → Value.okWide Tryz.prog W .any base t v := hval0
  have hW' := hW
  obtain ⟨p, q, hA0, hV, rfl, hfz, hnd⟩ := hW
  have hA : DataW.TrodAll enc Tryz.prog W 0 (fun _ => true) true Tryz.f3.params.toList args.toList ds p := hA0
  rw [Tryz.params3] at hA hval
  obtain ⟨v0, vs0, d0, ds0, p0, q0, hargs, rfl, rfl, h0, r0⟩ := trodAll_cons hA
  obtain ⟨rfl, rfl, rfl⟩ := trodAll_nil r0
  obtain rfl : args = #[v0] := by cases args; simp_all
  obtain rfl := trodVars_end hV
  obtain ⟨hG4, hG5, hG0, hG3, hG2, hG1⟩ := of_laid hL
  have k0 := h0
  have lt0 : ∀ x ∈ p0, x.block < W.heap.size := by obtain ⟨m, hm⟩ := k0; exact DataW.trod_lt m _ _ _ hm
  obtain ⟨cs0, rfl, _⟩ := okWide_struct Tryz.underlying32 (hval 0 32 v0 rfl rfl)
  obtain ⟨x0, hx0⟩ : ∃ x : Fw.Kernel, Dat.rd (Old W) W cs0.toList x := by
    obtain ⟨fuel, hf⟩ := h0
    exact rd32 hf
  have hc := oc_laws_FnExactAuditLive (w := W) x0 hx0 hG0 hG1 hG2 hG3
  refine hc.mono fun e W' ⟨he, bel⟩ => ?_
  rw [laws_FnExactAuditLive_true x0 (Dat.rd_good hx0)] at he
  subst he
  exact ⟨_, rfl, _, _, _, [], _, _, hW', trodAll_mk1 (shut_bool Tryz.underlying4 _), (trodAll_cons_mk (Below.trod laidOut (by kernel_rfl) (of_decide_eq_true (by kernel_rfl)) k0 bel lt0) trodAll_mk0), vars_below laidOut bel _ (by kernel_rfl) hV, bel.frame _, fun h => by cases h⟩

theorem over : Rows.fnExactAuditLiveRow.holds Tryz.pinned (OpenSpec.ofChange Rows.fnExactAuditLiveSpec) :=
  OpenClaim.holds_of_wide 3 Tryz.f3 rfl rfl rfl rfl rfl rfl rfl ⟨rfl, rfl, rfl, rfl, rfl⟩ rfl rfl rfl rfl rfl zf_fn Tryz.func3 zf_closed
    (of_decide_eq_true zf_inst) (by unfold Func.isWrapper; first | (rw [if_pos (by decide +kernel)]; kernel_rfl) | (rw [if_neg (by decide +kernel)]; exact ⟨rfl, rfl⟩))
    (fun os started H enc _ => lifted os started H enc)

theorem card : Rows.FnExactAuditLiveCardSaid :=
  Claim7.holds_tied_plain_at .later [] [.data, .data, .data, .sentinel, .sentinel, .sentinel] true (true, "39f1bfa86d21d41d5e8f57ff6935408bcca53de05b8306e7f42c14cd81409ffb") true
    over (fun _ h => by cases h) zf_wfb (fun _ h => by cases h) fnExactAuditLive_row_tie rfl ⟨rfl, rfl⟩ zf_main rfl
    (fun f fn hf hfn => by
      obtain rfl : f = 3 := Option.some.inj ((show Tryz.prog.funcNamed "loop.example/g00974/laws.FnExactAuditLive" = some 3 from zf_fn).symm.trans hf) |>.symm
      obtain rfl : fn = Tryz.f3 := (Option.some.inj (Tryz.func3.symm.trans hfn)).symm
      exact ⟨zf_looks, fun j t ht => by
        rw [Tryz.params3] at ht
        have hm : t ∈ [32] := by simpa using Array.mem_of_getElem? ht
        have hall : ([32].all fun u => !Tryz.prog.wantsStandIn u) = true := by kernel_rfl
        exact (show Tryz.prog.wantsStandIn t = false by simpa using List.all_eq_true.1 hall t hm)⟩)
    zf_goes
end Go.Proofs.YtlkjmghomjkcmaaGreatDoor.fnExactAuditLive
namespace Go.Proofs.YtlkjmghomjkcmaaGreatDoor
/-- The statement. -/
theorem fnExactAuditLive_proved : Rows.FnExactAuditLiveCardSaid := fnExactAuditLive.card
#print axioms fnExactAuditLive_proved
end Go.Proofs.YtlkjmghomjkcmaaGreatDoor
