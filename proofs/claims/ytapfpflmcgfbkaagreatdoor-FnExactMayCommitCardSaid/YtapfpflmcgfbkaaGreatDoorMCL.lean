/- The law FnExactMayCommit: for every input it returns true, and what came in is as it was. No condition. By program (wip/gen). -/
import Derived.Test.YtapfpflmcgfbkaaGreatDoorCards
import Derived.Test.YtapfpflmcgfbkaaGreatDoorTie
import Derived.OpenShut
import Derived.ChangeOld
import Derived.ProofKit
import Derived.LaidMore
import Derived.Stop.Joined
import Derived.SevenTiedAt
import Derived.Test.YtapfpflmcgfbkaaGreatDoorMCZ
import Derived.Test.YtapfpflmcgfbkaaGreatDoorMCA
import Derived.Test.YtapfpflmcgfbkaaGreatDoorMCB
import Derived.Test.YtapfpflmcgfbkaaGreatDoorMCC
import Derived.Test.YtapfpflmcgfbkaaGreatDoorMCD
import Derived.Test.YtapfpflmcgfbkaaGreatDoorMCE
import Derived.Test.YtapfpflmcgfbkaaGreatDoorMCF
namespace Go.Proofs.YtapfpflmcgfbkaaGreatDoor.Fw
open Go.RowKit
set_option linter.unusedVariables false
set_option linter.unusedSimpArgs false

theorem agg120 : chkAgg Tryz.prog 120 3 = true := by kernel_rfl
theorem agg160 : chkAgg Tryz.prog 160 6 = true := by kernel_rfl
theorem agg162 : chkAgg Tryz.prog 162 3 = true := by kernel_rfl
theorem agg165 : chkAgg Tryz.prog 165 7 = true := by kernel_rfl
theorem agg26 : chkAgg Tryz.prog 26 2 = true := by kernel_rfl
theorem agg28 : chkAgg Tryz.prog 28 3 = true := by kernel_rfl
theorem agg32 : chkAgg Tryz.prog 32 11 = true := by kernel_rfl
theorem agg66 : chkAgg Tryz.prog 66 2 = true := by kernel_rfl
theorem agg71 : chkAgg Tryz.prog 71 2 = true := by kernel_rfl
theorem agg74 : chkAgg Tryz.prog 74 10 = true := by kernel_rfl
theorem agg80 : chkAgg Tryz.prog 80 8 = true := by kernel_rfl
theorem sl22 : chkSlice Tryz.prog 22 66 2 32 = true := by kernel_rfl
theorem sl23 : chkSlice Tryz.prog 23 74 10 160 = true := by kernel_rfl
theorem sl24 : chkSlice Tryz.prog 24 120 3 40 = true := by kernel_rfl
theorem sl29 : chkSlice Tryz.prog 29 80 8 96 = true := by kernel_rfl
theorem sl30 : chkSlice Tryz.prog 30 9 1 16 = true := by kernel_rfl
theorem sl68 : chkSlice Tryz.prog 68 160 6 72 = true := by kernel_rfl
theorem sl69 : chkSlice Tryz.prog 69 162 3 32 = true := by kernel_rfl
theorem sl72 : chkSlice Tryz.prog 72 3 1 8 = true := by kernel_rfl
theorem sl78 : chkSlice Tryz.prog 78 165 7 80 = true := by kernel_rfl

theorem rd9 : Reads Tryz.prog 9 ByteArray := reads_string Tryz.underlying9
theorem rd66 : Reads Tryz.prog 66 Cell := by
  intro H enc W fuel cs x h
  obtain ⟨a0, h0⟩ := reads_field (α := ByteArray) (o := 0) (by kernel_rfl : chkFieldT Tryz.prog 66 0 0 9 1 = true) rd9 h
  obtain ⟨a1, h1⟩ := reads_field (α := ByteArray) (o := 1) (by kernel_rfl : chkFieldT Tryz.prog 66 1 1 9 1 = true) rd9 h
  have hl := struct_len agg66 Tryz.underlying66 h
  have e : cs = (cs.drop 0).take 2 := by rw [List.drop_zero, List.take_of_length_le (by omega)]
  refine ⟨⟨a0, a1⟩, ?_⟩
  rw [e]
  exact rd_pair h0 h1
theorem rd22 : Reads Tryz.prog 22 (List Cell) := reads_slice sl22 (by kernel_rfl) rd66
theorem rd3 : Reads Tryz.prog 3 Int := reads_int Tryz.underlying3
theorem rd160 : Reads Tryz.prog 160 Call := by
  intro H enc W fuel cs x h
  obtain ⟨a0, h0⟩ := reads_field (α := Int) (o := 0) (by kernel_rfl : chkFieldT Tryz.prog 160 0 0 3 1 = true) rd3 h
  obtain ⟨a1, h1⟩ := reads_field (α := ByteArray) (o := 1) (by kernel_rfl : chkFieldT Tryz.prog 160 1 1 9 1 = true) rd9 h
  obtain ⟨a2, h2⟩ := reads_field (α := ByteArray) (o := 2) (by kernel_rfl : chkFieldT Tryz.prog 160 2 2 9 1 = true) rd9 h
  obtain ⟨a3, h3⟩ := reads_field (α := Int) (o := 3) (by kernel_rfl : chkFieldT Tryz.prog 160 3 3 3 1 = true) rd3 h
  obtain ⟨a4, h4⟩ := reads_field (α := Int) (o := 4) (by kernel_rfl : chkFieldT Tryz.prog 160 4 4 3 1 = true) rd3 h
  obtain ⟨a5, h5⟩ := reads_field (α := ByteArray) (o := 5) (by kernel_rfl : chkFieldT Tryz.prog 160 5 5 9 1 = true) rd9 h
  have hl := struct_len agg160 Tryz.underlying160 h
  have e : cs = (cs.drop 0).take 6 := by rw [List.drop_zero, List.take_of_length_le (by omega)]
  refine ⟨⟨a0, a1, a2, a3, a4, a5⟩, ?_⟩
  rw [e]
  exact rd_pair h0 (rd_pair h1 (rd_pair h2 (rd_pair h3 (rd_pair h4 h5))))
theorem rd68 : Reads Tryz.prog 68 (List Call) := reads_slice sl68 (by kernel_rfl) rd160
theorem rd162 : Reads Tryz.prog 162 Answer := by
  intro H enc W fuel cs x h
  obtain ⟨a0, h0⟩ := reads_field (α := Int) (o := 0) (by kernel_rfl : chkFieldT Tryz.prog 162 0 0 3 1 = true) rd3 h
  obtain ⟨a1, h1⟩ := reads_field (α := Int) (o := 1) (by kernel_rfl : chkFieldT Tryz.prog 162 1 1 3 1 = true) rd3 h
  obtain ⟨a2, h2⟩ := reads_field (α := ByteArray) (o := 2) (by kernel_rfl : chkFieldT Tryz.prog 162 2 2 9 1 = true) rd9 h
  have hl := struct_len agg162 Tryz.underlying162 h
  have e : cs = (cs.drop 0).take 3 := by rw [List.drop_zero, List.take_of_length_le (by omega)]
  refine ⟨⟨a0, a1, a2⟩, ?_⟩
  rw [e]
  exact rd_pair h0 (rd_pair h1 h2)
theorem rd69 : Reads Tryz.prog 69 (List Answer) := reads_slice sl69 (by kernel_rfl) rd162
theorem rd30 : Reads Tryz.prog 30 (List ByteArray) := reads_slice sl30 (by kernel_rfl) rd9
theorem rd71 : Reads Tryz.prog 71 Touch := by
  intro H enc W fuel cs x h
  obtain ⟨a0, h0⟩ := reads_field (α := List ByteArray) (o := 0) (by kernel_rfl : chkFieldT Tryz.prog 71 0 0 30 1 = true) rd30 h
  obtain ⟨a1, h1⟩ := reads_field (α := List ByteArray) (o := 1) (by kernel_rfl : chkFieldT Tryz.prog 71 1 1 30 1 = true) rd30 h
  have hl := struct_len agg71 Tryz.underlying71 h
  have e : cs = (cs.drop 0).take 2 := by rw [List.drop_zero, List.take_of_length_le (by omega)]
  refine ⟨⟨a0, a1⟩, ?_⟩
  rw [e]
  exact rd_pair h0 h1
theorem rd72 : Reads Tryz.prog 72 (List Int) := reads_slice sl72 (by kernel_rfl) rd3
theorem rd74 : Reads Tryz.prog 74 Tx := by
  intro H enc W fuel cs x h
  obtain ⟨a0, h0⟩ := reads_field (α := Int) (o := 0) (by kernel_rfl : chkFieldT Tryz.prog 74 0 0 3 1 = true) rd3 h
  obtain ⟨a1, h1⟩ := reads_field (α := Int) (o := 1) (by kernel_rfl : chkFieldT Tryz.prog 74 1 1 3 1 = true) rd3 h
  obtain ⟨a2, h2⟩ := reads_field (α := Int) (o := 2) (by kernel_rfl : chkFieldT Tryz.prog 74 2 2 3 1 = true) rd3 h
  obtain ⟨a3, h3⟩ := reads_field (α := Int) (o := 3) (by kernel_rfl : chkFieldT Tryz.prog 74 3 3 3 1 = true) rd3 h
  obtain ⟨a4, h4⟩ := reads_field (α := List Call) (o := 4) (by kernel_rfl : chkFieldT Tryz.prog 74 4 4 68 1 = true) rd68 h
  obtain ⟨a5, h5⟩ := reads_field (α := List Answer) (o := 5) (by kernel_rfl : chkFieldT Tryz.prog 74 5 5 69 1 = true) rd69 h
  obtain ⟨a6, h6⟩ := reads_field (α := Touch) (o := 6) (by kernel_rfl : chkFieldT Tryz.prog 74 6 6 71 2 = true) rd71 h
  obtain ⟨a7, h7⟩ := reads_field (α := List Int) (o := 8) (by kernel_rfl : chkFieldT Tryz.prog 74 7 8 72 1 = true) rd72 h
  obtain ⟨a8, h8⟩ := reads_field (α := Int) (o := 9) (by kernel_rfl : chkFieldT Tryz.prog 74 8 9 3 1 = true) rd3 h
  have hl := struct_len agg74 Tryz.underlying74 h
  have e : cs = (cs.drop 0).take 10 := by rw [List.drop_zero, List.take_of_length_le (by omega)]
  refine ⟨⟨a0, a1, a2, a3, a4, a5, a6, a7, a8⟩, ?_⟩
  rw [e]
  exact rd_pair h0 (rd_pair h1 (rd_pair h2 (rd_pair h3 (rd_pair h4 (rd_pair h5 (rd_pair h6 (rd_pair h7 h8)))))))
theorem rd23 : Reads Tryz.prog 23 (List Tx) := reads_slice sl23 (by kernel_rfl) rd74
theorem rd4 : Reads Tryz.prog 4 Bool := reads_bool Tryz.underlying4
theorem rd120 : Reads Tryz.prog 120 Slot := by
  intro H enc W fuel cs x h
  obtain ⟨a0, h0⟩ := reads_field (α := Int) (o := 0) (by kernel_rfl : chkFieldT Tryz.prog 120 0 0 3 1 = true) rd3 h
  obtain ⟨a1, h1⟩ := reads_field (α := List Cell) (o := 1) (by kernel_rfl : chkFieldT Tryz.prog 120 1 1 22 1 = true) rd22 h
  obtain ⟨a2, h2⟩ := reads_field (α := Bool) (o := 2) (by kernel_rfl : chkFieldT Tryz.prog 120 2 2 4 1 = true) rd4 h
  have hl := struct_len agg120 Tryz.underlying120 h
  have e : cs = (cs.drop 0).take 3 := by rw [List.drop_zero, List.take_of_length_le (by omega)]
  refine ⟨⟨a0, a1, a2⟩, ?_⟩
  rw [e]
  exact rd_pair h0 (rd_pair h1 h2)
theorem rd24 : Reads Tryz.prog 24 (List Slot) := reads_slice sl24 (by kernel_rfl) rd120
theorem rd26 : Reads Tryz.prog 26 Journal := by
  intro H enc W fuel cs x h
  obtain ⟨a0, h0⟩ := reads_field (α := ByteArray) (o := 0) (by kernel_rfl : chkFieldT Tryz.prog 26 0 0 9 1 = true) rd9 h
  obtain ⟨a1, h1⟩ := reads_field (α := Int) (o := 1) (by kernel_rfl : chkFieldT Tryz.prog 26 1 1 3 1 = true) rd3 h
  have hl := struct_len agg26 Tryz.underlying26 h
  have e : cs = (cs.drop 0).take 2 := by rw [List.drop_zero, List.take_of_length_le (by omega)]
  refine ⟨⟨a0, a1⟩, ?_⟩
  rw [e]
  exact rd_pair h0 h1
theorem rd28 : Reads Tryz.prog 28 Disk := by
  intro H enc W fuel cs x h
  obtain ⟨a0, h0⟩ := reads_field (α := List Slot) (o := 0) (by kernel_rfl : chkFieldT Tryz.prog 28 0 0 24 1 = true) rd24 h
  obtain ⟨a1, h1⟩ := reads_field (α := Journal) (o := 1) (by kernel_rfl : chkFieldT Tryz.prog 28 1 1 26 2 = true) rd26 h
  have hl := struct_len agg28 Tryz.underlying28 h
  have e : cs = (cs.drop 0).take 3 := by rw [List.drop_zero, List.take_of_length_le (by omega)]
  refine ⟨⟨a0, a1⟩, ?_⟩
  rw [e]
  exact rd_pair h0 h1
theorem rd165 : Reads Tryz.prog 165 Step := by
  intro H enc W fuel cs x h
  obtain ⟨a0, h0⟩ := reads_field (α := Int) (o := 0) (by kernel_rfl : chkFieldT Tryz.prog 165 0 0 3 1 = true) rd3 h
  obtain ⟨a1, h1⟩ := reads_field (α := Call) (o := 1) (by kernel_rfl : chkFieldT Tryz.prog 165 1 1 160 6 = true) rd160 h
  have hl := struct_len agg165 Tryz.underlying165 h
  have e : cs = (cs.drop 0).take 7 := by rw [List.drop_zero, List.take_of_length_le (by omega)]
  refine ⟨⟨a0, a1⟩, ?_⟩
  rw [e]
  exact rd_pair h0 h1
theorem rd78 : Reads Tryz.prog 78 (List Step) := reads_slice sl78 (by kernel_rfl) rd165
theorem rd80 : Reads Tryz.prog 80 Entry := by
  intro H enc W fuel cs x h
  obtain ⟨a0, h0⟩ := reads_field (α := Int) (o := 0) (by kernel_rfl : chkFieldT Tryz.prog 80 0 0 3 1 = true) rd3 h
  obtain ⟨a1, h1⟩ := reads_field (α := Int) (o := 1) (by kernel_rfl : chkFieldT Tryz.prog 80 1 1 3 1 = true) rd3 h
  obtain ⟨a2, h2⟩ := reads_field (α := Int) (o := 2) (by kernel_rfl : chkFieldT Tryz.prog 80 2 2 3 1 = true) rd3 h
  obtain ⟨a3, h3⟩ := reads_field (α := List Step) (o := 3) (by kernel_rfl : chkFieldT Tryz.prog 80 3 3 78 1 = true) rd78 h
  obtain ⟨a4, h4⟩ := reads_field (α := List Answer) (o := 4) (by kernel_rfl : chkFieldT Tryz.prog 80 4 4 69 1 = true) rd69 h
  obtain ⟨a5, h5⟩ := reads_field (α := Int) (o := 5) (by kernel_rfl : chkFieldT Tryz.prog 80 5 5 3 1 = true) rd3 h
  obtain ⟨a6, h6⟩ := reads_field (α := Int) (o := 6) (by kernel_rfl : chkFieldT Tryz.prog 80 6 6 3 1 = true) rd3 h
  obtain ⟨a7, h7⟩ := reads_field (α := Bool) (o := 7) (by kernel_rfl : chkFieldT Tryz.prog 80 7 7 4 1 = true) rd4 h
  have hl := struct_len agg80 Tryz.underlying80 h
  have e : cs = (cs.drop 0).take 8 := by rw [List.drop_zero, List.take_of_length_le (by omega)]
  refine ⟨⟨a0, a1, a2, a3, a4, a5, a6, a7⟩, ?_⟩
  rw [e]
  exact rd_pair h0 (rd_pair h1 (rd_pair h2 (rd_pair h3 (rd_pair h4 (rd_pair h5 (rd_pair h6 h7))))))
theorem rd29 : Reads Tryz.prog 29 (List Entry) := reads_slice sl29 (by kernel_rfl) rd80
theorem rd32 : Reads Tryz.prog 32 Kernel := by
  intro H enc W fuel cs x h
  obtain ⟨a0, h0⟩ := reads_field (α := List Cell) (o := 0) (by kernel_rfl : chkFieldT Tryz.prog 32 0 0 22 1 = true) rd22 h
  obtain ⟨a1, h1⟩ := reads_field (α := List Tx) (o := 1) (by kernel_rfl : chkFieldT Tryz.prog 32 1 1 23 1 = true) rd23 h
  obtain ⟨a2, h2⟩ := reads_field (α := Disk) (o := 2) (by kernel_rfl : chkFieldT Tryz.prog 32 2 2 28 3 = true) rd28 h
  obtain ⟨a3, h3⟩ := reads_field (α := Int) (o := 5) (by kernel_rfl : chkFieldT Tryz.prog 32 3 5 3 1 = true) rd3 h
  obtain ⟨a4, h4⟩ := reads_field (α := Int) (o := 6) (by kernel_rfl : chkFieldT Tryz.prog 32 4 6 3 1 = true) rd3 h
  obtain ⟨a5, h5⟩ := reads_field (α := Int) (o := 7) (by kernel_rfl : chkFieldT Tryz.prog 32 5 7 3 1 = true) rd3 h
  obtain ⟨a6, h6⟩ := reads_field (α := List Entry) (o := 8) (by kernel_rfl : chkFieldT Tryz.prog 32 6 8 29 1 = true) rd29 h
  obtain ⟨a7, h7⟩ := reads_field (α := List ByteArray) (o := 9) (by kernel_rfl : chkFieldT Tryz.prog 32 7 9 30 1 = true) rd30 h
  obtain ⟨a8, h8⟩ := reads_field (α := Bool) (o := 10) (by kernel_rfl : chkFieldT Tryz.prog 32 8 10 4 1 = true) rd4 h
  have hl := struct_len agg32 Tryz.underlying32 h
  have e : cs = (cs.drop 0).take 11 := by rw [List.drop_zero, List.take_of_length_le (by omega)]
  refine ⟨⟨a0, a1, a2, a3, a4, a5, a6, a7, a8⟩, ?_⟩
  rw [e]
  exact rd_pair h0 (rd_pair h1 (rd_pair h2 (rd_pair h3 (rd_pair h4 (rd_pair h5 (rd_pair h6 (rd_pair h7 h8)))))))

def laws_FnExactMayCommit (p0 : Kernel) (p1 : Int) : Bool := true
theorem oc_laws_FnExactMayCommit {c0 : List Value} (p0 : Kernel) (p1 : Int) {w : World} (hp0 : Dat.rd (Old w) w c0 p0) (hp1 : Ri.VGood (.int .i64 p1)) (hG0 : GV 0 (gl0.map (Value.int .u64)) w) (hG3 : GX 3 w) (hG4 : GX 4 w) (hG5 : GX 5 w) :
    Calls Tryz.prog 3 [.agg c0.toArray, .int .i64 p1].toArray w (fun e w' => e = .returned (.bool (laws_FnExactMayCommit p0 p1)) ∧ Below w.heap.size w w') := Ri.oc3 p0 p1 hp0 hp1 (Ri.gok_of hG0 hG3 hG4 hG5)
theorem laws_FnExactMayCommit_true (p0 : Kernel) (p1 : Int) (_ : Dat.good p0) : laws_FnExactMayCommit p0 p1 = true := rfl
end Go.Proofs.YtapfpflmcgfbkaaGreatDoor.Fw

namespace Go.Proofs.YtapfpflmcgfbkaaGreatDoor.fnExactMayCommit
open Go.ChangeShapes Go.WideShapes Go.ChangeAt Go.RowKit Go.Proofs.YtapfpflmcgfbkaaGreatDoor.Fw
set_option linter.unusedVariables false

theorem own : ownKnob Tryz.prog.godebug = none := by kernel_rfl
theorem laidOut : laidOutB Tryz.prog = true := zf_laid

theorem door_met (os : Os) (args : Array Value) : laidMetH Tryz.prog Rows.fnExactMayCommitRow.laid ((World.doorLaid Tryz.prog 400 os).forCall (fun _ _ => 0) ⟨#[], args, []⟩).memory :=
  laidMetH_of_parts3 (fuel := 8) (laidMet_of_run' 8 (by kernel_rfl) (by kernel_rfl)) (by kernel_rfl) (by kernel_rfl)
set_option maxRecDepth 100000 in
theorem of_laid {W : World} (h : laidMetH Tryz.prog Rows.fnExactMayCommitRow.laid W) : GV 1 (gl1.map (Value.int .u8)) W ∧ GV 2 (gl2.map (Value.int .u8)) W ∧ GV 0 (gl0.map (Value.int .u64)) W ∧ GX 5 W ∧ GX 4 W ∧ GX 3 W := by
  rw [MakeChecks.laidMetH_plain _ _ _ (by kernel_rfl)] at h
  obtain ⟨ps, ⟨g0, t0, cs0, f0, p0, q0, hg0, ht0, hv0, hd0, ⟨g1, t1, cs1, f1, p1, q1, hg1, ht1, hv1, hd1, ⟨g2, t2, cs2, f2, p2, q2, hg2, ht2, hv2, hd2, ⟨g3, t3, cs3, f3, p3, q3, hg3, ht3, hv3, hd3, ⟨g4, t4, cs4, f4, p4, q4, hg4, ht4, hv4, hd4, ⟨g5, t5, cs5, f5, p5, q5, hg5, ht5, hv5, hd5, _, _⟩, _⟩, _⟩, _⟩, _⟩, _⟩, _, _⟩ := h
  obtain rfl := Option.some.inj ((show Tryz.prog.globalNamed "math/bits.deBruijn32tab" = some 1 by kernel_rfl).symm.trans hg0)
  obtain rfl := Option.some.inj ((show (Tryz.prog.globals[1]?).map (·.type) = some 340 by kernel_rfl).symm.trans ht0)
  obtain rfl := Option.some.inj ((show Tryz.prog.globalNamed "math/bits.deBruijn64tab" = some 2 by kernel_rfl).symm.trans hg1)
  obtain rfl := Option.some.inj ((show (Tryz.prog.globals[2]?).map (·.type) = some 341 by kernel_rfl).symm.trans ht1)
  obtain rfl := Option.some.inj ((show Tryz.prog.globalNamed "internal/strconv.uint64pow10" = some 0 by kernel_rfl).symm.trans hg2)
  obtain rfl := Option.some.inj ((show (Tryz.prog.globals[0]?).map (·.type) = some 333 by kernel_rfl).symm.trans ht2)
  obtain rfl := Option.some.inj ((show Tryz.prog.globalNamed "strconv.ErrRange" = some 5 by kernel_rfl).symm.trans hg3)
  obtain rfl := Option.some.inj ((show (Tryz.prog.globals[5]?).map (·.type) = some 199 by kernel_rfl).symm.trans ht3)
  obtain rfl := Option.some.inj ((show Tryz.prog.globalNamed "strconv.ErrSyntax" = some 4 by kernel_rfl).symm.trans hg4)
  obtain rfl := Option.some.inj ((show (Tryz.prog.globals[4]?).map (·.type) = some 199 by kernel_rfl).symm.trans ht4)
  obtain rfl := Option.some.inj ((show Tryz.prog.globalNamed "encoding/hex.ErrLength" = some 3 by kernel_rfl).symm.trans hg5)
  obtain rfl := Option.some.inj ((show (Tryz.prog.globals[3]?).map (·.type) = some 199 by kernel_rfl).symm.trans ht5)
  exact ⟨GV_ints (names := gl1) hg0 Tryz.underlying340 Tryz.underlying5 (by kernel_rfl) (by kernel_rfl) hv0 hd0, GV_ints (names := gl2) hg1 Tryz.underlying341 Tryz.underlying5 (by kernel_rfl) (by kernel_rfl) hv1 hd1, GV_ints (names := gl0) hg2 Tryz.underlying333 Tryz.underlying285 (by kernel_rfl) (by kernel_rfl) hv2 hd2, GX_iface hg3 Tryz.underlying199 hv3 hd3, GX_iface hg4 Tryz.underlying199 hv4 hd4, GX_iface hg5 Tryz.underlying199 hv5 hd5⟩

set_option maxRecDepth 100000 in
theorem lifted (os : Os) (started : os.Started) (H : Type) (enc : TypeId × Value → H) :
    ReturnsInHanded {} Tryz.checked os 3 .any (fun w args => (Rows.fnExactMayCommitSpec.pre enc Tryz.prog Tryz.f3 Rows.fnExactMayCommitRow.domain false w args ∧ laidMetH Tryz.prog Rows.fnExactMayCommitRow.laid w) ∧ sizedMet enc Tryz.prog Tryz.f3 (OpenSpec.ofChange Rows.fnExactMayCommitSpec) false w args) (Rows.fnExactMayCommitSpec.post enc Tryz.prog Tryz.f3 false true false false) := by
  refine returnsInHanded_of_change_and (C := Tryz.checked) (X := fun w _ => laidMetH Tryz.prog Rows.fnExactMayCommitRow.laid w) (fun _ _ _ hh h => h.of_heap hh) own started (by kernel_rfl) Tryz.func3
    (ChangeSpec.witness_shaped (enc := enc) (C := Tryz.checked) (os := os) (X := fun w _ => laidMetH Tryz.prog Rows.fnExactMayCommitRow.laid w) false (World.doorLaid Tryz.prog 400 os) #[.agg #[.slice none 0 0, .slice none 0 0, .slice none 0 0, .string ⟨#[]⟩, .int .i64 0, .int .i64 0, .int .i64 0, .int .i64 0, .slice none 0 0, .slice none 0 0, .bool false], .int .i64 0] 8 rfl (World.shaped_of_RefB (by kernel_rfl) (by kernel_rfl)) (by kernel_rfl) (by kernel_rfl) (by kernel_rfl) (door_met os _)) ?_
  intro W base args ds gs before hval0 hW hcnd _ hL _
  have hval : ∀ (j : Nat) t v, Tryz.f3.params[j]? = some t → args[j]? = some v → Value.okWide Tryz.prog W .any base t v := hval0
  have hW' := hW
  obtain ⟨p, q, hA0, hV, rfl, hfz, hnd⟩ := hW
  have hA : DataW.TrodAll enc Tryz.prog W 0 (fun _ => true) true Tryz.f3.params.toList args.toList ds p := hA0
  rw [Tryz.params3] at hA hval
  obtain ⟨v0, vs0, d0, ds0, p0, q0, hargs, rfl, rfl, h0, r0⟩ := trodAll_cons hA
  obtain ⟨v1, vs1, d1, ds1, p1, q1, rfl, rfl, rfl, h1, r1⟩ := trodAll_cons r0
  obtain ⟨rfl, rfl, rfl⟩ := trodAll_nil r1
  obtain rfl : args = #[v0, v1] := by cases args; simp_all
  obtain rfl := trodVars_end hV
  obtain ⟨hG1, hG2, hG0, hG5, hG4, hG3⟩ := of_laid hL
  have k0 := h0
  have lt0 : ∀ x ∈ p0, x.block < W.heap.size := by obtain ⟨m, hm⟩ := k0; exact DataW.trod_lt m _ _ _ hm
  obtain ⟨cs0, rfl, _⟩ := okWide_struct Tryz.underlying32 (hval 0 32 v0 rfl rfl)
  obtain ⟨x0, hx0⟩ : ∃ x : Fw.Kernel, Dat.rd (Old W) W cs0.toList x := by
    obtain ⟨fuel, hf⟩ := h0
    exact rd32 hf
  have k1 := h1
  have lt1 : ∀ x ∈ p1, x.block < W.heap.size := by obtain ⟨m, hm⟩ := k1; exact DataW.trod_lt m _ _ _ hm
  obtain ⟨x1, rfl, _, _, w1⟩ := open_int Tryz.underlying3 (hval 1 3 v1 rfl rfl) h1
  have hc := oc_laws_FnExactMayCommit (w := W) x0 x1 hx0 (by have h := w1; simp [Lit.wf] at h; exact Ri.i64_id (show (-9223372036854775808 : Int) ≤ x1 from h.1) h.2) hG0 hG3 hG4 hG5
  refine hc.mono fun e W' ⟨he, bel⟩ => ?_
  rw [laws_FnExactMayCommit_true x0 x1 (Dat.rd_good hx0)] at he
  subst he
  exact ⟨_, rfl, _, _, _, [], _, _, hW', trodAll_mk1 (shut_bool Tryz.underlying4 _), (trodAll_cons_mk (Below.trod laidOut (by kernel_rfl) (of_decide_eq_true (by kernel_rfl)) k0 bel lt0) (trodAll_cons_mk (Below.trod laidOut (by kernel_rfl) (of_decide_eq_true (by kernel_rfl)) k1 bel lt1) trodAll_mk0)), vars_below laidOut bel _ (by kernel_rfl) hV, bel.frame _, fun h => by cases h⟩

theorem over : Rows.fnExactMayCommitRow.holds Tryz.pinned (OpenSpec.ofChange Rows.fnExactMayCommitSpec) :=
  OpenClaim.holds_of_wide 3 Tryz.f3 rfl rfl rfl rfl rfl rfl rfl ⟨rfl, rfl, rfl, rfl, rfl⟩ rfl rfl rfl rfl rfl zf_fn Tryz.func3 zf_closed
    (of_decide_eq_true zf_inst) (by unfold Func.isWrapper; first | (rw [if_pos (by decide +kernel)]; kernel_rfl) | (rw [if_neg (by decide +kernel)]; exact ⟨rfl, rfl⟩))
    (fun os started H enc _ => lifted os started H enc)

theorem card : Rows.FnExactMayCommitCardSaid :=
  Claim7.holds_tied_plain_at .later [] [.data, .data, .data, .sentinel, .sentinel, .sentinel] true (true, "d6cdbe37af1d3fe04b72955ff17a57a9e65d921d08e48d85c3553b918a30e2c3") true
    over (fun _ h => by cases h) zf_wfb (fun _ h => by cases h) fnExactMayCommit_row_tie rfl ⟨rfl, rfl⟩ zf_main rfl
    (fun f fn hf hfn => by
      obtain rfl : f = 3 := Option.some.inj ((show Tryz.prog.funcNamed "loop.example/g00974/laws.FnExactMayCommit" = some 3 from zf_fn).symm.trans hf) |>.symm
      obtain rfl : fn = Tryz.f3 := (Option.some.inj (Tryz.func3.symm.trans hfn)).symm
      exact ⟨zf_looks, fun j t ht => by
        rw [Tryz.params3] at ht
        have hm : t ∈ [32, 3] := by simpa using Array.mem_of_getElem? ht
        have hall : ([32, 3].all fun u => !Tryz.prog.wantsStandIn u) = true := by kernel_rfl
        exact (show Tryz.prog.wantsStandIn t = false by simpa using List.all_eq_true.1 hall t hm)⟩)
    zf_goes
end Go.Proofs.YtapfpflmcgfbkaaGreatDoor.fnExactMayCommit
namespace Go.Proofs.YtapfpflmcgfbkaaGreatDoor
/-- The statement. -/
theorem fnExactMayCommit_proved : Rows.FnExactMayCommitCardSaid := fnExactMayCommit.card
#print axioms fnExactMayCommit_proved
end Go.Proofs.YtapfpflmcgfbkaaGreatDoor
