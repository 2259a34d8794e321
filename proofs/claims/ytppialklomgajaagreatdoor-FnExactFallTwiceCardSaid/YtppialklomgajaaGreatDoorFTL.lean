/- The law FnExactFallTwice: for every input it returns true, and what came in is as it was. No condition. By program (wip/gen). -/
import Derived.Test.YtppialklomgajaaGreatDoorCards
import Derived.Test.YtppialklomgajaaGreatDoorTie
import Derived.OpenShut
import Derived.ChangeOld
import Derived.ProofKit
import Derived.LaidMore
import Derived.Stop.Joined
import Derived.Lay
import Derived.LaidOnce
import Derived.SevenTiedAt
import Derived.Test.YtppialklomgajaaGreatDoorFTZ
import Derived.Test.YtppialklomgajaaGreatDoorFTA
import Derived.Test.YtppialklomgajaaGreatDoorFTB
import Derived.Test.YtppialklomgajaaGreatDoorFTC
import Derived.Test.YtppialklomgajaaGreatDoorFTD
import Derived.Test.YtppialklomgajaaGreatDoorFTE
import Derived.Test.YtppialklomgajaaGreatDoorFTF
namespace Go.Proofs.YtppialklomgajaaGreatDoor.Fw
open Go.RowKit
set_option linter.unusedVariables false
set_option linter.unusedSimpArgs false

theorem Ylx : Qil Tryz.prog 105 8 = true := by kernel_rfl
theorem Ylw : Qil Tryz.prog 168 3 = true := by kernel_rfl
theorem Ylv : Qil Tryz.prog 205 6 = true := by kernel_rfl
theorem Ylu : Qil Tryz.prog 207 3 = true := by kernel_rfl
theorem Ylt : Qil Tryz.prog 210 7 = true := by kernel_rfl
theorem Yn7 : Qil Tryz.prog 26 2 = true := by kernel_rfl
theorem Yn6 : Qil Tryz.prog 28 3 = true := by kernel_rfl
theorem Yn5 : Qil Tryz.prog 32 11 = true := by kernel_rfl
theorem Yn4 : Qil Tryz.prog 92 2 = true := by kernel_rfl
theorem Yn3 : Qil Tryz.prog 97 2 = true := by kernel_rfl
theorem Yn2 : Qil Tryz.prog 99 10 = true := by kernel_rfl
theorem Ymj : Qeh Tryz.prog 103 210 7 80 = true := by kernel_rfl
theorem sl22 : Qeh Tryz.prog 22 92 2 32 = true := by kernel_rfl
theorem sl23 : Qeh Tryz.prog 23 99 10 160 = true := by kernel_rfl
theorem sl24 : Qeh Tryz.prog 24 168 3 40 = true := by kernel_rfl
theorem sl29 : Qeh Tryz.prog 29 105 8 96 = true := by kernel_rfl
theorem sl30 : Qeh Tryz.prog 30 9 1 16 = true := by kernel_rfl
theorem sl87 : Qeh Tryz.prog 87 3 1 8 = true := by kernel_rfl
theorem sl94 : Qeh Tryz.prog 94 205 6 72 = true := by kernel_rfl
theorem sl95 : Qeh Tryz.prog 95 207 3 32 = true := by kernel_rfl

theorem rd9 : Reads Tryz.prog 9 ByteArray := Q5q Tryz.underlying9
theorem rd92 : Reads Tryz.prog 92 Cell := by
  intro H enc W fuel cs x h
  obtain ⟨a0, h0⟩ := Qat (α := ByteArray) (o := 0) (by kernel_rfl : Qa6 Tryz.prog 92 0 0 9 1 = true) rd9 h
  obtain ⟨a1, h1⟩ := Qat (α := ByteArray) (o := 1) (by kernel_rfl : Qa6 Tryz.prog 92 1 1 9 1 = true) rd9 h
  have hl := Qhk Yn4 Tryz.underlying92 h
  have e : cs = (cs.drop 0).take 2 := by rw [List.drop_zero, List.take_of_length_le (by omega)]
  refine ⟨⟨a0, a1⟩, ?_⟩
  rw [e]
  exact Qdp h0 h1
theorem rd22 : Reads Tryz.prog 22 (List Cell) := Qhv sl22 (by kernel_rfl) rd92
theorem rd3 : Reads Tryz.prog 3 Int := Ybk Tryz.underlying3
theorem Yh0 : Reads Tryz.prog 205 Call := by
  intro H enc W fuel cs x h
  obtain ⟨a0, h0⟩ := Qat (α := Int) (o := 0) (by kernel_rfl : Qa6 Tryz.prog 205 0 0 3 1 = true) rd3 h
  obtain ⟨a1, h1⟩ := Qat (α := ByteArray) (o := 1) (by kernel_rfl : Qa6 Tryz.prog 205 1 1 9 1 = true) rd9 h
  obtain ⟨a2, h2⟩ := Qat (α := ByteArray) (o := 2) (by kernel_rfl : Qa6 Tryz.prog 205 2 2 9 1 = true) rd9 h
  obtain ⟨a3, h3⟩ := Qat (α := Int) (o := 3) (by kernel_rfl : Qa6 Tryz.prog 205 3 3 3 1 = true) rd3 h
  obtain ⟨a4, h4⟩ := Qat (α := Int) (o := 4) (by kernel_rfl : Qa6 Tryz.prog 205 4 4 3 1 = true) rd3 h
  obtain ⟨a5, h5⟩ := Qat (α := ByteArray) (o := 5) (by kernel_rfl : Qa6 Tryz.prog 205 5 5 9 1 = true) rd9 h
  have hl := Qhk Ylv Tryz.underlying205 h
  have e : cs = (cs.drop 0).take 6 := by rw [List.drop_zero, List.take_of_length_le (by omega)]
  refine ⟨⟨a0, a1, a2, a3, a4, a5⟩, ?_⟩
  rw [e]
  exact Qdp h0 (Qdp h1 (Qdp h2 (Qdp h3 (Qdp h4 h5))))
theorem rd94 : Reads Tryz.prog 94 (List Call) := Qhv sl94 (by kernel_rfl) Yh0
theorem Yml : Reads Tryz.prog 207 Answer := by
  intro H enc W fuel cs x h
  obtain ⟨a0, h0⟩ := Qat (α := Int) (o := 0) (by kernel_rfl : Qa6 Tryz.prog 207 0 0 3 1 = true) rd3 h
  obtain ⟨a1, h1⟩ := Qat (α := Int) (o := 1) (by kernel_rfl : Qa6 Tryz.prog 207 1 1 3 1 = true) rd3 h
  obtain ⟨a2, h2⟩ := Qat (α := ByteArray) (o := 2) (by kernel_rfl : Qa6 Tryz.prog 207 2 2 9 1 = true) rd9 h
  have hl := Qhk Ylu Tryz.underlying207 h
  have e : cs = (cs.drop 0).take 3 := by rw [List.drop_zero, List.take_of_length_le (by omega)]
  refine ⟨⟨a0, a1, a2⟩, ?_⟩
  rw [e]
  exact Qdp h0 (Qdp h1 h2)
theorem rd95 : Reads Tryz.prog 95 (List Answer) := Qhv sl95 (by kernel_rfl) Yml
theorem rd30 : Reads Tryz.prog 30 (List ByteArray) := Qhv sl30 (by kernel_rfl) rd9
theorem rd97 : Reads Tryz.prog 97 Touch := by
  intro H enc W fuel cs x h
  obtain ⟨a0, h0⟩ := Qat (α := List ByteArray) (o := 0) (by kernel_rfl : Qa6 Tryz.prog 97 0 0 30 1 = true) rd30 h
  obtain ⟨a1, h1⟩ := Qat (α := List ByteArray) (o := 1) (by kernel_rfl : Qa6 Tryz.prog 97 1 1 30 1 = true) rd30 h
  have hl := Qhk Yn3 Tryz.underlying97 h
  have e : cs = (cs.drop 0).take 2 := by rw [List.drop_zero, List.take_of_length_le (by omega)]
  refine ⟨⟨a0, a1⟩, ?_⟩
  rw [e]
  exact Qdp h0 h1
theorem rd87 : Reads Tryz.prog 87 (List Int) := Qhv sl87 (by kernel_rfl) rd3
theorem rd99 : Reads Tryz.prog 99 Tx := by
  intro H enc W fuel cs x h
  obtain ⟨a0, h0⟩ := Qat (α := Int) (o := 0) (by kernel_rfl : Qa6 Tryz.prog 99 0 0 3 1 = true) rd3 h
  obtain ⟨a1, h1⟩ := Qat (α := Int) (o := 1) (by kernel_rfl : Qa6 Tryz.prog 99 1 1 3 1 = true) rd3 h
  obtain ⟨a2, h2⟩ := Qat (α := Int) (o := 2) (by kernel_rfl : Qa6 Tryz.prog 99 2 2 3 1 = true) rd3 h
  obtain ⟨a3, h3⟩ := Qat (α := Int) (o := 3) (by kernel_rfl : Qa6 Tryz.prog 99 3 3 3 1 = true) rd3 h
  obtain ⟨a4, h4⟩ := Qat (α := List Call) (o := 4) (by kernel_rfl : Qa6 Tryz.prog 99 4 4 94 1 = true) rd94 h
  obtain ⟨a5, h5⟩ := Qat (α := List Answer) (o := 5) (by kernel_rfl : Qa6 Tryz.prog 99 5 5 95 1 = true) rd95 h
  obtain ⟨a6, h6⟩ := Qat (α := Touch) (o := 6) (by kernel_rfl : Qa6 Tryz.prog 99 6 6 97 2 = true) rd97 h
  obtain ⟨a7, h7⟩ := Qat (α := List Int) (o := 8) (by kernel_rfl : Qa6 Tryz.prog 99 7 8 87 1 = true) rd87 h
  obtain ⟨a8, h8⟩ := Qat (α := Int) (o := 9) (by kernel_rfl : Qa6 Tryz.prog 99 8 9 3 1 = true) rd3 h
  have hl := Qhk Yn2 Tryz.underlying99 h
  have e : cs = (cs.drop 0).take 10 := by rw [List.drop_zero, List.take_of_length_le (by omega)]
  refine ⟨⟨a0, a1, a2, a3, a4, a5, a6, a7, a8⟩, ?_⟩
  rw [e]
  exact Qdp h0 (Qdp h1 (Qdp h2 (Qdp h3 (Qdp h4 (Qdp h5 (Qdp h6 (Qdp h7 h8)))))))
theorem rd23 : Reads Tryz.prog 23 (List Tx) := Qhv sl23 (by kernel_rfl) rd99
theorem rd4 : Reads Tryz.prog 4 Bool := Yab Tryz.underlying4
theorem Ymm : Reads Tryz.prog 168 Slot := by
  intro H enc W fuel cs x h
  obtain ⟨a0, h0⟩ := Qat (α := Int) (o := 0) (by kernel_rfl : Qa6 Tryz.prog 168 0 0 3 1 = true) rd3 h
  obtain ⟨a1, h1⟩ := Qat (α := List Cell) (o := 1) (by kernel_rfl : Qa6 Tryz.prog 168 1 1 22 1 = true) rd22 h
  obtain ⟨a2, h2⟩ := Qat (α := Bool) (o := 2) (by kernel_rfl : Qa6 Tryz.prog 168 2 2 4 1 = true) rd4 h
  have hl := Qhk Ylw Tryz.underlying168 h
  have e : cs = (cs.drop 0).take 3 := by rw [List.drop_zero, List.take_of_length_le (by omega)]
  refine ⟨⟨a0, a1, a2⟩, ?_⟩
  rw [e]
  exact Qdp h0 (Qdp h1 h2)
theorem rd24 : Reads Tryz.prog 24 (List Slot) := Qhv sl24 (by kernel_rfl) Ymm
theorem rd26 : Reads Tryz.prog 26 Journal := by
  intro H enc W fuel cs x h
  obtain ⟨a0, h0⟩ := Qat (α := ByteArray) (o := 0) (by kernel_rfl : Qa6 Tryz.prog 26 0 0 9 1 = true) rd9 h
  obtain ⟨a1, h1⟩ := Qat (α := Int) (o := 1) (by kernel_rfl : Qa6 Tryz.prog 26 1 1 3 1 = true) rd3 h
  have hl := Qhk Yn7 Tryz.underlying26 h
  have e : cs = (cs.drop 0).take 2 := by rw [List.drop_zero, List.take_of_length_le (by omega)]
  refine ⟨⟨a0, a1⟩, ?_⟩
  rw [e]
  exact Qdp h0 h1
theorem rd28 : Reads Tryz.prog 28 Disk := by
  intro H enc W fuel cs x h
  obtain ⟨a0, h0⟩ := Qat (α := List Slot) (o := 0) (by kernel_rfl : Qa6 Tryz.prog 28 0 0 24 1 = true) rd24 h
  obtain ⟨a1, h1⟩ := Qat (α := Journal) (o := 1) (by kernel_rfl : Qa6 Tryz.prog 28 1 1 26 2 = true) rd26 h
  have hl := Qhk Yn6 Tryz.underlying28 h
  have e : cs = (cs.drop 0).take 3 := by rw [List.drop_zero, List.take_of_length_le (by omega)]
  refine ⟨⟨a0, a1⟩, ?_⟩
  rw [e]
  exact Qdp h0 h1
theorem Ymk : Reads Tryz.prog 210 Step := by
  intro H enc W fuel cs x h
  obtain ⟨a0, h0⟩ := Qat (α := Int) (o := 0) (by kernel_rfl : Qa6 Tryz.prog 210 0 0 3 1 = true) rd3 h
  obtain ⟨a1, h1⟩ := Qat (α := Call) (o := 1) (by kernel_rfl : Qa6 Tryz.prog 210 1 1 205 6 = true) Yh0 h
  have hl := Qhk Ylt Tryz.underlying210 h
  have e : cs = (cs.drop 0).take 7 := by rw [List.drop_zero, List.take_of_length_le (by omega)]
  refine ⟨⟨a0, a1⟩, ?_⟩
  rw [e]
  exact Qdp h0 h1
theorem Ymo : Reads Tryz.prog 103 (List Step) := Qhv Ymj (by kernel_rfl) Ymk
theorem Ymn : Reads Tryz.prog 105 Entry := by
  intro H enc W fuel cs x h
  obtain ⟨a0, h0⟩ := Qat (α := Int) (o := 0) (by kernel_rfl : Qa6 Tryz.prog 105 0 0 3 1 = true) rd3 h
  obtain ⟨a1, h1⟩ := Qat (α := Int) (o := 1) (by kernel_rfl : Qa6 Tryz.prog 105 1 1 3 1 = true) rd3 h
  obtain ⟨a2, h2⟩ := Qat (α := Int) (o := 2) (by kernel_rfl : Qa6 Tryz.prog 105 2 2 3 1 = true) rd3 h
  obtain ⟨a3, h3⟩ := Qat (α := List Step) (o := 3) (by kernel_rfl : Qa6 Tryz.prog 105 3 3 103 1 = true) Ymo h
  obtain ⟨a4, h4⟩ := Qat (α := List Answer) (o := 4) (by kernel_rfl : Qa6 Tryz.prog 105 4 4 95 1 = true) rd95 h
  obtain ⟨a5, h5⟩ := Qat (α := Int) (o := 5) (by kernel_rfl : Qa6 Tryz.prog 105 5 5 3 1 = true) rd3 h
  obtain ⟨a6, h6⟩ := Qat (α := Int) (o := 6) (by kernel_rfl : Qa6 Tryz.prog 105 6 6 3 1 = true) rd3 h
  obtain ⟨a7, h7⟩ := Qat (α := Bool) (o := 7) (by kernel_rfl : Qa6 Tryz.prog 105 7 7 4 1 = true) rd4 h
  have hl := Qhk Ylx Tryz.underlying105 h
  have e : cs = (cs.drop 0).take 8 := by rw [List.drop_zero, List.take_of_length_le (by omega)]
  refine ⟨⟨a0, a1, a2, a3, a4, a5, a6, a7⟩, ?_⟩
  rw [e]
  exact Qdp h0 (Qdp h1 (Qdp h2 (Qdp h3 (Qdp h4 (Qdp h5 (Qdp h6 h7))))))
theorem rd29 : Reads Tryz.prog 29 (List Entry) := Qhv sl29 (by kernel_rfl) Ymn
theorem rd32 : Reads Tryz.prog 32 Kernel := by
  intro H enc W fuel cs x h
  obtain ⟨a0, h0⟩ := Qat (α := List Cell) (o := 0) (by kernel_rfl : Qa6 Tryz.prog 32 0 0 22 1 = true) rd22 h
  obtain ⟨a1, h1⟩ := Qat (α := List Tx) (o := 1) (by kernel_rfl : Qa6 Tryz.prog 32 1 1 23 1 = true) rd23 h
  obtain ⟨a2, h2⟩ := Qat (α := Disk) (o := 2) (by kernel_rfl : Qa6 Tryz.prog 32 2 2 28 3 = true) rd28 h
  obtain ⟨a3, h3⟩ := Qat (α := Int) (o := 5) (by kernel_rfl : Qa6 Tryz.prog 32 3 5 3 1 = true) rd3 h
  obtain ⟨a4, h4⟩ := Qat (α := Int) (o := 6) (by kernel_rfl : Qa6 Tryz.prog 32 4 6 3 1 = true) rd3 h
  obtain ⟨a5, h5⟩ := Qat (α := Int) (o := 7) (by kernel_rfl : Qa6 Tryz.prog 32 5 7 3 1 = true) rd3 h
  obtain ⟨a6, h6⟩ := Qat (α := List Entry) (o := 8) (by kernel_rfl : Qa6 Tryz.prog 32 6 8 29 1 = true) rd29 h
  obtain ⟨a7, h7⟩ := Qat (α := List ByteArray) (o := 9) (by kernel_rfl : Qa6 Tryz.prog 32 7 9 30 1 = true) rd30 h
  obtain ⟨a8, h8⟩ := Qat (α := Bool) (o := 10) (by kernel_rfl : Qa6 Tryz.prog 32 8 10 4 1 = true) rd4 h
  have hl := Qhk Yn5 Tryz.underlying32 h
  have e : cs = (cs.drop 0).take 11 := by rw [List.drop_zero, List.take_of_length_le (by omega)]
  refine ⟨⟨a0, a1, a2, a3, a4, a5, a6, a7, a8⟩, ?_⟩
  rw [e]
  exact Qdp h0 (Qdp h1 (Qdp h2 (Qdp h3 (Qdp h4 (Qdp h5 (Qdp h6 (Qdp h7 h8)))))))

theorem Qn0 {c0 : List Value} (p0 : Kernel) (p1 : Int) {w : World} (hp0 : Dat.rd (Old w) w c0 p0) (hG6 : GV 6 (gl6.map (Value.int .u64)) w) (hG0 : GE 0 w) (hG4 : GE 4 w) (hG5 : GE 5 w) :
    Calls Tryz.prog 8 [.agg c0.toArray, .int .i64 p1].toArray w (fun e w' => e = .returned (.bool (Qga p0 p1)) ∧ Below w.heap.size w w') := (Qow p0 p1).close ⟨hG6, hG0, hG4, hG5⟩ ⟨⟨c0, rfl, hp0⟩, rfl, trivial⟩

theorem Qmw (p0 : Kernel) (p1 : Int) (hg0 : Dat.good p0) : Qga p0 p1 = true := by
  unfold Qga
  cases hs : decide ((Qg9 p0 1048576) < 0) with
  | true => rfl
  | false =>
    rw [Qo0, Q04 hg0.2.1, Qs4, decide_eq_true rfl]
    rfl

end Go.Proofs.YtppialklomgajaaGreatDoor.Fw

namespace Go.Proofs.YtppialklomgajaaGreatDoor.fnExactFallTwice
open Go.ChangeShapes Go.WideShapes Go.ChangeAt Go.RowKit Go.Proofs.YtppialklomgajaaGreatDoor.Fw
set_option linter.unusedVariables false

theorem own : ownKnob Tryz.prog.godebug = none := by kernel_rfl
theorem Q63 : laidOutB Tryz.prog = true := Ya2

/-- The witness: what the door has laid, and the pinned table beside it. -/
noncomputable def W0 (os : Os) : World := (World.doorLaid Tryz.prog 400 os).layVars Tryz.prog [("unicode/utf8.first", Pinned.utf8First)]
/-- 'laidMet' out of two closed facts, no place twice by a set of bits. -/
theorem Q5v {P : Program} {w : World} {l : List (String × DataW Unit)} (fuel M : Nat) (h : (DataW.laidRun P w fuel (l.map (·.1))).map (·.1) = some l)
    (hr : (DataW.laidRun P w fuel (l.map (·.1))).map (fun x => nodupBits M x.2 0 && laidRowsB P w x.2) = some true) : laidMet P l w := by
  cases hx : DataW.laidRun P w fuel (l.map (·.1)) with
  | none => simp [hx] at h
  | some x =>
    obtain ⟨l', ps⟩ := x
    simp only [hx, Option.map_some, Option.some.injEq] at h hr
    subst h
    simp only [Bool.and_eq_true] at hr
    exact laidMet_of_run fuel hx (decide_eq_true (nodupBits_sound hr.1).1) hr.2
theorem dm1 (os : Os) (args : Array Value) : (DataW.laidRun Tryz.prog ((W0 os).forCall (fun _ _ => 0) ⟨#[], args, []⟩).memory 8 ((Rows.fnExactFallTwiceRow.laid.filter fun x => x.2.handleName?.isNone).map (·.1))).map (·.1) = some (Rows.fnExactFallTwiceRow.laid.filter fun x => x.2.handleName?.isNone) := by kernel_rfl
theorem dm2 (os : Os) (args : Array Value) : (DataW.laidRun Tryz.prog ((W0 os).forCall (fun _ _ => 0) ⟨#[], args, []⟩).memory 8 ((Rows.fnExactFallTwiceRow.laid.filter fun x => x.2.handleName?.isNone).map (·.1))).map (fun x => nodupBits 512 x.2 0 && laidRowsB Tryz.prog ((W0 os).forCall (fun _ _ => 0) ⟨#[], args, []⟩).memory x.2) = some true := by kernel_rfl
theorem dm3 (os : Os) (args : Array Value) : (Rows.fnExactFallTwiceRow.laid.filter fun x => x.2.handleName?.isSome && x.2.funcsIn?.isNone).all (handleAtB Tryz.prog ((W0 os).forCall (fun _ _ => 0) ⟨#[], args, []⟩).memory) = true := by kernel_rfl
theorem dm4 (os : Os) (args : Array Value) : funcsRun Tryz.prog ((W0 os).forCall (fun _ _ => 0) ⟨#[], args, []⟩).memory 8 ((funcsListed Rows.fnExactFallTwiceRow.laid).map (·.1)) = some ((funcsListed Rows.fnExactFallTwiceRow.laid).map (·.2.funcsOut)) := by kernel_rfl
theorem Yeg (os : Os) (args : Array Value) : laidMetH Tryz.prog Rows.fnExactFallTwiceRow.laid ((W0 os).forCall (fun _ _ => 0) ⟨#[], args, []⟩).memory := laidMetH_of_parts3 (fuel := 8) (Q5v 8 512 (dm1 os args) (dm2 os args)) (dm3 os args) (dm4 os args)
set_option maxRecDepth 100000 in
theorem Ygw {W : World} (h : laidMetH Tryz.prog Rows.fnExactFallTwiceRow.laid W) : GV 7 (gl7.map (Value.int .u8)) W ∧ GV 8 (gl8.map (Value.int .u8)) W ∧ GV 6 (gl6.map (Value.int .u64)) W ∧ GE 5 W ∧ GE 4 W ∧ GE 0 W := by
  rw [MakeChecks.laidMetH_plain _ _ _ (by kernel_rfl)] at h
  obtain ⟨ps, ⟨g0, t0, cs0, f0, p0, q0, hg0, ht0, hv0, hd0, ⟨g1, t1, cs1, f1, p1, q1, hg1, ht1, hv1, hd1, ⟨g2, t2, cs2, f2, p2, q2, hg2, ht2, hv2, hd2, ⟨g3, t3, cs3, f3, p3, q3, hg3, ht3, hv3, hd3, ⟨g4, t4, cs4, f4, p4, q4, hg4, ht4, hv4, hd4, ⟨g5, t5, cs5, f5, p5, q5, hg5, ht5, hv5, hd5, ⟨g6, t6, cs6, f6, p6, q6, hg6, ht6, hv6, hd6, ⟨g7, t7, cs7, f7, p7, q7, hg7, ht7, hv7, hd7, _, _⟩, _⟩, _⟩, _⟩, _⟩, _⟩, _⟩, _⟩, _, _⟩ := h
  obtain rfl := Option.some.inj ((show Tryz.prog.globalNamed "math/bits.deBruijn32tab" = some 7 by kernel_rfl).symm.trans hg0)
  obtain rfl := Option.some.inj ((show (Tryz.prog.globals[7]?).map (·.type) = some 297 by kernel_rfl).symm.trans ht0)
  obtain rfl := Option.some.inj ((show Tryz.prog.globalNamed "math/bits.deBruijn64tab" = some 8 by kernel_rfl).symm.trans hg1)
  obtain rfl := Option.some.inj ((show (Tryz.prog.globals[8]?).map (·.type) = some 298 by kernel_rfl).symm.trans ht1)
  obtain rfl := Option.some.inj ((show Tryz.prog.globalNamed "internal/strconv.uint64pow10" = some 6 by kernel_rfl).symm.trans hg2)
  obtain rfl := Option.some.inj ((show (Tryz.prog.globals[6]?).map (·.type) = some 288 by kernel_rfl).symm.trans ht2)
  obtain rfl := Option.some.inj ((show Tryz.prog.globalNamed "strconv.ErrRange" = some 5 by kernel_rfl).symm.trans hg4)
  obtain rfl := Option.some.inj ((show (Tryz.prog.globals[5]?).map (·.type) = some 227 by kernel_rfl).symm.trans ht4)
  obtain rfl := Option.some.inj ((show Tryz.prog.globalNamed "strconv.ErrSyntax" = some 4 by kernel_rfl).symm.trans hg5)
  obtain rfl := Option.some.inj ((show (Tryz.prog.globals[4]?).map (·.type) = some 227 by kernel_rfl).symm.trans ht5)
  obtain rfl := Option.some.inj ((show Tryz.prog.globalNamed "encoding/hex.ErrLength" = some 0 by kernel_rfl).symm.trans hg6)
  obtain rfl := Option.some.inj ((show (Tryz.prog.globals[0]?).map (·.type) = some 227 by kernel_rfl).symm.trans ht6)
  exact ⟨Q7v (names := gl7) hg0 Tryz.underlying297 Tryz.underlying5 (by kernel_rfl) (by kernel_rfl) hv0 hd0, Q7v (names := gl8) hg1 Tryz.underlying298 Tryz.underlying5 (by kernel_rfl) (by kernel_rfl) hv1 hd1, Q7v (names := gl6) hg2 Tryz.underlying288 Tryz.underlying269 (by kernel_rfl) (by kernel_rfl) hv2 hd2, Q4f hg4 Tryz.underlying227 hv4 hd4, Q4f hg5 Tryz.underlying227 hv5 hd5, Q4f hg6 Tryz.underlying227 hv6 hd6⟩

set_option maxRecDepth 100000 in
theorem lifted (os : Os) (started : os.Started) (H : Type) (enc : TypeId × Value → H) :
    ReturnsInHanded {} Tryz.checked os 8 .any (fun w args => (Rows.fnExactFallTwiceSpec.pre enc Tryz.prog Tryz.f8 Rows.fnExactFallTwiceRow.domain false w args ∧ laidMetH Tryz.prog Rows.fnExactFallTwiceRow.laid w) ∧ sizedMet enc Tryz.prog Tryz.f8 (OpenSpec.ofChange Rows.fnExactFallTwiceSpec) false w args) (Rows.fnExactFallTwiceSpec.post enc Tryz.prog Tryz.f8 false true false false) := by
  refine returnsInHanded_of_change_and (C := Tryz.checked) (X := fun w _ => laidMetH Tryz.prog Rows.fnExactFallTwiceRow.laid w) (fun _ _ _ hh h => h.of_heap hh) own started (by kernel_rfl) Tryz.func8
    (ChangeSpec.witness_shaped (enc := enc) (C := Tryz.checked) (os := os) (X := fun w _ => laidMetH Tryz.prog Rows.fnExactFallTwiceRow.laid w) false (W0 os) #[.agg #[.slice none 0 0, .slice none 0 0, .slice none 0 0, .string ⟨#[]⟩, .int .i64 0, .int .i64 0, .int .i64 0, .int .i64 0, .slice none 0 0, .slice none 0 0, .bool false], .int .i64 0] 8 ((World.layVars_os _ _ _).trans rfl) (World.shaped_of_RefB (by kernel_rfl) (by kernel_rfl)) (by kernel_rfl) (by kernel_rfl) (by kernel_rfl) (Yeg os _)) ?_
  intro W base args ds gs before hval0 hW hcnd _ hL _
  have hval : ∀ (j : Nat) t v, Tryz.f8.params[j]? = some t → args[j]? = some v → Value.okWide Tryz.prog W .any base t v := hval0
  have hW' := hW
  obtain ⟨p, q, hA0, hV, rfl, hfz, hnd⟩ := hW
  have hA : DataW.TrodAll enc Tryz.prog W 0 (fun _ => true) true Tryz.f8.params.toList args.toList ds p := hA0
  rw [Tryz.params8] at hA hval
  obtain ⟨v0, vs0, d0, ds0, p0, q0, hargs, rfl, rfl, h0, r0⟩ := trodAll_cons hA
  obtain ⟨v1, vs1, d1, ds1, p1, q1, rfl, rfl, rfl, h1, r1⟩ := trodAll_cons r0
  obtain ⟨rfl, rfl, rfl⟩ := trodAll_nil r1
  obtain rfl : args = #[v0, v1] := by cases args; simp_all
  obtain rfl := Q4p hV
  obtain ⟨hG7, hG8, hG6, hG5, hG4, hG0⟩ := Ygw hL
  have k0 := h0
  have lt0 : ∀ x ∈ p0, x.block < W.heap.size := by obtain ⟨m, hm⟩ := k0; exact DataW.trod_lt m _ _ _ hm
  obtain ⟨cs0, rfl, _⟩ := okWide_struct Tryz.underlying32 (hval 0 32 v0 rfl rfl)
  obtain ⟨x0, hx0⟩ : ∃ x : Fw.Kernel, Dat.rd (Old W) W cs0.toList x := by
    obtain ⟨fuel, hf⟩ := h0
    exact rd32 hf
  have k1 := h1
  have lt1 : ∀ x ∈ p1, x.block < W.heap.size := by obtain ⟨m, hm⟩ := k1; exact DataW.trod_lt m _ _ _ hm
  obtain ⟨x1, rfl, _, _, w1⟩ := open_int Tryz.underlying3 (hval 1 3 v1 rfl rfl) h1
  have hc := Qn0 (w := W) x0 x1 hx0 hG6 hG0 hG4 hG5
  refine hc.mono fun e W' ⟨he, bel⟩ => ?_
  rw [Qmw x0 x1 (Dat.rd_good hx0)] at he
  subst he
  exact ⟨_, rfl, _, _, _, [], _, _, hW', trodAll_mk1 (shut_bool Tryz.underlying4 _), (trodAll_cons_mk (Below.trod Q63 (by kernel_rfl) (of_decide_eq_true (by kernel_rfl)) k0 bel lt0) (trodAll_cons_mk (Below.trod Q63 (by kernel_rfl) (of_decide_eq_true (by kernel_rfl)) k1 bel lt1) trodAll_mk0)), Q95 Q63 bel _ (by kernel_rfl) hV, bel.frame _, fun h => by cases h⟩

theorem over : Rows.fnExactFallTwiceRow.holds Tryz.pinned (OpenSpec.ofChange Rows.fnExactFallTwiceSpec) :=
  OpenClaim.holds_of_wide 8 Tryz.f8 rfl rfl rfl rfl rfl rfl rfl ⟨rfl, rfl, rfl, rfl, rfl⟩ rfl rfl rfl rfl rfl Yhp Tryz.func8 Ya3
    (of_decide_eq_true Ygg) (by unfold Func.isWrapper; first | (rw [if_pos (by decide +kernel)]; kernel_rfl) | (rw [if_neg (by decide +kernel)]; exact ⟨rfl, rfl⟩))
    (fun os started H enc _ => lifted os started H enc)

theorem card : Rows.FnExactFallTwiceCardSaid :=
  Claim7.holds_tied_plain_at .later [] [.data, .data, .data, .data, .sentinel, .sentinel, .sentinel, .pinned] true (true, "3638aa29f232df4f4c689a3fe87831ed1d4259a176221a98d5fd43055939d1d2") true
    over (fun _ h => by cases h) Yho (fun _ h => by cases h) fnExactFallTwice_row_tie rfl ⟨rfl, rfl⟩ Ygf rfl
    (fun f fn hf hfn => by
      obtain rfl : f = 8 := Option.some.inj ((show Tryz.prog.funcNamed "loop.example/g00974/laws.FnExactFallTwice" = some 8 from Yhp).symm.trans hf) |>.symm
      obtain rfl : fn = Tryz.f8 := (Option.some.inj (Tryz.func8.symm.trans hfn)).symm
      exact ⟨Yde, fun j t ht => by
        rw [Tryz.params8] at ht
        have hm : t ∈ [32, 3] := by simpa using Array.mem_of_getElem? ht
        have hall : ([32, 3].all fun u => !Tryz.prog.wantsStandIn u) = true := by kernel_rfl
        exact (show Tryz.prog.wantsStandIn t = false by simpa using List.all_eq_true.1 hall t hm)⟩)
    Ygh
end Go.Proofs.YtppialklomgajaaGreatDoor.fnExactFallTwice
namespace Go.Proofs.YtppialklomgajaaGreatDoor
/-- The statement. -/
theorem fnExactFallTwice_proved : Rows.FnExactFallTwiceCardSaid := fnExactFallTwice.card
#print axioms fnExactFallTwice_proved
end Go.Proofs.YtppialklomgajaaGreatDoor
