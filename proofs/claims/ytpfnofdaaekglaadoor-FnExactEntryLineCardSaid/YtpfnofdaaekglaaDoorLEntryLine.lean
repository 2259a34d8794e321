/- The law FnExactEntryLine: for every input it returns true, and what came in is as it was. No condition. By program (wip/gen). -/
import Derived.Test.YtpfnofdaaekglaaDoorPE
import Derived.Test.YtpfnofdaaekglaaDoorP1
import Derived.Test.YtpfnofdaaekglaaDoorCards
import Derived.Test.YtpfnofdaaekglaaDoorTie
import Derived.OpenShut
import Derived.ChangeOld
import Derived.ProofKit
import Derived.LaidMore
import Derived.Stop.Joined
import Derived.SevenTiedAt
namespace Go.Proofs.YtpfnofdaaekglaaDoor.Fw
open Go.RowKit
set_option linter.unusedVariables false
set_option linter.unusedSimpArgs false

theorem agg33 : chkAgg Tryd.prog 33 8 = true := by kernel_rfl
theorem fb15 : Tryd.f15.body.isNone = false := rfl
theorem fb16 : Tryd.f16.body.isNone = false := rfl
theorem fb17 : Tryd.f17.body.isNone = false := rfl
theorem fb18 : Tryd.f18.body.isNone = false := rfl
theorem fb19 : Tryd.f19.body.isNone = false := rfl
theorem fn15 : (Tryd.f15.name == "runtime.NumGoroutine") = false := by kernel_rfl
theorem fn16 : (Tryd.f16.name == "runtime.NumGoroutine") = false := by kernel_rfl
theorem fn17 : (Tryd.f17.name == "runtime.NumGoroutine") = false := by kernel_rfl
theorem fn18 : (Tryd.f18.name == "runtime.NumGoroutine") = false := by kernel_rfl
theorem fn19 : (Tryd.f19.name == "runtime.NumGoroutine") = false := by kernel_rfl

theorem rd3 : Reads Tryd.prog 3 Int := reads_int Tryd.underlying3
theorem rd9 : Reads Tryd.prog 9 ByteArray := reads_string Tryd.underlying9
theorem rd43 : Reads Tryd.prog 43 Call := by
  intro H enc W fuel cs x h
  obtain ⟨a0, h0⟩ := reads_field (α := Int) (o := 0) (by kernel_rfl : chkFieldT Tryd.prog 43 0 0 3 1 = true) rd3 h
  obtain ⟨a1, h1⟩ := reads_field (α := ByteArray) (o := 1) (by kernel_rfl : chkFieldT Tryd.prog 43 1 1 9 1 = true) rd9 h
  obtain ⟨a2, h2⟩ := reads_field (α := ByteArray) (o := 2) (by kernel_rfl : chkFieldT Tryd.prog 43 2 2 9 1 = true) rd9 h
  obtain ⟨a3, h3⟩ := reads_field (α := Int) (o := 3) (by kernel_rfl : chkFieldT Tryd.prog 43 3 3 3 1 = true) rd3 h
  obtain ⟨a4, h4⟩ := reads_field (α := Int) (o := 4) (by kernel_rfl : chkFieldT Tryd.prog 43 4 4 3 1 = true) rd3 h
  obtain ⟨a5, h5⟩ := reads_field (α := ByteArray) (o := 5) (by kernel_rfl : chkFieldT Tryd.prog 43 5 5 9 1 = true) rd9 h
  have hl := struct_len agg43 Tryd.underlying43 h
  have e : cs = (cs.drop 0).take 6 := by rw [List.drop_zero, List.take_of_length_le (by omega)]
  refine ⟨⟨a0, a1, a2, a3, a4, a5⟩, ?_⟩
  rw [e]
  exact rd_pair h0 (rd_pair h1 (rd_pair h2 (rd_pair h3 (rd_pair h4 h5))))
theorem rd121 : Reads Tryd.prog 121 Step := by
  intro H enc W fuel cs x h
  obtain ⟨a0, h0⟩ := reads_field (α := Int) (o := 0) (by kernel_rfl : chkFieldT Tryd.prog 121 0 0 3 1 = true) rd3 h
  obtain ⟨a1, h1⟩ := reads_field (α := Call) (o := 1) (by kernel_rfl : chkFieldT Tryd.prog 121 1 1 43 6 = true) rd43 h
  have hl := struct_len agg121 Tryd.underlying121 h
  have e : cs = (cs.drop 0).take 7 := by rw [List.drop_zero, List.take_of_length_le (by omega)]
  refine ⟨⟨a0, a1⟩, ?_⟩
  rw [e]
  exact rd_pair h0 h1
theorem rd30 : Reads Tryd.prog 30 (List Step) := reads_slice sl30 (by kernel_rfl) rd121
theorem rd124 : Reads Tryd.prog 124 Answer := by
  intro H enc W fuel cs x h
  obtain ⟨a0, h0⟩ := reads_field (α := Int) (o := 0) (by kernel_rfl : chkFieldT Tryd.prog 124 0 0 3 1 = true) rd3 h
  obtain ⟨a1, h1⟩ := reads_field (α := Int) (o := 1) (by kernel_rfl : chkFieldT Tryd.prog 124 1 1 3 1 = true) rd3 h
  obtain ⟨a2, h2⟩ := reads_field (α := ByteArray) (o := 2) (by kernel_rfl : chkFieldT Tryd.prog 124 2 2 9 1 = true) rd9 h
  have hl := struct_len agg124 Tryd.underlying124 h
  have e : cs = (cs.drop 0).take 3 := by rw [List.drop_zero, List.take_of_length_le (by omega)]
  refine ⟨⟨a0, a1, a2⟩, ?_⟩
  rw [e]
  exact rd_pair h0 (rd_pair h1 h2)
theorem rd31 : Reads Tryd.prog 31 (List Answer) := reads_slice sl31 (by kernel_rfl) rd124
theorem rd4 : Reads Tryd.prog 4 Bool := reads_bool Tryd.underlying4
theorem rd33 : Reads Tryd.prog 33 Entry := by
  intro H enc W fuel cs x h
  obtain ⟨a0, h0⟩ := reads_field (α := Int) (o := 0) (by kernel_rfl : chkFieldT Tryd.prog 33 0 0 3 1 = true) rd3 h
  obtain ⟨a1, h1⟩ := reads_field (α := Int) (o := 1) (by kernel_rfl : chkFieldT Tryd.prog 33 1 1 3 1 = true) rd3 h
  obtain ⟨a2, h2⟩ := reads_field (α := Int) (o := 2) (by kernel_rfl : chkFieldT Tryd.prog 33 2 2 3 1 = true) rd3 h
  obtain ⟨a3, h3⟩ := reads_field (α := List Step) (o := 3) (by kernel_rfl : chkFieldT Tryd.prog 33 3 3 30 1 = true) rd30 h
  obtain ⟨a4, h4⟩ := reads_field (α := List Answer) (o := 4) (by kernel_rfl : chkFieldT Tryd.prog 33 4 4 31 1 = true) rd31 h
  obtain ⟨a5, h5⟩ := reads_field (α := Int) (o := 5) (by kernel_rfl : chkFieldT Tryd.prog 33 5 5 3 1 = true) rd3 h
  obtain ⟨a6, h6⟩ := reads_field (α := Int) (o := 6) (by kernel_rfl : chkFieldT Tryd.prog 33 6 6 3 1 = true) rd3 h
  obtain ⟨a7, h7⟩ := reads_field (α := Bool) (o := 7) (by kernel_rfl : chkFieldT Tryd.prog 33 7 7 4 1 = true) rd4 h
  have hl := struct_len agg33 Tryd.underlying33 h
  have e : cs = (cs.drop 0).take 8 := by rw [List.drop_zero, List.take_of_length_le (by omega)]
  refine ⟨⟨a0, a1, a2, a3, a4, a5, a6, a7⟩, ?_⟩
  rw [e]
  exact rd_pair h0 (rd_pair h1 (rd_pair h2 (rd_pair h3 (rd_pair h4 (rd_pair h5 (rd_pair h6 h7))))))

def laws_FnExactEntryLine (p0 : Entry) : Bool := (if (decide ((laws_szEntry p0 1048576) < 0)) = true then true else (if (!decide ((impl_EntryLine (laws_toEntry p0)) = (spec_EntryLine (laws_toEntry p0)))) = true then false else (if (!(laws_eqEntry (laws_toEntry p0) (laws_toEntry p0))) = true then false else true)))
theorem c_laws_FnExactEntryLine {c0 : List Value} (p0 : Entry) {w : World} (hp0 : Dat.rd (Old w) w c0 p0) (hG3 : GV 3 (gl3.map (Value.int .u64)) w) :
    Calls Tryd.prog 5 [.agg c0.toArray].toArray w (fun e w' => e = .returned (.bool (laws_FnExactEntryLine p0)) ∧ Below w.heap.size w w') := by
  obtain ⟨v90000_3, v90000_4, rfl, hg90000_0, hg90000_1, hg90000_2, hv90000_3, hv90000_4, hg90000_5, hg90000_6, _⟩ := Entry_open hp0
  obtain ⟨A90000_3, cp90000_3, rfl, hx90000_3⟩ := hv90000_3.form
  obtain ⟨A90000_4, cp90000_4, rfl, hx90000_4⟩ := hv90000_4.form
  refine enter Tryd.func5 rfl Tryd.ntmps5 (Nat.le_of_ble_eq_true rfl) ?_
  intro a0 hE0
  have hS0 := SH.start w
  have hM := laws_FnExactEntryLine.eq_1 p0
  have hgd0 : Dat.good p0 := Dat.rd_good hp0
  refine wp_seq (wp_region_lit ?_)
  refine st_box hE0 hS0 rfl rfl rfl fun b1 w1 hS1 a2 hE2 => st_val hE2 (y_assign hE2 rfl) rfl fun a3 hE3 => wpList_nil ?_
  clear hE0 hE2
  clear a0 a2
  refine then_normal ?_
  refine wp_seq (wp_region_lit ?_)
  refine st_val hE3 (y_assign hE3 rfl) rfl fun a4 hE4 => wpList_nil ?_
  clear hE3
  clear a3
  refine then_normal ?_
  refine wp_seq (wp_region_lit ?_)
  refine st_val hE4 (y_load_agg hE4 rfl (hS1.cells (k := 0) rfl) rfl rfl agg33) rfl fun a5 hE5 => st_val hE5 (y_move hE5 rfl) rfl fun a6 hE6 => st_callF hE6 hS1 Tryd.func15 fb15 fn15 (c_laws_szEntry p0 1048576 (hS1.upd hp0)) rfl rfl fun w7 hS7 a8 hE8 => st_val hE8 (y_assign hE8 rfl) rfl fun a9 hE9 => wpList_nil ?_
  clear hE4 hE5 hE6 hE8
  clear a4 a5 a6 a8
  refine then_normal ?_
  refine wp_seq (wp_seq (wp_region_lit ?_))
  refine st_val hE9 (y_move hE9 rfl) rfl fun a10 hE10 => st_val hE10 (y_lss hE10 rfl rfl) rfl fun a11 hE11 => wpList_nil ?_
  clear hE9 hE10
  clear a9 a10
  refine then_normal ?_
  refine cond_split hE11 rfl (fun hb12 => ?_) (fun hb12 => ?_)
  ·
    have hM := hM.trans (if_t hb12)
    have hb12f : (laws_szEntry p0 1048576) < 0 := of_decide_eq_true hb12
    refine wp_seq (wp_region_lit ?_)
    refine st_val hE11 (y_assign hE11 rfl) rfl fun a13 hE13 => wpList_nil ?_
    clear hE11
    clear a11
    refine then_normal ?_
    refine wp_ret ?_
    refine then_ret ?_
    exact fin1 hE13 rfl rfl ⟨by rw [hM], hS7.below⟩
  ·
    have hM := hM.trans (if_f hb12)
    have hb12f : ¬ ((laws_szEntry p0 1048576) < 0) := of_decide_eq_false hb12
    obtain ⟨hsm0, hle0, hle0_⟩ := laws_szEntry_small p0 1048576 (by omega) (by omega) hgd0 hb12f
    refine wp_skip ?_
    refine then_normal ?_
    refine wp_seq (wp_region_lit ?_)
    refine st_val hE11 (y_load_agg hE11 rfl (hS7.cells (k := 0) rfl) rfl rfl agg33) rfl fun a14 hE14 => st_callO (mk := fun cs => .agg cs.toArray) hE14 hS7 Tryd.func17 fb17 fn17 (c_laws_toEntry p0 (hS7.upd hp0) hsm0) rfl rfl fun cs15 F15 w15 hS15 a16 hE16 => st_callF hE16 hS15 Tryd.func16 fb16 fn16 (c_spec_EntryLine (laws_toEntry p0) (hS15.ownd (k := 0) rfl)) rfl rfl fun w17 hS17 a18 hE18 => st_val hE18 (y_assign hE18 rfl) rfl fun a19 hE19 => wpList_nil ?_
    clear hE11 hE14 hE16 hE18
    clear a11 a14 a16 a18
    refine then_normal ?_
    refine wp_seq (wp_region_lit ?_)
    refine st_val hE19 (y_load_agg hE19 rfl (hS17.cells (k := 1) rfl) rfl rfl agg33) rfl fun a20 hE20 => st_callO (mk := fun cs => .agg cs.toArray) hE20 hS17 Tryd.func17 fb17 fn17 (c_laws_toEntry p0 (hS17.upd hp0) hsm0) rfl rfl fun cs21 F21 w21 hS21 a22 hE22 => st_alloc hE22 hS21 Tryd.zeroValue39 rfl rfl fun b23 w23 hS23 a24 hE24 => st_store hE24 hS23 cs21 rfl rfl (k := 0) rfl rfl (chkAgg_size agg39) (hS23.lenO (k := 1) rfl) rfl (hS23.oneO' (k := 1) rfl) (by simp) fun w25 (hS25 : SH (Old w) w w25 [Ck.var b23 cs21 39, Ck.own (α := Entry) cs21 (laws_toEntry p0) F21, Ck.own (α := Entry) cs15 (laws_toEntry p0) F15, Ck.var b1 [.int .i64 p0.Seq, .int .i64 p0.Kind, .int .i64 p0.Tx, .slice A90000_3 p0.Steps.length cp90000_3, .slice A90000_4 p0.Answers.length cp90000_4, .int .i64 p0.Began, .int .i64 p0.Ended, .bool p0.Laid] 33]) a26 hE26 => wpList_nil ?_
    clear hE19 hE20 hE22 hE24
    clear a19 a20 a22 a24
    refine then_normal ?_
    refine wp_seq (wp_region_lit ?_)
    refine st_val hE26 (y_load_whole hE26 rfl (hS25.cells (k := 0) rfl) (hS25.lenO (k := 1) rfl) agg39) rfl fun a27 hE27 => st_callF hE27 hS25 Tryd.func18 fb18 fn18 (c_impl_EntryLine (laws_toEntry p0) (hS25.ownd (k := 1) rfl) (GV.sh hS25 hG3)) rfl rfl fun w28 hS28 a29 hE29 => st_val hE29 (y_assign hE29 rfl) rfl fun a30 hE30 => wpList_nil ?_
    clear hE26 hE27 hE29
    clear a26 a27 a29
    refine then_normal ?_
    refine wp_seq (wp_seq (wp_region_lit ?_))
    refine st_val hE30 (y_move hE30 rfl) rfl fun a31 hE31 => st_val hE31 (y_move hE31 rfl) rfl fun a32 hE32 => st_val hE32 (y_neq_string hE32 rfl rfl) rfl fun a33 hE33 => wpList_nil ?_
    clear hE30 hE31 hE32
    clear a30 a31 a32
    refine then_normal ?_
    refine cond_split hE33 rfl (fun hb34 => ?_) (fun hb34 => ?_)
    ·
      have hM := hM.trans (if_t hb34)
      refine wp_seq (wp_region_lit ?_)
      refine st_val hE33 (y_assign hE33 rfl) rfl fun a35 hE35 => wpList_nil ?_
      clear hE33
      clear a33
      refine then_normal ?_
      refine wp_ret ?_
      refine then_ret ?_
      exact fin1 hE35 rfl rfl ⟨by rw [hM], hS28.below⟩
    ·
      have hM := hM.trans (if_f hb34)
      refine wp_skip ?_
      refine then_normal ?_
      have hS36 := hS28.drew
      refine wp_seq (wp_seq (reg_held 5 rfl (fun w2 => SH (Old w) w w2 [Ck.var b23 cs21 39, Ck.own (α := Entry) cs21 (laws_toEntry p0) F21, Ck.own (α := Entry) cs15 (laws_toEntry p0) F15, Ck.var b1 [.int .i64 p0.Seq, .int .i64 p0.Kind, .int .i64 p0.Tx, .slice A90000_3 p0.Steps.length cp90000_3, .slice A90000_4 p0.Answers.length cp90000_4, .int .i64 p0.Began, .int .i64 p0.Ended, .bool p0.Laid] 33]) mixed ?_))
      refine h_take 0 rfl (by kernel_rfl) hE33 (fun wh37 hh37 => y_load_whole hE33 rfl (hh37.cells (k := 0) rfl) (hh37.lenO (k := 1) rfl) agg39) hS36 rfl fun a38 hE38 => h_only 1 rfl (by kernel_rfl) <| st_val hE38 (y_load_agg hE38 rfl (hS36.cells (k := 3) rfl) rfl rfl agg33) rfl fun a39 hE39 => ?_
      refine wpList_nil ⟨rfl, hS36, ?_⟩
      refine h_only 2 rfl (by kernel_rfl) <| st_callO (mk := fun cs => .agg cs.toArray) hE39 hS36 Tryd.func17 fb17 fn17 (c_laws_toEntry p0 (hS36.upd hp0) hsm0) rfl rfl fun cs40 F40 w40 hS40 a41 hE41 => ?_
      refine wpList_nil ⟨rfl, hS40.drop (k := 1), ?_⟩
      refine h_only 3 rfl (by kernel_rfl) <| st_callF hE41 hS40 Tryd.func19 fb19 fn19 (c_laws_eqEntry (laws_toEntry p0) (laws_toEntry p0) (hS40.ownd (k := 2) rfl) (hS40.ownd (k := 0) rfl)) rfl rfl fun w42 hS42 a43 hE43 => ?_
      refine wpList_nil ⟨rfl, hS42.drop (k := 1), ?_⟩
      refine h_only 4 rfl (by kernel_rfl) <| st_val hE43 (y_not hE43 rfl) rfl fun a44 hE44 => ?_
      refine wpList_nil ⟨rfl, hS42.drop (k := 1), ?_⟩
      refine h_end (by kernel_rfl) ?_
      clear hE33 hE38 hE39 hE41 hE43
      clear a33 a38 a39 a41 a43
      refine then_normal ?_
      refine cond_split hE44 rfl (fun hb45 => ?_) (fun hb45 => ?_)
      ·
        have hM := hM.trans (if_t hb45)
        refine wp_seq (wp_region_lit ?_)
        refine st_val hE44 (y_assign hE44 rfl) rfl fun a46 hE46 => wpList_nil ?_
        clear hE44
        clear a44
        refine then_normal ?_
        refine wp_ret ?_
        refine then_ret ?_
        exact fin1 hE46 rfl rfl ⟨by rw [hM], hS42.below⟩
      ·
        have hM := hM.trans (if_f hb45)
        refine wp_skip ?_
        refine then_normal ?_
        refine wp_seq (wp_region_lit ?_)
        refine st_val hE44 (y_assign hE44 rfl) rfl fun a47 hE47 => wpList_nil ?_
        clear hE44
        clear a44
        refine then_normal ?_
        refine wp_ret ?_
        exact fin1 hE47 rfl rfl ⟨by rw [hM], hS42.below⟩


theorem laws_FnExactEntryLine_true (p0 : Entry) (hg0 : Dat.good p0) : laws_FnExactEntryLine p0 = true := by
  unfold laws_FnExactEntryLine
  simp [EntryLine_twin hg0]

end Go.Proofs.YtpfnofdaaekglaaDoor.Fw

namespace Go.Proofs.YtpfnofdaaekglaaDoor.fnExactEntryLine
open Go.ChangeShapes Go.WideShapes Go.ChangeAt Go.RowKit Go.Proofs.YtpfnofdaaekglaaDoor.Fw
set_option linter.unusedVariables false

theorem own : ownKnob Tryd.prog.godebug = none := by kernel_rfl
theorem laidOut : laidOutB Tryd.prog = true := by kernel_rfl

theorem door_met (os : Os) (args : Array Value) : laidMetH Tryd.prog Rows.fnExactEntryLineRow.laid ((World.doorLaid Tryd.prog 400 os).forCall (fun _ _ => 0) ⟨#[], args, []⟩).memory :=
  laidMetH_of_parts3 (fuel := 8) (laidMet_of_run' 8 (by kernel_rfl) (by kernel_rfl)) (by kernel_rfl) (by kernel_rfl)
theorem of_laid {W : World} (h : laidMetH Tryd.prog Rows.fnExactEntryLineRow.laid W) : GV 4 (gl4.map (Value.int .u8)) W ∧ GV 5 (gl5.map (Value.int .u8)) W ∧ GV 3 (gl3.map (Value.int .u64)) W := by
  rw [MakeChecks.laidMetH_plain _ _ _ (by kernel_rfl)] at h
  obtain ⟨ps, ⟨g0, t0, cs0, f0, p0, q0, hg0, ht0, hv0, hd0, ⟨g1, t1, cs1, f1, p1, q1, hg1, ht1, hv1, hd1, ⟨g2, t2, cs2, f2, p2, q2, hg2, ht2, hv2, hd2, _, _⟩, _⟩, _⟩, _, _⟩ := h
  obtain rfl := Option.some.inj ((show Tryd.prog.globalNamed "math/bits.deBruijn32tab" = some 4 by kernel_rfl).symm.trans hg0)
  obtain rfl := Option.some.inj ((show (Tryd.prog.globals[4]?).map (·.type) = some 165 by kernel_rfl).symm.trans ht0)
  obtain rfl := Option.some.inj ((show Tryd.prog.globalNamed "math/bits.deBruijn64tab" = some 5 by kernel_rfl).symm.trans hg1)
  obtain rfl := Option.some.inj ((show (Tryd.prog.globals[5]?).map (·.type) = some 166 by kernel_rfl).symm.trans ht1)
  obtain rfl := Option.some.inj ((show Tryd.prog.globalNamed "internal/strconv.uint64pow10" = some 3 by kernel_rfl).symm.trans hg2)
  obtain rfl := Option.some.inj ((show (Tryd.prog.globals[3]?).map (·.type) = some 160 by kernel_rfl).symm.trans ht2)
  exact ⟨GV_ints (names := gl4) hg0 Tryd.underlying165 Tryd.underlying5 (by kernel_rfl) (by kernel_rfl) hv0 hd0, GV_ints (names := gl5) hg1 Tryd.underlying166 Tryd.underlying5 (by kernel_rfl) (by kernel_rfl) hv1 hd1, GV_ints (names := gl3) hg2 Tryd.underlying160 Tryd.underlying154 (by kernel_rfl) (by kernel_rfl) hv2 hd2⟩

set_option maxRecDepth 100000 in
theorem lifted (os : Os) (started : os.Started) (H : Type) (enc : TypeId × Value → H) :
    ReturnsInHanded {} Tryd.checked os 5 .any (fun w args => (Rows.fnExactEntryLineSpec.pre enc Tryd.prog Tryd.f5 Rows.fnExactEntryLineRow.domain false w args ∧ laidMetH Tryd.prog Rows.fnExactEntryLineRow.laid w) ∧ sizedMet enc Tryd.prog Tryd.f5 (OpenSpec.ofChange Rows.fnExactEntryLineSpec) false w args) (Rows.fnExactEntryLineSpec.post enc Tryd.prog Tryd.f5 false true false false) := by
  refine returnsInHanded_of_change_and (C := Tryd.checked) (X := fun w _ => laidMetH Tryd.prog Rows.fnExactEntryLineRow.laid w) (fun _ _ _ hh h => h.of_heap hh) own started (by kernel_rfl) Tryd.func5
    (ChangeSpec.witness_shaped (enc := enc) (C := Tryd.checked) (os := os) (X := fun w _ => laidMetH Tryd.prog Rows.fnExactEntryLineRow.laid w) false (World.doorLaid Tryd.prog 400 os) #[.agg #[.int .i64 0, .int .i64 0, .int .i64 0, .slice none 0 0, .slice none 0 0, .int .i64 0, .int .i64 0, .bool false]] 8 rfl (World.shaped_of_RefB (by kernel_rfl) (by kernel_rfl)) (by kernel_rfl) (by kernel_rfl) (by kernel_rfl) (door_met os _)) ?_
  intro W base args ds gs before hval0 hW hcnd _ hL _
  have hval : ∀ (j : Nat) t v, Tryd.f5.params[j]? = some t → args[j]? = some v → Value.okWide Tryd.prog W .any base t v := hval0
  have hW' := hW
  obtain ⟨p, q, hA0, hV, rfl, hfz, hnd⟩ := hW
  have hA : DataW.TrodAll enc Tryd.prog W 0 (fun _ => true) true Tryd.f5.params.toList args.toList ds p := hA0
  rw [Tryd.params5] at hA hval
  obtain ⟨v0, vs0, d0, ds0, p0, q0, hargs, rfl, rfl, h0, r0⟩ := trodAll_cons hA
  obtain ⟨rfl, rfl, rfl⟩ := trodAll_nil r0
  obtain rfl : args = #[v0] := by cases args; simp_all
  obtain rfl := trodVars_end hV
  obtain ⟨hG4, hG5, hG3⟩ := of_laid hL
  have k0 := h0
  have lt0 : ∀ x ∈ p0, x.block < W.heap.size := by obtain ⟨m, hm⟩ := k0; exact DataW.trod_lt m _ _ _ hm
  obtain ⟨cs0, rfl, _⟩ := okWide_struct Tryd.underlying33 (hval 0 33 v0 rfl rfl)
  obtain ⟨x0, hx0⟩ : ∃ x : Entry, Dat.rd (Old W) W cs0.toList x := by
    obtain ⟨fuel, hf⟩ := h0
    exact rd33 hf
  have hc := c_laws_FnExactEntryLine (w := W) x0 hx0 hG3
  refine hc.mono fun e W' ⟨he, bel⟩ => ?_
  rw [laws_FnExactEntryLine_true x0 (Dat.rd_good hx0)] at he
  subst he
  exact ⟨_, rfl, _, _, _, [], _, _, hW', trodAll_mk1 (shut_bool Tryd.underlying4 _), (trodAll_cons_mk (Below.trod laidOut (by kernel_rfl) (of_decide_eq_true (by kernel_rfl)) k0 bel lt0) trodAll_mk0), vars_below laidOut bel _ (by kernel_rfl) hV, bel.frame _, fun h => by cases h⟩

theorem over : Rows.fnExactEntryLineRow.holds Tryd.pinned (OpenSpec.ofChange Rows.fnExactEntryLineSpec) :=
  OpenClaim.holds_of_wide 5 Tryd.f5 rfl rfl rfl rfl rfl rfl rfl ⟨rfl, rfl, rfl, rfl, rfl⟩ rfl rfl rfl rfl rfl (by kernel_rfl) Tryd.func5 (by kernel_rfl)
    (of_decide_eq_true (by kernel_rfl)) (by unfold Func.isWrapper; first | (rw [if_pos (by decide +kernel)]; kernel_rfl) | (rw [if_neg (by decide +kernel)]; exact ⟨rfl, rfl⟩))
    (fun os started H enc _ => lifted os started H enc)

theorem card : Rows.FnExactEntryLineCardSaid :=
  Claim7.holds_tied_plain_at .later [] [.data, .data, .data] true (true, "ced246f210c11f613587500ac62ce721159eb83655c7454f67a98e7be25ea8d5") false
    over (fun _ h => by cases h) (by kernel_rfl) (fun _ h => by cases h) fnExactEntryLine_row_tie rfl ⟨rfl, rfl⟩ (by kernel_rfl) rfl
    (fun f fn hf hfn => by
      obtain rfl : f = 5 := Option.some.inj ((show Tryd.prog.funcNamed "loop.example/g00974/laws.FnExactEntryLine" = some 5 by kernel_rfl).symm.trans hf) |>.symm
      obtain rfl : fn = Tryd.f5 := (Option.some.inj (Tryd.func5.symm.trans hfn)).symm
      exact ⟨by kernel_rfl, fun j t ht => by
        rw [Tryd.params5] at ht
        have hm : t ∈ [33] := by simpa using Array.mem_of_getElem? ht
        have hall : ([33].all fun u => !Tryd.prog.wantsStandIn u) = true := by kernel_rfl
        exact (show Tryd.prog.wantsStandIn t = false by simpa using List.all_eq_true.1 hall t hm)⟩)
    (by kernel_rfl)
end Go.Proofs.YtpfnofdaaekglaaDoor.fnExactEntryLine
namespace Go.Proofs.YtpfnofdaaekglaaDoor
/-- The statement. -/
theorem fnExactEntryLine_proved : Rows.FnExactEntryLineCardSaid := fnExactEntryLine.card
#print axioms fnExactEntryLine_proved
end Go.Proofs.YtpfnofdaaekglaaDoor
