/- The law FnExactTxLine: for every input it returns true, and what came in is as it was. No condition. By program (wip/gen). -/
import Derived.Test.YtpfnofdaaekglaaDoorPT
import Derived.Test.YtpfnofdaaekglaaDoorP5
import Derived.Test.YtpfnofdaaekglaaDoorCards
import Derived.Test.YtpfnofdaaekglaaDoorTie
import Derived.OpenShut
import Derived.ChangeOld
import Derived.ProofKit
import Derived.LaidMore
import Derived.Stop.Joined
import Derived.SevenTiedAt
namespace Go.Proofs.YtpfnofdaaekglaaDoor.Fw
open Go.RowKit
set_option linter.unusedVariables false
set_option linter.unusedSimpArgs false

theorem agg71 : chkAgg Tryd.prog 71 10 = true := by kernel_rfl
theorem fb36 : Tryd.f36.body.isNone = false := rfl
theorem fb37 : Tryd.f37.body.isNone = false := rfl
theorem fb38 : Tryd.f38.body.isNone = false := rfl
theorem fb39 : Tryd.f39.body.isNone = false := rfl
theorem fb40 : Tryd.f40.body.isNone = false := rfl
theorem fn36 : (Tryd.f36.name == "runtime.NumGoroutine") = false := by kernel_rfl
theorem fn37 : (Tryd.f37.name == "runtime.NumGoroutine") = false := by kernel_rfl
theorem fn38 : (Tryd.f38.name == "runtime.NumGoroutine") = false := by kernel_rfl
theorem fn39 : (Tryd.f39.name == "runtime.NumGoroutine") = false := by kernel_rfl
theorem fn40 : (Tryd.f40.name == "runtime.NumGoroutine") = false := by kernel_rfl

theorem rd3 : Reads Tryd.prog 3 Int := reads_int Tryd.underlying3
theorem rd9 : Reads Tryd.prog 9 ByteArray := reads_string Tryd.underlying9
theorem rd43 : Reads Tryd.prog 43 Call := by
  intro H enc W fuel cs x h
  obtain ⟨a0, h0⟩ := reads_field (α := Int) (o := 0) (by kernel_rfl : chkFieldT Tryd.prog 43 0 0 3 1 = true) rd3 h
  obtain ⟨a1, h1⟩ := reads_field (α := ByteArray) (o := 1) (by kernel_rfl : chkFieldT Tryd.prog 43 1 1 9 1 = true) rd9 h
  obtain ⟨a2, h2⟩ := reads_field (α := ByteArray) (o := 2) (by kernel_rfl : chkFieldT Tryd.prog 43 2 2 9 1 = true) rd9 h
  obtain ⟨a3, h3⟩ := reads_field (α := Int) (o := 3) (by kernel_rfl : chkFieldT Tryd.prog 43 3 3 3 1 = true) rd3 h
  obtain ⟨a4, h4⟩ := reads_field (α := Int) (o := 4) (by kernel_rfl : chkFieldT Tryd.prog 43 4 4 3 1 = true) rd3 h
  obtain ⟨a5, h5⟩ := reads_field (α := ByteArray) (o := 5) (by kernel_rfl : chkFieldT Tryd.prog 43 5 5 9 1 = true) rd9 h
  have hl := struct_len agg43 Tryd.underlying43 h
  have e : cs = (cs.drop 0).take 6 := by rw [List.drop_zero, List.take_of_length_le (by omega)]
  refine ⟨⟨a0, a1, a2, a3, a4, a5⟩, ?_⟩
  rw [e]
  exact rd_pair h0 (rd_pair h1 (rd_pair h2 (rd_pair h3 (rd_pair h4 h5))))
theorem rd66 : Reads Tryd.prog 66 (List Call) := reads_slice sl66 (by kernel_rfl) rd43
theorem rd124 : Reads Tryd.prog 124 Answer := by
  intro H enc W fuel cs x h
  obtain ⟨a0, h0⟩ := reads_field (α := Int) (o := 0) (by kernel_rfl : chkFieldT Tryd.prog 124 0 0 3 1 = true) rd3 h
  obtain ⟨a1, h1⟩ := reads_field (α := Int) (o := 1) (by kernel_rfl : chkFieldT Tryd.prog 124 1 1 3 1 = true) rd3 h
  obtain ⟨a2, h2⟩ := reads_field (α := ByteArray) (o := 2) (by kernel_rfl : chkFieldT Tryd.prog 124 2 2 9 1 = true) rd9 h
  have hl := struct_len agg124 Tryd.underlying124 h
  have e : cs = (cs.drop 0).take 3 := by rw [List.drop_zero, List.take_of_length_le (by omega)]
  refine ⟨⟨a0, a1, a2⟩, ?_⟩
  rw [e]
  exact rd_pair h0 (rd_pair h1 h2)
theorem rd31 : Reads Tryd.prog 31 (List Answer) := reads_slice sl31 (by kernel_rfl) rd124
theorem rd57 : Reads Tryd.prog 57 (List ByteArray) := reads_slice sl57 (by kernel_rfl) rd9
theorem rd68 : Reads Tryd.prog 68 Touch := by
  intro H enc W fuel cs x h
  obtain ⟨a0, h0⟩ := reads_field (α := List ByteArray) (o := 0) (by kernel_rfl : chkFieldT Tryd.prog 68 0 0 57 1 = true) rd57 h
  obtain ⟨a1, h1⟩ := reads_field (α := List ByteArray) (o := 1) (by kernel_rfl : chkFieldT Tryd.prog 68 1 1 57 1 = true) rd57 h
  have hl := struct_len agg68 Tryd.underlying68 h
  have e : cs = (cs.drop 0).take 2 := by rw [List.drop_zero, List.take_of_length_le (by omega)]
  refine ⟨⟨a0, a1⟩, ?_⟩
  rw [e]
  exact rd_pair h0 h1
theorem rd69 : Reads Tryd.prog 69 (List Int) := reads_slice sl69 (by kernel_rfl) rd3
theorem rd71 : Reads Tryd.prog 71 Tx := by
  intro H enc W fuel cs x h
  obtain ⟨a0, h0⟩ := reads_field (α := Int) (o := 0) (by kernel_rfl : chkFieldT Tryd.prog 71 0 0 3 1 = true) rd3 h
  obtain ⟨a1, h1⟩ := reads_field (α := Int) (o := 1) (by kernel_rfl : chkFieldT Tryd.prog 71 1 1 3 1 = true) rd3 h
  obtain ⟨a2, h2⟩ := reads_field (α := Int) (o := 2) (by kernel_rfl : chkFieldT Tryd.prog 71 2 2 3 1 = true) rd3 h
  obtain ⟨a3, h3⟩ := reads_field (α := Int) (o := 3) (by kernel_rfl : chkFieldT Tryd.prog 71 3 3 3 1 = true) rd3 h
  obtain ⟨a4, h4⟩ := reads_field (α := List Call) (o := 4) (by kernel_rfl : chkFieldT Tryd.prog 71 4 4 66 1 = true) rd66 h
  obtain ⟨a5, h5⟩ := reads_field (α := List Answer) (o := 5) (by kernel_rfl : chkFieldT Tryd.prog 71 5 5 31 1 = true) rd31 h
  obtain ⟨a6, h6⟩ := reads_field (α := Touch) (o := 6) (by kernel_rfl : chkFieldT Tryd.prog 71 6 6 68 2 = true) rd68 h
  obtain ⟨a7, h7⟩ := reads_field (α := List Int) (o := 8) (by kernel_rfl : chkFieldT Tryd.prog 71 7 8 69 1 = true) rd69 h
  obtain ⟨a8, h8⟩ := reads_field (α := Int) (o := 9) (by kernel_rfl : chkFieldT Tryd.prog 71 8 9 3 1 = true) rd3 h
  have hl := struct_len agg71 Tryd.underlying71 h
  have e : cs = (cs.drop 0).take 10 := by rw [List.drop_zero, List.take_of_length_le (by omega)]
  refine ⟨⟨a0, a1, a2, a3, a4, a5, a6, a7, a8⟩, ?_⟩
  rw [e]
  exact rd_pair h0 (rd_pair h1 (rd_pair h2 (rd_pair h3 (rd_pair h4 (rd_pair h5 (rd_pair h6 (rd_pair h7 h8)))))))

def laws_FnExactTxLine (p0 : Tx) : Bool := (if (decide ((laws_szTx p0 1048576) < 0)) = true then true else (if (!decide ((impl_TxLine (laws_toTx p0)) = (spec_TxLine (laws_toTx p0)))) = true then false else (if (!(laws_eqTx (laws_toTx p0) (laws_toTx p0))) = true then false else true)))
theorem c_laws_FnExactTxLine {c0 : List Value} (p0 : Tx) {w : World} (hp0 : Dat.rd (Old w) w c0 p0) (hG3 : GV 3 (gl3.map (Value.int .u64)) w) :
    Calls Tryd.prog 9 [.agg c0.toArray].toArray w (fun e w' => e = .returned (.bool (laws_FnExactTxLine p0)) ∧ Below w.heap.size w w') := by
  obtain ⟨v90000_4, v90000_5, v90000_6, v90000_7, v90000_8, rfl, hg90000_0, hg90000_1, hg90000_2, hg90000_3, hv90000_4, hv90000_5, hv90000_6, hv90000_7, hv90000_8, hg90000_9, _⟩ := Tx_open hp0
  obtain ⟨A90000_4, cp90000_4, rfl, hx90000_4⟩ := hv90000_4.form
  obtain ⟨A90000_5, cp90000_5, rfl, hx90000_5⟩ := hv90000_5.form
  obtain ⟨A90000_6, cp90000_6, rfl, hx90000_6⟩ := hv90000_6.form
  obtain ⟨A90000_7, cp90000_7, rfl, hx90000_7⟩ := hv90000_7.form
  obtain ⟨A90000_8, cp90000_8, rfl, hx90000_8⟩ := hv90000_8.form
  refine enter Tryd.func9 rfl Tryd.ntmps9 (Nat.le_of_ble_eq_true rfl) ?_
  intro a0 hE0
  have hS0 := SH.start w
  have hM := laws_FnExactTxLine.eq_1 p0
  have hgd0 : Dat.good p0 := Dat.rd_good hp0
  refine wp_seq (wp_region_lit ?_)
  refine st_box hE0 hS0 rfl rfl rfl fun b1 w1 hS1 a2 hE2 => st_val hE2 (y_assign hE2 rfl) rfl fun a3 hE3 => wpList_nil ?_
  clear hE0 hE2
  clear a0 a2
  refine then_normal ?_
  refine wp_seq (wp_region_lit ?_)
  refine st_val hE3 (y_assign hE3 rfl) rfl fun a4 hE4 => wpList_nil ?_
  clear hE3
  clear a3
  refine then_normal ?_
  refine wp_seq (wp_region_lit ?_)
  refine st_val hE4 (y_load_agg hE4 rfl (hS1.cells (k := 0) rfl) rfl rfl agg71) rfl fun a5 hE5 => st_val hE5 (y_move hE5 rfl) rfl fun a6 hE6 => st_callF hE6 hS1 Tryd.func36 fb36 fn36 (c_laws_szTx p0 1048576 (hS1.upd hp0)) rfl rfl fun w7 hS7 a8 hE8 => st_val hE8 (y_assign hE8 rfl) rfl fun a9 hE9 => wpList_nil ?_
  clear hE4 hE5 hE6 hE8
  clear a4 a5 a6 a8
  refine then_normal ?_
  refine wp_seq (wp_seq (wp_region_lit ?_))
  refine st_val hE9 (y_move hE9 rfl) rfl fun a10 hE10 => st_val hE10 (y_lss hE10 rfl rfl) rfl fun a11 hE11 => wpList_nil ?_
  clear hE9 hE10
  clear a9 a10
  refine then_normal ?_
  refine cond_split hE11 rfl (fun hb12 => ?_) (fun hb12 => ?_)
  ·
    have hM := hM.trans (if_t hb12)
    have hb12f : (laws_szTx p0 1048576) < 0 := of_decide_eq_true hb12
    refine wp_seq (wp_region_lit ?_)
    refine st_val hE11 (y_assign hE11 rfl) rfl fun a13 hE13 => wpList_nil ?_
    clear hE11
    clear a11
    refine then_normal ?_
    refine wp_ret ?_
    refine then_ret ?_
    exact fin1 hE13 rfl rfl ⟨by rw [hM], hS7.below⟩
  ·
    have hM := hM.trans (if_f hb12)
    have hb12f : ¬ ((laws_szTx p0 1048576) < 0) := of_decide_eq_false hb12
    obtain ⟨hsm0, hle0, hle0_⟩ := laws_szTx_small p0 1048576 (by omega) (by omega) hgd0 hb12f
    refine wp_skip ?_
    refine then_normal ?_
    refine wp_seq (wp_region_lit ?_)
    refine st_val hE11 (y_load_agg hE11 rfl (hS7.cells (k := 0) rfl) rfl rfl agg71) rfl fun a14 hE14 => st_callO (mk := fun cs => .agg cs.toArray) hE14 hS7 Tryd.func38 fb38 fn38 (c_laws_toTx p0 (hS7.upd hp0) hsm0) rfl rfl fun cs15 F15 w15 hS15 a16 hE16 => st_callF hE16 hS15 Tryd.func37 fb37 fn37 (c_spec_TxLine (laws_toTx p0) (hS15.ownd (k := 0) rfl)) rfl rfl fun w17 hS17 a18 hE18 => st_val hE18 (y_assign hE18 rfl) rfl fun a19 hE19 => wpList_nil ?_
    clear hE11 hE14 hE16 hE18
    clear a11 a14 a16 a18
    refine then_normal ?_
    refine wp_seq (wp_region_lit ?_)
    refine st_val hE19 (y_load_agg hE19 rfl (hS17.cells (k := 1) rfl) rfl rfl agg71) rfl fun a20 hE20 => st_callO (mk := fun cs => .agg cs.toArray) hE20 hS17 Tryd.func38 fb38 fn38 (c_laws_toTx p0 (hS17.upd hp0) hsm0) rfl rfl fun cs21 F21 w21 hS21 a22 hE22 => st_alloc hE22 hS21 Tryd.zeroValue77 rfl rfl fun b23 w23 hS23 a24 hE24 => st_store hE24 hS23 cs21 rfl rfl (k := 0) rfl rfl (chkAgg_size agg77) (hS23.lenO (k := 1) rfl) rfl (hS23.oneO' (k := 1) rfl) (by simp) fun w25 (hS25 : SH (Old w) w w25 [Ck.var b23 cs21 77, Ck.own (α := Tx) cs21 (laws_toTx p0) F21, Ck.own (α := Tx) cs15 (laws_toTx p0) F15, Ck.var b1 [.int .i64 p0.Id, .int .i64 p0.Age, .int .i64 p0.Proc, .int .i64 p0.Began, .slice A90000_4 p0.Calls.length cp90000_4, .slice A90000_5 p0.Answers.length cp90000_5, .slice A90000_6 p0.Touch.Reads.length cp90000_6, .slice A90000_7 p0.Touch.Writes.length cp90000_7, .slice A90000_8 p0.Marks.length cp90000_8, .int .i64 p0.State] 71]) a26 hE26 => wpList_nil ?_
    clear hE19 hE20 hE22 hE24
    clear a19 a20 a22 a24
    refine then_normal ?_
    refine wp_seq (wp_region_lit ?_)
    refine st_val hE26 (y_load_whole hE26 rfl (hS25.cells (k := 0) rfl) (hS25.lenO (k := 1) rfl) agg77) rfl fun a27 hE27 => st_callF hE27 hS25 Tryd.func39 fb39 fn39 (c_impl_TxLine (laws_toTx p0) (hS25.ownd (k := 1) rfl) (GV.sh hS25 hG3)) rfl rfl fun w28 hS28 a29 hE29 => st_val hE29 (y_assign hE29 rfl) rfl fun a30 hE30 => wpList_nil ?_
    clear hE26 hE27 hE29
    clear a26 a27 a29
    refine then_normal ?_
    refine wp_seq (wp_seq (wp_region_lit ?_))
    refine st_val hE30 (y_move hE30 rfl) rfl fun a31 hE31 => st_val hE31 (y_move hE31 rfl) rfl fun a32 hE32 => st_val hE32 (y_neq_string hE32 rfl rfl) rfl fun a33 hE33 => wpList_nil ?_
    clear hE30 hE31 hE32
    clear a30 a31 a32
    refine then_normal ?_
    refine cond_split hE33 rfl (fun hb34 => ?_) (fun hb34 => ?_)
    ·
      have hM := hM.trans (if_t hb34)
      refine wp_seq (wp_region_lit ?_)
      refine st_val hE33 (y_assign hE33 rfl) rfl fun a35 hE35 => wpList_nil ?_
      clear hE33
      clear a33
      refine then_normal ?_
      refine wp_ret ?_
      refine then_ret ?_
      exact fin1 hE35 rfl rfl ⟨by rw [hM], hS28.below⟩
    ·
      have hM := hM.trans (if_f hb34)
      refine wp_skip ?_
      refine then_normal ?_
      have hS36 := hS28.drew
      refine wp_seq (wp_seq (reg_held 5 rfl (fun w2 => SH (Old w) w w2 [Ck.var b23 cs21 77, Ck.own (α := Tx) cs21 (laws_toTx p0) F21, Ck.own (α := Tx) cs15 (laws_toTx p0) F15, Ck.var b1 [.int .i64 p0.Id, .int .i64 p0.Age, .int .i64 p0.Proc, .int .i64 p0.Began, .slice A90000_4 p0.Calls.length cp90000_4, .slice A90000_5 p0.Answers.length cp90000_5, .slice A90000_6 p0.Touch.Reads.length cp90000_6, .slice A90000_7 p0.Touch.Writes.length cp90000_7, .slice A90000_8 p0.Marks.length cp90000_8, .int .i64 p0.State] 71]) mixed ?_))
      refine h_take 0 rfl (by kernel_rfl) hE33 (fun wh37 hh37 => y_load_whole hE33 rfl (hh37.cells (k := 0) rfl) (hh37.lenO (k := 1) rfl) agg77) hS36 rfl fun a38 hE38 => h_only 1 rfl (by kernel_rfl) <| st_val hE38 (y_load_agg hE38 rfl (hS36.cells (k := 3) rfl) rfl rfl agg71) rfl fun a39 hE39 => ?_
      refine wpList_nil ⟨rfl, hS36, ?_⟩
      refine h_only 2 rfl (by kernel_rfl) <| st_callO (mk := fun cs => .agg cs.toArray) hE39 hS36 Tryd.func38 fb38 fn38 (c_laws_toTx p0 (hS36.upd hp0) hsm0) rfl rfl fun cs40 F40 w40 hS40 a41 hE41 => ?_
      refine wpList_nil ⟨rfl, hS40.drop (k := 1), ?_⟩
      refine h_only 3 rfl (by kernel_rfl) <| st_callF hE41 hS40 Tryd.func40 fb40 fn40 (c_laws_eqTx (laws_toTx p0) (laws_toTx p0) (hS40.ownd (k := 2) rfl) (hS40.ownd (k := 0) rfl)) rfl rfl fun w42 hS42 a43 hE43 => ?_
      refine wpList_nil ⟨rfl, hS42.drop (k := 1), ?_⟩
      refine h_only 4 rfl (by kernel_rfl) <| st_val hE43 (y_not hE43 rfl) rfl fun a44 hE44 => ?_
      refine wpList_nil ⟨rfl, hS42.drop (k := 1), ?_⟩
      refine h_end (by kernel_rfl) ?_
      clear hE33 hE38 hE39 hE41 hE43
      clear a33 a38 a39 a41 a43
      refine then_normal ?_
      refine cond_split hE44 rfl (fun hb45 => ?_) (fun hb45 => ?_)
      ·
        have hM := hM.trans (if_t hb45)
        refine wp_seq (wp_region_lit ?_)
        refine st_val hE44 (y_assign hE44 rfl) rfl fun a46 hE46 => wpList_nil ?_
        clear hE44
        clear a44
        refine then_normal ?_
        refine wp_ret ?_
        refine then_ret ?_
        exact fin1 hE46 rfl rfl ⟨by rw [hM], hS42.below⟩
      ·
        have hM := hM.trans (if_f hb45)
        refine wp_skip ?_
        refine then_normal ?_
        refine wp_seq (wp_region_lit ?_)
        refine st_val hE44 (y_assign hE44 rfl) rfl fun a47 hE47 => wpList_nil ?_
        clear hE44
        clear a44
        refine then_normal ?_
        refine wp_ret ?_
        exact fin1 hE47 rfl rfl ⟨by rw [hM], hS42.below⟩


theorem laws_FnExactTxLine_true (p0 : Tx) (hg0 : Dat.good p0) : laws_FnExactTxLine p0 = true := by
  unfold laws_FnExactTxLine
  simp [TxLine_twin hg0]

end Go.Proofs.YtpfnofdaaekglaaDoor.Fw

namespace Go.Proofs.YtpfnofdaaekglaaDoor.fnExactTxLine
open Go.ChangeShapes Go.WideShapes Go.ChangeAt Go.RowKit Go.Proofs.YtpfnofdaaekglaaDoor.Fw
set_option linter.unusedVariables false

theorem own : ownKnob Tryd.prog.godebug = none := by kernel_rfl
theorem laidOut : laidOutB Tryd.prog = true := by kernel_rfl

theorem door_met (os : Os) (args : Array Value) : laidMetH Tryd.prog Rows.fnExactTxLineRow.laid ((World.doorLaid Tryd.prog 400 os).forCall (fun _ _ => 0) ⟨#[], args, []⟩).memory :=
  laidMetH_of_parts3 (fuel := 8) (laidMet_of_run' 8 (by kernel_rfl) (by kernel_rfl)) (by kernel_rfl) (by kernel_rfl)
theorem of_laid {W : World} (h : laidMetH Tryd.prog Rows.fnExactTxLineRow.laid W) : GV 4 (gl4.map (Value.int .u8)) W ∧ GV 5 (gl5.map (Value.int .u8)) W ∧ GV 3 (gl3.map (Value.int .u64)) W := by
  rw [MakeChecks.laidMetH_plain _ _ _ (by kernel_rfl)] at h
  obtain ⟨ps, ⟨g0, t0, cs0, f0, p0, q0, hg0, ht0, hv0, hd0, ⟨g1, t1, cs1, f1, p1, q1, hg1, ht1, hv1, hd1, ⟨g2, t2, cs2, f2, p2, q2, hg2, ht2, hv2, hd2, _, _⟩, _⟩, _⟩, _, _⟩ := h
  obtain rfl := Option.some.inj ((show Tryd.prog.globalNamed "math/bits.deBruijn32tab" = some 4 by kernel_rfl).symm.trans hg0)
  obtain rfl := Option.some.inj ((show (Tryd.prog.globals[4]?).map (·.type) = some 165 by kernel_rfl).symm.trans ht0)
  obtain rfl := Option.some.inj ((show Tryd.prog.globalNamed "math/bits.deBruijn64tab" = some 5 by kernel_rfl).symm.trans hg1)
  obtain rfl := Option.some.inj ((show (Tryd.prog.globals[5]?).map (·.type) = some 166 by kernel_rfl).symm.trans ht1)
  obtain rfl := Option.some.inj ((show Tryd.prog.globalNamed "internal/strconv.uint64pow10" = some 3 by kernel_rfl).symm.trans hg2)
  obtain rfl := Option.some.inj ((show (Tryd.prog.globals[3]?).map (·.type) = some 160 by kernel_rfl).symm.trans ht2)
  exact ⟨GV_ints (names := gl4) hg0 Tryd.underlying165 Tryd.underlying5 (by kernel_rfl) (by kernel_rfl) hv0 hd0, GV_ints (names := gl5) hg1 Tryd.underlying166 Tryd.underlying5 (by kernel_rfl) (by kernel_rfl) hv1 hd1, GV_ints (names := gl3) hg2 Tryd.underlying160 Tryd.underlying154 (by kernel_rfl) (by kernel_rfl) hv2 hd2⟩

set_option maxRecDepth 100000 in
theorem lifted (os : Os) (started : os.Started) (H : Type) (enc : TypeId × Value → H) :
    ReturnsInHanded {} Tryd.checked os 9 .any (fun w args => (Rows.fnExactTxLineSpec.pre enc Tryd.prog Tryd.f9 Rows.fnExactTxLineRow.domain false w args ∧ laidMetH Tryd.prog Rows.fnExactTxLineRow.laid w) ∧ sizedMet enc Tryd.prog Tryd.f9 (OpenSpec.ofChange Rows.fnExactTxLineSpec) false w args) (Rows.fnExactTxLineSpec.post enc Tryd.prog Tryd.f9 false true false false) := by
  refine returnsInHanded_of_change_and (C := Tryd.checked) (X := fun w _ => laidMetH Tryd.prog Rows.fnExactTxLineRow.laid w) (fun _ _ _ hh h => h.of_heap hh) own started (by kernel_rfl) Tryd.func9
    (ChangeSpec.witness_shaped (enc := enc) (C := Tryd.checked) (os := os) (X := fun w _ => laidMetH Tryd.prog Rows.fnExactTxLineRow.laid w) false (World.doorLaid Tryd.prog 400 os) #[.agg #[.int .i64 0, .int .i64 0, .int .i64 0, .int .i64 0, .slice none 0 0, .slice none 0 0, .slice none 0 0, .slice none 0 0, .slice none 0 0, .int .i64 0]] 8 rfl (World.shaped_of_RefB (by kernel_rfl) (by kernel_rfl)) (by kernel_rfl) (by kernel_rfl) (by kernel_rfl) (door_met os _)) ?_
  intro W base args ds gs before hval0 hW hcnd _ hL _
  have hval : ∀ (j : Nat) t v, Tryd.f9.params[j]? = some t → args[j]? = some v → Value.okWide Tryd.prog W .any base t v := hval0
  have hW' := hW
  obtain ⟨p, q, hA0, hV, rfl, hfz, hnd⟩ := hW
  have hA : DataW.TrodAll enc Tryd.prog W 0 (fun _ => true) true Tryd.f9.params.toList args.toList ds p := hA0
  rw [Tryd.params9] at hA hval
  obtain ⟨v0, vs0, d0, ds0, p0, q0, hargs, rfl, rfl, h0, r0⟩ := trodAll_cons hA
  obtain ⟨rfl, rfl, rfl⟩ := trodAll_nil r0
  obtain rfl : args = #[v0] := by cases args; simp_all
  obtain rfl := trodVars_end hV
  obtain ⟨hG4, hG5, hG3⟩ := of_laid hL
  have k0 := h0
  have lt0 : ∀ x ∈ p0, x.block < W.heap.size := by obtain ⟨m, hm⟩ := k0; exact DataW.trod_lt m _ _ _ hm
  obtain ⟨cs0, rfl, _⟩ := okWide_struct Tryd.underlying71 (hval 0 71 v0 rfl rfl)
  obtain ⟨x0, hx0⟩ : ∃ x : Tx, Dat.rd (Old W) W cs0.toList x := by
    obtain ⟨fuel, hf⟩ := h0
    exact rd71 hf
  have hc := c_laws_FnExactTxLine (w := W) x0 hx0 hG3
  refine hc.mono fun e W' ⟨he, bel⟩ => ?_
  rw [laws_FnExactTxLine_true x0 (Dat.rd_good hx0)] at he
  subst he
  exact ⟨_, rfl, _, _, _, [], _, _, hW', trodAll_mk1 (shut_bool Tryd.underlying4 _), (trodAll_cons_mk (Below.trod laidOut (by kernel_rfl) (of_decide_eq_true (by kernel_rfl)) k0 bel lt0) trodAll_mk0), vars_below laidOut bel _ (by kernel_rfl) hV, bel.frame _, fun h => by cases h⟩

theorem over : Rows.fnExactTxLineRow.holds Tryd.pinned (OpenSpec.ofChange Rows.fnExactTxLineSpec) :=
  OpenClaim.holds_of_wide 9 Tryd.f9 rfl rfl rfl rfl rfl rfl rfl ⟨rfl, rfl, rfl, rfl, rfl⟩ rfl rfl rfl rfl rfl (by kernel_rfl) Tryd.func9 (by kernel_rfl)
    (of_decide_eq_true (by kernel_rfl)) (by unfold Func.isWrapper; first | (rw [if_pos (by decide +kernel)]; kernel_rfl) | (rw [if_neg (by decide +kernel)]; exact ⟨rfl, rfl⟩))
    (fun os started H enc _ => lifted os started H enc)

theorem card : Rows.FnExactTxLineCardSaid :=
  Claim7.holds_tied_plain_at .later [] [.data, .data, .data] true (true, "ced246f210c11f613587500ac62ce721159eb83655c7454f67a98e7be25ea8d5") false
    over (fun _ h => by cases h) (by kernel_rfl) (fun _ h => by cases h) fnExactTxLine_row_tie rfl ⟨rfl, rfl⟩ (by kernel_rfl) rfl
    (fun f fn hf hfn => by
      obtain rfl : f = 9 := Option.some.inj ((show Tryd.prog.funcNamed "loop.example/g00974/laws.FnExactTxLine" = some 9 by kernel_rfl).symm.trans hf) |>.symm
      obtain rfl : fn = Tryd.f9 := (Option.some.inj (Tryd.func9.symm.trans hfn)).symm
      exact ⟨by kernel_rfl, fun j t ht => by
        rw [Tryd.params9] at ht
        have hm : t ∈ [71] := by simpa using Array.mem_of_getElem? ht
        have hall : ([71].all fun u => !Tryd.prog.wantsStandIn u) = true := by kernel_rfl
        exact (show Tryd.prog.wantsStandIn t = false by simpa using List.all_eq_true.1 hall t hm)⟩)
    (by kernel_rfl)
end Go.Proofs.YtpfnofdaaekglaaDoor.fnExactTxLine
namespace Go.Proofs.YtpfnofdaaekglaaDoor
/-- The statement. -/
theorem fnExactTxLine_proved : Rows.FnExactTxLineCardSaid := fnExactTxLine.card
#print axioms fnExactTxLine_proved
end Go.Proofs.YtpfnofdaaekglaaDoor
