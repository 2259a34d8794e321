/- The law FnExactTxLines: for every input it returns true, and what came in is as it was. No condition. By program (wip/gen). -/
import Derived.Test.YtmjjcihoobnbgaaDoorC7
import Derived.Test.YtmjjcihoobnbgaaDoorP7
import Derived.Test.YtmjjcihoobnbgaaDoorCards
import Derived.Test.YtmjjcihoobnbgaaDoorTie
import Derived.OpenShut
import Derived.ChangeOld
import Derived.ProofKit
import Derived.LaidMore
import Derived.Stop.Joined
import Derived.SevenTiedAt
namespace Go.Proofs.YtmjjcihoobnbgaaDoor.Fw
open Go.RowKit
set_option linter.unusedVariables false
set_option linter.unusedSimpArgs false

theorem fb22 : Tryd.f22.body.isNone = false := rfl
theorem fb23 : Tryd.f23.body.isNone = false := rfl
theorem fb24 : Tryd.f24.body.isNone = false := rfl
theorem fb25 : Tryd.f25.body.isNone = false := rfl
theorem fb27 : Tryd.f27.body.isNone = false := rfl
theorem fb28 : Tryd.f28.body.isNone = false := rfl
theorem fb30 : Tryd.f30.body.isNone = false := rfl
theorem fn22 : (Tryd.f22.name == "runtime.NumGoroutine") = false := by kernel_rfl
theorem fn23 : (Tryd.f23.name == "runtime.NumGoroutine") = false := by kernel_rfl
theorem fn24 : (Tryd.f24.name == "runtime.NumGoroutine") = false := by kernel_rfl
theorem fn25 : (Tryd.f25.name == "runtime.NumGoroutine") = false := by kernel_rfl
theorem fn27 : (Tryd.f27.name == "runtime.NumGoroutine") = false := by kernel_rfl
theorem fn28 : (Tryd.f28.name == "runtime.NumGoroutine") = false := by kernel_rfl
theorem fn30 : (Tryd.f30.name == "runtime.NumGoroutine") = false := by kernel_rfl

theorem rd3 : Reads Tryd.prog 3 Int := reads_int Tryd.underlying3
theorem rd9 : Reads Tryd.prog 9 ByteArray := reads_string Tryd.underlying9
theorem rd29 : Reads Tryd.prog 29 Call := by
  intro H enc W fuel cs x h
  obtain ⟨a0, h0⟩ := reads_field (α := Int) (o := 0) (by kernel_rfl : chkFieldT Tryd.prog 29 0 0 3 1 = true) rd3 h
  obtain ⟨a1, h1⟩ := reads_field (α := ByteArray) (o := 1) (by kernel_rfl : chkFieldT Tryd.prog 29 1 1 9 1 = true) rd9 h
  obtain ⟨a2, h2⟩ := reads_field (α := ByteArray) (o := 2) (by kernel_rfl : chkFieldT Tryd.prog 29 2 2 9 1 = true) rd9 h
  obtain ⟨a3, h3⟩ := reads_field (α := Int) (o := 3) (by kernel_rfl : chkFieldT Tryd.prog 29 3 3 3 1 = true) rd3 h
  obtain ⟨a4, h4⟩ := reads_field (α := Int) (o := 4) (by kernel_rfl : chkFieldT Tryd.prog 29 4 4 3 1 = true) rd3 h
  obtain ⟨a5, h5⟩ := reads_field (α := ByteArray) (o := 5) (by kernel_rfl : chkFieldT Tryd.prog 29 5 5 9 1 = true) rd9 h
  have hl := struct_len agg29 Tryd.underlying29 h
  have e : cs = (cs.drop 0).take 6 := by rw [List.drop_zero, List.take_of_length_le (by omega)]
  refine ⟨⟨a0, a1, a2, a3, a4, a5⟩, ?_⟩
  rw [e]
  exact rd_pair h0 (rd_pair h1 (rd_pair h2 (rd_pair h3 (rd_pair h4 h5))))
theorem rd79 : Reads Tryd.prog 79 (List Call) := reads_slice sl79 (by kernel_rfl) rd29
theorem rd134 : Reads Tryd.prog 134 Answer := by
  intro H enc W fuel cs x h
  obtain ⟨a0, h0⟩ := reads_field (α := Int) (o := 0) (by kernel_rfl : chkFieldT Tryd.prog 134 0 0 3 1 = true) rd3 h
  obtain ⟨a1, h1⟩ := reads_field (α := Int) (o := 1) (by kernel_rfl : chkFieldT Tryd.prog 134 1 1 3 1 = true) rd3 h
  obtain ⟨a2, h2⟩ := reads_field (α := ByteArray) (o := 2) (by kernel_rfl : chkFieldT Tryd.prog 134 2 2 9 1 = true) rd9 h
  have hl := struct_len agg134 Tryd.underlying134 h
  have e : cs = (cs.drop 0).take 3 := by rw [List.drop_zero, List.take_of_length_le (by omega)]
  refine ⟨⟨a0, a1, a2⟩, ?_⟩
  rw [e]
  exact rd_pair h0 (rd_pair h1 h2)
theorem rd80 : Reads Tryd.prog 80 (List Answer) := reads_slice sl80 (by kernel_rfl) rd134
theorem rd43 : Reads Tryd.prog 43 (List ByteArray) := reads_slice sl43 (by kernel_rfl) rd9
theorem rd82 : Reads Tryd.prog 82 Touch := by
  intro H enc W fuel cs x h
  obtain ⟨a0, h0⟩ := reads_field (α := List ByteArray) (o := 0) (by kernel_rfl : chkFieldT Tryd.prog 82 0 0 43 1 = true) rd43 h
  obtain ⟨a1, h1⟩ := reads_field (α := List ByteArray) (o := 1) (by kernel_rfl : chkFieldT Tryd.prog 82 1 1 43 1 = true) rd43 h
  have hl := struct_len agg82 Tryd.underlying82 h
  have e : cs = (cs.drop 0).take 2 := by rw [List.drop_zero, List.take_of_length_le (by omega)]
  refine ⟨⟨a0, a1⟩, ?_⟩
  rw [e]
  exact rd_pair h0 h1
theorem rd52 : Reads Tryd.prog 52 (List Int) := reads_slice sl52 (by kernel_rfl) rd3
theorem rd84 : Reads Tryd.prog 84 Tx := by
  intro H enc W fuel cs x h
  obtain ⟨a0, h0⟩ := reads_field (α := Int) (o := 0) (by kernel_rfl : chkFieldT Tryd.prog 84 0 0 3 1 = true) rd3 h
  obtain ⟨a1, h1⟩ := reads_field (α := Int) (o := 1) (by kernel_rfl : chkFieldT Tryd.prog 84 1 1 3 1 = true) rd3 h
  obtain ⟨a2, h2⟩ := reads_field (α := Int) (o := 2) (by kernel_rfl : chkFieldT Tryd.prog 84 2 2 3 1 = true) rd3 h
  obtain ⟨a3, h3⟩ := reads_field (α := Int) (o := 3) (by kernel_rfl : chkFieldT Tryd.prog 84 3 3 3 1 = true) rd3 h
  obtain ⟨a4, h4⟩ := reads_field (α := List Call) (o := 4) (by kernel_rfl : chkFieldT Tryd.prog 84 4 4 79 1 = true) rd79 h
  obtain ⟨a5, h5⟩ := reads_field (α := List Answer) (o := 5) (by kernel_rfl : chkFieldT Tryd.prog 84 5 5 80 1 = true) rd80 h
  obtain ⟨a6, h6⟩ := reads_field (α := Touch) (o := 6) (by kernel_rfl : chkFieldT Tryd.prog 84 6 6 82 2 = true) rd82 h
  obtain ⟨a7, h7⟩ := reads_field (α := List Int) (o := 8) (by kernel_rfl : chkFieldT Tryd.prog 84 7 8 52 1 = true) rd52 h
  obtain ⟨a8, h8⟩ := reads_field (α := Int) (o := 9) (by kernel_rfl : chkFieldT Tryd.prog 84 8 9 3 1 = true) rd3 h
  have hl := struct_len agg84 Tryd.underlying84 h
  have e : cs = (cs.drop 0).take 10 := by rw [List.drop_zero, List.take_of_length_le (by omega)]
  refine ⟨⟨a0, a1, a2, a3, a4, a5, a6, a7, a8⟩, ?_⟩
  rw [e]
  exact rd_pair h0 (rd_pair h1 (rd_pair h2 (rd_pair h3 (rd_pair h4 (rd_pair h5 (rd_pair h6 (rd_pair h7 h8)))))))
theorem rd41 : Reads Tryd.prog 41 (List Tx) := reads_slice sl41 (by kernel_rfl) rd84

def laws_FnExactTxLines (p0 : List Tx) : Bool := (if (decide ((laws_szTxS p0 1048576) < 0)) = true then true else (if (!(laws_eqStringS (impl_TxLines (laws_toTxS p0)) (spec_TxLines (laws_toTxS p0)))) = true then false else (if (!(laws_eqTxS (laws_toTxS p0) (laws_toTxS p0))) = true then false else (if ((decide ((laws_markTxS (laws_toTxS p0) 1).2 < 0)) || (!(laws_eqStringS (impl_TxLines (laws_toTxS p0)) (spec_TxLines (laws_toTxS p0))))) = true then false else (if (decide ((laws_heldStringS ((laws_markStringS (impl_TxLines (laws_toTxS p0)) 1).1) 1) < 0)) = true then false else (if (!decide ((laws_heldStringS ((laws_markStringS (impl_TxLines (laws_toTxS p0)) 1).1) 1) = (laws_markStringS (impl_TxLines (laws_toTxS p0)) 1).2)) = true then false else true))))))
theorem c_laws_FnExactTxLines {v0 : Value} (p0 : List Tx) {w : World} (hp0 : SlR (Old w) w v0 p0) (hG7 : GV 7 (gl7.map (Value.int .u64)) w) :
    Calls Tryd.prog 6 [v0].toArray w (fun e w' => e = .returned (.bool (laws_FnExactTxLines p0)) ∧ Below w.heap.size w w') := by
  obtain ⟨A0, cap0, rfl, hx0⟩ := hp0.form
  refine enter Tryd.func6 rfl Tryd.ntmps6 (Nat.le_of_ble_eq_true rfl) ?_
  intro a0 hE0
  have hS0 := SH.start w
  have hM := laws_FnExactTxLines.eq_1 p0
  have hgd0 : Dat.good p0 := Dat.rd_good (B := Old w) (w := w) (cs := [_]) ⟨_, rfl, hp0⟩
  refine wp_seq (wp_region_lit ?_)
  refine st_val hE0 (y_assign hE0 rfl) rfl fun a1 hE1 => wpList_nil ?_
  clear hE0
  clear a0
  refine then_normal ?_
  refine wp_seq (wp_region_lit ?_)
  refine st_val hE1 (y_assign hE1 rfl) rfl fun a2 hE2 => wpList_nil ?_
  clear hE1
  clear a1
  refine then_normal ?_
  refine wp_seq (wp_region_lit ?_)
  refine st_val hE2 (y_move hE2 rfl) rfl fun a3 hE3 => st_val hE3 (y_move hE3 rfl) rfl fun a4 hE4 => st_callF hE4 hS0 Tryd.func22 fb22 fn22 (c_laws_szTxS p0 1048576 (hS0.up hp0)) rfl rfl fun w5 hS5 a6 hE6 => st_val hE6 (y_assign hE6 rfl) rfl fun a7 hE7 => wpList_nil ?_
  clear hE2 hE3 hE4 hE6
  clear a2 a3 a4 a6
  refine then_normal ?_
  refine wp_seq (wp_seq (wp_region_lit ?_))
  refine st_val hE7 (y_move hE7 rfl) rfl fun a8 hE8 => st_val hE8 (y_lss hE8 rfl rfl) rfl fun a9 hE9 => wpList_nil ?_
  clear hE7 hE8
  clear a7 a8
  refine then_normal ?_
  refine cond_split hE9 rfl (fun hb10 => ?_) (fun hb10 => ?_)
  ·
    have hM := hM.trans (if_t hb10)
    have hb10f : (laws_szTxS p0 1048576) < 0 := of_decide_eq_true hb10
    refine wp_seq (wp_region_lit ?_)
    refine st_val hE9 (y_assign hE9 rfl) rfl fun a11 hE11 => wpList_nil ?_
    clear hE9
    clear a9
    refine then_normal ?_
    refine wp_ret ?_
    refine then_ret ?_
    exact fin1 hE11 rfl rfl ⟨by rw [hM], hS5.below⟩
  ·
    have hM := hM.trans (if_f hb10)
    have hb10f : ¬ ((laws_szTxS p0 1048576) < 0) := of_decide_eq_false hb10
    obtain ⟨hsm0, hle0, hle0_⟩ := laws_szTxS_small p0 1048576 (by omega) (by omega) hgd0 hb10f
    have hln0 : p0.length ≤ 1048576 := hsm0.1
    refine wp_skip ?_
    refine then_normal ?_
    refine wp_seq (wp_region_lit ?_)
    refine st_val hE9 (y_move hE9 rfl) rfl fun a12 hE12 => st_callS hE12 hS5 Tryd.func24 fb24 fn24 (c_laws_toTxS p0 (hS5.up hp0) hsm0) rfl rfl fun A13 cp13 F13 w13 hx13 hS13 a14 hE14 => st_callS hE14 hS13 Tryd.func23 fb23 fn23 (c_spec_TxLines (laws_toTxS p0) (hS13.ownl (k := 0) rfl) (by rw [laws_toTxS_id]; exact hsm0)) rfl rfl fun A15 cp15 F15 w15 hx15 hS15 a16 hE16 => st_val hE16 (y_assign hE16 rfl) rfl fun a17 hE17 => wpList_nil ?_
    clear hE9 hE12 hE14 hE16
    clear a9 a12 a14 a16
    refine then_normal ?_
    refine wp_seq (wp_region_lit ?_)
    refine st_val hE17 (y_move hE17 rfl) rfl fun a18 hE18 => st_callS hE18 hS15 Tryd.func24 fb24 fn24 (c_laws_toTxS p0 (hS15.up hp0) hsm0) rfl rfl fun A19 cp19 F19 w19 hx19 hS19 a20 hE20 => st_val hE20 (y_assign hE20 rfl) rfl fun a21 hE21 => wpList_nil ?_
    clear hE17 hE18 hE20
    clear a17 a18 a20
    refine then_normal ?_
    refine wp_seq (wp_region_lit ?_)
    refine st_val hE21 (y_move hE21 rfl) rfl fun a22 hE22 => st_callS hE22 hS19 Tryd.func25 fb25 fn25 (c_impl_TxLines (laws_toTxS p0) (hS19.ownl (k := 0) rfl) (GV.sh hS19 hG7) (by rw [laws_toTxS_id]; exact hsm0)) rfl rfl fun A23 cp23 F23 w23 hx23 hS23 a24 hE24 => st_val hE24 (y_assign hE24 rfl) rfl fun a25 hE25 => wpList_nil ?_
    clear hE21 hE22 hE24
    clear a21 a22 a24
    refine then_normal ?_
    refine wp_seq (wp_seq (wp_region_lit ?_))
    refine st_val hE25 (y_move hE25 rfl) rfl fun a26 hE26 => st_val hE26 (y_move hE26 rfl) rfl fun a27 hE27 => st_callF hE27 hS23 Tryd.func26 fb26 fn26 (c_laws_eqStringS (impl_TxLines (laws_toTxS p0)) (spec_TxLines (laws_toTxS p0)) (hS23.ownl (k := 0) rfl) (hS23.ownl (k := 2) rfl)) rfl rfl fun w28 hS28 a29 hE29 => st_val hE29 (y_not hE29 rfl) rfl fun a30 hE30 => wpList_nil ?_
    clear hE25 hE26 hE27 hE29
    clear a25 a26 a27 a29
    refine then_normal ?_
    refine cond_split hE30 rfl (fun hb31 => ?_) (fun hb31 => ?_)
    ·
      have hM := hM.trans (if_t hb31)
      refine wp_seq (wp_region_lit ?_)
      refine st_val hE30 (y_assign hE30 rfl) rfl fun a32 hE32 => wpList_nil ?_
      clear hE30
      clear a30
      refine then_normal ?_
      refine wp_ret ?_
      refine then_ret ?_
      exact fin1 hE32 rfl rfl ⟨by rw [hM], hS28.below⟩
    ·
      have hM := hM.trans (if_f hb31)
      refine wp_skip ?_
      refine then_normal ?_
      refine wp_seq (wp_seq (wp_region_lit ?_))
      refine st_val hE30 (y_move hE30 rfl) rfl fun a33 hE33 => st_val hE33 (y_move hE33 rfl) rfl fun a34 hE34 => st_callS hE34 hS28 Tryd.func24 fb24 fn24 (c_laws_toTxS p0 (hS28.up hp0) hsm0) rfl rfl fun A35 cp35 F35 w35 hx35 hS35 a36 hE36 => st_callF hE36 hS35 Tryd.func27 fb27 fn27 (c_laws_eqTxS (laws_toTxS p0) (laws_toTxS p0) (hS35.ownl (k := 2) rfl) (hS35.ownl (k := 0) rfl)) rfl rfl fun w37 hS37 a38 hE38 => st_val hE38 (y_not hE38 rfl) rfl fun a39 hE39 => wpList_nil ?_
      clear hE30 hE33 hE34 hE36 hE38
      clear a30 a33 a34 a36 a38
      refine then_normal ?_
      refine cond_split hE39 rfl (fun hb40 => ?_) (fun hb40 => ?_)
      ·
        have hM := hM.trans (if_t hb40)
        refine wp_seq (wp_region_lit ?_)
        refine st_val hE39 (y_assign hE39 rfl) rfl fun a41 hE41 => wpList_nil ?_
        clear hE39
        clear a39
        refine then_normal ?_
        refine wp_ret ?_
        refine then_ret ?_
        exact fin1 hE41 rfl rfl ⟨by rw [hM], hS37.below⟩
      ·
        have hM := hM.trans (if_f hb40)
        refine wp_skip ?_
        refine then_normal ?_
        refine wp_seq (wp_region_lit ?_)
        refine st_val hE39 (y_assign hE39 rfl) rfl fun a42 hE42 => wpList_nil ?_
        clear hE39
        clear a39
        refine then_normal ?_
        refine wp_seq (wp_region_lit ?_)
        refine st_val hE42 (y_move hE42 rfl) rfl fun a43 hE43 => st_val hE43 (y_move hE43 rfl) rfl fun a44 hE44 => ?_
        have hP45 : SH (Old w) w w37 (Ck.own (α := List Tx) [.slice A19 ((laws_toTxS p0).length) cp19] (laws_toTxS p0) F19 :: [Ck.own (α := List Tx) [.slice A35 ((laws_toTxS p0).length) cp35] (laws_toTxS p0) F35, Ck.own (α := List ByteArray) [.slice A23 ((impl_TxLines (laws_toTxS p0)).length) cp23] (impl_TxLines (laws_toTxS p0)) F23, Ck.own (α := List ByteArray) [.slice A15 ((spec_TxLines (laws_toTxS p0)).length) cp15] (spec_TxLines (laws_toTxS p0)) F15, Ck.own (α := List Tx) [.slice A13 ((laws_toTxS p0).length) cp13] (laws_toTxS p0) F13]) := (hS37.pick [2, 0, 1, 3, 4] (by decide) rfl)
        refine st_callM (c := Ck.own (α := List Tx) [.slice A19 ((laws_toTxS p0).length) cp19] (laws_toTxS p0) F19) (c' := fun F45 => Ck.own (α := List Tx) [.slice A19 ((laws_toTxS p0).length) cp19] ((laws_markTxS (laws_toTxS p0) 1).1) F45) (R := I64 (laws_markTxS (laws_toTxS p0) 1).2) hE44 hP45 Tryd.func28 fb28 fn28 (c_laws_markTxS (laws_toTxS p0) 1 (SH.off (M := [Ck.own (α := List Tx) [.slice A19 ((laws_toTxS p0).length) cp19] (laws_toTxS p0) F19]) (R := [Ck.own (α := List Tx) [.slice A35 ((laws_toTxS p0).length) cp35] (laws_toTxS p0) F35, Ck.own (α := List ByteArray) [.slice A23 ((impl_TxLines (laws_toTxS p0)).length) cp23] (impl_TxLines (laws_toTxS p0)) F23, Ck.own (α := List ByteArray) [.slice A15 ((spec_TxLines (laws_toTxS p0)).length) cp15] (spec_TxLines (laws_toTxS p0)) F15, Ck.own (α := List Tx) [.slice A13 ((laws_toTxS p0).length) cp13] (laws_toTxS p0) F13]) hP45) (by unfold I64; omega)) rfl rfl fun F45 w45 hR45 hS45 a46 hE46 => st_val hE46 (y_assign hE46 rfl) rfl fun a47 hE47 => wpList_nil ?_
        clear hE42 hE43 hE44 hE46
        clear a42 a43 a44 a46
        refine then_normal ?_
        refine wp_seq (wp_seq (wp_region_lit ?_))
        refine st_val hE47 (y_move hE47 rfl) rfl fun a48 hE48 => st_val hE48 (y_lss hE48 rfl rfl) rfl fun a49 hE49 => st_val hE49 (y_move hE49 rfl) rfl fun a50 hE50 => ?_
        refine st_mid 5 (fun a w2 => ∃ r : Bool, r = ((decide ((laws_markTxS (laws_toTxS p0) 1).2 < 0)) || (!(laws_eqStringS (impl_TxLines (laws_toTxS p0)) (spec_TxLines (laws_toTxS p0))))) ∧ SH (Old w) w w2 [Ck.own (α := List Tx) [.slice A19 ((laws_toTxS p0).length) cp19] ((laws_markTxS (laws_toTxS p0) 1).1) F45, Ck.own (α := List Tx) [.slice A35 ((laws_toTxS p0).length) cp35] (laws_toTxS p0) F35, Ck.own (α := List ByteArray) [.slice A23 ((impl_TxLines (laws_toTxS p0)).length) cp23] (impl_TxLines (laws_toTxS p0)) F23, Ck.own (α := List ByteArray) [.slice A15 ((spec_TxLines (laws_toTxS p0)).length) cp15] (spec_TxLines (laws_toTxS p0)) F15, Ck.own (α := List Tx) [.slice A13 ((laws_toTxS p0).length) cp13] (laws_toTxS p0) F13] ∧ Env 69 ((42, .bool r) :: [(0, .slice A0 p0.length cap0), (2, .bool false), (3, .int .i64 (laws_szTxS p0 1048576)), (4, .slice A15 ((spec_TxLines (laws_toTxS p0)).length) cp15), (5, .slice A19 ((laws_toTxS p0).length) cp19), (6, .slice A23 ((impl_TxLines (laws_toTxS p0)).length) cp23), (7, .int .i64 ((laws_markTxS (laws_toTxS p0) 1).2)), (11, .slice A0 p0.length cap0), (12, .int .i64 1048576), (13, .int .i64 (laws_szTxS p0 1048576)), (14, .int .i64 (laws_szTxS p0 1048576)), (15, .bool (decide ((laws_szTxS p0 1048576) < 0))), (16, .slice A0 p0.length cap0), (17, .slice A13 ((laws_toTxS p0).length) cp13), (18, .slice A15 ((spec_TxLines (laws_toTxS p0)).length) cp15), (19, .slice A0 p0.length cap0), (20, .slice A19 ((laws_toTxS p0).length) cp19), (21, .slice A19 ((laws_toTxS p0).length) cp19), (22, .slice A23 ((impl_TxLines (laws_toTxS p0)).length) cp23), (23, .slice A23 ((impl_TxLines (laws_toTxS p0)).length) cp23), (24, .slice A15 ((spec_TxLines (laws_toTxS p0)).length) cp15), (25, .bool (laws_eqStringS (impl_TxLines (laws_toTxS p0)) (spec_TxLines (laws_toTxS p0)))), (26, .bool (!(laws_eqStringS (impl_TxLines (laws_toTxS p0)) (spec_TxLines (laws_toTxS p0))))), (27, .slice A19 ((laws_toTxS p0).length) cp19), (28, .slice A0 p0.length cap0), (29, .slice A35 ((laws_toTxS p0).length) cp35), (30, .bool (laws_eqTxS (laws_toTxS p0) (laws_toTxS p0))), (31, .bool (!(laws_eqTxS (laws_toTxS p0) (laws_toTxS p0)))), (32, .slice A19 ((laws_toTxS p0).length) cp19), (33, .int .i64 1), (34, .int .i64 ((laws_markTxS (laws_toTxS p0) 1).2)), (35, .int .i64 ((laws_markTxS (laws_toTxS p0) 1).2)), (36, .bool (decide ((laws_markTxS (laws_toTxS p0) 1).2 < 0))), (37, .bool (decide ((laws_markTxS (laws_toTxS p0) 1).2 < 0)))]) a) ?_ ?_
        ·
          rcases Bool.eq_false_or_eq_true (decide ((laws_markTxS (laws_toTxS p0) 1).2 < 0)) with hb52 | hb52
          ·
            have hb52f : (laws_markTxS (laws_toTxS p0) 1).2 < 0 := of_decide_eq_true hb52
            refine st_skip hE50 rfl rfl rfl hb52 rfl fun a53 hE53 => st_skip hE53 rfl rfl rfl hb52 rfl fun a54 hE54 => st_skip hE54 rfl rfl rfl hb52 rfl fun a55 hE55 => st_skip hE55 rfl rfl rfl hb52 rfl fun a56 hE56 => st_val hE56 (y_pick_t hE56 rfl hb52 rfl) rfl fun a57 hE57 => wpList_nil ?_
            exact ⟨true, by simp only [hb52, Bool.true_and, Bool.false_and, Bool.true_or, Bool.false_or, Bool.and_true, Bool.or_true, Bool.and_false, Bool.or_false], hS45, hE57.weaken ⟨rfl, rfl, rfl, rfl, rfl, rfl, rfl, rfl, rfl, rfl, rfl, rfl, rfl, rfl, rfl, rfl, rfl, rfl, rfl, rfl, rfl, rfl, rfl, rfl, rfl, rfl, rfl, rfl, rfl, rfl, rfl, rfl, rfl, rfl, rfl, trivial⟩⟩
          ·
            have hb52f : ¬ ((laws_markTxS (laws_toTxS p0) 1).2 < 0) := of_decide_eq_false hb52
            refine st_run hE50 rfl rfl rfl hb52 <| st_val hE50 (y_move hE50 rfl) rfl fun a58 hE58 => st_run hE58 rfl rfl rfl hb52 <| st_val hE58 (y_move hE58 rfl) rfl fun a59 hE59 => st_run hE59 rfl rfl rfl hb52 <| st_callF hE59 hS45 Tryd.func26 fb26 fn26 (c_laws_eqStringS (impl_TxLines (laws_toTxS p0)) (spec_TxLines (laws_toTxS p0)) (hS45.ownl (k := 2) rfl) (hS45.ownl (k := 3) rfl)) rfl rfl fun w60 hS60 a61 hE61 => st_run hE61 rfl rfl rfl hb52 <| st_val hE61 (y_not hE61 rfl) rfl fun a62 hE62 => st_val hE62 (y_pick_f hE62 rfl hb52 rfl) rfl fun a63 hE63 => wpList_nil ?_
            exact ⟨!(laws_eqStringS (impl_TxLines (laws_toTxS p0)) (spec_TxLines (laws_toTxS p0))), by simp only [hb52, Bool.true_and, Bool.false_and, Bool.true_or, Bool.false_or, Bool.and_true, Bool.or_true, Bool.and_false, Bool.or_false], hS60, hE63.weaken ⟨rfl, rfl, rfl, rfl, rfl, rfl, rfl, rfl, rfl, rfl, rfl, rfl, rfl, rfl, rfl, rfl, rfl, rfl, rfl, rfl, rfl, rfl, rfl, rfl, rfl, rfl, rfl, rfl, rfl, rfl, rfl, rfl, rfl, rfl, rfl, trivial⟩⟩
        rintro a64 w64 ⟨r64, hr64, hS64, hE64⟩
        subst hr64
        clear hE50 hE47 hE48 hE49
        refine wpList_nil ?_
        refine then_normal ?_
        refine cond_split hE64 rfl (fun hb65 => ?_) (fun hb65 => ?_)
        ·
          have hM := hM.trans (if_t hb65)
          refine wp_seq (wp_region_lit ?_)
          refine st_val hE64 (y_assign hE64 rfl) rfl fun a66 hE66 => wpList_nil ?_
          clear hE64
          clear a64
          refine then_normal ?_
          refine wp_ret ?_
          refine then_ret ?_
          exact fin1 hE66 rfl rfl ⟨by rw [hM], hS64.below⟩
        ·
          have hM := hM.trans (if_f hb65)
          obtain ⟨hb65a, hb65b⟩ := Bool.or_eq_false_iff.1 hb65
          have hb65af : ¬ ((laws_markTxS (laws_toTxS p0) 1).2 < 0) := of_decide_eq_false hb65a
          refine wp_skip ?_
          refine then_normal ?_
          refine wp_seq (wp_region_lit ?_)
          refine st_val hE64 (y_assign hE64 rfl) rfl fun a67 hE67 => wpList_nil ?_
          clear hE64
          clear a64
          refine then_normal ?_
          refine wp_seq (wp_region_lit ?_)
          refine st_val hE67 (y_move hE67 rfl) rfl fun a68 hE68 => st_val hE68 (y_move hE68 rfl) rfl fun a69 hE69 => ?_
          have hP70 : SH (Old w) w w64 (Ck.own (α := List ByteArray) [.slice A23 ((impl_TxLines (laws_toTxS p0)).length) cp23] (impl_TxLines (laws_toTxS p0)) F23 :: [Ck.own (α := List Tx) [.slice A19 ((laws_toTxS p0).length) cp19] ((laws_markTxS (laws_toTxS p0) 1).1) F45, Ck.own (α := List Tx) [.slice A35 ((laws_toTxS p0).length) cp35] (laws_toTxS p0) F35, Ck.own (α := List ByteArray) [.slice A15 ((spec_TxLines (laws_toTxS p0)).length) cp15] (spec_TxLines (laws_toTxS p0)) F15, Ck.own (α := List Tx) [.slice A13 ((laws_toTxS p0).length) cp13] (laws_toTxS p0) F13]) := (hS64.pick [2, 0, 1, 3, 4] (by decide) rfl)
          refine st_callM (c := Ck.own (α := List ByteArray) [.slice A23 ((impl_TxLines (laws_toTxS p0)).length) cp23] (impl_TxLines (laws_toTxS p0)) F23) (c' := fun F70 => Ck.own (α := List ByteArray) [.slice A23 ((impl_TxLines (laws_toTxS p0)).length) cp23] ((laws_markStringS (impl_TxLines (laws_toTxS p0)) 1).1) F70) (R := I64 (laws_markStringS (impl_TxLines (laws_toTxS p0)) 1).2) hE69 hP70 Tryd.func29 fb29 fn29 (c_laws_markStringS (impl_TxLines (laws_toTxS p0)) 1 (SH.off (M := [Ck.own (α := List ByteArray) [.slice A23 ((impl_TxLines (laws_toTxS p0)).length) cp23] (impl_TxLines (laws_toTxS p0)) F23]) (R := [Ck.own (α := List Tx) [.slice A19 ((laws_toTxS p0).length) cp19] ((laws_markTxS (laws_toTxS p0) 1).1) F45, Ck.own (α := List Tx) [.slice A35 ((laws_toTxS p0).length) cp35] (laws_toTxS p0) F35, Ck.own (α := List ByteArray) [.slice A15 ((spec_TxLines (laws_toTxS p0)).length) cp15] (spec_TxLines (laws_toTxS p0)) F15, Ck.own (α := List Tx) [.slice A13 ((laws_toTxS p0).length) cp13] (laws_toTxS p0) F13]) hP70) (by unfold I64; omega)) rfl rfl fun F70 w70 hR70 hS70 a71 hE71 => st_val hE71 (y_assign hE71 rfl) rfl fun a72 hE72 => wpList_nil ?_
          clear hE67 hE68 hE69 hE71
          clear a67 a68 a69 a71
          refine then_normal ?_
          refine wp_seq (wp_region_lit ?_)
          refine st_val hE72 (y_assign hE72 rfl) rfl fun a73 hE73 => wpList_nil ?_
          clear hE72
          clear a72
          refine then_normal ?_
          refine wp_seq (wp_region_lit ?_)
          refine st_val hE73 (y_move hE73 rfl) rfl fun a74 hE74 => st_val hE74 (y_move hE74 rfl) rfl fun a75 hE75 => st_callF hE75 hS70 Tryd.func30 fb30 fn30 (c_laws_heldStringS ((laws_markStringS (impl_TxLines (laws_toTxS p0)) 1).1) 1 (hS70.ownl (k := 0) rfl) (by unfold I64; omega)) rfl rfl fun w76 hS76 a77 hE77 => st_val hE77 (y_assign hE77 rfl) rfl fun a78 hE78 => wpList_nil ?_
          clear hE73 hE74 hE75 hE77
          clear a73 a74 a75 a77
          refine then_normal ?_
          refine wp_seq (wp_seq (wp_region_lit ?_))
          refine st_val hE78 (y_move hE78 rfl) rfl fun a79 hE79 => st_val hE79 (y_lss hE79 rfl rfl) rfl fun a80 hE80 => wpList_nil ?_
          clear hE78 hE79
          clear a78 a79
          refine then_normal ?_
          refine cond_split hE80 rfl (fun hb81 => ?_) (fun hb81 => ?_)
          ·
            have hM := hM.trans (if_t hb81)
            have hb81f : (laws_heldStringS ((laws_markStringS (impl_TxLines (laws_toTxS p0)) 1).1) 1) < 0 := of_decide_eq_true hb81
            refine wp_seq (wp_region_lit ?_)
            refine st_val hE80 (y_assign hE80 rfl) rfl fun a82 hE82 => wpList_nil ?_
            clear hE80
            clear a80
            refine then_normal ?_
            refine wp_ret ?_
            refine then_ret ?_
            exact fin1 hE82 rfl rfl ⟨by rw [hM], hS76.below⟩
          ·
            have hM := hM.trans (if_f hb81)
            have hb81f : ¬ ((laws_heldStringS ((laws_markStringS (impl_TxLines (laws_toTxS p0)) 1).1) 1) < 0) := of_decide_eq_false hb81
            refine wp_skip ?_
            refine then_normal ?_
            refine wp_seq (wp_seq (wp_region_lit ?_))
            refine st_val hE80 (y_move hE80 rfl) rfl fun a83 hE83 => st_val hE83 (y_move hE83 rfl) rfl fun a84 hE84 => st_val hE84 (y_neq hE84 rfl rfl) rfl fun a85 hE85 => wpList_nil ?_
            clear hE80 hE83 hE84
            clear a80 a83 a84
            refine then_normal ?_
            refine cond_split hE85 rfl (fun hb86 => ?_) (fun hb86 => ?_)
            ·
              have hM := hM.trans (if_t hb86)
              have hb86f : ¬ ((laws_heldStringS ((laws_markStringS (impl_TxLines (laws_toTxS p0)) 1).1) 1) = (laws_markStringS (impl_TxLines (laws_toTxS p0)) 1).2) := by simpa using hb86
              refine wp_seq (wp_region_lit ?_)
              refine st_val hE85 (y_assign hE85 rfl) rfl fun a87 hE87 => wpList_nil ?_
              clear hE85
              clear a85
              refine then_normal ?_
              refine wp_ret ?_
              refine then_ret ?_
              exact fin1 hE87 rfl rfl ⟨by rw [hM], hS76.below⟩
            ·
              have hM := hM.trans (if_f hb86)
              have hb86f : (laws_heldStringS ((laws_markStringS (impl_TxLines (laws_toTxS p0)) 1).1) 1) = (laws_markStringS (impl_TxLines (laws_toTxS p0)) 1).2 := by simpa using hb86
              refine wp_skip ?_
              refine then_normal ?_
              refine wp_seq (wp_region_lit ?_)
              refine st_val hE85 (y_move hE85 rfl) rfl fun a88 hE88 => st_callS hE88 hS76 Tryd.func24 fb24 fn24 (c_laws_toTxS p0 (hS76.up hp0) hsm0) rfl rfl fun A89 cp89 F89 w89 hx89 hS89 a90 hE90 => st_callS hE90 hS89 Tryd.func25 fb25 fn25 (c_impl_TxLines (laws_toTxS p0) (hS89.ownl (k := 0) rfl) (GV.sh hS89 hG7) (by rw [laws_toTxS_id]; exact hsm0)) rfl rfl fun A91 cp91 F91 w91 hx91 hS91 a92 hE92 => st_val hE92 (y_assign hE92 rfl) rfl fun a93 hE93 => wpList_nil ?_
              clear hE85 hE88 hE90 hE92
              clear a85 a88 a90 a92
              refine then_normal ?_
              refine wp_seq (wp_seq (wp_region_lit ?_))
              refine st_val hE93 (y_move hE93 rfl) rfl fun a94 hE94 => st_val hE94 (y_move hE94 rfl) rfl fun a95 hE95 => st_callF hE95 hS91 Tryd.func26 fb26 fn26 (c_laws_eqStringS (impl_TxLines (laws_toTxS p0)) (spec_TxLines (laws_toTxS p0)) (hS91.ownl (k := 0) rfl) (hS91.ownl (k := 5) rfl)) rfl rfl fun w96 hS96 a97 hE97 => st_val hE97 (y_not hE97 rfl) rfl fun a98 hE98 => wpList_nil ?_
              clear hE93 hE94 hE95 hE97
              clear a93 a94 a95 a97
              refine then_normal ?_
              refine wp_cond_false ((hE98.eval rfl).trans (congrArg Value.bool hb31)) ?_
              refine wp_skip ?_
              refine then_normal ?_
              refine wp_seq (wp_region_lit ?_)
              refine st_val hE98 (y_assign hE98 rfl) rfl fun a99 hE99 => wpList_nil ?_
              clear hE98
              clear a98
              refine then_normal ?_
              refine wp_seq (wp_region_lit ?_)
              refine st_val hE99 (y_move hE99 rfl) rfl fun a100 hE100 => st_val hE100 (y_move hE100 rfl) rfl fun a101 hE101 => st_callF hE101 hS96 Tryd.func30 fb30 fn30 (c_laws_heldStringS ((laws_markStringS (impl_TxLines (laws_toTxS p0)) 1).1) 1 (hS96.ownl (k := 2) rfl) (by unfold I64; omega)) rfl rfl fun w102 hS102 a103 hE103 => st_val hE103 (y_assign hE103 rfl) rfl fun a104 hE104 => wpList_nil ?_
              clear hE99 hE100 hE101 hE103
              clear a99 a100 a101 a103
              refine then_normal ?_
              refine wp_seq (wp_seq (wp_region_lit ?_))
              refine st_val hE104 (y_move hE104 rfl) rfl fun a105 hE105 => st_val hE105 (y_lss hE105 rfl rfl) rfl fun a106 hE106 => wpList_nil ?_
              clear hE104 hE105
              clear a104 a105
              refine then_normal ?_
              refine wp_cond_false ((hE106.eval rfl).trans (congrArg Value.bool hb81)) ?_
              refine wp_skip ?_
              refine then_normal ?_
              refine wp_seq (wp_seq (wp_region_lit ?_))
              refine st_val hE106 (y_move hE106 rfl) rfl fun a107 hE107 => st_val hE107 (y_move hE107 rfl) rfl fun a108 hE108 => st_val hE108 (y_neq hE108 rfl rfl) rfl fun a109 hE109 => wpList_nil ?_
              clear hE106 hE107 hE108
              clear a106 a107 a108
              refine then_normal ?_
              refine wp_cond_false ((hE109.eval rfl).trans (congrArg Value.bool hb86)) ?_
              refine wp_skip ?_
              refine then_normal ?_
              refine wp_seq (wp_region_lit ?_)
              refine st_val hE109 (y_assign hE109 rfl) rfl fun a110 hE110 => wpList_nil ?_
              clear hE109
              clear a109
              refine then_normal ?_
              refine wp_ret ?_
              exact fin1 hE110 rfl rfl ⟨by rw [hM], hS102.below⟩


theorem TxLines_l1_twin (p0 : List Tx) (hg : Dat.good p0) : ∀ n i y, n = p0.length - i → impl_TxLines_l1 p0 n i y = spec_TxLines_l1 p0 n i y ∧ (spec_TxLines_l1 p0 n i y).length = y.length + n := by
  intro n
  induction n with
  | zero => intro i y _; exact ⟨rfl, rfl⟩
  | succ n ih =>
    intro i y hn
    have hge : Dat.good (nth p0 i) := good_nth hg (by omega)
    rw [impl_TxLines_l1, spec_TxLines_l1, TxLine_twin hge]
    obtain ⟨h1, h2⟩ := ih (i + 1) (y ++ [spec_TxLine (nth p0 i)]) (by omega)
    refine ⟨h1, ?_⟩
    rw [h2]
    simp only [List.length_append, List.length_cons, List.length_nil]
    omega
theorem laws_FnExactTxLines_true (p0 : List Tx) (hg0 : Dat.good p0) : laws_FnExactTxLines p0 = true := by
  unfold laws_FnExactTxLines
  by_cases hc : laws_szTxS p0 1048576 < 0
  · simp [hc]
  · obtain ⟨hs, _, _⟩ := laws_szTxS_small p0 1048576 (by omega) (by omega) hg0 hc
    have hl : p0.length ≤ 1048576 := hs.1
    have ht := TxLines_l1_twin p0 hg0 (p0.length - 0) 0 [] rfl
    have htw : impl_TxLines p0 = spec_TxLines p0 := ht.1
    have hlen : (spec_TxLines p0).length ≤ 1099511627776 := by
      have := ht.2
      simp only [List.length_nil] at this
      unfold spec_TxLines
      omega
    have hk := laws_markTxS_pos hs
    have hm := laws_heldStringS_marked (y := spec_TxLines p0) hlen
    have hk' : ¬ (laws_markTxS p0 1).2 < 0 := by omega
    have hm' : ¬ (laws_markStringS (spec_TxLines p0) 1).2 < 0 := by omega
    simp only [laws_toTxS_id, htw, laws_eqStringS_same, laws_eqTxS_refl, hm.1]
    simp [hc, hk', hm']

end Go.Proofs.YtmjjcihoobnbgaaDoor.Fw

namespace Go.Proofs.YtmjjcihoobnbgaaDoor.fnExactTxLines
open Go.ChangeShapes Go.WideShapes Go.ChangeAt Go.RowKit Go.Proofs.YtmjjcihoobnbgaaDoor.Fw
set_option linter.unusedVariables false

theorem own : ownKnob Tryd.prog.godebug = none := by kernel_rfl
theorem laidOut : laidOutB Tryd.prog = true := by kernel_rfl

theorem door_met (os : Os) (args : Array Value) : laidMetH Tryd.prog Rows.fnExactTxLinesRow.laid ((World.doorLaid Tryd.prog 400 os).forCall (fun _ _ => 0) ⟨#[], args, []⟩).memory :=
  laidMetH_of_parts3 (fuel := 8) (laidMet_of_run' 8 (by kernel_rfl) (by kernel_rfl)) (by kernel_rfl) (by kernel_rfl)
theorem of_laid {W : World} (h : laidMetH Tryd.prog Rows.fnExactTxLinesRow.laid W) : GV 9 (gl9.map (Value.int .u8)) W ∧ GV 10 (gl10.map (Value.int .u8)) W ∧ GV 7 (gl7.map (Value.int .u64)) W := by
  rw [MakeChecks.laidMetH_plain _ _ _ (by kernel_rfl)] at h
  obtain ⟨ps, ⟨g0, t0, cs0, f0, p0, q0, hg0, ht0, hv0, hd0, ⟨g1, t1, cs1, f1, p1, q1, hg1, ht1, hv1, hd1, ⟨g2, t2, cs2, f2, p2, q2, hg2, ht2, hv2, hd2, _, _⟩, _⟩, _⟩, _, _⟩ := h
  obtain rfl := Option.some.inj ((show Tryd.prog.globalNamed "math/bits.deBruijn32tab" = some 9 by kernel_rfl).symm.trans hg0)
  obtain rfl := Option.some.inj ((show (Tryd.prog.globals[9]?).map (·.type) = some 200 by kernel_rfl).symm.trans ht0)
  obtain rfl := Option.some.inj ((show Tryd.prog.globalNamed "math/bits.deBruijn64tab" = some 10 by kernel_rfl).symm.trans hg1)
  obtain rfl := Option.some.inj ((show (Tryd.prog.globals[10]?).map (·.type) = some 201 by kernel_rfl).symm.trans ht1)
  obtain rfl := Option.some.inj ((show Tryd.prog.globalNamed "internal/strconv.uint64pow10" = some 7 by kernel_rfl).symm.trans hg2)
  obtain rfl := Option.some.inj ((show (Tryd.prog.globals[7]?).map (·.type) = some 192 by kernel_rfl).symm.trans ht2)
  exact ⟨GV_ints (names := gl9) hg0 Tryd.underlying200 Tryd.underlying5 (by kernel_rfl) (by kernel_rfl) hv0 hd0, GV_ints (names := gl10) hg1 Tryd.underlying201 Tryd.underlying5 (by kernel_rfl) (by kernel_rfl) hv1 hd1, GV_ints (names := gl7) hg2 Tryd.underlying192 Tryd.underlying175 (by kernel_rfl) (by kernel_rfl) hv2 hd2⟩

set_option maxRecDepth 100000 in
theorem lifted (os : Os) (started : os.Started) (H : Type) (enc : TypeId × Value → H) :
    ReturnsInHanded {} Tryd.checked os 6 .any (fun w args => (Rows.fnExactTxLinesSpec.pre enc Tryd.prog Tryd.f6 Rows.fnExactTxLinesRow.domain false w args ∧ laidMetH Tryd.prog Rows.fnExactTxLinesRow.laid w) ∧ sizedMet enc Tryd.prog Tryd.f6 (OpenSpec.ofChange Rows.fnExactTxLinesSpec) false w args) (Rows.fnExactTxLinesSpec.post enc Tryd.prog Tryd.f6 false true false false) := by
  refine returnsInHanded_of_change_and (C := Tryd.checked) (X := fun w _ => laidMetH Tryd.prog Rows.fnExactTxLinesRow.laid w) (fun _ _ _ hh h => h.of_heap hh) own started (by kernel_rfl) Tryd.func6
    (ChangeSpec.witness_shaped (enc := enc) (C := Tryd.checked) (os := os) (X := fun w _ => laidMetH Tryd.prog Rows.fnExactTxLinesRow.laid w) false (World.doorLaid Tryd.prog 400 os) #[.slice none 0 0] 8 rfl (World.shaped_of_RefB (by kernel_rfl) (by kernel_rfl)) (by kernel_rfl) (by kernel_rfl) (by kernel_rfl) (door_met os _)) ?_
  intro W base args ds gs before hval0 hW hcnd _ hL _
  have hval : ∀ (j : Nat) t v, Tryd.f6.params[j]? = some t → args[j]? = some v → Value.okWide Tryd.prog W .any base t v := hval0
  have hW' := hW
  obtain ⟨p, q, hA0, hV, rfl, hfz, hnd⟩ := hW
  have hA : DataW.TrodAll enc Tryd.prog W 0 (fun _ => true) true Tryd.f6.params.toList args.toList ds p := hA0
  rw [Tryd.params6] at hA hval
  obtain ⟨v0, vs0, d0, ds0, p0, q0, hargs, rfl, rfl, h0, r0⟩ := trodAll_cons hA
  obtain ⟨rfl, rfl, rfl⟩ := trodAll_nil r0
  obtain rfl : args = #[v0] := by cases args; simp_all
  obtain rfl := trodVars_end hV
  obtain ⟨hG9, hG10, hG7⟩ := of_laid hL
  have k0 := h0
  have lt0 : ∀ x ∈ p0, x.block < W.heap.size := by obtain ⟨m, hm⟩ := k0; exact DataW.trod_lt m _ _ _ hm
  obtain ⟨A0, len0, cap0, rfl⟩ := okWide_slice Tryd.underlying41 (hval 0 41 v0 rfl rfl)
  obtain ⟨x0, hx0⟩ : ∃ x : List Tx, SlR (Old W) W (.slice A0 len0 cap0) x := by
    obtain ⟨fuel, hf⟩ := h0
    obtain ⟨x, v, hv, hx⟩ := rd41 hf
    cases hv
    exact ⟨x, hx⟩
  have hc := c_laws_FnExactTxLines (w := W) x0 hx0 hG7
  refine hc.mono fun e W' ⟨he, bel⟩ => ?_
  rw [laws_FnExactTxLines_true x0 (Dat.rd_good (B := Old W) (w := W) (cs := [_]) ⟨_, rfl, hx0⟩)] at he
  subst he
  exact ⟨_, rfl, _, _, _, [], _, _, hW', trodAll_mk1 (shut_bool Tryd.underlying4 _), (trodAll_cons_mk (Below.trod laidOut (by kernel_rfl) (of_decide_eq_true (by kernel_rfl)) k0 bel lt0) trodAll_mk0), vars_below laidOut bel _ (by kernel_rfl) hV, bel.frame _, fun h => by cases h⟩

theorem over : Rows.fnExactTxLinesRow.holds Tryd.pinned (OpenSpec.ofChange Rows.fnExactTxLinesSpec) :=
  OpenClaim.holds_of_wide 6 Tryd.f6 rfl rfl rfl rfl rfl rfl rfl ⟨rfl, rfl, rfl, rfl, rfl⟩ rfl rfl rfl rfl rfl (by kernel_rfl) Tryd.func6 (by kernel_rfl)
    (of_decide_eq_true (by kernel_rfl)) (by unfold Func.isWrapper; first | (rw [if_pos (by decide +kernel)]; kernel_rfl) | (rw [if_neg (by decide +kernel)]; exact ⟨rfl, rfl⟩))
    (fun os started H enc _ => lifted os started H enc)

theorem card : Rows.FnExactTxLinesCardSaid :=
  Claim7.holds_tied_plain_at .later [] [.data, .data, .data] true (true, "c92ada5cff6e9dda2d5334594b9f58e624b37b383a7acb95d78510338284d01f") true
    over (fun _ h => by cases h) (by kernel_rfl) (fun _ h => by cases h) fnExactTxLines_row_tie rfl ⟨rfl, rfl⟩ (by kernel_rfl) rfl
    (fun f fn hf hfn => by
      obtain rfl : f = 6 := Option.some.inj ((show Tryd.prog.funcNamed "loop.example/g00974/laws.FnExactTxLines" = some 6 by kernel_rfl).symm.trans hf) |>.symm
      obtain rfl : fn = Tryd.f6 := (Option.some.inj (Tryd.func6.symm.trans hfn)).symm
      exact ⟨by kernel_rfl, fun j t ht => by
        rw [Tryd.params6] at ht
        have hm : t ∈ [41] := by simpa using Array.mem_of_getElem? ht
        have hall : ([41].all fun u => !Tryd.prog.wantsStandIn u) = true := by kernel_rfl
        exact (show Tryd.prog.wantsStandIn t = false by simpa using List.all_eq_true.1 hall t hm)⟩)
    (by kernel_rfl)
end Go.Proofs.YtmjjcihoobnbgaaDoor.fnExactTxLines
namespace Go.Proofs.YtmjjcihoobnbgaaDoor
/-- The statement. -/
theorem fnExactTxLines_proved : Rows.FnExactTxLinesCardSaid := fnExactTxLines.card
#print axioms fnExactTxLines_proved
end Go.Proofs.YtmjjcihoobnbgaaDoor
