/- The law FnExactOutsOf: for every input it returns true, and what came in is as it was. No condition. By program (wip/gen). -/
import Derived.Test.YtpfnofdaaekglaaC6
import Derived.Test.YtpfnofdaaekglaaP4
import Derived.Test.YtpfnofdaaekglaaRows
import Derived.OpenShut
import Derived.ChangeOld
namespace Go.Proofs.Ytpfnofdaaekglaa.Fw
open Go.RowKit
set_option linter.unusedVariables false
set_option linter.unusedSimpArgs false

theorem fb11 : Try.f11.body.isNone = false := rfl
theorem fb13 : Try.f13.body.isNone = false := rfl
theorem fb15 : Try.f15.body.isNone = false := rfl
theorem fb21 : Try.f21.body.isNone = false := rfl
theorem fb24 : Try.f24.body.isNone = false := rfl
theorem fb25 : Try.f25.body.isNone = false := rfl
theorem fb26 : Try.f26.body.isNone = false := rfl
theorem fb27 : Try.f27.body.isNone = false := rfl
theorem fb28 : Try.f28.body.isNone = false := rfl
theorem fn11 : (Try.f11.name == "runtime.NumGoroutine") = false := by kernel_rfl
theorem fn13 : (Try.f13.name == "runtime.NumGoroutine") = false := by kernel_rfl
theorem fn15 : (Try.f15.name == "runtime.NumGoroutine") = false := by kernel_rfl
theorem fn21 : (Try.f21.name == "runtime.NumGoroutine") = false := by kernel_rfl
theorem fn24 : (Try.f24.name == "runtime.NumGoroutine") = false := by kernel_rfl
theorem fn25 : (Try.f25.name == "runtime.NumGoroutine") = false := by kernel_rfl
theorem fn26 : (Try.f26.name == "runtime.NumGoroutine") = false := by kernel_rfl
theorem fn27 : (Try.f27.name == "runtime.NumGoroutine") = false := by kernel_rfl
theorem fn28 : (Try.f28.name == "runtime.NumGoroutine") = false := by kernel_rfl

theorem rd3 : Reads Try.prog 3 Int := reads_int Try.underlying3
theorem rd9 : Reads Try.prog 9 ByteArray := reads_string Try.underlying9
theorem rd132 : Reads Try.prog 132 Call := by
  intro H enc W fuel cs x h
  obtain ⟨a0, h0⟩ := reads_field (α := Int) (o := 0) (by kernel_rfl : chkFieldT Try.prog 132 0 0 3 1 = true) rd3 h
  obtain ⟨a1, h1⟩ := reads_field (α := ByteArray) (o := 1) (by kernel_rfl : chkFieldT Try.prog 132 1 1 9 1 = true) rd9 h
  obtain ⟨a2, h2⟩ := reads_field (α := ByteArray) (o := 2) (by kernel_rfl : chkFieldT Try.prog 132 2 2 9 1 = true) rd9 h
  obtain ⟨a3, h3⟩ := reads_field (α := Int) (o := 3) (by kernel_rfl : chkFieldT Try.prog 132 3 3 3 1 = true) rd3 h
  obtain ⟨a4, h4⟩ := reads_field (α := Int) (o := 4) (by kernel_rfl : chkFieldT Try.prog 132 4 4 3 1 = true) rd3 h
  obtain ⟨a5, h5⟩ := reads_field (α := ByteArray) (o := 5) (by kernel_rfl : chkFieldT Try.prog 132 5 5 9 1 = true) rd9 h
  have hl := struct_len agg132 Try.underlying132 h
  have e : cs = (cs.drop 0).take 6 := by rw [List.drop_zero, List.take_of_length_le (by omega)]
  refine ⟨⟨a0, a1, a2, a3, a4, a5⟩, ?_⟩
  rw [e]
  exact rd_pair h0 (rd_pair h1 (rd_pair h2 (rd_pair h3 (rd_pair h4 h5))))
theorem rd134 : Reads Try.prog 134 Step := by
  intro H enc W fuel cs x h
  obtain ⟨a0, h0⟩ := reads_field (α := Int) (o := 0) (by kernel_rfl : chkFieldT Try.prog 134 0 0 3 1 = true) rd3 h
  obtain ⟨a1, h1⟩ := reads_field (α := Call) (o := 1) (by kernel_rfl : chkFieldT Try.prog 134 1 1 132 6 = true) rd132 h
  have hl := struct_len agg134 Try.underlying134 h
  have e : cs = (cs.drop 0).take 7 := by rw [List.drop_zero, List.take_of_length_le (by omega)]
  refine ⟨⟨a0, a1⟩, ?_⟩
  rw [e]
  exact rd_pair h0 h1
theorem rd67 : Reads Try.prog 67 (List Step) := reads_slice sl67 (by kernel_rfl) rd134
theorem rd136 : Reads Try.prog 136 Answer := by
  intro H enc W fuel cs x h
  obtain ⟨a0, h0⟩ := reads_field (α := Int) (o := 0) (by kernel_rfl : chkFieldT Try.prog 136 0 0 3 1 = true) rd3 h
  obtain ⟨a1, h1⟩ := reads_field (α := Int) (o := 1) (by kernel_rfl : chkFieldT Try.prog 136 1 1 3 1 = true) rd3 h
  obtain ⟨a2, h2⟩ := reads_field (α := ByteArray) (o := 2) (by kernel_rfl : chkFieldT Try.prog 136 2 2 9 1 = true) rd9 h
  have hl := struct_len agg136 Try.underlying136 h
  have e : cs = (cs.drop 0).take 3 := by rw [List.drop_zero, List.take_of_length_le (by omega)]
  refine ⟨⟨a0, a1, a2⟩, ?_⟩
  rw [e]
  exact rd_pair h0 (rd_pair h1 h2)
theorem rd68 : Reads Try.prog 68 (List Answer) := reads_slice sl68 (by kernel_rfl) rd136
theorem rd4 : Reads Try.prog 4 Bool := reads_bool Try.underlying4
theorem rd70 : Reads Try.prog 70 Entry := by
  intro H enc W fuel cs x h
  obtain ⟨a0, h0⟩ := reads_field (α := Int) (o := 0) (by kernel_rfl : chkFieldT Try.prog 70 0 0 3 1 = true) rd3 h
  obtain ⟨a1, h1⟩ := reads_field (α := Int) (o := 1) (by kernel_rfl : chkFieldT Try.prog 70 1 1 3 1 = true) rd3 h
  obtain ⟨a2, h2⟩ := reads_field (α := Int) (o := 2) (by kernel_rfl : chkFieldT Try.prog 70 2 2 3 1 = true) rd3 h
  obtain ⟨a3, h3⟩ := reads_field (α := List Step) (o := 3) (by kernel_rfl : chkFieldT Try.prog 70 3 3 67 1 = true) rd67 h
  obtain ⟨a4, h4⟩ := reads_field (α := List Answer) (o := 4) (by kernel_rfl : chkFieldT Try.prog 70 4 4 68 1 = true) rd68 h
  obtain ⟨a5, h5⟩ := reads_field (α := Int) (o := 5) (by kernel_rfl : chkFieldT Try.prog 70 5 5 3 1 = true) rd3 h
  obtain ⟨a6, h6⟩ := reads_field (α := Int) (o := 6) (by kernel_rfl : chkFieldT Try.prog 70 6 6 3 1 = true) rd3 h
  obtain ⟨a7, h7⟩ := reads_field (α := Bool) (o := 7) (by kernel_rfl : chkFieldT Try.prog 70 7 7 4 1 = true) rd4 h
  have hl := struct_len agg70 Try.underlying70 h
  have e : cs = (cs.drop 0).take 8 := by rw [List.drop_zero, List.take_of_length_le (by omega)]
  refine ⟨⟨a0, a1, a2, a3, a4, a5, a6, a7⟩, ?_⟩
  rw [e]
  exact rd_pair h0 (rd_pair h1 (rd_pair h2 (rd_pair h3 (rd_pair h4 (rd_pair h5 (rd_pair h6 h7))))))
theorem rd24 : Reads Try.prog 24 (List Entry) := reads_slice sl24 (by kernel_rfl) rd70

def laws_FnExactOutsOf (p0 : List Entry) : Bool := (if (decide ((laws_szEntryS p0 1048576) < 0)) = true then true else (if (!(laws_eqStringS (impl_OutsOf (laws_toEntryS p0)) (spec_OutsOf (laws_toEntryS p0)))) = true then false else (if (!(laws_eqEntryS (laws_toEntryS p0) (laws_toEntryS p0))) = true then false else (if ((decide ((laws_markEntryS (laws_toEntryS p0) 1).2 < 0)) || (!(laws_eqStringS (impl_OutsOf (laws_toEntryS p0)) (spec_OutsOf (laws_toEntryS p0))))) = true then false else (if (decide ((laws_heldStringS ((laws_markStringS (impl_OutsOf (laws_toEntryS p0)) 1).1) 1) < 0)) = true then false else (if (!decide ((laws_heldStringS ((laws_markStringS (impl_OutsOf (laws_toEntryS p0)) 1).1) 1) = (laws_markStringS (impl_OutsOf (laws_toEntryS p0)) 1).2)) = true then false else true))))))
theorem c_laws_FnExactOutsOf {v0 : Value} (p0 : List Entry) {w : World} (hp0 : SlR (Old w) w v0 p0) :
    Calls Try.prog 7 [v0].toArray w (fun e w' => e = .returned (.bool (laws_FnExactOutsOf p0)) ∧ Below w.heap.size w w') := by
  obtain ⟨A0, cap0, rfl, hx0⟩ := hp0.form
  refine enter Try.func7 rfl Try.ntmps7 (Nat.le_of_ble_eq_true rfl) ?_
  intro a0 hE0
  have hS0 := SH.start w
  have hM := laws_FnExactOutsOf.eq_1 p0
  have hgd0 : Dat.good p0 := Dat.rd_good (B := Old w) (w := w) (cs := [_]) ⟨_, rfl, hp0⟩
  refine wp_seq (wp_region_lit ?_)
  refine st_val hE0 (y_assign hE0 rfl) rfl fun a1 hE1 => wpList_nil ?_
  clear hE0
  clear a0
  refine then_normal ?_
  refine wp_seq (wp_region_lit ?_)
  refine st_val hE1 (y_assign hE1 rfl) rfl fun a2 hE2 => wpList_nil ?_
  clear hE1
  clear a1
  refine then_normal ?_
  refine wp_seq (wp_region_lit ?_)
  refine st_val hE2 (y_move hE2 rfl) rfl fun a3 hE3 => st_val hE3 (y_move hE3 rfl) rfl fun a4 hE4 => st_callF hE4 hS0 Try.func11 fb11 fn11 (c_laws_szEntryS p0 1048576 (hS0.up hp0)) rfl rfl fun w5 hS5 a6 hE6 => st_val hE6 (y_assign hE6 rfl) rfl fun a7 hE7 => wpList_nil ?_
  clear hE2 hE3 hE4 hE6
  clear a2 a3 a4 a6
  refine then_normal ?_
  refine wp_seq (wp_seq (wp_region_lit ?_))
  refine st_val hE7 (y_move hE7 rfl) rfl fun a8 hE8 => st_val hE8 (y_lss hE8 rfl rfl) rfl fun a9 hE9 => wpList_nil ?_
  clear hE7 hE8
  clear a7 a8
  refine then_normal ?_
  refine cond_split hE9 rfl (fun hb10 => ?_) (fun hb10 => ?_)
  ·
    have hM := hM.trans (if_t hb10)
    have hb10f : (laws_szEntryS p0 1048576) < 0 := of_decide_eq_true hb10
    refine wp_seq (wp_region_lit ?_)
    refine st_val hE9 (y_assign hE9 rfl) rfl fun a11 hE11 => wpList_nil ?_
    clear hE9
    clear a9
    refine then_normal ?_
    refine wp_ret ?_
    refine then_ret ?_
    exact fin1 hE11 rfl rfl ⟨by rw [hM], hS5.below⟩
  ·
    have hM := hM.trans (if_f hb10)
    have hb10f : ¬ ((laws_szEntryS p0 1048576) < 0) := of_decide_eq_false hb10
    obtain ⟨hsm0, hle0, hle0_⟩ := laws_szEntryS_small p0 1048576 (by omega) (by omega) hgd0 hb10f
    have hln0 : p0.length ≤ 1048576 := hsm0.1
    refine wp_skip ?_
    refine then_normal ?_
    refine wp_seq (wp_region_lit ?_)
    refine st_val hE9 (y_move hE9 rfl) rfl fun a12 hE12 => st_callS hE12 hS5 Try.func13 fb13 fn13 (c_laws_toEntryS p0 (hS5.up hp0) hsm0) rfl rfl fun A13 cp13 F13 w13 hx13 hS13 a14 hE14 => st_callS hE14 hS13 Try.func24 fb24 fn24 (c_spec_OutsOf (laws_toEntryS p0) (hS13.ownl (k := 0) rfl) (by rw [laws_toEntryS_id]; exact hsm0)) rfl rfl fun A15 cp15 F15 w15 hx15 hS15 a16 hE16 => st_val hE16 (y_assign hE16 rfl) rfl fun a17 hE17 => wpList_nil ?_
    clear hE9 hE12 hE14 hE16
    clear a9 a12 a14 a16
    refine then_normal ?_
    refine wp_seq (wp_region_lit ?_)
    refine st_val hE17 (y_move hE17 rfl) rfl fun a18 hE18 => st_callS hE18 hS15 Try.func13 fb13 fn13 (c_laws_toEntryS p0 (hS15.up hp0) hsm0) rfl rfl fun A19 cp19 F19 w19 hx19 hS19 a20 hE20 => st_val hE20 (y_assign hE20 rfl) rfl fun a21 hE21 => wpList_nil ?_
    clear hE17 hE18 hE20
    clear a17 a18 a20
    refine then_normal ?_
    refine wp_seq (wp_region_lit ?_)
    refine st_val hE21 (y_move hE21 rfl) rfl fun a22 hE22 => st_callS hE22 hS19 Try.func25 fb25 fn25 (c_impl_OutsOf (laws_toEntryS p0) (hS19.ownl (k := 0) rfl) (by rw [laws_toEntryS_id]; exact hsm0)) rfl rfl fun A23 cp23 F23 w23 hx23 hS23 a24 hE24 => st_val hE24 (y_assign hE24 rfl) rfl fun a25 hE25 => wpList_nil ?_
    clear hE21 hE22 hE24
    clear a21 a22 a24
    refine then_normal ?_
    refine wp_seq (wp_seq (wp_region_lit ?_))
    refine st_val hE25 (y_move hE25 rfl) rfl fun a26 hE26 => st_val hE26 (y_move hE26 rfl) rfl fun a27 hE27 => st_callF hE27 hS23 Try.func26 fb26 fn26 (c_laws_eqStringS (impl_OutsOf (laws_toEntryS p0)) (spec_OutsOf (laws_toEntryS p0)) (hS23.ownl (k := 0) rfl) (hS23.ownl (k := 2) rfl)) rfl rfl fun w28 hS28 a29 hE29 => st_val hE29 (y_not hE29 rfl) rfl fun a30 hE30 => wpList_nil ?_
    clear hE25 hE26 hE27 hE29
    clear a25 a26 a27 a29
    refine then_normal ?_
    refine cond_split hE30 rfl (fun hb31 => ?_) (fun hb31 => ?_)
    ·
      have hM := hM.trans (if_t hb31)
      refine wp_seq (wp_region_lit ?_)
      refine st_val hE30 (y_assign hE30 rfl) rfl fun a32 hE32 => wpList_nil ?_
      clear hE30
      clear a30
      refine then_normal ?_
      refine wp_ret ?_
      refine then_ret ?_
      exact fin1 hE32 rfl rfl ⟨by rw [hM], hS28.below⟩
    ·
      have hM := hM.trans (if_f hb31)
      refine wp_skip ?_
      refine then_normal ?_
      refine wp_seq (wp_seq (wp_region_lit ?_))
      refine st_val hE30 (y_move hE30 rfl) rfl fun a33 hE33 => st_val hE33 (y_move hE33 rfl) rfl fun a34 hE34 => st_callS hE34 hS28 Try.func13 fb13 fn13 (c_laws_toEntryS p0 (hS28.up hp0) hsm0) rfl rfl fun A35 cp35 F35 w35 hx35 hS35 a36 hE36 => st_callF hE36 hS35 Try.func15 fb15 fn15 (c_laws_eqEntryS (laws_toEntryS p0) (laws_toEntryS p0) (hS35.ownl (k := 2) rfl) (hS35.ownl (k := 0) rfl)) rfl rfl fun w37 hS37 a38 hE38 => st_val hE38 (y_not hE38 rfl) rfl fun a39 hE39 => wpList_nil ?_
      clear hE30 hE33 hE34 hE36 hE38
      clear a30 a33 a34 a36 a38
      refine then_normal ?_
      refine cond_split hE39 rfl (fun hb40 => ?_) (fun hb40 => ?_)
      ·
        have hM := hM.trans (if_t hb40)
        refine wp_seq (wp_region_lit ?_)
        refine st_val hE39 (y_assign hE39 rfl) rfl fun a41 hE41 => wpList_nil ?_
        clear hE39
        clear a39
        refine then_normal ?_
        refine wp_ret ?_
        refine then_ret ?_
        exact fin1 hE41 rfl rfl ⟨by rw [hM], hS37.below⟩
      ·
        have hM := hM.trans (if_f hb40)
        refine wp_skip ?_
        refine then_normal ?_
        refine wp_seq (wp_region_lit ?_)
        refine st_val hE39 (y_assign hE39 rfl) rfl fun a42 hE42 => wpList_nil ?_
        clear hE39
        clear a39
        refine then_normal ?_
        refine wp_seq (wp_region_lit ?_)
        refine st_val hE42 (y_move hE42 rfl) rfl fun a43 hE43 => st_val hE43 (y_move hE43 rfl) rfl fun a44 hE44 => ?_
        have hP45 : SH (Old w) w w37 (Ck.own (α := List Entry) [.slice A19 ((laws_toEntryS p0).length) cp19] (laws_toEntryS p0) F19 :: [Ck.own (α := List Entry) [.slice A35 ((laws_toEntryS p0).length) cp35] (laws_toEntryS p0) F35, Ck.own (α := List ByteArray) [.slice A23 ((impl_OutsOf (laws_toEntryS p0)).length) cp23] (impl_OutsOf (laws_toEntryS p0)) F23, Ck.own (α := List ByteArray) [.slice A15 ((spec_OutsOf (laws_toEntryS p0)).length) cp15] (spec_OutsOf (laws_toEntryS p0)) F15, Ck.own (α := List Entry) [.slice A13 ((laws_toEntryS p0).length) cp13] (laws_toEntryS p0) F13]) := (hS37.pick [2, 0, 1, 3, 4] (by decide) rfl)
        refine st_callM (c := Ck.own (α := List Entry) [.slice A19 ((laws_toEntryS p0).length) cp19] (laws_toEntryS p0) F19) (c' := fun F45 => Ck.own (α := List Entry) [.slice A19 ((laws_toEntryS p0).length) cp19] ((laws_markEntryS (laws_toEntryS p0) 1).1) F45) (R := I64 (laws_markEntryS (laws_toEntryS p0) 1).2) hE44 hP45 Try.func21 fb21 fn21 (c_laws_markEntryS (laws_toEntryS p0) 1 (SH.off (M := [Ck.own (α := List Entry) [.slice A19 ((laws_toEntryS p0).length) cp19] (laws_toEntryS p0) F19]) (R := [Ck.own (α := List Entry) [.slice A35 ((laws_toEntryS p0).length) cp35] (laws_toEntryS p0) F35, Ck.own (α := List ByteArray) [.slice A23 ((impl_OutsOf (laws_toEntryS p0)).length) cp23] (impl_OutsOf (laws_toEntryS p0)) F23, Ck.own (α := List ByteArray) [.slice A15 ((spec_OutsOf (laws_toEntryS p0)).length) cp15] (spec_OutsOf (laws_toEntryS p0)) F15, Ck.own (α := List Entry) [.slice A13 ((laws_toEntryS p0).length) cp13] (laws_toEntryS p0) F13]) hP45) (by unfold I64; omega)) rfl rfl fun F45 w45 hR45 hS45 a46 hE46 => st_val hE46 (y_assign hE46 rfl) rfl fun a47 hE47 => wpList_nil ?_
        clear hE42 hE43 hE44 hE46
        clear a42 a43 a44 a46
        refine then_normal ?_
        refine wp_seq (wp_seq (wp_region_lit ?_))
        refine st_val hE47 (y_move hE47 rfl) rfl fun a48 hE48 => st_val hE48 (y_lss hE48 rfl rfl) rfl fun a49 hE49 => st_val hE49 (y_move hE49 rfl) rfl fun a50 hE50 => ?_
        refine st_mid 5 (fun a w2 => ∃ r : Bool, r = ((decide ((laws_markEntryS (laws_toEntryS p0) 1).2 < 0)) || (!(laws_eqStringS (impl_OutsOf (laws_toEntryS p0)) (spec_OutsOf (laws_toEntryS p0))))) ∧ SH (Old w) w w2 [Ck.own (α := List Entry) [.slice A19 ((laws_toEntryS p0).length) cp19] ((laws_markEntryS (laws_toEntryS p0) 1).1) F45, Ck.own (α := List Entry) [.slice A35 ((laws_toEntryS p0).length) cp35] (laws_toEntryS p0) F35, Ck.own (α := List ByteArray) [.slice A23 ((impl_OutsOf (laws_toEntryS p0)).length) cp23] (impl_OutsOf (laws_toEntryS p0)) F23, Ck.own (α := List ByteArray) [.slice A15 ((spec_OutsOf (laws_toEntryS p0)).length) cp15] (spec_OutsOf (laws_toEntryS p0)) F15, Ck.own (α := List Entry) [.slice A13 ((laws_toEntryS p0).length) cp13] (laws_toEntryS p0) F13] ∧ Env 69 ((42, .bool r) :: [(0, .slice A0 p0.length cap0), (2, .bool false), (3, .int .i64 (laws_szEntryS p0 1048576)), (4, .slice A15 ((spec_OutsOf (laws_toEntryS p0)).length) cp15), (5, .slice A19 ((laws_toEntryS p0).length) cp19), (6, .slice A23 ((impl_OutsOf (laws_toEntryS p0)).length) cp23), (7, .int .i64 ((laws_markEntryS (laws_toEntryS p0) 1).2)), (11, .slice A0 p0.length cap0), (12, .int .i64 1048576), (13, .int .i64 (laws_szEntryS p0 1048576)), (14, .int .i64 (laws_szEntryS p0 1048576)), (15, .bool (decide ((laws_szEntryS p0 1048576) < 0))), (16, .slice A0 p0.length cap0), (17, .slice A13 ((laws_toEntryS p0).length) cp13), (18, .slice A15 ((spec_OutsOf (laws_toEntryS p0)).length) cp15), (19, .slice A0 p0.length cap0), (20, .slice A19 ((laws_toEntryS p0).length) cp19), (21, .slice A19 ((laws_toEntryS p0).length) cp19), (22, .slice A23 ((impl_OutsOf (laws_toEntryS p0)).length) cp23), (23, .slice A23 ((impl_OutsOf (laws_toEntryS p0)).length) cp23), (24, .slice A15 ((spec_OutsOf (laws_toEntryS p0)).length) cp15), (25, .bool (laws_eqStringS (impl_OutsOf (laws_toEntryS p0)) (spec_OutsOf (laws_toEntryS p0)))), (26, .bool (!(laws_eqStringS (impl_OutsOf (laws_toEntryS p0)) (spec_OutsOf (laws_toEntryS p0))))), (27, .slice A19 ((laws_toEntryS p0).length) cp19), (28, .slice A0 p0.length cap0), (29, .slice A35 ((laws_toEntryS p0).length) cp35), (30, .bool (laws_eqEntryS (laws_toEntryS p0) (laws_toEntryS p0))), (31, .bool (!(laws_eqEntryS (laws_toEntryS p0) (laws_toEntryS p0)))), (32, .slice A19 ((laws_toEntryS p0).length) cp19), (33, .int .i64 1), (34, .int .i64 ((laws_markEntryS (laws_toEntryS p0) 1).2)), (35, .int .i64 ((laws_markEntryS (laws_toEntryS p0) 1).2)), (36, .bool (decide ((laws_markEntryS (laws_toEntryS p0) 1).2 < 0))), (37, .bool (decide ((laws_markEntryS (laws_toEntryS p0) 1).2 < 0)))]) a) ?_ ?_
        ·
          rcases Bool.eq_false_or_eq_true (decide ((laws_markEntryS (laws_toEntryS p0) 1).2 < 0)) with hb52 | hb52
          ·
            have hb52f : (laws_markEntryS (laws_toEntryS p0) 1).2 < 0 := of_decide_eq_true hb52
            refine st_skip hE50 rfl rfl rfl hb52 rfl fun a53 hE53 => st_skip hE53 rfl rfl rfl hb52 rfl fun a54 hE54 => st_skip hE54 rfl rfl rfl hb52 rfl fun a55 hE55 => st_skip hE55 rfl rfl rfl hb52 rfl fun a56 hE56 => st_val hE56 (y_pick_t hE56 rfl hb52 rfl) rfl fun a57 hE57 => wpList_nil ?_
            exact ⟨true, by simp only [hb52, Bool.true_and, Bool.false_and, Bool.true_or, Bool.false_or, Bool.and_true, Bool.or_true, Bool.and_false, Bool.or_false], hS45, hE57.weaken ⟨rfl, rfl, rfl, rfl, rfl, rfl, rfl, rfl, rfl, rfl, rfl, rfl, rfl, rfl, rfl, rfl, rfl, rfl, rfl, rfl, rfl, rfl, rfl, rfl, rfl, rfl, rfl, rfl, rfl, rfl, rfl, rfl, rfl, rfl, rfl, trivial⟩⟩
          ·
            have hb52f : ¬ ((laws_markEntryS (laws_toEntryS p0) 1).2 < 0) := of_decide_eq_false hb52
            refine st_run hE50 rfl rfl rfl hb52 <| st_val hE50 (y_move hE50 rfl) rfl fun a58 hE58 => st_run hE58 rfl rfl rfl hb52 <| st_val hE58 (y_move hE58 rfl) rfl fun a59 hE59 => st_run hE59 rfl rfl rfl hb52 <| st_callF hE59 hS45 Try.func26 fb26 fn26 (c_laws_eqStringS (impl_OutsOf (laws_toEntryS p0)) (spec_OutsOf (laws_toEntryS p0)) (hS45.ownl (k := 2) rfl) (hS45.ownl (k := 3) rfl)) rfl rfl fun w60 hS60 a61 hE61 => st_run hE61 rfl rfl rfl hb52 <| st_val hE61 (y_not hE61 rfl) rfl fun a62 hE62 => st_val hE62 (y_pick_f hE62 rfl hb52 rfl) rfl fun a63 hE63 => wpList_nil ?_
            exact ⟨!(laws_eqStringS (impl_OutsOf (laws_toEntryS p0)) (spec_OutsOf (laws_toEntryS p0))), by simp only [hb52, Bool.true_and, Bool.false_and, Bool.true_or, Bool.false_or, Bool.and_true, Bool.or_true, Bool.and_false, Bool.or_false], hS60, hE63.weaken ⟨rfl, rfl, rfl, rfl, rfl, rfl, rfl, rfl, rfl, rfl, rfl, rfl, rfl, rfl, rfl, rfl, rfl, rfl, rfl, rfl, rfl, rfl, rfl, rfl, rfl, rfl, rfl, rfl, rfl, rfl, rfl, rfl, rfl, rfl, rfl, trivial⟩⟩
        rintro a64 w64 ⟨r64, hr64, hS64, hE64⟩
        subst hr64
        clear hE50 hE47 hE48 hE49
        refine wpList_nil ?_
        refine then_normal ?_
        refine cond_split hE64 rfl (fun hb65 => ?_) (fun hb65 => ?_)
        ·
          have hM := hM.trans (if_t hb65)
          refine wp_seq (wp_region_lit ?_)
          refine st_val hE64 (y_assign hE64 rfl) rfl fun a66 hE66 => wpList_nil ?_
          clear hE64
          clear a64
          refine then_normal ?_
          refine wp_ret ?_
          refine then_ret ?_
          exact fin1 hE66 rfl rfl ⟨by rw [hM], hS64.below⟩
        ·
          have hM := hM.trans (if_f hb65)
          obtain ⟨hb65a, hb65b⟩ := Bool.or_eq_false_iff.1 hb65
          have hb65af : ¬ ((laws_markEntryS (laws_toEntryS p0) 1).2 < 0) := of_decide_eq_false hb65a
          refine wp_skip ?_
          refine then_normal ?_
          refine wp_seq (wp_region_lit ?_)
          refine st_val hE64 (y_assign hE64 rfl) rfl fun a67 hE67 => wpList_nil ?_
          clear hE64
          clear a64
          refine then_normal ?_
          refine wp_seq (wp_region_lit ?_)
          refine st_val hE67 (y_move hE67 rfl) rfl fun a68 hE68 => st_val hE68 (y_move hE68 rfl) rfl fun a69 hE69 => ?_
          have hP70 : SH (Old w) w w64 (Ck.own (α := List ByteArray) [.slice A23 ((impl_OutsOf (laws_toEntryS p0)).length) cp23] (impl_OutsOf (laws_toEntryS p0)) F23 :: [Ck.own (α := List Entry) [.slice A19 ((laws_toEntryS p0).length) cp19] ((laws_markEntryS (laws_toEntryS p0) 1).1) F45, Ck.own (α := List Entry) [.slice A35 ((laws_toEntryS p0).length) cp35] (laws_toEntryS p0) F35, Ck.own (α := List ByteArray) [.slice A15 ((spec_OutsOf (laws_toEntryS p0)).length) cp15] (spec_OutsOf (laws_toEntryS p0)) F15, Ck.own (α := List Entry) [.slice A13 ((laws_toEntryS p0).length) cp13] (laws_toEntryS p0) F13]) := (hS64.pick [2, 0, 1, 3, 4] (by decide) rfl)
          refine st_callM (c := Ck.own (α := List ByteArray) [.slice A23 ((impl_OutsOf (laws_toEntryS p0)).length) cp23] (impl_OutsOf (laws_toEntryS p0)) F23) (c' := fun F70 => Ck.own (α := List ByteArray) [.slice A23 ((impl_OutsOf (laws_toEntryS p0)).length) cp23] ((laws_markStringS (impl_OutsOf (laws_toEntryS p0)) 1).1) F70) (R := I64 (laws_markStringS (impl_OutsOf (laws_toEntryS p0)) 1).2) hE69 hP70 Try.func27 fb27 fn27 (c_laws_markStringS (impl_OutsOf (laws_toEntryS p0)) 1 (SH.off (M := [Ck.own (α := List ByteArray) [.slice A23 ((impl_OutsOf (laws_toEntryS p0)).length) cp23] (impl_OutsOf (laws_toEntryS p0)) F23]) (R := [Ck.own (α := List Entry) [.slice A19 ((laws_toEntryS p0).length) cp19] ((laws_markEntryS (laws_toEntryS p0) 1).1) F45, Ck.own (α := List Entry) [.slice A35 ((laws_toEntryS p0).length) cp35] (laws_toEntryS p0) F35, Ck.own (α := List ByteArray) [.slice A15 ((spec_OutsOf (laws_toEntryS p0)).length) cp15] (spec_OutsOf (laws_toEntryS p0)) F15, Ck.own (α := List Entry) [.slice A13 ((laws_toEntryS p0).length) cp13] (laws_toEntryS p0) F13]) hP70) (by unfold I64; omega)) rfl rfl fun F70 w70 hR70 hS70 a71 hE71 => st_val hE71 (y_assign hE71 rfl) rfl fun a72 hE72 => wpList_nil ?_
          clear hE67 hE68 hE69 hE71
          clear a67 a68 a69 a71
          refine then_normal ?_
          refine wp_seq (wp_region_lit ?_)
          refine st_val hE72 (y_assign hE72 rfl) rfl fun a73 hE73 => wpList_nil ?_
          clear hE72
          clear a72
          refine then_normal ?_
          refine wp_seq (wp_region_lit ?_)
          refine st_val hE73 (y_move hE73 rfl) rfl fun a74 hE74 => st_val hE74 (y_move hE74 rfl) rfl fun a75 hE75 => st_callF hE75 hS70 Try.func28 fb28 fn28 (c_laws_heldStringS ((laws_markStringS (impl_OutsOf (laws_toEntryS p0)) 1).1) 1 (hS70.ownl (k := 0) rfl) (by unfold I64; omega)) rfl rfl fun w76 hS76 a77 hE77 => st_val hE77 (y_assign hE77 rfl) rfl fun a78 hE78 => wpList_nil ?_
          clear hE73 hE74 hE75 hE77
          clear a73 a74 a75 a77
          refine then_normal ?_
          refine wp_seq (wp_seq (wp_region_lit ?_))
          refine st_val hE78 (y_move hE78 rfl) rfl fun a79 hE79 => st_val hE79 (y_lss hE79 rfl rfl) rfl fun a80 hE80 => wpList_nil ?_
          clear hE78 hE79
          clear a78 a79
          refine then_normal ?_
          refine cond_split hE80 rfl (fun hb81 => ?_) (fun hb81 => ?_)
          ·
            have hM := hM.trans (if_t hb81)
            have hb81f : (laws_heldStringS ((laws_markStringS (impl_OutsOf (laws_toEntryS p0)) 1).1) 1) < 0 := of_decide_eq_true hb81
            refine wp_seq (wp_region_lit ?_)
            refine st_val hE80 (y_assign hE80 rfl) rfl fun a82 hE82 => wpList_nil ?_
            clear hE80
            clear a80
            refine then_normal ?_
            refine wp_ret ?_
            refine then_ret ?_
            exact fin1 hE82 rfl rfl ⟨by rw [hM], hS76.below⟩
          ·
            have hM := hM.trans (if_f hb81)
            have hb81f : ¬ ((laws_heldStringS ((laws_markStringS (impl_OutsOf (laws_toEntryS p0)) 1).1) 1) < 0) := of_decide_eq_false hb81
            refine wp_skip ?_
            refine then_normal ?_
            refine wp_seq (wp_seq (wp_region_lit ?_))
            refine st_val hE80 (y_move hE80 rfl) rfl fun a83 hE83 => st_val hE83 (y_move hE83 rfl) rfl fun a84 hE84 => st_val hE84 (y_neq hE84 rfl rfl) rfl fun a85 hE85 => wpList_nil ?_
            clear hE80 hE83 hE84
            clear a80 a83 a84
            refine then_normal ?_
            refine cond_split hE85 rfl (fun hb86 => ?_) (fun hb86 => ?_)
            ·
              have hM := hM.trans (if_t hb86)
              have hb86f : ¬ ((laws_heldStringS ((laws_markStringS (impl_OutsOf (laws_toEntryS p0)) 1).1) 1) = (laws_markStringS (impl_OutsOf (laws_toEntryS p0)) 1).2) := by simpa using hb86
              refine wp_seq (wp_region_lit ?_)
              refine st_val hE85 (y_assign hE85 rfl) rfl fun a87 hE87 => wpList_nil ?_
              clear hE85
              clear a85
              refine then_normal ?_
              refine wp_ret ?_
              refine then_ret ?_
              exact fin1 hE87 rfl rfl ⟨by rw [hM], hS76.below⟩
            ·
              have hM := hM.trans (if_f hb86)
              have hb86f : (laws_heldStringS ((laws_markStringS (impl_OutsOf (laws_toEntryS p0)) 1).1) 1) = (laws_markStringS (impl_OutsOf (laws_toEntryS p0)) 1).2 := by simpa using hb86
              refine wp_skip ?_
              refine then_normal ?_
              refine wp_seq (wp_region_lit ?_)
              refine st_val hE85 (y_move hE85 rfl) rfl fun a88 hE88 => st_callS hE88 hS76 Try.func13 fb13 fn13 (c_laws_toEntryS p0 (hS76.up hp0) hsm0) rfl rfl fun A89 cp89 F89 w89 hx89 hS89 a90 hE90 => st_callS hE90 hS89 Try.func25 fb25 fn25 (c_impl_OutsOf (laws_toEntryS p0) (hS89.ownl (k := 0) rfl) (by rw [laws_toEntryS_id]; exact hsm0)) rfl rfl fun A91 cp91 F91 w91 hx91 hS91 a92 hE92 => st_val hE92 (y_assign hE92 rfl) rfl fun a93 hE93 => wpList_nil ?_
              clear hE85 hE88 hE90 hE92
              clear a85 a88 a90 a92
              refine then_normal ?_
              refine wp_seq (wp_seq (wp_region_lit ?_))
              refine st_val hE93 (y_move hE93 rfl) rfl fun a94 hE94 => st_val hE94 (y_move hE94 rfl) rfl fun a95 hE95 => st_callF hE95 hS91 Try.func26 fb26 fn26 (c_laws_eqStringS (impl_OutsOf (laws_toEntryS p0)) (spec_OutsOf (laws_toEntryS p0)) (hS91.ownl (k := 0) rfl) (hS91.ownl (k := 5) rfl)) rfl rfl fun w96 hS96 a97 hE97 => st_val hE97 (y_not hE97 rfl) rfl fun a98 hE98 => wpList_nil ?_
              clear hE93 hE94 hE95 hE97
              clear a93 a94 a95 a97
              refine then_normal ?_
              refine wp_cond_false ((hE98.eval rfl).trans (congrArg Value.bool hb31)) ?_
              refine wp_skip ?_
              refine then_normal ?_
              refine wp_seq (wp_region_lit ?_)
              refine st_val hE98 (y_assign hE98 rfl) rfl fun a99 hE99 => wpList_nil ?_
              clear hE98
              clear a98
              refine then_normal ?_
              refine wp_seq (wp_region_lit ?_)
              refine st_val hE99 (y_move hE99 rfl) rfl fun a100 hE100 => st_val hE100 (y_move hE100 rfl) rfl fun a101 hE101 => st_callF hE101 hS96 Try.func28 fb28 fn28 (c_laws_heldStringS ((laws_markStringS (impl_OutsOf (laws_toEntryS p0)) 1).1) 1 (hS96.ownl (k := 2) rfl) (by unfold I64; omega)) rfl rfl fun w102 hS102 a103 hE103 => st_val hE103 (y_assign hE103 rfl) rfl fun a104 hE104 => wpList_nil ?_
              clear hE99 hE100 hE101 hE103
              clear a99 a100 a101 a103
              refine then_normal ?_
              refine wp_seq (wp_seq (wp_region_lit ?_))
              refine st_val hE104 (y_move hE104 rfl) rfl fun a105 hE105 => st_val hE105 (y_lss hE105 rfl rfl) rfl fun a106 hE106 => wpList_nil ?_
              clear hE104 hE105
              clear a104 a105
              refine then_normal ?_
              refine wp_cond_false ((hE106.eval rfl).trans (congrArg Value.bool hb81)) ?_
              refine wp_skip ?_
              refine then_normal ?_
              refine wp_seq (wp_seq (wp_region_lit ?_))
              refine st_val hE106 (y_move hE106 rfl) rfl fun a107 hE107 => st_val hE107 (y_move hE107 rfl) rfl fun a108 hE108 => st_val hE108 (y_neq hE108 rfl rfl) rfl fun a109 hE109 => wpList_nil ?_
              clear hE106 hE107 hE108
              clear a106 a107 a108
              refine then_normal ?_
              refine wp_cond_false ((hE109.eval rfl).trans (congrArg Value.bool hb86)) ?_
              refine wp_skip ?_
              refine then_normal ?_
              refine wp_seq (wp_region_lit ?_)
              refine st_val hE109 (y_assign hE109 rfl) rfl fun a110 hE110 => wpList_nil ?_
              clear hE109
              clear a109
              refine then_normal ?_
              refine wp_ret ?_
              exact fin1 hE110 rfl rfl ⟨by rw [hM], hS102.below⟩


theorem OutsOf_inner (p0 : List Entry) (i1 : Nat) (y1 : List ByteArray) (K : List ByteArray → List ByteArray) : ∀ (n i : Nat) (y : List ByteArray),
    impl_OutsOf_l2 p0 i1 y1 (fun _ y => K y) n i y = spec_OutsOf_l2 p0 i1 y1 (fun _ y => K y) n i y := by
  have past : ∀ (n i : Nat) (y : List ByteArray), (nth p0 i1).Answers.length ≤ i → impl_OutsOf_l2 p0 i1 y1 (fun _ y => K y) n i y = K y := by
    intro n
    induction n with
    | zero => intro i y _; rfl
    | succ n ih =>
      intro i y hi
      rw [impl_OutsOf_l2]
      have hd : decide ((i : Int) < ((nth p0 i1).Answers.length : Int)) = false := decide_eq_false (by omega)
      simp only [hd, Bool.and_false, Bool.false_and, Bool.false_eq_true, if_false]
      exact ih (i + 1) y (by omega)
  intro n
  induction n with
  | zero => intro i y; rfl
  | succ n ih =>
    intro i y
    by_cases hi : i < (nth p0 i1).Answers.length
    · have hd : decide ((i : Int) < ((nth p0 i1).Answers.length : Int)) = true := decide_eq_true (by omega)
      rw [impl_OutsOf_l2, spec_OutsOf_l2]
      simp only [hd, Bool.and_true, if_true, ih]
    · rw [past _ _ _ (by omega)]
      have hd : decide ((i : Int) < ((nth p0 i1).Answers.length : Int)) = false := decide_eq_false (by omega)
      rw [spec_OutsOf_l2]
      simp only [hd, Bool.false_eq_true, if_false]
theorem OutsOf_twin (p0 : List Entry) : impl_OutsOf p0 = spec_OutsOf p0 := by
  have h : ∀ n i y, impl_OutsOf_l1 p0 n i y = spec_OutsOf_l1 p0 n i y := by
    intro n
    induction n with
    | zero => intro i y; rfl
    | succ n ih => intro i y; rw [impl_OutsOf_l1, spec_OutsOf_l1, OutsOf_inner p0 i y (fun y => impl_OutsOf_l1 p0 n (i + 1) y)]; simp only [ih]
  exact h _ _ _
theorem OutsOf_length {p0 : List Entry} (hs : Dat.small 1048576 p0) : (spec_OutsOf p0).length ≤ 1099511627776 := by
  have inner : ∀ (i1 : Nat) (y1 : List ByteArray) (K : Nat → List ByteArray → List ByteArray) (B : Nat) (n i : Nat) (y : List ByteArray), (∀ j z, z.length ≤ y.length + n → (K j z).length ≤ B) → (spec_OutsOf_l2 p0 i1 y1 K n i y).length ≤ B := by
    intro i1 y1 K B n
    induction n with
    | zero => intro i y hK; exact hK _ _ (Nat.le_refl _)
    | succ n ih =>
      intro i y hK
      rw [spec_OutsOf_l2]
      split
      · split
        · refine ih _ _ fun j z hz => hK j z ?_
          simp only [List.length_append, List.length_cons, List.length_nil] at hz
          omega
        · exact ih _ _ fun j z hz => hK j z (by omega)
      · exact hK _ _ (by omega)
  have outer : ∀ n i y, n = p0.length - i → (spec_OutsOf_l1 p0 n i y).length ≤ y.length + 1048576 * n := by
    intro n
    induction n with
    | zero => intro i y _; exact Nat.le_refl _
    | succ n ih =>
      intro i y hn
      rw [spec_OutsOf_l1]
      have hst : (nth p0 i).Steps.length ≤ 1048576 := (small_nth hs (k := i) (by omega)).2.2.2.1.1
      refine inner _ _ _ _ _ _ _ fun j z hz => ?_
      have := ih (i + 1) z (by omega)
      omega
  have := outer (p0.length - 0) 0 [] rfl
  have hl : p0.length ≤ 1048576 := hs.1
  simp only [List.length_nil] at this
  unfold spec_OutsOf
  omega
theorem laws_FnExactOutsOf_true (p0 : List Entry) (hg0 : Dat.good p0) : laws_FnExactOutsOf p0 = true := by
  unfold laws_FnExactOutsOf
  by_cases hc : laws_szEntryS p0 1048576 < 0
  · simp [hc]
  · obtain ⟨hs, _, _⟩ := laws_szEntryS_small p0 1048576 (by omega) (by omega) hg0 hc
    have hk := laws_markEntryS_pos hs
    have hm := laws_heldStringS_marked (y := spec_OutsOf p0) (OutsOf_length hs)
    have hk' : ¬ (laws_markEntryS p0 1).2 < 0 := by omega
    have hm' : ¬ (laws_markStringS (spec_OutsOf p0) 1).2 < 0 := by omega
    simp only [laws_toEntryS_id, OutsOf_twin, laws_eqStringS_same, laws_eqEntryS_refl, hm.1]
    simp [hc, hk', hm']

end Go.Proofs.Ytpfnofdaaekglaa.Fw

namespace Go.Proofs.Ytpfnofdaaekglaa.fnExactOutsOf
open Go.ChangeShapes Go.WideShapes Go.ChangeAt Go.RowKit Go.Proofs.Ytpfnofdaaekglaa.Fw
set_option linter.unusedVariables false

theorem own : ownKnob Try.prog.godebug = none := by kernel_rfl
theorem laidOut : laidOutB Try.prog = true := by kernel_rfl

set_option maxRecDepth 100000 in
theorem lifted (os : Os) (started : os.Started) (H : Type) (enc : TypeId × Value → H) :
    ReturnsInHanded {} Try.checked os 7 .any (Rows.fnExactOutsOfSpec.pre6 enc Try.prog Try.f7 Rows.fnExactOutsOfRow.domain false) (Rows.fnExactOutsOfSpec.post enc Try.prog Try.f7 false true false false) := by
  refine returnsInHanded_of_change (C := Try.checked) own started (by kernel_rfl) Try.func7
    (ChangeSpec.witness6 (enc := enc) (C := Try.checked) false ⟨#[], #[.slice none 0 0], []⟩ 8 (by kernel_rfl) (by kernel_rfl) (by kernel_rfl) (by kernel_rfl)) ?_
  intro W base args ds gs before hval0 hW hcnd _
  have hval : ∀ (j : Nat) t v, Try.f7.params[j]? = some t → args[j]? = some v → Value.okWide Try.prog W .any base t v := hval0
  have hW' := hW
  obtain ⟨p, q, hA0, hV, rfl, hfz, hnd⟩ := hW
  have hA : DataW.TrodAll enc Try.prog W 0 (fun _ => true) true Try.f7.params.toList args.toList ds p := hA0
  rw [Try.params7] at hA hval
  obtain ⟨v0, vs0, d0, ds0, p0, q0, hargs, rfl, rfl, h0, r0⟩ := trodAll_cons hA
  obtain ⟨rfl, rfl, rfl⟩ := trodAll_nil r0
  obtain rfl : args = #[v0] := by cases args; simp_all
  obtain ⟨rfl, rfl⟩ := trodVars_none hV
  have k0 := h0
  have lt0 : ∀ x ∈ p0, x.block < W.heap.size := by obtain ⟨m, hm⟩ := k0; exact DataW.trod_lt m _ _ _ hm
  obtain ⟨A0, len0, cap0, rfl⟩ := okWide_slice Try.underlying24 (hval 0 24 v0 rfl rfl)
  obtain ⟨x0, hx0⟩ : ∃ x : List Entry, SlR (Old W) W (.slice A0 len0 cap0) x := by
    obtain ⟨fuel, hf⟩ := h0
    obtain ⟨x, v, hv, hx⟩ := rd24 hf
    cases hv
    exact ⟨x, hx⟩
  have hc := c_laws_FnExactOutsOf (w := W) x0 hx0
  refine hc.mono fun e W' ⟨he, bel⟩ => ?_
  rw [laws_FnExactOutsOf_true x0 (Dat.rd_good (B := Old W) (w := W) (cs := [_]) ⟨_, rfl, hx0⟩)] at he
  subst he
  exact ⟨_, rfl, _, _, _, [], _, [], hW', trodAll_mk1 (shut_bool Try.underlying4 _), (trodAll_cons_mk (Below.trod laidOut (by kernel_rfl) (of_decide_eq_true (by kernel_rfl)) k0 bel lt0) trodAll_mk0), rfl, bel.frame _, fun h => by cases h⟩

theorem over : Rows.fnExactOutsOfRow.holds Try.pinned (OpenSpec.ofChange Rows.fnExactOutsOfSpec) :=
  OpenClaim.holds_of_wide 7 Try.f7 rfl rfl rfl rfl rfl rfl rfl ⟨rfl, rfl, rfl, rfl, rfl⟩ rfl rfl rfl rfl rfl (by kernel_rfl) Try.func7 (by kernel_rfl)
    (of_decide_eq_true (by kernel_rfl)) (by unfold Func.isWrapper; first | (rw [if_pos (by decide +kernel)]; kernel_rfl) | (rw [if_neg (by decide +kernel)]; exact ⟨rfl, rfl⟩))
    (fun os started H enc _ => lifted os started H enc)

end Go.Proofs.Ytpfnofdaaekglaa.fnExactOutsOf
namespace Go.Proofs.Ytpfnofdaaekglaa
/-- The statement. -/
theorem fnExactOutsOf_proved : Rows.FnExactOutsOfSaid := fnExactOutsOf.over
#print axioms fnExactOutsOf_proved
end Go.Proofs.Ytpfnofdaaekglaa
