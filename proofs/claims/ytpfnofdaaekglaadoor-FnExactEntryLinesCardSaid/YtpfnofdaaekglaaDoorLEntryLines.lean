/- The law FnExactEntryLines: for every input it returns true, and what came in is as it was. No condition. By program (wip/gen). -/
import Derived.Test.YtpfnofdaaekglaaDoorC5
import Derived.Test.YtpfnofdaaekglaaDoorP4
import Derived.Test.YtpfnofdaaekglaaDoorCards
import Derived.Test.YtpfnofdaaekglaaDoorTie
import Derived.OpenShut
import Derived.ChangeOld
import Derived.ProofKit
import Derived.LaidMore
import Derived.Stop.Joined
import Derived.SevenTiedAt
namespace Go.Proofs.YtpfnofdaaekglaaDoor.Fw
open Go.RowKit
set_option linter.unusedVariables false
set_option linter.unusedSimpArgs false

theorem fb27 : Tryd.f27.body.isNone = false := rfl
theorem fb28 : Tryd.f28.body.isNone = false := rfl
theorem fb29 : Tryd.f29.body.isNone = false := rfl
theorem fb30 : Tryd.f30.body.isNone = false := rfl
theorem fb31 : Tryd.f31.body.isNone = false := rfl
theorem fb32 : Tryd.f32.body.isNone = false := rfl
theorem fb33 : Tryd.f33.body.isNone = false := rfl
theorem fb34 : Tryd.f34.body.isNone = false := rfl
theorem fb35 : Tryd.f35.body.isNone = false := rfl
theorem fn27 : (Tryd.f27.name == "runtime.NumGoroutine") = false := by kernel_rfl
theorem fn28 : (Tryd.f28.name == "runtime.NumGoroutine") = false := by kernel_rfl
theorem fn29 : (Tryd.f29.name == "runtime.NumGoroutine") = false := by kernel_rfl
theorem fn30 : (Tryd.f30.name == "runtime.NumGoroutine") = false := by kernel_rfl
theorem fn31 : (Tryd.f31.name == "runtime.NumGoroutine") = false := by kernel_rfl
theorem fn32 : (Tryd.f32.name == "runtime.NumGoroutine") = false := by kernel_rfl
theorem fn33 : (Tryd.f33.name == "runtime.NumGoroutine") = false := by kernel_rfl
theorem fn34 : (Tryd.f34.name == "runtime.NumGoroutine") = false := by kernel_rfl
theorem fn35 : (Tryd.f35.name == "runtime.NumGoroutine") = false := by kernel_rfl

theorem rd3 : Reads Tryd.prog 3 Int := reads_int Tryd.underlying3
theorem rd9 : Reads Tryd.prog 9 ByteArray := reads_string Tryd.underlying9
theorem rd43 : Reads Tryd.prog 43 Call := by
  intro H enc W fuel cs x h
  obtain ⟨a0, h0⟩ := reads_field (α := Int) (o := 0) (by kernel_rfl : chkFieldT Tryd.prog 43 0 0 3 1 = true) rd3 h
  obtain ⟨a1, h1⟩ := reads_field (α := ByteArray) (o := 1) (by kernel_rfl : chkFieldT Tryd.prog 43 1 1 9 1 = true) rd9 h
  obtain ⟨a2, h2⟩ := reads_field (α := ByteArray) (o := 2) (by kernel_rfl : chkFieldT Tryd.prog 43 2 2 9 1 = true) rd9 h
  obtain ⟨a3, h3⟩ := reads_field (α := Int) (o := 3) (by kernel_rfl : chkFieldT Tryd.prog 43 3 3 3 1 = true) rd3 h
  obtain ⟨a4, h4⟩ := reads_field (α := Int) (o := 4) (by kernel_rfl : chkFieldT Tryd.prog 43 4 4 3 1 = true) rd3 h
  obtain ⟨a5, h5⟩ := reads_field (α := ByteArray) (o := 5) (by kernel_rfl : chkFieldT Tryd.prog 43 5 5 9 1 = true) rd9 h
  have hl := struct_len agg43 Tryd.underlying43 h
  have e : cs = (cs.drop 0).take 6 := by rw [List.drop_zero, List.take_of_length_le (by omega)]
  refine ⟨⟨a0, a1, a2, a3, a4, a5⟩, ?_⟩
  rw [e]
  exact rd_pair h0 (rd_pair h1 (rd_pair h2 (rd_pair h3 (rd_pair h4 h5))))
theorem rd121 : Reads Tryd.prog 121 Step := by
  intro H enc W fuel cs x h
  obtain ⟨a0, h0⟩ := reads_field (α := Int) (o := 0) (by kernel_rfl : chkFieldT Tryd.prog 121 0 0 3 1 = true) rd3 h
  obtain ⟨a1, h1⟩ := reads_field (α := Call) (o := 1) (by kernel_rfl : chkFieldT Tryd.prog 121 1 1 43 6 = true) rd43 h
  have hl := struct_len agg121 Tryd.underlying121 h
  have e : cs = (cs.drop 0).take 7 := by rw [List.drop_zero, List.take_of_length_le (by omega)]
  refine ⟨⟨a0, a1⟩, ?_⟩
  rw [e]
  exact rd_pair h0 h1
theorem rd30 : Reads Tryd.prog 30 (List Step) := reads_slice sl30 (by kernel_rfl) rd121
theorem rd124 : Reads Tryd.prog 124 Answer := by
  intro H enc W fuel cs x h
  obtain ⟨a0, h0⟩ := reads_field (α := Int) (o := 0) (by kernel_rfl : chkFieldT Tryd.prog 124 0 0 3 1 = true) rd3 h
  obtain ⟨a1, h1⟩ := reads_field (α := Int) (o := 1) (by kernel_rfl : chkFieldT Tryd.prog 124 1 1 3 1 = true) rd3 h
  obtain ⟨a2, h2⟩ := reads_field (α := ByteArray) (o := 2) (by kernel_rfl : chkFieldT Tryd.prog 124 2 2 9 1 = true) rd9 h
  have hl := struct_len agg124 Tryd.underlying124 h
  have e : cs = (cs.drop 0).take 3 := by rw [List.drop_zero, List.take_of_length_le (by omega)]
  refine ⟨⟨a0, a1, a2⟩, ?_⟩
  rw [e]
  exact rd_pair h0 (rd_pair h1 h2)
theorem rd31 : Reads Tryd.prog 31 (List Answer) := reads_slice sl31 (by kernel_rfl) rd124
theorem rd4 : Reads Tryd.prog 4 Bool := reads_bool Tryd.underlying4
theorem rd33 : Reads Tryd.prog 33 Entry := by
  intro H enc W fuel cs x h
  obtain ⟨a0, h0⟩ := reads_field (α := Int) (o := 0) (by kernel_rfl : chkFieldT Tryd.prog 33 0 0 3 1 = true) rd3 h
  obtain ⟨a1, h1⟩ := reads_field (α := Int) (o := 1) (by kernel_rfl : chkFieldT Tryd.prog 33 1 1 3 1 = true) rd3 h
  obtain ⟨a2, h2⟩ := reads_field (α := Int) (o := 2) (by kernel_rfl : chkFieldT Tryd.prog 33 2 2 3 1 = true) rd3 h
  obtain ⟨a3, h3⟩ := reads_field (α := List Step) (o := 3) (by kernel_rfl : chkFieldT Tryd.prog 33 3 3 30 1 = true) rd30 h
  obtain ⟨a4, h4⟩ := reads_field (α := List Answer) (o := 4) (by kernel_rfl : chkFieldT Tryd.prog 33 4 4 31 1 = true) rd31 h
  obtain ⟨a5, h5⟩ := reads_field (α := Int) (o := 5) (by kernel_rfl : chkFieldT Tryd.prog 33 5 5 3 1 = true) rd3 h
  obtain ⟨a6, h6⟩ := reads_field (α := Int) (o := 6) (by kernel_rfl : chkFieldT Tryd.prog 33 6 6 3 1 = true) rd3 h
  obtain ⟨a7, h7⟩ := reads_field (α := Bool) (o := 7) (by kernel_rfl : chkFieldT Tryd.prog 33 7 7 4 1 = true) rd4 h
  have hl := struct_len agg33 Tryd.underlying33 h
  have e : cs = (cs.drop 0).take 8 := by rw [List.drop_zero, List.take_of_length_le (by omega)]
  refine ⟨⟨a0, a1, a2, a3, a4, a5, a6, a7⟩, ?_⟩
  rw [e]
  exact rd_pair h0 (rd_pair h1 (rd_pair h2 (rd_pair h3 (rd_pair h4 (rd_pair h5 (rd_pair h6 h7))))))
theorem rd55 : Reads Tryd.prog 55 (List Entry) := reads_slice sl55 (by kernel_rfl) rd33

def laws_FnExactEntryLines (p0 : List Entry) : Bool := (if (decide ((laws_szEntryS p0 1048576) < 0)) = true then true else (if (!(laws_eqStringS (impl_EntryLines (laws_toEntryS p0)) (spec_EntryLines (laws_toEntryS p0)))) = true then false else (if (!(laws_eqEntryS (laws_toEntryS p0) (laws_toEntryS p0))) = true then false else (if ((decide ((laws_markEntryS (laws_toEntryS p0) 1).2 < 0)) || (!(laws_eqStringS (impl_EntryLines (laws_toEntryS p0)) (spec_EntryLines (laws_toEntryS p0))))) = true then false else (if (decide ((laws_heldStringS ((laws_markStringS (impl_EntryLines (laws_toEntryS p0)) 1).1) 1) < 0)) = true then false else (if (!decide ((laws_heldStringS ((laws_markStringS (impl_EntryLines (laws_toEntryS p0)) 1).1) 1) = (laws_markStringS (impl_EntryLines (laws_toEntryS p0)) 1).2)) = true then false else true))))))
theorem c_laws_FnExactEntryLines {v0 : Value} (p0 : List Entry) {w : World} (hp0 : SlR (Old w) w v0 p0) (hG3 : GV 3 (gl3.map (Value.int .u64)) w) :
    Calls Tryd.prog 8 [v0].toArray w (fun e w' => e = .returned (.bool (laws_FnExactEntryLines p0)) ∧ Below w.heap.size w w') := by
  obtain ⟨A0, cap0, rfl, hx0⟩ := hp0.form
  refine enter Tryd.func8 rfl Tryd.ntmps8 (Nat.le_of_ble_eq_true rfl) ?_
  intro a0 hE0
  have hS0 := SH.start w
  have hM := laws_FnExactEntryLines.eq_1 p0
  have hgd0 : Dat.good p0 := Dat.rd_good (B := Old w) (w := w) (cs := [_]) ⟨_, rfl, hp0⟩
  refine wp_seq (wp_region_lit ?_)
  refine st_val hE0 (y_assign hE0 rfl) rfl fun a1 hE1 => wpList_nil ?_
  clear hE0
  clear a0
  refine then_normal ?_
  refine wp_seq (wp_region_lit ?_)
  refine st_val hE1 (y_assign hE1 rfl) rfl fun a2 hE2 => wpList_nil ?_
  clear hE1
  clear a1
  refine then_normal ?_
  refine wp_seq (wp_region_lit ?_)
  refine st_val hE2 (y_move hE2 rfl) rfl fun a3 hE3 => st_val hE3 (y_move hE3 rfl) rfl fun a4 hE4 => st_callF hE4 hS0 Tryd.func27 fb27 fn27 (c_laws_szEntryS p0 1048576 (hS0.up hp0)) rfl rfl fun w5 hS5 a6 hE6 => st_val hE6 (y_assign hE6 rfl) rfl fun a7 hE7 => wpList_nil ?_
  clear hE2 hE3 hE4 hE6
  clear a2 a3 a4 a6
  refine then_normal ?_
  refine wp_seq (wp_seq (wp_region_lit ?_))
  refine st_val hE7 (y_move hE7 rfl) rfl fun a8 hE8 => st_val hE8 (y_lss hE8 rfl rfl) rfl fun a9 hE9 => wpList_nil ?_
  clear hE7 hE8
  clear a7 a8
  refine then_normal ?_
  refine cond_split hE9 rfl (fun hb10 => ?_) (fun hb10 => ?_)
  ·
    have hM := hM.trans (if_t hb10)
    have hb10f : (laws_szEntryS p0 1048576) < 0 := of_decide_eq_true hb10
    refine wp_seq (wp_region_lit ?_)
    refine st_val hE9 (y_assign hE9 rfl) rfl fun a11 hE11 => wpList_nil ?_
    clear hE9
    clear a9
    refine then_normal ?_
    refine wp_ret ?_
    refine then_ret ?_
    exact fin1 hE11 rfl rfl ⟨by rw [hM], hS5.below⟩
  ·
    have hM := hM.trans (if_f hb10)
    have hb10f : ¬ ((laws_szEntryS p0 1048576) < 0) := of_decide_eq_false hb10
    obtain ⟨hsm0, hle0, hle0_⟩ := laws_szEntryS_small p0 1048576 (by omega) (by omega) hgd0 hb10f
    have hln0 : p0.length ≤ 1048576 := hsm0.1
    refine wp_skip ?_
    refine then_normal ?_
    refine wp_seq (wp_region_lit ?_)
    refine st_val hE9 (y_move hE9 rfl) rfl fun a12 hE12 => st_callS hE12 hS5 Tryd.func29 fb29 fn29 (c_laws_toEntryS p0 (hS5.up hp0) hsm0) rfl rfl fun A13 cp13 F13 w13 hx13 hS13 a14 hE14 => st_callS hE14 hS13 Tryd.func28 fb28 fn28 (c_spec_EntryLines (laws_toEntryS p0) (hS13.ownl (k := 0) rfl) (by rw [laws_toEntryS_id]; exact hsm0)) rfl rfl fun A15 cp15 F15 w15 hx15 hS15 a16 hE16 => st_val hE16 (y_assign hE16 rfl) rfl fun a17 hE17 => wpList_nil ?_
    clear hE9 hE12 hE14 hE16
    clear a9 a12 a14 a16
    refine then_normal ?_
    refine wp_seq (wp_region_lit ?_)
    refine st_val hE17 (y_move hE17 rfl) rfl fun a18 hE18 => st_callS hE18 hS15 Tryd.func29 fb29 fn29 (c_laws_toEntryS p0 (hS15.up hp0) hsm0) rfl rfl fun A19 cp19 F19 w19 hx19 hS19 a20 hE20 => st_val hE20 (y_assign hE20 rfl) rfl fun a21 hE21 => wpList_nil ?_
    clear hE17 hE18 hE20
    clear a17 a18 a20
    refine then_normal ?_
    refine wp_seq (wp_region_lit ?_)
    refine st_val hE21 (y_move hE21 rfl) rfl fun a22 hE22 => st_callS hE22 hS19 Tryd.func30 fb30 fn30 (c_impl_EntryLines (laws_toEntryS p0) (hS19.ownl (k := 0) rfl) (GV.sh hS19 hG3) (by rw [laws_toEntryS_id]; exact hsm0)) rfl rfl fun A23 cp23 F23 w23 hx23 hS23 a24 hE24 => st_val hE24 (y_assign hE24 rfl) rfl fun a25 hE25 => wpList_nil ?_
    clear hE21 hE22 hE24
    clear a21 a22 a24
    refine then_normal ?_
    refine wp_seq (wp_seq (wp_region_lit ?_))
    refine st_val hE25 (y_move hE25 rfl) rfl fun a26 hE26 => st_val hE26 (y_move hE26 rfl) rfl fun a27 hE27 => st_callF hE27 hS23 Tryd.func31 fb31 fn31 (c_laws_eqStringS (impl_EntryLines (laws_toEntryS p0)) (spec_EntryLines (laws_toEntryS p0)) (hS23.ownl (k := 0) rfl) (hS23.ownl (k := 2) rfl)) rfl rfl fun w28 hS28 a29 hE29 => st_val hE29 (y_not hE29 rfl) rfl fun a30 hE30 => wpList_nil ?_
    clear hE25 hE26 hE27 hE29
    clear a25 a26 a27 a29
    refine then_normal ?_
    refine cond_split hE30 rfl (fun hb31 => ?_) (fun hb31 => ?_)
    ·
      have hM := hM.trans (if_t hb31)
      refine wp_seq (wp_region_lit ?_)
      refine st_val hE30 (y_assign hE30 rfl) rfl fun a32 hE32 => wpList_nil ?_
      clear hE30
      clear a30
      refine then_normal ?_
      refine wp_ret ?_
      refine then_ret ?_
      exact fin1 hE32 rfl rfl ⟨by rw [hM], hS28.below⟩
    ·
      have hM := hM.trans (if_f hb31)
      refine wp_skip ?_
      refine then_normal ?_
      refine wp_seq (wp_seq (wp_region_lit ?_))
      refine st_val hE30 (y_move hE30 rfl) rfl fun a33 hE33 => st_val hE33 (y_move hE33 rfl) rfl fun a34 hE34 => st_callS hE34 hS28 Tryd.func29 fb29 fn29 (c_laws_toEntryS p0 (hS28.up hp0) hsm0) rfl rfl fun A35 cp35 F35 w35 hx35 hS35 a36 hE36 => st_callF hE36 hS35 Tryd.func32 fb32 fn32 (c_laws_eqEntryS (laws_toEntryS p0) (laws_toEntryS p0) (hS35.ownl (k := 2) rfl) (hS35.ownl (k := 0) rfl)) rfl rfl fun w37 hS37 a38 hE38 => st_val hE38 (y_not hE38 rfl) rfl fun a39 hE39 => wpList_nil ?_
      clear hE30 hE33 hE34 hE36 hE38
      clear a30 a33 a34 a36 a38
      refine then_normal ?_
      refine cond_split hE39 rfl (fun hb40 => ?_) (fun hb40 => ?_)
      ·
        have hM := hM.trans (if_t hb40)
        refine wp_seq (wp_region_lit ?_)
        refine st_val hE39 (y_assign hE39 rfl) rfl fun a41 hE41 => wpList_nil ?_
        clear hE39
        clear a39
        refine then_normal ?_
        refine wp_ret ?_
        refine then_ret ?_
        exact fin1 hE41 rfl rfl ⟨by rw [hM], hS37.below⟩
      ·
        have hM := hM.trans (if_f hb40)
        refine wp_skip ?_
        refine then_normal ?_
        refine wp_seq (wp_region_lit ?_)
        refine st_val hE39 (y_assign hE39 rfl) rfl fun a42 hE42 => wpList_nil ?_
        clear hE39
        clear a39
        refine then_normal ?_
        refine wp_seq (wp_region_lit ?_)
        refine st_val hE42 (y_move hE42 rfl) rfl fun a43 hE43 => st_val hE43 (y_move hE43 rfl) rfl fun a44 hE44 => ?_
        have hP45 : SH (Old w) w w37 (Ck.own (α := List Entry) [.slice A19 ((laws_toEntryS p0).length) cp19] (laws_toEntryS p0) F19 :: [Ck.own (α := List Entry) [.slice A35 ((laws_toEntryS p0).length) cp35] (laws_toEntryS p0) F35, Ck.own (α := List ByteArray) [.slice A23 ((impl_EntryLines (laws_toEntryS p0)).length) cp23] (impl_EntryLines (laws_toEntryS p0)) F23, Ck.own (α := List ByteArray) [.slice A15 ((spec_EntryLines (laws_toEntryS p0)).length) cp15] (spec_EntryLines (laws_toEntryS p0)) F15, Ck.own (α := List Entry) [.slice A13 ((laws_toEntryS p0).length) cp13] (laws_toEntryS p0) F13]) := (hS37.pick [2, 0, 1, 3, 4] (by decide) rfl)
        refine st_callM (c := Ck.own (α := List Entry) [.slice A19 ((laws_toEntryS p0).length) cp19] (laws_toEntryS p0) F19) (c' := fun F45 => Ck.own (α := List Entry) [.slice A19 ((laws_toEntryS p0).length) cp19] ((laws_markEntryS (laws_toEntryS p0) 1).1) F45) (R := I64 (laws_markEntryS (laws_toEntryS p0) 1).2) hE44 hP45 Tryd.func33 fb33 fn33 (c_laws_markEntryS (laws_toEntryS p0) 1 (SH.off (M := [Ck.own (α := List Entry) [.slice A19 ((laws_toEntryS p0).length) cp19] (laws_toEntryS p0) F19]) (R := [Ck.own (α := List Entry) [.slice A35 ((laws_toEntryS p0).length) cp35] (laws_toEntryS p0) F35, Ck.own (α := List ByteArray) [.slice A23 ((impl_EntryLines (laws_toEntryS p0)).length) cp23] (impl_EntryLines (laws_toEntryS p0)) F23, Ck.own (α := List ByteArray) [.slice A15 ((spec_EntryLines (laws_toEntryS p0)).length) cp15] (spec_EntryLines (laws_toEntryS p0)) F15, Ck.own (α := List Entry) [.slice A13 ((laws_toEntryS p0).length) cp13] (laws_toEntryS p0) F13]) hP45) (by unfold I64; omega)) rfl rfl fun F45 w45 hR45 hS45 a46 hE46 => st_val hE46 (y_assign hE46 rfl) rfl fun a47 hE47 => wpList_nil ?_
        clear hE42 hE43 hE44 hE46
        clear a42 a43 a44 a46
        refine then_normal ?_
        refine wp_seq (wp_seq (wp_region_lit ?_))
        refine st_val hE47 (y_move hE47 rfl) rfl fun a48 hE48 => st_val hE48 (y_lss hE48 rfl rfl) rfl fun a49 hE49 => st_val hE49 (y_move hE49 rfl) rfl fun a50 hE50 => ?_
        refine st_mid 5 (fun a w2 => ∃ r : Bool, r = ((decide ((laws_markEntryS (laws_toEntryS p0) 1).2 < 0)) || (!(laws_eqStringS (impl_EntryLines (laws_toEntryS p0)) (spec_EntryLines (laws_toEntryS p0))))) ∧ SH (Old w) w w2 [Ck.own (α := List Entry) [.slice A19 ((laws_toEntryS p0).length) cp19] ((laws_markEntryS (laws_toEntryS p0) 1).1) F45, Ck.own (α := List Entry) [.slice A35 ((laws_toEntryS p0).length) cp35] (laws_toEntryS p0) F35, Ck.own (α := List ByteArray) [.slice A23 ((impl_EntryLines (laws_toEntryS p0)).length) cp23] (impl_EntryLines (laws_toEntryS p0)) F23, Ck.own (α := List ByteArray) [.slice A15 ((spec_EntryLines (laws_toEntryS p0)).length) cp15] (spec_EntryLines (laws_toEntryS p0)) F15, Ck.own (α := List Entry) [.slice A13 ((laws_toEntryS p0).length) cp13] (laws_toEntryS p0) F13] ∧ Env 69 ((42, .bool r) :: [(0, .slice A0 p0.length cap0), (2, .bool false), (3, .int .i64 (laws_szEntryS p0 1048576)), (4, .slice A15 ((spec_EntryLines (laws_toEntryS p0)).length) cp15), (5, .slice A19 ((laws_toEntryS p0).length) cp19), (6, .slice A23 ((impl_EntryLines (laws_toEntryS p0)).length) cp23), (7, .int .i64 ((laws_markEntryS (laws_toEntryS p0) 1).2)), (11, .slice A0 p0.length cap0), (12, .int .i64 1048576), (13, .int .i64 (laws_szEntryS p0 1048576)), (14, .int .i64 (laws_szEntryS p0 1048576)), (15, .bool (decide ((laws_szEntryS p0 1048576) < 0))), (16, .slice A0 p0.length cap0), (17, .slice A13 ((laws_toEntryS p0).length) cp13), (18, .slice A15 ((spec_EntryLines (laws_toEntryS p0)).length) cp15), (19, .slice A0 p0.length cap0), (20, .slice A19 ((laws_toEntryS p0).length) cp19), (21, .slice A19 ((laws_toEntryS p0).length) cp19), (22, .slice A23 ((impl_EntryLines (laws_toEntryS p0)).length) cp23), (23, .slice A23 ((impl_EntryLines (laws_toEntryS p0)).length) cp23), (24, .slice A15 ((spec_EntryLines (laws_toEntryS p0)).length) cp15), (25, .bool (laws_eqStringS (impl_EntryLines (laws_toEntryS p0)) (spec_EntryLines (laws_toEntryS p0)))), (26, .bool (!(laws_eqStringS (impl_EntryLines (laws_toEntryS p0)) (spec_EntryLines (laws_toEntryS p0))))), (27, .slice A19 ((laws_toEntryS p0).length) cp19), (28, .slice A0 p0.length cap0), (29, .slice A35 ((laws_toEntryS p0).length) cp35), (30, .bool (laws_eqEntryS (laws_toEntryS p0) (laws_toEntryS p0))), (31, .bool (!(laws_eqEntryS (laws_toEntryS p0) (laws_toEntryS p0)))), (32, .slice A19 ((laws_toEntryS p0).length) cp19), (33, .int .i64 1), (34, .int .i64 ((laws_markEntryS (laws_toEntryS p0) 1).2)), (35, .int .i64 ((laws_markEntryS (laws_toEntryS p0) 1).2)), (36, .bool (decide ((laws_markEntryS (laws_toEntryS p0) 1).2 < 0))), (37, .bool (decide ((laws_markEntryS (laws_toEntryS p0) 1).2 < 0)))]) a) ?_ ?_
        ·
          rcases Bool.eq_false_or_eq_true (decide ((laws_markEntryS (laws_toEntryS p0) 1).2 < 0)) with hb52 | hb52
          ·
            have hb52f : (laws_markEntryS (laws_toEntryS p0) 1).2 < 0 := of_decide_eq_true hb52
            refine st_skip hE50 rfl rfl rfl hb52 rfl fun a53 hE53 => st_skip hE53 rfl rfl rfl hb52 rfl fun a54 hE54 => st_skip hE54 rfl rfl rfl hb52 rfl fun a55 hE55 => st_skip hE55 rfl rfl rfl hb52 rfl fun a56 hE56 => st_val hE56 (y_pick_t hE56 rfl hb52 rfl) rfl fun a57 hE57 => wpList_nil ?_
            exact ⟨true, by simp only [hb52, Bool.true_and, Bool.false_and, Bool.true_or, Bool.false_or, Bool.and_true, Bool.or_true, Bool.and_false, Bool.or_false], hS45, hE57.weaken ⟨rfl, rfl, rfl, rfl, rfl, rfl, rfl, rfl, rfl, rfl, rfl, rfl, rfl, rfl, rfl, rfl, rfl, rfl, rfl, rfl, rfl, rfl, rfl, rfl, rfl, rfl, rfl, rfl, rfl, rfl, rfl, rfl, rfl, rfl, rfl, trivial⟩⟩
          ·
            have hb52f : ¬ ((laws_markEntryS (laws_toEntryS p0) 1).2 < 0) := of_decide_eq_false hb52
            refine st_run hE50 rfl rfl rfl hb52 <| st_val hE50 (y_move hE50 rfl) rfl fun a58 hE58 => st_run hE58 rfl rfl rfl hb52 <| st_val hE58 (y_move hE58 rfl) rfl fun a59 hE59 => st_run hE59 rfl rfl rfl hb52 <| st_callF hE59 hS45 Tryd.func31 fb31 fn31 (c_laws_eqStringS (impl_EntryLines (laws_toEntryS p0)) (spec_EntryLines (laws_toEntryS p0)) (hS45.ownl (k := 2) rfl) (hS45.ownl (k := 3) rfl)) rfl rfl fun w60 hS60 a61 hE61 => st_run hE61 rfl rfl rfl hb52 <| st_val hE61 (y_not hE61 rfl) rfl fun a62 hE62 => st_val hE62 (y_pick_f hE62 rfl hb52 rfl) rfl fun a63 hE63 => wpList_nil ?_
            exact ⟨!(laws_eqStringS (impl_EntryLines (laws_toEntryS p0)) (spec_EntryLines (laws_toEntryS p0))), by simp only [hb52, Bool.true_and, Bool.false_and, Bool.true_or, Bool.false_or, Bool.and_true, Bool.or_true, Bool.and_false, Bool.or_false], hS60, hE63.weaken ⟨rfl, rfl, rfl, rfl, rfl, rfl, rfl, rfl, rfl, rfl, rfl, rfl, rfl, rfl, rfl, rfl, rfl, rfl, rfl, rfl, rfl, rfl, rfl, rfl, rfl, rfl, rfl, rfl, rfl, rfl, rfl, rfl, rfl, rfl, rfl, trivial⟩⟩
        rintro a64 w64 ⟨r64, hr64, hS64, hE64⟩
        subst hr64
        clear hE50 hE47 hE48 hE49
        refine wpList_nil ?_
        refine then_normal ?_
        refine cond_split hE64 rfl (fun hb65 => ?_) (fun hb65 => ?_)
        ·
          have hM := hM.trans (if_t hb65)
          refine wp_seq (wp_region_lit ?_)
          refine st_val hE64 (y_assign hE64 rfl) rfl fun a66 hE66 => wpList_nil ?_
          clear hE64
          clear a64
          refine then_normal ?_
          refine wp_ret ?_
          refine then_ret ?_
          exact fin1 hE66 rfl rfl ⟨by rw [hM], hS64.below⟩
        ·
          have hM := hM.trans (if_f hb65)
          obtain ⟨hb65a, hb65b⟩ := Bool.or_eq_false_iff.1 hb65
          have hb65af : ¬ ((laws_markEntryS (laws_toEntryS p0) 1).2 < 0) := of_decide_eq_false hb65a
          refine wp_skip ?_
          refine then_normal ?_
          refine wp_seq (wp_region_lit ?_)
          refine st_val hE64 (y_assign hE64 rfl) rfl fun a67 hE67 => wpList_nil ?_
          clear hE64
          clear a64
          refine then_normal ?_
          refine wp_seq (wp_region_lit ?_)
          refine st_val hE67 (y_move hE67 rfl) rfl fun a68 hE68 => st_val hE68 (y_move hE68 rfl) rfl fun a69 hE69 => ?_
          have hP70 : SH (Old w) w w64 (Ck.own (α := List ByteArray) [.slice A23 ((impl_EntryLines (laws_toEntryS p0)).length) cp23] (impl_EntryLines (laws_toEntryS p0)) F23 :: [Ck.own (α := List Entry) [.slice A19 ((laws_toEntryS p0).length) cp19] ((laws_markEntryS (laws_toEntryS p0) 1).1) F45, Ck.own (α := List Entry) [.slice A35 ((laws_toEntryS p0).length) cp35] (laws_toEntryS p0) F35, Ck.own (α := List ByteArray) [.slice A15 ((spec_EntryLines (laws_toEntryS p0)).length) cp15] (spec_EntryLines (laws_toEntryS p0)) F15, Ck.own (α := List Entry) [.slice A13 ((laws_toEntryS p0).length) cp13] (laws_toEntryS p0) F13]) := (hS64.pick [2, 0, 1, 3, 4] (by decide) rfl)
          refine st_callM (c := Ck.own (α := List ByteArray) [.slice A23 ((impl_EntryLines (laws_toEntryS p0)).length) cp23] (impl_EntryLines (laws_toEntryS p0)) F23) (c' := fun F70 => Ck.own (α := List ByteArray) [.slice A23 ((impl_EntryLines (laws_toEntryS p0)).length) cp23] ((laws_markStringS (impl_EntryLines (laws_toEntryS p0)) 1).1) F70) (R := I64 (laws_markStringS (impl_EntryLines (laws_toEntryS p0)) 1).2) hE69 hP70 Tryd.func34 fb34 fn34 (c_laws_markStringS (impl_EntryLines (laws_toEntryS p0)) 1 (SH.off (M := [Ck.own (α := List ByteArray) [.slice A23 ((impl_EntryLines (laws_toEntryS p0)).length) cp23] (impl_EntryLines (laws_toEntryS p0)) F23]) (R := [Ck.own (α := List Entry) [.slice A19 ((laws_toEntryS p0).length) cp19] ((laws_markEntryS (laws_toEntryS p0) 1).1) F45, Ck.own (α := List Entry) [.slice A35 ((laws_toEntryS p0).length) cp35] (laws_toEntryS p0) F35, Ck.own (α := List ByteArray) [.slice A15 ((spec_EntryLines (laws_toEntryS p0)).length) cp15] (spec_EntryLines (laws_toEntryS p0)) F15, Ck.own (α := List Entry) [.slice A13 ((laws_toEntryS p0).length) cp13] (laws_toEntryS p0) F13]) hP70) (by unfold I64; omega)) rfl rfl fun F70 w70 hR70 hS70 a71 hE71 => st_val hE71 (y_assign hE71 rfl) rfl fun a72 hE72 => wpList_nil ?_
          clear hE67 hE68 hE69 hE71
          clear a67 a68 a69 a71
          refine then_normal ?_
          refine wp_seq (wp_region_lit ?_)
          refine st_val hE72 (y_assign hE72 rfl) rfl fun a73 hE73 => wpList_nil ?_
          clear hE72
          clear a72
          refine then_normal ?_
          refine wp_seq (wp_region_lit ?_)
          refine st_val hE73 (y_move hE73 rfl) rfl fun a74 hE74 => st_val hE74 (y_move hE74 rfl) rfl fun a75 hE75 => st_callF hE75 hS70 Tryd.func35 fb35 fn35 (c_laws_heldStringS ((laws_markStringS (impl_EntryLines (laws_toEntryS p0)) 1).1) 1 (hS70.ownl (k := 0) rfl) (by unfold I64; omega)) rfl rfl fun w76 hS76 a77 hE77 => st_val hE77 (y_assign hE77 rfl) rfl fun a78 hE78 => wpList_nil ?_
          clear hE73 hE74 hE75 hE77
          clear a73 a74 a75 a77
          refine then_normal ?_
          refine wp_seq (wp_seq (wp_region_lit ?_))
          refine st_val hE78 (y_move hE78 rfl) rfl fun a79 hE79 => st_val hE79 (y_lss hE79 rfl rfl) rfl fun a80 hE80 => wpList_nil ?_
          clear hE78 hE79
          clear a78 a79
          refine then_normal ?_
          refine cond_split hE80 rfl (fun hb81 => ?_) (fun hb81 => ?_)
          ·
            have hM := hM.trans (if_t hb81)
            have hb81f : (laws_heldStringS ((laws_markStringS (impl_EntryLines (laws_toEntryS p0)) 1).1) 1) < 0 := of_decide_eq_true hb81
            refine wp_seq (wp_region_lit ?_)
            refine st_val hE80 (y_assign hE80 rfl) rfl fun a82 hE82 => wpList_nil ?_
            clear hE80
            clear a80
            refine then_normal ?_
            refine wp_ret ?_
            refine then_ret ?_
            exact fin1 hE82 rfl rfl ⟨by rw [hM], hS76.below⟩
          ·
            have hM := hM.trans (if_f hb81)
            have hb81f : ¬ ((laws_heldStringS ((laws_markStringS (impl_EntryLines (laws_toEntryS p0)) 1).1) 1) < 0) := of_decide_eq_false hb81
            refine wp_skip ?_
            refine then_normal ?_
            refine wp_seq (wp_seq (wp_region_lit ?_))
            refine st_val hE80 (y_move hE80 rfl) rfl fun a83 hE83 => st_val hE83 (y_move hE83 rfl) rfl fun a84 hE84 => st_val hE84 (y_neq hE84 rfl rfl) rfl fun a85 hE85 => wpList_nil ?_
            clear hE80 hE83 hE84
            clear a80 a83 a84
            refine then_normal ?_
            refine cond_split hE85 rfl (fun hb86 => ?_) (fun hb86 => ?_)
            ·
              have hM := hM.trans (if_t hb86)
              have hb86f : ¬ ((laws_heldStringS ((laws_markStringS (impl_EntryLines (laws_toEntryS p0)) 1).1) 1) = (laws_markStringS (impl_EntryLines (laws_toEntryS p0)) 1).2) := by simpa using hb86
              refine wp_seq (wp_region_lit ?_)
              refine st_val hE85 (y_assign hE85 rfl) rfl fun a87 hE87 => wpList_nil ?_
              clear hE85
              clear a85
              refine then_normal ?_
              refine wp_ret ?_
              refine then_ret ?_
              exact fin1 hE87 rfl rfl ⟨by rw [hM], hS76.below⟩
            ·
              have hM := hM.trans (if_f hb86)
              have hb86f : (laws_heldStringS ((laws_markStringS (impl_EntryLines (laws_toEntryS p0)) 1).1) 1) = (laws_markStringS (impl_EntryLines (laws_toEntryS p0)) 1).2 := by simpa using hb86
              refine wp_skip ?_
              refine then_normal ?_
              refine wp_seq (wp_region_lit ?_)
              refine st_val hE85 (y_move hE85 rfl) rfl fun a88 hE88 => st_callS hE88 hS76 Tryd.func29 fb29 fn29 (c_laws_toEntryS p0 (hS76.up hp0) hsm0) rfl rfl fun A89 cp89 F89 w89 hx89 hS89 a90 hE90 => st_callS hE90 hS89 Tryd.func30 fb30 fn30 (c_impl_EntryLines (laws_toEntryS p0) (hS89.ownl (k := 0) rfl) (GV.sh hS89 hG3) (by rw [laws_toEntryS_id]; exact hsm0)) rfl rfl fun A91 cp91 F91 w91 hx91 hS91 a92 hE92 => st_val hE92 (y_assign hE92 rfl) rfl fun a93 hE93 => wpList_nil ?_
              clear hE85 hE88 hE90 hE92
              clear a85 a88 a90 a92
              refine then_normal ?_
              refine wp_seq (wp_seq (wp_region_lit ?_))
              refine st_val hE93 (y_move hE93 rfl) rfl fun a94 hE94 => st_val hE94 (y_move hE94 rfl) rfl fun a95 hE95 => st_callF hE95 hS91 Tryd.func31 fb31 fn31 (c_laws_eqStringS (impl_EntryLines (laws_toEntryS p0)) (spec_EntryLines (laws_toEntryS p0)) (hS91.ownl (k := 0) rfl) (hS91.ownl (k := 5) rfl)) rfl rfl fun w96 hS96 a97 hE97 => st_val hE97 (y_not hE97 rfl) rfl fun a98 hE98 => wpList_nil ?_
              clear hE93 hE94 hE95 hE97
              clear a93 a94 a95 a97
              refine then_normal ?_
              refine wp_cond_false ((hE98.eval rfl).trans (congrArg Value.bool hb31)) ?_
              refine wp_skip ?_
              refine then_normal ?_
              refine wp_seq (wp_region_lit ?_)
              refine st_val hE98 (y_assign hE98 rfl) rfl fun a99 hE99 => wpList_nil ?_
              clear hE98
              clear a98
              refine then_normal ?_
              refine wp_seq (wp_region_lit ?_)
              refine st_val hE99 (y_move hE99 rfl) rfl fun a100 hE100 => st_val hE100 (y_move hE100 rfl) rfl fun a101 hE101 => st_callF hE101 hS96 Tryd.func35 fb35 fn35 (c_laws_heldStringS ((laws_markStringS (impl_EntryLines (laws_toEntryS p0)) 1).1) 1 (hS96.ownl (k := 2) rfl) (by unfold I64; omega)) rfl rfl fun w102 hS102 a103 hE103 => st_val hE103 (y_assign hE103 rfl) rfl fun a104 hE104 => wpList_nil ?_
              clear hE99 hE100 hE101 hE103
              clear a99 a100 a101 a103
              refine then_normal ?_
              refine wp_seq (wp_seq (wp_region_lit ?_))
              refine st_val hE104 (y_move hE104 rfl) rfl fun a105 hE105 => st_val hE105 (y_lss hE105 rfl rfl) rfl fun a106 hE106 => wpList_nil ?_
              clear hE104 hE105
              clear a104 a105
              refine then_normal ?_
              refine wp_cond_false ((hE106.eval rfl).trans (congrArg Value.bool hb81)) ?_
              refine wp_skip ?_
              refine then_normal ?_
              refine wp_seq (wp_seq (wp_region_lit ?_))
              refine st_val hE106 (y_move hE106 rfl) rfl fun a107 hE107 => st_val hE107 (y_move hE107 rfl) rfl fun a108 hE108 => st_val hE108 (y_neq hE108 rfl rfl) rfl fun a109 hE109 => wpList_nil ?_
              clear hE106 hE107 hE108
              clear a106 a107 a108
              refine then_normal ?_
              refine wp_cond_false ((hE109.eval rfl).trans (congrArg Value.bool hb86)) ?_
              refine wp_skip ?_
              refine then_normal ?_
              refine wp_seq (wp_region_lit ?_)
              refine st_val hE109 (y_assign hE109 rfl) rfl fun a110 hE110 => wpList_nil ?_
              clear hE109
              clear a109
              refine then_normal ?_
              refine wp_ret ?_
              exact fin1 hE110 rfl rfl ⟨by rw [hM], hS102.below⟩


theorem EntryLines_l1_twin (p0 : List Entry) (hg : Dat.good p0) : ∀ n i y, n = p0.length - i → impl_EntryLines_l1 p0 n i y = spec_EntryLines_l1 p0 n i y ∧ (spec_EntryLines_l1 p0 n i y).length = y.length + n := by
  intro n
  induction n with
  | zero => intro i y _; exact ⟨rfl, rfl⟩
  | succ n ih =>
    intro i y hn
    have hge : Dat.good (nth p0 i) := good_nth hg (by omega)
    rw [impl_EntryLines_l1, spec_EntryLines_l1, EntryLine_twin hge]
    obtain ⟨h1, h2⟩ := ih (i + 1) (y ++ [spec_EntryLine (nth p0 i)]) (by omega)
    refine ⟨h1, ?_⟩
    rw [h2]
    simp only [List.length_append, List.length_cons, List.length_nil]
    omega
theorem laws_FnExactEntryLines_true (p0 : List Entry) (hg0 : Dat.good p0) : laws_FnExactEntryLines p0 = true := by
  unfold laws_FnExactEntryLines
  by_cases hc : laws_szEntryS p0 1048576 < 0
  · simp [hc]
  · obtain ⟨hs, _, _⟩ := laws_szEntryS_small p0 1048576 (by omega) (by omega) hg0 hc
    have hl : p0.length ≤ 1048576 := hs.1
    have ht := EntryLines_l1_twin p0 hg0 (p0.length - 0) 0 [] rfl
    have htw : impl_EntryLines p0 = spec_EntryLines p0 := ht.1
    have hlen : (spec_EntryLines p0).length ≤ 1099511627776 := by
      have := ht.2
      simp only [List.length_nil] at this
      unfold spec_EntryLines
      omega
    have hk := laws_markEntryS_pos hs
    have hm := laws_heldStringS_marked (y := spec_EntryLines p0) hlen
    have hk' : ¬ (laws_markEntryS p0 1).2 < 0 := by omega
    have hm' : ¬ (laws_markStringS (spec_EntryLines p0) 1).2 < 0 := by omega
    simp only [laws_toEntryS_id, htw, laws_eqStringS_same, laws_eqEntryS_refl, hm.1]
    simp [hc, hk', hm']

end Go.Proofs.YtpfnofdaaekglaaDoor.Fw

namespace Go.Proofs.YtpfnofdaaekglaaDoor.fnExactEntryLines
open Go.ChangeShapes Go.WideShapes Go.ChangeAt Go.RowKit Go.Proofs.YtpfnofdaaekglaaDoor.Fw
set_option linter.unusedVariables false

theorem own : ownKnob Tryd.prog.godebug = none := by kernel_rfl
theorem laidOut : laidOutB Tryd.prog = true := by kernel_rfl

theorem door_met (os : Os) (args : Array Value) : laidMetH Tryd.prog Rows.fnExactEntryLinesRow.laid ((World.doorLaid Tryd.prog 400 os).forCall (fun _ _ => 0) ⟨#[], args, []⟩).memory :=
  laidMetH_of_parts3 (fuel := 8) (laidMet_of_run' 8 (by kernel_rfl) (by kernel_rfl)) (by kernel_rfl) (by kernel_rfl)
theorem of_laid {W : World} (h : laidMetH Tryd.prog Rows.fnExactEntryLinesRow.laid W) : GV 4 (gl4.map (Value.int .u8)) W ∧ GV 5 (gl5.map (Value.int .u8)) W ∧ GV 3 (gl3.map (Value.int .u64)) W := by
  rw [MakeChecks.laidMetH_plain _ _ _ (by kernel_rfl)] at h
  obtain ⟨ps, ⟨g0, t0, cs0, f0, p0, q0, hg0, ht0, hv0, hd0, ⟨g1, t1, cs1, f1, p1, q1, hg1, ht1, hv1, hd1, ⟨g2, t2, cs2, f2, p2, q2, hg2, ht2, hv2, hd2, _, _⟩, _⟩, _⟩, _, _⟩ := h
  obtain rfl := Option.some.inj ((show Tryd.prog.globalNamed "math/bits.deBruijn32tab" = some 4 by kernel_rfl).symm.trans hg0)
  obtain rfl := Option.some.inj ((show (Tryd.prog.globals[4]?).map (·.type) = some 165 by kernel_rfl).symm.trans ht0)
  obtain rfl := Option.some.inj ((show Tryd.prog.globalNamed "math/bits.deBruijn64tab" = some 5 by kernel_rfl).symm.trans hg1)
  obtain rfl := Option.some.inj ((show (Tryd.prog.globals[5]?).map (·.type) = some 166 by kernel_rfl).symm.trans ht1)
  obtain rfl := Option.some.inj ((show Tryd.prog.globalNamed "internal/strconv.uint64pow10" = some 3 by kernel_rfl).symm.trans hg2)
  obtain rfl := Option.some.inj ((show (Tryd.prog.globals[3]?).map (·.type) = some 160 by kernel_rfl).symm.trans ht2)
  exact ⟨GV_ints (names := gl4) hg0 Tryd.underlying165 Tryd.underlying5 (by kernel_rfl) (by kernel_rfl) hv0 hd0, GV_ints (names := gl5) hg1 Tryd.underlying166 Tryd.underlying5 (by kernel_rfl) (by kernel_rfl) hv1 hd1, GV_ints (names := gl3) hg2 Tryd.underlying160 Tryd.underlying154 (by kernel_rfl) (by kernel_rfl) hv2 hd2⟩

set_option maxRecDepth 100000 in
theorem lifted (os : Os) (started : os.Started) (H : Type) (enc : TypeId × Value → H) :
    ReturnsInHanded {} Tryd.checked os 8 .any (fun w args => (Rows.fnExactEntryLinesSpec.pre enc Tryd.prog Tryd.f8 Rows.fnExactEntryLinesRow.domain false w args ∧ laidMetH Tryd.prog Rows.fnExactEntryLinesRow.laid w) ∧ sizedMet enc Tryd.prog Tryd.f8 (OpenSpec.ofChange Rows.fnExactEntryLinesSpec) false w args) (Rows.fnExactEntryLinesSpec.post enc Tryd.prog Tryd.f8 false true false false) := by
  refine returnsInHanded_of_change_and (C := Tryd.checked) (X := fun w _ => laidMetH Tryd.prog Rows.fnExactEntryLinesRow.laid w) (fun _ _ _ hh h => h.of_heap hh) own started (by kernel_rfl) Tryd.func8
    (ChangeSpec.witness_shaped (enc := enc) (C := Tryd.checked) (os := os) (X := fun w _ => laidMetH Tryd.prog Rows.fnExactEntryLinesRow.laid w) false (World.doorLaid Tryd.prog 400 os) #[.slice none 0 0] 8 rfl (World.shaped_of_RefB (by kernel_rfl) (by kernel_rfl)) (by kernel_rfl) (by kernel_rfl) (by kernel_rfl) (door_met os _)) ?_
  intro W base args ds gs before hval0 hW hcnd _ hL _
  have hval : ∀ (j : Nat) t v, Tryd.f8.params[j]? = some t → args[j]? = some v → Value.okWide Tryd.prog W .any base t v := hval0
  have hW' := hW
  obtain ⟨p, q, hA0, hV, rfl, hfz, hnd⟩ := hW
  have hA : DataW.TrodAll enc Tryd.prog W 0 (fun _ => true) true Tryd.f8.params.toList args.toList ds p := hA0
  rw [Tryd.params8] at hA hval
  obtain ⟨v0, vs0, d0, ds0, p0, q0, hargs, rfl, rfl, h0, r0⟩ := trodAll_cons hA
  obtain ⟨rfl, rfl, rfl⟩ := trodAll_nil r0
  obtain rfl : args = #[v0] := by cases args; simp_all
  obtain rfl := trodVars_end hV
  obtain ⟨hG4, hG5, hG3⟩ := of_laid hL
  have k0 := h0
  have lt0 : ∀ x ∈ p0, x.block < W.heap.size := by obtain ⟨m, hm⟩ := k0; exact DataW.trod_lt m _ _ _ hm
  obtain ⟨A0, len0, cap0, rfl⟩ := okWide_slice Tryd.underlying55 (hval 0 55 v0 rfl rfl)
  obtain ⟨x0, hx0⟩ : ∃ x : List Entry, SlR (Old W) W (.slice A0 len0 cap0) x := by
    obtain ⟨fuel, hf⟩ := h0
    obtain ⟨x, v, hv, hx⟩ := rd55 hf
    cases hv
    exact ⟨x, hx⟩
  have hc := c_laws_FnExactEntryLines (w := W) x0 hx0 hG3
  refine hc.mono fun e W' ⟨he, bel⟩ => ?_
  rw [laws_FnExactEntryLines_true x0 (Dat.rd_good (B := Old W) (w := W) (cs := [_]) ⟨_, rfl, hx0⟩)] at he
  subst he
  exact ⟨_, rfl, _, _, _, [], _, _, hW', trodAll_mk1 (shut_bool Tryd.underlying4 _), (trodAll_cons_mk (Below.trod laidOut (by kernel_rfl) (of_decide_eq_true (by kernel_rfl)) k0 bel lt0) trodAll_mk0), vars_below laidOut bel _ (by kernel_rfl) hV, bel.frame _, fun h => by cases h⟩

theorem over : Rows.fnExactEntryLinesRow.holds Tryd.pinned (OpenSpec.ofChange Rows.fnExactEntryLinesSpec) :=
  OpenClaim.holds_of_wide 8 Tryd.f8 rfl rfl rfl rfl rfl rfl rfl ⟨rfl, rfl, rfl, rfl, rfl⟩ rfl rfl rfl rfl rfl (by kernel_rfl) Tryd.func8 (by kernel_rfl)
    (of_decide_eq_true (by kernel_rfl)) (by unfold Func.isWrapper; first | (rw [if_pos (by decide +kernel)]; kernel_rfl) | (rw [if_neg (by decide +kernel)]; exact ⟨rfl, rfl⟩))
    (fun os started H enc _ => lifted os started H enc)

theorem card : Rows.FnExactEntryLinesCardSaid :=
  Claim7.holds_tied_plain_at .later [] [.data, .data, .data] true (true, "ced246f210c11f613587500ac62ce721159eb83655c7454f67a98e7be25ea8d5") false
    over (fun _ h => by cases h) (by kernel_rfl) (fun _ h => by cases h) fnExactEntryLines_row_tie rfl ⟨rfl, rfl⟩ (by kernel_rfl) rfl
    (fun f fn hf hfn => by
      obtain rfl : f = 8 := Option.some.inj ((show Tryd.prog.funcNamed "loop.example/g00974/laws.FnExactEntryLines" = some 8 by kernel_rfl).symm.trans hf) |>.symm
      obtain rfl : fn = Tryd.f8 := (Option.some.inj (Tryd.func8.symm.trans hfn)).symm
      exact ⟨by kernel_rfl, fun j t ht => by
        rw [Tryd.params8] at ht
        have hm : t ∈ [55] := by simpa using Array.mem_of_getElem? ht
        have hall : ([55].all fun u => !Tryd.prog.wantsStandIn u) = true := by kernel_rfl
        exact (show Tryd.prog.wantsStandIn t = false by simpa using List.all_eq_true.1 hall t hm)⟩)
    (by kernel_rfl)
end Go.Proofs.YtpfnofdaaekglaaDoor.fnExactEntryLines
namespace Go.Proofs.YtpfnofdaaekglaaDoor
/-- The statement. -/
theorem fnExactEntryLines_proved : Rows.FnExactEntryLinesCardSaid := fnExactEntryLines.card
#print axioms fnExactEntryLines_proved
end Go.Proofs.YtpfnofdaaekglaaDoor
