/- The law FnExactSpans: for every input it returns true, and what came in is as it was. No condition. By program (wip/gen). -/
import Derived.Test.YtpfnofdaaekglaaC5
import Derived.Test.YtpfnofdaaekglaaP3
import Derived.Test.YtpfnofdaaekglaaRows
import Derived.OpenShut
import Derived.ChangeOld
namespace Go.Proofs.Ytpfnofdaaekglaa.Fw
open Go.RowKit
set_option linter.unusedVariables false
set_option linter.unusedSimpArgs false

theorem fb11 : Try.f11.body.isNone = false := rfl
theorem fb13 : Try.f13.body.isNone = false := rfl
theorem fb15 : Try.f15.body.isNone = false := rfl
theorem fb18 : Try.f18.body.isNone = false := rfl
theorem fb19 : Try.f19.body.isNone = false := rfl
theorem fb20 : Try.f20.body.isNone = false := rfl
theorem fb21 : Try.f21.body.isNone = false := rfl
theorem fb22 : Try.f22.body.isNone = false := rfl
theorem fb23 : Try.f23.body.isNone = false := rfl
theorem fn11 : (Try.f11.name == "runtime.NumGoroutine") = false := by kernel_rfl
theorem fn13 : (Try.f13.name == "runtime.NumGoroutine") = false := by kernel_rfl
theorem fn15 : (Try.f15.name == "runtime.NumGoroutine") = false := by kernel_rfl
theorem fn18 : (Try.f18.name == "runtime.NumGoroutine") = false := by kernel_rfl
theorem fn19 : (Try.f19.name == "runtime.NumGoroutine") = false := by kernel_rfl
theorem fn20 : (Try.f20.name == "runtime.NumGoroutine") = false := by kernel_rfl
theorem fn21 : (Try.f21.name == "runtime.NumGoroutine") = false := by kernel_rfl
theorem fn22 : (Try.f22.name == "runtime.NumGoroutine") = false := by kernel_rfl
theorem fn23 : (Try.f23.name == "runtime.NumGoroutine") = false := by kernel_rfl

theorem rd3 : Reads Try.prog 3 Int := reads_int Try.underlying3
theorem rd9 : Reads Try.prog 9 ByteArray := reads_string Try.underlying9
theorem rd132 : Reads Try.prog 132 Call := by
  intro H enc W fuel cs x h
  obtain ⟨a0, h0⟩ := reads_field (α := Int) (o := 0) (by kernel_rfl : chkFieldT Try.prog 132 0 0 3 1 = true) rd3 h
  obtain ⟨a1, h1⟩ := reads_field (α := ByteArray) (o := 1) (by kernel_rfl : chkFieldT Try.prog 132 1 1 9 1 = true) rd9 h
  obtain ⟨a2, h2⟩ := reads_field (α := ByteArray) (o := 2) (by kernel_rfl : chkFieldT Try.prog 132 2 2 9 1 = true) rd9 h
  obtain ⟨a3, h3⟩ := reads_field (α := Int) (o := 3) (by kernel_rfl : chkFieldT Try.prog 132 3 3 3 1 = true) rd3 h
  obtain ⟨a4, h4⟩ := reads_field (α := Int) (o := 4) (by kernel_rfl : chkFieldT Try.prog 132 4 4 3 1 = true) rd3 h
  obtain ⟨a5, h5⟩ := reads_field (α := ByteArray) (o := 5) (by kernel_rfl : chkFieldT Try.prog 132 5 5 9 1 = true) rd9 h
  have hl := struct_len agg132 Try.underlying132 h
  have e : cs = (cs.drop 0).take 6 := by rw [List.drop_zero, List.take_of_length_le (by omega)]
  refine ⟨⟨a0, a1, a2, a3, a4, a5⟩, ?_⟩
  rw [e]
  exact rd_pair h0 (rd_pair h1 (rd_pair h2 (rd_pair h3 (rd_pair h4 h5))))
theorem rd134 : Reads Try.prog 134 Step := by
  intro H enc W fuel cs x h
  obtain ⟨a0, h0⟩ := reads_field (α := Int) (o := 0) (by kernel_rfl : chkFieldT Try.prog 134 0 0 3 1 = true) rd3 h
  obtain ⟨a1, h1⟩ := reads_field (α := Call) (o := 1) (by kernel_rfl : chkFieldT Try.prog 134 1 1 132 6 = true) rd132 h
  have hl := struct_len agg134 Try.underlying134 h
  have e : cs = (cs.drop 0).take 7 := by rw [List.drop_zero, List.take_of_length_le (by omega)]
  refine ⟨⟨a0, a1⟩, ?_⟩
  rw [e]
  exact rd_pair h0 h1
theorem rd67 : Reads Try.prog 67 (List Step) := reads_slice sl67 (by kernel_rfl) rd134
theorem rd136 : Reads Try.prog 136 Answer := by
  intro H enc W fuel cs x h
  obtain ⟨a0, h0⟩ := reads_field (α := Int) (o := 0) (by kernel_rfl : chkFieldT Try.prog 136 0 0 3 1 = true) rd3 h
  obtain ⟨a1, h1⟩ := reads_field (α := Int) (o := 1) (by kernel_rfl : chkFieldT Try.prog 136 1 1 3 1 = true) rd3 h
  obtain ⟨a2, h2⟩ := reads_field (α := ByteArray) (o := 2) (by kernel_rfl : chkFieldT Try.prog 136 2 2 9 1 = true) rd9 h
  have hl := struct_len agg136 Try.underlying136 h
  have e : cs = (cs.drop 0).take 3 := by rw [List.drop_zero, List.take_of_length_le (by omega)]
  refine ⟨⟨a0, a1, a2⟩, ?_⟩
  rw [e]
  exact rd_pair h0 (rd_pair h1 h2)
theorem rd68 : Reads Try.prog 68 (List Answer) := reads_slice sl68 (by kernel_rfl) rd136
theorem rd4 : Reads Try.prog 4 Bool := reads_bool Try.underlying4
theorem rd70 : Reads Try.prog 70 Entry := by
  intro H enc W fuel cs x h
  obtain ⟨a0, h0⟩ := reads_field (α := Int) (o := 0) (by kernel_rfl : chkFieldT Try.prog 70 0 0 3 1 = true) rd3 h
  obtain ⟨a1, h1⟩ := reads_field (α := Int) (o := 1) (by kernel_rfl : chkFieldT Try.prog 70 1 1 3 1 = true) rd3 h
  obtain ⟨a2, h2⟩ := reads_field (α := Int) (o := 2) (by kernel_rfl : chkFieldT Try.prog 70 2 2 3 1 = true) rd3 h
  obtain ⟨a3, h3⟩ := reads_field (α := List Step) (o := 3) (by kernel_rfl : chkFieldT Try.prog 70 3 3 67 1 = true) rd67 h
  obtain ⟨a4, h4⟩ := reads_field (α := List Answer) (o := 4) (by kernel_rfl : chkFieldT Try.prog 70 4 4 68 1 = true) rd68 h
  obtain ⟨a5, h5⟩ := reads_field (α := Int) (o := 5) (by kernel_rfl : chkFieldT Try.prog 70 5 5 3 1 = true) rd3 h
  obtain ⟨a6, h6⟩ := reads_field (α := Int) (o := 6) (by kernel_rfl : chkFieldT Try.prog 70 6 6 3 1 = true) rd3 h
  obtain ⟨a7, h7⟩ := reads_field (α := Bool) (o := 7) (by kernel_rfl : chkFieldT Try.prog 70 7 7 4 1 = true) rd4 h
  have hl := struct_len agg70 Try.underlying70 h
  have e : cs = (cs.drop 0).take 8 := by rw [List.drop_zero, List.take_of_length_le (by omega)]
  refine ⟨⟨a0, a1, a2, a3, a4, a5, a6, a7⟩, ?_⟩
  rw [e]
  exact rd_pair h0 (rd_pair h1 (rd_pair h2 (rd_pair h3 (rd_pair h4 (rd_pair h5 (rd_pair h6 h7))))))
theorem rd24 : Reads Try.prog 24 (List Entry) := reads_slice sl24 (by kernel_rfl) rd70

def laws_FnExactSpans (p0 : List Entry) (p1 : Int) : Bool := (if (decide ((laws_szEntryS p0 1048576) < 0)) = true then true else (if (!(laws_eqIntS (impl_Spans (laws_toEntryS p0) p1) (spec_Spans (laws_toEntryS p0) p1))) = true then false else (if (!(laws_eqEntryS (laws_toEntryS p0) (laws_toEntryS p0))) = true then false else (if ((decide ((laws_markEntryS (laws_toEntryS p0) 1).2 < 0)) || (!(laws_eqIntS (impl_Spans (laws_toEntryS p0) p1) (spec_Spans (laws_toEntryS p0) p1)))) = true then false else (if (decide ((laws_heldIntS ((laws_markIntS (impl_Spans (laws_toEntryS p0) p1) 1).1) 1) < 0)) = true then false else (if (!decide ((laws_heldIntS ((laws_markIntS (impl_Spans (laws_toEntryS p0) p1) 1).1) 1) = (laws_markIntS (impl_Spans (laws_toEntryS p0) p1) 1).2)) = true then false else true))))))
theorem c_laws_FnExactSpans {v0 : Value} (p0 : List Entry) (p1 : Int) {w : World} (hp0 : SlR (Old w) w v0 p0) :
    Calls Try.prog 6 [v0, .int .i64 p1].toArray w (fun e w' => e = .returned (.bool (laws_FnExactSpans p0 p1)) ∧ Below w.heap.size w w') := by
  obtain ⟨A0, cap0, rfl, hx0⟩ := hp0.form
  refine enter Try.func6 rfl Try.ntmps6 (Nat.le_of_ble_eq_true rfl) ?_
  intro a0 hE0
  have hS0 := SH.start w
  have hM := laws_FnExactSpans.eq_1 p0 p1
  have hgd0 : Dat.good p0 := Dat.rd_good (B := Old w) (w := w) (cs := [_]) ⟨_, rfl, hp0⟩
  refine wp_seq (wp_region_lit ?_)
  refine st_val hE0 (y_assign hE0 rfl) rfl fun a1 hE1 => wpList_nil ?_
  clear hE0
  clear a0
  refine then_normal ?_
  refine wp_seq (wp_region_lit ?_)
  refine st_val hE1 (y_assign hE1 rfl) rfl fun a2 hE2 => wpList_nil ?_
  clear hE1
  clear a1
  refine then_normal ?_
  refine wp_seq (wp_region_lit ?_)
  refine st_val hE2 (y_move hE2 rfl) rfl fun a3 hE3 => st_val hE3 (y_move hE3 rfl) rfl fun a4 hE4 => st_callF hE4 hS0 Try.func11 fb11 fn11 (c_laws_szEntryS p0 1048576 (hS0.up hp0)) rfl rfl fun w5 hS5 a6 hE6 => st_val hE6 (y_assign hE6 rfl) rfl fun a7 hE7 => wpList_nil ?_
  clear hE2 hE3 hE4 hE6
  clear a2 a3 a4 a6
  refine then_normal ?_
  refine wp_seq (wp_seq (wp_region_lit ?_))
  refine st_val hE7 (y_move hE7 rfl) rfl fun a8 hE8 => st_val hE8 (y_lss hE8 rfl rfl) rfl fun a9 hE9 => wpList_nil ?_
  clear hE7 hE8
  clear a7 a8
  refine then_normal ?_
  refine cond_split hE9 rfl (fun hb10 => ?_) (fun hb10 => ?_)
  ·
    have hM := hM.trans (if_t hb10)
    have hb10f : (laws_szEntryS p0 1048576) < 0 := of_decide_eq_true hb10
    refine wp_seq (wp_region_lit ?_)
    refine st_val hE9 (y_assign hE9 rfl) rfl fun a11 hE11 => wpList_nil ?_
    clear hE9
    clear a9
    refine then_normal ?_
    refine wp_ret ?_
    refine then_ret ?_
    exact fin1 hE11 rfl rfl ⟨by rw [hM], hS5.below⟩
  ·
    have hM := hM.trans (if_f hb10)
    have hb10f : ¬ ((laws_szEntryS p0 1048576) < 0) := of_decide_eq_false hb10
    obtain ⟨hsm0, hle0, hle0_⟩ := laws_szEntryS_small p0 1048576 (by omega) (by omega) hgd0 hb10f
    have hln0 : p0.length ≤ 1048576 := hsm0.1
    refine wp_skip ?_
    refine then_normal ?_
    refine wp_seq (wp_region_lit ?_)
    refine st_val hE9 (y_move hE9 rfl) rfl fun a12 hE12 => st_callS hE12 hS5 Try.func13 fb13 fn13 (c_laws_toEntryS p0 (hS5.up hp0) hsm0) rfl rfl fun A13 cp13 F13 w13 hx13 hS13 a14 hE14 => st_val hE14 (y_move hE14 rfl) rfl fun a15 hE15 => st_callS hE15 hS13 Try.func18 fb18 fn18 (c_spec_Spans (laws_toEntryS p0) p1 (hS13.ownl (k := 0) rfl) (by rw [laws_toEntryS_id]; exact hsm0)) rfl rfl fun A16 cp16 F16 w16 hx16 hS16 a17 hE17 => st_val hE17 (y_assign hE17 rfl) rfl fun a18 hE18 => wpList_nil ?_
    clear hE9 hE12 hE14 hE15 hE17
    clear a9 a12 a14 a15 a17
    refine then_normal ?_
    refine wp_seq (wp_region_lit ?_)
    refine st_val hE18 (y_move hE18 rfl) rfl fun a19 hE19 => st_callS hE19 hS16 Try.func13 fb13 fn13 (c_laws_toEntryS p0 (hS16.up hp0) hsm0) rfl rfl fun A20 cp20 F20 w20 hx20 hS20 a21 hE21 => st_val hE21 (y_assign hE21 rfl) rfl fun a22 hE22 => wpList_nil ?_
    clear hE18 hE19 hE21
    clear a18 a19 a21
    refine then_normal ?_
    refine wp_seq (wp_region_lit ?_)
    refine st_val hE22 (y_move hE22 rfl) rfl fun a23 hE23 => st_val hE23 (y_move hE23 rfl) rfl fun a24 hE24 => st_callS hE24 hS20 Try.func19 fb19 fn19 (c_impl_Spans (laws_toEntryS p0) p1 (hS20.ownl (k := 0) rfl) (by rw [laws_toEntryS_id]; exact hsm0)) rfl rfl fun A25 cp25 F25 w25 hx25 hS25 a26 hE26 => st_val hE26 (y_assign hE26 rfl) rfl fun a27 hE27 => wpList_nil ?_
    clear hE22 hE23 hE24 hE26
    clear a22 a23 a24 a26
    refine then_normal ?_
    refine wp_seq (wp_seq (wp_region_lit ?_))
    refine st_val hE27 (y_move hE27 rfl) rfl fun a28 hE28 => st_val hE28 (y_move hE28 rfl) rfl fun a29 hE29 => st_callF hE29 hS25 Try.func20 fb20 fn20 (c_laws_eqIntS (impl_Spans (laws_toEntryS p0) p1) (spec_Spans (laws_toEntryS p0) p1) (hS25.ownl (k := 0) rfl) (hS25.ownl (k := 2) rfl)) rfl rfl fun w30 hS30 a31 hE31 => st_val hE31 (y_not hE31 rfl) rfl fun a32 hE32 => wpList_nil ?_
    clear hE27 hE28 hE29 hE31
    clear a27 a28 a29 a31
    refine then_normal ?_
    refine cond_split hE32 rfl (fun hb33 => ?_) (fun hb33 => ?_)
    ·
      have hM := hM.trans (if_t hb33)
      refine wp_seq (wp_region_lit ?_)
      refine st_val hE32 (y_assign hE32 rfl) rfl fun a34 hE34 => wpList_nil ?_
      clear hE32
      clear a32
      refine then_normal ?_
      refine wp_ret ?_
      refine then_ret ?_
      exact fin1 hE34 rfl rfl ⟨by rw [hM], hS30.below⟩
    ·
      have hM := hM.trans (if_f hb33)
      refine wp_skip ?_
      refine then_normal ?_
      refine wp_seq (wp_seq (wp_region_lit ?_))
      refine st_val hE32 (y_move hE32 rfl) rfl fun a35 hE35 => st_val hE35 (y_move hE35 rfl) rfl fun a36 hE36 => st_callS hE36 hS30 Try.func13 fb13 fn13 (c_laws_toEntryS p0 (hS30.up hp0) hsm0) rfl rfl fun A37 cp37 F37 w37 hx37 hS37 a38 hE38 => st_callF hE38 hS37 Try.func15 fb15 fn15 (c_laws_eqEntryS (laws_toEntryS p0) (laws_toEntryS p0) (hS37.ownl (k := 2) rfl) (hS37.ownl (k := 0) rfl)) rfl rfl fun w39 hS39 a40 hE40 => st_val hE40 (y_not hE40 rfl) rfl fun a41 hE41 => wpList_nil ?_
      clear hE32 hE35 hE36 hE38 hE40
      clear a32 a35 a36 a38 a40
      refine then_normal ?_
      refine cond_split hE41 rfl (fun hb42 => ?_) (fun hb42 => ?_)
      ·
        have hM := hM.trans (if_t hb42)
        refine wp_seq (wp_region_lit ?_)
        refine st_val hE41 (y_assign hE41 rfl) rfl fun a43 hE43 => wpList_nil ?_
        clear hE41
        clear a41
        refine then_normal ?_
        refine wp_ret ?_
        refine then_ret ?_
        exact fin1 hE43 rfl rfl ⟨by rw [hM], hS39.below⟩
      ·
        have hM := hM.trans (if_f hb42)
        refine wp_skip ?_
        refine then_normal ?_
        refine wp_seq (wp_region_lit ?_)
        refine st_val hE41 (y_assign hE41 rfl) rfl fun a44 hE44 => wpList_nil ?_
        clear hE41
        clear a41
        refine then_normal ?_
        refine wp_seq (wp_region_lit ?_)
        refine st_val hE44 (y_move hE44 rfl) rfl fun a45 hE45 => st_val hE45 (y_move hE45 rfl) rfl fun a46 hE46 => ?_
        have hP47 : SH (Old w) w w39 (Ck.own (α := List Entry) [.slice A20 ((laws_toEntryS p0).length) cp20] (laws_toEntryS p0) F20 :: [Ck.own (α := List Entry) [.slice A37 ((laws_toEntryS p0).length) cp37] (laws_toEntryS p0) F37, Ck.own (α := List Int) [.slice A25 ((impl_Spans (laws_toEntryS p0) p1).length) cp25] (impl_Spans (laws_toEntryS p0) p1) F25, Ck.own (α := List Int) [.slice A16 ((spec_Spans (laws_toEntryS p0) p1).length) cp16] (spec_Spans (laws_toEntryS p0) p1) F16, Ck.own (α := List Entry) [.slice A13 ((laws_toEntryS p0).length) cp13] (laws_toEntryS p0) F13]) := (hS39.pick [2, 0, 1, 3, 4] (by decide) rfl)
        refine st_callM (c := Ck.own (α := List Entry) [.slice A20 ((laws_toEntryS p0).length) cp20] (laws_toEntryS p0) F20) (c' := fun F47 => Ck.own (α := List Entry) [.slice A20 ((laws_toEntryS p0).length) cp20] ((laws_markEntryS (laws_toEntryS p0) 1).1) F47) (R := I64 (laws_markEntryS (laws_toEntryS p0) 1).2) hE46 hP47 Try.func21 fb21 fn21 (c_laws_markEntryS (laws_toEntryS p0) 1 (SH.off (M := [Ck.own (α := List Entry) [.slice A20 ((laws_toEntryS p0).length) cp20] (laws_toEntryS p0) F20]) (R := [Ck.own (α := List Entry) [.slice A37 ((laws_toEntryS p0).length) cp37] (laws_toEntryS p0) F37, Ck.own (α := List Int) [.slice A25 ((impl_Spans (laws_toEntryS p0) p1).length) cp25] (impl_Spans (laws_toEntryS p0) p1) F25, Ck.own (α := List Int) [.slice A16 ((spec_Spans (laws_toEntryS p0) p1).length) cp16] (spec_Spans (laws_toEntryS p0) p1) F16, Ck.own (α := List Entry) [.slice A13 ((laws_toEntryS p0).length) cp13] (laws_toEntryS p0) F13]) hP47) (by unfold I64; omega)) rfl rfl fun F47 w47 hR47 hS47 a48 hE48 => st_val hE48 (y_assign hE48 rfl) rfl fun a49 hE49 => wpList_nil ?_
        clear hE44 hE45 hE46 hE48
        clear a44 a45 a46 a48
        refine then_normal ?_
        refine wp_seq (wp_seq (wp_region_lit ?_))
        refine st_val hE49 (y_move hE49 rfl) rfl fun a50 hE50 => st_val hE50 (y_lss hE50 rfl rfl) rfl fun a51 hE51 => st_val hE51 (y_move hE51 rfl) rfl fun a52 hE52 => ?_
        refine st_mid 5 (fun a w2 => ∃ r : Bool, r = ((decide ((laws_markEntryS (laws_toEntryS p0) 1).2 < 0)) || (!(laws_eqIntS (impl_Spans (laws_toEntryS p0) p1) (spec_Spans (laws_toEntryS p0) p1)))) ∧ SH (Old w) w w2 [Ck.own (α := List Entry) [.slice A20 ((laws_toEntryS p0).length) cp20] ((laws_markEntryS (laws_toEntryS p0) 1).1) F47, Ck.own (α := List Entry) [.slice A37 ((laws_toEntryS p0).length) cp37] (laws_toEntryS p0) F37, Ck.own (α := List Int) [.slice A25 ((impl_Spans (laws_toEntryS p0) p1).length) cp25] (impl_Spans (laws_toEntryS p0) p1) F25, Ck.own (α := List Int) [.slice A16 ((spec_Spans (laws_toEntryS p0) p1).length) cp16] (spec_Spans (laws_toEntryS p0) p1) F16, Ck.own (α := List Entry) [.slice A13 ((laws_toEntryS p0).length) cp13] (laws_toEntryS p0) F13] ∧ Env 74 ((46, .bool r) :: [(0, .slice A0 p0.length cap0), (1, .int .i64 p1), (4, .bool false), (5, .int .i64 (laws_szEntryS p0 1048576)), (6, .slice A16 ((spec_Spans (laws_toEntryS p0) p1).length) cp16), (7, .slice A20 ((laws_toEntryS p0).length) cp20), (8, .slice A25 ((impl_Spans (laws_toEntryS p0) p1).length) cp25), (9, .int .i64 ((laws_markEntryS (laws_toEntryS p0) 1).2)), (13, .slice A0 p0.length cap0), (14, .int .i64 1048576), (15, .int .i64 (laws_szEntryS p0 1048576)), (16, .int .i64 (laws_szEntryS p0 1048576)), (17, .bool (decide ((laws_szEntryS p0 1048576) < 0))), (18, .slice A0 p0.length cap0), (19, .slice A13 ((laws_toEntryS p0).length) cp13), (20, .int .i64 p1), (21, .slice A16 ((spec_Spans (laws_toEntryS p0) p1).length) cp16), (22, .slice A0 p0.length cap0), (23, .slice A20 ((laws_toEntryS p0).length) cp20), (24, .slice A20 ((laws_toEntryS p0).length) cp20), (25, .int .i64 p1), (26, .slice A25 ((impl_Spans (laws_toEntryS p0) p1).length) cp25), (27, .slice A25 ((impl_Spans (laws_toEntryS p0) p1).length) cp25), (28, .slice A16 ((spec_Spans (laws_toEntryS p0) p1).length) cp16), (29, .bool (laws_eqIntS (impl_Spans (laws_toEntryS p0) p1) (spec_Spans (laws_toEntryS p0) p1))), (30, .bool (!(laws_eqIntS (impl_Spans (laws_toEntryS p0) p1) (spec_Spans (laws_toEntryS p0) p1)))), (31, .slice A20 ((laws_toEntryS p0).length) cp20), (32, .slice A0 p0.length cap0), (33, .slice A37 ((laws_toEntryS p0).length) cp37), (34, .bool (laws_eqEntryS (laws_toEntryS p0) (laws_toEntryS p0))), (35, .bool (!(laws_eqEntryS (laws_toEntryS p0) (laws_toEntryS p0)))), (36, .slice A20 ((laws_toEntryS p0).length) cp20), (37, .int .i64 1), (38, .int .i64 ((laws_markEntryS (laws_toEntryS p0) 1).2)), (39, .int .i64 ((laws_markEntryS (laws_toEntryS p0) 1).2)), (40, .bool (decide ((laws_markEntryS (laws_toEntryS p0) 1).2 < 0))), (41, .bool (decide ((laws_markEntryS (laws_toEntryS p0) 1).2 < 0)))]) a) ?_ ?_
        ·
          rcases Bool.eq_false_or_eq_true (decide ((laws_markEntryS (laws_toEntryS p0) 1).2 < 0)) with hb54 | hb54
          ·
            have hb54f : (laws_markEntryS (laws_toEntryS p0) 1).2 < 0 := of_decide_eq_true hb54
            refine st_skip hE52 rfl rfl rfl hb54 rfl fun a55 hE55 => st_skip hE55 rfl rfl rfl hb54 rfl fun a56 hE56 => st_skip hE56 rfl rfl rfl hb54 rfl fun a57 hE57 => st_skip hE57 rfl rfl rfl hb54 rfl fun a58 hE58 => st_val hE58 (y_pick_t hE58 rfl hb54 rfl) rfl fun a59 hE59 => wpList_nil ?_
            exact ⟨true, by simp only [hb54, Bool.true_and, Bool.false_and, Bool.true_or, Bool.false_or, Bool.and_true, Bool.or_true, Bool.and_false, Bool.or_false], hS47, hE59.weaken ⟨rfl, rfl, rfl, rfl, rfl, rfl, rfl, rfl, rfl, rfl, rfl, rfl, rfl, rfl, rfl, rfl, rfl, rfl, rfl, rfl, rfl, rfl, rfl, rfl, rfl, rfl, rfl, rfl, rfl, rfl, rfl, rfl, rfl, rfl, rfl, rfl, rfl, rfl, trivial⟩⟩
          ·
            have hb54f : ¬ ((laws_markEntryS (laws_toEntryS p0) 1).2 < 0) := of_decide_eq_false hb54
            refine st_run hE52 rfl rfl rfl hb54 <| st_val hE52 (y_move hE52 rfl) rfl fun a60 hE60 => st_run hE60 rfl rfl rfl hb54 <| st_val hE60 (y_move hE60 rfl) rfl fun a61 hE61 => st_run hE61 rfl rfl rfl hb54 <| st_callF hE61 hS47 Try.func20 fb20 fn20 (c_laws_eqIntS (impl_Spans (laws_toEntryS p0) p1) (spec_Spans (laws_toEntryS p0) p1) (hS47.ownl (k := 2) rfl) (hS47.ownl (k := 3) rfl)) rfl rfl fun w62 hS62 a63 hE63 => st_run hE63 rfl rfl rfl hb54 <| st_val hE63 (y_not hE63 rfl) rfl fun a64 hE64 => st_val hE64 (y_pick_f hE64 rfl hb54 rfl) rfl fun a65 hE65 => wpList_nil ?_
            exact ⟨!(laws_eqIntS (impl_Spans (laws_toEntryS p0) p1) (spec_Spans (laws_toEntryS p0) p1)), by simp only [hb54, Bool.true_and, Bool.false_and, Bool.true_or, Bool.false_or, Bool.and_true, Bool.or_true, Bool.and_false, Bool.or_false], hS62, hE65.weaken ⟨rfl, rfl, rfl, rfl, rfl, rfl, rfl, rfl, rfl, rfl, rfl, rfl, rfl, rfl, rfl, rfl, rfl, rfl, rfl, rfl, rfl, rfl, rfl, rfl, rfl, rfl, rfl, rfl, rfl, rfl, rfl, rfl, rfl, rfl, rfl, rfl, rfl, rfl, trivial⟩⟩
        rintro a66 w66 ⟨r66, hr66, hS66, hE66⟩
        subst hr66
        clear hE52 hE49 hE50 hE51
        refine wpList_nil ?_
        refine then_normal ?_
        refine cond_split hE66 rfl (fun hb67 => ?_) (fun hb67 => ?_)
        ·
          have hM := hM.trans (if_t hb67)
          refine wp_seq (wp_region_lit ?_)
          refine st_val hE66 (y_assign hE66 rfl) rfl fun a68 hE68 => wpList_nil ?_
          clear hE66
          clear a66
          refine then_normal ?_
          refine wp_ret ?_
          refine then_ret ?_
          exact fin1 hE68 rfl rfl ⟨by rw [hM], hS66.below⟩
        ·
          have hM := hM.trans (if_f hb67)
          refine wp_skip ?_
          refine then_normal ?_
          refine wp_seq (wp_region_lit ?_)
          refine st_val hE66 (y_assign hE66 rfl) rfl fun a69 hE69 => wpList_nil ?_
          clear hE66
          clear a66
          refine then_normal ?_
          refine wp_seq (wp_region_lit ?_)
          refine st_val hE69 (y_move hE69 rfl) rfl fun a70 hE70 => st_val hE70 (y_move hE70 rfl) rfl fun a71 hE71 => ?_
          have hP72 : SH (Old w) w w66 (Ck.own (α := List Int) [.slice A25 ((impl_Spans (laws_toEntryS p0) p1).length) cp25] (impl_Spans (laws_toEntryS p0) p1) F25 :: [Ck.own (α := List Entry) [.slice A20 ((laws_toEntryS p0).length) cp20] ((laws_markEntryS (laws_toEntryS p0) 1).1) F47, Ck.own (α := List Entry) [.slice A37 ((laws_toEntryS p0).length) cp37] (laws_toEntryS p0) F37, Ck.own (α := List Int) [.slice A16 ((spec_Spans (laws_toEntryS p0) p1).length) cp16] (spec_Spans (laws_toEntryS p0) p1) F16, Ck.own (α := List Entry) [.slice A13 ((laws_toEntryS p0).length) cp13] (laws_toEntryS p0) F13]) := (hS66.pick [2, 0, 1, 3, 4] (by decide) rfl)
          refine st_callM (c := Ck.own (α := List Int) [.slice A25 ((impl_Spans (laws_toEntryS p0) p1).length) cp25] (impl_Spans (laws_toEntryS p0) p1) F25) (c' := fun F72 => Ck.own (α := List Int) [.slice A25 ((impl_Spans (laws_toEntryS p0) p1).length) cp25] ((laws_markIntS (impl_Spans (laws_toEntryS p0) p1) 1).1) F72) (R := I64 (laws_markIntS (impl_Spans (laws_toEntryS p0) p1) 1).2) hE71 hP72 Try.func22 fb22 fn22 (c_laws_markIntS (impl_Spans (laws_toEntryS p0) p1) 1 (SH.off (M := [Ck.own (α := List Int) [.slice A25 ((impl_Spans (laws_toEntryS p0) p1).length) cp25] (impl_Spans (laws_toEntryS p0) p1) F25]) (R := [Ck.own (α := List Entry) [.slice A20 ((laws_toEntryS p0).length) cp20] ((laws_markEntryS (laws_toEntryS p0) 1).1) F47, Ck.own (α := List Entry) [.slice A37 ((laws_toEntryS p0).length) cp37] (laws_toEntryS p0) F37, Ck.own (α := List Int) [.slice A16 ((spec_Spans (laws_toEntryS p0) p1).length) cp16] (spec_Spans (laws_toEntryS p0) p1) F16, Ck.own (α := List Entry) [.slice A13 ((laws_toEntryS p0).length) cp13] (laws_toEntryS p0) F13]) hP72) (by unfold I64; omega)) rfl rfl fun F72 w72 hR72 hS72 a73 hE73 => st_val hE73 (y_assign hE73 rfl) rfl fun a74 hE74 => wpList_nil ?_
          clear hE69 hE70 hE71 hE73
          clear a69 a70 a71 a73
          refine then_normal ?_
          refine wp_seq (wp_region_lit ?_)
          refine st_val hE74 (y_assign hE74 rfl) rfl fun a75 hE75 => wpList_nil ?_
          clear hE74
          clear a74
          refine then_normal ?_
          refine wp_seq (wp_region_lit ?_)
          refine st_val hE75 (y_move hE75 rfl) rfl fun a76 hE76 => st_val hE76 (y_move hE76 rfl) rfl fun a77 hE77 => st_callF hE77 hS72 Try.func23 fb23 fn23 (c_laws_heldIntS ((laws_markIntS (impl_Spans (laws_toEntryS p0) p1) 1).1) 1 (hS72.ownl (k := 0) rfl)) rfl rfl fun w78 hS78 a79 hE79 => st_val hE79 (y_assign hE79 rfl) rfl fun a80 hE80 => wpList_nil ?_
          clear hE75 hE76 hE77 hE79
          clear a75 a76 a77 a79
          refine then_normal ?_
          refine wp_seq (wp_seq (wp_region_lit ?_))
          refine st_val hE80 (y_move hE80 rfl) rfl fun a81 hE81 => st_val hE81 (y_lss hE81 rfl rfl) rfl fun a82 hE82 => wpList_nil ?_
          clear hE80 hE81
          clear a80 a81
          refine then_normal ?_
          refine cond_split hE82 rfl (fun hb83 => ?_) (fun hb83 => ?_)
          ·
            have hM := hM.trans (if_t hb83)
            have hb83f : (laws_heldIntS ((laws_markIntS (impl_Spans (laws_toEntryS p0) p1) 1).1) 1) < 0 := of_decide_eq_true hb83
            refine wp_seq (wp_region_lit ?_)
            refine st_val hE82 (y_assign hE82 rfl) rfl fun a84 hE84 => wpList_nil ?_
            clear hE82
            clear a82
            refine then_normal ?_
            refine wp_ret ?_
            refine then_ret ?_
            exact fin1 hE84 rfl rfl ⟨by rw [hM], hS78.below⟩
          ·
            have hM := hM.trans (if_f hb83)
            have hb83f : ¬ ((laws_heldIntS ((laws_markIntS (impl_Spans (laws_toEntryS p0) p1) 1).1) 1) < 0) := of_decide_eq_false hb83
            refine wp_skip ?_
            refine then_normal ?_
            refine wp_seq (wp_seq (wp_region_lit ?_))
            refine st_val hE82 (y_move hE82 rfl) rfl fun a85 hE85 => st_val hE85 (y_move hE85 rfl) rfl fun a86 hE86 => st_val hE86 (y_neq hE86 rfl rfl) rfl fun a87 hE87 => wpList_nil ?_
            clear hE82 hE85 hE86
            clear a82 a85 a86
            refine then_normal ?_
            refine cond_split hE87 rfl (fun hb88 => ?_) (fun hb88 => ?_)
            ·
              have hM := hM.trans (if_t hb88)
              have hb88f : ¬ ((laws_heldIntS ((laws_markIntS (impl_Spans (laws_toEntryS p0) p1) 1).1) 1) = (laws_markIntS (impl_Spans (laws_toEntryS p0) p1) 1).2) := by simpa using hb88
              refine wp_seq (wp_region_lit ?_)
              refine st_val hE87 (y_assign hE87 rfl) rfl fun a89 hE89 => wpList_nil ?_
              clear hE87
              clear a87
              refine then_normal ?_
              refine wp_ret ?_
              refine then_ret ?_
              exact fin1 hE89 rfl rfl ⟨by rw [hM], hS78.below⟩
            ·
              have hM := hM.trans (if_f hb88)
              have hb88f : (laws_heldIntS ((laws_markIntS (impl_Spans (laws_toEntryS p0) p1) 1).1) 1) = (laws_markIntS (impl_Spans (laws_toEntryS p0) p1) 1).2 := by simpa using hb88
              refine wp_skip ?_
              refine then_normal ?_
              refine wp_seq (wp_region_lit ?_)
              refine st_val hE87 (y_move hE87 rfl) rfl fun a90 hE90 => st_callS hE90 hS78 Try.func13 fb13 fn13 (c_laws_toEntryS p0 (hS78.up hp0) hsm0) rfl rfl fun A91 cp91 F91 w91 hx91 hS91 a92 hE92 => st_val hE92 (y_move hE92 rfl) rfl fun a93 hE93 => st_callS hE93 hS91 Try.func19 fb19 fn19 (c_impl_Spans (laws_toEntryS p0) p1 (hS91.ownl (k := 0) rfl) (by rw [laws_toEntryS_id]; exact hsm0)) rfl rfl fun A94 cp94 F94 w94 hx94 hS94 a95 hE95 => st_val hE95 (y_assign hE95 rfl) rfl fun a96 hE96 => wpList_nil ?_
              clear hE87 hE90 hE92 hE93 hE95
              clear a87 a90 a92 a93 a95
              refine then_normal ?_
              refine wp_seq (wp_seq (wp_region_lit ?_))
              refine st_val hE96 (y_move hE96 rfl) rfl fun a97 hE97 => st_val hE97 (y_move hE97 rfl) rfl fun a98 hE98 => st_callF hE98 hS94 Try.func20 fb20 fn20 (c_laws_eqIntS (impl_Spans (laws_toEntryS p0) p1) (spec_Spans (laws_toEntryS p0) p1) (hS94.ownl (k := 0) rfl) (hS94.ownl (k := 5) rfl)) rfl rfl fun w99 hS99 a100 hE100 => st_val hE100 (y_not hE100 rfl) rfl fun a101 hE101 => wpList_nil ?_
              clear hE96 hE97 hE98 hE100
              clear a96 a97 a98 a100
              refine then_normal ?_
              refine wp_cond_false ((hE101.eval rfl).trans (congrArg Value.bool hb33)) ?_
              refine wp_skip ?_
              refine then_normal ?_
              refine wp_seq (wp_region_lit ?_)
              refine st_val hE101 (y_assign hE101 rfl) rfl fun a102 hE102 => wpList_nil ?_
              clear hE101
              clear a101
              refine then_normal ?_
              refine wp_seq (wp_region_lit ?_)
              refine st_val hE102 (y_move hE102 rfl) rfl fun a103 hE103 => st_val hE103 (y_move hE103 rfl) rfl fun a104 hE104 => st_callF hE104 hS99 Try.func23 fb23 fn23 (c_laws_heldIntS ((laws_markIntS (impl_Spans (laws_toEntryS p0) p1) 1).1) 1 (hS99.ownl (k := 2) rfl)) rfl rfl fun w105 hS105 a106 hE106 => st_val hE106 (y_assign hE106 rfl) rfl fun a107 hE107 => wpList_nil ?_
              clear hE102 hE103 hE104 hE106
              clear a102 a103 a104 a106
              refine then_normal ?_
              refine wp_seq (wp_seq (wp_region_lit ?_))
              refine st_val hE107 (y_move hE107 rfl) rfl fun a108 hE108 => st_val hE108 (y_lss hE108 rfl rfl) rfl fun a109 hE109 => wpList_nil ?_
              clear hE107 hE108
              clear a107 a108
              refine then_normal ?_
              refine wp_cond_false ((hE109.eval rfl).trans (congrArg Value.bool hb83)) ?_
              refine wp_skip ?_
              refine then_normal ?_
              refine wp_seq (wp_seq (wp_region_lit ?_))
              refine st_val hE109 (y_move hE109 rfl) rfl fun a110 hE110 => st_val hE110 (y_move hE110 rfl) rfl fun a111 hE111 => st_val hE111 (y_neq hE111 rfl rfl) rfl fun a112 hE112 => wpList_nil ?_
              clear hE109 hE110 hE111
              clear a109 a110 a111
              refine then_normal ?_
              refine wp_cond_false ((hE112.eval rfl).trans (congrArg Value.bool hb88)) ?_
              refine wp_skip ?_
              refine then_normal ?_
              refine wp_seq (wp_region_lit ?_)
              refine st_val hE112 (y_assign hE112 rfl) rfl fun a113 hE113 => wpList_nil ?_
              clear hE112
              clear a112
              refine then_normal ?_
              refine wp_ret ?_
              exact fin1 hE113 rfl rfl ⟨by rw [hM], hS105.below⟩


theorem Spans_twin (p0 : List Entry) (p1 : Int) : impl_Spans p0 p1 = spec_Spans p0 p1 := by
  have h : ∀ n i y, impl_Spans_l1 p0 p1 n i y = spec_Spans_l1 p0 p1 n i y := by
    intro n
    induction n with
    | zero => intro i y; rfl
    | succ n ih => intro i y; simp only [impl_Spans_l1, spec_Spans_l1, ih]
  exact h _ _ _
theorem Spans_length (p0 : List Entry) (p1 : Int) : (spec_Spans p0 p1).length ≤ p0.length := by
  have h : ∀ n i y, n = p0.length - i → (spec_Spans_l1 p0 p1 n i y).length ≤ y.length + n := by
    intro n
    induction n with
    | zero => intro i y _; exact Nat.le_refl _
    | succ n ih =>
      intro i y hn
      rw [spec_Spans_l1]
      split
      · have := ih (i + 1) (y ++ [(i : Int)]) (by omega)
        simp only [List.length_append, List.length_cons, List.length_nil] at this
        omega
      · have := ih (i + 1) y (by omega)
        omega
  have := h (p0.length - 0) 0 [] rfl
  simpa [spec_Spans] using this
theorem laws_FnExactSpans_true (p0 : List Entry) (p1 : Int) (hg0 : Dat.good p0) : laws_FnExactSpans p0 p1 = true := by
  unfold laws_FnExactSpans
  by_cases hc : laws_szEntryS p0 1048576 < 0
  · simp [hc]
  · obtain ⟨hs, _, _⟩ := laws_szEntryS_small p0 1048576 (by omega) (by omega) hg0 hc
    have hl : p0.length ≤ 1048576 := hs.1
    have hk := laws_markEntryS_pos hs
    have hm := laws_heldIntS_marked (y := spec_Spans p0 p1) (by have := Spans_length p0 p1; omega)
    have hk' : ¬ (laws_markEntryS p0 1).2 < 0 := by omega
    have hm' : ¬ (laws_markIntS (spec_Spans p0 p1) 1).2 < 0 := by omega
    simp only [laws_toEntryS_id, Spans_twin, laws_eqIntS_same, laws_eqEntryS_refl, hm.1]
    simp [hc, hk', hm']

end Go.Proofs.Ytpfnofdaaekglaa.Fw

namespace Go.Proofs.Ytpfnofdaaekglaa.fnExactSpans
open Go.ChangeShapes Go.WideShapes Go.ChangeAt Go.RowKit Go.Proofs.Ytpfnofdaaekglaa.Fw
set_option linter.unusedVariables false

theorem own : ownKnob Try.prog.godebug = none := by kernel_rfl
theorem laidOut : laidOutB Try.prog = true := by kernel_rfl

set_option maxRecDepth 100000 in
theorem lifted (os : Os) (started : os.Started) (H : Type) (enc : TypeId × Value → H) :
    ReturnsInHanded {} Try.checked os 6 .any (Rows.fnExactSpansSpec.pre6 enc Try.prog Try.f6 Rows.fnExactSpansRow.domain false) (Rows.fnExactSpansSpec.post enc Try.prog Try.f6 false true false false) := by
  refine returnsInHanded_of_change (C := Try.checked) own started (by kernel_rfl) Try.func6
    (ChangeSpec.witness6 (enc := enc) (C := Try.checked) false ⟨#[], #[.slice none 0 0, .int .i64 0], []⟩ 8 (by kernel_rfl) (by kernel_rfl) (by kernel_rfl) (by kernel_rfl)) ?_
  intro W base args ds gs before hval0 hW hcnd _
  have hval : ∀ (j : Nat) t v, Try.f6.params[j]? = some t → args[j]? = some v → Value.okWide Try.prog W .any base t v := hval0
  have hW' := hW
  obtain ⟨p, q, hA0, hV, rfl, hfz, hnd⟩ := hW
  have hA : DataW.TrodAll enc Try.prog W 0 (fun _ => true) true Try.f6.params.toList args.toList ds p := hA0
  rw [Try.params6] at hA hval
  obtain ⟨v0, vs0, d0, ds0, p0, q0, hargs, rfl, rfl, h0, r0⟩ := trodAll_cons hA
  obtain ⟨v1, vs1, d1, ds1, p1, q1, rfl, rfl, rfl, h1, r1⟩ := trodAll_cons r0
  obtain ⟨rfl, rfl, rfl⟩ := trodAll_nil r1
  obtain rfl : args = #[v0, v1] := by cases args; simp_all
  obtain ⟨rfl, rfl⟩ := trodVars_none hV
  have k0 := h0
  have lt0 : ∀ x ∈ p0, x.block < W.heap.size := by obtain ⟨m, hm⟩ := k0; exact DataW.trod_lt m _ _ _ hm
  obtain ⟨A0, len0, cap0, rfl⟩ := okWide_slice Try.underlying24 (hval 0 24 v0 rfl rfl)
  obtain ⟨x0, hx0⟩ : ∃ x : List Entry, SlR (Old W) W (.slice A0 len0 cap0) x := by
    obtain ⟨fuel, hf⟩ := h0
    obtain ⟨x, v, hv, hx⟩ := rd24 hf
    cases hv
    exact ⟨x, hx⟩
  have k1 := h1
  have lt1 : ∀ x ∈ p1, x.block < W.heap.size := by obtain ⟨m, hm⟩ := k1; exact DataW.trod_lt m _ _ _ hm
  obtain ⟨x1, rfl, _, _, w1⟩ := open_int Try.underlying3 (hval 1 3 v1 rfl rfl) h1
  have hc := c_laws_FnExactSpans (w := W) x0 x1 hx0
  refine hc.mono fun e W' ⟨he, bel⟩ => ?_
  rw [laws_FnExactSpans_true x0 x1 (Dat.rd_good (B := Old W) (w := W) (cs := [_]) ⟨_, rfl, hx0⟩)] at he
  subst he
  exact ⟨_, rfl, _, _, _, [], _, [], hW', trodAll_mk1 (shut_bool Try.underlying4 _), (trodAll_cons_mk (Below.trod laidOut (by kernel_rfl) (of_decide_eq_true (by kernel_rfl)) k0 bel lt0) (trodAll_cons_mk (Below.trod laidOut (by kernel_rfl) (of_decide_eq_true (by kernel_rfl)) k1 bel lt1) trodAll_mk0)), rfl, bel.frame _, fun h => by cases h⟩

theorem over : Rows.fnExactSpansRow.holds Try.pinned (OpenSpec.ofChange Rows.fnExactSpansSpec) :=
  OpenClaim.holds_of_wide 6 Try.f6 rfl rfl rfl rfl rfl rfl rfl ⟨rfl, rfl, rfl, rfl, rfl⟩ rfl rfl rfl rfl rfl (by kernel_rfl) Try.func6 (by kernel_rfl)
    (of_decide_eq_true (by kernel_rfl)) (by unfold Func.isWrapper; first | (rw [if_pos (by decide +kernel)]; kernel_rfl) | (rw [if_neg (by decide +kernel)]; exact ⟨rfl, rfl⟩))
    (fun os started H enc _ => lifted os started H enc)

end Go.Proofs.Ytpfnofdaaekglaa.fnExactSpans
namespace Go.Proofs.Ytpfnofdaaekglaa
/-- The statement. -/
theorem fnExactSpans_proved : Rows.FnExactSpansSaid := fnExactSpans.over
#print axioms fnExactSpans_proved
end Go.Proofs.Ytpfnofdaaekglaa
