/- The law FnExactStillLive: for every input it returns true, and what came in is as it was. No condition. By program (wip/gen). -/
import Derived.Test.YtpfnofdaaekglaaC4
import Derived.Test.YtpfnofdaaekglaaP2
import Derived.Test.YtpfnofdaaekglaaRows
import Derived.OpenShut
import Derived.ChangeOld
namespace Go.Proofs.Ytpfnofdaaekglaa.Fw
open Go.RowKit
set_option linter.unusedVariables false
set_option linter.unusedSimpArgs false

theorem agg50 : chkAgg Try.prog 50 11 = true := by kernel_rfl
theorem fb29 : Try.f29.body.isNone = false := rfl
theorem fb30 : Try.f30.body.isNone = false := rfl
theorem fb31 : Try.f31.body.isNone = false := rfl
theorem fb32 : Try.f32.body.isNone = false := rfl
theorem fb33 : Try.f33.body.isNone = false := rfl
theorem fn29 : (Try.f29.name == "runtime.NumGoroutine") = false := by kernel_rfl
theorem fn30 : (Try.f30.name == "runtime.NumGoroutine") = false := by kernel_rfl
theorem fn31 : (Try.f31.name == "runtime.NumGoroutine") = false := by kernel_rfl
theorem fn32 : (Try.f32.name == "runtime.NumGoroutine") = false := by kernel_rfl
theorem fn33 : (Try.f33.name == "runtime.NumGoroutine") = false := by kernel_rfl

theorem rd9 : Reads Try.prog 9 ByteArray := reads_string Try.underlying9
theorem rd107 : Reads Try.prog 107 Cell := by
  intro H enc W fuel cs x h
  obtain ⟨a0, h0⟩ := reads_field (α := ByteArray) (o := 0) (by kernel_rfl : chkFieldT Try.prog 107 0 0 9 1 = true) rd9 h
  obtain ⟨a1, h1⟩ := reads_field (α := ByteArray) (o := 1) (by kernel_rfl : chkFieldT Try.prog 107 1 1 9 1 = true) rd9 h
  have hl := struct_len agg107 Try.underlying107 h
  have e : cs = (cs.drop 0).take 2 := by rw [List.drop_zero, List.take_of_length_le (by omega)]
  refine ⟨⟨a0, a1⟩, ?_⟩
  rw [e]
  exact rd_pair h0 h1
theorem rd42 : Reads Try.prog 42 (List Cell) := reads_slice sl42 (by kernel_rfl) rd107
theorem rd3 : Reads Try.prog 3 Int := reads_int Try.underlying3
theorem rd132 : Reads Try.prog 132 Call := by
  intro H enc W fuel cs x h
  obtain ⟨a0, h0⟩ := reads_field (α := Int) (o := 0) (by kernel_rfl : chkFieldT Try.prog 132 0 0 3 1 = true) rd3 h
  obtain ⟨a1, h1⟩ := reads_field (α := ByteArray) (o := 1) (by kernel_rfl : chkFieldT Try.prog 132 1 1 9 1 = true) rd9 h
  obtain ⟨a2, h2⟩ := reads_field (α := ByteArray) (o := 2) (by kernel_rfl : chkFieldT Try.prog 132 2 2 9 1 = true) rd9 h
  obtain ⟨a3, h3⟩ := reads_field (α := Int) (o := 3) (by kernel_rfl : chkFieldT Try.prog 132 3 3 3 1 = true) rd3 h
  obtain ⟨a4, h4⟩ := reads_field (α := Int) (o := 4) (by kernel_rfl : chkFieldT Try.prog 132 4 4 3 1 = true) rd3 h
  obtain ⟨a5, h5⟩ := reads_field (α := ByteArray) (o := 5) (by kernel_rfl : chkFieldT Try.prog 132 5 5 9 1 = true) rd9 h
  have hl := struct_len agg132 Try.underlying132 h
  have e : cs = (cs.drop 0).take 6 := by rw [List.drop_zero, List.take_of_length_le (by omega)]
  refine ⟨⟨a0, a1, a2, a3, a4, a5⟩, ?_⟩
  rw [e]
  exact rd_pair h0 (rd_pair h1 (rd_pair h2 (rd_pair h3 (rd_pair h4 h5))))
theorem rd109 : Reads Try.prog 109 (List Call) := reads_slice sl109 (by kernel_rfl) rd132
theorem rd136 : Reads Try.prog 136 Answer := by
  intro H enc W fuel cs x h
  obtain ⟨a0, h0⟩ := reads_field (α := Int) (o := 0) (by kernel_rfl : chkFieldT Try.prog 136 0 0 3 1 = true) rd3 h
  obtain ⟨a1, h1⟩ := reads_field (α := Int) (o := 1) (by kernel_rfl : chkFieldT Try.prog 136 1 1 3 1 = true) rd3 h
  obtain ⟨a2, h2⟩ := reads_field (α := ByteArray) (o := 2) (by kernel_rfl : chkFieldT Try.prog 136 2 2 9 1 = true) rd9 h
  have hl := struct_len agg136 Try.underlying136 h
  have e : cs = (cs.drop 0).take 3 := by rw [List.drop_zero, List.take_of_length_le (by omega)]
  refine ⟨⟨a0, a1, a2⟩, ?_⟩
  rw [e]
  exact rd_pair h0 (rd_pair h1 h2)
theorem rd68 : Reads Try.prog 68 (List Answer) := reads_slice sl68 (by kernel_rfl) rd136
theorem rd38 : Reads Try.prog 38 (List ByteArray) := reads_slice sl38 (by kernel_rfl) rd9
theorem rd111 : Reads Try.prog 111 Touch := by
  intro H enc W fuel cs x h
  obtain ⟨a0, h0⟩ := reads_field (α := List ByteArray) (o := 0) (by kernel_rfl : chkFieldT Try.prog 111 0 0 38 1 = true) rd38 h
  obtain ⟨a1, h1⟩ := reads_field (α := List ByteArray) (o := 1) (by kernel_rfl : chkFieldT Try.prog 111 1 1 38 1 = true) rd38 h
  have hl := struct_len agg111 Try.underlying111 h
  have e : cs = (cs.drop 0).take 2 := by rw [List.drop_zero, List.take_of_length_le (by omega)]
  refine ⟨⟨a0, a1⟩, ?_⟩
  rw [e]
  exact rd_pair h0 h1
theorem rd32 : Reads Try.prog 32 (List Int) := reads_slice sl32 (by kernel_rfl) rd3
theorem rd113 : Reads Try.prog 113 Tx := by
  intro H enc W fuel cs x h
  obtain ⟨a0, h0⟩ := reads_field (α := Int) (o := 0) (by kernel_rfl : chkFieldT Try.prog 113 0 0 3 1 = true) rd3 h
  obtain ⟨a1, h1⟩ := reads_field (α := Int) (o := 1) (by kernel_rfl : chkFieldT Try.prog 113 1 1 3 1 = true) rd3 h
  obtain ⟨a2, h2⟩ := reads_field (α := Int) (o := 2) (by kernel_rfl : chkFieldT Try.prog 113 2 2 3 1 = true) rd3 h
  obtain ⟨a3, h3⟩ := reads_field (α := Int) (o := 3) (by kernel_rfl : chkFieldT Try.prog 113 3 3 3 1 = true) rd3 h
  obtain ⟨a4, h4⟩ := reads_field (α := List Call) (o := 4) (by kernel_rfl : chkFieldT Try.prog 113 4 4 109 1 = true) rd109 h
  obtain ⟨a5, h5⟩ := reads_field (α := List Answer) (o := 5) (by kernel_rfl : chkFieldT Try.prog 113 5 5 68 1 = true) rd68 h
  obtain ⟨a6, h6⟩ := reads_field (α := Touch) (o := 6) (by kernel_rfl : chkFieldT Try.prog 113 6 6 111 2 = true) rd111 h
  obtain ⟨a7, h7⟩ := reads_field (α := List Int) (o := 8) (by kernel_rfl : chkFieldT Try.prog 113 7 8 32 1 = true) rd32 h
  obtain ⟨a8, h8⟩ := reads_field (α := Int) (o := 9) (by kernel_rfl : chkFieldT Try.prog 113 8 9 3 1 = true) rd3 h
  have hl := struct_len agg113 Try.underlying113 h
  have e : cs = (cs.drop 0).take 10 := by rw [List.drop_zero, List.take_of_length_le (by omega)]
  refine ⟨⟨a0, a1, a2, a3, a4, a5, a6, a7, a8⟩, ?_⟩
  rw [e]
  exact rd_pair h0 (rd_pair h1 (rd_pair h2 (rd_pair h3 (rd_pair h4 (rd_pair h5 (rd_pair h6 (rd_pair h7 h8)))))))
theorem rd43 : Reads Try.prog 43 (List Tx) := reads_slice sl43 (by kernel_rfl) rd113
theorem rd4 : Reads Try.prog 4 Bool := reads_bool Try.underlying4
theorem rd145 : Reads Try.prog 145 Slot := by
  intro H enc W fuel cs x h
  obtain ⟨a0, h0⟩ := reads_field (α := Int) (o := 0) (by kernel_rfl : chkFieldT Try.prog 145 0 0 3 1 = true) rd3 h
  obtain ⟨a1, h1⟩ := reads_field (α := List Cell) (o := 1) (by kernel_rfl : chkFieldT Try.prog 145 1 1 42 1 = true) rd42 h
  obtain ⟨a2, h2⟩ := reads_field (α := Bool) (o := 2) (by kernel_rfl : chkFieldT Try.prog 145 2 2 4 1 = true) rd4 h
  have hl := struct_len agg145 Try.underlying145 h
  have e : cs = (cs.drop 0).take 3 := by rw [List.drop_zero, List.take_of_length_le (by omega)]
  refine ⟨⟨a0, a1, a2⟩, ?_⟩
  rw [e]
  exact rd_pair h0 (rd_pair h1 h2)
theorem rd44 : Reads Try.prog 44 (List Slot) := reads_slice sl44 (by kernel_rfl) rd145
theorem rd46 : Reads Try.prog 46 Journal := by
  intro H enc W fuel cs x h
  obtain ⟨a0, h0⟩ := reads_field (α := ByteArray) (o := 0) (by kernel_rfl : chkFieldT Try.prog 46 0 0 9 1 = true) rd9 h
  obtain ⟨a1, h1⟩ := reads_field (α := Int) (o := 1) (by kernel_rfl : chkFieldT Try.prog 46 1 1 3 1 = true) rd3 h
  have hl := struct_len agg46 Try.underlying46 h
  have e : cs = (cs.drop 0).take 2 := by rw [List.drop_zero, List.take_of_length_le (by omega)]
  refine ⟨⟨a0, a1⟩, ?_⟩
  rw [e]
  exact rd_pair h0 h1
theorem rd48 : Reads Try.prog 48 Disk := by
  intro H enc W fuel cs x h
  obtain ⟨a0, h0⟩ := reads_field (α := List Slot) (o := 0) (by kernel_rfl : chkFieldT Try.prog 48 0 0 44 1 = true) rd44 h
  obtain ⟨a1, h1⟩ := reads_field (α := Journal) (o := 1) (by kernel_rfl : chkFieldT Try.prog 48 1 1 46 2 = true) rd46 h
  have hl := struct_len agg48 Try.underlying48 h
  have e : cs = (cs.drop 0).take 3 := by rw [List.drop_zero, List.take_of_length_le (by omega)]
  refine ⟨⟨a0, a1⟩, ?_⟩
  rw [e]
  exact rd_pair h0 h1
theorem rd134 : Reads Try.prog 134 Step := by
  intro H enc W fuel cs x h
  obtain ⟨a0, h0⟩ := reads_field (α := Int) (o := 0) (by kernel_rfl : chkFieldT Try.prog 134 0 0 3 1 = true) rd3 h
  obtain ⟨a1, h1⟩ := reads_field (α := Call) (o := 1) (by kernel_rfl : chkFieldT Try.prog 134 1 1 132 6 = true) rd132 h
  have hl := struct_len agg134 Try.underlying134 h
  have e : cs = (cs.drop 0).take 7 := by rw [List.drop_zero, List.take_of_length_le (by omega)]
  refine ⟨⟨a0, a1⟩, ?_⟩
  rw [e]
  exact rd_pair h0 h1
theorem rd67 : Reads Try.prog 67 (List Step) := reads_slice sl67 (by kernel_rfl) rd134
theorem rd70 : Reads Try.prog 70 Entry := by
  intro H enc W fuel cs x h
  obtain ⟨a0, h0⟩ := reads_field (α := Int) (o := 0) (by kernel_rfl : chkFieldT Try.prog 70 0 0 3 1 = true) rd3 h
  obtain ⟨a1, h1⟩ := reads_field (α := Int) (o := 1) (by kernel_rfl : chkFieldT Try.prog 70 1 1 3 1 = true) rd3 h
  obtain ⟨a2, h2⟩ := reads_field (α := Int) (o := 2) (by kernel_rfl : chkFieldT Try.prog 70 2 2 3 1 = true) rd3 h
  obtain ⟨a3, h3⟩ := reads_field (α := List Step) (o := 3) (by kernel_rfl : chkFieldT Try.prog 70 3 3 67 1 = true) rd67 h
  obtain ⟨a4, h4⟩ := reads_field (α := List Answer) (o := 4) (by kernel_rfl : chkFieldT Try.prog 70 4 4 68 1 = true) rd68 h
  obtain ⟨a5, h5⟩ := reads_field (α := Int) (o := 5) (by kernel_rfl : chkFieldT Try.prog 70 5 5 3 1 = true) rd3 h
  obtain ⟨a6, h6⟩ := reads_field (α := Int) (o := 6) (by kernel_rfl : chkFieldT Try.prog 70 6 6 3 1 = true) rd3 h
  obtain ⟨a7, h7⟩ := reads_field (α := Bool) (o := 7) (by kernel_rfl : chkFieldT Try.prog 70 7 7 4 1 = true) rd4 h
  have hl := struct_len agg70 Try.underlying70 h
  have e : cs = (cs.drop 0).take 8 := by rw [List.drop_zero, List.take_of_length_le (by omega)]
  refine ⟨⟨a0, a1, a2, a3, a4, a5, a6, a7⟩, ?_⟩
  rw [e]
  exact rd_pair h0 (rd_pair h1 (rd_pair h2 (rd_pair h3 (rd_pair h4 (rd_pair h5 (rd_pair h6 h7))))))
theorem rd24 : Reads Try.prog 24 (List Entry) := reads_slice sl24 (by kernel_rfl) rd70
theorem rd50 : Reads Try.prog 50 Kernel := by
  intro H enc W fuel cs x h
  obtain ⟨a0, h0⟩ := reads_field (α := List Cell) (o := 0) (by kernel_rfl : chkFieldT Try.prog 50 0 0 42 1 = true) rd42 h
  obtain ⟨a1, h1⟩ := reads_field (α := List Tx) (o := 1) (by kernel_rfl : chkFieldT Try.prog 50 1 1 43 1 = true) rd43 h
  obtain ⟨a2, h2⟩ := reads_field (α := Disk) (o := 2) (by kernel_rfl : chkFieldT Try.prog 50 2 2 48 3 = true) rd48 h
  obtain ⟨a3, h3⟩ := reads_field (α := Int) (o := 5) (by kernel_rfl : chkFieldT Try.prog 50 3 5 3 1 = true) rd3 h
  obtain ⟨a4, h4⟩ := reads_field (α := Int) (o := 6) (by kernel_rfl : chkFieldT Try.prog 50 4 6 3 1 = true) rd3 h
  obtain ⟨a5, h5⟩ := reads_field (α := Int) (o := 7) (by kernel_rfl : chkFieldT Try.prog 50 5 7 3 1 = true) rd3 h
  obtain ⟨a6, h6⟩ := reads_field (α := List Entry) (o := 8) (by kernel_rfl : chkFieldT Try.prog 50 6 8 24 1 = true) rd24 h
  obtain ⟨a7, h7⟩ := reads_field (α := List ByteArray) (o := 9) (by kernel_rfl : chkFieldT Try.prog 50 7 9 38 1 = true) rd38 h
  obtain ⟨a8, h8⟩ := reads_field (α := Bool) (o := 10) (by kernel_rfl : chkFieldT Try.prog 50 8 10 4 1 = true) rd4 h
  have hl := struct_len agg50 Try.underlying50 h
  have e : cs = (cs.drop 0).take 11 := by rw [List.drop_zero, List.take_of_length_le (by omega)]
  refine ⟨⟨a0, a1, a2, a3, a4, a5, a6, a7, a8⟩, ?_⟩
  rw [e]
  exact rd_pair h0 (rd_pair h1 (rd_pair h2 (rd_pair h3 (rd_pair h4 (rd_pair h5 (rd_pair h6 (rd_pair h7 h8)))))))

def laws_FnExactStillLive (p0 : Kernel) (p1 : Int) : Bool := (if (decide ((laws_szKernel p0 1048576) < 0)) = true then true else (if (!decide ((impl_StillLive (laws_toKernel p0) p1) = (spec_StillLive (laws_toKernel p0) p1))) = true then false else (if (!(laws_eqKernel (laws_toKernel p0) (laws_toKernel p0))) = true then false else true)))
theorem c_laws_FnExactStillLive {c0 : List Value} (p0 : Kernel) (p1 : Int) {w : World} (hp0 : Dat.rd (Old w) w c0 p0) :
    Calls Try.prog 8 [.agg c0.toArray, .int .i64 p1].toArray w (fun e w' => e = .returned (.bool (laws_FnExactStillLive p0 p1)) ∧ Below w.heap.size w w') := by
  obtain ⟨v90000_0, v90000_1, v90000_2, v90000_8, v90000_9, rfl, hv90000_0, hv90000_1, hv90000_2, hg90000_3, hg90000_4, hg90000_5, hg90000_6, hg90000_7, hv90000_8, hv90000_9, _⟩ := Kernel_open hp0
  obtain ⟨A90000_0, cp90000_0, rfl, hx90000_0⟩ := hv90000_0.form
  obtain ⟨A90000_1, cp90000_1, rfl, hx90000_1⟩ := hv90000_1.form
  obtain ⟨A90000_2, cp90000_2, rfl, hx90000_2⟩ := hv90000_2.form
  obtain ⟨A90000_8, cp90000_8, rfl, hx90000_8⟩ := hv90000_8.form
  obtain ⟨A90000_9, cp90000_9, rfl, hx90000_9⟩ := hv90000_9.form
  refine enter Try.func8 rfl Try.ntmps8 (Nat.le_of_ble_eq_true rfl) ?_
  intro a0 hE0
  have hS0 := SH.start w
  have hM := laws_FnExactStillLive.eq_1 p0 p1
  have hgd0 : Dat.good p0 := Dat.rd_good hp0
  refine wp_seq (wp_region_lit ?_)
  refine st_box hE0 hS0 rfl rfl rfl fun b1 w1 hS1 a2 hE2 => st_val hE2 (y_assign hE2 rfl) rfl fun a3 hE3 => wpList_nil ?_
  clear hE0 hE2
  clear a0 a2
  refine then_normal ?_
  refine wp_seq (wp_region_lit ?_)
  refine st_val hE3 (y_assign hE3 rfl) rfl fun a4 hE4 => wpList_nil ?_
  clear hE3
  clear a3
  refine then_normal ?_
  refine wp_seq (wp_region_lit ?_)
  refine st_val hE4 (y_load_agg hE4 rfl (hS1.cells (k := 0) rfl) rfl rfl agg50) rfl fun a5 hE5 => st_val hE5 (y_move hE5 rfl) rfl fun a6 hE6 => st_callF hE6 hS1 Try.func29 fb29 fn29 (c_laws_szKernel p0 1048576 (hS1.upd hp0)) rfl rfl fun w7 hS7 a8 hE8 => st_val hE8 (y_assign hE8 rfl) rfl fun a9 hE9 => wpList_nil ?_
  clear hE4 hE5 hE6 hE8
  clear a4 a5 a6 a8
  refine then_normal ?_
  refine wp_seq (wp_seq (wp_region_lit ?_))
  refine st_val hE9 (y_move hE9 rfl) rfl fun a10 hE10 => st_val hE10 (y_lss hE10 rfl rfl) rfl fun a11 hE11 => wpList_nil ?_
  clear hE9 hE10
  clear a9 a10
  refine then_normal ?_
  refine cond_split hE11 rfl (fun hb12 => ?_) (fun hb12 => ?_)
  ·
    have hM := hM.trans (if_t hb12)
    have hb12f : (laws_szKernel p0 1048576) < 0 := of_decide_eq_true hb12
    refine wp_seq (wp_region_lit ?_)
    refine st_val hE11 (y_assign hE11 rfl) rfl fun a13 hE13 => wpList_nil ?_
    clear hE11
    clear a11
    refine then_normal ?_
    refine wp_ret ?_
    refine then_ret ?_
    exact fin1 hE13 rfl rfl ⟨by rw [hM], hS7.below⟩
  ·
    have hM := hM.trans (if_f hb12)
    have hb12f : ¬ ((laws_szKernel p0 1048576) < 0) := of_decide_eq_false hb12
    obtain ⟨hsm0, hle0, hle0_⟩ := laws_szKernel_small p0 1048576 (by omega) (by omega) hgd0 hb12f
    refine wp_skip ?_
    refine then_normal ?_
    refine wp_seq (wp_region_lit ?_)
    refine st_val hE11 (y_load_agg hE11 rfl (hS7.cells (k := 0) rfl) rfl rfl agg50) rfl fun a14 hE14 => st_callO (mk := fun cs => .agg cs.toArray) hE14 hS7 Try.func31 fb31 fn31 (c_laws_toKernel p0 (hS7.upd hp0) hsm0) rfl rfl fun cs15 F15 w15 hS15 a16 hE16 => st_val hE16 (y_move hE16 rfl) rfl fun a17 hE17 => st_callF hE17 hS15 Try.func30 fb30 fn30 (c_spec_StillLive (laws_toKernel p0) p1 (hS15.ownd (k := 0) rfl)) rfl rfl fun w18 hS18 a19 hE19 => st_val hE19 (y_assign hE19 rfl) rfl fun a20 hE20 => wpList_nil ?_
    clear hE11 hE14 hE16 hE17 hE19
    clear a11 a14 a16 a17 a19
    refine then_normal ?_
    refine wp_seq (wp_region_lit ?_)
    refine st_val hE20 (y_load_agg hE20 rfl (hS18.cells (k := 1) rfl) rfl rfl agg50) rfl fun a21 hE21 => st_callO (mk := fun cs => .agg cs.toArray) hE21 hS18 Try.func31 fb31 fn31 (c_laws_toKernel p0 (hS18.upd hp0) hsm0) rfl rfl fun cs22 F22 w22 hS22 a23 hE23 => st_alloc hE23 hS22 Try.zeroValue60 rfl rfl fun b24 w24 hS24 a25 hE25 => st_store hE25 hS24 cs22 rfl rfl (k := 0) rfl rfl (chkAgg_size agg60) (hS24.lenO (k := 1) rfl) rfl (hS24.oneO' (k := 1) rfl) (by simp) fun w26 (hS26 : SH (Old w) w w26 [Ck.var b24 cs22 60, Ck.own (α := Kernel) cs22 (laws_toKernel p0) F22, Ck.own (α := Kernel) cs15 (laws_toKernel p0) F15, Ck.var b1 [.slice A90000_0 p0.Store.length cp90000_0, .slice A90000_1 p0.Txs.length cp90000_1, .slice A90000_2 p0.Disk.Slots.length cp90000_2, .string p0.Disk.Journal.Text, .int .i64 p0.Disk.Journal.Sure, .int .i64 p0.Seq, .int .i64 p0.Next, .int .i64 p0.Time, .slice A90000_8 p0.History.length cp90000_8, .slice A90000_9 p0.Seen.length cp90000_9, .bool p0.Room] 50]) a27 hE27 => wpList_nil ?_
    clear hE20 hE21 hE23 hE25
    clear a20 a21 a23 a25
    refine then_normal ?_
    refine wp_seq (wp_region_lit ?_)
    refine st_val hE27 (y_load_whole hE27 rfl (hS26.cells (k := 0) rfl) (hS26.lenO (k := 1) rfl) agg60) rfl fun a28 hE28 => st_val hE28 (y_move hE28 rfl) rfl fun a29 hE29 => st_callF hE29 hS26 Try.func32 fb32 fn32 (c_impl_StillLive (laws_toKernel p0) p1 (hS26.ownd (k := 1) rfl)) rfl rfl fun w30 hS30 a31 hE31 => st_val hE31 (y_assign hE31 rfl) rfl fun a32 hE32 => wpList_nil ?_
    clear hE27 hE28 hE29 hE31
    clear a27 a28 a29 a31
    refine then_normal ?_
    refine wp_seq (wp_seq (wp_region_lit ?_))
    refine st_val hE32 (y_move hE32 rfl) rfl fun a33 hE33 => st_val hE33 (y_move hE33 rfl) rfl fun a34 hE34 => st_val hE34 (y_neq_bool hE34 rfl rfl Try.underlying4) rfl fun a35 hE35 => wpList_nil ?_
    clear hE32 hE33 hE34
    clear a32 a33 a34
    refine then_normal ?_
    refine cond_split hE35 rfl (fun hb36 => ?_) (fun hb36 => ?_)
    ·
      have hM := hM.trans (if_t hb36)
      refine wp_seq (wp_region_lit ?_)
      refine st_val hE35 (y_assign hE35 rfl) rfl fun a37 hE37 => wpList_nil ?_
      clear hE35
      clear a35
      refine then_normal ?_
      refine wp_ret ?_
      refine then_ret ?_
      exact fin1 hE37 rfl rfl ⟨by rw [hM], hS30.below⟩
    ·
      have hM := hM.trans (if_f hb36)
      refine wp_skip ?_
      refine then_normal ?_
      have hS38 := hS30.drew
      refine wp_seq (wp_seq (reg_held 5 rfl (fun w2 => SH (Old w) w w2 [Ck.var b24 cs22 60, Ck.own (α := Kernel) cs22 (laws_toKernel p0) F22, Ck.own (α := Kernel) cs15 (laws_toKernel p0) F15, Ck.var b1 [.slice A90000_0 p0.Store.length cp90000_0, .slice A90000_1 p0.Txs.length cp90000_1, .slice A90000_2 p0.Disk.Slots.length cp90000_2, .string p0.Disk.Journal.Text, .int .i64 p0.Disk.Journal.Sure, .int .i64 p0.Seq, .int .i64 p0.Next, .int .i64 p0.Time, .slice A90000_8 p0.History.length cp90000_8, .slice A90000_9 p0.Seen.length cp90000_9, .bool p0.Room] 50]) mixed ?_))
      refine h_take 0 rfl (by kernel_rfl) hE35 (fun wh39 hh39 => y_load_whole hE35 rfl (hh39.cells (k := 0) rfl) (hh39.lenO (k := 1) rfl) agg60) hS38 rfl fun a40 hE40 => h_only 1 rfl (by kernel_rfl) <| st_val hE40 (y_load_agg hE40 rfl (hS38.cells (k := 3) rfl) rfl rfl agg50) rfl fun a41 hE41 => ?_
      refine wpList_nil ⟨rfl, hS38, ?_⟩
      refine h_only 2 rfl (by kernel_rfl) <| st_callO (mk := fun cs => .agg cs.toArray) hE41 hS38 Try.func31 fb31 fn31 (c_laws_toKernel p0 (hS38.upd hp0) hsm0) rfl rfl fun cs42 F42 w42 hS42 a43 hE43 => ?_
      refine wpList_nil ⟨rfl, hS42.drop (k := 1), ?_⟩
      refine h_only 3 rfl (by kernel_rfl) <| st_callF hE43 hS42 Try.func33 fb33 fn33 (c_laws_eqKernel (laws_toKernel p0) (laws_toKernel p0) (hS42.ownd (k := 2) rfl) (hS42.ownd (k := 0) rfl)) rfl rfl fun w44 hS44 a45 hE45 => ?_
      refine wpList_nil ⟨rfl, hS44.drop (k := 1), ?_⟩
      refine h_only 4 rfl (by kernel_rfl) <| st_val hE45 (y_not hE45 rfl) rfl fun a46 hE46 => ?_
      refine wpList_nil ⟨rfl, hS44.drop (k := 1), ?_⟩
      refine h_end (by kernel_rfl) ?_
      clear hE35 hE40 hE41 hE43 hE45
      clear a35 a40 a41 a43 a45
      refine then_normal ?_
      refine cond_split hE46 rfl (fun hb47 => ?_) (fun hb47 => ?_)
      ·
        have hM := hM.trans (if_t hb47)
        refine wp_seq (wp_region_lit ?_)
        refine st_val hE46 (y_assign hE46 rfl) rfl fun a48 hE48 => wpList_nil ?_
        clear hE46
        clear a46
        refine then_normal ?_
        refine wp_ret ?_
        refine then_ret ?_
        exact fin1 hE48 rfl rfl ⟨by rw [hM], hS44.below⟩
      ·
        have hM := hM.trans (if_f hb47)
        refine wp_skip ?_
        refine then_normal ?_
        refine wp_seq (wp_region_lit ?_)
        refine st_val hE46 (y_assign hE46 rfl) rfl fun a49 hE49 => wpList_nil ?_
        clear hE46
        clear a46
        refine then_normal ?_
        refine wp_ret ?_
        exact fin1 hE49 rfl rfl ⟨by rw [hM], hS44.below⟩


theorem live_twin (k : Kernel) (id : Int) : impl_Kernel_live k id = spec_l27Live k id := by
  have h : ∀ n i, slices_IndexFunc_Tx_l1 k.Txs (fun x0 => impl_Kernel_live_1 x0 id) n i = spec_l27Live_l1 k id n i := by
    intro n
    induction n with
    | zero => intro i; rfl
    | succ n ih => intro i; rw [slices_IndexFunc_Tx_l1, spec_l27Live_l1, ih]; rfl
  simp only [impl_Kernel_live, slices_IndexFunc_Tx, spec_l27Live, h]
theorem laws_FnExactStillLive_true (p0 : Kernel) (p1 : Int) (hg0 : Dat.good p0) : laws_FnExactStillLive p0 p1 = true := by
  have h : impl_StillLive p0 p1 = spec_StillLive p0 p1 := by simp only [impl_StillLive, spec_StillLive, live_twin]
  unfold laws_FnExactStillLive
  simp [h]

end Go.Proofs.Ytpfnofdaaekglaa.Fw

namespace Go.Proofs.Ytpfnofdaaekglaa.fnExactStillLive
open Go.ChangeShapes Go.WideShapes Go.ChangeAt Go.RowKit Go.Proofs.Ytpfnofdaaekglaa.Fw
set_option linter.unusedVariables false

theorem own : ownKnob Try.prog.godebug = none := by kernel_rfl
theorem laidOut : laidOutB Try.prog = true := by kernel_rfl

set_option maxRecDepth 100000 in
theorem lifted (os : Os) (started : os.Started) (H : Type) (enc : TypeId × Value → H) :
    ReturnsInHanded {} Try.checked os 8 .any (Rows.fnExactStillLiveSpec.pre6 enc Try.prog Try.f8 Rows.fnExactStillLiveRow.domain false) (Rows.fnExactStillLiveSpec.post enc Try.prog Try.f8 false true false false) := by
  refine returnsInHanded_of_change (C := Try.checked) own started (by kernel_rfl) Try.func8
    (ChangeSpec.witness6 (enc := enc) (C := Try.checked) false ⟨#[], #[.agg #[.slice none 0 0, .slice none 0 0, .slice none 0 0, .string ⟨#[]⟩, .int .i64 0, .int .i64 0, .int .i64 0, .int .i64 0, .slice none 0 0, .slice none 0 0, .bool false], .int .i64 0], []⟩ 8 (by kernel_rfl) (by kernel_rfl) (by kernel_rfl) (by kernel_rfl)) ?_
  intro W base args ds gs before hval0 hW hcnd _
  have hval : ∀ (j : Nat) t v, Try.f8.params[j]? = some t → args[j]? = some v → Value.okWide Try.prog W .any base t v := hval0
  have hW' := hW
  obtain ⟨p, q, hA0, hV, rfl, hfz, hnd⟩ := hW
  have hA : DataW.TrodAll enc Try.prog W 0 (fun _ => true) true Try.f8.params.toList args.toList ds p := hA0
  rw [Try.params8] at hA hval
  obtain ⟨v0, vs0, d0, ds0, p0, q0, hargs, rfl, rfl, h0, r0⟩ := trodAll_cons hA
  obtain ⟨v1, vs1, d1, ds1, p1, q1, rfl, rfl, rfl, h1, r1⟩ := trodAll_cons r0
  obtain ⟨rfl, rfl, rfl⟩ := trodAll_nil r1
  obtain rfl : args = #[v0, v1] := by cases args; simp_all
  obtain ⟨rfl, rfl⟩ := trodVars_none hV
  have k0 := h0
  have lt0 : ∀ x ∈ p0, x.block < W.heap.size := by obtain ⟨m, hm⟩ := k0; exact DataW.trod_lt m _ _ _ hm
  obtain ⟨cs0, rfl, _⟩ := okWide_struct Try.underlying50 (hval 0 50 v0 rfl rfl)
  obtain ⟨x0, hx0⟩ : ∃ x : Kernel, Dat.rd (Old W) W cs0.toList x := by
    obtain ⟨fuel, hf⟩ := h0
    exact rd50 hf
  have k1 := h1
  have lt1 : ∀ x ∈ p1, x.block < W.heap.size := by obtain ⟨m, hm⟩ := k1; exact DataW.trod_lt m _ _ _ hm
  obtain ⟨x1, rfl, _, _, w1⟩ := open_int Try.underlying3 (hval 1 3 v1 rfl rfl) h1
  have hc := c_laws_FnExactStillLive (w := W) x0 x1 hx0
  refine hc.mono fun e W' ⟨he, bel⟩ => ?_
  rw [laws_FnExactStillLive_true x0 x1 (Dat.rd_good hx0)] at he
  subst he
  exact ⟨_, rfl, _, _, _, [], _, [], hW', trodAll_mk1 (shut_bool Try.underlying4 _), (trodAll_cons_mk (Below.trod laidOut (by kernel_rfl) (of_decide_eq_true (by kernel_rfl)) k0 bel lt0) (trodAll_cons_mk (Below.trod laidOut (by kernel_rfl) (of_decide_eq_true (by kernel_rfl)) k1 bel lt1) trodAll_mk0)), rfl, bel.frame _, fun h => by cases h⟩

theorem over : Rows.fnExactStillLiveRow.holds Try.pinned (OpenSpec.ofChange Rows.fnExactStillLiveSpec) :=
  OpenClaim.holds_of_wide 8 Try.f8 rfl rfl rfl rfl rfl rfl rfl ⟨rfl, rfl, rfl, rfl, rfl⟩ rfl rfl rfl rfl rfl (by kernel_rfl) Try.func8 (by kernel_rfl)
    (of_decide_eq_true (by kernel_rfl)) (by unfold Func.isWrapper; first | (rw [if_pos (by decide +kernel)]; kernel_rfl) | (rw [if_neg (by decide +kernel)]; exact ⟨rfl, rfl⟩))
    (fun os started H enc _ => lifted os started H enc)

end Go.Proofs.Ytpfnofdaaekglaa.fnExactStillLive
namespace Go.Proofs.Ytpfnofdaaekglaa
/-- The statement. -/
theorem fnExactStillLive_proved : Rows.FnExactStillLiveSaid := fnExactStillLive.over
#print axioms fnExactStillLive_proved
end Go.Proofs.Ytpfnofdaaekglaa
