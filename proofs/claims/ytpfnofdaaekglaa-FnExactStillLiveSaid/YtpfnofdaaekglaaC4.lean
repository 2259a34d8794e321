/- Contracts: each call returns what the model says. By program (wip/gen). -/
import Derived.Test.YtpfnofdaaekglaaH3
namespace Go.Proofs.Ytpfnofdaaekglaa.Fw
open Go.RowKit
set_option linter.unusedVariables false
set_option linter.unusedSimpArgs false

theorem fb48 : Try.f48.body.isNone = false := rfl
theorem fb53 : Try.f53.body.isNone = false := rfl
theorem fb74 : Try.f74.body.isNone = false := rfl
theorem fb75 : Try.f75.body.isNone = false := rfl
theorem fn48 : (Try.f48.name == "runtime.NumGoroutine") = false := by kernel_rfl
theorem fn53 : (Try.f53.name == "runtime.NumGoroutine") = false := by kernel_rfl
theorem fn74 : (Try.f74.name == "runtime.NumGoroutine") = false := by kernel_rfl
theorem fn75 : (Try.f75.name == "runtime.NumGoroutine") = false := by kernel_rfl
theorem fok75 : FnOk Try.prog 75 := ⟨_, Try.func75, rfl, by kernel_rfl⟩

/- F74 slices.IndexFunc[[]loop.example/g00974/impl.Tx,loop.example/g00974/impl.Tx] -/
def slices_IndexFunc_Tx_l1 (p0 : List Tx) (p1 : Tx → Bool) : Nat → Nat → Int
  | 0, i1 => (-1)
  | fu1 + 1, i1 => (if (p1 (nth p0 i1)) = true then (i1 : Int) else slices_IndexFunc_Tx_l1 p0 p1 fu1 (i1 + 1) )
def slices_IndexFunc_Tx (p0 : List Tx) (p1 : Tx → Bool) : Int := slices_IndexFunc_Tx_l1 p0 p1 (p0.length - 0) 0 
theorem c_slices_IndexFunc_Tx {v0 : Value} (p0 : List Tx) (fi1 : FuncId) (fc1 : List Value) (p1 : Tx → Bool) {w : World} (hp0 : SlR (Old w) w v0 p0) (hk1 : FnOk Try.prog fi1) (hf1 : ∀ (x0 : Tx) (k0 : List Value) (w1 : World), Below w.heap.size w w1 → Dat.rd (Old w1) w1 k0 x0 → Calls Try.prog fi1 ([Value.agg k0.toArray] ++ fc1).toArray w1 (fun e w2 => e = .returned (.bool (p1 x0)) ∧ Below w1.heap.size w1 w2)) :
    Calls Try.prog 74 [v0, .func (.func fi1) #[] fc1.toArray].toArray w (fun e w' => e = .returned (.int .i64 (slices_IndexFunc_Tx p0 p1)) ∧ Below w.heap.size w w') := by
  obtain ⟨A0, cap0, rfl, hx0⟩ := hp0.form
  refine enter Try.func74 rfl Try.ntmps74 (Nat.le_of_ble_eq_true rfl) ?_
  intro a0 hE0
  have hS0 := SH.start w
  have hM := slices_IndexFunc_Tx.eq_1 p0 p1
  refine wp_seq (wp_region_lit ?_)
  refine st_val hE0 (y_assign hE0 rfl) rfl fun a1 hE1 => wpList_nil ?_
  clear hE0
  clear a0
  refine then_normal ?_
  refine wp_seq (wp_seq (wp_region_lit ?_))
  refine st_val hE1 (y_move hE1 rfl) rfl fun a2 hE2 => st_val hE2 (y_len_slice hE2 rfl sl54) rfl fun a3 hE3 => st_val hE3 (y_move hE3 rfl) rfl fun a4 hE4 => wpList_nil ?_
  clear hE1 hE2 hE3
  clear a1 a2 a3
  refine then_normal ?_
  refine wp_block (wp_loop_ghost (fun fu1 a w2 => ∃ (i1 : Nat), 0 ≤ i1 ∧ fu1 = p0.length - i1 ∧ slices_IndexFunc_Tx p0 p1 = slices_IndexFunc_Tx_l1 p0 p1 fu1 i1  ∧ Env 19 [(0, .slice A0 p0.length cap0), (1, .func (.func fi1) #[] fc1.toArray), (7, .int .i64 (p0.length : Int)), (8, .int .i64 (i1 : Int))] a ∧ SH (Old w) w w2 []) (p0.length - 0) ⟨0, Nat.le_refl _, rfl, hM, hE4.weaken ⟨rfl, rfl, rfl, rfl, trivial⟩, hS0⟩ ?_)
  clear hM hE4
  rintro fu1 a5 w5 ⟨i1, hi1, hfu1, hM, hE5, hS5⟩
  refine wp_seq (wp_region_lit ?_)
  refine st_val hE5 (y_lss hE5 rfl rfl) rfl fun a6 hE6 => wpList_nil ?_
  clear hE5
  clear a5
  refine then_normal ?_
  refine wp_seq (cond_split hE6 rfl (fun hb7 => ?_) (fun hb7 => ?_))
  ·
    have hlt1 : i1 < p0.length := by have := of_decide_eq_true hb7; omega
    obtain ⟨fu1, rfl⟩ : ∃ m, fu1 = m + 1 := ⟨fu1 - 1, by omega⟩
    have hM := hM.trans (slices_IndexFunc_Tx_l1.eq_2 _ _ _ _)
    refine wp_skip ?_
    refine then_normal ?_
    refine wp_seq (wp_block (wp_seq (wp_region_lit ?_)))
    refine st_val hE6 (y_move hE6 rfl) rfl fun a8 hE8 => st_val hE8 (y_assign hE8 rfl) rfl fun a9 hE9 => wpList_nil ?_
    clear hE6 hE8
    clear a6 a8
    refine then_normal ?_
    refine wp_seq (wp_region_lit ?_)
    refine st_val hE9 (y_move hE9 rfl) rfl fun a10 hE10 => st_val hE10 (y_move hE10 rfl) rfl fun a11 hE11 => st_val hE11 (y_move hE11 rfl) rfl fun a12 hE12 => st_index hE12 hp0 rfl rfl rfl (by omega) sl54 rfl fun ad13 cs13 hr13 hc13 hl13 a14 hE14 => ?_
    obtain ⟨v13_4, v13_5, v13_6, v13_7, v13_8, rfl, hg13_0, hg13_1, hg13_2, hg13_3, hv13_4, hv13_5, hv13_6, hv13_7, hv13_8, hg13_9, _⟩ := Tx_open hr13
    obtain ⟨A13_4, cp13_4, rfl, hx13_4⟩ := hv13_4.form
    obtain ⟨A13_5, cp13_5, rfl, hx13_5⟩ := hv13_5.form
    obtain ⟨A13_6, cp13_6, rfl, hx13_6⟩ := hv13_6.form
    obtain ⟨A13_7, cp13_7, rfl, hx13_7⟩ := hv13_7.form
    obtain ⟨A13_8, cp13_8, rfl, hx13_8⟩ := hv13_8.form
    refine st_val hE14 (y_load_agg hE14 rfl (hS5.upc hc13 hl13) rfl rfl agg119) rfl fun a15 hE15 => st_callV hE15 hS5 hk1 rfl (hf1 _ _ _ hS5.below (hS5.upd hr13)) rfl rfl fun w16 hS16 a17 hE17 => wpList_nil ?_
    clear hE9 hE10 hE11 hE12 hE14 hE15
    clear a9 a10 a11 a12 a14 a15
    refine then_normal ?_
    refine cond_split hE17 rfl (fun hb18 => ?_) (fun hb18 => ?_)
    ·
      have hM := hM.trans (if_t hb18)
      refine wp_seq (wp_region_lit ?_)
      refine st_val hE17 (y_move hE17 rfl) rfl fun a19 hE19 => st_val hE19 (y_assign hE19 rfl) rfl fun a20 hE20 => wpList_nil ?_
      clear hE17 hE19
      clear a17 a19
      refine then_normal ?_
      refine wp_ret ?_
      refine blk_ret ?_
      refine then_ret ?_
      refine then_ret ?_
      refine blk_ret ?_
      refine then_ret ?_
      exact fin1 hE20 rfl rfl ⟨by rw [hM], hS16.below⟩
    ·
      have hM := hM.trans (if_f hb18)
      refine wp_skip ?_
      refine blk_normal ?_
      refine then_normal ?_
      refine wp_region_lit ?_
      refine st_val hE17 (y_add_in hE17 rfl rfl (m := ((i1 + 1 : Nat) : Int)) (by omega) (by omega) (by omega)) rfl fun a21 hE21 => st_val hE21 (y_move hE21 rfl) rfl fun a22 hE22 => wpList_nil ?_
      clear hE17 hE21
      clear a17 a21
      refine then_normal ⟨fu1, Nat.lt_succ_self _, (i1 + 1), by omega, by omega, hM, hE22.weaken ⟨rfl, rfl, rfl, rfl, trivial⟩, hS16⟩
  ·
    have hge1 : ¬ i1 < p0.length := by have := of_decide_eq_false hb7; omega
    obtain rfl : fu1 = 0 := by omega
    have hM := hM.trans (slices_IndexFunc_Tx_l1.eq_1 _ _ _)
    refine wp_exit ?_
    refine then_exit ?_
    refine then_exit ?_
    refine blk_exit ?_
    refine then_normal ?_
    refine wp_seq (wp_region_lit ?_)
    refine st_val hE6 (y_assign hE6 rfl) rfl fun a23 hE23 => wpList_nil ?_
    clear hE6
    clear a6
    refine then_normal ?_
    refine wp_ret ?_
    exact fin1 hE23 rfl rfl ⟨by rw [hM], hS5.below⟩

/- F75 (loop.example/g00974/impl.Kernel).live$1 -/
def impl_Kernel_live_1 (p0 : Tx) (q0 : Int) : Bool := (decide (p0.Id = q0)) && (decide (p0.State = 1))
theorem c_impl_Kernel_live_1 {c0 : List Value} (p0 : Tx) (q0 : Int) {qb0 : Nat} {w : World} (hp0 : Dat.rd (Old w) w c0 p0) (hq0 : CellsAt w ⟨qb0, 0, none⟩ [.int .i64 q0]) (hqb0 : qb0 < w.heap.size) :
    Calls Try.prog 75 [.agg c0.toArray, .pointer (some ((⟨qb0, 0, none⟩ : Addr).add 0))].toArray w (fun e w' => e = .returned (.bool (impl_Kernel_live_1 p0 q0)) ∧ Below w.heap.size w w') := by
  obtain ⟨v90000_4, v90000_5, v90000_6, v90000_7, v90000_8, rfl, hg90000_0, hg90000_1, hg90000_2, hg90000_3, hv90000_4, hv90000_5, hv90000_6, hv90000_7, hv90000_8, hg90000_9, _⟩ := Tx_open hp0
  obtain ⟨A90000_4, cp90000_4, rfl, hx90000_4⟩ := hv90000_4.form
  obtain ⟨A90000_5, cp90000_5, rfl, hx90000_5⟩ := hv90000_5.form
  obtain ⟨A90000_6, cp90000_6, rfl, hx90000_6⟩ := hv90000_6.form
  obtain ⟨A90000_7, cp90000_7, rfl, hx90000_7⟩ := hv90000_7.form
  obtain ⟨A90000_8, cp90000_8, rfl, hx90000_8⟩ := hv90000_8.form
  refine enter Try.func75 rfl Try.ntmps75 (Nat.le_of_ble_eq_true rfl) ?_
  intro a0 hE0
  have hS0 := SH.start w
  have hM := impl_Kernel_live_1.eq_1 p0 q0
  refine wp_seq (wp_region_lit ?_)
  refine st_box hE0 hS0 rfl rfl rfl fun b1 w1 hS1 a2 hE2 => st_val hE2 (y_assign hE2 rfl) rfl fun a3 hE3 => wpList_nil ?_
  clear hE0 hE2
  clear a0 a2
  refine then_normal ?_
  refine wp_seq (wp_region_lit ?_)
  refine st_val hE3 (y_fieldAddr hE3 rfl fa119_0 rfl) rfl fun a4 hE4 => st_val hE4 (y_load_one hE4 rfl (hS1.cells (k := 0) rfl) rfl one3) rfl fun a5 hE5 => st_val hE5 (y_load_one hE5 rfl (hS1.upc hq0 hqb0) rfl one3) rfl fun a6 hE6 => st_val hE6 (y_eql hE6 rfl rfl) rfl fun a7 hE7 => st_val hE7 (y_move hE7 rfl) rfl fun a8 hE8 => ?_
  refine st_mid 4 (fun a w2 => ∃ r : Bool, r = ((decide (p0.Id = q0)) && (decide (p0.State = 1))) ∧ SH (Old w) w w2 [Ck.var b1 [.int .i64 p0.Id, .int .i64 p0.Age, .int .i64 p0.Proc, .int .i64 p0.Began, .slice A90000_4 p0.Calls.length cp90000_4, .slice A90000_5 p0.Answers.length cp90000_5, .slice A90000_6 p0.Touch.Reads.length cp90000_6, .slice A90000_7 p0.Touch.Writes.length cp90000_7, .slice A90000_8 p0.Marks.length cp90000_8, .int .i64 p0.State] 119] ∧ Env 13 ((12, .bool r) :: [(0, .agg [.int .i64 p0.Id, .int .i64 p0.Age, .int .i64 p0.Proc, .int .i64 p0.Began, .slice A90000_4 p0.Calls.length cp90000_4, .slice A90000_5 p0.Answers.length cp90000_5, .slice A90000_6 p0.Touch.Reads.length cp90000_6, .slice A90000_7 p0.Touch.Writes.length cp90000_7, .slice A90000_8 p0.Marks.length cp90000_8, .int .i64 p0.State].toArray), (1, .pointer (some ((⟨qb0, 0, none⟩ : Addr).add 0))), (2, .pointer (some ((⟨b1, 0, none⟩ : Addr).add 0))), (3, .bool false), (4, .pointer (some ((⟨b1, 0, none⟩ : Addr).add 0))), (5, .int .i64 p0.Id), (6, .int .i64 q0), (7, .bool (decide (p0.Id = q0))), (8, .bool (decide (p0.Id = q0)))]) a) ?_ ?_
  ·
    rcases Bool.eq_false_or_eq_true (decide (p0.Id = q0)) with hb10 | hb10
    ·
      have hb10f : p0.Id = q0 := by simpa using hb10
      refine st_run hE8 rfl rfl rfl hb10 <| st_val hE8 (y_fieldAddr hE8 rfl fa119_8 rfl) rfl fun a11 hE11 => st_run hE11 rfl rfl rfl hb10 <| st_val hE11 (y_load_one hE11 rfl (hS1.cells (k := 0) rfl) rfl one3) rfl fun a12 hE12 => st_run hE12 rfl rfl rfl hb10 <| st_val hE12 (y_eql hE12 rfl rfl) rfl fun a13 hE13 => st_val hE13 (y_pick_t hE13 rfl hb10 rfl) rfl fun a14 hE14 => wpList_nil ?_
      exact ⟨decide (p0.State = 1), by simp only [hb10, Bool.true_and, Bool.false_and, Bool.true_or, Bool.false_or, Bool.and_true, Bool.or_true, Bool.and_false, Bool.or_false], hS1, hE14.weaken ⟨rfl, rfl, rfl, rfl, rfl, rfl, rfl, rfl, rfl, rfl, trivial⟩⟩
    ·
      have hb10f : ¬ (p0.Id = q0) := by simpa using hb10
      refine st_skip hE8 rfl rfl rfl hb10 rfl fun a15 hE15 => st_skip hE15 rfl rfl rfl hb10 rfl fun a16 hE16 => st_skip hE16 rfl rfl rfl hb10 rfl fun a17 hE17 => st_val hE17 (y_pick_f hE17 rfl hb10 rfl) rfl fun a18 hE18 => wpList_nil ?_
      exact ⟨false, by simp only [hb10, Bool.true_and, Bool.false_and, Bool.true_or, Bool.false_or, Bool.and_true, Bool.or_true, Bool.and_false, Bool.or_false], hS1, hE18.weaken ⟨rfl, rfl, rfl, rfl, rfl, rfl, rfl, rfl, rfl, rfl, trivial⟩⟩
  rintro a19 w19 ⟨r19, hr19, hS19, hE19⟩
  subst hr19
  clear hE8 hE3 hE4 hE5 hE6 hE7
  refine st_val hE19 (y_assign hE19 rfl) rfl fun a20 hE20 => wpList_nil ?_
  clear hE19
  clear a19
  refine then_normal ?_
  refine wp_ret ?_
  exact fin1 hE20 rfl rfl ⟨by rw [hM], hS19.below⟩

/- F53 (loop.example/g00974/impl.Kernel).live -/
def impl_Kernel_live (p0 : Kernel) (p1 : Int) : Int := (slices_IndexFunc_Tx p0.Txs (fun x0 => impl_Kernel_live_1 x0 p1))
theorem c_impl_Kernel_live {c0 : List Value} (p0 : Kernel) (p1 : Int) {w : World} (hp0 : Dat.rd (Old w) w c0 p0) :
    Calls Try.prog 53 [.agg c0.toArray, .int .i64 p1].toArray w (fun e w' => e = .returned (.int .i64 (impl_Kernel_live p0 p1)) ∧ Below w.heap.size w w') := by
  obtain ⟨v90000_0, v90000_1, v90000_2, v90000_8, v90000_9, rfl, hv90000_0, hv90000_1, hv90000_2, hg90000_3, hg90000_4, hg90000_5, hg90000_6, hg90000_7, hv90000_8, hv90000_9, _⟩ := Kernel_open hp0
  obtain ⟨A90000_0, cp90000_0, rfl, hx90000_0⟩ := hv90000_0.form
  obtain ⟨A90000_1, cp90000_1, rfl, hx90000_1⟩ := hv90000_1.form
  obtain ⟨A90000_2, cp90000_2, rfl, hx90000_2⟩ := hv90000_2.form
  obtain ⟨A90000_8, cp90000_8, rfl, hx90000_8⟩ := hv90000_8.form
  obtain ⟨A90000_9, cp90000_9, rfl, hx90000_9⟩ := hv90000_9.form
  refine enter Try.func53 rfl Try.ntmps53 (Nat.le_of_ble_eq_true rfl) ?_
  intro a0 hE0
  have hS0 := SH.start w
  have hM := impl_Kernel_live.eq_1 p0 p1
  refine wp_seq (wp_region_lit ?_)
  refine st_box hE0 hS0 rfl rfl rfl fun b1 w1 hS1 a2 hE2 => st_box hE2 hS1 rfl rfl rfl fun b3 w3 hS3 a4 hE4 => st_val hE4 (y_assign hE4 rfl) rfl fun a5 hE5 => wpList_nil ?_
  clear hE0 hE2 hE4
  clear a0 a2 a4
  refine then_normal ?_
  refine wp_seq (wp_region_lit ?_)
  refine st_val hE5 (y_fieldAddr hE5 rfl fa60_1 rfl) rfl fun a6 hE6 => st_val hE6 (y_load_one hE6 rfl (hS3.cells (k := 1) rfl) rfl one54) rfl fun a7 hE7 => st_val hE7 (y_makeFunc (vs := [.pointer (some ((⟨b3, 0, none⟩ : Addr).add 0))]) hE7 rfl) rfl fun a8 hE8 => st_callF hE8 hS3 Try.func74 fb74 fn74 (c_slices_IndexFunc_Tx p0.Txs 75 [.pointer (some ((⟨b3, 0, none⟩ : Addr).add 0))] (fun x0 => impl_Kernel_live_1 x0 p1) (hS3.up hv90000_1) fok75 (fun x0 k0 w1 hb hr0 => c_impl_Kernel_live_1 x0 p1 hr0 ((hS3.cells (k := 0) rfl).below hb (hS3.varlt (k := 0) rfl)) (Nat.lt_of_lt_of_le (hS3.varlt (k := 0) rfl) hb.size))) rfl rfl fun w9 hS9 a10 hE10 => st_val hE10 (y_assign hE10 rfl) rfl fun a11 hE11 => wpList_nil ?_
  clear hE5 hE6 hE7 hE8 hE10
  clear a5 a6 a7 a8 a10
  refine then_normal ?_
  refine wp_ret ?_
  exact fin1 hE11 rfl rfl ⟨by rw [hM], hS9.below⟩

/- F32 loop.example/g00974/impl.StillLive -/
def impl_StillLive (p0 : Kernel) (p1 : Int) : Bool := decide ((impl_Kernel_live p0 p1) ≥ 0)
theorem c_impl_StillLive {c0 : List Value} (p0 : Kernel) (p1 : Int) {w : World} (hp0 : Dat.rd (Old w) w c0 p0) :
    Calls Try.prog 32 [.agg c0.toArray, .int .i64 p1].toArray w (fun e w' => e = .returned (.bool (impl_StillLive p0 p1)) ∧ Below w.heap.size w w') := by
  obtain ⟨v90000_0, v90000_1, v90000_2, v90000_8, v90000_9, rfl, hv90000_0, hv90000_1, hv90000_2, hg90000_3, hg90000_4, hg90000_5, hg90000_6, hg90000_7, hv90000_8, hv90000_9, _⟩ := Kernel_open hp0
  obtain ⟨A90000_0, cp90000_0, rfl, hx90000_0⟩ := hv90000_0.form
  obtain ⟨A90000_1, cp90000_1, rfl, hx90000_1⟩ := hv90000_1.form
  obtain ⟨A90000_2, cp90000_2, rfl, hx90000_2⟩ := hv90000_2.form
  obtain ⟨A90000_8, cp90000_8, rfl, hx90000_8⟩ := hv90000_8.form
  obtain ⟨A90000_9, cp90000_9, rfl, hx90000_9⟩ := hv90000_9.form
  refine enter Try.func32 rfl Try.ntmps32 (Nat.le_of_ble_eq_true rfl) ?_
  intro a0 hE0
  have hS0 := SH.start w
  have hM := impl_StillLive.eq_1 p0 p1
  refine wp_seq (wp_region_lit ?_)
  refine st_box hE0 hS0 rfl rfl rfl fun b1 w1 hS1 a2 hE2 => st_val hE2 (y_assign hE2 rfl) rfl fun a3 hE3 => wpList_nil ?_
  clear hE0 hE2
  clear a0 a2
  refine then_normal ?_
  refine wp_seq (wp_region_lit ?_)
  refine st_val hE3 (y_load_agg hE3 rfl (hS1.cells (k := 0) rfl) rfl rfl agg60) rfl fun a4 hE4 => st_val hE4 (y_move hE4 rfl) rfl fun a5 hE5 => st_callF hE5 hS1 Try.func53 fb53 fn53 (c_impl_Kernel_live p0 p1 (hS1.upd hp0)) rfl rfl fun w6 hS6 a7 hE7 => st_val hE7 (y_geq hE7 rfl rfl) rfl fun a8 hE8 => st_val hE8 (y_assign hE8 rfl) rfl fun a9 hE9 => wpList_nil ?_
  clear hE3 hE4 hE5 hE7 hE8
  clear a3 a4 a5 a7 a8
  refine then_normal ?_
  refine wp_ret ?_
  exact fin1 hE9 rfl rfl ⟨by rw [hM], hS6.below⟩

/- F48 loop.example/g00974/spec.l27Live -/
def spec_l27Live_l1 (p0 : Kernel) (p1 : Int) : Nat → Nat → Int
  | 0, i1 => (-1)
  | fu1 + 1, i1 => (if ((decide ((nth p0.Txs i1).Id = p1)) && (decide ((nth p0.Txs i1).State = 1))) = true then (i1 : Int) else spec_l27Live_l1 p0 p1 fu1 (i1 + 1) )
def spec_l27Live (p0 : Kernel) (p1 : Int) : Int := spec_l27Live_l1 p0 p1 (p0.Txs.length - 0) 0 
theorem c_spec_l27Live {c0 : List Value} (p0 : Kernel) (p1 : Int) {w : World} (hp0 : Dat.rd (Old w) w c0 p0) :
    Calls Try.prog 48 [.agg c0.toArray, .int .i64 p1].toArray w (fun e w' => e = .returned (.int .i64 (spec_l27Live p0 p1)) ∧ Below w.heap.size w w') := by
  obtain ⟨v90000_0, v90000_1, v90000_2, v90000_8, v90000_9, rfl, hv90000_0, hv90000_1, hv90000_2, hg90000_3, hg90000_4, hg90000_5, hg90000_6, hg90000_7, hv90000_8, hv90000_9, _⟩ := Kernel_open hp0
  obtain ⟨A90000_0, cp90000_0, rfl, hx90000_0⟩ := hv90000_0.form
  obtain ⟨A90000_1, cp90000_1, rfl, hx90000_1⟩ := hv90000_1.form
  obtain ⟨A90000_2, cp90000_2, rfl, hx90000_2⟩ := hv90000_2.form
  obtain ⟨A90000_8, cp90000_8, rfl, hx90000_8⟩ := hv90000_8.form
  obtain ⟨A90000_9, cp90000_9, rfl, hx90000_9⟩ := hv90000_9.form
  refine enter Try.func48 rfl Try.ntmps48 (Nat.le_of_ble_eq_true rfl) ?_
  intro a0 hE0
  have hS0 := SH.start w
  have hM := spec_l27Live.eq_1 p0 p1
  refine wp_seq (wp_region_lit ?_)
  refine st_box hE0 hS0 rfl rfl rfl fun b1 w1 hS1 a2 hE2 => st_val hE2 (y_assign hE2 rfl) rfl fun a3 hE3 => wpList_nil ?_
  clear hE0 hE2
  clear a0 a2
  refine then_normal ?_
  refine wp_seq (wp_seq (wp_region_lit ?_))
  refine st_val hE3 (y_assign hE3 rfl) rfl fun a4 hE4 => wpList_nil ?_
  clear hE3
  clear a3
  refine then_normal ?_
  refine wp_block (wp_loop_ghost (fun fu1 a w2 => ∃ (i1 : Nat), 0 ≤ i1 ∧ fu1 = p0.Txs.length - i1 ∧ spec_l27Live p0 p1 = spec_l27Live_l1 p0 p1 fu1 i1  ∧ Env 31 [(1, .int .i64 p1), (2, .pointer (some ((⟨b1, 0, none⟩ : Addr).add 0))), (5, .int .i64 (i1 : Int))] a ∧ SH (Old w) w w2 [Ck.var b1 [.slice A90000_0 p0.Store.length cp90000_0, .slice A90000_1 p0.Txs.length cp90000_1, .slice A90000_2 p0.Disk.Slots.length cp90000_2, .string p0.Disk.Journal.Text, .int .i64 p0.Disk.Journal.Sure, .int .i64 p0.Seq, .int .i64 p0.Next, .int .i64 p0.Time, .slice A90000_8 p0.History.length cp90000_8, .slice A90000_9 p0.Seen.length cp90000_9, .bool p0.Room] 60]) (p0.Txs.length - 0) ⟨0, Nat.le_refl _, rfl, hM, hE4.weaken ⟨rfl, rfl, rfl, trivial⟩, hS1⟩ ?_)
  clear hM hE4 hS1
  rintro fu1 a5 w5 ⟨i1, hi1, hfu1, hM, hE5, hS5⟩
  refine wp_seq (wp_seq (wp_region_lit ?_))
  refine st_val hE5 (y_move hE5 rfl) rfl fun a6 hE6 => st_val hE6 (y_fieldAddr hE6 rfl fa60_1 rfl) rfl fun a7 hE7 => st_val hE7 (y_load_one hE7 rfl (hS5.cells (k := 0) rfl) rfl one54) rfl fun a8 hE8 => st_val hE8 (y_len_slice hE8 rfl sl54) rfl fun a9 hE9 => st_val hE9 (y_lss hE9 rfl rfl) rfl fun a10 hE10 => wpList_nil ?_
  clear hE5 hE6 hE7 hE8 hE9
  clear a5 a6 a7 a8 a9
  refine then_normal ?_
  refine cond_split hE10 rfl (fun hb11 => ?_) (fun hb11 => ?_)
  ·
    have hlt1 : i1 < p0.Txs.length := by have := of_decide_eq_true hb11; omega
    obtain ⟨fu1, rfl⟩ : ∃ m, fu1 = m + 1 := ⟨fu1 - 1, by omega⟩
    have hM := hM.trans (spec_l27Live_l1.eq_2 _ _ _ _)
    refine wp_skip ?_
    refine then_normal ?_
    refine wp_seq (wp_block (wp_seq (wp_region_lit ?_)))
    refine st_val hE10 (y_fieldAddr hE10 rfl fa60_1 rfl) rfl fun a12 hE12 => st_val hE12 (y_load_one hE12 rfl (hS5.cells (k := 0) rfl) rfl one54) rfl fun a13 hE13 => st_val hE13 (y_move hE13 rfl) rfl fun a14 hE14 => st_index hE14 hv90000_1 rfl rfl rfl (by omega) sl54 rfl fun ad15 cs15 hr15 hc15 hl15 a16 hE16 => ?_
    obtain ⟨v15_4, v15_5, v15_6, v15_7, v15_8, rfl, hg15_0, hg15_1, hg15_2, hg15_3, hv15_4, hv15_5, hv15_6, hv15_7, hv15_8, hg15_9, _⟩ := Tx_open hr15
    obtain ⟨A15_4, cp15_4, rfl, hx15_4⟩ := hv15_4.form
    obtain ⟨A15_5, cp15_5, rfl, hx15_5⟩ := hv15_5.form
    obtain ⟨A15_6, cp15_6, rfl, hx15_6⟩ := hv15_6.form
    obtain ⟨A15_7, cp15_7, rfl, hx15_7⟩ := hv15_7.form
    obtain ⟨A15_8, cp15_8, rfl, hx15_8⟩ := hv15_8.form
    refine st_val hE16 (y_fieldAddr hE16 rfl fa119_0 rfl) rfl fun a17 hE17 => st_val hE17 (y_load_one hE17 rfl (hS5.upc hc15 hl15) rfl one3) rfl fun a18 hE18 => st_val hE18 (y_move hE18 rfl) rfl fun a19 hE19 => st_val hE19 (y_eql hE19 rfl rfl) rfl fun a20 hE20 => st_val hE20 (y_move hE20 rfl) rfl fun a21 hE21 => ?_
    refine st_mid 8 (fun a w2 => ∃ r : Bool, r = ((decide ((nth p0.Txs i1).Id = p1)) && (decide ((nth p0.Txs i1).State = 1))) ∧ SH (Old w) w w2 [Ck.var b1 [.slice A90000_0 p0.Store.length cp90000_0, .slice A90000_1 p0.Txs.length cp90000_1, .slice A90000_2 p0.Disk.Slots.length cp90000_2, .string p0.Disk.Journal.Text, .int .i64 p0.Disk.Journal.Sure, .int .i64 p0.Seq, .int .i64 p0.Next, .int .i64 p0.Time, .slice A90000_8 p0.History.length cp90000_8, .slice A90000_9 p0.Seen.length cp90000_9, .bool p0.Room] 60] ∧ Env 31 ((29, .bool r) :: [(1, .int .i64 p1), (2, .pointer (some ((⟨b1, 0, none⟩ : Addr).add 0))), (5, .int .i64 (i1 : Int)), (6, .int .i64 (i1 : Int)), (7, .pointer (some ((⟨b1, 0, none⟩ : Addr).add 1))), (8, .slice A90000_1 p0.Txs.length cp90000_1), (9, .int .i64 (p0.Txs.length : Int)), (10, .bool (decide ((i1 : Int) < (p0.Txs.length : Int)))), (13, .pointer (some ((⟨b1, 0, none⟩ : Addr).add 1))), (14, .slice A90000_1 p0.Txs.length cp90000_1), (15, .int .i64 (i1 : Int)), (16, .pointer (some (ad15.add 0))), (17, .pointer (some (ad15.add 0))), (18, .int .i64 ((nth p0.Txs i1).Id)), (19, .int .i64 p1), (20, .bool (decide ((nth p0.Txs i1).Id = p1))), (21, .bool (decide ((nth p0.Txs i1).Id = p1)))]) a) ?_ ?_
    ·
      rcases Bool.eq_false_or_eq_true (decide ((nth p0.Txs i1).Id = p1)) with hb23 | hb23
      ·
        have hb23f : (nth p0.Txs i1).Id = p1 := by simpa using hb23
        refine st_run hE21 rfl rfl rfl hb23 <| st_val hE21 (y_fieldAddr hE21 rfl fa60_1 rfl) rfl fun a24 hE24 => st_run hE24 rfl rfl rfl hb23 <| st_val hE24 (y_load_one hE24 rfl (hS5.cells (k := 0) rfl) rfl one54) rfl fun a25 hE25 => st_run hE25 rfl rfl rfl hb23 <| st_val hE25 (y_move hE25 rfl) rfl fun a26 hE26 => st_run hE26 rfl rfl rfl hb23 <| st_index hE26 hv90000_1 rfl rfl rfl (by omega) sl54 rfl fun ad27 cs27 hr27 hc27 hl27 a28 hE28 => ?_
        obtain ⟨v27_4, v27_5, v27_6, v27_7, v27_8, rfl, hg27_0, hg27_1, hg27_2, hg27_3, hv27_4, hv27_5, hv27_6, hv27_7, hv27_8, hg27_9, _⟩ := Tx_open hr27
        obtain ⟨A27_4, cp27_4, rfl, hx27_4⟩ := hv27_4.form
        obtain ⟨A27_5, cp27_5, rfl, hx27_5⟩ := hv27_5.form
        obtain ⟨A27_6, cp27_6, rfl, hx27_6⟩ := hv27_6.form
        obtain ⟨A27_7, cp27_7, rfl, hx27_7⟩ := hv27_7.form
        obtain ⟨A27_8, cp27_8, rfl, hx27_8⟩ := hv27_8.form
        refine st_run hE28 rfl rfl rfl hb23 <| st_val hE28 (y_fieldAddr hE28 rfl fa119_8 rfl) rfl fun a29 hE29 => st_run hE29 rfl rfl rfl hb23 <| st_val hE29 (y_load_one hE29 rfl (hS5.upc hc27 hl27) rfl one3) rfl fun a30 hE30 => st_run hE30 rfl rfl rfl hb23 <| st_val hE30 (y_eql hE30 rfl rfl) rfl fun a31 hE31 => st_val hE31 (y_pick_t hE31 rfl hb23 rfl) rfl fun a32 hE32 => wpList_nil ?_
        exact ⟨decide ((nth p0.Txs i1).State = 1), by simp only [hb23, Bool.true_and, Bool.false_and, Bool.true_or, Bool.false_or, Bool.and_true, Bool.or_true, Bool.and_false, Bool.or_false], hS5, hE32.weaken ⟨rfl, rfl, rfl, rfl, rfl, rfl, rfl, rfl, rfl, rfl, rfl, rfl, rfl, rfl, rfl, rfl, rfl, rfl, trivial⟩⟩
      ·
        have hb23f : ¬ ((nth p0.Txs i1).Id = p1) := by simpa using hb23
        refine st_skip hE21 rfl rfl rfl hb23 rfl fun a33 hE33 => st_skip hE33 rfl rfl rfl hb23 rfl fun a34 hE34 => st_skip hE34 rfl rfl rfl hb23 rfl fun a35 hE35 => st_skip hE35 rfl rfl rfl hb23 rfl fun a36 hE36 => st_skip hE36 rfl rfl rfl hb23 rfl fun a37 hE37 => st_skip hE37 rfl rfl rfl hb23 rfl fun a38 hE38 => st_skip hE38 rfl rfl rfl hb23 rfl fun a39 hE39 => st_val hE39 (y_pick_f hE39 rfl hb23 rfl) rfl fun a40 hE40 => wpList_nil ?_
        exact ⟨false, by simp only [hb23, Bool.true_and, Bool.false_and, Bool.true_or, Bool.false_or, Bool.and_true, Bool.or_true, Bool.and_false, Bool.or_false], hS5, hE40.weaken ⟨rfl, rfl, rfl, rfl, rfl, rfl, rfl, rfl, rfl, rfl, rfl, rfl, rfl, rfl, rfl, rfl, rfl, rfl, trivial⟩⟩
    rintro a41 w41 ⟨r41, hr41, hS41, hE41⟩
    subst hr41
    clear hE21 hE10 hE12 hE13 hE14 hE16 hE17 hE18 hE19 hE20
    refine wpList_nil ?_
    refine then_normal ?_
    refine cond_split hE41 rfl (fun hb42 => ?_) (fun hb42 => ?_)
    ·
      have hM := hM.trans (if_t hb42)
      refine wp_seq (wp_region_lit ?_)
      refine st_val hE41 (y_move hE41 rfl) rfl fun a43 hE43 => st_val hE43 (y_assign hE43 rfl) rfl fun a44 hE44 => wpList_nil ?_
      clear hE41 hE43
      clear a41 a43
      refine then_normal ?_
      refine wp_ret ?_
      refine blk_ret ?_
      refine then_ret ?_
      refine then_ret ?_
      refine blk_ret ?_
      refine then_ret ?_
      exact fin1 hE44 rfl rfl ⟨by rw [hM], hS41.below⟩
    ·
      have hM := hM.trans (if_f hb42)
      refine wp_skip ?_
      refine blk_normal ?_
      refine then_normal ?_
      refine wp_region_lit ?_
      refine st_val hE41 (y_move hE41 rfl) rfl fun a45 hE45 => st_val hE45 (y_add_in hE45 rfl rfl (m := ((i1 + 1 : Nat) : Int)) (by omega) (by omega) (by omega)) rfl fun a46 hE46 => st_val hE46 (y_assign hE46 rfl) rfl fun a47 hE47 => wpList_nil ?_
      clear hE41 hE45 hE46
      clear a41 a45 a46
      refine then_normal ⟨fu1, Nat.lt_succ_self _, (i1 + 1), by omega, by omega, hM, hE47.weaken ⟨rfl, rfl, rfl, trivial⟩, hS41⟩
  ·
    have hge1 : ¬ i1 < p0.Txs.length := by have := of_decide_eq_false hb11; omega
    obtain rfl : fu1 = 0 := by omega
    have hM := hM.trans (spec_l27Live_l1.eq_1 _ _ _)
    refine wp_exit ?_
    refine then_exit ?_
    refine then_exit ?_
    refine blk_exit ?_
    refine then_normal ?_
    refine wp_seq (wp_region_lit ?_)
    refine st_val hE10 (y_assign hE10 rfl) rfl fun a48 hE48 => wpList_nil ?_
    clear hE10
    clear a10
    refine then_normal ?_
    refine wp_ret ?_
    exact fin1 hE48 rfl rfl ⟨by rw [hM], hS5.below⟩

/- F30 loop.example/g00974/spec.StillLive -/
def spec_StillLive (p0 : Kernel) (p1 : Int) : Bool := decide ((spec_l27Live p0 p1) ≥ 0)
theorem c_spec_StillLive {c0 : List Value} (p0 : Kernel) (p1 : Int) {w : World} (hp0 : Dat.rd (Old w) w c0 p0) :
    Calls Try.prog 30 [.agg c0.toArray, .int .i64 p1].toArray w (fun e w' => e = .returned (.bool (spec_StillLive p0 p1)) ∧ Below w.heap.size w w') := by
  obtain ⟨v90000_0, v90000_1, v90000_2, v90000_8, v90000_9, rfl, hv90000_0, hv90000_1, hv90000_2, hg90000_3, hg90000_4, hg90000_5, hg90000_6, hg90000_7, hv90000_8, hv90000_9, _⟩ := Kernel_open hp0
  obtain ⟨A90000_0, cp90000_0, rfl, hx90000_0⟩ := hv90000_0.form
  obtain ⟨A90000_1, cp90000_1, rfl, hx90000_1⟩ := hv90000_1.form
  obtain ⟨A90000_2, cp90000_2, rfl, hx90000_2⟩ := hv90000_2.form
  obtain ⟨A90000_8, cp90000_8, rfl, hx90000_8⟩ := hv90000_8.form
  obtain ⟨A90000_9, cp90000_9, rfl, hx90000_9⟩ := hv90000_9.form
  refine enter Try.func30 rfl Try.ntmps30 (Nat.le_of_ble_eq_true rfl) ?_
  intro a0 hE0
  have hS0 := SH.start w
  have hM := spec_StillLive.eq_1 p0 p1
  refine wp_seq (wp_region_lit ?_)
  refine st_box hE0 hS0 rfl rfl rfl fun b1 w1 hS1 a2 hE2 => st_val hE2 (y_assign hE2 rfl) rfl fun a3 hE3 => wpList_nil ?_
  clear hE0 hE2
  clear a0 a2
  refine then_normal ?_
  refine wp_seq (wp_region_lit ?_)
  refine st_val hE3 (y_load_agg hE3 rfl (hS1.cells (k := 0) rfl) rfl rfl agg60) rfl fun a4 hE4 => st_val hE4 (y_move hE4 rfl) rfl fun a5 hE5 => st_callF hE5 hS1 Try.func48 fb48 fn48 (c_spec_l27Live p0 p1 (hS1.upd hp0)) rfl rfl fun w6 hS6 a7 hE7 => st_val hE7 (y_geq hE7 rfl rfl) rfl fun a8 hE8 => st_val hE8 (y_assign hE8 rfl) rfl fun a9 hE9 => wpList_nil ?_
  clear hE3 hE4 hE5 hE7 hE8
  clear a3 a4 a5 a7 a8
  refine then_normal ?_
  refine wp_ret ?_
  exact fin1 hE9 rfl rfl ⟨by rw [hM], hS6.below⟩

end Go.Proofs.Ytpfnofdaaekglaa.Fw
