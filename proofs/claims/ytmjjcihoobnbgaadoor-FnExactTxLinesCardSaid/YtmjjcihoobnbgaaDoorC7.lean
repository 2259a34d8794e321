/- Contracts: each call returns what the model says. By program (wip/gen). -/
import Derived.Test.YtmjjcihoobnbgaaDoorPU
namespace Go.Proofs.YtmjjcihoobnbgaaDoor.Fw
open Go.RowKit
set_option linter.unusedVariables false
set_option linter.unusedSimpArgs false

theorem agg90 : chkAgg Tryd.prog 90 10 = true := by kernel_rfl
theorem fb64 : Tryd.f64.body.isNone = false := rfl
theorem fb66 : Tryd.f66.body.isNone = false := rfl
theorem fn64 : (Tryd.f64.name == "runtime.NumGoroutine") = false := by kernel_rfl
theorem fn66 : (Tryd.f66.name == "runtime.NumGoroutine") = false := by kernel_rfl
theorem sl43 : chkSlice Tryd.prog 43 9 1 16 = true := by kernel_rfl
theorem sl45 : chkSlice Tryd.prog 45 90 10 160 = true := by kernel_rfl

/- F25 loop.example/g00974/impl.TxLines -/
def impl_TxLines_l1 (p0 : List Tx) : Nat → Nat → List ByteArray → List ByteArray
  | 0, i1, y1_3 => y1_3
  | fu1 + 1, i1, y1_3 => impl_TxLines_l1 p0 fu1 (i1 + 1) (y1_3 ++ [(impl_TxLine (nth p0 i1))])
def impl_TxLines (p0 : List Tx) : List ByteArray := impl_TxLines_l1 p0 (p0.length - 0) 0 ([] : List ByteArray)
theorem c_impl_TxLines {v0 : Value} (p0 : List Tx) {w : World} (hp0 : SlR (Old w) w v0 p0) (hG7 : GV 7 (gl7.map (Value.int .u64)) w) (hsm0 : Dat.small 1048576 p0) :
    Calls Tryd.prog 25 [v0].toArray w (fun e w' => ∃ v F, e = .returned v ∧ Below w.heap.size w w' ∧ SlO w' v (impl_TxLines p0) F ∧ F.Nodup ∧ ∀ b ∈ F, w.heap.size ≤ b) := by
  have hln0 : p0.length ≤ 1048576 := hsm0.1
  obtain ⟨A0, cap0, rfl, hx0⟩ := hp0.form
  refine enter Tryd.func25 rfl Tryd.ntmps25 (Nat.le_of_ble_eq_true rfl) ?_
  intro a0 hE0
  have hS0 := SH.start w
  have hM := impl_TxLines.eq_1 p0
  refine wp_seq (wp_region_lit ?_)
  refine st_val hE0 (y_assign hE0 rfl) rfl fun a1 hE1 => wpList_nil ?_
  clear hE0
  clear a0
  refine then_normal ?_
  refine wp_seq (wp_region_lit ?_)
  refine st_val hE1 (y_assign hE1 rfl) rfl fun a2 hE2 => wpList_nil ?_
  clear hE1
  clear a1
  refine then_normal ?_
  refine wp_seq (wp_seq (wp_region_lit ?_))
  refine st_val hE2 (y_move hE2 rfl) rfl fun a3 hE3 => st_val hE3 (y_len_slice hE3 rfl sl45) rfl fun a4 hE4 => st_val hE4 (y_move hE4 rfl) rfl fun a5 hE5 => wpList_nil ?_
  clear hE2 hE3 hE4
  clear a2 a3 a4
  refine then_normal ?_
  have hS6 := hS0.flat (α := List ByteArray) (cs := [.slice none 0 0]) (x := []) (fun _ => ⟨_, rfl, .inl ⟨rfl, rfl, rfl⟩⟩)
  refine wp_block (wp_loop_ghost (fun fu1 a w2 => ∃ (i1 : Nat) (y1_3 : List ByteArray) (Ay1_3 : Option Addr) (cpy1_3 : Nat) (Fy1_3 : List Nat), 0 ≤ i1 ∧ fu1 = p0.length - i1 ∧ (i1 ≤ p0.length ∨ i1 = 0) ∧ y1_3.length ≤ i1 ∧ impl_TxLines p0 = impl_TxLines_l1 p0 fu1 i1 y1_3 ∧ Env 19 [(3, .slice Ay1_3 y1_3.length cpy1_3), (6, .slice A0 p0.length cap0), (7, .int .i64 (p0.length : Int)), (8, .int .i64 (i1 : Int))] a ∧ SH (Old w) w w2 [Ck.own (α := List ByteArray) [.slice Ay1_3 y1_3.length cpy1_3] y1_3 Fy1_3]) (p0.length - 0) ⟨0, ([] : List ByteArray), none, 0, [], Nat.le_refl _, rfl, .inr rfl, (by first | omega | (simp only [List.length_nil, List.length_append, List.length_cons]; omega)), hM, hE5.weaken ⟨rfl, rfl, rfl, rfl, trivial⟩, hS6⟩ ?_)
  clear hM hE5 hS6
  rintro fu1 a7 w7 ⟨i1, y1_3, Ay1_3, cpy1_3, Fy1_3, hi1, hfu1, hup1, hry1_3, hM, hE7, hS7⟩
  refine wp_seq (wp_region_lit ?_)
  refine st_val hE7 (y_lss hE7 rfl rfl) rfl fun a8 hE8 => wpList_nil ?_
  clear hE7
  clear a7
  refine then_normal ?_
  refine wp_seq (cond_split hE8 rfl (fun hb9 => ?_) (fun hb9 => ?_))
  ·
    have hlt1 : i1 < p0.length := by have := of_decide_eq_true hb9; omega
    obtain ⟨fu1, rfl⟩ : ∃ m, fu1 = m + 1 := ⟨fu1 - 1, by omega⟩
    have hM := hM.trans (impl_TxLines_l1.eq_2 _ _ _ _)
    refine wp_skip ?_
    refine then_normal ?_
    refine wp_seq (wp_block (wp_seq (wp_region_lit ?_)))
    refine st_index hE8 hp0 rfl rfl rfl (by omega) sl45 rfl fun ad10 cs10 hr10 hc10 hl10 a11 hE11 => ?_
    obtain ⟨v10_4, v10_5, v10_6, v10_7, v10_8, rfl, hg10_0, hg10_1, hg10_2, hg10_3, hv10_4, hv10_5, hv10_6, hv10_7, hv10_8, hg10_9, _⟩ := Tx_open hr10
    obtain ⟨A10_4, cp10_4, rfl, hx10_4⟩ := hv10_4.form
    obtain ⟨A10_5, cp10_5, rfl, hx10_5⟩ := hv10_5.form
    obtain ⟨A10_6, cp10_6, rfl, hx10_6⟩ := hv10_6.form
    obtain ⟨A10_7, cp10_7, rfl, hx10_7⟩ := hv10_7.form
    obtain ⟨A10_8, cp10_8, rfl, hx10_8⟩ := hv10_8.form
    refine st_val hE11 (y_load_agg hE11 rfl (hS7.upc hc10 hl10) rfl rfl agg90) rfl fun a12 hE12 => st_alloc hE12 hS7 Tryd.zeroValue90 rfl rfl fun b13 w13 hS13 a14 hE14 => st_store hE14 hS13 [.int .i64 ((nth p0 i1).Id), .int .i64 ((nth p0 i1).Age), .int .i64 ((nth p0 i1).Proc), .int .i64 ((nth p0 i1).Began), .slice A10_4 ((nth p0 i1).Calls.length) cp10_4, .slice A10_5 ((nth p0 i1).Answers.length) cp10_5, .slice A10_6 ((nth p0 i1).Touch.Reads.length) cp10_6, .slice A10_7 ((nth p0 i1).Touch.Writes.length) cp10_7, .slice A10_8 ((nth p0 i1).Marks.length) cp10_8, .int .i64 ((nth p0 i1).State)] rfl rfl (k := 0) rfl rfl (chkAgg_size agg90) rfl rfl rfl rfl fun w15 (hS15 : SH (Old w) w w15 [Ck.var b13 [.int .i64 ((nth p0 i1).Id), .int .i64 ((nth p0 i1).Age), .int .i64 ((nth p0 i1).Proc), .int .i64 ((nth p0 i1).Began), .slice A10_4 ((nth p0 i1).Calls.length) cp10_4, .slice A10_5 ((nth p0 i1).Answers.length) cp10_5, .slice A10_6 ((nth p0 i1).Touch.Reads.length) cp10_6, .slice A10_7 ((nth p0 i1).Touch.Writes.length) cp10_7, .slice A10_8 ((nth p0 i1).Marks.length) cp10_8, .int .i64 ((nth p0 i1).State)] 90, Ck.own (α := List ByteArray) [.slice Ay1_3 y1_3.length cpy1_3] y1_3 Fy1_3]) a16 hE16 => wpList_nil ?_
    clear hE8 hE11 hE12 hE14
    clear a8 a11 a12 a14
    refine then_normal ?_
    refine wp_region_lit ?_
    refine st_val hE16 (y_move hE16 rfl) rfl fun a17 hE17 => st_val hE17 (y_load_agg hE17 rfl (hS15.cells (k := 0) rfl) rfl rfl agg90) rfl fun a18 hE18 => st_callF hE18 hS15 Tryd.func66 fb66 fn66 (c_impl_TxLine (nth p0 i1) (hS15.upd hr10) (GV.sh hS15 hG7)) rfl rfl fun w19 hS19 a20 hE20 => st_lit (is := [0]) (vs := [.string (impl_TxLine (nth p0 i1))]) (cs := [.string (impl_TxLine (nth p0 i1))]) (e := 9) hE20 hS19 rfl rfl (by kernel_rfl) rfl fun b21 w21 hS21 a22 hE22 => ?_
    have hap23 : y1_3.length + 1 ≤ 1099511627776 := (by first | omega | (simp only [List.length_append, List.length_cons, List.length_nil]; omega))
    refine st_append (α := ByteArray) (ys := [(impl_TxLine (nth p0 i1))]) (k := 2) hE22 hS21 sl43 Tryd.zeroValue9 rfl rfl rfl rfl (hS21.src (k := 0) rfl 1 1) rfl (oneCell_of_cells.2 rfl) (fun i u h => match i, u, h with | 0, _, h => (by cases h; exact ⟨⟨rfl, (max_of (impl_TxLine_size (by assumption)) rfl)⟩, rfl⟩) | j + 1, _, h => (by simp at h)) (by simp only [List.length_cons, List.length_nil]; omega) (by simp only [List.length_cons, List.length_nil]; omega) rfl fun A23 cp23 F23 w23 (hS23 : SH (Old w) w w23 [Ck.var b21 [.string (impl_TxLine (nth p0 i1))] 9, Ck.var b13 [.int .i64 ((nth p0 i1).Id), .int .i64 ((nth p0 i1).Age), .int .i64 ((nth p0 i1).Proc), .int .i64 ((nth p0 i1).Began), .slice A10_4 ((nth p0 i1).Calls.length) cp10_4, .slice A10_5 ((nth p0 i1).Answers.length) cp10_5, .slice A10_6 ((nth p0 i1).Touch.Reads.length) cp10_6, .slice A10_7 ((nth p0 i1).Touch.Writes.length) cp10_7, .slice A10_8 ((nth p0 i1).Marks.length) cp10_8, .int .i64 ((nth p0 i1).State)] 90, Ck.own (α := List ByteArray) [.slice A23 ((y1_3 ++ [(impl_TxLine (nth p0 i1))]).length) cp23] (y1_3 ++ [(impl_TxLine (nth p0 i1))]) F23]) a24 hE24 => st_val hE24 (y_assign hE24 rfl) rfl fun a25 hE25 => wpList_nil ?_
    clear hE16 hE17 hE18 hE20 hE22 hE24
    clear a16 a17 a18 a20 a22 a24
    refine blk_normal ?_
    refine then_normal ?_
    refine wp_region_lit ?_
    refine st_val hE25 (y_add_in hE25 rfl rfl (m := ((i1 + 1 : Nat) : Int)) (by omega) (by omega) (by omega)) rfl fun a26 hE26 => st_val hE26 (y_move hE26 rfl) rfl fun a27 hE27 => wpList_nil ?_
    clear hE25 hE26
    clear a25 a26
    refine then_normal ⟨fu1, Nat.lt_succ_self _, (i1 + 1), (y1_3 ++ [(impl_TxLine (nth p0 i1))]), A23, cp23, F23, by omega, by omega, .inl (by omega), (by first | omega | (simp only [List.length_append, List.length_cons, List.length_nil]; omega)), hM, hE27.weaken ⟨rfl, rfl, rfl, rfl, trivial⟩, (hS23.drop (k := 2))⟩
  ·
    have hge1 : ¬ i1 < p0.length := by have := of_decide_eq_false hb9; omega
    obtain rfl : fu1 = 0 := by omega
    have hM := hM.trans (impl_TxLines_l1.eq_1 _ _ _)
    refine wp_exit ?_
    refine then_exit ?_
    refine then_exit ?_
    refine blk_exit ?_
    refine then_normal ?_
    refine wp_seq (wp_region_lit ?_)
    refine st_val hE8 (y_move hE8 rfl) rfl fun a28 hE28 => st_val hE28 (y_assign hE28 rfl) rfl fun a29 hE29 => wpList_nil ?_
    clear hE8 hE28
    clear a8 a28
    refine then_normal ?_
    refine wp_ret ?_
    refine fin1 hE29 rfl rfl ?_
    rw [hM]
    exact ⟨_, _, rfl, hS7.below, hS7.slO (k := 0) rfl, hS7.nd (k := 0) rfl, hS7.ge' (k := 0) rfl⟩

/- F23 loop.example/g00974/spec.TxLines -/
def spec_TxLines_l1 (p0 : List Tx) : Nat → Nat → List ByteArray → List ByteArray
  | 0, i1, y1_3 => y1_3
  | fu1 + 1, i1, y1_3 => spec_TxLines_l1 p0 fu1 (i1 + 1) (y1_3 ++ [(spec_TxLine (nth p0 i1))])
def spec_TxLines (p0 : List Tx) : List ByteArray := spec_TxLines_l1 p0 (p0.length - 0) 0 ([] : List ByteArray)
theorem c_spec_TxLines {v0 : Value} (p0 : List Tx) {w : World} (hp0 : SlR (Old w) w v0 p0) (hsm0 : Dat.small 1048576 p0) :
    Calls Tryd.prog 23 [v0].toArray w (fun e w' => ∃ v F, e = .returned v ∧ Below w.heap.size w w' ∧ SlO w' v (spec_TxLines p0) F ∧ F.Nodup ∧ ∀ b ∈ F, w.heap.size ≤ b) := by
  have hln0 : p0.length ≤ 1048576 := hsm0.1
  obtain ⟨A0, cap0, rfl, hx0⟩ := hp0.form
  refine enter Tryd.func23 rfl Tryd.ntmps23 (Nat.le_of_ble_eq_true rfl) ?_
  intro a0 hE0
  have hS0 := SH.start w
  have hM := spec_TxLines.eq_1 p0
  refine wp_seq (wp_region_lit ?_)
  refine st_val hE0 (y_assign hE0 rfl) rfl fun a1 hE1 => wpList_nil ?_
  clear hE0
  clear a0
  refine then_normal ?_
  refine wp_seq (wp_region_lit ?_)
  refine st_buildSlice (α := ByteArray) (is := []) (vs := []) (cs := []) (ys := []) (e := 9) hE1 hS0 rfl rfl (by kernel_rfl) rfl rfl (by decide) (fun _ i y h => by simp at h) rfl fun b2 w2 hS2 a3 hE3 => st_val hE3 (y_assign hE3 rfl) rfl fun a4 hE4 => wpList_nil ?_
  clear hE1 hE3
  clear a1 a3
  refine then_normal ?_
  refine wp_seq (wp_seq (wp_region_lit ?_))
  refine st_val hE4 (y_assign hE4 rfl) rfl fun a5 hE5 => wpList_nil ?_
  clear hE4
  clear a4
  refine then_normal ?_
  refine wp_block (wp_loop_ghost (fun fu1 a w2 => ∃ (i1 : Nat) (y1_3 : List ByteArray) (Ay1_3 : Option Addr) (cpy1_3 : Nat) (Fy1_3 : List Nat), 0 ≤ i1 ∧ fu1 = p0.length - i1 ∧ (i1 ≤ p0.length ∨ i1 = 0) ∧ y1_3.length ≤ i1 ∧ spec_TxLines p0 = spec_TxLines_l1 p0 fu1 i1 y1_3 ∧ Env 21 [(0, .slice A0 p0.length cap0), (3, .slice Ay1_3 y1_3.length cpy1_3), (4, .int .i64 (i1 : Int))] a ∧ SH (Old w) w w2 [Ck.own (α := List ByteArray) [.slice Ay1_3 y1_3.length cpy1_3] y1_3 Fy1_3]) (p0.length - 0) ⟨0, ([] : List ByteArray), (some ⟨b2, 0, none⟩), 0, [b2], Nat.le_refl _, rfl, .inr rfl, (by first | omega | (simp only [List.length_nil, List.length_append, List.length_cons]; omega)), hM, hE5.weaken ⟨rfl, rfl, rfl, trivial⟩, hS2⟩ ?_)
  clear hM hE5 hS2
  rintro fu1 a6 w6 ⟨i1, y1_3, Ay1_3, cpy1_3, Fy1_3, hi1, hfu1, hup1, hry1_3, hM, hE6, hS6⟩
  refine wp_seq (wp_seq (wp_region_lit ?_))
  refine st_val hE6 (y_move hE6 rfl) rfl fun a7 hE7 => st_val hE7 (y_move hE7 rfl) rfl fun a8 hE8 => st_val hE8 (y_len_slice hE8 rfl sl45) rfl fun a9 hE9 => st_val hE9 (y_lss hE9 rfl rfl) rfl fun a10 hE10 => wpList_nil ?_
  clear hE6 hE7 hE8 hE9
  clear a6 a7 a8 a9
  refine then_normal ?_
  refine cond_split hE10 rfl (fun hb11 => ?_) (fun hb11 => ?_)
  ·
    have hlt1 : i1 < p0.length := by have := of_decide_eq_true hb11; omega
    obtain ⟨fu1, rfl⟩ : ∃ m, fu1 = m + 1 := ⟨fu1 - 1, by omega⟩
    have hM := hM.trans (spec_TxLines_l1.eq_2 _ _ _ _)
    refine wp_skip ?_
    refine then_normal ?_
    refine wp_seq (wp_block (wp_region_lit ?_))
    refine st_val hE10 (y_move hE10 rfl) rfl fun a12 hE12 => st_val hE12 (y_move hE12 rfl) rfl fun a13 hE13 => st_val hE13 (y_move hE13 rfl) rfl fun a14 hE14 => st_index hE14 hp0 rfl rfl rfl (by omega) sl45 rfl fun ad15 cs15 hr15 hc15 hl15 a16 hE16 => ?_
    obtain ⟨v15_4, v15_5, v15_6, v15_7, v15_8, rfl, hg15_0, hg15_1, hg15_2, hg15_3, hv15_4, hv15_5, hv15_6, hv15_7, hv15_8, hg15_9, _⟩ := Tx_open hr15
    obtain ⟨A15_4, cp15_4, rfl, hx15_4⟩ := hv15_4.form
    obtain ⟨A15_5, cp15_5, rfl, hx15_5⟩ := hv15_5.form
    obtain ⟨A15_6, cp15_6, rfl, hx15_6⟩ := hv15_6.form
    obtain ⟨A15_7, cp15_7, rfl, hx15_7⟩ := hv15_7.form
    obtain ⟨A15_8, cp15_8, rfl, hx15_8⟩ := hv15_8.form
    refine st_val hE16 (y_load_agg hE16 rfl (hS6.upc hc15 hl15) rfl rfl agg90) rfl fun a17 hE17 => st_callF hE17 hS6 Tryd.func64 fb64 fn64 (c_spec_TxLine (nth p0 i1) (hS6.upd hr15)) rfl rfl fun w18 hS18 a19 hE19 => st_lit (is := [0]) (vs := [.string (spec_TxLine (nth p0 i1))]) (cs := [.string (spec_TxLine (nth p0 i1))]) (e := 9) hE19 hS18 rfl rfl (by kernel_rfl) rfl fun b20 w20 hS20 a21 hE21 => ?_
    have hap22 : y1_3.length + 1 ≤ 1099511627776 := (by first | omega | (simp only [List.length_append, List.length_cons, List.length_nil]; omega))
    refine st_append (α := ByteArray) (ys := [(spec_TxLine (nth p0 i1))]) (k := 1) hE21 hS20 sl43 Tryd.zeroValue9 rfl rfl rfl rfl (hS20.src (k := 0) rfl 1 1) rfl (oneCell_of_cells.2 rfl) (fun i u h => match i, u, h with | 0, _, h => (by cases h; exact ⟨⟨rfl, (max_of (spec_TxLine_size (by assumption)) rfl)⟩, rfl⟩) | j + 1, _, h => (by simp at h)) (by simp only [List.length_cons, List.length_nil]; omega) (by simp only [List.length_cons, List.length_nil]; omega) rfl fun A22 cp22 F22 w22 (hS22 : SH (Old w) w w22 [Ck.var b20 [.string (spec_TxLine (nth p0 i1))] 9, Ck.own (α := List ByteArray) [.slice A22 ((y1_3 ++ [(spec_TxLine (nth p0 i1))]).length) cp22] (y1_3 ++ [(spec_TxLine (nth p0 i1))]) F22]) a23 hE23 => st_val hE23 (y_assign hE23 rfl) rfl fun a24 hE24 => wpList_nil ?_
    clear hE10 hE12 hE13 hE14 hE16 hE17 hE19 hE21 hE23
    clear a10 a12 a13 a14 a16 a17 a19 a21 a23
    refine blk_normal ?_
    refine then_normal ?_
    refine wp_region_lit ?_
    refine st_val hE24 (y_move hE24 rfl) rfl fun a25 hE25 => st_val hE25 (y_add_in hE25 rfl rfl (m := ((i1 + 1 : Nat) : Int)) (by omega) (by omega) (by omega)) rfl fun a26 hE26 => st_val hE26 (y_assign hE26 rfl) rfl fun a27 hE27 => wpList_nil ?_
    clear hE24 hE25 hE26
    clear a24 a25 a26
    refine then_normal ⟨fu1, Nat.lt_succ_self _, (i1 + 1), (y1_3 ++ [(spec_TxLine (nth p0 i1))]), A22, cp22, F22, by omega, by omega, .inl (by omega), (by first | omega | (simp only [List.length_append, List.length_cons, List.length_nil]; omega)), hM, hE27.weaken ⟨rfl, rfl, rfl, trivial⟩, (hS22.drop (k := 1))⟩
  ·
    have hge1 : ¬ i1 < p0.length := by have := of_decide_eq_false hb11; omega
    obtain rfl : fu1 = 0 := by omega
    have hM := hM.trans (spec_TxLines_l1.eq_1 _ _ _)
    refine wp_exit ?_
    refine then_exit ?_
    refine then_exit ?_
    refine blk_exit ?_
    refine then_normal ?_
    refine wp_seq (wp_region_lit ?_)
    refine st_val hE10 (y_move hE10 rfl) rfl fun a28 hE28 => st_val hE28 (y_assign hE28 rfl) rfl fun a29 hE29 => wpList_nil ?_
    clear hE10 hE28
    clear a10 a28
    refine then_normal ?_
    refine wp_ret ?_
    refine fin1 hE29 rfl rfl ?_
    rw [hM]
    exact ⟨_, _, rfl, hS6.below, hS6.slO (k := 0) rfl, hS6.nd (k := 0) rfl, hS6.ge' (k := 0) rfl⟩

end Go.Proofs.YtmjjcihoobnbgaaDoor.Fw
