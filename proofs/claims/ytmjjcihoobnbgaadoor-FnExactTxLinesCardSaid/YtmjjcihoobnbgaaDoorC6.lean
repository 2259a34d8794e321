/- Contracts: each call returns what the model says. By program (wip/gen). -/
import Derived.Test.YtmjjcihoobnbgaaDoorPD
namespace Go.Proofs.YtmjjcihoobnbgaaDoor.Fw
open Go.RowKit
set_option linter.unusedVariables false
set_option linter.unusedSimpArgs false

theorem arr115 : chkArr Tryd.prog 115 3 9 = true := by kernel_rfl
theorem fa90_0 : chkField Tryd.prog 90 0 0 = true := by kernel_rfl
theorem fa90_1 : chkField Tryd.prog 90 1 1 = true := by kernel_rfl
theorem fa90_2 : chkField Tryd.prog 90 2 2 = true := by kernel_rfl
theorem fa90_4 : chkField Tryd.prog 90 4 4 = true := by kernel_rfl
theorem fa90_8 : chkField Tryd.prog 90 8 9 = true := by kernel_rfl
theorem fb45 : Tryd.f45.body.isNone = false := rfl
theorem fb56 : Tryd.f56.body.isNone = false := rfl
theorem fb61 : Tryd.f61.body.isNone = false := rfl
theorem fb95 : Tryd.f95.body.isNone = false := rfl
theorem fn45 : (Tryd.f45.name == "runtime.NumGoroutine") = false := by kernel_rfl
theorem fn56 : (Tryd.f56.name == "runtime.NumGoroutine") = false := by kernel_rfl
theorem fn61 : (Tryd.f61.name == "runtime.NumGoroutine") = false := by kernel_rfl
theorem fn95 : (Tryd.f95.name == "runtime.NumGoroutine") = false := by kernel_rfl
theorem mixed : Tryd.prog.follows .mixedOrders = true := by kernel_rfl
theorem one3 : chkOne Tryd.prog 3 = true := by kernel_rfl
theorem one86 : chkOne Tryd.prog 86 = true := by kernel_rfl
theorem sl86 : chkSlice Tryd.prog 86 28 6 72 = true := by kernel_rfl

/- F66 loop.example/g00974/impl.TxLine -/
def impl_TxLine (p0 : Tx) : ByteArray := (if (impl_within p0.State 1 3) = true then (strings_Join ([(impl_Decimal p0.Id), (impl_Decimal p0.Age), (impl_Decimal p0.Proc), (nth ([(⟨#[108, 105, 118, 101]⟩ : ByteArray), (⟨#[119, 104, 111, 108, 101]⟩ : ByteArray), (⟨#[100, 114, 111, 112, 112, 101, 100]⟩ : ByteArray)]) ((p0.State - 1).toNat)), (impl_Decimal (p0.Calls.length : Int))]) (⟨#[32]⟩ : ByteArray)) else (strings_Join ([(impl_Decimal p0.Id), (impl_Decimal p0.Age), (impl_Decimal p0.Proc), (⟨#[63]⟩ : ByteArray), (impl_Decimal (p0.Calls.length : Int))]) (⟨#[32]⟩ : ByteArray)))
theorem c_impl_TxLine {c0 : List Value} (p0 : Tx) {w : World} (hp0 : Dat.rd (Old w) w c0 p0) (hG7 : GV 7 (gl7.map (Value.int .u64)) w) :
    Calls Tryd.prog 66 [.agg c0.toArray].toArray w (fun e w' => e = .returned (.string (impl_TxLine p0)) ∧ Below w.heap.size w w') := by
  obtain ⟨v90000_4, v90000_5, v90000_6, v90000_7, v90000_8, rfl, hg90000_0, hg90000_1, hg90000_2, hg90000_3, hv90000_4, hv90000_5, hv90000_6, hv90000_7, hv90000_8, hg90000_9, _⟩ := Tx_open hp0
  obtain ⟨A90000_4, cp90000_4, rfl, hx90000_4⟩ := hv90000_4.form
  obtain ⟨A90000_5, cp90000_5, rfl, hx90000_5⟩ := hv90000_5.form
  obtain ⟨A90000_6, cp90000_6, rfl, hx90000_6⟩ := hv90000_6.form
  obtain ⟨A90000_7, cp90000_7, rfl, hx90000_7⟩ := hv90000_7.form
  obtain ⟨A90000_8, cp90000_8, rfl, hx90000_8⟩ := hv90000_8.form
  refine enter Tryd.func66 rfl Tryd.ntmps66 (Nat.le_of_ble_eq_true rfl) ?_
  intro a0 hE0
  have hS0 := SH.start w
  have hM := impl_TxLine.eq_1 p0
  refine wp_seq (wp_region_lit ?_)
  refine st_box hE0 hS0 rfl rfl rfl fun b1 w1 hS1 a2 hE2 => st_val hE2 (y_assign hE2 rfl) rfl fun a3 hE3 => wpList_nil ?_
  clear hE0 hE2
  clear a0 a2
  refine then_normal ?_
  refine wp_seq (wp_region_lit ?_)
  refine st_val hE3 (y_assign hE3 rfl) rfl fun a4 hE4 => wpList_nil ?_
  clear hE3
  clear a3
  refine then_normal ?_
  refine wp_seq (wp_seq (wp_region_lit ?_))
  refine st_val hE4 (y_fieldAddr hE4 rfl fa90_8 rfl) rfl fun a5 hE5 => st_val hE5 (y_load_one hE5 rfl (hS1.cells (k := 0) rfl) rfl one3) rfl fun a6 hE6 => st_callF hE6 hS1 Tryd.func45 fb45 fn45 (c_impl_within p0.State 1 3) rfl rfl fun w7 hS7 a8 hE8 => wpList_nil ?_
  clear hE4 hE5 hE6
  clear a4 a5 a6
  refine then_normal ?_
  refine cond_split hE8 rfl (fun hb9 => ?_) (fun hb9 => ?_)
  ·
    have hM := hM.trans (if_t hb9)
    have hb9f := impl_within_t hb9
    refine wp_region_lit ?_
    refine st_val hE8 (y_build (is := [0, 1, 2]) (vs := [.string (⟨#[108, 105, 118, 101]⟩ : ByteArray), .string (⟨#[119, 104, 111, 108, 101]⟩ : ByteArray), .string (⟨#[100, 114, 111, 112, 112, 101, 100]⟩ : ByteArray)]) (v := .agg [.string (⟨#[108, 105, 118, 101]⟩ : ByteArray), .string (⟨#[119, 104, 111, 108, 101]⟩ : ByteArray), .string (⟨#[100, 114, 111, 112, 112, 101, 100]⟩ : ByteArray)].toArray) hE8 rfl rfl (by kernel_rfl)) rfl fun a10 hE10 => st_val hE10 (y_fieldAddr hE10 rfl fa90_8 rfl) rfl fun a11 hE11 => st_val hE11 (y_load_one hE11 rfl (hS7.cells (k := 0) rfl) rfl one3) rfl fun a12 hE12 => st_val hE12 (y_sub_in hE12 rfl rfl (m := p0.State - 1) rfl (by omega) (by omega)) rfl fun a13 hE13 => st_val hE13 (y_index_arr (k := ((p0.State - 1).toNat)) (xs := [(⟨#[108, 105, 118, 101]⟩ : ByteArray), (⟨#[119, 104, 111, 108, 101]⟩ : ByteArray), (⟨#[100, 114, 111, 112, 112, 101, 100]⟩ : ByteArray)]) Value.string hE13 rfl rfl rfl (by omega) (by simp only [List.length]; omega) arr115 rfl) rfl fun a15 hE15 => st_val hE15 (y_assign hE15 rfl) rfl fun a16 hE16 => wpList_nil ?_
    clear hE8 hE10 hE11 hE12 hE13 hE15
    clear a8 a10 a11 a12 a13 a15
    refine then_normal ?_
    have hS17 := hS7.drew
    refine wp_seq (reg_held 17 rfl (fun w2 => SH (Old w) w w2 [Ck.var b1 [.int .i64 p0.Id, .int .i64 p0.Age, .int .i64 p0.Proc, .int .i64 p0.Began, .slice A90000_4 p0.Calls.length cp90000_4, .slice A90000_5 p0.Answers.length cp90000_5, .slice A90000_6 p0.Touch.Reads.length cp90000_6, .slice A90000_7 p0.Touch.Writes.length cp90000_7, .slice A90000_8 p0.Marks.length cp90000_8, .int .i64 p0.State] 90]) mixed ?_)
    refine h_take 0 rfl (by kernel_rfl) hE16 (fun wh18 hh18 => y_fieldAddr hE16 rfl fa90_0 rfl) hS17 rfl fun a19 hE19 => h_take 1 rfl (by kernel_rfl) hE19 (fun wh20 hh20 => y_load_one hE19 rfl (hh20.cells (k := 0) rfl) rfl one3) hS17 rfl fun a21 hE21 => h_take 3 rfl (by kernel_rfl) hE21 (fun wh22 hh22 => y_fieldAddr hE21 rfl fa90_1 rfl) hS17 rfl fun a23 hE23 => h_take 4 rfl (by kernel_rfl) hE23 (fun wh24 hh24 => y_load_one hE23 rfl (hh24.cells (k := 0) rfl) rfl one3) hS17 rfl fun a25 hE25 => h_take 6 rfl (by kernel_rfl) hE25 (fun wh26 hh26 => y_fieldAddr hE25 rfl fa90_2 rfl) hS17 rfl fun a27 hE27 => h_take 7 rfl (by kernel_rfl) hE27 (fun wh28 hh28 => y_load_one hE27 rfl (hh28.cells (k := 0) rfl) rfl one3) hS17 rfl fun a29 hE29 => h_take 9 rfl (by kernel_rfl) hE29 (fun wh30 hh30 => y_move hE29 rfl) hS17 rfl fun a31 hE31 => h_take 10 rfl (by kernel_rfl) hE31 (fun wh32 hh32 => y_fieldAddr hE31 rfl fa90_4 rfl) hS17 rfl fun a33 hE33 => h_take 11 rfl (by kernel_rfl) hE33 (fun wh34 hh34 => y_load_one hE33 rfl (hh34.cells (k := 0) rfl) rfl one86) hS17 rfl fun a35 hE35 => h_take 12 rfl (by kernel_rfl) hE35 (fun wh36 hh36 => y_len_slice hE35 rfl sl86) hS17 rfl fun a37 hE37 => h_only 2 rfl (by kernel_rfl) <| st_callF hE37 hS17 Tryd.func61 fb61 fn61 (c_impl_Decimal p0.Id hg90000_0 (GV.sh hS17 hG7)) rfl rfl fun w38 hS38 a39 hE39 => ?_
    refine wpList_nil ⟨rfl, hS38, ?_⟩
    refine h_only 5 rfl (by kernel_rfl) <| st_callF hE39 hS38 Tryd.func61 fb61 fn61 (c_impl_Decimal p0.Age hg90000_1 (GV.sh hS38 hG7)) rfl rfl fun w40 hS40 a41 hE41 => ?_
    refine wpList_nil ⟨rfl, hS40, ?_⟩
    refine h_only 8 rfl (by kernel_rfl) <| st_callF hE41 hS40 Tryd.func61 fb61 fn61 (c_impl_Decimal p0.Proc hg90000_2 (GV.sh hS40 hG7)) rfl rfl fun w42 hS42 a43 hE43 => ?_
    refine wpList_nil ⟨rfl, hS42, ?_⟩
    refine h_only 13 rfl (by kernel_rfl) <| st_callF hE43 hS42 Tryd.func61 fb61 fn61 (c_impl_Decimal (p0.Calls.length : Int) (by unfold I64; omega) (GV.sh hS42 hG7)) rfl rfl fun w44 hS44 a45 hE45 => ?_
    refine wpList_nil ⟨rfl, hS44, ?_⟩
    refine h_only 14 rfl (by kernel_rfl) <| st_buildSlice (α := ByteArray) (is := [0, 1, 2, 3, 4]) (vs := [.string (impl_Decimal p0.Id), .string (impl_Decimal p0.Age), .string (impl_Decimal p0.Proc), .string (nth ([(⟨#[108, 105, 118, 101]⟩ : ByteArray), (⟨#[119, 104, 111, 108, 101]⟩ : ByteArray), (⟨#[100, 114, 111, 112, 112, 101, 100]⟩ : ByteArray)]) ((p0.State - 1).toNat)), .string (impl_Decimal (p0.Calls.length : Int))]) (cs := [.string (impl_Decimal p0.Id), .string (impl_Decimal p0.Age), .string (impl_Decimal p0.Proc), .string (nth ([(⟨#[108, 105, 118, 101]⟩ : ByteArray), (⟨#[119, 104, 111, 108, 101]⟩ : ByteArray), (⟨#[100, 114, 111, 112, 112, 101, 100]⟩ : ByteArray)]) ((p0.State - 1).toNat)), .string (impl_Decimal (p0.Calls.length : Int))]) (ys := [(impl_Decimal p0.Id), (impl_Decimal p0.Age), (impl_Decimal p0.Proc), (nth ([(⟨#[108, 105, 118, 101]⟩ : ByteArray), (⟨#[119, 104, 111, 108, 101]⟩ : ByteArray), (⟨#[100, 114, 111, 112, 112, 101, 100]⟩ : ByteArray)]) ((p0.State - 1).toNat)), (impl_Decimal (p0.Calls.length : Int))]) (e := 9) hE45 hS44 rfl rfl (by kernel_rfl) rfl rfl (by decide) (fun _ i y h => match i, y, h with | 0, _, h => (by cases h; exact ⟨⟨rfl, (max_of (impl_Decimal_size (by first | assumption | exact I64_wrap _ | (unfold I64; omega))) rfl)⟩, rfl⟩) | 1, _, h => (by cases h; exact ⟨⟨rfl, (max_of (impl_Decimal_size (by first | assumption | exact I64_wrap _ | (unfold I64; omega))) rfl)⟩, rfl⟩) | 2, _, h => (by cases h; exact ⟨⟨rfl, (max_of (impl_Decimal_size (by first | assumption | exact I64_wrap _ | (unfold I64; omega))) rfl)⟩, rfl⟩) | 3, _, h => (by cases h; exact ⟨⟨rfl, (max_of (nth_size (n := 7) (by decide) _) rfl)⟩, rfl⟩) | 4, _, h => (by cases h; exact ⟨⟨rfl, (max_of (impl_Decimal_size (by first | assumption | exact I64_wrap _ | (unfold I64; omega))) rfl)⟩, rfl⟩) | j + 5, _, h => (by simp at h)) rfl fun b46 w46 hS46 a47 hE47 => ?_
    refine wpList_nil ⟨rfl, hS46.drop (k := 1), ?_⟩
    refine h_only 15 rfl (by kernel_rfl) <| st_callF hE47 hS46 Tryd.func95 fb95 fn95 (c_strings_Join ([(impl_Decimal p0.Id), (impl_Decimal p0.Age), (impl_Decimal p0.Proc), (nth ([(⟨#[108, 105, 118, 101]⟩ : ByteArray), (⟨#[119, 104, 111, 108, 101]⟩ : ByteArray), (⟨#[100, 114, 111, 112, 112, 101, 100]⟩ : ByteArray)]) ((p0.State - 1).toNat)), (impl_Decimal (p0.Calls.length : Int))]) (⟨#[32]⟩ : ByteArray) (hS46.ownl (k := 0) rfl) (join_small (List.forall_mem_cons.2 ⟨Nat.le_trans (impl_Decimal_size (by first | assumption | exact I64_wrap _ | (unfold I64; omega))) (by decide), (List.forall_mem_cons.2 ⟨Nat.le_trans (impl_Decimal_size (by first | assumption | exact I64_wrap _ | (unfold I64; omega))) (by decide), (List.forall_mem_cons.2 ⟨Nat.le_trans (impl_Decimal_size (by first | assumption | exact I64_wrap _ | (unfold I64; omega))) (by decide), (List.forall_mem_cons.2 ⟨Nat.le_trans (nth_size (n := 7) (by decide) _) (by decide), (List.forall_mem_cons.2 ⟨Nat.le_trans (impl_Decimal_size (by first | assumption | exact I64_wrap _ | (unfold I64; omega))) (by decide), (fun _ h => by cases h)⟩)⟩)⟩)⟩)⟩) (Nat.le_trans (show ByteArray.size _ ≤ 1 by decide) (by decide)) (by simp only [List.length_cons, List.length_nil]; omega)) (by simp only [List.length_cons, List.length_nil]; omega)) rfl rfl fun w48 hS48 a49 hE49 => ?_
    refine wpList_nil ⟨rfl, hS48.drop (k := 1), ?_⟩
    refine h_only 16 rfl (by kernel_rfl) <| st_val hE49 (y_assign hE49 rfl) rfl fun a50 hE50 => ?_
    refine wpList_nil ⟨rfl, hS48.drop (k := 1), ?_⟩
    refine h_end (by kernel_rfl) ?_
    clear hE16 hE19 hE21 hE23 hE25 hE27 hE29 hE31 hE33 hE35 hE37 hE39 hE41 hE43 hE45 hE47 hE49
    clear a16 a19 a21 a23 a25 a27 a29 a31 a33 a35 a37 a39 a41 a43 a45 a47 a49
    refine then_normal ?_
    refine wp_ret ?_
    exact fin1 hE50 rfl rfl ⟨by rw [hM], hS48.below⟩
  ·
    have hM := hM.trans (if_f hb9)
    refine wp_skip ?_
    refine then_normal ?_
    have hS51 := hS7.drew
    refine wp_seq (reg_held 17 rfl (fun w2 => SH (Old w) w w2 [Ck.var b1 [.int .i64 p0.Id, .int .i64 p0.Age, .int .i64 p0.Proc, .int .i64 p0.Began, .slice A90000_4 p0.Calls.length cp90000_4, .slice A90000_5 p0.Answers.length cp90000_5, .slice A90000_6 p0.Touch.Reads.length cp90000_6, .slice A90000_7 p0.Touch.Writes.length cp90000_7, .slice A90000_8 p0.Marks.length cp90000_8, .int .i64 p0.State] 90]) mixed ?_)
    refine h_take 0 rfl (by kernel_rfl) hE8 (fun wh52 hh52 => y_fieldAddr hE8 rfl fa90_0 rfl) hS51 rfl fun a53 hE53 => h_take 1 rfl (by kernel_rfl) hE53 (fun wh54 hh54 => y_load_one hE53 rfl (hh54.cells (k := 0) rfl) rfl one3) hS51 rfl fun a55 hE55 => h_take 3 rfl (by kernel_rfl) hE55 (fun wh56 hh56 => y_fieldAddr hE55 rfl fa90_1 rfl) hS51 rfl fun a57 hE57 => h_take 4 rfl (by kernel_rfl) hE57 (fun wh58 hh58 => y_load_one hE57 rfl (hh58.cells (k := 0) rfl) rfl one3) hS51 rfl fun a59 hE59 => h_take 6 rfl (by kernel_rfl) hE59 (fun wh60 hh60 => y_fieldAddr hE59 rfl fa90_2 rfl) hS51 rfl fun a61 hE61 => h_take 7 rfl (by kernel_rfl) hE61 (fun wh62 hh62 => y_load_one hE61 rfl (hh62.cells (k := 0) rfl) rfl one3) hS51 rfl fun a63 hE63 => h_take 9 rfl (by kernel_rfl) hE63 (fun wh64 hh64 => y_move hE63 rfl) hS51 rfl fun a65 hE65 => h_take 10 rfl (by kernel_rfl) hE65 (fun wh66 hh66 => y_fieldAddr hE65 rfl fa90_4 rfl) hS51 rfl fun a67 hE67 => h_take 11 rfl (by kernel_rfl) hE67 (fun wh68 hh68 => y_load_one hE67 rfl (hh68.cells (k := 0) rfl) rfl one86) hS51 rfl fun a69 hE69 => h_take 12 rfl (by kernel_rfl) hE69 (fun wh70 hh70 => y_len_slice hE69 rfl sl86) hS51 rfl fun a71 hE71 => h_only 2 rfl (by kernel_rfl) <| st_callF hE71 hS51 Tryd.func61 fb61 fn61 (c_impl_Decimal p0.Id hg90000_0 (GV.sh hS51 hG7)) rfl rfl fun w72 hS72 a73 hE73 => ?_
    refine wpList_nil ⟨rfl, hS72, ?_⟩
    refine h_only 5 rfl (by kernel_rfl) <| st_callF hE73 hS72 Tryd.func61 fb61 fn61 (c_impl_Decimal p0.Age hg90000_1 (GV.sh hS72 hG7)) rfl rfl fun w74 hS74 a75 hE75 => ?_
    refine wpList_nil ⟨rfl, hS74, ?_⟩
    refine h_only 8 rfl (by kernel_rfl) <| st_callF hE75 hS74 Tryd.func61 fb61 fn61 (c_impl_Decimal p0.Proc hg90000_2 (GV.sh hS74 hG7)) rfl rfl fun w76 hS76 a77 hE77 => ?_
    refine wpList_nil ⟨rfl, hS76, ?_⟩
    refine h_only 13 rfl (by kernel_rfl) <| st_callF hE77 hS76 Tryd.func61 fb61 fn61 (c_impl_Decimal (p0.Calls.length : Int) (by unfold I64; omega) (GV.sh hS76 hG7)) rfl rfl fun w78 hS78 a79 hE79 => ?_
    refine wpList_nil ⟨rfl, hS78, ?_⟩
    refine h_only 14 rfl (by kernel_rfl) <| st_buildSlice (α := ByteArray) (is := [0, 1, 2, 3, 4]) (vs := [.string (impl_Decimal p0.Id), .string (impl_Decimal p0.Age), .string (impl_Decimal p0.Proc), .string (⟨#[63]⟩ : ByteArray), .string (impl_Decimal (p0.Calls.length : Int))]) (cs := [.string (impl_Decimal p0.Id), .string (impl_Decimal p0.Age), .string (impl_Decimal p0.Proc), .string (⟨#[63]⟩ : ByteArray), .string (impl_Decimal (p0.Calls.length : Int))]) (ys := [(impl_Decimal p0.Id), (impl_Decimal p0.Age), (impl_Decimal p0.Proc), (⟨#[63]⟩ : ByteArray), (impl_Decimal (p0.Calls.length : Int))]) (e := 9) hE79 hS78 rfl rfl (by kernel_rfl) rfl rfl (by decide) (fun _ i y h => match i, y, h with | 0, _, h => (by cases h; exact ⟨⟨rfl, (max_of (impl_Decimal_size (by first | assumption | exact I64_wrap _ | (unfold I64; omega))) rfl)⟩, rfl⟩) | 1, _, h => (by cases h; exact ⟨⟨rfl, (max_of (impl_Decimal_size (by first | assumption | exact I64_wrap _ | (unfold I64; omega))) rfl)⟩, rfl⟩) | 2, _, h => (by cases h; exact ⟨⟨rfl, (max_of (impl_Decimal_size (by first | assumption | exact I64_wrap _ | (unfold I64; omega))) rfl)⟩, rfl⟩) | 3, _, h => (by cases h; exact ⟨⟨rfl, (by decide)⟩, rfl⟩) | 4, _, h => (by cases h; exact ⟨⟨rfl, (max_of (impl_Decimal_size (by first | assumption | exact I64_wrap _ | (unfold I64; omega))) rfl)⟩, rfl⟩) | j + 5, _, h => (by simp at h)) rfl fun b80 w80 hS80 a81 hE81 => ?_
    refine wpList_nil ⟨rfl, hS80.drop (k := 1), ?_⟩
    refine h_only 15 rfl (by kernel_rfl) <| st_callF hE81 hS80 Tryd.func95 fb95 fn95 (c_strings_Join ([(impl_Decimal p0.Id), (impl_Decimal p0.Age), (impl_Decimal p0.Proc), (⟨#[63]⟩ : ByteArray), (impl_Decimal (p0.Calls.length : Int))]) (⟨#[32]⟩ : ByteArray) (hS80.ownl (k := 0) rfl) (join_small (List.forall_mem_cons.2 ⟨Nat.le_trans (impl_Decimal_size (by first | assumption | exact I64_wrap _ | (unfold I64; omega))) (by decide), (List.forall_mem_cons.2 ⟨Nat.le_trans (impl_Decimal_size (by first | assumption | exact I64_wrap _ | (unfold I64; omega))) (by decide), (List.forall_mem_cons.2 ⟨Nat.le_trans (impl_Decimal_size (by first | assumption | exact I64_wrap _ | (unfold I64; omega))) (by decide), (List.forall_mem_cons.2 ⟨Nat.le_trans (show ByteArray.size _ ≤ 1 by decide) (by decide), (List.forall_mem_cons.2 ⟨Nat.le_trans (impl_Decimal_size (by first | assumption | exact I64_wrap _ | (unfold I64; omega))) (by decide), (fun _ h => by cases h)⟩)⟩)⟩)⟩)⟩) (Nat.le_trans (show ByteArray.size _ ≤ 1 by decide) (by decide)) (by simp only [List.length_cons, List.length_nil]; omega)) (by simp only [List.length_cons, List.length_nil]; omega)) rfl rfl fun w82 hS82 a83 hE83 => ?_
    refine wpList_nil ⟨rfl, hS82.drop (k := 1), ?_⟩
    refine h_only 16 rfl (by kernel_rfl) <| st_val hE83 (y_assign hE83 rfl) rfl fun a84 hE84 => ?_
    refine wpList_nil ⟨rfl, hS82.drop (k := 1), ?_⟩
    refine h_end (by kernel_rfl) ?_
    clear hE8 hE53 hE55 hE57 hE59 hE61 hE63 hE65 hE67 hE69 hE71 hE73 hE75 hE77 hE79 hE81 hE83
    clear a8 a53 a55 a57 a59 a61 a63 a65 a67 a69 a71 a73 a75 a77 a79 a81 a83
    refine then_normal ?_
    refine wp_ret ?_
    exact fin1 hE84 rfl rfl ⟨by rw [hM], hS82.below⟩

/- F64 loop.example/g00974/spec.TxLine -/
def spec_TxLine (p0 : Tx) : ByteArray := (if (decide (p0.State = 1)) = true then (((((((spec_Decimal p0.Id) ++ (⟨#[32]⟩ : ByteArray)) ++ (spec_Decimal p0.Age)) ++ (⟨#[32]⟩ : ByteArray)) ++ (spec_Decimal p0.Proc)) ++ (⟨#[32, 108, 105, 118, 101, 32]⟩ : ByteArray)) ++ (spec_Decimal (p0.Calls.length : Int))) else (if (decide (p0.State = 2)) = true then (((((((spec_Decimal p0.Id) ++ (⟨#[32]⟩ : ByteArray)) ++ (spec_Decimal p0.Age)) ++ (⟨#[32]⟩ : ByteArray)) ++ (spec_Decimal p0.Proc)) ++ (⟨#[32, 119, 104, 111, 108, 101, 32]⟩ : ByteArray)) ++ (spec_Decimal (p0.Calls.length : Int))) else (if (decide (p0.State = 3)) = true then (((((((spec_Decimal p0.Id) ++ (⟨#[32]⟩ : ByteArray)) ++ (spec_Decimal p0.Age)) ++ (⟨#[32]⟩ : ByteArray)) ++ (spec_Decimal p0.Proc)) ++ (⟨#[32, 100, 114, 111, 112, 112, 101, 100, 32]⟩ : ByteArray)) ++ (spec_Decimal (p0.Calls.length : Int))) else (((((((spec_Decimal p0.Id) ++ (⟨#[32]⟩ : ByteArray)) ++ (spec_Decimal p0.Age)) ++ (⟨#[32]⟩ : ByteArray)) ++ (spec_Decimal p0.Proc)) ++ (⟨#[32, 63, 32]⟩ : ByteArray)) ++ (spec_Decimal (p0.Calls.length : Int))))))
theorem c_spec_TxLine {c0 : List Value} (p0 : Tx) {w : World} (hp0 : Dat.rd (Old w) w c0 p0) :
    Calls Tryd.prog 64 [.agg c0.toArray].toArray w (fun e w' => e = .returned (.string (spec_TxLine p0)) ∧ Below w.heap.size w w') := by
  obtain ⟨v90000_4, v90000_5, v90000_6, v90000_7, v90000_8, rfl, hg90000_0, hg90000_1, hg90000_2, hg90000_3, hv90000_4, hv90000_5, hv90000_6, hv90000_7, hv90000_8, hg90000_9, _⟩ := Tx_open hp0
  obtain ⟨A90000_4, cp90000_4, rfl, hx90000_4⟩ := hv90000_4.form
  obtain ⟨A90000_5, cp90000_5, rfl, hx90000_5⟩ := hv90000_5.form
  obtain ⟨A90000_6, cp90000_6, rfl, hx90000_6⟩ := hv90000_6.form
  obtain ⟨A90000_7, cp90000_7, rfl, hx90000_7⟩ := hv90000_7.form
  obtain ⟨A90000_8, cp90000_8, rfl, hx90000_8⟩ := hv90000_8.form
  refine enter Tryd.func64 rfl Tryd.ntmps64 (Nat.le_of_ble_eq_true rfl) ?_
  intro a0 hE0
  have hS0 := SH.start w
  have hM := spec_TxLine.eq_1 p0
  refine wp_seq (wp_region_lit ?_)
  refine st_box hE0 hS0 rfl rfl rfl fun b1 w1 hS1 a2 hE2 => st_val hE2 (y_assign hE2 rfl) rfl fun a3 hE3 => wpList_nil ?_
  clear hE0 hE2
  clear a0 a2
  refine then_normal ?_
  refine wp_seq (reg_quiet mixed (by kernel_rfl) hS1 ?_)
  refine q_val hE3 (fun w1 hS1 => y_fieldAddr hE3 rfl fa90_0 rfl) rfl fun a4 hE4 => q_val hE4 (fun w1 hS1 => y_load_one hE4 rfl (hS1.cells (k := 0) rfl) rfl one3) rfl fun a5 hE5 => q_call hE5 Tryd.func56 fb56 fn56 (fun w1 hS1 => (c_spec_Decimal p0.Id hg90000_0)) rfl rfl fun a6 hE6 => q_val hE6 (fun w1 hS1 => y_cat hE6 rfl rfl (cat_le (spec_Decimal_size (by first | assumption | exact I64_wrap _ | (unfold I64; omega))) (show ByteArray.size _ ≤ 1 by decide) rfl)) rfl fun a7 hE7 => q_val hE7 (fun w1 hS1 => y_fieldAddr hE7 rfl fa90_1 rfl) rfl fun a8 hE8 => q_val hE8 (fun w1 hS1 => y_load_one hE8 rfl (hS1.cells (k := 0) rfl) rfl one3) rfl fun a9 hE9 => q_call hE9 Tryd.func56 fb56 fn56 (fun w1 hS1 => (c_spec_Decimal p0.Age hg90000_1)) rfl rfl fun a10 hE10 => q_val hE10 (fun w1 hS1 => y_cat hE10 rfl rfl (cat_le (cat_sz (spec_Decimal_size (by first | assumption | exact I64_wrap _ | (unfold I64; omega))) (show ByteArray.size _ ≤ 1 by decide)) (spec_Decimal_size (by first | assumption | exact I64_wrap _ | (unfold I64; omega))) rfl)) rfl fun a11 hE11 => q_val hE11 (fun w1 hS1 => y_cat hE11 rfl rfl (cat_le (cat_sz (cat_sz (spec_Decimal_size (by first | assumption | exact I64_wrap _ | (unfold I64; omega))) (show ByteArray.size _ ≤ 1 by decide)) (spec_Decimal_size (by first | assumption | exact I64_wrap _ | (unfold I64; omega)))) (show ByteArray.size _ ≤ 1 by decide) rfl)) rfl fun a12 hE12 => q_val hE12 (fun w1 hS1 => y_fieldAddr hE12 rfl fa90_2 rfl) rfl fun a13 hE13 => q_val hE13 (fun w1 hS1 => y_load_one hE13 rfl (hS1.cells (k := 0) rfl) rfl one3) rfl fun a14 hE14 => q_call hE14 Tryd.func56 fb56 fn56 (fun w1 hS1 => (c_spec_Decimal p0.Proc hg90000_2)) rfl rfl fun a15 hE15 => q_val hE15 (fun w1 hS1 => y_cat hE15 rfl rfl (cat_le (cat_sz (cat_sz (cat_sz (spec_Decimal_size (by first | assumption | exact I64_wrap _ | (unfold I64; omega))) (show ByteArray.size _ ≤ 1 by decide)) (spec_Decimal_size (by first | assumption | exact I64_wrap _ | (unfold I64; omega)))) (show ByteArray.size _ ≤ 1 by decide)) (spec_Decimal_size (by first | assumption | exact I64_wrap _ | (unfold I64; omega))) rfl)) rfl fun a16 hE16 => q_val hE16 (fun w1 hS1 => y_assign hE16 rfl) rfl fun a17 hE17 => ?_
  refine q_nil fun w18 hS18 => ?_
  clear hE3 hE4 hE5 hE6 hE7 hE8 hE9 hE10 hE11 hE12 hE13 hE14 hE15 hE16
  clear a3 a4 a5 a6 a7 a8 a9 a10 a11 a12 a13 a14 a15 a16
  refine then_normal ?_
  refine wp_seq (wp_seq (wp_region_lit ?_))
  refine st_val hE17 (y_fieldAddr hE17 rfl fa90_8 rfl) rfl fun a19 hE19 => st_val hE19 (y_load_one hE19 rfl (hS18.cells (k := 0) rfl) rfl one3) rfl fun a20 hE20 => wpList_nil ?_
  clear hE17 hE19
  clear a17 a19
  refine then_normal ?_
  refine wp_block (wp_seq (wp_region_lit ?_))
  refine st_val hE20 (y_eql hE20 rfl rfl) rfl fun a21 hE21 => st_val hE21 (y_assign hE21 rfl) rfl fun a22 hE22 => wpList_nil ?_
  clear hE20 hE21
  clear a20 a21
  refine then_normal ?_
  refine cond_split hE22 rfl (fun hb23 => ?_) (fun hb23 => ?_)
  ·
    have hM := hM.trans (if_t hb23)
    have hb23f : p0.State = 1 := by simpa using hb23
    refine wp_region_lit ?_
    refine st_val hE22 (y_move hE22 rfl) rfl fun a24 hE24 => st_val hE24 (y_cat hE24 rfl rfl (cat_le (cat_sz (cat_sz (cat_sz (cat_sz (spec_Decimal_size (by first | assumption | exact I64_wrap _ | (unfold I64; omega))) (show ByteArray.size _ ≤ 1 by decide)) (spec_Decimal_size (by first | assumption | exact I64_wrap _ | (unfold I64; omega)))) (show ByteArray.size _ ≤ 1 by decide)) (spec_Decimal_size (by first | assumption | exact I64_wrap _ | (unfold I64; omega)))) (show ByteArray.size _ ≤ 6 by decide) rfl)) rfl fun a25 hE25 => st_val hE25 (y_assign hE25 rfl) rfl fun a26 hE26 => wpList_nil ?_
    clear hE22 hE24 hE25
    clear a22 a24 a25
    refine blk_normal ?_
    refine then_normal ?_
    refine wp_seq (wp_region_lit ?_)
    refine st_val hE26 (y_move hE26 rfl) rfl fun a27 hE27 => st_val hE27 (y_fieldAddr hE27 rfl fa90_4 rfl) rfl fun a28 hE28 => st_val hE28 (y_load_one hE28 rfl (hS18.cells (k := 0) rfl) rfl one86) rfl fun a29 hE29 => st_val hE29 (y_len_slice hE29 rfl sl86) rfl fun a30 hE30 => st_callF hE30 hS18 Tryd.func56 fb56 fn56 (c_spec_Decimal (p0.Calls.length : Int) (by unfold I64; omega)) rfl rfl fun w31 hS31 a32 hE32 => st_val hE32 (y_cat hE32 rfl rfl (cat_le (cat_sz (cat_sz (cat_sz (cat_sz (cat_sz (spec_Decimal_size (by first | assumption | exact I64_wrap _ | (unfold I64; omega))) (show ByteArray.size _ ≤ 1 by decide)) (spec_Decimal_size (by first | assumption | exact I64_wrap _ | (unfold I64; omega)))) (show ByteArray.size _ ≤ 1 by decide)) (spec_Decimal_size (by first | assumption | exact I64_wrap _ | (unfold I64; omega)))) (show ByteArray.size _ ≤ 6 by decide)) (spec_Decimal_size (by first | assumption | exact I64_wrap _ | (unfold I64; omega))) rfl)) rfl fun a33 hE33 => st_val hE33 (y_assign hE33 rfl) rfl fun a34 hE34 => wpList_nil ?_
    clear hE26 hE27 hE28 hE29 hE30 hE32 hE33
    clear a26 a27 a28 a29 a30 a32 a33
    refine then_normal ?_
    refine wp_ret ?_
    exact fin1 hE34 rfl rfl ⟨by rw [hM], hS31.below⟩
  ·
    have hM := hM.trans (if_f hb23)
    have hb23f : ¬ (p0.State = 1) := by simpa using hb23
    refine wp_seq (wp_region_lit ?_)
    refine st_val hE22 (y_eql hE22 rfl rfl) rfl fun a35 hE35 => st_val hE35 (y_assign hE35 rfl) rfl fun a36 hE36 => wpList_nil ?_
    clear hE22 hE35
    clear a22 a35
    refine then_normal ?_
    refine cond_split hE36 rfl (fun hb37 => ?_) (fun hb37 => ?_)
    ·
      have hM := hM.trans (if_t hb37)
      have hb37f : p0.State = 2 := by simpa using hb37
      refine wp_region_lit ?_
      refine st_val hE36 (y_move hE36 rfl) rfl fun a38 hE38 => st_val hE38 (y_cat hE38 rfl rfl (cat_le (cat_sz (cat_sz (cat_sz (cat_sz (spec_Decimal_size (by first | assumption | exact I64_wrap _ | (unfold I64; omega))) (show ByteArray.size _ ≤ 1 by decide)) (spec_Decimal_size (by first | assumption | exact I64_wrap _ | (unfold I64; omega)))) (show ByteArray.size _ ≤ 1 by decide)) (spec_Decimal_size (by first | assumption | exact I64_wrap _ | (unfold I64; omega)))) (show ByteArray.size _ ≤ 7 by decide) rfl)) rfl fun a39 hE39 => st_val hE39 (y_assign hE39 rfl) rfl fun a40 hE40 => wpList_nil ?_
      clear hE36 hE38 hE39
      clear a36 a38 a39
      refine blk_normal ?_
      refine then_normal ?_
      refine wp_seq (wp_region_lit ?_)
      refine st_val hE40 (y_move hE40 rfl) rfl fun a41 hE41 => st_val hE41 (y_fieldAddr hE41 rfl fa90_4 rfl) rfl fun a42 hE42 => st_val hE42 (y_load_one hE42 rfl (hS18.cells (k := 0) rfl) rfl one86) rfl fun a43 hE43 => st_val hE43 (y_len_slice hE43 rfl sl86) rfl fun a44 hE44 => st_callF hE44 hS18 Tryd.func56 fb56 fn56 (c_spec_Decimal (p0.Calls.length : Int) (by unfold I64; omega)) rfl rfl fun w45 hS45 a46 hE46 => st_val hE46 (y_cat hE46 rfl rfl (cat_le (cat_sz (cat_sz (cat_sz (cat_sz (cat_sz (spec_Decimal_size (by first | assumption | exact I64_wrap _ | (unfold I64; omega))) (show ByteArray.size _ ≤ 1 by decide)) (spec_Decimal_size (by first | assumption | exact I64_wrap _ | (unfold I64; omega)))) (show ByteArray.size _ ≤ 1 by decide)) (spec_Decimal_size (by first | assumption | exact I64_wrap _ | (unfold I64; omega)))) (show ByteArray.size _ ≤ 7 by decide)) (spec_Decimal_size (by first | assumption | exact I64_wrap _ | (unfold I64; omega))) rfl)) rfl fun a47 hE47 => st_val hE47 (y_assign hE47 rfl) rfl fun a48 hE48 => wpList_nil ?_
      clear hE40 hE41 hE42 hE43 hE44 hE46 hE47
      clear a40 a41 a42 a43 a44 a46 a47
      refine then_normal ?_
      refine wp_ret ?_
      exact fin1 hE48 rfl rfl ⟨by rw [hM], hS45.below⟩
    ·
      have hM := hM.trans (if_f hb37)
      have hb37f : ¬ (p0.State = 2) := by simpa using hb37
      refine wp_seq (wp_region_lit ?_)
      refine st_val hE36 (y_eql hE36 rfl rfl) rfl fun a49 hE49 => st_val hE49 (y_assign hE49 rfl) rfl fun a50 hE50 => wpList_nil ?_
      clear hE36 hE49
      clear a36 a49
      refine then_normal ?_
      refine cond_split hE50 rfl (fun hb51 => ?_) (fun hb51 => ?_)
      ·
        have hM := hM.trans (if_t hb51)
        have hb51f : p0.State = 3 := by simpa using hb51
        refine wp_region_lit ?_
        refine st_val hE50 (y_move hE50 rfl) rfl fun a52 hE52 => st_val hE52 (y_cat hE52 rfl rfl (cat_le (cat_sz (cat_sz (cat_sz (cat_sz (spec_Decimal_size (by first | assumption | exact I64_wrap _ | (unfold I64; omega))) (show ByteArray.size _ ≤ 1 by decide)) (spec_Decimal_size (by first | assumption | exact I64_wrap _ | (unfold I64; omega)))) (show ByteArray.size _ ≤ 1 by decide)) (spec_Decimal_size (by first | assumption | exact I64_wrap _ | (unfold I64; omega)))) (show ByteArray.size _ ≤ 9 by decide) rfl)) rfl fun a53 hE53 => st_val hE53 (y_assign hE53 rfl) rfl fun a54 hE54 => wpList_nil ?_
        clear hE50 hE52 hE53
        clear a50 a52 a53
        refine blk_normal ?_
        refine then_normal ?_
        refine wp_seq (wp_region_lit ?_)
        refine st_val hE54 (y_move hE54 rfl) rfl fun a55 hE55 => st_val hE55 (y_fieldAddr hE55 rfl fa90_4 rfl) rfl fun a56 hE56 => st_val hE56 (y_load_one hE56 rfl (hS18.cells (k := 0) rfl) rfl one86) rfl fun a57 hE57 => st_val hE57 (y_len_slice hE57 rfl sl86) rfl fun a58 hE58 => st_callF hE58 hS18 Tryd.func56 fb56 fn56 (c_spec_Decimal (p0.Calls.length : Int) (by unfold I64; omega)) rfl rfl fun w59 hS59 a60 hE60 => st_val hE60 (y_cat hE60 rfl rfl (cat_le (cat_sz (cat_sz (cat_sz (cat_sz (cat_sz (spec_Decimal_size (by first | assumption | exact I64_wrap _ | (unfold I64; omega))) (show ByteArray.size _ ≤ 1 by decide)) (spec_Decimal_size (by first | assumption | exact I64_wrap _ | (unfold I64; omega)))) (show ByteArray.size _ ≤ 1 by decide)) (spec_Decimal_size (by first | assumption | exact I64_wrap _ | (unfold I64; omega)))) (show ByteArray.size _ ≤ 9 by decide)) (spec_Decimal_size (by first | assumption | exact I64_wrap _ | (unfold I64; omega))) rfl)) rfl fun a61 hE61 => st_val hE61 (y_assign hE61 rfl) rfl fun a62 hE62 => wpList_nil ?_
        clear hE54 hE55 hE56 hE57 hE58 hE60 hE61
        clear a54 a55 a56 a57 a58 a60 a61
        refine then_normal ?_
        refine wp_ret ?_
        exact fin1 hE62 rfl rfl ⟨by rw [hM], hS59.below⟩
      ·
        have hM := hM.trans (if_f hb51)
        have hb51f : ¬ (p0.State = 3) := by simpa using hb51
        refine wp_region_lit ?_
        refine st_val hE50 (y_move hE50 rfl) rfl fun a63 hE63 => st_val hE63 (y_cat hE63 rfl rfl (cat_le (cat_sz (cat_sz (cat_sz (cat_sz (spec_Decimal_size (by first | assumption | exact I64_wrap _ | (unfold I64; omega))) (show ByteArray.size _ ≤ 1 by decide)) (spec_Decimal_size (by first | assumption | exact I64_wrap _ | (unfold I64; omega)))) (show ByteArray.size _ ≤ 1 by decide)) (spec_Decimal_size (by first | assumption | exact I64_wrap _ | (unfold I64; omega)))) (show ByteArray.size _ ≤ 3 by decide) rfl)) rfl fun a64 hE64 => st_val hE64 (y_assign hE64 rfl) rfl fun a65 hE65 => wpList_nil ?_
        clear hE50 hE63 hE64
        clear a50 a63 a64
        refine blk_normal ?_
        refine then_normal ?_
        refine wp_seq (wp_region_lit ?_)
        refine st_val hE65 (y_move hE65 rfl) rfl fun a66 hE66 => st_val hE66 (y_fieldAddr hE66 rfl fa90_4 rfl) rfl fun a67 hE67 => st_val hE67 (y_load_one hE67 rfl (hS18.cells (k := 0) rfl) rfl one86) rfl fun a68 hE68 => st_val hE68 (y_len_slice hE68 rfl sl86) rfl fun a69 hE69 => st_callF hE69 hS18 Tryd.func56 fb56 fn56 (c_spec_Decimal (p0.Calls.length : Int) (by unfold I64; omega)) rfl rfl fun w70 hS70 a71 hE71 => st_val hE71 (y_cat hE71 rfl rfl (cat_le (cat_sz (cat_sz (cat_sz (cat_sz (cat_sz (spec_Decimal_size (by first | assumption | exact I64_wrap _ | (unfold I64; omega))) (show ByteArray.size _ ≤ 1 by decide)) (spec_Decimal_size (by first | assumption | exact I64_wrap _ | (unfold I64; omega)))) (show ByteArray.size _ ≤ 1 by decide)) (spec_Decimal_size (by first | assumption | exact I64_wrap _ | (unfold I64; omega)))) (show ByteArray.size _ ≤ 3 by decide)) (spec_Decimal_size (by first | assumption | exact I64_wrap _ | (unfold I64; omega))) rfl)) rfl fun a72 hE72 => st_val hE72 (y_assign hE72 rfl) rfl fun a73 hE73 => wpList_nil ?_
        clear hE65 hE66 hE67 hE68 hE69 hE71 hE72
        clear a65 a66 a67 a68 a69 a71 a72
        refine then_normal ?_
        refine wp_ret ?_
        exact fin1 hE73 rfl rfl ⟨by rw [hM], hS70.below⟩

end Go.Proofs.YtmjjcihoobnbgaaDoor.Fw
