/- Contracts: each call returns what the model says. By program (wip/gen). -/
import Derived.Test.YtpfnofdaaekglaaDoorPD
namespace Go.Proofs.YtpfnofdaaekglaaDoor.Fw
open Go.RowKit
set_option linter.unusedVariables false
set_option linter.unusedSimpArgs false

theorem arr94 : chkArr Tryd.prog 94 2 9 = true := by kernel_rfl
theorem fa39_0 : chkField Tryd.prog 39 0 0 = true := by kernel_rfl
theorem fa39_1 : chkField Tryd.prog 39 1 1 = true := by kernel_rfl
theorem fa39_3 : chkField Tryd.prog 39 3 3 = true := by kernel_rfl
theorem fa39_7 : chkField Tryd.prog 39 7 7 = true := by kernel_rfl
theorem fb42 : Tryd.f42.body.isNone = false := rfl
theorem fb52 : Tryd.f52.body.isNone = false := rfl
theorem fb55 : Tryd.f55.body.isNone = false := rfl
theorem fn42 : (Tryd.f42.name == "runtime.NumGoroutine") = false := by kernel_rfl
theorem fn52 : (Tryd.f52.name == "runtime.NumGoroutine") = false := by kernel_rfl
theorem fn55 : (Tryd.f55.name == "runtime.NumGoroutine") = false := by kernel_rfl
theorem mixed : Tryd.prog.follows .mixedOrders = true := by kernel_rfl
theorem one3 : chkOne Tryd.prog 3 = true := by kernel_rfl
theorem one36 : chkOne Tryd.prog 36 = true := by kernel_rfl
theorem one4 : chkOne Tryd.prog 4 = true := by kernel_rfl
theorem sl36 : chkSlice Tryd.prog 36 127 7 80 = true := by kernel_rfl

/- F18 loop.example/g00974/impl.EntryLine -/
def impl_EntryLine (p0 : Entry) : ByteArray := (if (impl_within p0.Kind 1 2) = true then (if p0.Laid = true then ((((((impl_Decimal p0.Seq) ++ (⟨#[32]⟩ : ByteArray)) ++ (nth ([(⟨#[112, 108, 97, 105, 110]⟩ : ByteArray), (⟨#[119, 104, 111, 108, 101]⟩ : ByteArray)]) ((p0.Kind - 1).toNat))) ++ (⟨#[32]⟩ : ByteArray)) ++ (impl_Decimal (p0.Steps.length : Int))) ++ (⟨#[32, 42]⟩ : ByteArray)) else (((((impl_Decimal p0.Seq) ++ (⟨#[32]⟩ : ByteArray)) ++ (nth ([(⟨#[112, 108, 97, 105, 110]⟩ : ByteArray), (⟨#[119, 104, 111, 108, 101]⟩ : ByteArray)]) ((p0.Kind - 1).toNat))) ++ (⟨#[32]⟩ : ByteArray)) ++ (impl_Decimal (p0.Steps.length : Int)))) else (if p0.Laid = true then ((((((impl_Decimal p0.Seq) ++ (⟨#[32]⟩ : ByteArray)) ++ (⟨#[63]⟩ : ByteArray)) ++ (⟨#[32]⟩ : ByteArray)) ++ (impl_Decimal (p0.Steps.length : Int))) ++ (⟨#[32, 42]⟩ : ByteArray)) else (((((impl_Decimal p0.Seq) ++ (⟨#[32]⟩ : ByteArray)) ++ (⟨#[63]⟩ : ByteArray)) ++ (⟨#[32]⟩ : ByteArray)) ++ (impl_Decimal (p0.Steps.length : Int)))))
theorem c_impl_EntryLine {c0 : List Value} (p0 : Entry) {w : World} (hp0 : Dat.rd (Old w) w c0 p0) (hG3 : GV 3 (gl3.map (Value.int .u64)) w) :
    Calls Tryd.prog 18 [.agg c0.toArray].toArray w (fun e w' => e = .returned (.string (impl_EntryLine p0)) ∧ Below w.heap.size w w') := by
  obtain ⟨v90000_3, v90000_4, rfl, hg90000_0, hg90000_1, hg90000_2, hv90000_3, hv90000_4, hg90000_5, hg90000_6, _⟩ := Entry_open hp0
  obtain ⟨A90000_3, cp90000_3, rfl, hx90000_3⟩ := hv90000_3.form
  obtain ⟨A90000_4, cp90000_4, rfl, hx90000_4⟩ := hv90000_4.form
  refine enter Tryd.func18 rfl Tryd.ntmps18 (Nat.le_of_ble_eq_true rfl) ?_
  intro a0 hE0
  have hS0 := SH.start w
  have hM := impl_EntryLine.eq_1 p0
  refine wp_seq (wp_region_lit ?_)
  refine st_box hE0 hS0 rfl rfl rfl fun b1 w1 hS1 a2 hE2 => st_val hE2 (y_assign hE2 rfl) rfl fun a3 hE3 => wpList_nil ?_
  clear hE0 hE2
  clear a0 a2
  refine then_normal ?_
  refine wp_seq (wp_region_lit ?_)
  refine st_val hE3 (y_assign hE3 rfl) rfl fun a4 hE4 => wpList_nil ?_
  clear hE3
  clear a3
  refine then_normal ?_
  refine wp_seq (wp_seq (wp_region_lit ?_))
  refine st_val hE4 (y_fieldAddr hE4 rfl fa39_1 rfl) rfl fun a5 hE5 => st_val hE5 (y_load_one hE5 rfl (hS1.cells (k := 0) rfl) rfl one3) rfl fun a6 hE6 => st_callF hE6 hS1 Tryd.func42 fb42 fn42 (c_impl_within p0.Kind 1 2) rfl rfl fun w7 hS7 a8 hE8 => wpList_nil ?_
  clear hE4 hE5 hE6
  clear a4 a5 a6
  refine then_normal ?_
  refine cond_split hE8 rfl (fun hb9 => ?_) (fun hb9 => ?_)
  ·
    have hM := hM.trans (if_t hb9)
    have hb9f := impl_within_t hb9
    refine wp_region_lit ?_
    refine st_val hE8 (y_build (is := [0, 1]) (vs := [.string (⟨#[112, 108, 97, 105, 110]⟩ : ByteArray), .string (⟨#[119, 104, 111, 108, 101]⟩ : ByteArray)]) (v := .agg [.string (⟨#[112, 108, 97, 105, 110]⟩ : ByteArray), .string (⟨#[119, 104, 111, 108, 101]⟩ : ByteArray)].toArray) hE8 rfl rfl (by kernel_rfl)) rfl fun a10 hE10 => st_val hE10 (y_fieldAddr hE10 rfl fa39_1 rfl) rfl fun a11 hE11 => st_val hE11 (y_load_one hE11 rfl (hS7.cells (k := 0) rfl) rfl one3) rfl fun a12 hE12 => st_val hE12 (y_sub_in hE12 rfl rfl (m := p0.Kind - 1) rfl (by omega) (by omega)) rfl fun a13 hE13 => st_val hE13 (y_index_arr (k := ((p0.Kind - 1).toNat)) (xs := [(⟨#[112, 108, 97, 105, 110]⟩ : ByteArray), (⟨#[119, 104, 111, 108, 101]⟩ : ByteArray)]) Value.string hE13 rfl rfl rfl (by omega) (by simp only [List.length]; omega) arr94 rfl) rfl fun a15 hE15 => st_val hE15 (y_assign hE15 rfl) rfl fun a16 hE16 => wpList_nil ?_
    clear hE8 hE10 hE11 hE12 hE13 hE15
    clear a8 a10 a11 a12 a13 a15
    refine then_normal ?_
    refine wp_seq (reg_quiet mixed (by kernel_rfl) hS7 ?_)
    refine q_val hE16 (fun w7 hS7 => y_fieldAddr hE16 rfl fa39_0 rfl) rfl fun a17 hE17 => q_val hE17 (fun w7 hS7 => y_load_one hE17 rfl (hS7.cells (k := 0) rfl) rfl one3) rfl fun a18 hE18 => q_call hE18 Tryd.func55 fb55 fn55 (fun w7 hS7 => (c_impl_Decimal p0.Seq hg90000_0 (GV.sh hS7 hG3))) rfl rfl fun a19 hE19 => q_val hE19 (fun w7 hS7 => y_cat hE19 rfl rfl (cat_le (impl_Decimal_size (by first | assumption | exact I64_wrap _ | (unfold I64; omega))) (show ByteArray.size _ ≤ 1 by decide) rfl)) rfl fun a20 hE20 => q_val hE20 (fun w7 hS7 => y_move hE20 rfl) rfl fun a21 hE21 => q_val hE21 (fun w7 hS7 => y_cat hE21 rfl rfl (cat_le (cat_sz (impl_Decimal_size (by first | assumption | exact I64_wrap _ | (unfold I64; omega))) (show ByteArray.size _ ≤ 1 by decide)) (nth_size (n := 5) (by decide) _) rfl)) rfl fun a22 hE22 => q_val hE22 (fun w7 hS7 => y_cat hE22 rfl rfl (cat_le (cat_sz (cat_sz (impl_Decimal_size (by first | assumption | exact I64_wrap _ | (unfold I64; omega))) (show ByteArray.size _ ≤ 1 by decide)) (nth_size (n := 5) (by decide) _)) (show ByteArray.size _ ≤ 1 by decide) rfl)) rfl fun a23 hE23 => q_val hE23 (fun w7 hS7 => y_fieldAddr hE23 rfl fa39_3 rfl) rfl fun a24 hE24 => q_val hE24 (fun w7 hS7 => y_load_one hE24 rfl (hS7.cells (k := 0) rfl) rfl one36) rfl fun a25 hE25 => q_val hE25 (fun w7 hS7 => y_len_slice hE25 rfl sl36) rfl fun a26 hE26 => q_call hE26 Tryd.func55 fb55 fn55 (fun w7 hS7 => (c_impl_Decimal (p0.Steps.length : Int) (by unfold I64; omega) (GV.sh hS7 hG3))) rfl rfl fun a27 hE27 => q_val hE27 (fun w7 hS7 => y_cat hE27 rfl rfl (cat_le (cat_sz (cat_sz (cat_sz (impl_Decimal_size (by first | assumption | exact I64_wrap _ | (unfold I64; omega))) (show ByteArray.size _ ≤ 1 by decide)) (nth_size (n := 5) (by decide) _)) (show ByteArray.size _ ≤ 1 by decide)) (impl_Decimal_size (by first | assumption | exact I64_wrap _ | (unfold I64; omega))) rfl)) rfl fun a28 hE28 => q_val hE28 (fun w7 hS7 => y_assign hE28 rfl) rfl fun a29 hE29 => ?_
    refine q_nil fun w30 hS30 => ?_
    clear hE16 hE17 hE18 hE19 hE20 hE21 hE22 hE23 hE24 hE25 hE26 hE27 hE28
    clear a16 a17 a18 a19 a20 a21 a22 a23 a24 a25 a26 a27 a28
    refine then_normal ?_
    refine wp_seq (wp_seq (wp_region_lit ?_))
    refine st_val hE29 (y_fieldAddr hE29 rfl fa39_7 rfl) rfl fun a31 hE31 => st_val hE31 (y_load_one hE31 rfl (hS30.cells (k := 0) rfl) rfl one4) rfl fun a32 hE32 => wpList_nil ?_
    clear hE29 hE31
    clear a29 a31
    refine then_normal ?_
    refine cond_split hE32 rfl (fun hb33 => ?_) (fun hb33 => ?_)
    ·
      have hM := hM.trans (if_t hb33)
      refine wp_region_lit ?_
      refine st_val hE32 (y_move hE32 rfl) rfl fun a34 hE34 => st_val hE34 (y_cat hE34 rfl rfl (cat_le (cat_sz (cat_sz (cat_sz (cat_sz (impl_Decimal_size (by first | assumption | exact I64_wrap _ | (unfold I64; omega))) (show ByteArray.size _ ≤ 1 by decide)) (nth_size (n := 5) (by decide) _)) (show ByteArray.size _ ≤ 1 by decide)) (impl_Decimal_size (by first | assumption | exact I64_wrap _ | (unfold I64; omega)))) (show ByteArray.size _ ≤ 2 by decide) rfl)) rfl fun a35 hE35 => st_val hE35 (y_assign hE35 rfl) rfl fun a36 hE36 => wpList_nil ?_
      clear hE32 hE34 hE35
      clear a32 a34 a35
      refine then_normal ?_
      refine wp_seq (wp_region_lit ?_)
      refine st_val hE36 (y_move hE36 rfl) rfl fun a37 hE37 => st_val hE37 (y_assign hE37 rfl) rfl fun a38 hE38 => wpList_nil ?_
      clear hE36 hE37
      clear a36 a37
      refine then_normal ?_
      refine wp_ret ?_
      exact fin1 hE38 rfl rfl ⟨by rw [hM], hS30.below⟩
    ·
      have hM := hM.trans (if_f hb33)
      refine wp_skip ?_
      refine then_normal ?_
      refine wp_seq (wp_region_lit ?_)
      refine st_val hE32 (y_move hE32 rfl) rfl fun a39 hE39 => st_val hE39 (y_assign hE39 rfl) rfl fun a40 hE40 => wpList_nil ?_
      clear hE32 hE39
      clear a32 a39
      refine then_normal ?_
      refine wp_ret ?_
      exact fin1 hE40 rfl rfl ⟨by rw [hM], hS30.below⟩
  ·
    have hM := hM.trans (if_f hb9)
    refine wp_skip ?_
    refine then_normal ?_
    refine wp_seq (reg_quiet mixed (by kernel_rfl) hS7 ?_)
    refine q_val hE8 (fun w7 hS7 => y_fieldAddr hE8 rfl fa39_0 rfl) rfl fun a41 hE41 => q_val hE41 (fun w7 hS7 => y_load_one hE41 rfl (hS7.cells (k := 0) rfl) rfl one3) rfl fun a42 hE42 => q_call hE42 Tryd.func55 fb55 fn55 (fun w7 hS7 => (c_impl_Decimal p0.Seq hg90000_0 (GV.sh hS7 hG3))) rfl rfl fun a43 hE43 => q_val hE43 (fun w7 hS7 => y_cat hE43 rfl rfl (cat_le (impl_Decimal_size (by first | assumption | exact I64_wrap _ | (unfold I64; omega))) (show ByteArray.size _ ≤ 1 by decide) rfl)) rfl fun a44 hE44 => q_val hE44 (fun w7 hS7 => y_move hE44 rfl) rfl fun a45 hE45 => q_val hE45 (fun w7 hS7 => y_cat hE45 rfl rfl (cat_le (cat_sz (impl_Decimal_size (by first | assumption | exact I64_wrap _ | (unfold I64; omega))) (show ByteArray.size _ ≤ 1 by decide)) (show ByteArray.size _ ≤ 1 by decide) rfl)) rfl fun a46 hE46 => q_val hE46 (fun w7 hS7 => y_cat hE46 rfl rfl (cat_le (cat_sz (cat_sz (impl_Decimal_size (by first | assumption | exact I64_wrap _ | (unfold I64; omega))) (show ByteArray.size _ ≤ 1 by decide)) (show ByteArray.size _ ≤ 1 by decide)) (show ByteArray.size _ ≤ 1 by decide) rfl)) rfl fun a47 hE47 => q_val hE47 (fun w7 hS7 => y_fieldAddr hE47 rfl fa39_3 rfl) rfl fun a48 hE48 => q_val hE48 (fun w7 hS7 => y_load_one hE48 rfl (hS7.cells (k := 0) rfl) rfl one36) rfl fun a49 hE49 => q_val hE49 (fun w7 hS7 => y_len_slice hE49 rfl sl36) rfl fun a50 hE50 => q_call hE50 Tryd.func55 fb55 fn55 (fun w7 hS7 => (c_impl_Decimal (p0.Steps.length : Int) (by unfold I64; omega) (GV.sh hS7 hG3))) rfl rfl fun a51 hE51 => q_val hE51 (fun w7 hS7 => y_cat hE51 rfl rfl (cat_le (cat_sz (cat_sz (cat_sz (impl_Decimal_size (by first | assumption | exact I64_wrap _ | (unfold I64; omega))) (show ByteArray.size _ ≤ 1 by decide)) (show ByteArray.size _ ≤ 1 by decide)) (show ByteArray.size _ ≤ 1 by decide)) (impl_Decimal_size (by first | assumption | exact I64_wrap _ | (unfold I64; omega))) rfl)) rfl fun a52 hE52 => q_val hE52 (fun w7 hS7 => y_assign hE52 rfl) rfl fun a53 hE53 => ?_
    refine q_nil fun w54 hS54 => ?_
    clear hE8 hE41 hE42 hE43 hE44 hE45 hE46 hE47 hE48 hE49 hE50 hE51 hE52
    clear a8 a41 a42 a43 a44 a45 a46 a47 a48 a49 a50 a51 a52
    refine then_normal ?_
    refine wp_seq (wp_seq (wp_region_lit ?_))
    refine st_val hE53 (y_fieldAddr hE53 rfl fa39_7 rfl) rfl fun a55 hE55 => st_val hE55 (y_load_one hE55 rfl (hS54.cells (k := 0) rfl) rfl one4) rfl fun a56 hE56 => wpList_nil ?_
    clear hE53 hE55
    clear a53 a55
    refine then_normal ?_
    refine cond_split hE56 rfl (fun hb57 => ?_) (fun hb57 => ?_)
    ·
      have hM := hM.trans (if_t hb57)
      refine wp_region_lit ?_
      refine st_val hE56 (y_move hE56 rfl) rfl fun a58 hE58 => st_val hE58 (y_cat hE58 rfl rfl (cat_le (cat_sz (cat_sz (cat_sz (cat_sz (impl_Decimal_size (by first | assumption | exact I64_wrap _ | (unfold I64; omega))) (show ByteArray.size _ ≤ 1 by decide)) (show ByteArray.size _ ≤ 1 by decide)) (show ByteArray.size _ ≤ 1 by decide)) (impl_Decimal_size (by first | assumption | exact I64_wrap _ | (unfold I64; omega)))) (show ByteArray.size _ ≤ 2 by decide) rfl)) rfl fun a59 hE59 => st_val hE59 (y_assign hE59 rfl) rfl fun a60 hE60 => wpList_nil ?_
      clear hE56 hE58 hE59
      clear a56 a58 a59
      refine then_normal ?_
      refine wp_seq (wp_region_lit ?_)
      refine st_val hE60 (y_move hE60 rfl) rfl fun a61 hE61 => st_val hE61 (y_assign hE61 rfl) rfl fun a62 hE62 => wpList_nil ?_
      clear hE60 hE61
      clear a60 a61
      refine then_normal ?_
      refine wp_ret ?_
      exact fin1 hE62 rfl rfl ⟨by rw [hM], hS54.below⟩
    ·
      have hM := hM.trans (if_f hb57)
      refine wp_skip ?_
      refine then_normal ?_
      refine wp_seq (wp_region_lit ?_)
      refine st_val hE56 (y_move hE56 rfl) rfl fun a63 hE63 => st_val hE63 (y_assign hE63 rfl) rfl fun a64 hE64 => wpList_nil ?_
      clear hE56 hE63
      clear a56 a63
      refine then_normal ?_
      refine wp_ret ?_
      exact fin1 hE64 rfl rfl ⟨by rw [hM], hS54.below⟩

/- F16 loop.example/g00974/spec.EntryLine -/
def spec_EntryLine (p0 : Entry) : ByteArray := (if (decide (p0.Kind = 1)) = true then (if p0.Laid = true then ((((spec_Decimal p0.Seq) ++ (⟨#[32, 112, 108, 97, 105, 110, 32]⟩ : ByteArray)) ++ (spec_Decimal (p0.Steps.length : Int))) ++ (⟨#[32, 42]⟩ : ByteArray)) else (((spec_Decimal p0.Seq) ++ (⟨#[32, 112, 108, 97, 105, 110, 32]⟩ : ByteArray)) ++ (spec_Decimal (p0.Steps.length : Int)))) else (if (decide (p0.Kind = 2)) = true then (if p0.Laid = true then ((((spec_Decimal p0.Seq) ++ (⟨#[32, 119, 104, 111, 108, 101, 32]⟩ : ByteArray)) ++ (spec_Decimal (p0.Steps.length : Int))) ++ (⟨#[32, 42]⟩ : ByteArray)) else (((spec_Decimal p0.Seq) ++ (⟨#[32, 119, 104, 111, 108, 101, 32]⟩ : ByteArray)) ++ (spec_Decimal (p0.Steps.length : Int)))) else (if p0.Laid = true then ((((spec_Decimal p0.Seq) ++ (⟨#[32, 63, 32]⟩ : ByteArray)) ++ (spec_Decimal (p0.Steps.length : Int))) ++ (⟨#[32, 42]⟩ : ByteArray)) else (((spec_Decimal p0.Seq) ++ (⟨#[32, 63, 32]⟩ : ByteArray)) ++ (spec_Decimal (p0.Steps.length : Int))))))
theorem c_spec_EntryLine {c0 : List Value} (p0 : Entry) {w : World} (hp0 : Dat.rd (Old w) w c0 p0) :
    Calls Tryd.prog 16 [.agg c0.toArray].toArray w (fun e w' => e = .returned (.string (spec_EntryLine p0)) ∧ Below w.heap.size w w') := by
  obtain ⟨v90000_3, v90000_4, rfl, hg90000_0, hg90000_1, hg90000_2, hv90000_3, hv90000_4, hg90000_5, hg90000_6, _⟩ := Entry_open hp0
  obtain ⟨A90000_3, cp90000_3, rfl, hx90000_3⟩ := hv90000_3.form
  obtain ⟨A90000_4, cp90000_4, rfl, hx90000_4⟩ := hv90000_4.form
  refine enter Tryd.func16 rfl Tryd.ntmps16 (Nat.le_of_ble_eq_true rfl) ?_
  intro a0 hE0
  have hS0 := SH.start w
  have hM := spec_EntryLine.eq_1 p0
  refine wp_seq (wp_region_lit ?_)
  refine st_box hE0 hS0 rfl rfl rfl fun b1 w1 hS1 a2 hE2 => st_val hE2 (y_assign hE2 rfl) rfl fun a3 hE3 => wpList_nil ?_
  clear hE0 hE2
  clear a0 a2
  refine then_normal ?_
  refine wp_seq (wp_region_lit ?_)
  refine st_val hE3 (y_fieldAddr hE3 rfl fa39_0 rfl) rfl fun a4 hE4 => st_val hE4 (y_load_one hE4 rfl (hS1.cells (k := 0) rfl) rfl one3) rfl fun a5 hE5 => st_callF hE5 hS1 Tryd.func52 fb52 fn52 (c_spec_Decimal p0.Seq hg90000_0) rfl rfl fun w6 hS6 a7 hE7 => st_val hE7 (y_assign hE7 rfl) rfl fun a8 hE8 => wpList_nil ?_
  clear hE3 hE4 hE5 hE7
  clear a3 a4 a5 a7
  refine then_normal ?_
  refine wp_seq (wp_seq (wp_region_lit ?_))
  refine st_val hE8 (y_fieldAddr hE8 rfl fa39_1 rfl) rfl fun a9 hE9 => st_val hE9 (y_load_one hE9 rfl (hS6.cells (k := 0) rfl) rfl one3) rfl fun a10 hE10 => wpList_nil ?_
  clear hE8 hE9
  clear a8 a9
  refine then_normal ?_
  refine wp_block (wp_seq (wp_region_lit ?_))
  refine st_val hE10 (y_eql hE10 rfl rfl) rfl fun a11 hE11 => st_val hE11 (y_assign hE11 rfl) rfl fun a12 hE12 => wpList_nil ?_
  clear hE10 hE11
  clear a10 a11
  refine then_normal ?_
  refine cond_split hE12 rfl (fun hb13 => ?_) (fun hb13 => ?_)
  ·
    have hM := hM.trans (if_t hb13)
    have hb13f : p0.Kind = 1 := by simpa using hb13
    refine wp_region_lit ?_
    refine st_val hE12 (y_move hE12 rfl) rfl fun a14 hE14 => st_val hE14 (y_cat hE14 rfl rfl (cat_le (spec_Decimal_size (by first | assumption | exact I64_wrap _ | (unfold I64; omega))) (show ByteArray.size _ ≤ 7 by decide) rfl)) rfl fun a15 hE15 => st_val hE15 (y_assign hE15 rfl) rfl fun a16 hE16 => wpList_nil ?_
    clear hE12 hE14 hE15
    clear a12 a14 a15
    refine blk_normal ?_
    refine then_normal ?_
    refine wp_seq (wp_region_lit ?_)
    refine st_val hE16 (y_move hE16 rfl) rfl fun a17 hE17 => st_val hE17 (y_fieldAddr hE17 rfl fa39_3 rfl) rfl fun a18 hE18 => st_val hE18 (y_load_one hE18 rfl (hS6.cells (k := 0) rfl) rfl one36) rfl fun a19 hE19 => st_val hE19 (y_len_slice hE19 rfl sl36) rfl fun a20 hE20 => st_callF hE20 hS6 Tryd.func52 fb52 fn52 (c_spec_Decimal (p0.Steps.length : Int) (by unfold I64; omega)) rfl rfl fun w21 hS21 a22 hE22 => st_val hE22 (y_cat hE22 rfl rfl (cat_le (cat_sz (spec_Decimal_size (by first | assumption | exact I64_wrap _ | (unfold I64; omega))) (show ByteArray.size _ ≤ 7 by decide)) (spec_Decimal_size (by first | assumption | exact I64_wrap _ | (unfold I64; omega))) rfl)) rfl fun a23 hE23 => st_val hE23 (y_assign hE23 rfl) rfl fun a24 hE24 => wpList_nil ?_
    clear hE16 hE17 hE18 hE19 hE20 hE22 hE23
    clear a16 a17 a18 a19 a20 a22 a23
    refine then_normal ?_
    refine wp_seq (wp_seq (wp_region_lit ?_))
    refine st_val hE24 (y_fieldAddr hE24 rfl fa39_7 rfl) rfl fun a25 hE25 => st_val hE25 (y_load_one hE25 rfl (hS21.cells (k := 0) rfl) rfl one4) rfl fun a26 hE26 => wpList_nil ?_
    clear hE24 hE25
    clear a24 a25
    refine then_normal ?_
    refine cond_split hE26 rfl (fun hb27 => ?_) (fun hb27 => ?_)
    ·
      have hM := hM.trans (if_t hb27)
      refine wp_region_lit ?_
      refine st_val hE26 (y_move hE26 rfl) rfl fun a28 hE28 => st_val hE28 (y_cat hE28 rfl rfl (cat_le (cat_sz (cat_sz (spec_Decimal_size (by first | assumption | exact I64_wrap _ | (unfold I64; omega))) (show ByteArray.size _ ≤ 7 by decide)) (spec_Decimal_size (by first | assumption | exact I64_wrap _ | (unfold I64; omega)))) (show ByteArray.size _ ≤ 2 by decide) rfl)) rfl fun a29 hE29 => st_val hE29 (y_assign hE29 rfl) rfl fun a30 hE30 => wpList_nil ?_
      clear hE26 hE28 hE29
      clear a26 a28 a29
      refine then_normal ?_
      refine wp_seq (wp_region_lit ?_)
      refine st_val hE30 (y_move hE30 rfl) rfl fun a31 hE31 => st_val hE31 (y_assign hE31 rfl) rfl fun a32 hE32 => wpList_nil ?_
      clear hE30 hE31
      clear a30 a31
      refine then_normal ?_
      refine wp_ret ?_
      exact fin1 hE32 rfl rfl ⟨by rw [hM], hS21.below⟩
    ·
      have hM := hM.trans (if_f hb27)
      refine wp_skip ?_
      refine then_normal ?_
      refine wp_seq (wp_region_lit ?_)
      refine st_val hE26 (y_move hE26 rfl) rfl fun a33 hE33 => st_val hE33 (y_assign hE33 rfl) rfl fun a34 hE34 => wpList_nil ?_
      clear hE26 hE33
      clear a26 a33
      refine then_normal ?_
      refine wp_ret ?_
      exact fin1 hE34 rfl rfl ⟨by rw [hM], hS21.below⟩
  ·
    have hM := hM.trans (if_f hb13)
    have hb13f : ¬ (p0.Kind = 1) := by simpa using hb13
    refine wp_seq (wp_region_lit ?_)
    refine st_val hE12 (y_eql hE12 rfl rfl) rfl fun a35 hE35 => st_val hE35 (y_assign hE35 rfl) rfl fun a36 hE36 => wpList_nil ?_
    clear hE12 hE35
    clear a12 a35
    refine then_normal ?_
    refine cond_split hE36 rfl (fun hb37 => ?_) (fun hb37 => ?_)
    ·
      have hM := hM.trans (if_t hb37)
      have hb37f : p0.Kind = 2 := by simpa using hb37
      refine wp_region_lit ?_
      refine st_val hE36 (y_move hE36 rfl) rfl fun a38 hE38 => st_val hE38 (y_cat hE38 rfl rfl (cat_le (spec_Decimal_size (by first | assumption | exact I64_wrap _ | (unfold I64; omega))) (show ByteArray.size _ ≤ 7 by decide) rfl)) rfl fun a39 hE39 => st_val hE39 (y_assign hE39 rfl) rfl fun a40 hE40 => wpList_nil ?_
      clear hE36 hE38 hE39
      clear a36 a38 a39
      refine blk_normal ?_
      refine then_normal ?_
      refine wp_seq (wp_region_lit ?_)
      refine st_val hE40 (y_move hE40 rfl) rfl fun a41 hE41 => st_val hE41 (y_fieldAddr hE41 rfl fa39_3 rfl) rfl fun a42 hE42 => st_val hE42 (y_load_one hE42 rfl (hS6.cells (k := 0) rfl) rfl one36) rfl fun a43 hE43 => st_val hE43 (y_len_slice hE43 rfl sl36) rfl fun a44 hE44 => st_callF hE44 hS6 Tryd.func52 fb52 fn52 (c_spec_Decimal (p0.Steps.length : Int) (by unfold I64; omega)) rfl rfl fun w45 hS45 a46 hE46 => st_val hE46 (y_cat hE46 rfl rfl (cat_le (cat_sz (spec_Decimal_size (by first | assumption | exact I64_wrap _ | (unfold I64; omega))) (show ByteArray.size _ ≤ 7 by decide)) (spec_Decimal_size (by first | assumption | exact I64_wrap _ | (unfold I64; omega))) rfl)) rfl fun a47 hE47 => st_val hE47 (y_assign hE47 rfl) rfl fun a48 hE48 => wpList_nil ?_
      clear hE40 hE41 hE42 hE43 hE44 hE46 hE47
      clear a40 a41 a42 a43 a44 a46 a47
      refine then_normal ?_
      refine wp_seq (wp_seq (wp_region_lit ?_))
      refine st_val hE48 (y_fieldAddr hE48 rfl fa39_7 rfl) rfl fun a49 hE49 => st_val hE49 (y_load_one hE49 rfl (hS45.cells (k := 0) rfl) rfl one4) rfl fun a50 hE50 => wpList_nil ?_
      clear hE48 hE49
      clear a48 a49
      refine then_normal ?_
      refine cond_split hE50 rfl (fun hb51 => ?_) (fun hb51 => ?_)
      ·
        have hM := hM.trans (if_t hb51)
        refine wp_region_lit ?_
        refine st_val hE50 (y_move hE50 rfl) rfl fun a52 hE52 => st_val hE52 (y_cat hE52 rfl rfl (cat_le (cat_sz (cat_sz (spec_Decimal_size (by first | assumption | exact I64_wrap _ | (unfold I64; omega))) (show ByteArray.size _ ≤ 7 by decide)) (spec_Decimal_size (by first | assumption | exact I64_wrap _ | (unfold I64; omega)))) (show ByteArray.size _ ≤ 2 by decide) rfl)) rfl fun a53 hE53 => st_val hE53 (y_assign hE53 rfl) rfl fun a54 hE54 => wpList_nil ?_
        clear hE50 hE52 hE53
        clear a50 a52 a53
        refine then_normal ?_
        refine wp_seq (wp_region_lit ?_)
        refine st_val hE54 (y_move hE54 rfl) rfl fun a55 hE55 => st_val hE55 (y_assign hE55 rfl) rfl fun a56 hE56 => wpList_nil ?_
        clear hE54 hE55
        clear a54 a55
        refine then_normal ?_
        refine wp_ret ?_
        exact fin1 hE56 rfl rfl ⟨by rw [hM], hS45.below⟩
      ·
        have hM := hM.trans (if_f hb51)
        refine wp_skip ?_
        refine then_normal ?_
        refine wp_seq (wp_region_lit ?_)
        refine st_val hE50 (y_move hE50 rfl) rfl fun a57 hE57 => st_val hE57 (y_assign hE57 rfl) rfl fun a58 hE58 => wpList_nil ?_
        clear hE50 hE57
        clear a50 a57
        refine then_normal ?_
        refine wp_ret ?_
        exact fin1 hE58 rfl rfl ⟨by rw [hM], hS45.below⟩
    ·
      have hM := hM.trans (if_f hb37)
      have hb37f : ¬ (p0.Kind = 2) := by simpa using hb37
      refine wp_region_lit ?_
      refine st_val hE36 (y_move hE36 rfl) rfl fun a59 hE59 => st_val hE59 (y_cat hE59 rfl rfl (cat_le (spec_Decimal_size (by first | assumption | exact I64_wrap _ | (unfold I64; omega))) (show ByteArray.size _ ≤ 3 by decide) rfl)) rfl fun a60 hE60 => st_val hE60 (y_assign hE60 rfl) rfl fun a61 hE61 => wpList_nil ?_
      clear hE36 hE59 hE60
      clear a36 a59 a60
      refine blk_normal ?_
      refine then_normal ?_
      refine wp_seq (wp_region_lit ?_)
      refine st_val hE61 (y_move hE61 rfl) rfl fun a62 hE62 => st_val hE62 (y_fieldAddr hE62 rfl fa39_3 rfl) rfl fun a63 hE63 => st_val hE63 (y_load_one hE63 rfl (hS6.cells (k := 0) rfl) rfl one36) rfl fun a64 hE64 => st_val hE64 (y_len_slice hE64 rfl sl36) rfl fun a65 hE65 => st_callF hE65 hS6 Tryd.func52 fb52 fn52 (c_spec_Decimal (p0.Steps.length : Int) (by unfold I64; omega)) rfl rfl fun w66 hS66 a67 hE67 => st_val hE67 (y_cat hE67 rfl rfl (cat_le (cat_sz (spec_Decimal_size (by first | assumption | exact I64_wrap _ | (unfold I64; omega))) (show ByteArray.size _ ≤ 3 by decide)) (spec_Decimal_size (by first | assumption | exact I64_wrap _ | (unfold I64; omega))) rfl)) rfl fun a68 hE68 => st_val hE68 (y_assign hE68 rfl) rfl fun a69 hE69 => wpList_nil ?_
      clear hE61 hE62 hE63 hE64 hE65 hE67 hE68
      clear a61 a62 a63 a64 a65 a67 a68
      refine then_normal ?_
      refine wp_seq (wp_seq (wp_region_lit ?_))
      refine st_val hE69 (y_fieldAddr hE69 rfl fa39_7 rfl) rfl fun a70 hE70 => st_val hE70 (y_load_one hE70 rfl (hS66.cells (k := 0) rfl) rfl one4) rfl fun a71 hE71 => wpList_nil ?_
      clear hE69 hE70
      clear a69 a70
      refine then_normal ?_
      refine cond_split hE71 rfl (fun hb72 => ?_) (fun hb72 => ?_)
      ·
        have hM := hM.trans (if_t hb72)
        refine wp_region_lit ?_
        refine st_val hE71 (y_move hE71 rfl) rfl fun a73 hE73 => st_val hE73 (y_cat hE73 rfl rfl (cat_le (cat_sz (cat_sz (spec_Decimal_size (by first | assumption | exact I64_wrap _ | (unfold I64; omega))) (show ByteArray.size _ ≤ 3 by decide)) (spec_Decimal_size (by first | assumption | exact I64_wrap _ | (unfold I64; omega)))) (show ByteArray.size _ ≤ 2 by decide) rfl)) rfl fun a74 hE74 => st_val hE74 (y_assign hE74 rfl) rfl fun a75 hE75 => wpList_nil ?_
        clear hE71 hE73 hE74
        clear a71 a73 a74
        refine then_normal ?_
        refine wp_seq (wp_region_lit ?_)
        refine st_val hE75 (y_move hE75 rfl) rfl fun a76 hE76 => st_val hE76 (y_assign hE76 rfl) rfl fun a77 hE77 => wpList_nil ?_
        clear hE75 hE76
        clear a75 a76
        refine then_normal ?_
        refine wp_ret ?_
        exact fin1 hE77 rfl rfl ⟨by rw [hM], hS66.below⟩
      ·
        have hM := hM.trans (if_f hb72)
        refine wp_skip ?_
        refine then_normal ?_
        refine wp_seq (wp_region_lit ?_)
        refine st_val hE71 (y_move hE71 rfl) rfl fun a78 hE78 => st_val hE78 (y_assign hE78 rfl) rfl fun a79 hE79 => wpList_nil ?_
        clear hE71 hE78
        clear a71 a78
        refine then_normal ?_
        refine wp_ret ?_
        exact fin1 hE79 rfl rfl ⟨by rw [hM], hS66.below⟩

end Go.Proofs.YtpfnofdaaekglaaDoor.Fw
