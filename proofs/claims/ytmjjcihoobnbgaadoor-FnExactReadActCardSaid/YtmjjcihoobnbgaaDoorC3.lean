/- Contracts: each call returns what the model says. By program (wip/gen). -/
import Derived.Test.YtmjjcihoobnbgaaDoorC1
namespace Go.Proofs.YtmjjcihoobnbgaaDoor.Fw
open Go.RowKit
set_option linter.unusedVariables false
set_option linter.unusedSimpArgs false

theorem cv3_5 : chkConvI Tryd.prog 3 5 .u8 = true := by kernel_rfl
theorem fb85 : Tryd.f85.body.isNone = false := rfl
theorem fb86 : Tryd.f86.body.isNone = false := rfl
theorem fn85 : (Tryd.f85.name == "runtime.NumGoroutine") = false := by kernel_rfl
theorem fn86 : (Tryd.f86.name == "runtime.NumGoroutine") = false := by kernel_rfl

/- F85 loop.example/g00974/spec.l01Figure -/
def spec_l01Figure (p0 : Int) : Int := (if (decide (p0 < 10)) = true then IntKind.u8.wrap (IntKind.i64.wrap (48 + p0)) else IntKind.u8.wrap (IntKind.i64.wrap (IntKind.i64.wrap (97 + p0) - 10)))
theorem c_spec_l01Figure (p0 : Int) {w : World}  :
    Calls Tryd.prog 85 [.int .i64 p0].toArray w (fun e w' => e = .returned (.int .u8 (spec_l01Figure p0)) ∧ Below w.heap.size w w') := by
  refine enter Tryd.func85 rfl Tryd.ntmps85 (Nat.le_of_ble_eq_true rfl) ?_
  intro a0 hE0
  have hS0 := SH.start w
  have hM := spec_l01Figure.eq_1 p0
  refine wp_seq (wp_region_lit ?_)
  refine st_val hE0 (y_assign hE0 rfl) rfl fun a1 hE1 => wpList_nil ?_
  clear hE0
  clear a0
  refine then_normal ?_
  refine wp_seq (wp_seq (wp_region_lit ?_))
  refine st_val hE1 (y_move hE1 rfl) rfl fun a2 hE2 => st_val hE2 (y_lss hE2 rfl rfl) rfl fun a3 hE3 => wpList_nil ?_
  clear hE1 hE2
  clear a1 a2
  refine then_normal ?_
  refine cond_split hE3 rfl (fun hb4 => ?_) (fun hb4 => ?_)
  ·
    have hM := hM.trans (if_t hb4)
    have hb4f : p0 < 10 := of_decide_eq_true hb4
    refine wp_seq (wp_region_lit ?_)
    refine st_val hE3 (y_move hE3 rfl) rfl fun a5 hE5 => st_val hE5 (y_add hE5 rfl rfl) rfl fun a6 hE6 => st_val hE6 (y_convI hE6 rfl cv3_5) rfl fun a7 hE7 => st_val hE7 (y_assign hE7 rfl) rfl fun a8 hE8 => wpList_nil ?_
    clear hE3 hE5 hE6 hE7
    clear a3 a5 a6 a7
    refine then_normal ?_
    refine wp_ret ?_
    refine then_ret ?_
    exact fin1 hE8 rfl rfl ⟨by rw [hM], hS0.below⟩
  ·
    have hM := hM.trans (if_f hb4)
    have hb4f : ¬ (p0 < 10) := of_decide_eq_false hb4
    refine wp_skip ?_
    refine then_normal ?_
    refine wp_seq (wp_region_lit ?_)
    refine st_val hE3 (y_move hE3 rfl) rfl fun a9 hE9 => st_val hE9 (y_add hE9 rfl rfl) rfl fun a10 hE10 => st_val hE10 (y_sub hE10 rfl rfl) rfl fun a11 hE11 => st_val hE11 (y_convI hE11 rfl cv3_5) rfl fun a12 hE12 => st_val hE12 (y_assign hE12 rfl) rfl fun a13 hE13 => wpList_nil ?_
    clear hE3 hE9 hE10 hE11 hE12
    clear a3 a9 a10 a11 a12
    refine then_normal ?_
    refine wp_ret ?_
    exact fin1 hE13 rfl rfl ⟨by rw [hM], hS0.below⟩

/- F56 loop.example/g00974/spec.Decimal -/
def spec_Decimal_l1_after (p0 : Int) (s1_0 : Int) (s1_4 : ByteArray) : ByteArray := (if (decide (p0 < 0)) = true then ((⟨#[45]⟩ : ByteArray) ++ s1_4) else s1_4)
def spec_Decimal_l1 (p0 : Int) : Nat → Int → ByteArray → ByteArray
  | 0, s1_0, s1_4 => spec_Decimal_l1_after p0 s1_0 s1_4
  | fu1 + 1, s1_0, s1_4 => if (!decide (s1_0 = 0)) = true then (if (decide (Int.tmod s1_0 10 < 0)) = true then spec_Decimal_l1 p0 fu1 (IntKind.i64.wrap (Int.tdiv s1_0 10)) ((strOfNums [(spec_l01Figure (IntKind.i64.wrap (-(Int.tmod s1_0 10))))]) ++ s1_4) else spec_Decimal_l1 p0 fu1 (IntKind.i64.wrap (Int.tdiv s1_0 10)) ((strOfNums [(spec_l01Figure (Int.tmod s1_0 10))]) ++ s1_4)) else spec_Decimal_l1_after p0 s1_0 s1_4
def spec_Decimal (p0 : Int) : ByteArray := (if (decide (p0 = 0)) = true then (⟨#[48]⟩ : ByteArray) else spec_Decimal_l1 p0 (p0.natAbs) p0 (⟨#[]⟩ : ByteArray))
theorem c_spec_Decimal (p0 : Int) {w : World} (hi0 : I64 p0) :
    Calls Tryd.prog 56 [.int .i64 p0].toArray w (fun e w' => e = .returned (.string (spec_Decimal p0)) ∧ Below w.heap.size w w') := by
  refine enter Tryd.func56 rfl Tryd.ntmps56 (Nat.le_of_ble_eq_true rfl) ?_
  intro a0 hE0
  have hS0 := SH.start w
  have hM := spec_Decimal.eq_1 p0
  have hij0 : -9223372036854775808 ≤ p0 ∧ p0 ≤ 9223372036854775807 := hi0
  refine wp_seq (wp_region_lit ?_)
  refine st_val hE0 (y_assign hE0 rfl) rfl fun a1 hE1 => wpList_nil ?_
  clear hE0
  clear a0
  refine then_normal ?_
  refine wp_seq (wp_seq (wp_region_lit ?_))
  refine st_val hE1 (y_move hE1 rfl) rfl fun a2 hE2 => st_val hE2 (y_eql hE2 rfl rfl) rfl fun a3 hE3 => wpList_nil ?_
  clear hE1 hE2
  clear a1 a2
  refine then_normal ?_
  refine cond_split hE3 rfl (fun hb4 => ?_) (fun hb4 => ?_)
  ·
    have hM := hM.trans (if_t hb4)
    have hb4f : p0 = 0 := by simpa using hb4
    refine wp_seq (wp_region_lit ?_)
    refine st_val hE3 (y_assign hE3 rfl) rfl fun a5 hE5 => wpList_nil ?_
    clear hE3
    clear a3
    refine then_normal ?_
    refine wp_ret ?_
    refine then_ret ?_
    exact fin1 hE5 rfl rfl ⟨by rw [hM], hS0.below⟩
  ·
    have hM := hM.trans (if_f hb4)
    have hb4f : ¬ (p0 = 0) := by simpa using hb4
    refine wp_skip ?_
    refine then_normal ?_
    refine wp_seq (wp_region_lit ?_)
    refine st_val hE3 (y_move hE3 rfl) rfl fun a6 hE6 => st_val hE6 (y_lss hE6 rfl rfl) rfl fun a7 hE7 => st_val hE7 (y_assign hE7 rfl) rfl fun a8 hE8 => wpList_nil ?_
    clear hE3 hE6 hE7
    clear a3 a6 a7
    refine then_normal ?_
    refine wp_seq (wp_region_lit ?_)
    refine st_val hE8 (y_assign hE8 rfl) rfl fun a9 hE9 => wpList_nil ?_
    clear hE8
    clear a8
    refine then_normal ?_
    refine wp_seq (wp_block (wp_loop_ghost (fun fu1 a w2 => ∃ (s1_0 : Int) (s1_4 : ByteArray), s1_0.natAbs ≤ fu1 ∧ dig s1_4.size (s1_0.natAbs : Int) ∧ I64 s1_0 ∧ spec_Decimal p0 = spec_Decimal_l1 p0 fu1 s1_0 s1_4 ∧ Env 30 [(0, .int .i64 s1_0), (3, .bool (decide (p0 < 0))), (4, .string s1_4)] a ∧ SH (Old w) w w2 []) (p0.natAbs) ⟨p0, (⟨#[]⟩ : ByteArray), Nat.le_refl _, (show dig 0 _ from ⟨by omega, by simp; omega⟩), hi0, hM, hE9.weaken ⟨rfl, rfl, rfl, trivial⟩, hS0⟩ ?_))
    clear hM hE9
    rintro fu1 a10 w10 ⟨s1_0, s1_4, hme1, hin1_0, hgis1_0, hM, hE10, hS10⟩
    have hgjs1_0 : -9223372036854775808 ≤ s1_0 ∧ s1_0 ≤ 9223372036854775807 := hgis1_0
    refine wp_seq (wp_seq (wp_region_lit ?_))
    refine st_val hE10 (y_move hE10 rfl) rfl fun a11 hE11 => st_val hE11 (y_neq hE11 rfl rfl) rfl fun a12 hE12 => wpList_nil ?_
    clear hE10 hE11
    clear a10 a11
    refine then_normal ?_
    refine cond_split hE12 rfl (fun hb13 => ?_) (fun hb13 => ?_)
    ·
      have hb13f : ¬ (s1_0 = 0) := by simpa using hb13
      obtain ⟨fu1, rfl⟩ : ∃ m, fu1 = m + 1 := ⟨fu1 - 1, by omega⟩
      have hM := hM.trans ((spec_Decimal_l1.eq_2 _ _ _ _).trans (if_t hb13))
      refine wp_skip ?_
      refine then_normal ?_
      refine wp_block (wp_seq (wp_region_lit ?_))
      refine st_val hE12 (y_move hE12 rfl) rfl fun a14 hE14 => st_val hE14 (y_rem hE14 rfl rfl (by decide)) rfl fun a15 hE15 => st_val hE15 (y_assign hE15 rfl) rfl fun a16 hE16 => wpList_nil ?_
      clear hE12 hE14 hE15
      clear a12 a14 a15
      refine then_normal ?_
      refine wp_seq (wp_seq (wp_region_lit ?_))
      refine st_val hE16 (y_move hE16 rfl) rfl fun a17 hE17 => st_val hE17 (y_lss hE17 rfl rfl) rfl fun a18 hE18 => wpList_nil ?_
      clear hE16 hE17
      clear a16 a17
      refine then_normal ?_
      refine cond_split hE18 rfl (fun hb19 => ?_) (fun hb19 => ?_)
      ·
        have hM := hM.trans (if_t hb19)
        have hb19f : Int.tmod s1_0 10 < 0 := of_decide_eq_true hb19
        refine wp_region_lit ?_
        refine st_val hE18 (y_move hE18 rfl) rfl fun a20 hE20 => st_val hE20 (y_neg hE20 rfl) rfl fun a21 hE21 => st_val hE21 (y_assign hE21 rfl) rfl fun a22 hE22 => wpList_nil ?_
        clear hE18 hE20 hE21
        clear a18 a20 a21
        refine then_normal ?_
        refine wp_seq (wp_region_lit ?_)
        refine st_val hE22 (y_move hE22 rfl) rfl fun a23 hE23 => st_callF hE23 hS10 Tryd.func85 fb85 fn85 (c_spec_l01Figure (IntKind.i64.wrap (-(Int.tmod s1_0 10)))) rfl rfl fun w24 hS24 a25 hE25 => st_lit (is := [0]) (vs := [.int .u8 (spec_l01Figure (IntKind.i64.wrap (-(Int.tmod s1_0 10))))]) (cs := [.int .u8 (spec_l01Figure (IntKind.i64.wrap (-(Int.tmod s1_0 10))))]) (e := 5) hE25 hS24 rfl rfl (by kernel_rfl) rfl fun b26 w26 hS26 a27 hE27 => st_val hE27 (y_bytesStr (xs := [(spec_l01Figure (IntKind.i64.wrap (-(Int.tmod s1_0 10))))]) hE27 rfl Tryd.underlying22 Tryd.underlying5 Tryd.underlying9 rfl (hS26.cells (k := 0) rfl)) rfl fun a28 hE28 => st_val hE28 (y_move hE28 rfl) rfl fun a29 hE29 => st_val hE29 (y_cat hE29 rfl rfl (by have h := hin1_0.1; first | omega | (rw [strOfNums_size]; simp only [List.length]; omega) | (show 1 + _ ≤ _; omega))) rfl fun a30 hE30 => st_val hE30 (y_assign hE30 rfl) rfl fun a31 hE31 => wpList_nil ?_
        clear hE22 hE23 hE25 hE27 hE28 hE29 hE30
        clear a22 a23 a25 a27 a28 a29 a30
        refine then_normal ?_
        refine wp_region_lit ?_
        refine st_val hE31 (y_move hE31 rfl) rfl fun a32 hE32 => st_val hE32 (y_quo hE32 rfl rfl (by decide)) rfl fun a33 hE33 => st_val hE33 (y_assign hE33 rfl) rfl fun a34 hE34 => wpList_nil ?_
        clear hE31 hE32 hE33
        clear a31 a32 a33
        refine blk_normal ?_
        refine then_normal ⟨fu1, Nat.lt_succ_self _, IntKind.i64.wrap (Int.tdiv s1_0 10), ((strOfNums [(spec_l01Figure (IntKind.i64.wrap (-(Int.tmod s1_0 10))))]) ++ s1_4), (by rw [quo10_abs (by assumption)]; omega), (by rw [quo10_abs (by assumption), ByteArray.size_append, strOfNums_size]; show dig (1 + _) _; rw [Nat.add_comm]; exact dig_step hin1_0 (by omega)), (I64_wrap _), hM, hE34.weaken ⟨rfl, rfl, rfl, trivial⟩, (hS26.drop (k := 1))⟩
      ·
        have hM := hM.trans (if_f hb19)
        have hb19f : ¬ (Int.tmod s1_0 10 < 0) := of_decide_eq_false hb19
        refine wp_skip ?_
        refine then_normal ?_
        refine wp_seq (wp_region_lit ?_)
        refine st_val hE18 (y_move hE18 rfl) rfl fun a35 hE35 => st_callF hE35 hS10 Tryd.func85 fb85 fn85 (c_spec_l01Figure (Int.tmod s1_0 10)) rfl rfl fun w36 hS36 a37 hE37 => st_lit (is := [0]) (vs := [.int .u8 (spec_l01Figure (Int.tmod s1_0 10))]) (cs := [.int .u8 (spec_l01Figure (Int.tmod s1_0 10))]) (e := 5) hE37 hS36 rfl rfl (by kernel_rfl) rfl fun b38 w38 hS38 a39 hE39 => st_val hE39 (y_bytesStr (xs := [(spec_l01Figure (Int.tmod s1_0 10))]) hE39 rfl Tryd.underlying22 Tryd.underlying5 Tryd.underlying9 rfl (hS38.cells (k := 0) rfl)) rfl fun a40 hE40 => st_val hE40 (y_move hE40 rfl) rfl fun a41 hE41 => st_val hE41 (y_cat hE41 rfl rfl (by have h := hin1_0.1; first | omega | (rw [strOfNums_size]; simp only [List.length]; omega) | (show 1 + _ ≤ _; omega))) rfl fun a42 hE42 => st_val hE42 (y_assign hE42 rfl) rfl fun a43 hE43 => wpList_nil ?_
        clear hE18 hE35 hE37 hE39 hE40 hE41 hE42
        clear a18 a35 a37 a39 a40 a41 a42
        refine then_normal ?_
        refine wp_region_lit ?_
        refine st_val hE43 (y_move hE43 rfl) rfl fun a44 hE44 => st_val hE44 (y_quo hE44 rfl rfl (by decide)) rfl fun a45 hE45 => st_val hE45 (y_assign hE45 rfl) rfl fun a46 hE46 => wpList_nil ?_
        clear hE43 hE44 hE45
        clear a43 a44 a45
        refine blk_normal ?_
        refine then_normal ⟨fu1, Nat.lt_succ_self _, IntKind.i64.wrap (Int.tdiv s1_0 10), ((strOfNums [(spec_l01Figure (Int.tmod s1_0 10))]) ++ s1_4), (by rw [quo10_abs (by assumption)]; omega), (by rw [quo10_abs (by assumption), ByteArray.size_append, strOfNums_size]; show dig (1 + _) _; rw [Nat.add_comm]; exact dig_step hin1_0 (by omega)), (I64_wrap _), hM, hE46.weaken ⟨rfl, rfl, rfl, trivial⟩, (hS38.drop (k := 1))⟩
    ·
      have hb13f : s1_0 = 0 := by simpa using hb13
      have hM := hM.trans (show spec_Decimal_l1 p0 fu1 s1_0 s1_4 = spec_Decimal_l1_after p0 s1_0 s1_4 from by cases fu1 with | zero => exact spec_Decimal_l1.eq_1 _ _ _ | succ m => exact (spec_Decimal_l1.eq_2 _ _ _ _).trans (if_f hb13))
      have hM := hM.trans (spec_Decimal_l1_after.eq_1 _ _ _)
      refine wp_exit ?_
      refine then_exit ?_
      refine then_exit ?_
      refine blk_exit ?_
      refine then_normal ?_
      refine wp_seq (wp_seq (wp_region_lit ?_))
      refine st_val hE12 (y_move hE12 rfl) rfl fun a47 hE47 => wpList_nil ?_
      clear hE12
      clear a12
      refine then_normal ?_
      refine cond_split hE47 rfl (fun hb48 => ?_) (fun hb48 => ?_)
      ·
        have hM := hM.trans (if_t hb48)
        have hb48f : p0 < 0 := of_decide_eq_true hb48
        refine wp_seq (wp_region_lit ?_)
        refine st_val hE47 (y_move hE47 rfl) rfl fun a49 hE49 => st_val hE49 (y_cat hE49 rfl rfl (by have h := hin1_0.1; first | omega | (rw [strOfNums_size]; simp only [List.length]; omega) | (show 1 + _ ≤ _; omega))) rfl fun a50 hE50 => st_val hE50 (y_assign hE50 rfl) rfl fun a51 hE51 => wpList_nil ?_
        clear hE47 hE49 hE50
        clear a47 a49 a50
        refine then_normal ?_
        refine wp_ret ?_
        refine then_ret ?_
        exact fin1 hE51 rfl rfl ⟨by rw [hM], hS10.below⟩
      ·
        have hM := hM.trans (if_f hb48)
        have hb48f : ¬ (p0 < 0) := of_decide_eq_false hb48
        refine wp_skip ?_
        refine then_normal ?_
        refine wp_seq (wp_region_lit ?_)
        refine st_val hE47 (y_move hE47 rfl) rfl fun a52 hE52 => st_val hE52 (y_assign hE52 rfl) rfl fun a53 hE53 => wpList_nil ?_
        clear hE47 hE52
        clear a47 a52
        refine then_normal ?_
        refine wp_ret ?_
        exact fin1 hE53 rfl rfl ⟨by rw [hM], hS10.below⟩

/- F61 loop.example/g00974/impl.Decimal -/
def impl_Decimal (p0 : Int) : ByteArray := (strconv_Itoa p0)
theorem c_impl_Decimal (p0 : Int) {w : World} (hi0 : I64 p0) (hG7 : GV 7 (gl7.map (Value.int .u64)) w) :
    Calls Tryd.prog 61 [.int .i64 p0].toArray w (fun e w' => e = .returned (.string (impl_Decimal p0)) ∧ Below w.heap.size w w') := by
  refine enter Tryd.func61 rfl Tryd.ntmps61 (Nat.le_of_ble_eq_true rfl) ?_
  intro a0 hE0
  have hS0 := SH.start w
  have hM := impl_Decimal.eq_1 p0
  have hij0 : -9223372036854775808 ≤ p0 ∧ p0 ≤ 9223372036854775807 := hi0
  refine wp_seq (wp_region_lit ?_)
  refine st_val hE0 (y_assign hE0 rfl) rfl fun a1 hE1 => wpList_nil ?_
  clear hE0
  clear a0
  refine then_normal ?_
  refine wp_seq (wp_region_lit ?_)
  refine st_val hE1 (y_move hE1 rfl) rfl fun a2 hE2 => st_callF hE2 hS0 Tryd.func86 fb86 fn86 (c_strconv_Itoa p0 hi0 (GV.sh hS0 hG7)) rfl rfl fun w3 hS3 a4 hE4 => st_val hE4 (y_assign hE4 rfl) rfl fun a5 hE5 => wpList_nil ?_
  clear hE1 hE2 hE4
  clear a1 a2 a4
  refine then_normal ?_
  refine wp_ret ?_
  exact fin1 hE5 rfl rfl ⟨by rw [hM], hS3.below⟩

end Go.Proofs.YtmjjcihoobnbgaaDoor.Fw
