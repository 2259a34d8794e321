/- Contracts: each call returns what the model says. By program (wip/gen). -/
import Derived.Test.YtpfnofdaaekglaaC1
namespace Go.Proofs.Ytpfnofdaaekglaa.Fw
open Go.RowKit
set_option linter.unusedVariables false
set_option linter.unusedSimpArgs false

theorem arr65 : chkArr Try.prog 65 6 9 = true := by kernel_rfl
theorem fb34 : Try.f34.body.isNone = false := rfl
theorem fb35 : Try.f35.body.isNone = false := rfl
theorem fn34 : (Try.f34.name == "runtime.NumGoroutine") = false := by kernel_rfl
theorem fn35 : (Try.f35.name == "runtime.NumGoroutine") = false := by kernel_rfl
theorem sl38 : chkSlice Try.prog 38 9 1 16 = true := by kernel_rfl

/- F10 loop.example/g00974/impl.CodeName -/
def impl_CodeName (p0 : Int) : ByteArray := (if (decide (p0 = 20)) = true then (⟨#[119, 97, 105, 116]⟩ : ByteArray) else (if (decide (p0 = 21)) = true then (⟨#[103, 111, 110, 101]⟩ : ByteArray) else (if (!(impl_within p0 0 5)) = true then (⟨#[63]⟩ : ByteArray) else (nth ([(⟨#[111, 107]⟩ : ByteArray), (⟨#[116, 104, 101, 114, 101]⟩ : ByteArray), (⟨#[110, 111, 110, 101]⟩ : ByteArray), (⟨#[102, 117, 108, 108]⟩ : ByteArray), (⟨#[98, 97, 100]⟩ : ByteArray), (⟨#[97, 103, 97, 105, 110]⟩ : ByteArray)]) ((p0).toNat)))))
theorem c_impl_CodeName (p0 : Int) {w : World}  :
    Calls Try.prog 10 [.int .i64 p0].toArray w (fun e w' => e = .returned (.string (impl_CodeName p0)) ∧ Below w.heap.size w w') := by
  refine enter Try.func10 rfl Try.ntmps10 (Nat.le_of_ble_eq_true rfl) ?_
  intro a0 hE0
  have hS0 := SH.start w
  have hM := impl_CodeName.eq_1 p0
  refine wp_seq (wp_region_lit ?_)
  refine st_val hE0 (y_assign hE0 rfl) rfl fun a1 hE1 => wpList_nil ?_
  clear hE0
  clear a0
  refine then_normal ?_
  refine wp_seq (wp_seq (wp_region_lit ?_))
  refine st_val hE1 (y_move hE1 rfl) rfl fun a2 hE2 => wpList_nil ?_
  clear hE1
  clear a1
  refine then_normal ?_
  refine wp_block (wp_seq (wp_region_lit ?_))
  refine st_val hE2 (y_eql hE2 rfl rfl) rfl fun a3 hE3 => st_val hE3 (y_assign hE3 rfl) rfl fun a4 hE4 => wpList_nil ?_
  clear hE2 hE3
  clear a2 a3
  refine then_normal ?_
  refine cond_split hE4 rfl (fun hb5 => ?_) (fun hb5 => ?_)
  ·
    have hM := hM.trans (if_t hb5)
    have hb5f : p0 = 20 := by simpa using hb5
    refine wp_seq (wp_region_lit ?_)
    refine st_val hE4 (y_assign hE4 rfl) rfl fun a6 hE6 => wpList_nil ?_
    clear hE4
    clear a4
    refine then_normal ?_
    refine wp_ret ?_
    refine blk_ret ?_
    refine then_ret ?_
    exact fin1 hE6 rfl rfl ⟨by rw [hM], hS0.below⟩
  ·
    have hM := hM.trans (if_f hb5)
    have hb5f : ¬ (p0 = 20) := by simpa using hb5
    refine wp_seq (wp_region_lit ?_)
    refine st_val hE4 (y_eql hE4 rfl rfl) rfl fun a7 hE7 => st_val hE7 (y_assign hE7 rfl) rfl fun a8 hE8 => wpList_nil ?_
    clear hE4 hE7
    clear a4 a7
    refine then_normal ?_
    refine cond_split hE8 rfl (fun hb9 => ?_) (fun hb9 => ?_)
    ·
      have hM := hM.trans (if_t hb9)
      have hb9f : p0 = 21 := by simpa using hb9
      refine wp_seq (wp_region_lit ?_)
      refine st_val hE8 (y_assign hE8 rfl) rfl fun a10 hE10 => wpList_nil ?_
      clear hE8
      clear a8
      refine then_normal ?_
      refine wp_ret ?_
      refine blk_ret ?_
      refine then_ret ?_
      exact fin1 hE10 rfl rfl ⟨by rw [hM], hS0.below⟩
    ·
      have hM := hM.trans (if_f hb9)
      have hb9f : ¬ (p0 = 21) := by simpa using hb9
      refine wp_skip ?_
      refine blk_normal ?_
      refine then_normal ?_
      refine wp_seq (wp_seq (wp_region_lit ?_))
      refine st_val hE8 (y_move hE8 rfl) rfl fun a11 hE11 => st_callF hE11 hS0 Try.func35 fb35 fn35 (c_impl_within p0 0 5) rfl rfl fun w12 hS12 a13 hE13 => st_val hE13 (y_not hE13 rfl) rfl fun a14 hE14 => wpList_nil ?_
      clear hE8 hE11 hE13
      clear a8 a11 a13
      refine then_normal ?_
      refine cond_split hE14 rfl (fun hb15 => ?_) (fun hb15 => ?_)
      ·
        have hM := hM.trans (if_t hb15)
        refine wp_seq (wp_region_lit ?_)
        refine st_val hE14 (y_assign hE14 rfl) rfl fun a16 hE16 => wpList_nil ?_
        clear hE14
        clear a14
        refine then_normal ?_
        refine wp_ret ?_
        refine then_ret ?_
        exact fin1 hE16 rfl rfl ⟨by rw [hM], hS12.below⟩
      ·
        have hM := hM.trans (if_f hb15)
        have hb15f := impl_within_t (by simpa using hb15)
        refine wp_skip ?_
        refine then_normal ?_
        refine wp_seq (wp_region_lit ?_)
        refine st_val hE14 (y_build (is := [0, 1, 2, 3, 4, 5]) (vs := [.string (⟨#[111, 107]⟩ : ByteArray), .string (⟨#[116, 104, 101, 114, 101]⟩ : ByteArray), .string (⟨#[110, 111, 110, 101]⟩ : ByteArray), .string (⟨#[102, 117, 108, 108]⟩ : ByteArray), .string (⟨#[98, 97, 100]⟩ : ByteArray), .string (⟨#[97, 103, 97, 105, 110]⟩ : ByteArray)]) (v := .agg [.string (⟨#[111, 107]⟩ : ByteArray), .string (⟨#[116, 104, 101, 114, 101]⟩ : ByteArray), .string (⟨#[110, 111, 110, 101]⟩ : ByteArray), .string (⟨#[102, 117, 108, 108]⟩ : ByteArray), .string (⟨#[98, 97, 100]⟩ : ByteArray), .string (⟨#[97, 103, 97, 105, 110]⟩ : ByteArray)].toArray) hE14 rfl rfl (by kernel_rfl)) rfl fun a17 hE17 => st_val hE17 (y_move hE17 rfl) rfl fun a18 hE18 => st_val hE18 (y_index_arr (k := ((p0).toNat)) (xs := [(⟨#[111, 107]⟩ : ByteArray), (⟨#[116, 104, 101, 114, 101]⟩ : ByteArray), (⟨#[110, 111, 110, 101]⟩ : ByteArray), (⟨#[102, 117, 108, 108]⟩ : ByteArray), (⟨#[98, 97, 100]⟩ : ByteArray), (⟨#[97, 103, 97, 105, 110]⟩ : ByteArray)]) Value.string hE18 rfl rfl rfl (by omega) (by simp only [List.length]; omega) arr65 rfl) rfl fun a20 hE20 => st_val hE20 (y_assign hE20 rfl) rfl fun a21 hE21 => wpList_nil ?_
        clear hE14 hE17 hE18 hE20
        clear a14 a17 a18 a20
        refine then_normal ?_
        refine wp_ret ?_
        exact fin1 hE21 rfl rfl ⟨by rw [hM], hS12.below⟩

/- F9 loop.example/g00974/spec.CodeName -/
def spec_CodeName (p0 : Int) : ByteArray := (if (decide (p0 = 20)) = true then (⟨#[119, 97, 105, 116]⟩ : ByteArray) else (if (decide (p0 = 21)) = true then (⟨#[103, 111, 110, 101]⟩ : ByteArray) else (if (!(spec_l01In p0 0 5)) = true then (⟨#[63]⟩ : ByteArray) else (nth ([(⟨#[111, 107]⟩ : ByteArray), (⟨#[116, 104, 101, 114, 101]⟩ : ByteArray), (⟨#[110, 111, 110, 101]⟩ : ByteArray), (⟨#[102, 117, 108, 108]⟩ : ByteArray), (⟨#[98, 97, 100]⟩ : ByteArray), (⟨#[97, 103, 97, 105, 110]⟩ : ByteArray)]) ((p0).toNat)))))
theorem c_spec_CodeName (p0 : Int) {w : World}  :
    Calls Try.prog 9 [.int .i64 p0].toArray w (fun e w' => e = .returned (.string (spec_CodeName p0)) ∧ Below w.heap.size w w') := by
  refine enter Try.func9 rfl Try.ntmps9 (Nat.le_of_ble_eq_true rfl) ?_
  intro a0 hE0
  have hS0 := SH.start w
  have hM := spec_CodeName.eq_1 p0
  refine wp_seq (wp_region_lit ?_)
  refine st_val hE0 (y_assign hE0 rfl) rfl fun a1 hE1 => wpList_nil ?_
  clear hE0
  clear a0
  refine then_normal ?_
  refine wp_seq (wp_block (wp_seq (wp_region_lit ?_)))
  refine st_val hE1 (y_move hE1 rfl) rfl fun a2 hE2 => st_val hE2 (y_eql hE2 rfl rfl) rfl fun a3 hE3 => st_val hE3 (y_assign hE3 rfl) rfl fun a4 hE4 => wpList_nil ?_
  clear hE1 hE2 hE3
  clear a1 a2 a3
  refine then_normal ?_
  refine cond_split hE4 rfl (fun hb5 => ?_) (fun hb5 => ?_)
  ·
    have hM := hM.trans (if_t hb5)
    have hb5f : p0 = 20 := by simpa using hb5
    refine wp_seq (wp_region_lit ?_)
    refine st_val hE4 (y_assign hE4 rfl) rfl fun a6 hE6 => wpList_nil ?_
    clear hE4
    clear a4
    refine then_normal ?_
    refine wp_ret ?_
    refine blk_ret ?_
    refine then_ret ?_
    exact fin1 hE6 rfl rfl ⟨by rw [hM], hS0.below⟩
  ·
    have hM := hM.trans (if_f hb5)
    have hb5f : ¬ (p0 = 20) := by simpa using hb5
    refine wp_seq (wp_region_lit ?_)
    refine st_val hE4 (y_move hE4 rfl) rfl fun a7 hE7 => st_val hE7 (y_eql hE7 rfl rfl) rfl fun a8 hE8 => st_val hE8 (y_assign hE8 rfl) rfl fun a9 hE9 => wpList_nil ?_
    clear hE4 hE7 hE8
    clear a4 a7 a8
    refine then_normal ?_
    refine cond_split hE9 rfl (fun hb10 => ?_) (fun hb10 => ?_)
    ·
      have hM := hM.trans (if_t hb10)
      have hb10f : p0 = 21 := by simpa using hb10
      refine wp_seq (wp_region_lit ?_)
      refine st_val hE9 (y_assign hE9 rfl) rfl fun a11 hE11 => wpList_nil ?_
      clear hE9
      clear a9
      refine then_normal ?_
      refine wp_ret ?_
      refine blk_ret ?_
      refine then_ret ?_
      exact fin1 hE11 rfl rfl ⟨by rw [hM], hS0.below⟩
    ·
      have hM := hM.trans (if_f hb10)
      have hb10f : ¬ (p0 = 21) := by simpa using hb10
      refine wp_seq (wp_region_lit ?_)
      refine st_val hE9 (y_move hE9 rfl) rfl fun a12 hE12 => st_callF hE12 hS0 Try.func34 fb34 fn34 (c_spec_l01In p0 0 5) rfl rfl fun w13 hS13 a14 hE14 => st_val hE14 (y_not hE14 rfl) rfl fun a15 hE15 => st_val hE15 (y_assign hE15 rfl) rfl fun a16 hE16 => wpList_nil ?_
      clear hE9 hE12 hE14 hE15
      clear a9 a12 a14 a15
      refine then_normal ?_
      refine cond_split hE16 rfl (fun hb17 => ?_) (fun hb17 => ?_)
      ·
        have hM := hM.trans (if_t hb17)
        refine wp_seq (wp_region_lit ?_)
        refine st_val hE16 (y_assign hE16 rfl) rfl fun a18 hE18 => wpList_nil ?_
        clear hE16
        clear a16
        refine then_normal ?_
        refine wp_ret ?_
        refine blk_ret ?_
        refine then_ret ?_
        exact fin1 hE18 rfl rfl ⟨by rw [hM], hS13.below⟩
      ·
        have hM := hM.trans (if_f hb17)
        have hb17f := spec_l01In_t (by simpa using hb17)
        refine wp_skip ?_
        refine blk_normal ?_
        refine then_normal ?_
        refine wp_seq (wp_region_lit ?_)
        refine st_buildSlice (α := ByteArray) (is := [0, 1, 2, 3, 4, 5]) (vs := [.string (⟨#[111, 107]⟩ : ByteArray), .string (⟨#[116, 104, 101, 114, 101]⟩ : ByteArray), .string (⟨#[110, 111, 110, 101]⟩ : ByteArray), .string (⟨#[102, 117, 108, 108]⟩ : ByteArray), .string (⟨#[98, 97, 100]⟩ : ByteArray), .string (⟨#[97, 103, 97, 105, 110]⟩ : ByteArray)]) (cs := [.string (⟨#[111, 107]⟩ : ByteArray), .string (⟨#[116, 104, 101, 114, 101]⟩ : ByteArray), .string (⟨#[110, 111, 110, 101]⟩ : ByteArray), .string (⟨#[102, 117, 108, 108]⟩ : ByteArray), .string (⟨#[98, 97, 100]⟩ : ByteArray), .string (⟨#[97, 103, 97, 105, 110]⟩ : ByteArray)]) (ys := [(⟨#[111, 107]⟩ : ByteArray), (⟨#[116, 104, 101, 114, 101]⟩ : ByteArray), (⟨#[110, 111, 110, 101]⟩ : ByteArray), (⟨#[102, 117, 108, 108]⟩ : ByteArray), (⟨#[98, 97, 100]⟩ : ByteArray), (⟨#[97, 103, 97, 105, 110]⟩ : ByteArray)]) (e := 9) hE16 hS13 rfl rfl (by kernel_rfl) rfl rfl (by decide) (fun _ i y h => match i, y, h with | 0, _, h => (by cases h; exact ⟨⟨rfl, (by decide)⟩, rfl⟩) | 1, _, h => (by cases h; exact ⟨⟨rfl, (by decide)⟩, rfl⟩) | 2, _, h => (by cases h; exact ⟨⟨rfl, (by decide)⟩, rfl⟩) | 3, _, h => (by cases h; exact ⟨⟨rfl, (by decide)⟩, rfl⟩) | 4, _, h => (by cases h; exact ⟨⟨rfl, (by decide)⟩, rfl⟩) | 5, _, h => (by cases h; exact ⟨⟨rfl, (by decide)⟩, rfl⟩) | j + 6, _, h => (by simp at h)) rfl fun b19 w19 hS19 a20 hE20 => st_val hE20 (y_move hE20 rfl) rfl fun a21 hE21 => st_index (k := ((p0).toNat)) hE21 (hS19.ownl (k := 0) rfl) rfl rfl (by omega) (by simp only [List.length]; omega) sl38 rfl fun ad22 cs22 hr22 hc22 hl22 a23 hE23 => ?_
        obtain ⟨rfl, hg22⟩ := hr22
        refine st_val hE23 (y_load_one hE23 rfl hc22 rfl one9) rfl fun a24 hE24 => st_val hE24 (y_assign hE24 rfl) rfl fun a25 hE25 => wpList_nil ?_
        clear hE16 hE20 hE21 hE23 hE24
        clear a16 a20 a21 a23 a24
        refine then_normal ?_
        refine wp_ret ?_
        exact fin1 hE25 rfl rfl ⟨by rw [hM], hS19.below⟩

end Go.Proofs.Ytpfnofdaaekglaa.Fw
