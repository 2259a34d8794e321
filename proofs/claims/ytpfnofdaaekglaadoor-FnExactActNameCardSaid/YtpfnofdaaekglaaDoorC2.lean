/- Contracts: each call returns what the model says. By program (wip/gen). -/
import Derived.Test.YtpfnofdaaekglaaDoorC1
namespace Go.Proofs.YtpfnofdaaekglaaDoor.Fw
open Go.RowKit
set_option linter.unusedVariables false
set_option linter.unusedSimpArgs false

theorem arr82 : chkArr Tryd.prog 82 12 9 = true := by kernel_rfl
theorem fb41 : Tryd.f41.body.isNone = false := rfl
theorem fb42 : Tryd.f42.body.isNone = false := rfl
theorem fn41 : (Tryd.f41.name == "runtime.NumGoroutine") = false := by kernel_rfl
theorem fn42 : (Tryd.f42.name == "runtime.NumGoroutine") = false := by kernel_rfl
theorem one9 : chkOne Tryd.prog 9 = true := by kernel_rfl
theorem sl57 : chkSlice Tryd.prog 57 9 1 16 = true := by kernel_rfl

/- F11 loop.example/g00974/impl.ActName -/
def impl_ActName (p0 : Int) : ByteArray := (if (!(impl_within p0 1 12)) = true then (⟨#[63]⟩ : ByteArray) else (nth gl0 ((p0 - 1).toNat)))
theorem c_impl_ActName (p0 : Int) {w : World} (hG0 : GV 0 (gl0.map Value.string) w) :
    Calls Tryd.prog 11 [.int .i64 p0].toArray w (fun e w' => e = .returned (.string (impl_ActName p0)) ∧ Below w.heap.size w w') := by
  refine enter Tryd.func11 rfl Tryd.ntmps11 (Nat.le_of_ble_eq_true rfl) ?_
  intro a0 hE0
  have hS0 := SH.start w
  have hM := impl_ActName.eq_1 p0
  refine wp_seq (wp_region_lit ?_)
  refine st_val hE0 (y_assign hE0 rfl) rfl fun a1 hE1 => wpList_nil ?_
  clear hE0
  clear a0
  refine then_normal ?_
  refine wp_seq (wp_seq (wp_region_lit ?_))
  refine st_val hE1 (y_move hE1 rfl) rfl fun a2 hE2 => st_callF hE2 hS0 Tryd.func42 fb42 fn42 (c_impl_within p0 1 12) rfl rfl fun w3 hS3 a4 hE4 => st_val hE4 (y_not hE4 rfl) rfl fun a5 hE5 => wpList_nil ?_
  clear hE1 hE2 hE4
  clear a1 a2 a4
  refine then_normal ?_
  refine cond_split hE5 rfl (fun hb6 => ?_) (fun hb6 => ?_)
  ·
    have hM := hM.trans (if_t hb6)
    refine wp_seq (wp_region_lit ?_)
    refine st_val hE5 (y_assign hE5 rfl) rfl fun a7 hE7 => wpList_nil ?_
    clear hE5
    clear a5
    refine then_normal ?_
    refine wp_ret ?_
    refine then_ret ?_
    exact fin1 hE7 rfl rfl ⟨by rw [hM], hS3.below⟩
  ·
    have hM := hM.trans (if_f hb6)
    have hb6f := impl_within_t (by simpa using hb6)
    refine wp_skip ?_
    refine then_normal ?_
    refine wp_seq (wp_region_lit ?_)
    refine st_val hE5 (y_move hE5 rfl) rfl fun a8 hE8 => st_val hE8 (y_sub_in hE8 rfl rfl (m := p0 - 1) rfl (by omega) (by omega)) rfl fun a9 hE9 => st_val hE9 (y_indexArrAddr (k := ((p0 - 1).toNat)) hE9 rfl rfl (by omega) (by omega) arr82) rfl fun a10 hE10 => st_val hE10 (y_load_one hE10 rfl (GV.elem hS3 hG0 (k := ((p0 - 1).toNat)) (by simp only [gl0, List.length]; omega)) rfl one9) rfl fun a11 hE11 => st_val hE11 (y_assign hE11 rfl) rfl fun a12 hE12 => wpList_nil ?_
    clear hE5 hE8 hE9 hE10 hE11
    clear a5 a8 a9 a10 a11
    refine then_normal ?_
    refine wp_ret ?_
    exact fin1 hE12 rfl rfl ⟨by rw [hM], hS3.below⟩

/- F10 loop.example/g00974/spec.ActName -/
def spec_ActName (p0 : Int) : ByteArray := (if (!(spec_l01In p0 1 12)) = true then (⟨#[63]⟩ : ByteArray) else (nth ([(⟨#[]⟩ : ByteArray), (⟨#[98, 101, 103, 105, 110]⟩ : ByteArray), (⟨#[97, 115, 107]⟩ : ByteArray), (⟨#[109, 97, 114, 107]⟩ : ByteArray), (⟨#[98, 97, 99, 107]⟩ : ByteArray), (⟨#[100, 114, 111, 112]⟩ : ByteArray), (⟨#[99, 111, 109, 109, 105, 116]⟩ : ByteArray), (⟨#[112, 108, 97, 105, 110]⟩ : ByteArray), (⟨#[102, 108, 117, 115, 104]⟩ : ByteArray), (⟨#[102, 111, 108, 100]⟩ : ByteArray), (⟨#[102, 111, 108, 100, 101, 100]⟩ : ByteArray), (⟨#[102, 97, 108, 108]⟩ : ByteArray), (⟨#[114, 101, 116, 114, 121]⟩ : ByteArray)]) ((p0).toNat)))
theorem c_spec_ActName (p0 : Int) {w : World}  :
    Calls Tryd.prog 10 [.int .i64 p0].toArray w (fun e w' => e = .returned (.string (spec_ActName p0)) ∧ Below w.heap.size w w') := by
  refine enter Tryd.func10 rfl Tryd.ntmps10 (Nat.le_of_ble_eq_true rfl) ?_
  intro a0 hE0
  have hS0 := SH.start w
  have hM := spec_ActName.eq_1 p0
  refine wp_seq (wp_region_lit ?_)
  refine st_val hE0 (y_assign hE0 rfl) rfl fun a1 hE1 => wpList_nil ?_
  clear hE0
  clear a0
  refine then_normal ?_
  refine wp_seq (wp_seq (wp_region_lit ?_))
  refine st_val hE1 (y_move hE1 rfl) rfl fun a2 hE2 => st_callF hE2 hS0 Tryd.func41 fb41 fn41 (c_spec_l01In p0 1 12) rfl rfl fun w3 hS3 a4 hE4 => st_val hE4 (y_not hE4 rfl) rfl fun a5 hE5 => wpList_nil ?_
  clear hE1 hE2 hE4
  clear a1 a2 a4
  refine then_normal ?_
  refine cond_split hE5 rfl (fun hb6 => ?_) (fun hb6 => ?_)
  ·
    have hM := hM.trans (if_t hb6)
    refine wp_seq (wp_region_lit ?_)
    refine st_val hE5 (y_assign hE5 rfl) rfl fun a7 hE7 => wpList_nil ?_
    clear hE5
    clear a5
    refine then_normal ?_
    refine wp_ret ?_
    refine then_ret ?_
    exact fin1 hE7 rfl rfl ⟨by rw [hM], hS3.below⟩
  ·
    have hM := hM.trans (if_f hb6)
    have hb6f := spec_l01In_t (by simpa using hb6)
    refine wp_skip ?_
    refine then_normal ?_
    refine wp_seq (wp_region_lit ?_)
    refine st_buildSlice (α := ByteArray) (is := [0, 1, 2, 3, 4, 5, 6, 7, 8, 9, 10, 11, 12]) (vs := [.string (⟨#[]⟩ : ByteArray), .string (⟨#[98, 101, 103, 105, 110]⟩ : ByteArray), .string (⟨#[97, 115, 107]⟩ : ByteArray), .string (⟨#[109, 97, 114, 107]⟩ : ByteArray), .string (⟨#[98, 97, 99, 107]⟩ : ByteArray), .string (⟨#[100, 114, 111, 112]⟩ : ByteArray), .string (⟨#[99, 111, 109, 109, 105, 116]⟩ : ByteArray), .string (⟨#[112, 108, 97, 105, 110]⟩ : ByteArray), .string (⟨#[102, 108, 117, 115, 104]⟩ : ByteArray), .string (⟨#[102, 111, 108, 100]⟩ : ByteArray), .string (⟨#[102, 111, 108, 100, 101, 100]⟩ : ByteArray), .string (⟨#[102, 97, 108, 108]⟩ : ByteArray), .string (⟨#[114, 101, 116, 114, 121]⟩ : ByteArray)]) (cs := [.string (⟨#[]⟩ : ByteArray), .string (⟨#[98, 101, 103, 105, 110]⟩ : ByteArray), .string (⟨#[97, 115, 107]⟩ : ByteArray), .string (⟨#[109, 97, 114, 107]⟩ : ByteArray), .string (⟨#[98, 97, 99, 107]⟩ : ByteArray), .string (⟨#[100, 114, 111, 112]⟩ : ByteArray), .string (⟨#[99, 111, 109, 109, 105, 116]⟩ : ByteArray), .string (⟨#[112, 108, 97, 105, 110]⟩ : ByteArray), .string (⟨#[102, 108, 117, 115, 104]⟩ : ByteArray), .string (⟨#[102, 111, 108, 100]⟩ : ByteArray), .string (⟨#[102, 111, 108, 100, 101, 100]⟩ : ByteArray), .string (⟨#[102, 97, 108, 108]⟩ : ByteArray), .string (⟨#[114, 101, 116, 114, 121]⟩ : ByteArray)]) (ys := [(⟨#[]⟩ : ByteArray), (⟨#[98, 101, 103, 105, 110]⟩ : ByteArray), (⟨#[97, 115, 107]⟩ : ByteArray), (⟨#[109, 97, 114, 107]⟩ : ByteArray), (⟨#[98, 97, 99, 107]⟩ : ByteArray), (⟨#[100, 114, 111, 112]⟩ : ByteArray), (⟨#[99, 111, 109, 109, 105, 116]⟩ : ByteArray), (⟨#[112, 108, 97, 105, 110]⟩ : ByteArray), (⟨#[102, 108, 117, 115, 104]⟩ : ByteArray), (⟨#[102, 111, 108, 100]⟩ : ByteArray), (⟨#[102, 111, 108, 100, 101, 100]⟩ : ByteArray), (⟨#[102, 97, 108, 108]⟩ : ByteArray), (⟨#[114, 101, 116, 114, 121]⟩ : ByteArray)]) (e := 9) hE5 hS3 rfl rfl (by kernel_rfl) rfl rfl (by decide) (fun _ i y h => match i, y, h with | 0, _, h => (by cases h; exact ⟨⟨rfl, (by decide)⟩, rfl⟩) | 1, _, h => (by cases h; exact ⟨⟨rfl, (by decide)⟩, rfl⟩) | 2, _, h => (by cases h; exact ⟨⟨rfl, (by decide)⟩, rfl⟩) | 3, _, h => (by cases h; exact ⟨⟨rfl, (by decide)⟩, rfl⟩) | 4, _, h => (by cases h; exact ⟨⟨rfl, (by decide)⟩, rfl⟩) | 5, _, h => (by cases h; exact ⟨⟨rfl, (by decide)⟩, rfl⟩) | 6, _, h => (by cases h; exact ⟨⟨rfl, (by decide)⟩, rfl⟩) | 7, _, h => (by cases h; exact ⟨⟨rfl, (by decide)⟩, rfl⟩) | 8, _, h => (by cases h; exact ⟨⟨rfl, (by decide)⟩, rfl⟩) | 9, _, h => (by cases h; exact ⟨⟨rfl, (by decide)⟩, rfl⟩) | 10, _, h => (by cases h; exact ⟨⟨rfl, (by decide)⟩, rfl⟩) | 11, _, h => (by cases h; exact ⟨⟨rfl, (by decide)⟩, rfl⟩) | 12, _, h => (by cases h; exact ⟨⟨rfl, (by decide)⟩, rfl⟩) | j + 13, _, h => (by simp at h)) rfl fun b8 w8 hS8 a9 hE9 => st_val hE9 (y_move hE9 rfl) rfl fun a10 hE10 => st_index (k := ((p0).toNat)) hE10 (hS8.ownl (k := 0) rfl) rfl rfl (by omega) (by simp only [List.length]; omega) sl57 rfl fun ad11 cs11 hr11 hc11 hl11 a12 hE12 => ?_
    obtain ⟨rfl, hg11⟩ := hr11
    refine st_val hE12 (y_load_one hE12 rfl hc11 rfl one9) rfl fun a13 hE13 => st_val hE13 (y_assign hE13 rfl) rfl fun a14 hE14 => wpList_nil ?_
    clear hE5 hE9 hE10 hE12 hE13
    clear a5 a9 a10 a12 a13
    refine then_normal ?_
    refine wp_ret ?_
    exact fin1 hE14 rfl rfl ⟨by rw [hM], hS8.below⟩

end Go.Proofs.YtpfnofdaaekglaaDoor.Fw
