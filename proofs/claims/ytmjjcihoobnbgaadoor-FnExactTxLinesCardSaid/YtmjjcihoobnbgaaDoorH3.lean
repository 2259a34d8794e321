/- Contracts: each call returns what the model says. By program (wip/gen). -/
import Derived.Test.YtmjjcihoobnbgaaDoorP1
import Derived.Test.YtmjjcihoobnbgaaDoorM1
namespace Go.Proofs.YtmjjcihoobnbgaaDoor.Fw
open Go.RowKit
set_option linter.unusedVariables false
set_option linter.unusedSimpArgs false

theorem agg29 : chkAgg Tryd.prog 29 6 = true := by kernel_rfl
theorem agg82 : chkAgg Tryd.prog 82 2 = true := by kernel_rfl
theorem agg88 : chkAgg Tryd.prog 88 2 = true := by kernel_rfl
theorem agg90 : chkAgg Tryd.prog 90 10 = true := by kernel_rfl
theorem fa82_0 : chkField Tryd.prog 82 0 0 = true := by kernel_rfl
theorem fa82_1 : chkField Tryd.prog 82 1 1 = true := by kernel_rfl
theorem fa84_0 : chkField Tryd.prog 84 0 0 = true := by kernel_rfl
theorem fa84_1 : chkField Tryd.prog 84 1 1 = true := by kernel_rfl
theorem fa84_2 : chkField Tryd.prog 84 2 2 = true := by kernel_rfl
theorem fa84_3 : chkField Tryd.prog 84 3 3 = true := by kernel_rfl
theorem fa84_4 : chkField Tryd.prog 84 4 4 = true := by kernel_rfl
theorem fa84_5 : chkField Tryd.prog 84 5 5 = true := by kernel_rfl
theorem fa84_6 : chkField Tryd.prog 84 6 6 = true := by kernel_rfl
theorem fa84_7 : chkField Tryd.prog 84 7 8 = true := by kernel_rfl
theorem fa84_8 : chkField Tryd.prog 84 8 9 = true := by kernel_rfl
theorem fa88_0 : chkField Tryd.prog 88 0 0 = true := by kernel_rfl
theorem fa88_1 : chkField Tryd.prog 88 1 1 = true := by kernel_rfl
theorem fa90_0 : chkField Tryd.prog 90 0 0 = true := by kernel_rfl
theorem fa90_1 : chkField Tryd.prog 90 1 1 = true := by kernel_rfl
theorem fa90_2 : chkField Tryd.prog 90 2 2 = true := by kernel_rfl
theorem fa90_3 : chkField Tryd.prog 90 3 3 = true := by kernel_rfl
theorem fa90_4 : chkField Tryd.prog 90 4 4 = true := by kernel_rfl
theorem fa90_5 : chkField Tryd.prog 90 5 5 = true := by kernel_rfl
theorem fa90_6 : chkField Tryd.prog 90 6 6 = true := by kernel_rfl
theorem fa90_7 : chkField Tryd.prog 90 7 8 = true := by kernel_rfl
theorem fa90_8 : chkField Tryd.prog 90 8 9 = true := by kernel_rfl
theorem fb15 : Tryd.f15.body.isNone = false := rfl
theorem fb17 : Tryd.f17.body.isNone = false := rfl
theorem fb26 : Tryd.f26.body.isNone = false := rfl
theorem fb36 : Tryd.f36.body.isNone = false := rfl
theorem fb38 : Tryd.f38.body.isNone = false := rfl
theorem fb39 : Tryd.f39.body.isNone = false := rfl
theorem fb87 : Tryd.f87.body.isNone = false := rfl
theorem fb88 : Tryd.f88.body.isNone = false := rfl
theorem fb89 : Tryd.f89.body.isNone = false := rfl
theorem fb90 : Tryd.f90.body.isNone = false := rfl
theorem fb91 : Tryd.f91.body.isNone = false := rfl
theorem fb92 : Tryd.f92.body.isNone = false := rfl
theorem fb93 : Tryd.f93.body.isNone = false := rfl
theorem fb94 : Tryd.f94.body.isNone = false := rfl
theorem fb96 : Tryd.f96.body.isNone = false := rfl
theorem fb97 : Tryd.f97.body.isNone = false := rfl
theorem fb98 : Tryd.f98.body.isNone = false := rfl
theorem fb99 : Tryd.f99.body.isNone = false := rfl
theorem fn15 : (Tryd.f15.name == "runtime.NumGoroutine") = false := by kernel_rfl
theorem fn17 : (Tryd.f17.name == "runtime.NumGoroutine") = false := by kernel_rfl
theorem fn26 : (Tryd.f26.name == "runtime.NumGoroutine") = false := by kernel_rfl
theorem fn36 : (Tryd.f36.name == "runtime.NumGoroutine") = false := by kernel_rfl
theorem fn38 : (Tryd.f38.name == "runtime.NumGoroutine") = false := by kernel_rfl
theorem fn39 : (Tryd.f39.name == "runtime.NumGoroutine") = false := by kernel_rfl
theorem fn87 : (Tryd.f87.name == "runtime.NumGoroutine") = false := by kernel_rfl
theorem fn88 : (Tryd.f88.name == "runtime.NumGoroutine") = false := by kernel_rfl
theorem fn89 : (Tryd.f89.name == "runtime.NumGoroutine") = false := by kernel_rfl
theorem fn90 : (Tryd.f90.name == "runtime.NumGoroutine") = false := by kernel_rfl
theorem fn91 : (Tryd.f91.name == "runtime.NumGoroutine") = false := by kernel_rfl
theorem fn92 : (Tryd.f92.name == "runtime.NumGoroutine") = false := by kernel_rfl
theorem fn93 : (Tryd.f93.name == "runtime.NumGoroutine") = false := by kernel_rfl
theorem fn94 : (Tryd.f94.name == "runtime.NumGoroutine") = false := by kernel_rfl
theorem fn96 : (Tryd.f96.name == "runtime.NumGoroutine") = false := by kernel_rfl
theorem fn97 : (Tryd.f97.name == "runtime.NumGoroutine") = false := by kernel_rfl
theorem fn98 : (Tryd.f98.name == "runtime.NumGoroutine") = false := by kernel_rfl
theorem fn99 : (Tryd.f99.name == "runtime.NumGoroutine") = false := by kernel_rfl
theorem one43 : chkOne Tryd.prog 43 = true := by kernel_rfl
theorem one52 : chkOne Tryd.prog 52 = true := by kernel_rfl
theorem one79 : chkOne Tryd.prog 79 = true := by kernel_rfl
theorem one80 : chkOne Tryd.prog 80 = true := by kernel_rfl
theorem one86 : chkOne Tryd.prog 86 = true := by kernel_rfl
theorem one87 : chkOne Tryd.prog 87 = true := by kernel_rfl
theorem sl52 : chkSlice Tryd.prog 52 3 1 8 = true := by kernel_rfl
theorem sl79 : chkSlice Tryd.prog 79 29 6 72 = true := by kernel_rfl
theorem sl86 : chkSlice Tryd.prog 86 28 6 72 = true := by kernel_rfl

/- F36 loop.example/g00974/laws.szStringS -/
def laws_szStringS_l1 (p0 : List ByteArray) (p1 : Int) : Nat → Nat → Int → Int
  | 0, i1, s1_1 => s1_1
  | fu1 + 1, i1, s1_1 => (if (decide (IntKind.i64.wrap (s1_1 - ((nth p0 i1).size : Int)) < 0)) = true then (-1) else laws_szStringS_l1 p0 p1 fu1 (i1 + 1) (IntKind.i64.wrap (s1_1 - ((nth p0 i1).size : Int))))
def laws_szStringS (p0 : List ByteArray) (p1 : Int) : Int := (if (decide (IntKind.i64.wrap (p1 - (p0.length : Int)) < 0)) = true then (-1) else laws_szStringS_l1 p0 p1 (p0.length - 0) 0 (IntKind.i64.wrap (p1 - (p0.length : Int))))
theorem c_laws_szStringS {v0 : Value} (p0 : List ByteArray) (p1 : Int) {w : World} (hp0 : SlR (Old w) w v0 p0) :
    Calls Tryd.prog 36 [v0, .int .i64 p1].toArray w (fun e w' => e = .returned (.int .i64 (laws_szStringS p0 p1)) ∧ Below w.heap.size w w') := by
  obtain ⟨A0, cap0, rfl, hx0⟩ := hp0.form
  refine enter Tryd.func36 rfl Tryd.ntmps36 (Nat.le_of_ble_eq_true rfl) ?_
  intro a0 hE0
  have hS0 := SH.start w
  have hM := laws_szStringS.eq_1 p0 p1
  refine wp_seq (wp_region_lit ?_)
  refine st_val hE0 (y_assign hE0 rfl) rfl fun a1 hE1 => wpList_nil ?_
  clear hE0
  clear a0
  refine then_normal ?_
  refine wp_seq (wp_region_lit ?_)
  refine st_val hE1 (y_move hE1 rfl) rfl fun a2 hE2 => st_val hE2 (y_move hE2 rfl) rfl fun a3 hE3 => st_val hE3 (y_len_slice hE3 rfl sl43) rfl fun a4 hE4 => st_val hE4 (y_sub hE4 rfl rfl) rfl fun a5 hE5 => st_val hE5 (y_assign hE5 rfl) rfl fun a6 hE6 => wpList_nil ?_
  clear hE1 hE2 hE3 hE4 hE5
  clear a1 a2 a3 a4 a5
  refine then_normal ?_
  refine wp_seq (wp_seq (wp_region_lit ?_))
  refine st_val hE6 (y_move hE6 rfl) rfl fun a7 hE7 => st_val hE7 (y_lss hE7 rfl rfl) rfl fun a8 hE8 => wpList_nil ?_
  clear hE6 hE7
  clear a6 a7
  refine then_normal ?_
  refine cond_split hE8 rfl (fun hb9 => ?_) (fun hb9 => ?_)
  ·
    have hM := hM.trans (if_t hb9)
    have hb9f : IntKind.i64.wrap (p1 - (p0.length : Int)) < 0 := of_decide_eq_true hb9
    refine wp_seq (wp_region_lit ?_)
    refine st_val hE8 (y_assign hE8 rfl) rfl fun a10 hE10 => wpList_nil ?_
    clear hE8
    clear a8
    refine then_normal ?_
    refine wp_ret ?_
    refine then_ret ?_
    exact fin1 hE10 rfl rfl ⟨by rw [hM], hS0.below⟩
  ·
    have hM := hM.trans (if_f hb9)
    have hb9f : ¬ (IntKind.i64.wrap (p1 - (p0.length : Int)) < 0) := of_decide_eq_false hb9
    refine wp_skip ?_
    refine then_normal ?_
    refine wp_seq (wp_seq (wp_region_lit ?_))
    refine st_val hE8 (y_assign hE8 rfl) rfl fun a11 hE11 => wpList_nil ?_
    clear hE8
    clear a8
    refine then_normal ?_
    refine wp_block (wp_loop_ghost (fun fu1 a w2 => ∃ (i1 : Nat) (s1_1 : Int), 0 ≤ i1 ∧ fu1 = p0.length - i1 ∧ laws_szStringS p0 p1 = laws_szStringS_l1 p0 p1 fu1 i1 s1_1 ∧ Env 28 [(0, .slice A0 p0.length cap0), (1, .int .i64 s1_1), (5, .int .i64 (i1 : Int))] a ∧ SH (Old w) w w2 []) (p0.length - 0) ⟨0, IntKind.i64.wrap (p1 - (p0.length : Int)), Nat.le_refl _, rfl, hM, hE11.weaken ⟨rfl, rfl, rfl, trivial⟩, hS0⟩ ?_)
    clear hM hE11
    rintro fu1 a12 w12 ⟨i1, s1_1, hi1, hfu1, hM, hE12, hS12⟩
    refine wp_seq (wp_seq (wp_region_lit ?_))
    refine st_val hE12 (y_move hE12 rfl) rfl fun a13 hE13 => st_val hE13 (y_move hE13 rfl) rfl fun a14 hE14 => st_val hE14 (y_len_slice hE14 rfl sl43) rfl fun a15 hE15 => st_val hE15 (y_lss hE15 rfl rfl) rfl fun a16 hE16 => wpList_nil ?_
    clear hE12 hE13 hE14 hE15
    clear a12 a13 a14 a15
    refine then_normal ?_
    refine cond_split hE16 rfl (fun hb17 => ?_) (fun hb17 => ?_)
    ·
      have hlt1 : i1 < p0.length := by have := of_decide_eq_true hb17; omega
      obtain ⟨fu1, rfl⟩ : ∃ m, fu1 = m + 1 := ⟨fu1 - 1, by omega⟩
      have hM := hM.trans (laws_szStringS_l1.eq_2 _ _ _ _ _)
      refine wp_skip ?_
      refine then_normal ?_
      refine wp_seq (wp_block (wp_seq (wp_region_lit ?_)))
      refine st_val hE16 (y_move hE16 rfl) rfl fun a18 hE18 => st_val hE18 (y_move hE18 rfl) rfl fun a19 hE19 => st_val hE19 (y_move hE19 rfl) rfl fun a20 hE20 => st_index hE20 hp0 rfl rfl rfl (by omega) sl43 rfl fun ad21 cs21 hr21 hc21 hl21 a22 hE22 => ?_
      obtain ⟨rfl, hg21⟩ := hr21
      refine st_val hE22 (y_load_one hE22 rfl (hS12.upc hc21 hl21) rfl one9) rfl fun a23 hE23 => st_val hE23 (y_len_string hE23 rfl Tryd.underlying9) rfl fun a24 hE24 => st_val hE24 (y_sub hE24 rfl rfl) rfl fun a25 hE25 => st_val hE25 (y_assign hE25 rfl) rfl fun a26 hE26 => wpList_nil ?_
      clear hE16 hE18 hE19 hE20 hE22 hE23 hE24 hE25
      clear a16 a18 a19 a20 a22 a23 a24 a25
      refine then_normal ?_
      refine wp_seq (wp_region_lit ?_)
      refine st_val hE26 (y_move hE26 rfl) rfl fun a27 hE27 => st_val hE27 (y_lss hE27 rfl rfl) rfl fun a28 hE28 => wpList_nil ?_
      clear hE26 hE27
      clear a26 a27
      refine then_normal ?_
      refine cond_split hE28 rfl (fun hb29 => ?_) (fun hb29 => ?_)
      ·
        have hM := hM.trans (if_t hb29)
        have hb29f : IntKind.i64.wrap (s1_1 - ((nth p0 i1).size : Int)) < 0 := of_decide_eq_true hb29
        refine wp_seq (wp_region_lit ?_)
        refine st_val hE28 (y_assign hE28 rfl) rfl fun a30 hE30 => wpList_nil ?_
        clear hE28
        clear a28
        refine then_normal ?_
        refine wp_ret ?_
        refine blk_ret ?_
        refine then_ret ?_
        refine then_ret ?_
        refine blk_ret ?_
        refine then_ret ?_
        exact fin1 hE30 rfl rfl ⟨by rw [hM], hS12.below⟩
      ·
        have hM := hM.trans (if_f hb29)
        have hb29f : ¬ (IntKind.i64.wrap (s1_1 - ((nth p0 i1).size : Int)) < 0) := of_decide_eq_false hb29
        refine wp_skip ?_
        refine blk_normal ?_
        refine then_normal ?_
        refine wp_region_lit ?_
        refine st_val hE28 (y_move hE28 rfl) rfl fun a31 hE31 => st_val hE31 (y_add_in hE31 rfl rfl (m := ((i1 + 1 : Nat) : Int)) (by omega) (by omega) (by omega)) rfl fun a32 hE32 => st_val hE32 (y_assign hE32 rfl) rfl fun a33 hE33 => wpList_nil ?_
        clear hE28 hE31 hE32
        clear a28 a31 a32
        refine then_normal ⟨fu1, Nat.lt_succ_self _, (i1 + 1), IntKind.i64.wrap (s1_1 - ((nth p0 i1).size : Int)), by omega, by omega, hM, hE33.weaken ⟨rfl, rfl, rfl, trivial⟩, hS12⟩
    ·
      have hge1 : ¬ i1 < p0.length := by have := of_decide_eq_false hb17; omega
      obtain rfl : fu1 = 0 := by omega
      have hM := hM.trans (laws_szStringS_l1.eq_1 _ _ _ _)
      refine wp_exit ?_
      refine then_exit ?_
      refine then_exit ?_
      refine blk_exit ?_
      refine then_normal ?_
      refine wp_seq (wp_region_lit ?_)
      refine st_val hE16 (y_move hE16 rfl) rfl fun a34 hE34 => st_val hE34 (y_assign hE34 rfl) rfl fun a35 hE35 => wpList_nil ?_
      clear hE16 hE34
      clear a16 a34
      refine then_normal ?_
      refine wp_ret ?_
      exact fin1 hE35 rfl rfl ⟨by rw [hM], hS12.below⟩

/- F90 loop.example/g00974/laws.szIntS -/
def laws_szIntS (p0 : List Int) (p1 : Int) : Int := (if (decide (IntKind.i64.wrap (p1 - (p0.length : Int)) < 0)) = true then (-1) else IntKind.i64.wrap (p1 - (p0.length : Int)))
theorem c_laws_szIntS {v0 : Value} (p0 : List Int) (p1 : Int) {w : World} (hp0 : SlR (Old w) w v0 p0) :
    Calls Tryd.prog 90 [v0, .int .i64 p1].toArray w (fun e w' => e = .returned (.int .i64 (laws_szIntS p0 p1)) ∧ Below w.heap.size w w') := by
  obtain ⟨A0, cap0, rfl, hx0⟩ := hp0.form
  refine enter Tryd.func90 rfl Tryd.ntmps90 (Nat.le_of_ble_eq_true rfl) ?_
  intro a0 hE0
  have hS0 := SH.start w
  have hM := laws_szIntS.eq_1 p0 p1
  refine wp_seq (wp_region_lit ?_)
  refine st_val hE0 (y_assign hE0 rfl) rfl fun a1 hE1 => wpList_nil ?_
  clear hE0
  clear a0
  refine then_normal ?_
  refine wp_seq (wp_region_lit ?_)
  refine st_val hE1 (y_move hE1 rfl) rfl fun a2 hE2 => st_val hE2 (y_move hE2 rfl) rfl fun a3 hE3 => st_val hE3 (y_len_slice hE3 rfl sl52) rfl fun a4 hE4 => st_val hE4 (y_sub hE4 rfl rfl) rfl fun a5 hE5 => st_val hE5 (y_assign hE5 rfl) rfl fun a6 hE6 => wpList_nil ?_
  clear hE1 hE2 hE3 hE4 hE5
  clear a1 a2 a3 a4 a5
  refine then_normal ?_
  refine wp_seq (wp_seq (wp_region_lit ?_))
  refine st_val hE6 (y_move hE6 rfl) rfl fun a7 hE7 => st_val hE7 (y_lss hE7 rfl rfl) rfl fun a8 hE8 => wpList_nil ?_
  clear hE6 hE7
  clear a6 a7
  refine then_normal ?_
  refine cond_split hE8 rfl (fun hb9 => ?_) (fun hb9 => ?_)
  ·
    have hM := hM.trans (if_t hb9)
    have hb9f : IntKind.i64.wrap (p1 - (p0.length : Int)) < 0 := of_decide_eq_true hb9
    refine wp_seq (wp_region_lit ?_)
    refine st_val hE8 (y_assign hE8 rfl) rfl fun a10 hE10 => wpList_nil ?_
    clear hE8
    clear a8
    refine then_normal ?_
    refine wp_ret ?_
    refine then_ret ?_
    exact fin1 hE10 rfl rfl ⟨by rw [hM], hS0.below⟩
  ·
    have hM := hM.trans (if_f hb9)
    have hb9f : ¬ (IntKind.i64.wrap (p1 - (p0.length : Int)) < 0) := of_decide_eq_false hb9
    refine wp_skip ?_
    refine then_normal ?_
    refine wp_seq (wp_region_lit ?_)
    refine st_val hE8 (y_move hE8 rfl) rfl fun a11 hE11 => st_val hE11 (y_assign hE11 rfl) rfl fun a12 hE12 => wpList_nil ?_
    clear hE8 hE11
    clear a8 a11
    refine then_normal ?_
    refine wp_ret ?_
    exact fin1 hE12 rfl rfl ⟨by rw [hM], hS0.below⟩

/- F87 loop.example/g00974/laws.szCallS -/
def laws_szCallS_l1 (p0 : List Call) (p1 : Int) : Nat → Nat → Int → Int
  | 0, i1, s1_1 => s1_1
  | fu1 + 1, i1, s1_1 => (if (decide ((laws_szCall (nth p0 i1) s1_1) < 0)) = true then (-1) else laws_szCallS_l1 p0 p1 fu1 (i1 + 1) (laws_szCall (nth p0 i1) s1_1))
def laws_szCallS (p0 : List Call) (p1 : Int) : Int := (if (decide (IntKind.i64.wrap (p1 - (p0.length : Int)) < 0)) = true then (-1) else laws_szCallS_l1 p0 p1 (p0.length - 0) 0 (IntKind.i64.wrap (p1 - (p0.length : Int))))
theorem c_laws_szCallS {v0 : Value} (p0 : List Call) (p1 : Int) {w : World} (hp0 : SlR (Old w) w v0 p0) :
    Calls Tryd.prog 87 [v0, .int .i64 p1].toArray w (fun e w' => e = .returned (.int .i64 (laws_szCallS p0 p1)) ∧ Below w.heap.size w w') := by
  obtain ⟨A0, cap0, rfl, hx0⟩ := hp0.form
  refine enter Tryd.func87 rfl Tryd.ntmps87 (Nat.le_of_ble_eq_true rfl) ?_
  intro a0 hE0
  have hS0 := SH.start w
  have hM := laws_szCallS.eq_1 p0 p1
  refine wp_seq (wp_region_lit ?_)
  refine st_val hE0 (y_assign hE0 rfl) rfl fun a1 hE1 => wpList_nil ?_
  clear hE0
  clear a0
  refine then_normal ?_
  refine wp_seq (wp_region_lit ?_)
  refine st_val hE1 (y_move hE1 rfl) rfl fun a2 hE2 => st_val hE2 (y_move hE2 rfl) rfl fun a3 hE3 => st_val hE3 (y_len_slice hE3 rfl sl79) rfl fun a4 hE4 => st_val hE4 (y_sub hE4 rfl rfl) rfl fun a5 hE5 => st_val hE5 (y_assign hE5 rfl) rfl fun a6 hE6 => wpList_nil ?_
  clear hE1 hE2 hE3 hE4 hE5
  clear a1 a2 a3 a4 a5
  refine then_normal ?_
  refine wp_seq (wp_seq (wp_region_lit ?_))
  refine st_val hE6 (y_move hE6 rfl) rfl fun a7 hE7 => st_val hE7 (y_lss hE7 rfl rfl) rfl fun a8 hE8 => wpList_nil ?_
  clear hE6 hE7
  clear a6 a7
  refine then_normal ?_
  refine cond_split hE8 rfl (fun hb9 => ?_) (fun hb9 => ?_)
  ·
    have hM := hM.trans (if_t hb9)
    have hb9f : IntKind.i64.wrap (p1 - (p0.length : Int)) < 0 := of_decide_eq_true hb9
    refine wp_seq (wp_region_lit ?_)
    refine st_val hE8 (y_assign hE8 rfl) rfl fun a10 hE10 => wpList_nil ?_
    clear hE8
    clear a8
    refine then_normal ?_
    refine wp_ret ?_
    refine then_ret ?_
    exact fin1 hE10 rfl rfl ⟨by rw [hM], hS0.below⟩
  ·
    have hM := hM.trans (if_f hb9)
    have hb9f : ¬ (IntKind.i64.wrap (p1 - (p0.length : Int)) < 0) := of_decide_eq_false hb9
    refine wp_skip ?_
    refine then_normal ?_
    refine wp_seq (wp_seq (wp_region_lit ?_))
    refine st_val hE8 (y_assign hE8 rfl) rfl fun a11 hE11 => wpList_nil ?_
    clear hE8
    clear a8
    refine then_normal ?_
    refine wp_block (wp_loop_ghost (fun fu1 a w2 => ∃ (i1 : Nat) (s1_1 : Int), 0 ≤ i1 ∧ fu1 = p0.length - i1 ∧ laws_szCallS p0 p1 = laws_szCallS_l1 p0 p1 fu1 i1 s1_1 ∧ Env 27 [(0, .slice A0 p0.length cap0), (1, .int .i64 s1_1), (5, .int .i64 (i1 : Int))] a ∧ SH (Old w) w w2 []) (p0.length - 0) ⟨0, IntKind.i64.wrap (p1 - (p0.length : Int)), Nat.le_refl _, rfl, hM, hE11.weaken ⟨rfl, rfl, rfl, trivial⟩, hS0⟩ ?_)
    clear hM hE11
    rintro fu1 a12 w12 ⟨i1, s1_1, hi1, hfu1, hM, hE12, hS12⟩
    refine wp_seq (wp_seq (wp_region_lit ?_))
    refine st_val hE12 (y_move hE12 rfl) rfl fun a13 hE13 => st_val hE13 (y_move hE13 rfl) rfl fun a14 hE14 => st_val hE14 (y_len_slice hE14 rfl sl79) rfl fun a15 hE15 => st_val hE15 (y_lss hE15 rfl rfl) rfl fun a16 hE16 => wpList_nil ?_
    clear hE12 hE13 hE14 hE15
    clear a12 a13 a14 a15
    refine then_normal ?_
    refine cond_split hE16 rfl (fun hb17 => ?_) (fun hb17 => ?_)
    ·
      have hlt1 : i1 < p0.length := by have := of_decide_eq_true hb17; omega
      obtain ⟨fu1, rfl⟩ : ∃ m, fu1 = m + 1 := ⟨fu1 - 1, by omega⟩
      have hM := hM.trans (laws_szCallS_l1.eq_2 _ _ _ _ _)
      refine wp_skip ?_
      refine then_normal ?_
      refine wp_seq (wp_block (wp_seq (wp_region_lit ?_)))
      refine st_val hE16 (y_move hE16 rfl) rfl fun a18 hE18 => st_val hE18 (y_move hE18 rfl) rfl fun a19 hE19 => st_index hE19 hp0 rfl rfl rfl (by omega) sl79 rfl fun ad20 cs20 hr20 hc20 hl20 a21 hE21 => ?_
      obtain ⟨rfl, hg20_0, hg20_1, hg20_2, hg20_3, hg20_4, hg20_5, _⟩ := Call_open hr20
      refine st_val hE21 (y_load_agg hE21 rfl (hS12.upc hc20 hl20) rfl rfl agg29) rfl fun a22 hE22 => st_val hE22 (y_move hE22 rfl) rfl fun a23 hE23 => st_callF hE23 hS12 Tryd.func15 fb15 fn15 (c_laws_szCall (nth p0 i1) s1_1 (hS12.upd hr20)) rfl rfl fun w24 hS24 a25 hE25 => st_val hE25 (y_assign hE25 rfl) rfl fun a26 hE26 => wpList_nil ?_
      clear hE16 hE18 hE19 hE21 hE22 hE23 hE25
      clear a16 a18 a19 a21 a22 a23 a25
      refine then_normal ?_
      refine wp_seq (wp_region_lit ?_)
      refine st_val hE26 (y_move hE26 rfl) rfl fun a27 hE27 => st_val hE27 (y_lss hE27 rfl rfl) rfl fun a28 hE28 => wpList_nil ?_
      clear hE26 hE27
      clear a26 a27
      refine then_normal ?_
      refine cond_split hE28 rfl (fun hb29 => ?_) (fun hb29 => ?_)
      ·
        have hM := hM.trans (if_t hb29)
        have hb29f : (laws_szCall (nth p0 i1) s1_1) < 0 := of_decide_eq_true hb29
        refine wp_seq (wp_region_lit ?_)
        refine st_val hE28 (y_assign hE28 rfl) rfl fun a30 hE30 => wpList_nil ?_
        clear hE28
        clear a28
        refine then_normal ?_
        refine wp_ret ?_
        refine blk_ret ?_
        refine then_ret ?_
        refine then_ret ?_
        refine blk_ret ?_
        refine then_ret ?_
        exact fin1 hE30 rfl rfl ⟨by rw [hM], hS24.below⟩
      ·
        have hM := hM.trans (if_f hb29)
        have hb29f : ¬ ((laws_szCall (nth p0 i1) s1_1) < 0) := of_decide_eq_false hb29
        refine wp_skip ?_
        refine blk_normal ?_
        refine then_normal ?_
        refine wp_region_lit ?_
        refine st_val hE28 (y_move hE28 rfl) rfl fun a31 hE31 => st_val hE31 (y_add_in hE31 rfl rfl (m := ((i1 + 1 : Nat) : Int)) (by omega) (by omega) (by omega)) rfl fun a32 hE32 => st_val hE32 (y_assign hE32 rfl) rfl fun a33 hE33 => wpList_nil ?_
        clear hE28 hE31 hE32
        clear a28 a31 a32
        refine then_normal ⟨fu1, Nat.lt_succ_self _, (i1 + 1), (laws_szCall (nth p0 i1) s1_1), by omega, by omega, hM, hE33.weaken ⟨rfl, rfl, rfl, trivial⟩, hS24⟩
    ·
      have hge1 : ¬ i1 < p0.length := by have := of_decide_eq_false hb17; omega
      obtain rfl : fu1 = 0 := by omega
      have hM := hM.trans (laws_szCallS_l1.eq_1 _ _ _ _)
      refine wp_exit ?_
      refine then_exit ?_
      refine then_exit ?_
      refine blk_exit ?_
      refine then_normal ?_
      refine wp_seq (wp_region_lit ?_)
      refine st_val hE16 (y_move hE16 rfl) rfl fun a34 hE34 => st_val hE34 (y_assign hE34 rfl) rfl fun a35 hE35 => wpList_nil ?_
      clear hE16 hE34
      clear a16 a34
      refine then_normal ?_
      refine wp_ret ?_
      exact fin1 hE35 rfl rfl ⟨by rw [hM], hS12.below⟩

/- F89 loop.example/g00974/laws.szTouch -/
def laws_szTouch (p0 : Touch) (p1 : Int) : Int := (if (decide ((laws_szStringS p0.Reads p1) < 0)) = true then (-1) else (if (decide ((laws_szStringS p0.Writes (laws_szStringS p0.Reads p1)) < 0)) = true then (-1) else (laws_szStringS p0.Writes (laws_szStringS p0.Reads p1))))
theorem c_laws_szTouch {c0 : List Value} (p0 : Touch) (p1 : Int) {w : World} (hp0 : Dat.rd (Old w) w c0 p0) :
    Calls Tryd.prog 89 [.agg c0.toArray, .int .i64 p1].toArray w (fun e w' => e = .returned (.int .i64 (laws_szTouch p0 p1)) ∧ Below w.heap.size w w') := by
  obtain ⟨v90000_0, v90000_1, rfl, hv90000_0, hv90000_1, _⟩ := Touch_open hp0
  obtain ⟨A90000_0, cp90000_0, rfl, hx90000_0⟩ := hv90000_0.form
  obtain ⟨A90000_1, cp90000_1, rfl, hx90000_1⟩ := hv90000_1.form
  refine enter Tryd.func89 rfl Tryd.ntmps89 (Nat.le_of_ble_eq_true rfl) ?_
  intro a0 hE0
  have hS0 := SH.start w
  have hM := laws_szTouch.eq_1 p0 p1
  refine wp_seq (wp_region_lit ?_)
  refine st_box hE0 hS0 rfl rfl rfl fun b1 w1 hS1 a2 hE2 => st_val hE2 (y_assign hE2 rfl) rfl fun a3 hE3 => wpList_nil ?_
  clear hE0 hE2
  clear a0 a2
  refine then_normal ?_
  refine wp_seq (wp_region_lit ?_)
  refine st_val hE3 (y_fieldAddr hE3 rfl fa82_0 rfl) rfl fun a4 hE4 => st_val hE4 (y_load_one hE4 rfl (hS1.cells (k := 0) rfl) rfl one43) rfl fun a5 hE5 => st_val hE5 (y_move hE5 rfl) rfl fun a6 hE6 => st_callF hE6 hS1 Tryd.func36 fb36 fn36 (c_laws_szStringS p0.Reads p1 (hS1.up hv90000_0)) rfl rfl fun w7 hS7 a8 hE8 => st_val hE8 (y_assign hE8 rfl) rfl fun a9 hE9 => wpList_nil ?_
  clear hE3 hE4 hE5 hE6 hE8
  clear a3 a4 a5 a6 a8
  refine then_normal ?_
  refine wp_seq (wp_seq (wp_region_lit ?_))
  refine st_val hE9 (y_move hE9 rfl) rfl fun a10 hE10 => st_val hE10 (y_lss hE10 rfl rfl) rfl fun a11 hE11 => wpList_nil ?_
  clear hE9 hE10
  clear a9 a10
  refine then_normal ?_
  refine cond_split hE11 rfl (fun hb12 => ?_) (fun hb12 => ?_)
  ·
    have hM := hM.trans (if_t hb12)
    have hb12f : (laws_szStringS p0.Reads p1) < 0 := of_decide_eq_true hb12
    refine wp_seq (wp_region_lit ?_)
    refine st_val hE11 (y_assign hE11 rfl) rfl fun a13 hE13 => wpList_nil ?_
    clear hE11
    clear a11
    refine then_normal ?_
    refine wp_ret ?_
    refine then_ret ?_
    exact fin1 hE13 rfl rfl ⟨by rw [hM], hS7.below⟩
  ·
    have hM := hM.trans (if_f hb12)
    have hb12f : ¬ ((laws_szStringS p0.Reads p1) < 0) := of_decide_eq_false hb12
    refine wp_skip ?_
    refine then_normal ?_
    refine wp_seq (wp_region_lit ?_)
    refine st_val hE11 (y_fieldAddr hE11 rfl fa82_1 rfl) rfl fun a14 hE14 => st_val hE14 (y_load_one hE14 rfl (hS7.cells (k := 0) rfl) rfl one43) rfl fun a15 hE15 => st_val hE15 (y_move hE15 rfl) rfl fun a16 hE16 => st_callF hE16 hS7 Tryd.func36 fb36 fn36 (c_laws_szStringS p0.Writes (laws_szStringS p0.Reads p1) (hS7.up hv90000_1)) rfl rfl fun w17 hS17 a18 hE18 => st_val hE18 (y_assign hE18 rfl) rfl fun a19 hE19 => wpList_nil ?_
    clear hE11 hE14 hE15 hE16 hE18
    clear a11 a14 a15 a16 a18
    refine then_normal ?_
    refine wp_seq (wp_seq (wp_region_lit ?_))
    refine st_val hE19 (y_move hE19 rfl) rfl fun a20 hE20 => st_val hE20 (y_lss hE20 rfl rfl) rfl fun a21 hE21 => wpList_nil ?_
    clear hE19 hE20
    clear a19 a20
    refine then_normal ?_
    refine cond_split hE21 rfl (fun hb22 => ?_) (fun hb22 => ?_)
    ·
      have hM := hM.trans (if_t hb22)
      have hb22f : (laws_szStringS p0.Writes (laws_szStringS p0.Reads p1)) < 0 := of_decide_eq_true hb22
      refine wp_seq (wp_region_lit ?_)
      refine st_val hE21 (y_assign hE21 rfl) rfl fun a23 hE23 => wpList_nil ?_
      clear hE21
      clear a21
      refine then_normal ?_
      refine wp_ret ?_
      refine then_ret ?_
      exact fin1 hE23 rfl rfl ⟨by rw [hM], hS17.below⟩
    ·
      have hM := hM.trans (if_f hb22)
      have hb22f : ¬ ((laws_szStringS p0.Writes (laws_szStringS p0.Reads p1)) < 0) := of_decide_eq_false hb22
      refine wp_skip ?_
      refine then_normal ?_
      refine wp_seq (wp_region_lit ?_)
      refine st_val hE21 (y_move hE21 rfl) rfl fun a24 hE24 => st_val hE24 (y_assign hE24 rfl) rfl fun a25 hE25 => wpList_nil ?_
      clear hE21 hE24
      clear a21 a24
      refine then_normal ?_
      refine wp_ret ?_
      exact fin1 hE25 rfl rfl ⟨by rw [hM], hS17.below⟩

/- F63 loop.example/g00974/laws.szTx -/
def laws_szTx (p0 : Tx) (p1 : Int) : Int := (if (decide ((laws_szCallS p0.Calls p1) < 0)) = true then (-1) else (if (decide ((laws_szAnswerS p0.Answers (laws_szCallS p0.Calls p1)) < 0)) = true then (-1) else (if (decide ((laws_szTouch p0.Touch (laws_szAnswerS p0.Answers (laws_szCallS p0.Calls p1))) < 0)) = true then (-1) else (if (decide ((laws_szIntS p0.Marks (laws_szTouch p0.Touch (laws_szAnswerS p0.Answers (laws_szCallS p0.Calls p1)))) < 0)) = true then (-1) else (laws_szIntS p0.Marks (laws_szTouch p0.Touch (laws_szAnswerS p0.Answers (laws_szCallS p0.Calls p1))))))))
theorem c_laws_szTx {c0 : List Value} (p0 : Tx) (p1 : Int) {w : World} (hp0 : Dat.rd (Old w) w c0 p0) :
    Calls Tryd.prog 63 [.agg c0.toArray, .int .i64 p1].toArray w (fun e w' => e = .returned (.int .i64 (laws_szTx p0 p1)) ∧ Below w.heap.size w w') := by
  obtain ⟨v90000_4, v90000_5, v90000_6, v90000_7, v90000_8, rfl, hg90000_0, hg90000_1, hg90000_2, hg90000_3, hv90000_4, hv90000_5, hv90000_6, hv90000_7, hv90000_8, hg90000_9, _⟩ := Tx_open hp0
  obtain ⟨A90000_4, cp90000_4, rfl, hx90000_4⟩ := hv90000_4.form
  obtain ⟨A90000_5, cp90000_5, rfl, hx90000_5⟩ := hv90000_5.form
  obtain ⟨A90000_6, cp90000_6, rfl, hx90000_6⟩ := hv90000_6.form
  obtain ⟨A90000_7, cp90000_7, rfl, hx90000_7⟩ := hv90000_7.form
  obtain ⟨A90000_8, cp90000_8, rfl, hx90000_8⟩ := hv90000_8.form
  refine enter Tryd.func63 rfl Tryd.ntmps63 (Nat.le_of_ble_eq_true rfl) ?_
  intro a0 hE0
  have hS0 := SH.start w
  have hM := laws_szTx.eq_1 p0 p1
  refine wp_seq (wp_region_lit ?_)
  refine st_box hE0 hS0 rfl rfl rfl fun b1 w1 hS1 a2 hE2 => st_val hE2 (y_assign hE2 rfl) rfl fun a3 hE3 => wpList_nil ?_
  clear hE0 hE2
  clear a0 a2
  refine then_normal ?_
  refine wp_seq (wp_region_lit ?_)
  refine st_val hE3 (y_fieldAddr hE3 rfl fa84_4 rfl) rfl fun a4 hE4 => st_val hE4 (y_load_one hE4 rfl (hS1.cells (k := 0) rfl) rfl one79) rfl fun a5 hE5 => st_val hE5 (y_move hE5 rfl) rfl fun a6 hE6 => st_callF hE6 hS1 Tryd.func87 fb87 fn87 (c_laws_szCallS p0.Calls p1 (hS1.up hv90000_4)) rfl rfl fun w7 hS7 a8 hE8 => st_val hE8 (y_assign hE8 rfl) rfl fun a9 hE9 => wpList_nil ?_
  clear hE3 hE4 hE5 hE6 hE8
  clear a3 a4 a5 a6 a8
  refine then_normal ?_
  refine wp_seq (wp_seq (wp_region_lit ?_))
  refine st_val hE9 (y_move hE9 rfl) rfl fun a10 hE10 => st_val hE10 (y_lss hE10 rfl rfl) rfl fun a11 hE11 => wpList_nil ?_
  clear hE9 hE10
  clear a9 a10
  refine then_normal ?_
  refine cond_split hE11 rfl (fun hb12 => ?_) (fun hb12 => ?_)
  ·
    have hM := hM.trans (if_t hb12)
    have hb12f : (laws_szCallS p0.Calls p1) < 0 := of_decide_eq_true hb12
    refine wp_seq (wp_region_lit ?_)
    refine st_val hE11 (y_assign hE11 rfl) rfl fun a13 hE13 => wpList_nil ?_
    clear hE11
    clear a11
    refine then_normal ?_
    refine wp_ret ?_
    refine then_ret ?_
    exact fin1 hE13 rfl rfl ⟨by rw [hM], hS7.below⟩
  ·
    have hM := hM.trans (if_f hb12)
    have hb12f : ¬ ((laws_szCallS p0.Calls p1) < 0) := of_decide_eq_false hb12
    refine wp_skip ?_
    refine then_normal ?_
    refine wp_seq (wp_region_lit ?_)
    refine st_val hE11 (y_fieldAddr hE11 rfl fa84_5 rfl) rfl fun a14 hE14 => st_val hE14 (y_load_one hE14 rfl (hS7.cells (k := 0) rfl) rfl one80) rfl fun a15 hE15 => st_val hE15 (y_move hE15 rfl) rfl fun a16 hE16 => st_callF hE16 hS7 Tryd.func88 fb88 fn88 (c_laws_szAnswerS p0.Answers (laws_szCallS p0.Calls p1) (hS7.up hv90000_5)) rfl rfl fun w17 hS17 a18 hE18 => st_val hE18 (y_assign hE18 rfl) rfl fun a19 hE19 => wpList_nil ?_
    clear hE11 hE14 hE15 hE16 hE18
    clear a11 a14 a15 a16 a18
    refine then_normal ?_
    refine wp_seq (wp_seq (wp_region_lit ?_))
    refine st_val hE19 (y_move hE19 rfl) rfl fun a20 hE20 => st_val hE20 (y_lss hE20 rfl rfl) rfl fun a21 hE21 => wpList_nil ?_
    clear hE19 hE20
    clear a19 a20
    refine then_normal ?_
    refine cond_split hE21 rfl (fun hb22 => ?_) (fun hb22 => ?_)
    ·
      have hM := hM.trans (if_t hb22)
      have hb22f : (laws_szAnswerS p0.Answers (laws_szCallS p0.Calls p1)) < 0 := of_decide_eq_true hb22
      refine wp_seq (wp_region_lit ?_)
      refine st_val hE21 (y_assign hE21 rfl) rfl fun a23 hE23 => wpList_nil ?_
      clear hE21
      clear a21
      refine then_normal ?_
      refine wp_ret ?_
      refine then_ret ?_
      exact fin1 hE23 rfl rfl ⟨by rw [hM], hS17.below⟩
    ·
      have hM := hM.trans (if_f hb22)
      have hb22f : ¬ ((laws_szAnswerS p0.Answers (laws_szCallS p0.Calls p1)) < 0) := of_decide_eq_false hb22
      refine wp_skip ?_
      refine then_normal ?_
      refine wp_seq (wp_region_lit ?_)
      refine st_val hE21 (y_fieldAddr hE21 rfl fa84_6 rfl) rfl fun a24 hE24 => st_val hE24 (y_load_agg hE24 rfl (hS17.cells (k := 0) rfl) rfl rfl agg82) rfl fun a25 hE25 => st_val hE25 (y_move hE25 rfl) rfl fun a26 hE26 => st_callF hE26 hS17 Tryd.func89 fb89 fn89 (c_laws_szTouch p0.Touch (laws_szAnswerS p0.Answers (laws_szCallS p0.Calls p1)) (hS17.upd (Touch_mk (x := p0.Touch) hv90000_6 hv90000_7))) rfl rfl fun w27 hS27 a28 hE28 => st_val hE28 (y_assign hE28 rfl) rfl fun a29 hE29 => wpList_nil ?_
      clear hE21 hE24 hE25 hE26 hE28
      clear a21 a24 a25 a26 a28
      refine then_normal ?_
      refine wp_seq (wp_seq (wp_region_lit ?_))
      refine st_val hE29 (y_move hE29 rfl) rfl fun a30 hE30 => st_val hE30 (y_lss hE30 rfl rfl) rfl fun a31 hE31 => wpList_nil ?_
      clear hE29 hE30
      clear a29 a30
      refine then_normal ?_
      refine cond_split hE31 rfl (fun hb32 => ?_) (fun hb32 => ?_)
      ·
        have hM := hM.trans (if_t hb32)
        have hb32f : (laws_szTouch p0.Touch (laws_szAnswerS p0.Answers (laws_szCallS p0.Calls p1))) < 0 := of_decide_eq_true hb32
        refine wp_seq (wp_region_lit ?_)
        refine st_val hE31 (y_assign hE31 rfl) rfl fun a33 hE33 => wpList_nil ?_
        clear hE31
        clear a31
        refine then_normal ?_
        refine wp_ret ?_
        refine then_ret ?_
        exact fin1 hE33 rfl rfl ⟨by rw [hM], hS27.below⟩
      ·
        have hM := hM.trans (if_f hb32)
        have hb32f : ¬ ((laws_szTouch p0.Touch (laws_szAnswerS p0.Answers (laws_szCallS p0.Calls p1))) < 0) := of_decide_eq_false hb32
        refine wp_skip ?_
        refine then_normal ?_
        refine wp_seq (wp_region_lit ?_)
        refine st_val hE31 (y_fieldAddr hE31 rfl fa84_7 rfl) rfl fun a34 hE34 => st_val hE34 (y_load_one hE34 rfl (hS27.cells (k := 0) rfl) rfl one52) rfl fun a35 hE35 => st_val hE35 (y_move hE35 rfl) rfl fun a36 hE36 => st_callF hE36 hS27 Tryd.func90 fb90 fn90 (c_laws_szIntS p0.Marks (laws_szTouch p0.Touch (laws_szAnswerS p0.Answers (laws_szCallS p0.Calls p1))) (hS27.up hv90000_8)) rfl rfl fun w37 hS37 a38 hE38 => st_val hE38 (y_assign hE38 rfl) rfl fun a39 hE39 => wpList_nil ?_
        clear hE31 hE34 hE35 hE36 hE38
        clear a31 a34 a35 a36 a38
        refine then_normal ?_
        refine wp_seq (wp_seq (wp_region_lit ?_))
        refine st_val hE39 (y_move hE39 rfl) rfl fun a40 hE40 => st_val hE40 (y_lss hE40 rfl rfl) rfl fun a41 hE41 => wpList_nil ?_
        clear hE39 hE40
        clear a39 a40
        refine then_normal ?_
        refine cond_split hE41 rfl (fun hb42 => ?_) (fun hb42 => ?_)
        ·
          have hM := hM.trans (if_t hb42)
          have hb42f : (laws_szIntS p0.Marks (laws_szTouch p0.Touch (laws_szAnswerS p0.Answers (laws_szCallS p0.Calls p1)))) < 0 := of_decide_eq_true hb42
          refine wp_seq (wp_region_lit ?_)
          refine st_val hE41 (y_assign hE41 rfl) rfl fun a43 hE43 => wpList_nil ?_
          clear hE41
          clear a41
          refine then_normal ?_
          refine wp_ret ?_
          refine then_ret ?_
          exact fin1 hE43 rfl rfl ⟨by rw [hM], hS37.below⟩
        ·
          have hM := hM.trans (if_f hb42)
          have hb42f : ¬ ((laws_szIntS p0.Marks (laws_szTouch p0.Touch (laws_szAnswerS p0.Answers (laws_szCallS p0.Calls p1)))) < 0) := of_decide_eq_false hb42
          refine wp_skip ?_
          refine then_normal ?_
          refine wp_seq (wp_region_lit ?_)
          refine st_val hE41 (y_move hE41 rfl) rfl fun a44 hE44 => st_val hE44 (y_assign hE44 rfl) rfl fun a45 hE45 => wpList_nil ?_
          clear hE41 hE44
          clear a41 a44
          refine then_normal ?_
          refine wp_ret ?_
          exact fin1 hE45 rfl rfl ⟨by rw [hM], hS37.below⟩

/- F38 loop.example/g00974/laws.toStringS -/
def laws_toStringS_l1 (p0 : List ByteArray) : Nat → Nat → List ByteArray → List ByteArray
  | 0, i1, y1_0 => y1_0
  | fu1 + 1, i1, y1_0 => laws_toStringS_l1 p0 fu1 (i1 + 1) (y1_0 ++ [(nth p0 i1)])
def laws_toStringS (p0 : List ByteArray) : List ByteArray := laws_toStringS_l1 p0 (p0.length - 0) 0 []
theorem c_laws_toStringS {v0 : Value} (p0 : List ByteArray) {w : World} (hp0 : SlR (Old w) w v0 p0) (hsm0 : Dat.small 1048576 p0) :
    Calls Tryd.prog 38 [v0].toArray w (fun e w' => ∃ v F, e = .returned v ∧ Below w.heap.size w w' ∧ SlO w' v (laws_toStringS p0) F ∧ F.Nodup ∧ ∀ b ∈ F, w.heap.size ≤ b) := by
  have hln0 : p0.length ≤ 1048576 := hsm0.1
  obtain ⟨A0, cap0, rfl, hx0⟩ := hp0.form
  refine enter Tryd.func38 rfl Tryd.ntmps38 (Nat.le_of_ble_eq_true rfl) ?_
  intro a0 hE0
  have hS0 := SH.start w
  have hM := laws_toStringS.eq_1 p0
  refine wp_seq (wp_region_lit ?_)
  refine st_val hE0 (y_assign hE0 rfl) rfl fun a1 hE1 => wpList_nil ?_
  clear hE0
  clear a0
  refine then_normal ?_
  refine wp_seq (wp_region_lit ?_)
  refine st_val hE1 (y_move hE1 rfl) rfl fun a2 hE2 => st_val hE2 (y_len_slice hE2 rfl sl43) rfl fun a3 hE3 => st_makeSlice (α := ByteArray) hE3 hS0 sl43 Tryd.zeroValue9 rfl rfl (by omega) (by omega) rfl fun g4 w4 hS4 a5 hE5 => st_val hE5 (y_assign hE5 rfl) rfl fun a6 hE6 => wpList_nil ?_
  clear hE1 hE2 hE3 hE5
  clear a1 a2 a3 a5
  refine then_normal ?_
  refine wp_seq (wp_seq (wp_region_lit ?_))
  refine st_val hE6 (y_assign hE6 rfl) rfl fun a7 hE7 => wpList_nil ?_
  clear hE6
  clear a6
  refine then_normal ?_
  refine wp_block (wp_loop_ghost (fun fu1 a w2 => ∃ (i1 : Nat) (y1_0 : List ByteArray) (Fy1_0 : List Nat), 0 ≤ i1 ∧ fu1 = p0.length - i1 ∧ (i1 ≤ p0.length ∨ i1 = 0) ∧ y1_0.length = i1 ∧ i1 ≤ p0.length ∧ laws_toStringS p0 = laws_toStringS_l1 p0 fu1 i1 y1_0 ∧ Env 22 [(0, .slice A0 p0.length cap0), (3, .slice (some ⟨g4, 0, none⟩) p0.length p0.length), (4, .int .i64 (i1 : Int))] a ∧ SH (Old w) w w2 [Ck.fill (α := ByteArray) g4 p0.length 9 y1_0 Fy1_0]) (p0.length - 0) ⟨0, [], [g4], Nat.le_refl _, rfl, .inr rfl, rfl, Nat.zero_le _, hM, hE7.weaken ⟨rfl, rfl, rfl, trivial⟩, hS4⟩ ?_)
  clear hM hE7 hS4
  rintro fu1 a8 w8 ⟨i1, y1_0, Fy1_0, hi1, hfu1, hup1, hy1_0, hz1_0, hM, hE8, hS8⟩
  refine wp_seq (wp_seq (wp_region_lit ?_))
  refine st_val hE8 (y_move hE8 rfl) rfl fun a9 hE9 => st_val hE9 (y_move hE9 rfl) rfl fun a10 hE10 => st_val hE10 (y_len_slice hE10 rfl sl43) rfl fun a11 hE11 => st_val hE11 (y_lss hE11 rfl rfl) rfl fun a12 hE12 => wpList_nil ?_
  clear hE8 hE9 hE10 hE11
  clear a8 a9 a10 a11
  refine then_normal ?_
  refine cond_split hE12 rfl (fun hb13 => ?_) (fun hb13 => ?_)
  ·
    have hlt1 : i1 < p0.length := by have := of_decide_eq_true hb13; omega
    obtain ⟨fu1, rfl⟩ : ∃ m, fu1 = m + 1 := ⟨fu1 - 1, by omega⟩
    have hM := hM.trans (laws_toStringS_l1.eq_2 _ _ _ _)
    refine wp_skip ?_
    refine then_normal ?_
    refine wp_seq (wp_block (wp_region_lit ?_))
    refine st_val hE12 (y_move hE12 rfl) rfl fun a14 hE14 => st_val hE14 (y_move hE14 rfl) rfl fun a15 hE15 => st_val hE15 (y_move hE15 rfl) rfl fun a16 hE16 => st_val hE16 (y_move hE16 rfl) rfl fun a17 hE17 => st_index hE17 hp0 rfl rfl rfl (by omega) sl43 rfl fun ad18 cs18 hr18 hc18 hl18 a19 hE19 => ?_
    obtain ⟨rfl, hg18⟩ := hr18
    refine st_val hE19 (y_load_one hE19 rfl (hS8.upc hc18 hl18) rfl one9) rfl fun a20 hE20 => st_val hE20 (y_indexAddr hE20 rfl rfl (by omega) (by omega) sl43) rfl fun a21 hE21 => ?_
    have hS22 := hS8.flat (α := ByteArray) (cs := [.string (nth p0 i1)]) (x := (nth p0 i1)) (fun _ => ⟨⟨rfl, hg18⟩, rfl⟩)
    refine st_fill (k := 0) (ys := y1_0) hE21 hS22 rfl (by omega) (by omega) rfl rfl rfl (chkOne_size one9) (hS22.oneO (k := 0) rfl) fun w23 (hS23 : SH (Old w) w w23 [Ck.fill (α := ByteArray) g4 p0.length 9 (y1_0 ++ [(nth p0 i1)]) (Fy1_0 ++ [])]) a24 hE24 => wpList_nil ?_
    clear hE12 hE14 hE15 hE16 hE17 hE19 hE20 hE21
    clear a12 a14 a15 a16 a17 a19 a20 a21
    refine blk_normal ?_
    refine then_normal ?_
    refine wp_region_lit ?_
    refine st_val hE24 (y_move hE24 rfl) rfl fun a25 hE25 => st_val hE25 (y_add_in hE25 rfl rfl (m := ((i1 + 1 : Nat) : Int)) (by omega) (by omega) (by omega)) rfl fun a26 hE26 => st_val hE26 (y_assign hE26 rfl) rfl fun a27 hE27 => wpList_nil ?_
    clear hE24 hE25 hE26
    clear a24 a25 a26
    refine then_normal ⟨fu1, Nat.lt_succ_self _, (i1 + 1), y1_0 ++ [(nth p0 i1)], Fy1_0 ++ [], by omega, by omega, .inl (by omega), (by rw [List.length_append, hy1_0]; rfl), (by omega), hM, hE27.weaken ⟨rfl, rfl, rfl, trivial⟩, hS23⟩
  ·
    have hge1 : ¬ i1 < p0.length := by have := of_decide_eq_false hb13; omega
    obtain rfl : fu1 = 0 := by omega
    have hM := hM.trans (laws_toStringS_l1.eq_1 _ _ _)
    refine wp_exit ?_
    refine then_exit ?_
    refine then_exit ?_
    refine blk_exit ?_
    refine then_normal ?_
    refine wp_seq (wp_region_lit ?_)
    refine st_val hE12 (y_move hE12 rfl) rfl fun a28 hE28 => st_val hE28 (y_assign hE28 rfl) rfl fun a29 hE29 => wpList_nil ?_
    clear hE12 hE28
    clear a12 a28
    refine then_normal ?_
    refine wp_ret ?_
    have hS30 := hS8.conv (k := 0) rfl (Ck.own [.slice (some ⟨g4, 0, none⟩) p0.length p0.length] y1_0 Fy1_0) rfl (fill_own (by omega) (by unfold maxLen; omega))
    refine fin1 hE29 rfl rfl ?_
    rw [hM]
    exact ⟨_, _, rfl, hS30.below, hS30.slO (k := 0) rfl, hS30.nd (k := 0) rfl, hS30.ge' (k := 0) rfl⟩

/- F94 loop.example/g00974/laws.toIntS -/
def laws_toIntS_l1 (p0 : List Int) : Nat → Nat → List Int → List Int
  | 0, i1, y1_0 => y1_0
  | fu1 + 1, i1, y1_0 => laws_toIntS_l1 p0 fu1 (i1 + 1) (y1_0 ++ [(nth p0 i1)])
def laws_toIntS (p0 : List Int) : List Int := laws_toIntS_l1 p0 (p0.length - 0) 0 []
theorem c_laws_toIntS {v0 : Value} (p0 : List Int) {w : World} (hp0 : SlR (Old w) w v0 p0) (hsm0 : Dat.small 1048576 p0) :
    Calls Tryd.prog 94 [v0].toArray w (fun e w' => ∃ v F, e = .returned v ∧ Below w.heap.size w w' ∧ SlO w' v (laws_toIntS p0) F ∧ F.Nodup ∧ ∀ b ∈ F, w.heap.size ≤ b) := by
  have hln0 : p0.length ≤ 1048576 := hsm0.1
  obtain ⟨A0, cap0, rfl, hx0⟩ := hp0.form
  refine enter Tryd.func94 rfl Tryd.ntmps94 (Nat.le_of_ble_eq_true rfl) ?_
  intro a0 hE0
  have hS0 := SH.start w
  have hM := laws_toIntS.eq_1 p0
  refine wp_seq (wp_region_lit ?_)
  refine st_val hE0 (y_assign hE0 rfl) rfl fun a1 hE1 => wpList_nil ?_
  clear hE0
  clear a0
  refine then_normal ?_
  refine wp_seq (wp_region_lit ?_)
  refine st_val hE1 (y_move hE1 rfl) rfl fun a2 hE2 => st_val hE2 (y_len_slice hE2 rfl sl52) rfl fun a3 hE3 => st_makeSlice (α := Int) hE3 hS0 sl52 Tryd.zeroValue3 rfl rfl (by omega) (by omega) rfl fun g4 w4 hS4 a5 hE5 => st_val hE5 (y_assign hE5 rfl) rfl fun a6 hE6 => wpList_nil ?_
  clear hE1 hE2 hE3 hE5
  clear a1 a2 a3 a5
  refine then_normal ?_
  refine wp_seq (wp_seq (wp_region_lit ?_))
  refine st_val hE6 (y_assign hE6 rfl) rfl fun a7 hE7 => wpList_nil ?_
  clear hE6
  clear a6
  refine then_normal ?_
  refine wp_block (wp_loop_ghost (fun fu1 a w2 => ∃ (i1 : Nat) (y1_0 : List Int) (Fy1_0 : List Nat), 0 ≤ i1 ∧ fu1 = p0.length - i1 ∧ (i1 ≤ p0.length ∨ i1 = 0) ∧ y1_0.length = i1 ∧ i1 ≤ p0.length ∧ laws_toIntS p0 = laws_toIntS_l1 p0 fu1 i1 y1_0 ∧ Env 22 [(0, .slice A0 p0.length cap0), (3, .slice (some ⟨g4, 0, none⟩) p0.length p0.length), (4, .int .i64 (i1 : Int))] a ∧ SH (Old w) w w2 [Ck.fill (α := Int) g4 p0.length 3 y1_0 Fy1_0]) (p0.length - 0) ⟨0, [], [g4], Nat.le_refl _, rfl, .inr rfl, rfl, Nat.zero_le _, hM, hE7.weaken ⟨rfl, rfl, rfl, trivial⟩, hS4⟩ ?_)
  clear hM hE7 hS4
  rintro fu1 a8 w8 ⟨i1, y1_0, Fy1_0, hi1, hfu1, hup1, hy1_0, hz1_0, hM, hE8, hS8⟩
  refine wp_seq (wp_seq (wp_region_lit ?_))
  refine st_val hE8 (y_move hE8 rfl) rfl fun a9 hE9 => st_val hE9 (y_move hE9 rfl) rfl fun a10 hE10 => st_val hE10 (y_len_slice hE10 rfl sl52) rfl fun a11 hE11 => st_val hE11 (y_lss hE11 rfl rfl) rfl fun a12 hE12 => wpList_nil ?_
  clear hE8 hE9 hE10 hE11
  clear a8 a9 a10 a11
  refine then_normal ?_
  refine cond_split hE12 rfl (fun hb13 => ?_) (fun hb13 => ?_)
  ·
    have hlt1 : i1 < p0.length := by have := of_decide_eq_true hb13; omega
    obtain ⟨fu1, rfl⟩ : ∃ m, fu1 = m + 1 := ⟨fu1 - 1, by omega⟩
    have hM := hM.trans (laws_toIntS_l1.eq_2 _ _ _ _)
    refine wp_skip ?_
    refine then_normal ?_
    refine wp_seq (wp_block (wp_region_lit ?_))
    refine st_val hE12 (y_move hE12 rfl) rfl fun a14 hE14 => st_val hE14 (y_move hE14 rfl) rfl fun a15 hE15 => st_val hE15 (y_move hE15 rfl) rfl fun a16 hE16 => st_val hE16 (y_move hE16 rfl) rfl fun a17 hE17 => st_index hE17 hp0 rfl rfl rfl (by omega) sl52 rfl fun ad18 cs18 hr18 hc18 hl18 a19 hE19 => ?_
    obtain ⟨rfl, hg18⟩ := hr18
    refine st_val hE19 (y_load_one hE19 rfl (hS8.upc hc18 hl18) rfl one3) rfl fun a20 hE20 => st_val hE20 (y_indexAddr hE20 rfl rfl (by omega) (by omega) sl52) rfl fun a21 hE21 => ?_
    have hS22 := hS8.flat (α := Int) (cs := [.int .i64 (nth p0 i1)]) (x := (nth p0 i1)) (fun _ => ⟨⟨rfl, hg18⟩, rfl⟩)
    refine st_fill (k := 0) (ys := y1_0) hE21 hS22 rfl (by omega) (by omega) rfl rfl rfl (chkOne_size one3) (hS22.oneO (k := 0) rfl) fun w23 (hS23 : SH (Old w) w w23 [Ck.fill (α := Int) g4 p0.length 3 (y1_0 ++ [(nth p0 i1)]) (Fy1_0 ++ [])]) a24 hE24 => wpList_nil ?_
    clear hE12 hE14 hE15 hE16 hE17 hE19 hE20 hE21
    clear a12 a14 a15 a16 a17 a19 a20 a21
    refine blk_normal ?_
    refine then_normal ?_
    refine wp_region_lit ?_
    refine st_val hE24 (y_move hE24 rfl) rfl fun a25 hE25 => st_val hE25 (y_add_in hE25 rfl rfl (m := ((i1 + 1 : Nat) : Int)) (by omega) (by omega) (by omega)) rfl fun a26 hE26 => st_val hE26 (y_assign hE26 rfl) rfl fun a27 hE27 => wpList_nil ?_
    clear hE24 hE25 hE26
    clear a24 a25 a26
    refine then_normal ⟨fu1, Nat.lt_succ_self _, (i1 + 1), y1_0 ++ [(nth p0 i1)], Fy1_0 ++ [], by omega, by omega, .inl (by omega), (by rw [List.length_append, hy1_0]; rfl), (by omega), hM, hE27.weaken ⟨rfl, rfl, rfl, trivial⟩, hS23⟩
  ·
    have hge1 : ¬ i1 < p0.length := by have := of_decide_eq_false hb13; omega
    obtain rfl : fu1 = 0 := by omega
    have hM := hM.trans (laws_toIntS_l1.eq_1 _ _ _)
    refine wp_exit ?_
    refine then_exit ?_
    refine then_exit ?_
    refine blk_exit ?_
    refine then_normal ?_
    refine wp_seq (wp_region_lit ?_)
    refine st_val hE12 (y_move hE12 rfl) rfl fun a28 hE28 => st_val hE28 (y_assign hE28 rfl) rfl fun a29 hE29 => wpList_nil ?_
    clear hE12 hE28
    clear a12 a28
    refine then_normal ?_
    refine wp_ret ?_
    have hS30 := hS8.conv (k := 0) rfl (Ck.own [.slice (some ⟨g4, 0, none⟩) p0.length p0.length] y1_0 Fy1_0) rfl (fill_own (by omega) (by unfold maxLen; omega))
    refine fin1 hE29 rfl rfl ?_
    rw [hM]
    exact ⟨_, _, rfl, hS30.below, hS30.slO (k := 0) rfl, hS30.nd (k := 0) rfl, hS30.ge' (k := 0) rfl⟩

/- F91 loop.example/g00974/laws.toCallS -/
def laws_toCallS_l1 (p0 : List Call) : Nat → Nat → List Call → List Call
  | 0, i1, y1_0 => y1_0
  | fu1 + 1, i1, y1_0 => laws_toCallS_l1 p0 fu1 (i1 + 1) (y1_0 ++ [(laws_toCall (nth p0 i1))])
def laws_toCallS (p0 : List Call) : List Call := laws_toCallS_l1 p0 (p0.length - 0) 0 []
theorem c_laws_toCallS {v0 : Value} (p0 : List Call) {w : World} (hp0 : SlR (Old w) w v0 p0) (hsm0 : Dat.small 1048576 p0) :
    Calls Tryd.prog 91 [v0].toArray w (fun e w' => ∃ v F, e = .returned v ∧ Below w.heap.size w w' ∧ SlO w' v (laws_toCallS p0) F ∧ F.Nodup ∧ ∀ b ∈ F, w.heap.size ≤ b) := by
  have hln0 : p0.length ≤ 1048576 := hsm0.1
  obtain ⟨A0, cap0, rfl, hx0⟩ := hp0.form
  refine enter Tryd.func91 rfl Tryd.ntmps91 (Nat.le_of_ble_eq_true rfl) ?_
  intro a0 hE0
  have hS0 := SH.start w
  have hM := laws_toCallS.eq_1 p0
  refine wp_seq (wp_region_lit ?_)
  refine st_val hE0 (y_assign hE0 rfl) rfl fun a1 hE1 => wpList_nil ?_
  clear hE0
  clear a0
  refine then_normal ?_
  refine wp_seq (wp_region_lit ?_)
  refine st_val hE1 (y_move hE1 rfl) rfl fun a2 hE2 => st_val hE2 (y_len_slice hE2 rfl sl79) rfl fun a3 hE3 => st_makeSlice (α := Call) hE3 hS0 sl86 Tryd.zeroValue28 rfl rfl (by omega) (by omega) rfl fun g4 w4 hS4 a5 hE5 => st_val hE5 (y_assign hE5 rfl) rfl fun a6 hE6 => wpList_nil ?_
  clear hE1 hE2 hE3 hE5
  clear a1 a2 a3 a5
  refine then_normal ?_
  refine wp_seq (wp_seq (wp_region_lit ?_))
  refine st_val hE6 (y_assign hE6 rfl) rfl fun a7 hE7 => wpList_nil ?_
  clear hE6
  clear a6
  refine then_normal ?_
  refine wp_block (wp_loop_ghost (fun fu1 a w2 => ∃ (i1 : Nat) (y1_0 : List Call) (Fy1_0 : List Nat), 0 ≤ i1 ∧ fu1 = p0.length - i1 ∧ (i1 ≤ p0.length ∨ i1 = 0) ∧ y1_0.length = i1 ∧ i1 ≤ p0.length ∧ laws_toCallS p0 = laws_toCallS_l1 p0 fu1 i1 y1_0 ∧ Env 23 [(0, .slice A0 p0.length cap0), (3, .slice (some ⟨g4, 0, none⟩) p0.length p0.length), (4, .int .i64 (i1 : Int))] a ∧ SH (Old w) w w2 [Ck.fill (α := Call) g4 p0.length 28 y1_0 Fy1_0]) (p0.length - 0) ⟨0, [], [g4], Nat.le_refl _, rfl, .inr rfl, rfl, Nat.zero_le _, hM, hE7.weaken ⟨rfl, rfl, rfl, trivial⟩, hS4⟩ ?_)
  clear hM hE7 hS4
  rintro fu1 a8 w8 ⟨i1, y1_0, Fy1_0, hi1, hfu1, hup1, hy1_0, hz1_0, hM, hE8, hS8⟩
  refine wp_seq (wp_seq (wp_region_lit ?_))
  refine st_val hE8 (y_move hE8 rfl) rfl fun a9 hE9 => st_val hE9 (y_move hE9 rfl) rfl fun a10 hE10 => st_val hE10 (y_len_slice hE10 rfl sl79) rfl fun a11 hE11 => st_val hE11 (y_lss hE11 rfl rfl) rfl fun a12 hE12 => wpList_nil ?_
  clear hE8 hE9 hE10 hE11
  clear a8 a9 a10 a11
  refine then_normal ?_
  refine cond_split hE12 rfl (fun hb13 => ?_) (fun hb13 => ?_)
  ·
    have hlt1 : i1 < p0.length := by have := of_decide_eq_true hb13; omega
    obtain ⟨fu1, rfl⟩ : ∃ m, fu1 = m + 1 := ⟨fu1 - 1, by omega⟩
    have hM := hM.trans (laws_toCallS_l1.eq_2 _ _ _ _)
    refine wp_skip ?_
    refine then_normal ?_
    refine wp_seq (wp_block (wp_region_lit ?_))
    refine st_val hE12 (y_move hE12 rfl) rfl fun a14 hE14 => st_val hE14 (y_move hE14 rfl) rfl fun a15 hE15 => st_val hE15 (y_move hE15 rfl) rfl fun a16 hE16 => st_val hE16 (y_move hE16 rfl) rfl fun a17 hE17 => st_index hE17 hp0 rfl rfl rfl (by omega) sl79 rfl fun ad18 cs18 hr18 hc18 hl18 a19 hE19 => ?_
    obtain ⟨rfl, hg18_0, hg18_1, hg18_2, hg18_3, hg18_4, hg18_5, _⟩ := Call_open hr18
    refine st_val hE19 (y_load_agg hE19 rfl (hS8.upc hc18 hl18) rfl rfl agg29) rfl fun a20 hE20 => st_callO (mk := fun cs => .agg cs.toArray) hE20 hS8 Tryd.func17 fb17 fn17 (c_laws_toCall (nth p0 i1) (hS8.upd hr18)) rfl rfl fun cs21 F21 w21 hS21 a22 hE22 => st_val hE22 (y_indexAddr hE22 rfl rfl (by omega) (by omega) sl86) rfl fun a23 hE23 => st_fill (k := 0) (ys := y1_0) hE23 hS21 rfl (by omega) (by omega) rfl rfl rfl (chkAgg_size agg28) (hS21.oneO (k := 0) rfl) fun w24 (hS24 : SH (Old w) w w24 [Ck.fill (α := Call) g4 p0.length 28 (y1_0 ++ [(laws_toCall (nth p0 i1))]) (Fy1_0 ++ F21)]) a25 hE25 => wpList_nil ?_
    clear hE12 hE14 hE15 hE16 hE17 hE19 hE20 hE22 hE23
    clear a12 a14 a15 a16 a17 a19 a20 a22 a23
    refine blk_normal ?_
    refine then_normal ?_
    refine wp_region_lit ?_
    refine st_val hE25 (y_move hE25 rfl) rfl fun a26 hE26 => st_val hE26 (y_add_in hE26 rfl rfl (m := ((i1 + 1 : Nat) : Int)) (by omega) (by omega) (by omega)) rfl fun a27 hE27 => st_val hE27 (y_assign hE27 rfl) rfl fun a28 hE28 => wpList_nil ?_
    clear hE25 hE26 hE27
    clear a25 a26 a27
    refine then_normal ⟨fu1, Nat.lt_succ_self _, (i1 + 1), y1_0 ++ [(laws_toCall (nth p0 i1))], Fy1_0 ++ F21, by omega, by omega, .inl (by omega), (by rw [List.length_append, hy1_0]; rfl), (by omega), hM, hE28.weaken ⟨rfl, rfl, rfl, trivial⟩, hS24⟩
  ·
    have hge1 : ¬ i1 < p0.length := by have := of_decide_eq_false hb13; omega
    obtain rfl : fu1 = 0 := by omega
    have hM := hM.trans (laws_toCallS_l1.eq_1 _ _ _)
    refine wp_exit ?_
    refine then_exit ?_
    refine then_exit ?_
    refine blk_exit ?_
    refine then_normal ?_
    refine wp_seq (wp_region_lit ?_)
    refine st_val hE12 (y_move hE12 rfl) rfl fun a29 hE29 => st_val hE29 (y_assign hE29 rfl) rfl fun a30 hE30 => wpList_nil ?_
    clear hE12 hE29
    clear a12 a29
    refine then_normal ?_
    refine wp_ret ?_
    have hS31 := hS8.conv (k := 0) rfl (Ck.own [.slice (some ⟨g4, 0, none⟩) p0.length p0.length] y1_0 Fy1_0) rfl (fill_own (by omega) (by unfold maxLen; omega))
    refine fin1 hE30 rfl rfl ?_
    rw [hM]
    exact ⟨_, _, rfl, hS31.below, hS31.slO (k := 0) rfl, hS31.nd (k := 0) rfl, hS31.ge' (k := 0) rfl⟩

/- F93 loop.example/g00974/laws.toTouch -/
def laws_toTouch (p0 : Touch) : Touch := (Touch.mk (laws_toStringS p0.Reads) (laws_toStringS p0.Writes))
theorem c_laws_toTouch {c0 : List Value} (p0 : Touch) {w : World} (hp0 : Dat.rd (Old w) w c0 p0) (hsm0 : Dat.small 1048576 p0) :
    Calls Tryd.prog 93 [.agg c0.toArray].toArray w (fun e w' => ∃ cs F, e = .returned (.agg cs.toArray) ∧ Below w.heap.size w w' ∧ Dat.own w' cs (laws_toTouch p0) F ∧ F.Nodup ∧ ∀ b ∈ F, w.heap.size ≤ b) := by
  obtain ⟨v90000_0, v90000_1, rfl, hv90000_0, hv90000_1, _⟩ := Touch_open hp0
  obtain ⟨A90000_0, cp90000_0, rfl, hx90000_0⟩ := hv90000_0.form
  obtain ⟨A90000_1, cp90000_1, rfl, hx90000_1⟩ := hv90000_1.form
  refine enter Tryd.func93 rfl Tryd.ntmps93 (Nat.le_of_ble_eq_true rfl) ?_
  intro a0 hE0
  have hS0 := SH.start w
  have hM := laws_toTouch.eq_1 p0
  refine wp_seq (wp_region_lit ?_)
  refine st_box hE0 hS0 rfl rfl rfl fun b1 w1 hS1 a2 hE2 => st_alloc hE2 hS1 Tryd.zeroValue88 rfl rfl fun b3 w3 hS3 a4 hE4 => wpList_nil ?_
  clear hE0 hE2
  clear a0 a2
  refine then_normal ?_
  refine wp_seq (wp_region_lit ?_)
  refine st_alloc hE4 hS3 Tryd.zeroValue88 rfl rfl fun b5 w5 hS5 a6 hE6 => wpList_nil ?_
  clear hE4
  clear a4
  refine then_normal ?_
  refine wp_seq (wp_region_lit ?_)
  refine st_val hE6 (y_fieldAddr hE6 rfl fa82_0 rfl) rfl fun a7 hE7 => st_val hE7 (y_load_one hE7 rfl (hS5.cells (k := 2) rfl) rfl one43) rfl fun a8 hE8 => st_callS hE8 hS5 Tryd.func38 fb38 fn38 (c_laws_toStringS p0.Reads (hS5.up hv90000_0) hsm0.1) rfl rfl fun A9 cp9 F9 w9 hx9 hS9 a10 hE10 => st_val hE10 (y_fieldAddr hE10 rfl fa88_0 rfl) rfl fun a11 hE11 => st_store hE11 hS9 [.slice A9 ((laws_toStringS p0.Reads).length) cp9, .slice none 0 0] rfl rfl (k := 1) rfl rfl (chkOne_size one43) rfl rfl rfl rfl fun w12 (hS12 : SH (Old w) w w12 [Ck.own (α := List ByteArray) [.slice A9 ((laws_toStringS p0.Reads).length) cp9] (laws_toStringS p0.Reads) F9, Ck.var b5 [.slice A9 ((laws_toStringS p0.Reads).length) cp9, .slice none 0 0] 88, Ck.var b3 [.slice none 0 0, .slice none 0 0] 88, Ck.var b1 [.slice A90000_0 p0.Reads.length cp90000_0, .slice A90000_1 p0.Writes.length cp90000_1] 82]) a13 hE13 => wpList_nil ?_
  clear hE6 hE7 hE8 hE10 hE11
  clear a6 a7 a8 a10 a11
  refine then_normal ?_
  refine wp_seq (wp_region_lit ?_)
  refine st_val hE13 (y_fieldAddr hE13 rfl fa82_1 rfl) rfl fun a14 hE14 => st_val hE14 (y_load_one hE14 rfl (hS12.cells (k := 3) rfl) rfl one43) rfl fun a15 hE15 => st_callS hE15 hS12 Tryd.func38 fb38 fn38 (c_laws_toStringS p0.Writes (hS12.up hv90000_1) hsm0.2) rfl rfl fun A16 cp16 F16 w16 hx16 hS16 a17 hE17 => st_val hE17 (y_fieldAddr hE17 rfl fa88_1 rfl) rfl fun a18 hE18 => st_store hE18 hS16 [.slice A9 ((laws_toStringS p0.Reads).length) cp9, .slice A16 ((laws_toStringS p0.Writes).length) cp16] rfl rfl (k := 2) rfl rfl (chkOne_size one43) rfl rfl rfl rfl fun w19 (hS19 : SH (Old w) w w19 [Ck.own (α := List ByteArray) [.slice A16 ((laws_toStringS p0.Writes).length) cp16] (laws_toStringS p0.Writes) F16, Ck.own (α := List ByteArray) [.slice A9 ((laws_toStringS p0.Reads).length) cp9] (laws_toStringS p0.Reads) F9, Ck.var b5 [.slice A9 ((laws_toStringS p0.Reads).length) cp9, .slice A16 ((laws_toStringS p0.Writes).length) cp16] 88, Ck.var b3 [.slice none 0 0, .slice none 0 0] 88, Ck.var b1 [.slice A90000_0 p0.Reads.length cp90000_0, .slice A90000_1 p0.Writes.length cp90000_1] 82]) a20 hE20 => wpList_nil ?_
  clear hE13 hE14 hE15 hE17 hE18
  clear a13 a14 a15 a17 a18
  refine then_normal ?_
  refine wp_seq (wp_region_lit ?_)
  refine st_val hE20 (y_load_agg hE20 rfl (hS19.cells (k := 2) rfl) rfl rfl agg88) rfl fun a21 hE21 => st_store hE21 hS19 [.slice A9 ((laws_toStringS p0.Reads).length) cp9, .slice A16 ((laws_toStringS p0.Writes).length) cp16] rfl rfl (k := 3) rfl rfl (chkAgg_size agg88) rfl rfl rfl rfl fun w22 (hS22 : SH (Old w) w w22 [Ck.own (α := List ByteArray) [.slice A16 ((laws_toStringS p0.Writes).length) cp16] (laws_toStringS p0.Writes) F16, Ck.own (α := List ByteArray) [.slice A9 ((laws_toStringS p0.Reads).length) cp9] (laws_toStringS p0.Reads) F9, Ck.var b5 [.slice A9 ((laws_toStringS p0.Reads).length) cp9, .slice A16 ((laws_toStringS p0.Writes).length) cp16] 88, Ck.var b3 [.slice A9 ((laws_toStringS p0.Reads).length) cp9, .slice A16 ((laws_toStringS p0.Writes).length) cp16] 88, Ck.var b1 [.slice A90000_0 p0.Reads.length cp90000_0, .slice A90000_1 p0.Writes.length cp90000_1] 82]) a23 hE23 => wpList_nil ?_
  clear hE20 hE21
  clear a20 a21
  refine then_normal ?_
  refine wp_ret ?_
  refine finC hE23 hS22 rfl rfl (k := 3) rfl agg88 rfl ?_
  rw [hM]
  exact ⟨_, _, rfl, hS22.below, Touch_own (x := (Touch.mk (laws_toStringS p0.Reads) (laws_toStringS p0.Writes))) (hS22.slO (k := 1) rfl) (hS22.slO (k := 0) rfl), (nd_app (hS22.nd (k := 1) rfl) (hS22.nd (k := 0) rfl) (hS22.dj (i := 1) (j := 0) rfl rfl (by decide))), (ge_app (hS22.ge' (k := 1) rfl) (hS22.ge' (k := 0) rfl))⟩

/- F65 loop.example/g00974/laws.toTx -/
def laws_toTx (p0 : Tx) : Tx := (Tx.mk p0.Id p0.Age p0.Proc p0.Began (laws_toCallS p0.Calls) (laws_toAnswerS p0.Answers) (laws_toTouch p0.Touch) (laws_toIntS p0.Marks) p0.State)
theorem c_laws_toTx {c0 : List Value} (p0 : Tx) {w : World} (hp0 : Dat.rd (Old w) w c0 p0) (hsm0 : Dat.small 1048576 p0) :
    Calls Tryd.prog 65 [.agg c0.toArray].toArray w (fun e w' => ∃ cs F, e = .returned (.agg cs.toArray) ∧ Below w.heap.size w w' ∧ Dat.own w' cs (laws_toTx p0) F ∧ F.Nodup ∧ ∀ b ∈ F, w.heap.size ≤ b) := by
  obtain ⟨v90000_4, v90000_5, v90000_6, v90000_7, v90000_8, rfl, hg90000_0, hg90000_1, hg90000_2, hg90000_3, hv90000_4, hv90000_5, hv90000_6, hv90000_7, hv90000_8, hg90000_9, _⟩ := Tx_open hp0
  obtain ⟨A90000_4, cp90000_4, rfl, hx90000_4⟩ := hv90000_4.form
  obtain ⟨A90000_5, cp90000_5, rfl, hx90000_5⟩ := hv90000_5.form
  obtain ⟨A90000_6, cp90000_6, rfl, hx90000_6⟩ := hv90000_6.form
  obtain ⟨A90000_7, cp90000_7, rfl, hx90000_7⟩ := hv90000_7.form
  obtain ⟨A90000_8, cp90000_8, rfl, hx90000_8⟩ := hv90000_8.form
  refine enter Tryd.func65 rfl Tryd.ntmps65 (Nat.le_of_ble_eq_true rfl) ?_
  intro a0 hE0
  have hS0 := SH.start w
  have hM := laws_toTx.eq_1 p0
  refine wp_seq (wp_region_lit ?_)
  refine st_box hE0 hS0 rfl rfl rfl fun b1 w1 hS1 a2 hE2 => st_alloc hE2 hS1 Tryd.zeroValue90 rfl rfl fun b3 w3 hS3 a4 hE4 => wpList_nil ?_
  clear hE0 hE2
  clear a0 a2
  refine then_normal ?_
  refine wp_seq (wp_region_lit ?_)
  refine st_alloc hE4 hS3 Tryd.zeroValue90 rfl rfl fun b5 w5 hS5 a6 hE6 => wpList_nil ?_
  clear hE4
  clear a4
  refine then_normal ?_
  refine wp_seq (wp_region_lit ?_)
  refine st_val hE6 (y_fieldAddr hE6 rfl fa84_0 rfl) rfl fun a7 hE7 => st_val hE7 (y_load_one hE7 rfl (hS5.cells (k := 2) rfl) rfl one3) rfl fun a8 hE8 => st_val hE8 (y_fieldAddr hE8 rfl fa90_0 rfl) rfl fun a9 hE9 => st_store hE9 hS5 [.int .i64 p0.Id, .int .i64 0, .int .i64 0, .int .i64 0, .slice none 0 0, .slice none 0 0, .slice none 0 0, .slice none 0 0, .slice none 0 0, .int .i64 0] rfl rfl (k := 0) rfl rfl (chkOne_size one3) rfl rfl rfl rfl fun w10 (hS10 : SH (Old w) w w10 [Ck.var b5 [.int .i64 p0.Id, .int .i64 0, .int .i64 0, .int .i64 0, .slice none 0 0, .slice none 0 0, .slice none 0 0, .slice none 0 0, .slice none 0 0, .int .i64 0] 90, Ck.var b3 [.int .i64 0, .int .i64 0, .int .i64 0, .int .i64 0, .slice none 0 0, .slice none 0 0, .slice none 0 0, .slice none 0 0, .slice none 0 0, .int .i64 0] 90, Ck.var b1 [.int .i64 p0.Id, .int .i64 p0.Age, .int .i64 p0.Proc, .int .i64 p0.Began, .slice A90000_4 p0.Calls.length cp90000_4, .slice A90000_5 p0.Answers.length cp90000_5, .slice A90000_6 p0.Touch.Reads.length cp90000_6, .slice A90000_7 p0.Touch.Writes.length cp90000_7, .slice A90000_8 p0.Marks.length cp90000_8, .int .i64 p0.State] 84]) a11 hE11 => wpList_nil ?_
  clear hE6 hE7 hE8 hE9
  clear a6 a7 a8 a9
  refine then_normal ?_
  refine wp_seq (wp_region_lit ?_)
  refine st_val hE11 (y_fieldAddr hE11 rfl fa84_1 rfl) rfl fun a12 hE12 => st_val hE12 (y_load_one hE12 rfl (hS10.cells (k := 2) rfl) rfl one3) rfl fun a13 hE13 => st_val hE13 (y_fieldAddr hE13 rfl fa90_1 rfl) rfl fun a14 hE14 => st_store hE14 hS10 [.int .i64 p0.Id, .int .i64 p0.Age, .int .i64 0, .int .i64 0, .slice none 0 0, .slice none 0 0, .slice none 0 0, .slice none 0 0, .slice none 0 0, .int .i64 0] rfl rfl (k := 0) rfl rfl (chkOne_size one3) rfl rfl rfl rfl fun w15 (hS15 : SH (Old w) w w15 [Ck.var b5 [.int .i64 p0.Id, .int .i64 p0.Age, .int .i64 0, .int .i64 0, .slice none 0 0, .slice none 0 0, .slice none 0 0, .slice none 0 0, .slice none 0 0, .int .i64 0] 90, Ck.var b3 [.int .i64 0, .int .i64 0, .int .i64 0, .int .i64 0, .slice none 0 0, .slice none 0 0, .slice none 0 0, .slice none 0 0, .slice none 0 0, .int .i64 0] 90, Ck.var b1 [.int .i64 p0.Id, .int .i64 p0.Age, .int .i64 p0.Proc, .int .i64 p0.Began, .slice A90000_4 p0.Calls.length cp90000_4, .slice A90000_5 p0.Answers.length cp90000_5, .slice A90000_6 p0.Touch.Reads.length cp90000_6, .slice A90000_7 p0.Touch.Writes.length cp90000_7, .slice A90000_8 p0.Marks.length cp90000_8, .int .i64 p0.State] 84]) a16 hE16 => wpList_nil ?_
  clear hE11 hE12 hE13 hE14
  clear a11 a12 a13 a14
  refine then_normal ?_
  refine wp_seq (wp_region_lit ?_)
  refine st_val hE16 (y_fieldAddr hE16 rfl fa84_2 rfl) rfl fun a17 hE17 => st_val hE17 (y_load_one hE17 rfl (hS15.cells (k := 2) rfl) rfl one3) rfl fun a18 hE18 => st_val hE18 (y_fieldAddr hE18 rfl fa90_2 rfl) rfl fun a19 hE19 => st_store hE19 hS15 [.int .i64 p0.Id, .int .i64 p0.Age, .int .i64 p0.Proc, .int .i64 0, .slice none 0 0, .slice none 0 0, .slice none 0 0, .slice none 0 0, .slice none 0 0, .int .i64 0] rfl rfl (k := 0) rfl rfl (chkOne_size one3) rfl rfl rfl rfl fun w20 (hS20 : SH (Old w) w w20 [Ck.var b5 [.int .i64 p0.Id, .int .i64 p0.Age, .int .i64 p0.Proc, .int .i64 0, .slice none 0 0, .slice none 0 0, .slice none 0 0, .slice none 0 0, .slice none 0 0, .int .i64 0] 90, Ck.var b3 [.int .i64 0, .int .i64 0, .int .i64 0, .int .i64 0, .slice none 0 0, .slice none 0 0, .slice none 0 0, .slice none 0 0, .slice none 0 0, .int .i64 0] 90, Ck.var b1 [.int .i64 p0.Id, .int .i64 p0.Age, .int .i64 p0.Proc, .int .i64 p0.Began, .slice A90000_4 p0.Calls.length cp90000_4, .slice A90000_5 p0.Answers.length cp90000_5, .slice A90000_6 p0.Touch.Reads.length cp90000_6, .slice A90000_7 p0.Touch.Writes.length cp90000_7, .slice A90000_8 p0.Marks.length cp90000_8, .int .i64 p0.State] 84]) a21 hE21 => wpList_nil ?_
  clear hE16 hE17 hE18 hE19
  clear a16 a17 a18 a19
  refine then_normal ?_
  refine wp_seq (wp_region_lit ?_)
  refine st_val hE21 (y_fieldAddr hE21 rfl fa84_3 rfl) rfl fun a22 hE22 => st_val hE22 (y_load_one hE22 rfl (hS20.cells (k := 2) rfl) rfl one3) rfl fun a23 hE23 => st_val hE23 (y_fieldAddr hE23 rfl fa90_3 rfl) rfl fun a24 hE24 => st_store hE24 hS20 [.int .i64 p0.Id, .int .i64 p0.Age, .int .i64 p0.Proc, .int .i64 p0.Began, .slice none 0 0, .slice none 0 0, .slice none 0 0, .slice none 0 0, .slice none 0 0, .int .i64 0] rfl rfl (k := 0) rfl rfl (chkOne_size one3) rfl rfl rfl rfl fun w25 (hS25 : SH (Old w) w w25 [Ck.var b5 [.int .i64 p0.Id, .int .i64 p0.Age, .int .i64 p0.Proc, .int .i64 p0.Began, .slice none 0 0, .slice none 0 0, .slice none 0 0, .slice none 0 0, .slice none 0 0, .int .i64 0] 90, Ck.var b3 [.int .i64 0, .int .i64 0, .int .i64 0, .int .i64 0, .slice none 0 0, .slice none 0 0, .slice none 0 0, .slice none 0 0, .slice none 0 0, .int .i64 0] 90, Ck.var b1 [.int .i64 p0.Id, .int .i64 p0.Age, .int .i64 p0.Proc, .int .i64 p0.Began, .slice A90000_4 p0.Calls.length cp90000_4, .slice A90000_5 p0.Answers.length cp90000_5, .slice A90000_6 p0.Touch.Reads.length cp90000_6, .slice A90000_7 p0.Touch.Writes.length cp90000_7, .slice A90000_8 p0.Marks.length cp90000_8, .int .i64 p0.State] 84]) a26 hE26 => wpList_nil ?_
  clear hE21 hE22 hE23 hE24
  clear a21 a22 a23 a24
  refine then_normal ?_
  refine wp_seq (wp_region_lit ?_)
  refine st_val hE26 (y_fieldAddr hE26 rfl fa84_4 rfl) rfl fun a27 hE27 => st_val hE27 (y_load_one hE27 rfl (hS25.cells (k := 2) rfl) rfl one79) rfl fun a28 hE28 => st_callS hE28 hS25 Tryd.func91 fb91 fn91 (c_laws_toCallS p0.Calls (hS25.up hv90000_4) hsm0.2.2.2.2.1) rfl rfl fun A29 cp29 F29 w29 hx29 hS29 a30 hE30 => st_val hE30 (y_fieldAddr hE30 rfl fa90_4 rfl) rfl fun a31 hE31 => st_store hE31 hS29 [.int .i64 p0.Id, .int .i64 p0.Age, .int .i64 p0.Proc, .int .i64 p0.Began, .slice A29 ((laws_toCallS p0.Calls).length) cp29, .slice none 0 0, .slice none 0 0, .slice none 0 0, .slice none 0 0, .int .i64 0] rfl rfl (k := 1) rfl rfl (chkOne_size one86) rfl rfl rfl rfl fun w32 (hS32 : SH (Old w) w w32 [Ck.own (α := List Call) [.slice A29 ((laws_toCallS p0.Calls).length) cp29] (laws_toCallS p0.Calls) F29, Ck.var b5 [.int .i64 p0.Id, .int .i64 p0.Age, .int .i64 p0.Proc, .int .i64 p0.Began, .slice A29 ((laws_toCallS p0.Calls).length) cp29, .slice none 0 0, .slice none 0 0, .slice none 0 0, .slice none 0 0, .int .i64 0] 90, Ck.var b3 [.int .i64 0, .int .i64 0, .int .i64 0, .int .i64 0, .slice none 0 0, .slice none 0 0, .slice none 0 0, .slice none 0 0, .slice none 0 0, .int .i64 0] 90, Ck.var b1 [.int .i64 p0.Id, .int .i64 p0.Age, .int .i64 p0.Proc, .int .i64 p0.Began, .slice A90000_4 p0.Calls.length cp90000_4, .slice A90000_5 p0.Answers.length cp90000_5, .slice A90000_6 p0.Touch.Reads.length cp90000_6, .slice A90000_7 p0.Touch.Writes.length cp90000_7, .slice A90000_8 p0.Marks.length cp90000_8, .int .i64 p0.State] 84]) a33 hE33 => wpList_nil ?_
  clear hE26 hE27 hE28 hE30 hE31
  clear a26 a27 a28 a30 a31
  refine then_normal ?_
  refine wp_seq (wp_region_lit ?_)
  refine st_val hE33 (y_fieldAddr hE33 rfl fa84_5 rfl) rfl fun a34 hE34 => st_val hE34 (y_load_one hE34 rfl (hS32.cells (k := 3) rfl) rfl one80) rfl fun a35 hE35 => st_callS hE35 hS32 Tryd.func92 fb92 fn92 (c_laws_toAnswerS p0.Answers (hS32.up hv90000_5) hsm0.2.2.2.2.2.1) rfl rfl fun A36 cp36 F36 w36 hx36 hS36 a37 hE37 => st_val hE37 (y_fieldAddr hE37 rfl fa90_5 rfl) rfl fun a38 hE38 => st_store hE38 hS36 [.int .i64 p0.Id, .int .i64 p0.Age, .int .i64 p0.Proc, .int .i64 p0.Began, .slice A29 ((laws_toCallS p0.Calls).length) cp29, .slice A36 ((laws_toAnswerS p0.Answers).length) cp36, .slice none 0 0, .slice none 0 0, .slice none 0 0, .int .i64 0] rfl rfl (k := 2) rfl rfl (chkOne_size one87) rfl rfl rfl rfl fun w39 (hS39 : SH (Old w) w w39 [Ck.own (α := List Answer) [.slice A36 ((laws_toAnswerS p0.Answers).length) cp36] (laws_toAnswerS p0.Answers) F36, Ck.own (α := List Call) [.slice A29 ((laws_toCallS p0.Calls).length) cp29] (laws_toCallS p0.Calls) F29, Ck.var b5 [.int .i64 p0.Id, .int .i64 p0.Age, .int .i64 p0.Proc, .int .i64 p0.Began, .slice A29 ((laws_toCallS p0.Calls).length) cp29, .slice A36 ((laws_toAnswerS p0.Answers).length) cp36, .slice none 0 0, .slice none 0 0, .slice none 0 0, .int .i64 0] 90, Ck.var b3 [.int .i64 0, .int .i64 0, .int .i64 0, .int .i64 0, .slice none 0 0, .slice none 0 0, .slice none 0 0, .slice none 0 0, .slice none 0 0, .int .i64 0] 90, Ck.var b1 [.int .i64 p0.Id, .int .i64 p0.Age, .int .i64 p0.Proc, .int .i64 p0.Began, .slice A90000_4 p0.Calls.length cp90000_4, .slice A90000_5 p0.Answers.length cp90000_5, .slice A90000_6 p0.Touch.Reads.length cp90000_6, .slice A90000_7 p0.Touch.Writes.length cp90000_7, .slice A90000_8 p0.Marks.length cp90000_8, .int .i64 p0.State] 84]) a40 hE40 => wpList_nil ?_
  clear hE33 hE34 hE35 hE37 hE38
  clear a33 a34 a35 a37 a38
  refine then_normal ?_
  refine wp_seq (wp_region_lit ?_)
  refine st_val hE40 (y_fieldAddr hE40 rfl fa84_6 rfl) rfl fun a41 hE41 => st_val hE41 (y_load_agg hE41 rfl (hS39.cells (k := 4) rfl) rfl rfl agg82) rfl fun a42 hE42 => st_callO (mk := fun cs => .agg cs.toArray) hE42 hS39 Tryd.func93 fb93 fn93 (c_laws_toTouch p0.Touch (hS39.upd (Touch_mk (x := p0.Touch) hv90000_6 hv90000_7)) hsm0.2.2.2.2.2.2.1) rfl rfl fun cs43 F43 w43 hS43 a44 hE44 => ?_
  clear hE40 hE41 hE42
  clear a40 a41 a42
  obtain ⟨v43_0, F43_0, v43_1, F43_1, rfl, rfl, ho43_0, ho43_1, _⟩ := Touch_oopen (show Dat.own w43 cs43 (laws_toTouch p0.Touch) F43 from hS43.get (k := 0) rfl)
  obtain ⟨A43_0, cp43_0, rfl, hx43_0⟩ := ho43_0.form
  obtain ⟨A43_1, cp43_1, rfl, hx43_1⟩ := ho43_1.form
  have hS45 := hS43.split [Ck.own (α := List ByteArray) [.slice A43_0 ((laws_toTouch p0.Touch).Reads.length) cp43_0] ((laws_toTouch p0.Touch).Reads) F43_0, Ck.own (α := List ByteArray) [.slice A43_1 ((laws_toTouch p0.Touch).Writes.length) cp43_1] ((laws_toTouch p0.Touch).Writes) F43_1] (by simp only [Ck.own, List.flatMap_cons, List.flatMap_nil, List.append_nil, List.append_assoc]) (oks_cons (ok_sl ho43_0) (oks_cons (ok_sl ho43_1) oks_nil))
  simp only [List.cons_append, List.nil_append] at hS45
  refine st_val hE44 (y_fieldAddr hE44 rfl fa90_6 rfl) rfl fun a46 hE46 => st_store hE46 hS45 [.int .i64 p0.Id, .int .i64 p0.Age, .int .i64 p0.Proc, .int .i64 p0.Began, .slice A29 ((laws_toCallS p0.Calls).length) cp29, .slice A36 ((laws_toAnswerS p0.Answers).length) cp36, .slice A43_0 ((laws_toTouch p0.Touch).Reads.length) cp43_0, .slice A43_1 ((laws_toTouch p0.Touch).Writes.length) cp43_1, .slice none 0 0, .int .i64 0] rfl rfl (k := 4) rfl rfl (chkAgg_size agg88) rfl rfl rfl rfl fun w47 (hS47 : SH (Old w) w w47 [Ck.own (α := List ByteArray) [.slice A43_0 ((laws_toTouch p0.Touch).Reads.length) cp43_0] ((laws_toTouch p0.Touch).Reads) F43_0, Ck.own (α := List ByteArray) [.slice A43_1 ((laws_toTouch p0.Touch).Writes.length) cp43_1] ((laws_toTouch p0.Touch).Writes) F43_1, Ck.own (α := List Answer) [.slice A36 ((laws_toAnswerS p0.Answers).length) cp36] (laws_toAnswerS p0.Answers) F36, Ck.own (α := List Call) [.slice A29 ((laws_toCallS p0.Calls).length) cp29] (laws_toCallS p0.Calls) F29, Ck.var b5 [.int .i64 p0.Id, .int .i64 p0.Age, .int .i64 p0.Proc, .int .i64 p0.Began, .slice A29 ((laws_toCallS p0.Calls).length) cp29, .slice A36 ((laws_toAnswerS p0.Answers).length) cp36, .slice A43_0 ((laws_toTouch p0.Touch).Reads.length) cp43_0, .slice A43_1 ((laws_toTouch p0.Touch).Writes.length) cp43_1, .slice none 0 0, .int .i64 0] 90, Ck.var b3 [.int .i64 0, .int .i64 0, .int .i64 0, .int .i64 0, .slice none 0 0, .slice none 0 0, .slice none 0 0, .slice none 0 0, .slice none 0 0, .int .i64 0] 90, Ck.var b1 [.int .i64 p0.Id, .int .i64 p0.Age, .int .i64 p0.Proc, .int .i64 p0.Began, .slice A90000_4 p0.Calls.length cp90000_4, .slice A90000_5 p0.Answers.length cp90000_5, .slice A90000_6 p0.Touch.Reads.length cp90000_6, .slice A90000_7 p0.Touch.Writes.length cp90000_7, .slice A90000_8 p0.Marks.length cp90000_8, .int .i64 p0.State] 84]) a48 hE48 => wpList_nil ?_
  clear hE44 hE46
  clear a44 a46
  refine then_normal ?_
  refine wp_seq (wp_region_lit ?_)
  refine st_val hE48 (y_fieldAddr hE48 rfl fa84_7 rfl) rfl fun a49 hE49 => st_val hE49 (y_load_one hE49 rfl (hS47.cells (k := 6) rfl) rfl one52) rfl fun a50 hE50 => st_callS hE50 hS47 Tryd.func94 fb94 fn94 (c_laws_toIntS p0.Marks (hS47.up hv90000_8) hsm0.2.2.2.2.2.2.2.1) rfl rfl fun A51 cp51 F51 w51 hx51 hS51 a52 hE52 => st_val hE52 (y_fieldAddr hE52 rfl fa90_7 rfl) rfl fun a53 hE53 => st_store hE53 hS51 [.int .i64 p0.Id, .int .i64 p0.Age, .int .i64 p0.Proc, .int .i64 p0.Began, .slice A29 ((laws_toCallS p0.Calls).length) cp29, .slice A36 ((laws_toAnswerS p0.Answers).length) cp36, .slice A43_0 ((laws_toTouch p0.Touch).Reads.length) cp43_0, .slice A43_1 ((laws_toTouch p0.Touch).Writes.length) cp43_1, .slice A51 ((laws_toIntS p0.Marks).length) cp51, .int .i64 0] rfl rfl (k := 5) rfl rfl (chkOne_size one52) rfl rfl rfl rfl fun w54 (hS54 : SH (Old w) w w54 [Ck.own (α := List Int) [.slice A51 ((laws_toIntS p0.Marks).length) cp51] (laws_toIntS p0.Marks) F51, Ck.own (α := List ByteArray) [.slice A43_0 ((laws_toTouch p0.Touch).Reads.length) cp43_0] ((laws_toTouch p0.Touch).Reads) F43_0, Ck.own (α := List ByteArray) [.slice A43_1 ((laws_toTouch p0.Touch).Writes.length) cp43_1] ((laws_toTouch p0.Touch).Writes) F43_1, Ck.own (α := List Answer) [.slice A36 ((laws_toAnswerS p0.Answers).length) cp36] (laws_toAnswerS p0.Answers) F36, Ck.own (α := List Call) [.slice A29 ((laws_toCallS p0.Calls).length) cp29] (laws_toCallS p0.Calls) F29, Ck.var b5 [.int .i64 p0.Id, .int .i64 p0.Age, .int .i64 p0.Proc, .int .i64 p0.Began, .slice A29 ((laws_toCallS p0.Calls).length) cp29, .slice A36 ((laws_toAnswerS p0.Answers).length) cp36, .slice A43_0 ((laws_toTouch p0.Touch).Reads.length) cp43_0, .slice A43_1 ((laws_toTouch p0.Touch).Writes.length) cp43_1, .slice A51 ((laws_toIntS p0.Marks).length) cp51, .int .i64 0] 90, Ck.var b3 [.int .i64 0, .int .i64 0, .int .i64 0, .int .i64 0, .slice none 0 0, .slice none 0 0, .slice none 0 0, .slice none 0 0, .slice none 0 0, .int .i64 0] 90, Ck.var b1 [.int .i64 p0.Id, .int .i64 p0.Age, .int .i64 p0.Proc, .int .i64 p0.Began, .slice A90000_4 p0.Calls.length cp90000_4, .slice A90000_5 p0.Answers.length cp90000_5, .slice A90000_6 p0.Touch.Reads.length cp90000_6, .slice A90000_7 p0.Touch.Writes.length cp90000_7, .slice A90000_8 p0.Marks.length cp90000_8, .int .i64 p0.State] 84]) a55 hE55 => wpList_nil ?_
  clear hE48 hE49 hE50 hE52 hE53
  clear a48 a49 a50 a52 a53
  refine then_normal ?_
  refine wp_seq (wp_region_lit ?_)
  refine st_val hE55 (y_fieldAddr hE55 rfl fa84_8 rfl) rfl fun a56 hE56 => st_val hE56 (y_load_one hE56 rfl (hS54.cells (k := 7) rfl) rfl one3) rfl fun a57 hE57 => st_val hE57 (y_fieldAddr hE57 rfl fa90_8 rfl) rfl fun a58 hE58 => st_store hE58 hS54 [.int .i64 p0.Id, .int .i64 p0.Age, .int .i64 p0.Proc, .int .i64 p0.Began, .slice A29 ((laws_toCallS p0.Calls).length) cp29, .slice A36 ((laws_toAnswerS p0.Answers).length) cp36, .slice A43_0 ((laws_toTouch p0.Touch).Reads.length) cp43_0, .slice A43_1 ((laws_toTouch p0.Touch).Writes.length) cp43_1, .slice A51 ((laws_toIntS p0.Marks).length) cp51, .int .i64 p0.State] rfl rfl (k := 5) rfl rfl (chkOne_size one3) rfl rfl rfl rfl fun w59 (hS59 : SH (Old w) w w59 [Ck.own (α := List Int) [.slice A51 ((laws_toIntS p0.Marks).length) cp51] (laws_toIntS p0.Marks) F51, Ck.own (α := List ByteArray) [.slice A43_0 ((laws_toTouch p0.Touch).Reads.length) cp43_0] ((laws_toTouch p0.Touch).Reads) F43_0, Ck.own (α := List ByteArray) [.slice A43_1 ((laws_toTouch p0.Touch).Writes.length) cp43_1] ((laws_toTouch p0.Touch).Writes) F43_1, Ck.own (α := List Answer) [.slice A36 ((laws_toAnswerS p0.Answers).length) cp36] (laws_toAnswerS p0.Answers) F36, Ck.own (α := List Call) [.slice A29 ((laws_toCallS p0.Calls).length) cp29] (laws_toCallS p0.Calls) F29, Ck.var b5 [.int .i64 p0.Id, .int .i64 p0.Age, .int .i64 p0.Proc, .int .i64 p0.Began, .slice A29 ((laws_toCallS p0.Calls).length) cp29, .slice A36 ((laws_toAnswerS p0.Answers).length) cp36, .slice A43_0 ((laws_toTouch p0.Touch).Reads.length) cp43_0, .slice A43_1 ((laws_toTouch p0.Touch).Writes.length) cp43_1, .slice A51 ((laws_toIntS p0.Marks).length) cp51, .int .i64 p0.State] 90, Ck.var b3 [.int .i64 0, .int .i64 0, .int .i64 0, .int .i64 0, .slice none 0 0, .slice none 0 0, .slice none 0 0, .slice none 0 0, .slice none 0 0, .int .i64 0] 90, Ck.var b1 [.int .i64 p0.Id, .int .i64 p0.Age, .int .i64 p0.Proc, .int .i64 p0.Began, .slice A90000_4 p0.Calls.length cp90000_4, .slice A90000_5 p0.Answers.length cp90000_5, .slice A90000_6 p0.Touch.Reads.length cp90000_6, .slice A90000_7 p0.Touch.Writes.length cp90000_7, .slice A90000_8 p0.Marks.length cp90000_8, .int .i64 p0.State] 84]) a60 hE60 => wpList_nil ?_
  clear hE55 hE56 hE57 hE58
  clear a55 a56 a57 a58
  refine then_normal ?_
  refine wp_seq (wp_region_lit ?_)
  refine st_val hE60 (y_load_agg hE60 rfl (hS59.cells (k := 5) rfl) rfl rfl agg90) rfl fun a61 hE61 => st_store hE61 hS59 [.int .i64 p0.Id, .int .i64 p0.Age, .int .i64 p0.Proc, .int .i64 p0.Began, .slice A29 ((laws_toCallS p0.Calls).length) cp29, .slice A36 ((laws_toAnswerS p0.Answers).length) cp36, .slice A43_0 ((laws_toTouch p0.Touch).Reads.length) cp43_0, .slice A43_1 ((laws_toTouch p0.Touch).Writes.length) cp43_1, .slice A51 ((laws_toIntS p0.Marks).length) cp51, .int .i64 p0.State] rfl rfl (k := 6) rfl rfl (chkAgg_size agg90) rfl rfl rfl rfl fun w62 (hS62 : SH (Old w) w w62 [Ck.own (α := List Int) [.slice A51 ((laws_toIntS p0.Marks).length) cp51] (laws_toIntS p0.Marks) F51, Ck.own (α := List ByteArray) [.slice A43_0 ((laws_toTouch p0.Touch).Reads.length) cp43_0] ((laws_toTouch p0.Touch).Reads) F43_0, Ck.own (α := List ByteArray) [.slice A43_1 ((laws_toTouch p0.Touch).Writes.length) cp43_1] ((laws_toTouch p0.Touch).Writes) F43_1, Ck.own (α := List Answer) [.slice A36 ((laws_toAnswerS p0.Answers).length) cp36] (laws_toAnswerS p0.Answers) F36, Ck.own (α := List Call) [.slice A29 ((laws_toCallS p0.Calls).length) cp29] (laws_toCallS p0.Calls) F29, Ck.var b5 [.int .i64 p0.Id, .int .i64 p0.Age, .int .i64 p0.Proc, .int .i64 p0.Began, .slice A29 ((laws_toCallS p0.Calls).length) cp29, .slice A36 ((laws_toAnswerS p0.Answers).length) cp36, .slice A43_0 ((laws_toTouch p0.Touch).Reads.length) cp43_0, .slice A43_1 ((laws_toTouch p0.Touch).Writes.length) cp43_1, .slice A51 ((laws_toIntS p0.Marks).length) cp51, .int .i64 p0.State] 90, Ck.var b3 [.int .i64 p0.Id, .int .i64 p0.Age, .int .i64 p0.Proc, .int .i64 p0.Began, .slice A29 ((laws_toCallS p0.Calls).length) cp29, .slice A36 ((laws_toAnswerS p0.Answers).length) cp36, .slice A43_0 ((laws_toTouch p0.Touch).Reads.length) cp43_0, .slice A43_1 ((laws_toTouch p0.Touch).Writes.length) cp43_1, .slice A51 ((laws_toIntS p0.Marks).length) cp51, .int .i64 p0.State] 90, Ck.var b1 [.int .i64 p0.Id, .int .i64 p0.Age, .int .i64 p0.Proc, .int .i64 p0.Began, .slice A90000_4 p0.Calls.length cp90000_4, .slice A90000_5 p0.Answers.length cp90000_5, .slice A90000_6 p0.Touch.Reads.length cp90000_6, .slice A90000_7 p0.Touch.Writes.length cp90000_7, .slice A90000_8 p0.Marks.length cp90000_8, .int .i64 p0.State] 84]) a63 hE63 => wpList_nil ?_
  clear hE60 hE61
  clear a60 a61
  refine then_normal ?_
  refine wp_ret ?_
  refine finC hE63 hS62 rfl rfl (k := 6) rfl agg90 rfl ?_
  rw [hM]
  exact ⟨_, _, rfl, hS62.below, Tx_own (x := (Tx.mk p0.Id p0.Age p0.Proc p0.Began (laws_toCallS p0.Calls) (laws_toAnswerS p0.Answers) (laws_toTouch p0.Touch) (laws_toIntS p0.Marks) p0.State)) hg90000_0 hg90000_1 hg90000_2 hg90000_3 (hS62.slO (k := 4) rfl) (hS62.slO (k := 3) rfl) (hS62.slO (k := 1) rfl) (hS62.slO (k := 2) rfl) (hS62.slO (k := 0) rfl) hg90000_9, (nd_app (hS62.nd (k := 4) rfl) (nd_app (hS62.nd (k := 3) rfl) (nd_app (nd_app (hS62.nd (k := 1) rfl) (hS62.nd (k := 2) rfl) (hS62.dj (i := 1) (j := 2) rfl rfl (by decide))) (nd_app (hS62.nd (k := 0) rfl) List.nodup_nil dj_nil) (fun b hb => (List.mem_append.1 hb).elim ((dj_app (hS62.dj (i := 1) (j := 0) rfl rfl (by decide)) dj_nil) b) ((dj_app (hS62.dj (i := 2) (j := 0) rfl rfl (by decide)) dj_nil) b))) (dj_app (dj_app (hS62.dj (i := 3) (j := 1) rfl rfl (by decide)) (hS62.dj (i := 3) (j := 2) rfl rfl (by decide))) (dj_app (hS62.dj (i := 3) (j := 0) rfl rfl (by decide)) dj_nil))) (dj_app (hS62.dj (i := 4) (j := 3) rfl rfl (by decide)) (dj_app (dj_app (hS62.dj (i := 4) (j := 1) rfl rfl (by decide)) (hS62.dj (i := 4) (j := 2) rfl rfl (by decide))) (dj_app (hS62.dj (i := 4) (j := 0) rfl rfl (by decide)) dj_nil)))), (ge_app (hS62.ge' (k := 4) rfl) (ge_app (hS62.ge' (k := 3) rfl) (ge_app (ge_app (hS62.ge' (k := 1) rfl) (hS62.ge' (k := 2) rfl)) (ge_app (hS62.ge' (k := 0) rfl) ge_nil))))⟩

/- F99 loop.example/g00974/laws.eqIntS -/
def laws_eqIntS_l1 (p0 : List Int) (p1 : List Int) : Nat → Nat → Bool
  | 0, i1 => true
  | fu1 + 1, i1 => (if (!decide ((nth p0 i1) = (nth p1 i1))) = true then false else laws_eqIntS_l1 p0 p1 fu1 (i1 + 1) )
def laws_eqIntS (p0 : List Int) (p1 : List Int) : Bool := (if (!decide ((p0.length : Int) = (p1.length : Int))) = true then false else laws_eqIntS_l1 p0 p1 (p0.length - 0) 0 )
theorem c_laws_eqIntS {v0 : Value} (p0 : List Int) {v1 : Value} (p1 : List Int) {w : World} (hp0 : SlR (Old w) w v0 p0) (hp1 : SlR (Old w) w v1 p1) :
    Calls Tryd.prog 99 [v0, v1].toArray w (fun e w' => e = .returned (.bool (laws_eqIntS p0 p1)) ∧ Below w.heap.size w w') := by
  obtain ⟨A0, cap0, rfl, hx0⟩ := hp0.form
  obtain ⟨A1, cap1, rfl, hx1⟩ := hp1.form
  refine enter Tryd.func99 rfl Tryd.ntmps99 (Nat.le_of_ble_eq_true rfl) ?_
  intro a0 hE0
  have hS0 := SH.start w
  have hM := laws_eqIntS.eq_1 p0 p1
  refine wp_seq (wp_region_lit ?_)
  refine st_val hE0 (y_assign hE0 rfl) rfl fun a1 hE1 => wpList_nil ?_
  clear hE0
  clear a0
  refine then_normal ?_
  refine wp_seq (wp_seq (wp_region_lit ?_))
  refine st_val hE1 (y_move hE1 rfl) rfl fun a2 hE2 => st_val hE2 (y_len_slice hE2 rfl sl52) rfl fun a3 hE3 => st_val hE3 (y_move hE3 rfl) rfl fun a4 hE4 => st_val hE4 (y_len_slice hE4 rfl sl52) rfl fun a5 hE5 => st_val hE5 (y_neq hE5 rfl rfl) rfl fun a6 hE6 => wpList_nil ?_
  clear hE1 hE2 hE3 hE4 hE5
  clear a1 a2 a3 a4 a5
  refine then_normal ?_
  refine cond_split hE6 rfl (fun hb7 => ?_) (fun hb7 => ?_)
  ·
    have hM := hM.trans (if_t hb7)
    have hb7f : ¬ ((p0.length : Int) = (p1.length : Int)) := by simpa using hb7
    refine wp_seq (wp_region_lit ?_)
    refine st_val hE6 (y_assign hE6 rfl) rfl fun a8 hE8 => wpList_nil ?_
    clear hE6
    clear a6
    refine then_normal ?_
    refine wp_ret ?_
    refine then_ret ?_
    exact fin1 hE8 rfl rfl ⟨by rw [hM], hS0.below⟩
  ·
    have hM := hM.trans (if_f hb7)
    have hb7f : (p0.length : Int) = (p1.length : Int) := by simpa using hb7
    refine wp_skip ?_
    refine then_normal ?_
    refine wp_seq (wp_seq (wp_region_lit ?_))
    refine st_val hE6 (y_assign hE6 rfl) rfl fun a9 hE9 => wpList_nil ?_
    clear hE6
    clear a6
    refine then_normal ?_
    refine wp_block (wp_loop_ghost (fun fu1 a w2 => ∃ (i1 : Nat), 0 ≤ i1 ∧ fu1 = p0.length - i1 ∧ laws_eqIntS p0 p1 = laws_eqIntS_l1 p0 p1 fu1 i1  ∧ Env 26 [(0, .slice A0 p0.length cap0), (1, .slice A1 p1.length cap1), (5, .int .i64 (i1 : Int))] a ∧ SH (Old w) w w2 []) (p0.length - 0) ⟨0, Nat.le_refl _, rfl, hM, hE9.weaken ⟨rfl, rfl, rfl, trivial⟩, hS0⟩ ?_)
    clear hM hE9
    rintro fu1 a10 w10 ⟨i1, hi1, hfu1, hM, hE10, hS10⟩
    refine wp_seq (wp_seq (wp_region_lit ?_))
    refine st_val hE10 (y_move hE10 rfl) rfl fun a11 hE11 => st_val hE11 (y_move hE11 rfl) rfl fun a12 hE12 => st_val hE12 (y_len_slice hE12 rfl sl52) rfl fun a13 hE13 => st_val hE13 (y_lss hE13 rfl rfl) rfl fun a14 hE14 => wpList_nil ?_
    clear hE10 hE11 hE12 hE13
    clear a10 a11 a12 a13
    refine then_normal ?_
    refine cond_split hE14 rfl (fun hb15 => ?_) (fun hb15 => ?_)
    ·
      have hlt1 : i1 < p0.length := by have := of_decide_eq_true hb15; omega
      obtain ⟨fu1, rfl⟩ : ∃ m, fu1 = m + 1 := ⟨fu1 - 1, by omega⟩
      have hM := hM.trans (laws_eqIntS_l1.eq_2 _ _ _ _)
      refine wp_skip ?_
      refine then_normal ?_
      refine wp_seq (wp_block (wp_seq (reg_quiet mixed (by kernel_rfl) hS10 ?_)))
      refine q_val hE14 (fun w10 hS10 => y_move hE14 rfl) rfl fun a16 hE16 => q_val hE16 (fun w10 hS10 => y_move hE16 rfl) rfl fun a17 hE17 => q_index hE17 hp0 rfl rfl rfl (by omega) sl52 rfl fun ad18 cs18 hr18 hc18 hl18 a19 hE19 => ?_
      obtain ⟨rfl, hg18⟩ := hr18
      refine q_val hE19 (fun w10 hS10 => y_load_one hE19 rfl (hS10.upc hc18 hl18) rfl one3) rfl fun a20 hE20 => q_val hE20 (fun w10 hS10 => y_move hE20 rfl) rfl fun a21 hE21 => q_val hE21 (fun w10 hS10 => y_move hE21 rfl) rfl fun a22 hE22 => q_index hE22 hp1 rfl rfl rfl (by omega) sl52 rfl fun ad23 cs23 hr23 hc23 hl23 a24 hE24 => ?_
      obtain ⟨rfl, hg23⟩ := hr23
      refine q_val hE24 (fun w10 hS10 => y_load_one hE24 rfl (hS10.upc hc23 hl23) rfl one3) rfl fun a25 hE25 => q_val hE25 (fun w10 hS10 => y_neq hE25 rfl rfl) rfl fun a26 hE26 => ?_
      refine q_nil fun w27 hS27 => ?_
      clear hE14 hE16 hE17 hE19 hE20 hE21 hE22 hE24 hE25
      clear a14 a16 a17 a19 a20 a21 a22 a24 a25
      refine then_normal ?_
      refine cond_split hE26 rfl (fun hb28 => ?_) (fun hb28 => ?_)
      ·
        have hM := hM.trans (if_t hb28)
        have hb28f : ¬ ((nth p0 i1) = (nth p1 i1)) := by simpa using hb28
        refine wp_seq (wp_region_lit ?_)
        refine st_val hE26 (y_assign hE26 rfl) rfl fun a29 hE29 => wpList_nil ?_
        clear hE26
        clear a26
        refine then_normal ?_
        refine wp_ret ?_
        refine blk_ret ?_
        refine then_ret ?_
        refine then_ret ?_
        refine blk_ret ?_
        refine then_ret ?_
        exact fin1 hE29 rfl rfl ⟨by rw [hM], hS27.below⟩
      ·
        have hM := hM.trans (if_f hb28)
        have hb28f : (nth p0 i1) = (nth p1 i1) := by simpa using hb28
        refine wp_skip ?_
        refine blk_normal ?_
        refine then_normal ?_
        refine wp_region_lit ?_
        refine st_val hE26 (y_move hE26 rfl) rfl fun a30 hE30 => st_val hE30 (y_add_in hE30 rfl rfl (m := ((i1 + 1 : Nat) : Int)) (by omega) (by omega) (by omega)) rfl fun a31 hE31 => st_val hE31 (y_assign hE31 rfl) rfl fun a32 hE32 => wpList_nil ?_
        clear hE26 hE30 hE31
        clear a26 a30 a31
        refine then_normal ⟨fu1, Nat.lt_succ_self _, (i1 + 1), by omega, by omega, hM, hE32.weaken ⟨rfl, rfl, rfl, trivial⟩, hS27⟩
    ·
      have hge1 : ¬ i1 < p0.length := by have := of_decide_eq_false hb15; omega
      obtain rfl : fu1 = 0 := by omega
      have hM := hM.trans (laws_eqIntS_l1.eq_1 _ _ _)
      refine wp_exit ?_
      refine then_exit ?_
      refine then_exit ?_
      refine blk_exit ?_
      refine then_normal ?_
      refine wp_seq (wp_region_lit ?_)
      refine st_val hE14 (y_assign hE14 rfl) rfl fun a33 hE33 => wpList_nil ?_
      clear hE14
      clear a14
      refine then_normal ?_
      refine wp_ret ?_
      exact fin1 hE33 rfl rfl ⟨by rw [hM], hS10.below⟩

/- F96 loop.example/g00974/laws.eqCallS -/
def laws_eqCallS_l1 (p0 : List Call) (p1 : List Call) : Nat → Nat → Bool
  | 0, i1 => true
  | fu1 + 1, i1 => (if (!(laws_eqCall (nth p0 i1) (nth p1 i1))) = true then false else laws_eqCallS_l1 p0 p1 fu1 (i1 + 1) )
def laws_eqCallS (p0 : List Call) (p1 : List Call) : Bool := (if (!decide ((p0.length : Int) = (p1.length : Int))) = true then false else laws_eqCallS_l1 p0 p1 (p0.length - 0) 0 )
theorem c_laws_eqCallS {v0 : Value} (p0 : List Call) {v1 : Value} (p1 : List Call) {w : World} (hp0 : SlR (Old w) w v0 p0) (hp1 : SlR (Old w) w v1 p1) :
    Calls Tryd.prog 96 [v0, v1].toArray w (fun e w' => e = .returned (.bool (laws_eqCallS p0 p1)) ∧ Below w.heap.size w w') := by
  obtain ⟨A0, cap0, rfl, hx0⟩ := hp0.form
  obtain ⟨A1, cap1, rfl, hx1⟩ := hp1.form
  refine enter Tryd.func96 rfl Tryd.ntmps96 (Nat.le_of_ble_eq_true rfl) ?_
  intro a0 hE0
  have hS0 := SH.start w
  have hM := laws_eqCallS.eq_1 p0 p1
  refine wp_seq (wp_region_lit ?_)
  refine st_val hE0 (y_assign hE0 rfl) rfl fun a1 hE1 => wpList_nil ?_
  clear hE0
  clear a0
  refine then_normal ?_
  refine wp_seq (wp_seq (wp_region_lit ?_))
  refine st_val hE1 (y_move hE1 rfl) rfl fun a2 hE2 => st_val hE2 (y_len_slice hE2 rfl sl86) rfl fun a3 hE3 => st_val hE3 (y_move hE3 rfl) rfl fun a4 hE4 => st_val hE4 (y_len_slice hE4 rfl sl86) rfl fun a5 hE5 => st_val hE5 (y_neq hE5 rfl rfl) rfl fun a6 hE6 => wpList_nil ?_
  clear hE1 hE2 hE3 hE4 hE5
  clear a1 a2 a3 a4 a5
  refine then_normal ?_
  refine cond_split hE6 rfl (fun hb7 => ?_) (fun hb7 => ?_)
  ·
    have hM := hM.trans (if_t hb7)
    have hb7f : ¬ ((p0.length : Int) = (p1.length : Int)) := by simpa using hb7
    refine wp_seq (wp_region_lit ?_)
    refine st_val hE6 (y_assign hE6 rfl) rfl fun a8 hE8 => wpList_nil ?_
    clear hE6
    clear a6
    refine then_normal ?_
    refine wp_ret ?_
    refine then_ret ?_
    exact fin1 hE8 rfl rfl ⟨by rw [hM], hS0.below⟩
  ·
    have hM := hM.trans (if_f hb7)
    have hb7f : (p0.length : Int) = (p1.length : Int) := by simpa using hb7
    refine wp_skip ?_
    refine then_normal ?_
    refine wp_seq (wp_seq (wp_region_lit ?_))
    refine st_val hE6 (y_assign hE6 rfl) rfl fun a9 hE9 => wpList_nil ?_
    clear hE6
    clear a6
    refine then_normal ?_
    refine wp_block (wp_loop_ghost (fun fu1 a w2 => ∃ (i1 : Nat), 0 ≤ i1 ∧ fu1 = p0.length - i1 ∧ laws_eqCallS p0 p1 = laws_eqCallS_l1 p0 p1 fu1 i1  ∧ Env 27 [(0, .slice A0 p0.length cap0), (1, .slice A1 p1.length cap1), (5, .int .i64 (i1 : Int))] a ∧ SH (Old w) w w2 []) (p0.length - 0) ⟨0, Nat.le_refl _, rfl, hM, hE9.weaken ⟨rfl, rfl, rfl, trivial⟩, hS0⟩ ?_)
    clear hM hE9
    rintro fu1 a10 w10 ⟨i1, hi1, hfu1, hM, hE10, hS10⟩
    refine wp_seq (wp_seq (wp_region_lit ?_))
    refine st_val hE10 (y_move hE10 rfl) rfl fun a11 hE11 => st_val hE11 (y_move hE11 rfl) rfl fun a12 hE12 => st_val hE12 (y_len_slice hE12 rfl sl86) rfl fun a13 hE13 => st_val hE13 (y_lss hE13 rfl rfl) rfl fun a14 hE14 => wpList_nil ?_
    clear hE10 hE11 hE12 hE13
    clear a10 a11 a12 a13
    refine then_normal ?_
    refine cond_split hE14 rfl (fun hb15 => ?_) (fun hb15 => ?_)
    ·
      have hlt1 : i1 < p0.length := by have := of_decide_eq_true hb15; omega
      obtain ⟨fu1, rfl⟩ : ∃ m, fu1 = m + 1 := ⟨fu1 - 1, by omega⟩
      have hM := hM.trans (laws_eqCallS_l1.eq_2 _ _ _ _)
      refine wp_skip ?_
      refine then_normal ?_
      refine wp_seq (wp_block (wp_seq (reg_quiet mixed (by kernel_rfl) hS10 ?_)))
      refine q_val hE14 (fun w10 hS10 => y_move hE14 rfl) rfl fun a16 hE16 => q_val hE16 (fun w10 hS10 => y_move hE16 rfl) rfl fun a17 hE17 => q_index hE17 hp0 rfl rfl rfl (by omega) sl86 rfl fun ad18 cs18 hr18 hc18 hl18 a19 hE19 => ?_
      obtain ⟨rfl, hg18_0, hg18_1, hg18_2, hg18_3, hg18_4, hg18_5, _⟩ := Call_open hr18
      refine q_val hE19 (fun w10 hS10 => y_load_agg hE19 rfl (hS10.upc hc18 hl18) rfl rfl agg28) rfl fun a20 hE20 => q_val hE20 (fun w10 hS10 => y_move hE20 rfl) rfl fun a21 hE21 => q_val hE21 (fun w10 hS10 => y_move hE21 rfl) rfl fun a22 hE22 => q_index hE22 hp1 rfl rfl rfl (by omega) sl86 rfl fun ad23 cs23 hr23 hc23 hl23 a24 hE24 => ?_
      obtain ⟨rfl, hg23_0, hg23_1, hg23_2, hg23_3, hg23_4, hg23_5, _⟩ := Call_open hr23
      refine q_val hE24 (fun w10 hS10 => y_load_agg hE24 rfl (hS10.upc hc23 hl23) rfl rfl agg28) rfl fun a25 hE25 => q_call hE25 Tryd.func39 fb39 fn39 (fun w10 hS10 => (c_laws_eqCall (nth p0 i1) (nth p1 i1) (hS10.upd hr18) (hS10.upd hr23))) rfl rfl fun a26 hE26 => q_val hE26 (fun w10 hS10 => y_not hE26 rfl) rfl fun a27 hE27 => ?_
      refine q_nil fun w28 hS28 => ?_
      clear hE14 hE16 hE17 hE19 hE20 hE21 hE22 hE24 hE25 hE26
      clear a14 a16 a17 a19 a20 a21 a22 a24 a25 a26
      refine then_normal ?_
      refine cond_split hE27 rfl (fun hb29 => ?_) (fun hb29 => ?_)
      ·
        have hM := hM.trans (if_t hb29)
        refine wp_seq (wp_region_lit ?_)
        refine st_val hE27 (y_assign hE27 rfl) rfl fun a30 hE30 => wpList_nil ?_
        clear hE27
        clear a27
        refine then_normal ?_
        refine wp_ret ?_
        refine blk_ret ?_
        refine then_ret ?_
        refine then_ret ?_
        refine blk_ret ?_
        refine then_ret ?_
        exact fin1 hE30 rfl rfl ⟨by rw [hM], hS28.below⟩
      ·
        have hM := hM.trans (if_f hb29)
        refine wp_skip ?_
        refine blk_normal ?_
        refine then_normal ?_
        refine wp_region_lit ?_
        refine st_val hE27 (y_move hE27 rfl) rfl fun a31 hE31 => st_val hE31 (y_add_in hE31 rfl rfl (m := ((i1 + 1 : Nat) : Int)) (by omega) (by omega) (by omega)) rfl fun a32 hE32 => st_val hE32 (y_assign hE32 rfl) rfl fun a33 hE33 => wpList_nil ?_
        clear hE27 hE31 hE32
        clear a27 a31 a32
        refine then_normal ⟨fu1, Nat.lt_succ_self _, (i1 + 1), by omega, by omega, hM, hE33.weaken ⟨rfl, rfl, rfl, trivial⟩, hS28⟩
    ·
      have hge1 : ¬ i1 < p0.length := by have := of_decide_eq_false hb15; omega
      obtain rfl : fu1 = 0 := by omega
      have hM := hM.trans (laws_eqCallS_l1.eq_1 _ _ _)
      refine wp_exit ?_
      refine then_exit ?_
      refine then_exit ?_
      refine blk_exit ?_
      refine then_normal ?_
      refine wp_seq (wp_region_lit ?_)
      refine st_val hE14 (y_assign hE14 rfl) rfl fun a34 hE34 => wpList_nil ?_
      clear hE14
      clear a14
      refine then_normal ?_
      refine wp_ret ?_
      exact fin1 hE34 rfl rfl ⟨by rw [hM], hS10.below⟩

/- F98 loop.example/g00974/laws.eqTouch -/
def laws_eqTouch (p0 : Touch) (p1 : Touch) : Bool := (if (!(laws_eqStringS p0.Reads p1.Reads)) = true then false else (if (!(laws_eqStringS p0.Writes p1.Writes)) = true then false else true))
theorem c_laws_eqTouch {c0 : List Value} (p0 : Touch) {c1 : List Value} (p1 : Touch) {w : World} (hp0 : Dat.rd (Old w) w c0 p0) (hp1 : Dat.rd (Old w) w c1 p1) :
    Calls Tryd.prog 98 [.agg c0.toArray, .agg c1.toArray].toArray w (fun e w' => e = .returned (.bool (laws_eqTouch p0 p1)) ∧ Below w.heap.size w w') := by
  obtain ⟨v90000_0, v90000_1, rfl, hv90000_0, hv90000_1, _⟩ := Touch_open hp0
  obtain ⟨A90000_0, cp90000_0, rfl, hx90000_0⟩ := hv90000_0.form
  obtain ⟨A90000_1, cp90000_1, rfl, hx90000_1⟩ := hv90000_1.form
  obtain ⟨v90001_0, v90001_1, rfl, hv90001_0, hv90001_1, _⟩ := Touch_open hp1
  obtain ⟨A90001_0, cp90001_0, rfl, hx90001_0⟩ := hv90001_0.form
  obtain ⟨A90001_1, cp90001_1, rfl, hx90001_1⟩ := hv90001_1.form
  refine enter Tryd.func98 rfl Tryd.ntmps98 (Nat.le_of_ble_eq_true rfl) ?_
  intro a0 hE0
  have hS0 := SH.start w
  have hM := laws_eqTouch.eq_1 p0 p1
  refine wp_seq (wp_region_lit ?_)
  refine st_box hE0 hS0 rfl rfl rfl fun b1 w1 hS1 a2 hE2 => st_box hE2 hS1 rfl rfl rfl fun b3 w3 hS3 a4 hE4 => st_val hE4 (y_assign hE4 rfl) rfl fun a5 hE5 => wpList_nil ?_
  clear hE0 hE2 hE4
  clear a0 a2 a4
  refine then_normal ?_
  refine wp_seq (wp_seq (wp_region_lit ?_))
  refine st_val hE5 (y_fieldAddr hE5 rfl fa88_0 rfl) rfl fun a6 hE6 => st_val hE6 (y_load_one hE6 rfl (hS3.cells (k := 1) rfl) rfl one43) rfl fun a7 hE7 => st_val hE7 (y_fieldAddr hE7 rfl fa88_0 rfl) rfl fun a8 hE8 => st_val hE8 (y_load_one hE8 rfl (hS3.cells (k := 0) rfl) rfl one43) rfl fun a9 hE9 => st_callF hE9 hS3 Tryd.func26 fb26 fn26 (c_laws_eqStringS p0.Reads p1.Reads (hS3.up hv90000_0) (hS3.up hv90001_0)) rfl rfl fun w10 hS10 a11 hE11 => st_val hE11 (y_not hE11 rfl) rfl fun a12 hE12 => wpList_nil ?_
  clear hE5 hE6 hE7 hE8 hE9 hE11
  clear a5 a6 a7 a8 a9 a11
  refine then_normal ?_
  refine cond_split hE12 rfl (fun hb13 => ?_) (fun hb13 => ?_)
  ·
    have hM := hM.trans (if_t hb13)
    refine wp_seq (wp_region_lit ?_)
    refine st_val hE12 (y_assign hE12 rfl) rfl fun a14 hE14 => wpList_nil ?_
    clear hE12
    clear a12
    refine then_normal ?_
    refine wp_ret ?_
    refine then_ret ?_
    exact fin1 hE14 rfl rfl ⟨by rw [hM], hS10.below⟩
  ·
    have hM := hM.trans (if_f hb13)
    refine wp_skip ?_
    refine then_normal ?_
    refine wp_seq (wp_seq (wp_region_lit ?_))
    refine st_val hE12 (y_fieldAddr hE12 rfl fa88_1 rfl) rfl fun a15 hE15 => st_val hE15 (y_load_one hE15 rfl (hS10.cells (k := 1) rfl) rfl one43) rfl fun a16 hE16 => st_val hE16 (y_fieldAddr hE16 rfl fa88_1 rfl) rfl fun a17 hE17 => st_val hE17 (y_load_one hE17 rfl (hS10.cells (k := 0) rfl) rfl one43) rfl fun a18 hE18 => st_callF hE18 hS10 Tryd.func26 fb26 fn26 (c_laws_eqStringS p0.Writes p1.Writes (hS10.up hv90000_1) (hS10.up hv90001_1)) rfl rfl fun w19 hS19 a20 hE20 => st_val hE20 (y_not hE20 rfl) rfl fun a21 hE21 => wpList_nil ?_
    clear hE12 hE15 hE16 hE17 hE18 hE20
    clear a12 a15 a16 a17 a18 a20
    refine then_normal ?_
    refine cond_split hE21 rfl (fun hb22 => ?_) (fun hb22 => ?_)
    ·
      have hM := hM.trans (if_t hb22)
      refine wp_seq (wp_region_lit ?_)
      refine st_val hE21 (y_assign hE21 rfl) rfl fun a23 hE23 => wpList_nil ?_
      clear hE21
      clear a21
      refine then_normal ?_
      refine wp_ret ?_
      refine then_ret ?_
      exact fin1 hE23 rfl rfl ⟨by rw [hM], hS19.below⟩
    ·
      have hM := hM.trans (if_f hb22)
      refine wp_skip ?_
      refine then_normal ?_
      refine wp_seq (wp_region_lit ?_)
      refine st_val hE21 (y_assign hE21 rfl) rfl fun a24 hE24 => wpList_nil ?_
      clear hE21
      clear a21
      refine then_normal ?_
      refine wp_ret ?_
      exact fin1 hE24 rfl rfl ⟨by rw [hM], hS19.below⟩

/- F67 loop.example/g00974/laws.eqTx -/
def laws_eqTx (p0 : Tx) (p1 : Tx) : Bool := (if (!decide (p0.Id = p1.Id)) = true then false else (if (!decide (p0.Age = p1.Age)) = true then false else (if (!decide (p0.Proc = p1.Proc)) = true then false else (if (!decide (p0.Began = p1.Began)) = true then false else (if (!(laws_eqCallS p0.Calls p1.Calls)) = true then false else (if (!(laws_eqAnswerS p0.Answers p1.Answers)) = true then false else (if (!(laws_eqTouch p0.Touch p1.Touch)) = true then false else (if (!(laws_eqIntS p0.Marks p1.Marks)) = true then false else (if (!decide (p0.State = p1.State)) = true then false else true)))))))))
theorem c_laws_eqTx {c0 : List Value} (p0 : Tx) {c1 : List Value} (p1 : Tx) {w : World} (hp0 : Dat.rd (Old w) w c0 p0) (hp1 : Dat.rd (Old w) w c1 p1) :
    Calls Tryd.prog 67 [.agg c0.toArray, .agg c1.toArray].toArray w (fun e w' => e = .returned (.bool (laws_eqTx p0 p1)) ∧ Below w.heap.size w w') := by
  obtain ⟨v90000_4, v90000_5, v90000_6, v90000_7, v90000_8, rfl, hg90000_0, hg90000_1, hg90000_2, hg90000_3, hv90000_4, hv90000_5, hv90000_6, hv90000_7, hv90000_8, hg90000_9, _⟩ := Tx_open hp0
  obtain ⟨A90000_4, cp90000_4, rfl, hx90000_4⟩ := hv90000_4.form
  obtain ⟨A90000_5, cp90000_5, rfl, hx90000_5⟩ := hv90000_5.form
  obtain ⟨A90000_6, cp90000_6, rfl, hx90000_6⟩ := hv90000_6.form
  obtain ⟨A90000_7, cp90000_7, rfl, hx90000_7⟩ := hv90000_7.form
  obtain ⟨A90000_8, cp90000_8, rfl, hx90000_8⟩ := hv90000_8.form
  obtain ⟨v90001_4, v90001_5, v90001_6, v90001_7, v90001_8, rfl, hg90001_0, hg90001_1, hg90001_2, hg90001_3, hv90001_4, hv90001_5, hv90001_6, hv90001_7, hv90001_8, hg90001_9, _⟩ := Tx_open hp1
  obtain ⟨A90001_4, cp90001_4, rfl, hx90001_4⟩ := hv90001_4.form
  obtain ⟨A90001_5, cp90001_5, rfl, hx90001_5⟩ := hv90001_5.form
  obtain ⟨A90001_6, cp90001_6, rfl, hx90001_6⟩ := hv90001_6.form
  obtain ⟨A90001_7, cp90001_7, rfl, hx90001_7⟩ := hv90001_7.form
  obtain ⟨A90001_8, cp90001_8, rfl, hx90001_8⟩ := hv90001_8.form
  refine enter Tryd.func67 rfl Tryd.ntmps67 (Nat.le_of_ble_eq_true rfl) ?_
  intro a0 hE0
  have hS0 := SH.start w
  have hM := laws_eqTx.eq_1 p0 p1
  refine wp_seq (wp_region_lit ?_)
  refine st_box hE0 hS0 rfl rfl rfl fun b1 w1 hS1 a2 hE2 => st_box hE2 hS1 rfl rfl rfl fun b3 w3 hS3 a4 hE4 => st_val hE4 (y_assign hE4 rfl) rfl fun a5 hE5 => wpList_nil ?_
  clear hE0 hE2 hE4
  clear a0 a2 a4
  refine then_normal ?_
  refine wp_seq (wp_seq (wp_region_lit ?_))
  refine st_val hE5 (y_fieldAddr hE5 rfl fa90_0 rfl) rfl fun a6 hE6 => st_val hE6 (y_load_one hE6 rfl (hS3.cells (k := 1) rfl) rfl one3) rfl fun a7 hE7 => st_val hE7 (y_fieldAddr hE7 rfl fa90_0 rfl) rfl fun a8 hE8 => st_val hE8 (y_load_one hE8 rfl (hS3.cells (k := 0) rfl) rfl one3) rfl fun a9 hE9 => st_val hE9 (y_neq hE9 rfl rfl) rfl fun a10 hE10 => wpList_nil ?_
  clear hE5 hE6 hE7 hE8 hE9
  clear a5 a6 a7 a8 a9
  refine then_normal ?_
  refine cond_split hE10 rfl (fun hb11 => ?_) (fun hb11 => ?_)
  ·
    have hM := hM.trans (if_t hb11)
    have hb11f : ¬ (p0.Id = p1.Id) := by simpa using hb11
    refine wp_seq (wp_region_lit ?_)
    refine st_val hE10 (y_assign hE10 rfl) rfl fun a12 hE12 => wpList_nil ?_
    clear hE10
    clear a10
    refine then_normal ?_
    refine wp_ret ?_
    refine then_ret ?_
    exact fin1 hE12 rfl rfl ⟨by rw [hM], hS3.below⟩
  ·
    have hM := hM.trans (if_f hb11)
    have hb11f : p0.Id = p1.Id := by simpa using hb11
    refine wp_skip ?_
    refine then_normal ?_
    refine wp_seq (wp_seq (wp_region_lit ?_))
    refine st_val hE10 (y_fieldAddr hE10 rfl fa90_1 rfl) rfl fun a13 hE13 => st_val hE13 (y_load_one hE13 rfl (hS3.cells (k := 1) rfl) rfl one3) rfl fun a14 hE14 => st_val hE14 (y_fieldAddr hE14 rfl fa90_1 rfl) rfl fun a15 hE15 => st_val hE15 (y_load_one hE15 rfl (hS3.cells (k := 0) rfl) rfl one3) rfl fun a16 hE16 => st_val hE16 (y_neq hE16 rfl rfl) rfl fun a17 hE17 => wpList_nil ?_
    clear hE10 hE13 hE14 hE15 hE16
    clear a10 a13 a14 a15 a16
    refine then_normal ?_
    refine cond_split hE17 rfl (fun hb18 => ?_) (fun hb18 => ?_)
    ·
      have hM := hM.trans (if_t hb18)
      have hb18f : ¬ (p0.Age = p1.Age) := by simpa using hb18
      refine wp_seq (wp_region_lit ?_)
      refine st_val hE17 (y_assign hE17 rfl) rfl fun a19 hE19 => wpList_nil ?_
      clear hE17
      clear a17
      refine then_normal ?_
      refine wp_ret ?_
      refine then_ret ?_
      exact fin1 hE19 rfl rfl ⟨by rw [hM], hS3.below⟩
    ·
      have hM := hM.trans (if_f hb18)
      have hb18f : p0.Age = p1.Age := by simpa using hb18
      refine wp_skip ?_
      refine then_normal ?_
      refine wp_seq (wp_seq (wp_region_lit ?_))
      refine st_val hE17 (y_fieldAddr hE17 rfl fa90_2 rfl) rfl fun a20 hE20 => st_val hE20 (y_load_one hE20 rfl (hS3.cells (k := 1) rfl) rfl one3) rfl fun a21 hE21 => st_val hE21 (y_fieldAddr hE21 rfl fa90_2 rfl) rfl fun a22 hE22 => st_val hE22 (y_load_one hE22 rfl (hS3.cells (k := 0) rfl) rfl one3) rfl fun a23 hE23 => st_val hE23 (y_neq hE23 rfl rfl) rfl fun a24 hE24 => wpList_nil ?_
      clear hE17 hE20 hE21 hE22 hE23
      clear a17 a20 a21 a22 a23
      refine then_normal ?_
      refine cond_split hE24 rfl (fun hb25 => ?_) (fun hb25 => ?_)
      ·
        have hM := hM.trans (if_t hb25)
        have hb25f : ¬ (p0.Proc = p1.Proc) := by simpa using hb25
        refine wp_seq (wp_region_lit ?_)
        refine st_val hE24 (y_assign hE24 rfl) rfl fun a26 hE26 => wpList_nil ?_
        clear hE24
        clear a24
        refine then_normal ?_
        refine wp_ret ?_
        refine then_ret ?_
        exact fin1 hE26 rfl rfl ⟨by rw [hM], hS3.below⟩
      ·
        have hM := hM.trans (if_f hb25)
        have hb25f : p0.Proc = p1.Proc := by simpa using hb25
        refine wp_skip ?_
        refine then_normal ?_
        refine wp_seq (wp_seq (wp_region_lit ?_))
        refine st_val hE24 (y_fieldAddr hE24 rfl fa90_3 rfl) rfl fun a27 hE27 => st_val hE27 (y_load_one hE27 rfl (hS3.cells (k := 1) rfl) rfl one3) rfl fun a28 hE28 => st_val hE28 (y_fieldAddr hE28 rfl fa90_3 rfl) rfl fun a29 hE29 => st_val hE29 (y_load_one hE29 rfl (hS3.cells (k := 0) rfl) rfl one3) rfl fun a30 hE30 => st_val hE30 (y_neq hE30 rfl rfl) rfl fun a31 hE31 => wpList_nil ?_
        clear hE24 hE27 hE28 hE29 hE30
        clear a24 a27 a28 a29 a30
        refine then_normal ?_
        refine cond_split hE31 rfl (fun hb32 => ?_) (fun hb32 => ?_)
        ·
          have hM := hM.trans (if_t hb32)
          have hb32f : ¬ (p0.Began = p1.Began) := by simpa using hb32
          refine wp_seq (wp_region_lit ?_)
          refine st_val hE31 (y_assign hE31 rfl) rfl fun a33 hE33 => wpList_nil ?_
          clear hE31
          clear a31
          refine then_normal ?_
          refine wp_ret ?_
          refine then_ret ?_
          exact fin1 hE33 rfl rfl ⟨by rw [hM], hS3.below⟩
        ·
          have hM := hM.trans (if_f hb32)
          have hb32f : p0.Began = p1.Began := by simpa using hb32
          refine wp_skip ?_
          refine then_normal ?_
          refine wp_seq (wp_seq (wp_region_lit ?_))
          refine st_val hE31 (y_fieldAddr hE31 rfl fa90_4 rfl) rfl fun a34 hE34 => st_val hE34 (y_load_one hE34 rfl (hS3.cells (k := 1) rfl) rfl one86) rfl fun a35 hE35 => st_val hE35 (y_fieldAddr hE35 rfl fa90_4 rfl) rfl fun a36 hE36 => st_val hE36 (y_load_one hE36 rfl (hS3.cells (k := 0) rfl) rfl one86) rfl fun a37 hE37 => st_callF hE37 hS3 Tryd.func96 fb96 fn96 (c_laws_eqCallS p0.Calls p1.Calls (hS3.up hv90000_4) (hS3.up hv90001_4)) rfl rfl fun w38 hS38 a39 hE39 => st_val hE39 (y_not hE39 rfl) rfl fun a40 hE40 => wpList_nil ?_
          clear hE31 hE34 hE35 hE36 hE37 hE39
          clear a31 a34 a35 a36 a37 a39
          refine then_normal ?_
          refine cond_split hE40 rfl (fun hb41 => ?_) (fun hb41 => ?_)
          ·
            have hM := hM.trans (if_t hb41)
            refine wp_seq (wp_region_lit ?_)
            refine st_val hE40 (y_assign hE40 rfl) rfl fun a42 hE42 => wpList_nil ?_
            clear hE40
            clear a40
            refine then_normal ?_
            refine wp_ret ?_
            refine then_ret ?_
            exact fin1 hE42 rfl rfl ⟨by rw [hM], hS38.below⟩
          ·
            have hM := hM.trans (if_f hb41)
            refine wp_skip ?_
            refine then_normal ?_
            refine wp_seq (wp_seq (wp_region_lit ?_))
            refine st_val hE40 (y_fieldAddr hE40 rfl fa90_5 rfl) rfl fun a43 hE43 => st_val hE43 (y_load_one hE43 rfl (hS38.cells (k := 1) rfl) rfl one87) rfl fun a44 hE44 => st_val hE44 (y_fieldAddr hE44 rfl fa90_5 rfl) rfl fun a45 hE45 => st_val hE45 (y_load_one hE45 rfl (hS38.cells (k := 0) rfl) rfl one87) rfl fun a46 hE46 => st_callF hE46 hS38 Tryd.func97 fb97 fn97 (c_laws_eqAnswerS p0.Answers p1.Answers (hS38.up hv90000_5) (hS38.up hv90001_5)) rfl rfl fun w47 hS47 a48 hE48 => st_val hE48 (y_not hE48 rfl) rfl fun a49 hE49 => wpList_nil ?_
            clear hE40 hE43 hE44 hE45 hE46 hE48
            clear a40 a43 a44 a45 a46 a48
            refine then_normal ?_
            refine cond_split hE49 rfl (fun hb50 => ?_) (fun hb50 => ?_)
            ·
              have hM := hM.trans (if_t hb50)
              refine wp_seq (wp_region_lit ?_)
              refine st_val hE49 (y_assign hE49 rfl) rfl fun a51 hE51 => wpList_nil ?_
              clear hE49
              clear a49
              refine then_normal ?_
              refine wp_ret ?_
              refine then_ret ?_
              exact fin1 hE51 rfl rfl ⟨by rw [hM], hS47.below⟩
            ·
              have hM := hM.trans (if_f hb50)
              refine wp_skip ?_
              refine then_normal ?_
              refine wp_seq (wp_seq (wp_region_lit ?_))
              refine st_val hE49 (y_fieldAddr hE49 rfl fa90_6 rfl) rfl fun a52 hE52 => st_val hE52 (y_load_agg hE52 rfl (hS47.cells (k := 1) rfl) rfl rfl agg88) rfl fun a53 hE53 => st_val hE53 (y_fieldAddr hE53 rfl fa90_6 rfl) rfl fun a54 hE54 => st_val hE54 (y_load_agg hE54 rfl (hS47.cells (k := 0) rfl) rfl rfl agg88) rfl fun a55 hE55 => st_callF hE55 hS47 Tryd.func98 fb98 fn98 (c_laws_eqTouch p0.Touch p1.Touch (hS47.upd (Touch_mk (x := p0.Touch) hv90000_6 hv90000_7)) (hS47.upd (Touch_mk (x := p1.Touch) hv90001_6 hv90001_7))) rfl rfl fun w56 hS56 a57 hE57 => st_val hE57 (y_not hE57 rfl) rfl fun a58 hE58 => wpList_nil ?_
              clear hE49 hE52 hE53 hE54 hE55 hE57
              clear a49 a52 a53 a54 a55 a57
              refine then_normal ?_
              refine cond_split hE58 rfl (fun hb59 => ?_) (fun hb59 => ?_)
              ·
                have hM := hM.trans (if_t hb59)
                refine wp_seq (wp_region_lit ?_)
                refine st_val hE58 (y_assign hE58 rfl) rfl fun a60 hE60 => wpList_nil ?_
                clear hE58
                clear a58
                refine then_normal ?_
                refine wp_ret ?_
                refine then_ret ?_
                exact fin1 hE60 rfl rfl ⟨by rw [hM], hS56.below⟩
              ·
                have hM := hM.trans (if_f hb59)
                refine wp_skip ?_
                refine then_normal ?_
                refine wp_seq (wp_seq (wp_region_lit ?_))
                refine st_val hE58 (y_fieldAddr hE58 rfl fa90_7 rfl) rfl fun a61 hE61 => st_val hE61 (y_load_one hE61 rfl (hS56.cells (k := 1) rfl) rfl one52) rfl fun a62 hE62 => st_val hE62 (y_fieldAddr hE62 rfl fa90_7 rfl) rfl fun a63 hE63 => st_val hE63 (y_load_one hE63 rfl (hS56.cells (k := 0) rfl) rfl one52) rfl fun a64 hE64 => st_callF hE64 hS56 Tryd.func99 fb99 fn99 (c_laws_eqIntS p0.Marks p1.Marks (hS56.up hv90000_8) (hS56.up hv90001_8)) rfl rfl fun w65 hS65 a66 hE66 => st_val hE66 (y_not hE66 rfl) rfl fun a67 hE67 => wpList_nil ?_
                clear hE58 hE61 hE62 hE63 hE64 hE66
                clear a58 a61 a62 a63 a64 a66
                refine then_normal ?_
                refine cond_split hE67 rfl (fun hb68 => ?_) (fun hb68 => ?_)
                ·
                  have hM := hM.trans (if_t hb68)
                  refine wp_seq (wp_region_lit ?_)
                  refine st_val hE67 (y_assign hE67 rfl) rfl fun a69 hE69 => wpList_nil ?_
                  clear hE67
                  clear a67
                  refine then_normal ?_
                  refine wp_ret ?_
                  refine then_ret ?_
                  exact fin1 hE69 rfl rfl ⟨by rw [hM], hS65.below⟩
                ·
                  have hM := hM.trans (if_f hb68)
                  refine wp_skip ?_
                  refine then_normal ?_
                  refine wp_seq (wp_seq (wp_region_lit ?_))
                  refine st_val hE67 (y_fieldAddr hE67 rfl fa90_8 rfl) rfl fun a70 hE70 => st_val hE70 (y_load_one hE70 rfl (hS65.cells (k := 1) rfl) rfl one3) rfl fun a71 hE71 => st_val hE71 (y_fieldAddr hE71 rfl fa90_8 rfl) rfl fun a72 hE72 => st_val hE72 (y_load_one hE72 rfl (hS65.cells (k := 0) rfl) rfl one3) rfl fun a73 hE73 => st_val hE73 (y_neq hE73 rfl rfl) rfl fun a74 hE74 => wpList_nil ?_
                  clear hE67 hE70 hE71 hE72 hE73
                  clear a67 a70 a71 a72 a73
                  refine then_normal ?_
                  refine cond_split hE74 rfl (fun hb75 => ?_) (fun hb75 => ?_)
                  ·
                    have hM := hM.trans (if_t hb75)
                    have hb75f : ¬ (p0.State = p1.State) := by simpa using hb75
                    refine wp_seq (wp_region_lit ?_)
                    refine st_val hE74 (y_assign hE74 rfl) rfl fun a76 hE76 => wpList_nil ?_
                    clear hE74
                    clear a74
                    refine then_normal ?_
                    refine wp_ret ?_
                    refine then_ret ?_
                    exact fin1 hE76 rfl rfl ⟨by rw [hM], hS65.below⟩
                  ·
                    have hM := hM.trans (if_f hb75)
                    have hb75f : p0.State = p1.State := by simpa using hb75
                    refine wp_skip ?_
                    refine then_normal ?_
                    refine wp_seq (wp_region_lit ?_)
                    refine st_val hE74 (y_assign hE74 rfl) rfl fun a77 hE77 => wpList_nil ?_
                    clear hE74
                    clear a74
                    refine then_normal ?_
                    refine wp_ret ?_
                    exact fin1 hE77 rfl rfl ⟨by rw [hM], hS65.below⟩

end Go.Proofs.YtmjjcihoobnbgaaDoor.Fw
