/- Contracts: each call returns what the model says. By program (wip/gen). -/
import Derived.Test.YtpfnofdaaekglaaP1
namespace Go.Proofs.Ytpfnofdaaekglaa.Fw
open Go.RowKit
set_option linter.unusedVariables false
set_option linter.unusedSimpArgs false

theorem agg107 : chkAgg Try.prog 107 2 = true := by kernel_rfl
theorem agg111 : chkAgg Try.prog 111 2 = true := by kernel_rfl
theorem agg113 : chkAgg Try.prog 113 10 = true := by kernel_rfl
theorem agg117 : chkAgg Try.prog 117 2 = true := by kernel_rfl
theorem agg119 : chkAgg Try.prog 119 10 = true := by kernel_rfl
theorem agg120 : chkAgg Try.prog 120 2 = true := by kernel_rfl
theorem agg145 : chkAgg Try.prog 145 3 = true := by kernel_rfl
theorem agg150 : chkAgg Try.prog 150 3 = true := by kernel_rfl
theorem agg46 : chkAgg Try.prog 46 2 = true := by kernel_rfl
theorem agg48 : chkAgg Try.prog 48 3 = true := by kernel_rfl
theorem agg56 : chkAgg Try.prog 56 2 = true := by kernel_rfl
theorem agg58 : chkAgg Try.prog 58 3 = true := by kernel_rfl
theorem agg60 : chkAgg Try.prog 60 11 = true := by kernel_rfl
theorem fa107_0 : chkField Try.prog 107 0 0 = true := by kernel_rfl
theorem fa107_1 : chkField Try.prog 107 1 1 = true := by kernel_rfl
theorem fa111_0 : chkField Try.prog 111 0 0 = true := by kernel_rfl
theorem fa111_1 : chkField Try.prog 111 1 1 = true := by kernel_rfl
theorem fa113_0 : chkField Try.prog 113 0 0 = true := by kernel_rfl
theorem fa113_1 : chkField Try.prog 113 1 1 = true := by kernel_rfl
theorem fa113_2 : chkField Try.prog 113 2 2 = true := by kernel_rfl
theorem fa113_3 : chkField Try.prog 113 3 3 = true := by kernel_rfl
theorem fa113_4 : chkField Try.prog 113 4 4 = true := by kernel_rfl
theorem fa113_5 : chkField Try.prog 113 5 5 = true := by kernel_rfl
theorem fa113_6 : chkField Try.prog 113 6 6 = true := by kernel_rfl
theorem fa113_7 : chkField Try.prog 113 7 8 = true := by kernel_rfl
theorem fa113_8 : chkField Try.prog 113 8 9 = true := by kernel_rfl
theorem fa117_0 : chkField Try.prog 117 0 0 = true := by kernel_rfl
theorem fa117_1 : chkField Try.prog 117 1 1 = true := by kernel_rfl
theorem fa119_0 : chkField Try.prog 119 0 0 = true := by kernel_rfl
theorem fa119_1 : chkField Try.prog 119 1 1 = true := by kernel_rfl
theorem fa119_2 : chkField Try.prog 119 2 2 = true := by kernel_rfl
theorem fa119_3 : chkField Try.prog 119 3 3 = true := by kernel_rfl
theorem fa119_4 : chkField Try.prog 119 4 4 = true := by kernel_rfl
theorem fa119_5 : chkField Try.prog 119 5 5 = true := by kernel_rfl
theorem fa119_6 : chkField Try.prog 119 6 6 = true := by kernel_rfl
theorem fa119_7 : chkField Try.prog 119 7 8 = true := by kernel_rfl
theorem fa119_8 : chkField Try.prog 119 8 9 = true := by kernel_rfl
theorem fa120_0 : chkField Try.prog 120 0 0 = true := by kernel_rfl
theorem fa120_1 : chkField Try.prog 120 1 1 = true := by kernel_rfl
theorem fa145_0 : chkField Try.prog 145 0 0 = true := by kernel_rfl
theorem fa145_1 : chkField Try.prog 145 1 1 = true := by kernel_rfl
theorem fa145_2 : chkField Try.prog 145 2 2 = true := by kernel_rfl
theorem fa150_0 : chkField Try.prog 150 0 0 = true := by kernel_rfl
theorem fa150_1 : chkField Try.prog 150 1 1 = true := by kernel_rfl
theorem fa150_2 : chkField Try.prog 150 2 2 = true := by kernel_rfl
theorem fa46_0 : chkField Try.prog 46 0 0 = true := by kernel_rfl
theorem fa46_1 : chkField Try.prog 46 1 1 = true := by kernel_rfl
theorem fa48_0 : chkField Try.prog 48 0 0 = true := by kernel_rfl
theorem fa48_1 : chkField Try.prog 48 1 1 = true := by kernel_rfl
theorem fa50_0 : chkField Try.prog 50 0 0 = true := by kernel_rfl
theorem fa50_1 : chkField Try.prog 50 1 1 = true := by kernel_rfl
theorem fa50_2 : chkField Try.prog 50 2 2 = true := by kernel_rfl
theorem fa50_3 : chkField Try.prog 50 3 5 = true := by kernel_rfl
theorem fa50_4 : chkField Try.prog 50 4 6 = true := by kernel_rfl
theorem fa50_5 : chkField Try.prog 50 5 7 = true := by kernel_rfl
theorem fa50_6 : chkField Try.prog 50 6 8 = true := by kernel_rfl
theorem fa50_7 : chkField Try.prog 50 7 9 = true := by kernel_rfl
theorem fa50_8 : chkField Try.prog 50 8 10 = true := by kernel_rfl
theorem fa56_0 : chkField Try.prog 56 0 0 = true := by kernel_rfl
theorem fa56_1 : chkField Try.prog 56 1 1 = true := by kernel_rfl
theorem fa58_0 : chkField Try.prog 58 0 0 = true := by kernel_rfl
theorem fa58_1 : chkField Try.prog 58 1 1 = true := by kernel_rfl
theorem fa60_0 : chkField Try.prog 60 0 0 = true := by kernel_rfl
theorem fa60_1 : chkField Try.prog 60 1 1 = true := by kernel_rfl
theorem fa60_2 : chkField Try.prog 60 2 2 = true := by kernel_rfl
theorem fa60_3 : chkField Try.prog 60 3 5 = true := by kernel_rfl
theorem fa60_4 : chkField Try.prog 60 4 6 = true := by kernel_rfl
theorem fa60_5 : chkField Try.prog 60 5 7 = true := by kernel_rfl
theorem fa60_6 : chkField Try.prog 60 6 8 = true := by kernel_rfl
theorem fa60_7 : chkField Try.prog 60 7 9 = true := by kernel_rfl
theorem fa60_8 : chkField Try.prog 60 8 10 = true := by kernel_rfl
theorem fb11 : Try.f11.body.isNone = false := rfl
theorem fb13 : Try.f13.body.isNone = false := rfl
theorem fb44 : Try.f44.body.isNone = false := rfl
theorem fb45 : Try.f45.body.isNone = false := rfl
theorem fb46 : Try.f46.body.isNone = false := rfl
theorem fb47 : Try.f47.body.isNone = false := rfl
theorem fb49 : Try.f49.body.isNone = false := rfl
theorem fb50 : Try.f50.body.isNone = false := rfl
theorem fb51 : Try.f51.body.isNone = false := rfl
theorem fb52 : Try.f52.body.isNone = false := rfl
theorem fb66 : Try.f66.body.isNone = false := rfl
theorem fb67 : Try.f67.body.isNone = false := rfl
theorem fb68 : Try.f68.body.isNone = false := rfl
theorem fb69 : Try.f69.body.isNone = false := rfl
theorem fb70 : Try.f70.body.isNone = false := rfl
theorem fb71 : Try.f71.body.isNone = false := rfl
theorem fb72 : Try.f72.body.isNone = false := rfl
theorem fb73 : Try.f73.body.isNone = false := rfl
theorem fb90 : Try.f90.body.isNone = false := rfl
theorem fb91 : Try.f91.body.isNone = false := rfl
theorem fb92 : Try.f92.body.isNone = false := rfl
theorem fb93 : Try.f93.body.isNone = false := rfl
theorem fb94 : Try.f94.body.isNone = false := rfl
theorem fb95 : Try.f95.body.isNone = false := rfl
theorem fb96 : Try.f96.body.isNone = false := rfl
theorem fb97 : Try.f97.body.isNone = false := rfl
theorem fn11 : (Try.f11.name == "runtime.NumGoroutine") = false := by kernel_rfl
theorem fn13 : (Try.f13.name == "runtime.NumGoroutine") = false := by kernel_rfl
theorem fn44 : (Try.f44.name == "runtime.NumGoroutine") = false := by kernel_rfl
theorem fn45 : (Try.f45.name == "runtime.NumGoroutine") = false := by kernel_rfl
theorem fn46 : (Try.f46.name == "runtime.NumGoroutine") = false := by kernel_rfl
theorem fn47 : (Try.f47.name == "runtime.NumGoroutine") = false := by kernel_rfl
theorem fn49 : (Try.f49.name == "runtime.NumGoroutine") = false := by kernel_rfl
theorem fn50 : (Try.f50.name == "runtime.NumGoroutine") = false := by kernel_rfl
theorem fn51 : (Try.f51.name == "runtime.NumGoroutine") = false := by kernel_rfl
theorem fn52 : (Try.f52.name == "runtime.NumGoroutine") = false := by kernel_rfl
theorem fn66 : (Try.f66.name == "runtime.NumGoroutine") = false := by kernel_rfl
theorem fn67 : (Try.f67.name == "runtime.NumGoroutine") = false := by kernel_rfl
theorem fn68 : (Try.f68.name == "runtime.NumGoroutine") = false := by kernel_rfl
theorem fn69 : (Try.f69.name == "runtime.NumGoroutine") = false := by kernel_rfl
theorem fn70 : (Try.f70.name == "runtime.NumGoroutine") = false := by kernel_rfl
theorem fn71 : (Try.f71.name == "runtime.NumGoroutine") = false := by kernel_rfl
theorem fn72 : (Try.f72.name == "runtime.NumGoroutine") = false := by kernel_rfl
theorem fn73 : (Try.f73.name == "runtime.NumGoroutine") = false := by kernel_rfl
theorem fn90 : (Try.f90.name == "runtime.NumGoroutine") = false := by kernel_rfl
theorem fn91 : (Try.f91.name == "runtime.NumGoroutine") = false := by kernel_rfl
theorem fn92 : (Try.f92.name == "runtime.NumGoroutine") = false := by kernel_rfl
theorem fn93 : (Try.f93.name == "runtime.NumGoroutine") = false := by kernel_rfl
theorem fn94 : (Try.f94.name == "runtime.NumGoroutine") = false := by kernel_rfl
theorem fn95 : (Try.f95.name == "runtime.NumGoroutine") = false := by kernel_rfl
theorem fn96 : (Try.f96.name == "runtime.NumGoroutine") = false := by kernel_rfl
theorem fn97 : (Try.f97.name == "runtime.NumGoroutine") = false := by kernel_rfl
theorem one109 : chkOne Try.prog 109 = true := by kernel_rfl
theorem one116 : chkOne Try.prog 116 = true := by kernel_rfl
theorem one24 : chkOne Try.prog 24 = true := by kernel_rfl
theorem one27 : chkOne Try.prog 27 = true := by kernel_rfl
theorem one32 : chkOne Try.prog 32 = true := by kernel_rfl
theorem one38 : chkOne Try.prog 38 = true := by kernel_rfl
theorem one42 : chkOne Try.prog 42 = true := by kernel_rfl
theorem one43 : chkOne Try.prog 43 = true := by kernel_rfl
theorem one44 : chkOne Try.prog 44 = true := by kernel_rfl
theorem one53 : chkOne Try.prog 53 = true := by kernel_rfl
theorem one54 : chkOne Try.prog 54 = true := by kernel_rfl
theorem one55 : chkOne Try.prog 55 = true := by kernel_rfl
theorem sl109 : chkSlice Try.prog 109 132 6 72 = true := by kernel_rfl
theorem sl116 : chkSlice Try.prog 116 80 6 72 = true := by kernel_rfl
theorem sl32 : chkSlice Try.prog 32 3 1 8 = true := by kernel_rfl
theorem sl38 : chkSlice Try.prog 38 9 1 16 = true := by kernel_rfl
theorem sl42 : chkSlice Try.prog 42 107 2 32 = true := by kernel_rfl
theorem sl43 : chkSlice Try.prog 43 113 10 160 = true := by kernel_rfl
theorem sl44 : chkSlice Try.prog 44 145 3 40 = true := by kernel_rfl
theorem sl53 : chkSlice Try.prog 53 120 2 32 = true := by kernel_rfl
theorem sl54 : chkSlice Try.prog 54 119 10 160 = true := by kernel_rfl
theorem sl55 : chkSlice Try.prog 55 150 3 40 = true := by kernel_rfl

/- F66 loop.example/g00974/laws.szCell -/
def laws_szCell (p0 : Cell) (p1 : Int) : Int := (if (decide (IntKind.i64.wrap (p1 - (p0.Key.size : Int)) < 0)) = true then (-1) else (if (decide (IntKind.i64.wrap (IntKind.i64.wrap (p1 - (p0.Key.size : Int)) - (p0.Val.size : Int)) < 0)) = true then (-1) else IntKind.i64.wrap (IntKind.i64.wrap (p1 - (p0.Key.size : Int)) - (p0.Val.size : Int))))
theorem c_laws_szCell {c0 : List Value} (p0 : Cell) (p1 : Int) {w : World} (hp0 : Dat.rd (Old w) w c0 p0) :
    Calls Try.prog 66 [.agg c0.toArray, .int .i64 p1].toArray w (fun e w' => e = .returned (.int .i64 (laws_szCell p0 p1)) ∧ Below w.heap.size w w') := by
  obtain ⟨rfl, hg90000_0, hg90000_1, _⟩ := Cell_open hp0
  refine enter Try.func66 rfl Try.ntmps66 (Nat.le_of_ble_eq_true rfl) ?_
  intro a0 hE0
  have hS0 := SH.start w
  have hM := laws_szCell.eq_1 p0 p1
  refine wp_seq (wp_region_lit ?_)
  refine st_box hE0 hS0 rfl rfl rfl fun b1 w1 hS1 a2 hE2 => st_val hE2 (y_assign hE2 rfl) rfl fun a3 hE3 => wpList_nil ?_
  clear hE0 hE2
  clear a0 a2
  refine then_normal ?_
  refine wp_seq (wp_region_lit ?_)
  refine st_val hE3 (y_move hE3 rfl) rfl fun a4 hE4 => st_val hE4 (y_fieldAddr hE4 rfl fa107_0 rfl) rfl fun a5 hE5 => st_val hE5 (y_load_one hE5 rfl (hS1.cells (k := 0) rfl) rfl one9) rfl fun a6 hE6 => st_val hE6 (y_len_string hE6 rfl Try.underlying9) rfl fun a7 hE7 => st_val hE7 (y_sub hE7 rfl rfl) rfl fun a8 hE8 => st_val hE8 (y_assign hE8 rfl) rfl fun a9 hE9 => wpList_nil ?_
  clear hE3 hE4 hE5 hE6 hE7 hE8
  clear a3 a4 a5 a6 a7 a8
  refine then_normal ?_
  refine wp_seq (wp_seq (wp_region_lit ?_))
  refine st_val hE9 (y_move hE9 rfl) rfl fun a10 hE10 => st_val hE10 (y_lss hE10 rfl rfl) rfl fun a11 hE11 => wpList_nil ?_
  clear hE9 hE10
  clear a9 a10
  refine then_normal ?_
  refine cond_split hE11 rfl (fun hb12 => ?_) (fun hb12 => ?_)
  ·
    have hM := hM.trans (if_t hb12)
    have hb12f : IntKind.i64.wrap (p1 - (p0.Key.size : Int)) < 0 := of_decide_eq_true hb12
    refine wp_seq (wp_region_lit ?_)
    refine st_val hE11 (y_assign hE11 rfl) rfl fun a13 hE13 => wpList_nil ?_
    clear hE11
    clear a11
    refine then_normal ?_
    refine wp_ret ?_
    refine then_ret ?_
    exact fin1 hE13 rfl rfl ⟨by rw [hM], hS1.below⟩
  ·
    have hM := hM.trans (if_f hb12)
    have hb12f : ¬ (IntKind.i64.wrap (p1 - (p0.Key.size : Int)) < 0) := of_decide_eq_false hb12
    refine wp_skip ?_
    refine then_normal ?_
    refine wp_seq (wp_region_lit ?_)
    refine st_val hE11 (y_move hE11 rfl) rfl fun a14 hE14 => st_val hE14 (y_fieldAddr hE14 rfl fa107_1 rfl) rfl fun a15 hE15 => st_val hE15 (y_load_one hE15 rfl (hS1.cells (k := 0) rfl) rfl one9) rfl fun a16 hE16 => st_val hE16 (y_len_string hE16 rfl Try.underlying9) rfl fun a17 hE17 => st_val hE17 (y_sub hE17 rfl rfl) rfl fun a18 hE18 => st_val hE18 (y_assign hE18 rfl) rfl fun a19 hE19 => wpList_nil ?_
    clear hE11 hE14 hE15 hE16 hE17 hE18
    clear a11 a14 a15 a16 a17 a18
    refine then_normal ?_
    refine wp_seq (wp_seq (wp_region_lit ?_))
    refine st_val hE19 (y_move hE19 rfl) rfl fun a20 hE20 => st_val hE20 (y_lss hE20 rfl rfl) rfl fun a21 hE21 => wpList_nil ?_
    clear hE19 hE20
    clear a19 a20
    refine then_normal ?_
    refine cond_split hE21 rfl (fun hb22 => ?_) (fun hb22 => ?_)
    ·
      have hM := hM.trans (if_t hb22)
      have hb22f : IntKind.i64.wrap (IntKind.i64.wrap (p1 - (p0.Key.size : Int)) - (p0.Val.size : Int)) < 0 := of_decide_eq_true hb22
      refine wp_seq (wp_region_lit ?_)
      refine st_val hE21 (y_assign hE21 rfl) rfl fun a23 hE23 => wpList_nil ?_
      clear hE21
      clear a21
      refine then_normal ?_
      refine wp_ret ?_
      refine then_ret ?_
      exact fin1 hE23 rfl rfl ⟨by rw [hM], hS1.below⟩
    ·
      have hM := hM.trans (if_f hb22)
      have hb22f : ¬ (IntKind.i64.wrap (IntKind.i64.wrap (p1 - (p0.Key.size : Int)) - (p0.Val.size : Int)) < 0) := of_decide_eq_false hb22
      refine wp_skip ?_
      refine then_normal ?_
      refine wp_seq (wp_region_lit ?_)
      refine st_val hE21 (y_move hE21 rfl) rfl fun a24 hE24 => st_val hE24 (y_assign hE24 rfl) rfl fun a25 hE25 => wpList_nil ?_
      clear hE21 hE24
      clear a21 a24
      refine then_normal ?_
      refine wp_ret ?_
      exact fin1 hE25 rfl rfl ⟨by rw [hM], hS1.below⟩

/- F44 loop.example/g00974/laws.szCellS -/
def laws_szCellS_l1 (p0 : List Cell) (p1 : Int) : Nat → Nat → Int → Int
  | 0, i1, s1_1 => s1_1
  | fu1 + 1, i1, s1_1 => (if (decide ((laws_szCell (nth p0 i1) s1_1) < 0)) = true then (-1) else laws_szCellS_l1 p0 p1 fu1 (i1 + 1) (laws_szCell (nth p0 i1) s1_1))
def laws_szCellS (p0 : List Cell) (p1 : Int) : Int := (if (decide (IntKind.i64.wrap (p1 - (p0.length : Int)) < 0)) = true then (-1) else laws_szCellS_l1 p0 p1 (p0.length - 0) 0 (IntKind.i64.wrap (p1 - (p0.length : Int))))
theorem c_laws_szCellS {v0 : Value} (p0 : List Cell) (p1 : Int) {w : World} (hp0 : SlR (Old w) w v0 p0) :
    Calls Try.prog 44 [v0, .int .i64 p1].toArray w (fun e w' => e = .returned (.int .i64 (laws_szCellS p0 p1)) ∧ Below w.heap.size w w') := by
  obtain ⟨A0, cap0, rfl, hx0⟩ := hp0.form
  refine enter Try.func44 rfl Try.ntmps44 (Nat.le_of_ble_eq_true rfl) ?_
  intro a0 hE0
  have hS0 := SH.start w
  have hM := laws_szCellS.eq_1 p0 p1
  refine wp_seq (wp_region_lit ?_)
  refine st_val hE0 (y_assign hE0 rfl) rfl fun a1 hE1 => wpList_nil ?_
  clear hE0
  clear a0
  refine then_normal ?_
  refine wp_seq (wp_region_lit ?_)
  refine st_val hE1 (y_move hE1 rfl) rfl fun a2 hE2 => st_val hE2 (y_move hE2 rfl) rfl fun a3 hE3 => st_val hE3 (y_len_slice hE3 rfl sl42) rfl fun a4 hE4 => st_val hE4 (y_sub hE4 rfl rfl) rfl fun a5 hE5 => st_val hE5 (y_assign hE5 rfl) rfl fun a6 hE6 => wpList_nil ?_
  clear hE1 hE2 hE3 hE4 hE5
  clear a1 a2 a3 a4 a5
  refine then_normal ?_
  refine wp_seq (wp_seq (wp_region_lit ?_))
  refine st_val hE6 (y_move hE6 rfl) rfl fun a7 hE7 => st_val hE7 (y_lss hE7 rfl rfl) rfl fun a8 hE8 => wpList_nil ?_
  clear hE6 hE7
  clear a6 a7
  refine then_normal ?_
  refine cond_split hE8 rfl (fun hb9 => ?_) (fun hb9 => ?_)
  ·
    have hM := hM.trans (if_t hb9)
    have hb9f : IntKind.i64.wrap (p1 - (p0.length : Int)) < 0 := of_decide_eq_true hb9
    refine wp_seq (wp_region_lit ?_)
    refine st_val hE8 (y_assign hE8 rfl) rfl fun a10 hE10 => wpList_nil ?_
    clear hE8
    clear a8
    refine then_normal ?_
    refine wp_ret ?_
    refine then_ret ?_
    exact fin1 hE10 rfl rfl ⟨by rw [hM], hS0.below⟩
  ·
    have hM := hM.trans (if_f hb9)
    have hb9f : ¬ (IntKind.i64.wrap (p1 - (p0.length : Int)) < 0) := of_decide_eq_false hb9
    refine wp_skip ?_
    refine then_normal ?_
    refine wp_seq (wp_seq (wp_region_lit ?_))
    refine st_val hE8 (y_assign hE8 rfl) rfl fun a11 hE11 => wpList_nil ?_
    clear hE8
    clear a8
    refine then_normal ?_
    refine wp_block (wp_loop_ghost (fun fu1 a w2 => ∃ (i1 : Nat) (s1_1 : Int), 0 ≤ i1 ∧ fu1 = p0.length - i1 ∧ laws_szCellS p0 p1 = laws_szCellS_l1 p0 p1 fu1 i1 s1_1 ∧ Env 27 [(0, .slice A0 p0.length cap0), (1, .int .i64 s1_1), (5, .int .i64 (i1 : Int))] a ∧ SH (Old w) w w2 []) (p0.length - 0) ⟨0, IntKind.i64.wrap (p1 - (p0.length : Int)), Nat.le_refl _, rfl, hM, hE11.weaken ⟨rfl, rfl, rfl, trivial⟩, hS0⟩ ?_)
    clear hM hE11
    rintro fu1 a12 w12 ⟨i1, s1_1, hi1, hfu1, hM, hE12, hS12⟩
    refine wp_seq (wp_seq (wp_region_lit ?_))
    refine st_val hE12 (y_move hE12 rfl) rfl fun a13 hE13 => st_val hE13 (y_move hE13 rfl) rfl fun a14 hE14 => st_val hE14 (y_len_slice hE14 rfl sl42) rfl fun a15 hE15 => st_val hE15 (y_lss hE15 rfl rfl) rfl fun a16 hE16 => wpList_nil ?_
    clear hE12 hE13 hE14 hE15
    clear a12 a13 a14 a15
    refine then_normal ?_
    refine cond_split hE16 rfl (fun hb17 => ?_) (fun hb17 => ?_)
    ·
      have hlt1 : i1 < p0.length := by have := of_decide_eq_true hb17; omega
      obtain ⟨fu1, rfl⟩ : ∃ m, fu1 = m + 1 := ⟨fu1 - 1, by omega⟩
      have hM := hM.trans (laws_szCellS_l1.eq_2 _ _ _ _ _)
      refine wp_skip ?_
      refine then_normal ?_
      refine wp_seq (wp_block (wp_seq (wp_region_lit ?_)))
      refine st_val hE16 (y_move hE16 rfl) rfl fun a18 hE18 => st_val hE18 (y_move hE18 rfl) rfl fun a19 hE19 => st_index hE19 hp0 rfl rfl rfl (by omega) sl42 rfl fun ad20 cs20 hr20 hc20 hl20 a21 hE21 => ?_
      obtain ⟨rfl, hg20_0, hg20_1, _⟩ := Cell_open hr20
      refine st_val hE21 (y_load_agg hE21 rfl (hS12.upc hc20 hl20) rfl rfl agg107) rfl fun a22 hE22 => st_val hE22 (y_move hE22 rfl) rfl fun a23 hE23 => st_callF hE23 hS12 Try.func66 fb66 fn66 (c_laws_szCell (nth p0 i1) s1_1 (hS12.upd hr20)) rfl rfl fun w24 hS24 a25 hE25 => st_val hE25 (y_assign hE25 rfl) rfl fun a26 hE26 => wpList_nil ?_
      clear hE16 hE18 hE19 hE21 hE22 hE23 hE25
      clear a16 a18 a19 a21 a22 a23 a25
      refine then_normal ?_
      refine wp_seq (wp_region_lit ?_)
      refine st_val hE26 (y_move hE26 rfl) rfl fun a27 hE27 => st_val hE27 (y_lss hE27 rfl rfl) rfl fun a28 hE28 => wpList_nil ?_
      clear hE26 hE27
      clear a26 a27
      refine then_normal ?_
      refine cond_split hE28 rfl (fun hb29 => ?_) (fun hb29 => ?_)
      ·
        have hM := hM.trans (if_t hb29)
        have hb29f : (laws_szCell (nth p0 i1) s1_1) < 0 := of_decide_eq_true hb29
        refine wp_seq (wp_region_lit ?_)
        refine st_val hE28 (y_assign hE28 rfl) rfl fun a30 hE30 => wpList_nil ?_
        clear hE28
        clear a28
        refine then_normal ?_
        refine wp_ret ?_
        refine blk_ret ?_
        refine then_ret ?_
        refine then_ret ?_
        refine blk_ret ?_
        refine then_ret ?_
        exact fin1 hE30 rfl rfl ⟨by rw [hM], hS24.below⟩
      ·
        have hM := hM.trans (if_f hb29)
        have hb29f : ¬ ((laws_szCell (nth p0 i1) s1_1) < 0) := of_decide_eq_false hb29
        refine wp_skip ?_
        refine blk_normal ?_
        refine then_normal ?_
        refine wp_region_lit ?_
        refine st_val hE28 (y_move hE28 rfl) rfl fun a31 hE31 => st_val hE31 (y_add_in hE31 rfl rfl (m := ((i1 + 1 : Nat) : Int)) (by omega) (by omega) (by omega)) rfl fun a32 hE32 => st_val hE32 (y_assign hE32 rfl) rfl fun a33 hE33 => wpList_nil ?_
        clear hE28 hE31 hE32
        clear a28 a31 a32
        refine then_normal ⟨fu1, Nat.lt_succ_self _, (i1 + 1), (laws_szCell (nth p0 i1) s1_1), by omega, by omega, hM, hE33.weaken ⟨rfl, rfl, rfl, trivial⟩, hS24⟩
    ·
      have hge1 : ¬ i1 < p0.length := by have := of_decide_eq_false hb17; omega
      obtain rfl : fu1 = 0 := by omega
      have hM := hM.trans (laws_szCellS_l1.eq_1 _ _ _ _)
      refine wp_exit ?_
      refine then_exit ?_
      refine then_exit ?_
      refine blk_exit ?_
      refine then_normal ?_
      refine wp_seq (wp_region_lit ?_)
      refine st_val hE16 (y_move hE16 rfl) rfl fun a34 hE34 => st_val hE34 (y_assign hE34 rfl) rfl fun a35 hE35 => wpList_nil ?_
      clear hE16 hE34
      clear a16 a34
      refine then_normal ?_
      refine wp_ret ?_
      exact fin1 hE35 rfl rfl ⟨by rw [hM], hS12.below⟩

/- F47 loop.example/g00974/laws.szStringS -/
def laws_szStringS_l1 (p0 : List ByteArray) (p1 : Int) : Nat → Nat → Int → Int
  | 0, i1, s1_1 => s1_1
  | fu1 + 1, i1, s1_1 => (if (decide (IntKind.i64.wrap (s1_1 - ((nth p0 i1).size : Int)) < 0)) = true then (-1) else laws_szStringS_l1 p0 p1 fu1 (i1 + 1) (IntKind.i64.wrap (s1_1 - ((nth p0 i1).size : Int))))
def laws_szStringS (p0 : List ByteArray) (p1 : Int) : Int := (if (decide (IntKind.i64.wrap (p1 - (p0.length : Int)) < 0)) = true then (-1) else laws_szStringS_l1 p0 p1 (p0.length - 0) 0 (IntKind.i64.wrap (p1 - (p0.length : Int))))
theorem c_laws_szStringS {v0 : Value} (p0 : List ByteArray) (p1 : Int) {w : World} (hp0 : SlR (Old w) w v0 p0) :
    Calls Try.prog 47 [v0, .int .i64 p1].toArray w (fun e w' => e = .returned (.int .i64 (laws_szStringS p0 p1)) ∧ Below w.heap.size w w') := by
  obtain ⟨A0, cap0, rfl, hx0⟩ := hp0.form
  refine enter Try.func47 rfl Try.ntmps47 (Nat.le_of_ble_eq_true rfl) ?_
  intro a0 hE0
  have hS0 := SH.start w
  have hM := laws_szStringS.eq_1 p0 p1
  refine wp_seq (wp_region_lit ?_)
  refine st_val hE0 (y_assign hE0 rfl) rfl fun a1 hE1 => wpList_nil ?_
  clear hE0
  clear a0
  refine then_normal ?_
  refine wp_seq (wp_region_lit ?_)
  refine st_val hE1 (y_move hE1 rfl) rfl fun a2 hE2 => st_val hE2 (y_move hE2 rfl) rfl fun a3 hE3 => st_val hE3 (y_len_slice hE3 rfl sl38) rfl fun a4 hE4 => st_val hE4 (y_sub hE4 rfl rfl) rfl fun a5 hE5 => st_val hE5 (y_assign hE5 rfl) rfl fun a6 hE6 => wpList_nil ?_
  clear hE1 hE2 hE3 hE4 hE5
  clear a1 a2 a3 a4 a5
  refine then_normal ?_
  refine wp_seq (wp_seq (wp_region_lit ?_))
  refine st_val hE6 (y_move hE6 rfl) rfl fun a7 hE7 => st_val hE7 (y_lss hE7 rfl rfl) rfl fun a8 hE8 => wpList_nil ?_
  clear hE6 hE7
  clear a6 a7
  refine then_normal ?_
  refine cond_split hE8 rfl (fun hb9 => ?_) (fun hb9 => ?_)
  ·
    have hM := hM.trans (if_t hb9)
    have hb9f : IntKind.i64.wrap (p1 - (p0.length : Int)) < 0 := of_decide_eq_true hb9
    refine wp_seq (wp_region_lit ?_)
    refine st_val hE8 (y_assign hE8 rfl) rfl fun a10 hE10 => wpList_nil ?_
    clear hE8
    clear a8
    refine then_normal ?_
    refine wp_ret ?_
    refine then_ret ?_
    exact fin1 hE10 rfl rfl ⟨by rw [hM], hS0.below⟩
  ·
    have hM := hM.trans (if_f hb9)
    have hb9f : ¬ (IntKind.i64.wrap (p1 - (p0.length : Int)) < 0) := of_decide_eq_false hb9
    refine wp_skip ?_
    refine then_normal ?_
    refine wp_seq (wp_seq (wp_region_lit ?_))
    refine st_val hE8 (y_assign hE8 rfl) rfl fun a11 hE11 => wpList_nil ?_
    clear hE8
    clear a8
    refine then_normal ?_
    refine wp_block (wp_loop_ghost (fun fu1 a w2 => ∃ (i1 : Nat) (s1_1 : Int), 0 ≤ i1 ∧ fu1 = p0.length - i1 ∧ laws_szStringS p0 p1 = laws_szStringS_l1 p0 p1 fu1 i1 s1_1 ∧ Env 28 [(0, .slice A0 p0.length cap0), (1, .int .i64 s1_1), (5, .int .i64 (i1 : Int))] a ∧ SH (Old w) w w2 []) (p0.length - 0) ⟨0, IntKind.i64.wrap (p1 - (p0.length : Int)), Nat.le_refl _, rfl, hM, hE11.weaken ⟨rfl, rfl, rfl, trivial⟩, hS0⟩ ?_)
    clear hM hE11
    rintro fu1 a12 w12 ⟨i1, s1_1, hi1, hfu1, hM, hE12, hS12⟩
    refine wp_seq (wp_seq (wp_region_lit ?_))
    refine st_val hE12 (y_move hE12 rfl) rfl fun a13 hE13 => st_val hE13 (y_move hE13 rfl) rfl fun a14 hE14 => st_val hE14 (y_len_slice hE14 rfl sl38) rfl fun a15 hE15 => st_val hE15 (y_lss hE15 rfl rfl) rfl fun a16 hE16 => wpList_nil ?_
    clear hE12 hE13 hE14 hE15
    clear a12 a13 a14 a15
    refine then_normal ?_
    refine cond_split hE16 rfl (fun hb17 => ?_) (fun hb17 => ?_)
    ·
      have hlt1 : i1 < p0.length := by have := of_decide_eq_true hb17; omega
      obtain ⟨fu1, rfl⟩ : ∃ m, fu1 = m + 1 := ⟨fu1 - 1, by omega⟩
      have hM := hM.trans (laws_szStringS_l1.eq_2 _ _ _ _ _)
      refine wp_skip ?_
      refine then_normal ?_
      refine wp_seq (wp_block (wp_seq (wp_region_lit ?_)))
      refine st_val hE16 (y_move hE16 rfl) rfl fun a18 hE18 => st_val hE18 (y_move hE18 rfl) rfl fun a19 hE19 => st_val hE19 (y_move hE19 rfl) rfl fun a20 hE20 => st_index hE20 hp0 rfl rfl rfl (by omega) sl38 rfl fun ad21 cs21 hr21 hc21 hl21 a22 hE22 => ?_
      obtain ⟨rfl, hg21⟩ := hr21
      refine st_val hE22 (y_load_one hE22 rfl (hS12.upc hc21 hl21) rfl one9) rfl fun a23 hE23 => st_val hE23 (y_len_string hE23 rfl Try.underlying9) rfl fun a24 hE24 => st_val hE24 (y_sub hE24 rfl rfl) rfl fun a25 hE25 => st_val hE25 (y_assign hE25 rfl) rfl fun a26 hE26 => wpList_nil ?_
      clear hE16 hE18 hE19 hE20 hE22 hE23 hE24 hE25
      clear a16 a18 a19 a20 a22 a23 a24 a25
      refine then_normal ?_
      refine wp_seq (wp_region_lit ?_)
      refine st_val hE26 (y_move hE26 rfl) rfl fun a27 hE27 => st_val hE27 (y_lss hE27 rfl rfl) rfl fun a28 hE28 => wpList_nil ?_
      clear hE26 hE27
      clear a26 a27
      refine then_normal ?_
      refine cond_split hE28 rfl (fun hb29 => ?_) (fun hb29 => ?_)
      ·
        have hM := hM.trans (if_t hb29)
        have hb29f : IntKind.i64.wrap (s1_1 - ((nth p0 i1).size : Int)) < 0 := of_decide_eq_true hb29
        refine wp_seq (wp_region_lit ?_)
        refine st_val hE28 (y_assign hE28 rfl) rfl fun a30 hE30 => wpList_nil ?_
        clear hE28
        clear a28
        refine then_normal ?_
        refine wp_ret ?_
        refine blk_ret ?_
        refine then_ret ?_
        refine then_ret ?_
        refine blk_ret ?_
        refine then_ret ?_
        exact fin1 hE30 rfl rfl ⟨by rw [hM], hS12.below⟩
      ·
        have hM := hM.trans (if_f hb29)
        have hb29f : ¬ (IntKind.i64.wrap (s1_1 - ((nth p0 i1).size : Int)) < 0) := of_decide_eq_false hb29
        refine wp_skip ?_
        refine blk_normal ?_
        refine then_normal ?_
        refine wp_region_lit ?_
        refine st_val hE28 (y_move hE28 rfl) rfl fun a31 hE31 => st_val hE31 (y_add_in hE31 rfl rfl (m := ((i1 + 1 : Nat) : Int)) (by omega) (by omega) (by omega)) rfl fun a32 hE32 => st_val hE32 (y_assign hE32 rfl) rfl fun a33 hE33 => wpList_nil ?_
        clear hE28 hE31 hE32
        clear a28 a31 a32
        refine then_normal ⟨fu1, Nat.lt_succ_self _, (i1 + 1), IntKind.i64.wrap (s1_1 - ((nth p0 i1).size : Int)), by omega, by omega, hM, hE33.weaken ⟨rfl, rfl, rfl, trivial⟩, hS12⟩
    ·
      have hge1 : ¬ i1 < p0.length := by have := of_decide_eq_false hb17; omega
      obtain rfl : fu1 = 0 := by omega
      have hM := hM.trans (laws_szStringS_l1.eq_1 _ _ _ _)
      refine wp_exit ?_
      refine then_exit ?_
      refine then_exit ?_
      refine blk_exit ?_
      refine then_normal ?_
      refine wp_seq (wp_region_lit ?_)
      refine st_val hE16 (y_move hE16 rfl) rfl fun a34 hE34 => st_val hE34 (y_assign hE34 rfl) rfl fun a35 hE35 => wpList_nil ?_
      clear hE16 hE34
      clear a16 a34
      refine then_normal ?_
      refine wp_ret ?_
      exact fin1 hE35 rfl rfl ⟨by rw [hM], hS12.below⟩

/- F92 loop.example/g00974/laws.szIntS -/
def laws_szIntS (p0 : List Int) (p1 : Int) : Int := (if (decide (IntKind.i64.wrap (p1 - (p0.length : Int)) < 0)) = true then (-1) else IntKind.i64.wrap (p1 - (p0.length : Int)))
theorem c_laws_szIntS {v0 : Value} (p0 : List Int) (p1 : Int) {w : World} (hp0 : SlR (Old w) w v0 p0) :
    Calls Try.prog 92 [v0, .int .i64 p1].toArray w (fun e w' => e = .returned (.int .i64 (laws_szIntS p0 p1)) ∧ Below w.heap.size w w') := by
  obtain ⟨A0, cap0, rfl, hx0⟩ := hp0.form
  refine enter Try.func92 rfl Try.ntmps92 (Nat.le_of_ble_eq_true rfl) ?_
  intro a0 hE0
  have hS0 := SH.start w
  have hM := laws_szIntS.eq_1 p0 p1
  refine wp_seq (wp_region_lit ?_)
  refine st_val hE0 (y_assign hE0 rfl) rfl fun a1 hE1 => wpList_nil ?_
  clear hE0
  clear a0
  refine then_normal ?_
  refine wp_seq (wp_region_lit ?_)
  refine st_val hE1 (y_move hE1 rfl) rfl fun a2 hE2 => st_val hE2 (y_move hE2 rfl) rfl fun a3 hE3 => st_val hE3 (y_len_slice hE3 rfl sl32) rfl fun a4 hE4 => st_val hE4 (y_sub hE4 rfl rfl) rfl fun a5 hE5 => st_val hE5 (y_assign hE5 rfl) rfl fun a6 hE6 => wpList_nil ?_
  clear hE1 hE2 hE3 hE4 hE5
  clear a1 a2 a3 a4 a5
  refine then_normal ?_
  refine wp_seq (wp_seq (wp_region_lit ?_))
  refine st_val hE6 (y_move hE6 rfl) rfl fun a7 hE7 => st_val hE7 (y_lss hE7 rfl rfl) rfl fun a8 hE8 => wpList_nil ?_
  clear hE6 hE7
  clear a6 a7
  refine then_normal ?_
  refine cond_split hE8 rfl (fun hb9 => ?_) (fun hb9 => ?_)
  ·
    have hM := hM.trans (if_t hb9)
    have hb9f : IntKind.i64.wrap (p1 - (p0.length : Int)) < 0 := of_decide_eq_true hb9
    refine wp_seq (wp_region_lit ?_)
    refine st_val hE8 (y_assign hE8 rfl) rfl fun a10 hE10 => wpList_nil ?_
    clear hE8
    clear a8
    refine then_normal ?_
    refine wp_ret ?_
    refine then_ret ?_
    exact fin1 hE10 rfl rfl ⟨by rw [hM], hS0.below⟩
  ·
    have hM := hM.trans (if_f hb9)
    have hb9f : ¬ (IntKind.i64.wrap (p1 - (p0.length : Int)) < 0) := of_decide_eq_false hb9
    refine wp_skip ?_
    refine then_normal ?_
    refine wp_seq (wp_region_lit ?_)
    refine st_val hE8 (y_move hE8 rfl) rfl fun a11 hE11 => st_val hE11 (y_assign hE11 rfl) rfl fun a12 hE12 => wpList_nil ?_
    clear hE8 hE11
    clear a8 a11
    refine then_normal ?_
    refine wp_ret ?_
    exact fin1 hE12 rfl rfl ⟨by rw [hM], hS0.below⟩

/- F90 loop.example/g00974/laws.szCallS -/
def laws_szCallS_l1 (p0 : List Call) (p1 : Int) : Nat → Nat → Int → Int
  | 0, i1, s1_1 => s1_1
  | fu1 + 1, i1, s1_1 => (if (decide ((laws_szCall (nth p0 i1) s1_1) < 0)) = true then (-1) else laws_szCallS_l1 p0 p1 fu1 (i1 + 1) (laws_szCall (nth p0 i1) s1_1))
def laws_szCallS (p0 : List Call) (p1 : Int) : Int := (if (decide (IntKind.i64.wrap (p1 - (p0.length : Int)) < 0)) = true then (-1) else laws_szCallS_l1 p0 p1 (p0.length - 0) 0 (IntKind.i64.wrap (p1 - (p0.length : Int))))
theorem c_laws_szCallS {v0 : Value} (p0 : List Call) (p1 : Int) {w : World} (hp0 : SlR (Old w) w v0 p0) :
    Calls Try.prog 90 [v0, .int .i64 p1].toArray w (fun e w' => e = .returned (.int .i64 (laws_szCallS p0 p1)) ∧ Below w.heap.size w w') := by
  obtain ⟨A0, cap0, rfl, hx0⟩ := hp0.form
  refine enter Try.func90 rfl Try.ntmps90 (Nat.le_of_ble_eq_true rfl) ?_
  intro a0 hE0
  have hS0 := SH.start w
  have hM := laws_szCallS.eq_1 p0 p1
  refine wp_seq (wp_region_lit ?_)
  refine st_val hE0 (y_assign hE0 rfl) rfl fun a1 hE1 => wpList_nil ?_
  clear hE0
  clear a0
  refine then_normal ?_
  refine wp_seq (wp_region_lit ?_)
  refine st_val hE1 (y_move hE1 rfl) rfl fun a2 hE2 => st_val hE2 (y_move hE2 rfl) rfl fun a3 hE3 => st_val hE3 (y_len_slice hE3 rfl sl109) rfl fun a4 hE4 => st_val hE4 (y_sub hE4 rfl rfl) rfl fun a5 hE5 => st_val hE5 (y_assign hE5 rfl) rfl fun a6 hE6 => wpList_nil ?_
  clear hE1 hE2 hE3 hE4 hE5
  clear a1 a2 a3 a4 a5
  refine then_normal ?_
  refine wp_seq (wp_seq (wp_region_lit ?_))
  refine st_val hE6 (y_move hE6 rfl) rfl fun a7 hE7 => st_val hE7 (y_lss hE7 rfl rfl) rfl fun a8 hE8 => wpList_nil ?_
  clear hE6 hE7
  clear a6 a7
  refine then_normal ?_
  refine cond_split hE8 rfl (fun hb9 => ?_) (fun hb9 => ?_)
  ·
    have hM := hM.trans (if_t hb9)
    have hb9f : IntKind.i64.wrap (p1 - (p0.length : Int)) < 0 := of_decide_eq_true hb9
    refine wp_seq (wp_region_lit ?_)
    refine st_val hE8 (y_assign hE8 rfl) rfl fun a10 hE10 => wpList_nil ?_
    clear hE8
    clear a8
    refine then_normal ?_
    refine wp_ret ?_
    refine then_ret ?_
    exact fin1 hE10 rfl rfl ⟨by rw [hM], hS0.below⟩
  ·
    have hM := hM.trans (if_f hb9)
    have hb9f : ¬ (IntKind.i64.wrap (p1 - (p0.length : Int)) < 0) := of_decide_eq_false hb9
    refine wp_skip ?_
    refine then_normal ?_
    refine wp_seq (wp_seq (wp_region_lit ?_))
    refine st_val hE8 (y_assign hE8 rfl) rfl fun a11 hE11 => wpList_nil ?_
    clear hE8
    clear a8
    refine then_normal ?_
    refine wp_block (wp_loop_ghost (fun fu1 a w2 => ∃ (i1 : Nat) (s1_1 : Int), 0 ≤ i1 ∧ fu1 = p0.length - i1 ∧ laws_szCallS p0 p1 = laws_szCallS_l1 p0 p1 fu1 i1 s1_1 ∧ Env 27 [(0, .slice A0 p0.length cap0), (1, .int .i64 s1_1), (5, .int .i64 (i1 : Int))] a ∧ SH (Old w) w w2 []) (p0.length - 0) ⟨0, IntKind.i64.wrap (p1 - (p0.length : Int)), Nat.le_refl _, rfl, hM, hE11.weaken ⟨rfl, rfl, rfl, trivial⟩, hS0⟩ ?_)
    clear hM hE11
    rintro fu1 a12 w12 ⟨i1, s1_1, hi1, hfu1, hM, hE12, hS12⟩
    refine wp_seq (wp_seq (wp_region_lit ?_))
    refine st_val hE12 (y_move hE12 rfl) rfl fun a13 hE13 => st_val hE13 (y_move hE13 rfl) rfl fun a14 hE14 => st_val hE14 (y_len_slice hE14 rfl sl109) rfl fun a15 hE15 => st_val hE15 (y_lss hE15 rfl rfl) rfl fun a16 hE16 => wpList_nil ?_
    clear hE12 hE13 hE14 hE15
    clear a12 a13 a14 a15
    refine then_normal ?_
    refine cond_split hE16 rfl (fun hb17 => ?_) (fun hb17 => ?_)
    ·
      have hlt1 : i1 < p0.length := by have := of_decide_eq_true hb17; omega
      obtain ⟨fu1, rfl⟩ : ∃ m, fu1 = m + 1 := ⟨fu1 - 1, by omega⟩
      have hM := hM.trans (laws_szCallS_l1.eq_2 _ _ _ _ _)
      refine wp_skip ?_
      refine then_normal ?_
      refine wp_seq (wp_block (wp_seq (wp_region_lit ?_)))
      refine st_val hE16 (y_move hE16 rfl) rfl fun a18 hE18 => st_val hE18 (y_move hE18 rfl) rfl fun a19 hE19 => st_index hE19 hp0 rfl rfl rfl (by omega) sl109 rfl fun ad20 cs20 hr20 hc20 hl20 a21 hE21 => ?_
      obtain ⟨rfl, hg20_0, hg20_1, hg20_2, hg20_3, hg20_4, hg20_5, _⟩ := Call_open hr20
      refine st_val hE21 (y_load_agg hE21 rfl (hS12.upc hc20 hl20) rfl rfl agg132) rfl fun a22 hE22 => st_val hE22 (y_move hE22 rfl) rfl fun a23 hE23 => st_callF hE23 hS12 Try.func101 fb101 fn101 (c_laws_szCall (nth p0 i1) s1_1 (hS12.upd hr20)) rfl rfl fun w24 hS24 a25 hE25 => st_val hE25 (y_assign hE25 rfl) rfl fun a26 hE26 => wpList_nil ?_
      clear hE16 hE18 hE19 hE21 hE22 hE23 hE25
      clear a16 a18 a19 a21 a22 a23 a25
      refine then_normal ?_
      refine wp_seq (wp_region_lit ?_)
      refine st_val hE26 (y_move hE26 rfl) rfl fun a27 hE27 => st_val hE27 (y_lss hE27 rfl rfl) rfl fun a28 hE28 => wpList_nil ?_
      clear hE26 hE27
      clear a26 a27
      refine then_normal ?_
      refine cond_split hE28 rfl (fun hb29 => ?_) (fun hb29 => ?_)
      ·
        have hM := hM.trans (if_t hb29)
        have hb29f : (laws_szCall (nth p0 i1) s1_1) < 0 := of_decide_eq_true hb29
        refine wp_seq (wp_region_lit ?_)
        refine st_val hE28 (y_assign hE28 rfl) rfl fun a30 hE30 => wpList_nil ?_
        clear hE28
        clear a28
        refine then_normal ?_
        refine wp_ret ?_
        refine blk_ret ?_
        refine then_ret ?_
        refine then_ret ?_
        refine blk_ret ?_
        refine then_ret ?_
        exact fin1 hE30 rfl rfl ⟨by rw [hM], hS24.below⟩
      ·
        have hM := hM.trans (if_f hb29)
        have hb29f : ¬ ((laws_szCall (nth p0 i1) s1_1) < 0) := of_decide_eq_false hb29
        refine wp_skip ?_
        refine blk_normal ?_
        refine then_normal ?_
        refine wp_region_lit ?_
        refine st_val hE28 (y_move hE28 rfl) rfl fun a31 hE31 => st_val hE31 (y_add_in hE31 rfl rfl (m := ((i1 + 1 : Nat) : Int)) (by omega) (by omega) (by omega)) rfl fun a32 hE32 => st_val hE32 (y_assign hE32 rfl) rfl fun a33 hE33 => wpList_nil ?_
        clear hE28 hE31 hE32
        clear a28 a31 a32
        refine then_normal ⟨fu1, Nat.lt_succ_self _, (i1 + 1), (laws_szCall (nth p0 i1) s1_1), by omega, by omega, hM, hE33.weaken ⟨rfl, rfl, rfl, trivial⟩, hS24⟩
    ·
      have hge1 : ¬ i1 < p0.length := by have := of_decide_eq_false hb17; omega
      obtain rfl : fu1 = 0 := by omega
      have hM := hM.trans (laws_szCallS_l1.eq_1 _ _ _ _)
      refine wp_exit ?_
      refine then_exit ?_
      refine then_exit ?_
      refine blk_exit ?_
      refine then_normal ?_
      refine wp_seq (wp_region_lit ?_)
      refine st_val hE16 (y_move hE16 rfl) rfl fun a34 hE34 => st_val hE34 (y_assign hE34 rfl) rfl fun a35 hE35 => wpList_nil ?_
      clear hE16 hE34
      clear a16 a34
      refine then_normal ?_
      refine wp_ret ?_
      exact fin1 hE35 rfl rfl ⟨by rw [hM], hS12.below⟩

/- F91 loop.example/g00974/laws.szTouch -/
def laws_szTouch (p0 : Touch) (p1 : Int) : Int := (if (decide ((laws_szStringS p0.Reads p1) < 0)) = true then (-1) else (if (decide ((laws_szStringS p0.Writes (laws_szStringS p0.Reads p1)) < 0)) = true then (-1) else (laws_szStringS p0.Writes (laws_szStringS p0.Reads p1))))
theorem c_laws_szTouch {c0 : List Value} (p0 : Touch) (p1 : Int) {w : World} (hp0 : Dat.rd (Old w) w c0 p0) :
    Calls Try.prog 91 [.agg c0.toArray, .int .i64 p1].toArray w (fun e w' => e = .returned (.int .i64 (laws_szTouch p0 p1)) ∧ Below w.heap.size w w') := by
  obtain ⟨v90000_0, v90000_1, rfl, hv90000_0, hv90000_1, _⟩ := Touch_open hp0
  obtain ⟨A90000_0, cp90000_0, rfl, hx90000_0⟩ := hv90000_0.form
  obtain ⟨A90000_1, cp90000_1, rfl, hx90000_1⟩ := hv90000_1.form
  refine enter Try.func91 rfl Try.ntmps91 (Nat.le_of_ble_eq_true rfl) ?_
  intro a0 hE0
  have hS0 := SH.start w
  have hM := laws_szTouch.eq_1 p0 p1
  refine wp_seq (wp_region_lit ?_)
  refine st_box hE0 hS0 rfl rfl rfl fun b1 w1 hS1 a2 hE2 => st_val hE2 (y_assign hE2 rfl) rfl fun a3 hE3 => wpList_nil ?_
  clear hE0 hE2
  clear a0 a2
  refine then_normal ?_
  refine wp_seq (wp_region_lit ?_)
  refine st_val hE3 (y_fieldAddr hE3 rfl fa111_0 rfl) rfl fun a4 hE4 => st_val hE4 (y_load_one hE4 rfl (hS1.cells (k := 0) rfl) rfl one38) rfl fun a5 hE5 => st_val hE5 (y_move hE5 rfl) rfl fun a6 hE6 => st_callF hE6 hS1 Try.func47 fb47 fn47 (c_laws_szStringS p0.Reads p1 (hS1.up hv90000_0)) rfl rfl fun w7 hS7 a8 hE8 => st_val hE8 (y_assign hE8 rfl) rfl fun a9 hE9 => wpList_nil ?_
  clear hE3 hE4 hE5 hE6 hE8
  clear a3 a4 a5 a6 a8
  refine then_normal ?_
  refine wp_seq (wp_seq (wp_region_lit ?_))
  refine st_val hE9 (y_move hE9 rfl) rfl fun a10 hE10 => st_val hE10 (y_lss hE10 rfl rfl) rfl fun a11 hE11 => wpList_nil ?_
  clear hE9 hE10
  clear a9 a10
  refine then_normal ?_
  refine cond_split hE11 rfl (fun hb12 => ?_) (fun hb12 => ?_)
  ·
    have hM := hM.trans (if_t hb12)
    have hb12f : (laws_szStringS p0.Reads p1) < 0 := of_decide_eq_true hb12
    refine wp_seq (wp_region_lit ?_)
    refine st_val hE11 (y_assign hE11 rfl) rfl fun a13 hE13 => wpList_nil ?_
    clear hE11
    clear a11
    refine then_normal ?_
    refine wp_ret ?_
    refine then_ret ?_
    exact fin1 hE13 rfl rfl ⟨by rw [hM], hS7.below⟩
  ·
    have hM := hM.trans (if_f hb12)
    have hb12f : ¬ ((laws_szStringS p0.Reads p1) < 0) := of_decide_eq_false hb12
    refine wp_skip ?_
    refine then_normal ?_
    refine wp_seq (wp_region_lit ?_)
    refine st_val hE11 (y_fieldAddr hE11 rfl fa111_1 rfl) rfl fun a14 hE14 => st_val hE14 (y_load_one hE14 rfl (hS7.cells (k := 0) rfl) rfl one38) rfl fun a15 hE15 => st_val hE15 (y_move hE15 rfl) rfl fun a16 hE16 => st_callF hE16 hS7 Try.func47 fb47 fn47 (c_laws_szStringS p0.Writes (laws_szStringS p0.Reads p1) (hS7.up hv90000_1)) rfl rfl fun w17 hS17 a18 hE18 => st_val hE18 (y_assign hE18 rfl) rfl fun a19 hE19 => wpList_nil ?_
    clear hE11 hE14 hE15 hE16 hE18
    clear a11 a14 a15 a16 a18
    refine then_normal ?_
    refine wp_seq (wp_seq (wp_region_lit ?_))
    refine st_val hE19 (y_move hE19 rfl) rfl fun a20 hE20 => st_val hE20 (y_lss hE20 rfl rfl) rfl fun a21 hE21 => wpList_nil ?_
    clear hE19 hE20
    clear a19 a20
    refine then_normal ?_
    refine cond_split hE21 rfl (fun hb22 => ?_) (fun hb22 => ?_)
    ·
      have hM := hM.trans (if_t hb22)
      have hb22f : (laws_szStringS p0.Writes (laws_szStringS p0.Reads p1)) < 0 := of_decide_eq_true hb22
      refine wp_seq (wp_region_lit ?_)
      refine st_val hE21 (y_assign hE21 rfl) rfl fun a23 hE23 => wpList_nil ?_
      clear hE21
      clear a21
      refine then_normal ?_
      refine wp_ret ?_
      refine then_ret ?_
      exact fin1 hE23 rfl rfl ⟨by rw [hM], hS17.below⟩
    ·
      have hM := hM.trans (if_f hb22)
      have hb22f : ¬ ((laws_szStringS p0.Writes (laws_szStringS p0.Reads p1)) < 0) := of_decide_eq_false hb22
      refine wp_skip ?_
      refine then_normal ?_
      refine wp_seq (wp_region_lit ?_)
      refine st_val hE21 (y_move hE21 rfl) rfl fun a24 hE24 => st_val hE24 (y_assign hE24 rfl) rfl fun a25 hE25 => wpList_nil ?_
      clear hE21 hE24
      clear a21 a24
      refine then_normal ?_
      refine wp_ret ?_
      exact fin1 hE25 rfl rfl ⟨by rw [hM], hS17.below⟩

/- F67 loop.example/g00974/laws.szTx -/
def laws_szTx (p0 : Tx) (p1 : Int) : Int := (if (decide ((laws_szCallS p0.Calls p1) < 0)) = true then (-1) else (if (decide ((laws_szAnswerS p0.Answers (laws_szCallS p0.Calls p1)) < 0)) = true then (-1) else (if (decide ((laws_szTouch p0.Touch (laws_szAnswerS p0.Answers (laws_szCallS p0.Calls p1))) < 0)) = true then (-1) else (if (decide ((laws_szIntS p0.Marks (laws_szTouch p0.Touch (laws_szAnswerS p0.Answers (laws_szCallS p0.Calls p1)))) < 0)) = true then (-1) else (laws_szIntS p0.Marks (laws_szTouch p0.Touch (laws_szAnswerS p0.Answers (laws_szCallS p0.Calls p1))))))))
theorem c_laws_szTx {c0 : List Value} (p0 : Tx) (p1 : Int) {w : World} (hp0 : Dat.rd (Old w) w c0 p0) :
    Calls Try.prog 67 [.agg c0.toArray, .int .i64 p1].toArray w (fun e w' => e = .returned (.int .i64 (laws_szTx p0 p1)) ∧ Below w.heap.size w w') := by
  obtain ⟨v90000_4, v90000_5, v90000_6, v90000_7, v90000_8, rfl, hg90000_0, hg90000_1, hg90000_2, hg90000_3, hv90000_4, hv90000_5, hv90000_6, hv90000_7, hv90000_8, hg90000_9, _⟩ := Tx_open hp0
  obtain ⟨A90000_4, cp90000_4, rfl, hx90000_4⟩ := hv90000_4.form
  obtain ⟨A90000_5, cp90000_5, rfl, hx90000_5⟩ := hv90000_5.form
  obtain ⟨A90000_6, cp90000_6, rfl, hx90000_6⟩ := hv90000_6.form
  obtain ⟨A90000_7, cp90000_7, rfl, hx90000_7⟩ := hv90000_7.form
  obtain ⟨A90000_8, cp90000_8, rfl, hx90000_8⟩ := hv90000_8.form
  refine enter Try.func67 rfl Try.ntmps67 (Nat.le_of_ble_eq_true rfl) ?_
  intro a0 hE0
  have hS0 := SH.start w
  have hM := laws_szTx.eq_1 p0 p1
  refine wp_seq (wp_region_lit ?_)
  refine st_box hE0 hS0 rfl rfl rfl fun b1 w1 hS1 a2 hE2 => st_val hE2 (y_assign hE2 rfl) rfl fun a3 hE3 => wpList_nil ?_
  clear hE0 hE2
  clear a0 a2
  refine then_normal ?_
  refine wp_seq (wp_region_lit ?_)
  refine st_val hE3 (y_fieldAddr hE3 rfl fa113_4 rfl) rfl fun a4 hE4 => st_val hE4 (y_load_one hE4 rfl (hS1.cells (k := 0) rfl) rfl one109) rfl fun a5 hE5 => st_val hE5 (y_move hE5 rfl) rfl fun a6 hE6 => st_callF hE6 hS1 Try.func90 fb90 fn90 (c_laws_szCallS p0.Calls p1 (hS1.up hv90000_4)) rfl rfl fun w7 hS7 a8 hE8 => st_val hE8 (y_assign hE8 rfl) rfl fun a9 hE9 => wpList_nil ?_
  clear hE3 hE4 hE5 hE6 hE8
  clear a3 a4 a5 a6 a8
  refine then_normal ?_
  refine wp_seq (wp_seq (wp_region_lit ?_))
  refine st_val hE9 (y_move hE9 rfl) rfl fun a10 hE10 => st_val hE10 (y_lss hE10 rfl rfl) rfl fun a11 hE11 => wpList_nil ?_
  clear hE9 hE10
  clear a9 a10
  refine then_normal ?_
  refine cond_split hE11 rfl (fun hb12 => ?_) (fun hb12 => ?_)
  ·
    have hM := hM.trans (if_t hb12)
    have hb12f : (laws_szCallS p0.Calls p1) < 0 := of_decide_eq_true hb12
    refine wp_seq (wp_region_lit ?_)
    refine st_val hE11 (y_assign hE11 rfl) rfl fun a13 hE13 => wpList_nil ?_
    clear hE11
    clear a11
    refine then_normal ?_
    refine wp_ret ?_
    refine then_ret ?_
    exact fin1 hE13 rfl rfl ⟨by rw [hM], hS7.below⟩
  ·
    have hM := hM.trans (if_f hb12)
    have hb12f : ¬ ((laws_szCallS p0.Calls p1) < 0) := of_decide_eq_false hb12
    refine wp_skip ?_
    refine then_normal ?_
    refine wp_seq (wp_region_lit ?_)
    refine st_val hE11 (y_fieldAddr hE11 rfl fa113_5 rfl) rfl fun a14 hE14 => st_val hE14 (y_load_one hE14 rfl (hS7.cells (k := 0) rfl) rfl one68) rfl fun a15 hE15 => st_val hE15 (y_move hE15 rfl) rfl fun a16 hE16 => st_callF hE16 hS7 Try.func58 fb58 fn58 (c_laws_szAnswerS p0.Answers (laws_szCallS p0.Calls p1) (hS7.up hv90000_5)) rfl rfl fun w17 hS17 a18 hE18 => st_val hE18 (y_assign hE18 rfl) rfl fun a19 hE19 => wpList_nil ?_
    clear hE11 hE14 hE15 hE16 hE18
    clear a11 a14 a15 a16 a18
    refine then_normal ?_
    refine wp_seq (wp_seq (wp_region_lit ?_))
    refine st_val hE19 (y_move hE19 rfl) rfl fun a20 hE20 => st_val hE20 (y_lss hE20 rfl rfl) rfl fun a21 hE21 => wpList_nil ?_
    clear hE19 hE20
    clear a19 a20
    refine then_normal ?_
    refine cond_split hE21 rfl (fun hb22 => ?_) (fun hb22 => ?_)
    ·
      have hM := hM.trans (if_t hb22)
      have hb22f : (laws_szAnswerS p0.Answers (laws_szCallS p0.Calls p1)) < 0 := of_decide_eq_true hb22
      refine wp_seq (wp_region_lit ?_)
      refine st_val hE21 (y_assign hE21 rfl) rfl fun a23 hE23 => wpList_nil ?_
      clear hE21
      clear a21
      refine then_normal ?_
      refine wp_ret ?_
      refine then_ret ?_
      exact fin1 hE23 rfl rfl ⟨by rw [hM], hS17.below⟩
    ·
      have hM := hM.trans (if_f hb22)
      have hb22f : ¬ ((laws_szAnswerS p0.Answers (laws_szCallS p0.Calls p1)) < 0) := of_decide_eq_false hb22
      refine wp_skip ?_
      refine then_normal ?_
      refine wp_seq (wp_region_lit ?_)
      refine st_val hE21 (y_fieldAddr hE21 rfl fa113_6 rfl) rfl fun a24 hE24 => st_val hE24 (y_load_agg hE24 rfl (hS17.cells (k := 0) rfl) rfl rfl agg111) rfl fun a25 hE25 => st_val hE25 (y_move hE25 rfl) rfl fun a26 hE26 => st_callF hE26 hS17 Try.func91 fb91 fn91 (c_laws_szTouch p0.Touch (laws_szAnswerS p0.Answers (laws_szCallS p0.Calls p1)) (hS17.upd (Touch_mk (x := p0.Touch) hv90000_6 hv90000_7))) rfl rfl fun w27 hS27 a28 hE28 => st_val hE28 (y_assign hE28 rfl) rfl fun a29 hE29 => wpList_nil ?_
      clear hE21 hE24 hE25 hE26 hE28
      clear a21 a24 a25 a26 a28
      refine then_normal ?_
      refine wp_seq (wp_seq (wp_region_lit ?_))
      refine st_val hE29 (y_move hE29 rfl) rfl fun a30 hE30 => st_val hE30 (y_lss hE30 rfl rfl) rfl fun a31 hE31 => wpList_nil ?_
      clear hE29 hE30
      clear a29 a30
      refine then_normal ?_
      refine cond_split hE31 rfl (fun hb32 => ?_) (fun hb32 => ?_)
      ·
        have hM := hM.trans (if_t hb32)
        have hb32f : (laws_szTouch p0.Touch (laws_szAnswerS p0.Answers (laws_szCallS p0.Calls p1))) < 0 := of_decide_eq_true hb32
        refine wp_seq (wp_region_lit ?_)
        refine st_val hE31 (y_assign hE31 rfl) rfl fun a33 hE33 => wpList_nil ?_
        clear hE31
        clear a31
        refine then_normal ?_
        refine wp_ret ?_
        refine then_ret ?_
        exact fin1 hE33 rfl rfl ⟨by rw [hM], hS27.below⟩
      ·
        have hM := hM.trans (if_f hb32)
        have hb32f : ¬ ((laws_szTouch p0.Touch (laws_szAnswerS p0.Answers (laws_szCallS p0.Calls p1))) < 0) := of_decide_eq_false hb32
        refine wp_skip ?_
        refine then_normal ?_
        refine wp_seq (wp_region_lit ?_)
        refine st_val hE31 (y_fieldAddr hE31 rfl fa113_7 rfl) rfl fun a34 hE34 => st_val hE34 (y_load_one hE34 rfl (hS27.cells (k := 0) rfl) rfl one32) rfl fun a35 hE35 => st_val hE35 (y_move hE35 rfl) rfl fun a36 hE36 => st_callF hE36 hS27 Try.func92 fb92 fn92 (c_laws_szIntS p0.Marks (laws_szTouch p0.Touch (laws_szAnswerS p0.Answers (laws_szCallS p0.Calls p1))) (hS27.up hv90000_8)) rfl rfl fun w37 hS37 a38 hE38 => st_val hE38 (y_assign hE38 rfl) rfl fun a39 hE39 => wpList_nil ?_
        clear hE31 hE34 hE35 hE36 hE38
        clear a31 a34 a35 a36 a38
        refine then_normal ?_
        refine wp_seq (wp_seq (wp_region_lit ?_))
        refine st_val hE39 (y_move hE39 rfl) rfl fun a40 hE40 => st_val hE40 (y_lss hE40 rfl rfl) rfl fun a41 hE41 => wpList_nil ?_
        clear hE39 hE40
        clear a39 a40
        refine then_normal ?_
        refine cond_split hE41 rfl (fun hb42 => ?_) (fun hb42 => ?_)
        ·
          have hM := hM.trans (if_t hb42)
          have hb42f : (laws_szIntS p0.Marks (laws_szTouch p0.Touch (laws_szAnswerS p0.Answers (laws_szCallS p0.Calls p1)))) < 0 := of_decide_eq_true hb42
          refine wp_seq (wp_region_lit ?_)
          refine st_val hE41 (y_assign hE41 rfl) rfl fun a43 hE43 => wpList_nil ?_
          clear hE41
          clear a41
          refine then_normal ?_
          refine wp_ret ?_
          refine then_ret ?_
          exact fin1 hE43 rfl rfl ⟨by rw [hM], hS37.below⟩
        ·
          have hM := hM.trans (if_f hb42)
          have hb42f : ¬ ((laws_szIntS p0.Marks (laws_szTouch p0.Touch (laws_szAnswerS p0.Answers (laws_szCallS p0.Calls p1)))) < 0) := of_decide_eq_false hb42
          refine wp_skip ?_
          refine then_normal ?_
          refine wp_seq (wp_region_lit ?_)
          refine st_val hE41 (y_move hE41 rfl) rfl fun a44 hE44 => st_val hE44 (y_assign hE44 rfl) rfl fun a45 hE45 => wpList_nil ?_
          clear hE41 hE44
          clear a41 a44
          refine then_normal ?_
          refine wp_ret ?_
          exact fin1 hE45 rfl rfl ⟨by rw [hM], hS37.below⟩

/- F45 loop.example/g00974/laws.szTxS -/
def laws_szTxS_l1 (p0 : List Tx) (p1 : Int) : Nat → Nat → Int → Int
  | 0, i1, s1_1 => s1_1
  | fu1 + 1, i1, s1_1 => (if (decide ((laws_szTx (nth p0 i1) s1_1) < 0)) = true then (-1) else laws_szTxS_l1 p0 p1 fu1 (i1 + 1) (laws_szTx (nth p0 i1) s1_1))
def laws_szTxS (p0 : List Tx) (p1 : Int) : Int := (if (decide (IntKind.i64.wrap (p1 - (p0.length : Int)) < 0)) = true then (-1) else laws_szTxS_l1 p0 p1 (p0.length - 0) 0 (IntKind.i64.wrap (p1 - (p0.length : Int))))
theorem c_laws_szTxS {v0 : Value} (p0 : List Tx) (p1 : Int) {w : World} (hp0 : SlR (Old w) w v0 p0) :
    Calls Try.prog 45 [v0, .int .i64 p1].toArray w (fun e w' => e = .returned (.int .i64 (laws_szTxS p0 p1)) ∧ Below w.heap.size w w') := by
  obtain ⟨A0, cap0, rfl, hx0⟩ := hp0.form
  refine enter Try.func45 rfl Try.ntmps45 (Nat.le_of_ble_eq_true rfl) ?_
  intro a0 hE0
  have hS0 := SH.start w
  have hM := laws_szTxS.eq_1 p0 p1
  refine wp_seq (wp_region_lit ?_)
  refine st_val hE0 (y_assign hE0 rfl) rfl fun a1 hE1 => wpList_nil ?_
  clear hE0
  clear a0
  refine then_normal ?_
  refine wp_seq (wp_region_lit ?_)
  refine st_val hE1 (y_move hE1 rfl) rfl fun a2 hE2 => st_val hE2 (y_move hE2 rfl) rfl fun a3 hE3 => st_val hE3 (y_len_slice hE3 rfl sl43) rfl fun a4 hE4 => st_val hE4 (y_sub hE4 rfl rfl) rfl fun a5 hE5 => st_val hE5 (y_assign hE5 rfl) rfl fun a6 hE6 => wpList_nil ?_
  clear hE1 hE2 hE3 hE4 hE5
  clear a1 a2 a3 a4 a5
  refine then_normal ?_
  refine wp_seq (wp_seq (wp_region_lit ?_))
  refine st_val hE6 (y_move hE6 rfl) rfl fun a7 hE7 => st_val hE7 (y_lss hE7 rfl rfl) rfl fun a8 hE8 => wpList_nil ?_
  clear hE6 hE7
  clear a6 a7
  refine then_normal ?_
  refine cond_split hE8 rfl (fun hb9 => ?_) (fun hb9 => ?_)
  ·
    have hM := hM.trans (if_t hb9)
    have hb9f : IntKind.i64.wrap (p1 - (p0.length : Int)) < 0 := of_decide_eq_true hb9
    refine wp_seq (wp_region_lit ?_)
    refine st_val hE8 (y_assign hE8 rfl) rfl fun a10 hE10 => wpList_nil ?_
    clear hE8
    clear a8
    refine then_normal ?_
    refine wp_ret ?_
    refine then_ret ?_
    exact fin1 hE10 rfl rfl ⟨by rw [hM], hS0.below⟩
  ·
    have hM := hM.trans (if_f hb9)
    have hb9f : ¬ (IntKind.i64.wrap (p1 - (p0.length : Int)) < 0) := of_decide_eq_false hb9
    refine wp_skip ?_
    refine then_normal ?_
    refine wp_seq (wp_seq (wp_region_lit ?_))
    refine st_val hE8 (y_assign hE8 rfl) rfl fun a11 hE11 => wpList_nil ?_
    clear hE8
    clear a8
    refine then_normal ?_
    refine wp_block (wp_loop_ghost (fun fu1 a w2 => ∃ (i1 : Nat) (s1_1 : Int), 0 ≤ i1 ∧ fu1 = p0.length - i1 ∧ laws_szTxS p0 p1 = laws_szTxS_l1 p0 p1 fu1 i1 s1_1 ∧ Env 27 [(0, .slice A0 p0.length cap0), (1, .int .i64 s1_1), (5, .int .i64 (i1 : Int))] a ∧ SH (Old w) w w2 []) (p0.length - 0) ⟨0, IntKind.i64.wrap (p1 - (p0.length : Int)), Nat.le_refl _, rfl, hM, hE11.weaken ⟨rfl, rfl, rfl, trivial⟩, hS0⟩ ?_)
    clear hM hE11
    rintro fu1 a12 w12 ⟨i1, s1_1, hi1, hfu1, hM, hE12, hS12⟩
    refine wp_seq (wp_seq (wp_region_lit ?_))
    refine st_val hE12 (y_move hE12 rfl) rfl fun a13 hE13 => st_val hE13 (y_move hE13 rfl) rfl fun a14 hE14 => st_val hE14 (y_len_slice hE14 rfl sl43) rfl fun a15 hE15 => st_val hE15 (y_lss hE15 rfl rfl) rfl fun a16 hE16 => wpList_nil ?_
    clear hE12 hE13 hE14 hE15
    clear a12 a13 a14 a15
    refine then_normal ?_
    refine cond_split hE16 rfl (fun hb17 => ?_) (fun hb17 => ?_)
    ·
      have hlt1 : i1 < p0.length := by have := of_decide_eq_true hb17; omega
      obtain ⟨fu1, rfl⟩ : ∃ m, fu1 = m + 1 := ⟨fu1 - 1, by omega⟩
      have hM := hM.trans (laws_szTxS_l1.eq_2 _ _ _ _ _)
      refine wp_skip ?_
      refine then_normal ?_
      refine wp_seq (wp_block (wp_seq (wp_region_lit ?_)))
      refine st_val hE16 (y_move hE16 rfl) rfl fun a18 hE18 => st_val hE18 (y_move hE18 rfl) rfl fun a19 hE19 => st_index hE19 hp0 rfl rfl rfl (by omega) sl43 rfl fun ad20 cs20 hr20 hc20 hl20 a21 hE21 => ?_
      obtain ⟨v20_4, v20_5, v20_6, v20_7, v20_8, rfl, hg20_0, hg20_1, hg20_2, hg20_3, hv20_4, hv20_5, hv20_6, hv20_7, hv20_8, hg20_9, _⟩ := Tx_open hr20
      obtain ⟨A20_4, cp20_4, rfl, hx20_4⟩ := hv20_4.form
      obtain ⟨A20_5, cp20_5, rfl, hx20_5⟩ := hv20_5.form
      obtain ⟨A20_6, cp20_6, rfl, hx20_6⟩ := hv20_6.form
      obtain ⟨A20_7, cp20_7, rfl, hx20_7⟩ := hv20_7.form
      obtain ⟨A20_8, cp20_8, rfl, hx20_8⟩ := hv20_8.form
      refine st_val hE21 (y_load_agg hE21 rfl (hS12.upc hc20 hl20) rfl rfl agg113) rfl fun a22 hE22 => st_val hE22 (y_move hE22 rfl) rfl fun a23 hE23 => st_callF hE23 hS12 Try.func67 fb67 fn67 (c_laws_szTx (nth p0 i1) s1_1 (hS12.upd hr20)) rfl rfl fun w24 hS24 a25 hE25 => st_val hE25 (y_assign hE25 rfl) rfl fun a26 hE26 => wpList_nil ?_
      clear hE16 hE18 hE19 hE21 hE22 hE23 hE25
      clear a16 a18 a19 a21 a22 a23 a25
      refine then_normal ?_
      refine wp_seq (wp_region_lit ?_)
      refine st_val hE26 (y_move hE26 rfl) rfl fun a27 hE27 => st_val hE27 (y_lss hE27 rfl rfl) rfl fun a28 hE28 => wpList_nil ?_
      clear hE26 hE27
      clear a26 a27
      refine then_normal ?_
      refine cond_split hE28 rfl (fun hb29 => ?_) (fun hb29 => ?_)
      ·
        have hM := hM.trans (if_t hb29)
        have hb29f : (laws_szTx (nth p0 i1) s1_1) < 0 := of_decide_eq_true hb29
        refine wp_seq (wp_region_lit ?_)
        refine st_val hE28 (y_assign hE28 rfl) rfl fun a30 hE30 => wpList_nil ?_
        clear hE28
        clear a28
        refine then_normal ?_
        refine wp_ret ?_
        refine blk_ret ?_
        refine then_ret ?_
        refine then_ret ?_
        refine blk_ret ?_
        refine then_ret ?_
        exact fin1 hE30 rfl rfl ⟨by rw [hM], hS24.below⟩
      ·
        have hM := hM.trans (if_f hb29)
        have hb29f : ¬ ((laws_szTx (nth p0 i1) s1_1) < 0) := of_decide_eq_false hb29
        refine wp_skip ?_
        refine blk_normal ?_
        refine then_normal ?_
        refine wp_region_lit ?_
        refine st_val hE28 (y_move hE28 rfl) rfl fun a31 hE31 => st_val hE31 (y_add_in hE31 rfl rfl (m := ((i1 + 1 : Nat) : Int)) (by omega) (by omega) (by omega)) rfl fun a32 hE32 => st_val hE32 (y_assign hE32 rfl) rfl fun a33 hE33 => wpList_nil ?_
        clear hE28 hE31 hE32
        clear a28 a31 a32
        refine then_normal ⟨fu1, Nat.lt_succ_self _, (i1 + 1), (laws_szTx (nth p0 i1) s1_1), by omega, by omega, hM, hE33.weaken ⟨rfl, rfl, rfl, trivial⟩, hS24⟩
    ·
      have hge1 : ¬ i1 < p0.length := by have := of_decide_eq_false hb17; omega
      obtain rfl : fu1 = 0 := by omega
      have hM := hM.trans (laws_szTxS_l1.eq_1 _ _ _ _)
      refine wp_exit ?_
      refine then_exit ?_
      refine then_exit ?_
      refine blk_exit ?_
      refine then_normal ?_
      refine wp_seq (wp_region_lit ?_)
      refine st_val hE16 (y_move hE16 rfl) rfl fun a34 hE34 => st_val hE34 (y_assign hE34 rfl) rfl fun a35 hE35 => wpList_nil ?_
      clear hE16 hE34
      clear a16 a34
      refine then_normal ?_
      refine wp_ret ?_
      exact fin1 hE35 rfl rfl ⟨by rw [hM], hS12.below⟩

/- F93 loop.example/g00974/laws.szSlot -/
def laws_szSlot (p0 : Slot) (p1 : Int) : Int := (if (decide ((laws_szCellS p0.Cells p1) < 0)) = true then (-1) else (laws_szCellS p0.Cells p1))
theorem c_laws_szSlot {c0 : List Value} (p0 : Slot) (p1 : Int) {w : World} (hp0 : Dat.rd (Old w) w c0 p0) :
    Calls Try.prog 93 [.agg c0.toArray, .int .i64 p1].toArray w (fun e w' => e = .returned (.int .i64 (laws_szSlot p0 p1)) ∧ Below w.heap.size w w') := by
  obtain ⟨v90000_1, rfl, hg90000_0, hv90000_1, _⟩ := Slot_open hp0
  obtain ⟨A90000_1, cp90000_1, rfl, hx90000_1⟩ := hv90000_1.form
  refine enter Try.func93 rfl Try.ntmps93 (Nat.le_of_ble_eq_true rfl) ?_
  intro a0 hE0
  have hS0 := SH.start w
  have hM := laws_szSlot.eq_1 p0 p1
  refine wp_seq (wp_region_lit ?_)
  refine st_box hE0 hS0 rfl rfl rfl fun b1 w1 hS1 a2 hE2 => st_val hE2 (y_assign hE2 rfl) rfl fun a3 hE3 => wpList_nil ?_
  clear hE0 hE2
  clear a0 a2
  refine then_normal ?_
  refine wp_seq (wp_region_lit ?_)
  refine st_val hE3 (y_fieldAddr hE3 rfl fa145_1 rfl) rfl fun a4 hE4 => st_val hE4 (y_load_one hE4 rfl (hS1.cells (k := 0) rfl) rfl one42) rfl fun a5 hE5 => st_val hE5 (y_move hE5 rfl) rfl fun a6 hE6 => st_callF hE6 hS1 Try.func44 fb44 fn44 (c_laws_szCellS p0.Cells p1 (hS1.up hv90000_1)) rfl rfl fun w7 hS7 a8 hE8 => st_val hE8 (y_assign hE8 rfl) rfl fun a9 hE9 => wpList_nil ?_
  clear hE3 hE4 hE5 hE6 hE8
  clear a3 a4 a5 a6 a8
  refine then_normal ?_
  refine wp_seq (wp_seq (wp_region_lit ?_))
  refine st_val hE9 (y_move hE9 rfl) rfl fun a10 hE10 => st_val hE10 (y_lss hE10 rfl rfl) rfl fun a11 hE11 => wpList_nil ?_
  clear hE9 hE10
  clear a9 a10
  refine then_normal ?_
  refine cond_split hE11 rfl (fun hb12 => ?_) (fun hb12 => ?_)
  ·
    have hM := hM.trans (if_t hb12)
    have hb12f : (laws_szCellS p0.Cells p1) < 0 := of_decide_eq_true hb12
    refine wp_seq (wp_region_lit ?_)
    refine st_val hE11 (y_assign hE11 rfl) rfl fun a13 hE13 => wpList_nil ?_
    clear hE11
    clear a11
    refine then_normal ?_
    refine wp_ret ?_
    refine then_ret ?_
    exact fin1 hE13 rfl rfl ⟨by rw [hM], hS7.below⟩
  ·
    have hM := hM.trans (if_f hb12)
    have hb12f : ¬ ((laws_szCellS p0.Cells p1) < 0) := of_decide_eq_false hb12
    refine wp_skip ?_
    refine then_normal ?_
    refine wp_seq (wp_region_lit ?_)
    refine st_val hE11 (y_move hE11 rfl) rfl fun a14 hE14 => st_val hE14 (y_assign hE14 rfl) rfl fun a15 hE15 => wpList_nil ?_
    clear hE11 hE14
    clear a11 a14
    refine then_normal ?_
    refine wp_ret ?_
    exact fin1 hE15 rfl rfl ⟨by rw [hM], hS7.below⟩

/- F68 loop.example/g00974/laws.szSlotS -/
def laws_szSlotS_l1 (p0 : List Slot) (p1 : Int) : Nat → Nat → Int → Int
  | 0, i1, s1_1 => s1_1
  | fu1 + 1, i1, s1_1 => (if (decide ((laws_szSlot (nth p0 i1) s1_1) < 0)) = true then (-1) else laws_szSlotS_l1 p0 p1 fu1 (i1 + 1) (laws_szSlot (nth p0 i1) s1_1))
def laws_szSlotS (p0 : List Slot) (p1 : Int) : Int := (if (decide (IntKind.i64.wrap (p1 - (p0.length : Int)) < 0)) = true then (-1) else laws_szSlotS_l1 p0 p1 (p0.length - 0) 0 (IntKind.i64.wrap (p1 - (p0.length : Int))))
theorem c_laws_szSlotS {v0 : Value} (p0 : List Slot) (p1 : Int) {w : World} (hp0 : SlR (Old w) w v0 p0) :
    Calls Try.prog 68 [v0, .int .i64 p1].toArray w (fun e w' => e = .returned (.int .i64 (laws_szSlotS p0 p1)) ∧ Below w.heap.size w w') := by
  obtain ⟨A0, cap0, rfl, hx0⟩ := hp0.form
  refine enter Try.func68 rfl Try.ntmps68 (Nat.le_of_ble_eq_true rfl) ?_
  intro a0 hE0
  have hS0 := SH.start w
  have hM := laws_szSlotS.eq_1 p0 p1
  refine wp_seq (wp_region_lit ?_)
  refine st_val hE0 (y_assign hE0 rfl) rfl fun a1 hE1 => wpList_nil ?_
  clear hE0
  clear a0
  refine then_normal ?_
  refine wp_seq (wp_region_lit ?_)
  refine st_val hE1 (y_move hE1 rfl) rfl fun a2 hE2 => st_val hE2 (y_move hE2 rfl) rfl fun a3 hE3 => st_val hE3 (y_len_slice hE3 rfl sl44) rfl fun a4 hE4 => st_val hE4 (y_sub hE4 rfl rfl) rfl fun a5 hE5 => st_val hE5 (y_assign hE5 rfl) rfl fun a6 hE6 => wpList_nil ?_
  clear hE1 hE2 hE3 hE4 hE5
  clear a1 a2 a3 a4 a5
  refine then_normal ?_
  refine wp_seq (wp_seq (wp_region_lit ?_))
  refine st_val hE6 (y_move hE6 rfl) rfl fun a7 hE7 => st_val hE7 (y_lss hE7 rfl rfl) rfl fun a8 hE8 => wpList_nil ?_
  clear hE6 hE7
  clear a6 a7
  refine then_normal ?_
  refine cond_split hE8 rfl (fun hb9 => ?_) (fun hb9 => ?_)
  ·
    have hM := hM.trans (if_t hb9)
    have hb9f : IntKind.i64.wrap (p1 - (p0.length : Int)) < 0 := of_decide_eq_true hb9
    refine wp_seq (wp_region_lit ?_)
    refine st_val hE8 (y_assign hE8 rfl) rfl fun a10 hE10 => wpList_nil ?_
    clear hE8
    clear a8
    refine then_normal ?_
    refine wp_ret ?_
    refine then_ret ?_
    exact fin1 hE10 rfl rfl ⟨by rw [hM], hS0.below⟩
  ·
    have hM := hM.trans (if_f hb9)
    have hb9f : ¬ (IntKind.i64.wrap (p1 - (p0.length : Int)) < 0) := of_decide_eq_false hb9
    refine wp_skip ?_
    refine then_normal ?_
    refine wp_seq (wp_seq (wp_region_lit ?_))
    refine st_val hE8 (y_assign hE8 rfl) rfl fun a11 hE11 => wpList_nil ?_
    clear hE8
    clear a8
    refine then_normal ?_
    refine wp_block (wp_loop_ghost (fun fu1 a w2 => ∃ (i1 : Nat) (s1_1 : Int), 0 ≤ i1 ∧ fu1 = p0.length - i1 ∧ laws_szSlotS p0 p1 = laws_szSlotS_l1 p0 p1 fu1 i1 s1_1 ∧ Env 27 [(0, .slice A0 p0.length cap0), (1, .int .i64 s1_1), (5, .int .i64 (i1 : Int))] a ∧ SH (Old w) w w2 []) (p0.length - 0) ⟨0, IntKind.i64.wrap (p1 - (p0.length : Int)), Nat.le_refl _, rfl, hM, hE11.weaken ⟨rfl, rfl, rfl, trivial⟩, hS0⟩ ?_)
    clear hM hE11
    rintro fu1 a12 w12 ⟨i1, s1_1, hi1, hfu1, hM, hE12, hS12⟩
    refine wp_seq (wp_seq (wp_region_lit ?_))
    refine st_val hE12 (y_move hE12 rfl) rfl fun a13 hE13 => st_val hE13 (y_move hE13 rfl) rfl fun a14 hE14 => st_val hE14 (y_len_slice hE14 rfl sl44) rfl fun a15 hE15 => st_val hE15 (y_lss hE15 rfl rfl) rfl fun a16 hE16 => wpList_nil ?_
    clear hE12 hE13 hE14 hE15
    clear a12 a13 a14 a15
    refine then_normal ?_
    refine cond_split hE16 rfl (fun hb17 => ?_) (fun hb17 => ?_)
    ·
      have hlt1 : i1 < p0.length := by have := of_decide_eq_true hb17; omega
      obtain ⟨fu1, rfl⟩ : ∃ m, fu1 = m + 1 := ⟨fu1 - 1, by omega⟩
      have hM := hM.trans (laws_szSlotS_l1.eq_2 _ _ _ _ _)
      refine wp_skip ?_
      refine then_normal ?_
      refine wp_seq (wp_block (wp_seq (wp_region_lit ?_)))
      refine st_val hE16 (y_move hE16 rfl) rfl fun a18 hE18 => st_val hE18 (y_move hE18 rfl) rfl fun a19 hE19 => st_index hE19 hp0 rfl rfl rfl (by omega) sl44 rfl fun ad20 cs20 hr20 hc20 hl20 a21 hE21 => ?_
      obtain ⟨v20_1, rfl, hg20_0, hv20_1, _⟩ := Slot_open hr20
      obtain ⟨A20_1, cp20_1, rfl, hx20_1⟩ := hv20_1.form
      refine st_val hE21 (y_load_agg hE21 rfl (hS12.upc hc20 hl20) rfl rfl agg145) rfl fun a22 hE22 => st_val hE22 (y_move hE22 rfl) rfl fun a23 hE23 => st_callF hE23 hS12 Try.func93 fb93 fn93 (c_laws_szSlot (nth p0 i1) s1_1 (hS12.upd hr20)) rfl rfl fun w24 hS24 a25 hE25 => st_val hE25 (y_assign hE25 rfl) rfl fun a26 hE26 => wpList_nil ?_
      clear hE16 hE18 hE19 hE21 hE22 hE23 hE25
      clear a16 a18 a19 a21 a22 a23 a25
      refine then_normal ?_
      refine wp_seq (wp_region_lit ?_)
      refine st_val hE26 (y_move hE26 rfl) rfl fun a27 hE27 => st_val hE27 (y_lss hE27 rfl rfl) rfl fun a28 hE28 => wpList_nil ?_
      clear hE26 hE27
      clear a26 a27
      refine then_normal ?_
      refine cond_split hE28 rfl (fun hb29 => ?_) (fun hb29 => ?_)
      ·
        have hM := hM.trans (if_t hb29)
        have hb29f : (laws_szSlot (nth p0 i1) s1_1) < 0 := of_decide_eq_true hb29
        refine wp_seq (wp_region_lit ?_)
        refine st_val hE28 (y_assign hE28 rfl) rfl fun a30 hE30 => wpList_nil ?_
        clear hE28
        clear a28
        refine then_normal ?_
        refine wp_ret ?_
        refine blk_ret ?_
        refine then_ret ?_
        refine then_ret ?_
        refine blk_ret ?_
        refine then_ret ?_
        exact fin1 hE30 rfl rfl ⟨by rw [hM], hS24.below⟩
      ·
        have hM := hM.trans (if_f hb29)
        have hb29f : ¬ ((laws_szSlot (nth p0 i1) s1_1) < 0) := of_decide_eq_false hb29
        refine wp_skip ?_
        refine blk_normal ?_
        refine then_normal ?_
        refine wp_region_lit ?_
        refine st_val hE28 (y_move hE28 rfl) rfl fun a31 hE31 => st_val hE31 (y_add_in hE31 rfl rfl (m := ((i1 + 1 : Nat) : Int)) (by omega) (by omega) (by omega)) rfl fun a32 hE32 => st_val hE32 (y_assign hE32 rfl) rfl fun a33 hE33 => wpList_nil ?_
        clear hE28 hE31 hE32
        clear a28 a31 a32
        refine then_normal ⟨fu1, Nat.lt_succ_self _, (i1 + 1), (laws_szSlot (nth p0 i1) s1_1), by omega, by omega, hM, hE33.weaken ⟨rfl, rfl, rfl, trivial⟩, hS24⟩
    ·
      have hge1 : ¬ i1 < p0.length := by have := of_decide_eq_false hb17; omega
      obtain rfl : fu1 = 0 := by omega
      have hM := hM.trans (laws_szSlotS_l1.eq_1 _ _ _ _)
      refine wp_exit ?_
      refine then_exit ?_
      refine then_exit ?_
      refine blk_exit ?_
      refine then_normal ?_
      refine wp_seq (wp_region_lit ?_)
      refine st_val hE16 (y_move hE16 rfl) rfl fun a34 hE34 => st_val hE34 (y_assign hE34 rfl) rfl fun a35 hE35 => wpList_nil ?_
      clear hE16 hE34
      clear a16 a34
      refine then_normal ?_
      refine wp_ret ?_
      exact fin1 hE35 rfl rfl ⟨by rw [hM], hS12.below⟩

/- F69 loop.example/g00974/laws.szJournal -/
def laws_szJournal (p0 : Journal) (p1 : Int) : Int := (if (decide (IntKind.i64.wrap (p1 - (p0.Text.size : Int)) < 0)) = true then (-1) else IntKind.i64.wrap (p1 - (p0.Text.size : Int)))
theorem c_laws_szJournal {c0 : List Value} (p0 : Journal) (p1 : Int) {w : World} (hp0 : Dat.rd (Old w) w c0 p0) :
    Calls Try.prog 69 [.agg c0.toArray, .int .i64 p1].toArray w (fun e w' => e = .returned (.int .i64 (laws_szJournal p0 p1)) ∧ Below w.heap.size w w') := by
  obtain ⟨rfl, hg90000_0, hg90000_1, _⟩ := Journal_open hp0
  refine enter Try.func69 rfl Try.ntmps69 (Nat.le_of_ble_eq_true rfl) ?_
  intro a0 hE0
  have hS0 := SH.start w
  have hM := laws_szJournal.eq_1 p0 p1
  refine wp_seq (wp_region_lit ?_)
  refine st_box hE0 hS0 rfl rfl rfl fun b1 w1 hS1 a2 hE2 => st_val hE2 (y_assign hE2 rfl) rfl fun a3 hE3 => wpList_nil ?_
  clear hE0 hE2
  clear a0 a2
  refine then_normal ?_
  refine wp_seq (wp_region_lit ?_)
  refine st_val hE3 (y_move hE3 rfl) rfl fun a4 hE4 => st_val hE4 (y_fieldAddr hE4 rfl fa46_0 rfl) rfl fun a5 hE5 => st_val hE5 (y_load_one hE5 rfl (hS1.cells (k := 0) rfl) rfl one9) rfl fun a6 hE6 => st_val hE6 (y_len_string hE6 rfl Try.underlying9) rfl fun a7 hE7 => st_val hE7 (y_sub hE7 rfl rfl) rfl fun a8 hE8 => st_val hE8 (y_assign hE8 rfl) rfl fun a9 hE9 => wpList_nil ?_
  clear hE3 hE4 hE5 hE6 hE7 hE8
  clear a3 a4 a5 a6 a7 a8
  refine then_normal ?_
  refine wp_seq (wp_seq (wp_region_lit ?_))
  refine st_val hE9 (y_move hE9 rfl) rfl fun a10 hE10 => st_val hE10 (y_lss hE10 rfl rfl) rfl fun a11 hE11 => wpList_nil ?_
  clear hE9 hE10
  clear a9 a10
  refine then_normal ?_
  refine cond_split hE11 rfl (fun hb12 => ?_) (fun hb12 => ?_)
  ·
    have hM := hM.trans (if_t hb12)
    have hb12f : IntKind.i64.wrap (p1 - (p0.Text.size : Int)) < 0 := of_decide_eq_true hb12
    refine wp_seq (wp_region_lit ?_)
    refine st_val hE11 (y_assign hE11 rfl) rfl fun a13 hE13 => wpList_nil ?_
    clear hE11
    clear a11
    refine then_normal ?_
    refine wp_ret ?_
    refine then_ret ?_
    exact fin1 hE13 rfl rfl ⟨by rw [hM], hS1.below⟩
  ·
    have hM := hM.trans (if_f hb12)
    have hb12f : ¬ (IntKind.i64.wrap (p1 - (p0.Text.size : Int)) < 0) := of_decide_eq_false hb12
    refine wp_skip ?_
    refine then_normal ?_
    refine wp_seq (wp_region_lit ?_)
    refine st_val hE11 (y_move hE11 rfl) rfl fun a14 hE14 => st_val hE14 (y_assign hE14 rfl) rfl fun a15 hE15 => wpList_nil ?_
    clear hE11 hE14
    clear a11 a14
    refine then_normal ?_
    refine wp_ret ?_
    exact fin1 hE15 rfl rfl ⟨by rw [hM], hS1.below⟩

/- F46 loop.example/g00974/laws.szDisk -/
def laws_szDisk (p0 : Disk) (p1 : Int) : Int := (if (decide ((laws_szSlotS p0.Slots p1) < 0)) = true then (-1) else (if (decide ((laws_szJournal p0.Journal (laws_szSlotS p0.Slots p1)) < 0)) = true then (-1) else (laws_szJournal p0.Journal (laws_szSlotS p0.Slots p1))))
theorem c_laws_szDisk {c0 : List Value} (p0 : Disk) (p1 : Int) {w : World} (hp0 : Dat.rd (Old w) w c0 p0) :
    Calls Try.prog 46 [.agg c0.toArray, .int .i64 p1].toArray w (fun e w' => e = .returned (.int .i64 (laws_szDisk p0 p1)) ∧ Below w.heap.size w w') := by
  obtain ⟨v90000_0, rfl, hv90000_0, hg90000_1, hg90000_2, _⟩ := Disk_open hp0
  obtain ⟨A90000_0, cp90000_0, rfl, hx90000_0⟩ := hv90000_0.form
  refine enter Try.func46 rfl Try.ntmps46 (Nat.le_of_ble_eq_true rfl) ?_
  intro a0 hE0
  have hS0 := SH.start w
  have hM := laws_szDisk.eq_1 p0 p1
  refine wp_seq (wp_region_lit ?_)
  refine st_box hE0 hS0 rfl rfl rfl fun b1 w1 hS1 a2 hE2 => st_val hE2 (y_assign hE2 rfl) rfl fun a3 hE3 => wpList_nil ?_
  clear hE0 hE2
  clear a0 a2
  refine then_normal ?_
  refine wp_seq (wp_region_lit ?_)
  refine st_val hE3 (y_fieldAddr hE3 rfl fa48_0 rfl) rfl fun a4 hE4 => st_val hE4 (y_load_one hE4 rfl (hS1.cells (k := 0) rfl) rfl one44) rfl fun a5 hE5 => st_val hE5 (y_move hE5 rfl) rfl fun a6 hE6 => st_callF hE6 hS1 Try.func68 fb68 fn68 (c_laws_szSlotS p0.Slots p1 (hS1.up hv90000_0)) rfl rfl fun w7 hS7 a8 hE8 => st_val hE8 (y_assign hE8 rfl) rfl fun a9 hE9 => wpList_nil ?_
  clear hE3 hE4 hE5 hE6 hE8
  clear a3 a4 a5 a6 a8
  refine then_normal ?_
  refine wp_seq (wp_seq (wp_region_lit ?_))
  refine st_val hE9 (y_move hE9 rfl) rfl fun a10 hE10 => st_val hE10 (y_lss hE10 rfl rfl) rfl fun a11 hE11 => wpList_nil ?_
  clear hE9 hE10
  clear a9 a10
  refine then_normal ?_
  refine cond_split hE11 rfl (fun hb12 => ?_) (fun hb12 => ?_)
  ·
    have hM := hM.trans (if_t hb12)
    have hb12f : (laws_szSlotS p0.Slots p1) < 0 := of_decide_eq_true hb12
    refine wp_seq (wp_region_lit ?_)
    refine st_val hE11 (y_assign hE11 rfl) rfl fun a13 hE13 => wpList_nil ?_
    clear hE11
    clear a11
    refine then_normal ?_
    refine wp_ret ?_
    refine then_ret ?_
    exact fin1 hE13 rfl rfl ⟨by rw [hM], hS7.below⟩
  ·
    have hM := hM.trans (if_f hb12)
    have hb12f : ¬ ((laws_szSlotS p0.Slots p1) < 0) := of_decide_eq_false hb12
    refine wp_skip ?_
    refine then_normal ?_
    refine wp_seq (wp_region_lit ?_)
    refine st_val hE11 (y_fieldAddr hE11 rfl fa48_1 rfl) rfl fun a14 hE14 => st_val hE14 (y_load_agg hE14 rfl (hS7.cells (k := 0) rfl) rfl rfl agg46) rfl fun a15 hE15 => st_val hE15 (y_move hE15 rfl) rfl fun a16 hE16 => st_callF hE16 hS7 Try.func69 fb69 fn69 (c_laws_szJournal p0.Journal (laws_szSlotS p0.Slots p1) (hS7.upd (Journal_mk (x := p0.Journal) hg90000_1 hg90000_2))) rfl rfl fun w17 hS17 a18 hE18 => st_val hE18 (y_assign hE18 rfl) rfl fun a19 hE19 => wpList_nil ?_
    clear hE11 hE14 hE15 hE16 hE18
    clear a11 a14 a15 a16 a18
    refine then_normal ?_
    refine wp_seq (wp_seq (wp_region_lit ?_))
    refine st_val hE19 (y_move hE19 rfl) rfl fun a20 hE20 => st_val hE20 (y_lss hE20 rfl rfl) rfl fun a21 hE21 => wpList_nil ?_
    clear hE19 hE20
    clear a19 a20
    refine then_normal ?_
    refine cond_split hE21 rfl (fun hb22 => ?_) (fun hb22 => ?_)
    ·
      have hM := hM.trans (if_t hb22)
      have hb22f : (laws_szJournal p0.Journal (laws_szSlotS p0.Slots p1)) < 0 := of_decide_eq_true hb22
      refine wp_seq (wp_region_lit ?_)
      refine st_val hE21 (y_assign hE21 rfl) rfl fun a23 hE23 => wpList_nil ?_
      clear hE21
      clear a21
      refine then_normal ?_
      refine wp_ret ?_
      refine then_ret ?_
      exact fin1 hE23 rfl rfl ⟨by rw [hM], hS17.below⟩
    ·
      have hM := hM.trans (if_f hb22)
      have hb22f : ¬ ((laws_szJournal p0.Journal (laws_szSlotS p0.Slots p1)) < 0) := of_decide_eq_false hb22
      refine wp_skip ?_
      refine then_normal ?_
      refine wp_seq (wp_region_lit ?_)
      refine st_val hE21 (y_move hE21 rfl) rfl fun a24 hE24 => st_val hE24 (y_assign hE24 rfl) rfl fun a25 hE25 => wpList_nil ?_
      clear hE21 hE24
      clear a21 a24
      refine then_normal ?_
      refine wp_ret ?_
      exact fin1 hE25 rfl rfl ⟨by rw [hM], hS17.below⟩

/- F29 loop.example/g00974/laws.szKernel -/
def laws_szKernel (p0 : Kernel) (p1 : Int) : Int := (if (decide ((laws_szCellS p0.Store p1) < 0)) = true then (-1) else (if (decide ((laws_szTxS p0.Txs (laws_szCellS p0.Store p1)) < 0)) = true then (-1) else (if (decide ((laws_szDisk p0.Disk (laws_szTxS p0.Txs (laws_szCellS p0.Store p1))) < 0)) = true then (-1) else (if (decide ((laws_szEntryS p0.History (laws_szDisk p0.Disk (laws_szTxS p0.Txs (laws_szCellS p0.Store p1)))) < 0)) = true then (-1) else (if (decide ((laws_szStringS p0.Seen (laws_szEntryS p0.History (laws_szDisk p0.Disk (laws_szTxS p0.Txs (laws_szCellS p0.Store p1))))) < 0)) = true then (-1) else (laws_szStringS p0.Seen (laws_szEntryS p0.History (laws_szDisk p0.Disk (laws_szTxS p0.Txs (laws_szCellS p0.Store p1))))))))))
theorem c_laws_szKernel {c0 : List Value} (p0 : Kernel) (p1 : Int) {w : World} (hp0 : Dat.rd (Old w) w c0 p0) :
    Calls Try.prog 29 [.agg c0.toArray, .int .i64 p1].toArray w (fun e w' => e = .returned (.int .i64 (laws_szKernel p0 p1)) ∧ Below w.heap.size w w') := by
  obtain ⟨v90000_0, v90000_1, v90000_2, v90000_8, v90000_9, rfl, hv90000_0, hv90000_1, hv90000_2, hg90000_3, hg90000_4, hg90000_5, hg90000_6, hg90000_7, hv90000_8, hv90000_9, _⟩ := Kernel_open hp0
  obtain ⟨A90000_0, cp90000_0, rfl, hx90000_0⟩ := hv90000_0.form
  obtain ⟨A90000_1, cp90000_1, rfl, hx90000_1⟩ := hv90000_1.form
  obtain ⟨A90000_2, cp90000_2, rfl, hx90000_2⟩ := hv90000_2.form
  obtain ⟨A90000_8, cp90000_8, rfl, hx90000_8⟩ := hv90000_8.form
  obtain ⟨A90000_9, cp90000_9, rfl, hx90000_9⟩ := hv90000_9.form
  refine enter Try.func29 rfl Try.ntmps29 (Nat.le_of_ble_eq_true rfl) ?_
  intro a0 hE0
  have hS0 := SH.start w
  have hM := laws_szKernel.eq_1 p0 p1
  refine wp_seq (wp_region_lit ?_)
  refine st_box hE0 hS0 rfl rfl rfl fun b1 w1 hS1 a2 hE2 => st_val hE2 (y_assign hE2 rfl) rfl fun a3 hE3 => wpList_nil ?_
  clear hE0 hE2
  clear a0 a2
  refine then_normal ?_
  refine wp_seq (wp_region_lit ?_)
  refine st_val hE3 (y_fieldAddr hE3 rfl fa50_0 rfl) rfl fun a4 hE4 => st_val hE4 (y_load_one hE4 rfl (hS1.cells (k := 0) rfl) rfl one42) rfl fun a5 hE5 => st_val hE5 (y_move hE5 rfl) rfl fun a6 hE6 => st_callF hE6 hS1 Try.func44 fb44 fn44 (c_laws_szCellS p0.Store p1 (hS1.up hv90000_0)) rfl rfl fun w7 hS7 a8 hE8 => st_val hE8 (y_assign hE8 rfl) rfl fun a9 hE9 => wpList_nil ?_
  clear hE3 hE4 hE5 hE6 hE8
  clear a3 a4 a5 a6 a8
  refine then_normal ?_
  refine wp_seq (wp_seq (wp_region_lit ?_))
  refine st_val hE9 (y_move hE9 rfl) rfl fun a10 hE10 => st_val hE10 (y_lss hE10 rfl rfl) rfl fun a11 hE11 => wpList_nil ?_
  clear hE9 hE10
  clear a9 a10
  refine then_normal ?_
  refine cond_split hE11 rfl (fun hb12 => ?_) (fun hb12 => ?_)
  ·
    have hM := hM.trans (if_t hb12)
    have hb12f : (laws_szCellS p0.Store p1) < 0 := of_decide_eq_true hb12
    refine wp_seq (wp_region_lit ?_)
    refine st_val hE11 (y_assign hE11 rfl) rfl fun a13 hE13 => wpList_nil ?_
    clear hE11
    clear a11
    refine then_normal ?_
    refine wp_ret ?_
    refine then_ret ?_
    exact fin1 hE13 rfl rfl ⟨by rw [hM], hS7.below⟩
  ·
    have hM := hM.trans (if_f hb12)
    have hb12f : ¬ ((laws_szCellS p0.Store p1) < 0) := of_decide_eq_false hb12
    refine wp_skip ?_
    refine then_normal ?_
    refine wp_seq (wp_region_lit ?_)
    refine st_val hE11 (y_fieldAddr hE11 rfl fa50_1 rfl) rfl fun a14 hE14 => st_val hE14 (y_load_one hE14 rfl (hS7.cells (k := 0) rfl) rfl one43) rfl fun a15 hE15 => st_val hE15 (y_move hE15 rfl) rfl fun a16 hE16 => st_callF hE16 hS7 Try.func45 fb45 fn45 (c_laws_szTxS p0.Txs (laws_szCellS p0.Store p1) (hS7.up hv90000_1)) rfl rfl fun w17 hS17 a18 hE18 => st_val hE18 (y_assign hE18 rfl) rfl fun a19 hE19 => wpList_nil ?_
    clear hE11 hE14 hE15 hE16 hE18
    clear a11 a14 a15 a16 a18
    refine then_normal ?_
    refine wp_seq (wp_seq (wp_region_lit ?_))
    refine st_val hE19 (y_move hE19 rfl) rfl fun a20 hE20 => st_val hE20 (y_lss hE20 rfl rfl) rfl fun a21 hE21 => wpList_nil ?_
    clear hE19 hE20
    clear a19 a20
    refine then_normal ?_
    refine cond_split hE21 rfl (fun hb22 => ?_) (fun hb22 => ?_)
    ·
      have hM := hM.trans (if_t hb22)
      have hb22f : (laws_szTxS p0.Txs (laws_szCellS p0.Store p1)) < 0 := of_decide_eq_true hb22
      refine wp_seq (wp_region_lit ?_)
      refine st_val hE21 (y_assign hE21 rfl) rfl fun a23 hE23 => wpList_nil ?_
      clear hE21
      clear a21
      refine then_normal ?_
      refine wp_ret ?_
      refine then_ret ?_
      exact fin1 hE23 rfl rfl ⟨by rw [hM], hS17.below⟩
    ·
      have hM := hM.trans (if_f hb22)
      have hb22f : ¬ ((laws_szTxS p0.Txs (laws_szCellS p0.Store p1)) < 0) := of_decide_eq_false hb22
      refine wp_skip ?_
      refine then_normal ?_
      refine wp_seq (wp_region_lit ?_)
      refine st_val hE21 (y_fieldAddr hE21 rfl fa50_2 rfl) rfl fun a24 hE24 => st_val hE24 (y_load_agg hE24 rfl (hS17.cells (k := 0) rfl) rfl rfl agg48) rfl fun a25 hE25 => st_val hE25 (y_move hE25 rfl) rfl fun a26 hE26 => st_callF hE26 hS17 Try.func46 fb46 fn46 (c_laws_szDisk p0.Disk (laws_szTxS p0.Txs (laws_szCellS p0.Store p1)) (hS17.upd (Disk_mk (x := p0.Disk) hv90000_2 hg90000_3 hg90000_4))) rfl rfl fun w27 hS27 a28 hE28 => st_val hE28 (y_assign hE28 rfl) rfl fun a29 hE29 => wpList_nil ?_
      clear hE21 hE24 hE25 hE26 hE28
      clear a21 a24 a25 a26 a28
      refine then_normal ?_
      refine wp_seq (wp_seq (wp_region_lit ?_))
      refine st_val hE29 (y_move hE29 rfl) rfl fun a30 hE30 => st_val hE30 (y_lss hE30 rfl rfl) rfl fun a31 hE31 => wpList_nil ?_
      clear hE29 hE30
      clear a29 a30
      refine then_normal ?_
      refine cond_split hE31 rfl (fun hb32 => ?_) (fun hb32 => ?_)
      ·
        have hM := hM.trans (if_t hb32)
        have hb32f : (laws_szDisk p0.Disk (laws_szTxS p0.Txs (laws_szCellS p0.Store p1))) < 0 := of_decide_eq_true hb32
        refine wp_seq (wp_region_lit ?_)
        refine st_val hE31 (y_assign hE31 rfl) rfl fun a33 hE33 => wpList_nil ?_
        clear hE31
        clear a31
        refine then_normal ?_
        refine wp_ret ?_
        refine then_ret ?_
        exact fin1 hE33 rfl rfl ⟨by rw [hM], hS27.below⟩
      ·
        have hM := hM.trans (if_f hb32)
        have hb32f : ¬ ((laws_szDisk p0.Disk (laws_szTxS p0.Txs (laws_szCellS p0.Store p1))) < 0) := of_decide_eq_false hb32
        refine wp_skip ?_
        refine then_normal ?_
        refine wp_seq (wp_region_lit ?_)
        refine st_val hE31 (y_fieldAddr hE31 rfl fa50_6 rfl) rfl fun a34 hE34 => st_val hE34 (y_load_one hE34 rfl (hS27.cells (k := 0) rfl) rfl one24) rfl fun a35 hE35 => st_val hE35 (y_move hE35 rfl) rfl fun a36 hE36 => st_callF hE36 hS27 Try.func11 fb11 fn11 (c_laws_szEntryS p0.History (laws_szDisk p0.Disk (laws_szTxS p0.Txs (laws_szCellS p0.Store p1))) (hS27.up hv90000_8)) rfl rfl fun w37 hS37 a38 hE38 => st_val hE38 (y_assign hE38 rfl) rfl fun a39 hE39 => wpList_nil ?_
        clear hE31 hE34 hE35 hE36 hE38
        clear a31 a34 a35 a36 a38
        refine then_normal ?_
        refine wp_seq (wp_seq (wp_region_lit ?_))
        refine st_val hE39 (y_move hE39 rfl) rfl fun a40 hE40 => st_val hE40 (y_lss hE40 rfl rfl) rfl fun a41 hE41 => wpList_nil ?_
        clear hE39 hE40
        clear a39 a40
        refine then_normal ?_
        refine cond_split hE41 rfl (fun hb42 => ?_) (fun hb42 => ?_)
        ·
          have hM := hM.trans (if_t hb42)
          have hb42f : (laws_szEntryS p0.History (laws_szDisk p0.Disk (laws_szTxS p0.Txs (laws_szCellS p0.Store p1)))) < 0 := of_decide_eq_true hb42
          refine wp_seq (wp_region_lit ?_)
          refine st_val hE41 (y_assign hE41 rfl) rfl fun a43 hE43 => wpList_nil ?_
          clear hE41
          clear a41
          refine then_normal ?_
          refine wp_ret ?_
          refine then_ret ?_
          exact fin1 hE43 rfl rfl ⟨by rw [hM], hS37.below⟩
        ·
          have hM := hM.trans (if_f hb42)
          have hb42f : ¬ ((laws_szEntryS p0.History (laws_szDisk p0.Disk (laws_szTxS p0.Txs (laws_szCellS p0.Store p1)))) < 0) := of_decide_eq_false hb42
          refine wp_skip ?_
          refine then_normal ?_
          refine wp_seq (wp_region_lit ?_)
          refine st_val hE41 (y_fieldAddr hE41 rfl fa50_7 rfl) rfl fun a44 hE44 => st_val hE44 (y_load_one hE44 rfl (hS37.cells (k := 0) rfl) rfl one38) rfl fun a45 hE45 => st_val hE45 (y_move hE45 rfl) rfl fun a46 hE46 => st_callF hE46 hS37 Try.func47 fb47 fn47 (c_laws_szStringS p0.Seen (laws_szEntryS p0.History (laws_szDisk p0.Disk (laws_szTxS p0.Txs (laws_szCellS p0.Store p1)))) (hS37.up hv90000_9)) rfl rfl fun w47 hS47 a48 hE48 => st_val hE48 (y_assign hE48 rfl) rfl fun a49 hE49 => wpList_nil ?_
          clear hE41 hE44 hE45 hE46 hE48
          clear a41 a44 a45 a46 a48
          refine then_normal ?_
          refine wp_seq (wp_seq (wp_region_lit ?_))
          refine st_val hE49 (y_move hE49 rfl) rfl fun a50 hE50 => st_val hE50 (y_lss hE50 rfl rfl) rfl fun a51 hE51 => wpList_nil ?_
          clear hE49 hE50
          clear a49 a50
          refine then_normal ?_
          refine cond_split hE51 rfl (fun hb52 => ?_) (fun hb52 => ?_)
          ·
            have hM := hM.trans (if_t hb52)
            have hb52f : (laws_szStringS p0.Seen (laws_szEntryS p0.History (laws_szDisk p0.Disk (laws_szTxS p0.Txs (laws_szCellS p0.Store p1))))) < 0 := of_decide_eq_true hb52
            refine wp_seq (wp_region_lit ?_)
            refine st_val hE51 (y_assign hE51 rfl) rfl fun a53 hE53 => wpList_nil ?_
            clear hE51
            clear a51
            refine then_normal ?_
            refine wp_ret ?_
            refine then_ret ?_
            exact fin1 hE53 rfl rfl ⟨by rw [hM], hS47.below⟩
          ·
            have hM := hM.trans (if_f hb52)
            have hb52f : ¬ ((laws_szStringS p0.Seen (laws_szEntryS p0.History (laws_szDisk p0.Disk (laws_szTxS p0.Txs (laws_szCellS p0.Store p1))))) < 0) := of_decide_eq_false hb52
            refine wp_skip ?_
            refine then_normal ?_
            refine wp_seq (wp_region_lit ?_)
            refine st_val hE51 (y_move hE51 rfl) rfl fun a54 hE54 => st_val hE54 (y_assign hE54 rfl) rfl fun a55 hE55 => wpList_nil ?_
            clear hE51 hE54
            clear a51 a54
            refine then_normal ?_
            refine wp_ret ?_
            exact fin1 hE55 rfl rfl ⟨by rw [hM], hS47.below⟩

/- F70 loop.example/g00974/laws.toCell -/
def laws_toCell (p0 : Cell) : Cell := p0
theorem c_laws_toCell {c0 : List Value} (p0 : Cell) {w : World} (hp0 : Dat.rd (Old w) w c0 p0) :
    Calls Try.prog 70 [.agg c0.toArray].toArray w (fun e w' => ∃ cs F, e = .returned (.agg cs.toArray) ∧ Below w.heap.size w w' ∧ Dat.own w' cs (laws_toCell p0) F ∧ F.Nodup ∧ ∀ b ∈ F, w.heap.size ≤ b) := by
  obtain ⟨rfl, hg90000_0, hg90000_1, _⟩ := Cell_open hp0
  refine enter Try.func70 rfl Try.ntmps70 (Nat.le_of_ble_eq_true rfl) ?_
  intro a0 hE0
  have hS0 := SH.start w
  have hM := laws_toCell.eq_1 p0
  refine wp_seq (wp_region_lit ?_)
  refine st_box hE0 hS0 rfl rfl rfl fun b1 w1 hS1 a2 hE2 => st_alloc hE2 hS1 Try.zeroValue120 rfl rfl fun b3 w3 hS3 a4 hE4 => wpList_nil ?_
  clear hE0 hE2
  clear a0 a2
  refine then_normal ?_
  refine wp_seq (wp_region_lit ?_)
  refine st_alloc hE4 hS3 Try.zeroValue120 rfl rfl fun b5 w5 hS5 a6 hE6 => wpList_nil ?_
  clear hE4
  clear a4
  refine then_normal ?_
  refine wp_seq (wp_region_lit ?_)
  refine st_val hE6 (y_fieldAddr hE6 rfl fa107_0 rfl) rfl fun a7 hE7 => st_val hE7 (y_load_one hE7 rfl (hS5.cells (k := 2) rfl) rfl one9) rfl fun a8 hE8 => st_val hE8 (y_fieldAddr hE8 rfl fa120_0 rfl) rfl fun a9 hE9 => st_store hE9 hS5 [.string p0.Key, .string (⟨#[]⟩ : ByteArray)] rfl rfl (k := 0) rfl rfl (chkOne_size one9) rfl rfl rfl rfl fun w10 (hS10 : SH (Old w) w w10 [Ck.var b5 [.string p0.Key, .string (⟨#[]⟩ : ByteArray)] 120, Ck.var b3 [.string (⟨#[]⟩ : ByteArray), .string (⟨#[]⟩ : ByteArray)] 120, Ck.var b1 [.string p0.Key, .string p0.Val] 107]) a11 hE11 => wpList_nil ?_
  clear hE6 hE7 hE8 hE9
  clear a6 a7 a8 a9
  refine then_normal ?_
  refine wp_seq (wp_region_lit ?_)
  refine st_val hE11 (y_fieldAddr hE11 rfl fa107_1 rfl) rfl fun a12 hE12 => st_val hE12 (y_load_one hE12 rfl (hS10.cells (k := 2) rfl) rfl one9) rfl fun a13 hE13 => st_val hE13 (y_fieldAddr hE13 rfl fa120_1 rfl) rfl fun a14 hE14 => st_store hE14 hS10 [.string p0.Key, .string p0.Val] rfl rfl (k := 0) rfl rfl (chkOne_size one9) rfl rfl rfl rfl fun w15 (hS15 : SH (Old w) w w15 [Ck.var b5 [.string p0.Key, .string p0.Val] 120, Ck.var b3 [.string (⟨#[]⟩ : ByteArray), .string (⟨#[]⟩ : ByteArray)] 120, Ck.var b1 [.string p0.Key, .string p0.Val] 107]) a16 hE16 => wpList_nil ?_
  clear hE11 hE12 hE13 hE14
  clear a11 a12 a13 a14
  refine then_normal ?_
  refine wp_seq (wp_region_lit ?_)
  refine st_val hE16 (y_load_agg hE16 rfl (hS15.cells (k := 0) rfl) rfl rfl agg120) rfl fun a17 hE17 => st_store hE17 hS15 [.string p0.Key, .string p0.Val] rfl rfl (k := 1) rfl rfl (chkAgg_size agg120) rfl rfl rfl rfl fun w18 (hS18 : SH (Old w) w w18 [Ck.var b5 [.string p0.Key, .string p0.Val] 120, Ck.var b3 [.string p0.Key, .string p0.Val] 120, Ck.var b1 [.string p0.Key, .string p0.Val] 107]) a19 hE19 => wpList_nil ?_
  clear hE16 hE17
  clear a16 a17
  refine then_normal ?_
  refine wp_ret ?_
  refine finC hE19 hS18 rfl rfl (k := 1) rfl agg120 rfl ?_
  rw [hM]
  exact ⟨_, _, rfl, hS18.below, Cell_own (x := p0) hg90000_0 hg90000_1, List.nodup_nil, ge_nil⟩

/- F49 loop.example/g00974/laws.toCellS -/
def laws_toCellS_l1 (p0 : List Cell) : Nat → Nat → List Cell → List Cell
  | 0, i1, y1_0 => y1_0
  | fu1 + 1, i1, y1_0 => laws_toCellS_l1 p0 fu1 (i1 + 1) (y1_0 ++ [(laws_toCell (nth p0 i1))])
def laws_toCellS (p0 : List Cell) : List Cell := laws_toCellS_l1 p0 (p0.length - 0) 0 []
theorem c_laws_toCellS {v0 : Value} (p0 : List Cell) {w : World} (hp0 : SlR (Old w) w v0 p0) (hsm0 : Dat.small 1048576 p0) :
    Calls Try.prog 49 [v0].toArray w (fun e w' => ∃ v F, e = .returned v ∧ Below w.heap.size w w' ∧ SlO w' v (laws_toCellS p0) F ∧ F.Nodup ∧ ∀ b ∈ F, w.heap.size ≤ b) := by
  have hln0 : p0.length ≤ 1048576 := hsm0.1
  obtain ⟨A0, cap0, rfl, hx0⟩ := hp0.form
  refine enter Try.func49 rfl Try.ntmps49 (Nat.le_of_ble_eq_true rfl) ?_
  intro a0 hE0
  have hS0 := SH.start w
  have hM := laws_toCellS.eq_1 p0
  refine wp_seq (wp_region_lit ?_)
  refine st_val hE0 (y_assign hE0 rfl) rfl fun a1 hE1 => wpList_nil ?_
  clear hE0
  clear a0
  refine then_normal ?_
  refine wp_seq (wp_region_lit ?_)
  refine st_val hE1 (y_move hE1 rfl) rfl fun a2 hE2 => st_val hE2 (y_len_slice hE2 rfl sl42) rfl fun a3 hE3 => st_makeSlice (α := Cell) hE3 hS0 sl53 Try.zeroValue120 rfl rfl (by omega) (by omega) rfl fun g4 w4 hS4 a5 hE5 => st_val hE5 (y_assign hE5 rfl) rfl fun a6 hE6 => wpList_nil ?_
  clear hE1 hE2 hE3 hE5
  clear a1 a2 a3 a5
  refine then_normal ?_
  refine wp_seq (wp_seq (wp_region_lit ?_))
  refine st_val hE6 (y_assign hE6 rfl) rfl fun a7 hE7 => wpList_nil ?_
  clear hE6
  clear a6
  refine then_normal ?_
  refine wp_block (wp_loop_ghost (fun fu1 a w2 => ∃ (i1 : Nat) (y1_0 : List Cell) (Fy1_0 : List Nat), 0 ≤ i1 ∧ fu1 = p0.length - i1 ∧ y1_0.length = i1 ∧ i1 ≤ p0.length ∧ laws_toCellS p0 = laws_toCellS_l1 p0 fu1 i1 y1_0 ∧ Env 23 [(0, .slice A0 p0.length cap0), (3, .slice (some ⟨g4, 0, none⟩) p0.length p0.length), (4, .int .i64 (i1 : Int))] a ∧ SH (Old w) w w2 [Ck.fill (α := Cell) g4 p0.length 120 y1_0 Fy1_0]) (p0.length - 0) ⟨0, [], [g4], Nat.le_refl _, rfl, rfl, Nat.zero_le _, hM, hE7.weaken ⟨rfl, rfl, rfl, trivial⟩, hS4⟩ ?_)
  clear hM hE7 hS4
  rintro fu1 a8 w8 ⟨i1, y1_0, Fy1_0, hi1, hfu1, hy1_0, hz1_0, hM, hE8, hS8⟩
  refine wp_seq (wp_seq (wp_region_lit ?_))
  refine st_val hE8 (y_move hE8 rfl) rfl fun a9 hE9 => st_val hE9 (y_move hE9 rfl) rfl fun a10 hE10 => st_val hE10 (y_len_slice hE10 rfl sl42) rfl fun a11 hE11 => st_val hE11 (y_lss hE11 rfl rfl) rfl fun a12 hE12 => wpList_nil ?_
  clear hE8 hE9 hE10 hE11
  clear a8 a9 a10 a11
  refine then_normal ?_
  refine cond_split hE12 rfl (fun hb13 => ?_) (fun hb13 => ?_)
  ·
    have hlt1 : i1 < p0.length := by have := of_decide_eq_true hb13; omega
    obtain ⟨fu1, rfl⟩ : ∃ m, fu1 = m + 1 := ⟨fu1 - 1, by omega⟩
    have hM := hM.trans (laws_toCellS_l1.eq_2 _ _ _ _)
    refine wp_skip ?_
    refine then_normal ?_
    refine wp_seq (wp_block (wp_region_lit ?_))
    refine st_val hE12 (y_move hE12 rfl) rfl fun a14 hE14 => st_val hE14 (y_move hE14 rfl) rfl fun a15 hE15 => st_val hE15 (y_move hE15 rfl) rfl fun a16 hE16 => st_val hE16 (y_move hE16 rfl) rfl fun a17 hE17 => st_index hE17 hp0 rfl rfl rfl (by omega) sl42 rfl fun ad18 cs18 hr18 hc18 hl18 a19 hE19 => ?_
    obtain ⟨rfl, hg18_0, hg18_1, _⟩ := Cell_open hr18
    refine st_val hE19 (y_load_agg hE19 rfl (hS8.upc hc18 hl18) rfl rfl agg107) rfl fun a20 hE20 => st_callO (mk := fun cs => .agg cs.toArray) hE20 hS8 Try.func70 fb70 fn70 (c_laws_toCell (nth p0 i1) (hS8.upd hr18)) rfl rfl fun cs21 F21 w21 hS21 a22 hE22 => st_val hE22 (y_indexAddr hE22 rfl rfl (by omega) (by omega) sl53) rfl fun a23 hE23 => st_fill (k := 0) (ys := y1_0) hE23 hS21 rfl (by omega) (by omega) rfl rfl rfl (chkAgg_size agg120) (hS21.oneO (k := 0) rfl) fun w24 (hS24 : SH (Old w) w w24 [Ck.fill (α := Cell) g4 p0.length 120 (y1_0 ++ [(laws_toCell (nth p0 i1))]) (Fy1_0 ++ F21)]) a25 hE25 => wpList_nil ?_
    clear hE12 hE14 hE15 hE16 hE17 hE19 hE20 hE22 hE23
    clear a12 a14 a15 a16 a17 a19 a20 a22 a23
    refine blk_normal ?_
    refine then_normal ?_
    refine wp_region_lit ?_
    refine st_val hE25 (y_move hE25 rfl) rfl fun a26 hE26 => st_val hE26 (y_add_in hE26 rfl rfl (m := ((i1 + 1 : Nat) : Int)) (by omega) (by omega) (by omega)) rfl fun a27 hE27 => st_val hE27 (y_assign hE27 rfl) rfl fun a28 hE28 => wpList_nil ?_
    clear hE25 hE26 hE27
    clear a25 a26 a27
    refine then_normal ⟨fu1, Nat.lt_succ_self _, (i1 + 1), y1_0 ++ [(laws_toCell (nth p0 i1))], Fy1_0 ++ F21, by omega, by omega, (by rw [List.length_append, hy1_0]; rfl), (by omega), hM, hE28.weaken ⟨rfl, rfl, rfl, trivial⟩, hS24⟩
  ·
    have hge1 : ¬ i1 < p0.length := by have := of_decide_eq_false hb13; omega
    obtain rfl : fu1 = 0 := by omega
    have hM := hM.trans (laws_toCellS_l1.eq_1 _ _ _)
    refine wp_exit ?_
    refine then_exit ?_
    refine then_exit ?_
    refine blk_exit ?_
    refine then_normal ?_
    refine wp_seq (wp_region_lit ?_)
    refine st_val hE12 (y_move hE12 rfl) rfl fun a29 hE29 => st_val hE29 (y_assign hE29 rfl) rfl fun a30 hE30 => wpList_nil ?_
    clear hE12 hE29
    clear a12 a29
    refine then_normal ?_
    refine wp_ret ?_
    have hS31 := hS8.conv (k := 0) rfl (Ck.own [.slice (some ⟨g4, 0, none⟩) p0.length p0.length] y1_0 Fy1_0) rfl (fill_own (by omega) (by unfold maxLen; omega))
    refine fin1 hE30 rfl rfl ?_
    rw [hM]
    exact ⟨_, _, rfl, hS31.below, hS31.slO (k := 0) rfl, hS31.nd (k := 0) rfl, hS31.ge' (k := 0) rfl⟩

/- F52 loop.example/g00974/laws.toStringS -/
def laws_toStringS_l1 (p0 : List ByteArray) : Nat → Nat → List ByteArray → List ByteArray
  | 0, i1, y1_0 => y1_0
  | fu1 + 1, i1, y1_0 => laws_toStringS_l1 p0 fu1 (i1 + 1) (y1_0 ++ [(nth p0 i1)])
def laws_toStringS (p0 : List ByteArray) : List ByteArray := laws_toStringS_l1 p0 (p0.length - 0) 0 []
theorem c_laws_toStringS {v0 : Value} (p0 : List ByteArray) {w : World} (hp0 : SlR (Old w) w v0 p0) (hsm0 : Dat.small 1048576 p0) :
    Calls Try.prog 52 [v0].toArray w (fun e w' => ∃ v F, e = .returned v ∧ Below w.heap.size w w' ∧ SlO w' v (laws_toStringS p0) F ∧ F.Nodup ∧ ∀ b ∈ F, w.heap.size ≤ b) := by
  have hln0 : p0.length ≤ 1048576 := hsm0.1
  obtain ⟨A0, cap0, rfl, hx0⟩ := hp0.form
  refine enter Try.func52 rfl Try.ntmps52 (Nat.le_of_ble_eq_true rfl) ?_
  intro a0 hE0
  have hS0 := SH.start w
  have hM := laws_toStringS.eq_1 p0
  refine wp_seq (wp_region_lit ?_)
  refine st_val hE0 (y_assign hE0 rfl) rfl fun a1 hE1 => wpList_nil ?_
  clear hE0
  clear a0
  refine then_normal ?_
  refine wp_seq (wp_region_lit ?_)
  refine st_val hE1 (y_move hE1 rfl) rfl fun a2 hE2 => st_val hE2 (y_len_slice hE2 rfl sl38) rfl fun a3 hE3 => st_makeSlice (α := ByteArray) hE3 hS0 sl38 Try.zeroValue9 rfl rfl (by omega) (by omega) rfl fun g4 w4 hS4 a5 hE5 => st_val hE5 (y_assign hE5 rfl) rfl fun a6 hE6 => wpList_nil ?_
  clear hE1 hE2 hE3 hE5
  clear a1 a2 a3 a5
  refine then_normal ?_
  refine wp_seq (wp_seq (wp_region_lit ?_))
  refine st_val hE6 (y_assign hE6 rfl) rfl fun a7 hE7 => wpList_nil ?_
  clear hE6
  clear a6
  refine then_normal ?_
  refine wp_block (wp_loop_ghost (fun fu1 a w2 => ∃ (i1 : Nat) (y1_0 : List ByteArray) (Fy1_0 : List Nat), 0 ≤ i1 ∧ fu1 = p0.length - i1 ∧ y1_0.length = i1 ∧ i1 ≤ p0.length ∧ laws_toStringS p0 = laws_toStringS_l1 p0 fu1 i1 y1_0 ∧ Env 22 [(0, .slice A0 p0.length cap0), (3, .slice (some ⟨g4, 0, none⟩) p0.length p0.length), (4, .int .i64 (i1 : Int))] a ∧ SH (Old w) w w2 [Ck.fill (α := ByteArray) g4 p0.length 9 y1_0 Fy1_0]) (p0.length - 0) ⟨0, [], [g4], Nat.le_refl _, rfl, rfl, Nat.zero_le _, hM, hE7.weaken ⟨rfl, rfl, rfl, trivial⟩, hS4⟩ ?_)
  clear hM hE7 hS4
  rintro fu1 a8 w8 ⟨i1, y1_0, Fy1_0, hi1, hfu1, hy1_0, hz1_0, hM, hE8, hS8⟩
  refine wp_seq (wp_seq (wp_region_lit ?_))
  refine st_val hE8 (y_move hE8 rfl) rfl fun a9 hE9 => st_val hE9 (y_move hE9 rfl) rfl fun a10 hE10 => st_val hE10 (y_len_slice hE10 rfl sl38) rfl fun a11 hE11 => st_val hE11 (y_lss hE11 rfl rfl) rfl fun a12 hE12 => wpList_nil ?_
  clear hE8 hE9 hE10 hE11
  clear a8 a9 a10 a11
  refine then_normal ?_
  refine cond_split hE12 rfl (fun hb13 => ?_) (fun hb13 => ?_)
  ·
    have hlt1 : i1 < p0.length := by have := of_decide_eq_true hb13; omega
    obtain ⟨fu1, rfl⟩ : ∃ m, fu1 = m + 1 := ⟨fu1 - 1, by omega⟩
    have hM := hM.trans (laws_toStringS_l1.eq_2 _ _ _ _)
    refine wp_skip ?_
    refine then_normal ?_
    refine wp_seq (wp_block (wp_region_lit ?_))
    refine st_val hE12 (y_move hE12 rfl) rfl fun a14 hE14 => st_val hE14 (y_move hE14 rfl) rfl fun a15 hE15 => st_val hE15 (y_move hE15 rfl) rfl fun a16 hE16 => st_val hE16 (y_move hE16 rfl) rfl fun a17 hE17 => st_index hE17 hp0 rfl rfl rfl (by omega) sl38 rfl fun ad18 cs18 hr18 hc18 hl18 a19 hE19 => ?_
    obtain ⟨rfl, hg18⟩ := hr18
    refine st_val hE19 (y_load_one hE19 rfl (hS8.upc hc18 hl18) rfl one9) rfl fun a20 hE20 => st_val hE20 (y_indexAddr hE20 rfl rfl (by omega) (by omega) sl38) rfl fun a21 hE21 => ?_
    have hS22 := hS8.flat (α := ByteArray) (cs := [.string (nth p0 i1)]) (x := (nth p0 i1)) (fun _ => ⟨⟨rfl, hg18⟩, rfl⟩)
    refine st_fill (k := 0) (ys := y1_0) hE21 hS22 rfl (by omega) (by omega) rfl rfl rfl (chkOne_size one9) (hS22.oneO (k := 0) rfl) fun w23 (hS23 : SH (Old w) w w23 [Ck.fill (α := ByteArray) g4 p0.length 9 (y1_0 ++ [(nth p0 i1)]) (Fy1_0 ++ [])]) a24 hE24 => wpList_nil ?_
    clear hE12 hE14 hE15 hE16 hE17 hE19 hE20 hE21
    clear a12 a14 a15 a16 a17 a19 a20 a21
    refine blk_normal ?_
    refine then_normal ?_
    refine wp_region_lit ?_
    refine st_val hE24 (y_move hE24 rfl) rfl fun a25 hE25 => st_val hE25 (y_add_in hE25 rfl rfl (m := ((i1 + 1 : Nat) : Int)) (by omega) (by omega) (by omega)) rfl fun a26 hE26 => st_val hE26 (y_assign hE26 rfl) rfl fun a27 hE27 => wpList_nil ?_
    clear hE24 hE25 hE26
    clear a24 a25 a26
    refine then_normal ⟨fu1, Nat.lt_succ_self _, (i1 + 1), y1_0 ++ [(nth p0 i1)], Fy1_0 ++ [], by omega, by omega, (by rw [List.length_append, hy1_0]; rfl), (by omega), hM, hE27.weaken ⟨rfl, rfl, rfl, trivial⟩, hS23⟩
  ·
    have hge1 : ¬ i1 < p0.length := by have := of_decide_eq_false hb13; omega
    obtain rfl : fu1 = 0 := by omega
    have hM := hM.trans (laws_toStringS_l1.eq_1 _ _ _)
    refine wp_exit ?_
    refine then_exit ?_
    refine then_exit ?_
    refine blk_exit ?_
    refine then_normal ?_
    refine wp_seq (wp_region_lit ?_)
    refine st_val hE12 (y_move hE12 rfl) rfl fun a28 hE28 => st_val hE28 (y_assign hE28 rfl) rfl fun a29 hE29 => wpList_nil ?_
    clear hE12 hE28
    clear a12 a28
    refine then_normal ?_
    refine wp_ret ?_
    have hS30 := hS8.conv (k := 0) rfl (Ck.own [.slice (some ⟨g4, 0, none⟩) p0.length p0.length] y1_0 Fy1_0) rfl (fill_own (by omega) (by unfold maxLen; omega))
    refine fin1 hE29 rfl rfl ?_
    rw [hM]
    exact ⟨_, _, rfl, hS30.below, hS30.slO (k := 0) rfl, hS30.nd (k := 0) rfl, hS30.ge' (k := 0) rfl⟩

/- F96 loop.example/g00974/laws.toIntS -/
def laws_toIntS_l1 (p0 : List Int) : Nat → Nat → List Int → List Int
  | 0, i1, y1_0 => y1_0
  | fu1 + 1, i1, y1_0 => laws_toIntS_l1 p0 fu1 (i1 + 1) (y1_0 ++ [(nth p0 i1)])
def laws_toIntS (p0 : List Int) : List Int := laws_toIntS_l1 p0 (p0.length - 0) 0 []
theorem c_laws_toIntS {v0 : Value} (p0 : List Int) {w : World} (hp0 : SlR (Old w) w v0 p0) (hsm0 : Dat.small 1048576 p0) :
    Calls Try.prog 96 [v0].toArray w (fun e w' => ∃ v F, e = .returned v ∧ Below w.heap.size w w' ∧ SlO w' v (laws_toIntS p0) F ∧ F.Nodup ∧ ∀ b ∈ F, w.heap.size ≤ b) := by
  have hln0 : p0.length ≤ 1048576 := hsm0.1
  obtain ⟨A0, cap0, rfl, hx0⟩ := hp0.form
  refine enter Try.func96 rfl Try.ntmps96 (Nat.le_of_ble_eq_true rfl) ?_
  intro a0 hE0
  have hS0 := SH.start w
  have hM := laws_toIntS.eq_1 p0
  refine wp_seq (wp_region_lit ?_)
  refine st_val hE0 (y_assign hE0 rfl) rfl fun a1 hE1 => wpList_nil ?_
  clear hE0
  clear a0
  refine then_normal ?_
  refine wp_seq (wp_region_lit ?_)
  refine st_val hE1 (y_move hE1 rfl) rfl fun a2 hE2 => st_val hE2 (y_len_slice hE2 rfl sl32) rfl fun a3 hE3 => st_makeSlice (α := Int) hE3 hS0 sl32 Try.zeroValue3 rfl rfl (by omega) (by omega) rfl fun g4 w4 hS4 a5 hE5 => st_val hE5 (y_assign hE5 rfl) rfl fun a6 hE6 => wpList_nil ?_
  clear hE1 hE2 hE3 hE5
  clear a1 a2 a3 a5
  refine then_normal ?_
  refine wp_seq (wp_seq (wp_region_lit ?_))
  refine st_val hE6 (y_assign hE6 rfl) rfl fun a7 hE7 => wpList_nil ?_
  clear hE6
  clear a6
  refine then_normal ?_
  refine wp_block (wp_loop_ghost (fun fu1 a w2 => ∃ (i1 : Nat) (y1_0 : List Int) (Fy1_0 : List Nat), 0 ≤ i1 ∧ fu1 = p0.length - i1 ∧ y1_0.length = i1 ∧ i1 ≤ p0.length ∧ laws_toIntS p0 = laws_toIntS_l1 p0 fu1 i1 y1_0 ∧ Env 22 [(0, .slice A0 p0.length cap0), (3, .slice (some ⟨g4, 0, none⟩) p0.length p0.length), (4, .int .i64 (i1 : Int))] a ∧ SH (Old w) w w2 [Ck.fill (α := Int) g4 p0.length 3 y1_0 Fy1_0]) (p0.length - 0) ⟨0, [], [g4], Nat.le_refl _, rfl, rfl, Nat.zero_le _, hM, hE7.weaken ⟨rfl, rfl, rfl, trivial⟩, hS4⟩ ?_)
  clear hM hE7 hS4
  rintro fu1 a8 w8 ⟨i1, y1_0, Fy1_0, hi1, hfu1, hy1_0, hz1_0, hM, hE8, hS8⟩
  refine wp_seq (wp_seq (wp_region_lit ?_))
  refine st_val hE8 (y_move hE8 rfl) rfl fun a9 hE9 => st_val hE9 (y_move hE9 rfl) rfl fun a10 hE10 => st_val hE10 (y_len_slice hE10 rfl sl32) rfl fun a11 hE11 => st_val hE11 (y_lss hE11 rfl rfl) rfl fun a12 hE12 => wpList_nil ?_
  clear hE8 hE9 hE10 hE11
  clear a8 a9 a10 a11
  refine then_normal ?_
  refine cond_split hE12 rfl (fun hb13 => ?_) (fun hb13 => ?_)
  ·
    have hlt1 : i1 < p0.length := by have := of_decide_eq_true hb13; omega
    obtain ⟨fu1, rfl⟩ : ∃ m, fu1 = m + 1 := ⟨fu1 - 1, by omega⟩
    have hM := hM.trans (laws_toIntS_l1.eq_2 _ _ _ _)
    refine wp_skip ?_
    refine then_normal ?_
    refine wp_seq (wp_block (wp_region_lit ?_))
    refine st_val hE12 (y_move hE12 rfl) rfl fun a14 hE14 => st_val hE14 (y_move hE14 rfl) rfl fun a15 hE15 => st_val hE15 (y_move hE15 rfl) rfl fun a16 hE16 => st_val hE16 (y_move hE16 rfl) rfl fun a17 hE17 => st_index hE17 hp0 rfl rfl rfl (by omega) sl32 rfl fun ad18 cs18 hr18 hc18 hl18 a19 hE19 => ?_
    obtain ⟨rfl, hg18⟩ := hr18
    refine st_val hE19 (y_load_one hE19 rfl (hS8.upc hc18 hl18) rfl one3) rfl fun a20 hE20 => st_val hE20 (y_indexAddr hE20 rfl rfl (by omega) (by omega) sl32) rfl fun a21 hE21 => ?_
    have hS22 := hS8.flat (α := Int) (cs := [.int .i64 (nth p0 i1)]) (x := (nth p0 i1)) (fun _ => ⟨⟨rfl, hg18⟩, rfl⟩)
    refine st_fill (k := 0) (ys := y1_0) hE21 hS22 rfl (by omega) (by omega) rfl rfl rfl (chkOne_size one3) (hS22.oneO (k := 0) rfl) fun w23 (hS23 : SH (Old w) w w23 [Ck.fill (α := Int) g4 p0.length 3 (y1_0 ++ [(nth p0 i1)]) (Fy1_0 ++ [])]) a24 hE24 => wpList_nil ?_
    clear hE12 hE14 hE15 hE16 hE17 hE19 hE20 hE21
    clear a12 a14 a15 a16 a17 a19 a20 a21
    refine blk_normal ?_
    refine then_normal ?_
    refine wp_region_lit ?_
    refine st_val hE24 (y_move hE24 rfl) rfl fun a25 hE25 => st_val hE25 (y_add_in hE25 rfl rfl (m := ((i1 + 1 : Nat) : Int)) (by omega) (by omega) (by omega)) rfl fun a26 hE26 => st_val hE26 (y_assign hE26 rfl) rfl fun a27 hE27 => wpList_nil ?_
    clear hE24 hE25 hE26
    clear a24 a25 a26
    refine then_normal ⟨fu1, Nat.lt_succ_self _, (i1 + 1), y1_0 ++ [(nth p0 i1)], Fy1_0 ++ [], by omega, by omega, (by rw [List.length_append, hy1_0]; rfl), (by omega), hM, hE27.weaken ⟨rfl, rfl, rfl, trivial⟩, hS23⟩
  ·
    have hge1 : ¬ i1 < p0.length := by have := of_decide_eq_false hb13; omega
    obtain rfl : fu1 = 0 := by omega
    have hM := hM.trans (laws_toIntS_l1.eq_1 _ _ _)
    refine wp_exit ?_
    refine then_exit ?_
    refine then_exit ?_
    refine blk_exit ?_
    refine then_normal ?_
    refine wp_seq (wp_region_lit ?_)
    refine st_val hE12 (y_move hE12 rfl) rfl fun a28 hE28 => st_val hE28 (y_assign hE28 rfl) rfl fun a29 hE29 => wpList_nil ?_
    clear hE12 hE28
    clear a12 a28
    refine then_normal ?_
    refine wp_ret ?_
    have hS30 := hS8.conv (k := 0) rfl (Ck.own [.slice (some ⟨g4, 0, none⟩) p0.length p0.length] y1_0 Fy1_0) rfl (fill_own (by omega) (by unfold maxLen; omega))
    refine fin1 hE29 rfl rfl ?_
    rw [hM]
    exact ⟨_, _, rfl, hS30.below, hS30.slO (k := 0) rfl, hS30.nd (k := 0) rfl, hS30.ge' (k := 0) rfl⟩

/- F94 loop.example/g00974/laws.toCallS -/
def laws_toCallS_l1 (p0 : List Call) : Nat → Nat → List Call → List Call
  | 0, i1, y1_0 => y1_0
  | fu1 + 1, i1, y1_0 => laws_toCallS_l1 p0 fu1 (i1 + 1) (y1_0 ++ [(laws_toCall (nth p0 i1))])
def laws_toCallS (p0 : List Call) : List Call := laws_toCallS_l1 p0 (p0.length - 0) 0 []
theorem c_laws_toCallS {v0 : Value} (p0 : List Call) {w : World} (hp0 : SlR (Old w) w v0 p0) (hsm0 : Dat.small 1048576 p0) :
    Calls Try.prog 94 [v0].toArray w (fun e w' => ∃ v F, e = .returned v ∧ Below w.heap.size w w' ∧ SlO w' v (laws_toCallS p0) F ∧ F.Nodup ∧ ∀ b ∈ F, w.heap.size ≤ b) := by
  have hln0 : p0.length ≤ 1048576 := hsm0.1
  obtain ⟨A0, cap0, rfl, hx0⟩ := hp0.form
  refine enter Try.func94 rfl Try.ntmps94 (Nat.le_of_ble_eq_true rfl) ?_
  intro a0 hE0
  have hS0 := SH.start w
  have hM := laws_toCallS.eq_1 p0
  refine wp_seq (wp_region_lit ?_)
  refine st_val hE0 (y_assign hE0 rfl) rfl fun a1 hE1 => wpList_nil ?_
  clear hE0
  clear a0
  refine then_normal ?_
  refine wp_seq (wp_region_lit ?_)
  refine st_val hE1 (y_move hE1 rfl) rfl fun a2 hE2 => st_val hE2 (y_len_slice hE2 rfl sl109) rfl fun a3 hE3 => st_makeSlice (α := Call) hE3 hS0 sl116 Try.zeroValue80 rfl rfl (by omega) (by omega) rfl fun g4 w4 hS4 a5 hE5 => st_val hE5 (y_assign hE5 rfl) rfl fun a6 hE6 => wpList_nil ?_
  clear hE1 hE2 hE3 hE5
  clear a1 a2 a3 a5
  refine then_normal ?_
  refine wp_seq (wp_seq (wp_region_lit ?_))
  refine st_val hE6 (y_assign hE6 rfl) rfl fun a7 hE7 => wpList_nil ?_
  clear hE6
  clear a6
  refine then_normal ?_
  refine wp_block (wp_loop_ghost (fun fu1 a w2 => ∃ (i1 : Nat) (y1_0 : List Call) (Fy1_0 : List Nat), 0 ≤ i1 ∧ fu1 = p0.length - i1 ∧ y1_0.length = i1 ∧ i1 ≤ p0.length ∧ laws_toCallS p0 = laws_toCallS_l1 p0 fu1 i1 y1_0 ∧ Env 23 [(0, .slice A0 p0.length cap0), (3, .slice (some ⟨g4, 0, none⟩) p0.length p0.length), (4, .int .i64 (i1 : Int))] a ∧ SH (Old w) w w2 [Ck.fill (α := Call) g4 p0.length 80 y1_0 Fy1_0]) (p0.length - 0) ⟨0, [], [g4], Nat.le_refl _, rfl, rfl, Nat.zero_le _, hM, hE7.weaken ⟨rfl, rfl, rfl, trivial⟩, hS4⟩ ?_)
  clear hM hE7 hS4
  rintro fu1 a8 w8 ⟨i1, y1_0, Fy1_0, hi1, hfu1, hy1_0, hz1_0, hM, hE8, hS8⟩
  refine wp_seq (wp_seq (wp_region_lit ?_))
  refine st_val hE8 (y_move hE8 rfl) rfl fun a9 hE9 => st_val hE9 (y_move hE9 rfl) rfl fun a10 hE10 => st_val hE10 (y_len_slice hE10 rfl sl109) rfl fun a11 hE11 => st_val hE11 (y_lss hE11 rfl rfl) rfl fun a12 hE12 => wpList_nil ?_
  clear hE8 hE9 hE10 hE11
  clear a8 a9 a10 a11
  refine then_normal ?_
  refine cond_split hE12 rfl (fun hb13 => ?_) (fun hb13 => ?_)
  ·
    have hlt1 : i1 < p0.length := by have := of_decide_eq_true hb13; omega
    obtain ⟨fu1, rfl⟩ : ∃ m, fu1 = m + 1 := ⟨fu1 - 1, by omega⟩
    have hM := hM.trans (laws_toCallS_l1.eq_2 _ _ _ _)
    refine wp_skip ?_
    refine then_normal ?_
    refine wp_seq (wp_block (wp_region_lit ?_))
    refine st_val hE12 (y_move hE12 rfl) rfl fun a14 hE14 => st_val hE14 (y_move hE14 rfl) rfl fun a15 hE15 => st_val hE15 (y_move hE15 rfl) rfl fun a16 hE16 => st_val hE16 (y_move hE16 rfl) rfl fun a17 hE17 => st_index hE17 hp0 rfl rfl rfl (by omega) sl109 rfl fun ad18 cs18 hr18 hc18 hl18 a19 hE19 => ?_
    obtain ⟨rfl, hg18_0, hg18_1, hg18_2, hg18_3, hg18_4, hg18_5, _⟩ := Call_open hr18
    refine st_val hE19 (y_load_agg hE19 rfl (hS8.upc hc18 hl18) rfl rfl agg132) rfl fun a20 hE20 => st_callO (mk := fun cs => .agg cs.toArray) hE20 hS8 Try.func102 fb102 fn102 (c_laws_toCall (nth p0 i1) (hS8.upd hr18)) rfl rfl fun cs21 F21 w21 hS21 a22 hE22 => st_val hE22 (y_indexAddr hE22 rfl rfl (by omega) (by omega) sl116) rfl fun a23 hE23 => st_fill (k := 0) (ys := y1_0) hE23 hS21 rfl (by omega) (by omega) rfl rfl rfl (chkAgg_size agg80) (hS21.oneO (k := 0) rfl) fun w24 (hS24 : SH (Old w) w w24 [Ck.fill (α := Call) g4 p0.length 80 (y1_0 ++ [(laws_toCall (nth p0 i1))]) (Fy1_0 ++ F21)]) a25 hE25 => wpList_nil ?_
    clear hE12 hE14 hE15 hE16 hE17 hE19 hE20 hE22 hE23
    clear a12 a14 a15 a16 a17 a19 a20 a22 a23
    refine blk_normal ?_
    refine then_normal ?_
    refine wp_region_lit ?_
    refine st_val hE25 (y_move hE25 rfl) rfl fun a26 hE26 => st_val hE26 (y_add_in hE26 rfl rfl (m := ((i1 + 1 : Nat) : Int)) (by omega) (by omega) (by omega)) rfl fun a27 hE27 => st_val hE27 (y_assign hE27 rfl) rfl fun a28 hE28 => wpList_nil ?_
    clear hE25 hE26 hE27
    clear a25 a26 a27
    refine then_normal ⟨fu1, Nat.lt_succ_self _, (i1 + 1), y1_0 ++ [(laws_toCall (nth p0 i1))], Fy1_0 ++ F21, by omega, by omega, (by rw [List.length_append, hy1_0]; rfl), (by omega), hM, hE28.weaken ⟨rfl, rfl, rfl, trivial⟩, hS24⟩
  ·
    have hge1 : ¬ i1 < p0.length := by have := of_decide_eq_false hb13; omega
    obtain rfl : fu1 = 0 := by omega
    have hM := hM.trans (laws_toCallS_l1.eq_1 _ _ _)
    refine wp_exit ?_
    refine then_exit ?_
    refine then_exit ?_
    refine blk_exit ?_
    refine then_normal ?_
    refine wp_seq (wp_region_lit ?_)
    refine st_val hE12 (y_move hE12 rfl) rfl fun a29 hE29 => st_val hE29 (y_assign hE29 rfl) rfl fun a30 hE30 => wpList_nil ?_
    clear hE12 hE29
    clear a12 a29
    refine then_normal ?_
    refine wp_ret ?_
    have hS31 := hS8.conv (k := 0) rfl (Ck.own [.slice (some ⟨g4, 0, none⟩) p0.length p0.length] y1_0 Fy1_0) rfl (fill_own (by omega) (by unfold maxLen; omega))
    refine fin1 hE30 rfl rfl ?_
    rw [hM]
    exact ⟨_, _, rfl, hS31.below, hS31.slO (k := 0) rfl, hS31.nd (k := 0) rfl, hS31.ge' (k := 0) rfl⟩

/- F95 loop.example/g00974/laws.toTouch -/
def laws_toTouch (p0 : Touch) : Touch := (Touch.mk (laws_toStringS p0.Reads) (laws_toStringS p0.Writes))
theorem c_laws_toTouch {c0 : List Value} (p0 : Touch) {w : World} (hp0 : Dat.rd (Old w) w c0 p0) (hsm0 : Dat.small 1048576 p0) :
    Calls Try.prog 95 [.agg c0.toArray].toArray w (fun e w' => ∃ cs F, e = .returned (.agg cs.toArray) ∧ Below w.heap.size w w' ∧ Dat.own w' cs (laws_toTouch p0) F ∧ F.Nodup ∧ ∀ b ∈ F, w.heap.size ≤ b) := by
  obtain ⟨v90000_0, v90000_1, rfl, hv90000_0, hv90000_1, _⟩ := Touch_open hp0
  obtain ⟨A90000_0, cp90000_0, rfl, hx90000_0⟩ := hv90000_0.form
  obtain ⟨A90000_1, cp90000_1, rfl, hx90000_1⟩ := hv90000_1.form
  refine enter Try.func95 rfl Try.ntmps95 (Nat.le_of_ble_eq_true rfl) ?_
  intro a0 hE0
  have hS0 := SH.start w
  have hM := laws_toTouch.eq_1 p0
  refine wp_seq (wp_region_lit ?_)
  refine st_box hE0 hS0 rfl rfl rfl fun b1 w1 hS1 a2 hE2 => st_alloc hE2 hS1 Try.zeroValue117 rfl rfl fun b3 w3 hS3 a4 hE4 => wpList_nil ?_
  clear hE0 hE2
  clear a0 a2
  refine then_normal ?_
  refine wp_seq (wp_region_lit ?_)
  refine st_alloc hE4 hS3 Try.zeroValue117 rfl rfl fun b5 w5 hS5 a6 hE6 => wpList_nil ?_
  clear hE4
  clear a4
  refine then_normal ?_
  refine wp_seq (wp_region_lit ?_)
  refine st_val hE6 (y_fieldAddr hE6 rfl fa111_0 rfl) rfl fun a7 hE7 => st_val hE7 (y_load_one hE7 rfl (hS5.cells (k := 2) rfl) rfl one38) rfl fun a8 hE8 => st_callS hE8 hS5 Try.func52 fb52 fn52 (c_laws_toStringS p0.Reads (hS5.up hv90000_0) hsm0.1) rfl rfl fun A9 cp9 F9 w9 hx9 hS9 a10 hE10 => st_val hE10 (y_fieldAddr hE10 rfl fa117_0 rfl) rfl fun a11 hE11 => st_store hE11 hS9 [.slice A9 ((laws_toStringS p0.Reads).length) cp9, .slice none 0 0] rfl rfl (k := 1) rfl rfl (chkOne_size one38) rfl rfl rfl rfl fun w12 (hS12 : SH (Old w) w w12 [Ck.own (α := List ByteArray) [.slice A9 ((laws_toStringS p0.Reads).length) cp9] (laws_toStringS p0.Reads) F9, Ck.var b5 [.slice A9 ((laws_toStringS p0.Reads).length) cp9, .slice none 0 0] 117, Ck.var b3 [.slice none 0 0, .slice none 0 0] 117, Ck.var b1 [.slice A90000_0 p0.Reads.length cp90000_0, .slice A90000_1 p0.Writes.length cp90000_1] 111]) a13 hE13 => wpList_nil ?_
  clear hE6 hE7 hE8 hE10 hE11
  clear a6 a7 a8 a10 a11
  refine then_normal ?_
  refine wp_seq (wp_region_lit ?_)
  refine st_val hE13 (y_fieldAddr hE13 rfl fa111_1 rfl) rfl fun a14 hE14 => st_val hE14 (y_load_one hE14 rfl (hS12.cells (k := 3) rfl) rfl one38) rfl fun a15 hE15 => st_callS hE15 hS12 Try.func52 fb52 fn52 (c_laws_toStringS p0.Writes (hS12.up hv90000_1) hsm0.2) rfl rfl fun A16 cp16 F16 w16 hx16 hS16 a17 hE17 => st_val hE17 (y_fieldAddr hE17 rfl fa117_1 rfl) rfl fun a18 hE18 => st_store hE18 hS16 [.slice A9 ((laws_toStringS p0.Reads).length) cp9, .slice A16 ((laws_toStringS p0.Writes).length) cp16] rfl rfl (k := 2) rfl rfl (chkOne_size one38) rfl rfl rfl rfl fun w19 (hS19 : SH (Old w) w w19 [Ck.own (α := List ByteArray) [.slice A16 ((laws_toStringS p0.Writes).length) cp16] (laws_toStringS p0.Writes) F16, Ck.own (α := List ByteArray) [.slice A9 ((laws_toStringS p0.Reads).length) cp9] (laws_toStringS p0.Reads) F9, Ck.var b5 [.slice A9 ((laws_toStringS p0.Reads).length) cp9, .slice A16 ((laws_toStringS p0.Writes).length) cp16] 117, Ck.var b3 [.slice none 0 0, .slice none 0 0] 117, Ck.var b1 [.slice A90000_0 p0.Reads.length cp90000_0, .slice A90000_1 p0.Writes.length cp90000_1] 111]) a20 hE20 => wpList_nil ?_
  clear hE13 hE14 hE15 hE17 hE18
  clear a13 a14 a15 a17 a18
  refine then_normal ?_
  refine wp_seq (wp_region_lit ?_)
  refine st_val hE20 (y_load_agg hE20 rfl (hS19.cells (k := 2) rfl) rfl rfl agg117) rfl fun a21 hE21 => st_store hE21 hS19 [.slice A9 ((laws_toStringS p0.Reads).length) cp9, .slice A16 ((laws_toStringS p0.Writes).length) cp16] rfl rfl (k := 3) rfl rfl (chkAgg_size agg117) rfl rfl rfl rfl fun w22 (hS22 : SH (Old w) w w22 [Ck.own (α := List ByteArray) [.slice A16 ((laws_toStringS p0.Writes).length) cp16] (laws_toStringS p0.Writes) F16, Ck.own (α := List ByteArray) [.slice A9 ((laws_toStringS p0.Reads).length) cp9] (laws_toStringS p0.Reads) F9, Ck.var b5 [.slice A9 ((laws_toStringS p0.Reads).length) cp9, .slice A16 ((laws_toStringS p0.Writes).length) cp16] 117, Ck.var b3 [.slice A9 ((laws_toStringS p0.Reads).length) cp9, .slice A16 ((laws_toStringS p0.Writes).length) cp16] 117, Ck.var b1 [.slice A90000_0 p0.Reads.length cp90000_0, .slice A90000_1 p0.Writes.length cp90000_1] 111]) a23 hE23 => wpList_nil ?_
  clear hE20 hE21
  clear a20 a21
  refine then_normal ?_
  refine wp_ret ?_
  refine finC hE23 hS22 rfl rfl (k := 3) rfl agg117 rfl ?_
  rw [hM]
  exact ⟨_, _, rfl, hS22.below, Touch_own (x := (Touch.mk (laws_toStringS p0.Reads) (laws_toStringS p0.Writes))) (hS22.slO (k := 1) rfl) (hS22.slO (k := 0) rfl), (nd_app (hS22.nd (k := 1) rfl) (hS22.nd (k := 0) rfl) (hS22.dj (i := 1) (j := 0) rfl rfl (by decide))), (ge_app (hS22.ge' (k := 1) rfl) (hS22.ge' (k := 0) rfl))⟩

/- F71 loop.example/g00974/laws.toTx -/
def laws_toTx (p0 : Tx) : Tx := (Tx.mk p0.Id p0.Age p0.Proc p0.Began (laws_toCallS p0.Calls) (laws_toAnswerS p0.Answers) (laws_toTouch p0.Touch) (laws_toIntS p0.Marks) p0.State)
theorem c_laws_toTx {c0 : List Value} (p0 : Tx) {w : World} (hp0 : Dat.rd (Old w) w c0 p0) (hsm0 : Dat.small 1048576 p0) :
    Calls Try.prog 71 [.agg c0.toArray].toArray w (fun e w' => ∃ cs F, e = .returned (.agg cs.toArray) ∧ Below w.heap.size w w' ∧ Dat.own w' cs (laws_toTx p0) F ∧ F.Nodup ∧ ∀ b ∈ F, w.heap.size ≤ b) := by
  obtain ⟨v90000_4, v90000_5, v90000_6, v90000_7, v90000_8, rfl, hg90000_0, hg90000_1, hg90000_2, hg90000_3, hv90000_4, hv90000_5, hv90000_6, hv90000_7, hv90000_8, hg90000_9, _⟩ := Tx_open hp0
  obtain ⟨A90000_4, cp90000_4, rfl, hx90000_4⟩ := hv90000_4.form
  obtain ⟨A90000_5, cp90000_5, rfl, hx90000_5⟩ := hv90000_5.form
  obtain ⟨A90000_6, cp90000_6, rfl, hx90000_6⟩ := hv90000_6.form
  obtain ⟨A90000_7, cp90000_7, rfl, hx90000_7⟩ := hv90000_7.form
  obtain ⟨A90000_8, cp90000_8, rfl, hx90000_8⟩ := hv90000_8.form
  refine enter Try.func71 rfl Try.ntmps71 (Nat.le_of_ble_eq_true rfl) ?_
  intro a0 hE0
  have hS0 := SH.start w
  have hM := laws_toTx.eq_1 p0
  refine wp_seq (wp_region_lit ?_)
  refine st_box hE0 hS0 rfl rfl rfl fun b1 w1 hS1 a2 hE2 => st_alloc hE2 hS1 Try.zeroValue119 rfl rfl fun b3 w3 hS3 a4 hE4 => wpList_nil ?_
  clear hE0 hE2
  clear a0 a2
  refine then_normal ?_
  refine wp_seq (wp_region_lit ?_)
  refine st_alloc hE4 hS3 Try.zeroValue119 rfl rfl fun b5 w5 hS5 a6 hE6 => wpList_nil ?_
  clear hE4
  clear a4
  refine then_normal ?_
  refine wp_seq (wp_region_lit ?_)
  refine st_val hE6 (y_fieldAddr hE6 rfl fa113_0 rfl) rfl fun a7 hE7 => st_val hE7 (y_load_one hE7 rfl (hS5.cells (k := 2) rfl) rfl one3) rfl fun a8 hE8 => st_val hE8 (y_fieldAddr hE8 rfl fa119_0 rfl) rfl fun a9 hE9 => st_store hE9 hS5 [.int .i64 p0.Id, .int .i64 0, .int .i64 0, .int .i64 0, .slice none 0 0, .slice none 0 0, .slice none 0 0, .slice none 0 0, .slice none 0 0, .int .i64 0] rfl rfl (k := 0) rfl rfl (chkOne_size one3) rfl rfl rfl rfl fun w10 (hS10 : SH (Old w) w w10 [Ck.var b5 [.int .i64 p0.Id, .int .i64 0, .int .i64 0, .int .i64 0, .slice none 0 0, .slice none 0 0, .slice none 0 0, .slice none 0 0, .slice none 0 0, .int .i64 0] 119, Ck.var b3 [.int .i64 0, .int .i64 0, .int .i64 0, .int .i64 0, .slice none 0 0, .slice none 0 0, .slice none 0 0, .slice none 0 0, .slice none 0 0, .int .i64 0] 119, Ck.var b1 [.int .i64 p0.Id, .int .i64 p0.Age, .int .i64 p0.Proc, .int .i64 p0.Began, .slice A90000_4 p0.Calls.length cp90000_4, .slice A90000_5 p0.Answers.length cp90000_5, .slice A90000_6 p0.Touch.Reads.length cp90000_6, .slice A90000_7 p0.Touch.Writes.length cp90000_7, .slice A90000_8 p0.Marks.length cp90000_8, .int .i64 p0.State] 113]) a11 hE11 => wpList_nil ?_
  clear hE6 hE7 hE8 hE9
  clear a6 a7 a8 a9
  refine then_normal ?_
  refine wp_seq (wp_region_lit ?_)
  refine st_val hE11 (y_fieldAddr hE11 rfl fa113_1 rfl) rfl fun a12 hE12 => st_val hE12 (y_load_one hE12 rfl (hS10.cells (k := 2) rfl) rfl one3) rfl fun a13 hE13 => st_val hE13 (y_fieldAddr hE13 rfl fa119_1 rfl) rfl fun a14 hE14 => st_store hE14 hS10 [.int .i64 p0.Id, .int .i64 p0.Age, .int .i64 0, .int .i64 0, .slice none 0 0, .slice none 0 0, .slice none 0 0, .slice none 0 0, .slice none 0 0, .int .i64 0] rfl rfl (k := 0) rfl rfl (chkOne_size one3) rfl rfl rfl rfl fun w15 (hS15 : SH (Old w) w w15 [Ck.var b5 [.int .i64 p0.Id, .int .i64 p0.Age, .int .i64 0, .int .i64 0, .slice none 0 0, .slice none 0 0, .slice none 0 0, .slice none 0 0, .slice none 0 0, .int .i64 0] 119, Ck.var b3 [.int .i64 0, .int .i64 0, .int .i64 0, .int .i64 0, .slice none 0 0, .slice none 0 0, .slice none 0 0, .slice none 0 0, .slice none 0 0, .int .i64 0] 119, Ck.var b1 [.int .i64 p0.Id, .int .i64 p0.Age, .int .i64 p0.Proc, .int .i64 p0.Began, .slice A90000_4 p0.Calls.length cp90000_4, .slice A90000_5 p0.Answers.length cp90000_5, .slice A90000_6 p0.Touch.Reads.length cp90000_6, .slice A90000_7 p0.Touch.Writes.length cp90000_7, .slice A90000_8 p0.Marks.length cp90000_8, .int .i64 p0.State] 113]) a16 hE16 => wpList_nil ?_
  clear hE11 hE12 hE13 hE14
  clear a11 a12 a13 a14
  refine then_normal ?_
  refine wp_seq (wp_region_lit ?_)
  refine st_val hE16 (y_fieldAddr hE16 rfl fa113_2 rfl) rfl fun a17 hE17 => st_val hE17 (y_load_one hE17 rfl (hS15.cells (k := 2) rfl) rfl one3) rfl fun a18 hE18 => st_val hE18 (y_fieldAddr hE18 rfl fa119_2 rfl) rfl fun a19 hE19 => st_store hE19 hS15 [.int .i64 p0.Id, .int .i64 p0.Age, .int .i64 p0.Proc, .int .i64 0, .slice none 0 0, .slice none 0 0, .slice none 0 0, .slice none 0 0, .slice none 0 0, .int .i64 0] rfl rfl (k := 0) rfl rfl (chkOne_size one3) rfl rfl rfl rfl fun w20 (hS20 : SH (Old w) w w20 [Ck.var b5 [.int .i64 p0.Id, .int .i64 p0.Age, .int .i64 p0.Proc, .int .i64 0, .slice none 0 0, .slice none 0 0, .slice none 0 0, .slice none 0 0, .slice none 0 0, .int .i64 0] 119, Ck.var b3 [.int .i64 0, .int .i64 0, .int .i64 0, .int .i64 0, .slice none 0 0, .slice none 0 0, .slice none 0 0, .slice none 0 0, .slice none 0 0, .int .i64 0] 119, Ck.var b1 [.int .i64 p0.Id, .int .i64 p0.Age, .int .i64 p0.Proc, .int .i64 p0.Began, .slice A90000_4 p0.Calls.length cp90000_4, .slice A90000_5 p0.Answers.length cp90000_5, .slice A90000_6 p0.Touch.Reads.length cp90000_6, .slice A90000_7 p0.Touch.Writes.length cp90000_7, .slice A90000_8 p0.Marks.length cp90000_8, .int .i64 p0.State] 113]) a21 hE21 => wpList_nil ?_
  clear hE16 hE17 hE18 hE19
  clear a16 a17 a18 a19
  refine then_normal ?_
  refine wp_seq (wp_region_lit ?_)
  refine st_val hE21 (y_fieldAddr hE21 rfl fa113_3 rfl) rfl fun a22 hE22 => st_val hE22 (y_load_one hE22 rfl (hS20.cells (k := 2) rfl) rfl one3) rfl fun a23 hE23 => st_val hE23 (y_fieldAddr hE23 rfl fa119_3 rfl) rfl fun a24 hE24 => st_store hE24 hS20 [.int .i64 p0.Id, .int .i64 p0.Age, .int .i64 p0.Proc, .int .i64 p0.Began, .slice none 0 0, .slice none 0 0, .slice none 0 0, .slice none 0 0, .slice none 0 0, .int .i64 0] rfl rfl (k := 0) rfl rfl (chkOne_size one3) rfl rfl rfl rfl fun w25 (hS25 : SH (Old w) w w25 [Ck.var b5 [.int .i64 p0.Id, .int .i64 p0.Age, .int .i64 p0.Proc, .int .i64 p0.Began, .slice none 0 0, .slice none 0 0, .slice none 0 0, .slice none 0 0, .slice none 0 0, .int .i64 0] 119, Ck.var b3 [.int .i64 0, .int .i64 0, .int .i64 0, .int .i64 0, .slice none 0 0, .slice none 0 0, .slice none 0 0, .slice none 0 0, .slice none 0 0, .int .i64 0] 119, Ck.var b1 [.int .i64 p0.Id, .int .i64 p0.Age, .int .i64 p0.Proc, .int .i64 p0.Began, .slice A90000_4 p0.Calls.length cp90000_4, .slice A90000_5 p0.Answers.length cp90000_5, .slice A90000_6 p0.Touch.Reads.length cp90000_6, .slice A90000_7 p0.Touch.Writes.length cp90000_7, .slice A90000_8 p0.Marks.length cp90000_8, .int .i64 p0.State] 113]) a26 hE26 => wpList_nil ?_
  clear hE21 hE22 hE23 hE24
  clear a21 a22 a23 a24
  refine then_normal ?_
  refine wp_seq (wp_region_lit ?_)
  refine st_val hE26 (y_fieldAddr hE26 rfl fa113_4 rfl) rfl fun a27 hE27 => st_val hE27 (y_load_one hE27 rfl (hS25.cells (k := 2) rfl) rfl one109) rfl fun a28 hE28 => st_callS hE28 hS25 Try.func94 fb94 fn94 (c_laws_toCallS p0.Calls (hS25.up hv90000_4) hsm0.2.2.2.2.1) rfl rfl fun A29 cp29 F29 w29 hx29 hS29 a30 hE30 => st_val hE30 (y_fieldAddr hE30 rfl fa119_4 rfl) rfl fun a31 hE31 => st_store hE31 hS29 [.int .i64 p0.Id, .int .i64 p0.Age, .int .i64 p0.Proc, .int .i64 p0.Began, .slice A29 ((laws_toCallS p0.Calls).length) cp29, .slice none 0 0, .slice none 0 0, .slice none 0 0, .slice none 0 0, .int .i64 0] rfl rfl (k := 1) rfl rfl (chkOne_size one116) rfl rfl rfl rfl fun w32 (hS32 : SH (Old w) w w32 [Ck.own (α := List Call) [.slice A29 ((laws_toCallS p0.Calls).length) cp29] (laws_toCallS p0.Calls) F29, Ck.var b5 [.int .i64 p0.Id, .int .i64 p0.Age, .int .i64 p0.Proc, .int .i64 p0.Began, .slice A29 ((laws_toCallS p0.Calls).length) cp29, .slice none 0 0, .slice none 0 0, .slice none 0 0, .slice none 0 0, .int .i64 0] 119, Ck.var b3 [.int .i64 0, .int .i64 0, .int .i64 0, .int .i64 0, .slice none 0 0, .slice none 0 0, .slice none 0 0, .slice none 0 0, .slice none 0 0, .int .i64 0] 119, Ck.var b1 [.int .i64 p0.Id, .int .i64 p0.Age, .int .i64 p0.Proc, .int .i64 p0.Began, .slice A90000_4 p0.Calls.length cp90000_4, .slice A90000_5 p0.Answers.length cp90000_5, .slice A90000_6 p0.Touch.Reads.length cp90000_6, .slice A90000_7 p0.Touch.Writes.length cp90000_7, .slice A90000_8 p0.Marks.length cp90000_8, .int .i64 p0.State] 113]) a33 hE33 => wpList_nil ?_
  clear hE26 hE27 hE28 hE30 hE31
  clear a26 a27 a28 a30 a31
  refine then_normal ?_
  refine wp_seq (wp_region_lit ?_)
  refine st_val hE33 (y_fieldAddr hE33 rfl fa113_5 rfl) rfl fun a34 hE34 => st_val hE34 (y_load_one hE34 rfl (hS32.cells (k := 3) rfl) rfl one68) rfl fun a35 hE35 => st_callS hE35 hS32 Try.func60 fb60 fn60 (c_laws_toAnswerS p0.Answers (hS32.up hv90000_5) hsm0.2.2.2.2.2.1) rfl rfl fun A36 cp36 F36 w36 hx36 hS36 a37 hE37 => st_val hE37 (y_fieldAddr hE37 rfl fa119_5 rfl) rfl fun a38 hE38 => st_store hE38 hS36 [.int .i64 p0.Id, .int .i64 p0.Age, .int .i64 p0.Proc, .int .i64 p0.Began, .slice A29 ((laws_toCallS p0.Calls).length) cp29, .slice A36 ((laws_toAnswerS p0.Answers).length) cp36, .slice none 0 0, .slice none 0 0, .slice none 0 0, .int .i64 0] rfl rfl (k := 2) rfl rfl (chkOne_size one72) rfl rfl rfl rfl fun w39 (hS39 : SH (Old w) w w39 [Ck.own (α := List Answer) [.slice A36 ((laws_toAnswerS p0.Answers).length) cp36] (laws_toAnswerS p0.Answers) F36, Ck.own (α := List Call) [.slice A29 ((laws_toCallS p0.Calls).length) cp29] (laws_toCallS p0.Calls) F29, Ck.var b5 [.int .i64 p0.Id, .int .i64 p0.Age, .int .i64 p0.Proc, .int .i64 p0.Began, .slice A29 ((laws_toCallS p0.Calls).length) cp29, .slice A36 ((laws_toAnswerS p0.Answers).length) cp36, .slice none 0 0, .slice none 0 0, .slice none 0 0, .int .i64 0] 119, Ck.var b3 [.int .i64 0, .int .i64 0, .int .i64 0, .int .i64 0, .slice none 0 0, .slice none 0 0, .slice none 0 0, .slice none 0 0, .slice none 0 0, .int .i64 0] 119, Ck.var b1 [.int .i64 p0.Id, .int .i64 p0.Age, .int .i64 p0.Proc, .int .i64 p0.Began, .slice A90000_4 p0.Calls.length cp90000_4, .slice A90000_5 p0.Answers.length cp90000_5, .slice A90000_6 p0.Touch.Reads.length cp90000_6, .slice A90000_7 p0.Touch.Writes.length cp90000_7, .slice A90000_8 p0.Marks.length cp90000_8, .int .i64 p0.State] 113]) a40 hE40 => wpList_nil ?_
  clear hE33 hE34 hE35 hE37 hE38
  clear a33 a34 a35 a37 a38
  refine then_normal ?_
  refine wp_seq (wp_region_lit ?_)
  refine st_val hE40 (y_fieldAddr hE40 rfl fa113_6 rfl) rfl fun a41 hE41 => st_val hE41 (y_load_agg hE41 rfl (hS39.cells (k := 4) rfl) rfl rfl agg111) rfl fun a42 hE42 => st_callO (mk := fun cs => .agg cs.toArray) hE42 hS39 Try.func95 fb95 fn95 (c_laws_toTouch p0.Touch (hS39.upd (Touch_mk (x := p0.Touch) hv90000_6 hv90000_7)) hsm0.2.2.2.2.2.2.1) rfl rfl fun cs43 F43 w43 hS43 a44 hE44 => ?_
  clear hE40 hE41 hE42
  clear a40 a41 a42
  obtain ⟨v43_0, F43_0, v43_1, F43_1, rfl, rfl, ho43_0, ho43_1, _⟩ := Touch_oopen (show Dat.own w43 cs43 (laws_toTouch p0.Touch) F43 from hS43.get (k := 0) rfl)
  obtain ⟨A43_0, cp43_0, rfl, hx43_0⟩ := ho43_0.form
  obtain ⟨A43_1, cp43_1, rfl, hx43_1⟩ := ho43_1.form
  have hS45 := hS43.split [Ck.own (α := List ByteArray) [.slice A43_0 ((laws_toTouch p0.Touch).Reads.length) cp43_0] ((laws_toTouch p0.Touch).Reads) F43_0, Ck.own (α := List ByteArray) [.slice A43_1 ((laws_toTouch p0.Touch).Writes.length) cp43_1] ((laws_toTouch p0.Touch).Writes) F43_1] (by simp only [Ck.own, List.flatMap_cons, List.flatMap_nil, List.append_nil, List.append_assoc]) (oks_cons (ok_sl ho43_0) (oks_cons (ok_sl ho43_1) oks_nil))
  simp only [List.cons_append, List.nil_append] at hS45
  refine st_val hE44 (y_fieldAddr hE44 rfl fa119_6 rfl) rfl fun a46 hE46 => st_store hE46 hS45 [.int .i64 p0.Id, .int .i64 p0.Age, .int .i64 p0.Proc, .int .i64 p0.Began, .slice A29 ((laws_toCallS p0.Calls).length) cp29, .slice A36 ((laws_toAnswerS p0.Answers).length) cp36, .slice A43_0 ((laws_toTouch p0.Touch).Reads.length) cp43_0, .slice A43_1 ((laws_toTouch p0.Touch).Writes.length) cp43_1, .slice none 0 0, .int .i64 0] rfl rfl (k := 4) rfl rfl (chkAgg_size agg117) rfl rfl rfl rfl fun w47 (hS47 : SH (Old w) w w47 [Ck.own (α := List ByteArray) [.slice A43_0 ((laws_toTouch p0.Touch).Reads.length) cp43_0] ((laws_toTouch p0.Touch).Reads) F43_0, Ck.own (α := List ByteArray) [.slice A43_1 ((laws_toTouch p0.Touch).Writes.length) cp43_1] ((laws_toTouch p0.Touch).Writes) F43_1, Ck.own (α := List Answer) [.slice A36 ((laws_toAnswerS p0.Answers).length) cp36] (laws_toAnswerS p0.Answers) F36, Ck.own (α := List Call) [.slice A29 ((laws_toCallS p0.Calls).length) cp29] (laws_toCallS p0.Calls) F29, Ck.var b5 [.int .i64 p0.Id, .int .i64 p0.Age, .int .i64 p0.Proc, .int .i64 p0.Began, .slice A29 ((laws_toCallS p0.Calls).length) cp29, .slice A36 ((laws_toAnswerS p0.Answers).length) cp36, .slice A43_0 ((laws_toTouch p0.Touch).Reads.length) cp43_0, .slice A43_1 ((laws_toTouch p0.Touch).Writes.length) cp43_1, .slice none 0 0, .int .i64 0] 119, Ck.var b3 [.int .i64 0, .int .i64 0, .int .i64 0, .int .i64 0, .slice none 0 0, .slice none 0 0, .slice none 0 0, .slice none 0 0, .slice none 0 0, .int .i64 0] 119, Ck.var b1 [.int .i64 p0.Id, .int .i64 p0.Age, .int .i64 p0.Proc, .int .i64 p0.Began, .slice A90000_4 p0.Calls.length cp90000_4, .slice A90000_5 p0.Answers.length cp90000_5, .slice A90000_6 p0.Touch.Reads.length cp90000_6, .slice A90000_7 p0.Touch.Writes.length cp90000_7, .slice A90000_8 p0.Marks.length cp90000_8, .int .i64 p0.State] 113]) a48 hE48 => wpList_nil ?_
  clear hE44 hE46
  clear a44 a46
  refine then_normal ?_
  refine wp_seq (wp_region_lit ?_)
  refine st_val hE48 (y_fieldAddr hE48 rfl fa113_7 rfl) rfl fun a49 hE49 => st_val hE49 (y_load_one hE49 rfl (hS47.cells (k := 6) rfl) rfl one32) rfl fun a50 hE50 => st_callS hE50 hS47 Try.func96 fb96 fn96 (c_laws_toIntS p0.Marks (hS47.up hv90000_8) hsm0.2.2.2.2.2.2.2.1) rfl rfl fun A51 cp51 F51 w51 hx51 hS51 a52 hE52 => st_val hE52 (y_fieldAddr hE52 rfl fa119_7 rfl) rfl fun a53 hE53 => st_store hE53 hS51 [.int .i64 p0.Id, .int .i64 p0.Age, .int .i64 p0.Proc, .int .i64 p0.Began, .slice A29 ((laws_toCallS p0.Calls).length) cp29, .slice A36 ((laws_toAnswerS p0.Answers).length) cp36, .slice A43_0 ((laws_toTouch p0.Touch).Reads.length) cp43_0, .slice A43_1 ((laws_toTouch p0.Touch).Writes.length) cp43_1, .slice A51 ((laws_toIntS p0.Marks).length) cp51, .int .i64 0] rfl rfl (k := 5) rfl rfl (chkOne_size one32) rfl rfl rfl rfl fun w54 (hS54 : SH (Old w) w w54 [Ck.own (α := List Int) [.slice A51 ((laws_toIntS p0.Marks).length) cp51] (laws_toIntS p0.Marks) F51, Ck.own (α := List ByteArray) [.slice A43_0 ((laws_toTouch p0.Touch).Reads.length) cp43_0] ((laws_toTouch p0.Touch).Reads) F43_0, Ck.own (α := List ByteArray) [.slice A43_1 ((laws_toTouch p0.Touch).Writes.length) cp43_1] ((laws_toTouch p0.Touch).Writes) F43_1, Ck.own (α := List Answer) [.slice A36 ((laws_toAnswerS p0.Answers).length) cp36] (laws_toAnswerS p0.Answers) F36, Ck.own (α := List Call) [.slice A29 ((laws_toCallS p0.Calls).length) cp29] (laws_toCallS p0.Calls) F29, Ck.var b5 [.int .i64 p0.Id, .int .i64 p0.Age, .int .i64 p0.Proc, .int .i64 p0.Began, .slice A29 ((laws_toCallS p0.Calls).length) cp29, .slice A36 ((laws_toAnswerS p0.Answers).length) cp36, .slice A43_0 ((laws_toTouch p0.Touch).Reads.length) cp43_0, .slice A43_1 ((laws_toTouch p0.Touch).Writes.length) cp43_1, .slice A51 ((laws_toIntS p0.Marks).length) cp51, .int .i64 0] 119, Ck.var b3 [.int .i64 0, .int .i64 0, .int .i64 0, .int .i64 0, .slice none 0 0, .slice none 0 0, .slice none 0 0, .slice none 0 0, .slice none 0 0, .int .i64 0] 119, Ck.var b1 [.int .i64 p0.Id, .int .i64 p0.Age, .int .i64 p0.Proc, .int .i64 p0.Began, .slice A90000_4 p0.Calls.length cp90000_4, .slice A90000_5 p0.Answers.length cp90000_5, .slice A90000_6 p0.Touch.Reads.length cp90000_6, .slice A90000_7 p0.Touch.Writes.length cp90000_7, .slice A90000_8 p0.Marks.length cp90000_8, .int .i64 p0.State] 113]) a55 hE55 => wpList_nil ?_
  clear hE48 hE49 hE50 hE52 hE53
  clear a48 a49 a50 a52 a53
  refine then_normal ?_
  refine wp_seq (wp_region_lit ?_)
  refine st_val hE55 (y_fieldAddr hE55 rfl fa113_8 rfl) rfl fun a56 hE56 => st_val hE56 (y_load_one hE56 rfl (hS54.cells (k := 7) rfl) rfl one3) rfl fun a57 hE57 => st_val hE57 (y_fieldAddr hE57 rfl fa119_8 rfl) rfl fun a58 hE58 => st_store hE58 hS54 [.int .i64 p0.Id, .int .i64 p0.Age, .int .i64 p0.Proc, .int .i64 p0.Began, .slice A29 ((laws_toCallS p0.Calls).length) cp29, .slice A36 ((laws_toAnswerS p0.Answers).length) cp36, .slice A43_0 ((laws_toTouch p0.Touch).Reads.length) cp43_0, .slice A43_1 ((laws_toTouch p0.Touch).Writes.length) cp43_1, .slice A51 ((laws_toIntS p0.Marks).length) cp51, .int .i64 p0.State] rfl rfl (k := 5) rfl rfl (chkOne_size one3) rfl rfl rfl rfl fun w59 (hS59 : SH (Old w) w w59 [Ck.own (α := List Int) [.slice A51 ((laws_toIntS p0.Marks).length) cp51] (laws_toIntS p0.Marks) F51, Ck.own (α := List ByteArray) [.slice A43_0 ((laws_toTouch p0.Touch).Reads.length) cp43_0] ((laws_toTouch p0.Touch).Reads) F43_0, Ck.own (α := List ByteArray) [.slice A43_1 ((laws_toTouch p0.Touch).Writes.length) cp43_1] ((laws_toTouch p0.Touch).Writes) F43_1, Ck.own (α := List Answer) [.slice A36 ((laws_toAnswerS p0.Answers).length) cp36] (laws_toAnswerS p0.Answers) F36, Ck.own (α := List Call) [.slice A29 ((laws_toCallS p0.Calls).length) cp29] (laws_toCallS p0.Calls) F29, Ck.var b5 [.int .i64 p0.Id, .int .i64 p0.Age, .int .i64 p0.Proc, .int .i64 p0.Began, .slice A29 ((laws_toCallS p0.Calls).length) cp29, .slice A36 ((laws_toAnswerS p0.Answers).length) cp36, .slice A43_0 ((laws_toTouch p0.Touch).Reads.length) cp43_0, .slice A43_1 ((laws_toTouch p0.Touch).Writes.length) cp43_1, .slice A51 ((laws_toIntS p0.Marks).length) cp51, .int .i64 p0.State] 119, Ck.var b3 [.int .i64 0, .int .i64 0, .int .i64 0, .int .i64 0, .slice none 0 0, .slice none 0 0, .slice none 0 0, .slice none 0 0, .slice none 0 0, .int .i64 0] 119, Ck.var b1 [.int .i64 p0.Id, .int .i64 p0.Age, .int .i64 p0.Proc, .int .i64 p0.Began, .slice A90000_4 p0.Calls.length cp90000_4, .slice A90000_5 p0.Answers.length cp90000_5, .slice A90000_6 p0.Touch.Reads.length cp90000_6, .slice A90000_7 p0.Touch.Writes.length cp90000_7, .slice A90000_8 p0.Marks.length cp90000_8, .int .i64 p0.State] 113]) a60 hE60 => wpList_nil ?_
  clear hE55 hE56 hE57 hE58
  clear a55 a56 a57 a58
  refine then_normal ?_
  refine wp_seq (wp_region_lit ?_)
  refine st_val hE60 (y_load_agg hE60 rfl (hS59.cells (k := 5) rfl) rfl rfl agg119) rfl fun a61 hE61 => st_store hE61 hS59 [.int .i64 p0.Id, .int .i64 p0.Age, .int .i64 p0.Proc, .int .i64 p0.Began, .slice A29 ((laws_toCallS p0.Calls).length) cp29, .slice A36 ((laws_toAnswerS p0.Answers).length) cp36, .slice A43_0 ((laws_toTouch p0.Touch).Reads.length) cp43_0, .slice A43_1 ((laws_toTouch p0.Touch).Writes.length) cp43_1, .slice A51 ((laws_toIntS p0.Marks).length) cp51, .int .i64 p0.State] rfl rfl (k := 6) rfl rfl (chkAgg_size agg119) rfl rfl rfl rfl fun w62 (hS62 : SH (Old w) w w62 [Ck.own (α := List Int) [.slice A51 ((laws_toIntS p0.Marks).length) cp51] (laws_toIntS p0.Marks) F51, Ck.own (α := List ByteArray) [.slice A43_0 ((laws_toTouch p0.Touch).Reads.length) cp43_0] ((laws_toTouch p0.Touch).Reads) F43_0, Ck.own (α := List ByteArray) [.slice A43_1 ((laws_toTouch p0.Touch).Writes.length) cp43_1] ((laws_toTouch p0.Touch).Writes) F43_1, Ck.own (α := List Answer) [.slice A36 ((laws_toAnswerS p0.Answers).length) cp36] (laws_toAnswerS p0.Answers) F36, Ck.own (α := List Call) [.slice A29 ((laws_toCallS p0.Calls).length) cp29] (laws_toCallS p0.Calls) F29, Ck.var b5 [.int .i64 p0.Id, .int .i64 p0.Age, .int .i64 p0.Proc, .int .i64 p0.Began, .slice A29 ((laws_toCallS p0.Calls).length) cp29, .slice A36 ((laws_toAnswerS p0.Answers).length) cp36, .slice A43_0 ((laws_toTouch p0.Touch).Reads.length) cp43_0, .slice A43_1 ((laws_toTouch p0.Touch).Writes.length) cp43_1, .slice A51 ((laws_toIntS p0.Marks).length) cp51, .int .i64 p0.State] 119, Ck.var b3 [.int .i64 p0.Id, .int .i64 p0.Age, .int .i64 p0.Proc, .int .i64 p0.Began, .slice A29 ((laws_toCallS p0.Calls).length) cp29, .slice A36 ((laws_toAnswerS p0.Answers).length) cp36, .slice A43_0 ((laws_toTouch p0.Touch).Reads.length) cp43_0, .slice A43_1 ((laws_toTouch p0.Touch).Writes.length) cp43_1, .slice A51 ((laws_toIntS p0.Marks).length) cp51, .int .i64 p0.State] 119, Ck.var b1 [.int .i64 p0.Id, .int .i64 p0.Age, .int .i64 p0.Proc, .int .i64 p0.Began, .slice A90000_4 p0.Calls.length cp90000_4, .slice A90000_5 p0.Answers.length cp90000_5, .slice A90000_6 p0.Touch.Reads.length cp90000_6, .slice A90000_7 p0.Touch.Writes.length cp90000_7, .slice A90000_8 p0.Marks.length cp90000_8, .int .i64 p0.State] 113]) a63 hE63 => wpList_nil ?_
  clear hE60 hE61
  clear a60 a61
  refine then_normal ?_
  refine wp_ret ?_
  refine finC hE63 hS62 rfl rfl (k := 6) rfl agg119 rfl ?_
  rw [hM]
  exact ⟨_, _, rfl, hS62.below, Tx_own (x := (Tx.mk p0.Id p0.Age p0.Proc p0.Began (laws_toCallS p0.Calls) (laws_toAnswerS p0.Answers) (laws_toTouch p0.Touch) (laws_toIntS p0.Marks) p0.State)) hg90000_0 hg90000_1 hg90000_2 hg90000_3 (hS62.slO (k := 4) rfl) (hS62.slO (k := 3) rfl) (hS62.slO (k := 1) rfl) (hS62.slO (k := 2) rfl) (hS62.slO (k := 0) rfl) hg90000_9, (nd_app (hS62.nd (k := 4) rfl) (nd_app (hS62.nd (k := 3) rfl) (nd_app (nd_app (hS62.nd (k := 1) rfl) (hS62.nd (k := 2) rfl) (hS62.dj (i := 1) (j := 2) rfl rfl (by decide))) (nd_app (hS62.nd (k := 0) rfl) List.nodup_nil dj_nil) (fun b hb => (List.mem_append.1 hb).elim ((dj_app (hS62.dj (i := 1) (j := 0) rfl rfl (by decide)) dj_nil) b) ((dj_app (hS62.dj (i := 2) (j := 0) rfl rfl (by decide)) dj_nil) b))) (dj_app (dj_app (hS62.dj (i := 3) (j := 1) rfl rfl (by decide)) (hS62.dj (i := 3) (j := 2) rfl rfl (by decide))) (dj_app (hS62.dj (i := 3) (j := 0) rfl rfl (by decide)) dj_nil))) (dj_app (hS62.dj (i := 4) (j := 3) rfl rfl (by decide)) (dj_app (dj_app (hS62.dj (i := 4) (j := 1) rfl rfl (by decide)) (hS62.dj (i := 4) (j := 2) rfl rfl (by decide))) (dj_app (hS62.dj (i := 4) (j := 0) rfl rfl (by decide)) dj_nil)))), (ge_app (hS62.ge' (k := 4) rfl) (ge_app (hS62.ge' (k := 3) rfl) (ge_app (ge_app (hS62.ge' (k := 1) rfl) (hS62.ge' (k := 2) rfl)) (ge_app (hS62.ge' (k := 0) rfl) ge_nil))))⟩

/- F50 loop.example/g00974/laws.toTxS -/
def laws_toTxS_l1 (p0 : List Tx) : Nat → Nat → List Tx → List Tx
  | 0, i1, y1_0 => y1_0
  | fu1 + 1, i1, y1_0 => laws_toTxS_l1 p0 fu1 (i1 + 1) (y1_0 ++ [(laws_toTx (nth p0 i1))])
def laws_toTxS (p0 : List Tx) : List Tx := laws_toTxS_l1 p0 (p0.length - 0) 0 []
theorem c_laws_toTxS {v0 : Value} (p0 : List Tx) {w : World} (hp0 : SlR (Old w) w v0 p0) (hsm0 : Dat.small 1048576 p0) :
    Calls Try.prog 50 [v0].toArray w (fun e w' => ∃ v F, e = .returned v ∧ Below w.heap.size w w' ∧ SlO w' v (laws_toTxS p0) F ∧ F.Nodup ∧ ∀ b ∈ F, w.heap.size ≤ b) := by
  have hln0 : p0.length ≤ 1048576 := hsm0.1
  obtain ⟨A0, cap0, rfl, hx0⟩ := hp0.form
  refine enter Try.func50 rfl Try.ntmps50 (Nat.le_of_ble_eq_true rfl) ?_
  intro a0 hE0
  have hS0 := SH.start w
  have hM := laws_toTxS.eq_1 p0
  refine wp_seq (wp_region_lit ?_)
  refine st_val hE0 (y_assign hE0 rfl) rfl fun a1 hE1 => wpList_nil ?_
  clear hE0
  clear a0
  refine then_normal ?_
  refine wp_seq (wp_region_lit ?_)
  refine st_val hE1 (y_move hE1 rfl) rfl fun a2 hE2 => st_val hE2 (y_len_slice hE2 rfl sl43) rfl fun a3 hE3 => st_makeSlice (α := Tx) hE3 hS0 sl54 Try.zeroValue119 rfl rfl (by omega) (by omega) rfl fun g4 w4 hS4 a5 hE5 => st_val hE5 (y_assign hE5 rfl) rfl fun a6 hE6 => wpList_nil ?_
  clear hE1 hE2 hE3 hE5
  clear a1 a2 a3 a5
  refine then_normal ?_
  refine wp_seq (wp_seq (wp_region_lit ?_))
  refine st_val hE6 (y_assign hE6 rfl) rfl fun a7 hE7 => wpList_nil ?_
  clear hE6
  clear a6
  refine then_normal ?_
  refine wp_block (wp_loop_ghost (fun fu1 a w2 => ∃ (i1 : Nat) (y1_0 : List Tx) (Fy1_0 : List Nat), 0 ≤ i1 ∧ fu1 = p0.length - i1 ∧ y1_0.length = i1 ∧ i1 ≤ p0.length ∧ laws_toTxS p0 = laws_toTxS_l1 p0 fu1 i1 y1_0 ∧ Env 23 [(0, .slice A0 p0.length cap0), (3, .slice (some ⟨g4, 0, none⟩) p0.length p0.length), (4, .int .i64 (i1 : Int))] a ∧ SH (Old w) w w2 [Ck.fill (α := Tx) g4 p0.length 119 y1_0 Fy1_0]) (p0.length - 0) ⟨0, [], [g4], Nat.le_refl _, rfl, rfl, Nat.zero_le _, hM, hE7.weaken ⟨rfl, rfl, rfl, trivial⟩, hS4⟩ ?_)
  clear hM hE7 hS4
  rintro fu1 a8 w8 ⟨i1, y1_0, Fy1_0, hi1, hfu1, hy1_0, hz1_0, hM, hE8, hS8⟩
  refine wp_seq (wp_seq (wp_region_lit ?_))
  refine st_val hE8 (y_move hE8 rfl) rfl fun a9 hE9 => st_val hE9 (y_move hE9 rfl) rfl fun a10 hE10 => st_val hE10 (y_len_slice hE10 rfl sl43) rfl fun a11 hE11 => st_val hE11 (y_lss hE11 rfl rfl) rfl fun a12 hE12 => wpList_nil ?_
  clear hE8 hE9 hE10 hE11
  clear a8 a9 a10 a11
  refine then_normal ?_
  refine cond_split hE12 rfl (fun hb13 => ?_) (fun hb13 => ?_)
  ·
    have hlt1 : i1 < p0.length := by have := of_decide_eq_true hb13; omega
    obtain ⟨fu1, rfl⟩ : ∃ m, fu1 = m + 1 := ⟨fu1 - 1, by omega⟩
    have hM := hM.trans (laws_toTxS_l1.eq_2 _ _ _ _)
    refine wp_skip ?_
    refine then_normal ?_
    refine wp_seq (wp_block (wp_region_lit ?_))
    refine st_val hE12 (y_move hE12 rfl) rfl fun a14 hE14 => st_val hE14 (y_move hE14 rfl) rfl fun a15 hE15 => st_val hE15 (y_move hE15 rfl) rfl fun a16 hE16 => st_val hE16 (y_move hE16 rfl) rfl fun a17 hE17 => st_index hE17 hp0 rfl rfl rfl (by omega) sl43 rfl fun ad18 cs18 hr18 hc18 hl18 a19 hE19 => ?_
    obtain ⟨v18_4, v18_5, v18_6, v18_7, v18_8, rfl, hg18_0, hg18_1, hg18_2, hg18_3, hv18_4, hv18_5, hv18_6, hv18_7, hv18_8, hg18_9, _⟩ := Tx_open hr18
    obtain ⟨A18_4, cp18_4, rfl, hx18_4⟩ := hv18_4.form
    obtain ⟨A18_5, cp18_5, rfl, hx18_5⟩ := hv18_5.form
    obtain ⟨A18_6, cp18_6, rfl, hx18_6⟩ := hv18_6.form
    obtain ⟨A18_7, cp18_7, rfl, hx18_7⟩ := hv18_7.form
    obtain ⟨A18_8, cp18_8, rfl, hx18_8⟩ := hv18_8.form
    refine st_val hE19 (y_load_agg hE19 rfl (hS8.upc hc18 hl18) rfl rfl agg113) rfl fun a20 hE20 => st_callO (mk := fun cs => .agg cs.toArray) hE20 hS8 Try.func71 fb71 fn71 (c_laws_toTx (nth p0 i1) (hS8.upd hr18) (small_nth hsm0 (by omega))) rfl rfl fun cs21 F21 w21 hS21 a22 hE22 => st_val hE22 (y_indexAddr hE22 rfl rfl (by omega) (by omega) sl54) rfl fun a23 hE23 => st_fill (k := 0) (ys := y1_0) hE23 hS21 rfl (by omega) (by omega) rfl rfl rfl (chkAgg_size agg119) (hS21.oneO (k := 0) rfl) fun w24 (hS24 : SH (Old w) w w24 [Ck.fill (α := Tx) g4 p0.length 119 (y1_0 ++ [(laws_toTx (nth p0 i1))]) (Fy1_0 ++ F21)]) a25 hE25 => wpList_nil ?_
    clear hE12 hE14 hE15 hE16 hE17 hE19 hE20 hE22 hE23
    clear a12 a14 a15 a16 a17 a19 a20 a22 a23
    refine blk_normal ?_
    refine then_normal ?_
    refine wp_region_lit ?_
    refine st_val hE25 (y_move hE25 rfl) rfl fun a26 hE26 => st_val hE26 (y_add_in hE26 rfl rfl (m := ((i1 + 1 : Nat) : Int)) (by omega) (by omega) (by omega)) rfl fun a27 hE27 => st_val hE27 (y_assign hE27 rfl) rfl fun a28 hE28 => wpList_nil ?_
    clear hE25 hE26 hE27
    clear a25 a26 a27
    refine then_normal ⟨fu1, Nat.lt_succ_self _, (i1 + 1), y1_0 ++ [(laws_toTx (nth p0 i1))], Fy1_0 ++ F21, by omega, by omega, (by rw [List.length_append, hy1_0]; rfl), (by omega), hM, hE28.weaken ⟨rfl, rfl, rfl, trivial⟩, hS24⟩
  ·
    have hge1 : ¬ i1 < p0.length := by have := of_decide_eq_false hb13; omega
    obtain rfl : fu1 = 0 := by omega
    have hM := hM.trans (laws_toTxS_l1.eq_1 _ _ _)
    refine wp_exit ?_
    refine then_exit ?_
    refine then_exit ?_
    refine blk_exit ?_
    refine then_normal ?_
    refine wp_seq (wp_region_lit ?_)
    refine st_val hE12 (y_move hE12 rfl) rfl fun a29 hE29 => st_val hE29 (y_assign hE29 rfl) rfl fun a30 hE30 => wpList_nil ?_
    clear hE12 hE29
    clear a12 a29
    refine then_normal ?_
    refine wp_ret ?_
    have hS31 := hS8.conv (k := 0) rfl (Ck.own [.slice (some ⟨g4, 0, none⟩) p0.length p0.length] y1_0 Fy1_0) rfl (fill_own (by omega) (by unfold maxLen; omega))
    refine fin1 hE30 rfl rfl ?_
    rw [hM]
    exact ⟨_, _, rfl, hS31.below, hS31.slO (k := 0) rfl, hS31.nd (k := 0) rfl, hS31.ge' (k := 0) rfl⟩

/- F97 loop.example/g00974/laws.toSlot -/
def laws_toSlot (p0 : Slot) : Slot := (Slot.mk p0.Seq (laws_toCellS p0.Cells) p0.Whole)
theorem c_laws_toSlot {c0 : List Value} (p0 : Slot) {w : World} (hp0 : Dat.rd (Old w) w c0 p0) (hsm0 : Dat.small 1048576 p0) :
    Calls Try.prog 97 [.agg c0.toArray].toArray w (fun e w' => ∃ cs F, e = .returned (.agg cs.toArray) ∧ Below w.heap.size w w' ∧ Dat.own w' cs (laws_toSlot p0) F ∧ F.Nodup ∧ ∀ b ∈ F, w.heap.size ≤ b) := by
  obtain ⟨v90000_1, rfl, hg90000_0, hv90000_1, _⟩ := Slot_open hp0
  obtain ⟨A90000_1, cp90000_1, rfl, hx90000_1⟩ := hv90000_1.form
  refine enter Try.func97 rfl Try.ntmps97 (Nat.le_of_ble_eq_true rfl) ?_
  intro a0 hE0
  have hS0 := SH.start w
  have hM := laws_toSlot.eq_1 p0
  refine wp_seq (wp_region_lit ?_)
  refine st_box hE0 hS0 rfl rfl rfl fun b1 w1 hS1 a2 hE2 => st_alloc hE2 hS1 Try.zeroValue150 rfl rfl fun b3 w3 hS3 a4 hE4 => wpList_nil ?_
  clear hE0 hE2
  clear a0 a2
  refine then_normal ?_
  refine wp_seq (wp_region_lit ?_)
  refine st_alloc hE4 hS3 Try.zeroValue150 rfl rfl fun b5 w5 hS5 a6 hE6 => wpList_nil ?_
  clear hE4
  clear a4
  refine then_normal ?_
  refine wp_seq (wp_region_lit ?_)
  refine st_val hE6 (y_fieldAddr hE6 rfl fa145_0 rfl) rfl fun a7 hE7 => st_val hE7 (y_load_one hE7 rfl (hS5.cells (k := 2) rfl) rfl one3) rfl fun a8 hE8 => st_val hE8 (y_fieldAddr hE8 rfl fa150_0 rfl) rfl fun a9 hE9 => st_store hE9 hS5 [.int .i64 p0.Seq, .slice none 0 0, .bool false] rfl rfl (k := 0) rfl rfl (chkOne_size one3) rfl rfl rfl rfl fun w10 (hS10 : SH (Old w) w w10 [Ck.var b5 [.int .i64 p0.Seq, .slice none 0 0, .bool false] 150, Ck.var b3 [.int .i64 0, .slice none 0 0, .bool false] 150, Ck.var b1 [.int .i64 p0.Seq, .slice A90000_1 p0.Cells.length cp90000_1, .bool p0.Whole] 145]) a11 hE11 => wpList_nil ?_
  clear hE6 hE7 hE8 hE9
  clear a6 a7 a8 a9
  refine then_normal ?_
  refine wp_seq (wp_region_lit ?_)
  refine st_val hE11 (y_fieldAddr hE11 rfl fa145_1 rfl) rfl fun a12 hE12 => st_val hE12 (y_load_one hE12 rfl (hS10.cells (k := 2) rfl) rfl one42) rfl fun a13 hE13 => st_callS hE13 hS10 Try.func49 fb49 fn49 (c_laws_toCellS p0.Cells (hS10.up hv90000_1) hsm0.2.1) rfl rfl fun A14 cp14 F14 w14 hx14 hS14 a15 hE15 => st_val hE15 (y_fieldAddr hE15 rfl fa150_1 rfl) rfl fun a16 hE16 => st_store hE16 hS14 [.int .i64 p0.Seq, .slice A14 ((laws_toCellS p0.Cells).length) cp14, .bool false] rfl rfl (k := 1) rfl rfl (chkOne_size one53) rfl rfl rfl rfl fun w17 (hS17 : SH (Old w) w w17 [Ck.own (α := List Cell) [.slice A14 ((laws_toCellS p0.Cells).length) cp14] (laws_toCellS p0.Cells) F14, Ck.var b5 [.int .i64 p0.Seq, .slice A14 ((laws_toCellS p0.Cells).length) cp14, .bool false] 150, Ck.var b3 [.int .i64 0, .slice none 0 0, .bool false] 150, Ck.var b1 [.int .i64 p0.Seq, .slice A90000_1 p0.Cells.length cp90000_1, .bool p0.Whole] 145]) a18 hE18 => wpList_nil ?_
  clear hE11 hE12 hE13 hE15 hE16
  clear a11 a12 a13 a15 a16
  refine then_normal ?_
  refine wp_seq (wp_region_lit ?_)
  refine st_val hE18 (y_fieldAddr hE18 rfl fa145_2 rfl) rfl fun a19 hE19 => st_val hE19 (y_load_one hE19 rfl (hS17.cells (k := 3) rfl) rfl one4) rfl fun a20 hE20 => st_val hE20 (y_fieldAddr hE20 rfl fa150_2 rfl) rfl fun a21 hE21 => st_store hE21 hS17 [.int .i64 p0.Seq, .slice A14 ((laws_toCellS p0.Cells).length) cp14, .bool p0.Whole] rfl rfl (k := 1) rfl rfl (chkOne_size one4) rfl rfl rfl rfl fun w22 (hS22 : SH (Old w) w w22 [Ck.own (α := List Cell) [.slice A14 ((laws_toCellS p0.Cells).length) cp14] (laws_toCellS p0.Cells) F14, Ck.var b5 [.int .i64 p0.Seq, .slice A14 ((laws_toCellS p0.Cells).length) cp14, .bool p0.Whole] 150, Ck.var b3 [.int .i64 0, .slice none 0 0, .bool false] 150, Ck.var b1 [.int .i64 p0.Seq, .slice A90000_1 p0.Cells.length cp90000_1, .bool p0.Whole] 145]) a23 hE23 => wpList_nil ?_
  clear hE18 hE19 hE20 hE21
  clear a18 a19 a20 a21
  refine then_normal ?_
  refine wp_seq (wp_region_lit ?_)
  refine st_val hE23 (y_load_agg hE23 rfl (hS22.cells (k := 1) rfl) rfl rfl agg150) rfl fun a24 hE24 => st_store hE24 hS22 [.int .i64 p0.Seq, .slice A14 ((laws_toCellS p0.Cells).length) cp14, .bool p0.Whole] rfl rfl (k := 2) rfl rfl (chkAgg_size agg150) rfl rfl rfl rfl fun w25 (hS25 : SH (Old w) w w25 [Ck.own (α := List Cell) [.slice A14 ((laws_toCellS p0.Cells).length) cp14] (laws_toCellS p0.Cells) F14, Ck.var b5 [.int .i64 p0.Seq, .slice A14 ((laws_toCellS p0.Cells).length) cp14, .bool p0.Whole] 150, Ck.var b3 [.int .i64 p0.Seq, .slice A14 ((laws_toCellS p0.Cells).length) cp14, .bool p0.Whole] 150, Ck.var b1 [.int .i64 p0.Seq, .slice A90000_1 p0.Cells.length cp90000_1, .bool p0.Whole] 145]) a26 hE26 => wpList_nil ?_
  clear hE23 hE24
  clear a23 a24
  refine then_normal ?_
  refine wp_ret ?_
  refine finC hE26 hS25 rfl rfl (k := 2) rfl agg150 rfl ?_
  rw [hM]
  exact ⟨_, _, rfl, hS25.below, Slot_own (x := (Slot.mk p0.Seq (laws_toCellS p0.Cells) p0.Whole)) hg90000_0 (hS25.slO (k := 0) rfl), (nd_app (hS25.nd (k := 0) rfl) List.nodup_nil dj_nil), (ge_app (hS25.ge' (k := 0) rfl) ge_nil)⟩

/- F72 loop.example/g00974/laws.toSlotS -/
def laws_toSlotS_l1 (p0 : List Slot) : Nat → Nat → List Slot → List Slot
  | 0, i1, y1_0 => y1_0
  | fu1 + 1, i1, y1_0 => laws_toSlotS_l1 p0 fu1 (i1 + 1) (y1_0 ++ [(laws_toSlot (nth p0 i1))])
def laws_toSlotS (p0 : List Slot) : List Slot := laws_toSlotS_l1 p0 (p0.length - 0) 0 []
theorem c_laws_toSlotS {v0 : Value} (p0 : List Slot) {w : World} (hp0 : SlR (Old w) w v0 p0) (hsm0 : Dat.small 1048576 p0) :
    Calls Try.prog 72 [v0].toArray w (fun e w' => ∃ v F, e = .returned v ∧ Below w.heap.size w w' ∧ SlO w' v (laws_toSlotS p0) F ∧ F.Nodup ∧ ∀ b ∈ F, w.heap.size ≤ b) := by
  have hln0 : p0.length ≤ 1048576 := hsm0.1
  obtain ⟨A0, cap0, rfl, hx0⟩ := hp0.form
  refine enter Try.func72 rfl Try.ntmps72 (Nat.le_of_ble_eq_true rfl) ?_
  intro a0 hE0
  have hS0 := SH.start w
  have hM := laws_toSlotS.eq_1 p0
  refine wp_seq (wp_region_lit ?_)
  refine st_val hE0 (y_assign hE0 rfl) rfl fun a1 hE1 => wpList_nil ?_
  clear hE0
  clear a0
  refine then_normal ?_
  refine wp_seq (wp_region_lit ?_)
  refine st_val hE1 (y_move hE1 rfl) rfl fun a2 hE2 => st_val hE2 (y_len_slice hE2 rfl sl44) rfl fun a3 hE3 => st_makeSlice (α := Slot) hE3 hS0 sl55 Try.zeroValue150 rfl rfl (by omega) (by omega) rfl fun g4 w4 hS4 a5 hE5 => st_val hE5 (y_assign hE5 rfl) rfl fun a6 hE6 => wpList_nil ?_
  clear hE1 hE2 hE3 hE5
  clear a1 a2 a3 a5
  refine then_normal ?_
  refine wp_seq (wp_seq (wp_region_lit ?_))
  refine st_val hE6 (y_assign hE6 rfl) rfl fun a7 hE7 => wpList_nil ?_
  clear hE6
  clear a6
  refine then_normal ?_
  refine wp_block (wp_loop_ghost (fun fu1 a w2 => ∃ (i1 : Nat) (y1_0 : List Slot) (Fy1_0 : List Nat), 0 ≤ i1 ∧ fu1 = p0.length - i1 ∧ y1_0.length = i1 ∧ i1 ≤ p0.length ∧ laws_toSlotS p0 = laws_toSlotS_l1 p0 fu1 i1 y1_0 ∧ Env 23 [(0, .slice A0 p0.length cap0), (3, .slice (some ⟨g4, 0, none⟩) p0.length p0.length), (4, .int .i64 (i1 : Int))] a ∧ SH (Old w) w w2 [Ck.fill (α := Slot) g4 p0.length 150 y1_0 Fy1_0]) (p0.length - 0) ⟨0, [], [g4], Nat.le_refl _, rfl, rfl, Nat.zero_le _, hM, hE7.weaken ⟨rfl, rfl, rfl, trivial⟩, hS4⟩ ?_)
  clear hM hE7 hS4
  rintro fu1 a8 w8 ⟨i1, y1_0, Fy1_0, hi1, hfu1, hy1_0, hz1_0, hM, hE8, hS8⟩
  refine wp_seq (wp_seq (wp_region_lit ?_))
  refine st_val hE8 (y_move hE8 rfl) rfl fun a9 hE9 => st_val hE9 (y_move hE9 rfl) rfl fun a10 hE10 => st_val hE10 (y_len_slice hE10 rfl sl44) rfl fun a11 hE11 => st_val hE11 (y_lss hE11 rfl rfl) rfl fun a12 hE12 => wpList_nil ?_
  clear hE8 hE9 hE10 hE11
  clear a8 a9 a10 a11
  refine then_normal ?_
  refine cond_split hE12 rfl (fun hb13 => ?_) (fun hb13 => ?_)
  ·
    have hlt1 : i1 < p0.length := by have := of_decide_eq_true hb13; omega
    obtain ⟨fu1, rfl⟩ : ∃ m, fu1 = m + 1 := ⟨fu1 - 1, by omega⟩
    have hM := hM.trans (laws_toSlotS_l1.eq_2 _ _ _ _)
    refine wp_skip ?_
    refine then_normal ?_
    refine wp_seq (wp_block (wp_region_lit ?_))
    refine st_val hE12 (y_move hE12 rfl) rfl fun a14 hE14 => st_val hE14 (y_move hE14 rfl) rfl fun a15 hE15 => st_val hE15 (y_move hE15 rfl) rfl fun a16 hE16 => st_val hE16 (y_move hE16 rfl) rfl fun a17 hE17 => st_index hE17 hp0 rfl rfl rfl (by omega) sl44 rfl fun ad18 cs18 hr18 hc18 hl18 a19 hE19 => ?_
    obtain ⟨v18_1, rfl, hg18_0, hv18_1, _⟩ := Slot_open hr18
    obtain ⟨A18_1, cp18_1, rfl, hx18_1⟩ := hv18_1.form
    refine st_val hE19 (y_load_agg hE19 rfl (hS8.upc hc18 hl18) rfl rfl agg145) rfl fun a20 hE20 => st_callO (mk := fun cs => .agg cs.toArray) hE20 hS8 Try.func97 fb97 fn97 (c_laws_toSlot (nth p0 i1) (hS8.upd hr18) (small_nth hsm0 (by omega))) rfl rfl fun cs21 F21 w21 hS21 a22 hE22 => st_val hE22 (y_indexAddr hE22 rfl rfl (by omega) (by omega) sl55) rfl fun a23 hE23 => st_fill (k := 0) (ys := y1_0) hE23 hS21 rfl (by omega) (by omega) rfl rfl rfl (chkAgg_size agg150) (hS21.oneO (k := 0) rfl) fun w24 (hS24 : SH (Old w) w w24 [Ck.fill (α := Slot) g4 p0.length 150 (y1_0 ++ [(laws_toSlot (nth p0 i1))]) (Fy1_0 ++ F21)]) a25 hE25 => wpList_nil ?_
    clear hE12 hE14 hE15 hE16 hE17 hE19 hE20 hE22 hE23
    clear a12 a14 a15 a16 a17 a19 a20 a22 a23
    refine blk_normal ?_
    refine then_normal ?_
    refine wp_region_lit ?_
    refine st_val hE25 (y_move hE25 rfl) rfl fun a26 hE26 => st_val hE26 (y_add_in hE26 rfl rfl (m := ((i1 + 1 : Nat) : Int)) (by omega) (by omega) (by omega)) rfl fun a27 hE27 => st_val hE27 (y_assign hE27 rfl) rfl fun a28 hE28 => wpList_nil ?_
    clear hE25 hE26 hE27
    clear a25 a26 a27
    refine then_normal ⟨fu1, Nat.lt_succ_self _, (i1 + 1), y1_0 ++ [(laws_toSlot (nth p0 i1))], Fy1_0 ++ F21, by omega, by omega, (by rw [List.length_append, hy1_0]; rfl), (by omega), hM, hE28.weaken ⟨rfl, rfl, rfl, trivial⟩, hS24⟩
  ·
    have hge1 : ¬ i1 < p0.length := by have := of_decide_eq_false hb13; omega
    obtain rfl : fu1 = 0 := by omega
    have hM := hM.trans (laws_toSlotS_l1.eq_1 _ _ _)
    refine wp_exit ?_
    refine then_exit ?_
    refine then_exit ?_
    refine blk_exit ?_
    refine then_normal ?_
    refine wp_seq (wp_region_lit ?_)
    refine st_val hE12 (y_move hE12 rfl) rfl fun a29 hE29 => st_val hE29 (y_assign hE29 rfl) rfl fun a30 hE30 => wpList_nil ?_
    clear hE12 hE29
    clear a12 a29
    refine then_normal ?_
    refine wp_ret ?_
    have hS31 := hS8.conv (k := 0) rfl (Ck.own [.slice (some ⟨g4, 0, none⟩) p0.length p0.length] y1_0 Fy1_0) rfl (fill_own (by omega) (by unfold maxLen; omega))
    refine fin1 hE30 rfl rfl ?_
    rw [hM]
    exact ⟨_, _, rfl, hS31.below, hS31.slO (k := 0) rfl, hS31.nd (k := 0) rfl, hS31.ge' (k := 0) rfl⟩

/- F73 loop.example/g00974/laws.toJournal -/
def laws_toJournal (p0 : Journal) : Journal := p0
theorem c_laws_toJournal {c0 : List Value} (p0 : Journal) {w : World} (hp0 : Dat.rd (Old w) w c0 p0) :
    Calls Try.prog 73 [.agg c0.toArray].toArray w (fun e w' => ∃ cs F, e = .returned (.agg cs.toArray) ∧ Below w.heap.size w w' ∧ Dat.own w' cs (laws_toJournal p0) F ∧ F.Nodup ∧ ∀ b ∈ F, w.heap.size ≤ b) := by
  obtain ⟨rfl, hg90000_0, hg90000_1, _⟩ := Journal_open hp0
  refine enter Try.func73 rfl Try.ntmps73 (Nat.le_of_ble_eq_true rfl) ?_
  intro a0 hE0
  have hS0 := SH.start w
  have hM := laws_toJournal.eq_1 p0
  refine wp_seq (wp_region_lit ?_)
  refine st_box hE0 hS0 rfl rfl rfl fun b1 w1 hS1 a2 hE2 => st_alloc hE2 hS1 Try.zeroValue56 rfl rfl fun b3 w3 hS3 a4 hE4 => wpList_nil ?_
  clear hE0 hE2
  clear a0 a2
  refine then_normal ?_
  refine wp_seq (wp_region_lit ?_)
  refine st_alloc hE4 hS3 Try.zeroValue56 rfl rfl fun b5 w5 hS5 a6 hE6 => wpList_nil ?_
  clear hE4
  clear a4
  refine then_normal ?_
  refine wp_seq (wp_region_lit ?_)
  refine st_val hE6 (y_fieldAddr hE6 rfl fa46_0 rfl) rfl fun a7 hE7 => st_val hE7 (y_load_one hE7 rfl (hS5.cells (k := 2) rfl) rfl one9) rfl fun a8 hE8 => st_val hE8 (y_fieldAddr hE8 rfl fa56_0 rfl) rfl fun a9 hE9 => st_store hE9 hS5 [.string p0.Text, .int .i64 0] rfl rfl (k := 0) rfl rfl (chkOne_size one9) rfl rfl rfl rfl fun w10 (hS10 : SH (Old w) w w10 [Ck.var b5 [.string p0.Text, .int .i64 0] 56, Ck.var b3 [.string (⟨#[]⟩ : ByteArray), .int .i64 0] 56, Ck.var b1 [.string p0.Text, .int .i64 p0.Sure] 46]) a11 hE11 => wpList_nil ?_
  clear hE6 hE7 hE8 hE9
  clear a6 a7 a8 a9
  refine then_normal ?_
  refine wp_seq (wp_region_lit ?_)
  refine st_val hE11 (y_fieldAddr hE11 rfl fa46_1 rfl) rfl fun a12 hE12 => st_val hE12 (y_load_one hE12 rfl (hS10.cells (k := 2) rfl) rfl one3) rfl fun a13 hE13 => st_val hE13 (y_fieldAddr hE13 rfl fa56_1 rfl) rfl fun a14 hE14 => st_store hE14 hS10 [.string p0.Text, .int .i64 p0.Sure] rfl rfl (k := 0) rfl rfl (chkOne_size one3) rfl rfl rfl rfl fun w15 (hS15 : SH (Old w) w w15 [Ck.var b5 [.string p0.Text, .int .i64 p0.Sure] 56, Ck.var b3 [.string (⟨#[]⟩ : ByteArray), .int .i64 0] 56, Ck.var b1 [.string p0.Text, .int .i64 p0.Sure] 46]) a16 hE16 => wpList_nil ?_
  clear hE11 hE12 hE13 hE14
  clear a11 a12 a13 a14
  refine then_normal ?_
  refine wp_seq (wp_region_lit ?_)
  refine st_val hE16 (y_load_agg hE16 rfl (hS15.cells (k := 0) rfl) rfl rfl agg56) rfl fun a17 hE17 => st_store hE17 hS15 [.string p0.Text, .int .i64 p0.Sure] rfl rfl (k := 1) rfl rfl (chkAgg_size agg56) rfl rfl rfl rfl fun w18 (hS18 : SH (Old w) w w18 [Ck.var b5 [.string p0.Text, .int .i64 p0.Sure] 56, Ck.var b3 [.string p0.Text, .int .i64 p0.Sure] 56, Ck.var b1 [.string p0.Text, .int .i64 p0.Sure] 46]) a19 hE19 => wpList_nil ?_
  clear hE16 hE17
  clear a16 a17
  refine then_normal ?_
  refine wp_ret ?_
  refine finC hE19 hS18 rfl rfl (k := 1) rfl agg56 rfl ?_
  rw [hM]
  exact ⟨_, _, rfl, hS18.below, Journal_own (x := p0) hg90000_0 hg90000_1, List.nodup_nil, ge_nil⟩

/- F51 loop.example/g00974/laws.toDisk -/
def laws_toDisk (p0 : Disk) : Disk := (Disk.mk (laws_toSlotS p0.Slots) (laws_toJournal p0.Journal))
theorem c_laws_toDisk {c0 : List Value} (p0 : Disk) {w : World} (hp0 : Dat.rd (Old w) w c0 p0) (hsm0 : Dat.small 1048576 p0) :
    Calls Try.prog 51 [.agg c0.toArray].toArray w (fun e w' => ∃ cs F, e = .returned (.agg cs.toArray) ∧ Below w.heap.size w w' ∧ Dat.own w' cs (laws_toDisk p0) F ∧ F.Nodup ∧ ∀ b ∈ F, w.heap.size ≤ b) := by
  obtain ⟨v90000_0, rfl, hv90000_0, hg90000_1, hg90000_2, _⟩ := Disk_open hp0
  obtain ⟨A90000_0, cp90000_0, rfl, hx90000_0⟩ := hv90000_0.form
  refine enter Try.func51 rfl Try.ntmps51 (Nat.le_of_ble_eq_true rfl) ?_
  intro a0 hE0
  have hS0 := SH.start w
  have hM := laws_toDisk.eq_1 p0
  refine wp_seq (wp_region_lit ?_)
  refine st_box hE0 hS0 rfl rfl rfl fun b1 w1 hS1 a2 hE2 => st_alloc hE2 hS1 Try.zeroValue58 rfl rfl fun b3 w3 hS3 a4 hE4 => wpList_nil ?_
  clear hE0 hE2
  clear a0 a2
  refine then_normal ?_
  refine wp_seq (wp_region_lit ?_)
  refine st_alloc hE4 hS3 Try.zeroValue58 rfl rfl fun b5 w5 hS5 a6 hE6 => wpList_nil ?_
  clear hE4
  clear a4
  refine then_normal ?_
  refine wp_seq (wp_region_lit ?_)
  refine st_val hE6 (y_fieldAddr hE6 rfl fa48_0 rfl) rfl fun a7 hE7 => st_val hE7 (y_load_one hE7 rfl (hS5.cells (k := 2) rfl) rfl one44) rfl fun a8 hE8 => st_callS hE8 hS5 Try.func72 fb72 fn72 (c_laws_toSlotS p0.Slots (hS5.up hv90000_0) hsm0.1) rfl rfl fun A9 cp9 F9 w9 hx9 hS9 a10 hE10 => st_val hE10 (y_fieldAddr hE10 rfl fa58_0 rfl) rfl fun a11 hE11 => st_store hE11 hS9 [.slice A9 ((laws_toSlotS p0.Slots).length) cp9, .string (⟨#[]⟩ : ByteArray), .int .i64 0] rfl rfl (k := 1) rfl rfl (chkOne_size one55) rfl rfl rfl rfl fun w12 (hS12 : SH (Old w) w w12 [Ck.own (α := List Slot) [.slice A9 ((laws_toSlotS p0.Slots).length) cp9] (laws_toSlotS p0.Slots) F9, Ck.var b5 [.slice A9 ((laws_toSlotS p0.Slots).length) cp9, .string (⟨#[]⟩ : ByteArray), .int .i64 0] 58, Ck.var b3 [.slice none 0 0, .string (⟨#[]⟩ : ByteArray), .int .i64 0] 58, Ck.var b1 [.slice A90000_0 p0.Slots.length cp90000_0, .string p0.Journal.Text, .int .i64 p0.Journal.Sure] 48]) a13 hE13 => wpList_nil ?_
  clear hE6 hE7 hE8 hE10 hE11
  clear a6 a7 a8 a10 a11
  refine then_normal ?_
  refine wp_seq (wp_region_lit ?_)
  refine st_val hE13 (y_fieldAddr hE13 rfl fa48_1 rfl) rfl fun a14 hE14 => st_val hE14 (y_load_agg hE14 rfl (hS12.cells (k := 3) rfl) rfl rfl agg46) rfl fun a15 hE15 => st_callO (mk := fun cs => .agg cs.toArray) hE15 hS12 Try.func73 fb73 fn73 (c_laws_toJournal p0.Journal (hS12.upd (Journal_mk (x := p0.Journal) hg90000_1 hg90000_2))) rfl rfl fun cs16 F16 w16 hS16 a17 hE17 => ?_
  clear hE13 hE14 hE15
  clear a13 a14 a15
  obtain ⟨rfl, rfl, hg16_0, hg16_1, _⟩ := Journal_oopen (show Dat.own w16 cs16 (laws_toJournal p0.Journal) F16 from hS16.get (k := 0) rfl)
  refine st_val hE17 (y_fieldAddr hE17 rfl fa58_1 rfl) rfl fun a18 hE18 => st_store hE18 hS16 [.slice A9 ((laws_toSlotS p0.Slots).length) cp9, .string ((laws_toJournal p0.Journal).Text), .int .i64 ((laws_toJournal p0.Journal).Sure)] rfl rfl (k := 2) rfl rfl (chkAgg_size agg56) rfl rfl rfl rfl fun w19 (hS19 : SH (Old w) w w19 [Ck.own (α := Journal) [.string ((laws_toJournal p0.Journal).Text), .int .i64 ((laws_toJournal p0.Journal).Sure)] (laws_toJournal p0.Journal) [], Ck.own (α := List Slot) [.slice A9 ((laws_toSlotS p0.Slots).length) cp9] (laws_toSlotS p0.Slots) F9, Ck.var b5 [.slice A9 ((laws_toSlotS p0.Slots).length) cp9, .string ((laws_toJournal p0.Journal).Text), .int .i64 ((laws_toJournal p0.Journal).Sure)] 58, Ck.var b3 [.slice none 0 0, .string (⟨#[]⟩ : ByteArray), .int .i64 0] 58, Ck.var b1 [.slice A90000_0 p0.Slots.length cp90000_0, .string p0.Journal.Text, .int .i64 p0.Journal.Sure] 48]) a20 hE20 => wpList_nil ?_
  clear hE17 hE18
  clear a17 a18
  refine then_normal ?_
  refine wp_seq (wp_region_lit ?_)
  refine st_val hE20 (y_load_agg hE20 rfl (hS19.cells (k := 2) rfl) rfl rfl agg58) rfl fun a21 hE21 => st_store hE21 hS19 [.slice A9 ((laws_toSlotS p0.Slots).length) cp9, .string ((laws_toJournal p0.Journal).Text), .int .i64 ((laws_toJournal p0.Journal).Sure)] rfl rfl (k := 3) rfl rfl (chkAgg_size agg58) rfl rfl rfl rfl fun w22 (hS22 : SH (Old w) w w22 [Ck.own (α := Journal) [.string ((laws_toJournal p0.Journal).Text), .int .i64 ((laws_toJournal p0.Journal).Sure)] (laws_toJournal p0.Journal) [], Ck.own (α := List Slot) [.slice A9 ((laws_toSlotS p0.Slots).length) cp9] (laws_toSlotS p0.Slots) F9, Ck.var b5 [.slice A9 ((laws_toSlotS p0.Slots).length) cp9, .string ((laws_toJournal p0.Journal).Text), .int .i64 ((laws_toJournal p0.Journal).Sure)] 58, Ck.var b3 [.slice A9 ((laws_toSlotS p0.Slots).length) cp9, .string ((laws_toJournal p0.Journal).Text), .int .i64 ((laws_toJournal p0.Journal).Sure)] 58, Ck.var b1 [.slice A90000_0 p0.Slots.length cp90000_0, .string p0.Journal.Text, .int .i64 p0.Journal.Sure] 48]) a23 hE23 => wpList_nil ?_
  clear hE20 hE21
  clear a20 a21
  refine then_normal ?_
  refine wp_ret ?_
  refine finC hE23 hS22 rfl rfl (k := 3) rfl agg58 rfl ?_
  rw [hM]
  exact ⟨_, _, rfl, hS22.below, Disk_own (x := (Disk.mk (laws_toSlotS p0.Slots) (laws_toJournal p0.Journal))) (hS22.slO (k := 1) rfl) hg16_0 hg16_1, (nd_app (hS22.nd (k := 1) rfl) List.nodup_nil dj_nil), (ge_app (hS22.ge' (k := 1) rfl) ge_nil)⟩

/- F31 loop.example/g00974/laws.toKernel -/
def laws_toKernel (p0 : Kernel) : Kernel := (Kernel.mk (laws_toCellS p0.Store) (laws_toTxS p0.Txs) (Disk.mk ((laws_toDisk p0.Disk).Slots) (Journal.mk ((laws_toDisk p0.Disk).Journal.Text) ((laws_toDisk p0.Disk).Journal.Sure))) p0.Seq p0.Next p0.Time (laws_toEntryS p0.History) (laws_toStringS p0.Seen) p0.Room)
theorem c_laws_toKernel {c0 : List Value} (p0 : Kernel) {w : World} (hp0 : Dat.rd (Old w) w c0 p0) (hsm0 : Dat.small 1048576 p0) :
    Calls Try.prog 31 [.agg c0.toArray].toArray w (fun e w' => ∃ cs F, e = .returned (.agg cs.toArray) ∧ Below w.heap.size w w' ∧ Dat.own w' cs (laws_toKernel p0) F ∧ F.Nodup ∧ ∀ b ∈ F, w.heap.size ≤ b) := by
  obtain ⟨v90000_0, v90000_1, v90000_2, v90000_8, v90000_9, rfl, hv90000_0, hv90000_1, hv90000_2, hg90000_3, hg90000_4, hg90000_5, hg90000_6, hg90000_7, hv90000_8, hv90000_9, _⟩ := Kernel_open hp0
  obtain ⟨A90000_0, cp90000_0, rfl, hx90000_0⟩ := hv90000_0.form
  obtain ⟨A90000_1, cp90000_1, rfl, hx90000_1⟩ := hv90000_1.form
  obtain ⟨A90000_2, cp90000_2, rfl, hx90000_2⟩ := hv90000_2.form
  obtain ⟨A90000_8, cp90000_8, rfl, hx90000_8⟩ := hv90000_8.form
  obtain ⟨A90000_9, cp90000_9, rfl, hx90000_9⟩ := hv90000_9.form
  refine enter Try.func31 rfl Try.ntmps31 (Nat.le_of_ble_eq_true rfl) ?_
  intro a0 hE0
  have hS0 := SH.start w
  have hM := laws_toKernel.eq_1 p0
  refine wp_seq (wp_region_lit ?_)
  refine st_box hE0 hS0 rfl rfl rfl fun b1 w1 hS1 a2 hE2 => st_alloc hE2 hS1 Try.zeroValue60 rfl rfl fun b3 w3 hS3 a4 hE4 => wpList_nil ?_
  clear hE0 hE2
  clear a0 a2
  refine then_normal ?_
  refine wp_seq (wp_region_lit ?_)
  refine st_alloc hE4 hS3 Try.zeroValue60 rfl rfl fun b5 w5 hS5 a6 hE6 => wpList_nil ?_
  clear hE4
  clear a4
  refine then_normal ?_
  refine wp_seq (wp_region_lit ?_)
  refine st_val hE6 (y_fieldAddr hE6 rfl fa50_0 rfl) rfl fun a7 hE7 => st_val hE7 (y_load_one hE7 rfl (hS5.cells (k := 2) rfl) rfl one42) rfl fun a8 hE8 => st_callS hE8 hS5 Try.func49 fb49 fn49 (c_laws_toCellS p0.Store (hS5.up hv90000_0) hsm0.1) rfl rfl fun A9 cp9 F9 w9 hx9 hS9 a10 hE10 => st_val hE10 (y_fieldAddr hE10 rfl fa60_0 rfl) rfl fun a11 hE11 => st_store hE11 hS9 [.slice A9 ((laws_toCellS p0.Store).length) cp9, .slice none 0 0, .slice none 0 0, .string (⟨#[]⟩ : ByteArray), .int .i64 0, .int .i64 0, .int .i64 0, .int .i64 0, .slice none 0 0, .slice none 0 0, .bool false] rfl rfl (k := 1) rfl rfl (chkOne_size one53) rfl rfl rfl rfl fun w12 (hS12 : SH (Old w) w w12 [Ck.own (α := List Cell) [.slice A9 ((laws_toCellS p0.Store).length) cp9] (laws_toCellS p0.Store) F9, Ck.var b5 [.slice A9 ((laws_toCellS p0.Store).length) cp9, .slice none 0 0, .slice none 0 0, .string (⟨#[]⟩ : ByteArray), .int .i64 0, .int .i64 0, .int .i64 0, .int .i64 0, .slice none 0 0, .slice none 0 0, .bool false] 60, Ck.var b3 [.slice none 0 0, .slice none 0 0, .slice none 0 0, .string (⟨#[]⟩ : ByteArray), .int .i64 0, .int .i64 0, .int .i64 0, .int .i64 0, .slice none 0 0, .slice none 0 0, .bool false] 60, Ck.var b1 [.slice A90000_0 p0.Store.length cp90000_0, .slice A90000_1 p0.Txs.length cp90000_1, .slice A90000_2 p0.Disk.Slots.length cp90000_2, .string p0.Disk.Journal.Text, .int .i64 p0.Disk.Journal.Sure, .int .i64 p0.Seq, .int .i64 p0.Next, .int .i64 p0.Time, .slice A90000_8 p0.History.length cp90000_8, .slice A90000_9 p0.Seen.length cp90000_9, .bool p0.Room] 50]) a13 hE13 => wpList_nil ?_
  clear hE6 hE7 hE8 hE10 hE11
  clear a6 a7 a8 a10 a11
  refine then_normal ?_
  refine wp_seq (wp_region_lit ?_)
  refine st_val hE13 (y_fieldAddr hE13 rfl fa50_1 rfl) rfl fun a14 hE14 => st_val hE14 (y_load_one hE14 rfl (hS12.cells (k := 3) rfl) rfl one43) rfl fun a15 hE15 => st_callS hE15 hS12 Try.func50 fb50 fn50 (c_laws_toTxS p0.Txs (hS12.up hv90000_1) hsm0.2.1) rfl rfl fun A16 cp16 F16 w16 hx16 hS16 a17 hE17 => st_val hE17 (y_fieldAddr hE17 rfl fa60_1 rfl) rfl fun a18 hE18 => st_store hE18 hS16 [.slice A9 ((laws_toCellS p0.Store).length) cp9, .slice A16 ((laws_toTxS p0.Txs).length) cp16, .slice none 0 0, .string (⟨#[]⟩ : ByteArray), .int .i64 0, .int .i64 0, .int .i64 0, .int .i64 0, .slice none 0 0, .slice none 0 0, .bool false] rfl rfl (k := 2) rfl rfl (chkOne_size one54) rfl rfl rfl rfl fun w19 (hS19 : SH (Old w) w w19 [Ck.own (α := List Tx) [.slice A16 ((laws_toTxS p0.Txs).length) cp16] (laws_toTxS p0.Txs) F16, Ck.own (α := List Cell) [.slice A9 ((laws_toCellS p0.Store).length) cp9] (laws_toCellS p0.Store) F9, Ck.var b5 [.slice A9 ((laws_toCellS p0.Store).length) cp9, .slice A16 ((laws_toTxS p0.Txs).length) cp16, .slice none 0 0, .string (⟨#[]⟩ : ByteArray), .int .i64 0, .int .i64 0, .int .i64 0, .int .i64 0, .slice none 0 0, .slice none 0 0, .bool false] 60, Ck.var b3 [.slice none 0 0, .slice none 0 0, .slice none 0 0, .string (⟨#[]⟩ : ByteArray), .int .i64 0, .int .i64 0, .int .i64 0, .int .i64 0, .slice none 0 0, .slice none 0 0, .bool false] 60, Ck.var b1 [.slice A90000_0 p0.Store.length cp90000_0, .slice A90000_1 p0.Txs.length cp90000_1, .slice A90000_2 p0.Disk.Slots.length cp90000_2, .string p0.Disk.Journal.Text, .int .i64 p0.Disk.Journal.Sure, .int .i64 p0.Seq, .int .i64 p0.Next, .int .i64 p0.Time, .slice A90000_8 p0.History.length cp90000_8, .slice A90000_9 p0.Seen.length cp90000_9, .bool p0.Room] 50]) a20 hE20 => wpList_nil ?_
  clear hE13 hE14 hE15 hE17 hE18
  clear a13 a14 a15 a17 a18
  refine then_normal ?_
  refine wp_seq (wp_region_lit ?_)
  refine st_val hE20 (y_fieldAddr hE20 rfl fa50_2 rfl) rfl fun a21 hE21 => st_val hE21 (y_load_agg hE21 rfl (hS19.cells (k := 4) rfl) rfl rfl agg48) rfl fun a22 hE22 => st_callO (mk := fun cs => .agg cs.toArray) hE22 hS19 Try.func51 fb51 fn51 (c_laws_toDisk p0.Disk (hS19.upd (Disk_mk (x := p0.Disk) hv90000_2 hg90000_3 hg90000_4)) hsm0.2.2.1) rfl rfl fun cs23 F23 w23 hS23 a24 hE24 => ?_
  clear hE20 hE21 hE22
  clear a20 a21 a22
  obtain ⟨v23_0, F23_0, rfl, rfl, ho23_0, hg23_1, hg23_2, _⟩ := Disk_oopen (show Dat.own w23 cs23 (laws_toDisk p0.Disk) F23 from hS23.get (k := 0) rfl)
  obtain ⟨A23_0, cp23_0, rfl, hx23_0⟩ := ho23_0.form
  have hS25 := hS23.split [Ck.own (α := List Slot) [.slice A23_0 ((laws_toDisk p0.Disk).Slots.length) cp23_0] ((laws_toDisk p0.Disk).Slots) F23_0] (by simp only [Ck.own, List.flatMap_cons, List.flatMap_nil, List.append_nil, List.append_assoc]) (oks_cons (ok_sl ho23_0) oks_nil)
  simp only [List.cons_append, List.nil_append] at hS25
  refine st_val hE24 (y_fieldAddr hE24 rfl fa60_2 rfl) rfl fun a26 hE26 => st_store hE26 hS25 [.slice A9 ((laws_toCellS p0.Store).length) cp9, .slice A16 ((laws_toTxS p0.Txs).length) cp16, .slice A23_0 ((laws_toDisk p0.Disk).Slots.length) cp23_0, .string ((laws_toDisk p0.Disk).Journal.Text), .int .i64 ((laws_toDisk p0.Disk).Journal.Sure), .int .i64 0, .int .i64 0, .int .i64 0, .slice none 0 0, .slice none 0 0, .bool false] rfl rfl (k := 3) rfl rfl (chkAgg_size agg58) rfl rfl rfl rfl fun w27 (hS27 : SH (Old w) w w27 [Ck.own (α := List Slot) [.slice A23_0 ((laws_toDisk p0.Disk).Slots.length) cp23_0] ((laws_toDisk p0.Disk).Slots) F23_0, Ck.own (α := List Tx) [.slice A16 ((laws_toTxS p0.Txs).length) cp16] (laws_toTxS p0.Txs) F16, Ck.own (α := List Cell) [.slice A9 ((laws_toCellS p0.Store).length) cp9] (laws_toCellS p0.Store) F9, Ck.var b5 [.slice A9 ((laws_toCellS p0.Store).length) cp9, .slice A16 ((laws_toTxS p0.Txs).length) cp16, .slice A23_0 ((laws_toDisk p0.Disk).Slots.length) cp23_0, .string ((laws_toDisk p0.Disk).Journal.Text), .int .i64 ((laws_toDisk p0.Disk).Journal.Sure), .int .i64 0, .int .i64 0, .int .i64 0, .slice none 0 0, .slice none 0 0, .bool false] 60, Ck.var b3 [.slice none 0 0, .slice none 0 0, .slice none 0 0, .string (⟨#[]⟩ : ByteArray), .int .i64 0, .int .i64 0, .int .i64 0, .int .i64 0, .slice none 0 0, .slice none 0 0, .bool false] 60, Ck.var b1 [.slice A90000_0 p0.Store.length cp90000_0, .slice A90000_1 p0.Txs.length cp90000_1, .slice A90000_2 p0.Disk.Slots.length cp90000_2, .string p0.Disk.Journal.Text, .int .i64 p0.Disk.Journal.Sure, .int .i64 p0.Seq, .int .i64 p0.Next, .int .i64 p0.Time, .slice A90000_8 p0.History.length cp90000_8, .slice A90000_9 p0.Seen.length cp90000_9, .bool p0.Room] 50]) a28 hE28 => wpList_nil ?_
  clear hE24 hE26
  clear a24 a26
  refine then_normal ?_
  refine wp_seq (wp_region_lit ?_)
  refine st_val hE28 (y_fieldAddr hE28 rfl fa50_3 rfl) rfl fun a29 hE29 => st_val hE29 (y_load_one hE29 rfl (hS27.cells (k := 5) rfl) rfl one3) rfl fun a30 hE30 => st_val hE30 (y_fieldAddr hE30 rfl fa60_3 rfl) rfl fun a31 hE31 => st_store hE31 hS27 [.slice A9 ((laws_toCellS p0.Store).length) cp9, .slice A16 ((laws_toTxS p0.Txs).length) cp16, .slice A23_0 ((laws_toDisk p0.Disk).Slots.length) cp23_0, .string ((laws_toDisk p0.Disk).Journal.Text), .int .i64 ((laws_toDisk p0.Disk).Journal.Sure), .int .i64 p0.Seq, .int .i64 0, .int .i64 0, .slice none 0 0, .slice none 0 0, .bool false] rfl rfl (k := 3) rfl rfl (chkOne_size one3) rfl rfl rfl rfl fun w32 (hS32 : SH (Old w) w w32 [Ck.own (α := List Slot) [.slice A23_0 ((laws_toDisk p0.Disk).Slots.length) cp23_0] ((laws_toDisk p0.Disk).Slots) F23_0, Ck.own (α := List Tx) [.slice A16 ((laws_toTxS p0.Txs).length) cp16] (laws_toTxS p0.Txs) F16, Ck.own (α := List Cell) [.slice A9 ((laws_toCellS p0.Store).length) cp9] (laws_toCellS p0.Store) F9, Ck.var b5 [.slice A9 ((laws_toCellS p0.Store).length) cp9, .slice A16 ((laws_toTxS p0.Txs).length) cp16, .slice A23_0 ((laws_toDisk p0.Disk).Slots.length) cp23_0, .string ((laws_toDisk p0.Disk).Journal.Text), .int .i64 ((laws_toDisk p0.Disk).Journal.Sure), .int .i64 p0.Seq, .int .i64 0, .int .i64 0, .slice none 0 0, .slice none 0 0, .bool false] 60, Ck.var b3 [.slice none 0 0, .slice none 0 0, .slice none 0 0, .string (⟨#[]⟩ : ByteArray), .int .i64 0, .int .i64 0, .int .i64 0, .int .i64 0, .slice none 0 0, .slice none 0 0, .bool false] 60, Ck.var b1 [.slice A90000_0 p0.Store.length cp90000_0, .slice A90000_1 p0.Txs.length cp90000_1, .slice A90000_2 p0.Disk.Slots.length cp90000_2, .string p0.Disk.Journal.Text, .int .i64 p0.Disk.Journal.Sure, .int .i64 p0.Seq, .int .i64 p0.Next, .int .i64 p0.Time, .slice A90000_8 p0.History.length cp90000_8, .slice A90000_9 p0.Seen.length cp90000_9, .bool p0.Room] 50]) a33 hE33 => wpList_nil ?_
  clear hE28 hE29 hE30 hE31
  clear a28 a29 a30 a31
  refine then_normal ?_
  refine wp_seq (wp_region_lit ?_)
  refine st_val hE33 (y_fieldAddr hE33 rfl fa50_4 rfl) rfl fun a34 hE34 => st_val hE34 (y_load_one hE34 rfl (hS32.cells (k := 5) rfl) rfl one3) rfl fun a35 hE35 => st_val hE35 (y_fieldAddr hE35 rfl fa60_4 rfl) rfl fun a36 hE36 => st_store hE36 hS32 [.slice A9 ((laws_toCellS p0.Store).length) cp9, .slice A16 ((laws_toTxS p0.Txs).length) cp16, .slice A23_0 ((laws_toDisk p0.Disk).Slots.length) cp23_0, .string ((laws_toDisk p0.Disk).Journal.Text), .int .i64 ((laws_toDisk p0.Disk).Journal.Sure), .int .i64 p0.Seq, .int .i64 p0.Next, .int .i64 0, .slice none 0 0, .slice none 0 0, .bool false] rfl rfl (k := 3) rfl rfl (chkOne_size one3) rfl rfl rfl rfl fun w37 (hS37 : SH (Old w) w w37 [Ck.own (α := List Slot) [.slice A23_0 ((laws_toDisk p0.Disk).Slots.length) cp23_0] ((laws_toDisk p0.Disk).Slots) F23_0, Ck.own (α := List Tx) [.slice A16 ((laws_toTxS p0.Txs).length) cp16] (laws_toTxS p0.Txs) F16, Ck.own (α := List Cell) [.slice A9 ((laws_toCellS p0.Store).length) cp9] (laws_toCellS p0.Store) F9, Ck.var b5 [.slice A9 ((laws_toCellS p0.Store).length) cp9, .slice A16 ((laws_toTxS p0.Txs).length) cp16, .slice A23_0 ((laws_toDisk p0.Disk).Slots.length) cp23_0, .string ((laws_toDisk p0.Disk).Journal.Text), .int .i64 ((laws_toDisk p0.Disk).Journal.Sure), .int .i64 p0.Seq, .int .i64 p0.Next, .int .i64 0, .slice none 0 0, .slice none 0 0, .bool false] 60, Ck.var b3 [.slice none 0 0, .slice none 0 0, .slice none 0 0, .string (⟨#[]⟩ : ByteArray), .int .i64 0, .int .i64 0, .int .i64 0, .int .i64 0, .slice none 0 0, .slice none 0 0, .bool false] 60, Ck.var b1 [.slice A90000_0 p0.Store.length cp90000_0, .slice A90000_1 p0.Txs.length cp90000_1, .slice A90000_2 p0.Disk.Slots.length cp90000_2, .string p0.Disk.Journal.Text, .int .i64 p0.Disk.Journal.Sure, .int .i64 p0.Seq, .int .i64 p0.Next, .int .i64 p0.Time, .slice A90000_8 p0.History.length cp90000_8, .slice A90000_9 p0.Seen.length cp90000_9, .bool p0.Room] 50]) a38 hE38 => wpList_nil ?_
  clear hE33 hE34 hE35 hE36
  clear a33 a34 a35 a36
  refine then_normal ?_
  refine wp_seq (wp_region_lit ?_)
  refine st_val hE38 (y_fieldAddr hE38 rfl fa50_5 rfl) rfl fun a39 hE39 => st_val hE39 (y_load_one hE39 rfl (hS37.cells (k := 5) rfl) rfl one3) rfl fun a40 hE40 => st_val hE40 (y_fieldAddr hE40 rfl fa60_5 rfl) rfl fun a41 hE41 => st_store hE41 hS37 [.slice A9 ((laws_toCellS p0.Store).length) cp9, .slice A16 ((laws_toTxS p0.Txs).length) cp16, .slice A23_0 ((laws_toDisk p0.Disk).Slots.length) cp23_0, .string ((laws_toDisk p0.Disk).Journal.Text), .int .i64 ((laws_toDisk p0.Disk).Journal.Sure), .int .i64 p0.Seq, .int .i64 p0.Next, .int .i64 p0.Time, .slice none 0 0, .slice none 0 0, .bool false] rfl rfl (k := 3) rfl rfl (chkOne_size one3) rfl rfl rfl rfl fun w42 (hS42 : SH (Old w) w w42 [Ck.own (α := List Slot) [.slice A23_0 ((laws_toDisk p0.Disk).Slots.length) cp23_0] ((laws_toDisk p0.Disk).Slots) F23_0, Ck.own (α := List Tx) [.slice A16 ((laws_toTxS p0.Txs).length) cp16] (laws_toTxS p0.Txs) F16, Ck.own (α := List Cell) [.slice A9 ((laws_toCellS p0.Store).length) cp9] (laws_toCellS p0.Store) F9, Ck.var b5 [.slice A9 ((laws_toCellS p0.Store).length) cp9, .slice A16 ((laws_toTxS p0.Txs).length) cp16, .slice A23_0 ((laws_toDisk p0.Disk).Slots.length) cp23_0, .string ((laws_toDisk p0.Disk).Journal.Text), .int .i64 ((laws_toDisk p0.Disk).Journal.Sure), .int .i64 p0.Seq, .int .i64 p0.Next, .int .i64 p0.Time, .slice none 0 0, .slice none 0 0, .bool false] 60, Ck.var b3 [.slice none 0 0, .slice none 0 0, .slice none 0 0, .string (⟨#[]⟩ : ByteArray), .int .i64 0, .int .i64 0, .int .i64 0, .int .i64 0, .slice none 0 0, .slice none 0 0, .bool false] 60, Ck.var b1 [.slice A90000_0 p0.Store.length cp90000_0, .slice A90000_1 p0.Txs.length cp90000_1, .slice A90000_2 p0.Disk.Slots.length cp90000_2, .string p0.Disk.Journal.Text, .int .i64 p0.Disk.Journal.Sure, .int .i64 p0.Seq, .int .i64 p0.Next, .int .i64 p0.Time, .slice A90000_8 p0.History.length cp90000_8, .slice A90000_9 p0.Seen.length cp90000_9, .bool p0.Room] 50]) a43 hE43 => wpList_nil ?_
  clear hE38 hE39 hE40 hE41
  clear a38 a39 a40 a41
  refine then_normal ?_
  refine wp_seq (wp_region_lit ?_)
  refine st_val hE43 (y_fieldAddr hE43 rfl fa50_6 rfl) rfl fun a44 hE44 => st_val hE44 (y_load_one hE44 rfl (hS42.cells (k := 5) rfl) rfl one24) rfl fun a45 hE45 => st_callS hE45 hS42 Try.func13 fb13 fn13 (c_laws_toEntryS p0.History (hS42.up hv90000_8) hsm0.2.2.2.2.2.2.1) rfl rfl fun A46 cp46 F46 w46 hx46 hS46 a47 hE47 => st_val hE47 (y_fieldAddr hE47 rfl fa60_6 rfl) rfl fun a48 hE48 => st_store hE48 hS46 [.slice A9 ((laws_toCellS p0.Store).length) cp9, .slice A16 ((laws_toTxS p0.Txs).length) cp16, .slice A23_0 ((laws_toDisk p0.Disk).Slots.length) cp23_0, .string ((laws_toDisk p0.Disk).Journal.Text), .int .i64 ((laws_toDisk p0.Disk).Journal.Sure), .int .i64 p0.Seq, .int .i64 p0.Next, .int .i64 p0.Time, .slice A46 ((laws_toEntryS p0.History).length) cp46, .slice none 0 0, .bool false] rfl rfl (k := 4) rfl rfl (chkOne_size one27) rfl rfl rfl rfl fun w49 (hS49 : SH (Old w) w w49 [Ck.own (α := List Entry) [.slice A46 ((laws_toEntryS p0.History).length) cp46] (laws_toEntryS p0.History) F46, Ck.own (α := List Slot) [.slice A23_0 ((laws_toDisk p0.Disk).Slots.length) cp23_0] ((laws_toDisk p0.Disk).Slots) F23_0, Ck.own (α := List Tx) [.slice A16 ((laws_toTxS p0.Txs).length) cp16] (laws_toTxS p0.Txs) F16, Ck.own (α := List Cell) [.slice A9 ((laws_toCellS p0.Store).length) cp9] (laws_toCellS p0.Store) F9, Ck.var b5 [.slice A9 ((laws_toCellS p0.Store).length) cp9, .slice A16 ((laws_toTxS p0.Txs).length) cp16, .slice A23_0 ((laws_toDisk p0.Disk).Slots.length) cp23_0, .string ((laws_toDisk p0.Disk).Journal.Text), .int .i64 ((laws_toDisk p0.Disk).Journal.Sure), .int .i64 p0.Seq, .int .i64 p0.Next, .int .i64 p0.Time, .slice A46 ((laws_toEntryS p0.History).length) cp46, .slice none 0 0, .bool false] 60, Ck.var b3 [.slice none 0 0, .slice none 0 0, .slice none 0 0, .string (⟨#[]⟩ : ByteArray), .int .i64 0, .int .i64 0, .int .i64 0, .int .i64 0, .slice none 0 0, .slice none 0 0, .bool false] 60, Ck.var b1 [.slice A90000_0 p0.Store.length cp90000_0, .slice A90000_1 p0.Txs.length cp90000_1, .slice A90000_2 p0.Disk.Slots.length cp90000_2, .string p0.Disk.Journal.Text, .int .i64 p0.Disk.Journal.Sure, .int .i64 p0.Seq, .int .i64 p0.Next, .int .i64 p0.Time, .slice A90000_8 p0.History.length cp90000_8, .slice A90000_9 p0.Seen.length cp90000_9, .bool p0.Room] 50]) a50 hE50 => wpList_nil ?_
  clear hE43 hE44 hE45 hE47 hE48
  clear a43 a44 a45 a47 a48
  refine then_normal ?_
  refine wp_seq (wp_region_lit ?_)
  refine st_val hE50 (y_fieldAddr hE50 rfl fa50_7 rfl) rfl fun a51 hE51 => st_val hE51 (y_load_one hE51 rfl (hS49.cells (k := 6) rfl) rfl one38) rfl fun a52 hE52 => st_callS hE52 hS49 Try.func52 fb52 fn52 (c_laws_toStringS p0.Seen (hS49.up hv90000_9) hsm0.2.2.2.2.2.2.2.1) rfl rfl fun A53 cp53 F53 w53 hx53 hS53 a54 hE54 => st_val hE54 (y_fieldAddr hE54 rfl fa60_7 rfl) rfl fun a55 hE55 => st_store hE55 hS53 [.slice A9 ((laws_toCellS p0.Store).length) cp9, .slice A16 ((laws_toTxS p0.Txs).length) cp16, .slice A23_0 ((laws_toDisk p0.Disk).Slots.length) cp23_0, .string ((laws_toDisk p0.Disk).Journal.Text), .int .i64 ((laws_toDisk p0.Disk).Journal.Sure), .int .i64 p0.Seq, .int .i64 p0.Next, .int .i64 p0.Time, .slice A46 ((laws_toEntryS p0.History).length) cp46, .slice A53 ((laws_toStringS p0.Seen).length) cp53, .bool false] rfl rfl (k := 5) rfl rfl (chkOne_size one38) rfl rfl rfl rfl fun w56 (hS56 : SH (Old w) w w56 [Ck.own (α := List ByteArray) [.slice A53 ((laws_toStringS p0.Seen).length) cp53] (laws_toStringS p0.Seen) F53, Ck.own (α := List Entry) [.slice A46 ((laws_toEntryS p0.History).length) cp46] (laws_toEntryS p0.History) F46, Ck.own (α := List Slot) [.slice A23_0 ((laws_toDisk p0.Disk).Slots.length) cp23_0] ((laws_toDisk p0.Disk).Slots) F23_0, Ck.own (α := List Tx) [.slice A16 ((laws_toTxS p0.Txs).length) cp16] (laws_toTxS p0.Txs) F16, Ck.own (α := List Cell) [.slice A9 ((laws_toCellS p0.Store).length) cp9] (laws_toCellS p0.Store) F9, Ck.var b5 [.slice A9 ((laws_toCellS p0.Store).length) cp9, .slice A16 ((laws_toTxS p0.Txs).length) cp16, .slice A23_0 ((laws_toDisk p0.Disk).Slots.length) cp23_0, .string ((laws_toDisk p0.Disk).Journal.Text), .int .i64 ((laws_toDisk p0.Disk).Journal.Sure), .int .i64 p0.Seq, .int .i64 p0.Next, .int .i64 p0.Time, .slice A46 ((laws_toEntryS p0.History).length) cp46, .slice A53 ((laws_toStringS p0.Seen).length) cp53, .bool false] 60, Ck.var b3 [.slice none 0 0, .slice none 0 0, .slice none 0 0, .string (⟨#[]⟩ : ByteArray), .int .i64 0, .int .i64 0, .int .i64 0, .int .i64 0, .slice none 0 0, .slice none 0 0, .bool false] 60, Ck.var b1 [.slice A90000_0 p0.Store.length cp90000_0, .slice A90000_1 p0.Txs.length cp90000_1, .slice A90000_2 p0.Disk.Slots.length cp90000_2, .string p0.Disk.Journal.Text, .int .i64 p0.Disk.Journal.Sure, .int .i64 p0.Seq, .int .i64 p0.Next, .int .i64 p0.Time, .slice A90000_8 p0.History.length cp90000_8, .slice A90000_9 p0.Seen.length cp90000_9, .bool p0.Room] 50]) a57 hE57 => wpList_nil ?_
  clear hE50 hE51 hE52 hE54 hE55
  clear a50 a51 a52 a54 a55
  refine then_normal ?_
  refine wp_seq (wp_region_lit ?_)
  refine st_val hE57 (y_fieldAddr hE57 rfl fa50_8 rfl) rfl fun a58 hE58 => st_val hE58 (y_load_one hE58 rfl (hS56.cells (k := 7) rfl) rfl one4) rfl fun a59 hE59 => st_val hE59 (y_fieldAddr hE59 rfl fa60_8 rfl) rfl fun a60 hE60 => st_store hE60 hS56 [.slice A9 ((laws_toCellS p0.Store).length) cp9, .slice A16 ((laws_toTxS p0.Txs).length) cp16, .slice A23_0 ((laws_toDisk p0.Disk).Slots.length) cp23_0, .string ((laws_toDisk p0.Disk).Journal.Text), .int .i64 ((laws_toDisk p0.Disk).Journal.Sure), .int .i64 p0.Seq, .int .i64 p0.Next, .int .i64 p0.Time, .slice A46 ((laws_toEntryS p0.History).length) cp46, .slice A53 ((laws_toStringS p0.Seen).length) cp53, .bool p0.Room] rfl rfl (k := 5) rfl rfl (chkOne_size one4) rfl rfl rfl rfl fun w61 (hS61 : SH (Old w) w w61 [Ck.own (α := List ByteArray) [.slice A53 ((laws_toStringS p0.Seen).length) cp53] (laws_toStringS p0.Seen) F53, Ck.own (α := List Entry) [.slice A46 ((laws_toEntryS p0.History).length) cp46] (laws_toEntryS p0.History) F46, Ck.own (α := List Slot) [.slice A23_0 ((laws_toDisk p0.Disk).Slots.length) cp23_0] ((laws_toDisk p0.Disk).Slots) F23_0, Ck.own (α := List Tx) [.slice A16 ((laws_toTxS p0.Txs).length) cp16] (laws_toTxS p0.Txs) F16, Ck.own (α := List Cell) [.slice A9 ((laws_toCellS p0.Store).length) cp9] (laws_toCellS p0.Store) F9, Ck.var b5 [.slice A9 ((laws_toCellS p0.Store).length) cp9, .slice A16 ((laws_toTxS p0.Txs).length) cp16, .slice A23_0 ((laws_toDisk p0.Disk).Slots.length) cp23_0, .string ((laws_toDisk p0.Disk).Journal.Text), .int .i64 ((laws_toDisk p0.Disk).Journal.Sure), .int .i64 p0.Seq, .int .i64 p0.Next, .int .i64 p0.Time, .slice A46 ((laws_toEntryS p0.History).length) cp46, .slice A53 ((laws_toStringS p0.Seen).length) cp53, .bool p0.Room] 60, Ck.var b3 [.slice none 0 0, .slice none 0 0, .slice none 0 0, .string (⟨#[]⟩ : ByteArray), .int .i64 0, .int .i64 0, .int .i64 0, .int .i64 0, .slice none 0 0, .slice none 0 0, .bool false] 60, Ck.var b1 [.slice A90000_0 p0.Store.length cp90000_0, .slice A90000_1 p0.Txs.length cp90000_1, .slice A90000_2 p0.Disk.Slots.length cp90000_2, .string p0.Disk.Journal.Text, .int .i64 p0.Disk.Journal.Sure, .int .i64 p0.Seq, .int .i64 p0.Next, .int .i64 p0.Time, .slice A90000_8 p0.History.length cp90000_8, .slice A90000_9 p0.Seen.length cp90000_9, .bool p0.Room] 50]) a62 hE62 => wpList_nil ?_
  clear hE57 hE58 hE59 hE60
  clear a57 a58 a59 a60
  refine then_normal ?_
  refine wp_seq (wp_region_lit ?_)
  refine st_val hE62 (y_load_agg hE62 rfl (hS61.cells (k := 5) rfl) rfl rfl agg60) rfl fun a63 hE63 => st_store hE63 hS61 [.slice A9 ((laws_toCellS p0.Store).length) cp9, .slice A16 ((laws_toTxS p0.Txs).length) cp16, .slice A23_0 ((laws_toDisk p0.Disk).Slots.length) cp23_0, .string ((laws_toDisk p0.Disk).Journal.Text), .int .i64 ((laws_toDisk p0.Disk).Journal.Sure), .int .i64 p0.Seq, .int .i64 p0.Next, .int .i64 p0.Time, .slice A46 ((laws_toEntryS p0.History).length) cp46, .slice A53 ((laws_toStringS p0.Seen).length) cp53, .bool p0.Room] rfl rfl (k := 6) rfl rfl (chkAgg_size agg60) rfl rfl rfl rfl fun w64 (hS64 : SH (Old w) w w64 [Ck.own (α := List ByteArray) [.slice A53 ((laws_toStringS p0.Seen).length) cp53] (laws_toStringS p0.Seen) F53, Ck.own (α := List Entry) [.slice A46 ((laws_toEntryS p0.History).length) cp46] (laws_toEntryS p0.History) F46, Ck.own (α := List Slot) [.slice A23_0 ((laws_toDisk p0.Disk).Slots.length) cp23_0] ((laws_toDisk p0.Disk).Slots) F23_0, Ck.own (α := List Tx) [.slice A16 ((laws_toTxS p0.Txs).length) cp16] (laws_toTxS p0.Txs) F16, Ck.own (α := List Cell) [.slice A9 ((laws_toCellS p0.Store).length) cp9] (laws_toCellS p0.Store) F9, Ck.var b5 [.slice A9 ((laws_toCellS p0.Store).length) cp9, .slice A16 ((laws_toTxS p0.Txs).length) cp16, .slice A23_0 ((laws_toDisk p0.Disk).Slots.length) cp23_0, .string ((laws_toDisk p0.Disk).Journal.Text), .int .i64 ((laws_toDisk p0.Disk).Journal.Sure), .int .i64 p0.Seq, .int .i64 p0.Next, .int .i64 p0.Time, .slice A46 ((laws_toEntryS p0.History).length) cp46, .slice A53 ((laws_toStringS p0.Seen).length) cp53, .bool p0.Room] 60, Ck.var b3 [.slice A9 ((laws_toCellS p0.Store).length) cp9, .slice A16 ((laws_toTxS p0.Txs).length) cp16, .slice A23_0 ((laws_toDisk p0.Disk).Slots.length) cp23_0, .string ((laws_toDisk p0.Disk).Journal.Text), .int .i64 ((laws_toDisk p0.Disk).Journal.Sure), .int .i64 p0.Seq, .int .i64 p0.Next, .int .i64 p0.Time, .slice A46 ((laws_toEntryS p0.History).length) cp46, .slice A53 ((laws_toStringS p0.Seen).length) cp53, .bool p0.Room] 60, Ck.var b1 [.slice A90000_0 p0.Store.length cp90000_0, .slice A90000_1 p0.Txs.length cp90000_1, .slice A90000_2 p0.Disk.Slots.length cp90000_2, .string p0.Disk.Journal.Text, .int .i64 p0.Disk.Journal.Sure, .int .i64 p0.Seq, .int .i64 p0.Next, .int .i64 p0.Time, .slice A90000_8 p0.History.length cp90000_8, .slice A90000_9 p0.Seen.length cp90000_9, .bool p0.Room] 50]) a65 hE65 => wpList_nil ?_
  clear hE62 hE63
  clear a62 a63
  refine then_normal ?_
  refine wp_ret ?_
  refine finC hE65 hS64 rfl rfl (k := 6) rfl agg60 rfl ?_
  rw [hM]
  exact ⟨_, _, rfl, hS64.below, Kernel_own (x := (Kernel.mk (laws_toCellS p0.Store) (laws_toTxS p0.Txs) (Disk.mk ((laws_toDisk p0.Disk).Slots) (Journal.mk ((laws_toDisk p0.Disk).Journal.Text) ((laws_toDisk p0.Disk).Journal.Sure))) p0.Seq p0.Next p0.Time (laws_toEntryS p0.History) (laws_toStringS p0.Seen) p0.Room)) (hS64.slO (k := 4) rfl) (hS64.slO (k := 3) rfl) (hS64.slO (k := 2) rfl) hg23_1 hg23_2 hg90000_5 hg90000_6 hg90000_7 (hS64.slO (k := 1) rfl) (hS64.slO (k := 0) rfl), (nd_app (hS64.nd (k := 4) rfl) (nd_app (hS64.nd (k := 3) rfl) (nd_app (nd_app (hS64.nd (k := 2) rfl) List.nodup_nil dj_nil) (nd_app (hS64.nd (k := 1) rfl) (nd_app (hS64.nd (k := 0) rfl) List.nodup_nil dj_nil) (dj_app (hS64.dj (i := 1) (j := 0) rfl rfl (by decide)) dj_nil)) (fun b hb => (List.mem_append.1 hb).elim ((dj_app (hS64.dj (i := 2) (j := 1) rfl rfl (by decide)) (dj_app (hS64.dj (i := 2) (j := 0) rfl rfl (by decide)) dj_nil)) b) ((fun b hb => by cases hb) b))) (dj_app (dj_app (hS64.dj (i := 3) (j := 2) rfl rfl (by decide)) dj_nil) (dj_app (hS64.dj (i := 3) (j := 1) rfl rfl (by decide)) (dj_app (hS64.dj (i := 3) (j := 0) rfl rfl (by decide)) dj_nil)))) (dj_app (hS64.dj (i := 4) (j := 3) rfl rfl (by decide)) (dj_app (dj_app (hS64.dj (i := 4) (j := 2) rfl rfl (by decide)) dj_nil) (dj_app (hS64.dj (i := 4) (j := 1) rfl rfl (by decide)) (dj_app (hS64.dj (i := 4) (j := 0) rfl rfl (by decide)) dj_nil))))), (ge_app (hS64.ge' (k := 4) rfl) (ge_app (hS64.ge' (k := 3) rfl) (ge_app (ge_app (hS64.ge' (k := 2) rfl) ge_nil) (ge_app (hS64.ge' (k := 1) rfl) (ge_app (hS64.ge' (k := 0) rfl) ge_nil)))))⟩

end Go.Proofs.Ytpfnofdaaekglaa.Fw
