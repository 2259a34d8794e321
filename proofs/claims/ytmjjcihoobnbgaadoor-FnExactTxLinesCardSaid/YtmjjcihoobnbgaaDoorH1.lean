/- Contracts: each call returns what the model says. By program (wip/gen). -/
import Derived.Test.YtmjjcihoobnbgaaDoorPD
namespace Go.Proofs.YtmjjcihoobnbgaaDoor.Fw
open Go.RowKit
set_option linter.unusedVariables false
set_option linter.unusedSimpArgs false

theorem agg122 : chkAgg Tryd.prog 122 3 = true := by kernel_rfl
theorem agg134 : chkAgg Tryd.prog 134 3 = true := by kernel_rfl
theorem agg28 : chkAgg Tryd.prog 28 6 = true := by kernel_rfl
theorem fa122_0 : chkField Tryd.prog 122 0 0 = true := by kernel_rfl
theorem fa122_1 : chkField Tryd.prog 122 1 1 = true := by kernel_rfl
theorem fa122_2 : chkField Tryd.prog 122 2 2 = true := by kernel_rfl
theorem fa134_0 : chkField Tryd.prog 134 0 0 = true := by kernel_rfl
theorem fa134_1 : chkField Tryd.prog 134 1 1 = true := by kernel_rfl
theorem fa134_2 : chkField Tryd.prog 134 2 2 = true := by kernel_rfl
theorem fa28_0 : chkField Tryd.prog 28 0 0 = true := by kernel_rfl
theorem fa28_1 : chkField Tryd.prog 28 1 1 = true := by kernel_rfl
theorem fa28_2 : chkField Tryd.prog 28 2 2 = true := by kernel_rfl
theorem fa28_3 : chkField Tryd.prog 28 3 3 = true := by kernel_rfl
theorem fa28_4 : chkField Tryd.prog 28 4 4 = true := by kernel_rfl
theorem fa28_5 : chkField Tryd.prog 28 5 5 = true := by kernel_rfl
theorem fa29_0 : chkField Tryd.prog 29 0 0 = true := by kernel_rfl
theorem fa29_1 : chkField Tryd.prog 29 1 1 = true := by kernel_rfl
theorem fa29_2 : chkField Tryd.prog 29 2 2 = true := by kernel_rfl
theorem fa29_3 : chkField Tryd.prog 29 3 3 = true := by kernel_rfl
theorem fa29_4 : chkField Tryd.prog 29 4 4 = true := by kernel_rfl
theorem fa29_5 : chkField Tryd.prog 29 5 5 = true := by kernel_rfl
theorem fb108 : Tryd.f108.body.isNone = false := rfl
theorem fb109 : Tryd.f109.body.isNone = false := rfl
theorem fb113 : Tryd.f113.body.isNone = false := rfl
theorem fn108 : (Tryd.f108.name == "runtime.NumGoroutine") = false := by kernel_rfl
theorem fn109 : (Tryd.f109.name == "runtime.NumGoroutine") = false := by kernel_rfl
theorem fn113 : (Tryd.f113.name == "runtime.NumGoroutine") = false := by kernel_rfl
theorem mixed : Tryd.prog.follows .mixedOrders = true := by kernel_rfl
theorem one3 : chkOne Tryd.prog 3 = true := by kernel_rfl
theorem one9 : chkOne Tryd.prog 9 = true := by kernel_rfl
theorem sl80 : chkSlice Tryd.prog 80 134 3 32 = true := by kernel_rfl
theorem sl87 : chkSlice Tryd.prog 87 122 3 32 = true := by kernel_rfl

/- F15 loop.example/g00974/laws.szCall -/
def laws_szCall (p0 : Call) (p1 : Int) : Int := (if (decide (IntKind.i64.wrap (p1 - (p0.Name.size : Int)) < 0)) = true then (-1) else (if (decide (IntKind.i64.wrap (IntKind.i64.wrap (p1 - (p0.Name.size : Int)) - (p0.To.size : Int)) < 0)) = true then (-1) else (if (decide (IntKind.i64.wrap (IntKind.i64.wrap (IntKind.i64.wrap (p1 - (p0.Name.size : Int)) - (p0.To.size : Int)) - (p0.Text.size : Int)) < 0)) = true then (-1) else IntKind.i64.wrap (IntKind.i64.wrap (IntKind.i64.wrap (p1 - (p0.Name.size : Int)) - (p0.To.size : Int)) - (p0.Text.size : Int)))))
theorem c_laws_szCall {c0 : List Value} (p0 : Call) (p1 : Int) {w : World} (hp0 : Dat.rd (Old w) w c0 p0) :
    Calls Tryd.prog 15 [.agg c0.toArray, .int .i64 p1].toArray w (fun e w' => e = .returned (.int .i64 (laws_szCall p0 p1)) ∧ Below w.heap.size w w') := by
  obtain ⟨rfl, hg90000_0, hg90000_1, hg90000_2, hg90000_3, hg90000_4, hg90000_5, _⟩ := Call_open hp0
  refine enter Tryd.func15 rfl Tryd.ntmps15 (Nat.le_of_ble_eq_true rfl) ?_
  intro a0 hE0
  have hS0 := SH.start w
  have hM := laws_szCall.eq_1 p0 p1
  refine wp_seq (wp_region_lit ?_)
  refine st_box hE0 hS0 rfl rfl rfl fun b1 w1 hS1 a2 hE2 => st_val hE2 (y_assign hE2 rfl) rfl fun a3 hE3 => wpList_nil ?_
  clear hE0 hE2
  clear a0 a2
  refine then_normal ?_
  refine wp_seq (wp_region_lit ?_)
  refine st_val hE3 (y_move hE3 rfl) rfl fun a4 hE4 => st_val hE4 (y_fieldAddr hE4 rfl fa29_1 rfl) rfl fun a5 hE5 => st_val hE5 (y_load_one hE5 rfl (hS1.cells (k := 0) rfl) rfl one9) rfl fun a6 hE6 => st_val hE6 (y_len_string hE6 rfl Tryd.underlying9) rfl fun a7 hE7 => st_val hE7 (y_sub hE7 rfl rfl) rfl fun a8 hE8 => st_val hE8 (y_assign hE8 rfl) rfl fun a9 hE9 => wpList_nil ?_
  clear hE3 hE4 hE5 hE6 hE7 hE8
  clear a3 a4 a5 a6 a7 a8
  refine then_normal ?_
  refine wp_seq (wp_seq (wp_region_lit ?_))
  refine st_val hE9 (y_move hE9 rfl) rfl fun a10 hE10 => st_val hE10 (y_lss hE10 rfl rfl) rfl fun a11 hE11 => wpList_nil ?_
  clear hE9 hE10
  clear a9 a10
  refine then_normal ?_
  refine cond_split hE11 rfl (fun hb12 => ?_) (fun hb12 => ?_)
  ·
    have hM := hM.trans (if_t hb12)
    have hb12f : IntKind.i64.wrap (p1 - (p0.Name.size : Int)) < 0 := of_decide_eq_true hb12
    refine wp_seq (wp_region_lit ?_)
    refine st_val hE11 (y_assign hE11 rfl) rfl fun a13 hE13 => wpList_nil ?_
    clear hE11
    clear a11
    refine then_normal ?_
    refine wp_ret ?_
    refine then_ret ?_
    exact fin1 hE13 rfl rfl ⟨by rw [hM], hS1.below⟩
  ·
    have hM := hM.trans (if_f hb12)
    have hb12f : ¬ (IntKind.i64.wrap (p1 - (p0.Name.size : Int)) < 0) := of_decide_eq_false hb12
    refine wp_skip ?_
    refine then_normal ?_
    refine wp_seq (wp_region_lit ?_)
    refine st_val hE11 (y_move hE11 rfl) rfl fun a14 hE14 => st_val hE14 (y_fieldAddr hE14 rfl fa29_2 rfl) rfl fun a15 hE15 => st_val hE15 (y_load_one hE15 rfl (hS1.cells (k := 0) rfl) rfl one9) rfl fun a16 hE16 => st_val hE16 (y_len_string hE16 rfl Tryd.underlying9) rfl fun a17 hE17 => st_val hE17 (y_sub hE17 rfl rfl) rfl fun a18 hE18 => st_val hE18 (y_assign hE18 rfl) rfl fun a19 hE19 => wpList_nil ?_
    clear hE11 hE14 hE15 hE16 hE17 hE18
    clear a11 a14 a15 a16 a17 a18
    refine then_normal ?_
    refine wp_seq (wp_seq (wp_region_lit ?_))
    refine st_val hE19 (y_move hE19 rfl) rfl fun a20 hE20 => st_val hE20 (y_lss hE20 rfl rfl) rfl fun a21 hE21 => wpList_nil ?_
    clear hE19 hE20
    clear a19 a20
    refine then_normal ?_
    refine cond_split hE21 rfl (fun hb22 => ?_) (fun hb22 => ?_)
    ·
      have hM := hM.trans (if_t hb22)
      have hb22f : IntKind.i64.wrap (IntKind.i64.wrap (p1 - (p0.Name.size : Int)) - (p0.To.size : Int)) < 0 := of_decide_eq_true hb22
      refine wp_seq (wp_region_lit ?_)
      refine st_val hE21 (y_assign hE21 rfl) rfl fun a23 hE23 => wpList_nil ?_
      clear hE21
      clear a21
      refine then_normal ?_
      refine wp_ret ?_
      refine then_ret ?_
      exact fin1 hE23 rfl rfl ⟨by rw [hM], hS1.below⟩
    ·
      have hM := hM.trans (if_f hb22)
      have hb22f : ¬ (IntKind.i64.wrap (IntKind.i64.wrap (p1 - (p0.Name.size : Int)) - (p0.To.size : Int)) < 0) := of_decide_eq_false hb22
      refine wp_skip ?_
      refine then_normal ?_
      refine wp_seq (wp_region_lit ?_)
      refine st_val hE21 (y_move hE21 rfl) rfl fun a24 hE24 => st_val hE24 (y_fieldAddr hE24 rfl fa29_5 rfl) rfl fun a25 hE25 => st_val hE25 (y_load_one hE25 rfl (hS1.cells (k := 0) rfl) rfl one9) rfl fun a26 hE26 => st_val hE26 (y_len_string hE26 rfl Tryd.underlying9) rfl fun a27 hE27 => st_val hE27 (y_sub hE27 rfl rfl) rfl fun a28 hE28 => st_val hE28 (y_assign hE28 rfl) rfl fun a29 hE29 => wpList_nil ?_
      clear hE21 hE24 hE25 hE26 hE27 hE28
      clear a21 a24 a25 a26 a27 a28
      refine then_normal ?_
      refine wp_seq (wp_seq (wp_region_lit ?_))
      refine st_val hE29 (y_move hE29 rfl) rfl fun a30 hE30 => st_val hE30 (y_lss hE30 rfl rfl) rfl fun a31 hE31 => wpList_nil ?_
      clear hE29 hE30
      clear a29 a30
      refine then_normal ?_
      refine cond_split hE31 rfl (fun hb32 => ?_) (fun hb32 => ?_)
      ·
        have hM := hM.trans (if_t hb32)
        have hb32f : IntKind.i64.wrap (IntKind.i64.wrap (IntKind.i64.wrap (p1 - (p0.Name.size : Int)) - (p0.To.size : Int)) - (p0.Text.size : Int)) < 0 := of_decide_eq_true hb32
        refine wp_seq (wp_region_lit ?_)
        refine st_val hE31 (y_assign hE31 rfl) rfl fun a33 hE33 => wpList_nil ?_
        clear hE31
        clear a31
        refine then_normal ?_
        refine wp_ret ?_
        refine then_ret ?_
        exact fin1 hE33 rfl rfl ⟨by rw [hM], hS1.below⟩
      ·
        have hM := hM.trans (if_f hb32)
        have hb32f : ¬ (IntKind.i64.wrap (IntKind.i64.wrap (IntKind.i64.wrap (p1 - (p0.Name.size : Int)) - (p0.To.size : Int)) - (p0.Text.size : Int)) < 0) := of_decide_eq_false hb32
        refine wp_skip ?_
        refine then_normal ?_
        refine wp_seq (wp_region_lit ?_)
        refine st_val hE31 (y_move hE31 rfl) rfl fun a34 hE34 => st_val hE34 (y_assign hE34 rfl) rfl fun a35 hE35 => wpList_nil ?_
        clear hE31 hE34
        clear a31 a34
        refine then_normal ?_
        refine wp_ret ?_
        exact fin1 hE35 rfl rfl ⟨by rw [hM], hS1.below⟩

/- F108 loop.example/g00974/laws.szAnswer -/
def laws_szAnswer (p0 : Answer) (p1 : Int) : Int := (if (decide (IntKind.i64.wrap (p1 - (p0.Text.size : Int)) < 0)) = true then (-1) else IntKind.i64.wrap (p1 - (p0.Text.size : Int)))
theorem c_laws_szAnswer {c0 : List Value} (p0 : Answer) (p1 : Int) {w : World} (hp0 : Dat.rd (Old w) w c0 p0) :
    Calls Tryd.prog 108 [.agg c0.toArray, .int .i64 p1].toArray w (fun e w' => e = .returned (.int .i64 (laws_szAnswer p0 p1)) ∧ Below w.heap.size w w') := by
  obtain ⟨rfl, hg90000_0, hg90000_1, hg90000_2, _⟩ := Answer_open hp0
  refine enter Tryd.func108 rfl Tryd.ntmps108 (Nat.le_of_ble_eq_true rfl) ?_
  intro a0 hE0
  have hS0 := SH.start w
  have hM := laws_szAnswer.eq_1 p0 p1
  refine wp_seq (wp_region_lit ?_)
  refine st_box hE0 hS0 rfl rfl rfl fun b1 w1 hS1 a2 hE2 => st_val hE2 (y_assign hE2 rfl) rfl fun a3 hE3 => wpList_nil ?_
  clear hE0 hE2
  clear a0 a2
  refine then_normal ?_
  refine wp_seq (wp_region_lit ?_)
  refine st_val hE3 (y_move hE3 rfl) rfl fun a4 hE4 => st_val hE4 (y_fieldAddr hE4 rfl fa134_2 rfl) rfl fun a5 hE5 => st_val hE5 (y_load_one hE5 rfl (hS1.cells (k := 0) rfl) rfl one9) rfl fun a6 hE6 => st_val hE6 (y_len_string hE6 rfl Tryd.underlying9) rfl fun a7 hE7 => st_val hE7 (y_sub hE7 rfl rfl) rfl fun a8 hE8 => st_val hE8 (y_assign hE8 rfl) rfl fun a9 hE9 => wpList_nil ?_
  clear hE3 hE4 hE5 hE6 hE7 hE8
  clear a3 a4 a5 a6 a7 a8
  refine then_normal ?_
  refine wp_seq (wp_seq (wp_region_lit ?_))
  refine st_val hE9 (y_move hE9 rfl) rfl fun a10 hE10 => st_val hE10 (y_lss hE10 rfl rfl) rfl fun a11 hE11 => wpList_nil ?_
  clear hE9 hE10
  clear a9 a10
  refine then_normal ?_
  refine cond_split hE11 rfl (fun hb12 => ?_) (fun hb12 => ?_)
  ·
    have hM := hM.trans (if_t hb12)
    have hb12f : IntKind.i64.wrap (p1 - (p0.Text.size : Int)) < 0 := of_decide_eq_true hb12
    refine wp_seq (wp_region_lit ?_)
    refine st_val hE11 (y_assign hE11 rfl) rfl fun a13 hE13 => wpList_nil ?_
    clear hE11
    clear a11
    refine then_normal ?_
    refine wp_ret ?_
    refine then_ret ?_
    exact fin1 hE13 rfl rfl ⟨by rw [hM], hS1.below⟩
  ·
    have hM := hM.trans (if_f hb12)
    have hb12f : ¬ (IntKind.i64.wrap (p1 - (p0.Text.size : Int)) < 0) := of_decide_eq_false hb12
    refine wp_skip ?_
    refine then_normal ?_
    refine wp_seq (wp_region_lit ?_)
    refine st_val hE11 (y_move hE11 rfl) rfl fun a14 hE14 => st_val hE14 (y_assign hE14 rfl) rfl fun a15 hE15 => wpList_nil ?_
    clear hE11 hE14
    clear a11 a14
    refine then_normal ?_
    refine wp_ret ?_
    exact fin1 hE15 rfl rfl ⟨by rw [hM], hS1.below⟩

/- F88 loop.example/g00974/laws.szAnswerS -/
def laws_szAnswerS_l1 (p0 : List Answer) (p1 : Int) : Nat → Nat → Int → Int
  | 0, i1, s1_1 => s1_1
  | fu1 + 1, i1, s1_1 => (if (decide ((laws_szAnswer (nth p0 i1) s1_1) < 0)) = true then (-1) else laws_szAnswerS_l1 p0 p1 fu1 (i1 + 1) (laws_szAnswer (nth p0 i1) s1_1))
def laws_szAnswerS (p0 : List Answer) (p1 : Int) : Int := (if (decide (IntKind.i64.wrap (p1 - (p0.length : Int)) < 0)) = true then (-1) else laws_szAnswerS_l1 p0 p1 (p0.length - 0) 0 (IntKind.i64.wrap (p1 - (p0.length : Int))))
theorem c_laws_szAnswerS {v0 : Value} (p0 : List Answer) (p1 : Int) {w : World} (hp0 : SlR (Old w) w v0 p0) :
    Calls Tryd.prog 88 [v0, .int .i64 p1].toArray w (fun e w' => e = .returned (.int .i64 (laws_szAnswerS p0 p1)) ∧ Below w.heap.size w w') := by
  obtain ⟨A0, cap0, rfl, hx0⟩ := hp0.form
  refine enter Tryd.func88 rfl Tryd.ntmps88 (Nat.le_of_ble_eq_true rfl) ?_
  intro a0 hE0
  have hS0 := SH.start w
  have hM := laws_szAnswerS.eq_1 p0 p1
  refine wp_seq (wp_region_lit ?_)
  refine st_val hE0 (y_assign hE0 rfl) rfl fun a1 hE1 => wpList_nil ?_
  clear hE0
  clear a0
  refine then_normal ?_
  refine wp_seq (wp_region_lit ?_)
  refine st_val hE1 (y_move hE1 rfl) rfl fun a2 hE2 => st_val hE2 (y_move hE2 rfl) rfl fun a3 hE3 => st_val hE3 (y_len_slice hE3 rfl sl80) rfl fun a4 hE4 => st_val hE4 (y_sub hE4 rfl rfl) rfl fun a5 hE5 => st_val hE5 (y_assign hE5 rfl) rfl fun a6 hE6 => wpList_nil ?_
  clear hE1 hE2 hE3 hE4 hE5
  clear a1 a2 a3 a4 a5
  refine then_normal ?_
  refine wp_seq (wp_seq (wp_region_lit ?_))
  refine st_val hE6 (y_move hE6 rfl) rfl fun a7 hE7 => st_val hE7 (y_lss hE7 rfl rfl) rfl fun a8 hE8 => wpList_nil ?_
  clear hE6 hE7
  clear a6 a7
  refine then_normal ?_
  refine cond_split hE8 rfl (fun hb9 => ?_) (fun hb9 => ?_)
  ·
    have hM := hM.trans (if_t hb9)
    have hb9f : IntKind.i64.wrap (p1 - (p0.length : Int)) < 0 := of_decide_eq_true hb9
    refine wp_seq (wp_region_lit ?_)
    refine st_val hE8 (y_assign hE8 rfl) rfl fun a10 hE10 => wpList_nil ?_
    clear hE8
    clear a8
    refine then_normal ?_
    refine wp_ret ?_
    refine then_ret ?_
    exact fin1 hE10 rfl rfl ⟨by rw [hM], hS0.below⟩
  ·
    have hM := hM.trans (if_f hb9)
    have hb9f : ¬ (IntKind.i64.wrap (p1 - (p0.length : Int)) < 0) := of_decide_eq_false hb9
    refine wp_skip ?_
    refine then_normal ?_
    refine wp_seq (wp_seq (wp_region_lit ?_))
    refine st_val hE8 (y_assign hE8 rfl) rfl fun a11 hE11 => wpList_nil ?_
    clear hE8
    clear a8
    refine then_normal ?_
    refine wp_block (wp_loop_ghost (fun fu1 a w2 => ∃ (i1 : Nat) (s1_1 : Int), 0 ≤ i1 ∧ fu1 = p0.length - i1 ∧ laws_szAnswerS p0 p1 = laws_szAnswerS_l1 p0 p1 fu1 i1 s1_1 ∧ Env 27 [(0, .slice A0 p0.length cap0), (1, .int .i64 s1_1), (5, .int .i64 (i1 : Int))] a ∧ SH (Old w) w w2 []) (p0.length - 0) ⟨0, IntKind.i64.wrap (p1 - (p0.length : Int)), Nat.le_refl _, rfl, hM, hE11.weaken ⟨rfl, rfl, rfl, trivial⟩, hS0⟩ ?_)
    clear hM hE11
    rintro fu1 a12 w12 ⟨i1, s1_1, hi1, hfu1, hM, hE12, hS12⟩
    refine wp_seq (wp_seq (wp_region_lit ?_))
    refine st_val hE12 (y_move hE12 rfl) rfl fun a13 hE13 => st_val hE13 (y_move hE13 rfl) rfl fun a14 hE14 => st_val hE14 (y_len_slice hE14 rfl sl80) rfl fun a15 hE15 => st_val hE15 (y_lss hE15 rfl rfl) rfl fun a16 hE16 => wpList_nil ?_
    clear hE12 hE13 hE14 hE15
    clear a12 a13 a14 a15
    refine then_normal ?_
    refine cond_split hE16 rfl (fun hb17 => ?_) (fun hb17 => ?_)
    ·
      have hlt1 : i1 < p0.length := by have := of_decide_eq_true hb17; omega
      obtain ⟨fu1, rfl⟩ : ∃ m, fu1 = m + 1 := ⟨fu1 - 1, by omega⟩
      have hM := hM.trans (laws_szAnswerS_l1.eq_2 _ _ _ _ _)
      refine wp_skip ?_
      refine then_normal ?_
      refine wp_seq (wp_block (wp_seq (wp_region_lit ?_)))
      refine st_val hE16 (y_move hE16 rfl) rfl fun a18 hE18 => st_val hE18 (y_move hE18 rfl) rfl fun a19 hE19 => st_index hE19 hp0 rfl rfl rfl (by omega) sl80 rfl fun ad20 cs20 hr20 hc20 hl20 a21 hE21 => ?_
      obtain ⟨rfl, hg20_0, hg20_1, hg20_2, _⟩ := Answer_open hr20
      refine st_val hE21 (y_load_agg hE21 rfl (hS12.upc hc20 hl20) rfl rfl agg134) rfl fun a22 hE22 => st_val hE22 (y_move hE22 rfl) rfl fun a23 hE23 => st_callF hE23 hS12 Tryd.func108 fb108 fn108 (c_laws_szAnswer (nth p0 i1) s1_1 (hS12.upd hr20)) rfl rfl fun w24 hS24 a25 hE25 => st_val hE25 (y_assign hE25 rfl) rfl fun a26 hE26 => wpList_nil ?_
      clear hE16 hE18 hE19 hE21 hE22 hE23 hE25
      clear a16 a18 a19 a21 a22 a23 a25
      refine then_normal ?_
      refine wp_seq (wp_region_lit ?_)
      refine st_val hE26 (y_move hE26 rfl) rfl fun a27 hE27 => st_val hE27 (y_lss hE27 rfl rfl) rfl fun a28 hE28 => wpList_nil ?_
      clear hE26 hE27
      clear a26 a27
      refine then_normal ?_
      refine cond_split hE28 rfl (fun hb29 => ?_) (fun hb29 => ?_)
      ·
        have hM := hM.trans (if_t hb29)
        have hb29f : (laws_szAnswer (nth p0 i1) s1_1) < 0 := of_decide_eq_true hb29
        refine wp_seq (wp_region_lit ?_)
        refine st_val hE28 (y_assign hE28 rfl) rfl fun a30 hE30 => wpList_nil ?_
        clear hE28
        clear a28
        refine then_normal ?_
        refine wp_ret ?_
        refine blk_ret ?_
        refine then_ret ?_
        refine then_ret ?_
        refine blk_ret ?_
        refine then_ret ?_
        exact fin1 hE30 rfl rfl ⟨by rw [hM], hS24.below⟩
      ·
        have hM := hM.trans (if_f hb29)
        have hb29f : ¬ ((laws_szAnswer (nth p0 i1) s1_1) < 0) := of_decide_eq_false hb29
        refine wp_skip ?_
        refine blk_normal ?_
        refine then_normal ?_
        refine wp_region_lit ?_
        refine st_val hE28 (y_move hE28 rfl) rfl fun a31 hE31 => st_val hE31 (y_add_in hE31 rfl rfl (m := ((i1 + 1 : Nat) : Int)) (by omega) (by omega) (by omega)) rfl fun a32 hE32 => st_val hE32 (y_assign hE32 rfl) rfl fun a33 hE33 => wpList_nil ?_
        clear hE28 hE31 hE32
        clear a28 a31 a32
        refine then_normal ⟨fu1, Nat.lt_succ_self _, (i1 + 1), (laws_szAnswer (nth p0 i1) s1_1), by omega, by omega, hM, hE33.weaken ⟨rfl, rfl, rfl, trivial⟩, hS24⟩
    ·
      have hge1 : ¬ i1 < p0.length := by have := of_decide_eq_false hb17; omega
      obtain rfl : fu1 = 0 := by omega
      have hM := hM.trans (laws_szAnswerS_l1.eq_1 _ _ _ _)
      refine wp_exit ?_
      refine then_exit ?_
      refine then_exit ?_
      refine blk_exit ?_
      refine then_normal ?_
      refine wp_seq (wp_region_lit ?_)
      refine st_val hE16 (y_move hE16 rfl) rfl fun a34 hE34 => st_val hE34 (y_assign hE34 rfl) rfl fun a35 hE35 => wpList_nil ?_
      clear hE16 hE34
      clear a16 a34
      refine then_normal ?_
      refine wp_ret ?_
      exact fin1 hE35 rfl rfl ⟨by rw [hM], hS12.below⟩

/- F17 loop.example/g00974/laws.toCall -/
def laws_toCall (p0 : Call) : Call := p0
theorem c_laws_toCall {c0 : List Value} (p0 : Call) {w : World} (hp0 : Dat.rd (Old w) w c0 p0) :
    Calls Tryd.prog 17 [.agg c0.toArray].toArray w (fun e w' => ∃ cs F, e = .returned (.agg cs.toArray) ∧ Below w.heap.size w w' ∧ Dat.own w' cs (laws_toCall p0) F ∧ F.Nodup ∧ ∀ b ∈ F, w.heap.size ≤ b) := by
  obtain ⟨rfl, hg90000_0, hg90000_1, hg90000_2, hg90000_3, hg90000_4, hg90000_5, _⟩ := Call_open hp0
  refine enter Tryd.func17 rfl Tryd.ntmps17 (Nat.le_of_ble_eq_true rfl) ?_
  intro a0 hE0
  have hS0 := SH.start w
  have hM := laws_toCall.eq_1 p0
  refine wp_seq (wp_region_lit ?_)
  refine st_box hE0 hS0 rfl rfl rfl fun b1 w1 hS1 a2 hE2 => st_alloc hE2 hS1 Tryd.zeroValue28 rfl rfl fun b3 w3 hS3 a4 hE4 => wpList_nil ?_
  clear hE0 hE2
  clear a0 a2
  refine then_normal ?_
  refine wp_seq (wp_region_lit ?_)
  refine st_alloc hE4 hS3 Tryd.zeroValue28 rfl rfl fun b5 w5 hS5 a6 hE6 => wpList_nil ?_
  clear hE4
  clear a4
  refine then_normal ?_
  refine wp_seq (wp_region_lit ?_)
  refine st_val hE6 (y_fieldAddr hE6 rfl fa29_0 rfl) rfl fun a7 hE7 => st_val hE7 (y_load_one hE7 rfl (hS5.cells (k := 2) rfl) rfl one3) rfl fun a8 hE8 => st_val hE8 (y_fieldAddr hE8 rfl fa28_0 rfl) rfl fun a9 hE9 => st_store hE9 hS5 [.int .i64 p0.Kind, .string (⟨#[]⟩ : ByteArray), .string (⟨#[]⟩ : ByteArray), .int .i64 0, .int .i64 0, .string (⟨#[]⟩ : ByteArray)] rfl rfl (k := 0) rfl rfl (chkOne_size one3) rfl rfl rfl rfl fun w10 (hS10 : SH (Old w) w w10 [Ck.var b5 [.int .i64 p0.Kind, .string (⟨#[]⟩ : ByteArray), .string (⟨#[]⟩ : ByteArray), .int .i64 0, .int .i64 0, .string (⟨#[]⟩ : ByteArray)] 28, Ck.var b3 [.int .i64 0, .string (⟨#[]⟩ : ByteArray), .string (⟨#[]⟩ : ByteArray), .int .i64 0, .int .i64 0, .string (⟨#[]⟩ : ByteArray)] 28, Ck.var b1 [.int .i64 p0.Kind, .string p0.Name, .string p0.To, .int .i64 p0.A, .int .i64 p0.B, .string p0.Text] 29]) a11 hE11 => wpList_nil ?_
  clear hE6 hE7 hE8 hE9
  clear a6 a7 a8 a9
  refine then_normal ?_
  refine wp_seq (wp_region_lit ?_)
  refine st_val hE11 (y_fieldAddr hE11 rfl fa29_1 rfl) rfl fun a12 hE12 => st_val hE12 (y_load_one hE12 rfl (hS10.cells (k := 2) rfl) rfl one9) rfl fun a13 hE13 => st_val hE13 (y_fieldAddr hE13 rfl fa28_1 rfl) rfl fun a14 hE14 => st_store hE14 hS10 [.int .i64 p0.Kind, .string p0.Name, .string (⟨#[]⟩ : ByteArray), .int .i64 0, .int .i64 0, .string (⟨#[]⟩ : ByteArray)] rfl rfl (k := 0) rfl rfl (chkOne_size one9) rfl rfl rfl rfl fun w15 (hS15 : SH (Old w) w w15 [Ck.var b5 [.int .i64 p0.Kind, .string p0.Name, .string (⟨#[]⟩ : ByteArray), .int .i64 0, .int .i64 0, .string (⟨#[]⟩ : ByteArray)] 28, Ck.var b3 [.int .i64 0, .string (⟨#[]⟩ : ByteArray), .string (⟨#[]⟩ : ByteArray), .int .i64 0, .int .i64 0, .string (⟨#[]⟩ : ByteArray)] 28, Ck.var b1 [.int .i64 p0.Kind, .string p0.Name, .string p0.To, .int .i64 p0.A, .int .i64 p0.B, .string p0.Text] 29]) a16 hE16 => wpList_nil ?_
  clear hE11 hE12 hE13 hE14
  clear a11 a12 a13 a14
  refine then_normal ?_
  refine wp_seq (wp_region_lit ?_)
  refine st_val hE16 (y_fieldAddr hE16 rfl fa29_2 rfl) rfl fun a17 hE17 => st_val hE17 (y_load_one hE17 rfl (hS15.cells (k := 2) rfl) rfl one9) rfl fun a18 hE18 => st_val hE18 (y_fieldAddr hE18 rfl fa28_2 rfl) rfl fun a19 hE19 => st_store hE19 hS15 [.int .i64 p0.Kind, .string p0.Name, .string p0.To, .int .i64 0, .int .i64 0, .string (⟨#[]⟩ : ByteArray)] rfl rfl (k := 0) rfl rfl (chkOne_size one9) rfl rfl rfl rfl fun w20 (hS20 : SH (Old w) w w20 [Ck.var b5 [.int .i64 p0.Kind, .string p0.Name, .string p0.To, .int .i64 0, .int .i64 0, .string (⟨#[]⟩ : ByteArray)] 28, Ck.var b3 [.int .i64 0, .string (⟨#[]⟩ : ByteArray), .string (⟨#[]⟩ : ByteArray), .int .i64 0, .int .i64 0, .string (⟨#[]⟩ : ByteArray)] 28, Ck.var b1 [.int .i64 p0.Kind, .string p0.Name, .string p0.To, .int .i64 p0.A, .int .i64 p0.B, .string p0.Text] 29]) a21 hE21 => wpList_nil ?_
  clear hE16 hE17 hE18 hE19
  clear a16 a17 a18 a19
  refine then_normal ?_
  refine wp_seq (wp_region_lit ?_)
  refine st_val hE21 (y_fieldAddr hE21 rfl fa29_3 rfl) rfl fun a22 hE22 => st_val hE22 (y_load_one hE22 rfl (hS20.cells (k := 2) rfl) rfl one3) rfl fun a23 hE23 => st_val hE23 (y_fieldAddr hE23 rfl fa28_3 rfl) rfl fun a24 hE24 => st_store hE24 hS20 [.int .i64 p0.Kind, .string p0.Name, .string p0.To, .int .i64 p0.A, .int .i64 0, .string (⟨#[]⟩ : ByteArray)] rfl rfl (k := 0) rfl rfl (chkOne_size one3) rfl rfl rfl rfl fun w25 (hS25 : SH (Old w) w w25 [Ck.var b5 [.int .i64 p0.Kind, .string p0.Name, .string p0.To, .int .i64 p0.A, .int .i64 0, .string (⟨#[]⟩ : ByteArray)] 28, Ck.var b3 [.int .i64 0, .string (⟨#[]⟩ : ByteArray), .string (⟨#[]⟩ : ByteArray), .int .i64 0, .int .i64 0, .string (⟨#[]⟩ : ByteArray)] 28, Ck.var b1 [.int .i64 p0.Kind, .string p0.Name, .string p0.To, .int .i64 p0.A, .int .i64 p0.B, .string p0.Text] 29]) a26 hE26 => wpList_nil ?_
  clear hE21 hE22 hE23 hE24
  clear a21 a22 a23 a24
  refine then_normal ?_
  refine wp_seq (wp_region_lit ?_)
  refine st_val hE26 (y_fieldAddr hE26 rfl fa29_4 rfl) rfl fun a27 hE27 => st_val hE27 (y_load_one hE27 rfl (hS25.cells (k := 2) rfl) rfl one3) rfl fun a28 hE28 => st_val hE28 (y_fieldAddr hE28 rfl fa28_4 rfl) rfl fun a29 hE29 => st_store hE29 hS25 [.int .i64 p0.Kind, .string p0.Name, .string p0.To, .int .i64 p0.A, .int .i64 p0.B, .string (⟨#[]⟩ : ByteArray)] rfl rfl (k := 0) rfl rfl (chkOne_size one3) rfl rfl rfl rfl fun w30 (hS30 : SH (Old w) w w30 [Ck.var b5 [.int .i64 p0.Kind, .string p0.Name, .string p0.To, .int .i64 p0.A, .int .i64 p0.B, .string (⟨#[]⟩ : ByteArray)] 28, Ck.var b3 [.int .i64 0, .string (⟨#[]⟩ : ByteArray), .string (⟨#[]⟩ : ByteArray), .int .i64 0, .int .i64 0, .string (⟨#[]⟩ : ByteArray)] 28, Ck.var b1 [.int .i64 p0.Kind, .string p0.Name, .string p0.To, .int .i64 p0.A, .int .i64 p0.B, .string p0.Text] 29]) a31 hE31 => wpList_nil ?_
  clear hE26 hE27 hE28 hE29
  clear a26 a27 a28 a29
  refine then_normal ?_
  refine wp_seq (wp_region_lit ?_)
  refine st_val hE31 (y_fieldAddr hE31 rfl fa29_5 rfl) rfl fun a32 hE32 => st_val hE32 (y_load_one hE32 rfl (hS30.cells (k := 2) rfl) rfl one9) rfl fun a33 hE33 => st_val hE33 (y_fieldAddr hE33 rfl fa28_5 rfl) rfl fun a34 hE34 => st_store hE34 hS30 [.int .i64 p0.Kind, .string p0.Name, .string p0.To, .int .i64 p0.A, .int .i64 p0.B, .string p0.Text] rfl rfl (k := 0) rfl rfl (chkOne_size one9) rfl rfl rfl rfl fun w35 (hS35 : SH (Old w) w w35 [Ck.var b5 [.int .i64 p0.Kind, .string p0.Name, .string p0.To, .int .i64 p0.A, .int .i64 p0.B, .string p0.Text] 28, Ck.var b3 [.int .i64 0, .string (⟨#[]⟩ : ByteArray), .string (⟨#[]⟩ : ByteArray), .int .i64 0, .int .i64 0, .string (⟨#[]⟩ : ByteArray)] 28, Ck.var b1 [.int .i64 p0.Kind, .string p0.Name, .string p0.To, .int .i64 p0.A, .int .i64 p0.B, .string p0.Text] 29]) a36 hE36 => wpList_nil ?_
  clear hE31 hE32 hE33 hE34
  clear a31 a32 a33 a34
  refine then_normal ?_
  refine wp_seq (wp_region_lit ?_)
  refine st_val hE36 (y_load_agg hE36 rfl (hS35.cells (k := 0) rfl) rfl rfl agg28) rfl fun a37 hE37 => st_store hE37 hS35 [.int .i64 p0.Kind, .string p0.Name, .string p0.To, .int .i64 p0.A, .int .i64 p0.B, .string p0.Text] rfl rfl (k := 1) rfl rfl (chkAgg_size agg28) rfl rfl rfl rfl fun w38 (hS38 : SH (Old w) w w38 [Ck.var b5 [.int .i64 p0.Kind, .string p0.Name, .string p0.To, .int .i64 p0.A, .int .i64 p0.B, .string p0.Text] 28, Ck.var b3 [.int .i64 p0.Kind, .string p0.Name, .string p0.To, .int .i64 p0.A, .int .i64 p0.B, .string p0.Text] 28, Ck.var b1 [.int .i64 p0.Kind, .string p0.Name, .string p0.To, .int .i64 p0.A, .int .i64 p0.B, .string p0.Text] 29]) a39 hE39 => wpList_nil ?_
  clear hE36 hE37
  clear a36 a37
  refine then_normal ?_
  refine wp_ret ?_
  refine finC hE39 hS38 rfl rfl (k := 1) rfl agg28 rfl ?_
  rw [hM]
  exact ⟨_, _, rfl, hS38.below, Call_own (x := p0) hg90000_0 hg90000_1 hg90000_2 hg90000_3 hg90000_4 hg90000_5, List.nodup_nil, ge_nil⟩

/- F109 loop.example/g00974/laws.toAnswer -/
def laws_toAnswer (p0 : Answer) : Answer := p0
theorem c_laws_toAnswer {c0 : List Value} (p0 : Answer) {w : World} (hp0 : Dat.rd (Old w) w c0 p0) :
    Calls Tryd.prog 109 [.agg c0.toArray].toArray w (fun e w' => ∃ cs F, e = .returned (.agg cs.toArray) ∧ Below w.heap.size w w' ∧ Dat.own w' cs (laws_toAnswer p0) F ∧ F.Nodup ∧ ∀ b ∈ F, w.heap.size ≤ b) := by
  obtain ⟨rfl, hg90000_0, hg90000_1, hg90000_2, _⟩ := Answer_open hp0
  refine enter Tryd.func109 rfl Tryd.ntmps109 (Nat.le_of_ble_eq_true rfl) ?_
  intro a0 hE0
  have hS0 := SH.start w
  have hM := laws_toAnswer.eq_1 p0
  refine wp_seq (wp_region_lit ?_)
  refine st_box hE0 hS0 rfl rfl rfl fun b1 w1 hS1 a2 hE2 => st_alloc hE2 hS1 Tryd.zeroValue122 rfl rfl fun b3 w3 hS3 a4 hE4 => wpList_nil ?_
  clear hE0 hE2
  clear a0 a2
  refine then_normal ?_
  refine wp_seq (wp_region_lit ?_)
  refine st_alloc hE4 hS3 Tryd.zeroValue122 rfl rfl fun b5 w5 hS5 a6 hE6 => wpList_nil ?_
  clear hE4
  clear a4
  refine then_normal ?_
  refine wp_seq (wp_region_lit ?_)
  refine st_val hE6 (y_fieldAddr hE6 rfl fa134_0 rfl) rfl fun a7 hE7 => st_val hE7 (y_load_one hE7 rfl (hS5.cells (k := 2) rfl) rfl one3) rfl fun a8 hE8 => st_val hE8 (y_fieldAddr hE8 rfl fa122_0 rfl) rfl fun a9 hE9 => st_store hE9 hS5 [.int .i64 p0.Code, .int .i64 0, .string (⟨#[]⟩ : ByteArray)] rfl rfl (k := 0) rfl rfl (chkOne_size one3) rfl rfl rfl rfl fun w10 (hS10 : SH (Old w) w w10 [Ck.var b5 [.int .i64 p0.Code, .int .i64 0, .string (⟨#[]⟩ : ByteArray)] 122, Ck.var b3 [.int .i64 0, .int .i64 0, .string (⟨#[]⟩ : ByteArray)] 122, Ck.var b1 [.int .i64 p0.Code, .int .i64 p0.N, .string p0.Text] 134]) a11 hE11 => wpList_nil ?_
  clear hE6 hE7 hE8 hE9
  clear a6 a7 a8 a9
  refine then_normal ?_
  refine wp_seq (wp_region_lit ?_)
  refine st_val hE11 (y_fieldAddr hE11 rfl fa134_1 rfl) rfl fun a12 hE12 => st_val hE12 (y_load_one hE12 rfl (hS10.cells (k := 2) rfl) rfl one3) rfl fun a13 hE13 => st_val hE13 (y_fieldAddr hE13 rfl fa122_1 rfl) rfl fun a14 hE14 => st_store hE14 hS10 [.int .i64 p0.Code, .int .i64 p0.N, .string (⟨#[]⟩ : ByteArray)] rfl rfl (k := 0) rfl rfl (chkOne_size one3) rfl rfl rfl rfl fun w15 (hS15 : SH (Old w) w w15 [Ck.var b5 [.int .i64 p0.Code, .int .i64 p0.N, .string (⟨#[]⟩ : ByteArray)] 122, Ck.var b3 [.int .i64 0, .int .i64 0, .string (⟨#[]⟩ : ByteArray)] 122, Ck.var b1 [.int .i64 p0.Code, .int .i64 p0.N, .string p0.Text] 134]) a16 hE16 => wpList_nil ?_
  clear hE11 hE12 hE13 hE14
  clear a11 a12 a13 a14
  refine then_normal ?_
  refine wp_seq (wp_region_lit ?_)
  refine st_val hE16 (y_fieldAddr hE16 rfl fa134_2 rfl) rfl fun a17 hE17 => st_val hE17 (y_load_one hE17 rfl (hS15.cells (k := 2) rfl) rfl one9) rfl fun a18 hE18 => st_val hE18 (y_fieldAddr hE18 rfl fa122_2 rfl) rfl fun a19 hE19 => st_store hE19 hS15 [.int .i64 p0.Code, .int .i64 p0.N, .string p0.Text] rfl rfl (k := 0) rfl rfl (chkOne_size one9) rfl rfl rfl rfl fun w20 (hS20 : SH (Old w) w w20 [Ck.var b5 [.int .i64 p0.Code, .int .i64 p0.N, .string p0.Text] 122, Ck.var b3 [.int .i64 0, .int .i64 0, .string (⟨#[]⟩ : ByteArray)] 122, Ck.var b1 [.int .i64 p0.Code, .int .i64 p0.N, .string p0.Text] 134]) a21 hE21 => wpList_nil ?_
  clear hE16 hE17 hE18 hE19
  clear a16 a17 a18 a19
  refine then_normal ?_
  refine wp_seq (wp_region_lit ?_)
  refine st_val hE21 (y_load_agg hE21 rfl (hS20.cells (k := 0) rfl) rfl rfl agg122) rfl fun a22 hE22 => st_store hE22 hS20 [.int .i64 p0.Code, .int .i64 p0.N, .string p0.Text] rfl rfl (k := 1) rfl rfl (chkAgg_size agg122) rfl rfl rfl rfl fun w23 (hS23 : SH (Old w) w w23 [Ck.var b5 [.int .i64 p0.Code, .int .i64 p0.N, .string p0.Text] 122, Ck.var b3 [.int .i64 p0.Code, .int .i64 p0.N, .string p0.Text] 122, Ck.var b1 [.int .i64 p0.Code, .int .i64 p0.N, .string p0.Text] 134]) a24 hE24 => wpList_nil ?_
  clear hE21 hE22
  clear a21 a22
  refine then_normal ?_
  refine wp_ret ?_
  refine finC hE24 hS23 rfl rfl (k := 1) rfl agg122 rfl ?_
  rw [hM]
  exact ⟨_, _, rfl, hS23.below, Answer_own (x := p0) hg90000_0 hg90000_1 hg90000_2, List.nodup_nil, ge_nil⟩

/- F92 loop.example/g00974/laws.toAnswerS -/
def laws_toAnswerS_l1 (p0 : List Answer) : Nat → Nat → List Answer → List Answer
  | 0, i1, y1_0 => y1_0
  | fu1 + 1, i1, y1_0 => laws_toAnswerS_l1 p0 fu1 (i1 + 1) (y1_0 ++ [(laws_toAnswer (nth p0 i1))])
def laws_toAnswerS (p0 : List Answer) : List Answer := laws_toAnswerS_l1 p0 (p0.length - 0) 0 []
theorem c_laws_toAnswerS {v0 : Value} (p0 : List Answer) {w : World} (hp0 : SlR (Old w) w v0 p0) (hsm0 : Dat.small 1048576 p0) :
    Calls Tryd.prog 92 [v0].toArray w (fun e w' => ∃ v F, e = .returned v ∧ Below w.heap.size w w' ∧ SlO w' v (laws_toAnswerS p0) F ∧ F.Nodup ∧ ∀ b ∈ F, w.heap.size ≤ b) := by
  have hln0 : p0.length ≤ 1048576 := hsm0.1
  obtain ⟨A0, cap0, rfl, hx0⟩ := hp0.form
  refine enter Tryd.func92 rfl Tryd.ntmps92 (Nat.le_of_ble_eq_true rfl) ?_
  intro a0 hE0
  have hS0 := SH.start w
  have hM := laws_toAnswerS.eq_1 p0
  refine wp_seq (wp_region_lit ?_)
  refine st_val hE0 (y_assign hE0 rfl) rfl fun a1 hE1 => wpList_nil ?_
  clear hE0
  clear a0
  refine then_normal ?_
  refine wp_seq (wp_region_lit ?_)
  refine st_val hE1 (y_move hE1 rfl) rfl fun a2 hE2 => st_val hE2 (y_len_slice hE2 rfl sl80) rfl fun a3 hE3 => st_makeSlice (α := Answer) hE3 hS0 sl87 Tryd.zeroValue122 rfl rfl (by omega) (by omega) rfl fun g4 w4 hS4 a5 hE5 => st_val hE5 (y_assign hE5 rfl) rfl fun a6 hE6 => wpList_nil ?_
  clear hE1 hE2 hE3 hE5
  clear a1 a2 a3 a5
  refine then_normal ?_
  refine wp_seq (wp_seq (wp_region_lit ?_))
  refine st_val hE6 (y_assign hE6 rfl) rfl fun a7 hE7 => wpList_nil ?_
  clear hE6
  clear a6
  refine then_normal ?_
  refine wp_block (wp_loop_ghost (fun fu1 a w2 => ∃ (i1 : Nat) (y1_0 : List Answer) (Fy1_0 : List Nat), 0 ≤ i1 ∧ fu1 = p0.length - i1 ∧ (i1 ≤ p0.length ∨ i1 = 0) ∧ y1_0.length = i1 ∧ i1 ≤ p0.length ∧ laws_toAnswerS p0 = laws_toAnswerS_l1 p0 fu1 i1 y1_0 ∧ Env 23 [(0, .slice A0 p0.length cap0), (3, .slice (some ⟨g4, 0, none⟩) p0.length p0.length), (4, .int .i64 (i1 : Int))] a ∧ SH (Old w) w w2 [Ck.fill (α := Answer) g4 p0.length 122 y1_0 Fy1_0]) (p0.length - 0) ⟨0, [], [g4], Nat.le_refl _, rfl, .inr rfl, rfl, Nat.zero_le _, hM, hE7.weaken ⟨rfl, rfl, rfl, trivial⟩, hS4⟩ ?_)
  clear hM hE7 hS4
  rintro fu1 a8 w8 ⟨i1, y1_0, Fy1_0, hi1, hfu1, hup1, hy1_0, hz1_0, hM, hE8, hS8⟩
  refine wp_seq (wp_seq (wp_region_lit ?_))
  refine st_val hE8 (y_move hE8 rfl) rfl fun a9 hE9 => st_val hE9 (y_move hE9 rfl) rfl fun a10 hE10 => st_val hE10 (y_len_slice hE10 rfl sl80) rfl fun a11 hE11 => st_val hE11 (y_lss hE11 rfl rfl) rfl fun a12 hE12 => wpList_nil ?_
  clear hE8 hE9 hE10 hE11
  clear a8 a9 a10 a11
  refine then_normal ?_
  refine cond_split hE12 rfl (fun hb13 => ?_) (fun hb13 => ?_)
  ·
    have hlt1 : i1 < p0.length := by have := of_decide_eq_true hb13; omega
    obtain ⟨fu1, rfl⟩ : ∃ m, fu1 = m + 1 := ⟨fu1 - 1, by omega⟩
    have hM := hM.trans (laws_toAnswerS_l1.eq_2 _ _ _ _)
    refine wp_skip ?_
    refine then_normal ?_
    refine wp_seq (wp_block (wp_region_lit ?_))
    refine st_val hE12 (y_move hE12 rfl) rfl fun a14 hE14 => st_val hE14 (y_move hE14 rfl) rfl fun a15 hE15 => st_val hE15 (y_move hE15 rfl) rfl fun a16 hE16 => st_val hE16 (y_move hE16 rfl) rfl fun a17 hE17 => st_index hE17 hp0 rfl rfl rfl (by omega) sl80 rfl fun ad18 cs18 hr18 hc18 hl18 a19 hE19 => ?_
    obtain ⟨rfl, hg18_0, hg18_1, hg18_2, _⟩ := Answer_open hr18
    refine st_val hE19 (y_load_agg hE19 rfl (hS8.upc hc18 hl18) rfl rfl agg134) rfl fun a20 hE20 => st_callO (mk := fun cs => .agg cs.toArray) hE20 hS8 Tryd.func109 fb109 fn109 (c_laws_toAnswer (nth p0 i1) (hS8.upd hr18)) rfl rfl fun cs21 F21 w21 hS21 a22 hE22 => st_val hE22 (y_indexAddr hE22 rfl rfl (by omega) (by omega) sl87) rfl fun a23 hE23 => st_fill (k := 0) (ys := y1_0) hE23 hS21 rfl (by omega) (by omega) rfl rfl rfl (chkAgg_size agg122) (hS21.oneO (k := 0) rfl) fun w24 (hS24 : SH (Old w) w w24 [Ck.fill (α := Answer) g4 p0.length 122 (y1_0 ++ [(laws_toAnswer (nth p0 i1))]) (Fy1_0 ++ F21)]) a25 hE25 => wpList_nil ?_
    clear hE12 hE14 hE15 hE16 hE17 hE19 hE20 hE22 hE23
    clear a12 a14 a15 a16 a17 a19 a20 a22 a23
    refine blk_normal ?_
    refine then_normal ?_
    refine wp_region_lit ?_
    refine st_val hE25 (y_move hE25 rfl) rfl fun a26 hE26 => st_val hE26 (y_add_in hE26 rfl rfl (m := ((i1 + 1 : Nat) : Int)) (by omega) (by omega) (by omega)) rfl fun a27 hE27 => st_val hE27 (y_assign hE27 rfl) rfl fun a28 hE28 => wpList_nil ?_
    clear hE25 hE26 hE27
    clear a25 a26 a27
    refine then_normal ⟨fu1, Nat.lt_succ_self _, (i1 + 1), y1_0 ++ [(laws_toAnswer (nth p0 i1))], Fy1_0 ++ F21, by omega, by omega, .inl (by omega), (by rw [List.length_append, hy1_0]; rfl), (by omega), hM, hE28.weaken ⟨rfl, rfl, rfl, trivial⟩, hS24⟩
  ·
    have hge1 : ¬ i1 < p0.length := by have := of_decide_eq_false hb13; omega
    obtain rfl : fu1 = 0 := by omega
    have hM := hM.trans (laws_toAnswerS_l1.eq_1 _ _ _)
    refine wp_exit ?_
    refine then_exit ?_
    refine then_exit ?_
    refine blk_exit ?_
    refine then_normal ?_
    refine wp_seq (wp_region_lit ?_)
    refine st_val hE12 (y_move hE12 rfl) rfl fun a29 hE29 => st_val hE29 (y_assign hE29 rfl) rfl fun a30 hE30 => wpList_nil ?_
    clear hE12 hE29
    clear a12 a29
    refine then_normal ?_
    refine wp_ret ?_
    have hS31 := hS8.conv (k := 0) rfl (Ck.own [.slice (some ⟨g4, 0, none⟩) p0.length p0.length] y1_0 Fy1_0) rfl (fill_own (by omega) (by unfold maxLen; omega))
    refine fin1 hE30 rfl rfl ?_
    rw [hM]
    exact ⟨_, _, rfl, hS31.below, hS31.slO (k := 0) rfl, hS31.nd (k := 0) rfl, hS31.ge' (k := 0) rfl⟩

/- F39 loop.example/g00974/laws.eqCall -/
def laws_eqCall (p0 : Call) (p1 : Call) : Bool := (if (!decide (p0.Kind = p1.Kind)) = true then false else (if (!decide (p0.Name = p1.Name)) = true then false else (if (!decide (p0.To = p1.To)) = true then false else (if (!decide (p0.A = p1.A)) = true then false else (if (!decide (p0.B = p1.B)) = true then false else (if (!decide (p0.Text = p1.Text)) = true then false else true))))))
theorem c_laws_eqCall {c0 : List Value} (p0 : Call) {c1 : List Value} (p1 : Call) {w : World} (hp0 : Dat.rd (Old w) w c0 p0) (hp1 : Dat.rd (Old w) w c1 p1) :
    Calls Tryd.prog 39 [.agg c0.toArray, .agg c1.toArray].toArray w (fun e w' => e = .returned (.bool (laws_eqCall p0 p1)) ∧ Below w.heap.size w w') := by
  obtain ⟨rfl, hg90000_0, hg90000_1, hg90000_2, hg90000_3, hg90000_4, hg90000_5, _⟩ := Call_open hp0
  obtain ⟨rfl, hg90001_0, hg90001_1, hg90001_2, hg90001_3, hg90001_4, hg90001_5, _⟩ := Call_open hp1
  refine enter Tryd.func39 rfl Tryd.ntmps39 (Nat.le_of_ble_eq_true rfl) ?_
  intro a0 hE0
  have hS0 := SH.start w
  have hM := laws_eqCall.eq_1 p0 p1
  refine wp_seq (wp_region_lit ?_)
  refine st_box hE0 hS0 rfl rfl rfl fun b1 w1 hS1 a2 hE2 => st_box hE2 hS1 rfl rfl rfl fun b3 w3 hS3 a4 hE4 => st_val hE4 (y_assign hE4 rfl) rfl fun a5 hE5 => wpList_nil ?_
  clear hE0 hE2 hE4
  clear a0 a2 a4
  refine then_normal ?_
  refine wp_seq (wp_seq (wp_region_lit ?_))
  refine st_val hE5 (y_fieldAddr hE5 rfl fa28_0 rfl) rfl fun a6 hE6 => st_val hE6 (y_load_one hE6 rfl (hS3.cells (k := 1) rfl) rfl one3) rfl fun a7 hE7 => st_val hE7 (y_fieldAddr hE7 rfl fa28_0 rfl) rfl fun a8 hE8 => st_val hE8 (y_load_one hE8 rfl (hS3.cells (k := 0) rfl) rfl one3) rfl fun a9 hE9 => st_val hE9 (y_neq hE9 rfl rfl) rfl fun a10 hE10 => wpList_nil ?_
  clear hE5 hE6 hE7 hE8 hE9
  clear a5 a6 a7 a8 a9
  refine then_normal ?_
  refine cond_split hE10 rfl (fun hb11 => ?_) (fun hb11 => ?_)
  ·
    have hM := hM.trans (if_t hb11)
    have hb11f : ¬ (p0.Kind = p1.Kind) := by simpa using hb11
    refine wp_seq (wp_region_lit ?_)
    refine st_val hE10 (y_assign hE10 rfl) rfl fun a12 hE12 => wpList_nil ?_
    clear hE10
    clear a10
    refine then_normal ?_
    refine wp_ret ?_
    refine then_ret ?_
    exact fin1 hE12 rfl rfl ⟨by rw [hM], hS3.below⟩
  ·
    have hM := hM.trans (if_f hb11)
    have hb11f : p0.Kind = p1.Kind := by simpa using hb11
    refine wp_skip ?_
    refine then_normal ?_
    refine wp_seq (wp_seq (wp_region_lit ?_))
    refine st_val hE10 (y_fieldAddr hE10 rfl fa28_1 rfl) rfl fun a13 hE13 => st_val hE13 (y_load_one hE13 rfl (hS3.cells (k := 1) rfl) rfl one9) rfl fun a14 hE14 => st_val hE14 (y_fieldAddr hE14 rfl fa28_1 rfl) rfl fun a15 hE15 => st_val hE15 (y_load_one hE15 rfl (hS3.cells (k := 0) rfl) rfl one9) rfl fun a16 hE16 => st_val hE16 (y_neq_string hE16 rfl rfl) rfl fun a17 hE17 => wpList_nil ?_
    clear hE10 hE13 hE14 hE15 hE16
    clear a10 a13 a14 a15 a16
    refine then_normal ?_
    refine cond_split hE17 rfl (fun hb18 => ?_) (fun hb18 => ?_)
    ·
      have hM := hM.trans (if_t hb18)
      refine wp_seq (wp_region_lit ?_)
      refine st_val hE17 (y_assign hE17 rfl) rfl fun a19 hE19 => wpList_nil ?_
      clear hE17
      clear a17
      refine then_normal ?_
      refine wp_ret ?_
      refine then_ret ?_
      exact fin1 hE19 rfl rfl ⟨by rw [hM], hS3.below⟩
    ·
      have hM := hM.trans (if_f hb18)
      refine wp_skip ?_
      refine then_normal ?_
      refine wp_seq (wp_seq (wp_region_lit ?_))
      refine st_val hE17 (y_fieldAddr hE17 rfl fa28_2 rfl) rfl fun a20 hE20 => st_val hE20 (y_load_one hE20 rfl (hS3.cells (k := 1) rfl) rfl one9) rfl fun a21 hE21 => st_val hE21 (y_fieldAddr hE21 rfl fa28_2 rfl) rfl fun a22 hE22 => st_val hE22 (y_load_one hE22 rfl (hS3.cells (k := 0) rfl) rfl one9) rfl fun a23 hE23 => st_val hE23 (y_neq_string hE23 rfl rfl) rfl fun a24 hE24 => wpList_nil ?_
      clear hE17 hE20 hE21 hE22 hE23
      clear a17 a20 a21 a22 a23
      refine then_normal ?_
      refine cond_split hE24 rfl (fun hb25 => ?_) (fun hb25 => ?_)
      ·
        have hM := hM.trans (if_t hb25)
        refine wp_seq (wp_region_lit ?_)
        refine st_val hE24 (y_assign hE24 rfl) rfl fun a26 hE26 => wpList_nil ?_
        clear hE24
        clear a24
        refine then_normal ?_
        refine wp_ret ?_
        refine then_ret ?_
        exact fin1 hE26 rfl rfl ⟨by rw [hM], hS3.below⟩
      ·
        have hM := hM.trans (if_f hb25)
        refine wp_skip ?_
        refine then_normal ?_
        refine wp_seq (wp_seq (wp_region_lit ?_))
        refine st_val hE24 (y_fieldAddr hE24 rfl fa28_3 rfl) rfl fun a27 hE27 => st_val hE27 (y_load_one hE27 rfl (hS3.cells (k := 1) rfl) rfl one3) rfl fun a28 hE28 => st_val hE28 (y_fieldAddr hE28 rfl fa28_3 rfl) rfl fun a29 hE29 => st_val hE29 (y_load_one hE29 rfl (hS3.cells (k := 0) rfl) rfl one3) rfl fun a30 hE30 => st_val hE30 (y_neq hE30 rfl rfl) rfl fun a31 hE31 => wpList_nil ?_
        clear hE24 hE27 hE28 hE29 hE30
        clear a24 a27 a28 a29 a30
        refine then_normal ?_
        refine cond_split hE31 rfl (fun hb32 => ?_) (fun hb32 => ?_)
        ·
          have hM := hM.trans (if_t hb32)
          have hb32f : ¬ (p0.A = p1.A) := by simpa using hb32
          refine wp_seq (wp_region_lit ?_)
          refine st_val hE31 (y_assign hE31 rfl) rfl fun a33 hE33 => wpList_nil ?_
          clear hE31
          clear a31
          refine then_normal ?_
          refine wp_ret ?_
          refine then_ret ?_
          exact fin1 hE33 rfl rfl ⟨by rw [hM], hS3.below⟩
        ·
          have hM := hM.trans (if_f hb32)
          have hb32f : p0.A = p1.A := by simpa using hb32
          refine wp_skip ?_
          refine then_normal ?_
          refine wp_seq (wp_seq (wp_region_lit ?_))
          refine st_val hE31 (y_fieldAddr hE31 rfl fa28_4 rfl) rfl fun a34 hE34 => st_val hE34 (y_load_one hE34 rfl (hS3.cells (k := 1) rfl) rfl one3) rfl fun a35 hE35 => st_val hE35 (y_fieldAddr hE35 rfl fa28_4 rfl) rfl fun a36 hE36 => st_val hE36 (y_load_one hE36 rfl (hS3.cells (k := 0) rfl) rfl one3) rfl fun a37 hE37 => st_val hE37 (y_neq hE37 rfl rfl) rfl fun a38 hE38 => wpList_nil ?_
          clear hE31 hE34 hE35 hE36 hE37
          clear a31 a34 a35 a36 a37
          refine then_normal ?_
          refine cond_split hE38 rfl (fun hb39 => ?_) (fun hb39 => ?_)
          ·
            have hM := hM.trans (if_t hb39)
            have hb39f : ¬ (p0.B = p1.B) := by simpa using hb39
            refine wp_seq (wp_region_lit ?_)
            refine st_val hE38 (y_assign hE38 rfl) rfl fun a40 hE40 => wpList_nil ?_
            clear hE38
            clear a38
            refine then_normal ?_
            refine wp_ret ?_
            refine then_ret ?_
            exact fin1 hE40 rfl rfl ⟨by rw [hM], hS3.below⟩
          ·
            have hM := hM.trans (if_f hb39)
            have hb39f : p0.B = p1.B := by simpa using hb39
            refine wp_skip ?_
            refine then_normal ?_
            refine wp_seq (wp_seq (wp_region_lit ?_))
            refine st_val hE38 (y_fieldAddr hE38 rfl fa28_5 rfl) rfl fun a41 hE41 => st_val hE41 (y_load_one hE41 rfl (hS3.cells (k := 1) rfl) rfl one9) rfl fun a42 hE42 => st_val hE42 (y_fieldAddr hE42 rfl fa28_5 rfl) rfl fun a43 hE43 => st_val hE43 (y_load_one hE43 rfl (hS3.cells (k := 0) rfl) rfl one9) rfl fun a44 hE44 => st_val hE44 (y_neq_string hE44 rfl rfl) rfl fun a45 hE45 => wpList_nil ?_
            clear hE38 hE41 hE42 hE43 hE44
            clear a38 a41 a42 a43 a44
            refine then_normal ?_
            refine cond_split hE45 rfl (fun hb46 => ?_) (fun hb46 => ?_)
            ·
              have hM := hM.trans (if_t hb46)
              refine wp_seq (wp_region_lit ?_)
              refine st_val hE45 (y_assign hE45 rfl) rfl fun a47 hE47 => wpList_nil ?_
              clear hE45
              clear a45
              refine then_normal ?_
              refine wp_ret ?_
              refine then_ret ?_
              exact fin1 hE47 rfl rfl ⟨by rw [hM], hS3.below⟩
            ·
              have hM := hM.trans (if_f hb46)
              refine wp_skip ?_
              refine then_normal ?_
              refine wp_seq (wp_region_lit ?_)
              refine st_val hE45 (y_assign hE45 rfl) rfl fun a48 hE48 => wpList_nil ?_
              clear hE45
              clear a45
              refine then_normal ?_
              refine wp_ret ?_
              exact fin1 hE48 rfl rfl ⟨by rw [hM], hS3.below⟩

/- F113 loop.example/g00974/laws.eqAnswer -/
def laws_eqAnswer (p0 : Answer) (p1 : Answer) : Bool := (if (!decide (p0.Code = p1.Code)) = true then false else (if (!decide (p0.N = p1.N)) = true then false else (if (!decide (p0.Text = p1.Text)) = true then false else true)))
theorem c_laws_eqAnswer {c0 : List Value} (p0 : Answer) {c1 : List Value} (p1 : Answer) {w : World} (hp0 : Dat.rd (Old w) w c0 p0) (hp1 : Dat.rd (Old w) w c1 p1) :
    Calls Tryd.prog 113 [.agg c0.toArray, .agg c1.toArray].toArray w (fun e w' => e = .returned (.bool (laws_eqAnswer p0 p1)) ∧ Below w.heap.size w w') := by
  obtain ⟨rfl, hg90000_0, hg90000_1, hg90000_2, _⟩ := Answer_open hp0
  obtain ⟨rfl, hg90001_0, hg90001_1, hg90001_2, _⟩ := Answer_open hp1
  refine enter Tryd.func113 rfl Tryd.ntmps113 (Nat.le_of_ble_eq_true rfl) ?_
  intro a0 hE0
  have hS0 := SH.start w
  have hM := laws_eqAnswer.eq_1 p0 p1
  refine wp_seq (wp_region_lit ?_)
  refine st_box hE0 hS0 rfl rfl rfl fun b1 w1 hS1 a2 hE2 => st_box hE2 hS1 rfl rfl rfl fun b3 w3 hS3 a4 hE4 => st_val hE4 (y_assign hE4 rfl) rfl fun a5 hE5 => wpList_nil ?_
  clear hE0 hE2 hE4
  clear a0 a2 a4
  refine then_normal ?_
  refine wp_seq (wp_seq (wp_region_lit ?_))
  refine st_val hE5 (y_fieldAddr hE5 rfl fa122_0 rfl) rfl fun a6 hE6 => st_val hE6 (y_load_one hE6 rfl (hS3.cells (k := 1) rfl) rfl one3) rfl fun a7 hE7 => st_val hE7 (y_fieldAddr hE7 rfl fa122_0 rfl) rfl fun a8 hE8 => st_val hE8 (y_load_one hE8 rfl (hS3.cells (k := 0) rfl) rfl one3) rfl fun a9 hE9 => st_val hE9 (y_neq hE9 rfl rfl) rfl fun a10 hE10 => wpList_nil ?_
  clear hE5 hE6 hE7 hE8 hE9
  clear a5 a6 a7 a8 a9
  refine then_normal ?_
  refine cond_split hE10 rfl (fun hb11 => ?_) (fun hb11 => ?_)
  ·
    have hM := hM.trans (if_t hb11)
    have hb11f : ¬ (p0.Code = p1.Code) := by simpa using hb11
    refine wp_seq (wp_region_lit ?_)
    refine st_val hE10 (y_assign hE10 rfl) rfl fun a12 hE12 => wpList_nil ?_
    clear hE10
    clear a10
    refine then_normal ?_
    refine wp_ret ?_
    refine then_ret ?_
    exact fin1 hE12 rfl rfl ⟨by rw [hM], hS3.below⟩
  ·
    have hM := hM.trans (if_f hb11)
    have hb11f : p0.Code = p1.Code := by simpa using hb11
    refine wp_skip ?_
    refine then_normal ?_
    refine wp_seq (wp_seq (wp_region_lit ?_))
    refine st_val hE10 (y_fieldAddr hE10 rfl fa122_1 rfl) rfl fun a13 hE13 => st_val hE13 (y_load_one hE13 rfl (hS3.cells (k := 1) rfl) rfl one3) rfl fun a14 hE14 => st_val hE14 (y_fieldAddr hE14 rfl fa122_1 rfl) rfl fun a15 hE15 => st_val hE15 (y_load_one hE15 rfl (hS3.cells (k := 0) rfl) rfl one3) rfl fun a16 hE16 => st_val hE16 (y_neq hE16 rfl rfl) rfl fun a17 hE17 => wpList_nil ?_
    clear hE10 hE13 hE14 hE15 hE16
    clear a10 a13 a14 a15 a16
    refine then_normal ?_
    refine cond_split hE17 rfl (fun hb18 => ?_) (fun hb18 => ?_)
    ·
      have hM := hM.trans (if_t hb18)
      have hb18f : ¬ (p0.N = p1.N) := by simpa using hb18
      refine wp_seq (wp_region_lit ?_)
      refine st_val hE17 (y_assign hE17 rfl) rfl fun a19 hE19 => wpList_nil ?_
      clear hE17
      clear a17
      refine then_normal ?_
      refine wp_ret ?_
      refine then_ret ?_
      exact fin1 hE19 rfl rfl ⟨by rw [hM], hS3.below⟩
    ·
      have hM := hM.trans (if_f hb18)
      have hb18f : p0.N = p1.N := by simpa using hb18
      refine wp_skip ?_
      refine then_normal ?_
      refine wp_seq (wp_seq (wp_region_lit ?_))
      refine st_val hE17 (y_fieldAddr hE17 rfl fa122_2 rfl) rfl fun a20 hE20 => st_val hE20 (y_load_one hE20 rfl (hS3.cells (k := 1) rfl) rfl one9) rfl fun a21 hE21 => st_val hE21 (y_fieldAddr hE21 rfl fa122_2 rfl) rfl fun a22 hE22 => st_val hE22 (y_load_one hE22 rfl (hS3.cells (k := 0) rfl) rfl one9) rfl fun a23 hE23 => st_val hE23 (y_neq_string hE23 rfl rfl) rfl fun a24 hE24 => wpList_nil ?_
      clear hE17 hE20 hE21 hE22 hE23
      clear a17 a20 a21 a22 a23
      refine then_normal ?_
      refine cond_split hE24 rfl (fun hb25 => ?_) (fun hb25 => ?_)
      ·
        have hM := hM.trans (if_t hb25)
        refine wp_seq (wp_region_lit ?_)
        refine st_val hE24 (y_assign hE24 rfl) rfl fun a26 hE26 => wpList_nil ?_
        clear hE24
        clear a24
        refine then_normal ?_
        refine wp_ret ?_
        refine then_ret ?_
        exact fin1 hE26 rfl rfl ⟨by rw [hM], hS3.below⟩
      ·
        have hM := hM.trans (if_f hb25)
        refine wp_skip ?_
        refine then_normal ?_
        refine wp_seq (wp_region_lit ?_)
        refine st_val hE24 (y_assign hE24 rfl) rfl fun a27 hE27 => wpList_nil ?_
        clear hE24
        clear a24
        refine then_normal ?_
        refine wp_ret ?_
        exact fin1 hE27 rfl rfl ⟨by rw [hM], hS3.below⟩

/- F97 loop.example/g00974/laws.eqAnswerS -/
def laws_eqAnswerS_l1 (p0 : List Answer) (p1 : List Answer) : Nat → Nat → Bool
  | 0, i1 => true
  | fu1 + 1, i1 => (if (!(laws_eqAnswer (nth p0 i1) (nth p1 i1))) = true then false else laws_eqAnswerS_l1 p0 p1 fu1 (i1 + 1) )
def laws_eqAnswerS (p0 : List Answer) (p1 : List Answer) : Bool := (if (!decide ((p0.length : Int) = (p1.length : Int))) = true then false else laws_eqAnswerS_l1 p0 p1 (p0.length - 0) 0 )
theorem c_laws_eqAnswerS {v0 : Value} (p0 : List Answer) {v1 : Value} (p1 : List Answer) {w : World} (hp0 : SlR (Old w) w v0 p0) (hp1 : SlR (Old w) w v1 p1) :
    Calls Tryd.prog 97 [v0, v1].toArray w (fun e w' => e = .returned (.bool (laws_eqAnswerS p0 p1)) ∧ Below w.heap.size w w') := by
  obtain ⟨A0, cap0, rfl, hx0⟩ := hp0.form
  obtain ⟨A1, cap1, rfl, hx1⟩ := hp1.form
  refine enter Tryd.func97 rfl Tryd.ntmps97 (Nat.le_of_ble_eq_true rfl) ?_
  intro a0 hE0
  have hS0 := SH.start w
  have hM := laws_eqAnswerS.eq_1 p0 p1
  refine wp_seq (wp_region_lit ?_)
  refine st_val hE0 (y_assign hE0 rfl) rfl fun a1 hE1 => wpList_nil ?_
  clear hE0
  clear a0
  refine then_normal ?_
  refine wp_seq (wp_seq (wp_region_lit ?_))
  refine st_val hE1 (y_move hE1 rfl) rfl fun a2 hE2 => st_val hE2 (y_len_slice hE2 rfl sl87) rfl fun a3 hE3 => st_val hE3 (y_move hE3 rfl) rfl fun a4 hE4 => st_val hE4 (y_len_slice hE4 rfl sl87) rfl fun a5 hE5 => st_val hE5 (y_neq hE5 rfl rfl) rfl fun a6 hE6 => wpList_nil ?_
  clear hE1 hE2 hE3 hE4 hE5
  clear a1 a2 a3 a4 a5
  refine then_normal ?_
  refine cond_split hE6 rfl (fun hb7 => ?_) (fun hb7 => ?_)
  ·
    have hM := hM.trans (if_t hb7)
    have hb7f : ¬ ((p0.length : Int) = (p1.length : Int)) := by simpa using hb7
    refine wp_seq (wp_region_lit ?_)
    refine st_val hE6 (y_assign hE6 rfl) rfl fun a8 hE8 => wpList_nil ?_
    clear hE6
    clear a6
    refine then_normal ?_
    refine wp_ret ?_
    refine then_ret ?_
    exact fin1 hE8 rfl rfl ⟨by rw [hM], hS0.below⟩
  ·
    have hM := hM.trans (if_f hb7)
    have hb7f : (p0.length : Int) = (p1.length : Int) := by simpa using hb7
    refine wp_skip ?_
    refine then_normal ?_
    refine wp_seq (wp_seq (wp_region_lit ?_))
    refine st_val hE6 (y_assign hE6 rfl) rfl fun a9 hE9 => wpList_nil ?_
    clear hE6
    clear a6
    refine then_normal ?_
    refine wp_block (wp_loop_ghost (fun fu1 a w2 => ∃ (i1 : Nat), 0 ≤ i1 ∧ fu1 = p0.length - i1 ∧ laws_eqAnswerS p0 p1 = laws_eqAnswerS_l1 p0 p1 fu1 i1  ∧ Env 27 [(0, .slice A0 p0.length cap0), (1, .slice A1 p1.length cap1), (5, .int .i64 (i1 : Int))] a ∧ SH (Old w) w w2 []) (p0.length - 0) ⟨0, Nat.le_refl _, rfl, hM, hE9.weaken ⟨rfl, rfl, rfl, trivial⟩, hS0⟩ ?_)
    clear hM hE9
    rintro fu1 a10 w10 ⟨i1, hi1, hfu1, hM, hE10, hS10⟩
    refine wp_seq (wp_seq (wp_region_lit ?_))
    refine st_val hE10 (y_move hE10 rfl) rfl fun a11 hE11 => st_val hE11 (y_move hE11 rfl) rfl fun a12 hE12 => st_val hE12 (y_len_slice hE12 rfl sl87) rfl fun a13 hE13 => st_val hE13 (y_lss hE13 rfl rfl) rfl fun a14 hE14 => wpList_nil ?_
    clear hE10 hE11 hE12 hE13
    clear a10 a11 a12 a13
    refine then_normal ?_
    refine cond_split hE14 rfl (fun hb15 => ?_) (fun hb15 => ?_)
    ·
      have hlt1 : i1 < p0.length := by have := of_decide_eq_true hb15; omega
      obtain ⟨fu1, rfl⟩ : ∃ m, fu1 = m + 1 := ⟨fu1 - 1, by omega⟩
      have hM := hM.trans (laws_eqAnswerS_l1.eq_2 _ _ _ _)
      refine wp_skip ?_
      refine then_normal ?_
      refine wp_seq (wp_block (wp_seq (reg_quiet mixed (by kernel_rfl) hS10 ?_)))
      refine q_val hE14 (fun w10 hS10 => y_move hE14 rfl) rfl fun a16 hE16 => q_val hE16 (fun w10 hS10 => y_move hE16 rfl) rfl fun a17 hE17 => q_index hE17 hp0 rfl rfl rfl (by omega) sl87 rfl fun ad18 cs18 hr18 hc18 hl18 a19 hE19 => ?_
      obtain ⟨rfl, hg18_0, hg18_1, hg18_2, _⟩ := Answer_open hr18
      refine q_val hE19 (fun w10 hS10 => y_load_agg hE19 rfl (hS10.upc hc18 hl18) rfl rfl agg122) rfl fun a20 hE20 => q_val hE20 (fun w10 hS10 => y_move hE20 rfl) rfl fun a21 hE21 => q_val hE21 (fun w10 hS10 => y_move hE21 rfl) rfl fun a22 hE22 => q_index hE22 hp1 rfl rfl rfl (by omega) sl87 rfl fun ad23 cs23 hr23 hc23 hl23 a24 hE24 => ?_
      obtain ⟨rfl, hg23_0, hg23_1, hg23_2, _⟩ := Answer_open hr23
      refine q_val hE24 (fun w10 hS10 => y_load_agg hE24 rfl (hS10.upc hc23 hl23) rfl rfl agg122) rfl fun a25 hE25 => q_call hE25 Tryd.func113 fb113 fn113 (fun w10 hS10 => (c_laws_eqAnswer (nth p0 i1) (nth p1 i1) (hS10.upd hr18) (hS10.upd hr23))) rfl rfl fun a26 hE26 => q_val hE26 (fun w10 hS10 => y_not hE26 rfl) rfl fun a27 hE27 => ?_
      refine q_nil fun w28 hS28 => ?_
      clear hE14 hE16 hE17 hE19 hE20 hE21 hE22 hE24 hE25 hE26
      clear a14 a16 a17 a19 a20 a21 a22 a24 a25 a26
      refine then_normal ?_
      refine cond_split hE27 rfl (fun hb29 => ?_) (fun hb29 => ?_)
      ·
        have hM := hM.trans (if_t hb29)
        refine wp_seq (wp_region_lit ?_)
        refine st_val hE27 (y_assign hE27 rfl) rfl fun a30 hE30 => wpList_nil ?_
        clear hE27
        clear a27
        refine then_normal ?_
        refine wp_ret ?_
        refine blk_ret ?_
        refine then_ret ?_
        refine then_ret ?_
        refine blk_ret ?_
        refine then_ret ?_
        exact fin1 hE30 rfl rfl ⟨by rw [hM], hS28.below⟩
      ·
        have hM := hM.trans (if_f hb29)
        refine wp_skip ?_
        refine blk_normal ?_
        refine then_normal ?_
        refine wp_region_lit ?_
        refine st_val hE27 (y_move hE27 rfl) rfl fun a31 hE31 => st_val hE31 (y_add_in hE31 rfl rfl (m := ((i1 + 1 : Nat) : Int)) (by omega) (by omega) (by omega)) rfl fun a32 hE32 => st_val hE32 (y_assign hE32 rfl) rfl fun a33 hE33 => wpList_nil ?_
        clear hE27 hE31 hE32
        clear a27 a31 a32
        refine then_normal ⟨fu1, Nat.lt_succ_self _, (i1 + 1), by omega, by omega, hM, hE33.weaken ⟨rfl, rfl, rfl, trivial⟩, hS28⟩
    ·
      have hge1 : ¬ i1 < p0.length := by have := of_decide_eq_false hb15; omega
      obtain rfl : fu1 = 0 := by omega
      have hM := hM.trans (laws_eqAnswerS_l1.eq_1 _ _ _)
      refine wp_exit ?_
      refine then_exit ?_
      refine then_exit ?_
      refine blk_exit ?_
      refine then_normal ?_
      refine wp_seq (wp_region_lit ?_)
      refine st_val hE14 (y_assign hE14 rfl) rfl fun a34 hE34 => wpList_nil ?_
      clear hE14
      clear a14
      refine then_normal ?_
      refine wp_ret ?_
      exact fin1 hE34 rfl rfl ⟨by rw [hM], hS10.below⟩

end Go.Proofs.YtmjjcihoobnbgaaDoor.Fw
