/- Contracts: each call returns what the model says. By program (wip/gen). -/
import Derived.Test.YtpfnofdaaekglaaH2
namespace Go.Proofs.Ytpfnofdaaekglaa.Fw
open Go.RowKit
set_option linter.unusedVariables false
set_option linter.unusedSimpArgs false

theorem fb100 : Try.f100.body.isNone = false := rfl
theorem fb15 : Try.f15.body.isNone = false := rfl
theorem fb20 : Try.f20.body.isNone = false := rfl
theorem fb26 : Try.f26.body.isNone = false := rfl
theorem fb54 : Try.f54.body.isNone = false := rfl
theorem fb55 : Try.f55.body.isNone = false := rfl
theorem fb56 : Try.f56.body.isNone = false := rfl
theorem fb76 : Try.f76.body.isNone = false := rfl
theorem fb77 : Try.f77.body.isNone = false := rfl
theorem fb78 : Try.f78.body.isNone = false := rfl
theorem fb79 : Try.f79.body.isNone = false := rfl
theorem fb98 : Try.f98.body.isNone = false := rfl
theorem fb99 : Try.f99.body.isNone = false := rfl
theorem fn100 : (Try.f100.name == "runtime.NumGoroutine") = false := by kernel_rfl
theorem fn15 : (Try.f15.name == "runtime.NumGoroutine") = false := by kernel_rfl
theorem fn20 : (Try.f20.name == "runtime.NumGoroutine") = false := by kernel_rfl
theorem fn26 : (Try.f26.name == "runtime.NumGoroutine") = false := by kernel_rfl
theorem fn54 : (Try.f54.name == "runtime.NumGoroutine") = false := by kernel_rfl
theorem fn55 : (Try.f55.name == "runtime.NumGoroutine") = false := by kernel_rfl
theorem fn56 : (Try.f56.name == "runtime.NumGoroutine") = false := by kernel_rfl
theorem fn76 : (Try.f76.name == "runtime.NumGoroutine") = false := by kernel_rfl
theorem fn77 : (Try.f77.name == "runtime.NumGoroutine") = false := by kernel_rfl
theorem fn78 : (Try.f78.name == "runtime.NumGoroutine") = false := by kernel_rfl
theorem fn79 : (Try.f79.name == "runtime.NumGoroutine") = false := by kernel_rfl
theorem fn98 : (Try.f98.name == "runtime.NumGoroutine") = false := by kernel_rfl
theorem fn99 : (Try.f99.name == "runtime.NumGoroutine") = false := by kernel_rfl

/- F76 loop.example/g00974/laws.eqCell -/
def laws_eqCell (p0 : Cell) (p1 : Cell) : Bool := (if (!decide (p0.Key = p1.Key)) = true then false else (if (!decide (p0.Val = p1.Val)) = true then false else true))
theorem c_laws_eqCell {c0 : List Value} (p0 : Cell) {c1 : List Value} (p1 : Cell) {w : World} (hp0 : Dat.rd (Old w) w c0 p0) (hp1 : Dat.rd (Old w) w c1 p1) :
    Calls Try.prog 76 [.agg c0.toArray, .agg c1.toArray].toArray w (fun e w' => e = .returned (.bool (laws_eqCell p0 p1)) ∧ Below w.heap.size w w') := by
  obtain ⟨rfl, hg90000_0, hg90000_1, _⟩ := Cell_open hp0
  obtain ⟨rfl, hg90001_0, hg90001_1, _⟩ := Cell_open hp1
  refine enter Try.func76 rfl Try.ntmps76 (Nat.le_of_ble_eq_true rfl) ?_
  intro a0 hE0
  have hS0 := SH.start w
  have hM := laws_eqCell.eq_1 p0 p1
  refine wp_seq (wp_region_lit ?_)
  refine st_box hE0 hS0 rfl rfl rfl fun b1 w1 hS1 a2 hE2 => st_box hE2 hS1 rfl rfl rfl fun b3 w3 hS3 a4 hE4 => st_val hE4 (y_assign hE4 rfl) rfl fun a5 hE5 => wpList_nil ?_
  clear hE0 hE2 hE4
  clear a0 a2 a4
  refine then_normal ?_
  refine wp_seq (wp_seq (wp_region_lit ?_))
  refine st_val hE5 (y_fieldAddr hE5 rfl fa120_0 rfl) rfl fun a6 hE6 => st_val hE6 (y_load_one hE6 rfl (hS3.cells (k := 1) rfl) rfl one9) rfl fun a7 hE7 => st_val hE7 (y_fieldAddr hE7 rfl fa120_0 rfl) rfl fun a8 hE8 => st_val hE8 (y_load_one hE8 rfl (hS3.cells (k := 0) rfl) rfl one9) rfl fun a9 hE9 => st_val hE9 (y_neq_string hE9 rfl rfl) rfl fun a10 hE10 => wpList_nil ?_
  clear hE5 hE6 hE7 hE8 hE9
  clear a5 a6 a7 a8 a9
  refine then_normal ?_
  refine cond_split hE10 rfl (fun hb11 => ?_) (fun hb11 => ?_)
  ·
    have hM := hM.trans (if_t hb11)
    refine wp_seq (wp_region_lit ?_)
    refine st_val hE10 (y_assign hE10 rfl) rfl fun a12 hE12 => wpList_nil ?_
    clear hE10
    clear a10
    refine then_normal ?_
    refine wp_ret ?_
    refine then_ret ?_
    exact fin1 hE12 rfl rfl ⟨by rw [hM], hS3.below⟩
  ·
    have hM := hM.trans (if_f hb11)
    refine wp_skip ?_
    refine then_normal ?_
    refine wp_seq (wp_seq (wp_region_lit ?_))
    refine st_val hE10 (y_fieldAddr hE10 rfl fa120_1 rfl) rfl fun a13 hE13 => st_val hE13 (y_load_one hE13 rfl (hS3.cells (k := 1) rfl) rfl one9) rfl fun a14 hE14 => st_val hE14 (y_fieldAddr hE14 rfl fa120_1 rfl) rfl fun a15 hE15 => st_val hE15 (y_load_one hE15 rfl (hS3.cells (k := 0) rfl) rfl one9) rfl fun a16 hE16 => st_val hE16 (y_neq_string hE16 rfl rfl) rfl fun a17 hE17 => wpList_nil ?_
    clear hE10 hE13 hE14 hE15 hE16
    clear a10 a13 a14 a15 a16
    refine then_normal ?_
    refine cond_split hE17 rfl (fun hb18 => ?_) (fun hb18 => ?_)
    ·
      have hM := hM.trans (if_t hb18)
      refine wp_seq (wp_region_lit ?_)
      refine st_val hE17 (y_assign hE17 rfl) rfl fun a19 hE19 => wpList_nil ?_
      clear hE17
      clear a17
      refine then_normal ?_
      refine wp_ret ?_
      refine then_ret ?_
      exact fin1 hE19 rfl rfl ⟨by rw [hM], hS3.below⟩
    ·
      have hM := hM.trans (if_f hb18)
      refine wp_skip ?_
      refine then_normal ?_
      refine wp_seq (wp_region_lit ?_)
      refine st_val hE17 (y_assign hE17 rfl) rfl fun a20 hE20 => wpList_nil ?_
      clear hE17
      clear a17
      refine then_normal ?_
      refine wp_ret ?_
      exact fin1 hE20 rfl rfl ⟨by rw [hM], hS3.below⟩

/- F54 loop.example/g00974/laws.eqCellS -/
def laws_eqCellS_l1 (p0 : List Cell) (p1 : List Cell) : Nat → Nat → Bool
  | 0, i1 => true
  | fu1 + 1, i1 => (if (!(laws_eqCell (nth p0 i1) (nth p1 i1))) = true then false else laws_eqCellS_l1 p0 p1 fu1 (i1 + 1) )
def laws_eqCellS (p0 : List Cell) (p1 : List Cell) : Bool := (if (!decide ((p0.length : Int) = (p1.length : Int))) = true then false else laws_eqCellS_l1 p0 p1 (p0.length - 0) 0 )
theorem c_laws_eqCellS {v0 : Value} (p0 : List Cell) {v1 : Value} (p1 : List Cell) {w : World} (hp0 : SlR (Old w) w v0 p0) (hp1 : SlR (Old w) w v1 p1) :
    Calls Try.prog 54 [v0, v1].toArray w (fun e w' => e = .returned (.bool (laws_eqCellS p0 p1)) ∧ Below w.heap.size w w') := by
  obtain ⟨A0, cap0, rfl, hx0⟩ := hp0.form
  obtain ⟨A1, cap1, rfl, hx1⟩ := hp1.form
  refine enter Try.func54 rfl Try.ntmps54 (Nat.le_of_ble_eq_true rfl) ?_
  intro a0 hE0
  have hS0 := SH.start w
  have hM := laws_eqCellS.eq_1 p0 p1
  refine wp_seq (wp_region_lit ?_)
  refine st_val hE0 (y_assign hE0 rfl) rfl fun a1 hE1 => wpList_nil ?_
  clear hE0
  clear a0
  refine then_normal ?_
  refine wp_seq (wp_seq (wp_region_lit ?_))
  refine st_val hE1 (y_move hE1 rfl) rfl fun a2 hE2 => st_val hE2 (y_len_slice hE2 rfl sl53) rfl fun a3 hE3 => st_val hE3 (y_move hE3 rfl) rfl fun a4 hE4 => st_val hE4 (y_len_slice hE4 rfl sl53) rfl fun a5 hE5 => st_val hE5 (y_neq hE5 rfl rfl) rfl fun a6 hE6 => wpList_nil ?_
  clear hE1 hE2 hE3 hE4 hE5
  clear a1 a2 a3 a4 a5
  refine then_normal ?_
  refine cond_split hE6 rfl (fun hb7 => ?_) (fun hb7 => ?_)
  ·
    have hM := hM.trans (if_t hb7)
    have hb7f : ¬ ((p0.length : Int) = (p1.length : Int)) := by simpa using hb7
    refine wp_seq (wp_region_lit ?_)
    refine st_val hE6 (y_assign hE6 rfl) rfl fun a8 hE8 => wpList_nil ?_
    clear hE6
    clear a6
    refine then_normal ?_
    refine wp_ret ?_
    refine then_ret ?_
    exact fin1 hE8 rfl rfl ⟨by rw [hM], hS0.below⟩
  ·
    have hM := hM.trans (if_f hb7)
    have hb7f : (p0.length : Int) = (p1.length : Int) := by simpa using hb7
    refine wp_skip ?_
    refine then_normal ?_
    refine wp_seq (wp_seq (wp_region_lit ?_))
    refine st_val hE6 (y_assign hE6 rfl) rfl fun a9 hE9 => wpList_nil ?_
    clear hE6
    clear a6
    refine then_normal ?_
    refine wp_block (wp_loop_ghost (fun fu1 a w2 => ∃ (i1 : Nat), 0 ≤ i1 ∧ fu1 = p0.length - i1 ∧ laws_eqCellS p0 p1 = laws_eqCellS_l1 p0 p1 fu1 i1  ∧ Env 27 [(0, .slice A0 p0.length cap0), (1, .slice A1 p1.length cap1), (5, .int .i64 (i1 : Int))] a ∧ SH (Old w) w w2 []) (p0.length - 0) ⟨0, Nat.le_refl _, rfl, hM, hE9.weaken ⟨rfl, rfl, rfl, trivial⟩, hS0⟩ ?_)
    clear hM hE9
    rintro fu1 a10 w10 ⟨i1, hi1, hfu1, hM, hE10, hS10⟩
    refine wp_seq (wp_seq (wp_region_lit ?_))
    refine st_val hE10 (y_move hE10 rfl) rfl fun a11 hE11 => st_val hE11 (y_move hE11 rfl) rfl fun a12 hE12 => st_val hE12 (y_len_slice hE12 rfl sl53) rfl fun a13 hE13 => st_val hE13 (y_lss hE13 rfl rfl) rfl fun a14 hE14 => wpList_nil ?_
    clear hE10 hE11 hE12 hE13
    clear a10 a11 a12 a13
    refine then_normal ?_
    refine cond_split hE14 rfl (fun hb15 => ?_) (fun hb15 => ?_)
    ·
      have hlt1 : i1 < p0.length := by have := of_decide_eq_true hb15; omega
      obtain ⟨fu1, rfl⟩ : ∃ m, fu1 = m + 1 := ⟨fu1 - 1, by omega⟩
      have hM := hM.trans (laws_eqCellS_l1.eq_2 _ _ _ _)
      refine wp_skip ?_
      refine then_normal ?_
      refine wp_seq (wp_block (wp_seq (reg_quiet mixed (by kernel_rfl) hS10 ?_)))
      refine q_val hE14 (fun w10 hS10 => y_move hE14 rfl) rfl fun a16 hE16 => q_val hE16 (fun w10 hS10 => y_move hE16 rfl) rfl fun a17 hE17 => q_index hE17 hp0 rfl rfl rfl (by omega) sl53 rfl fun ad18 cs18 hr18 hc18 hl18 a19 hE19 => ?_
      obtain ⟨rfl, hg18_0, hg18_1, _⟩ := Cell_open hr18
      refine q_val hE19 (fun w10 hS10 => y_load_agg hE19 rfl (hS10.upc hc18 hl18) rfl rfl agg120) rfl fun a20 hE20 => q_val hE20 (fun w10 hS10 => y_move hE20 rfl) rfl fun a21 hE21 => q_val hE21 (fun w10 hS10 => y_move hE21 rfl) rfl fun a22 hE22 => q_index hE22 hp1 rfl rfl rfl (by omega) sl53 rfl fun ad23 cs23 hr23 hc23 hl23 a24 hE24 => ?_
      obtain ⟨rfl, hg23_0, hg23_1, _⟩ := Cell_open hr23
      refine q_val hE24 (fun w10 hS10 => y_load_agg hE24 rfl (hS10.upc hc23 hl23) rfl rfl agg120) rfl fun a25 hE25 => q_call hE25 Try.func76 fb76 fn76 (fun w10 hS10 => (c_laws_eqCell (nth p0 i1) (nth p1 i1) (hS10.upd hr18) (hS10.upd hr23))) rfl rfl fun a26 hE26 => q_val hE26 (fun w10 hS10 => y_not hE26 rfl) rfl fun a27 hE27 => ?_
      refine q_nil fun w28 hS28 => ?_
      clear hE14 hE16 hE17 hE19 hE20 hE21 hE22 hE24 hE25 hE26
      clear a14 a16 a17 a19 a20 a21 a22 a24 a25 a26
      refine then_normal ?_
      refine cond_split hE27 rfl (fun hb29 => ?_) (fun hb29 => ?_)
      ·
        have hM := hM.trans (if_t hb29)
        refine wp_seq (wp_region_lit ?_)
        refine st_val hE27 (y_assign hE27 rfl) rfl fun a30 hE30 => wpList_nil ?_
        clear hE27
        clear a27
        refine then_normal ?_
        refine wp_ret ?_
        refine blk_ret ?_
        refine then_ret ?_
        refine then_ret ?_
        refine blk_ret ?_
        refine then_ret ?_
        exact fin1 hE30 rfl rfl ⟨by rw [hM], hS28.below⟩
      ·
        have hM := hM.trans (if_f hb29)
        refine wp_skip ?_
        refine blk_normal ?_
        refine then_normal ?_
        refine wp_region_lit ?_
        refine st_val hE27 (y_move hE27 rfl) rfl fun a31 hE31 => st_val hE31 (y_add_in hE31 rfl rfl (m := ((i1 + 1 : Nat) : Int)) (by omega) (by omega) (by omega)) rfl fun a32 hE32 => st_val hE32 (y_assign hE32 rfl) rfl fun a33 hE33 => wpList_nil ?_
        clear hE27 hE31 hE32
        clear a27 a31 a32
        refine then_normal ⟨fu1, Nat.lt_succ_self _, (i1 + 1), by omega, by omega, hM, hE33.weaken ⟨rfl, rfl, rfl, trivial⟩, hS28⟩
    ·
      have hge1 : ¬ i1 < p0.length := by have := of_decide_eq_false hb15; omega
      obtain rfl : fu1 = 0 := by omega
      have hM := hM.trans (laws_eqCellS_l1.eq_1 _ _ _)
      refine wp_exit ?_
      refine then_exit ?_
      refine then_exit ?_
      refine blk_exit ?_
      refine then_normal ?_
      refine wp_seq (wp_region_lit ?_)
      refine st_val hE14 (y_assign hE14 rfl) rfl fun a34 hE34 => wpList_nil ?_
      clear hE14
      clear a14
      refine then_normal ?_
      refine wp_ret ?_
      exact fin1 hE34 rfl rfl ⟨by rw [hM], hS10.below⟩

/- F26 loop.example/g00974/laws.eqStringS -/
def laws_eqStringS_l1 (p0 : List ByteArray) (p1 : List ByteArray) : Nat → Nat → Bool
  | 0, i1 => true
  | fu1 + 1, i1 => (if (!decide ((nth p0 i1) = (nth p1 i1))) = true then false else laws_eqStringS_l1 p0 p1 fu1 (i1 + 1) )
def laws_eqStringS (p0 : List ByteArray) (p1 : List ByteArray) : Bool := (if (!decide ((p0.length : Int) = (p1.length : Int))) = true then false else laws_eqStringS_l1 p0 p1 (p0.length - 0) 0 )
theorem c_laws_eqStringS {v0 : Value} (p0 : List ByteArray) {v1 : Value} (p1 : List ByteArray) {w : World} (hp0 : SlR (Old w) w v0 p0) (hp1 : SlR (Old w) w v1 p1) :
    Calls Try.prog 26 [v0, v1].toArray w (fun e w' => e = .returned (.bool (laws_eqStringS p0 p1)) ∧ Below w.heap.size w w') := by
  obtain ⟨A0, cap0, rfl, hx0⟩ := hp0.form
  obtain ⟨A1, cap1, rfl, hx1⟩ := hp1.form
  refine enter Try.func26 rfl Try.ntmps26 (Nat.le_of_ble_eq_true rfl) ?_
  intro a0 hE0
  have hS0 := SH.start w
  have hM := laws_eqStringS.eq_1 p0 p1
  refine wp_seq (wp_region_lit ?_)
  refine st_val hE0 (y_assign hE0 rfl) rfl fun a1 hE1 => wpList_nil ?_
  clear hE0
  clear a0
  refine then_normal ?_
  refine wp_seq (wp_seq (wp_region_lit ?_))
  refine st_val hE1 (y_move hE1 rfl) rfl fun a2 hE2 => st_val hE2 (y_len_slice hE2 rfl sl38) rfl fun a3 hE3 => st_val hE3 (y_move hE3 rfl) rfl fun a4 hE4 => st_val hE4 (y_len_slice hE4 rfl sl38) rfl fun a5 hE5 => st_val hE5 (y_neq hE5 rfl rfl) rfl fun a6 hE6 => wpList_nil ?_
  clear hE1 hE2 hE3 hE4 hE5
  clear a1 a2 a3 a4 a5
  refine then_normal ?_
  refine cond_split hE6 rfl (fun hb7 => ?_) (fun hb7 => ?_)
  ·
    have hM := hM.trans (if_t hb7)
    have hb7f : ¬ ((p0.length : Int) = (p1.length : Int)) := by simpa using hb7
    refine wp_seq (wp_region_lit ?_)
    refine st_val hE6 (y_assign hE6 rfl) rfl fun a8 hE8 => wpList_nil ?_
    clear hE6
    clear a6
    refine then_normal ?_
    refine wp_ret ?_
    refine then_ret ?_
    exact fin1 hE8 rfl rfl ⟨by rw [hM], hS0.below⟩
  ·
    have hM := hM.trans (if_f hb7)
    have hb7f : (p0.length : Int) = (p1.length : Int) := by simpa using hb7
    refine wp_skip ?_
    refine then_normal ?_
    refine wp_seq (wp_seq (wp_region_lit ?_))
    refine st_val hE6 (y_assign hE6 rfl) rfl fun a9 hE9 => wpList_nil ?_
    clear hE6
    clear a6
    refine then_normal ?_
    refine wp_block (wp_loop_ghost (fun fu1 a w2 => ∃ (i1 : Nat), 0 ≤ i1 ∧ fu1 = p0.length - i1 ∧ laws_eqStringS p0 p1 = laws_eqStringS_l1 p0 p1 fu1 i1  ∧ Env 26 [(0, .slice A0 p0.length cap0), (1, .slice A1 p1.length cap1), (5, .int .i64 (i1 : Int))] a ∧ SH (Old w) w w2 []) (p0.length - 0) ⟨0, Nat.le_refl _, rfl, hM, hE9.weaken ⟨rfl, rfl, rfl, trivial⟩, hS0⟩ ?_)
    clear hM hE9
    rintro fu1 a10 w10 ⟨i1, hi1, hfu1, hM, hE10, hS10⟩
    refine wp_seq (wp_seq (wp_region_lit ?_))
    refine st_val hE10 (y_move hE10 rfl) rfl fun a11 hE11 => st_val hE11 (y_move hE11 rfl) rfl fun a12 hE12 => st_val hE12 (y_len_slice hE12 rfl sl38) rfl fun a13 hE13 => st_val hE13 (y_lss hE13 rfl rfl) rfl fun a14 hE14 => wpList_nil ?_
    clear hE10 hE11 hE12 hE13
    clear a10 a11 a12 a13
    refine then_normal ?_
    refine cond_split hE14 rfl (fun hb15 => ?_) (fun hb15 => ?_)
    ·
      have hlt1 : i1 < p0.length := by have := of_decide_eq_true hb15; omega
      obtain ⟨fu1, rfl⟩ : ∃ m, fu1 = m + 1 := ⟨fu1 - 1, by omega⟩
      have hM := hM.trans (laws_eqStringS_l1.eq_2 _ _ _ _)
      refine wp_skip ?_
      refine then_normal ?_
      refine wp_seq (wp_block (wp_seq (reg_quiet mixed (by kernel_rfl) hS10 ?_)))
      refine q_val hE14 (fun w10 hS10 => y_move hE14 rfl) rfl fun a16 hE16 => q_val hE16 (fun w10 hS10 => y_move hE16 rfl) rfl fun a17 hE17 => q_index hE17 hp0 rfl rfl rfl (by omega) sl38 rfl fun ad18 cs18 hr18 hc18 hl18 a19 hE19 => ?_
      obtain ⟨rfl, hg18⟩ := hr18
      refine q_val hE19 (fun w10 hS10 => y_load_one hE19 rfl (hS10.upc hc18 hl18) rfl one9) rfl fun a20 hE20 => q_val hE20 (fun w10 hS10 => y_move hE20 rfl) rfl fun a21 hE21 => q_val hE21 (fun w10 hS10 => y_move hE21 rfl) rfl fun a22 hE22 => q_index hE22 hp1 rfl rfl rfl (by omega) sl38 rfl fun ad23 cs23 hr23 hc23 hl23 a24 hE24 => ?_
      obtain ⟨rfl, hg23⟩ := hr23
      refine q_val hE24 (fun w10 hS10 => y_load_one hE24 rfl (hS10.upc hc23 hl23) rfl one9) rfl fun a25 hE25 => q_val hE25 (fun w10 hS10 => y_neq_string hE25 rfl rfl) rfl fun a26 hE26 => ?_
      refine q_nil fun w27 hS27 => ?_
      clear hE14 hE16 hE17 hE19 hE20 hE21 hE22 hE24 hE25
      clear a14 a16 a17 a19 a20 a21 a22 a24 a25
      refine then_normal ?_
      refine cond_split hE26 rfl (fun hb28 => ?_) (fun hb28 => ?_)
      ·
        have hM := hM.trans (if_t hb28)
        refine wp_seq (wp_region_lit ?_)
        refine st_val hE26 (y_assign hE26 rfl) rfl fun a29 hE29 => wpList_nil ?_
        clear hE26
        clear a26
        refine then_normal ?_
        refine wp_ret ?_
        refine blk_ret ?_
        refine then_ret ?_
        refine then_ret ?_
        refine blk_ret ?_
        refine then_ret ?_
        exact fin1 hE29 rfl rfl ⟨by rw [hM], hS27.below⟩
      ·
        have hM := hM.trans (if_f hb28)
        refine wp_skip ?_
        refine blk_normal ?_
        refine then_normal ?_
        refine wp_region_lit ?_
        refine st_val hE26 (y_move hE26 rfl) rfl fun a30 hE30 => st_val hE30 (y_add_in hE30 rfl rfl (m := ((i1 + 1 : Nat) : Int)) (by omega) (by omega) (by omega)) rfl fun a31 hE31 => st_val hE31 (y_assign hE31 rfl) rfl fun a32 hE32 => wpList_nil ?_
        clear hE26 hE30 hE31
        clear a26 a30 a31
        refine then_normal ⟨fu1, Nat.lt_succ_self _, (i1 + 1), by omega, by omega, hM, hE32.weaken ⟨rfl, rfl, rfl, trivial⟩, hS27⟩
    ·
      have hge1 : ¬ i1 < p0.length := by have := of_decide_eq_false hb15; omega
      obtain rfl : fu1 = 0 := by omega
      have hM := hM.trans (laws_eqStringS_l1.eq_1 _ _ _)
      refine wp_exit ?_
      refine then_exit ?_
      refine then_exit ?_
      refine blk_exit ?_
      refine then_normal ?_
      refine wp_seq (wp_region_lit ?_)
      refine st_val hE14 (y_assign hE14 rfl) rfl fun a33 hE33 => wpList_nil ?_
      clear hE14
      clear a14
      refine then_normal ?_
      refine wp_ret ?_
      exact fin1 hE33 rfl rfl ⟨by rw [hM], hS10.below⟩

/- F20 loop.example/g00974/laws.eqIntS -/
def laws_eqIntS_l1 (p0 : List Int) (p1 : List Int) : Nat → Nat → Bool
  | 0, i1 => true
  | fu1 + 1, i1 => (if (!decide ((nth p0 i1) = (nth p1 i1))) = true then false else laws_eqIntS_l1 p0 p1 fu1 (i1 + 1) )
def laws_eqIntS (p0 : List Int) (p1 : List Int) : Bool := (if (!decide ((p0.length : Int) = (p1.length : Int))) = true then false else laws_eqIntS_l1 p0 p1 (p0.length - 0) 0 )
theorem c_laws_eqIntS {v0 : Value} (p0 : List Int) {v1 : Value} (p1 : List Int) {w : World} (hp0 : SlR (Old w) w v0 p0) (hp1 : SlR (Old w) w v1 p1) :
    Calls Try.prog 20 [v0, v1].toArray w (fun e w' => e = .returned (.bool (laws_eqIntS p0 p1)) ∧ Below w.heap.size w w') := by
  obtain ⟨A0, cap0, rfl, hx0⟩ := hp0.form
  obtain ⟨A1, cap1, rfl, hx1⟩ := hp1.form
  refine enter Try.func20 rfl Try.ntmps20 (Nat.le_of_ble_eq_true rfl) ?_
  intro a0 hE0
  have hS0 := SH.start w
  have hM := laws_eqIntS.eq_1 p0 p1
  refine wp_seq (wp_region_lit ?_)
  refine st_val hE0 (y_assign hE0 rfl) rfl fun a1 hE1 => wpList_nil ?_
  clear hE0
  clear a0
  refine then_normal ?_
  refine wp_seq (wp_seq (wp_region_lit ?_))
  refine st_val hE1 (y_move hE1 rfl) rfl fun a2 hE2 => st_val hE2 (y_len_slice hE2 rfl sl32) rfl fun a3 hE3 => st_val hE3 (y_move hE3 rfl) rfl fun a4 hE4 => st_val hE4 (y_len_slice hE4 rfl sl32) rfl fun a5 hE5 => st_val hE5 (y_neq hE5 rfl rfl) rfl fun a6 hE6 => wpList_nil ?_
  clear hE1 hE2 hE3 hE4 hE5
  clear a1 a2 a3 a4 a5
  refine then_normal ?_
  refine cond_split hE6 rfl (fun hb7 => ?_) (fun hb7 => ?_)
  ·
    have hM := hM.trans (if_t hb7)
    have hb7f : ¬ ((p0.length : Int) = (p1.length : Int)) := by simpa using hb7
    refine wp_seq (wp_region_lit ?_)
    refine st_val hE6 (y_assign hE6 rfl) rfl fun a8 hE8 => wpList_nil ?_
    clear hE6
    clear a6
    refine then_normal ?_
    refine wp_ret ?_
    refine then_ret ?_
    exact fin1 hE8 rfl rfl ⟨by rw [hM], hS0.below⟩
  ·
    have hM := hM.trans (if_f hb7)
    have hb7f : (p0.length : Int) = (p1.length : Int) := by simpa using hb7
    refine wp_skip ?_
    refine then_normal ?_
    refine wp_seq (wp_seq (wp_region_lit ?_))
    refine st_val hE6 (y_assign hE6 rfl) rfl fun a9 hE9 => wpList_nil ?_
    clear hE6
    clear a6
    refine then_normal ?_
    refine wp_block (wp_loop_ghost (fun fu1 a w2 => ∃ (i1 : Nat), 0 ≤ i1 ∧ fu1 = p0.length - i1 ∧ laws_eqIntS p0 p1 = laws_eqIntS_l1 p0 p1 fu1 i1  ∧ Env 26 [(0, .slice A0 p0.length cap0), (1, .slice A1 p1.length cap1), (5, .int .i64 (i1 : Int))] a ∧ SH (Old w) w w2 []) (p0.length - 0) ⟨0, Nat.le_refl _, rfl, hM, hE9.weaken ⟨rfl, rfl, rfl, trivial⟩, hS0⟩ ?_)
    clear hM hE9
    rintro fu1 a10 w10 ⟨i1, hi1, hfu1, hM, hE10, hS10⟩
    refine wp_seq (wp_seq (wp_region_lit ?_))
    refine st_val hE10 (y_move hE10 rfl) rfl fun a11 hE11 => st_val hE11 (y_move hE11 rfl) rfl fun a12 hE12 => st_val hE12 (y_len_slice hE12 rfl sl32) rfl fun a13 hE13 => st_val hE13 (y_lss hE13 rfl rfl) rfl fun a14 hE14 => wpList_nil ?_
    clear hE10 hE11 hE12 hE13
    clear a10 a11 a12 a13
    refine then_normal ?_
    refine cond_split hE14 rfl (fun hb15 => ?_) (fun hb15 => ?_)
    ·
      have hlt1 : i1 < p0.length := by have := of_decide_eq_true hb15; omega
      obtain ⟨fu1, rfl⟩ : ∃ m, fu1 = m + 1 := ⟨fu1 - 1, by omega⟩
      have hM := hM.trans (laws_eqIntS_l1.eq_2 _ _ _ _)
      refine wp_skip ?_
      refine then_normal ?_
      refine wp_seq (wp_block (wp_seq (reg_quiet mixed (by kernel_rfl) hS10 ?_)))
      refine q_val hE14 (fun w10 hS10 => y_move hE14 rfl) rfl fun a16 hE16 => q_val hE16 (fun w10 hS10 => y_move hE16 rfl) rfl fun a17 hE17 => q_index hE17 hp0 rfl rfl rfl (by omega) sl32 rfl fun ad18 cs18 hr18 hc18 hl18 a19 hE19 => ?_
      obtain ⟨rfl, hg18⟩ := hr18
      refine q_val hE19 (fun w10 hS10 => y_load_one hE19 rfl (hS10.upc hc18 hl18) rfl one3) rfl fun a20 hE20 => q_val hE20 (fun w10 hS10 => y_move hE20 rfl) rfl fun a21 hE21 => q_val hE21 (fun w10 hS10 => y_move hE21 rfl) rfl fun a22 hE22 => q_index hE22 hp1 rfl rfl rfl (by omega) sl32 rfl fun ad23 cs23 hr23 hc23 hl23 a24 hE24 => ?_
      obtain ⟨rfl, hg23⟩ := hr23
      refine q_val hE24 (fun w10 hS10 => y_load_one hE24 rfl (hS10.upc hc23 hl23) rfl one3) rfl fun a25 hE25 => q_val hE25 (fun w10 hS10 => y_neq hE25 rfl rfl) rfl fun a26 hE26 => ?_
      refine q_nil fun w27 hS27 => ?_
      clear hE14 hE16 hE17 hE19 hE20 hE21 hE22 hE24 hE25
      clear a14 a16 a17 a19 a20 a21 a22 a24 a25
      refine then_normal ?_
      refine cond_split hE26 rfl (fun hb28 => ?_) (fun hb28 => ?_)
      ·
        have hM := hM.trans (if_t hb28)
        have hb28f : ¬ ((nth p0 i1) = (nth p1 i1)) := by simpa using hb28
        refine wp_seq (wp_region_lit ?_)
        refine st_val hE26 (y_assign hE26 rfl) rfl fun a29 hE29 => wpList_nil ?_
        clear hE26
        clear a26
        refine then_normal ?_
        refine wp_ret ?_
        refine blk_ret ?_
        refine then_ret ?_
        refine then_ret ?_
        refine blk_ret ?_
        refine then_ret ?_
        exact fin1 hE29 rfl rfl ⟨by rw [hM], hS27.below⟩
      ·
        have hM := hM.trans (if_f hb28)
        have hb28f : (nth p0 i1) = (nth p1 i1) := by simpa using hb28
        refine wp_skip ?_
        refine blk_normal ?_
        refine then_normal ?_
        refine wp_region_lit ?_
        refine st_val hE26 (y_move hE26 rfl) rfl fun a30 hE30 => st_val hE30 (y_add_in hE30 rfl rfl (m := ((i1 + 1 : Nat) : Int)) (by omega) (by omega) (by omega)) rfl fun a31 hE31 => st_val hE31 (y_assign hE31 rfl) rfl fun a32 hE32 => wpList_nil ?_
        clear hE26 hE30 hE31
        clear a26 a30 a31
        refine then_normal ⟨fu1, Nat.lt_succ_self _, (i1 + 1), by omega, by omega, hM, hE32.weaken ⟨rfl, rfl, rfl, trivial⟩, hS27⟩
    ·
      have hge1 : ¬ i1 < p0.length := by have := of_decide_eq_false hb15; omega
      obtain rfl : fu1 = 0 := by omega
      have hM := hM.trans (laws_eqIntS_l1.eq_1 _ _ _)
      refine wp_exit ?_
      refine then_exit ?_
      refine then_exit ?_
      refine blk_exit ?_
      refine then_normal ?_
      refine wp_seq (wp_region_lit ?_)
      refine st_val hE14 (y_assign hE14 rfl) rfl fun a33 hE33 => wpList_nil ?_
      clear hE14
      clear a14
      refine then_normal ?_
      refine wp_ret ?_
      exact fin1 hE33 rfl rfl ⟨by rw [hM], hS10.below⟩

/- F98 loop.example/g00974/laws.eqCallS -/
def laws_eqCallS_l1 (p0 : List Call) (p1 : List Call) : Nat → Nat → Bool
  | 0, i1 => true
  | fu1 + 1, i1 => (if (!(laws_eqCall (nth p0 i1) (nth p1 i1))) = true then false else laws_eqCallS_l1 p0 p1 fu1 (i1 + 1) )
def laws_eqCallS (p0 : List Call) (p1 : List Call) : Bool := (if (!decide ((p0.length : Int) = (p1.length : Int))) = true then false else laws_eqCallS_l1 p0 p1 (p0.length - 0) 0 )
theorem c_laws_eqCallS {v0 : Value} (p0 : List Call) {v1 : Value} (p1 : List Call) {w : World} (hp0 : SlR (Old w) w v0 p0) (hp1 : SlR (Old w) w v1 p1) :
    Calls Try.prog 98 [v0, v1].toArray w (fun e w' => e = .returned (.bool (laws_eqCallS p0 p1)) ∧ Below w.heap.size w w') := by
  obtain ⟨A0, cap0, rfl, hx0⟩ := hp0.form
  obtain ⟨A1, cap1, rfl, hx1⟩ := hp1.form
  refine enter Try.func98 rfl Try.ntmps98 (Nat.le_of_ble_eq_true rfl) ?_
  intro a0 hE0
  have hS0 := SH.start w
  have hM := laws_eqCallS.eq_1 p0 p1
  refine wp_seq (wp_region_lit ?_)
  refine st_val hE0 (y_assign hE0 rfl) rfl fun a1 hE1 => wpList_nil ?_
  clear hE0
  clear a0
  refine then_normal ?_
  refine wp_seq (wp_seq (wp_region_lit ?_))
  refine st_val hE1 (y_move hE1 rfl) rfl fun a2 hE2 => st_val hE2 (y_len_slice hE2 rfl sl116) rfl fun a3 hE3 => st_val hE3 (y_move hE3 rfl) rfl fun a4 hE4 => st_val hE4 (y_len_slice hE4 rfl sl116) rfl fun a5 hE5 => st_val hE5 (y_neq hE5 rfl rfl) rfl fun a6 hE6 => wpList_nil ?_
  clear hE1 hE2 hE3 hE4 hE5
  clear a1 a2 a3 a4 a5
  refine then_normal ?_
  refine cond_split hE6 rfl (fun hb7 => ?_) (fun hb7 => ?_)
  ·
    have hM := hM.trans (if_t hb7)
    have hb7f : ¬ ((p0.length : Int) = (p1.length : Int)) := by simpa using hb7
    refine wp_seq (wp_region_lit ?_)
    refine st_val hE6 (y_assign hE6 rfl) rfl fun a8 hE8 => wpList_nil ?_
    clear hE6
    clear a6
    refine then_normal ?_
    refine wp_ret ?_
    refine then_ret ?_
    exact fin1 hE8 rfl rfl ⟨by rw [hM], hS0.below⟩
  ·
    have hM := hM.trans (if_f hb7)
    have hb7f : (p0.length : Int) = (p1.length : Int) := by simpa using hb7
    refine wp_skip ?_
    refine then_normal ?_
    refine wp_seq (wp_seq (wp_region_lit ?_))
    refine st_val hE6 (y_assign hE6 rfl) rfl fun a9 hE9 => wpList_nil ?_
    clear hE6
    clear a6
    refine then_normal ?_
    refine wp_block (wp_loop_ghost (fun fu1 a w2 => ∃ (i1 : Nat), 0 ≤ i1 ∧ fu1 = p0.length - i1 ∧ laws_eqCallS p0 p1 = laws_eqCallS_l1 p0 p1 fu1 i1  ∧ Env 27 [(0, .slice A0 p0.length cap0), (1, .slice A1 p1.length cap1), (5, .int .i64 (i1 : Int))] a ∧ SH (Old w) w w2 []) (p0.length - 0) ⟨0, Nat.le_refl _, rfl, hM, hE9.weaken ⟨rfl, rfl, rfl, trivial⟩, hS0⟩ ?_)
    clear hM hE9
    rintro fu1 a10 w10 ⟨i1, hi1, hfu1, hM, hE10, hS10⟩
    refine wp_seq (wp_seq (wp_region_lit ?_))
    refine st_val hE10 (y_move hE10 rfl) rfl fun a11 hE11 => st_val hE11 (y_move hE11 rfl) rfl fun a12 hE12 => st_val hE12 (y_len_slice hE12 rfl sl116) rfl fun a13 hE13 => st_val hE13 (y_lss hE13 rfl rfl) rfl fun a14 hE14 => wpList_nil ?_
    clear hE10 hE11 hE12 hE13
    clear a10 a11 a12 a13
    refine then_normal ?_
    refine cond_split hE14 rfl (fun hb15 => ?_) (fun hb15 => ?_)
    ·
      have hlt1 : i1 < p0.length := by have := of_decide_eq_true hb15; omega
      obtain ⟨fu1, rfl⟩ : ∃ m, fu1 = m + 1 := ⟨fu1 - 1, by omega⟩
      have hM := hM.trans (laws_eqCallS_l1.eq_2 _ _ _ _)
      refine wp_skip ?_
      refine then_normal ?_
      refine wp_seq (wp_block (wp_seq (reg_quiet mixed (by kernel_rfl) hS10 ?_)))
      refine q_val hE14 (fun w10 hS10 => y_move hE14 rfl) rfl fun a16 hE16 => q_val hE16 (fun w10 hS10 => y_move hE16 rfl) rfl fun a17 hE17 => q_index hE17 hp0 rfl rfl rfl (by omega) sl116 rfl fun ad18 cs18 hr18 hc18 hl18 a19 hE19 => ?_
      obtain ⟨rfl, hg18_0, hg18_1, hg18_2, hg18_3, hg18_4, hg18_5, _⟩ := Call_open hr18
      refine q_val hE19 (fun w10 hS10 => y_load_agg hE19 rfl (hS10.upc hc18 hl18) rfl rfl agg80) rfl fun a20 hE20 => q_val hE20 (fun w10 hS10 => y_move hE20 rfl) rfl fun a21 hE21 => q_val hE21 (fun w10 hS10 => y_move hE21 rfl) rfl fun a22 hE22 => q_index hE22 hp1 rfl rfl rfl (by omega) sl116 rfl fun ad23 cs23 hr23 hc23 hl23 a24 hE24 => ?_
      obtain ⟨rfl, hg23_0, hg23_1, hg23_2, hg23_3, hg23_4, hg23_5, _⟩ := Call_open hr23
      refine q_val hE24 (fun w10 hS10 => y_load_agg hE24 rfl (hS10.upc hc23 hl23) rfl rfl agg80) rfl fun a25 hE25 => q_call hE25 Try.func103 fb103 fn103 (fun w10 hS10 => (c_laws_eqCall (nth p0 i1) (nth p1 i1) (hS10.upd hr18) (hS10.upd hr23))) rfl rfl fun a26 hE26 => q_val hE26 (fun w10 hS10 => y_not hE26 rfl) rfl fun a27 hE27 => ?_
      refine q_nil fun w28 hS28 => ?_
      clear hE14 hE16 hE17 hE19 hE20 hE21 hE22 hE24 hE25 hE26
      clear a14 a16 a17 a19 a20 a21 a22 a24 a25 a26
      refine then_normal ?_
      refine cond_split hE27 rfl (fun hb29 => ?_) (fun hb29 => ?_)
      ·
        have hM := hM.trans (if_t hb29)
        refine wp_seq (wp_region_lit ?_)
        refine st_val hE27 (y_assign hE27 rfl) rfl fun a30 hE30 => wpList_nil ?_
        clear hE27
        clear a27
        refine then_normal ?_
        refine wp_ret ?_
        refine blk_ret ?_
        refine then_ret ?_
        refine then_ret ?_
        refine blk_ret ?_
        refine then_ret ?_
        exact fin1 hE30 rfl rfl ⟨by rw [hM], hS28.below⟩
      ·
        have hM := hM.trans (if_f hb29)
        refine wp_skip ?_
        refine blk_normal ?_
        refine then_normal ?_
        refine wp_region_lit ?_
        refine st_val hE27 (y_move hE27 rfl) rfl fun a31 hE31 => st_val hE31 (y_add_in hE31 rfl rfl (m := ((i1 + 1 : Nat) : Int)) (by omega) (by omega) (by omega)) rfl fun a32 hE32 => st_val hE32 (y_assign hE32 rfl) rfl fun a33 hE33 => wpList_nil ?_
        clear hE27 hE31 hE32
        clear a27 a31 a32
        refine then_normal ⟨fu1, Nat.lt_succ_self _, (i1 + 1), by omega, by omega, hM, hE33.weaken ⟨rfl, rfl, rfl, trivial⟩, hS28⟩
    ·
      have hge1 : ¬ i1 < p0.length := by have := of_decide_eq_false hb15; omega
      obtain rfl : fu1 = 0 := by omega
      have hM := hM.trans (laws_eqCallS_l1.eq_1 _ _ _)
      refine wp_exit ?_
      refine then_exit ?_
      refine then_exit ?_
      refine blk_exit ?_
      refine then_normal ?_
      refine wp_seq (wp_region_lit ?_)
      refine st_val hE14 (y_assign hE14 rfl) rfl fun a34 hE34 => wpList_nil ?_
      clear hE14
      clear a14
      refine then_normal ?_
      refine wp_ret ?_
      exact fin1 hE34 rfl rfl ⟨by rw [hM], hS10.below⟩

/- F99 loop.example/g00974/laws.eqTouch -/
def laws_eqTouch (p0 : Touch) (p1 : Touch) : Bool := (if (!(laws_eqStringS p0.Reads p1.Reads)) = true then false else (if (!(laws_eqStringS p0.Writes p1.Writes)) = true then false else true))
theorem c_laws_eqTouch {c0 : List Value} (p0 : Touch) {c1 : List Value} (p1 : Touch) {w : World} (hp0 : Dat.rd (Old w) w c0 p0) (hp1 : Dat.rd (Old w) w c1 p1) :
    Calls Try.prog 99 [.agg c0.toArray, .agg c1.toArray].toArray w (fun e w' => e = .returned (.bool (laws_eqTouch p0 p1)) ∧ Below w.heap.size w w') := by
  obtain ⟨v90000_0, v90000_1, rfl, hv90000_0, hv90000_1, _⟩ := Touch_open hp0
  obtain ⟨A90000_0, cp90000_0, rfl, hx90000_0⟩ := hv90000_0.form
  obtain ⟨A90000_1, cp90000_1, rfl, hx90000_1⟩ := hv90000_1.form
  obtain ⟨v90001_0, v90001_1, rfl, hv90001_0, hv90001_1, _⟩ := Touch_open hp1
  obtain ⟨A90001_0, cp90001_0, rfl, hx90001_0⟩ := hv90001_0.form
  obtain ⟨A90001_1, cp90001_1, rfl, hx90001_1⟩ := hv90001_1.form
  refine enter Try.func99 rfl Try.ntmps99 (Nat.le_of_ble_eq_true rfl) ?_
  intro a0 hE0
  have hS0 := SH.start w
  have hM := laws_eqTouch.eq_1 p0 p1
  refine wp_seq (wp_region_lit ?_)
  refine st_box hE0 hS0 rfl rfl rfl fun b1 w1 hS1 a2 hE2 => st_box hE2 hS1 rfl rfl rfl fun b3 w3 hS3 a4 hE4 => st_val hE4 (y_assign hE4 rfl) rfl fun a5 hE5 => wpList_nil ?_
  clear hE0 hE2 hE4
  clear a0 a2 a4
  refine then_normal ?_
  refine wp_seq (wp_seq (wp_region_lit ?_))
  refine st_val hE5 (y_fieldAddr hE5 rfl fa117_0 rfl) rfl fun a6 hE6 => st_val hE6 (y_load_one hE6 rfl (hS3.cells (k := 1) rfl) rfl one38) rfl fun a7 hE7 => st_val hE7 (y_fieldAddr hE7 rfl fa117_0 rfl) rfl fun a8 hE8 => st_val hE8 (y_load_one hE8 rfl (hS3.cells (k := 0) rfl) rfl one38) rfl fun a9 hE9 => st_callF hE9 hS3 Try.func26 fb26 fn26 (c_laws_eqStringS p0.Reads p1.Reads (hS3.up hv90000_0) (hS3.up hv90001_0)) rfl rfl fun w10 hS10 a11 hE11 => st_val hE11 (y_not hE11 rfl) rfl fun a12 hE12 => wpList_nil ?_
  clear hE5 hE6 hE7 hE8 hE9 hE11
  clear a5 a6 a7 a8 a9 a11
  refine then_normal ?_
  refine cond_split hE12 rfl (fun hb13 => ?_) (fun hb13 => ?_)
  ·
    have hM := hM.trans (if_t hb13)
    refine wp_seq (wp_region_lit ?_)
    refine st_val hE12 (y_assign hE12 rfl) rfl fun a14 hE14 => wpList_nil ?_
    clear hE12
    clear a12
    refine then_normal ?_
    refine wp_ret ?_
    refine then_ret ?_
    exact fin1 hE14 rfl rfl ⟨by rw [hM], hS10.below⟩
  ·
    have hM := hM.trans (if_f hb13)
    refine wp_skip ?_
    refine then_normal ?_
    refine wp_seq (wp_seq (wp_region_lit ?_))
    refine st_val hE12 (y_fieldAddr hE12 rfl fa117_1 rfl) rfl fun a15 hE15 => st_val hE15 (y_load_one hE15 rfl (hS10.cells (k := 1) rfl) rfl one38) rfl fun a16 hE16 => st_val hE16 (y_fieldAddr hE16 rfl fa117_1 rfl) rfl fun a17 hE17 => st_val hE17 (y_load_one hE17 rfl (hS10.cells (k := 0) rfl) rfl one38) rfl fun a18 hE18 => st_callF hE18 hS10 Try.func26 fb26 fn26 (c_laws_eqStringS p0.Writes p1.Writes (hS10.up hv90000_1) (hS10.up hv90001_1)) rfl rfl fun w19 hS19 a20 hE20 => st_val hE20 (y_not hE20 rfl) rfl fun a21 hE21 => wpList_nil ?_
    clear hE12 hE15 hE16 hE17 hE18 hE20
    clear a12 a15 a16 a17 a18 a20
    refine then_normal ?_
    refine cond_split hE21 rfl (fun hb22 => ?_) (fun hb22 => ?_)
    ·
      have hM := hM.trans (if_t hb22)
      refine wp_seq (wp_region_lit ?_)
      refine st_val hE21 (y_assign hE21 rfl) rfl fun a23 hE23 => wpList_nil ?_
      clear hE21
      clear a21
      refine then_normal ?_
      refine wp_ret ?_
      refine then_ret ?_
      exact fin1 hE23 rfl rfl ⟨by rw [hM], hS19.below⟩
    ·
      have hM := hM.trans (if_f hb22)
      refine wp_skip ?_
      refine then_normal ?_
      refine wp_seq (wp_region_lit ?_)
      refine st_val hE21 (y_assign hE21 rfl) rfl fun a24 hE24 => wpList_nil ?_
      clear hE21
      clear a21
      refine then_normal ?_
      refine wp_ret ?_
      exact fin1 hE24 rfl rfl ⟨by rw [hM], hS19.below⟩

/- F77 loop.example/g00974/laws.eqTx -/
def laws_eqTx (p0 : Tx) (p1 : Tx) : Bool := (if (!decide (p0.Id = p1.Id)) = true then false else (if (!decide (p0.Age = p1.Age)) = true then false else (if (!decide (p0.Proc = p1.Proc)) = true then false else (if (!decide (p0.Began = p1.Began)) = true then false else (if (!(laws_eqCallS p0.Calls p1.Calls)) = true then false else (if (!(laws_eqAnswerS p0.Answers p1.Answers)) = true then false else (if (!(laws_eqTouch p0.Touch p1.Touch)) = true then false else (if (!(laws_eqIntS p0.Marks p1.Marks)) = true then false else (if (!decide (p0.State = p1.State)) = true then false else true)))))))))
theorem c_laws_eqTx {c0 : List Value} (p0 : Tx) {c1 : List Value} (p1 : Tx) {w : World} (hp0 : Dat.rd (Old w) w c0 p0) (hp1 : Dat.rd (Old w) w c1 p1) :
    Calls Try.prog 77 [.agg c0.toArray, .agg c1.toArray].toArray w (fun e w' => e = .returned (.bool (laws_eqTx p0 p1)) ∧ Below w.heap.size w w') := by
  obtain ⟨v90000_4, v90000_5, v90000_6, v90000_7, v90000_8, rfl, hg90000_0, hg90000_1, hg90000_2, hg90000_3, hv90000_4, hv90000_5, hv90000_6, hv90000_7, hv90000_8, hg90000_9, _⟩ := Tx_open hp0
  obtain ⟨A90000_4, cp90000_4, rfl, hx90000_4⟩ := hv90000_4.form
  obtain ⟨A90000_5, cp90000_5, rfl, hx90000_5⟩ := hv90000_5.form
  obtain ⟨A90000_6, cp90000_6, rfl, hx90000_6⟩ := hv90000_6.form
  obtain ⟨A90000_7, cp90000_7, rfl, hx90000_7⟩ := hv90000_7.form
  obtain ⟨A90000_8, cp90000_8, rfl, hx90000_8⟩ := hv90000_8.form
  obtain ⟨v90001_4, v90001_5, v90001_6, v90001_7, v90001_8, rfl, hg90001_0, hg90001_1, hg90001_2, hg90001_3, hv90001_4, hv90001_5, hv90001_6, hv90001_7, hv90001_8, hg90001_9, _⟩ := Tx_open hp1
  obtain ⟨A90001_4, cp90001_4, rfl, hx90001_4⟩ := hv90001_4.form
  obtain ⟨A90001_5, cp90001_5, rfl, hx90001_5⟩ := hv90001_5.form
  obtain ⟨A90001_6, cp90001_6, rfl, hx90001_6⟩ := hv90001_6.form
  obtain ⟨A90001_7, cp90001_7, rfl, hx90001_7⟩ := hv90001_7.form
  obtain ⟨A90001_8, cp90001_8, rfl, hx90001_8⟩ := hv90001_8.form
  refine enter Try.func77 rfl Try.ntmps77 (Nat.le_of_ble_eq_true rfl) ?_
  intro a0 hE0
  have hS0 := SH.start w
  have hM := laws_eqTx.eq_1 p0 p1
  refine wp_seq (wp_region_lit ?_)
  refine st_box hE0 hS0 rfl rfl rfl fun b1 w1 hS1 a2 hE2 => st_box hE2 hS1 rfl rfl rfl fun b3 w3 hS3 a4 hE4 => st_val hE4 (y_assign hE4 rfl) rfl fun a5 hE5 => wpList_nil ?_
  clear hE0 hE2 hE4
  clear a0 a2 a4
  refine then_normal ?_
  refine wp_seq (wp_seq (wp_region_lit ?_))
  refine st_val hE5 (y_fieldAddr hE5 rfl fa119_0 rfl) rfl fun a6 hE6 => st_val hE6 (y_load_one hE6 rfl (hS3.cells (k := 1) rfl) rfl one3) rfl fun a7 hE7 => st_val hE7 (y_fieldAddr hE7 rfl fa119_0 rfl) rfl fun a8 hE8 => st_val hE8 (y_load_one hE8 rfl (hS3.cells (k := 0) rfl) rfl one3) rfl fun a9 hE9 => st_val hE9 (y_neq hE9 rfl rfl) rfl fun a10 hE10 => wpList_nil ?_
  clear hE5 hE6 hE7 hE8 hE9
  clear a5 a6 a7 a8 a9
  refine then_normal ?_
  refine cond_split hE10 rfl (fun hb11 => ?_) (fun hb11 => ?_)
  ·
    have hM := hM.trans (if_t hb11)
    have hb11f : ¬ (p0.Id = p1.Id) := by simpa using hb11
    refine wp_seq (wp_region_lit ?_)
    refine st_val hE10 (y_assign hE10 rfl) rfl fun a12 hE12 => wpList_nil ?_
    clear hE10
    clear a10
    refine then_normal ?_
    refine wp_ret ?_
    refine then_ret ?_
    exact fin1 hE12 rfl rfl ⟨by rw [hM], hS3.below⟩
  ·
    have hM := hM.trans (if_f hb11)
    have hb11f : p0.Id = p1.Id := by simpa using hb11
    refine wp_skip ?_
    refine then_normal ?_
    refine wp_seq (wp_seq (wp_region_lit ?_))
    refine st_val hE10 (y_fieldAddr hE10 rfl fa119_1 rfl) rfl fun a13 hE13 => st_val hE13 (y_load_one hE13 rfl (hS3.cells (k := 1) rfl) rfl one3) rfl fun a14 hE14 => st_val hE14 (y_fieldAddr hE14 rfl fa119_1 rfl) rfl fun a15 hE15 => st_val hE15 (y_load_one hE15 rfl (hS3.cells (k := 0) rfl) rfl one3) rfl fun a16 hE16 => st_val hE16 (y_neq hE16 rfl rfl) rfl fun a17 hE17 => wpList_nil ?_
    clear hE10 hE13 hE14 hE15 hE16
    clear a10 a13 a14 a15 a16
    refine then_normal ?_
    refine cond_split hE17 rfl (fun hb18 => ?_) (fun hb18 => ?_)
    ·
      have hM := hM.trans (if_t hb18)
      have hb18f : ¬ (p0.Age = p1.Age) := by simpa using hb18
      refine wp_seq (wp_region_lit ?_)
      refine st_val hE17 (y_assign hE17 rfl) rfl fun a19 hE19 => wpList_nil ?_
      clear hE17
      clear a17
      refine then_normal ?_
      refine wp_ret ?_
      refine then_ret ?_
      exact fin1 hE19 rfl rfl ⟨by rw [hM], hS3.below⟩
    ·
      have hM := hM.trans (if_f hb18)
      have hb18f : p0.Age = p1.Age := by simpa using hb18
      refine wp_skip ?_
      refine then_normal ?_
      refine wp_seq (wp_seq (wp_region_lit ?_))
      refine st_val hE17 (y_fieldAddr hE17 rfl fa119_2 rfl) rfl fun a20 hE20 => st_val hE20 (y_load_one hE20 rfl (hS3.cells (k := 1) rfl) rfl one3) rfl fun a21 hE21 => st_val hE21 (y_fieldAddr hE21 rfl fa119_2 rfl) rfl fun a22 hE22 => st_val hE22 (y_load_one hE22 rfl (hS3.cells (k := 0) rfl) rfl one3) rfl fun a23 hE23 => st_val hE23 (y_neq hE23 rfl rfl) rfl fun a24 hE24 => wpList_nil ?_
      clear hE17 hE20 hE21 hE22 hE23
      clear a17 a20 a21 a22 a23
      refine then_normal ?_
      refine cond_split hE24 rfl (fun hb25 => ?_) (fun hb25 => ?_)
      ·
        have hM := hM.trans (if_t hb25)
        have hb25f : ¬ (p0.Proc = p1.Proc) := by simpa using hb25
        refine wp_seq (wp_region_lit ?_)
        refine st_val hE24 (y_assign hE24 rfl) rfl fun a26 hE26 => wpList_nil ?_
        clear hE24
        clear a24
        refine then_normal ?_
        refine wp_ret ?_
        refine then_ret ?_
        exact fin1 hE26 rfl rfl ⟨by rw [hM], hS3.below⟩
      ·
        have hM := hM.trans (if_f hb25)
        have hb25f : p0.Proc = p1.Proc := by simpa using hb25
        refine wp_skip ?_
        refine then_normal ?_
        refine wp_seq (wp_seq (wp_region_lit ?_))
        refine st_val hE24 (y_fieldAddr hE24 rfl fa119_3 rfl) rfl fun a27 hE27 => st_val hE27 (y_load_one hE27 rfl (hS3.cells (k := 1) rfl) rfl one3) rfl fun a28 hE28 => st_val hE28 (y_fieldAddr hE28 rfl fa119_3 rfl) rfl fun a29 hE29 => st_val hE29 (y_load_one hE29 rfl (hS3.cells (k := 0) rfl) rfl one3) rfl fun a30 hE30 => st_val hE30 (y_neq hE30 rfl rfl) rfl fun a31 hE31 => wpList_nil ?_
        clear hE24 hE27 hE28 hE29 hE30
        clear a24 a27 a28 a29 a30
        refine then_normal ?_
        refine cond_split hE31 rfl (fun hb32 => ?_) (fun hb32 => ?_)
        ·
          have hM := hM.trans (if_t hb32)
          have hb32f : ¬ (p0.Began = p1.Began) := by simpa using hb32
          refine wp_seq (wp_region_lit ?_)
          refine st_val hE31 (y_assign hE31 rfl) rfl fun a33 hE33 => wpList_nil ?_
          clear hE31
          clear a31
          refine then_normal ?_
          refine wp_ret ?_
          refine then_ret ?_
          exact fin1 hE33 rfl rfl ⟨by rw [hM], hS3.below⟩
        ·
          have hM := hM.trans (if_f hb32)
          have hb32f : p0.Began = p1.Began := by simpa using hb32
          refine wp_skip ?_
          refine then_normal ?_
          refine wp_seq (wp_seq (wp_region_lit ?_))
          refine st_val hE31 (y_fieldAddr hE31 rfl fa119_4 rfl) rfl fun a34 hE34 => st_val hE34 (y_load_one hE34 rfl (hS3.cells (k := 1) rfl) rfl one116) rfl fun a35 hE35 => st_val hE35 (y_fieldAddr hE35 rfl fa119_4 rfl) rfl fun a36 hE36 => st_val hE36 (y_load_one hE36 rfl (hS3.cells (k := 0) rfl) rfl one116) rfl fun a37 hE37 => st_callF hE37 hS3 Try.func98 fb98 fn98 (c_laws_eqCallS p0.Calls p1.Calls (hS3.up hv90000_4) (hS3.up hv90001_4)) rfl rfl fun w38 hS38 a39 hE39 => st_val hE39 (y_not hE39 rfl) rfl fun a40 hE40 => wpList_nil ?_
          clear hE31 hE34 hE35 hE36 hE37 hE39
          clear a31 a34 a35 a36 a37 a39
          refine then_normal ?_
          refine cond_split hE40 rfl (fun hb41 => ?_) (fun hb41 => ?_)
          ·
            have hM := hM.trans (if_t hb41)
            refine wp_seq (wp_region_lit ?_)
            refine st_val hE40 (y_assign hE40 rfl) rfl fun a42 hE42 => wpList_nil ?_
            clear hE40
            clear a40
            refine then_normal ?_
            refine wp_ret ?_
            refine then_ret ?_
            exact fin1 hE42 rfl rfl ⟨by rw [hM], hS38.below⟩
          ·
            have hM := hM.trans (if_f hb41)
            refine wp_skip ?_
            refine then_normal ?_
            refine wp_seq (wp_seq (wp_region_lit ?_))
            refine st_val hE40 (y_fieldAddr hE40 rfl fa119_5 rfl) rfl fun a43 hE43 => st_val hE43 (y_load_one hE43 rfl (hS38.cells (k := 1) rfl) rfl one72) rfl fun a44 hE44 => st_val hE44 (y_fieldAddr hE44 rfl fa119_5 rfl) rfl fun a45 hE45 => st_val hE45 (y_load_one hE45 rfl (hS38.cells (k := 0) rfl) rfl one72) rfl fun a46 hE46 => st_callF hE46 hS38 Try.func62 fb62 fn62 (c_laws_eqAnswerS p0.Answers p1.Answers (hS38.up hv90000_5) (hS38.up hv90001_5)) rfl rfl fun w47 hS47 a48 hE48 => st_val hE48 (y_not hE48 rfl) rfl fun a49 hE49 => wpList_nil ?_
            clear hE40 hE43 hE44 hE45 hE46 hE48
            clear a40 a43 a44 a45 a46 a48
            refine then_normal ?_
            refine cond_split hE49 rfl (fun hb50 => ?_) (fun hb50 => ?_)
            ·
              have hM := hM.trans (if_t hb50)
              refine wp_seq (wp_region_lit ?_)
              refine st_val hE49 (y_assign hE49 rfl) rfl fun a51 hE51 => wpList_nil ?_
              clear hE49
              clear a49
              refine then_normal ?_
              refine wp_ret ?_
              refine then_ret ?_
              exact fin1 hE51 rfl rfl ⟨by rw [hM], hS47.below⟩
            ·
              have hM := hM.trans (if_f hb50)
              refine wp_skip ?_
              refine then_normal ?_
              refine wp_seq (wp_seq (wp_region_lit ?_))
              refine st_val hE49 (y_fieldAddr hE49 rfl fa119_6 rfl) rfl fun a52 hE52 => st_val hE52 (y_load_agg hE52 rfl (hS47.cells (k := 1) rfl) rfl rfl agg117) rfl fun a53 hE53 => st_val hE53 (y_fieldAddr hE53 rfl fa119_6 rfl) rfl fun a54 hE54 => st_val hE54 (y_load_agg hE54 rfl (hS47.cells (k := 0) rfl) rfl rfl agg117) rfl fun a55 hE55 => st_callF hE55 hS47 Try.func99 fb99 fn99 (c_laws_eqTouch p0.Touch p1.Touch (hS47.upd (Touch_mk (x := p0.Touch) hv90000_6 hv90000_7)) (hS47.upd (Touch_mk (x := p1.Touch) hv90001_6 hv90001_7))) rfl rfl fun w56 hS56 a57 hE57 => st_val hE57 (y_not hE57 rfl) rfl fun a58 hE58 => wpList_nil ?_
              clear hE49 hE52 hE53 hE54 hE55 hE57
              clear a49 a52 a53 a54 a55 a57
              refine then_normal ?_
              refine cond_split hE58 rfl (fun hb59 => ?_) (fun hb59 => ?_)
              ·
                have hM := hM.trans (if_t hb59)
                refine wp_seq (wp_region_lit ?_)
                refine st_val hE58 (y_assign hE58 rfl) rfl fun a60 hE60 => wpList_nil ?_
                clear hE58
                clear a58
                refine then_normal ?_
                refine wp_ret ?_
                refine then_ret ?_
                exact fin1 hE60 rfl rfl ⟨by rw [hM], hS56.below⟩
              ·
                have hM := hM.trans (if_f hb59)
                refine wp_skip ?_
                refine then_normal ?_
                refine wp_seq (wp_seq (wp_region_lit ?_))
                refine st_val hE58 (y_fieldAddr hE58 rfl fa119_7 rfl) rfl fun a61 hE61 => st_val hE61 (y_load_one hE61 rfl (hS56.cells (k := 1) rfl) rfl one32) rfl fun a62 hE62 => st_val hE62 (y_fieldAddr hE62 rfl fa119_7 rfl) rfl fun a63 hE63 => st_val hE63 (y_load_one hE63 rfl (hS56.cells (k := 0) rfl) rfl one32) rfl fun a64 hE64 => st_callF hE64 hS56 Try.func20 fb20 fn20 (c_laws_eqIntS p0.Marks p1.Marks (hS56.up hv90000_8) (hS56.up hv90001_8)) rfl rfl fun w65 hS65 a66 hE66 => st_val hE66 (y_not hE66 rfl) rfl fun a67 hE67 => wpList_nil ?_
                clear hE58 hE61 hE62 hE63 hE64 hE66
                clear a58 a61 a62 a63 a64 a66
                refine then_normal ?_
                refine cond_split hE67 rfl (fun hb68 => ?_) (fun hb68 => ?_)
                ·
                  have hM := hM.trans (if_t hb68)
                  refine wp_seq (wp_region_lit ?_)
                  refine st_val hE67 (y_assign hE67 rfl) rfl fun a69 hE69 => wpList_nil ?_
                  clear hE67
                  clear a67
                  refine then_normal ?_
                  refine wp_ret ?_
                  refine then_ret ?_
                  exact fin1 hE69 rfl rfl ⟨by rw [hM], hS65.below⟩
                ·
                  have hM := hM.trans (if_f hb68)
                  refine wp_skip ?_
                  refine then_normal ?_
                  refine wp_seq (wp_seq (wp_region_lit ?_))
                  refine st_val hE67 (y_fieldAddr hE67 rfl fa119_8 rfl) rfl fun a70 hE70 => st_val hE70 (y_load_one hE70 rfl (hS65.cells (k := 1) rfl) rfl one3) rfl fun a71 hE71 => st_val hE71 (y_fieldAddr hE71 rfl fa119_8 rfl) rfl fun a72 hE72 => st_val hE72 (y_load_one hE72 rfl (hS65.cells (k := 0) rfl) rfl one3) rfl fun a73 hE73 => st_val hE73 (y_neq hE73 rfl rfl) rfl fun a74 hE74 => wpList_nil ?_
                  clear hE67 hE70 hE71 hE72 hE73
                  clear a67 a70 a71 a72 a73
                  refine then_normal ?_
                  refine cond_split hE74 rfl (fun hb75 => ?_) (fun hb75 => ?_)
                  ·
                    have hM := hM.trans (if_t hb75)
                    have hb75f : ¬ (p0.State = p1.State) := by simpa using hb75
                    refine wp_seq (wp_region_lit ?_)
                    refine st_val hE74 (y_assign hE74 rfl) rfl fun a76 hE76 => wpList_nil ?_
                    clear hE74
                    clear a74
                    refine then_normal ?_
                    refine wp_ret ?_
                    refine then_ret ?_
                    exact fin1 hE76 rfl rfl ⟨by rw [hM], hS65.below⟩
                  ·
                    have hM := hM.trans (if_f hb75)
                    have hb75f : p0.State = p1.State := by simpa using hb75
                    refine wp_skip ?_
                    refine then_normal ?_
                    refine wp_seq (wp_region_lit ?_)
                    refine st_val hE74 (y_assign hE74 rfl) rfl fun a77 hE77 => wpList_nil ?_
                    clear hE74
                    clear a74
                    refine then_normal ?_
                    refine wp_ret ?_
                    exact fin1 hE77 rfl rfl ⟨by rw [hM], hS65.below⟩

/- F55 loop.example/g00974/laws.eqTxS -/
def laws_eqTxS_l1 (p0 : List Tx) (p1 : List Tx) : Nat → Nat → Bool
  | 0, i1 => true
  | fu1 + 1, i1 => (if (!(laws_eqTx (nth p0 i1) (nth p1 i1))) = true then false else laws_eqTxS_l1 p0 p1 fu1 (i1 + 1) )
def laws_eqTxS (p0 : List Tx) (p1 : List Tx) : Bool := (if (!decide ((p0.length : Int) = (p1.length : Int))) = true then false else laws_eqTxS_l1 p0 p1 (p0.length - 0) 0 )
theorem c_laws_eqTxS {v0 : Value} (p0 : List Tx) {v1 : Value} (p1 : List Tx) {w : World} (hp0 : SlR (Old w) w v0 p0) (hp1 : SlR (Old w) w v1 p1) :
    Calls Try.prog 55 [v0, v1].toArray w (fun e w' => e = .returned (.bool (laws_eqTxS p0 p1)) ∧ Below w.heap.size w w') := by
  obtain ⟨A0, cap0, rfl, hx0⟩ := hp0.form
  obtain ⟨A1, cap1, rfl, hx1⟩ := hp1.form
  refine enter Try.func55 rfl Try.ntmps55 (Nat.le_of_ble_eq_true rfl) ?_
  intro a0 hE0
  have hS0 := SH.start w
  have hM := laws_eqTxS.eq_1 p0 p1
  refine wp_seq (wp_region_lit ?_)
  refine st_val hE0 (y_assign hE0 rfl) rfl fun a1 hE1 => wpList_nil ?_
  clear hE0
  clear a0
  refine then_normal ?_
  refine wp_seq (wp_seq (wp_region_lit ?_))
  refine st_val hE1 (y_move hE1 rfl) rfl fun a2 hE2 => st_val hE2 (y_len_slice hE2 rfl sl54) rfl fun a3 hE3 => st_val hE3 (y_move hE3 rfl) rfl fun a4 hE4 => st_val hE4 (y_len_slice hE4 rfl sl54) rfl fun a5 hE5 => st_val hE5 (y_neq hE5 rfl rfl) rfl fun a6 hE6 => wpList_nil ?_
  clear hE1 hE2 hE3 hE4 hE5
  clear a1 a2 a3 a4 a5
  refine then_normal ?_
  refine cond_split hE6 rfl (fun hb7 => ?_) (fun hb7 => ?_)
  ·
    have hM := hM.trans (if_t hb7)
    have hb7f : ¬ ((p0.length : Int) = (p1.length : Int)) := by simpa using hb7
    refine wp_seq (wp_region_lit ?_)
    refine st_val hE6 (y_assign hE6 rfl) rfl fun a8 hE8 => wpList_nil ?_
    clear hE6
    clear a6
    refine then_normal ?_
    refine wp_ret ?_
    refine then_ret ?_
    exact fin1 hE8 rfl rfl ⟨by rw [hM], hS0.below⟩
  ·
    have hM := hM.trans (if_f hb7)
    have hb7f : (p0.length : Int) = (p1.length : Int) := by simpa using hb7
    refine wp_skip ?_
    refine then_normal ?_
    refine wp_seq (wp_seq (wp_region_lit ?_))
    refine st_val hE6 (y_assign hE6 rfl) rfl fun a9 hE9 => wpList_nil ?_
    clear hE6
    clear a6
    refine then_normal ?_
    refine wp_block (wp_loop_ghost (fun fu1 a w2 => ∃ (i1 : Nat), 0 ≤ i1 ∧ fu1 = p0.length - i1 ∧ laws_eqTxS p0 p1 = laws_eqTxS_l1 p0 p1 fu1 i1  ∧ Env 27 [(0, .slice A0 p0.length cap0), (1, .slice A1 p1.length cap1), (5, .int .i64 (i1 : Int))] a ∧ SH (Old w) w w2 []) (p0.length - 0) ⟨0, Nat.le_refl _, rfl, hM, hE9.weaken ⟨rfl, rfl, rfl, trivial⟩, hS0⟩ ?_)
    clear hM hE9
    rintro fu1 a10 w10 ⟨i1, hi1, hfu1, hM, hE10, hS10⟩
    refine wp_seq (wp_seq (wp_region_lit ?_))
    refine st_val hE10 (y_move hE10 rfl) rfl fun a11 hE11 => st_val hE11 (y_move hE11 rfl) rfl fun a12 hE12 => st_val hE12 (y_len_slice hE12 rfl sl54) rfl fun a13 hE13 => st_val hE13 (y_lss hE13 rfl rfl) rfl fun a14 hE14 => wpList_nil ?_
    clear hE10 hE11 hE12 hE13
    clear a10 a11 a12 a13
    refine then_normal ?_
    refine cond_split hE14 rfl (fun hb15 => ?_) (fun hb15 => ?_)
    ·
      have hlt1 : i1 < p0.length := by have := of_decide_eq_true hb15; omega
      obtain ⟨fu1, rfl⟩ : ∃ m, fu1 = m + 1 := ⟨fu1 - 1, by omega⟩
      have hM := hM.trans (laws_eqTxS_l1.eq_2 _ _ _ _)
      refine wp_skip ?_
      refine then_normal ?_
      refine wp_seq (wp_block (wp_seq (reg_quiet mixed (by kernel_rfl) hS10 ?_)))
      refine q_val hE14 (fun w10 hS10 => y_move hE14 rfl) rfl fun a16 hE16 => q_val hE16 (fun w10 hS10 => y_move hE16 rfl) rfl fun a17 hE17 => q_index hE17 hp0 rfl rfl rfl (by omega) sl54 rfl fun ad18 cs18 hr18 hc18 hl18 a19 hE19 => ?_
      obtain ⟨v18_4, v18_5, v18_6, v18_7, v18_8, rfl, hg18_0, hg18_1, hg18_2, hg18_3, hv18_4, hv18_5, hv18_6, hv18_7, hv18_8, hg18_9, _⟩ := Tx_open hr18
      obtain ⟨A18_4, cp18_4, rfl, hx18_4⟩ := hv18_4.form
      obtain ⟨A18_5, cp18_5, rfl, hx18_5⟩ := hv18_5.form
      obtain ⟨A18_6, cp18_6, rfl, hx18_6⟩ := hv18_6.form
      obtain ⟨A18_7, cp18_7, rfl, hx18_7⟩ := hv18_7.form
      obtain ⟨A18_8, cp18_8, rfl, hx18_8⟩ := hv18_8.form
      refine q_val hE19 (fun w10 hS10 => y_load_agg hE19 rfl (hS10.upc hc18 hl18) rfl rfl agg119) rfl fun a20 hE20 => q_val hE20 (fun w10 hS10 => y_move hE20 rfl) rfl fun a21 hE21 => q_val hE21 (fun w10 hS10 => y_move hE21 rfl) rfl fun a22 hE22 => q_index hE22 hp1 rfl rfl rfl (by omega) sl54 rfl fun ad23 cs23 hr23 hc23 hl23 a24 hE24 => ?_
      obtain ⟨v23_4, v23_5, v23_6, v23_7, v23_8, rfl, hg23_0, hg23_1, hg23_2, hg23_3, hv23_4, hv23_5, hv23_6, hv23_7, hv23_8, hg23_9, _⟩ := Tx_open hr23
      obtain ⟨A23_4, cp23_4, rfl, hx23_4⟩ := hv23_4.form
      obtain ⟨A23_5, cp23_5, rfl, hx23_5⟩ := hv23_5.form
      obtain ⟨A23_6, cp23_6, rfl, hx23_6⟩ := hv23_6.form
      obtain ⟨A23_7, cp23_7, rfl, hx23_7⟩ := hv23_7.form
      obtain ⟨A23_8, cp23_8, rfl, hx23_8⟩ := hv23_8.form
      refine q_val hE24 (fun w10 hS10 => y_load_agg hE24 rfl (hS10.upc hc23 hl23) rfl rfl agg119) rfl fun a25 hE25 => q_call hE25 Try.func77 fb77 fn77 (fun w10 hS10 => (c_laws_eqTx (nth p0 i1) (nth p1 i1) (hS10.upd hr18) (hS10.upd hr23))) rfl rfl fun a26 hE26 => q_val hE26 (fun w10 hS10 => y_not hE26 rfl) rfl fun a27 hE27 => ?_
      refine q_nil fun w28 hS28 => ?_
      clear hE14 hE16 hE17 hE19 hE20 hE21 hE22 hE24 hE25 hE26
      clear a14 a16 a17 a19 a20 a21 a22 a24 a25 a26
      refine then_normal ?_
      refine cond_split hE27 rfl (fun hb29 => ?_) (fun hb29 => ?_)
      ·
        have hM := hM.trans (if_t hb29)
        refine wp_seq (wp_region_lit ?_)
        refine st_val hE27 (y_assign hE27 rfl) rfl fun a30 hE30 => wpList_nil ?_
        clear hE27
        clear a27
        refine then_normal ?_
        refine wp_ret ?_
        refine blk_ret ?_
        refine then_ret ?_
        refine then_ret ?_
        refine blk_ret ?_
        refine then_ret ?_
        exact fin1 hE30 rfl rfl ⟨by rw [hM], hS28.below⟩
      ·
        have hM := hM.trans (if_f hb29)
        refine wp_skip ?_
        refine blk_normal ?_
        refine then_normal ?_
        refine wp_region_lit ?_
        refine st_val hE27 (y_move hE27 rfl) rfl fun a31 hE31 => st_val hE31 (y_add_in hE31 rfl rfl (m := ((i1 + 1 : Nat) : Int)) (by omega) (by omega) (by omega)) rfl fun a32 hE32 => st_val hE32 (y_assign hE32 rfl) rfl fun a33 hE33 => wpList_nil ?_
        clear hE27 hE31 hE32
        clear a27 a31 a32
        refine then_normal ⟨fu1, Nat.lt_succ_self _, (i1 + 1), by omega, by omega, hM, hE33.weaken ⟨rfl, rfl, rfl, trivial⟩, hS28⟩
    ·
      have hge1 : ¬ i1 < p0.length := by have := of_decide_eq_false hb15; omega
      obtain rfl : fu1 = 0 := by omega
      have hM := hM.trans (laws_eqTxS_l1.eq_1 _ _ _)
      refine wp_exit ?_
      refine then_exit ?_
      refine then_exit ?_
      refine blk_exit ?_
      refine then_normal ?_
      refine wp_seq (wp_region_lit ?_)
      refine st_val hE14 (y_assign hE14 rfl) rfl fun a34 hE34 => wpList_nil ?_
      clear hE14
      clear a14
      refine then_normal ?_
      refine wp_ret ?_
      exact fin1 hE34 rfl rfl ⟨by rw [hM], hS10.below⟩

/- F100 loop.example/g00974/laws.eqSlot -/
def laws_eqSlot (p0 : Slot) (p1 : Slot) : Bool := (if (!decide (p0.Seq = p1.Seq)) = true then false else (if (!(laws_eqCellS p0.Cells p1.Cells)) = true then false else (if (!decide (p0.Whole = p1.Whole)) = true then false else true)))
theorem c_laws_eqSlot {c0 : List Value} (p0 : Slot) {c1 : List Value} (p1 : Slot) {w : World} (hp0 : Dat.rd (Old w) w c0 p0) (hp1 : Dat.rd (Old w) w c1 p1) :
    Calls Try.prog 100 [.agg c0.toArray, .agg c1.toArray].toArray w (fun e w' => e = .returned (.bool (laws_eqSlot p0 p1)) ∧ Below w.heap.size w w') := by
  obtain ⟨v90000_1, rfl, hg90000_0, hv90000_1, _⟩ := Slot_open hp0
  obtain ⟨A90000_1, cp90000_1, rfl, hx90000_1⟩ := hv90000_1.form
  obtain ⟨v90001_1, rfl, hg90001_0, hv90001_1, _⟩ := Slot_open hp1
  obtain ⟨A90001_1, cp90001_1, rfl, hx90001_1⟩ := hv90001_1.form
  refine enter Try.func100 rfl Try.ntmps100 (Nat.le_of_ble_eq_true rfl) ?_
  intro a0 hE0
  have hS0 := SH.start w
  have hM := laws_eqSlot.eq_1 p0 p1
  refine wp_seq (wp_region_lit ?_)
  refine st_box hE0 hS0 rfl rfl rfl fun b1 w1 hS1 a2 hE2 => st_box hE2 hS1 rfl rfl rfl fun b3 w3 hS3 a4 hE4 => st_val hE4 (y_assign hE4 rfl) rfl fun a5 hE5 => wpList_nil ?_
  clear hE0 hE2 hE4
  clear a0 a2 a4
  refine then_normal ?_
  refine wp_seq (wp_seq (wp_region_lit ?_))
  refine st_val hE5 (y_fieldAddr hE5 rfl fa150_0 rfl) rfl fun a6 hE6 => st_val hE6 (y_load_one hE6 rfl (hS3.cells (k := 1) rfl) rfl one3) rfl fun a7 hE7 => st_val hE7 (y_fieldAddr hE7 rfl fa150_0 rfl) rfl fun a8 hE8 => st_val hE8 (y_load_one hE8 rfl (hS3.cells (k := 0) rfl) rfl one3) rfl fun a9 hE9 => st_val hE9 (y_neq hE9 rfl rfl) rfl fun a10 hE10 => wpList_nil ?_
  clear hE5 hE6 hE7 hE8 hE9
  clear a5 a6 a7 a8 a9
  refine then_normal ?_
  refine cond_split hE10 rfl (fun hb11 => ?_) (fun hb11 => ?_)
  ·
    have hM := hM.trans (if_t hb11)
    have hb11f : ¬ (p0.Seq = p1.Seq) := by simpa using hb11
    refine wp_seq (wp_region_lit ?_)
    refine st_val hE10 (y_assign hE10 rfl) rfl fun a12 hE12 => wpList_nil ?_
    clear hE10
    clear a10
    refine then_normal ?_
    refine wp_ret ?_
    refine then_ret ?_
    exact fin1 hE12 rfl rfl ⟨by rw [hM], hS3.below⟩
  ·
    have hM := hM.trans (if_f hb11)
    have hb11f : p0.Seq = p1.Seq := by simpa using hb11
    refine wp_skip ?_
    refine then_normal ?_
    refine wp_seq (wp_seq (wp_region_lit ?_))
    refine st_val hE10 (y_fieldAddr hE10 rfl fa150_1 rfl) rfl fun a13 hE13 => st_val hE13 (y_load_one hE13 rfl (hS3.cells (k := 1) rfl) rfl one53) rfl fun a14 hE14 => st_val hE14 (y_fieldAddr hE14 rfl fa150_1 rfl) rfl fun a15 hE15 => st_val hE15 (y_load_one hE15 rfl (hS3.cells (k := 0) rfl) rfl one53) rfl fun a16 hE16 => st_callF hE16 hS3 Try.func54 fb54 fn54 (c_laws_eqCellS p0.Cells p1.Cells (hS3.up hv90000_1) (hS3.up hv90001_1)) rfl rfl fun w17 hS17 a18 hE18 => st_val hE18 (y_not hE18 rfl) rfl fun a19 hE19 => wpList_nil ?_
    clear hE10 hE13 hE14 hE15 hE16 hE18
    clear a10 a13 a14 a15 a16 a18
    refine then_normal ?_
    refine cond_split hE19 rfl (fun hb20 => ?_) (fun hb20 => ?_)
    ·
      have hM := hM.trans (if_t hb20)
      refine wp_seq (wp_region_lit ?_)
      refine st_val hE19 (y_assign hE19 rfl) rfl fun a21 hE21 => wpList_nil ?_
      clear hE19
      clear a19
      refine then_normal ?_
      refine wp_ret ?_
      refine then_ret ?_
      exact fin1 hE21 rfl rfl ⟨by rw [hM], hS17.below⟩
    ·
      have hM := hM.trans (if_f hb20)
      refine wp_skip ?_
      refine then_normal ?_
      refine wp_seq (wp_seq (wp_region_lit ?_))
      refine st_val hE19 (y_fieldAddr hE19 rfl fa150_2 rfl) rfl fun a22 hE22 => st_val hE22 (y_load_one hE22 rfl (hS17.cells (k := 1) rfl) rfl one4) rfl fun a23 hE23 => st_val hE23 (y_fieldAddr hE23 rfl fa150_2 rfl) rfl fun a24 hE24 => st_val hE24 (y_load_one hE24 rfl (hS17.cells (k := 0) rfl) rfl one4) rfl fun a25 hE25 => st_val hE25 (y_neq_bool hE25 rfl rfl Try.underlying4) rfl fun a26 hE26 => wpList_nil ?_
      clear hE19 hE22 hE23 hE24 hE25
      clear a19 a22 a23 a24 a25
      refine then_normal ?_
      refine cond_split hE26 rfl (fun hb27 => ?_) (fun hb27 => ?_)
      ·
        have hM := hM.trans (if_t hb27)
        refine wp_seq (wp_region_lit ?_)
        refine st_val hE26 (y_assign hE26 rfl) rfl fun a28 hE28 => wpList_nil ?_
        clear hE26
        clear a26
        refine then_normal ?_
        refine wp_ret ?_
        refine then_ret ?_
        exact fin1 hE28 rfl rfl ⟨by rw [hM], hS17.below⟩
      ·
        have hM := hM.trans (if_f hb27)
        refine wp_skip ?_
        refine then_normal ?_
        refine wp_seq (wp_region_lit ?_)
        refine st_val hE26 (y_assign hE26 rfl) rfl fun a29 hE29 => wpList_nil ?_
        clear hE26
        clear a26
        refine then_normal ?_
        refine wp_ret ?_
        exact fin1 hE29 rfl rfl ⟨by rw [hM], hS17.below⟩

/- F78 loop.example/g00974/laws.eqSlotS -/
def laws_eqSlotS_l1 (p0 : List Slot) (p1 : List Slot) : Nat → Nat → Bool
  | 0, i1 => true
  | fu1 + 1, i1 => (if (!(laws_eqSlot (nth p0 i1) (nth p1 i1))) = true then false else laws_eqSlotS_l1 p0 p1 fu1 (i1 + 1) )
def laws_eqSlotS (p0 : List Slot) (p1 : List Slot) : Bool := (if (!decide ((p0.length : Int) = (p1.length : Int))) = true then false else laws_eqSlotS_l1 p0 p1 (p0.length - 0) 0 )
theorem c_laws_eqSlotS {v0 : Value} (p0 : List Slot) {v1 : Value} (p1 : List Slot) {w : World} (hp0 : SlR (Old w) w v0 p0) (hp1 : SlR (Old w) w v1 p1) :
    Calls Try.prog 78 [v0, v1].toArray w (fun e w' => e = .returned (.bool (laws_eqSlotS p0 p1)) ∧ Below w.heap.size w w') := by
  obtain ⟨A0, cap0, rfl, hx0⟩ := hp0.form
  obtain ⟨A1, cap1, rfl, hx1⟩ := hp1.form
  refine enter Try.func78 rfl Try.ntmps78 (Nat.le_of_ble_eq_true rfl) ?_
  intro a0 hE0
  have hS0 := SH.start w
  have hM := laws_eqSlotS.eq_1 p0 p1
  refine wp_seq (wp_region_lit ?_)
  refine st_val hE0 (y_assign hE0 rfl) rfl fun a1 hE1 => wpList_nil ?_
  clear hE0
  clear a0
  refine then_normal ?_
  refine wp_seq (wp_seq (wp_region_lit ?_))
  refine st_val hE1 (y_move hE1 rfl) rfl fun a2 hE2 => st_val hE2 (y_len_slice hE2 rfl sl55) rfl fun a3 hE3 => st_val hE3 (y_move hE3 rfl) rfl fun a4 hE4 => st_val hE4 (y_len_slice hE4 rfl sl55) rfl fun a5 hE5 => st_val hE5 (y_neq hE5 rfl rfl) rfl fun a6 hE6 => wpList_nil ?_
  clear hE1 hE2 hE3 hE4 hE5
  clear a1 a2 a3 a4 a5
  refine then_normal ?_
  refine cond_split hE6 rfl (fun hb7 => ?_) (fun hb7 => ?_)
  ·
    have hM := hM.trans (if_t hb7)
    have hb7f : ¬ ((p0.length : Int) = (p1.length : Int)) := by simpa using hb7
    refine wp_seq (wp_region_lit ?_)
    refine st_val hE6 (y_assign hE6 rfl) rfl fun a8 hE8 => wpList_nil ?_
    clear hE6
    clear a6
    refine then_normal ?_
    refine wp_ret ?_
    refine then_ret ?_
    exact fin1 hE8 rfl rfl ⟨by rw [hM], hS0.below⟩
  ·
    have hM := hM.trans (if_f hb7)
    have hb7f : (p0.length : Int) = (p1.length : Int) := by simpa using hb7
    refine wp_skip ?_
    refine then_normal ?_
    refine wp_seq (wp_seq (wp_region_lit ?_))
    refine st_val hE6 (y_assign hE6 rfl) rfl fun a9 hE9 => wpList_nil ?_
    clear hE6
    clear a6
    refine then_normal ?_
    refine wp_block (wp_loop_ghost (fun fu1 a w2 => ∃ (i1 : Nat), 0 ≤ i1 ∧ fu1 = p0.length - i1 ∧ laws_eqSlotS p0 p1 = laws_eqSlotS_l1 p0 p1 fu1 i1  ∧ Env 27 [(0, .slice A0 p0.length cap0), (1, .slice A1 p1.length cap1), (5, .int .i64 (i1 : Int))] a ∧ SH (Old w) w w2 []) (p0.length - 0) ⟨0, Nat.le_refl _, rfl, hM, hE9.weaken ⟨rfl, rfl, rfl, trivial⟩, hS0⟩ ?_)
    clear hM hE9
    rintro fu1 a10 w10 ⟨i1, hi1, hfu1, hM, hE10, hS10⟩
    refine wp_seq (wp_seq (wp_region_lit ?_))
    refine st_val hE10 (y_move hE10 rfl) rfl fun a11 hE11 => st_val hE11 (y_move hE11 rfl) rfl fun a12 hE12 => st_val hE12 (y_len_slice hE12 rfl sl55) rfl fun a13 hE13 => st_val hE13 (y_lss hE13 rfl rfl) rfl fun a14 hE14 => wpList_nil ?_
    clear hE10 hE11 hE12 hE13
    clear a10 a11 a12 a13
    refine then_normal ?_
    refine cond_split hE14 rfl (fun hb15 => ?_) (fun hb15 => ?_)
    ·
      have hlt1 : i1 < p0.length := by have := of_decide_eq_true hb15; omega
      obtain ⟨fu1, rfl⟩ : ∃ m, fu1 = m + 1 := ⟨fu1 - 1, by omega⟩
      have hM := hM.trans (laws_eqSlotS_l1.eq_2 _ _ _ _)
      refine wp_skip ?_
      refine then_normal ?_
      refine wp_seq (wp_block (wp_seq (reg_quiet mixed (by kernel_rfl) hS10 ?_)))
      refine q_val hE14 (fun w10 hS10 => y_move hE14 rfl) rfl fun a16 hE16 => q_val hE16 (fun w10 hS10 => y_move hE16 rfl) rfl fun a17 hE17 => q_index hE17 hp0 rfl rfl rfl (by omega) sl55 rfl fun ad18 cs18 hr18 hc18 hl18 a19 hE19 => ?_
      obtain ⟨v18_1, rfl, hg18_0, hv18_1, _⟩ := Slot_open hr18
      obtain ⟨A18_1, cp18_1, rfl, hx18_1⟩ := hv18_1.form
      refine q_val hE19 (fun w10 hS10 => y_load_agg hE19 rfl (hS10.upc hc18 hl18) rfl rfl agg150) rfl fun a20 hE20 => q_val hE20 (fun w10 hS10 => y_move hE20 rfl) rfl fun a21 hE21 => q_val hE21 (fun w10 hS10 => y_move hE21 rfl) rfl fun a22 hE22 => q_index hE22 hp1 rfl rfl rfl (by omega) sl55 rfl fun ad23 cs23 hr23 hc23 hl23 a24 hE24 => ?_
      obtain ⟨v23_1, rfl, hg23_0, hv23_1, _⟩ := Slot_open hr23
      obtain ⟨A23_1, cp23_1, rfl, hx23_1⟩ := hv23_1.form
      refine q_val hE24 (fun w10 hS10 => y_load_agg hE24 rfl (hS10.upc hc23 hl23) rfl rfl agg150) rfl fun a25 hE25 => q_call hE25 Try.func100 fb100 fn100 (fun w10 hS10 => (c_laws_eqSlot (nth p0 i1) (nth p1 i1) (hS10.upd hr18) (hS10.upd hr23))) rfl rfl fun a26 hE26 => q_val hE26 (fun w10 hS10 => y_not hE26 rfl) rfl fun a27 hE27 => ?_
      refine q_nil fun w28 hS28 => ?_
      clear hE14 hE16 hE17 hE19 hE20 hE21 hE22 hE24 hE25 hE26
      clear a14 a16 a17 a19 a20 a21 a22 a24 a25 a26
      refine then_normal ?_
      refine cond_split hE27 rfl (fun hb29 => ?_) (fun hb29 => ?_)
      ·
        have hM := hM.trans (if_t hb29)
        refine wp_seq (wp_region_lit ?_)
        refine st_val hE27 (y_assign hE27 rfl) rfl fun a30 hE30 => wpList_nil ?_
        clear hE27
        clear a27
        refine then_normal ?_
        refine wp_ret ?_
        refine blk_ret ?_
        refine then_ret ?_
        refine then_ret ?_
        refine blk_ret ?_
        refine then_ret ?_
        exact fin1 hE30 rfl rfl ⟨by rw [hM], hS28.below⟩
      ·
        have hM := hM.trans (if_f hb29)
        refine wp_skip ?_
        refine blk_normal ?_
        refine then_normal ?_
        refine wp_region_lit ?_
        refine st_val hE27 (y_move hE27 rfl) rfl fun a31 hE31 => st_val hE31 (y_add_in hE31 rfl rfl (m := ((i1 + 1 : Nat) : Int)) (by omega) (by omega) (by omega)) rfl fun a32 hE32 => st_val hE32 (y_assign hE32 rfl) rfl fun a33 hE33 => wpList_nil ?_
        clear hE27 hE31 hE32
        clear a27 a31 a32
        refine then_normal ⟨fu1, Nat.lt_succ_self _, (i1 + 1), by omega, by omega, hM, hE33.weaken ⟨rfl, rfl, rfl, trivial⟩, hS28⟩
    ·
      have hge1 : ¬ i1 < p0.length := by have := of_decide_eq_false hb15; omega
      obtain rfl : fu1 = 0 := by omega
      have hM := hM.trans (laws_eqSlotS_l1.eq_1 _ _ _)
      refine wp_exit ?_
      refine then_exit ?_
      refine then_exit ?_
      refine blk_exit ?_
      refine then_normal ?_
      refine wp_seq (wp_region_lit ?_)
      refine st_val hE14 (y_assign hE14 rfl) rfl fun a34 hE34 => wpList_nil ?_
      clear hE14
      clear a14
      refine then_normal ?_
      refine wp_ret ?_
      exact fin1 hE34 rfl rfl ⟨by rw [hM], hS10.below⟩

/- F79 loop.example/g00974/laws.eqJournal -/
def laws_eqJournal (p0 : Journal) (p1 : Journal) : Bool := (if (!decide (p0.Text = p1.Text)) = true then false else (if (!decide (p0.Sure = p1.Sure)) = true then false else true))
theorem c_laws_eqJournal {c0 : List Value} (p0 : Journal) {c1 : List Value} (p1 : Journal) {w : World} (hp0 : Dat.rd (Old w) w c0 p0) (hp1 : Dat.rd (Old w) w c1 p1) :
    Calls Try.prog 79 [.agg c0.toArray, .agg c1.toArray].toArray w (fun e w' => e = .returned (.bool (laws_eqJournal p0 p1)) ∧ Below w.heap.size w w') := by
  obtain ⟨rfl, hg90000_0, hg90000_1, _⟩ := Journal_open hp0
  obtain ⟨rfl, hg90001_0, hg90001_1, _⟩ := Journal_open hp1
  refine enter Try.func79 rfl Try.ntmps79 (Nat.le_of_ble_eq_true rfl) ?_
  intro a0 hE0
  have hS0 := SH.start w
  have hM := laws_eqJournal.eq_1 p0 p1
  refine wp_seq (wp_region_lit ?_)
  refine st_box hE0 hS0 rfl rfl rfl fun b1 w1 hS1 a2 hE2 => st_box hE2 hS1 rfl rfl rfl fun b3 w3 hS3 a4 hE4 => st_val hE4 (y_assign hE4 rfl) rfl fun a5 hE5 => wpList_nil ?_
  clear hE0 hE2 hE4
  clear a0 a2 a4
  refine then_normal ?_
  refine wp_seq (wp_seq (wp_region_lit ?_))
  refine st_val hE5 (y_fieldAddr hE5 rfl fa56_0 rfl) rfl fun a6 hE6 => st_val hE6 (y_load_one hE6 rfl (hS3.cells (k := 1) rfl) rfl one9) rfl fun a7 hE7 => st_val hE7 (y_fieldAddr hE7 rfl fa56_0 rfl) rfl fun a8 hE8 => st_val hE8 (y_load_one hE8 rfl (hS3.cells (k := 0) rfl) rfl one9) rfl fun a9 hE9 => st_val hE9 (y_neq_string hE9 rfl rfl) rfl fun a10 hE10 => wpList_nil ?_
  clear hE5 hE6 hE7 hE8 hE9
  clear a5 a6 a7 a8 a9
  refine then_normal ?_
  refine cond_split hE10 rfl (fun hb11 => ?_) (fun hb11 => ?_)
  ·
    have hM := hM.trans (if_t hb11)
    refine wp_seq (wp_region_lit ?_)
    refine st_val hE10 (y_assign hE10 rfl) rfl fun a12 hE12 => wpList_nil ?_
    clear hE10
    clear a10
    refine then_normal ?_
    refine wp_ret ?_
    refine then_ret ?_
    exact fin1 hE12 rfl rfl ⟨by rw [hM], hS3.below⟩
  ·
    have hM := hM.trans (if_f hb11)
    refine wp_skip ?_
    refine then_normal ?_
    refine wp_seq (wp_seq (wp_region_lit ?_))
    refine st_val hE10 (y_fieldAddr hE10 rfl fa56_1 rfl) rfl fun a13 hE13 => st_val hE13 (y_load_one hE13 rfl (hS3.cells (k := 1) rfl) rfl one3) rfl fun a14 hE14 => st_val hE14 (y_fieldAddr hE14 rfl fa56_1 rfl) rfl fun a15 hE15 => st_val hE15 (y_load_one hE15 rfl (hS3.cells (k := 0) rfl) rfl one3) rfl fun a16 hE16 => st_val hE16 (y_neq hE16 rfl rfl) rfl fun a17 hE17 => wpList_nil ?_
    clear hE10 hE13 hE14 hE15 hE16
    clear a10 a13 a14 a15 a16
    refine then_normal ?_
    refine cond_split hE17 rfl (fun hb18 => ?_) (fun hb18 => ?_)
    ·
      have hM := hM.trans (if_t hb18)
      have hb18f : ¬ (p0.Sure = p1.Sure) := by simpa using hb18
      refine wp_seq (wp_region_lit ?_)
      refine st_val hE17 (y_assign hE17 rfl) rfl fun a19 hE19 => wpList_nil ?_
      clear hE17
      clear a17
      refine then_normal ?_
      refine wp_ret ?_
      refine then_ret ?_
      exact fin1 hE19 rfl rfl ⟨by rw [hM], hS3.below⟩
    ·
      have hM := hM.trans (if_f hb18)
      have hb18f : p0.Sure = p1.Sure := by simpa using hb18
      refine wp_skip ?_
      refine then_normal ?_
      refine wp_seq (wp_region_lit ?_)
      refine st_val hE17 (y_assign hE17 rfl) rfl fun a20 hE20 => wpList_nil ?_
      clear hE17
      clear a17
      refine then_normal ?_
      refine wp_ret ?_
      exact fin1 hE20 rfl rfl ⟨by rw [hM], hS3.below⟩

/- F56 loop.example/g00974/laws.eqDisk -/
def laws_eqDisk (p0 : Disk) (p1 : Disk) : Bool := (if (!(laws_eqSlotS p0.Slots p1.Slots)) = true then false else (if (!(laws_eqJournal p0.Journal p1.Journal)) = true then false else true))
theorem c_laws_eqDisk {c0 : List Value} (p0 : Disk) {c1 : List Value} (p1 : Disk) {w : World} (hp0 : Dat.rd (Old w) w c0 p0) (hp1 : Dat.rd (Old w) w c1 p1) :
    Calls Try.prog 56 [.agg c0.toArray, .agg c1.toArray].toArray w (fun e w' => e = .returned (.bool (laws_eqDisk p0 p1)) ∧ Below w.heap.size w w') := by
  obtain ⟨v90000_0, rfl, hv90000_0, hg90000_1, hg90000_2, _⟩ := Disk_open hp0
  obtain ⟨A90000_0, cp90000_0, rfl, hx90000_0⟩ := hv90000_0.form
  obtain ⟨v90001_0, rfl, hv90001_0, hg90001_1, hg90001_2, _⟩ := Disk_open hp1
  obtain ⟨A90001_0, cp90001_0, rfl, hx90001_0⟩ := hv90001_0.form
  refine enter Try.func56 rfl Try.ntmps56 (Nat.le_of_ble_eq_true rfl) ?_
  intro a0 hE0
  have hS0 := SH.start w
  have hM := laws_eqDisk.eq_1 p0 p1
  refine wp_seq (wp_region_lit ?_)
  refine st_box hE0 hS0 rfl rfl rfl fun b1 w1 hS1 a2 hE2 => st_box hE2 hS1 rfl rfl rfl fun b3 w3 hS3 a4 hE4 => st_val hE4 (y_assign hE4 rfl) rfl fun a5 hE5 => wpList_nil ?_
  clear hE0 hE2 hE4
  clear a0 a2 a4
  refine then_normal ?_
  refine wp_seq (wp_seq (wp_region_lit ?_))
  refine st_val hE5 (y_fieldAddr hE5 rfl fa58_0 rfl) rfl fun a6 hE6 => st_val hE6 (y_load_one hE6 rfl (hS3.cells (k := 1) rfl) rfl one55) rfl fun a7 hE7 => st_val hE7 (y_fieldAddr hE7 rfl fa58_0 rfl) rfl fun a8 hE8 => st_val hE8 (y_load_one hE8 rfl (hS3.cells (k := 0) rfl) rfl one55) rfl fun a9 hE9 => st_callF hE9 hS3 Try.func78 fb78 fn78 (c_laws_eqSlotS p0.Slots p1.Slots (hS3.up hv90000_0) (hS3.up hv90001_0)) rfl rfl fun w10 hS10 a11 hE11 => st_val hE11 (y_not hE11 rfl) rfl fun a12 hE12 => wpList_nil ?_
  clear hE5 hE6 hE7 hE8 hE9 hE11
  clear a5 a6 a7 a8 a9 a11
  refine then_normal ?_
  refine cond_split hE12 rfl (fun hb13 => ?_) (fun hb13 => ?_)
  ·
    have hM := hM.trans (if_t hb13)
    refine wp_seq (wp_region_lit ?_)
    refine st_val hE12 (y_assign hE12 rfl) rfl fun a14 hE14 => wpList_nil ?_
    clear hE12
    clear a12
    refine then_normal ?_
    refine wp_ret ?_
    refine then_ret ?_
    exact fin1 hE14 rfl rfl ⟨by rw [hM], hS10.below⟩
  ·
    have hM := hM.trans (if_f hb13)
    refine wp_skip ?_
    refine then_normal ?_
    refine wp_seq (wp_seq (wp_region_lit ?_))
    refine st_val hE12 (y_fieldAddr hE12 rfl fa58_1 rfl) rfl fun a15 hE15 => st_val hE15 (y_load_agg hE15 rfl (hS10.cells (k := 1) rfl) rfl rfl agg56) rfl fun a16 hE16 => st_val hE16 (y_fieldAddr hE16 rfl fa58_1 rfl) rfl fun a17 hE17 => st_val hE17 (y_load_agg hE17 rfl (hS10.cells (k := 0) rfl) rfl rfl agg56) rfl fun a18 hE18 => st_callF hE18 hS10 Try.func79 fb79 fn79 (c_laws_eqJournal p0.Journal p1.Journal (hS10.upd (Journal_mk (x := p0.Journal) hg90000_1 hg90000_2)) (hS10.upd (Journal_mk (x := p1.Journal) hg90001_1 hg90001_2))) rfl rfl fun w19 hS19 a20 hE20 => st_val hE20 (y_not hE20 rfl) rfl fun a21 hE21 => wpList_nil ?_
    clear hE12 hE15 hE16 hE17 hE18 hE20
    clear a12 a15 a16 a17 a18 a20
    refine then_normal ?_
    refine cond_split hE21 rfl (fun hb22 => ?_) (fun hb22 => ?_)
    ·
      have hM := hM.trans (if_t hb22)
      refine wp_seq (wp_region_lit ?_)
      refine st_val hE21 (y_assign hE21 rfl) rfl fun a23 hE23 => wpList_nil ?_
      clear hE21
      clear a21
      refine then_normal ?_
      refine wp_ret ?_
      refine then_ret ?_
      exact fin1 hE23 rfl rfl ⟨by rw [hM], hS19.below⟩
    ·
      have hM := hM.trans (if_f hb22)
      refine wp_skip ?_
      refine then_normal ?_
      refine wp_seq (wp_region_lit ?_)
      refine st_val hE21 (y_assign hE21 rfl) rfl fun a24 hE24 => wpList_nil ?_
      clear hE21
      clear a21
      refine then_normal ?_
      refine wp_ret ?_
      exact fin1 hE24 rfl rfl ⟨by rw [hM], hS19.below⟩

/- F33 loop.example/g00974/laws.eqKernel -/
def laws_eqKernel (p0 : Kernel) (p1 : Kernel) : Bool := (if (!(laws_eqCellS p0.Store p1.Store)) = true then false else (if (!(laws_eqTxS p0.Txs p1.Txs)) = true then false else (if (!(laws_eqDisk p0.Disk p1.Disk)) = true then false else (if (!decide (p0.Seq = p1.Seq)) = true then false else (if (!decide (p0.Next = p1.Next)) = true then false else (if (!decide (p0.Time = p1.Time)) = true then false else (if (!(laws_eqEntryS p0.History p1.History)) = true then false else (if (!(laws_eqStringS p0.Seen p1.Seen)) = true then false else (if (!decide (p0.Room = p1.Room)) = true then false else true)))))))))
theorem c_laws_eqKernel {c0 : List Value} (p0 : Kernel) {c1 : List Value} (p1 : Kernel) {w : World} (hp0 : Dat.rd (Old w) w c0 p0) (hp1 : Dat.rd (Old w) w c1 p1) :
    Calls Try.prog 33 [.agg c0.toArray, .agg c1.toArray].toArray w (fun e w' => e = .returned (.bool (laws_eqKernel p0 p1)) ∧ Below w.heap.size w w') := by
  obtain ⟨v90000_0, v90000_1, v90000_2, v90000_8, v90000_9, rfl, hv90000_0, hv90000_1, hv90000_2, hg90000_3, hg90000_4, hg90000_5, hg90000_6, hg90000_7, hv90000_8, hv90000_9, _⟩ := Kernel_open hp0
  obtain ⟨A90000_0, cp90000_0, rfl, hx90000_0⟩ := hv90000_0.form
  obtain ⟨A90000_1, cp90000_1, rfl, hx90000_1⟩ := hv90000_1.form
  obtain ⟨A90000_2, cp90000_2, rfl, hx90000_2⟩ := hv90000_2.form
  obtain ⟨A90000_8, cp90000_8, rfl, hx90000_8⟩ := hv90000_8.form
  obtain ⟨A90000_9, cp90000_9, rfl, hx90000_9⟩ := hv90000_9.form
  obtain ⟨v90001_0, v90001_1, v90001_2, v90001_8, v90001_9, rfl, hv90001_0, hv90001_1, hv90001_2, hg90001_3, hg90001_4, hg90001_5, hg90001_6, hg90001_7, hv90001_8, hv90001_9, _⟩ := Kernel_open hp1
  obtain ⟨A90001_0, cp90001_0, rfl, hx90001_0⟩ := hv90001_0.form
  obtain ⟨A90001_1, cp90001_1, rfl, hx90001_1⟩ := hv90001_1.form
  obtain ⟨A90001_2, cp90001_2, rfl, hx90001_2⟩ := hv90001_2.form
  obtain ⟨A90001_8, cp90001_8, rfl, hx90001_8⟩ := hv90001_8.form
  obtain ⟨A90001_9, cp90001_9, rfl, hx90001_9⟩ := hv90001_9.form
  refine enter Try.func33 rfl Try.ntmps33 (Nat.le_of_ble_eq_true rfl) ?_
  intro a0 hE0
  have hS0 := SH.start w
  have hM := laws_eqKernel.eq_1 p0 p1
  refine wp_seq (wp_region_lit ?_)
  refine st_box hE0 hS0 rfl rfl rfl fun b1 w1 hS1 a2 hE2 => st_box hE2 hS1 rfl rfl rfl fun b3 w3 hS3 a4 hE4 => st_val hE4 (y_assign hE4 rfl) rfl fun a5 hE5 => wpList_nil ?_
  clear hE0 hE2 hE4
  clear a0 a2 a4
  refine then_normal ?_
  refine wp_seq (wp_seq (wp_region_lit ?_))
  refine st_val hE5 (y_fieldAddr hE5 rfl fa60_0 rfl) rfl fun a6 hE6 => st_val hE6 (y_load_one hE6 rfl (hS3.cells (k := 1) rfl) rfl one53) rfl fun a7 hE7 => st_val hE7 (y_fieldAddr hE7 rfl fa60_0 rfl) rfl fun a8 hE8 => st_val hE8 (y_load_one hE8 rfl (hS3.cells (k := 0) rfl) rfl one53) rfl fun a9 hE9 => st_callF hE9 hS3 Try.func54 fb54 fn54 (c_laws_eqCellS p0.Store p1.Store (hS3.up hv90000_0) (hS3.up hv90001_0)) rfl rfl fun w10 hS10 a11 hE11 => st_val hE11 (y_not hE11 rfl) rfl fun a12 hE12 => wpList_nil ?_
  clear hE5 hE6 hE7 hE8 hE9 hE11
  clear a5 a6 a7 a8 a9 a11
  refine then_normal ?_
  refine cond_split hE12 rfl (fun hb13 => ?_) (fun hb13 => ?_)
  ·
    have hM := hM.trans (if_t hb13)
    refine wp_seq (wp_region_lit ?_)
    refine st_val hE12 (y_assign hE12 rfl) rfl fun a14 hE14 => wpList_nil ?_
    clear hE12
    clear a12
    refine then_normal ?_
    refine wp_ret ?_
    refine then_ret ?_
    exact fin1 hE14 rfl rfl ⟨by rw [hM], hS10.below⟩
  ·
    have hM := hM.trans (if_f hb13)
    refine wp_skip ?_
    refine then_normal ?_
    refine wp_seq (wp_seq (wp_region_lit ?_))
    refine st_val hE12 (y_fieldAddr hE12 rfl fa60_1 rfl) rfl fun a15 hE15 => st_val hE15 (y_load_one hE15 rfl (hS10.cells (k := 1) rfl) rfl one54) rfl fun a16 hE16 => st_val hE16 (y_fieldAddr hE16 rfl fa60_1 rfl) rfl fun a17 hE17 => st_val hE17 (y_load_one hE17 rfl (hS10.cells (k := 0) rfl) rfl one54) rfl fun a18 hE18 => st_callF hE18 hS10 Try.func55 fb55 fn55 (c_laws_eqTxS p0.Txs p1.Txs (hS10.up hv90000_1) (hS10.up hv90001_1)) rfl rfl fun w19 hS19 a20 hE20 => st_val hE20 (y_not hE20 rfl) rfl fun a21 hE21 => wpList_nil ?_
    clear hE12 hE15 hE16 hE17 hE18 hE20
    clear a12 a15 a16 a17 a18 a20
    refine then_normal ?_
    refine cond_split hE21 rfl (fun hb22 => ?_) (fun hb22 => ?_)
    ·
      have hM := hM.trans (if_t hb22)
      refine wp_seq (wp_region_lit ?_)
      refine st_val hE21 (y_assign hE21 rfl) rfl fun a23 hE23 => wpList_nil ?_
      clear hE21
      clear a21
      refine then_normal ?_
      refine wp_ret ?_
      refine then_ret ?_
      exact fin1 hE23 rfl rfl ⟨by rw [hM], hS19.below⟩
    ·
      have hM := hM.trans (if_f hb22)
      refine wp_skip ?_
      refine then_normal ?_
      refine wp_seq (wp_seq (wp_region_lit ?_))
      refine st_val hE21 (y_fieldAddr hE21 rfl fa60_2 rfl) rfl fun a24 hE24 => st_val hE24 (y_load_agg hE24 rfl (hS19.cells (k := 1) rfl) rfl rfl agg58) rfl fun a25 hE25 => st_val hE25 (y_fieldAddr hE25 rfl fa60_2 rfl) rfl fun a26 hE26 => st_val hE26 (y_load_agg hE26 rfl (hS19.cells (k := 0) rfl) rfl rfl agg58) rfl fun a27 hE27 => st_callF hE27 hS19 Try.func56 fb56 fn56 (c_laws_eqDisk p0.Disk p1.Disk (hS19.upd (Disk_mk (x := p0.Disk) hv90000_2 hg90000_3 hg90000_4)) (hS19.upd (Disk_mk (x := p1.Disk) hv90001_2 hg90001_3 hg90001_4))) rfl rfl fun w28 hS28 a29 hE29 => st_val hE29 (y_not hE29 rfl) rfl fun a30 hE30 => wpList_nil ?_
      clear hE21 hE24 hE25 hE26 hE27 hE29
      clear a21 a24 a25 a26 a27 a29
      refine then_normal ?_
      refine cond_split hE30 rfl (fun hb31 => ?_) (fun hb31 => ?_)
      ·
        have hM := hM.trans (if_t hb31)
        refine wp_seq (wp_region_lit ?_)
        refine st_val hE30 (y_assign hE30 rfl) rfl fun a32 hE32 => wpList_nil ?_
        clear hE30
        clear a30
        refine then_normal ?_
        refine wp_ret ?_
        refine then_ret ?_
        exact fin1 hE32 rfl rfl ⟨by rw [hM], hS28.below⟩
      ·
        have hM := hM.trans (if_f hb31)
        refine wp_skip ?_
        refine then_normal ?_
        refine wp_seq (wp_seq (wp_region_lit ?_))
        refine st_val hE30 (y_fieldAddr hE30 rfl fa60_3 rfl) rfl fun a33 hE33 => st_val hE33 (y_load_one hE33 rfl (hS28.cells (k := 1) rfl) rfl one3) rfl fun a34 hE34 => st_val hE34 (y_fieldAddr hE34 rfl fa60_3 rfl) rfl fun a35 hE35 => st_val hE35 (y_load_one hE35 rfl (hS28.cells (k := 0) rfl) rfl one3) rfl fun a36 hE36 => st_val hE36 (y_neq hE36 rfl rfl) rfl fun a37 hE37 => wpList_nil ?_
        clear hE30 hE33 hE34 hE35 hE36
        clear a30 a33 a34 a35 a36
        refine then_normal ?_
        refine cond_split hE37 rfl (fun hb38 => ?_) (fun hb38 => ?_)
        ·
          have hM := hM.trans (if_t hb38)
          have hb38f : ¬ (p0.Seq = p1.Seq) := by simpa using hb38
          refine wp_seq (wp_region_lit ?_)
          refine st_val hE37 (y_assign hE37 rfl) rfl fun a39 hE39 => wpList_nil ?_
          clear hE37
          clear a37
          refine then_normal ?_
          refine wp_ret ?_
          refine then_ret ?_
          exact fin1 hE39 rfl rfl ⟨by rw [hM], hS28.below⟩
        ·
          have hM := hM.trans (if_f hb38)
          have hb38f : p0.Seq = p1.Seq := by simpa using hb38
          refine wp_skip ?_
          refine then_normal ?_
          refine wp_seq (wp_seq (wp_region_lit ?_))
          refine st_val hE37 (y_fieldAddr hE37 rfl fa60_4 rfl) rfl fun a40 hE40 => st_val hE40 (y_load_one hE40 rfl (hS28.cells (k := 1) rfl) rfl one3) rfl fun a41 hE41 => st_val hE41 (y_fieldAddr hE41 rfl fa60_4 rfl) rfl fun a42 hE42 => st_val hE42 (y_load_one hE42 rfl (hS28.cells (k := 0) rfl) rfl one3) rfl fun a43 hE43 => st_val hE43 (y_neq hE43 rfl rfl) rfl fun a44 hE44 => wpList_nil ?_
          clear hE37 hE40 hE41 hE42 hE43
          clear a37 a40 a41 a42 a43
          refine then_normal ?_
          refine cond_split hE44 rfl (fun hb45 => ?_) (fun hb45 => ?_)
          ·
            have hM := hM.trans (if_t hb45)
            have hb45f : ¬ (p0.Next = p1.Next) := by simpa using hb45
            refine wp_seq (wp_region_lit ?_)
            refine st_val hE44 (y_assign hE44 rfl) rfl fun a46 hE46 => wpList_nil ?_
            clear hE44
            clear a44
            refine then_normal ?_
            refine wp_ret ?_
            refine then_ret ?_
            exact fin1 hE46 rfl rfl ⟨by rw [hM], hS28.below⟩
          ·
            have hM := hM.trans (if_f hb45)
            have hb45f : p0.Next = p1.Next := by simpa using hb45
            refine wp_skip ?_
            refine then_normal ?_
            refine wp_seq (wp_seq (wp_region_lit ?_))
            refine st_val hE44 (y_fieldAddr hE44 rfl fa60_5 rfl) rfl fun a47 hE47 => st_val hE47 (y_load_one hE47 rfl (hS28.cells (k := 1) rfl) rfl one3) rfl fun a48 hE48 => st_val hE48 (y_fieldAddr hE48 rfl fa60_5 rfl) rfl fun a49 hE49 => st_val hE49 (y_load_one hE49 rfl (hS28.cells (k := 0) rfl) rfl one3) rfl fun a50 hE50 => st_val hE50 (y_neq hE50 rfl rfl) rfl fun a51 hE51 => wpList_nil ?_
            clear hE44 hE47 hE48 hE49 hE50
            clear a44 a47 a48 a49 a50
            refine then_normal ?_
            refine cond_split hE51 rfl (fun hb52 => ?_) (fun hb52 => ?_)
            ·
              have hM := hM.trans (if_t hb52)
              have hb52f : ¬ (p0.Time = p1.Time) := by simpa using hb52
              refine wp_seq (wp_region_lit ?_)
              refine st_val hE51 (y_assign hE51 rfl) rfl fun a53 hE53 => wpList_nil ?_
              clear hE51
              clear a51
              refine then_normal ?_
              refine wp_ret ?_
              refine then_ret ?_
              exact fin1 hE53 rfl rfl ⟨by rw [hM], hS28.below⟩
            ·
              have hM := hM.trans (if_f hb52)
              have hb52f : p0.Time = p1.Time := by simpa using hb52
              refine wp_skip ?_
              refine then_normal ?_
              refine wp_seq (wp_seq (wp_region_lit ?_))
              refine st_val hE51 (y_fieldAddr hE51 rfl fa60_6 rfl) rfl fun a54 hE54 => st_val hE54 (y_load_one hE54 rfl (hS28.cells (k := 1) rfl) rfl one27) rfl fun a55 hE55 => st_val hE55 (y_fieldAddr hE55 rfl fa60_6 rfl) rfl fun a56 hE56 => st_val hE56 (y_load_one hE56 rfl (hS28.cells (k := 0) rfl) rfl one27) rfl fun a57 hE57 => st_callF hE57 hS28 Try.func15 fb15 fn15 (c_laws_eqEntryS p0.History p1.History (hS28.up hv90000_8) (hS28.up hv90001_8)) rfl rfl fun w58 hS58 a59 hE59 => st_val hE59 (y_not hE59 rfl) rfl fun a60 hE60 => wpList_nil ?_
              clear hE51 hE54 hE55 hE56 hE57 hE59
              clear a51 a54 a55 a56 a57 a59
              refine then_normal ?_
              refine cond_split hE60 rfl (fun hb61 => ?_) (fun hb61 => ?_)
              ·
                have hM := hM.trans (if_t hb61)
                refine wp_seq (wp_region_lit ?_)
                refine st_val hE60 (y_assign hE60 rfl) rfl fun a62 hE62 => wpList_nil ?_
                clear hE60
                clear a60
                refine then_normal ?_
                refine wp_ret ?_
                refine then_ret ?_
                exact fin1 hE62 rfl rfl ⟨by rw [hM], hS58.below⟩
              ·
                have hM := hM.trans (if_f hb61)
                refine wp_skip ?_
                refine then_normal ?_
                refine wp_seq (wp_seq (wp_region_lit ?_))
                refine st_val hE60 (y_fieldAddr hE60 rfl fa60_7 rfl) rfl fun a63 hE63 => st_val hE63 (y_load_one hE63 rfl (hS58.cells (k := 1) rfl) rfl one38) rfl fun a64 hE64 => st_val hE64 (y_fieldAddr hE64 rfl fa60_7 rfl) rfl fun a65 hE65 => st_val hE65 (y_load_one hE65 rfl (hS58.cells (k := 0) rfl) rfl one38) rfl fun a66 hE66 => st_callF hE66 hS58 Try.func26 fb26 fn26 (c_laws_eqStringS p0.Seen p1.Seen (hS58.up hv90000_9) (hS58.up hv90001_9)) rfl rfl fun w67 hS67 a68 hE68 => st_val hE68 (y_not hE68 rfl) rfl fun a69 hE69 => wpList_nil ?_
                clear hE60 hE63 hE64 hE65 hE66 hE68
                clear a60 a63 a64 a65 a66 a68
                refine then_normal ?_
                refine cond_split hE69 rfl (fun hb70 => ?_) (fun hb70 => ?_)
                ·
                  have hM := hM.trans (if_t hb70)
                  refine wp_seq (wp_region_lit ?_)
                  refine st_val hE69 (y_assign hE69 rfl) rfl fun a71 hE71 => wpList_nil ?_
                  clear hE69
                  clear a69
                  refine then_normal ?_
                  refine wp_ret ?_
                  refine then_ret ?_
                  exact fin1 hE71 rfl rfl ⟨by rw [hM], hS67.below⟩
                ·
                  have hM := hM.trans (if_f hb70)
                  refine wp_skip ?_
                  refine then_normal ?_
                  refine wp_seq (wp_seq (wp_region_lit ?_))
                  refine st_val hE69 (y_fieldAddr hE69 rfl fa60_8 rfl) rfl fun a72 hE72 => st_val hE72 (y_load_one hE72 rfl (hS67.cells (k := 1) rfl) rfl one4) rfl fun a73 hE73 => st_val hE73 (y_fieldAddr hE73 rfl fa60_8 rfl) rfl fun a74 hE74 => st_val hE74 (y_load_one hE74 rfl (hS67.cells (k := 0) rfl) rfl one4) rfl fun a75 hE75 => st_val hE75 (y_neq_bool hE75 rfl rfl Try.underlying4) rfl fun a76 hE76 => wpList_nil ?_
                  clear hE69 hE72 hE73 hE74 hE75
                  clear a69 a72 a73 a74 a75
                  refine then_normal ?_
                  refine cond_split hE76 rfl (fun hb77 => ?_) (fun hb77 => ?_)
                  ·
                    have hM := hM.trans (if_t hb77)
                    refine wp_seq (wp_region_lit ?_)
                    refine st_val hE76 (y_assign hE76 rfl) rfl fun a78 hE78 => wpList_nil ?_
                    clear hE76
                    clear a76
                    refine then_normal ?_
                    refine wp_ret ?_
                    refine then_ret ?_
                    exact fin1 hE78 rfl rfl ⟨by rw [hM], hS67.below⟩
                  ·
                    have hM := hM.trans (if_f hb77)
                    refine wp_skip ?_
                    refine then_normal ?_
                    refine wp_seq (wp_region_lit ?_)
                    refine st_val hE76 (y_assign hE76 rfl) rfl fun a79 hE79 => wpList_nil ?_
                    clear hE76
                    clear a76
                    refine then_normal ?_
                    refine wp_ret ?_
                    exact fin1 hE79 rfl rfl ⟨by rw [hM], hS67.below⟩

end Go.Proofs.Ytpfnofdaaekglaa.Fw
