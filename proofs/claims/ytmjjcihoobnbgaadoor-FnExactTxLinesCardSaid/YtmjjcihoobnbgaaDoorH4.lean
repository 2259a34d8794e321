/- Contracts: each call returns what the model says. By program (wip/gen). -/
import Derived.Test.YtmjjcihoobnbgaaDoorP5
namespace Go.Proofs.YtmjjcihoobnbgaaDoor.Fw
open Go.RowKit
set_option linter.unusedVariables false
set_option linter.unusedSimpArgs false

theorem agg84 : chkAgg Tryd.prog 84 10 = true := by kernel_rfl
theorem fb63 : Tryd.f63.body.isNone = false := rfl
theorem fb65 : Tryd.f65.body.isNone = false := rfl
theorem fb67 : Tryd.f67.body.isNone = false := rfl
theorem fn63 : (Tryd.f63.name == "runtime.NumGoroutine") = false := by kernel_rfl
theorem fn65 : (Tryd.f65.name == "runtime.NumGoroutine") = false := by kernel_rfl
theorem fn67 : (Tryd.f67.name == "runtime.NumGoroutine") = false := by kernel_rfl
theorem sl41 : chkSlice Tryd.prog 41 84 10 160 = true := by kernel_rfl
theorem sl45 : chkSlice Tryd.prog 45 90 10 160 = true := by kernel_rfl

/- F22 loop.example/g00974/laws.szTxS -/
def laws_szTxS_l1 (p0 : List Tx) (p1 : Int) : Nat → Nat → Int → Int
  | 0, i1, s1_1 => s1_1
  | fu1 + 1, i1, s1_1 => (if (decide ((laws_szTx (nth p0 i1) s1_1) < 0)) = true then (-1) else laws_szTxS_l1 p0 p1 fu1 (i1 + 1) (laws_szTx (nth p0 i1) s1_1))
def laws_szTxS (p0 : List Tx) (p1 : Int) : Int := (if (decide (IntKind.i64.wrap (p1 - (p0.length : Int)) < 0)) = true then (-1) else laws_szTxS_l1 p0 p1 (p0.length - 0) 0 (IntKind.i64.wrap (p1 - (p0.length : Int))))
theorem c_laws_szTxS {v0 : Value} (p0 : List Tx) (p1 : Int) {w : World} (hp0 : SlR (Old w) w v0 p0) :
    Calls Tryd.prog 22 [v0, .int .i64 p1].toArray w (fun e w' => e = .returned (.int .i64 (laws_szTxS p0 p1)) ∧ Below w.heap.size w w') := by
  obtain ⟨A0, cap0, rfl, hx0⟩ := hp0.form
  refine enter Tryd.func22 rfl Tryd.ntmps22 (Nat.le_of_ble_eq_true rfl) ?_
  intro a0 hE0
  have hS0 := SH.start w
  have hM := laws_szTxS.eq_1 p0 p1
  refine wp_seq (wp_region_lit ?_)
  refine st_val hE0 (y_assign hE0 rfl) rfl fun a1 hE1 => wpList_nil ?_
  clear hE0
  clear a0
  refine then_normal ?_
  refine wp_seq (wp_region_lit ?_)
  refine st_val hE1 (y_move hE1 rfl) rfl fun a2 hE2 => st_val hE2 (y_move hE2 rfl) rfl fun a3 hE3 => st_val hE3 (y_len_slice hE3 rfl sl41) rfl fun a4 hE4 => st_val hE4 (y_sub hE4 rfl rfl) rfl fun a5 hE5 => st_val hE5 (y_assign hE5 rfl) rfl fun a6 hE6 => wpList_nil ?_
  clear hE1 hE2 hE3 hE4 hE5
  clear a1 a2 a3 a4 a5
  refine then_normal ?_
  refine wp_seq (wp_seq (wp_region_lit ?_))
  refine st_val hE6 (y_move hE6 rfl) rfl fun a7 hE7 => st_val hE7 (y_lss hE7 rfl rfl) rfl fun a8 hE8 => wpList_nil ?_
  clear hE6 hE7
  clear a6 a7
  refine then_normal ?_
  refine cond_split hE8 rfl (fun hb9 => ?_) (fun hb9 => ?_)
  ·
    have hM := hM.trans (if_t hb9)
    have hb9f : IntKind.i64.wrap (p1 - (p0.length : Int)) < 0 := of_decide_eq_true hb9
    refine wp_seq (wp_region_lit ?_)
    refine st_val hE8 (y_assign hE8 rfl) rfl fun a10 hE10 => wpList_nil ?_
    clear hE8
    clear a8
    refine then_normal ?_
    refine wp_ret ?_
    refine then_ret ?_
    exact fin1 hE10 rfl rfl ⟨by rw [hM], hS0.below⟩
  ·
    have hM := hM.trans (if_f hb9)
    have hb9f : ¬ (IntKind.i64.wrap (p1 - (p0.length : Int)) < 0) := of_decide_eq_false hb9
    refine wp_skip ?_
    refine then_normal ?_
    refine wp_seq (wp_seq (wp_region_lit ?_))
    refine st_val hE8 (y_assign hE8 rfl) rfl fun a11 hE11 => wpList_nil ?_
    clear hE8
    clear a8
    refine then_normal ?_
    refine wp_block (wp_loop_ghost (fun fu1 a w2 => ∃ (i1 : Nat) (s1_1 : Int), 0 ≤ i1 ∧ fu1 = p0.length - i1 ∧ laws_szTxS p0 p1 = laws_szTxS_l1 p0 p1 fu1 i1 s1_1 ∧ Env 27 [(0, .slice A0 p0.length cap0), (1, .int .i64 s1_1), (5, .int .i64 (i1 : Int))] a ∧ SH (Old w) w w2 []) (p0.length - 0) ⟨0, IntKind.i64.wrap (p1 - (p0.length : Int)), Nat.le_refl _, rfl, hM, hE11.weaken ⟨rfl, rfl, rfl, trivial⟩, hS0⟩ ?_)
    clear hM hE11
    rintro fu1 a12 w12 ⟨i1, s1_1, hi1, hfu1, hM, hE12, hS12⟩
    refine wp_seq (wp_seq (wp_region_lit ?_))
    refine st_val hE12 (y_move hE12 rfl) rfl fun a13 hE13 => st_val hE13 (y_move hE13 rfl) rfl fun a14 hE14 => st_val hE14 (y_len_slice hE14 rfl sl41) rfl fun a15 hE15 => st_val hE15 (y_lss hE15 rfl rfl) rfl fun a16 hE16 => wpList_nil ?_
    clear hE12 hE13 hE14 hE15
    clear a12 a13 a14 a15
    refine then_normal ?_
    refine cond_split hE16 rfl (fun hb17 => ?_) (fun hb17 => ?_)
    ·
      have hlt1 : i1 < p0.length := by have := of_decide_eq_true hb17; omega
      obtain ⟨fu1, rfl⟩ : ∃ m, fu1 = m + 1 := ⟨fu1 - 1, by omega⟩
      have hM := hM.trans (laws_szTxS_l1.eq_2 _ _ _ _ _)
      refine wp_skip ?_
      refine then_normal ?_
      refine wp_seq (wp_block (wp_seq (wp_region_lit ?_)))
      refine st_val hE16 (y_move hE16 rfl) rfl fun a18 hE18 => st_val hE18 (y_move hE18 rfl) rfl fun a19 hE19 => st_index hE19 hp0 rfl rfl rfl (by omega) sl41 rfl fun ad20 cs20 hr20 hc20 hl20 a21 hE21 => ?_
      obtain ⟨v20_4, v20_5, v20_6, v20_7, v20_8, rfl, hg20_0, hg20_1, hg20_2, hg20_3, hv20_4, hv20_5, hv20_6, hv20_7, hv20_8, hg20_9, _⟩ := Tx_open hr20
      obtain ⟨A20_4, cp20_4, rfl, hx20_4⟩ := hv20_4.form
      obtain ⟨A20_5, cp20_5, rfl, hx20_5⟩ := hv20_5.form
      obtain ⟨A20_6, cp20_6, rfl, hx20_6⟩ := hv20_6.form
      obtain ⟨A20_7, cp20_7, rfl, hx20_7⟩ := hv20_7.form
      obtain ⟨A20_8, cp20_8, rfl, hx20_8⟩ := hv20_8.form
      refine st_val hE21 (y_load_agg hE21 rfl (hS12.upc hc20 hl20) rfl rfl agg84) rfl fun a22 hE22 => st_val hE22 (y_move hE22 rfl) rfl fun a23 hE23 => st_callF hE23 hS12 Tryd.func63 fb63 fn63 (c_laws_szTx (nth p0 i1) s1_1 (hS12.upd hr20)) rfl rfl fun w24 hS24 a25 hE25 => st_val hE25 (y_assign hE25 rfl) rfl fun a26 hE26 => wpList_nil ?_
      clear hE16 hE18 hE19 hE21 hE22 hE23 hE25
      clear a16 a18 a19 a21 a22 a23 a25
      refine then_normal ?_
      refine wp_seq (wp_region_lit ?_)
      refine st_val hE26 (y_move hE26 rfl) rfl fun a27 hE27 => st_val hE27 (y_lss hE27 rfl rfl) rfl fun a28 hE28 => wpList_nil ?_
      clear hE26 hE27
      clear a26 a27
      refine then_normal ?_
      refine cond_split hE28 rfl (fun hb29 => ?_) (fun hb29 => ?_)
      ·
        have hM := hM.trans (if_t hb29)
        have hb29f : (laws_szTx (nth p0 i1) s1_1) < 0 := of_decide_eq_true hb29
        refine wp_seq (wp_region_lit ?_)
        refine st_val hE28 (y_assign hE28 rfl) rfl fun a30 hE30 => wpList_nil ?_
        clear hE28
        clear a28
        refine then_normal ?_
        refine wp_ret ?_
        refine blk_ret ?_
        refine then_ret ?_
        refine then_ret ?_
        refine blk_ret ?_
        refine then_ret ?_
        exact fin1 hE30 rfl rfl ⟨by rw [hM], hS24.below⟩
      ·
        have hM := hM.trans (if_f hb29)
        have hb29f : ¬ ((laws_szTx (nth p0 i1) s1_1) < 0) := of_decide_eq_false hb29
        refine wp_skip ?_
        refine blk_normal ?_
        refine then_normal ?_
        refine wp_region_lit ?_
        refine st_val hE28 (y_move hE28 rfl) rfl fun a31 hE31 => st_val hE31 (y_add_in hE31 rfl rfl (m := ((i1 + 1 : Nat) : Int)) (by omega) (by omega) (by omega)) rfl fun a32 hE32 => st_val hE32 (y_assign hE32 rfl) rfl fun a33 hE33 => wpList_nil ?_
        clear hE28 hE31 hE32
        clear a28 a31 a32
        refine then_normal ⟨fu1, Nat.lt_succ_self _, (i1 + 1), (laws_szTx (nth p0 i1) s1_1), by omega, by omega, hM, hE33.weaken ⟨rfl, rfl, rfl, trivial⟩, hS24⟩
    ·
      have hge1 : ¬ i1 < p0.length := by have := of_decide_eq_false hb17; omega
      obtain rfl : fu1 = 0 := by omega
      have hM := hM.trans (laws_szTxS_l1.eq_1 _ _ _ _)
      refine wp_exit ?_
      refine then_exit ?_
      refine then_exit ?_
      refine blk_exit ?_
      refine then_normal ?_
      refine wp_seq (wp_region_lit ?_)
      refine st_val hE16 (y_move hE16 rfl) rfl fun a34 hE34 => st_val hE34 (y_assign hE34 rfl) rfl fun a35 hE35 => wpList_nil ?_
      clear hE16 hE34
      clear a16 a34
      refine then_normal ?_
      refine wp_ret ?_
      exact fin1 hE35 rfl rfl ⟨by rw [hM], hS12.below⟩

/- F24 loop.example/g00974/laws.toTxS -/
def laws_toTxS_l1 (p0 : List Tx) : Nat → Nat → List Tx → List Tx
  | 0, i1, y1_0 => y1_0
  | fu1 + 1, i1, y1_0 => laws_toTxS_l1 p0 fu1 (i1 + 1) (y1_0 ++ [(laws_toTx (nth p0 i1))])
def laws_toTxS (p0 : List Tx) : List Tx := laws_toTxS_l1 p0 (p0.length - 0) 0 []
theorem c_laws_toTxS {v0 : Value} (p0 : List Tx) {w : World} (hp0 : SlR (Old w) w v0 p0) (hsm0 : Dat.small 1048576 p0) :
    Calls Tryd.prog 24 [v0].toArray w (fun e w' => ∃ v F, e = .returned v ∧ Below w.heap.size w w' ∧ SlO w' v (laws_toTxS p0) F ∧ F.Nodup ∧ ∀ b ∈ F, w.heap.size ≤ b) := by
  have hln0 : p0.length ≤ 1048576 := hsm0.1
  obtain ⟨A0, cap0, rfl, hx0⟩ := hp0.form
  refine enter Tryd.func24 rfl Tryd.ntmps24 (Nat.le_of_ble_eq_true rfl) ?_
  intro a0 hE0
  have hS0 := SH.start w
  have hM := laws_toTxS.eq_1 p0
  refine wp_seq (wp_region_lit ?_)
  refine st_val hE0 (y_assign hE0 rfl) rfl fun a1 hE1 => wpList_nil ?_
  clear hE0
  clear a0
  refine then_normal ?_
  refine wp_seq (wp_region_lit ?_)
  refine st_val hE1 (y_move hE1 rfl) rfl fun a2 hE2 => st_val hE2 (y_len_slice hE2 rfl sl41) rfl fun a3 hE3 => st_makeSlice (α := Tx) hE3 hS0 sl45 Tryd.zeroValue90 rfl rfl (by omega) (by omega) rfl fun g4 w4 hS4 a5 hE5 => st_val hE5 (y_assign hE5 rfl) rfl fun a6 hE6 => wpList_nil ?_
  clear hE1 hE2 hE3 hE5
  clear a1 a2 a3 a5
  refine then_normal ?_
  refine wp_seq (wp_seq (wp_region_lit ?_))
  refine st_val hE6 (y_assign hE6 rfl) rfl fun a7 hE7 => wpList_nil ?_
  clear hE6
  clear a6
  refine then_normal ?_
  refine wp_block (wp_loop_ghost (fun fu1 a w2 => ∃ (i1 : Nat) (y1_0 : List Tx) (Fy1_0 : List Nat), 0 ≤ i1 ∧ fu1 = p0.length - i1 ∧ (i1 ≤ p0.length ∨ i1 = 0) ∧ y1_0.length = i1 ∧ i1 ≤ p0.length ∧ laws_toTxS p0 = laws_toTxS_l1 p0 fu1 i1 y1_0 ∧ Env 23 [(0, .slice A0 p0.length cap0), (3, .slice (some ⟨g4, 0, none⟩) p0.length p0.length), (4, .int .i64 (i1 : Int))] a ∧ SH (Old w) w w2 [Ck.fill (α := Tx) g4 p0.length 90 y1_0 Fy1_0]) (p0.length - 0) ⟨0, [], [g4], Nat.le_refl _, rfl, .inr rfl, rfl, Nat.zero_le _, hM, hE7.weaken ⟨rfl, rfl, rfl, trivial⟩, hS4⟩ ?_)
  clear hM hE7 hS4
  rintro fu1 a8 w8 ⟨i1, y1_0, Fy1_0, hi1, hfu1, hup1, hy1_0, hz1_0, hM, hE8, hS8⟩
  refine wp_seq (wp_seq (wp_region_lit ?_))
  refine st_val hE8 (y_move hE8 rfl) rfl fun a9 hE9 => st_val hE9 (y_move hE9 rfl) rfl fun a10 hE10 => st_val hE10 (y_len_slice hE10 rfl sl41) rfl fun a11 hE11 => st_val hE11 (y_lss hE11 rfl rfl) rfl fun a12 hE12 => wpList_nil ?_
  clear hE8 hE9 hE10 hE11
  clear a8 a9 a10 a11
  refine then_normal ?_
  refine cond_split hE12 rfl (fun hb13 => ?_) (fun hb13 => ?_)
  ·
    have hlt1 : i1 < p0.length := by have := of_decide_eq_true hb13; omega
    obtain ⟨fu1, rfl⟩ : ∃ m, fu1 = m + 1 := ⟨fu1 - 1, by omega⟩
    have hM := hM.trans (laws_toTxS_l1.eq_2 _ _ _ _)
    refine wp_skip ?_
    refine then_normal ?_
    refine wp_seq (wp_block (wp_region_lit ?_))
    refine st_val hE12 (y_move hE12 rfl) rfl fun a14 hE14 => st_val hE14 (y_move hE14 rfl) rfl fun a15 hE15 => st_val hE15 (y_move hE15 rfl) rfl fun a16 hE16 => st_val hE16 (y_move hE16 rfl) rfl fun a17 hE17 => st_index hE17 hp0 rfl rfl rfl (by omega) sl41 rfl fun ad18 cs18 hr18 hc18 hl18 a19 hE19 => ?_
    obtain ⟨v18_4, v18_5, v18_6, v18_7, v18_8, rfl, hg18_0, hg18_1, hg18_2, hg18_3, hv18_4, hv18_5, hv18_6, hv18_7, hv18_8, hg18_9, _⟩ := Tx_open hr18
    obtain ⟨A18_4, cp18_4, rfl, hx18_4⟩ := hv18_4.form
    obtain ⟨A18_5, cp18_5, rfl, hx18_5⟩ := hv18_5.form
    obtain ⟨A18_6, cp18_6, rfl, hx18_6⟩ := hv18_6.form
    obtain ⟨A18_7, cp18_7, rfl, hx18_7⟩ := hv18_7.form
    obtain ⟨A18_8, cp18_8, rfl, hx18_8⟩ := hv18_8.form
    refine st_val hE19 (y_load_agg hE19 rfl (hS8.upc hc18 hl18) rfl rfl agg84) rfl fun a20 hE20 => st_callO (mk := fun cs => .agg cs.toArray) hE20 hS8 Tryd.func65 fb65 fn65 (c_laws_toTx (nth p0 i1) (hS8.upd hr18) (small_nth hsm0 (by omega))) rfl rfl fun cs21 F21 w21 hS21 a22 hE22 => st_val hE22 (y_indexAddr hE22 rfl rfl (by omega) (by omega) sl45) rfl fun a23 hE23 => st_fill (k := 0) (ys := y1_0) hE23 hS21 rfl (by omega) (by omega) rfl rfl rfl (chkAgg_size agg90) (hS21.oneO (k := 0) rfl) fun w24 (hS24 : SH (Old w) w w24 [Ck.fill (α := Tx) g4 p0.length 90 (y1_0 ++ [(laws_toTx (nth p0 i1))]) (Fy1_0 ++ F21)]) a25 hE25 => wpList_nil ?_
    clear hE12 hE14 hE15 hE16 hE17 hE19 hE20 hE22 hE23
    clear a12 a14 a15 a16 a17 a19 a20 a22 a23
    refine blk_normal ?_
    refine then_normal ?_
    refine wp_region_lit ?_
    refine st_val hE25 (y_move hE25 rfl) rfl fun a26 hE26 => st_val hE26 (y_add_in hE26 rfl rfl (m := ((i1 + 1 : Nat) : Int)) (by omega) (by omega) (by omega)) rfl fun a27 hE27 => st_val hE27 (y_assign hE27 rfl) rfl fun a28 hE28 => wpList_nil ?_
    clear hE25 hE26 hE27
    clear a25 a26 a27
    refine then_normal ⟨fu1, Nat.lt_succ_self _, (i1 + 1), y1_0 ++ [(laws_toTx (nth p0 i1))], Fy1_0 ++ F21, by omega, by omega, .inl (by omega), (by rw [List.length_append, hy1_0]; rfl), (by omega), hM, hE28.weaken ⟨rfl, rfl, rfl, trivial⟩, hS24⟩
  ·
    have hge1 : ¬ i1 < p0.length := by have := of_decide_eq_false hb13; omega
    obtain rfl : fu1 = 0 := by omega
    have hM := hM.trans (laws_toTxS_l1.eq_1 _ _ _)
    refine wp_exit ?_
    refine then_exit ?_
    refine then_exit ?_
    refine blk_exit ?_
    refine then_normal ?_
    refine wp_seq (wp_region_lit ?_)
    refine st_val hE12 (y_move hE12 rfl) rfl fun a29 hE29 => st_val hE29 (y_assign hE29 rfl) rfl fun a30 hE30 => wpList_nil ?_
    clear hE12 hE29
    clear a12 a29
    refine then_normal ?_
    refine wp_ret ?_
    have hS31 := hS8.conv (k := 0) rfl (Ck.own [.slice (some ⟨g4, 0, none⟩) p0.length p0.length] y1_0 Fy1_0) rfl (fill_own (by omega) (by unfold maxLen; omega))
    refine fin1 hE30 rfl rfl ?_
    rw [hM]
    exact ⟨_, _, rfl, hS31.below, hS31.slO (k := 0) rfl, hS31.nd (k := 0) rfl, hS31.ge' (k := 0) rfl⟩

/- F27 loop.example/g00974/laws.eqTxS -/
def laws_eqTxS_l1 (p0 : List Tx) (p1 : List Tx) : Nat → Nat → Bool
  | 0, i1 => true
  | fu1 + 1, i1 => (if (!(laws_eqTx (nth p0 i1) (nth p1 i1))) = true then false else laws_eqTxS_l1 p0 p1 fu1 (i1 + 1) )
def laws_eqTxS (p0 : List Tx) (p1 : List Tx) : Bool := (if (!decide ((p0.length : Int) = (p1.length : Int))) = true then false else laws_eqTxS_l1 p0 p1 (p0.length - 0) 0 )
theorem c_laws_eqTxS {v0 : Value} (p0 : List Tx) {v1 : Value} (p1 : List Tx) {w : World} (hp0 : SlR (Old w) w v0 p0) (hp1 : SlR (Old w) w v1 p1) :
    Calls Tryd.prog 27 [v0, v1].toArray w (fun e w' => e = .returned (.bool (laws_eqTxS p0 p1)) ∧ Below w.heap.size w w') := by
  obtain ⟨A0, cap0, rfl, hx0⟩ := hp0.form
  obtain ⟨A1, cap1, rfl, hx1⟩ := hp1.form
  refine enter Tryd.func27 rfl Tryd.ntmps27 (Nat.le_of_ble_eq_true rfl) ?_
  intro a0 hE0
  have hS0 := SH.start w
  have hM := laws_eqTxS.eq_1 p0 p1
  refine wp_seq (wp_region_lit ?_)
  refine st_val hE0 (y_assign hE0 rfl) rfl fun a1 hE1 => wpList_nil ?_
  clear hE0
  clear a0
  refine then_normal ?_
  refine wp_seq (wp_seq (wp_region_lit ?_))
  refine st_val hE1 (y_move hE1 rfl) rfl fun a2 hE2 => st_val hE2 (y_len_slice hE2 rfl sl45) rfl fun a3 hE3 => st_val hE3 (y_move hE3 rfl) rfl fun a4 hE4 => st_val hE4 (y_len_slice hE4 rfl sl45) rfl fun a5 hE5 => st_val hE5 (y_neq hE5 rfl rfl) rfl fun a6 hE6 => wpList_nil ?_
  clear hE1 hE2 hE3 hE4 hE5
  clear a1 a2 a3 a4 a5
  refine then_normal ?_
  refine cond_split hE6 rfl (fun hb7 => ?_) (fun hb7 => ?_)
  ·
    have hM := hM.trans (if_t hb7)
    have hb7f : ¬ ((p0.length : Int) = (p1.length : Int)) := by simpa using hb7
    refine wp_seq (wp_region_lit ?_)
    refine st_val hE6 (y_assign hE6 rfl) rfl fun a8 hE8 => wpList_nil ?_
    clear hE6
    clear a6
    refine then_normal ?_
    refine wp_ret ?_
    refine then_ret ?_
    exact fin1 hE8 rfl rfl ⟨by rw [hM], hS0.below⟩
  ·
    have hM := hM.trans (if_f hb7)
    have hb7f : (p0.length : Int) = (p1.length : Int) := by simpa using hb7
    refine wp_skip ?_
    refine then_normal ?_
    refine wp_seq (wp_seq (wp_region_lit ?_))
    refine st_val hE6 (y_assign hE6 rfl) rfl fun a9 hE9 => wpList_nil ?_
    clear hE6
    clear a6
    refine then_normal ?_
    refine wp_block (wp_loop_ghost (fun fu1 a w2 => ∃ (i1 : Nat), 0 ≤ i1 ∧ fu1 = p0.length - i1 ∧ laws_eqTxS p0 p1 = laws_eqTxS_l1 p0 p1 fu1 i1  ∧ Env 27 [(0, .slice A0 p0.length cap0), (1, .slice A1 p1.length cap1), (5, .int .i64 (i1 : Int))] a ∧ SH (Old w) w w2 []) (p0.length - 0) ⟨0, Nat.le_refl _, rfl, hM, hE9.weaken ⟨rfl, rfl, rfl, trivial⟩, hS0⟩ ?_)
    clear hM hE9
    rintro fu1 a10 w10 ⟨i1, hi1, hfu1, hM, hE10, hS10⟩
    refine wp_seq (wp_seq (wp_region_lit ?_))
    refine st_val hE10 (y_move hE10 rfl) rfl fun a11 hE11 => st_val hE11 (y_move hE11 rfl) rfl fun a12 hE12 => st_val hE12 (y_len_slice hE12 rfl sl45) rfl fun a13 hE13 => st_val hE13 (y_lss hE13 rfl rfl) rfl fun a14 hE14 => wpList_nil ?_
    clear hE10 hE11 hE12 hE13
    clear a10 a11 a12 a13
    refine then_normal ?_
    refine cond_split hE14 rfl (fun hb15 => ?_) (fun hb15 => ?_)
    ·
      have hlt1 : i1 < p0.length := by have := of_decide_eq_true hb15; omega
      obtain ⟨fu1, rfl⟩ : ∃ m, fu1 = m + 1 := ⟨fu1 - 1, by omega⟩
      have hM := hM.trans (laws_eqTxS_l1.eq_2 _ _ _ _)
      refine wp_skip ?_
      refine then_normal ?_
      refine wp_seq (wp_block (wp_seq (reg_quiet mixed (by kernel_rfl) hS10 ?_)))
      refine q_val hE14 (fun w10 hS10 => y_move hE14 rfl) rfl fun a16 hE16 => q_val hE16 (fun w10 hS10 => y_move hE16 rfl) rfl fun a17 hE17 => q_index hE17 hp0 rfl rfl rfl (by omega) sl45 rfl fun ad18 cs18 hr18 hc18 hl18 a19 hE19 => ?_
      obtain ⟨v18_4, v18_5, v18_6, v18_7, v18_8, rfl, hg18_0, hg18_1, hg18_2, hg18_3, hv18_4, hv18_5, hv18_6, hv18_7, hv18_8, hg18_9, _⟩ := Tx_open hr18
      obtain ⟨A18_4, cp18_4, rfl, hx18_4⟩ := hv18_4.form
      obtain ⟨A18_5, cp18_5, rfl, hx18_5⟩ := hv18_5.form
      obtain ⟨A18_6, cp18_6, rfl, hx18_6⟩ := hv18_6.form
      obtain ⟨A18_7, cp18_7, rfl, hx18_7⟩ := hv18_7.form
      obtain ⟨A18_8, cp18_8, rfl, hx18_8⟩ := hv18_8.form
      refine q_val hE19 (fun w10 hS10 => y_load_agg hE19 rfl (hS10.upc hc18 hl18) rfl rfl agg90) rfl fun a20 hE20 => q_val hE20 (fun w10 hS10 => y_move hE20 rfl) rfl fun a21 hE21 => q_val hE21 (fun w10 hS10 => y_move hE21 rfl) rfl fun a22 hE22 => q_index hE22 hp1 rfl rfl rfl (by omega) sl45 rfl fun ad23 cs23 hr23 hc23 hl23 a24 hE24 => ?_
      obtain ⟨v23_4, v23_5, v23_6, v23_7, v23_8, rfl, hg23_0, hg23_1, hg23_2, hg23_3, hv23_4, hv23_5, hv23_6, hv23_7, hv23_8, hg23_9, _⟩ := Tx_open hr23
      obtain ⟨A23_4, cp23_4, rfl, hx23_4⟩ := hv23_4.form
      obtain ⟨A23_5, cp23_5, rfl, hx23_5⟩ := hv23_5.form
      obtain ⟨A23_6, cp23_6, rfl, hx23_6⟩ := hv23_6.form
      obtain ⟨A23_7, cp23_7, rfl, hx23_7⟩ := hv23_7.form
      obtain ⟨A23_8, cp23_8, rfl, hx23_8⟩ := hv23_8.form
      refine q_val hE24 (fun w10 hS10 => y_load_agg hE24 rfl (hS10.upc hc23 hl23) rfl rfl agg90) rfl fun a25 hE25 => q_call hE25 Tryd.func67 fb67 fn67 (fun w10 hS10 => (c_laws_eqTx (nth p0 i1) (nth p1 i1) (hS10.upd hr18) (hS10.upd hr23))) rfl rfl fun a26 hE26 => q_val hE26 (fun w10 hS10 => y_not hE26 rfl) rfl fun a27 hE27 => ?_
      refine q_nil fun w28 hS28 => ?_
      clear hE14 hE16 hE17 hE19 hE20 hE21 hE22 hE24 hE25 hE26
      clear a14 a16 a17 a19 a20 a21 a22 a24 a25 a26
      refine then_normal ?_
      refine cond_split hE27 rfl (fun hb29 => ?_) (fun hb29 => ?_)
      ·
        have hM := hM.trans (if_t hb29)
        refine wp_seq (wp_region_lit ?_)
        refine st_val hE27 (y_assign hE27 rfl) rfl fun a30 hE30 => wpList_nil ?_
        clear hE27
        clear a27
        refine then_normal ?_
        refine wp_ret ?_
        refine blk_ret ?_
        refine then_ret ?_
        refine then_ret ?_
        refine blk_ret ?_
        refine then_ret ?_
        exact fin1 hE30 rfl rfl ⟨by rw [hM], hS28.below⟩
      ·
        have hM := hM.trans (if_f hb29)
        refine wp_skip ?_
        refine blk_normal ?_
        refine then_normal ?_
        refine wp_region_lit ?_
        refine st_val hE27 (y_move hE27 rfl) rfl fun a31 hE31 => st_val hE31 (y_add_in hE31 rfl rfl (m := ((i1 + 1 : Nat) : Int)) (by omega) (by omega) (by omega)) rfl fun a32 hE32 => st_val hE32 (y_assign hE32 rfl) rfl fun a33 hE33 => wpList_nil ?_
        clear hE27 hE31 hE32
        clear a27 a31 a32
        refine then_normal ⟨fu1, Nat.lt_succ_self _, (i1 + 1), by omega, by omega, hM, hE33.weaken ⟨rfl, rfl, rfl, trivial⟩, hS28⟩
    ·
      have hge1 : ¬ i1 < p0.length := by have := of_decide_eq_false hb15; omega
      obtain rfl : fu1 = 0 := by omega
      have hM := hM.trans (laws_eqTxS_l1.eq_1 _ _ _)
      refine wp_exit ?_
      refine then_exit ?_
      refine then_exit ?_
      refine blk_exit ?_
      refine then_normal ?_
      refine wp_seq (wp_region_lit ?_)
      refine st_val hE14 (y_assign hE14 rfl) rfl fun a34 hE34 => wpList_nil ?_
      clear hE14
      clear a14
      refine then_normal ?_
      refine wp_ret ?_
      exact fin1 hE34 rfl rfl ⟨by rw [hM], hS10.below⟩

end Go.Proofs.YtmjjcihoobnbgaaDoor.Fw
