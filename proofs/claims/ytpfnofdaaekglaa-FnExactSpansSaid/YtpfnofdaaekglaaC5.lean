/- Contracts: each call returns what the model says. By program (wip/gen). -/
import Derived.Test.YtpfnofdaaekglaaC1
namespace Go.Proofs.Ytpfnofdaaekglaa.Fw
open Go.RowKit
set_option linter.unusedVariables false
set_option linter.unusedSimpArgs false

theorem sl32 : chkSlice Try.prog 32 3 1 8 = true := by kernel_rfl

/- F19 loop.example/g00974/impl.Spans -/
def impl_Spans_l1 (p0 : List Entry) (p1 : Int) : Nat → Nat → List Int → List Int
  | 0, i1, y1_5 => y1_5
  | fu1 + 1, i1, y1_5 => (if ((decide ((nth p0 i1).Began ≤ p1)) && (decide ((nth p0 i1).Ended > p1))) = true then impl_Spans_l1 p0 p1 fu1 (i1 + 1) (y1_5 ++ [(i1 : Int)]) else impl_Spans_l1 p0 p1 fu1 (i1 + 1) y1_5)
def impl_Spans (p0 : List Entry) (p1 : Int) : List Int := impl_Spans_l1 p0 p1 (p0.length - 0) 0 ([] : List Int)
theorem c_impl_Spans {v0 : Value} (p0 : List Entry) (p1 : Int) {w : World} (hp0 : SlR (Old w) w v0 p0) (hsm0 : Dat.small 1048576 p0) :
    Calls Try.prog 19 [v0, .int .i64 p1].toArray w (fun e w' => ∃ v F, e = .returned v ∧ Below w.heap.size w w' ∧ SlO w' v (impl_Spans p0 p1) F ∧ F.Nodup ∧ ∀ b ∈ F, w.heap.size ≤ b) := by
  have hln0 : p0.length ≤ 1048576 := hsm0.1
  obtain ⟨A0, cap0, rfl, hx0⟩ := hp0.form
  refine enter Try.func19 rfl Try.ntmps19 (Nat.le_of_ble_eq_true rfl) ?_
  intro a0 hE0
  have hS0 := SH.start w
  have hM := impl_Spans.eq_1 p0 p1
  refine wp_seq (wp_region_lit ?_)
  refine st_val hE0 (y_assign hE0 rfl) rfl fun a1 hE1 => wpList_nil ?_
  clear hE0
  clear a0
  refine then_normal ?_
  refine wp_seq (wp_region_lit ?_)
  refine st_val hE1 (y_assign hE1 rfl) rfl fun a2 hE2 => wpList_nil ?_
  clear hE1
  clear a1
  refine then_normal ?_
  refine wp_seq (wp_seq (wp_region_lit ?_))
  refine st_val hE2 (y_move hE2 rfl) rfl fun a3 hE3 => st_val hE3 (y_len_slice hE3 rfl sl27) rfl fun a4 hE4 => st_val hE4 (y_move hE4 rfl) rfl fun a5 hE5 => wpList_nil ?_
  clear hE2 hE3 hE4
  clear a2 a3 a4
  refine then_normal ?_
  have hS6 := hS0.flat (α := List Int) (cs := [.slice none 0 0]) (x := []) (fun _ => ⟨_, rfl, .inl ⟨rfl, rfl, rfl⟩⟩)
  refine wp_block (wp_loop_ghost (fun fu1 a w2 => ∃ (i1 : Nat) (y1_5 : List Int) (Ay1_5 : Option Addr) (cpy1_5 : Nat) (Fy1_5 : List Nat), 0 ≤ i1 ∧ fu1 = p0.length - i1 ∧ y1_5.length ≤ i1 ∧ impl_Spans p0 p1 = impl_Spans_l1 p0 p1 fu1 i1 y1_5 ∧ Env 31 [(1, .int .i64 p1), (5, .slice Ay1_5 y1_5.length cpy1_5), (8, .slice A0 p0.length cap0), (9, .int .i64 (p0.length : Int)), (10, .int .i64 (i1 : Int))] a ∧ SH (Old w) w w2 [Ck.own (α := List Int) [.slice Ay1_5 y1_5.length cpy1_5] y1_5 Fy1_5]) (p0.length - 0) ⟨0, ([] : List Int), none, 0, [], Nat.le_refl _, rfl, (by first | omega | (simp only [List.length_nil, List.length_append, List.length_cons]; omega)), hM, hE5.weaken ⟨rfl, rfl, rfl, rfl, rfl, trivial⟩, hS6⟩ ?_)
  clear hM hE5 hS6
  rintro fu1 a7 w7 ⟨i1, y1_5, Ay1_5, cpy1_5, Fy1_5, hi1, hfu1, hry1_5, hM, hE7, hS7⟩
  refine wp_seq (wp_region_lit ?_)
  refine st_val hE7 (y_lss hE7 rfl rfl) rfl fun a8 hE8 => wpList_nil ?_
  clear hE7
  clear a7
  refine then_normal ?_
  refine wp_seq (cond_split hE8 rfl (fun hb9 => ?_) (fun hb9 => ?_))
  ·
    have hlt1 : i1 < p0.length := by have := of_decide_eq_true hb9; omega
    obtain ⟨fu1, rfl⟩ : ∃ m, fu1 = m + 1 := ⟨fu1 - 1, by omega⟩
    have hM := hM.trans (impl_Spans_l1.eq_2 _ _ _ _ _)
    refine wp_skip ?_
    refine then_normal ?_
    refine wp_seq (wp_block (wp_seq (wp_region_lit ?_)))
    refine st_val hE8 (y_move hE8 rfl) rfl fun a10 hE10 => st_index hE10 hp0 rfl rfl rfl (by omega) sl27 rfl fun ad11 cs11 hr11 hc11 hl11 a12 hE12 => ?_
    obtain ⟨v11_3, v11_4, rfl, hg11_0, hg11_1, hg11_2, hv11_3, hv11_4, hg11_5, hg11_6, _⟩ := Entry_open hr11
    obtain ⟨A11_3, cp11_3, rfl, hx11_3⟩ := hv11_3.form
    obtain ⟨A11_4, cp11_4, rfl, hx11_4⟩ := hv11_4.form
    refine st_val hE12 (y_load_agg hE12 rfl (hS7.upc hc11 hl11) rfl rfl agg74) rfl fun a13 hE13 => st_alloc hE13 hS7 Try.zeroValue74 rfl rfl fun b14 w14 hS14 a15 hE15 => st_val hE15 (y_assign hE15 rfl) rfl fun a16 hE16 => st_store hE16 hS14 [.int .i64 ((nth p0 i1).Seq), .int .i64 ((nth p0 i1).Kind), .int .i64 ((nth p0 i1).Tx), .slice A11_3 ((nth p0 i1).Steps.length) cp11_3, .slice A11_4 ((nth p0 i1).Answers.length) cp11_4, .int .i64 ((nth p0 i1).Began), .int .i64 ((nth p0 i1).Ended), .bool ((nth p0 i1).Laid)] rfl rfl (k := 0) rfl rfl (chkAgg_size agg74) rfl rfl rfl rfl fun w17 (hS17 : SH (Old w) w w17 [Ck.var b14 [.int .i64 ((nth p0 i1).Seq), .int .i64 ((nth p0 i1).Kind), .int .i64 ((nth p0 i1).Tx), .slice A11_3 ((nth p0 i1).Steps.length) cp11_3, .slice A11_4 ((nth p0 i1).Answers.length) cp11_4, .int .i64 ((nth p0 i1).Began), .int .i64 ((nth p0 i1).Ended), .bool ((nth p0 i1).Laid)] 74, Ck.own (α := List Int) [.slice Ay1_5 y1_5.length cpy1_5] y1_5 Fy1_5]) a18 hE18 => wpList_nil ?_
    clear hE8 hE10 hE12 hE13 hE15 hE16
    clear a8 a10 a12 a13 a15 a16
    refine then_normal ?_
    refine wp_seq (wp_region_lit ?_)
    refine st_val hE18 (y_fieldAddr hE18 rfl fa74_5 rfl) rfl fun a19 hE19 => st_val hE19 (y_load_one hE19 rfl (hS17.cells (k := 0) rfl) rfl one3) rfl fun a20 hE20 => st_val hE20 (y_move hE20 rfl) rfl fun a21 hE21 => st_val hE21 (y_leq hE21 rfl rfl) rfl fun a22 hE22 => st_val hE22 (y_move hE22 rfl) rfl fun a23 hE23 => ?_
    refine st_mid 5 (fun a w2 => ∃ r : Bool, r = ((decide ((nth p0 i1).Began ≤ p1)) && (decide ((nth p0 i1).Ended > p1))) ∧ SH (Old w) w w2 [Ck.var b14 [.int .i64 ((nth p0 i1).Seq), .int .i64 ((nth p0 i1).Kind), .int .i64 ((nth p0 i1).Tx), .slice A11_3 ((nth p0 i1).Steps.length) cp11_3, .slice A11_4 ((nth p0 i1).Answers.length) cp11_4, .int .i64 ((nth p0 i1).Began), .int .i64 ((nth p0 i1).Ended), .bool ((nth p0 i1).Laid)] 74, Ck.own (α := List Int) [.slice Ay1_5 y1_5.length cpy1_5] y1_5 Fy1_5] ∧ Env 31 ((24, .bool r) :: [(1, .int .i64 p1), (5, .slice Ay1_5 y1_5.length cpy1_5), (6, .int .i64 (i1 : Int)), (7, .pointer (some ((⟨b14, 0, none⟩ : Addr).add 0))), (8, .slice A0 p0.length cap0), (9, .int .i64 (p0.length : Int)), (10, .int .i64 (i1 : Int)), (11, .bool (decide ((i1 : Int) < (p0.length : Int)))), (12, .int .i64 (i1 : Int)), (13, .pointer (some (ad11.add 0))), (14, .agg [.int .i64 ((nth p0 i1).Seq), .int .i64 ((nth p0 i1).Kind), .int .i64 ((nth p0 i1).Tx), .slice A11_3 ((nth p0 i1).Steps.length) cp11_3, .slice A11_4 ((nth p0 i1).Answers.length) cp11_4, .int .i64 ((nth p0 i1).Began), .int .i64 ((nth p0 i1).Ended), .bool ((nth p0 i1).Laid)].toArray), (15, .pointer (some ((⟨b14, 0, none⟩ : Addr).add 5))), (16, .int .i64 ((nth p0 i1).Began)), (17, .int .i64 p1), (18, .bool (decide ((nth p0 i1).Began ≤ p1))), (19, .bool (decide ((nth p0 i1).Began ≤ p1)))]) a) ?_ ?_
    ·
      rcases Bool.eq_false_or_eq_true (decide ((nth p0 i1).Began ≤ p1)) with hb25 | hb25
      ·
        have hb25f : (nth p0 i1).Began ≤ p1 := of_decide_eq_true hb25
        refine st_run hE23 rfl rfl rfl hb25 <| st_val hE23 (y_fieldAddr hE23 rfl fa74_6 rfl) rfl fun a26 hE26 => st_run hE26 rfl rfl rfl hb25 <| st_val hE26 (y_load_one hE26 rfl (hS17.cells (k := 0) rfl) rfl one3) rfl fun a27 hE27 => st_run hE27 rfl rfl rfl hb25 <| st_val hE27 (y_move hE27 rfl) rfl fun a28 hE28 => st_run hE28 rfl rfl rfl hb25 <| st_val hE28 (y_gtr hE28 rfl rfl) rfl fun a29 hE29 => st_val hE29 (y_pick_t hE29 rfl hb25 rfl) rfl fun a30 hE30 => wpList_nil ?_
        exact ⟨decide ((nth p0 i1).Ended > p1), by simp only [hb25, Bool.true_and, Bool.false_and, Bool.true_or, Bool.false_or, Bool.and_true, Bool.or_true, Bool.and_false, Bool.or_false], hS17, hE30.weaken ⟨rfl, rfl, rfl, rfl, rfl, rfl, rfl, rfl, rfl, rfl, rfl, rfl, rfl, rfl, rfl, rfl, rfl, trivial⟩⟩
      ·
        have hb25f : ¬ ((nth p0 i1).Began ≤ p1) := of_decide_eq_false hb25
        refine st_skip hE23 rfl rfl rfl hb25 rfl fun a31 hE31 => st_skip hE31 rfl rfl rfl hb25 rfl fun a32 hE32 => st_skip hE32 rfl rfl rfl hb25 rfl fun a33 hE33 => st_skip hE33 rfl rfl rfl hb25 rfl fun a34 hE34 => st_val hE34 (y_pick_f hE34 rfl hb25 rfl) rfl fun a35 hE35 => wpList_nil ?_
        exact ⟨false, by simp only [hb25, Bool.true_and, Bool.false_and, Bool.true_or, Bool.false_or, Bool.and_true, Bool.or_true, Bool.and_false, Bool.or_false], hS17, hE35.weaken ⟨rfl, rfl, rfl, rfl, rfl, rfl, rfl, rfl, rfl, rfl, rfl, rfl, rfl, rfl, rfl, rfl, rfl, trivial⟩⟩
    rintro a36 w36 ⟨r36, hr36, hS36, hE36⟩
    subst hr36
    clear hE23 hE18 hE19 hE20 hE21 hE22
    refine wpList_nil ?_
    refine then_normal ?_
    refine cond_split hE36 rfl (fun hb37 => ?_) (fun hb37 => ?_)
    ·
      have hM := hM.trans (if_t hb37)
      refine wp_region_lit ?_
      refine st_val hE36 (y_move hE36 rfl) rfl fun a38 hE38 => st_val hE38 (y_move hE38 rfl) rfl fun a39 hE39 => st_lit (is := [0]) (vs := [.int .i64 (i1 : Int)]) (cs := [.int .i64 (i1 : Int)]) (e := 3) hE39 hS36 rfl rfl (by kernel_rfl) rfl fun b40 w40 hS40 a41 hE41 => ?_
      have hap42 : y1_5.length + 1 ≤ 1099511627776 := (by first | omega | (simp only [List.length_append, List.length_cons, List.length_nil]; omega))
      refine st_append (α := Int) (ys := [(i1 : Int)]) (k := 2) hE41 hS40 sl32 Try.zeroValue3 rfl rfl rfl rfl (hS40.src (k := 0) rfl 1 1) rfl (oneCell_of_cells.2 rfl) (fun i u h => match i, u, h with | 0, _, h => (by cases h; exact ⟨⟨rfl, (by unfold I64; omega)⟩, rfl⟩) | j + 1, _, h => (by simp at h)) (by simp only [List.length_cons, List.length_nil]; omega) (by simp only [List.length_cons, List.length_nil]; omega) rfl fun A42 cp42 F42 w42 (hS42 : SH (Old w) w w42 [Ck.var b40 [.int .i64 (i1 : Int)] 3, Ck.var b14 [.int .i64 ((nth p0 i1).Seq), .int .i64 ((nth p0 i1).Kind), .int .i64 ((nth p0 i1).Tx), .slice A11_3 ((nth p0 i1).Steps.length) cp11_3, .slice A11_4 ((nth p0 i1).Answers.length) cp11_4, .int .i64 ((nth p0 i1).Began), .int .i64 ((nth p0 i1).Ended), .bool ((nth p0 i1).Laid)] 74, Ck.own (α := List Int) [.slice A42 ((y1_5 ++ [(i1 : Int)]).length) cp42] (y1_5 ++ [(i1 : Int)]) F42]) a43 hE43 => st_val hE43 (y_assign hE43 rfl) rfl fun a44 hE44 => wpList_nil ?_
      clear hE36 hE38 hE39 hE41 hE43
      clear a36 a38 a39 a41 a43
      refine blk_normal ?_
      refine then_normal ?_
      refine wp_region_lit ?_
      refine st_val hE44 (y_add_in hE44 rfl rfl (m := ((i1 + 1 : Nat) : Int)) (by omega) (by omega) (by omega)) rfl fun a45 hE45 => st_val hE45 (y_move hE45 rfl) rfl fun a46 hE46 => wpList_nil ?_
      clear hE44 hE45
      clear a44 a45
      refine then_normal ⟨fu1, Nat.lt_succ_self _, (i1 + 1), (y1_5 ++ [(i1 : Int)]), A42, cp42, F42, by omega, by omega, (by first | omega | (simp only [List.length_append, List.length_cons, List.length_nil]; omega)), hM, hE46.weaken ⟨rfl, rfl, rfl, rfl, rfl, trivial⟩, (hS42.drop (k := 2))⟩
    ·
      have hM := hM.trans (if_f hb37)
      refine wp_skip ?_
      refine blk_normal ?_
      refine then_normal ?_
      refine wp_region_lit ?_
      refine st_val hE36 (y_add_in hE36 rfl rfl (m := ((i1 + 1 : Nat) : Int)) (by omega) (by omega) (by omega)) rfl fun a47 hE47 => st_val hE47 (y_move hE47 rfl) rfl fun a48 hE48 => wpList_nil ?_
      clear hE36 hE47
      clear a36 a47
      refine then_normal ⟨fu1, Nat.lt_succ_self _, (i1 + 1), y1_5, Ay1_5, cpy1_5, Fy1_5, by omega, by omega, (by first | omega | (simp only [List.length_append, List.length_cons, List.length_nil]; omega)), hM, hE48.weaken ⟨rfl, rfl, rfl, rfl, rfl, trivial⟩, (hS36.drop (k := 1))⟩
  ·
    have hge1 : ¬ i1 < p0.length := by have := of_decide_eq_false hb9; omega
    obtain rfl : fu1 = 0 := by omega
    have hM := hM.trans (impl_Spans_l1.eq_1 _ _ _ _)
    refine wp_exit ?_
    refine then_exit ?_
    refine then_exit ?_
    refine blk_exit ?_
    refine then_normal ?_
    refine wp_seq (wp_region_lit ?_)
    refine st_val hE8 (y_move hE8 rfl) rfl fun a49 hE49 => st_val hE49 (y_assign hE49 rfl) rfl fun a50 hE50 => wpList_nil ?_
    clear hE8 hE49
    clear a8 a49
    refine then_normal ?_
    refine wp_ret ?_
    refine fin1 hE50 rfl rfl ?_
    rw [hM]
    exact ⟨_, _, rfl, hS7.below, hS7.slO (k := 0) rfl, hS7.nd (k := 0) rfl, hS7.ge' (k := 0) rfl⟩

/- F18 loop.example/g00974/spec.Spans -/
def spec_Spans_l1 (p0 : List Entry) (p1 : Int) : Nat → Nat → List Int → List Int
  | 0, i1, y1_5 => y1_5
  | fu1 + 1, i1, y1_5 => (if ((decide ((nth p0 i1).Began ≤ p1)) && (decide ((nth p0 i1).Ended > p1))) = true then spec_Spans_l1 p0 p1 fu1 (i1 + 1) (y1_5 ++ [(i1 : Int)]) else spec_Spans_l1 p0 p1 fu1 (i1 + 1) y1_5)
def spec_Spans (p0 : List Entry) (p1 : Int) : List Int := spec_Spans_l1 p0 p1 (p0.length - 0) 0 ([] : List Int)
theorem c_spec_Spans {v0 : Value} (p0 : List Entry) (p1 : Int) {w : World} (hp0 : SlR (Old w) w v0 p0) (hsm0 : Dat.small 1048576 p0) :
    Calls Try.prog 18 [v0, .int .i64 p1].toArray w (fun e w' => ∃ v F, e = .returned v ∧ Below w.heap.size w w' ∧ SlO w' v (spec_Spans p0 p1) F ∧ F.Nodup ∧ ∀ b ∈ F, w.heap.size ≤ b) := by
  have hln0 : p0.length ≤ 1048576 := hsm0.1
  obtain ⟨A0, cap0, rfl, hx0⟩ := hp0.form
  refine enter Try.func18 rfl Try.ntmps18 (Nat.le_of_ble_eq_true rfl) ?_
  intro a0 hE0
  have hS0 := SH.start w
  have hM := spec_Spans.eq_1 p0 p1
  refine wp_seq (wp_region_lit ?_)
  refine st_val hE0 (y_assign hE0 rfl) rfl fun a1 hE1 => wpList_nil ?_
  clear hE0
  clear a0
  refine then_normal ?_
  refine wp_seq (wp_region_lit ?_)
  refine st_buildSlice (α := Int) (is := []) (vs := []) (cs := []) (ys := []) (e := 3) hE1 hS0 rfl rfl (by kernel_rfl) rfl rfl (by decide) (fun _ i y h => by simp at h) rfl fun b2 w2 hS2 a3 hE3 => st_val hE3 (y_assign hE3 rfl) rfl fun a4 hE4 => wpList_nil ?_
  clear hE1 hE3
  clear a1 a3
  refine then_normal ?_
  refine wp_seq (wp_seq (wp_region_lit ?_))
  refine st_val hE4 (y_assign hE4 rfl) rfl fun a5 hE5 => wpList_nil ?_
  clear hE4
  clear a4
  refine then_normal ?_
  refine wp_block (wp_loop_ghost (fun fu1 a w2 => ∃ (i1 : Nat) (y1_5 : List Int) (Ay1_5 : Option Addr) (cpy1_5 : Nat) (Fy1_5 : List Nat), 0 ≤ i1 ∧ fu1 = p0.length - i1 ∧ y1_5.length ≤ i1 ∧ spec_Spans p0 p1 = spec_Spans_l1 p0 p1 fu1 i1 y1_5 ∧ Env 35 [(0, .slice A0 p0.length cap0), (1, .int .i64 p1), (5, .slice Ay1_5 y1_5.length cpy1_5), (6, .int .i64 (i1 : Int))] a ∧ SH (Old w) w w2 [Ck.own (α := List Int) [.slice Ay1_5 y1_5.length cpy1_5] y1_5 Fy1_5]) (p0.length - 0) ⟨0, ([] : List Int), (some ⟨b2, 0, none⟩), 0, [b2], Nat.le_refl _, rfl, (by first | omega | (simp only [List.length_nil, List.length_append, List.length_cons]; omega)), hM, hE5.weaken ⟨rfl, rfl, rfl, rfl, trivial⟩, hS2⟩ ?_)
  clear hM hE5 hS2
  rintro fu1 a6 w6 ⟨i1, y1_5, Ay1_5, cpy1_5, Fy1_5, hi1, hfu1, hry1_5, hM, hE6, hS6⟩
  refine wp_seq (wp_seq (wp_region_lit ?_))
  refine st_val hE6 (y_move hE6 rfl) rfl fun a7 hE7 => st_val hE7 (y_move hE7 rfl) rfl fun a8 hE8 => st_val hE8 (y_len_slice hE8 rfl sl27) rfl fun a9 hE9 => st_val hE9 (y_lss hE9 rfl rfl) rfl fun a10 hE10 => wpList_nil ?_
  clear hE6 hE7 hE8 hE9
  clear a6 a7 a8 a9
  refine then_normal ?_
  refine cond_split hE10 rfl (fun hb11 => ?_) (fun hb11 => ?_)
  ·
    have hlt1 : i1 < p0.length := by have := of_decide_eq_true hb11; omega
    obtain ⟨fu1, rfl⟩ : ∃ m, fu1 = m + 1 := ⟨fu1 - 1, by omega⟩
    have hM := hM.trans (spec_Spans_l1.eq_2 _ _ _ _ _)
    refine wp_skip ?_
    refine then_normal ?_
    refine wp_seq (wp_block (wp_seq (wp_region_lit ?_)))
    refine st_val hE10 (y_move hE10 rfl) rfl fun a12 hE12 => st_val hE12 (y_move hE12 rfl) rfl fun a13 hE13 => st_index hE13 hp0 rfl rfl rfl (by omega) sl27 rfl fun ad14 cs14 hr14 hc14 hl14 a15 hE15 => ?_
    obtain ⟨v14_3, v14_4, rfl, hg14_0, hg14_1, hg14_2, hv14_3, hv14_4, hg14_5, hg14_6, _⟩ := Entry_open hr14
    obtain ⟨A14_3, cp14_3, rfl, hx14_3⟩ := hv14_3.form
    obtain ⟨A14_4, cp14_4, rfl, hx14_4⟩ := hv14_4.form
    refine st_val hE15 (y_fieldAddr hE15 rfl fa74_5 rfl) rfl fun a16 hE16 => st_val hE16 (y_load_one hE16 rfl (hS6.upc hc14 hl14) rfl one3) rfl fun a17 hE17 => st_val hE17 (y_move hE17 rfl) rfl fun a18 hE18 => st_val hE18 (y_leq hE18 rfl rfl) rfl fun a19 hE19 => st_val hE19 (y_move hE19 rfl) rfl fun a20 hE20 => ?_
    refine st_mid 8 (fun a w2 => ∃ r : Bool, r = ((decide ((nth p0 i1).Began ≤ p1)) && (decide ((nth p0 i1).Ended > p1))) ∧ SH (Old w) w w2 [Ck.own (α := List Int) [.slice Ay1_5 y1_5.length cpy1_5] y1_5 Fy1_5] ∧ Env 35 ((29, .bool r) :: [(0, .slice A0 p0.length cap0), (1, .int .i64 p1), (5, .slice Ay1_5 y1_5.length cpy1_5), (6, .int .i64 (i1 : Int)), (8, .int .i64 (i1 : Int)), (9, .slice A0 p0.length cap0), (10, .int .i64 (p0.length : Int)), (11, .bool (decide ((i1 : Int) < (p0.length : Int)))), (14, .slice A0 p0.length cap0), (15, .int .i64 (i1 : Int)), (16, .pointer (some (ad14.add 0))), (17, .pointer (some (ad14.add 5))), (18, .int .i64 ((nth p0 i1).Began)), (19, .int .i64 p1), (20, .bool (decide ((nth p0 i1).Began ≤ p1))), (21, .bool (decide ((nth p0 i1).Began ≤ p1)))]) a) ?_ ?_
    ·
      rcases Bool.eq_false_or_eq_true (decide ((nth p0 i1).Began ≤ p1)) with hb22 | hb22
      ·
        have hb22f : (nth p0 i1).Began ≤ p1 := of_decide_eq_true hb22
        refine st_run hE20 rfl rfl rfl hb22 <| st_val hE20 (y_move hE20 rfl) rfl fun a23 hE23 => st_run hE23 rfl rfl rfl hb22 <| st_val hE23 (y_move hE23 rfl) rfl fun a24 hE24 => st_run hE24 rfl rfl rfl hb22 <| st_index hE24 hp0 rfl rfl rfl (by omega) sl27 rfl fun ad25 cs25 hr25 hc25 hl25 a26 hE26 => ?_
        obtain ⟨v25_3, v25_4, rfl, hg25_0, hg25_1, hg25_2, hv25_3, hv25_4, hg25_5, hg25_6, _⟩ := Entry_open hr25
        obtain ⟨A25_3, cp25_3, rfl, hx25_3⟩ := hv25_3.form
        obtain ⟨A25_4, cp25_4, rfl, hx25_4⟩ := hv25_4.form
        refine st_run hE26 rfl rfl rfl hb22 <| st_val hE26 (y_fieldAddr hE26 rfl fa74_6 rfl) rfl fun a27 hE27 => st_run hE27 rfl rfl rfl hb22 <| st_val hE27 (y_load_one hE27 rfl (hS6.upc hc25 hl25) rfl one3) rfl fun a28 hE28 => st_run hE28 rfl rfl rfl hb22 <| st_val hE28 (y_move hE28 rfl) rfl fun a29 hE29 => st_run hE29 rfl rfl rfl hb22 <| st_val hE29 (y_gtr hE29 rfl rfl) rfl fun a30 hE30 => st_val hE30 (y_pick_t hE30 rfl hb22 rfl) rfl fun a31 hE31 => wpList_nil ?_
        exact ⟨decide ((nth p0 i1).Ended > p1), by simp only [hb22, Bool.true_and, Bool.false_and, Bool.true_or, Bool.false_or, Bool.and_true, Bool.or_true, Bool.and_false, Bool.or_false], hS6, hE31.weaken ⟨rfl, rfl, rfl, rfl, rfl, rfl, rfl, rfl, rfl, rfl, rfl, rfl, rfl, rfl, rfl, rfl, rfl, trivial⟩⟩
      ·
        have hb22f : ¬ ((nth p0 i1).Began ≤ p1) := of_decide_eq_false hb22
        refine st_skip hE20 rfl rfl rfl hb22 rfl fun a32 hE32 => st_skip hE32 rfl rfl rfl hb22 rfl fun a33 hE33 => st_skip hE33 rfl rfl rfl hb22 rfl fun a34 hE34 => st_skip hE34 rfl rfl rfl hb22 rfl fun a35 hE35 => st_skip hE35 rfl rfl rfl hb22 rfl fun a36 hE36 => st_skip hE36 rfl rfl rfl hb22 rfl fun a37 hE37 => st_skip hE37 rfl rfl rfl hb22 rfl fun a38 hE38 => st_val hE38 (y_pick_f hE38 rfl hb22 rfl) rfl fun a39 hE39 => wpList_nil ?_
        exact ⟨false, by simp only [hb22, Bool.true_and, Bool.false_and, Bool.true_or, Bool.false_or, Bool.and_true, Bool.or_true, Bool.and_false, Bool.or_false], hS6, hE39.weaken ⟨rfl, rfl, rfl, rfl, rfl, rfl, rfl, rfl, rfl, rfl, rfl, rfl, rfl, rfl, rfl, rfl, rfl, trivial⟩⟩
    rintro a40 w40 ⟨r40, hr40, hS40, hE40⟩
    subst hr40
    clear hE20 hE10 hE12 hE13 hE15 hE16 hE17 hE18 hE19
    refine wpList_nil ?_
    refine then_normal ?_
    refine cond_split hE40 rfl (fun hb41 => ?_) (fun hb41 => ?_)
    ·
      have hM := hM.trans (if_t hb41)
      refine wp_region_lit ?_
      refine st_val hE40 (y_move hE40 rfl) rfl fun a42 hE42 => st_val hE42 (y_move hE42 rfl) rfl fun a43 hE43 => st_lit (is := [0]) (vs := [.int .i64 (i1 : Int)]) (cs := [.int .i64 (i1 : Int)]) (e := 3) hE43 hS40 rfl rfl (by kernel_rfl) rfl fun b44 w44 hS44 a45 hE45 => ?_
      have hap46 : y1_5.length + 1 ≤ 1099511627776 := (by first | omega | (simp only [List.length_append, List.length_cons, List.length_nil]; omega))
      refine st_append (α := Int) (ys := [(i1 : Int)]) (k := 1) hE45 hS44 sl32 Try.zeroValue3 rfl rfl rfl rfl (hS44.src (k := 0) rfl 1 1) rfl (oneCell_of_cells.2 rfl) (fun i u h => match i, u, h with | 0, _, h => (by cases h; exact ⟨⟨rfl, (by unfold I64; omega)⟩, rfl⟩) | j + 1, _, h => (by simp at h)) (by simp only [List.length_cons, List.length_nil]; omega) (by simp only [List.length_cons, List.length_nil]; omega) rfl fun A46 cp46 F46 w46 (hS46 : SH (Old w) w w46 [Ck.var b44 [.int .i64 (i1 : Int)] 3, Ck.own (α := List Int) [.slice A46 ((y1_5 ++ [(i1 : Int)]).length) cp46] (y1_5 ++ [(i1 : Int)]) F46]) a47 hE47 => st_val hE47 (y_assign hE47 rfl) rfl fun a48 hE48 => wpList_nil ?_
      clear hE40 hE42 hE43 hE45 hE47
      clear a40 a42 a43 a45 a47
      refine blk_normal ?_
      refine then_normal ?_
      refine wp_region_lit ?_
      refine st_val hE48 (y_move hE48 rfl) rfl fun a49 hE49 => st_val hE49 (y_add_in hE49 rfl rfl (m := ((i1 + 1 : Nat) : Int)) (by omega) (by omega) (by omega)) rfl fun a50 hE50 => st_val hE50 (y_assign hE50 rfl) rfl fun a51 hE51 => wpList_nil ?_
      clear hE48 hE49 hE50
      clear a48 a49 a50
      refine then_normal ⟨fu1, Nat.lt_succ_self _, (i1 + 1), (y1_5 ++ [(i1 : Int)]), A46, cp46, F46, by omega, by omega, (by first | omega | (simp only [List.length_append, List.length_cons, List.length_nil]; omega)), hM, hE51.weaken ⟨rfl, rfl, rfl, rfl, trivial⟩, (hS46.drop (k := 1))⟩
    ·
      have hM := hM.trans (if_f hb41)
      refine wp_skip ?_
      refine blk_normal ?_
      refine then_normal ?_
      refine wp_region_lit ?_
      refine st_val hE40 (y_move hE40 rfl) rfl fun a52 hE52 => st_val hE52 (y_add_in hE52 rfl rfl (m := ((i1 + 1 : Nat) : Int)) (by omega) (by omega) (by omega)) rfl fun a53 hE53 => st_val hE53 (y_assign hE53 rfl) rfl fun a54 hE54 => wpList_nil ?_
      clear hE40 hE52 hE53
      clear a40 a52 a53
      refine then_normal ⟨fu1, Nat.lt_succ_self _, (i1 + 1), y1_5, Ay1_5, cpy1_5, Fy1_5, by omega, by omega, (by first | omega | (simp only [List.length_append, List.length_cons, List.length_nil]; omega)), hM, hE54.weaken ⟨rfl, rfl, rfl, rfl, trivial⟩, hS40⟩
  ·
    have hge1 : ¬ i1 < p0.length := by have := of_decide_eq_false hb11; omega
    obtain rfl : fu1 = 0 := by omega
    have hM := hM.trans (spec_Spans_l1.eq_1 _ _ _ _)
    refine wp_exit ?_
    refine then_exit ?_
    refine then_exit ?_
    refine blk_exit ?_
    refine then_normal ?_
    refine wp_seq (wp_region_lit ?_)
    refine st_val hE10 (y_move hE10 rfl) rfl fun a55 hE55 => st_val hE55 (y_assign hE55 rfl) rfl fun a56 hE56 => wpList_nil ?_
    clear hE10 hE55
    clear a10 a55
    refine then_normal ?_
    refine wp_ret ?_
    refine fin1 hE56 rfl rfl ?_
    rw [hM]
    exact ⟨_, _, rfl, hS6.below, hS6.slO (k := 0) rfl, hS6.nd (k := 0) rfl, hS6.ge' (k := 0) rfl⟩

end Go.Proofs.Ytpfnofdaaekglaa.Fw
