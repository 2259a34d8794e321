/- Contracts: each call returns what the model says. By program (wip/gen). -/
import Derived.Test.YtpfnofdaaekglaaC1
namespace Go.Proofs.Ytpfnofdaaekglaa.Fw
open Go.RowKit
set_option linter.unusedVariables false
set_option linter.unusedSimpArgs false

theorem sl38 : chkSlice Try.prog 38 9 1 16 = true := by kernel_rfl

/- F25 loop.example/g00974/impl.OutsOf -/
def impl_OutsOf_l2 (p0 : List Entry) (i1 : Nat) (y1_3 : List ByteArray) (k2 : Nat → List ByteArray → List ByteArray) : Nat → Nat → List ByteArray → List ByteArray
  | 0, i2, y2_3 => k2 i2 y2_3
  | fu2 + 1, i2, y2_3 => (if (((decide ((nth ((nth p0 i1).Steps) i2).Call.Kind = 22)) && (decide ((i2 : Int) < ((nth p0 i1).Answers.length : Int)))) && (decide ((nth ((nth p0 i1).Answers) i2).Code = 0))) = true then impl_OutsOf_l2 p0 i1 y1_3 k2 fu2 (i2 + 1) (y2_3 ++ [(nth ((nth p0 i1).Steps) i2).Call.Text]) else impl_OutsOf_l2 p0 i1 y1_3 k2 fu2 (i2 + 1) y2_3)
def impl_OutsOf_l1 (p0 : List Entry) : Nat → Nat → List ByteArray → List ByteArray
  | 0, i1, y1_3 => y1_3
  | fu1 + 1, i1, y1_3 => impl_OutsOf_l2 p0 i1 y1_3 (fun i2 y2_3 => impl_OutsOf_l1 p0 fu1 (i1 + 1) y2_3) ((nth p0 i1).Steps.length - 0) 0 y1_3
def impl_OutsOf (p0 : List Entry) : List ByteArray := impl_OutsOf_l1 p0 (p0.length - 0) 0 ([] : List ByteArray)
theorem c_impl_OutsOf {v0 : Value} (p0 : List Entry) {w : World} (hp0 : SlR (Old w) w v0 p0) (hsm0 : Dat.small 1048576 p0) :
    Calls Try.prog 25 [v0].toArray w (fun e w' => ∃ v F, e = .returned v ∧ Below w.heap.size w w' ∧ SlO w' v (impl_OutsOf p0) F ∧ F.Nodup ∧ ∀ b ∈ F, w.heap.size ≤ b) := by
  have hln0 : p0.length ≤ 1048576 := hsm0.1
  obtain ⟨A0, cap0, rfl, hx0⟩ := hp0.form
  refine enter Try.func25 rfl Try.ntmps25 (Nat.le_of_ble_eq_true rfl) ?_
  intro a0 hE0
  have hS0 := SH.start w
  have hM := impl_OutsOf.eq_1 p0
  refine wp_seq (wp_region_lit ?_)
  refine st_val hE0 (y_assign hE0 rfl) rfl fun a1 hE1 => wpList_nil ?_
  clear hE0
  clear a0
  refine then_normal ?_
  refine wp_seq (wp_region_lit ?_)
  refine st_val hE1 (y_assign hE1 rfl) rfl fun a2 hE2 => wpList_nil ?_
  clear hE1
  clear a1
  refine then_normal ?_
  refine wp_seq (wp_seq (wp_region_lit ?_))
  refine st_val hE2 (y_move hE2 rfl) rfl fun a3 hE3 => st_val hE3 (y_len_slice hE3 rfl sl27) rfl fun a4 hE4 => st_val hE4 (y_move hE4 rfl) rfl fun a5 hE5 => wpList_nil ?_
  clear hE2 hE3 hE4
  clear a2 a3 a4
  refine then_normal ?_
  have hS6 := hS0.flat (α := List ByteArray) (cs := [.slice none 0 0]) (x := []) (fun _ => ⟨_, rfl, .inl ⟨rfl, rfl, rfl⟩⟩)
  refine wp_block (wp_loop_ghost (fun fu1 a w2 => ∃ (i1 : Nat) (y1_3 : List ByteArray) (Ay1_3 : Option Addr) (cpy1_3 : Nat) (Fy1_3 : List Nat), 0 ≤ i1 ∧ fu1 = p0.length - i1 ∧ (i1 ≤ p0.length ∨ i1 = 0) ∧ y1_3.length ≤ 1048576 * i1 ∧ impl_OutsOf p0 = impl_OutsOf_l1 p0 fu1 i1 y1_3 ∧ Env 51 [(3, .slice Ay1_3 y1_3.length cpy1_3), (8, .slice A0 p0.length cap0), (9, .int .i64 (p0.length : Int)), (10, .int .i64 (i1 : Int))] a ∧ SH (Old w) w w2 [Ck.own (α := List ByteArray) [.slice Ay1_3 y1_3.length cpy1_3] y1_3 Fy1_3]) (p0.length - 0) ⟨0, ([] : List ByteArray), none, 0, [], Nat.le_refl _, rfl, .inr rfl, (by first | omega | (simp only [List.length_nil, List.length_append, List.length_cons]; omega)), hM, hE5.weaken ⟨rfl, rfl, rfl, rfl, trivial⟩, hS6⟩ ?_)
  clear hM hE5 hS6
  rintro fu1 a7 w7 ⟨i1, y1_3, Ay1_3, cpy1_3, Fy1_3, hi1, hfu1, hup1, hry1_3, hM, hE7, hS7⟩
  refine wp_seq (wp_region_lit ?_)
  refine st_val hE7 (y_lss hE7 rfl rfl) rfl fun a8 hE8 => wpList_nil ?_
  clear hE7
  clear a7
  refine then_normal ?_
  refine wp_seq (cond_split hE8 rfl (fun hb9 => ?_) (fun hb9 => ?_))
  ·
    have hlt1 : i1 < p0.length := by have := of_decide_eq_true hb9; omega
    obtain ⟨fu1, rfl⟩ : ∃ m, fu1 = m + 1 := ⟨fu1 - 1, by omega⟩
    have hM := hM.trans (impl_OutsOf_l1.eq_2 _ _ _ _)
    refine wp_skip ?_
    refine then_normal ?_
    refine wp_seq (wp_block (wp_seq (wp_region_lit ?_)))
    refine st_index hE8 hp0 rfl rfl rfl (by omega) sl27 rfl fun ad10 cs10 hr10 hc10 hl10 a11 hE11 => ?_
    obtain ⟨v10_3, v10_4, rfl, hg10_0, hg10_1, hg10_2, hv10_3, hv10_4, hg10_5, hg10_6, _⟩ := Entry_open hr10
    obtain ⟨A10_3, cp10_3, rfl, hx10_3⟩ := hv10_3.form
    obtain ⟨A10_4, cp10_4, rfl, hx10_4⟩ := hv10_4.form
    refine st_val hE11 (y_load_agg hE11 rfl (hS7.upc hc10 hl10) rfl rfl agg74) rfl fun a12 hE12 => st_alloc hE12 hS7 Try.zeroValue74 rfl rfl fun b13 w13 hS13 a14 hE14 => st_store hE14 hS13 [.int .i64 ((nth p0 i1).Seq), .int .i64 ((nth p0 i1).Kind), .int .i64 ((nth p0 i1).Tx), .slice A10_3 ((nth p0 i1).Steps.length) cp10_3, .slice A10_4 ((nth p0 i1).Answers.length) cp10_4, .int .i64 ((nth p0 i1).Began), .int .i64 ((nth p0 i1).Ended), .bool ((nth p0 i1).Laid)] rfl rfl (k := 0) rfl rfl (chkAgg_size agg74) rfl rfl rfl rfl fun w15 (hS15 : SH (Old w) w w15 [Ck.var b13 [.int .i64 ((nth p0 i1).Seq), .int .i64 ((nth p0 i1).Kind), .int .i64 ((nth p0 i1).Tx), .slice A10_3 ((nth p0 i1).Steps.length) cp10_3, .slice A10_4 ((nth p0 i1).Answers.length) cp10_4, .int .i64 ((nth p0 i1).Began), .int .i64 ((nth p0 i1).Ended), .bool ((nth p0 i1).Laid)] 74, Ck.own (α := List ByteArray) [.slice Ay1_3 y1_3.length cpy1_3] y1_3 Fy1_3]) a16 hE16 => wpList_nil ?_
    clear hE8 hE11 hE12 hE14
    clear a8 a11 a12 a14
    refine then_normal ?_
    refine wp_seq (wp_region_lit ?_)
    refine st_val hE16 (y_fieldAddr hE16 rfl fa74_3 rfl) rfl fun a17 hE17 => st_val hE17 (y_load_one hE17 rfl (hS15.cells (k := 0) rfl) rfl one71) rfl fun a18 hE18 => st_val hE18 (y_len_slice hE18 rfl sl71) rfl fun a19 hE19 => st_val hE19 (y_move hE19 rfl) rfl fun a20 hE20 => wpList_nil ?_
    clear hE16 hE17 hE18 hE19
    clear a16 a17 a18 a19
    refine then_normal ?_
    have hbs2 : (nth p0 i1).Steps.length ≤ 1048576 := ((small_nth hsm0 (by omega)).2.2.2.1).1
    refine wp_block (wp_loop_ghost (fun fu2 a w2 => ∃ (i2 : Nat) (y2_3 : List ByteArray) (Ay2_3 : Option Addr) (cpy2_3 : Nat) (Fy2_3 : List Nat), 0 ≤ i2 ∧ fu2 = (nth p0 i1).Steps.length - i2 ∧ (i2 ≤ (nth p0 i1).Steps.length ∨ i2 = 0) ∧ y2_3.length ≤ 1048576 * i1 + i2 ∧ impl_OutsOf p0 = impl_OutsOf_l2 p0 i1 y1_3 (fun i2 y2_3 => impl_OutsOf_l1 p0 fu1 (i1 + 1) y2_3) fu2 i2 y2_3 ∧ Env 51 [(3, .slice Ay2_3 y2_3.length cpy2_3), (5, .pointer (some ((⟨b13, 0, none⟩ : Addr).add 0))), (8, .slice A0 p0.length cap0), (9, .int .i64 (p0.length : Int)), (10, .int .i64 (i1 : Int)), (15, .slice A10_3 ((nth p0 i1).Steps.length) cp10_3), (16, .int .i64 ((nth p0 i1).Steps.length : Int)), (17, .int .i64 (i2 : Int))] a ∧ SH (Old w) w w2 [Ck.var b13 [.int .i64 ((nth p0 i1).Seq), .int .i64 ((nth p0 i1).Kind), .int .i64 ((nth p0 i1).Tx), .slice A10_3 ((nth p0 i1).Steps.length) cp10_3, .slice A10_4 ((nth p0 i1).Answers.length) cp10_4, .int .i64 ((nth p0 i1).Began), .int .i64 ((nth p0 i1).Ended), .bool ((nth p0 i1).Laid)] 74, Ck.own (α := List ByteArray) [.slice Ay2_3 y2_3.length cpy2_3] y2_3 Fy2_3]) ((nth p0 i1).Steps.length - 0) ⟨0, y1_3, Ay1_3, cpy1_3, Fy1_3, Nat.le_refl _, rfl, .inr rfl, (by first | omega | (simp only [List.length_nil, List.length_append, List.length_cons]; omega)), hM, hE20.weaken ⟨rfl, rfl, rfl, rfl, rfl, rfl, rfl, rfl, trivial⟩, hS15⟩ ?_)
    clear hM hE20 hS15
    rintro fu2 a21 w21 ⟨i2, y2_3, Ay2_3, cpy2_3, Fy2_3, hi2, hfu2, hup2, hry2_3, hM, hE21, hS21⟩
    refine wp_seq (wp_region_lit ?_)
    refine st_val hE21 (y_lss hE21 rfl rfl) rfl fun a22 hE22 => wpList_nil ?_
    clear hE21
    clear a21
    refine then_normal ?_
    refine wp_seq (cond_split hE22 rfl (fun hb23 => ?_) (fun hb23 => ?_))
    ·
      have hlt2 : i2 < (nth p0 i1).Steps.length := by have := of_decide_eq_true hb23; omega
      obtain ⟨fu2, rfl⟩ : ∃ m, fu2 = m + 1 := ⟨fu2 - 1, by omega⟩
      have hM := hM.trans (impl_OutsOf_l2.eq_2 _ _ _ _ _ _ _)
      refine wp_skip ?_
      refine then_normal ?_
      refine wp_seq (wp_block (wp_seq (wp_region_lit ?_)))
      refine st_val hE22 (y_move hE22 rfl) rfl fun a24 hE24 => st_index hE24 hv10_3 rfl rfl rfl (by omega) sl71 rfl fun ad25 cs25 hr25 hc25 hl25 a26 hE26 => ?_
      obtain ⟨rfl, hg25_0, hg25_1, hg25_2, hg25_3, hg25_4, hg25_5, hg25_6, _⟩ := Step_open hr25
      refine st_val hE26 (y_load_agg hE26 rfl (hS21.upc hc25 hl25) rfl rfl agg82) rfl fun a27 hE27 => st_alloc hE27 hS21 Try.zeroValue82 rfl rfl fun b28 w28 hS28 a29 hE29 => st_val hE29 (y_assign hE29 rfl) rfl fun a30 hE30 => st_store hE30 hS28 [.int .i64 ((nth ((nth p0 i1).Steps) i2).Proc), .int .i64 ((nth ((nth p0 i1).Steps) i2).Call.Kind), .string ((nth ((nth p0 i1).Steps) i2).Call.Name), .string ((nth ((nth p0 i1).Steps) i2).Call.To), .int .i64 ((nth ((nth p0 i1).Steps) i2).Call.A), .int .i64 ((nth ((nth p0 i1).Steps) i2).Call.B), .string ((nth ((nth p0 i1).Steps) i2).Call.Text)] rfl rfl (k := 0) rfl rfl (chkAgg_size agg82) rfl rfl rfl rfl fun w31 (hS31 : SH (Old w) w w31 [Ck.var b28 [.int .i64 ((nth ((nth p0 i1).Steps) i2).Proc), .int .i64 ((nth ((nth p0 i1).Steps) i2).Call.Kind), .string ((nth ((nth p0 i1).Steps) i2).Call.Name), .string ((nth ((nth p0 i1).Steps) i2).Call.To), .int .i64 ((nth ((nth p0 i1).Steps) i2).Call.A), .int .i64 ((nth ((nth p0 i1).Steps) i2).Call.B), .string ((nth ((nth p0 i1).Steps) i2).Call.Text)] 82, Ck.var b13 [.int .i64 ((nth p0 i1).Seq), .int .i64 ((nth p0 i1).Kind), .int .i64 ((nth p0 i1).Tx), .slice A10_3 ((nth p0 i1).Steps.length) cp10_3, .slice A10_4 ((nth p0 i1).Answers.length) cp10_4, .int .i64 ((nth p0 i1).Began), .int .i64 ((nth p0 i1).Ended), .bool ((nth p0 i1).Laid)] 74, Ck.own (α := List ByteArray) [.slice Ay2_3 y2_3.length cpy2_3] y2_3 Fy2_3]) a32 hE32 => wpList_nil ?_
      clear hE22 hE24 hE26 hE27 hE29 hE30
      clear a22 a24 a26 a27 a29 a30
      refine then_normal ?_
      refine wp_seq (wp_region_lit ?_)
      refine st_val hE32 (y_fieldAddr hE32 rfl fa82_1 rfl) rfl fun a33 hE33 => st_val hE33 (y_fieldAddr hE33 rfl fa80_0 rfl) rfl fun a34 hE34 => st_val hE34 (y_load_one hE34 rfl (hS31.cells (k := 0) rfl) rfl one3) rfl fun a35 hE35 => st_val hE35 (y_eql hE35 rfl rfl) rfl fun a36 hE36 => st_val hE36 (y_move hE36 rfl) rfl fun a37 hE37 => ?_
      refine st_mid 6 (fun a w2 => ∃ r : Bool, r = ((decide ((nth ((nth p0 i1).Steps) i2).Call.Kind = 22)) && (decide ((i2 : Int) < ((nth p0 i1).Answers.length : Int)))) ∧ SH (Old w) w w2 [Ck.var b28 [.int .i64 ((nth ((nth p0 i1).Steps) i2).Proc), .int .i64 ((nth ((nth p0 i1).Steps) i2).Call.Kind), .string ((nth ((nth p0 i1).Steps) i2).Call.Name), .string ((nth ((nth p0 i1).Steps) i2).Call.To), .int .i64 ((nth ((nth p0 i1).Steps) i2).Call.A), .int .i64 ((nth ((nth p0 i1).Steps) i2).Call.B), .string ((nth ((nth p0 i1).Steps) i2).Call.Text)] 82, Ck.var b13 [.int .i64 ((nth p0 i1).Seq), .int .i64 ((nth p0 i1).Kind), .int .i64 ((nth p0 i1).Tx), .slice A10_3 ((nth p0 i1).Steps.length) cp10_3, .slice A10_4 ((nth p0 i1).Answers.length) cp10_4, .int .i64 ((nth p0 i1).Began), .int .i64 ((nth p0 i1).Ended), .bool ((nth p0 i1).Laid)] 74, Ck.own (α := List ByteArray) [.slice Ay2_3 y2_3.length cpy2_3] y2_3 Fy2_3] ∧ Env 51 ((32, .bool r) :: [(3, .slice Ay2_3 y2_3.length cpy2_3), (5, .pointer (some ((⟨b13, 0, none⟩ : Addr).add 0))), (6, .int .i64 (i2 : Int)), (7, .pointer (some ((⟨b28, 0, none⟩ : Addr).add 0))), (8, .slice A0 p0.length cap0), (9, .int .i64 (p0.length : Int)), (10, .int .i64 (i1 : Int)), (15, .slice A10_3 ((nth p0 i1).Steps.length) cp10_3), (16, .int .i64 ((nth p0 i1).Steps.length : Int)), (17, .int .i64 (i2 : Int)), (18, .bool (decide ((i2 : Int) < ((nth p0 i1).Steps.length : Int)))), (19, .int .i64 (i2 : Int)), (20, .pointer (some (ad25.add 0))), (21, .agg [.int .i64 ((nth ((nth p0 i1).Steps) i2).Proc), .int .i64 ((nth ((nth p0 i1).Steps) i2).Call.Kind), .string ((nth ((nth p0 i1).Steps) i2).Call.Name), .string ((nth ((nth p0 i1).Steps) i2).Call.To), .int .i64 ((nth ((nth p0 i1).Steps) i2).Call.A), .int .i64 ((nth ((nth p0 i1).Steps) i2).Call.B), .string ((nth ((nth p0 i1).Steps) i2).Call.Text)].toArray), (22, .pointer (some ((⟨b28, 0, none⟩ : Addr).add 1))), (23, .pointer (some ((⟨b28, 0, none⟩ : Addr).add 1))), (24, .int .i64 ((nth ((nth p0 i1).Steps) i2).Call.Kind)), (25, .bool (decide ((nth ((nth p0 i1).Steps) i2).Call.Kind = 22))), (26, .bool (decide ((nth ((nth p0 i1).Steps) i2).Call.Kind = 22)))]) a) ?_ ?_
      ·
        rcases Bool.eq_false_or_eq_true (decide ((nth ((nth p0 i1).Steps) i2).Call.Kind = 22)) with hb39 | hb39
        ·
          have hb39f : (nth ((nth p0 i1).Steps) i2).Call.Kind = 22 := by simpa using hb39
          refine st_run hE37 rfl rfl rfl hb39 <| st_val hE37 (y_move hE37 rfl) rfl fun a40 hE40 => st_run hE40 rfl rfl rfl hb39 <| st_val hE40 (y_fieldAddr hE40 rfl fa74_4 rfl) rfl fun a41 hE41 => st_run hE41 rfl rfl rfl hb39 <| st_val hE41 (y_load_one hE41 rfl (hS31.cells (k := 1) rfl) rfl one72) rfl fun a42 hE42 => st_run hE42 rfl rfl rfl hb39 <| st_val hE42 (y_len_slice hE42 rfl sl72) rfl fun a43 hE43 => st_run hE43 rfl rfl rfl hb39 <| st_val hE43 (y_lss hE43 rfl rfl) rfl fun a44 hE44 => st_val hE44 (y_pick_t hE44 rfl hb39 rfl) rfl fun a45 hE45 => wpList_nil ?_
          exact ⟨decide ((i2 : Int) < ((nth p0 i1).Answers.length : Int)), by simp only [hb39, Bool.true_and, Bool.false_and, Bool.true_or, Bool.false_or, Bool.and_true, Bool.or_true, Bool.and_false, Bool.or_false], hS31, hE45.weaken ⟨rfl, rfl, rfl, rfl, rfl, rfl, rfl, rfl, rfl, rfl, rfl, rfl, rfl, rfl, rfl, rfl, rfl, rfl, rfl, rfl, trivial⟩⟩
        ·
          have hb39f : ¬ ((nth ((nth p0 i1).Steps) i2).Call.Kind = 22) := by simpa using hb39
          refine st_skip hE37 rfl rfl rfl hb39 rfl fun a46 hE46 => st_skip hE46 rfl rfl rfl hb39 rfl fun a47 hE47 => st_skip hE47 rfl rfl rfl hb39 rfl fun a48 hE48 => st_skip hE48 rfl rfl rfl hb39 rfl fun a49 hE49 => st_skip hE49 rfl rfl rfl hb39 rfl fun a50 hE50 => st_val hE50 (y_pick_f hE50 rfl hb39 rfl) rfl fun a51 hE51 => wpList_nil ?_
          exact ⟨false, by simp only [hb39, Bool.true_and, Bool.false_and, Bool.true_or, Bool.false_or, Bool.and_true, Bool.or_true, Bool.and_false, Bool.or_false], hS31, hE51.weaken ⟨rfl, rfl, rfl, rfl, rfl, rfl, rfl, rfl, rfl, rfl, rfl, rfl, rfl, rfl, rfl, rfl, rfl, rfl, rfl, rfl, trivial⟩⟩
      rintro a52 w52 ⟨r52, hr52, hS52, hE52⟩
      subst hr52
      clear hE37 hE32 hE33 hE34 hE35 hE36
      refine st_val hE52 (y_move hE52 rfl) rfl fun a53 hE53 => ?_
      refine st_mid 8 (fun a w2 => ∃ r : Bool, r = (((decide ((nth ((nth p0 i1).Steps) i2).Call.Kind = 22)) && (decide ((i2 : Int) < ((nth p0 i1).Answers.length : Int)))) && (decide ((nth ((nth p0 i1).Answers) i2).Code = 0))) ∧ SH (Old w) w w2 [Ck.var b28 [.int .i64 ((nth ((nth p0 i1).Steps) i2).Proc), .int .i64 ((nth ((nth p0 i1).Steps) i2).Call.Kind), .string ((nth ((nth p0 i1).Steps) i2).Call.Name), .string ((nth ((nth p0 i1).Steps) i2).Call.To), .int .i64 ((nth ((nth p0 i1).Steps) i2).Call.A), .int .i64 ((nth ((nth p0 i1).Steps) i2).Call.B), .string ((nth ((nth p0 i1).Steps) i2).Call.Text)] 82, Ck.var b13 [.int .i64 ((nth p0 i1).Seq), .int .i64 ((nth p0 i1).Kind), .int .i64 ((nth p0 i1).Tx), .slice A10_3 ((nth p0 i1).Steps.length) cp10_3, .slice A10_4 ((nth p0 i1).Answers.length) cp10_4, .int .i64 ((nth p0 i1).Began), .int .i64 ((nth p0 i1).Ended), .bool ((nth p0 i1).Laid)] 74, Ck.own (α := List ByteArray) [.slice Ay2_3 y2_3.length cpy2_3] y2_3 Fy2_3] ∧ Env 51 ((41, .bool r) :: [(3, .slice Ay2_3 y2_3.length cpy2_3), (5, .pointer (some ((⟨b13, 0, none⟩ : Addr).add 0))), (6, .int .i64 (i2 : Int)), (7, .pointer (some ((⟨b28, 0, none⟩ : Addr).add 0))), (8, .slice A0 p0.length cap0), (9, .int .i64 (p0.length : Int)), (10, .int .i64 (i1 : Int)), (15, .slice A10_3 ((nth p0 i1).Steps.length) cp10_3), (16, .int .i64 ((nth p0 i1).Steps.length : Int)), (17, .int .i64 (i2 : Int)), (18, .bool (decide ((i2 : Int) < ((nth p0 i1).Steps.length : Int)))), (19, .int .i64 (i2 : Int)), (20, .pointer (some (ad25.add 0))), (21, .agg [.int .i64 ((nth ((nth p0 i1).Steps) i2).Proc), .int .i64 ((nth ((nth p0 i1).Steps) i2).Call.Kind), .string ((nth ((nth p0 i1).Steps) i2).Call.Name), .string ((nth ((nth p0 i1).Steps) i2).Call.To), .int .i64 ((nth ((nth p0 i1).Steps) i2).Call.A), .int .i64 ((nth ((nth p0 i1).Steps) i2).Call.B), .string ((nth ((nth p0 i1).Steps) i2).Call.Text)].toArray), (22, .pointer (some ((⟨b28, 0, none⟩ : Addr).add 1))), (23, .pointer (some ((⟨b28, 0, none⟩ : Addr).add 1))), (24, .int .i64 ((nth ((nth p0 i1).Steps) i2).Call.Kind)), (25, .bool (decide ((nth ((nth p0 i1).Steps) i2).Call.Kind = 22))), (26, .bool (decide ((nth ((nth p0 i1).Steps) i2).Call.Kind = 22))), (32, .bool ((decide ((nth ((nth p0 i1).Steps) i2).Call.Kind = 22)) && (decide ((i2 : Int) < ((nth p0 i1).Answers.length : Int))))), (33, .bool ((decide ((nth ((nth p0 i1).Steps) i2).Call.Kind = 22)) && (decide ((i2 : Int) < ((nth p0 i1).Answers.length : Int)))))]) a) ?_ ?_
      ·
        rcases Bool.eq_false_or_eq_true ((decide ((nth ((nth p0 i1).Steps) i2).Call.Kind = 22)) && (decide ((i2 : Int) < ((nth p0 i1).Answers.length : Int)))) with hb55 | hb55
        ·
          obtain ⟨hb55a, hb55b⟩ := Bool.and_eq_true_iff.1 hb55
          have hb55af : (nth ((nth p0 i1).Steps) i2).Call.Kind = 22 := by simpa using hb55a
          have hb55bf : (i2 : Int) < ((nth p0 i1).Answers.length : Int) := of_decide_eq_true hb55b
          refine st_run hE53 rfl rfl rfl hb55 <| st_val hE53 (y_fieldAddr hE53 rfl fa74_4 rfl) rfl fun a56 hE56 => st_run hE56 rfl rfl rfl hb55 <| st_val hE56 (y_load_one hE56 rfl (hS52.cells (k := 1) rfl) rfl one72) rfl fun a57 hE57 => st_run hE57 rfl rfl rfl hb55 <| st_val hE57 (y_move hE57 rfl) rfl fun a58 hE58 => st_run hE58 rfl rfl rfl hb55 <| st_index hE58 hv10_4 rfl rfl rfl (by omega) sl72 rfl fun ad59 cs59 hr59 hc59 hl59 a60 hE60 => ?_
          obtain ⟨rfl, hg59_0, hg59_1, hg59_2, _⟩ := Answer_open hr59
          refine st_run hE60 rfl rfl rfl hb55 <| st_val hE60 (y_fieldAddr hE60 rfl fa84_0 rfl) rfl fun a61 hE61 => st_run hE61 rfl rfl rfl hb55 <| st_val hE61 (y_load_one hE61 rfl (hS52.upc hc59 hl59) rfl one3) rfl fun a62 hE62 => st_run hE62 rfl rfl rfl hb55 <| st_val hE62 (y_eql hE62 rfl rfl) rfl fun a63 hE63 => st_val hE63 (y_pick_t hE63 rfl hb55 rfl) rfl fun a64 hE64 => wpList_nil ?_
          exact ⟨decide ((nth ((nth p0 i1).Answers) i2).Code = 0), by simp only [hb55, Bool.true_and, Bool.false_and, Bool.true_or, Bool.false_or, Bool.and_true, Bool.or_true, Bool.and_false, Bool.or_false], hS52, hE64.weaken ⟨rfl, rfl, rfl, rfl, rfl, rfl, rfl, rfl, rfl, rfl, rfl, rfl, rfl, rfl, rfl, rfl, rfl, rfl, rfl, rfl, rfl, rfl, trivial⟩⟩
        ·
          refine st_skip hE53 rfl rfl rfl hb55 rfl fun a65 hE65 => st_skip hE65 rfl rfl rfl hb55 rfl fun a66 hE66 => st_skip hE66 rfl rfl rfl hb55 rfl fun a67 hE67 => st_skip hE67 rfl rfl rfl hb55 rfl fun a68 hE68 => st_skip hE68 rfl rfl rfl hb55 rfl fun a69 hE69 => st_skip hE69 rfl rfl rfl hb55 rfl fun a70 hE70 => st_skip hE70 rfl rfl rfl hb55 rfl fun a71 hE71 => st_val hE71 (y_pick_f hE71 rfl hb55 rfl) rfl fun a72 hE72 => wpList_nil ?_
          exact ⟨false, by simp only [hb55, Bool.true_and, Bool.false_and, Bool.true_or, Bool.false_or, Bool.and_true, Bool.or_true, Bool.and_false, Bool.or_false], hS52, hE72.weaken ⟨rfl, rfl, rfl, rfl, rfl, rfl, rfl, rfl, rfl, rfl, rfl, rfl, rfl, rfl, rfl, rfl, rfl, rfl, rfl, rfl, rfl, rfl, trivial⟩⟩
      rintro a73 w73 ⟨r73, hr73, hS73, hE73⟩
      subst hr73
      clear hE53 hE52
      refine wpList_nil ?_
      refine then_normal ?_
      refine cond_split hE73 rfl (fun hb74 => ?_) (fun hb74 => ?_)
      ·
        have hM := hM.trans (if_t hb74)
        obtain ⟨hb74a, hb74b⟩ := Bool.and_eq_true_iff.1 hb74
        obtain ⟨hb74aa, hb74ab⟩ := Bool.and_eq_true_iff.1 hb74a
        have hb74aaf : (nth ((nth p0 i1).Steps) i2).Call.Kind = 22 := by simpa using hb74aa
        have hb74abf : (i2 : Int) < ((nth p0 i1).Answers.length : Int) := of_decide_eq_true hb74ab
        have hb74bf : (nth ((nth p0 i1).Answers) i2).Code = 0 := by simpa using hb74b
        refine wp_region_lit ?_
        refine st_val hE73 (y_move hE73 rfl) rfl fun a75 hE75 => st_val hE75 (y_fieldAddr hE75 rfl fa82_1 rfl) rfl fun a76 hE76 => st_val hE76 (y_fieldAddr hE76 rfl fa80_5 rfl) rfl fun a77 hE77 => st_val hE77 (y_load_one hE77 rfl (hS73.cells (k := 0) rfl) rfl one9) rfl fun a78 hE78 => st_lit (is := [0]) (vs := [.string ((nth ((nth p0 i1).Steps) i2).Call.Text)]) (cs := [.string ((nth ((nth p0 i1).Steps) i2).Call.Text)]) (e := 9) hE78 hS73 rfl rfl (by kernel_rfl) rfl fun b79 w79 hS79 a80 hE80 => ?_
        have hap81 : y2_3.length + 1 ≤ 1099511627776 := (by first | omega | (simp only [List.length_append, List.length_cons, List.length_nil]; omega))
        refine st_append (α := ByteArray) (ys := [(nth ((nth p0 i1).Steps) i2).Call.Text]) (k := 3) hE80 hS79 sl38 Try.zeroValue9 rfl rfl rfl rfl (hS79.src (k := 0) rfl 1 1) rfl (oneCell_of_cells.2 rfl) (fun i u h => match i, u, h with | 0, _, h => (by cases h; exact ⟨⟨rfl, hg25_6⟩, rfl⟩) | j + 1, _, h => (by simp at h)) (by simp only [List.length_cons, List.length_nil]; omega) (by simp only [List.length_cons, List.length_nil]; omega) rfl fun A81 cp81 F81 w81 (hS81 : SH (Old w) w w81 [Ck.var b79 [.string ((nth ((nth p0 i1).Steps) i2).Call.Text)] 9, Ck.var b28 [.int .i64 ((nth ((nth p0 i1).Steps) i2).Proc), .int .i64 ((nth ((nth p0 i1).Steps) i2).Call.Kind), .string ((nth ((nth p0 i1).Steps) i2).Call.Name), .string ((nth ((nth p0 i1).Steps) i2).Call.To), .int .i64 ((nth ((nth p0 i1).Steps) i2).Call.A), .int .i64 ((nth ((nth p0 i1).Steps) i2).Call.B), .string ((nth ((nth p0 i1).Steps) i2).Call.Text)] 82, Ck.var b13 [.int .i64 ((nth p0 i1).Seq), .int .i64 ((nth p0 i1).Kind), .int .i64 ((nth p0 i1).Tx), .slice A10_3 ((nth p0 i1).Steps.length) cp10_3, .slice A10_4 ((nth p0 i1).Answers.length) cp10_4, .int .i64 ((nth p0 i1).Began), .int .i64 ((nth p0 i1).Ended), .bool ((nth p0 i1).Laid)] 74, Ck.own (α := List ByteArray) [.slice A81 ((y2_3 ++ [(nth ((nth p0 i1).Steps) i2).Call.Text]).length) cp81] (y2_3 ++ [(nth ((nth p0 i1).Steps) i2).Call.Text]) F81]) a82 hE82 => st_val hE82 (y_assign hE82 rfl) rfl fun a83 hE83 => wpList_nil ?_
        clear hE73 hE75 hE76 hE77 hE78 hE80 hE82
        clear a73 a75 a76 a77 a78 a80 a82
        refine blk_normal ?_
        refine then_normal ?_
        refine wp_region_lit ?_
        refine st_val hE83 (y_add_in hE83 rfl rfl (m := ((i2 + 1 : Nat) : Int)) (by omega) (by omega) (by omega)) rfl fun a84 hE84 => st_val hE84 (y_move hE84 rfl) rfl fun a85 hE85 => wpList_nil ?_
        clear hE83 hE84
        clear a83 a84
        refine then_normal ⟨fu2, Nat.lt_succ_self _, (i2 + 1), (y2_3 ++ [(nth ((nth p0 i1).Steps) i2).Call.Text]), A81, cp81, F81, by omega, by omega, .inl (by omega), (by first | omega | (simp only [List.length_append, List.length_cons, List.length_nil]; omega)), hM, hE85.weaken ⟨rfl, rfl, rfl, rfl, rfl, rfl, rfl, rfl, trivial⟩, (hS81.drop (k := 2))⟩
      ·
        have hM := hM.trans (if_f hb74)
        refine wp_skip ?_
        refine blk_normal ?_
        refine then_normal ?_
        refine wp_region_lit ?_
        refine st_val hE73 (y_add_in hE73 rfl rfl (m := ((i2 + 1 : Nat) : Int)) (by omega) (by omega) (by omega)) rfl fun a86 hE86 => st_val hE86 (y_move hE86 rfl) rfl fun a87 hE87 => wpList_nil ?_
        clear hE73 hE86
        clear a73 a86
        refine then_normal ⟨fu2, Nat.lt_succ_self _, (i2 + 1), y2_3, Ay2_3, cpy2_3, Fy2_3, by omega, by omega, .inl (by omega), (by first | omega | (simp only [List.length_append, List.length_cons, List.length_nil]; omega)), hM, hE87.weaken ⟨rfl, rfl, rfl, rfl, rfl, rfl, rfl, rfl, trivial⟩, (hS73.drop (k := 1))⟩
    ·
      have hge2 : ¬ i2 < (nth p0 i1).Steps.length := by have := of_decide_eq_false hb23; omega
      obtain rfl : fu2 = 0 := by omega
      have hM := hM.trans (impl_OutsOf_l2.eq_1 _ _ _ _ _ _)
      refine wp_exit ?_
      refine then_exit ?_
      refine then_exit ?_
      refine blk_exit ?_
      refine blk_normal ?_
      refine then_normal ?_
      refine wp_region_lit ?_
      refine st_val hE22 (y_add_in hE22 rfl rfl (m := ((i1 + 1 : Nat) : Int)) (by omega) (by omega) (by omega)) rfl fun a88 hE88 => st_val hE88 (y_move hE88 rfl) rfl fun a89 hE89 => wpList_nil ?_
      clear hE22 hE88
      clear a22 a88
      refine then_normal ⟨fu1, Nat.lt_succ_self _, (i1 + 1), y2_3, Ay2_3, cpy2_3, Fy2_3, by omega, by omega, .inl (by omega), (by first | omega | (simp only [List.length_append, List.length_cons, List.length_nil]; omega)), hM, hE89.weaken ⟨rfl, rfl, rfl, rfl, trivial⟩, (hS21.drop (k := 1))⟩
  ·
    have hge1 : ¬ i1 < p0.length := by have := of_decide_eq_false hb9; omega
    obtain rfl : fu1 = 0 := by omega
    have hM := hM.trans (impl_OutsOf_l1.eq_1 _ _ _)
    refine wp_exit ?_
    refine then_exit ?_
    refine then_exit ?_
    refine blk_exit ?_
    refine then_normal ?_
    refine wp_seq (wp_region_lit ?_)
    refine st_val hE8 (y_move hE8 rfl) rfl fun a90 hE90 => st_val hE90 (y_assign hE90 rfl) rfl fun a91 hE91 => wpList_nil ?_
    clear hE8 hE90
    clear a8 a90
    refine then_normal ?_
    refine wp_ret ?_
    refine fin1 hE91 rfl rfl ?_
    rw [hM]
    exact ⟨_, _, rfl, hS7.below, hS7.slO (k := 0) rfl, hS7.nd (k := 0) rfl, hS7.ge' (k := 0) rfl⟩

/- F24 loop.example/g00974/spec.OutsOf -/
def spec_OutsOf_l2 (p0 : List Entry) (i1 : Nat) (y1_3 : List ByteArray) (k2 : Nat → List ByteArray → List ByteArray) : Nat → Nat → List ByteArray → List ByteArray
  | 0, i2, y2_3 => k2 i2 y2_3
  | fu2 + 1, i2, y2_3 => if (decide ((i2 : Int) < ((nth p0 i1).Answers.length : Int))) = true then (if ((decide ((nth ((nth p0 i1).Steps) i2).Call.Kind = 22)) && (decide ((nth ((nth p0 i1).Answers) i2).Code = 0))) = true then spec_OutsOf_l2 p0 i1 y1_3 k2 fu2 (i2 + 1) (y2_3 ++ [(nth ((nth p0 i1).Steps) i2).Call.Text]) else spec_OutsOf_l2 p0 i1 y1_3 k2 fu2 (i2 + 1) y2_3) else (k2 i2 y2_3)
def spec_OutsOf_l1 (p0 : List Entry) : Nat → Nat → List ByteArray → List ByteArray
  | 0, i1, y1_3 => y1_3
  | fu1 + 1, i1, y1_3 => spec_OutsOf_l2 p0 i1 y1_3 (fun i2 y2_3 => spec_OutsOf_l1 p0 fu1 (i1 + 1) y2_3) ((nth p0 i1).Steps.length - 0) 0 y1_3
def spec_OutsOf (p0 : List Entry) : List ByteArray := spec_OutsOf_l1 p0 (p0.length - 0) 0 ([] : List ByteArray)
theorem c_spec_OutsOf {v0 : Value} (p0 : List Entry) {w : World} (hp0 : SlR (Old w) w v0 p0) (hsm0 : Dat.small 1048576 p0) :
    Calls Try.prog 24 [v0].toArray w (fun e w' => ∃ v F, e = .returned v ∧ Below w.heap.size w w' ∧ SlO w' v (spec_OutsOf p0) F ∧ F.Nodup ∧ ∀ b ∈ F, w.heap.size ≤ b) := by
  have hln0 : p0.length ≤ 1048576 := hsm0.1
  obtain ⟨A0, cap0, rfl, hx0⟩ := hp0.form
  refine enter Try.func24 rfl Try.ntmps24 (Nat.le_of_ble_eq_true rfl) ?_
  intro a0 hE0
  have hS0 := SH.start w
  have hM := spec_OutsOf.eq_1 p0
  refine wp_seq (wp_region_lit ?_)
  refine st_val hE0 (y_assign hE0 rfl) rfl fun a1 hE1 => wpList_nil ?_
  clear hE0
  clear a0
  refine then_normal ?_
  refine wp_seq (wp_region_lit ?_)
  refine st_buildSlice (α := ByteArray) (is := []) (vs := []) (cs := []) (ys := []) (e := 9) hE1 hS0 rfl rfl (by kernel_rfl) rfl rfl (by decide) (fun _ i y h => by simp at h) rfl fun b2 w2 hS2 a3 hE3 => st_val hE3 (y_assign hE3 rfl) rfl fun a4 hE4 => wpList_nil ?_
  clear hE1 hE3
  clear a1 a3
  refine then_normal ?_
  refine wp_seq (wp_seq (wp_region_lit ?_))
  refine st_val hE4 (y_assign hE4 rfl) rfl fun a5 hE5 => wpList_nil ?_
  clear hE4
  clear a4
  refine then_normal ?_
  refine wp_block (wp_loop_ghost (fun fu1 a w2 => ∃ (i1 : Nat) (y1_3 : List ByteArray) (Ay1_3 : Option Addr) (cpy1_3 : Nat) (Fy1_3 : List Nat), 0 ≤ i1 ∧ fu1 = p0.length - i1 ∧ (i1 ≤ p0.length ∨ i1 = 0) ∧ y1_3.length ≤ 1048576 * i1 ∧ spec_OutsOf p0 = spec_OutsOf_l1 p0 fu1 i1 y1_3 ∧ Env 60 [(0, .slice A0 p0.length cap0), (3, .slice Ay1_3 y1_3.length cpy1_3), (4, .int .i64 (i1 : Int))] a ∧ SH (Old w) w w2 [Ck.own (α := List ByteArray) [.slice Ay1_3 y1_3.length cpy1_3] y1_3 Fy1_3]) (p0.length - 0) ⟨0, ([] : List ByteArray), (some ⟨b2, 0, none⟩), 0, [b2], Nat.le_refl _, rfl, .inr rfl, (by first | omega | (simp only [List.length_nil, List.length_append, List.length_cons]; omega)), hM, hE5.weaken ⟨rfl, rfl, rfl, trivial⟩, hS2⟩ ?_)
  clear hM hE5 hS2
  rintro fu1 a6 w6 ⟨i1, y1_3, Ay1_3, cpy1_3, Fy1_3, hi1, hfu1, hup1, hry1_3, hM, hE6, hS6⟩
  refine wp_seq (wp_seq (wp_region_lit ?_))
  refine st_val hE6 (y_move hE6 rfl) rfl fun a7 hE7 => st_val hE7 (y_move hE7 rfl) rfl fun a8 hE8 => st_val hE8 (y_len_slice hE8 rfl sl27) rfl fun a9 hE9 => st_val hE9 (y_lss hE9 rfl rfl) rfl fun a10 hE10 => wpList_nil ?_
  clear hE6 hE7 hE8 hE9
  clear a6 a7 a8 a9
  refine then_normal ?_
  refine cond_split hE10 rfl (fun hb11 => ?_) (fun hb11 => ?_)
  ·
    have hlt1 : i1 < p0.length := by have := of_decide_eq_true hb11; omega
    obtain ⟨fu1, rfl⟩ : ∃ m, fu1 = m + 1 := ⟨fu1 - 1, by omega⟩
    have hM := hM.trans (spec_OutsOf_l1.eq_2 _ _ _ _)
    refine wp_skip ?_
    refine then_normal ?_
    refine wp_seq (wp_block (wp_seq (wp_region_lit ?_)))
    refine st_val hE10 (y_move hE10 rfl) rfl fun a12 hE12 => st_val hE12 (y_move hE12 rfl) rfl fun a13 hE13 => st_index hE13 hp0 rfl rfl rfl (by omega) sl27 rfl fun ad14 cs14 hr14 hc14 hl14 a15 hE15 => ?_
    obtain ⟨v14_3, v14_4, rfl, hg14_0, hg14_1, hg14_2, hv14_3, hv14_4, hg14_5, hg14_6, _⟩ := Entry_open hr14
    obtain ⟨A14_3, cp14_3, rfl, hx14_3⟩ := hv14_3.form
    obtain ⟨A14_4, cp14_4, rfl, hx14_4⟩ := hv14_4.form
    refine st_val hE15 (y_load_agg hE15 rfl (hS6.upc hc14 hl14) rfl rfl agg74) rfl fun a16 hE16 => st_alloc hE16 hS6 Try.zeroValue74 rfl rfl fun b17 w17 hS17 a18 hE18 => st_store hE18 hS17 [.int .i64 ((nth p0 i1).Seq), .int .i64 ((nth p0 i1).Kind), .int .i64 ((nth p0 i1).Tx), .slice A14_3 ((nth p0 i1).Steps.length) cp14_3, .slice A14_4 ((nth p0 i1).Answers.length) cp14_4, .int .i64 ((nth p0 i1).Began), .int .i64 ((nth p0 i1).Ended), .bool ((nth p0 i1).Laid)] rfl rfl (k := 0) rfl rfl (chkAgg_size agg74) rfl rfl rfl rfl fun w19 (hS19 : SH (Old w) w w19 [Ck.var b17 [.int .i64 ((nth p0 i1).Seq), .int .i64 ((nth p0 i1).Kind), .int .i64 ((nth p0 i1).Tx), .slice A14_3 ((nth p0 i1).Steps.length) cp14_3, .slice A14_4 ((nth p0 i1).Answers.length) cp14_4, .int .i64 ((nth p0 i1).Began), .int .i64 ((nth p0 i1).Ended), .bool ((nth p0 i1).Laid)] 74, Ck.own (α := List ByteArray) [.slice Ay1_3 y1_3.length cpy1_3] y1_3 Fy1_3]) a20 hE20 => wpList_nil ?_
    clear hE10 hE12 hE13 hE15 hE16 hE18
    clear a10 a12 a13 a15 a16 a18
    refine then_normal ?_
    refine wp_seq (wp_region_lit ?_)
    refine st_val hE20 (y_assign hE20 rfl) rfl fun a21 hE21 => wpList_nil ?_
    clear hE20
    clear a20
    refine then_normal ?_
    have hbs2 : (nth p0 i1).Steps.length ≤ 1048576 := ((small_nth hsm0 (by omega)).2.2.2.1).1
    refine wp_block (wp_loop_ghost (fun fu2 a w2 => ∃ (i2 : Nat) (y2_3 : List ByteArray) (Ay2_3 : Option Addr) (cpy2_3 : Nat) (Fy2_3 : List Nat), 0 ≤ i2 ∧ fu2 = (nth p0 i1).Steps.length - i2 ∧ (i2 ≤ (nth p0 i1).Steps.length ∨ i2 = 0) ∧ y2_3.length ≤ 1048576 * i1 + i2 ∧ spec_OutsOf p0 = spec_OutsOf_l2 p0 i1 y1_3 (fun i2 y2_3 => spec_OutsOf_l1 p0 fu1 (i1 + 1) y2_3) fu2 i2 y2_3 ∧ Env 60 [(0, .slice A0 p0.length cap0), (3, .slice Ay2_3 y2_3.length cpy2_3), (4, .int .i64 (i1 : Int)), (5, .pointer (some ((⟨b17, 0, none⟩ : Addr).add 0))), (6, .int .i64 (i2 : Int))] a ∧ SH (Old w) w w2 [Ck.var b17 [.int .i64 ((nth p0 i1).Seq), .int .i64 ((nth p0 i1).Kind), .int .i64 ((nth p0 i1).Tx), .slice A14_3 ((nth p0 i1).Steps.length) cp14_3, .slice A14_4 ((nth p0 i1).Answers.length) cp14_4, .int .i64 ((nth p0 i1).Began), .int .i64 ((nth p0 i1).Ended), .bool ((nth p0 i1).Laid)] 74, Ck.own (α := List ByteArray) [.slice Ay2_3 y2_3.length cpy2_3] y2_3 Fy2_3]) ((nth p0 i1).Steps.length - 0) ⟨0, y1_3, Ay1_3, cpy1_3, Fy1_3, Nat.le_refl _, rfl, .inr rfl, (by first | omega | (simp only [List.length_nil, List.length_append, List.length_cons]; omega)), hM, hE21.weaken ⟨rfl, rfl, rfl, rfl, rfl, trivial⟩, hS19⟩ ?_)
    clear hM hE21 hS19
    rintro fu2 a22 w22 ⟨i2, y2_3, Ay2_3, cpy2_3, Fy2_3, hi2, hfu2, hup2, hry2_3, hM, hE22, hS22⟩
    refine wp_seq (wp_seq (wp_region_lit ?_))
    refine st_val hE22 (y_move hE22 rfl) rfl fun a23 hE23 => st_val hE23 (y_fieldAddr hE23 rfl fa74_3 rfl) rfl fun a24 hE24 => st_val hE24 (y_load_one hE24 rfl (hS22.cells (k := 0) rfl) rfl one71) rfl fun a25 hE25 => st_val hE25 (y_len_slice hE25 rfl sl71) rfl fun a26 hE26 => st_val hE26 (y_lss hE26 rfl rfl) rfl fun a27 hE27 => st_val hE27 (y_move hE27 rfl) rfl fun a28 hE28 => ?_
    refine st_mid 6 (fun a w2 => ∃ r : Bool, r = ((decide ((i2 : Int) < ((nth p0 i1).Steps.length : Int))) && (decide ((i2 : Int) < ((nth p0 i1).Answers.length : Int)))) ∧ SH (Old w) w w2 [Ck.var b17 [.int .i64 ((nth p0 i1).Seq), .int .i64 ((nth p0 i1).Kind), .int .i64 ((nth p0 i1).Tx), .slice A14_3 ((nth p0 i1).Steps.length) cp14_3, .slice A14_4 ((nth p0 i1).Answers.length) cp14_4, .int .i64 ((nth p0 i1).Began), .int .i64 ((nth p0 i1).Ended), .bool ((nth p0 i1).Laid)] 74, Ck.own (α := List ByteArray) [.slice Ay2_3 y2_3.length cpy2_3] y2_3 Fy2_3] ∧ Env 60 ((29, .bool r) :: [(0, .slice A0 p0.length cap0), (3, .slice Ay2_3 y2_3.length cpy2_3), (4, .int .i64 (i1 : Int)), (5, .pointer (some ((⟨b17, 0, none⟩ : Addr).add 0))), (6, .int .i64 (i2 : Int)), (18, .int .i64 (i2 : Int)), (19, .pointer (some ((⟨b17, 0, none⟩ : Addr).add 3))), (20, .slice A14_3 ((nth p0 i1).Steps.length) cp14_3), (21, .int .i64 ((nth p0 i1).Steps.length : Int)), (22, .bool (decide ((i2 : Int) < ((nth p0 i1).Steps.length : Int)))), (23, .bool (decide ((i2 : Int) < ((nth p0 i1).Steps.length : Int))))]) a) ?_ ?_
    ·
      rcases Bool.eq_false_or_eq_true (decide ((i2 : Int) < ((nth p0 i1).Steps.length : Int))) with hb30 | hb30
      ·
        have hb30f : (i2 : Int) < ((nth p0 i1).Steps.length : Int) := of_decide_eq_true hb30
        refine st_run hE28 rfl rfl rfl hb30 <| st_val hE28 (y_move hE28 rfl) rfl fun a31 hE31 => st_run hE31 rfl rfl rfl hb30 <| st_val hE31 (y_fieldAddr hE31 rfl fa74_4 rfl) rfl fun a32 hE32 => st_run hE32 rfl rfl rfl hb30 <| st_val hE32 (y_load_one hE32 rfl (hS22.cells (k := 0) rfl) rfl one72) rfl fun a33 hE33 => st_run hE33 rfl rfl rfl hb30 <| st_val hE33 (y_len_slice hE33 rfl sl72) rfl fun a34 hE34 => st_run hE34 rfl rfl rfl hb30 <| st_val hE34 (y_lss hE34 rfl rfl) rfl fun a35 hE35 => st_val hE35 (y_pick_t hE35 rfl hb30 rfl) rfl fun a36 hE36 => wpList_nil ?_
        exact ⟨decide ((i2 : Int) < ((nth p0 i1).Answers.length : Int)), by simp only [hb30, Bool.true_and, Bool.false_and, Bool.true_or, Bool.false_or, Bool.and_true, Bool.or_true, Bool.and_false, Bool.or_false], hS22, hE36.weaken ⟨rfl, rfl, rfl, rfl, rfl, rfl, rfl, rfl, rfl, rfl, rfl, rfl, trivial⟩⟩
      ·
        have hb30f : ¬ ((i2 : Int) < ((nth p0 i1).Steps.length : Int)) := of_decide_eq_false hb30
        refine st_skip hE28 rfl rfl rfl hb30 rfl fun a37 hE37 => st_skip hE37 rfl rfl rfl hb30 rfl fun a38 hE38 => st_skip hE38 rfl rfl rfl hb30 rfl fun a39 hE39 => st_skip hE39 rfl rfl rfl hb30 rfl fun a40 hE40 => st_skip hE40 rfl rfl rfl hb30 rfl fun a41 hE41 => st_val hE41 (y_pick_f hE41 rfl hb30 rfl) rfl fun a42 hE42 => wpList_nil ?_
        exact ⟨false, by simp only [hb30, Bool.true_and, Bool.false_and, Bool.true_or, Bool.false_or, Bool.and_true, Bool.or_true, Bool.and_false, Bool.or_false], hS22, hE42.weaken ⟨rfl, rfl, rfl, rfl, rfl, rfl, rfl, rfl, rfl, rfl, rfl, rfl, trivial⟩⟩
    rintro a43 w43 ⟨r43, hr43, hS43, hE43⟩
    subst hr43
    clear hE28 hE22 hE23 hE24 hE25 hE26 hE27
    refine wpList_nil ?_
    refine then_normal ?_
    refine cond_split hE43 rfl (fun hb44 => ?_) (fun hb44 => ?_)
    ·
      obtain ⟨hb44a, hb44b⟩ := Bool.and_eq_true_iff.1 hb44
      have hlt2 : i2 < (nth p0 i1).Steps.length := by have := of_decide_eq_true hb44a; omega
      have hb44bf : (i2 : Int) < ((nth p0 i1).Answers.length : Int) := of_decide_eq_true hb44b
      obtain ⟨fu2, rfl⟩ : ∃ m, fu2 = m + 1 := ⟨fu2 - 1, by omega⟩
      have hM := hM.trans ((spec_OutsOf_l2.eq_2 _ _ _ _ _ _ _).trans (if_t hb44b))
      refine wp_skip ?_
      refine then_normal ?_
      refine wp_seq (wp_block (wp_seq (wp_region_lit ?_)))
      refine st_val hE43 (y_fieldAddr hE43 rfl fa74_3 rfl) rfl fun a45 hE45 => st_val hE45 (y_load_one hE45 rfl (hS43.cells (k := 0) rfl) rfl one71) rfl fun a46 hE46 => st_val hE46 (y_move hE46 rfl) rfl fun a47 hE47 => st_index hE47 hv14_3 rfl rfl rfl (by omega) sl71 rfl fun ad48 cs48 hr48 hc48 hl48 a49 hE49 => ?_
      obtain ⟨rfl, hg48_0, hg48_1, hg48_2, hg48_3, hg48_4, hg48_5, hg48_6, _⟩ := Step_open hr48
      refine st_val hE49 (y_fieldAddr hE49 rfl fa82_1 rfl) rfl fun a50 hE50 => st_val hE50 (y_fieldAddr hE50 rfl fa80_0 rfl) rfl fun a51 hE51 => st_val hE51 (y_load_one hE51 rfl (hS43.upc hc48 hl48) rfl one3) rfl fun a52 hE52 => st_val hE52 (y_eql hE52 rfl rfl) rfl fun a53 hE53 => st_val hE53 (y_move hE53 rfl) rfl fun a54 hE54 => ?_
      refine st_mid 8 (fun a w2 => ∃ r : Bool, r = ((decide ((nth ((nth p0 i1).Steps) i2).Call.Kind = 22)) && (decide ((nth ((nth p0 i1).Answers) i2).Code = 0))) ∧ SH (Old w) w w2 [Ck.var b17 [.int .i64 ((nth p0 i1).Seq), .int .i64 ((nth p0 i1).Kind), .int .i64 ((nth p0 i1).Tx), .slice A14_3 ((nth p0 i1).Steps.length) cp14_3, .slice A14_4 ((nth p0 i1).Answers.length) cp14_4, .int .i64 ((nth p0 i1).Began), .int .i64 ((nth p0 i1).Ended), .bool ((nth p0 i1).Laid)] 74, Ck.own (α := List ByteArray) [.slice Ay2_3 y2_3.length cpy2_3] y2_3 Fy2_3] ∧ Env 60 ((48, .bool r) :: [(0, .slice A0 p0.length cap0), (3, .slice Ay2_3 y2_3.length cpy2_3), (4, .int .i64 (i1 : Int)), (5, .pointer (some ((⟨b17, 0, none⟩ : Addr).add 0))), (6, .int .i64 (i2 : Int)), (18, .int .i64 (i2 : Int)), (19, .pointer (some ((⟨b17, 0, none⟩ : Addr).add 3))), (20, .slice A14_3 ((nth p0 i1).Steps.length) cp14_3), (21, .int .i64 ((nth p0 i1).Steps.length : Int)), (22, .bool (decide ((i2 : Int) < ((nth p0 i1).Steps.length : Int)))), (23, .bool (decide ((i2 : Int) < ((nth p0 i1).Steps.length : Int)))), (29, .bool ((decide ((i2 : Int) < ((nth p0 i1).Steps.length : Int))) && (decide ((i2 : Int) < ((nth p0 i1).Answers.length : Int))))), (32, .pointer (some ((⟨b17, 0, none⟩ : Addr).add 3))), (33, .slice A14_3 ((nth p0 i1).Steps.length) cp14_3), (34, .int .i64 (i2 : Int)), (35, .pointer (some (ad48.add 0))), (36, .pointer (some (ad48.add 1))), (37, .pointer (some (ad48.add 1))), (38, .int .i64 ((nth ((nth p0 i1).Steps) i2).Call.Kind)), (39, .bool (decide ((nth ((nth p0 i1).Steps) i2).Call.Kind = 22))), (40, .bool (decide ((nth ((nth p0 i1).Steps) i2).Call.Kind = 22)))]) a) ?_ ?_
      ·
        rcases Bool.eq_false_or_eq_true (decide ((nth ((nth p0 i1).Steps) i2).Call.Kind = 22)) with hb56 | hb56
        ·
          have hb56f : (nth ((nth p0 i1).Steps) i2).Call.Kind = 22 := by simpa using hb56
          refine st_run hE54 rfl rfl rfl hb56 <| st_val hE54 (y_fieldAddr hE54 rfl fa74_4 rfl) rfl fun a57 hE57 => st_run hE57 rfl rfl rfl hb56 <| st_val hE57 (y_load_one hE57 rfl (hS43.cells (k := 0) rfl) rfl one72) rfl fun a58 hE58 => st_run hE58 rfl rfl rfl hb56 <| st_val hE58 (y_move hE58 rfl) rfl fun a59 hE59 => st_run hE59 rfl rfl rfl hb56 <| st_index hE59 hv14_4 rfl rfl rfl (by omega) sl72 rfl fun ad60 cs60 hr60 hc60 hl60 a61 hE61 => ?_
          obtain ⟨rfl, hg60_0, hg60_1, hg60_2, _⟩ := Answer_open hr60
          refine st_run hE61 rfl rfl rfl hb56 <| st_val hE61 (y_fieldAddr hE61 rfl fa84_0 rfl) rfl fun a62 hE62 => st_run hE62 rfl rfl rfl hb56 <| st_val hE62 (y_load_one hE62 rfl (hS43.upc hc60 hl60) rfl one3) rfl fun a63 hE63 => st_run hE63 rfl rfl rfl hb56 <| st_val hE63 (y_eql hE63 rfl rfl) rfl fun a64 hE64 => st_val hE64 (y_pick_t hE64 rfl hb56 rfl) rfl fun a65 hE65 => wpList_nil ?_
          exact ⟨decide ((nth ((nth p0 i1).Answers) i2).Code = 0), by simp only [hb56, Bool.true_and, Bool.false_and, Bool.true_or, Bool.false_or, Bool.and_true, Bool.or_true, Bool.and_false, Bool.or_false], hS43, hE65.weaken ⟨rfl, rfl, rfl, rfl, rfl, rfl, rfl, rfl, rfl, rfl, rfl, rfl, rfl, rfl, rfl, rfl, rfl, rfl, rfl, rfl, rfl, rfl, trivial⟩⟩
        ·
          have hb56f : ¬ ((nth ((nth p0 i1).Steps) i2).Call.Kind = 22) := by simpa using hb56
          refine st_skip hE54 rfl rfl rfl hb56 rfl fun a66 hE66 => st_skip hE66 rfl rfl rfl hb56 rfl fun a67 hE67 => st_skip hE67 rfl rfl rfl hb56 rfl fun a68 hE68 => st_skip hE68 rfl rfl rfl hb56 rfl fun a69 hE69 => st_skip hE69 rfl rfl rfl hb56 rfl fun a70 hE70 => st_skip hE70 rfl rfl rfl hb56 rfl fun a71 hE71 => st_skip hE71 rfl rfl rfl hb56 rfl fun a72 hE72 => st_val hE72 (y_pick_f hE72 rfl hb56 rfl) rfl fun a73 hE73 => wpList_nil ?_
          exact ⟨false, by simp only [hb56, Bool.true_and, Bool.false_and, Bool.true_or, Bool.false_or, Bool.and_true, Bool.or_true, Bool.and_false, Bool.or_false], hS43, hE73.weaken ⟨rfl, rfl, rfl, rfl, rfl, rfl, rfl, rfl, rfl, rfl, rfl, rfl, rfl, rfl, rfl, rfl, rfl, rfl, rfl, rfl, rfl, rfl, trivial⟩⟩
      rintro a74 w74 ⟨r74, hr74, hS74, hE74⟩
      subst hr74
      clear hE54 hE43 hE45 hE46 hE47 hE49 hE50 hE51 hE52 hE53
      refine wpList_nil ?_
      refine then_normal ?_
      refine cond_split hE74 rfl (fun hb75 => ?_) (fun hb75 => ?_)
      ·
        have hM := hM.trans (if_t hb75)
        obtain ⟨hb75a, hb75b⟩ := Bool.and_eq_true_iff.1 hb75
        have hb75af : (nth ((nth p0 i1).Steps) i2).Call.Kind = 22 := by simpa using hb75a
        have hb75bf : (nth ((nth p0 i1).Answers) i2).Code = 0 := by simpa using hb75b
        refine wp_region_lit ?_
        refine st_val hE74 (y_move hE74 rfl) rfl fun a76 hE76 => st_val hE76 (y_fieldAddr hE76 rfl fa74_3 rfl) rfl fun a77 hE77 => st_val hE77 (y_load_one hE77 rfl (hS74.cells (k := 0) rfl) rfl one71) rfl fun a78 hE78 => st_val hE78 (y_move hE78 rfl) rfl fun a79 hE79 => st_index hE79 hv14_3 rfl rfl rfl (by omega) sl71 rfl fun ad80 cs80 hr80 hc80 hl80 a81 hE81 => ?_
        obtain ⟨rfl, hg80_0, hg80_1, hg80_2, hg80_3, hg80_4, hg80_5, hg80_6, _⟩ := Step_open hr80
        refine st_val hE81 (y_fieldAddr hE81 rfl fa82_1 rfl) rfl fun a82 hE82 => st_val hE82 (y_fieldAddr hE82 rfl fa80_5 rfl) rfl fun a83 hE83 => st_val hE83 (y_load_one hE83 rfl (hS74.upc hc80 hl80) rfl one9) rfl fun a84 hE84 => st_lit (is := [0]) (vs := [.string ((nth ((nth p0 i1).Steps) i2).Call.Text)]) (cs := [.string ((nth ((nth p0 i1).Steps) i2).Call.Text)]) (e := 9) hE84 hS74 rfl rfl (by kernel_rfl) rfl fun b85 w85 hS85 a86 hE86 => ?_
        have hap87 : y2_3.length + 1 ≤ 1099511627776 := (by first | omega | (simp only [List.length_append, List.length_cons, List.length_nil]; omega))
        refine st_append (α := ByteArray) (ys := [(nth ((nth p0 i1).Steps) i2).Call.Text]) (k := 2) hE86 hS85 sl38 Try.zeroValue9 rfl rfl rfl rfl (hS85.src (k := 0) rfl 1 1) rfl (oneCell_of_cells.2 rfl) (fun i u h => match i, u, h with | 0, _, h => (by cases h; exact ⟨⟨rfl, hg80_6⟩, rfl⟩) | j + 1, _, h => (by simp at h)) (by simp only [List.length_cons, List.length_nil]; omega) (by simp only [List.length_cons, List.length_nil]; omega) rfl fun A87 cp87 F87 w87 (hS87 : SH (Old w) w w87 [Ck.var b85 [.string ((nth ((nth p0 i1).Steps) i2).Call.Text)] 9, Ck.var b17 [.int .i64 ((nth p0 i1).Seq), .int .i64 ((nth p0 i1).Kind), .int .i64 ((nth p0 i1).Tx), .slice A14_3 ((nth p0 i1).Steps.length) cp14_3, .slice A14_4 ((nth p0 i1).Answers.length) cp14_4, .int .i64 ((nth p0 i1).Began), .int .i64 ((nth p0 i1).Ended), .bool ((nth p0 i1).Laid)] 74, Ck.own (α := List ByteArray) [.slice A87 ((y2_3 ++ [(nth ((nth p0 i1).Steps) i2).Call.Text]).length) cp87] (y2_3 ++ [(nth ((nth p0 i1).Steps) i2).Call.Text]) F87]) a88 hE88 => st_val hE88 (y_assign hE88 rfl) rfl fun a89 hE89 => wpList_nil ?_
        clear hE74 hE76 hE77 hE78 hE79 hE81 hE82 hE83 hE84 hE86 hE88
        clear a74 a76 a77 a78 a79 a81 a82 a83 a84 a86 a88
        refine blk_normal ?_
        refine then_normal ?_
        refine wp_region_lit ?_
        refine st_val hE89 (y_move hE89 rfl) rfl fun a90 hE90 => st_val hE90 (y_add_in hE90 rfl rfl (m := ((i2 + 1 : Nat) : Int)) (by omega) (by omega) (by omega)) rfl fun a91 hE91 => st_val hE91 (y_assign hE91 rfl) rfl fun a92 hE92 => wpList_nil ?_
        clear hE89 hE90 hE91
        clear a89 a90 a91
        refine then_normal ⟨fu2, Nat.lt_succ_self _, (i2 + 1), (y2_3 ++ [(nth ((nth p0 i1).Steps) i2).Call.Text]), A87, cp87, F87, by omega, by omega, .inl (by omega), (by first | omega | (simp only [List.length_append, List.length_cons, List.length_nil]; omega)), hM, hE92.weaken ⟨rfl, rfl, rfl, rfl, rfl, trivial⟩, (hS87.drop (k := 1))⟩
      ·
        have hM := hM.trans (if_f hb75)
        refine wp_skip ?_
        refine blk_normal ?_
        refine then_normal ?_
        refine wp_region_lit ?_
        refine st_val hE74 (y_move hE74 rfl) rfl fun a93 hE93 => st_val hE93 (y_add_in hE93 rfl rfl (m := ((i2 + 1 : Nat) : Int)) (by omega) (by omega) (by omega)) rfl fun a94 hE94 => st_val hE94 (y_assign hE94 rfl) rfl fun a95 hE95 => wpList_nil ?_
        clear hE74 hE93 hE94
        clear a74 a93 a94
        refine then_normal ⟨fu2, Nat.lt_succ_self _, (i2 + 1), y2_3, Ay2_3, cpy2_3, Fy2_3, by omega, by omega, .inl (by omega), (by first | omega | (simp only [List.length_append, List.length_cons, List.length_nil]; omega)), hM, hE95.weaken ⟨rfl, rfl, rfl, rfl, rfl, trivial⟩, hS74⟩
    ·
      rcases Bool.eq_false_or_eq_true (decide ((i2 : Int) < ((nth p0 i1).Steps.length : Int))) with hb44a | hb44a
      ·
        have hlt2 : i2 < (nth p0 i1).Steps.length := by have := of_decide_eq_true hb44a; omega
        have hb44b : (decide ((i2 : Int) < ((nth p0 i1).Answers.length : Int))) = false := by rw [hb44a, Bool.true_and] at hb44; exact hb44
        obtain ⟨fu2, rfl⟩ : ∃ m, fu2 = m + 1 := ⟨fu2 - 1, by omega⟩
        have hM := hM.trans ((spec_OutsOf_l2.eq_2 _ _ _ _ _ _ _).trans (if_f hb44b))
        refine wp_exit ?_
        refine then_exit ?_
        refine then_exit ?_
        refine blk_exit ?_
        refine blk_normal ?_
        refine then_normal ?_
        refine wp_region_lit ?_
        refine st_val hE43 (y_move hE43 rfl) rfl fun a96 hE96 => st_val hE96 (y_add_in hE96 rfl rfl (m := ((i1 + 1 : Nat) : Int)) (by omega) (by omega) (by omega)) rfl fun a97 hE97 => st_val hE97 (y_assign hE97 rfl) rfl fun a98 hE98 => wpList_nil ?_
        clear hE43 hE96 hE97
        clear a43 a96 a97
        refine then_normal ⟨fu1, Nat.lt_succ_self _, (i1 + 1), y2_3, Ay2_3, cpy2_3, Fy2_3, by omega, by omega, .inl (by omega), (by first | omega | (simp only [List.length_append, List.length_cons, List.length_nil]; omega)), hM, hE98.weaken ⟨rfl, rfl, rfl, trivial⟩, (hS43.drop (k := 1))⟩
      ·
        have hge2 : ¬ i2 < (nth p0 i1).Steps.length := by have := of_decide_eq_false hb44a; omega
        obtain rfl : fu2 = 0 := by omega
        have hM := hM.trans (spec_OutsOf_l2.eq_1 _ _ _ _ _ _)
        refine wp_exit ?_
        refine then_exit ?_
        refine then_exit ?_
        refine blk_exit ?_
        refine blk_normal ?_
        refine then_normal ?_
        refine wp_region_lit ?_
        refine st_val hE43 (y_move hE43 rfl) rfl fun a99 hE99 => st_val hE99 (y_add_in hE99 rfl rfl (m := ((i1 + 1 : Nat) : Int)) (by omega) (by omega) (by omega)) rfl fun a100 hE100 => st_val hE100 (y_assign hE100 rfl) rfl fun a101 hE101 => wpList_nil ?_
        clear hE43 hE99 hE100
        clear a43 a99 a100
        refine then_normal ⟨fu1, Nat.lt_succ_self _, (i1 + 1), y2_3, Ay2_3, cpy2_3, Fy2_3, by omega, by omega, .inl (by omega), (by first | omega | (simp only [List.length_append, List.length_cons, List.length_nil]; omega)), hM, hE101.weaken ⟨rfl, rfl, rfl, trivial⟩, (hS43.drop (k := 1))⟩
  ·
    have hge1 : ¬ i1 < p0.length := by have := of_decide_eq_false hb11; omega
    obtain rfl : fu1 = 0 := by omega
    have hM := hM.trans (spec_OutsOf_l1.eq_1 _ _ _)
    refine wp_exit ?_
    refine then_exit ?_
    refine then_exit ?_
    refine blk_exit ?_
    refine then_normal ?_
    refine wp_seq (wp_region_lit ?_)
    refine st_val hE10 (y_move hE10 rfl) rfl fun a102 hE102 => st_val hE102 (y_assign hE102 rfl) rfl fun a103 hE103 => wpList_nil ?_
    clear hE10 hE102
    clear a10 a102
    refine then_normal ?_
    refine wp_ret ?_
    refine fin1 hE103 rfl rfl ?_
    rw [hM]
    exact ⟨_, _, rfl, hS6.below, hS6.slO (k := 0) rfl, hS6.nd (k := 0) rfl, hS6.ge' (k := 0) rfl⟩

end Go.Proofs.Ytpfnofdaaekglaa.Fw
