/- Contracts: each call returns what the model says. By program (wip/gen). -/
import Derived.Test.YtpfnofdaaekglaaP1
namespace Go.Proofs.Ytpfnofdaaekglaa.Fw
open Go.RowKit
set_option linter.unusedVariables false
set_option linter.unusedSimpArgs false



/- F35 loop.example/g00974/impl.within -/
def impl_within (p0 : Int) (p1 : Int) (p2 : Int) : Bool := (decide (p0 ≥ p1)) && (decide (p0 ≤ p2))
theorem c_impl_within (p0 : Int) (p1 : Int) (p2 : Int) {w : World}  :
    Calls Try.prog 35 [.int .i64 p0, .int .i64 p1, .int .i64 p2].toArray w (fun e w' => e = .returned (.bool (impl_within p0 p1 p2)) ∧ Below w.heap.size w w') := by
  refine enter Try.func35 rfl Try.ntmps35 (Nat.le_of_ble_eq_true rfl) ?_
  intro a0 hE0
  have hS0 := SH.start w
  have hM := impl_within.eq_1 p0 p1 p2
  refine wp_seq (wp_region_lit ?_)
  refine st_val hE0 (y_assign hE0 rfl) rfl fun a1 hE1 => wpList_nil ?_
  clear hE0
  clear a0
  refine then_normal ?_
  refine wp_seq (wp_region_lit ?_)
  refine st_val hE1 (y_move hE1 rfl) rfl fun a2 hE2 => st_val hE2 (y_move hE2 rfl) rfl fun a3 hE3 => st_val hE3 (y_geq hE3 rfl rfl) rfl fun a4 hE4 => st_val hE4 (y_move hE4 rfl) rfl fun a5 hE5 => ?_
  refine st_mid 4 (fun a w2 => ∃ r : Bool, r = ((decide (p0 ≥ p1)) && (decide (p0 ≤ p2))) ∧ SH (Old w) w w2 [] ∧ Env 15 ((14, .bool r) :: [(0, .int .i64 p0), (1, .int .i64 p1), (2, .int .i64 p2), (6, .bool false), (7, .int .i64 p0), (8, .int .i64 p1), (9, .bool (decide (p0 ≥ p1))), (10, .bool (decide (p0 ≥ p1)))]) a) ?_ ?_
  ·
    rcases Bool.eq_false_or_eq_true (decide (p0 ≥ p1)) with hb7 | hb7
    ·
      have hb7f : p0 ≥ p1 := of_decide_eq_true hb7
      refine st_run hE5 rfl rfl rfl hb7 <| st_val hE5 (y_move hE5 rfl) rfl fun a8 hE8 => st_run hE8 rfl rfl rfl hb7 <| st_val hE8 (y_move hE8 rfl) rfl fun a9 hE9 => st_run hE9 rfl rfl rfl hb7 <| st_val hE9 (y_leq hE9 rfl rfl) rfl fun a10 hE10 => st_val hE10 (y_pick_t hE10 rfl hb7 rfl) rfl fun a11 hE11 => wpList_nil ?_
      exact ⟨decide (p0 ≤ p2), by simp only [hb7, Bool.true_and, Bool.false_and, Bool.true_or, Bool.false_or, Bool.and_true, Bool.or_true, Bool.and_false, Bool.or_false], hS0, hE11.weaken ⟨rfl, rfl, rfl, rfl, rfl, rfl, rfl, rfl, rfl, trivial⟩⟩
    ·
      have hb7f : ¬ (p0 ≥ p1) := of_decide_eq_false hb7
      refine st_skip hE5 rfl rfl rfl hb7 rfl fun a12 hE12 => st_skip hE12 rfl rfl rfl hb7 rfl fun a13 hE13 => st_skip hE13 rfl rfl rfl hb7 rfl fun a14 hE14 => st_val hE14 (y_pick_f hE14 rfl hb7 rfl) rfl fun a15 hE15 => wpList_nil ?_
      exact ⟨false, by simp only [hb7, Bool.true_and, Bool.false_and, Bool.true_or, Bool.false_or, Bool.and_true, Bool.or_true, Bool.and_false, Bool.or_false], hS0, hE15.weaken ⟨rfl, rfl, rfl, rfl, rfl, rfl, rfl, rfl, rfl, trivial⟩⟩
  rintro a16 w16 ⟨r16, hr16, hS16, hE16⟩
  subst hr16
  clear hE5 hE1 hE2 hE3 hE4
  refine st_val hE16 (y_assign hE16 rfl) rfl fun a17 hE17 => wpList_nil ?_
  clear hE16
  clear a16
  refine then_normal ?_
  refine wp_ret ?_
  exact fin1 hE17 rfl rfl ⟨by rw [hM], hS16.below⟩

/- F34 loop.example/g00974/spec.l01In -/
def spec_l01In (p0 : Int) (p1 : Int) (p2 : Int) : Bool := (decide (p0 ≥ p1)) && (decide (p0 ≤ p2))
theorem c_spec_l01In (p0 : Int) (p1 : Int) (p2 : Int) {w : World}  :
    Calls Try.prog 34 [.int .i64 p0, .int .i64 p1, .int .i64 p2].toArray w (fun e w' => e = .returned (.bool (spec_l01In p0 p1 p2)) ∧ Below w.heap.size w w') := by
  refine enter Try.func34 rfl Try.ntmps34 (Nat.le_of_ble_eq_true rfl) ?_
  intro a0 hE0
  have hS0 := SH.start w
  have hM := spec_l01In.eq_1 p0 p1 p2
  refine wp_seq (wp_region_lit ?_)
  refine st_val hE0 (y_assign hE0 rfl) rfl fun a1 hE1 => wpList_nil ?_
  clear hE0
  clear a0
  refine then_normal ?_
  refine wp_seq (wp_region_lit ?_)
  refine st_val hE1 (y_move hE1 rfl) rfl fun a2 hE2 => st_val hE2 (y_move hE2 rfl) rfl fun a3 hE3 => st_val hE3 (y_geq hE3 rfl rfl) rfl fun a4 hE4 => st_val hE4 (y_move hE4 rfl) rfl fun a5 hE5 => ?_
  refine st_mid 4 (fun a w2 => ∃ r : Bool, r = ((decide (p0 ≥ p1)) && (decide (p0 ≤ p2))) ∧ SH (Old w) w w2 [] ∧ Env 15 ((14, .bool r) :: [(0, .int .i64 p0), (1, .int .i64 p1), (2, .int .i64 p2), (6, .bool false), (7, .int .i64 p0), (8, .int .i64 p1), (9, .bool (decide (p0 ≥ p1))), (10, .bool (decide (p0 ≥ p1)))]) a) ?_ ?_
  ·
    rcases Bool.eq_false_or_eq_true (decide (p0 ≥ p1)) with hb7 | hb7
    ·
      have hb7f : p0 ≥ p1 := of_decide_eq_true hb7
      refine st_run hE5 rfl rfl rfl hb7 <| st_val hE5 (y_move hE5 rfl) rfl fun a8 hE8 => st_run hE8 rfl rfl rfl hb7 <| st_val hE8 (y_move hE8 rfl) rfl fun a9 hE9 => st_run hE9 rfl rfl rfl hb7 <| st_val hE9 (y_leq hE9 rfl rfl) rfl fun a10 hE10 => st_val hE10 (y_pick_t hE10 rfl hb7 rfl) rfl fun a11 hE11 => wpList_nil ?_
      exact ⟨decide (p0 ≤ p2), by simp only [hb7, Bool.true_and, Bool.false_and, Bool.true_or, Bool.false_or, Bool.and_true, Bool.or_true, Bool.and_false, Bool.or_false], hS0, hE11.weaken ⟨rfl, rfl, rfl, rfl, rfl, rfl, rfl, rfl, rfl, trivial⟩⟩
    ·
      have hb7f : ¬ (p0 ≥ p1) := of_decide_eq_false hb7
      refine st_skip hE5 rfl rfl rfl hb7 rfl fun a12 hE12 => st_skip hE12 rfl rfl rfl hb7 rfl fun a13 hE13 => st_skip hE13 rfl rfl rfl hb7 rfl fun a14 hE14 => st_val hE14 (y_pick_f hE14 rfl hb7 rfl) rfl fun a15 hE15 => wpList_nil ?_
      exact ⟨false, by simp only [hb7, Bool.true_and, Bool.false_and, Bool.true_or, Bool.false_or, Bool.and_true, Bool.or_true, Bool.and_false, Bool.or_false], hS0, hE15.weaken ⟨rfl, rfl, rfl, rfl, rfl, rfl, rfl, rfl, rfl, trivial⟩⟩
  rintro a16 w16 ⟨r16, hr16, hS16, hE16⟩
  subst hr16
  clear hE5 hE1 hE2 hE3 hE4
  refine st_val hE16 (y_assign hE16 rfl) rfl fun a17 hE17 => wpList_nil ?_
  clear hE16
  clear a16
  refine then_normal ?_
  refine wp_ret ?_
  exact fin1 hE17 rfl rfl ⟨by rw [hM], hS16.below⟩

/- F12 loop.example/g00974/spec.AuditSeqs -/
def spec_AuditSeqs_l1 (p0 : List Entry) : Nat → Nat → Bool
  | 0, i1 => true
  | fu1 + 1, i1 => (if ((nth p0 i1).Laid) = true then (if (!decide ((nth p0 i1).Seq = IntKind.i64.wrap ((nth p0 (i1 - 1)).Seq + 1))) = true then false else spec_AuditSeqs_l1 p0 fu1 (i1 + 1) ) else (if (!decide ((nth p0 i1).Seq = IntKind.i64.wrap ((nth p0 (i1 - 1)).Seq + 0))) = true then false else spec_AuditSeqs_l1 p0 fu1 (i1 + 1) ))
def spec_AuditSeqs (p0 : List Entry) : Bool := spec_AuditSeqs_l1 p0 (p0.length - 1) 1 
theorem c_spec_AuditSeqs {v0 : Value} (p0 : List Entry) {w : World} (hp0 : SlR (Old w) w v0 p0) :
    Calls Try.prog 12 [v0].toArray w (fun e w' => e = .returned (.bool (spec_AuditSeqs p0)) ∧ Below w.heap.size w w') := by
  obtain ⟨A0, cap0, rfl, hx0⟩ := hp0.form
  refine enter Try.func12 rfl Try.ntmps12 (Nat.le_of_ble_eq_true rfl) ?_
  intro a0 hE0
  have hS0 := SH.start w
  have hM := spec_AuditSeqs.eq_1 p0
  refine wp_seq (wp_region_lit ?_)
  refine st_val hE0 (y_assign hE0 rfl) rfl fun a1 hE1 => wpList_nil ?_
  clear hE0
  clear a0
  refine then_normal ?_
  refine wp_seq (wp_seq (wp_region_lit ?_))
  refine st_val hE1 (y_assign hE1 rfl) rfl fun a2 hE2 => wpList_nil ?_
  clear hE1
  clear a1
  refine then_normal ?_
  refine wp_block (wp_loop_ghost (fun fu1 a w2 => ∃ (i1 : Nat), 1 ≤ i1 ∧ fu1 = p0.length - i1 ∧ spec_AuditSeqs p0 = spec_AuditSeqs_l1 p0 fu1 i1  ∧ Env 30 [(0, .slice A0 p0.length cap0), (3, .int .i64 (i1 : Int))] a ∧ SH (Old w) w w2 []) (p0.length - 1) ⟨1, Nat.le_refl _, rfl, hM, hE2.weaken ⟨rfl, rfl, trivial⟩, hS0⟩ ?_)
  clear hM hE2
  rintro fu1 a3 w3 ⟨i1, hi1, hfu1, hM, hE3, hS3⟩
  refine wp_seq (wp_seq (wp_region_lit ?_))
  refine st_val hE3 (y_move hE3 rfl) rfl fun a4 hE4 => st_val hE4 (y_move hE4 rfl) rfl fun a5 hE5 => st_val hE5 (y_len_slice hE5 rfl sl27) rfl fun a6 hE6 => st_val hE6 (y_lss hE6 rfl rfl) rfl fun a7 hE7 => wpList_nil ?_
  clear hE3 hE4 hE5 hE6
  clear a3 a4 a5 a6
  refine then_normal ?_
  refine cond_split hE7 rfl (fun hb8 => ?_) (fun hb8 => ?_)
  ·
    have hlt1 : i1 < p0.length := by have := of_decide_eq_true hb8; omega
    obtain ⟨fu1, rfl⟩ : ∃ m, fu1 = m + 1 := ⟨fu1 - 1, by omega⟩
    have hM := hM.trans (spec_AuditSeqs_l1.eq_2 _ _ _)
    refine wp_skip ?_
    refine then_normal ?_
    refine wp_seq (wp_block (wp_seq (wp_region_lit ?_)))
    refine st_val hE7 (y_assign hE7 rfl) rfl fun a9 hE9 => wpList_nil ?_
    clear hE7
    clear a7
    refine then_normal ?_
    refine wp_seq (wp_seq (wp_region_lit ?_))
    refine st_val hE9 (y_move hE9 rfl) rfl fun a10 hE10 => st_val hE10 (y_move hE10 rfl) rfl fun a11 hE11 => st_index hE11 hp0 rfl rfl rfl (by omega) sl27 rfl fun ad12 cs12 hr12 hc12 hl12 a13 hE13 => ?_
    obtain ⟨v12_3, v12_4, rfl, hg12_0, hg12_1, hg12_2, hv12_3, hv12_4, hg12_5, hg12_6, _⟩ := Entry_open hr12
    obtain ⟨A12_3, cp12_3, rfl, hx12_3⟩ := hv12_3.form
    obtain ⟨A12_4, cp12_4, rfl, hx12_4⟩ := hv12_4.form
    refine st_val hE13 (y_fieldAddr hE13 rfl fa74_7 rfl) rfl fun a14 hE14 => st_val hE14 (y_load_one hE14 rfl (hS3.upc hc12 hl12) rfl one4) rfl fun a15 hE15 => wpList_nil ?_
    clear hE9 hE10 hE11 hE13 hE14
    clear a9 a10 a11 a13 a14
    refine then_normal ?_
    refine cond_split hE15 rfl (fun hb16 => ?_) (fun hb16 => ?_)
    ·
      have hM := hM.trans (if_t hb16)
      refine wp_region_lit ?_
      refine st_val hE15 (y_assign hE15 rfl) rfl fun a17 hE17 => wpList_nil ?_
      clear hE15
      clear a15
      refine then_normal ?_
      refine wp_seq (reg_quiet mixed (by kernel_rfl) hS3 ?_)
      refine q_val hE17 (fun w3 hS3 => y_move hE17 rfl) rfl fun a18 hE18 => q_val hE18 (fun w3 hS3 => y_move hE18 rfl) rfl fun a19 hE19 => q_index hE19 hp0 rfl rfl rfl (by omega) sl27 rfl fun ad20 cs20 hr20 hc20 hl20 a21 hE21 => ?_
      obtain ⟨v20_3, v20_4, rfl, hg20_0, hg20_1, hg20_2, hv20_3, hv20_4, hg20_5, hg20_6, _⟩ := Entry_open hr20
      obtain ⟨A20_3, cp20_3, rfl, hx20_3⟩ := hv20_3.form
      obtain ⟨A20_4, cp20_4, rfl, hx20_4⟩ := hv20_4.form
      refine q_val hE21 (fun w3 hS3 => y_fieldAddr hE21 rfl fa74_0 rfl) rfl fun a22 hE22 => q_val hE22 (fun w3 hS3 => y_load_one hE22 rfl (hS3.upc hc20 hl20) rfl one3) rfl fun a23 hE23 => q_val hE23 (fun w3 hS3 => y_move hE23 rfl) rfl fun a24 hE24 => q_val hE24 (fun w3 hS3 => y_move hE24 rfl) rfl fun a25 hE25 => q_val hE25 (fun w3 hS3 => y_sub_in hE25 rfl rfl (m := ((i1 - 1 : Nat) : Int)) (by omega) (by omega) (by omega)) rfl fun a26 hE26 => q_index hE26 hp0 rfl rfl rfl (by omega) sl27 rfl fun ad27 cs27 hr27 hc27 hl27 a28 hE28 => ?_
      obtain ⟨v27_3, v27_4, rfl, hg27_0, hg27_1, hg27_2, hv27_3, hv27_4, hg27_5, hg27_6, _⟩ := Entry_open hr27
      obtain ⟨A27_3, cp27_3, rfl, hx27_3⟩ := hv27_3.form
      obtain ⟨A27_4, cp27_4, rfl, hx27_4⟩ := hv27_4.form
      refine q_val hE28 (fun w3 hS3 => y_fieldAddr hE28 rfl fa74_0 rfl) rfl fun a29 hE29 => q_val hE29 (fun w3 hS3 => y_load_one hE29 rfl (hS3.upc hc27 hl27) rfl one3) rfl fun a30 hE30 => q_val hE30 (fun w3 hS3 => y_move hE30 rfl) rfl fun a31 hE31 => q_val hE31 (fun w3 hS3 => y_add hE31 rfl rfl) rfl fun a32 hE32 => q_val hE32 (fun w3 hS3 => y_neq hE32 rfl rfl) rfl fun a33 hE33 => ?_
      refine q_nil fun w34 hS34 => ?_
      clear hE17 hE18 hE19 hE21 hE22 hE23 hE24 hE25 hE26 hE28 hE29 hE30 hE31 hE32
      clear a17 a18 a19 a21 a22 a23 a24 a25 a26 a28 a29 a30 a31 a32
      refine then_normal ?_
      refine cond_split hE33 rfl (fun hb35 => ?_) (fun hb35 => ?_)
      ·
        have hM := hM.trans (if_t hb35)
        have hb35f : ¬ ((nth p0 i1).Seq = IntKind.i64.wrap ((nth p0 (i1 - 1)).Seq + 1)) := by simpa using hb35
        refine wp_seq (wp_region_lit ?_)
        refine st_val hE33 (y_assign hE33 rfl) rfl fun a36 hE36 => wpList_nil ?_
        clear hE33
        clear a33
        refine then_normal ?_
        refine wp_ret ?_
        refine blk_ret ?_
        refine then_ret ?_
        refine then_ret ?_
        refine blk_ret ?_
        refine then_ret ?_
        exact fin1 hE36 rfl rfl ⟨by rw [hM], hS34.below⟩
      ·
        have hM := hM.trans (if_f hb35)
        have hb35f : (nth p0 i1).Seq = IntKind.i64.wrap ((nth p0 (i1 - 1)).Seq + 1) := by simpa using hb35
        refine wp_skip ?_
        refine blk_normal ?_
        refine then_normal ?_
        refine wp_region_lit ?_
        refine st_val hE33 (y_move hE33 rfl) rfl fun a37 hE37 => st_val hE37 (y_add_in hE37 rfl rfl (m := ((i1 + 1 : Nat) : Int)) (by omega) (by omega) (by omega)) rfl fun a38 hE38 => st_val hE38 (y_assign hE38 rfl) rfl fun a39 hE39 => wpList_nil ?_
        clear hE33 hE37 hE38
        clear a33 a37 a38
        refine then_normal ⟨fu1, Nat.lt_succ_self _, (i1 + 1), by omega, by omega, hM, hE39.weaken ⟨rfl, rfl, trivial⟩, hS34⟩
    ·
      have hM := hM.trans (if_f hb16)
      refine wp_skip ?_
      refine then_normal ?_
      refine wp_seq (reg_quiet mixed (by kernel_rfl) hS3 ?_)
      refine q_val hE15 (fun w3 hS3 => y_move hE15 rfl) rfl fun a40 hE40 => q_val hE40 (fun w3 hS3 => y_move hE40 rfl) rfl fun a41 hE41 => q_index hE41 hp0 rfl rfl rfl (by omega) sl27 rfl fun ad42 cs42 hr42 hc42 hl42 a43 hE43 => ?_
      obtain ⟨v42_3, v42_4, rfl, hg42_0, hg42_1, hg42_2, hv42_3, hv42_4, hg42_5, hg42_6, _⟩ := Entry_open hr42
      obtain ⟨A42_3, cp42_3, rfl, hx42_3⟩ := hv42_3.form
      obtain ⟨A42_4, cp42_4, rfl, hx42_4⟩ := hv42_4.form
      refine q_val hE43 (fun w3 hS3 => y_fieldAddr hE43 rfl fa74_0 rfl) rfl fun a44 hE44 => q_val hE44 (fun w3 hS3 => y_load_one hE44 rfl (hS3.upc hc42 hl42) rfl one3) rfl fun a45 hE45 => q_val hE45 (fun w3 hS3 => y_move hE45 rfl) rfl fun a46 hE46 => q_val hE46 (fun w3 hS3 => y_move hE46 rfl) rfl fun a47 hE47 => q_val hE47 (fun w3 hS3 => y_sub_in hE47 rfl rfl (m := ((i1 - 1 : Nat) : Int)) (by omega) (by omega) (by omega)) rfl fun a48 hE48 => q_index hE48 hp0 rfl rfl rfl (by omega) sl27 rfl fun ad49 cs49 hr49 hc49 hl49 a50 hE50 => ?_
      obtain ⟨v49_3, v49_4, rfl, hg49_0, hg49_1, hg49_2, hv49_3, hv49_4, hg49_5, hg49_6, _⟩ := Entry_open hr49
      obtain ⟨A49_3, cp49_3, rfl, hx49_3⟩ := hv49_3.form
      obtain ⟨A49_4, cp49_4, rfl, hx49_4⟩ := hv49_4.form
      refine q_val hE50 (fun w3 hS3 => y_fieldAddr hE50 rfl fa74_0 rfl) rfl fun a51 hE51 => q_val hE51 (fun w3 hS3 => y_load_one hE51 rfl (hS3.upc hc49 hl49) rfl one3) rfl fun a52 hE52 => q_val hE52 (fun w3 hS3 => y_move hE52 rfl) rfl fun a53 hE53 => q_val hE53 (fun w3 hS3 => y_add hE53 rfl rfl) rfl fun a54 hE54 => q_val hE54 (fun w3 hS3 => y_neq hE54 rfl rfl) rfl fun a55 hE55 => ?_
      refine q_nil fun w56 hS56 => ?_
      clear hE15 hE40 hE41 hE43 hE44 hE45 hE46 hE47 hE48 hE50 hE51 hE52 hE53 hE54
      clear a15 a40 a41 a43 a44 a45 a46 a47 a48 a50 a51 a52 a53 a54
      refine then_normal ?_
      refine cond_split hE55 rfl (fun hb57 => ?_) (fun hb57 => ?_)
      ·
        have hM := hM.trans (if_t hb57)
        have hb57f : ¬ ((nth p0 i1).Seq = IntKind.i64.wrap ((nth p0 (i1 - 1)).Seq + 0)) := by simpa using hb57
        refine wp_seq (wp_region_lit ?_)
        refine st_val hE55 (y_assign hE55 rfl) rfl fun a58 hE58 => wpList_nil ?_
        clear hE55
        clear a55
        refine then_normal ?_
        refine wp_ret ?_
        refine blk_ret ?_
        refine then_ret ?_
        refine then_ret ?_
        refine blk_ret ?_
        refine then_ret ?_
        exact fin1 hE58 rfl rfl ⟨by rw [hM], hS56.below⟩
      ·
        have hM := hM.trans (if_f hb57)
        have hb57f : (nth p0 i1).Seq = IntKind.i64.wrap ((nth p0 (i1 - 1)).Seq + 0) := by simpa using hb57
        refine wp_skip ?_
        refine blk_normal ?_
        refine then_normal ?_
        refine wp_region_lit ?_
        refine st_val hE55 (y_move hE55 rfl) rfl fun a59 hE59 => st_val hE59 (y_add_in hE59 rfl rfl (m := ((i1 + 1 : Nat) : Int)) (by omega) (by omega) (by omega)) rfl fun a60 hE60 => st_val hE60 (y_assign hE60 rfl) rfl fun a61 hE61 => wpList_nil ?_
        clear hE55 hE59 hE60
        clear a55 a59 a60
        refine then_normal ⟨fu1, Nat.lt_succ_self _, (i1 + 1), by omega, by omega, hM, hE61.weaken ⟨rfl, rfl, trivial⟩, hS56⟩
  ·
    have hge1 : ¬ i1 < p0.length := by have := of_decide_eq_false hb8; omega
    obtain rfl : fu1 = 0 := by omega
    have hM := hM.trans (spec_AuditSeqs_l1.eq_1 _ _)
    refine wp_exit ?_
    refine then_exit ?_
    refine then_exit ?_
    refine blk_exit ?_
    refine then_normal ?_
    refine wp_seq (wp_region_lit ?_)
    refine st_val hE7 (y_assign hE7 rfl) rfl fun a62 hE62 => wpList_nil ?_
    clear hE7
    clear a7
    refine then_normal ?_
    refine wp_ret ?_
    exact fin1 hE62 rfl rfl ⟨by rw [hM], hS3.below⟩

/- F14 loop.example/g00974/impl.AuditSeqs -/
def impl_AuditSeqs_l1 (p0 : List Entry) : Nat → Nat → Bool
  | 0, i1 => true
  | fu1 + 1, i1 => (if ((nth p0 i1).Laid) = true then (if (!decide ((nth p0 i1).Seq = IntKind.i64.wrap ((nth p0 (i1 - 1)).Seq + 1))) = true then false else impl_AuditSeqs_l1 p0 fu1 (i1 + 1) ) else (if (!decide ((nth p0 i1).Seq = (nth p0 (i1 - 1)).Seq)) = true then false else impl_AuditSeqs_l1 p0 fu1 (i1 + 1) ))
def impl_AuditSeqs (p0 : List Entry) : Bool := impl_AuditSeqs_l1 p0 (p0.length - 1) 1 
theorem c_impl_AuditSeqs {v0 : Value} (p0 : List Entry) {w : World} (hp0 : SlR (Old w) w v0 p0) :
    Calls Try.prog 14 [v0].toArray w (fun e w' => e = .returned (.bool (impl_AuditSeqs p0)) ∧ Below w.heap.size w w') := by
  obtain ⟨A0, cap0, rfl, hx0⟩ := hp0.form
  refine enter Try.func14 rfl Try.ntmps14 (Nat.le_of_ble_eq_true rfl) ?_
  intro a0 hE0
  have hS0 := SH.start w
  have hM := impl_AuditSeqs.eq_1 p0
  refine wp_seq (wp_region_lit ?_)
  refine st_val hE0 (y_assign hE0 rfl) rfl fun a1 hE1 => wpList_nil ?_
  clear hE0
  clear a0
  refine then_normal ?_
  refine wp_seq (wp_seq (wp_region_lit ?_))
  refine st_val hE1 (y_assign hE1 rfl) rfl fun a2 hE2 => wpList_nil ?_
  clear hE1
  clear a1
  refine then_normal ?_
  refine wp_block (wp_loop_ghost (fun fu1 a w2 => ∃ (i1 : Nat), 1 ≤ i1 ∧ fu1 = p0.length - i1 ∧ impl_AuditSeqs p0 = impl_AuditSeqs_l1 p0 fu1 i1  ∧ Env 31 [(0, .slice A0 p0.length cap0), (3, .int .i64 (i1 : Int))] a ∧ SH (Old w) w w2 []) (p0.length - 1) ⟨1, Nat.le_refl _, rfl, hM, hE2.weaken ⟨rfl, rfl, trivial⟩, hS0⟩ ?_)
  clear hM hE2
  rintro fu1 a3 w3 ⟨i1, hi1, hfu1, hM, hE3, hS3⟩
  refine wp_seq (wp_seq (wp_region_lit ?_))
  refine st_val hE3 (y_move hE3 rfl) rfl fun a4 hE4 => st_val hE4 (y_move hE4 rfl) rfl fun a5 hE5 => st_val hE5 (y_len_slice hE5 rfl sl27) rfl fun a6 hE6 => st_val hE6 (y_lss hE6 rfl rfl) rfl fun a7 hE7 => wpList_nil ?_
  clear hE3 hE4 hE5 hE6
  clear a3 a4 a5 a6
  refine then_normal ?_
  refine cond_split hE7 rfl (fun hb8 => ?_) (fun hb8 => ?_)
  ·
    have hlt1 : i1 < p0.length := by have := of_decide_eq_true hb8; omega
    obtain ⟨fu1, rfl⟩ : ∃ m, fu1 = m + 1 := ⟨fu1 - 1, by omega⟩
    have hM := hM.trans (impl_AuditSeqs_l1.eq_2 _ _ _)
    refine wp_skip ?_
    refine then_normal ?_
    refine wp_seq (wp_block (wp_seq (wp_region_lit ?_)))
    refine st_val hE7 (y_move hE7 rfl) rfl fun a9 hE9 => st_val hE9 (y_move hE9 rfl) rfl fun a10 hE10 => st_val hE10 (y_sub_in hE10 rfl rfl (m := ((i1 - 1 : Nat) : Int)) (by omega) (by omega) (by omega)) rfl fun a11 hE11 => st_index hE11 hp0 rfl rfl rfl (by omega) sl27 rfl fun ad12 cs12 hr12 hc12 hl12 a13 hE13 => ?_
    obtain ⟨v12_3, v12_4, rfl, hg12_0, hg12_1, hg12_2, hv12_3, hv12_4, hg12_5, hg12_6, _⟩ := Entry_open hr12
    obtain ⟨A12_3, cp12_3, rfl, hx12_3⟩ := hv12_3.form
    obtain ⟨A12_4, cp12_4, rfl, hx12_4⟩ := hv12_4.form
    refine st_val hE13 (y_fieldAddr hE13 rfl fa74_0 rfl) rfl fun a14 hE14 => st_val hE14 (y_load_one hE14 rfl (hS3.upc hc12 hl12) rfl one3) rfl fun a15 hE15 => st_val hE15 (y_assign hE15 rfl) rfl fun a16 hE16 => wpList_nil ?_
    clear hE7 hE9 hE10 hE11 hE13 hE14 hE15
    clear a7 a9 a10 a11 a13 a14 a15
    refine then_normal ?_
    refine wp_seq (wp_seq (wp_region_lit ?_))
    refine st_val hE16 (y_move hE16 rfl) rfl fun a17 hE17 => st_val hE17 (y_move hE17 rfl) rfl fun a18 hE18 => st_index hE18 hp0 rfl rfl rfl (by omega) sl27 rfl fun ad19 cs19 hr19 hc19 hl19 a20 hE20 => ?_
    obtain ⟨v19_3, v19_4, rfl, hg19_0, hg19_1, hg19_2, hv19_3, hv19_4, hg19_5, hg19_6, _⟩ := Entry_open hr19
    obtain ⟨A19_3, cp19_3, rfl, hx19_3⟩ := hv19_3.form
    obtain ⟨A19_4, cp19_4, rfl, hx19_4⟩ := hv19_4.form
    refine st_val hE20 (y_fieldAddr hE20 rfl fa74_7 rfl) rfl fun a21 hE21 => st_val hE21 (y_load_one hE21 rfl (hS3.upc hc19 hl19) rfl one4) rfl fun a22 hE22 => wpList_nil ?_
    clear hE16 hE17 hE18 hE20 hE21
    clear a16 a17 a18 a20 a21
    refine then_normal ?_
    refine cond_split hE22 rfl (fun hb23 => ?_) (fun hb23 => ?_)
    ·
      have hM := hM.trans (if_t hb23)
      refine wp_region_lit ?_
      refine st_val hE22 (y_move hE22 rfl) rfl fun a24 hE24 => st_val hE24 (y_add hE24 rfl rfl) rfl fun a25 hE25 => st_val hE25 (y_assign hE25 rfl) rfl fun a26 hE26 => wpList_nil ?_
      clear hE22 hE24 hE25
      clear a22 a24 a25
      refine then_normal ?_
      refine wp_seq (wp_region_lit ?_)
      refine st_val hE26 (y_move hE26 rfl) rfl fun a27 hE27 => st_val hE27 (y_move hE27 rfl) rfl fun a28 hE28 => st_index hE28 hp0 rfl rfl rfl (by omega) sl27 rfl fun ad29 cs29 hr29 hc29 hl29 a30 hE30 => ?_
      obtain ⟨v29_3, v29_4, rfl, hg29_0, hg29_1, hg29_2, hv29_3, hv29_4, hg29_5, hg29_6, _⟩ := Entry_open hr29
      obtain ⟨A29_3, cp29_3, rfl, hx29_3⟩ := hv29_3.form
      obtain ⟨A29_4, cp29_4, rfl, hx29_4⟩ := hv29_4.form
      refine st_val hE30 (y_fieldAddr hE30 rfl fa74_0 rfl) rfl fun a31 hE31 => st_val hE31 (y_load_one hE31 rfl (hS3.upc hc29 hl29) rfl one3) rfl fun a32 hE32 => st_val hE32 (y_move hE32 rfl) rfl fun a33 hE33 => st_val hE33 (y_neq hE33 rfl rfl) rfl fun a34 hE34 => wpList_nil ?_
      clear hE26 hE27 hE28 hE30 hE31 hE32 hE33
      clear a26 a27 a28 a30 a31 a32 a33
      refine then_normal ?_
      refine cond_split hE34 rfl (fun hb35 => ?_) (fun hb35 => ?_)
      ·
        have hM := hM.trans (if_t hb35)
        have hb35f : ¬ ((nth p0 i1).Seq = IntKind.i64.wrap ((nth p0 (i1 - 1)).Seq + 1)) := by simpa using hb35
        refine wp_seq (wp_region_lit ?_)
        refine st_val hE34 (y_assign hE34 rfl) rfl fun a36 hE36 => wpList_nil ?_
        clear hE34
        clear a34
        refine then_normal ?_
        refine wp_ret ?_
        refine blk_ret ?_
        refine then_ret ?_
        refine then_ret ?_
        refine blk_ret ?_
        refine then_ret ?_
        exact fin1 hE36 rfl rfl ⟨by rw [hM], hS3.below⟩
      ·
        have hM := hM.trans (if_f hb35)
        have hb35f : (nth p0 i1).Seq = IntKind.i64.wrap ((nth p0 (i1 - 1)).Seq + 1) := by simpa using hb35
        refine wp_skip ?_
        refine blk_normal ?_
        refine then_normal ?_
        refine wp_region_lit ?_
        refine st_val hE34 (y_move hE34 rfl) rfl fun a37 hE37 => st_val hE37 (y_add_in hE37 rfl rfl (m := ((i1 + 1 : Nat) : Int)) (by omega) (by omega) (by omega)) rfl fun a38 hE38 => st_val hE38 (y_assign hE38 rfl) rfl fun a39 hE39 => wpList_nil ?_
        clear hE34 hE37 hE38
        clear a34 a37 a38
        refine then_normal ⟨fu1, Nat.lt_succ_self _, (i1 + 1), by omega, by omega, hM, hE39.weaken ⟨rfl, rfl, trivial⟩, hS3⟩
    ·
      have hM := hM.trans (if_f hb23)
      refine wp_skip ?_
      refine then_normal ?_
      refine wp_seq (wp_region_lit ?_)
      refine st_val hE22 (y_move hE22 rfl) rfl fun a40 hE40 => st_val hE40 (y_move hE40 rfl) rfl fun a41 hE41 => st_index hE41 hp0 rfl rfl rfl (by omega) sl27 rfl fun ad42 cs42 hr42 hc42 hl42 a43 hE43 => ?_
      obtain ⟨v42_3, v42_4, rfl, hg42_0, hg42_1, hg42_2, hv42_3, hv42_4, hg42_5, hg42_6, _⟩ := Entry_open hr42
      obtain ⟨A42_3, cp42_3, rfl, hx42_3⟩ := hv42_3.form
      obtain ⟨A42_4, cp42_4, rfl, hx42_4⟩ := hv42_4.form
      refine st_val hE43 (y_fieldAddr hE43 rfl fa74_0 rfl) rfl fun a44 hE44 => st_val hE44 (y_load_one hE44 rfl (hS3.upc hc42 hl42) rfl one3) rfl fun a45 hE45 => st_val hE45 (y_move hE45 rfl) rfl fun a46 hE46 => st_val hE46 (y_neq hE46 rfl rfl) rfl fun a47 hE47 => wpList_nil ?_
      clear hE22 hE40 hE41 hE43 hE44 hE45 hE46
      clear a22 a40 a41 a43 a44 a45 a46
      refine then_normal ?_
      refine cond_split hE47 rfl (fun hb48 => ?_) (fun hb48 => ?_)
      ·
        have hM := hM.trans (if_t hb48)
        have hb48f : ¬ ((nth p0 i1).Seq = (nth p0 (i1 - 1)).Seq) := by simpa using hb48
        refine wp_seq (wp_region_lit ?_)
        refine st_val hE47 (y_assign hE47 rfl) rfl fun a49 hE49 => wpList_nil ?_
        clear hE47
        clear a47
        refine then_normal ?_
        refine wp_ret ?_
        refine blk_ret ?_
        refine then_ret ?_
        refine then_ret ?_
        refine blk_ret ?_
        refine then_ret ?_
        exact fin1 hE49 rfl rfl ⟨by rw [hM], hS3.below⟩
      ·
        have hM := hM.trans (if_f hb48)
        have hb48f : (nth p0 i1).Seq = (nth p0 (i1 - 1)).Seq := by simpa using hb48
        refine wp_skip ?_
        refine blk_normal ?_
        refine then_normal ?_
        refine wp_region_lit ?_
        refine st_val hE47 (y_move hE47 rfl) rfl fun a50 hE50 => st_val hE50 (y_add_in hE50 rfl rfl (m := ((i1 + 1 : Nat) : Int)) (by omega) (by omega) (by omega)) rfl fun a51 hE51 => st_val hE51 (y_assign hE51 rfl) rfl fun a52 hE52 => wpList_nil ?_
        clear hE47 hE50 hE51
        clear a47 a50 a51
        refine then_normal ⟨fu1, Nat.lt_succ_self _, (i1 + 1), by omega, by omega, hM, hE52.weaken ⟨rfl, rfl, trivial⟩, hS3⟩
  ·
    have hge1 : ¬ i1 < p0.length := by have := of_decide_eq_false hb8; omega
    obtain rfl : fu1 = 0 := by omega
    have hM := hM.trans (impl_AuditSeqs_l1.eq_1 _ _)
    refine wp_exit ?_
    refine then_exit ?_
    refine then_exit ?_
    refine blk_exit ?_
    refine then_normal ?_
    refine wp_seq (wp_region_lit ?_)
    refine st_val hE7 (y_assign hE7 rfl) rfl fun a53 hE53 => wpList_nil ?_
    clear hE7
    clear a7
    refine then_normal ?_
    refine wp_ret ?_
    exact fin1 hE53 rfl rfl ⟨by rw [hM], hS3.below⟩

theorem impl_within_t {a b c : Int} (h : impl_within a b c = true) : b ≤ a ∧ a ≤ c := by simpa [impl_within] using h
theorem spec_l01In_t {a b c : Int} (h : spec_l01In a b c = true) : b ≤ a ∧ a ≤ c := by simpa [spec_l01In] using h

end Go.Proofs.Ytpfnofdaaekglaa.Fw
