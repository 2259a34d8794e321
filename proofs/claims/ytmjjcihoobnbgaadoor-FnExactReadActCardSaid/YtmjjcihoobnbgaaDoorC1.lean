/- Contracts: each call returns what the model says. By program (wip/gen). -/
import Derived.Test.YtmjjcihoobnbgaaDoorJ2
namespace Go.Proofs.YtmjjcihoobnbgaaDoor.Fw
open Go.RowKit
set_option linter.unusedVariables false
set_option linter.unusedSimpArgs false



/- F45 loop.example/g00974/impl.within -/
def impl_within (p0 : Int) (p1 : Int) (p2 : Int) : Bool := (decide (p0 ≥ p1)) && (decide (p0 ≤ p2))
theorem c_impl_within (p0 : Int) (p1 : Int) (p2 : Int) {w : World}  :
    Calls Tryd.prog 45 [.int .i64 p0, .int .i64 p1, .int .i64 p2].toArray w (fun e w' => e = .returned (.bool (impl_within p0 p1 p2)) ∧ Below w.heap.size w w') := by
  refine enter Tryd.func45 rfl Tryd.ntmps45 (Nat.le_of_ble_eq_true rfl) ?_
  intro a0 hE0
  have hS0 := SH.start w
  have hM := impl_within.eq_1 p0 p1 p2
  refine wp_seq (wp_region_lit ?_)
  refine st_val hE0 (y_assign hE0 rfl) rfl fun a1 hE1 => wpList_nil ?_
  clear hE0
  clear a0
  refine then_normal ?_
  refine wp_seq (wp_region_lit ?_)
  refine st_val hE1 (y_move hE1 rfl) rfl fun a2 hE2 => st_val hE2 (y_move hE2 rfl) rfl fun a3 hE3 => st_val hE3 (y_geq hE3 rfl rfl) rfl fun a4 hE4 => st_val hE4 (y_move hE4 rfl) rfl fun a5 hE5 => ?_
  refine st_mid 4 (fun a w2 => ∃ r : Bool, r = ((decide (p0 ≥ p1)) && (decide (p0 ≤ p2))) ∧ SH (Old w) w w2 [] ∧ Env 15 ((14, .bool r) :: [(0, .int .i64 p0), (1, .int .i64 p1), (2, .int .i64 p2), (6, .bool false), (7, .int .i64 p0), (8, .int .i64 p1), (9, .bool (decide (p0 ≥ p1))), (10, .bool (decide (p0 ≥ p1)))]) a) ?_ ?_
  ·
    rcases Bool.eq_false_or_eq_true (decide (p0 ≥ p1)) with hb7 | hb7
    ·
      have hb7f : p0 ≥ p1 := of_decide_eq_true hb7
      refine st_run hE5 rfl rfl rfl hb7 <| st_val hE5 (y_move hE5 rfl) rfl fun a8 hE8 => st_run hE8 rfl rfl rfl hb7 <| st_val hE8 (y_move hE8 rfl) rfl fun a9 hE9 => st_run hE9 rfl rfl rfl hb7 <| st_val hE9 (y_leq hE9 rfl rfl) rfl fun a10 hE10 => st_val hE10 (y_pick_t hE10 rfl hb7 rfl) rfl fun a11 hE11 => wpList_nil ?_
      exact ⟨decide (p0 ≤ p2), by simp only [hb7, Bool.true_and, Bool.false_and, Bool.true_or, Bool.false_or, Bool.and_true, Bool.or_true, Bool.and_false, Bool.or_false], hS0, hE11.weaken ⟨rfl, rfl, rfl, rfl, rfl, rfl, rfl, rfl, rfl, trivial⟩⟩
    ·
      have hb7f : ¬ (p0 ≥ p1) := of_decide_eq_false hb7
      refine st_skip hE5 rfl rfl rfl hb7 rfl fun a12 hE12 => st_skip hE12 rfl rfl rfl hb7 rfl fun a13 hE13 => st_skip hE13 rfl rfl rfl hb7 rfl fun a14 hE14 => st_val hE14 (y_pick_f hE14 rfl hb7 rfl) rfl fun a15 hE15 => wpList_nil ?_
      exact ⟨false, by simp only [hb7, Bool.true_and, Bool.false_and, Bool.true_or, Bool.false_or, Bool.and_true, Bool.or_true, Bool.and_false, Bool.or_false], hS0, hE15.weaken ⟨rfl, rfl, rfl, rfl, rfl, rfl, rfl, rfl, rfl, trivial⟩⟩
  rintro a16 w16 ⟨r16, hr16, hS16, hE16⟩
  subst hr16
  clear hE5 hE1 hE2 hE3 hE4
  refine st_val hE16 (y_assign hE16 rfl) rfl fun a17 hE17 => wpList_nil ?_
  clear hE16
  clear a16
  refine then_normal ?_
  refine wp_ret ?_
  exact fin1 hE17 rfl rfl ⟨by rw [hM], hS16.below⟩

/- F46 loop.example/g00974/spec.l01In -/
def spec_l01In (p0 : Int) (p1 : Int) (p2 : Int) : Bool := (decide (p0 ≥ p1)) && (decide (p0 ≤ p2))
theorem c_spec_l01In (p0 : Int) (p1 : Int) (p2 : Int) {w : World}  :
    Calls Tryd.prog 46 [.int .i64 p0, .int .i64 p1, .int .i64 p2].toArray w (fun e w' => e = .returned (.bool (spec_l01In p0 p1 p2)) ∧ Below w.heap.size w w') := by
  refine enter Tryd.func46 rfl Tryd.ntmps46 (Nat.le_of_ble_eq_true rfl) ?_
  intro a0 hE0
  have hS0 := SH.start w
  have hM := spec_l01In.eq_1 p0 p1 p2
  refine wp_seq (wp_region_lit ?_)
  refine st_val hE0 (y_assign hE0 rfl) rfl fun a1 hE1 => wpList_nil ?_
  clear hE0
  clear a0
  refine then_normal ?_
  refine wp_seq (wp_region_lit ?_)
  refine st_val hE1 (y_move hE1 rfl) rfl fun a2 hE2 => st_val hE2 (y_move hE2 rfl) rfl fun a3 hE3 => st_val hE3 (y_geq hE3 rfl rfl) rfl fun a4 hE4 => st_val hE4 (y_move hE4 rfl) rfl fun a5 hE5 => ?_
  refine st_mid 4 (fun a w2 => ∃ r : Bool, r = ((decide (p0 ≥ p1)) && (decide (p0 ≤ p2))) ∧ SH (Old w) w w2 [] ∧ Env 15 ((14, .bool r) :: [(0, .int .i64 p0), (1, .int .i64 p1), (2, .int .i64 p2), (6, .bool false), (7, .int .i64 p0), (8, .int .i64 p1), (9, .bool (decide (p0 ≥ p1))), (10, .bool (decide (p0 ≥ p1)))]) a) ?_ ?_
  ·
    rcases Bool.eq_false_or_eq_true (decide (p0 ≥ p1)) with hb7 | hb7
    ·
      have hb7f : p0 ≥ p1 := of_decide_eq_true hb7
      refine st_run hE5 rfl rfl rfl hb7 <| st_val hE5 (y_move hE5 rfl) rfl fun a8 hE8 => st_run hE8 rfl rfl rfl hb7 <| st_val hE8 (y_move hE8 rfl) rfl fun a9 hE9 => st_run hE9 rfl rfl rfl hb7 <| st_val hE9 (y_leq hE9 rfl rfl) rfl fun a10 hE10 => st_val hE10 (y_pick_t hE10 rfl hb7 rfl) rfl fun a11 hE11 => wpList_nil ?_
      exact ⟨decide (p0 ≤ p2), by simp only [hb7, Bool.true_and, Bool.false_and, Bool.true_or, Bool.false_or, Bool.and_true, Bool.or_true, Bool.and_false, Bool.or_false], hS0, hE11.weaken ⟨rfl, rfl, rfl, rfl, rfl, rfl, rfl, rfl, rfl, trivial⟩⟩
    ·
      have hb7f : ¬ (p0 ≥ p1) := of_decide_eq_false hb7
      refine st_skip hE5 rfl rfl rfl hb7 rfl fun a12 hE12 => st_skip hE12 rfl rfl rfl hb7 rfl fun a13 hE13 => st_skip hE13 rfl rfl rfl hb7 rfl fun a14 hE14 => st_val hE14 (y_pick_f hE14 rfl hb7 rfl) rfl fun a15 hE15 => wpList_nil ?_
      exact ⟨false, by simp only [hb7, Bool.true_and, Bool.false_and, Bool.true_or, Bool.false_or, Bool.and_true, Bool.or_true, Bool.and_false, Bool.or_false], hS0, hE15.weaken ⟨rfl, rfl, rfl, rfl, rfl, rfl, rfl, rfl, rfl, trivial⟩⟩
  rintro a16 w16 ⟨r16, hr16, hS16, hE16⟩
  subst hr16
  clear hE5 hE1 hE2 hE3 hE4
  refine st_val hE16 (y_assign hE16 rfl) rfl fun a17 hE17 => wpList_nil ?_
  clear hE16
  clear a16
  refine then_normal ?_
  refine wp_ret ?_
  exact fin1 hE17 rfl rfl ⟨by rw [hM], hS16.below⟩

theorem impl_within_t {a b c : Int} (h : impl_within a b c = true) : b ≤ a ∧ a ≤ c := by simpa [impl_within] using h
theorem spec_l01In_t {a b c : Int} (h : spec_l01In a b c = true) : b ≤ a ∧ a ≤ c := by simpa [spec_l01In] using h

end Go.Proofs.YtmjjcihoobnbgaaDoor.Fw
