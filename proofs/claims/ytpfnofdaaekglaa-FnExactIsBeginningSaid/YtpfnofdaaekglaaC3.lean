/- Contracts: each call returns what the model says. By program (wip/gen). -/
import Derived.Test.YtpfnofdaaekglaaC1
namespace Go.Proofs.Ytpfnofdaaekglaa.Fw
open Go.RowKit
set_option linter.unusedVariables false
set_option linter.unusedSimpArgs false

theorem eg82 : Try.prog.eqGuardType Try.prog.depth 82 = false := by kernel_rfl
theorem eg84 : Try.prog.eqGuardType Try.prog.depth 84 = false := by kernel_rfl
theorem eqs82 : ∀ (d : Nat) (x y : Step) (w : World), (Op.equalIn (d + 10) 82 (.agg [.int .i64 x.Proc, .int .i64 x.Call.Kind, .string x.Call.Name, .string x.Call.To, .int .i64 x.Call.A, .int .i64 x.Call.B, .string x.Call.Text].toArray) (.agg [.int .i64 y.Proc, .int .i64 y.Call.Kind, .string y.Call.Name, .string y.Call.To, .int .i64 y.Call.A, .int .i64 y.Call.B, .string y.Call.Text].toArray)).run Try.prog w = .ok (decide (x = y)) w := by
  intro d x y w
  have u3 := Try.underlying3
  have a3 := Try.isAgg3
  have z3 := Try.sizeOf3
  have u9 := Try.underlying9
  have a9 := Try.isAgg9
  have z9 := Try.sizeOf9
  have u80 := Try.underlying80
  have a80 := Try.isAgg80
  have z80 := Try.sizeOf80
  have hS : Try.prog.underlying 82 = some (.struct (Try.prog.fieldsOf 82)) := by kernel_rfl
  have hp : Try.prog.stoodInHeld 82 = false := by kernel_rfl
  rw [run_equalIn_agg w (d + 9) 82 _ _ hS hp]
  simp only [Program.fieldsOf, Try.underlying82]
  obtain ⟨z1, ⟨z2, z3, z4, z5, z6, z7⟩⟩ := x
  obtain ⟨z8, ⟨z9, z10, z11, z12, z13, z14⟩⟩ := y
  go_simp
  simp only [bt_inj]
  repeat' split
  all_goals simp_all
theorem eqs84 : ∀ (d : Nat) (x y : Answer) (w : World), (Op.equalIn (d + 10) 84 (.agg [.int .i64 x.Code, .int .i64 x.N, .string x.Text].toArray) (.agg [.int .i64 y.Code, .int .i64 y.N, .string y.Text].toArray)).run Try.prog w = .ok (decide (x = y)) w := by
  intro d x y w
  have u3 := Try.underlying3
  have a3 := Try.isAgg3
  have z3 := Try.sizeOf3
  have u9 := Try.underlying9
  have a9 := Try.isAgg9
  have z9 := Try.sizeOf9
  have hS : Try.prog.underlying 84 = some (.struct (Try.prog.fieldsOf 84)) := by kernel_rfl
  have hp : Try.prog.stoodInHeld 84 = false := by kernel_rfl
  rw [run_equalIn_agg w (d + 9) 84 _ _ hS hp]
  simp only [Program.fieldsOf, Try.underlying84]
  obtain ⟨z1, z2, z3⟩ := x
  obtain ⟨z4, z5, z6⟩ := y
  go_simp
  simp only [bt_inj]
  repeat' split
  all_goals simp_all
theorem fb104 : Try.f104.body.isNone = false := rfl
theorem fb105 : Try.f105.body.isNone = false := rfl
theorem fb39 : Try.f39.body.isNone = false := rfl
theorem fb40 : Try.f40.body.isNone = false := rfl
theorem fb63 : Try.f63.body.isNone = false := rfl
theorem fb64 : Try.f64.body.isNone = false := rfl
theorem fb65 : Try.f65.body.isNone = false := rfl
theorem fb86 : Try.f86.body.isNone = false := rfl
theorem fb87 : Try.f87.body.isNone = false := rfl
theorem fb88 : Try.f88.body.isNone = false := rfl
theorem fb89 : Try.f89.body.isNone = false := rfl
theorem fn104 : (Try.f104.name == "runtime.NumGoroutine") = false := by kernel_rfl
theorem fn105 : (Try.f105.name == "runtime.NumGoroutine") = false := by kernel_rfl
theorem fn39 : (Try.f39.name == "runtime.NumGoroutine") = false := by kernel_rfl
theorem fn40 : (Try.f40.name == "runtime.NumGoroutine") = false := by kernel_rfl
theorem fn63 : (Try.f63.name == "runtime.NumGoroutine") = false := by kernel_rfl
theorem fn64 : (Try.f64.name == "runtime.NumGoroutine") = false := by kernel_rfl
theorem fn65 : (Try.f65.name == "runtime.NumGoroutine") = false := by kernel_rfl
theorem fn86 : (Try.f86.name == "runtime.NumGoroutine") = false := by kernel_rfl
theorem fn87 : (Try.f87.name == "runtime.NumGoroutine") = false := by kernel_rfl
theorem fn88 : (Try.f88.name == "runtime.NumGoroutine") = false := by kernel_rfl
theorem fn89 : (Try.f89.name == "runtime.NumGoroutine") = false := by kernel_rfl
theorem fok65 : FnOk Try.prog 65 := ⟨_, Try.func65, rfl, by kernel_rfl⟩

/- F64 slices.EqualFunc[[]loop.example/g00974/impl.Entry,[]loop.example/g00974/impl.Entry,loop.example/g00974/impl.Entry,loop.example/g00974/impl.Entry] -/
def slices_EqualFunc_Entry_l1 (p0 : List Entry) (p1 : List Entry) (p2 : Entry → Entry → Bool) : Nat → Nat → Bool
  | 0, i1 => true
  | fu1 + 1, i1 => (if (!(p2 (nth p0 i1) (nth p1 i1))) = true then false else slices_EqualFunc_Entry_l1 p0 p1 p2 fu1 (i1 + 1) )
def slices_EqualFunc_Entry (p0 : List Entry) (p1 : List Entry) (p2 : Entry → Entry → Bool) : Bool := (if (!decide ((p0.length : Int) = (p1.length : Int))) = true then false else slices_EqualFunc_Entry_l1 p0 p1 p2 (p0.length - 0) 0 )
theorem c_slices_EqualFunc_Entry {v0 : Value} (p0 : List Entry) {v1 : Value} (p1 : List Entry) (fi2 : FuncId) (fc2 : List Value) (p2 : Entry → Entry → Bool) {w : World} (hp0 : SlR (Old w) w v0 p0) (hp1 : SlR (Old w) w v1 p1) (hk2 : FnOk Try.prog fi2) (hf2 : ∀ (x0 : Entry) (k0 : List Value) (x1 : Entry) (k1 : List Value) (w1 : World), Below w.heap.size w w1 → Dat.rd (Old w1) w1 k0 x0 → Dat.rd (Old w1) w1 k1 x1 → Calls Try.prog fi2 ([Value.agg k0.toArray, Value.agg k1.toArray] ++ fc2).toArray w1 (fun e w2 => e = .returned (.bool (p2 x0 x1)) ∧ Below w1.heap.size w1 w2)) :
    Calls Try.prog 64 [v0, v1, .func (.func fi2) #[] fc2.toArray].toArray w (fun e w' => e = .returned (.bool (slices_EqualFunc_Entry p0 p1 p2)) ∧ Below w.heap.size w w') := by
  obtain ⟨A0, cap0, rfl, hx0⟩ := hp0.form
  obtain ⟨A1, cap1, rfl, hx1⟩ := hp1.form
  refine enter Try.func64 rfl Try.ntmps64 (Nat.le_of_ble_eq_true rfl) ?_
  intro a0 hE0
  have hS0 := SH.start w
  have hM := slices_EqualFunc_Entry.eq_1 p0 p1 p2
  refine wp_seq (wp_region_lit ?_)
  refine st_val hE0 (y_assign hE0 rfl) rfl fun a1 hE1 => wpList_nil ?_
  clear hE0
  clear a0
  refine then_normal ?_
  refine wp_seq (wp_seq (wp_region_lit ?_))
  refine st_val hE1 (y_move hE1 rfl) rfl fun a2 hE2 => st_val hE2 (y_len_slice hE2 rfl sl27) rfl fun a3 hE3 => st_val hE3 (y_move hE3 rfl) rfl fun a4 hE4 => st_val hE4 (y_len_slice hE4 rfl sl27) rfl fun a5 hE5 => st_val hE5 (y_neq hE5 rfl rfl) rfl fun a6 hE6 => wpList_nil ?_
  clear hE1 hE2 hE3 hE4 hE5
  clear a1 a2 a3 a4 a5
  refine then_normal ?_
  refine cond_split hE6 rfl (fun hb7 => ?_) (fun hb7 => ?_)
  ·
    have hM := hM.trans (if_t hb7)
    have hb7f : ¬ ((p0.length : Int) = (p1.length : Int)) := by simpa using hb7
    refine wp_seq (wp_region_lit ?_)
    refine st_val hE6 (y_assign hE6 rfl) rfl fun a8 hE8 => wpList_nil ?_
    clear hE6
    clear a6
    refine then_normal ?_
    refine wp_ret ?_
    refine then_ret ?_
    exact fin1 hE8 rfl rfl ⟨by rw [hM], hS0.below⟩
  ·
    have hM := hM.trans (if_f hb7)
    have hb7f : (p0.length : Int) = (p1.length : Int) := by simpa using hb7
    refine wp_skip ?_
    refine then_normal ?_
    refine wp_seq (wp_seq (wp_region_lit ?_))
    refine st_val hE6 (y_move hE6 rfl) rfl fun a9 hE9 => st_val hE9 (y_len_slice hE9 rfl sl27) rfl fun a10 hE10 => st_val hE10 (y_move hE10 rfl) rfl fun a11 hE11 => wpList_nil ?_
    clear hE6 hE9 hE10
    clear a6 a9 a10
    refine then_normal ?_
    refine wp_block (wp_loop_ghost (fun fu1 a w2 => ∃ (i1 : Nat), 0 ≤ i1 ∧ fu1 = p0.length - i1 ∧ slices_EqualFunc_Entry p0 p1 p2 = slices_EqualFunc_Entry_l1 p0 p1 p2 fu1 i1  ∧ Env 32 [(1, .slice A1 p1.length cap1), (2, .func (.func fi2) #[] fc2.toArray), (15, .slice A0 p0.length cap0), (16, .int .i64 (p0.length : Int)), (17, .int .i64 (i1 : Int))] a ∧ SH (Old w) w w2 []) (p0.length - 0) ⟨0, Nat.le_refl _, rfl, hM, hE11.weaken ⟨rfl, rfl, rfl, rfl, rfl, trivial⟩, hS0⟩ ?_)
    clear hM hE11
    rintro fu1 a12 w12 ⟨i1, hi1, hfu1, hM, hE12, hS12⟩
    refine wp_seq (wp_region_lit ?_)
    refine st_val hE12 (y_lss hE12 rfl rfl) rfl fun a13 hE13 => wpList_nil ?_
    clear hE12
    clear a12
    refine then_normal ?_
    refine wp_seq (cond_split hE13 rfl (fun hb14 => ?_) (fun hb14 => ?_))
    ·
      have hlt1 : i1 < p0.length := by have := of_decide_eq_true hb14; omega
      obtain ⟨fu1, rfl⟩ : ∃ m, fu1 = m + 1 := ⟨fu1 - 1, by omega⟩
      have hM := hM.trans (slices_EqualFunc_Entry_l1.eq_2 _ _ _ _ _)
      refine wp_skip ?_
      refine then_normal ?_
      refine wp_seq (wp_block (wp_seq (wp_region_lit ?_)))
      refine st_val hE13 (y_move hE13 rfl) rfl fun a15 hE15 => st_index hE15 hp0 rfl rfl rfl (by omega) sl27 rfl fun ad16 cs16 hr16 hc16 hl16 a17 hE17 => ?_
      obtain ⟨v16_3, v16_4, rfl, hg16_0, hg16_1, hg16_2, hv16_3, hv16_4, hg16_5, hg16_6, _⟩ := Entry_open hr16
      obtain ⟨A16_3, cp16_3, rfl, hx16_3⟩ := hv16_3.form
      obtain ⟨A16_4, cp16_4, rfl, hx16_4⟩ := hv16_4.form
      refine st_val hE17 (y_load_agg hE17 rfl (hS12.upc hc16 hl16) rfl rfl agg74) rfl fun a18 hE18 => st_alloc hE18 hS12 Try.zeroValue74 rfl rfl fun b19 w19 hS19 a20 hE20 => st_val hE20 (y_assign hE20 rfl) rfl fun a21 hE21 => st_store hE21 hS19 [.int .i64 ((nth p0 i1).Seq), .int .i64 ((nth p0 i1).Kind), .int .i64 ((nth p0 i1).Tx), .slice A16_3 ((nth p0 i1).Steps.length) cp16_3, .slice A16_4 ((nth p0 i1).Answers.length) cp16_4, .int .i64 ((nth p0 i1).Began), .int .i64 ((nth p0 i1).Ended), .bool ((nth p0 i1).Laid)] rfl rfl (k := 0) rfl rfl (chkAgg_size agg74) rfl rfl rfl rfl fun w22 (hS22 : SH (Old w) w w22 [Ck.var b19 [.int .i64 ((nth p0 i1).Seq), .int .i64 ((nth p0 i1).Kind), .int .i64 ((nth p0 i1).Tx), .slice A16_3 ((nth p0 i1).Steps.length) cp16_3, .slice A16_4 ((nth p0 i1).Answers.length) cp16_4, .int .i64 ((nth p0 i1).Began), .int .i64 ((nth p0 i1).Ended), .bool ((nth p0 i1).Laid)] 74]) a23 hE23 => wpList_nil ?_
      clear hE13 hE15 hE17 hE18 hE20 hE21
      clear a13 a15 a17 a18 a20 a21
      refine then_normal ?_
      refine wp_seq (wp_region_lit ?_)
      refine st_val hE23 (y_move hE23 rfl) rfl fun a24 hE24 => st_val hE24 (y_move hE24 rfl) rfl fun a25 hE25 => st_index hE25 hp1 rfl rfl rfl (by omega) sl27 rfl fun ad26 cs26 hr26 hc26 hl26 a27 hE27 => ?_
      obtain ⟨v26_3, v26_4, rfl, hg26_0, hg26_1, hg26_2, hv26_3, hv26_4, hg26_5, hg26_6, _⟩ := Entry_open hr26
      obtain ⟨A26_3, cp26_3, rfl, hx26_3⟩ := hv26_3.form
      obtain ⟨A26_4, cp26_4, rfl, hx26_4⟩ := hv26_4.form
      refine st_val hE27 (y_load_agg hE27 rfl (hS22.upc hc26 hl26) rfl rfl agg74) rfl fun a28 hE28 => st_alloc hE28 hS22 Try.zeroValue74 rfl rfl fun b29 w29 hS29 a30 hE30 => st_store hE30 hS29 [.int .i64 ((nth p1 i1).Seq), .int .i64 ((nth p1 i1).Kind), .int .i64 ((nth p1 i1).Tx), .slice A26_3 ((nth p1 i1).Steps.length) cp26_3, .slice A26_4 ((nth p1 i1).Answers.length) cp26_4, .int .i64 ((nth p1 i1).Began), .int .i64 ((nth p1 i1).Ended), .bool ((nth p1 i1).Laid)] rfl rfl (k := 0) rfl rfl (chkAgg_size agg74) rfl rfl rfl rfl fun w31 (hS31 : SH (Old w) w w31 [Ck.var b29 [.int .i64 ((nth p1 i1).Seq), .int .i64 ((nth p1 i1).Kind), .int .i64 ((nth p1 i1).Tx), .slice A26_3 ((nth p1 i1).Steps.length) cp26_3, .slice A26_4 ((nth p1 i1).Answers.length) cp26_4, .int .i64 ((nth p1 i1).Began), .int .i64 ((nth p1 i1).Ended), .bool ((nth p1 i1).Laid)] 74, Ck.var b19 [.int .i64 ((nth p0 i1).Seq), .int .i64 ((nth p0 i1).Kind), .int .i64 ((nth p0 i1).Tx), .slice A16_3 ((nth p0 i1).Steps.length) cp16_3, .slice A16_4 ((nth p0 i1).Answers.length) cp16_4, .int .i64 ((nth p0 i1).Began), .int .i64 ((nth p0 i1).Ended), .bool ((nth p0 i1).Laid)] 74]) a32 hE32 => wpList_nil ?_
      clear hE23 hE24 hE25 hE27 hE28 hE30
      clear a23 a24 a25 a27 a28 a30
      refine then_normal ?_
      refine wp_seq (wp_region_lit ?_)
      refine st_val hE32 (y_move hE32 rfl) rfl fun a33 hE33 => st_val hE33 (y_load_agg hE33 rfl (hS31.cells (k := 1) rfl) rfl rfl agg74) rfl fun a34 hE34 => st_val hE34 (y_load_agg hE34 rfl (hS31.cells (k := 0) rfl) rfl rfl agg74) rfl fun a35 hE35 => st_callV hE35 hS31 hk2 rfl (hf2 _ _ _ _ _ hS31.below (hS31.upd hr16) (hS31.upd hr26)) rfl rfl fun w36 hS36 a37 hE37 => st_val hE37 (y_not hE37 rfl) rfl fun a38 hE38 => wpList_nil ?_
      clear hE32 hE33 hE34 hE35 hE37
      clear a32 a33 a34 a35 a37
      refine then_normal ?_
      refine cond_split hE38 rfl (fun hb39 => ?_) (fun hb39 => ?_)
      ·
        have hM := hM.trans (if_t hb39)
        refine wp_seq (wp_region_lit ?_)
        refine st_val hE38 (y_assign hE38 rfl) rfl fun a40 hE40 => wpList_nil ?_
        clear hE38
        clear a38
        refine then_normal ?_
        refine wp_ret ?_
        refine blk_ret ?_
        refine then_ret ?_
        refine then_ret ?_
        refine blk_ret ?_
        refine then_ret ?_
        exact fin1 hE40 rfl rfl ⟨by rw [hM], hS36.below⟩
      ·
        have hM := hM.trans (if_f hb39)
        refine wp_skip ?_
        refine blk_normal ?_
        refine then_normal ?_
        refine wp_region_lit ?_
        refine st_val hE38 (y_add_in hE38 rfl rfl (m := ((i1 + 1 : Nat) : Int)) (by omega) (by omega) (by omega)) rfl fun a41 hE41 => st_val hE41 (y_move hE41 rfl) rfl fun a42 hE42 => wpList_nil ?_
        clear hE38 hE41
        clear a38 a41
        refine then_normal ⟨fu1, Nat.lt_succ_self _, (i1 + 1), by omega, by omega, hM, hE42.weaken ⟨rfl, rfl, rfl, rfl, rfl, trivial⟩, (hS36.drop (k := 2))⟩
    ·
      have hge1 : ¬ i1 < p0.length := by have := of_decide_eq_false hb14; omega
      obtain rfl : fu1 = 0 := by omega
      have hM := hM.trans (slices_EqualFunc_Entry_l1.eq_1 _ _ _ _)
      refine wp_exit ?_
      refine then_exit ?_
      refine then_exit ?_
      refine blk_exit ?_
      refine then_normal ?_
      refine wp_seq (wp_region_lit ?_)
      refine st_val hE13 (y_assign hE13 rfl) rfl fun a43 hE43 => wpList_nil ?_
      clear hE13
      clear a13
      refine then_normal ?_
      refine wp_ret ?_
      exact fin1 hE43 rfl rfl ⟨by rw [hM], hS12.below⟩

/- F104 slices.Equal[[]loop.example/g00974/impl.Step,loop.example/g00974/impl.Step] -/
def slices_Equal_Step_l1 (p0 : List Step) (p1 : List Step) : Nat → Nat → Bool
  | 0, i1 => true
  | fu1 + 1, i1 => (if (!decide ((nth p0 i1) = (nth p1 i1))) = true then false else slices_Equal_Step_l1 p0 p1 fu1 (i1 + 1) )
def slices_Equal_Step (p0 : List Step) (p1 : List Step) : Bool := (if (!decide ((p0.length : Int) = (p1.length : Int))) = true then false else slices_Equal_Step_l1 p0 p1 (p0.length - 0) 0 )
theorem c_slices_Equal_Step {v0 : Value} (p0 : List Step) {v1 : Value} (p1 : List Step) {w : World} (hp0 : SlR (Old w) w v0 p0) (hp1 : SlR (Old w) w v1 p1) :
    Calls Try.prog 104 [v0, v1].toArray w (fun e w' => e = .returned (.bool (slices_Equal_Step p0 p1)) ∧ Below w.heap.size w w') := by
  obtain ⟨A0, cap0, rfl, hx0⟩ := hp0.form
  obtain ⟨A1, cap1, rfl, hx1⟩ := hp1.form
  refine enter Try.func104 rfl Try.ntmps104 (Nat.le_of_ble_eq_true rfl) ?_
  intro a0 hE0
  have hS0 := SH.start w
  have hM := slices_Equal_Step.eq_1 p0 p1
  refine wp_seq (wp_region_lit ?_)
  refine st_val hE0 (y_assign hE0 rfl) rfl fun a1 hE1 => wpList_nil ?_
  clear hE0
  clear a0
  refine then_normal ?_
  refine wp_seq (wp_seq (wp_region_lit ?_))
  refine st_val hE1 (y_move hE1 rfl) rfl fun a2 hE2 => st_val hE2 (y_len_slice hE2 rfl sl71) rfl fun a3 hE3 => st_val hE3 (y_move hE3 rfl) rfl fun a4 hE4 => st_val hE4 (y_len_slice hE4 rfl sl71) rfl fun a5 hE5 => st_val hE5 (y_neq hE5 rfl rfl) rfl fun a6 hE6 => wpList_nil ?_
  clear hE1 hE2 hE3 hE4 hE5
  clear a1 a2 a3 a4 a5
  refine then_normal ?_
  refine cond_split hE6 rfl (fun hb7 => ?_) (fun hb7 => ?_)
  ·
    have hM := hM.trans (if_t hb7)
    have hb7f : ¬ ((p0.length : Int) = (p1.length : Int)) := by simpa using hb7
    refine wp_seq (wp_region_lit ?_)
    refine st_val hE6 (y_assign hE6 rfl) rfl fun a8 hE8 => wpList_nil ?_
    clear hE6
    clear a6
    refine then_normal ?_
    refine wp_ret ?_
    refine then_ret ?_
    exact fin1 hE8 rfl rfl ⟨by rw [hM], hS0.below⟩
  ·
    have hM := hM.trans (if_f hb7)
    have hb7f : (p0.length : Int) = (p1.length : Int) := by simpa using hb7
    refine wp_skip ?_
    refine then_normal ?_
    refine wp_seq (wp_seq (wp_region_lit ?_))
    refine st_val hE6 (y_move hE6 rfl) rfl fun a9 hE9 => st_val hE9 (y_len_slice hE9 rfl sl71) rfl fun a10 hE10 => st_val hE10 (y_move hE10 rfl) rfl fun a11 hE11 => wpList_nil ?_
    clear hE6 hE9 hE10
    clear a6 a9 a10
    refine then_normal ?_
    refine wp_block (wp_loop_ghost (fun fu1 a w2 => ∃ (i1 : Nat), 0 ≤ i1 ∧ fu1 = p0.length - i1 ∧ slices_Equal_Step p0 p1 = slices_Equal_Step_l1 p0 p1 fu1 i1  ∧ Env 26 [(0, .slice A0 p0.length cap0), (1, .slice A1 p1.length cap1), (12, .int .i64 (p0.length : Int)), (13, .int .i64 (i1 : Int))] a ∧ SH (Old w) w w2 []) (p0.length - 0) ⟨0, Nat.le_refl _, rfl, hM, hE11.weaken ⟨rfl, rfl, rfl, rfl, trivial⟩, hS0⟩ ?_)
    clear hM hE11
    rintro fu1 a12 w12 ⟨i1, hi1, hfu1, hM, hE12, hS12⟩
    refine wp_seq (wp_region_lit ?_)
    refine st_val hE12 (y_lss hE12 rfl rfl) rfl fun a13 hE13 => wpList_nil ?_
    clear hE12
    clear a12
    refine then_normal ?_
    refine wp_seq (cond_split hE13 rfl (fun hb14 => ?_) (fun hb14 => ?_))
    ·
      have hlt1 : i1 < p0.length := by have := of_decide_eq_true hb14; omega
      obtain ⟨fu1, rfl⟩ : ∃ m, fu1 = m + 1 := ⟨fu1 - 1, by omega⟩
      have hM := hM.trans (slices_Equal_Step_l1.eq_2 _ _ _ _)
      refine wp_skip ?_
      refine then_normal ?_
      refine wp_seq (wp_block (wp_seq (wp_region_lit ?_)))
      refine st_val hE13 (y_move hE13 rfl) rfl fun a15 hE15 => st_val hE15 (y_assign hE15 rfl) rfl fun a16 hE16 => wpList_nil ?_
      clear hE13 hE15
      clear a13 a15
      refine then_normal ?_
      refine wp_seq (reg_quiet mixed (by kernel_rfl) hS12 ?_)
      refine q_val hE16 (fun w12 hS12 => y_move hE16 rfl) rfl fun a17 hE17 => q_val hE17 (fun w12 hS12 => y_move hE17 rfl) rfl fun a18 hE18 => q_index hE18 hp0 rfl rfl rfl (by omega) sl71 rfl fun ad19 cs19 hr19 hc19 hl19 a20 hE20 => ?_
      obtain ⟨rfl, hg19_0, hg19_1, hg19_2, hg19_3, hg19_4, hg19_5, hg19_6, _⟩ := Step_open hr19
      refine q_val hE20 (fun w12 hS12 => y_load_agg hE20 rfl (hS12.upc hc19 hl19) rfl rfl agg82) rfl fun a21 hE21 => q_val hE21 (fun w12 hS12 => y_move hE21 rfl) rfl fun a22 hE22 => q_val hE22 (fun w12 hS12 => y_move hE22 rfl) rfl fun a23 hE23 => q_index hE23 hp1 rfl rfl rfl (by omega) sl71 rfl fun ad24 cs24 hr24 hc24 hl24 a25 hE25 => ?_
      obtain ⟨rfl, hg24_0, hg24_1, hg24_2, hg24_3, hg24_4, hg24_5, hg24_6, _⟩ := Step_open hr24
      refine q_val hE25 (fun w12 hS12 => y_load_agg hE25 rfl (hS12.upc hc24 hl24) rfl rfl agg82) rfl fun a26 hE26 => q_val hE26 (fun w12 hS12 => y_neq_agg hE26 rfl rfl eg82 (eqs82 9990 (nth p0 i1) (nth p1 i1))) rfl fun a27 hE27 => ?_
      refine q_nil fun w28 hS28 => ?_
      clear hE16 hE17 hE18 hE20 hE21 hE22 hE23 hE25 hE26
      clear a16 a17 a18 a20 a21 a22 a23 a25 a26
      refine then_normal ?_
      refine cond_split hE27 rfl (fun hb29 => ?_) (fun hb29 => ?_)
      ·
        have hM := hM.trans (if_t hb29)
        refine wp_seq (wp_region_lit ?_)
        refine st_val hE27 (y_assign hE27 rfl) rfl fun a30 hE30 => wpList_nil ?_
        clear hE27
        clear a27
        refine then_normal ?_
        refine wp_ret ?_
        refine blk_ret ?_
        refine then_ret ?_
        refine then_ret ?_
        refine blk_ret ?_
        refine then_ret ?_
        exact fin1 hE30 rfl rfl ⟨by rw [hM], hS28.below⟩
      ·
        have hM := hM.trans (if_f hb29)
        refine wp_skip ?_
        refine blk_normal ?_
        refine then_normal ?_
        refine wp_region_lit ?_
        refine st_val hE27 (y_add_in hE27 rfl rfl (m := ((i1 + 1 : Nat) : Int)) (by omega) (by omega) (by omega)) rfl fun a31 hE31 => st_val hE31 (y_move hE31 rfl) rfl fun a32 hE32 => wpList_nil ?_
        clear hE27 hE31
        clear a27 a31
        refine then_normal ⟨fu1, Nat.lt_succ_self _, (i1 + 1), by omega, by omega, hM, hE32.weaken ⟨rfl, rfl, rfl, rfl, trivial⟩, hS28⟩
    ·
      have hge1 : ¬ i1 < p0.length := by have := of_decide_eq_false hb14; omega
      obtain rfl : fu1 = 0 := by omega
      have hM := hM.trans (slices_Equal_Step_l1.eq_1 _ _ _)
      refine wp_exit ?_
      refine then_exit ?_
      refine then_exit ?_
      refine blk_exit ?_
      refine then_normal ?_
      refine wp_seq (wp_region_lit ?_)
      refine st_val hE13 (y_assign hE13 rfl) rfl fun a33 hE33 => wpList_nil ?_
      clear hE13
      clear a13
      refine then_normal ?_
      refine wp_ret ?_
      exact fin1 hE33 rfl rfl ⟨by rw [hM], hS12.below⟩

/- F105 slices.Equal[[]loop.example/g00974/impl.Answer,loop.example/g00974/impl.Answer] -/
def slices_Equal_Answer_l1 (p0 : List Answer) (p1 : List Answer) : Nat → Nat → Bool
  | 0, i1 => true
  | fu1 + 1, i1 => (if (!decide ((nth p0 i1) = (nth p1 i1))) = true then false else slices_Equal_Answer_l1 p0 p1 fu1 (i1 + 1) )
def slices_Equal_Answer (p0 : List Answer) (p1 : List Answer) : Bool := (if (!decide ((p0.length : Int) = (p1.length : Int))) = true then false else slices_Equal_Answer_l1 p0 p1 (p0.length - 0) 0 )
theorem c_slices_Equal_Answer {v0 : Value} (p0 : List Answer) {v1 : Value} (p1 : List Answer) {w : World} (hp0 : SlR (Old w) w v0 p0) (hp1 : SlR (Old w) w v1 p1) :
    Calls Try.prog 105 [v0, v1].toArray w (fun e w' => e = .returned (.bool (slices_Equal_Answer p0 p1)) ∧ Below w.heap.size w w') := by
  obtain ⟨A0, cap0, rfl, hx0⟩ := hp0.form
  obtain ⟨A1, cap1, rfl, hx1⟩ := hp1.form
  refine enter Try.func105 rfl Try.ntmps105 (Nat.le_of_ble_eq_true rfl) ?_
  intro a0 hE0
  have hS0 := SH.start w
  have hM := slices_Equal_Answer.eq_1 p0 p1
  refine wp_seq (wp_region_lit ?_)
  refine st_val hE0 (y_assign hE0 rfl) rfl fun a1 hE1 => wpList_nil ?_
  clear hE0
  clear a0
  refine then_normal ?_
  refine wp_seq (wp_seq (wp_region_lit ?_))
  refine st_val hE1 (y_move hE1 rfl) rfl fun a2 hE2 => st_val hE2 (y_len_slice hE2 rfl sl72) rfl fun a3 hE3 => st_val hE3 (y_move hE3 rfl) rfl fun a4 hE4 => st_val hE4 (y_len_slice hE4 rfl sl72) rfl fun a5 hE5 => st_val hE5 (y_neq hE5 rfl rfl) rfl fun a6 hE6 => wpList_nil ?_
  clear hE1 hE2 hE3 hE4 hE5
  clear a1 a2 a3 a4 a5
  refine then_normal ?_
  refine cond_split hE6 rfl (fun hb7 => ?_) (fun hb7 => ?_)
  ·
    have hM := hM.trans (if_t hb7)
    have hb7f : ¬ ((p0.length : Int) = (p1.length : Int)) := by simpa using hb7
    refine wp_seq (wp_region_lit ?_)
    refine st_val hE6 (y_assign hE6 rfl) rfl fun a8 hE8 => wpList_nil ?_
    clear hE6
    clear a6
    refine then_normal ?_
    refine wp_ret ?_
    refine then_ret ?_
    exact fin1 hE8 rfl rfl ⟨by rw [hM], hS0.below⟩
  ·
    have hM := hM.trans (if_f hb7)
    have hb7f : (p0.length : Int) = (p1.length : Int) := by simpa using hb7
    refine wp_skip ?_
    refine then_normal ?_
    refine wp_seq (wp_seq (wp_region_lit ?_))
    refine st_val hE6 (y_move hE6 rfl) rfl fun a9 hE9 => st_val hE9 (y_len_slice hE9 rfl sl72) rfl fun a10 hE10 => st_val hE10 (y_move hE10 rfl) rfl fun a11 hE11 => wpList_nil ?_
    clear hE6 hE9 hE10
    clear a6 a9 a10
    refine then_normal ?_
    refine wp_block (wp_loop_ghost (fun fu1 a w2 => ∃ (i1 : Nat), 0 ≤ i1 ∧ fu1 = p0.length - i1 ∧ slices_Equal_Answer p0 p1 = slices_Equal_Answer_l1 p0 p1 fu1 i1  ∧ Env 26 [(0, .slice A0 p0.length cap0), (1, .slice A1 p1.length cap1), (12, .int .i64 (p0.length : Int)), (13, .int .i64 (i1 : Int))] a ∧ SH (Old w) w w2 []) (p0.length - 0) ⟨0, Nat.le_refl _, rfl, hM, hE11.weaken ⟨rfl, rfl, rfl, rfl, trivial⟩, hS0⟩ ?_)
    clear hM hE11
    rintro fu1 a12 w12 ⟨i1, hi1, hfu1, hM, hE12, hS12⟩
    refine wp_seq (wp_region_lit ?_)
    refine st_val hE12 (y_lss hE12 rfl rfl) rfl fun a13 hE13 => wpList_nil ?_
    clear hE12
    clear a12
    refine then_normal ?_
    refine wp_seq (cond_split hE13 rfl (fun hb14 => ?_) (fun hb14 => ?_))
    ·
      have hlt1 : i1 < p0.length := by have := of_decide_eq_true hb14; omega
      obtain ⟨fu1, rfl⟩ : ∃ m, fu1 = m + 1 := ⟨fu1 - 1, by omega⟩
      have hM := hM.trans (slices_Equal_Answer_l1.eq_2 _ _ _ _)
      refine wp_skip ?_
      refine then_normal ?_
      refine wp_seq (wp_block (wp_seq (wp_region_lit ?_)))
      refine st_val hE13 (y_move hE13 rfl) rfl fun a15 hE15 => st_val hE15 (y_assign hE15 rfl) rfl fun a16 hE16 => wpList_nil ?_
      clear hE13 hE15
      clear a13 a15
      refine then_normal ?_
      refine wp_seq (reg_quiet mixed (by kernel_rfl) hS12 ?_)
      refine q_val hE16 (fun w12 hS12 => y_move hE16 rfl) rfl fun a17 hE17 => q_val hE17 (fun w12 hS12 => y_move hE17 rfl) rfl fun a18 hE18 => q_index hE18 hp0 rfl rfl rfl (by omega) sl72 rfl fun ad19 cs19 hr19 hc19 hl19 a20 hE20 => ?_
      obtain ⟨rfl, hg19_0, hg19_1, hg19_2, _⟩ := Answer_open hr19
      refine q_val hE20 (fun w12 hS12 => y_load_agg hE20 rfl (hS12.upc hc19 hl19) rfl rfl agg84) rfl fun a21 hE21 => q_val hE21 (fun w12 hS12 => y_move hE21 rfl) rfl fun a22 hE22 => q_val hE22 (fun w12 hS12 => y_move hE22 rfl) rfl fun a23 hE23 => q_index hE23 hp1 rfl rfl rfl (by omega) sl72 rfl fun ad24 cs24 hr24 hc24 hl24 a25 hE25 => ?_
      obtain ⟨rfl, hg24_0, hg24_1, hg24_2, _⟩ := Answer_open hr24
      refine q_val hE25 (fun w12 hS12 => y_load_agg hE25 rfl (hS12.upc hc24 hl24) rfl rfl agg84) rfl fun a26 hE26 => q_val hE26 (fun w12 hS12 => y_neq_agg hE26 rfl rfl eg84 (eqs84 9990 (nth p0 i1) (nth p1 i1))) rfl fun a27 hE27 => ?_
      refine q_nil fun w28 hS28 => ?_
      clear hE16 hE17 hE18 hE20 hE21 hE22 hE23 hE25 hE26
      clear a16 a17 a18 a20 a21 a22 a23 a25 a26
      refine then_normal ?_
      refine cond_split hE27 rfl (fun hb29 => ?_) (fun hb29 => ?_)
      ·
        have hM := hM.trans (if_t hb29)
        refine wp_seq (wp_region_lit ?_)
        refine st_val hE27 (y_assign hE27 rfl) rfl fun a30 hE30 => wpList_nil ?_
        clear hE27
        clear a27
        refine then_normal ?_
        refine wp_ret ?_
        refine blk_ret ?_
        refine then_ret ?_
        refine then_ret ?_
        refine blk_ret ?_
        refine then_ret ?_
        exact fin1 hE30 rfl rfl ⟨by rw [hM], hS28.below⟩
      ·
        have hM := hM.trans (if_f hb29)
        refine wp_skip ?_
        refine blk_normal ?_
        refine then_normal ?_
        refine wp_region_lit ?_
        refine st_val hE27 (y_add_in hE27 rfl rfl (m := ((i1 + 1 : Nat) : Int)) (by omega) (by omega) (by omega)) rfl fun a31 hE31 => st_val hE31 (y_move hE31 rfl) rfl fun a32 hE32 => wpList_nil ?_
        clear hE27 hE31
        clear a27 a31
        refine then_normal ⟨fu1, Nat.lt_succ_self _, (i1 + 1), by omega, by omega, hM, hE32.weaken ⟨rfl, rfl, rfl, rfl, trivial⟩, hS28⟩
    ·
      have hge1 : ¬ i1 < p0.length := by have := of_decide_eq_false hb14; omega
      obtain rfl : fu1 = 0 := by omega
      have hM := hM.trans (slices_Equal_Answer_l1.eq_1 _ _ _)
      refine wp_exit ?_
      refine then_exit ?_
      refine then_exit ?_
      refine blk_exit ?_
      refine then_normal ?_
      refine wp_seq (wp_region_lit ?_)
      refine st_val hE13 (y_assign hE13 rfl) rfl fun a33 hE33 => wpList_nil ?_
      clear hE13
      clear a13
      refine then_normal ?_
      refine wp_ret ?_
      exact fin1 hE33 rfl rfl ⟨by rw [hM], hS12.below⟩

/- F86 loop.example/g00974/spec.SameSteps -/
def spec_SameSteps_l1 (p0 : List Step) (p1 : List Step) : Nat → Nat → Bool
  | 0, i1 => true
  | fu1 + 1, i1 => (if (!decide ((nth p0 i1) = (nth p1 i1))) = true then false else spec_SameSteps_l1 p0 p1 fu1 (i1 + 1) )
def spec_SameSteps (p0 : List Step) (p1 : List Step) : Bool := (if (!decide ((p0.length : Int) = (p1.length : Int))) = true then false else spec_SameSteps_l1 p0 p1 (p0.length - 0) 0 )
theorem c_spec_SameSteps {v0 : Value} (p0 : List Step) {v1 : Value} (p1 : List Step) {w : World} (hp0 : SlR (Old w) w v0 p0) (hp1 : SlR (Old w) w v1 p1) :
    Calls Try.prog 86 [v0, v1].toArray w (fun e w' => e = .returned (.bool (spec_SameSteps p0 p1)) ∧ Below w.heap.size w w') := by
  obtain ⟨A0, cap0, rfl, hx0⟩ := hp0.form
  obtain ⟨A1, cap1, rfl, hx1⟩ := hp1.form
  refine enter Try.func86 rfl Try.ntmps86 (Nat.le_of_ble_eq_true rfl) ?_
  intro a0 hE0
  have hS0 := SH.start w
  have hM := spec_SameSteps.eq_1 p0 p1
  refine wp_seq (wp_region_lit ?_)
  refine st_val hE0 (y_assign hE0 rfl) rfl fun a1 hE1 => wpList_nil ?_
  clear hE0
  clear a0
  refine then_normal ?_
  refine wp_seq (wp_seq (wp_region_lit ?_))
  refine st_val hE1 (y_move hE1 rfl) rfl fun a2 hE2 => st_val hE2 (y_len_slice hE2 rfl sl71) rfl fun a3 hE3 => st_val hE3 (y_move hE3 rfl) rfl fun a4 hE4 => st_val hE4 (y_len_slice hE4 rfl sl71) rfl fun a5 hE5 => st_val hE5 (y_neq hE5 rfl rfl) rfl fun a6 hE6 => wpList_nil ?_
  clear hE1 hE2 hE3 hE4 hE5
  clear a1 a2 a3 a4 a5
  refine then_normal ?_
  refine cond_split hE6 rfl (fun hb7 => ?_) (fun hb7 => ?_)
  ·
    have hM := hM.trans (if_t hb7)
    have hb7f : ¬ ((p0.length : Int) = (p1.length : Int)) := by simpa using hb7
    refine wp_seq (wp_region_lit ?_)
    refine st_val hE6 (y_assign hE6 rfl) rfl fun a8 hE8 => wpList_nil ?_
    clear hE6
    clear a6
    refine then_normal ?_
    refine wp_ret ?_
    refine then_ret ?_
    exact fin1 hE8 rfl rfl ⟨by rw [hM], hS0.below⟩
  ·
    have hM := hM.trans (if_f hb7)
    have hb7f : (p0.length : Int) = (p1.length : Int) := by simpa using hb7
    refine wp_skip ?_
    refine then_normal ?_
    refine wp_seq (wp_seq (wp_region_lit ?_))
    refine st_val hE6 (y_assign hE6 rfl) rfl fun a9 hE9 => wpList_nil ?_
    clear hE6
    clear a6
    refine then_normal ?_
    refine wp_block (wp_loop_ghost (fun fu1 a w2 => ∃ (i1 : Nat), 0 ≤ i1 ∧ fu1 = p0.length - i1 ∧ spec_SameSteps p0 p1 = spec_SameSteps_l1 p0 p1 fu1 i1  ∧ Env 26 [(0, .slice A0 p0.length cap0), (1, .slice A1 p1.length cap1), (5, .int .i64 (i1 : Int))] a ∧ SH (Old w) w w2 []) (p0.length - 0) ⟨0, Nat.le_refl _, rfl, hM, hE9.weaken ⟨rfl, rfl, rfl, trivial⟩, hS0⟩ ?_)
    clear hM hE9
    rintro fu1 a10 w10 ⟨i1, hi1, hfu1, hM, hE10, hS10⟩
    refine wp_seq (wp_seq (wp_region_lit ?_))
    refine st_val hE10 (y_move hE10 rfl) rfl fun a11 hE11 => st_val hE11 (y_move hE11 rfl) rfl fun a12 hE12 => st_val hE12 (y_len_slice hE12 rfl sl71) rfl fun a13 hE13 => st_val hE13 (y_lss hE13 rfl rfl) rfl fun a14 hE14 => wpList_nil ?_
    clear hE10 hE11 hE12 hE13
    clear a10 a11 a12 a13
    refine then_normal ?_
    refine cond_split hE14 rfl (fun hb15 => ?_) (fun hb15 => ?_)
    ·
      have hlt1 : i1 < p0.length := by have := of_decide_eq_true hb15; omega
      obtain ⟨fu1, rfl⟩ : ∃ m, fu1 = m + 1 := ⟨fu1 - 1, by omega⟩
      have hM := hM.trans (spec_SameSteps_l1.eq_2 _ _ _ _)
      refine wp_skip ?_
      refine then_normal ?_
      refine wp_seq (wp_block (wp_seq (reg_quiet mixed (by kernel_rfl) hS10 ?_)))
      refine q_val hE14 (fun w10 hS10 => y_move hE14 rfl) rfl fun a16 hE16 => q_val hE16 (fun w10 hS10 => y_move hE16 rfl) rfl fun a17 hE17 => q_index hE17 hp0 rfl rfl rfl (by omega) sl71 rfl fun ad18 cs18 hr18 hc18 hl18 a19 hE19 => ?_
      obtain ⟨rfl, hg18_0, hg18_1, hg18_2, hg18_3, hg18_4, hg18_5, hg18_6, _⟩ := Step_open hr18
      refine q_val hE19 (fun w10 hS10 => y_load_agg hE19 rfl (hS10.upc hc18 hl18) rfl rfl agg82) rfl fun a20 hE20 => q_val hE20 (fun w10 hS10 => y_move hE20 rfl) rfl fun a21 hE21 => q_val hE21 (fun w10 hS10 => y_move hE21 rfl) rfl fun a22 hE22 => q_index hE22 hp1 rfl rfl rfl (by omega) sl71 rfl fun ad23 cs23 hr23 hc23 hl23 a24 hE24 => ?_
      obtain ⟨rfl, hg23_0, hg23_1, hg23_2, hg23_3, hg23_4, hg23_5, hg23_6, _⟩ := Step_open hr23
      refine q_val hE24 (fun w10 hS10 => y_load_agg hE24 rfl (hS10.upc hc23 hl23) rfl rfl agg82) rfl fun a25 hE25 => q_val hE25 (fun w10 hS10 => y_neq_agg hE25 rfl rfl eg82 (eqs82 9990 (nth p0 i1) (nth p1 i1))) rfl fun a26 hE26 => ?_
      refine q_nil fun w27 hS27 => ?_
      clear hE14 hE16 hE17 hE19 hE20 hE21 hE22 hE24 hE25
      clear a14 a16 a17 a19 a20 a21 a22 a24 a25
      refine then_normal ?_
      refine cond_split hE26 rfl (fun hb28 => ?_) (fun hb28 => ?_)
      ·
        have hM := hM.trans (if_t hb28)
        refine wp_seq (wp_region_lit ?_)
        refine st_val hE26 (y_assign hE26 rfl) rfl fun a29 hE29 => wpList_nil ?_
        clear hE26
        clear a26
        refine then_normal ?_
        refine wp_ret ?_
        refine blk_ret ?_
        refine then_ret ?_
        refine then_ret ?_
        refine blk_ret ?_
        refine then_ret ?_
        exact fin1 hE29 rfl rfl ⟨by rw [hM], hS27.below⟩
      ·
        have hM := hM.trans (if_f hb28)
        refine wp_skip ?_
        refine blk_normal ?_
        refine then_normal ?_
        refine wp_region_lit ?_
        refine st_val hE26 (y_move hE26 rfl) rfl fun a30 hE30 => st_val hE30 (y_add_in hE30 rfl rfl (m := ((i1 + 1 : Nat) : Int)) (by omega) (by omega) (by omega)) rfl fun a31 hE31 => st_val hE31 (y_assign hE31 rfl) rfl fun a32 hE32 => wpList_nil ?_
        clear hE26 hE30 hE31
        clear a26 a30 a31
        refine then_normal ⟨fu1, Nat.lt_succ_self _, (i1 + 1), by omega, by omega, hM, hE32.weaken ⟨rfl, rfl, rfl, trivial⟩, hS27⟩
    ·
      have hge1 : ¬ i1 < p0.length := by have := of_decide_eq_false hb15; omega
      obtain rfl : fu1 = 0 := by omega
      have hM := hM.trans (spec_SameSteps_l1.eq_1 _ _ _)
      refine wp_exit ?_
      refine then_exit ?_
      refine then_exit ?_
      refine blk_exit ?_
      refine then_normal ?_
      refine wp_seq (wp_region_lit ?_)
      refine st_val hE14 (y_assign hE14 rfl) rfl fun a33 hE33 => wpList_nil ?_
      clear hE14
      clear a14
      refine then_normal ?_
      refine wp_ret ?_
      exact fin1 hE33 rfl rfl ⟨by rw [hM], hS10.below⟩

/- F87 loop.example/g00974/spec.SameAnswers -/
def spec_SameAnswers_l1 (p0 : List Answer) (p1 : List Answer) : Nat → Nat → Bool
  | 0, i1 => true
  | fu1 + 1, i1 => (if (!decide ((nth p0 i1) = (nth p1 i1))) = true then false else spec_SameAnswers_l1 p0 p1 fu1 (i1 + 1) )
def spec_SameAnswers (p0 : List Answer) (p1 : List Answer) : Bool := (if (!decide ((p0.length : Int) = (p1.length : Int))) = true then false else spec_SameAnswers_l1 p0 p1 (p0.length - 0) 0 )
theorem c_spec_SameAnswers {v0 : Value} (p0 : List Answer) {v1 : Value} (p1 : List Answer) {w : World} (hp0 : SlR (Old w) w v0 p0) (hp1 : SlR (Old w) w v1 p1) :
    Calls Try.prog 87 [v0, v1].toArray w (fun e w' => e = .returned (.bool (spec_SameAnswers p0 p1)) ∧ Below w.heap.size w w') := by
  obtain ⟨A0, cap0, rfl, hx0⟩ := hp0.form
  obtain ⟨A1, cap1, rfl, hx1⟩ := hp1.form
  refine enter Try.func87 rfl Try.ntmps87 (Nat.le_of_ble_eq_true rfl) ?_
  intro a0 hE0
  have hS0 := SH.start w
  have hM := spec_SameAnswers.eq_1 p0 p1
  refine wp_seq (wp_region_lit ?_)
  refine st_val hE0 (y_assign hE0 rfl) rfl fun a1 hE1 => wpList_nil ?_
  clear hE0
  clear a0
  refine then_normal ?_
  refine wp_seq (wp_seq (wp_region_lit ?_))
  refine st_val hE1 (y_move hE1 rfl) rfl fun a2 hE2 => st_val hE2 (y_len_slice hE2 rfl sl72) rfl fun a3 hE3 => st_val hE3 (y_move hE3 rfl) rfl fun a4 hE4 => st_val hE4 (y_len_slice hE4 rfl sl72) rfl fun a5 hE5 => st_val hE5 (y_neq hE5 rfl rfl) rfl fun a6 hE6 => wpList_nil ?_
  clear hE1 hE2 hE3 hE4 hE5
  clear a1 a2 a3 a4 a5
  refine then_normal ?_
  refine cond_split hE6 rfl (fun hb7 => ?_) (fun hb7 => ?_)
  ·
    have hM := hM.trans (if_t hb7)
    have hb7f : ¬ ((p0.length : Int) = (p1.length : Int)) := by simpa using hb7
    refine wp_seq (wp_region_lit ?_)
    refine st_val hE6 (y_assign hE6 rfl) rfl fun a8 hE8 => wpList_nil ?_
    clear hE6
    clear a6
    refine then_normal ?_
    refine wp_ret ?_
    refine then_ret ?_
    exact fin1 hE8 rfl rfl ⟨by rw [hM], hS0.below⟩
  ·
    have hM := hM.trans (if_f hb7)
    have hb7f : (p0.length : Int) = (p1.length : Int) := by simpa using hb7
    refine wp_skip ?_
    refine then_normal ?_
    refine wp_seq (wp_seq (wp_region_lit ?_))
    refine st_val hE6 (y_assign hE6 rfl) rfl fun a9 hE9 => wpList_nil ?_
    clear hE6
    clear a6
    refine then_normal ?_
    refine wp_block (wp_loop_ghost (fun fu1 a w2 => ∃ (i1 : Nat), 0 ≤ i1 ∧ fu1 = p0.length - i1 ∧ spec_SameAnswers p0 p1 = spec_SameAnswers_l1 p0 p1 fu1 i1  ∧ Env 26 [(0, .slice A0 p0.length cap0), (1, .slice A1 p1.length cap1), (5, .int .i64 (i1 : Int))] a ∧ SH (Old w) w w2 []) (p0.length - 0) ⟨0, Nat.le_refl _, rfl, hM, hE9.weaken ⟨rfl, rfl, rfl, trivial⟩, hS0⟩ ?_)
    clear hM hE9
    rintro fu1 a10 w10 ⟨i1, hi1, hfu1, hM, hE10, hS10⟩
    refine wp_seq (wp_seq (wp_region_lit ?_))
    refine st_val hE10 (y_move hE10 rfl) rfl fun a11 hE11 => st_val hE11 (y_move hE11 rfl) rfl fun a12 hE12 => st_val hE12 (y_len_slice hE12 rfl sl72) rfl fun a13 hE13 => st_val hE13 (y_lss hE13 rfl rfl) rfl fun a14 hE14 => wpList_nil ?_
    clear hE10 hE11 hE12 hE13
    clear a10 a11 a12 a13
    refine then_normal ?_
    refine cond_split hE14 rfl (fun hb15 => ?_) (fun hb15 => ?_)
    ·
      have hlt1 : i1 < p0.length := by have := of_decide_eq_true hb15; omega
      obtain ⟨fu1, rfl⟩ : ∃ m, fu1 = m + 1 := ⟨fu1 - 1, by omega⟩
      have hM := hM.trans (spec_SameAnswers_l1.eq_2 _ _ _ _)
      refine wp_skip ?_
      refine then_normal ?_
      refine wp_seq (wp_block (wp_seq (reg_quiet mixed (by kernel_rfl) hS10 ?_)))
      refine q_val hE14 (fun w10 hS10 => y_move hE14 rfl) rfl fun a16 hE16 => q_val hE16 (fun w10 hS10 => y_move hE16 rfl) rfl fun a17 hE17 => q_index hE17 hp0 rfl rfl rfl (by omega) sl72 rfl fun ad18 cs18 hr18 hc18 hl18 a19 hE19 => ?_
      obtain ⟨rfl, hg18_0, hg18_1, hg18_2, _⟩ := Answer_open hr18
      refine q_val hE19 (fun w10 hS10 => y_load_agg hE19 rfl (hS10.upc hc18 hl18) rfl rfl agg84) rfl fun a20 hE20 => q_val hE20 (fun w10 hS10 => y_move hE20 rfl) rfl fun a21 hE21 => q_val hE21 (fun w10 hS10 => y_move hE21 rfl) rfl fun a22 hE22 => q_index hE22 hp1 rfl rfl rfl (by omega) sl72 rfl fun ad23 cs23 hr23 hc23 hl23 a24 hE24 => ?_
      obtain ⟨rfl, hg23_0, hg23_1, hg23_2, _⟩ := Answer_open hr23
      refine q_val hE24 (fun w10 hS10 => y_load_agg hE24 rfl (hS10.upc hc23 hl23) rfl rfl agg84) rfl fun a25 hE25 => q_val hE25 (fun w10 hS10 => y_neq_agg hE25 rfl rfl eg84 (eqs84 9990 (nth p0 i1) (nth p1 i1))) rfl fun a26 hE26 => ?_
      refine q_nil fun w27 hS27 => ?_
      clear hE14 hE16 hE17 hE19 hE20 hE21 hE22 hE24 hE25
      clear a14 a16 a17 a19 a20 a21 a22 a24 a25
      refine then_normal ?_
      refine cond_split hE26 rfl (fun hb28 => ?_) (fun hb28 => ?_)
      ·
        have hM := hM.trans (if_t hb28)
        refine wp_seq (wp_region_lit ?_)
        refine st_val hE26 (y_assign hE26 rfl) rfl fun a29 hE29 => wpList_nil ?_
        clear hE26
        clear a26
        refine then_normal ?_
        refine wp_ret ?_
        refine blk_ret ?_
        refine then_ret ?_
        refine then_ret ?_
        refine blk_ret ?_
        refine then_ret ?_
        exact fin1 hE29 rfl rfl ⟨by rw [hM], hS27.below⟩
      ·
        have hM := hM.trans (if_f hb28)
        refine wp_skip ?_
        refine blk_normal ?_
        refine then_normal ?_
        refine wp_region_lit ?_
        refine st_val hE26 (y_move hE26 rfl) rfl fun a30 hE30 => st_val hE30 (y_add_in hE30 rfl rfl (m := ((i1 + 1 : Nat) : Int)) (by omega) (by omega) (by omega)) rfl fun a31 hE31 => st_val hE31 (y_assign hE31 rfl) rfl fun a32 hE32 => wpList_nil ?_
        clear hE26 hE30 hE31
        clear a26 a30 a31
        refine then_normal ⟨fu1, Nat.lt_succ_self _, (i1 + 1), by omega, by omega, hM, hE32.weaken ⟨rfl, rfl, rfl, trivial⟩, hS27⟩
    ·
      have hge1 : ¬ i1 < p0.length := by have := of_decide_eq_false hb15; omega
      obtain rfl : fu1 = 0 := by omega
      have hM := hM.trans (spec_SameAnswers_l1.eq_1 _ _ _)
      refine wp_exit ?_
      refine then_exit ?_
      refine then_exit ?_
      refine blk_exit ?_
      refine then_normal ?_
      refine wp_seq (wp_region_lit ?_)
      refine st_val hE14 (y_assign hE14 rfl) rfl fun a33 hE33 => wpList_nil ?_
      clear hE14
      clear a14
      refine then_normal ?_
      refine wp_ret ?_
      exact fin1 hE33 rfl rfl ⟨by rw [hM], hS10.below⟩

/- F88 loop.example/g00974/impl.SameSteps -/
def impl_SameSteps (p0 : List Step) (p1 : List Step) : Bool := (slices_Equal_Step p0 p1)
theorem c_impl_SameSteps {v0 : Value} (p0 : List Step) {v1 : Value} (p1 : List Step) {w : World} (hp0 : SlR (Old w) w v0 p0) (hp1 : SlR (Old w) w v1 p1) :
    Calls Try.prog 88 [v0, v1].toArray w (fun e w' => e = .returned (.bool (impl_SameSteps p0 p1)) ∧ Below w.heap.size w w') := by
  obtain ⟨A0, cap0, rfl, hx0⟩ := hp0.form
  obtain ⟨A1, cap1, rfl, hx1⟩ := hp1.form
  refine enter Try.func88 rfl Try.ntmps88 (Nat.le_of_ble_eq_true rfl) ?_
  intro a0 hE0
  have hS0 := SH.start w
  have hM := impl_SameSteps.eq_1 p0 p1
  refine wp_seq (wp_region_lit ?_)
  refine st_val hE0 (y_assign hE0 rfl) rfl fun a1 hE1 => wpList_nil ?_
  clear hE0
  clear a0
  refine then_normal ?_
  refine wp_seq (wp_region_lit ?_)
  refine st_val hE1 (y_move hE1 rfl) rfl fun a2 hE2 => st_val hE2 (y_move hE2 rfl) rfl fun a3 hE3 => st_callF hE3 hS0 Try.func104 fb104 fn104 (c_slices_Equal_Step p0 p1 (hS0.up hp0) (hS0.up hp1)) rfl rfl fun w4 hS4 a5 hE5 => st_val hE5 (y_assign hE5 rfl) rfl fun a6 hE6 => wpList_nil ?_
  clear hE1 hE2 hE3 hE5
  clear a1 a2 a3 a5
  refine then_normal ?_
  refine wp_ret ?_
  exact fin1 hE6 rfl rfl ⟨by rw [hM], hS4.below⟩

/- F89 loop.example/g00974/impl.SameAnswers -/
def impl_SameAnswers (p0 : List Answer) (p1 : List Answer) : Bool := (slices_Equal_Answer p0 p1)
theorem c_impl_SameAnswers {v0 : Value} (p0 : List Answer) {v1 : Value} (p1 : List Answer) {w : World} (hp0 : SlR (Old w) w v0 p0) (hp1 : SlR (Old w) w v1 p1) :
    Calls Try.prog 89 [v0, v1].toArray w (fun e w' => e = .returned (.bool (impl_SameAnswers p0 p1)) ∧ Below w.heap.size w w') := by
  obtain ⟨A0, cap0, rfl, hx0⟩ := hp0.form
  obtain ⟨A1, cap1, rfl, hx1⟩ := hp1.form
  refine enter Try.func89 rfl Try.ntmps89 (Nat.le_of_ble_eq_true rfl) ?_
  intro a0 hE0
  have hS0 := SH.start w
  have hM := impl_SameAnswers.eq_1 p0 p1
  refine wp_seq (wp_region_lit ?_)
  refine st_val hE0 (y_assign hE0 rfl) rfl fun a1 hE1 => wpList_nil ?_
  clear hE0
  clear a0
  refine then_normal ?_
  refine wp_seq (wp_region_lit ?_)
  refine st_val hE1 (y_move hE1 rfl) rfl fun a2 hE2 => st_val hE2 (y_move hE2 rfl) rfl fun a3 hE3 => st_callF hE3 hS0 Try.func105 fb105 fn105 (c_slices_Equal_Answer p0 p1 (hS0.up hp0) (hS0.up hp1)) rfl rfl fun w4 hS4 a5 hE5 => st_val hE5 (y_assign hE5 rfl) rfl fun a6 hE6 => wpList_nil ?_
  clear hE1 hE2 hE3 hE5
  clear a1 a2 a3 a5
  refine then_normal ?_
  refine wp_ret ?_
  exact fin1 hE6 rfl rfl ⟨by rw [hM], hS4.below⟩

/- F63 loop.example/g00974/spec.l26SameEntry -/
def spec_l26SameEntry (p0 : Entry) (p1 : Entry) : Bool := (((((((decide (p0.Seq = p1.Seq)) && (decide (p0.Kind = p1.Kind))) && (decide (p0.Tx = p1.Tx))) && (decide (p0.Began = p1.Began))) && (decide (p0.Ended = p1.Ended))) && (decide (p0.Laid = p1.Laid))) && (spec_SameSteps p0.Steps p1.Steps)) && (spec_SameAnswers p0.Answers p1.Answers)
theorem c_spec_l26SameEntry {c0 : List Value} (p0 : Entry) {c1 : List Value} (p1 : Entry) {w : World} (hp0 : Dat.rd (Old w) w c0 p0) (hp1 : Dat.rd (Old w) w c1 p1) :
    Calls Try.prog 63 [.agg c0.toArray, .agg c1.toArray].toArray w (fun e w' => e = .returned (.bool (spec_l26SameEntry p0 p1)) ∧ Below w.heap.size w w') := by
  obtain ⟨v90000_3, v90000_4, rfl, hg90000_0, hg90000_1, hg90000_2, hv90000_3, hv90000_4, hg90000_5, hg90000_6, _⟩ := Entry_open hp0
  obtain ⟨A90000_3, cp90000_3, rfl, hx90000_3⟩ := hv90000_3.form
  obtain ⟨A90000_4, cp90000_4, rfl, hx90000_4⟩ := hv90000_4.form
  obtain ⟨v90001_3, v90001_4, rfl, hg90001_0, hg90001_1, hg90001_2, hv90001_3, hv90001_4, hg90001_5, hg90001_6, _⟩ := Entry_open hp1
  obtain ⟨A90001_3, cp90001_3, rfl, hx90001_3⟩ := hv90001_3.form
  obtain ⟨A90001_4, cp90001_4, rfl, hx90001_4⟩ := hv90001_4.form
  refine enter Try.func63 rfl Try.ntmps63 (Nat.le_of_ble_eq_true rfl) ?_
  intro a0 hE0
  have hS0 := SH.start w
  have hM := spec_l26SameEntry.eq_1 p0 p1
  refine wp_seq (wp_region_lit ?_)
  refine st_box hE0 hS0 rfl rfl rfl fun b1 w1 hS1 a2 hE2 => st_box hE2 hS1 rfl rfl rfl fun b3 w3 hS3 a4 hE4 => st_val hE4 (y_assign hE4 rfl) rfl fun a5 hE5 => wpList_nil ?_
  clear hE0 hE2 hE4
  clear a0 a2 a4
  refine then_normal ?_
  refine wp_seq (wp_region_lit ?_)
  refine st_val hE5 (y_fieldAddr hE5 rfl fa74_0 rfl) rfl fun a6 hE6 => st_val hE6 (y_load_one hE6 rfl (hS3.cells (k := 1) rfl) rfl one3) rfl fun a7 hE7 => st_val hE7 (y_fieldAddr hE7 rfl fa74_0 rfl) rfl fun a8 hE8 => st_val hE8 (y_load_one hE8 rfl (hS3.cells (k := 0) rfl) rfl one3) rfl fun a9 hE9 => st_val hE9 (y_eql hE9 rfl rfl) rfl fun a10 hE10 => st_val hE10 (y_move hE10 rfl) rfl fun a11 hE11 => ?_
  refine st_mid 6 (fun a w2 => ∃ r : Bool, r = ((decide (p0.Seq = p1.Seq)) && (decide (p0.Kind = p1.Kind))) ∧ SH (Old w) w w2 [Ck.var b3 [.int .i64 p1.Seq, .int .i64 p1.Kind, .int .i64 p1.Tx, .slice A90001_3 p1.Steps.length cp90001_3, .slice A90001_4 p1.Answers.length cp90001_4, .int .i64 p1.Began, .int .i64 p1.Ended, .bool p1.Laid] 74, Ck.var b1 [.int .i64 p0.Seq, .int .i64 p0.Kind, .int .i64 p0.Tx, .slice A90000_3 p0.Steps.length cp90000_3, .slice A90000_4 p0.Answers.length cp90000_4, .int .i64 p0.Began, .int .i64 p0.Ended, .bool p0.Laid] 74] ∧ Env 59 ((16, .bool r) :: [(0, .agg [.int .i64 p0.Seq, .int .i64 p0.Kind, .int .i64 p0.Tx, .slice A90000_3 p0.Steps.length cp90000_3, .slice A90000_4 p0.Answers.length cp90000_4, .int .i64 p0.Began, .int .i64 p0.Ended, .bool p0.Laid].toArray), (1, .agg [.int .i64 p1.Seq, .int .i64 p1.Kind, .int .i64 p1.Tx, .slice A90001_3 p1.Steps.length cp90001_3, .slice A90001_4 p1.Answers.length cp90001_4, .int .i64 p1.Began, .int .i64 p1.Ended, .bool p1.Laid].toArray), (2, .pointer (some ((⟨b1, 0, none⟩ : Addr).add 0))), (3, .pointer (some ((⟨b3, 0, none⟩ : Addr).add 0))), (4, .bool false), (5, .pointer (some ((⟨b1, 0, none⟩ : Addr).add 0))), (6, .int .i64 p0.Seq), (7, .pointer (some ((⟨b3, 0, none⟩ : Addr).add 0))), (8, .int .i64 p1.Seq), (9, .bool (decide (p0.Seq = p1.Seq))), (10, .bool (decide (p0.Seq = p1.Seq)))]) a) ?_ ?_
  ·
    rcases Bool.eq_false_or_eq_true (decide (p0.Seq = p1.Seq)) with hb13 | hb13
    ·
      have hb13f : p0.Seq = p1.Seq := by simpa using hb13
      refine st_run hE11 rfl rfl rfl hb13 <| st_val hE11 (y_fieldAddr hE11 rfl fa74_1 rfl) rfl fun a14 hE14 => st_run hE14 rfl rfl rfl hb13 <| st_val hE14 (y_load_one hE14 rfl (hS3.cells (k := 1) rfl) rfl one3) rfl fun a15 hE15 => st_run hE15 rfl rfl rfl hb13 <| st_val hE15 (y_fieldAddr hE15 rfl fa74_1 rfl) rfl fun a16 hE16 => st_run hE16 rfl rfl rfl hb13 <| st_val hE16 (y_load_one hE16 rfl (hS3.cells (k := 0) rfl) rfl one3) rfl fun a17 hE17 => st_run hE17 rfl rfl rfl hb13 <| st_val hE17 (y_eql hE17 rfl rfl) rfl fun a18 hE18 => st_val hE18 (y_pick_t hE18 rfl hb13 rfl) rfl fun a19 hE19 => wpList_nil ?_
      exact ⟨decide (p0.Kind = p1.Kind), by simp only [hb13, Bool.true_and, Bool.false_and, Bool.true_or, Bool.false_or, Bool.and_true, Bool.or_true, Bool.and_false, Bool.or_false], hS3, hE19.weaken ⟨rfl, rfl, rfl, rfl, rfl, rfl, rfl, rfl, rfl, rfl, rfl, rfl, trivial⟩⟩
    ·
      have hb13f : ¬ (p0.Seq = p1.Seq) := by simpa using hb13
      refine st_skip hE11 rfl rfl rfl hb13 rfl fun a20 hE20 => st_skip hE20 rfl rfl rfl hb13 rfl fun a21 hE21 => st_skip hE21 rfl rfl rfl hb13 rfl fun a22 hE22 => st_skip hE22 rfl rfl rfl hb13 rfl fun a23 hE23 => st_skip hE23 rfl rfl rfl hb13 rfl fun a24 hE24 => st_val hE24 (y_pick_f hE24 rfl hb13 rfl) rfl fun a25 hE25 => wpList_nil ?_
      exact ⟨false, by simp only [hb13, Bool.true_and, Bool.false_and, Bool.true_or, Bool.false_or, Bool.and_true, Bool.or_true, Bool.and_false, Bool.or_false], hS3, hE25.weaken ⟨rfl, rfl, rfl, rfl, rfl, rfl, rfl, rfl, rfl, rfl, rfl, rfl, trivial⟩⟩
  rintro a26 w26 ⟨r26, hr26, hS26, hE26⟩
  subst hr26
  clear hE11 hE5 hE6 hE7 hE8 hE9 hE10
  refine st_val hE26 (y_move hE26 rfl) rfl fun a27 hE27 => ?_
  refine st_mid 6 (fun a w2 => ∃ r : Bool, r = (((decide (p0.Seq = p1.Seq)) && (decide (p0.Kind = p1.Kind))) && (decide (p0.Tx = p1.Tx))) ∧ SH (Old w) w w2 [Ck.var b3 [.int .i64 p1.Seq, .int .i64 p1.Kind, .int .i64 p1.Tx, .slice A90001_3 p1.Steps.length cp90001_3, .slice A90001_4 p1.Answers.length cp90001_4, .int .i64 p1.Began, .int .i64 p1.Ended, .bool p1.Laid] 74, Ck.var b1 [.int .i64 p0.Seq, .int .i64 p0.Kind, .int .i64 p0.Tx, .slice A90000_3 p0.Steps.length cp90000_3, .slice A90000_4 p0.Answers.length cp90000_4, .int .i64 p0.Began, .int .i64 p0.Ended, .bool p0.Laid] 74] ∧ Env 59 ((23, .bool r) :: [(0, .agg [.int .i64 p0.Seq, .int .i64 p0.Kind, .int .i64 p0.Tx, .slice A90000_3 p0.Steps.length cp90000_3, .slice A90000_4 p0.Answers.length cp90000_4, .int .i64 p0.Began, .int .i64 p0.Ended, .bool p0.Laid].toArray), (1, .agg [.int .i64 p1.Seq, .int .i64 p1.Kind, .int .i64 p1.Tx, .slice A90001_3 p1.Steps.length cp90001_3, .slice A90001_4 p1.Answers.length cp90001_4, .int .i64 p1.Began, .int .i64 p1.Ended, .bool p1.Laid].toArray), (2, .pointer (some ((⟨b1, 0, none⟩ : Addr).add 0))), (3, .pointer (some ((⟨b3, 0, none⟩ : Addr).add 0))), (4, .bool false), (5, .pointer (some ((⟨b1, 0, none⟩ : Addr).add 0))), (6, .int .i64 p0.Seq), (7, .pointer (some ((⟨b3, 0, none⟩ : Addr).add 0))), (8, .int .i64 p1.Seq), (9, .bool (decide (p0.Seq = p1.Seq))), (10, .bool (decide (p0.Seq = p1.Seq))), (16, .bool ((decide (p0.Seq = p1.Seq)) && (decide (p0.Kind = p1.Kind)))), (17, .bool ((decide (p0.Seq = p1.Seq)) && (decide (p0.Kind = p1.Kind))))]) a) ?_ ?_
  ·
    rcases Bool.eq_false_or_eq_true ((decide (p0.Seq = p1.Seq)) && (decide (p0.Kind = p1.Kind))) with hb29 | hb29
    ·
      refine st_run hE27 rfl rfl rfl hb29 <| st_val hE27 (y_fieldAddr hE27 rfl fa74_2 rfl) rfl fun a30 hE30 => st_run hE30 rfl rfl rfl hb29 <| st_val hE30 (y_load_one hE30 rfl (hS26.cells (k := 1) rfl) rfl one3) rfl fun a31 hE31 => st_run hE31 rfl rfl rfl hb29 <| st_val hE31 (y_fieldAddr hE31 rfl fa74_2 rfl) rfl fun a32 hE32 => st_run hE32 rfl rfl rfl hb29 <| st_val hE32 (y_load_one hE32 rfl (hS26.cells (k := 0) rfl) rfl one3) rfl fun a33 hE33 => st_run hE33 rfl rfl rfl hb29 <| st_val hE33 (y_eql hE33 rfl rfl) rfl fun a34 hE34 => st_val hE34 (y_pick_t hE34 rfl hb29 rfl) rfl fun a35 hE35 => wpList_nil ?_
      exact ⟨decide (p0.Tx = p1.Tx), by simp only [hb29, Bool.true_and, Bool.false_and, Bool.true_or, Bool.false_or, Bool.and_true, Bool.or_true, Bool.and_false, Bool.or_false], hS26, hE35.weaken ⟨rfl, rfl, rfl, rfl, rfl, rfl, rfl, rfl, rfl, rfl, rfl, rfl, rfl, rfl, trivial⟩⟩
    ·
      refine st_skip hE27 rfl rfl rfl hb29 rfl fun a36 hE36 => st_skip hE36 rfl rfl rfl hb29 rfl fun a37 hE37 => st_skip hE37 rfl rfl rfl hb29 rfl fun a38 hE38 => st_skip hE38 rfl rfl rfl hb29 rfl fun a39 hE39 => st_skip hE39 rfl rfl rfl hb29 rfl fun a40 hE40 => st_val hE40 (y_pick_f hE40 rfl hb29 rfl) rfl fun a41 hE41 => wpList_nil ?_
      exact ⟨false, by simp only [hb29, Bool.true_and, Bool.false_and, Bool.true_or, Bool.false_or, Bool.and_true, Bool.or_true, Bool.and_false, Bool.or_false], hS26, hE41.weaken ⟨rfl, rfl, rfl, rfl, rfl, rfl, rfl, rfl, rfl, rfl, rfl, rfl, rfl, rfl, trivial⟩⟩
  rintro a42 w42 ⟨r42, hr42, hS42, hE42⟩
  subst hr42
  clear hE27 hE26
  refine st_val hE42 (y_move hE42 rfl) rfl fun a43 hE43 => ?_
  refine st_mid 6 (fun a w2 => ∃ r : Bool, r = ((((decide (p0.Seq = p1.Seq)) && (decide (p0.Kind = p1.Kind))) && (decide (p0.Tx = p1.Tx))) && (decide (p0.Began = p1.Began))) ∧ SH (Old w) w w2 [Ck.var b3 [.int .i64 p1.Seq, .int .i64 p1.Kind, .int .i64 p1.Tx, .slice A90001_3 p1.Steps.length cp90001_3, .slice A90001_4 p1.Answers.length cp90001_4, .int .i64 p1.Began, .int .i64 p1.Ended, .bool p1.Laid] 74, Ck.var b1 [.int .i64 p0.Seq, .int .i64 p0.Kind, .int .i64 p0.Tx, .slice A90000_3 p0.Steps.length cp90000_3, .slice A90000_4 p0.Answers.length cp90000_4, .int .i64 p0.Began, .int .i64 p0.Ended, .bool p0.Laid] 74] ∧ Env 59 ((30, .bool r) :: [(0, .agg [.int .i64 p0.Seq, .int .i64 p0.Kind, .int .i64 p0.Tx, .slice A90000_3 p0.Steps.length cp90000_3, .slice A90000_4 p0.Answers.length cp90000_4, .int .i64 p0.Began, .int .i64 p0.Ended, .bool p0.Laid].toArray), (1, .agg [.int .i64 p1.Seq, .int .i64 p1.Kind, .int .i64 p1.Tx, .slice A90001_3 p1.Steps.length cp90001_3, .slice A90001_4 p1.Answers.length cp90001_4, .int .i64 p1.Began, .int .i64 p1.Ended, .bool p1.Laid].toArray), (2, .pointer (some ((⟨b1, 0, none⟩ : Addr).add 0))), (3, .pointer (some ((⟨b3, 0, none⟩ : Addr).add 0))), (4, .bool false), (5, .pointer (some ((⟨b1, 0, none⟩ : Addr).add 0))), (6, .int .i64 p0.Seq), (7, .pointer (some ((⟨b3, 0, none⟩ : Addr).add 0))), (8, .int .i64 p1.Seq), (9, .bool (decide (p0.Seq = p1.Seq))), (10, .bool (decide (p0.Seq = p1.Seq))), (16, .bool ((decide (p0.Seq = p1.Seq)) && (decide (p0.Kind = p1.Kind)))), (17, .bool ((decide (p0.Seq = p1.Seq)) && (decide (p0.Kind = p1.Kind)))), (23, .bool (((decide (p0.Seq = p1.Seq)) && (decide (p0.Kind = p1.Kind))) && (decide (p0.Tx = p1.Tx)))), (24, .bool (((decide (p0.Seq = p1.Seq)) && (decide (p0.Kind = p1.Kind))) && (decide (p0.Tx = p1.Tx))))]) a) ?_ ?_
  ·
    rcases Bool.eq_false_or_eq_true (((decide (p0.Seq = p1.Seq)) && (decide (p0.Kind = p1.Kind))) && (decide (p0.Tx = p1.Tx))) with hb45 | hb45
    ·
      refine st_run hE43 rfl rfl rfl hb45 <| st_val hE43 (y_fieldAddr hE43 rfl fa74_5 rfl) rfl fun a46 hE46 => st_run hE46 rfl rfl rfl hb45 <| st_val hE46 (y_load_one hE46 rfl (hS42.cells (k := 1) rfl) rfl one3) rfl fun a47 hE47 => st_run hE47 rfl rfl rfl hb45 <| st_val hE47 (y_fieldAddr hE47 rfl fa74_5 rfl) rfl fun a48 hE48 => st_run hE48 rfl rfl rfl hb45 <| st_val hE48 (y_load_one hE48 rfl (hS42.cells (k := 0) rfl) rfl one3) rfl fun a49 hE49 => st_run hE49 rfl rfl rfl hb45 <| st_val hE49 (y_eql hE49 rfl rfl) rfl fun a50 hE50 => st_val hE50 (y_pick_t hE50 rfl hb45 rfl) rfl fun a51 hE51 => wpList_nil ?_
      exact ⟨decide (p0.Began = p1.Began), by simp only [hb45, Bool.true_and, Bool.false_and, Bool.true_or, Bool.false_or, Bool.and_true, Bool.or_true, Bool.and_false, Bool.or_false], hS42, hE51.weaken ⟨rfl, rfl, rfl, rfl, rfl, rfl, rfl, rfl, rfl, rfl, rfl, rfl, rfl, rfl, rfl, rfl, trivial⟩⟩
    ·
      refine st_skip hE43 rfl rfl rfl hb45 rfl fun a52 hE52 => st_skip hE52 rfl rfl rfl hb45 rfl fun a53 hE53 => st_skip hE53 rfl rfl rfl hb45 rfl fun a54 hE54 => st_skip hE54 rfl rfl rfl hb45 rfl fun a55 hE55 => st_skip hE55 rfl rfl rfl hb45 rfl fun a56 hE56 => st_val hE56 (y_pick_f hE56 rfl hb45 rfl) rfl fun a57 hE57 => wpList_nil ?_
      exact ⟨false, by simp only [hb45, Bool.true_and, Bool.false_and, Bool.true_or, Bool.false_or, Bool.and_true, Bool.or_true, Bool.and_false, Bool.or_false], hS42, hE57.weaken ⟨rfl, rfl, rfl, rfl, rfl, rfl, rfl, rfl, rfl, rfl, rfl, rfl, rfl, rfl, rfl, rfl, trivial⟩⟩
  rintro a58 w58 ⟨r58, hr58, hS58, hE58⟩
  subst hr58
  clear hE43 hE42
  refine st_val hE58 (y_move hE58 rfl) rfl fun a59 hE59 => ?_
  refine st_mid 6 (fun a w2 => ∃ r : Bool, r = (((((decide (p0.Seq = p1.Seq)) && (decide (p0.Kind = p1.Kind))) && (decide (p0.Tx = p1.Tx))) && (decide (p0.Began = p1.Began))) && (decide (p0.Ended = p1.Ended))) ∧ SH (Old w) w w2 [Ck.var b3 [.int .i64 p1.Seq, .int .i64 p1.Kind, .int .i64 p1.Tx, .slice A90001_3 p1.Steps.length cp90001_3, .slice A90001_4 p1.Answers.length cp90001_4, .int .i64 p1.Began, .int .i64 p1.Ended, .bool p1.Laid] 74, Ck.var b1 [.int .i64 p0.Seq, .int .i64 p0.Kind, .int .i64 p0.Tx, .slice A90000_3 p0.Steps.length cp90000_3, .slice A90000_4 p0.Answers.length cp90000_4, .int .i64 p0.Began, .int .i64 p0.Ended, .bool p0.Laid] 74] ∧ Env 59 ((37, .bool r) :: [(0, .agg [.int .i64 p0.Seq, .int .i64 p0.Kind, .int .i64 p0.Tx, .slice A90000_3 p0.Steps.length cp90000_3, .slice A90000_4 p0.Answers.length cp90000_4, .int .i64 p0.Began, .int .i64 p0.Ended, .bool p0.Laid].toArray), (1, .agg [.int .i64 p1.Seq, .int .i64 p1.Kind, .int .i64 p1.Tx, .slice A90001_3 p1.Steps.length cp90001_3, .slice A90001_4 p1.Answers.length cp90001_4, .int .i64 p1.Began, .int .i64 p1.Ended, .bool p1.Laid].toArray), (2, .pointer (some ((⟨b1, 0, none⟩ : Addr).add 0))), (3, .pointer (some ((⟨b3, 0, none⟩ : Addr).add 0))), (4, .bool false), (5, .pointer (some ((⟨b1, 0, none⟩ : Addr).add 0))), (6, .int .i64 p0.Seq), (7, .pointer (some ((⟨b3, 0, none⟩ : Addr).add 0))), (8, .int .i64 p1.Seq), (9, .bool (decide (p0.Seq = p1.Seq))), (10, .bool (decide (p0.Seq = p1.Seq))), (16, .bool ((decide (p0.Seq = p1.Seq)) && (decide (p0.Kind = p1.Kind)))), (17, .bool ((decide (p0.Seq = p1.Seq)) && (decide (p0.Kind = p1.Kind)))), (23, .bool (((decide (p0.Seq = p1.Seq)) && (decide (p0.Kind = p1.Kind))) && (decide (p0.Tx = p1.Tx)))), (24, .bool (((decide (p0.Seq = p1.Seq)) && (decide (p0.Kind = p1.Kind))) && (decide (p0.Tx = p1.Tx)))), (30, .bool ((((decide (p0.Seq = p1.Seq)) && (decide (p0.Kind = p1.Kind))) && (decide (p0.Tx = p1.Tx))) && (decide (p0.Began = p1.Began)))), (31, .bool ((((decide (p0.Seq = p1.Seq)) && (decide (p0.Kind = p1.Kind))) && (decide (p0.Tx = p1.Tx))) && (decide (p0.Began = p1.Began))))]) a) ?_ ?_
  ·
    rcases Bool.eq_false_or_eq_true ((((decide (p0.Seq = p1.Seq)) && (decide (p0.Kind = p1.Kind))) && (decide (p0.Tx = p1.Tx))) && (decide (p0.Began = p1.Began))) with hb61 | hb61
    ·
      refine st_run hE59 rfl rfl rfl hb61 <| st_val hE59 (y_fieldAddr hE59 rfl fa74_6 rfl) rfl fun a62 hE62 => st_run hE62 rfl rfl rfl hb61 <| st_val hE62 (y_load_one hE62 rfl (hS58.cells (k := 1) rfl) rfl one3) rfl fun a63 hE63 => st_run hE63 rfl rfl rfl hb61 <| st_val hE63 (y_fieldAddr hE63 rfl fa74_6 rfl) rfl fun a64 hE64 => st_run hE64 rfl rfl rfl hb61 <| st_val hE64 (y_load_one hE64 rfl (hS58.cells (k := 0) rfl) rfl one3) rfl fun a65 hE65 => st_run hE65 rfl rfl rfl hb61 <| st_val hE65 (y_eql hE65 rfl rfl) rfl fun a66 hE66 => st_val hE66 (y_pick_t hE66 rfl hb61 rfl) rfl fun a67 hE67 => wpList_nil ?_
      exact ⟨decide (p0.Ended = p1.Ended), by simp only [hb61, Bool.true_and, Bool.false_and, Bool.true_or, Bool.false_or, Bool.and_true, Bool.or_true, Bool.and_false, Bool.or_false], hS58, hE67.weaken ⟨rfl, rfl, rfl, rfl, rfl, rfl, rfl, rfl, rfl, rfl, rfl, rfl, rfl, rfl, rfl, rfl, rfl, rfl, trivial⟩⟩
    ·
      refine st_skip hE59 rfl rfl rfl hb61 rfl fun a68 hE68 => st_skip hE68 rfl rfl rfl hb61 rfl fun a69 hE69 => st_skip hE69 rfl rfl rfl hb61 rfl fun a70 hE70 => st_skip hE70 rfl rfl rfl hb61 rfl fun a71 hE71 => st_skip hE71 rfl rfl rfl hb61 rfl fun a72 hE72 => st_val hE72 (y_pick_f hE72 rfl hb61 rfl) rfl fun a73 hE73 => wpList_nil ?_
      exact ⟨false, by simp only [hb61, Bool.true_and, Bool.false_and, Bool.true_or, Bool.false_or, Bool.and_true, Bool.or_true, Bool.and_false, Bool.or_false], hS58, hE73.weaken ⟨rfl, rfl, rfl, rfl, rfl, rfl, rfl, rfl, rfl, rfl, rfl, rfl, rfl, rfl, rfl, rfl, rfl, rfl, trivial⟩⟩
  rintro a74 w74 ⟨r74, hr74, hS74, hE74⟩
  subst hr74
  clear hE59 hE58
  refine st_val hE74 (y_move hE74 rfl) rfl fun a75 hE75 => ?_
  refine st_mid 6 (fun a w2 => ∃ r : Bool, r = ((((((decide (p0.Seq = p1.Seq)) && (decide (p0.Kind = p1.Kind))) && (decide (p0.Tx = p1.Tx))) && (decide (p0.Began = p1.Began))) && (decide (p0.Ended = p1.Ended))) && (decide (p0.Laid = p1.Laid))) ∧ SH (Old w) w w2 [Ck.var b3 [.int .i64 p1.Seq, .int .i64 p1.Kind, .int .i64 p1.Tx, .slice A90001_3 p1.Steps.length cp90001_3, .slice A90001_4 p1.Answers.length cp90001_4, .int .i64 p1.Began, .int .i64 p1.Ended, .bool p1.Laid] 74, Ck.var b1 [.int .i64 p0.Seq, .int .i64 p0.Kind, .int .i64 p0.Tx, .slice A90000_3 p0.Steps.length cp90000_3, .slice A90000_4 p0.Answers.length cp90000_4, .int .i64 p0.Began, .int .i64 p0.Ended, .bool p0.Laid] 74] ∧ Env 59 ((44, .bool r) :: [(0, .agg [.int .i64 p0.Seq, .int .i64 p0.Kind, .int .i64 p0.Tx, .slice A90000_3 p0.Steps.length cp90000_3, .slice A90000_4 p0.Answers.length cp90000_4, .int .i64 p0.Began, .int .i64 p0.Ended, .bool p0.Laid].toArray), (1, .agg [.int .i64 p1.Seq, .int .i64 p1.Kind, .int .i64 p1.Tx, .slice A90001_3 p1.Steps.length cp90001_3, .slice A90001_4 p1.Answers.length cp90001_4, .int .i64 p1.Began, .int .i64 p1.Ended, .bool p1.Laid].toArray), (2, .pointer (some ((⟨b1, 0, none⟩ : Addr).add 0))), (3, .pointer (some ((⟨b3, 0, none⟩ : Addr).add 0))), (4, .bool false), (5, .pointer (some ((⟨b1, 0, none⟩ : Addr).add 0))), (6, .int .i64 p0.Seq), (7, .pointer (some ((⟨b3, 0, none⟩ : Addr).add 0))), (8, .int .i64 p1.Seq), (9, .bool (decide (p0.Seq = p1.Seq))), (10, .bool (decide (p0.Seq = p1.Seq))), (16, .bool ((decide (p0.Seq = p1.Seq)) && (decide (p0.Kind = p1.Kind)))), (17, .bool ((decide (p0.Seq = p1.Seq)) && (decide (p0.Kind = p1.Kind)))), (23, .bool (((decide (p0.Seq = p1.Seq)) && (decide (p0.Kind = p1.Kind))) && (decide (p0.Tx = p1.Tx)))), (24, .bool (((decide (p0.Seq = p1.Seq)) && (decide (p0.Kind = p1.Kind))) && (decide (p0.Tx = p1.Tx)))), (30, .bool ((((decide (p0.Seq = p1.Seq)) && (decide (p0.Kind = p1.Kind))) && (decide (p0.Tx = p1.Tx))) && (decide (p0.Began = p1.Began)))), (31, .bool ((((decide (p0.Seq = p1.Seq)) && (decide (p0.Kind = p1.Kind))) && (decide (p0.Tx = p1.Tx))) && (decide (p0.Began = p1.Began)))), (37, .bool (((((decide (p0.Seq = p1.Seq)) && (decide (p0.Kind = p1.Kind))) && (decide (p0.Tx = p1.Tx))) && (decide (p0.Began = p1.Began))) && (decide (p0.Ended = p1.Ended)))), (38, .bool (((((decide (p0.Seq = p1.Seq)) && (decide (p0.Kind = p1.Kind))) && (decide (p0.Tx = p1.Tx))) && (decide (p0.Began = p1.Began))) && (decide (p0.Ended = p1.Ended))))]) a) ?_ ?_
  ·
    rcases Bool.eq_false_or_eq_true (((((decide (p0.Seq = p1.Seq)) && (decide (p0.Kind = p1.Kind))) && (decide (p0.Tx = p1.Tx))) && (decide (p0.Began = p1.Began))) && (decide (p0.Ended = p1.Ended))) with hb77 | hb77
    ·
      refine st_run hE75 rfl rfl rfl hb77 <| st_val hE75 (y_fieldAddr hE75 rfl fa74_7 rfl) rfl fun a78 hE78 => st_run hE78 rfl rfl rfl hb77 <| st_val hE78 (y_load_one hE78 rfl (hS74.cells (k := 1) rfl) rfl one4) rfl fun a79 hE79 => st_run hE79 rfl rfl rfl hb77 <| st_val hE79 (y_fieldAddr hE79 rfl fa74_7 rfl) rfl fun a80 hE80 => st_run hE80 rfl rfl rfl hb77 <| st_val hE80 (y_load_one hE80 rfl (hS74.cells (k := 0) rfl) rfl one4) rfl fun a81 hE81 => st_run hE81 rfl rfl rfl hb77 <| st_val hE81 (y_eql_bool hE81 rfl rfl Try.underlying4) rfl fun a82 hE82 => st_val hE82 (y_pick_t hE82 rfl hb77 rfl) rfl fun a83 hE83 => wpList_nil ?_
      exact ⟨decide (p0.Laid = p1.Laid), by simp only [hb77, Bool.true_and, Bool.false_and, Bool.true_or, Bool.false_or, Bool.and_true, Bool.or_true, Bool.and_false, Bool.or_false], hS74, hE83.weaken ⟨rfl, rfl, rfl, rfl, rfl, rfl, rfl, rfl, rfl, rfl, rfl, rfl, rfl, rfl, rfl, rfl, rfl, rfl, rfl, rfl, trivial⟩⟩
    ·
      refine st_skip hE75 rfl rfl rfl hb77 rfl fun a84 hE84 => st_skip hE84 rfl rfl rfl hb77 rfl fun a85 hE85 => st_skip hE85 rfl rfl rfl hb77 rfl fun a86 hE86 => st_skip hE86 rfl rfl rfl hb77 rfl fun a87 hE87 => st_skip hE87 rfl rfl rfl hb77 rfl fun a88 hE88 => st_val hE88 (y_pick_f hE88 rfl hb77 rfl) rfl fun a89 hE89 => wpList_nil ?_
      exact ⟨false, by simp only [hb77, Bool.true_and, Bool.false_and, Bool.true_or, Bool.false_or, Bool.and_true, Bool.or_true, Bool.and_false, Bool.or_false], hS74, hE89.weaken ⟨rfl, rfl, rfl, rfl, rfl, rfl, rfl, rfl, rfl, rfl, rfl, rfl, rfl, rfl, rfl, rfl, rfl, rfl, rfl, rfl, trivial⟩⟩
  rintro a90 w90 ⟨r90, hr90, hS90, hE90⟩
  subst hr90
  clear hE75 hE74
  refine st_val hE90 (y_move hE90 rfl) rfl fun a91 hE91 => ?_
  refine st_mid 6 (fun a w2 => ∃ r : Bool, r = (((((((decide (p0.Seq = p1.Seq)) && (decide (p0.Kind = p1.Kind))) && (decide (p0.Tx = p1.Tx))) && (decide (p0.Began = p1.Began))) && (decide (p0.Ended = p1.Ended))) && (decide (p0.Laid = p1.Laid))) && (spec_SameSteps p0.Steps p1.Steps)) ∧ SH (Old w) w w2 [Ck.var b3 [.int .i64 p1.Seq, .int .i64 p1.Kind, .int .i64 p1.Tx, .slice A90001_3 p1.Steps.length cp90001_3, .slice A90001_4 p1.Answers.length cp90001_4, .int .i64 p1.Began, .int .i64 p1.Ended, .bool p1.Laid] 74, Ck.var b1 [.int .i64 p0.Seq, .int .i64 p0.Kind, .int .i64 p0.Tx, .slice A90000_3 p0.Steps.length cp90000_3, .slice A90000_4 p0.Answers.length cp90000_4, .int .i64 p0.Began, .int .i64 p0.Ended, .bool p0.Laid] 74] ∧ Env 59 ((51, .bool r) :: [(0, .agg [.int .i64 p0.Seq, .int .i64 p0.Kind, .int .i64 p0.Tx, .slice A90000_3 p0.Steps.length cp90000_3, .slice A90000_4 p0.Answers.length cp90000_4, .int .i64 p0.Began, .int .i64 p0.Ended, .bool p0.Laid].toArray), (1, .agg [.int .i64 p1.Seq, .int .i64 p1.Kind, .int .i64 p1.Tx, .slice A90001_3 p1.Steps.length cp90001_3, .slice A90001_4 p1.Answers.length cp90001_4, .int .i64 p1.Began, .int .i64 p1.Ended, .bool p1.Laid].toArray), (2, .pointer (some ((⟨b1, 0, none⟩ : Addr).add 0))), (3, .pointer (some ((⟨b3, 0, none⟩ : Addr).add 0))), (4, .bool false), (5, .pointer (some ((⟨b1, 0, none⟩ : Addr).add 0))), (6, .int .i64 p0.Seq), (7, .pointer (some ((⟨b3, 0, none⟩ : Addr).add 0))), (8, .int .i64 p1.Seq), (9, .bool (decide (p0.Seq = p1.Seq))), (10, .bool (decide (p0.Seq = p1.Seq))), (16, .bool ((decide (p0.Seq = p1.Seq)) && (decide (p0.Kind = p1.Kind)))), (17, .bool ((decide (p0.Seq = p1.Seq)) && (decide (p0.Kind = p1.Kind)))), (23, .bool (((decide (p0.Seq = p1.Seq)) && (decide (p0.Kind = p1.Kind))) && (decide (p0.Tx = p1.Tx)))), (24, .bool (((decide (p0.Seq = p1.Seq)) && (decide (p0.Kind = p1.Kind))) && (decide (p0.Tx = p1.Tx)))), (30, .bool ((((decide (p0.Seq = p1.Seq)) && (decide (p0.Kind = p1.Kind))) && (decide (p0.Tx = p1.Tx))) && (decide (p0.Began = p1.Began)))), (31, .bool ((((decide (p0.Seq = p1.Seq)) && (decide (p0.Kind = p1.Kind))) && (decide (p0.Tx = p1.Tx))) && (decide (p0.Began = p1.Began)))), (37, .bool (((((decide (p0.Seq = p1.Seq)) && (decide (p0.Kind = p1.Kind))) && (decide (p0.Tx = p1.Tx))) && (decide (p0.Began = p1.Began))) && (decide (p0.Ended = p1.Ended)))), (38, .bool (((((decide (p0.Seq = p1.Seq)) && (decide (p0.Kind = p1.Kind))) && (decide (p0.Tx = p1.Tx))) && (decide (p0.Began = p1.Began))) && (decide (p0.Ended = p1.Ended)))), (44, .bool ((((((decide (p0.Seq = p1.Seq)) && (decide (p0.Kind = p1.Kind))) && (decide (p0.Tx = p1.Tx))) && (decide (p0.Began = p1.Began))) && (decide (p0.Ended = p1.Ended))) && (decide (p0.Laid = p1.Laid)))), (45, .bool ((((((decide (p0.Seq = p1.Seq)) && (decide (p0.Kind = p1.Kind))) && (decide (p0.Tx = p1.Tx))) && (decide (p0.Began = p1.Began))) && (decide (p0.Ended = p1.Ended))) && (decide (p0.Laid = p1.Laid))))]) a) ?_ ?_
  ·
    rcases Bool.eq_false_or_eq_true ((((((decide (p0.Seq = p1.Seq)) && (decide (p0.Kind = p1.Kind))) && (decide (p0.Tx = p1.Tx))) && (decide (p0.Began = p1.Began))) && (decide (p0.Ended = p1.Ended))) && (decide (p0.Laid = p1.Laid))) with hb93 | hb93
    ·
      refine st_run hE91 rfl rfl rfl hb93 <| st_val hE91 (y_fieldAddr hE91 rfl fa74_3 rfl) rfl fun a94 hE94 => st_run hE94 rfl rfl rfl hb93 <| st_val hE94 (y_load_one hE94 rfl (hS90.cells (k := 1) rfl) rfl one71) rfl fun a95 hE95 => st_run hE95 rfl rfl rfl hb93 <| st_val hE95 (y_fieldAddr hE95 rfl fa74_3 rfl) rfl fun a96 hE96 => st_run hE96 rfl rfl rfl hb93 <| st_val hE96 (y_load_one hE96 rfl (hS90.cells (k := 0) rfl) rfl one71) rfl fun a97 hE97 => st_run hE97 rfl rfl rfl hb93 <| st_callF hE97 hS90 Try.func86 fb86 fn86 (c_spec_SameSteps p0.Steps p1.Steps (hS90.up hv90000_3) (hS90.up hv90001_3)) rfl rfl fun w98 hS98 a99 hE99 => st_val hE99 (y_pick_t hE99 rfl hb93 rfl) rfl fun a100 hE100 => wpList_nil ?_
      exact ⟨(spec_SameSteps p0.Steps p1.Steps), by simp only [hb93, Bool.true_and, Bool.false_and, Bool.true_or, Bool.false_or, Bool.and_true, Bool.or_true, Bool.and_false, Bool.or_false], hS98, hE100.weaken ⟨rfl, rfl, rfl, rfl, rfl, rfl, rfl, rfl, rfl, rfl, rfl, rfl, rfl, rfl, rfl, rfl, rfl, rfl, rfl, rfl, rfl, rfl, trivial⟩⟩
    ·
      refine st_skip hE91 rfl rfl rfl hb93 rfl fun a101 hE101 => st_skip hE101 rfl rfl rfl hb93 rfl fun a102 hE102 => st_skip hE102 rfl rfl rfl hb93 rfl fun a103 hE103 => st_skip hE103 rfl rfl rfl hb93 rfl fun a104 hE104 => st_skip hE104 rfl rfl rfl hb93 rfl fun a105 hE105 => st_val hE105 (y_pick_f hE105 rfl hb93 rfl) rfl fun a106 hE106 => wpList_nil ?_
      exact ⟨false, by simp only [hb93, Bool.true_and, Bool.false_and, Bool.true_or, Bool.false_or, Bool.and_true, Bool.or_true, Bool.and_false, Bool.or_false], hS90, hE106.weaken ⟨rfl, rfl, rfl, rfl, rfl, rfl, rfl, rfl, rfl, rfl, rfl, rfl, rfl, rfl, rfl, rfl, rfl, rfl, rfl, rfl, rfl, rfl, trivial⟩⟩
  rintro a107 w107 ⟨r107, hr107, hS107, hE107⟩
  subst hr107
  clear hE91 hE90
  refine st_val hE107 (y_move hE107 rfl) rfl fun a108 hE108 => ?_
  refine st_mid 6 (fun a w2 => ∃ r : Bool, r = ((((((((decide (p0.Seq = p1.Seq)) && (decide (p0.Kind = p1.Kind))) && (decide (p0.Tx = p1.Tx))) && (decide (p0.Began = p1.Began))) && (decide (p0.Ended = p1.Ended))) && (decide (p0.Laid = p1.Laid))) && (spec_SameSteps p0.Steps p1.Steps)) && (spec_SameAnswers p0.Answers p1.Answers)) ∧ SH (Old w) w w2 [Ck.var b3 [.int .i64 p1.Seq, .int .i64 p1.Kind, .int .i64 p1.Tx, .slice A90001_3 p1.Steps.length cp90001_3, .slice A90001_4 p1.Answers.length cp90001_4, .int .i64 p1.Began, .int .i64 p1.Ended, .bool p1.Laid] 74, Ck.var b1 [.int .i64 p0.Seq, .int .i64 p0.Kind, .int .i64 p0.Tx, .slice A90000_3 p0.Steps.length cp90000_3, .slice A90000_4 p0.Answers.length cp90000_4, .int .i64 p0.Began, .int .i64 p0.Ended, .bool p0.Laid] 74] ∧ Env 59 ((58, .bool r) :: [(0, .agg [.int .i64 p0.Seq, .int .i64 p0.Kind, .int .i64 p0.Tx, .slice A90000_3 p0.Steps.length cp90000_3, .slice A90000_4 p0.Answers.length cp90000_4, .int .i64 p0.Began, .int .i64 p0.Ended, .bool p0.Laid].toArray), (1, .agg [.int .i64 p1.Seq, .int .i64 p1.Kind, .int .i64 p1.Tx, .slice A90001_3 p1.Steps.length cp90001_3, .slice A90001_4 p1.Answers.length cp90001_4, .int .i64 p1.Began, .int .i64 p1.Ended, .bool p1.Laid].toArray), (2, .pointer (some ((⟨b1, 0, none⟩ : Addr).add 0))), (3, .pointer (some ((⟨b3, 0, none⟩ : Addr).add 0))), (4, .bool false), (5, .pointer (some ((⟨b1, 0, none⟩ : Addr).add 0))), (6, .int .i64 p0.Seq), (7, .pointer (some ((⟨b3, 0, none⟩ : Addr).add 0))), (8, .int .i64 p1.Seq), (9, .bool (decide (p0.Seq = p1.Seq))), (10, .bool (decide (p0.Seq = p1.Seq))), (16, .bool ((decide (p0.Seq = p1.Seq)) && (decide (p0.Kind = p1.Kind)))), (17, .bool ((decide (p0.Seq = p1.Seq)) && (decide (p0.Kind = p1.Kind)))), (23, .bool (((decide (p0.Seq = p1.Seq)) && (decide (p0.Kind = p1.Kind))) && (decide (p0.Tx = p1.Tx)))), (24, .bool (((decide (p0.Seq = p1.Seq)) && (decide (p0.Kind = p1.Kind))) && (decide (p0.Tx = p1.Tx)))), (30, .bool ((((decide (p0.Seq = p1.Seq)) && (decide (p0.Kind = p1.Kind))) && (decide (p0.Tx = p1.Tx))) && (decide (p0.Began = p1.Began)))), (31, .bool ((((decide (p0.Seq = p1.Seq)) && (decide (p0.Kind = p1.Kind))) && (decide (p0.Tx = p1.Tx))) && (decide (p0.Began = p1.Began)))), (37, .bool (((((decide (p0.Seq = p1.Seq)) && (decide (p0.Kind = p1.Kind))) && (decide (p0.Tx = p1.Tx))) && (decide (p0.Began = p1.Began))) && (decide (p0.Ended = p1.Ended)))), (38, .bool (((((decide (p0.Seq = p1.Seq)) && (decide (p0.Kind = p1.Kind))) && (decide (p0.Tx = p1.Tx))) && (decide (p0.Began = p1.Began))) && (decide (p0.Ended = p1.Ended)))), (44, .bool ((((((decide (p0.Seq = p1.Seq)) && (decide (p0.Kind = p1.Kind))) && (decide (p0.Tx = p1.Tx))) && (decide (p0.Began = p1.Began))) && (decide (p0.Ended = p1.Ended))) && (decide (p0.Laid = p1.Laid)))), (45, .bool ((((((decide (p0.Seq = p1.Seq)) && (decide (p0.Kind = p1.Kind))) && (decide (p0.Tx = p1.Tx))) && (decide (p0.Began = p1.Began))) && (decide (p0.Ended = p1.Ended))) && (decide (p0.Laid = p1.Laid)))), (51, .bool (((((((decide (p0.Seq = p1.Seq)) && (decide (p0.Kind = p1.Kind))) && (decide (p0.Tx = p1.Tx))) && (decide (p0.Began = p1.Began))) && (decide (p0.Ended = p1.Ended))) && (decide (p0.Laid = p1.Laid))) && (spec_SameSteps p0.Steps p1.Steps))), (52, .bool (((((((decide (p0.Seq = p1.Seq)) && (decide (p0.Kind = p1.Kind))) && (decide (p0.Tx = p1.Tx))) && (decide (p0.Began = p1.Began))) && (decide (p0.Ended = p1.Ended))) && (decide (p0.Laid = p1.Laid))) && (spec_SameSteps p0.Steps p1.Steps)))]) a) ?_ ?_
  ·
    rcases Bool.eq_false_or_eq_true (((((((decide (p0.Seq = p1.Seq)) && (decide (p0.Kind = p1.Kind))) && (decide (p0.Tx = p1.Tx))) && (decide (p0.Began = p1.Began))) && (decide (p0.Ended = p1.Ended))) && (decide (p0.Laid = p1.Laid))) && (spec_SameSteps p0.Steps p1.Steps)) with hb110 | hb110
    ·
      refine st_run hE108 rfl rfl rfl hb110 <| st_val hE108 (y_fieldAddr hE108 rfl fa74_4 rfl) rfl fun a111 hE111 => st_run hE111 rfl rfl rfl hb110 <| st_val hE111 (y_load_one hE111 rfl (hS107.cells (k := 1) rfl) rfl one72) rfl fun a112 hE112 => st_run hE112 rfl rfl rfl hb110 <| st_val hE112 (y_fieldAddr hE112 rfl fa74_4 rfl) rfl fun a113 hE113 => st_run hE113 rfl rfl rfl hb110 <| st_val hE113 (y_load_one hE113 rfl (hS107.cells (k := 0) rfl) rfl one72) rfl fun a114 hE114 => st_run hE114 rfl rfl rfl hb110 <| st_callF hE114 hS107 Try.func87 fb87 fn87 (c_spec_SameAnswers p0.Answers p1.Answers (hS107.up hv90000_4) (hS107.up hv90001_4)) rfl rfl fun w115 hS115 a116 hE116 => st_val hE116 (y_pick_t hE116 rfl hb110 rfl) rfl fun a117 hE117 => wpList_nil ?_
      exact ⟨(spec_SameAnswers p0.Answers p1.Answers), by simp only [hb110, Bool.true_and, Bool.false_and, Bool.true_or, Bool.false_or, Bool.and_true, Bool.or_true, Bool.and_false, Bool.or_false], hS115, hE117.weaken ⟨rfl, rfl, rfl, rfl, rfl, rfl, rfl, rfl, rfl, rfl, rfl, rfl, rfl, rfl, rfl, rfl, rfl, rfl, rfl, rfl, rfl, rfl, rfl, rfl, trivial⟩⟩
    ·
      refine st_skip hE108 rfl rfl rfl hb110 rfl fun a118 hE118 => st_skip hE118 rfl rfl rfl hb110 rfl fun a119 hE119 => st_skip hE119 rfl rfl rfl hb110 rfl fun a120 hE120 => st_skip hE120 rfl rfl rfl hb110 rfl fun a121 hE121 => st_skip hE121 rfl rfl rfl hb110 rfl fun a122 hE122 => st_val hE122 (y_pick_f hE122 rfl hb110 rfl) rfl fun a123 hE123 => wpList_nil ?_
      exact ⟨false, by simp only [hb110, Bool.true_and, Bool.false_and, Bool.true_or, Bool.false_or, Bool.and_true, Bool.or_true, Bool.and_false, Bool.or_false], hS107, hE123.weaken ⟨rfl, rfl, rfl, rfl, rfl, rfl, rfl, rfl, rfl, rfl, rfl, rfl, rfl, rfl, rfl, rfl, rfl, rfl, rfl, rfl, rfl, rfl, rfl, rfl, trivial⟩⟩
  rintro a124 w124 ⟨r124, hr124, hS124, hE124⟩
  subst hr124
  clear hE108 hE107
  refine st_val hE124 (y_assign hE124 rfl) rfl fun a125 hE125 => wpList_nil ?_
  clear hE124
  clear a124
  refine then_normal ?_
  refine wp_ret ?_
  exact fin1 hE125 rfl rfl ⟨by rw [hM], hS124.below⟩

/- F65 loop.example/g00974/impl.sameEntry -/
def impl_sameEntry (p0 : Entry) (p1 : Entry) : Bool := (((((((decide (p0.Seq = p1.Seq)) && (decide (p0.Kind = p1.Kind))) && (decide (p0.Tx = p1.Tx))) && (impl_SameSteps p0.Steps p1.Steps)) && (impl_SameAnswers p0.Answers p1.Answers)) && (decide (p0.Began = p1.Began))) && (decide (p0.Ended = p1.Ended))) && (decide (p0.Laid = p1.Laid))
theorem c_impl_sameEntry {c0 : List Value} (p0 : Entry) {c1 : List Value} (p1 : Entry) {w : World} (hp0 : Dat.rd (Old w) w c0 p0) (hp1 : Dat.rd (Old w) w c1 p1) :
    Calls Try.prog 65 [.agg c0.toArray, .agg c1.toArray].toArray w (fun e w' => e = .returned (.bool (impl_sameEntry p0 p1)) ∧ Below w.heap.size w w') := by
  obtain ⟨v90000_3, v90000_4, rfl, hg90000_0, hg90000_1, hg90000_2, hv90000_3, hv90000_4, hg90000_5, hg90000_6, _⟩ := Entry_open hp0
  obtain ⟨A90000_3, cp90000_3, rfl, hx90000_3⟩ := hv90000_3.form
  obtain ⟨A90000_4, cp90000_4, rfl, hx90000_4⟩ := hv90000_4.form
  obtain ⟨v90001_3, v90001_4, rfl, hg90001_0, hg90001_1, hg90001_2, hv90001_3, hv90001_4, hg90001_5, hg90001_6, _⟩ := Entry_open hp1
  obtain ⟨A90001_3, cp90001_3, rfl, hx90001_3⟩ := hv90001_3.form
  obtain ⟨A90001_4, cp90001_4, rfl, hx90001_4⟩ := hv90001_4.form
  refine enter Try.func65 rfl Try.ntmps65 (Nat.le_of_ble_eq_true rfl) ?_
  intro a0 hE0
  have hS0 := SH.start w
  have hM := impl_sameEntry.eq_1 p0 p1
  refine wp_seq (wp_region_lit ?_)
  refine st_box hE0 hS0 rfl rfl rfl fun b1 w1 hS1 a2 hE2 => st_box hE2 hS1 rfl rfl rfl fun b3 w3 hS3 a4 hE4 => st_val hE4 (y_assign hE4 rfl) rfl fun a5 hE5 => wpList_nil ?_
  clear hE0 hE2 hE4
  clear a0 a2 a4
  refine then_normal ?_
  refine wp_seq (wp_region_lit ?_)
  refine st_val hE5 (y_fieldAddr hE5 rfl fa74_0 rfl) rfl fun a6 hE6 => st_val hE6 (y_load_one hE6 rfl (hS3.cells (k := 1) rfl) rfl one3) rfl fun a7 hE7 => st_val hE7 (y_fieldAddr hE7 rfl fa74_0 rfl) rfl fun a8 hE8 => st_val hE8 (y_load_one hE8 rfl (hS3.cells (k := 0) rfl) rfl one3) rfl fun a9 hE9 => st_val hE9 (y_eql hE9 rfl rfl) rfl fun a10 hE10 => st_val hE10 (y_move hE10 rfl) rfl fun a11 hE11 => ?_
  refine st_mid 6 (fun a w2 => ∃ r : Bool, r = ((decide (p0.Seq = p1.Seq)) && (decide (p0.Kind = p1.Kind))) ∧ SH (Old w) w w2 [Ck.var b3 [.int .i64 p1.Seq, .int .i64 p1.Kind, .int .i64 p1.Tx, .slice A90001_3 p1.Steps.length cp90001_3, .slice A90001_4 p1.Answers.length cp90001_4, .int .i64 p1.Began, .int .i64 p1.Ended, .bool p1.Laid] 74, Ck.var b1 [.int .i64 p0.Seq, .int .i64 p0.Kind, .int .i64 p0.Tx, .slice A90000_3 p0.Steps.length cp90000_3, .slice A90000_4 p0.Answers.length cp90000_4, .int .i64 p0.Began, .int .i64 p0.Ended, .bool p0.Laid] 74] ∧ Env 59 ((16, .bool r) :: [(0, .agg [.int .i64 p0.Seq, .int .i64 p0.Kind, .int .i64 p0.Tx, .slice A90000_3 p0.Steps.length cp90000_3, .slice A90000_4 p0.Answers.length cp90000_4, .int .i64 p0.Began, .int .i64 p0.Ended, .bool p0.Laid].toArray), (1, .agg [.int .i64 p1.Seq, .int .i64 p1.Kind, .int .i64 p1.Tx, .slice A90001_3 p1.Steps.length cp90001_3, .slice A90001_4 p1.Answers.length cp90001_4, .int .i64 p1.Began, .int .i64 p1.Ended, .bool p1.Laid].toArray), (2, .pointer (some ((⟨b1, 0, none⟩ : Addr).add 0))), (3, .pointer (some ((⟨b3, 0, none⟩ : Addr).add 0))), (4, .bool false), (5, .pointer (some ((⟨b1, 0, none⟩ : Addr).add 0))), (6, .int .i64 p0.Seq), (7, .pointer (some ((⟨b3, 0, none⟩ : Addr).add 0))), (8, .int .i64 p1.Seq), (9, .bool (decide (p0.Seq = p1.Seq))), (10, .bool (decide (p0.Seq = p1.Seq)))]) a) ?_ ?_
  ·
    rcases Bool.eq_false_or_eq_true (decide (p0.Seq = p1.Seq)) with hb13 | hb13
    ·
      have hb13f : p0.Seq = p1.Seq := by simpa using hb13
      refine st_run hE11 rfl rfl rfl hb13 <| st_val hE11 (y_fieldAddr hE11 rfl fa74_1 rfl) rfl fun a14 hE14 => st_run hE14 rfl rfl rfl hb13 <| st_val hE14 (y_load_one hE14 rfl (hS3.cells (k := 1) rfl) rfl one3) rfl fun a15 hE15 => st_run hE15 rfl rfl rfl hb13 <| st_val hE15 (y_fieldAddr hE15 rfl fa74_1 rfl) rfl fun a16 hE16 => st_run hE16 rfl rfl rfl hb13 <| st_val hE16 (y_load_one hE16 rfl (hS3.cells (k := 0) rfl) rfl one3) rfl fun a17 hE17 => st_run hE17 rfl rfl rfl hb13 <| st_val hE17 (y_eql hE17 rfl rfl) rfl fun a18 hE18 => st_val hE18 (y_pick_t hE18 rfl hb13 rfl) rfl fun a19 hE19 => wpList_nil ?_
      exact ⟨decide (p0.Kind = p1.Kind), by simp only [hb13, Bool.true_and, Bool.false_and, Bool.true_or, Bool.false_or, Bool.and_true, Bool.or_true, Bool.and_false, Bool.or_false], hS3, hE19.weaken ⟨rfl, rfl, rfl, rfl, rfl, rfl, rfl, rfl, rfl, rfl, rfl, rfl, trivial⟩⟩
    ·
      have hb13f : ¬ (p0.Seq = p1.Seq) := by simpa using hb13
      refine st_skip hE11 rfl rfl rfl hb13 rfl fun a20 hE20 => st_skip hE20 rfl rfl rfl hb13 rfl fun a21 hE21 => st_skip hE21 rfl rfl rfl hb13 rfl fun a22 hE22 => st_skip hE22 rfl rfl rfl hb13 rfl fun a23 hE23 => st_skip hE23 rfl rfl rfl hb13 rfl fun a24 hE24 => st_val hE24 (y_pick_f hE24 rfl hb13 rfl) rfl fun a25 hE25 => wpList_nil ?_
      exact ⟨false, by simp only [hb13, Bool.true_and, Bool.false_and, Bool.true_or, Bool.false_or, Bool.and_true, Bool.or_true, Bool.and_false, Bool.or_false], hS3, hE25.weaken ⟨rfl, rfl, rfl, rfl, rfl, rfl, rfl, rfl, rfl, rfl, rfl, rfl, trivial⟩⟩
  rintro a26 w26 ⟨r26, hr26, hS26, hE26⟩
  subst hr26
  clear hE11 hE5 hE6 hE7 hE8 hE9 hE10
  refine st_val hE26 (y_move hE26 rfl) rfl fun a27 hE27 => ?_
  refine st_mid 6 (fun a w2 => ∃ r : Bool, r = (((decide (p0.Seq = p1.Seq)) && (decide (p0.Kind = p1.Kind))) && (decide (p0.Tx = p1.Tx))) ∧ SH (Old w) w w2 [Ck.var b3 [.int .i64 p1.Seq, .int .i64 p1.Kind, .int .i64 p1.Tx, .slice A90001_3 p1.Steps.length cp90001_3, .slice A90001_4 p1.Answers.length cp90001_4, .int .i64 p1.Began, .int .i64 p1.Ended, .bool p1.Laid] 74, Ck.var b1 [.int .i64 p0.Seq, .int .i64 p0.Kind, .int .i64 p0.Tx, .slice A90000_3 p0.Steps.length cp90000_3, .slice A90000_4 p0.Answers.length cp90000_4, .int .i64 p0.Began, .int .i64 p0.Ended, .bool p0.Laid] 74] ∧ Env 59 ((23, .bool r) :: [(0, .agg [.int .i64 p0.Seq, .int .i64 p0.Kind, .int .i64 p0.Tx, .slice A90000_3 p0.Steps.length cp90000_3, .slice A90000_4 p0.Answers.length cp90000_4, .int .i64 p0.Began, .int .i64 p0.Ended, .bool p0.Laid].toArray), (1, .agg [.int .i64 p1.Seq, .int .i64 p1.Kind, .int .i64 p1.Tx, .slice A90001_3 p1.Steps.length cp90001_3, .slice A90001_4 p1.Answers.length cp90001_4, .int .i64 p1.Began, .int .i64 p1.Ended, .bool p1.Laid].toArray), (2, .pointer (some ((⟨b1, 0, none⟩ : Addr).add 0))), (3, .pointer (some ((⟨b3, 0, none⟩ : Addr).add 0))), (4, .bool false), (5, .pointer (some ((⟨b1, 0, none⟩ : Addr).add 0))), (6, .int .i64 p0.Seq), (7, .pointer (some ((⟨b3, 0, none⟩ : Addr).add 0))), (8, .int .i64 p1.Seq), (9, .bool (decide (p0.Seq = p1.Seq))), (10, .bool (decide (p0.Seq = p1.Seq))), (16, .bool ((decide (p0.Seq = p1.Seq)) && (decide (p0.Kind = p1.Kind)))), (17, .bool ((decide (p0.Seq = p1.Seq)) && (decide (p0.Kind = p1.Kind))))]) a) ?_ ?_
  ·
    rcases Bool.eq_false_or_eq_true ((decide (p0.Seq = p1.Seq)) && (decide (p0.Kind = p1.Kind))) with hb29 | hb29
    ·
      refine st_run hE27 rfl rfl rfl hb29 <| st_val hE27 (y_fieldAddr hE27 rfl fa74_2 rfl) rfl fun a30 hE30 => st_run hE30 rfl rfl rfl hb29 <| st_val hE30 (y_load_one hE30 rfl (hS26.cells (k := 1) rfl) rfl one3) rfl fun a31 hE31 => st_run hE31 rfl rfl rfl hb29 <| st_val hE31 (y_fieldAddr hE31 rfl fa74_2 rfl) rfl fun a32 hE32 => st_run hE32 rfl rfl rfl hb29 <| st_val hE32 (y_load_one hE32 rfl (hS26.cells (k := 0) rfl) rfl one3) rfl fun a33 hE33 => st_run hE33 rfl rfl rfl hb29 <| st_val hE33 (y_eql hE33 rfl rfl) rfl fun a34 hE34 => st_val hE34 (y_pick_t hE34 rfl hb29 rfl) rfl fun a35 hE35 => wpList_nil ?_
      exact ⟨decide (p0.Tx = p1.Tx), by simp only [hb29, Bool.true_and, Bool.false_and, Bool.true_or, Bool.false_or, Bool.and_true, Bool.or_true, Bool.and_false, Bool.or_false], hS26, hE35.weaken ⟨rfl, rfl, rfl, rfl, rfl, rfl, rfl, rfl, rfl, rfl, rfl, rfl, rfl, rfl, trivial⟩⟩
    ·
      refine st_skip hE27 rfl rfl rfl hb29 rfl fun a36 hE36 => st_skip hE36 rfl rfl rfl hb29 rfl fun a37 hE37 => st_skip hE37 rfl rfl rfl hb29 rfl fun a38 hE38 => st_skip hE38 rfl rfl rfl hb29 rfl fun a39 hE39 => st_skip hE39 rfl rfl rfl hb29 rfl fun a40 hE40 => st_val hE40 (y_pick_f hE40 rfl hb29 rfl) rfl fun a41 hE41 => wpList_nil ?_
      exact ⟨false, by simp only [hb29, Bool.true_and, Bool.false_and, Bool.true_or, Bool.false_or, Bool.and_true, Bool.or_true, Bool.and_false, Bool.or_false], hS26, hE41.weaken ⟨rfl, rfl, rfl, rfl, rfl, rfl, rfl, rfl, rfl, rfl, rfl, rfl, rfl, rfl, trivial⟩⟩
  rintro a42 w42 ⟨r42, hr42, hS42, hE42⟩
  subst hr42
  clear hE27 hE26
  refine st_val hE42 (y_move hE42 rfl) rfl fun a43 hE43 => ?_
  refine st_mid 6 (fun a w2 => ∃ r : Bool, r = ((((decide (p0.Seq = p1.Seq)) && (decide (p0.Kind = p1.Kind))) && (decide (p0.Tx = p1.Tx))) && (impl_SameSteps p0.Steps p1.Steps)) ∧ SH (Old w) w w2 [Ck.var b3 [.int .i64 p1.Seq, .int .i64 p1.Kind, .int .i64 p1.Tx, .slice A90001_3 p1.Steps.length cp90001_3, .slice A90001_4 p1.Answers.length cp90001_4, .int .i64 p1.Began, .int .i64 p1.Ended, .bool p1.Laid] 74, Ck.var b1 [.int .i64 p0.Seq, .int .i64 p0.Kind, .int .i64 p0.Tx, .slice A90000_3 p0.Steps.length cp90000_3, .slice A90000_4 p0.Answers.length cp90000_4, .int .i64 p0.Began, .int .i64 p0.Ended, .bool p0.Laid] 74] ∧ Env 59 ((30, .bool r) :: [(0, .agg [.int .i64 p0.Seq, .int .i64 p0.Kind, .int .i64 p0.Tx, .slice A90000_3 p0.Steps.length cp90000_3, .slice A90000_4 p0.Answers.length cp90000_4, .int .i64 p0.Began, .int .i64 p0.Ended, .bool p0.Laid].toArray), (1, .agg [.int .i64 p1.Seq, .int .i64 p1.Kind, .int .i64 p1.Tx, .slice A90001_3 p1.Steps.length cp90001_3, .slice A90001_4 p1.Answers.length cp90001_4, .int .i64 p1.Began, .int .i64 p1.Ended, .bool p1.Laid].toArray), (2, .pointer (some ((⟨b1, 0, none⟩ : Addr).add 0))), (3, .pointer (some ((⟨b3, 0, none⟩ : Addr).add 0))), (4, .bool false), (5, .pointer (some ((⟨b1, 0, none⟩ : Addr).add 0))), (6, .int .i64 p0.Seq), (7, .pointer (some ((⟨b3, 0, none⟩ : Addr).add 0))), (8, .int .i64 p1.Seq), (9, .bool (decide (p0.Seq = p1.Seq))), (10, .bool (decide (p0.Seq = p1.Seq))), (16, .bool ((decide (p0.Seq = p1.Seq)) && (decide (p0.Kind = p1.Kind)))), (17, .bool ((decide (p0.Seq = p1.Seq)) && (decide (p0.Kind = p1.Kind)))), (23, .bool (((decide (p0.Seq = p1.Seq)) && (decide (p0.Kind = p1.Kind))) && (decide (p0.Tx = p1.Tx)))), (24, .bool (((decide (p0.Seq = p1.Seq)) && (decide (p0.Kind = p1.Kind))) && (decide (p0.Tx = p1.Tx))))]) a) ?_ ?_
  ·
    rcases Bool.eq_false_or_eq_true (((decide (p0.Seq = p1.Seq)) && (decide (p0.Kind = p1.Kind))) && (decide (p0.Tx = p1.Tx))) with hb45 | hb45
    ·
      refine st_run hE43 rfl rfl rfl hb45 <| st_val hE43 (y_fieldAddr hE43 rfl fa74_3 rfl) rfl fun a46 hE46 => st_run hE46 rfl rfl rfl hb45 <| st_val hE46 (y_load_one hE46 rfl (hS42.cells (k := 1) rfl) rfl one71) rfl fun a47 hE47 => st_run hE47 rfl rfl rfl hb45 <| st_val hE47 (y_fieldAddr hE47 rfl fa74_3 rfl) rfl fun a48 hE48 => st_run hE48 rfl rfl rfl hb45 <| st_val hE48 (y_load_one hE48 rfl (hS42.cells (k := 0) rfl) rfl one71) rfl fun a49 hE49 => st_run hE49 rfl rfl rfl hb45 <| st_callF hE49 hS42 Try.func88 fb88 fn88 (c_impl_SameSteps p0.Steps p1.Steps (hS42.up hv90000_3) (hS42.up hv90001_3)) rfl rfl fun w50 hS50 a51 hE51 => st_val hE51 (y_pick_t hE51 rfl hb45 rfl) rfl fun a52 hE52 => wpList_nil ?_
      exact ⟨(impl_SameSteps p0.Steps p1.Steps), by simp only [hb45, Bool.true_and, Bool.false_and, Bool.true_or, Bool.false_or, Bool.and_true, Bool.or_true, Bool.and_false, Bool.or_false], hS50, hE52.weaken ⟨rfl, rfl, rfl, rfl, rfl, rfl, rfl, rfl, rfl, rfl, rfl, rfl, rfl, rfl, rfl, rfl, trivial⟩⟩
    ·
      refine st_skip hE43 rfl rfl rfl hb45 rfl fun a53 hE53 => st_skip hE53 rfl rfl rfl hb45 rfl fun a54 hE54 => st_skip hE54 rfl rfl rfl hb45 rfl fun a55 hE55 => st_skip hE55 rfl rfl rfl hb45 rfl fun a56 hE56 => st_skip hE56 rfl rfl rfl hb45 rfl fun a57 hE57 => st_val hE57 (y_pick_f hE57 rfl hb45 rfl) rfl fun a58 hE58 => wpList_nil ?_
      exact ⟨false, by simp only [hb45, Bool.true_and, Bool.false_and, Bool.true_or, Bool.false_or, Bool.and_true, Bool.or_true, Bool.and_false, Bool.or_false], hS42, hE58.weaken ⟨rfl, rfl, rfl, rfl, rfl, rfl, rfl, rfl, rfl, rfl, rfl, rfl, rfl, rfl, rfl, rfl, trivial⟩⟩
  rintro a59 w59 ⟨r59, hr59, hS59, hE59⟩
  subst hr59
  clear hE43 hE42
  refine st_val hE59 (y_move hE59 rfl) rfl fun a60 hE60 => ?_
  refine st_mid 6 (fun a w2 => ∃ r : Bool, r = (((((decide (p0.Seq = p1.Seq)) && (decide (p0.Kind = p1.Kind))) && (decide (p0.Tx = p1.Tx))) && (impl_SameSteps p0.Steps p1.Steps)) && (impl_SameAnswers p0.Answers p1.Answers)) ∧ SH (Old w) w w2 [Ck.var b3 [.int .i64 p1.Seq, .int .i64 p1.Kind, .int .i64 p1.Tx, .slice A90001_3 p1.Steps.length cp90001_3, .slice A90001_4 p1.Answers.length cp90001_4, .int .i64 p1.Began, .int .i64 p1.Ended, .bool p1.Laid] 74, Ck.var b1 [.int .i64 p0.Seq, .int .i64 p0.Kind, .int .i64 p0.Tx, .slice A90000_3 p0.Steps.length cp90000_3, .slice A90000_4 p0.Answers.length cp90000_4, .int .i64 p0.Began, .int .i64 p0.Ended, .bool p0.Laid] 74] ∧ Env 59 ((37, .bool r) :: [(0, .agg [.int .i64 p0.Seq, .int .i64 p0.Kind, .int .i64 p0.Tx, .slice A90000_3 p0.Steps.length cp90000_3, .slice A90000_4 p0.Answers.length cp90000_4, .int .i64 p0.Began, .int .i64 p0.Ended, .bool p0.Laid].toArray), (1, .agg [.int .i64 p1.Seq, .int .i64 p1.Kind, .int .i64 p1.Tx, .slice A90001_3 p1.Steps.length cp90001_3, .slice A90001_4 p1.Answers.length cp90001_4, .int .i64 p1.Began, .int .i64 p1.Ended, .bool p1.Laid].toArray), (2, .pointer (some ((⟨b1, 0, none⟩ : Addr).add 0))), (3, .pointer (some ((⟨b3, 0, none⟩ : Addr).add 0))), (4, .bool false), (5, .pointer (some ((⟨b1, 0, none⟩ : Addr).add 0))), (6, .int .i64 p0.Seq), (7, .pointer (some ((⟨b3, 0, none⟩ : Addr).add 0))), (8, .int .i64 p1.Seq), (9, .bool (decide (p0.Seq = p1.Seq))), (10, .bool (decide (p0.Seq = p1.Seq))), (16, .bool ((decide (p0.Seq = p1.Seq)) && (decide (p0.Kind = p1.Kind)))), (17, .bool ((decide (p0.Seq = p1.Seq)) && (decide (p0.Kind = p1.Kind)))), (23, .bool (((decide (p0.Seq = p1.Seq)) && (decide (p0.Kind = p1.Kind))) && (decide (p0.Tx = p1.Tx)))), (24, .bool (((decide (p0.Seq = p1.Seq)) && (decide (p0.Kind = p1.Kind))) && (decide (p0.Tx = p1.Tx)))), (30, .bool ((((decide (p0.Seq = p1.Seq)) && (decide (p0.Kind = p1.Kind))) && (decide (p0.Tx = p1.Tx))) && (impl_SameSteps p0.Steps p1.Steps))), (31, .bool ((((decide (p0.Seq = p1.Seq)) && (decide (p0.Kind = p1.Kind))) && (decide (p0.Tx = p1.Tx))) && (impl_SameSteps p0.Steps p1.Steps)))]) a) ?_ ?_
  ·
    rcases Bool.eq_false_or_eq_true ((((decide (p0.Seq = p1.Seq)) && (decide (p0.Kind = p1.Kind))) && (decide (p0.Tx = p1.Tx))) && (impl_SameSteps p0.Steps p1.Steps)) with hb62 | hb62
    ·
      refine st_run hE60 rfl rfl rfl hb62 <| st_val hE60 (y_fieldAddr hE60 rfl fa74_4 rfl) rfl fun a63 hE63 => st_run hE63 rfl rfl rfl hb62 <| st_val hE63 (y_load_one hE63 rfl (hS59.cells (k := 1) rfl) rfl one72) rfl fun a64 hE64 => st_run hE64 rfl rfl rfl hb62 <| st_val hE64 (y_fieldAddr hE64 rfl fa74_4 rfl) rfl fun a65 hE65 => st_run hE65 rfl rfl rfl hb62 <| st_val hE65 (y_load_one hE65 rfl (hS59.cells (k := 0) rfl) rfl one72) rfl fun a66 hE66 => st_run hE66 rfl rfl rfl hb62 <| st_callF hE66 hS59 Try.func89 fb89 fn89 (c_impl_SameAnswers p0.Answers p1.Answers (hS59.up hv90000_4) (hS59.up hv90001_4)) rfl rfl fun w67 hS67 a68 hE68 => st_val hE68 (y_pick_t hE68 rfl hb62 rfl) rfl fun a69 hE69 => wpList_nil ?_
      exact ⟨(impl_SameAnswers p0.Answers p1.Answers), by simp only [hb62, Bool.true_and, Bool.false_and, Bool.true_or, Bool.false_or, Bool.and_true, Bool.or_true, Bool.and_false, Bool.or_false], hS67, hE69.weaken ⟨rfl, rfl, rfl, rfl, rfl, rfl, rfl, rfl, rfl, rfl, rfl, rfl, rfl, rfl, rfl, rfl, rfl, rfl, trivial⟩⟩
    ·
      refine st_skip hE60 rfl rfl rfl hb62 rfl fun a70 hE70 => st_skip hE70 rfl rfl rfl hb62 rfl fun a71 hE71 => st_skip hE71 rfl rfl rfl hb62 rfl fun a72 hE72 => st_skip hE72 rfl rfl rfl hb62 rfl fun a73 hE73 => st_skip hE73 rfl rfl rfl hb62 rfl fun a74 hE74 => st_val hE74 (y_pick_f hE74 rfl hb62 rfl) rfl fun a75 hE75 => wpList_nil ?_
      exact ⟨false, by simp only [hb62, Bool.true_and, Bool.false_and, Bool.true_or, Bool.false_or, Bool.and_true, Bool.or_true, Bool.and_false, Bool.or_false], hS59, hE75.weaken ⟨rfl, rfl, rfl, rfl, rfl, rfl, rfl, rfl, rfl, rfl, rfl, rfl, rfl, rfl, rfl, rfl, rfl, rfl, trivial⟩⟩
  rintro a76 w76 ⟨r76, hr76, hS76, hE76⟩
  subst hr76
  clear hE60 hE59
  refine st_val hE76 (y_move hE76 rfl) rfl fun a77 hE77 => ?_
  refine st_mid 6 (fun a w2 => ∃ r : Bool, r = ((((((decide (p0.Seq = p1.Seq)) && (decide (p0.Kind = p1.Kind))) && (decide (p0.Tx = p1.Tx))) && (impl_SameSteps p0.Steps p1.Steps)) && (impl_SameAnswers p0.Answers p1.Answers)) && (decide (p0.Began = p1.Began))) ∧ SH (Old w) w w2 [Ck.var b3 [.int .i64 p1.Seq, .int .i64 p1.Kind, .int .i64 p1.Tx, .slice A90001_3 p1.Steps.length cp90001_3, .slice A90001_4 p1.Answers.length cp90001_4, .int .i64 p1.Began, .int .i64 p1.Ended, .bool p1.Laid] 74, Ck.var b1 [.int .i64 p0.Seq, .int .i64 p0.Kind, .int .i64 p0.Tx, .slice A90000_3 p0.Steps.length cp90000_3, .slice A90000_4 p0.Answers.length cp90000_4, .int .i64 p0.Began, .int .i64 p0.Ended, .bool p0.Laid] 74] ∧ Env 59 ((44, .bool r) :: [(0, .agg [.int .i64 p0.Seq, .int .i64 p0.Kind, .int .i64 p0.Tx, .slice A90000_3 p0.Steps.length cp90000_3, .slice A90000_4 p0.Answers.length cp90000_4, .int .i64 p0.Began, .int .i64 p0.Ended, .bool p0.Laid].toArray), (1, .agg [.int .i64 p1.Seq, .int .i64 p1.Kind, .int .i64 p1.Tx, .slice A90001_3 p1.Steps.length cp90001_3, .slice A90001_4 p1.Answers.length cp90001_4, .int .i64 p1.Began, .int .i64 p1.Ended, .bool p1.Laid].toArray), (2, .pointer (some ((⟨b1, 0, none⟩ : Addr).add 0))), (3, .pointer (some ((⟨b3, 0, none⟩ : Addr).add 0))), (4, .bool false), (5, .pointer (some ((⟨b1, 0, none⟩ : Addr).add 0))), (6, .int .i64 p0.Seq), (7, .pointer (some ((⟨b3, 0, none⟩ : Addr).add 0))), (8, .int .i64 p1.Seq), (9, .bool (decide (p0.Seq = p1.Seq))), (10, .bool (decide (p0.Seq = p1.Seq))), (16, .bool ((decide (p0.Seq = p1.Seq)) && (decide (p0.Kind = p1.Kind)))), (17, .bool ((decide (p0.Seq = p1.Seq)) && (decide (p0.Kind = p1.Kind)))), (23, .bool (((decide (p0.Seq = p1.Seq)) && (decide (p0.Kind = p1.Kind))) && (decide (p0.Tx = p1.Tx)))), (24, .bool (((decide (p0.Seq = p1.Seq)) && (decide (p0.Kind = p1.Kind))) && (decide (p0.Tx = p1.Tx)))), (30, .bool ((((decide (p0.Seq = p1.Seq)) && (decide (p0.Kind = p1.Kind))) && (decide (p0.Tx = p1.Tx))) && (impl_SameSteps p0.Steps p1.Steps))), (31, .bool ((((decide (p0.Seq = p1.Seq)) && (decide (p0.Kind = p1.Kind))) && (decide (p0.Tx = p1.Tx))) && (impl_SameSteps p0.Steps p1.Steps))), (37, .bool (((((decide (p0.Seq = p1.Seq)) && (decide (p0.Kind = p1.Kind))) && (decide (p0.Tx = p1.Tx))) && (impl_SameSteps p0.Steps p1.Steps)) && (impl_SameAnswers p0.Answers p1.Answers))), (38, .bool (((((decide (p0.Seq = p1.Seq)) && (decide (p0.Kind = p1.Kind))) && (decide (p0.Tx = p1.Tx))) && (impl_SameSteps p0.Steps p1.Steps)) && (impl_SameAnswers p0.Answers p1.Answers)))]) a) ?_ ?_
  ·
    rcases Bool.eq_false_or_eq_true (((((decide (p0.Seq = p1.Seq)) && (decide (p0.Kind = p1.Kind))) && (decide (p0.Tx = p1.Tx))) && (impl_SameSteps p0.Steps p1.Steps)) && (impl_SameAnswers p0.Answers p1.Answers)) with hb79 | hb79
    ·
      refine st_run hE77 rfl rfl rfl hb79 <| st_val hE77 (y_fieldAddr hE77 rfl fa74_5 rfl) rfl fun a80 hE80 => st_run hE80 rfl rfl rfl hb79 <| st_val hE80 (y_load_one hE80 rfl (hS76.cells (k := 1) rfl) rfl one3) rfl fun a81 hE81 => st_run hE81 rfl rfl rfl hb79 <| st_val hE81 (y_fieldAddr hE81 rfl fa74_5 rfl) rfl fun a82 hE82 => st_run hE82 rfl rfl rfl hb79 <| st_val hE82 (y_load_one hE82 rfl (hS76.cells (k := 0) rfl) rfl one3) rfl fun a83 hE83 => st_run hE83 rfl rfl rfl hb79 <| st_val hE83 (y_eql hE83 rfl rfl) rfl fun a84 hE84 => st_val hE84 (y_pick_t hE84 rfl hb79 rfl) rfl fun a85 hE85 => wpList_nil ?_
      exact ⟨decide (p0.Began = p1.Began), by simp only [hb79, Bool.true_and, Bool.false_and, Bool.true_or, Bool.false_or, Bool.and_true, Bool.or_true, Bool.and_false, Bool.or_false], hS76, hE85.weaken ⟨rfl, rfl, rfl, rfl, rfl, rfl, rfl, rfl, rfl, rfl, rfl, rfl, rfl, rfl, rfl, rfl, rfl, rfl, rfl, rfl, trivial⟩⟩
    ·
      refine st_skip hE77 rfl rfl rfl hb79 rfl fun a86 hE86 => st_skip hE86 rfl rfl rfl hb79 rfl fun a87 hE87 => st_skip hE87 rfl rfl rfl hb79 rfl fun a88 hE88 => st_skip hE88 rfl rfl rfl hb79 rfl fun a89 hE89 => st_skip hE89 rfl rfl rfl hb79 rfl fun a90 hE90 => st_val hE90 (y_pick_f hE90 rfl hb79 rfl) rfl fun a91 hE91 => wpList_nil ?_
      exact ⟨false, by simp only [hb79, Bool.true_and, Bool.false_and, Bool.true_or, Bool.false_or, Bool.and_true, Bool.or_true, Bool.and_false, Bool.or_false], hS76, hE91.weaken ⟨rfl, rfl, rfl, rfl, rfl, rfl, rfl, rfl, rfl, rfl, rfl, rfl, rfl, rfl, rfl, rfl, rfl, rfl, rfl, rfl, trivial⟩⟩
  rintro a92 w92 ⟨r92, hr92, hS92, hE92⟩
  subst hr92
  clear hE77 hE76
  refine st_val hE92 (y_move hE92 rfl) rfl fun a93 hE93 => ?_
  refine st_mid 6 (fun a w2 => ∃ r : Bool, r = (((((((decide (p0.Seq = p1.Seq)) && (decide (p0.Kind = p1.Kind))) && (decide (p0.Tx = p1.Tx))) && (impl_SameSteps p0.Steps p1.Steps)) && (impl_SameAnswers p0.Answers p1.Answers)) && (decide (p0.Began = p1.Began))) && (decide (p0.Ended = p1.Ended))) ∧ SH (Old w) w w2 [Ck.var b3 [.int .i64 p1.Seq, .int .i64 p1.Kind, .int .i64 p1.Tx, .slice A90001_3 p1.Steps.length cp90001_3, .slice A90001_4 p1.Answers.length cp90001_4, .int .i64 p1.Began, .int .i64 p1.Ended, .bool p1.Laid] 74, Ck.var b1 [.int .i64 p0.Seq, .int .i64 p0.Kind, .int .i64 p0.Tx, .slice A90000_3 p0.Steps.length cp90000_3, .slice A90000_4 p0.Answers.length cp90000_4, .int .i64 p0.Began, .int .i64 p0.Ended, .bool p0.Laid] 74] ∧ Env 59 ((51, .bool r) :: [(0, .agg [.int .i64 p0.Seq, .int .i64 p0.Kind, .int .i64 p0.Tx, .slice A90000_3 p0.Steps.length cp90000_3, .slice A90000_4 p0.Answers.length cp90000_4, .int .i64 p0.Began, .int .i64 p0.Ended, .bool p0.Laid].toArray), (1, .agg [.int .i64 p1.Seq, .int .i64 p1.Kind, .int .i64 p1.Tx, .slice A90001_3 p1.Steps.length cp90001_3, .slice A90001_4 p1.Answers.length cp90001_4, .int .i64 p1.Began, .int .i64 p1.Ended, .bool p1.Laid].toArray), (2, .pointer (some ((⟨b1, 0, none⟩ : Addr).add 0))), (3, .pointer (some ((⟨b3, 0, none⟩ : Addr).add 0))), (4, .bool false), (5, .pointer (some ((⟨b1, 0, none⟩ : Addr).add 0))), (6, .int .i64 p0.Seq), (7, .pointer (some ((⟨b3, 0, none⟩ : Addr).add 0))), (8, .int .i64 p1.Seq), (9, .bool (decide (p0.Seq = p1.Seq))), (10, .bool (decide (p0.Seq = p1.Seq))), (16, .bool ((decide (p0.Seq = p1.Seq)) && (decide (p0.Kind = p1.Kind)))), (17, .bool ((decide (p0.Seq = p1.Seq)) && (decide (p0.Kind = p1.Kind)))), (23, .bool (((decide (p0.Seq = p1.Seq)) && (decide (p0.Kind = p1.Kind))) && (decide (p0.Tx = p1.Tx)))), (24, .bool (((decide (p0.Seq = p1.Seq)) && (decide (p0.Kind = p1.Kind))) && (decide (p0.Tx = p1.Tx)))), (30, .bool ((((decide (p0.Seq = p1.Seq)) && (decide (p0.Kind = p1.Kind))) && (decide (p0.Tx = p1.Tx))) && (impl_SameSteps p0.Steps p1.Steps))), (31, .bool ((((decide (p0.Seq = p1.Seq)) && (decide (p0.Kind = p1.Kind))) && (decide (p0.Tx = p1.Tx))) && (impl_SameSteps p0.Steps p1.Steps))), (37, .bool (((((decide (p0.Seq = p1.Seq)) && (decide (p0.Kind = p1.Kind))) && (decide (p0.Tx = p1.Tx))) && (impl_SameSteps p0.Steps p1.Steps)) && (impl_SameAnswers p0.Answers p1.Answers))), (38, .bool (((((decide (p0.Seq = p1.Seq)) && (decide (p0.Kind = p1.Kind))) && (decide (p0.Tx = p1.Tx))) && (impl_SameSteps p0.Steps p1.Steps)) && (impl_SameAnswers p0.Answers p1.Answers))), (44, .bool ((((((decide (p0.Seq = p1.Seq)) && (decide (p0.Kind = p1.Kind))) && (decide (p0.Tx = p1.Tx))) && (impl_SameSteps p0.Steps p1.Steps)) && (impl_SameAnswers p0.Answers p1.Answers)) && (decide (p0.Began = p1.Began)))), (45, .bool ((((((decide (p0.Seq = p1.Seq)) && (decide (p0.Kind = p1.Kind))) && (decide (p0.Tx = p1.Tx))) && (impl_SameSteps p0.Steps p1.Steps)) && (impl_SameAnswers p0.Answers p1.Answers)) && (decide (p0.Began = p1.Began))))]) a) ?_ ?_
  ·
    rcases Bool.eq_false_or_eq_true ((((((decide (p0.Seq = p1.Seq)) && (decide (p0.Kind = p1.Kind))) && (decide (p0.Tx = p1.Tx))) && (impl_SameSteps p0.Steps p1.Steps)) && (impl_SameAnswers p0.Answers p1.Answers)) && (decide (p0.Began = p1.Began))) with hb95 | hb95
    ·
      refine st_run hE93 rfl rfl rfl hb95 <| st_val hE93 (y_fieldAddr hE93 rfl fa74_6 rfl) rfl fun a96 hE96 => st_run hE96 rfl rfl rfl hb95 <| st_val hE96 (y_load_one hE96 rfl (hS92.cells (k := 1) rfl) rfl one3) rfl fun a97 hE97 => st_run hE97 rfl rfl rfl hb95 <| st_val hE97 (y_fieldAddr hE97 rfl fa74_6 rfl) rfl fun a98 hE98 => st_run hE98 rfl rfl rfl hb95 <| st_val hE98 (y_load_one hE98 rfl (hS92.cells (k := 0) rfl) rfl one3) rfl fun a99 hE99 => st_run hE99 rfl rfl rfl hb95 <| st_val hE99 (y_eql hE99 rfl rfl) rfl fun a100 hE100 => st_val hE100 (y_pick_t hE100 rfl hb95 rfl) rfl fun a101 hE101 => wpList_nil ?_
      exact ⟨decide (p0.Ended = p1.Ended), by simp only [hb95, Bool.true_and, Bool.false_and, Bool.true_or, Bool.false_or, Bool.and_true, Bool.or_true, Bool.and_false, Bool.or_false], hS92, hE101.weaken ⟨rfl, rfl, rfl, rfl, rfl, rfl, rfl, rfl, rfl, rfl, rfl, rfl, rfl, rfl, rfl, rfl, rfl, rfl, rfl, rfl, rfl, rfl, trivial⟩⟩
    ·
      refine st_skip hE93 rfl rfl rfl hb95 rfl fun a102 hE102 => st_skip hE102 rfl rfl rfl hb95 rfl fun a103 hE103 => st_skip hE103 rfl rfl rfl hb95 rfl fun a104 hE104 => st_skip hE104 rfl rfl rfl hb95 rfl fun a105 hE105 => st_skip hE105 rfl rfl rfl hb95 rfl fun a106 hE106 => st_val hE106 (y_pick_f hE106 rfl hb95 rfl) rfl fun a107 hE107 => wpList_nil ?_
      exact ⟨false, by simp only [hb95, Bool.true_and, Bool.false_and, Bool.true_or, Bool.false_or, Bool.and_true, Bool.or_true, Bool.and_false, Bool.or_false], hS92, hE107.weaken ⟨rfl, rfl, rfl, rfl, rfl, rfl, rfl, rfl, rfl, rfl, rfl, rfl, rfl, rfl, rfl, rfl, rfl, rfl, rfl, rfl, rfl, rfl, trivial⟩⟩
  rintro a108 w108 ⟨r108, hr108, hS108, hE108⟩
  subst hr108
  clear hE93 hE92
  refine st_val hE108 (y_move hE108 rfl) rfl fun a109 hE109 => ?_
  refine st_mid 6 (fun a w2 => ∃ r : Bool, r = ((((((((decide (p0.Seq = p1.Seq)) && (decide (p0.Kind = p1.Kind))) && (decide (p0.Tx = p1.Tx))) && (impl_SameSteps p0.Steps p1.Steps)) && (impl_SameAnswers p0.Answers p1.Answers)) && (decide (p0.Began = p1.Began))) && (decide (p0.Ended = p1.Ended))) && (decide (p0.Laid = p1.Laid))) ∧ SH (Old w) w w2 [Ck.var b3 [.int .i64 p1.Seq, .int .i64 p1.Kind, .int .i64 p1.Tx, .slice A90001_3 p1.Steps.length cp90001_3, .slice A90001_4 p1.Answers.length cp90001_4, .int .i64 p1.Began, .int .i64 p1.Ended, .bool p1.Laid] 74, Ck.var b1 [.int .i64 p0.Seq, .int .i64 p0.Kind, .int .i64 p0.Tx, .slice A90000_3 p0.Steps.length cp90000_3, .slice A90000_4 p0.Answers.length cp90000_4, .int .i64 p0.Began, .int .i64 p0.Ended, .bool p0.Laid] 74] ∧ Env 59 ((58, .bool r) :: [(0, .agg [.int .i64 p0.Seq, .int .i64 p0.Kind, .int .i64 p0.Tx, .slice A90000_3 p0.Steps.length cp90000_3, .slice A90000_4 p0.Answers.length cp90000_4, .int .i64 p0.Began, .int .i64 p0.Ended, .bool p0.Laid].toArray), (1, .agg [.int .i64 p1.Seq, .int .i64 p1.Kind, .int .i64 p1.Tx, .slice A90001_3 p1.Steps.length cp90001_3, .slice A90001_4 p1.Answers.length cp90001_4, .int .i64 p1.Began, .int .i64 p1.Ended, .bool p1.Laid].toArray), (2, .pointer (some ((⟨b1, 0, none⟩ : Addr).add 0))), (3, .pointer (some ((⟨b3, 0, none⟩ : Addr).add 0))), (4, .bool false), (5, .pointer (some ((⟨b1, 0, none⟩ : Addr).add 0))), (6, .int .i64 p0.Seq), (7, .pointer (some ((⟨b3, 0, none⟩ : Addr).add 0))), (8, .int .i64 p1.Seq), (9, .bool (decide (p0.Seq = p1.Seq))), (10, .bool (decide (p0.Seq = p1.Seq))), (16, .bool ((decide (p0.Seq = p1.Seq)) && (decide (p0.Kind = p1.Kind)))), (17, .bool ((decide (p0.Seq = p1.Seq)) && (decide (p0.Kind = p1.Kind)))), (23, .bool (((decide (p0.Seq = p1.Seq)) && (decide (p0.Kind = p1.Kind))) && (decide (p0.Tx = p1.Tx)))), (24, .bool (((decide (p0.Seq = p1.Seq)) && (decide (p0.Kind = p1.Kind))) && (decide (p0.Tx = p1.Tx)))), (30, .bool ((((decide (p0.Seq = p1.Seq)) && (decide (p0.Kind = p1.Kind))) && (decide (p0.Tx = p1.Tx))) && (impl_SameSteps p0.Steps p1.Steps))), (31, .bool ((((decide (p0.Seq = p1.Seq)) && (decide (p0.Kind = p1.Kind))) && (decide (p0.Tx = p1.Tx))) && (impl_SameSteps p0.Steps p1.Steps))), (37, .bool (((((decide (p0.Seq = p1.Seq)) && (decide (p0.Kind = p1.Kind))) && (decide (p0.Tx = p1.Tx))) && (impl_SameSteps p0.Steps p1.Steps)) && (impl_SameAnswers p0.Answers p1.Answers))), (38, .bool (((((decide (p0.Seq = p1.Seq)) && (decide (p0.Kind = p1.Kind))) && (decide (p0.Tx = p1.Tx))) && (impl_SameSteps p0.Steps p1.Steps)) && (impl_SameAnswers p0.Answers p1.Answers))), (44, .bool ((((((decide (p0.Seq = p1.Seq)) && (decide (p0.Kind = p1.Kind))) && (decide (p0.Tx = p1.Tx))) && (impl_SameSteps p0.Steps p1.Steps)) && (impl_SameAnswers p0.Answers p1.Answers)) && (decide (p0.Began = p1.Began)))), (45, .bool ((((((decide (p0.Seq = p1.Seq)) && (decide (p0.Kind = p1.Kind))) && (decide (p0.Tx = p1.Tx))) && (impl_SameSteps p0.Steps p1.Steps)) && (impl_SameAnswers p0.Answers p1.Answers)) && (decide (p0.Began = p1.Began)))), (51, .bool (((((((decide (p0.Seq = p1.Seq)) && (decide (p0.Kind = p1.Kind))) && (decide (p0.Tx = p1.Tx))) && (impl_SameSteps p0.Steps p1.Steps)) && (impl_SameAnswers p0.Answers p1.Answers)) && (decide (p0.Began = p1.Began))) && (decide (p0.Ended = p1.Ended)))), (52, .bool (((((((decide (p0.Seq = p1.Seq)) && (decide (p0.Kind = p1.Kind))) && (decide (p0.Tx = p1.Tx))) && (impl_SameSteps p0.Steps p1.Steps)) && (impl_SameAnswers p0.Answers p1.Answers)) && (decide (p0.Began = p1.Began))) && (decide (p0.Ended = p1.Ended))))]) a) ?_ ?_
  ·
    rcases Bool.eq_false_or_eq_true (((((((decide (p0.Seq = p1.Seq)) && (decide (p0.Kind = p1.Kind))) && (decide (p0.Tx = p1.Tx))) && (impl_SameSteps p0.Steps p1.Steps)) && (impl_SameAnswers p0.Answers p1.Answers)) && (decide (p0.Began = p1.Began))) && (decide (p0.Ended = p1.Ended))) with hb111 | hb111
    ·
      refine st_run hE109 rfl rfl rfl hb111 <| st_val hE109 (y_fieldAddr hE109 rfl fa74_7 rfl) rfl fun a112 hE112 => st_run hE112 rfl rfl rfl hb111 <| st_val hE112 (y_load_one hE112 rfl (hS108.cells (k := 1) rfl) rfl one4) rfl fun a113 hE113 => st_run hE113 rfl rfl rfl hb111 <| st_val hE113 (y_fieldAddr hE113 rfl fa74_7 rfl) rfl fun a114 hE114 => st_run hE114 rfl rfl rfl hb111 <| st_val hE114 (y_load_one hE114 rfl (hS108.cells (k := 0) rfl) rfl one4) rfl fun a115 hE115 => st_run hE115 rfl rfl rfl hb111 <| st_val hE115 (y_eql_bool hE115 rfl rfl Try.underlying4) rfl fun a116 hE116 => st_val hE116 (y_pick_t hE116 rfl hb111 rfl) rfl fun a117 hE117 => wpList_nil ?_
      exact ⟨decide (p0.Laid = p1.Laid), by simp only [hb111, Bool.true_and, Bool.false_and, Bool.true_or, Bool.false_or, Bool.and_true, Bool.or_true, Bool.and_false, Bool.or_false], hS108, hE117.weaken ⟨rfl, rfl, rfl, rfl, rfl, rfl, rfl, rfl, rfl, rfl, rfl, rfl, rfl, rfl, rfl, rfl, rfl, rfl, rfl, rfl, rfl, rfl, rfl, rfl, trivial⟩⟩
    ·
      refine st_skip hE109 rfl rfl rfl hb111 rfl fun a118 hE118 => st_skip hE118 rfl rfl rfl hb111 rfl fun a119 hE119 => st_skip hE119 rfl rfl rfl hb111 rfl fun a120 hE120 => st_skip hE120 rfl rfl rfl hb111 rfl fun a121 hE121 => st_skip hE121 rfl rfl rfl hb111 rfl fun a122 hE122 => st_val hE122 (y_pick_f hE122 rfl hb111 rfl) rfl fun a123 hE123 => wpList_nil ?_
      exact ⟨false, by simp only [hb111, Bool.true_and, Bool.false_and, Bool.true_or, Bool.false_or, Bool.and_true, Bool.or_true, Bool.and_false, Bool.or_false], hS108, hE123.weaken ⟨rfl, rfl, rfl, rfl, rfl, rfl, rfl, rfl, rfl, rfl, rfl, rfl, rfl, rfl, rfl, rfl, rfl, rfl, rfl, rfl, rfl, rfl, rfl, rfl, trivial⟩⟩
  rintro a124 w124 ⟨r124, hr124, hS124, hE124⟩
  subst hr124
  clear hE109 hE108
  refine st_val hE124 (y_assign hE124 rfl) rfl fun a125 hE125 => wpList_nil ?_
  clear hE124
  clear a124
  refine then_normal ?_
  refine wp_ret ?_
  exact fin1 hE125 rfl rfl ⟨by rw [hM], hS124.below⟩

/- F39 loop.example/g00974/spec.SameEntries -/
def spec_SameEntries_l1 (p0 : List Entry) (p1 : List Entry) : Nat → Nat → Bool
  | 0, i1 => true
  | fu1 + 1, i1 => (if (!(spec_l26SameEntry (nth p0 i1) (nth p1 i1))) = true then false else spec_SameEntries_l1 p0 p1 fu1 (i1 + 1) )
def spec_SameEntries (p0 : List Entry) (p1 : List Entry) : Bool := (if (!decide ((p0.length : Int) = (p1.length : Int))) = true then false else spec_SameEntries_l1 p0 p1 (p0.length - 0) 0 )
theorem c_spec_SameEntries {v0 : Value} (p0 : List Entry) {v1 : Value} (p1 : List Entry) {w : World} (hp0 : SlR (Old w) w v0 p0) (hp1 : SlR (Old w) w v1 p1) :
    Calls Try.prog 39 [v0, v1].toArray w (fun e w' => e = .returned (.bool (spec_SameEntries p0 p1)) ∧ Below w.heap.size w w') := by
  obtain ⟨A0, cap0, rfl, hx0⟩ := hp0.form
  obtain ⟨A1, cap1, rfl, hx1⟩ := hp1.form
  refine enter Try.func39 rfl Try.ntmps39 (Nat.le_of_ble_eq_true rfl) ?_
  intro a0 hE0
  have hS0 := SH.start w
  have hM := spec_SameEntries.eq_1 p0 p1
  refine wp_seq (wp_region_lit ?_)
  refine st_val hE0 (y_assign hE0 rfl) rfl fun a1 hE1 => wpList_nil ?_
  clear hE0
  clear a0
  refine then_normal ?_
  refine wp_seq (wp_seq (wp_region_lit ?_))
  refine st_val hE1 (y_move hE1 rfl) rfl fun a2 hE2 => st_val hE2 (y_len_slice hE2 rfl sl27) rfl fun a3 hE3 => st_val hE3 (y_move hE3 rfl) rfl fun a4 hE4 => st_val hE4 (y_len_slice hE4 rfl sl27) rfl fun a5 hE5 => st_val hE5 (y_neq hE5 rfl rfl) rfl fun a6 hE6 => wpList_nil ?_
  clear hE1 hE2 hE3 hE4 hE5
  clear a1 a2 a3 a4 a5
  refine then_normal ?_
  refine cond_split hE6 rfl (fun hb7 => ?_) (fun hb7 => ?_)
  ·
    have hM := hM.trans (if_t hb7)
    have hb7f : ¬ ((p0.length : Int) = (p1.length : Int)) := by simpa using hb7
    refine wp_seq (wp_region_lit ?_)
    refine st_val hE6 (y_assign hE6 rfl) rfl fun a8 hE8 => wpList_nil ?_
    clear hE6
    clear a6
    refine then_normal ?_
    refine wp_ret ?_
    refine then_ret ?_
    exact fin1 hE8 rfl rfl ⟨by rw [hM], hS0.below⟩
  ·
    have hM := hM.trans (if_f hb7)
    have hb7f : (p0.length : Int) = (p1.length : Int) := by simpa using hb7
    refine wp_skip ?_
    refine then_normal ?_
    refine wp_seq (wp_seq (wp_region_lit ?_))
    refine st_val hE6 (y_assign hE6 rfl) rfl fun a9 hE9 => wpList_nil ?_
    clear hE6
    clear a6
    refine then_normal ?_
    refine wp_block (wp_loop_ghost (fun fu1 a w2 => ∃ (i1 : Nat), 0 ≤ i1 ∧ fu1 = p0.length - i1 ∧ spec_SameEntries p0 p1 = spec_SameEntries_l1 p0 p1 fu1 i1  ∧ Env 27 [(0, .slice A0 p0.length cap0), (1, .slice A1 p1.length cap1), (5, .int .i64 (i1 : Int))] a ∧ SH (Old w) w w2 []) (p0.length - 0) ⟨0, Nat.le_refl _, rfl, hM, hE9.weaken ⟨rfl, rfl, rfl, trivial⟩, hS0⟩ ?_)
    clear hM hE9
    rintro fu1 a10 w10 ⟨i1, hi1, hfu1, hM, hE10, hS10⟩
    refine wp_seq (wp_seq (wp_region_lit ?_))
    refine st_val hE10 (y_move hE10 rfl) rfl fun a11 hE11 => st_val hE11 (y_move hE11 rfl) rfl fun a12 hE12 => st_val hE12 (y_len_slice hE12 rfl sl27) rfl fun a13 hE13 => st_val hE13 (y_lss hE13 rfl rfl) rfl fun a14 hE14 => wpList_nil ?_
    clear hE10 hE11 hE12 hE13
    clear a10 a11 a12 a13
    refine then_normal ?_
    refine cond_split hE14 rfl (fun hb15 => ?_) (fun hb15 => ?_)
    ·
      have hlt1 : i1 < p0.length := by have := of_decide_eq_true hb15; omega
      obtain ⟨fu1, rfl⟩ : ∃ m, fu1 = m + 1 := ⟨fu1 - 1, by omega⟩
      have hM := hM.trans (spec_SameEntries_l1.eq_2 _ _ _ _)
      refine wp_skip ?_
      refine then_normal ?_
      refine wp_seq (wp_block (wp_seq (reg_quiet mixed (by kernel_rfl) hS10 ?_)))
      refine q_val hE14 (fun w10 hS10 => y_move hE14 rfl) rfl fun a16 hE16 => q_val hE16 (fun w10 hS10 => y_move hE16 rfl) rfl fun a17 hE17 => q_index hE17 hp0 rfl rfl rfl (by omega) sl27 rfl fun ad18 cs18 hr18 hc18 hl18 a19 hE19 => ?_
      obtain ⟨v18_3, v18_4, rfl, hg18_0, hg18_1, hg18_2, hv18_3, hv18_4, hg18_5, hg18_6, _⟩ := Entry_open hr18
      obtain ⟨A18_3, cp18_3, rfl, hx18_3⟩ := hv18_3.form
      obtain ⟨A18_4, cp18_4, rfl, hx18_4⟩ := hv18_4.form
      refine q_val hE19 (fun w10 hS10 => y_load_agg hE19 rfl (hS10.upc hc18 hl18) rfl rfl agg74) rfl fun a20 hE20 => q_val hE20 (fun w10 hS10 => y_move hE20 rfl) rfl fun a21 hE21 => q_val hE21 (fun w10 hS10 => y_move hE21 rfl) rfl fun a22 hE22 => q_index hE22 hp1 rfl rfl rfl (by omega) sl27 rfl fun ad23 cs23 hr23 hc23 hl23 a24 hE24 => ?_
      obtain ⟨v23_3, v23_4, rfl, hg23_0, hg23_1, hg23_2, hv23_3, hv23_4, hg23_5, hg23_6, _⟩ := Entry_open hr23
      obtain ⟨A23_3, cp23_3, rfl, hx23_3⟩ := hv23_3.form
      obtain ⟨A23_4, cp23_4, rfl, hx23_4⟩ := hv23_4.form
      refine q_val hE24 (fun w10 hS10 => y_load_agg hE24 rfl (hS10.upc hc23 hl23) rfl rfl agg74) rfl fun a25 hE25 => q_call hE25 Try.func63 fb63 fn63 (fun w10 hS10 => (c_spec_l26SameEntry (nth p0 i1) (nth p1 i1) (hS10.upd hr18) (hS10.upd hr23))) rfl rfl fun a26 hE26 => q_val hE26 (fun w10 hS10 => y_not hE26 rfl) rfl fun a27 hE27 => ?_
      refine q_nil fun w28 hS28 => ?_
      clear hE14 hE16 hE17 hE19 hE20 hE21 hE22 hE24 hE25 hE26
      clear a14 a16 a17 a19 a20 a21 a22 a24 a25 a26
      refine then_normal ?_
      refine cond_split hE27 rfl (fun hb29 => ?_) (fun hb29 => ?_)
      ·
        have hM := hM.trans (if_t hb29)
        refine wp_seq (wp_region_lit ?_)
        refine st_val hE27 (y_assign hE27 rfl) rfl fun a30 hE30 => wpList_nil ?_
        clear hE27
        clear a27
        refine then_normal ?_
        refine wp_ret ?_
        refine blk_ret ?_
        refine then_ret ?_
        refine then_ret ?_
        refine blk_ret ?_
        refine then_ret ?_
        exact fin1 hE30 rfl rfl ⟨by rw [hM], hS28.below⟩
      ·
        have hM := hM.trans (if_f hb29)
        refine wp_skip ?_
        refine blk_normal ?_
        refine then_normal ?_
        refine wp_region_lit ?_
        refine st_val hE27 (y_move hE27 rfl) rfl fun a31 hE31 => st_val hE31 (y_add_in hE31 rfl rfl (m := ((i1 + 1 : Nat) : Int)) (by omega) (by omega) (by omega)) rfl fun a32 hE32 => st_val hE32 (y_assign hE32 rfl) rfl fun a33 hE33 => wpList_nil ?_
        clear hE27 hE31 hE32
        clear a27 a31 a32
        refine then_normal ⟨fu1, Nat.lt_succ_self _, (i1 + 1), by omega, by omega, hM, hE33.weaken ⟨rfl, rfl, rfl, trivial⟩, hS28⟩
    ·
      have hge1 : ¬ i1 < p0.length := by have := of_decide_eq_false hb15; omega
      obtain rfl : fu1 = 0 := by omega
      have hM := hM.trans (spec_SameEntries_l1.eq_1 _ _ _)
      refine wp_exit ?_
      refine then_exit ?_
      refine then_exit ?_
      refine blk_exit ?_
      refine then_normal ?_
      refine wp_seq (wp_region_lit ?_)
      refine st_val hE14 (y_assign hE14 rfl) rfl fun a34 hE34 => wpList_nil ?_
      clear hE14
      clear a14
      refine then_normal ?_
      refine wp_ret ?_
      exact fin1 hE34 rfl rfl ⟨by rw [hM], hS10.below⟩

/- F40 loop.example/g00974/impl.SameEntries -/
def impl_SameEntries (p0 : List Entry) (p1 : List Entry) : Bool := (slices_EqualFunc_Entry p0 p1 impl_sameEntry)
theorem c_impl_SameEntries {v0 : Value} (p0 : List Entry) {v1 : Value} (p1 : List Entry) {w : World} (hp0 : SlR (Old w) w v0 p0) (hp1 : SlR (Old w) w v1 p1) :
    Calls Try.prog 40 [v0, v1].toArray w (fun e w' => e = .returned (.bool (impl_SameEntries p0 p1)) ∧ Below w.heap.size w w') := by
  obtain ⟨A0, cap0, rfl, hx0⟩ := hp0.form
  obtain ⟨A1, cap1, rfl, hx1⟩ := hp1.form
  refine enter Try.func40 rfl Try.ntmps40 (Nat.le_of_ble_eq_true rfl) ?_
  intro a0 hE0
  have hS0 := SH.start w
  have hM := impl_SameEntries.eq_1 p0 p1
  refine wp_seq (wp_region_lit ?_)
  refine st_val hE0 (y_assign hE0 rfl) rfl fun a1 hE1 => wpList_nil ?_
  clear hE0
  clear a0
  refine then_normal ?_
  refine wp_seq (wp_region_lit ?_)
  refine st_val hE1 (y_move hE1 rfl) rfl fun a2 hE2 => st_val hE2 (y_move hE2 rfl) rfl fun a3 hE3 => st_callF hE3 hS0 Try.func64 fb64 fn64 (c_slices_EqualFunc_Entry p0 p1 65 [] impl_sameEntry (hS0.up hp0) (hS0.up hp1) fok65 (fun x0 k0 x1 k1 w1 hb hr0 hr1 => c_impl_sameEntry x0 x1 hr0 hr1)) rfl rfl fun w4 hS4 a5 hE5 => st_val hE5 (y_assign hE5 rfl) rfl fun a6 hE6 => wpList_nil ?_
  clear hE1 hE2 hE3 hE5
  clear a1 a2 a3 a5
  refine then_normal ?_
  refine wp_ret ?_
  exact fin1 hE6 rfl rfl ⟨by rw [hM], hS4.below⟩

/- F16 loop.example/g00974/spec.IsBeginning -/
def spec_IsBeginning (p0 : List Entry) (p1 : List Entry) : Bool := (decide ((p0.length : Int) ≤ (p1.length : Int))) && (spec_SameEntries p0 (p1.take p0.length))
theorem c_spec_IsBeginning {v0 : Value} (p0 : List Entry) {v1 : Value} (p1 : List Entry) {w : World} (hp0 : SlR (Old w) w v0 p0) (hp1 : SlR (Old w) w v1 p1) :
    Calls Try.prog 16 [v0, v1].toArray w (fun e w' => e = .returned (.bool (spec_IsBeginning p0 p1)) ∧ Below w.heap.size w w') := by
  obtain ⟨A0, cap0, rfl, hx0⟩ := hp0.form
  obtain ⟨A1, cap1, rfl, hx1⟩ := hp1.form
  refine enter Try.func16 rfl Try.ntmps16 (Nat.le_of_ble_eq_true rfl) ?_
  intro a0 hE0
  have hS0 := SH.start w
  have hM := spec_IsBeginning.eq_1 p0 p1
  refine wp_seq (wp_region_lit ?_)
  refine st_val hE0 (y_assign hE0 rfl) rfl fun a1 hE1 => wpList_nil ?_
  clear hE0
  clear a0
  refine then_normal ?_
  refine wp_seq (wp_region_lit ?_)
  refine st_val hE1 (y_move hE1 rfl) rfl fun a2 hE2 => st_val hE2 (y_len_slice hE2 rfl sl27) rfl fun a3 hE3 => st_val hE3 (y_move hE3 rfl) rfl fun a4 hE4 => st_val hE4 (y_len_slice hE4 rfl sl27) rfl fun a5 hE5 => st_val hE5 (y_leq hE5 rfl rfl) rfl fun a6 hE6 => st_val hE6 (y_move hE6 rfl) rfl fun a7 hE7 => ?_
  refine st_mid 7 (fun a w2 => ∃ r : Bool, r = ((decide ((p0.length : Int) ≤ (p1.length : Int))) && (spec_SameEntries p0 (p1.take p0.length))) ∧ SH (Old w) w w2 [] ∧ Env 18 ((17, .bool r) :: [(0, .slice A0 p0.length cap0), (1, .slice A1 p1.length cap1), (4, .bool false), (5, .slice A0 p0.length cap0), (6, .int .i64 (p0.length : Int)), (7, .slice A1 p1.length cap1), (8, .int .i64 (p1.length : Int)), (9, .bool (decide ((p0.length : Int) ≤ (p1.length : Int)))), (10, .bool (decide ((p0.length : Int) ≤ (p1.length : Int))))]) a) ?_ ?_
  ·
    rcases Bool.eq_false_or_eq_true (decide ((p0.length : Int) ≤ (p1.length : Int))) with hb9 | hb9
    ·
      have hb9f : (p0.length : Int) ≤ (p1.length : Int) := of_decide_eq_true hb9
      refine st_run hE7 rfl rfl rfl hb9 <| st_val hE7 (y_move hE7 rfl) rfl fun a10 hE10 => st_run hE10 rfl rfl rfl hb9 <| st_val hE10 (y_move hE10 rfl) rfl fun a11 hE11 => st_run hE11 rfl rfl rfl hb9 <| st_val hE11 (y_move hE11 rfl) rfl fun a12 hE12 => st_run hE12 rfl rfl rfl hb9 <| st_val hE12 (y_len_slice hE12 rfl sl27) rfl fun a13 hE13 => st_run hE13 rfl rfl rfl hb9 <| ?_
      have hsl14 := hp1.take p0.length
      have hsc14 := SlR_cap hp1
      refine st_val hE13 (y_slice_hi hE13 rfl rfl (h := p0.length) (m := (p1.take p0.length).length) rfl (by omega) (by rw [List.length_take]; omega) sl27) rfl fun a15 hE15 => st_run hE15 rfl rfl rfl hb9 <| st_callF hE15 hS0 Try.func39 fb39 fn39 (c_spec_SameEntries p0 (p1.take p0.length) (hS0.up hp0) (hS0.up hsl14)) rfl rfl fun w16 hS16 a17 hE17 => st_val hE17 (y_pick_t hE17 rfl hb9 rfl) rfl fun a18 hE18 => wpList_nil ?_
      exact ⟨(spec_SameEntries p0 (p1.take p0.length)), by simp only [hb9, Bool.true_and, Bool.false_and, Bool.true_or, Bool.false_or, Bool.and_true, Bool.or_true, Bool.and_false, Bool.or_false], hS16, hE18.weaken ⟨rfl, rfl, rfl, rfl, rfl, rfl, rfl, rfl, rfl, rfl, trivial⟩⟩
    ·
      have hb9f : ¬ ((p0.length : Int) ≤ (p1.length : Int)) := of_decide_eq_false hb9
      refine st_skip hE7 rfl rfl rfl hb9 rfl fun a19 hE19 => st_skip hE19 rfl rfl rfl hb9 rfl fun a20 hE20 => st_skip hE20 rfl rfl rfl hb9 rfl fun a21 hE21 => st_skip hE21 rfl rfl rfl hb9 rfl fun a22 hE22 => st_skip hE22 rfl rfl rfl hb9 rfl fun a23 hE23 => st_skip hE23 rfl rfl rfl hb9 rfl fun a24 hE24 => st_val hE24 (y_pick_f hE24 rfl hb9 rfl) rfl fun a25 hE25 => wpList_nil ?_
      exact ⟨false, by simp only [hb9, Bool.true_and, Bool.false_and, Bool.true_or, Bool.false_or, Bool.and_true, Bool.or_true, Bool.and_false, Bool.or_false], hS0, hE25.weaken ⟨rfl, rfl, rfl, rfl, rfl, rfl, rfl, rfl, rfl, rfl, trivial⟩⟩
  rintro a26 w26 ⟨r26, hr26, hS26, hE26⟩
  subst hr26
  clear hE7 hE1 hE2 hE3 hE4 hE5 hE6
  refine st_val hE26 (y_assign hE26 rfl) rfl fun a27 hE27 => wpList_nil ?_
  clear hE26
  clear a26
  refine then_normal ?_
  refine wp_ret ?_
  exact fin1 hE27 rfl rfl ⟨by rw [hM], hS26.below⟩

/- F17 loop.example/g00974/impl.IsBeginning -/
def impl_IsBeginning (p0 : List Entry) (p1 : List Entry) : Bool := (decide ((p0.length : Int) ≤ (p1.length : Int))) && (impl_SameEntries p0 (p1.take p0.length))
theorem c_impl_IsBeginning {v0 : Value} (p0 : List Entry) {v1 : Value} (p1 : List Entry) {w : World} (hp0 : SlR (Old w) w v0 p0) (hp1 : SlR (Old w) w v1 p1) :
    Calls Try.prog 17 [v0, v1].toArray w (fun e w' => e = .returned (.bool (impl_IsBeginning p0 p1)) ∧ Below w.heap.size w w') := by
  obtain ⟨A0, cap0, rfl, hx0⟩ := hp0.form
  obtain ⟨A1, cap1, rfl, hx1⟩ := hp1.form
  refine enter Try.func17 rfl Try.ntmps17 (Nat.le_of_ble_eq_true rfl) ?_
  intro a0 hE0
  have hS0 := SH.start w
  have hM := impl_IsBeginning.eq_1 p0 p1
  refine wp_seq (wp_region_lit ?_)
  refine st_val hE0 (y_assign hE0 rfl) rfl fun a1 hE1 => wpList_nil ?_
  clear hE0
  clear a0
  refine then_normal ?_
  refine wp_seq (wp_region_lit ?_)
  refine st_val hE1 (y_move hE1 rfl) rfl fun a2 hE2 => st_val hE2 (y_len_slice hE2 rfl sl27) rfl fun a3 hE3 => st_val hE3 (y_move hE3 rfl) rfl fun a4 hE4 => st_val hE4 (y_len_slice hE4 rfl sl27) rfl fun a5 hE5 => st_val hE5 (y_leq hE5 rfl rfl) rfl fun a6 hE6 => st_val hE6 (y_move hE6 rfl) rfl fun a7 hE7 => ?_
  refine st_mid 7 (fun a w2 => ∃ r : Bool, r = ((decide ((p0.length : Int) ≤ (p1.length : Int))) && (impl_SameEntries p0 (p1.take p0.length))) ∧ SH (Old w) w w2 [] ∧ Env 18 ((17, .bool r) :: [(0, .slice A0 p0.length cap0), (1, .slice A1 p1.length cap1), (4, .bool false), (5, .slice A0 p0.length cap0), (6, .int .i64 (p0.length : Int)), (7, .slice A1 p1.length cap1), (8, .int .i64 (p1.length : Int)), (9, .bool (decide ((p0.length : Int) ≤ (p1.length : Int)))), (10, .bool (decide ((p0.length : Int) ≤ (p1.length : Int))))]) a) ?_ ?_
  ·
    rcases Bool.eq_false_or_eq_true (decide ((p0.length : Int) ≤ (p1.length : Int))) with hb9 | hb9
    ·
      have hb9f : (p0.length : Int) ≤ (p1.length : Int) := of_decide_eq_true hb9
      refine st_run hE7 rfl rfl rfl hb9 <| st_val hE7 (y_move hE7 rfl) rfl fun a10 hE10 => st_run hE10 rfl rfl rfl hb9 <| st_val hE10 (y_move hE10 rfl) rfl fun a11 hE11 => st_run hE11 rfl rfl rfl hb9 <| st_val hE11 (y_move hE11 rfl) rfl fun a12 hE12 => st_run hE12 rfl rfl rfl hb9 <| st_val hE12 (y_len_slice hE12 rfl sl27) rfl fun a13 hE13 => st_run hE13 rfl rfl rfl hb9 <| ?_
      have hsl14 := hp1.take p0.length
      have hsc14 := SlR_cap hp1
      refine st_val hE13 (y_slice_hi hE13 rfl rfl (h := p0.length) (m := (p1.take p0.length).length) rfl (by omega) (by rw [List.length_take]; omega) sl27) rfl fun a15 hE15 => st_run hE15 rfl rfl rfl hb9 <| st_callF hE15 hS0 Try.func40 fb40 fn40 (c_impl_SameEntries p0 (p1.take p0.length) (hS0.up hp0) (hS0.up hsl14)) rfl rfl fun w16 hS16 a17 hE17 => st_val hE17 (y_pick_t hE17 rfl hb9 rfl) rfl fun a18 hE18 => wpList_nil ?_
      exact ⟨(impl_SameEntries p0 (p1.take p0.length)), by simp only [hb9, Bool.true_and, Bool.false_and, Bool.true_or, Bool.false_or, Bool.and_true, Bool.or_true, Bool.and_false, Bool.or_false], hS16, hE18.weaken ⟨rfl, rfl, rfl, rfl, rfl, rfl, rfl, rfl, rfl, rfl, trivial⟩⟩
    ·
      have hb9f : ¬ ((p0.length : Int) ≤ (p1.length : Int)) := of_decide_eq_false hb9
      refine st_skip hE7 rfl rfl rfl hb9 rfl fun a19 hE19 => st_skip hE19 rfl rfl rfl hb9 rfl fun a20 hE20 => st_skip hE20 rfl rfl rfl hb9 rfl fun a21 hE21 => st_skip hE21 rfl rfl rfl hb9 rfl fun a22 hE22 => st_skip hE22 rfl rfl rfl hb9 rfl fun a23 hE23 => st_skip hE23 rfl rfl rfl hb9 rfl fun a24 hE24 => st_val hE24 (y_pick_f hE24 rfl hb9 rfl) rfl fun a25 hE25 => wpList_nil ?_
      exact ⟨false, by simp only [hb9, Bool.true_and, Bool.false_and, Bool.true_or, Bool.false_or, Bool.and_true, Bool.or_true, Bool.and_false, Bool.or_false], hS0, hE25.weaken ⟨rfl, rfl, rfl, rfl, rfl, rfl, rfl, rfl, rfl, rfl, trivial⟩⟩
  rintro a26 w26 ⟨r26, hr26, hS26, hE26⟩
  subst hr26
  clear hE7 hE1 hE2 hE3 hE4 hE5 hE6
  refine st_val hE26 (y_assign hE26 rfl) rfl fun a27 hE27 => wpList_nil ?_
  clear hE26
  clear a26
  refine then_normal ?_
  refine wp_ret ?_
  exact fin1 hE27 rfl rfl ⟨by rw [hM], hS26.below⟩

end Go.Proofs.Ytpfnofdaaekglaa.Fw
