/- Contracts: each call returns what the model says. By program (wip/gen). -/
import Derived.Test.YtmjjcihoobnbgaaDoorPO
namespace Go.Proofs.YtmjjcihoobnbgaaDoor.Fw
open Go.RowKit
set_option linter.unusedVariables false
set_option linter.unusedSimpArgs false

theorem agg28 : chkAgg Tryd.prog 28 6 = true := by kernel_rfl
theorem fa28_0 : chkField Tryd.prog 28 0 0 = true := by kernel_rfl
theorem fa28_1 : chkField Tryd.prog 28 1 1 = true := by kernel_rfl
theorem fa28_2 : chkField Tryd.prog 28 2 2 = true := by kernel_rfl
theorem fa28_3 : chkField Tryd.prog 28 3 3 = true := by kernel_rfl
theorem fa28_4 : chkField Tryd.prog 28 4 4 = true := by kernel_rfl
theorem fa28_5 : chkField Tryd.prog 28 5 5 = true := by kernel_rfl
theorem fa29_0 : chkField Tryd.prog 29 0 0 = true := by kernel_rfl
theorem fa29_1 : chkField Tryd.prog 29 1 1 = true := by kernel_rfl
theorem fa29_2 : chkField Tryd.prog 29 2 2 = true := by kernel_rfl
theorem fa29_3 : chkField Tryd.prog 29 3 3 = true := by kernel_rfl
theorem fa29_4 : chkField Tryd.prog 29 4 4 = true := by kernel_rfl
theorem fa29_5 : chkField Tryd.prog 29 5 5 = true := by kernel_rfl
theorem one3 : chkOne Tryd.prog 3 = true := by kernel_rfl
theorem one9 : chkOne Tryd.prog 9 = true := by kernel_rfl

/- F15 loop.example/g00974/laws.szCall -/
def laws_szCall (p0 : Call) (p1 : Int) : Int := (if (decide (IntKind.i64.wrap (p1 - (p0.Name.size : Int)) < 0)) = true then (-1) else (if (decide (IntKind.i64.wrap (IntKind.i64.wrap (p1 - (p0.Name.size : Int)) - (p0.To.size : Int)) < 0)) = true then (-1) else (if (decide (IntKind.i64.wrap (IntKind.i64.wrap (IntKind.i64.wrap (p1 - (p0.Name.size : Int)) - (p0.To.size : Int)) - (p0.Text.size : Int)) < 0)) = true then (-1) else IntKind.i64.wrap (IntKind.i64.wrap (IntKind.i64.wrap (p1 - (p0.Name.size : Int)) - (p0.To.size : Int)) - (p0.Text.size : Int)))))
theorem c_laws_szCall {c0 : List Value} (p0 : Call) (p1 : Int) {w : World} (hp0 : Dat.rd (Old w) w c0 p0) :
    Calls Tryd.prog 15 [.agg c0.toArray, .int .i64 p1].toArray w (fun e w' => e = .returned (.int .i64 (laws_szCall p0 p1)) ∧ Below w.heap.size w w') := by
  obtain ⟨rfl, hg90000_0, hg90000_1, hg90000_2, hg90000_3, hg90000_4, hg90000_5, _⟩ := Call_open hp0
  refine enter Tryd.func15 rfl Tryd.ntmps15 (Nat.le_of_ble_eq_true rfl) ?_
  intro a0 hE0
  have hS0 := SH.start w
  have hM := laws_szCall.eq_1 p0 p1
  refine wp_seq (wp_region_lit ?_)
  refine st_box hE0 hS0 rfl rfl rfl fun b1 w1 hS1 a2 hE2 => st_val hE2 (y_assign hE2 rfl) rfl fun a3 hE3 => wpList_nil ?_
  clear hE0 hE2
  clear a0 a2
  refine then_normal ?_
  refine wp_seq (wp_region_lit ?_)
  refine st_val hE3 (y_move hE3 rfl) rfl fun a4 hE4 => st_val hE4 (y_fieldAddr hE4 rfl fa29_1 rfl) rfl fun a5 hE5 => st_val hE5 (y_load_one hE5 rfl (hS1.cells (k := 0) rfl) rfl one9) rfl fun a6 hE6 => st_val hE6 (y_len_string hE6 rfl Tryd.underlying9) rfl fun a7 hE7 => st_val hE7 (y_sub hE7 rfl rfl) rfl fun a8 hE8 => st_val hE8 (y_assign hE8 rfl) rfl fun a9 hE9 => wpList_nil ?_
  clear hE3 hE4 hE5 hE6 hE7 hE8
  clear a3 a4 a5 a6 a7 a8
  refine then_normal ?_
  refine wp_seq (wp_seq (wp_region_lit ?_))
  refine st_val hE9 (y_move hE9 rfl) rfl fun a10 hE10 => st_val hE10 (y_lss hE10 rfl rfl) rfl fun a11 hE11 => wpList_nil ?_
  clear hE9 hE10
  clear a9 a10
  refine then_normal ?_
  refine cond_split hE11 rfl (fun hb12 => ?_) (fun hb12 => ?_)
  ·
    have hM := hM.trans (if_t hb12)
    have hb12f : IntKind.i64.wrap (p1 - (p0.Name.size : Int)) < 0 := of_decide_eq_true hb12
    refine wp_seq (wp_region_lit ?_)
    refine st_val hE11 (y_assign hE11 rfl) rfl fun a13 hE13 => wpList_nil ?_
    clear hE11
    clear a11
    refine then_normal ?_
    refine wp_ret ?_
    refine then_ret ?_
    exact fin1 hE13 rfl rfl ⟨by rw [hM], hS1.below⟩
  ·
    have hM := hM.trans (if_f hb12)
    have hb12f : ¬ (IntKind.i64.wrap (p1 - (p0.Name.size : Int)) < 0) := of_decide_eq_false hb12
    refine wp_skip ?_
    refine then_normal ?_
    refine wp_seq (wp_region_lit ?_)
    refine st_val hE11 (y_move hE11 rfl) rfl fun a14 hE14 => st_val hE14 (y_fieldAddr hE14 rfl fa29_2 rfl) rfl fun a15 hE15 => st_val hE15 (y_load_one hE15 rfl (hS1.cells (k := 0) rfl) rfl one9) rfl fun a16 hE16 => st_val hE16 (y_len_string hE16 rfl Tryd.underlying9) rfl fun a17 hE17 => st_val hE17 (y_sub hE17 rfl rfl) rfl fun a18 hE18 => st_val hE18 (y_assign hE18 rfl) rfl fun a19 hE19 => wpList_nil ?_
    clear hE11 hE14 hE15 hE16 hE17 hE18
    clear a11 a14 a15 a16 a17 a18
    refine then_normal ?_
    refine wp_seq (wp_seq (wp_region_lit ?_))
    refine st_val hE19 (y_move hE19 rfl) rfl fun a20 hE20 => st_val hE20 (y_lss hE20 rfl rfl) rfl fun a21 hE21 => wpList_nil ?_
    clear hE19 hE20
    clear a19 a20
    refine then_normal ?_
    refine cond_split hE21 rfl (fun hb22 => ?_) (fun hb22 => ?_)
    ·
      have hM := hM.trans (if_t hb22)
      have hb22f : IntKind.i64.wrap (IntKind.i64.wrap (p1 - (p0.Name.size : Int)) - (p0.To.size : Int)) < 0 := of_decide_eq_true hb22
      refine wp_seq (wp_region_lit ?_)
      refine st_val hE21 (y_assign hE21 rfl) rfl fun a23 hE23 => wpList_nil ?_
      clear hE21
      clear a21
      refine then_normal ?_
      refine wp_ret ?_
      refine then_ret ?_
      exact fin1 hE23 rfl rfl ⟨by rw [hM], hS1.below⟩
    ·
      have hM := hM.trans (if_f hb22)
      have hb22f : ¬ (IntKind.i64.wrap (IntKind.i64.wrap (p1 - (p0.Name.size : Int)) - (p0.To.size : Int)) < 0) := of_decide_eq_false hb22
      refine wp_skip ?_
      refine then_normal ?_
      refine wp_seq (wp_region_lit ?_)
      refine st_val hE21 (y_move hE21 rfl) rfl fun a24 hE24 => st_val hE24 (y_fieldAddr hE24 rfl fa29_5 rfl) rfl fun a25 hE25 => st_val hE25 (y_load_one hE25 rfl (hS1.cells (k := 0) rfl) rfl one9) rfl fun a26 hE26 => st_val hE26 (y_len_string hE26 rfl Tryd.underlying9) rfl fun a27 hE27 => st_val hE27 (y_sub hE27 rfl rfl) rfl fun a28 hE28 => st_val hE28 (y_assign hE28 rfl) rfl fun a29 hE29 => wpList_nil ?_
      clear hE21 hE24 hE25 hE26 hE27 hE28
      clear a21 a24 a25 a26 a27 a28
      refine then_normal ?_
      refine wp_seq (wp_seq (wp_region_lit ?_))
      refine st_val hE29 (y_move hE29 rfl) rfl fun a30 hE30 => st_val hE30 (y_lss hE30 rfl rfl) rfl fun a31 hE31 => wpList_nil ?_
      clear hE29 hE30
      clear a29 a30
      refine then_normal ?_
      refine cond_split hE31 rfl (fun hb32 => ?_) (fun hb32 => ?_)
      ·
        have hM := hM.trans (if_t hb32)
        have hb32f : IntKind.i64.wrap (IntKind.i64.wrap (IntKind.i64.wrap (p1 - (p0.Name.size : Int)) - (p0.To.size : Int)) - (p0.Text.size : Int)) < 0 := of_decide_eq_true hb32
        refine wp_seq (wp_region_lit ?_)
        refine st_val hE31 (y_assign hE31 rfl) rfl fun a33 hE33 => wpList_nil ?_
        clear hE31
        clear a31
        refine then_normal ?_
        refine wp_ret ?_
        refine then_ret ?_
        exact fin1 hE33 rfl rfl ⟨by rw [hM], hS1.below⟩
      ·
        have hM := hM.trans (if_f hb32)
        have hb32f : ¬ (IntKind.i64.wrap (IntKind.i64.wrap (IntKind.i64.wrap (p1 - (p0.Name.size : Int)) - (p0.To.size : Int)) - (p0.Text.size : Int)) < 0) := of_decide_eq_false hb32
        refine wp_skip ?_
        refine then_normal ?_
        refine wp_seq (wp_region_lit ?_)
        refine st_val hE31 (y_move hE31 rfl) rfl fun a34 hE34 => st_val hE34 (y_assign hE34 rfl) rfl fun a35 hE35 => wpList_nil ?_
        clear hE31 hE34
        clear a31 a34
        refine then_normal ?_
        refine wp_ret ?_
        exact fin1 hE35 rfl rfl ⟨by rw [hM], hS1.below⟩

/- F17 loop.example/g00974/laws.toCall -/
def laws_toCall (p0 : Call) : Call := p0
theorem c_laws_toCall {c0 : List Value} (p0 : Call) {w : World} (hp0 : Dat.rd (Old w) w c0 p0) :
    Calls Tryd.prog 17 [.agg c0.toArray].toArray w (fun e w' => ∃ cs F, e = .returned (.agg cs.toArray) ∧ Below w.heap.size w w' ∧ Dat.own w' cs (laws_toCall p0) F ∧ F.Nodup ∧ ∀ b ∈ F, w.heap.size ≤ b) := by
  obtain ⟨rfl, hg90000_0, hg90000_1, hg90000_2, hg90000_3, hg90000_4, hg90000_5, _⟩ := Call_open hp0
  refine enter Tryd.func17 rfl Tryd.ntmps17 (Nat.le_of_ble_eq_true rfl) ?_
  intro a0 hE0
  have hS0 := SH.start w
  have hM := laws_toCall.eq_1 p0
  refine wp_seq (wp_region_lit ?_)
  refine st_box hE0 hS0 rfl rfl rfl fun b1 w1 hS1 a2 hE2 => st_alloc hE2 hS1 Tryd.zeroValue28 rfl rfl fun b3 w3 hS3 a4 hE4 => wpList_nil ?_
  clear hE0 hE2
  clear a0 a2
  refine then_normal ?_
  refine wp_seq (wp_region_lit ?_)
  refine st_alloc hE4 hS3 Tryd.zeroValue28 rfl rfl fun b5 w5 hS5 a6 hE6 => wpList_nil ?_
  clear hE4
  clear a4
  refine then_normal ?_
  refine wp_seq (wp_region_lit ?_)
  refine st_val hE6 (y_fieldAddr hE6 rfl fa29_0 rfl) rfl fun a7 hE7 => st_val hE7 (y_load_one hE7 rfl (hS5.cells (k := 2) rfl) rfl one3) rfl fun a8 hE8 => st_val hE8 (y_fieldAddr hE8 rfl fa28_0 rfl) rfl fun a9 hE9 => st_store hE9 hS5 [.int .i64 p0.Kind, .string (⟨#[]⟩ : ByteArray), .string (⟨#[]⟩ : ByteArray), .int .i64 0, .int .i64 0, .string (⟨#[]⟩ : ByteArray)] rfl rfl (k := 0) rfl rfl (chkOne_size one3) rfl rfl rfl rfl fun w10 (hS10 : SH (Old w) w w10 [Ck.var b5 [.int .i64 p0.Kind, .string (⟨#[]⟩ : ByteArray), .string (⟨#[]⟩ : ByteArray), .int .i64 0, .int .i64 0, .string (⟨#[]⟩ : ByteArray)] 28, Ck.var b3 [.int .i64 0, .string (⟨#[]⟩ : ByteArray), .string (⟨#[]⟩ : ByteArray), .int .i64 0, .int .i64 0, .string (⟨#[]⟩ : ByteArray)] 28, Ck.var b1 [.int .i64 p0.Kind, .string p0.Name, .string p0.To, .int .i64 p0.A, .int .i64 p0.B, .string p0.Text] 29]) a11 hE11 => wpList_nil ?_
  clear hE6 hE7 hE8 hE9
  clear a6 a7 a8 a9
  refine then_normal ?_
  refine wp_seq (wp_region_lit ?_)
  refine st_val hE11 (y_fieldAddr hE11 rfl fa29_1 rfl) rfl fun a12 hE12 => st_val hE12 (y_load_one hE12 rfl (hS10.cells (k := 2) rfl) rfl one9) rfl fun a13 hE13 => st_val hE13 (y_fieldAddr hE13 rfl fa28_1 rfl) rfl fun a14 hE14 => st_store hE14 hS10 [.int .i64 p0.Kind, .string p0.Name, .string (⟨#[]⟩ : ByteArray), .int .i64 0, .int .i64 0, .string (⟨#[]⟩ : ByteArray)] rfl rfl (k := 0) rfl rfl (chkOne_size one9) rfl rfl rfl rfl fun w15 (hS15 : SH (Old w) w w15 [Ck.var b5 [.int .i64 p0.Kind, .string p0.Name, .string (⟨#[]⟩ : ByteArray), .int .i64 0, .int .i64 0, .string (⟨#[]⟩ : ByteArray)] 28, Ck.var b3 [.int .i64 0, .string (⟨#[]⟩ : ByteArray), .string (⟨#[]⟩ : ByteArray), .int .i64 0, .int .i64 0, .string (⟨#[]⟩ : ByteArray)] 28, Ck.var b1 [.int .i64 p0.Kind, .string p0.Name, .string p0.To, .int .i64 p0.A, .int .i64 p0.B, .string p0.Text] 29]) a16 hE16 => wpList_nil ?_
  clear hE11 hE12 hE13 hE14
  clear a11 a12 a13 a14
  refine then_normal ?_
  refine wp_seq (wp_region_lit ?_)
  refine st_val hE16 (y_fieldAddr hE16 rfl fa29_2 rfl) rfl fun a17 hE17 => st_val hE17 (y_load_one hE17 rfl (hS15.cells (k := 2) rfl) rfl one9) rfl fun a18 hE18 => st_val hE18 (y_fieldAddr hE18 rfl fa28_2 rfl) rfl fun a19 hE19 => st_store hE19 hS15 [.int .i64 p0.Kind, .string p0.Name, .string p0.To, .int .i64 0, .int .i64 0, .string (⟨#[]⟩ : ByteArray)] rfl rfl (k := 0) rfl rfl (chkOne_size one9) rfl rfl rfl rfl fun w20 (hS20 : SH (Old w) w w20 [Ck.var b5 [.int .i64 p0.Kind, .string p0.Name, .string p0.To, .int .i64 0, .int .i64 0, .string (⟨#[]⟩ : ByteArray)] 28, Ck.var b3 [.int .i64 0, .string (⟨#[]⟩ : ByteArray), .string (⟨#[]⟩ : ByteArray), .int .i64 0, .int .i64 0, .string (⟨#[]⟩ : ByteArray)] 28, Ck.var b1 [.int .i64 p0.Kind, .string p0.Name, .string p0.To, .int .i64 p0.A, .int .i64 p0.B, .string p0.Text] 29]) a21 hE21 => wpList_nil ?_
  clear hE16 hE17 hE18 hE19
  clear a16 a17 a18 a19
  refine then_normal ?_
  refine wp_seq (wp_region_lit ?_)
  refine st_val hE21 (y_fieldAddr hE21 rfl fa29_3 rfl) rfl fun a22 hE22 => st_val hE22 (y_load_one hE22 rfl (hS20.cells (k := 2) rfl) rfl one3) rfl fun a23 hE23 => st_val hE23 (y_fieldAddr hE23 rfl fa28_3 rfl) rfl fun a24 hE24 => st_store hE24 hS20 [.int .i64 p0.Kind, .string p0.Name, .string p0.To, .int .i64 p0.A, .int .i64 0, .string (⟨#[]⟩ : ByteArray)] rfl rfl (k := 0) rfl rfl (chkOne_size one3) rfl rfl rfl rfl fun w25 (hS25 : SH (Old w) w w25 [Ck.var b5 [.int .i64 p0.Kind, .string p0.Name, .string p0.To, .int .i64 p0.A, .int .i64 0, .string (⟨#[]⟩ : ByteArray)] 28, Ck.var b3 [.int .i64 0, .string (⟨#[]⟩ : ByteArray), .string (⟨#[]⟩ : ByteArray), .int .i64 0, .int .i64 0, .string (⟨#[]⟩ : ByteArray)] 28, Ck.var b1 [.int .i64 p0.Kind, .string p0.Name, .string p0.To, .int .i64 p0.A, .int .i64 p0.B, .string p0.Text] 29]) a26 hE26 => wpList_nil ?_
  clear hE21 hE22 hE23 hE24
  clear a21 a22 a23 a24
  refine then_normal ?_
  refine wp_seq (wp_region_lit ?_)
  refine st_val hE26 (y_fieldAddr hE26 rfl fa29_4 rfl) rfl fun a27 hE27 => st_val hE27 (y_load_one hE27 rfl (hS25.cells (k := 2) rfl) rfl one3) rfl fun a28 hE28 => st_val hE28 (y_fieldAddr hE28 rfl fa28_4 rfl) rfl fun a29 hE29 => st_store hE29 hS25 [.int .i64 p0.Kind, .string p0.Name, .string p0.To, .int .i64 p0.A, .int .i64 p0.B, .string (⟨#[]⟩ : ByteArray)] rfl rfl (k := 0) rfl rfl (chkOne_size one3) rfl rfl rfl rfl fun w30 (hS30 : SH (Old w) w w30 [Ck.var b5 [.int .i64 p0.Kind, .string p0.Name, .string p0.To, .int .i64 p0.A, .int .i64 p0.B, .string (⟨#[]⟩ : ByteArray)] 28, Ck.var b3 [.int .i64 0, .string (⟨#[]⟩ : ByteArray), .string (⟨#[]⟩ : ByteArray), .int .i64 0, .int .i64 0, .string (⟨#[]⟩ : ByteArray)] 28, Ck.var b1 [.int .i64 p0.Kind, .string p0.Name, .string p0.To, .int .i64 p0.A, .int .i64 p0.B, .string p0.Text] 29]) a31 hE31 => wpList_nil ?_
  clear hE26 hE27 hE28 hE29
  clear a26 a27 a28 a29
  refine then_normal ?_
  refine wp_seq (wp_region_lit ?_)
  refine st_val hE31 (y_fieldAddr hE31 rfl fa29_5 rfl) rfl fun a32 hE32 => st_val hE32 (y_load_one hE32 rfl (hS30.cells (k := 2) rfl) rfl one9) rfl fun a33 hE33 => st_val hE33 (y_fieldAddr hE33 rfl fa28_5 rfl) rfl fun a34 hE34 => st_store hE34 hS30 [.int .i64 p0.Kind, .string p0.Name, .string p0.To, .int .i64 p0.A, .int .i64 p0.B, .string p0.Text] rfl rfl (k := 0) rfl rfl (chkOne_size one9) rfl rfl rfl rfl fun w35 (hS35 : SH (Old w) w w35 [Ck.var b5 [.int .i64 p0.Kind, .string p0.Name, .string p0.To, .int .i64 p0.A, .int .i64 p0.B, .string p0.Text] 28, Ck.var b3 [.int .i64 0, .string (⟨#[]⟩ : ByteArray), .string (⟨#[]⟩ : ByteArray), .int .i64 0, .int .i64 0, .string (⟨#[]⟩ : ByteArray)] 28, Ck.var b1 [.int .i64 p0.Kind, .string p0.Name, .string p0.To, .int .i64 p0.A, .int .i64 p0.B, .string p0.Text] 29]) a36 hE36 => wpList_nil ?_
  clear hE31 hE32 hE33 hE34
  clear a31 a32 a33 a34
  refine then_normal ?_
  refine wp_seq (wp_region_lit ?_)
  refine st_val hE36 (y_load_agg hE36 rfl (hS35.cells (k := 0) rfl) rfl rfl agg28) rfl fun a37 hE37 => st_store hE37 hS35 [.int .i64 p0.Kind, .string p0.Name, .string p0.To, .int .i64 p0.A, .int .i64 p0.B, .string p0.Text] rfl rfl (k := 1) rfl rfl (chkAgg_size agg28) rfl rfl rfl rfl fun w38 (hS38 : SH (Old w) w w38 [Ck.var b5 [.int .i64 p0.Kind, .string p0.Name, .string p0.To, .int .i64 p0.A, .int .i64 p0.B, .string p0.Text] 28, Ck.var b3 [.int .i64 p0.Kind, .string p0.Name, .string p0.To, .int .i64 p0.A, .int .i64 p0.B, .string p0.Text] 28, Ck.var b1 [.int .i64 p0.Kind, .string p0.Name, .string p0.To, .int .i64 p0.A, .int .i64 p0.B, .string p0.Text] 29]) a39 hE39 => wpList_nil ?_
  clear hE36 hE37
  clear a36 a37
  refine then_normal ?_
  refine wp_ret ?_
  refine finC hE39 hS38 rfl rfl (k := 1) rfl agg28 rfl ?_
  rw [hM]
  exact ⟨_, _, rfl, hS38.below, Call_own (x := p0) hg90000_0 hg90000_1 hg90000_2 hg90000_3 hg90000_4 hg90000_5, List.nodup_nil, ge_nil⟩

end Go.Proofs.YtmjjcihoobnbgaaDoor.Fw
