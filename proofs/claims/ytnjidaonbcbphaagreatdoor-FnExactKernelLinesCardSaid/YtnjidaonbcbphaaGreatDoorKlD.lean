/-
  The texts M1, M3, Am17, Am18, Sy3, Am19, Am20, Am21, Sy4, B5, L0, LH, L1 of this proof, one behind the other: what each proves stands at its head. No condition.
-/
import Derived.Test.YtnjidaonbcbphaaGreatDoorKlA
import Derived.Test.YtnjidaonbcbphaaGreatDoorKlB
import Derived.Test.YtnjidaonbcbphaaGreatDoorKlC
/- Contracts: each call returns what the model says. By program (wip/gen). -/
namespace Go.Proofs.YtnjidaonbcbphaaGreatDoor.Fw
open Go.RowKit
set_option linter.unusedVariables false
set_option linter.unusedSimpArgs false

theorem fa154_0 : chkField Tryz.prog 154 0 0 = true := by kernel_rfl
theorem fa154_1 : chkField Tryz.prog 154 1 1 = true := by kernel_rfl
theorem fa181_0 : chkField Tryz.prog 181 0 0 = true := by kernel_rfl
theorem fa181_1 : chkField Tryz.prog 181 1 1 = true := by kernel_rfl
theorem fa181_2 : chkField Tryz.prog 181 2 2 = true := by kernel_rfl
theorem fa54_0 : chkField Tryz.prog 54 0 0 = true := by kernel_rfl
theorem fa54_1 : chkField Tryz.prog 54 1 1 = true := by kernel_rfl
theorem fa54_2 : chkField Tryz.prog 54 2 2 = true := by kernel_rfl
theorem fa54_3 : chkField Tryz.prog 54 3 3 = true := by kernel_rfl
theorem fa54_4 : chkField Tryz.prog 54 4 4 = true := by kernel_rfl
theorem fa54_5 : chkField Tryz.prog 54 5 5 = true := by kernel_rfl
theorem fb70 : Tryz.f70.body.isNone = false := rfl
theorem fn70 : (Tryz.f70.name == "runtime.NumGoroutine") = false := by kernel_rfl
theorem one9 : chkOne Tryz.prog 9 = true := by kernel_rfl
theorem sl134 : chkSlice Tryz.prog 134 3 1 8 = true := by kernel_rfl
theorem sl146 : chkSlice Tryz.prog 146 181 3 32 = true := by kernel_rfl
theorem sl30 : chkSlice Tryz.prog 30 9 1 16 = true := by kernel_rfl
theorem sl35 : chkSlice Tryz.prog 35 154 2 32 = true := by kernel_rfl

/- F15 loop.example/g00974/laws.markStringS -/
def laws_markStringS_l1 (p0 : List ByteArray) (p1 : Int) : Nat → Nat → Int → List ByteArray → List ByteArray × Int
  | 0, i1, s1_1, y1_m0 => (y1_m0, s1_1)
  | fu1 + 1, i1, s1_1, y1_m0 => laws_markStringS_l1 p0 p1 fu1 (i1 + 1) (IntKind.i64.wrap (s1_1 + 1)) (y1_m0.set i1 (laws_markText s1_1))
def laws_markStringS (p0 : List ByteArray) (p1 : Int) : List ByteArray × Int := laws_markStringS_l1 p0 p1 (p0.length - 0) 0 p1 p0
theorem c_laws_markStringS {v0 : Value} (p0 : List ByteArray) {F0 : List Nat} (p1 : Int) {w : World} (hMu0 : SH (Off [Ck.own (α := List ByteArray) [v0] p0 F0] w) w w [Ck.own (α := List ByteArray) [v0] p0 F0]) (hi1 : I64 p1) :
    Calls Tryz.prog 15 [v0, .int .i64 p1].toArray w (fun e w' => e = .returned (.int .i64 (laws_markStringS p0 p1).2) ∧ I64 (laws_markStringS p0 p1).2 ∧ ∃ F', SH (Off [Ck.own (α := List ByteArray) [v0] p0 F0] w) w w' [Ck.own (α := List ByteArray) [v0] (laws_markStringS p0 p1).1 F']) := by
  obtain ⟨A0, cap0, rfl, hx0⟩ := (hMu0.slO (k := 0) rfl).form
  refine enter Tryz.func15 rfl Tryz.ntmps15 (Nat.le_of_ble_eq_true rfl) ?_
  intro a0 hE0
  have hS0 := hMu0
  have hM := laws_markStringS.eq_1 p0 p1
  have hij1 : -9223372036854775808 ≤ p1 ∧ p1 ≤ 9223372036854775807 := hi1
  refine wp_seq (wp_region_lit ?_)
  refine st_val hE0 (y_assign hE0 rfl) rfl fun a1 hE1 => wpList_nil ?_
  clear hE0
  clear a0
  refine then_normal ?_
  refine wp_seq (wp_seq (wp_region_lit ?_))
  refine st_val hE1 (y_assign hE1 rfl) rfl fun a2 hE2 => wpList_nil ?_
  clear hE1
  clear a1
  refine then_normal ?_
  refine wp_block (wp_loop_ghost (fun fu1 a w2 => ∃ (i1 : Nat) (s1_1 : Int) (y1_m0 : List ByteArray) (Fy1_m0 : List Nat), 0 ≤ i1 ∧ fu1 = p0.length - i1 ∧ (i1 ≤ p0.length ∨ i1 = 0) ∧ I64 s1_1 ∧ laws_markStringS p0 p1 = laws_markStringS_l1 p0 p1 fu1 i1 s1_1 y1_m0 ∧ Env 20 [(0, .slice A0 p0.length cap0), (1, .int .i64 s1_1), (5, .int .i64 (i1 : Int))] a ∧ SH (Off [Ck.own (α := List ByteArray) [.slice A0 p0.length cap0] p0 F0] w) w w2 [Ck.own (α := List ByteArray) [.slice A0 p0.length cap0] y1_m0 Fy1_m0]) (p0.length - 0) ⟨0, p1, p0, F0, Nat.le_refl _, rfl, .inr rfl, hi1, hM, hE2.weaken ⟨rfl, rfl, rfl, trivial⟩, hS0⟩ ?_)
  clear hM hE2
  rintro fu1 a3 w3 ⟨i1, s1_1, y1_m0, Fy1_m0, hi1, hfu1, hup1, hgis1_1, hM, hE3, hS3⟩
  have hlry1_m0 := hS3.lenrow (k := 0) rfl
  refine wp_seq (wp_seq (wp_region_lit ?_))
  refine st_val hE3 (y_move hE3 rfl) rfl fun a4 hE4 => st_val hE4 (y_move hE4 rfl) rfl fun a5 hE5 => st_val hE5 (y_len_slice hE5 rfl sl30) rfl fun a6 hE6 => st_val hE6 (y_lss hE6 rfl rfl) rfl fun a7 hE7 => wpList_nil ?_
  clear hE3 hE4 hE5 hE6
  clear a3 a4 a5 a6
  refine then_normal ?_
  refine cond_split hE7 rfl (fun hb8 => ?_) (fun hb8 => ?_)
  ·
    have hlt1 : i1 < p0.length := by have := of_decide_eq_true hb8; omega
    obtain ⟨fu1, rfl⟩ : ∃ m, fu1 = m + 1 := ⟨fu1 - 1, by omega⟩
    have hM := hM.trans (laws_markStringS_l1.eq_2 _ _ _ _ _ _)
    refine wp_skip ?_
    refine then_normal ?_
    refine wp_seq (wp_block (wp_seq (wp_region_lit ?_)))
    refine st_val hE7 (y_move hE7 rfl) rfl fun a9 hE9 => st_val hE9 (y_move hE9 rfl) rfl fun a10 hE10 => st_val hE10 (y_move hE10 rfl) rfl fun a11 hE11 => st_callF hE11 hS3 Tryz.func70 fb70 fn70 (c_laws_markText s1_1 hgis1_1) rfl rfl fun w12 hS12 a13 hE13 => ?_
    clear hE7 hE9 hE10 hE11
    clear a7 a9 a10 a11
    have hlr14 := hS12.lenrow (k := 0) rfl
    obtain ⟨g14, ce14, Fo14, G14, hA14, hn14, hF14⟩ := SH.focus (L := []) hS12 (i := i1) (by omega)
    obtain ⟨⟨rfl, hg14⟩, rfl⟩ := (show Dat.own w12 ce14 (nth y1_m0 i1) G14 from hF14.get (k := 0) rfl)
    have hS15 := hF14.drop (k := 1)
    refine st_val hE13 (y_indexAddr (A := ⟨g14, 0, none⟩) hE13 (congrArg (fun A => some (Value.slice A p0.length cap0)) hA14) rfl (by omega) (by omega) sl30) rfl fun a16 hE16 => st_storeE (α := ByteArray) (k := 0) hE16 hS15 [.string (laws_markText s1_1)] rfl rfl rfl (by rw [Int.toNat_natCast]; rfl) rfl (chkOne_size one9) rfl rfl rfl rfl fun w17 (hS17 : SH (Off [Ck.own (α := List ByteArray) [.slice A0 p0.length cap0] p0 F0] w) w w17 [Ck.elem (α := ByteArray) g14 i1 cap0 [.string (laws_markText s1_1)] y1_m0 Fo14]) a18 hE18 => wpList_nil ?_
    clear hE13 hE16
    clear a13 a16
    refine then_normal ?_
    refine wp_region_lit ?_
    refine st_val hE18 (y_move hE18 rfl) rfl fun a19 hE19 => st_val hE19 (y_add hE19 rfl rfl) rfl fun a20 hE20 => st_val hE20 (y_assign hE20 rfl) rfl fun a21 hE21 => wpList_nil ?_
    clear hE18 hE19 hE20
    clear a18 a19 a20
    refine blk_normal ?_
    refine then_normal ?_
    refine wp_region_lit ?_
    refine st_val hE21 (y_move hE21 rfl) rfl fun a22 hE22 => st_val hE22 (y_add_in hE22 rfl rfl (m := ((i1 + 1 : Nat) : Int)) (by omega) (by omega) (by omega)) rfl fun a23 hE23 => st_val hE23 (y_assign hE23 rfl) rfl fun a24 hE24 => wpList_nil ?_
    clear hE21 hE22 hE23
    clear a21 a22 a23
    have hJ25 := SH.flat (L := [Ck.elem (α := ByteArray) g14 i1 cap0 [.string (laws_markText s1_1)] y1_m0 Fo14]) (α := ByteArray) (cs := [.string (laws_markText s1_1)]) (x := (laws_markText s1_1)) hS17 (fun _ => ⟨⟨rfl, (laws_markText_good (by first | assumption | exact I64_wrap _))⟩, rfl⟩)
    obtain ⟨F25, hS25⟩ := SH.unfocus (α := ByteArray) (L := []) hJ25 hA14 hn14 (by omega)
    refine then_normal ⟨fu1, Nat.lt_succ_self _, (i1 + 1), IntKind.i64.wrap (s1_1 + 1), (y1_m0.set i1 (laws_markText s1_1)), F25, by omega, by omega, .inl (by omega), (I64_wrap _), hM, hE24.weaken ⟨rfl, rfl, rfl, trivial⟩, hS25⟩
  ·
    have hge1 : ¬ i1 < p0.length := by have := of_decide_eq_false hb8; omega
    obtain rfl : fu1 = 0 := by omega
    have hM := hM.trans (laws_markStringS_l1.eq_1 _ _ _ _ _)
    refine wp_exit ?_
    refine then_exit ?_
    refine then_exit ?_
    refine blk_exit ?_
    refine then_normal ?_
    refine wp_seq (wp_region_lit ?_)
    refine st_val hE7 (y_move hE7 rfl) rfl fun a26 hE26 => st_val hE26 (y_assign hE26 rfl) rfl fun a27 hE27 => wpList_nil ?_
    clear hE7 hE26
    clear a7 a26
    refine then_normal ?_
    refine wp_ret ?_
    refine fin1 hE27 rfl rfl ?_
    rw [hM]
    exact ⟨rfl, hgis1_1, Fy1_m0, hS3⟩

/- F16 loop.example/g00974/laws.heldStringS -/
def laws_heldStringS_l1 (p0 : List ByteArray) (p1 : Int) : Nat → Nat → Int → Int
  | 0, i1, s1_1 => s1_1
  | fu1 + 1, i1, s1_1 => (if (!decide ((nth p0 i1) = (laws_markText s1_1))) = true then (-1) else laws_heldStringS_l1 p0 p1 fu1 (i1 + 1) (IntKind.i64.wrap (s1_1 + 1)))
def laws_heldStringS (p0 : List ByteArray) (p1 : Int) : Int := laws_heldStringS_l1 p0 p1 (p0.length - 0) 0 p1
theorem c_laws_heldStringS {v0 : Value} (p0 : List ByteArray) (p1 : Int) {w : World} (hp0 : SlR (Old w) w v0 p0) (hi1 : I64 p1) :
    Calls Tryz.prog 16 [v0, .int .i64 p1].toArray w (fun e w' => e = .returned (.int .i64 (laws_heldStringS p0 p1)) ∧ Below w.heap.size w w') := by
  obtain ⟨A0, cap0, rfl, hx0⟩ := hp0.form
  refine enter Tryz.func16 rfl Tryz.ntmps16 (Nat.le_of_ble_eq_true rfl) ?_
  intro a0 hE0
  have hS0 := SH.start w
  have hM := laws_heldStringS.eq_1 p0 p1
  have hij1 : -9223372036854775808 ≤ p1 ∧ p1 ≤ 9223372036854775807 := hi1
  refine wp_seq (wp_region_lit ?_)
  refine st_val hE0 (y_assign hE0 rfl) rfl fun a1 hE1 => wpList_nil ?_
  clear hE0
  clear a0
  refine then_normal ?_
  refine wp_seq (wp_seq (wp_region_lit ?_))
  refine st_val hE1 (y_assign hE1 rfl) rfl fun a2 hE2 => wpList_nil ?_
  clear hE1
  clear a1
  refine then_normal ?_
  refine wp_block (wp_loop_ghost (fun fu1 a w2 => ∃ (i1 : Nat) (s1_1 : Int), 0 ≤ i1 ∧ fu1 = p0.length - i1 ∧ I64 s1_1 ∧ laws_heldStringS p0 p1 = laws_heldStringS_l1 p0 p1 fu1 i1 s1_1 ∧ Env 22 [(0, .slice A0 p0.length cap0), (1, .int .i64 s1_1), (5, .int .i64 (i1 : Int))] a ∧ SH (Old w) w w2 []) (p0.length - 0) ⟨0, p1, Nat.le_refl _, rfl, hi1, hM, hE2.weaken ⟨rfl, rfl, rfl, trivial⟩, hS0⟩ ?_)
  clear hM hE2
  rintro fu1 a3 w3 ⟨i1, s1_1, hi1, hfu1, hgis1_1, hM, hE3, hS3⟩
  refine wp_seq (wp_seq (wp_region_lit ?_))
  refine st_val hE3 (y_move hE3 rfl) rfl fun a4 hE4 => st_val hE4 (y_move hE4 rfl) rfl fun a5 hE5 => st_val hE5 (y_len_slice hE5 rfl sl30) rfl fun a6 hE6 => st_val hE6 (y_lss hE6 rfl rfl) rfl fun a7 hE7 => wpList_nil ?_
  clear hE3 hE4 hE5 hE6
  clear a3 a4 a5 a6
  refine then_normal ?_
  refine cond_split hE7 rfl (fun hb8 => ?_) (fun hb8 => ?_)
  ·
    have hlt1 : i1 < p0.length := by have := of_decide_eq_true hb8; omega
    obtain ⟨fu1, rfl⟩ : ∃ m, fu1 = m + 1 := ⟨fu1 - 1, by omega⟩
    have hM := hM.trans (laws_heldStringS_l1.eq_2 _ _ _ _ _)
    refine wp_skip ?_
    refine then_normal ?_
    refine wp_seq (wp_block (wp_seq (wp_seq (reg_quiet mixed (by kernel_rfl) hS3 ?_))))
    refine q_val hE7 (fun w3 hS3 => y_move hE7 rfl) rfl fun a9 hE9 => q_val hE9 (fun w3 hS3 => y_move hE9 rfl) rfl fun a10 hE10 => q_index hE10 hp0 rfl rfl rfl (by omega) sl30 rfl fun ad11 cs11 hr11 hc11 hl11 a12 hE12 => ?_
    obtain ⟨rfl, hg11⟩ := hr11
    refine q_val hE12 (fun w3 hS3 => y_load_one hE12 rfl (hS3.upc hc11 hl11) rfl one9) rfl fun a13 hE13 => q_val hE13 (fun w3 hS3 => y_move hE13 rfl) rfl fun a14 hE14 => q_call hE14 Tryz.func70 fb70 fn70 (fun w3 hS3 => (c_laws_markText s1_1 hgis1_1)) rfl rfl fun a15 hE15 => q_val hE15 (fun w3 hS3 => y_neq_string hE15 rfl rfl) rfl fun a16 hE16 => ?_
    refine q_nil fun w17 hS17 => ?_
    clear hE7 hE9 hE10 hE12 hE13 hE14 hE15
    clear a7 a9 a10 a12 a13 a14 a15
    refine then_normal ?_
    refine cond_split hE16 rfl (fun hb18 => ?_) (fun hb18 => ?_)
    ·
      have hM := hM.trans (if_t hb18)
      refine wp_seq (wp_region_lit ?_)
      refine st_val hE16 (y_assign hE16 rfl) rfl fun a19 hE19 => wpList_nil ?_
      clear hE16
      clear a16
      refine then_normal ?_
      refine wp_ret ?_
      refine then_ret ?_
      refine blk_ret ?_
      refine then_ret ?_
      refine then_ret ?_
      refine blk_ret ?_
      refine then_ret ?_
      exact fin1 hE19 rfl rfl ⟨by rw [hM], hS17.below⟩
    ·
      have hM := hM.trans (if_f hb18)
      refine wp_skip ?_
      refine then_normal ?_
      refine wp_region_lit ?_
      refine st_val hE16 (y_move hE16 rfl) rfl fun a20 hE20 => st_val hE20 (y_add hE20 rfl rfl) rfl fun a21 hE21 => st_val hE21 (y_assign hE21 rfl) rfl fun a22 hE22 => wpList_nil ?_
      clear hE16 hE20 hE21
      clear a16 a20 a21
      refine blk_normal ?_
      refine then_normal ?_
      refine wp_region_lit ?_
      refine st_val hE22 (y_move hE22 rfl) rfl fun a23 hE23 => st_val hE23 (y_add_in hE23 rfl rfl (m := ((i1 + 1 : Nat) : Int)) (by omega) (by omega) (by omega)) rfl fun a24 hE24 => st_val hE24 (y_assign hE24 rfl) rfl fun a25 hE25 => wpList_nil ?_
      clear hE22 hE23 hE24
      clear a22 a23 a24
      refine then_normal ⟨fu1, Nat.lt_succ_self _, (i1 + 1), IntKind.i64.wrap (s1_1 + 1), by omega, by omega, (I64_wrap _), hM, hE25.weaken ⟨rfl, rfl, rfl, trivial⟩, hS17⟩
  ·
    have hge1 : ¬ i1 < p0.length := by have := of_decide_eq_false hb8; omega
    obtain rfl : fu1 = 0 := by omega
    have hM := hM.trans (laws_heldStringS_l1.eq_1 _ _ _ _)
    refine wp_exit ?_
    refine then_exit ?_
    refine then_exit ?_
    refine blk_exit ?_
    refine then_normal ?_
    refine wp_seq (wp_region_lit ?_)
    refine st_val hE7 (y_move hE7 rfl) rfl fun a26 hE26 => st_val hE26 (y_assign hE26 rfl) rfl fun a27 hE27 => wpList_nil ?_
    clear hE7 hE26
    clear a7 a26
    refine then_normal ?_
    refine wp_ret ?_
    exact fin1 hE27 rfl rfl ⟨by rw [hM], hS3.below⟩

/- F139 loop.example/g00974/laws.markAnswerS -/
def laws_markAnswerS_l1 (p0 : List Answer) (p1 : Int) : Nat → Nat → Int → List Answer → List Answer × Int
  | 0, i1, s1_1, y1_m0 => (y1_m0, s1_1)
  | fu1 + 1, i1, s1_1, y1_m0 => laws_markAnswerS_l1 p0 p1 fu1 (i1 + 1) (IntKind.i64.wrap (IntKind.i64.wrap (IntKind.i64.wrap (s1_1 + 1) + 1) + 1)) (y1_m0.set i1 (Answer.mk s1_1 (IntKind.i64.wrap (s1_1 + 1)) (laws_markText (IntKind.i64.wrap (IntKind.i64.wrap (s1_1 + 1) + 1)))))
def laws_markAnswerS (p0 : List Answer) (p1 : Int) : List Answer × Int := laws_markAnswerS_l1 p0 p1 (p0.length - 0) 0 p1 p0
theorem c_laws_markAnswerS {v0 : Value} (p0 : List Answer) {F0 : List Nat} (p1 : Int) {w : World} (hMu0 : SH (Off [Ck.own (α := List Answer) [v0] p0 F0] w) w w [Ck.own (α := List Answer) [v0] p0 F0]) (hi1 : I64 p1) :
    Calls Tryz.prog 139 [v0, .int .i64 p1].toArray w (fun e w' => e = .returned (.int .i64 (laws_markAnswerS p0 p1).2) ∧ I64 (laws_markAnswerS p0 p1).2 ∧ ∃ F', SH (Off [Ck.own (α := List Answer) [v0] p0 F0] w) w w' [Ck.own (α := List Answer) [v0] (laws_markAnswerS p0 p1).1 F']) := by
  obtain ⟨A0, cap0, rfl, hx0⟩ := (hMu0.slO (k := 0) rfl).form
  refine enter Tryz.func139 rfl Tryz.ntmps139 (Nat.le_of_ble_eq_true rfl) ?_
  intro a0 hE0
  have hS0 := hMu0
  have hM := laws_markAnswerS.eq_1 p0 p1
  have hij1 : -9223372036854775808 ≤ p1 ∧ p1 ≤ 9223372036854775807 := hi1
  refine wp_seq (wp_region_lit ?_)
  refine st_val hE0 (y_assign hE0 rfl) rfl fun a1 hE1 => wpList_nil ?_
  clear hE0
  clear a0
  refine then_normal ?_
  refine wp_seq (wp_seq (wp_region_lit ?_))
  refine st_val hE1 (y_assign hE1 rfl) rfl fun a2 hE2 => wpList_nil ?_
  clear hE1
  clear a1
  refine then_normal ?_
  refine wp_block (wp_loop_ghost (fun fu1 a w2 => ∃ (i1 : Nat) (s1_1 : Int) (y1_m0 : List Answer) (Fy1_m0 : List Nat), 0 ≤ i1 ∧ fu1 = p0.length - i1 ∧ (i1 ≤ p0.length ∨ i1 = 0) ∧ I64 s1_1 ∧ laws_markAnswerS p0 p1 = laws_markAnswerS_l1 p0 p1 fu1 i1 s1_1 y1_m0 ∧ Env 35 [(0, .slice A0 p0.length cap0), (1, .int .i64 s1_1), (5, .int .i64 (i1 : Int))] a ∧ SH (Off [Ck.own (α := List Answer) [.slice A0 p0.length cap0] p0 F0] w) w w2 [Ck.own (α := List Answer) [.slice A0 p0.length cap0] y1_m0 Fy1_m0]) (p0.length - 0) ⟨0, p1, p0, F0, Nat.le_refl _, rfl, .inr rfl, hi1, hM, hE2.weaken ⟨rfl, rfl, rfl, trivial⟩, hS0⟩ ?_)
  clear hM hE2
  rintro fu1 a3 w3 ⟨i1, s1_1, y1_m0, Fy1_m0, hi1, hfu1, hup1, hgis1_1, hM, hE3, hS3⟩
  have hlry1_m0 := hS3.lenrow (k := 0) rfl
  refine wp_seq (wp_seq (wp_region_lit ?_))
  refine st_val hE3 (y_move hE3 rfl) rfl fun a4 hE4 => st_val hE4 (y_move hE4 rfl) rfl fun a5 hE5 => st_val hE5 (y_len_slice hE5 rfl sl146) rfl fun a6 hE6 => st_val hE6 (y_lss hE6 rfl rfl) rfl fun a7 hE7 => wpList_nil ?_
  clear hE3 hE4 hE5 hE6
  clear a3 a4 a5 a6
  refine then_normal ?_
  refine cond_split hE7 rfl (fun hb8 => ?_) (fun hb8 => ?_)
  ·
    have hlt1 : i1 < p0.length := by have := of_decide_eq_true hb8; omega
    obtain ⟨fu1, rfl⟩ : ∃ m, fu1 = m + 1 := ⟨fu1 - 1, by omega⟩
    have hM := hM.trans (laws_markAnswerS_l1.eq_2 _ _ _ _ _ _)
    refine wp_skip ?_
    refine then_normal ?_
    refine wp_seq (wp_block (wp_seq (wp_region_lit ?_)))
    refine st_val hE7 (y_move hE7 rfl) rfl fun a9 hE9 => st_val hE9 (y_move hE9 rfl) rfl fun a10 hE10 => st_val hE10 (y_move hE10 rfl) rfl fun a11 hE11 => ?_
    clear hE7 hE9 hE10
    clear a7 a9 a10
    have hlr12 := hS3.lenrow (k := 0) rfl
    obtain ⟨g12, ce12, Fo12, G12, hA12, hn12, hF12⟩ := SH.focus (L := []) hS3 (i := i1) (by omega)
    obtain ⟨rfl, rfl, hg12_0, hg12_1, hg12_2, _⟩ := Answer_oopen (show Dat.own w3 ce12 (nth y1_m0 i1) G12 from hF12.get (k := 0) rfl)
    have hS13 := hF12.drop (k := 1)
    refine st_val hE11 (y_indexAddr (A := ⟨g12, 0, none⟩) hE11 (congrArg (fun A => some (Value.slice A p0.length cap0)) hA12) rfl (by omega) (by omega) sl146) rfl fun a14 hE14 => st_val hE14 (y_fieldAddr hE14 rfl fa181_0 rfl) rfl fun a15 hE15 => st_storeE (α := Answer) (k := 0) hE15 hS13 [.int .i64 s1_1, .int .i64 ((nth y1_m0 i1).N), .string ((nth y1_m0 i1).Text)] rfl rfl rfl (by rw [Int.toNat_natCast]; rfl) rfl (chkOne_size one3) rfl rfl rfl rfl fun w16 (hS16 : SH (Off [Ck.own (α := List Answer) [.slice A0 p0.length cap0] p0 F0] w) w w16 [Ck.elem (α := Answer) g12 i1 cap0 [.int .i64 s1_1, .int .i64 ((nth y1_m0 i1).N), .string ((nth y1_m0 i1).Text)] y1_m0 Fo12]) a17 hE17 => wpList_nil ?_
    clear hE11 hE14 hE15
    clear a11 a14 a15
    refine then_normal ?_
    refine wp_seq (wp_region_lit ?_)
    refine st_val hE17 (y_move hE17 rfl) rfl fun a18 hE18 => st_val hE18 (y_add hE18 rfl rfl) rfl fun a19 hE19 => st_val hE19 (y_assign hE19 rfl) rfl fun a20 hE20 => wpList_nil ?_
    clear hE17 hE18 hE19
    clear a17 a18 a19
    refine then_normal ?_
    refine wp_seq (wp_region_lit ?_)
    refine st_val hE20 (y_move hE20 rfl) rfl fun a21 hE21 => st_val hE21 (y_move hE21 rfl) rfl fun a22 hE22 => st_val hE22 (y_move hE22 rfl) rfl fun a23 hE23 => ?_
    refine st_val hE23 (y_indexAddr (A := ⟨g12, 0, none⟩) hE23 (congrArg (fun A => some (Value.slice A p0.length cap0)) hA12) rfl (by omega) (by omega) sl146) rfl fun a24 hE24 => st_val hE24 (y_fieldAddr hE24 rfl fa181_1 rfl) rfl fun a25 hE25 => st_storeE (α := Answer) (k := 0) hE25 hS16 [.int .i64 s1_1, .int .i64 (IntKind.i64.wrap (s1_1 + 1)), .string ((nth y1_m0 i1).Text)] rfl rfl rfl (by rw [Int.toNat_natCast]; rfl) rfl (chkOne_size one3) rfl rfl rfl rfl fun w26 (hS26 : SH (Off [Ck.own (α := List Answer) [.slice A0 p0.length cap0] p0 F0] w) w w26 [Ck.elem (α := Answer) g12 i1 cap0 [.int .i64 s1_1, .int .i64 (IntKind.i64.wrap (s1_1 + 1)), .string ((nth y1_m0 i1).Text)] y1_m0 Fo12]) a27 hE27 => wpList_nil ?_
    clear hE20 hE21 hE22 hE23 hE24 hE25
    clear a20 a21 a22 a23 a24 a25
    refine then_normal ?_
    refine wp_seq (wp_region_lit ?_)
    refine st_val hE27 (y_move hE27 rfl) rfl fun a28 hE28 => st_val hE28 (y_add hE28 rfl rfl) rfl fun a29 hE29 => st_val hE29 (y_assign hE29 rfl) rfl fun a30 hE30 => wpList_nil ?_
    clear hE27 hE28 hE29
    clear a27 a28 a29
    refine then_normal ?_
    refine wp_seq (wp_region_lit ?_)
    refine st_val hE30 (y_move hE30 rfl) rfl fun a31 hE31 => st_val hE31 (y_move hE31 rfl) rfl fun a32 hE32 => st_val hE32 (y_move hE32 rfl) rfl fun a33 hE33 => st_callF hE33 hS26 Tryz.func70 fb70 fn70 (c_laws_markText (IntKind.i64.wrap (IntKind.i64.wrap (s1_1 + 1) + 1)) (I64_wrap _)) rfl rfl fun w34 hS34 a35 hE35 => ?_
    refine st_val hE35 (y_indexAddr (A := ⟨g12, 0, none⟩) hE35 (congrArg (fun A => some (Value.slice A p0.length cap0)) hA12) rfl (by omega) (by omega) sl146) rfl fun a36 hE36 => st_val hE36 (y_fieldAddr hE36 rfl fa181_2 rfl) rfl fun a37 hE37 => st_storeE (α := Answer) (k := 0) hE37 hS34 [.int .i64 s1_1, .int .i64 (IntKind.i64.wrap (s1_1 + 1)), .string (laws_markText (IntKind.i64.wrap (IntKind.i64.wrap (s1_1 + 1) + 1)))] rfl rfl rfl (by rw [Int.toNat_natCast]; rfl) rfl (chkOne_size one9) rfl rfl rfl rfl fun w38 (hS38 : SH (Off [Ck.own (α := List Answer) [.slice A0 p0.length cap0] p0 F0] w) w w38 [Ck.elem (α := Answer) g12 i1 cap0 [.int .i64 s1_1, .int .i64 (IntKind.i64.wrap (s1_1 + 1)), .string (laws_markText (IntKind.i64.wrap (IntKind.i64.wrap (s1_1 + 1) + 1)))] y1_m0 Fo12]) a39 hE39 => wpList_nil ?_
    clear hE30 hE31 hE32 hE33 hE35 hE36 hE37
    clear a30 a31 a32 a33 a35 a36 a37
    refine then_normal ?_
    refine wp_region_lit ?_
    refine st_val hE39 (y_move hE39 rfl) rfl fun a40 hE40 => st_val hE40 (y_add hE40 rfl rfl) rfl fun a41 hE41 => st_val hE41 (y_assign hE41 rfl) rfl fun a42 hE42 => wpList_nil ?_
    clear hE39 hE40 hE41
    clear a39 a40 a41
    refine blk_normal ?_
    refine then_normal ?_
    refine wp_region_lit ?_
    refine st_val hE42 (y_move hE42 rfl) rfl fun a43 hE43 => st_val hE43 (y_add_in hE43 rfl rfl (m := ((i1 + 1 : Nat) : Int)) (by omega) (by omega) (by omega)) rfl fun a44 hE44 => st_val hE44 (y_assign hE44 rfl) rfl fun a45 hE45 => wpList_nil ?_
    clear hE42 hE43 hE44
    clear a42 a43 a44
    have hJ46 := SH.flat (L := [Ck.elem (α := Answer) g12 i1 cap0 [.int .i64 s1_1, .int .i64 (IntKind.i64.wrap (s1_1 + 1)), .string (laws_markText (IntKind.i64.wrap (IntKind.i64.wrap (s1_1 + 1) + 1)))] y1_m0 Fo12]) (α := Answer) (cs := [.int .i64 s1_1, .int .i64 (IntKind.i64.wrap (s1_1 + 1)), .string (laws_markText (IntKind.i64.wrap (IntKind.i64.wrap (s1_1 + 1) + 1)))]) (x := (Answer.mk s1_1 (IntKind.i64.wrap (s1_1 + 1)) (laws_markText (IntKind.i64.wrap (IntKind.i64.wrap (s1_1 + 1) + 1))))) hS38 (fun _ => Answer_own (x := (Answer.mk s1_1 (IntKind.i64.wrap (s1_1 + 1)) (laws_markText (IntKind.i64.wrap (IntKind.i64.wrap (s1_1 + 1) + 1))))) hgis1_1 (I64_wrap _) (laws_markText_good (by first | assumption | exact I64_wrap _)))
    obtain ⟨F46, hS46⟩ := SH.unfocus (α := Answer) (L := []) hJ46 hA12 hn12 (by omega)
    refine then_normal ⟨fu1, Nat.lt_succ_self _, (i1 + 1), IntKind.i64.wrap (IntKind.i64.wrap (IntKind.i64.wrap (s1_1 + 1) + 1) + 1), (y1_m0.set i1 (Answer.mk s1_1 (IntKind.i64.wrap (s1_1 + 1)) (laws_markText (IntKind.i64.wrap (IntKind.i64.wrap (s1_1 + 1) + 1))))), F46, by omega, by omega, .inl (by omega), (I64_wrap _), hM, hE45.weaken ⟨rfl, rfl, rfl, trivial⟩, hS46⟩
  ·
    have hge1 : ¬ i1 < p0.length := by have := of_decide_eq_false hb8; omega
    obtain rfl : fu1 = 0 := by omega
    have hM := hM.trans (laws_markAnswerS_l1.eq_1 _ _ _ _ _)
    refine wp_exit ?_
    refine then_exit ?_
    refine then_exit ?_
    refine blk_exit ?_
    refine then_normal ?_
    refine wp_seq (wp_region_lit ?_)
    refine st_val hE7 (y_move hE7 rfl) rfl fun a47 hE47 => st_val hE47 (y_assign hE47 rfl) rfl fun a48 hE48 => wpList_nil ?_
    clear hE7 hE47
    clear a7 a47
    refine then_normal ?_
    refine wp_ret ?_
    refine fin1 hE48 rfl rfl ?_
    rw [hM]
    exact ⟨rfl, hgis1_1, Fy1_m0, hS3⟩

/- F66 loop.example/g00974/laws.markCellS -/
def laws_markCellS_l1 (p0 : List Cell) (p1 : Int) : Nat → Nat → Int → List Cell → List Cell × Int
  | 0, i1, s1_1, y1_m0 => (y1_m0, s1_1)
  | fu1 + 1, i1, s1_1, y1_m0 => laws_markCellS_l1 p0 p1 fu1 (i1 + 1) (IntKind.i64.wrap (IntKind.i64.wrap (s1_1 + 1) + 1)) (y1_m0.set i1 (Cell.mk (laws_markText s1_1) (laws_markText (IntKind.i64.wrap (s1_1 + 1)))))
def laws_markCellS (p0 : List Cell) (p1 : Int) : List Cell × Int := laws_markCellS_l1 p0 p1 (p0.length - 0) 0 p1 p0
theorem c_laws_markCellS {v0 : Value} (p0 : List Cell) {F0 : List Nat} (p1 : Int) {w : World} (hMu0 : SH (Off [Ck.own (α := List Cell) [v0] p0 F0] w) w w [Ck.own (α := List Cell) [v0] p0 F0]) (hi1 : I64 p1) :
    Calls Tryz.prog 66 [v0, .int .i64 p1].toArray w (fun e w' => e = .returned (.int .i64 (laws_markCellS p0 p1).2) ∧ I64 (laws_markCellS p0 p1).2 ∧ ∃ F', SH (Off [Ck.own (α := List Cell) [v0] p0 F0] w) w w' [Ck.own (α := List Cell) [v0] (laws_markCellS p0 p1).1 F']) := by
  obtain ⟨A0, cap0, rfl, hx0⟩ := (hMu0.slO (k := 0) rfl).form
  refine enter Tryz.func66 rfl Tryz.ntmps66 (Nat.le_of_ble_eq_true rfl) ?_
  intro a0 hE0
  have hS0 := hMu0
  have hM := laws_markCellS.eq_1 p0 p1
  have hij1 : -9223372036854775808 ≤ p1 ∧ p1 ≤ 9223372036854775807 := hi1
  refine wp_seq (wp_region_lit ?_)
  refine st_val hE0 (y_assign hE0 rfl) rfl fun a1 hE1 => wpList_nil ?_
  clear hE0
  clear a0
  refine then_normal ?_
  refine wp_seq (wp_seq (wp_region_lit ?_))
  refine st_val hE1 (y_assign hE1 rfl) rfl fun a2 hE2 => wpList_nil ?_
  clear hE1
  clear a1
  refine then_normal ?_
  refine wp_block (wp_loop_ghost (fun fu1 a w2 => ∃ (i1 : Nat) (s1_1 : Int) (y1_m0 : List Cell) (Fy1_m0 : List Nat), 0 ≤ i1 ∧ fu1 = p0.length - i1 ∧ (i1 ≤ p0.length ∨ i1 = 0) ∧ I64 s1_1 ∧ laws_markCellS p0 p1 = laws_markCellS_l1 p0 p1 fu1 i1 s1_1 y1_m0 ∧ Env 29 [(0, .slice A0 p0.length cap0), (1, .int .i64 s1_1), (5, .int .i64 (i1 : Int))] a ∧ SH (Off [Ck.own (α := List Cell) [.slice A0 p0.length cap0] p0 F0] w) w w2 [Ck.own (α := List Cell) [.slice A0 p0.length cap0] y1_m0 Fy1_m0]) (p0.length - 0) ⟨0, p1, p0, F0, Nat.le_refl _, rfl, .inr rfl, hi1, hM, hE2.weaken ⟨rfl, rfl, rfl, trivial⟩, hS0⟩ ?_)
  clear hM hE2
  rintro fu1 a3 w3 ⟨i1, s1_1, y1_m0, Fy1_m0, hi1, hfu1, hup1, hgis1_1, hM, hE3, hS3⟩
  have hlry1_m0 := hS3.lenrow (k := 0) rfl
  refine wp_seq (wp_seq (wp_region_lit ?_))
  refine st_val hE3 (y_move hE3 rfl) rfl fun a4 hE4 => st_val hE4 (y_move hE4 rfl) rfl fun a5 hE5 => st_val hE5 (y_len_slice hE5 rfl sl35) rfl fun a6 hE6 => st_val hE6 (y_lss hE6 rfl rfl) rfl fun a7 hE7 => wpList_nil ?_
  clear hE3 hE4 hE5 hE6
  clear a3 a4 a5 a6
  refine then_normal ?_
  refine cond_split hE7 rfl (fun hb8 => ?_) (fun hb8 => ?_)
  ·
    have hlt1 : i1 < p0.length := by have := of_decide_eq_true hb8; omega
    obtain ⟨fu1, rfl⟩ : ∃ m, fu1 = m + 1 := ⟨fu1 - 1, by omega⟩
    have hM := hM.trans (laws_markCellS_l1.eq_2 _ _ _ _ _ _)
    refine wp_skip ?_
    refine then_normal ?_
    refine wp_seq (wp_block (wp_seq (wp_region_lit ?_)))
    refine st_val hE7 (y_move hE7 rfl) rfl fun a9 hE9 => st_val hE9 (y_move hE9 rfl) rfl fun a10 hE10 => st_val hE10 (y_move hE10 rfl) rfl fun a11 hE11 => st_callF hE11 hS3 Tryz.func70 fb70 fn70 (c_laws_markText s1_1 hgis1_1) rfl rfl fun w12 hS12 a13 hE13 => ?_
    clear hE7 hE9 hE10 hE11
    clear a7 a9 a10 a11
    have hlr14 := hS12.lenrow (k := 0) rfl
    obtain ⟨g14, ce14, Fo14, G14, hA14, hn14, hF14⟩ := SH.focus (L := []) hS12 (i := i1) (by omega)
    obtain ⟨rfl, rfl, hg14_0, hg14_1, _⟩ := Cell_oopen (show Dat.own w12 ce14 (nth y1_m0 i1) G14 from hF14.get (k := 0) rfl)
    have hS15 := hF14.drop (k := 1)
    refine st_val hE13 (y_indexAddr (A := ⟨g14, 0, none⟩) hE13 (congrArg (fun A => some (Value.slice A p0.length cap0)) hA14) rfl (by omega) (by omega) sl35) rfl fun a16 hE16 => st_val hE16 (y_fieldAddr hE16 rfl fa154_0 rfl) rfl fun a17 hE17 => st_storeE (α := Cell) (k := 0) hE17 hS15 [.string (laws_markText s1_1), .string ((nth y1_m0 i1).Val)] rfl rfl rfl (by rw [Int.toNat_natCast]; rfl) rfl (chkOne_size one9) rfl rfl rfl rfl fun w18 (hS18 : SH (Off [Ck.own (α := List Cell) [.slice A0 p0.length cap0] p0 F0] w) w w18 [Ck.elem (α := Cell) g14 i1 cap0 [.string (laws_markText s1_1), .string ((nth y1_m0 i1).Val)] y1_m0 Fo14]) a19 hE19 => wpList_nil ?_
    clear hE13 hE16 hE17
    clear a13 a16 a17
    refine then_normal ?_
    refine wp_seq (wp_region_lit ?_)
    refine st_val hE19 (y_move hE19 rfl) rfl fun a20 hE20 => st_val hE20 (y_add hE20 rfl rfl) rfl fun a21 hE21 => st_val hE21 (y_assign hE21 rfl) rfl fun a22 hE22 => wpList_nil ?_
    clear hE19 hE20 hE21
    clear a19 a20 a21
    refine then_normal ?_
    refine wp_seq (wp_region_lit ?_)
    refine st_val hE22 (y_move hE22 rfl) rfl fun a23 hE23 => st_val hE23 (y_move hE23 rfl) rfl fun a24 hE24 => st_val hE24 (y_move hE24 rfl) rfl fun a25 hE25 => st_callF hE25 hS18 Tryz.func70 fb70 fn70 (c_laws_markText (IntKind.i64.wrap (s1_1 + 1)) (I64_wrap _)) rfl rfl fun w26 hS26 a27 hE27 => ?_
    refine st_val hE27 (y_indexAddr (A := ⟨g14, 0, none⟩) hE27 (congrArg (fun A => some (Value.slice A p0.length cap0)) hA14) rfl (by omega) (by omega) sl35) rfl fun a28 hE28 => st_val hE28 (y_fieldAddr hE28 rfl fa154_1 rfl) rfl fun a29 hE29 => st_storeE (α := Cell) (k := 0) hE29 hS26 [.string (laws_markText s1_1), .string (laws_markText (IntKind.i64.wrap (s1_1 + 1)))] rfl rfl rfl (by rw [Int.toNat_natCast]; rfl) rfl (chkOne_size one9) rfl rfl rfl rfl fun w30 (hS30 : SH (Off [Ck.own (α := List Cell) [.slice A0 p0.length cap0] p0 F0] w) w w30 [Ck.elem (α := Cell) g14 i1 cap0 [.string (laws_markText s1_1), .string (laws_markText (IntKind.i64.wrap (s1_1 + 1)))] y1_m0 Fo14]) a31 hE31 => wpList_nil ?_
    clear hE22 hE23 hE24 hE25 hE27 hE28 hE29
    clear a22 a23 a24 a25 a27 a28 a29
    refine then_normal ?_
    refine wp_region_lit ?_
    refine st_val hE31 (y_move hE31 rfl) rfl fun a32 hE32 => st_val hE32 (y_add hE32 rfl rfl) rfl fun a33 hE33 => st_val hE33 (y_assign hE33 rfl) rfl fun a34 hE34 => wpList_nil ?_
    clear hE31 hE32 hE33
    clear a31 a32 a33
    refine blk_normal ?_
    refine then_normal ?_
    refine wp_region_lit ?_
    refine st_val hE34 (y_move hE34 rfl) rfl fun a35 hE35 => st_val hE35 (y_add_in hE35 rfl rfl (m := ((i1 + 1 : Nat) : Int)) (by omega) (by omega) (by omega)) rfl fun a36 hE36 => st_val hE36 (y_assign hE36 rfl) rfl fun a37 hE37 => wpList_nil ?_
    clear hE34 hE35 hE36
    clear a34 a35 a36
    have hJ38 := SH.flat (L := [Ck.elem (α := Cell) g14 i1 cap0 [.string (laws_markText s1_1), .string (laws_markText (IntKind.i64.wrap (s1_1 + 1)))] y1_m0 Fo14]) (α := Cell) (cs := [.string (laws_markText s1_1), .string (laws_markText (IntKind.i64.wrap (s1_1 + 1)))]) (x := (Cell.mk (laws_markText s1_1) (laws_markText (IntKind.i64.wrap (s1_1 + 1))))) hS30 (fun _ => Cell_own (x := (Cell.mk (laws_markText s1_1) (laws_markText (IntKind.i64.wrap (s1_1 + 1))))) (laws_markText_good (by first | assumption | exact I64_wrap _)) (laws_markText_good (by first | assumption | exact I64_wrap _)))
    obtain ⟨F38, hS38⟩ := SH.unfocus (α := Cell) (L := []) hJ38 hA14 hn14 (by omega)
    refine then_normal ⟨fu1, Nat.lt_succ_self _, (i1 + 1), IntKind.i64.wrap (IntKind.i64.wrap (s1_1 + 1) + 1), (y1_m0.set i1 (Cell.mk (laws_markText s1_1) (laws_markText (IntKind.i64.wrap (s1_1 + 1))))), F38, by omega, by omega, .inl (by omega), (I64_wrap _), hM, hE37.weaken ⟨rfl, rfl, rfl, trivial⟩, hS38⟩
  ·
    have hge1 : ¬ i1 < p0.length := by have := of_decide_eq_false hb8; omega
    obtain rfl : fu1 = 0 := by omega
    have hM := hM.trans (laws_markCellS_l1.eq_1 _ _ _ _ _)
    refine wp_exit ?_
    refine then_exit ?_
    refine then_exit ?_
    refine blk_exit ?_
    refine then_normal ?_
    refine wp_seq (wp_region_lit ?_)
    refine st_val hE7 (y_move hE7 rfl) rfl fun a39 hE39 => st_val hE39 (y_assign hE39 rfl) rfl fun a40 hE40 => wpList_nil ?_
    clear hE7 hE39
    clear a7 a39
    refine then_normal ?_
    refine wp_ret ?_
    refine fin1 hE40 rfl rfl ?_
    rw [hM]
    exact ⟨rfl, hgis1_1, Fy1_m0, hS3⟩

/- F138 loop.example/g00974/laws.markCallS -/
def laws_markCallS_l1 (p0 : List Call) (p1 : Int) : Nat → Nat → Int → List Call → List Call × Int
  | 0, i1, s1_1, y1_m0 => (y1_m0, s1_1)
  | fu1 + 1, i1, s1_1, y1_m0 => laws_markCallS_l1 p0 p1 fu1 (i1 + 1) (IntKind.i64.wrap (IntKind.i64.wrap (IntKind.i64.wrap (IntKind.i64.wrap (IntKind.i64.wrap (IntKind.i64.wrap (s1_1 + 1) + 1) + 1) + 1) + 1) + 1)) (y1_m0.set i1 (Call.mk s1_1 (laws_markText (IntKind.i64.wrap (s1_1 + 1))) (laws_markText (IntKind.i64.wrap (IntKind.i64.wrap (s1_1 + 1) + 1))) (IntKind.i64.wrap (IntKind.i64.wrap (IntKind.i64.wrap (s1_1 + 1) + 1) + 1)) (IntKind.i64.wrap (IntKind.i64.wrap (IntKind.i64.wrap (IntKind.i64.wrap (s1_1 + 1) + 1) + 1) + 1)) (laws_markText (IntKind.i64.wrap (IntKind.i64.wrap (IntKind.i64.wrap (IntKind.i64.wrap (IntKind.i64.wrap (s1_1 + 1) + 1) + 1) + 1) + 1)))))
def laws_markCallS (p0 : List Call) (p1 : Int) : List Call × Int := laws_markCallS_l1 p0 p1 (p0.length - 0) 0 p1 p0
theorem c_laws_markCallS {v0 : Value} (p0 : List Call) {F0 : List Nat} (p1 : Int) {w : World} (hMu0 : SH (Off [Ck.own (α := List Call) [v0] p0 F0] w) w w [Ck.own (α := List Call) [v0] p0 F0]) (hi1 : I64 p1) :
    Calls Tryz.prog 138 [v0, .int .i64 p1].toArray w (fun e w' => e = .returned (.int .i64 (laws_markCallS p0 p1).2) ∧ I64 (laws_markCallS p0 p1).2 ∧ ∃ F', SH (Off [Ck.own (α := List Call) [v0] p0 F0] w) w w' [Ck.own (α := List Call) [v0] (laws_markCallS p0 p1).1 F']) := by
  obtain ⟨A0, cap0, rfl, hx0⟩ := (hMu0.slO (k := 0) rfl).form
  refine enter Tryz.func138 rfl Tryz.ntmps138 (Nat.le_of_ble_eq_true rfl) ?_
  intro a0 hE0
  have hS0 := hMu0
  have hM := laws_markCallS.eq_1 p0 p1
  have hij1 : -9223372036854775808 ≤ p1 ∧ p1 ≤ 9223372036854775807 := hi1
  refine wp_seq (wp_region_lit ?_)
  refine st_val hE0 (y_assign hE0 rfl) rfl fun a1 hE1 => wpList_nil ?_
  clear hE0
  clear a0
  refine then_normal ?_
  refine wp_seq (wp_seq (wp_region_lit ?_))
  refine st_val hE1 (y_assign hE1 rfl) rfl fun a2 hE2 => wpList_nil ?_
  clear hE1
  clear a1
  refine then_normal ?_
  refine wp_block (wp_loop_ghost (fun fu1 a w2 => ∃ (i1 : Nat) (s1_1 : Int) (y1_m0 : List Call) (Fy1_m0 : List Nat), 0 ≤ i1 ∧ fu1 = p0.length - i1 ∧ (i1 ≤ p0.length ∨ i1 = 0) ∧ I64 s1_1 ∧ laws_markCallS p0 p1 = laws_markCallS_l1 p0 p1 fu1 i1 s1_1 y1_m0 ∧ Env 58 [(0, .slice A0 p0.length cap0), (1, .int .i64 s1_1), (5, .int .i64 (i1 : Int))] a ∧ SH (Off [Ck.own (α := List Call) [.slice A0 p0.length cap0] p0 F0] w) w w2 [Ck.own (α := List Call) [.slice A0 p0.length cap0] y1_m0 Fy1_m0]) (p0.length - 0) ⟨0, p1, p0, F0, Nat.le_refl _, rfl, .inr rfl, hi1, hM, hE2.weaken ⟨rfl, rfl, rfl, trivial⟩, hS0⟩ ?_)
  clear hM hE2
  rintro fu1 a3 w3 ⟨i1, s1_1, y1_m0, Fy1_m0, hi1, hfu1, hup1, hgis1_1, hM, hE3, hS3⟩
  have hlry1_m0 := hS3.lenrow (k := 0) rfl
  refine wp_seq (wp_seq (wp_region_lit ?_))
  refine st_val hE3 (y_move hE3 rfl) rfl fun a4 hE4 => st_val hE4 (y_move hE4 rfl) rfl fun a5 hE5 => st_val hE5 (y_len_slice hE5 rfl sl145) rfl fun a6 hE6 => st_val hE6 (y_lss hE6 rfl rfl) rfl fun a7 hE7 => wpList_nil ?_
  clear hE3 hE4 hE5 hE6
  clear a3 a4 a5 a6
  refine then_normal ?_
  refine cond_split hE7 rfl (fun hb8 => ?_) (fun hb8 => ?_)
  ·
    have hlt1 : i1 < p0.length := by have := of_decide_eq_true hb8; omega
    obtain ⟨fu1, rfl⟩ : ∃ m, fu1 = m + 1 := ⟨fu1 - 1, by omega⟩
    have hM := hM.trans (laws_markCallS_l1.eq_2 _ _ _ _ _ _)
    refine wp_skip ?_
    refine then_normal ?_
    refine wp_seq (wp_block (wp_seq (wp_region_lit ?_)))
    refine st_val hE7 (y_move hE7 rfl) rfl fun a9 hE9 => st_val hE9 (y_move hE9 rfl) rfl fun a10 hE10 => st_val hE10 (y_move hE10 rfl) rfl fun a11 hE11 => ?_
    clear hE7 hE9 hE10
    clear a7 a9 a10
    have hlr12 := hS3.lenrow (k := 0) rfl
    obtain ⟨g12, ce12, Fo12, G12, hA12, hn12, hF12⟩ := SH.focus (L := []) hS3 (i := i1) (by omega)
    obtain ⟨rfl, rfl, hg12_0, hg12_1, hg12_2, hg12_3, hg12_4, hg12_5, _⟩ := Call_oopen (show Dat.own w3 ce12 (nth y1_m0 i1) G12 from hF12.get (k := 0) rfl)
    have hS13 := hF12.drop (k := 1)
    refine st_val hE11 (y_indexAddr (A := ⟨g12, 0, none⟩) hE11 (congrArg (fun A => some (Value.slice A p0.length cap0)) hA12) rfl (by omega) (by omega) sl145) rfl fun a14 hE14 => st_val hE14 (y_fieldAddr hE14 rfl fa54_0 rfl) rfl fun a15 hE15 => st_storeE (α := Call) (k := 0) hE15 hS13 [.int .i64 s1_1, .string ((nth y1_m0 i1).Name), .string ((nth y1_m0 i1).To), .int .i64 ((nth y1_m0 i1).A), .int .i64 ((nth y1_m0 i1).B), .string ((nth y1_m0 i1).Text)] rfl rfl rfl (by rw [Int.toNat_natCast]; rfl) rfl (chkOne_size one3) rfl rfl rfl rfl fun w16 (hS16 : SH (Off [Ck.own (α := List Call) [.slice A0 p0.length cap0] p0 F0] w) w w16 [Ck.elem (α := Call) g12 i1 cap0 [.int .i64 s1_1, .string ((nth y1_m0 i1).Name), .string ((nth y1_m0 i1).To), .int .i64 ((nth y1_m0 i1).A), .int .i64 ((nth y1_m0 i1).B), .string ((nth y1_m0 i1).Text)] y1_m0 Fo12]) a17 hE17 => wpList_nil ?_
    clear hE11 hE14 hE15
    clear a11 a14 a15
    refine then_normal ?_
    refine wp_seq (wp_region_lit ?_)
    refine st_val hE17 (y_move hE17 rfl) rfl fun a18 hE18 => st_val hE18 (y_add hE18 rfl rfl) rfl fun a19 hE19 => st_val hE19 (y_assign hE19 rfl) rfl fun a20 hE20 => wpList_nil ?_
    clear hE17 hE18 hE19
    clear a17 a18 a19
    refine then_normal ?_
    refine wp_seq (wp_region_lit ?_)
    refine st_val hE20 (y_move hE20 rfl) rfl fun a21 hE21 => st_val hE21 (y_move hE21 rfl) rfl fun a22 hE22 => st_val hE22 (y_move hE22 rfl) rfl fun a23 hE23 => st_callF hE23 hS16 Tryz.func70 fb70 fn70 (c_laws_markText (IntKind.i64.wrap (s1_1 + 1)) (I64_wrap _)) rfl rfl fun w24 hS24 a25 hE25 => ?_
    refine st_val hE25 (y_indexAddr (A := ⟨g12, 0, none⟩) hE25 (congrArg (fun A => some (Value.slice A p0.length cap0)) hA12) rfl (by omega) (by omega) sl145) rfl fun a26 hE26 => st_val hE26 (y_fieldAddr hE26 rfl fa54_1 rfl) rfl fun a27 hE27 => st_storeE (α := Call) (k := 0) hE27 hS24 [.int .i64 s1_1, .string (laws_markText (IntKind.i64.wrap (s1_1 + 1))), .string ((nth y1_m0 i1).To), .int .i64 ((nth y1_m0 i1).A), .int .i64 ((nth y1_m0 i1).B), .string ((nth y1_m0 i1).Text)] rfl rfl rfl (by rw [Int.toNat_natCast]; rfl) rfl (chkOne_size one9) rfl rfl rfl rfl fun w28 (hS28 : SH (Off [Ck.own (α := List Call) [.slice A0 p0.length cap0] p0 F0] w) w w28 [Ck.elem (α := Call) g12 i1 cap0 [.int .i64 s1_1, .string (laws_markText (IntKind.i64.wrap (s1_1 + 1))), .string ((nth y1_m0 i1).To), .int .i64 ((nth y1_m0 i1).A), .int .i64 ((nth y1_m0 i1).B), .string ((nth y1_m0 i1).Text)] y1_m0 Fo12]) a29 hE29 => wpList_nil ?_
    clear hE20 hE21 hE22 hE23 hE25 hE26 hE27
    clear a20 a21 a22 a23 a25 a26 a27
    refine then_normal ?_
    refine wp_seq (wp_region_lit ?_)
    refine st_val hE29 (y_move hE29 rfl) rfl fun a30 hE30 => st_val hE30 (y_add hE30 rfl rfl) rfl fun a31 hE31 => st_val hE31 (y_assign hE31 rfl) rfl fun a32 hE32 => wpList_nil ?_
    clear hE29 hE30 hE31
    clear a29 a30 a31
    refine then_normal ?_
    refine wp_seq (wp_region_lit ?_)
    refine st_val hE32 (y_move hE32 rfl) rfl fun a33 hE33 => st_val hE33 (y_move hE33 rfl) rfl fun a34 hE34 => st_val hE34 (y_move hE34 rfl) rfl fun a35 hE35 => st_callF hE35 hS28 Tryz.func70 fb70 fn70 (c_laws_markText (IntKind.i64.wrap (IntKind.i64.wrap (s1_1 + 1) + 1)) (I64_wrap _)) rfl rfl fun w36 hS36 a37 hE37 => ?_
    refine st_val hE37 (y_indexAddr (A := ⟨g12, 0, none⟩) hE37 (congrArg (fun A => some (Value.slice A p0.length cap0)) hA12) rfl (by omega) (by omega) sl145) rfl fun a38 hE38 => st_val hE38 (y_fieldAddr hE38 rfl fa54_2 rfl) rfl fun a39 hE39 => st_storeE (α := Call) (k := 0) hE39 hS36 [.int .i64 s1_1, .string (laws_markText (IntKind.i64.wrap (s1_1 + 1))), .string (laws_markText (IntKind.i64.wrap (IntKind.i64.wrap (s1_1 + 1) + 1))), .int .i64 ((nth y1_m0 i1).A), .int .i64 ((nth y1_m0 i1).B), .string ((nth y1_m0 i1).Text)] rfl rfl rfl (by rw [Int.toNat_natCast]; rfl) rfl (chkOne_size one9) rfl rfl rfl rfl fun w40 (hS40 : SH (Off [Ck.own (α := List Call) [.slice A0 p0.length cap0] p0 F0] w) w w40 [Ck.elem (α := Call) g12 i1 cap0 [.int .i64 s1_1, .string (laws_markText (IntKind.i64.wrap (s1_1 + 1))), .string (laws_markText (IntKind.i64.wrap (IntKind.i64.wrap (s1_1 + 1) + 1))), .int .i64 ((nth y1_m0 i1).A), .int .i64 ((nth y1_m0 i1).B), .string ((nth y1_m0 i1).Text)] y1_m0 Fo12]) a41 hE41 => wpList_nil ?_
    clear hE32 hE33 hE34 hE35 hE37 hE38 hE39
    clear a32 a33 a34 a35 a37 a38 a39
    refine then_normal ?_
    refine wp_seq (wp_region_lit ?_)
    refine st_val hE41 (y_move hE41 rfl) rfl fun a42 hE42 => st_val hE42 (y_add hE42 rfl rfl) rfl fun a43 hE43 => st_val hE43 (y_assign hE43 rfl) rfl fun a44 hE44 => wpList_nil ?_
    clear hE41 hE42 hE43
    clear a41 a42 a43
    refine then_normal ?_
    refine wp_seq (wp_region_lit ?_)
    refine st_val hE44 (y_move hE44 rfl) rfl fun a45 hE45 => st_val hE45 (y_move hE45 rfl) rfl fun a46 hE46 => st_val hE46 (y_move hE46 rfl) rfl fun a47 hE47 => ?_
    refine st_val hE47 (y_indexAddr (A := ⟨g12, 0, none⟩) hE47 (congrArg (fun A => some (Value.slice A p0.length cap0)) hA12) rfl (by omega) (by omega) sl145) rfl fun a48 hE48 => st_val hE48 (y_fieldAddr hE48 rfl fa54_3 rfl) rfl fun a49 hE49 => st_storeE (α := Call) (k := 0) hE49 hS40 [.int .i64 s1_1, .string (laws_markText (IntKind.i64.wrap (s1_1 + 1))), .string (laws_markText (IntKind.i64.wrap (IntKind.i64.wrap (s1_1 + 1) + 1))), .int .i64 (IntKind.i64.wrap (IntKind.i64.wrap (IntKind.i64.wrap (s1_1 + 1) + 1) + 1)), .int .i64 ((nth y1_m0 i1).B), .string ((nth y1_m0 i1).Text)] rfl rfl rfl (by rw [Int.toNat_natCast]; rfl) rfl (chkOne_size one3) rfl rfl rfl rfl fun w50 (hS50 : SH (Off [Ck.own (α := List Call) [.slice A0 p0.length cap0] p0 F0] w) w w50 [Ck.elem (α := Call) g12 i1 cap0 [.int .i64 s1_1, .string (laws_markText (IntKind.i64.wrap (s1_1 + 1))), .string (laws_markText (IntKind.i64.wrap (IntKind.i64.wrap (s1_1 + 1) + 1))), .int .i64 (IntKind.i64.wrap (IntKind.i64.wrap (IntKind.i64.wrap (s1_1 + 1) + 1) + 1)), .int .i64 ((nth y1_m0 i1).B), .string ((nth y1_m0 i1).Text)] y1_m0 Fo12]) a51 hE51 => wpList_nil ?_
    clear hE44 hE45 hE46 hE47 hE48 hE49
    clear a44 a45 a46 a47 a48 a49
    refine then_normal ?_
    refine wp_seq (wp_region_lit ?_)
    refine st_val hE51 (y_move hE51 rfl) rfl fun a52 hE52 => st_val hE52 (y_add hE52 rfl rfl) rfl fun a53 hE53 => st_val hE53 (y_assign hE53 rfl) rfl fun a54 hE54 => wpList_nil ?_
    clear hE51 hE52 hE53
    clear a51 a52 a53
    refine then_normal ?_
    refine wp_seq (wp_region_lit ?_)
    refine st_val hE54 (y_move hE54 rfl) rfl fun a55 hE55 => st_val hE55 (y_move hE55 rfl) rfl fun a56 hE56 => st_val hE56 (y_move hE56 rfl) rfl fun a57 hE57 => ?_
    refine st_val hE57 (y_indexAddr (A := ⟨g12, 0, none⟩) hE57 (congrArg (fun A => some (Value.slice A p0.length cap0)) hA12) rfl (by omega) (by omega) sl145) rfl fun a58 hE58 => st_val hE58 (y_fieldAddr hE58 rfl fa54_4 rfl) rfl fun a59 hE59 => st_storeE (α := Call) (k := 0) hE59 hS50 [.int .i64 s1_1, .string (laws_markText (IntKind.i64.wrap (s1_1 + 1))), .string (laws_markText (IntKind.i64.wrap (IntKind.i64.wrap (s1_1 + 1) + 1))), .int .i64 (IntKind.i64.wrap (IntKind.i64.wrap (IntKind.i64.wrap (s1_1 + 1) + 1) + 1)), .int .i64 (IntKind.i64.wrap (IntKind.i64.wrap (IntKind.i64.wrap (IntKind.i64.wrap (s1_1 + 1) + 1) + 1) + 1)), .string ((nth y1_m0 i1).Text)] rfl rfl rfl (by rw [Int.toNat_natCast]; rfl) rfl (chkOne_size one3) rfl rfl rfl rfl fun w60 (hS60 : SH (Off [Ck.own (α := List Call) [.slice A0 p0.length cap0] p0 F0] w) w w60 [Ck.elem (α := Call) g12 i1 cap0 [.int .i64 s1_1, .string (laws_markText (IntKind.i64.wrap (s1_1 + 1))), .string (laws_markText (IntKind.i64.wrap (IntKind.i64.wrap (s1_1 + 1) + 1))), .int .i64 (IntKind.i64.wrap (IntKind.i64.wrap (IntKind.i64.wrap (s1_1 + 1) + 1) + 1)), .int .i64 (IntKind.i64.wrap (IntKind.i64.wrap (IntKind.i64.wrap (IntKind.i64.wrap (s1_1 + 1) + 1) + 1) + 1)), .string ((nth y1_m0 i1).Text)] y1_m0 Fo12]) a61 hE61 => wpList_nil ?_
    clear hE54 hE55 hE56 hE57 hE58 hE59
    clear a54 a55 a56 a57 a58 a59
    refine then_normal ?_
    refine wp_seq (wp_region_lit ?_)
    refine st_val hE61 (y_move hE61 rfl) rfl fun a62 hE62 => st_val hE62 (y_add hE62 rfl rfl) rfl fun a63 hE63 => st_val hE63 (y_assign hE63 rfl) rfl fun a64 hE64 => wpList_nil ?_
    clear hE61 hE62 hE63
    clear a61 a62 a63
    refine then_normal ?_
    refine wp_seq (wp_region_lit ?_)
    refine st_val hE64 (y_move hE64 rfl) rfl fun a65 hE65 => st_val hE65 (y_move hE65 rfl) rfl fun a66 hE66 => st_val hE66 (y_move hE66 rfl) rfl fun a67 hE67 => st_callF hE67 hS60 Tryz.func70 fb70 fn70 (c_laws_markText (IntKind.i64.wrap (IntKind.i64.wrap (IntKind.i64.wrap (IntKind.i64.wrap (IntKind.i64.wrap (s1_1 + 1) + 1) + 1) + 1) + 1)) (I64_wrap _)) rfl rfl fun w68 hS68 a69 hE69 => ?_
    refine st_val hE69 (y_indexAddr (A := ⟨g12, 0, none⟩) hE69 (congrArg (fun A => some (Value.slice A p0.length cap0)) hA12) rfl (by omega) (by omega) sl145) rfl fun a70 hE70 => st_val hE70 (y_fieldAddr hE70 rfl fa54_5 rfl) rfl fun a71 hE71 => st_storeE (α := Call) (k := 0) hE71 hS68 [.int .i64 s1_1, .string (laws_markText (IntKind.i64.wrap (s1_1 + 1))), .string (laws_markText (IntKind.i64.wrap (IntKind.i64.wrap (s1_1 + 1) + 1))), .int .i64 (IntKind.i64.wrap (IntKind.i64.wrap (IntKind.i64.wrap (s1_1 + 1) + 1) + 1)), .int .i64 (IntKind.i64.wrap (IntKind.i64.wrap (IntKind.i64.wrap (IntKind.i64.wrap (s1_1 + 1) + 1) + 1) + 1)), .string (laws_markText (IntKind.i64.wrap (IntKind.i64.wrap (IntKind.i64.wrap (IntKind.i64.wrap (IntKind.i64.wrap (s1_1 + 1) + 1) + 1) + 1) + 1)))] rfl rfl rfl (by rw [Int.toNat_natCast]; rfl) rfl (chkOne_size one9) rfl rfl rfl rfl fun w72 (hS72 : SH (Off [Ck.own (α := List Call) [.slice A0 p0.length cap0] p0 F0] w) w w72 [Ck.elem (α := Call) g12 i1 cap0 [.int .i64 s1_1, .string (laws_markText (IntKind.i64.wrap (s1_1 + 1))), .string (laws_markText (IntKind.i64.wrap (IntKind.i64.wrap (s1_1 + 1) + 1))), .int .i64 (IntKind.i64.wrap (IntKind.i64.wrap (IntKind.i64.wrap (s1_1 + 1) + 1) + 1)), .int .i64 (IntKind.i64.wrap (IntKind.i64.wrap (IntKind.i64.wrap (IntKind.i64.wrap (s1_1 + 1) + 1) + 1) + 1)), .string (laws_markText (IntKind.i64.wrap (IntKind.i64.wrap (IntKind.i64.wrap (IntKind.i64.wrap (IntKind.i64.wrap (s1_1 + 1) + 1) + 1) + 1) + 1)))] y1_m0 Fo12]) a73 hE73 => wpList_nil ?_
    clear hE64 hE65 hE66 hE67 hE69 hE70 hE71
    clear a64 a65 a66 a67 a69 a70 a71
    refine then_normal ?_
    refine wp_region_lit ?_
    refine st_val hE73 (y_move hE73 rfl) rfl fun a74 hE74 => st_val hE74 (y_add hE74 rfl rfl) rfl fun a75 hE75 => st_val hE75 (y_assign hE75 rfl) rfl fun a76 hE76 => wpList_nil ?_
    clear hE73 hE74 hE75
    clear a73 a74 a75
    refine blk_normal ?_
    refine then_normal ?_
    refine wp_region_lit ?_
    refine st_val hE76 (y_move hE76 rfl) rfl fun a77 hE77 => st_val hE77 (y_add_in hE77 rfl rfl (m := ((i1 + 1 : Nat) : Int)) (by omega) (by omega) (by omega)) rfl fun a78 hE78 => st_val hE78 (y_assign hE78 rfl) rfl fun a79 hE79 => wpList_nil ?_
    clear hE76 hE77 hE78
    clear a76 a77 a78
    have hJ80 := SH.flat (L := [Ck.elem (α := Call) g12 i1 cap0 [.int .i64 s1_1, .string (laws_markText (IntKind.i64.wrap (s1_1 + 1))), .string (laws_markText (IntKind.i64.wrap (IntKind.i64.wrap (s1_1 + 1) + 1))), .int .i64 (IntKind.i64.wrap (IntKind.i64.wrap (IntKind.i64.wrap (s1_1 + 1) + 1) + 1)), .int .i64 (IntKind.i64.wrap (IntKind.i64.wrap (IntKind.i64.wrap (IntKind.i64.wrap (s1_1 + 1) + 1) + 1) + 1)), .string (laws_markText (IntKind.i64.wrap (IntKind.i64.wrap (IntKind.i64.wrap (IntKind.i64.wrap (IntKind.i64.wrap (s1_1 + 1) + 1) + 1) + 1) + 1)))] y1_m0 Fo12]) (α := Call) (cs := [.int .i64 s1_1, .string (laws_markText (IntKind.i64.wrap (s1_1 + 1))), .string (laws_markText (IntKind.i64.wrap (IntKind.i64.wrap (s1_1 + 1) + 1))), .int .i64 (IntKind.i64.wrap (IntKind.i64.wrap (IntKind.i64.wrap (s1_1 + 1) + 1) + 1)), .int .i64 (IntKind.i64.wrap (IntKind.i64.wrap (IntKind.i64.wrap (IntKind.i64.wrap (s1_1 + 1) + 1) + 1) + 1)), .string (laws_markText (IntKind.i64.wrap (IntKind.i64.wrap (IntKind.i64.wrap (IntKind.i64.wrap (IntKind.i64.wrap (s1_1 + 1) + 1) + 1) + 1) + 1)))]) (x := (Call.mk s1_1 (laws_markText (IntKind.i64.wrap (s1_1 + 1))) (laws_markText (IntKind.i64.wrap (IntKind.i64.wrap (s1_1 + 1) + 1))) (IntKind.i64.wrap (IntKind.i64.wrap (IntKind.i64.wrap (s1_1 + 1) + 1) + 1)) (IntKind.i64.wrap (IntKind.i64.wrap (IntKind.i64.wrap (IntKind.i64.wrap (s1_1 + 1) + 1) + 1) + 1)) (laws_markText (IntKind.i64.wrap (IntKind.i64.wrap (IntKind.i64.wrap (IntKind.i64.wrap (IntKind.i64.wrap (s1_1 + 1) + 1) + 1) + 1) + 1))))) hS72 (fun _ => Call_own (x := (Call.mk s1_1 (laws_markText (IntKind.i64.wrap (s1_1 + 1))) (laws_markText (IntKind.i64.wrap (IntKind.i64.wrap (s1_1 + 1) + 1))) (IntKind.i64.wrap (IntKind.i64.wrap (IntKind.i64.wrap (s1_1 + 1) + 1) + 1)) (IntKind.i64.wrap (IntKind.i64.wrap (IntKind.i64.wrap (IntKind.i64.wrap (s1_1 + 1) + 1) + 1) + 1)) (laws_markText (IntKind.i64.wrap (IntKind.i64.wrap (IntKind.i64.wrap (IntKind.i64.wrap (IntKind.i64.wrap (s1_1 + 1) + 1) + 1) + 1) + 1))))) hgis1_1 (laws_markText_good (by first | assumption | exact I64_wrap _)) (laws_markText_good (by first | assumption | exact I64_wrap _)) (I64_wrap _) (I64_wrap _) (laws_markText_good (by first | assumption | exact I64_wrap _)))
    obtain ⟨F80, hS80⟩ := SH.unfocus (α := Call) (L := []) hJ80 hA12 hn12 (by omega)
    refine then_normal ⟨fu1, Nat.lt_succ_self _, (i1 + 1), IntKind.i64.wrap (IntKind.i64.wrap (IntKind.i64.wrap (IntKind.i64.wrap (IntKind.i64.wrap (IntKind.i64.wrap (s1_1 + 1) + 1) + 1) + 1) + 1) + 1), (y1_m0.set i1 (Call.mk s1_1 (laws_markText (IntKind.i64.wrap (s1_1 + 1))) (laws_markText (IntKind.i64.wrap (IntKind.i64.wrap (s1_1 + 1) + 1))) (IntKind.i64.wrap (IntKind.i64.wrap (IntKind.i64.wrap (s1_1 + 1) + 1) + 1)) (IntKind.i64.wrap (IntKind.i64.wrap (IntKind.i64.wrap (IntKind.i64.wrap (s1_1 + 1) + 1) + 1) + 1)) (laws_markText (IntKind.i64.wrap (IntKind.i64.wrap (IntKind.i64.wrap (IntKind.i64.wrap (IntKind.i64.wrap (s1_1 + 1) + 1) + 1) + 1) + 1))))), F80, by omega, by omega, .inl (by omega), (I64_wrap _), hM, hE79.weaken ⟨rfl, rfl, rfl, trivial⟩, hS80⟩
  ·
    have hge1 : ¬ i1 < p0.length := by have := of_decide_eq_false hb8; omega
    obtain rfl : fu1 = 0 := by omega
    have hM := hM.trans (laws_markCallS_l1.eq_1 _ _ _ _ _)
    refine wp_exit ?_
    refine then_exit ?_
    refine then_exit ?_
    refine blk_exit ?_
    refine then_normal ?_
    refine wp_seq (wp_region_lit ?_)
    refine st_val hE7 (y_move hE7 rfl) rfl fun a81 hE81 => st_val hE81 (y_assign hE81 rfl) rfl fun a82 hE82 => wpList_nil ?_
    clear hE7 hE81
    clear a7 a81
    refine then_normal ?_
    refine wp_ret ?_
    refine fin1 hE82 rfl rfl ?_
    rw [hM]
    exact ⟨rfl, hgis1_1, Fy1_m0, hS3⟩

/- F140 loop.example/g00974/laws.markIntS -/
def laws_markIntS_l1 (p0 : List Int) (p1 : Int) : Nat → Nat → Int → List Int → List Int × Int
  | 0, i1, s1_1, y1_m0 => (y1_m0, s1_1)
  | fu1 + 1, i1, s1_1, y1_m0 => laws_markIntS_l1 p0 p1 fu1 (i1 + 1) (IntKind.i64.wrap (s1_1 + 1)) (y1_m0.set i1 s1_1)
def laws_markIntS (p0 : List Int) (p1 : Int) : List Int × Int := laws_markIntS_l1 p0 p1 (p0.length - 0) 0 p1 p0
theorem c_laws_markIntS {v0 : Value} (p0 : List Int) {F0 : List Nat} (p1 : Int) {w : World} (hMu0 : SH (Off [Ck.own (α := List Int) [v0] p0 F0] w) w w [Ck.own (α := List Int) [v0] p0 F0]) (hi1 : I64 p1) :
    Calls Tryz.prog 140 [v0, .int .i64 p1].toArray w (fun e w' => e = .returned (.int .i64 (laws_markIntS p0 p1).2) ∧ I64 (laws_markIntS p0 p1).2 ∧ ∃ F', SH (Off [Ck.own (α := List Int) [v0] p0 F0] w) w w' [Ck.own (α := List Int) [v0] (laws_markIntS p0 p1).1 F']) := by
  obtain ⟨A0, cap0, rfl, hx0⟩ := (hMu0.slO (k := 0) rfl).form
  refine enter Tryz.func140 rfl Tryz.ntmps140 (Nat.le_of_ble_eq_true rfl) ?_
  intro a0 hE0
  have hS0 := hMu0
  have hM := laws_markIntS.eq_1 p0 p1
  have hij1 : -9223372036854775808 ≤ p1 ∧ p1 ≤ 9223372036854775807 := hi1
  refine wp_seq (wp_region_lit ?_)
  refine st_val hE0 (y_assign hE0 rfl) rfl fun a1 hE1 => wpList_nil ?_
  clear hE0
  clear a0
  refine then_normal ?_
  refine wp_seq (wp_seq (wp_region_lit ?_))
  refine st_val hE1 (y_assign hE1 rfl) rfl fun a2 hE2 => wpList_nil ?_
  clear hE1
  clear a1
  refine then_normal ?_
  refine wp_block (wp_loop_ghost (fun fu1 a w2 => ∃ (i1 : Nat) (s1_1 : Int) (y1_m0 : List Int) (Fy1_m0 : List Nat), 0 ≤ i1 ∧ fu1 = p0.length - i1 ∧ (i1 ≤ p0.length ∨ i1 = 0) ∧ I64 s1_1 ∧ laws_markIntS p0 p1 = laws_markIntS_l1 p0 p1 fu1 i1 s1_1 y1_m0 ∧ Env 19 [(0, .slice A0 p0.length cap0), (1, .int .i64 s1_1), (5, .int .i64 (i1 : Int))] a ∧ SH (Off [Ck.own (α := List Int) [.slice A0 p0.length cap0] p0 F0] w) w w2 [Ck.own (α := List Int) [.slice A0 p0.length cap0] y1_m0 Fy1_m0]) (p0.length - 0) ⟨0, p1, p0, F0, Nat.le_refl _, rfl, .inr rfl, hi1, hM, hE2.weaken ⟨rfl, rfl, rfl, trivial⟩, hS0⟩ ?_)
  clear hM hE2
  rintro fu1 a3 w3 ⟨i1, s1_1, y1_m0, Fy1_m0, hi1, hfu1, hup1, hgis1_1, hM, hE3, hS3⟩
  have hlry1_m0 := hS3.lenrow (k := 0) rfl
  refine wp_seq (wp_seq (wp_region_lit ?_))
  refine st_val hE3 (y_move hE3 rfl) rfl fun a4 hE4 => st_val hE4 (y_move hE4 rfl) rfl fun a5 hE5 => st_val hE5 (y_len_slice hE5 rfl sl134) rfl fun a6 hE6 => st_val hE6 (y_lss hE6 rfl rfl) rfl fun a7 hE7 => wpList_nil ?_
  clear hE3 hE4 hE5 hE6
  clear a3 a4 a5 a6
  refine then_normal ?_
  refine cond_split hE7 rfl (fun hb8 => ?_) (fun hb8 => ?_)
  ·
    have hlt1 : i1 < p0.length := by have := of_decide_eq_true hb8; omega
    obtain ⟨fu1, rfl⟩ : ∃ m, fu1 = m + 1 := ⟨fu1 - 1, by omega⟩
    have hM := hM.trans (laws_markIntS_l1.eq_2 _ _ _ _ _ _)
    refine wp_skip ?_
    refine then_normal ?_
    refine wp_seq (wp_block (wp_seq (wp_region_lit ?_)))
    refine st_val hE7 (y_move hE7 rfl) rfl fun a9 hE9 => st_val hE9 (y_move hE9 rfl) rfl fun a10 hE10 => st_val hE10 (y_move hE10 rfl) rfl fun a11 hE11 => ?_
    clear hE7 hE9 hE10
    clear a7 a9 a10
    have hlr12 := hS3.lenrow (k := 0) rfl
    obtain ⟨g12, ce12, Fo12, G12, hA12, hn12, hF12⟩ := SH.focus (L := []) hS3 (i := i1) (by omega)
    obtain ⟨⟨rfl, hg12⟩, rfl⟩ := (show Dat.own w3 ce12 (nth y1_m0 i1) G12 from hF12.get (k := 0) rfl)
    have hS13 := hF12.drop (k := 1)
    refine st_val hE11 (y_indexAddr (A := ⟨g12, 0, none⟩) hE11 (congrArg (fun A => some (Value.slice A p0.length cap0)) hA12) rfl (by omega) (by omega) sl134) rfl fun a14 hE14 => st_storeE (α := Int) (k := 0) hE14 hS13 [.int .i64 s1_1] rfl rfl rfl (by rw [Int.toNat_natCast]; rfl) rfl (chkOne_size one3) rfl rfl rfl rfl fun w15 (hS15 : SH (Off [Ck.own (α := List Int) [.slice A0 p0.length cap0] p0 F0] w) w w15 [Ck.elem (α := Int) g12 i1 cap0 [.int .i64 s1_1] y1_m0 Fo12]) a16 hE16 => wpList_nil ?_
    clear hE11 hE14
    clear a11 a14
    refine then_normal ?_
    refine wp_region_lit ?_
    refine st_val hE16 (y_move hE16 rfl) rfl fun a17 hE17 => st_val hE17 (y_add hE17 rfl rfl) rfl fun a18 hE18 => st_val hE18 (y_assign hE18 rfl) rfl fun a19 hE19 => wpList_nil ?_
    clear hE16 hE17 hE18
    clear a16 a17 a18
    refine blk_normal ?_
    refine then_normal ?_
    refine wp_region_lit ?_
    refine st_val hE19 (y_move hE19 rfl) rfl fun a20 hE20 => st_val hE20 (y_add_in hE20 rfl rfl (m := ((i1 + 1 : Nat) : Int)) (by omega) (by omega) (by omega)) rfl fun a21 hE21 => st_val hE21 (y_assign hE21 rfl) rfl fun a22 hE22 => wpList_nil ?_
    clear hE19 hE20 hE21
    clear a19 a20 a21
    have hJ23 := SH.flat (L := [Ck.elem (α := Int) g12 i1 cap0 [.int .i64 s1_1] y1_m0 Fo12]) (α := Int) (cs := [.int .i64 s1_1]) (x := s1_1) hS15 (fun _ => ⟨⟨rfl, hgis1_1⟩, rfl⟩)
    obtain ⟨F23, hS23⟩ := SH.unfocus (α := Int) (L := []) hJ23 hA12 hn12 (by omega)
    refine then_normal ⟨fu1, Nat.lt_succ_self _, (i1 + 1), IntKind.i64.wrap (s1_1 + 1), (y1_m0.set i1 s1_1), F23, by omega, by omega, .inl (by omega), (I64_wrap _), hM, hE22.weaken ⟨rfl, rfl, rfl, trivial⟩, hS23⟩
  ·
    have hge1 : ¬ i1 < p0.length := by have := of_decide_eq_false hb8; omega
    obtain rfl : fu1 = 0 := by omega
    have hM := hM.trans (laws_markIntS_l1.eq_1 _ _ _ _ _)
    refine wp_exit ?_
    refine then_exit ?_
    refine then_exit ?_
    refine blk_exit ?_
    refine then_normal ?_
    refine wp_seq (wp_region_lit ?_)
    refine st_val hE7 (y_move hE7 rfl) rfl fun a24 hE24 => st_val hE24 (y_assign hE24 rfl) rfl fun a25 hE25 => wpList_nil ?_
    clear hE7 hE24
    clear a7 a24
    refine then_normal ?_
    refine wp_ret ?_
    refine fin1 hE25 rfl rfl ?_
    rw [hM]
    exact ⟨rfl, hgis1_1, Fy1_m0, hS3⟩

end Go.Proofs.YtnjidaonbcbphaaGreatDoor.Fw

/- Contracts: each call returns what the model says. By program (wip/gen). -/
namespace Go.Proofs.YtnjidaonbcbphaaGreatDoor.Fw
open Go.RowKit
set_option linter.unusedVariables false
set_option linter.unusedSimpArgs false

theorem fa147_0 : chkField Tryz.prog 147 0 0 = true := by kernel_rfl
theorem fa147_1 : chkField Tryz.prog 147 1 1 = true := by kernel_rfl
theorem fa149_3 : chkField Tryz.prog 149 3 3 = true := by kernel_rfl
theorem fa149_5 : chkField Tryz.prog 149 5 5 = true := by kernel_rfl
theorem fa149_6 : chkField Tryz.prog 149 6 6 = true := by kernel_rfl
theorem fa149_7 : chkField Tryz.prog 149 7 8 = true := by kernel_rfl
theorem fa153_2 : chkField Tryz.prog 153 2 2 = true := by kernel_rfl
theorem fa153_4 : chkField Tryz.prog 153 4 4 = true := by kernel_rfl
theorem fa153_5 : chkField Tryz.prog 153 5 5 = true := by kernel_rfl
theorem fa153_6 : chkField Tryz.prog 153 6 6 = true := by kernel_rfl
theorem fa179_0 : chkField Tryz.prog 179 0 0 = true := by kernel_rfl
theorem fa179_1 : chkField Tryz.prog 179 1 1 = true := by kernel_rfl
theorem fa211_0 : chkField Tryz.prog 211 0 0 = true := by kernel_rfl
theorem fa211_1 : chkField Tryz.prog 211 1 1 = true := by kernel_rfl
theorem fa211_2 : chkField Tryz.prog 211 2 2 = true := by kernel_rfl
theorem fb138 : Tryz.f138.body.isNone = false := rfl
theorem fb139 : Tryz.f139.body.isNone = false := rfl
theorem fb140 : Tryz.f140.body.isNone = false := rfl
theorem fb142 : Tryz.f142.body.isNone = false := rfl
theorem fb15 : Tryz.f15.body.isNone = false := rfl
theorem fb66 : Tryz.f66.body.isNone = false := rfl
theorem fn138 : (Tryz.f138.name == "runtime.NumGoroutine") = false := by kernel_rfl
theorem fn139 : (Tryz.f139.name == "runtime.NumGoroutine") = false := by kernel_rfl
theorem fn140 : (Tryz.f140.name == "runtime.NumGoroutine") = false := by kernel_rfl
theorem fn142 : (Tryz.f142.name == "runtime.NumGoroutine") = false := by kernel_rfl
theorem fn15 : (Tryz.f15.name == "runtime.NumGoroutine") = false := by kernel_rfl
theorem fn66 : (Tryz.f66.name == "runtime.NumGoroutine") = false := by kernel_rfl
theorem one134 : chkOne Tryz.prog 134 = true := by kernel_rfl
theorem one146 : chkOne Tryz.prog 146 = true := by kernel_rfl
theorem one30 : chkOne Tryz.prog 30 = true := by kernel_rfl
theorem one35 : chkOne Tryz.prog 35 = true := by kernel_rfl
theorem sl36 : chkSlice Tryz.prog 36 149 10 160 = true := by kernel_rfl
theorem sl37 : chkSlice Tryz.prog 37 211 3 40 = true := by kernel_rfl
theorem sl41 : chkSlice Tryz.prog 41 153 8 96 = true := by kernel_rfl

/- F67 loop.example/g00974/laws.markTxS -/
def laws_markTxS_l1 (p0 : List Tx) (p1 : Int) : Nat → Nat → Int → List Tx → List Tx × Int
  | 0, i1, s1_1, y1_m0 => (y1_m0, s1_1)
  | fu1 + 1, i1, s1_1, y1_m0 => laws_markTxS_l1 p0 p1 fu1 (i1 + 1) (IntKind.i64.wrap ((laws_markIntS ((nth y1_m0 i1).Marks) ((laws_markStringS ((nth y1_m0 i1).Touch.Writes) ((laws_markStringS ((nth y1_m0 i1).Touch.Reads) ((laws_markAnswerS ((nth y1_m0 i1).Answers) ((laws_markCallS ((nth y1_m0 i1).Calls) (IntKind.i64.wrap (IntKind.i64.wrap (IntKind.i64.wrap (IntKind.i64.wrap (s1_1 + 1) + 1) + 1) + 1))).2)).2)).2)).2)).2 + 1)) (y1_m0.set i1 (Tx.mk s1_1 (IntKind.i64.wrap (s1_1 + 1)) (IntKind.i64.wrap (IntKind.i64.wrap (s1_1 + 1) + 1)) (IntKind.i64.wrap (IntKind.i64.wrap (IntKind.i64.wrap (s1_1 + 1) + 1) + 1)) ((laws_markCallS ((nth y1_m0 i1).Calls) (IntKind.i64.wrap (IntKind.i64.wrap (IntKind.i64.wrap (IntKind.i64.wrap (s1_1 + 1) + 1) + 1) + 1))).1) ((laws_markAnswerS ((nth y1_m0 i1).Answers) ((laws_markCallS ((nth y1_m0 i1).Calls) (IntKind.i64.wrap (IntKind.i64.wrap (IntKind.i64.wrap (IntKind.i64.wrap (s1_1 + 1) + 1) + 1) + 1))).2)).1) (Touch.mk ((laws_markStringS ((nth y1_m0 i1).Touch.Reads) ((laws_markAnswerS ((nth y1_m0 i1).Answers) ((laws_markCallS ((nth y1_m0 i1).Calls) (IntKind.i64.wrap (IntKind.i64.wrap (IntKind.i64.wrap (IntKind.i64.wrap (s1_1 + 1) + 1) + 1) + 1))).2)).2)).1) ((laws_markStringS ((nth y1_m0 i1).Touch.Writes) ((laws_markStringS ((nth y1_m0 i1).Touch.Reads) ((laws_markAnswerS ((nth y1_m0 i1).Answers) ((laws_markCallS ((nth y1_m0 i1).Calls) (IntKind.i64.wrap (IntKind.i64.wrap (IntKind.i64.wrap (IntKind.i64.wrap (s1_1 + 1) + 1) + 1) + 1))).2)).2)).2)).1)) ((laws_markIntS ((nth y1_m0 i1).Marks) ((laws_markStringS ((nth y1_m0 i1).Touch.Writes) ((laws_markStringS ((nth y1_m0 i1).Touch.Reads) ((laws_markAnswerS ((nth y1_m0 i1).Answers) ((laws_markCallS ((nth y1_m0 i1).Calls) (IntKind.i64.wrap (IntKind.i64.wrap (IntKind.i64.wrap (IntKind.i64.wrap (s1_1 + 1) + 1) + 1) + 1))).2)).2)).2)).2)).1) ((laws_markIntS ((nth y1_m0 i1).Marks) ((laws_markStringS ((nth y1_m0 i1).Touch.Writes) ((laws_markStringS ((nth y1_m0 i1).Touch.Reads) ((laws_markAnswerS ((nth y1_m0 i1).Answers) ((laws_markCallS ((nth y1_m0 i1).Calls) (IntKind.i64.wrap (IntKind.i64.wrap (IntKind.i64.wrap (IntKind.i64.wrap (s1_1 + 1) + 1) + 1) + 1))).2)).2)).2)).2)).2)))
def laws_markTxS (p0 : List Tx) (p1 : Int) : List Tx × Int := laws_markTxS_l1 p0 p1 (p0.length - 0) 0 p1 p0
theorem c_laws_markTxS {v0 : Value} (p0 : List Tx) {F0 : List Nat} (p1 : Int) {w : World} (hMu0 : SH (Off [Ck.own (α := List Tx) [v0] p0 F0] w) w w [Ck.own (α := List Tx) [v0] p0 F0]) (hi1 : I64 p1) :
    Calls Tryz.prog 67 [v0, .int .i64 p1].toArray w (fun e w' => e = .returned (.int .i64 (laws_markTxS p0 p1).2) ∧ I64 (laws_markTxS p0 p1).2 ∧ ∃ F', SH (Off [Ck.own (α := List Tx) [v0] p0 F0] w) w w' [Ck.own (α := List Tx) [v0] (laws_markTxS p0 p1).1 F']) := by
  obtain ⟨A0, cap0, rfl, hx0⟩ := (hMu0.slO (k := 0) rfl).form
  refine enter Tryz.func67 rfl Tryz.ntmps67 (Nat.le_of_ble_eq_true rfl) ?_
  intro a0 hE0
  have hS0 := hMu0
  have hM := laws_markTxS.eq_1 p0 p1
  have hij1 : -9223372036854775808 ≤ p1 ∧ p1 ≤ 9223372036854775807 := hi1
  refine wp_seq (wp_region_lit ?_)
  refine st_val hE0 (y_assign hE0 rfl) rfl fun a1 hE1 => wpList_nil ?_
  clear hE0
  clear a0
  refine then_normal ?_
  refine wp_seq (wp_seq (wp_region_lit ?_))
  refine st_val hE1 (y_assign hE1 rfl) rfl fun a2 hE2 => wpList_nil ?_
  clear hE1
  clear a1
  refine then_normal ?_
  refine wp_block (wp_loop_ghost (fun fu1 a w2 => ∃ (i1 : Nat) (s1_1 : Int) (y1_m0 : List Tx) (Fy1_m0 : List Nat), 0 ≤ i1 ∧ fu1 = p0.length - i1 ∧ (i1 ≤ p0.length ∨ i1 = 0) ∧ I64 s1_1 ∧ laws_markTxS p0 p1 = laws_markTxS_l1 p0 p1 fu1 i1 s1_1 y1_m0 ∧ Env 85 [(0, .slice A0 p0.length cap0), (1, .int .i64 s1_1), (5, .int .i64 (i1 : Int))] a ∧ SH (Off [Ck.own (α := List Tx) [.slice A0 p0.length cap0] p0 F0] w) w w2 [Ck.own (α := List Tx) [.slice A0 p0.length cap0] y1_m0 Fy1_m0]) (p0.length - 0) ⟨0, p1, p0, F0, Nat.le_refl _, rfl, .inr rfl, hi1, hM, hE2.weaken ⟨rfl, rfl, rfl, trivial⟩, hS0⟩ ?_)
  clear hM hE2
  rintro fu1 a3 w3 ⟨i1, s1_1, y1_m0, Fy1_m0, hi1, hfu1, hup1, hgis1_1, hM, hE3, hS3⟩
  have hlry1_m0 := hS3.lenrow (k := 0) rfl
  refine wp_seq (wp_seq (wp_region_lit ?_))
  refine st_val hE3 (y_move hE3 rfl) rfl fun a4 hE4 => st_val hE4 (y_move hE4 rfl) rfl fun a5 hE5 => st_val hE5 (y_len_slice hE5 rfl sl36) rfl fun a6 hE6 => st_val hE6 (y_lss hE6 rfl rfl) rfl fun a7 hE7 => wpList_nil ?_
  clear hE3 hE4 hE5 hE6
  clear a3 a4 a5 a6
  refine then_normal ?_
  refine cond_split hE7 rfl (fun hb8 => ?_) (fun hb8 => ?_)
  ·
    have hlt1 : i1 < p0.length := by have := of_decide_eq_true hb8; omega
    obtain ⟨fu1, rfl⟩ : ∃ m, fu1 = m + 1 := ⟨fu1 - 1, by omega⟩
    have hM := hM.trans (laws_markTxS_l1.eq_2 _ _ _ _ _ _)
    refine wp_skip ?_
    refine then_normal ?_
    refine wp_seq (wp_block (wp_seq (wp_region_lit ?_)))
    refine st_val hE7 (y_move hE7 rfl) rfl fun a9 hE9 => st_val hE9 (y_move hE9 rfl) rfl fun a10 hE10 => st_val hE10 (y_move hE10 rfl) rfl fun a11 hE11 => ?_
    clear hE7 hE9 hE10
    clear a7 a9 a10
    have hlr12 := hS3.lenrow (k := 0) rfl
    obtain ⟨g12, ce12, Fo12, G12, hA12, hn12, hF12⟩ := SH.focus (L := []) hS3 (i := i1) (by omega)
    obtain ⟨v12_4, F12_4, v12_5, F12_5, v12_6, F12_6, v12_7, F12_7, v12_8, F12_8, rfl, rfl, hg12_0, hg12_1, hg12_2, hg12_3, ho12_4, ho12_5, ho12_6, ho12_7, ho12_8, hg12_9, _⟩ := Tx_oopen (show Dat.own w3 ce12 (nth y1_m0 i1) G12 from hF12.get (k := 0) rfl)
    obtain ⟨A12_4, cp12_4, rfl, hx12_4⟩ := ho12_4.form
    obtain ⟨A12_5, cp12_5, rfl, hx12_5⟩ := ho12_5.form
    obtain ⟨A12_6, cp12_6, rfl, hx12_6⟩ := ho12_6.form
    obtain ⟨A12_7, cp12_7, rfl, hx12_7⟩ := ho12_7.form
    obtain ⟨A12_8, cp12_8, rfl, hx12_8⟩ := ho12_8.form
    have hS13 := hF12.split [Ck.own (α := List Call) [.slice A12_4 ((nth y1_m0 i1).Calls.length) cp12_4] ((nth y1_m0 i1).Calls) F12_4, Ck.own (α := List Answer) [.slice A12_5 ((nth y1_m0 i1).Answers.length) cp12_5] ((nth y1_m0 i1).Answers) F12_5, Ck.own (α := List ByteArray) [.slice A12_6 ((nth y1_m0 i1).Touch.Reads.length) cp12_6] ((nth y1_m0 i1).Touch.Reads) F12_6, Ck.own (α := List ByteArray) [.slice A12_7 ((nth y1_m0 i1).Touch.Writes.length) cp12_7] ((nth y1_m0 i1).Touch.Writes) F12_7, Ck.own (α := List Int) [.slice A12_8 ((nth y1_m0 i1).Marks.length) cp12_8] ((nth y1_m0 i1).Marks) F12_8] (by simp only [Ck.own, List.flatMap_cons, List.flatMap_nil, List.append_nil, List.append_assoc]) (oks_cons (ok_sl ho12_4) (oks_cons (ok_sl ho12_5) (oks_cons (ok_sl ho12_6) (oks_cons (ok_sl ho12_7) (oks_cons (ok_sl ho12_8) oks_nil)))))
    simp only [List.cons_append, List.nil_append] at hS13
    refine st_val hE11 (y_indexAddr (A := ⟨g12, 0, none⟩) hE11 (congrArg (fun A => some (Value.slice A p0.length cap0)) hA12) rfl (by omega) (by omega) sl36) rfl fun a14 hE14 => st_val hE14 (y_fieldAddr hE14 rfl fa149_0 rfl) rfl fun a15 hE15 => st_storeE (α := Tx) (k := 5) hE15 hS13 [.int .i64 s1_1, .int .i64 ((nth y1_m0 i1).Age), .int .i64 ((nth y1_m0 i1).Proc), .int .i64 ((nth y1_m0 i1).Began), .slice A12_4 ((nth y1_m0 i1).Calls.length) cp12_4, .slice A12_5 ((nth y1_m0 i1).Answers.length) cp12_5, .slice A12_6 ((nth y1_m0 i1).Touch.Reads.length) cp12_6, .slice A12_7 ((nth y1_m0 i1).Touch.Writes.length) cp12_7, .slice A12_8 ((nth y1_m0 i1).Marks.length) cp12_8, .int .i64 ((nth y1_m0 i1).State)] rfl rfl rfl (by rw [Int.toNat_natCast]; rfl) rfl (chkOne_size one3) rfl rfl rfl rfl fun w16 (hS16 : SH (Off [Ck.own (α := List Tx) [.slice A0 p0.length cap0] p0 F0] w) w w16 [Ck.own (α := List Call) [.slice A12_4 ((nth y1_m0 i1).Calls.length) cp12_4] ((nth y1_m0 i1).Calls) F12_4, Ck.own (α := List Answer) [.slice A12_5 ((nth y1_m0 i1).Answers.length) cp12_5] ((nth y1_m0 i1).Answers) F12_5, Ck.own (α := List ByteArray) [.slice A12_6 ((nth y1_m0 i1).Touch.Reads.length) cp12_6] ((nth y1_m0 i1).Touch.Reads) F12_6, Ck.own (α := List ByteArray) [.slice A12_7 ((nth y1_m0 i1).Touch.Writes.length) cp12_7] ((nth y1_m0 i1).Touch.Writes) F12_7, Ck.own (α := List Int) [.slice A12_8 ((nth y1_m0 i1).Marks.length) cp12_8] ((nth y1_m0 i1).Marks) F12_8, Ck.elem (α := Tx) g12 i1 cap0 [.int .i64 s1_1, .int .i64 ((nth y1_m0 i1).Age), .int .i64 ((nth y1_m0 i1).Proc), .int .i64 ((nth y1_m0 i1).Began), .slice A12_4 ((nth y1_m0 i1).Calls.length) cp12_4, .slice A12_5 ((nth y1_m0 i1).Answers.length) cp12_5, .slice A12_6 ((nth y1_m0 i1).Touch.Reads.length) cp12_6, .slice A12_7 ((nth y1_m0 i1).Touch.Writes.length) cp12_7, .slice A12_8 ((nth y1_m0 i1).Marks.length) cp12_8, .int .i64 ((nth y1_m0 i1).State)] y1_m0 Fo12]) a17 hE17 => wpList_nil ?_
    clear hE11 hE14 hE15
    clear a11 a14 a15
    refine then_normal ?_
    refine wp_seq (wp_region_lit ?_)
    refine st_val hE17 (y_move hE17 rfl) rfl fun a18 hE18 => st_val hE18 (y_add hE18 rfl rfl) rfl fun a19 hE19 => st_val hE19 (y_assign hE19 rfl) rfl fun a20 hE20 => wpList_nil ?_
    clear hE17 hE18 hE19
    clear a17 a18 a19
    refine then_normal ?_
    refine wp_seq (wp_region_lit ?_)
    refine st_val hE20 (y_move hE20 rfl) rfl fun a21 hE21 => st_val hE21 (y_move hE21 rfl) rfl fun a22 hE22 => st_val hE22 (y_move hE22 rfl) rfl fun a23 hE23 => ?_
    refine st_val hE23 (y_indexAddr (A := ⟨g12, 0, none⟩) hE23 (congrArg (fun A => some (Value.slice A p0.length cap0)) hA12) rfl (by omega) (by omega) sl36) rfl fun a24 hE24 => st_val hE24 (y_fieldAddr hE24 rfl fa149_1 rfl) rfl fun a25 hE25 => st_storeE (α := Tx) (k := 5) hE25 hS16 [.int .i64 s1_1, .int .i64 (IntKind.i64.wrap (s1_1 + 1)), .int .i64 ((nth y1_m0 i1).Proc), .int .i64 ((nth y1_m0 i1).Began), .slice A12_4 ((nth y1_m0 i1).Calls.length) cp12_4, .slice A12_5 ((nth y1_m0 i1).Answers.length) cp12_5, .slice A12_6 ((nth y1_m0 i1).Touch.Reads.length) cp12_6, .slice A12_7 ((nth y1_m0 i1).Touch.Writes.length) cp12_7, .slice A12_8 ((nth y1_m0 i1).Marks.length) cp12_8, .int .i64 ((nth y1_m0 i1).State)] rfl rfl rfl (by rw [Int.toNat_natCast]; rfl) rfl (chkOne_size one3) rfl rfl rfl rfl fun w26 (hS26 : SH (Off [Ck.own (α := List Tx) [.slice A0 p0.length cap0] p0 F0] w) w w26 [Ck.own (α := List Call) [.slice A12_4 ((nth y1_m0 i1).Calls.length) cp12_4] ((nth y1_m0 i1).Calls) F12_4, Ck.own (α := List Answer) [.slice A12_5 ((nth y1_m0 i1).Answers.length) cp12_5] ((nth y1_m0 i1).Answers) F12_5, Ck.own (α := List ByteArray) [.slice A12_6 ((nth y1_m0 i1).Touch.Reads.length) cp12_6] ((nth y1_m0 i1).Touch.Reads) F12_6, Ck.own (α := List ByteArray) [.slice A12_7 ((nth y1_m0 i1).Touch.Writes.length) cp12_7] ((nth y1_m0 i1).Touch.Writes) F12_7, Ck.own (α := List Int) [.slice A12_8 ((nth y1_m0 i1).Marks.length) cp12_8] ((nth y1_m0 i1).Marks) F12_8, Ck.elem (α := Tx) g12 i1 cap0 [.int .i64 s1_1, .int .i64 (IntKind.i64.wrap (s1_1 + 1)), .int .i64 ((nth y1_m0 i1).Proc), .int .i64 ((nth y1_m0 i1).Began), .slice A12_4 ((nth y1_m0 i1).Calls.length) cp12_4, .slice A12_5 ((nth y1_m0 i1).Answers.length) cp12_5, .slice A12_6 ((nth y1_m0 i1).Touch.Reads.length) cp12_6, .slice A12_7 ((nth y1_m0 i1).Touch.Writes.length) cp12_7, .slice A12_8 ((nth y1_m0 i1).Marks.length) cp12_8, .int .i64 ((nth y1_m0 i1).State)] y1_m0 Fo12]) a27 hE27 => wpList_nil ?_
    clear hE20 hE21 hE22 hE23 hE24 hE25
    clear a20 a21 a22 a23 a24 a25
    refine then_normal ?_
    refine wp_seq (wp_region_lit ?_)
    refine st_val hE27 (y_move hE27 rfl) rfl fun a28 hE28 => st_val hE28 (y_add hE28 rfl rfl) rfl fun a29 hE29 => st_val hE29 (y_assign hE29 rfl) rfl fun a30 hE30 => wpList_nil ?_
    clear hE27 hE28 hE29
    clear a27 a28 a29
    refine then_normal ?_
    refine wp_seq (wp_region_lit ?_)
    refine st_val hE30 (y_move hE30 rfl) rfl fun a31 hE31 => st_val hE31 (y_move hE31 rfl) rfl fun a32 hE32 => st_val hE32 (y_move hE32 rfl) rfl fun a33 hE33 => ?_
    refine st_val hE33 (y_indexAddr (A := ⟨g12, 0, none⟩) hE33 (congrArg (fun A => some (Value.slice A p0.length cap0)) hA12) rfl (by omega) (by omega) sl36) rfl fun a34 hE34 => st_val hE34 (y_fieldAddr hE34 rfl fa149_2 rfl) rfl fun a35 hE35 => st_storeE (α := Tx) (k := 5) hE35 hS26 [.int .i64 s1_1, .int .i64 (IntKind.i64.wrap (s1_1 + 1)), .int .i64 (IntKind.i64.wrap (IntKind.i64.wrap (s1_1 + 1) + 1)), .int .i64 ((nth y1_m0 i1).Began), .slice A12_4 ((nth y1_m0 i1).Calls.length) cp12_4, .slice A12_5 ((nth y1_m0 i1).Answers.length) cp12_5, .slice A12_6 ((nth y1_m0 i1).Touch.Reads.length) cp12_6, .slice A12_7 ((nth y1_m0 i1).Touch.Writes.length) cp12_7, .slice A12_8 ((nth y1_m0 i1).Marks.length) cp12_8, .int .i64 ((nth y1_m0 i1).State)] rfl rfl rfl (by rw [Int.toNat_natCast]; rfl) rfl (chkOne_size one3) rfl rfl rfl rfl fun w36 (hS36 : SH (Off [Ck.own (α := List Tx) [.slice A0 p0.length cap0] p0 F0] w) w w36 [Ck.own (α := List Call) [.slice A12_4 ((nth y1_m0 i1).Calls.length) cp12_4] ((nth y1_m0 i1).Calls) F12_4, Ck.own (α := List Answer) [.slice A12_5 ((nth y1_m0 i1).Answers.length) cp12_5] ((nth y1_m0 i1).Answers) F12_5, Ck.own (α := List ByteArray) [.slice A12_6 ((nth y1_m0 i1).Touch.Reads.length) cp12_6] ((nth y1_m0 i1).Touch.Reads) F12_6, Ck.own (α := List ByteArray) [.slice A12_7 ((nth y1_m0 i1).Touch.Writes.length) cp12_7] ((nth y1_m0 i1).Touch.Writes) F12_7, Ck.own (α := List Int) [.slice A12_8 ((nth y1_m0 i1).Marks.length) cp12_8] ((nth y1_m0 i1).Marks) F12_8, Ck.elem (α := Tx) g12 i1 cap0 [.int .i64 s1_1, .int .i64 (IntKind.i64.wrap (s1_1 + 1)), .int .i64 (IntKind.i64.wrap (IntKind.i64.wrap (s1_1 + 1) + 1)), .int .i64 ((nth y1_m0 i1).Began), .slice A12_4 ((nth y1_m0 i1).Calls.length) cp12_4, .slice A12_5 ((nth y1_m0 i1).Answers.length) cp12_5, .slice A12_6 ((nth y1_m0 i1).Touch.Reads.length) cp12_6, .slice A12_7 ((nth y1_m0 i1).Touch.Writes.length) cp12_7, .slice A12_8 ((nth y1_m0 i1).Marks.length) cp12_8, .int .i64 ((nth y1_m0 i1).State)] y1_m0 Fo12]) a37 hE37 => wpList_nil ?_
    clear hE30 hE31 hE32 hE33 hE34 hE35
    clear a30 a31 a32 a33 a34 a35
    refine then_normal ?_
    refine wp_seq (wp_region_lit ?_)
    refine st_val hE37 (y_move hE37 rfl) rfl fun a38 hE38 => st_val hE38 (y_add hE38 rfl rfl) rfl fun a39 hE39 => st_val hE39 (y_assign hE39 rfl) rfl fun a40 hE40 => wpList_nil ?_
    clear hE37 hE38 hE39
    clear a37 a38 a39
    refine then_normal ?_
    refine wp_seq (wp_region_lit ?_)
    refine st_val hE40 (y_move hE40 rfl) rfl fun a41 hE41 => st_val hE41 (y_move hE41 rfl) rfl fun a42 hE42 => st_val hE42 (y_move hE42 rfl) rfl fun a43 hE43 => ?_
    refine st_val hE43 (y_indexAddr (A := ⟨g12, 0, none⟩) hE43 (congrArg (fun A => some (Value.slice A p0.length cap0)) hA12) rfl (by omega) (by omega) sl36) rfl fun a44 hE44 => st_val hE44 (y_fieldAddr hE44 rfl fa149_3 rfl) rfl fun a45 hE45 => st_storeE (α := Tx) (k := 5) hE45 hS36 [.int .i64 s1_1, .int .i64 (IntKind.i64.wrap (s1_1 + 1)), .int .i64 (IntKind.i64.wrap (IntKind.i64.wrap (s1_1 + 1) + 1)), .int .i64 (IntKind.i64.wrap (IntKind.i64.wrap (IntKind.i64.wrap (s1_1 + 1) + 1) + 1)), .slice A12_4 ((nth y1_m0 i1).Calls.length) cp12_4, .slice A12_5 ((nth y1_m0 i1).Answers.length) cp12_5, .slice A12_6 ((nth y1_m0 i1).Touch.Reads.length) cp12_6, .slice A12_7 ((nth y1_m0 i1).Touch.Writes.length) cp12_7, .slice A12_8 ((nth y1_m0 i1).Marks.length) cp12_8, .int .i64 ((nth y1_m0 i1).State)] rfl rfl rfl (by rw [Int.toNat_natCast]; rfl) rfl (chkOne_size one3) rfl rfl rfl rfl fun w46 (hS46 : SH (Off [Ck.own (α := List Tx) [.slice A0 p0.length cap0] p0 F0] w) w w46 [Ck.own (α := List Call) [.slice A12_4 ((nth y1_m0 i1).Calls.length) cp12_4] ((nth y1_m0 i1).Calls) F12_4, Ck.own (α := List Answer) [.slice A12_5 ((nth y1_m0 i1).Answers.length) cp12_5] ((nth y1_m0 i1).Answers) F12_5, Ck.own (α := List ByteArray) [.slice A12_6 ((nth y1_m0 i1).Touch.Reads.length) cp12_6] ((nth y1_m0 i1).Touch.Reads) F12_6, Ck.own (α := List ByteArray) [.slice A12_7 ((nth y1_m0 i1).Touch.Writes.length) cp12_7] ((nth y1_m0 i1).Touch.Writes) F12_7, Ck.own (α := List Int) [.slice A12_8 ((nth y1_m0 i1).Marks.length) cp12_8] ((nth y1_m0 i1).Marks) F12_8, Ck.elem (α := Tx) g12 i1 cap0 [.int .i64 s1_1, .int .i64 (IntKind.i64.wrap (s1_1 + 1)), .int .i64 (IntKind.i64.wrap (IntKind.i64.wrap (s1_1 + 1) + 1)), .int .i64 (IntKind.i64.wrap (IntKind.i64.wrap (IntKind.i64.wrap (s1_1 + 1) + 1) + 1)), .slice A12_4 ((nth y1_m0 i1).Calls.length) cp12_4, .slice A12_5 ((nth y1_m0 i1).Answers.length) cp12_5, .slice A12_6 ((nth y1_m0 i1).Touch.Reads.length) cp12_6, .slice A12_7 ((nth y1_m0 i1).Touch.Writes.length) cp12_7, .slice A12_8 ((nth y1_m0 i1).Marks.length) cp12_8, .int .i64 ((nth y1_m0 i1).State)] y1_m0 Fo12]) a47 hE47 => wpList_nil ?_
    clear hE40 hE41 hE42 hE43 hE44 hE45
    clear a40 a41 a42 a43 a44 a45
    refine then_normal ?_
    refine wp_seq (wp_region_lit ?_)
    refine st_val hE47 (y_move hE47 rfl) rfl fun a48 hE48 => st_val hE48 (y_add hE48 rfl rfl) rfl fun a49 hE49 => st_val hE49 (y_assign hE49 rfl) rfl fun a50 hE50 => wpList_nil ?_
    clear hE47 hE48 hE49
    clear a47 a48 a49
    refine then_normal ?_
    refine wp_seq (wp_region_lit ?_)
    refine st_val hE50 (y_move hE50 rfl) rfl fun a51 hE51 => st_val hE51 (y_move hE51 rfl) rfl fun a52 hE52 => ?_
    refine st_val hE52 (y_indexAddr (A := ⟨g12, 0, none⟩) hE52 (congrArg (fun A => some (Value.slice A p0.length cap0)) hA12) rfl (by omega) (by omega) sl36) rfl fun a53 hE53 => st_val hE53 (y_fieldAddr hE53 rfl fa149_4 rfl) rfl fun a54 hE54 => st_val hE54 (y_load_one hE54 rfl (hS46.elemCells (k := 5) (p := (((i1 : Int)).toNat * 10)) rfl (by rw [Int.toNat_natCast]; rfl)) rfl one145) rfl fun a55 hE55 => st_val hE55 (y_move hE55 rfl) rfl fun a56 hE56 => ?_
    have hP57 : SH (Off [Ck.own (α := List Tx) [.slice A0 p0.length cap0] p0 F0] w) w w46 (Ck.own (α := List Call) [.slice A12_4 ((nth y1_m0 i1).Calls.length) cp12_4] ((nth y1_m0 i1).Calls) F12_4 :: [Ck.own (α := List Answer) [.slice A12_5 ((nth y1_m0 i1).Answers.length) cp12_5] ((nth y1_m0 i1).Answers) F12_5, Ck.own (α := List ByteArray) [.slice A12_6 ((nth y1_m0 i1).Touch.Reads.length) cp12_6] ((nth y1_m0 i1).Touch.Reads) F12_6, Ck.own (α := List ByteArray) [.slice A12_7 ((nth y1_m0 i1).Touch.Writes.length) cp12_7] ((nth y1_m0 i1).Touch.Writes) F12_7, Ck.own (α := List Int) [.slice A12_8 ((nth y1_m0 i1).Marks.length) cp12_8] ((nth y1_m0 i1).Marks) F12_8, Ck.elem (α := Tx) g12 i1 cap0 [.int .i64 s1_1, .int .i64 (IntKind.i64.wrap (s1_1 + 1)), .int .i64 (IntKind.i64.wrap (IntKind.i64.wrap (s1_1 + 1) + 1)), .int .i64 (IntKind.i64.wrap (IntKind.i64.wrap (IntKind.i64.wrap (s1_1 + 1) + 1) + 1)), .slice A12_4 ((nth y1_m0 i1).Calls.length) cp12_4, .slice A12_5 ((nth y1_m0 i1).Answers.length) cp12_5, .slice A12_6 ((nth y1_m0 i1).Touch.Reads.length) cp12_6, .slice A12_7 ((nth y1_m0 i1).Touch.Writes.length) cp12_7, .slice A12_8 ((nth y1_m0 i1).Marks.length) cp12_8, .int .i64 ((nth y1_m0 i1).State)] y1_m0 Fo12]) := hS46
    refine st_callM (c := Ck.own (α := List Call) [.slice A12_4 ((nth y1_m0 i1).Calls.length) cp12_4] ((nth y1_m0 i1).Calls) F12_4) (c' := fun F57 => Ck.own (α := List Call) [.slice A12_4 ((nth y1_m0 i1).Calls.length) cp12_4] ((laws_markCallS ((nth y1_m0 i1).Calls) (IntKind.i64.wrap (IntKind.i64.wrap (IntKind.i64.wrap (IntKind.i64.wrap (s1_1 + 1) + 1) + 1) + 1))).1) F57) (R := I64 (laws_markCallS ((nth y1_m0 i1).Calls) (IntKind.i64.wrap (IntKind.i64.wrap (IntKind.i64.wrap (IntKind.i64.wrap (s1_1 + 1) + 1) + 1) + 1))).2) hE56 hP57 Tryz.func138 fb138 fn138 (c_laws_markCallS ((nth y1_m0 i1).Calls) (IntKind.i64.wrap (IntKind.i64.wrap (IntKind.i64.wrap (IntKind.i64.wrap (s1_1 + 1) + 1) + 1) + 1)) (SH.off (M := [Ck.own (α := List Call) [.slice A12_4 ((nth y1_m0 i1).Calls.length) cp12_4] ((nth y1_m0 i1).Calls) F12_4]) (R := [Ck.own (α := List Answer) [.slice A12_5 ((nth y1_m0 i1).Answers.length) cp12_5] ((nth y1_m0 i1).Answers) F12_5, Ck.own (α := List ByteArray) [.slice A12_6 ((nth y1_m0 i1).Touch.Reads.length) cp12_6] ((nth y1_m0 i1).Touch.Reads) F12_6, Ck.own (α := List ByteArray) [.slice A12_7 ((nth y1_m0 i1).Touch.Writes.length) cp12_7] ((nth y1_m0 i1).Touch.Writes) F12_7, Ck.own (α := List Int) [.slice A12_8 ((nth y1_m0 i1).Marks.length) cp12_8] ((nth y1_m0 i1).Marks) F12_8, Ck.elem (α := Tx) g12 i1 cap0 [.int .i64 s1_1, .int .i64 (IntKind.i64.wrap (s1_1 + 1)), .int .i64 (IntKind.i64.wrap (IntKind.i64.wrap (s1_1 + 1) + 1)), .int .i64 (IntKind.i64.wrap (IntKind.i64.wrap (IntKind.i64.wrap (s1_1 + 1) + 1) + 1)), .slice A12_4 ((nth y1_m0 i1).Calls.length) cp12_4, .slice A12_5 ((nth y1_m0 i1).Answers.length) cp12_5, .slice A12_6 ((nth y1_m0 i1).Touch.Reads.length) cp12_6, .slice A12_7 ((nth y1_m0 i1).Touch.Writes.length) cp12_7, .slice A12_8 ((nth y1_m0 i1).Marks.length) cp12_8, .int .i64 ((nth y1_m0 i1).State)] y1_m0 Fo12]) hP57) (I64_wrap _)) rfl rfl fun F57 w57 hR57 hS57 a58 hE58 => st_val hE58 (y_assign hE58 rfl) rfl fun a59 hE59 => wpList_nil ?_
    clear hE50 hE51 hE52 hE53 hE54 hE55 hE56 hE58
    clear a50 a51 a52 a53 a54 a55 a56 a58
    refine then_normal ?_
    refine wp_seq (wp_region_lit ?_)
    refine st_val hE59 (y_move hE59 rfl) rfl fun a60 hE60 => st_val hE60 (y_move hE60 rfl) rfl fun a61 hE61 => ?_
    refine st_val hE61 (y_indexAddr (A := ⟨g12, 0, none⟩) hE61 (congrArg (fun A => some (Value.slice A p0.length cap0)) hA12) rfl (by omega) (by omega) sl36) rfl fun a62 hE62 => st_val hE62 (y_fieldAddr hE62 rfl fa149_5 rfl) rfl fun a63 hE63 => st_val hE63 (y_load_one hE63 rfl (hS57.elemCells (k := 5) (p := (((i1 : Int)).toNat * 10)) rfl (by rw [Int.toNat_natCast]; rfl)) rfl one146) rfl fun a64 hE64 => st_val hE64 (y_move hE64 rfl) rfl fun a65 hE65 => ?_
    have hP66 : SH (Off [Ck.own (α := List Tx) [.slice A0 p0.length cap0] p0 F0] w) w w57 (Ck.own (α := List Answer) [.slice A12_5 ((nth y1_m0 i1).Answers.length) cp12_5] ((nth y1_m0 i1).Answers) F12_5 :: [Ck.own (α := List Call) [.slice A12_4 ((nth y1_m0 i1).Calls.length) cp12_4] ((laws_markCallS ((nth y1_m0 i1).Calls) (IntKind.i64.wrap (IntKind.i64.wrap (IntKind.i64.wrap (IntKind.i64.wrap (s1_1 + 1) + 1) + 1) + 1))).1) F57, Ck.own (α := List ByteArray) [.slice A12_6 ((nth y1_m0 i1).Touch.Reads.length) cp12_6] ((nth y1_m0 i1).Touch.Reads) F12_6, Ck.own (α := List ByteArray) [.slice A12_7 ((nth y1_m0 i1).Touch.Writes.length) cp12_7] ((nth y1_m0 i1).Touch.Writes) F12_7, Ck.own (α := List Int) [.slice A12_8 ((nth y1_m0 i1).Marks.length) cp12_8] ((nth y1_m0 i1).Marks) F12_8, Ck.elem (α := Tx) g12 i1 cap0 [.int .i64 s1_1, .int .i64 (IntKind.i64.wrap (s1_1 + 1)), .int .i64 (IntKind.i64.wrap (IntKind.i64.wrap (s1_1 + 1) + 1)), .int .i64 (IntKind.i64.wrap (IntKind.i64.wrap (IntKind.i64.wrap (s1_1 + 1) + 1) + 1)), .slice A12_4 ((nth y1_m0 i1).Calls.length) cp12_4, .slice A12_5 ((nth y1_m0 i1).Answers.length) cp12_5, .slice A12_6 ((nth y1_m0 i1).Touch.Reads.length) cp12_6, .slice A12_7 ((nth y1_m0 i1).Touch.Writes.length) cp12_7, .slice A12_8 ((nth y1_m0 i1).Marks.length) cp12_8, .int .i64 ((nth y1_m0 i1).State)] y1_m0 Fo12]) := (hS57.pick [1, 0, 2, 3, 4, 5] (by decide) rfl)
    refine st_callM (c := Ck.own (α := List Answer) [.slice A12_5 ((nth y1_m0 i1).Answers.length) cp12_5] ((nth y1_m0 i1).Answers) F12_5) (c' := fun F66 => Ck.own (α := List Answer) [.slice A12_5 ((nth y1_m0 i1).Answers.length) cp12_5] ((laws_markAnswerS ((nth y1_m0 i1).Answers) ((laws_markCallS ((nth y1_m0 i1).Calls) (IntKind.i64.wrap (IntKind.i64.wrap (IntKind.i64.wrap (IntKind.i64.wrap (s1_1 + 1) + 1) + 1) + 1))).2)).1) F66) (R := I64 (laws_markAnswerS ((nth y1_m0 i1).Answers) ((laws_markCallS ((nth y1_m0 i1).Calls) (IntKind.i64.wrap (IntKind.i64.wrap (IntKind.i64.wrap (IntKind.i64.wrap (s1_1 + 1) + 1) + 1) + 1))).2)).2) hE65 hP66 Tryz.func139 fb139 fn139 (c_laws_markAnswerS ((nth y1_m0 i1).Answers) ((laws_markCallS ((nth y1_m0 i1).Calls) (IntKind.i64.wrap (IntKind.i64.wrap (IntKind.i64.wrap (IntKind.i64.wrap (s1_1 + 1) + 1) + 1) + 1))).2) (SH.off (M := [Ck.own (α := List Answer) [.slice A12_5 ((nth y1_m0 i1).Answers.length) cp12_5] ((nth y1_m0 i1).Answers) F12_5]) (R := [Ck.own (α := List Call) [.slice A12_4 ((nth y1_m0 i1).Calls.length) cp12_4] ((laws_markCallS ((nth y1_m0 i1).Calls) (IntKind.i64.wrap (IntKind.i64.wrap (IntKind.i64.wrap (IntKind.i64.wrap (s1_1 + 1) + 1) + 1) + 1))).1) F57, Ck.own (α := List ByteArray) [.slice A12_6 ((nth y1_m0 i1).Touch.Reads.length) cp12_6] ((nth y1_m0 i1).Touch.Reads) F12_6, Ck.own (α := List ByteArray) [.slice A12_7 ((nth y1_m0 i1).Touch.Writes.length) cp12_7] ((nth y1_m0 i1).Touch.Writes) F12_7, Ck.own (α := List Int) [.slice A12_8 ((nth y1_m0 i1).Marks.length) cp12_8] ((nth y1_m0 i1).Marks) F12_8, Ck.elem (α := Tx) g12 i1 cap0 [.int .i64 s1_1, .int .i64 (IntKind.i64.wrap (s1_1 + 1)), .int .i64 (IntKind.i64.wrap (IntKind.i64.wrap (s1_1 + 1) + 1)), .int .i64 (IntKind.i64.wrap (IntKind.i64.wrap (IntKind.i64.wrap (s1_1 + 1) + 1) + 1)), .slice A12_4 ((nth y1_m0 i1).Calls.length) cp12_4, .slice A12_5 ((nth y1_m0 i1).Answers.length) cp12_5, .slice A12_6 ((nth y1_m0 i1).Touch.Reads.length) cp12_6, .slice A12_7 ((nth y1_m0 i1).Touch.Writes.length) cp12_7, .slice A12_8 ((nth y1_m0 i1).Marks.length) cp12_8, .int .i64 ((nth y1_m0 i1).State)] y1_m0 Fo12]) hP66) hR57) rfl rfl fun F66 w66 hR66 hS66 a67 hE67 => st_val hE67 (y_assign hE67 rfl) rfl fun a68 hE68 => wpList_nil ?_
    clear hE59 hE60 hE61 hE62 hE63 hE64 hE65 hE67
    clear a59 a60 a61 a62 a63 a64 a65 a67
    refine then_normal ?_
    refine wp_seq (wp_region_lit ?_)
    refine st_val hE68 (y_move hE68 rfl) rfl fun a69 hE69 => st_val hE69 (y_move hE69 rfl) rfl fun a70 hE70 => ?_
    refine st_val hE70 (y_indexAddr (A := ⟨g12, 0, none⟩) hE70 (congrArg (fun A => some (Value.slice A p0.length cap0)) hA12) rfl (by omega) (by omega) sl36) rfl fun a71 hE71 => st_val hE71 (y_fieldAddr hE71 rfl fa149_6 rfl) rfl fun a72 hE72 => st_val hE72 (y_fieldAddr hE72 rfl fa147_0 rfl) rfl fun a73 hE73 => st_val hE73 (y_load_one hE73 rfl (hS66.elemCells (k := 5) (p := (((i1 : Int)).toNat * 10)) rfl (by rw [Int.toNat_natCast]; rfl)) rfl one30) rfl fun a74 hE74 => st_val hE74 (y_move hE74 rfl) rfl fun a75 hE75 => ?_
    have hP76 : SH (Off [Ck.own (α := List Tx) [.slice A0 p0.length cap0] p0 F0] w) w w66 (Ck.own (α := List ByteArray) [.slice A12_6 ((nth y1_m0 i1).Touch.Reads.length) cp12_6] ((nth y1_m0 i1).Touch.Reads) F12_6 :: [Ck.own (α := List Answer) [.slice A12_5 ((nth y1_m0 i1).Answers.length) cp12_5] ((laws_markAnswerS ((nth y1_m0 i1).Answers) ((laws_markCallS ((nth y1_m0 i1).Calls) (IntKind.i64.wrap (IntKind.i64.wrap (IntKind.i64.wrap (IntKind.i64.wrap (s1_1 + 1) + 1) + 1) + 1))).2)).1) F66, Ck.own (α := List Call) [.slice A12_4 ((nth y1_m0 i1).Calls.length) cp12_4] ((laws_markCallS ((nth y1_m0 i1).Calls) (IntKind.i64.wrap (IntKind.i64.wrap (IntKind.i64.wrap (IntKind.i64.wrap (s1_1 + 1) + 1) + 1) + 1))).1) F57, Ck.own (α := List ByteArray) [.slice A12_7 ((nth y1_m0 i1).Touch.Writes.length) cp12_7] ((nth y1_m0 i1).Touch.Writes) F12_7, Ck.own (α := List Int) [.slice A12_8 ((nth y1_m0 i1).Marks.length) cp12_8] ((nth y1_m0 i1).Marks) F12_8, Ck.elem (α := Tx) g12 i1 cap0 [.int .i64 s1_1, .int .i64 (IntKind.i64.wrap (s1_1 + 1)), .int .i64 (IntKind.i64.wrap (IntKind.i64.wrap (s1_1 + 1) + 1)), .int .i64 (IntKind.i64.wrap (IntKind.i64.wrap (IntKind.i64.wrap (s1_1 + 1) + 1) + 1)), .slice A12_4 ((nth y1_m0 i1).Calls.length) cp12_4, .slice A12_5 ((nth y1_m0 i1).Answers.length) cp12_5, .slice A12_6 ((nth y1_m0 i1).Touch.Reads.length) cp12_6, .slice A12_7 ((nth y1_m0 i1).Touch.Writes.length) cp12_7, .slice A12_8 ((nth y1_m0 i1).Marks.length) cp12_8, .int .i64 ((nth y1_m0 i1).State)] y1_m0 Fo12]) := (hS66.pick [2, 0, 1, 3, 4, 5] (by decide) rfl)
    refine st_callM (c := Ck.own (α := List ByteArray) [.slice A12_6 ((nth y1_m0 i1).Touch.Reads.length) cp12_6] ((nth y1_m0 i1).Touch.Reads) F12_6) (c' := fun F76 => Ck.own (α := List ByteArray) [.slice A12_6 ((nth y1_m0 i1).Touch.Reads.length) cp12_6] ((laws_markStringS ((nth y1_m0 i1).Touch.Reads) ((laws_markAnswerS ((nth y1_m0 i1).Answers) ((laws_markCallS ((nth y1_m0 i1).Calls) (IntKind.i64.wrap (IntKind.i64.wrap (IntKind.i64.wrap (IntKind.i64.wrap (s1_1 + 1) + 1) + 1) + 1))).2)).2)).1) F76) (R := I64 (laws_markStringS ((nth y1_m0 i1).Touch.Reads) ((laws_markAnswerS ((nth y1_m0 i1).Answers) ((laws_markCallS ((nth y1_m0 i1).Calls) (IntKind.i64.wrap (IntKind.i64.wrap (IntKind.i64.wrap (IntKind.i64.wrap (s1_1 + 1) + 1) + 1) + 1))).2)).2)).2) hE75 hP76 Tryz.func15 fb15 fn15 (c_laws_markStringS ((nth y1_m0 i1).Touch.Reads) ((laws_markAnswerS ((nth y1_m0 i1).Answers) ((laws_markCallS ((nth y1_m0 i1).Calls) (IntKind.i64.wrap (IntKind.i64.wrap (IntKind.i64.wrap (IntKind.i64.wrap (s1_1 + 1) + 1) + 1) + 1))).2)).2) (SH.off (M := [Ck.own (α := List ByteArray) [.slice A12_6 ((nth y1_m0 i1).Touch.Reads.length) cp12_6] ((nth y1_m0 i1).Touch.Reads) F12_6]) (R := [Ck.own (α := List Answer) [.slice A12_5 ((nth y1_m0 i1).Answers.length) cp12_5] ((laws_markAnswerS ((nth y1_m0 i1).Answers) ((laws_markCallS ((nth y1_m0 i1).Calls) (IntKind.i64.wrap (IntKind.i64.wrap (IntKind.i64.wrap (IntKind.i64.wrap (s1_1 + 1) + 1) + 1) + 1))).2)).1) F66, Ck.own (α := List Call) [.slice A12_4 ((nth y1_m0 i1).Calls.length) cp12_4] ((laws_markCallS ((nth y1_m0 i1).Calls) (IntKind.i64.wrap (IntKind.i64.wrap (IntKind.i64.wrap (IntKind.i64.wrap (s1_1 + 1) + 1) + 1) + 1))).1) F57, Ck.own (α := List ByteArray) [.slice A12_7 ((nth y1_m0 i1).Touch.Writes.length) cp12_7] ((nth y1_m0 i1).Touch.Writes) F12_7, Ck.own (α := List Int) [.slice A12_8 ((nth y1_m0 i1).Marks.length) cp12_8] ((nth y1_m0 i1).Marks) F12_8, Ck.elem (α := Tx) g12 i1 cap0 [.int .i64 s1_1, .int .i64 (IntKind.i64.wrap (s1_1 + 1)), .int .i64 (IntKind.i64.wrap (IntKind.i64.wrap (s1_1 + 1) + 1)), .int .i64 (IntKind.i64.wrap (IntKind.i64.wrap (IntKind.i64.wrap (s1_1 + 1) + 1) + 1)), .slice A12_4 ((nth y1_m0 i1).Calls.length) cp12_4, .slice A12_5 ((nth y1_m0 i1).Answers.length) cp12_5, .slice A12_6 ((nth y1_m0 i1).Touch.Reads.length) cp12_6, .slice A12_7 ((nth y1_m0 i1).Touch.Writes.length) cp12_7, .slice A12_8 ((nth y1_m0 i1).Marks.length) cp12_8, .int .i64 ((nth y1_m0 i1).State)] y1_m0 Fo12]) hP76) hR66) rfl rfl fun F76 w76 hR76 hS76 a77 hE77 => st_val hE77 (y_assign hE77 rfl) rfl fun a78 hE78 => wpList_nil ?_
    clear hE68 hE69 hE70 hE71 hE72 hE73 hE74 hE75 hE77
    clear a68 a69 a70 a71 a72 a73 a74 a75 a77
    refine then_normal ?_
    refine wp_seq (wp_region_lit ?_)
    refine st_val hE78 (y_move hE78 rfl) rfl fun a79 hE79 => st_val hE79 (y_move hE79 rfl) rfl fun a80 hE80 => ?_
    refine st_val hE80 (y_indexAddr (A := ⟨g12, 0, none⟩) hE80 (congrArg (fun A => some (Value.slice A p0.length cap0)) hA12) rfl (by omega) (by omega) sl36) rfl fun a81 hE81 => st_val hE81 (y_fieldAddr hE81 rfl fa149_6 rfl) rfl fun a82 hE82 => st_val hE82 (y_fieldAddr hE82 rfl fa147_1 rfl) rfl fun a83 hE83 => st_val hE83 (y_load_one hE83 rfl (hS76.elemCells (k := 5) (p := (((i1 : Int)).toNat * 10)) rfl (by rw [Int.toNat_natCast]; rfl)) rfl one30) rfl fun a84 hE84 => st_val hE84 (y_move hE84 rfl) rfl fun a85 hE85 => ?_
    have hP86 : SH (Off [Ck.own (α := List Tx) [.slice A0 p0.length cap0] p0 F0] w) w w76 (Ck.own (α := List ByteArray) [.slice A12_7 ((nth y1_m0 i1).Touch.Writes.length) cp12_7] ((nth y1_m0 i1).Touch.Writes) F12_7 :: [Ck.own (α := List ByteArray) [.slice A12_6 ((nth y1_m0 i1).Touch.Reads.length) cp12_6] ((laws_markStringS ((nth y1_m0 i1).Touch.Reads) ((laws_markAnswerS ((nth y1_m0 i1).Answers) ((laws_markCallS ((nth y1_m0 i1).Calls) (IntKind.i64.wrap (IntKind.i64.wrap (IntKind.i64.wrap (IntKind.i64.wrap (s1_1 + 1) + 1) + 1) + 1))).2)).2)).1) F76, Ck.own (α := List Answer) [.slice A12_5 ((nth y1_m0 i1).Answers.length) cp12_5] ((laws_markAnswerS ((nth y1_m0 i1).Answers) ((laws_markCallS ((nth y1_m0 i1).Calls) (IntKind.i64.wrap (IntKind.i64.wrap (IntKind.i64.wrap (IntKind.i64.wrap (s1_1 + 1) + 1) + 1) + 1))).2)).1) F66, Ck.own (α := List Call) [.slice A12_4 ((nth y1_m0 i1).Calls.length) cp12_4] ((laws_markCallS ((nth y1_m0 i1).Calls) (IntKind.i64.wrap (IntKind.i64.wrap (IntKind.i64.wrap (IntKind.i64.wrap (s1_1 + 1) + 1) + 1) + 1))).1) F57, Ck.own (α := List Int) [.slice A12_8 ((nth y1_m0 i1).Marks.length) cp12_8] ((nth y1_m0 i1).Marks) F12_8, Ck.elem (α := Tx) g12 i1 cap0 [.int .i64 s1_1, .int .i64 (IntKind.i64.wrap (s1_1 + 1)), .int .i64 (IntKind.i64.wrap (IntKind.i64.wrap (s1_1 + 1) + 1)), .int .i64 (IntKind.i64.wrap (IntKind.i64.wrap (IntKind.i64.wrap (s1_1 + 1) + 1) + 1)), .slice A12_4 ((nth y1_m0 i1).Calls.length) cp12_4, .slice A12_5 ((nth y1_m0 i1).Answers.length) cp12_5, .slice A12_6 ((nth y1_m0 i1).Touch.Reads.length) cp12_6, .slice A12_7 ((nth y1_m0 i1).Touch.Writes.length) cp12_7, .slice A12_8 ((nth y1_m0 i1).Marks.length) cp12_8, .int .i64 ((nth y1_m0 i1).State)] y1_m0 Fo12]) := (hS76.pick [3, 0, 1, 2, 4, 5] (by decide) rfl)
    refine st_callM (c := Ck.own (α := List ByteArray) [.slice A12_7 ((nth y1_m0 i1).Touch.Writes.length) cp12_7] ((nth y1_m0 i1).Touch.Writes) F12_7) (c' := fun F86 => Ck.own (α := List ByteArray) [.slice A12_7 ((nth y1_m0 i1).Touch.Writes.length) cp12_7] ((laws_markStringS ((nth y1_m0 i1).Touch.Writes) ((laws_markStringS ((nth y1_m0 i1).Touch.Reads) ((laws_markAnswerS ((nth y1_m0 i1).Answers) ((laws_markCallS ((nth y1_m0 i1).Calls) (IntKind.i64.wrap (IntKind.i64.wrap (IntKind.i64.wrap (IntKind.i64.wrap (s1_1 + 1) + 1) + 1) + 1))).2)).2)).2)).1) F86) (R := I64 (laws_markStringS ((nth y1_m0 i1).Touch.Writes) ((laws_markStringS ((nth y1_m0 i1).Touch.Reads) ((laws_markAnswerS ((nth y1_m0 i1).Answers) ((laws_markCallS ((nth y1_m0 i1).Calls) (IntKind.i64.wrap (IntKind.i64.wrap (IntKind.i64.wrap (IntKind.i64.wrap (s1_1 + 1) + 1) + 1) + 1))).2)).2)).2)).2) hE85 hP86 Tryz.func15 fb15 fn15 (c_laws_markStringS ((nth y1_m0 i1).Touch.Writes) ((laws_markStringS ((nth y1_m0 i1).Touch.Reads) ((laws_markAnswerS ((nth y1_m0 i1).Answers) ((laws_markCallS ((nth y1_m0 i1).Calls) (IntKind.i64.wrap (IntKind.i64.wrap (IntKind.i64.wrap (IntKind.i64.wrap (s1_1 + 1) + 1) + 1) + 1))).2)).2)).2) (SH.off (M := [Ck.own (α := List ByteArray) [.slice A12_7 ((nth y1_m0 i1).Touch.Writes.length) cp12_7] ((nth y1_m0 i1).Touch.Writes) F12_7]) (R := [Ck.own (α := List ByteArray) [.slice A12_6 ((nth y1_m0 i1).Touch.Reads.length) cp12_6] ((laws_markStringS ((nth y1_m0 i1).Touch.Reads) ((laws_markAnswerS ((nth y1_m0 i1).Answers) ((laws_markCallS ((nth y1_m0 i1).Calls) (IntKind.i64.wrap (IntKind.i64.wrap (IntKind.i64.wrap (IntKind.i64.wrap (s1_1 + 1) + 1) + 1) + 1))).2)).2)).1) F76, Ck.own (α := List Answer) [.slice A12_5 ((nth y1_m0 i1).Answers.length) cp12_5] ((laws_markAnswerS ((nth y1_m0 i1).Answers) ((laws_markCallS ((nth y1_m0 i1).Calls) (IntKind.i64.wrap (IntKind.i64.wrap (IntKind.i64.wrap (IntKind.i64.wrap (s1_1 + 1) + 1) + 1) + 1))).2)).1) F66, Ck.own (α := List Call) [.slice A12_4 ((nth y1_m0 i1).Calls.length) cp12_4] ((laws_markCallS ((nth y1_m0 i1).Calls) (IntKind.i64.wrap (IntKind.i64.wrap (IntKind.i64.wrap (IntKind.i64.wrap (s1_1 + 1) + 1) + 1) + 1))).1) F57, Ck.own (α := List Int) [.slice A12_8 ((nth y1_m0 i1).Marks.length) cp12_8] ((nth y1_m0 i1).Marks) F12_8, Ck.elem (α := Tx) g12 i1 cap0 [.int .i64 s1_1, .int .i64 (IntKind.i64.wrap (s1_1 + 1)), .int .i64 (IntKind.i64.wrap (IntKind.i64.wrap (s1_1 + 1) + 1)), .int .i64 (IntKind.i64.wrap (IntKind.i64.wrap (IntKind.i64.wrap (s1_1 + 1) + 1) + 1)), .slice A12_4 ((nth y1_m0 i1).Calls.length) cp12_4, .slice A12_5 ((nth y1_m0 i1).Answers.length) cp12_5, .slice A12_6 ((nth y1_m0 i1).Touch.Reads.length) cp12_6, .slice A12_7 ((nth y1_m0 i1).Touch.Writes.length) cp12_7, .slice A12_8 ((nth y1_m0 i1).Marks.length) cp12_8, .int .i64 ((nth y1_m0 i1).State)] y1_m0 Fo12]) hP86) hR76) rfl rfl fun F86 w86 hR86 hS86 a87 hE87 => st_val hE87 (y_assign hE87 rfl) rfl fun a88 hE88 => wpList_nil ?_
    clear hE78 hE79 hE80 hE81 hE82 hE83 hE84 hE85 hE87
    clear a78 a79 a80 a81 a82 a83 a84 a85 a87
    refine then_normal ?_
    refine wp_seq (wp_region_lit ?_)
    refine st_val hE88 (y_move hE88 rfl) rfl fun a89 hE89 => st_val hE89 (y_move hE89 rfl) rfl fun a90 hE90 => ?_
    refine st_val hE90 (y_indexAddr (A := ⟨g12, 0, none⟩) hE90 (congrArg (fun A => some (Value.slice A p0.length cap0)) hA12) rfl (by omega) (by omega) sl36) rfl fun a91 hE91 => st_val hE91 (y_fieldAddr hE91 rfl fa149_7 rfl) rfl fun a92 hE92 => st_val hE92 (y_load_one hE92 rfl (hS86.elemCells (k := 5) (p := (((i1 : Int)).toNat * 10)) rfl (by rw [Int.toNat_natCast]; rfl)) rfl one134) rfl fun a93 hE93 => st_val hE93 (y_move hE93 rfl) rfl fun a94 hE94 => ?_
    have hP95 : SH (Off [Ck.own (α := List Tx) [.slice A0 p0.length cap0] p0 F0] w) w w86 (Ck.own (α := List Int) [.slice A12_8 ((nth y1_m0 i1).Marks.length) cp12_8] ((nth y1_m0 i1).Marks) F12_8 :: [Ck.own (α := List ByteArray) [.slice A12_7 ((nth y1_m0 i1).Touch.Writes.length) cp12_7] ((laws_markStringS ((nth y1_m0 i1).Touch.Writes) ((laws_markStringS ((nth y1_m0 i1).Touch.Reads) ((laws_markAnswerS ((nth y1_m0 i1).Answers) ((laws_markCallS ((nth y1_m0 i1).Calls) (IntKind.i64.wrap (IntKind.i64.wrap (IntKind.i64.wrap (IntKind.i64.wrap (s1_1 + 1) + 1) + 1) + 1))).2)).2)).2)).1) F86, Ck.own (α := List ByteArray) [.slice A12_6 ((nth y1_m0 i1).Touch.Reads.length) cp12_6] ((laws_markStringS ((nth y1_m0 i1).Touch.Reads) ((laws_markAnswerS ((nth y1_m0 i1).Answers) ((laws_markCallS ((nth y1_m0 i1).Calls) (IntKind.i64.wrap (IntKind.i64.wrap (IntKind.i64.wrap (IntKind.i64.wrap (s1_1 + 1) + 1) + 1) + 1))).2)).2)).1) F76, Ck.own (α := List Answer) [.slice A12_5 ((nth y1_m0 i1).Answers.length) cp12_5] ((laws_markAnswerS ((nth y1_m0 i1).Answers) ((laws_markCallS ((nth y1_m0 i1).Calls) (IntKind.i64.wrap (IntKind.i64.wrap (IntKind.i64.wrap (IntKind.i64.wrap (s1_1 + 1) + 1) + 1) + 1))).2)).1) F66, Ck.own (α := List Call) [.slice A12_4 ((nth y1_m0 i1).Calls.length) cp12_4] ((laws_markCallS ((nth y1_m0 i1).Calls) (IntKind.i64.wrap (IntKind.i64.wrap (IntKind.i64.wrap (IntKind.i64.wrap (s1_1 + 1) + 1) + 1) + 1))).1) F57, Ck.elem (α := Tx) g12 i1 cap0 [.int .i64 s1_1, .int .i64 (IntKind.i64.wrap (s1_1 + 1)), .int .i64 (IntKind.i64.wrap (IntKind.i64.wrap (s1_1 + 1) + 1)), .int .i64 (IntKind.i64.wrap (IntKind.i64.wrap (IntKind.i64.wrap (s1_1 + 1) + 1) + 1)), .slice A12_4 ((nth y1_m0 i1).Calls.length) cp12_4, .slice A12_5 ((nth y1_m0 i1).Answers.length) cp12_5, .slice A12_6 ((nth y1_m0 i1).Touch.Reads.length) cp12_6, .slice A12_7 ((nth y1_m0 i1).Touch.Writes.length) cp12_7, .slice A12_8 ((nth y1_m0 i1).Marks.length) cp12_8, .int .i64 ((nth y1_m0 i1).State)] y1_m0 Fo12]) := (hS86.pick [4, 0, 1, 2, 3, 5] (by decide) rfl)
    refine st_callM (c := Ck.own (α := List Int) [.slice A12_8 ((nth y1_m0 i1).Marks.length) cp12_8] ((nth y1_m0 i1).Marks) F12_8) (c' := fun F95 => Ck.own (α := List Int) [.slice A12_8 ((nth y1_m0 i1).Marks.length) cp12_8] ((laws_markIntS ((nth y1_m0 i1).Marks) ((laws_markStringS ((nth y1_m0 i1).Touch.Writes) ((laws_markStringS ((nth y1_m0 i1).Touch.Reads) ((laws_markAnswerS ((nth y1_m0 i1).Answers) ((laws_markCallS ((nth y1_m0 i1).Calls) (IntKind.i64.wrap (IntKind.i64.wrap (IntKind.i64.wrap (IntKind.i64.wrap (s1_1 + 1) + 1) + 1) + 1))).2)).2)).2)).2)).1) F95) (R := I64 (laws_markIntS ((nth y1_m0 i1).Marks) ((laws_markStringS ((nth y1_m0 i1).Touch.Writes) ((laws_markStringS ((nth y1_m0 i1).Touch.Reads) ((laws_markAnswerS ((nth y1_m0 i1).Answers) ((laws_markCallS ((nth y1_m0 i1).Calls) (IntKind.i64.wrap (IntKind.i64.wrap (IntKind.i64.wrap (IntKind.i64.wrap (s1_1 + 1) + 1) + 1) + 1))).2)).2)).2)).2)).2) hE94 hP95 Tryz.func140 fb140 fn140 (c_laws_markIntS ((nth y1_m0 i1).Marks) ((laws_markStringS ((nth y1_m0 i1).Touch.Writes) ((laws_markStringS ((nth y1_m0 i1).Touch.Reads) ((laws_markAnswerS ((nth y1_m0 i1).Answers) ((laws_markCallS ((nth y1_m0 i1).Calls) (IntKind.i64.wrap (IntKind.i64.wrap (IntKind.i64.wrap (IntKind.i64.wrap (s1_1 + 1) + 1) + 1) + 1))).2)).2)).2)).2) (SH.off (M := [Ck.own (α := List Int) [.slice A12_8 ((nth y1_m0 i1).Marks.length) cp12_8] ((nth y1_m0 i1).Marks) F12_8]) (R := [Ck.own (α := List ByteArray) [.slice A12_7 ((nth y1_m0 i1).Touch.Writes.length) cp12_7] ((laws_markStringS ((nth y1_m0 i1).Touch.Writes) ((laws_markStringS ((nth y1_m0 i1).Touch.Reads) ((laws_markAnswerS ((nth y1_m0 i1).Answers) ((laws_markCallS ((nth y1_m0 i1).Calls) (IntKind.i64.wrap (IntKind.i64.wrap (IntKind.i64.wrap (IntKind.i64.wrap (s1_1 + 1) + 1) + 1) + 1))).2)).2)).2)).1) F86, Ck.own (α := List ByteArray) [.slice A12_6 ((nth y1_m0 i1).Touch.Reads.length) cp12_6] ((laws_markStringS ((nth y1_m0 i1).Touch.Reads) ((laws_markAnswerS ((nth y1_m0 i1).Answers) ((laws_markCallS ((nth y1_m0 i1).Calls) (IntKind.i64.wrap (IntKind.i64.wrap (IntKind.i64.wrap (IntKind.i64.wrap (s1_1 + 1) + 1) + 1) + 1))).2)).2)).1) F76, Ck.own (α := List Answer) [.slice A12_5 ((nth y1_m0 i1).Answers.length) cp12_5] ((laws_markAnswerS ((nth y1_m0 i1).Answers) ((laws_markCallS ((nth y1_m0 i1).Calls) (IntKind.i64.wrap (IntKind.i64.wrap (IntKind.i64.wrap (IntKind.i64.wrap (s1_1 + 1) + 1) + 1) + 1))).2)).1) F66, Ck.own (α := List Call) [.slice A12_4 ((nth y1_m0 i1).Calls.length) cp12_4] ((laws_markCallS ((nth y1_m0 i1).Calls) (IntKind.i64.wrap (IntKind.i64.wrap (IntKind.i64.wrap (IntKind.i64.wrap (s1_1 + 1) + 1) + 1) + 1))).1) F57, Ck.elem (α := Tx) g12 i1 cap0 [.int .i64 s1_1, .int .i64 (IntKind.i64.wrap (s1_1 + 1)), .int .i64 (IntKind.i64.wrap (IntKind.i64.wrap (s1_1 + 1) + 1)), .int .i64 (IntKind.i64.wrap (IntKind.i64.wrap (IntKind.i64.wrap (s1_1 + 1) + 1) + 1)), .slice A12_4 ((nth y1_m0 i1).Calls.length) cp12_4, .slice A12_5 ((nth y1_m0 i1).Answers.length) cp12_5, .slice A12_6 ((nth y1_m0 i1).Touch.Reads.length) cp12_6, .slice A12_7 ((nth y1_m0 i1).Touch.Writes.length) cp12_7, .slice A12_8 ((nth y1_m0 i1).Marks.length) cp12_8, .int .i64 ((nth y1_m0 i1).State)] y1_m0 Fo12]) hP95) hR86) rfl rfl fun F95 w95 hR95 hS95 a96 hE96 => st_val hE96 (y_assign hE96 rfl) rfl fun a97 hE97 => wpList_nil ?_
    clear hE88 hE89 hE90 hE91 hE92 hE93 hE94 hE96
    clear a88 a89 a90 a91 a92 a93 a94 a96
    refine then_normal ?_
    refine wp_seq (wp_region_lit ?_)
    refine st_val hE97 (y_move hE97 rfl) rfl fun a98 hE98 => st_val hE98 (y_move hE98 rfl) rfl fun a99 hE99 => st_val hE99 (y_move hE99 rfl) rfl fun a100 hE100 => ?_
    refine st_val hE100 (y_indexAddr (A := ⟨g12, 0, none⟩) hE100 (congrArg (fun A => some (Value.slice A p0.length cap0)) hA12) rfl (by omega) (by omega) sl36) rfl fun a101 hE101 => st_val hE101 (y_fieldAddr hE101 rfl fa149_8 rfl) rfl fun a102 hE102 => st_storeE (α := Tx) (k := 5) hE102 hS95 [.int .i64 s1_1, .int .i64 (IntKind.i64.wrap (s1_1 + 1)), .int .i64 (IntKind.i64.wrap (IntKind.i64.wrap (s1_1 + 1) + 1)), .int .i64 (IntKind.i64.wrap (IntKind.i64.wrap (IntKind.i64.wrap (s1_1 + 1) + 1) + 1)), .slice A12_4 ((nth y1_m0 i1).Calls.length) cp12_4, .slice A12_5 ((nth y1_m0 i1).Answers.length) cp12_5, .slice A12_6 ((nth y1_m0 i1).Touch.Reads.length) cp12_6, .slice A12_7 ((nth y1_m0 i1).Touch.Writes.length) cp12_7, .slice A12_8 ((nth y1_m0 i1).Marks.length) cp12_8, .int .i64 ((laws_markIntS ((nth y1_m0 i1).Marks) ((laws_markStringS ((nth y1_m0 i1).Touch.Writes) ((laws_markStringS ((nth y1_m0 i1).Touch.Reads) ((laws_markAnswerS ((nth y1_m0 i1).Answers) ((laws_markCallS ((nth y1_m0 i1).Calls) (IntKind.i64.wrap (IntKind.i64.wrap (IntKind.i64.wrap (IntKind.i64.wrap (s1_1 + 1) + 1) + 1) + 1))).2)).2)).2)).2)).2)] rfl rfl rfl (by rw [Int.toNat_natCast]; rfl) rfl (chkOne_size one3) rfl rfl rfl rfl fun w103 (hS103 : SH (Off [Ck.own (α := List Tx) [.slice A0 p0.length cap0] p0 F0] w) w w103 [Ck.own (α := List Int) [.slice A12_8 ((nth y1_m0 i1).Marks.length) cp12_8] ((laws_markIntS ((nth y1_m0 i1).Marks) ((laws_markStringS ((nth y1_m0 i1).Touch.Writes) ((laws_markStringS ((nth y1_m0 i1).Touch.Reads) ((laws_markAnswerS ((nth y1_m0 i1).Answers) ((laws_markCallS ((nth y1_m0 i1).Calls) (IntKind.i64.wrap (IntKind.i64.wrap (IntKind.i64.wrap (IntKind.i64.wrap (s1_1 + 1) + 1) + 1) + 1))).2)).2)).2)).2)).1) F95, Ck.own (α := List ByteArray) [.slice A12_7 ((nth y1_m0 i1).Touch.Writes.length) cp12_7] ((laws_markStringS ((nth y1_m0 i1).Touch.Writes) ((laws_markStringS ((nth y1_m0 i1).Touch.Reads) ((laws_markAnswerS ((nth y1_m0 i1).Answers) ((laws_markCallS ((nth y1_m0 i1).Calls) (IntKind.i64.wrap (IntKind.i64.wrap (IntKind.i64.wrap (IntKind.i64.wrap (s1_1 + 1) + 1) + 1) + 1))).2)).2)).2)).1) F86, Ck.own (α := List ByteArray) [.slice A12_6 ((nth y1_m0 i1).Touch.Reads.length) cp12_6] ((laws_markStringS ((nth y1_m0 i1).Touch.Reads) ((laws_markAnswerS ((nth y1_m0 i1).Answers) ((laws_markCallS ((nth y1_m0 i1).Calls) (IntKind.i64.wrap (IntKind.i64.wrap (IntKind.i64.wrap (IntKind.i64.wrap (s1_1 + 1) + 1) + 1) + 1))).2)).2)).1) F76, Ck.own (α := List Answer) [.slice A12_5 ((nth y1_m0 i1).Answers.length) cp12_5] ((laws_markAnswerS ((nth y1_m0 i1).Answers) ((laws_markCallS ((nth y1_m0 i1).Calls) (IntKind.i64.wrap (IntKind.i64.wrap (IntKind.i64.wrap (IntKind.i64.wrap (s1_1 + 1) + 1) + 1) + 1))).2)).1) F66, Ck.own (α := List Call) [.slice A12_4 ((nth y1_m0 i1).Calls.length) cp12_4] ((laws_markCallS ((nth y1_m0 i1).Calls) (IntKind.i64.wrap (IntKind.i64.wrap (IntKind.i64.wrap (IntKind.i64.wrap (s1_1 + 1) + 1) + 1) + 1))).1) F57, Ck.elem (α := Tx) g12 i1 cap0 [.int .i64 s1_1, .int .i64 (IntKind.i64.wrap (s1_1 + 1)), .int .i64 (IntKind.i64.wrap (IntKind.i64.wrap (s1_1 + 1) + 1)), .int .i64 (IntKind.i64.wrap (IntKind.i64.wrap (IntKind.i64.wrap (s1_1 + 1) + 1) + 1)), .slice A12_4 ((nth y1_m0 i1).Calls.length) cp12_4, .slice A12_5 ((nth y1_m0 i1).Answers.length) cp12_5, .slice A12_6 ((nth y1_m0 i1).Touch.Reads.length) cp12_6, .slice A12_7 ((nth y1_m0 i1).Touch.Writes.length) cp12_7, .slice A12_8 ((nth y1_m0 i1).Marks.length) cp12_8, .int .i64 ((laws_markIntS ((nth y1_m0 i1).Marks) ((laws_markStringS ((nth y1_m0 i1).Touch.Writes) ((laws_markStringS ((nth y1_m0 i1).Touch.Reads) ((laws_markAnswerS ((nth y1_m0 i1).Answers) ((laws_markCallS ((nth y1_m0 i1).Calls) (IntKind.i64.wrap (IntKind.i64.wrap (IntKind.i64.wrap (IntKind.i64.wrap (s1_1 + 1) + 1) + 1) + 1))).2)).2)).2)).2)).2)] y1_m0 Fo12]) a104 hE104 => wpList_nil ?_
    clear hE97 hE98 hE99 hE100 hE101 hE102
    clear a97 a98 a99 a100 a101 a102
    refine then_normal ?_
    refine wp_region_lit ?_
    refine st_val hE104 (y_move hE104 rfl) rfl fun a105 hE105 => st_val hE105 (y_add hE105 rfl rfl) rfl fun a106 hE106 => st_val hE106 (y_assign hE106 rfl) rfl fun a107 hE107 => wpList_nil ?_
    clear hE104 hE105 hE106
    clear a104 a105 a106
    refine blk_normal ?_
    refine then_normal ?_
    refine wp_region_lit ?_
    refine st_val hE107 (y_move hE107 rfl) rfl fun a108 hE108 => st_val hE108 (y_add_in hE108 rfl rfl (m := ((i1 + 1 : Nat) : Int)) (by omega) (by omega) (by omega)) rfl fun a109 hE109 => st_val hE109 (y_assign hE109 rfl) rfl fun a110 hE110 => wpList_nil ?_
    clear hE107 hE108 hE109
    clear a107 a108 a109
    have hJ111 := SH.joinP (L := [Ck.elem (α := Tx) g12 i1 cap0 [.int .i64 s1_1, .int .i64 (IntKind.i64.wrap (s1_1 + 1)), .int .i64 (IntKind.i64.wrap (IntKind.i64.wrap (s1_1 + 1) + 1)), .int .i64 (IntKind.i64.wrap (IntKind.i64.wrap (IntKind.i64.wrap (s1_1 + 1) + 1) + 1)), .slice A12_4 ((nth y1_m0 i1).Calls.length) cp12_4, .slice A12_5 ((nth y1_m0 i1).Answers.length) cp12_5, .slice A12_6 ((nth y1_m0 i1).Touch.Reads.length) cp12_6, .slice A12_7 ((nth y1_m0 i1).Touch.Writes.length) cp12_7, .slice A12_8 ((nth y1_m0 i1).Marks.length) cp12_8, .int .i64 ((laws_markIntS ((nth y1_m0 i1).Marks) ((laws_markStringS ((nth y1_m0 i1).Touch.Writes) ((laws_markStringS ((nth y1_m0 i1).Touch.Reads) ((laws_markAnswerS ((nth y1_m0 i1).Answers) ((laws_markCallS ((nth y1_m0 i1).Calls) (IntKind.i64.wrap (IntKind.i64.wrap (IntKind.i64.wrap (IntKind.i64.wrap (s1_1 + 1) + 1) + 1) + 1))).2)).2)).2)).2)).2)] y1_m0 Fo12]) (M := [Ck.own (α := List Call) [.slice A12_4 ((nth y1_m0 i1).Calls.length) cp12_4] ((laws_markCallS ((nth y1_m0 i1).Calls) (IntKind.i64.wrap (IntKind.i64.wrap (IntKind.i64.wrap (IntKind.i64.wrap (s1_1 + 1) + 1) + 1) + 1))).1) F57, Ck.own (α := List Answer) [.slice A12_5 ((nth y1_m0 i1).Answers.length) cp12_5] ((laws_markAnswerS ((nth y1_m0 i1).Answers) ((laws_markCallS ((nth y1_m0 i1).Calls) (IntKind.i64.wrap (IntKind.i64.wrap (IntKind.i64.wrap (IntKind.i64.wrap (s1_1 + 1) + 1) + 1) + 1))).2)).1) F66, Ck.own (α := List ByteArray) [.slice A12_6 ((nth y1_m0 i1).Touch.Reads.length) cp12_6] ((laws_markStringS ((nth y1_m0 i1).Touch.Reads) ((laws_markAnswerS ((nth y1_m0 i1).Answers) ((laws_markCallS ((nth y1_m0 i1).Calls) (IntKind.i64.wrap (IntKind.i64.wrap (IntKind.i64.wrap (IntKind.i64.wrap (s1_1 + 1) + 1) + 1) + 1))).2)).2)).1) F76, Ck.own (α := List ByteArray) [.slice A12_7 ((nth y1_m0 i1).Touch.Writes.length) cp12_7] ((laws_markStringS ((nth y1_m0 i1).Touch.Writes) ((laws_markStringS ((nth y1_m0 i1).Touch.Reads) ((laws_markAnswerS ((nth y1_m0 i1).Answers) ((laws_markCallS ((nth y1_m0 i1).Calls) (IntKind.i64.wrap (IntKind.i64.wrap (IntKind.i64.wrap (IntKind.i64.wrap (s1_1 + 1) + 1) + 1) + 1))).2)).2)).2)).1) F86, Ck.own (α := List Int) [.slice A12_8 ((nth y1_m0 i1).Marks.length) cp12_8] ((laws_markIntS ((nth y1_m0 i1).Marks) ((laws_markStringS ((nth y1_m0 i1).Touch.Writes) ((laws_markStringS ((nth y1_m0 i1).Touch.Reads) ((laws_markAnswerS ((nth y1_m0 i1).Answers) ((laws_markCallS ((nth y1_m0 i1).Calls) (IntKind.i64.wrap (IntKind.i64.wrap (IntKind.i64.wrap (IntKind.i64.wrap (s1_1 + 1) + 1) + 1) + 1))).2)).2)).2)).2)).1) F95]) (c := Ck.own (α := Tx) [.int .i64 s1_1, .int .i64 (IntKind.i64.wrap (s1_1 + 1)), .int .i64 (IntKind.i64.wrap (IntKind.i64.wrap (s1_1 + 1) + 1)), .int .i64 (IntKind.i64.wrap (IntKind.i64.wrap (IntKind.i64.wrap (s1_1 + 1) + 1) + 1)), .slice A12_4 ((nth y1_m0 i1).Calls.length) cp12_4, .slice A12_5 ((nth y1_m0 i1).Answers.length) cp12_5, .slice A12_6 ((nth y1_m0 i1).Touch.Reads.length) cp12_6, .slice A12_7 ((nth y1_m0 i1).Touch.Writes.length) cp12_7, .slice A12_8 ((nth y1_m0 i1).Marks.length) cp12_8, .int .i64 ((laws_markIntS ((nth y1_m0 i1).Marks) ((laws_markStringS ((nth y1_m0 i1).Touch.Writes) ((laws_markStringS ((nth y1_m0 i1).Touch.Reads) ((laws_markAnswerS ((nth y1_m0 i1).Answers) ((laws_markCallS ((nth y1_m0 i1).Calls) (IntKind.i64.wrap (IntKind.i64.wrap (IntKind.i64.wrap (IntKind.i64.wrap (s1_1 + 1) + 1) + 1) + 1))).2)).2)).2)).2)).2)] (Tx.mk s1_1 (IntKind.i64.wrap (s1_1 + 1)) (IntKind.i64.wrap (IntKind.i64.wrap (s1_1 + 1) + 1)) (IntKind.i64.wrap (IntKind.i64.wrap (IntKind.i64.wrap (s1_1 + 1) + 1) + 1)) ((laws_markCallS ((nth y1_m0 i1).Calls) (IntKind.i64.wrap (IntKind.i64.wrap (IntKind.i64.wrap (IntKind.i64.wrap (s1_1 + 1) + 1) + 1) + 1))).1) ((laws_markAnswerS ((nth y1_m0 i1).Answers) ((laws_markCallS ((nth y1_m0 i1).Calls) (IntKind.i64.wrap (IntKind.i64.wrap (IntKind.i64.wrap (IntKind.i64.wrap (s1_1 + 1) + 1) + 1) + 1))).2)).1) (Touch.mk ((laws_markStringS ((nth y1_m0 i1).Touch.Reads) ((laws_markAnswerS ((nth y1_m0 i1).Answers) ((laws_markCallS ((nth y1_m0 i1).Calls) (IntKind.i64.wrap (IntKind.i64.wrap (IntKind.i64.wrap (IntKind.i64.wrap (s1_1 + 1) + 1) + 1) + 1))).2)).2)).1) ((laws_markStringS ((nth y1_m0 i1).Touch.Writes) ((laws_markStringS ((nth y1_m0 i1).Touch.Reads) ((laws_markAnswerS ((nth y1_m0 i1).Answers) ((laws_markCallS ((nth y1_m0 i1).Calls) (IntKind.i64.wrap (IntKind.i64.wrap (IntKind.i64.wrap (IntKind.i64.wrap (s1_1 + 1) + 1) + 1) + 1))).2)).2)).2)).1)) ((laws_markIntS ((nth y1_m0 i1).Marks) ((laws_markStringS ((nth y1_m0 i1).Touch.Writes) ((laws_markStringS ((nth y1_m0 i1).Touch.Reads) ((laws_markAnswerS ((nth y1_m0 i1).Answers) ((laws_markCallS ((nth y1_m0 i1).Calls) (IntKind.i64.wrap (IntKind.i64.wrap (IntKind.i64.wrap (IntKind.i64.wrap (s1_1 + 1) + 1) + 1) + 1))).2)).2)).2)).2)).1) ((laws_markIntS ((nth y1_m0 i1).Marks) ((laws_markStringS ((nth y1_m0 i1).Touch.Writes) ((laws_markStringS ((nth y1_m0 i1).Touch.Reads) ((laws_markAnswerS ((nth y1_m0 i1).Answers) ((laws_markCallS ((nth y1_m0 i1).Calls) (IntKind.i64.wrap (IntKind.i64.wrap (IntKind.i64.wrap (IntKind.i64.wrap (s1_1 + 1) + 1) + 1) + 1))).2)).2)).2)).2)).2)) (F57 ++ (F66 ++ ((F76 ++ F86) ++ (F95 ++ []))))) (hS103.pick [4, 3, 2, 1, 0, 5] (by decide) rfl) (List.Perm.of_eq (by simp only [Ck.own, List.flatMap_cons, List.flatMap_nil, List.append_nil, List.append_assoc])) (ok_st (Tx_own (x := (Tx.mk s1_1 (IntKind.i64.wrap (s1_1 + 1)) (IntKind.i64.wrap (IntKind.i64.wrap (s1_1 + 1) + 1)) (IntKind.i64.wrap (IntKind.i64.wrap (IntKind.i64.wrap (s1_1 + 1) + 1) + 1)) ((laws_markCallS ((nth y1_m0 i1).Calls) (IntKind.i64.wrap (IntKind.i64.wrap (IntKind.i64.wrap (IntKind.i64.wrap (s1_1 + 1) + 1) + 1) + 1))).1) ((laws_markAnswerS ((nth y1_m0 i1).Answers) ((laws_markCallS ((nth y1_m0 i1).Calls) (IntKind.i64.wrap (IntKind.i64.wrap (IntKind.i64.wrap (IntKind.i64.wrap (s1_1 + 1) + 1) + 1) + 1))).2)).1) (Touch.mk ((laws_markStringS ((nth y1_m0 i1).Touch.Reads) ((laws_markAnswerS ((nth y1_m0 i1).Answers) ((laws_markCallS ((nth y1_m0 i1).Calls) (IntKind.i64.wrap (IntKind.i64.wrap (IntKind.i64.wrap (IntKind.i64.wrap (s1_1 + 1) + 1) + 1) + 1))).2)).2)).1) ((laws_markStringS ((nth y1_m0 i1).Touch.Writes) ((laws_markStringS ((nth y1_m0 i1).Touch.Reads) ((laws_markAnswerS ((nth y1_m0 i1).Answers) ((laws_markCallS ((nth y1_m0 i1).Calls) (IntKind.i64.wrap (IntKind.i64.wrap (IntKind.i64.wrap (IntKind.i64.wrap (s1_1 + 1) + 1) + 1) + 1))).2)).2)).2)).1)) ((laws_markIntS ((nth y1_m0 i1).Marks) ((laws_markStringS ((nth y1_m0 i1).Touch.Writes) ((laws_markStringS ((nth y1_m0 i1).Touch.Reads) ((laws_markAnswerS ((nth y1_m0 i1).Answers) ((laws_markCallS ((nth y1_m0 i1).Calls) (IntKind.i64.wrap (IntKind.i64.wrap (IntKind.i64.wrap (IntKind.i64.wrap (s1_1 + 1) + 1) + 1) + 1))).2)).2)).2)).2)).1) ((laws_markIntS ((nth y1_m0 i1).Marks) ((laws_markStringS ((nth y1_m0 i1).Touch.Writes) ((laws_markStringS ((nth y1_m0 i1).Touch.Reads) ((laws_markAnswerS ((nth y1_m0 i1).Answers) ((laws_markCallS ((nth y1_m0 i1).Calls) (IntKind.i64.wrap (IntKind.i64.wrap (IntKind.i64.wrap (IntKind.i64.wrap (s1_1 + 1) + 1) + 1) + 1))).2)).2)).2)).2)).2))) hgis1_1 (I64_wrap _) (I64_wrap _) (I64_wrap _) (hS103.slO (k := 4) rfl) (hS103.slO (k := 3) rfl) (hS103.slO (k := 2) rfl) (hS103.slO (k := 1) rfl) (hS103.slO (k := 0) rfl) hR95))
    obtain ⟨F111, hS111⟩ := SH.unfocus (α := Tx) (L := []) hJ111 hA12 hn12 (by omega)
    refine then_normal ⟨fu1, Nat.lt_succ_self _, (i1 + 1), IntKind.i64.wrap ((laws_markIntS ((nth y1_m0 i1).Marks) ((laws_markStringS ((nth y1_m0 i1).Touch.Writes) ((laws_markStringS ((nth y1_m0 i1).Touch.Reads) ((laws_markAnswerS ((nth y1_m0 i1).Answers) ((laws_markCallS ((nth y1_m0 i1).Calls) (IntKind.i64.wrap (IntKind.i64.wrap (IntKind.i64.wrap (IntKind.i64.wrap (s1_1 + 1) + 1) + 1) + 1))).2)).2)).2)).2)).2 + 1), (y1_m0.set i1 (Tx.mk s1_1 (IntKind.i64.wrap (s1_1 + 1)) (IntKind.i64.wrap (IntKind.i64.wrap (s1_1 + 1) + 1)) (IntKind.i64.wrap (IntKind.i64.wrap (IntKind.i64.wrap (s1_1 + 1) + 1) + 1)) ((laws_markCallS ((nth y1_m0 i1).Calls) (IntKind.i64.wrap (IntKind.i64.wrap (IntKind.i64.wrap (IntKind.i64.wrap (s1_1 + 1) + 1) + 1) + 1))).1) ((laws_markAnswerS ((nth y1_m0 i1).Answers) ((laws_markCallS ((nth y1_m0 i1).Calls) (IntKind.i64.wrap (IntKind.i64.wrap (IntKind.i64.wrap (IntKind.i64.wrap (s1_1 + 1) + 1) + 1) + 1))).2)).1) (Touch.mk ((laws_markStringS ((nth y1_m0 i1).Touch.Reads) ((laws_markAnswerS ((nth y1_m0 i1).Answers) ((laws_markCallS ((nth y1_m0 i1).Calls) (IntKind.i64.wrap (IntKind.i64.wrap (IntKind.i64.wrap (IntKind.i64.wrap (s1_1 + 1) + 1) + 1) + 1))).2)).2)).1) ((laws_markStringS ((nth y1_m0 i1).Touch.Writes) ((laws_markStringS ((nth y1_m0 i1).Touch.Reads) ((laws_markAnswerS ((nth y1_m0 i1).Answers) ((laws_markCallS ((nth y1_m0 i1).Calls) (IntKind.i64.wrap (IntKind.i64.wrap (IntKind.i64.wrap (IntKind.i64.wrap (s1_1 + 1) + 1) + 1) + 1))).2)).2)).2)).1)) ((laws_markIntS ((nth y1_m0 i1).Marks) ((laws_markStringS ((nth y1_m0 i1).Touch.Writes) ((laws_markStringS ((nth y1_m0 i1).Touch.Reads) ((laws_markAnswerS ((nth y1_m0 i1).Answers) ((laws_markCallS ((nth y1_m0 i1).Calls) (IntKind.i64.wrap (IntKind.i64.wrap (IntKind.i64.wrap (IntKind.i64.wrap (s1_1 + 1) + 1) + 1) + 1))).2)).2)).2)).2)).1) ((laws_markIntS ((nth y1_m0 i1).Marks) ((laws_markStringS ((nth y1_m0 i1).Touch.Writes) ((laws_markStringS ((nth y1_m0 i1).Touch.Reads) ((laws_markAnswerS ((nth y1_m0 i1).Answers) ((laws_markCallS ((nth y1_m0 i1).Calls) (IntKind.i64.wrap (IntKind.i64.wrap (IntKind.i64.wrap (IntKind.i64.wrap (s1_1 + 1) + 1) + 1) + 1))).2)).2)).2)).2)).2))), F111, by omega, by omega, .inl (by omega), (I64_wrap _), hM, hE110.weaken ⟨rfl, rfl, rfl, trivial⟩, hS111⟩
  ·
    have hge1 : ¬ i1 < p0.length := by have := of_decide_eq_false hb8; omega
    obtain rfl : fu1 = 0 := by omega
    have hM := hM.trans (laws_markTxS_l1.eq_1 _ _ _ _ _)
    refine wp_exit ?_
    refine then_exit ?_
    refine then_exit ?_
    refine blk_exit ?_
    refine then_normal ?_
    refine wp_seq (wp_region_lit ?_)
    refine st_val hE7 (y_move hE7 rfl) rfl fun a112 hE112 => st_val hE112 (y_assign hE112 rfl) rfl fun a113 hE113 => wpList_nil ?_
    clear hE7 hE112
    clear a7 a112
    refine then_normal ?_
    refine wp_ret ?_
    refine fin1 hE113 rfl rfl ?_
    rw [hM]
    exact ⟨rfl, hgis1_1, Fy1_m0, hS3⟩

/- F141 loop.example/g00974/laws.markSlotS -/
def laws_markSlotS_l1 (p0 : List Slot) (p1 : Int) : Nat → Nat → Int → List Slot → List Slot × Int
  | 0, i1, s1_1, y1_m0 => (y1_m0, s1_1)
  | fu1 + 1, i1, s1_1, y1_m0 => laws_markSlotS_l1 p0 p1 fu1 (i1 + 1) (IntKind.i64.wrap ((laws_markCellS ((nth y1_m0 i1).Cells) (IntKind.i64.wrap (s1_1 + 1))).2 + 1)) (y1_m0.set i1 (Slot.mk s1_1 ((laws_markCellS ((nth y1_m0 i1).Cells) (IntKind.i64.wrap (s1_1 + 1))).1) (decide (Int.tmod ((laws_markCellS ((nth y1_m0 i1).Cells) (IntKind.i64.wrap (s1_1 + 1))).2) 3 = 0))))
def laws_markSlotS (p0 : List Slot) (p1 : Int) : List Slot × Int := laws_markSlotS_l1 p0 p1 (p0.length - 0) 0 p1 p0
theorem c_laws_markSlotS {v0 : Value} (p0 : List Slot) {F0 : List Nat} (p1 : Int) {w : World} (hMu0 : SH (Off [Ck.own (α := List Slot) [v0] p0 F0] w) w w [Ck.own (α := List Slot) [v0] p0 F0]) (hi1 : I64 p1) :
    Calls Tryz.prog 141 [v0, .int .i64 p1].toArray w (fun e w' => e = .returned (.int .i64 (laws_markSlotS p0 p1).2) ∧ I64 (laws_markSlotS p0 p1).2 ∧ ∃ F', SH (Off [Ck.own (α := List Slot) [v0] p0 F0] w) w w' [Ck.own (α := List Slot) [v0] (laws_markSlotS p0 p1).1 F']) := by
  obtain ⟨A0, cap0, rfl, hx0⟩ := (hMu0.slO (k := 0) rfl).form
  refine enter Tryz.func141 rfl Tryz.ntmps141 (Nat.le_of_ble_eq_true rfl) ?_
  intro a0 hE0
  have hS0 := hMu0
  have hM := laws_markSlotS.eq_1 p0 p1
  have hij1 : -9223372036854775808 ≤ p1 ∧ p1 ≤ 9223372036854775807 := hi1
  refine wp_seq (wp_region_lit ?_)
  refine st_val hE0 (y_assign hE0 rfl) rfl fun a1 hE1 => wpList_nil ?_
  clear hE0
  clear a0
  refine then_normal ?_
  refine wp_seq (wp_seq (wp_region_lit ?_))
  refine st_val hE1 (y_assign hE1 rfl) rfl fun a2 hE2 => wpList_nil ?_
  clear hE1
  clear a1
  refine then_normal ?_
  refine wp_block (wp_loop_ghost (fun fu1 a w2 => ∃ (i1 : Nat) (s1_1 : Int) (y1_m0 : List Slot) (Fy1_m0 : List Nat), 0 ≤ i1 ∧ fu1 = p0.length - i1 ∧ (i1 ≤ p0.length ∨ i1 = 0) ∧ I64 s1_1 ∧ laws_markSlotS p0 p1 = laws_markSlotS_l1 p0 p1 fu1 i1 s1_1 y1_m0 ∧ Env 36 [(0, .slice A0 p0.length cap0), (1, .int .i64 s1_1), (5, .int .i64 (i1 : Int))] a ∧ SH (Off [Ck.own (α := List Slot) [.slice A0 p0.length cap0] p0 F0] w) w w2 [Ck.own (α := List Slot) [.slice A0 p0.length cap0] y1_m0 Fy1_m0]) (p0.length - 0) ⟨0, p1, p0, F0, Nat.le_refl _, rfl, .inr rfl, hi1, hM, hE2.weaken ⟨rfl, rfl, rfl, trivial⟩, hS0⟩ ?_)
  clear hM hE2
  rintro fu1 a3 w3 ⟨i1, s1_1, y1_m0, Fy1_m0, hi1, hfu1, hup1, hgis1_1, hM, hE3, hS3⟩
  have hlry1_m0 := hS3.lenrow (k := 0) rfl
  refine wp_seq (wp_seq (wp_region_lit ?_))
  refine st_val hE3 (y_move hE3 rfl) rfl fun a4 hE4 => st_val hE4 (y_move hE4 rfl) rfl fun a5 hE5 => st_val hE5 (y_len_slice hE5 rfl sl37) rfl fun a6 hE6 => st_val hE6 (y_lss hE6 rfl rfl) rfl fun a7 hE7 => wpList_nil ?_
  clear hE3 hE4 hE5 hE6
  clear a3 a4 a5 a6
  refine then_normal ?_
  refine cond_split hE7 rfl (fun hb8 => ?_) (fun hb8 => ?_)
  ·
    have hlt1 : i1 < p0.length := by have := of_decide_eq_true hb8; omega
    obtain ⟨fu1, rfl⟩ : ∃ m, fu1 = m + 1 := ⟨fu1 - 1, by omega⟩
    have hM := hM.trans (laws_markSlotS_l1.eq_2 _ _ _ _ _ _)
    refine wp_skip ?_
    refine then_normal ?_
    refine wp_seq (wp_block (wp_seq (wp_region_lit ?_)))
    refine st_val hE7 (y_move hE7 rfl) rfl fun a9 hE9 => st_val hE9 (y_move hE9 rfl) rfl fun a10 hE10 => st_val hE10 (y_move hE10 rfl) rfl fun a11 hE11 => ?_
    clear hE7 hE9 hE10
    clear a7 a9 a10
    have hlr12 := hS3.lenrow (k := 0) rfl
    obtain ⟨g12, ce12, Fo12, G12, hA12, hn12, hF12⟩ := SH.focus (L := []) hS3 (i := i1) (by omega)
    obtain ⟨v12_1, F12_1, rfl, rfl, hg12_0, ho12_1, _⟩ := Slot_oopen (show Dat.own w3 ce12 (nth y1_m0 i1) G12 from hF12.get (k := 0) rfl)
    obtain ⟨A12_1, cp12_1, rfl, hx12_1⟩ := ho12_1.form
    have hS13 := hF12.split [Ck.own (α := List Cell) [.slice A12_1 ((nth y1_m0 i1).Cells.length) cp12_1] ((nth y1_m0 i1).Cells) F12_1] (by simp only [Ck.own, List.flatMap_cons, List.flatMap_nil, List.append_nil, List.append_assoc]) (oks_cons (ok_sl ho12_1) oks_nil)
    simp only [List.cons_append, List.nil_append] at hS13
    refine st_val hE11 (y_indexAddr (A := ⟨g12, 0, none⟩) hE11 (congrArg (fun A => some (Value.slice A p0.length cap0)) hA12) rfl (by omega) (by omega) sl37) rfl fun a14 hE14 => st_val hE14 (y_fieldAddr hE14 rfl fa211_0 rfl) rfl fun a15 hE15 => st_storeE (α := Slot) (k := 1) hE15 hS13 [.int .i64 s1_1, .slice A12_1 ((nth y1_m0 i1).Cells.length) cp12_1, .bool ((nth y1_m0 i1).Whole)] rfl rfl rfl (by rw [Int.toNat_natCast]; rfl) rfl (chkOne_size one3) rfl rfl rfl rfl fun w16 (hS16 : SH (Off [Ck.own (α := List Slot) [.slice A0 p0.length cap0] p0 F0] w) w w16 [Ck.own (α := List Cell) [.slice A12_1 ((nth y1_m0 i1).Cells.length) cp12_1] ((nth y1_m0 i1).Cells) F12_1, Ck.elem (α := Slot) g12 i1 cap0 [.int .i64 s1_1, .slice A12_1 ((nth y1_m0 i1).Cells.length) cp12_1, .bool ((nth y1_m0 i1).Whole)] y1_m0 Fo12]) a17 hE17 => wpList_nil ?_
    clear hE11 hE14 hE15
    clear a11 a14 a15
    refine then_normal ?_
    refine wp_seq (wp_region_lit ?_)
    refine st_val hE17 (y_move hE17 rfl) rfl fun a18 hE18 => st_val hE18 (y_add hE18 rfl rfl) rfl fun a19 hE19 => st_val hE19 (y_assign hE19 rfl) rfl fun a20 hE20 => wpList_nil ?_
    clear hE17 hE18 hE19
    clear a17 a18 a19
    refine then_normal ?_
    refine wp_seq (wp_region_lit ?_)
    refine st_val hE20 (y_move hE20 rfl) rfl fun a21 hE21 => st_val hE21 (y_move hE21 rfl) rfl fun a22 hE22 => ?_
    refine st_val hE22 (y_indexAddr (A := ⟨g12, 0, none⟩) hE22 (congrArg (fun A => some (Value.slice A p0.length cap0)) hA12) rfl (by omega) (by omega) sl37) rfl fun a23 hE23 => st_val hE23 (y_fieldAddr hE23 rfl fa211_1 rfl) rfl fun a24 hE24 => st_val hE24 (y_load_one hE24 rfl (hS16.elemCells (k := 1) (p := (((i1 : Int)).toNat * 3)) rfl (by rw [Int.toNat_natCast]; rfl)) rfl one35) rfl fun a25 hE25 => st_val hE25 (y_move hE25 rfl) rfl fun a26 hE26 => ?_
    have hP27 : SH (Off [Ck.own (α := List Slot) [.slice A0 p0.length cap0] p0 F0] w) w w16 (Ck.own (α := List Cell) [.slice A12_1 ((nth y1_m0 i1).Cells.length) cp12_1] ((nth y1_m0 i1).Cells) F12_1 :: [Ck.elem (α := Slot) g12 i1 cap0 [.int .i64 s1_1, .slice A12_1 ((nth y1_m0 i1).Cells.length) cp12_1, .bool ((nth y1_m0 i1).Whole)] y1_m0 Fo12]) := hS16
    refine st_callM (c := Ck.own (α := List Cell) [.slice A12_1 ((nth y1_m0 i1).Cells.length) cp12_1] ((nth y1_m0 i1).Cells) F12_1) (c' := fun F27 => Ck.own (α := List Cell) [.slice A12_1 ((nth y1_m0 i1).Cells.length) cp12_1] ((laws_markCellS ((nth y1_m0 i1).Cells) (IntKind.i64.wrap (s1_1 + 1))).1) F27) (R := I64 (laws_markCellS ((nth y1_m0 i1).Cells) (IntKind.i64.wrap (s1_1 + 1))).2) hE26 hP27 Tryz.func66 fb66 fn66 (c_laws_markCellS ((nth y1_m0 i1).Cells) (IntKind.i64.wrap (s1_1 + 1)) (SH.off (M := [Ck.own (α := List Cell) [.slice A12_1 ((nth y1_m0 i1).Cells.length) cp12_1] ((nth y1_m0 i1).Cells) F12_1]) (R := [Ck.elem (α := Slot) g12 i1 cap0 [.int .i64 s1_1, .slice A12_1 ((nth y1_m0 i1).Cells.length) cp12_1, .bool ((nth y1_m0 i1).Whole)] y1_m0 Fo12]) hP27) (I64_wrap _)) rfl rfl fun F27 w27 hR27 hS27 a28 hE28 => st_val hE28 (y_assign hE28 rfl) rfl fun a29 hE29 => wpList_nil ?_
    clear hE20 hE21 hE22 hE23 hE24 hE25 hE26 hE28
    clear a20 a21 a22 a23 a24 a25 a26 a28
    refine then_normal ?_
    refine wp_seq (wp_region_lit ?_)
    refine st_val hE29 (y_move hE29 rfl) rfl fun a30 hE30 => st_val hE30 (y_move hE30 rfl) rfl fun a31 hE31 => st_val hE31 (y_move hE31 rfl) rfl fun a32 hE32 => st_val hE32 (y_rem hE32 rfl rfl (by decide)) rfl fun a33 hE33 => st_val hE33 (y_eql hE33 rfl rfl) rfl fun a34 hE34 => ?_
    refine st_val hE34 (y_indexAddr (A := ⟨g12, 0, none⟩) hE34 (congrArg (fun A => some (Value.slice A p0.length cap0)) hA12) rfl (by omega) (by omega) sl37) rfl fun a35 hE35 => st_val hE35 (y_fieldAddr hE35 rfl fa211_2 rfl) rfl fun a36 hE36 => st_storeE (α := Slot) (k := 1) hE36 hS27 [.int .i64 s1_1, .slice A12_1 ((nth y1_m0 i1).Cells.length) cp12_1, .bool (decide (Int.tmod ((laws_markCellS ((nth y1_m0 i1).Cells) (IntKind.i64.wrap (s1_1 + 1))).2) 3 = 0))] rfl rfl rfl (by rw [Int.toNat_natCast]; rfl) rfl (chkOne_size one4) rfl rfl rfl rfl fun w37 (hS37 : SH (Off [Ck.own (α := List Slot) [.slice A0 p0.length cap0] p0 F0] w) w w37 [Ck.own (α := List Cell) [.slice A12_1 ((nth y1_m0 i1).Cells.length) cp12_1] ((laws_markCellS ((nth y1_m0 i1).Cells) (IntKind.i64.wrap (s1_1 + 1))).1) F27, Ck.elem (α := Slot) g12 i1 cap0 [.int .i64 s1_1, .slice A12_1 ((nth y1_m0 i1).Cells.length) cp12_1, .bool (decide (Int.tmod ((laws_markCellS ((nth y1_m0 i1).Cells) (IntKind.i64.wrap (s1_1 + 1))).2) 3 = 0))] y1_m0 Fo12]) a38 hE38 => wpList_nil ?_
    clear hE29 hE30 hE31 hE32 hE33 hE34 hE35 hE36
    clear a29 a30 a31 a32 a33 a34 a35 a36
    refine then_normal ?_
    refine wp_region_lit ?_
    refine st_val hE38 (y_move hE38 rfl) rfl fun a39 hE39 => st_val hE39 (y_add hE39 rfl rfl) rfl fun a40 hE40 => st_val hE40 (y_assign hE40 rfl) rfl fun a41 hE41 => wpList_nil ?_
    clear hE38 hE39 hE40
    clear a38 a39 a40
    refine blk_normal ?_
    refine then_normal ?_
    refine wp_region_lit ?_
    refine st_val hE41 (y_move hE41 rfl) rfl fun a42 hE42 => st_val hE42 (y_add_in hE42 rfl rfl (m := ((i1 + 1 : Nat) : Int)) (by omega) (by omega) (by omega)) rfl fun a43 hE43 => st_val hE43 (y_assign hE43 rfl) rfl fun a44 hE44 => wpList_nil ?_
    clear hE41 hE42 hE43
    clear a41 a42 a43
    have hJ45 := SH.joinP (L := [Ck.elem (α := Slot) g12 i1 cap0 [.int .i64 s1_1, .slice A12_1 ((nth y1_m0 i1).Cells.length) cp12_1, .bool (decide (Int.tmod ((laws_markCellS ((nth y1_m0 i1).Cells) (IntKind.i64.wrap (s1_1 + 1))).2) 3 = 0))] y1_m0 Fo12]) (M := [Ck.own (α := List Cell) [.slice A12_1 ((nth y1_m0 i1).Cells.length) cp12_1] ((laws_markCellS ((nth y1_m0 i1).Cells) (IntKind.i64.wrap (s1_1 + 1))).1) F27]) (c := Ck.own (α := Slot) [.int .i64 s1_1, .slice A12_1 ((nth y1_m0 i1).Cells.length) cp12_1, .bool (decide (Int.tmod ((laws_markCellS ((nth y1_m0 i1).Cells) (IntKind.i64.wrap (s1_1 + 1))).2) 3 = 0))] (Slot.mk s1_1 ((laws_markCellS ((nth y1_m0 i1).Cells) (IntKind.i64.wrap (s1_1 + 1))).1) (decide (Int.tmod ((laws_markCellS ((nth y1_m0 i1).Cells) (IntKind.i64.wrap (s1_1 + 1))).2) 3 = 0))) (F27 ++ [])) hS37 (List.Perm.of_eq (by simp only [Ck.own, List.flatMap_cons, List.flatMap_nil, List.append_nil, List.append_assoc])) (ok_st (Slot_own (x := (Slot.mk s1_1 ((laws_markCellS ((nth y1_m0 i1).Cells) (IntKind.i64.wrap (s1_1 + 1))).1) (decide (Int.tmod ((laws_markCellS ((nth y1_m0 i1).Cells) (IntKind.i64.wrap (s1_1 + 1))).2) 3 = 0)))) hgis1_1 (hS37.slO (k := 0) rfl)))
    obtain ⟨F45, hS45⟩ := SH.unfocus (α := Slot) (L := []) hJ45 hA12 hn12 (by omega)
    refine then_normal ⟨fu1, Nat.lt_succ_self _, (i1 + 1), IntKind.i64.wrap ((laws_markCellS ((nth y1_m0 i1).Cells) (IntKind.i64.wrap (s1_1 + 1))).2 + 1), (y1_m0.set i1 (Slot.mk s1_1 ((laws_markCellS ((nth y1_m0 i1).Cells) (IntKind.i64.wrap (s1_1 + 1))).1) (decide (Int.tmod ((laws_markCellS ((nth y1_m0 i1).Cells) (IntKind.i64.wrap (s1_1 + 1))).2) 3 = 0)))), F45, by omega, by omega, .inl (by omega), (I64_wrap _), hM, hE44.weaken ⟨rfl, rfl, rfl, trivial⟩, hS45⟩
  ·
    have hge1 : ¬ i1 < p0.length := by have := of_decide_eq_false hb8; omega
    obtain rfl : fu1 = 0 := by omega
    have hM := hM.trans (laws_markSlotS_l1.eq_1 _ _ _ _ _)
    refine wp_exit ?_
    refine then_exit ?_
    refine then_exit ?_
    refine blk_exit ?_
    refine then_normal ?_
    refine wp_seq (wp_region_lit ?_)
    refine st_val hE7 (y_move hE7 rfl) rfl fun a46 hE46 => st_val hE46 (y_assign hE46 rfl) rfl fun a47 hE47 => wpList_nil ?_
    clear hE7 hE46
    clear a7 a46
    refine then_normal ?_
    refine wp_ret ?_
    refine fin1 hE47 rfl rfl ?_
    rw [hM]
    exact ⟨rfl, hgis1_1, Fy1_m0, hS3⟩

/- F142 loop.example/g00974/laws.markStepS -/
def laws_markStepS_l1 (p0 : List Step) (p1 : Int) : Nat → Nat → Int → List Step → List Step × Int
  | 0, i1, s1_1, y1_m0 => (y1_m0, s1_1)
  | fu1 + 1, i1, s1_1, y1_m0 => laws_markStepS_l1 p0 p1 fu1 (i1 + 1) (IntKind.i64.wrap (IntKind.i64.wrap (IntKind.i64.wrap (IntKind.i64.wrap (IntKind.i64.wrap (IntKind.i64.wrap (IntKind.i64.wrap (s1_1 + 1) + 1) + 1) + 1) + 1) + 1) + 1)) (y1_m0.set i1 (Step.mk s1_1 (Call.mk (IntKind.i64.wrap (s1_1 + 1)) (laws_markText (IntKind.i64.wrap (IntKind.i64.wrap (s1_1 + 1) + 1))) (laws_markText (IntKind.i64.wrap (IntKind.i64.wrap (IntKind.i64.wrap (s1_1 + 1) + 1) + 1))) (IntKind.i64.wrap (IntKind.i64.wrap (IntKind.i64.wrap (IntKind.i64.wrap (s1_1 + 1) + 1) + 1) + 1)) (IntKind.i64.wrap (IntKind.i64.wrap (IntKind.i64.wrap (IntKind.i64.wrap (IntKind.i64.wrap (s1_1 + 1) + 1) + 1) + 1) + 1)) (laws_markText (IntKind.i64.wrap (IntKind.i64.wrap (IntKind.i64.wrap (IntKind.i64.wrap (IntKind.i64.wrap (IntKind.i64.wrap (s1_1 + 1) + 1) + 1) + 1) + 1) + 1))))))
def laws_markStepS (p0 : List Step) (p1 : Int) : List Step × Int := laws_markStepS_l1 p0 p1 (p0.length - 0) 0 p1 p0
theorem c_laws_markStepS {v0 : Value} (p0 : List Step) {F0 : List Nat} (p1 : Int) {w : World} (hMu0 : SH (Off [Ck.own (α := List Step) [v0] p0 F0] w) w w [Ck.own (α := List Step) [v0] p0 F0]) (hi1 : I64 p1) :
    Calls Tryz.prog 142 [v0, .int .i64 p1].toArray w (fun e w' => e = .returned (.int .i64 (laws_markStepS p0 p1).2) ∧ I64 (laws_markStepS p0 p1).2 ∧ ∃ F', SH (Off [Ck.own (α := List Step) [v0] p0 F0] w) w w' [Ck.own (α := List Step) [v0] (laws_markStepS p0 p1).1 F']) := by
  obtain ⟨A0, cap0, rfl, hx0⟩ := (hMu0.slO (k := 0) rfl).form
  refine enter Tryz.func142 rfl Tryz.ntmps142 (Nat.le_of_ble_eq_true rfl) ?_
  intro a0 hE0
  have hS0 := hMu0
  have hM := laws_markStepS.eq_1 p0 p1
  have hij1 : -9223372036854775808 ≤ p1 ∧ p1 ≤ 9223372036854775807 := hi1
  refine wp_seq (wp_region_lit ?_)
  refine st_val hE0 (y_assign hE0 rfl) rfl fun a1 hE1 => wpList_nil ?_
  clear hE0
  clear a0
  refine then_normal ?_
  refine wp_seq (wp_seq (wp_region_lit ?_))
  refine st_val hE1 (y_assign hE1 rfl) rfl fun a2 hE2 => wpList_nil ?_
  clear hE1
  clear a1
  refine then_normal ?_
  refine wp_block (wp_loop_ghost (fun fu1 a w2 => ∃ (i1 : Nat) (s1_1 : Int) (y1_m0 : List Step) (Fy1_m0 : List Nat), 0 ≤ i1 ∧ fu1 = p0.length - i1 ∧ (i1 ≤ p0.length ∨ i1 = 0) ∧ I64 s1_1 ∧ laws_markStepS p0 p1 = laws_markStepS_l1 p0 p1 fu1 i1 s1_1 y1_m0 ∧ Env 71 [(0, .slice A0 p0.length cap0), (1, .int .i64 s1_1), (5, .int .i64 (i1 : Int))] a ∧ SH (Off [Ck.own (α := List Step) [.slice A0 p0.length cap0] p0 F0] w) w w2 [Ck.own (α := List Step) [.slice A0 p0.length cap0] y1_m0 Fy1_m0]) (p0.length - 0) ⟨0, p1, p0, F0, Nat.le_refl _, rfl, .inr rfl, hi1, hM, hE2.weaken ⟨rfl, rfl, rfl, trivial⟩, hS0⟩ ?_)
  clear hM hE2
  rintro fu1 a3 w3 ⟨i1, s1_1, y1_m0, Fy1_m0, hi1, hfu1, hup1, hgis1_1, hM, hE3, hS3⟩
  have hlry1_m0 := hS3.lenrow (k := 0) rfl
  refine wp_seq (wp_seq (wp_region_lit ?_))
  refine st_val hE3 (y_move hE3 rfl) rfl fun a4 hE4 => st_val hE4 (y_move hE4 rfl) rfl fun a5 hE5 => st_val hE5 (y_len_slice hE5 rfl sl151) rfl fun a6 hE6 => st_val hE6 (y_lss hE6 rfl rfl) rfl fun a7 hE7 => wpList_nil ?_
  clear hE3 hE4 hE5 hE6
  clear a3 a4 a5 a6
  refine then_normal ?_
  refine cond_split hE7 rfl (fun hb8 => ?_) (fun hb8 => ?_)
  ·
    have hlt1 : i1 < p0.length := by have := of_decide_eq_true hb8; omega
    obtain ⟨fu1, rfl⟩ : ∃ m, fu1 = m + 1 := ⟨fu1 - 1, by omega⟩
    have hM := hM.trans (laws_markStepS_l1.eq_2 _ _ _ _ _ _)
    refine wp_skip ?_
    refine then_normal ?_
    refine wp_seq (wp_block (wp_seq (wp_region_lit ?_)))
    refine st_val hE7 (y_move hE7 rfl) rfl fun a9 hE9 => st_val hE9 (y_move hE9 rfl) rfl fun a10 hE10 => st_val hE10 (y_move hE10 rfl) rfl fun a11 hE11 => ?_
    clear hE7 hE9 hE10
    clear a7 a9 a10
    have hlr12 := hS3.lenrow (k := 0) rfl
    obtain ⟨g12, ce12, Fo12, G12, hA12, hn12, hF12⟩ := SH.focus (L := []) hS3 (i := i1) (by omega)
    obtain ⟨rfl, rfl, hg12_0, hg12_1, hg12_2, hg12_3, hg12_4, hg12_5, hg12_6, _⟩ := Step_oopen (show Dat.own w3 ce12 (nth y1_m0 i1) G12 from hF12.get (k := 0) rfl)
    have hS13 := hF12.drop (k := 1)
    refine st_val hE11 (y_indexAddr (A := ⟨g12, 0, none⟩) hE11 (congrArg (fun A => some (Value.slice A p0.length cap0)) hA12) rfl (by omega) (by omega) sl151) rfl fun a14 hE14 => st_val hE14 (y_fieldAddr hE14 rfl fa179_0 rfl) rfl fun a15 hE15 => st_storeE (α := Step) (k := 0) hE15 hS13 [.int .i64 s1_1, .int .i64 ((nth y1_m0 i1).Call.Kind), .string ((nth y1_m0 i1).Call.Name), .string ((nth y1_m0 i1).Call.To), .int .i64 ((nth y1_m0 i1).Call.A), .int .i64 ((nth y1_m0 i1).Call.B), .string ((nth y1_m0 i1).Call.Text)] rfl rfl rfl (by rw [Int.toNat_natCast]; rfl) rfl (chkOne_size one3) rfl rfl rfl rfl fun w16 (hS16 : SH (Off [Ck.own (α := List Step) [.slice A0 p0.length cap0] p0 F0] w) w w16 [Ck.elem (α := Step) g12 i1 cap0 [.int .i64 s1_1, .int .i64 ((nth y1_m0 i1).Call.Kind), .string ((nth y1_m0 i1).Call.Name), .string ((nth y1_m0 i1).Call.To), .int .i64 ((nth y1_m0 i1).Call.A), .int .i64 ((nth y1_m0 i1).Call.B), .string ((nth y1_m0 i1).Call.Text)] y1_m0 Fo12]) a17 hE17 => wpList_nil ?_
    clear hE11 hE14 hE15
    clear a11 a14 a15
    refine then_normal ?_
    refine wp_seq (wp_region_lit ?_)
    refine st_val hE17 (y_move hE17 rfl) rfl fun a18 hE18 => st_val hE18 (y_add hE18 rfl rfl) rfl fun a19 hE19 => st_val hE19 (y_assign hE19 rfl) rfl fun a20 hE20 => wpList_nil ?_
    clear hE17 hE18 hE19
    clear a17 a18 a19
    refine then_normal ?_
    refine wp_seq (wp_region_lit ?_)
    refine st_val hE20 (y_move hE20 rfl) rfl fun a21 hE21 => st_val hE21 (y_move hE21 rfl) rfl fun a22 hE22 => st_val hE22 (y_move hE22 rfl) rfl fun a23 hE23 => ?_
    refine st_val hE23 (y_indexAddr (A := ⟨g12, 0, none⟩) hE23 (congrArg (fun A => some (Value.slice A p0.length cap0)) hA12) rfl (by omega) (by omega) sl151) rfl fun a24 hE24 => st_val hE24 (y_fieldAddr hE24 rfl fa179_1 rfl) rfl fun a25 hE25 => st_val hE25 (y_fieldAddr hE25 rfl fa54_0 rfl) rfl fun a26 hE26 => st_storeE (α := Step) (k := 0) hE26 hS16 [.int .i64 s1_1, .int .i64 (IntKind.i64.wrap (s1_1 + 1)), .string ((nth y1_m0 i1).Call.Name), .string ((nth y1_m0 i1).Call.To), .int .i64 ((nth y1_m0 i1).Call.A), .int .i64 ((nth y1_m0 i1).Call.B), .string ((nth y1_m0 i1).Call.Text)] rfl rfl rfl (by rw [Int.toNat_natCast]; rfl) rfl (chkOne_size one3) rfl rfl rfl rfl fun w27 (hS27 : SH (Off [Ck.own (α := List Step) [.slice A0 p0.length cap0] p0 F0] w) w w27 [Ck.elem (α := Step) g12 i1 cap0 [.int .i64 s1_1, .int .i64 (IntKind.i64.wrap (s1_1 + 1)), .string ((nth y1_m0 i1).Call.Name), .string ((nth y1_m0 i1).Call.To), .int .i64 ((nth y1_m0 i1).Call.A), .int .i64 ((nth y1_m0 i1).Call.B), .string ((nth y1_m0 i1).Call.Text)] y1_m0 Fo12]) a28 hE28 => wpList_nil ?_
    clear hE20 hE21 hE22 hE23 hE24 hE25 hE26
    clear a20 a21 a22 a23 a24 a25 a26
    refine then_normal ?_
    refine wp_seq (wp_region_lit ?_)
    refine st_val hE28 (y_move hE28 rfl) rfl fun a29 hE29 => st_val hE29 (y_add hE29 rfl rfl) rfl fun a30 hE30 => st_val hE30 (y_assign hE30 rfl) rfl fun a31 hE31 => wpList_nil ?_
    clear hE28 hE29 hE30
    clear a28 a29 a30
    refine then_normal ?_
    refine wp_seq (wp_region_lit ?_)
    refine st_val hE31 (y_move hE31 rfl) rfl fun a32 hE32 => st_val hE32 (y_move hE32 rfl) rfl fun a33 hE33 => st_val hE33 (y_move hE33 rfl) rfl fun a34 hE34 => st_callF hE34 hS27 Tryz.func70 fb70 fn70 (c_laws_markText (IntKind.i64.wrap (IntKind.i64.wrap (s1_1 + 1) + 1)) (I64_wrap _)) rfl rfl fun w35 hS35 a36 hE36 => ?_
    refine st_val hE36 (y_indexAddr (A := ⟨g12, 0, none⟩) hE36 (congrArg (fun A => some (Value.slice A p0.length cap0)) hA12) rfl (by omega) (by omega) sl151) rfl fun a37 hE37 => st_val hE37 (y_fieldAddr hE37 rfl fa179_1 rfl) rfl fun a38 hE38 => st_val hE38 (y_fieldAddr hE38 rfl fa54_1 rfl) rfl fun a39 hE39 => st_storeE (α := Step) (k := 0) hE39 hS35 [.int .i64 s1_1, .int .i64 (IntKind.i64.wrap (s1_1 + 1)), .string (laws_markText (IntKind.i64.wrap (IntKind.i64.wrap (s1_1 + 1) + 1))), .string ((nth y1_m0 i1).Call.To), .int .i64 ((nth y1_m0 i1).Call.A), .int .i64 ((nth y1_m0 i1).Call.B), .string ((nth y1_m0 i1).Call.Text)] rfl rfl rfl (by rw [Int.toNat_natCast]; rfl) rfl (chkOne_size one9) rfl rfl rfl rfl fun w40 (hS40 : SH (Off [Ck.own (α := List Step) [.slice A0 p0.length cap0] p0 F0] w) w w40 [Ck.elem (α := Step) g12 i1 cap0 [.int .i64 s1_1, .int .i64 (IntKind.i64.wrap (s1_1 + 1)), .string (laws_markText (IntKind.i64.wrap (IntKind.i64.wrap (s1_1 + 1) + 1))), .string ((nth y1_m0 i1).Call.To), .int .i64 ((nth y1_m0 i1).Call.A), .int .i64 ((nth y1_m0 i1).Call.B), .string ((nth y1_m0 i1).Call.Text)] y1_m0 Fo12]) a41 hE41 => wpList_nil ?_
    clear hE31 hE32 hE33 hE34 hE36 hE37 hE38 hE39
    clear a31 a32 a33 a34 a36 a37 a38 a39
    refine then_normal ?_
    refine wp_seq (wp_region_lit ?_)
    refine st_val hE41 (y_move hE41 rfl) rfl fun a42 hE42 => st_val hE42 (y_add hE42 rfl rfl) rfl fun a43 hE43 => st_val hE43 (y_assign hE43 rfl) rfl fun a44 hE44 => wpList_nil ?_
    clear hE41 hE42 hE43
    clear a41 a42 a43
    refine then_normal ?_
    refine wp_seq (wp_region_lit ?_)
    refine st_val hE44 (y_move hE44 rfl) rfl fun a45 hE45 => st_val hE45 (y_move hE45 rfl) rfl fun a46 hE46 => st_val hE46 (y_move hE46 rfl) rfl fun a47 hE47 => st_callF hE47 hS40 Tryz.func70 fb70 fn70 (c_laws_markText (IntKind.i64.wrap (IntKind.i64.wrap (IntKind.i64.wrap (s1_1 + 1) + 1) + 1)) (I64_wrap _)) rfl rfl fun w48 hS48 a49 hE49 => ?_
    refine st_val hE49 (y_indexAddr (A := ⟨g12, 0, none⟩) hE49 (congrArg (fun A => some (Value.slice A p0.length cap0)) hA12) rfl (by omega) (by omega) sl151) rfl fun a50 hE50 => st_val hE50 (y_fieldAddr hE50 rfl fa179_1 rfl) rfl fun a51 hE51 => st_val hE51 (y_fieldAddr hE51 rfl fa54_2 rfl) rfl fun a52 hE52 => st_storeE (α := Step) (k := 0) hE52 hS48 [.int .i64 s1_1, .int .i64 (IntKind.i64.wrap (s1_1 + 1)), .string (laws_markText (IntKind.i64.wrap (IntKind.i64.wrap (s1_1 + 1) + 1))), .string (laws_markText (IntKind.i64.wrap (IntKind.i64.wrap (IntKind.i64.wrap (s1_1 + 1) + 1) + 1))), .int .i64 ((nth y1_m0 i1).Call.A), .int .i64 ((nth y1_m0 i1).Call.B), .string ((nth y1_m0 i1).Call.Text)] rfl rfl rfl (by rw [Int.toNat_natCast]; rfl) rfl (chkOne_size one9) rfl rfl rfl rfl fun w53 (hS53 : SH (Off [Ck.own (α := List Step) [.slice A0 p0.length cap0] p0 F0] w) w w53 [Ck.elem (α := Step) g12 i1 cap0 [.int .i64 s1_1, .int .i64 (IntKind.i64.wrap (s1_1 + 1)), .string (laws_markText (IntKind.i64.wrap (IntKind.i64.wrap (s1_1 + 1) + 1))), .string (laws_markText (IntKind.i64.wrap (IntKind.i64.wrap (IntKind.i64.wrap (s1_1 + 1) + 1) + 1))), .int .i64 ((nth y1_m0 i1).Call.A), .int .i64 ((nth y1_m0 i1).Call.B), .string ((nth y1_m0 i1).Call.Text)] y1_m0 Fo12]) a54 hE54 => wpList_nil ?_
    clear hE44 hE45 hE46 hE47 hE49 hE50 hE51 hE52
    clear a44 a45 a46 a47 a49 a50 a51 a52
    refine then_normal ?_
    refine wp_seq (wp_region_lit ?_)
    refine st_val hE54 (y_move hE54 rfl) rfl fun a55 hE55 => st_val hE55 (y_add hE55 rfl rfl) rfl fun a56 hE56 => st_val hE56 (y_assign hE56 rfl) rfl fun a57 hE57 => wpList_nil ?_
    clear hE54 hE55 hE56
    clear a54 a55 a56
    refine then_normal ?_
    refine wp_seq (wp_region_lit ?_)
    refine st_val hE57 (y_move hE57 rfl) rfl fun a58 hE58 => st_val hE58 (y_move hE58 rfl) rfl fun a59 hE59 => st_val hE59 (y_move hE59 rfl) rfl fun a60 hE60 => ?_
    refine st_val hE60 (y_indexAddr (A := ⟨g12, 0, none⟩) hE60 (congrArg (fun A => some (Value.slice A p0.length cap0)) hA12) rfl (by omega) (by omega) sl151) rfl fun a61 hE61 => st_val hE61 (y_fieldAddr hE61 rfl fa179_1 rfl) rfl fun a62 hE62 => st_val hE62 (y_fieldAddr hE62 rfl fa54_3 rfl) rfl fun a63 hE63 => st_storeE (α := Step) (k := 0) hE63 hS53 [.int .i64 s1_1, .int .i64 (IntKind.i64.wrap (s1_1 + 1)), .string (laws_markText (IntKind.i64.wrap (IntKind.i64.wrap (s1_1 + 1) + 1))), .string (laws_markText (IntKind.i64.wrap (IntKind.i64.wrap (IntKind.i64.wrap (s1_1 + 1) + 1) + 1))), .int .i64 (IntKind.i64.wrap (IntKind.i64.wrap (IntKind.i64.wrap (IntKind.i64.wrap (s1_1 + 1) + 1) + 1) + 1)), .int .i64 ((nth y1_m0 i1).Call.B), .string ((nth y1_m0 i1).Call.Text)] rfl rfl rfl (by rw [Int.toNat_natCast]; rfl) rfl (chkOne_size one3) rfl rfl rfl rfl fun w64 (hS64 : SH (Off [Ck.own (α := List Step) [.slice A0 p0.length cap0] p0 F0] w) w w64 [Ck.elem (α := Step) g12 i1 cap0 [.int .i64 s1_1, .int .i64 (IntKind.i64.wrap (s1_1 + 1)), .string (laws_markText (IntKind.i64.wrap (IntKind.i64.wrap (s1_1 + 1) + 1))), .string (laws_markText (IntKind.i64.wrap (IntKind.i64.wrap (IntKind.i64.wrap (s1_1 + 1) + 1) + 1))), .int .i64 (IntKind.i64.wrap (IntKind.i64.wrap (IntKind.i64.wrap (IntKind.i64.wrap (s1_1 + 1) + 1) + 1) + 1)), .int .i64 ((nth y1_m0 i1).Call.B), .string ((nth y1_m0 i1).Call.Text)] y1_m0 Fo12]) a65 hE65 => wpList_nil ?_
    clear hE57 hE58 hE59 hE60 hE61 hE62 hE63
    clear a57 a58 a59 a60 a61 a62 a63
    refine then_normal ?_
    refine wp_seq (wp_region_lit ?_)
    refine st_val hE65 (y_move hE65 rfl) rfl fun a66 hE66 => st_val hE66 (y_add hE66 rfl rfl) rfl fun a67 hE67 => st_val hE67 (y_assign hE67 rfl) rfl fun a68 hE68 => wpList_nil ?_
    clear hE65 hE66 hE67
    clear a65 a66 a67
    refine then_normal ?_
    refine wp_seq (wp_region_lit ?_)
    refine st_val hE68 (y_move hE68 rfl) rfl fun a69 hE69 => st_val hE69 (y_move hE69 rfl) rfl fun a70 hE70 => st_val hE70 (y_move hE70 rfl) rfl fun a71 hE71 => ?_
    refine st_val hE71 (y_indexAddr (A := ⟨g12, 0, none⟩) hE71 (congrArg (fun A => some (Value.slice A p0.length cap0)) hA12) rfl (by omega) (by omega) sl151) rfl fun a72 hE72 => st_val hE72 (y_fieldAddr hE72 rfl fa179_1 rfl) rfl fun a73 hE73 => st_val hE73 (y_fieldAddr hE73 rfl fa54_4 rfl) rfl fun a74 hE74 => st_storeE (α := Step) (k := 0) hE74 hS64 [.int .i64 s1_1, .int .i64 (IntKind.i64.wrap (s1_1 + 1)), .string (laws_markText (IntKind.i64.wrap (IntKind.i64.wrap (s1_1 + 1) + 1))), .string (laws_markText (IntKind.i64.wrap (IntKind.i64.wrap (IntKind.i64.wrap (s1_1 + 1) + 1) + 1))), .int .i64 (IntKind.i64.wrap (IntKind.i64.wrap (IntKind.i64.wrap (IntKind.i64.wrap (s1_1 + 1) + 1) + 1) + 1)), .int .i64 (IntKind.i64.wrap (IntKind.i64.wrap (IntKind.i64.wrap (IntKind.i64.wrap (IntKind.i64.wrap (s1_1 + 1) + 1) + 1) + 1) + 1)), .string ((nth y1_m0 i1).Call.Text)] rfl rfl rfl (by rw [Int.toNat_natCast]; rfl) rfl (chkOne_size one3) rfl rfl rfl rfl fun w75 (hS75 : SH (Off [Ck.own (α := List Step) [.slice A0 p0.length cap0] p0 F0] w) w w75 [Ck.elem (α := Step) g12 i1 cap0 [.int .i64 s1_1, .int .i64 (IntKind.i64.wrap (s1_1 + 1)), .string (laws_markText (IntKind.i64.wrap (IntKind.i64.wrap (s1_1 + 1) + 1))), .string (laws_markText (IntKind.i64.wrap (IntKind.i64.wrap (IntKind.i64.wrap (s1_1 + 1) + 1) + 1))), .int .i64 (IntKind.i64.wrap (IntKind.i64.wrap (IntKind.i64.wrap (IntKind.i64.wrap (s1_1 + 1) + 1) + 1) + 1)), .int .i64 (IntKind.i64.wrap (IntKind.i64.wrap (IntKind.i64.wrap (IntKind.i64.wrap (IntKind.i64.wrap (s1_1 + 1) + 1) + 1) + 1) + 1)), .string ((nth y1_m0 i1).Call.Text)] y1_m0 Fo12]) a76 hE76 => wpList_nil ?_
    clear hE68 hE69 hE70 hE71 hE72 hE73 hE74
    clear a68 a69 a70 a71 a72 a73 a74
    refine then_normal ?_
    refine wp_seq (wp_region_lit ?_)
    refine st_val hE76 (y_move hE76 rfl) rfl fun a77 hE77 => st_val hE77 (y_add hE77 rfl rfl) rfl fun a78 hE78 => st_val hE78 (y_assign hE78 rfl) rfl fun a79 hE79 => wpList_nil ?_
    clear hE76 hE77 hE78
    clear a76 a77 a78
    refine then_normal ?_
    refine wp_seq (wp_region_lit ?_)
    refine st_val hE79 (y_move hE79 rfl) rfl fun a80 hE80 => st_val hE80 (y_move hE80 rfl) rfl fun a81 hE81 => st_val hE81 (y_move hE81 rfl) rfl fun a82 hE82 => st_callF hE82 hS75 Tryz.func70 fb70 fn70 (c_laws_markText (IntKind.i64.wrap (IntKind.i64.wrap (IntKind.i64.wrap (IntKind.i64.wrap (IntKind.i64.wrap (IntKind.i64.wrap (s1_1 + 1) + 1) + 1) + 1) + 1) + 1)) (I64_wrap _)) rfl rfl fun w83 hS83 a84 hE84 => ?_
    refine st_val hE84 (y_indexAddr (A := ⟨g12, 0, none⟩) hE84 (congrArg (fun A => some (Value.slice A p0.length cap0)) hA12) rfl (by omega) (by omega) sl151) rfl fun a85 hE85 => st_val hE85 (y_fieldAddr hE85 rfl fa179_1 rfl) rfl fun a86 hE86 => st_val hE86 (y_fieldAddr hE86 rfl fa54_5 rfl) rfl fun a87 hE87 => st_storeE (α := Step) (k := 0) hE87 hS83 [.int .i64 s1_1, .int .i64 (IntKind.i64.wrap (s1_1 + 1)), .string (laws_markText (IntKind.i64.wrap (IntKind.i64.wrap (s1_1 + 1) + 1))), .string (laws_markText (IntKind.i64.wrap (IntKind.i64.wrap (IntKind.i64.wrap (s1_1 + 1) + 1) + 1))), .int .i64 (IntKind.i64.wrap (IntKind.i64.wrap (IntKind.i64.wrap (IntKind.i64.wrap (s1_1 + 1) + 1) + 1) + 1)), .int .i64 (IntKind.i64.wrap (IntKind.i64.wrap (IntKind.i64.wrap (IntKind.i64.wrap (IntKind.i64.wrap (s1_1 + 1) + 1) + 1) + 1) + 1)), .string (laws_markText (IntKind.i64.wrap (IntKind.i64.wrap (IntKind.i64.wrap (IntKind.i64.wrap (IntKind.i64.wrap (IntKind.i64.wrap (s1_1 + 1) + 1) + 1) + 1) + 1) + 1)))] rfl rfl rfl (by rw [Int.toNat_natCast]; rfl) rfl (chkOne_size one9) rfl rfl rfl rfl fun w88 (hS88 : SH (Off [Ck.own (α := List Step) [.slice A0 p0.length cap0] p0 F0] w) w w88 [Ck.elem (α := Step) g12 i1 cap0 [.int .i64 s1_1, .int .i64 (IntKind.i64.wrap (s1_1 + 1)), .string (laws_markText (IntKind.i64.wrap (IntKind.i64.wrap (s1_1 + 1) + 1))), .string (laws_markText (IntKind.i64.wrap (IntKind.i64.wrap (IntKind.i64.wrap (s1_1 + 1) + 1) + 1))), .int .i64 (IntKind.i64.wrap (IntKind.i64.wrap (IntKind.i64.wrap (IntKind.i64.wrap (s1_1 + 1) + 1) + 1) + 1)), .int .i64 (IntKind.i64.wrap (IntKind.i64.wrap (IntKind.i64.wrap (IntKind.i64.wrap (IntKind.i64.wrap (s1_1 + 1) + 1) + 1) + 1) + 1)), .string (laws_markText (IntKind.i64.wrap (IntKind.i64.wrap (IntKind.i64.wrap (IntKind.i64.wrap (IntKind.i64.wrap (IntKind.i64.wrap (s1_1 + 1) + 1) + 1) + 1) + 1) + 1)))] y1_m0 Fo12]) a89 hE89 => wpList_nil ?_
    clear hE79 hE80 hE81 hE82 hE84 hE85 hE86 hE87
    clear a79 a80 a81 a82 a84 a85 a86 a87
    refine then_normal ?_
    refine wp_region_lit ?_
    refine st_val hE89 (y_move hE89 rfl) rfl fun a90 hE90 => st_val hE90 (y_add hE90 rfl rfl) rfl fun a91 hE91 => st_val hE91 (y_assign hE91 rfl) rfl fun a92 hE92 => wpList_nil ?_
    clear hE89 hE90 hE91
    clear a89 a90 a91
    refine blk_normal ?_
    refine then_normal ?_
    refine wp_region_lit ?_
    refine st_val hE92 (y_move hE92 rfl) rfl fun a93 hE93 => st_val hE93 (y_add_in hE93 rfl rfl (m := ((i1 + 1 : Nat) : Int)) (by omega) (by omega) (by omega)) rfl fun a94 hE94 => st_val hE94 (y_assign hE94 rfl) rfl fun a95 hE95 => wpList_nil ?_
    clear hE92 hE93 hE94
    clear a92 a93 a94
    have hJ96 := SH.flat (L := [Ck.elem (α := Step) g12 i1 cap0 [.int .i64 s1_1, .int .i64 (IntKind.i64.wrap (s1_1 + 1)), .string (laws_markText (IntKind.i64.wrap (IntKind.i64.wrap (s1_1 + 1) + 1))), .string (laws_markText (IntKind.i64.wrap (IntKind.i64.wrap (IntKind.i64.wrap (s1_1 + 1) + 1) + 1))), .int .i64 (IntKind.i64.wrap (IntKind.i64.wrap (IntKind.i64.wrap (IntKind.i64.wrap (s1_1 + 1) + 1) + 1) + 1)), .int .i64 (IntKind.i64.wrap (IntKind.i64.wrap (IntKind.i64.wrap (IntKind.i64.wrap (IntKind.i64.wrap (s1_1 + 1) + 1) + 1) + 1) + 1)), .string (laws_markText (IntKind.i64.wrap (IntKind.i64.wrap (IntKind.i64.wrap (IntKind.i64.wrap (IntKind.i64.wrap (IntKind.i64.wrap (s1_1 + 1) + 1) + 1) + 1) + 1) + 1)))] y1_m0 Fo12]) (α := Step) (cs := [.int .i64 s1_1, .int .i64 (IntKind.i64.wrap (s1_1 + 1)), .string (laws_markText (IntKind.i64.wrap (IntKind.i64.wrap (s1_1 + 1) + 1))), .string (laws_markText (IntKind.i64.wrap (IntKind.i64.wrap (IntKind.i64.wrap (s1_1 + 1) + 1) + 1))), .int .i64 (IntKind.i64.wrap (IntKind.i64.wrap (IntKind.i64.wrap (IntKind.i64.wrap (s1_1 + 1) + 1) + 1) + 1)), .int .i64 (IntKind.i64.wrap (IntKind.i64.wrap (IntKind.i64.wrap (IntKind.i64.wrap (IntKind.i64.wrap (s1_1 + 1) + 1) + 1) + 1) + 1)), .string (laws_markText (IntKind.i64.wrap (IntKind.i64.wrap (IntKind.i64.wrap (IntKind.i64.wrap (IntKind.i64.wrap (IntKind.i64.wrap (s1_1 + 1) + 1) + 1) + 1) + 1) + 1)))]) (x := (Step.mk s1_1 (Call.mk (IntKind.i64.wrap (s1_1 + 1)) (laws_markText (IntKind.i64.wrap (IntKind.i64.wrap (s1_1 + 1) + 1))) (laws_markText (IntKind.i64.wrap (IntKind.i64.wrap (IntKind.i64.wrap (s1_1 + 1) + 1) + 1))) (IntKind.i64.wrap (IntKind.i64.wrap (IntKind.i64.wrap (IntKind.i64.wrap (s1_1 + 1) + 1) + 1) + 1)) (IntKind.i64.wrap (IntKind.i64.wrap (IntKind.i64.wrap (IntKind.i64.wrap (IntKind.i64.wrap (s1_1 + 1) + 1) + 1) + 1) + 1)) (laws_markText (IntKind.i64.wrap (IntKind.i64.wrap (IntKind.i64.wrap (IntKind.i64.wrap (IntKind.i64.wrap (IntKind.i64.wrap (s1_1 + 1) + 1) + 1) + 1) + 1) + 1)))))) hS88 (fun _ => Step_own (x := (Step.mk s1_1 (Call.mk (IntKind.i64.wrap (s1_1 + 1)) (laws_markText (IntKind.i64.wrap (IntKind.i64.wrap (s1_1 + 1) + 1))) (laws_markText (IntKind.i64.wrap (IntKind.i64.wrap (IntKind.i64.wrap (s1_1 + 1) + 1) + 1))) (IntKind.i64.wrap (IntKind.i64.wrap (IntKind.i64.wrap (IntKind.i64.wrap (s1_1 + 1) + 1) + 1) + 1)) (IntKind.i64.wrap (IntKind.i64.wrap (IntKind.i64.wrap (IntKind.i64.wrap (IntKind.i64.wrap (s1_1 + 1) + 1) + 1) + 1) + 1)) (laws_markText (IntKind.i64.wrap (IntKind.i64.wrap (IntKind.i64.wrap (IntKind.i64.wrap (IntKind.i64.wrap (IntKind.i64.wrap (s1_1 + 1) + 1) + 1) + 1) + 1) + 1)))))) hgis1_1 (I64_wrap _) (laws_markText_good (by first | assumption | exact I64_wrap _)) (laws_markText_good (by first | assumption | exact I64_wrap _)) (I64_wrap _) (I64_wrap _) (laws_markText_good (by first | assumption | exact I64_wrap _)))
    obtain ⟨F96, hS96⟩ := SH.unfocus (α := Step) (L := []) hJ96 hA12 hn12 (by omega)
    refine then_normal ⟨fu1, Nat.lt_succ_self _, (i1 + 1), IntKind.i64.wrap (IntKind.i64.wrap (IntKind.i64.wrap (IntKind.i64.wrap (IntKind.i64.wrap (IntKind.i64.wrap (IntKind.i64.wrap (s1_1 + 1) + 1) + 1) + 1) + 1) + 1) + 1), (y1_m0.set i1 (Step.mk s1_1 (Call.mk (IntKind.i64.wrap (s1_1 + 1)) (laws_markText (IntKind.i64.wrap (IntKind.i64.wrap (s1_1 + 1) + 1))) (laws_markText (IntKind.i64.wrap (IntKind.i64.wrap (IntKind.i64.wrap (s1_1 + 1) + 1) + 1))) (IntKind.i64.wrap (IntKind.i64.wrap (IntKind.i64.wrap (IntKind.i64.wrap (s1_1 + 1) + 1) + 1) + 1)) (IntKind.i64.wrap (IntKind.i64.wrap (IntKind.i64.wrap (IntKind.i64.wrap (IntKind.i64.wrap (s1_1 + 1) + 1) + 1) + 1) + 1)) (laws_markText (IntKind.i64.wrap (IntKind.i64.wrap (IntKind.i64.wrap (IntKind.i64.wrap (IntKind.i64.wrap (IntKind.i64.wrap (s1_1 + 1) + 1) + 1) + 1) + 1) + 1)))))), F96, by omega, by omega, .inl (by omega), (I64_wrap _), hM, hE95.weaken ⟨rfl, rfl, rfl, trivial⟩, hS96⟩
  ·
    have hge1 : ¬ i1 < p0.length := by have := of_decide_eq_false hb8; omega
    obtain rfl : fu1 = 0 := by omega
    have hM := hM.trans (laws_markStepS_l1.eq_1 _ _ _ _ _)
    refine wp_exit ?_
    refine then_exit ?_
    refine then_exit ?_
    refine blk_exit ?_
    refine then_normal ?_
    refine wp_seq (wp_region_lit ?_)
    refine st_val hE7 (y_move hE7 rfl) rfl fun a97 hE97 => st_val hE97 (y_assign hE97 rfl) rfl fun a98 hE98 => wpList_nil ?_
    clear hE7 hE97
    clear a7 a97
    refine then_normal ?_
    refine wp_ret ?_
    refine fin1 hE98 rfl rfl ?_
    rw [hM]
    exact ⟨rfl, hgis1_1, Fy1_m0, hS3⟩

/- F69 loop.example/g00974/laws.markEntryS -/
def laws_markEntryS_l1 (p0 : List Entry) (p1 : Int) : Nat → Nat → Int → List Entry → List Entry × Int
  | 0, i1, s1_1, y1_m0 => (y1_m0, s1_1)
  | fu1 + 1, i1, s1_1, y1_m0 => laws_markEntryS_l1 p0 p1 fu1 (i1 + 1) (IntKind.i64.wrap (IntKind.i64.wrap (IntKind.i64.wrap ((laws_markAnswerS ((nth y1_m0 i1).Answers) ((laws_markStepS ((nth y1_m0 i1).Steps) (IntKind.i64.wrap (IntKind.i64.wrap (IntKind.i64.wrap (s1_1 + 1) + 1) + 1))).2)).2 + 1) + 1) + 1)) (y1_m0.set i1 (Entry.mk s1_1 (IntKind.i64.wrap (s1_1 + 1)) (IntKind.i64.wrap (IntKind.i64.wrap (s1_1 + 1) + 1)) ((laws_markStepS ((nth y1_m0 i1).Steps) (IntKind.i64.wrap (IntKind.i64.wrap (IntKind.i64.wrap (s1_1 + 1) + 1) + 1))).1) ((laws_markAnswerS ((nth y1_m0 i1).Answers) ((laws_markStepS ((nth y1_m0 i1).Steps) (IntKind.i64.wrap (IntKind.i64.wrap (IntKind.i64.wrap (s1_1 + 1) + 1) + 1))).2)).1) ((laws_markAnswerS ((nth y1_m0 i1).Answers) ((laws_markStepS ((nth y1_m0 i1).Steps) (IntKind.i64.wrap (IntKind.i64.wrap (IntKind.i64.wrap (s1_1 + 1) + 1) + 1))).2)).2) (IntKind.i64.wrap ((laws_markAnswerS ((nth y1_m0 i1).Answers) ((laws_markStepS ((nth y1_m0 i1).Steps) (IntKind.i64.wrap (IntKind.i64.wrap (IntKind.i64.wrap (s1_1 + 1) + 1) + 1))).2)).2 + 1)) (decide (Int.tmod (IntKind.i64.wrap (IntKind.i64.wrap ((laws_markAnswerS ((nth y1_m0 i1).Answers) ((laws_markStepS ((nth y1_m0 i1).Steps) (IntKind.i64.wrap (IntKind.i64.wrap (IntKind.i64.wrap (s1_1 + 1) + 1) + 1))).2)).2 + 1) + 1)) 3 = 0))))
def laws_markEntryS (p0 : List Entry) (p1 : Int) : List Entry × Int := laws_markEntryS_l1 p0 p1 (p0.length - 0) 0 p1 p0
theorem c_laws_markEntryS {v0 : Value} (p0 : List Entry) {F0 : List Nat} (p1 : Int) {w : World} (hMu0 : SH (Off [Ck.own (α := List Entry) [v0] p0 F0] w) w w [Ck.own (α := List Entry) [v0] p0 F0]) (hi1 : I64 p1) :
    Calls Tryz.prog 69 [v0, .int .i64 p1].toArray w (fun e w' => e = .returned (.int .i64 (laws_markEntryS p0 p1).2) ∧ I64 (laws_markEntryS p0 p1).2 ∧ ∃ F', SH (Off [Ck.own (α := List Entry) [v0] p0 F0] w) w w' [Ck.own (α := List Entry) [v0] (laws_markEntryS p0 p1).1 F']) := by
  obtain ⟨A0, cap0, rfl, hx0⟩ := (hMu0.slO (k := 0) rfl).form
  refine enter Tryz.func69 rfl Tryz.ntmps69 (Nat.le_of_ble_eq_true rfl) ?_
  intro a0 hE0
  have hS0 := hMu0
  have hM := laws_markEntryS.eq_1 p0 p1
  have hij1 : -9223372036854775808 ≤ p1 ∧ p1 ≤ 9223372036854775807 := hi1
  refine wp_seq (wp_region_lit ?_)
  refine st_val hE0 (y_assign hE0 rfl) rfl fun a1 hE1 => wpList_nil ?_
  clear hE0
  clear a0
  refine then_normal ?_
  refine wp_seq (wp_seq (wp_region_lit ?_))
  refine st_val hE1 (y_assign hE1 rfl) rfl fun a2 hE2 => wpList_nil ?_
  clear hE1
  clear a1
  refine then_normal ?_
  refine wp_block (wp_loop_ghost (fun fu1 a w2 => ∃ (i1 : Nat) (s1_1 : Int) (y1_m0 : List Entry) (Fy1_m0 : List Nat), 0 ≤ i1 ∧ fu1 = p0.length - i1 ∧ (i1 ≤ p0.length ∨ i1 = 0) ∧ I64 s1_1 ∧ laws_markEntryS p0 p1 = laws_markEntryS_l1 p0 p1 fu1 i1 s1_1 y1_m0 ∧ Env 71 [(0, .slice A0 p0.length cap0), (1, .int .i64 s1_1), (5, .int .i64 (i1 : Int))] a ∧ SH (Off [Ck.own (α := List Entry) [.slice A0 p0.length cap0] p0 F0] w) w w2 [Ck.own (α := List Entry) [.slice A0 p0.length cap0] y1_m0 Fy1_m0]) (p0.length - 0) ⟨0, p1, p0, F0, Nat.le_refl _, rfl, .inr rfl, hi1, hM, hE2.weaken ⟨rfl, rfl, rfl, trivial⟩, hS0⟩ ?_)
  clear hM hE2
  rintro fu1 a3 w3 ⟨i1, s1_1, y1_m0, Fy1_m0, hi1, hfu1, hup1, hgis1_1, hM, hE3, hS3⟩
  have hlry1_m0 := hS3.lenrow (k := 0) rfl
  refine wp_seq (wp_seq (wp_region_lit ?_))
  refine st_val hE3 (y_move hE3 rfl) rfl fun a4 hE4 => st_val hE4 (y_move hE4 rfl) rfl fun a5 hE5 => st_val hE5 (y_len_slice hE5 rfl sl41) rfl fun a6 hE6 => st_val hE6 (y_lss hE6 rfl rfl) rfl fun a7 hE7 => wpList_nil ?_
  clear hE3 hE4 hE5 hE6
  clear a3 a4 a5 a6
  refine then_normal ?_
  refine cond_split hE7 rfl (fun hb8 => ?_) (fun hb8 => ?_)
  ·
    have hlt1 : i1 < p0.length := by have := of_decide_eq_true hb8; omega
    obtain ⟨fu1, rfl⟩ : ∃ m, fu1 = m + 1 := ⟨fu1 - 1, by omega⟩
    have hM := hM.trans (laws_markEntryS_l1.eq_2 _ _ _ _ _ _)
    refine wp_skip ?_
    refine then_normal ?_
    refine wp_seq (wp_block (wp_seq (wp_region_lit ?_)))
    refine st_val hE7 (y_move hE7 rfl) rfl fun a9 hE9 => st_val hE9 (y_move hE9 rfl) rfl fun a10 hE10 => st_val hE10 (y_move hE10 rfl) rfl fun a11 hE11 => ?_
    clear hE7 hE9 hE10
    clear a7 a9 a10
    have hlr12 := hS3.lenrow (k := 0) rfl
    obtain ⟨g12, ce12, Fo12, G12, hA12, hn12, hF12⟩ := SH.focus (L := []) hS3 (i := i1) (by omega)
    obtain ⟨v12_3, F12_3, v12_4, F12_4, rfl, rfl, hg12_0, hg12_1, hg12_2, ho12_3, ho12_4, hg12_5, hg12_6, _⟩ := Entry_oopen (show Dat.own w3 ce12 (nth y1_m0 i1) G12 from hF12.get (k := 0) rfl)
    obtain ⟨A12_3, cp12_3, rfl, hx12_3⟩ := ho12_3.form
    obtain ⟨A12_4, cp12_4, rfl, hx12_4⟩ := ho12_4.form
    have hS13 := hF12.split [Ck.own (α := List Step) [.slice A12_3 ((nth y1_m0 i1).Steps.length) cp12_3] ((nth y1_m0 i1).Steps) F12_3, Ck.own (α := List Answer) [.slice A12_4 ((nth y1_m0 i1).Answers.length) cp12_4] ((nth y1_m0 i1).Answers) F12_4] (by simp only [Ck.own, List.flatMap_cons, List.flatMap_nil, List.append_nil, List.append_assoc]) (oks_cons (ok_sl ho12_3) (oks_cons (ok_sl ho12_4) oks_nil))
    simp only [List.cons_append, List.nil_append] at hS13
    refine st_val hE11 (y_indexAddr (A := ⟨g12, 0, none⟩) hE11 (congrArg (fun A => some (Value.slice A p0.length cap0)) hA12) rfl (by omega) (by omega) sl41) rfl fun a14 hE14 => st_val hE14 (y_fieldAddr hE14 rfl fa153_0 rfl) rfl fun a15 hE15 => st_storeE (α := Entry) (k := 2) hE15 hS13 [.int .i64 s1_1, .int .i64 ((nth y1_m0 i1).Kind), .int .i64 ((nth y1_m0 i1).Tx), .slice A12_3 ((nth y1_m0 i1).Steps.length) cp12_3, .slice A12_4 ((nth y1_m0 i1).Answers.length) cp12_4, .int .i64 ((nth y1_m0 i1).Began), .int .i64 ((nth y1_m0 i1).Ended), .bool ((nth y1_m0 i1).Laid)] rfl rfl rfl (by rw [Int.toNat_natCast]; rfl) rfl (chkOne_size one3) rfl rfl rfl rfl fun w16 (hS16 : SH (Off [Ck.own (α := List Entry) [.slice A0 p0.length cap0] p0 F0] w) w w16 [Ck.own (α := List Step) [.slice A12_3 ((nth y1_m0 i1).Steps.length) cp12_3] ((nth y1_m0 i1).Steps) F12_3, Ck.own (α := List Answer) [.slice A12_4 ((nth y1_m0 i1).Answers.length) cp12_4] ((nth y1_m0 i1).Answers) F12_4, Ck.elem (α := Entry) g12 i1 cap0 [.int .i64 s1_1, .int .i64 ((nth y1_m0 i1).Kind), .int .i64 ((nth y1_m0 i1).Tx), .slice A12_3 ((nth y1_m0 i1).Steps.length) cp12_3, .slice A12_4 ((nth y1_m0 i1).Answers.length) cp12_4, .int .i64 ((nth y1_m0 i1).Began), .int .i64 ((nth y1_m0 i1).Ended), .bool ((nth y1_m0 i1).Laid)] y1_m0 Fo12]) a17 hE17 => wpList_nil ?_
    clear hE11 hE14 hE15
    clear a11 a14 a15
    refine then_normal ?_
    refine wp_seq (wp_region_lit ?_)
    refine st_val hE17 (y_move hE17 rfl) rfl fun a18 hE18 => st_val hE18 (y_add hE18 rfl rfl) rfl fun a19 hE19 => st_val hE19 (y_assign hE19 rfl) rfl fun a20 hE20 => wpList_nil ?_
    clear hE17 hE18 hE19
    clear a17 a18 a19
    refine then_normal ?_
    refine wp_seq (wp_region_lit ?_)
    refine st_val hE20 (y_move hE20 rfl) rfl fun a21 hE21 => st_val hE21 (y_move hE21 rfl) rfl fun a22 hE22 => st_val hE22 (y_move hE22 rfl) rfl fun a23 hE23 => ?_
    refine st_val hE23 (y_indexAddr (A := ⟨g12, 0, none⟩) hE23 (congrArg (fun A => some (Value.slice A p0.length cap0)) hA12) rfl (by omega) (by omega) sl41) rfl fun a24 hE24 => st_val hE24 (y_fieldAddr hE24 rfl fa153_1 rfl) rfl fun a25 hE25 => st_storeE (α := Entry) (k := 2) hE25 hS16 [.int .i64 s1_1, .int .i64 (IntKind.i64.wrap (s1_1 + 1)), .int .i64 ((nth y1_m0 i1).Tx), .slice A12_3 ((nth y1_m0 i1).Steps.length) cp12_3, .slice A12_4 ((nth y1_m0 i1).Answers.length) cp12_4, .int .i64 ((nth y1_m0 i1).Began), .int .i64 ((nth y1_m0 i1).Ended), .bool ((nth y1_m0 i1).Laid)] rfl rfl rfl (by rw [Int.toNat_natCast]; rfl) rfl (chkOne_size one3) rfl rfl rfl rfl fun w26 (hS26 : SH (Off [Ck.own (α := List Entry) [.slice A0 p0.length cap0] p0 F0] w) w w26 [Ck.own (α := List Step) [.slice A12_3 ((nth y1_m0 i1).Steps.length) cp12_3] ((nth y1_m0 i1).Steps) F12_3, Ck.own (α := List Answer) [.slice A12_4 ((nth y1_m0 i1).Answers.length) cp12_4] ((nth y1_m0 i1).Answers) F12_4, Ck.elem (α := Entry) g12 i1 cap0 [.int .i64 s1_1, .int .i64 (IntKind.i64.wrap (s1_1 + 1)), .int .i64 ((nth y1_m0 i1).Tx), .slice A12_3 ((nth y1_m0 i1).Steps.length) cp12_3, .slice A12_4 ((nth y1_m0 i1).Answers.length) cp12_4, .int .i64 ((nth y1_m0 i1).Began), .int .i64 ((nth y1_m0 i1).Ended), .bool ((nth y1_m0 i1).Laid)] y1_m0 Fo12]) a27 hE27 => wpList_nil ?_
    clear hE20 hE21 hE22 hE23 hE24 hE25
    clear a20 a21 a22 a23 a24 a25
    refine then_normal ?_
    refine wp_seq (wp_region_lit ?_)
    refine st_val hE27 (y_move hE27 rfl) rfl fun a28 hE28 => st_val hE28 (y_add hE28 rfl rfl) rfl fun a29 hE29 => st_val hE29 (y_assign hE29 rfl) rfl fun a30 hE30 => wpList_nil ?_
    clear hE27 hE28 hE29
    clear a27 a28 a29
    refine then_normal ?_
    refine wp_seq (wp_region_lit ?_)
    refine st_val hE30 (y_move hE30 rfl) rfl fun a31 hE31 => st_val hE31 (y_move hE31 rfl) rfl fun a32 hE32 => st_val hE32 (y_move hE32 rfl) rfl fun a33 hE33 => ?_
    refine st_val hE33 (y_indexAddr (A := ⟨g12, 0, none⟩) hE33 (congrArg (fun A => some (Value.slice A p0.length cap0)) hA12) rfl (by omega) (by omega) sl41) rfl fun a34 hE34 => st_val hE34 (y_fieldAddr hE34 rfl fa153_2 rfl) rfl fun a35 hE35 => st_storeE (α := Entry) (k := 2) hE35 hS26 [.int .i64 s1_1, .int .i64 (IntKind.i64.wrap (s1_1 + 1)), .int .i64 (IntKind.i64.wrap (IntKind.i64.wrap (s1_1 + 1) + 1)), .slice A12_3 ((nth y1_m0 i1).Steps.length) cp12_3, .slice A12_4 ((nth y1_m0 i1).Answers.length) cp12_4, .int .i64 ((nth y1_m0 i1).Began), .int .i64 ((nth y1_m0 i1).Ended), .bool ((nth y1_m0 i1).Laid)] rfl rfl rfl (by rw [Int.toNat_natCast]; rfl) rfl (chkOne_size one3) rfl rfl rfl rfl fun w36 (hS36 : SH (Off [Ck.own (α := List Entry) [.slice A0 p0.length cap0] p0 F0] w) w w36 [Ck.own (α := List Step) [.slice A12_3 ((nth y1_m0 i1).Steps.length) cp12_3] ((nth y1_m0 i1).Steps) F12_3, Ck.own (α := List Answer) [.slice A12_4 ((nth y1_m0 i1).Answers.length) cp12_4] ((nth y1_m0 i1).Answers) F12_4, Ck.elem (α := Entry) g12 i1 cap0 [.int .i64 s1_1, .int .i64 (IntKind.i64.wrap (s1_1 + 1)), .int .i64 (IntKind.i64.wrap (IntKind.i64.wrap (s1_1 + 1) + 1)), .slice A12_3 ((nth y1_m0 i1).Steps.length) cp12_3, .slice A12_4 ((nth y1_m0 i1).Answers.length) cp12_4, .int .i64 ((nth y1_m0 i1).Began), .int .i64 ((nth y1_m0 i1).Ended), .bool ((nth y1_m0 i1).Laid)] y1_m0 Fo12]) a37 hE37 => wpList_nil ?_
    clear hE30 hE31 hE32 hE33 hE34 hE35
    clear a30 a31 a32 a33 a34 a35
    refine then_normal ?_
    refine wp_seq (wp_region_lit ?_)
    refine st_val hE37 (y_move hE37 rfl) rfl fun a38 hE38 => st_val hE38 (y_add hE38 rfl rfl) rfl fun a39 hE39 => st_val hE39 (y_assign hE39 rfl) rfl fun a40 hE40 => wpList_nil ?_
    clear hE37 hE38 hE39
    clear a37 a38 a39
    refine then_normal ?_
    refine wp_seq (wp_region_lit ?_)
    refine st_val hE40 (y_move hE40 rfl) rfl fun a41 hE41 => st_val hE41 (y_move hE41 rfl) rfl fun a42 hE42 => ?_
    refine st_val hE42 (y_indexAddr (A := ⟨g12, 0, none⟩) hE42 (congrArg (fun A => some (Value.slice A p0.length cap0)) hA12) rfl (by omega) (by omega) sl41) rfl fun a43 hE43 => st_val hE43 (y_fieldAddr hE43 rfl fa153_3 rfl) rfl fun a44 hE44 => st_val hE44 (y_load_one hE44 rfl (hS36.elemCells (k := 2) (p := (((i1 : Int)).toNat * 8)) rfl (by rw [Int.toNat_natCast]; rfl)) rfl one151) rfl fun a45 hE45 => st_val hE45 (y_move hE45 rfl) rfl fun a46 hE46 => ?_
    have hP47 : SH (Off [Ck.own (α := List Entry) [.slice A0 p0.length cap0] p0 F0] w) w w36 (Ck.own (α := List Step) [.slice A12_3 ((nth y1_m0 i1).Steps.length) cp12_3] ((nth y1_m0 i1).Steps) F12_3 :: [Ck.own (α := List Answer) [.slice A12_4 ((nth y1_m0 i1).Answers.length) cp12_4] ((nth y1_m0 i1).Answers) F12_4, Ck.elem (α := Entry) g12 i1 cap0 [.int .i64 s1_1, .int .i64 (IntKind.i64.wrap (s1_1 + 1)), .int .i64 (IntKind.i64.wrap (IntKind.i64.wrap (s1_1 + 1) + 1)), .slice A12_3 ((nth y1_m0 i1).Steps.length) cp12_3, .slice A12_4 ((nth y1_m0 i1).Answers.length) cp12_4, .int .i64 ((nth y1_m0 i1).Began), .int .i64 ((nth y1_m0 i1).Ended), .bool ((nth y1_m0 i1).Laid)] y1_m0 Fo12]) := hS36
    refine st_callM (c := Ck.own (α := List Step) [.slice A12_3 ((nth y1_m0 i1).Steps.length) cp12_3] ((nth y1_m0 i1).Steps) F12_3) (c' := fun F47 => Ck.own (α := List Step) [.slice A12_3 ((nth y1_m0 i1).Steps.length) cp12_3] ((laws_markStepS ((nth y1_m0 i1).Steps) (IntKind.i64.wrap (IntKind.i64.wrap (IntKind.i64.wrap (s1_1 + 1) + 1) + 1))).1) F47) (R := I64 (laws_markStepS ((nth y1_m0 i1).Steps) (IntKind.i64.wrap (IntKind.i64.wrap (IntKind.i64.wrap (s1_1 + 1) + 1) + 1))).2) hE46 hP47 Tryz.func142 fb142 fn142 (c_laws_markStepS ((nth y1_m0 i1).Steps) (IntKind.i64.wrap (IntKind.i64.wrap (IntKind.i64.wrap (s1_1 + 1) + 1) + 1)) (SH.off (M := [Ck.own (α := List Step) [.slice A12_3 ((nth y1_m0 i1).Steps.length) cp12_3] ((nth y1_m0 i1).Steps) F12_3]) (R := [Ck.own (α := List Answer) [.slice A12_4 ((nth y1_m0 i1).Answers.length) cp12_4] ((nth y1_m0 i1).Answers) F12_4, Ck.elem (α := Entry) g12 i1 cap0 [.int .i64 s1_1, .int .i64 (IntKind.i64.wrap (s1_1 + 1)), .int .i64 (IntKind.i64.wrap (IntKind.i64.wrap (s1_1 + 1) + 1)), .slice A12_3 ((nth y1_m0 i1).Steps.length) cp12_3, .slice A12_4 ((nth y1_m0 i1).Answers.length) cp12_4, .int .i64 ((nth y1_m0 i1).Began), .int .i64 ((nth y1_m0 i1).Ended), .bool ((nth y1_m0 i1).Laid)] y1_m0 Fo12]) hP47) (I64_wrap _)) rfl rfl fun F47 w47 hR47 hS47 a48 hE48 => st_val hE48 (y_assign hE48 rfl) rfl fun a49 hE49 => wpList_nil ?_
    clear hE40 hE41 hE42 hE43 hE44 hE45 hE46 hE48
    clear a40 a41 a42 a43 a44 a45 a46 a48
    refine then_normal ?_
    refine wp_seq (wp_region_lit ?_)
    refine st_val hE49 (y_move hE49 rfl) rfl fun a50 hE50 => st_val hE50 (y_move hE50 rfl) rfl fun a51 hE51 => ?_
    refine st_val hE51 (y_indexAddr (A := ⟨g12, 0, none⟩) hE51 (congrArg (fun A => some (Value.slice A p0.length cap0)) hA12) rfl (by omega) (by omega) sl41) rfl fun a52 hE52 => st_val hE52 (y_fieldAddr hE52 rfl fa153_4 rfl) rfl fun a53 hE53 => st_val hE53 (y_load_one hE53 rfl (hS47.elemCells (k := 2) (p := (((i1 : Int)).toNat * 8)) rfl (by rw [Int.toNat_natCast]; rfl)) rfl one146) rfl fun a54 hE54 => st_val hE54 (y_move hE54 rfl) rfl fun a55 hE55 => ?_
    have hP56 : SH (Off [Ck.own (α := List Entry) [.slice A0 p0.length cap0] p0 F0] w) w w47 (Ck.own (α := List Answer) [.slice A12_4 ((nth y1_m0 i1).Answers.length) cp12_4] ((nth y1_m0 i1).Answers) F12_4 :: [Ck.own (α := List Step) [.slice A12_3 ((nth y1_m0 i1).Steps.length) cp12_3] ((laws_markStepS ((nth y1_m0 i1).Steps) (IntKind.i64.wrap (IntKind.i64.wrap (IntKind.i64.wrap (s1_1 + 1) + 1) + 1))).1) F47, Ck.elem (α := Entry) g12 i1 cap0 [.int .i64 s1_1, .int .i64 (IntKind.i64.wrap (s1_1 + 1)), .int .i64 (IntKind.i64.wrap (IntKind.i64.wrap (s1_1 + 1) + 1)), .slice A12_3 ((nth y1_m0 i1).Steps.length) cp12_3, .slice A12_4 ((nth y1_m0 i1).Answers.length) cp12_4, .int .i64 ((nth y1_m0 i1).Began), .int .i64 ((nth y1_m0 i1).Ended), .bool ((nth y1_m0 i1).Laid)] y1_m0 Fo12]) := (hS47.pick [1, 0, 2] (by decide) rfl)
    refine st_callM (c := Ck.own (α := List Answer) [.slice A12_4 ((nth y1_m0 i1).Answers.length) cp12_4] ((nth y1_m0 i1).Answers) F12_4) (c' := fun F56 => Ck.own (α := List Answer) [.slice A12_4 ((nth y1_m0 i1).Answers.length) cp12_4] ((laws_markAnswerS ((nth y1_m0 i1).Answers) ((laws_markStepS ((nth y1_m0 i1).Steps) (IntKind.i64.wrap (IntKind.i64.wrap (IntKind.i64.wrap (s1_1 + 1) + 1) + 1))).2)).1) F56) (R := I64 (laws_markAnswerS ((nth y1_m0 i1).Answers) ((laws_markStepS ((nth y1_m0 i1).Steps) (IntKind.i64.wrap (IntKind.i64.wrap (IntKind.i64.wrap (s1_1 + 1) + 1) + 1))).2)).2) hE55 hP56 Tryz.func139 fb139 fn139 (c_laws_markAnswerS ((nth y1_m0 i1).Answers) ((laws_markStepS ((nth y1_m0 i1).Steps) (IntKind.i64.wrap (IntKind.i64.wrap (IntKind.i64.wrap (s1_1 + 1) + 1) + 1))).2) (SH.off (M := [Ck.own (α := List Answer) [.slice A12_4 ((nth y1_m0 i1).Answers.length) cp12_4] ((nth y1_m0 i1).Answers) F12_4]) (R := [Ck.own (α := List Step) [.slice A12_3 ((nth y1_m0 i1).Steps.length) cp12_3] ((laws_markStepS ((nth y1_m0 i1).Steps) (IntKind.i64.wrap (IntKind.i64.wrap (IntKind.i64.wrap (s1_1 + 1) + 1) + 1))).1) F47, Ck.elem (α := Entry) g12 i1 cap0 [.int .i64 s1_1, .int .i64 (IntKind.i64.wrap (s1_1 + 1)), .int .i64 (IntKind.i64.wrap (IntKind.i64.wrap (s1_1 + 1) + 1)), .slice A12_3 ((nth y1_m0 i1).Steps.length) cp12_3, .slice A12_4 ((nth y1_m0 i1).Answers.length) cp12_4, .int .i64 ((nth y1_m0 i1).Began), .int .i64 ((nth y1_m0 i1).Ended), .bool ((nth y1_m0 i1).Laid)] y1_m0 Fo12]) hP56) hR47) rfl rfl fun F56 w56 hR56 hS56 a57 hE57 => st_val hE57 (y_assign hE57 rfl) rfl fun a58 hE58 => wpList_nil ?_
    clear hE49 hE50 hE51 hE52 hE53 hE54 hE55 hE57
    clear a49 a50 a51 a52 a53 a54 a55 a57
    refine then_normal ?_
    refine wp_seq (wp_region_lit ?_)
    refine st_val hE58 (y_move hE58 rfl) rfl fun a59 hE59 => st_val hE59 (y_move hE59 rfl) rfl fun a60 hE60 => st_val hE60 (y_move hE60 rfl) rfl fun a61 hE61 => ?_
    refine st_val hE61 (y_indexAddr (A := ⟨g12, 0, none⟩) hE61 (congrArg (fun A => some (Value.slice A p0.length cap0)) hA12) rfl (by omega) (by omega) sl41) rfl fun a62 hE62 => st_val hE62 (y_fieldAddr hE62 rfl fa153_5 rfl) rfl fun a63 hE63 => st_storeE (α := Entry) (k := 2) hE63 hS56 [.int .i64 s1_1, .int .i64 (IntKind.i64.wrap (s1_1 + 1)), .int .i64 (IntKind.i64.wrap (IntKind.i64.wrap (s1_1 + 1) + 1)), .slice A12_3 ((nth y1_m0 i1).Steps.length) cp12_3, .slice A12_4 ((nth y1_m0 i1).Answers.length) cp12_4, .int .i64 ((laws_markAnswerS ((nth y1_m0 i1).Answers) ((laws_markStepS ((nth y1_m0 i1).Steps) (IntKind.i64.wrap (IntKind.i64.wrap (IntKind.i64.wrap (s1_1 + 1) + 1) + 1))).2)).2), .int .i64 ((nth y1_m0 i1).Ended), .bool ((nth y1_m0 i1).Laid)] rfl rfl rfl (by rw [Int.toNat_natCast]; rfl) rfl (chkOne_size one3) rfl rfl rfl rfl fun w64 (hS64 : SH (Off [Ck.own (α := List Entry) [.slice A0 p0.length cap0] p0 F0] w) w w64 [Ck.own (α := List Answer) [.slice A12_4 ((nth y1_m0 i1).Answers.length) cp12_4] ((laws_markAnswerS ((nth y1_m0 i1).Answers) ((laws_markStepS ((nth y1_m0 i1).Steps) (IntKind.i64.wrap (IntKind.i64.wrap (IntKind.i64.wrap (s1_1 + 1) + 1) + 1))).2)).1) F56, Ck.own (α := List Step) [.slice A12_3 ((nth y1_m0 i1).Steps.length) cp12_3] ((laws_markStepS ((nth y1_m0 i1).Steps) (IntKind.i64.wrap (IntKind.i64.wrap (IntKind.i64.wrap (s1_1 + 1) + 1) + 1))).1) F47, Ck.elem (α := Entry) g12 i1 cap0 [.int .i64 s1_1, .int .i64 (IntKind.i64.wrap (s1_1 + 1)), .int .i64 (IntKind.i64.wrap (IntKind.i64.wrap (s1_1 + 1) + 1)), .slice A12_3 ((nth y1_m0 i1).Steps.length) cp12_3, .slice A12_4 ((nth y1_m0 i1).Answers.length) cp12_4, .int .i64 ((laws_markAnswerS ((nth y1_m0 i1).Answers) ((laws_markStepS ((nth y1_m0 i1).Steps) (IntKind.i64.wrap (IntKind.i64.wrap (IntKind.i64.wrap (s1_1 + 1) + 1) + 1))).2)).2), .int .i64 ((nth y1_m0 i1).Ended), .bool ((nth y1_m0 i1).Laid)] y1_m0 Fo12]) a65 hE65 => wpList_nil ?_
    clear hE58 hE59 hE60 hE61 hE62 hE63
    clear a58 a59 a60 a61 a62 a63
    refine then_normal ?_
    refine wp_seq (wp_region_lit ?_)
    refine st_val hE65 (y_move hE65 rfl) rfl fun a66 hE66 => st_val hE66 (y_add hE66 rfl rfl) rfl fun a67 hE67 => st_val hE67 (y_assign hE67 rfl) rfl fun a68 hE68 => wpList_nil ?_
    clear hE65 hE66 hE67
    clear a65 a66 a67
    refine then_normal ?_
    refine wp_seq (wp_region_lit ?_)
    refine st_val hE68 (y_move hE68 rfl) rfl fun a69 hE69 => st_val hE69 (y_move hE69 rfl) rfl fun a70 hE70 => st_val hE70 (y_move hE70 rfl) rfl fun a71 hE71 => ?_
    refine st_val hE71 (y_indexAddr (A := ⟨g12, 0, none⟩) hE71 (congrArg (fun A => some (Value.slice A p0.length cap0)) hA12) rfl (by omega) (by omega) sl41) rfl fun a72 hE72 => st_val hE72 (y_fieldAddr hE72 rfl fa153_6 rfl) rfl fun a73 hE73 => st_storeE (α := Entry) (k := 2) hE73 hS64 [.int .i64 s1_1, .int .i64 (IntKind.i64.wrap (s1_1 + 1)), .int .i64 (IntKind.i64.wrap (IntKind.i64.wrap (s1_1 + 1) + 1)), .slice A12_3 ((nth y1_m0 i1).Steps.length) cp12_3, .slice A12_4 ((nth y1_m0 i1).Answers.length) cp12_4, .int .i64 ((laws_markAnswerS ((nth y1_m0 i1).Answers) ((laws_markStepS ((nth y1_m0 i1).Steps) (IntKind.i64.wrap (IntKind.i64.wrap (IntKind.i64.wrap (s1_1 + 1) + 1) + 1))).2)).2), .int .i64 (IntKind.i64.wrap ((laws_markAnswerS ((nth y1_m0 i1).Answers) ((laws_markStepS ((nth y1_m0 i1).Steps) (IntKind.i64.wrap (IntKind.i64.wrap (IntKind.i64.wrap (s1_1 + 1) + 1) + 1))).2)).2 + 1)), .bool ((nth y1_m0 i1).Laid)] rfl rfl rfl (by rw [Int.toNat_natCast]; rfl) rfl (chkOne_size one3) rfl rfl rfl rfl fun w74 (hS74 : SH (Off [Ck.own (α := List Entry) [.slice A0 p0.length cap0] p0 F0] w) w w74 [Ck.own (α := List Answer) [.slice A12_4 ((nth y1_m0 i1).Answers.length) cp12_4] ((laws_markAnswerS ((nth y1_m0 i1).Answers) ((laws_markStepS ((nth y1_m0 i1).Steps) (IntKind.i64.wrap (IntKind.i64.wrap (IntKind.i64.wrap (s1_1 + 1) + 1) + 1))).2)).1) F56, Ck.own (α := List Step) [.slice A12_3 ((nth y1_m0 i1).Steps.length) cp12_3] ((laws_markStepS ((nth y1_m0 i1).Steps) (IntKind.i64.wrap (IntKind.i64.wrap (IntKind.i64.wrap (s1_1 + 1) + 1) + 1))).1) F47, Ck.elem (α := Entry) g12 i1 cap0 [.int .i64 s1_1, .int .i64 (IntKind.i64.wrap (s1_1 + 1)), .int .i64 (IntKind.i64.wrap (IntKind.i64.wrap (s1_1 + 1) + 1)), .slice A12_3 ((nth y1_m0 i1).Steps.length) cp12_3, .slice A12_4 ((nth y1_m0 i1).Answers.length) cp12_4, .int .i64 ((laws_markAnswerS ((nth y1_m0 i1).Answers) ((laws_markStepS ((nth y1_m0 i1).Steps) (IntKind.i64.wrap (IntKind.i64.wrap (IntKind.i64.wrap (s1_1 + 1) + 1) + 1))).2)).2), .int .i64 (IntKind.i64.wrap ((laws_markAnswerS ((nth y1_m0 i1).Answers) ((laws_markStepS ((nth y1_m0 i1).Steps) (IntKind.i64.wrap (IntKind.i64.wrap (IntKind.i64.wrap (s1_1 + 1) + 1) + 1))).2)).2 + 1)), .bool ((nth y1_m0 i1).Laid)] y1_m0 Fo12]) a75 hE75 => wpList_nil ?_
    clear hE68 hE69 hE70 hE71 hE72 hE73
    clear a68 a69 a70 a71 a72 a73
    refine then_normal ?_
    refine wp_seq (wp_region_lit ?_)
    refine st_val hE75 (y_move hE75 rfl) rfl fun a76 hE76 => st_val hE76 (y_add hE76 rfl rfl) rfl fun a77 hE77 => st_val hE77 (y_assign hE77 rfl) rfl fun a78 hE78 => wpList_nil ?_
    clear hE75 hE76 hE77
    clear a75 a76 a77
    refine then_normal ?_
    refine wp_seq (wp_region_lit ?_)
    refine st_val hE78 (y_move hE78 rfl) rfl fun a79 hE79 => st_val hE79 (y_move hE79 rfl) rfl fun a80 hE80 => st_val hE80 (y_move hE80 rfl) rfl fun a81 hE81 => st_val hE81 (y_rem hE81 rfl rfl (by decide)) rfl fun a82 hE82 => st_val hE82 (y_eql hE82 rfl rfl) rfl fun a83 hE83 => ?_
    refine st_val hE83 (y_indexAddr (A := ⟨g12, 0, none⟩) hE83 (congrArg (fun A => some (Value.slice A p0.length cap0)) hA12) rfl (by omega) (by omega) sl41) rfl fun a84 hE84 => st_val hE84 (y_fieldAddr hE84 rfl fa153_7 rfl) rfl fun a85 hE85 => st_storeE (α := Entry) (k := 2) hE85 hS74 [.int .i64 s1_1, .int .i64 (IntKind.i64.wrap (s1_1 + 1)), .int .i64 (IntKind.i64.wrap (IntKind.i64.wrap (s1_1 + 1) + 1)), .slice A12_3 ((nth y1_m0 i1).Steps.length) cp12_3, .slice A12_4 ((nth y1_m0 i1).Answers.length) cp12_4, .int .i64 ((laws_markAnswerS ((nth y1_m0 i1).Answers) ((laws_markStepS ((nth y1_m0 i1).Steps) (IntKind.i64.wrap (IntKind.i64.wrap (IntKind.i64.wrap (s1_1 + 1) + 1) + 1))).2)).2), .int .i64 (IntKind.i64.wrap ((laws_markAnswerS ((nth y1_m0 i1).Answers) ((laws_markStepS ((nth y1_m0 i1).Steps) (IntKind.i64.wrap (IntKind.i64.wrap (IntKind.i64.wrap (s1_1 + 1) + 1) + 1))).2)).2 + 1)), .bool (decide (Int.tmod (IntKind.i64.wrap (IntKind.i64.wrap ((laws_markAnswerS ((nth y1_m0 i1).Answers) ((laws_markStepS ((nth y1_m0 i1).Steps) (IntKind.i64.wrap (IntKind.i64.wrap (IntKind.i64.wrap (s1_1 + 1) + 1) + 1))).2)).2 + 1) + 1)) 3 = 0))] rfl rfl rfl (by rw [Int.toNat_natCast]; rfl) rfl (chkOne_size one4) rfl rfl rfl rfl fun w86 (hS86 : SH (Off [Ck.own (α := List Entry) [.slice A0 p0.length cap0] p0 F0] w) w w86 [Ck.own (α := List Answer) [.slice A12_4 ((nth y1_m0 i1).Answers.length) cp12_4] ((laws_markAnswerS ((nth y1_m0 i1).Answers) ((laws_markStepS ((nth y1_m0 i1).Steps) (IntKind.i64.wrap (IntKind.i64.wrap (IntKind.i64.wrap (s1_1 + 1) + 1) + 1))).2)).1) F56, Ck.own (α := List Step) [.slice A12_3 ((nth y1_m0 i1).Steps.length) cp12_3] ((laws_markStepS ((nth y1_m0 i1).Steps) (IntKind.i64.wrap (IntKind.i64.wrap (IntKind.i64.wrap (s1_1 + 1) + 1) + 1))).1) F47, Ck.elem (α := Entry) g12 i1 cap0 [.int .i64 s1_1, .int .i64 (IntKind.i64.wrap (s1_1 + 1)), .int .i64 (IntKind.i64.wrap (IntKind.i64.wrap (s1_1 + 1) + 1)), .slice A12_3 ((nth y1_m0 i1).Steps.length) cp12_3, .slice A12_4 ((nth y1_m0 i1).Answers.length) cp12_4, .int .i64 ((laws_markAnswerS ((nth y1_m0 i1).Answers) ((laws_markStepS ((nth y1_m0 i1).Steps) (IntKind.i64.wrap (IntKind.i64.wrap (IntKind.i64.wrap (s1_1 + 1) + 1) + 1))).2)).2), .int .i64 (IntKind.i64.wrap ((laws_markAnswerS ((nth y1_m0 i1).Answers) ((laws_markStepS ((nth y1_m0 i1).Steps) (IntKind.i64.wrap (IntKind.i64.wrap (IntKind.i64.wrap (s1_1 + 1) + 1) + 1))).2)).2 + 1)), .bool (decide (Int.tmod (IntKind.i64.wrap (IntKind.i64.wrap ((laws_markAnswerS ((nth y1_m0 i1).Answers) ((laws_markStepS ((nth y1_m0 i1).Steps) (IntKind.i64.wrap (IntKind.i64.wrap (IntKind.i64.wrap (s1_1 + 1) + 1) + 1))).2)).2 + 1) + 1)) 3 = 0))] y1_m0 Fo12]) a87 hE87 => wpList_nil ?_
    clear hE78 hE79 hE80 hE81 hE82 hE83 hE84 hE85
    clear a78 a79 a80 a81 a82 a83 a84 a85
    refine then_normal ?_
    refine wp_region_lit ?_
    refine st_val hE87 (y_move hE87 rfl) rfl fun a88 hE88 => st_val hE88 (y_add hE88 rfl rfl) rfl fun a89 hE89 => st_val hE89 (y_assign hE89 rfl) rfl fun a90 hE90 => wpList_nil ?_
    clear hE87 hE88 hE89
    clear a87 a88 a89
    refine blk_normal ?_
    refine then_normal ?_
    refine wp_region_lit ?_
    refine st_val hE90 (y_move hE90 rfl) rfl fun a91 hE91 => st_val hE91 (y_add_in hE91 rfl rfl (m := ((i1 + 1 : Nat) : Int)) (by omega) (by omega) (by omega)) rfl fun a92 hE92 => st_val hE92 (y_assign hE92 rfl) rfl fun a93 hE93 => wpList_nil ?_
    clear hE90 hE91 hE92
    clear a90 a91 a92
    have hJ94 := SH.joinP (L := [Ck.elem (α := Entry) g12 i1 cap0 [.int .i64 s1_1, .int .i64 (IntKind.i64.wrap (s1_1 + 1)), .int .i64 (IntKind.i64.wrap (IntKind.i64.wrap (s1_1 + 1) + 1)), .slice A12_3 ((nth y1_m0 i1).Steps.length) cp12_3, .slice A12_4 ((nth y1_m0 i1).Answers.length) cp12_4, .int .i64 ((laws_markAnswerS ((nth y1_m0 i1).Answers) ((laws_markStepS ((nth y1_m0 i1).Steps) (IntKind.i64.wrap (IntKind.i64.wrap (IntKind.i64.wrap (s1_1 + 1) + 1) + 1))).2)).2), .int .i64 (IntKind.i64.wrap ((laws_markAnswerS ((nth y1_m0 i1).Answers) ((laws_markStepS ((nth y1_m0 i1).Steps) (IntKind.i64.wrap (IntKind.i64.wrap (IntKind.i64.wrap (s1_1 + 1) + 1) + 1))).2)).2 + 1)), .bool (decide (Int.tmod (IntKind.i64.wrap (IntKind.i64.wrap ((laws_markAnswerS ((nth y1_m0 i1).Answers) ((laws_markStepS ((nth y1_m0 i1).Steps) (IntKind.i64.wrap (IntKind.i64.wrap (IntKind.i64.wrap (s1_1 + 1) + 1) + 1))).2)).2 + 1) + 1)) 3 = 0))] y1_m0 Fo12]) (M := [Ck.own (α := List Step) [.slice A12_3 ((nth y1_m0 i1).Steps.length) cp12_3] ((laws_markStepS ((nth y1_m0 i1).Steps) (IntKind.i64.wrap (IntKind.i64.wrap (IntKind.i64.wrap (s1_1 + 1) + 1) + 1))).1) F47, Ck.own (α := List Answer) [.slice A12_4 ((nth y1_m0 i1).Answers.length) cp12_4] ((laws_markAnswerS ((nth y1_m0 i1).Answers) ((laws_markStepS ((nth y1_m0 i1).Steps) (IntKind.i64.wrap (IntKind.i64.wrap (IntKind.i64.wrap (s1_1 + 1) + 1) + 1))).2)).1) F56]) (c := Ck.own (α := Entry) [.int .i64 s1_1, .int .i64 (IntKind.i64.wrap (s1_1 + 1)), .int .i64 (IntKind.i64.wrap (IntKind.i64.wrap (s1_1 + 1) + 1)), .slice A12_3 ((nth y1_m0 i1).Steps.length) cp12_3, .slice A12_4 ((nth y1_m0 i1).Answers.length) cp12_4, .int .i64 ((laws_markAnswerS ((nth y1_m0 i1).Answers) ((laws_markStepS ((nth y1_m0 i1).Steps) (IntKind.i64.wrap (IntKind.i64.wrap (IntKind.i64.wrap (s1_1 + 1) + 1) + 1))).2)).2), .int .i64 (IntKind.i64.wrap ((laws_markAnswerS ((nth y1_m0 i1).Answers) ((laws_markStepS ((nth y1_m0 i1).Steps) (IntKind.i64.wrap (IntKind.i64.wrap (IntKind.i64.wrap (s1_1 + 1) + 1) + 1))).2)).2 + 1)), .bool (decide (Int.tmod (IntKind.i64.wrap (IntKind.i64.wrap ((laws_markAnswerS ((nth y1_m0 i1).Answers) ((laws_markStepS ((nth y1_m0 i1).Steps) (IntKind.i64.wrap (IntKind.i64.wrap (IntKind.i64.wrap (s1_1 + 1) + 1) + 1))).2)).2 + 1) + 1)) 3 = 0))] (Entry.mk s1_1 (IntKind.i64.wrap (s1_1 + 1)) (IntKind.i64.wrap (IntKind.i64.wrap (s1_1 + 1) + 1)) ((laws_markStepS ((nth y1_m0 i1).Steps) (IntKind.i64.wrap (IntKind.i64.wrap (IntKind.i64.wrap (s1_1 + 1) + 1) + 1))).1) ((laws_markAnswerS ((nth y1_m0 i1).Answers) ((laws_markStepS ((nth y1_m0 i1).Steps) (IntKind.i64.wrap (IntKind.i64.wrap (IntKind.i64.wrap (s1_1 + 1) + 1) + 1))).2)).1) ((laws_markAnswerS ((nth y1_m0 i1).Answers) ((laws_markStepS ((nth y1_m0 i1).Steps) (IntKind.i64.wrap (IntKind.i64.wrap (IntKind.i64.wrap (s1_1 + 1) + 1) + 1))).2)).2) (IntKind.i64.wrap ((laws_markAnswerS ((nth y1_m0 i1).Answers) ((laws_markStepS ((nth y1_m0 i1).Steps) (IntKind.i64.wrap (IntKind.i64.wrap (IntKind.i64.wrap (s1_1 + 1) + 1) + 1))).2)).2 + 1)) (decide (Int.tmod (IntKind.i64.wrap (IntKind.i64.wrap ((laws_markAnswerS ((nth y1_m0 i1).Answers) ((laws_markStepS ((nth y1_m0 i1).Steps) (IntKind.i64.wrap (IntKind.i64.wrap (IntKind.i64.wrap (s1_1 + 1) + 1) + 1))).2)).2 + 1) + 1)) 3 = 0))) (F47 ++ (F56 ++ []))) (hS86.pick [1, 0, 2] (by decide) rfl) (List.Perm.of_eq (by simp only [Ck.own, List.flatMap_cons, List.flatMap_nil, List.append_nil, List.append_assoc])) (ok_st (Entry_own (x := (Entry.mk s1_1 (IntKind.i64.wrap (s1_1 + 1)) (IntKind.i64.wrap (IntKind.i64.wrap (s1_1 + 1) + 1)) ((laws_markStepS ((nth y1_m0 i1).Steps) (IntKind.i64.wrap (IntKind.i64.wrap (IntKind.i64.wrap (s1_1 + 1) + 1) + 1))).1) ((laws_markAnswerS ((nth y1_m0 i1).Answers) ((laws_markStepS ((nth y1_m0 i1).Steps) (IntKind.i64.wrap (IntKind.i64.wrap (IntKind.i64.wrap (s1_1 + 1) + 1) + 1))).2)).1) ((laws_markAnswerS ((nth y1_m0 i1).Answers) ((laws_markStepS ((nth y1_m0 i1).Steps) (IntKind.i64.wrap (IntKind.i64.wrap (IntKind.i64.wrap (s1_1 + 1) + 1) + 1))).2)).2) (IntKind.i64.wrap ((laws_markAnswerS ((nth y1_m0 i1).Answers) ((laws_markStepS ((nth y1_m0 i1).Steps) (IntKind.i64.wrap (IntKind.i64.wrap (IntKind.i64.wrap (s1_1 + 1) + 1) + 1))).2)).2 + 1)) (decide (Int.tmod (IntKind.i64.wrap (IntKind.i64.wrap ((laws_markAnswerS ((nth y1_m0 i1).Answers) ((laws_markStepS ((nth y1_m0 i1).Steps) (IntKind.i64.wrap (IntKind.i64.wrap (IntKind.i64.wrap (s1_1 + 1) + 1) + 1))).2)).2 + 1) + 1)) 3 = 0)))) hgis1_1 (I64_wrap _) (I64_wrap _) (hS86.slO (k := 1) rfl) (hS86.slO (k := 0) rfl) hR56 (I64_wrap _)))
    obtain ⟨F94, hS94⟩ := SH.unfocus (α := Entry) (L := []) hJ94 hA12 hn12 (by omega)
    refine then_normal ⟨fu1, Nat.lt_succ_self _, (i1 + 1), IntKind.i64.wrap (IntKind.i64.wrap (IntKind.i64.wrap ((laws_markAnswerS ((nth y1_m0 i1).Answers) ((laws_markStepS ((nth y1_m0 i1).Steps) (IntKind.i64.wrap (IntKind.i64.wrap (IntKind.i64.wrap (s1_1 + 1) + 1) + 1))).2)).2 + 1) + 1) + 1), (y1_m0.set i1 (Entry.mk s1_1 (IntKind.i64.wrap (s1_1 + 1)) (IntKind.i64.wrap (IntKind.i64.wrap (s1_1 + 1) + 1)) ((laws_markStepS ((nth y1_m0 i1).Steps) (IntKind.i64.wrap (IntKind.i64.wrap (IntKind.i64.wrap (s1_1 + 1) + 1) + 1))).1) ((laws_markAnswerS ((nth y1_m0 i1).Answers) ((laws_markStepS ((nth y1_m0 i1).Steps) (IntKind.i64.wrap (IntKind.i64.wrap (IntKind.i64.wrap (s1_1 + 1) + 1) + 1))).2)).1) ((laws_markAnswerS ((nth y1_m0 i1).Answers) ((laws_markStepS ((nth y1_m0 i1).Steps) (IntKind.i64.wrap (IntKind.i64.wrap (IntKind.i64.wrap (s1_1 + 1) + 1) + 1))).2)).2) (IntKind.i64.wrap ((laws_markAnswerS ((nth y1_m0 i1).Answers) ((laws_markStepS ((nth y1_m0 i1).Steps) (IntKind.i64.wrap (IntKind.i64.wrap (IntKind.i64.wrap (s1_1 + 1) + 1) + 1))).2)).2 + 1)) (decide (Int.tmod (IntKind.i64.wrap (IntKind.i64.wrap ((laws_markAnswerS ((nth y1_m0 i1).Answers) ((laws_markStepS ((nth y1_m0 i1).Steps) (IntKind.i64.wrap (IntKind.i64.wrap (IntKind.i64.wrap (s1_1 + 1) + 1) + 1))).2)).2 + 1) + 1)) 3 = 0)))), F94, by omega, by omega, .inl (by omega), (I64_wrap _), hM, hE93.weaken ⟨rfl, rfl, rfl, trivial⟩, hS94⟩
  ·
    have hge1 : ¬ i1 < p0.length := by have := of_decide_eq_false hb8; omega
    obtain rfl : fu1 = 0 := by omega
    have hM := hM.trans (laws_markEntryS_l1.eq_1 _ _ _ _ _)
    refine wp_exit ?_
    refine then_exit ?_
    refine then_exit ?_
    refine blk_exit ?_
    refine then_normal ?_
    refine wp_seq (wp_region_lit ?_)
    refine st_val hE7 (y_move hE7 rfl) rfl fun a95 hE95 => st_val hE95 (y_assign hE95 rfl) rfl fun a96 hE96 => wpList_nil ?_
    clear hE7 hE95
    clear a7 a95
    refine then_normal ?_
    refine wp_ret ?_
    refine fin1 hE96 rfl rfl ?_
    rw [hM]
    exact ⟨rfl, hgis1_1, Fy1_m0, hS3⟩

end Go.Proofs.YtnjidaonbcbphaaGreatDoor.Fw

/-
  The abstract machine: a field of an element of an own row is stored. No condition: every lemma is general in the program.
-/
namespace Go.Proofs.YtnjidaonbcbphaaGreatDoor.Fw
open Go.RowKit
set_option linter.unusedVariables false
set_option maxRecDepth 100000
def Fk.same {α : Type} (x y : α) : Fk α → Prop
  | .int g => g y = g x
  | .byte g => g y = g x
  | .bool g => g y = g x
  | .str g => g y = g x
  | .sl _ _ g => g y = g x
section
variable {α : Type} {x y : α} {u : Value} {w : World}
end
section
variable {c : Cx} {σ : St} {all : Array Oper} {ty : TypeId} {pos : String} {after : Array Edge} {d : Nat}
end
end Go.Proofs.YtnjidaonbcbphaaGreatDoor.Fw

/-
  The abstract machine: regions parted at a truth, least and greatest of two numbers, texts compared by order. No condition: every lemma is general in the program.
-/
namespace Go.Proofs.YtnjidaonbcbphaaGreatDoor.Fw
open Go.RowKit
set_option linter.unusedVariables false
set_option maxRecDepth 100000
section
variable {P : Program} {n : Nat} {ρ : List (Nat × Value)} {a : Act} {w : World} {ty : TypeId}
theorem y_min (hE : Env n ρ a) {x y : Operand} {ts : Array TypeId} {k q : IntKind} {i j : Int} (hx : ev? ρ x = some (.int k i)) (hy : ev? ρ y = some (.int q j)) :
    Yields P a w (.call { callee := .builtin .min, args := #[x, y], argTypes := ts }) ty (.int k (min i j)) := by
  intro _ _ _ _
  have e : (if j < i then j else i) = min i j := by split <;> omega
  simp [execOp, resolve, hE.eval hx, hE.eval hy, invoke, builtin, Builtin.min_, Builtin.min2, e]
theorem y_min3 (hE : Env n ρ a) {x y z : Operand} {ts : Array TypeId} {k q q' : IntKind} {i j m : Int} (hx : ev? ρ x = some (.int k i)) (hy : ev? ρ y = some (.int q j)) (hz : ev? ρ z = some (.int q' m)) :
    Yields P a w (.call { callee := .builtin .min, args := #[x, y, z], argTypes := ts }) ty (.int k (min (min i j) m)) := by
  intro _ _ _ _
  have e : (if j < i then j else i) = min i j := by split <;> omega
  have e' : (if m < min i j then m else min i j) = min (min i j) m := by split <;> omega
  simp [execOp, resolve, hE.eval hx, hE.eval hy, hE.eval hz, invoke, builtin, Builtin.min_, Builtin.min2, e, e']
end
section
variable {c : Cx} {σ : St} {all : Array Oper} {ty : TypeId} {pos : String} {after : Array Edge} {d : Nat}
theorem OpS.min2 {x y : Operand} {ts : Array TypeId} {k q : IntKind} {i j : Int} (hx : ev σ.ρ x = some (.v (.int k i))) (hy : ev σ.ρ y = some (.v (.int q j))) (hd : Nat.blt d σ.n = true) :
    OpS c σ all ⟨some d, .call { callee := .builtin .min, args := #[x, y], argTypes := ts }, ty, pos, after, none⟩ (put d (.v (.int k (min i j))) σ) :=
  OpS.of fun θ a w h K Q hK => by
    unfold Oper.wp
    rw [y_min (P := c.P) (w := w) (ty := ty) h.env.env (h.env.isv hx) (h.env.isv hy)]
    exact hK [] _ _ (h.put hd rfl).app0
theorem OpS.min3 {x y z : Operand} {ts : Array TypeId} {k q q' : IntKind} {i j m : Int} (hx : ev σ.ρ x = some (.v (.int k i))) (hy : ev σ.ρ y = some (.v (.int q j))) (hz : ev σ.ρ z = some (.v (.int q' m))) (hd : Nat.blt d σ.n = true) :
    OpS c σ all ⟨some d, .call { callee := .builtin .min, args := #[x, y, z], argTypes := ts }, ty, pos, after, none⟩ (put d (.v (.int k (min (min i j) m))) σ) :=
  OpS.of fun θ a w h K Q hK => by
    unfold Oper.wp
    rw [y_min3 (P := c.P) (w := w) (ty := ty) h.env.env (h.env.isv hx) (h.env.isv hy) (h.env.isv hz)]
    exact hK [] _ _ (h.put hd rfl).app0
end
end Go.Proofs.YtnjidaonbcbphaaGreatDoor.Fw

/-
  The steps of the later kinds. No condition.
-/
namespace Go.Proofs.YtnjidaonbcbphaaGreatDoor.Fw
open Go.RowKit
set_option linter.unusedVariables false
set_option maxRecDepth 100000
section
variable {fn : Func} {Bz : Bs} {S1 : Nat → Prop} {w1 : World} {hk1 : Keep Bz.S0 Bz.w w1} {hs1 : ∀ b, Bz.S0 b → S1 b} {hd1 : ∀ b, S1 b → b < w1.heap.size} {res : List Re} {k : List It} {σ σ' : St} {all : Array Oper} {ty : TypeId} {pos : String} {after : Array Edge} {d : Nat}
theorem b3 {x y z : Operand} {ts : Array TypeId} {k q q' : IntKind} {i j m : Int} (hx : ev σ.ρ x = some (.v (.int k i)) := by dsimp only [ev, evs, evsG, cons2, lk, lkE, cond, Nat.beq, evG, stO', V.strip, grd, grdO, nthO, gB, gBV, Nat.pred, wnt, List.toList_toArray, List.cons_append, List.nil_append, List.append_nil]) (hy : ev σ.ρ y = some (.v (.int q j)) := by dsimp only [ev, evs, evsG, cons2, lk, lkE, cond, Nat.beq, evG, stO', V.strip, grd, grdO, nthO, gB, gBV, Nat.pred, wnt, List.toList_toArray, List.cons_append, List.nil_append, List.append_nil]) (hz : ev σ.ρ z = some (.v (.int q' m)) := by dsimp only [ev, evs, evsG, cons2, lk, lkE, cond, Nat.beq, evG, stO', V.strip, grd, grdO, nthO, gB, gBV, Nat.pred, wnt, List.toList_toArray, List.cons_append, List.nil_append, List.append_nil]) (hd : Nat.blt d σ.n = true := by rfl) :
    OpS (cx fn Bz S1 w1 hk1 hs1 hd1) σ all ⟨some d, .call { callee := .builtin .min, args := #[x, y, z], argTypes := ts }, ty, pos, after, none⟩ (put d (.v (.int k (min (min i j) m))) σ) := OpS.min3 hx hy hz hd
end
end Go.Proofs.YtnjidaonbcbphaaGreatDoor.Fw

/-
  The abstract machine: regions that draw their order, where ways meet again. No condition: every lemma is general in the program.
-/
namespace Go.Proofs.YtnjidaonbcbphaaGreatDoor.Fw
open Go.RowKit
set_option linter.unusedVariables false

theorem SubE_mem {f : List Nat} {E : List (Nat × En)} : ∀ {js : List Nat} {E2 : List (Nat × En)}, SubE f E js E2 → ∀ e ∈ E2, ∃ q e', f[e.1]? = some q ∧ e.2.ren f = some e' ∧ (q, e') ∈ E
  | [], [], _, _, h => by cases h
  | [], _ :: _, h, _, _ => h.elim
  | _ :: _, [], h, _, _ => h.elim
  | i :: is, (r, e) :: E2, h, x, hx => by
    obtain ⟨h1, h2⟩ := h
    rcases List.mem_cons.1 hx with rfl | hx
    · split at h1
      · rename_i q e' hq he
        exact ⟨q, e', nthF_spec hq, he, List.mem_of_getElem? (nthE_spec h1)⟩
      · exact h1.elim
    · exact SubE_mem h2 x hx
theorem renθ_pre {f : List Nat} {m0 : Nat} {θ0 η : List Loc} (hl : θ0.length = m0) (h0 : f.take m0 = List.range m0) : renθ f (θ0 ++ η) = θ0 ++ renθ (f.drop m0) (θ0 ++ η) := by
  conv => lhs; rw [← List.take_append_drop m0 f]
  unfold renθ
  rw [List.map_append, h0]
  congr 1
  subst hl
  apply List.ext_getElem?
  intro i
  rw [List.getElem?_map]
  rcases Nat.lt_or_ge i θ0.length with h | h
  · rw [List.getElem?_range h, Option.map_some, List.getD_eq_getElem?_getD, List.getElem?_append_left h, List.getElem?_eq_getElem h]
    rfl
  · rw [List.getElem?_eq_none (by rw [List.length_range]; exact h), List.getElem?_eq_none h]
    rfl
/-- From one state of a drawn region to another that follows from it. -/
theorem RunD.sub {c : Cx} {K : Act → World → Prop} {E0 : List (Nat × En)} {m0 : Nat} {ops : Array Oper} {n : Nat} {M : List (Nat × En)} {listed : Array Bool} {σ σ2 : St} (f is js : List Nat) (hs : Sub f is σ σ2) (hn : is.Nodup) (h0 : f.take m0 = List.range m0) (hM : SubE f M js M) (h : RunD c K E0 m0 ops n M listed σ2) : RunD c K E0 m0 ops n M listed σ := by
  intro θ0 η a w hl hR hS hB0 hF
  have hR2 := hR.sub hs hn
  rw [renθ_pre hl h0] at hR2
  refine h θ0 _ a w hl hR2 hS hB0 fun e he => ⟨?_, (hF e he).2⟩
  obtain ⟨q, e', hq, hr, hmem⟩ := SubE_mem hM e he
  have := En.ren_ok hq hr (hF _ hmem).1
  rw [renθ_pre hl h0] at this
  exact this
/-- A state that is proved first. -/
theorem RunD.cut {c : Cx} {K : Act → World → Prop} {E0 : List (Nat × En)} {m0 : Nat} {ops : Array Oper} {n : Nat} {M : List (Nat × En)} {listed : Array Bool} {σ : St} (n2 : Nat) (listed2 : Array Bool) (σ2 : St) (h : RunD c K E0 m0 ops n2 M listed2 σ2) (hk : RunD c K E0 m0 ops n2 M listed2 σ2 → RunD c K E0 m0 ops n M listed σ) : RunD c K E0 m0 ops n M listed σ := hk h
def RunDs (c : Cx) (K : Act → World → Prop) (E0 : List (Nat × En)) (m0 : Nat) (ops : Array Oper) (n : Nat) (M : List (Nat × En)) (listed : Array Bool) (σ : St) : List Nat → Prop
  | [] => True
  | i :: is => RunD1 c K E0 m0 ops n M listed σ i ∧ RunDs c K E0 m0 ops n M listed σ is
theorem RunDs.all {c : Cx} {K : Act → World → Prop} {E0 : List (Nat × En)} {m0 : Nat} {ops : Array Oper} {n : Nat} {M : List (Nat × En)} {listed : Array Bool} {σ : St} : ∀ {L : List Nat}, RunDs c K E0 m0 ops n M listed σ L → ∀ i ∈ L, RunD1 c K E0 m0 ops n M listed σ i
  | [], _, _, h => by cases h
  | j :: L, h, i, hi => by
    rcases List.mem_cons.1 hi with rfl | hi
    · exact h.1
    · exact RunDs.all h.2 i hi
theorem RunD.gd {c : Cx} {K : Act → World → Prop} {E0 : List (Nat × En)} {m0 : Nat} {ops : Array Oper} {n : Nat} {M : List (Nat × En)} {listed : Array Bool} {σ : St} (r : Nat) {α : Type} {d : Dat α} {xs : List α} (hp : payE σ.E r = some ⟨α, d, xs⟩) (h : (@instDatList α d).good xs → RunD c K E0 m0 ops n M listed σ) : RunD c K E0 m0 ops n M listed σ := by
  intro θ0 η a w hl hR hS hB0 hM
  obtain ⟨S, w1, hh⟩ := hR.heap
  refine h ?_ θ0 η a w hl hR hS hB0 hM
  rcases payE_spec hp with he | he
  · obtain ⟨l, hl, ho⟩ := hh.own he
    exact Dat.rd_good (α := List α) (B := fun _ => True) (w := w) (cs := [_]) ⟨_, rfl, ho.rd fun _ _ => trivial⟩
  · obtain ⟨l, hl, ho⟩ := hh.ok _ (lkE_mem he)
    exact Dat.rd_good (α := List α) (B := S) (w := w1) (cs := [_]) ⟨_, rfl, ho⟩
end Go.Proofs.YtnjidaonbcbphaaGreatDoor.Fw

/-
  The abstract machine: calls that write into a row that they are handed. No condition: every lemma is general in the program.
-/
namespace Go.Proofs.YtnjidaonbcbphaaGreatDoor.Fw
open Go.RowKit
set_option linter.unusedVariables false

/-- The contract of a function that turns the row that it is handed, with a number beside it, and hands back a number. -/
def CTU (P : Program) (f : FuncId) {α : Type} (dα : Dat α) (p0 : List α) (k : Int) (y : List α) (k' : Int) : Prop :=
  ∀ (v0 : Value) (F0 : List Nat) (w : World), SH (Off [Ck.own (α := List α) [v0] p0 F0] w) w w [Ck.own (α := List α) [v0] p0 F0] →
    Calls P f [v0, .int .i64 k].toArray w (fun e w' => e = .returned (.int .i64 k') ∧ I64 k' ∧ ∃ F', SH (Off [Ck.own (α := List α) [v0] p0 F0] w) w w' [Ck.own (α := List α) [v0] y F'])

section
variable {c : Cx} {σ : St} {all : Array Oper} {ty : TypeId} {pos : String} {after : Array Edge} {d : Nat}
theorem OpS.mut {α : Type} {dα : Dat α} {k k' : Int} {p0 y : List α} {f : FuncId} {x : Operand} {xs : Array Operand} {ts : Array TypeId} {r len : Nat} (hct : CTU c.P f dα p0 k y k') (hfn : FnOk c.P f) (hx : ev σ.ρ x = some (.fn f [])) (hev : evs σ.ρ xs.toList = some [.sl r len, .v (.int .i64 k)]) (hr : lkE σ.E r = some (.own α dα p0)) (hl : len = p0.length) (hd : Nat.blt d σ.n = true) :
    OpSg c σ all ⟨some d, .call { callee := .value x, args := xs, argTypes := ts }, ty, pos, after, none⟩ (put d (.v (.int .i64 k')) (afterStE σ r dα y [])) (I64 k' ∧ p0.length = y.length) :=
  OpSg.of fun θ a w h K Q hK => by
    subst hl
    obtain ⟨us, hus, hm⟩ := h.env.evsL hev
    obtain ⟨S, w1, hh⟩ := h.heap
    obtain ⟨fn, hf, hb, hn⟩ := hfn
    have hn' : ¬ fn.name = "runtime.NumGoroutine" := by simpa using hn
    have hb' : ¬ fn.body = none := by intro e; rw [e] at hb; cases hb
    have hxc := h.env.con hx
    simp only [V.con, Option.map_eq_some_iff] at hxc
    obtain ⟨capt, hcapt, hfv⟩ := hxc
    have hcap : capt = [] := by
      have : some ([] : List Value) = some capt := hcapt
      cases this; rfl
    subst hcap
    have hmm : xs.map a.eval = us.toArray := by
      apply Array.toList_inj.1
      rw [Array.toList_map, Fw.evals h.env.env hm]
    obtain ⟨l, hlo, hown⟩ := hh.own hr
    have hu : us = [.slice l.A p0.length l.cap, .int .i64 k] := by
      have h1 : conL θ [.sl r p0.length, .v (.int .i64 k)] = some [.slice l.A p0.length l.cap, .int .i64 k] := by
        simp only [conL, V.con, hlo]
      rw [h1] at hus
      cases hus
      rfl
    subst hu
    unfold Oper.wp
    have : (execOp a.eval ⟨some d, .call { callee := .value x, args := xs, argTypes := ts }, ty, pos, after, none⟩).run c.P w = .ok (.enter f [Value.slice l.A p0.length l.cap, .int .i64 k].toArray) w := by
      simp [execOp, resolve, hmm, ← hfv, Deferred.ofValue, invoke, callFunc, hf, hn', hb']
    rw [this, Oper.upon_enter]
    -- the row alone
    have hck := hh.sh.ok _ (List.mem_map.2 ⟨_, lkE_mem hr, rfl⟩)
    have hge := hh.sh.ge _ (List.mem_map.2 ⟨_, lkE_mem hr, rfl⟩)
    have hlF : ((En.own α dα p0).ck θ r).F = l.F := locF_of hlo
    have hnd : l.F.Nodup := by
      obtain ⟨i, hi⟩ := List.getElem?_of_mem (List.mem_map.2 ⟨_, lkE_mem hr, rfl⟩ : (En.own α dα p0).ck θ r ∈ σ.E.map fun e => e.2.ck θ e.1)
      have := (nodup_flatMap_iff.1 hh.sh.apart).1 i _ hi
      rwa [hlF] at this
    let c0 : Ck := Ck.own (α := List α) [.slice l.A p0.length l.cap] p0 l.F
    have hc0 : SH (Off [c0] w) w w [c0] := by
      refine ⟨Keep.refl _ _, fun b hb => hb.1, fun x hx => ?_, fun x hx b hb => ?_, ?_⟩
      · obtain rfl := List.mem_singleton.1 hx
        intro w2 hw2
        obtain ⟨l2, hl2, ho⟩ := hck w2 (by rw [hlF]; exact hw2)
        rw [hlo] at hl2
        cases hl2
        exact ⟨_, rfl, ho⟩
      · obtain rfl := List.mem_singleton.1 hx
        refine ⟨fun ho => ho.2 (List.mem_flatMap.2 ⟨c0, List.mem_singleton.2 rfl, hb⟩), (hge b (by rw [hlF]; exact hb)).2⟩
      · rw [List.flatMap_cons, List.flatMap_nil, List.append_nil]
        exact hnd
    refine (hct _ l.F w hc0).mono fun e w' he => ?_
    obtain ⟨rfl, hi, F', hs⟩ := he
    have hyO : SlO w' (.slice l.A p0.length l.cap) y F' := hs.slO (k := 0) rfl
    have hlen : y.length = p0.length := by
      rcases hyO with ⟨e1, e2, _⟩ | ⟨g, cap, arr, T, Fs, e1, e2, e3, _⟩
      · injection e1 with _ e1b _
        rw [e2, e1b]
        rfl
      · injection e1 with _ e1b _
        exact e1b.symm
    let l' : Loc := ⟨l.A, l.cap, F'⟩
    have hg' : (θ ++ [l'])[σ.m]? = some l' := by rw [← h.len]; exact get_mid
    have hgr := get_ext (θ' := [l']) hlo
    have hon : ownN σ.E r := ⟨⟨α, dα, p0⟩, by unfold payOE; rw [hr]; rfl⟩
    have hFt : ∀ b ∈ l.F, b ∈ (takeE [r] σ.E).flatMap (fun e => (e.2.ck (θ ++ [l']) e.1).F) := fun b hb => takeE_own (List.mem_singleton.2 rfl) hon (by rw [locF_of hgr]; exact hb)
    have hfuse := (hh.ext (θ' := [l'])).fuse [r] (p := (σ.m, En.own α dα y)) (w' := w') hs.keep.os hs.keep.tape hs.keep.output hs.keep.size (fun b hbl hbn => hs.keep.block b ⟨hbl, fun hm => by
      obtain ⟨x, hx, hbx⟩ := List.mem_flatMap.1 hm
      obtain rfl := List.mem_singleton.1 hx
      exact hbn (hFt b hbx)⟩) ?_ ?_ ?_ trivial
    · have hR : R c (θ ++ [l']) (afterStE σ r dα y []) a w' := ⟨by rw [List.length_append, h.len]; rfl, (h.env.ext (θ' := [l'])).rn hgr hg' rfl rfl, S, w1, hfuse.rn hgr hg' rfl rfl⟩
      exact hK [l'] _ _ (hR.put hd rfl) ⟨hi, hlen.symm⟩
    · intro w2 hw2
      have hF2 : ((En.own α dα y).ck (θ ++ [l']) σ.m).F = F' := locF_of hg'
      have hok := hs.ok _ (List.mem_singleton.2 rfl) w2 (fun b hb => hw2 b (by rw [hF2]; exact hb))
      obtain ⟨v, hv, ho⟩ := hok
      cases hv
      refine ⟨l', hg', ?_⟩
      rw [hlen]
      exact ho
    · intro b hb
      have hb' : b ∈ F' := by
        have : b ∈ locF (θ ++ [l']) σ.m := hb
        rwa [locF_of hg'] at this
      have h1 := hs.ge _ (List.mem_singleton.2 rfl) b hb'
      refine ⟨?_, h1.2⟩
      rcases Nat.lt_or_ge b w.heap.size with hlt | hge'
      · refine .inl (Classical.byContradiction fun hn => h1.1 ⟨hlt, fun hm => ?_⟩)
        obtain ⟨x, hx, hbx⟩ := List.mem_flatMap.1 hm
        obtain rfl := List.mem_singleton.1 hx
        exact hn (hFt b hbx)
      · exact .inr hge'
    · show (locF _ σ.m).Nodup
      rw [locF_of hg']
      have := hs.apart
      rw [List.flatMap_cons, List.flatMap_nil, List.append_nil] at this
      exact this
end
end Go.Proofs.YtnjidaonbcbphaaGreatDoor.Fw

/-
  The abstract machine: a literal of rows that are one's own becomes a row of rows. No condition: every lemma is general in the program.
-/
namespace Go.Proofs.YtnjidaonbcbphaaGreatDoor.Fw
open Go.RowKit
set_option linter.unusedVariables false

def ownL (E : List (Nat × En)) (r : Nat) : Prop := ∃ e, lkE E r = some e ∧ ∀ θ, (e.ck θ r).F = locF θ r
theorem RH.nodupL {c : Cx} {θ : List Loc} {E : List (Nat × En)} {S : Nat → Prop} {w1 w : World} (h : RH c θ E S w1 w) : ∀ {rs : List Nat}, rs.Nodup → (∀ r ∈ rs, ownL E r) → (rs.flatMap (locF θ)).Nodup
  | [], _, _ => by simp
  | r :: rs, hn, ho => by
    have h1 := h.nodupL (List.nodup_cons.1 hn).2 fun r hr => ho r (by simp [hr])
    have hap := nodup_flatMap_iff.1 h.sh.apart
    have key : ∀ r, ownL E r → ∃ i : Nat, ∃ e, E[i]? = some (r, e) ∧ (e.ck θ r).F = locF θ r := by
      intro r ⟨e, he, hF⟩
      obtain ⟨i, hi, _⟩ := lkE_get he
      exact ⟨i, _, hi, hF θ⟩
    obtain ⟨i, e, hi, hF⟩ := key r (ho r (by simp))
    have hLi : (E.map fun e => e.2.ck θ e.1)[i]? = some (e.ck θ r) := by rw [List.getElem?_map, hi]; rfl
    rw [List.flatMap_cons]
    refine List.nodup_append.2 ⟨by rw [← hF]; exact hap.1 i _ hLi, h1, fun a ha b hb hab => ?_⟩
    subst hab
    obtain ⟨r', hr', hb'⟩ := List.mem_flatMap.1 hb
    obtain ⟨j, e', hj, hF'⟩ := key r' (ho r' (by simp [hr']))
    have hLj : (E.map fun e => e.2.ck θ e.1)[j]? = some (e'.ck θ r') := by rw [List.getElem?_map, hj]; rfl
    refine hap.2 i j _ _ hLi hLj ?_ a (by rw [hF]; exact ha) (by rw [hF']; exact hb')
    intro e
    subst e
    rw [hi] at hj
    cases hj
    exact (List.nodup_cons.1 hn).1 hr'
def rowsOk (E : List (Nat × En)) (β : Type) (dβ : Dat β) : List V → List (List β) → List Nat → Prop
  | [], [], [] => True
  | .sl r n :: cs, xs :: ys, q :: rs => (r = q ∧ lkE E r = some (.own β dβ xs) ∧ n = xs.length) ∧ rowsOk E β dβ cs ys rs
  | _, _, _ => False
theorem rowsOk_get {E : List (Nat × En)} {β : Type} {dβ : Dat β} : ∀ {cs : List V} {ys : List (List β)} {rs : List Nat}, rowsOk E β dβ cs ys rs → cs.length = ys.length ∧ rs.length = ys.length ∧ (∀ r ∈ rs, ∃ xs : List β, lkE E r = some (.own β dβ xs)) ∧ ∀ (i : Nat) x, ys[i]? = some x → ∃ r, rs[i]? = some r ∧ lkE E r = some (.own β dβ x) ∧ cs[i]? = some (.sl r x.length)
  | [], [], [], _ => ⟨rfl, rfl, (fun _ h => by cases h), fun i x h => by simp at h⟩
  | .sl r n :: cs, xs :: ys, q :: rs, h => by
    obtain ⟨⟨rfl, h1, rfl⟩, h2⟩ := h
    obtain ⟨a, b, c, d⟩ := rowsOk_get h2
    refine ⟨by simp [a], by simp [b], fun r' hr' => ?_, fun i x hx => ?_⟩
    · rcases List.mem_cons.1 hr' with rfl | hr'
      · exact ⟨_, h1⟩
      · exact c _ hr'
    · cases i with
      | zero =>
        have e : xs = x := by simpa using hx
        subst e
        exact ⟨r, rfl, h1, rfl⟩
      | succ i => exact d i x (by simpa using hx)
theorem R.litN {c : Cx} {θ : List Loc} {σ : St} {a : Act} {w : World} {β : Type} {dβ : Dat β} {q : Nat} {ys : List (List β)} {rs : List Nat} {cs : List V} {T n : Nat} (h : R c θ σ a w) (he : lkE σ.E q = some (.lit cs T n)) (hr : rowsOk σ.E β dβ cs ys rs) (hl : ys.length = n) (hm : n ≤ 1000) (hnd : (q :: rs).Nodup) : ∃ l', R c (θ ++ [l']) (afterStE σ q (@instDatList β dβ) ys rs) a w := by
  subst hl
  obtain ⟨S, w1, hh⟩ := h.heap
  obtain ⟨lq, bq, ccs, ⟨q1, q1'⟩, q2, q3, q4, q5⟩ := (hh.sh.ok _ (List.mem_map.2 ⟨_, lkE_mem he, rfl⟩)).here
  simp only at q1
  obtain ⟨g1, g2, g3, g4⟩ := rowsOk_get hr
  have hcl : ccs.length = ys.length := (conL_length q4).trans g1
  let l' : Loc := ⟨lq.A, lq.cap, bq :: (rs.map (locF θ)).flatten⟩
  refine ⟨l', ?_⟩
  have hg' : (θ ++ [l'])[σ.m]? = some l' := by rw [← h.len]; exact get_mid
  have hgr := get_ext (θ' := [l']) q1
  have hoL : ∀ r ∈ q :: rs, ownL σ.E r := by
    intro r hr
    rcases List.mem_cons.1 hr with rfl | hr
    · exact ⟨_, he, fun _ => rfl⟩
    · obtain ⟨xs, hx⟩ := g3 r hr
      exact ⟨_, hx, fun _ => rfl⟩
  have hnod := hh.nodupL hnd hoL
  rw [List.flatMap_cons, locF_of q1, q3] at hnod
  have hex := hh.ext (θ' := [l'])
  have hck : ∀ r ∈ rs, ∃ xs : List β, lkE σ.E r = some (.own β dβ xs) := g3
  have hFin : ∀ b ∈ l'.F, b ∈ (takeE (q :: rs) σ.E).flatMap (fun e => (e.2.ck (θ ++ [l']) e.1).F) := by
    intro b hb
    rcases List.mem_cons.1 hb with rfl | hb
    · exact List.mem_flatMap.2 ⟨_, takeE_mem (lkE_mem he) (memN_of (by simp)), by show b ∈ locF _ _; rw [locF_of hgr, q3]; simp⟩
    · obtain ⟨F, hF, hbF⟩ := List.mem_flatten.1 hb
      obtain ⟨r, hr, rfl⟩ := List.mem_map.1 hF
      obtain ⟨xs, hx⟩ := g3 r hr
      obtain ⟨l2, hl2, _⟩ := hh.own hx
      refine List.mem_flatMap.2 ⟨_, takeE_mem (lkE_mem hx) (memN_of (by simp [hr])), ?_⟩
      show b ∈ locF _ _
      rw [locF_of (get_ext hl2)]
      rwa [locF_of hl2] at hbF
  have hlt : ∀ b ∈ l'.F, b < w.heap.size := by
    intro b hb
    rcases List.mem_cons.1 hb with rfl | hb
    · exact (Array.getElem?_eq_some_iff.1 q5).1
    · obtain ⟨F, hF, hbF⟩ := List.mem_flatten.1 hb
      obtain ⟨r, hr, rfl⟩ := List.mem_map.1 hF
      obtain ⟨xs, hx⟩ := g3 r hr
      exact (hh.sh.ge _ (List.mem_map.2 ⟨_, lkE_mem hx, rfl⟩) b hbF).2
  have hfuse := hex.fuse (q :: rs) (p := (σ.m, En.own (List β) (@instDatList β dβ) ys)) (w' := w) rfl rfl rfl (Nat.le_refl _) (fun _ _ _ => rfl) ?_ ?_ ?_ trivial
  · exact ⟨by rw [List.length_append, h.len]; rfl, (h.env.ext (θ' := [l'])).rn hgr hg' rfl rfl, S, w1, hfuse.rn hgr hg' rfl rfl⟩
  · intro w2 hw2
    have hF' : ((En.own (List β) (@instDatList β dβ) ys).ck (θ ++ [l']) σ.m).F = l'.F := locF_of hg'
    rw [hF'] at hw2
    refine ⟨l', hg', .inr ⟨bq, lq.cap, ccs.toArray, T, rs.map (locF θ), by simp only [l', q2], ?_, by rw [q1']; exact Nat.le_refl _, by rw [q1']; unfold maxLen; omega, ?_, rfl, by rw [List.length_map]; exact g2, fun i x hi => ?_⟩⟩
    · exact (hw2 bq (by simp [l'])).trans q5
    · rw [q1', List.size_toArray, hcl]
      exact Nat.le_of_eq (Nat.mul_one _)
    · obtain ⟨r, hri, hx, hci⟩ := g4 i x hi
      obtain ⟨u, hu, huc⟩ := conL_get q4 hci
      obtain ⟨l2, hl2, _⟩ := hh.own hx
      refine ⟨locF θ r, by rw [List.getElem?_map, hri]; rfl, ?_⟩
      have hsl := hh.sh.ok _ (List.mem_map.2 ⟨_, lkE_mem hx, rfl⟩) w2 (fun b hb => hw2 b (List.mem_cons_of_mem _ (List.mem_flatten.2 ⟨locF θ r, List.mem_map.2 ⟨r, List.mem_of_getElem? hri, rfl⟩, hb⟩)))
      obtain ⟨l3, hl3, hso⟩ := hsl
      rw [hl2] at hl3
      cases hl3
      simp only [V.con, hl2, Option.some.injEq] at huc
      have e : ((ccs.toArray.toList.drop (i * Dat.sz (List β))).take (Dat.sz (List β))) = [u] := by
        show ((ccs.drop (i * 1)).take 1) = [u]
        rw [Nat.mul_one]
        obtain ⟨hi2, hx2⟩ := List.getElem?_eq_some_iff.1 hu
        rw [List.drop_eq_getElem_cons hi2, hx2]
        rfl
      rw [e, ← huc, locF_of hl2]
      exact ⟨_, rfl, hso⟩
  · intro b hb
    have hb' : b ∈ l'.F := by
      have : b ∈ locF (θ ++ [l']) σ.m := hb
      rwa [locF_of hg'] at this
    exact ⟨.inl (hFin b hb'), hlt b hb'⟩
  · show (locF _ σ.m).Nodup
    rw [locF_of hg']
    show (bq :: (rs.map (locF θ)).flatten).Nodup
    rw [← List.flatMap_def]
    exact hnod
theorem Run.litN {c : Cx} {res : List Re} {σ : St} {k : List It} (q : Nat) {β : Type} {dβ : Dat β} (ys : List (List β)) (rs : List Nat) {cs : List V} {T n : Nat} (he : lkE σ.E q = some (.lit cs T n)) (hr : rowsOk σ.E β dβ cs ys rs) (hl : ys.length = n) (hm : n ≤ 1000) (hnd : (q :: rs).Nodup) (h : Run c res (afterStE σ q (@instDatList β dβ) ys rs) k) : Run c res σ k := by
  intro θ a w hR
  obtain ⟨l', hR'⟩ := hR.litN he hr hl hm hnd
  exact h _ a w hR'
theorem RunD.litN {c : Cx} {K : Act → World → Prop} {E0 : List (Nat × En)} {m0 : Nat} {ops : Array Oper} {N : Nat} {M : List (Nat × En)} {listed : Array Bool} {σ : St} (q : Nat) {β : Type} {dβ : Dat β} (ys : List (List β)) (rs : List Nat) {cs : List V} {T n : Nat} (he : lkE σ.E q = some (.lit cs T n)) (hr : rowsOk σ.E β dβ cs ys rs) (hl : ys.length = n) (hm : n ≤ 1000) (hnd : (q :: rs).Nodup) (h : RunD c K E0 m0 ops N M listed (afterStE σ q (@instDatList β dβ) ys rs)) : RunD c K E0 m0 ops N M listed σ := by
  intro θ0 η a w hl0 hR hS hB0 hM
  obtain ⟨l', hR'⟩ := hR.litN he hr hl hm hnd
  rw [List.append_assoc] at hR'
  exact h θ0 (η ++ [l']) a w hl0 hR' hS hB0 (by rw [← List.append_assoc]; exact hM.ext)
/-- A flat literal becomes a row, in a region that draws its order. -/
theorem RunD.lit {c : Cx} {K : Act → World → Prop} {E0 : List (Nat × En)} {m0 : Nat} {ops : Array Oper} {N : Nat} {M : List (Nat × En)} {listed : Array Bool} {σ : St} (r : Nat) {α : Type} {d : Dat α} [s : @Str α d] (ys : List α) {cs : List V} {T n : Nat} (he : lkE σ.E r = some (.lit cs T n)) (hl : ys.length = n) (hm : Nat.ble n 1000 = true) (hn : V.names.namesL cs = []) (ho : ElOk σ.E (Dat.sz α) d s.fk ys cs) (h : RunD c K E0 m0 ops N M listed ⟨σ.n, σ.m, σ.ρ, putE r (r, .own α d ys) σ.E⟩) : RunD c K E0 m0 ops N M listed σ := by
  intro θ0 η a w hl0 hR hS hB0 hM
  obtain ⟨S, w1, hh⟩ := hR.heap
  exact h θ0 η a w hl0 ⟨hR.len, hR.env, S, w1, hh.lit he s hl (by have := Nat.le_of_ble_eq_true hm; unfold maxLen; omega) hn ho⟩ hS hB0 hM
end Go.Proofs.YtnjidaonbcbphaaGreatDoor.Fw

/-
  The steps of regions that draw their order, where ways meet again. No condition.
-/
namespace Go.Proofs.YtnjidaonbcbphaaGreatDoor.Fw
open Go.RowKit
set_option linter.unusedVariables false
set_option maxRecDepth 100000
section
variable {fn : Func} {Bz : Bs} {S1 : Nat → Prop} {w1 : World} {hk1 : Keep Bz.S0 Bz.w w1} {hs1 : ∀ b, Bz.S0 b → S1 b} {hd1 : ∀ b, S1 b → b < w1.heap.size} {K : Act → World → Prop} {E0 : List (Nat × En)} {m0 : Nat} {ops : Array Oper} {n : Nat} {M : List (Nat × En)} {listed : Array Bool} {σ σ' : St}
theorem lND (q : Nat) {β : Type} {dβ : Dat β} (ys : List (List β)) (rs : List Nat) {cs : List V} {T n0 : Nat} (h : RunD (cx fn Bz S1 w1 hk1 hs1 hd1) K E0 m0 ops n M listed σ') (he : lkE σ.E q = some (.lit cs T n0) := by dsimp only [ev, evs, evsG, cons2, lk, lkE, cond, Nat.beq, evG, stO', V.strip, grd, grdO, nthO, gB, gBV, Nat.pred, wnt, List.toList_toArray, List.cons_append, List.nil_append, List.append_nil]) (hr : rowsOk σ.E β dβ cs ys rs := by dsimp only [rowsOk, lkE, cond, Nat.beq]; (repeat' apply And.intro) <;> first | rfl | trivial | assumption) (hl : ys.length = n0 := by rfl) (hm : n0 ≤ 1000 := by decide) (hnd : (q :: rs).Nodup := by decide) (hs : afterStE σ q (@instDatList β dβ) ys rs = σ' := by dsimp only [afterCall, afterM, afterAppN, setV, fwE, En.fw, V.fw, fwL, nthG, pickE, consO, nthE, Nat.pred, afterIdx, afterIdxM, afterRos, afterStE, rnR, rnE, V.rn, rnL, En.rn, dropE, memN, V.names.namesL, V.names, afterApp, afterApp0, put, putE, setE, packV, bindRs, bindR, opn, nsl, id, cond, Nat.beq, Nat.reduceAdd, Nat.add_zero, Nat.zero_add, List.cons_append, List.nil_append, List.append_nil, List.append, List.length_cons, List.length_nil, Str.fk]) : RunD (cx fn Bz S1 w1 hk1 hs1 hd1) K E0 m0 ops n M listed σ := RunD.litN q ys rs he hr hl hm hnd (by rw [hs]; exact h)
theorem liD (r : Nat) {α : Type} {d : Dat α} [s : @Str α d] (ys : List α) {cs : List V} {T n0 : Nat} {E' : List (Nat × En)} (h : RunD (cx fn Bz S1 w1 hk1 hs1 hd1) K E0 m0 ops n M listed ⟨σ.n, σ.m, σ.ρ, E'⟩) (he : lkE σ.E r = some (.lit cs T n0) := by dsimp only [ev, evs, evsG, cons2, lk, lkE, cond, Nat.beq, evG, stO', V.strip, grd, grdO, nthO, gB, gBV, Nat.pred, wnt, List.toList_toArray, List.cons_append, List.nil_append, List.append_nil]) (ho : ElOk σ.E (Dat.sz α) d s.fk ys cs := by dsimp only [ElOk, SlOwn, payOE, En.payO, lkE, cond, Nat.beq, FkO, agC, List.map, Str.fk, id, List.take, List.drop, List.take_succ_cons, List.drop_succ_cons, List.take_zero, List.drop_zero]; repeat' (first | assumption | exact gi _ | exact gs _ | rfl | exact trivial | apply And.intro | omega)) (hl : ys.length = n0 := by rfl) (hm : Nat.ble n0 1000 = true := by rfl) (hn : V.names.namesL cs = [] := by rfl) (hs : putE r (r, .own α d ys) σ.E = E' := by dsimp only [afterCall, afterM, afterAppN, setV, fwE, En.fw, V.fw, fwL, nthG, pickE, consO, nthE, Nat.pred, afterIdx, afterIdxM, afterRos, afterStE, rnR, rnE, V.rn, rnL, En.rn, dropE, memN, V.names.namesL, V.names, afterApp, afterApp0, put, putE, setE, packV, bindRs, bindR, opn, nsl, id, cond, Nat.beq, Nat.reduceAdd, Nat.add_zero, Nat.zero_add, List.cons_append, List.nil_append, List.append_nil, List.append, List.length_cons, List.length_nil, Str.fk]) : RunD (cx fn Bz S1 w1 hk1 hs1 hd1) K E0 m0 ops n M listed σ := RunD.lit r ys he hl hm hn ho (by rw [hs]; exact h)
theorem d2 {i : Nat} {is : List Nat} (h1 : RunD1 (cx fn Bz S1 w1 hk1 hs1 hd1) K E0 m0 ops n M listed σ i) (h2 : RunDs (cx fn Bz S1 w1 hk1 hs1 hd1) K E0 m0 ops n M listed σ is) : RunDs (cx fn Bz S1 w1 hk1 hs1 hd1) K E0 m0 ops n M listed σ (i :: is) := ⟨h1, h2⟩
theorem d0 : RunDs (cx fn Bz S1 w1 hk1 hs1 hd1) K E0 m0 ops n M listed σ [] := trivial
end
section
variable {fn : Func} {Bz : Bs} {S1 : Nat → Prop} {w1 : World} {hk1 : Keep Bz.S0 Bz.w w1} {hs1 : ∀ b, Bz.S0 b → S1 b} {hd1 : ∀ b, S1 b → b < w1.heap.size} {σ σ' : St} {all : Array Oper} {ty : TypeId} {pos : String} {after : Array Edge} {d : Nat}
theorem mu {α : Type} {dα : Dat α} {f : FuncId} {r len : Nat} {x : Operand} {xs : Array Operand} {ts : Array TypeId} {k k' : Int} {p0 y : List α} (hct : CTU Tryz.prog f dα p0 k y k') (hfn : FnOk Tryz.prog f) (hx : ev σ.ρ x = some (.fn f []) := by dsimp only [ev, evs, evsG, cons2, lk, lkE, cond, Nat.beq, evG, stO', V.strip, grd, grdO, nthO, gB, gBV, Nat.pred, wnt, List.toList_toArray, List.cons_append, List.nil_append, List.append_nil]) (hev : evs σ.ρ xs.toList = some [.sl r len, .v (.int .i64 k)] := by dsimp only [ev, evs, evsG, cons2, lk, lkE, cond, Nat.beq, evG, stO', V.strip, grd, grdO, nthO, gB, gBV, Nat.pred, wnt, List.toList_toArray, List.cons_append, List.nil_append, List.append_nil]) (hr : lkE σ.E r = some (.own α dα p0) := by dsimp only [ev, evs, evsG, cons2, lk, lkE, cond, Nat.beq, evG, stO', V.strip, grd, grdO, nthO, gB, gBV, Nat.pred, wnt, List.toList_toArray, List.cons_append, List.nil_append, List.append_nil]) (hl : len = p0.length := by first | rfl | assumption) (hd : Nat.blt d σ.n = true := by rfl) :
    OpSg (cx fn Bz S1 w1 hk1 hs1 hd1) σ all ⟨some d, .call { callee := .value x, args := xs, argTypes := ts }, ty, pos, after, none⟩ (put d (.v (.int .i64 k')) (afterStE σ r dα y [])) (I64 k' ∧ p0.length = y.length) := OpS.mut hct hfn hx hev hr hl hd
end
theorem gnil {α : Type} {d : Dat α} : (@instDatList α d).good [] := ⟨Nat.zero_le _, fun _ h => by cases h⟩
theorem gdz {p : Prop} (h : p := by dsimp only [Value.cells, List.toList_toArray, List.map]; dsimp only [ElOk, SlOwn, payOE, En.payO, lkE, cond, Nat.beq, FkO, agC, List.map, Str.fk, id, List.take, List.drop, List.take_succ_cons, List.drop_succ_cons, List.take_zero, List.drop_zero]; repeat' (first | assumption | exact gi _ | exact gs _ | exact gnil | rfl | exact trivial | apply And.intro | omega)) : p := h
end Go.Proofs.YtnjidaonbcbphaaGreatDoor.Fw

/-
  Contracts of the other kind, carried over to the abstract machine: lines of transactions and entries, marks. No condition.
-/
namespace Go.Proofs.YtnjidaonbcbphaaGreatDoor.Fw
open Go.RowKit
set_option linter.unusedVariables false
set_option maxRecDepth 100000

theorem argSt {α : Type} [d : Dat α] [s : Str α] {x : α} {w : World} {vs : List Value} (h : ArgsR w vs [.o (.st α d s x)]) : ∃ c0, vs = [.agg c0.toArray] ∧ Dat.rd (Old w) w c0 x := by
  cases vs with
  | nil => exact h.elim
  | cons v r =>
    cases r with
    | cons => exact h.2.elim
    | nil =>
      obtain ⟨c0, rfl, h1⟩ := h.1
      exact ⟨c0, rfl, h1⟩
theorem k_impl_TxLine (p0 : Tx) : CTs 130 [.o (.st Tx _ inferInstance p0)] [.c (.string (impl_TxLine p0))] := CT.flat fun w vs hG hA => by
  obtain ⟨c0, rfl, h⟩ := argSt hA
  exact c_impl_TxLine p0 h (Gl8 w hG)
theorem k_spec_TxLine (p0 : Tx) : CTs 121 [.o (.st Tx _ inferInstance p0)] [.c (.string (spec_TxLine p0))] := CT.flat fun w vs hG hA => by
  obtain ⟨c0, rfl, h⟩ := argSt hA
  exact c_spec_TxLine p0 h
theorem k_impl_EntryLine (p0 : Entry) : CTs 131 [.o (.st Entry _ inferInstance p0)] [.c (.string (impl_EntryLine p0))] := CT.flat fun w vs hG hA => by
  obtain ⟨c0, rfl, h⟩ := argSt hA
  exact c_impl_EntryLine p0 h (Gl8 w hG)
theorem k_spec_EntryLine (p0 : Entry) : CTs 122 [.o (.st Entry _ inferInstance p0)] [.c (.string (spec_EntryLine p0))] := CT.flat fun w vs hG hA => by
  obtain ⟨c0, rfl, h⟩ := argSt hA
  exact c_spec_EntryLine p0 h
theorem spec_TxLine_le {e : Tx} (hg : Dat.good e) : (spec_TxLine e).size ≤ 200 := by
  have h1 : (spec_Decimal e.Id).size ≤ 20 := spec_Decimal_size hg.1
  have h2 : (spec_Decimal e.Age).size ≤ 20 := spec_Decimal_size hg.2.1
  have h3 : (spec_Decimal e.Proc).size ≤ 20 := spec_Decimal_size hg.2.2.1
  have h4 : (spec_Decimal (e.Calls.length : Int)).size ≤ 20 := spec_Decimal_size (len_I64 hg.2.2.2.2.1.1)
  unfold spec_TxLine
  repeat' split
  all_goals (simp only [ByteArray.size_append, bt_size', List.size_toArray, List.length]; omega)
theorem impl_TxLine_le {e : Tx} (hg : Dat.good e) : (impl_TxLine e).size ≤ 200 := by rw [TxLine_twin hg]; exact spec_TxLine_le hg
theorem spec_EntryLine_le {e : Entry} (hg : Dat.good e) : (spec_EntryLine e).size ≤ 60 := by
  have h1 : (spec_Decimal e.Seq).size ≤ 20 := spec_Decimal_size hg.1
  have h2 : (spec_Decimal (e.Steps.length : Int)).size ≤ 20 := spec_Decimal_size (len_I64 hg.2.2.2.1.1)
  unfold spec_EntryLine
  split
  · split <;> (simp only [ByteArray.size_append, bt_size, List.size_toArray, List.length]; omega)
  · split
    · split <;> (simp only [ByteArray.size_append, bt_size, List.size_toArray, List.length]; omega)
    · split <;> (simp only [ByteArray.size_append, bt_size, List.size_toArray, List.length]; omega)
theorem impl_EntryLine_le {e : Entry} (hg : Dat.good e) : (impl_EntryLine e).size ≤ 60 := by rw [EntryLine_twin hg]; exact spec_EntryLine_le hg
theorem TxLine_gd {e : Tx} (hg : Dat.good e) : (spec_TxLine e).size ≤ maxLen ∧ (impl_TxLine e).size ≤ maxLen := ⟨Nat.le_trans (spec_TxLine_le hg) (by decide), Nat.le_trans (impl_TxLine_le hg) (by decide)⟩
theorem EntryLine_gd {e : Entry} (hg : Dat.good e) : (spec_EntryLine e).size ≤ maxLen ∧ (impl_EntryLine e).size ≤ maxLen := ⟨Nat.le_trans (spec_EntryLine_le hg) (by decide), Nat.le_trans (impl_EntryLine_le hg) (by decide)⟩
theorem k_laws_heldStringS (p0 : List ByteArray) (p1 : Int) (h : I64 p1) : CTs 16 [.o (.sl ByteArray instDatByteArray p0), .o (.c (.int .i64 p1))] [.c (.int .i64 (laws_heldStringS p0 p1))] := CT.flat fun w vs hG hA => by
  cases vs with
  | nil => exact hA.elim
  | cons v r =>
    cases r with
    | nil => exact hA.2.elim
    | cons u r =>
      cases r with
      | cons => exact hA.2.2.elim
      | nil =>
        obtain rfl : u = .int .i64 p1 := hA.2.1
        exact c_laws_heldStringS p0 p1 hA.1 h
theorem u_laws_markStringS (p0 : List ByteArray) (p1 : Int) (h : I64 p1) : CTU Tryz.prog 15 instDatByteArray p0 p1 (laws_markStringS p0 p1).1 (laws_markStringS p0 p1).2 := fun v0 F0 w hs => c_laws_markStringS p0 p1 hs h
theorem u_laws_markCellS (p0 : List Cell) (p1 : Int) (h : I64 p1) : CTU Tryz.prog 66 instDatCell p0 p1 (laws_markCellS p0 p1).1 (laws_markCellS p0 p1).2 := fun v0 F0 w hs => c_laws_markCellS p0 p1 hs h
theorem u_laws_markTxS (p0 : List Tx) (p1 : Int) (h : I64 p1) : CTU Tryz.prog 67 instDatTx p0 p1 (laws_markTxS p0 p1).1 (laws_markTxS p0 p1).2 := fun v0 F0 w hs => c_laws_markTxS p0 p1 hs h
theorem u_laws_markSlotS (p0 : List Slot) (p1 : Int) (h : I64 p1) : CTU Tryz.prog 141 instDatSlot p0 p1 (laws_markSlotS p0 p1).1 (laws_markSlotS p0 p1).2 := fun v0 F0 w hs => c_laws_markSlotS p0 p1 hs h
theorem u_laws_markEntryS (p0 : List Entry) (p1 : Int) (h : I64 p1) : CTU Tryz.prog 69 instDatEntry p0 p1 (laws_markEntryS p0 p1).1 (laws_markEntryS p0 p1).2 := fun v0 F0 w hs => c_laws_markEntryS p0 p1 hs h
end Go.Proofs.YtnjidaonbcbphaaGreatDoor.Fw

/- Contracts: each call returns what the model says. By program (wip/am/gen2.py). -/
namespace Go.Proofs.YtnjidaonbcbphaaGreatDoor.Fw
open Go.RowKit
set_option linter.unusedVariables false
set_option maxRecDepth 100000

theorem fok120 : FnOk Tryz.prog 120 := ⟨_, Tryz.func120, rfl, by kernel_rfl⟩
theorem fok132 : FnOk Tryz.prog 132 := ⟨_, Tryz.func132, rfl, by kernel_rfl⟩
/- F61 loop.example/g00974/impl.Hex -/
def impl_Hex (p0 : ByteArray) : ByteArray × Bool := bif decide ((p0.size : Int) > 20000) then (⟨#[]⟩, false) else ((hexEnc (sbytes p0)), true)
theorem c_impl_Hex (p0 : ByteArray) (hz_p0 : p0.size ≤ 9223372036854775807) : CTs 61 [.o (.c (.string p0))] [Re.c (.string ((impl_Hex p0).1)), Re.c (.bool ((impl_Hex p0).2))] := by
  refine en Tryz.func61 Tryz.ntmps61 fun w hG hgd => ?_
  have hM := impl_Hex.eq_1 p0
  refine ad 12 ?_
  refine cd (fun h1 => ?_) (fun h1 => ?_)
  ·
    have hM := hM.trans (bt h1)
    refine ad 5 ?_
    exact rz (rs := [.tmp 2, .tmp 3]) (congrArg (fun x => [Re.c (.string x.1), Re.c (.bool x.2)]) hM)
  ·
    have hM := hM.trans (bf h1)
    refine ad 4 ?_
    refine op (tb (hs := hz_p0)) ?_
    refine op (cl (k_hexEncA (sbytes p0) (by first | (rw [sbytes_length]; exact om) | (simp at hB; omega))) fok132) ?_
    refine ad 3 ?_
    exact rz (rs := [.tmp 2, .tmp 3]) (congrArg (fun x => [Re.c (.string x.1), Re.c (.bool x.2)]) hM)

/- F51 loop.example/g00974/spec.Hex -/
def spec_Hex_l1 (p0 : ByteArray) : Nat → (List UInt8) → Nat → ByteArray × Bool
  | 0, v4, i => (bstr v4, true)
  | n + 1, v4, i => spec_Hex_l1 p0 n (v4 ++ [fig (IntKind.i64.wrap (Int.tdiv (IntKind.i64.wrap ((byteAt p0 i).toNat : Int)) 16)), fig (Int.tmod (IntKind.i64.wrap ((byteAt p0 i).toNat : Int)) 16)]) (i + 1)
def spec_Hex (p0 : ByteArray) : ByteArray × Bool := bif decide ((p0.size : Int) > 20000) then (⟨#[]⟩, false) else (spec_Hex_l1 p0 (p0.size - 0) ([] : List UInt8) 0)
theorem c_spec_Hex (p0 : ByteArray) (hz_p0 : p0.size ≤ 9223372036854775807) : CTs 51 [.o (.c (.string p0))] [Re.c (.string ((spec_Hex p0).1)), Re.c (.bool ((spec_Hex p0).2))] := by
  refine en Tryz.func51 Tryz.ntmps51 fun w hG hgd => ?_
  have hM := spec_Hex.eq_1 p0
  refine ad 12 ?_
  refine cd (fun h1 => ?_) (fun h1 => ?_)
  ·
    have hM := hM.trans (bt h1)
    refine ad 5 ?_
    exact rz (rs := [.tmp 2, .tmp 3]) (congrArg (fun x => [Re.c (.string x.1), Re.c (.bool x.2)]) hM)
  ·
    have hM := hM.trans (bf h1)
    refine ad 3 ?_
    refine op (l0) ?_
    refine ad 8 ?_
    refine li 0 (d := instDatUInt8) ([] : List UInt8) ?_
    refine Run.loopM (ι := (List UInt8) × Nat) (fun s => spec_Hex_l1 p0 (p0.size - s.2) s.1 s.2) (fun s => ⟨33, 1, [(0, .v (.string p0)), (4, .sl 0 s.1.length), (5, .v (.int .i64 (s.2 : Int)))], [(0, .own UInt8 instDatUInt8 s.1)]⟩) (fun s => s.2 ≤ p0.size ∧ s.1.length = 2 * s.2) (fun s => p0.size - s.2) (([] : List UInt8), 0) [0] [0] hM (by dsimp only; exact ⟨by omega, rfl⟩) su (by decide) ?_
    rintro ⟨v4, i⟩ hv hE
    try dsimp only at hE
    obtain ⟨hi, hv0⟩ := hv
    try dsimp only at hi hv0
    refine ad 8 ?_
    refine cd (fun h2 => ?_) (fun h2 => ?_)
    ·
      have h2l : i < p0.size := by have := of_decide_eq_true h2; omega
      have hM := hE.trans ((congrArg (fun n => spec_Hex_l1 p0 n v4 i) (show p0.size - i = (p0.size - (i + 1)) + 1 by omega)).trans (spec_Hex_l1.eq_2 _ _ _ _))
      refine ad 3 ?_
      refine ds 16 [] fun _ _ _ _ _ hb => ?_
      refine tk [0, 1, 2] ?_
      refine tx 3 (tsx (s := p0) i om) ?_
      refine tk [4] ?_
      refine tx 5 (tqo) ?_
      refine tk [7, 8] ?_
      refine tx 9 (tsx (s := p0) i om) ?_
      refine tk [10] ?_
      refine tx 11 (trm) ?_
      refine on 6 [] (cl (k_spec_l01Figure (IntKind.i64.wrap (Int.tdiv (IntKind.i64.wrap ((byteAt p0 i).toNat : Int)) 16))) fok120) ?_
      refine on 12 [] (cl (k_spec_l01Figure (Int.tmod (IntKind.i64.wrap ((byteAt p0 i).toNat : Int)) 16)) fok120) ?_
      refine on 13 [] (OpS.st rfl) ?_
      refine on 14 [] (ap [fig (IntKind.i64.wrap (Int.tdiv (IntKind.i64.wrap ((byteAt p0 i).toNat : Int)) 16)), fig (Int.tmod (IntKind.i64.wrap ((byteAt p0 i).toNat : Int)) 16)] (hg := gdt) (hb := by simp only [List.length_cons, List.length_nil]; first | omega | exact om)) ?_
      refine tk [15] ?_
      refine dn hb ?_
      refine ad 4 ?_
      rw [wrapN (i := i) (by first | omega | exact om)]
      refine ad 2 ?_
      exact Run.again ((v4 ++ [fig (IntKind.i64.wrap (Int.tdiv (IntKind.i64.wrap ((byteAt p0 i).toNat : Int)) 16)), fig (Int.tmod (IntKind.i64.wrap ((byteAt p0 i).toNat : Int)) 16)]), (i + 1)) [2] [1] ⟨by dsimp only; exact ⟨by omega, by simp only [List.length_append, List.length_cons, List.length_nil]; omega⟩, hM⟩ rfl (by show _ - _ < _ - _; (try dsimp only); omega) su (by decide)
    ·
      have h2l : ¬ (i < p0.size) := by have := of_decide_eq_false h2; omega
      have hM := hE.trans ((congrArg (fun n => spec_Hex_l1 p0 n v4 i) (show p0.size - i = 0 by omega)).trans (spec_Hex_l1.eq_1 _ _ _))
      refine ad 4 ?_
      refine op (ts v4) ?_
      refine ad 3 ?_
      exact rz (rs := [.tmp 2, .tmp 3]) (congrArg (fun x => [Re.c (.string x.1), Re.c (.bool x.2)]) hM)

end Go.Proofs.YtnjidaonbcbphaaGreatDoor.Fw
/-
  Hexadecimal texts. No condition.
-/
namespace Go.Proofs.YtnjidaonbcbphaaGreatDoor.Fw
open Go.RowKit
set_option linter.unusedVariables false
set_option linter.unusedSimpArgs false
set_option maxRecDepth 100000
theorem fig_digits : ∀ n : Fin 256, fig (IntKind.i64.wrap (Int.tdiv (IntKind.i64.wrap ((n.val : Nat) : Int)) 16)) = Lib.Hx.digit (n.val / 16) ∧ fig (Int.tmod (IntKind.i64.wrap ((n.val : Nat) : Int)) 16) = Lib.Hx.digit (n.val % 16) := by decide +kernel
theorem fig_byte (b : UInt8) : fig (IntKind.i64.wrap (Int.tdiv (IntKind.i64.wrap (b.toNat : Int)) 16)) = Lib.Hx.digit (b.toNat / 16) ∧ fig (Int.tmod (IntKind.i64.wrap (b.toNat : Int)) 16) = Lib.Hx.digit (b.toNat % 16) := fig_digits ⟨b.toNat, b.toNat_lt⟩
theorem sbytes_at {s : ByteArray} {i : Nat} (h : i < (sbytes s).length) : (sbytes s)[i] = byteAt s i := by
  have h' : i < s.data.size := by rw [sbytes_length] at h; exact h
  unfold byteAt
  rw [Array.getD_eq_getD_getElem?, Array.getElem?_eq_getElem h']
  simp [sbytes]
theorem spec_Hex_l1_is (p0 : ByteArray) : ∀ n i v, n = p0.size - i → spec_Hex_l1 p0 n v i = (bstr (v ++ Lib.Hx.encode ((sbytes p0).drop i)), true) := by
  intro n
  induction n with
  | zero =>
    intro i v h
    rw [List.drop_eq_nil_of_le (by rw [sbytes_length]; omega)]
    show (bstr v, true) = _
    rw [show Lib.Hx.encode [] = [] from rfl, List.append_nil]
  | succ n ih =>
    intro i v h
    have hi : i < (sbytes p0).length := by rw [sbytes_length]; omega
    rw [spec_Hex_l1, ih _ _ (by omega), List.drop_eq_getElem_cons hi, Lib.Hx.encode_cons, sbytes_at hi, (fig_byte _).1, (fig_byte _).2, List.append_assoc]
    rfl
theorem spec_Hex_is {p0 : ByteArray} (h : p0.size ≤ 20000) : (spec_Hex p0).1 = hexEnc (sbytes p0) := by
  unfold spec_Hex
  have hc : ¬ (p0.size : Int) > 20000 := by omega
  simp only [hc, decide_false, cond_false]
  rw [spec_Hex_l1_is p0 _ _ _ rfl]
  rfl
theorem hexEnc_size (xs : List UInt8) : (hexEnc xs).size = 2 * xs.length := by
  show ((Lib.Hx.encode xs).toArray).size = _
  rw [List.size_toArray, Lib.Hx.encode_length]
theorem impl_Hex_le (p0 : ByteArray) : (impl_Hex p0).1.size ≤ 40000 := by
  unfold impl_Hex
  cases hc : decide ((p0.size : Int) > 20000) with
  | true => exact Nat.zero_le _
  | false =>
    have := of_decide_eq_false hc
    show (hexEnc (sbytes p0)).size ≤ 40000
    rw [hexEnc_size, sbytes_length]
    omega
theorem spec_Hex_le (p0 : ByteArray) : (spec_Hex p0).1.size ≤ 40000 := by
  by_cases h : p0.size ≤ 20000
  · rw [spec_Hex_is h, hexEnc_size, sbytes_length]
    omega
  · unfold spec_Hex
    rw [decide_eq_true (show (p0.size : Int) > 20000 by omega)]
    exact Nat.zero_le _

end Go.Proofs.YtnjidaonbcbphaaGreatDoor.Fw

/- Contracts: each call returns what the model says. By program (wip/am/gen2.py). -/
namespace Go.Proofs.YtnjidaonbcbphaaGreatDoor.Fw
open Go.RowKit
set_option linter.unusedVariables false
set_option maxRecDepth 100000

theorem fok15 : FnOk Tryz.prog 15 := ⟨_, Tryz.func15, rfl, by kernel_rfl⟩
theorem fok48 : FnOk Tryz.prog 48 := ⟨_, Tryz.func48, rfl, by kernel_rfl⟩
theorem fok49 : FnOk Tryz.prog 49 := ⟨_, Tryz.func49, rfl, by kernel_rfl⟩
theorem fok50 : FnOk Tryz.prog 50 := ⟨_, Tryz.func50, rfl, by kernel_rfl⟩
theorem fok51 : FnOk Tryz.prog 51 := ⟨_, Tryz.func51, rfl, by kernel_rfl⟩
theorem fok57 : FnOk Tryz.prog 57 := ⟨_, Tryz.func57, rfl, by kernel_rfl⟩
theorem fok58 : FnOk Tryz.prog 58 := ⟨_, Tryz.func58, rfl, by kernel_rfl⟩
theorem fok59 : FnOk Tryz.prog 59 := ⟨_, Tryz.func59, rfl, by kernel_rfl⟩
theorem fok60 : FnOk Tryz.prog 60 := ⟨_, Tryz.func60, rfl, by kernel_rfl⟩
theorem fok61 : FnOk Tryz.prog 61 := ⟨_, Tryz.func61, rfl, by kernel_rfl⟩
theorem fok66 : FnOk Tryz.prog 66 := ⟨_, Tryz.func66, rfl, by kernel_rfl⟩
theorem fok67 : FnOk Tryz.prog 67 := ⟨_, Tryz.func67, rfl, by kernel_rfl⟩
theorem fok68 : FnOk Tryz.prog 68 := ⟨_, Tryz.func68, rfl, by kernel_rfl⟩
theorem fok69 : FnOk Tryz.prog 69 := ⟨_, Tryz.func69, rfl, by kernel_rfl⟩
theorem fok121 : FnOk Tryz.prog 121 := ⟨_, Tryz.func121, rfl, by kernel_rfl⟩
theorem fok122 : FnOk Tryz.prog 122 := ⟨_, Tryz.func122, rfl, by kernel_rfl⟩
theorem fok128 : FnOk Tryz.prog 128 := ⟨_, Tryz.func128, rfl, by kernel_rfl⟩
theorem fok130 : FnOk Tryz.prog 130 := ⟨_, Tryz.func130, rfl, by kernel_rfl⟩
theorem fok131 : FnOk Tryz.prog 131 := ⟨_, Tryz.func131, rfl, by kernel_rfl⟩
theorem fok141 : FnOk Tryz.prog 141 := ⟨_, Tryz.func141, rfl, by kernel_rfl⟩
/- F49 loop.example/g00974/spec.TxLines -/
def spec_TxLines_l1 (p0 : List Tx) : Nat → (List ByteArray) → Nat → (List ByteArray)
  | 0, v3, i => v3
  | n + 1, v3, i => spec_TxLines_l1 p0 n (v3 ++ [(spec_TxLine (nth p0 i))]) (i + 1)
def spec_TxLines (p0 : List Tx) : (List ByteArray) := spec_TxLines_l1 p0 (p0.length - 0) ([] : List ByteArray) 0
theorem c_spec_TxLines (p0 : List Tx) (hs0 : p0.length ≤ 1048576) : CTs 49 [.o (.sl Tx instDatTx p0)] [Re.sl ByteArray instDatByteArray (spec_TxLines p0)] := by
  refine en Tryz.func49 Tryz.ntmps49 fun w hG hgd => ?_
  obtain ⟨hg_p0, _⟩ := hgd
  have hl_p0 : p0.length ≤ 9223372036854775807 := hg_p0.1
  have hM := spec_TxLines.eq_1 p0
  refine ad 6 ?_
  refine op (l0) ?_
  refine ad 8 ?_
  refine li 1 (d := instDatByteArray) ([] : List ByteArray) ?_
  refine Run.loopM (ι := (List ByteArray) × Nat) (fun s => spec_TxLines_l1 p0 (p0.length - s.2) s.1 s.2) (fun s => ⟨21, 2, [(0, .sl 0 p0.length), (3, .sl 1 s.1.length), (4, .v (.int .i64 (s.2 : Int)))], [(0, .ros Tx instDatTx p0), (1, .own ByteArray instDatByteArray s.1)]⟩) (fun s => s.2 ≤ p0.length ∧ s.1.length ≤ s.2) (fun s => p0.length - s.2) (([] : List ByteArray), 0) [0, 1] [1, 0] hM (by exact ⟨by (try dsimp only); omega, by simp⟩) su (by decide) ?_
  rintro ⟨v3, i⟩ hv hE
  try dsimp only at hE
  obtain ⟨hi, hv0⟩ := hv
  try dsimp only at hi hv0
  refine ad 8 ?_
  refine cd (fun h1 => ?_) (fun h1 => ?_)
  ·
    have h1l : i < p0.length := by have := of_decide_eq_true h1; omega
    have hM := hE.trans ((congrArg (fun n => spec_TxLines_l1 p0 n v3 i) (show p0.length - i = (p0.length - (i + 1)) + 1 by omega)).trans (spec_TxLines_l1.eq_2 _ _ _ _))
    refine ad 7 ?_
    have hg3 := good_nth (k := i) hg_p0 om
    refine op (ix (xs := p0) i om) ?_
    refine ad 1 ?_
    have hg4 : Dat.good (nth p0 i : Tx) := hg3
    have hs5 := spec_TxLine_le (e := (nth p0 i)) (by assumption)
    refine op (cl (k_spec_TxLine (nth p0 i)) fok121) ?_
    refine ad 1 ?_
    have hg6 : (spec_TxLine (nth p0 i)).size ≤ maxLen := ((TxLine_gd (e := (nth p0 i)) (by assumption)).1)
    refine op (ap [(spec_TxLine (nth p0 i))] (hg := gdt) (hb := by simp only [List.length_cons, List.length_nil]; first | omega | exact om)) ?_
    refine ad 6 ?_
    rw [wrapN (i := i) (by first | omega | exact om)]
    refine ad 2 ?_
    exact Run.again ((v3 ++ [(spec_TxLine (nth p0 i))]), (i + 1)) [0, 9] [7, 8] ⟨by exact ⟨by (try dsimp only); omega, by (try dsimp only); rw [List.length_append]; simp only [List.length_cons, List.length_nil]; omega⟩, hM⟩ rfl (by show _ - _ < _ - _; (try dsimp only); omega) su (by decide)
  ·
    have h1l : ¬ (i < p0.length) := by have := of_decide_eq_false h1; omega
    have hM := hE.trans ((congrArg (fun n => spec_TxLines_l1 p0 n v3 i) (show p0.length - i = 0 by omega)).trans (spec_TxLines_l1.eq_1 _ _ _))
    refine ad 6 ?_
    exact rz (rs := [.tmp 2]) (congrArg (fun x => [Re.sl ByteArray instDatByteArray x]) hM)
theorem spec_TxLines_l1_len (p0 : List Tx) : ∀ n v i, (spec_TxLines_l1 p0 n v i).length = v.length + n := by
  intro n
  induction n with
  | zero => intro v i; rfl
  | succ n ih => intro v i; rw [spec_TxLines_l1, ih, List.length_append, List.length_singleton]; omega
theorem spec_TxLines_len (p0 : List Tx) : (spec_TxLines p0).length = p0.length := by
  unfold spec_TxLines
  rw [spec_TxLines_l1_len]
  simp

/- F50 loop.example/g00974/spec.EntryLines -/
def spec_EntryLines_l1 (p0 : List Entry) : Nat → (List ByteArray) → Nat → (List ByteArray)
  | 0, v3, i => v3
  | n + 1, v3, i => spec_EntryLines_l1 p0 n (v3 ++ [(spec_EntryLine (nth p0 i))]) (i + 1)
def spec_EntryLines (p0 : List Entry) : (List ByteArray) := spec_EntryLines_l1 p0 (p0.length - 0) ([] : List ByteArray) 0
theorem c_spec_EntryLines (p0 : List Entry) (hs0 : p0.length ≤ 1048576) : CTs 50 [.o (.sl Entry instDatEntry p0)] [Re.sl ByteArray instDatByteArray (spec_EntryLines p0)] := by
  refine en Tryz.func50 Tryz.ntmps50 fun w hG hgd => ?_
  obtain ⟨hg_p0, _⟩ := hgd
  have hl_p0 : p0.length ≤ 9223372036854775807 := hg_p0.1
  have hM := spec_EntryLines.eq_1 p0
  refine ad 6 ?_
  refine op (l0) ?_
  refine ad 8 ?_
  refine li 1 (d := instDatByteArray) ([] : List ByteArray) ?_
  refine Run.loopM (ι := (List ByteArray) × Nat) (fun s => spec_EntryLines_l1 p0 (p0.length - s.2) s.1 s.2) (fun s => ⟨21, 2, [(0, .sl 0 p0.length), (3, .sl 1 s.1.length), (4, .v (.int .i64 (s.2 : Int)))], [(0, .ros Entry instDatEntry p0), (1, .own ByteArray instDatByteArray s.1)]⟩) (fun s => s.2 ≤ p0.length ∧ s.1.length ≤ s.2) (fun s => p0.length - s.2) (([] : List ByteArray), 0) [0, 1] [1, 0] hM (by exact ⟨by (try dsimp only); omega, by simp⟩) su (by decide) ?_
  rintro ⟨v3, i⟩ hv hE
  try dsimp only at hE
  obtain ⟨hi, hv0⟩ := hv
  try dsimp only at hi hv0
  refine ad 8 ?_
  refine cd (fun h1 => ?_) (fun h1 => ?_)
  ·
    have h1l : i < p0.length := by have := of_decide_eq_true h1; omega
    have hM := hE.trans ((congrArg (fun n => spec_EntryLines_l1 p0 n v3 i) (show p0.length - i = (p0.length - (i + 1)) + 1 by omega)).trans (spec_EntryLines_l1.eq_2 _ _ _ _))
    refine ad 7 ?_
    have hg3 := good_nth (k := i) hg_p0 om
    refine op (ix (xs := p0) i om) ?_
    refine ad 1 ?_
    have hg4 : Dat.good (nth p0 i : Entry) := hg3
    have hs5 := spec_EntryLine_le (e := (nth p0 i)) (by assumption)
    refine op (cl (k_spec_EntryLine (nth p0 i)) fok122) ?_
    refine ad 1 ?_
    have hg6 : (spec_EntryLine (nth p0 i)).size ≤ maxLen := ((EntryLine_gd (e := (nth p0 i)) (by assumption)).1)
    refine op (ap [(spec_EntryLine (nth p0 i))] (hg := gdt) (hb := by simp only [List.length_cons, List.length_nil]; first | omega | exact om)) ?_
    refine ad 6 ?_
    rw [wrapN (i := i) (by first | omega | exact om)]
    refine ad 2 ?_
    exact Run.again ((v3 ++ [(spec_EntryLine (nth p0 i))]), (i + 1)) [0, 6] [4, 5] ⟨by exact ⟨by (try dsimp only); omega, by (try dsimp only); rw [List.length_append]; simp only [List.length_cons, List.length_nil]; omega⟩, hM⟩ rfl (by show _ - _ < _ - _; (try dsimp only); omega) su (by decide)
  ·
    have h1l : ¬ (i < p0.length) := by have := of_decide_eq_false h1; omega
    have hM := hE.trans ((congrArg (fun n => spec_EntryLines_l1 p0 n v3 i) (show p0.length - i = 0 by omega)).trans (spec_EntryLines_l1.eq_1 _ _ _))
    refine ad 6 ?_
    exact rz (rs := [.tmp 2]) (congrArg (fun x => [Re.sl ByteArray instDatByteArray x]) hM)
theorem spec_EntryLines_l1_len (p0 : List Entry) : ∀ n v i, (spec_EntryLines_l1 p0 n v i).length = v.length + n := by
  intro n
  induction n with
  | zero => intro v i; rfl
  | succ n ih => intro v i; rw [spec_EntryLines_l1, ih, List.length_append, List.length_singleton]; omega
theorem spec_EntryLines_len (p0 : List Entry) : (spec_EntryLines p0).length = p0.length := by
  unfold spec_EntryLines
  rw [spec_EntryLines_l1_len]
  simp

/- F59 loop.example/g00974/impl.TxLines -/
def impl_TxLines_l1 (p0 : List Tx) : Nat → (List ByteArray) → Nat → (List ByteArray)
  | 0, v3, i => v3
  | n + 1, v3, i => impl_TxLines_l1 p0 n (v3 ++ [(impl_TxLine (nth p0 i))]) (i + 1)
def impl_TxLines (p0 : List Tx) : (List ByteArray) := impl_TxLines_l1 p0 (p0.length - 0) [] 0
theorem c_impl_TxLines (p0 : List Tx) (hs0 : p0.length ≤ 1048576) : CTs 59 [.o (.sl Tx instDatTx p0)] [Re.sl ByteArray instDatByteArray (impl_TxLines p0)] := by
  refine en Tryz.func59 Tryz.ntmps59 fun w hG hgd => ?_
  obtain ⟨hg_p0, _⟩ := hgd
  have hl_p0 : p0.length ≤ 9223372036854775807 := hg_p0.1
  have hM := impl_TxLines.eq_1 p0
  refine ad 16 ?_
  refine Run.nil 3 (α := ByteArray) (d := instDatByteArray) rfl ?_
  refine Run.loopM (ι := (List ByteArray) × Nat) (fun s => impl_TxLines_l1 p0 (p0.length - s.2) s.1 s.2) (fun s => ⟨19, 2, [(3, .sl 1 s.1.length), (6, .sl 0 p0.length), (7, .v (.int .i64 (p0.length : Int))), (8, .v (.int .i64 (s.2 : Int)))], [(0, .ros Tx instDatTx p0), (1, .own ByteArray instDatByteArray s.1)]⟩) (fun s => s.2 ≤ p0.length ∧ s.1.length ≤ s.2) (fun s => p0.length - s.2) ([], 0) [0, 1] [1, 0] hM (by exact ⟨by (try dsimp only); omega, by simp⟩) su (by decide) ?_
  rintro ⟨v3, i⟩ hv hE
  try dsimp only at hE
  obtain ⟨hi, hv0⟩ := hv
  try dsimp only at hi hv0
  refine ad 5 ?_
  refine cd (fun h1 => ?_) (fun h1 => ?_)
  ·
    have h1l : i < p0.length := by have := of_decide_eq_true h1; omega
    have hM := hE.trans ((congrArg (fun n => impl_TxLines_l1 p0 n v3 i) (show p0.length - i = (p0.length - (i + 1)) + 1 by omega)).trans (impl_TxLines_l1.eq_2 _ _ _ _))
    refine ad 5 ?_
    have hg3 := good_nth (k := i) hg_p0 om
    refine op (ix (xs := p0) i om) ?_
    refine ad 7 ?_
    have hg4 : Dat.good (nth p0 i : Tx) := hg3
    have hs5 := impl_TxLine_le (e := (nth p0 i)) (by assumption)
    refine op (cl (k_impl_TxLine (nth p0 i)) fok130) ?_
    refine ad 1 ?_
    have hg6 : (impl_TxLine (nth p0 i)).size ≤ maxLen := ((TxLine_gd (e := (nth p0 i)) (by assumption)).2)
    refine op (ap [(impl_TxLine (nth p0 i))] (hg := gdt) (hb := by simp only [List.length_cons, List.length_nil]; first | omega | exact om)) ?_
    refine ad 5 ?_
    rw [wrapN (i := i) (by first | omega | exact om)]
    refine ad 2 ?_
    exact Run.again ((v3 ++ [(impl_TxLine (nth p0 i))]), (i + 1)) [0, 10] [8, 9] ⟨by exact ⟨by (try dsimp only); omega, by (try dsimp only); rw [List.length_append]; simp only [List.length_cons, List.length_nil]; omega⟩, hM⟩ rfl (by show _ - _ < _ - _; (try dsimp only); omega) su (by decide)
  ·
    have h1l : ¬ (i < p0.length) := by have := of_decide_eq_false h1; omega
    have hM := hE.trans ((congrArg (fun n => impl_TxLines_l1 p0 n v3 i) (show p0.length - i = 0 by omega)).trans (impl_TxLines_l1.eq_1 _ _ _))
    refine ad 6 ?_
    exact rz (rs := [.tmp 2]) (congrArg (fun x => [Re.sl ByteArray instDatByteArray x]) hM)
theorem impl_TxLines_l1_len (p0 : List Tx) : ∀ n v i, (impl_TxLines_l1 p0 n v i).length = v.length + n := by
  intro n
  induction n with
  | zero => intro v i; rfl
  | succ n ih => intro v i; rw [impl_TxLines_l1, ih, List.length_append, List.length_singleton]; omega
theorem impl_TxLines_len (p0 : List Tx) : (impl_TxLines p0).length = p0.length := by
  unfold impl_TxLines
  rw [impl_TxLines_l1_len]
  simp

/- F60 loop.example/g00974/impl.EntryLines -/
def impl_EntryLines_l1 (p0 : List Entry) : Nat → (List ByteArray) → Nat → (List ByteArray)
  | 0, v3, i => v3
  | n + 1, v3, i => impl_EntryLines_l1 p0 n (v3 ++ [(impl_EntryLine (nth p0 i))]) (i + 1)
def impl_EntryLines (p0 : List Entry) : (List ByteArray) := impl_EntryLines_l1 p0 (p0.length - 0) [] 0
theorem c_impl_EntryLines (p0 : List Entry) (hs0 : p0.length ≤ 1048576) : CTs 60 [.o (.sl Entry instDatEntry p0)] [Re.sl ByteArray instDatByteArray (impl_EntryLines p0)] := by
  refine en Tryz.func60 Tryz.ntmps60 fun w hG hgd => ?_
  obtain ⟨hg_p0, _⟩ := hgd
  have hl_p0 : p0.length ≤ 9223372036854775807 := hg_p0.1
  have hM := impl_EntryLines.eq_1 p0
  refine ad 16 ?_
  refine Run.nil 3 (α := ByteArray) (d := instDatByteArray) rfl ?_
  refine Run.loopM (ι := (List ByteArray) × Nat) (fun s => impl_EntryLines_l1 p0 (p0.length - s.2) s.1 s.2) (fun s => ⟨19, 2, [(3, .sl 1 s.1.length), (6, .sl 0 p0.length), (7, .v (.int .i64 (p0.length : Int))), (8, .v (.int .i64 (s.2 : Int)))], [(0, .ros Entry instDatEntry p0), (1, .own ByteArray instDatByteArray s.1)]⟩) (fun s => s.2 ≤ p0.length ∧ s.1.length ≤ s.2) (fun s => p0.length - s.2) ([], 0) [0, 1] [1, 0] hM (by exact ⟨by (try dsimp only); omega, by simp⟩) su (by decide) ?_
  rintro ⟨v3, i⟩ hv hE
  try dsimp only at hE
  obtain ⟨hi, hv0⟩ := hv
  try dsimp only at hi hv0
  refine ad 5 ?_
  refine cd (fun h1 => ?_) (fun h1 => ?_)
  ·
    have h1l : i < p0.length := by have := of_decide_eq_true h1; omega
    have hM := hE.trans ((congrArg (fun n => impl_EntryLines_l1 p0 n v3 i) (show p0.length - i = (p0.length - (i + 1)) + 1 by omega)).trans (impl_EntryLines_l1.eq_2 _ _ _ _))
    refine ad 5 ?_
    have hg3 := good_nth (k := i) hg_p0 om
    refine op (ix (xs := p0) i om) ?_
    refine ad 7 ?_
    have hg4 : Dat.good (nth p0 i : Entry) := hg3
    have hs5 := impl_EntryLine_le (e := (nth p0 i)) (by assumption)
    refine op (cl (k_impl_EntryLine (nth p0 i)) fok131) ?_
    refine ad 1 ?_
    have hg6 : (impl_EntryLine (nth p0 i)).size ≤ maxLen := ((EntryLine_gd (e := (nth p0 i)) (by assumption)).2)
    refine op (ap [(impl_EntryLine (nth p0 i))] (hg := gdt) (hb := by simp only [List.length_cons, List.length_nil]; first | omega | exact om)) ?_
    refine ad 5 ?_
    rw [wrapN (i := i) (by first | omega | exact om)]
    refine ad 2 ?_
    exact Run.again ((v3 ++ [(impl_EntryLine (nth p0 i))]), (i + 1)) [0, 7] [5, 6] ⟨by exact ⟨by (try dsimp only); omega, by (try dsimp only); rw [List.length_append]; simp only [List.length_cons, List.length_nil]; omega⟩, hM⟩ rfl (by show _ - _ < _ - _; (try dsimp only); omega) su (by decide)
  ·
    have h1l : ¬ (i < p0.length) := by have := of_decide_eq_false h1; omega
    have hM := hE.trans ((congrArg (fun n => impl_EntryLines_l1 p0 n v3 i) (show p0.length - i = 0 by omega)).trans (impl_EntryLines_l1.eq_1 _ _ _))
    refine ad 6 ?_
    exact rz (rs := [.tmp 2]) (congrArg (fun x => [Re.sl ByteArray instDatByteArray x]) hM)
theorem impl_EntryLines_l1_len (p0 : List Entry) : ∀ n v i, (impl_EntryLines_l1 p0 n v i).length = v.length + n := by
  intro n
  induction n with
  | zero => intro v i; rfl
  | succ n ih => intro v i; rw [impl_EntryLines_l1, ih, List.length_append, List.length_singleton]; omega
theorem impl_EntryLines_len (p0 : List Entry) : (impl_EntryLines p0).length = p0.length := by
  unfold impl_EntryLines
  rw [impl_EntryLines_l1_len]
  simp

/- F57 slices.Concat[[]string,string] -/
def slices_Concat_string_l2 (p0 : List (List ByteArray)) (v3 : Int) (i : Nat) (k_2 : (List ByteArray) → (List ByteArray)) : Nat → (List ByteArray) → Nat → (List ByteArray)
  | 0, v6_2, i_2 => k_2 v6_2
  | n_2 + 1, v6_2, i_2 => slices_Concat_string_l2 p0 v3 i k_2 n_2 (v6_2 ++ (nth p0 i_2)) (i_2 + 1)
def slices_Concat_string_l1 (p0 : List (List ByteArray)) : Nat → Int → Nat → (List ByteArray)
  | 0, v3, i => slices_Concat_string_l2 p0 v3 i (fun e => e) (p0.length - 0) (growS v3) 0
  | n + 1, v3, i => slices_Concat_string_l1 p0 n (IntKind.i64.wrap (v3 + ((nth p0 i).length : Int))) (i + 1)
def slices_Concat_string (p0 : List (List ByteArray)) : (List ByteArray) := slices_Concat_string_l1 p0 (p0.length - 0) 0 0
theorem c_slices_Concat_string (p0 : List (List ByteArray)) (hq : p0.length ≤ 3 ∧ ∀ j, (nth p0 j).length ≤ 2097152) : CTs 57 [.o (.sl (List ByteArray) (@instDatList _ instDatByteArray) p0)] [Re.sl ByteArray instDatByteArray (slices_Concat_string p0)] := by
  refine en Tryz.func57 Tryz.ntmps57 fun w hG hgd => ?_
  obtain ⟨hg_p0, _⟩ := hgd
  have hl_p0 : p0.length ≤ 9223372036854775807 := hg_p0.1
  have hM := slices_Concat_string.eq_1 p0
  refine ad 16 ?_
  refine Run.loopM (ι := Int × Nat) (fun s => slices_Concat_string_l1 p0 (p0.length - s.2) s.1 s.2) (fun s => ⟨36, 1, [(0, .sl 0 p0.length), (3, .v (.int .i64 s.1)), (9, .sl 0 p0.length), (10, .v (.int .i64 (p0.length : Int))), (11, .v (.int .i64 (s.2 : Int)))], [(0, .ros (List ByteArray) (@instDatList _ instDatByteArray) p0)]⟩) (fun s => s.2 ≤ p0.length ∧ 0 ≤ s.1 ∧ s.1 < 2097152 * (s.2 : Int) + 1) (fun s => p0.length - s.2) (0, 0) [0] [0] hM (by exact ⟨by (try dsimp only); omega, by show (0 : Int) ≤ 0; omega, by show (0 : Int) < 2097152 * ((0 : Nat) : Int) + 1; omega⟩) su (by decide) ?_
  rintro ⟨v3, i⟩ hv hE
  try dsimp only at hE
  obtain ⟨hi, hv0, hv1⟩ := hv
  try dsimp only at hi hv0 hv1
  refine ad 5 ?_
  refine cd (fun h1 => ?_) (fun h1 => ?_)
  ·
    have h1l : i < p0.length := by have := of_decide_eq_true h1; omega
    have hM := hE.trans ((congrArg (fun n => slices_Concat_string_l1 p0 n v3 i) (show p0.length - i = (p0.length - (i + 1)) + 1 by omega)).trans (slices_Concat_string_l1.eq_2 _ _ _ _))
    refine ad 5 ?_
    have hg3 := good_nth (k := i) hg_p0 om
    refine op (ix (xs := p0) i om) ?_
    refine ad 16 ?_
    refine cd (fun h4 => absurd (h4.symm.trans (show (decide ((IntKind.i64.wrap (v3 + ((nth p0 i).length : Int))) < 0)) = false from decide_eq_false (by have hj := hq.2 i; rw [IntWalk.i64_in _ (by omega)]; omega))) (by decide)) (fun h4 => ?_)
    refine ad 4 ?_
    rw [wrapN (i := i) (by first | omega | exact om)]
    refine ad 2 ?_
    exact Run.again (IntKind.i64.wrap (v3 + ((nth p0 i).length : Int)), (i + 1)) [0] [2] ⟨by have hj := hq.2 i; have hw := IntWalk.i64_in (v3 + ((nth p0 i).length : Int)) (by omega); exact ⟨by (try dsimp only); omega, by show 0 ≤ IntKind.i64.wrap (v3 + ((nth p0 i).length : Int)); omega, by show IntKind.i64.wrap (v3 + ((nth p0 i).length : Int)) < 2097152 * ((i + 1 : Nat) : Int) + 1; omega⟩, hM⟩ rfl (by show _ - _ < _ - _; (try dsimp only); omega) su (by decide)
  ·
    have h1l : ¬ (i < p0.length) := by have := of_decide_eq_false h1; omega
    have hM := hE.trans ((congrArg (fun n => slices_Concat_string_l1 p0 n v3 i) (show p0.length - i = 0 by omega)).trans (slices_Concat_string_l1.eq_1 _ _ _))
    refine ad 4 ?_
    refine og (clg (k_Grow v3 (by assumption) (by omega)) fok128) fun hgq => ?_
    obtain ⟨hg5, _⟩ := hgq
    refine ad 10 ?_
    refine Run.loopkM (ι := (List ByteArray) × Nat) (κ := (List ByteArray)) (fun k s => slices_Concat_string_l2 p0 v3 i k (p0.length - s.2) s.1 s.2) (fun s => ⟨36, 2, [(6, .sl 1 s.1.length), (25, .sl 0 p0.length), (26, .v (.int .i64 (p0.length : Int))), (27, .v (.int .i64 (s.2 : Int)))], [(0, .ros (List ByteArray) (@instDatList _ instDatByteArray) p0), (1, .own ByteArray instDatByteArray s.1)]⟩) (fun s => s.2 ≤ p0.length ∧ s.1.length < 2097152 * s.2 + 1) (fun s => p0.length - s.2) (fun e => ⟨36, 1, [(6, .sl 0 e.length)], [(0, .own ByteArray instDatByteArray e)]⟩) (fun e => True) ((growS v3), 0) [0, 1] [1, 0] hM (by exact ⟨by (try dsimp only); omega, by show 0 < 2097152 * 0 + 1; omega⟩) su (by decide) ?_ ?_
    ·
      rintro ev6_2 hv hM
      try dsimp only at hM hv ⊢
      refine ad 5 ?_
      exact rz (rs := [.tmp 2]) (congrArg (fun x => [Re.sl ByteArray instDatByteArray x]) hM)
    ·
      intro k_2 hk_2
      rintro ⟨v6_2, i_2⟩ hv_2 hE
      try dsimp only at hE
      obtain ⟨hi_2, hv_2_0⟩ := hv_2
      try dsimp only at hi_2 hv_2_0
      refine ad 5 ?_
      refine cd (fun h6 => ?_) (fun h6 => ?_)
      ·
        have h6l : i_2 < p0.length := by have := of_decide_eq_true h6; omega
        have hM := hE.trans ((congrArg (fun n => slices_Concat_string_l2 p0 v3 i k_2 n v6_2 i_2) (show p0.length - i_2 = (p0.length - (i_2 + 1)) + 1 by omega)).trans (slices_Concat_string_l2.eq_2 _ _ _ _ _ _ _))
        have hj := hq.2 i_2
        have hq1 := hq.1
        refine ad 5 ?_
        have hg8 := good_nth (k := i_2) hg_p0 om
        refine op (ix (xs := p0) i_2 om) ?_
        refine ad 6 ?_
        refine op (aS (dα := instDatByteArray) (e := 9) (by' := 16) v6_2 (nth p0 i_2) [1] (hb := by (try simp only [List.length_append, List.length_cons, List.length_nil]); first | omega | exact om) (hm := by (try simp only [List.length_append, List.length_cons, List.length_nil]); first | omega | exact om)) ?_
        refine ad 5 ?_
        rw [wrapN (i := i_2) (by first | omega | exact om)]
        refine ad 2 ?_
        exact Run.again ((v6_2 ++ (nth p0 i_2)), (i_2 + 1)) [0, 4] [3, 0] ⟨by exact ⟨by (try dsimp only); omega, by show (v6_2 ++ nth p0 i_2).length < 2097152 * (i_2 + 1) + 1; rw [List.length_append]; omega⟩, hM⟩ rfl (by show _ - _ < _ - _; (try dsimp only); omega) su (by decide)
      ·
        have h6l : ¬ (i_2 < p0.length) := by have := of_decide_eq_false h6; omega
        have hM := hE.trans ((congrArg (fun n => slices_Concat_string_l2 p0 v3 i k_2 n v6_2 i_2) (show p0.length - i_2 = 0 by omega)).trans (slices_Concat_string_l2.eq_1 _ _ _ _ _ _))
        refine ad 1 ?_
        exact Run.exitkM hk_2 v6_2 [1] [1] hM (by trivial) su (by decide)
theorem conc3 {a b c : List ByteArray} (ha : a.length ≤ 2097152) (hb : b.length ≤ 2097152) (hc : c.length ≤ 2097152) : ([a, b, c] : List (List ByteArray)).length ≤ 3 ∧ ∀ j, (nth ([a, b, c] : List (List ByteArray)) j).length ≤ 2097152 := by
  refine ⟨Nat.le_refl _, fun j => ?_⟩
  match j with
  | 0 => exact ha
  | 1 => exact hb
  | 2 => exact hc
  | j + 3 => exact Nat.zero_le _
theorem Concat_is (a b c : List ByteArray) : slices_Concat_string ([a, b, c] : List (List ByteArray)) = (a ++ b) ++ c := rfl
theorem Concat_len (a b c : List ByteArray) : (slices_Concat_string ([a, b, c] : List (List ByteArray))).length = a.length + b.length + c.length := by rw [Concat_is, List.length_append, List.length_append]

/- F9 loop.example/g00974/spec.KernelLines -/
def spec_KernelLines_l1 (p0 : Kernel) : Nat → (List ByteArray) → Nat → (List ByteArray)
  | 0, v3, i => v3
  | n + 1, v3, i => spec_KernelLines_l1 p0 n (v3 ++ [⟨#[111, 117, 116, 32]⟩ ++ ((spec_Hex (nth p0.Seen i)).1)]) (i + 1)
def spec_KernelLines (p0 : Kernel) : (List ByteArray) := spec_KernelLines_l1 p0 (p0.Seen.length - 0) ((([⟨#[115, 101, 113, 32]⟩ ++ (spec_Decimal p0.Seq)] : List ByteArray) ++ (spec_TxLines p0.Txs)) ++ (spec_EntryLines p0.History)) 0
theorem c_spec_KernelLines (p0 : Kernel) (hs : Dat.small 1048576 p0) : CTs 9 [.o (.st Kernel _ inferInstance p0)] [Re.sl ByteArray instDatByteArray (spec_KernelLines p0)] := by
  refine en Tryz.func9 Tryz.ntmps9 fun w hG hgd => ?_
  obtain ⟨hg_p0, _⟩ := hgd
  have hM := spec_KernelLines.eq_1 p0
  have hs1 : p0.Txs.length ≤ 1048576 := hs.2.1.1
  have hs6 : p0.History.length ≤ 1048576 := hs.2.2.2.2.2.2.1.1
  have hs7 : p0.Seen.length ≤ 1048576 := hs.2.2.2.2.2.2.2.1.1
  have hlt := spec_TxLines_len p0.Txs
  have hle := spec_EntryLines_len p0.History
  refine ad 9 ?_
  have hs1 := spec_Decimal_size (p0 := p0.Seq) hg_p0.2.2.2.1
  refine op (cl (k_spec_Decimal p0.Seq hg_p0.2.2.2.1) fok48) ?_
  refine op (ca (hs := szt)) ?_
  refine ad 8 ?_
  refine og (clg (c_spec_TxLines p0.Txs (by assumption)) fok49) fun hgq => ?_
  obtain ⟨hg2, _⟩ := hgq
  have hg3 : (⟨#[115, 101, 113, 32]⟩ ++ (spec_Decimal p0.Seq)).size ≤ maxLen := (show (⟨#[115, 101, 113, 32]⟩ ++ (spec_Decimal p0.Seq)).size ≤ 9223372036854775807 from szt)
  refine li 6 (d := instDatByteArray) ([⟨#[115, 101, 113, 32]⟩ ++ (spec_Decimal p0.Seq)] : List ByteArray) ?_
  refine op (aS (dα := instDatByteArray) (e := 9) (by' := 16) ([⟨#[115, 101, 113, 32]⟩ ++ (spec_Decimal p0.Seq)] : List ByteArray) (spec_TxLines p0.Txs) [6] (hb := by (try simp only [List.length_append, List.length_cons, List.length_nil]); first | omega | exact om) (hm := by (try simp only [List.length_append, List.length_cons, List.length_nil]); first | omega | exact om)) ?_
  refine ad 7 ?_
  refine og (clg (c_spec_EntryLines p0.History (by assumption)) fok50) fun hgq => ?_
  obtain ⟨hg4, _⟩ := hgq
  refine op (aS (dα := instDatByteArray) (e := 9) (by' := 16) (([⟨#[115, 101, 113, 32]⟩ ++ (spec_Decimal p0.Seq)] : List ByteArray) ++ (spec_TxLines p0.Txs)) (spec_EntryLines p0.History) [8] (hb := by (try simp only [List.length_append, List.length_cons, List.length_nil]); first | omega | exact om) (hm := by (try simp only [List.length_append, List.length_cons, List.length_nil]); first | omega | exact om)) ?_
  refine ad 8 ?_
  refine Run.loopM (ι := (List ByteArray) × Nat) (fun s => spec_KernelLines_l1 p0 (p0.Seen.length - s.2) s.1 s.2) (fun s => ⟨44, 7, [(1, .pt 0 0), (3, .sl 6 s.1.length), (4, .v (.int .i64 (s.2 : Int)))], [(0, .var [.sl 1 p0.Store.length, .sl 2 p0.Txs.length, .sl 3 p0.Disk.Slots.length, .v (.string p0.Disk.Journal.Text), .v (.int .i64 p0.Disk.Journal.Sure), .v (.int .i64 p0.Seq), .v (.int .i64 p0.Next), .v (.int .i64 p0.Time), .sl 4 p0.History.length, .sl 5 p0.Seen.length, .v (.bool p0.Room)] 43), (1, .ros Cell instDatCell p0.Store), (2, .ros Tx instDatTx p0.Txs), (3, .ros Slot instDatSlot p0.Disk.Slots), (4, .ros Entry instDatEntry p0.History), (5, .ros ByteArray instDatByteArray p0.Seen), (6, .own ByteArray instDatByteArray s.1)]⟩) (fun s => s.2 ≤ p0.Seen.length ∧ s.1.length ≤ 3000000 + s.2) (fun s => p0.Seen.length - s.2) (((([⟨#[115, 101, 113, 32]⟩ ++ (spec_Decimal p0.Seq)] : List ByteArray) ++ (spec_TxLines p0.Txs)) ++ (spec_EntryLines p0.History)), 0) [5, 0, 1, 2, 3, 4, 10] [3, 4, 5, 6, 7, 8, 0] hM (by exact ⟨by (try dsimp only); omega, by (try dsimp only); first | omega | (simp only [List.length_append, List.length_cons, List.length_nil]; omega)⟩) su (by decide) ?_
  rintro ⟨v3, i⟩ hv hE
  try dsimp only at hE
  obtain ⟨hi, hv0⟩ := hv
  try dsimp only at hi hv0
  refine ad 9 ?_
  refine cd (fun h5 => ?_) (fun h5 => ?_)
  ·
    have h5l : i < p0.Seen.length := by have := of_decide_eq_true h5; omega
    have hM := hE.trans ((congrArg (fun n => spec_KernelLines_l1 p0 n v3 i) (show p0.Seen.length - i = (p0.Seen.length - (i + 1)) + 1 by omega)).trans (spec_KernelLines_l1.eq_2 _ _ _ _))
    refine ad 8 ?_
    refine op (ix (xs := p0.Seen) i om) ?_
    refine ad 1 ?_
    have hs7 := spec_Hex_le (nth p0.Seen i)
    refine op (cl (c_spec_Hex (nth p0.Seen i) (good_nths hg_p0.2.2.2.2.2.2.2.1 _)) fok51) ?_
    refine ad 9 ?_
    refine op (ca (hs := szt)) ?_
    refine ad 1 ?_
    have hg8 : (⟨#[111, 117, 116, 32]⟩ ++ ((spec_Hex (nth p0.Seen i)).1)).size ≤ maxLen := (show (⟨#[111, 117, 116, 32]⟩ ++ ((spec_Hex (nth p0.Seen i)).1)).size ≤ 9223372036854775807 from szt)
    refine op (ap [⟨#[111, 117, 116, 32]⟩ ++ ((spec_Hex (nth p0.Seen i)).1)] (hg := gdt) (hb := by simp only [List.length_cons, List.length_nil]; first | omega | exact om)) ?_
    refine ad 6 ?_
    rw [wrapN (i := i) (by first | omega | exact om)]
    refine ad 2 ?_
    exact Run.again ((v3 ++ [⟨#[111, 117, 116, 32]⟩ ++ ((spec_Hex (nth p0.Seen i)).1)]), (i + 1)) [0, 1, 2, 3, 4, 5, 9] [2, 3, 4, 5, 6, 7, 8] ⟨by exact ⟨by (try dsimp only); omega, by (try dsimp only); rw [List.length_append]; simp only [List.length_cons, List.length_nil]; omega⟩, hM⟩ rfl (by show _ - _ < _ - _; (try dsimp only); omega) su (by decide)
  ·
    have h5l : ¬ (i < p0.Seen.length) := by have := of_decide_eq_false h5; omega
    have hM := hE.trans ((congrArg (fun n => spec_KernelLines_l1 p0 n v3 i) (show p0.Seen.length - i = 0 by omega)).trans (spec_KernelLines_l1.eq_1 _ _ _))
    refine ad 6 ?_
    exact rz (rs := [.tmp 2]) (congrArg (fun x => [Re.sl ByteArray instDatByteArray x]) hM)

/- F11 loop.example/g00974/impl.KernelLines -/
def impl_KernelLines_l1 (p0 : Kernel) : Nat → (List ByteArray) → Nat → (List ByteArray)
  | 0, v3, i => v3
  | n + 1, v3, i => impl_KernelLines_l1 p0 n (v3 ++ [⟨#[111, 117, 116, 32]⟩ ++ ((impl_Hex (nth p0.Seen i)).1)]) (i + 1)
def impl_KernelLines (p0 : Kernel) : (List ByteArray) := impl_KernelLines_l1 p0 (p0.Seen.length - 0) (slices_Concat_string ([([⟨#[115, 101, 113, 32]⟩ ++ (impl_Decimal p0.Seq)] : List ByteArray), (impl_TxLines p0.Txs), (impl_EntryLines p0.History)] : List (List ByteArray))) 0
theorem c_impl_KernelLines (p0 : Kernel) (hs : Dat.small 1048576 p0) : CTs 11 [.o (.st Kernel _ inferInstance p0)] [Re.sl ByteArray instDatByteArray (impl_KernelLines p0)] := by
  refine en Tryz.func11 Tryz.ntmps11 fun w hG hgd => ?_
  obtain ⟨hg_p0, _⟩ := hgd
  have hM := impl_KernelLines.eq_1 p0
  have hs1 : p0.Txs.length ≤ 1048576 := hs.2.1.1
  have hs6 : p0.History.length ≤ 1048576 := hs.2.2.2.2.2.2.1.1
  have hs7 : p0.Seen.length ≤ 1048576 := hs.2.2.2.2.2.2.2.1.1
  have hlt := impl_TxLines_len p0.Txs
  have hle := impl_EntryLines_len p0.History
  have hcl := Concat_len ([⟨#[115, 101, 113, 32]⟩ ++ (impl_Decimal p0.Seq)] : List ByteArray) (impl_TxLines p0.Txs) (impl_EntryLines p0.History)
  rw [List.length_singleton] at hcl
  refine ad 6 ?_
  refine Run.mid ⟨40, 7, [(1, .pt 0 0), (3, .sl 6 ((slices_Concat_string ([([⟨#[115, 101, 113, 32]⟩ ++ (impl_Decimal p0.Seq)] : List ByteArray), (impl_TxLines p0.Txs), (impl_EntryLines p0.History)] : List (List ByteArray))).length))], [(0, .var [.sl 1 p0.Store.length, .sl 2 p0.Txs.length, .sl 3 p0.Disk.Slots.length, .v (.string p0.Disk.Journal.Text), .v (.int .i64 p0.Disk.Journal.Sure), .v (.int .i64 p0.Seq), .v (.int .i64 p0.Next), .v (.int .i64 p0.Time), .sl 4 p0.History.length, .sl 5 p0.Seen.length, .v (.bool p0.Room)] 43), (1, .ros Cell instDatCell p0.Store), (2, .ros Tx instDatTx p0.Txs), (3, .ros Slot instDatSlot p0.Disk.Slots), (4, .ros Entry instDatEntry p0.History), (5, .ros ByteArray instDatByteArray p0.Seen), (6, .own ByteArray instDatByteArray (slices_Concat_string ([([⟨#[115, 101, 113, 32]⟩ ++ (impl_Decimal p0.Seq)] : List ByteArray), (impl_TxLines p0.Txs), (impl_EntryLines p0.History)] : List (List ByteArray))))]⟩ ?_ ?_
  ·
    refine dr 14 fun _ _ _ _ _ hb => ?_
    refine tk [0, 1, 5, 6, 8, 9] ?_
    have hs1 := impl_Decimal_size (p0 := p0.Seq) hg_p0.2.2.2.1
    refine on 2 [0, 1, 2, 3, 4, 5] (cl (k_impl_Decimal p0.Seq hg_p0.2.2.2.1) fok58) ?_
    refine tx 3 (tca (hs := szt)) ?_
    refine o2 4 7 ?_ ?_
    ·
      refine on1 4 [1, 2, 3, 4, 5, 6] (OpS.st rfl) ?_
      refine ong 7 [2, 3, 4, 5, 6, 7] (clg (c_impl_TxLines p0.Txs (by assumption)) fok59) fun hgq => ?_
      obtain ⟨hg2, _⟩ := hgq
      refine ong 10 [3, 4, 5, 6, 7, 8] (clg (c_impl_EntryLines p0.History (by assumption)) fok60) fun hgq => ?_
      obtain ⟨hg3, _⟩ := hgq
      refine on 11 [4, 5, 6, 7, 8, 9] (OpS.st rfl) ?_
      have hg4 : (⟨#[115, 101, 113, 32]⟩ ++ (impl_Decimal p0.Seq)).size ≤ maxLen := (show (⟨#[115, 101, 113, 32]⟩ ++ (impl_Decimal p0.Seq)).size ≤ 9223372036854775807 from szt)
      refine liD 6 (d := instDatByteArray) ([⟨#[115, 101, 113, 32]⟩ ++ (impl_Decimal p0.Seq)] : List ByteArray) ?_
      refine lND 9 (dβ := instDatByteArray) ([([⟨#[115, 101, 113, 32]⟩ ++ (impl_Decimal p0.Seq)] : List ByteArray), (impl_TxLines p0.Txs), (impl_EntryLines p0.History)] : List (List ByteArray)) [6, 7, 8] ?_
      refine ong 12 [2, 3, 4, 5, 6, 7] (clg (c_slices_Concat_string ([([⟨#[115, 101, 113, 32]⟩ ++ (impl_Decimal p0.Seq)] : List ByteArray), (impl_TxLines p0.Txs), (impl_EntryLines p0.History)] : List (List ByteArray)) (conc3 (by simp) (by omega) (by omega))) fok57) fun hgq => ?_
      obtain ⟨hg5, _⟩ := hgq
      refine tk [13] ?_
      refine dn hb ?_
      exact Run.at [5, 0, 1, 2, 3, 4, 11] [2, 3, 4, 5, 6, 7, 0] su (by decide)
    ·
      refine ong1 7 [1, 2, 3, 4, 5, 6] (clg (c_impl_TxLines p0.Txs (by assumption)) fok59) fun hgq => ?_
      obtain ⟨hg6, _⟩ := hgq
      refine o2 4 10 ?_ ?_
      ·
        refine on1 4 [2, 3, 4, 5, 6, 7] (OpS.st rfl) ?_
        refine ong 10 [3, 4, 5, 6, 7, 8] (clg (c_impl_EntryLines p0.History (by assumption)) fok60) fun hgq => ?_
        obtain ⟨hg7, _⟩ := hgq
        refine on 11 [4, 5, 6, 7, 8, 9] (OpS.st rfl) ?_
        have hg8 : (⟨#[115, 101, 113, 32]⟩ ++ (impl_Decimal p0.Seq)).size ≤ maxLen := (show (⟨#[115, 101, 113, 32]⟩ ++ (impl_Decimal p0.Seq)).size ≤ 9223372036854775807 from szt)
        refine liD 7 (d := instDatByteArray) ([⟨#[115, 101, 113, 32]⟩ ++ (impl_Decimal p0.Seq)] : List ByteArray) ?_
        refine lND 9 (dβ := instDatByteArray) ([([⟨#[115, 101, 113, 32]⟩ ++ (impl_Decimal p0.Seq)] : List ByteArray), (impl_TxLines p0.Txs), (impl_EntryLines p0.History)] : List (List ByteArray)) [7, 6, 8] ?_
        refine ong 12 [2, 3, 4, 5, 6, 7] (clg (c_slices_Concat_string ([([⟨#[115, 101, 113, 32]⟩ ++ (impl_Decimal p0.Seq)] : List ByteArray), (impl_TxLines p0.Txs), (impl_EntryLines p0.History)] : List (List ByteArray)) (conc3 (by simp) (by omega) (by omega))) fok57) fun hgq => ?_
        obtain ⟨hg9, _⟩ := hgq
        refine tk [13] ?_
        refine dn hb ?_
        exact Run.at [5, 0, 1, 2, 3, 4, 11] [2, 3, 4, 5, 6, 7, 0] su (by decide)
      ·
        refine ong1 10 [2, 3, 4, 5, 6, 7] (clg (c_impl_EntryLines p0.History (by assumption)) fok60) fun hgq => ?_
        obtain ⟨hg10, _⟩ := hgq
        refine on 4 [3, 4, 5, 6, 7, 8] (OpS.st rfl) ?_
        refine on 11 [4, 5, 6, 7, 8, 9] (OpS.st rfl) ?_
        have hg11 : (⟨#[115, 101, 113, 32]⟩ ++ (impl_Decimal p0.Seq)).size ≤ maxLen := (show (⟨#[115, 101, 113, 32]⟩ ++ (impl_Decimal p0.Seq)).size ≤ 9223372036854775807 from szt)
        refine liD 8 (d := instDatByteArray) ([⟨#[115, 101, 113, 32]⟩ ++ (impl_Decimal p0.Seq)] : List ByteArray) ?_
        refine lND 9 (dβ := instDatByteArray) ([([⟨#[115, 101, 113, 32]⟩ ++ (impl_Decimal p0.Seq)] : List ByteArray), (impl_TxLines p0.Txs), (impl_EntryLines p0.History)] : List (List ByteArray)) [8, 6, 7] ?_
        refine ong 12 [2, 3, 4, 5, 6, 7] (clg (c_slices_Concat_string ([([⟨#[115, 101, 113, 32]⟩ ++ (impl_Decimal p0.Seq)] : List ByteArray), (impl_TxLines p0.Txs), (impl_EntryLines p0.History)] : List (List ByteArray)) (conc3 (by simp) (by omega) (by omega))) fok57) fun hgq => ?_
        obtain ⟨hg12, _⟩ := hgq
        refine tk [13] ?_
        refine dn hb ?_
        exact Run.at [5, 0, 1, 2, 3, 4, 11] [2, 3, 4, 5, 6, 7, 0] su (by decide)
  refine ad 9 ?_
  refine Run.loopM (ι := (List ByteArray) × Nat) (fun s => impl_KernelLines_l1 p0 (p0.Seen.length - s.2) s.1 s.2) (fun s => ⟨40, 2, [(3, .sl 1 s.1.length), (22, .sl 0 p0.Seen.length), (23, .v (.int .i64 (p0.Seen.length : Int))), (24, .v (.int .i64 (s.2 : Int)))], [(0, .ros ByteArray instDatByteArray p0.Seen), (1, .own ByteArray instDatByteArray s.1)]⟩) (fun s => s.2 ≤ p0.Seen.length ∧ s.1.length ≤ 3000000 + s.2) (fun s => p0.Seen.length - s.2) ((slices_Concat_string ([([⟨#[115, 101, 113, 32]⟩ ++ (impl_Decimal p0.Seq)] : List ByteArray), (impl_TxLines p0.Txs), (impl_EntryLines p0.History)] : List (List ByteArray))), 0) [5, 6] [5, 6] hM (by exact ⟨by (try dsimp only); omega, by (try dsimp only); first | omega | (simp only [List.length_append, List.length_cons, List.length_nil]; omega)⟩) su (by decide) ?_
  rintro ⟨v3, i⟩ hv hE
  try dsimp only at hE
  obtain ⟨hi, hv0⟩ := hv
  try dsimp only at hi hv0
  refine ad 5 ?_
  refine cd (fun h13 => ?_) (fun h13 => ?_)
  ·
    have h13l : i < p0.Seen.length := by have := of_decide_eq_true h13; omega
    have hM := hE.trans ((congrArg (fun n => impl_KernelLines_l1 p0 n v3 i) (show p0.Seen.length - i = (p0.Seen.length - (i + 1)) + 1 by omega)).trans (impl_KernelLines_l1.eq_2 _ _ _ _))
    refine ad 5 ?_
    refine op (ix (xs := p0.Seen) i om) ?_
    refine ad 6 ?_
    have hs15 := impl_Hex_le (nth p0.Seen i)
    refine op (cl (c_impl_Hex (nth p0.Seen i) (good_nths hg_p0.2.2.2.2.2.2.2.1 _)) fok61) ?_
    refine ad 9 ?_
    refine op (ca (hs := szt)) ?_
    refine ad 1 ?_
    have hg16 : (⟨#[111, 117, 116, 32]⟩ ++ ((impl_Hex (nth p0.Seen i)).1)).size ≤ maxLen := (show (⟨#[111, 117, 116, 32]⟩ ++ ((impl_Hex (nth p0.Seen i)).1)).size ≤ 9223372036854775807 from szt)
    refine op (ap [⟨#[111, 117, 116, 32]⟩ ++ ((impl_Hex (nth p0.Seen i)).1)] (hg := gdt) (hb := by simp only [List.length_cons, List.length_nil]; first | omega | exact om)) ?_
    refine ad 5 ?_
    rw [wrapN (i := i) (by first | omega | exact om)]
    refine ad 2 ?_
    exact Run.again ((v3 ++ [⟨#[111, 117, 116, 32]⟩ ++ ((impl_Hex (nth p0.Seen i)).1)]), (i + 1)) [0, 4] [2, 3] ⟨by exact ⟨by (try dsimp only); omega, by (try dsimp only); rw [List.length_append]; simp only [List.length_cons, List.length_nil]; omega⟩, hM⟩ rfl (by show _ - _ < _ - _; (try dsimp only); omega) su (by decide)
  ·
    have h13l : ¬ (i < p0.Seen.length) := by have := of_decide_eq_false h13; omega
    have hM := hE.trans ((congrArg (fun n => impl_KernelLines_l1 p0 n v3 i) (show p0.Seen.length - i = 0 by omega)).trans (impl_KernelLines_l1.eq_1 _ _ _))
    refine ad 6 ?_
    exact rz (rs := [.tmp 2]) (congrArg (fun x => [Re.sl ByteArray instDatByteArray x]) hM)

/- F68 loop.example/g00974/laws.markDisk -/
def laws_markDisk (p0 : Disk) (p1 : Int) : Int := (laws_markSlotS p0.Slots p1).2
theorem c_laws_markDisk (p0 : Disk) (p1 : Int) (hi : I64 p1) : CTMs 68 0 1 [(0, .own Slot instDatSlot p0.Slots)] [] [.ag [.sl 0 p0.Slots.length, .v (.string p0.Journal.Text), .v (.int .i64 p0.Journal.Sure)], .v (.int .i64 p1)] [] 0 [.v (.int .i64 (laws_markDisk p0 p1))] (I64 (laws_markDisk p0 p1)) := by
  refine enM Tryz.func68 Tryz.ntmps68 fun S w p hG hb hg => ?_
  refine Run.cg (σ' := ⟨10, 1, [(0, .ag [.sl 0 p0.Slots.length, .v (.string p0.Journal.Text), .v (.int .i64 p0.Journal.Sure)]), (1, .v (.int .i64 p1))], [(0, .own Slot instDatSlot p0.Slots)]⟩) rfl ?_
  refine gd 0 fun hg_p0_Slots => ?_
  have hl_p0_Slots : p0.Slots.length ≤ 9223372036854775807 := hg_p0_Slots.1
  have hM := laws_markDisk.eq_1 p0 p1
  refine ad 10 ?_
  refine og (mu (u_laws_markSlotS p0.Slots p1 (by first | assumption | (unfold I64; omega))) fok141) fun hgq => ?_
  obtain ⟨hg1, hg2⟩ := hgq
  refine ad 7 ?_
  exact rzM (rs := [.tmp 4]) [] [] (hg1 := hg1) (hG1 := congrArg (fun x => (I64 x : Prop)) hM) (congrArg (fun x => ([] : List (Nat × En))) hM) (congrArg (fun x => ([.v (.int .i64 x)] : List V)) hM)

/- F14 loop.example/g00974/laws.markKernel -/
def laws_markKernel (p0 : Kernel) (p1 : Int) : Int := (laws_markStringS p0.Seen ((laws_markEntryS p0.History (laws_markDisk p0.Disk ((laws_markTxS p0.Txs ((laws_markCellS p0.Store p1).2)).2))).2)).2
theorem c_laws_markKernel (p0 : Kernel) (p1 : Int) (hi : I64 p1) : CTMs 14 0 5 [(0, .own Cell instDatCell p0.Store), (1, .own Tx instDatTx p0.Txs), (2, .own Slot instDatSlot p0.Disk.Slots), (3, .own Entry instDatEntry p0.History), (4, .own ByteArray instDatByteArray p0.Seen)] [] [.ag [.sl 0 p0.Store.length, .sl 1 p0.Txs.length, .sl 2 p0.Disk.Slots.length, .v (.string p0.Disk.Journal.Text), .v (.int .i64 p0.Disk.Journal.Sure), .v (.int .i64 p0.Seq), .v (.int .i64 p0.Next), .v (.int .i64 p0.Time), .sl 3 p0.History.length, .sl 4 p0.Seen.length, .v (.bool p0.Room)], .v (.int .i64 p1)] [] 0 [.v (.int .i64 (laws_markKernel p0 p1))] (I64 (laws_markKernel p0 p1)) := by
  refine enM Tryz.func14 Tryz.ntmps14 fun S w p hG hb hg => ?_
  refine Run.cg (σ' := ⟨26, 5, [(0, .ag [.sl 0 p0.Store.length, .sl 1 p0.Txs.length, .sl 2 p0.Disk.Slots.length, .v (.string p0.Disk.Journal.Text), .v (.int .i64 p0.Disk.Journal.Sure), .v (.int .i64 p0.Seq), .v (.int .i64 p0.Next), .v (.int .i64 p0.Time), .sl 3 p0.History.length, .sl 4 p0.Seen.length, .v (.bool p0.Room)]), (1, .v (.int .i64 p1))], [(0, .own Cell instDatCell p0.Store), (1, .own Tx instDatTx p0.Txs), (2, .own Slot instDatSlot p0.Disk.Slots), (3, .own Entry instDatEntry p0.History), (4, .own ByteArray instDatByteArray p0.Seen)]⟩) rfl ?_
  refine gd 0 fun hg_p0_Store => ?_
  have hl_p0_Store : p0.Store.length ≤ 9223372036854775807 := hg_p0_Store.1
  refine gd 1 fun hg_p0_Txs => ?_
  have hl_p0_Txs : p0.Txs.length ≤ 9223372036854775807 := hg_p0_Txs.1
  refine gd 2 fun hg_p0_Disk_Slots => ?_
  have hl_p0_Disk_Slots : p0.Disk.Slots.length ≤ 9223372036854775807 := hg_p0_Disk_Slots.1
  refine gd 3 fun hg_p0_History => ?_
  have hl_p0_History : p0.History.length ≤ 9223372036854775807 := hg_p0_History.1
  refine gd 4 fun hg_p0_Seen => ?_
  have hl_p0_Seen : p0.Seen.length ≤ 9223372036854775807 := hg_p0_Seen.1
  have hM := laws_markKernel.eq_1 p0 p1
  refine ad 10 ?_
  refine og (mu (u_laws_markCellS p0.Store p1 (by first | assumption | (unfold I64; omega))) fok66) fun hgq => ?_
  obtain ⟨hg1, hg2⟩ := hgq
  refine ad 7 ?_
  refine og (mu (u_laws_markTxS p0.Txs ((laws_markCellS p0.Store p1).2) hg1) fok67) fun hgq => ?_
  obtain ⟨hg3, hg4⟩ := hgq
  refine ad 7 ?_
  refine og (cm [2] [] [3] [] [0, 1, 2, 4, 5] (c_laws_markDisk p0.Disk ((laws_markTxS p0.Txs ((laws_markCellS p0.Store p1).2)).2) (by first | assumption | exact gi _)) fok68) fun hg5 => ?_
  refine ad 7 ?_
  refine og (mu (u_laws_markEntryS p0.History (laws_markDisk p0.Disk ((laws_markTxS p0.Txs ((laws_markCellS p0.Store p1).2)).2)) hg5) fok69) fun hgq => ?_
  obtain ⟨hg6, hg7⟩ := hgq
  refine ad 7 ?_
  refine og (mu (u_laws_markStringS p0.Seen ((laws_markEntryS p0.History (laws_markDisk p0.Disk ((laws_markTxS p0.Txs ((laws_markCellS p0.Store p1).2)).2))).2) hg6) fok15) fun hgq => ?_
  obtain ⟨hg8, hg9⟩ := hgq
  refine ad 7 ?_
  exact rzM (rs := [.tmp 4]) [] [] (hg1 := hg8) (hG1 := congrArg (fun x => (I64 x : Prop)) hM) (congrArg (fun x => ([] : List (Nat × En))) hM) (congrArg (fun x => ([.v (.int .i64 x)] : List V)) hM)

end Go.Proofs.YtnjidaonbcbphaaGreatDoor.Fw