/- Contracts: each call returns what the model says. By program (wip/gen). -/
import Derived.Test.YtmjjcihoobnbgaaDoorM1
namespace Go.Proofs.YtmjjcihoobnbgaaDoor.Fw
open Go.RowKit
set_option linter.unusedVariables false
set_option linter.unusedSimpArgs false

theorem fa28_0 : chkField Tryd.prog 28 0 0 = true := by kernel_rfl
theorem fa28_1 : chkField Tryd.prog 28 1 1 = true := by kernel_rfl
theorem fa28_2 : chkField Tryd.prog 28 2 2 = true := by kernel_rfl
theorem fa28_3 : chkField Tryd.prog 28 3 3 = true := by kernel_rfl
theorem fa28_4 : chkField Tryd.prog 28 4 4 = true := by kernel_rfl
theorem fa28_5 : chkField Tryd.prog 28 5 5 = true := by kernel_rfl
theorem fa88_0 : chkField Tryd.prog 88 0 0 = true := by kernel_rfl
theorem fa88_1 : chkField Tryd.prog 88 1 1 = true := by kernel_rfl
theorem fa90_0 : chkField Tryd.prog 90 0 0 = true := by kernel_rfl
theorem fa90_1 : chkField Tryd.prog 90 1 1 = true := by kernel_rfl
theorem fa90_2 : chkField Tryd.prog 90 2 2 = true := by kernel_rfl
theorem fa90_3 : chkField Tryd.prog 90 3 3 = true := by kernel_rfl
theorem fa90_4 : chkField Tryd.prog 90 4 4 = true := by kernel_rfl
theorem fa90_5 : chkField Tryd.prog 90 5 5 = true := by kernel_rfl
theorem fa90_6 : chkField Tryd.prog 90 6 6 = true := by kernel_rfl
theorem fa90_7 : chkField Tryd.prog 90 7 8 = true := by kernel_rfl
theorem fa90_8 : chkField Tryd.prog 90 8 9 = true := by kernel_rfl
theorem fb29 : Tryd.f29.body.isNone = false := rfl
theorem fb68 : Tryd.f68.body.isNone = false := rfl
theorem fb69 : Tryd.f69.body.isNone = false := rfl
theorem fb70 : Tryd.f70.body.isNone = false := rfl
theorem fn29 : (Tryd.f29.name == "runtime.NumGoroutine") = false := by kernel_rfl
theorem fn68 : (Tryd.f68.name == "runtime.NumGoroutine") = false := by kernel_rfl
theorem fn69 : (Tryd.f69.name == "runtime.NumGoroutine") = false := by kernel_rfl
theorem fn70 : (Tryd.f70.name == "runtime.NumGoroutine") = false := by kernel_rfl
theorem one43 : chkOne Tryd.prog 43 = true := by kernel_rfl
theorem one52 : chkOne Tryd.prog 52 = true := by kernel_rfl
theorem one86 : chkOne Tryd.prog 86 = true := by kernel_rfl
theorem one87 : chkOne Tryd.prog 87 = true := by kernel_rfl
theorem sl45 : chkSlice Tryd.prog 45 90 10 160 = true := by kernel_rfl
theorem sl52 : chkSlice Tryd.prog 52 3 1 8 = true := by kernel_rfl
theorem sl86 : chkSlice Tryd.prog 86 28 6 72 = true := by kernel_rfl

/- F68 loop.example/g00974/laws.markCallS -/
def laws_markCallS_l1 (p0 : List Call) (p1 : Int) : Nat → Nat → Int → List Call → List Call × Int
  | 0, i1, s1_1, y1_m0 => (y1_m0, s1_1)
  | fu1 + 1, i1, s1_1, y1_m0 => laws_markCallS_l1 p0 p1 fu1 (i1 + 1) (IntKind.i64.wrap (IntKind.i64.wrap (IntKind.i64.wrap (IntKind.i64.wrap (IntKind.i64.wrap (IntKind.i64.wrap (s1_1 + 1) + 1) + 1) + 1) + 1) + 1)) (y1_m0.set i1 (Call.mk s1_1 (laws_markText (IntKind.i64.wrap (s1_1 + 1))) (laws_markText (IntKind.i64.wrap (IntKind.i64.wrap (s1_1 + 1) + 1))) (IntKind.i64.wrap (IntKind.i64.wrap (IntKind.i64.wrap (s1_1 + 1) + 1) + 1)) (IntKind.i64.wrap (IntKind.i64.wrap (IntKind.i64.wrap (IntKind.i64.wrap (s1_1 + 1) + 1) + 1) + 1)) (laws_markText (IntKind.i64.wrap (IntKind.i64.wrap (IntKind.i64.wrap (IntKind.i64.wrap (IntKind.i64.wrap (s1_1 + 1) + 1) + 1) + 1) + 1)))))
def laws_markCallS (p0 : List Call) (p1 : Int) : List Call × Int := laws_markCallS_l1 p0 p1 (p0.length - 0) 0 p1 p0
theorem c_laws_markCallS {v0 : Value} (p0 : List Call) {F0 : List Nat} (p1 : Int) {w : World} (hMu0 : SH (Off [Ck.own (α := List Call) [v0] p0 F0] w) w w [Ck.own (α := List Call) [v0] p0 F0]) (hi1 : I64 p1) :
    Calls Tryd.prog 68 [v0, .int .i64 p1].toArray w (fun e w' => e = .returned (.int .i64 (laws_markCallS p0 p1).2) ∧ I64 (laws_markCallS p0 p1).2 ∧ ∃ F', SH (Off [Ck.own (α := List Call) [v0] p0 F0] w) w w' [Ck.own (α := List Call) [v0] (laws_markCallS p0 p1).1 F']) := by
  obtain ⟨A0, cap0, rfl, hx0⟩ := (hMu0.slO (k := 0) rfl).form
  refine enter Tryd.func68 rfl Tryd.ntmps68 (Nat.le_of_ble_eq_true rfl) ?_
  intro a0 hE0
  have hS0 := hMu0
  have hM := laws_markCallS.eq_1 p0 p1
  have hij1 : -9223372036854775808 ≤ p1 ∧ p1 ≤ 9223372036854775807 := hi1
  refine wp_seq (wp_region_lit ?_)
  refine st_val hE0 (y_assign hE0 rfl) rfl fun a1 hE1 => wpList_nil ?_
  clear hE0
  clear a0
  refine then_normal ?_
  refine wp_seq (wp_seq (wp_region_lit ?_))
  refine st_val hE1 (y_assign hE1 rfl) rfl fun a2 hE2 => wpList_nil ?_
  clear hE1
  clear a1
  refine then_normal ?_
  refine wp_block (wp_loop_ghost (fun fu1 a w2 => ∃ (i1 : Nat) (s1_1 : Int) (y1_m0 : List Call) (Fy1_m0 : List Nat), 0 ≤ i1 ∧ fu1 = p0.length - i1 ∧ (i1 ≤ p0.length ∨ i1 = 0) ∧ I64 s1_1 ∧ laws_markCallS p0 p1 = laws_markCallS_l1 p0 p1 fu1 i1 s1_1 y1_m0 ∧ Env 58 [(0, .slice A0 p0.length cap0), (1, .int .i64 s1_1), (5, .int .i64 (i1 : Int))] a ∧ SH (Off [Ck.own (α := List Call) [.slice A0 p0.length cap0] p0 F0] w) w w2 [Ck.own (α := List Call) [.slice A0 p0.length cap0] y1_m0 Fy1_m0]) (p0.length - 0) ⟨0, p1, p0, F0, Nat.le_refl _, rfl, .inr rfl, hi1, hM, hE2.weaken ⟨rfl, rfl, rfl, trivial⟩, hS0⟩ ?_)
  clear hM hE2
  rintro fu1 a3 w3 ⟨i1, s1_1, y1_m0, Fy1_m0, hi1, hfu1, hup1, hgis1_1, hM, hE3, hS3⟩
  have hlry1_m0 := hS3.lenrow (k := 0) rfl
  refine wp_seq (wp_seq (wp_region_lit ?_))
  refine st_val hE3 (y_move hE3 rfl) rfl fun a4 hE4 => st_val hE4 (y_move hE4 rfl) rfl fun a5 hE5 => st_val hE5 (y_len_slice hE5 rfl sl86) rfl fun a6 hE6 => st_val hE6 (y_lss hE6 rfl rfl) rfl fun a7 hE7 => wpList_nil ?_
  clear hE3 hE4 hE5 hE6
  clear a3 a4 a5 a6
  refine then_normal ?_
  refine cond_split hE7 rfl (fun hb8 => ?_) (fun hb8 => ?_)
  ·
    have hlt1 : i1 < p0.length := by have := of_decide_eq_true hb8; omega
    obtain ⟨fu1, rfl⟩ : ∃ m, fu1 = m + 1 := ⟨fu1 - 1, by omega⟩
    have hM := hM.trans (laws_markCallS_l1.eq_2 _ _ _ _ _ _)
    refine wp_skip ?_
    refine then_normal ?_
    refine wp_seq (wp_block (wp_seq (wp_region_lit ?_)))
    refine st_val hE7 (y_move hE7 rfl) rfl fun a9 hE9 => st_val hE9 (y_move hE9 rfl) rfl fun a10 hE10 => st_val hE10 (y_move hE10 rfl) rfl fun a11 hE11 => ?_
    clear hE7 hE9 hE10
    clear a7 a9 a10
    have hlr12 := hS3.lenrow (k := 0) rfl
    obtain ⟨g12, ce12, Fo12, G12, hA12, hn12, hF12⟩ := SH.focus (L := []) hS3 (i := i1) (by omega)
    obtain ⟨rfl, rfl, hg12_0, hg12_1, hg12_2, hg12_3, hg12_4, hg12_5, _⟩ := Call_oopen (show Dat.own w3 ce12 (nth y1_m0 i1) G12 from hF12.get (k := 0) rfl)
    have hS13 := hF12.drop (k := 1)
    refine st_val hE11 (y_indexAddr (A := ⟨g12, 0, none⟩) hE11 (congrArg (fun A => some (Value.slice A p0.length cap0)) hA12) rfl (by omega) (by omega) sl86) rfl fun a14 hE14 => st_val hE14 (y_fieldAddr hE14 rfl fa28_0 rfl) rfl fun a15 hE15 => st_storeE (α := Call) (k := 0) hE15 hS13 [.int .i64 s1_1, .string ((nth y1_m0 i1).Name), .string ((nth y1_m0 i1).To), .int .i64 ((nth y1_m0 i1).A), .int .i64 ((nth y1_m0 i1).B), .string ((nth y1_m0 i1).Text)] rfl rfl rfl (by rw [Int.toNat_natCast]; rfl) rfl (chkOne_size one3) rfl rfl rfl rfl fun w16 (hS16 : SH (Off [Ck.own (α := List Call) [.slice A0 p0.length cap0] p0 F0] w) w w16 [Ck.elem (α := Call) g12 i1 cap0 [.int .i64 s1_1, .string ((nth y1_m0 i1).Name), .string ((nth y1_m0 i1).To), .int .i64 ((nth y1_m0 i1).A), .int .i64 ((nth y1_m0 i1).B), .string ((nth y1_m0 i1).Text)] y1_m0 Fo12]) a17 hE17 => wpList_nil ?_
    clear hE11 hE14 hE15
    clear a11 a14 a15
    refine then_normal ?_
    refine wp_seq (wp_region_lit ?_)
    refine st_val hE17 (y_move hE17 rfl) rfl fun a18 hE18 => st_val hE18 (y_add hE18 rfl rfl) rfl fun a19 hE19 => st_val hE19 (y_assign hE19 rfl) rfl fun a20 hE20 => wpList_nil ?_
    clear hE17 hE18 hE19
    clear a17 a18 a19
    refine then_normal ?_
    refine wp_seq (wp_region_lit ?_)
    refine st_val hE20 (y_move hE20 rfl) rfl fun a21 hE21 => st_val hE21 (y_move hE21 rfl) rfl fun a22 hE22 => st_val hE22 (y_move hE22 rfl) rfl fun a23 hE23 => st_callF hE23 hS16 Tryd.func71 fb71 fn71 (c_laws_markText (IntKind.i64.wrap (s1_1 + 1)) (I64_wrap _)) rfl rfl fun w24 hS24 a25 hE25 => ?_
    refine st_val hE25 (y_indexAddr (A := ⟨g12, 0, none⟩) hE25 (congrArg (fun A => some (Value.slice A p0.length cap0)) hA12) rfl (by omega) (by omega) sl86) rfl fun a26 hE26 => st_val hE26 (y_fieldAddr hE26 rfl fa28_1 rfl) rfl fun a27 hE27 => st_storeE (α := Call) (k := 0) hE27 hS24 [.int .i64 s1_1, .string (laws_markText (IntKind.i64.wrap (s1_1 + 1))), .string ((nth y1_m0 i1).To), .int .i64 ((nth y1_m0 i1).A), .int .i64 ((nth y1_m0 i1).B), .string ((nth y1_m0 i1).Text)] rfl rfl rfl (by rw [Int.toNat_natCast]; rfl) rfl (chkOne_size one9) rfl rfl rfl rfl fun w28 (hS28 : SH (Off [Ck.own (α := List Call) [.slice A0 p0.length cap0] p0 F0] w) w w28 [Ck.elem (α := Call) g12 i1 cap0 [.int .i64 s1_1, .string (laws_markText (IntKind.i64.wrap (s1_1 + 1))), .string ((nth y1_m0 i1).To), .int .i64 ((nth y1_m0 i1).A), .int .i64 ((nth y1_m0 i1).B), .string ((nth y1_m0 i1).Text)] y1_m0 Fo12]) a29 hE29 => wpList_nil ?_
    clear hE20 hE21 hE22 hE23 hE25 hE26 hE27
    clear a20 a21 a22 a23 a25 a26 a27
    refine then_normal ?_
    refine wp_seq (wp_region_lit ?_)
    refine st_val hE29 (y_move hE29 rfl) rfl fun a30 hE30 => st_val hE30 (y_add hE30 rfl rfl) rfl fun a31 hE31 => st_val hE31 (y_assign hE31 rfl) rfl fun a32 hE32 => wpList_nil ?_
    clear hE29 hE30 hE31
    clear a29 a30 a31
    refine then_normal ?_
    refine wp_seq (wp_region_lit ?_)
    refine st_val hE32 (y_move hE32 rfl) rfl fun a33 hE33 => st_val hE33 (y_move hE33 rfl) rfl fun a34 hE34 => st_val hE34 (y_move hE34 rfl) rfl fun a35 hE35 => st_callF hE35 hS28 Tryd.func71 fb71 fn71 (c_laws_markText (IntKind.i64.wrap (IntKind.i64.wrap (s1_1 + 1) + 1)) (I64_wrap _)) rfl rfl fun w36 hS36 a37 hE37 => ?_
    refine st_val hE37 (y_indexAddr (A := ⟨g12, 0, none⟩) hE37 (congrArg (fun A => some (Value.slice A p0.length cap0)) hA12) rfl (by omega) (by omega) sl86) rfl fun a38 hE38 => st_val hE38 (y_fieldAddr hE38 rfl fa28_2 rfl) rfl fun a39 hE39 => st_storeE (α := Call) (k := 0) hE39 hS36 [.int .i64 s1_1, .string (laws_markText (IntKind.i64.wrap (s1_1 + 1))), .string (laws_markText (IntKind.i64.wrap (IntKind.i64.wrap (s1_1 + 1) + 1))), .int .i64 ((nth y1_m0 i1).A), .int .i64 ((nth y1_m0 i1).B), .string ((nth y1_m0 i1).Text)] rfl rfl rfl (by rw [Int.toNat_natCast]; rfl) rfl (chkOne_size one9) rfl rfl rfl rfl fun w40 (hS40 : SH (Off [Ck.own (α := List Call) [.slice A0 p0.length cap0] p0 F0] w) w w40 [Ck.elem (α := Call) g12 i1 cap0 [.int .i64 s1_1, .string (laws_markText (IntKind.i64.wrap (s1_1 + 1))), .string (laws_markText (IntKind.i64.wrap (IntKind.i64.wrap (s1_1 + 1) + 1))), .int .i64 ((nth y1_m0 i1).A), .int .i64 ((nth y1_m0 i1).B), .string ((nth y1_m0 i1).Text)] y1_m0 Fo12]) a41 hE41 => wpList_nil ?_
    clear hE32 hE33 hE34 hE35 hE37 hE38 hE39
    clear a32 a33 a34 a35 a37 a38 a39
    refine then_normal ?_
    refine wp_seq (wp_region_lit ?_)
    refine st_val hE41 (y_move hE41 rfl) rfl fun a42 hE42 => st_val hE42 (y_add hE42 rfl rfl) rfl fun a43 hE43 => st_val hE43 (y_assign hE43 rfl) rfl fun a44 hE44 => wpList_nil ?_
    clear hE41 hE42 hE43
    clear a41 a42 a43
    refine then_normal ?_
    refine wp_seq (wp_region_lit ?_)
    refine st_val hE44 (y_move hE44 rfl) rfl fun a45 hE45 => st_val hE45 (y_move hE45 rfl) rfl fun a46 hE46 => st_val hE46 (y_move hE46 rfl) rfl fun a47 hE47 => ?_
    refine st_val hE47 (y_indexAddr (A := ⟨g12, 0, none⟩) hE47 (congrArg (fun A => some (Value.slice A p0.length cap0)) hA12) rfl (by omega) (by omega) sl86) rfl fun a48 hE48 => st_val hE48 (y_fieldAddr hE48 rfl fa28_3 rfl) rfl fun a49 hE49 => st_storeE (α := Call) (k := 0) hE49 hS40 [.int .i64 s1_1, .string (laws_markText (IntKind.i64.wrap (s1_1 + 1))), .string (laws_markText (IntKind.i64.wrap (IntKind.i64.wrap (s1_1 + 1) + 1))), .int .i64 (IntKind.i64.wrap (IntKind.i64.wrap (IntKind.i64.wrap (s1_1 + 1) + 1) + 1)), .int .i64 ((nth y1_m0 i1).B), .string ((nth y1_m0 i1).Text)] rfl rfl rfl (by rw [Int.toNat_natCast]; rfl) rfl (chkOne_size one3) rfl rfl rfl rfl fun w50 (hS50 : SH (Off [Ck.own (α := List Call) [.slice A0 p0.length cap0] p0 F0] w) w w50 [Ck.elem (α := Call) g12 i1 cap0 [.int .i64 s1_1, .string (laws_markText (IntKind.i64.wrap (s1_1 + 1))), .string (laws_markText (IntKind.i64.wrap (IntKind.i64.wrap (s1_1 + 1) + 1))), .int .i64 (IntKind.i64.wrap (IntKind.i64.wrap (IntKind.i64.wrap (s1_1 + 1) + 1) + 1)), .int .i64 ((nth y1_m0 i1).B), .string ((nth y1_m0 i1).Text)] y1_m0 Fo12]) a51 hE51 => wpList_nil ?_
    clear hE44 hE45 hE46 hE47 hE48 hE49
    clear a44 a45 a46 a47 a48 a49
    refine then_normal ?_
    refine wp_seq (wp_region_lit ?_)
    refine st_val hE51 (y_move hE51 rfl) rfl fun a52 hE52 => st_val hE52 (y_add hE52 rfl rfl) rfl fun a53 hE53 => st_val hE53 (y_assign hE53 rfl) rfl fun a54 hE54 => wpList_nil ?_
    clear hE51 hE52 hE53
    clear a51 a52 a53
    refine then_normal ?_
    refine wp_seq (wp_region_lit ?_)
    refine st_val hE54 (y_move hE54 rfl) rfl fun a55 hE55 => st_val hE55 (y_move hE55 rfl) rfl fun a56 hE56 => st_val hE56 (y_move hE56 rfl) rfl fun a57 hE57 => ?_
    refine st_val hE57 (y_indexAddr (A := ⟨g12, 0, none⟩) hE57 (congrArg (fun A => some (Value.slice A p0.length cap0)) hA12) rfl (by omega) (by omega) sl86) rfl fun a58 hE58 => st_val hE58 (y_fieldAddr hE58 rfl fa28_4 rfl) rfl fun a59 hE59 => st_storeE (α := Call) (k := 0) hE59 hS50 [.int .i64 s1_1, .string (laws_markText (IntKind.i64.wrap (s1_1 + 1))), .string (laws_markText (IntKind.i64.wrap (IntKind.i64.wrap (s1_1 + 1) + 1))), .int .i64 (IntKind.i64.wrap (IntKind.i64.wrap (IntKind.i64.wrap (s1_1 + 1) + 1) + 1)), .int .i64 (IntKind.i64.wrap (IntKind.i64.wrap (IntKind.i64.wrap (IntKind.i64.wrap (s1_1 + 1) + 1) + 1) + 1)), .string ((nth y1_m0 i1).Text)] rfl rfl rfl (by rw [Int.toNat_natCast]; rfl) rfl (chkOne_size one3) rfl rfl rfl rfl fun w60 (hS60 : SH (Off [Ck.own (α := List Call) [.slice A0 p0.length cap0] p0 F0] w) w w60 [Ck.elem (α := Call) g12 i1 cap0 [.int .i64 s1_1, .string (laws_markText (IntKind.i64.wrap (s1_1 + 1))), .string (laws_markText (IntKind.i64.wrap (IntKind.i64.wrap (s1_1 + 1) + 1))), .int .i64 (IntKind.i64.wrap (IntKind.i64.wrap (IntKind.i64.wrap (s1_1 + 1) + 1) + 1)), .int .i64 (IntKind.i64.wrap (IntKind.i64.wrap (IntKind.i64.wrap (IntKind.i64.wrap (s1_1 + 1) + 1) + 1) + 1)), .string ((nth y1_m0 i1).Text)] y1_m0 Fo12]) a61 hE61 => wpList_nil ?_
    clear hE54 hE55 hE56 hE57 hE58 hE59
    clear a54 a55 a56 a57 a58 a59
    refine then_normal ?_
    refine wp_seq (wp_region_lit ?_)
    refine st_val hE61 (y_move hE61 rfl) rfl fun a62 hE62 => st_val hE62 (y_add hE62 rfl rfl) rfl fun a63 hE63 => st_val hE63 (y_assign hE63 rfl) rfl fun a64 hE64 => wpList_nil ?_
    clear hE61 hE62 hE63
    clear a61 a62 a63
    refine then_normal ?_
    refine wp_seq (wp_region_lit ?_)
    refine st_val hE64 (y_move hE64 rfl) rfl fun a65 hE65 => st_val hE65 (y_move hE65 rfl) rfl fun a66 hE66 => st_val hE66 (y_move hE66 rfl) rfl fun a67 hE67 => st_callF hE67 hS60 Tryd.func71 fb71 fn71 (c_laws_markText (IntKind.i64.wrap (IntKind.i64.wrap (IntKind.i64.wrap (IntKind.i64.wrap (IntKind.i64.wrap (s1_1 + 1) + 1) + 1) + 1) + 1)) (I64_wrap _)) rfl rfl fun w68 hS68 a69 hE69 => ?_
    refine st_val hE69 (y_indexAddr (A := ⟨g12, 0, none⟩) hE69 (congrArg (fun A => some (Value.slice A p0.length cap0)) hA12) rfl (by omega) (by omega) sl86) rfl fun a70 hE70 => st_val hE70 (y_fieldAddr hE70 rfl fa28_5 rfl) rfl fun a71 hE71 => st_storeE (α := Call) (k := 0) hE71 hS68 [.int .i64 s1_1, .string (laws_markText (IntKind.i64.wrap (s1_1 + 1))), .string (laws_markText (IntKind.i64.wrap (IntKind.i64.wrap (s1_1 + 1) + 1))), .int .i64 (IntKind.i64.wrap (IntKind.i64.wrap (IntKind.i64.wrap (s1_1 + 1) + 1) + 1)), .int .i64 (IntKind.i64.wrap (IntKind.i64.wrap (IntKind.i64.wrap (IntKind.i64.wrap (s1_1 + 1) + 1) + 1) + 1)), .string (laws_markText (IntKind.i64.wrap (IntKind.i64.wrap (IntKind.i64.wrap (IntKind.i64.wrap (IntKind.i64.wrap (s1_1 + 1) + 1) + 1) + 1) + 1)))] rfl rfl rfl (by rw [Int.toNat_natCast]; rfl) rfl (chkOne_size one9) rfl rfl rfl rfl fun w72 (hS72 : SH (Off [Ck.own (α := List Call) [.slice A0 p0.length cap0] p0 F0] w) w w72 [Ck.elem (α := Call) g12 i1 cap0 [.int .i64 s1_1, .string (laws_markText (IntKind.i64.wrap (s1_1 + 1))), .string (laws_markText (IntKind.i64.wrap (IntKind.i64.wrap (s1_1 + 1) + 1))), .int .i64 (IntKind.i64.wrap (IntKind.i64.wrap (IntKind.i64.wrap (s1_1 + 1) + 1) + 1)), .int .i64 (IntKind.i64.wrap (IntKind.i64.wrap (IntKind.i64.wrap (IntKind.i64.wrap (s1_1 + 1) + 1) + 1) + 1)), .string (laws_markText (IntKind.i64.wrap (IntKind.i64.wrap (IntKind.i64.wrap (IntKind.i64.wrap (IntKind.i64.wrap (s1_1 + 1) + 1) + 1) + 1) + 1)))] y1_m0 Fo12]) a73 hE73 => wpList_nil ?_
    clear hE64 hE65 hE66 hE67 hE69 hE70 hE71
    clear a64 a65 a66 a67 a69 a70 a71
    refine then_normal ?_
    refine wp_region_lit ?_
    refine st_val hE73 (y_move hE73 rfl) rfl fun a74 hE74 => st_val hE74 (y_add hE74 rfl rfl) rfl fun a75 hE75 => st_val hE75 (y_assign hE75 rfl) rfl fun a76 hE76 => wpList_nil ?_
    clear hE73 hE74 hE75
    clear a73 a74 a75
    refine blk_normal ?_
    refine then_normal ?_
    refine wp_region_lit ?_
    refine st_val hE76 (y_move hE76 rfl) rfl fun a77 hE77 => st_val hE77 (y_add_in hE77 rfl rfl (m := ((i1 + 1 : Nat) : Int)) (by omega) (by omega) (by omega)) rfl fun a78 hE78 => st_val hE78 (y_assign hE78 rfl) rfl fun a79 hE79 => wpList_nil ?_
    clear hE76 hE77 hE78
    clear a76 a77 a78
    have hJ80 := SH.flat (L := [Ck.elem (α := Call) g12 i1 cap0 [.int .i64 s1_1, .string (laws_markText (IntKind.i64.wrap (s1_1 + 1))), .string (laws_markText (IntKind.i64.wrap (IntKind.i64.wrap (s1_1 + 1) + 1))), .int .i64 (IntKind.i64.wrap (IntKind.i64.wrap (IntKind.i64.wrap (s1_1 + 1) + 1) + 1)), .int .i64 (IntKind.i64.wrap (IntKind.i64.wrap (IntKind.i64.wrap (IntKind.i64.wrap (s1_1 + 1) + 1) + 1) + 1)), .string (laws_markText (IntKind.i64.wrap (IntKind.i64.wrap (IntKind.i64.wrap (IntKind.i64.wrap (IntKind.i64.wrap (s1_1 + 1) + 1) + 1) + 1) + 1)))] y1_m0 Fo12]) (α := Call) (cs := [.int .i64 s1_1, .string (laws_markText (IntKind.i64.wrap (s1_1 + 1))), .string (laws_markText (IntKind.i64.wrap (IntKind.i64.wrap (s1_1 + 1) + 1))), .int .i64 (IntKind.i64.wrap (IntKind.i64.wrap (IntKind.i64.wrap (s1_1 + 1) + 1) + 1)), .int .i64 (IntKind.i64.wrap (IntKind.i64.wrap (IntKind.i64.wrap (IntKind.i64.wrap (s1_1 + 1) + 1) + 1) + 1)), .string (laws_markText (IntKind.i64.wrap (IntKind.i64.wrap (IntKind.i64.wrap (IntKind.i64.wrap (IntKind.i64.wrap (s1_1 + 1) + 1) + 1) + 1) + 1)))]) (x := (Call.mk s1_1 (laws_markText (IntKind.i64.wrap (s1_1 + 1))) (laws_markText (IntKind.i64.wrap (IntKind.i64.wrap (s1_1 + 1) + 1))) (IntKind.i64.wrap (IntKind.i64.wrap (IntKind.i64.wrap (s1_1 + 1) + 1) + 1)) (IntKind.i64.wrap (IntKind.i64.wrap (IntKind.i64.wrap (IntKind.i64.wrap (s1_1 + 1) + 1) + 1) + 1)) (laws_markText (IntKind.i64.wrap (IntKind.i64.wrap (IntKind.i64.wrap (IntKind.i64.wrap (IntKind.i64.wrap (s1_1 + 1) + 1) + 1) + 1) + 1))))) hS72 (fun _ => Call_own (x := (Call.mk s1_1 (laws_markText (IntKind.i64.wrap (s1_1 + 1))) (laws_markText (IntKind.i64.wrap (IntKind.i64.wrap (s1_1 + 1) + 1))) (IntKind.i64.wrap (IntKind.i64.wrap (IntKind.i64.wrap (s1_1 + 1) + 1) + 1)) (IntKind.i64.wrap (IntKind.i64.wrap (IntKind.i64.wrap (IntKind.i64.wrap (s1_1 + 1) + 1) + 1) + 1)) (laws_markText (IntKind.i64.wrap (IntKind.i64.wrap (IntKind.i64.wrap (IntKind.i64.wrap (IntKind.i64.wrap (s1_1 + 1) + 1) + 1) + 1) + 1))))) hgis1_1 (laws_markText_good (by first | assumption | exact I64_wrap _)) (laws_markText_good (by first | assumption | exact I64_wrap _)) (I64_wrap _) (I64_wrap _) (laws_markText_good (by first | assumption | exact I64_wrap _)))
    obtain ⟨F80, hS80⟩ := SH.unfocus (α := Call) (L := []) hJ80 hA12 hn12 (by omega)
    refine then_normal ⟨fu1, Nat.lt_succ_self _, (i1 + 1), IntKind.i64.wrap (IntKind.i64.wrap (IntKind.i64.wrap (IntKind.i64.wrap (IntKind.i64.wrap (IntKind.i64.wrap (s1_1 + 1) + 1) + 1) + 1) + 1) + 1), (y1_m0.set i1 (Call.mk s1_1 (laws_markText (IntKind.i64.wrap (s1_1 + 1))) (laws_markText (IntKind.i64.wrap (IntKind.i64.wrap (s1_1 + 1) + 1))) (IntKind.i64.wrap (IntKind.i64.wrap (IntKind.i64.wrap (s1_1 + 1) + 1) + 1)) (IntKind.i64.wrap (IntKind.i64.wrap (IntKind.i64.wrap (IntKind.i64.wrap (s1_1 + 1) + 1) + 1) + 1)) (laws_markText (IntKind.i64.wrap (IntKind.i64.wrap (IntKind.i64.wrap (IntKind.i64.wrap (IntKind.i64.wrap (s1_1 + 1) + 1) + 1) + 1) + 1))))), F80, by omega, by omega, .inl (by omega), (I64_wrap _), hM, hE79.weaken ⟨rfl, rfl, rfl, trivial⟩, hS80⟩
  ·
    have hge1 : ¬ i1 < p0.length := by have := of_decide_eq_false hb8; omega
    obtain rfl : fu1 = 0 := by omega
    have hM := hM.trans (laws_markCallS_l1.eq_1 _ _ _ _ _)
    refine wp_exit ?_
    refine then_exit ?_
    refine then_exit ?_
    refine blk_exit ?_
    refine then_normal ?_
    refine wp_seq (wp_region_lit ?_)
    refine st_val hE7 (y_move hE7 rfl) rfl fun a81 hE81 => st_val hE81 (y_assign hE81 rfl) rfl fun a82 hE82 => wpList_nil ?_
    clear hE7 hE81
    clear a7 a81
    refine then_normal ?_
    refine wp_ret ?_
    refine fin1 hE82 rfl rfl ?_
    rw [hM]
    exact ⟨rfl, hgis1_1, Fy1_m0, hS3⟩

/- F70 loop.example/g00974/laws.markIntS -/
def laws_markIntS_l1 (p0 : List Int) (p1 : Int) : Nat → Nat → Int → List Int → List Int × Int
  | 0, i1, s1_1, y1_m0 => (y1_m0, s1_1)
  | fu1 + 1, i1, s1_1, y1_m0 => laws_markIntS_l1 p0 p1 fu1 (i1 + 1) (IntKind.i64.wrap (s1_1 + 1)) (y1_m0.set i1 s1_1)
def laws_markIntS (p0 : List Int) (p1 : Int) : List Int × Int := laws_markIntS_l1 p0 p1 (p0.length - 0) 0 p1 p0
theorem c_laws_markIntS {v0 : Value} (p0 : List Int) {F0 : List Nat} (p1 : Int) {w : World} (hMu0 : SH (Off [Ck.own (α := List Int) [v0] p0 F0] w) w w [Ck.own (α := List Int) [v0] p0 F0]) (hi1 : I64 p1) :
    Calls Tryd.prog 70 [v0, .int .i64 p1].toArray w (fun e w' => e = .returned (.int .i64 (laws_markIntS p0 p1).2) ∧ I64 (laws_markIntS p0 p1).2 ∧ ∃ F', SH (Off [Ck.own (α := List Int) [v0] p0 F0] w) w w' [Ck.own (α := List Int) [v0] (laws_markIntS p0 p1).1 F']) := by
  obtain ⟨A0, cap0, rfl, hx0⟩ := (hMu0.slO (k := 0) rfl).form
  refine enter Tryd.func70 rfl Tryd.ntmps70 (Nat.le_of_ble_eq_true rfl) ?_
  intro a0 hE0
  have hS0 := hMu0
  have hM := laws_markIntS.eq_1 p0 p1
  have hij1 : -9223372036854775808 ≤ p1 ∧ p1 ≤ 9223372036854775807 := hi1
  refine wp_seq (wp_region_lit ?_)
  refine st_val hE0 (y_assign hE0 rfl) rfl fun a1 hE1 => wpList_nil ?_
  clear hE0
  clear a0
  refine then_normal ?_
  refine wp_seq (wp_seq (wp_region_lit ?_))
  refine st_val hE1 (y_assign hE1 rfl) rfl fun a2 hE2 => wpList_nil ?_
  clear hE1
  clear a1
  refine then_normal ?_
  refine wp_block (wp_loop_ghost (fun fu1 a w2 => ∃ (i1 : Nat) (s1_1 : Int) (y1_m0 : List Int) (Fy1_m0 : List Nat), 0 ≤ i1 ∧ fu1 = p0.length - i1 ∧ (i1 ≤ p0.length ∨ i1 = 0) ∧ I64 s1_1 ∧ laws_markIntS p0 p1 = laws_markIntS_l1 p0 p1 fu1 i1 s1_1 y1_m0 ∧ Env 19 [(0, .slice A0 p0.length cap0), (1, .int .i64 s1_1), (5, .int .i64 (i1 : Int))] a ∧ SH (Off [Ck.own (α := List Int) [.slice A0 p0.length cap0] p0 F0] w) w w2 [Ck.own (α := List Int) [.slice A0 p0.length cap0] y1_m0 Fy1_m0]) (p0.length - 0) ⟨0, p1, p0, F0, Nat.le_refl _, rfl, .inr rfl, hi1, hM, hE2.weaken ⟨rfl, rfl, rfl, trivial⟩, hS0⟩ ?_)
  clear hM hE2
  rintro fu1 a3 w3 ⟨i1, s1_1, y1_m0, Fy1_m0, hi1, hfu1, hup1, hgis1_1, hM, hE3, hS3⟩
  have hlry1_m0 := hS3.lenrow (k := 0) rfl
  refine wp_seq (wp_seq (wp_region_lit ?_))
  refine st_val hE3 (y_move hE3 rfl) rfl fun a4 hE4 => st_val hE4 (y_move hE4 rfl) rfl fun a5 hE5 => st_val hE5 (y_len_slice hE5 rfl sl52) rfl fun a6 hE6 => st_val hE6 (y_lss hE6 rfl rfl) rfl fun a7 hE7 => wpList_nil ?_
  clear hE3 hE4 hE5 hE6
  clear a3 a4 a5 a6
  refine then_normal ?_
  refine cond_split hE7 rfl (fun hb8 => ?_) (fun hb8 => ?_)
  ·
    have hlt1 : i1 < p0.length := by have := of_decide_eq_true hb8; omega
    obtain ⟨fu1, rfl⟩ : ∃ m, fu1 = m + 1 := ⟨fu1 - 1, by omega⟩
    have hM := hM.trans (laws_markIntS_l1.eq_2 _ _ _ _ _ _)
    refine wp_skip ?_
    refine then_normal ?_
    refine wp_seq (wp_block (wp_seq (wp_region_lit ?_)))
    refine st_val hE7 (y_move hE7 rfl) rfl fun a9 hE9 => st_val hE9 (y_move hE9 rfl) rfl fun a10 hE10 => st_val hE10 (y_move hE10 rfl) rfl fun a11 hE11 => ?_
    clear hE7 hE9 hE10
    clear a7 a9 a10
    have hlr12 := hS3.lenrow (k := 0) rfl
    obtain ⟨g12, ce12, Fo12, G12, hA12, hn12, hF12⟩ := SH.focus (L := []) hS3 (i := i1) (by omega)
    obtain ⟨⟨rfl, hg12⟩, rfl⟩ := (show Dat.own w3 ce12 (nth y1_m0 i1) G12 from hF12.get (k := 0) rfl)
    have hS13 := hF12.drop (k := 1)
    refine st_val hE11 (y_indexAddr (A := ⟨g12, 0, none⟩) hE11 (congrArg (fun A => some (Value.slice A p0.length cap0)) hA12) rfl (by omega) (by omega) sl52) rfl fun a14 hE14 => st_storeE (α := Int) (k := 0) hE14 hS13 [.int .i64 s1_1] rfl rfl rfl (by rw [Int.toNat_natCast]; rfl) rfl (chkOne_size one3) rfl rfl rfl rfl fun w15 (hS15 : SH (Off [Ck.own (α := List Int) [.slice A0 p0.length cap0] p0 F0] w) w w15 [Ck.elem (α := Int) g12 i1 cap0 [.int .i64 s1_1] y1_m0 Fo12]) a16 hE16 => wpList_nil ?_
    clear hE11 hE14
    clear a11 a14
    refine then_normal ?_
    refine wp_region_lit ?_
    refine st_val hE16 (y_move hE16 rfl) rfl fun a17 hE17 => st_val hE17 (y_add hE17 rfl rfl) rfl fun a18 hE18 => st_val hE18 (y_assign hE18 rfl) rfl fun a19 hE19 => wpList_nil ?_
    clear hE16 hE17 hE18
    clear a16 a17 a18
    refine blk_normal ?_
    refine then_normal ?_
    refine wp_region_lit ?_
    refine st_val hE19 (y_move hE19 rfl) rfl fun a20 hE20 => st_val hE20 (y_add_in hE20 rfl rfl (m := ((i1 + 1 : Nat) : Int)) (by omega) (by omega) (by omega)) rfl fun a21 hE21 => st_val hE21 (y_assign hE21 rfl) rfl fun a22 hE22 => wpList_nil ?_
    clear hE19 hE20 hE21
    clear a19 a20 a21
    have hJ23 := SH.flat (L := [Ck.elem (α := Int) g12 i1 cap0 [.int .i64 s1_1] y1_m0 Fo12]) (α := Int) (cs := [.int .i64 s1_1]) (x := s1_1) hS15 (fun _ => ⟨⟨rfl, hgis1_1⟩, rfl⟩)
    obtain ⟨F23, hS23⟩ := SH.unfocus (α := Int) (L := []) hJ23 hA12 hn12 (by omega)
    refine then_normal ⟨fu1, Nat.lt_succ_self _, (i1 + 1), IntKind.i64.wrap (s1_1 + 1), (y1_m0.set i1 s1_1), F23, by omega, by omega, .inl (by omega), (I64_wrap _), hM, hE22.weaken ⟨rfl, rfl, rfl, trivial⟩, hS23⟩
  ·
    have hge1 : ¬ i1 < p0.length := by have := of_decide_eq_false hb8; omega
    obtain rfl : fu1 = 0 := by omega
    have hM := hM.trans (laws_markIntS_l1.eq_1 _ _ _ _ _)
    refine wp_exit ?_
    refine then_exit ?_
    refine then_exit ?_
    refine blk_exit ?_
    refine then_normal ?_
    refine wp_seq (wp_region_lit ?_)
    refine st_val hE7 (y_move hE7 rfl) rfl fun a24 hE24 => st_val hE24 (y_assign hE24 rfl) rfl fun a25 hE25 => wpList_nil ?_
    clear hE7 hE24
    clear a7 a24
    refine then_normal ?_
    refine wp_ret ?_
    refine fin1 hE25 rfl rfl ?_
    rw [hM]
    exact ⟨rfl, hgis1_1, Fy1_m0, hS3⟩

/- F28 loop.example/g00974/laws.markTxS -/
def laws_markTxS_l1 (p0 : List Tx) (p1 : Int) : Nat → Nat → Int → List Tx → List Tx × Int
  | 0, i1, s1_1, y1_m0 => (y1_m0, s1_1)
  | fu1 + 1, i1, s1_1, y1_m0 => laws_markTxS_l1 p0 p1 fu1 (i1 + 1) (IntKind.i64.wrap ((laws_markIntS ((nth y1_m0 i1).Marks) ((laws_markStringS ((nth y1_m0 i1).Touch.Writes) ((laws_markStringS ((nth y1_m0 i1).Touch.Reads) ((laws_markAnswerS ((nth y1_m0 i1).Answers) ((laws_markCallS ((nth y1_m0 i1).Calls) (IntKind.i64.wrap (IntKind.i64.wrap (IntKind.i64.wrap (IntKind.i64.wrap (s1_1 + 1) + 1) + 1) + 1))).2)).2)).2)).2)).2 + 1)) (y1_m0.set i1 (Tx.mk s1_1 (IntKind.i64.wrap (s1_1 + 1)) (IntKind.i64.wrap (IntKind.i64.wrap (s1_1 + 1) + 1)) (IntKind.i64.wrap (IntKind.i64.wrap (IntKind.i64.wrap (s1_1 + 1) + 1) + 1)) ((laws_markCallS ((nth y1_m0 i1).Calls) (IntKind.i64.wrap (IntKind.i64.wrap (IntKind.i64.wrap (IntKind.i64.wrap (s1_1 + 1) + 1) + 1) + 1))).1) ((laws_markAnswerS ((nth y1_m0 i1).Answers) ((laws_markCallS ((nth y1_m0 i1).Calls) (IntKind.i64.wrap (IntKind.i64.wrap (IntKind.i64.wrap (IntKind.i64.wrap (s1_1 + 1) + 1) + 1) + 1))).2)).1) (Touch.mk ((laws_markStringS ((nth y1_m0 i1).Touch.Reads) ((laws_markAnswerS ((nth y1_m0 i1).Answers) ((laws_markCallS ((nth y1_m0 i1).Calls) (IntKind.i64.wrap (IntKind.i64.wrap (IntKind.i64.wrap (IntKind.i64.wrap (s1_1 + 1) + 1) + 1) + 1))).2)).2)).1) ((laws_markStringS ((nth y1_m0 i1).Touch.Writes) ((laws_markStringS ((nth y1_m0 i1).Touch.Reads) ((laws_markAnswerS ((nth y1_m0 i1).Answers) ((laws_markCallS ((nth y1_m0 i1).Calls) (IntKind.i64.wrap (IntKind.i64.wrap (IntKind.i64.wrap (IntKind.i64.wrap (s1_1 + 1) + 1) + 1) + 1))).2)).2)).2)).1)) ((laws_markIntS ((nth y1_m0 i1).Marks) ((laws_markStringS ((nth y1_m0 i1).Touch.Writes) ((laws_markStringS ((nth y1_m0 i1).Touch.Reads) ((laws_markAnswerS ((nth y1_m0 i1).Answers) ((laws_markCallS ((nth y1_m0 i1).Calls) (IntKind.i64.wrap (IntKind.i64.wrap (IntKind.i64.wrap (IntKind.i64.wrap (s1_1 + 1) + 1) + 1) + 1))).2)).2)).2)).2)).1) ((laws_markIntS ((nth y1_m0 i1).Marks) ((laws_markStringS ((nth y1_m0 i1).Touch.Writes) ((laws_markStringS ((nth y1_m0 i1).Touch.Reads) ((laws_markAnswerS ((nth y1_m0 i1).Answers) ((laws_markCallS ((nth y1_m0 i1).Calls) (IntKind.i64.wrap (IntKind.i64.wrap (IntKind.i64.wrap (IntKind.i64.wrap (s1_1 + 1) + 1) + 1) + 1))).2)).2)).2)).2)).2)))
def laws_markTxS (p0 : List Tx) (p1 : Int) : List Tx × Int := laws_markTxS_l1 p0 p1 (p0.length - 0) 0 p1 p0
theorem c_laws_markTxS {v0 : Value} (p0 : List Tx) {F0 : List Nat} (p1 : Int) {w : World} (hMu0 : SH (Off [Ck.own (α := List Tx) [v0] p0 F0] w) w w [Ck.own (α := List Tx) [v0] p0 F0]) (hi1 : I64 p1) :
    Calls Tryd.prog 28 [v0, .int .i64 p1].toArray w (fun e w' => e = .returned (.int .i64 (laws_markTxS p0 p1).2) ∧ I64 (laws_markTxS p0 p1).2 ∧ ∃ F', SH (Off [Ck.own (α := List Tx) [v0] p0 F0] w) w w' [Ck.own (α := List Tx) [v0] (laws_markTxS p0 p1).1 F']) := by
  obtain ⟨A0, cap0, rfl, hx0⟩ := (hMu0.slO (k := 0) rfl).form
  refine enter Tryd.func28 rfl Tryd.ntmps28 (Nat.le_of_ble_eq_true rfl) ?_
  intro a0 hE0
  have hS0 := hMu0
  have hM := laws_markTxS.eq_1 p0 p1
  have hij1 : -9223372036854775808 ≤ p1 ∧ p1 ≤ 9223372036854775807 := hi1
  refine wp_seq (wp_region_lit ?_)
  refine st_val hE0 (y_assign hE0 rfl) rfl fun a1 hE1 => wpList_nil ?_
  clear hE0
  clear a0
  refine then_normal ?_
  refine wp_seq (wp_seq (wp_region_lit ?_))
  refine st_val hE1 (y_assign hE1 rfl) rfl fun a2 hE2 => wpList_nil ?_
  clear hE1
  clear a1
  refine then_normal ?_
  refine wp_block (wp_loop_ghost (fun fu1 a w2 => ∃ (i1 : Nat) (s1_1 : Int) (y1_m0 : List Tx) (Fy1_m0 : List Nat), 0 ≤ i1 ∧ fu1 = p0.length - i1 ∧ (i1 ≤ p0.length ∨ i1 = 0) ∧ I64 s1_1 ∧ laws_markTxS p0 p1 = laws_markTxS_l1 p0 p1 fu1 i1 s1_1 y1_m0 ∧ Env 85 [(0, .slice A0 p0.length cap0), (1, .int .i64 s1_1), (5, .int .i64 (i1 : Int))] a ∧ SH (Off [Ck.own (α := List Tx) [.slice A0 p0.length cap0] p0 F0] w) w w2 [Ck.own (α := List Tx) [.slice A0 p0.length cap0] y1_m0 Fy1_m0]) (p0.length - 0) ⟨0, p1, p0, F0, Nat.le_refl _, rfl, .inr rfl, hi1, hM, hE2.weaken ⟨rfl, rfl, rfl, trivial⟩, hS0⟩ ?_)
  clear hM hE2
  rintro fu1 a3 w3 ⟨i1, s1_1, y1_m0, Fy1_m0, hi1, hfu1, hup1, hgis1_1, hM, hE3, hS3⟩
  have hlry1_m0 := hS3.lenrow (k := 0) rfl
  refine wp_seq (wp_seq (wp_region_lit ?_))
  refine st_val hE3 (y_move hE3 rfl) rfl fun a4 hE4 => st_val hE4 (y_move hE4 rfl) rfl fun a5 hE5 => st_val hE5 (y_len_slice hE5 rfl sl45) rfl fun a6 hE6 => st_val hE6 (y_lss hE6 rfl rfl) rfl fun a7 hE7 => wpList_nil ?_
  clear hE3 hE4 hE5 hE6
  clear a3 a4 a5 a6
  refine then_normal ?_
  refine cond_split hE7 rfl (fun hb8 => ?_) (fun hb8 => ?_)
  ·
    have hlt1 : i1 < p0.length := by have := of_decide_eq_true hb8; omega
    obtain ⟨fu1, rfl⟩ : ∃ m, fu1 = m + 1 := ⟨fu1 - 1, by omega⟩
    have hM := hM.trans (laws_markTxS_l1.eq_2 _ _ _ _ _ _)
    refine wp_skip ?_
    refine then_normal ?_
    refine wp_seq (wp_block (wp_seq (wp_region_lit ?_)))
    refine st_val hE7 (y_move hE7 rfl) rfl fun a9 hE9 => st_val hE9 (y_move hE9 rfl) rfl fun a10 hE10 => st_val hE10 (y_move hE10 rfl) rfl fun a11 hE11 => ?_
    clear hE7 hE9 hE10
    clear a7 a9 a10
    have hlr12 := hS3.lenrow (k := 0) rfl
    obtain ⟨g12, ce12, Fo12, G12, hA12, hn12, hF12⟩ := SH.focus (L := []) hS3 (i := i1) (by omega)
    obtain ⟨v12_4, F12_4, v12_5, F12_5, v12_6, F12_6, v12_7, F12_7, v12_8, F12_8, rfl, rfl, hg12_0, hg12_1, hg12_2, hg12_3, ho12_4, ho12_5, ho12_6, ho12_7, ho12_8, hg12_9, _⟩ := Tx_oopen (show Dat.own w3 ce12 (nth y1_m0 i1) G12 from hF12.get (k := 0) rfl)
    obtain ⟨A12_4, cp12_4, rfl, hx12_4⟩ := ho12_4.form
    obtain ⟨A12_5, cp12_5, rfl, hx12_5⟩ := ho12_5.form
    obtain ⟨A12_6, cp12_6, rfl, hx12_6⟩ := ho12_6.form
    obtain ⟨A12_7, cp12_7, rfl, hx12_7⟩ := ho12_7.form
    obtain ⟨A12_8, cp12_8, rfl, hx12_8⟩ := ho12_8.form
    have hS13 := hF12.split [Ck.own (α := List Call) [.slice A12_4 ((nth y1_m0 i1).Calls.length) cp12_4] ((nth y1_m0 i1).Calls) F12_4, Ck.own (α := List Answer) [.slice A12_5 ((nth y1_m0 i1).Answers.length) cp12_5] ((nth y1_m0 i1).Answers) F12_5, Ck.own (α := List ByteArray) [.slice A12_6 ((nth y1_m0 i1).Touch.Reads.length) cp12_6] ((nth y1_m0 i1).Touch.Reads) F12_6, Ck.own (α := List ByteArray) [.slice A12_7 ((nth y1_m0 i1).Touch.Writes.length) cp12_7] ((nth y1_m0 i1).Touch.Writes) F12_7, Ck.own (α := List Int) [.slice A12_8 ((nth y1_m0 i1).Marks.length) cp12_8] ((nth y1_m0 i1).Marks) F12_8] (by simp only [Ck.own, List.flatMap_cons, List.flatMap_nil, List.append_nil, List.append_assoc]) (oks_cons (ok_sl ho12_4) (oks_cons (ok_sl ho12_5) (oks_cons (ok_sl ho12_6) (oks_cons (ok_sl ho12_7) (oks_cons (ok_sl ho12_8) oks_nil)))))
    simp only [List.cons_append, List.nil_append] at hS13
    refine st_val hE11 (y_indexAddr (A := ⟨g12, 0, none⟩) hE11 (congrArg (fun A => some (Value.slice A p0.length cap0)) hA12) rfl (by omega) (by omega) sl45) rfl fun a14 hE14 => st_val hE14 (y_fieldAddr hE14 rfl fa90_0 rfl) rfl fun a15 hE15 => st_storeE (α := Tx) (k := 5) hE15 hS13 [.int .i64 s1_1, .int .i64 ((nth y1_m0 i1).Age), .int .i64 ((nth y1_m0 i1).Proc), .int .i64 ((nth y1_m0 i1).Began), .slice A12_4 ((nth y1_m0 i1).Calls.length) cp12_4, .slice A12_5 ((nth y1_m0 i1).Answers.length) cp12_5, .slice A12_6 ((nth y1_m0 i1).Touch.Reads.length) cp12_6, .slice A12_7 ((nth y1_m0 i1).Touch.Writes.length) cp12_7, .slice A12_8 ((nth y1_m0 i1).Marks.length) cp12_8, .int .i64 ((nth y1_m0 i1).State)] rfl rfl rfl (by rw [Int.toNat_natCast]; rfl) rfl (chkOne_size one3) rfl rfl rfl rfl fun w16 (hS16 : SH (Off [Ck.own (α := List Tx) [.slice A0 p0.length cap0] p0 F0] w) w w16 [Ck.own (α := List Call) [.slice A12_4 ((nth y1_m0 i1).Calls.length) cp12_4] ((nth y1_m0 i1).Calls) F12_4, Ck.own (α := List Answer) [.slice A12_5 ((nth y1_m0 i1).Answers.length) cp12_5] ((nth y1_m0 i1).Answers) F12_5, Ck.own (α := List ByteArray) [.slice A12_6 ((nth y1_m0 i1).Touch.Reads.length) cp12_6] ((nth y1_m0 i1).Touch.Reads) F12_6, Ck.own (α := List ByteArray) [.slice A12_7 ((nth y1_m0 i1).Touch.Writes.length) cp12_7] ((nth y1_m0 i1).Touch.Writes) F12_7, Ck.own (α := List Int) [.slice A12_8 ((nth y1_m0 i1).Marks.length) cp12_8] ((nth y1_m0 i1).Marks) F12_8, Ck.elem (α := Tx) g12 i1 cap0 [.int .i64 s1_1, .int .i64 ((nth y1_m0 i1).Age), .int .i64 ((nth y1_m0 i1).Proc), .int .i64 ((nth y1_m0 i1).Began), .slice A12_4 ((nth y1_m0 i1).Calls.length) cp12_4, .slice A12_5 ((nth y1_m0 i1).Answers.length) cp12_5, .slice A12_6 ((nth y1_m0 i1).Touch.Reads.length) cp12_6, .slice A12_7 ((nth y1_m0 i1).Touch.Writes.length) cp12_7, .slice A12_8 ((nth y1_m0 i1).Marks.length) cp12_8, .int .i64 ((nth y1_m0 i1).State)] y1_m0 Fo12]) a17 hE17 => wpList_nil ?_
    clear hE11 hE14 hE15
    clear a11 a14 a15
    refine then_normal ?_
    refine wp_seq (wp_region_lit ?_)
    refine st_val hE17 (y_move hE17 rfl) rfl fun a18 hE18 => st_val hE18 (y_add hE18 rfl rfl) rfl fun a19 hE19 => st_val hE19 (y_assign hE19 rfl) rfl fun a20 hE20 => wpList_nil ?_
    clear hE17 hE18 hE19
    clear a17 a18 a19
    refine then_normal ?_
    refine wp_seq (wp_region_lit ?_)
    refine st_val hE20 (y_move hE20 rfl) rfl fun a21 hE21 => st_val hE21 (y_move hE21 rfl) rfl fun a22 hE22 => st_val hE22 (y_move hE22 rfl) rfl fun a23 hE23 => ?_
    refine st_val hE23 (y_indexAddr (A := ⟨g12, 0, none⟩) hE23 (congrArg (fun A => some (Value.slice A p0.length cap0)) hA12) rfl (by omega) (by omega) sl45) rfl fun a24 hE24 => st_val hE24 (y_fieldAddr hE24 rfl fa90_1 rfl) rfl fun a25 hE25 => st_storeE (α := Tx) (k := 5) hE25 hS16 [.int .i64 s1_1, .int .i64 (IntKind.i64.wrap (s1_1 + 1)), .int .i64 ((nth y1_m0 i1).Proc), .int .i64 ((nth y1_m0 i1).Began), .slice A12_4 ((nth y1_m0 i1).Calls.length) cp12_4, .slice A12_5 ((nth y1_m0 i1).Answers.length) cp12_5, .slice A12_6 ((nth y1_m0 i1).Touch.Reads.length) cp12_6, .slice A12_7 ((nth y1_m0 i1).Touch.Writes.length) cp12_7, .slice A12_8 ((nth y1_m0 i1).Marks.length) cp12_8, .int .i64 ((nth y1_m0 i1).State)] rfl rfl rfl (by rw [Int.toNat_natCast]; rfl) rfl (chkOne_size one3) rfl rfl rfl rfl fun w26 (hS26 : SH (Off [Ck.own (α := List Tx) [.slice A0 p0.length cap0] p0 F0] w) w w26 [Ck.own (α := List Call) [.slice A12_4 ((nth y1_m0 i1).Calls.length) cp12_4] ((nth y1_m0 i1).Calls) F12_4, Ck.own (α := List Answer) [.slice A12_5 ((nth y1_m0 i1).Answers.length) cp12_5] ((nth y1_m0 i1).Answers) F12_5, Ck.own (α := List ByteArray) [.slice A12_6 ((nth y1_m0 i1).Touch.Reads.length) cp12_6] ((nth y1_m0 i1).Touch.Reads) F12_6, Ck.own (α := List ByteArray) [.slice A12_7 ((nth y1_m0 i1).Touch.Writes.length) cp12_7] ((nth y1_m0 i1).Touch.Writes) F12_7, Ck.own (α := List Int) [.slice A12_8 ((nth y1_m0 i1).Marks.length) cp12_8] ((nth y1_m0 i1).Marks) F12_8, Ck.elem (α := Tx) g12 i1 cap0 [.int .i64 s1_1, .int .i64 (IntKind.i64.wrap (s1_1 + 1)), .int .i64 ((nth y1_m0 i1).Proc), .int .i64 ((nth y1_m0 i1).Began), .slice A12_4 ((nth y1_m0 i1).Calls.length) cp12_4, .slice A12_5 ((nth y1_m0 i1).Answers.length) cp12_5, .slice A12_6 ((nth y1_m0 i1).Touch.Reads.length) cp12_6, .slice A12_7 ((nth y1_m0 i1).Touch.Writes.length) cp12_7, .slice A12_8 ((nth y1_m0 i1).Marks.length) cp12_8, .int .i64 ((nth y1_m0 i1).State)] y1_m0 Fo12]) a27 hE27 => wpList_nil ?_
    clear hE20 hE21 hE22 hE23 hE24 hE25
    clear a20 a21 a22 a23 a24 a25
    refine then_normal ?_
    refine wp_seq (wp_region_lit ?_)
    refine st_val hE27 (y_move hE27 rfl) rfl fun a28 hE28 => st_val hE28 (y_add hE28 rfl rfl) rfl fun a29 hE29 => st_val hE29 (y_assign hE29 rfl) rfl fun a30 hE30 => wpList_nil ?_
    clear hE27 hE28 hE29
    clear a27 a28 a29
    refine then_normal ?_
    refine wp_seq (wp_region_lit ?_)
    refine st_val hE30 (y_move hE30 rfl) rfl fun a31 hE31 => st_val hE31 (y_move hE31 rfl) rfl fun a32 hE32 => st_val hE32 (y_move hE32 rfl) rfl fun a33 hE33 => ?_
    refine st_val hE33 (y_indexAddr (A := ⟨g12, 0, none⟩) hE33 (congrArg (fun A => some (Value.slice A p0.length cap0)) hA12) rfl (by omega) (by omega) sl45) rfl fun a34 hE34 => st_val hE34 (y_fieldAddr hE34 rfl fa90_2 rfl) rfl fun a35 hE35 => st_storeE (α := Tx) (k := 5) hE35 hS26 [.int .i64 s1_1, .int .i64 (IntKind.i64.wrap (s1_1 + 1)), .int .i64 (IntKind.i64.wrap (IntKind.i64.wrap (s1_1 + 1) + 1)), .int .i64 ((nth y1_m0 i1).Began), .slice A12_4 ((nth y1_m0 i1).Calls.length) cp12_4, .slice A12_5 ((nth y1_m0 i1).Answers.length) cp12_5, .slice A12_6 ((nth y1_m0 i1).Touch.Reads.length) cp12_6, .slice A12_7 ((nth y1_m0 i1).Touch.Writes.length) cp12_7, .slice A12_8 ((nth y1_m0 i1).Marks.length) cp12_8, .int .i64 ((nth y1_m0 i1).State)] rfl rfl rfl (by rw [Int.toNat_natCast]; rfl) rfl (chkOne_size one3) rfl rfl rfl rfl fun w36 (hS36 : SH (Off [Ck.own (α := List Tx) [.slice A0 p0.length cap0] p0 F0] w) w w36 [Ck.own (α := List Call) [.slice A12_4 ((nth y1_m0 i1).Calls.length) cp12_4] ((nth y1_m0 i1).Calls) F12_4, Ck.own (α := List Answer) [.slice A12_5 ((nth y1_m0 i1).Answers.length) cp12_5] ((nth y1_m0 i1).Answers) F12_5, Ck.own (α := List ByteArray) [.slice A12_6 ((nth y1_m0 i1).Touch.Reads.length) cp12_6] ((nth y1_m0 i1).Touch.Reads) F12_6, Ck.own (α := List ByteArray) [.slice A12_7 ((nth y1_m0 i1).Touch.Writes.length) cp12_7] ((nth y1_m0 i1).Touch.Writes) F12_7, Ck.own (α := List Int) [.slice A12_8 ((nth y1_m0 i1).Marks.length) cp12_8] ((nth y1_m0 i1).Marks) F12_8, Ck.elem (α := Tx) g12 i1 cap0 [.int .i64 s1_1, .int .i64 (IntKind.i64.wrap (s1_1 + 1)), .int .i64 (IntKind.i64.wrap (IntKind.i64.wrap (s1_1 + 1) + 1)), .int .i64 ((nth y1_m0 i1).Began), .slice A12_4 ((nth y1_m0 i1).Calls.length) cp12_4, .slice A12_5 ((nth y1_m0 i1).Answers.length) cp12_5, .slice A12_6 ((nth y1_m0 i1).Touch.Reads.length) cp12_6, .slice A12_7 ((nth y1_m0 i1).Touch.Writes.length) cp12_7, .slice A12_8 ((nth y1_m0 i1).Marks.length) cp12_8, .int .i64 ((nth y1_m0 i1).State)] y1_m0 Fo12]) a37 hE37 => wpList_nil ?_
    clear hE30 hE31 hE32 hE33 hE34 hE35
    clear a30 a31 a32 a33 a34 a35
    refine then_normal ?_
    refine wp_seq (wp_region_lit ?_)
    refine st_val hE37 (y_move hE37 rfl) rfl fun a38 hE38 => st_val hE38 (y_add hE38 rfl rfl) rfl fun a39 hE39 => st_val hE39 (y_assign hE39 rfl) rfl fun a40 hE40 => wpList_nil ?_
    clear hE37 hE38 hE39
    clear a37 a38 a39
    refine then_normal ?_
    refine wp_seq (wp_region_lit ?_)
    refine st_val hE40 (y_move hE40 rfl) rfl fun a41 hE41 => st_val hE41 (y_move hE41 rfl) rfl fun a42 hE42 => st_val hE42 (y_move hE42 rfl) rfl fun a43 hE43 => ?_
    refine st_val hE43 (y_indexAddr (A := ⟨g12, 0, none⟩) hE43 (congrArg (fun A => some (Value.slice A p0.length cap0)) hA12) rfl (by omega) (by omega) sl45) rfl fun a44 hE44 => st_val hE44 (y_fieldAddr hE44 rfl fa90_3 rfl) rfl fun a45 hE45 => st_storeE (α := Tx) (k := 5) hE45 hS36 [.int .i64 s1_1, .int .i64 (IntKind.i64.wrap (s1_1 + 1)), .int .i64 (IntKind.i64.wrap (IntKind.i64.wrap (s1_1 + 1) + 1)), .int .i64 (IntKind.i64.wrap (IntKind.i64.wrap (IntKind.i64.wrap (s1_1 + 1) + 1) + 1)), .slice A12_4 ((nth y1_m0 i1).Calls.length) cp12_4, .slice A12_5 ((nth y1_m0 i1).Answers.length) cp12_5, .slice A12_6 ((nth y1_m0 i1).Touch.Reads.length) cp12_6, .slice A12_7 ((nth y1_m0 i1).Touch.Writes.length) cp12_7, .slice A12_8 ((nth y1_m0 i1).Marks.length) cp12_8, .int .i64 ((nth y1_m0 i1).State)] rfl rfl rfl (by rw [Int.toNat_natCast]; rfl) rfl (chkOne_size one3) rfl rfl rfl rfl fun w46 (hS46 : SH (Off [Ck.own (α := List Tx) [.slice A0 p0.length cap0] p0 F0] w) w w46 [Ck.own (α := List Call) [.slice A12_4 ((nth y1_m0 i1).Calls.length) cp12_4] ((nth y1_m0 i1).Calls) F12_4, Ck.own (α := List Answer) [.slice A12_5 ((nth y1_m0 i1).Answers.length) cp12_5] ((nth y1_m0 i1).Answers) F12_5, Ck.own (α := List ByteArray) [.slice A12_6 ((nth y1_m0 i1).Touch.Reads.length) cp12_6] ((nth y1_m0 i1).Touch.Reads) F12_6, Ck.own (α := List ByteArray) [.slice A12_7 ((nth y1_m0 i1).Touch.Writes.length) cp12_7] ((nth y1_m0 i1).Touch.Writes) F12_7, Ck.own (α := List Int) [.slice A12_8 ((nth y1_m0 i1).Marks.length) cp12_8] ((nth y1_m0 i1).Marks) F12_8, Ck.elem (α := Tx) g12 i1 cap0 [.int .i64 s1_1, .int .i64 (IntKind.i64.wrap (s1_1 + 1)), .int .i64 (IntKind.i64.wrap (IntKind.i64.wrap (s1_1 + 1) + 1)), .int .i64 (IntKind.i64.wrap (IntKind.i64.wrap (IntKind.i64.wrap (s1_1 + 1) + 1) + 1)), .slice A12_4 ((nth y1_m0 i1).Calls.length) cp12_4, .slice A12_5 ((nth y1_m0 i1).Answers.length) cp12_5, .slice A12_6 ((nth y1_m0 i1).Touch.Reads.length) cp12_6, .slice A12_7 ((nth y1_m0 i1).Touch.Writes.length) cp12_7, .slice A12_8 ((nth y1_m0 i1).Marks.length) cp12_8, .int .i64 ((nth y1_m0 i1).State)] y1_m0 Fo12]) a47 hE47 => wpList_nil ?_
    clear hE40 hE41 hE42 hE43 hE44 hE45
    clear a40 a41 a42 a43 a44 a45
    refine then_normal ?_
    refine wp_seq (wp_region_lit ?_)
    refine st_val hE47 (y_move hE47 rfl) rfl fun a48 hE48 => st_val hE48 (y_add hE48 rfl rfl) rfl fun a49 hE49 => st_val hE49 (y_assign hE49 rfl) rfl fun a50 hE50 => wpList_nil ?_
    clear hE47 hE48 hE49
    clear a47 a48 a49
    refine then_normal ?_
    refine wp_seq (wp_region_lit ?_)
    refine st_val hE50 (y_move hE50 rfl) rfl fun a51 hE51 => st_val hE51 (y_move hE51 rfl) rfl fun a52 hE52 => ?_
    refine st_val hE52 (y_indexAddr (A := ⟨g12, 0, none⟩) hE52 (congrArg (fun A => some (Value.slice A p0.length cap0)) hA12) rfl (by omega) (by omega) sl45) rfl fun a53 hE53 => st_val hE53 (y_fieldAddr hE53 rfl fa90_4 rfl) rfl fun a54 hE54 => st_val hE54 (y_load_one hE54 rfl (hS46.elemCells (k := 5) (p := (((i1 : Int)).toNat * 10)) rfl (by rw [Int.toNat_natCast]; rfl)) rfl one86) rfl fun a55 hE55 => st_val hE55 (y_move hE55 rfl) rfl fun a56 hE56 => ?_
    have hP57 : SH (Off [Ck.own (α := List Tx) [.slice A0 p0.length cap0] p0 F0] w) w w46 (Ck.own (α := List Call) [.slice A12_4 ((nth y1_m0 i1).Calls.length) cp12_4] ((nth y1_m0 i1).Calls) F12_4 :: [Ck.own (α := List Answer) [.slice A12_5 ((nth y1_m0 i1).Answers.length) cp12_5] ((nth y1_m0 i1).Answers) F12_5, Ck.own (α := List ByteArray) [.slice A12_6 ((nth y1_m0 i1).Touch.Reads.length) cp12_6] ((nth y1_m0 i1).Touch.Reads) F12_6, Ck.own (α := List ByteArray) [.slice A12_7 ((nth y1_m0 i1).Touch.Writes.length) cp12_7] ((nth y1_m0 i1).Touch.Writes) F12_7, Ck.own (α := List Int) [.slice A12_8 ((nth y1_m0 i1).Marks.length) cp12_8] ((nth y1_m0 i1).Marks) F12_8, Ck.elem (α := Tx) g12 i1 cap0 [.int .i64 s1_1, .int .i64 (IntKind.i64.wrap (s1_1 + 1)), .int .i64 (IntKind.i64.wrap (IntKind.i64.wrap (s1_1 + 1) + 1)), .int .i64 (IntKind.i64.wrap (IntKind.i64.wrap (IntKind.i64.wrap (s1_1 + 1) + 1) + 1)), .slice A12_4 ((nth y1_m0 i1).Calls.length) cp12_4, .slice A12_5 ((nth y1_m0 i1).Answers.length) cp12_5, .slice A12_6 ((nth y1_m0 i1).Touch.Reads.length) cp12_6, .slice A12_7 ((nth y1_m0 i1).Touch.Writes.length) cp12_7, .slice A12_8 ((nth y1_m0 i1).Marks.length) cp12_8, .int .i64 ((nth y1_m0 i1).State)] y1_m0 Fo12]) := hS46
    refine st_callM (c := Ck.own (α := List Call) [.slice A12_4 ((nth y1_m0 i1).Calls.length) cp12_4] ((nth y1_m0 i1).Calls) F12_4) (c' := fun F57 => Ck.own (α := List Call) [.slice A12_4 ((nth y1_m0 i1).Calls.length) cp12_4] ((laws_markCallS ((nth y1_m0 i1).Calls) (IntKind.i64.wrap (IntKind.i64.wrap (IntKind.i64.wrap (IntKind.i64.wrap (s1_1 + 1) + 1) + 1) + 1))).1) F57) (R := I64 (laws_markCallS ((nth y1_m0 i1).Calls) (IntKind.i64.wrap (IntKind.i64.wrap (IntKind.i64.wrap (IntKind.i64.wrap (s1_1 + 1) + 1) + 1) + 1))).2) hE56 hP57 Tryd.func68 fb68 fn68 (c_laws_markCallS ((nth y1_m0 i1).Calls) (IntKind.i64.wrap (IntKind.i64.wrap (IntKind.i64.wrap (IntKind.i64.wrap (s1_1 + 1) + 1) + 1) + 1)) (SH.off (M := [Ck.own (α := List Call) [.slice A12_4 ((nth y1_m0 i1).Calls.length) cp12_4] ((nth y1_m0 i1).Calls) F12_4]) (R := [Ck.own (α := List Answer) [.slice A12_5 ((nth y1_m0 i1).Answers.length) cp12_5] ((nth y1_m0 i1).Answers) F12_5, Ck.own (α := List ByteArray) [.slice A12_6 ((nth y1_m0 i1).Touch.Reads.length) cp12_6] ((nth y1_m0 i1).Touch.Reads) F12_6, Ck.own (α := List ByteArray) [.slice A12_7 ((nth y1_m0 i1).Touch.Writes.length) cp12_7] ((nth y1_m0 i1).Touch.Writes) F12_7, Ck.own (α := List Int) [.slice A12_8 ((nth y1_m0 i1).Marks.length) cp12_8] ((nth y1_m0 i1).Marks) F12_8, Ck.elem (α := Tx) g12 i1 cap0 [.int .i64 s1_1, .int .i64 (IntKind.i64.wrap (s1_1 + 1)), .int .i64 (IntKind.i64.wrap (IntKind.i64.wrap (s1_1 + 1) + 1)), .int .i64 (IntKind.i64.wrap (IntKind.i64.wrap (IntKind.i64.wrap (s1_1 + 1) + 1) + 1)), .slice A12_4 ((nth y1_m0 i1).Calls.length) cp12_4, .slice A12_5 ((nth y1_m0 i1).Answers.length) cp12_5, .slice A12_6 ((nth y1_m0 i1).Touch.Reads.length) cp12_6, .slice A12_7 ((nth y1_m0 i1).Touch.Writes.length) cp12_7, .slice A12_8 ((nth y1_m0 i1).Marks.length) cp12_8, .int .i64 ((nth y1_m0 i1).State)] y1_m0 Fo12]) hP57) (I64_wrap _)) rfl rfl fun F57 w57 hR57 hS57 a58 hE58 => st_val hE58 (y_assign hE58 rfl) rfl fun a59 hE59 => wpList_nil ?_
    clear hE50 hE51 hE52 hE53 hE54 hE55 hE56 hE58
    clear a50 a51 a52 a53 a54 a55 a56 a58
    refine then_normal ?_
    refine wp_seq (wp_region_lit ?_)
    refine st_val hE59 (y_move hE59 rfl) rfl fun a60 hE60 => st_val hE60 (y_move hE60 rfl) rfl fun a61 hE61 => ?_
    refine st_val hE61 (y_indexAddr (A := ⟨g12, 0, none⟩) hE61 (congrArg (fun A => some (Value.slice A p0.length cap0)) hA12) rfl (by omega) (by omega) sl45) rfl fun a62 hE62 => st_val hE62 (y_fieldAddr hE62 rfl fa90_5 rfl) rfl fun a63 hE63 => st_val hE63 (y_load_one hE63 rfl (hS57.elemCells (k := 5) (p := (((i1 : Int)).toNat * 10)) rfl (by rw [Int.toNat_natCast]; rfl)) rfl one87) rfl fun a64 hE64 => st_val hE64 (y_move hE64 rfl) rfl fun a65 hE65 => ?_
    have hP66 : SH (Off [Ck.own (α := List Tx) [.slice A0 p0.length cap0] p0 F0] w) w w57 (Ck.own (α := List Answer) [.slice A12_5 ((nth y1_m0 i1).Answers.length) cp12_5] ((nth y1_m0 i1).Answers) F12_5 :: [Ck.own (α := List Call) [.slice A12_4 ((nth y1_m0 i1).Calls.length) cp12_4] ((laws_markCallS ((nth y1_m0 i1).Calls) (IntKind.i64.wrap (IntKind.i64.wrap (IntKind.i64.wrap (IntKind.i64.wrap (s1_1 + 1) + 1) + 1) + 1))).1) F57, Ck.own (α := List ByteArray) [.slice A12_6 ((nth y1_m0 i1).Touch.Reads.length) cp12_6] ((nth y1_m0 i1).Touch.Reads) F12_6, Ck.own (α := List ByteArray) [.slice A12_7 ((nth y1_m0 i1).Touch.Writes.length) cp12_7] ((nth y1_m0 i1).Touch.Writes) F12_7, Ck.own (α := List Int) [.slice A12_8 ((nth y1_m0 i1).Marks.length) cp12_8] ((nth y1_m0 i1).Marks) F12_8, Ck.elem (α := Tx) g12 i1 cap0 [.int .i64 s1_1, .int .i64 (IntKind.i64.wrap (s1_1 + 1)), .int .i64 (IntKind.i64.wrap (IntKind.i64.wrap (s1_1 + 1) + 1)), .int .i64 (IntKind.i64.wrap (IntKind.i64.wrap (IntKind.i64.wrap (s1_1 + 1) + 1) + 1)), .slice A12_4 ((nth y1_m0 i1).Calls.length) cp12_4, .slice A12_5 ((nth y1_m0 i1).Answers.length) cp12_5, .slice A12_6 ((nth y1_m0 i1).Touch.Reads.length) cp12_6, .slice A12_7 ((nth y1_m0 i1).Touch.Writes.length) cp12_7, .slice A12_8 ((nth y1_m0 i1).Marks.length) cp12_8, .int .i64 ((nth y1_m0 i1).State)] y1_m0 Fo12]) := (hS57.pick [1, 0, 2, 3, 4, 5] (by decide) rfl)
    refine st_callM (c := Ck.own (α := List Answer) [.slice A12_5 ((nth y1_m0 i1).Answers.length) cp12_5] ((nth y1_m0 i1).Answers) F12_5) (c' := fun F66 => Ck.own (α := List Answer) [.slice A12_5 ((nth y1_m0 i1).Answers.length) cp12_5] ((laws_markAnswerS ((nth y1_m0 i1).Answers) ((laws_markCallS ((nth y1_m0 i1).Calls) (IntKind.i64.wrap (IntKind.i64.wrap (IntKind.i64.wrap (IntKind.i64.wrap (s1_1 + 1) + 1) + 1) + 1))).2)).1) F66) (R := I64 (laws_markAnswerS ((nth y1_m0 i1).Answers) ((laws_markCallS ((nth y1_m0 i1).Calls) (IntKind.i64.wrap (IntKind.i64.wrap (IntKind.i64.wrap (IntKind.i64.wrap (s1_1 + 1) + 1) + 1) + 1))).2)).2) hE65 hP66 Tryd.func69 fb69 fn69 (c_laws_markAnswerS ((nth y1_m0 i1).Answers) ((laws_markCallS ((nth y1_m0 i1).Calls) (IntKind.i64.wrap (IntKind.i64.wrap (IntKind.i64.wrap (IntKind.i64.wrap (s1_1 + 1) + 1) + 1) + 1))).2) (SH.off (M := [Ck.own (α := List Answer) [.slice A12_5 ((nth y1_m0 i1).Answers.length) cp12_5] ((nth y1_m0 i1).Answers) F12_5]) (R := [Ck.own (α := List Call) [.slice A12_4 ((nth y1_m0 i1).Calls.length) cp12_4] ((laws_markCallS ((nth y1_m0 i1).Calls) (IntKind.i64.wrap (IntKind.i64.wrap (IntKind.i64.wrap (IntKind.i64.wrap (s1_1 + 1) + 1) + 1) + 1))).1) F57, Ck.own (α := List ByteArray) [.slice A12_6 ((nth y1_m0 i1).Touch.Reads.length) cp12_6] ((nth y1_m0 i1).Touch.Reads) F12_6, Ck.own (α := List ByteArray) [.slice A12_7 ((nth y1_m0 i1).Touch.Writes.length) cp12_7] ((nth y1_m0 i1).Touch.Writes) F12_7, Ck.own (α := List Int) [.slice A12_8 ((nth y1_m0 i1).Marks.length) cp12_8] ((nth y1_m0 i1).Marks) F12_8, Ck.elem (α := Tx) g12 i1 cap0 [.int .i64 s1_1, .int .i64 (IntKind.i64.wrap (s1_1 + 1)), .int .i64 (IntKind.i64.wrap (IntKind.i64.wrap (s1_1 + 1) + 1)), .int .i64 (IntKind.i64.wrap (IntKind.i64.wrap (IntKind.i64.wrap (s1_1 + 1) + 1) + 1)), .slice A12_4 ((nth y1_m0 i1).Calls.length) cp12_4, .slice A12_5 ((nth y1_m0 i1).Answers.length) cp12_5, .slice A12_6 ((nth y1_m0 i1).Touch.Reads.length) cp12_6, .slice A12_7 ((nth y1_m0 i1).Touch.Writes.length) cp12_7, .slice A12_8 ((nth y1_m0 i1).Marks.length) cp12_8, .int .i64 ((nth y1_m0 i1).State)] y1_m0 Fo12]) hP66) hR57) rfl rfl fun F66 w66 hR66 hS66 a67 hE67 => st_val hE67 (y_assign hE67 rfl) rfl fun a68 hE68 => wpList_nil ?_
    clear hE59 hE60 hE61 hE62 hE63 hE64 hE65 hE67
    clear a59 a60 a61 a62 a63 a64 a65 a67
    refine then_normal ?_
    refine wp_seq (wp_region_lit ?_)
    refine st_val hE68 (y_move hE68 rfl) rfl fun a69 hE69 => st_val hE69 (y_move hE69 rfl) rfl fun a70 hE70 => ?_
    refine st_val hE70 (y_indexAddr (A := ⟨g12, 0, none⟩) hE70 (congrArg (fun A => some (Value.slice A p0.length cap0)) hA12) rfl (by omega) (by omega) sl45) rfl fun a71 hE71 => st_val hE71 (y_fieldAddr hE71 rfl fa90_6 rfl) rfl fun a72 hE72 => st_val hE72 (y_fieldAddr hE72 rfl fa88_0 rfl) rfl fun a73 hE73 => st_val hE73 (y_load_one hE73 rfl (hS66.elemCells (k := 5) (p := (((i1 : Int)).toNat * 10)) rfl (by rw [Int.toNat_natCast]; rfl)) rfl one43) rfl fun a74 hE74 => st_val hE74 (y_move hE74 rfl) rfl fun a75 hE75 => ?_
    have hP76 : SH (Off [Ck.own (α := List Tx) [.slice A0 p0.length cap0] p0 F0] w) w w66 (Ck.own (α := List ByteArray) [.slice A12_6 ((nth y1_m0 i1).Touch.Reads.length) cp12_6] ((nth y1_m0 i1).Touch.Reads) F12_6 :: [Ck.own (α := List Answer) [.slice A12_5 ((nth y1_m0 i1).Answers.length) cp12_5] ((laws_markAnswerS ((nth y1_m0 i1).Answers) ((laws_markCallS ((nth y1_m0 i1).Calls) (IntKind.i64.wrap (IntKind.i64.wrap (IntKind.i64.wrap (IntKind.i64.wrap (s1_1 + 1) + 1) + 1) + 1))).2)).1) F66, Ck.own (α := List Call) [.slice A12_4 ((nth y1_m0 i1).Calls.length) cp12_4] ((laws_markCallS ((nth y1_m0 i1).Calls) (IntKind.i64.wrap (IntKind.i64.wrap (IntKind.i64.wrap (IntKind.i64.wrap (s1_1 + 1) + 1) + 1) + 1))).1) F57, Ck.own (α := List ByteArray) [.slice A12_7 ((nth y1_m0 i1).Touch.Writes.length) cp12_7] ((nth y1_m0 i1).Touch.Writes) F12_7, Ck.own (α := List Int) [.slice A12_8 ((nth y1_m0 i1).Marks.length) cp12_8] ((nth y1_m0 i1).Marks) F12_8, Ck.elem (α := Tx) g12 i1 cap0 [.int .i64 s1_1, .int .i64 (IntKind.i64.wrap (s1_1 + 1)), .int .i64 (IntKind.i64.wrap (IntKind.i64.wrap (s1_1 + 1) + 1)), .int .i64 (IntKind.i64.wrap (IntKind.i64.wrap (IntKind.i64.wrap (s1_1 + 1) + 1) + 1)), .slice A12_4 ((nth y1_m0 i1).Calls.length) cp12_4, .slice A12_5 ((nth y1_m0 i1).Answers.length) cp12_5, .slice A12_6 ((nth y1_m0 i1).Touch.Reads.length) cp12_6, .slice A12_7 ((nth y1_m0 i1).Touch.Writes.length) cp12_7, .slice A12_8 ((nth y1_m0 i1).Marks.length) cp12_8, .int .i64 ((nth y1_m0 i1).State)] y1_m0 Fo12]) := (hS66.pick [2, 0, 1, 3, 4, 5] (by decide) rfl)
    refine st_callM (c := Ck.own (α := List ByteArray) [.slice A12_6 ((nth y1_m0 i1).Touch.Reads.length) cp12_6] ((nth y1_m0 i1).Touch.Reads) F12_6) (c' := fun F76 => Ck.own (α := List ByteArray) [.slice A12_6 ((nth y1_m0 i1).Touch.Reads.length) cp12_6] ((laws_markStringS ((nth y1_m0 i1).Touch.Reads) ((laws_markAnswerS ((nth y1_m0 i1).Answers) ((laws_markCallS ((nth y1_m0 i1).Calls) (IntKind.i64.wrap (IntKind.i64.wrap (IntKind.i64.wrap (IntKind.i64.wrap (s1_1 + 1) + 1) + 1) + 1))).2)).2)).1) F76) (R := I64 (laws_markStringS ((nth y1_m0 i1).Touch.Reads) ((laws_markAnswerS ((nth y1_m0 i1).Answers) ((laws_markCallS ((nth y1_m0 i1).Calls) (IntKind.i64.wrap (IntKind.i64.wrap (IntKind.i64.wrap (IntKind.i64.wrap (s1_1 + 1) + 1) + 1) + 1))).2)).2)).2) hE75 hP76 Tryd.func29 fb29 fn29 (c_laws_markStringS ((nth y1_m0 i1).Touch.Reads) ((laws_markAnswerS ((nth y1_m0 i1).Answers) ((laws_markCallS ((nth y1_m0 i1).Calls) (IntKind.i64.wrap (IntKind.i64.wrap (IntKind.i64.wrap (IntKind.i64.wrap (s1_1 + 1) + 1) + 1) + 1))).2)).2) (SH.off (M := [Ck.own (α := List ByteArray) [.slice A12_6 ((nth y1_m0 i1).Touch.Reads.length) cp12_6] ((nth y1_m0 i1).Touch.Reads) F12_6]) (R := [Ck.own (α := List Answer) [.slice A12_5 ((nth y1_m0 i1).Answers.length) cp12_5] ((laws_markAnswerS ((nth y1_m0 i1).Answers) ((laws_markCallS ((nth y1_m0 i1).Calls) (IntKind.i64.wrap (IntKind.i64.wrap (IntKind.i64.wrap (IntKind.i64.wrap (s1_1 + 1) + 1) + 1) + 1))).2)).1) F66, Ck.own (α := List Call) [.slice A12_4 ((nth y1_m0 i1).Calls.length) cp12_4] ((laws_markCallS ((nth y1_m0 i1).Calls) (IntKind.i64.wrap (IntKind.i64.wrap (IntKind.i64.wrap (IntKind.i64.wrap (s1_1 + 1) + 1) + 1) + 1))).1) F57, Ck.own (α := List ByteArray) [.slice A12_7 ((nth y1_m0 i1).Touch.Writes.length) cp12_7] ((nth y1_m0 i1).Touch.Writes) F12_7, Ck.own (α := List Int) [.slice A12_8 ((nth y1_m0 i1).Marks.length) cp12_8] ((nth y1_m0 i1).Marks) F12_8, Ck.elem (α := Tx) g12 i1 cap0 [.int .i64 s1_1, .int .i64 (IntKind.i64.wrap (s1_1 + 1)), .int .i64 (IntKind.i64.wrap (IntKind.i64.wrap (s1_1 + 1) + 1)), .int .i64 (IntKind.i64.wrap (IntKind.i64.wrap (IntKind.i64.wrap (s1_1 + 1) + 1) + 1)), .slice A12_4 ((nth y1_m0 i1).Calls.length) cp12_4, .slice A12_5 ((nth y1_m0 i1).Answers.length) cp12_5, .slice A12_6 ((nth y1_m0 i1).Touch.Reads.length) cp12_6, .slice A12_7 ((nth y1_m0 i1).Touch.Writes.length) cp12_7, .slice A12_8 ((nth y1_m0 i1).Marks.length) cp12_8, .int .i64 ((nth y1_m0 i1).State)] y1_m0 Fo12]) hP76) hR66) rfl rfl fun F76 w76 hR76 hS76 a77 hE77 => st_val hE77 (y_assign hE77 rfl) rfl fun a78 hE78 => wpList_nil ?_
    clear hE68 hE69 hE70 hE71 hE72 hE73 hE74 hE75 hE77
    clear a68 a69 a70 a71 a72 a73 a74 a75 a77
    refine then_normal ?_
    refine wp_seq (wp_region_lit ?_)
    refine st_val hE78 (y_move hE78 rfl) rfl fun a79 hE79 => st_val hE79 (y_move hE79 rfl) rfl fun a80 hE80 => ?_
    refine st_val hE80 (y_indexAddr (A := ⟨g12, 0, none⟩) hE80 (congrArg (fun A => some (Value.slice A p0.length cap0)) hA12) rfl (by omega) (by omega) sl45) rfl fun a81 hE81 => st_val hE81 (y_fieldAddr hE81 rfl fa90_6 rfl) rfl fun a82 hE82 => st_val hE82 (y_fieldAddr hE82 rfl fa88_1 rfl) rfl fun a83 hE83 => st_val hE83 (y_load_one hE83 rfl (hS76.elemCells (k := 5) (p := (((i1 : Int)).toNat * 10)) rfl (by rw [Int.toNat_natCast]; rfl)) rfl one43) rfl fun a84 hE84 => st_val hE84 (y_move hE84 rfl) rfl fun a85 hE85 => ?_
    have hP86 : SH (Off [Ck.own (α := List Tx) [.slice A0 p0.length cap0] p0 F0] w) w w76 (Ck.own (α := List ByteArray) [.slice A12_7 ((nth y1_m0 i1).Touch.Writes.length) cp12_7] ((nth y1_m0 i1).Touch.Writes) F12_7 :: [Ck.own (α := List ByteArray) [.slice A12_6 ((nth y1_m0 i1).Touch.Reads.length) cp12_6] ((laws_markStringS ((nth y1_m0 i1).Touch.Reads) ((laws_markAnswerS ((nth y1_m0 i1).Answers) ((laws_markCallS ((nth y1_m0 i1).Calls) (IntKind.i64.wrap (IntKind.i64.wrap (IntKind.i64.wrap (IntKind.i64.wrap (s1_1 + 1) + 1) + 1) + 1))).2)).2)).1) F76, Ck.own (α := List Answer) [.slice A12_5 ((nth y1_m0 i1).Answers.length) cp12_5] ((laws_markAnswerS ((nth y1_m0 i1).Answers) ((laws_markCallS ((nth y1_m0 i1).Calls) (IntKind.i64.wrap (IntKind.i64.wrap (IntKind.i64.wrap (IntKind.i64.wrap (s1_1 + 1) + 1) + 1) + 1))).2)).1) F66, Ck.own (α := List Call) [.slice A12_4 ((nth y1_m0 i1).Calls.length) cp12_4] ((laws_markCallS ((nth y1_m0 i1).Calls) (IntKind.i64.wrap (IntKind.i64.wrap (IntKind.i64.wrap (IntKind.i64.wrap (s1_1 + 1) + 1) + 1) + 1))).1) F57, Ck.own (α := List Int) [.slice A12_8 ((nth y1_m0 i1).Marks.length) cp12_8] ((nth y1_m0 i1).Marks) F12_8, Ck.elem (α := Tx) g12 i1 cap0 [.int .i64 s1_1, .int .i64 (IntKind.i64.wrap (s1_1 + 1)), .int .i64 (IntKind.i64.wrap (IntKind.i64.wrap (s1_1 + 1) + 1)), .int .i64 (IntKind.i64.wrap (IntKind.i64.wrap (IntKind.i64.wrap (s1_1 + 1) + 1) + 1)), .slice A12_4 ((nth y1_m0 i1).Calls.length) cp12_4, .slice A12_5 ((nth y1_m0 i1).Answers.length) cp12_5, .slice A12_6 ((nth y1_m0 i1).Touch.Reads.length) cp12_6, .slice A12_7 ((nth y1_m0 i1).Touch.Writes.length) cp12_7, .slice A12_8 ((nth y1_m0 i1).Marks.length) cp12_8, .int .i64 ((nth y1_m0 i1).State)] y1_m0 Fo12]) := (hS76.pick [3, 0, 1, 2, 4, 5] (by decide) rfl)
    refine st_callM (c := Ck.own (α := List ByteArray) [.slice A12_7 ((nth y1_m0 i1).Touch.Writes.length) cp12_7] ((nth y1_m0 i1).Touch.Writes) F12_7) (c' := fun F86 => Ck.own (α := List ByteArray) [.slice A12_7 ((nth y1_m0 i1).Touch.Writes.length) cp12_7] ((laws_markStringS ((nth y1_m0 i1).Touch.Writes) ((laws_markStringS ((nth y1_m0 i1).Touch.Reads) ((laws_markAnswerS ((nth y1_m0 i1).Answers) ((laws_markCallS ((nth y1_m0 i1).Calls) (IntKind.i64.wrap (IntKind.i64.wrap (IntKind.i64.wrap (IntKind.i64.wrap (s1_1 + 1) + 1) + 1) + 1))).2)).2)).2)).1) F86) (R := I64 (laws_markStringS ((nth y1_m0 i1).Touch.Writes) ((laws_markStringS ((nth y1_m0 i1).Touch.Reads) ((laws_markAnswerS ((nth y1_m0 i1).Answers) ((laws_markCallS ((nth y1_m0 i1).Calls) (IntKind.i64.wrap (IntKind.i64.wrap (IntKind.i64.wrap (IntKind.i64.wrap (s1_1 + 1) + 1) + 1) + 1))).2)).2)).2)).2) hE85 hP86 Tryd.func29 fb29 fn29 (c_laws_markStringS ((nth y1_m0 i1).Touch.Writes) ((laws_markStringS ((nth y1_m0 i1).Touch.Reads) ((laws_markAnswerS ((nth y1_m0 i1).Answers) ((laws_markCallS ((nth y1_m0 i1).Calls) (IntKind.i64.wrap (IntKind.i64.wrap (IntKind.i64.wrap (IntKind.i64.wrap (s1_1 + 1) + 1) + 1) + 1))).2)).2)).2) (SH.off (M := [Ck.own (α := List ByteArray) [.slice A12_7 ((nth y1_m0 i1).Touch.Writes.length) cp12_7] ((nth y1_m0 i1).Touch.Writes) F12_7]) (R := [Ck.own (α := List ByteArray) [.slice A12_6 ((nth y1_m0 i1).Touch.Reads.length) cp12_6] ((laws_markStringS ((nth y1_m0 i1).Touch.Reads) ((laws_markAnswerS ((nth y1_m0 i1).Answers) ((laws_markCallS ((nth y1_m0 i1).Calls) (IntKind.i64.wrap (IntKind.i64.wrap (IntKind.i64.wrap (IntKind.i64.wrap (s1_1 + 1) + 1) + 1) + 1))).2)).2)).1) F76, Ck.own (α := List Answer) [.slice A12_5 ((nth y1_m0 i1).Answers.length) cp12_5] ((laws_markAnswerS ((nth y1_m0 i1).Answers) ((laws_markCallS ((nth y1_m0 i1).Calls) (IntKind.i64.wrap (IntKind.i64.wrap (IntKind.i64.wrap (IntKind.i64.wrap (s1_1 + 1) + 1) + 1) + 1))).2)).1) F66, Ck.own (α := List Call) [.slice A12_4 ((nth y1_m0 i1).Calls.length) cp12_4] ((laws_markCallS ((nth y1_m0 i1).Calls) (IntKind.i64.wrap (IntKind.i64.wrap (IntKind.i64.wrap (IntKind.i64.wrap (s1_1 + 1) + 1) + 1) + 1))).1) F57, Ck.own (α := List Int) [.slice A12_8 ((nth y1_m0 i1).Marks.length) cp12_8] ((nth y1_m0 i1).Marks) F12_8, Ck.elem (α := Tx) g12 i1 cap0 [.int .i64 s1_1, .int .i64 (IntKind.i64.wrap (s1_1 + 1)), .int .i64 (IntKind.i64.wrap (IntKind.i64.wrap (s1_1 + 1) + 1)), .int .i64 (IntKind.i64.wrap (IntKind.i64.wrap (IntKind.i64.wrap (s1_1 + 1) + 1) + 1)), .slice A12_4 ((nth y1_m0 i1).Calls.length) cp12_4, .slice A12_5 ((nth y1_m0 i1).Answers.length) cp12_5, .slice A12_6 ((nth y1_m0 i1).Touch.Reads.length) cp12_6, .slice A12_7 ((nth y1_m0 i1).Touch.Writes.length) cp12_7, .slice A12_8 ((nth y1_m0 i1).Marks.length) cp12_8, .int .i64 ((nth y1_m0 i1).State)] y1_m0 Fo12]) hP86) hR76) rfl rfl fun F86 w86 hR86 hS86 a87 hE87 => st_val hE87 (y_assign hE87 rfl) rfl fun a88 hE88 => wpList_nil ?_
    clear hE78 hE79 hE80 hE81 hE82 hE83 hE84 hE85 hE87
    clear a78 a79 a80 a81 a82 a83 a84 a85 a87
    refine then_normal ?_
    refine wp_seq (wp_region_lit ?_)
    refine st_val hE88 (y_move hE88 rfl) rfl fun a89 hE89 => st_val hE89 (y_move hE89 rfl) rfl fun a90 hE90 => ?_
    refine st_val hE90 (y_indexAddr (A := ⟨g12, 0, none⟩) hE90 (congrArg (fun A => some (Value.slice A p0.length cap0)) hA12) rfl (by omega) (by omega) sl45) rfl fun a91 hE91 => st_val hE91 (y_fieldAddr hE91 rfl fa90_7 rfl) rfl fun a92 hE92 => st_val hE92 (y_load_one hE92 rfl (hS86.elemCells (k := 5) (p := (((i1 : Int)).toNat * 10)) rfl (by rw [Int.toNat_natCast]; rfl)) rfl one52) rfl fun a93 hE93 => st_val hE93 (y_move hE93 rfl) rfl fun a94 hE94 => ?_
    have hP95 : SH (Off [Ck.own (α := List Tx) [.slice A0 p0.length cap0] p0 F0] w) w w86 (Ck.own (α := List Int) [.slice A12_8 ((nth y1_m0 i1).Marks.length) cp12_8] ((nth y1_m0 i1).Marks) F12_8 :: [Ck.own (α := List ByteArray) [.slice A12_7 ((nth y1_m0 i1).Touch.Writes.length) cp12_7] ((laws_markStringS ((nth y1_m0 i1).Touch.Writes) ((laws_markStringS ((nth y1_m0 i1).Touch.Reads) ((laws_markAnswerS ((nth y1_m0 i1).Answers) ((laws_markCallS ((nth y1_m0 i1).Calls) (IntKind.i64.wrap (IntKind.i64.wrap (IntKind.i64.wrap (IntKind.i64.wrap (s1_1 + 1) + 1) + 1) + 1))).2)).2)).2)).1) F86, Ck.own (α := List ByteArray) [.slice A12_6 ((nth y1_m0 i1).Touch.Reads.length) cp12_6] ((laws_markStringS ((nth y1_m0 i1).Touch.Reads) ((laws_markAnswerS ((nth y1_m0 i1).Answers) ((laws_markCallS ((nth y1_m0 i1).Calls) (IntKind.i64.wrap (IntKind.i64.wrap (IntKind.i64.wrap (IntKind.i64.wrap (s1_1 + 1) + 1) + 1) + 1))).2)).2)).1) F76, Ck.own (α := List Answer) [.slice A12_5 ((nth y1_m0 i1).Answers.length) cp12_5] ((laws_markAnswerS ((nth y1_m0 i1).Answers) ((laws_markCallS ((nth y1_m0 i1).Calls) (IntKind.i64.wrap (IntKind.i64.wrap (IntKind.i64.wrap (IntKind.i64.wrap (s1_1 + 1) + 1) + 1) + 1))).2)).1) F66, Ck.own (α := List Call) [.slice A12_4 ((nth y1_m0 i1).Calls.length) cp12_4] ((laws_markCallS ((nth y1_m0 i1).Calls) (IntKind.i64.wrap (IntKind.i64.wrap (IntKind.i64.wrap (IntKind.i64.wrap (s1_1 + 1) + 1) + 1) + 1))).1) F57, Ck.elem (α := Tx) g12 i1 cap0 [.int .i64 s1_1, .int .i64 (IntKind.i64.wrap (s1_1 + 1)), .int .i64 (IntKind.i64.wrap (IntKind.i64.wrap (s1_1 + 1) + 1)), .int .i64 (IntKind.i64.wrap (IntKind.i64.wrap (IntKind.i64.wrap (s1_1 + 1) + 1) + 1)), .slice A12_4 ((nth y1_m0 i1).Calls.length) cp12_4, .slice A12_5 ((nth y1_m0 i1).Answers.length) cp12_5, .slice A12_6 ((nth y1_m0 i1).Touch.Reads.length) cp12_6, .slice A12_7 ((nth y1_m0 i1).Touch.Writes.length) cp12_7, .slice A12_8 ((nth y1_m0 i1).Marks.length) cp12_8, .int .i64 ((nth y1_m0 i1).State)] y1_m0 Fo12]) := (hS86.pick [4, 0, 1, 2, 3, 5] (by decide) rfl)
    refine st_callM (c := Ck.own (α := List Int) [.slice A12_8 ((nth y1_m0 i1).Marks.length) cp12_8] ((nth y1_m0 i1).Marks) F12_8) (c' := fun F95 => Ck.own (α := List Int) [.slice A12_8 ((nth y1_m0 i1).Marks.length) cp12_8] ((laws_markIntS ((nth y1_m0 i1).Marks) ((laws_markStringS ((nth y1_m0 i1).Touch.Writes) ((laws_markStringS ((nth y1_m0 i1).Touch.Reads) ((laws_markAnswerS ((nth y1_m0 i1).Answers) ((laws_markCallS ((nth y1_m0 i1).Calls) (IntKind.i64.wrap (IntKind.i64.wrap (IntKind.i64.wrap (IntKind.i64.wrap (s1_1 + 1) + 1) + 1) + 1))).2)).2)).2)).2)).1) F95) (R := I64 (laws_markIntS ((nth y1_m0 i1).Marks) ((laws_markStringS ((nth y1_m0 i1).Touch.Writes) ((laws_markStringS ((nth y1_m0 i1).Touch.Reads) ((laws_markAnswerS ((nth y1_m0 i1).Answers) ((laws_markCallS ((nth y1_m0 i1).Calls) (IntKind.i64.wrap (IntKind.i64.wrap (IntKind.i64.wrap (IntKind.i64.wrap (s1_1 + 1) + 1) + 1) + 1))).2)).2)).2)).2)).2) hE94 hP95 Tryd.func70 fb70 fn70 (c_laws_markIntS ((nth y1_m0 i1).Marks) ((laws_markStringS ((nth y1_m0 i1).Touch.Writes) ((laws_markStringS ((nth y1_m0 i1).Touch.Reads) ((laws_markAnswerS ((nth y1_m0 i1).Answers) ((laws_markCallS ((nth y1_m0 i1).Calls) (IntKind.i64.wrap (IntKind.i64.wrap (IntKind.i64.wrap (IntKind.i64.wrap (s1_1 + 1) + 1) + 1) + 1))).2)).2)).2)).2) (SH.off (M := [Ck.own (α := List Int) [.slice A12_8 ((nth y1_m0 i1).Marks.length) cp12_8] ((nth y1_m0 i1).Marks) F12_8]) (R := [Ck.own (α := List ByteArray) [.slice A12_7 ((nth y1_m0 i1).Touch.Writes.length) cp12_7] ((laws_markStringS ((nth y1_m0 i1).Touch.Writes) ((laws_markStringS ((nth y1_m0 i1).Touch.Reads) ((laws_markAnswerS ((nth y1_m0 i1).Answers) ((laws_markCallS ((nth y1_m0 i1).Calls) (IntKind.i64.wrap (IntKind.i64.wrap (IntKind.i64.wrap (IntKind.i64.wrap (s1_1 + 1) + 1) + 1) + 1))).2)).2)).2)).1) F86, Ck.own (α := List ByteArray) [.slice A12_6 ((nth y1_m0 i1).Touch.Reads.length) cp12_6] ((laws_markStringS ((nth y1_m0 i1).Touch.Reads) ((laws_markAnswerS ((nth y1_m0 i1).Answers) ((laws_markCallS ((nth y1_m0 i1).Calls) (IntKind.i64.wrap (IntKind.i64.wrap (IntKind.i64.wrap (IntKind.i64.wrap (s1_1 + 1) + 1) + 1) + 1))).2)).2)).1) F76, Ck.own (α := List Answer) [.slice A12_5 ((nth y1_m0 i1).Answers.length) cp12_5] ((laws_markAnswerS ((nth y1_m0 i1).Answers) ((laws_markCallS ((nth y1_m0 i1).Calls) (IntKind.i64.wrap (IntKind.i64.wrap (IntKind.i64.wrap (IntKind.i64.wrap (s1_1 + 1) + 1) + 1) + 1))).2)).1) F66, Ck.own (α := List Call) [.slice A12_4 ((nth y1_m0 i1).Calls.length) cp12_4] ((laws_markCallS ((nth y1_m0 i1).Calls) (IntKind.i64.wrap (IntKind.i64.wrap (IntKind.i64.wrap (IntKind.i64.wrap (s1_1 + 1) + 1) + 1) + 1))).1) F57, Ck.elem (α := Tx) g12 i1 cap0 [.int .i64 s1_1, .int .i64 (IntKind.i64.wrap (s1_1 + 1)), .int .i64 (IntKind.i64.wrap (IntKind.i64.wrap (s1_1 + 1) + 1)), .int .i64 (IntKind.i64.wrap (IntKind.i64.wrap (IntKind.i64.wrap (s1_1 + 1) + 1) + 1)), .slice A12_4 ((nth y1_m0 i1).Calls.length) cp12_4, .slice A12_5 ((nth y1_m0 i1).Answers.length) cp12_5, .slice A12_6 ((nth y1_m0 i1).Touch.Reads.length) cp12_6, .slice A12_7 ((nth y1_m0 i1).Touch.Writes.length) cp12_7, .slice A12_8 ((nth y1_m0 i1).Marks.length) cp12_8, .int .i64 ((nth y1_m0 i1).State)] y1_m0 Fo12]) hP95) hR86) rfl rfl fun F95 w95 hR95 hS95 a96 hE96 => st_val hE96 (y_assign hE96 rfl) rfl fun a97 hE97 => wpList_nil ?_
    clear hE88 hE89 hE90 hE91 hE92 hE93 hE94 hE96
    clear a88 a89 a90 a91 a92 a93 a94 a96
    refine then_normal ?_
    refine wp_seq (wp_region_lit ?_)
    refine st_val hE97 (y_move hE97 rfl) rfl fun a98 hE98 => st_val hE98 (y_move hE98 rfl) rfl fun a99 hE99 => st_val hE99 (y_move hE99 rfl) rfl fun a100 hE100 => ?_
    refine st_val hE100 (y_indexAddr (A := ⟨g12, 0, none⟩) hE100 (congrArg (fun A => some (Value.slice A p0.length cap0)) hA12) rfl (by omega) (by omega) sl45) rfl fun a101 hE101 => st_val hE101 (y_fieldAddr hE101 rfl fa90_8 rfl) rfl fun a102 hE102 => st_storeE (α := Tx) (k := 5) hE102 hS95 [.int .i64 s1_1, .int .i64 (IntKind.i64.wrap (s1_1 + 1)), .int .i64 (IntKind.i64.wrap (IntKind.i64.wrap (s1_1 + 1) + 1)), .int .i64 (IntKind.i64.wrap (IntKind.i64.wrap (IntKind.i64.wrap (s1_1 + 1) + 1) + 1)), .slice A12_4 ((nth y1_m0 i1).Calls.length) cp12_4, .slice A12_5 ((nth y1_m0 i1).Answers.length) cp12_5, .slice A12_6 ((nth y1_m0 i1).Touch.Reads.length) cp12_6, .slice A12_7 ((nth y1_m0 i1).Touch.Writes.length) cp12_7, .slice A12_8 ((nth y1_m0 i1).Marks.length) cp12_8, .int .i64 ((laws_markIntS ((nth y1_m0 i1).Marks) ((laws_markStringS ((nth y1_m0 i1).Touch.Writes) ((laws_markStringS ((nth y1_m0 i1).Touch.Reads) ((laws_markAnswerS ((nth y1_m0 i1).Answers) ((laws_markCallS ((nth y1_m0 i1).Calls) (IntKind.i64.wrap (IntKind.i64.wrap (IntKind.i64.wrap (IntKind.i64.wrap (s1_1 + 1) + 1) + 1) + 1))).2)).2)).2)).2)).2)] rfl rfl rfl (by rw [Int.toNat_natCast]; rfl) rfl (chkOne_size one3) rfl rfl rfl rfl fun w103 (hS103 : SH (Off [Ck.own (α := List Tx) [.slice A0 p0.length cap0] p0 F0] w) w w103 [Ck.own (α := List Int) [.slice A12_8 ((nth y1_m0 i1).Marks.length) cp12_8] ((laws_markIntS ((nth y1_m0 i1).Marks) ((laws_markStringS ((nth y1_m0 i1).Touch.Writes) ((laws_markStringS ((nth y1_m0 i1).Touch.Reads) ((laws_markAnswerS ((nth y1_m0 i1).Answers) ((laws_markCallS ((nth y1_m0 i1).Calls) (IntKind.i64.wrap (IntKind.i64.wrap (IntKind.i64.wrap (IntKind.i64.wrap (s1_1 + 1) + 1) + 1) + 1))).2)).2)).2)).2)).1) F95, Ck.own (α := List ByteArray) [.slice A12_7 ((nth y1_m0 i1).Touch.Writes.length) cp12_7] ((laws_markStringS ((nth y1_m0 i1).Touch.Writes) ((laws_markStringS ((nth y1_m0 i1).Touch.Reads) ((laws_markAnswerS ((nth y1_m0 i1).Answers) ((laws_markCallS ((nth y1_m0 i1).Calls) (IntKind.i64.wrap (IntKind.i64.wrap (IntKind.i64.wrap (IntKind.i64.wrap (s1_1 + 1) + 1) + 1) + 1))).2)).2)).2)).1) F86, Ck.own (α := List ByteArray) [.slice A12_6 ((nth y1_m0 i1).Touch.Reads.length) cp12_6] ((laws_markStringS ((nth y1_m0 i1).Touch.Reads) ((laws_markAnswerS ((nth y1_m0 i1).Answers) ((laws_markCallS ((nth y1_m0 i1).Calls) (IntKind.i64.wrap (IntKind.i64.wrap (IntKind.i64.wrap (IntKind.i64.wrap (s1_1 + 1) + 1) + 1) + 1))).2)).2)).1) F76, Ck.own (α := List Answer) [.slice A12_5 ((nth y1_m0 i1).Answers.length) cp12_5] ((laws_markAnswerS ((nth y1_m0 i1).Answers) ((laws_markCallS ((nth y1_m0 i1).Calls) (IntKind.i64.wrap (IntKind.i64.wrap (IntKind.i64.wrap (IntKind.i64.wrap (s1_1 + 1) + 1) + 1) + 1))).2)).1) F66, Ck.own (α := List Call) [.slice A12_4 ((nth y1_m0 i1).Calls.length) cp12_4] ((laws_markCallS ((nth y1_m0 i1).Calls) (IntKind.i64.wrap (IntKind.i64.wrap (IntKind.i64.wrap (IntKind.i64.wrap (s1_1 + 1) + 1) + 1) + 1))).1) F57, Ck.elem (α := Tx) g12 i1 cap0 [.int .i64 s1_1, .int .i64 (IntKind.i64.wrap (s1_1 + 1)), .int .i64 (IntKind.i64.wrap (IntKind.i64.wrap (s1_1 + 1) + 1)), .int .i64 (IntKind.i64.wrap (IntKind.i64.wrap (IntKind.i64.wrap (s1_1 + 1) + 1) + 1)), .slice A12_4 ((nth y1_m0 i1).Calls.length) cp12_4, .slice A12_5 ((nth y1_m0 i1).Answers.length) cp12_5, .slice A12_6 ((nth y1_m0 i1).Touch.Reads.length) cp12_6, .slice A12_7 ((nth y1_m0 i1).Touch.Writes.length) cp12_7, .slice A12_8 ((nth y1_m0 i1).Marks.length) cp12_8, .int .i64 ((laws_markIntS ((nth y1_m0 i1).Marks) ((laws_markStringS ((nth y1_m0 i1).Touch.Writes) ((laws_markStringS ((nth y1_m0 i1).Touch.Reads) ((laws_markAnswerS ((nth y1_m0 i1).Answers) ((laws_markCallS ((nth y1_m0 i1).Calls) (IntKind.i64.wrap (IntKind.i64.wrap (IntKind.i64.wrap (IntKind.i64.wrap (s1_1 + 1) + 1) + 1) + 1))).2)).2)).2)).2)).2)] y1_m0 Fo12]) a104 hE104 => wpList_nil ?_
    clear hE97 hE98 hE99 hE100 hE101 hE102
    clear a97 a98 a99 a100 a101 a102
    refine then_normal ?_
    refine wp_region_lit ?_
    refine st_val hE104 (y_move hE104 rfl) rfl fun a105 hE105 => st_val hE105 (y_add hE105 rfl rfl) rfl fun a106 hE106 => st_val hE106 (y_assign hE106 rfl) rfl fun a107 hE107 => wpList_nil ?_
    clear hE104 hE105 hE106
    clear a104 a105 a106
    refine blk_normal ?_
    refine then_normal ?_
    refine wp_region_lit ?_
    refine st_val hE107 (y_move hE107 rfl) rfl fun a108 hE108 => st_val hE108 (y_add_in hE108 rfl rfl (m := ((i1 + 1 : Nat) : Int)) (by omega) (by omega) (by omega)) rfl fun a109 hE109 => st_val hE109 (y_assign hE109 rfl) rfl fun a110 hE110 => wpList_nil ?_
    clear hE107 hE108 hE109
    clear a107 a108 a109
    have hJ111 := SH.joinP (L := [Ck.elem (α := Tx) g12 i1 cap0 [.int .i64 s1_1, .int .i64 (IntKind.i64.wrap (s1_1 + 1)), .int .i64 (IntKind.i64.wrap (IntKind.i64.wrap (s1_1 + 1) + 1)), .int .i64 (IntKind.i64.wrap (IntKind.i64.wrap (IntKind.i64.wrap (s1_1 + 1) + 1) + 1)), .slice A12_4 ((nth y1_m0 i1).Calls.length) cp12_4, .slice A12_5 ((nth y1_m0 i1).Answers.length) cp12_5, .slice A12_6 ((nth y1_m0 i1).Touch.Reads.length) cp12_6, .slice A12_7 ((nth y1_m0 i1).Touch.Writes.length) cp12_7, .slice A12_8 ((nth y1_m0 i1).Marks.length) cp12_8, .int .i64 ((laws_markIntS ((nth y1_m0 i1).Marks) ((laws_markStringS ((nth y1_m0 i1).Touch.Writes) ((laws_markStringS ((nth y1_m0 i1).Touch.Reads) ((laws_markAnswerS ((nth y1_m0 i1).Answers) ((laws_markCallS ((nth y1_m0 i1).Calls) (IntKind.i64.wrap (IntKind.i64.wrap (IntKind.i64.wrap (IntKind.i64.wrap (s1_1 + 1) + 1) + 1) + 1))).2)).2)).2)).2)).2)] y1_m0 Fo12]) (M := [Ck.own (α := List Call) [.slice A12_4 ((nth y1_m0 i1).Calls.length) cp12_4] ((laws_markCallS ((nth y1_m0 i1).Calls) (IntKind.i64.wrap (IntKind.i64.wrap (IntKind.i64.wrap (IntKind.i64.wrap (s1_1 + 1) + 1) + 1) + 1))).1) F57, Ck.own (α := List Answer) [.slice A12_5 ((nth y1_m0 i1).Answers.length) cp12_5] ((laws_markAnswerS ((nth y1_m0 i1).Answers) ((laws_markCallS ((nth y1_m0 i1).Calls) (IntKind.i64.wrap (IntKind.i64.wrap (IntKind.i64.wrap (IntKind.i64.wrap (s1_1 + 1) + 1) + 1) + 1))).2)).1) F66, Ck.own (α := List ByteArray) [.slice A12_6 ((nth y1_m0 i1).Touch.Reads.length) cp12_6] ((laws_markStringS ((nth y1_m0 i1).Touch.Reads) ((laws_markAnswerS ((nth y1_m0 i1).Answers) ((laws_markCallS ((nth y1_m0 i1).Calls) (IntKind.i64.wrap (IntKind.i64.wrap (IntKind.i64.wrap (IntKind.i64.wrap (s1_1 + 1) + 1) + 1) + 1))).2)).2)).1) F76, Ck.own (α := List ByteArray) [.slice A12_7 ((nth y1_m0 i1).Touch.Writes.length) cp12_7] ((laws_markStringS ((nth y1_m0 i1).Touch.Writes) ((laws_markStringS ((nth y1_m0 i1).Touch.Reads) ((laws_markAnswerS ((nth y1_m0 i1).Answers) ((laws_markCallS ((nth y1_m0 i1).Calls) (IntKind.i64.wrap (IntKind.i64.wrap (IntKind.i64.wrap (IntKind.i64.wrap (s1_1 + 1) + 1) + 1) + 1))).2)).2)).2)).1) F86, Ck.own (α := List Int) [.slice A12_8 ((nth y1_m0 i1).Marks.length) cp12_8] ((laws_markIntS ((nth y1_m0 i1).Marks) ((laws_markStringS ((nth y1_m0 i1).Touch.Writes) ((laws_markStringS ((nth y1_m0 i1).Touch.Reads) ((laws_markAnswerS ((nth y1_m0 i1).Answers) ((laws_markCallS ((nth y1_m0 i1).Calls) (IntKind.i64.wrap (IntKind.i64.wrap (IntKind.i64.wrap (IntKind.i64.wrap (s1_1 + 1) + 1) + 1) + 1))).2)).2)).2)).2)).1) F95]) (c := Ck.own (α := Tx) [.int .i64 s1_1, .int .i64 (IntKind.i64.wrap (s1_1 + 1)), .int .i64 (IntKind.i64.wrap (IntKind.i64.wrap (s1_1 + 1) + 1)), .int .i64 (IntKind.i64.wrap (IntKind.i64.wrap (IntKind.i64.wrap (s1_1 + 1) + 1) + 1)), .slice A12_4 ((nth y1_m0 i1).Calls.length) cp12_4, .slice A12_5 ((nth y1_m0 i1).Answers.length) cp12_5, .slice A12_6 ((nth y1_m0 i1).Touch.Reads.length) cp12_6, .slice A12_7 ((nth y1_m0 i1).Touch.Writes.length) cp12_7, .slice A12_8 ((nth y1_m0 i1).Marks.length) cp12_8, .int .i64 ((laws_markIntS ((nth y1_m0 i1).Marks) ((laws_markStringS ((nth y1_m0 i1).Touch.Writes) ((laws_markStringS ((nth y1_m0 i1).Touch.Reads) ((laws_markAnswerS ((nth y1_m0 i1).Answers) ((laws_markCallS ((nth y1_m0 i1).Calls) (IntKind.i64.wrap (IntKind.i64.wrap (IntKind.i64.wrap (IntKind.i64.wrap (s1_1 + 1) + 1) + 1) + 1))).2)).2)).2)).2)).2)] (Tx.mk s1_1 (IntKind.i64.wrap (s1_1 + 1)) (IntKind.i64.wrap (IntKind.i64.wrap (s1_1 + 1) + 1)) (IntKind.i64.wrap (IntKind.i64.wrap (IntKind.i64.wrap (s1_1 + 1) + 1) + 1)) ((laws_markCallS ((nth y1_m0 i1).Calls) (IntKind.i64.wrap (IntKind.i64.wrap (IntKind.i64.wrap (IntKind.i64.wrap (s1_1 + 1) + 1) + 1) + 1))).1) ((laws_markAnswerS ((nth y1_m0 i1).Answers) ((laws_markCallS ((nth y1_m0 i1).Calls) (IntKind.i64.wrap (IntKind.i64.wrap (IntKind.i64.wrap (IntKind.i64.wrap (s1_1 + 1) + 1) + 1) + 1))).2)).1) (Touch.mk ((laws_markStringS ((nth y1_m0 i1).Touch.Reads) ((laws_markAnswerS ((nth y1_m0 i1).Answers) ((laws_markCallS ((nth y1_m0 i1).Calls) (IntKind.i64.wrap (IntKind.i64.wrap (IntKind.i64.wrap (IntKind.i64.wrap (s1_1 + 1) + 1) + 1) + 1))).2)).2)).1) ((laws_markStringS ((nth y1_m0 i1).Touch.Writes) ((laws_markStringS ((nth y1_m0 i1).Touch.Reads) ((laws_markAnswerS ((nth y1_m0 i1).Answers) ((laws_markCallS ((nth y1_m0 i1).Calls) (IntKind.i64.wrap (IntKind.i64.wrap (IntKind.i64.wrap (IntKind.i64.wrap (s1_1 + 1) + 1) + 1) + 1))).2)).2)).2)).1)) ((laws_markIntS ((nth y1_m0 i1).Marks) ((laws_markStringS ((nth y1_m0 i1).Touch.Writes) ((laws_markStringS ((nth y1_m0 i1).Touch.Reads) ((laws_markAnswerS ((nth y1_m0 i1).Answers) ((laws_markCallS ((nth y1_m0 i1).Calls) (IntKind.i64.wrap (IntKind.i64.wrap (IntKind.i64.wrap (IntKind.i64.wrap (s1_1 + 1) + 1) + 1) + 1))).2)).2)).2)).2)).1) ((laws_markIntS ((nth y1_m0 i1).Marks) ((laws_markStringS ((nth y1_m0 i1).Touch.Writes) ((laws_markStringS ((nth y1_m0 i1).Touch.Reads) ((laws_markAnswerS ((nth y1_m0 i1).Answers) ((laws_markCallS ((nth y1_m0 i1).Calls) (IntKind.i64.wrap (IntKind.i64.wrap (IntKind.i64.wrap (IntKind.i64.wrap (s1_1 + 1) + 1) + 1) + 1))).2)).2)).2)).2)).2)) (F57 ++ (F66 ++ ((F76 ++ F86) ++ (F95 ++ []))))) (hS103.pick [4, 3, 2, 1, 0, 5] (by decide) rfl) (List.Perm.of_eq (by simp only [Ck.own, List.flatMap_cons, List.flatMap_nil, List.append_nil, List.append_assoc])) (ok_st (Tx_own (x := (Tx.mk s1_1 (IntKind.i64.wrap (s1_1 + 1)) (IntKind.i64.wrap (IntKind.i64.wrap (s1_1 + 1) + 1)) (IntKind.i64.wrap (IntKind.i64.wrap (IntKind.i64.wrap (s1_1 + 1) + 1) + 1)) ((laws_markCallS ((nth y1_m0 i1).Calls) (IntKind.i64.wrap (IntKind.i64.wrap (IntKind.i64.wrap (IntKind.i64.wrap (s1_1 + 1) + 1) + 1) + 1))).1) ((laws_markAnswerS ((nth y1_m0 i1).Answers) ((laws_markCallS ((nth y1_m0 i1).Calls) (IntKind.i64.wrap (IntKind.i64.wrap (IntKind.i64.wrap (IntKind.i64.wrap (s1_1 + 1) + 1) + 1) + 1))).2)).1) (Touch.mk ((laws_markStringS ((nth y1_m0 i1).Touch.Reads) ((laws_markAnswerS ((nth y1_m0 i1).Answers) ((laws_markCallS ((nth y1_m0 i1).Calls) (IntKind.i64.wrap (IntKind.i64.wrap (IntKind.i64.wrap (IntKind.i64.wrap (s1_1 + 1) + 1) + 1) + 1))).2)).2)).1) ((laws_markStringS ((nth y1_m0 i1).Touch.Writes) ((laws_markStringS ((nth y1_m0 i1).Touch.Reads) ((laws_markAnswerS ((nth y1_m0 i1).Answers) ((laws_markCallS ((nth y1_m0 i1).Calls) (IntKind.i64.wrap (IntKind.i64.wrap (IntKind.i64.wrap (IntKind.i64.wrap (s1_1 + 1) + 1) + 1) + 1))).2)).2)).2)).1)) ((laws_markIntS ((nth y1_m0 i1).Marks) ((laws_markStringS ((nth y1_m0 i1).Touch.Writes) ((laws_markStringS ((nth y1_m0 i1).Touch.Reads) ((laws_markAnswerS ((nth y1_m0 i1).Answers) ((laws_markCallS ((nth y1_m0 i1).Calls) (IntKind.i64.wrap (IntKind.i64.wrap (IntKind.i64.wrap (IntKind.i64.wrap (s1_1 + 1) + 1) + 1) + 1))).2)).2)).2)).2)).1) ((laws_markIntS ((nth y1_m0 i1).Marks) ((laws_markStringS ((nth y1_m0 i1).Touch.Writes) ((laws_markStringS ((nth y1_m0 i1).Touch.Reads) ((laws_markAnswerS ((nth y1_m0 i1).Answers) ((laws_markCallS ((nth y1_m0 i1).Calls) (IntKind.i64.wrap (IntKind.i64.wrap (IntKind.i64.wrap (IntKind.i64.wrap (s1_1 + 1) + 1) + 1) + 1))).2)).2)).2)).2)).2))) hgis1_1 (I64_wrap _) (I64_wrap _) (I64_wrap _) (hS103.slO (k := 4) rfl) (hS103.slO (k := 3) rfl) (hS103.slO (k := 2) rfl) (hS103.slO (k := 1) rfl) (hS103.slO (k := 0) rfl) hR95))
    obtain ⟨F111, hS111⟩ := SH.unfocus (α := Tx) (L := []) hJ111 hA12 hn12 (by omega)
    refine then_normal ⟨fu1, Nat.lt_succ_self _, (i1 + 1), IntKind.i64.wrap ((laws_markIntS ((nth y1_m0 i1).Marks) ((laws_markStringS ((nth y1_m0 i1).Touch.Writes) ((laws_markStringS ((nth y1_m0 i1).Touch.Reads) ((laws_markAnswerS ((nth y1_m0 i1).Answers) ((laws_markCallS ((nth y1_m0 i1).Calls) (IntKind.i64.wrap (IntKind.i64.wrap (IntKind.i64.wrap (IntKind.i64.wrap (s1_1 + 1) + 1) + 1) + 1))).2)).2)).2)).2)).2 + 1), (y1_m0.set i1 (Tx.mk s1_1 (IntKind.i64.wrap (s1_1 + 1)) (IntKind.i64.wrap (IntKind.i64.wrap (s1_1 + 1) + 1)) (IntKind.i64.wrap (IntKind.i64.wrap (IntKind.i64.wrap (s1_1 + 1) + 1) + 1)) ((laws_markCallS ((nth y1_m0 i1).Calls) (IntKind.i64.wrap (IntKind.i64.wrap (IntKind.i64.wrap (IntKind.i64.wrap (s1_1 + 1) + 1) + 1) + 1))).1) ((laws_markAnswerS ((nth y1_m0 i1).Answers) ((laws_markCallS ((nth y1_m0 i1).Calls) (IntKind.i64.wrap (IntKind.i64.wrap (IntKind.i64.wrap (IntKind.i64.wrap (s1_1 + 1) + 1) + 1) + 1))).2)).1) (Touch.mk ((laws_markStringS ((nth y1_m0 i1).Touch.Reads) ((laws_markAnswerS ((nth y1_m0 i1).Answers) ((laws_markCallS ((nth y1_m0 i1).Calls) (IntKind.i64.wrap (IntKind.i64.wrap (IntKind.i64.wrap (IntKind.i64.wrap (s1_1 + 1) + 1) + 1) + 1))).2)).2)).1) ((laws_markStringS ((nth y1_m0 i1).Touch.Writes) ((laws_markStringS ((nth y1_m0 i1).Touch.Reads) ((laws_markAnswerS ((nth y1_m0 i1).Answers) ((laws_markCallS ((nth y1_m0 i1).Calls) (IntKind.i64.wrap (IntKind.i64.wrap (IntKind.i64.wrap (IntKind.i64.wrap (s1_1 + 1) + 1) + 1) + 1))).2)).2)).2)).1)) ((laws_markIntS ((nth y1_m0 i1).Marks) ((laws_markStringS ((nth y1_m0 i1).Touch.Writes) ((laws_markStringS ((nth y1_m0 i1).Touch.Reads) ((laws_markAnswerS ((nth y1_m0 i1).Answers) ((laws_markCallS ((nth y1_m0 i1).Calls) (IntKind.i64.wrap (IntKind.i64.wrap (IntKind.i64.wrap (IntKind.i64.wrap (s1_1 + 1) + 1) + 1) + 1))).2)).2)).2)).2)).1) ((laws_markIntS ((nth y1_m0 i1).Marks) ((laws_markStringS ((nth y1_m0 i1).Touch.Writes) ((laws_markStringS ((nth y1_m0 i1).Touch.Reads) ((laws_markAnswerS ((nth y1_m0 i1).Answers) ((laws_markCallS ((nth y1_m0 i1).Calls) (IntKind.i64.wrap (IntKind.i64.wrap (IntKind.i64.wrap (IntKind.i64.wrap (s1_1 + 1) + 1) + 1) + 1))).2)).2)).2)).2)).2))), F111, by omega, by omega, .inl (by omega), (I64_wrap _), hM, hE110.weaken ⟨rfl, rfl, rfl, trivial⟩, hS111⟩
  ·
    have hge1 : ¬ i1 < p0.length := by have := of_decide_eq_false hb8; omega
    obtain rfl : fu1 = 0 := by omega
    have hM := hM.trans (laws_markTxS_l1.eq_1 _ _ _ _ _)
    refine wp_exit ?_
    refine then_exit ?_
    refine then_exit ?_
    refine blk_exit ?_
    refine then_normal ?_
    refine wp_seq (wp_region_lit ?_)
    refine st_val hE7 (y_move hE7 rfl) rfl fun a112 hE112 => st_val hE112 (y_assign hE112 rfl) rfl fun a113 hE113 => wpList_nil ?_
    clear hE7 hE112
    clear a7 a112
    refine then_normal ?_
    refine wp_ret ?_
    refine fin1 hE113 rfl rfl ?_
    rw [hM]
    exact ⟨rfl, hgis1_1, Fy1_m0, hS3⟩

end Go.Proofs.YtmjjcihoobnbgaaDoor.Fw
