/- Contracts: each call returns what the model says. By program (wip/gen). -/
import Derived.Test.YtpfnofdaaekglaaDoorM0
namespace Go.Proofs.YtpfnofdaaekglaaDoor.Fw
open Go.RowKit
set_option linter.unusedVariables false
set_option linter.unusedSimpArgs false

theorem fa127_0 : chkField Tryd.prog 127 0 0 = true := by kernel_rfl
theorem fa127_1 : chkField Tryd.prog 127 1 1 = true := by kernel_rfl
theorem fa129_0 : chkField Tryd.prog 129 0 0 = true := by kernel_rfl
theorem fa129_1 : chkField Tryd.prog 129 1 1 = true := by kernel_rfl
theorem fa129_2 : chkField Tryd.prog 129 2 2 = true := by kernel_rfl
theorem fa29_0 : chkField Tryd.prog 29 0 0 = true := by kernel_rfl
theorem fa29_1 : chkField Tryd.prog 29 1 1 = true := by kernel_rfl
theorem fa29_2 : chkField Tryd.prog 29 2 2 = true := by kernel_rfl
theorem fa29_3 : chkField Tryd.prog 29 3 3 = true := by kernel_rfl
theorem fa29_4 : chkField Tryd.prog 29 4 4 = true := by kernel_rfl
theorem fa29_5 : chkField Tryd.prog 29 5 5 = true := by kernel_rfl
theorem fa39_0 : chkField Tryd.prog 39 0 0 = true := by kernel_rfl
theorem fa39_1 : chkField Tryd.prog 39 1 1 = true := by kernel_rfl
theorem fa39_2 : chkField Tryd.prog 39 2 2 = true := by kernel_rfl
theorem fa39_3 : chkField Tryd.prog 39 3 3 = true := by kernel_rfl
theorem fa39_4 : chkField Tryd.prog 39 4 4 = true := by kernel_rfl
theorem fa39_5 : chkField Tryd.prog 39 5 5 = true := by kernel_rfl
theorem fa39_6 : chkField Tryd.prog 39 6 6 = true := by kernel_rfl
theorem fa39_7 : chkField Tryd.prog 39 7 7 = true := by kernel_rfl
theorem fb69 : Tryd.f69.body.isNone = false := rfl
theorem fb70 : Tryd.f70.body.isNone = false := rfl
theorem fb71 : Tryd.f71.body.isNone = false := rfl
theorem fn69 : (Tryd.f69.name == "runtime.NumGoroutine") = false := by kernel_rfl
theorem fn70 : (Tryd.f70.name == "runtime.NumGoroutine") = false := by kernel_rfl
theorem fn71 : (Tryd.f71.name == "runtime.NumGoroutine") = false := by kernel_rfl
theorem mixed : Tryd.prog.follows .mixedOrders = true := by kernel_rfl
theorem one3 : chkOne Tryd.prog 3 = true := by kernel_rfl
theorem one36 : chkOne Tryd.prog 36 = true := by kernel_rfl
theorem one37 : chkOne Tryd.prog 37 = true := by kernel_rfl
theorem one4 : chkOne Tryd.prog 4 = true := by kernel_rfl
theorem one9 : chkOne Tryd.prog 9 = true := by kernel_rfl
theorem sl36 : chkSlice Tryd.prog 36 127 7 80 = true := by kernel_rfl
theorem sl37 : chkSlice Tryd.prog 37 129 3 32 = true := by kernel_rfl
theorem sl57 : chkSlice Tryd.prog 57 9 1 16 = true := by kernel_rfl
theorem sl59 : chkSlice Tryd.prog 59 39 8 96 = true := by kernel_rfl

/- F34 loop.example/g00974/laws.markStringS -/
def laws_markStringS_l1 (p0 : List ByteArray) (p1 : Int) : Nat → Nat → Int → List ByteArray → List ByteArray × Int
  | 0, i1, s1_1, y1_m0 => (y1_m0, s1_1)
  | fu1 + 1, i1, s1_1, y1_m0 => laws_markStringS_l1 p0 p1 fu1 (i1 + 1) (IntKind.i64.wrap (s1_1 + 1)) (y1_m0.set i1 (laws_markText s1_1))
def laws_markStringS (p0 : List ByteArray) (p1 : Int) : List ByteArray × Int := laws_markStringS_l1 p0 p1 (p0.length - 0) 0 p1 p0
theorem c_laws_markStringS {v0 : Value} (p0 : List ByteArray) {F0 : List Nat} (p1 : Int) {w : World} (hMu0 : SH (Off [Ck.own (α := List ByteArray) [v0] p0 F0] w) w w [Ck.own (α := List ByteArray) [v0] p0 F0]) (hi1 : I64 p1) :
    Calls Tryd.prog 34 [v0, .int .i64 p1].toArray w (fun e w' => e = .returned (.int .i64 (laws_markStringS p0 p1).2) ∧ I64 (laws_markStringS p0 p1).2 ∧ ∃ F', SH (Off [Ck.own (α := List ByteArray) [v0] p0 F0] w) w w' [Ck.own (α := List ByteArray) [v0] (laws_markStringS p0 p1).1 F']) := by
  obtain ⟨A0, cap0, rfl, hx0⟩ := (hMu0.slO (k := 0) rfl).form
  refine enter Tryd.func34 rfl Tryd.ntmps34 (Nat.le_of_ble_eq_true rfl) ?_
  intro a0 hE0
  have hS0 := hMu0
  have hM := laws_markStringS.eq_1 p0 p1
  have hij1 : -9223372036854775808 ≤ p1 ∧ p1 ≤ 9223372036854775807 := hi1
  refine wp_seq (wp_region_lit ?_)
  refine st_val hE0 (y_assign hE0 rfl) rfl fun a1 hE1 => wpList_nil ?_
  clear hE0
  clear a0
  refine then_normal ?_
  refine wp_seq (wp_seq (wp_region_lit ?_))
  refine st_val hE1 (y_assign hE1 rfl) rfl fun a2 hE2 => wpList_nil ?_
  clear hE1
  clear a1
  refine then_normal ?_
  refine wp_block (wp_loop_ghost (fun fu1 a w2 => ∃ (i1 : Nat) (s1_1 : Int) (y1_m0 : List ByteArray) (Fy1_m0 : List Nat), 0 ≤ i1 ∧ fu1 = p0.length - i1 ∧ (i1 ≤ p0.length ∨ i1 = 0) ∧ I64 s1_1 ∧ laws_markStringS p0 p1 = laws_markStringS_l1 p0 p1 fu1 i1 s1_1 y1_m0 ∧ Env 20 [(0, .slice A0 p0.length cap0), (1, .int .i64 s1_1), (5, .int .i64 (i1 : Int))] a ∧ SH (Off [Ck.own (α := List ByteArray) [.slice A0 p0.length cap0] p0 F0] w) w w2 [Ck.own (α := List ByteArray) [.slice A0 p0.length cap0] y1_m0 Fy1_m0]) (p0.length - 0) ⟨0, p1, p0, F0, Nat.le_refl _, rfl, .inr rfl, hi1, hM, hE2.weaken ⟨rfl, rfl, rfl, trivial⟩, hS0⟩ ?_)
  clear hM hE2
  rintro fu1 a3 w3 ⟨i1, s1_1, y1_m0, Fy1_m0, hi1, hfu1, hup1, hgis1_1, hM, hE3, hS3⟩
  have hlry1_m0 := hS3.lenrow (k := 0) rfl
  refine wp_seq (wp_seq (wp_region_lit ?_))
  refine st_val hE3 (y_move hE3 rfl) rfl fun a4 hE4 => st_val hE4 (y_move hE4 rfl) rfl fun a5 hE5 => st_val hE5 (y_len_slice hE5 rfl sl57) rfl fun a6 hE6 => st_val hE6 (y_lss hE6 rfl rfl) rfl fun a7 hE7 => wpList_nil ?_
  clear hE3 hE4 hE5 hE6
  clear a3 a4 a5 a6
  refine then_normal ?_
  refine cond_split hE7 rfl (fun hb8 => ?_) (fun hb8 => ?_)
  ·
    have hlt1 : i1 < p0.length := by have := of_decide_eq_true hb8; omega
    obtain ⟨fu1, rfl⟩ : ∃ m, fu1 = m + 1 := ⟨fu1 - 1, by omega⟩
    have hM := hM.trans (laws_markStringS_l1.eq_2 _ _ _ _ _ _)
    refine wp_skip ?_
    refine then_normal ?_
    refine wp_seq (wp_block (wp_seq (wp_region_lit ?_)))
    refine st_val hE7 (y_move hE7 rfl) rfl fun a9 hE9 => st_val hE9 (y_move hE9 rfl) rfl fun a10 hE10 => st_val hE10 (y_move hE10 rfl) rfl fun a11 hE11 => st_callF hE11 hS3 Tryd.func71 fb71 fn71 (c_laws_markText s1_1 hgis1_1) rfl rfl fun w12 hS12 a13 hE13 => ?_
    clear hE7 hE9 hE10 hE11
    clear a7 a9 a10 a11
    have hlr14 := hS12.lenrow (k := 0) rfl
    obtain ⟨g14, ce14, Fo14, G14, hA14, hn14, hF14⟩ := SH.focus (L := []) hS12 (i := i1) (by omega)
    obtain ⟨⟨rfl, hg14⟩, rfl⟩ := (show Dat.own w12 ce14 (nth y1_m0 i1) G14 from hF14.get (k := 0) rfl)
    have hS15 := hF14.drop (k := 1)
    refine st_val hE13 (y_indexAddr (A := ⟨g14, 0, none⟩) hE13 (congrArg (fun A => some (Value.slice A p0.length cap0)) hA14) rfl (by omega) (by omega) sl57) rfl fun a16 hE16 => st_storeE (α := ByteArray) (k := 0) hE16 hS15 [.string (laws_markText s1_1)] rfl rfl rfl (by rw [Int.toNat_natCast]; rfl) rfl (chkOne_size one9) rfl rfl rfl rfl fun w17 (hS17 : SH (Off [Ck.own (α := List ByteArray) [.slice A0 p0.length cap0] p0 F0] w) w w17 [Ck.elem (α := ByteArray) g14 i1 cap0 [.string (laws_markText s1_1)] y1_m0 Fo14]) a18 hE18 => wpList_nil ?_
    clear hE13 hE16
    clear a13 a16
    refine then_normal ?_
    refine wp_region_lit ?_
    refine st_val hE18 (y_move hE18 rfl) rfl fun a19 hE19 => st_val hE19 (y_add hE19 rfl rfl) rfl fun a20 hE20 => st_val hE20 (y_assign hE20 rfl) rfl fun a21 hE21 => wpList_nil ?_
    clear hE18 hE19 hE20
    clear a18 a19 a20
    refine blk_normal ?_
    refine then_normal ?_
    refine wp_region_lit ?_
    refine st_val hE21 (y_move hE21 rfl) rfl fun a22 hE22 => st_val hE22 (y_add_in hE22 rfl rfl (m := ((i1 + 1 : Nat) : Int)) (by omega) (by omega) (by omega)) rfl fun a23 hE23 => st_val hE23 (y_assign hE23 rfl) rfl fun a24 hE24 => wpList_nil ?_
    clear hE21 hE22 hE23
    clear a21 a22 a23
    have hJ25 := SH.flat (L := [Ck.elem (α := ByteArray) g14 i1 cap0 [.string (laws_markText s1_1)] y1_m0 Fo14]) (α := ByteArray) (cs := [.string (laws_markText s1_1)]) (x := (laws_markText s1_1)) hS17 (fun _ => ⟨⟨rfl, (laws_markText_good (by first | assumption | exact I64_wrap _))⟩, rfl⟩)
    obtain ⟨F25, hS25⟩ := SH.unfocus (α := ByteArray) (L := []) hJ25 hA14 hn14 (by omega)
    refine then_normal ⟨fu1, Nat.lt_succ_self _, (i1 + 1), IntKind.i64.wrap (s1_1 + 1), (y1_m0.set i1 (laws_markText s1_1)), F25, by omega, by omega, .inl (by omega), (I64_wrap _), hM, hE24.weaken ⟨rfl, rfl, rfl, trivial⟩, hS25⟩
  ·
    have hge1 : ¬ i1 < p0.length := by have := of_decide_eq_false hb8; omega
    obtain rfl : fu1 = 0 := by omega
    have hM := hM.trans (laws_markStringS_l1.eq_1 _ _ _ _ _)
    refine wp_exit ?_
    refine then_exit ?_
    refine then_exit ?_
    refine blk_exit ?_
    refine then_normal ?_
    refine wp_seq (wp_region_lit ?_)
    refine st_val hE7 (y_move hE7 rfl) rfl fun a26 hE26 => st_val hE26 (y_assign hE26 rfl) rfl fun a27 hE27 => wpList_nil ?_
    clear hE7 hE26
    clear a7 a26
    refine then_normal ?_
    refine wp_ret ?_
    refine fin1 hE27 rfl rfl ?_
    rw [hM]
    exact ⟨rfl, hgis1_1, Fy1_m0, hS3⟩

/- F35 loop.example/g00974/laws.heldStringS -/
def laws_heldStringS_l1 (p0 : List ByteArray) (p1 : Int) : Nat → Nat → Int → Int
  | 0, i1, s1_1 => s1_1
  | fu1 + 1, i1, s1_1 => (if (!decide ((nth p0 i1) = (laws_markText s1_1))) = true then (-1) else laws_heldStringS_l1 p0 p1 fu1 (i1 + 1) (IntKind.i64.wrap (s1_1 + 1)))
def laws_heldStringS (p0 : List ByteArray) (p1 : Int) : Int := laws_heldStringS_l1 p0 p1 (p0.length - 0) 0 p1
theorem c_laws_heldStringS {v0 : Value} (p0 : List ByteArray) (p1 : Int) {w : World} (hp0 : SlR (Old w) w v0 p0) (hi1 : I64 p1) :
    Calls Tryd.prog 35 [v0, .int .i64 p1].toArray w (fun e w' => e = .returned (.int .i64 (laws_heldStringS p0 p1)) ∧ Below w.heap.size w w') := by
  obtain ⟨A0, cap0, rfl, hx0⟩ := hp0.form
  refine enter Tryd.func35 rfl Tryd.ntmps35 (Nat.le_of_ble_eq_true rfl) ?_
  intro a0 hE0
  have hS0 := SH.start w
  have hM := laws_heldStringS.eq_1 p0 p1
  have hij1 : -9223372036854775808 ≤ p1 ∧ p1 ≤ 9223372036854775807 := hi1
  refine wp_seq (wp_region_lit ?_)
  refine st_val hE0 (y_assign hE0 rfl) rfl fun a1 hE1 => wpList_nil ?_
  clear hE0
  clear a0
  refine then_normal ?_
  refine wp_seq (wp_seq (wp_region_lit ?_))
  refine st_val hE1 (y_assign hE1 rfl) rfl fun a2 hE2 => wpList_nil ?_
  clear hE1
  clear a1
  refine then_normal ?_
  refine wp_block (wp_loop_ghost (fun fu1 a w2 => ∃ (i1 : Nat) (s1_1 : Int), 0 ≤ i1 ∧ fu1 = p0.length - i1 ∧ I64 s1_1 ∧ laws_heldStringS p0 p1 = laws_heldStringS_l1 p0 p1 fu1 i1 s1_1 ∧ Env 22 [(0, .slice A0 p0.length cap0), (1, .int .i64 s1_1), (5, .int .i64 (i1 : Int))] a ∧ SH (Old w) w w2 []) (p0.length - 0) ⟨0, p1, Nat.le_refl _, rfl, hi1, hM, hE2.weaken ⟨rfl, rfl, rfl, trivial⟩, hS0⟩ ?_)
  clear hM hE2
  rintro fu1 a3 w3 ⟨i1, s1_1, hi1, hfu1, hgis1_1, hM, hE3, hS3⟩
  refine wp_seq (wp_seq (wp_region_lit ?_))
  refine st_val hE3 (y_move hE3 rfl) rfl fun a4 hE4 => st_val hE4 (y_move hE4 rfl) rfl fun a5 hE5 => st_val hE5 (y_len_slice hE5 rfl sl57) rfl fun a6 hE6 => st_val hE6 (y_lss hE6 rfl rfl) rfl fun a7 hE7 => wpList_nil ?_
  clear hE3 hE4 hE5 hE6
  clear a3 a4 a5 a6
  refine then_normal ?_
  refine cond_split hE7 rfl (fun hb8 => ?_) (fun hb8 => ?_)
  ·
    have hlt1 : i1 < p0.length := by have := of_decide_eq_true hb8; omega
    obtain ⟨fu1, rfl⟩ : ∃ m, fu1 = m + 1 := ⟨fu1 - 1, by omega⟩
    have hM := hM.trans (laws_heldStringS_l1.eq_2 _ _ _ _ _)
    refine wp_skip ?_
    refine then_normal ?_
    refine wp_seq (wp_block (wp_seq (wp_seq (reg_quiet mixed (by kernel_rfl) hS3 ?_))))
    refine q_val hE7 (fun w3 hS3 => y_move hE7 rfl) rfl fun a9 hE9 => q_val hE9 (fun w3 hS3 => y_move hE9 rfl) rfl fun a10 hE10 => q_index hE10 hp0 rfl rfl rfl (by omega) sl57 rfl fun ad11 cs11 hr11 hc11 hl11 a12 hE12 => ?_
    obtain ⟨rfl, hg11⟩ := hr11
    refine q_val hE12 (fun w3 hS3 => y_load_one hE12 rfl (hS3.upc hc11 hl11) rfl one9) rfl fun a13 hE13 => q_val hE13 (fun w3 hS3 => y_move hE13 rfl) rfl fun a14 hE14 => q_call hE14 Tryd.func71 fb71 fn71 (fun w3 hS3 => (c_laws_markText s1_1 hgis1_1)) rfl rfl fun a15 hE15 => q_val hE15 (fun w3 hS3 => y_neq_string hE15 rfl rfl) rfl fun a16 hE16 => ?_
    refine q_nil fun w17 hS17 => ?_
    clear hE7 hE9 hE10 hE12 hE13 hE14 hE15
    clear a7 a9 a10 a12 a13 a14 a15
    refine then_normal ?_
    refine cond_split hE16 rfl (fun hb18 => ?_) (fun hb18 => ?_)
    ·
      have hM := hM.trans (if_t hb18)
      refine wp_seq (wp_region_lit ?_)
      refine st_val hE16 (y_assign hE16 rfl) rfl fun a19 hE19 => wpList_nil ?_
      clear hE16
      clear a16
      refine then_normal ?_
      refine wp_ret ?_
      refine then_ret ?_
      refine blk_ret ?_
      refine then_ret ?_
      refine then_ret ?_
      refine blk_ret ?_
      refine then_ret ?_
      exact fin1 hE19 rfl rfl ⟨by rw [hM], hS17.below⟩
    ·
      have hM := hM.trans (if_f hb18)
      refine wp_skip ?_
      refine then_normal ?_
      refine wp_region_lit ?_
      refine st_val hE16 (y_move hE16 rfl) rfl fun a20 hE20 => st_val hE20 (y_add hE20 rfl rfl) rfl fun a21 hE21 => st_val hE21 (y_assign hE21 rfl) rfl fun a22 hE22 => wpList_nil ?_
      clear hE16 hE20 hE21
      clear a16 a20 a21
      refine blk_normal ?_
      refine then_normal ?_
      refine wp_region_lit ?_
      refine st_val hE22 (y_move hE22 rfl) rfl fun a23 hE23 => st_val hE23 (y_add_in hE23 rfl rfl (m := ((i1 + 1 : Nat) : Int)) (by omega) (by omega) (by omega)) rfl fun a24 hE24 => st_val hE24 (y_assign hE24 rfl) rfl fun a25 hE25 => wpList_nil ?_
      clear hE22 hE23 hE24
      clear a22 a23 a24
      refine then_normal ⟨fu1, Nat.lt_succ_self _, (i1 + 1), IntKind.i64.wrap (s1_1 + 1), by omega, by omega, (I64_wrap _), hM, hE25.weaken ⟨rfl, rfl, rfl, trivial⟩, hS17⟩
  ·
    have hge1 : ¬ i1 < p0.length := by have := of_decide_eq_false hb8; omega
    obtain rfl : fu1 = 0 := by omega
    have hM := hM.trans (laws_heldStringS_l1.eq_1 _ _ _ _)
    refine wp_exit ?_
    refine then_exit ?_
    refine then_exit ?_
    refine blk_exit ?_
    refine then_normal ?_
    refine wp_seq (wp_region_lit ?_)
    refine st_val hE7 (y_move hE7 rfl) rfl fun a26 hE26 => st_val hE26 (y_assign hE26 rfl) rfl fun a27 hE27 => wpList_nil ?_
    clear hE7 hE26
    clear a7 a26
    refine then_normal ?_
    refine wp_ret ?_
    exact fin1 hE27 rfl rfl ⟨by rw [hM], hS3.below⟩

/- F31 loop.example/g00974/laws.eqStringS -/
def laws_eqStringS_l1 (p0 : List ByteArray) (p1 : List ByteArray) : Nat → Nat → Bool
  | 0, i1 => true
  | fu1 + 1, i1 => (if (!decide ((nth p0 i1) = (nth p1 i1))) = true then false else laws_eqStringS_l1 p0 p1 fu1 (i1 + 1) )
def laws_eqStringS (p0 : List ByteArray) (p1 : List ByteArray) : Bool := (if (!decide ((p0.length : Int) = (p1.length : Int))) = true then false else laws_eqStringS_l1 p0 p1 (p0.length - 0) 0 )
theorem c_laws_eqStringS {v0 : Value} (p0 : List ByteArray) {v1 : Value} (p1 : List ByteArray) {w : World} (hp0 : SlR (Old w) w v0 p0) (hp1 : SlR (Old w) w v1 p1) :
    Calls Tryd.prog 31 [v0, v1].toArray w (fun e w' => e = .returned (.bool (laws_eqStringS p0 p1)) ∧ Below w.heap.size w w') := by
  obtain ⟨A0, cap0, rfl, hx0⟩ := hp0.form
  obtain ⟨A1, cap1, rfl, hx1⟩ := hp1.form
  refine enter Tryd.func31 rfl Tryd.ntmps31 (Nat.le_of_ble_eq_true rfl) ?_
  intro a0 hE0
  have hS0 := SH.start w
  have hM := laws_eqStringS.eq_1 p0 p1
  refine wp_seq (wp_region_lit ?_)
  refine st_val hE0 (y_assign hE0 rfl) rfl fun a1 hE1 => wpList_nil ?_
  clear hE0
  clear a0
  refine then_normal ?_
  refine wp_seq (wp_seq (wp_region_lit ?_))
  refine st_val hE1 (y_move hE1 rfl) rfl fun a2 hE2 => st_val hE2 (y_len_slice hE2 rfl sl57) rfl fun a3 hE3 => st_val hE3 (y_move hE3 rfl) rfl fun a4 hE4 => st_val hE4 (y_len_slice hE4 rfl sl57) rfl fun a5 hE5 => st_val hE5 (y_neq hE5 rfl rfl) rfl fun a6 hE6 => wpList_nil ?_
  clear hE1 hE2 hE3 hE4 hE5
  clear a1 a2 a3 a4 a5
  refine then_normal ?_
  refine cond_split hE6 rfl (fun hb7 => ?_) (fun hb7 => ?_)
  ·
    have hM := hM.trans (if_t hb7)
    have hb7f : ¬ ((p0.length : Int) = (p1.length : Int)) := by simpa using hb7
    refine wp_seq (wp_region_lit ?_)
    refine st_val hE6 (y_assign hE6 rfl) rfl fun a8 hE8 => wpList_nil ?_
    clear hE6
    clear a6
    refine then_normal ?_
    refine wp_ret ?_
    refine then_ret ?_
    exact fin1 hE8 rfl rfl ⟨by rw [hM], hS0.below⟩
  ·
    have hM := hM.trans (if_f hb7)
    have hb7f : (p0.length : Int) = (p1.length : Int) := by simpa using hb7
    refine wp_skip ?_
    refine then_normal ?_
    refine wp_seq (wp_seq (wp_region_lit ?_))
    refine st_val hE6 (y_assign hE6 rfl) rfl fun a9 hE9 => wpList_nil ?_
    clear hE6
    clear a6
    refine then_normal ?_
    refine wp_block (wp_loop_ghost (fun fu1 a w2 => ∃ (i1 : Nat), 0 ≤ i1 ∧ fu1 = p0.length - i1 ∧ laws_eqStringS p0 p1 = laws_eqStringS_l1 p0 p1 fu1 i1  ∧ Env 26 [(0, .slice A0 p0.length cap0), (1, .slice A1 p1.length cap1), (5, .int .i64 (i1 : Int))] a ∧ SH (Old w) w w2 []) (p0.length - 0) ⟨0, Nat.le_refl _, rfl, hM, hE9.weaken ⟨rfl, rfl, rfl, trivial⟩, hS0⟩ ?_)
    clear hM hE9
    rintro fu1 a10 w10 ⟨i1, hi1, hfu1, hM, hE10, hS10⟩
    refine wp_seq (wp_seq (wp_region_lit ?_))
    refine st_val hE10 (y_move hE10 rfl) rfl fun a11 hE11 => st_val hE11 (y_move hE11 rfl) rfl fun a12 hE12 => st_val hE12 (y_len_slice hE12 rfl sl57) rfl fun a13 hE13 => st_val hE13 (y_lss hE13 rfl rfl) rfl fun a14 hE14 => wpList_nil ?_
    clear hE10 hE11 hE12 hE13
    clear a10 a11 a12 a13
    refine then_normal ?_
    refine cond_split hE14 rfl (fun hb15 => ?_) (fun hb15 => ?_)
    ·
      have hlt1 : i1 < p0.length := by have := of_decide_eq_true hb15; omega
      obtain ⟨fu1, rfl⟩ : ∃ m, fu1 = m + 1 := ⟨fu1 - 1, by omega⟩
      have hM := hM.trans (laws_eqStringS_l1.eq_2 _ _ _ _)
      refine wp_skip ?_
      refine then_normal ?_
      refine wp_seq (wp_block (wp_seq (reg_quiet mixed (by kernel_rfl) hS10 ?_)))
      refine q_val hE14 (fun w10 hS10 => y_move hE14 rfl) rfl fun a16 hE16 => q_val hE16 (fun w10 hS10 => y_move hE16 rfl) rfl fun a17 hE17 => q_index hE17 hp0 rfl rfl rfl (by omega) sl57 rfl fun ad18 cs18 hr18 hc18 hl18 a19 hE19 => ?_
      obtain ⟨rfl, hg18⟩ := hr18
      refine q_val hE19 (fun w10 hS10 => y_load_one hE19 rfl (hS10.upc hc18 hl18) rfl one9) rfl fun a20 hE20 => q_val hE20 (fun w10 hS10 => y_move hE20 rfl) rfl fun a21 hE21 => q_val hE21 (fun w10 hS10 => y_move hE21 rfl) rfl fun a22 hE22 => q_index hE22 hp1 rfl rfl rfl (by omega) sl57 rfl fun ad23 cs23 hr23 hc23 hl23 a24 hE24 => ?_
      obtain ⟨rfl, hg23⟩ := hr23
      refine q_val hE24 (fun w10 hS10 => y_load_one hE24 rfl (hS10.upc hc23 hl23) rfl one9) rfl fun a25 hE25 => q_val hE25 (fun w10 hS10 => y_neq_string hE25 rfl rfl) rfl fun a26 hE26 => ?_
      refine q_nil fun w27 hS27 => ?_
      clear hE14 hE16 hE17 hE19 hE20 hE21 hE22 hE24 hE25
      clear a14 a16 a17 a19 a20 a21 a22 a24 a25
      refine then_normal ?_
      refine cond_split hE26 rfl (fun hb28 => ?_) (fun hb28 => ?_)
      ·
        have hM := hM.trans (if_t hb28)
        refine wp_seq (wp_region_lit ?_)
        refine st_val hE26 (y_assign hE26 rfl) rfl fun a29 hE29 => wpList_nil ?_
        clear hE26
        clear a26
        refine then_normal ?_
        refine wp_ret ?_
        refine blk_ret ?_
        refine then_ret ?_
        refine then_ret ?_
        refine blk_ret ?_
        refine then_ret ?_
        exact fin1 hE29 rfl rfl ⟨by rw [hM], hS27.below⟩
      ·
        have hM := hM.trans (if_f hb28)
        refine wp_skip ?_
        refine blk_normal ?_
        refine then_normal ?_
        refine wp_region_lit ?_
        refine st_val hE26 (y_move hE26 rfl) rfl fun a30 hE30 => st_val hE30 (y_add_in hE30 rfl rfl (m := ((i1 + 1 : Nat) : Int)) (by omega) (by omega) (by omega)) rfl fun a31 hE31 => st_val hE31 (y_assign hE31 rfl) rfl fun a32 hE32 => wpList_nil ?_
        clear hE26 hE30 hE31
        clear a26 a30 a31
        refine then_normal ⟨fu1, Nat.lt_succ_self _, (i1 + 1), by omega, by omega, hM, hE32.weaken ⟨rfl, rfl, rfl, trivial⟩, hS27⟩
    ·
      have hge1 : ¬ i1 < p0.length := by have := of_decide_eq_false hb15; omega
      obtain rfl : fu1 = 0 := by omega
      have hM := hM.trans (laws_eqStringS_l1.eq_1 _ _ _)
      refine wp_exit ?_
      refine then_exit ?_
      refine then_exit ?_
      refine blk_exit ?_
      refine then_normal ?_
      refine wp_seq (wp_region_lit ?_)
      refine st_val hE14 (y_assign hE14 rfl) rfl fun a33 hE33 => wpList_nil ?_
      clear hE14
      clear a14
      refine then_normal ?_
      refine wp_ret ?_
      exact fin1 hE33 rfl rfl ⟨by rw [hM], hS10.below⟩

/- F69 loop.example/g00974/laws.markStepS -/
def laws_markStepS_l1 (p0 : List Step) (p1 : Int) : Nat → Nat → Int → List Step → List Step × Int
  | 0, i1, s1_1, y1_m0 => (y1_m0, s1_1)
  | fu1 + 1, i1, s1_1, y1_m0 => laws_markStepS_l1 p0 p1 fu1 (i1 + 1) (IntKind.i64.wrap (IntKind.i64.wrap (IntKind.i64.wrap (IntKind.i64.wrap (IntKind.i64.wrap (IntKind.i64.wrap (IntKind.i64.wrap (s1_1 + 1) + 1) + 1) + 1) + 1) + 1) + 1)) (y1_m0.set i1 (Step.mk s1_1 (Call.mk (IntKind.i64.wrap (s1_1 + 1)) (laws_markText (IntKind.i64.wrap (IntKind.i64.wrap (s1_1 + 1) + 1))) (laws_markText (IntKind.i64.wrap (IntKind.i64.wrap (IntKind.i64.wrap (s1_1 + 1) + 1) + 1))) (IntKind.i64.wrap (IntKind.i64.wrap (IntKind.i64.wrap (IntKind.i64.wrap (s1_1 + 1) + 1) + 1) + 1)) (IntKind.i64.wrap (IntKind.i64.wrap (IntKind.i64.wrap (IntKind.i64.wrap (IntKind.i64.wrap (s1_1 + 1) + 1) + 1) + 1) + 1)) (laws_markText (IntKind.i64.wrap (IntKind.i64.wrap (IntKind.i64.wrap (IntKind.i64.wrap (IntKind.i64.wrap (IntKind.i64.wrap (s1_1 + 1) + 1) + 1) + 1) + 1) + 1))))))
def laws_markStepS (p0 : List Step) (p1 : Int) : List Step × Int := laws_markStepS_l1 p0 p1 (p0.length - 0) 0 p1 p0
theorem c_laws_markStepS {v0 : Value} (p0 : List Step) {F0 : List Nat} (p1 : Int) {w : World} (hMu0 : SH (Off [Ck.own (α := List Step) [v0] p0 F0] w) w w [Ck.own (α := List Step) [v0] p0 F0]) (hi1 : I64 p1) :
    Calls Tryd.prog 69 [v0, .int .i64 p1].toArray w (fun e w' => e = .returned (.int .i64 (laws_markStepS p0 p1).2) ∧ I64 (laws_markStepS p0 p1).2 ∧ ∃ F', SH (Off [Ck.own (α := List Step) [v0] p0 F0] w) w w' [Ck.own (α := List Step) [v0] (laws_markStepS p0 p1).1 F']) := by
  obtain ⟨A0, cap0, rfl, hx0⟩ := (hMu0.slO (k := 0) rfl).form
  refine enter Tryd.func69 rfl Tryd.ntmps69 (Nat.le_of_ble_eq_true rfl) ?_
  intro a0 hE0
  have hS0 := hMu0
  have hM := laws_markStepS.eq_1 p0 p1
  have hij1 : -9223372036854775808 ≤ p1 ∧ p1 ≤ 9223372036854775807 := hi1
  refine wp_seq (wp_region_lit ?_)
  refine st_val hE0 (y_assign hE0 rfl) rfl fun a1 hE1 => wpList_nil ?_
  clear hE0
  clear a0
  refine then_normal ?_
  refine wp_seq (wp_seq (wp_region_lit ?_))
  refine st_val hE1 (y_assign hE1 rfl) rfl fun a2 hE2 => wpList_nil ?_
  clear hE1
  clear a1
  refine then_normal ?_
  refine wp_block (wp_loop_ghost (fun fu1 a w2 => ∃ (i1 : Nat) (s1_1 : Int) (y1_m0 : List Step) (Fy1_m0 : List Nat), 0 ≤ i1 ∧ fu1 = p0.length - i1 ∧ (i1 ≤ p0.length ∨ i1 = 0) ∧ I64 s1_1 ∧ laws_markStepS p0 p1 = laws_markStepS_l1 p0 p1 fu1 i1 s1_1 y1_m0 ∧ Env 71 [(0, .slice A0 p0.length cap0), (1, .int .i64 s1_1), (5, .int .i64 (i1 : Int))] a ∧ SH (Off [Ck.own (α := List Step) [.slice A0 p0.length cap0] p0 F0] w) w w2 [Ck.own (α := List Step) [.slice A0 p0.length cap0] y1_m0 Fy1_m0]) (p0.length - 0) ⟨0, p1, p0, F0, Nat.le_refl _, rfl, .inr rfl, hi1, hM, hE2.weaken ⟨rfl, rfl, rfl, trivial⟩, hS0⟩ ?_)
  clear hM hE2
  rintro fu1 a3 w3 ⟨i1, s1_1, y1_m0, Fy1_m0, hi1, hfu1, hup1, hgis1_1, hM, hE3, hS3⟩
  have hlry1_m0 := hS3.lenrow (k := 0) rfl
  refine wp_seq (wp_seq (wp_region_lit ?_))
  refine st_val hE3 (y_move hE3 rfl) rfl fun a4 hE4 => st_val hE4 (y_move hE4 rfl) rfl fun a5 hE5 => st_val hE5 (y_len_slice hE5 rfl sl36) rfl fun a6 hE6 => st_val hE6 (y_lss hE6 rfl rfl) rfl fun a7 hE7 => wpList_nil ?_
  clear hE3 hE4 hE5 hE6
  clear a3 a4 a5 a6
  refine then_normal ?_
  refine cond_split hE7 rfl (fun hb8 => ?_) (fun hb8 => ?_)
  ·
    have hlt1 : i1 < p0.length := by have := of_decide_eq_true hb8; omega
    obtain ⟨fu1, rfl⟩ : ∃ m, fu1 = m + 1 := ⟨fu1 - 1, by omega⟩
    have hM := hM.trans (laws_markStepS_l1.eq_2 _ _ _ _ _ _)
    refine wp_skip ?_
    refine then_normal ?_
    refine wp_seq (wp_block (wp_seq (wp_region_lit ?_)))
    refine st_val hE7 (y_move hE7 rfl) rfl fun a9 hE9 => st_val hE9 (y_move hE9 rfl) rfl fun a10 hE10 => st_val hE10 (y_move hE10 rfl) rfl fun a11 hE11 => ?_
    clear hE7 hE9 hE10
    clear a7 a9 a10
    have hlr12 := hS3.lenrow (k := 0) rfl
    obtain ⟨g12, ce12, Fo12, G12, hA12, hn12, hF12⟩ := SH.focus (L := []) hS3 (i := i1) (by omega)
    obtain ⟨rfl, rfl, hg12_0, hg12_1, hg12_2, hg12_3, hg12_4, hg12_5, hg12_6, _⟩ := Step_oopen (show Dat.own w3 ce12 (nth y1_m0 i1) G12 from hF12.get (k := 0) rfl)
    have hS13 := hF12.drop (k := 1)
    refine st_val hE11 (y_indexAddr (A := ⟨g12, 0, none⟩) hE11 (congrArg (fun A => some (Value.slice A p0.length cap0)) hA12) rfl (by omega) (by omega) sl36) rfl fun a14 hE14 => st_val hE14 (y_fieldAddr hE14 rfl fa127_0 rfl) rfl fun a15 hE15 => st_storeE (α := Step) (k := 0) hE15 hS13 [.int .i64 s1_1, .int .i64 ((nth y1_m0 i1).Call.Kind), .string ((nth y1_m0 i1).Call.Name), .string ((nth y1_m0 i1).Call.To), .int .i64 ((nth y1_m0 i1).Call.A), .int .i64 ((nth y1_m0 i1).Call.B), .string ((nth y1_m0 i1).Call.Text)] rfl rfl rfl (by rw [Int.toNat_natCast]; rfl) rfl (chkOne_size one3) rfl rfl rfl rfl fun w16 (hS16 : SH (Off [Ck.own (α := List Step) [.slice A0 p0.length cap0] p0 F0] w) w w16 [Ck.elem (α := Step) g12 i1 cap0 [.int .i64 s1_1, .int .i64 ((nth y1_m0 i1).Call.Kind), .string ((nth y1_m0 i1).Call.Name), .string ((nth y1_m0 i1).Call.To), .int .i64 ((nth y1_m0 i1).Call.A), .int .i64 ((nth y1_m0 i1).Call.B), .string ((nth y1_m0 i1).Call.Text)] y1_m0 Fo12]) a17 hE17 => wpList_nil ?_
    clear hE11 hE14 hE15
    clear a11 a14 a15
    refine then_normal ?_
    refine wp_seq (wp_region_lit ?_)
    refine st_val hE17 (y_move hE17 rfl) rfl fun a18 hE18 => st_val hE18 (y_add hE18 rfl rfl) rfl fun a19 hE19 => st_val hE19 (y_assign hE19 rfl) rfl fun a20 hE20 => wpList_nil ?_
    clear hE17 hE18 hE19
    clear a17 a18 a19
    refine then_normal ?_
    refine wp_seq (wp_region_lit ?_)
    refine st_val hE20 (y_move hE20 rfl) rfl fun a21 hE21 => st_val hE21 (y_move hE21 rfl) rfl fun a22 hE22 => st_val hE22 (y_move hE22 rfl) rfl fun a23 hE23 => ?_
    refine st_val hE23 (y_indexAddr (A := ⟨g12, 0, none⟩) hE23 (congrArg (fun A => some (Value.slice A p0.length cap0)) hA12) rfl (by omega) (by omega) sl36) rfl fun a24 hE24 => st_val hE24 (y_fieldAddr hE24 rfl fa127_1 rfl) rfl fun a25 hE25 => st_val hE25 (y_fieldAddr hE25 rfl fa29_0 rfl) rfl fun a26 hE26 => st_storeE (α := Step) (k := 0) hE26 hS16 [.int .i64 s1_1, .int .i64 (IntKind.i64.wrap (s1_1 + 1)), .string ((nth y1_m0 i1).Call.Name), .string ((nth y1_m0 i1).Call.To), .int .i64 ((nth y1_m0 i1).Call.A), .int .i64 ((nth y1_m0 i1).Call.B), .string ((nth y1_m0 i1).Call.Text)] rfl rfl rfl (by rw [Int.toNat_natCast]; rfl) rfl (chkOne_size one3) rfl rfl rfl rfl fun w27 (hS27 : SH (Off [Ck.own (α := List Step) [.slice A0 p0.length cap0] p0 F0] w) w w27 [Ck.elem (α := Step) g12 i1 cap0 [.int .i64 s1_1, .int .i64 (IntKind.i64.wrap (s1_1 + 1)), .string ((nth y1_m0 i1).Call.Name), .string ((nth y1_m0 i1).Call.To), .int .i64 ((nth y1_m0 i1).Call.A), .int .i64 ((nth y1_m0 i1).Call.B), .string ((nth y1_m0 i1).Call.Text)] y1_m0 Fo12]) a28 hE28 => wpList_nil ?_
    clear hE20 hE21 hE22 hE23 hE24 hE25 hE26
    clear a20 a21 a22 a23 a24 a25 a26
    refine then_normal ?_
    refine wp_seq (wp_region_lit ?_)
    refine st_val hE28 (y_move hE28 rfl) rfl fun a29 hE29 => st_val hE29 (y_add hE29 rfl rfl) rfl fun a30 hE30 => st_val hE30 (y_assign hE30 rfl) rfl fun a31 hE31 => wpList_nil ?_
    clear hE28 hE29 hE30
    clear a28 a29 a30
    refine then_normal ?_
    refine wp_seq (wp_region_lit ?_)
    refine st_val hE31 (y_move hE31 rfl) rfl fun a32 hE32 => st_val hE32 (y_move hE32 rfl) rfl fun a33 hE33 => st_val hE33 (y_move hE33 rfl) rfl fun a34 hE34 => st_callF hE34 hS27 Tryd.func71 fb71 fn71 (c_laws_markText (IntKind.i64.wrap (IntKind.i64.wrap (s1_1 + 1) + 1)) (I64_wrap _)) rfl rfl fun w35 hS35 a36 hE36 => ?_
    refine st_val hE36 (y_indexAddr (A := ⟨g12, 0, none⟩) hE36 (congrArg (fun A => some (Value.slice A p0.length cap0)) hA12) rfl (by omega) (by omega) sl36) rfl fun a37 hE37 => st_val hE37 (y_fieldAddr hE37 rfl fa127_1 rfl) rfl fun a38 hE38 => st_val hE38 (y_fieldAddr hE38 rfl fa29_1 rfl) rfl fun a39 hE39 => st_storeE (α := Step) (k := 0) hE39 hS35 [.int .i64 s1_1, .int .i64 (IntKind.i64.wrap (s1_1 + 1)), .string (laws_markText (IntKind.i64.wrap (IntKind.i64.wrap (s1_1 + 1) + 1))), .string ((nth y1_m0 i1).Call.To), .int .i64 ((nth y1_m0 i1).Call.A), .int .i64 ((nth y1_m0 i1).Call.B), .string ((nth y1_m0 i1).Call.Text)] rfl rfl rfl (by rw [Int.toNat_natCast]; rfl) rfl (chkOne_size one9) rfl rfl rfl rfl fun w40 (hS40 : SH (Off [Ck.own (α := List Step) [.slice A0 p0.length cap0] p0 F0] w) w w40 [Ck.elem (α := Step) g12 i1 cap0 [.int .i64 s1_1, .int .i64 (IntKind.i64.wrap (s1_1 + 1)), .string (laws_markText (IntKind.i64.wrap (IntKind.i64.wrap (s1_1 + 1) + 1))), .string ((nth y1_m0 i1).Call.To), .int .i64 ((nth y1_m0 i1).Call.A), .int .i64 ((nth y1_m0 i1).Call.B), .string ((nth y1_m0 i1).Call.Text)] y1_m0 Fo12]) a41 hE41 => wpList_nil ?_
    clear hE31 hE32 hE33 hE34 hE36 hE37 hE38 hE39
    clear a31 a32 a33 a34 a36 a37 a38 a39
    refine then_normal ?_
    refine wp_seq (wp_region_lit ?_)
    refine st_val hE41 (y_move hE41 rfl) rfl fun a42 hE42 => st_val hE42 (y_add hE42 rfl rfl) rfl fun a43 hE43 => st_val hE43 (y_assign hE43 rfl) rfl fun a44 hE44 => wpList_nil ?_
    clear hE41 hE42 hE43
    clear a41 a42 a43
    refine then_normal ?_
    refine wp_seq (wp_region_lit ?_)
    refine st_val hE44 (y_move hE44 rfl) rfl fun a45 hE45 => st_val hE45 (y_move hE45 rfl) rfl fun a46 hE46 => st_val hE46 (y_move hE46 rfl) rfl fun a47 hE47 => st_callF hE47 hS40 Tryd.func71 fb71 fn71 (c_laws_markText (IntKind.i64.wrap (IntKind.i64.wrap (IntKind.i64.wrap (s1_1 + 1) + 1) + 1)) (I64_wrap _)) rfl rfl fun w48 hS48 a49 hE49 => ?_
    refine st_val hE49 (y_indexAddr (A := ⟨g12, 0, none⟩) hE49 (congrArg (fun A => some (Value.slice A p0.length cap0)) hA12) rfl (by omega) (by omega) sl36) rfl fun a50 hE50 => st_val hE50 (y_fieldAddr hE50 rfl fa127_1 rfl) rfl fun a51 hE51 => st_val hE51 (y_fieldAddr hE51 rfl fa29_2 rfl) rfl fun a52 hE52 => st_storeE (α := Step) (k := 0) hE52 hS48 [.int .i64 s1_1, .int .i64 (IntKind.i64.wrap (s1_1 + 1)), .string (laws_markText (IntKind.i64.wrap (IntKind.i64.wrap (s1_1 + 1) + 1))), .string (laws_markText (IntKind.i64.wrap (IntKind.i64.wrap (IntKind.i64.wrap (s1_1 + 1) + 1) + 1))), .int .i64 ((nth y1_m0 i1).Call.A), .int .i64 ((nth y1_m0 i1).Call.B), .string ((nth y1_m0 i1).Call.Text)] rfl rfl rfl (by rw [Int.toNat_natCast]; rfl) rfl (chkOne_size one9) rfl rfl rfl rfl fun w53 (hS53 : SH (Off [Ck.own (α := List Step) [.slice A0 p0.length cap0] p0 F0] w) w w53 [Ck.elem (α := Step) g12 i1 cap0 [.int .i64 s1_1, .int .i64 (IntKind.i64.wrap (s1_1 + 1)), .string (laws_markText (IntKind.i64.wrap (IntKind.i64.wrap (s1_1 + 1) + 1))), .string (laws_markText (IntKind.i64.wrap (IntKind.i64.wrap (IntKind.i64.wrap (s1_1 + 1) + 1) + 1))), .int .i64 ((nth y1_m0 i1).Call.A), .int .i64 ((nth y1_m0 i1).Call.B), .string ((nth y1_m0 i1).Call.Text)] y1_m0 Fo12]) a54 hE54 => wpList_nil ?_
    clear hE44 hE45 hE46 hE47 hE49 hE50 hE51 hE52
    clear a44 a45 a46 a47 a49 a50 a51 a52
    refine then_normal ?_
    refine wp_seq (wp_region_lit ?_)
    refine st_val hE54 (y_move hE54 rfl) rfl fun a55 hE55 => st_val hE55 (y_add hE55 rfl rfl) rfl fun a56 hE56 => st_val hE56 (y_assign hE56 rfl) rfl fun a57 hE57 => wpList_nil ?_
    clear hE54 hE55 hE56
    clear a54 a55 a56
    refine then_normal ?_
    refine wp_seq (wp_region_lit ?_)
    refine st_val hE57 (y_move hE57 rfl) rfl fun a58 hE58 => st_val hE58 (y_move hE58 rfl) rfl fun a59 hE59 => st_val hE59 (y_move hE59 rfl) rfl fun a60 hE60 => ?_
    refine st_val hE60 (y_indexAddr (A := ⟨g12, 0, none⟩) hE60 (congrArg (fun A => some (Value.slice A p0.length cap0)) hA12) rfl (by omega) (by omega) sl36) rfl fun a61 hE61 => st_val hE61 (y_fieldAddr hE61 rfl fa127_1 rfl) rfl fun a62 hE62 => st_val hE62 (y_fieldAddr hE62 rfl fa29_3 rfl) rfl fun a63 hE63 => st_storeE (α := Step) (k := 0) hE63 hS53 [.int .i64 s1_1, .int .i64 (IntKind.i64.wrap (s1_1 + 1)), .string (laws_markText (IntKind.i64.wrap (IntKind.i64.wrap (s1_1 + 1) + 1))), .string (laws_markText (IntKind.i64.wrap (IntKind.i64.wrap (IntKind.i64.wrap (s1_1 + 1) + 1) + 1))), .int .i64 (IntKind.i64.wrap (IntKind.i64.wrap (IntKind.i64.wrap (IntKind.i64.wrap (s1_1 + 1) + 1) + 1) + 1)), .int .i64 ((nth y1_m0 i1).Call.B), .string ((nth y1_m0 i1).Call.Text)] rfl rfl rfl (by rw [Int.toNat_natCast]; rfl) rfl (chkOne_size one3) rfl rfl rfl rfl fun w64 (hS64 : SH (Off [Ck.own (α := List Step) [.slice A0 p0.length cap0] p0 F0] w) w w64 [Ck.elem (α := Step) g12 i1 cap0 [.int .i64 s1_1, .int .i64 (IntKind.i64.wrap (s1_1 + 1)), .string (laws_markText (IntKind.i64.wrap (IntKind.i64.wrap (s1_1 + 1) + 1))), .string (laws_markText (IntKind.i64.wrap (IntKind.i64.wrap (IntKind.i64.wrap (s1_1 + 1) + 1) + 1))), .int .i64 (IntKind.i64.wrap (IntKind.i64.wrap (IntKind.i64.wrap (IntKind.i64.wrap (s1_1 + 1) + 1) + 1) + 1)), .int .i64 ((nth y1_m0 i1).Call.B), .string ((nth y1_m0 i1).Call.Text)] y1_m0 Fo12]) a65 hE65 => wpList_nil ?_
    clear hE57 hE58 hE59 hE60 hE61 hE62 hE63
    clear a57 a58 a59 a60 a61 a62 a63
    refine then_normal ?_
    refine wp_seq (wp_region_lit ?_)
    refine st_val hE65 (y_move hE65 rfl) rfl fun a66 hE66 => st_val hE66 (y_add hE66 rfl rfl) rfl fun a67 hE67 => st_val hE67 (y_assign hE67 rfl) rfl fun a68 hE68 => wpList_nil ?_
    clear hE65 hE66 hE67
    clear a65 a66 a67
    refine then_normal ?_
    refine wp_seq (wp_region_lit ?_)
    refine st_val hE68 (y_move hE68 rfl) rfl fun a69 hE69 => st_val hE69 (y_move hE69 rfl) rfl fun a70 hE70 => st_val hE70 (y_move hE70 rfl) rfl fun a71 hE71 => ?_
    refine st_val hE71 (y_indexAddr (A := ⟨g12, 0, none⟩) hE71 (congrArg (fun A => some (Value.slice A p0.length cap0)) hA12) rfl (by omega) (by omega) sl36) rfl fun a72 hE72 => st_val hE72 (y_fieldAddr hE72 rfl fa127_1 rfl) rfl fun a73 hE73 => st_val hE73 (y_fieldAddr hE73 rfl fa29_4 rfl) rfl fun a74 hE74 => st_storeE (α := Step) (k := 0) hE74 hS64 [.int .i64 s1_1, .int .i64 (IntKind.i64.wrap (s1_1 + 1)), .string (laws_markText (IntKind.i64.wrap (IntKind.i64.wrap (s1_1 + 1) + 1))), .string (laws_markText (IntKind.i64.wrap (IntKind.i64.wrap (IntKind.i64.wrap (s1_1 + 1) + 1) + 1))), .int .i64 (IntKind.i64.wrap (IntKind.i64.wrap (IntKind.i64.wrap (IntKind.i64.wrap (s1_1 + 1) + 1) + 1) + 1)), .int .i64 (IntKind.i64.wrap (IntKind.i64.wrap (IntKind.i64.wrap (IntKind.i64.wrap (IntKind.i64.wrap (s1_1 + 1) + 1) + 1) + 1) + 1)), .string ((nth y1_m0 i1).Call.Text)] rfl rfl rfl (by rw [Int.toNat_natCast]; rfl) rfl (chkOne_size one3) rfl rfl rfl rfl fun w75 (hS75 : SH (Off [Ck.own (α := List Step) [.slice A0 p0.length cap0] p0 F0] w) w w75 [Ck.elem (α := Step) g12 i1 cap0 [.int .i64 s1_1, .int .i64 (IntKind.i64.wrap (s1_1 + 1)), .string (laws_markText (IntKind.i64.wrap (IntKind.i64.wrap (s1_1 + 1) + 1))), .string (laws_markText (IntKind.i64.wrap (IntKind.i64.wrap (IntKind.i64.wrap (s1_1 + 1) + 1) + 1))), .int .i64 (IntKind.i64.wrap (IntKind.i64.wrap (IntKind.i64.wrap (IntKind.i64.wrap (s1_1 + 1) + 1) + 1) + 1)), .int .i64 (IntKind.i64.wrap (IntKind.i64.wrap (IntKind.i64.wrap (IntKind.i64.wrap (IntKind.i64.wrap (s1_1 + 1) + 1) + 1) + 1) + 1)), .string ((nth y1_m0 i1).Call.Text)] y1_m0 Fo12]) a76 hE76 => wpList_nil ?_
    clear hE68 hE69 hE70 hE71 hE72 hE73 hE74
    clear a68 a69 a70 a71 a72 a73 a74
    refine then_normal ?_
    refine wp_seq (wp_region_lit ?_)
    refine st_val hE76 (y_move hE76 rfl) rfl fun a77 hE77 => st_val hE77 (y_add hE77 rfl rfl) rfl fun a78 hE78 => st_val hE78 (y_assign hE78 rfl) rfl fun a79 hE79 => wpList_nil ?_
    clear hE76 hE77 hE78
    clear a76 a77 a78
    refine then_normal ?_
    refine wp_seq (wp_region_lit ?_)
    refine st_val hE79 (y_move hE79 rfl) rfl fun a80 hE80 => st_val hE80 (y_move hE80 rfl) rfl fun a81 hE81 => st_val hE81 (y_move hE81 rfl) rfl fun a82 hE82 => st_callF hE82 hS75 Tryd.func71 fb71 fn71 (c_laws_markText (IntKind.i64.wrap (IntKind.i64.wrap (IntKind.i64.wrap (IntKind.i64.wrap (IntKind.i64.wrap (IntKind.i64.wrap (s1_1 + 1) + 1) + 1) + 1) + 1) + 1)) (I64_wrap _)) rfl rfl fun w83 hS83 a84 hE84 => ?_
    refine st_val hE84 (y_indexAddr (A := ⟨g12, 0, none⟩) hE84 (congrArg (fun A => some (Value.slice A p0.length cap0)) hA12) rfl (by omega) (by omega) sl36) rfl fun a85 hE85 => st_val hE85 (y_fieldAddr hE85 rfl fa127_1 rfl) rfl fun a86 hE86 => st_val hE86 (y_fieldAddr hE86 rfl fa29_5 rfl) rfl fun a87 hE87 => st_storeE (α := Step) (k := 0) hE87 hS83 [.int .i64 s1_1, .int .i64 (IntKind.i64.wrap (s1_1 + 1)), .string (laws_markText (IntKind.i64.wrap (IntKind.i64.wrap (s1_1 + 1) + 1))), .string (laws_markText (IntKind.i64.wrap (IntKind.i64.wrap (IntKind.i64.wrap (s1_1 + 1) + 1) + 1))), .int .i64 (IntKind.i64.wrap (IntKind.i64.wrap (IntKind.i64.wrap (IntKind.i64.wrap (s1_1 + 1) + 1) + 1) + 1)), .int .i64 (IntKind.i64.wrap (IntKind.i64.wrap (IntKind.i64.wrap (IntKind.i64.wrap (IntKind.i64.wrap (s1_1 + 1) + 1) + 1) + 1) + 1)), .string (laws_markText (IntKind.i64.wrap (IntKind.i64.wrap (IntKind.i64.wrap (IntKind.i64.wrap (IntKind.i64.wrap (IntKind.i64.wrap (s1_1 + 1) + 1) + 1) + 1) + 1) + 1)))] rfl rfl rfl (by rw [Int.toNat_natCast]; rfl) rfl (chkOne_size one9) rfl rfl rfl rfl fun w88 (hS88 : SH (Off [Ck.own (α := List Step) [.slice A0 p0.length cap0] p0 F0] w) w w88 [Ck.elem (α := Step) g12 i1 cap0 [.int .i64 s1_1, .int .i64 (IntKind.i64.wrap (s1_1 + 1)), .string (laws_markText (IntKind.i64.wrap (IntKind.i64.wrap (s1_1 + 1) + 1))), .string (laws_markText (IntKind.i64.wrap (IntKind.i64.wrap (IntKind.i64.wrap (s1_1 + 1) + 1) + 1))), .int .i64 (IntKind.i64.wrap (IntKind.i64.wrap (IntKind.i64.wrap (IntKind.i64.wrap (s1_1 + 1) + 1) + 1) + 1)), .int .i64 (IntKind.i64.wrap (IntKind.i64.wrap (IntKind.i64.wrap (IntKind.i64.wrap (IntKind.i64.wrap (s1_1 + 1) + 1) + 1) + 1) + 1)), .string (laws_markText (IntKind.i64.wrap (IntKind.i64.wrap (IntKind.i64.wrap (IntKind.i64.wrap (IntKind.i64.wrap (IntKind.i64.wrap (s1_1 + 1) + 1) + 1) + 1) + 1) + 1)))] y1_m0 Fo12]) a89 hE89 => wpList_nil ?_
    clear hE79 hE80 hE81 hE82 hE84 hE85 hE86 hE87
    clear a79 a80 a81 a82 a84 a85 a86 a87
    refine then_normal ?_
    refine wp_region_lit ?_
    refine st_val hE89 (y_move hE89 rfl) rfl fun a90 hE90 => st_val hE90 (y_add hE90 rfl rfl) rfl fun a91 hE91 => st_val hE91 (y_assign hE91 rfl) rfl fun a92 hE92 => wpList_nil ?_
    clear hE89 hE90 hE91
    clear a89 a90 a91
    refine blk_normal ?_
    refine then_normal ?_
    refine wp_region_lit ?_
    refine st_val hE92 (y_move hE92 rfl) rfl fun a93 hE93 => st_val hE93 (y_add_in hE93 rfl rfl (m := ((i1 + 1 : Nat) : Int)) (by omega) (by omega) (by omega)) rfl fun a94 hE94 => st_val hE94 (y_assign hE94 rfl) rfl fun a95 hE95 => wpList_nil ?_
    clear hE92 hE93 hE94
    clear a92 a93 a94
    have hJ96 := SH.flat (L := [Ck.elem (α := Step) g12 i1 cap0 [.int .i64 s1_1, .int .i64 (IntKind.i64.wrap (s1_1 + 1)), .string (laws_markText (IntKind.i64.wrap (IntKind.i64.wrap (s1_1 + 1) + 1))), .string (laws_markText (IntKind.i64.wrap (IntKind.i64.wrap (IntKind.i64.wrap (s1_1 + 1) + 1) + 1))), .int .i64 (IntKind.i64.wrap (IntKind.i64.wrap (IntKind.i64.wrap (IntKind.i64.wrap (s1_1 + 1) + 1) + 1) + 1)), .int .i64 (IntKind.i64.wrap (IntKind.i64.wrap (IntKind.i64.wrap (IntKind.i64.wrap (IntKind.i64.wrap (s1_1 + 1) + 1) + 1) + 1) + 1)), .string (laws_markText (IntKind.i64.wrap (IntKind.i64.wrap (IntKind.i64.wrap (IntKind.i64.wrap (IntKind.i64.wrap (IntKind.i64.wrap (s1_1 + 1) + 1) + 1) + 1) + 1) + 1)))] y1_m0 Fo12]) (α := Step) (cs := [.int .i64 s1_1, .int .i64 (IntKind.i64.wrap (s1_1 + 1)), .string (laws_markText (IntKind.i64.wrap (IntKind.i64.wrap (s1_1 + 1) + 1))), .string (laws_markText (IntKind.i64.wrap (IntKind.i64.wrap (IntKind.i64.wrap (s1_1 + 1) + 1) + 1))), .int .i64 (IntKind.i64.wrap (IntKind.i64.wrap (IntKind.i64.wrap (IntKind.i64.wrap (s1_1 + 1) + 1) + 1) + 1)), .int .i64 (IntKind.i64.wrap (IntKind.i64.wrap (IntKind.i64.wrap (IntKind.i64.wrap (IntKind.i64.wrap (s1_1 + 1) + 1) + 1) + 1) + 1)), .string (laws_markText (IntKind.i64.wrap (IntKind.i64.wrap (IntKind.i64.wrap (IntKind.i64.wrap (IntKind.i64.wrap (IntKind.i64.wrap (s1_1 + 1) + 1) + 1) + 1) + 1) + 1)))]) (x := (Step.mk s1_1 (Call.mk (IntKind.i64.wrap (s1_1 + 1)) (laws_markText (IntKind.i64.wrap (IntKind.i64.wrap (s1_1 + 1) + 1))) (laws_markText (IntKind.i64.wrap (IntKind.i64.wrap (IntKind.i64.wrap (s1_1 + 1) + 1) + 1))) (IntKind.i64.wrap (IntKind.i64.wrap (IntKind.i64.wrap (IntKind.i64.wrap (s1_1 + 1) + 1) + 1) + 1)) (IntKind.i64.wrap (IntKind.i64.wrap (IntKind.i64.wrap (IntKind.i64.wrap (IntKind.i64.wrap (s1_1 + 1) + 1) + 1) + 1) + 1)) (laws_markText (IntKind.i64.wrap (IntKind.i64.wrap (IntKind.i64.wrap (IntKind.i64.wrap (IntKind.i64.wrap (IntKind.i64.wrap (s1_1 + 1) + 1) + 1) + 1) + 1) + 1)))))) hS88 (fun _ => Step_own (x := (Step.mk s1_1 (Call.mk (IntKind.i64.wrap (s1_1 + 1)) (laws_markText (IntKind.i64.wrap (IntKind.i64.wrap (s1_1 + 1) + 1))) (laws_markText (IntKind.i64.wrap (IntKind.i64.wrap (IntKind.i64.wrap (s1_1 + 1) + 1) + 1))) (IntKind.i64.wrap (IntKind.i64.wrap (IntKind.i64.wrap (IntKind.i64.wrap (s1_1 + 1) + 1) + 1) + 1)) (IntKind.i64.wrap (IntKind.i64.wrap (IntKind.i64.wrap (IntKind.i64.wrap (IntKind.i64.wrap (s1_1 + 1) + 1) + 1) + 1) + 1)) (laws_markText (IntKind.i64.wrap (IntKind.i64.wrap (IntKind.i64.wrap (IntKind.i64.wrap (IntKind.i64.wrap (IntKind.i64.wrap (s1_1 + 1) + 1) + 1) + 1) + 1) + 1)))))) hgis1_1 (I64_wrap _) (laws_markText_good (by first | assumption | exact I64_wrap _)) (laws_markText_good (by first | assumption | exact I64_wrap _)) (I64_wrap _) (I64_wrap _) (laws_markText_good (by first | assumption | exact I64_wrap _)))
    obtain ⟨F96, hS96⟩ := SH.unfocus (α := Step) (L := []) hJ96 hA12 hn12 (by omega)
    refine then_normal ⟨fu1, Nat.lt_succ_self _, (i1 + 1), IntKind.i64.wrap (IntKind.i64.wrap (IntKind.i64.wrap (IntKind.i64.wrap (IntKind.i64.wrap (IntKind.i64.wrap (IntKind.i64.wrap (s1_1 + 1) + 1) + 1) + 1) + 1) + 1) + 1), (y1_m0.set i1 (Step.mk s1_1 (Call.mk (IntKind.i64.wrap (s1_1 + 1)) (laws_markText (IntKind.i64.wrap (IntKind.i64.wrap (s1_1 + 1) + 1))) (laws_markText (IntKind.i64.wrap (IntKind.i64.wrap (IntKind.i64.wrap (s1_1 + 1) + 1) + 1))) (IntKind.i64.wrap (IntKind.i64.wrap (IntKind.i64.wrap (IntKind.i64.wrap (s1_1 + 1) + 1) + 1) + 1)) (IntKind.i64.wrap (IntKind.i64.wrap (IntKind.i64.wrap (IntKind.i64.wrap (IntKind.i64.wrap (s1_1 + 1) + 1) + 1) + 1) + 1)) (laws_markText (IntKind.i64.wrap (IntKind.i64.wrap (IntKind.i64.wrap (IntKind.i64.wrap (IntKind.i64.wrap (IntKind.i64.wrap (s1_1 + 1) + 1) + 1) + 1) + 1) + 1)))))), F96, by omega, by omega, .inl (by omega), (I64_wrap _), hM, hE95.weaken ⟨rfl, rfl, rfl, trivial⟩, hS96⟩
  ·
    have hge1 : ¬ i1 < p0.length := by have := of_decide_eq_false hb8; omega
    obtain rfl : fu1 = 0 := by omega
    have hM := hM.trans (laws_markStepS_l1.eq_1 _ _ _ _ _)
    refine wp_exit ?_
    refine then_exit ?_
    refine then_exit ?_
    refine blk_exit ?_
    refine then_normal ?_
    refine wp_seq (wp_region_lit ?_)
    refine st_val hE7 (y_move hE7 rfl) rfl fun a97 hE97 => st_val hE97 (y_assign hE97 rfl) rfl fun a98 hE98 => wpList_nil ?_
    clear hE7 hE97
    clear a7 a97
    refine then_normal ?_
    refine wp_ret ?_
    refine fin1 hE98 rfl rfl ?_
    rw [hM]
    exact ⟨rfl, hgis1_1, Fy1_m0, hS3⟩

/- F70 loop.example/g00974/laws.markAnswerS -/
def laws_markAnswerS_l1 (p0 : List Answer) (p1 : Int) : Nat → Nat → Int → List Answer → List Answer × Int
  | 0, i1, s1_1, y1_m0 => (y1_m0, s1_1)
  | fu1 + 1, i1, s1_1, y1_m0 => laws_markAnswerS_l1 p0 p1 fu1 (i1 + 1) (IntKind.i64.wrap (IntKind.i64.wrap (IntKind.i64.wrap (s1_1 + 1) + 1) + 1)) (y1_m0.set i1 (Answer.mk s1_1 (IntKind.i64.wrap (s1_1 + 1)) (laws_markText (IntKind.i64.wrap (IntKind.i64.wrap (s1_1 + 1) + 1)))))
def laws_markAnswerS (p0 : List Answer) (p1 : Int) : List Answer × Int := laws_markAnswerS_l1 p0 p1 (p0.length - 0) 0 p1 p0
theorem c_laws_markAnswerS {v0 : Value} (p0 : List Answer) {F0 : List Nat} (p1 : Int) {w : World} (hMu0 : SH (Off [Ck.own (α := List Answer) [v0] p0 F0] w) w w [Ck.own (α := List Answer) [v0] p0 F0]) (hi1 : I64 p1) :
    Calls Tryd.prog 70 [v0, .int .i64 p1].toArray w (fun e w' => e = .returned (.int .i64 (laws_markAnswerS p0 p1).2) ∧ I64 (laws_markAnswerS p0 p1).2 ∧ ∃ F', SH (Off [Ck.own (α := List Answer) [v0] p0 F0] w) w w' [Ck.own (α := List Answer) [v0] (laws_markAnswerS p0 p1).1 F']) := by
  obtain ⟨A0, cap0, rfl, hx0⟩ := (hMu0.slO (k := 0) rfl).form
  refine enter Tryd.func70 rfl Tryd.ntmps70 (Nat.le_of_ble_eq_true rfl) ?_
  intro a0 hE0
  have hS0 := hMu0
  have hM := laws_markAnswerS.eq_1 p0 p1
  have hij1 : -9223372036854775808 ≤ p1 ∧ p1 ≤ 9223372036854775807 := hi1
  refine wp_seq (wp_region_lit ?_)
  refine st_val hE0 (y_assign hE0 rfl) rfl fun a1 hE1 => wpList_nil ?_
  clear hE0
  clear a0
  refine then_normal ?_
  refine wp_seq (wp_seq (wp_region_lit ?_))
  refine st_val hE1 (y_assign hE1 rfl) rfl fun a2 hE2 => wpList_nil ?_
  clear hE1
  clear a1
  refine then_normal ?_
  refine wp_block (wp_loop_ghost (fun fu1 a w2 => ∃ (i1 : Nat) (s1_1 : Int) (y1_m0 : List Answer) (Fy1_m0 : List Nat), 0 ≤ i1 ∧ fu1 = p0.length - i1 ∧ (i1 ≤ p0.length ∨ i1 = 0) ∧ I64 s1_1 ∧ laws_markAnswerS p0 p1 = laws_markAnswerS_l1 p0 p1 fu1 i1 s1_1 y1_m0 ∧ Env 35 [(0, .slice A0 p0.length cap0), (1, .int .i64 s1_1), (5, .int .i64 (i1 : Int))] a ∧ SH (Off [Ck.own (α := List Answer) [.slice A0 p0.length cap0] p0 F0] w) w w2 [Ck.own (α := List Answer) [.slice A0 p0.length cap0] y1_m0 Fy1_m0]) (p0.length - 0) ⟨0, p1, p0, F0, Nat.le_refl _, rfl, .inr rfl, hi1, hM, hE2.weaken ⟨rfl, rfl, rfl, trivial⟩, hS0⟩ ?_)
  clear hM hE2
  rintro fu1 a3 w3 ⟨i1, s1_1, y1_m0, Fy1_m0, hi1, hfu1, hup1, hgis1_1, hM, hE3, hS3⟩
  have hlry1_m0 := hS3.lenrow (k := 0) rfl
  refine wp_seq (wp_seq (wp_region_lit ?_))
  refine st_val hE3 (y_move hE3 rfl) rfl fun a4 hE4 => st_val hE4 (y_move hE4 rfl) rfl fun a5 hE5 => st_val hE5 (y_len_slice hE5 rfl sl37) rfl fun a6 hE6 => st_val hE6 (y_lss hE6 rfl rfl) rfl fun a7 hE7 => wpList_nil ?_
  clear hE3 hE4 hE5 hE6
  clear a3 a4 a5 a6
  refine then_normal ?_
  refine cond_split hE7 rfl (fun hb8 => ?_) (fun hb8 => ?_)
  ·
    have hlt1 : i1 < p0.length := by have := of_decide_eq_true hb8; omega
    obtain ⟨fu1, rfl⟩ : ∃ m, fu1 = m + 1 := ⟨fu1 - 1, by omega⟩
    have hM := hM.trans (laws_markAnswerS_l1.eq_2 _ _ _ _ _ _)
    refine wp_skip ?_
    refine then_normal ?_
    refine wp_seq (wp_block (wp_seq (wp_region_lit ?_)))
    refine st_val hE7 (y_move hE7 rfl) rfl fun a9 hE9 => st_val hE9 (y_move hE9 rfl) rfl fun a10 hE10 => st_val hE10 (y_move hE10 rfl) rfl fun a11 hE11 => ?_
    clear hE7 hE9 hE10
    clear a7 a9 a10
    have hlr12 := hS3.lenrow (k := 0) rfl
    obtain ⟨g12, ce12, Fo12, G12, hA12, hn12, hF12⟩ := SH.focus (L := []) hS3 (i := i1) (by omega)
    obtain ⟨rfl, rfl, hg12_0, hg12_1, hg12_2, _⟩ := Answer_oopen (show Dat.own w3 ce12 (nth y1_m0 i1) G12 from hF12.get (k := 0) rfl)
    have hS13 := hF12.drop (k := 1)
    refine st_val hE11 (y_indexAddr (A := ⟨g12, 0, none⟩) hE11 (congrArg (fun A => some (Value.slice A p0.length cap0)) hA12) rfl (by omega) (by omega) sl37) rfl fun a14 hE14 => st_val hE14 (y_fieldAddr hE14 rfl fa129_0 rfl) rfl fun a15 hE15 => st_storeE (α := Answer) (k := 0) hE15 hS13 [.int .i64 s1_1, .int .i64 ((nth y1_m0 i1).N), .string ((nth y1_m0 i1).Text)] rfl rfl rfl (by rw [Int.toNat_natCast]; rfl) rfl (chkOne_size one3) rfl rfl rfl rfl fun w16 (hS16 : SH (Off [Ck.own (α := List Answer) [.slice A0 p0.length cap0] p0 F0] w) w w16 [Ck.elem (α := Answer) g12 i1 cap0 [.int .i64 s1_1, .int .i64 ((nth y1_m0 i1).N), .string ((nth y1_m0 i1).Text)] y1_m0 Fo12]) a17 hE17 => wpList_nil ?_
    clear hE11 hE14 hE15
    clear a11 a14 a15
    refine then_normal ?_
    refine wp_seq (wp_region_lit ?_)
    refine st_val hE17 (y_move hE17 rfl) rfl fun a18 hE18 => st_val hE18 (y_add hE18 rfl rfl) rfl fun a19 hE19 => st_val hE19 (y_assign hE19 rfl) rfl fun a20 hE20 => wpList_nil ?_
    clear hE17 hE18 hE19
    clear a17 a18 a19
    refine then_normal ?_
    refine wp_seq (wp_region_lit ?_)
    refine st_val hE20 (y_move hE20 rfl) rfl fun a21 hE21 => st_val hE21 (y_move hE21 rfl) rfl fun a22 hE22 => st_val hE22 (y_move hE22 rfl) rfl fun a23 hE23 => ?_
    refine st_val hE23 (y_indexAddr (A := ⟨g12, 0, none⟩) hE23 (congrArg (fun A => some (Value.slice A p0.length cap0)) hA12) rfl (by omega) (by omega) sl37) rfl fun a24 hE24 => st_val hE24 (y_fieldAddr hE24 rfl fa129_1 rfl) rfl fun a25 hE25 => st_storeE (α := Answer) (k := 0) hE25 hS16 [.int .i64 s1_1, .int .i64 (IntKind.i64.wrap (s1_1 + 1)), .string ((nth y1_m0 i1).Text)] rfl rfl rfl (by rw [Int.toNat_natCast]; rfl) rfl (chkOne_size one3) rfl rfl rfl rfl fun w26 (hS26 : SH (Off [Ck.own (α := List Answer) [.slice A0 p0.length cap0] p0 F0] w) w w26 [Ck.elem (α := Answer) g12 i1 cap0 [.int .i64 s1_1, .int .i64 (IntKind.i64.wrap (s1_1 + 1)), .string ((nth y1_m0 i1).Text)] y1_m0 Fo12]) a27 hE27 => wpList_nil ?_
    clear hE20 hE21 hE22 hE23 hE24 hE25
    clear a20 a21 a22 a23 a24 a25
    refine then_normal ?_
    refine wp_seq (wp_region_lit ?_)
    refine st_val hE27 (y_move hE27 rfl) rfl fun a28 hE28 => st_val hE28 (y_add hE28 rfl rfl) rfl fun a29 hE29 => st_val hE29 (y_assign hE29 rfl) rfl fun a30 hE30 => wpList_nil ?_
    clear hE27 hE28 hE29
    clear a27 a28 a29
    refine then_normal ?_
    refine wp_seq (wp_region_lit ?_)
    refine st_val hE30 (y_move hE30 rfl) rfl fun a31 hE31 => st_val hE31 (y_move hE31 rfl) rfl fun a32 hE32 => st_val hE32 (y_move hE32 rfl) rfl fun a33 hE33 => st_callF hE33 hS26 Tryd.func71 fb71 fn71 (c_laws_markText (IntKind.i64.wrap (IntKind.i64.wrap (s1_1 + 1) + 1)) (I64_wrap _)) rfl rfl fun w34 hS34 a35 hE35 => ?_
    refine st_val hE35 (y_indexAddr (A := ⟨g12, 0, none⟩) hE35 (congrArg (fun A => some (Value.slice A p0.length cap0)) hA12) rfl (by omega) (by omega) sl37) rfl fun a36 hE36 => st_val hE36 (y_fieldAddr hE36 rfl fa129_2 rfl) rfl fun a37 hE37 => st_storeE (α := Answer) (k := 0) hE37 hS34 [.int .i64 s1_1, .int .i64 (IntKind.i64.wrap (s1_1 + 1)), .string (laws_markText (IntKind.i64.wrap (IntKind.i64.wrap (s1_1 + 1) + 1)))] rfl rfl rfl (by rw [Int.toNat_natCast]; rfl) rfl (chkOne_size one9) rfl rfl rfl rfl fun w38 (hS38 : SH (Off [Ck.own (α := List Answer) [.slice A0 p0.length cap0] p0 F0] w) w w38 [Ck.elem (α := Answer) g12 i1 cap0 [.int .i64 s1_1, .int .i64 (IntKind.i64.wrap (s1_1 + 1)), .string (laws_markText (IntKind.i64.wrap (IntKind.i64.wrap (s1_1 + 1) + 1)))] y1_m0 Fo12]) a39 hE39 => wpList_nil ?_
    clear hE30 hE31 hE32 hE33 hE35 hE36 hE37
    clear a30 a31 a32 a33 a35 a36 a37
    refine then_normal ?_
    refine wp_region_lit ?_
    refine st_val hE39 (y_move hE39 rfl) rfl fun a40 hE40 => st_val hE40 (y_add hE40 rfl rfl) rfl fun a41 hE41 => st_val hE41 (y_assign hE41 rfl) rfl fun a42 hE42 => wpList_nil ?_
    clear hE39 hE40 hE41
    clear a39 a40 a41
    refine blk_normal ?_
    refine then_normal ?_
    refine wp_region_lit ?_
    refine st_val hE42 (y_move hE42 rfl) rfl fun a43 hE43 => st_val hE43 (y_add_in hE43 rfl rfl (m := ((i1 + 1 : Nat) : Int)) (by omega) (by omega) (by omega)) rfl fun a44 hE44 => st_val hE44 (y_assign hE44 rfl) rfl fun a45 hE45 => wpList_nil ?_
    clear hE42 hE43 hE44
    clear a42 a43 a44
    have hJ46 := SH.flat (L := [Ck.elem (α := Answer) g12 i1 cap0 [.int .i64 s1_1, .int .i64 (IntKind.i64.wrap (s1_1 + 1)), .string (laws_markText (IntKind.i64.wrap (IntKind.i64.wrap (s1_1 + 1) + 1)))] y1_m0 Fo12]) (α := Answer) (cs := [.int .i64 s1_1, .int .i64 (IntKind.i64.wrap (s1_1 + 1)), .string (laws_markText (IntKind.i64.wrap (IntKind.i64.wrap (s1_1 + 1) + 1)))]) (x := (Answer.mk s1_1 (IntKind.i64.wrap (s1_1 + 1)) (laws_markText (IntKind.i64.wrap (IntKind.i64.wrap (s1_1 + 1) + 1))))) hS38 (fun _ => Answer_own (x := (Answer.mk s1_1 (IntKind.i64.wrap (s1_1 + 1)) (laws_markText (IntKind.i64.wrap (IntKind.i64.wrap (s1_1 + 1) + 1))))) hgis1_1 (I64_wrap _) (laws_markText_good (by first | assumption | exact I64_wrap _)))
    obtain ⟨F46, hS46⟩ := SH.unfocus (α := Answer) (L := []) hJ46 hA12 hn12 (by omega)
    refine then_normal ⟨fu1, Nat.lt_succ_self _, (i1 + 1), IntKind.i64.wrap (IntKind.i64.wrap (IntKind.i64.wrap (s1_1 + 1) + 1) + 1), (y1_m0.set i1 (Answer.mk s1_1 (IntKind.i64.wrap (s1_1 + 1)) (laws_markText (IntKind.i64.wrap (IntKind.i64.wrap (s1_1 + 1) + 1))))), F46, by omega, by omega, .inl (by omega), (I64_wrap _), hM, hE45.weaken ⟨rfl, rfl, rfl, trivial⟩, hS46⟩
  ·
    have hge1 : ¬ i1 < p0.length := by have := of_decide_eq_false hb8; omega
    obtain rfl : fu1 = 0 := by omega
    have hM := hM.trans (laws_markAnswerS_l1.eq_1 _ _ _ _ _)
    refine wp_exit ?_
    refine then_exit ?_
    refine then_exit ?_
    refine blk_exit ?_
    refine then_normal ?_
    refine wp_seq (wp_region_lit ?_)
    refine st_val hE7 (y_move hE7 rfl) rfl fun a47 hE47 => st_val hE47 (y_assign hE47 rfl) rfl fun a48 hE48 => wpList_nil ?_
    clear hE7 hE47
    clear a7 a47
    refine then_normal ?_
    refine wp_ret ?_
    refine fin1 hE48 rfl rfl ?_
    rw [hM]
    exact ⟨rfl, hgis1_1, Fy1_m0, hS3⟩

/- F33 loop.example/g00974/laws.markEntryS -/
def laws_markEntryS_l1 (p0 : List Entry) (p1 : Int) : Nat → Nat → Int → List Entry → List Entry × Int
  | 0, i1, s1_1, y1_m0 => (y1_m0, s1_1)
  | fu1 + 1, i1, s1_1, y1_m0 => laws_markEntryS_l1 p0 p1 fu1 (i1 + 1) (IntKind.i64.wrap (IntKind.i64.wrap (IntKind.i64.wrap ((laws_markAnswerS ((nth y1_m0 i1).Answers) ((laws_markStepS ((nth y1_m0 i1).Steps) (IntKind.i64.wrap (IntKind.i64.wrap (IntKind.i64.wrap (s1_1 + 1) + 1) + 1))).2)).2 + 1) + 1) + 1)) (y1_m0.set i1 (Entry.mk s1_1 (IntKind.i64.wrap (s1_1 + 1)) (IntKind.i64.wrap (IntKind.i64.wrap (s1_1 + 1) + 1)) ((laws_markStepS ((nth y1_m0 i1).Steps) (IntKind.i64.wrap (IntKind.i64.wrap (IntKind.i64.wrap (s1_1 + 1) + 1) + 1))).1) ((laws_markAnswerS ((nth y1_m0 i1).Answers) ((laws_markStepS ((nth y1_m0 i1).Steps) (IntKind.i64.wrap (IntKind.i64.wrap (IntKind.i64.wrap (s1_1 + 1) + 1) + 1))).2)).1) ((laws_markAnswerS ((nth y1_m0 i1).Answers) ((laws_markStepS ((nth y1_m0 i1).Steps) (IntKind.i64.wrap (IntKind.i64.wrap (IntKind.i64.wrap (s1_1 + 1) + 1) + 1))).2)).2) (IntKind.i64.wrap ((laws_markAnswerS ((nth y1_m0 i1).Answers) ((laws_markStepS ((nth y1_m0 i1).Steps) (IntKind.i64.wrap (IntKind.i64.wrap (IntKind.i64.wrap (s1_1 + 1) + 1) + 1))).2)).2 + 1)) (decide (Int.tmod (IntKind.i64.wrap (IntKind.i64.wrap ((laws_markAnswerS ((nth y1_m0 i1).Answers) ((laws_markStepS ((nth y1_m0 i1).Steps) (IntKind.i64.wrap (IntKind.i64.wrap (IntKind.i64.wrap (s1_1 + 1) + 1) + 1))).2)).2 + 1) + 1)) 3 = 0))))
def laws_markEntryS (p0 : List Entry) (p1 : Int) : List Entry × Int := laws_markEntryS_l1 p0 p1 (p0.length - 0) 0 p1 p0
theorem c_laws_markEntryS {v0 : Value} (p0 : List Entry) {F0 : List Nat} (p1 : Int) {w : World} (hMu0 : SH (Off [Ck.own (α := List Entry) [v0] p0 F0] w) w w [Ck.own (α := List Entry) [v0] p0 F0]) (hi1 : I64 p1) :
    Calls Tryd.prog 33 [v0, .int .i64 p1].toArray w (fun e w' => e = .returned (.int .i64 (laws_markEntryS p0 p1).2) ∧ I64 (laws_markEntryS p0 p1).2 ∧ ∃ F', SH (Off [Ck.own (α := List Entry) [v0] p0 F0] w) w w' [Ck.own (α := List Entry) [v0] (laws_markEntryS p0 p1).1 F']) := by
  obtain ⟨A0, cap0, rfl, hx0⟩ := (hMu0.slO (k := 0) rfl).form
  refine enter Tryd.func33 rfl Tryd.ntmps33 (Nat.le_of_ble_eq_true rfl) ?_
  intro a0 hE0
  have hS0 := hMu0
  have hM := laws_markEntryS.eq_1 p0 p1
  have hij1 : -9223372036854775808 ≤ p1 ∧ p1 ≤ 9223372036854775807 := hi1
  refine wp_seq (wp_region_lit ?_)
  refine st_val hE0 (y_assign hE0 rfl) rfl fun a1 hE1 => wpList_nil ?_
  clear hE0
  clear a0
  refine then_normal ?_
  refine wp_seq (wp_seq (wp_region_lit ?_))
  refine st_val hE1 (y_assign hE1 rfl) rfl fun a2 hE2 => wpList_nil ?_
  clear hE1
  clear a1
  refine then_normal ?_
  refine wp_block (wp_loop_ghost (fun fu1 a w2 => ∃ (i1 : Nat) (s1_1 : Int) (y1_m0 : List Entry) (Fy1_m0 : List Nat), 0 ≤ i1 ∧ fu1 = p0.length - i1 ∧ (i1 ≤ p0.length ∨ i1 = 0) ∧ I64 s1_1 ∧ laws_markEntryS p0 p1 = laws_markEntryS_l1 p0 p1 fu1 i1 s1_1 y1_m0 ∧ Env 71 [(0, .slice A0 p0.length cap0), (1, .int .i64 s1_1), (5, .int .i64 (i1 : Int))] a ∧ SH (Off [Ck.own (α := List Entry) [.slice A0 p0.length cap0] p0 F0] w) w w2 [Ck.own (α := List Entry) [.slice A0 p0.length cap0] y1_m0 Fy1_m0]) (p0.length - 0) ⟨0, p1, p0, F0, Nat.le_refl _, rfl, .inr rfl, hi1, hM, hE2.weaken ⟨rfl, rfl, rfl, trivial⟩, hS0⟩ ?_)
  clear hM hE2
  rintro fu1 a3 w3 ⟨i1, s1_1, y1_m0, Fy1_m0, hi1, hfu1, hup1, hgis1_1, hM, hE3, hS3⟩
  have hlry1_m0 := hS3.lenrow (k := 0) rfl
  refine wp_seq (wp_seq (wp_region_lit ?_))
  refine st_val hE3 (y_move hE3 rfl) rfl fun a4 hE4 => st_val hE4 (y_move hE4 rfl) rfl fun a5 hE5 => st_val hE5 (y_len_slice hE5 rfl sl59) rfl fun a6 hE6 => st_val hE6 (y_lss hE6 rfl rfl) rfl fun a7 hE7 => wpList_nil ?_
  clear hE3 hE4 hE5 hE6
  clear a3 a4 a5 a6
  refine then_normal ?_
  refine cond_split hE7 rfl (fun hb8 => ?_) (fun hb8 => ?_)
  ·
    have hlt1 : i1 < p0.length := by have := of_decide_eq_true hb8; omega
    obtain ⟨fu1, rfl⟩ : ∃ m, fu1 = m + 1 := ⟨fu1 - 1, by omega⟩
    have hM := hM.trans (laws_markEntryS_l1.eq_2 _ _ _ _ _ _)
    refine wp_skip ?_
    refine then_normal ?_
    refine wp_seq (wp_block (wp_seq (wp_region_lit ?_)))
    refine st_val hE7 (y_move hE7 rfl) rfl fun a9 hE9 => st_val hE9 (y_move hE9 rfl) rfl fun a10 hE10 => st_val hE10 (y_move hE10 rfl) rfl fun a11 hE11 => ?_
    clear hE7 hE9 hE10
    clear a7 a9 a10
    have hlr12 := hS3.lenrow (k := 0) rfl
    obtain ⟨g12, ce12, Fo12, G12, hA12, hn12, hF12⟩ := SH.focus (L := []) hS3 (i := i1) (by omega)
    obtain ⟨v12_3, F12_3, v12_4, F12_4, rfl, rfl, hg12_0, hg12_1, hg12_2, ho12_3, ho12_4, hg12_5, hg12_6, _⟩ := Entry_oopen (show Dat.own w3 ce12 (nth y1_m0 i1) G12 from hF12.get (k := 0) rfl)
    obtain ⟨A12_3, cp12_3, rfl, hx12_3⟩ := ho12_3.form
    obtain ⟨A12_4, cp12_4, rfl, hx12_4⟩ := ho12_4.form
    have hS13 := hF12.split [Ck.own (α := List Step) [.slice A12_3 ((nth y1_m0 i1).Steps.length) cp12_3] ((nth y1_m0 i1).Steps) F12_3, Ck.own (α := List Answer) [.slice A12_4 ((nth y1_m0 i1).Answers.length) cp12_4] ((nth y1_m0 i1).Answers) F12_4] (by simp only [Ck.own, List.flatMap_cons, List.flatMap_nil, List.append_nil, List.append_assoc]) (oks_cons (ok_sl ho12_3) (oks_cons (ok_sl ho12_4) oks_nil))
    simp only [List.cons_append, List.nil_append] at hS13
    refine st_val hE11 (y_indexAddr (A := ⟨g12, 0, none⟩) hE11 (congrArg (fun A => some (Value.slice A p0.length cap0)) hA12) rfl (by omega) (by omega) sl59) rfl fun a14 hE14 => st_val hE14 (y_fieldAddr hE14 rfl fa39_0 rfl) rfl fun a15 hE15 => st_storeE (α := Entry) (k := 2) hE15 hS13 [.int .i64 s1_1, .int .i64 ((nth y1_m0 i1).Kind), .int .i64 ((nth y1_m0 i1).Tx), .slice A12_3 ((nth y1_m0 i1).Steps.length) cp12_3, .slice A12_4 ((nth y1_m0 i1).Answers.length) cp12_4, .int .i64 ((nth y1_m0 i1).Began), .int .i64 ((nth y1_m0 i1).Ended), .bool ((nth y1_m0 i1).Laid)] rfl rfl rfl (by rw [Int.toNat_natCast]; rfl) rfl (chkOne_size one3) rfl rfl rfl rfl fun w16 (hS16 : SH (Off [Ck.own (α := List Entry) [.slice A0 p0.length cap0] p0 F0] w) w w16 [Ck.own (α := List Step) [.slice A12_3 ((nth y1_m0 i1).Steps.length) cp12_3] ((nth y1_m0 i1).Steps) F12_3, Ck.own (α := List Answer) [.slice A12_4 ((nth y1_m0 i1).Answers.length) cp12_4] ((nth y1_m0 i1).Answers) F12_4, Ck.elem (α := Entry) g12 i1 cap0 [.int .i64 s1_1, .int .i64 ((nth y1_m0 i1).Kind), .int .i64 ((nth y1_m0 i1).Tx), .slice A12_3 ((nth y1_m0 i1).Steps.length) cp12_3, .slice A12_4 ((nth y1_m0 i1).Answers.length) cp12_4, .int .i64 ((nth y1_m0 i1).Began), .int .i64 ((nth y1_m0 i1).Ended), .bool ((nth y1_m0 i1).Laid)] y1_m0 Fo12]) a17 hE17 => wpList_nil ?_
    clear hE11 hE14 hE15
    clear a11 a14 a15
    refine then_normal ?_
    refine wp_seq (wp_region_lit ?_)
    refine st_val hE17 (y_move hE17 rfl) rfl fun a18 hE18 => st_val hE18 (y_add hE18 rfl rfl) rfl fun a19 hE19 => st_val hE19 (y_assign hE19 rfl) rfl fun a20 hE20 => wpList_nil ?_
    clear hE17 hE18 hE19
    clear a17 a18 a19
    refine then_normal ?_
    refine wp_seq (wp_region_lit ?_)
    refine st_val hE20 (y_move hE20 rfl) rfl fun a21 hE21 => st_val hE21 (y_move hE21 rfl) rfl fun a22 hE22 => st_val hE22 (y_move hE22 rfl) rfl fun a23 hE23 => ?_
    refine st_val hE23 (y_indexAddr (A := ⟨g12, 0, none⟩) hE23 (congrArg (fun A => some (Value.slice A p0.length cap0)) hA12) rfl (by omega) (by omega) sl59) rfl fun a24 hE24 => st_val hE24 (y_fieldAddr hE24 rfl fa39_1 rfl) rfl fun a25 hE25 => st_storeE (α := Entry) (k := 2) hE25 hS16 [.int .i64 s1_1, .int .i64 (IntKind.i64.wrap (s1_1 + 1)), .int .i64 ((nth y1_m0 i1).Tx), .slice A12_3 ((nth y1_m0 i1).Steps.length) cp12_3, .slice A12_4 ((nth y1_m0 i1).Answers.length) cp12_4, .int .i64 ((nth y1_m0 i1).Began), .int .i64 ((nth y1_m0 i1).Ended), .bool ((nth y1_m0 i1).Laid)] rfl rfl rfl (by rw [Int.toNat_natCast]; rfl) rfl (chkOne_size one3) rfl rfl rfl rfl fun w26 (hS26 : SH (Off [Ck.own (α := List Entry) [.slice A0 p0.length cap0] p0 F0] w) w w26 [Ck.own (α := List Step) [.slice A12_3 ((nth y1_m0 i1).Steps.length) cp12_3] ((nth y1_m0 i1).Steps) F12_3, Ck.own (α := List Answer) [.slice A12_4 ((nth y1_m0 i1).Answers.length) cp12_4] ((nth y1_m0 i1).Answers) F12_4, Ck.elem (α := Entry) g12 i1 cap0 [.int .i64 s1_1, .int .i64 (IntKind.i64.wrap (s1_1 + 1)), .int .i64 ((nth y1_m0 i1).Tx), .slice A12_3 ((nth y1_m0 i1).Steps.length) cp12_3, .slice A12_4 ((nth y1_m0 i1).Answers.length) cp12_4, .int .i64 ((nth y1_m0 i1).Began), .int .i64 ((nth y1_m0 i1).Ended), .bool ((nth y1_m0 i1).Laid)] y1_m0 Fo12]) a27 hE27 => wpList_nil ?_
    clear hE20 hE21 hE22 hE23 hE24 hE25
    clear a20 a21 a22 a23 a24 a25
    refine then_normal ?_
    refine wp_seq (wp_region_lit ?_)
    refine st_val hE27 (y_move hE27 rfl) rfl fun a28 hE28 => st_val hE28 (y_add hE28 rfl rfl) rfl fun a29 hE29 => st_val hE29 (y_assign hE29 rfl) rfl fun a30 hE30 => wpList_nil ?_
    clear hE27 hE28 hE29
    clear a27 a28 a29
    refine then_normal ?_
    refine wp_seq (wp_region_lit ?_)
    refine st_val hE30 (y_move hE30 rfl) rfl fun a31 hE31 => st_val hE31 (y_move hE31 rfl) rfl fun a32 hE32 => st_val hE32 (y_move hE32 rfl) rfl fun a33 hE33 => ?_
    refine st_val hE33 (y_indexAddr (A := ⟨g12, 0, none⟩) hE33 (congrArg (fun A => some (Value.slice A p0.length cap0)) hA12) rfl (by omega) (by omega) sl59) rfl fun a34 hE34 => st_val hE34 (y_fieldAddr hE34 rfl fa39_2 rfl) rfl fun a35 hE35 => st_storeE (α := Entry) (k := 2) hE35 hS26 [.int .i64 s1_1, .int .i64 (IntKind.i64.wrap (s1_1 + 1)), .int .i64 (IntKind.i64.wrap (IntKind.i64.wrap (s1_1 + 1) + 1)), .slice A12_3 ((nth y1_m0 i1).Steps.length) cp12_3, .slice A12_4 ((nth y1_m0 i1).Answers.length) cp12_4, .int .i64 ((nth y1_m0 i1).Began), .int .i64 ((nth y1_m0 i1).Ended), .bool ((nth y1_m0 i1).Laid)] rfl rfl rfl (by rw [Int.toNat_natCast]; rfl) rfl (chkOne_size one3) rfl rfl rfl rfl fun w36 (hS36 : SH (Off [Ck.own (α := List Entry) [.slice A0 p0.length cap0] p0 F0] w) w w36 [Ck.own (α := List Step) [.slice A12_3 ((nth y1_m0 i1).Steps.length) cp12_3] ((nth y1_m0 i1).Steps) F12_3, Ck.own (α := List Answer) [.slice A12_4 ((nth y1_m0 i1).Answers.length) cp12_4] ((nth y1_m0 i1).Answers) F12_4, Ck.elem (α := Entry) g12 i1 cap0 [.int .i64 s1_1, .int .i64 (IntKind.i64.wrap (s1_1 + 1)), .int .i64 (IntKind.i64.wrap (IntKind.i64.wrap (s1_1 + 1) + 1)), .slice A12_3 ((nth y1_m0 i1).Steps.length) cp12_3, .slice A12_4 ((nth y1_m0 i1).Answers.length) cp12_4, .int .i64 ((nth y1_m0 i1).Began), .int .i64 ((nth y1_m0 i1).Ended), .bool ((nth y1_m0 i1).Laid)] y1_m0 Fo12]) a37 hE37 => wpList_nil ?_
    clear hE30 hE31 hE32 hE33 hE34 hE35
    clear a30 a31 a32 a33 a34 a35
    refine then_normal ?_
    refine wp_seq (wp_region_lit ?_)
    refine st_val hE37 (y_move hE37 rfl) rfl fun a38 hE38 => st_val hE38 (y_add hE38 rfl rfl) rfl fun a39 hE39 => st_val hE39 (y_assign hE39 rfl) rfl fun a40 hE40 => wpList_nil ?_
    clear hE37 hE38 hE39
    clear a37 a38 a39
    refine then_normal ?_
    refine wp_seq (wp_region_lit ?_)
    refine st_val hE40 (y_move hE40 rfl) rfl fun a41 hE41 => st_val hE41 (y_move hE41 rfl) rfl fun a42 hE42 => ?_
    refine st_val hE42 (y_indexAddr (A := ⟨g12, 0, none⟩) hE42 (congrArg (fun A => some (Value.slice A p0.length cap0)) hA12) rfl (by omega) (by omega) sl59) rfl fun a43 hE43 => st_val hE43 (y_fieldAddr hE43 rfl fa39_3 rfl) rfl fun a44 hE44 => st_val hE44 (y_load_one hE44 rfl (hS36.elemCells (k := 2) (p := (((i1 : Int)).toNat * 8)) rfl (by rw [Int.toNat_natCast]; rfl)) rfl one36) rfl fun a45 hE45 => st_val hE45 (y_move hE45 rfl) rfl fun a46 hE46 => ?_
    have hP47 : SH (Off [Ck.own (α := List Entry) [.slice A0 p0.length cap0] p0 F0] w) w w36 (Ck.own (α := List Step) [.slice A12_3 ((nth y1_m0 i1).Steps.length) cp12_3] ((nth y1_m0 i1).Steps) F12_3 :: [Ck.own (α := List Answer) [.slice A12_4 ((nth y1_m0 i1).Answers.length) cp12_4] ((nth y1_m0 i1).Answers) F12_4, Ck.elem (α := Entry) g12 i1 cap0 [.int .i64 s1_1, .int .i64 (IntKind.i64.wrap (s1_1 + 1)), .int .i64 (IntKind.i64.wrap (IntKind.i64.wrap (s1_1 + 1) + 1)), .slice A12_3 ((nth y1_m0 i1).Steps.length) cp12_3, .slice A12_4 ((nth y1_m0 i1).Answers.length) cp12_4, .int .i64 ((nth y1_m0 i1).Began), .int .i64 ((nth y1_m0 i1).Ended), .bool ((nth y1_m0 i1).Laid)] y1_m0 Fo12]) := hS36
    refine st_callM (c := Ck.own (α := List Step) [.slice A12_3 ((nth y1_m0 i1).Steps.length) cp12_3] ((nth y1_m0 i1).Steps) F12_3) (c' := fun F47 => Ck.own (α := List Step) [.slice A12_3 ((nth y1_m0 i1).Steps.length) cp12_3] ((laws_markStepS ((nth y1_m0 i1).Steps) (IntKind.i64.wrap (IntKind.i64.wrap (IntKind.i64.wrap (s1_1 + 1) + 1) + 1))).1) F47) (R := I64 (laws_markStepS ((nth y1_m0 i1).Steps) (IntKind.i64.wrap (IntKind.i64.wrap (IntKind.i64.wrap (s1_1 + 1) + 1) + 1))).2) hE46 hP47 Tryd.func69 fb69 fn69 (c_laws_markStepS ((nth y1_m0 i1).Steps) (IntKind.i64.wrap (IntKind.i64.wrap (IntKind.i64.wrap (s1_1 + 1) + 1) + 1)) (SH.off (M := [Ck.own (α := List Step) [.slice A12_3 ((nth y1_m0 i1).Steps.length) cp12_3] ((nth y1_m0 i1).Steps) F12_3]) (R := [Ck.own (α := List Answer) [.slice A12_4 ((nth y1_m0 i1).Answers.length) cp12_4] ((nth y1_m0 i1).Answers) F12_4, Ck.elem (α := Entry) g12 i1 cap0 [.int .i64 s1_1, .int .i64 (IntKind.i64.wrap (s1_1 + 1)), .int .i64 (IntKind.i64.wrap (IntKind.i64.wrap (s1_1 + 1) + 1)), .slice A12_3 ((nth y1_m0 i1).Steps.length) cp12_3, .slice A12_4 ((nth y1_m0 i1).Answers.length) cp12_4, .int .i64 ((nth y1_m0 i1).Began), .int .i64 ((nth y1_m0 i1).Ended), .bool ((nth y1_m0 i1).Laid)] y1_m0 Fo12]) hP47) (I64_wrap _)) rfl rfl fun F47 w47 hR47 hS47 a48 hE48 => st_val hE48 (y_assign hE48 rfl) rfl fun a49 hE49 => wpList_nil ?_
    clear hE40 hE41 hE42 hE43 hE44 hE45 hE46 hE48
    clear a40 a41 a42 a43 a44 a45 a46 a48
    refine then_normal ?_
    refine wp_seq (wp_region_lit ?_)
    refine st_val hE49 (y_move hE49 rfl) rfl fun a50 hE50 => st_val hE50 (y_move hE50 rfl) rfl fun a51 hE51 => ?_
    refine st_val hE51 (y_indexAddr (A := ⟨g12, 0, none⟩) hE51 (congrArg (fun A => some (Value.slice A p0.length cap0)) hA12) rfl (by omega) (by omega) sl59) rfl fun a52 hE52 => st_val hE52 (y_fieldAddr hE52 rfl fa39_4 rfl) rfl fun a53 hE53 => st_val hE53 (y_load_one hE53 rfl (hS47.elemCells (k := 2) (p := (((i1 : Int)).toNat * 8)) rfl (by rw [Int.toNat_natCast]; rfl)) rfl one37) rfl fun a54 hE54 => st_val hE54 (y_move hE54 rfl) rfl fun a55 hE55 => ?_
    have hP56 : SH (Off [Ck.own (α := List Entry) [.slice A0 p0.length cap0] p0 F0] w) w w47 (Ck.own (α := List Answer) [.slice A12_4 ((nth y1_m0 i1).Answers.length) cp12_4] ((nth y1_m0 i1).Answers) F12_4 :: [Ck.own (α := List Step) [.slice A12_3 ((nth y1_m0 i1).Steps.length) cp12_3] ((laws_markStepS ((nth y1_m0 i1).Steps) (IntKind.i64.wrap (IntKind.i64.wrap (IntKind.i64.wrap (s1_1 + 1) + 1) + 1))).1) F47, Ck.elem (α := Entry) g12 i1 cap0 [.int .i64 s1_1, .int .i64 (IntKind.i64.wrap (s1_1 + 1)), .int .i64 (IntKind.i64.wrap (IntKind.i64.wrap (s1_1 + 1) + 1)), .slice A12_3 ((nth y1_m0 i1).Steps.length) cp12_3, .slice A12_4 ((nth y1_m0 i1).Answers.length) cp12_4, .int .i64 ((nth y1_m0 i1).Began), .int .i64 ((nth y1_m0 i1).Ended), .bool ((nth y1_m0 i1).Laid)] y1_m0 Fo12]) := (hS47.pick [1, 0, 2] (by decide) rfl)
    refine st_callM (c := Ck.own (α := List Answer) [.slice A12_4 ((nth y1_m0 i1).Answers.length) cp12_4] ((nth y1_m0 i1).Answers) F12_4) (c' := fun F56 => Ck.own (α := List Answer) [.slice A12_4 ((nth y1_m0 i1).Answers.length) cp12_4] ((laws_markAnswerS ((nth y1_m0 i1).Answers) ((laws_markStepS ((nth y1_m0 i1).Steps) (IntKind.i64.wrap (IntKind.i64.wrap (IntKind.i64.wrap (s1_1 + 1) + 1) + 1))).2)).1) F56) (R := I64 (laws_markAnswerS ((nth y1_m0 i1).Answers) ((laws_markStepS ((nth y1_m0 i1).Steps) (IntKind.i64.wrap (IntKind.i64.wrap (IntKind.i64.wrap (s1_1 + 1) + 1) + 1))).2)).2) hE55 hP56 Tryd.func70 fb70 fn70 (c_laws_markAnswerS ((nth y1_m0 i1).Answers) ((laws_markStepS ((nth y1_m0 i1).Steps) (IntKind.i64.wrap (IntKind.i64.wrap (IntKind.i64.wrap (s1_1 + 1) + 1) + 1))).2) (SH.off (M := [Ck.own (α := List Answer) [.slice A12_4 ((nth y1_m0 i1).Answers.length) cp12_4] ((nth y1_m0 i1).Answers) F12_4]) (R := [Ck.own (α := List Step) [.slice A12_3 ((nth y1_m0 i1).Steps.length) cp12_3] ((laws_markStepS ((nth y1_m0 i1).Steps) (IntKind.i64.wrap (IntKind.i64.wrap (IntKind.i64.wrap (s1_1 + 1) + 1) + 1))).1) F47, Ck.elem (α := Entry) g12 i1 cap0 [.int .i64 s1_1, .int .i64 (IntKind.i64.wrap (s1_1 + 1)), .int .i64 (IntKind.i64.wrap (IntKind.i64.wrap (s1_1 + 1) + 1)), .slice A12_3 ((nth y1_m0 i1).Steps.length) cp12_3, .slice A12_4 ((nth y1_m0 i1).Answers.length) cp12_4, .int .i64 ((nth y1_m0 i1).Began), .int .i64 ((nth y1_m0 i1).Ended), .bool ((nth y1_m0 i1).Laid)] y1_m0 Fo12]) hP56) hR47) rfl rfl fun F56 w56 hR56 hS56 a57 hE57 => st_val hE57 (y_assign hE57 rfl) rfl fun a58 hE58 => wpList_nil ?_
    clear hE49 hE50 hE51 hE52 hE53 hE54 hE55 hE57
    clear a49 a50 a51 a52 a53 a54 a55 a57
    refine then_normal ?_
    refine wp_seq (wp_region_lit ?_)
    refine st_val hE58 (y_move hE58 rfl) rfl fun a59 hE59 => st_val hE59 (y_move hE59 rfl) rfl fun a60 hE60 => st_val hE60 (y_move hE60 rfl) rfl fun a61 hE61 => ?_
    refine st_val hE61 (y_indexAddr (A := ⟨g12, 0, none⟩) hE61 (congrArg (fun A => some (Value.slice A p0.length cap0)) hA12) rfl (by omega) (by omega) sl59) rfl fun a62 hE62 => st_val hE62 (y_fieldAddr hE62 rfl fa39_5 rfl) rfl fun a63 hE63 => st_storeE (α := Entry) (k := 2) hE63 hS56 [.int .i64 s1_1, .int .i64 (IntKind.i64.wrap (s1_1 + 1)), .int .i64 (IntKind.i64.wrap (IntKind.i64.wrap (s1_1 + 1) + 1)), .slice A12_3 ((nth y1_m0 i1).Steps.length) cp12_3, .slice A12_4 ((nth y1_m0 i1).Answers.length) cp12_4, .int .i64 ((laws_markAnswerS ((nth y1_m0 i1).Answers) ((laws_markStepS ((nth y1_m0 i1).Steps) (IntKind.i64.wrap (IntKind.i64.wrap (IntKind.i64.wrap (s1_1 + 1) + 1) + 1))).2)).2), .int .i64 ((nth y1_m0 i1).Ended), .bool ((nth y1_m0 i1).Laid)] rfl rfl rfl (by rw [Int.toNat_natCast]; rfl) rfl (chkOne_size one3) rfl rfl rfl rfl fun w64 (hS64 : SH (Off [Ck.own (α := List Entry) [.slice A0 p0.length cap0] p0 F0] w) w w64 [Ck.own (α := List Answer) [.slice A12_4 ((nth y1_m0 i1).Answers.length) cp12_4] ((laws_markAnswerS ((nth y1_m0 i1).Answers) ((laws_markStepS ((nth y1_m0 i1).Steps) (IntKind.i64.wrap (IntKind.i64.wrap (IntKind.i64.wrap (s1_1 + 1) + 1) + 1))).2)).1) F56, Ck.own (α := List Step) [.slice A12_3 ((nth y1_m0 i1).Steps.length) cp12_3] ((laws_markStepS ((nth y1_m0 i1).Steps) (IntKind.i64.wrap (IntKind.i64.wrap (IntKind.i64.wrap (s1_1 + 1) + 1) + 1))).1) F47, Ck.elem (α := Entry) g12 i1 cap0 [.int .i64 s1_1, .int .i64 (IntKind.i64.wrap (s1_1 + 1)), .int .i64 (IntKind.i64.wrap (IntKind.i64.wrap (s1_1 + 1) + 1)), .slice A12_3 ((nth y1_m0 i1).Steps.length) cp12_3, .slice A12_4 ((nth y1_m0 i1).Answers.length) cp12_4, .int .i64 ((laws_markAnswerS ((nth y1_m0 i1).Answers) ((laws_markStepS ((nth y1_m0 i1).Steps) (IntKind.i64.wrap (IntKind.i64.wrap (IntKind.i64.wrap (s1_1 + 1) + 1) + 1))).2)).2), .int .i64 ((nth y1_m0 i1).Ended), .bool ((nth y1_m0 i1).Laid)] y1_m0 Fo12]) a65 hE65 => wpList_nil ?_
    clear hE58 hE59 hE60 hE61 hE62 hE63
    clear a58 a59 a60 a61 a62 a63
    refine then_normal ?_
    refine wp_seq (wp_region_lit ?_)
    refine st_val hE65 (y_move hE65 rfl) rfl fun a66 hE66 => st_val hE66 (y_add hE66 rfl rfl) rfl fun a67 hE67 => st_val hE67 (y_assign hE67 rfl) rfl fun a68 hE68 => wpList_nil ?_
    clear hE65 hE66 hE67
    clear a65 a66 a67
    refine then_normal ?_
    refine wp_seq (wp_region_lit ?_)
    refine st_val hE68 (y_move hE68 rfl) rfl fun a69 hE69 => st_val hE69 (y_move hE69 rfl) rfl fun a70 hE70 => st_val hE70 (y_move hE70 rfl) rfl fun a71 hE71 => ?_
    refine st_val hE71 (y_indexAddr (A := ⟨g12, 0, none⟩) hE71 (congrArg (fun A => some (Value.slice A p0.length cap0)) hA12) rfl (by omega) (by omega) sl59) rfl fun a72 hE72 => st_val hE72 (y_fieldAddr hE72 rfl fa39_6 rfl) rfl fun a73 hE73 => st_storeE (α := Entry) (k := 2) hE73 hS64 [.int .i64 s1_1, .int .i64 (IntKind.i64.wrap (s1_1 + 1)), .int .i64 (IntKind.i64.wrap (IntKind.i64.wrap (s1_1 + 1) + 1)), .slice A12_3 ((nth y1_m0 i1).Steps.length) cp12_3, .slice A12_4 ((nth y1_m0 i1).Answers.length) cp12_4, .int .i64 ((laws_markAnswerS ((nth y1_m0 i1).Answers) ((laws_markStepS ((nth y1_m0 i1).Steps) (IntKind.i64.wrap (IntKind.i64.wrap (IntKind.i64.wrap (s1_1 + 1) + 1) + 1))).2)).2), .int .i64 (IntKind.i64.wrap ((laws_markAnswerS ((nth y1_m0 i1).Answers) ((laws_markStepS ((nth y1_m0 i1).Steps) (IntKind.i64.wrap (IntKind.i64.wrap (IntKind.i64.wrap (s1_1 + 1) + 1) + 1))).2)).2 + 1)), .bool ((nth y1_m0 i1).Laid)] rfl rfl rfl (by rw [Int.toNat_natCast]; rfl) rfl (chkOne_size one3) rfl rfl rfl rfl fun w74 (hS74 : SH (Off [Ck.own (α := List Entry) [.slice A0 p0.length cap0] p0 F0] w) w w74 [Ck.own (α := List Answer) [.slice A12_4 ((nth y1_m0 i1).Answers.length) cp12_4] ((laws_markAnswerS ((nth y1_m0 i1).Answers) ((laws_markStepS ((nth y1_m0 i1).Steps) (IntKind.i64.wrap (IntKind.i64.wrap (IntKind.i64.wrap (s1_1 + 1) + 1) + 1))).2)).1) F56, Ck.own (α := List Step) [.slice A12_3 ((nth y1_m0 i1).Steps.length) cp12_3] ((laws_markStepS ((nth y1_m0 i1).Steps) (IntKind.i64.wrap (IntKind.i64.wrap (IntKind.i64.wrap (s1_1 + 1) + 1) + 1))).1) F47, Ck.elem (α := Entry) g12 i1 cap0 [.int .i64 s1_1, .int .i64 (IntKind.i64.wrap (s1_1 + 1)), .int .i64 (IntKind.i64.wrap (IntKind.i64.wrap (s1_1 + 1) + 1)), .slice A12_3 ((nth y1_m0 i1).Steps.length) cp12_3, .slice A12_4 ((nth y1_m0 i1).Answers.length) cp12_4, .int .i64 ((laws_markAnswerS ((nth y1_m0 i1).Answers) ((laws_markStepS ((nth y1_m0 i1).Steps) (IntKind.i64.wrap (IntKind.i64.wrap (IntKind.i64.wrap (s1_1 + 1) + 1) + 1))).2)).2), .int .i64 (IntKind.i64.wrap ((laws_markAnswerS ((nth y1_m0 i1).Answers) ((laws_markStepS ((nth y1_m0 i1).Steps) (IntKind.i64.wrap (IntKind.i64.wrap (IntKind.i64.wrap (s1_1 + 1) + 1) + 1))).2)).2 + 1)), .bool ((nth y1_m0 i1).Laid)] y1_m0 Fo12]) a75 hE75 => wpList_nil ?_
    clear hE68 hE69 hE70 hE71 hE72 hE73
    clear a68 a69 a70 a71 a72 a73
    refine then_normal ?_
    refine wp_seq (wp_region_lit ?_)
    refine st_val hE75 (y_move hE75 rfl) rfl fun a76 hE76 => st_val hE76 (y_add hE76 rfl rfl) rfl fun a77 hE77 => st_val hE77 (y_assign hE77 rfl) rfl fun a78 hE78 => wpList_nil ?_
    clear hE75 hE76 hE77
    clear a75 a76 a77
    refine then_normal ?_
    refine wp_seq (wp_region_lit ?_)
    refine st_val hE78 (y_move hE78 rfl) rfl fun a79 hE79 => st_val hE79 (y_move hE79 rfl) rfl fun a80 hE80 => st_val hE80 (y_move hE80 rfl) rfl fun a81 hE81 => st_val hE81 (y_rem hE81 rfl rfl (by decide)) rfl fun a82 hE82 => st_val hE82 (y_eql hE82 rfl rfl) rfl fun a83 hE83 => ?_
    refine st_val hE83 (y_indexAddr (A := ⟨g12, 0, none⟩) hE83 (congrArg (fun A => some (Value.slice A p0.length cap0)) hA12) rfl (by omega) (by omega) sl59) rfl fun a84 hE84 => st_val hE84 (y_fieldAddr hE84 rfl fa39_7 rfl) rfl fun a85 hE85 => st_storeE (α := Entry) (k := 2) hE85 hS74 [.int .i64 s1_1, .int .i64 (IntKind.i64.wrap (s1_1 + 1)), .int .i64 (IntKind.i64.wrap (IntKind.i64.wrap (s1_1 + 1) + 1)), .slice A12_3 ((nth y1_m0 i1).Steps.length) cp12_3, .slice A12_4 ((nth y1_m0 i1).Answers.length) cp12_4, .int .i64 ((laws_markAnswerS ((nth y1_m0 i1).Answers) ((laws_markStepS ((nth y1_m0 i1).Steps) (IntKind.i64.wrap (IntKind.i64.wrap (IntKind.i64.wrap (s1_1 + 1) + 1) + 1))).2)).2), .int .i64 (IntKind.i64.wrap ((laws_markAnswerS ((nth y1_m0 i1).Answers) ((laws_markStepS ((nth y1_m0 i1).Steps) (IntKind.i64.wrap (IntKind.i64.wrap (IntKind.i64.wrap (s1_1 + 1) + 1) + 1))).2)).2 + 1)), .bool (decide (Int.tmod (IntKind.i64.wrap (IntKind.i64.wrap ((laws_markAnswerS ((nth y1_m0 i1).Answers) ((laws_markStepS ((nth y1_m0 i1).Steps) (IntKind.i64.wrap (IntKind.i64.wrap (IntKind.i64.wrap (s1_1 + 1) + 1) + 1))).2)).2 + 1) + 1)) 3 = 0))] rfl rfl rfl (by rw [Int.toNat_natCast]; rfl) rfl (chkOne_size one4) rfl rfl rfl rfl fun w86 (hS86 : SH (Off [Ck.own (α := List Entry) [.slice A0 p0.length cap0] p0 F0] w) w w86 [Ck.own (α := List Answer) [.slice A12_4 ((nth y1_m0 i1).Answers.length) cp12_4] ((laws_markAnswerS ((nth y1_m0 i1).Answers) ((laws_markStepS ((nth y1_m0 i1).Steps) (IntKind.i64.wrap (IntKind.i64.wrap (IntKind.i64.wrap (s1_1 + 1) + 1) + 1))).2)).1) F56, Ck.own (α := List Step) [.slice A12_3 ((nth y1_m0 i1).Steps.length) cp12_3] ((laws_markStepS ((nth y1_m0 i1).Steps) (IntKind.i64.wrap (IntKind.i64.wrap (IntKind.i64.wrap (s1_1 + 1) + 1) + 1))).1) F47, Ck.elem (α := Entry) g12 i1 cap0 [.int .i64 s1_1, .int .i64 (IntKind.i64.wrap (s1_1 + 1)), .int .i64 (IntKind.i64.wrap (IntKind.i64.wrap (s1_1 + 1) + 1)), .slice A12_3 ((nth y1_m0 i1).Steps.length) cp12_3, .slice A12_4 ((nth y1_m0 i1).Answers.length) cp12_4, .int .i64 ((laws_markAnswerS ((nth y1_m0 i1).Answers) ((laws_markStepS ((nth y1_m0 i1).Steps) (IntKind.i64.wrap (IntKind.i64.wrap (IntKind.i64.wrap (s1_1 + 1) + 1) + 1))).2)).2), .int .i64 (IntKind.i64.wrap ((laws_markAnswerS ((nth y1_m0 i1).Answers) ((laws_markStepS ((nth y1_m0 i1).Steps) (IntKind.i64.wrap (IntKind.i64.wrap (IntKind.i64.wrap (s1_1 + 1) + 1) + 1))).2)).2 + 1)), .bool (decide (Int.tmod (IntKind.i64.wrap (IntKind.i64.wrap ((laws_markAnswerS ((nth y1_m0 i1).Answers) ((laws_markStepS ((nth y1_m0 i1).Steps) (IntKind.i64.wrap (IntKind.i64.wrap (IntKind.i64.wrap (s1_1 + 1) + 1) + 1))).2)).2 + 1) + 1)) 3 = 0))] y1_m0 Fo12]) a87 hE87 => wpList_nil ?_
    clear hE78 hE79 hE80 hE81 hE82 hE83 hE84 hE85
    clear a78 a79 a80 a81 a82 a83 a84 a85
    refine then_normal ?_
    refine wp_region_lit ?_
    refine st_val hE87 (y_move hE87 rfl) rfl fun a88 hE88 => st_val hE88 (y_add hE88 rfl rfl) rfl fun a89 hE89 => st_val hE89 (y_assign hE89 rfl) rfl fun a90 hE90 => wpList_nil ?_
    clear hE87 hE88 hE89
    clear a87 a88 a89
    refine blk_normal ?_
    refine then_normal ?_
    refine wp_region_lit ?_
    refine st_val hE90 (y_move hE90 rfl) rfl fun a91 hE91 => st_val hE91 (y_add_in hE91 rfl rfl (m := ((i1 + 1 : Nat) : Int)) (by omega) (by omega) (by omega)) rfl fun a92 hE92 => st_val hE92 (y_assign hE92 rfl) rfl fun a93 hE93 => wpList_nil ?_
    clear hE90 hE91 hE92
    clear a90 a91 a92
    have hJ94 := SH.joinP (L := [Ck.elem (α := Entry) g12 i1 cap0 [.int .i64 s1_1, .int .i64 (IntKind.i64.wrap (s1_1 + 1)), .int .i64 (IntKind.i64.wrap (IntKind.i64.wrap (s1_1 + 1) + 1)), .slice A12_3 ((nth y1_m0 i1).Steps.length) cp12_3, .slice A12_4 ((nth y1_m0 i1).Answers.length) cp12_4, .int .i64 ((laws_markAnswerS ((nth y1_m0 i1).Answers) ((laws_markStepS ((nth y1_m0 i1).Steps) (IntKind.i64.wrap (IntKind.i64.wrap (IntKind.i64.wrap (s1_1 + 1) + 1) + 1))).2)).2), .int .i64 (IntKind.i64.wrap ((laws_markAnswerS ((nth y1_m0 i1).Answers) ((laws_markStepS ((nth y1_m0 i1).Steps) (IntKind.i64.wrap (IntKind.i64.wrap (IntKind.i64.wrap (s1_1 + 1) + 1) + 1))).2)).2 + 1)), .bool (decide (Int.tmod (IntKind.i64.wrap (IntKind.i64.wrap ((laws_markAnswerS ((nth y1_m0 i1).Answers) ((laws_markStepS ((nth y1_m0 i1).Steps) (IntKind.i64.wrap (IntKind.i64.wrap (IntKind.i64.wrap (s1_1 + 1) + 1) + 1))).2)).2 + 1) + 1)) 3 = 0))] y1_m0 Fo12]) (M := [Ck.own (α := List Step) [.slice A12_3 ((nth y1_m0 i1).Steps.length) cp12_3] ((laws_markStepS ((nth y1_m0 i1).Steps) (IntKind.i64.wrap (IntKind.i64.wrap (IntKind.i64.wrap (s1_1 + 1) + 1) + 1))).1) F47, Ck.own (α := List Answer) [.slice A12_4 ((nth y1_m0 i1).Answers.length) cp12_4] ((laws_markAnswerS ((nth y1_m0 i1).Answers) ((laws_markStepS ((nth y1_m0 i1).Steps) (IntKind.i64.wrap (IntKind.i64.wrap (IntKind.i64.wrap (s1_1 + 1) + 1) + 1))).2)).1) F56]) (c := Ck.own (α := Entry) [.int .i64 s1_1, .int .i64 (IntKind.i64.wrap (s1_1 + 1)), .int .i64 (IntKind.i64.wrap (IntKind.i64.wrap (s1_1 + 1) + 1)), .slice A12_3 ((nth y1_m0 i1).Steps.length) cp12_3, .slice A12_4 ((nth y1_m0 i1).Answers.length) cp12_4, .int .i64 ((laws_markAnswerS ((nth y1_m0 i1).Answers) ((laws_markStepS ((nth y1_m0 i1).Steps) (IntKind.i64.wrap (IntKind.i64.wrap (IntKind.i64.wrap (s1_1 + 1) + 1) + 1))).2)).2), .int .i64 (IntKind.i64.wrap ((laws_markAnswerS ((nth y1_m0 i1).Answers) ((laws_markStepS ((nth y1_m0 i1).Steps) (IntKind.i64.wrap (IntKind.i64.wrap (IntKind.i64.wrap (s1_1 + 1) + 1) + 1))).2)).2 + 1)), .bool (decide (Int.tmod (IntKind.i64.wrap (IntKind.i64.wrap ((laws_markAnswerS ((nth y1_m0 i1).Answers) ((laws_markStepS ((nth y1_m0 i1).Steps) (IntKind.i64.wrap (IntKind.i64.wrap (IntKind.i64.wrap (s1_1 + 1) + 1) + 1))).2)).2 + 1) + 1)) 3 = 0))] (Entry.mk s1_1 (IntKind.i64.wrap (s1_1 + 1)) (IntKind.i64.wrap (IntKind.i64.wrap (s1_1 + 1) + 1)) ((laws_markStepS ((nth y1_m0 i1).Steps) (IntKind.i64.wrap (IntKind.i64.wrap (IntKind.i64.wrap (s1_1 + 1) + 1) + 1))).1) ((laws_markAnswerS ((nth y1_m0 i1).Answers) ((laws_markStepS ((nth y1_m0 i1).Steps) (IntKind.i64.wrap (IntKind.i64.wrap (IntKind.i64.wrap (s1_1 + 1) + 1) + 1))).2)).1) ((laws_markAnswerS ((nth y1_m0 i1).Answers) ((laws_markStepS ((nth y1_m0 i1).Steps) (IntKind.i64.wrap (IntKind.i64.wrap (IntKind.i64.wrap (s1_1 + 1) + 1) + 1))).2)).2) (IntKind.i64.wrap ((laws_markAnswerS ((nth y1_m0 i1).Answers) ((laws_markStepS ((nth y1_m0 i1).Steps) (IntKind.i64.wrap (IntKind.i64.wrap (IntKind.i64.wrap (s1_1 + 1) + 1) + 1))).2)).2 + 1)) (decide (Int.tmod (IntKind.i64.wrap (IntKind.i64.wrap ((laws_markAnswerS ((nth y1_m0 i1).Answers) ((laws_markStepS ((nth y1_m0 i1).Steps) (IntKind.i64.wrap (IntKind.i64.wrap (IntKind.i64.wrap (s1_1 + 1) + 1) + 1))).2)).2 + 1) + 1)) 3 = 0))) (F47 ++ (F56 ++ []))) (hS86.pick [1, 0, 2] (by decide) rfl) (List.Perm.of_eq (by simp only [Ck.own, List.flatMap_cons, List.flatMap_nil, List.append_nil, List.append_assoc])) (ok_st (Entry_own (x := (Entry.mk s1_1 (IntKind.i64.wrap (s1_1 + 1)) (IntKind.i64.wrap (IntKind.i64.wrap (s1_1 + 1) + 1)) ((laws_markStepS ((nth y1_m0 i1).Steps) (IntKind.i64.wrap (IntKind.i64.wrap (IntKind.i64.wrap (s1_1 + 1) + 1) + 1))).1) ((laws_markAnswerS ((nth y1_m0 i1).Answers) ((laws_markStepS ((nth y1_m0 i1).Steps) (IntKind.i64.wrap (IntKind.i64.wrap (IntKind.i64.wrap (s1_1 + 1) + 1) + 1))).2)).1) ((laws_markAnswerS ((nth y1_m0 i1).Answers) ((laws_markStepS ((nth y1_m0 i1).Steps) (IntKind.i64.wrap (IntKind.i64.wrap (IntKind.i64.wrap (s1_1 + 1) + 1) + 1))).2)).2) (IntKind.i64.wrap ((laws_markAnswerS ((nth y1_m0 i1).Answers) ((laws_markStepS ((nth y1_m0 i1).Steps) (IntKind.i64.wrap (IntKind.i64.wrap (IntKind.i64.wrap (s1_1 + 1) + 1) + 1))).2)).2 + 1)) (decide (Int.tmod (IntKind.i64.wrap (IntKind.i64.wrap ((laws_markAnswerS ((nth y1_m0 i1).Answers) ((laws_markStepS ((nth y1_m0 i1).Steps) (IntKind.i64.wrap (IntKind.i64.wrap (IntKind.i64.wrap (s1_1 + 1) + 1) + 1))).2)).2 + 1) + 1)) 3 = 0)))) hgis1_1 (I64_wrap _) (I64_wrap _) (hS86.slO (k := 1) rfl) (hS86.slO (k := 0) rfl) hR56 (I64_wrap _)))
    obtain ⟨F94, hS94⟩ := SH.unfocus (α := Entry) (L := []) hJ94 hA12 hn12 (by omega)
    refine then_normal ⟨fu1, Nat.lt_succ_self _, (i1 + 1), IntKind.i64.wrap (IntKind.i64.wrap (IntKind.i64.wrap ((laws_markAnswerS ((nth y1_m0 i1).Answers) ((laws_markStepS ((nth y1_m0 i1).Steps) (IntKind.i64.wrap (IntKind.i64.wrap (IntKind.i64.wrap (s1_1 + 1) + 1) + 1))).2)).2 + 1) + 1) + 1), (y1_m0.set i1 (Entry.mk s1_1 (IntKind.i64.wrap (s1_1 + 1)) (IntKind.i64.wrap (IntKind.i64.wrap (s1_1 + 1) + 1)) ((laws_markStepS ((nth y1_m0 i1).Steps) (IntKind.i64.wrap (IntKind.i64.wrap (IntKind.i64.wrap (s1_1 + 1) + 1) + 1))).1) ((laws_markAnswerS ((nth y1_m0 i1).Answers) ((laws_markStepS ((nth y1_m0 i1).Steps) (IntKind.i64.wrap (IntKind.i64.wrap (IntKind.i64.wrap (s1_1 + 1) + 1) + 1))).2)).1) ((laws_markAnswerS ((nth y1_m0 i1).Answers) ((laws_markStepS ((nth y1_m0 i1).Steps) (IntKind.i64.wrap (IntKind.i64.wrap (IntKind.i64.wrap (s1_1 + 1) + 1) + 1))).2)).2) (IntKind.i64.wrap ((laws_markAnswerS ((nth y1_m0 i1).Answers) ((laws_markStepS ((nth y1_m0 i1).Steps) (IntKind.i64.wrap (IntKind.i64.wrap (IntKind.i64.wrap (s1_1 + 1) + 1) + 1))).2)).2 + 1)) (decide (Int.tmod (IntKind.i64.wrap (IntKind.i64.wrap ((laws_markAnswerS ((nth y1_m0 i1).Answers) ((laws_markStepS ((nth y1_m0 i1).Steps) (IntKind.i64.wrap (IntKind.i64.wrap (IntKind.i64.wrap (s1_1 + 1) + 1) + 1))).2)).2 + 1) + 1)) 3 = 0)))), F94, by omega, by omega, .inl (by omega), (I64_wrap _), hM, hE93.weaken ⟨rfl, rfl, rfl, trivial⟩, hS94⟩
  ·
    have hge1 : ¬ i1 < p0.length := by have := of_decide_eq_false hb8; omega
    obtain rfl : fu1 = 0 := by omega
    have hM := hM.trans (laws_markEntryS_l1.eq_1 _ _ _ _ _)
    refine wp_exit ?_
    refine then_exit ?_
    refine then_exit ?_
    refine blk_exit ?_
    refine then_normal ?_
    refine wp_seq (wp_region_lit ?_)
    refine st_val hE7 (y_move hE7 rfl) rfl fun a95 hE95 => st_val hE95 (y_assign hE95 rfl) rfl fun a96 hE96 => wpList_nil ?_
    clear hE7 hE95
    clear a7 a95
    refine then_normal ?_
    refine wp_ret ?_
    refine fin1 hE96 rfl rfl ?_
    rw [hM]
    exact ⟨rfl, hgis1_1, Fy1_m0, hS3⟩

end Go.Proofs.YtpfnofdaaekglaaDoor.Fw
