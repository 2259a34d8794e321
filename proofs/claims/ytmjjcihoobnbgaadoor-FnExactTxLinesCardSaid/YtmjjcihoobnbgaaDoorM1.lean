/- Contracts: each call returns what the model says. By program (wip/gen). -/
import Derived.Test.YtmjjcihoobnbgaaDoorM0
namespace Go.Proofs.YtmjjcihoobnbgaaDoor.Fw
open Go.RowKit
set_option linter.unusedVariables false
set_option linter.unusedSimpArgs false

theorem fa122_0 : chkField Tryd.prog 122 0 0 = true := by kernel_rfl
theorem fa122_1 : chkField Tryd.prog 122 1 1 = true := by kernel_rfl
theorem fa122_2 : chkField Tryd.prog 122 2 2 = true := by kernel_rfl
theorem fb71 : Tryd.f71.body.isNone = false := rfl
theorem fn71 : (Tryd.f71.name == "runtime.NumGoroutine") = false := by kernel_rfl
theorem mixed : Tryd.prog.follows .mixedOrders = true := by kernel_rfl
theorem one3 : chkOne Tryd.prog 3 = true := by kernel_rfl
theorem one9 : chkOne Tryd.prog 9 = true := by kernel_rfl
theorem sl43 : chkSlice Tryd.prog 43 9 1 16 = true := by kernel_rfl
theorem sl87 : chkSlice Tryd.prog 87 122 3 32 = true := by kernel_rfl

/- F29 loop.example/g00974/laws.markStringS -/
def laws_markStringS_l1 (p0 : List ByteArray) (p1 : Int) : Nat → Nat → Int → List ByteArray → List ByteArray × Int
  | 0, i1, s1_1, y1_m0 => (y1_m0, s1_1)
  | fu1 + 1, i1, s1_1, y1_m0 => laws_markStringS_l1 p0 p1 fu1 (i1 + 1) (IntKind.i64.wrap (s1_1 + 1)) (y1_m0.set i1 (laws_markText s1_1))
def laws_markStringS (p0 : List ByteArray) (p1 : Int) : List ByteArray × Int := laws_markStringS_l1 p0 p1 (p0.length - 0) 0 p1 p0
theorem c_laws_markStringS {v0 : Value} (p0 : List ByteArray) {F0 : List Nat} (p1 : Int) {w : World} (hMu0 : SH (Off [Ck.own (α := List ByteArray) [v0] p0 F0] w) w w [Ck.own (α := List ByteArray) [v0] p0 F0]) (hi1 : I64 p1) :
    Calls Tryd.prog 29 [v0, .int .i64 p1].toArray w (fun e w' => e = .returned (.int .i64 (laws_markStringS p0 p1).2) ∧ I64 (laws_markStringS p0 p1).2 ∧ ∃ F', SH (Off [Ck.own (α := List ByteArray) [v0] p0 F0] w) w w' [Ck.own (α := List ByteArray) [v0] (laws_markStringS p0 p1).1 F']) := by
  obtain ⟨A0, cap0, rfl, hx0⟩ := (hMu0.slO (k := 0) rfl).form
  refine enter Tryd.func29 rfl Tryd.ntmps29 (Nat.le_of_ble_eq_true rfl) ?_
  intro a0 hE0
  have hS0 := hMu0
  have hM := laws_markStringS.eq_1 p0 p1
  have hij1 : -9223372036854775808 ≤ p1 ∧ p1 ≤ 9223372036854775807 := hi1
  refine wp_seq (wp_region_lit ?_)
  refine st_val hE0 (y_assign hE0 rfl) rfl fun a1 hE1 => wpList_nil ?_
  clear hE0
  clear a0
  refine then_normal ?_
  refine wp_seq (wp_seq (wp_region_lit ?_))
  refine st_val hE1 (y_assign hE1 rfl) rfl fun a2 hE2 => wpList_nil ?_
  clear hE1
  clear a1
  refine then_normal ?_
  refine wp_block (wp_loop_ghost (fun fu1 a w2 => ∃ (i1 : Nat) (s1_1 : Int) (y1_m0 : List ByteArray) (Fy1_m0 : List Nat), 0 ≤ i1 ∧ fu1 = p0.length - i1 ∧ (i1 ≤ p0.length ∨ i1 = 0) ∧ I64 s1_1 ∧ laws_markStringS p0 p1 = laws_markStringS_l1 p0 p1 fu1 i1 s1_1 y1_m0 ∧ Env 20 [(0, .slice A0 p0.length cap0), (1, .int .i64 s1_1), (5, .int .i64 (i1 : Int))] a ∧ SH (Off [Ck.own (α := List ByteArray) [.slice A0 p0.length cap0] p0 F0] w) w w2 [Ck.own (α := List ByteArray) [.slice A0 p0.length cap0] y1_m0 Fy1_m0]) (p0.length - 0) ⟨0, p1, p0, F0, Nat.le_refl _, rfl, .inr rfl, hi1, hM, hE2.weaken ⟨rfl, rfl, rfl, trivial⟩, hS0⟩ ?_)
  clear hM hE2
  rintro fu1 a3 w3 ⟨i1, s1_1, y1_m0, Fy1_m0, hi1, hfu1, hup1, hgis1_1, hM, hE3, hS3⟩
  have hlry1_m0 := hS3.lenrow (k := 0) rfl
  refine wp_seq (wp_seq (wp_region_lit ?_))
  refine st_val hE3 (y_move hE3 rfl) rfl fun a4 hE4 => st_val hE4 (y_move hE4 rfl) rfl fun a5 hE5 => st_val hE5 (y_len_slice hE5 rfl sl43) rfl fun a6 hE6 => st_val hE6 (y_lss hE6 rfl rfl) rfl fun a7 hE7 => wpList_nil ?_
  clear hE3 hE4 hE5 hE6
  clear a3 a4 a5 a6
  refine then_normal ?_
  refine cond_split hE7 rfl (fun hb8 => ?_) (fun hb8 => ?_)
  ·
    have hlt1 : i1 < p0.length := by have := of_decide_eq_true hb8; omega
    obtain ⟨fu1, rfl⟩ : ∃ m, fu1 = m + 1 := ⟨fu1 - 1, by omega⟩
    have hM := hM.trans (laws_markStringS_l1.eq_2 _ _ _ _ _ _)
    refine wp_skip ?_
    refine then_normal ?_
    refine wp_seq (wp_block (wp_seq (wp_region_lit ?_)))
    refine st_val hE7 (y_move hE7 rfl) rfl fun a9 hE9 => st_val hE9 (y_move hE9 rfl) rfl fun a10 hE10 => st_val hE10 (y_move hE10 rfl) rfl fun a11 hE11 => st_callF hE11 hS3 Tryd.func71 fb71 fn71 (c_laws_markText s1_1 hgis1_1) rfl rfl fun w12 hS12 a13 hE13 => ?_
    clear hE7 hE9 hE10 hE11
    clear a7 a9 a10 a11
    have hlr14 := hS12.lenrow (k := 0) rfl
    obtain ⟨g14, ce14, Fo14, G14, hA14, hn14, hF14⟩ := SH.focus (L := []) hS12 (i := i1) (by omega)
    obtain ⟨⟨rfl, hg14⟩, rfl⟩ := (show Dat.own w12 ce14 (nth y1_m0 i1) G14 from hF14.get (k := 0) rfl)
    have hS15 := hF14.drop (k := 1)
    refine st_val hE13 (y_indexAddr (A := ⟨g14, 0, none⟩) hE13 (congrArg (fun A => some (Value.slice A p0.length cap0)) hA14) rfl (by omega) (by omega) sl43) rfl fun a16 hE16 => st_storeE (α := ByteArray) (k := 0) hE16 hS15 [.string (laws_markText s1_1)] rfl rfl rfl (by rw [Int.toNat_natCast]; rfl) rfl (chkOne_size one9) rfl rfl rfl rfl fun w17 (hS17 : SH (Off [Ck.own (α := List ByteArray) [.slice A0 p0.length cap0] p0 F0] w) w w17 [Ck.elem (α := ByteArray) g14 i1 cap0 [.string (laws_markText s1_1)] y1_m0 Fo14]) a18 hE18 => wpList_nil ?_
    clear hE13 hE16
    clear a13 a16
    refine then_normal ?_
    refine wp_region_lit ?_
    refine st_val hE18 (y_move hE18 rfl) rfl fun a19 hE19 => st_val hE19 (y_add hE19 rfl rfl) rfl fun a20 hE20 => st_val hE20 (y_assign hE20 rfl) rfl fun a21 hE21 => wpList_nil ?_
    clear hE18 hE19 hE20
    clear a18 a19 a20
    refine blk_normal ?_
    refine then_normal ?_
    refine wp_region_lit ?_
    refine st_val hE21 (y_move hE21 rfl) rfl fun a22 hE22 => st_val hE22 (y_add_in hE22 rfl rfl (m := ((i1 + 1 : Nat) : Int)) (by omega) (by omega) (by omega)) rfl fun a23 hE23 => st_val hE23 (y_assign hE23 rfl) rfl fun a24 hE24 => wpList_nil ?_
    clear hE21 hE22 hE23
    clear a21 a22 a23
    have hJ25 := SH.flat (L := [Ck.elem (α := ByteArray) g14 i1 cap0 [.string (laws_markText s1_1)] y1_m0 Fo14]) (α := ByteArray) (cs := [.string (laws_markText s1_1)]) (x := (laws_markText s1_1)) hS17 (fun _ => ⟨⟨rfl, (laws_markText_good (by first | assumption | exact I64_wrap _))⟩, rfl⟩)
    obtain ⟨F25, hS25⟩ := SH.unfocus (α := ByteArray) (L := []) hJ25 hA14 hn14 (by omega)
    refine then_normal ⟨fu1, Nat.lt_succ_self _, (i1 + 1), IntKind.i64.wrap (s1_1 + 1), (y1_m0.set i1 (laws_markText s1_1)), F25, by omega, by omega, .inl (by omega), (I64_wrap _), hM, hE24.weaken ⟨rfl, rfl, rfl, trivial⟩, hS25⟩
  ·
    have hge1 : ¬ i1 < p0.length := by have := of_decide_eq_false hb8; omega
    obtain rfl : fu1 = 0 := by omega
    have hM := hM.trans (laws_markStringS_l1.eq_1 _ _ _ _ _)
    refine wp_exit ?_
    refine then_exit ?_
    refine then_exit ?_
    refine blk_exit ?_
    refine then_normal ?_
    refine wp_seq (wp_region_lit ?_)
    refine st_val hE7 (y_move hE7 rfl) rfl fun a26 hE26 => st_val hE26 (y_assign hE26 rfl) rfl fun a27 hE27 => wpList_nil ?_
    clear hE7 hE26
    clear a7 a26
    refine then_normal ?_
    refine wp_ret ?_
    refine fin1 hE27 rfl rfl ?_
    rw [hM]
    exact ⟨rfl, hgis1_1, Fy1_m0, hS3⟩

/- F30 loop.example/g00974/laws.heldStringS -/
def laws_heldStringS_l1 (p0 : List ByteArray) (p1 : Int) : Nat → Nat → Int → Int
  | 0, i1, s1_1 => s1_1
  | fu1 + 1, i1, s1_1 => (if (!decide ((nth p0 i1) = (laws_markText s1_1))) = true then (-1) else laws_heldStringS_l1 p0 p1 fu1 (i1 + 1) (IntKind.i64.wrap (s1_1 + 1)))
def laws_heldStringS (p0 : List ByteArray) (p1 : Int) : Int := laws_heldStringS_l1 p0 p1 (p0.length - 0) 0 p1
theorem c_laws_heldStringS {v0 : Value} (p0 : List ByteArray) (p1 : Int) {w : World} (hp0 : SlR (Old w) w v0 p0) (hi1 : I64 p1) :
    Calls Tryd.prog 30 [v0, .int .i64 p1].toArray w (fun e w' => e = .returned (.int .i64 (laws_heldStringS p0 p1)) ∧ Below w.heap.size w w') := by
  obtain ⟨A0, cap0, rfl, hx0⟩ := hp0.form
  refine enter Tryd.func30 rfl Tryd.ntmps30 (Nat.le_of_ble_eq_true rfl) ?_
  intro a0 hE0
  have hS0 := SH.start w
  have hM := laws_heldStringS.eq_1 p0 p1
  have hij1 : -9223372036854775808 ≤ p1 ∧ p1 ≤ 9223372036854775807 := hi1
  refine wp_seq (wp_region_lit ?_)
  refine st_val hE0 (y_assign hE0 rfl) rfl fun a1 hE1 => wpList_nil ?_
  clear hE0
  clear a0
  refine then_normal ?_
  refine wp_seq (wp_seq (wp_region_lit ?_))
  refine st_val hE1 (y_assign hE1 rfl) rfl fun a2 hE2 => wpList_nil ?_
  clear hE1
  clear a1
  refine then_normal ?_
  refine wp_block (wp_loop_ghost (fun fu1 a w2 => ∃ (i1 : Nat) (s1_1 : Int), 0 ≤ i1 ∧ fu1 = p0.length - i1 ∧ I64 s1_1 ∧ laws_heldStringS p0 p1 = laws_heldStringS_l1 p0 p1 fu1 i1 s1_1 ∧ Env 22 [(0, .slice A0 p0.length cap0), (1, .int .i64 s1_1), (5, .int .i64 (i1 : Int))] a ∧ SH (Old w) w w2 []) (p0.length - 0) ⟨0, p1, Nat.le_refl _, rfl, hi1, hM, hE2.weaken ⟨rfl, rfl, rfl, trivial⟩, hS0⟩ ?_)
  clear hM hE2
  rintro fu1 a3 w3 ⟨i1, s1_1, hi1, hfu1, hgis1_1, hM, hE3, hS3⟩
  refine wp_seq (wp_seq (wp_region_lit ?_))
  refine st_val hE3 (y_move hE3 rfl) rfl fun a4 hE4 => st_val hE4 (y_move hE4 rfl) rfl fun a5 hE5 => st_val hE5 (y_len_slice hE5 rfl sl43) rfl fun a6 hE6 => st_val hE6 (y_lss hE6 rfl rfl) rfl fun a7 hE7 => wpList_nil ?_
  clear hE3 hE4 hE5 hE6
  clear a3 a4 a5 a6
  refine then_normal ?_
  refine cond_split hE7 rfl (fun hb8 => ?_) (fun hb8 => ?_)
  ·
    have hlt1 : i1 < p0.length := by have := of_decide_eq_true hb8; omega
    obtain ⟨fu1, rfl⟩ : ∃ m, fu1 = m + 1 := ⟨fu1 - 1, by omega⟩
    have hM := hM.trans (laws_heldStringS_l1.eq_2 _ _ _ _ _)
    refine wp_skip ?_
    refine then_normal ?_
    refine wp_seq (wp_block (wp_seq (wp_seq (reg_quiet mixed (by kernel_rfl) hS3 ?_))))
    refine q_val hE7 (fun w3 hS3 => y_move hE7 rfl) rfl fun a9 hE9 => q_val hE9 (fun w3 hS3 => y_move hE9 rfl) rfl fun a10 hE10 => q_index hE10 hp0 rfl rfl rfl (by omega) sl43 rfl fun ad11 cs11 hr11 hc11 hl11 a12 hE12 => ?_
    obtain ⟨rfl, hg11⟩ := hr11
    refine q_val hE12 (fun w3 hS3 => y_load_one hE12 rfl (hS3.upc hc11 hl11) rfl one9) rfl fun a13 hE13 => q_val hE13 (fun w3 hS3 => y_move hE13 rfl) rfl fun a14 hE14 => q_call hE14 Tryd.func71 fb71 fn71 (fun w3 hS3 => (c_laws_markText s1_1 hgis1_1)) rfl rfl fun a15 hE15 => q_val hE15 (fun w3 hS3 => y_neq_string hE15 rfl rfl) rfl fun a16 hE16 => ?_
    refine q_nil fun w17 hS17 => ?_
    clear hE7 hE9 hE10 hE12 hE13 hE14 hE15
    clear a7 a9 a10 a12 a13 a14 a15
    refine then_normal ?_
    refine cond_split hE16 rfl (fun hb18 => ?_) (fun hb18 => ?_)
    ·
      have hM := hM.trans (if_t hb18)
      refine wp_seq (wp_region_lit ?_)
      refine st_val hE16 (y_assign hE16 rfl) rfl fun a19 hE19 => wpList_nil ?_
      clear hE16
      clear a16
      refine then_normal ?_
      refine wp_ret ?_
      refine then_ret ?_
      refine blk_ret ?_
      refine then_ret ?_
      refine then_ret ?_
      refine blk_ret ?_
      refine then_ret ?_
      exact fin1 hE19 rfl rfl ⟨by rw [hM], hS17.below⟩
    ·
      have hM := hM.trans (if_f hb18)
      refine wp_skip ?_
      refine then_normal ?_
      refine wp_region_lit ?_
      refine st_val hE16 (y_move hE16 rfl) rfl fun a20 hE20 => st_val hE20 (y_add hE20 rfl rfl) rfl fun a21 hE21 => st_val hE21 (y_assign hE21 rfl) rfl fun a22 hE22 => wpList_nil ?_
      clear hE16 hE20 hE21
      clear a16 a20 a21
      refine blk_normal ?_
      refine then_normal ?_
      refine wp_region_lit ?_
      refine st_val hE22 (y_move hE22 rfl) rfl fun a23 hE23 => st_val hE23 (y_add_in hE23 rfl rfl (m := ((i1 + 1 : Nat) : Int)) (by omega) (by omega) (by omega)) rfl fun a24 hE24 => st_val hE24 (y_assign hE24 rfl) rfl fun a25 hE25 => wpList_nil ?_
      clear hE22 hE23 hE24
      clear a22 a23 a24
      refine then_normal ⟨fu1, Nat.lt_succ_self _, (i1 + 1), IntKind.i64.wrap (s1_1 + 1), by omega, by omega, (I64_wrap _), hM, hE25.weaken ⟨rfl, rfl, rfl, trivial⟩, hS17⟩
  ·
    have hge1 : ¬ i1 < p0.length := by have := of_decide_eq_false hb8; omega
    obtain rfl : fu1 = 0 := by omega
    have hM := hM.trans (laws_heldStringS_l1.eq_1 _ _ _ _)
    refine wp_exit ?_
    refine then_exit ?_
    refine then_exit ?_
    refine blk_exit ?_
    refine then_normal ?_
    refine wp_seq (wp_region_lit ?_)
    refine st_val hE7 (y_move hE7 rfl) rfl fun a26 hE26 => st_val hE26 (y_assign hE26 rfl) rfl fun a27 hE27 => wpList_nil ?_
    clear hE7 hE26
    clear a7 a26
    refine then_normal ?_
    refine wp_ret ?_
    exact fin1 hE27 rfl rfl ⟨by rw [hM], hS3.below⟩

/- F26 loop.example/g00974/laws.eqStringS -/
def laws_eqStringS_l1 (p0 : List ByteArray) (p1 : List ByteArray) : Nat → Nat → Bool
  | 0, i1 => true
  | fu1 + 1, i1 => (if (!decide ((nth p0 i1) = (nth p1 i1))) = true then false else laws_eqStringS_l1 p0 p1 fu1 (i1 + 1) )
def laws_eqStringS (p0 : List ByteArray) (p1 : List ByteArray) : Bool := (if (!decide ((p0.length : Int) = (p1.length : Int))) = true then false else laws_eqStringS_l1 p0 p1 (p0.length - 0) 0 )
theorem c_laws_eqStringS {v0 : Value} (p0 : List ByteArray) {v1 : Value} (p1 : List ByteArray) {w : World} (hp0 : SlR (Old w) w v0 p0) (hp1 : SlR (Old w) w v1 p1) :
    Calls Tryd.prog 26 [v0, v1].toArray w (fun e w' => e = .returned (.bool (laws_eqStringS p0 p1)) ∧ Below w.heap.size w w') := by
  obtain ⟨A0, cap0, rfl, hx0⟩ := hp0.form
  obtain ⟨A1, cap1, rfl, hx1⟩ := hp1.form
  refine enter Tryd.func26 rfl Tryd.ntmps26 (Nat.le_of_ble_eq_true rfl) ?_
  intro a0 hE0
  have hS0 := SH.start w
  have hM := laws_eqStringS.eq_1 p0 p1
  refine wp_seq (wp_region_lit ?_)
  refine st_val hE0 (y_assign hE0 rfl) rfl fun a1 hE1 => wpList_nil ?_
  clear hE0
  clear a0
  refine then_normal ?_
  refine wp_seq (wp_seq (wp_region_lit ?_))
  refine st_val hE1 (y_move hE1 rfl) rfl fun a2 hE2 => st_val hE2 (y_len_slice hE2 rfl sl43) rfl fun a3 hE3 => st_val hE3 (y_move hE3 rfl) rfl fun a4 hE4 => st_val hE4 (y_len_slice hE4 rfl sl43) rfl fun a5 hE5 => st_val hE5 (y_neq hE5 rfl rfl) rfl fun a6 hE6 => wpList_nil ?_
  clear hE1 hE2 hE3 hE4 hE5
  clear a1 a2 a3 a4 a5
  refine then_normal ?_
  refine cond_split hE6 rfl (fun hb7 => ?_) (fun hb7 => ?_)
  ·
    have hM := hM.trans (if_t hb7)
    have hb7f : ¬ ((p0.length : Int) = (p1.length : Int)) := by simpa using hb7
    refine wp_seq (wp_region_lit ?_)
    refine st_val hE6 (y_assign hE6 rfl) rfl fun a8 hE8 => wpList_nil ?_
    clear hE6
    clear a6
    refine then_normal ?_
    refine wp_ret ?_
    refine then_ret ?_
    exact fin1 hE8 rfl rfl ⟨by rw [hM], hS0.below⟩
  ·
    have hM := hM.trans (if_f hb7)
    have hb7f : (p0.length : Int) = (p1.length : Int) := by simpa using hb7
    refine wp_skip ?_
    refine then_normal ?_
    refine wp_seq (wp_seq (wp_region_lit ?_))
    refine st_val hE6 (y_assign hE6 rfl) rfl fun a9 hE9 => wpList_nil ?_
    clear hE6
    clear a6
    refine then_normal ?_
    refine wp_block (wp_loop_ghost (fun fu1 a w2 => ∃ (i1 : Nat), 0 ≤ i1 ∧ fu1 = p0.length - i1 ∧ laws_eqStringS p0 p1 = laws_eqStringS_l1 p0 p1 fu1 i1  ∧ Env 26 [(0, .slice A0 p0.length cap0), (1, .slice A1 p1.length cap1), (5, .int .i64 (i1 : Int))] a ∧ SH (Old w) w w2 []) (p0.length - 0) ⟨0, Nat.le_refl _, rfl, hM, hE9.weaken ⟨rfl, rfl, rfl, trivial⟩, hS0⟩ ?_)
    clear hM hE9
    rintro fu1 a10 w10 ⟨i1, hi1, hfu1, hM, hE10, hS10⟩
    refine wp_seq (wp_seq (wp_region_lit ?_))
    refine st_val hE10 (y_move hE10 rfl) rfl fun a11 hE11 => st_val hE11 (y_move hE11 rfl) rfl fun a12 hE12 => st_val hE12 (y_len_slice hE12 rfl sl43) rfl fun a13 hE13 => st_val hE13 (y_lss hE13 rfl rfl) rfl fun a14 hE14 => wpList_nil ?_
    clear hE10 hE11 hE12 hE13
    clear a10 a11 a12 a13
    refine then_normal ?_
    refine cond_split hE14 rfl (fun hb15 => ?_) (fun hb15 => ?_)
    ·
      have hlt1 : i1 < p0.length := by have := of_decide_eq_true hb15; omega
      obtain ⟨fu1, rfl⟩ : ∃ m, fu1 = m + 1 := ⟨fu1 - 1, by omega⟩
      have hM := hM.trans (laws_eqStringS_l1.eq_2 _ _ _ _)
      refine wp_skip ?_
      refine then_normal ?_
      refine wp_seq (wp_block (wp_seq (reg_quiet mixed (by kernel_rfl) hS10 ?_)))
      refine q_val hE14 (fun w10 hS10 => y_move hE14 rfl) rfl fun a16 hE16 => q_val hE16 (fun w10 hS10 => y_move hE16 rfl) rfl fun a17 hE17 => q_index hE17 hp0 rfl rfl rfl (by omega) sl43 rfl fun ad18 cs18 hr18 hc18 hl18 a19 hE19 => ?_
      obtain ⟨rfl, hg18⟩ := hr18
      refine q_val hE19 (fun w10 hS10 => y_load_one hE19 rfl (hS10.upc hc18 hl18) rfl one9) rfl fun a20 hE20 => q_val hE20 (fun w10 hS10 => y_move hE20 rfl) rfl fun a21 hE21 => q_val hE21 (fun w10 hS10 => y_move hE21 rfl) rfl fun a22 hE22 => q_index hE22 hp1 rfl rfl rfl (by omega) sl43 rfl fun ad23 cs23 hr23 hc23 hl23 a24 hE24 => ?_
      obtain ⟨rfl, hg23⟩ := hr23
      refine q_val hE24 (fun w10 hS10 => y_load_one hE24 rfl (hS10.upc hc23 hl23) rfl one9) rfl fun a25 hE25 => q_val hE25 (fun w10 hS10 => y_neq_string hE25 rfl rfl) rfl fun a26 hE26 => ?_
      refine q_nil fun w27 hS27 => ?_
      clear hE14 hE16 hE17 hE19 hE20 hE21 hE22 hE24 hE25
      clear a14 a16 a17 a19 a20 a21 a22 a24 a25
      refine then_normal ?_
      refine cond_split hE26 rfl (fun hb28 => ?_) (fun hb28 => ?_)
      ·
        have hM := hM.trans (if_t hb28)
        refine wp_seq (wp_region_lit ?_)
        refine st_val hE26 (y_assign hE26 rfl) rfl fun a29 hE29 => wpList_nil ?_
        clear hE26
        clear a26
        refine then_normal ?_
        refine wp_ret ?_
        refine blk_ret ?_
        refine then_ret ?_
        refine then_ret ?_
        refine blk_ret ?_
        refine then_ret ?_
        exact fin1 hE29 rfl rfl ⟨by rw [hM], hS27.below⟩
      ·
        have hM := hM.trans (if_f hb28)
        refine wp_skip ?_
        refine blk_normal ?_
        refine then_normal ?_
        refine wp_region_lit ?_
        refine st_val hE26 (y_move hE26 rfl) rfl fun a30 hE30 => st_val hE30 (y_add_in hE30 rfl rfl (m := ((i1 + 1 : Nat) : Int)) (by omega) (by omega) (by omega)) rfl fun a31 hE31 => st_val hE31 (y_assign hE31 rfl) rfl fun a32 hE32 => wpList_nil ?_
        clear hE26 hE30 hE31
        clear a26 a30 a31
        refine then_normal ⟨fu1, Nat.lt_succ_self _, (i1 + 1), by omega, by omega, hM, hE32.weaken ⟨rfl, rfl, rfl, trivial⟩, hS27⟩
    ·
      have hge1 : ¬ i1 < p0.length := by have := of_decide_eq_false hb15; omega
      obtain rfl : fu1 = 0 := by omega
      have hM := hM.trans (laws_eqStringS_l1.eq_1 _ _ _)
      refine wp_exit ?_
      refine then_exit ?_
      refine then_exit ?_
      refine blk_exit ?_
      refine then_normal ?_
      refine wp_seq (wp_region_lit ?_)
      refine st_val hE14 (y_assign hE14 rfl) rfl fun a33 hE33 => wpList_nil ?_
      clear hE14
      clear a14
      refine then_normal ?_
      refine wp_ret ?_
      exact fin1 hE33 rfl rfl ⟨by rw [hM], hS10.below⟩

/- F69 loop.example/g00974/laws.markAnswerS -/
def laws_markAnswerS_l1 (p0 : List Answer) (p1 : Int) : Nat → Nat → Int → List Answer → List Answer × Int
  | 0, i1, s1_1, y1_m0 => (y1_m0, s1_1)
  | fu1 + 1, i1, s1_1, y1_m0 => laws_markAnswerS_l1 p0 p1 fu1 (i1 + 1) (IntKind.i64.wrap (IntKind.i64.wrap (IntKind.i64.wrap (s1_1 + 1) + 1) + 1)) (y1_m0.set i1 (Answer.mk s1_1 (IntKind.i64.wrap (s1_1 + 1)) (laws_markText (IntKind.i64.wrap (IntKind.i64.wrap (s1_1 + 1) + 1)))))
def laws_markAnswerS (p0 : List Answer) (p1 : Int) : List Answer × Int := laws_markAnswerS_l1 p0 p1 (p0.length - 0) 0 p1 p0
theorem c_laws_markAnswerS {v0 : Value} (p0 : List Answer) {F0 : List Nat} (p1 : Int) {w : World} (hMu0 : SH (Off [Ck.own (α := List Answer) [v0] p0 F0] w) w w [Ck.own (α := List Answer) [v0] p0 F0]) (hi1 : I64 p1) :
    Calls Tryd.prog 69 [v0, .int .i64 p1].toArray w (fun e w' => e = .returned (.int .i64 (laws_markAnswerS p0 p1).2) ∧ I64 (laws_markAnswerS p0 p1).2 ∧ ∃ F', SH (Off [Ck.own (α := List Answer) [v0] p0 F0] w) w w' [Ck.own (α := List Answer) [v0] (laws_markAnswerS p0 p1).1 F']) := by
  obtain ⟨A0, cap0, rfl, hx0⟩ := (hMu0.slO (k := 0) rfl).form
  refine enter Tryd.func69 rfl Tryd.ntmps69 (Nat.le_of_ble_eq_true rfl) ?_
  intro a0 hE0
  have hS0 := hMu0
  have hM := laws_markAnswerS.eq_1 p0 p1
  have hij1 : -9223372036854775808 ≤ p1 ∧ p1 ≤ 9223372036854775807 := hi1
  refine wp_seq (wp_region_lit ?_)
  refine st_val hE0 (y_assign hE0 rfl) rfl fun a1 hE1 => wpList_nil ?_
  clear hE0
  clear a0
  refine then_normal ?_
  refine wp_seq (wp_seq (wp_region_lit ?_))
  refine st_val hE1 (y_assign hE1 rfl) rfl fun a2 hE2 => wpList_nil ?_
  clear hE1
  clear a1
  refine then_normal ?_
  refine wp_block (wp_loop_ghost (fun fu1 a w2 => ∃ (i1 : Nat) (s1_1 : Int) (y1_m0 : List Answer) (Fy1_m0 : List Nat), 0 ≤ i1 ∧ fu1 = p0.length - i1 ∧ (i1 ≤ p0.length ∨ i1 = 0) ∧ I64 s1_1 ∧ laws_markAnswerS p0 p1 = laws_markAnswerS_l1 p0 p1 fu1 i1 s1_1 y1_m0 ∧ Env 35 [(0, .slice A0 p0.length cap0), (1, .int .i64 s1_1), (5, .int .i64 (i1 : Int))] a ∧ SH (Off [Ck.own (α := List Answer) [.slice A0 p0.length cap0] p0 F0] w) w w2 [Ck.own (α := List Answer) [.slice A0 p0.length cap0] y1_m0 Fy1_m0]) (p0.length - 0) ⟨0, p1, p0, F0, Nat.le_refl _, rfl, .inr rfl, hi1, hM, hE2.weaken ⟨rfl, rfl, rfl, trivial⟩, hS0⟩ ?_)
  clear hM hE2
  rintro fu1 a3 w3 ⟨i1, s1_1, y1_m0, Fy1_m0, hi1, hfu1, hup1, hgis1_1, hM, hE3, hS3⟩
  have hlry1_m0 := hS3.lenrow (k := 0) rfl
  refine wp_seq (wp_seq (wp_region_lit ?_))
  refine st_val hE3 (y_move hE3 rfl) rfl fun a4 hE4 => st_val hE4 (y_move hE4 rfl) rfl fun a5 hE5 => st_val hE5 (y_len_slice hE5 rfl sl87) rfl fun a6 hE6 => st_val hE6 (y_lss hE6 rfl rfl) rfl fun a7 hE7 => wpList_nil ?_
  clear hE3 hE4 hE5 hE6
  clear a3 a4 a5 a6
  refine then_normal ?_
  refine cond_split hE7 rfl (fun hb8 => ?_) (fun hb8 => ?_)
  ·
    have hlt1 : i1 < p0.length := by have := of_decide_eq_true hb8; omega
    obtain ⟨fu1, rfl⟩ : ∃ m, fu1 = m + 1 := ⟨fu1 - 1, by omega⟩
    have hM := hM.trans (laws_markAnswerS_l1.eq_2 _ _ _ _ _ _)
    refine wp_skip ?_
    refine then_normal ?_
    refine wp_seq (wp_block (wp_seq (wp_region_lit ?_)))
    refine st_val hE7 (y_move hE7 rfl) rfl fun a9 hE9 => st_val hE9 (y_move hE9 rfl) rfl fun a10 hE10 => st_val hE10 (y_move hE10 rfl) rfl fun a11 hE11 => ?_
    clear hE7 hE9 hE10
    clear a7 a9 a10
    have hlr12 := hS3.lenrow (k := 0) rfl
    obtain ⟨g12, ce12, Fo12, G12, hA12, hn12, hF12⟩ := SH.focus (L := []) hS3 (i := i1) (by omega)
    obtain ⟨rfl, rfl, hg12_0, hg12_1, hg12_2, _⟩ := Answer_oopen (show Dat.own w3 ce12 (nth y1_m0 i1) G12 from hF12.get (k := 0) rfl)
    have hS13 := hF12.drop (k := 1)
    refine st_val hE11 (y_indexAddr (A := ⟨g12, 0, none⟩) hE11 (congrArg (fun A => some (Value.slice A p0.length cap0)) hA12) rfl (by omega) (by omega) sl87) rfl fun a14 hE14 => st_val hE14 (y_fieldAddr hE14 rfl fa122_0 rfl) rfl fun a15 hE15 => st_storeE (α := Answer) (k := 0) hE15 hS13 [.int .i64 s1_1, .int .i64 ((nth y1_m0 i1).N), .string ((nth y1_m0 i1).Text)] rfl rfl rfl (by rw [Int.toNat_natCast]; rfl) rfl (chkOne_size one3) rfl rfl rfl rfl fun w16 (hS16 : SH (Off [Ck.own (α := List Answer) [.slice A0 p0.length cap0] p0 F0] w) w w16 [Ck.elem (α := Answer) g12 i1 cap0 [.int .i64 s1_1, .int .i64 ((nth y1_m0 i1).N), .string ((nth y1_m0 i1).Text)] y1_m0 Fo12]) a17 hE17 => wpList_nil ?_
    clear hE11 hE14 hE15
    clear a11 a14 a15
    refine then_normal ?_
    refine wp_seq (wp_region_lit ?_)
    refine st_val hE17 (y_move hE17 rfl) rfl fun a18 hE18 => st_val hE18 (y_add hE18 rfl rfl) rfl fun a19 hE19 => st_val hE19 (y_assign hE19 rfl) rfl fun a20 hE20 => wpList_nil ?_
    clear hE17 hE18 hE19
    clear a17 a18 a19
    refine then_normal ?_
    refine wp_seq (wp_region_lit ?_)
    refine st_val hE20 (y_move hE20 rfl) rfl fun a21 hE21 => st_val hE21 (y_move hE21 rfl) rfl fun a22 hE22 => st_val hE22 (y_move hE22 rfl) rfl fun a23 hE23 => ?_
    refine st_val hE23 (y_indexAddr (A := ⟨g12, 0, none⟩) hE23 (congrArg (fun A => some (Value.slice A p0.length cap0)) hA12) rfl (by omega) (by omega) sl87) rfl fun a24 hE24 => st_val hE24 (y_fieldAddr hE24 rfl fa122_1 rfl) rfl fun a25 hE25 => st_storeE (α := Answer) (k := 0) hE25 hS16 [.int .i64 s1_1, .int .i64 (IntKind.i64.wrap (s1_1 + 1)), .string ((nth y1_m0 i1).Text)] rfl rfl rfl (by rw [Int.toNat_natCast]; rfl) rfl (chkOne_size one3) rfl rfl rfl rfl fun w26 (hS26 : SH (Off [Ck.own (α := List Answer) [.slice A0 p0.length cap0] p0 F0] w) w w26 [Ck.elem (α := Answer) g12 i1 cap0 [.int .i64 s1_1, .int .i64 (IntKind.i64.wrap (s1_1 + 1)), .string ((nth y1_m0 i1).Text)] y1_m0 Fo12]) a27 hE27 => wpList_nil ?_
    clear hE20 hE21 hE22 hE23 hE24 hE25
    clear a20 a21 a22 a23 a24 a25
    refine then_normal ?_
    refine wp_seq (wp_region_lit ?_)
    refine st_val hE27 (y_move hE27 rfl) rfl fun a28 hE28 => st_val hE28 (y_add hE28 rfl rfl) rfl fun a29 hE29 => st_val hE29 (y_assign hE29 rfl) rfl fun a30 hE30 => wpList_nil ?_
    clear hE27 hE28 hE29
    clear a27 a28 a29
    refine then_normal ?_
    refine wp_seq (wp_region_lit ?_)
    refine st_val hE30 (y_move hE30 rfl) rfl fun a31 hE31 => st_val hE31 (y_move hE31 rfl) rfl fun a32 hE32 => st_val hE32 (y_move hE32 rfl) rfl fun a33 hE33 => st_callF hE33 hS26 Tryd.func71 fb71 fn71 (c_laws_markText (IntKind.i64.wrap (IntKind.i64.wrap (s1_1 + 1) + 1)) (I64_wrap _)) rfl rfl fun w34 hS34 a35 hE35 => ?_
    refine st_val hE35 (y_indexAddr (A := ⟨g12, 0, none⟩) hE35 (congrArg (fun A => some (Value.slice A p0.length cap0)) hA12) rfl (by omega) (by omega) sl87) rfl fun a36 hE36 => st_val hE36 (y_fieldAddr hE36 rfl fa122_2 rfl) rfl fun a37 hE37 => st_storeE (α := Answer) (k := 0) hE37 hS34 [.int .i64 s1_1, .int .i64 (IntKind.i64.wrap (s1_1 + 1)), .string (laws_markText (IntKind.i64.wrap (IntKind.i64.wrap (s1_1 + 1) + 1)))] rfl rfl rfl (by rw [Int.toNat_natCast]; rfl) rfl (chkOne_size one9) rfl rfl rfl rfl fun w38 (hS38 : SH (Off [Ck.own (α := List Answer) [.slice A0 p0.length cap0] p0 F0] w) w w38 [Ck.elem (α := Answer) g12 i1 cap0 [.int .i64 s1_1, .int .i64 (IntKind.i64.wrap (s1_1 + 1)), .string (laws_markText (IntKind.i64.wrap (IntKind.i64.wrap (s1_1 + 1) + 1)))] y1_m0 Fo12]) a39 hE39 => wpList_nil ?_
    clear hE30 hE31 hE32 hE33 hE35 hE36 hE37
    clear a30 a31 a32 a33 a35 a36 a37
    refine then_normal ?_
    refine wp_region_lit ?_
    refine st_val hE39 (y_move hE39 rfl) rfl fun a40 hE40 => st_val hE40 (y_add hE40 rfl rfl) rfl fun a41 hE41 => st_val hE41 (y_assign hE41 rfl) rfl fun a42 hE42 => wpList_nil ?_
    clear hE39 hE40 hE41
    clear a39 a40 a41
    refine blk_normal ?_
    refine then_normal ?_
    refine wp_region_lit ?_
    refine st_val hE42 (y_move hE42 rfl) rfl fun a43 hE43 => st_val hE43 (y_add_in hE43 rfl rfl (m := ((i1 + 1 : Nat) : Int)) (by omega) (by omega) (by omega)) rfl fun a44 hE44 => st_val hE44 (y_assign hE44 rfl) rfl fun a45 hE45 => wpList_nil ?_
    clear hE42 hE43 hE44
    clear a42 a43 a44
    have hJ46 := SH.flat (L := [Ck.elem (α := Answer) g12 i1 cap0 [.int .i64 s1_1, .int .i64 (IntKind.i64.wrap (s1_1 + 1)), .string (laws_markText (IntKind.i64.wrap (IntKind.i64.wrap (s1_1 + 1) + 1)))] y1_m0 Fo12]) (α := Answer) (cs := [.int .i64 s1_1, .int .i64 (IntKind.i64.wrap (s1_1 + 1)), .string (laws_markText (IntKind.i64.wrap (IntKind.i64.wrap (s1_1 + 1) + 1)))]) (x := (Answer.mk s1_1 (IntKind.i64.wrap (s1_1 + 1)) (laws_markText (IntKind.i64.wrap (IntKind.i64.wrap (s1_1 + 1) + 1))))) hS38 (fun _ => Answer_own (x := (Answer.mk s1_1 (IntKind.i64.wrap (s1_1 + 1)) (laws_markText (IntKind.i64.wrap (IntKind.i64.wrap (s1_1 + 1) + 1))))) hgis1_1 (I64_wrap _) (laws_markText_good (by first | assumption | exact I64_wrap _)))
    obtain ⟨F46, hS46⟩ := SH.unfocus (α := Answer) (L := []) hJ46 hA12 hn12 (by omega)
    refine then_normal ⟨fu1, Nat.lt_succ_self _, (i1 + 1), IntKind.i64.wrap (IntKind.i64.wrap (IntKind.i64.wrap (s1_1 + 1) + 1) + 1), (y1_m0.set i1 (Answer.mk s1_1 (IntKind.i64.wrap (s1_1 + 1)) (laws_markText (IntKind.i64.wrap (IntKind.i64.wrap (s1_1 + 1) + 1))))), F46, by omega, by omega, .inl (by omega), (I64_wrap _), hM, hE45.weaken ⟨rfl, rfl, rfl, trivial⟩, hS46⟩
  ·
    have hge1 : ¬ i1 < p0.length := by have := of_decide_eq_false hb8; omega
    obtain rfl : fu1 = 0 := by omega
    have hM := hM.trans (laws_markAnswerS_l1.eq_1 _ _ _ _ _)
    refine wp_exit ?_
    refine then_exit ?_
    refine then_exit ?_
    refine blk_exit ?_
    refine then_normal ?_
    refine wp_seq (wp_region_lit ?_)
    refine st_val hE7 (y_move hE7 rfl) rfl fun a47 hE47 => st_val hE47 (y_assign hE47 rfl) rfl fun a48 hE48 => wpList_nil ?_
    clear hE7 hE47
    clear a7 a47
    refine then_normal ?_
    refine wp_ret ?_
    refine fin1 hE48 rfl rfl ?_
    rw [hM]
    exact ⟨rfl, hgis1_1, Fy1_m0, hS3⟩

end Go.Proofs.YtmjjcihoobnbgaaDoor.Fw
