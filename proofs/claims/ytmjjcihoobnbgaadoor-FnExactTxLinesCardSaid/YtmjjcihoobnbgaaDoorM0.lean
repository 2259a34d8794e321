/- Contracts: each call returns what the model says. By program (wip/gen). -/
import Derived.Test.YtmjjcihoobnbgaaDoorPD
namespace Go.Proofs.YtmjjcihoobnbgaaDoor.Fw
open Go.RowKit
set_option linter.unusedVariables false
set_option linter.unusedSimpArgs false



/- F71 loop.example/g00974/laws.markText -/
def laws_markText_l1_after (p0 : Int) (s1_0 : Int) (s1_3 : ByteArray) : ByteArray := ((⟨#[109]⟩ : ByteArray) ++ s1_3)
def laws_markText_l1 (p0 : Int) : Nat → Int → ByteArray → ByteArray
  | 0, s1_0, s1_3 => laws_markText_l1_after p0 s1_0 s1_3
  | fu1 + 1, s1_0, s1_3 => if (decide (s1_0 > 0)) = true then laws_markText_l1 p0 fu1 (s1_0 / 10) ((strOfNums [IntKind.u8.wrap (48 + (s1_0 % 10))]) ++ s1_3) else laws_markText_l1_after p0 s1_0 s1_3
def laws_markText (p0 : Int) : ByteArray := (if (decide (p0 ≤ 0)) = true then (⟨#[109, 48]⟩ : ByteArray) else laws_markText_l1 p0 (p0.toNat) p0 (⟨#[]⟩ : ByteArray))
theorem c_laws_markText (p0 : Int) {w : World} (hi0 : I64 p0) :
    Calls Tryd.prog 71 [.int .i64 p0].toArray w (fun e w' => e = .returned (.string (laws_markText p0)) ∧ Below w.heap.size w w') := by
  refine enter Tryd.func71 rfl Tryd.ntmps71 (Nat.le_of_ble_eq_true rfl) ?_
  intro a0 hE0
  have hS0 := SH.start w
  have hM := laws_markText.eq_1 p0
  have hij0 : -9223372036854775808 ≤ p0 ∧ p0 ≤ 9223372036854775807 := hi0
  refine wp_seq (wp_region_lit ?_)
  refine st_val hE0 (y_assign hE0 rfl) rfl fun a1 hE1 => wpList_nil ?_
  clear hE0
  clear a0
  refine then_normal ?_
  refine wp_seq (wp_seq (wp_region_lit ?_))
  refine st_val hE1 (y_move hE1 rfl) rfl fun a2 hE2 => st_val hE2 (y_leq hE2 rfl rfl) rfl fun a3 hE3 => wpList_nil ?_
  clear hE1 hE2
  clear a1 a2
  refine then_normal ?_
  refine cond_split hE3 rfl (fun hb4 => ?_) (fun hb4 => ?_)
  ·
    have hM := hM.trans (if_t hb4)
    have hb4f : p0 ≤ 0 := of_decide_eq_true hb4
    refine wp_seq (wp_region_lit ?_)
    refine st_val hE3 (y_assign hE3 rfl) rfl fun a5 hE5 => wpList_nil ?_
    clear hE3
    clear a3
    refine then_normal ?_
    refine wp_ret ?_
    refine then_ret ?_
    exact fin1 hE5 rfl rfl ⟨by rw [hM], hS0.below⟩
  ·
    have hM := hM.trans (if_f hb4)
    have hb4f : ¬ (p0 ≤ 0) := of_decide_eq_false hb4
    refine wp_skip ?_
    refine then_normal ?_
    refine wp_seq (wp_region_lit ?_)
    refine st_val hE3 (y_assign hE3 rfl) rfl fun a6 hE6 => wpList_nil ?_
    clear hE3
    clear a3
    refine then_normal ?_
    refine wp_seq (wp_block (wp_loop_ghost (fun fu1 a w2 => ∃ (s1_0 : Int) (s1_3 : ByteArray), s1_0.toNat ≤ fu1 ∧ dig s1_3.size s1_0 ∧ I64 s1_0 ∧ laws_markText p0 = laws_markText_l1 p0 fu1 s1_0 s1_3 ∧ Env 20 [(0, .int .i64 s1_0), (3, .string s1_3)] a ∧ SH (Old w) w w2 []) (p0.toNat) ⟨p0, (⟨#[]⟩ : ByteArray), Nat.le_refl _, (dig_start (by omega)), hi0, hM, hE6.weaken ⟨rfl, rfl, trivial⟩, hS0⟩ ?_))
    clear hM hE6
    rintro fu1 a7 w7 ⟨s1_0, s1_3, hme1, hin1_0, hgis1_0, hM, hE7, hS7⟩
    have hgjs1_0 : -9223372036854775808 ≤ s1_0 ∧ s1_0 ≤ 9223372036854775807 := hgis1_0
    refine wp_seq (wp_seq (wp_region_lit ?_))
    refine st_val hE7 (y_move hE7 rfl) rfl fun a8 hE8 => st_val hE8 (y_gtr hE8 rfl rfl) rfl fun a9 hE9 => wpList_nil ?_
    clear hE7 hE8
    clear a7 a8
    refine then_normal ?_
    refine cond_split hE9 rfl (fun hb10 => ?_) (fun hb10 => ?_)
    ·
      have hb10f : s1_0 > 0 := of_decide_eq_true hb10
      obtain ⟨fu1, rfl⟩ : ∃ m, fu1 = m + 1 := ⟨fu1 - 1, by omega⟩
      have hM := hM.trans ((laws_markText_l1.eq_2 _ _ _ _).trans (if_t hb10))
      refine wp_skip ?_
      refine then_normal ?_
      refine wp_block (wp_seq (wp_region_lit ?_))
      refine st_val hE9 (y_move hE9 rfl) rfl fun a11 hE11 => st_val hE11 (y_rem_in hE11 rfl rfl (by decide) (by omega)) rfl fun a12 hE12 => st_val hE12 (y_add_in hE12 rfl rfl (m := 48 + (s1_0 % 10)) rfl (by omega) (by omega)) rfl fun a13 hE13 => st_val hE13 (y_convI hE13 rfl cv3_5) rfl fun a14 hE14 => st_lit (is := [0]) (vs := [.int .u8 (IntKind.u8.wrap (48 + (s1_0 % 10)))]) (cs := [.int .u8 (IntKind.u8.wrap (48 + (s1_0 % 10)))]) (e := 5) hE14 hS7 rfl rfl (by kernel_rfl) rfl fun b15 w15 hS15 a16 hE16 => st_val hE16 (y_bytesStr (xs := [IntKind.u8.wrap (48 + (s1_0 % 10))]) hE16 rfl Tryd.underlying22 Tryd.underlying5 Tryd.underlying9 rfl (hS15.cells (k := 0) rfl)) rfl fun a17 hE17 => st_val hE17 (y_move hE17 rfl) rfl fun a18 hE18 => st_val hE18 (y_cat hE18 rfl rfl (by have h := hin1_0.1; first | omega | (simp only [ByteArray.size, List.size_toArray, List.length] at *; omega) | (rw [strOfNums_size]; simp only [List.length]; omega))) rfl fun a19 hE19 => st_val hE19 (y_assign hE19 rfl) rfl fun a20 hE20 => wpList_nil ?_
      clear hE9 hE11 hE12 hE13 hE14 hE16 hE17 hE18 hE19
      clear a9 a11 a12 a13 a14 a16 a17 a18 a19
      refine then_normal ?_
      refine wp_region_lit ?_
      refine st_val hE20 (y_move hE20 rfl) rfl fun a21 hE21 => st_val hE21 (y_quo_in hE21 rfl rfl (by decide) (by omega) (by omega) (by omega)) rfl fun a22 hE22 => st_val hE22 (y_assign hE22 rfl) rfl fun a23 hE23 => wpList_nil ?_
      clear hE20 hE21 hE22
      clear a20 a21 a22
      refine blk_normal ?_
      refine then_normal ⟨fu1, Nat.lt_succ_self _, s1_0 / 10, ((strOfNums [IntKind.u8.wrap (48 + (s1_0 % 10))]) ++ s1_3), by omega, (by rw [ByteArray.size_append, strOfNums_size]; show dig (1 + _) _; rw [Nat.add_comm]; exact dig_step hin1_0 (by omega)), (by unfold I64; omega), hM, hE23.weaken ⟨rfl, rfl, trivial⟩, (hS15.drop (k := 1))⟩
    ·
      have hb10f : ¬ (s1_0 > 0) := of_decide_eq_false hb10
      have hM := hM.trans (show laws_markText_l1 p0 fu1 s1_0 s1_3 = laws_markText_l1_after p0 s1_0 s1_3 from by cases fu1 with | zero => exact laws_markText_l1.eq_1 _ _ _ | succ m => exact (laws_markText_l1.eq_2 _ _ _ _).trans (if_f hb10))
      have hM := hM.trans (laws_markText_l1_after.eq_1 _ _ _)
      refine wp_exit ?_
      refine then_exit ?_
      refine then_exit ?_
      refine blk_exit ?_
      refine then_normal ?_
      refine wp_seq (wp_region_lit ?_)
      refine st_val hE9 (y_move hE9 rfl) rfl fun a24 hE24 => st_val hE24 (y_cat hE24 rfl rfl (by have h := hin1_0.1; first | omega | (simp only [ByteArray.size, List.size_toArray, List.length] at *; omega) | (rw [strOfNums_size]; simp only [List.length]; omega))) rfl fun a25 hE25 => st_val hE25 (y_assign hE25 rfl) rfl fun a26 hE26 => wpList_nil ?_
      clear hE9 hE24 hE25
      clear a9 a24 a25
      refine then_normal ?_
      refine wp_ret ?_
      exact fin1 hE26 rfl rfl ⟨by rw [hM], hS7.below⟩

theorem laws_markText_l1_size (p0 : Int) : ∀ (fu : Nat) (s : Int) (o : ByteArray), dig o.size s → (laws_markText_l1 p0 fu s o).size ≤ 20 := by
  intro fu
  induction fu with
  | zero =>
    intro s o h
    have := h.1
    simp only [laws_markText_l1, laws_markText_l1_after, ByteArray.size_append]
    show 1 + o.size ≤ 20
    omega
  | succ m ih =>
    intro s o h
    rw [laws_markText_l1]
    split
    · rename_i hs
      refine ih _ _ ?_
      rw [ByteArray.size_append, strOfNums_size]
      show dig (1 + _) _
      rw [Nat.add_comm]
      exact dig_step h (of_decide_eq_true hs)
    · have := h.1
      simp only [laws_markText_l1_after, ByteArray.size_append]
      show 1 + o.size ≤ 20
      omega
theorem laws_markText_good {p0 : Int} (h : I64 p0) : (laws_markText p0).size ≤ maxLen := by
  have e : (laws_markText p0).size ≤ 20 := by
    unfold laws_markText
    split
    · decide
    · exact laws_markText_l1_size _ _ _ _ (dig_start h.2)
  unfold maxLen
  omega

end Go.Proofs.YtmjjcihoobnbgaaDoor.Fw
