/- Decimal: the reference and the program say the same numeral. By program (wip/gen). -/
import Derived.Test.YtmjjcihoobnbgaaDoorC3
namespace Go.Proofs.YtmjjcihoobnbgaaDoor.Fw
open Go.RowKit
set_option linter.unusedVariables false
set_option linter.unusedSimpArgs false


theorem figure_of {v : Int} (h0 : 0 ≤ v) (h1 : v ≤ 9) : strOfNums [spec_l01Figure v] = ⟨#[UInt8.ofNat (48 + v.toNat)]⟩ := by
  have e : spec_l01Figure v = 48 + v := by
    unfold spec_l01Figure
    rw [if_pos (decide_eq_true (by omega)), IntWalk.i64_in _ ⟨by omega, by omega⟩, IntWalk.u8_in _ ⟨by omega, by omega⟩]
  rw [e]
  have e2 : (48 + v).toNat = 48 + v.toNat := by omega
  simp [strOfNums, e2]
/-- The figures of a number, none for nought. -/
def figs (u : Nat) : ByteArray := if u = 0 then ⟨#[]⟩ else ⟨(Lib.decDigits u).toArray⟩
theorem bt_assoc (a b c : ByteArray) : a ++ (b ++ c) = (a ++ b) ++ c := (ByteArray.append_assoc).symm
theorem figs_step {u : Nat} (h : u ≠ 0) : figs (u / 10) ++ (⟨#[UInt8.ofNat (48 + u % 10)]⟩ : ByteArray) = figs u := by
  unfold figs
  rw [if_neg h]
  by_cases h9 : u < 10
  · rw [if_pos (by omega), Lib.decDigits, dif_pos h9, Nat.mod_eq_of_lt h9]
    rfl
  · rw [if_neg (by omega), Lib.decDigits.eq_def u, dif_neg h9]
    apply ByteArray.ext
    simp
theorem tmod_abs (s : Int) : (Int.tmod s 10).natAbs = s.natAbs % 10 := by
  rw [Int.natAbs_tmod]
  rfl
theorem spec_Decimal_l1_is (p0 : Int) : ∀ (fu : Nat) (s : Int) (o : ByteArray), I64 s → s.natAbs ≤ fu → spec_Decimal_l1 p0 fu s o = spec_Decimal_l1_after p0 0 (figs s.natAbs ++ o) := by
  intro fu
  induction fu with
  | zero =>
    intro s o hs h
    have e : s.natAbs = 0 := by omega
    rw [e]
    have e2 : figs 0 ++ o = o := by
      apply ByteArray.ext
      simp [figs]
    rw [e2]
    rfl
  | succ m ih =>
    intro s o hs h
    rw [spec_Decimal_l1]
    by_cases h0 : s = 0
    · subst h0
      simp only [decide_true, Bool.not_true, Bool.false_eq_true, if_false]
      have e2 : figs (Int.natAbs 0) ++ o = o := by
        apply ByteArray.ext
        simp [figs]
      rw [e2]
    · simp only [h0, decide_false, Bool.not_false, if_true]
      have ha := tmod_abs s
      have hb := quo10_abs hs
      have hu : s.natAbs ≠ 0 := by omega
      have hfin : ∀ v : Int, 0 ≤ v → v.natAbs = s.natAbs % 10 → spec_Decimal_l1 p0 m (IntKind.i64.wrap (Int.tdiv s 10)) (strOfNums [spec_l01Figure v] ++ o) = spec_Decimal_l1_after p0 0 (figs s.natAbs ++ o) := by
        intro v hv0 hv
        rw [ih _ _ (I64_wrap _) (by omega), hb, figure_of hv0 (by omega), bt_assoc, show v.toNat = s.natAbs % 10 by omega, figs_step hu]
      split
      · rename_i hneg
        have hneg' := of_decide_eq_true hneg
        rw [IntWalk.i64_in (-(Int.tmod s 10)) ⟨by omega, by omega⟩]
        exact hfin _ (by omega) (by omega)
      · rename_i hpos
        have hpos' : ¬ Int.tmod s 10 < 0 := by simpa using hpos
        exact hfin _ (by omega) (by omega)
theorem Decimal_twin {p0 : Int} (h : I64 p0) : spec_Decimal p0 = impl_Decimal p0 := by
  unfold spec_Decimal impl_Decimal strconv_Itoa
  by_cases h0 : p0 = 0
  · subst h0
    simp only [decide_true, if_true]
    unfold Lib.itoa
    rw [if_neg (by decide), Lib.decDigits, dif_pos (by decide)]
    rfl
  · simp only [h0, decide_false, Bool.false_eq_true, if_false]
    rw [spec_Decimal_l1_is p0 _ _ _ h (Nat.le_refl _)]
    unfold spec_Decimal_l1_after Lib.itoa figs
    rw [if_neg (show ¬ p0.natAbs = 0 by omega)]
    by_cases hn : p0 < 0
    · simp only [hn, decide_true, if_true]
      apply ByteArray.ext
      simp
    · simp only [hn, decide_false, Bool.false_eq_true, if_false]
      rw [show p0.toNat = p0.natAbs by omega]
      apply ByteArray.ext
      simp
theorem spec_Decimal_l1_size (p0 : Int) : ∀ (fu : Nat) (s : Int) (o : ByteArray), I64 s → dig o.size (s.natAbs : Int) → (spec_Decimal_l1 p0 fu s o).size ≤ 20 := by
  have haft : ∀ s o, o.size ≤ 19 → (spec_Decimal_l1_after p0 s o).size ≤ 20 := by
    intro s o ho
    unfold spec_Decimal_l1_after
    split
    · rw [ByteArray.size_append]
      show 1 + o.size ≤ 20
      omega
    · omega
  intro fu
  induction fu with
  | zero => intro s o hs h; exact haft _ _ h.1
  | succ m ih =>
    intro s o hs h
    rw [spec_Decimal_l1]
    split
    · rename_i hne
      have hne' : ¬ s = 0 := by simpa using hne
      have hstep : ∀ v : Int, dig (strOfNums [v] ++ o).size ((IntKind.i64.wrap (Int.tdiv s 10)).natAbs : Int) := by
        intro v
        rw [quo10_abs hs, ByteArray.size_append, strOfNums_size]
        show dig (1 + _) _
        rw [Nat.add_comm]
        exact dig_step h (by omega)
      split
      · exact ih _ _ (I64_wrap _) (hstep _)
      · exact ih _ _ (I64_wrap _) (hstep _)
    · exact haft _ _ h.1
theorem spec_Decimal_size {p0 : Int} (h : I64 p0) : (spec_Decimal p0).size ≤ 20 := by
  unfold spec_Decimal
  split
  · decide
  · exact spec_Decimal_l1_size _ _ _ _ h ⟨Nat.zero_le _, by
      show (p0.natAbs : Int) < 10 ^ 19
      have := h.1
      have := h.2
      omega⟩
theorem impl_Decimal_size {p0 : Int} (h : I64 p0) : (impl_Decimal p0).size ≤ 20 := by
  rw [← Decimal_twin h]
  exact spec_Decimal_size h

end Go.Proofs.YtmjjcihoobnbgaaDoor.Fw
