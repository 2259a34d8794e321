/-
  The reference and the program part a line into the same words. No condition.
-/
import Derived.Test.YtmjjcihoobnbgaaDoorR2
namespace Go.Proofs.YtmjjcihoobnbgaaDoor.Fw
open Go.RowKit
set_option linter.unusedVariables false
set_option linter.unusedSimpArgs false
set_option maxRecDepth 100000
/-! ## Words of a line -/
def toBA (l : List UInt8) : ByteArray := ⟨l.toArray⟩
def finW (o : List ByteArray) : List ByteArray × Bool := bif decide ((o.length : Int) > 12) then (([] : List ByteArray), false) else (o, true)
theorem cutS_list (p0 : ByteArray) (b i : Nat) : cutS p0 b i = toBA (((sbytes p0).take i).drop b) := by
  unfold cutS toBA sbytes
  apply ByteArray.ext
  rw [ByteArray.data_extract]
  apply Array.ext'
  rw [Array.toList_extract, List.extract_eq_take_drop, List.drop_take]
theorem drop_at (p0 : ByteArray) {i : Nat} (hi : i < p0.size) : (sbytes p0).drop i = byteAt p0 i :: (sbytes p0).drop (i + 1) := by
  have h : i < (sbytes p0).length := by rw [sbytes_length]; exact hi
  rw [List.drop_eq_getElem_cons h, sbytes_at h]
theorem take_at (p0 : ByteArray) {b i : Nat} (hb : b ≤ i) (hi : i < p0.size) : ((sbytes p0).take (i + 1)).drop b = ((sbytes p0).take i).drop b ++ [byteAt p0 i] := by
  have h : i < (sbytes p0).length := by rw [sbytes_length]; exact hi
  rw [List.take_succ_eq_append_getElem h, List.drop_append_of_le_length (by rw [List.length_take]; omega), sbytes_at h]
theorem isSp_in {c : UInt8} (h1 : 32 ≤ c.toNat) (h2 : c.toNat ≤ 126) : Lib.isSp c = decide (c.toNat = 32) := by
  have key : ∀ n : Fin 256, 32 ≤ n.val → n.val ≤ 126 → Lib.isSp (UInt8.ofNat n.val) = decide (n.val = 32) := by decide +kernel
  have := key ⟨c.toNat, c.toNat_lt⟩ h1 h2
  simpa using this
theorem spec_parts_good (p0 : ByteArray) (hall : ∀ j, j < p0.size → 32 ≤ (byteAt p0 j).toNat ∧ (byteAt p0 j).toNat ≤ 126) : ∀ n i (out : List ByteArray) (b : Nat), i + (n + 1) = p0.size + 1 → b ≤ i →
    spec_PartsOf_l1 p0 (n + 1) out (b : Int) i = finW (out ++ (Lib.fieldsGo (((sbytes p0).take i).drop b) ((sbytes p0).drop i)).map toBA) := by
  intro n
  induction n with
  | zero =>
    intro i out b hi hb
    obtain rfl : i = p0.size := by omega
    have hc : decide ((p0.size : Int) < (p0.size : Int)) = false := decide_eq_false (by omega)
    have hl : (sbytes p0).length = p0.size := sbytes_length p0
    have e1 : (sbytes p0).drop p0.size = [] := List.drop_eq_nil_of_le (by omega)
    rw [spec_PartsOf_l1, hc, e1, Lib.fieldsGo]
    simp only [Bool.false_and, cond_false]
    rw [spec_PartsOf_l1]
    by_cases hbs : b < p0.size
    · have he : (((sbytes p0).take p0.size).drop b).isEmpty = false := by
        rw [List.isEmpty_eq_false_iff]
        intro e
        have := congrArg List.length e
        rw [List.length_drop, List.length_take, hl, List.length_nil] at this
        omega
      rw [decide_eq_true (show (b : Int) < (p0.size : Int) by omega), he]
      simp only [cond_true, Bool.false_eq_true, if_false, List.map_cons, List.map_nil]
      rw [show ((b : Int)).toNat = b from rfl, cutS_list]
      rfl
    · have he : (((sbytes p0).take p0.size).drop b).isEmpty = true := by
        rw [List.isEmpty_iff]
        exact List.drop_eq_nil_of_le (by rw [List.length_take, hl]; omega)
      rw [decide_eq_false (show ¬ (b : Int) < (p0.size : Int) by omega), he]
      simp only [cond_false, if_true, List.map_nil, List.append_nil]
      rfl
  | succ n ih =>
    intro i out b hi hb
    have hlt : i < p0.size := by omega
    obtain ⟨h1, h2⟩ := hall i hlt
    rw [spec_PartsOf_l1, decide_eq_true (show (i : Int) < (p0.size : Int) by omega), decide_eq_false (show ¬ ((byteAt p0 i).toNat : Int) < 32 by omega), decide_eq_false (show ¬ ((byteAt p0 i).toNat : Int) > 126 by omega), drop_at p0 hlt, Lib.fieldsGo, isSp_in h1 h2]
    simp only [Bool.true_and, Bool.or_self, cond_false]
    by_cases hc : (byteAt p0 i).toNat = 32
    · rw [decide_eq_true (show ((byteAt p0 i).toNat : Int) = 32 by omega), decide_eq_true hc]
      simp only [Bool.not_true, cond_false, if_true]
      rw [ih (i + 1) _ (i + 1) (by omega) (Nat.le_refl _)]
      have e0 : ((sbytes p0).take (i + 1)).drop (i + 1) = [] := List.drop_eq_nil_of_le (by rw [List.length_take]; omega)
      rw [e0]
      have hl : (sbytes p0).length = p0.size := sbytes_length p0
      by_cases hbs : b < i
      · have he : (((sbytes p0).take i).drop b).isEmpty = false := by
          rw [List.isEmpty_eq_false_iff]
          intro e
          have := congrArg List.length e
          rw [List.length_drop, List.length_take, hl, List.length_nil] at this
          omega
        rw [decide_eq_true (show (b : Int) < (i : Int) by omega), he]
        simp only [cond_true, Bool.false_eq_true, if_false, List.map_cons, List.append_assoc, List.cons_append, List.nil_append]
        rw [show ((b : Int)).toNat = b from rfl, cutS_list]
      · have he : (((sbytes p0).take i).drop b).isEmpty = true := by
          rw [List.isEmpty_iff]
          exact List.drop_eq_nil_of_le (by rw [List.length_take]; omega)
        rw [decide_eq_false (show ¬ (b : Int) < (i : Int) by omega), he]
        simp only [cond_false, if_true]
    · rw [decide_eq_false (show ¬ ((byteAt p0 i).toNat : Int) = 32 by omega), decide_eq_false hc]
      simp only [Bool.not_false, cond_true, Bool.false_eq_true, if_false]
      rw [ih (i + 1) _ b (by omega) (by omega), take_at p0 hb hlt]
theorem spec_parts_bad (p0 : ByteArray) {j : Nat} (hj : j < p0.size) (hbad : ¬ (32 ≤ (byteAt p0 j).toNat ∧ (byteAt p0 j).toNat ≤ 126)) : ∀ n i (out : List ByteArray) (b : Int), i + n = p0.size + 1 → i ≤ j → spec_PartsOf_l1 p0 n out b i = ([], false) := by
  intro n
  induction n with
  | zero => intro i _ _ h1 h2; omega
  | succ n ih =>
    intro i out b h1 h2
    have hlt : i < p0.size := by omega
    rw [spec_PartsOf_l1, decide_eq_true (show (i : Int) < (p0.size : Int) by omega)]
    by_cases hb : 32 ≤ (byteAt p0 i).toNat ∧ (byteAt p0 i).toNat ≤ 126
    · have hne : i ≠ j := fun e => by subst e; exact hbad hb
      rw [decide_eq_false (show ¬ ((byteAt p0 i).toNat : Int) < 32 by omega), decide_eq_false (show ¬ ((byteAt p0 i).toNat : Int) > 126 by omega)]
      simp only [Bool.true_and, Bool.or_self, cond_false]
      cases (!decide (((byteAt p0 i).toNat : Int) = 32)) with
      | true => exact ih (i + 1) _ _ (by omega) (by omega)
      | false => exact ih (i + 1) _ _ (by omega) (by omega)
    · have : ((decide (((byteAt p0 i).toNat : Int) < 32)) || (decide (((byteAt p0 i).toNat : Int) > 126))) = true := by
        rcases Nat.lt_or_ge (byteAt p0 i).toNat 32 with h | h
        · rw [decide_eq_true (show ((byteAt p0 i).toNat : Int) < 32 by omega)]
          rfl
        · rw [decide_eq_true (show ((byteAt p0 i).toNat : Int) > 126 by omega), Bool.or_true]
      rw [this]
      rfl
theorem impl_parts_good (p0 : ByteArray) (hall : ∀ j, j < p0.size → 32 ≤ (byteAt p0 j).toNat ∧ (byteAt p0 j).toNat ≤ 126) : ∀ n i, i + n = p0.size → impl_PartsOf_l1 p0 n i = finW (fieldsS p0) := by
  intro n
  induction n with
  | zero => intro i _; rfl
  | succ n ih =>
    intro i h
    obtain ⟨h1, h2⟩ := hall i (by omega)
    rw [impl_PartsOf_l1, decide_eq_false (show ¬ ((byteAt p0 i).toNat : Int) < 32 by omega), decide_eq_false (show ¬ ((byteAt p0 i).toNat : Int) > 126 by omega)]
    exact ih (i + 1) (by omega)
theorem impl_parts_bad (p0 : ByteArray) {j : Nat} (hj : j < p0.size) (hbad : ¬ (32 ≤ (byteAt p0 j).toNat ∧ (byteAt p0 j).toNat ≤ 126)) : ∀ n i, i + n = p0.size → i ≤ j → impl_PartsOf_l1 p0 n i = ([], false) := by
  intro n
  induction n with
  | zero => intro i h1 h2; omega
  | succ n ih =>
    intro i h1 h2
    rw [impl_PartsOf_l1]
    by_cases hb : 32 ≤ (byteAt p0 i).toNat ∧ (byteAt p0 i).toNat ≤ 126
    · have hne : i ≠ j := fun e => by subst e; exact hbad hb
      rw [decide_eq_false (show ¬ ((byteAt p0 i).toNat : Int) < 32 by omega), decide_eq_false (show ¬ ((byteAt p0 i).toNat : Int) > 126 by omega)]
      exact ih (i + 1) (by omega) (by omega)
    · have : ((decide (((byteAt p0 i).toNat : Int) < 32)) || (decide (((byteAt p0 i).toNat : Int) > 126))) = true := by
        rcases Nat.lt_or_ge (byteAt p0 i).toNat 32 with h | h
        · rw [decide_eq_true (show ((byteAt p0 i).toNat : Int) < 32 by omega)]
          rfl
        · rw [decide_eq_true (show ((byteAt p0 i).toNat : Int) > 126 by omega), Bool.or_true]
      rw [this]
      rfl
theorem fieldsS_toBA (p0 : ByteArray) : fieldsS p0 = (Lib.fieldsGo [] (sbytes p0)).map toBA := rfl
theorem PartsOf_twin (p0 : ByteArray) : impl_PartsOf p0 = spec_PartsOf p0 := by
  unfold impl_PartsOf spec_PartsOf
  cases hs : decide ((p0.size : Int) > 600) with
  | true => rfl
  | false =>
    show impl_PartsOf_l1 p0 (p0.size - 0) 0 = spec_PartsOf_l1 p0 ((p0.size + 1) - 0) [] 0 0
    by_cases hall : ∀ j, j < p0.size → 32 ≤ (byteAt p0 j).toNat ∧ (byteAt p0 j).toNat ≤ 126
    · rw [impl_parts_good p0 hall _ _ (by omega), show p0.size + 1 - 0 = p0.size + 1 from rfl]
      have := spec_parts_good p0 hall p0.size 0 [] 0 (by omega) (Nat.le_refl _)
      rw [show ((0 : Nat) : Int) = 0 from rfl] at this
      rw [this, fieldsS_toBA]
      rfl
    · obtain ⟨j, hj⟩ := Classical.not_forall.1 hall
      obtain ⟨hj1, hj2⟩ := Classical.not_imp.1 hj
      rw [impl_parts_bad p0 hj1 hj2 _ _ (by omega) (Nat.zero_le _), spec_parts_bad p0 hj1 hj2 _ _ _ _ (by omega) (Nat.zero_le _)]

end Go.Proofs.YtmjjcihoobnbgaaDoor.Fw
