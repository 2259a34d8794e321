/-
  The reference and the program say the same of a call, and write the same line for it. No condition.
-/
import Derived.Test.YtmjjcihoobnbgaaDoorK2
namespace Go.Proofs.YtmjjcihoobnbgaaDoor.Fw
open Go.RowKit
set_option linter.unusedVariables false
set_option linter.unusedSimpArgs false
set_option maxRecDepth 100000
theorem CallOk_twin (p0 : Call) : impl_CallOk p0 = spec_CallOk p0 := rfl
theorem within_wi (a b c : Int) : impl_within a b c = spec_l01In a b c := rfl
theorem of22 {k : Int} (h : 1 ≤ k ∧ k ≤ 22) : ∃ n : Fin 22, k = (n.val : Int) + 1 := ⟨⟨(k - 1).toNat, by omega⟩, by show k = (((k - 1).toNat : Nat) : Int) + 1; omega⟩
theorem CallName_22 : ∀ n : Fin 22, impl_CallName ((n.val : Int) + 1) = spec_CallName ((n.val : Int) + 1) := by decide +kernel
theorem CallName_in {k : Int} (h : 1 ≤ k ∧ k ≤ 22) : impl_CallName k = spec_CallName k := by
  obtain ⟨n, rfl⟩ := of22 h
  exact CallName_22 n
theorem Told_22 (N T X : ByteArray) (A B : Int) : ∀ n : Fin 22, impl_Told ⟨(n.val : Int) + 1, N, T, A, B, X⟩ = spec_Told ⟨(n.val : Int) + 1, N, T, A, B, X⟩
  | ⟨0, _⟩ => by kernel_rfl
  | ⟨1, _⟩ => by kernel_rfl
  | ⟨2, _⟩ => by kernel_rfl
  | ⟨3, _⟩ => by kernel_rfl
  | ⟨4, _⟩ => by kernel_rfl
  | ⟨5, _⟩ => by kernel_rfl
  | ⟨6, _⟩ => by kernel_rfl
  | ⟨7, _⟩ => by kernel_rfl
  | ⟨8, _⟩ => by kernel_rfl
  | ⟨9, _⟩ => by kernel_rfl
  | ⟨10, _⟩ => by kernel_rfl
  | ⟨11, _⟩ => by kernel_rfl
  | ⟨12, _⟩ => by kernel_rfl
  | ⟨13, _⟩ => by kernel_rfl
  | ⟨14, _⟩ => by kernel_rfl
  | ⟨15, _⟩ => by kernel_rfl
  | ⟨16, _⟩ => by kernel_rfl
  | ⟨17, _⟩ => by kernel_rfl
  | ⟨18, _⟩ => by kernel_rfl
  | ⟨19, _⟩ => by kernel_rfl
  | ⟨20, _⟩ => by kernel_rfl
  | ⟨21, _⟩ => by kernel_rfl
  | ⟨n + 22, h⟩ => by omega
theorem Told_in {p0 : Call} (h : 1 ≤ p0.Kind ∧ p0.Kind ≤ 22) : impl_Told p0 = spec_Told p0 := by
  obtain ⟨K, N, T, A, B, X⟩ := p0
  obtain ⟨n, rfl⟩ := of22 h
  exact Told_22 N T X A B n
theorem ByteArray_ge {b : UInt8} : ((b.toNat : Nat) : Int) = IntKind.i64.wrap (b.toNat : Int) := by
  have := b.toNat_lt
  rw [IntKind.wrap_i64]
  omega
theorem NameOk_l1_twin (p0 : ByteArray) : ∀ n i, impl_NameOk_l1 p0 n i = spec_NameOk_l1 p0 n i := by
  intro n
  induction n with
  | zero => intro i; rfl
  | succ n ih =>
    intro i
    rw [impl_NameOk_l1, spec_NameOk_l1, ih, ← ByteArray_ge]
    rfl
theorem NameOk_twin (p0 : ByteArray) : impl_NameOk p0 = spec_NameOk p0 := NameOk_l1_twin p0 _ _
def relB (f u : UInt8) : Bool := (f == 78 && u == 110) || (f == 84 && u == 116) || (f == 65 && u == 97) || (f == 66 && u == 98) || (f == 88 && u == 120)
theorem uses_22 : ∀ n : Fin 22, (impl_fieldsOf ((n.val : Int) + 1)).size = (spec_l38Uses ((n.val : Int) + 1)).size ∧ ∀ i : Fin 3, i.val < (spec_l38Uses ((n.val : Int) + 1)).size → relB (byteAt (impl_fieldsOf ((n.val : Int) + 1)) i.val) (byteAt (spec_l38Uses ((n.val : Int) + 1)) i.val) = true := by decide +kernel
theorem told_A (N T X : ByteArray) (A B : Int) : ∀ n : Fin 22, (∃ j, j < (impl_fieldsOf ((n.val : Int) + 1)).size ∧ byteAt (impl_fieldsOf ((n.val : Int) + 1)) j = 65) ∨ (spec_Told ⟨(n.val : Int) + 1, N, T, A, B, X⟩).A = 0
  | ⟨0, _⟩ => .inr (by kernel_rfl)
  | ⟨1, _⟩ => .inr (by kernel_rfl)
  | ⟨2, _⟩ => .inr (by kernel_rfl)
  | ⟨3, _⟩ => .inr (by kernel_rfl)
  | ⟨4, _⟩ => .inr (by kernel_rfl)
  | ⟨5, _⟩ => .inl ⟨1, show 1 < (impl_fieldsOf 6).size ∧ byteAt (impl_fieldsOf 6) 1 = 65 from by decide +kernel⟩
  | ⟨6, _⟩ => .inl ⟨1, show 1 < (impl_fieldsOf 7).size ∧ byteAt (impl_fieldsOf 7) 1 = 65 from by decide +kernel⟩
  | ⟨7, _⟩ => .inl ⟨1, show 1 < (impl_fieldsOf 8).size ∧ byteAt (impl_fieldsOf 8) 1 = 65 from by decide +kernel⟩
  | ⟨8, _⟩ => .inr (by kernel_rfl)
  | ⟨9, _⟩ => .inl ⟨0, show 0 < (impl_fieldsOf 10).size ∧ byteAt (impl_fieldsOf 10) 0 = 65 from by decide +kernel⟩
  | ⟨10, _⟩ => .inl ⟨0, show 0 < (impl_fieldsOf 11).size ∧ byteAt (impl_fieldsOf 11) 0 = 65 from by decide +kernel⟩
  | ⟨11, _⟩ => .inr (by kernel_rfl)
  | ⟨12, _⟩ => .inl ⟨0, show 0 < (impl_fieldsOf 13).size ∧ byteAt (impl_fieldsOf 13) 0 = 65 from by decide +kernel⟩
  | ⟨13, _⟩ => .inl ⟨0, show 0 < (impl_fieldsOf 14).size ∧ byteAt (impl_fieldsOf 14) 0 = 65 from by decide +kernel⟩
  | ⟨14, _⟩ => .inr (by kernel_rfl)
  | ⟨15, _⟩ => .inl ⟨0, show 0 < (impl_fieldsOf 16).size ∧ byteAt (impl_fieldsOf 16) 0 = 65 from by decide +kernel⟩
  | ⟨16, _⟩ => .inr (by kernel_rfl)
  | ⟨17, _⟩ => .inl ⟨0, show 0 < (impl_fieldsOf 18).size ∧ byteAt (impl_fieldsOf 18) 0 = 65 from by decide +kernel⟩
  | ⟨18, _⟩ => .inl ⟨0, show 0 < (impl_fieldsOf 19).size ∧ byteAt (impl_fieldsOf 19) 0 = 65 from by decide +kernel⟩
  | ⟨19, _⟩ => .inl ⟨0, show 0 < (impl_fieldsOf 20).size ∧ byteAt (impl_fieldsOf 20) 0 = 65 from by decide +kernel⟩
  | ⟨20, _⟩ => .inl ⟨0, show 0 < (impl_fieldsOf 21).size ∧ byteAt (impl_fieldsOf 21) 0 = 65 from by decide +kernel⟩
  | ⟨21, _⟩ => .inr (by kernel_rfl)
  | ⟨n + 22, h⟩ => by omega
theorem told_B (N T X : ByteArray) (A B : Int) : ∀ n : Fin 22, (∃ j, j < (impl_fieldsOf ((n.val : Int) + 1)).size ∧ byteAt (impl_fieldsOf ((n.val : Int) + 1)) j = 66) ∨ (spec_Told ⟨(n.val : Int) + 1, N, T, A, B, X⟩).B = 0
  | ⟨0, _⟩ => .inr (by kernel_rfl)
  | ⟨1, _⟩ => .inr (by kernel_rfl)
  | ⟨2, _⟩ => .inr (by kernel_rfl)
  | ⟨3, _⟩ => .inr (by kernel_rfl)
  | ⟨4, _⟩ => .inr (by kernel_rfl)
  | ⟨5, _⟩ => .inl ⟨2, show 2 < (impl_fieldsOf 6).size ∧ byteAt (impl_fieldsOf 6) 2 = 66 from by decide +kernel⟩
  | ⟨6, _⟩ => .inr (by kernel_rfl)
  | ⟨7, _⟩ => .inr (by kernel_rfl)
  | ⟨8, _⟩ => .inr (by kernel_rfl)
  | ⟨9, _⟩ => .inr (by kernel_rfl)
  | ⟨10, _⟩ => .inr (by kernel_rfl)
  | ⟨11, _⟩ => .inr (by kernel_rfl)
  | ⟨12, _⟩ => .inr (by kernel_rfl)
  | ⟨13, _⟩ => .inr (by kernel_rfl)
  | ⟨14, _⟩ => .inr (by kernel_rfl)
  | ⟨15, _⟩ => .inl ⟨1, show 1 < (impl_fieldsOf 16).size ∧ byteAt (impl_fieldsOf 16) 1 = 66 from by decide +kernel⟩
  | ⟨16, _⟩ => .inr (by kernel_rfl)
  | ⟨17, _⟩ => .inr (by kernel_rfl)
  | ⟨18, _⟩ => .inr (by kernel_rfl)
  | ⟨19, _⟩ => .inr (by kernel_rfl)
  | ⟨20, _⟩ => .inr (by kernel_rfl)
  | ⟨21, _⟩ => .inr (by kernel_rfl)
  | ⟨n + 22, h⟩ => by omega
theorem fT_A (p0 : Call) : impl_Call_fieldText p0 65 = (impl_Decimal p0.A, impl_within p0.A 0 1000000000) := rfl
theorem fT_B (p0 : Call) : impl_Call_fieldText p0 66 = (impl_Decimal p0.B, impl_within p0.B 0 1000000000) := rfl
theorem fT_N (p0 : Call) : impl_Call_fieldText p0 78 = (p0.Name, impl_NameOk p0.Name) := rfl
theorem fT_T (p0 : Call) : impl_Call_fieldText p0 84 = (p0.To, impl_NameOk p0.To) := rfl
theorem fT_X (p0 : Call) : impl_Call_fieldText p0 88 = bif decide (p0.Text = ⟨#[]⟩) then (⟨#[45]⟩, true) else (impl_hexOf p0.Text, true) := rfl
theorem line_no (p0 : Call) (c : UInt8) (hc : (impl_Call_fieldText p0 (c.toNat : Int)).2 = false) : ∀ n i v, i + n = (impl_fieldsOf p0.Kind).size → (∃ j, i ≤ j ∧ j < (impl_fieldsOf p0.Kind).size ∧ byteAt (impl_fieldsOf p0.Kind) j = c) → impl_CallLine_l1 p0 n i v = ⟨#[]⟩ := by
  intro n
  induction n with
  | zero => rintro i v h ⟨j, h1, h2, _⟩; omega
  | succ n ih =>
    rintro i v h ⟨j, h1, h2, h3⟩
    rw [impl_CallLine_l1]
    by_cases e : i = j
    · subst e
      rw [h3, hc]
      rfl
    · rw [ih (i + 1) _ (by omega) ⟨j, by omega, h2, h3⟩]
      cases (!(impl_Call_fieldText p0 ((byteAt (impl_fieldsOf p0.Kind) i).toNat : Int)).2) <;> rfl
theorem hex_text {p0 : ByteArray} (h : p0.size ≤ 64) : (bif decide (p0 = ⟨#[]⟩) then ((⟨#[45]⟩, true) : ByteArray × Bool) else (impl_hexOf p0, true)) = ((bif decide ((spec_Hex p0).1 = ⟨#[]⟩) then ⟨#[45]⟩ else (spec_Hex p0).1), true) := by
  rw [impl_hexOf_is (by omega), spec_Hex_is (by omega)]
  by_cases e : p0 = ⟨#[]⟩
  · subst e
    rfl
  · have hz : p0.size ≠ 0 := size_ne e
    have h2 : hexEnc (sbytes p0) ≠ ⟨#[]⟩ := fun e2 => by
      have := hexEnc_size (sbytes p0)
      rw [e2, sbytes_length] at this
      have h0 : (⟨#[]⟩ : ByteArray).size = 0 := rfl
      omega
    simp only [e, h2, decide_false, cond_false]
theorem line_twin {p0 : Call} (hk : 1 ≤ p0.Kind ∧ p0.Kind ≤ 22) (hx : p0.Text.size ≤ 64) (hg : Dat.good p0) (hA : spec_l01In p0.A 0 1000000000 = true) (hB : spec_l01In p0.B 0 1000000000 = true) :
    ∀ n i v, i + n = (spec_l38Uses p0.Kind).size → impl_CallLine_l1 p0 n i v = spec_CallLine_l1 p0 n v i := by
  have hr : ∀ i, i < (spec_l38Uses p0.Kind).size → relB (byteAt (impl_fieldsOf p0.Kind) i) (byteAt (spec_l38Uses p0.Kind) i) = true := fun i hi => by
    obtain ⟨m, hm⟩ := of22 hk
    rw [hm] at hi ⊢
    have h3 := spec_l38Uses_size ((m.val : Int) + 1)
    exact (uses_22 m).2 ⟨i, by omega⟩ hi
  have ha : impl_Decimal p0.A = spec_Decimal p0.A := (Decimal_twin hg.2.2.2.1).symm
  have hb : impl_Decimal p0.B = spec_Decimal p0.B := (Decimal_twin hg.2.2.2.2.1).symm
  intro n
  induction n with
  | zero => intro i v _; rfl
  | succ n ih =>
    intro i v h
    rw [impl_CallLine_l1, spec_CallLine_l1]
    have hi := hr i (by omega)
    generalize byteAt (impl_fieldsOf p0.Kind) i = f at hi ⊢
    generalize byteAt (spec_l38Uses p0.Kind) i = u at hi ⊢
    simp only [relB, Bool.or_eq_true, Bool.and_eq_true, beq_iff_eq] at hi
    rcases hi with (((⟨rfl, rfl⟩ | ⟨rfl, rfl⟩) | ⟨rfl, rfl⟩) | ⟨rfl, rfl⟩) | ⟨rfl, rfl⟩
    · rw [show ((UInt8.toNat 78 : Nat) : Int) = 78 from rfl, fT_N, NameOk_twin, show ((UInt8.toNat 110 : Nat) : Int) = 110 from rfl, ih _ _ (by omega), bt_assoc]
      rfl
    · rw [show ((UInt8.toNat 84 : Nat) : Int) = 84 from rfl, fT_T, NameOk_twin, show ((UInt8.toNat 116 : Nat) : Int) = 116 from rfl, ih _ _ (by omega), bt_assoc]
      rfl
    · rw [show ((UInt8.toNat 65 : Nat) : Int) = 65 from rfl, fT_A, within_wi, hA, show ((UInt8.toNat 97 : Nat) : Int) = 97 from rfl, ih _ _ (by omega), bt_assoc, ha]
      rfl
    · rw [show ((UInt8.toNat 66 : Nat) : Int) = 66 from rfl, fT_B, within_wi, hB, show ((UInt8.toNat 98 : Nat) : Int) = 98 from rfl, ih _ _ (by omega), bt_assoc, hb]
      rfl
    · rw [show ((UInt8.toNat 88 : Nat) : Int) = 88 from rfl, fT_X, hex_text hx, show ((UInt8.toNat 120 : Nat) : Int) = 120 from rfl, ih _ _ (by omega), bt_assoc]
      rfl
theorem CallLine_twin {p0 : Call} (hg : Dat.good p0) : impl_CallLine p0 = spec_CallLine p0 := by
  unfold impl_CallLine spec_CallLine
  rw [CallOk_twin]
  cases hok : spec_CallOk p0 with
  | false => rfl
  | true =>
    obtain ⟨hk, h1, h2, h3⟩ := spec_CallOk_t hok
    rw [Told_in hk, CallName_in hk]
    by_cases ht : p0 = spec_Told p0
    · have hsz : (impl_fieldsOf p0.Kind).size = (spec_l38Uses p0.Kind).size := by
        obtain ⟨m, hm⟩ := of22 hk
        rw [hm]
        exact (uses_22 m).1
      simp only [decide_eq_true ht, decide_eq_true ht.symm, Bool.not_true, Bool.or_false, Bool.false_or, cond_false, Nat.sub_zero]
      have eA : ∃ m : Fin 22, p0 = ⟨(m.val : Int) + 1, p0.Name, p0.To, p0.A, p0.B, p0.Text⟩ := by
        obtain ⟨K, N, T, A, B, X⟩ := p0
        obtain ⟨n, rfl⟩ := of22 hk
        exact ⟨n, rfl⟩
      obtain ⟨m, hm⟩ := eA
      cases hA : spec_l38Fits p0.A with
      | false =>
        have hA' : impl_within p0.A 0 1000000000 = false := hA
        refine line_no p0 65 (by show (impl_Call_fieldText p0 65).2 = false; rw [fT_A]; exact hA') _ _ _ (by omega) ?_
        rcases told_A p0.Name p0.To p0.Text p0.A p0.B m with ⟨j, hj1, hj2⟩ | h0
        · rw [hm]
          exact ⟨j, Nat.zero_le _, hj1, hj2⟩
        · rw [← hm, ← ht] at h0
          rw [h0] at hA
          cases hA
      | true =>
        cases hB : spec_l38Fits p0.B with
        | false =>
          have hB' : impl_within p0.B 0 1000000000 = false := hB
          refine line_no p0 66 (by show (impl_Call_fieldText p0 66).2 = false; rw [fT_B]; exact hB') _ _ _ (by omega) ?_
          rcases told_B p0.Name p0.To p0.Text p0.A p0.B m with ⟨j, hj1, hj2⟩ | h0
          · rw [hm]
            exact ⟨j, Nat.zero_le _, hj1, hj2⟩
          · rw [← hm, ← ht] at h0
            rw [h0] at hB
            cases hB
        | true =>
          rw [hsz]
          exact line_twin hk h3 hg hA hB _ _ _ (by omega)
    · simp only [decide_eq_false ht, decide_eq_false (fun e : spec_Told p0 = p0 => ht e.symm), Bool.not_true, Bool.not_false, Bool.or_true, Bool.true_or, Bool.false_or, cond_true]
theorem impl_CallLine_l1_size {p0 : Call} (hg : Dat.good p0) (h1 : p0.Name.size ≤ 20) (h2 : p0.To.size ≤ 20) (h3 : p0.Text.size ≤ 64) : ∀ n i v, v.size ≤ 10 + 200 * i → (impl_CallLine_l1 p0 n i v).size ≤ 10 + 200 * (i + n) := by
  intro n
  induction n with
  | zero => intro i v h; exact h
  | succ n ih =>
    intro i v h
    rw [impl_CallLine_l1]
    have hf := impl_Call_fieldText_size (p0 := p0) (p1 := ((byteAt (impl_fieldsOf p0.Kind) i).toNat : Int)) hg h1 h2 h3
    refine szb ?_ ?_
    · exact Nat.le_trans (Nat.le_of_ble_eq_true rfl : (⟨#[]⟩ : ByteArray).size ≤ 10) (by omega)
    · have := ih (i + 1) (v ++ (⟨#[32]⟩ ++ (impl_Call_fieldText p0 ((byteAt (impl_fieldsOf p0.Kind) i).toNat : Int)).1)) (by
        simp only [ByteArray.size_append, bts, List.size_toArray, List.length_cons, List.length_nil]
        omega)
      omega
theorem impl_CallLine_size {p0 : Call} (hg : Dat.good p0) : (impl_CallLine p0).size ≤ 610 := by
  unfold impl_CallLine
  cases hb : (!(impl_CallOk p0)) || (!(decide (p0 = (impl_Told p0)))) with
  | true => exact Nat.le_of_ble_eq_true rfl
  | false =>
    have hok : impl_CallOk p0 = true := by
      have := (Bool.or_eq_false_iff.1 hb).1
      simpa using this
    obtain ⟨_, h1, h2, h3⟩ := impl_CallOk_t hok
    have hn := impl_CallName_size p0.Kind
    have hf := impl_fieldsOf_size p0.Kind
    have := impl_CallLine_l1_size hg h1 h2 h3 ((impl_fieldsOf p0.Kind).size - 0) 0 (impl_CallName p0.Kind) (by omega)
    show (impl_CallLine_l1 p0 ((impl_fieldsOf p0.Kind).size - 0) 0 (impl_CallName p0.Kind)).size ≤ 610
    omega
theorem spec_CallLine_size {p0 : Call} (hg : Dat.good p0) : (spec_CallLine p0).size ≤ 610 := by
  rw [← CallLine_twin hg]
  exact impl_CallLine_size hg

end Go.Proofs.YtmjjcihoobnbgaaDoor.Fw
