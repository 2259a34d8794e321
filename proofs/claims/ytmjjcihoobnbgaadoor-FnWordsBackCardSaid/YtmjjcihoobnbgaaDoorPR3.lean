/-
  The reference and the program read the same bytes off a hexadecimal text. No condition.
-/
import Derived.Lib.ShelfFacts
import Derived.Test.YtmjjcihoobnbgaaDoorPR2
namespace Go.Proofs.YtmjjcihoobnbgaaDoor.Fw
open Go.RowKit
set_option linter.unusedVariables false
set_option linter.unusedSimpArgs false
set_option maxRecDepth 100000
/-! ## Hexadecimal texts, read -/
theorem val_digit {d : Nat} (h : d < 16) : spec_l01Value (Lib.Hx.digit d) = (d : Int) := by
  have key : ∀ n : Fin 16, spec_l01Value (Lib.Hx.digit n.val) = (n.val : Int) := by decide +kernel
  exact key ⟨d, h⟩
theorem val_back (b : UInt8) (h : 0 ≤ spec_l01Value b) : (spec_l01Value b).toNat < 16 ∧ Lib.Hx.digit (spec_l01Value b).toNat = b := by
  have key : ∀ n : Fin 256, 0 ≤ spec_l01Value (UInt8.ofNat n.val) → (spec_l01Value (UInt8.ofNat n.val)).toNat < 16 ∧ Lib.Hx.digit (spec_l01Value (UInt8.ofNat n.val)).toNat = UInt8.ofNat n.val := by decide +kernel
  have e : UInt8.ofNat b.toNat = b := by simp
  have := key ⟨b.toNat, b.toNat_lt⟩
  simp only [e] at this
  exact this h
theorem byte_of {h l : Nat} (hh : h < 16) (hl : l < 16) : u8of (IntKind.i64.wrap ((IntKind.i64.wrap (16 * (h : Int))) + (l : Int))) = UInt8.ofNat (16 * h + l) := by
  have key : ∀ a b : Fin 16, u8of (IntKind.i64.wrap ((IntKind.i64.wrap (16 * (a.val : Int))) + (b.val : Int))) = UInt8.ofNat (16 * a.val + b.val) := by decide +kernel
  exact key ⟨h, hh⟩ ⟨l, hl⟩
theorem sbytes_hexEnc (xs : List UInt8) : sbytes (hexEnc xs) = Lib.Hx.encode xs := by
  show ((Lib.Hx.encode xs).toArray).toList = _
  rw [List.toList_toArray]
def kU (e : List UInt8) : ByteArray × Bool := (bstr e, true)
theorem unhex_good (p0 : ByteArray) : ∀ (raw : List UInt8) (i : Nat) (v : List UInt8) (fu : Nat), i + 2 * raw.length = p0.size → raw.length ≤ fu → (sbytes p0).drop i = Lib.Hx.encode raw → spec_Unhex_l1 p0 kU fu v i = (bstr (v ++ raw), true) := by
  intro raw
  induction raw with
  | nil =>
    intro i v fu h1 h2 h3
    have hi : decide ((i : Int) < (p0.size : Int)) = false := decide_eq_false (by simp only [List.length_nil] at h1; omega)
    rw [List.append_nil]
    cases fu with
    | zero => rfl
    | succ n => rw [spec_Unhex_l1, hi]; rfl
  | cons x r ih =>
    intro i v fu h1 h2 h3
    rw [List.length_cons] at h1 h2
    obtain ⟨f, rfl⟩ : ∃ f, fu = f + 1 := ⟨fu - 1, by omega⟩
    have hl1 : i < p0.size := by omega
    have hl2 : i + 1 < p0.size := by omega
    rw [drop_at p0 hl1, drop_at p0 hl2, Lib.Hx.encode_cons] at h3
    injection h3 with e1 h3
    injection h3 with e2 e3
    have hx := x.toNat_lt
    rw [spec_Unhex_l1, decide_eq_true (show (i : Int) < (p0.size : Int) by omega), e1, e2, val_digit (by omega), val_digit (by omega), decide_eq_false (show ¬ ((x.toNat / 16 : Nat) : Int) < 0 by omega), decide_eq_false (show ¬ ((x.toNat % 16 : Nat) : Int) < 0 by omega), byte_of (by omega) (by omega), show 16 * (x.toNat / 16) + x.toNat % 16 = x.toNat by omega]
    simp only [Bool.or_self, cond_true, cond_false]
    rw [ih (i + 2) _ f (by omega) (by omega) e3, show UInt8.ofNat x.toNat = x by simp, List.append_assoc]
    rfl
theorem unhex_back (p0 : ByteArray) (he : p0.size % 2 = 0) : ∀ (fu i : Nat) (v : List UInt8), i % 2 = 0 → i ≤ p0.size → p0.size - i ≤ fu →
    spec_Unhex_l1 p0 kU fu v i = (⟨#[]⟩, false) ∨ ∃ raw : List UInt8, (sbytes p0).drop i = Lib.Hx.encode raw ∧ i + 2 * raw.length = p0.size := by
  intro fu
  induction fu with
  | zero =>
    intro i v h1 h2 h3
    exact .inr ⟨[], List.drop_eq_nil_of_le (by rw [sbytes_length]; omega), by simp only [List.length_nil]; omega⟩
  | succ f ih =>
    intro i v h1 h2 h3
    by_cases hi : i < p0.size
    · have hl2 : i + 1 < p0.size := by omega
      rw [spec_Unhex_l1, decide_eq_true (show (i : Int) < (p0.size : Int) by omega)]
      by_cases hv : spec_l01Value (byteAt p0 i) < 0
      · rw [decide_eq_true hv]
        exact .inl rfl
      · by_cases hw : spec_l01Value (byteAt p0 (i + 1)) < 0
        · rw [decide_eq_true hw, Bool.or_true]
          exact .inl rfl
        · rw [decide_eq_false hv, decide_eq_false hw]
          simp only [Bool.or_self, cond_true, cond_false]
          obtain ⟨a1, a2⟩ := val_back (byteAt p0 i) (by omega)
          obtain ⟨b1, b2⟩ := val_back (byteAt p0 (i + 1)) (by omega)
          rcases ih (i + 2) (v ++ [u8of (IntKind.i64.wrap ((IntKind.i64.wrap (16 * (spec_l01Value (byteAt p0 i)))) + (spec_l01Value (byteAt p0 (i + 1)))))]) (by omega) (by omega) (by omega) with h | ⟨raw, hr, hs⟩
          · exact .inl h
          · refine .inr ⟨UInt8.ofNat (16 * (spec_l01Value (byteAt p0 i)).toNat + (spec_l01Value (byteAt p0 (i + 1))).toNat) :: raw, ?_, by rw [List.length_cons]; omega⟩
            have ex : (UInt8.ofNat (16 * (spec_l01Value (byteAt p0 i)).toNat + (spec_l01Value (byteAt p0 (i + 1))).toNat)).toNat = 16 * (spec_l01Value (byteAt p0 i)).toNat + (spec_l01Value (byteAt p0 (i + 1))).toNat := by
              have h := UInt8.toNat_ofNat' (n := 16 * (spec_l01Value (byteAt p0 i)).toNat + (spec_l01Value (byteAt p0 (i + 1))).toNat)
              rw [h]
              omega
            rw [drop_at p0 hi, drop_at p0 hl2, Lib.Hx.encode_cons, ex, hr]
            rw [show (16 * (spec_l01Value (byteAt p0 i)).toNat + (spec_l01Value (byteAt p0 (i + 1))).toNat) / 16 = (spec_l01Value (byteAt p0 i)).toNat by omega, show (16 * (spec_l01Value (byteAt p0 i)).toNat + (spec_l01Value (byteAt p0 (i + 1))).toNat) % 16 = (spec_l01Value (byteAt p0 (i + 1))).toNat by omega, a2, b2]
    · exact .inr ⟨[], List.drop_eq_nil_of_le (by rw [sbytes_length]; omega), by simp only [List.length_nil]; omega⟩
theorem decodeS_enc (raw : List UInt8) : decodeS (hexEnc raw) = (raw, true) := by
  unfold decodeS
  rw [show (hexEnc raw).data.toList = Lib.Hx.encode raw from sbytes_hexEnc raw, Lib.Hx.decode_encode]
theorem impl_unhex_good (raw : List UInt8) (h : raw.length ≤ 20000) : impl_Unhex (hexEnc raw) = (bstr raw, true) := by
  unfold impl_Unhex
  rw [decodeS_enc, decide_eq_false (show ¬ (((raw, true) : List UInt8 × Bool).1.length : Int) > 20000 by show ¬ (raw.length : Int) > 20000; omega), decide_eq_true (show hexEnc ((raw, true) : List UInt8 × Bool).1 = hexEnc raw from rfl)]
  rfl
theorem impl_unhex_bad (p0 : ByteArray) (h : ∀ raw : List UInt8, raw.length ≤ 20000 → hexEnc raw ≠ p0) : impl_Unhex p0 = (⟨#[]⟩, false) := by
  unfold impl_Unhex
  by_cases hl : (decodeS p0).1.length ≤ 20000
  · rw [decide_eq_false (h _ hl), Bool.not_false, Bool.or_true]
    rfl
  · rw [decide_eq_true (show ((decodeS p0).1.length : Int) > 20000 by omega), Bool.or_true, Bool.true_or]
    rfl
theorem hexEnc_of {p0 : ByteArray} {raw : List UInt8} (h : sbytes p0 = Lib.Hx.encode raw) : hexEnc raw = p0 := by
  unfold hexEnc
  rw [← h]
  rfl
theorem Unhex_twin (p0 : ByteArray) : impl_Unhex p0 = spec_Unhex p0 := by
  unfold spec_Unhex
  cases hc : (decide ((p0.size : Int) > 40000)) || (!decide ((Int.tmod (p0.size : Int) 2) = 0)) with
  | true =>
    rw [impl_unhex_bad p0 fun raw hl e => ?_]
    · rfl
    · have hs : p0.size = 2 * raw.length := by rw [← e, hexEnc_size]
      rw [decide_eq_false (show ¬ (p0.size : Int) > 40000 by omega)] at hc
      have ht : Int.tmod (p0.size : Int) 2 = 0 := by
        rw [hs]
        show (((2 * raw.length) % 2 : Nat) : Int) = 0
        omega
      rw [decide_eq_true ht] at hc
      cases hc
  | false =>
    have h1 : p0.size ≤ 40000 := by
      have := (Bool.or_eq_false_iff.1 hc).1
      simp at this
      omega
    have he := even_of (Bool.or_eq_false_iff.1 hc).2
    show impl_Unhex p0 = spec_Unhex_l1 p0 kU (p0.size - 0) [] 0
    rcases unhex_back p0 he (p0.size - 0) 0 [] rfl (Nat.zero_le _) (Nat.le_refl _) with h | ⟨raw, hr, hs⟩
    · rw [h]
      refine impl_unhex_bad p0 fun raw hl e => ?_
      have hs : p0.size = 2 * raw.length := by rw [← e, hexEnc_size]
      have := unhex_good p0 raw 0 [] (p0.size - 0) (by omega) (by omega) (by rw [List.drop_zero, ← e, sbytes_hexEnc])
      rw [h] at this
      cases this
    · rw [List.drop_zero] at hr
      have e := hexEnc_of hr
      rw [unhex_good p0 raw 0 [] (p0.size - 0) (by omega) (by omega) (by rw [List.drop_zero]; exact hr), List.nil_append]
      conv => lhs; rw [← e]
      exact impl_unhex_good raw (by omega)

end Go.Proofs.YtmjjcihoobnbgaaDoor.Fw
