/-
  Hexadecimal texts: the reference and the program say the same. No condition.
-/
import Derived.Test.YtmjjcihoobnbgaaDoorK1
namespace Go.Proofs.YtmjjcihoobnbgaaDoor.Fw
open Go.RowKit
set_option linter.unusedVariables false
set_option linter.unusedSimpArgs false
set_option maxRecDepth 100000
theorem fig_digits : ∀ n : Fin 256, fig (IntKind.i64.wrap (Int.tdiv (IntKind.i64.wrap ((n.val : Nat) : Int)) 16)) = Lib.Hx.digit (n.val / 16) ∧ fig (Int.tmod (IntKind.i64.wrap ((n.val : Nat) : Int)) 16) = Lib.Hx.digit (n.val % 16) := by decide +kernel
theorem fig_byte (b : UInt8) : fig (IntKind.i64.wrap (Int.tdiv (IntKind.i64.wrap (b.toNat : Int)) 16)) = Lib.Hx.digit (b.toNat / 16) ∧ fig (Int.tmod (IntKind.i64.wrap (b.toNat : Int)) 16) = Lib.Hx.digit (b.toNat % 16) := fig_digits ⟨b.toNat, b.toNat_lt⟩
theorem sbytes_at {s : ByteArray} {i : Nat} (h : i < (sbytes s).length) : (sbytes s)[i] = byteAt s i := by
  have h' : i < s.data.size := by rw [sbytes_length] at h; exact h
  unfold byteAt
  rw [Array.getD_eq_getD_getElem?, Array.getElem?_eq_getElem h']
  simp [sbytes]
theorem spec_Hex_l1_is (p0 : ByteArray) : ∀ n i v, n = p0.size - i → spec_Hex_l1 p0 n v i = (bstr (v ++ Lib.Hx.encode ((sbytes p0).drop i)), true) := by
  intro n
  induction n with
  | zero =>
    intro i v h
    rw [List.drop_eq_nil_of_le (by rw [sbytes_length]; omega)]
    show (bstr v, true) = _
    rw [show Lib.Hx.encode [] = [] from rfl, List.append_nil]
  | succ n ih =>
    intro i v h
    have hi : i < (sbytes p0).length := by rw [sbytes_length]; omega
    rw [spec_Hex_l1, ih _ _ (by omega), List.drop_eq_getElem_cons hi, Lib.Hx.encode_cons, sbytes_at hi, (fig_byte _).1, (fig_byte _).2, List.append_assoc]
    rfl
theorem spec_Hex_is {p0 : ByteArray} (h : p0.size ≤ 20000) : (spec_Hex p0).1 = hexEnc (sbytes p0) := by
  unfold spec_Hex
  have hc : ¬ (p0.size : Int) > 20000 := by omega
  simp only [hc, decide_false, cond_false]
  rw [spec_Hex_l1_is p0 _ _ _ rfl]
  rfl
theorem impl_hexOf_is {p0 : ByteArray} (h : p0.size ≤ 20000) : impl_hexOf p0 = hexEnc (sbytes p0) := by
  unfold impl_hexOf impl_Hex
  have hc : ¬ (p0.size : Int) > 20000 := by omega
  simp only [hc, decide_false, cond_false]
theorem hexEnc_size (xs : List UInt8) : (hexEnc xs).size = 2 * xs.length := by
  show ((Lib.Hx.encode xs).toArray).size = _
  rw [List.size_toArray, Lib.Hx.encode_length]
theorem spec_Hex_size {p0 : ByteArray} (h : p0.size ≤ 64) : (spec_Hex p0).1.size ≤ 128 := by
  rw [spec_Hex_is (by omega), hexEnc_size, sbytes_length]
  omega

end Go.Proofs.YtmjjcihoobnbgaaDoor.Fw
