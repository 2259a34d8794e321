/- EntryLine: the reference and the program say the same line. By program (wip/gen). -/
import Derived.Test.YtpfnofdaaekglaaDoorC4
namespace Go.Proofs.YtpfnofdaaekglaaDoor.Fw
open Go.RowKit
set_option linter.unusedVariables false
set_option linter.unusedSimpArgs false


theorem len_I64 {n : Nat} (h : n ≤ maxLen) : I64 (n : Int) := by
  unfold maxLen at h
  unfold I64
  omega
theorem EntryLine_twin {e : Entry} (hg : Dat.good e) : impl_EntryLine e = spec_EntryLine e := by
  have h1 : impl_Decimal e.Seq = spec_Decimal e.Seq := (Decimal_twin hg.1).symm
  have h2 : impl_Decimal (e.Steps.length : Int) = spec_Decimal (e.Steps.length : Int) := (Decimal_twin (len_I64 hg.2.2.2.1.1)).symm
  unfold impl_EntryLine spec_EntryLine
  rw [h1, h2]
  generalize spec_Decimal e.Seq = A
  generalize spec_Decimal (e.Steps.length : Int) = B
  generalize e.Kind = k
  generalize e.Laid = l
  have p1 : (⟨#[32, 112, 108, 97, 105, 110, 32]⟩ : ByteArray) = (⟨#[32]⟩ : ByteArray) ++ ((⟨#[112, 108, 97, 105, 110]⟩ : ByteArray) ++ (⟨#[32]⟩ : ByteArray)) := by decide
  have p2 : (⟨#[32, 119, 104, 111, 108, 101, 32]⟩ : ByteArray) = (⟨#[32]⟩ : ByteArray) ++ ((⟨#[119, 104, 111, 108, 101]⟩ : ByteArray) ++ (⟨#[32]⟩ : ByteArray)) := by decide
  have p3 : (⟨#[32, 63, 32]⟩ : ByteArray) = (⟨#[32]⟩ : ByteArray) ++ ((⟨#[63]⟩ : ByteArray) ++ (⟨#[32]⟩ : ByteArray)) := by decide
  rw [p1, p2, p3]
  by_cases k1 : k = 1
  · subst k1
    rw [if_pos (show impl_within 1 1 2 = true by decide), if_pos (show decide ((1 : Int) = 1) = true by decide)]
    show (if l = true then ((((A ++ _) ++ (⟨#[112, 108, 97, 105, 110]⟩ : ByteArray)) ++ _) ++ B) ++ _ else (((A ++ _) ++ (⟨#[112, 108, 97, 105, 110]⟩ : ByteArray)) ++ _) ++ B) = _
    simp only [ByteArray.append_assoc]
  · by_cases k2 : k = 2
    · subst k2
      rw [if_pos (show impl_within 2 1 2 = true by decide), if_neg (show ¬ decide ((2 : Int) = 1) = true by decide), if_pos (show decide ((2 : Int) = 2) = true by decide)]
      show (if l = true then ((((A ++ _) ++ (⟨#[119, 104, 111, 108, 101]⟩ : ByteArray)) ++ _) ++ B) ++ _ else (((A ++ _) ++ (⟨#[119, 104, 111, 108, 101]⟩ : ByteArray)) ++ _) ++ B) = _
      simp only [ByteArray.append_assoc]
    · have hw : ¬ impl_within k 1 2 = true := fun h => by
        have := impl_within_t h
        omega
      rw [if_neg hw, if_neg (show ¬ decide (k = 1) = true by simpa using k1), if_neg (show ¬ decide (k = 2) = true by simpa using k2)]
      simp only [ByteArray.append_assoc]

end Go.Proofs.YtpfnofdaaekglaaDoor.Fw
