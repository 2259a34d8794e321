/- TxLine: the reference and the program say the same line. By program (wip/gen). -/
import Derived.Test.YtmjjcihoobnbgaaDoorC6
import Derived.Test.YtmjjcihoobnbgaaDoorPE
namespace Go.Proofs.YtmjjcihoobnbgaaDoor.Fw
open Go.RowKit
set_option linter.unusedVariables false
set_option linter.unusedSimpArgs false


theorem join5 (a b c d e s : ByteArray) : strings_Join [a, b, c, d, e] s = a ++ (s ++ (b ++ (s ++ (c ++ (s ++ (d ++ (s ++ e))))))) := by
  apply ByteArray.ext
  simp [strings_Join, Lib.join, List.intercalate]
theorem TxLine_twin {x : Tx} (hg : Dat.good x) : impl_TxLine x = spec_TxLine x := by
  have h1 : impl_Decimal x.Id = spec_Decimal x.Id := (Decimal_twin hg.1).symm
  have h2 : impl_Decimal x.Age = spec_Decimal x.Age := (Decimal_twin hg.2.1).symm
  have h3 : impl_Decimal x.Proc = spec_Decimal x.Proc := (Decimal_twin hg.2.2.1).symm
  have h4 : impl_Decimal (x.Calls.length : Int) = spec_Decimal (x.Calls.length : Int) := (Decimal_twin (len_I64 hg.2.2.2.2.1.1)).symm
  unfold impl_TxLine spec_TxLine
  rw [h1, h2, h3, h4, join5, join5]
  generalize spec_Decimal x.Id = A
  generalize spec_Decimal x.Age = B
  generalize spec_Decimal x.Proc = C
  generalize spec_Decimal (x.Calls.length : Int) = E
  generalize x.State = k
  have p1 : (⟨#[32, 108, 105, 118, 101, 32]⟩ : ByteArray) = (⟨#[32]⟩ : ByteArray) ++ ((⟨#[108, 105, 118, 101]⟩ : ByteArray) ++ (⟨#[32]⟩ : ByteArray)) := by decide
  have p2 : (⟨#[32, 119, 104, 111, 108, 101, 32]⟩ : ByteArray) = (⟨#[32]⟩ : ByteArray) ++ ((⟨#[119, 104, 111, 108, 101]⟩ : ByteArray) ++ (⟨#[32]⟩ : ByteArray)) := by decide
  have p3 : (⟨#[32, 100, 114, 111, 112, 112, 101, 100, 32]⟩ : ByteArray) = (⟨#[32]⟩ : ByteArray) ++ ((⟨#[100, 114, 111, 112, 112, 101, 100]⟩ : ByteArray) ++ (⟨#[32]⟩ : ByteArray)) := by decide
  have p4 : (⟨#[32, 63, 32]⟩ : ByteArray) = (⟨#[32]⟩ : ByteArray) ++ ((⟨#[63]⟩ : ByteArray) ++ (⟨#[32]⟩ : ByteArray)) := by decide
  rw [p1, p2, p3, p4]
  by_cases k1 : k = 1
  · subst k1
    rw [if_pos (show impl_within 1 1 3 = true by decide), if_pos (show decide ((1 : Int) = 1) = true by decide)]
    show A ++ (_ ++ (B ++ (_ ++ (C ++ (_ ++ ((⟨#[108, 105, 118, 101]⟩ : ByteArray) ++ (_ ++ E))))))) = _
    simp only [ByteArray.append_assoc]
  · by_cases k2 : k = 2
    · subst k2
      rw [if_pos (show impl_within 2 1 3 = true by decide), if_neg (show ¬ decide ((2 : Int) = 1) = true by decide), if_pos (show decide ((2 : Int) = 2) = true by decide)]
      show A ++ (_ ++ (B ++ (_ ++ (C ++ (_ ++ ((⟨#[119, 104, 111, 108, 101]⟩ : ByteArray) ++ (_ ++ E))))))) = _
      simp only [ByteArray.append_assoc]
    · by_cases k3 : k = 3
      · subst k3
        rw [if_pos (show impl_within 3 1 3 = true by decide), if_neg (show ¬ decide ((3 : Int) = 1) = true by decide), if_neg (show ¬ decide ((3 : Int) = 2) = true by decide), if_pos (show decide ((3 : Int) = 3) = true by decide)]
        show A ++ (_ ++ (B ++ (_ ++ (C ++ (_ ++ ((⟨#[100, 114, 111, 112, 112, 101, 100]⟩ : ByteArray) ++ (_ ++ E))))))) = _
        simp only [ByteArray.append_assoc]
      · have hw : ¬ impl_within k 1 3 = true := fun h => by
          have := impl_within_t h
          omega
        rw [if_neg hw, if_neg (show ¬ decide (k = 1) = true by simpa using k1), if_neg (show ¬ decide (k = 2) = true by simpa using k2), if_neg (show ¬ decide (k = 3) = true by simpa using k3)]
        simp only [ByteArray.append_assoc]

end Go.Proofs.YtmjjcihoobnbgaaDoor.Fw
