/- Plain laws of the marks of texts. By program (wip/gen). -/
import Derived.Test.YtpfnofdaaekglaaM2
import Derived.Test.YtpfnofdaaekglaaP3
namespace Go.Proofs.Ytpfnofdaaekglaa.Fw
open Go.RowKit
set_option linter.unusedVariables false
set_option linter.unusedSimpArgs false


theorem laws_markStringS_l1_eq (p0 : List ByteArray) (p1 : Int) : ∀ n i s y, laws_markStringS_l1 p0 p1 n i s y = markL (fun s => laws_markText s) n i s y := by
  intro n
  induction n with
  | zero => intro i s y; rfl
  | succ n ih => intro i s y; rw [laws_markStringS_l1, markL, ih]
theorem laws_heldStringS_l1_eq (p0 : List ByteArray) (p1 : Int) : ∀ n i s, laws_heldStringS_l1 p0 p1 n i s = heldL (fun s => laws_markText s) p0 n i s := by
  intro n
  induction n with
  | zero => intro i s; rfl
  | succ n ih => intro i s; rw [laws_heldStringS_l1, heldL, ih]
theorem laws_heldStringS_marked {y : List ByteArray} (hy : y.length ≤ 1099511627776) : laws_heldStringS (laws_markStringS y 1).1 1 = (laws_markStringS y 1).2 ∧ 0 ≤ (laws_markStringS y 1).2 := by
  unfold laws_heldStringS laws_markStringS
  rw [laws_markStringS_l1_eq, laws_heldStringS_l1_eq]
  exact held_marked hy

theorem laws_eqStringS_l1_eq' (p0 p1 : List ByteArray) : ∀ n i, laws_eqStringS_l1 p0 p1 n i = eqL (fun a b => decide (a = b)) p0 p1 n i := by
  intro n
  induction n with
  | zero => intro i; rfl
  | succ n ih => intro i; simp only [laws_eqStringS_l1, eqL, ih]
theorem laws_eqStringS_same (p0 : List ByteArray) : laws_eqStringS p0 p0 = true := by
  unfold laws_eqStringS
  simp only [decide_true, Bool.not_true, Bool.false_eq_true, if_false, laws_eqStringS_l1_eq']
  exact eqL_refl (by intro x; simp) _ _ _

end Go.Proofs.Ytpfnofdaaekglaa.Fw
