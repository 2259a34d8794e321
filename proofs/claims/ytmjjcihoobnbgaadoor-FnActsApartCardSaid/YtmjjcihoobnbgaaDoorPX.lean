/-
  The law that action names are apart: it is true. No condition.
-/
import Derived.Test.YtmjjcihoobnbgaaDoorK5
namespace Go.Proofs.YtmjjcihoobnbgaaDoor.Fw
open Go.RowKit
set_option linter.unusedVariables false
set_option linter.unusedSimpArgs false
set_option maxRecDepth 100000
theorem ActName_twin (k : Int) : impl_ActName k = spec_ActName k := by
  by_cases hk : 1 ≤ k ∧ k ≤ 12
  · obtain ⟨n, hn⟩ : ∃ n : Fin 12, k = (n.val : Int) + 1 := ⟨⟨(k - 1).toNat, by omega⟩, by show k = (((k - 1).toNat : Nat) : Int) + 1; omega⟩
    subst hn
    exact ActName_12 n
  · have h1 : impl_within k 1 12 = false := by
      cases h : impl_within k 1 12 with
      | false => rfl
      | true => exact absurd (impl_within_t h) hk
    have h2 : spec_l01In k 1 12 = false := h1
    unfold impl_ActName spec_ActName
    rw [h1, h2]
    rfl
theorem names_apart : ∀ i j : Fin 13, 1 ≤ j.val → j.val < i.val → decide (impl_ActName (i.val : Int) = impl_ActName (j.val : Int)) = false := by decide +kernel
theorem apart_l2 (p0 : List UInt8) (i : Nat) (hi : i ≤ 12) (k : Unit → Bool) : ∀ n j, 1 ≤ j → j + n = i → laws_FnActsApart_l2 p0 i k n j = k () := by
  intro n
  induction n with
  | zero => intro j _ _; rfl
  | succ n ih =>
    intro j h1 h2
    rw [laws_FnActsApart_l2, names_apart ⟨i, by omega⟩ ⟨j, by omega⟩ h1 (by show j < i; omega)]
    exact ih (j + 1) (by omega) (by omega)
theorem line_names : decide (impl_CallLine (Call.mk 5 ⟨#[]⟩ ⟨#[]⟩ 0 0 ⟨#[]⟩) = ⟨#[110, 97, 109, 101, 115]⟩) = true := by decide +kernel
theorem apart_l1 (p0 : List UInt8) : ∀ n i, 1 ≤ i → i + n = 13 → laws_FnActsApart_l1 p0 n i = true := by
  intro n
  induction n with
  | zero =>
    intro i _ _
    rw [laws_FnActsApart_l1, ActName_twin, line_names]
    rw [show decide (impl_ActName 12 = ⟨#[114, 101, 116, 114, 121]⟩) = true by decide +kernel, show decide (impl_ActName 13 = ⟨#[63]⟩) = true by decide +kernel]
    simp
  | succ n ih =>
    intro i h1 h2
    rw [laws_FnActsApart_l1, apart_l2 p0 i (by omega) _ (i - 1) 1 (by omega) (by omega)]
    exact ih (i + 1) (by omega) (by omega)
theorem laws_FnActsApart_true (p0 : List UInt8) (hg0 : Dat.good p0) : laws_FnActsApart p0 = true := by
  unfold laws_FnActsApart
  rw [apart_l1 p0 12 1 (by omega) (by omega)]
  cases laws_big p0 <;> rfl

end Go.Proofs.YtmjjcihoobnbgaaDoor.Fw
