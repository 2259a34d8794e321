/- Plain laws of the harness at rows of transactions. By program (wip/gen). -/
import Derived.Test.YtmjjcihoobnbgaaDoorH4
namespace Go.Proofs.YtmjjcihoobnbgaaDoor.Fw
open Go.RowKit
set_option linter.unusedVariables false
set_option linter.unusedSimpArgs false

theorem laws_szTxS_l1_eq (p0 : List Tx) (p1 : Int) : ∀ n i s, laws_szTxS_l1 p0 p1 n i s = szL (laws_szTx) p0 n i s := by
  intro n
  induction n with
  | zero => intro i s; rfl
  | succ n ih => intro i s; simp only [laws_szTxS_l1, szL, ih]
theorem laws_szTxS_small (p0 : List Tx) (p1 : Int) (h0 : 0 ≤ p1) (h1 : p1 ≤ 1048576) (hg : Dat.good p0) (h : ¬ laws_szTxS p0 p1 < 0) : Dat.small 1048576 p0 ∧ 0 ≤ laws_szTxS p0 p1 ∧ laws_szTxS p0 p1 ≤ 1048576 := by
  unfold laws_szTxS at h ⊢
  rw [wrap_sub h0 h1 hg.1] at h ⊢
  by_cases hc : p1 - (p0.length : Int) < 0
  · simp [hc] at h
  · simp only [hc, decide_false, Bool.false_eq_true, if_false, laws_szTxS_l1_eq] at h ⊢
    obtain ⟨h2, h3, h4⟩ := szL_small (f := laws_szTx) (xs := p0) (laws_szTx_small) hg.2 _ 0 _ rfl (by omega) (by omega) h
    refine ⟨⟨by omega, fun x hx => ?_⟩, h3, h4⟩
    obtain ⟨j, hj⟩ := List.getElem?_of_mem hx
    exact h2 j x (Nat.zero_le _) hj
theorem laws_toTxS_l1_eq (p0 : List Tx) : ∀ n i y, laws_toTxS_l1 p0 n i y = toL (laws_toTx) p0 n i y := by
  intro n
  induction n with
  | zero => intro i y; rfl
  | succ n ih => intro i y; simp only [laws_toTxS_l1, toL, ih]
@[simp] theorem laws_toTxS_id (p0 : List Tx) : laws_toTxS p0 = p0 := by
  unfold laws_toTxS
  rw [laws_toTxS_l1_eq, toL_eq (laws_toTx_id) p0 _ 0 [] rfl]
  rfl
theorem laws_eqTxS_l1_eq (p0 p1 : List Tx) : ∀ n i, laws_eqTxS_l1 p0 p1 n i = eqL (laws_eqTx) p0 p1 n i := by
  intro n
  induction n with
  | zero => intro i; rfl
  | succ n ih => intro i; simp only [laws_eqTxS_l1, eqL, ih]
@[simp] theorem laws_eqTxS_refl (p0 : List Tx) : laws_eqTxS p0 p0 = true := by
  unfold laws_eqTxS
  simp only [decide_true, Bool.not_true, Bool.false_eq_true, if_false, laws_eqTxS_l1_eq]
  exact eqL_refl (laws_eqTx_refl) _ _ _
end Go.Proofs.YtmjjcihoobnbgaaDoor.Fw
