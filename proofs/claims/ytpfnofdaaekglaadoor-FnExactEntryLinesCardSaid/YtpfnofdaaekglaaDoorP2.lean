/- Plain laws of the harness at rows of entries. By program (wip/gen). -/
import Derived.Test.YtpfnofdaaekglaaDoorH2
namespace Go.Proofs.YtpfnofdaaekglaaDoor.Fw
open Go.RowKit
set_option linter.unusedVariables false
set_option linter.unusedSimpArgs false

theorem laws_szEntryS_l1_eq (p0 : List Entry) (p1 : Int) : ∀ n i s, laws_szEntryS_l1 p0 p1 n i s = szL (laws_szEntry) p0 n i s := by
  intro n
  induction n with
  | zero => intro i s; rfl
  | succ n ih => intro i s; simp only [laws_szEntryS_l1, szL, ih]
theorem laws_szEntryS_small (p0 : List Entry) (p1 : Int) (h0 : 0 ≤ p1) (h1 : p1 ≤ 1048576) (hg : Dat.good p0) (h : ¬ laws_szEntryS p0 p1 < 0) : Dat.small 1048576 p0 ∧ 0 ≤ laws_szEntryS p0 p1 ∧ laws_szEntryS p0 p1 ≤ 1048576 := by
  unfold laws_szEntryS at h ⊢
  rw [wrap_sub h0 h1 hg.1] at h ⊢
  by_cases hc : p1 - (p0.length : Int) < 0
  · simp [hc] at h
  · simp only [hc, decide_false, Bool.false_eq_true, if_false, laws_szEntryS_l1_eq] at h ⊢
    obtain ⟨h2, h3, h4⟩ := szL_small (f := laws_szEntry) (xs := p0) (laws_szEntry_small) hg.2 _ 0 _ rfl (by omega) (by omega) h
    refine ⟨⟨by omega, fun x hx => ?_⟩, h3, h4⟩
    obtain ⟨j, hj⟩ := List.getElem?_of_mem hx
    exact h2 j x (Nat.zero_le _) hj
theorem laws_toEntryS_l1_eq (p0 : List Entry) : ∀ n i y, laws_toEntryS_l1 p0 n i y = toL (laws_toEntry) p0 n i y := by
  intro n
  induction n with
  | zero => intro i y; rfl
  | succ n ih => intro i y; simp only [laws_toEntryS_l1, toL, ih]
@[simp] theorem laws_toEntryS_id (p0 : List Entry) : laws_toEntryS p0 = p0 := by
  unfold laws_toEntryS
  rw [laws_toEntryS_l1_eq, toL_eq (laws_toEntry_id) p0 _ 0 [] rfl]
  rfl
theorem laws_eqEntryS_l1_eq (p0 p1 : List Entry) : ∀ n i, laws_eqEntryS_l1 p0 p1 n i = eqL (laws_eqEntry) p0 p1 n i := by
  intro n
  induction n with
  | zero => intro i; rfl
  | succ n ih => intro i; simp only [laws_eqEntryS_l1, eqL, ih]
@[simp] theorem laws_eqEntryS_refl (p0 : List Entry) : laws_eqEntryS p0 p0 = true := by
  unfold laws_eqEntryS
  simp only [decide_true, Bool.not_true, Bool.false_eq_true, if_false, laws_eqEntryS_l1_eq]
  exact eqL_refl (laws_eqEntry_refl) _ _ _
end Go.Proofs.YtpfnofdaaekglaaDoor.Fw
