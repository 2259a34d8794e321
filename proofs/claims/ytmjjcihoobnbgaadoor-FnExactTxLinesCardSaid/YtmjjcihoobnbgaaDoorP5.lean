/- Plain laws of the harness at Tx. By program (wip/gen). -/
import Derived.Test.YtmjjcihoobnbgaaDoorH3
namespace Go.Proofs.YtmjjcihoobnbgaaDoor.Fw
open Go.RowKit
set_option linter.unusedVariables false
set_option linter.unusedSimpArgs false


def laws_szString (x : ByteArray) (s : Int) : Int := IntKind.i64.wrap (s - (x.size : Int))
theorem laws_szString_small (p0 : ByteArray) (p1 : Int) (h0 : 0 ≤ p1) (h1 : p1 ≤ 1048576) (hg : Dat.good p0) (h : ¬ laws_szString p0 p1 < 0) : Dat.small 1048576 p0 ∧ 0 ≤ laws_szString p0 p1 ∧ laws_szString p0 p1 ≤ 1048576 := by
  unfold laws_szString at h ⊢
  rw [wrap_sub h0 h1 (good_str hg)] at h ⊢
  have e : p0.size ≤ 1048576 := by omega
  exact ⟨e, by omega, by omega⟩
theorem laws_szStringS_l1_eq (p0 : List ByteArray) (p1 : Int) : ∀ n i s, laws_szStringS_l1 p0 p1 n i s = szL (laws_szString) p0 n i s := by
  intro n
  induction n with
  | zero => intro i s; rfl
  | succ n ih => intro i s; simp only [laws_szStringS_l1, szL, ih]; rfl
theorem laws_szStringS_small (p0 : List ByteArray) (p1 : Int) (h0 : 0 ≤ p1) (h1 : p1 ≤ 1048576) (hg : Dat.good p0) (h : ¬ laws_szStringS p0 p1 < 0) : Dat.small 1048576 p0 ∧ 0 ≤ laws_szStringS p0 p1 ∧ laws_szStringS p0 p1 ≤ 1048576 := by
  unfold laws_szStringS at h ⊢
  rw [wrap_sub h0 h1 hg.1] at h ⊢
  by_cases hc : p1 - (p0.length : Int) < 0
  · simp [hc] at h
  · simp only [hc, decide_false, Bool.false_eq_true, if_false, laws_szStringS_l1_eq] at h ⊢
    obtain ⟨h2, h3, h4⟩ := szL_small (f := laws_szString) (xs := p0) (laws_szString_small) hg.2 _ 0 _ rfl (by omega) (by omega) h
    refine ⟨⟨by omega, fun x hx => ?_⟩, h3, h4⟩
    obtain ⟨j, hj⟩ := List.getElem?_of_mem hx
    exact h2 j x (Nat.zero_le _) hj
theorem laws_toStringS_l1_eq (p0 : List ByteArray) : ∀ n i y, laws_toStringS_l1 p0 n i y = toL (fun x => x) p0 n i y := by
  intro n
  induction n with
  | zero => intro i y; rfl
  | succ n ih => intro i y; simp only [laws_toStringS_l1, toL, ih]
@[simp] theorem laws_toStringS_id (p0 : List ByteArray) : laws_toStringS p0 = p0 := by
  unfold laws_toStringS
  rw [laws_toStringS_l1_eq, toL_eq (fun _ => rfl) p0 _ 0 [] rfl]
  rfl
theorem laws_eqStringS_l1_eq (p0 p1 : List ByteArray) : ∀ n i, laws_eqStringS_l1 p0 p1 n i = eqL (fun a b => decide (a = b)) p0 p1 n i := by
  intro n
  induction n with
  | zero => intro i; rfl
  | succ n ih => intro i; simp only [laws_eqStringS_l1, eqL, ih]
@[simp] theorem laws_eqStringS_refl (p0 : List ByteArray) : laws_eqStringS p0 p0 = true := by
  unfold laws_eqStringS
  simp only [decide_true, Bool.not_true, Bool.false_eq_true, if_false, laws_eqStringS_l1_eq]
  exact eqL_refl (by intro x; simp) _ _ _


theorem laws_szIntS_small (p0 : List Int) (p1 : Int) (h0 : 0 ≤ p1) (h1 : p1 ≤ 1048576) (hg : Dat.good p0) (h : ¬ laws_szIntS p0 p1 < 0) : Dat.small 1048576 p0 ∧ 0 ≤ laws_szIntS p0 p1 ∧ laws_szIntS p0 p1 ≤ 1048576 := by
  unfold laws_szIntS at h ⊢
  rw [wrap_sub h0 h1 hg.1] at h ⊢
  by_cases hc : p1 - (p0.length : Int) < 0
  · simp [hc] at h
  · simp only [hc, decide_false, Bool.false_eq_true, if_false] at h ⊢
    exact ⟨⟨by omega, fun _ _ => trivial⟩, by omega, by omega⟩
theorem laws_toIntS_l1_eq (p0 : List Int) : ∀ n i y, laws_toIntS_l1 p0 n i y = toL (fun x => x) p0 n i y := by
  intro n
  induction n with
  | zero => intro i y; rfl
  | succ n ih => intro i y; simp only [laws_toIntS_l1, toL, ih]
@[simp] theorem laws_toIntS_id (p0 : List Int) : laws_toIntS p0 = p0 := by
  unfold laws_toIntS
  rw [laws_toIntS_l1_eq, toL_eq (fun _ => rfl) p0 _ 0 [] rfl]
  rfl
theorem laws_eqIntS_l1_eq (p0 p1 : List Int) : ∀ n i, laws_eqIntS_l1 p0 p1 n i = eqL (fun a b => decide (a = b)) p0 p1 n i := by
  intro n
  induction n with
  | zero => intro i; rfl
  | succ n ih => intro i; simp only [laws_eqIntS_l1, eqL, ih]
@[simp] theorem laws_eqIntS_refl (p0 : List Int) : laws_eqIntS p0 p0 = true := by
  unfold laws_eqIntS
  simp only [decide_true, Bool.not_true, Bool.false_eq_true, if_false, laws_eqIntS_l1_eq]
  exact eqL_refl (by intro x; simp) _ _ _

theorem laws_szCallS_l1_eq (p0 : List Call) (p1 : Int) : ∀ n i s, laws_szCallS_l1 p0 p1 n i s = szL (laws_szCall) p0 n i s := by
  intro n
  induction n with
  | zero => intro i s; rfl
  | succ n ih => intro i s; simp only [laws_szCallS_l1, szL, ih]
theorem laws_szCallS_small (p0 : List Call) (p1 : Int) (h0 : 0 ≤ p1) (h1 : p1 ≤ 1048576) (hg : Dat.good p0) (h : ¬ laws_szCallS p0 p1 < 0) : Dat.small 1048576 p0 ∧ 0 ≤ laws_szCallS p0 p1 ∧ laws_szCallS p0 p1 ≤ 1048576 := by
  unfold laws_szCallS at h ⊢
  rw [wrap_sub h0 h1 hg.1] at h ⊢
  by_cases hc : p1 - (p0.length : Int) < 0
  · simp [hc] at h
  · simp only [hc, decide_false, Bool.false_eq_true, if_false, laws_szCallS_l1_eq] at h ⊢
    obtain ⟨h2, h3, h4⟩ := szL_small (f := laws_szCall) (xs := p0) (laws_szCall_small) hg.2 _ 0 _ rfl (by omega) (by omega) h
    refine ⟨⟨by omega, fun x hx => ?_⟩, h3, h4⟩
    obtain ⟨j, hj⟩ := List.getElem?_of_mem hx
    exact h2 j x (Nat.zero_le _) hj
theorem laws_toCallS_l1_eq (p0 : List Call) : ∀ n i y, laws_toCallS_l1 p0 n i y = toL (laws_toCall) p0 n i y := by
  intro n
  induction n with
  | zero => intro i y; rfl
  | succ n ih => intro i y; simp only [laws_toCallS_l1, toL, ih]
@[simp] theorem laws_toCallS_id (p0 : List Call) : laws_toCallS p0 = p0 := by
  unfold laws_toCallS
  rw [laws_toCallS_l1_eq, toL_eq (laws_toCall_id) p0 _ 0 [] rfl]
  rfl
theorem laws_eqCallS_l1_eq (p0 p1 : List Call) : ∀ n i, laws_eqCallS_l1 p0 p1 n i = eqL (laws_eqCall) p0 p1 n i := by
  intro n
  induction n with
  | zero => intro i; rfl
  | succ n ih => intro i; simp only [laws_eqCallS_l1, eqL, ih]
@[simp] theorem laws_eqCallS_refl (p0 : List Call) : laws_eqCallS p0 p0 = true := by
  unfold laws_eqCallS
  simp only [decide_true, Bool.not_true, Bool.false_eq_true, if_false, laws_eqCallS_l1_eq]
  exact eqL_refl (laws_eqCall_refl) _ _ _

theorem laws_szTouch_small (p0 : Touch) (p1 : Int) (h0 : 0 ≤ p1) (h1 : p1 ≤ 1048576) (hg : Dat.good p0) (h : ¬ laws_szTouch p0 p1 < 0) : Dat.small 1048576 p0 ∧ 0 ≤ laws_szTouch p0 p1 ∧ laws_szTouch p0 p1 ≤ 1048576 := by
  unfold laws_szTouch at h ⊢
  obtain ⟨g0, g1⟩ := hg
  by_cases c1 : (laws_szStringS p0.Reads p1) < 0
  · simp [c1] at h
  simp only [c1, decide_false, Bool.false_eq_true, if_false] at h ⊢
  obtain ⟨s0, b1, e1⟩ := laws_szStringS_small p0.Reads p1 h0 h1 g0 c1
  by_cases c2 : (laws_szStringS p0.Writes (laws_szStringS p0.Reads p1)) < 0
  · simp [c2] at h
  simp only [c2, decide_false, Bool.false_eq_true, if_false] at h ⊢
  obtain ⟨s1, b2, e2⟩ := laws_szStringS_small p0.Writes (laws_szStringS p0.Reads p1) b1 e1 g1 c2
  exact ⟨⟨s0, s1⟩, b2, e2⟩
@[simp] theorem laws_toTouch_id (p0 : Touch) : laws_toTouch p0 = p0 := by
  unfold laws_toTouch
  simp only [laws_toStringS_id]
@[simp] theorem laws_eqTouch_refl (p0 : Touch) : laws_eqTouch p0 p0 = true := by
  unfold laws_eqTouch
  simp [laws_eqStringS_refl]

theorem laws_szTx_small (p0 : Tx) (p1 : Int) (h0 : 0 ≤ p1) (h1 : p1 ≤ 1048576) (hg : Dat.good p0) (h : ¬ laws_szTx p0 p1 < 0) : Dat.small 1048576 p0 ∧ 0 ≤ laws_szTx p0 p1 ∧ laws_szTx p0 p1 ≤ 1048576 := by
  unfold laws_szTx at h ⊢
  obtain ⟨g0, g1, g2, g3, g4, g5, g6, g7, g8⟩ := hg
  by_cases c1 : (laws_szCallS p0.Calls p1) < 0
  · simp [c1] at h
  simp only [c1, decide_false, Bool.false_eq_true, if_false] at h ⊢
  obtain ⟨s4, b1, e1⟩ := laws_szCallS_small p0.Calls p1 h0 h1 g4 c1
  by_cases c2 : (laws_szAnswerS p0.Answers (laws_szCallS p0.Calls p1)) < 0
  · simp [c2] at h
  simp only [c2, decide_false, Bool.false_eq_true, if_false] at h ⊢
  obtain ⟨s5, b2, e2⟩ := laws_szAnswerS_small p0.Answers (laws_szCallS p0.Calls p1) b1 e1 g5 c2
  by_cases c3 : (laws_szTouch p0.Touch (laws_szAnswerS p0.Answers (laws_szCallS p0.Calls p1))) < 0
  · simp [c3] at h
  simp only [c3, decide_false, Bool.false_eq_true, if_false] at h ⊢
  obtain ⟨s6, b3, e3⟩ := laws_szTouch_small p0.Touch (laws_szAnswerS p0.Answers (laws_szCallS p0.Calls p1)) b2 e2 g6 c3
  by_cases c4 : (laws_szIntS p0.Marks (laws_szTouch p0.Touch (laws_szAnswerS p0.Answers (laws_szCallS p0.Calls p1)))) < 0
  · simp [c4] at h
  simp only [c4, decide_false, Bool.false_eq_true, if_false] at h ⊢
  obtain ⟨s7, b4, e4⟩ := laws_szIntS_small p0.Marks (laws_szTouch p0.Touch (laws_szAnswerS p0.Answers (laws_szCallS p0.Calls p1))) b3 e3 g7 c4
  exact ⟨⟨trivial, trivial, trivial, trivial, s4, s5, s6, s7, trivial⟩, b4, e4⟩
@[simp] theorem laws_toTx_id (p0 : Tx) : laws_toTx p0 = p0 := by
  unfold laws_toTx
  simp only [laws_toAnswerS_id, laws_toCallS_id, laws_toIntS_id, laws_toTouch_id]
@[simp] theorem laws_eqTx_refl (p0 : Tx) : laws_eqTx p0 p0 = true := by
  unfold laws_eqTx
  simp [laws_eqAnswerS_refl, laws_eqCallS_refl, laws_eqIntS_refl, laws_eqTouch_refl]
end Go.Proofs.YtmjjcihoobnbgaaDoor.Fw
