/- Plain laws of the harness, the rest. By program (wip/gen). -/
import Derived.Test.YtpfnofdaaekglaaH3
namespace Go.Proofs.Ytpfnofdaaekglaa.Fw
open Go.RowKit
set_option linter.unusedVariables false
set_option linter.unusedSimpArgs false


def laws_szString (x : ByteArray) (s : Int) : Int := IntKind.i64.wrap (s - (x.size : Int))
theorem laws_szString_small (p0 : ByteArray) (p1 : Int) (h0 : 0 ≤ p1) (h1 : p1 ≤ 1048576) (hg : Dat.good p0) (h : ¬ laws_szString p0 p1 < 0) : Dat.small 1048576 p0 ∧ 0 ≤ laws_szString p0 p1 ∧ laws_szString p0 p1 ≤ 1048576 := by
  unfold laws_szString at h ⊢
  rw [wrap_sub h0 h1 (good_str hg)] at h ⊢
  have e : p0.size ≤ 1048576 := by omega
  exact ⟨e, by omega, by omega⟩
theorem laws_szStringS_l1_eq (p0 : List ByteArray) (p1 : Int) : ∀ n i s, laws_szStringS_l1 p0 p1 n i s = szL (laws_szString) p0 n i s := by
  intro n
  induction n with
  | zero => intro i s; rfl
  | succ n ih => intro i s; simp only [laws_szStringS_l1, szL, ih]; rfl
theorem laws_szStringS_small (p0 : List ByteArray) (p1 : Int) (h0 : 0 ≤ p1) (h1 : p1 ≤ 1048576) (hg : Dat.good p0) (h : ¬ laws_szStringS p0 p1 < 0) : Dat.small 1048576 p0 ∧ 0 ≤ laws_szStringS p0 p1 ∧ laws_szStringS p0 p1 ≤ 1048576 := by
  unfold laws_szStringS at h ⊢
  rw [wrap_sub h0 h1 hg.1] at h ⊢
  by_cases hc : p1 - (p0.length : Int) < 0
  · simp [hc] at h
  · simp only [hc, decide_false, Bool.false_eq_true, if_false, laws_szStringS_l1_eq] at h ⊢
    obtain ⟨h2, h3, h4⟩ := szL_small (f := laws_szString) (xs := p0) (laws_szString_small) hg.2 _ 0 _ rfl (by omega) (by omega) h
    refine ⟨⟨by omega, fun x hx => ?_⟩, h3, h4⟩
    obtain ⟨j, hj⟩ := List.getElem?_of_mem hx
    exact h2 j x (Nat.zero_le _) hj
theorem laws_toStringS_l1_eq (p0 : List ByteArray) : ∀ n i y, laws_toStringS_l1 p0 n i y = toL (fun x => x) p0 n i y := by
  intro n
  induction n with
  | zero => intro i y; rfl
  | succ n ih => intro i y; simp only [laws_toStringS_l1, toL, ih]
@[simp] theorem laws_toStringS_id (p0 : List ByteArray) : laws_toStringS p0 = p0 := by
  unfold laws_toStringS
  rw [laws_toStringS_l1_eq, toL_eq (fun _ => rfl) p0 _ 0 [] rfl]
  rfl
theorem laws_eqStringS_l1_eq (p0 p1 : List ByteArray) : ∀ n i, laws_eqStringS_l1 p0 p1 n i = eqL (fun a b => decide (a = b)) p0 p1 n i := by
  intro n
  induction n with
  | zero => intro i; rfl
  | succ n ih => intro i; simp only [laws_eqStringS_l1, eqL, ih]
@[simp] theorem laws_eqStringS_refl (p0 : List ByteArray) : laws_eqStringS p0 p0 = true := by
  unfold laws_eqStringS
  simp only [decide_true, Bool.not_true, Bool.false_eq_true, if_false, laws_eqStringS_l1_eq]
  exact eqL_refl (by intro x; simp) _ _ _


theorem laws_szIntS_small (p0 : List Int) (p1 : Int) (h0 : 0 ≤ p1) (h1 : p1 ≤ 1048576) (hg : Dat.good p0) (h : ¬ laws_szIntS p0 p1 < 0) : Dat.small 1048576 p0 ∧ 0 ≤ laws_szIntS p0 p1 ∧ laws_szIntS p0 p1 ≤ 1048576 := by
  unfold laws_szIntS at h ⊢
  rw [wrap_sub h0 h1 hg.1] at h ⊢
  by_cases hc : p1 - (p0.length : Int) < 0
  · simp [hc] at h
  · simp only [hc, decide_false, Bool.false_eq_true, if_false] at h ⊢
    exact ⟨⟨by omega, fun _ _ => trivial⟩, by omega, by omega⟩
theorem laws_toIntS_l1_eq (p0 : List Int) : ∀ n i y, laws_toIntS_l1 p0 n i y = toL (fun x => x) p0 n i y := by
  intro n
  induction n with
  | zero => intro i y; rfl
  | succ n ih => intro i y; simp only [laws_toIntS_l1, toL, ih]
@[simp] theorem laws_toIntS_id (p0 : List Int) : laws_toIntS p0 = p0 := by
  unfold laws_toIntS
  rw [laws_toIntS_l1_eq, toL_eq (fun _ => rfl) p0 _ 0 [] rfl]
  rfl
theorem laws_eqIntS_l1_eq (p0 p1 : List Int) : ∀ n i, laws_eqIntS_l1 p0 p1 n i = eqL (fun a b => decide (a = b)) p0 p1 n i := by
  intro n
  induction n with
  | zero => intro i; rfl
  | succ n ih => intro i; simp only [laws_eqIntS_l1, eqL, ih]
@[simp] theorem laws_eqIntS_refl (p0 : List Int) : laws_eqIntS p0 p0 = true := by
  unfold laws_eqIntS
  simp only [decide_true, Bool.not_true, Bool.false_eq_true, if_false, laws_eqIntS_l1_eq]
  exact eqL_refl (by intro x; simp) _ _ _

theorem laws_szCell_small (p0 : Cell) (p1 : Int) (h0 : 0 ≤ p1) (h1 : p1 ≤ 1048576) (hg : Dat.good p0) (h : ¬ laws_szCell p0 p1 < 0) : Dat.small 1048576 p0 ∧ 0 ≤ laws_szCell p0 p1 ∧ laws_szCell p0 p1 ≤ 1048576 := by
  unfold laws_szCell at h ⊢
  obtain ⟨g0, g1⟩ := hg
  rw [wrap_sub (a := p1) h0 h1 (n := p0.Key.size) (good_str g0)] at h ⊢
  by_cases c1 : (p1 - (p0.Key.size : Int)) < 0
  · simp [c1] at h
  simp only [c1, decide_false, Bool.false_eq_true, if_false] at h ⊢
  have b1 : 0 ≤ (p1 - (p0.Key.size : Int)) := by omega
  have e1 : (p1 - (p0.Key.size : Int)) ≤ 1048576 := by omega
  have s0 : p0.Key.size ≤ 1048576 := by omega
  rw [wrap_sub (a := (p1 - (p0.Key.size : Int))) b1 e1 (n := p0.Val.size) (good_str g1)] at h ⊢
  by_cases c2 : ((p1 - (p0.Key.size : Int)) - (p0.Val.size : Int)) < 0
  · simp [c2] at h
  simp only [c2, decide_false, Bool.false_eq_true, if_false] at h ⊢
  have b2 : 0 ≤ ((p1 - (p0.Key.size : Int)) - (p0.Val.size : Int)) := by omega
  have e2 : ((p1 - (p0.Key.size : Int)) - (p0.Val.size : Int)) ≤ 1048576 := by omega
  have s1 : p0.Val.size ≤ 1048576 := by omega
  exact ⟨⟨s0, s1⟩, b2, e2⟩
@[simp] theorem laws_toCell_id (p0 : Cell) : laws_toCell p0 = p0 := by
  unfold laws_toCell
  rfl
@[simp] theorem laws_eqCell_refl (p0 : Cell) : laws_eqCell p0 p0 = true := by
  unfold laws_eqCell
  simp

theorem laws_szCellS_l1_eq (p0 : List Cell) (p1 : Int) : ∀ n i s, laws_szCellS_l1 p0 p1 n i s = szL (laws_szCell) p0 n i s := by
  intro n
  induction n with
  | zero => intro i s; rfl
  | succ n ih => intro i s; simp only [laws_szCellS_l1, szL, ih]
theorem laws_szCellS_small (p0 : List Cell) (p1 : Int) (h0 : 0 ≤ p1) (h1 : p1 ≤ 1048576) (hg : Dat.good p0) (h : ¬ laws_szCellS p0 p1 < 0) : Dat.small 1048576 p0 ∧ 0 ≤ laws_szCellS p0 p1 ∧ laws_szCellS p0 p1 ≤ 1048576 := by
  unfold laws_szCellS at h ⊢
  rw [wrap_sub h0 h1 hg.1] at h ⊢
  by_cases hc : p1 - (p0.length : Int) < 0
  · simp [hc] at h
  · simp only [hc, decide_false, Bool.false_eq_true, if_false, laws_szCellS_l1_eq] at h ⊢
    obtain ⟨h2, h3, h4⟩ := szL_small (f := laws_szCell) (xs := p0) (laws_szCell_small) hg.2 _ 0 _ rfl (by omega) (by omega) h
    refine ⟨⟨by omega, fun x hx => ?_⟩, h3, h4⟩
    obtain ⟨j, hj⟩ := List.getElem?_of_mem hx
    exact h2 j x (Nat.zero_le _) hj
theorem laws_toCellS_l1_eq (p0 : List Cell) : ∀ n i y, laws_toCellS_l1 p0 n i y = toL (laws_toCell) p0 n i y := by
  intro n
  induction n with
  | zero => intro i y; rfl
  | succ n ih => intro i y; simp only [laws_toCellS_l1, toL, ih]
@[simp] theorem laws_toCellS_id (p0 : List Cell) : laws_toCellS p0 = p0 := by
  unfold laws_toCellS
  rw [laws_toCellS_l1_eq, toL_eq (laws_toCell_id) p0 _ 0 [] rfl]
  rfl
theorem laws_eqCellS_l1_eq (p0 p1 : List Cell) : ∀ n i, laws_eqCellS_l1 p0 p1 n i = eqL (laws_eqCell) p0 p1 n i := by
  intro n
  induction n with
  | zero => intro i; rfl
  | succ n ih => intro i; simp only [laws_eqCellS_l1, eqL, ih]
@[simp] theorem laws_eqCellS_refl (p0 : List Cell) : laws_eqCellS p0 p0 = true := by
  unfold laws_eqCellS
  simp only [decide_true, Bool.not_true, Bool.false_eq_true, if_false, laws_eqCellS_l1_eq]
  exact eqL_refl (laws_eqCell_refl) _ _ _

theorem laws_szCallS_l1_eq (p0 : List Call) (p1 : Int) : ∀ n i s, laws_szCallS_l1 p0 p1 n i s = szL (laws_szCall) p0 n i s := by
  intro n
  induction n with
  | zero => intro i s; rfl
  | succ n ih => intro i s; simp only [laws_szCallS_l1, szL, ih]
theorem laws_szCallS_small (p0 : List Call) (p1 : Int) (h0 : 0 ≤ p1) (h1 : p1 ≤ 1048576) (hg : Dat.good p0) (h : ¬ laws_szCallS p0 p1 < 0) : Dat.small 1048576 p0 ∧ 0 ≤ laws_szCallS p0 p1 ∧ laws_szCallS p0 p1 ≤ 1048576 := by
  unfold laws_szCallS at h ⊢
  rw [wrap_sub h0 h1 hg.1] at h ⊢
  by_cases hc : p1 - (p0.length : Int) < 0
  · simp [hc] at h
  · simp only [hc, decide_false, Bool.false_eq_true, if_false, laws_szCallS_l1_eq] at h ⊢
    obtain ⟨h2, h3, h4⟩ := szL_small (f := laws_szCall) (xs := p0) (laws_szCall_small) hg.2 _ 0 _ rfl (by omega) (by omega) h
    refine ⟨⟨by omega, fun x hx => ?_⟩, h3, h4⟩
    obtain ⟨j, hj⟩ := List.getElem?_of_mem hx
    exact h2 j x (Nat.zero_le _) hj
theorem laws_toCallS_l1_eq (p0 : List Call) : ∀ n i y, laws_toCallS_l1 p0 n i y = toL (laws_toCall) p0 n i y := by
  intro n
  induction n with
  | zero => intro i y; rfl
  | succ n ih => intro i y; simp only [laws_toCallS_l1, toL, ih]
@[simp] theorem laws_toCallS_id (p0 : List Call) : laws_toCallS p0 = p0 := by
  unfold laws_toCallS
  rw [laws_toCallS_l1_eq, toL_eq (laws_toCall_id) p0 _ 0 [] rfl]
  rfl
theorem laws_eqCallS_l1_eq (p0 p1 : List Call) : ∀ n i, laws_eqCallS_l1 p0 p1 n i = eqL (laws_eqCall) p0 p1 n i := by
  intro n
  induction n with
  | zero => intro i; rfl
  | succ n ih => intro i; simp only [laws_eqCallS_l1, eqL, ih]
@[simp] theorem laws_eqCallS_refl (p0 : List Call) : laws_eqCallS p0 p0 = true := by
  unfold laws_eqCallS
  simp only [decide_true, Bool.not_true, Bool.false_eq_true, if_false, laws_eqCallS_l1_eq]
  exact eqL_refl (laws_eqCall_refl) _ _ _

theorem laws_szTouch_small (p0 : Touch) (p1 : Int) (h0 : 0 ≤ p1) (h1 : p1 ≤ 1048576) (hg : Dat.good p0) (h : ¬ laws_szTouch p0 p1 < 0) : Dat.small 1048576 p0 ∧ 0 ≤ laws_szTouch p0 p1 ∧ laws_szTouch p0 p1 ≤ 1048576 := by
  unfold laws_szTouch at h ⊢
  obtain ⟨g0, g1⟩ := hg
  by_cases c1 : (laws_szStringS p0.Reads p1) < 0
  · simp [c1] at h
  simp only [c1, decide_false, Bool.false_eq_true, if_false] at h ⊢
  obtain ⟨s0, b1, e1⟩ := laws_szStringS_small p0.Reads p1 h0 h1 g0 c1
  by_cases c2 : (laws_szStringS p0.Writes (laws_szStringS p0.Reads p1)) < 0
  · simp [c2] at h
  simp only [c2, decide_false, Bool.false_eq_true, if_false] at h ⊢
  obtain ⟨s1, b2, e2⟩ := laws_szStringS_small p0.Writes (laws_szStringS p0.Reads p1) b1 e1 g1 c2
  exact ⟨⟨s0, s1⟩, b2, e2⟩
@[simp] theorem laws_toTouch_id (p0 : Touch) : laws_toTouch p0 = p0 := by
  unfold laws_toTouch
  simp only [laws_toStringS_id]
@[simp] theorem laws_eqTouch_refl (p0 : Touch) : laws_eqTouch p0 p0 = true := by
  unfold laws_eqTouch
  simp [laws_eqStringS_refl]

theorem laws_szTx_small (p0 : Tx) (p1 : Int) (h0 : 0 ≤ p1) (h1 : p1 ≤ 1048576) (hg : Dat.good p0) (h : ¬ laws_szTx p0 p1 < 0) : Dat.small 1048576 p0 ∧ 0 ≤ laws_szTx p0 p1 ∧ laws_szTx p0 p1 ≤ 1048576 := by
  unfold laws_szTx at h ⊢
  obtain ⟨g0, g1, g2, g3, g4, g5, g6, g7, g8⟩ := hg
  by_cases c1 : (laws_szCallS p0.Calls p1) < 0
  · simp [c1] at h
  simp only [c1, decide_false, Bool.false_eq_true, if_false] at h ⊢
  obtain ⟨s4, b1, e1⟩ := laws_szCallS_small p0.Calls p1 h0 h1 g4 c1
  by_cases c2 : (laws_szAnswerS p0.Answers (laws_szCallS p0.Calls p1)) < 0
  · simp [c2] at h
  simp only [c2, decide_false, Bool.false_eq_true, if_false] at h ⊢
  obtain ⟨s5, b2, e2⟩ := laws_szAnswerS_small p0.Answers (laws_szCallS p0.Calls p1) b1 e1 g5 c2
  by_cases c3 : (laws_szTouch p0.Touch (laws_szAnswerS p0.Answers (laws_szCallS p0.Calls p1))) < 0
  · simp [c3] at h
  simp only [c3, decide_false, Bool.false_eq_true, if_false] at h ⊢
  obtain ⟨s6, b3, e3⟩ := laws_szTouch_small p0.Touch (laws_szAnswerS p0.Answers (laws_szCallS p0.Calls p1)) b2 e2 g6 c3
  by_cases c4 : (laws_szIntS p0.Marks (laws_szTouch p0.Touch (laws_szAnswerS p0.Answers (laws_szCallS p0.Calls p1)))) < 0
  · simp [c4] at h
  simp only [c4, decide_false, Bool.false_eq_true, if_false] at h ⊢
  obtain ⟨s7, b4, e4⟩ := laws_szIntS_small p0.Marks (laws_szTouch p0.Touch (laws_szAnswerS p0.Answers (laws_szCallS p0.Calls p1))) b3 e3 g7 c4
  exact ⟨⟨trivial, trivial, trivial, trivial, s4, s5, s6, s7, trivial⟩, b4, e4⟩
@[simp] theorem laws_toTx_id (p0 : Tx) : laws_toTx p0 = p0 := by
  unfold laws_toTx
  simp only [laws_toAnswerS_id, laws_toCallS_id, laws_toIntS_id, laws_toTouch_id]
@[simp] theorem laws_eqTx_refl (p0 : Tx) : laws_eqTx p0 p0 = true := by
  unfold laws_eqTx
  simp [laws_eqAnswerS_refl, laws_eqCallS_refl, laws_eqIntS_refl, laws_eqTouch_refl]

theorem laws_szTxS_l1_eq (p0 : List Tx) (p1 : Int) : ∀ n i s, laws_szTxS_l1 p0 p1 n i s = szL (laws_szTx) p0 n i s := by
  intro n
  induction n with
  | zero => intro i s; rfl
  | succ n ih => intro i s; simp only [laws_szTxS_l1, szL, ih]
theorem laws_szTxS_small (p0 : List Tx) (p1 : Int) (h0 : 0 ≤ p1) (h1 : p1 ≤ 1048576) (hg : Dat.good p0) (h : ¬ laws_szTxS p0 p1 < 0) : Dat.small 1048576 p0 ∧ 0 ≤ laws_szTxS p0 p1 ∧ laws_szTxS p0 p1 ≤ 1048576 := by
  unfold laws_szTxS at h ⊢
  rw [wrap_sub h0 h1 hg.1] at h ⊢
  by_cases hc : p1 - (p0.length : Int) < 0
  · simp [hc] at h
  · simp only [hc, decide_false, Bool.false_eq_true, if_false, laws_szTxS_l1_eq] at h ⊢
    obtain ⟨h2, h3, h4⟩ := szL_small (f := laws_szTx) (xs := p0) (laws_szTx_small) hg.2 _ 0 _ rfl (by omega) (by omega) h
    refine ⟨⟨by omega, fun x hx => ?_⟩, h3, h4⟩
    obtain ⟨j, hj⟩ := List.getElem?_of_mem hx
    exact h2 j x (Nat.zero_le _) hj
theorem laws_toTxS_l1_eq (p0 : List Tx) : ∀ n i y, laws_toTxS_l1 p0 n i y = toL (laws_toTx) p0 n i y := by
  intro n
  induction n with
  | zero => intro i y; rfl
  | succ n ih => intro i y; simp only [laws_toTxS_l1, toL, ih]
@[simp] theorem laws_toTxS_id (p0 : List Tx) : laws_toTxS p0 = p0 := by
  unfold laws_toTxS
  rw [laws_toTxS_l1_eq, toL_eq (laws_toTx_id) p0 _ 0 [] rfl]
  rfl
theorem laws_eqTxS_l1_eq (p0 p1 : List Tx) : ∀ n i, laws_eqTxS_l1 p0 p1 n i = eqL (laws_eqTx) p0 p1 n i := by
  intro n
  induction n with
  | zero => intro i; rfl
  | succ n ih => intro i; simp only [laws_eqTxS_l1, eqL, ih]
@[simp] theorem laws_eqTxS_refl (p0 : List Tx) : laws_eqTxS p0 p0 = true := by
  unfold laws_eqTxS
  simp only [decide_true, Bool.not_true, Bool.false_eq_true, if_false, laws_eqTxS_l1_eq]
  exact eqL_refl (laws_eqTx_refl) _ _ _

theorem laws_szJournal_small (p0 : Journal) (p1 : Int) (h0 : 0 ≤ p1) (h1 : p1 ≤ 1048576) (hg : Dat.good p0) (h : ¬ laws_szJournal p0 p1 < 0) : Dat.small 1048576 p0 ∧ 0 ≤ laws_szJournal p0 p1 ∧ laws_szJournal p0 p1 ≤ 1048576 := by
  unfold laws_szJournal at h ⊢
  obtain ⟨g0, g1⟩ := hg
  rw [wrap_sub (a := p1) h0 h1 (n := p0.Text.size) (good_str g0)] at h ⊢
  by_cases c1 : (p1 - (p0.Text.size : Int)) < 0
  · simp [c1] at h
  simp only [c1, decide_false, Bool.false_eq_true, if_false] at h ⊢
  have b1 : 0 ≤ (p1 - (p0.Text.size : Int)) := by omega
  have e1 : (p1 - (p0.Text.size : Int)) ≤ 1048576 := by omega
  have s0 : p0.Text.size ≤ 1048576 := by omega
  exact ⟨⟨s0, trivial⟩, b1, e1⟩
@[simp] theorem laws_toJournal_id (p0 : Journal) : laws_toJournal p0 = p0 := by
  unfold laws_toJournal
  rfl
@[simp] theorem laws_eqJournal_refl (p0 : Journal) : laws_eqJournal p0 p0 = true := by
  unfold laws_eqJournal
  simp

theorem laws_szSlot_small (p0 : Slot) (p1 : Int) (h0 : 0 ≤ p1) (h1 : p1 ≤ 1048576) (hg : Dat.good p0) (h : ¬ laws_szSlot p0 p1 < 0) : Dat.small 1048576 p0 ∧ 0 ≤ laws_szSlot p0 p1 ∧ laws_szSlot p0 p1 ≤ 1048576 := by
  unfold laws_szSlot at h ⊢
  obtain ⟨g0, g1, g2⟩ := hg
  by_cases c1 : (laws_szCellS p0.Cells p1) < 0
  · simp [c1] at h
  simp only [c1, decide_false, Bool.false_eq_true, if_false] at h ⊢
  obtain ⟨s1, b1, e1⟩ := laws_szCellS_small p0.Cells p1 h0 h1 g1 c1
  exact ⟨⟨trivial, s1, trivial⟩, b1, e1⟩
@[simp] theorem laws_toSlot_id (p0 : Slot) : laws_toSlot p0 = p0 := by
  unfold laws_toSlot
  simp only [laws_toCellS_id]
@[simp] theorem laws_eqSlot_refl (p0 : Slot) : laws_eqSlot p0 p0 = true := by
  unfold laws_eqSlot
  simp [laws_eqCellS_refl]

theorem laws_szSlotS_l1_eq (p0 : List Slot) (p1 : Int) : ∀ n i s, laws_szSlotS_l1 p0 p1 n i s = szL (laws_szSlot) p0 n i s := by
  intro n
  induction n with
  | zero => intro i s; rfl
  | succ n ih => intro i s; simp only [laws_szSlotS_l1, szL, ih]
theorem laws_szSlotS_small (p0 : List Slot) (p1 : Int) (h0 : 0 ≤ p1) (h1 : p1 ≤ 1048576) (hg : Dat.good p0) (h : ¬ laws_szSlotS p0 p1 < 0) : Dat.small 1048576 p0 ∧ 0 ≤ laws_szSlotS p0 p1 ∧ laws_szSlotS p0 p1 ≤ 1048576 := by
  unfold laws_szSlotS at h ⊢
  rw [wrap_sub h0 h1 hg.1] at h ⊢
  by_cases hc : p1 - (p0.length : Int) < 0
  · simp [hc] at h
  · simp only [hc, decide_false, Bool.false_eq_true, if_false, laws_szSlotS_l1_eq] at h ⊢
    obtain ⟨h2, h3, h4⟩ := szL_small (f := laws_szSlot) (xs := p0) (laws_szSlot_small) hg.2 _ 0 _ rfl (by omega) (by omega) h
    refine ⟨⟨by omega, fun x hx => ?_⟩, h3, h4⟩
    obtain ⟨j, hj⟩ := List.getElem?_of_mem hx
    exact h2 j x (Nat.zero_le _) hj
theorem laws_toSlotS_l1_eq (p0 : List Slot) : ∀ n i y, laws_toSlotS_l1 p0 n i y = toL (laws_toSlot) p0 n i y := by
  intro n
  induction n with
  | zero => intro i y; rfl
  | succ n ih => intro i y; simp only [laws_toSlotS_l1, toL, ih]
@[simp] theorem laws_toSlotS_id (p0 : List Slot) : laws_toSlotS p0 = p0 := by
  unfold laws_toSlotS
  rw [laws_toSlotS_l1_eq, toL_eq (laws_toSlot_id) p0 _ 0 [] rfl]
  rfl
theorem laws_eqSlotS_l1_eq (p0 p1 : List Slot) : ∀ n i, laws_eqSlotS_l1 p0 p1 n i = eqL (laws_eqSlot) p0 p1 n i := by
  intro n
  induction n with
  | zero => intro i; rfl
  | succ n ih => intro i; simp only [laws_eqSlotS_l1, eqL, ih]
@[simp] theorem laws_eqSlotS_refl (p0 : List Slot) : laws_eqSlotS p0 p0 = true := by
  unfold laws_eqSlotS
  simp only [decide_true, Bool.not_true, Bool.false_eq_true, if_false, laws_eqSlotS_l1_eq]
  exact eqL_refl (laws_eqSlot_refl) _ _ _

theorem laws_szDisk_small (p0 : Disk) (p1 : Int) (h0 : 0 ≤ p1) (h1 : p1 ≤ 1048576) (hg : Dat.good p0) (h : ¬ laws_szDisk p0 p1 < 0) : Dat.small 1048576 p0 ∧ 0 ≤ laws_szDisk p0 p1 ∧ laws_szDisk p0 p1 ≤ 1048576 := by
  unfold laws_szDisk at h ⊢
  obtain ⟨g0, g1⟩ := hg
  by_cases c1 : (laws_szSlotS p0.Slots p1) < 0
  · simp [c1] at h
  simp only [c1, decide_false, Bool.false_eq_true, if_false] at h ⊢
  obtain ⟨s0, b1, e1⟩ := laws_szSlotS_small p0.Slots p1 h0 h1 g0 c1
  by_cases c2 : (laws_szJournal p0.Journal (laws_szSlotS p0.Slots p1)) < 0
  · simp [c2] at h
  simp only [c2, decide_false, Bool.false_eq_true, if_false] at h ⊢
  obtain ⟨s1, b2, e2⟩ := laws_szJournal_small p0.Journal (laws_szSlotS p0.Slots p1) b1 e1 g1 c2
  exact ⟨⟨s0, s1⟩, b2, e2⟩
@[simp] theorem laws_toDisk_id (p0 : Disk) : laws_toDisk p0 = p0 := by
  unfold laws_toDisk
  simp only [laws_toJournal_id, laws_toSlotS_id]
@[simp] theorem laws_eqDisk_refl (p0 : Disk) : laws_eqDisk p0 p0 = true := by
  unfold laws_eqDisk
  simp [laws_eqJournal_refl, laws_eqSlotS_refl]

theorem laws_szKernel_small (p0 : Kernel) (p1 : Int) (h0 : 0 ≤ p1) (h1 : p1 ≤ 1048576) (hg : Dat.good p0) (h : ¬ laws_szKernel p0 p1 < 0) : Dat.small 1048576 p0 ∧ 0 ≤ laws_szKernel p0 p1 ∧ laws_szKernel p0 p1 ≤ 1048576 := by
  unfold laws_szKernel at h ⊢
  obtain ⟨g0, g1, g2, g3, g4, g5, g6, g7, g8⟩ := hg
  by_cases c1 : (laws_szCellS p0.Store p1) < 0
  · simp [c1] at h
  simp only [c1, decide_false, Bool.false_eq_true, if_false] at h ⊢
  obtain ⟨s0, b1, e1⟩ := laws_szCellS_small p0.Store p1 h0 h1 g0 c1
  by_cases c2 : (laws_szTxS p0.Txs (laws_szCellS p0.Store p1)) < 0
  · simp [c2] at h
  simp only [c2, decide_false, Bool.false_eq_true, if_false] at h ⊢
  obtain ⟨s1, b2, e2⟩ := laws_szTxS_small p0.Txs (laws_szCellS p0.Store p1) b1 e1 g1 c2
  by_cases c3 : (laws_szDisk p0.Disk (laws_szTxS p0.Txs (laws_szCellS p0.Store p1))) < 0
  · simp [c3] at h
  simp only [c3, decide_false, Bool.false_eq_true, if_false] at h ⊢
  obtain ⟨s2, b3, e3⟩ := laws_szDisk_small p0.Disk (laws_szTxS p0.Txs (laws_szCellS p0.Store p1)) b2 e2 g2 c3
  by_cases c4 : (laws_szEntryS p0.History (laws_szDisk p0.Disk (laws_szTxS p0.Txs (laws_szCellS p0.Store p1)))) < 0
  · simp [c4] at h
  simp only [c4, decide_false, Bool.false_eq_true, if_false] at h ⊢
  obtain ⟨s6, b4, e4⟩ := laws_szEntryS_small p0.History (laws_szDisk p0.Disk (laws_szTxS p0.Txs (laws_szCellS p0.Store p1))) b3 e3 g6 c4
  by_cases c5 : (laws_szStringS p0.Seen (laws_szEntryS p0.History (laws_szDisk p0.Disk (laws_szTxS p0.Txs (laws_szCellS p0.Store p1))))) < 0
  · simp [c5] at h
  simp only [c5, decide_false, Bool.false_eq_true, if_false] at h ⊢
  obtain ⟨s7, b5, e5⟩ := laws_szStringS_small p0.Seen (laws_szEntryS p0.History (laws_szDisk p0.Disk (laws_szTxS p0.Txs (laws_szCellS p0.Store p1)))) b4 e4 g7 c5
  exact ⟨⟨s0, s1, s2, trivial, trivial, trivial, s6, s7, trivial⟩, b5, e5⟩
@[simp] theorem laws_toKernel_id (p0 : Kernel) : laws_toKernel p0 = p0 := by
  unfold laws_toKernel
  simp only [laws_toCellS_id, laws_toDisk_id, laws_toEntryS_id, laws_toStringS_id, laws_toTxS_id]
@[simp] theorem laws_eqKernel_refl (p0 : Kernel) : laws_eqKernel p0 p0 = true := by
  unfold laws_eqKernel
  simp [laws_eqCellS_refl, laws_eqDisk_refl, laws_eqEntryS_refl, laws_eqStringS_refl, laws_eqTxS_refl]
end Go.Proofs.Ytpfnofdaaekglaa.Fw
