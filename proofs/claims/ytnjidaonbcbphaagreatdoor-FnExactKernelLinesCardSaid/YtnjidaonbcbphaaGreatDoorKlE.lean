/-
  The texts LM, LP, HZ, HP, HT, HQ, L2 of this proof, one behind the other: what each proves stands at its head. No condition.
-/
import Derived.Test.YtnjidaonbcbphaaGreatDoorKlA
import Derived.Test.YtnjidaonbcbphaaGreatDoorKlB
import Derived.Test.YtnjidaonbcbphaaGreatDoorKlC
import Derived.Test.YtnjidaonbcbphaaGreatDoorKlD
/-
  The marks: how far they count; what was marked is found so. No condition.
-/
namespace Go.Proofs.YtnjidaonbcbphaaGreatDoor.Fw
open Go.RowKit
set_option linter.unusedVariables false
set_option linter.unusedSimpArgs false
set_option maxRecDepth 100000

/-! ## Marks, generally -/
theorem wrap_up {s hi : Int} (h : 0 ≤ s ∧ s ≤ hi) (hh : hi ≤ 2305843009213693952) : 0 ≤ IntKind.i64.wrap (s + 1) ∧ IntKind.i64.wrap (s + 1) ≤ hi + 1 := by
  rw [IntWalk.i64_in (s + 1) ⟨by omega, by omega⟩]
  omega
theorem nth_set_self {α : Type} [Inhabited α] {xs : List α} {i : Nat} {x : α} (h : i < xs.length) : nth (xs.set i x) i = x := by
  simp [nth, List.getD_eq_getElem?_getD, h]
theorem nth_set_ne {α : Type} [Inhabited α] {xs : List α} {i j : Nat} {x : α} (h : i ≠ j) : nth (xs.set i x) j = nth xs j := by
  simp [nth, List.getD_eq_getElem?_getD, List.getElem?_set_ne h]
def markL {α : Type} (f : Int → α) : Nat → Nat → Int → List α → List α × Int
  | 0, _, s, y => (y, s)
  | n + 1, i, s, y => markL f n (i + 1) (IntKind.i64.wrap (s + 1)) (y.set i (f s))
def heldL {α : Type} [Inhabited α] [DecidableEq α] (f : Int → α) (z : List α) : Nat → Nat → Int → Int
  | 0, _, s => s
  | n + 1, i, s => if (!decide (nth z i = f s)) = true then (-1) else heldL f z n (i + 1) (IntKind.i64.wrap (s + 1))
theorem markL_length {α : Type} {f : Int → α} : ∀ (n i : Nat) (s : Int) (y : List α), (markL f n i s y).1.length = y.length := by
  intro n
  induction n with
  | zero => intro i s y; rfl
  | succ n ih => intro i s y; rw [markL, ih, List.length_set]
theorem markL_below {α : Type} [Inhabited α] {f : Int → α} : ∀ (n i : Nat) (s : Int) (y : List α) (j : Nat), j < i → nth (markL f n i s y).1 j = nth y j := by
  intro n
  induction n with
  | zero => intro i s y j _; rfl
  | succ n ih => intro i s y j hj; rw [markL, ih _ _ _ _ (by omega), nth_set_ne (by omega)]
theorem markL_le {α : Type} {f : Int → α} : ∀ (n i : Nat) (s : Int) (y : List α), 0 ≤ s → s + n ≤ 1152921504606846976 → 0 ≤ (markL f n i s y).2 ∧ (markL f n i s y).2 ≤ s + n := by
  intro n
  induction n with
  | zero => intro i s y h0 h1; exact ⟨h0, by simp [markL]⟩
  | succ n ih =>
    intro i s y h0 h1
    have hw := wrap_up (s := s) (hi := s) ⟨h0, by omega⟩ (by omega)
    have := ih (i + 1) (IntKind.i64.wrap (s + 1)) (y.set i (f s)) hw.1 (by omega)
    rw [markL]
    exact ⟨this.1, by omega⟩
theorem heldL_markL {α : Type} [Inhabited α] [DecidableEq α] {f : Int → α} : ∀ (n i : Nat) (s : Int) (y : List α), i + n ≤ y.length → heldL f (markL f n i s y).1 n i s = (markL f n i s y).2 := by
  intro n
  induction n with
  | zero => intro i s y _; rfl
  | succ n ih =>
    intro i s y h
    rw [heldL, markL]
    have e : nth (markL f n (i + 1) (IntKind.i64.wrap (s + 1)) (y.set i (f s))).1 i = f s := by
      rw [markL_below _ _ _ _ _ (by omega), nth_set_self (by omega)]
    rw [e]
    simp only [decide_true, Bool.not_true, Bool.false_eq_true, if_false]
    exact ih (i + 1) _ _ (by rw [List.length_set]; omega)
/-- What was marked is found so, and the count is no negative one. -/
theorem held_marked {α : Type} [Inhabited α] [DecidableEq α] {f : Int → α} {y : List α} (hy : y.length ≤ 1099511627776) :
    heldL f (markL f (y.length - 0) 0 1 y).1 ((markL f (y.length - 0) 0 1 y).1.length - 0) 0 1 = (markL f (y.length - 0) 0 1 y).2 ∧ 0 ≤ (markL f (y.length - 0) 0 1 y).2 := by
  rw [markL_length]
  exact ⟨heldL_markL _ _ _ _ (by omega), (markL_le _ _ _ _ (by decide) (by omega)).1⟩

theorem laws_markStringS_l1_eq (p0 : List ByteArray) (p1 : Int) : ∀ n i s y, laws_markStringS_l1 p0 p1 n i s y = markL (fun s => laws_markText s) n i s y := by
  intro n
  induction n with
  | zero => intro i s y; rfl
  | succ n ih => intro i s y; rw [laws_markStringS_l1, markL, ih]
theorem laws_heldStringS_l1_eq (p0 : List ByteArray) (p1 : Int) : ∀ n i s, laws_heldStringS_l1 p0 p1 n i s = heldL (fun s => laws_markText s) p0 n i s := by
  intro n
  induction n with
  | zero => intro i s; rfl
  | succ n ih => intro i s; rw [laws_heldStringS_l1, heldL, ih]
theorem laws_heldStringS_marked {y : List ByteArray} (hy : y.length ≤ 1099511627776) : laws_heldStringS (laws_markStringS y 1).1 1 = (laws_markStringS y 1).2 ∧ 0 ≤ (laws_markStringS y 1).2 := by
  unfold laws_heldStringS laws_markStringS
  rw [laws_markStringS_l1_eq, laws_heldStringS_l1_eq]
  exact held_marked hy

theorem laws_markCallS_l1_le (p0 : List Call) (p1 : Int) : ∀ (n i : Nat) (s : Int) (y : List Call), 0 ≤ s → s + 6 * n ≤ 1152921504606846976 → 0 ≤ (laws_markCallS_l1 p0 p1 n i s y).2 ∧ (laws_markCallS_l1 p0 p1 n i s y).2 ≤ s + 6 * n := by
  intro n
  induction n with
  | zero => intro i s y h0 h1; exact ⟨h0, by simp [laws_markCallS_l1]⟩
  | succ n ih =>
    intro i s y h0 h1
    have hw := (wrap_up (wrap_up (wrap_up (wrap_up (wrap_up (wrap_up (show 0 ≤ s ∧ s ≤ s from ⟨h0, Int.le_refl _⟩) (by omega)) (by omega)) (by omega)) (by omega)) (by omega)) (by omega))
    rw [laws_markCallS_l1]
    have h2 := fun Y => ih (i + 1) _ Y hw.1 (by omega)
    exact ⟨(h2 _).1, Int.le_trans (h2 _).2 (by omega)⟩
theorem laws_markCallS_le {p0 : List Call} {p1 : Int} (h0 : 0 ≤ p1) (h1 : p1 ≤ 576460752303423488) (hl : p0.length ≤ 1048576) : 0 ≤ (laws_markCallS p0 p1).2 ∧ (laws_markCallS p0 p1).2 ≤ p1 + 6291456 := by
  unfold laws_markCallS
  have := laws_markCallS_l1_le p0 p1 (p0.length - 0) 0 p1 p0 h0 (by omega)
  exact ⟨this.1, by omega⟩

theorem laws_markAnswerS_l1_le (p0 : List Answer) (p1 : Int) : ∀ (n i : Nat) (s : Int) (y : List Answer), 0 ≤ s → s + 3 * n ≤ 1152921504606846976 → 0 ≤ (laws_markAnswerS_l1 p0 p1 n i s y).2 ∧ (laws_markAnswerS_l1 p0 p1 n i s y).2 ≤ s + 3 * n := by
  intro n
  induction n with
  | zero => intro i s y h0 h1; exact ⟨h0, by simp [laws_markAnswerS_l1]⟩
  | succ n ih =>
    intro i s y h0 h1
    have hw := (wrap_up (wrap_up (wrap_up (show 0 ≤ s ∧ s ≤ s from ⟨h0, Int.le_refl _⟩) (by omega)) (by omega)) (by omega))
    rw [laws_markAnswerS_l1]
    have h2 := fun Y => ih (i + 1) _ Y hw.1 (by omega)
    exact ⟨(h2 _).1, Int.le_trans (h2 _).2 (by omega)⟩
theorem laws_markAnswerS_le {p0 : List Answer} {p1 : Int} (h0 : 0 ≤ p1) (h1 : p1 ≤ 576460752303423488) (hl : p0.length ≤ 1048576) : 0 ≤ (laws_markAnswerS p0 p1).2 ∧ (laws_markAnswerS p0 p1).2 ≤ p1 + 3145728 := by
  unfold laws_markAnswerS
  have := laws_markAnswerS_l1_le p0 p1 (p0.length - 0) 0 p1 p0 h0 (by omega)
  exact ⟨this.1, by omega⟩

theorem laws_markCellS_l1_le (p0 : List Cell) (p1 : Int) : ∀ (n i : Nat) (s : Int) (y : List Cell), 0 ≤ s → s + 2 * n ≤ 1152921504606846976 → 0 ≤ (laws_markCellS_l1 p0 p1 n i s y).2 ∧ (laws_markCellS_l1 p0 p1 n i s y).2 ≤ s + 2 * n := by
  intro n
  induction n with
  | zero => intro i s y h0 h1; exact ⟨h0, by simp [laws_markCellS_l1]⟩
  | succ n ih =>
    intro i s y h0 h1
    have hw := (wrap_up (wrap_up (show 0 ≤ s ∧ s ≤ s from ⟨h0, Int.le_refl _⟩) (by omega)) (by omega))
    rw [laws_markCellS_l1]
    have h2 := fun Y => ih (i + 1) _ Y hw.1 (by omega)
    exact ⟨(h2 _).1, Int.le_trans (h2 _).2 (by omega)⟩
theorem laws_markCellS_le {p0 : List Cell} {p1 : Int} (h0 : 0 ≤ p1) (h1 : p1 ≤ 576460752303423488) (hl : p0.length ≤ 1048576) : 0 ≤ (laws_markCellS p0 p1).2 ∧ (laws_markCellS p0 p1).2 ≤ p1 + 2097152 := by
  unfold laws_markCellS
  have := laws_markCellS_l1_le p0 p1 (p0.length - 0) 0 p1 p0 h0 (by omega)
  exact ⟨this.1, by omega⟩

theorem laws_markStepS_l1_le (p0 : List Step) (p1 : Int) : ∀ (n i : Nat) (s : Int) (y : List Step), 0 ≤ s → s + 7 * n ≤ 1152921504606846976 → 0 ≤ (laws_markStepS_l1 p0 p1 n i s y).2 ∧ (laws_markStepS_l1 p0 p1 n i s y).2 ≤ s + 7 * n := by
  intro n
  induction n with
  | zero => intro i s y h0 h1; exact ⟨h0, by simp [laws_markStepS_l1]⟩
  | succ n ih =>
    intro i s y h0 h1
    have hw := (wrap_up (wrap_up (wrap_up (wrap_up (wrap_up (wrap_up (wrap_up (show 0 ≤ s ∧ s ≤ s from ⟨h0, Int.le_refl _⟩) (by omega)) (by omega)) (by omega)) (by omega)) (by omega)) (by omega)) (by omega))
    rw [laws_markStepS_l1]
    have h2 := fun Y => ih (i + 1) _ Y hw.1 (by omega)
    exact ⟨(h2 _).1, Int.le_trans (h2 _).2 (by omega)⟩
theorem laws_markStepS_le {p0 : List Step} {p1 : Int} (h0 : 0 ≤ p1) (h1 : p1 ≤ 576460752303423488) (hl : p0.length ≤ 1048576) : 0 ≤ (laws_markStepS p0 p1).2 ∧ (laws_markStepS p0 p1).2 ≤ p1 + 7340032 := by
  unfold laws_markStepS
  have := laws_markStepS_l1_le p0 p1 (p0.length - 0) 0 p1 p0 h0 (by omega)
  exact ⟨this.1, by omega⟩

theorem laws_markStringS_le {p0 : List ByteArray} {p1 : Int} (h0 : 0 ≤ p1) (h1 : p1 ≤ 576460752303423488) (hl : p0.length ≤ 1048576) : 0 ≤ (laws_markStringS p0 p1).2 ∧ (laws_markStringS p0 p1).2 ≤ p1 + 1048576 := by
  unfold laws_markStringS
  rw [laws_markStringS_l1_eq]
  have := markL_le (f := fun s => laws_markText s) (p0.length - 0) 0 p1 p0 h0 (by omega)
  exact ⟨this.1, by omega⟩
theorem laws_markIntS_l1_eq (p0 : List Int) (p1 : Int) : ∀ n i s y, laws_markIntS_l1 p0 p1 n i s y = markL (fun s => s) n i s y := by
  intro n
  induction n with
  | zero => intro i s y; rfl
  | succ n ih => intro i s y; rw [laws_markIntS_l1, markL, ih]
theorem laws_markIntS_le {p0 : List Int} {p1 : Int} (h0 : 0 ≤ p1) (h1 : p1 ≤ 576460752303423488) (hl : p0.length ≤ 1048576) : 0 ≤ (laws_markIntS p0 p1).2 ∧ (laws_markIntS p0 p1).2 ≤ p1 + 1048576 := by
  unfold laws_markIntS
  rw [laws_markIntS_l1_eq]
  have := markL_le (f := fun s => s) (p0.length - 0) 0 p1 p0 h0 (by omega)
  exact ⟨this.1, by omega⟩

theorem laws_markTxS_l1_le (p0 : List Tx) (p1 : Int) (hs : Dat.small 1048576 p0) : ∀ (n i : Nat) (s : Int) (y : List Tx), n = p0.length - i → y.length = p0.length → (∀ j, i ≤ j → nth y j = nth p0 j) → 0 ≤ s → s + 12582917 * n ≤ 288230376151711744 →
    0 ≤ (laws_markTxS_l1 p0 p1 n i s y).2 ∧ (laws_markTxS_l1 p0 p1 n i s y).2 ≤ s + 12582917 * n := by
  intro n
  induction n with
  | zero => intro i s y _ _ _ h0 _; exact ⟨h0, by show s ≤ s + 12582917 * ((0 : Nat) : Int); omega⟩
  | succ n ih =>
    intro i s y hn hy he h0 h1
    have hw0 := (wrap_up (wrap_up (wrap_up (wrap_up (show 0 ≤ s ∧ s ≤ s from ⟨h0, Int.le_refl _⟩) (by omega)) (by omega)) (by omega)) (by omega))
    have hsm : Dat.small 1048576 (nth p0 i) := small_nth hs (by omega)
    have e := he i (Nat.le_refl _)
    have hl0 : (nth y i).Calls.length ≤ 1048576 := by rw [e]; exact hsm.2.2.2.2.1.1
    have hw1 := laws_markCallS_le (p0 := (nth y i).Calls) hw0.1 (by omega) hl0
    have hl1 : (nth y i).Answers.length ≤ 1048576 := by rw [e]; exact hsm.2.2.2.2.2.1.1
    have hw2 := laws_markAnswerS_le (p0 := (nth y i).Answers) hw1.1 (by omega) hl1
    have hl2 : (nth y i).Touch.Reads.length ≤ 1048576 := by rw [e]; exact hsm.2.2.2.2.2.2.1.1.1
    have hw3 := laws_markStringS_le (p0 := (nth y i).Touch.Reads) hw2.1 (by omega) hl2
    have hl3 : (nth y i).Touch.Writes.length ≤ 1048576 := by rw [e]; exact hsm.2.2.2.2.2.2.1.2.1
    have hw4 := laws_markStringS_le (p0 := (nth y i).Touch.Writes) hw3.1 (by omega) hl3
    have hl4 : (nth y i).Marks.length ≤ 1048576 := by rw [e]; exact hsm.2.2.2.2.2.2.2.1.1
    have hw5 := laws_markIntS_le (p0 := (nth y i).Marks) hw4.1 (by omega) hl4
    have hz := (wrap_up (hi := s + 12582916) ⟨hw5.1, by omega⟩ (by omega))
    rw [laws_markTxS_l1]
    refine (ih (i + 1) _ _ (by omega) (by rw [List.length_set]; exact hy) (fun j hj => ?_) hz.1 (by omega)).imp id fun h => Int.le_trans h (by omega)
    rw [nth_set_ne (by omega)]
    exact he j (by omega)
theorem laws_markTxS_le {p0 : List Tx} {p1 : Int} (hs : Dat.small 1048576 p0) (h0 : 0 ≤ p1) (h1 : p1 ≤ 100000000000000) : 0 ≤ (laws_markTxS p0 p1).2 ∧ (laws_markTxS p0 p1).2 ≤ p1 + 13194144776192 := by
  have hl : p0.length ≤ 1048576 := hs.1
  unfold laws_markTxS
  have := laws_markTxS_l1_le p0 p1 hs _ 0 p1 p0 rfl rfl (fun _ _ => rfl) h0 (by omega)
  exact ⟨this.1, by omega⟩

theorem laws_markEntryS_l1_le (p0 : List Entry) (p1 : Int) (hs : Dat.small 1048576 p0) : ∀ (n i : Nat) (s : Int) (y : List Entry), n = p0.length - i → y.length = p0.length → (∀ j, i ≤ j → nth y j = nth p0 j) → 0 ≤ s → s + 10485766 * n ≤ 288230376151711744 →
    0 ≤ (laws_markEntryS_l1 p0 p1 n i s y).2 ∧ (laws_markEntryS_l1 p0 p1 n i s y).2 ≤ s + 10485766 * n := by
  intro n
  induction n with
  | zero => intro i s y _ _ _ h0 _; exact ⟨h0, by show s ≤ s + 10485766 * ((0 : Nat) : Int); omega⟩
  | succ n ih =>
    intro i s y hn hy he h0 h1
    have hw0 := (wrap_up (wrap_up (wrap_up (show 0 ≤ s ∧ s ≤ s from ⟨h0, Int.le_refl _⟩) (by omega)) (by omega)) (by omega))
    have hsm : Dat.small 1048576 (nth p0 i) := small_nth hs (by omega)
    have e := he i (Nat.le_refl _)
    have hl0 : (nth y i).Steps.length ≤ 1048576 := by rw [e]; exact hsm.2.2.2.1.1
    have hw1 := laws_markStepS_le (p0 := (nth y i).Steps) hw0.1 (by omega) hl0
    have hl1 : (nth y i).Answers.length ≤ 1048576 := by rw [e]; exact hsm.2.2.2.2.1.1
    have hw2 := laws_markAnswerS_le (p0 := (nth y i).Answers) hw1.1 (by omega) hl1
    have hz := (wrap_up (hi := s + 10485763 + 1 + 1) (wrap_up (hi := s + 10485763 + 1) (wrap_up (hi := s + 10485763) ⟨hw2.1, by omega⟩ (by omega)) (by omega)) (by omega))
    rw [laws_markEntryS_l1]
    refine (ih (i + 1) _ _ (by omega) (by rw [List.length_set]; exact hy) (fun j hj => ?_) hz.1 (by omega)).imp id fun h => Int.le_trans h (by omega)
    rw [nth_set_ne (by omega)]
    exact he j (by omega)
theorem laws_markEntryS_le {p0 : List Entry} {p1 : Int} (hs : Dat.small 1048576 p0) (h0 : 0 ≤ p1) (h1 : p1 ≤ 100000000000000) : 0 ≤ (laws_markEntryS p0 p1).2 ∧ (laws_markEntryS p0 p1).2 ≤ p1 + 10995122569216 := by
  have hl : p0.length ≤ 1048576 := hs.1
  unfold laws_markEntryS
  have := laws_markEntryS_l1_le p0 p1 hs _ 0 p1 p0 rfl rfl (fun _ _ => rfl) h0 (by omega)
  exact ⟨this.1, by omega⟩

theorem laws_markSlotS_l1_le (p0 : List Slot) (p1 : Int) (hs : Dat.small 1048576 p0) : ∀ (n i : Nat) (s : Int) (y : List Slot), n = p0.length - i → y.length = p0.length → (∀ j, i ≤ j → nth y j = nth p0 j) → 0 ≤ s → s + 2097154 * n ≤ 288230376151711744 →
    0 ≤ (laws_markSlotS_l1 p0 p1 n i s y).2 ∧ (laws_markSlotS_l1 p0 p1 n i s y).2 ≤ s + 2097154 * n := by
  intro n
  induction n with
  | zero => intro i s y _ _ _ h0 _; exact ⟨h0, by show s ≤ s + 2097154 * ((0 : Nat) : Int); omega⟩
  | succ n ih =>
    intro i s y hn hy he h0 h1
    have hw0 := (wrap_up (show 0 ≤ s ∧ s ≤ s from ⟨h0, Int.le_refl _⟩) (by omega))
    have hsm : Dat.small 1048576 (nth p0 i) := small_nth hs (by omega)
    have e := he i (Nat.le_refl _)
    have hl0 : (nth y i).Cells.length ≤ 1048576 := by rw [e]; exact hsm.2.1.1
    have hw1 := laws_markCellS_le (p0 := (nth y i).Cells) hw0.1 (by omega) hl0
    have hz := (wrap_up (hi := s + 2097153) ⟨hw1.1, by omega⟩ (by omega))
    rw [laws_markSlotS_l1]
    refine (ih (i + 1) _ _ (by omega) (by rw [List.length_set]; exact hy) (fun j hj => ?_) hz.1 (by omega)).imp id fun h => Int.le_trans h (by omega)
    rw [nth_set_ne (by omega)]
    exact he j (by omega)
theorem laws_markSlotS_le {p0 : List Slot} {p1 : Int} (hs : Dat.small 1048576 p0) (h0 : 0 ≤ p1) (h1 : p1 ≤ 100000000000000) : 0 ≤ (laws_markSlotS p0 p1).2 ∧ (laws_markSlotS p0 p1).2 ≤ p1 + 2199025352704 := by
  have hl : p0.length ≤ 1048576 := hs.1
  unfold laws_markSlotS
  have := laws_markSlotS_l1_le p0 p1 hs _ 0 p1 p0 rfl rfl (fun _ _ => rfl) h0 (by omega)
  exact ⟨this.1, by omega⟩

end Go.Proofs.YtnjidaonbcbphaaGreatDoor.Fw

/-
  The lines of a kernel: the reference and the program write the same. No condition.
-/
namespace Go.Proofs.YtnjidaonbcbphaaGreatDoor.Fw
open Go.RowKit
set_option linter.unusedVariables false
set_option linter.unusedSimpArgs false
set_option maxRecDepth 100000
theorem laws_markKernel_pos {k : Kernel} (hs : Dat.small 1048576 k) : 0 ≤ laws_markKernel k 1 := by
  have s0 : Dat.small 1048576 k.Store := hs.1
  have s1 : Dat.small 1048576 k.Txs := hs.2.1
  have s2 : Dat.small 1048576 k.Disk.Slots := hs.2.2.1.1
  have s3 : Dat.small 1048576 k.History := hs.2.2.2.2.2.2.1
  have s4 : k.Seen.length ≤ 1048576 := hs.2.2.2.2.2.2.2.1.1
  unfold laws_markKernel laws_markDisk
  have h1 := laws_markCellS_le (p0 := k.Store) (p1 := 1) (by decide) (by decide) s0.1
  have h2 := laws_markTxS_le (p1 := (laws_markCellS k.Store 1).2) s1 h1.1 (by omega)
  have h3 := laws_markSlotS_le (p1 := (laws_markTxS k.Txs (laws_markCellS k.Store 1).2).2) s2 h2.1 (by omega)
  have h4 := laws_markEntryS_le (p1 := (laws_markSlotS k.Disk.Slots (laws_markTxS k.Txs (laws_markCellS k.Store 1).2).2).2) s3 h3.1 (by omega)
  exact (laws_markStringS_le (p0 := k.Seen) h4.1 (by omega) s4).1
theorem TxLines_l1_twin (p0 : List Tx) (hg : Dat.good p0) : ∀ n v i, i + n = p0.length → impl_TxLines_l1 p0 n v i = spec_TxLines_l1 p0 n v i := by
  intro n
  induction n with
  | zero => intro v i _; rfl
  | succ n ih =>
    intro v i h
    rw [impl_TxLines_l1, spec_TxLines_l1, TxLine_twin (good_nth hg (by omega)), ih _ (i + 1) (by omega)]
theorem EntryLines_l1_twin (p0 : List Entry) (hg : Dat.good p0) : ∀ n v i, i + n = p0.length → impl_EntryLines_l1 p0 n v i = spec_EntryLines_l1 p0 n v i := by
  intro n
  induction n with
  | zero => intro v i _; rfl
  | succ n ih =>
    intro v i h
    rw [impl_EntryLines_l1, spec_EntryLines_l1, EntryLine_twin (good_nth hg (by omega)), ih _ (i + 1) (by omega)]
theorem Hex1_twin (p0 : ByteArray) : (impl_Hex p0).1 = (spec_Hex p0).1 := by
  by_cases h : p0.size ≤ 20000
  · rw [spec_Hex_is h]
    unfold impl_Hex
    rw [decide_eq_false (show ¬ (p0.size : Int) > 20000 by omega)]
    rfl
  · unfold impl_Hex spec_Hex
    rw [decide_eq_true (show (p0.size : Int) > 20000 by omega)]
    rfl
theorem KernelLines_l1_twin (p0 : Kernel) : ∀ n v i, impl_KernelLines_l1 p0 n v i = spec_KernelLines_l1 p0 n v i := by
  intro n
  induction n with
  | zero => intro v i; rfl
  | succ n ih => intro v i; rw [impl_KernelLines_l1, spec_KernelLines_l1, Hex1_twin, ih]
theorem KernelLines_twin {k : Kernel} (hg : Dat.good k) : impl_KernelLines k = spec_KernelLines k := by
  have h1 : impl_TxLines k.Txs = spec_TxLines k.Txs := TxLines_l1_twin k.Txs hg.2.1 _ _ 0 (by omega)
  have h2 : impl_EntryLines k.History = spec_EntryLines k.History := EntryLines_l1_twin k.History hg.2.2.2.2.2.2.1 _ _ 0 (by omega)
  have h3 : impl_Decimal k.Seq = spec_Decimal k.Seq := (Decimal_twin hg.2.2.2.1).symm
  unfold impl_KernelLines spec_KernelLines
  rw [KernelLines_l1_twin, Concat_is, h1, h2, h3]
theorem spec_KernelLines_l1_len (p0 : Kernel) : ∀ n v i, (spec_KernelLines_l1 p0 n v i).length = v.length + n := by
  intro n
  induction n with
  | zero => intro v i; rfl
  | succ n ih => intro v i; rw [spec_KernelLines_l1, ih, List.length_append, List.length_singleton]; omega
theorem spec_KernelLines_len {k : Kernel} (hs : Dat.small 1048576 k) : (spec_KernelLines k).length ≤ 1099511627776 := by
  have h1 : k.Txs.length ≤ 1048576 := hs.2.1.1
  have h6 : k.History.length ≤ 1048576 := hs.2.2.2.2.2.2.1.1
  have h7 : k.Seen.length ≤ 1048576 := hs.2.2.2.2.2.2.2.1.1
  unfold spec_KernelLines
  rw [spec_KernelLines_l1_len, List.length_append, List.length_append, spec_TxLines_len, spec_EntryLines_len, List.length_singleton]
  omega

end Go.Proofs.YtnjidaonbcbphaaGreatDoor.Fw

/- Contracts: each call returns what the model says. By program (wip/am/gen2.py). -/
namespace Go.Proofs.YtnjidaonbcbphaaGreatDoor.Fw
open Go.RowKit
set_option linter.unusedVariables false
set_option maxRecDepth 100000

theorem fok43 : FnOk Tryz.prog 43 := ⟨_, Tryz.func43, rfl, by kernel_rfl⟩
theorem fok44 : FnOk Tryz.prog 44 := ⟨_, Tryz.func44, rfl, by kernel_rfl⟩
theorem fok45 : FnOk Tryz.prog 45 := ⟨_, Tryz.func45, rfl, by kernel_rfl⟩
theorem fok46 : FnOk Tryz.prog 46 := ⟨_, Tryz.func46, rfl, by kernel_rfl⟩
theorem fok47 : FnOk Tryz.prog 47 := ⟨_, Tryz.func47, rfl, by kernel_rfl⟩
theorem fok115 : FnOk Tryz.prog 115 := ⟨_, Tryz.func115, rfl, by kernel_rfl⟩
theorem fok116 : FnOk Tryz.prog 116 := ⟨_, Tryz.func116, rfl, by kernel_rfl⟩
theorem fok117 : FnOk Tryz.prog 117 := ⟨_, Tryz.func117, rfl, by kernel_rfl⟩
theorem fok118 : FnOk Tryz.prog 118 := ⟨_, Tryz.func118, rfl, by kernel_rfl⟩
theorem fok119 : FnOk Tryz.prog 119 := ⟨_, Tryz.func119, rfl, by kernel_rfl⟩
theorem fok167 : FnOk Tryz.prog 167 := ⟨_, Tryz.func167, rfl, by kernel_rfl⟩
theorem fok168 : FnOk Tryz.prog 168 := ⟨_, Tryz.func168, rfl, by kernel_rfl⟩
theorem fok169 : FnOk Tryz.prog 169 := ⟨_, Tryz.func169, rfl, by kernel_rfl⟩
theorem fok170 : FnOk Tryz.prog 170 := ⟨_, Tryz.func170, rfl, by kernel_rfl⟩
theorem fok171 : FnOk Tryz.prog 171 := ⟨_, Tryz.func171, rfl, by kernel_rfl⟩
theorem fok172 : FnOk Tryz.prog 172 := ⟨_, Tryz.func172, rfl, by kernel_rfl⟩
theorem fok200 : FnOk Tryz.prog 200 := ⟨_, Tryz.func200, rfl, by kernel_rfl⟩
theorem fok201 : FnOk Tryz.prog 201 := ⟨_, Tryz.func201, rfl, by kernel_rfl⟩
theorem fok202 : FnOk Tryz.prog 202 := ⟨_, Tryz.func202, rfl, by kernel_rfl⟩
/- F115 loop.example/g00974/laws.szCell -/
def laws_szCell (p0 : Cell) (p1 : Int) : Int := bif decide ((IntKind.i64.wrap (p1 - (p0.Key.size : Int))) < 0) then (-1) else (bif decide ((IntKind.i64.wrap ((IntKind.i64.wrap (p1 - (p0.Key.size : Int))) - (p0.Val.size : Int))) < 0) then (-1) else (IntKind.i64.wrap ((IntKind.i64.wrap (p1 - (p0.Key.size : Int))) - (p0.Val.size : Int))))
theorem c_laws_szCell (p0 : Cell) (p1 : Int) : CTs 115 [.o (.st Cell _ inferInstance p0), .o (.c (.int .i64 p1))] [Re.c (.int .i64 (laws_szCell p0 p1))] := by
  refine en Tryz.func115 Tryz.ntmps115 fun w hG hgd => ?_
  obtain ⟨hg_p0, _⟩ := hgd
  have hM := laws_szCell.eq_1 p0 p1
  refine ad 20 ?_
  refine cd (fun h1 => ?_) (fun h1 => ?_)
  ·
    have hM := hM.trans (bt h1)
    refine ad 4 ?_
    exact rz (rs := [.tmp 4]) (congrArg (fun x => [Re.c (.int .i64 x)]) hM)
  ·
    have hM := hM.trans (bf h1)
    refine ad 16 ?_
    refine cd (fun h2 => ?_) (fun h2 => ?_)
    ·
      have hM := hM.trans (bt h2)
      refine ad 4 ?_
      exact rz (rs := [.tmp 4]) (congrArg (fun x => [Re.c (.int .i64 x)]) hM)
    ·
      have hM := hM.trans (bf h2)
      refine ad 6 ?_
      exact rz (rs := [.tmp 4]) (congrArg (fun x => [Re.c (.int .i64 x)]) hM)

/- F43 loop.example/g00974/laws.szCellS -/
def laws_szCellS_l1 (p0 : List Cell) (p1 : Int) : Nat → Int → Nat → Int
  | 0, v1, i => v1
  | n + 1, v1, i => bif decide ((laws_szCell (nth p0 i) v1) < 0) then (-1) else (laws_szCellS_l1 p0 p1 n (laws_szCell (nth p0 i) v1) (i + 1))
def laws_szCellS (p0 : List Cell) (p1 : Int) : Int := bif decide ((IntKind.i64.wrap (p1 - (p0.length : Int))) < 0) then (-1) else (laws_szCellS_l1 p0 p1 (p0.length - 0) (IntKind.i64.wrap (p1 - (p0.length : Int))) 0)
theorem c_laws_szCellS (p0 : List Cell) (p1 : Int) : CTs 43 [.o (.sl Cell instDatCell p0), .o (.c (.int .i64 p1))] [Re.c (.int .i64 (laws_szCellS p0 p1))] := by
  refine en Tryz.func43 Tryz.ntmps43 fun w hG hgd => ?_
  obtain ⟨hg_p0, _⟩ := hgd
  have hl_p0 : p0.length ≤ 9223372036854775807 := hg_p0.1
  have hM := laws_szCellS.eq_1 p0 p1
  refine ad 18 ?_
  refine cd (fun h1 => ?_) (fun h1 => ?_)
  ·
    have hM := hM.trans (bt h1)
    refine ad 4 ?_
    exact rz (rs := [.tmp 4]) (congrArg (fun x => [Re.c (.int .i64 x)]) hM)
  ·
    have hM := hM.trans (bf h1)
    refine ad 7 ?_
    refine Run.loopM (ι := Int × Nat) (fun s => laws_szCellS_l1 p0 p1 (p0.length - s.2) s.1 s.2) (fun s => ⟨27, 1, [(0, .sl 0 p0.length), (1, .v (.int .i64 s.1)), (5, .v (.int .i64 (s.2 : Int)))], [(0, .ros Cell instDatCell p0)]⟩) (fun s => s.2 ≤ p0.length) (fun s => p0.length - s.2) (IntKind.i64.wrap (p1 - (p0.length : Int)), 0) [0] [0] hM (by first | exact ⟨by omega, by simp⟩ | omega | simp | (dsimp only; omega)) su (by decide) ?_
    rintro ⟨v1, i⟩ hv hE
    try dsimp only at hE
    have hi := hv
    try dsimp only at hi
    refine ad 8 ?_
    refine cd (fun h2 => ?_) (fun h2 => ?_)
    ·
      have h2l : i < p0.length := by have := of_decide_eq_true h2; omega
      have hM := hE.trans ((congrArg (fun n => laws_szCellS_l1 p0 p1 n v1 i) (show p0.length - i = (p0.length - (i + 1)) + 1 by omega)).trans (laws_szCellS_l1.eq_2 _ _ _ _ _))
      refine ad 7 ?_
      have hg4 := good_nth (k := i) hg_p0 om
      refine op (ix (xs := p0) i om) ?_
      refine ad 2 ?_
      have hg5 : Dat.good (nth p0 i : Cell) := hg4
      refine op (cl (c_laws_szCell (nth p0 i) v1) fok115) ?_
      refine ad 7 ?_
      refine cd (fun h6 => ?_) (fun h6 => ?_)
      ·
        have hM := hM.trans (bt h6)
        refine ad 4 ?_
        exact rz (rs := [.tmp 4]) (congrArg (fun x => [Re.c (.int .i64 x)]) hM)
      ·
        have hM := hM.trans (bf h6)
        refine ad 5 ?_
        rw [wrapN (i := i) (by first | omega | exact om)]
        refine ad 2 ?_
        exact Run.again ((laws_szCell (nth p0 i) v1), (i + 1)) [0] [1] ⟨by first | omega | exact trivial | (dsimp only; omega) | (refine ⟨by omega, ?_⟩; simp_all; try omega), hM⟩ rfl (by show _ - _ < _ - _; (try dsimp only); omega) su (by decide)
    ·
      have h2l : ¬ (i < p0.length) := by have := of_decide_eq_false h2; omega
      have hM := hE.trans ((congrArg (fun n => laws_szCellS_l1 p0 p1 n v1 i) (show p0.length - i = 0 by omega)).trans (laws_szCellS_l1.eq_1 _ _ _ _))
      refine ad 6 ?_
      exact rz (rs := [.tmp 4]) (congrArg (fun x => [Re.c (.int .i64 x)]) hM)

/- F200 loop.example/g00974/laws.szCall -/
def laws_szCall (p0 : Call) (p1 : Int) : Int := bif decide ((IntKind.i64.wrap (p1 - (p0.Name.size : Int))) < 0) then (-1) else (bif decide ((IntKind.i64.wrap ((IntKind.i64.wrap (p1 - (p0.Name.size : Int))) - (p0.To.size : Int))) < 0) then (-1) else (bif decide ((IntKind.i64.wrap ((IntKind.i64.wrap ((IntKind.i64.wrap (p1 - (p0.Name.size : Int))) - (p0.To.size : Int))) - (p0.Text.size : Int))) < 0) then (-1) else (IntKind.i64.wrap ((IntKind.i64.wrap ((IntKind.i64.wrap (p1 - (p0.Name.size : Int))) - (p0.To.size : Int))) - (p0.Text.size : Int)))))
theorem c_laws_szCall (p0 : Call) (p1 : Int) : CTs 200 [.o (.st Call _ inferInstance p0), .o (.c (.int .i64 p1))] [Re.c (.int .i64 (laws_szCall p0 p1))] := by
  refine en Tryz.func200 Tryz.ntmps200 fun w hG hgd => ?_
  obtain ⟨hg_p0, _⟩ := hgd
  have hM := laws_szCall.eq_1 p0 p1
  refine ad 20 ?_
  refine cd (fun h1 => ?_) (fun h1 => ?_)
  ·
    have hM := hM.trans (bt h1)
    refine ad 4 ?_
    exact rz (rs := [.tmp 4]) (congrArg (fun x => [Re.c (.int .i64 x)]) hM)
  ·
    have hM := hM.trans (bf h1)
    refine ad 16 ?_
    refine cd (fun h2 => ?_) (fun h2 => ?_)
    ·
      have hM := hM.trans (bt h2)
      refine ad 4 ?_
      exact rz (rs := [.tmp 4]) (congrArg (fun x => [Re.c (.int .i64 x)]) hM)
    ·
      have hM := hM.trans (bf h2)
      refine ad 16 ?_
      refine cd (fun h3 => ?_) (fun h3 => ?_)
      ·
        have hM := hM.trans (bt h3)
        refine ad 4 ?_
        exact rz (rs := [.tmp 4]) (congrArg (fun x => [Re.c (.int .i64 x)]) hM)
      ·
        have hM := hM.trans (bf h3)
        refine ad 6 ?_
        exact rz (rs := [.tmp 4]) (congrArg (fun x => [Re.c (.int .i64 x)]) hM)

/- F167 loop.example/g00974/laws.szCallS -/
def laws_szCallS_l1 (p0 : List Call) (p1 : Int) : Nat → Int → Nat → Int
  | 0, v1, i => v1
  | n + 1, v1, i => bif decide ((laws_szCall (nth p0 i) v1) < 0) then (-1) else (laws_szCallS_l1 p0 p1 n (laws_szCall (nth p0 i) v1) (i + 1))
def laws_szCallS (p0 : List Call) (p1 : Int) : Int := bif decide ((IntKind.i64.wrap (p1 - (p0.length : Int))) < 0) then (-1) else (laws_szCallS_l1 p0 p1 (p0.length - 0) (IntKind.i64.wrap (p1 - (p0.length : Int))) 0)
theorem c_laws_szCallS (p0 : List Call) (p1 : Int) : CTs 167 [.o (.sl Call instDatCall p0), .o (.c (.int .i64 p1))] [Re.c (.int .i64 (laws_szCallS p0 p1))] := by
  refine en Tryz.func167 Tryz.ntmps167 fun w hG hgd => ?_
  obtain ⟨hg_p0, _⟩ := hgd
  have hl_p0 : p0.length ≤ 9223372036854775807 := hg_p0.1
  have hM := laws_szCallS.eq_1 p0 p1
  refine ad 18 ?_
  refine cd (fun h1 => ?_) (fun h1 => ?_)
  ·
    have hM := hM.trans (bt h1)
    refine ad 4 ?_
    exact rz (rs := [.tmp 4]) (congrArg (fun x => [Re.c (.int .i64 x)]) hM)
  ·
    have hM := hM.trans (bf h1)
    refine ad 7 ?_
    refine Run.loopM (ι := Int × Nat) (fun s => laws_szCallS_l1 p0 p1 (p0.length - s.2) s.1 s.2) (fun s => ⟨27, 1, [(0, .sl 0 p0.length), (1, .v (.int .i64 s.1)), (5, .v (.int .i64 (s.2 : Int)))], [(0, .ros Call instDatCall p0)]⟩) (fun s => s.2 ≤ p0.length) (fun s => p0.length - s.2) (IntKind.i64.wrap (p1 - (p0.length : Int)), 0) [0] [0] hM (by first | exact ⟨by omega, by simp⟩ | omega | simp | (dsimp only; omega)) su (by decide) ?_
    rintro ⟨v1, i⟩ hv hE
    try dsimp only at hE
    have hi := hv
    try dsimp only at hi
    refine ad 8 ?_
    refine cd (fun h2 => ?_) (fun h2 => ?_)
    ·
      have h2l : i < p0.length := by have := of_decide_eq_true h2; omega
      have hM := hE.trans ((congrArg (fun n => laws_szCallS_l1 p0 p1 n v1 i) (show p0.length - i = (p0.length - (i + 1)) + 1 by omega)).trans (laws_szCallS_l1.eq_2 _ _ _ _ _))
      refine ad 7 ?_
      have hg4 := good_nth (k := i) hg_p0 om
      refine op (ix (xs := p0) i om) ?_
      refine ad 2 ?_
      have hg5 : Dat.good (nth p0 i : Call) := hg4
      refine op (cl (c_laws_szCall (nth p0 i) v1) fok200) ?_
      refine ad 7 ?_
      refine cd (fun h6 => ?_) (fun h6 => ?_)
      ·
        have hM := hM.trans (bt h6)
        refine ad 4 ?_
        exact rz (rs := [.tmp 4]) (congrArg (fun x => [Re.c (.int .i64 x)]) hM)
      ·
        have hM := hM.trans (bf h6)
        refine ad 5 ?_
        rw [wrapN (i := i) (by first | omega | exact om)]
        refine ad 2 ?_
        exact Run.again ((laws_szCall (nth p0 i) v1), (i + 1)) [0] [1] ⟨by first | omega | exact trivial | (dsimp only; omega) | (refine ⟨by omega, ?_⟩; simp_all; try omega), hM⟩ rfl (by show _ - _ < _ - _; (try dsimp only); omega) su (by decide)
    ·
      have h2l : ¬ (i < p0.length) := by have := of_decide_eq_false h2; omega
      have hM := hE.trans ((congrArg (fun n => laws_szCallS_l1 p0 p1 n v1 i) (show p0.length - i = 0 by omega)).trans (laws_szCallS_l1.eq_1 _ _ _ _))
      refine ad 6 ?_
      exact rz (rs := [.tmp 4]) (congrArg (fun x => [Re.c (.int .i64 x)]) hM)

/- F201 loop.example/g00974/laws.szAnswer -/
def laws_szAnswer (p0 : Answer) (p1 : Int) : Int := bif decide ((IntKind.i64.wrap (p1 - (p0.Text.size : Int))) < 0) then (-1) else (IntKind.i64.wrap (p1 - (p0.Text.size : Int)))
theorem c_laws_szAnswer (p0 : Answer) (p1 : Int) : CTs 201 [.o (.st Answer _ inferInstance p0), .o (.c (.int .i64 p1))] [Re.c (.int .i64 (laws_szAnswer p0 p1))] := by
  refine en Tryz.func201 Tryz.ntmps201 fun w hG hgd => ?_
  obtain ⟨hg_p0, _⟩ := hgd
  have hM := laws_szAnswer.eq_1 p0 p1
  refine ad 20 ?_
  refine cd (fun h1 => ?_) (fun h1 => ?_)
  ·
    have hM := hM.trans (bt h1)
    refine ad 4 ?_
    exact rz (rs := [.tmp 4]) (congrArg (fun x => [Re.c (.int .i64 x)]) hM)
  ·
    have hM := hM.trans (bf h1)
    refine ad 6 ?_
    exact rz (rs := [.tmp 4]) (congrArg (fun x => [Re.c (.int .i64 x)]) hM)

/- F168 loop.example/g00974/laws.szAnswerS -/
def laws_szAnswerS_l1 (p0 : List Answer) (p1 : Int) : Nat → Int → Nat → Int
  | 0, v1, i => v1
  | n + 1, v1, i => bif decide ((laws_szAnswer (nth p0 i) v1) < 0) then (-1) else (laws_szAnswerS_l1 p0 p1 n (laws_szAnswer (nth p0 i) v1) (i + 1))
def laws_szAnswerS (p0 : List Answer) (p1 : Int) : Int := bif decide ((IntKind.i64.wrap (p1 - (p0.length : Int))) < 0) then (-1) else (laws_szAnswerS_l1 p0 p1 (p0.length - 0) (IntKind.i64.wrap (p1 - (p0.length : Int))) 0)
theorem c_laws_szAnswerS (p0 : List Answer) (p1 : Int) : CTs 168 [.o (.sl Answer instDatAnswer p0), .o (.c (.int .i64 p1))] [Re.c (.int .i64 (laws_szAnswerS p0 p1))] := by
  refine en Tryz.func168 Tryz.ntmps168 fun w hG hgd => ?_
  obtain ⟨hg_p0, _⟩ := hgd
  have hl_p0 : p0.length ≤ 9223372036854775807 := hg_p0.1
  have hM := laws_szAnswerS.eq_1 p0 p1
  refine ad 18 ?_
  refine cd (fun h1 => ?_) (fun h1 => ?_)
  ·
    have hM := hM.trans (bt h1)
    refine ad 4 ?_
    exact rz (rs := [.tmp 4]) (congrArg (fun x => [Re.c (.int .i64 x)]) hM)
  ·
    have hM := hM.trans (bf h1)
    refine ad 7 ?_
    refine Run.loopM (ι := Int × Nat) (fun s => laws_szAnswerS_l1 p0 p1 (p0.length - s.2) s.1 s.2) (fun s => ⟨27, 1, [(0, .sl 0 p0.length), (1, .v (.int .i64 s.1)), (5, .v (.int .i64 (s.2 : Int)))], [(0, .ros Answer instDatAnswer p0)]⟩) (fun s => s.2 ≤ p0.length) (fun s => p0.length - s.2) (IntKind.i64.wrap (p1 - (p0.length : Int)), 0) [0] [0] hM (by first | exact ⟨by omega, by simp⟩ | omega | simp | (dsimp only; omega)) su (by decide) ?_
    rintro ⟨v1, i⟩ hv hE
    try dsimp only at hE
    have hi := hv
    try dsimp only at hi
    refine ad 8 ?_
    refine cd (fun h2 => ?_) (fun h2 => ?_)
    ·
      have h2l : i < p0.length := by have := of_decide_eq_true h2; omega
      have hM := hE.trans ((congrArg (fun n => laws_szAnswerS_l1 p0 p1 n v1 i) (show p0.length - i = (p0.length - (i + 1)) + 1 by omega)).trans (laws_szAnswerS_l1.eq_2 _ _ _ _ _))
      refine ad 7 ?_
      have hg4 := good_nth (k := i) hg_p0 om
      refine op (ix (xs := p0) i om) ?_
      refine ad 2 ?_
      have hg5 : Dat.good (nth p0 i : Answer) := hg4
      refine op (cl (c_laws_szAnswer (nth p0 i) v1) fok201) ?_
      refine ad 7 ?_
      refine cd (fun h6 => ?_) (fun h6 => ?_)
      ·
        have hM := hM.trans (bt h6)
        refine ad 4 ?_
        exact rz (rs := [.tmp 4]) (congrArg (fun x => [Re.c (.int .i64 x)]) hM)
      ·
        have hM := hM.trans (bf h6)
        refine ad 5 ?_
        rw [wrapN (i := i) (by first | omega | exact om)]
        refine ad 2 ?_
        exact Run.again ((laws_szAnswer (nth p0 i) v1), (i + 1)) [0] [1] ⟨by first | omega | exact trivial | (dsimp only; omega) | (refine ⟨by omega, ?_⟩; simp_all; try omega), hM⟩ rfl (by show _ - _ < _ - _; (try dsimp only); omega) su (by decide)
    ·
      have h2l : ¬ (i < p0.length) := by have := of_decide_eq_false h2; omega
      have hM := hE.trans ((congrArg (fun n => laws_szAnswerS_l1 p0 p1 n v1 i) (show p0.length - i = 0 by omega)).trans (laws_szAnswerS_l1.eq_1 _ _ _ _))
      refine ad 6 ?_
      exact rz (rs := [.tmp 4]) (congrArg (fun x => [Re.c (.int .i64 x)]) hM)

/- F47 loop.example/g00974/laws.szStringS -/
def laws_szStringS_l1 (p0 : List ByteArray) (p1 : Int) : Nat → Int → Nat → Int
  | 0, v1, i => v1
  | n + 1, v1, i => bif decide ((IntKind.i64.wrap (v1 - ((nth p0 i).size : Int))) < 0) then (-1) else (laws_szStringS_l1 p0 p1 n (IntKind.i64.wrap (v1 - ((nth p0 i).size : Int))) (i + 1))
def laws_szStringS (p0 : List ByteArray) (p1 : Int) : Int := bif decide ((IntKind.i64.wrap (p1 - (p0.length : Int))) < 0) then (-1) else (laws_szStringS_l1 p0 p1 (p0.length - 0) (IntKind.i64.wrap (p1 - (p0.length : Int))) 0)
theorem c_laws_szStringS (p0 : List ByteArray) (p1 : Int) : CTs 47 [.o (.sl ByteArray instDatByteArray p0), .o (.c (.int .i64 p1))] [Re.c (.int .i64 (laws_szStringS p0 p1))] := by
  refine en Tryz.func47 Tryz.ntmps47 fun w hG hgd => ?_
  obtain ⟨hg_p0, _⟩ := hgd
  have hl_p0 : p0.length ≤ 9223372036854775807 := hg_p0.1
  have hM := laws_szStringS.eq_1 p0 p1
  refine ad 18 ?_
  refine cd (fun h1 => ?_) (fun h1 => ?_)
  ·
    have hM := hM.trans (bt h1)
    refine ad 4 ?_
    exact rz (rs := [.tmp 4]) (congrArg (fun x => [Re.c (.int .i64 x)]) hM)
  ·
    have hM := hM.trans (bf h1)
    refine ad 7 ?_
    refine Run.loopM (ι := Int × Nat) (fun s => laws_szStringS_l1 p0 p1 (p0.length - s.2) s.1 s.2) (fun s => ⟨28, 1, [(0, .sl 0 p0.length), (1, .v (.int .i64 s.1)), (5, .v (.int .i64 (s.2 : Int)))], [(0, .ros ByteArray instDatByteArray p0)]⟩) (fun s => s.2 ≤ p0.length) (fun s => p0.length - s.2) (IntKind.i64.wrap (p1 - (p0.length : Int)), 0) [0] [0] hM (by first | exact ⟨by omega, by simp⟩ | omega | simp | (dsimp only; omega)) su (by decide) ?_
    rintro ⟨v1, i⟩ hv hE
    try dsimp only at hE
    have hi := hv
    try dsimp only at hi
    refine ad 8 ?_
    refine cd (fun h2 => ?_) (fun h2 => ?_)
    ·
      have h2l : i < p0.length := by have := of_decide_eq_true h2; omega
      have hM := hE.trans ((congrArg (fun n => laws_szStringS_l1 p0 p1 n v1 i) (show p0.length - i = (p0.length - (i + 1)) + 1 by omega)).trans (laws_szStringS_l1.eq_2 _ _ _ _ _))
      refine ad 8 ?_
      have hg4 := good_nth (k := i) hg_p0 om
      refine op (ix (xs := p0) i om) ?_
      refine ad 10 ?_
      refine cd (fun h5 => ?_) (fun h5 => ?_)
      ·
        have hM := hM.trans (bt h5)
        refine ad 4 ?_
        exact rz (rs := [.tmp 4]) (congrArg (fun x => [Re.c (.int .i64 x)]) hM)
      ·
        have hM := hM.trans (bf h5)
        refine ad 5 ?_
        rw [wrapN (i := i) (by first | omega | exact om)]
        refine ad 2 ?_
        exact Run.again (IntKind.i64.wrap (v1 - ((nth p0 i).size : Int)), (i + 1)) [0] [1] ⟨by first | omega | exact trivial | (dsimp only; omega) | (refine ⟨by omega, ?_⟩; simp_all; try omega), hM⟩ rfl (by show _ - _ < _ - _; (try dsimp only); omega) su (by decide)
    ·
      have h2l : ¬ (i < p0.length) := by have := of_decide_eq_false h2; omega
      have hM := hE.trans ((congrArg (fun n => laws_szStringS_l1 p0 p1 n v1 i) (show p0.length - i = 0 by omega)).trans (laws_szStringS_l1.eq_1 _ _ _ _))
      refine ad 6 ?_
      exact rz (rs := [.tmp 4]) (congrArg (fun x => [Re.c (.int .i64 x)]) hM)

/- F169 loop.example/g00974/laws.szTouch -/
def laws_szTouch (p0 : Touch) (p1 : Int) : Int := bif decide ((laws_szStringS p0.Reads p1) < 0) then (-1) else (bif decide ((laws_szStringS p0.Writes (laws_szStringS p0.Reads p1)) < 0) then (-1) else (laws_szStringS p0.Writes (laws_szStringS p0.Reads p1)))
theorem c_laws_szTouch (p0 : Touch) (p1 : Int) : CTs 169 [.o (.st Touch _ inferInstance p0), .o (.c (.int .i64 p1))] [Re.c (.int .i64 (laws_szTouch p0 p1))] := by
  refine en Tryz.func169 Tryz.ntmps169 fun w hG hgd => ?_
  obtain ⟨hg_p0, _⟩ := hgd
  have hM := laws_szTouch.eq_1 p0 p1
  refine ad 10 ?_
  refine op (cl (c_laws_szStringS p0.Reads p1) fok47) ?_
  refine ad 8 ?_
  refine cd (fun h1 => ?_) (fun h1 => ?_)
  ·
    have hM := hM.trans (bt h1)
    refine ad 4 ?_
    exact rz (rs := [.tmp 4]) (congrArg (fun x => [Re.c (.int .i64 x)]) hM)
  ·
    have hM := hM.trans (bf h1)
    refine ad 6 ?_
    refine op (cl (c_laws_szStringS p0.Writes (laws_szStringS p0.Reads p1)) fok47) ?_
    refine ad 8 ?_
    refine cd (fun h2 => ?_) (fun h2 => ?_)
    ·
      have hM := hM.trans (bt h2)
      refine ad 4 ?_
      exact rz (rs := [.tmp 4]) (congrArg (fun x => [Re.c (.int .i64 x)]) hM)
    ·
      have hM := hM.trans (bf h2)
      refine ad 6 ?_
      exact rz (rs := [.tmp 4]) (congrArg (fun x => [Re.c (.int .i64 x)]) hM)

/- F170 loop.example/g00974/laws.szIntS -/
def laws_szIntS (p0 : List Int) (p1 : Int) : Int := bif decide ((IntKind.i64.wrap (p1 - (p0.length : Int))) < 0) then (-1) else (IntKind.i64.wrap (p1 - (p0.length : Int)))
theorem c_laws_szIntS (p0 : List Int) (p1 : Int) : CTs 170 [.o (.sl Int instDatInt p0), .o (.c (.int .i64 p1))] [Re.c (.int .i64 (laws_szIntS p0 p1))] := by
  refine en Tryz.func170 Tryz.ntmps170 fun w hG hgd => ?_
  obtain ⟨hg_p0, _⟩ := hgd
  have hl_p0 : p0.length ≤ 9223372036854775807 := hg_p0.1
  have hM := laws_szIntS.eq_1 p0 p1
  refine ad 18 ?_
  refine cd (fun h1 => ?_) (fun h1 => ?_)
  ·
    have hM := hM.trans (bt h1)
    refine ad 4 ?_
    exact rz (rs := [.tmp 4]) (congrArg (fun x => [Re.c (.int .i64 x)]) hM)
  ·
    have hM := hM.trans (bf h1)
    refine ad 6 ?_
    exact rz (rs := [.tmp 4]) (congrArg (fun x => [Re.c (.int .i64 x)]) hM)

/- F116 loop.example/g00974/laws.szTx -/
def laws_szTx (p0 : Tx) (p1 : Int) : Int := bif decide ((laws_szCallS p0.Calls p1) < 0) then (-1) else (bif decide ((laws_szAnswerS p0.Answers (laws_szCallS p0.Calls p1)) < 0) then (-1) else (bif decide ((laws_szTouch p0.Touch (laws_szAnswerS p0.Answers (laws_szCallS p0.Calls p1))) < 0) then (-1) else (bif decide ((laws_szIntS p0.Marks (laws_szTouch p0.Touch (laws_szAnswerS p0.Answers (laws_szCallS p0.Calls p1)))) < 0) then (-1) else (laws_szIntS p0.Marks (laws_szTouch p0.Touch (laws_szAnswerS p0.Answers (laws_szCallS p0.Calls p1)))))))
theorem c_laws_szTx (p0 : Tx) (p1 : Int) : CTs 116 [.o (.st Tx _ inferInstance p0), .o (.c (.int .i64 p1))] [Re.c (.int .i64 (laws_szTx p0 p1))] := by
  refine en Tryz.func116 Tryz.ntmps116 fun w hG hgd => ?_
  obtain ⟨hg_p0, _⟩ := hgd
  have hM := laws_szTx.eq_1 p0 p1
  refine ad 10 ?_
  refine op (cl (c_laws_szCallS p0.Calls p1) fok167) ?_
  refine ad 8 ?_
  refine cd (fun h1 => ?_) (fun h1 => ?_)
  ·
    have hM := hM.trans (bt h1)
    refine ad 4 ?_
    exact rz (rs := [.tmp 4]) (congrArg (fun x => [Re.c (.int .i64 x)]) hM)
  ·
    have hM := hM.trans (bf h1)
    refine ad 6 ?_
    refine op (cl (c_laws_szAnswerS p0.Answers (laws_szCallS p0.Calls p1)) fok168) ?_
    refine ad 8 ?_
    refine cd (fun h2 => ?_) (fun h2 => ?_)
    ·
      have hM := hM.trans (bt h2)
      refine ad 4 ?_
      exact rz (rs := [.tmp 4]) (congrArg (fun x => [Re.c (.int .i64 x)]) hM)
    ·
      have hM := hM.trans (bf h2)
      refine ad 6 ?_
      have hg3 : Dat.good (p0.Touch : Touch) := hg_p0.2.2.2.2.2.2.1
      refine op (cl (c_laws_szTouch p0.Touch (laws_szAnswerS p0.Answers (laws_szCallS p0.Calls p1))) fok169) ?_
      refine ad 8 ?_
      refine cd (fun h4 => ?_) (fun h4 => ?_)
      ·
        have hM := hM.trans (bt h4)
        refine ad 4 ?_
        exact rz (rs := [.tmp 4]) (congrArg (fun x => [Re.c (.int .i64 x)]) hM)
      ·
        have hM := hM.trans (bf h4)
        refine ad 6 ?_
        refine op (cl (c_laws_szIntS p0.Marks (laws_szTouch p0.Touch (laws_szAnswerS p0.Answers (laws_szCallS p0.Calls p1)))) fok170) ?_
        refine ad 8 ?_
        refine cd (fun h5 => ?_) (fun h5 => ?_)
        ·
          have hM := hM.trans (bt h5)
          refine ad 4 ?_
          exact rz (rs := [.tmp 4]) (congrArg (fun x => [Re.c (.int .i64 x)]) hM)
        ·
          have hM := hM.trans (bf h5)
          refine ad 6 ?_
          exact rz (rs := [.tmp 4]) (congrArg (fun x => [Re.c (.int .i64 x)]) hM)

/- F44 loop.example/g00974/laws.szTxS -/
def laws_szTxS_l1 (p0 : List Tx) (p1 : Int) : Nat → Int → Nat → Int
  | 0, v1, i => v1
  | n + 1, v1, i => bif decide ((laws_szTx (nth p0 i) v1) < 0) then (-1) else (laws_szTxS_l1 p0 p1 n (laws_szTx (nth p0 i) v1) (i + 1))
def laws_szTxS (p0 : List Tx) (p1 : Int) : Int := bif decide ((IntKind.i64.wrap (p1 - (p0.length : Int))) < 0) then (-1) else (laws_szTxS_l1 p0 p1 (p0.length - 0) (IntKind.i64.wrap (p1 - (p0.length : Int))) 0)
theorem c_laws_szTxS (p0 : List Tx) (p1 : Int) : CTs 44 [.o (.sl Tx instDatTx p0), .o (.c (.int .i64 p1))] [Re.c (.int .i64 (laws_szTxS p0 p1))] := by
  refine en Tryz.func44 Tryz.ntmps44 fun w hG hgd => ?_
  obtain ⟨hg_p0, _⟩ := hgd
  have hl_p0 : p0.length ≤ 9223372036854775807 := hg_p0.1
  have hM := laws_szTxS.eq_1 p0 p1
  refine ad 18 ?_
  refine cd (fun h1 => ?_) (fun h1 => ?_)
  ·
    have hM := hM.trans (bt h1)
    refine ad 4 ?_
    exact rz (rs := [.tmp 4]) (congrArg (fun x => [Re.c (.int .i64 x)]) hM)
  ·
    have hM := hM.trans (bf h1)
    refine ad 7 ?_
    refine Run.loopM (ι := Int × Nat) (fun s => laws_szTxS_l1 p0 p1 (p0.length - s.2) s.1 s.2) (fun s => ⟨27, 1, [(0, .sl 0 p0.length), (1, .v (.int .i64 s.1)), (5, .v (.int .i64 (s.2 : Int)))], [(0, .ros Tx instDatTx p0)]⟩) (fun s => s.2 ≤ p0.length) (fun s => p0.length - s.2) (IntKind.i64.wrap (p1 - (p0.length : Int)), 0) [0] [0] hM (by first | exact ⟨by omega, by simp⟩ | omega | simp | (dsimp only; omega)) su (by decide) ?_
    rintro ⟨v1, i⟩ hv hE
    try dsimp only at hE
    have hi := hv
    try dsimp only at hi
    refine ad 8 ?_
    refine cd (fun h2 => ?_) (fun h2 => ?_)
    ·
      have h2l : i < p0.length := by have := of_decide_eq_true h2; omega
      have hM := hE.trans ((congrArg (fun n => laws_szTxS_l1 p0 p1 n v1 i) (show p0.length - i = (p0.length - (i + 1)) + 1 by omega)).trans (laws_szTxS_l1.eq_2 _ _ _ _ _))
      refine ad 7 ?_
      have hg4 := good_nth (k := i) hg_p0 om
      refine op (ix (xs := p0) i om) ?_
      refine ad 2 ?_
      have hg5 : Dat.good (nth p0 i : Tx) := hg4
      refine op (cl (c_laws_szTx (nth p0 i) v1) fok116) ?_
      refine ad 7 ?_
      refine cd (fun h6 => ?_) (fun h6 => ?_)
      ·
        have hM := hM.trans (bt h6)
        refine ad 4 ?_
        exact rz (rs := [.tmp 4]) (congrArg (fun x => [Re.c (.int .i64 x)]) hM)
      ·
        have hM := hM.trans (bf h6)
        refine ad 5 ?_
        rw [wrapN (i := i) (by first | omega | exact om)]
        refine ad 2 ?_
        exact Run.again ((laws_szTx (nth p0 i) v1), (i + 1)) [0] [6] ⟨by first | omega | exact trivial | (dsimp only; omega) | (refine ⟨by omega, ?_⟩; simp_all; try omega), hM⟩ rfl (by show _ - _ < _ - _; (try dsimp only); omega) su (by decide)
    ·
      have h2l : ¬ (i < p0.length) := by have := of_decide_eq_false h2; omega
      have hM := hE.trans ((congrArg (fun n => laws_szTxS_l1 p0 p1 n v1 i) (show p0.length - i = 0 by omega)).trans (laws_szTxS_l1.eq_1 _ _ _ _))
      refine ad 6 ?_
      exact rz (rs := [.tmp 4]) (congrArg (fun x => [Re.c (.int .i64 x)]) hM)

/- F171 loop.example/g00974/laws.szSlot -/
def laws_szSlot (p0 : Slot) (p1 : Int) : Int := bif decide ((laws_szCellS p0.Cells p1) < 0) then (-1) else (laws_szCellS p0.Cells p1)
theorem c_laws_szSlot (p0 : Slot) (p1 : Int) : CTs 171 [.o (.st Slot _ inferInstance p0), .o (.c (.int .i64 p1))] [Re.c (.int .i64 (laws_szSlot p0 p1))] := by
  refine en Tryz.func171 Tryz.ntmps171 fun w hG hgd => ?_
  obtain ⟨hg_p0, _⟩ := hgd
  have hM := laws_szSlot.eq_1 p0 p1
  refine ad 10 ?_
  refine op (cl (c_laws_szCellS p0.Cells p1) fok43) ?_
  refine ad 8 ?_
  refine cd (fun h1 => ?_) (fun h1 => ?_)
  ·
    have hM := hM.trans (bt h1)
    refine ad 4 ?_
    exact rz (rs := [.tmp 4]) (congrArg (fun x => [Re.c (.int .i64 x)]) hM)
  ·
    have hM := hM.trans (bf h1)
    refine ad 6 ?_
    exact rz (rs := [.tmp 4]) (congrArg (fun x => [Re.c (.int .i64 x)]) hM)

/- F117 loop.example/g00974/laws.szSlotS -/
def laws_szSlotS_l1 (p0 : List Slot) (p1 : Int) : Nat → Int → Nat → Int
  | 0, v1, i => v1
  | n + 1, v1, i => bif decide ((laws_szSlot (nth p0 i) v1) < 0) then (-1) else (laws_szSlotS_l1 p0 p1 n (laws_szSlot (nth p0 i) v1) (i + 1))
def laws_szSlotS (p0 : List Slot) (p1 : Int) : Int := bif decide ((IntKind.i64.wrap (p1 - (p0.length : Int))) < 0) then (-1) else (laws_szSlotS_l1 p0 p1 (p0.length - 0) (IntKind.i64.wrap (p1 - (p0.length : Int))) 0)
theorem c_laws_szSlotS (p0 : List Slot) (p1 : Int) : CTs 117 [.o (.sl Slot instDatSlot p0), .o (.c (.int .i64 p1))] [Re.c (.int .i64 (laws_szSlotS p0 p1))] := by
  refine en Tryz.func117 Tryz.ntmps117 fun w hG hgd => ?_
  obtain ⟨hg_p0, _⟩ := hgd
  have hl_p0 : p0.length ≤ 9223372036854775807 := hg_p0.1
  have hM := laws_szSlotS.eq_1 p0 p1
  refine ad 18 ?_
  refine cd (fun h1 => ?_) (fun h1 => ?_)
  ·
    have hM := hM.trans (bt h1)
    refine ad 4 ?_
    exact rz (rs := [.tmp 4]) (congrArg (fun x => [Re.c (.int .i64 x)]) hM)
  ·
    have hM := hM.trans (bf h1)
    refine ad 7 ?_
    refine Run.loopM (ι := Int × Nat) (fun s => laws_szSlotS_l1 p0 p1 (p0.length - s.2) s.1 s.2) (fun s => ⟨27, 1, [(0, .sl 0 p0.length), (1, .v (.int .i64 s.1)), (5, .v (.int .i64 (s.2 : Int)))], [(0, .ros Slot instDatSlot p0)]⟩) (fun s => s.2 ≤ p0.length) (fun s => p0.length - s.2) (IntKind.i64.wrap (p1 - (p0.length : Int)), 0) [0] [0] hM (by first | exact ⟨by omega, by simp⟩ | omega | simp | (dsimp only; omega)) su (by decide) ?_
    rintro ⟨v1, i⟩ hv hE
    try dsimp only at hE
    have hi := hv
    try dsimp only at hi
    refine ad 8 ?_
    refine cd (fun h2 => ?_) (fun h2 => ?_)
    ·
      have h2l : i < p0.length := by have := of_decide_eq_true h2; omega
      have hM := hE.trans ((congrArg (fun n => laws_szSlotS_l1 p0 p1 n v1 i) (show p0.length - i = (p0.length - (i + 1)) + 1 by omega)).trans (laws_szSlotS_l1.eq_2 _ _ _ _ _))
      refine ad 7 ?_
      have hg4 := good_nth (k := i) hg_p0 om
      refine op (ix (xs := p0) i om) ?_
      refine ad 2 ?_
      have hg5 : Dat.good (nth p0 i : Slot) := hg4
      refine op (cl (c_laws_szSlot (nth p0 i) v1) fok171) ?_
      refine ad 7 ?_
      refine cd (fun h6 => ?_) (fun h6 => ?_)
      ·
        have hM := hM.trans (bt h6)
        refine ad 4 ?_
        exact rz (rs := [.tmp 4]) (congrArg (fun x => [Re.c (.int .i64 x)]) hM)
      ·
        have hM := hM.trans (bf h6)
        refine ad 5 ?_
        rw [wrapN (i := i) (by first | omega | exact om)]
        refine ad 2 ?_
        exact Run.again ((laws_szSlot (nth p0 i) v1), (i + 1)) [0] [2] ⟨by first | omega | exact trivial | (dsimp only; omega) | (refine ⟨by omega, ?_⟩; simp_all; try omega), hM⟩ rfl (by show _ - _ < _ - _; (try dsimp only); omega) su (by decide)
    ·
      have h2l : ¬ (i < p0.length) := by have := of_decide_eq_false h2; omega
      have hM := hE.trans ((congrArg (fun n => laws_szSlotS_l1 p0 p1 n v1 i) (show p0.length - i = 0 by omega)).trans (laws_szSlotS_l1.eq_1 _ _ _ _))
      refine ad 6 ?_
      exact rz (rs := [.tmp 4]) (congrArg (fun x => [Re.c (.int .i64 x)]) hM)

/- F118 loop.example/g00974/laws.szJournal -/
def laws_szJournal (p0 : Journal) (p1 : Int) : Int := bif decide ((IntKind.i64.wrap (p1 - (p0.Text.size : Int))) < 0) then (-1) else (IntKind.i64.wrap (p1 - (p0.Text.size : Int)))
theorem c_laws_szJournal (p0 : Journal) (p1 : Int) : CTs 118 [.o (.st Journal _ inferInstance p0), .o (.c (.int .i64 p1))] [Re.c (.int .i64 (laws_szJournal p0 p1))] := by
  refine en Tryz.func118 Tryz.ntmps118 fun w hG hgd => ?_
  obtain ⟨hg_p0, _⟩ := hgd
  have hM := laws_szJournal.eq_1 p0 p1
  refine ad 20 ?_
  refine cd (fun h1 => ?_) (fun h1 => ?_)
  ·
    have hM := hM.trans (bt h1)
    refine ad 4 ?_
    exact rz (rs := [.tmp 4]) (congrArg (fun x => [Re.c (.int .i64 x)]) hM)
  ·
    have hM := hM.trans (bf h1)
    refine ad 6 ?_
    exact rz (rs := [.tmp 4]) (congrArg (fun x => [Re.c (.int .i64 x)]) hM)

/- F45 loop.example/g00974/laws.szDisk -/
def laws_szDisk (p0 : Disk) (p1 : Int) : Int := bif decide ((laws_szSlotS p0.Slots p1) < 0) then (-1) else (bif decide ((laws_szJournal p0.Journal (laws_szSlotS p0.Slots p1)) < 0) then (-1) else (laws_szJournal p0.Journal (laws_szSlotS p0.Slots p1)))
theorem c_laws_szDisk (p0 : Disk) (p1 : Int) : CTs 45 [.o (.st Disk _ inferInstance p0), .o (.c (.int .i64 p1))] [Re.c (.int .i64 (laws_szDisk p0 p1))] := by
  refine en Tryz.func45 Tryz.ntmps45 fun w hG hgd => ?_
  obtain ⟨hg_p0, _⟩ := hgd
  have hM := laws_szDisk.eq_1 p0 p1
  refine ad 10 ?_
  refine op (cl (c_laws_szSlotS p0.Slots p1) fok117) ?_
  refine ad 8 ?_
  refine cd (fun h1 => ?_) (fun h1 => ?_)
  ·
    have hM := hM.trans (bt h1)
    refine ad 4 ?_
    exact rz (rs := [.tmp 4]) (congrArg (fun x => [Re.c (.int .i64 x)]) hM)
  ·
    have hM := hM.trans (bf h1)
    refine ad 6 ?_
    have hg2 : Dat.good (p0.Journal : Journal) := hg_p0.2
    refine op (cl (c_laws_szJournal p0.Journal (laws_szSlotS p0.Slots p1)) fok118) ?_
    refine ad 8 ?_
    refine cd (fun h3 => ?_) (fun h3 => ?_)
    ·
      have hM := hM.trans (bt h3)
      refine ad 4 ?_
      exact rz (rs := [.tmp 4]) (congrArg (fun x => [Re.c (.int .i64 x)]) hM)
    ·
      have hM := hM.trans (bf h3)
      refine ad 6 ?_
      exact rz (rs := [.tmp 4]) (congrArg (fun x => [Re.c (.int .i64 x)]) hM)

/- F202 loop.example/g00974/laws.szStep -/
def laws_szStep (p0 : Step) (p1 : Int) : Int := bif decide ((laws_szCall p0.Call p1) < 0) then (-1) else (laws_szCall p0.Call p1)
theorem c_laws_szStep (p0 : Step) (p1 : Int) : CTs 202 [.o (.st Step _ inferInstance p0), .o (.c (.int .i64 p1))] [Re.c (.int .i64 (laws_szStep p0 p1))] := by
  refine en Tryz.func202 Tryz.ntmps202 fun w hG hgd => ?_
  obtain ⟨hg_p0, _⟩ := hgd
  have hM := laws_szStep.eq_1 p0 p1
  refine ad 10 ?_
  have hg1 : Dat.good (p0.Call : Call) := hg_p0.2
  refine op (cl (c_laws_szCall p0.Call p1) fok200) ?_
  refine ad 8 ?_
  refine cd (fun h2 => ?_) (fun h2 => ?_)
  ·
    have hM := hM.trans (bt h2)
    refine ad 4 ?_
    exact rz (rs := [.tmp 4]) (congrArg (fun x => [Re.c (.int .i64 x)]) hM)
  ·
    have hM := hM.trans (bf h2)
    refine ad 6 ?_
    exact rz (rs := [.tmp 4]) (congrArg (fun x => [Re.c (.int .i64 x)]) hM)

/- F172 loop.example/g00974/laws.szStepS -/
def laws_szStepS_l1 (p0 : List Step) (p1 : Int) : Nat → Int → Nat → Int
  | 0, v1, i => v1
  | n + 1, v1, i => bif decide ((laws_szStep (nth p0 i) v1) < 0) then (-1) else (laws_szStepS_l1 p0 p1 n (laws_szStep (nth p0 i) v1) (i + 1))
def laws_szStepS (p0 : List Step) (p1 : Int) : Int := bif decide ((IntKind.i64.wrap (p1 - (p0.length : Int))) < 0) then (-1) else (laws_szStepS_l1 p0 p1 (p0.length - 0) (IntKind.i64.wrap (p1 - (p0.length : Int))) 0)
theorem c_laws_szStepS (p0 : List Step) (p1 : Int) : CTs 172 [.o (.sl Step instDatStep p0), .o (.c (.int .i64 p1))] [Re.c (.int .i64 (laws_szStepS p0 p1))] := by
  refine en Tryz.func172 Tryz.ntmps172 fun w hG hgd => ?_
  obtain ⟨hg_p0, _⟩ := hgd
  have hl_p0 : p0.length ≤ 9223372036854775807 := hg_p0.1
  have hM := laws_szStepS.eq_1 p0 p1
  refine ad 18 ?_
  refine cd (fun h1 => ?_) (fun h1 => ?_)
  ·
    have hM := hM.trans (bt h1)
    refine ad 4 ?_
    exact rz (rs := [.tmp 4]) (congrArg (fun x => [Re.c (.int .i64 x)]) hM)
  ·
    have hM := hM.trans (bf h1)
    refine ad 7 ?_
    refine Run.loopM (ι := Int × Nat) (fun s => laws_szStepS_l1 p0 p1 (p0.length - s.2) s.1 s.2) (fun s => ⟨27, 1, [(0, .sl 0 p0.length), (1, .v (.int .i64 s.1)), (5, .v (.int .i64 (s.2 : Int)))], [(0, .ros Step instDatStep p0)]⟩) (fun s => s.2 ≤ p0.length) (fun s => p0.length - s.2) (IntKind.i64.wrap (p1 - (p0.length : Int)), 0) [0] [0] hM (by first | exact ⟨by omega, by simp⟩ | omega | simp | (dsimp only; omega)) su (by decide) ?_
    rintro ⟨v1, i⟩ hv hE
    try dsimp only at hE
    have hi := hv
    try dsimp only at hi
    refine ad 8 ?_
    refine cd (fun h2 => ?_) (fun h2 => ?_)
    ·
      have h2l : i < p0.length := by have := of_decide_eq_true h2; omega
      have hM := hE.trans ((congrArg (fun n => laws_szStepS_l1 p0 p1 n v1 i) (show p0.length - i = (p0.length - (i + 1)) + 1 by omega)).trans (laws_szStepS_l1.eq_2 _ _ _ _ _))
      refine ad 7 ?_
      have hg4 := good_nth (k := i) hg_p0 om
      refine op (ix (xs := p0) i om) ?_
      refine ad 2 ?_
      have hg5 : Dat.good (nth p0 i : Step) := hg4
      refine op (cl (c_laws_szStep (nth p0 i) v1) fok202) ?_
      refine ad 7 ?_
      refine cd (fun h6 => ?_) (fun h6 => ?_)
      ·
        have hM := hM.trans (bt h6)
        refine ad 4 ?_
        exact rz (rs := [.tmp 4]) (congrArg (fun x => [Re.c (.int .i64 x)]) hM)
      ·
        have hM := hM.trans (bf h6)
        refine ad 5 ?_
        rw [wrapN (i := i) (by first | omega | exact om)]
        refine ad 2 ?_
        exact Run.again ((laws_szStep (nth p0 i) v1), (i + 1)) [0] [1] ⟨by first | omega | exact trivial | (dsimp only; omega) | (refine ⟨by omega, ?_⟩; simp_all; try omega), hM⟩ rfl (by show _ - _ < _ - _; (try dsimp only); omega) su (by decide)
    ·
      have h2l : ¬ (i < p0.length) := by have := of_decide_eq_false h2; omega
      have hM := hE.trans ((congrArg (fun n => laws_szStepS_l1 p0 p1 n v1 i) (show p0.length - i = 0 by omega)).trans (laws_szStepS_l1.eq_1 _ _ _ _))
      refine ad 6 ?_
      exact rz (rs := [.tmp 4]) (congrArg (fun x => [Re.c (.int .i64 x)]) hM)

/- F119 loop.example/g00974/laws.szEntry -/
def laws_szEntry (p0 : Entry) (p1 : Int) : Int := bif decide ((laws_szStepS p0.Steps p1) < 0) then (-1) else (bif decide ((laws_szAnswerS p0.Answers (laws_szStepS p0.Steps p1)) < 0) then (-1) else (laws_szAnswerS p0.Answers (laws_szStepS p0.Steps p1)))
theorem c_laws_szEntry (p0 : Entry) (p1 : Int) : CTs 119 [.o (.st Entry _ inferInstance p0), .o (.c (.int .i64 p1))] [Re.c (.int .i64 (laws_szEntry p0 p1))] := by
  refine en Tryz.func119 Tryz.ntmps119 fun w hG hgd => ?_
  obtain ⟨hg_p0, _⟩ := hgd
  have hM := laws_szEntry.eq_1 p0 p1
  refine ad 10 ?_
  refine op (cl (c_laws_szStepS p0.Steps p1) fok172) ?_
  refine ad 8 ?_
  refine cd (fun h1 => ?_) (fun h1 => ?_)
  ·
    have hM := hM.trans (bt h1)
    refine ad 4 ?_
    exact rz (rs := [.tmp 4]) (congrArg (fun x => [Re.c (.int .i64 x)]) hM)
  ·
    have hM := hM.trans (bf h1)
    refine ad 6 ?_
    refine op (cl (c_laws_szAnswerS p0.Answers (laws_szStepS p0.Steps p1)) fok168) ?_
    refine ad 8 ?_
    refine cd (fun h2 => ?_) (fun h2 => ?_)
    ·
      have hM := hM.trans (bt h2)
      refine ad 4 ?_
      exact rz (rs := [.tmp 4]) (congrArg (fun x => [Re.c (.int .i64 x)]) hM)
    ·
      have hM := hM.trans (bf h2)
      refine ad 6 ?_
      exact rz (rs := [.tmp 4]) (congrArg (fun x => [Re.c (.int .i64 x)]) hM)

/- F46 loop.example/g00974/laws.szEntryS -/
def laws_szEntryS_l1 (p0 : List Entry) (p1 : Int) : Nat → Int → Nat → Int
  | 0, v1, i => v1
  | n + 1, v1, i => bif decide ((laws_szEntry (nth p0 i) v1) < 0) then (-1) else (laws_szEntryS_l1 p0 p1 n (laws_szEntry (nth p0 i) v1) (i + 1))
def laws_szEntryS (p0 : List Entry) (p1 : Int) : Int := bif decide ((IntKind.i64.wrap (p1 - (p0.length : Int))) < 0) then (-1) else (laws_szEntryS_l1 p0 p1 (p0.length - 0) (IntKind.i64.wrap (p1 - (p0.length : Int))) 0)
theorem c_laws_szEntryS (p0 : List Entry) (p1 : Int) : CTs 46 [.o (.sl Entry instDatEntry p0), .o (.c (.int .i64 p1))] [Re.c (.int .i64 (laws_szEntryS p0 p1))] := by
  refine en Tryz.func46 Tryz.ntmps46 fun w hG hgd => ?_
  obtain ⟨hg_p0, _⟩ := hgd
  have hl_p0 : p0.length ≤ 9223372036854775807 := hg_p0.1
  have hM := laws_szEntryS.eq_1 p0 p1
  refine ad 18 ?_
  refine cd (fun h1 => ?_) (fun h1 => ?_)
  ·
    have hM := hM.trans (bt h1)
    refine ad 4 ?_
    exact rz (rs := [.tmp 4]) (congrArg (fun x => [Re.c (.int .i64 x)]) hM)
  ·
    have hM := hM.trans (bf h1)
    refine ad 7 ?_
    refine Run.loopM (ι := Int × Nat) (fun s => laws_szEntryS_l1 p0 p1 (p0.length - s.2) s.1 s.2) (fun s => ⟨27, 1, [(0, .sl 0 p0.length), (1, .v (.int .i64 s.1)), (5, .v (.int .i64 (s.2 : Int)))], [(0, .ros Entry instDatEntry p0)]⟩) (fun s => s.2 ≤ p0.length) (fun s => p0.length - s.2) (IntKind.i64.wrap (p1 - (p0.length : Int)), 0) [0] [0] hM (by first | exact ⟨by omega, by simp⟩ | omega | simp | (dsimp only; omega)) su (by decide) ?_
    rintro ⟨v1, i⟩ hv hE
    try dsimp only at hE
    have hi := hv
    try dsimp only at hi
    refine ad 8 ?_
    refine cd (fun h2 => ?_) (fun h2 => ?_)
    ·
      have h2l : i < p0.length := by have := of_decide_eq_true h2; omega
      have hM := hE.trans ((congrArg (fun n => laws_szEntryS_l1 p0 p1 n v1 i) (show p0.length - i = (p0.length - (i + 1)) + 1 by omega)).trans (laws_szEntryS_l1.eq_2 _ _ _ _ _))
      refine ad 7 ?_
      have hg4 := good_nth (k := i) hg_p0 om
      refine op (ix (xs := p0) i om) ?_
      refine ad 2 ?_
      have hg5 : Dat.good (nth p0 i : Entry) := hg4
      refine op (cl (c_laws_szEntry (nth p0 i) v1) fok119) ?_
      refine ad 7 ?_
      refine cd (fun h6 => ?_) (fun h6 => ?_)
      ·
        have hM := hM.trans (bt h6)
        refine ad 4 ?_
        exact rz (rs := [.tmp 4]) (congrArg (fun x => [Re.c (.int .i64 x)]) hM)
      ·
        have hM := hM.trans (bf h6)
        refine ad 5 ?_
        rw [wrapN (i := i) (by first | omega | exact om)]
        refine ad 2 ?_
        exact Run.again ((laws_szEntry (nth p0 i) v1), (i + 1)) [0] [3] ⟨by first | omega | exact trivial | (dsimp only; omega) | (refine ⟨by omega, ?_⟩; simp_all; try omega), hM⟩ rfl (by show _ - _ < _ - _; (try dsimp only); omega) su (by decide)
    ·
      have h2l : ¬ (i < p0.length) := by have := of_decide_eq_false h2; omega
      have hM := hE.trans ((congrArg (fun n => laws_szEntryS_l1 p0 p1 n v1 i) (show p0.length - i = 0 by omega)).trans (laws_szEntryS_l1.eq_1 _ _ _ _))
      refine ad 6 ?_
      exact rz (rs := [.tmp 4]) (congrArg (fun x => [Re.c (.int .i64 x)]) hM)

/- F8 loop.example/g00974/laws.szKernel -/
def laws_szKernel (p0 : Kernel) (p1 : Int) : Int := bif decide ((laws_szCellS p0.Store p1) < 0) then (-1) else (bif decide ((laws_szTxS p0.Txs (laws_szCellS p0.Store p1)) < 0) then (-1) else (bif decide ((laws_szDisk p0.Disk (laws_szTxS p0.Txs (laws_szCellS p0.Store p1))) < 0) then (-1) else (bif decide ((laws_szEntryS p0.History (laws_szDisk p0.Disk (laws_szTxS p0.Txs (laws_szCellS p0.Store p1)))) < 0) then (-1) else (bif decide ((laws_szStringS p0.Seen (laws_szEntryS p0.History (laws_szDisk p0.Disk (laws_szTxS p0.Txs (laws_szCellS p0.Store p1))))) < 0) then (-1) else (laws_szStringS p0.Seen (laws_szEntryS p0.History (laws_szDisk p0.Disk (laws_szTxS p0.Txs (laws_szCellS p0.Store p1)))))))))
theorem c_laws_szKernel (p0 : Kernel) (p1 : Int) : CTs 8 [.o (.st Kernel _ inferInstance p0), .o (.c (.int .i64 p1))] [Re.c (.int .i64 (laws_szKernel p0 p1))] := by
  refine en Tryz.func8 Tryz.ntmps8 fun w hG hgd => ?_
  obtain ⟨hg_p0, _⟩ := hgd
  have hM := laws_szKernel.eq_1 p0 p1
  refine ad 10 ?_
  refine op (cl (c_laws_szCellS p0.Store p1) fok43) ?_
  refine ad 8 ?_
  refine cd (fun h1 => ?_) (fun h1 => ?_)
  ·
    have hM := hM.trans (bt h1)
    refine ad 4 ?_
    exact rz (rs := [.tmp 4]) (congrArg (fun x => [Re.c (.int .i64 x)]) hM)
  ·
    have hM := hM.trans (bf h1)
    refine ad 6 ?_
    refine op (cl (c_laws_szTxS p0.Txs (laws_szCellS p0.Store p1)) fok44) ?_
    refine ad 8 ?_
    refine cd (fun h2 => ?_) (fun h2 => ?_)
    ·
      have hM := hM.trans (bt h2)
      refine ad 4 ?_
      exact rz (rs := [.tmp 4]) (congrArg (fun x => [Re.c (.int .i64 x)]) hM)
    ·
      have hM := hM.trans (bf h2)
      refine ad 6 ?_
      have hg3 : Dat.good (p0.Disk : Disk) := hg_p0.2.2.1
      refine op (cl (c_laws_szDisk p0.Disk (laws_szTxS p0.Txs (laws_szCellS p0.Store p1))) fok45) ?_
      refine ad 8 ?_
      refine cd (fun h4 => ?_) (fun h4 => ?_)
      ·
        have hM := hM.trans (bt h4)
        refine ad 4 ?_
        exact rz (rs := [.tmp 4]) (congrArg (fun x => [Re.c (.int .i64 x)]) hM)
      ·
        have hM := hM.trans (bf h4)
        refine ad 6 ?_
        refine op (cl (c_laws_szEntryS p0.History (laws_szDisk p0.Disk (laws_szTxS p0.Txs (laws_szCellS p0.Store p1)))) fok46) ?_
        refine ad 8 ?_
        refine cd (fun h5 => ?_) (fun h5 => ?_)
        ·
          have hM := hM.trans (bt h5)
          refine ad 4 ?_
          exact rz (rs := [.tmp 4]) (congrArg (fun x => [Re.c (.int .i64 x)]) hM)
        ·
          have hM := hM.trans (bf h5)
          refine ad 6 ?_
          refine op (cl (c_laws_szStringS p0.Seen (laws_szEntryS p0.History (laws_szDisk p0.Disk (laws_szTxS p0.Txs (laws_szCellS p0.Store p1))))) fok47) ?_
          refine ad 8 ?_
          refine cd (fun h6 => ?_) (fun h6 => ?_)
          ·
            have hM := hM.trans (bt h6)
            refine ad 4 ?_
            exact rz (rs := [.tmp 4]) (congrArg (fun x => [Re.c (.int .i64 x)]) hM)
          ·
            have hM := hM.trans (bf h6)
            refine ad 6 ?_
            exact rz (rs := [.tmp 4]) (congrArg (fun x => [Re.c (.int .i64 x)]) hM)

end Go.Proofs.YtnjidaonbcbphaaGreatDoor.Fw
/-
  What is measured is small. No condition.
-/
namespace Go.Proofs.YtnjidaonbcbphaaGreatDoor.Fw
open Go.RowKit
set_option linter.unusedVariables false
set_option linter.unusedSimpArgs false
set_option maxRecDepth 100000

/-! ## Lists, generally -/
theorem nth_of {α : Type} [Inhabited α] {xs : List α} {i : Nat} {x : α} (h : xs[i]? = some x) : nth xs i = x := by
  simp [nth, List.getD_eq_getElem?_getD, h]
def szL {α : Type} [Inhabited α] (f : α → Int → Int) (xs : List α) : Nat → Int → Nat → Int
  | 0, s, _ => s
  | n + 1, s, i => bif decide (f (nth xs i) s < 0) then (-1) else szL f xs n (f (nth xs i) s) (i + 1)
theorem szL_small {α : Type} [Inhabited α] [Dat α] {f : α → Int → Int} {xs : List α} (hf : ∀ x s, 0 ≤ s → s ≤ 1048576 → Dat.good x → ¬ f x s < 0 → Dat.small 1048576 x ∧ 0 ≤ f x s ∧ f x s ≤ 1048576) (hg : ∀ x ∈ xs, Dat.good x) :
    ∀ (n : Nat) (s : Int) (i : Nat), n = xs.length - i → 0 ≤ s → s ≤ 1048576 → ¬ szL f xs n s i < 0 → (∀ j x, i ≤ j → xs[j]? = some x → Dat.small 1048576 x) ∧ 0 ≤ szL f xs n s i ∧ szL f xs n s i ≤ 1048576 := by
  intro n
  induction n with
  | zero =>
    intro s i hn h0 h1 _
    refine ⟨fun j x hj hx => ?_, h0, h1⟩
    have := (List.getElem?_eq_some_iff.1 hx).1
    omega
  | succ n ih =>
    intro s i hn h0 h1 h
    unfold szL at h ⊢
    by_cases hc : f (nth xs i) s < 0
    · rw [decide_eq_true hc] at h
      exact absurd (show ((-1 : Int)) < 0 by decide) h
    · rw [decide_eq_false hc] at h ⊢
      have hi : i < xs.length := by omega
      have hx : xs[i]? = some xs[i] := List.getElem?_eq_getElem hi
      have hgi : Dat.good (nth xs i) := by rw [nth_of hx]; exact hg _ (List.getElem_mem hi)
      obtain ⟨h2, h3, h4⟩ := hf _ _ h0 h1 hgi hc
      obtain ⟨h5, h6, h7⟩ := ih _ (i + 1) (by omega) h3 h4 h
      refine ⟨fun j x hj hjx => ?_, h6, h7⟩
      by_cases e : j = i
      · subst e
        rw [← nth_of hjx]
        exact h2
      · exact h5 j x (by omega) hjx
theorem good_str {s : ByteArray} (h : Dat.good s) : s.size ≤ 9223372036854775807 := by
  have h' : s.size ≤ maxLen := h
  unfold maxLen at h'
  omega
theorem wrap_sub {a : Int} {n : Nat} (h0 : 0 ≤ a) (h1 : a ≤ 1048576) (hn : n ≤ 9223372036854775807) : IntKind.i64.wrap (a - (n : Int)) = a - n := IntWalk.i64_in _ (by omega)
def laws_szString (x : ByteArray) (s : Int) : Int := IntKind.i64.wrap (s - (x.size : Int))
theorem laws_szString_small (p0 : ByteArray) (p1 : Int) (h0 : 0 ≤ p1) (h1 : p1 ≤ 1048576) (hg : Dat.good p0) (h : ¬ laws_szString p0 p1 < 0) : Dat.small 1048576 p0 ∧ 0 ≤ laws_szString p0 p1 ∧ laws_szString p0 p1 ≤ 1048576 := by
  unfold laws_szString at h ⊢
  rw [wrap_sub h0 h1 (good_str hg)] at h ⊢
  have e : p0.size ≤ 1048576 := by omega
  exact ⟨e, by omega, by omega⟩
theorem no_neg {a : Int} {x : Int} (h : ¬ (bif decide (a < 0) then (-1 : Int) else x) < 0) : ¬ a < 0 := fun hc => h (by rw [decide_eq_true hc]; show (-1 : Int) < 0; decide)
theorem laws_szCell_small (p0 : Cell) (p1 : Int) (h0 : 0 ≤ p1) (h1 : p1 ≤ 1048576) (hg : Dat.good p0) (h : ¬ laws_szCell p0 p1 < 0) : Dat.small 1048576 p0 ∧ 0 ≤ laws_szCell p0 p1 ∧ laws_szCell p0 p1 ≤ 1048576 := by
  unfold laws_szCell at h ⊢
  obtain ⟨g0, g1⟩ := hg
  rw [wrap_sub (a := p1) h0 h1 (n := p0.Key.size) (good_str g0)] at h ⊢
  have c1 : ¬ (p1 - (p0.Key.size : Int)) < 0 := no_neg h
  rw [decide_eq_false c1, cond_false] at h ⊢
  have b1 : 0 ≤ (p1 - (p0.Key.size : Int)) := by omega
  have e1 : (p1 - (p0.Key.size : Int)) ≤ 1048576 := by omega
  have s0 : p0.Key.size ≤ 1048576 := by omega
  rw [wrap_sub (a := (p1 - (p0.Key.size : Int))) b1 e1 (n := p0.Val.size) (good_str g1)] at h ⊢
  have c2 : ¬ ((p1 - (p0.Key.size : Int)) - (p0.Val.size : Int)) < 0 := no_neg h
  rw [decide_eq_false c2, cond_false] at h ⊢
  have b2 : 0 ≤ ((p1 - (p0.Key.size : Int)) - (p0.Val.size : Int)) := by omega
  have e2 : ((p1 - (p0.Key.size : Int)) - (p0.Val.size : Int)) ≤ 1048576 := by omega
  have s1 : p0.Val.size ≤ 1048576 := by omega
  exact ⟨⟨s0, s1⟩, b2, e2⟩
theorem laws_szCellS_l1_eq (p0 : List Cell) (p1 : Int) : ∀ n s i, laws_szCellS_l1 p0 p1 n s i = szL laws_szCell p0 n s i := by
  intro n
  induction n with
  | zero => intro s i; rfl
  | succ n ih => intro s i; rw [laws_szCellS_l1, szL, ih]
theorem laws_szCellS_small (p0 : List Cell) (p1 : Int) (h0 : 0 ≤ p1) (h1 : p1 ≤ 1048576) (hg : Dat.good p0) (h : ¬ laws_szCellS p0 p1 < 0) : Dat.small 1048576 p0 ∧ 0 ≤ laws_szCellS p0 p1 ∧ laws_szCellS p0 p1 ≤ 1048576 := by
  unfold laws_szCellS at h ⊢
  rw [wrap_sub h0 h1 hg.1] at h ⊢
  have hc := no_neg h
  rw [decide_eq_false hc, cond_false, laws_szCellS_l1_eq] at h ⊢
  obtain ⟨h2, h3, h4⟩ := szL_small (f := laws_szCell) (xs := p0) laws_szCell_small hg.2 _ _ 0 rfl (by omega) (by omega) h
  refine ⟨⟨by omega, fun x hx => ?_⟩, h3, h4⟩
  obtain ⟨j, hj⟩ := List.getElem?_of_mem hx
  exact h2 j x (Nat.zero_le _) hj
theorem laws_szCall_small (p0 : Call) (p1 : Int) (h0 : 0 ≤ p1) (h1 : p1 ≤ 1048576) (hg : Dat.good p0) (h : ¬ laws_szCall p0 p1 < 0) : Dat.small 1048576 p0 ∧ 0 ≤ laws_szCall p0 p1 ∧ laws_szCall p0 p1 ≤ 1048576 := by
  unfold laws_szCall at h ⊢
  obtain ⟨g0, g1, g2, g3, g4, g5⟩ := hg
  rw [wrap_sub (a := p1) h0 h1 (n := p0.Name.size) (good_str g1)] at h ⊢
  have c1 : ¬ (p1 - (p0.Name.size : Int)) < 0 := no_neg h
  rw [decide_eq_false c1, cond_false] at h ⊢
  have b1 : 0 ≤ (p1 - (p0.Name.size : Int)) := by omega
  have e1 : (p1 - (p0.Name.size : Int)) ≤ 1048576 := by omega
  have s1 : p0.Name.size ≤ 1048576 := by omega
  rw [wrap_sub (a := (p1 - (p0.Name.size : Int))) b1 e1 (n := p0.To.size) (good_str g2)] at h ⊢
  have c2 : ¬ ((p1 - (p0.Name.size : Int)) - (p0.To.size : Int)) < 0 := no_neg h
  rw [decide_eq_false c2, cond_false] at h ⊢
  have b2 : 0 ≤ ((p1 - (p0.Name.size : Int)) - (p0.To.size : Int)) := by omega
  have e2 : ((p1 - (p0.Name.size : Int)) - (p0.To.size : Int)) ≤ 1048576 := by omega
  have s2 : p0.To.size ≤ 1048576 := by omega
  rw [wrap_sub (a := ((p1 - (p0.Name.size : Int)) - (p0.To.size : Int))) b2 e2 (n := p0.Text.size) (good_str g5)] at h ⊢
  have c3 : ¬ (((p1 - (p0.Name.size : Int)) - (p0.To.size : Int)) - (p0.Text.size : Int)) < 0 := no_neg h
  rw [decide_eq_false c3, cond_false] at h ⊢
  have b3 : 0 ≤ (((p1 - (p0.Name.size : Int)) - (p0.To.size : Int)) - (p0.Text.size : Int)) := by omega
  have e3 : (((p1 - (p0.Name.size : Int)) - (p0.To.size : Int)) - (p0.Text.size : Int)) ≤ 1048576 := by omega
  have s5 : p0.Text.size ≤ 1048576 := by omega
  exact ⟨⟨trivial, s1, s2, trivial, trivial, s5⟩, b3, e3⟩
theorem laws_szCallS_l1_eq (p0 : List Call) (p1 : Int) : ∀ n s i, laws_szCallS_l1 p0 p1 n s i = szL laws_szCall p0 n s i := by
  intro n
  induction n with
  | zero => intro s i; rfl
  | succ n ih => intro s i; rw [laws_szCallS_l1, szL, ih]
theorem laws_szCallS_small (p0 : List Call) (p1 : Int) (h0 : 0 ≤ p1) (h1 : p1 ≤ 1048576) (hg : Dat.good p0) (h : ¬ laws_szCallS p0 p1 < 0) : Dat.small 1048576 p0 ∧ 0 ≤ laws_szCallS p0 p1 ∧ laws_szCallS p0 p1 ≤ 1048576 := by
  unfold laws_szCallS at h ⊢
  rw [wrap_sub h0 h1 hg.1] at h ⊢
  have hc := no_neg h
  rw [decide_eq_false hc, cond_false, laws_szCallS_l1_eq] at h ⊢
  obtain ⟨h2, h3, h4⟩ := szL_small (f := laws_szCall) (xs := p0) laws_szCall_small hg.2 _ _ 0 rfl (by omega) (by omega) h
  refine ⟨⟨by omega, fun x hx => ?_⟩, h3, h4⟩
  obtain ⟨j, hj⟩ := List.getElem?_of_mem hx
  exact h2 j x (Nat.zero_le _) hj
theorem laws_szAnswer_small (p0 : Answer) (p1 : Int) (h0 : 0 ≤ p1) (h1 : p1 ≤ 1048576) (hg : Dat.good p0) (h : ¬ laws_szAnswer p0 p1 < 0) : Dat.small 1048576 p0 ∧ 0 ≤ laws_szAnswer p0 p1 ∧ laws_szAnswer p0 p1 ≤ 1048576 := by
  unfold laws_szAnswer at h ⊢
  obtain ⟨g0, g1, g2⟩ := hg
  rw [wrap_sub (a := p1) h0 h1 (n := p0.Text.size) (good_str g2)] at h ⊢
  have c1 : ¬ (p1 - (p0.Text.size : Int)) < 0 := no_neg h
  rw [decide_eq_false c1, cond_false] at h ⊢
  have b1 : 0 ≤ (p1 - (p0.Text.size : Int)) := by omega
  have e1 : (p1 - (p0.Text.size : Int)) ≤ 1048576 := by omega
  have s2 : p0.Text.size ≤ 1048576 := by omega
  exact ⟨⟨trivial, trivial, s2⟩, b1, e1⟩
theorem laws_szAnswerS_l1_eq (p0 : List Answer) (p1 : Int) : ∀ n s i, laws_szAnswerS_l1 p0 p1 n s i = szL laws_szAnswer p0 n s i := by
  intro n
  induction n with
  | zero => intro s i; rfl
  | succ n ih => intro s i; rw [laws_szAnswerS_l1, szL, ih]
theorem laws_szAnswerS_small (p0 : List Answer) (p1 : Int) (h0 : 0 ≤ p1) (h1 : p1 ≤ 1048576) (hg : Dat.good p0) (h : ¬ laws_szAnswerS p0 p1 < 0) : Dat.small 1048576 p0 ∧ 0 ≤ laws_szAnswerS p0 p1 ∧ laws_szAnswerS p0 p1 ≤ 1048576 := by
  unfold laws_szAnswerS at h ⊢
  rw [wrap_sub h0 h1 hg.1] at h ⊢
  have hc := no_neg h
  rw [decide_eq_false hc, cond_false, laws_szAnswerS_l1_eq] at h ⊢
  obtain ⟨h2, h3, h4⟩ := szL_small (f := laws_szAnswer) (xs := p0) laws_szAnswer_small hg.2 _ _ 0 rfl (by omega) (by omega) h
  refine ⟨⟨by omega, fun x hx => ?_⟩, h3, h4⟩
  obtain ⟨j, hj⟩ := List.getElem?_of_mem hx
  exact h2 j x (Nat.zero_le _) hj
theorem laws_szStringS_l1_eq (p0 : List ByteArray) (p1 : Int) : ∀ n s i, laws_szStringS_l1 p0 p1 n s i = szL laws_szString p0 n s i := by
  intro n
  induction n with
  | zero => intro s i; rfl
  | succ n ih => intro s i; rw [laws_szStringS_l1, szL, ih]; rfl
theorem laws_szStringS_small (p0 : List ByteArray) (p1 : Int) (h0 : 0 ≤ p1) (h1 : p1 ≤ 1048576) (hg : Dat.good p0) (h : ¬ laws_szStringS p0 p1 < 0) : Dat.small 1048576 p0 ∧ 0 ≤ laws_szStringS p0 p1 ∧ laws_szStringS p0 p1 ≤ 1048576 := by
  unfold laws_szStringS at h ⊢
  rw [wrap_sub h0 h1 hg.1] at h ⊢
  have hc := no_neg h
  rw [decide_eq_false hc, cond_false, laws_szStringS_l1_eq] at h ⊢
  obtain ⟨h2, h3, h4⟩ := szL_small (f := laws_szString) (xs := p0) laws_szString_small hg.2 _ _ 0 rfl (by omega) (by omega) h
  refine ⟨⟨by omega, fun x hx => ?_⟩, h3, h4⟩
  obtain ⟨j, hj⟩ := List.getElem?_of_mem hx
  exact h2 j x (Nat.zero_le _) hj
theorem laws_szTouch_small (p0 : Touch) (p1 : Int) (h0 : 0 ≤ p1) (h1 : p1 ≤ 1048576) (hg : Dat.good p0) (h : ¬ laws_szTouch p0 p1 < 0) : Dat.small 1048576 p0 ∧ 0 ≤ laws_szTouch p0 p1 ∧ laws_szTouch p0 p1 ≤ 1048576 := by
  unfold laws_szTouch at h ⊢
  obtain ⟨g0, g1⟩ := hg
  have c1 : ¬ (laws_szStringS p0.Reads p1) < 0 := no_neg h
  rw [decide_eq_false c1, cond_false] at h ⊢
  obtain ⟨s0, b1, e1⟩ := laws_szStringS_small p0.Reads p1 h0 h1 g0 c1
  have c2 : ¬ (laws_szStringS p0.Writes (laws_szStringS p0.Reads p1)) < 0 := no_neg h
  rw [decide_eq_false c2, cond_false] at h ⊢
  obtain ⟨s1, b2, e2⟩ := laws_szStringS_small p0.Writes (laws_szStringS p0.Reads p1) b1 e1 g1 c2
  exact ⟨⟨s0, s1⟩, b2, e2⟩
theorem laws_szIntS_small (p0 : List Int) (p1 : Int) (h0 : 0 ≤ p1) (h1 : p1 ≤ 1048576) (hg : Dat.good p0) (h : ¬ laws_szIntS p0 p1 < 0) : Dat.small 1048576 p0 ∧ 0 ≤ laws_szIntS p0 p1 ∧ laws_szIntS p0 p1 ≤ 1048576 := by
  unfold laws_szIntS at h ⊢
  rw [wrap_sub h0 h1 hg.1] at h ⊢
  have hc := no_neg h
  rw [decide_eq_false hc] at h ⊢
  exact ⟨⟨by omega, fun _ _ => trivial⟩, by show 0 ≤ p1 - (p0.length : Int); omega, by show p1 - (p0.length : Int) ≤ 1048576; omega⟩
theorem laws_szTx_small (p0 : Tx) (p1 : Int) (h0 : 0 ≤ p1) (h1 : p1 ≤ 1048576) (hg : Dat.good p0) (h : ¬ laws_szTx p0 p1 < 0) : Dat.small 1048576 p0 ∧ 0 ≤ laws_szTx p0 p1 ∧ laws_szTx p0 p1 ≤ 1048576 := by
  unfold laws_szTx at h ⊢
  obtain ⟨g0, g1, g2, g3, g4, g5, g6, g7, g8⟩ := hg
  have c1 : ¬ (laws_szCallS p0.Calls p1) < 0 := no_neg h
  rw [decide_eq_false c1, cond_false] at h ⊢
  obtain ⟨s4, b1, e1⟩ := laws_szCallS_small p0.Calls p1 h0 h1 g4 c1
  have c2 : ¬ (laws_szAnswerS p0.Answers (laws_szCallS p0.Calls p1)) < 0 := no_neg h
  rw [decide_eq_false c2, cond_false] at h ⊢
  obtain ⟨s5, b2, e2⟩ := laws_szAnswerS_small p0.Answers (laws_szCallS p0.Calls p1) b1 e1 g5 c2
  have c3 : ¬ (laws_szTouch p0.Touch (laws_szAnswerS p0.Answers (laws_szCallS p0.Calls p1))) < 0 := no_neg h
  rw [decide_eq_false c3, cond_false] at h ⊢
  obtain ⟨s6, b3, e3⟩ := laws_szTouch_small p0.Touch (laws_szAnswerS p0.Answers (laws_szCallS p0.Calls p1)) b2 e2 g6 c3
  have c4 : ¬ (laws_szIntS p0.Marks (laws_szTouch p0.Touch (laws_szAnswerS p0.Answers (laws_szCallS p0.Calls p1)))) < 0 := no_neg h
  rw [decide_eq_false c4, cond_false] at h ⊢
  obtain ⟨s7, b4, e4⟩ := laws_szIntS_small p0.Marks (laws_szTouch p0.Touch (laws_szAnswerS p0.Answers (laws_szCallS p0.Calls p1))) b3 e3 g7 c4
  exact ⟨⟨trivial, trivial, trivial, trivial, s4, s5, s6, s7, trivial⟩, b4, e4⟩
theorem laws_szTxS_l1_eq (p0 : List Tx) (p1 : Int) : ∀ n s i, laws_szTxS_l1 p0 p1 n s i = szL laws_szTx p0 n s i := by
  intro n
  induction n with
  | zero => intro s i; rfl
  | succ n ih => intro s i; rw [laws_szTxS_l1, szL, ih]
theorem laws_szTxS_small (p0 : List Tx) (p1 : Int) (h0 : 0 ≤ p1) (h1 : p1 ≤ 1048576) (hg : Dat.good p0) (h : ¬ laws_szTxS p0 p1 < 0) : Dat.small 1048576 p0 ∧ 0 ≤ laws_szTxS p0 p1 ∧ laws_szTxS p0 p1 ≤ 1048576 := by
  unfold laws_szTxS at h ⊢
  rw [wrap_sub h0 h1 hg.1] at h ⊢
  have hc := no_neg h
  rw [decide_eq_false hc, cond_false, laws_szTxS_l1_eq] at h ⊢
  obtain ⟨h2, h3, h4⟩ := szL_small (f := laws_szTx) (xs := p0) laws_szTx_small hg.2 _ _ 0 rfl (by omega) (by omega) h
  refine ⟨⟨by omega, fun x hx => ?_⟩, h3, h4⟩
  obtain ⟨j, hj⟩ := List.getElem?_of_mem hx
  exact h2 j x (Nat.zero_le _) hj
theorem laws_szSlot_small (p0 : Slot) (p1 : Int) (h0 : 0 ≤ p1) (h1 : p1 ≤ 1048576) (hg : Dat.good p0) (h : ¬ laws_szSlot p0 p1 < 0) : Dat.small 1048576 p0 ∧ 0 ≤ laws_szSlot p0 p1 ∧ laws_szSlot p0 p1 ≤ 1048576 := by
  unfold laws_szSlot at h ⊢
  obtain ⟨g0, g1, g2⟩ := hg
  have c1 : ¬ (laws_szCellS p0.Cells p1) < 0 := no_neg h
  rw [decide_eq_false c1, cond_false] at h ⊢
  obtain ⟨s1, b1, e1⟩ := laws_szCellS_small p0.Cells p1 h0 h1 g1 c1
  exact ⟨⟨trivial, s1, trivial⟩, b1, e1⟩
theorem laws_szSlotS_l1_eq (p0 : List Slot) (p1 : Int) : ∀ n s i, laws_szSlotS_l1 p0 p1 n s i = szL laws_szSlot p0 n s i := by
  intro n
  induction n with
  | zero => intro s i; rfl
  | succ n ih => intro s i; rw [laws_szSlotS_l1, szL, ih]
theorem laws_szSlotS_small (p0 : List Slot) (p1 : Int) (h0 : 0 ≤ p1) (h1 : p1 ≤ 1048576) (hg : Dat.good p0) (h : ¬ laws_szSlotS p0 p1 < 0) : Dat.small 1048576 p0 ∧ 0 ≤ laws_szSlotS p0 p1 ∧ laws_szSlotS p0 p1 ≤ 1048576 := by
  unfold laws_szSlotS at h ⊢
  rw [wrap_sub h0 h1 hg.1] at h ⊢
  have hc := no_neg h
  rw [decide_eq_false hc, cond_false, laws_szSlotS_l1_eq] at h ⊢
  obtain ⟨h2, h3, h4⟩ := szL_small (f := laws_szSlot) (xs := p0) laws_szSlot_small hg.2 _ _ 0 rfl (by omega) (by omega) h
  refine ⟨⟨by omega, fun x hx => ?_⟩, h3, h4⟩
  obtain ⟨j, hj⟩ := List.getElem?_of_mem hx
  exact h2 j x (Nat.zero_le _) hj
theorem laws_szJournal_small (p0 : Journal) (p1 : Int) (h0 : 0 ≤ p1) (h1 : p1 ≤ 1048576) (hg : Dat.good p0) (h : ¬ laws_szJournal p0 p1 < 0) : Dat.small 1048576 p0 ∧ 0 ≤ laws_szJournal p0 p1 ∧ laws_szJournal p0 p1 ≤ 1048576 := by
  unfold laws_szJournal at h ⊢
  obtain ⟨g0, g1⟩ := hg
  rw [wrap_sub (a := p1) h0 h1 (n := p0.Text.size) (good_str g0)] at h ⊢
  have c1 : ¬ (p1 - (p0.Text.size : Int)) < 0 := no_neg h
  rw [decide_eq_false c1, cond_false] at h ⊢
  have b1 : 0 ≤ (p1 - (p0.Text.size : Int)) := by omega
  have e1 : (p1 - (p0.Text.size : Int)) ≤ 1048576 := by omega
  have s0 : p0.Text.size ≤ 1048576 := by omega
  exact ⟨⟨s0, trivial⟩, b1, e1⟩
theorem laws_szDisk_small (p0 : Disk) (p1 : Int) (h0 : 0 ≤ p1) (h1 : p1 ≤ 1048576) (hg : Dat.good p0) (h : ¬ laws_szDisk p0 p1 < 0) : Dat.small 1048576 p0 ∧ 0 ≤ laws_szDisk p0 p1 ∧ laws_szDisk p0 p1 ≤ 1048576 := by
  unfold laws_szDisk at h ⊢
  obtain ⟨g0, g1⟩ := hg
  have c1 : ¬ (laws_szSlotS p0.Slots p1) < 0 := no_neg h
  rw [decide_eq_false c1, cond_false] at h ⊢
  obtain ⟨s0, b1, e1⟩ := laws_szSlotS_small p0.Slots p1 h0 h1 g0 c1
  have c2 : ¬ (laws_szJournal p0.Journal (laws_szSlotS p0.Slots p1)) < 0 := no_neg h
  rw [decide_eq_false c2, cond_false] at h ⊢
  obtain ⟨s1, b2, e2⟩ := laws_szJournal_small p0.Journal (laws_szSlotS p0.Slots p1) b1 e1 g1 c2
  exact ⟨⟨s0, s1⟩, b2, e2⟩
theorem laws_szStep_small (p0 : Step) (p1 : Int) (h0 : 0 ≤ p1) (h1 : p1 ≤ 1048576) (hg : Dat.good p0) (h : ¬ laws_szStep p0 p1 < 0) : Dat.small 1048576 p0 ∧ 0 ≤ laws_szStep p0 p1 ∧ laws_szStep p0 p1 ≤ 1048576 := by
  unfold laws_szStep at h ⊢
  obtain ⟨g0, g1⟩ := hg
  have c1 : ¬ (laws_szCall p0.Call p1) < 0 := no_neg h
  rw [decide_eq_false c1, cond_false] at h ⊢
  obtain ⟨s1, b1, e1⟩ := laws_szCall_small p0.Call p1 h0 h1 g1 c1
  exact ⟨⟨trivial, s1⟩, b1, e1⟩
theorem laws_szStepS_l1_eq (p0 : List Step) (p1 : Int) : ∀ n s i, laws_szStepS_l1 p0 p1 n s i = szL laws_szStep p0 n s i := by
  intro n
  induction n with
  | zero => intro s i; rfl
  | succ n ih => intro s i; rw [laws_szStepS_l1, szL, ih]
theorem laws_szStepS_small (p0 : List Step) (p1 : Int) (h0 : 0 ≤ p1) (h1 : p1 ≤ 1048576) (hg : Dat.good p0) (h : ¬ laws_szStepS p0 p1 < 0) : Dat.small 1048576 p0 ∧ 0 ≤ laws_szStepS p0 p1 ∧ laws_szStepS p0 p1 ≤ 1048576 := by
  unfold laws_szStepS at h ⊢
  rw [wrap_sub h0 h1 hg.1] at h ⊢
  have hc := no_neg h
  rw [decide_eq_false hc, cond_false, laws_szStepS_l1_eq] at h ⊢
  obtain ⟨h2, h3, h4⟩ := szL_small (f := laws_szStep) (xs := p0) laws_szStep_small hg.2 _ _ 0 rfl (by omega) (by omega) h
  refine ⟨⟨by omega, fun x hx => ?_⟩, h3, h4⟩
  obtain ⟨j, hj⟩ := List.getElem?_of_mem hx
  exact h2 j x (Nat.zero_le _) hj
theorem laws_szEntry_small (p0 : Entry) (p1 : Int) (h0 : 0 ≤ p1) (h1 : p1 ≤ 1048576) (hg : Dat.good p0) (h : ¬ laws_szEntry p0 p1 < 0) : Dat.small 1048576 p0 ∧ 0 ≤ laws_szEntry p0 p1 ∧ laws_szEntry p0 p1 ≤ 1048576 := by
  unfold laws_szEntry at h ⊢
  obtain ⟨g0, g1, g2, g3, g4, g5, g6, g7⟩ := hg
  have c1 : ¬ (laws_szStepS p0.Steps p1) < 0 := no_neg h
  rw [decide_eq_false c1, cond_false] at h ⊢
  obtain ⟨s3, b1, e1⟩ := laws_szStepS_small p0.Steps p1 h0 h1 g3 c1
  have c2 : ¬ (laws_szAnswerS p0.Answers (laws_szStepS p0.Steps p1)) < 0 := no_neg h
  rw [decide_eq_false c2, cond_false] at h ⊢
  obtain ⟨s4, b2, e2⟩ := laws_szAnswerS_small p0.Answers (laws_szStepS p0.Steps p1) b1 e1 g4 c2
  exact ⟨⟨trivial, trivial, trivial, s3, s4, trivial, trivial, trivial⟩, b2, e2⟩
theorem laws_szEntryS_l1_eq (p0 : List Entry) (p1 : Int) : ∀ n s i, laws_szEntryS_l1 p0 p1 n s i = szL laws_szEntry p0 n s i := by
  intro n
  induction n with
  | zero => intro s i; rfl
  | succ n ih => intro s i; rw [laws_szEntryS_l1, szL, ih]
theorem laws_szEntryS_small (p0 : List Entry) (p1 : Int) (h0 : 0 ≤ p1) (h1 : p1 ≤ 1048576) (hg : Dat.good p0) (h : ¬ laws_szEntryS p0 p1 < 0) : Dat.small 1048576 p0 ∧ 0 ≤ laws_szEntryS p0 p1 ∧ laws_szEntryS p0 p1 ≤ 1048576 := by
  unfold laws_szEntryS at h ⊢
  rw [wrap_sub h0 h1 hg.1] at h ⊢
  have hc := no_neg h
  rw [decide_eq_false hc, cond_false, laws_szEntryS_l1_eq] at h ⊢
  obtain ⟨h2, h3, h4⟩ := szL_small (f := laws_szEntry) (xs := p0) laws_szEntry_small hg.2 _ _ 0 rfl (by omega) (by omega) h
  refine ⟨⟨by omega, fun x hx => ?_⟩, h3, h4⟩
  obtain ⟨j, hj⟩ := List.getElem?_of_mem hx
  exact h2 j x (Nat.zero_le _) hj
theorem laws_szKernel_small (p0 : Kernel) (p1 : Int) (h0 : 0 ≤ p1) (h1 : p1 ≤ 1048576) (hg : Dat.good p0) (h : ¬ laws_szKernel p0 p1 < 0) : Dat.small 1048576 p0 ∧ 0 ≤ laws_szKernel p0 p1 ∧ laws_szKernel p0 p1 ≤ 1048576 := by
  unfold laws_szKernel at h ⊢
  obtain ⟨g0, g1, g2, g3, g4, g5, g6, g7, g8⟩ := hg
  have c1 : ¬ (laws_szCellS p0.Store p1) < 0 := no_neg h
  rw [decide_eq_false c1, cond_false] at h ⊢
  obtain ⟨s0, b1, e1⟩ := laws_szCellS_small p0.Store p1 h0 h1 g0 c1
  have c2 : ¬ (laws_szTxS p0.Txs (laws_szCellS p0.Store p1)) < 0 := no_neg h
  rw [decide_eq_false c2, cond_false] at h ⊢
  obtain ⟨s1, b2, e2⟩ := laws_szTxS_small p0.Txs (laws_szCellS p0.Store p1) b1 e1 g1 c2
  have c3 : ¬ (laws_szDisk p0.Disk (laws_szTxS p0.Txs (laws_szCellS p0.Store p1))) < 0 := no_neg h
  rw [decide_eq_false c3, cond_false] at h ⊢
  obtain ⟨s2, b3, e3⟩ := laws_szDisk_small p0.Disk (laws_szTxS p0.Txs (laws_szCellS p0.Store p1)) b2 e2 g2 c3
  have c4 : ¬ (laws_szEntryS p0.History (laws_szDisk p0.Disk (laws_szTxS p0.Txs (laws_szCellS p0.Store p1)))) < 0 := no_neg h
  rw [decide_eq_false c4, cond_false] at h ⊢
  obtain ⟨s6, b4, e4⟩ := laws_szEntryS_small p0.History (laws_szDisk p0.Disk (laws_szTxS p0.Txs (laws_szCellS p0.Store p1))) b3 e3 g6 c4
  have c5 : ¬ (laws_szStringS p0.Seen (laws_szEntryS p0.History (laws_szDisk p0.Disk (laws_szTxS p0.Txs (laws_szCellS p0.Store p1))))) < 0 := no_neg h
  rw [decide_eq_false c5, cond_false] at h ⊢
  obtain ⟨s7, b5, e5⟩ := laws_szStringS_small p0.Seen (laws_szEntryS p0.History (laws_szDisk p0.Disk (laws_szTxS p0.Txs (laws_szCellS p0.Store p1)))) b4 e4 g7 c5
  exact ⟨⟨s0, s1, s2, trivial, trivial, trivial, s6, s7, trivial⟩, b5, e5⟩
end Go.Proofs.YtnjidaonbcbphaaGreatDoor.Fw

/- Contracts: each call returns what the model says. By program (wip/am/gen2.py). -/
namespace Go.Proofs.YtnjidaonbcbphaaGreatDoor.Fw
open Go.RowKit
set_option linter.unusedVariables false
set_option maxRecDepth 100000
set_option maxHeartbeats 2000000

theorem fok12 : FnOk Tryz.prog 12 := ⟨_, Tryz.func12, rfl, by kernel_rfl⟩
theorem fok52 : FnOk Tryz.prog 52 := ⟨_, Tryz.func52, rfl, by kernel_rfl⟩
theorem fok53 : FnOk Tryz.prog 53 := ⟨_, Tryz.func53, rfl, by kernel_rfl⟩
theorem fok54 : FnOk Tryz.prog 54 := ⟨_, Tryz.func54, rfl, by kernel_rfl⟩
theorem fok55 : FnOk Tryz.prog 55 := ⟨_, Tryz.func55, rfl, by kernel_rfl⟩
theorem fok56 : FnOk Tryz.prog 56 := ⟨_, Tryz.func56, rfl, by kernel_rfl⟩
theorem fok62 : FnOk Tryz.prog 62 := ⟨_, Tryz.func62, rfl, by kernel_rfl⟩
theorem fok63 : FnOk Tryz.prog 63 := ⟨_, Tryz.func63, rfl, by kernel_rfl⟩
theorem fok64 : FnOk Tryz.prog 64 := ⟨_, Tryz.func64, rfl, by kernel_rfl⟩
theorem fok65 : FnOk Tryz.prog 65 := ⟨_, Tryz.func65, rfl, by kernel_rfl⟩
theorem fok123 : FnOk Tryz.prog 123 := ⟨_, Tryz.func123, rfl, by kernel_rfl⟩
theorem fok124 : FnOk Tryz.prog 124 := ⟨_, Tryz.func124, rfl, by kernel_rfl⟩
theorem fok125 : FnOk Tryz.prog 125 := ⟨_, Tryz.func125, rfl, by kernel_rfl⟩
theorem fok126 : FnOk Tryz.prog 126 := ⟨_, Tryz.func126, rfl, by kernel_rfl⟩
theorem fok127 : FnOk Tryz.prog 127 := ⟨_, Tryz.func127, rfl, by kernel_rfl⟩
theorem fok133 : FnOk Tryz.prog 133 := ⟨_, Tryz.func133, rfl, by kernel_rfl⟩
theorem fok134 : FnOk Tryz.prog 134 := ⟨_, Tryz.func134, rfl, by kernel_rfl⟩
theorem fok135 : FnOk Tryz.prog 135 := ⟨_, Tryz.func135, rfl, by kernel_rfl⟩
theorem fok136 : FnOk Tryz.prog 136 := ⟨_, Tryz.func136, rfl, by kernel_rfl⟩
theorem fok137 : FnOk Tryz.prog 137 := ⟨_, Tryz.func137, rfl, by kernel_rfl⟩
theorem fok166 : FnOk Tryz.prog 166 := ⟨_, Tryz.func166, rfl, by kernel_rfl⟩
theorem fok173 : FnOk Tryz.prog 173 := ⟨_, Tryz.func173, rfl, by kernel_rfl⟩
theorem fok174 : FnOk Tryz.prog 174 := ⟨_, Tryz.func174, rfl, by kernel_rfl⟩
theorem fok175 : FnOk Tryz.prog 175 := ⟨_, Tryz.func175, rfl, by kernel_rfl⟩
theorem fok176 : FnOk Tryz.prog 176 := ⟨_, Tryz.func176, rfl, by kernel_rfl⟩
theorem fok177 : FnOk Tryz.prog 177 := ⟨_, Tryz.func177, rfl, by kernel_rfl⟩
theorem fok178 : FnOk Tryz.prog 178 := ⟨_, Tryz.func178, rfl, by kernel_rfl⟩
theorem fok183 : FnOk Tryz.prog 183 := ⟨_, Tryz.func183, rfl, by kernel_rfl⟩
theorem fok184 : FnOk Tryz.prog 184 := ⟨_, Tryz.func184, rfl, by kernel_rfl⟩
theorem fok185 : FnOk Tryz.prog 185 := ⟨_, Tryz.func185, rfl, by kernel_rfl⟩
theorem fok186 : FnOk Tryz.prog 186 := ⟨_, Tryz.func186, rfl, by kernel_rfl⟩
theorem fok187 : FnOk Tryz.prog 187 := ⟨_, Tryz.func187, rfl, by kernel_rfl⟩
theorem fok188 : FnOk Tryz.prog 188 := ⟨_, Tryz.func188, rfl, by kernel_rfl⟩
theorem fok203 : FnOk Tryz.prog 203 := ⟨_, Tryz.func203, rfl, by kernel_rfl⟩
theorem fok204 : FnOk Tryz.prog 204 := ⟨_, Tryz.func204, rfl, by kernel_rfl⟩
theorem fok205 : FnOk Tryz.prog 205 := ⟨_, Tryz.func205, rfl, by kernel_rfl⟩
theorem fok210 : FnOk Tryz.prog 210 := ⟨_, Tryz.func210, rfl, by kernel_rfl⟩
theorem fok211 : FnOk Tryz.prog 211 := ⟨_, Tryz.func211, rfl, by kernel_rfl⟩
/- F123 loop.example/g00974/laws.toCell -/
def laws_toCell (p0 : Cell) : Cell := p0
theorem c_laws_toCell (p0 : Cell) : CTs 123 [.o (.st Cell _ inferInstance p0)] [Re.st Cell _ inferInstance (laws_toCell p0)] := by
  refine en Tryz.func123 Tryz.ntmps123 fun w hG hgd => ?_
  obtain ⟨hg_p0, _⟩ := hgd
  have hM := laws_toCell.eq_1 p0
  refine ad 28 ?_
  exact rz (rs := [.cell 2 154]) (congrArg (fun x => [Re.st Cell _ inferInstance x]) hM)

/- F52 loop.example/g00974/laws.toCellS -/
def laws_toCellS_l1 (p0 : List Cell) : Nat → (List Cell) → Nat → (List Cell)
  | 0, w1, i => w1
  | n + 1, w1, i => laws_toCellS_l1 p0 n (w1.set i (laws_toCell (nth p0 i))) (i + 1)
def laws_toCellS (p0 : List Cell) : (List Cell) := laws_toCellS_l1 p0 (p0.length - 0) (List.replicate p0.length (Cell.mk ⟨#[]⟩ ⟨#[]⟩)) 0
theorem c_laws_toCellS (p0 : List Cell) (hs : Dat.small 1048576 p0) : CTs 52 [.o (.sl Cell instDatCell p0)] [Re.sl Cell instDatCell (laws_toCellS p0)] := by
  refine en Tryz.func52 Tryz.ntmps52 fun w hG hgd => ?_
  obtain ⟨hg_p0, _⟩ := hgd
  have hl_p0 : p0.length ≤ 9223372036854775807 := hg_p0.1
  have hM := laws_toCellS.eq_1 p0
  have hs0 : p0.length ≤ 1048576 := hs.1
  refine ad 8 ?_
  refine op (ma p0.length (Cell.mk ⟨#[]⟩ ⟨#[]⟩)) ?_
  refine ad 8 ?_
  refine Run.loopM (ι := (List Cell) × Nat) (fun s => laws_toCellS_l1 p0 (p0.length - s.2) s.1 s.2) (fun s => ⟨23, 2, [(0, .sl 0 p0.length), (3, .sl 1 s.1.length), (4, .v (.int .i64 (s.2 : Int)))], [(0, .ros Cell instDatCell p0), (1, .own Cell instDatCell s.1)]⟩) (fun s => s.2 ≤ p0.length ∧ s.1.length = p0.length) (fun s => p0.length - s.2) ((List.replicate p0.length (Cell.mk ⟨#[]⟩ ⟨#[]⟩)), 0) [0, 1] [1, 0] hM (by first | exact ⟨by omega, by simp⟩ | omega | simp | (dsimp only; omega)) su (by decide) ?_
  rintro ⟨w1, i⟩ hv hE
  try dsimp only at hE
  obtain ⟨hi, hv0⟩ := hv
  try dsimp only at hi hv0
  refine ad 8 ?_
  refine cd (fun h1 => ?_) (fun h1 => ?_)
  ·
    have h1l : i < p0.length := by have := of_decide_eq_true h1; omega
    have hM := hE.trans ((congrArg (fun n => laws_toCellS_l1 p0 n w1 i) (show p0.length - i = (p0.length - (i + 1)) + 1 by omega)).trans (laws_toCellS_l1.eq_2 _ _ _ _))
    refine ad 8 ?_
    have hg3 := good_nth (k := i) hg_p0 om
    refine op (ix (xs := p0) i om) ?_
    refine ad 1 ?_
    have hg4 : Dat.good (nth p0 i : Cell) := hg3
    refine og (clg (c_laws_toCell (nth p0 i)) fok123) fun hgq => ?_
    obtain ⟨hg5, _⟩ := hgq
    refine op (oi (xs := w1) i om) ?_
    refine op (se (xs := w1) i (laws_toCell (nth p0 i)) hg5 om) ?_
    refine ad 5 ?_
    rw [wrapN (i := i) (by first | omega | exact om)]
    refine ad 2 ?_
    exact Run.again ((w1.set i (laws_toCell (nth p0 i))), (i + 1)) [0, 3] [2, 0] ⟨by first | omega | exact trivial | (dsimp only; omega) | (refine ⟨by omega, ?_⟩; simp_all; try omega), hM⟩ rfl (by show _ - _ < _ - _; (try dsimp only); omega) su (by decide)
  ·
    have h1l : ¬ (i < p0.length) := by have := of_decide_eq_false h1; omega
    have hM := hE.trans ((congrArg (fun n => laws_toCellS_l1 p0 n w1 i) (show p0.length - i = 0 by omega)).trans (laws_toCellS_l1.eq_1 _ _ _))
    refine ad 6 ?_
    exact rz (rs := [.tmp 2]) (congrArg (fun x => [Re.sl Cell instDatCell x]) hM)

/- F203 loop.example/g00974/laws.toCall -/
def laws_toCall (p0 : Call) : Call := p0
theorem c_laws_toCall (p0 : Call) : CTs 203 [.o (.st Call _ inferInstance p0)] [Re.st Call _ inferInstance (laws_toCall p0)] := by
  refine en Tryz.func203 Tryz.ntmps203 fun w hG hgd => ?_
  obtain ⟨hg_p0, _⟩ := hgd
  have hM := laws_toCall.eq_1 p0
  refine ad 56 ?_
  exact rz (rs := [.cell 2 54]) (congrArg (fun x => [Re.st Call _ inferInstance x]) hM)

/- F173 loop.example/g00974/laws.toCallS -/
def laws_toCallS_l1 (p0 : List Call) : Nat → (List Call) → Nat → (List Call)
  | 0, w1, i => w1
  | n + 1, w1, i => laws_toCallS_l1 p0 n (w1.set i (laws_toCall (nth p0 i))) (i + 1)
def laws_toCallS (p0 : List Call) : (List Call) := laws_toCallS_l1 p0 (p0.length - 0) (List.replicate p0.length (Call.mk 0 ⟨#[]⟩ ⟨#[]⟩ 0 0 ⟨#[]⟩)) 0
theorem c_laws_toCallS (p0 : List Call) (hs : Dat.small 1048576 p0) : CTs 173 [.o (.sl Call instDatCall p0)] [Re.sl Call instDatCall (laws_toCallS p0)] := by
  refine en Tryz.func173 Tryz.ntmps173 fun w hG hgd => ?_
  obtain ⟨hg_p0, _⟩ := hgd
  have hl_p0 : p0.length ≤ 9223372036854775807 := hg_p0.1
  have hM := laws_toCallS.eq_1 p0
  have hs0 : p0.length ≤ 1048576 := hs.1
  refine ad 8 ?_
  refine op (ma p0.length (Call.mk 0 ⟨#[]⟩ ⟨#[]⟩ 0 0 ⟨#[]⟩) (ho := gdz)) ?_
  refine ad 8 ?_
  refine Run.loopM (ι := (List Call) × Nat) (fun s => laws_toCallS_l1 p0 (p0.length - s.2) s.1 s.2) (fun s => ⟨23, 2, [(0, .sl 0 p0.length), (3, .sl 1 s.1.length), (4, .v (.int .i64 (s.2 : Int)))], [(0, .ros Call instDatCall p0), (1, .own Call instDatCall s.1)]⟩) (fun s => s.2 ≤ p0.length ∧ s.1.length = p0.length) (fun s => p0.length - s.2) ((List.replicate p0.length (Call.mk 0 ⟨#[]⟩ ⟨#[]⟩ 0 0 ⟨#[]⟩)), 0) [0, 1] [1, 0] hM (by first | exact ⟨by omega, by simp⟩ | omega | simp | (dsimp only; omega)) su (by decide) ?_
  rintro ⟨w1, i⟩ hv hE
  try dsimp only at hE
  obtain ⟨hi, hv0⟩ := hv
  try dsimp only at hi hv0
  refine ad 8 ?_
  refine cd (fun h1 => ?_) (fun h1 => ?_)
  ·
    have h1l : i < p0.length := by have := of_decide_eq_true h1; omega
    have hM := hE.trans ((congrArg (fun n => laws_toCallS_l1 p0 n w1 i) (show p0.length - i = (p0.length - (i + 1)) + 1 by omega)).trans (laws_toCallS_l1.eq_2 _ _ _ _))
    refine ad 8 ?_
    have hg3 := good_nth (k := i) hg_p0 om
    refine op (ix (xs := p0) i om) ?_
    refine ad 1 ?_
    have hg4 : Dat.good (nth p0 i : Call) := hg3
    refine og (clg (c_laws_toCall (nth p0 i)) fok203) fun hgq => ?_
    obtain ⟨hg5, _⟩ := hgq
    refine op (oi (xs := w1) i om) ?_
    refine op (se (xs := w1) i (laws_toCall (nth p0 i)) hg5 om) ?_
    refine ad 5 ?_
    rw [wrapN (i := i) (by first | omega | exact om)]
    refine ad 2 ?_
    exact Run.again ((w1.set i (laws_toCall (nth p0 i))), (i + 1)) [0, 3] [2, 0] ⟨by first | omega | exact trivial | (dsimp only; omega) | (refine ⟨by omega, ?_⟩; simp_all; try omega), hM⟩ rfl (by show _ - _ < _ - _; (try dsimp only); omega) su (by decide)
  ·
    have h1l : ¬ (i < p0.length) := by have := of_decide_eq_false h1; omega
    have hM := hE.trans ((congrArg (fun n => laws_toCallS_l1 p0 n w1 i) (show p0.length - i = 0 by omega)).trans (laws_toCallS_l1.eq_1 _ _ _))
    refine ad 6 ?_
    exact rz (rs := [.tmp 2]) (congrArg (fun x => [Re.sl Call instDatCall x]) hM)

/- F204 loop.example/g00974/laws.toAnswer -/
def laws_toAnswer (p0 : Answer) : Answer := p0
theorem c_laws_toAnswer (p0 : Answer) : CTs 204 [.o (.st Answer _ inferInstance p0)] [Re.st Answer _ inferInstance (laws_toAnswer p0)] := by
  refine en Tryz.func204 Tryz.ntmps204 fun w hG hgd => ?_
  obtain ⟨hg_p0, _⟩ := hgd
  have hM := laws_toAnswer.eq_1 p0
  refine ad 35 ?_
  exact rz (rs := [.cell 2 181]) (congrArg (fun x => [Re.st Answer _ inferInstance x]) hM)

/- F174 loop.example/g00974/laws.toAnswerS -/
def laws_toAnswerS_l1 (p0 : List Answer) : Nat → (List Answer) → Nat → (List Answer)
  | 0, w1, i => w1
  | n + 1, w1, i => laws_toAnswerS_l1 p0 n (w1.set i (laws_toAnswer (nth p0 i))) (i + 1)
def laws_toAnswerS (p0 : List Answer) : (List Answer) := laws_toAnswerS_l1 p0 (p0.length - 0) (List.replicate p0.length (Answer.mk 0 0 ⟨#[]⟩)) 0
theorem c_laws_toAnswerS (p0 : List Answer) (hs : Dat.small 1048576 p0) : CTs 174 [.o (.sl Answer instDatAnswer p0)] [Re.sl Answer instDatAnswer (laws_toAnswerS p0)] := by
  refine en Tryz.func174 Tryz.ntmps174 fun w hG hgd => ?_
  obtain ⟨hg_p0, _⟩ := hgd
  have hl_p0 : p0.length ≤ 9223372036854775807 := hg_p0.1
  have hM := laws_toAnswerS.eq_1 p0
  have hs0 : p0.length ≤ 1048576 := hs.1
  refine ad 8 ?_
  refine op (ma p0.length (Answer.mk 0 0 ⟨#[]⟩) (ho := gdz)) ?_
  refine ad 8 ?_
  refine Run.loopM (ι := (List Answer) × Nat) (fun s => laws_toAnswerS_l1 p0 (p0.length - s.2) s.1 s.2) (fun s => ⟨23, 2, [(0, .sl 0 p0.length), (3, .sl 1 s.1.length), (4, .v (.int .i64 (s.2 : Int)))], [(0, .ros Answer instDatAnswer p0), (1, .own Answer instDatAnswer s.1)]⟩) (fun s => s.2 ≤ p0.length ∧ s.1.length = p0.length) (fun s => p0.length - s.2) ((List.replicate p0.length (Answer.mk 0 0 ⟨#[]⟩)), 0) [0, 1] [1, 0] hM (by first | exact ⟨by omega, by simp⟩ | omega | simp | (dsimp only; omega)) su (by decide) ?_
  rintro ⟨w1, i⟩ hv hE
  try dsimp only at hE
  obtain ⟨hi, hv0⟩ := hv
  try dsimp only at hi hv0
  refine ad 8 ?_
  refine cd (fun h1 => ?_) (fun h1 => ?_)
  ·
    have h1l : i < p0.length := by have := of_decide_eq_true h1; omega
    have hM := hE.trans ((congrArg (fun n => laws_toAnswerS_l1 p0 n w1 i) (show p0.length - i = (p0.length - (i + 1)) + 1 by omega)).trans (laws_toAnswerS_l1.eq_2 _ _ _ _))
    refine ad 8 ?_
    have hg3 := good_nth (k := i) hg_p0 om
    refine op (ix (xs := p0) i om) ?_
    refine ad 1 ?_
    have hg4 : Dat.good (nth p0 i : Answer) := hg3
    refine og (clg (c_laws_toAnswer (nth p0 i)) fok204) fun hgq => ?_
    obtain ⟨hg5, _⟩ := hgq
    refine op (oi (xs := w1) i om) ?_
    refine op (se (xs := w1) i (laws_toAnswer (nth p0 i)) hg5 om) ?_
    refine ad 5 ?_
    rw [wrapN (i := i) (by first | omega | exact om)]
    refine ad 2 ?_
    exact Run.again ((w1.set i (laws_toAnswer (nth p0 i))), (i + 1)) [0, 3] [2, 0] ⟨by first | omega | exact trivial | (dsimp only; omega) | (refine ⟨by omega, ?_⟩; simp_all; try omega), hM⟩ rfl (by show _ - _ < _ - _; (try dsimp only); omega) su (by decide)
  ·
    have h1l : ¬ (i < p0.length) := by have := of_decide_eq_false h1; omega
    have hM := hE.trans ((congrArg (fun n => laws_toAnswerS_l1 p0 n w1 i) (show p0.length - i = 0 by omega)).trans (laws_toAnswerS_l1.eq_1 _ _ _))
    refine ad 6 ?_
    exact rz (rs := [.tmp 2]) (congrArg (fun x => [Re.sl Answer instDatAnswer x]) hM)

/- F56 loop.example/g00974/laws.toStringS -/
def laws_toStringS_l1 (p0 : List ByteArray) : Nat → (List ByteArray) → Nat → (List ByteArray)
  | 0, w1, i => w1
  | n + 1, w1, i => laws_toStringS_l1 p0 n (w1.set i (nth p0 i)) (i + 1)
def laws_toStringS (p0 : List ByteArray) : (List ByteArray) := laws_toStringS_l1 p0 (p0.length - 0) (List.replicate p0.length (⟨#[]⟩ : ByteArray)) 0
theorem c_laws_toStringS (p0 : List ByteArray) (hs : Dat.small 1048576 p0) : CTs 56 [.o (.sl ByteArray instDatByteArray p0)] [Re.sl ByteArray instDatByteArray (laws_toStringS p0)] := by
  refine en Tryz.func56 Tryz.ntmps56 fun w hG hgd => ?_
  obtain ⟨hg_p0, _⟩ := hgd
  have hl_p0 : p0.length ≤ 9223372036854775807 := hg_p0.1
  have hM := laws_toStringS.eq_1 p0
  have hs0 : p0.length ≤ 1048576 := hs.1
  refine ad 8 ?_
  refine op (ma p0.length (⟨#[]⟩ : ByteArray)) ?_
  refine ad 8 ?_
  refine Run.loopM (ι := (List ByteArray) × Nat) (fun s => laws_toStringS_l1 p0 (p0.length - s.2) s.1 s.2) (fun s => ⟨22, 2, [(0, .sl 0 p0.length), (3, .sl 1 s.1.length), (4, .v (.int .i64 (s.2 : Int)))], [(0, .ros ByteArray instDatByteArray p0), (1, .own ByteArray instDatByteArray s.1)]⟩) (fun s => s.2 ≤ p0.length ∧ s.1.length = p0.length) (fun s => p0.length - s.2) ((List.replicate p0.length (⟨#[]⟩ : ByteArray)), 0) [0, 1] [1, 0] hM (by first | exact ⟨by omega, by simp⟩ | omega | simp | (dsimp only; omega)) su (by decide) ?_
  rintro ⟨w1, i⟩ hv hE
  try dsimp only at hE
  obtain ⟨hi, hv0⟩ := hv
  try dsimp only at hi hv0
  refine ad 8 ?_
  refine cd (fun h1 => ?_) (fun h1 => ?_)
  ·
    have h1l : i < p0.length := by have := of_decide_eq_true h1; omega
    have hM := hE.trans ((congrArg (fun n => laws_toStringS_l1 p0 n w1 i) (show p0.length - i = (p0.length - (i + 1)) + 1 by omega)).trans (laws_toStringS_l1.eq_2 _ _ _ _))
    refine ad 8 ?_
    have hg3 := good_nth (k := i) hg_p0 om
    refine op (ix (xs := p0) i om) ?_
    refine ad 1 ?_
    refine op (oi (xs := w1) i om) ?_
    refine op (se (xs := w1) i (nth p0 i) hg3 om) ?_
    refine ad 5 ?_
    rw [wrapN (i := i) (by first | omega | exact om)]
    refine ad 2 ?_
    exact Run.again ((w1.set i (nth p0 i)), (i + 1)) [0, 3] [2, 0] ⟨by first | omega | exact trivial | (dsimp only; omega) | (refine ⟨by omega, ?_⟩; simp_all; try omega), hM⟩ rfl (by show _ - _ < _ - _; (try dsimp only); omega) su (by decide)
  ·
    have h1l : ¬ (i < p0.length) := by have := of_decide_eq_false h1; omega
    have hM := hE.trans ((congrArg (fun n => laws_toStringS_l1 p0 n w1 i) (show p0.length - i = 0 by omega)).trans (laws_toStringS_l1.eq_1 _ _ _))
    refine ad 6 ?_
    exact rz (rs := [.tmp 2]) (congrArg (fun x => [Re.sl ByteArray instDatByteArray x]) hM)

/- F175 loop.example/g00974/laws.toTouch -/
def laws_toTouch (p0 : Touch) : Touch := (Touch.mk (laws_toStringS p0.Reads) (laws_toStringS p0.Writes))
theorem c_laws_toTouch (p0 : Touch) (hs : Dat.small 1048576 p0) : CTs 175 [.o (.st Touch _ inferInstance p0)] [Re.st Touch _ inferInstance (laws_toTouch p0)] := by
  refine en Tryz.func175 Tryz.ntmps175 fun w hG hgd => ?_
  obtain ⟨hg_p0, _⟩ := hgd
  have hM := laws_toTouch.eq_1 p0
  have hs0 : Dat.small 1048576 p0.Reads := hs.1
  have hs1 : Dat.small 1048576 p0.Writes := hs.2
  refine ad 13 ?_
  refine og (clg (c_laws_toStringS p0.Reads (by first | assumption | exact small_nth hs (by omega))) fok56) fun hgq => ?_
  obtain ⟨hg1, _⟩ := hgq
  refine ad 7 ?_
  refine og (clg (c_laws_toStringS p0.Writes (by first | assumption | exact small_nth hs (by omega))) fok56) fun hgq => ?_
  obtain ⟨hg2, _⟩ := hgq
  refine ad 8 ?_
  have hg3 : Dat.good (Touch.mk (laws_toStringS p0.Reads) (laws_toStringS p0.Writes) : Touch) := ⟨hg1, hg2⟩
  exact rz (rs := [.cell 2 147]) (congrArg (fun x => [Re.st Touch _ inferInstance x]) hM)

/- F176 loop.example/g00974/laws.toIntS -/
def laws_toIntS_l1 (p0 : List Int) : Nat → (List Int) → Nat → (List Int)
  | 0, w1, i => w1
  | n + 1, w1, i => laws_toIntS_l1 p0 n (w1.set i (nth p0 i)) (i + 1)
def laws_toIntS (p0 : List Int) : (List Int) := laws_toIntS_l1 p0 (p0.length - 0) (List.replicate p0.length (0 : Int)) 0
theorem c_laws_toIntS (p0 : List Int) (hs : Dat.small 1048576 p0) : CTs 176 [.o (.sl Int instDatInt p0)] [Re.sl Int instDatInt (laws_toIntS p0)] := by
  refine en Tryz.func176 Tryz.ntmps176 fun w hG hgd => ?_
  obtain ⟨hg_p0, _⟩ := hgd
  have hl_p0 : p0.length ≤ 9223372036854775807 := hg_p0.1
  have hM := laws_toIntS.eq_1 p0
  have hs0 : p0.length ≤ 1048576 := hs.1
  refine ad 8 ?_
  refine op (ma p0.length (0 : Int)) ?_
  refine ad 8 ?_
  refine Run.loopM (ι := (List Int) × Nat) (fun s => laws_toIntS_l1 p0 (p0.length - s.2) s.1 s.2) (fun s => ⟨22, 2, [(0, .sl 0 p0.length), (3, .sl 1 s.1.length), (4, .v (.int .i64 (s.2 : Int)))], [(0, .ros Int instDatInt p0), (1, .own Int instDatInt s.1)]⟩) (fun s => s.2 ≤ p0.length ∧ s.1.length = p0.length) (fun s => p0.length - s.2) ((List.replicate p0.length (0 : Int)), 0) [0, 1] [1, 0] hM (by first | exact ⟨by omega, by simp⟩ | omega | simp | (dsimp only; omega)) su (by decide) ?_
  rintro ⟨w1, i⟩ hv hE
  try dsimp only at hE
  obtain ⟨hi, hv0⟩ := hv
  try dsimp only at hi hv0
  refine ad 8 ?_
  refine cd (fun h1 => ?_) (fun h1 => ?_)
  ·
    have h1l : i < p0.length := by have := of_decide_eq_true h1; omega
    have hM := hE.trans ((congrArg (fun n => laws_toIntS_l1 p0 n w1 i) (show p0.length - i = (p0.length - (i + 1)) + 1 by omega)).trans (laws_toIntS_l1.eq_2 _ _ _ _))
    refine ad 8 ?_
    have hg3 := good_nth (k := i) hg_p0 om
    refine op (ix (xs := p0) i om) ?_
    refine ad 1 ?_
    refine op (oi (xs := w1) i om) ?_
    refine op (se (xs := w1) i (nth p0 i) hg3 om) ?_
    refine ad 5 ?_
    rw [wrapN (i := i) (by first | omega | exact om)]
    refine ad 2 ?_
    exact Run.again ((w1.set i (nth p0 i)), (i + 1)) [0, 3] [2, 0] ⟨by first | omega | exact trivial | (dsimp only; omega) | (refine ⟨by omega, ?_⟩; simp_all; try omega), hM⟩ rfl (by show _ - _ < _ - _; (try dsimp only); omega) su (by decide)
  ·
    have h1l : ¬ (i < p0.length) := by have := of_decide_eq_false h1; omega
    have hM := hE.trans ((congrArg (fun n => laws_toIntS_l1 p0 n w1 i) (show p0.length - i = 0 by omega)).trans (laws_toIntS_l1.eq_1 _ _ _))
    refine ad 6 ?_
    exact rz (rs := [.tmp 2]) (congrArg (fun x => [Re.sl Int instDatInt x]) hM)

/- F124 loop.example/g00974/laws.toTx -/
def laws_toTx (p0 : Tx) : Tx := (Tx.mk p0.Id p0.Age p0.Proc p0.Began (laws_toCallS p0.Calls) (laws_toAnswerS p0.Answers) (laws_toTouch p0.Touch) (laws_toIntS p0.Marks) p0.State)
theorem c_laws_toTx (p0 : Tx) (hs : Dat.small 1048576 p0) : CTs 124 [.o (.st Tx _ inferInstance p0)] [Re.st Tx _ inferInstance (laws_toTx p0)] := by
  refine en Tryz.func124 Tryz.ntmps124 fun w hG hgd => ?_
  obtain ⟨hg_p0, _⟩ := hgd
  have hM := laws_toTx.eq_1 p0
  have hs4 : Dat.small 1048576 p0.Calls := hs.2.2.2.2.1
  have hs5 : Dat.small 1048576 p0.Answers := hs.2.2.2.2.2.1
  have hs6 : Dat.small 1048576 p0.Touch := hs.2.2.2.2.2.2.1
  have hs7 : Dat.small 1048576 p0.Marks := hs.2.2.2.2.2.2.2.1
  refine ad 41 ?_
  refine og (clg (c_laws_toCallS p0.Calls (by first | assumption | exact small_nth hs (by omega))) fok173) fun hgq => ?_
  obtain ⟨hg1, _⟩ := hgq
  refine ad 7 ?_
  refine og (clg (c_laws_toAnswerS p0.Answers (by first | assumption | exact small_nth hs (by omega))) fok174) fun hgq => ?_
  obtain ⟨hg2, _⟩ := hgq
  refine ad 7 ?_
  have hg3 : Dat.good (p0.Touch : Touch) := hg_p0.2.2.2.2.2.2.1
  refine og (clg (c_laws_toTouch p0.Touch (by first | assumption | exact small_nth hs (by omega))) fok175) fun hgq => ?_
  obtain ⟨hg4, _⟩ := hgq
  refine ad 7 ?_
  refine og (clg (c_laws_toIntS p0.Marks (by first | assumption | exact small_nth hs (by omega))) fok176) fun hgq => ?_
  obtain ⟨hg5, _⟩ := hgq
  refine ad 15 ?_
  have hg6 : Dat.good (Tx.mk p0.Id p0.Age p0.Proc p0.Began (laws_toCallS p0.Calls) (laws_toAnswerS p0.Answers) (laws_toTouch p0.Touch) (laws_toIntS p0.Marks) p0.State : Tx) := ⟨hg_p0.1, hg_p0.2.1, hg_p0.2.2.1, hg_p0.2.2.2.1, hg1, hg2, hg4, hg5, hg_p0.2.2.2.2.2.2.2.2⟩
  exact rz (rs := [.cell 2 149]) (congrArg (fun x => [Re.st Tx _ inferInstance x]) hM)

/- F53 loop.example/g00974/laws.toTxS -/
def laws_toTxS_l1 (p0 : List Tx) : Nat → (List Tx) → Nat → (List Tx)
  | 0, w1, i => w1
  | n + 1, w1, i => laws_toTxS_l1 p0 n (w1.set i (laws_toTx (nth p0 i))) (i + 1)
def laws_toTxS (p0 : List Tx) : (List Tx) := laws_toTxS_l1 p0 (p0.length - 0) (List.replicate p0.length (Tx.mk 0 0 0 0 [] [] (Touch.mk [] []) [] 0)) 0
theorem c_laws_toTxS (p0 : List Tx) (hs : Dat.small 1048576 p0) : CTs 53 [.o (.sl Tx instDatTx p0)] [Re.sl Tx instDatTx (laws_toTxS p0)] := by
  refine en Tryz.func53 Tryz.ntmps53 fun w hG hgd => ?_
  obtain ⟨hg_p0, _⟩ := hgd
  have hl_p0 : p0.length ≤ 9223372036854775807 := hg_p0.1
  have hM := laws_toTxS.eq_1 p0
  have hs0 : p0.length ≤ 1048576 := hs.1
  refine ad 8 ?_
  refine op (ma p0.length (Tx.mk 0 0 0 0 [] [] (Touch.mk [] []) [] 0) (ho := gdz)) ?_
  refine ad 8 ?_
  refine Run.loopM (ι := (List Tx) × Nat) (fun s => laws_toTxS_l1 p0 (p0.length - s.2) s.1 s.2) (fun s => ⟨23, 2, [(0, .sl 0 p0.length), (3, .sl 1 s.1.length), (4, .v (.int .i64 (s.2 : Int)))], [(0, .ros Tx instDatTx p0), (1, .own Tx instDatTx s.1)]⟩) (fun s => s.2 ≤ p0.length ∧ s.1.length = p0.length) (fun s => p0.length - s.2) ((List.replicate p0.length (Tx.mk 0 0 0 0 [] [] (Touch.mk [] []) [] 0)), 0) [0, 1] [1, 0] hM (by first | exact ⟨by omega, by simp⟩ | omega | simp | (dsimp only; omega)) su (by decide) ?_
  rintro ⟨w1, i⟩ hv hE
  try dsimp only at hE
  obtain ⟨hi, hv0⟩ := hv
  try dsimp only at hi hv0
  refine ad 8 ?_
  refine cd (fun h1 => ?_) (fun h1 => ?_)
  ·
    have h1l : i < p0.length := by have := of_decide_eq_true h1; omega
    have hM := hE.trans ((congrArg (fun n => laws_toTxS_l1 p0 n w1 i) (show p0.length - i = (p0.length - (i + 1)) + 1 by omega)).trans (laws_toTxS_l1.eq_2 _ _ _ _))
    refine ad 8 ?_
    have hg3 := good_nth (k := i) hg_p0 om
    refine op (ix (xs := p0) i om) ?_
    refine ad 1 ?_
    have hg4 : Dat.good (nth p0 i : Tx) := hg3
    refine og (clg (c_laws_toTx (nth p0 i) (by first | assumption | exact small_nth hs (by omega))) fok124) fun hgq => ?_
    obtain ⟨hg5, _⟩ := hgq
    refine op (oi (xs := w1) i om) ?_
    refine op (se (xs := w1) i (laws_toTx (nth p0 i)) hg5 om) ?_
    refine ad 5 ?_
    rw [wrapN (i := i) (by first | omega | exact om)]
    refine ad 2 ?_
    exact Run.again ((w1.set i (laws_toTx (nth p0 i))), (i + 1)) [0, 13] [7, 0] ⟨by first | omega | exact trivial | (dsimp only; omega) | (refine ⟨by omega, ?_⟩; simp_all; try omega), hM⟩ rfl (by show _ - _ < _ - _; (try dsimp only); omega) su (by decide)
  ·
    have h1l : ¬ (i < p0.length) := by have := of_decide_eq_false h1; omega
    have hM := hE.trans ((congrArg (fun n => laws_toTxS_l1 p0 n w1 i) (show p0.length - i = 0 by omega)).trans (laws_toTxS_l1.eq_1 _ _ _))
    refine ad 6 ?_
    exact rz (rs := [.tmp 2]) (congrArg (fun x => [Re.sl Tx instDatTx x]) hM)

/- F177 loop.example/g00974/laws.toSlot -/
def laws_toSlot (p0 : Slot) : Slot := (Slot.mk p0.Seq (laws_toCellS p0.Cells) p0.Whole)
theorem c_laws_toSlot (p0 : Slot) (hs : Dat.small 1048576 p0) : CTs 177 [.o (.st Slot _ inferInstance p0)] [Re.st Slot _ inferInstance (laws_toSlot p0)] := by
  refine en Tryz.func177 Tryz.ntmps177 fun w hG hgd => ?_
  obtain ⟨hg_p0, _⟩ := hgd
  have hM := laws_toSlot.eq_1 p0
  have hs1 : Dat.small 1048576 p0.Cells := hs.2.1
  refine ad 20 ?_
  refine og (clg (c_laws_toCellS p0.Cells (by first | assumption | exact small_nth hs (by omega))) fok52) fun hgq => ?_
  obtain ⟨hg1, _⟩ := hgq
  refine ad 15 ?_
  have hg2 : Dat.good (Slot.mk p0.Seq (laws_toCellS p0.Cells) p0.Whole : Slot) := ⟨hg_p0.1, hg1, hg_p0.2.2⟩
  exact rz (rs := [.cell 2 211]) (congrArg (fun x => [Re.st Slot _ inferInstance x]) hM)

/- F125 loop.example/g00974/laws.toSlotS -/
def laws_toSlotS_l1 (p0 : List Slot) : Nat → (List Slot) → Nat → (List Slot)
  | 0, w1, i => w1
  | n + 1, w1, i => laws_toSlotS_l1 p0 n (w1.set i (laws_toSlot (nth p0 i))) (i + 1)
def laws_toSlotS (p0 : List Slot) : (List Slot) := laws_toSlotS_l1 p0 (p0.length - 0) (List.replicate p0.length (Slot.mk 0 [] false)) 0
theorem c_laws_toSlotS (p0 : List Slot) (hs : Dat.small 1048576 p0) : CTs 125 [.o (.sl Slot instDatSlot p0)] [Re.sl Slot instDatSlot (laws_toSlotS p0)] := by
  refine en Tryz.func125 Tryz.ntmps125 fun w hG hgd => ?_
  obtain ⟨hg_p0, _⟩ := hgd
  have hl_p0 : p0.length ≤ 9223372036854775807 := hg_p0.1
  have hM := laws_toSlotS.eq_1 p0
  have hs0 : p0.length ≤ 1048576 := hs.1
  refine ad 8 ?_
  refine op (ma p0.length (Slot.mk 0 [] false) (ho := gdz)) ?_
  refine ad 8 ?_
  refine Run.loopM (ι := (List Slot) × Nat) (fun s => laws_toSlotS_l1 p0 (p0.length - s.2) s.1 s.2) (fun s => ⟨23, 2, [(0, .sl 0 p0.length), (3, .sl 1 s.1.length), (4, .v (.int .i64 (s.2 : Int)))], [(0, .ros Slot instDatSlot p0), (1, .own Slot instDatSlot s.1)]⟩) (fun s => s.2 ≤ p0.length ∧ s.1.length = p0.length) (fun s => p0.length - s.2) ((List.replicate p0.length (Slot.mk 0 [] false)), 0) [0, 1] [1, 0] hM (by first | exact ⟨by omega, by simp⟩ | omega | simp | (dsimp only; omega)) su (by decide) ?_
  rintro ⟨w1, i⟩ hv hE
  try dsimp only at hE
  obtain ⟨hi, hv0⟩ := hv
  try dsimp only at hi hv0
  refine ad 8 ?_
  refine cd (fun h1 => ?_) (fun h1 => ?_)
  ·
    have h1l : i < p0.length := by have := of_decide_eq_true h1; omega
    have hM := hE.trans ((congrArg (fun n => laws_toSlotS_l1 p0 n w1 i) (show p0.length - i = (p0.length - (i + 1)) + 1 by omega)).trans (laws_toSlotS_l1.eq_2 _ _ _ _))
    refine ad 8 ?_
    have hg3 := good_nth (k := i) hg_p0 om
    refine op (ix (xs := p0) i om) ?_
    refine ad 1 ?_
    have hg4 : Dat.good (nth p0 i : Slot) := hg3
    refine og (clg (c_laws_toSlot (nth p0 i) (by first | assumption | exact small_nth hs (by omega))) fok177) fun hgq => ?_
    obtain ⟨hg5, _⟩ := hgq
    refine op (oi (xs := w1) i om) ?_
    refine op (se (xs := w1) i (laws_toSlot (nth p0 i)) hg5 om) ?_
    refine ad 5 ?_
    rw [wrapN (i := i) (by first | omega | exact om)]
    refine ad 2 ?_
    exact Run.again ((w1.set i (laws_toSlot (nth p0 i))), (i + 1)) [0, 5] [3, 0] ⟨by first | omega | exact trivial | (dsimp only; omega) | (refine ⟨by omega, ?_⟩; simp_all; try omega), hM⟩ rfl (by show _ - _ < _ - _; (try dsimp only); omega) su (by decide)
  ·
    have h1l : ¬ (i < p0.length) := by have := of_decide_eq_false h1; omega
    have hM := hE.trans ((congrArg (fun n => laws_toSlotS_l1 p0 n w1 i) (show p0.length - i = 0 by omega)).trans (laws_toSlotS_l1.eq_1 _ _ _))
    refine ad 6 ?_
    exact rz (rs := [.tmp 2]) (congrArg (fun x => [Re.sl Slot instDatSlot x]) hM)

/- F126 loop.example/g00974/laws.toJournal -/
def laws_toJournal (p0 : Journal) : Journal := p0
theorem c_laws_toJournal (p0 : Journal) : CTs 126 [.o (.st Journal _ inferInstance p0)] [Re.st Journal _ inferInstance (laws_toJournal p0)] := by
  refine en Tryz.func126 Tryz.ntmps126 fun w hG hgd => ?_
  obtain ⟨hg_p0, _⟩ := hgd
  have hM := laws_toJournal.eq_1 p0
  refine ad 28 ?_
  exact rz (rs := [.cell 2 38]) (congrArg (fun x => [Re.st Journal _ inferInstance x]) hM)

/- F54 loop.example/g00974/laws.toDisk -/
def laws_toDisk (p0 : Disk) : Disk := (Disk.mk (laws_toSlotS p0.Slots) (laws_toJournal p0.Journal))
theorem c_laws_toDisk (p0 : Disk) (hs : Dat.small 1048576 p0) : CTs 54 [.o (.st Disk _ inferInstance p0)] [Re.st Disk _ inferInstance (laws_toDisk p0)] := by
  refine en Tryz.func54 Tryz.ntmps54 fun w hG hgd => ?_
  obtain ⟨hg_p0, _⟩ := hgd
  have hM := laws_toDisk.eq_1 p0
  have hs0 : Dat.small 1048576 p0.Slots := hs.1
  have hs1 : Dat.small 1048576 p0.Journal := hs.2
  refine ad 13 ?_
  refine og (clg (c_laws_toSlotS p0.Slots (by first | assumption | exact small_nth hs (by omega))) fok125) fun hgq => ?_
  obtain ⟨hg1, _⟩ := hgq
  refine ad 7 ?_
  have hg2 : Dat.good (p0.Journal : Journal) := hg_p0.2
  refine og (clg (c_laws_toJournal p0.Journal) fok126) fun hgq => ?_
  obtain ⟨hg3, _⟩ := hgq
  refine ad 8 ?_
  have hg4 : Dat.good (Disk.mk (laws_toSlotS p0.Slots) (laws_toJournal p0.Journal) : Disk) := ⟨hg1, hg3⟩
  exact rz (rs := [.cell 2 40]) (congrArg (fun x => [Re.st Disk _ inferInstance x]) hM)

/- F205 loop.example/g00974/laws.toStep -/
def laws_toStep (p0 : Step) : Step := (Step.mk p0.Proc (laws_toCall p0.Call))
theorem c_laws_toStep (p0 : Step) : CTs 205 [.o (.st Step _ inferInstance p0)] [Re.st Step _ inferInstance (laws_toStep p0)] := by
  refine en Tryz.func205 Tryz.ntmps205 fun w hG hgd => ?_
  obtain ⟨hg_p0, _⟩ := hgd
  have hM := laws_toStep.eq_1 p0
  refine ad 20 ?_
  have hg1 : Dat.good (p0.Call : Call) := hg_p0.2
  refine og (clg (c_laws_toCall p0.Call) fok203) fun hgq => ?_
  obtain ⟨hg2, _⟩ := hgq
  refine ad 8 ?_
  have hg3 : Dat.good (Step.mk p0.Proc (laws_toCall p0.Call) : Step) := ⟨hg_p0.1, hg2⟩
  exact rz (rs := [.cell 2 179]) (congrArg (fun x => [Re.st Step _ inferInstance x]) hM)

/- F178 loop.example/g00974/laws.toStepS -/
def laws_toStepS_l1 (p0 : List Step) : Nat → (List Step) → Nat → (List Step)
  | 0, w1, i => w1
  | n + 1, w1, i => laws_toStepS_l1 p0 n (w1.set i (laws_toStep (nth p0 i))) (i + 1)
def laws_toStepS (p0 : List Step) : (List Step) := laws_toStepS_l1 p0 (p0.length - 0) (List.replicate p0.length (Step.mk 0 (Call.mk 0 ⟨#[]⟩ ⟨#[]⟩ 0 0 ⟨#[]⟩))) 0
theorem c_laws_toStepS (p0 : List Step) (hs : Dat.small 1048576 p0) : CTs 178 [.o (.sl Step instDatStep p0)] [Re.sl Step instDatStep (laws_toStepS p0)] := by
  refine en Tryz.func178 Tryz.ntmps178 fun w hG hgd => ?_
  obtain ⟨hg_p0, _⟩ := hgd
  have hl_p0 : p0.length ≤ 9223372036854775807 := hg_p0.1
  have hM := laws_toStepS.eq_1 p0
  have hs0 : p0.length ≤ 1048576 := hs.1
  refine ad 8 ?_
  refine op (ma p0.length (Step.mk 0 (Call.mk 0 ⟨#[]⟩ ⟨#[]⟩ 0 0 ⟨#[]⟩)) (ho := gdz)) ?_
  refine ad 8 ?_
  refine Run.loopM (ι := (List Step) × Nat) (fun s => laws_toStepS_l1 p0 (p0.length - s.2) s.1 s.2) (fun s => ⟨23, 2, [(0, .sl 0 p0.length), (3, .sl 1 s.1.length), (4, .v (.int .i64 (s.2 : Int)))], [(0, .ros Step instDatStep p0), (1, .own Step instDatStep s.1)]⟩) (fun s => s.2 ≤ p0.length ∧ s.1.length = p0.length) (fun s => p0.length - s.2) ((List.replicate p0.length (Step.mk 0 (Call.mk 0 ⟨#[]⟩ ⟨#[]⟩ 0 0 ⟨#[]⟩))), 0) [0, 1] [1, 0] hM (by first | exact ⟨by omega, by simp⟩ | omega | simp | (dsimp only; omega)) su (by decide) ?_
  rintro ⟨w1, i⟩ hv hE
  try dsimp only at hE
  obtain ⟨hi, hv0⟩ := hv
  try dsimp only at hi hv0
  refine ad 8 ?_
  refine cd (fun h1 => ?_) (fun h1 => ?_)
  ·
    have h1l : i < p0.length := by have := of_decide_eq_true h1; omega
    have hM := hE.trans ((congrArg (fun n => laws_toStepS_l1 p0 n w1 i) (show p0.length - i = (p0.length - (i + 1)) + 1 by omega)).trans (laws_toStepS_l1.eq_2 _ _ _ _))
    refine ad 8 ?_
    have hg3 := good_nth (k := i) hg_p0 om
    refine op (ix (xs := p0) i om) ?_
    refine ad 1 ?_
    have hg4 : Dat.good (nth p0 i : Step) := hg3
    refine og (clg (c_laws_toStep (nth p0 i)) fok205) fun hgq => ?_
    obtain ⟨hg5, _⟩ := hgq
    refine op (oi (xs := w1) i om) ?_
    refine op (se (xs := w1) i (laws_toStep (nth p0 i)) hg5 om) ?_
    refine ad 5 ?_
    rw [wrapN (i := i) (by first | omega | exact om)]
    refine ad 2 ?_
    exact Run.again ((w1.set i (laws_toStep (nth p0 i))), (i + 1)) [0, 3] [2, 0] ⟨by first | omega | exact trivial | (dsimp only; omega) | (refine ⟨by omega, ?_⟩; simp_all; try omega), hM⟩ rfl (by show _ - _ < _ - _; (try dsimp only); omega) su (by decide)
  ·
    have h1l : ¬ (i < p0.length) := by have := of_decide_eq_false h1; omega
    have hM := hE.trans ((congrArg (fun n => laws_toStepS_l1 p0 n w1 i) (show p0.length - i = 0 by omega)).trans (laws_toStepS_l1.eq_1 _ _ _))
    refine ad 6 ?_
    exact rz (rs := [.tmp 2]) (congrArg (fun x => [Re.sl Step instDatStep x]) hM)

/- F127 loop.example/g00974/laws.toEntry -/
def laws_toEntry (p0 : Entry) : Entry := (Entry.mk p0.Seq p0.Kind p0.Tx (laws_toStepS p0.Steps) (laws_toAnswerS p0.Answers) p0.Began p0.Ended p0.Laid)
theorem c_laws_toEntry (p0 : Entry) (hs : Dat.small 1048576 p0) : CTs 127 [.o (.st Entry _ inferInstance p0)] [Re.st Entry _ inferInstance (laws_toEntry p0)] := by
  refine en Tryz.func127 Tryz.ntmps127 fun w hG hgd => ?_
  obtain ⟨hg_p0, _⟩ := hgd
  have hM := laws_toEntry.eq_1 p0
  have hs3 : Dat.small 1048576 p0.Steps := hs.2.2.2.1
  have hs4 : Dat.small 1048576 p0.Answers := hs.2.2.2.2.1
  refine ad 34 ?_
  refine og (clg (c_laws_toStepS p0.Steps (by first | assumption | exact small_nth hs (by omega))) fok178) fun hgq => ?_
  obtain ⟨hg1, _⟩ := hgq
  refine ad 7 ?_
  refine og (clg (c_laws_toAnswerS p0.Answers (by first | assumption | exact small_nth hs (by omega))) fok174) fun hgq => ?_
  obtain ⟨hg2, _⟩ := hgq
  refine ad 29 ?_
  have hg3 : Dat.good (Entry.mk p0.Seq p0.Kind p0.Tx (laws_toStepS p0.Steps) (laws_toAnswerS p0.Answers) p0.Began p0.Ended p0.Laid : Entry) := ⟨hg_p0.1, hg_p0.2.1, hg_p0.2.2.1, hg1, hg2, hg_p0.2.2.2.2.2.1, hg_p0.2.2.2.2.2.2.1, hg_p0.2.2.2.2.2.2.2⟩
  exact rz (rs := [.cell 2 153]) (congrArg (fun x => [Re.st Entry _ inferInstance x]) hM)

/- F55 loop.example/g00974/laws.toEntryS -/
def laws_toEntryS_l1 (p0 : List Entry) : Nat → (List Entry) → Nat → (List Entry)
  | 0, w1, i => w1
  | n + 1, w1, i => laws_toEntryS_l1 p0 n (w1.set i (laws_toEntry (nth p0 i))) (i + 1)
def laws_toEntryS (p0 : List Entry) : (List Entry) := laws_toEntryS_l1 p0 (p0.length - 0) (List.replicate p0.length (Entry.mk 0 0 0 [] [] 0 0 false)) 0
theorem c_laws_toEntryS (p0 : List Entry) (hs : Dat.small 1048576 p0) : CTs 55 [.o (.sl Entry instDatEntry p0)] [Re.sl Entry instDatEntry (laws_toEntryS p0)] := by
  refine en Tryz.func55 Tryz.ntmps55 fun w hG hgd => ?_
  obtain ⟨hg_p0, _⟩ := hgd
  have hl_p0 : p0.length ≤ 9223372036854775807 := hg_p0.1
  have hM := laws_toEntryS.eq_1 p0
  have hs0 : p0.length ≤ 1048576 := hs.1
  refine ad 8 ?_
  refine op (ma p0.length (Entry.mk 0 0 0 [] [] 0 0 false) (ho := gdz)) ?_
  refine ad 8 ?_
  refine Run.loopM (ι := (List Entry) × Nat) (fun s => laws_toEntryS_l1 p0 (p0.length - s.2) s.1 s.2) (fun s => ⟨23, 2, [(0, .sl 0 p0.length), (3, .sl 1 s.1.length), (4, .v (.int .i64 (s.2 : Int)))], [(0, .ros Entry instDatEntry p0), (1, .own Entry instDatEntry s.1)]⟩) (fun s => s.2 ≤ p0.length ∧ s.1.length = p0.length) (fun s => p0.length - s.2) ((List.replicate p0.length (Entry.mk 0 0 0 [] [] 0 0 false)), 0) [0, 1] [1, 0] hM (by first | exact ⟨by omega, by simp⟩ | omega | simp | (dsimp only; omega)) su (by decide) ?_
  rintro ⟨w1, i⟩ hv hE
  try dsimp only at hE
  obtain ⟨hi, hv0⟩ := hv
  try dsimp only at hi hv0
  refine ad 8 ?_
  refine cd (fun h1 => ?_) (fun h1 => ?_)
  ·
    have h1l : i < p0.length := by have := of_decide_eq_true h1; omega
    have hM := hE.trans ((congrArg (fun n => laws_toEntryS_l1 p0 n w1 i) (show p0.length - i = (p0.length - (i + 1)) + 1 by omega)).trans (laws_toEntryS_l1.eq_2 _ _ _ _))
    refine ad 8 ?_
    have hg3 := good_nth (k := i) hg_p0 om
    refine op (ix (xs := p0) i om) ?_
    refine ad 1 ?_
    have hg4 : Dat.good (nth p0 i : Entry) := hg3
    refine og (clg (c_laws_toEntry (nth p0 i) (by first | assumption | exact small_nth hs (by omega))) fok127) fun hgq => ?_
    obtain ⟨hg5, _⟩ := hgq
    refine op (oi (xs := w1) i om) ?_
    refine op (se (xs := w1) i (laws_toEntry (nth p0 i)) hg5 om) ?_
    refine ad 5 ?_
    rw [wrapN (i := i) (by first | omega | exact om)]
    refine ad 2 ?_
    exact Run.again ((w1.set i (laws_toEntry (nth p0 i))), (i + 1)) [0, 7] [4, 0] ⟨by first | omega | exact trivial | (dsimp only; omega) | (refine ⟨by omega, ?_⟩; simp_all; try omega), hM⟩ rfl (by show _ - _ < _ - _; (try dsimp only); omega) su (by decide)
  ·
    have h1l : ¬ (i < p0.length) := by have := of_decide_eq_false h1; omega
    have hM := hE.trans ((congrArg (fun n => laws_toEntryS_l1 p0 n w1 i) (show p0.length - i = 0 by omega)).trans (laws_toEntryS_l1.eq_1 _ _ _))
    refine ad 6 ?_
    exact rz (rs := [.tmp 2]) (congrArg (fun x => [Re.sl Entry instDatEntry x]) hM)

/- F10 loop.example/g00974/laws.toKernel -/
def laws_toKernel (p0 : Kernel) : Kernel := (Kernel.mk (laws_toCellS p0.Store) (laws_toTxS p0.Txs) (laws_toDisk p0.Disk) p0.Seq p0.Next p0.Time (laws_toEntryS p0.History) (laws_toStringS p0.Seen) p0.Room)
theorem c_laws_toKernel (p0 : Kernel) (hs : Dat.small 1048576 p0) : CTs 10 [.o (.st Kernel _ inferInstance p0)] [Re.st Kernel _ inferInstance (laws_toKernel p0)] := by
  refine en Tryz.func10 Tryz.ntmps10 fun w hG hgd => ?_
  obtain ⟨hg_p0, _⟩ := hgd
  have hM := laws_toKernel.eq_1 p0
  have hs0 : Dat.small 1048576 p0.Store := hs.1
  have hs1 : Dat.small 1048576 p0.Txs := hs.2.1
  have hs2 : Dat.small 1048576 p0.Disk := hs.2.2.1
  have hs6 : Dat.small 1048576 p0.History := hs.2.2.2.2.2.2.1
  have hs7 : Dat.small 1048576 p0.Seen := hs.2.2.2.2.2.2.2.1
  refine ad 13 ?_
  refine og (clg (c_laws_toCellS p0.Store (by first | assumption | exact small_nth hs (by omega))) fok52) fun hgq => ?_
  obtain ⟨hg1, _⟩ := hgq
  refine ad 7 ?_
  refine og (clg (c_laws_toTxS p0.Txs (by first | assumption | exact small_nth hs (by omega))) fok53) fun hgq => ?_
  obtain ⟨hg2, _⟩ := hgq
  refine ad 7 ?_
  have hg3 : Dat.good (p0.Disk : Disk) := hg_p0.2.2.1
  refine og (clg (c_laws_toDisk p0.Disk (by first | assumption | exact small_nth hs (by omega))) fok54) fun hgq => ?_
  obtain ⟨hg4, _⟩ := hgq
  refine ad 28 ?_
  refine og (clg (c_laws_toEntryS p0.History (by first | assumption | exact small_nth hs (by omega))) fok55) fun hgq => ?_
  obtain ⟨hg5, _⟩ := hgq
  refine ad 7 ?_
  refine og (clg (c_laws_toStringS p0.Seen (by first | assumption | exact small_nth hs (by omega))) fok56) fun hgq => ?_
  obtain ⟨hg6, _⟩ := hgq
  refine ad 15 ?_
  have hg7 : Dat.good (Kernel.mk (laws_toCellS p0.Store) (laws_toTxS p0.Txs) (laws_toDisk p0.Disk) p0.Seq p0.Next p0.Time (laws_toEntryS p0.History) (laws_toStringS p0.Seen) p0.Room : Kernel) := ⟨hg1, hg2, hg4, hg_p0.2.2.2.1, hg_p0.2.2.2.2.1, hg_p0.2.2.2.2.2.1, hg5, hg6, hg_p0.2.2.2.2.2.2.2.2⟩
  exact rz (rs := [.cell 2 43]) (congrArg (fun x => [Re.st Kernel _ inferInstance x]) hM)

/- F133 loop.example/g00974/laws.eqCell -/
def laws_eqCell (p0 : Cell) (p1 : Cell) : Bool := bif !decide (p0.Key = p1.Key) then false else (bif !decide (p0.Val = p1.Val) then false else true)
theorem c_laws_eqCell (p0 : Cell) (p1 : Cell) : CTs 133 [.o (.st Cell _ inferInstance p0), .o (.st Cell _ inferInstance p1)] [Re.c (.bool (laws_eqCell p0 p1))] := by
  refine en Tryz.func133 Tryz.ntmps133 fun w hG hgd => ?_
  obtain ⟨hg_p0, hg_p1, _⟩ := hgd
  have hM := laws_eqCell.eq_1 p0 p1
  refine ad 15 ?_
  refine cd (fun h1 => ?_) (fun h1 => ?_)
  ·
    have hM := hM.trans (bt h1)
    refine ad 4 ?_
    exact rz (rs := [.tmp 4]) (congrArg (fun x => [Re.c (.bool x)]) hM)
  ·
    have hM := hM.trans (bf h1)
    refine ad 10 ?_
    refine cd (fun h2 => ?_) (fun h2 => ?_)
    ·
      have hM := hM.trans (bt h2)
      refine ad 4 ?_
      exact rz (rs := [.tmp 4]) (congrArg (fun x => [Re.c (.bool x)]) hM)
    ·
      have hM := hM.trans (bf h2)
      refine ad 5 ?_
      exact rz (rs := [.tmp 4]) (congrArg (fun x => [Re.c (.bool x)]) hM)

/- F62 loop.example/g00974/laws.eqCellS -/
def laws_eqCellS_l1 (p0 : List Cell) (p1 : List Cell) : Nat → Nat → Bool
  | 0, i => true
  | n + 1, i => bif !(laws_eqCell (nth p0 i) (nth p1 i)) then false else (laws_eqCellS_l1 p0 p1 n (i + 1))
def laws_eqCellS (p0 : List Cell) (p1 : List Cell) : Bool := bif !decide ((p0.length : Int) = (p1.length : Int)) then false else (laws_eqCellS_l1 p0 p1 (p0.length - 0) 0)
theorem c_laws_eqCellS (p0 : List Cell) (p1 : List Cell) : CTs 62 [.o (.sl Cell instDatCell p0), .o (.sl Cell instDatCell p1)] [Re.c (.bool (laws_eqCellS p0 p1))] := by
  refine en Tryz.func62 Tryz.ntmps62 fun w hG hgd => ?_
  obtain ⟨hg_p0, hg_p1, _⟩ := hgd
  have hl_p0 : p0.length ≤ 9223372036854775807 := hg_p0.1
  have hl_p1 : p1.length ≤ 9223372036854775807 := hg_p1.1
  have hM := laws_eqCellS.eq_1 p0 p1
  refine ad 13 ?_
  refine cd (fun h1 => ?_) (fun h1 => ?_)
  ·
    have hM := hM.trans (bt h1)
    refine ad 4 ?_
    exact rz (rs := [.tmp 4]) (congrArg (fun x => [Re.c (.bool x)]) hM)
  ·
    have hM := hM.trans (bf h1)
    refine ad 7 ?_
    refine Run.loopM (ι := Nat) (fun s => laws_eqCellS_l1 p0 p1 (p0.length - s) s) (fun s => ⟨27, 2, [(0, .sl 0 p0.length), (1, .sl 1 p1.length), (5, .v (.int .i64 (s : Int)))], [(0, .ros Cell instDatCell p0), (1, .ros Cell instDatCell p1)]⟩) (fun s => s ≤ p0.length) (fun s => p0.length - s) 0 [0, 1] [0, 1] hM (by first | exact ⟨by omega, by simp⟩ | omega | simp | (dsimp only; omega)) su (by decide) ?_
    rintro i hv hE
    try dsimp only at hE
    have hi := hv
    try dsimp only at hi
    refine ad 8 ?_
    refine cd (fun h2 => ?_) (fun h2 => ?_)
    ·
      have h2l : i < p0.length := by have := of_decide_eq_true h2; omega
      have hM := hE.trans ((congrArg (fun n => laws_eqCellS_l1 p0 p1 n i) (show p0.length - i = (p0.length - (i + 1)) + 1 by omega)).trans (laws_eqCellS_l1.eq_2 _ _ _ _))
      refine ad 4 ?_
      refine dr 10 fun _ _ _ _ _ hb => ?_
      refine tk [0, 1] ?_
      have hg3 := good_nth (k := i) hg_p0 om
      refine tx 2 (dx (xs := p0) i om) ?_
      refine tk [3, 4, 5] ?_
      have hg4 := good_nth (k := i) hg_p1 om
      refine tx 6 (dx (xs := p1) i om) ?_
      refine tk [7] ?_
      have hg5 : Dat.good (nth p0 i : Cell) := hg3
      have hg6 : Dat.good (nth p1 i : Cell) := hg4
      refine on 8 [2, 3] (cl (c_laws_eqCell (nth p0 i) (nth p1 i)) fok133) ?_
      refine tk [9] ?_
      refine dn hb ?_
      refine cd (fun h7 => ?_) (fun h7 => ?_)
      ·
        have hM := hM.trans (bt h7)
        refine ad 4 ?_
        exact rz (rs := [.tmp 4]) (congrArg (fun x => [Re.c (.bool x)]) hM)
      ·
        have hM := hM.trans (bf h7)
        refine ad 5 ?_
        rw [wrapN (i := i) (by first | omega | exact om)]
        refine ad 2 ?_
        exact Run.again (i + 1) [0, 1] [2, 3] ⟨by first | omega | exact trivial | (dsimp only; omega) | (refine ⟨by omega, ?_⟩; simp_all; try omega), hM⟩ rfl (by show _ - _ < _ - _; (try dsimp only); omega) su (by decide)
    ·
      have h2l : ¬ (i < p0.length) := by have := of_decide_eq_false h2; omega
      have hM := hE.trans ((congrArg (fun n => laws_eqCellS_l1 p0 p1 n i) (show p0.length - i = 0 by omega)).trans (laws_eqCellS_l1.eq_1 _ _ _))
      refine ad 5 ?_
      exact rz (rs := [.tmp 4]) (congrArg (fun x => [Re.c (.bool x)]) hM)

/- F166 loop.example/g00974/laws.eqCall -/
def laws_eqCall (p0 : Call) (p1 : Call) : Bool := bif !decide (p0.Kind = p1.Kind) then false else (bif !decide (p0.Name = p1.Name) then false else (bif !decide (p0.To = p1.To) then false else (bif !decide (p0.A = p1.A) then false else (bif !decide (p0.B = p1.B) then false else (bif !decide (p0.Text = p1.Text) then false else true)))))
theorem c_laws_eqCall (p0 : Call) (p1 : Call) : CTs 166 [.o (.st Call _ inferInstance p0), .o (.st Call _ inferInstance p1)] [Re.c (.bool (laws_eqCall p0 p1))] := by
  refine en Tryz.func166 Tryz.ntmps166 fun w hG hgd => ?_
  obtain ⟨hg_p0, hg_p1, _⟩ := hgd
  have hM := laws_eqCall.eq_1 p0 p1
  refine ad 15 ?_
  refine cd (fun h1 => ?_) (fun h1 => ?_)
  ·
    have hM := hM.trans (bt h1)
    refine ad 4 ?_
    exact rz (rs := [.tmp 4]) (congrArg (fun x => [Re.c (.bool x)]) hM)
  ·
    have hM := hM.trans (bf h1)
    refine ad 10 ?_
    refine cd (fun h2 => ?_) (fun h2 => ?_)
    ·
      have hM := hM.trans (bt h2)
      refine ad 4 ?_
      exact rz (rs := [.tmp 4]) (congrArg (fun x => [Re.c (.bool x)]) hM)
    ·
      have hM := hM.trans (bf h2)
      refine ad 10 ?_
      refine cd (fun h3 => ?_) (fun h3 => ?_)
      ·
        have hM := hM.trans (bt h3)
        refine ad 4 ?_
        exact rz (rs := [.tmp 4]) (congrArg (fun x => [Re.c (.bool x)]) hM)
      ·
        have hM := hM.trans (bf h3)
        refine ad 10 ?_
        refine cd (fun h4 => ?_) (fun h4 => ?_)
        ·
          have hM := hM.trans (bt h4)
          refine ad 4 ?_
          exact rz (rs := [.tmp 4]) (congrArg (fun x => [Re.c (.bool x)]) hM)
        ·
          have hM := hM.trans (bf h4)
          refine ad 10 ?_
          refine cd (fun h5 => ?_) (fun h5 => ?_)
          ·
            have hM := hM.trans (bt h5)
            refine ad 4 ?_
            exact rz (rs := [.tmp 4]) (congrArg (fun x => [Re.c (.bool x)]) hM)
          ·
            have hM := hM.trans (bf h5)
            refine ad 10 ?_
            refine cd (fun h6 => ?_) (fun h6 => ?_)
            ·
              have hM := hM.trans (bt h6)
              refine ad 4 ?_
              exact rz (rs := [.tmp 4]) (congrArg (fun x => [Re.c (.bool x)]) hM)
            ·
              have hM := hM.trans (bf h6)
              refine ad 5 ?_
              exact rz (rs := [.tmp 4]) (congrArg (fun x => [Re.c (.bool x)]) hM)

/- F183 loop.example/g00974/laws.eqCallS -/
def laws_eqCallS_l1 (p0 : List Call) (p1 : List Call) : Nat → Nat → Bool
  | 0, i => true
  | n + 1, i => bif !(laws_eqCall (nth p0 i) (nth p1 i)) then false else (laws_eqCallS_l1 p0 p1 n (i + 1))
def laws_eqCallS (p0 : List Call) (p1 : List Call) : Bool := bif !decide ((p0.length : Int) = (p1.length : Int)) then false else (laws_eqCallS_l1 p0 p1 (p0.length - 0) 0)
theorem c_laws_eqCallS (p0 : List Call) (p1 : List Call) : CTs 183 [.o (.sl Call instDatCall p0), .o (.sl Call instDatCall p1)] [Re.c (.bool (laws_eqCallS p0 p1))] := by
  refine en Tryz.func183 Tryz.ntmps183 fun w hG hgd => ?_
  obtain ⟨hg_p0, hg_p1, _⟩ := hgd
  have hl_p0 : p0.length ≤ 9223372036854775807 := hg_p0.1
  have hl_p1 : p1.length ≤ 9223372036854775807 := hg_p1.1
  have hM := laws_eqCallS.eq_1 p0 p1
  refine ad 13 ?_
  refine cd (fun h1 => ?_) (fun h1 => ?_)
  ·
    have hM := hM.trans (bt h1)
    refine ad 4 ?_
    exact rz (rs := [.tmp 4]) (congrArg (fun x => [Re.c (.bool x)]) hM)
  ·
    have hM := hM.trans (bf h1)
    refine ad 7 ?_
    refine Run.loopM (ι := Nat) (fun s => laws_eqCallS_l1 p0 p1 (p0.length - s) s) (fun s => ⟨27, 2, [(0, .sl 0 p0.length), (1, .sl 1 p1.length), (5, .v (.int .i64 (s : Int)))], [(0, .ros Call instDatCall p0), (1, .ros Call instDatCall p1)]⟩) (fun s => s ≤ p0.length) (fun s => p0.length - s) 0 [0, 1] [0, 1] hM (by first | exact ⟨by omega, by simp⟩ | omega | simp | (dsimp only; omega)) su (by decide) ?_
    rintro i hv hE
    try dsimp only at hE
    have hi := hv
    try dsimp only at hi
    refine ad 8 ?_
    refine cd (fun h2 => ?_) (fun h2 => ?_)
    ·
      have h2l : i < p0.length := by have := of_decide_eq_true h2; omega
      have hM := hE.trans ((congrArg (fun n => laws_eqCallS_l1 p0 p1 n i) (show p0.length - i = (p0.length - (i + 1)) + 1 by omega)).trans (laws_eqCallS_l1.eq_2 _ _ _ _))
      refine ad 4 ?_
      refine dr 10 fun _ _ _ _ _ hb => ?_
      refine tk [0, 1] ?_
      have hg3 := good_nth (k := i) hg_p0 om
      refine tx 2 (dx (xs := p0) i om) ?_
      refine tk [3, 4, 5] ?_
      have hg4 := good_nth (k := i) hg_p1 om
      refine tx 6 (dx (xs := p1) i om) ?_
      refine tk [7] ?_
      have hg5 : Dat.good (nth p0 i : Call) := hg3
      have hg6 : Dat.good (nth p1 i : Call) := hg4
      refine on 8 [2, 3] (cl (c_laws_eqCall (nth p0 i) (nth p1 i)) fok166) ?_
      refine tk [9] ?_
      refine dn hb ?_
      refine cd (fun h7 => ?_) (fun h7 => ?_)
      ·
        have hM := hM.trans (bt h7)
        refine ad 4 ?_
        exact rz (rs := [.tmp 4]) (congrArg (fun x => [Re.c (.bool x)]) hM)
      ·
        have hM := hM.trans (bf h7)
        refine ad 5 ?_
        rw [wrapN (i := i) (by first | omega | exact om)]
        refine ad 2 ?_
        exact Run.again (i + 1) [0, 1] [2, 3] ⟨by first | omega | exact trivial | (dsimp only; omega) | (refine ⟨by omega, ?_⟩; simp_all; try omega), hM⟩ rfl (by show _ - _ < _ - _; (try dsimp only); omega) su (by decide)
    ·
      have h2l : ¬ (i < p0.length) := by have := of_decide_eq_false h2; omega
      have hM := hE.trans ((congrArg (fun n => laws_eqCallS_l1 p0 p1 n i) (show p0.length - i = 0 by omega)).trans (laws_eqCallS_l1.eq_1 _ _ _))
      refine ad 5 ?_
      exact rz (rs := [.tmp 4]) (congrArg (fun x => [Re.c (.bool x)]) hM)

/- F210 loop.example/g00974/laws.eqAnswer -/
def laws_eqAnswer (p0 : Answer) (p1 : Answer) : Bool := bif !decide (p0.Code = p1.Code) then false else (bif !decide (p0.N = p1.N) then false else (bif !decide (p0.Text = p1.Text) then false else true))
theorem c_laws_eqAnswer (p0 : Answer) (p1 : Answer) : CTs 210 [.o (.st Answer _ inferInstance p0), .o (.st Answer _ inferInstance p1)] [Re.c (.bool (laws_eqAnswer p0 p1))] := by
  refine en Tryz.func210 Tryz.ntmps210 fun w hG hgd => ?_
  obtain ⟨hg_p0, hg_p1, _⟩ := hgd
  have hM := laws_eqAnswer.eq_1 p0 p1
  refine ad 15 ?_
  refine cd (fun h1 => ?_) (fun h1 => ?_)
  ·
    have hM := hM.trans (bt h1)
    refine ad 4 ?_
    exact rz (rs := [.tmp 4]) (congrArg (fun x => [Re.c (.bool x)]) hM)
  ·
    have hM := hM.trans (bf h1)
    refine ad 10 ?_
    refine cd (fun h2 => ?_) (fun h2 => ?_)
    ·
      have hM := hM.trans (bt h2)
      refine ad 4 ?_
      exact rz (rs := [.tmp 4]) (congrArg (fun x => [Re.c (.bool x)]) hM)
    ·
      have hM := hM.trans (bf h2)
      refine ad 10 ?_
      refine cd (fun h3 => ?_) (fun h3 => ?_)
      ·
        have hM := hM.trans (bt h3)
        refine ad 4 ?_
        exact rz (rs := [.tmp 4]) (congrArg (fun x => [Re.c (.bool x)]) hM)
      ·
        have hM := hM.trans (bf h3)
        refine ad 5 ?_
        exact rz (rs := [.tmp 4]) (congrArg (fun x => [Re.c (.bool x)]) hM)

/- F184 loop.example/g00974/laws.eqAnswerS -/
def laws_eqAnswerS_l1 (p0 : List Answer) (p1 : List Answer) : Nat → Nat → Bool
  | 0, i => true
  | n + 1, i => bif !(laws_eqAnswer (nth p0 i) (nth p1 i)) then false else (laws_eqAnswerS_l1 p0 p1 n (i + 1))
def laws_eqAnswerS (p0 : List Answer) (p1 : List Answer) : Bool := bif !decide ((p0.length : Int) = (p1.length : Int)) then false else (laws_eqAnswerS_l1 p0 p1 (p0.length - 0) 0)
theorem c_laws_eqAnswerS (p0 : List Answer) (p1 : List Answer) : CTs 184 [.o (.sl Answer instDatAnswer p0), .o (.sl Answer instDatAnswer p1)] [Re.c (.bool (laws_eqAnswerS p0 p1))] := by
  refine en Tryz.func184 Tryz.ntmps184 fun w hG hgd => ?_
  obtain ⟨hg_p0, hg_p1, _⟩ := hgd
  have hl_p0 : p0.length ≤ 9223372036854775807 := hg_p0.1
  have hl_p1 : p1.length ≤ 9223372036854775807 := hg_p1.1
  have hM := laws_eqAnswerS.eq_1 p0 p1
  refine ad 13 ?_
  refine cd (fun h1 => ?_) (fun h1 => ?_)
  ·
    have hM := hM.trans (bt h1)
    refine ad 4 ?_
    exact rz (rs := [.tmp 4]) (congrArg (fun x => [Re.c (.bool x)]) hM)
  ·
    have hM := hM.trans (bf h1)
    refine ad 7 ?_
    refine Run.loopM (ι := Nat) (fun s => laws_eqAnswerS_l1 p0 p1 (p0.length - s) s) (fun s => ⟨27, 2, [(0, .sl 0 p0.length), (1, .sl 1 p1.length), (5, .v (.int .i64 (s : Int)))], [(0, .ros Answer instDatAnswer p0), (1, .ros Answer instDatAnswer p1)]⟩) (fun s => s ≤ p0.length) (fun s => p0.length - s) 0 [0, 1] [0, 1] hM (by first | exact ⟨by omega, by simp⟩ | omega | simp | (dsimp only; omega)) su (by decide) ?_
    rintro i hv hE
    try dsimp only at hE
    have hi := hv
    try dsimp only at hi
    refine ad 8 ?_
    refine cd (fun h2 => ?_) (fun h2 => ?_)
    ·
      have h2l : i < p0.length := by have := of_decide_eq_true h2; omega
      have hM := hE.trans ((congrArg (fun n => laws_eqAnswerS_l1 p0 p1 n i) (show p0.length - i = (p0.length - (i + 1)) + 1 by omega)).trans (laws_eqAnswerS_l1.eq_2 _ _ _ _))
      refine ad 4 ?_
      refine dr 10 fun _ _ _ _ _ hb => ?_
      refine tk [0, 1] ?_
      have hg3 := good_nth (k := i) hg_p0 om
      refine tx 2 (dx (xs := p0) i om) ?_
      refine tk [3, 4, 5] ?_
      have hg4 := good_nth (k := i) hg_p1 om
      refine tx 6 (dx (xs := p1) i om) ?_
      refine tk [7] ?_
      have hg5 : Dat.good (nth p0 i : Answer) := hg3
      have hg6 : Dat.good (nth p1 i : Answer) := hg4
      refine on 8 [2, 3] (cl (c_laws_eqAnswer (nth p0 i) (nth p1 i)) fok210) ?_
      refine tk [9] ?_
      refine dn hb ?_
      refine cd (fun h7 => ?_) (fun h7 => ?_)
      ·
        have hM := hM.trans (bt h7)
        refine ad 4 ?_
        exact rz (rs := [.tmp 4]) (congrArg (fun x => [Re.c (.bool x)]) hM)
      ·
        have hM := hM.trans (bf h7)
        refine ad 5 ?_
        rw [wrapN (i := i) (by first | omega | exact om)]
        refine ad 2 ?_
        exact Run.again (i + 1) [0, 1] [2, 3] ⟨by first | omega | exact trivial | (dsimp only; omega) | (refine ⟨by omega, ?_⟩; simp_all; try omega), hM⟩ rfl (by show _ - _ < _ - _; (try dsimp only); omega) su (by decide)
    ·
      have h2l : ¬ (i < p0.length) := by have := of_decide_eq_false h2; omega
      have hM := hE.trans ((congrArg (fun n => laws_eqAnswerS_l1 p0 p1 n i) (show p0.length - i = 0 by omega)).trans (laws_eqAnswerS_l1.eq_1 _ _ _))
      refine ad 5 ?_
      exact rz (rs := [.tmp 4]) (congrArg (fun x => [Re.c (.bool x)]) hM)

/- F12 loop.example/g00974/laws.eqStringS -/
def laws_eqStringS_l1 (p0 : List ByteArray) (p1 : List ByteArray) : Nat → Nat → Bool
  | 0, i => true
  | n + 1, i => bif !decide ((nth p0 i) = (nth p1 i)) then false else (laws_eqStringS_l1 p0 p1 n (i + 1))
def laws_eqStringS (p0 : List ByteArray) (p1 : List ByteArray) : Bool := bif !decide ((p0.length : Int) = (p1.length : Int)) then false else (laws_eqStringS_l1 p0 p1 (p0.length - 0) 0)
theorem c_laws_eqStringS (p0 : List ByteArray) (p1 : List ByteArray) : CTs 12 [.o (.sl ByteArray instDatByteArray p0), .o (.sl ByteArray instDatByteArray p1)] [Re.c (.bool (laws_eqStringS p0 p1))] := by
  refine en Tryz.func12 Tryz.ntmps12 fun w hG hgd => ?_
  obtain ⟨hg_p0, hg_p1, _⟩ := hgd
  have hl_p0 : p0.length ≤ 9223372036854775807 := hg_p0.1
  have hl_p1 : p1.length ≤ 9223372036854775807 := hg_p1.1
  have hM := laws_eqStringS.eq_1 p0 p1
  refine ad 13 ?_
  refine cd (fun h1 => ?_) (fun h1 => ?_)
  ·
    have hM := hM.trans (bt h1)
    refine ad 4 ?_
    exact rz (rs := [.tmp 4]) (congrArg (fun x => [Re.c (.bool x)]) hM)
  ·
    have hM := hM.trans (bf h1)
    refine ad 7 ?_
    refine Run.loopM (ι := Nat) (fun s => laws_eqStringS_l1 p0 p1 (p0.length - s) s) (fun s => ⟨26, 2, [(0, .sl 0 p0.length), (1, .sl 1 p1.length), (5, .v (.int .i64 (s : Int)))], [(0, .ros ByteArray instDatByteArray p0), (1, .ros ByteArray instDatByteArray p1)]⟩) (fun s => s ≤ p0.length) (fun s => p0.length - s) 0 [0, 1] [0, 1] hM (by first | exact ⟨by omega, by simp⟩ | omega | simp | (dsimp only; omega)) su (by decide) ?_
    rintro i hv hE
    try dsimp only at hE
    have hi := hv
    try dsimp only at hi
    refine ad 8 ?_
    refine cd (fun h2 => ?_) (fun h2 => ?_)
    ·
      have h2l : i < p0.length := by have := of_decide_eq_true h2; omega
      have hM := hE.trans ((congrArg (fun n => laws_eqStringS_l1 p0 p1 n i) (show p0.length - i = (p0.length - (i + 1)) + 1 by omega)).trans (laws_eqStringS_l1.eq_2 _ _ _ _))
      refine ad 4 ?_
      refine dr 9 fun _ _ _ _ _ hb => ?_
      refine tk [0, 1] ?_
      have hg3 := good_nth (k := i) hg_p0 om
      refine tx 2 (dx (xs := p0) i om) ?_
      refine tk [3, 4, 5] ?_
      have hg4 := good_nth (k := i) hg_p1 om
      refine tx 6 (dx (xs := p1) i om) ?_
      refine tk [7, 8] ?_
      refine dn hb ?_
      refine cd (fun h5 => ?_) (fun h5 => ?_)
      ·
        have hM := hM.trans (bt h5)
        refine ad 4 ?_
        exact rz (rs := [.tmp 4]) (congrArg (fun x => [Re.c (.bool x)]) hM)
      ·
        have hM := hM.trans (bf h5)
        refine ad 5 ?_
        rw [wrapN (i := i) (by first | omega | exact om)]
        refine ad 2 ?_
        exact Run.again (i + 1) [0, 1] [2, 3] ⟨by first | omega | exact trivial | (dsimp only; omega) | (refine ⟨by omega, ?_⟩; simp_all; try omega), hM⟩ rfl (by show _ - _ < _ - _; (try dsimp only); omega) su (by decide)
    ·
      have h2l : ¬ (i < p0.length) := by have := of_decide_eq_false h2; omega
      have hM := hE.trans ((congrArg (fun n => laws_eqStringS_l1 p0 p1 n i) (show p0.length - i = 0 by omega)).trans (laws_eqStringS_l1.eq_1 _ _ _))
      refine ad 5 ?_
      exact rz (rs := [.tmp 4]) (congrArg (fun x => [Re.c (.bool x)]) hM)

/- F185 loop.example/g00974/laws.eqTouch -/
def laws_eqTouch (p0 : Touch) (p1 : Touch) : Bool := bif !(laws_eqStringS p0.Reads p1.Reads) then false else (bif !(laws_eqStringS p0.Writes p1.Writes) then false else true)
theorem c_laws_eqTouch (p0 : Touch) (p1 : Touch) : CTs 185 [.o (.st Touch _ inferInstance p0), .o (.st Touch _ inferInstance p1)] [Re.c (.bool (laws_eqTouch p0 p1))] := by
  refine en Tryz.func185 Tryz.ntmps185 fun w hG hgd => ?_
  obtain ⟨hg_p0, hg_p1, _⟩ := hgd
  have hM := laws_eqTouch.eq_1 p0 p1
  refine ad 13 ?_
  refine op (cl (c_laws_eqStringS p0.Reads p1.Reads) fok12) ?_
  refine ad 2 ?_
  refine cd (fun h1 => ?_) (fun h1 => ?_)
  ·
    have hM := hM.trans (bt h1)
    refine ad 4 ?_
    exact rz (rs := [.tmp 4]) (congrArg (fun x => [Re.c (.bool x)]) hM)
  ·
    have hM := hM.trans (bf h1)
    refine ad 8 ?_
    refine op (cl (c_laws_eqStringS p0.Writes p1.Writes) fok12) ?_
    refine ad 2 ?_
    refine cd (fun h2 => ?_) (fun h2 => ?_)
    ·
      have hM := hM.trans (bt h2)
      refine ad 4 ?_
      exact rz (rs := [.tmp 4]) (congrArg (fun x => [Re.c (.bool x)]) hM)
    ·
      have hM := hM.trans (bf h2)
      refine ad 5 ?_
      exact rz (rs := [.tmp 4]) (congrArg (fun x => [Re.c (.bool x)]) hM)

/- F186 loop.example/g00974/laws.eqIntS -/
def laws_eqIntS_l1 (p0 : List Int) (p1 : List Int) : Nat → Nat → Bool
  | 0, i => true
  | n + 1, i => bif !decide ((nth p0 i) = (nth p1 i)) then false else (laws_eqIntS_l1 p0 p1 n (i + 1))
def laws_eqIntS (p0 : List Int) (p1 : List Int) : Bool := bif !decide ((p0.length : Int) = (p1.length : Int)) then false else (laws_eqIntS_l1 p0 p1 (p0.length - 0) 0)
theorem c_laws_eqIntS (p0 : List Int) (p1 : List Int) : CTs 186 [.o (.sl Int instDatInt p0), .o (.sl Int instDatInt p1)] [Re.c (.bool (laws_eqIntS p0 p1))] := by
  refine en Tryz.func186 Tryz.ntmps186 fun w hG hgd => ?_
  obtain ⟨hg_p0, hg_p1, _⟩ := hgd
  have hl_p0 : p0.length ≤ 9223372036854775807 := hg_p0.1
  have hl_p1 : p1.length ≤ 9223372036854775807 := hg_p1.1
  have hM := laws_eqIntS.eq_1 p0 p1
  refine ad 13 ?_
  refine cd (fun h1 => ?_) (fun h1 => ?_)
  ·
    have hM := hM.trans (bt h1)
    refine ad 4 ?_
    exact rz (rs := [.tmp 4]) (congrArg (fun x => [Re.c (.bool x)]) hM)
  ·
    have hM := hM.trans (bf h1)
    refine ad 7 ?_
    refine Run.loopM (ι := Nat) (fun s => laws_eqIntS_l1 p0 p1 (p0.length - s) s) (fun s => ⟨26, 2, [(0, .sl 0 p0.length), (1, .sl 1 p1.length), (5, .v (.int .i64 (s : Int)))], [(0, .ros Int instDatInt p0), (1, .ros Int instDatInt p1)]⟩) (fun s => s ≤ p0.length) (fun s => p0.length - s) 0 [0, 1] [0, 1] hM (by first | exact ⟨by omega, by simp⟩ | omega | simp | (dsimp only; omega)) su (by decide) ?_
    rintro i hv hE
    try dsimp only at hE
    have hi := hv
    try dsimp only at hi
    refine ad 8 ?_
    refine cd (fun h2 => ?_) (fun h2 => ?_)
    ·
      have h2l : i < p0.length := by have := of_decide_eq_true h2; omega
      have hM := hE.trans ((congrArg (fun n => laws_eqIntS_l1 p0 p1 n i) (show p0.length - i = (p0.length - (i + 1)) + 1 by omega)).trans (laws_eqIntS_l1.eq_2 _ _ _ _))
      refine ad 4 ?_
      refine dr 9 fun _ _ _ _ _ hb => ?_
      refine tk [0, 1] ?_
      have hg3 := good_nth (k := i) hg_p0 om
      refine tx 2 (dx (xs := p0) i om) ?_
      refine tk [3, 4, 5] ?_
      have hg4 := good_nth (k := i) hg_p1 om
      refine tx 6 (dx (xs := p1) i om) ?_
      refine tk [7, 8] ?_
      refine dn hb ?_
      refine cd (fun h5 => ?_) (fun h5 => ?_)
      ·
        have hM := hM.trans (bt h5)
        refine ad 4 ?_
        exact rz (rs := [.tmp 4]) (congrArg (fun x => [Re.c (.bool x)]) hM)
      ·
        have hM := hM.trans (bf h5)
        refine ad 5 ?_
        rw [wrapN (i := i) (by first | omega | exact om)]
        refine ad 2 ?_
        exact Run.again (i + 1) [0, 1] [2, 3] ⟨by first | omega | exact trivial | (dsimp only; omega) | (refine ⟨by omega, ?_⟩; simp_all; try omega), hM⟩ rfl (by show _ - _ < _ - _; (try dsimp only); omega) su (by decide)
    ·
      have h2l : ¬ (i < p0.length) := by have := of_decide_eq_false h2; omega
      have hM := hE.trans ((congrArg (fun n => laws_eqIntS_l1 p0 p1 n i) (show p0.length - i = 0 by omega)).trans (laws_eqIntS_l1.eq_1 _ _ _))
      refine ad 5 ?_
      exact rz (rs := [.tmp 4]) (congrArg (fun x => [Re.c (.bool x)]) hM)

/- F134 loop.example/g00974/laws.eqTx -/
def laws_eqTx (p0 : Tx) (p1 : Tx) : Bool := bif !decide (p0.Id = p1.Id) then false else (bif !decide (p0.Age = p1.Age) then false else (bif !decide (p0.Proc = p1.Proc) then false else (bif !decide (p0.Began = p1.Began) then false else (bif !(laws_eqCallS p0.Calls p1.Calls) then false else (bif !(laws_eqAnswerS p0.Answers p1.Answers) then false else (bif !(laws_eqTouch p0.Touch p1.Touch) then false else (bif !(laws_eqIntS p0.Marks p1.Marks) then false else (bif !decide (p0.State = p1.State) then false else true))))))))
theorem c_laws_eqTx (p0 : Tx) (p1 : Tx) : CTs 134 [.o (.st Tx _ inferInstance p0), .o (.st Tx _ inferInstance p1)] [Re.c (.bool (laws_eqTx p0 p1))] := by
  refine en Tryz.func134 Tryz.ntmps134 fun w hG hgd => ?_
  obtain ⟨hg_p0, hg_p1, _⟩ := hgd
  have hM := laws_eqTx.eq_1 p0 p1
  refine ad 15 ?_
  refine cd (fun h1 => ?_) (fun h1 => ?_)
  ·
    have hM := hM.trans (bt h1)
    refine ad 4 ?_
    exact rz (rs := [.tmp 4]) (congrArg (fun x => [Re.c (.bool x)]) hM)
  ·
    have hM := hM.trans (bf h1)
    refine ad 10 ?_
    refine cd (fun h2 => ?_) (fun h2 => ?_)
    ·
      have hM := hM.trans (bt h2)
      refine ad 4 ?_
      exact rz (rs := [.tmp 4]) (congrArg (fun x => [Re.c (.bool x)]) hM)
    ·
      have hM := hM.trans (bf h2)
      refine ad 10 ?_
      refine cd (fun h3 => ?_) (fun h3 => ?_)
      ·
        have hM := hM.trans (bt h3)
        refine ad 4 ?_
        exact rz (rs := [.tmp 4]) (congrArg (fun x => [Re.c (.bool x)]) hM)
      ·
        have hM := hM.trans (bf h3)
        refine ad 10 ?_
        refine cd (fun h4 => ?_) (fun h4 => ?_)
        ·
          have hM := hM.trans (bt h4)
          refine ad 4 ?_
          exact rz (rs := [.tmp 4]) (congrArg (fun x => [Re.c (.bool x)]) hM)
        ·
          have hM := hM.trans (bf h4)
          refine ad 8 ?_
          refine op (cl (c_laws_eqCallS p0.Calls p1.Calls) fok183) ?_
          refine ad 2 ?_
          refine cd (fun h5 => ?_) (fun h5 => ?_)
          ·
            have hM := hM.trans (bt h5)
            refine ad 4 ?_
            exact rz (rs := [.tmp 4]) (congrArg (fun x => [Re.c (.bool x)]) hM)
          ·
            have hM := hM.trans (bf h5)
            refine ad 8 ?_
            refine op (cl (c_laws_eqAnswerS p0.Answers p1.Answers) fok184) ?_
            refine ad 2 ?_
            refine cd (fun h6 => ?_) (fun h6 => ?_)
            ·
              have hM := hM.trans (bt h6)
              refine ad 4 ?_
              exact rz (rs := [.tmp 4]) (congrArg (fun x => [Re.c (.bool x)]) hM)
            ·
              have hM := hM.trans (bf h6)
              refine ad 8 ?_
              have hg7 : Dat.good (p0.Touch : Touch) := hg_p0.2.2.2.2.2.2.1
              have hg8 : Dat.good (p1.Touch : Touch) := hg_p1.2.2.2.2.2.2.1
              refine op (cl (c_laws_eqTouch p0.Touch p1.Touch) fok185) ?_
              refine ad 2 ?_
              refine cd (fun h9 => ?_) (fun h9 => ?_)
              ·
                have hM := hM.trans (bt h9)
                refine ad 4 ?_
                exact rz (rs := [.tmp 4]) (congrArg (fun x => [Re.c (.bool x)]) hM)
              ·
                have hM := hM.trans (bf h9)
                refine ad 8 ?_
                refine op (cl (c_laws_eqIntS p0.Marks p1.Marks) fok186) ?_
                refine ad 2 ?_
                refine cd (fun h10 => ?_) (fun h10 => ?_)
                ·
                  have hM := hM.trans (bt h10)
                  refine ad 4 ?_
                  exact rz (rs := [.tmp 4]) (congrArg (fun x => [Re.c (.bool x)]) hM)
                ·
                  have hM := hM.trans (bf h10)
                  refine ad 10 ?_
                  refine cd (fun h11 => ?_) (fun h11 => ?_)
                  ·
                    have hM := hM.trans (bt h11)
                    refine ad 4 ?_
                    exact rz (rs := [.tmp 4]) (congrArg (fun x => [Re.c (.bool x)]) hM)
                  ·
                    have hM := hM.trans (bf h11)
                    refine ad 5 ?_
                    exact rz (rs := [.tmp 4]) (congrArg (fun x => [Re.c (.bool x)]) hM)

/- F63 loop.example/g00974/laws.eqTxS -/
def laws_eqTxS_l1 (p0 : List Tx) (p1 : List Tx) : Nat → Nat → Bool
  | 0, i => true
  | n + 1, i => bif !(laws_eqTx (nth p0 i) (nth p1 i)) then false else (laws_eqTxS_l1 p0 p1 n (i + 1))
def laws_eqTxS (p0 : List Tx) (p1 : List Tx) : Bool := bif !decide ((p0.length : Int) = (p1.length : Int)) then false else (laws_eqTxS_l1 p0 p1 (p0.length - 0) 0)
theorem c_laws_eqTxS (p0 : List Tx) (p1 : List Tx) : CTs 63 [.o (.sl Tx instDatTx p0), .o (.sl Tx instDatTx p1)] [Re.c (.bool (laws_eqTxS p0 p1))] := by
  refine en Tryz.func63 Tryz.ntmps63 fun w hG hgd => ?_
  obtain ⟨hg_p0, hg_p1, _⟩ := hgd
  have hl_p0 : p0.length ≤ 9223372036854775807 := hg_p0.1
  have hl_p1 : p1.length ≤ 9223372036854775807 := hg_p1.1
  have hM := laws_eqTxS.eq_1 p0 p1
  refine ad 13 ?_
  refine cd (fun h1 => ?_) (fun h1 => ?_)
  ·
    have hM := hM.trans (bt h1)
    refine ad 4 ?_
    exact rz (rs := [.tmp 4]) (congrArg (fun x => [Re.c (.bool x)]) hM)
  ·
    have hM := hM.trans (bf h1)
    refine ad 7 ?_
    refine Run.loopM (ι := Nat) (fun s => laws_eqTxS_l1 p0 p1 (p0.length - s) s) (fun s => ⟨27, 2, [(0, .sl 0 p0.length), (1, .sl 1 p1.length), (5, .v (.int .i64 (s : Int)))], [(0, .ros Tx instDatTx p0), (1, .ros Tx instDatTx p1)]⟩) (fun s => s ≤ p0.length) (fun s => p0.length - s) 0 [0, 1] [0, 1] hM (by first | exact ⟨by omega, by simp⟩ | omega | simp | (dsimp only; omega)) su (by decide) ?_
    rintro i hv hE
    try dsimp only at hE
    have hi := hv
    try dsimp only at hi
    refine ad 8 ?_
    refine cd (fun h2 => ?_) (fun h2 => ?_)
    ·
      have h2l : i < p0.length := by have := of_decide_eq_true h2; omega
      have hM := hE.trans ((congrArg (fun n => laws_eqTxS_l1 p0 p1 n i) (show p0.length - i = (p0.length - (i + 1)) + 1 by omega)).trans (laws_eqTxS_l1.eq_2 _ _ _ _))
      refine ad 4 ?_
      refine dr 10 fun _ _ _ _ _ hb => ?_
      refine tk [0, 1] ?_
      have hg3 := good_nth (k := i) hg_p0 om
      refine tx 2 (dx (xs := p0) i om) ?_
      refine tk [3, 4, 5] ?_
      have hg4 := good_nth (k := i) hg_p1 om
      refine tx 6 (dx (xs := p1) i om) ?_
      refine tk [7] ?_
      have hg5 : Dat.good (nth p0 i : Tx) := hg3
      have hg6 : Dat.good (nth p1 i : Tx) := hg4
      refine on 8 [12, 13] (cl (c_laws_eqTx (nth p0 i) (nth p1 i)) fok134) ?_
      refine tk [9] ?_
      refine dn hb ?_
      refine cd (fun h7 => ?_) (fun h7 => ?_)
      ·
        have hM := hM.trans (bt h7)
        refine ad 4 ?_
        exact rz (rs := [.tmp 4]) (congrArg (fun x => [Re.c (.bool x)]) hM)
      ·
        have hM := hM.trans (bf h7)
        refine ad 5 ?_
        rw [wrapN (i := i) (by first | omega | exact om)]
        refine ad 2 ?_
        exact Run.again (i + 1) [0, 1] [12, 13] ⟨by first | omega | exact trivial | (dsimp only; omega) | (refine ⟨by omega, ?_⟩; simp_all; try omega), hM⟩ rfl (by show _ - _ < _ - _; (try dsimp only); omega) su (by decide)
    ·
      have h2l : ¬ (i < p0.length) := by have := of_decide_eq_false h2; omega
      have hM := hE.trans ((congrArg (fun n => laws_eqTxS_l1 p0 p1 n i) (show p0.length - i = 0 by omega)).trans (laws_eqTxS_l1.eq_1 _ _ _))
      refine ad 5 ?_
      exact rz (rs := [.tmp 4]) (congrArg (fun x => [Re.c (.bool x)]) hM)

/- F187 loop.example/g00974/laws.eqSlot -/
def laws_eqSlot (p0 : Slot) (p1 : Slot) : Bool := bif !decide (p0.Seq = p1.Seq) then false else (bif !(laws_eqCellS p0.Cells p1.Cells) then false else (bif !decide (p0.Whole = p1.Whole) then false else true))
theorem c_laws_eqSlot (p0 : Slot) (p1 : Slot) : CTs 187 [.o (.st Slot _ inferInstance p0), .o (.st Slot _ inferInstance p1)] [Re.c (.bool (laws_eqSlot p0 p1))] := by
  refine en Tryz.func187 Tryz.ntmps187 fun w hG hgd => ?_
  obtain ⟨hg_p0, hg_p1, _⟩ := hgd
  have hM := laws_eqSlot.eq_1 p0 p1
  refine ad 15 ?_
  refine cd (fun h1 => ?_) (fun h1 => ?_)
  ·
    have hM := hM.trans (bt h1)
    refine ad 4 ?_
    exact rz (rs := [.tmp 4]) (congrArg (fun x => [Re.c (.bool x)]) hM)
  ·
    have hM := hM.trans (bf h1)
    refine ad 8 ?_
    refine op (cl (c_laws_eqCellS p0.Cells p1.Cells) fok62) ?_
    refine ad 2 ?_
    refine cd (fun h2 => ?_) (fun h2 => ?_)
    ·
      have hM := hM.trans (bt h2)
      refine ad 4 ?_
      exact rz (rs := [.tmp 4]) (congrArg (fun x => [Re.c (.bool x)]) hM)
    ·
      have hM := hM.trans (bf h2)
      refine ad 10 ?_
      refine cd (fun h3 => ?_) (fun h3 => ?_)
      ·
        have hM := hM.trans (bt h3)
        refine ad 4 ?_
        exact rz (rs := [.tmp 4]) (congrArg (fun x => [Re.c (.bool x)]) hM)
      ·
        have hM := hM.trans (bf h3)
        refine ad 5 ?_
        exact rz (rs := [.tmp 4]) (congrArg (fun x => [Re.c (.bool x)]) hM)

/- F135 loop.example/g00974/laws.eqSlotS -/
def laws_eqSlotS_l1 (p0 : List Slot) (p1 : List Slot) : Nat → Nat → Bool
  | 0, i => true
  | n + 1, i => bif !(laws_eqSlot (nth p0 i) (nth p1 i)) then false else (laws_eqSlotS_l1 p0 p1 n (i + 1))
def laws_eqSlotS (p0 : List Slot) (p1 : List Slot) : Bool := bif !decide ((p0.length : Int) = (p1.length : Int)) then false else (laws_eqSlotS_l1 p0 p1 (p0.length - 0) 0)
theorem c_laws_eqSlotS (p0 : List Slot) (p1 : List Slot) : CTs 135 [.o (.sl Slot instDatSlot p0), .o (.sl Slot instDatSlot p1)] [Re.c (.bool (laws_eqSlotS p0 p1))] := by
  refine en Tryz.func135 Tryz.ntmps135 fun w hG hgd => ?_
  obtain ⟨hg_p0, hg_p1, _⟩ := hgd
  have hl_p0 : p0.length ≤ 9223372036854775807 := hg_p0.1
  have hl_p1 : p1.length ≤ 9223372036854775807 := hg_p1.1
  have hM := laws_eqSlotS.eq_1 p0 p1
  refine ad 13 ?_
  refine cd (fun h1 => ?_) (fun h1 => ?_)
  ·
    have hM := hM.trans (bt h1)
    refine ad 4 ?_
    exact rz (rs := [.tmp 4]) (congrArg (fun x => [Re.c (.bool x)]) hM)
  ·
    have hM := hM.trans (bf h1)
    refine ad 7 ?_
    refine Run.loopM (ι := Nat) (fun s => laws_eqSlotS_l1 p0 p1 (p0.length - s) s) (fun s => ⟨27, 2, [(0, .sl 0 p0.length), (1, .sl 1 p1.length), (5, .v (.int .i64 (s : Int)))], [(0, .ros Slot instDatSlot p0), (1, .ros Slot instDatSlot p1)]⟩) (fun s => s ≤ p0.length) (fun s => p0.length - s) 0 [0, 1] [0, 1] hM (by first | exact ⟨by omega, by simp⟩ | omega | simp | (dsimp only; omega)) su (by decide) ?_
    rintro i hv hE
    try dsimp only at hE
    have hi := hv
    try dsimp only at hi
    refine ad 8 ?_
    refine cd (fun h2 => ?_) (fun h2 => ?_)
    ·
      have h2l : i < p0.length := by have := of_decide_eq_true h2; omega
      have hM := hE.trans ((congrArg (fun n => laws_eqSlotS_l1 p0 p1 n i) (show p0.length - i = (p0.length - (i + 1)) + 1 by omega)).trans (laws_eqSlotS_l1.eq_2 _ _ _ _))
      refine ad 4 ?_
      refine dr 10 fun _ _ _ _ _ hb => ?_
      refine tk [0, 1] ?_
      have hg3 := good_nth (k := i) hg_p0 om
      refine tx 2 (dx (xs := p0) i om) ?_
      refine tk [3, 4, 5] ?_
      have hg4 := good_nth (k := i) hg_p1 om
      refine tx 6 (dx (xs := p1) i om) ?_
      refine tk [7] ?_
      have hg5 : Dat.good (nth p0 i : Slot) := hg3
      have hg6 : Dat.good (nth p1 i : Slot) := hg4
      refine on 8 [4, 5] (cl (c_laws_eqSlot (nth p0 i) (nth p1 i)) fok187) ?_
      refine tk [9] ?_
      refine dn hb ?_
      refine cd (fun h7 => ?_) (fun h7 => ?_)
      ·
        have hM := hM.trans (bt h7)
        refine ad 4 ?_
        exact rz (rs := [.tmp 4]) (congrArg (fun x => [Re.c (.bool x)]) hM)
      ·
        have hM := hM.trans (bf h7)
        refine ad 5 ?_
        rw [wrapN (i := i) (by first | omega | exact om)]
        refine ad 2 ?_
        exact Run.again (i + 1) [0, 1] [4, 5] ⟨by first | omega | exact trivial | (dsimp only; omega) | (refine ⟨by omega, ?_⟩; simp_all; try omega), hM⟩ rfl (by show _ - _ < _ - _; (try dsimp only); omega) su (by decide)
    ·
      have h2l : ¬ (i < p0.length) := by have := of_decide_eq_false h2; omega
      have hM := hE.trans ((congrArg (fun n => laws_eqSlotS_l1 p0 p1 n i) (show p0.length - i = 0 by omega)).trans (laws_eqSlotS_l1.eq_1 _ _ _))
      refine ad 5 ?_
      exact rz (rs := [.tmp 4]) (congrArg (fun x => [Re.c (.bool x)]) hM)

/- F136 loop.example/g00974/laws.eqJournal -/
def laws_eqJournal (p0 : Journal) (p1 : Journal) : Bool := bif !decide (p0.Text = p1.Text) then false else (bif !decide (p0.Sure = p1.Sure) then false else true)
theorem c_laws_eqJournal (p0 : Journal) (p1 : Journal) : CTs 136 [.o (.st Journal _ inferInstance p0), .o (.st Journal _ inferInstance p1)] [Re.c (.bool (laws_eqJournal p0 p1))] := by
  refine en Tryz.func136 Tryz.ntmps136 fun w hG hgd => ?_
  obtain ⟨hg_p0, hg_p1, _⟩ := hgd
  have hM := laws_eqJournal.eq_1 p0 p1
  refine ad 15 ?_
  refine cd (fun h1 => ?_) (fun h1 => ?_)
  ·
    have hM := hM.trans (bt h1)
    refine ad 4 ?_
    exact rz (rs := [.tmp 4]) (congrArg (fun x => [Re.c (.bool x)]) hM)
  ·
    have hM := hM.trans (bf h1)
    refine ad 10 ?_
    refine cd (fun h2 => ?_) (fun h2 => ?_)
    ·
      have hM := hM.trans (bt h2)
      refine ad 4 ?_
      exact rz (rs := [.tmp 4]) (congrArg (fun x => [Re.c (.bool x)]) hM)
    ·
      have hM := hM.trans (bf h2)
      refine ad 5 ?_
      exact rz (rs := [.tmp 4]) (congrArg (fun x => [Re.c (.bool x)]) hM)

/- F64 loop.example/g00974/laws.eqDisk -/
def laws_eqDisk (p0 : Disk) (p1 : Disk) : Bool := bif !(laws_eqSlotS p0.Slots p1.Slots) then false else (bif !(laws_eqJournal p0.Journal p1.Journal) then false else true)
theorem c_laws_eqDisk (p0 : Disk) (p1 : Disk) : CTs 64 [.o (.st Disk _ inferInstance p0), .o (.st Disk _ inferInstance p1)] [Re.c (.bool (laws_eqDisk p0 p1))] := by
  refine en Tryz.func64 Tryz.ntmps64 fun w hG hgd => ?_
  obtain ⟨hg_p0, hg_p1, _⟩ := hgd
  have hM := laws_eqDisk.eq_1 p0 p1
  refine ad 13 ?_
  refine op (cl (c_laws_eqSlotS p0.Slots p1.Slots) fok135) ?_
  refine ad 2 ?_
  refine cd (fun h1 => ?_) (fun h1 => ?_)
  ·
    have hM := hM.trans (bt h1)
    refine ad 4 ?_
    exact rz (rs := [.tmp 4]) (congrArg (fun x => [Re.c (.bool x)]) hM)
  ·
    have hM := hM.trans (bf h1)
    refine ad 8 ?_
    have hg2 : Dat.good (p0.Journal : Journal) := hg_p0.2
    have hg3 : Dat.good (p1.Journal : Journal) := hg_p1.2
    refine op (cl (c_laws_eqJournal p0.Journal p1.Journal) fok136) ?_
    refine ad 2 ?_
    refine cd (fun h4 => ?_) (fun h4 => ?_)
    ·
      have hM := hM.trans (bt h4)
      refine ad 4 ?_
      exact rz (rs := [.tmp 4]) (congrArg (fun x => [Re.c (.bool x)]) hM)
    ·
      have hM := hM.trans (bf h4)
      refine ad 5 ?_
      exact rz (rs := [.tmp 4]) (congrArg (fun x => [Re.c (.bool x)]) hM)

/- F211 loop.example/g00974/laws.eqStep -/
def laws_eqStep (p0 : Step) (p1 : Step) : Bool := bif !decide (p0.Proc = p1.Proc) then false else (bif !(laws_eqCall p0.Call p1.Call) then false else true)
theorem c_laws_eqStep (p0 : Step) (p1 : Step) : CTs 211 [.o (.st Step _ inferInstance p0), .o (.st Step _ inferInstance p1)] [Re.c (.bool (laws_eqStep p0 p1))] := by
  refine en Tryz.func211 Tryz.ntmps211 fun w hG hgd => ?_
  obtain ⟨hg_p0, hg_p1, _⟩ := hgd
  have hM := laws_eqStep.eq_1 p0 p1
  refine ad 15 ?_
  refine cd (fun h1 => ?_) (fun h1 => ?_)
  ·
    have hM := hM.trans (bt h1)
    refine ad 4 ?_
    exact rz (rs := [.tmp 4]) (congrArg (fun x => [Re.c (.bool x)]) hM)
  ·
    have hM := hM.trans (bf h1)
    refine ad 8 ?_
    have hg2 : Dat.good (p0.Call : Call) := hg_p0.2
    have hg3 : Dat.good (p1.Call : Call) := hg_p1.2
    refine op (cl (c_laws_eqCall p0.Call p1.Call) fok166) ?_
    refine ad 2 ?_
    refine cd (fun h4 => ?_) (fun h4 => ?_)
    ·
      have hM := hM.trans (bt h4)
      refine ad 4 ?_
      exact rz (rs := [.tmp 4]) (congrArg (fun x => [Re.c (.bool x)]) hM)
    ·
      have hM := hM.trans (bf h4)
      refine ad 5 ?_
      exact rz (rs := [.tmp 4]) (congrArg (fun x => [Re.c (.bool x)]) hM)

/- F188 loop.example/g00974/laws.eqStepS -/
def laws_eqStepS_l1 (p0 : List Step) (p1 : List Step) : Nat → Nat → Bool
  | 0, i => true
  | n + 1, i => bif !(laws_eqStep (nth p0 i) (nth p1 i)) then false else (laws_eqStepS_l1 p0 p1 n (i + 1))
def laws_eqStepS (p0 : List Step) (p1 : List Step) : Bool := bif !decide ((p0.length : Int) = (p1.length : Int)) then false else (laws_eqStepS_l1 p0 p1 (p0.length - 0) 0)
theorem c_laws_eqStepS (p0 : List Step) (p1 : List Step) : CTs 188 [.o (.sl Step instDatStep p0), .o (.sl Step instDatStep p1)] [Re.c (.bool (laws_eqStepS p0 p1))] := by
  refine en Tryz.func188 Tryz.ntmps188 fun w hG hgd => ?_
  obtain ⟨hg_p0, hg_p1, _⟩ := hgd
  have hl_p0 : p0.length ≤ 9223372036854775807 := hg_p0.1
  have hl_p1 : p1.length ≤ 9223372036854775807 := hg_p1.1
  have hM := laws_eqStepS.eq_1 p0 p1
  refine ad 13 ?_
  refine cd (fun h1 => ?_) (fun h1 => ?_)
  ·
    have hM := hM.trans (bt h1)
    refine ad 4 ?_
    exact rz (rs := [.tmp 4]) (congrArg (fun x => [Re.c (.bool x)]) hM)
  ·
    have hM := hM.trans (bf h1)
    refine ad 7 ?_
    refine Run.loopM (ι := Nat) (fun s => laws_eqStepS_l1 p0 p1 (p0.length - s) s) (fun s => ⟨27, 2, [(0, .sl 0 p0.length), (1, .sl 1 p1.length), (5, .v (.int .i64 (s : Int)))], [(0, .ros Step instDatStep p0), (1, .ros Step instDatStep p1)]⟩) (fun s => s ≤ p0.length) (fun s => p0.length - s) 0 [0, 1] [0, 1] hM (by first | exact ⟨by omega, by simp⟩ | omega | simp | (dsimp only; omega)) su (by decide) ?_
    rintro i hv hE
    try dsimp only at hE
    have hi := hv
    try dsimp only at hi
    refine ad 8 ?_
    refine cd (fun h2 => ?_) (fun h2 => ?_)
    ·
      have h2l : i < p0.length := by have := of_decide_eq_true h2; omega
      have hM := hE.trans ((congrArg (fun n => laws_eqStepS_l1 p0 p1 n i) (show p0.length - i = (p0.length - (i + 1)) + 1 by omega)).trans (laws_eqStepS_l1.eq_2 _ _ _ _))
      refine ad 4 ?_
      refine dr 10 fun _ _ _ _ _ hb => ?_
      refine tk [0, 1] ?_
      have hg3 := good_nth (k := i) hg_p0 om
      refine tx 2 (dx (xs := p0) i om) ?_
      refine tk [3, 4, 5] ?_
      have hg4 := good_nth (k := i) hg_p1 om
      refine tx 6 (dx (xs := p1) i om) ?_
      refine tk [7] ?_
      have hg5 : Dat.good (nth p0 i : Step) := hg3
      have hg6 : Dat.good (nth p1 i : Step) := hg4
      refine on 8 [2, 3] (cl (c_laws_eqStep (nth p0 i) (nth p1 i)) fok211) ?_
      refine tk [9] ?_
      refine dn hb ?_
      refine cd (fun h7 => ?_) (fun h7 => ?_)
      ·
        have hM := hM.trans (bt h7)
        refine ad 4 ?_
        exact rz (rs := [.tmp 4]) (congrArg (fun x => [Re.c (.bool x)]) hM)
      ·
        have hM := hM.trans (bf h7)
        refine ad 5 ?_
        rw [wrapN (i := i) (by first | omega | exact om)]
        refine ad 2 ?_
        exact Run.again (i + 1) [0, 1] [2, 3] ⟨by first | omega | exact trivial | (dsimp only; omega) | (refine ⟨by omega, ?_⟩; simp_all; try omega), hM⟩ rfl (by show _ - _ < _ - _; (try dsimp only); omega) su (by decide)
    ·
      have h2l : ¬ (i < p0.length) := by have := of_decide_eq_false h2; omega
      have hM := hE.trans ((congrArg (fun n => laws_eqStepS_l1 p0 p1 n i) (show p0.length - i = 0 by omega)).trans (laws_eqStepS_l1.eq_1 _ _ _))
      refine ad 5 ?_
      exact rz (rs := [.tmp 4]) (congrArg (fun x => [Re.c (.bool x)]) hM)

/- F137 loop.example/g00974/laws.eqEntry -/
def laws_eqEntry (p0 : Entry) (p1 : Entry) : Bool := bif !decide (p0.Seq = p1.Seq) then false else (bif !decide (p0.Kind = p1.Kind) then false else (bif !decide (p0.Tx = p1.Tx) then false else (bif !(laws_eqStepS p0.Steps p1.Steps) then false else (bif !(laws_eqAnswerS p0.Answers p1.Answers) then false else (bif !decide (p0.Began = p1.Began) then false else (bif !decide (p0.Ended = p1.Ended) then false else (bif !decide (p0.Laid = p1.Laid) then false else true)))))))
theorem c_laws_eqEntry (p0 : Entry) (p1 : Entry) : CTs 137 [.o (.st Entry _ inferInstance p0), .o (.st Entry _ inferInstance p1)] [Re.c (.bool (laws_eqEntry p0 p1))] := by
  refine en Tryz.func137 Tryz.ntmps137 fun w hG hgd => ?_
  obtain ⟨hg_p0, hg_p1, _⟩ := hgd
  have hM := laws_eqEntry.eq_1 p0 p1
  refine ad 15 ?_
  refine cd (fun h1 => ?_) (fun h1 => ?_)
  ·
    have hM := hM.trans (bt h1)
    refine ad 4 ?_
    exact rz (rs := [.tmp 4]) (congrArg (fun x => [Re.c (.bool x)]) hM)
  ·
    have hM := hM.trans (bf h1)
    refine ad 10 ?_
    refine cd (fun h2 => ?_) (fun h2 => ?_)
    ·
      have hM := hM.trans (bt h2)
      refine ad 4 ?_
      exact rz (rs := [.tmp 4]) (congrArg (fun x => [Re.c (.bool x)]) hM)
    ·
      have hM := hM.trans (bf h2)
      refine ad 10 ?_
      refine cd (fun h3 => ?_) (fun h3 => ?_)
      ·
        have hM := hM.trans (bt h3)
        refine ad 4 ?_
        exact rz (rs := [.tmp 4]) (congrArg (fun x => [Re.c (.bool x)]) hM)
      ·
        have hM := hM.trans (bf h3)
        refine ad 8 ?_
        refine op (cl (c_laws_eqStepS p0.Steps p1.Steps) fok188) ?_
        refine ad 2 ?_
        refine cd (fun h4 => ?_) (fun h4 => ?_)
        ·
          have hM := hM.trans (bt h4)
          refine ad 4 ?_
          exact rz (rs := [.tmp 4]) (congrArg (fun x => [Re.c (.bool x)]) hM)
        ·
          have hM := hM.trans (bf h4)
          refine ad 8 ?_
          refine op (cl (c_laws_eqAnswerS p0.Answers p1.Answers) fok184) ?_
          refine ad 2 ?_
          refine cd (fun h5 => ?_) (fun h5 => ?_)
          ·
            have hM := hM.trans (bt h5)
            refine ad 4 ?_
            exact rz (rs := [.tmp 4]) (congrArg (fun x => [Re.c (.bool x)]) hM)
          ·
            have hM := hM.trans (bf h5)
            refine ad 10 ?_
            refine cd (fun h6 => ?_) (fun h6 => ?_)
            ·
              have hM := hM.trans (bt h6)
              refine ad 4 ?_
              exact rz (rs := [.tmp 4]) (congrArg (fun x => [Re.c (.bool x)]) hM)
            ·
              have hM := hM.trans (bf h6)
              refine ad 10 ?_
              refine cd (fun h7 => ?_) (fun h7 => ?_)
              ·
                have hM := hM.trans (bt h7)
                refine ad 4 ?_
                exact rz (rs := [.tmp 4]) (congrArg (fun x => [Re.c (.bool x)]) hM)
              ·
                have hM := hM.trans (bf h7)
                refine ad 10 ?_
                refine cd (fun h8 => ?_) (fun h8 => ?_)
                ·
                  have hM := hM.trans (bt h8)
                  refine ad 4 ?_
                  exact rz (rs := [.tmp 4]) (congrArg (fun x => [Re.c (.bool x)]) hM)
                ·
                  have hM := hM.trans (bf h8)
                  refine ad 5 ?_
                  exact rz (rs := [.tmp 4]) (congrArg (fun x => [Re.c (.bool x)]) hM)

/- F65 loop.example/g00974/laws.eqEntryS -/
def laws_eqEntryS_l1 (p0 : List Entry) (p1 : List Entry) : Nat → Nat → Bool
  | 0, i => true
  | n + 1, i => bif !(laws_eqEntry (nth p0 i) (nth p1 i)) then false else (laws_eqEntryS_l1 p0 p1 n (i + 1))
def laws_eqEntryS (p0 : List Entry) (p1 : List Entry) : Bool := bif !decide ((p0.length : Int) = (p1.length : Int)) then false else (laws_eqEntryS_l1 p0 p1 (p0.length - 0) 0)
theorem c_laws_eqEntryS (p0 : List Entry) (p1 : List Entry) : CTs 65 [.o (.sl Entry instDatEntry p0), .o (.sl Entry instDatEntry p1)] [Re.c (.bool (laws_eqEntryS p0 p1))] := by
  refine en Tryz.func65 Tryz.ntmps65 fun w hG hgd => ?_
  obtain ⟨hg_p0, hg_p1, _⟩ := hgd
  have hl_p0 : p0.length ≤ 9223372036854775807 := hg_p0.1
  have hl_p1 : p1.length ≤ 9223372036854775807 := hg_p1.1
  have hM := laws_eqEntryS.eq_1 p0 p1
  refine ad 13 ?_
  refine cd (fun h1 => ?_) (fun h1 => ?_)
  ·
    have hM := hM.trans (bt h1)
    refine ad 4 ?_
    exact rz (rs := [.tmp 4]) (congrArg (fun x => [Re.c (.bool x)]) hM)
  ·
    have hM := hM.trans (bf h1)
    refine ad 7 ?_
    refine Run.loopM (ι := Nat) (fun s => laws_eqEntryS_l1 p0 p1 (p0.length - s) s) (fun s => ⟨27, 2, [(0, .sl 0 p0.length), (1, .sl 1 p1.length), (5, .v (.int .i64 (s : Int)))], [(0, .ros Entry instDatEntry p0), (1, .ros Entry instDatEntry p1)]⟩) (fun s => s ≤ p0.length) (fun s => p0.length - s) 0 [0, 1] [0, 1] hM (by first | exact ⟨by omega, by simp⟩ | omega | simp | (dsimp only; omega)) su (by decide) ?_
    rintro i hv hE
    try dsimp only at hE
    have hi := hv
    try dsimp only at hi
    refine ad 8 ?_
    refine cd (fun h2 => ?_) (fun h2 => ?_)
    ·
      have h2l : i < p0.length := by have := of_decide_eq_true h2; omega
      have hM := hE.trans ((congrArg (fun n => laws_eqEntryS_l1 p0 p1 n i) (show p0.length - i = (p0.length - (i + 1)) + 1 by omega)).trans (laws_eqEntryS_l1.eq_2 _ _ _ _))
      refine ad 4 ?_
      refine dr 10 fun _ _ _ _ _ hb => ?_
      refine tk [0, 1] ?_
      have hg3 := good_nth (k := i) hg_p0 om
      refine tx 2 (dx (xs := p0) i om) ?_
      refine tk [3, 4, 5] ?_
      have hg4 := good_nth (k := i) hg_p1 om
      refine tx 6 (dx (xs := p1) i om) ?_
      refine tk [7] ?_
      have hg5 : Dat.good (nth p0 i : Entry) := hg3
      have hg6 : Dat.good (nth p1 i : Entry) := hg4
      refine on 8 [6, 7] (cl (c_laws_eqEntry (nth p0 i) (nth p1 i)) fok137) ?_
      refine tk [9] ?_
      refine dn hb ?_
      refine cd (fun h7 => ?_) (fun h7 => ?_)
      ·
        have hM := hM.trans (bt h7)
        refine ad 4 ?_
        exact rz (rs := [.tmp 4]) (congrArg (fun x => [Re.c (.bool x)]) hM)
      ·
        have hM := hM.trans (bf h7)
        refine ad 5 ?_
        rw [wrapN (i := i) (by first | omega | exact om)]
        refine ad 2 ?_
        exact Run.again (i + 1) [0, 1] [6, 7] ⟨by first | omega | exact trivial | (dsimp only; omega) | (refine ⟨by omega, ?_⟩; simp_all; try omega), hM⟩ rfl (by show _ - _ < _ - _; (try dsimp only); omega) su (by decide)
    ·
      have h2l : ¬ (i < p0.length) := by have := of_decide_eq_false h2; omega
      have hM := hE.trans ((congrArg (fun n => laws_eqEntryS_l1 p0 p1 n i) (show p0.length - i = 0 by omega)).trans (laws_eqEntryS_l1.eq_1 _ _ _))
      refine ad 5 ?_
      exact rz (rs := [.tmp 4]) (congrArg (fun x => [Re.c (.bool x)]) hM)

/- F13 loop.example/g00974/laws.eqKernel -/
def laws_eqKernel (p0 : Kernel) (p1 : Kernel) : Bool := bif !(laws_eqCellS p0.Store p1.Store) then false else (bif !(laws_eqTxS p0.Txs p1.Txs) then false else (bif !(laws_eqDisk p0.Disk p1.Disk) then false else (bif !decide (p0.Seq = p1.Seq) then false else (bif !decide (p0.Next = p1.Next) then false else (bif !decide (p0.Time = p1.Time) then false else (bif !(laws_eqEntryS p0.History p1.History) then false else (bif !(laws_eqStringS p0.Seen p1.Seen) then false else (bif !decide (p0.Room = p1.Room) then false else true))))))))
theorem c_laws_eqKernel (p0 : Kernel) (p1 : Kernel) : CTs 13 [.o (.st Kernel _ inferInstance p0), .o (.st Kernel _ inferInstance p1)] [Re.c (.bool (laws_eqKernel p0 p1))] := by
  refine en Tryz.func13 Tryz.ntmps13 fun w hG hgd => ?_
  obtain ⟨hg_p0, hg_p1, _⟩ := hgd
  have hM := laws_eqKernel.eq_1 p0 p1
  refine ad 13 ?_
  refine op (cl (c_laws_eqCellS p0.Store p1.Store) fok62) ?_
  refine ad 2 ?_
  refine cd (fun h1 => ?_) (fun h1 => ?_)
  ·
    have hM := hM.trans (bt h1)
    refine ad 4 ?_
    exact rz (rs := [.tmp 4]) (congrArg (fun x => [Re.c (.bool x)]) hM)
  ·
    have hM := hM.trans (bf h1)
    refine ad 8 ?_
    refine op (cl (c_laws_eqTxS p0.Txs p1.Txs) fok63) ?_
    refine ad 2 ?_
    refine cd (fun h2 => ?_) (fun h2 => ?_)
    ·
      have hM := hM.trans (bt h2)
      refine ad 4 ?_
      exact rz (rs := [.tmp 4]) (congrArg (fun x => [Re.c (.bool x)]) hM)
    ·
      have hM := hM.trans (bf h2)
      refine ad 8 ?_
      have hg3 : Dat.good (p0.Disk : Disk) := hg_p0.2.2.1
      have hg4 : Dat.good (p1.Disk : Disk) := hg_p1.2.2.1
      refine op (cl (c_laws_eqDisk p0.Disk p1.Disk) fok64) ?_
      refine ad 2 ?_
      refine cd (fun h5 => ?_) (fun h5 => ?_)
      ·
        have hM := hM.trans (bt h5)
        refine ad 4 ?_
        exact rz (rs := [.tmp 4]) (congrArg (fun x => [Re.c (.bool x)]) hM)
      ·
        have hM := hM.trans (bf h5)
        refine ad 10 ?_
        refine cd (fun h6 => ?_) (fun h6 => ?_)
        ·
          have hM := hM.trans (bt h6)
          refine ad 4 ?_
          exact rz (rs := [.tmp 4]) (congrArg (fun x => [Re.c (.bool x)]) hM)
        ·
          have hM := hM.trans (bf h6)
          refine ad 10 ?_
          refine cd (fun h7 => ?_) (fun h7 => ?_)
          ·
            have hM := hM.trans (bt h7)
            refine ad 4 ?_
            exact rz (rs := [.tmp 4]) (congrArg (fun x => [Re.c (.bool x)]) hM)
          ·
            have hM := hM.trans (bf h7)
            refine ad 10 ?_
            refine cd (fun h8 => ?_) (fun h8 => ?_)
            ·
              have hM := hM.trans (bt h8)
              refine ad 4 ?_
              exact rz (rs := [.tmp 4]) (congrArg (fun x => [Re.c (.bool x)]) hM)
            ·
              have hM := hM.trans (bf h8)
              refine ad 8 ?_
              refine op (cl (c_laws_eqEntryS p0.History p1.History) fok65) ?_
              refine ad 2 ?_
              refine cd (fun h9 => ?_) (fun h9 => ?_)
              ·
                have hM := hM.trans (bt h9)
                refine ad 4 ?_
                exact rz (rs := [.tmp 4]) (congrArg (fun x => [Re.c (.bool x)]) hM)
              ·
                have hM := hM.trans (bf h9)
                refine ad 8 ?_
                refine op (cl (c_laws_eqStringS p0.Seen p1.Seen) fok12) ?_
                refine ad 2 ?_
                refine cd (fun h10 => ?_) (fun h10 => ?_)
                ·
                  have hM := hM.trans (bt h10)
                  refine ad 4 ?_
                  exact rz (rs := [.tmp 4]) (congrArg (fun x => [Re.c (.bool x)]) hM)
                ·
                  have hM := hM.trans (bf h10)
                  refine ad 10 ?_
                  refine cd (fun h11 => ?_) (fun h11 => ?_)
                  ·
                    have hM := hM.trans (bt h11)
                    refine ad 4 ?_
                    exact rz (rs := [.tmp 4]) (congrArg (fun x => [Re.c (.bool x)]) hM)
                  ·
                    have hM := hM.trans (bf h11)
                    refine ad 5 ?_
                    exact rz (rs := [.tmp 4]) (congrArg (fun x => [Re.c (.bool x)]) hM)

end Go.Proofs.YtnjidaonbcbphaaGreatDoor.Fw
/-
  A copy is the same; what is the same is equal. No condition.
-/
namespace Go.Proofs.YtnjidaonbcbphaaGreatDoor.Fw
open Go.RowKit
set_option linter.unusedVariables false
set_option linter.unusedSimpArgs false
set_option maxRecDepth 100000

def toL {α : Type} [Inhabited α] (f : α → α) (xs : List α) : Nat → List α → Nat → List α
  | 0, w, _ => w
  | n + 1, w, i => toL f xs n (w.set i (f (nth xs i))) (i + 1)
theorem toL_eq {α : Type} [Inhabited α] {f : α → α} (hf : ∀ x, f x = x) (xs : List α) : ∀ n w i, n = xs.length - i → w.length = xs.length → (∀ j, j < i → w[j]? = xs[j]?) → toL f xs n w i = xs := by
  intro n
  induction n with
  | zero =>
    intro w i h hl hj
    show w = xs
    apply List.ext_getElem?
    intro j
    rcases Nat.lt_or_ge j i with h1 | h1
    · exact hj j h1
    · rw [List.getElem?_eq_none (by omega), List.getElem?_eq_none (by omega)]
  | succ n ih =>
    intro w i h hl hj
    rw [toL]
    refine ih _ (i + 1) (by omega) (by rw [List.length_set]; exact hl) fun j hji => ?_
    rcases Nat.lt_or_ge j i with h1 | h1
    · rw [List.getElem?_set_ne (by omega)]
      exact hj j h1
    · obtain rfl : j = i := by omega
      rw [List.getElem?_set_self (by omega), hf]
      unfold nth
      rw [List.getD_eq_getElem?_getD, List.getElem?_eq_getElem (by omega : j < xs.length)]
      rfl
def eqL {α : Type} [Inhabited α] (f : α → α → Bool) (xs ys : List α) : Nat → Nat → Bool
  | 0, _ => true
  | n + 1, i => bif !(f (nth xs i) (nth ys i)) then false else eqL f xs ys n (i + 1)
theorem eqL_refl {α : Type} [Inhabited α] {f : α → α → Bool} (hf : ∀ x, f x x = true) (xs : List α) : ∀ n i, eqL f xs xs n i = true := by
  intro n
  induction n with
  | zero => intro i; rfl
  | succ n ih => intro i; rw [eqL, hf, ih]; rfl
theorem laws_toCell_id (p0 : Cell) : laws_toCell p0 = p0 := by
  unfold laws_toCell
  rfl
theorem laws_toCellS_l1_eq (p0 : List Cell) : ∀ n w i, laws_toCellS_l1 p0 n w i = toL (laws_toCell) p0 n w i := by
  intro n
  induction n with
  | zero => intro w i; rfl
  | succ n ih => intro w i; rw [laws_toCellS_l1, toL, ih]
theorem laws_toCellS_id (p0 : List Cell) : laws_toCellS p0 = p0 := by
  unfold laws_toCellS
  rw [laws_toCellS_l1_eq]
  exact toL_eq (laws_toCell_id) p0 _ _ 0 rfl (by rw [List.length_replicate]) fun j hj => by omega
theorem laws_toCall_id (p0 : Call) : laws_toCall p0 = p0 := by
  unfold laws_toCall
  rfl
theorem laws_toCallS_l1_eq (p0 : List Call) : ∀ n w i, laws_toCallS_l1 p0 n w i = toL (laws_toCall) p0 n w i := by
  intro n
  induction n with
  | zero => intro w i; rfl
  | succ n ih => intro w i; rw [laws_toCallS_l1, toL, ih]
theorem laws_toCallS_id (p0 : List Call) : laws_toCallS p0 = p0 := by
  unfold laws_toCallS
  rw [laws_toCallS_l1_eq]
  exact toL_eq (laws_toCall_id) p0 _ _ 0 rfl (by rw [List.length_replicate]) fun j hj => by omega
theorem laws_toAnswer_id (p0 : Answer) : laws_toAnswer p0 = p0 := by
  unfold laws_toAnswer
  rfl
theorem laws_toAnswerS_l1_eq (p0 : List Answer) : ∀ n w i, laws_toAnswerS_l1 p0 n w i = toL (laws_toAnswer) p0 n w i := by
  intro n
  induction n with
  | zero => intro w i; rfl
  | succ n ih => intro w i; rw [laws_toAnswerS_l1, toL, ih]
theorem laws_toAnswerS_id (p0 : List Answer) : laws_toAnswerS p0 = p0 := by
  unfold laws_toAnswerS
  rw [laws_toAnswerS_l1_eq]
  exact toL_eq (laws_toAnswer_id) p0 _ _ 0 rfl (by rw [List.length_replicate]) fun j hj => by omega
theorem laws_toStringS_l1_eq (p0 : List ByteArray) : ∀ n w i, laws_toStringS_l1 p0 n w i = toL (fun x => x) p0 n w i := by
  intro n
  induction n with
  | zero => intro w i; rfl
  | succ n ih => intro w i; rw [laws_toStringS_l1, toL, ih]
theorem laws_toStringS_id (p0 : List ByteArray) : laws_toStringS p0 = p0 := by
  unfold laws_toStringS
  rw [laws_toStringS_l1_eq]
  exact toL_eq (fun _ => rfl) p0 _ _ 0 rfl (by rw [List.length_replicate]) fun j hj => by omega
theorem laws_toTouch_id (p0 : Touch) : laws_toTouch p0 = p0 := by
  unfold laws_toTouch
  simp only [laws_toStringS_id]
theorem laws_toIntS_l1_eq (p0 : List Int) : ∀ n w i, laws_toIntS_l1 p0 n w i = toL (fun x => x) p0 n w i := by
  intro n
  induction n with
  | zero => intro w i; rfl
  | succ n ih => intro w i; rw [laws_toIntS_l1, toL, ih]
theorem laws_toIntS_id (p0 : List Int) : laws_toIntS p0 = p0 := by
  unfold laws_toIntS
  rw [laws_toIntS_l1_eq]
  exact toL_eq (fun _ => rfl) p0 _ _ 0 rfl (by rw [List.length_replicate]) fun j hj => by omega
theorem laws_toTx_id (p0 : Tx) : laws_toTx p0 = p0 := by
  unfold laws_toTx
  simp only [laws_toAnswerS_id, laws_toCallS_id, laws_toIntS_id, laws_toTouch_id]
theorem laws_toTxS_l1_eq (p0 : List Tx) : ∀ n w i, laws_toTxS_l1 p0 n w i = toL (laws_toTx) p0 n w i := by
  intro n
  induction n with
  | zero => intro w i; rfl
  | succ n ih => intro w i; rw [laws_toTxS_l1, toL, ih]
theorem laws_toTxS_id (p0 : List Tx) : laws_toTxS p0 = p0 := by
  unfold laws_toTxS
  rw [laws_toTxS_l1_eq]
  exact toL_eq (laws_toTx_id) p0 _ _ 0 rfl (by rw [List.length_replicate]) fun j hj => by omega
theorem laws_toSlot_id (p0 : Slot) : laws_toSlot p0 = p0 := by
  unfold laws_toSlot
  simp only [laws_toCellS_id]
theorem laws_toSlotS_l1_eq (p0 : List Slot) : ∀ n w i, laws_toSlotS_l1 p0 n w i = toL (laws_toSlot) p0 n w i := by
  intro n
  induction n with
  | zero => intro w i; rfl
  | succ n ih => intro w i; rw [laws_toSlotS_l1, toL, ih]
theorem laws_toSlotS_id (p0 : List Slot) : laws_toSlotS p0 = p0 := by
  unfold laws_toSlotS
  rw [laws_toSlotS_l1_eq]
  exact toL_eq (laws_toSlot_id) p0 _ _ 0 rfl (by rw [List.length_replicate]) fun j hj => by omega
theorem laws_toJournal_id (p0 : Journal) : laws_toJournal p0 = p0 := by
  unfold laws_toJournal
  rfl
theorem laws_toDisk_id (p0 : Disk) : laws_toDisk p0 = p0 := by
  unfold laws_toDisk
  simp only [laws_toJournal_id, laws_toSlotS_id]
theorem laws_toStep_id (p0 : Step) : laws_toStep p0 = p0 := by
  unfold laws_toStep
  simp only [laws_toCall_id]
theorem laws_toStepS_l1_eq (p0 : List Step) : ∀ n w i, laws_toStepS_l1 p0 n w i = toL (laws_toStep) p0 n w i := by
  intro n
  induction n with
  | zero => intro w i; rfl
  | succ n ih => intro w i; rw [laws_toStepS_l1, toL, ih]
theorem laws_toStepS_id (p0 : List Step) : laws_toStepS p0 = p0 := by
  unfold laws_toStepS
  rw [laws_toStepS_l1_eq]
  exact toL_eq (laws_toStep_id) p0 _ _ 0 rfl (by rw [List.length_replicate]) fun j hj => by omega
theorem laws_toEntry_id (p0 : Entry) : laws_toEntry p0 = p0 := by
  unfold laws_toEntry
  simp only [laws_toAnswerS_id, laws_toStepS_id]
theorem laws_toEntryS_l1_eq (p0 : List Entry) : ∀ n w i, laws_toEntryS_l1 p0 n w i = toL (laws_toEntry) p0 n w i := by
  intro n
  induction n with
  | zero => intro w i; rfl
  | succ n ih => intro w i; rw [laws_toEntryS_l1, toL, ih]
theorem laws_toEntryS_id (p0 : List Entry) : laws_toEntryS p0 = p0 := by
  unfold laws_toEntryS
  rw [laws_toEntryS_l1_eq]
  exact toL_eq (laws_toEntry_id) p0 _ _ 0 rfl (by rw [List.length_replicate]) fun j hj => by omega
theorem laws_toKernel_id (p0 : Kernel) : laws_toKernel p0 = p0 := by
  unfold laws_toKernel
  simp only [laws_toCellS_id, laws_toDisk_id, laws_toEntryS_id, laws_toStringS_id, laws_toTxS_id]
theorem laws_eqCell_refl (p0 : Cell) : laws_eqCell p0 p0 = true := by
  unfold laws_eqCell
  simp only [decide_true, Bool.not_true, cond_false]
theorem laws_eqCellS_l1_eq (p0 p1 : List Cell) : ∀ n i, laws_eqCellS_l1 p0 p1 n i = eqL (laws_eqCell) p0 p1 n i := by
  intro n
  induction n with
  | zero => intro i; rfl
  | succ n ih => intro i; rw [laws_eqCellS_l1, eqL, ih]
theorem laws_eqCellS_refl (p0 : List Cell) : laws_eqCellS p0 p0 = true := by
  unfold laws_eqCellS
  rw [decide_eq_true rfl, laws_eqCellS_l1_eq]
  exact eqL_refl (laws_eqCell_refl) _ _ _
theorem laws_eqCall_refl (p0 : Call) : laws_eqCall p0 p0 = true := by
  unfold laws_eqCall
  simp only [decide_true, Bool.not_true, cond_false]
theorem laws_eqCallS_l1_eq (p0 p1 : List Call) : ∀ n i, laws_eqCallS_l1 p0 p1 n i = eqL (laws_eqCall) p0 p1 n i := by
  intro n
  induction n with
  | zero => intro i; rfl
  | succ n ih => intro i; rw [laws_eqCallS_l1, eqL, ih]
theorem laws_eqCallS_refl (p0 : List Call) : laws_eqCallS p0 p0 = true := by
  unfold laws_eqCallS
  rw [decide_eq_true rfl, laws_eqCallS_l1_eq]
  exact eqL_refl (laws_eqCall_refl) _ _ _
theorem laws_eqAnswer_refl (p0 : Answer) : laws_eqAnswer p0 p0 = true := by
  unfold laws_eqAnswer
  simp only [decide_true, Bool.not_true, cond_false]
theorem laws_eqAnswerS_l1_eq (p0 p1 : List Answer) : ∀ n i, laws_eqAnswerS_l1 p0 p1 n i = eqL (laws_eqAnswer) p0 p1 n i := by
  intro n
  induction n with
  | zero => intro i; rfl
  | succ n ih => intro i; rw [laws_eqAnswerS_l1, eqL, ih]
theorem laws_eqAnswerS_refl (p0 : List Answer) : laws_eqAnswerS p0 p0 = true := by
  unfold laws_eqAnswerS
  rw [decide_eq_true rfl, laws_eqAnswerS_l1_eq]
  exact eqL_refl (laws_eqAnswer_refl) _ _ _
theorem laws_eqStringS_l1_eq (p0 p1 : List ByteArray) : ∀ n i, laws_eqStringS_l1 p0 p1 n i = eqL (fun a b => decide (a = b)) p0 p1 n i := by
  intro n
  induction n with
  | zero => intro i; rfl
  | succ n ih => intro i; rw [laws_eqStringS_l1, eqL, ih]
theorem laws_eqStringS_refl (p0 : List ByteArray) : laws_eqStringS p0 p0 = true := by
  unfold laws_eqStringS
  rw [decide_eq_true rfl, laws_eqStringS_l1_eq]
  exact eqL_refl (fun x => by simp) _ _ _
theorem laws_eqTouch_refl (p0 : Touch) : laws_eqTouch p0 p0 = true := by
  unfold laws_eqTouch
  simp only [decide_true, Bool.not_true, cond_false, laws_eqStringS_refl]
theorem laws_eqIntS_l1_eq (p0 p1 : List Int) : ∀ n i, laws_eqIntS_l1 p0 p1 n i = eqL (fun a b => decide (a = b)) p0 p1 n i := by
  intro n
  induction n with
  | zero => intro i; rfl
  | succ n ih => intro i; rw [laws_eqIntS_l1, eqL, ih]
theorem laws_eqIntS_refl (p0 : List Int) : laws_eqIntS p0 p0 = true := by
  unfold laws_eqIntS
  rw [decide_eq_true rfl, laws_eqIntS_l1_eq]
  exact eqL_refl (fun x => by simp) _ _ _
theorem laws_eqTx_refl (p0 : Tx) : laws_eqTx p0 p0 = true := by
  unfold laws_eqTx
  simp only [decide_true, Bool.not_true, cond_false, laws_eqAnswerS_refl, laws_eqCallS_refl, laws_eqIntS_refl, laws_eqTouch_refl]
theorem laws_eqTxS_l1_eq (p0 p1 : List Tx) : ∀ n i, laws_eqTxS_l1 p0 p1 n i = eqL (laws_eqTx) p0 p1 n i := by
  intro n
  induction n with
  | zero => intro i; rfl
  | succ n ih => intro i; rw [laws_eqTxS_l1, eqL, ih]
theorem laws_eqTxS_refl (p0 : List Tx) : laws_eqTxS p0 p0 = true := by
  unfold laws_eqTxS
  rw [decide_eq_true rfl, laws_eqTxS_l1_eq]
  exact eqL_refl (laws_eqTx_refl) _ _ _
theorem laws_eqSlot_refl (p0 : Slot) : laws_eqSlot p0 p0 = true := by
  unfold laws_eqSlot
  simp only [decide_true, Bool.not_true, cond_false, laws_eqCellS_refl]
theorem laws_eqSlotS_l1_eq (p0 p1 : List Slot) : ∀ n i, laws_eqSlotS_l1 p0 p1 n i = eqL (laws_eqSlot) p0 p1 n i := by
  intro n
  induction n with
  | zero => intro i; rfl
  | succ n ih => intro i; rw [laws_eqSlotS_l1, eqL, ih]
theorem laws_eqSlotS_refl (p0 : List Slot) : laws_eqSlotS p0 p0 = true := by
  unfold laws_eqSlotS
  rw [decide_eq_true rfl, laws_eqSlotS_l1_eq]
  exact eqL_refl (laws_eqSlot_refl) _ _ _
theorem laws_eqJournal_refl (p0 : Journal) : laws_eqJournal p0 p0 = true := by
  unfold laws_eqJournal
  simp only [decide_true, Bool.not_true, cond_false]
theorem laws_eqDisk_refl (p0 : Disk) : laws_eqDisk p0 p0 = true := by
  unfold laws_eqDisk
  simp only [decide_true, Bool.not_true, cond_false, laws_eqJournal_refl, laws_eqSlotS_refl]
theorem laws_eqStep_refl (p0 : Step) : laws_eqStep p0 p0 = true := by
  unfold laws_eqStep
  simp only [decide_true, Bool.not_true, cond_false, laws_eqCall_refl]
theorem laws_eqStepS_l1_eq (p0 p1 : List Step) : ∀ n i, laws_eqStepS_l1 p0 p1 n i = eqL (laws_eqStep) p0 p1 n i := by
  intro n
  induction n with
  | zero => intro i; rfl
  | succ n ih => intro i; rw [laws_eqStepS_l1, eqL, ih]
theorem laws_eqStepS_refl (p0 : List Step) : laws_eqStepS p0 p0 = true := by
  unfold laws_eqStepS
  rw [decide_eq_true rfl, laws_eqStepS_l1_eq]
  exact eqL_refl (laws_eqStep_refl) _ _ _
theorem laws_eqEntry_refl (p0 : Entry) : laws_eqEntry p0 p0 = true := by
  unfold laws_eqEntry
  simp only [decide_true, Bool.not_true, cond_false, laws_eqAnswerS_refl, laws_eqStepS_refl]
theorem laws_eqEntryS_l1_eq (p0 p1 : List Entry) : ∀ n i, laws_eqEntryS_l1 p0 p1 n i = eqL (laws_eqEntry) p0 p1 n i := by
  intro n
  induction n with
  | zero => intro i; rfl
  | succ n ih => intro i; rw [laws_eqEntryS_l1, eqL, ih]
theorem laws_eqEntryS_refl (p0 : List Entry) : laws_eqEntryS p0 p0 = true := by
  unfold laws_eqEntryS
  rw [decide_eq_true rfl, laws_eqEntryS_l1_eq]
  exact eqL_refl (laws_eqEntry_refl) _ _ _
theorem laws_eqKernel_refl (p0 : Kernel) : laws_eqKernel p0 p0 = true := by
  unfold laws_eqKernel
  simp only [decide_true, Bool.not_true, cond_false, laws_eqCellS_refl, laws_eqDisk_refl, laws_eqEntryS_refl, laws_eqStringS_refl, laws_eqTxS_refl]
end Go.Proofs.YtnjidaonbcbphaaGreatDoor.Fw

/- Contracts: each call returns what the model says. By program (wip/am/gen2.py). -/
namespace Go.Proofs.YtnjidaonbcbphaaGreatDoor.Fw
open Go.RowKit
set_option linter.unusedVariables false
set_option maxRecDepth 100000

theorem fok8 : FnOk Tryz.prog 8 := ⟨_, Tryz.func8, rfl, by kernel_rfl⟩
theorem fok9 : FnOk Tryz.prog 9 := ⟨_, Tryz.func9, rfl, by kernel_rfl⟩
theorem fok10 : FnOk Tryz.prog 10 := ⟨_, Tryz.func10, rfl, by kernel_rfl⟩
theorem fok11 : FnOk Tryz.prog 11 := ⟨_, Tryz.func11, rfl, by kernel_rfl⟩
theorem fok13 : FnOk Tryz.prog 13 := ⟨_, Tryz.func13, rfl, by kernel_rfl⟩
theorem fok14 : FnOk Tryz.prog 14 := ⟨_, Tryz.func14, rfl, by kernel_rfl⟩
theorem fok16 : FnOk Tryz.prog 16 := ⟨_, Tryz.func16, rfl, by kernel_rfl⟩
/- F3 loop.example/g00974/laws.FnExactKernelLines -/
def laws_FnExactKernelLines (p0 : Kernel) : Bool := bif decide ((laws_szKernel p0 1048576) < 0) then true else (bif !(laws_eqStringS (impl_KernelLines (laws_toKernel p0)) (spec_KernelLines (laws_toKernel p0))) then false else (bif !(laws_eqKernel (laws_toKernel p0) (laws_toKernel p0)) then false else (bif (decide ((laws_markKernel (laws_toKernel p0) 1) < 0)) || (!(laws_eqStringS (impl_KernelLines (laws_toKernel p0)) (spec_KernelLines (laws_toKernel p0)))) then false else (bif decide ((laws_heldStringS ((laws_markStringS (impl_KernelLines (laws_toKernel p0)) 1).1) 1) < 0) then false else (bif !decide ((laws_heldStringS ((laws_markStringS (impl_KernelLines (laws_toKernel p0)) 1).1) 1) = ((laws_markStringS (impl_KernelLines (laws_toKernel p0)) 1).2)) then false else (bif !(laws_eqStringS (impl_KernelLines (laws_toKernel p0)) (spec_KernelLines (laws_toKernel p0))) then false else (bif decide ((laws_heldStringS ((laws_markStringS (impl_KernelLines (laws_toKernel p0)) 1).1) 1) < 0) then false else (bif !decide ((laws_heldStringS ((laws_markStringS (impl_KernelLines (laws_toKernel p0)) 1).1) 1) = ((laws_markStringS (impl_KernelLines (laws_toKernel p0)) 1).2)) then false else true))))))))
theorem c_laws_FnExactKernelLines (p0 : Kernel) : CTs 3 [.o (.st Kernel _ inferInstance p0)] [Re.c (.bool (laws_FnExactKernelLines p0))] := by
  refine en Tryz.func3 Tryz.ntmps3 fun w hG hgd => ?_
  obtain ⟨hg_p0, _⟩ := hgd
  have hM := laws_FnExactKernelLines.eq_1 p0
  refine ad 13 ?_
  refine op (cl (c_laws_szKernel p0 1048576) fok8) ?_
  refine ad 8 ?_
  refine cd (fun h1 => ?_) (fun h1 => ?_)
  ·
    have hM := hM.trans (bt h1)
    refine ad 4 ?_
    exact rz (rs := [.tmp 2]) (congrArg (fun x => [Re.c (.bool x)]) hM)
  ·
    have hM := hM.trans (bf h1)
    have hsm := (laws_szKernel_small p0 1048576 (by decide) (by decide) hg_p0 (of_decide_eq_false h1)).1
    have hsm2 : Dat.small 1048576 (laws_toKernel p0) := by rw [laws_toKernel_id]; exact hsm
    refine ad 4 ?_
    refine og (clg (c_laws_toKernel p0 (by first | assumption | exact small_nth hs (by omega))) fok10) fun hgq => ?_
    obtain ⟨hg2, _⟩ := hgq
    refine og (clg (c_spec_KernelLines (laws_toKernel p0) (by first | assumption | exact hsm2)) fok9) fun hgq => ?_
    obtain ⟨hg3, _⟩ := hgq
    refine ad 5 ?_
    refine og (clg (c_laws_toKernel p0 (by first | assumption | exact small_nth hs (by omega))) fok10) fun hgq => ?_
    obtain ⟨hg4, _⟩ := hgq
    refine ad 6 ?_
    refine og (clg (c_impl_KernelLines (laws_toKernel p0) (by first | assumption | exact hsm2)) fok11) fun hgq => ?_
    obtain ⟨hg5, _⟩ := hgq
    refine ad 7 ?_
    refine op (cl (c_laws_eqStringS (impl_KernelLines (laws_toKernel p0)) (spec_KernelLines (laws_toKernel p0))) fok12) ?_
    refine ad 2 ?_
    refine cd (fun h6 => ?_) (fun h6 => ?_)
    ·
      have hM := hM.trans (bt h6)
      refine ad 4 ?_
      exact rz (rs := [.tmp 2]) (congrArg (fun x => [Re.c (.bool x)]) hM)
    ·
      have hM := hM.trans (bf h6)
      refine ad 3 ?_
      refine dr 5 fun _ _ _ _ _ hb => ?_
      refine tk [0, 1] ?_
      refine ong 2 [5, 6, 7, 8, 9, 10, 11, 12, 13, 14, 15, 16, 17, 18, 19, 20, 21, 22, 23] (clg (c_laws_toKernel p0 (by first | assumption | exact small_nth hs (by omega))) fok10) fun hgq => ?_
      obtain ⟨hg7, _⟩ := hgq
      refine on 3 [5, 6, 7, 8, 9, 10, 11, 12, 13, 14, 15, 16, 17, 18, 19, 20, 21, 22, 23] (cl (c_laws_eqKernel (laws_toKernel p0) (laws_toKernel p0)) fok13) ?_
      refine tk [4] ?_
      refine dn hb ?_
      refine cd (fun h8 => ?_) (fun h8 => ?_)
      ·
        have hM := hM.trans (bt h8)
        refine ad 4 ?_
        exact rz (rs := [.tmp 2]) (congrArg (fun x => [Re.c (.bool x)]) hM)
      ·
        have hM := hM.trans (bf h8)
        refine ad 9 ?_
        refine og (cm [12, 13, 14, 15, 16] [] [7, 8, 9, 10, 11] [] [0, 1, 2, 3, 4, 5, 6, 12, 13, 14, 15, 16, 17, 18, 19, 20, 21, 22, 23] (c_laws_markKernel (laws_toKernel p0) 1 (by first | assumption | exact gi _)) fok14) fun hg9 => ?_
        refine ad 8 ?_
        refine ag 2 ?_
        refine op (cG (hct := fun hB => (c_laws_eqStringS (impl_KernelLines (laws_toKernel p0)) (spec_KernelLines (laws_toKernel p0)))) (hfn := fok12)) ?_
        refine ag 2 ?_
        refine ad 1 ?_
        refine cd (fun h10 => ?_) (fun h10 => ?_)
        ·
          have hM := hM.trans (bt h10)
          refine ad 4 ?_
          exact rz (rs := [.tmp 2]) (congrArg (fun x => [Re.c (.bool x)]) hM)
        ·
          have hM := hM.trans (bf h10)
          refine ad 9 ?_
          refine og (mu (u_laws_markStringS (impl_KernelLines (laws_toKernel p0)) 1 (gi 1)) fok15) fun hgq => ?_
          obtain ⟨hg11, hg12⟩ := hgq
          refine ad 10 ?_
          refine op (cl (k_laws_heldStringS ((laws_markStringS (impl_KernelLines (laws_toKernel p0)) 1).1) 1 (gi 1)) fok16) ?_
          refine ad 8 ?_
          refine cd (fun h13 => ?_) (fun h13 => ?_)
          ·
            have hM := hM.trans (bt h13)
            refine ad 4 ?_
            exact rz (rs := [.tmp 2]) (congrArg (fun x => [Re.c (.bool x)]) hM)
          ·
            have hM := hM.trans (bf h13)
            refine ad 8 ?_
            refine cd (fun h14 => ?_) (fun h14 => ?_)
            ·
              have hM := hM.trans (bt h14)
              refine ad 4 ?_
              exact rz (rs := [.tmp 2]) (congrArg (fun x => [Re.c (.bool x)]) hM)
            ·
              have hM := hM.trans (bf h14)
              refine ad 4 ?_
              refine og (clg (c_laws_toKernel p0 (by first | assumption | exact small_nth hs (by omega))) fok10) fun hgq => ?_
              obtain ⟨hg15, _⟩ := hgq
              refine og (clg (c_impl_KernelLines (laws_toKernel p0) (by first | assumption | exact hsm2)) fok11) fun hgq => ?_
              obtain ⟨hg16, _⟩ := hgq
              refine ad 7 ?_
              refine op (cl (c_laws_eqStringS (impl_KernelLines (laws_toKernel p0)) (spec_KernelLines (laws_toKernel p0))) fok12) ?_
              refine ad 2 ?_
              refine cd (fun h17 => ?_) (fun h17 => ?_)
              ·
                have hM := hM.trans (bt h17)
                refine ad 4 ?_
                exact rz (rs := [.tmp 2]) (congrArg (fun x => [Re.c (.bool x)]) hM)
              ·
                have hM := hM.trans (bf h17)
                refine ad 9 ?_
                refine op (cl (k_laws_heldStringS ((laws_markStringS (impl_KernelLines (laws_toKernel p0)) 1).1) 1 (gi 1)) fok16) ?_
                refine ad 8 ?_
                refine cd (fun h18 => ?_) (fun h18 => ?_)
                ·
                  have hM := hM.trans (bt h18)
                  refine ad 4 ?_
                  exact rz (rs := [.tmp 2]) (congrArg (fun x => [Re.c (.bool x)]) hM)
                ·
                  have hM := hM.trans (bf h18)
                  refine ad 8 ?_
                  refine cd (fun h19 => ?_) (fun h19 => ?_)
                  ·
                    have hM := hM.trans (bt h19)
                    refine ad 4 ?_
                    exact rz (rs := [.tmp 2]) (congrArg (fun x => [Re.c (.bool x)]) hM)
                  ·
                    have hM := hM.trans (bf h19)
                    refine ad 5 ?_
                    exact rz (rs := [.tmp 2]) (congrArg (fun x => [Re.c (.bool x)]) hM)

end Go.Proofs.YtnjidaonbcbphaaGreatDoor.Fw