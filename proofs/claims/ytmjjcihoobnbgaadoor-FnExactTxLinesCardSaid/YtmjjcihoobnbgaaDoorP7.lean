/- Plain laws of the marks. By program (wip/gen). -/
import Derived.Test.YtmjjcihoobnbgaaDoorM3
import Derived.Test.YtmjjcihoobnbgaaDoorP6
namespace Go.Proofs.YtmjjcihoobnbgaaDoor.Fw
open Go.RowKit
set_option linter.unusedVariables false
set_option linter.unusedSimpArgs false


/-! ## Marks, generally -/
theorem wrap_up {s hi : Int} (h : 0 ≤ s ∧ s ≤ hi) (hh : hi ≤ 2305843009213693952) : 0 ≤ IntKind.i64.wrap (s + 1) ∧ IntKind.i64.wrap (s + 1) ≤ hi + 1 := by
  rw [IntWalk.i64_in (s + 1) ⟨by omega, by omega⟩]
  omega
theorem nth_set_self {α : Type} [Inhabited α] {xs : List α} {i : Nat} {x : α} (h : i < xs.length) : nth (xs.set i x) i = x := by
  simp [nth, List.getD_eq_getElem?_getD, h]
theorem nth_set_ne {α : Type} [Inhabited α] {xs : List α} {i j : Nat} {x : α} (h : i ≠ j) : nth (xs.set i x) j = nth xs j := by
  simp [nth, List.getD_eq_getElem?_getD, List.getElem?_set_ne h]
def markL {α : Type} (f : Int → α) : Nat → Nat → Int → List α → List α × Int
  | 0, _, s, y => (y, s)
  | n + 1, i, s, y => markL f n (i + 1) (IntKind.i64.wrap (s + 1)) (y.set i (f s))
def heldL {α : Type} [Inhabited α] [DecidableEq α] (f : Int → α) (z : List α) : Nat → Nat → Int → Int
  | 0, _, s => s
  | n + 1, i, s => if (!decide (nth z i = f s)) = true then (-1) else heldL f z n (i + 1) (IntKind.i64.wrap (s + 1))
theorem markL_length {α : Type} {f : Int → α} : ∀ (n i : Nat) (s : Int) (y : List α), (markL f n i s y).1.length = y.length := by
  intro n
  induction n with
  | zero => intro i s y; rfl
  | succ n ih => intro i s y; rw [markL, ih, List.length_set]
theorem markL_below {α : Type} [Inhabited α] {f : Int → α} : ∀ (n i : Nat) (s : Int) (y : List α) (j : Nat), j < i → nth (markL f n i s y).1 j = nth y j := by
  intro n
  induction n with
  | zero => intro i s y j _; rfl
  | succ n ih => intro i s y j hj; rw [markL, ih _ _ _ _ (by omega), nth_set_ne (by omega)]
theorem markL_le {α : Type} {f : Int → α} : ∀ (n i : Nat) (s : Int) (y : List α), 0 ≤ s → s + n ≤ 1152921504606846976 → 0 ≤ (markL f n i s y).2 ∧ (markL f n i s y).2 ≤ s + n := by
  intro n
  induction n with
  | zero => intro i s y h0 h1; exact ⟨h0, by simp [markL]⟩
  | succ n ih =>
    intro i s y h0 h1
    have hw := wrap_up (s := s) (hi := s) ⟨h0, by omega⟩ (by omega)
    have := ih (i + 1) (IntKind.i64.wrap (s + 1)) (y.set i (f s)) hw.1 (by omega)
    rw [markL]
    exact ⟨this.1, by omega⟩
theorem heldL_markL {α : Type} [Inhabited α] [DecidableEq α] {f : Int → α} : ∀ (n i : Nat) (s : Int) (y : List α), i + n ≤ y.length → heldL f (markL f n i s y).1 n i s = (markL f n i s y).2 := by
  intro n
  induction n with
  | zero => intro i s y _; rfl
  | succ n ih =>
    intro i s y h
    rw [heldL, markL]
    have e : nth (markL f n (i + 1) (IntKind.i64.wrap (s + 1)) (y.set i (f s))).1 i = f s := by
      rw [markL_below _ _ _ _ _ (by omega), nth_set_self (by omega)]
    rw [e]
    simp only [decide_true, Bool.not_true, Bool.false_eq_true, if_false]
    exact ih (i + 1) _ _ (by rw [List.length_set]; omega)
/-- What was marked is found so, and the count is no negative one. -/
theorem held_marked {α : Type} [Inhabited α] [DecidableEq α] {f : Int → α} {y : List α} (hy : y.length ≤ 1099511627776) :
    heldL f (markL f (y.length - 0) 0 1 y).1 ((markL f (y.length - 0) 0 1 y).1.length - 0) 0 1 = (markL f (y.length - 0) 0 1 y).2 ∧ 0 ≤ (markL f (y.length - 0) 0 1 y).2 := by
  rw [markL_length]
  exact ⟨heldL_markL _ _ _ _ (by omega), (markL_le _ _ _ _ (by decide) (by omega)).1⟩

theorem laws_markStringS_l1_eq (p0 : List ByteArray) (p1 : Int) : ∀ n i s y, laws_markStringS_l1 p0 p1 n i s y = markL (fun s => laws_markText s) n i s y := by
  intro n
  induction n with
  | zero => intro i s y; rfl
  | succ n ih => intro i s y; rw [laws_markStringS_l1, markL, ih]
theorem laws_heldStringS_l1_eq (p0 : List ByteArray) (p1 : Int) : ∀ n i s, laws_heldStringS_l1 p0 p1 n i s = heldL (fun s => laws_markText s) p0 n i s := by
  intro n
  induction n with
  | zero => intro i s; rfl
  | succ n ih => intro i s; rw [laws_heldStringS_l1, heldL, ih]
theorem laws_heldStringS_marked {y : List ByteArray} (hy : y.length ≤ 1099511627776) : laws_heldStringS (laws_markStringS y 1).1 1 = (laws_markStringS y 1).2 ∧ 0 ≤ (laws_markStringS y 1).2 := by
  unfold laws_heldStringS laws_markStringS
  rw [laws_markStringS_l1_eq, laws_heldStringS_l1_eq]
  exact held_marked hy

theorem laws_markCallS_l1_le (p0 : List Call) (p1 : Int) : ∀ (n i : Nat) (s : Int) (y : List Call), 0 ≤ s → s + 6 * n ≤ 1152921504606846976 → 0 ≤ (laws_markCallS_l1 p0 p1 n i s y).2 ∧ (laws_markCallS_l1 p0 p1 n i s y).2 ≤ s + 6 * n := by
  intro n
  induction n with
  | zero => intro i s y h0 h1; exact ⟨h0, by simp [laws_markCallS_l1]⟩
  | succ n ih =>
    intro i s y h0 h1
    have hw := (wrap_up (wrap_up (wrap_up (wrap_up (wrap_up (wrap_up (show 0 ≤ s ∧ s ≤ s from ⟨h0, Int.le_refl _⟩) (by omega)) (by omega)) (by omega)) (by omega)) (by omega)) (by omega))
    rw [laws_markCallS_l1]
    have h2 := fun Y => ih (i + 1) _ Y hw.1 (by omega)
    exact ⟨(h2 _).1, Int.le_trans (h2 _).2 (by omega)⟩
theorem laws_markCallS_le {p0 : List Call} {p1 : Int} (h0 : 0 ≤ p1) (h1 : p1 ≤ 576460752303423488) (hl : p0.length ≤ 1048576) : 0 ≤ (laws_markCallS p0 p1).2 ∧ (laws_markCallS p0 p1).2 ≤ p1 + 6291456 := by
  unfold laws_markCallS
  have := laws_markCallS_l1_le p0 p1 (p0.length - 0) 0 p1 p0 h0 (by omega)
  exact ⟨this.1, by omega⟩

theorem laws_markAnswerS_l1_le (p0 : List Answer) (p1 : Int) : ∀ (n i : Nat) (s : Int) (y : List Answer), 0 ≤ s → s + 3 * n ≤ 1152921504606846976 → 0 ≤ (laws_markAnswerS_l1 p0 p1 n i s y).2 ∧ (laws_markAnswerS_l1 p0 p1 n i s y).2 ≤ s + 3 * n := by
  intro n
  induction n with
  | zero => intro i s y h0 h1; exact ⟨h0, by simp [laws_markAnswerS_l1]⟩
  | succ n ih =>
    intro i s y h0 h1
    have hw := (wrap_up (wrap_up (wrap_up (show 0 ≤ s ∧ s ≤ s from ⟨h0, Int.le_refl _⟩) (by omega)) (by omega)) (by omega))
    rw [laws_markAnswerS_l1]
    have h2 := fun Y => ih (i + 1) _ Y hw.1 (by omega)
    exact ⟨(h2 _).1, Int.le_trans (h2 _).2 (by omega)⟩
theorem laws_markAnswerS_le {p0 : List Answer} {p1 : Int} (h0 : 0 ≤ p1) (h1 : p1 ≤ 576460752303423488) (hl : p0.length ≤ 1048576) : 0 ≤ (laws_markAnswerS p0 p1).2 ∧ (laws_markAnswerS p0 p1).2 ≤ p1 + 3145728 := by
  unfold laws_markAnswerS
  have := laws_markAnswerS_l1_le p0 p1 (p0.length - 0) 0 p1 p0 h0 (by omega)
  exact ⟨this.1, by omega⟩

theorem laws_markStringS_le {p0 : List ByteArray} {p1 : Int} (h0 : 0 ≤ p1) (h1 : p1 ≤ 576460752303423488) (hl : p0.length ≤ 1048576) : 0 ≤ (laws_markStringS p0 p1).2 ∧ (laws_markStringS p0 p1).2 ≤ p1 + 1048576 := by
  unfold laws_markStringS
  rw [laws_markStringS_l1_eq]
  have := markL_le (f := fun s => laws_markText s) (p0.length - 0) 0 p1 p0 h0 (by omega)
  exact ⟨this.1, by omega⟩
theorem laws_markIntS_l1_eq (p0 : List Int) (p1 : Int) : ∀ n i s y, laws_markIntS_l1 p0 p1 n i s y = markL (fun s => s) n i s y := by
  intro n
  induction n with
  | zero => intro i s y; rfl
  | succ n ih => intro i s y; rw [laws_markIntS_l1, markL, ih]
theorem laws_markIntS_le {p0 : List Int} {p1 : Int} (h0 : 0 ≤ p1) (h1 : p1 ≤ 576460752303423488) (hl : p0.length ≤ 1048576) : 0 ≤ (laws_markIntS p0 p1).2 ∧ (laws_markIntS p0 p1).2 ≤ p1 + 1048576 := by
  unfold laws_markIntS
  rw [laws_markIntS_l1_eq]
  have := markL_le (f := fun s => s) (p0.length - 0) 0 p1 p0 h0 (by omega)
  exact ⟨this.1, by omega⟩
theorem laws_markTxS_l1_le (p0 : List Tx) (p1 : Int) (hs : Dat.small 1048576 p0) : ∀ (n i : Nat) (s : Int) (y : List Tx), n = p0.length - i → y.length = p0.length → (∀ j, i ≤ j → nth y j = nth p0 j) → 0 ≤ s → s + 12582917 * n ≤ 288230376151711744 →
    0 ≤ (laws_markTxS_l1 p0 p1 n i s y).2 := by
  intro n
  induction n with
  | zero => intro i s y _ _ _ h0 _; exact h0
  | succ n ih =>
    intro i s y hn hy he h0 h1
    have hw3 := (wrap_up (wrap_up (wrap_up (wrap_up (show 0 ≤ s ∧ s ≤ s from ⟨h0, Int.le_refl _⟩) (by omega)) (by omega)) (by omega)) (by omega))
    have hsm : Dat.small 1048576 (nth p0 i) := small_nth hs (by omega)
    have e := he i (Nat.le_refl _)
    have hca : (nth y i).Calls.length ≤ 1048576 := by rw [e]; exact hsm.2.2.2.2.1.1
    have han : (nth y i).Answers.length ≤ 1048576 := by rw [e]; exact hsm.2.2.2.2.2.1.1
    have hre : (nth y i).Touch.Reads.length ≤ 1048576 := by rw [e]; exact hsm.2.2.2.2.2.2.1.1.1
    have hwr : (nth y i).Touch.Writes.length ≤ 1048576 := by rw [e]; exact hsm.2.2.2.2.2.2.1.2.1
    have hma : (nth y i).Marks.length ≤ 1048576 := by rw [e]; exact hsm.2.2.2.2.2.2.2.1.1
    have hw4 := laws_markCallS_le (p0 := (nth y i).Calls) hw3.1 (by omega) hca
    have hw5 := laws_markAnswerS_le (p0 := (nth y i).Answers) hw4.1 (by omega) han
    have hw6 := laws_markStringS_le (p0 := (nth y i).Touch.Reads) hw5.1 (by omega) hre
    have hw7 := laws_markStringS_le (p0 := (nth y i).Touch.Writes) hw6.1 (by omega) hwr
    have hw8 := laws_markIntS_le (p0 := (nth y i).Marks) hw7.1 (by omega) hma
    have hw9 := wrap_up (hi := s + 12582916) ⟨hw8.1, by omega⟩ (by omega)
    rw [laws_markTxS_l1]
    refine ih (i + 1) _ _ (by omega) (by rw [List.length_set]; exact hy) (fun j hj => ?_) hw9.1 (by omega)
    rw [nth_set_ne (by omega)]
    exact he j (by omega)
theorem laws_markTxS_pos {p0 : List Tx} (hs : Dat.small 1048576 p0) : 0 ≤ (laws_markTxS p0 1).2 := by
  have hl : p0.length ≤ 1048576 := hs.1
  unfold laws_markTxS
  exact laws_markTxS_l1_le p0 1 hs _ _ _ _ rfl rfl (fun _ _ => rfl) (by decide) (by omega)

theorem laws_eqStringS_l1_eq2 (p0 p1 : List ByteArray) : ∀ n i, laws_eqStringS_l1 p0 p1 n i = eqL (fun a b => decide (a = b)) p0 p1 n i := by
  intro n
  induction n with
  | zero => intro i; rfl
  | succ n ih => intro i; simp only [laws_eqStringS_l1, eqL, ih]
theorem laws_eqStringS_same (p0 : List ByteArray) : laws_eqStringS p0 p0 = true := by
  unfold laws_eqStringS
  simp only [decide_true, Bool.not_true, Bool.false_eq_true, if_false, laws_eqStringS_l1_eq2]
  exact eqL_refl (by intro x; simp) _ _ _

end Go.Proofs.YtmjjcihoobnbgaaDoor.Fw
