/- Plain laws of the harness. By program (wip/gen). -/
import Derived.Test.YtmjjcihoobnbgaaDoorH5
namespace Go.Proofs.YtmjjcihoobnbgaaDoor.Fw
open Go.RowKit
set_option linter.unusedVariables false
set_option linter.unusedSimpArgs false


/-! ## Lists, generally -/
def szL {α : Type} [Inhabited α] (f : α → Int → Int) (xs : List α) : Nat → Nat → Int → Int
  | 0, _, s => s
  | n + 1, i, s => if decide (f (nth xs i) s < 0) = true then (-1) else szL f xs n (i + 1) (f (nth xs i) s)
theorem nth_of {α : Type} [Inhabited α] {xs : List α} {i : Nat} {x : α} (h : xs[i]? = some x) : nth xs i = x := by
  simp [nth, List.getD_eq_getElem?_getD, h]
theorem szL_small {α : Type} [Inhabited α] [Dat α] {f : α → Int → Int} {xs : List α} (hf : ∀ x s, 0 ≤ s → s ≤ 1048576 → Dat.good x → ¬ f x s < 0 → Dat.small 1048576 x ∧ 0 ≤ f x s ∧ f x s ≤ 1048576) (hg : ∀ x ∈ xs, Dat.good x) :
    ∀ (n i : Nat) (s : Int), n = xs.length - i → 0 ≤ s → s ≤ 1048576 → ¬ szL f xs n i s < 0 → (∀ j x, i ≤ j → xs[j]? = some x → Dat.small 1048576 x) ∧ 0 ≤ szL f xs n i s ∧ szL f xs n i s ≤ 1048576 := by
  intro n
  induction n with
  | zero =>
    intro i s hn h0 h1 _
    refine ⟨fun j x hj hx => ?_, h0, h1⟩
    have := (List.getElem?_eq_some_iff.1 hx).1
    omega
  | succ n ih =>
    intro i s hn h0 h1 h
    unfold szL at h ⊢
    by_cases hc : f (nth xs i) s < 0
    · simp [hc] at h
    · simp only [hc, decide_false, Bool.false_eq_true, if_false] at h ⊢
      have hi : i < xs.length := by omega
      have hx : xs[i]? = some xs[i] := List.getElem?_eq_getElem hi
      have hgi : Dat.good (nth xs i) := by rw [nth_of hx]; exact hg _ (List.getElem_mem hi)
      obtain ⟨h2, h3, h4⟩ := hf _ _ h0 h1 hgi hc
      obtain ⟨h5, h6, h7⟩ := ih (i + 1) _ (by omega) h3 h4 h
      refine ⟨fun j x hj hjx => ?_, h6, h7⟩
      by_cases e : j = i
      · subst e
        rw [← nth_of hjx]
        exact h2
      · exact h5 j x (by omega) hjx
theorem good_str {s : ByteArray} (h : Dat.good s) : s.size ≤ 9223372036854775807 := by
  have h' : s.size ≤ maxLen := h
  unfold maxLen at h'
  omega
theorem wrap_sub {a : Int} {n : Nat} (h0 : 0 ≤ a) (h1 : a ≤ 1048576) (hn : n ≤ 9223372036854775807) : IntKind.i64.wrap (a - (n : Int)) = a - n := IntWalk.i64_in _ (by omega)

def toL {α β : Type} [Inhabited α] (f : α → β) (xs : List α) : Nat → Nat → List β → List β
  | 0, _, y => y
  | n + 1, i, y => toL f xs n (i + 1) (y ++ [f (nth xs i)])
theorem toL_eq {α : Type} [Inhabited α] {f : α → α} (hf : ∀ x, f x = x) (xs : List α) : ∀ (n i : Nat) (y : List α), n = xs.length - i → toL f xs n i y = y ++ xs.drop i := by
  intro n
  induction n with
  | zero => intro i y hn; rw [toL, List.drop_eq_nil_of_le (by omega), List.append_nil]
  | succ n ih =>
    intro i y hn
    have hi : i < xs.length := by omega
    rw [toL, ih (i + 1) _ (by omega), hf, List.append_assoc, List.drop_eq_getElem_cons hi]
    congr 2
    rw [nth_of (List.getElem?_eq_getElem hi)]
    rfl

def eqL {α : Type} [Inhabited α] (f : α → α → Bool) (xs ys : List α) : Nat → Nat → Bool
  | 0, _ => true
  | n + 1, i => if (!(f (nth xs i) (nth ys i))) = true then false else eqL f xs ys n (i + 1)
theorem eqL_refl {α : Type} [Inhabited α] {f : α → α → Bool} (hf : ∀ x, f x x = true) (xs : List α) : ∀ n i, eqL f xs xs n i = true := by
  intro n
  induction n with
  | zero => intro i; rfl
  | succ n ih => intro i; rw [eqL, hf]; simp [ih]


theorem laws_szCall_small (p0 : Call) (p1 : Int) (h0 : 0 ≤ p1) (h1 : p1 ≤ 1048576) (hg : Dat.good p0) (h : ¬ laws_szCall p0 p1 < 0) : Dat.small 1048576 p0 ∧ 0 ≤ laws_szCall p0 p1 ∧ laws_szCall p0 p1 ≤ 1048576 := by
  unfold laws_szCall at h ⊢
  obtain ⟨g0, g1, g2, g3, g4, g5⟩ := hg
  rw [wrap_sub (a := p1) h0 h1 (n := p0.Name.size) (good_str g1)] at h ⊢
  by_cases c1 : (p1 - (p0.Name.size : Int)) < 0
  · simp [c1] at h
  simp only [c1, decide_false, Bool.false_eq_true, if_false] at h ⊢
  have b1 : 0 ≤ (p1 - (p0.Name.size : Int)) := by omega
  have e1 : (p1 - (p0.Name.size : Int)) ≤ 1048576 := by omega
  have s1 : p0.Name.size ≤ 1048576 := by omega
  rw [wrap_sub (a := (p1 - (p0.Name.size : Int))) b1 e1 (n := p0.To.size) (good_str g2)] at h ⊢
  by_cases c2 : ((p1 - (p0.Name.size : Int)) - (p0.To.size : Int)) < 0
  · simp [c2] at h
  simp only [c2, decide_false, Bool.false_eq_true, if_false] at h ⊢
  have b2 : 0 ≤ ((p1 - (p0.Name.size : Int)) - (p0.To.size : Int)) := by omega
  have e2 : ((p1 - (p0.Name.size : Int)) - (p0.To.size : Int)) ≤ 1048576 := by omega
  have s2 : p0.To.size ≤ 1048576 := by omega
  rw [wrap_sub (a := ((p1 - (p0.Name.size : Int)) - (p0.To.size : Int))) b2 e2 (n := p0.Text.size) (good_str g5)] at h ⊢
  by_cases c3 : (((p1 - (p0.Name.size : Int)) - (p0.To.size : Int)) - (p0.Text.size : Int)) < 0
  · simp [c3] at h
  simp only [c3, decide_false, Bool.false_eq_true, if_false] at h ⊢
  have b3 : 0 ≤ (((p1 - (p0.Name.size : Int)) - (p0.To.size : Int)) - (p0.Text.size : Int)) := by omega
  have e3 : (((p1 - (p0.Name.size : Int)) - (p0.To.size : Int)) - (p0.Text.size : Int)) ≤ 1048576 := by omega
  have s5 : p0.Text.size ≤ 1048576 := by omega
  exact ⟨⟨trivial, s1, s2, trivial, trivial, s5⟩, b3, e3⟩
@[simp] theorem laws_toCall_id (p0 : Call) : laws_toCall p0 = p0 := by
  unfold laws_toCall
  rfl
end Go.Proofs.YtmjjcihoobnbgaaDoor.Fw
