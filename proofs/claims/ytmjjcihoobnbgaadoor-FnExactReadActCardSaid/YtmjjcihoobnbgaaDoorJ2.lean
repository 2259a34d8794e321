/- The size of what is joined. By program (wip/gen). -/
import Derived.Test.YtmjjcihoobnbgaaDoorJ
namespace Go.Proofs.YtmjjcihoobnbgaaDoor.Fw
open Go.RowKit
set_option linter.unusedVariables false
set_option linter.unusedSimpArgs false


theorem join_len {m : Nat} (sep : List UInt8) (hs : sep.length ≤ m) : ∀ xs : List (List UInt8), (∀ x ∈ xs, x.length ≤ m) → (Lib.join xs sep).length ≤ xs.length * (2 * m) := by
  intro xs
  induction xs with
  | nil => intro _; simp [Lib.join, List.intercalate]
  | cons x r ih =>
    intro h
    have hx := h x (by simp)
    have hr := ih (fun y hy => h y (List.mem_cons_of_mem _ hy))
    cases r with
    | nil => rw [Lib.join_one]; simp only [List.length_cons, List.length_nil]; omega
    | cons y r =>
      have e : Lib.join (x :: y :: r) sep = x ++ (sep ++ Lib.join (y :: r) sep) := by simp [Lib.join, List.intercalate]
      rw [e]
      simp only [List.length_append]
      rw [List.length_cons (a := x), Nat.add_mul, Nat.one_mul]
      omega
theorem join_small {xs : List ByteArray} {sep : ByteArray} (h : ∀ x ∈ xs, x.size ≤ 1048576) (hs : sep.size ≤ 1048576) (hn : xs.length ≤ 1048576) : (Lib.join (xs.map (·.data.toList)) sep.data.toList).length ≤ 140737488355328 := by
  have := join_len (m := 1048576) sep.data.toList (by simpa using hs) (xs.map (·.data.toList)) (by
    intro l hl
    obtain ⟨x, hx, rfl⟩ := List.mem_map.1 hl
    simpa using h x hx)
  rw [List.length_map] at this
  omega

end Go.Proofs.YtmjjcihoobnbgaaDoor.Fw
