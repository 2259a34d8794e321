/-
  The contract of the library's word splitting, for the abstract machine. No condition.
-/
import Derived.Test.YtmjjcihoobnbgaaDoorB2
namespace Go.Proofs.YtmjjcihoobnbgaaDoor.Fw
open Go.RowKit
set_option linter.unusedVariables false
set_option maxRecDepth 100000

theorem parts_inv {p0 : ByteArray} {i : Nat} (hi : i < p0.size) (hv : ∀ j, j < i → 32 ≤ (byteAt p0 j).toNat ∧ (byteAt p0 j).toNat ≤ 126) (h : ((decide (((byteAt p0 i).toNat : Int) < 32)) || (decide (((byteAt p0 i).toNat : Int) > 126))) = false) :
    i + 1 ≤ p0.size ∧ ∀ j, j < i + 1 → 32 ≤ (byteAt p0 j).toNat ∧ (byteAt p0 j).toNat ≤ 126 := by
  refine ⟨hi, fun j hj => ?_⟩
  rcases Nat.lt_or_ge j i with h1 | h1
  · exact hv j h1
  · obtain rfl : j = i := by omega
    obtain ⟨h2, h3⟩ := Bool.or_eq_false_iff.1 h
    have h2' := of_decide_eq_false h2
    have h3' := of_decide_eq_false h3
    omega
theorem len_of {a : ByteArray} {n : Nat} (h1 : decide ((n : Int) = 0) = false) (h2 : (!decide ((a.size : Int) = IntKind.i64.wrap ((n : Int) - 1))) = false) (hn : n ≤ 9223372036854775807) : a.size + 1 = n := by
  have h1' := of_decide_eq_false h1
  have h2' : (a.size : Int) = IntKind.i64.wrap ((n : Int) - 1) := by simpa using h2
  rw [IntWalk.i64_in _ (by omega)] at h2'
  omega
theorem lt_wrap {i n : Nat} (h : decide (IntKind.i64.wrap ((i : Int) + 1) < (n : Int)) = true) (hi : i ≤ 1000) : i + 1 < n := by
  have h' := of_decide_eq_true h
  rw [IntWalk.i64_in _ (by omega)] at h'
  omega
theorem fieldsGo_le : ∀ (l cur : List UInt8), (Lib.fieldsGo cur l).length ≤ l.length + 1 ∧ ∀ x ∈ Lib.fieldsGo cur l, x.length ≤ cur.length + l.length
  | [], cur => by
    cases cur with
    | nil => exact ⟨by simp [Lib.fieldsGo], fun x hx => by simp [Lib.fieldsGo] at hx⟩
    | cons a r => exact ⟨by simp [Lib.fieldsGo], fun x hx => by simp [Lib.fieldsGo] at hx; subst hx; simp⟩
  | b :: l, cur => by
    rw [Lib.fieldsGo]
    split
    · have ih := fieldsGo_le l []
      split
      · refine ⟨by simp only [List.length_cons]; omega, fun x hx => ?_⟩
        have := ih.2 x hx
        simp only [List.length_nil, List.length_cons] at *
        omega
      · refine ⟨by simp only [List.length_cons]; omega, fun x hx => ?_⟩
        rcases List.mem_cons.1 hx with rfl | hx
        · simp
        · have := ih.2 x hx
          simp only [List.length_nil, List.length_cons] at *
          omega
    · have ih := fieldsGo_le l (cur ++ [b])
      refine ⟨by simp only [List.length_cons]; omega, fun x hx => ?_⟩
      have := ih.2 x hx
      simp only [List.length_append, List.length_cons, List.length_nil] at *
      omega
def fieldsS (s : ByteArray) : List ByteArray := (Lib.fields s.data.toList).map fun l => ⟨l.toArray⟩
theorem fieldsS_len (s : ByteArray) : (fieldsS s).length ≤ s.size + 1 := by
  unfold fieldsS
  rw [List.length_map]
  have := (fieldsGo_le s.data.toList []).1
  rw [Array.length_toList] at this
  exact this
theorem fieldsS_sizes (s : ByteArray) : ∀ x ∈ fieldsS s, x.size ≤ s.size := fun x hx => by
  obtain ⟨l, hl, rfl⟩ := List.mem_map.1 hx
  have := (fieldsGo_le s.data.toList []).2 l hl
  rw [Array.length_toList, List.length_nil, Nat.zero_add] at this
  show l.toArray.size ≤ _
  rw [List.size_toArray]
  exact this
theorem gl2_tab : gl2 = Lib.asciiSpaceTab.map (fun x => x) := by decide
theorem k_fields (p0 : ByteArray) (hs : p0.size ≤ 600) (ha : ∀ j, j < p0.size → 32 ≤ (byteAt p0 j).toNat ∧ (byteAt p0 j).toNat ≤ 126) : CTs 72 [.o (.c (.string p0))] [.sl ByteArray instDatByteArray (fieldsS p0)] := fun w vs hG hA => by
  obtain rfl := argsC (us := [.string p0]) hA
  have ht : Lib.TabIs Tryd.prog w "strings.asciiSpace" .u8 Lib.asciiSpaceTab := by
    have h2 := Gl2 w hG
    rw [gl2_tab, List.map_id'] at h2
    exact h2.var (by kernel_rfl)
  refine (Tryd.strings_Fields p0 w (by omega) (fun j b hb => ?_) ht).mono fun e w2 hr => ?_
  · have hj := (List.getElem?_eq_some_iff.1 hb).1
    rw [Array.length_toList] at hj
    have := (ha j hj).2
    have e : byteAt p0 j = b := by
      unfold byteAt
      rw [Array.getElem?_toList] at hb
      rw [Array.getD_eq_getD_getElem?, hb]
      rfl
    rw [e] at this
    omega
  · obtain ⟨rfl, rfl⟩ := hr
    have hl := fieldsS_len p0
    have hn : (Lib.fields p0.data.toList).length = (fieldsS p0).length := by unfold fieldsS; rw [List.length_map]
    have hk : Below w.heap.size w (w.alloc (.cells ((Lib.fields p0.data.toList).map fun l => Value.string ⟨l.toArray⟩).toArray 9)) := (Below.refl _ w).alloc (Nat.le_refl _) _
    have hrow : (w.alloc (.cells ((Lib.fields p0.data.toList).map fun l => Value.string ⟨l.toArray⟩).toArray 9)).ownsRow w.heap.size 9 1 (.slice (some ⟨w.heap.size, 0, none⟩) (fieldsS p0).length (fieldsS p0).length) (fieldsS p0).length ((fieldsS p0).map Value.string) := by
      refine ⟨by rw [List.length_map, Nat.mul_one], .inr ⟨w.heap.size, (fieldsS p0).length, _, rfl, Nat.le_refl _, Array.getElem?_push_size, Nat.le_refl _, by unfold maxLen; omega, ?_, ?_⟩⟩
      · rw [List.size_toArray, List.length_map, Nat.mul_one]
        exact hn
      · rw [Nat.mul_one, List.take_of_length_le (by simp [hn])]
        simp [fieldsS]
    obtain ⟨F, h1, h2, h3⟩ := slo_row (α := ByteArray) (mk := Value.string) rfl (fun x hx => ⟨⟨rfl, by have := fieldsS_sizes p0 x hx; show x.size ≤ maxLen; unfold maxLen; omega⟩, rfl⟩) hrow rfl
    rw [hn]
    refine ⟨_, rfl, Keep.of_below hk fun _ h => h, [_], F ++ [], rfl, ⟨F, [], rfl, h1, rfl⟩, by rw [List.append_nil]; exact h2, fun b hb => ?_⟩
    rw [List.append_nil] at hb
    have := h3 b hb
    show ¬ b < w.heap.size
    omega
end Go.Proofs.YtmjjcihoobnbgaaDoor.Fw
