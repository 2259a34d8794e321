/-
  What is drawn, and the words that a line is parted into. No condition.
-/
import Derived.Test.YtmjjcihoobnbgaaDoorKD
namespace Go.Proofs.YtmjjcihoobnbgaaDoor.Fw
open Go.RowKit
set_option linter.unusedVariables false
set_option linter.unusedSimpArgs false
set_option maxRecDepth 100000
/-! ## What is drawn -/
theorem below_in (b : List UInt8) (c : Cur) : 0 ≤ (spec_l01Below b c 10000).1 ∧ (spec_l01Below b c 10000).1 ≤ 9999 := by
  unfold spec_l01Below
  have h1 := byte_in b c
  have h2 := byte_in b (spec_l01Byte b c).2
  have h3 := byte_in b (spec_l01Byte b (spec_l01Byte b c).2).2
  have h4 := byte_in b (spec_l01Byte b (spec_l01Byte b (spec_l01Byte b c).2).2).2
  show 0 ≤ Int.tmod _ 10000 ∧ Int.tmod _ 10000 ≤ 9999
  generalize (spec_l01Byte b c).1 = x1 at *
  generalize (spec_l01Byte b (spec_l01Byte b c).2).1 = x2 at *
  generalize (spec_l01Byte b (spec_l01Byte b (spec_l01Byte b c).2).2).1 = x3 at *
  generalize (spec_l01Byte b (spec_l01Byte b (spec_l01Byte b (spec_l01Byte b c).2).2).2).1 = x4 at *
  rw [IntWalk.i64_in (x1 * 16777216) (by omega), IntWalk.i64_in (x2 * 65536) (by omega), IntWalk.i64_in (x1 * 16777216 + x2 * 65536) (by omega), IntWalk.i64_in (x3 * 256) (by omega), IntWalk.i64_in (x1 * 16777216 + x2 * 65536 + x3 * 256) (by omega), IntWalk.i64_in (x1 * 16777216 + x2 * 65536 + x3 * 256 + x4) (by omega)]
  rw [Int.tmod_eq_emod_of_nonneg (by omega)]
  omega
theorem places_l1 (b : List UInt8) : ∀ n i c1 c2 v, i + n = 12 → v.length = i → (∀ x ∈ v, (0 : Int) ≤ x ∧ x ≤ 9999) → (spec_DrawPlaces_l1 b n c1 c2 v i).length = 12 ∧ ∀ x ∈ spec_DrawPlaces_l1 b n c1 c2 v i, (0 : Int) ≤ x ∧ x ≤ 9999 := by
  intro n
  induction n with
  | zero => intro i c1 c2 v h1 h2 h3; exact ⟨by show v.length = 12; omega, h3⟩
  | succ n ih =>
    intro i c1 c2 v h1 h2 h3
    rw [spec_DrawPlaces_l1]
    refine ih (i + 1) _ _ _ (by omega) (by rw [List.length_append]; show v.length + 1 = _; omega) fun x hx => ?_
    rcases List.mem_append.1 hx with hx | hx
    · exact h3 x hx
    · rw [List.mem_singleton] at hx
      subst hx
      exact below_in b _
theorem DrawPlaces_len (b : List UInt8) : (spec_DrawPlaces b).length = 12 := (places_l1 b (12 - 0) 0 _ _ [] rfl rfl (fun x hx => by cases hx)).1
theorem DrawPlaces_in (b : List UInt8) (k : Nat) : 0 ≤ nth (spec_DrawPlaces b) k ∧ nth (spec_DrawPlaces b) k ≤ 9999 := by
  rcases Nat.lt_or_ge k (spec_DrawPlaces b).length with hk | hk
  · have e : nth (spec_DrawPlaces b) k = (spec_DrawPlaces b)[k] := by simp [nth, List.getD_eq_getElem?_getD, hk]
    rw [e]
    exact (places_l1 b (12 - 0) 0 _ _ [] rfl rfl (fun x hx => by cases hx)).2 _ (List.getElem_mem hk)
  · have e : nth (spec_DrawPlaces b) k = 0 := by
      unfold nth
      rw [List.getD_eq_getElem?_getD, List.getElem?_eq_none hk]
      rfl
    rw [e]
    omega
theorem DrawPlaces_I64 (b : List UInt8) (k : Nat) : I64 (nth (spec_DrawPlaces b) k) := by
  have := DrawPlaces_in b k
  unfold I64
  omega
theorem fieldsGo_small : ∀ (l cur : List UInt8), ∀ w ∈ Lib.fieldsGo cur l, w.length ≤ cur.length + l.length
  | [], cur, w, h => by
    rw [Lib.fieldsGo] at h
    split at h
    · cases h
    · rw [List.mem_singleton] at h
      subst h
      exact Nat.le_add_right _ _
  | b :: l, cur, w, h => by
    rw [List.length_cons]
    cases hb : Lib.isSp b with
    | false =>
      rw [Lib.fieldsGo_more cur b l hb] at h
      have := fieldsGo_small l _ w h
      rw [List.length_append, List.length_singleton] at this
      omega
    | true =>
      cases cur with
      | nil =>
        rw [Lib.fieldsGo_sp b l hb] at h
        have := fieldsGo_small l _ w h
        rw [List.length_nil] at this ⊢
        omega
      | cons a r =>
        rw [Lib.fieldsGo_end _ b l hb (by simp)] at h
        rcases List.mem_cons.1 h with rfl | h
        · omega
        · have := fieldsGo_small l _ w h
          rw [List.length_nil] at this
          omega
theorem parts_mem {x w : ByteArray} (h : w ∈ (impl_PartsOf x).1) : w.size ≤ 600 := by
  have h1 : x.size ≤ 600 := by
    refine Classical.byContradiction fun hn => ?_
    unfold impl_PartsOf at h
    rw [decide_eq_true (show (x.size : Int) > 600 by omega)] at h
    cases h
  have h2 : w ∈ fieldsS x := by
    cases hb : (impl_PartsOf x).2 with
    | false =>
      rw [PartsOf_twin] at hb h
      rw [parts_false hb] at h
      cases h
    | true =>
      by_cases hall : ∀ j, j < x.size → 32 ≤ (byteAt x j).toNat ∧ (byteAt x j).toNat ≤ 126
      · have e : impl_PartsOf x = finW (fieldsS x) := by
          unfold impl_PartsOf
          rw [decide_eq_false (show ¬ (x.size : Int) > 600 by omega)]
          exact impl_parts_good x hall _ _ (by omega)
        rw [e] at h hb
        unfold finW at h hb
        cases hc : decide (((fieldsS x).length : Int) > 12) with
        | true =>
          rw [hc] at hb
          cases hb
        | false =>
          rw [hc] at h
          exact h
      · obtain ⟨j, hj⟩ := Classical.not_forall.1 hall
        obtain ⟨hj1, hj2⟩ := Classical.not_imp.1 hj
        unfold impl_PartsOf at h
        rw [decide_eq_false (show ¬ (x.size : Int) > 600 by omega)] at h
        have h' : w ∈ (impl_PartsOf_l1 x (x.size - 0) 0).1 := h
        rw [impl_parts_bad x hj1 hj2 _ _ (by omega) (Nat.zero_le _)] at h'
        cases h'
  rw [fieldsS_toBA] at h2
  obtain ⟨l, hl, rfl⟩ := List.mem_map.1 h2
  have := fieldsGo_small _ _ l hl
  rw [sbytes_length, List.length_nil] at this
  show l.toArray.size ≤ 600
  rw [List.size_toArray]
  omega
theorem parts_small (x : ByteArray) (k : Nat) : (nth (impl_PartsOf x).1 k).size ≤ 281474976710656 := by
  rcases Nat.lt_or_ge k (impl_PartsOf x).1.length with hk | hk
  · have e : nth (impl_PartsOf x).1 k = (impl_PartsOf x).1[k] := by simp [nth, List.getD_eq_getElem?_getD, hk]
    rw [e]
    have := parts_mem (List.getElem_mem hk)
    omega
  · unfold nth
    rw [List.getD_eq_getElem?_getD, List.getElem?_eq_none hk]
    exact Nat.zero_le _
theorem read_ne {p : List ByteArray} (h : (impl_ReadCall p).2 = true) : 0 < p.length := by
  refine Classical.byContradiction fun hn => ?_
  unfold impl_ReadCall at h
  rw [decide_eq_true (show (p.length : Int) = 0 by omega)] at h
  cases h
theorem good_Call {k x y : Int} {a b e : ByteArray} (h1 : I64 k) (h2 : a.size ≤ maxLen) (h3 : b.size ≤ maxLen) (h4 : I64 x) (h5 : I64 y) (h6 : e.size ≤ maxLen) : Dat.good (Call.mk k a b x y e) := ⟨h1, h2, h3, h4, h5, h6⟩
theorem impl_Told_l1_good {c : Call} (g1 : I64 c.Kind) (g2 : c.Name.size ≤ maxLen) (g3 : c.To.size ≤ maxLen) (g4 : I64 c.A) (g5 : I64 c.B) (g6 : c.Text.size ≤ maxLen) : ∀ n a b x y e i, a.size ≤ maxLen → b.size ≤ maxLen → I64 x → I64 y → e.size ≤ maxLen → Dat.good (impl_Told_l1 c n a b x y e i) := by
  intro n
  induction n with
  | zero => intro a b x y e i h1 h2 h3 h4 h5; exact ⟨g1, h1, h2, h3, h4, h5⟩
  | succ n ih =>
    intro a b x y e i h1 h2 h3 h4 h5
    rw [impl_Told_l1]
    refine ih _ _ _ _ _ _ ?_ ?_ ?_ ?_ ?_ <;> repeat' (first | assumption | apply bifS | apply bifI)
theorem impl_Told_good {c : Call} (hg : Dat.good c) : Dat.good (impl_Told c) :=
  impl_Told_l1_good hg.1 hg.2.1 hg.2.2.1 hg.2.2.2.1 hg.2.2.2.2.1 hg.2.2.2.2.2 _ _ _ _ _ _ _ (Nat.zero_le _) (Nat.zero_le _) (gi 0) (gi 0) (Nat.zero_le _)
theorem xy_back {b : List UInt8} {i : Nat} (h1 : 1 ≤ i) (h2 : i ≤ 22) : (impl_PartsOf (impl_CallLine (impl_Told (cxy i (nth (spec_DrawPlaces b) 0) (nth (spec_DrawPlaces b) 1))))).2 = true ∧ impl_ReadCall (impl_PartsOf (impl_CallLine (impl_Told (cxy i (nth (spec_DrawPlaces b) 0) (nth (spec_DrawPlaces b) 1))))).1 = (impl_Told (cxy i (nth (spec_DrawPlaces b) 0) (nth (spec_DrawPlaces b) 1)), true) ∧ nth (impl_PartsOf (impl_CallLine (impl_Told (cxy i (nth (spec_DrawPlaces b) 0) (nth (spec_DrawPlaces b) 1))))).1 0 = impl_CallName i ∧ 0 < (impl_PartsOf (impl_CallLine (impl_Told (cxy i (nth (spec_DrawPlaces b) 0) (nth (spec_DrawPlaces b) 1))))).1.length := by
  have a1 := DrawPlaces_in b 0
  have a2 := DrawPlaces_in b 1
  have hk : (1 : Int) ≤ (i : Int) ∧ (i : Int) ≤ 22 := by omega
  have fit : ∀ x : Int, 0 ≤ x ∧ x ≤ 9999 → spec_l38Fits x = true := fun x hx => by
    unfold spec_l38Fits spec_l01In
    rw [decide_eq_true (show x ≥ 0 by omega), decide_eq_true (show x ≤ 1000000000 by omega)]
    rfl
  have hs := xy_some hk (fit _ a1) (fit _ a2)
  have he : impl_Told (cxy i (nth (spec_DrawPlaces b) 0) (nth (spec_DrawPlaces b) 1)) = spec_Told (cxy i (nth (spec_DrawPlaces b) 0) (nth (spec_DrawPlaces b) 1)) := Told_in hk
  have hg : Dat.good (cxy (i : Int) (nth (spec_DrawPlaces b) 0) (nth (spec_DrawPlaces b) 1)) := good_Call (gn i (by omega)) (gs ⟨#[120]⟩) (gs ⟨#[121]⟩) (DrawPlaces_I64 b 0) (DrawPlaces_I64 b 1) (gs ⟨#[97, 98]⟩)
  have hb := ReadBack (c := impl_Told (cxy i (nth (spec_DrawPlaces b) 0) (nth (spec_DrawPlaces b) 1))) (impl_Told_good hg) (by rw [he]; exact hs)
  obtain ⟨b1, b2, b3, b4⟩ := hb
  exact ⟨b1, b2, b3.trans (congrArg impl_CallName (show (impl_Told (cxy i (nth (spec_DrawPlaces b) 0) (nth (spec_DrawPlaces b) 1))).Kind = (i : Int) by rw [he]; rfl)), b4⟩

end Go.Proofs.YtmjjcihoobnbgaaDoor.Fw
