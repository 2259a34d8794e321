/-
  The reference and the program read the same action off a line. No condition.
-/
import Derived.Test.YtmjjcihoobnbgaaDoorR3
namespace Go.Proofs.YtmjjcihoobnbgaaDoor.Fw
open Go.RowKit
set_option linter.unusedVariables false
set_option linter.unusedSimpArgs false
set_option maxRecDepth 100000
/-! ## An action, read -/
theorem index_notG (xs : List ByteArray) (w : ByteArray) : ∀ n i, (∀ j, i ≤ j → j < i + n → w ≠ nth xs j) → slices_Index_string_l1 xs w n i = -1 := by
  intro n
  induction n with
  | zero => intro i _; rfl
  | succ n ih =>
    intro i h
    rw [slices_Index_string_l1, decide_eq_false (h i (Nat.le_refl _) (by omega)), ih (i + 1) (fun j h1 h2 => h j (by omega) (by omega))]
    rfl
def kindA (w : ByteArray) : Nat → Int → Nat → Int
  | 0, c, _ => c
  | n + 1, c, i => kindA w n (bif (decide ((spec_ActName (i : Int)) = w)) then (i : Int) else c) (i + 1)
theorem kindA_not (w : ByteArray) (h : ∀ j : Nat, 1 ≤ j → j ≤ 12 → spec_ActName (j : Int) ≠ w) : ∀ n i c, 1 ≤ i → i + n ≤ 13 → kindA w n c i = c := by
  intro n
  induction n with
  | zero => intro i c _ _; rfl
  | succ n ih =>
    intro i c h1 h2
    rw [kindA, decide_eq_false (h i h1 (by omega)), ih (i + 1) _ (by omega) (by omega)]
    rfl
theorem anames_12 : ∀ n : Fin 12, spec_ActName ((n.val : Int) + 1) = nth gl0 n.val := by decide +kernel
theorem kindA_12 : ∀ n : Fin 12, kindA (nth gl0 n.val) 12 0 1 = (n.val : Int) + 1 ∧ IntKind.i64.wrap (1 + slices_Index_string gl0 (nth gl0 n.val)) = (n.val : Int) + 1 := by decide +kernel
theorem kindA_twin (w : ByteArray) : kindA w 12 0 1 = IntKind.i64.wrap (1 + slices_Index_string gl0 w) ∧ 0 ≤ kindA w 12 0 1 ∧ kindA w 12 0 1 ≤ 12 := by
  by_cases h : ∃ n : Fin 12, nth gl0 n.val = w
  · obtain ⟨n, rfl⟩ := h
    rw [(kindA_12 n).1, (kindA_12 n).2]
    have := n.isLt
    exact ⟨rfl, by omega, by omega⟩
  · have h' : ∀ j, j < 12 → nth gl0 j ≠ w := fun j hj e => h ⟨⟨j, hj⟩, e⟩
    rw [kindA_not w (fun j h1 h2 => ?_) 12 1 0 (Nat.le_refl _) (Nat.le_refl _)]
    · have : slices_Index_string gl0 w = -1 := index_notG gl0 w _ 0 fun j _ hj => (h' j (by rw [Nat.zero_add] at hj; exact hj)).symm
      rw [this]
      exact ⟨rfl, by omega, by omega⟩
    · have := anames_12 ⟨j - 1, by omega⟩
      rw [show (((⟨j - 1, by omega⟩ : Fin 12).val : Nat) : Int) + 1 = (j : Int) by show ((j - 1 : Nat) : Int) + 1 = _; omega] at this
      rw [this]
      exact h' _ (by show j - 1 < 12; omega)
theorem spec_act_kind (p0 : ByteArray) : ∀ n c i, spec_ReadAct_l1 p0 n c i = spec_ReadAct_l1 p0 0 (kindA (nth (spec_PartsOf p0).1 0) n c i) (i + n) := by
  intro n
  induction n with
  | zero => intro c i; rfl
  | succ n ih =>
    intro c i
    show spec_ReadAct_l1 p0 n (bif (decide ((spec_ActName (i : Int)) = (nth (spec_PartsOf p0).1 0))) then (i : Int) else c) (i + 1) = _
    rw [ih, show i + 1 + n = i + (n + 1) by omega]
    rfl
/-- What the reference takes the words for. -/
def sC (ps : List ByteArray) : Call := (spec_ReadCall (cutL ps 2 ps.length)).1
def sA (ps : List ByteArray) (K : Int) : Deed := Deed.mk K (spec_l38Num ps 1) (bif ((decide (K = 2)) || (decide (K = 7))) then 0 else (bif (decide (K = 4)) then (spec_l38Num ps 2) else 0))
  (Call.mk (bif ((decide (K = 2)) || (decide (K = 7))) then (bif (decide ((ps.length : Int) > 2)) then (sC ps).Kind else 0) else 0) (bif ((decide (K = 2)) || (decide (K = 7))) then (bif (decide ((ps.length : Int) > 2)) then (sC ps).Name else ⟨#[]⟩) else ⟨#[]⟩) (bif ((decide (K = 2)) || (decide (K = 7))) then (bif (decide ((ps.length : Int) > 2)) then (sC ps).To else ⟨#[]⟩) else ⟨#[]⟩) (bif ((decide (K = 2)) || (decide (K = 7))) then (bif (decide ((ps.length : Int) > 2)) then (sC ps).A else 0) else 0) (bif ((decide (K = 2)) || (decide (K = 7))) then (bif (decide ((ps.length : Int) > 2)) then (sC ps).B else 0) else 0) (bif ((decide (K = 2)) || (decide (K = 7))) then (bif (decide ((ps.length : Int) > 2)) then (sC ps).Text else ⟨#[]⟩) else ⟨#[]⟩))
theorem spec_act_fin (p0 : ByteArray) (K : Int) (i : Nat) : spec_ReadAct_l1 p0 0 K i = finAS (spec_PartsOf p0).1 (sA (spec_PartsOf p0).1 K) := rfl
abbrev XA (p0 : ByteArray) : Int := IntKind.i64.wrap (1 + (slices_Index_string gl0 (nth ((impl_PartsOf p0).1) 0)))
theorem st_N (p0 : ByteArray) {n i : Nat} {c1 c2 c3 c6 c7 : Int} {c4 c5 c8 : ByteArray} {v : List ByteArray} (hf : byteAt (impl_actFields (XA p0)) i = 78) : impl_ReadAct_l1 p0 (n + 1) c1 c2 c3 c4 c5 c6 c7 c8 i v = bif decide ((v.length : Int) = 0) then (D0, false) else impl_ReadAct_l1 p0 n (impl_ReadDecimal (nth v 0)).1 c2 c3 c4 c5 c6 c7 c8 (i + 1) (cutL v 1 v.length) := by
  rw [impl_ReadAct_l1, hf]
  rfl
theorem st_M (p0 : ByteArray) {n i : Nat} {c1 c2 c3 c6 c7 : Int} {c4 c5 c8 : ByteArray} {v : List ByteArray} (hf : byteAt (impl_actFields (XA p0)) i = 77) : impl_ReadAct_l1 p0 (n + 1) c1 c2 c3 c4 c5 c6 c7 c8 i v = bif decide ((v.length : Int) = 0) then (D0, false) else impl_ReadAct_l1 p0 n c1 (impl_ReadDecimal (nth v 0)).1 c3 c4 c5 c6 c7 c8 (i + 1) (cutL v 1 v.length) := by
  rw [impl_ReadAct_l1, hf]
  rfl
theorem st_C (p0 : ByteArray) {n i : Nat} {c1 c2 c3 c6 c7 : Int} {c4 c5 c8 : ByteArray} {v : List ByteArray} (hf : byteAt (impl_actFields (XA p0)) i = 67) : impl_ReadAct_l1 p0 (n + 1) c1 c2 c3 c4 c5 c6 c7 c8 i v = bif decide ((v.length : Int) = 0) then (D0, false) else impl_ReadAct_l1 p0 n c1 c2 (impl_ReadCall v).1.Kind (impl_ReadCall v).1.Name (impl_ReadCall v).1.To (impl_ReadCall v).1.A (impl_ReadCall v).1.B (impl_ReadCall v).1.Text (i + 1) v := by
  rw [impl_ReadAct_l1, hf]
  rfl
theorem st_0 (p0 : ByteArray) {i : Nat} {c1 c2 c3 c6 c7 : Int} {c4 c5 c8 : ByteArray} {v : List ByteArray} : impl_ReadAct_l1 p0 0 c1 c2 c3 c4 c5 c6 c7 c8 i v = finAI (impl_PartsOf p0).1 (Deed.mk (XA p0) c1 c2 (Call.mk c3 c4 c5 c6 c7 c8)) := rfl
def Z : Call := Call.mk 0 ⟨#[]⟩ ⟨#[]⟩ 0 0 ⟨#[]⟩
theorem good_Z : Dat.good Z := good_C00
theorem good_Deed {k n m : Int} {c : Call} (h1 : I64 k) (h2 : I64 n) (h3 : I64 m) (h4 : Dat.good c) : Dat.good (Deed.mk k n m c) := ⟨h1, h2, h3, h4⟩
/-- What the program takes the words for. -/
def rdI (w0 : ByteArray) (r : List ByteArray) (K : Int) : Deed × Bool :=
  bif (decide (K = 1)) || ((decide (K = 3)) || ((decide (K = 5)) || ((decide (K = 6)) || ((decide (K = 11)) || (decide (K = 12)))))) then (bif decide ((r.length : Int) = 0) then (D0, false) else finAI (w0 :: r) (Deed.mk K (impl_ReadDecimal (nth r 0)).1 0 Z))
  else (bif decide (K = 4) then (bif decide ((r.length : Int) = 0) then (D0, false) else bif decide (((r.drop 1).length : Int) = 0) then (D0, false) else finAI (w0 :: r) (Deed.mk K (impl_ReadDecimal (nth r 0)).1 (impl_ReadDecimal (nth (r.drop 1) 0)).1 Z))
  else (bif (decide (K = 2)) || (decide (K = 7)) then (bif decide ((r.length : Int) = 0) then (D0, false) else bif decide (((r.drop 1).length : Int) = 0) then (D0, false) else finAI (w0 :: r) (Deed.mk K (impl_ReadDecimal (nth r 0)).1 0 (impl_ReadCall (r.drop 1)).1))
  else finAI (w0 :: r) (Deed.mk K 0 0 Z)))
theorem impl_act_is {p0 w0 : ByteArray} {r : List ByteArray} {K : Int} (hp : (impl_PartsOf p0).1 = w0 :: r) (hK : XA p0 = K) : impl_ReadAct_l1 p0 ((impl_actFields (XA p0)).size - 0) 0 0 0 ⟨#[]⟩ ⟨#[]⟩ 0 0 ⟨#[]⟩ 0 (cutL (impl_PartsOf p0).1 1 (impl_PartsOf p0).1.length) = rdI w0 r K := by
  rw [cutL_drop]
  rw [show (impl_PartsOf p0).1.drop 1 = r by rw [hp]; rfl]
  unfold rdI
  cases e1 : (decide (K = 1)) || ((decide (K = 3)) || ((decide (K = 5)) || ((decide (K = 6)) || ((decide (K = 11)) || (decide (K = 12)))))) with
  | true =>
    have hf : impl_actFields (XA p0) = ⟨#[78]⟩ := by
      unfold impl_actFields
      rw [hK, e1]
      rfl
    rw [hf, show (⟨#[78]⟩ : ByteArray).size - 0 = 0 + 1 from rfl, st_N p0 (by rw [hf]; rfl), st_0, hp, hK]
    rfl
  | false =>
    cases e2 : decide (K = 4) with
    | true =>
      have hf : impl_actFields (XA p0) = ⟨#[78, 77]⟩ := by
        unfold impl_actFields
        rw [hK, e1, e2]
        rfl
      rw [hf, show (⟨#[78, 77]⟩ : ByteArray).size - 0 = 0 + 1 + 1 from rfl, st_N p0 (by rw [hf]; rfl), st_M p0 (by rw [hf]; rfl), st_0, hp, hK, cutL_drop]
      rfl
    | false =>
      cases e3 : (decide (K = 2)) || (decide (K = 7)) with
      | true =>
        have hf : impl_actFields (XA p0) = ⟨#[78, 67]⟩ := by
          unfold impl_actFields
          rw [hK, e1, e2, e3]
          rfl
        rw [hf, show (⟨#[78, 67]⟩ : ByteArray).size - 0 = 0 + 1 + 1 from rfl, st_N p0 (by rw [hf]; rfl), st_C p0 (by rw [hf]; rfl), st_0, hp, hK, cutL_drop]
        rfl
      | false =>
        have hf : impl_actFields (XA p0) = ⟨#[]⟩ := by
          unfold impl_actFields
          rw [hK, e1, e2, e3]
          rfl
        rw [hf, show (⟨#[]⟩ : ByteArray).size - 0 = 0 from rfl, st_0, hp, hK]
        rfl
theorem num_out {ps : List ByteArray} {i : Nat} (h : ps.length ≤ i) : spec_l38Num ps (i : Int) = 0 := by
  unfold spec_l38Num
  rw [decide_eq_true (show (i : Int) ≥ (ps.length : Int) by omega)]
  rfl
theorem nth_cons (w0 : ByteArray) (r : List ByteArray) (k : Nat) : nth (w0 :: r) (k + 1) = nth r k := by simp [nth, List.getD_eq_getElem?_getD]
theorem nth_drop1 (r : List ByteArray) (k : Nat) : nth (r.drop 1) k = nth r (1 + k) := by simp [nth, List.getD_eq_getElem?_getD, Nat.add_comm]
theorem len_no {ps : List ByteArray} {a : Deed} (hc : cleans ps) (h : (aw a).length ≠ ps.length) : finAS ps a = (D0, false) := fin_no hc fun _ e => h (congrArg List.length e)
theorem fin_same {ps : List ByteArray} {a : Deed} (hc : cleans ps) (hg : Dat.good a) (hp : ps ≠ []) : finAI ps a = finAS ps a := by rw [finAS_is hc, finAI_is hg hp]
theorem act_N {w0 : ByteArray} {r : List ByteArray} {K : Int} (hc : cleans (w0 :: r)) (hk : I64 K) (ha : ∀ N, aw (Deed.mk K N 0 Z) = [spec_ActName K, spec_Decimal N]) :
    (bif decide ((r.length : Int) = 0) then (D0, false) else finAI (w0 :: r) (Deed.mk K (impl_ReadDecimal (nth r 0)).1 0 Z)) = finAS (w0 :: r) (Deed.mk K (spec_l38Num (w0 :: r) 1) 0 Z) := by
  by_cases h : r.length = 0
  · rw [decide_eq_true (show (r.length : Int) = 0 by omega), len_no hc (by rw [ha, List.length_cons]; simp [h])]
    rfl
  · have e : spec_l38Num (w0 :: r) 1 = (impl_ReadDecimal (nth r 0)).1 := by
      have := num_in (p0 := w0 :: r) (i := 1) (by rw [List.length_cons]; omega)
      rw [show ((1 : Nat) : Int) = 1 from rfl] at this
      rw [this, nth_cons, ReadDecimal_twin]
    rw [decide_eq_false (show ¬ (r.length : Int) = 0 by omega), e]
    exact fin_same hc (good_Deed hk (impl_ReadDecimal_I64 _) (gi 0) good_Z) (by simp)
theorem act_M {w0 : ByteArray} {r : List ByteArray} (hc : cleans (w0 :: r)) :
    (bif decide ((r.length : Int) = 0) then (D0, false) else bif decide (((r.drop 1).length : Int) = 0) then (D0, false) else finAI (w0 :: r) (Deed.mk 4 (impl_ReadDecimal (nth r 0)).1 (impl_ReadDecimal (nth (r.drop 1) 0)).1 Z)) = finAS (w0 :: r) (Deed.mk 4 (spec_l38Num (w0 :: r) 1) (spec_l38Num (w0 :: r) 2) Z) := by
  have ha : ∀ N M, aw (Deed.mk 4 N M Z) = [spec_ActName 4, spec_Decimal N, spec_Decimal M] := fun _ _ => rfl
  by_cases h : r.length ≤ 1
  · rw [len_no hc (by rw [ha, List.length_cons]; simp; omega)]
    by_cases h0 : r.length = 0
    · rw [decide_eq_true (show (r.length : Int) = 0 by omega)]
      rfl
    · rw [decide_eq_false (show ¬ (r.length : Int) = 0 by omega), decide_eq_true (show (((r.drop 1).length : Nat) : Int) = 0 by rw [List.length_drop]; omega)]
      rfl
  · have e1 : spec_l38Num (w0 :: r) 1 = (impl_ReadDecimal (nth r 0)).1 := by
      have := num_in (p0 := w0 :: r) (i := 1) (by rw [List.length_cons]; omega)
      rw [show ((1 : Nat) : Int) = 1 from rfl] at this
      rw [this, nth_cons, ReadDecimal_twin]
    have e2 : spec_l38Num (w0 :: r) 2 = (impl_ReadDecimal (nth (r.drop 1) 0)).1 := by
      have := num_in (p0 := w0 :: r) (i := 2) (by rw [List.length_cons]; omega)
      rw [show ((2 : Nat) : Int) = 2 from rfl] at this
      rw [this, nth_cons, ReadDecimal_twin, nth_drop1]
    rw [decide_eq_false (show ¬ (r.length : Int) = 0 by omega), decide_eq_false (show ¬ (((r.drop 1).length : Nat) : Int) = 0 by rw [List.length_drop]; omega), e1, e2]
    exact fin_same hc (good_Deed (gi 4) (impl_ReadDecimal_I64 _) (impl_ReadDecimal_I64 _) good_Z) (by simp)
theorem act_C {w0 : ByteArray} {r : List ByteArray} {K : Int} (hc : cleans (w0 :: r)) (hs : small (w0 :: r)) (hk : I64 K) (ha : ∀ N c, aw (Deed.mk K N 0 c) = spec_ActName K :: spec_Decimal N :: cw c) (c : Call) (hcc : 2 < (w0 :: r).length → c = sC (w0 :: r)) :
    (bif decide ((r.length : Int) = 0) then (D0, false) else bif decide (((r.drop 1).length : Int) = 0) then (D0, false) else finAI (w0 :: r) (Deed.mk K (impl_ReadDecimal (nth r 0)).1 0 (impl_ReadCall (r.drop 1)).1)) = finAS (w0 :: r) (Deed.mk K (spec_l38Num (w0 :: r) 1) 0 c) := by
  by_cases h : r.length ≤ 1
  · have hl := cw_len c
    rw [len_no hc (by rw [ha, List.length_cons, List.length_cons, List.length_cons]; omega)]
    by_cases h0 : r.length = 0
    · rw [decide_eq_true (show (r.length : Int) = 0 by omega)]
      rfl
    · rw [decide_eq_false (show ¬ (r.length : Int) = 0 by omega), decide_eq_true (show (((r.drop 1).length : Nat) : Int) = 0 by rw [List.length_drop]; omega)]
      rfl
  · have e1 : spec_l38Num (w0 :: r) 1 = (impl_ReadDecimal (nth r 0)).1 := by
      have := num_in (p0 := w0 :: r) (i := 1) (by rw [List.length_cons]; omega)
      rw [show ((1 : Nat) : Int) = 1 from rfl] at this
      rw [this, nth_cons, ReadDecimal_twin]
    have hs2 : small (r.drop 1) := by
      have := small_drop hs 2
      rw [cutL_drop] at this
      exact this
    have e2 : c = (impl_ReadCall (r.drop 1)).1 := by
      rw [hcc (by rw [List.length_cons]; omega), ReadCall_twin (small_good hs2) hs2.1]
      unfold sC
      rw [cutL_drop]
      rfl
    rw [decide_eq_false (show ¬ (r.length : Int) = 0 by omega), decide_eq_false (show ¬ (((r.drop 1).length : Nat) : Int) = 0 by rw [List.length_drop]; omega), e1, e2]
    exact fin_same hc (good_Deed hk (impl_ReadDecimal_I64 _) (gi 0) (impl_ReadCall_good _ hs2)) (by simp)
theorem act_0 {w0 : ByteArray} {r : List ByteArray} {K : Int} (hc : cleans (w0 :: r)) (hk : I64 K) (ha : ∀ N, aw (Deed.mk K N 0 Z) = [spec_ActName K]) (ht : ∀ N, (spec_l38Told (Deed.mk K N 0 Z)).N = 0) : finAI (w0 :: r) (Deed.mk K 0 0 Z) = finAS (w0 :: r) (Deed.mk K (spec_l38Num (w0 :: r) 1) 0 Z) := by
  by_cases h : spec_l38Num (w0 :: r) 1 = 0
  · rw [h]
    exact fin_same hc (good_Deed hk (gi 0) (gi 0) good_Z) (by simp)
  · rw [fin_no hc fun h1 _ => ?_]
    · rw [finAI_is (good_Deed hk (gi 0) (gi 0) good_Z) (by simp), decide_eq_false fun e => ?_]
      · rfl
      · refine h ?_
        have hl := congrArg List.length e.2
        rw [ha] at hl
        have := num_out (ps := w0 :: r) (i := 1) (by rw [← hl]; exact Nat.le_refl _)
        exact this
    · have := (ActLine_join h1).2.2.2.2.2
      exact h (by rw [← ht (spec_l38Num (w0 :: r) 1), this])
theorem act_none {w0 : ByteArray} {r : List ByteArray} (hc : cleans (w0 :: r)) : finAI (w0 :: r) (Deed.mk 0 0 0 Z) = finAS (w0 :: r) (Deed.mk 0 (spec_l38Num (w0 :: r) 1) 0 Z) := by
  have h : ∀ N, spec_ActLine (Deed.mk 0 N 0 Z) = ⟨#[]⟩ := fun N => rfl
  rw [fin_no hc fun h1 _ => h1 (h _), finAI_is (good_Deed (gi 0) (gi 0) (gi 0) good_Z) (by simp), decide_eq_false fun e => e.1 (h 0)]
  rfl
theorem act_fin {w0 : ByteArray} {r : List ByteArray} {K : Int} (hk : 0 ≤ K ∧ K ≤ 12) (hc : cleans (w0 :: r)) (hs : small (w0 :: r)) : rdI w0 r K = finAS (w0 :: r) (sA (w0 :: r) K) := by
  have hcall : ∀ ps : List ByteArray, 2 < ps.length → Call.mk (bif (decide ((ps.length : Int) > 2)) then (sC ps).Kind else 0) (bif (decide ((ps.length : Int) > 2)) then (sC ps).Name else ⟨#[]⟩) (bif (decide ((ps.length : Int) > 2)) then (sC ps).To else ⟨#[]⟩) (bif (decide ((ps.length : Int) > 2)) then (sC ps).A else 0) (bif (decide ((ps.length : Int) > 2)) then (sC ps).B else 0) (bif (decide ((ps.length : Int) > 2)) then (sC ps).Text else ⟨#[]⟩) = sC ps := fun ps h => by
    rw [decide_eq_true (show (ps.length : Int) > 2 by omega)]
    rfl
  rcases (show K = 0 ∨ K = 1 ∨ K = 2 ∨ K = 3 ∨ K = 4 ∨ K = 5 ∨ K = 6 ∨ K = 7 ∨ K = 8 ∨ K = 9 ∨ K = 10 ∨ K = 11 ∨ K = 12 by omega) with rfl | rfl | rfl | rfl | rfl | rfl | rfl | rfl | rfl | rfl | rfl | rfl | rfl
  · exact act_none hc
  · exact act_N hc (gi 1) (fun _ => rfl)
  · exact act_C hc hs (gi 2) (fun _ _ => rfl) _ (hcall _)
  · exact act_N hc (gi 3) (fun _ => rfl)
  · exact act_M hc
  · exact act_N hc (gi 5) (fun _ => rfl)
  · exact act_N hc (gi 6) (fun _ => rfl)
  · exact act_C hc hs (gi 7) (fun _ _ => rfl) _ (hcall _)
  · exact act_0 hc (gi 8) (fun _ => rfl) (fun _ => rfl)
  · exact act_0 hc (gi 9) (fun _ => rfl) (fun _ => rfl)
  · exact act_0 hc (gi 10) (fun _ => rfl) (fun _ => rfl)
  · exact act_N hc (gi 11) (fun _ => rfl)
  · exact act_N hc (gi 12) (fun _ => rfl)
theorem ReadAct_twin (p0 : ByteArray) : impl_ReadAct p0 = spec_ReadAct p0 := by
  have ht : (spec_PartsOf p0) = (impl_PartsOf p0) := (PartsOf_twin p0).symm
  unfold impl_ReadAct spec_ReadAct
  rw [ht]
  cases hb : (!((impl_PartsOf p0).2)) || (decide (((impl_PartsOf p0).1.length : Int) = 0)) with
  | true => rfl
  | false =>
    have h0 := of_decide_eq_false (Bool.or_eq_false_iff.1 hb).2
    obtain ⟨w0, r, hp⟩ : ∃ w0 r, (impl_PartsOf p0).1 = w0 :: r := by
      cases h : (impl_PartsOf p0).1 with
      | nil => rw [h] at h0; exact absurd rfl h0
      | cons a b => exact ⟨a, b, rfl⟩
    obtain ⟨k1, k2⟩ := kindA_twin (nth (impl_PartsOf p0).1 0)
    rw [cond_false, cond_false, impl_act_is hp rfl, spec_act_kind, spec_act_fin, ht, show 13 - 1 = 12 from rfl, k1]
    rw [k1] at k2
    rw [hp] at k2 ⊢
    show rdI w0 r (IntKind.i64.wrap (1 + (slices_Index_string gl0 (nth ((impl_PartsOf p0).1) 0)))) = _
    rw [hp]
    have hc := (parts_facts p0).1
    have hs := parts_smalls p0
    rw [hp] at hc hs
    exact act_fin k2 hc hs

end Go.Proofs.YtmjjcihoobnbgaaDoor.Fw
