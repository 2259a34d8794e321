/-
  The reference and the program read the same words, numbers, bytes and calls; a call comes back from its line. No condition.
-/
import Derived.Lib.ShelfFacts
import Derived.Test.YtmjjcihoobnbgaaDoorR2
namespace Go.Proofs.YtmjjcihoobnbgaaDoor.Fw
open Go.RowKit
set_option linter.unusedVariables false
set_option linter.unusedSimpArgs false
set_option maxRecDepth 100000
/-! ## Words of a line -/
def toBA (l : List UInt8) : ByteArray := ⟨l.toArray⟩
def finW (o : List ByteArray) : List ByteArray × Bool := bif decide ((o.length : Int) > 12) then (([] : List ByteArray), false) else (o, true)
theorem cutS_list (p0 : ByteArray) (b i : Nat) : cutS p0 b i = toBA (((sbytes p0).take i).drop b) := by
  unfold cutS toBA sbytes
  apply ByteArray.ext
  rw [ByteArray.data_extract]
  apply Array.ext'
  rw [Array.toList_extract, List.extract_eq_take_drop, List.drop_take]
theorem drop_at (p0 : ByteArray) {i : Nat} (hi : i < p0.size) : (sbytes p0).drop i = byteAt p0 i :: (sbytes p0).drop (i + 1) := by
  have h : i < (sbytes p0).length := by rw [sbytes_length]; exact hi
  rw [List.drop_eq_getElem_cons h, sbytes_at h]
theorem take_at (p0 : ByteArray) {b i : Nat} (hb : b ≤ i) (hi : i < p0.size) : ((sbytes p0).take (i + 1)).drop b = ((sbytes p0).take i).drop b ++ [byteAt p0 i] := by
  have h : i < (sbytes p0).length := by rw [sbytes_length]; exact hi
  rw [List.take_succ_eq_append_getElem h, List.drop_append_of_le_length (by rw [List.length_take]; omega), sbytes_at h]
theorem isSp_in {c : UInt8} (h1 : 32 ≤ c.toNat) (h2 : c.toNat ≤ 126) : Lib.isSp c = decide (c.toNat = 32) := by
  have key : ∀ n : Fin 256, 32 ≤ n.val → n.val ≤ 126 → Lib.isSp (UInt8.ofNat n.val) = decide (n.val = 32) := by decide +kernel
  have := key ⟨c.toNat, c.toNat_lt⟩ h1 h2
  simpa using this
theorem spec_parts_good (p0 : ByteArray) (hall : ∀ j, j < p0.size → 32 ≤ (byteAt p0 j).toNat ∧ (byteAt p0 j).toNat ≤ 126) : ∀ n i (out : List ByteArray) (b : Nat), i + (n + 1) = p0.size + 1 → b ≤ i →
    spec_PartsOf_l1 p0 (n + 1) out (b : Int) i = finW (out ++ (Lib.fieldsGo (((sbytes p0).take i).drop b) ((sbytes p0).drop i)).map toBA) := by
  intro n
  induction n with
  | zero =>
    intro i out b hi hb
    obtain rfl : i = p0.size := by omega
    have hc : decide ((p0.size : Int) < (p0.size : Int)) = false := decide_eq_false (by omega)
    have hl : (sbytes p0).length = p0.size := sbytes_length p0
    have e1 : (sbytes p0).drop p0.size = [] := List.drop_eq_nil_of_le (by omega)
    rw [spec_PartsOf_l1, hc, e1, Lib.fieldsGo]
    simp only [Bool.false_and, cond_false]
    rw [spec_PartsOf_l1]
    by_cases hbs : b < p0.size
    · have he : (((sbytes p0).take p0.size).drop b).isEmpty = false := by
        rw [List.isEmpty_eq_false_iff]
        intro e
        have := congrArg List.length e
        rw [List.length_drop, List.length_take, hl, List.length_nil] at this
        omega
      rw [decide_eq_true (show (b : Int) < (p0.size : Int) by omega), he]
      simp only [cond_true, Bool.false_eq_true, if_false, List.map_cons, List.map_nil]
      rw [show ((b : Int)).toNat = b from rfl, cutS_list]
      rfl
    · have he : (((sbytes p0).take p0.size).drop b).isEmpty = true := by
        rw [List.isEmpty_iff]
        exact List.drop_eq_nil_of_le (by rw [List.length_take, hl]; omega)
      rw [decide_eq_false (show ¬ (b : Int) < (p0.size : Int) by omega), he]
      simp only [cond_false, if_true, List.map_nil, List.append_nil]
      rfl
  | succ n ih =>
    intro i out b hi hb
    have hlt : i < p0.size := by omega
    obtain ⟨h1, h2⟩ := hall i hlt
    rw [spec_PartsOf_l1, decide_eq_true (show (i : Int) < (p0.size : Int) by omega), decide_eq_false (show ¬ ((byteAt p0 i).toNat : Int) < 32 by omega), decide_eq_false (show ¬ ((byteAt p0 i).toNat : Int) > 126 by omega), drop_at p0 hlt, Lib.fieldsGo, isSp_in h1 h2]
    simp only [Bool.true_and, Bool.or_self, cond_false]
    by_cases hc : (byteAt p0 i).toNat = 32
    · rw [decide_eq_true (show ((byteAt p0 i).toNat : Int) = 32 by omega), decide_eq_true hc]
      simp only [Bool.not_true, cond_false, if_true]
      rw [ih (i + 1) _ (i + 1) (by omega) (Nat.le_refl _)]
      have e0 : ((sbytes p0).take (i + 1)).drop (i + 1) = [] := List.drop_eq_nil_of_le (by rw [List.length_take]; omega)
      rw [e0]
      have hl : (sbytes p0).length = p0.size := sbytes_length p0
      by_cases hbs : b < i
      · have he : (((sbytes p0).take i).drop b).isEmpty = false := by
          rw [List.isEmpty_eq_false_iff]
          intro e
          have := congrArg List.length e
          rw [List.length_drop, List.length_take, hl, List.length_nil] at this
          omega
        rw [decide_eq_true (show (b : Int) < (i : Int) by omega), he]
        simp only [cond_true, Bool.false_eq_true, if_false, List.map_cons, List.append_assoc, List.cons_append, List.nil_append]
        rw [show ((b : Int)).toNat = b from rfl, cutS_list]
      · have he : (((sbytes p0).take i).drop b).isEmpty = true := by
          rw [List.isEmpty_iff]
          exact List.drop_eq_nil_of_le (by rw [List.length_take]; omega)
        rw [decide_eq_false (show ¬ (b : Int) < (i : Int) by omega), he]
        simp only [cond_false, if_true]
    · rw [decide_eq_false (show ¬ ((byteAt p0 i).toNat : Int) = 32 by omega), decide_eq_false hc]
      simp only [Bool.not_false, cond_true, Bool.false_eq_true, if_false]
      rw [ih (i + 1) _ b (by omega) (by omega), take_at p0 hb hlt]
theorem spec_parts_bad (p0 : ByteArray) {j : Nat} (hj : j < p0.size) (hbad : ¬ (32 ≤ (byteAt p0 j).toNat ∧ (byteAt p0 j).toNat ≤ 126)) : ∀ n i (out : List ByteArray) (b : Int), i + n = p0.size + 1 → i ≤ j → spec_PartsOf_l1 p0 n out b i = ([], false) := by
  intro n
  induction n with
  | zero => intro i _ _ h1 h2; omega
  | succ n ih =>
    intro i out b h1 h2
    have hlt : i < p0.size := by omega
    rw [spec_PartsOf_l1, decide_eq_true (show (i : Int) < (p0.size : Int) by omega)]
    by_cases hb : 32 ≤ (byteAt p0 i).toNat ∧ (byteAt p0 i).toNat ≤ 126
    · have hne : i ≠ j := fun e => by subst e; exact hbad hb
      rw [decide_eq_false (show ¬ ((byteAt p0 i).toNat : Int) < 32 by omega), decide_eq_false (show ¬ ((byteAt p0 i).toNat : Int) > 126 by omega)]
      simp only [Bool.true_and, Bool.or_self, cond_false]
      cases (!decide (((byteAt p0 i).toNat : Int) = 32)) with
      | true => exact ih (i + 1) _ _ (by omega) (by omega)
      | false => exact ih (i + 1) _ _ (by omega) (by omega)
    · have : ((decide (((byteAt p0 i).toNat : Int) < 32)) || (decide (((byteAt p0 i).toNat : Int) > 126))) = true := by
        rcases Nat.lt_or_ge (byteAt p0 i).toNat 32 with h | h
        · rw [decide_eq_true (show ((byteAt p0 i).toNat : Int) < 32 by omega)]
          rfl
        · rw [decide_eq_true (show ((byteAt p0 i).toNat : Int) > 126 by omega), Bool.or_true]
      rw [this]
      rfl
theorem impl_parts_good (p0 : ByteArray) (hall : ∀ j, j < p0.size → 32 ≤ (byteAt p0 j).toNat ∧ (byteAt p0 j).toNat ≤ 126) : ∀ n i, i + n = p0.size → impl_PartsOf_l1 p0 n i = finW (fieldsS p0) := by
  intro n
  induction n with
  | zero => intro i _; rfl
  | succ n ih =>
    intro i h
    obtain ⟨h1, h2⟩ := hall i (by omega)
    rw [impl_PartsOf_l1, decide_eq_false (show ¬ ((byteAt p0 i).toNat : Int) < 32 by omega), decide_eq_false (show ¬ ((byteAt p0 i).toNat : Int) > 126 by omega)]
    exact ih (i + 1) (by omega)
theorem impl_parts_bad (p0 : ByteArray) {j : Nat} (hj : j < p0.size) (hbad : ¬ (32 ≤ (byteAt p0 j).toNat ∧ (byteAt p0 j).toNat ≤ 126)) : ∀ n i, i + n = p0.size → i ≤ j → impl_PartsOf_l1 p0 n i = ([], false) := by
  intro n
  induction n with
  | zero => intro i h1 h2; omega
  | succ n ih =>
    intro i h1 h2
    rw [impl_PartsOf_l1]
    by_cases hb : 32 ≤ (byteAt p0 i).toNat ∧ (byteAt p0 i).toNat ≤ 126
    · have hne : i ≠ j := fun e => by subst e; exact hbad hb
      rw [decide_eq_false (show ¬ ((byteAt p0 i).toNat : Int) < 32 by omega), decide_eq_false (show ¬ ((byteAt p0 i).toNat : Int) > 126 by omega)]
      exact ih (i + 1) (by omega) (by omega)
    · have : ((decide (((byteAt p0 i).toNat : Int) < 32)) || (decide (((byteAt p0 i).toNat : Int) > 126))) = true := by
        rcases Nat.lt_or_ge (byteAt p0 i).toNat 32 with h | h
        · rw [decide_eq_true (show ((byteAt p0 i).toNat : Int) < 32 by omega)]
          rfl
        · rw [decide_eq_true (show ((byteAt p0 i).toNat : Int) > 126 by omega), Bool.or_true]
      rw [this]
      rfl
theorem fieldsS_toBA (p0 : ByteArray) : fieldsS p0 = (Lib.fieldsGo [] (sbytes p0)).map toBA := rfl
theorem PartsOf_twin (p0 : ByteArray) : impl_PartsOf p0 = spec_PartsOf p0 := by
  unfold impl_PartsOf spec_PartsOf
  cases hs : decide ((p0.size : Int) > 600) with
  | true => rfl
  | false =>
    show impl_PartsOf_l1 p0 (p0.size - 0) 0 = spec_PartsOf_l1 p0 ((p0.size + 1) - 0) [] 0 0
    by_cases hall : ∀ j, j < p0.size → 32 ≤ (byteAt p0 j).toNat ∧ (byteAt p0 j).toNat ≤ 126
    · rw [impl_parts_good p0 hall _ _ (by omega), show p0.size + 1 - 0 = p0.size + 1 from rfl]
      have := spec_parts_good p0 hall p0.size 0 [] 0 (by omega) (Nat.le_refl _)
      rw [show ((0 : Nat) : Int) = 0 from rfl] at this
      rw [this, fieldsS_toBA]
      rfl
    · obtain ⟨j, hj⟩ := Classical.not_forall.1 hall
      obtain ⟨hj1, hj2⟩ := Classical.not_imp.1 hj
      rw [impl_parts_bad p0 hj1 hj2 _ _ (by omega) (Nat.zero_le _), spec_parts_bad p0 hj1 hj2 _ _ _ _ (by omega) (Nat.zero_le _)]

/-! ## Numbers -/
theorem decFrom_app : ∀ (l m : List UInt8) (a : Nat), Lib.decFrom a (l ++ m) = (Lib.decFrom a l).bind fun n => Lib.decFrom n m
  | [], m, a => by simp [Lib.decFrom]
  | b :: l, m, a => by
    simp only [List.cons_append, Lib.decFrom]
    cases Lib.digitVal b with
    | none => rfl
    | some d => exact decFrom_app l m _
theorem digitVal_digit {d : Nat} (h : d < 10) : Lib.digitVal (UInt8.ofNat (48 + d)) = some d := by
  have key : ∀ n : Fin 10, Lib.digitVal (UInt8.ofNat (48 + n.val)) = some n.val := by decide +kernel
  exact key ⟨d, h⟩
theorem decFrom_digits : ∀ u : Nat, Lib.decFrom 0 (Lib.decDigits u) = some u := by
  intro u
  induction u using Nat.strongRecOn with
  | _ u ih =>
    rw [Lib.decDigits]
    split
    · rename_i h
      simp only [Lib.decFrom, digitVal_digit h]
      simp
    · rename_i h
      rw [decFrom_app, ih (u / 10) (by omega)]
      simp only [Option.bind_some, Lib.decFrom, digitVal_digit (show u % 10 < 10 by omega)]
      congr 1
      omega
theorem nDigits_lt : ∀ (k u : Nat), u < 10 ^ (k + 1) → Lib.nDigits u ≤ k + 1 := by
  intro k
  induction k with
  | zero => intro u h; rw [Lib.nDigits_small (by omega)]; omega
  | succ k ih =>
    intro u h
    by_cases h10 : u < 10
    · rw [Lib.nDigits_small h10]; omega
    · rw [Lib.nDigits_big h10]
      have := ih (u / 10) (by rw [Nat.pow_succ] at h; omega)
      omega
theorem dec_list (u : Nat) : sbytes (impl_Decimal (u : Int)) = Lib.decDigits u := by
  show ((Lib.itoa (u : Int)).toArray).toList = _
  rw [List.toList_toArray, Lib.itoa_nonneg]
theorem dec_size {u : Nat} (h : u ≤ 1000000000) : (impl_Decimal (u : Int)).size ≤ 10 := by
  rw [← sbytes_length, dec_list, Lib.decDigits_length]
  exact nDigits_lt 9 u (by omega)
theorem byteAt_cons (p0 : ByteArray) {i : Nat} (hi : i < p0.size) : (sbytes p0).drop i = byteAt p0 i :: (sbytes p0).drop (i + 1) := drop_at p0 hi
def finD (p0 : ByteArray) (m : Nat) : Int × Bool := bif (decide ((m : Int) > 1000000000)) || (!decide ((impl_Decimal (m : Int)) = p0)) then (0, false) else ((m : Int), true)
theorem spec_dec_l1 (p0 : ByteArray) (hs : p0.size ≤ 10) : ∀ n i (v : Nat), i + n = p0.size → v < 10 ^ i → spec_ReadDecimal_l1 p0 n (v : Int) i = match Lib.decFrom v ((sbytes p0).drop i) with
    | some m => finD p0 m
    | none => (0, false) := by
  intro n
  induction n with
  | zero =>
    intro i v h hv
    have hp : 10 ^ i ≤ 10 ^ 10 := Nat.pow_le_pow_right (by omega) (by omega)
    rw [List.drop_eq_nil_of_le (by rw [sbytes_length]; omega)]
    show spec_ReadDecimal_l1 p0 0 (v : Int) i = finD p0 v
    rw [spec_ReadDecimal_l1, Decimal_twin (p0 := (v : Int)) (by unfold I64; omega)]
    rfl
  | succ n ih =>
    intro i v h hv
    have hlt : i < p0.size := by omega
    have hp : 10 ^ i ≤ 10 ^ 9 := Nat.pow_le_pow_right (by omega) (by omega)
    rw [spec_ReadDecimal_l1, byteAt_cons p0 hlt, Lib.decFrom]
    have hb := (byteAt p0 i).toNat_lt
    by_cases hd : 48 ≤ (byteAt p0 i).toNat ∧ (byteAt p0 i).toNat ≤ 57
    · rw [decide_eq_false (show ¬ ((byteAt p0 i).toNat : Int) < 48 by omega), decide_eq_false (show ¬ ((byteAt p0 i).toNat : Int) > 57 by omega)]
      have hdv : Lib.digitVal (byteAt p0 i) = some ((byteAt p0 i).toNat - 48) := by
        have key : ∀ k : Fin 256, 48 ≤ k.val → k.val ≤ 57 → Lib.digitVal (UInt8.ofNat k.val) = some (k.val - 48) := by decide +kernel
        have := key ⟨(byteAt p0 i).toNat, hb⟩ hd.1 hd.2
        simpa using this
      rw [hdv]
      simp only [Bool.or_self, cond_false]
      rw [IntWalk.i64_in (10 * (v : Int)) (by omega), IntWalk.i64_in ((byteAt p0 i).toNat : Int) (by omega), IntWalk.i64_in (10 * (v : Int) + ((byteAt p0 i).toNat : Int)) (by omega), IntWalk.i64_in (10 * (v : Int) + ((byteAt p0 i).toNat : Int) - 48) (by omega)]
      have e : (10 * (v : Int) + ((byteAt p0 i).toNat : Int) - 48) = ((v * 10 + ((byteAt p0 i).toNat - 48) : Nat) : Int) := by omega
      rw [e]
      exact ih (i + 1) _ (by omega) (by rw [Nat.pow_succ]; omega)
    · have hdv : Lib.digitVal (byteAt p0 i) = none := by
        have key : ∀ k : Fin 256, ¬ (48 ≤ k.val ∧ k.val ≤ 57) → Lib.digitVal (UInt8.ofNat k.val) = none := by decide +kernel
        have := key ⟨(byteAt p0 i).toNat, hb⟩ hd
        simpa using this
      rw [hdv]
      have : ((decide (((byteAt p0 i).toNat : Int) < 48)) || (decide (((byteAt p0 i).toNat : Int) > 57))) = true := by
        rcases Nat.lt_or_ge (byteAt p0 i).toNat 48 with h1 | h1
        · rw [decide_eq_true (show ((byteAt p0 i).toNat : Int) < 48 by omega)]
          rfl
        · rw [decide_eq_true (show ((byteAt p0 i).toNat : Int) > 57 by omega), Bool.or_true]
      rw [this]
      rfl
theorem spec_dec (p0 : ByteArray) (hs : p0.size ≤ 10) : spec_ReadDecimal p0 = match Lib.decFrom 0 (sbytes p0) with
    | some m => finD p0 m
    | none => (0, false) := by
  unfold spec_ReadDecimal
  rw [decide_eq_false (show ¬ (p0.size : Int) > 10 by omega)]
  exact spec_dec_l1 p0 hs (p0.size - 0) 0 0 (by omega) (by decide)
/-- What the program's reading says, told of a number that stands there. -/
def finI (p0 : ByteArray) (n : Int) : Int × Bool := bif (!(impl_within n 0 1000000000)) || (!decide ((impl_Decimal n) = p0)) then (0, false) else (n, true)
theorem impl_dec (p0 : ByteArray) : impl_ReadDecimal p0 = bif (atoi p0).2 then finI p0 (atoi p0).1 else (0, false) := by
  unfold impl_ReadDecimal finI
  cases (atoi p0).2 with
  | true => simp only [Bool.not_true, Bool.false_or, cond_true]
  | false => simp only [Bool.not_false, Bool.true_or, cond_true, cond_false]
theorem finI_nat (p0 : ByteArray) (m : Nat) : finI p0 (m : Int) = finD p0 m := by
  unfold finI finD
  by_cases h : m ≤ 1000000000
  · have h1 : impl_within (m : Int) 0 1000000000 = true := by
      unfold impl_within
      simp
      omega
    rw [h1, decide_eq_false (show ¬ (m : Int) > 1000000000 by omega)]
    rfl
  · have h1 : impl_within (m : Int) 0 1000000000 = false := by
      cases hw : impl_within (m : Int) 0 1000000000 with
      | false => rfl
      | true => exact absurd (impl_within_t hw) (by omega)
    rw [h1, decide_eq_true (show (m : Int) > 1000000000 by omega)]
    rfl
theorem finI_bad (p0 : ByteArray) (n : Int) (h : ∀ m : Nat, m ≤ 1000000000 → impl_Decimal (m : Int) ≠ p0) : finI p0 n = (0, false) := by
  unfold finI
  cases hw : impl_within n 0 1000000000 with
  | false => rfl
  | true =>
    have hb := impl_within_t hw
    obtain ⟨m, rfl⟩ : ∃ m : Nat, n = (m : Int) := ⟨n.toNat, by omega⟩
    rw [decide_eq_false (h m (by omega))]
    rfl
theorem ReadDecimal_twin (p0 : ByteArray) : impl_ReadDecimal p0 = spec_ReadDecimal p0 := by
  rw [impl_dec]
  by_cases hs : p0.size ≤ 10
  · rw [spec_dec p0 hs]
    have hl : (sbytes p0).length ≤ 18 := by rw [sbytes_length]; omega
    have ha : Lib.atoiAll p0.data.toList = Lib.NumEnd.ofOption (Lib.atoi p0.data.toList) := Lib.atoiAll_short _ hl
    have hno : Lib.decFrom 0 (sbytes p0) = none → ∀ m : Nat, m ≤ 1000000000 → impl_Decimal (m : Int) ≠ p0 := fun hn m _ e => by
      rw [← e, dec_list, decFrom_digits] at hn
      cases hn
    unfold atoi
    rw [ha]
    show (bif (match Lib.NumEnd.ofOption (Lib.atoi (sbytes p0)) with | .ok v => (v, true) | .range => (Lib.atoiSat p0.data.toList, false) | _ => (0, false)).2 then finI p0 (match Lib.NumEnd.ofOption (Lib.atoi (sbytes p0)) with | .ok v => (v, true) | .range => (Lib.atoiSat p0.data.toList, false) | _ => (0, false)).1 else (0, false)) = _
    cases hc : sbytes p0 with
    | nil =>
      show (0, false) = finD p0 0
      have : impl_Decimal ((0 : Nat) : Int) ≠ p0 := fun e => by
        rw [← e, dec_list, Lib.decDigits_one (by omega)] at hc
        cases hc
      unfold finD
      rw [decide_eq_false this]
      rfl
    | cons b r =>
      rw [hc] at hno
      by_cases h45 : b = 45
      · subst h45
        have hn : Lib.decFrom 0 (45 :: r) = none := rfl
        rw [hn]
        have hf := fun n => finI_bad p0 n (hno hn)
        simp only [hf]
        exact Bool.cond_self _ _
      · by_cases h43 : b = 43
        · subst h43
          have hn : Lib.decFrom 0 (43 :: r) = none := rfl
          rw [hn]
          have hf := fun n => finI_bad p0 n (hno hn)
          simp only [hf]
          exact Bool.cond_self _ _
        · have e : Lib.atoi (b :: r) = (Lib.decFrom 0 (b :: r)).map fun (m : Nat) => (m : Int) := by
            show (if (b == 45) = true then (Lib.decNat r).map (fun (m : Nat) => -(m : Int)) else if (b == 43) = true then (Lib.decNat r).map (fun (m : Nat) => (m : Int)) else (Lib.decNat (b :: r)).map (fun (m : Nat) => (m : Int))) = _
            rw [if_neg (by simpa using h45), if_neg (by simpa using h43)]
            rfl
          rw [e]
          cases Lib.decFrom 0 (b :: r) with
          | none => rfl
          | some m => exact finI_nat p0 m
  · have hsp : spec_ReadDecimal p0 = (0, false) := by
      unfold spec_ReadDecimal
      rw [decide_eq_true (show (p0.size : Int) > 10 by omega)]
      rfl
    rw [hsp]
    have hf := fun n => finI_bad p0 n fun m hm e => hs (by rw [← e]; exact dec_size hm)
    rw [hf]
    exact Bool.cond_self _ _

/-! ## Hexadecimal texts, read -/
theorem val_digit {d : Nat} (h : d < 16) : spec_l01Value (Lib.Hx.digit d) = (d : Int) := by
  have key : ∀ n : Fin 16, spec_l01Value (Lib.Hx.digit n.val) = (n.val : Int) := by decide +kernel
  exact key ⟨d, h⟩
theorem val_back (b : UInt8) (h : 0 ≤ spec_l01Value b) : (spec_l01Value b).toNat < 16 ∧ Lib.Hx.digit (spec_l01Value b).toNat = b := by
  have key : ∀ n : Fin 256, 0 ≤ spec_l01Value (UInt8.ofNat n.val) → (spec_l01Value (UInt8.ofNat n.val)).toNat < 16 ∧ Lib.Hx.digit (spec_l01Value (UInt8.ofNat n.val)).toNat = UInt8.ofNat n.val := by decide +kernel
  have e : UInt8.ofNat b.toNat = b := by simp
  have := key ⟨b.toNat, b.toNat_lt⟩
  simp only [e] at this
  exact this h
theorem byte_of {h l : Nat} (hh : h < 16) (hl : l < 16) : u8of (IntKind.i64.wrap ((IntKind.i64.wrap (16 * (h : Int))) + (l : Int))) = UInt8.ofNat (16 * h + l) := by
  have key : ∀ a b : Fin 16, u8of (IntKind.i64.wrap ((IntKind.i64.wrap (16 * (a.val : Int))) + (b.val : Int))) = UInt8.ofNat (16 * a.val + b.val) := by decide +kernel
  exact key ⟨h, hh⟩ ⟨l, hl⟩
theorem sbytes_hexEnc (xs : List UInt8) : sbytes (hexEnc xs) = Lib.Hx.encode xs := by
  show ((Lib.Hx.encode xs).toArray).toList = _
  rw [List.toList_toArray]
def kU (e : List UInt8) : ByteArray × Bool := (bstr e, true)
theorem unhex_good (p0 : ByteArray) : ∀ (raw : List UInt8) (i : Nat) (v : List UInt8) (fu : Nat), i + 2 * raw.length = p0.size → raw.length ≤ fu → (sbytes p0).drop i = Lib.Hx.encode raw → spec_Unhex_l1 p0 kU fu v i = (bstr (v ++ raw), true) := by
  intro raw
  induction raw with
  | nil =>
    intro i v fu h1 h2 h3
    have hi : decide ((i : Int) < (p0.size : Int)) = false := decide_eq_false (by simp only [List.length_nil] at h1; omega)
    rw [List.append_nil]
    cases fu with
    | zero => rfl
    | succ n => rw [spec_Unhex_l1, hi]; rfl
  | cons x r ih =>
    intro i v fu h1 h2 h3
    rw [List.length_cons] at h1 h2
    obtain ⟨f, rfl⟩ : ∃ f, fu = f + 1 := ⟨fu - 1, by omega⟩
    have hl1 : i < p0.size := by omega
    have hl2 : i + 1 < p0.size := by omega
    rw [drop_at p0 hl1, drop_at p0 hl2, Lib.Hx.encode_cons] at h3
    injection h3 with e1 h3
    injection h3 with e2 e3
    have hx := x.toNat_lt
    rw [spec_Unhex_l1, decide_eq_true (show (i : Int) < (p0.size : Int) by omega), e1, e2, val_digit (by omega), val_digit (by omega), decide_eq_false (show ¬ ((x.toNat / 16 : Nat) : Int) < 0 by omega), decide_eq_false (show ¬ ((x.toNat % 16 : Nat) : Int) < 0 by omega), byte_of (by omega) (by omega), show 16 * (x.toNat / 16) + x.toNat % 16 = x.toNat by omega]
    simp only [Bool.or_self, cond_true, cond_false]
    rw [ih (i + 2) _ f (by omega) (by omega) e3, show UInt8.ofNat x.toNat = x by simp, List.append_assoc]
    rfl
theorem unhex_back (p0 : ByteArray) (he : p0.size % 2 = 0) : ∀ (fu i : Nat) (v : List UInt8), i % 2 = 0 → i ≤ p0.size → p0.size - i ≤ fu →
    spec_Unhex_l1 p0 kU fu v i = (⟨#[]⟩, false) ∨ ∃ raw : List UInt8, (sbytes p0).drop i = Lib.Hx.encode raw ∧ i + 2 * raw.length = p0.size := by
  intro fu
  induction fu with
  | zero =>
    intro i v h1 h2 h3
    exact .inr ⟨[], List.drop_eq_nil_of_le (by rw [sbytes_length]; omega), by simp only [List.length_nil]; omega⟩
  | succ f ih =>
    intro i v h1 h2 h3
    by_cases hi : i < p0.size
    · have hl2 : i + 1 < p0.size := by omega
      rw [spec_Unhex_l1, decide_eq_true (show (i : Int) < (p0.size : Int) by omega)]
      by_cases hv : spec_l01Value (byteAt p0 i) < 0
      · rw [decide_eq_true hv]
        exact .inl rfl
      · by_cases hw : spec_l01Value (byteAt p0 (i + 1)) < 0
        · rw [decide_eq_true hw, Bool.or_true]
          exact .inl rfl
        · rw [decide_eq_false hv, decide_eq_false hw]
          simp only [Bool.or_self, cond_true, cond_false]
          obtain ⟨a1, a2⟩ := val_back (byteAt p0 i) (by omega)
          obtain ⟨b1, b2⟩ := val_back (byteAt p0 (i + 1)) (by omega)
          rcases ih (i + 2) (v ++ [u8of (IntKind.i64.wrap ((IntKind.i64.wrap (16 * (spec_l01Value (byteAt p0 i)))) + (spec_l01Value (byteAt p0 (i + 1)))))]) (by omega) (by omega) (by omega) with h | ⟨raw, hr, hs⟩
          · exact .inl h
          · refine .inr ⟨UInt8.ofNat (16 * (spec_l01Value (byteAt p0 i)).toNat + (spec_l01Value (byteAt p0 (i + 1))).toNat) :: raw, ?_, by rw [List.length_cons]; omega⟩
            have ex : (UInt8.ofNat (16 * (spec_l01Value (byteAt p0 i)).toNat + (spec_l01Value (byteAt p0 (i + 1))).toNat)).toNat = 16 * (spec_l01Value (byteAt p0 i)).toNat + (spec_l01Value (byteAt p0 (i + 1))).toNat := by
              have h := UInt8.toNat_ofNat' (n := 16 * (spec_l01Value (byteAt p0 i)).toNat + (spec_l01Value (byteAt p0 (i + 1))).toNat)
              rw [h]
              omega
            rw [drop_at p0 hi, drop_at p0 hl2, Lib.Hx.encode_cons, ex, hr]
            rw [show (16 * (spec_l01Value (byteAt p0 i)).toNat + (spec_l01Value (byteAt p0 (i + 1))).toNat) / 16 = (spec_l01Value (byteAt p0 i)).toNat by omega, show (16 * (spec_l01Value (byteAt p0 i)).toNat + (spec_l01Value (byteAt p0 (i + 1))).toNat) % 16 = (spec_l01Value (byteAt p0 (i + 1))).toNat by omega, a2, b2]
    · exact .inr ⟨[], List.drop_eq_nil_of_le (by rw [sbytes_length]; omega), by simp only [List.length_nil]; omega⟩
theorem decodeS_enc (raw : List UInt8) : decodeS (hexEnc raw) = (raw, true) := by
  unfold decodeS
  rw [show (hexEnc raw).data.toList = Lib.Hx.encode raw from sbytes_hexEnc raw, Lib.Hx.decode_encode]
theorem impl_unhex_good (raw : List UInt8) (h : raw.length ≤ 20000) : impl_Unhex (hexEnc raw) = (bstr raw, true) := by
  unfold impl_Unhex
  rw [decodeS_enc, decide_eq_false (show ¬ (((raw, true) : List UInt8 × Bool).1.length : Int) > 20000 by show ¬ (raw.length : Int) > 20000; omega), decide_eq_true (show hexEnc ((raw, true) : List UInt8 × Bool).1 = hexEnc raw from rfl)]
  rfl
theorem impl_unhex_bad (p0 : ByteArray) (h : ∀ raw : List UInt8, raw.length ≤ 20000 → hexEnc raw ≠ p0) : impl_Unhex p0 = (⟨#[]⟩, false) := by
  unfold impl_Unhex
  by_cases hl : (decodeS p0).1.length ≤ 20000
  · rw [decide_eq_false (h _ hl), Bool.not_false, Bool.or_true]
    rfl
  · rw [decide_eq_true (show ((decodeS p0).1.length : Int) > 20000 by omega), Bool.or_true, Bool.true_or]
    rfl
theorem hexEnc_of {p0 : ByteArray} {raw : List UInt8} (h : sbytes p0 = Lib.Hx.encode raw) : hexEnc raw = p0 := by
  unfold hexEnc
  rw [← h]
  rfl
theorem Unhex_twin (p0 : ByteArray) : impl_Unhex p0 = spec_Unhex p0 := by
  unfold spec_Unhex
  cases hc : (decide ((p0.size : Int) > 40000)) || (!decide ((Int.tmod (p0.size : Int) 2) = 0)) with
  | true =>
    rw [impl_unhex_bad p0 fun raw hl e => ?_]
    · rfl
    · have hs : p0.size = 2 * raw.length := by rw [← e, hexEnc_size]
      rw [decide_eq_false (show ¬ (p0.size : Int) > 40000 by omega)] at hc
      have ht : Int.tmod (p0.size : Int) 2 = 0 := by
        rw [hs]
        show (((2 * raw.length) % 2 : Nat) : Int) = 0
        omega
      rw [decide_eq_true ht] at hc
      cases hc
  | false =>
    have h1 : p0.size ≤ 40000 := by
      have := (Bool.or_eq_false_iff.1 hc).1
      simp at this
      omega
    have he := even_of (Bool.or_eq_false_iff.1 hc).2
    show impl_Unhex p0 = spec_Unhex_l1 p0 kU (p0.size - 0) [] 0
    rcases unhex_back p0 he (p0.size - 0) 0 [] rfl (Nat.zero_le _) (Nat.le_refl _) with h | ⟨raw, hr, hs⟩
    · rw [h]
      refine impl_unhex_bad p0 fun raw hl e => ?_
      have hs : p0.size = 2 * raw.length := by rw [← e, hexEnc_size]
      have := unhex_good p0 raw 0 [] (p0.size - 0) (by omega) (by omega) (by rw [List.drop_zero, ← e, sbytes_hexEnc])
      rw [h] at this
      cases this
    · rw [List.drop_zero] at hr
      have e := hexEnc_of hr
      rw [unhex_good p0 raw 0 [] (p0.size - 0) (by omega) (by omega) (by rw [List.drop_zero]; exact hr), List.nil_append]
      conv => lhs; rw [← e]
      exact impl_unhex_good raw (by omega)

/-! ## Words of a call's line -/
def clean (l : List UInt8) : Prop := l ≠ [] ∧ ∀ b ∈ l, 33 ≤ b.toNat ∧ b.toNat ≤ 126
theorem clean_sp {b : UInt8} (h : 33 ≤ b.toNat ∧ b.toNat ≤ 126) : Lib.isSp b = false := by
  rw [isSp_in (by omega) (by omega)]
  exact decide_eq_false (by omega)
theorem fieldsGo_clean : ∀ (m cur : List UInt8), (∀ b ∈ m, 33 ≤ b.toNat ∧ b.toNat ≤ 126) → cur ++ m ≠ [] → Lib.fieldsGo cur m = [cur ++ m]
  | [], cur, _, hne => by
    rw [List.append_nil] at hne ⊢
    cases cur with
    | nil => exact absurd rfl hne
    | cons _ _ => rfl
  | b :: m, cur, h, _ => by
    rw [Lib.fieldsGo_more cur b m (clean_sp (h b (List.mem_cons_self))), fieldsGo_clean m (cur ++ [b]) (fun c hc => h c (List.mem_cons_of_mem _ hc)) (by simp)]
    simp
theorem fieldsGo_app : ∀ (l cur m : List UInt8), clean m → Lib.fieldsGo cur (l ++ 32 :: m) = Lib.fieldsGo cur l ++ [m]
  | [], cur, m, hm => by
    have e := fieldsGo_clean m [] hm.2 (by simpa using hm.1)
    rw [List.nil_append] at e
    cases cur with
    | nil =>
      show Lib.fieldsGo [] (32 :: m) = [] ++ [m]
      rw [Lib.fieldsGo_sp 32 m (by decide), e]
      rfl
    | cons a r =>
      show Lib.fieldsGo (a :: r) (32 :: m) = [a :: r] ++ [m]
      rw [Lib.fieldsGo_end (a :: r) 32 m (by decide) (by simp), e]
      rfl
  | b :: l, cur, m, hm => by
    show Lib.fieldsGo cur (b :: (l ++ 32 :: m)) = Lib.fieldsGo cur (b :: l) ++ [m]
    cases hb : Lib.isSp b with
    | false => rw [Lib.fieldsGo_more cur b _ hb, Lib.fieldsGo_more cur b _ hb, fieldsGo_app l _ m hm]
    | true =>
      cases cur with
      | nil => rw [Lib.fieldsGo_sp b _ hb, Lib.fieldsGo_sp b _ hb, fieldsGo_app l _ m hm]
      | cons a r => rw [Lib.fieldsGo_end _ b _ hb (by simp), Lib.fieldsGo_end _ b _ hb (by simp), fieldsGo_app l _ m hm, List.cons_append]
theorem sbytes_app (a b : ByteArray) : sbytes (a ++ b) = sbytes a ++ sbytes b := by
  unfold sbytes
  rw [ByteArray.data_append, Array.toList_append]
theorem toBA_sbytes (p0 : ByteArray) : toBA (sbytes p0) = p0 := rfl
/-- What a line's word tells, by its letter. -/
def hexText (p0 : ByteArray) : ByteArray := bif decide ((spec_Hex p0).1 = ⟨#[]⟩) then ⟨#[45]⟩ else (spec_Hex p0).1
def ftx (c : Call) (u : UInt8) : ByteArray := bif u == 110 then c.Name else bif u == 116 then c.To else bif u == 97 then spec_Decimal c.A else bif u == 98 then spec_Decimal c.B else hexText c.Text
def useB (u : UInt8) : Bool := u == 110 || u == 116 || u == 97 || u == 98 || u == 120
theorem useB_22 : ∀ n : Fin 22, ∀ i : Fin 3, i.val < (spec_l38Uses ((n.val : Int) + 1)).size → useB (byteAt (spec_l38Uses ((n.val : Int) + 1)) i.val) = true := by decide +kernel
theorem names_22 : ∀ n : Fin 22, spec_CallName ((n.val : Int) + 1) = nth gl1 n.val := by decide +kernel
theorem cleanB_22 : ∀ n : Fin 22, (sbytes (spec_CallName ((n.val : Int) + 1))).all (fun b => Nat.ble 33 b.toNat && Nat.ble b.toNat 126) = true ∧ (sbytes (spec_CallName ((n.val : Int) + 1))).isEmpty = false := by decide +kernel
theorem clean_of {l : List UInt8} (h : l.all (fun b => Nat.ble 33 b.toNat && Nat.ble b.toNat 126) = true) (h2 : l.isEmpty = false) : clean l := by
  refine ⟨fun e => (by rw [e] at h2; cases h2), fun b hb => ?_⟩
  have := List.all_eq_true.1 h b hb
  rw [Bool.and_eq_true] at this
  exact ⟨Nat.le_of_ble_eq_true this.1, Nat.le_of_ble_eq_true this.2⟩
theorem name_clean {k : Int} (h : 1 ≤ k ∧ k ≤ 22) : clean (sbytes (spec_CallName k)) := by
  obtain ⟨n, rfl⟩ := of22 h
  exact clean_of (cleanB_22 n).1 (cleanB_22 n).2
theorem mem_at {p0 : ByteArray} {b : UInt8} (h : b ∈ sbytes p0) : ∃ j, j < p0.size ∧ byteAt p0 j = b := by
  obtain ⟨j, hj, rfl⟩ := List.getElem_of_mem h
  exact ⟨j, by rw [sbytes_length] at hj; exact hj, (sbytes_at hj).symm⟩
def nbad (b : UInt8) : Bool := (((!(spec_l01In (IntKind.i64.wrap (b.toNat : Int)) 97 122)) && (!(spec_l01In (IntKind.i64.wrap (b.toNat : Int)) 48 57))) && (!decide ((b.toNat : Int) = 46))) && (!decide ((b.toNat : Int) = 45))
theorem nbad_not {b : UInt8} (h : nbad b = false) : 33 ≤ b.toNat ∧ b.toNat ≤ 126 := by
  have key : ∀ n : Fin 256, nbad (UInt8.ofNat n.val) = false → 33 ≤ (UInt8.ofNat n.val).toNat ∧ (UInt8.ofNat n.val).toNat ≤ 126 := by decide +kernel
  have e : UInt8.ofNat b.toNat = b := by simp
  have := key ⟨b.toNat, b.toNat_lt⟩
  simp only [e] at this
  exact this h
theorem NameOk_l1_t (p0 : ByteArray) : ∀ n i, i + n = p0.size → spec_NameOk_l1 p0 n i = true → (1 ≤ p0.size ∧ p0.size ≤ 12) ∧ ∀ j, i ≤ j → j < p0.size → 33 ≤ (byteAt p0 j).toNat ∧ (byteAt p0 j).toNat ≤ 126 := by
  intro n
  induction n with
  | zero =>
    intro i h h1
    have := spec_l01In_t (a := (p0.size : Int)) (b := 1) (c := 12) h1
    exact ⟨by omega, fun j _ _ => by omega⟩
  | succ n ih =>
    intro i h h1
    rw [spec_NameOk_l1] at h1
    cases hb : nbad (byteAt p0 i) with
    | true =>
      unfold nbad at hb
      rw [hb] at h1
      cases h1
    | false =>
      have hb' := hb
      unfold nbad at hb'
      rw [hb'] at h1
      obtain ⟨h2, h3⟩ := ih (i + 1) (by omega) h1
      refine ⟨h2, fun j h4 h5 => ?_⟩
      by_cases e : i = j
      · subst e
        exact nbad_not hb
      · exact h3 j (by omega) h5
theorem NameOk_clean {p0 : ByteArray} (h : spec_NameOk p0 = true) : clean (sbytes p0) ∧ p0.size ≤ 12 := by
  obtain ⟨h1, h2⟩ := NameOk_l1_t p0 _ _ (by omega) h
  refine ⟨⟨fun e => ?_, fun b hb => ?_⟩, h1.2⟩
  · have := congrArg List.length e
    rw [sbytes_length, List.length_nil] at this
    omega
  · obtain ⟨j, hj, rfl⟩ := mem_at hb
    exact h2 j (Nat.zero_le _) hj
theorem decDigits_dig : ∀ u : Nat, ∀ b ∈ Lib.decDigits u, 48 ≤ b.toNat ∧ b.toNat ≤ 57 := by
  intro u
  induction u using Nat.strongRecOn with
  | _ u ih =>
    have dg : ∀ d : Nat, d < 10 → 48 ≤ (UInt8.ofNat (48 + d)).toNat ∧ (UInt8.ofNat (48 + d)).toNat ≤ 57 := fun d hd => by
      have key : ∀ n : Fin 10, 48 ≤ (UInt8.ofNat (48 + n.val)).toNat ∧ (UInt8.ofNat (48 + n.val)).toNat ≤ 57 := by decide +kernel
      exact key ⟨d, hd⟩
    intro b hb
    rw [Lib.decDigits] at hb
    split at hb
    · rename_i h
      rw [List.mem_singleton] at hb
      subst hb
      exact dg u h
    · rw [List.mem_append, List.mem_singleton] at hb
      rcases hb with hb | hb
      · exact ih (u / 10) (by omega) b hb
      · subst hb
        exact dg (u % 10) (by omega)
theorem fits_nat {a : Int} (h : spec_l38Fits a = true) : ∃ u : Nat, a = (u : Int) ∧ u ≤ 1000000000 := by
  have := spec_l01In_t (a := a) (b := 0) (c := 1000000000) h
  exact ⟨a.toNat, by omega, by omega⟩
theorem dec_clean {a : Int} (h : spec_l38Fits a = true) : clean (sbytes (spec_Decimal a)) ∧ (spec_Decimal a).size ≤ 10 := by
  obtain ⟨u, rfl, hu⟩ := fits_nat h
  rw [Decimal_twin (by unfold I64; omega)]
  refine ⟨?_, dec_size hu⟩
  rw [dec_list]
  refine ⟨fun e => ?_, fun b hb => ?_⟩
  · have := congrArg List.length e
    rw [Lib.decDigits_length, List.length_nil] at this
    have h2 := Lib.nDigits_pos u
    omega
  · have := decDigits_dig u b hb
    omega
theorem encode_dig : ∀ (l : List UInt8), ∀ b ∈ Lib.Hx.encode l, 33 ≤ b.toNat ∧ b.toNat ≤ 126
  | [], b, hb => by cases hb
  | x :: l, b, hb => by
    have dg : ∀ d : Nat, d < 16 → 33 ≤ (Lib.Hx.digit d).toNat ∧ (Lib.Hx.digit d).toNat ≤ 126 := fun d hd => by
      have key : ∀ n : Fin 16, 33 ≤ (Lib.Hx.digit n.val).toNat ∧ (Lib.Hx.digit n.val).toNat ≤ 126 := by decide +kernel
      exact key ⟨d, hd⟩
    have hx := x.toNat_lt
    rw [Lib.Hx.encode_cons] at hb
    rcases List.mem_cons.1 hb with rfl | hb
    · exact dg _ (by omega)
    · rcases List.mem_cons.1 hb with rfl | hb
      · exact dg _ (by omega)
      · exact encode_dig l b hb
theorem hexText_clean {p0 : ByteArray} (h : p0.size ≤ 64) : clean (sbytes (hexText p0)) ∧ (hexText p0).size ≤ 128 := by
  unfold hexText
  by_cases e : (spec_Hex p0).1 = ⟨#[]⟩
  · rw [decide_eq_true e]
    have hd : clean (sbytes (⟨#[45]⟩ : ByteArray)) := clean_of (by decide +kernel) (by decide +kernel)
    exact ⟨hd, Nat.le_of_ble_eq_true rfl⟩
  · rw [decide_eq_false e]
    refine ⟨⟨fun e2 => e (congrArg toBA (show sbytes (spec_Hex p0).1 = [] from e2)), fun b hb => ?_⟩, spec_Hex_size h⟩
    show _ ≤ _ ∧ _
    have hb' : b ∈ sbytes (spec_Hex p0).1 := hb
    rw [spec_Hex_is (by omega), sbytes_hexEnc] at hb'
    exact encode_dig _ b hb'
def okB (l : List UInt8) : Prop := ∀ b ∈ l, 32 ≤ b.toNat ∧ b.toNat ≤ 126
theorem okB_app {v w : List UInt8} (h : okB v) (hw : clean w) : okB (v ++ 32 :: w) := fun b hb => by
  rcases List.mem_append.1 hb with hb | hb
  · exact h b hb
  · rcases List.mem_cons.1 hb with rfl | hb
    · decide
    · have := hw.2 b hb
      omega
theorem sp_list (v w : ByteArray) : sbytes ((v ++ (⟨#[32]⟩ : ByteArray)) ++ w) = sbytes v ++ 32 :: sbytes w := by
  rw [sbytes_app, sbytes_app, List.append_assoc]
  rfl
def lw (c : Call) (i n : Nat) : List ByteArray := (List.range' i n).map fun j => ftx c (byteAt (spec_l38Uses c.Kind) j)
structure Wd (c : Call) (v : ByteArray) (ws : List ByteArray) : Prop where
  f : fieldsS v = ws
  o : okB (sbytes v)
theorem Wd.add {c : Call} {v w : ByteArray} {ws : List ByteArray} (h : Wd c v ws) (hw : clean (sbytes w)) : Wd c ((v ++ (⟨#[32]⟩ : ByteArray)) ++ w) (ws ++ [w]) := by
  refine ⟨?_, ?_⟩
  · rw [fieldsS_toBA, sp_list, fieldsGo_app _ _ _ hw, List.map_append, ← fieldsS_toBA, h.f]
    rfl
  · rw [sp_list]
    exact okB_app h.o hw
theorem sp_size (v w : ByteArray) : ((v ++ (⟨#[32]⟩ : ByteArray)) ++ w).size = v.size + 1 + w.size := by
  rw [← sbytes_length, sp_list, List.length_append, List.length_cons, sbytes_length, sbytes_length]
  omega
theorem line_words {c : Call} (hk : 1 ≤ c.Kind ∧ c.Kind ≤ 22) (hx : c.Text.size ≤ 64) (hA : spec_l38Fits c.A = true) (hB : spec_l38Fits c.B = true) :
    ∀ n i v ws, i + n = (spec_l38Uses c.Kind).size → Wd c v ws → spec_CallLine_l1 c n v i = ⟨#[]⟩ ∨ (Wd c (spec_CallLine_l1 c n v i) (ws ++ lw c i n) ∧ (spec_CallLine_l1 c n v i).size ≤ v.size + 129 * n) := by
  have hu : ∀ i, i < (spec_l38Uses c.Kind).size → useB (byteAt (spec_l38Uses c.Kind) i) = true := fun i hi => by
    obtain ⟨m, hm⟩ := of22 hk
    rw [hm] at hi ⊢
    have h3 := spec_l38Uses_size ((m.val : Int) + 1)
    exact useB_22 m ⟨i, by omega⟩ hi
  intro n
  induction n with
  | zero =>
    intro i v ws h hw
    refine .inr ⟨?_, Nat.le_add_right _ _⟩
    show Wd c v (ws ++ [])
    rw [List.append_nil]
    exact hw
  | succ n ih =>
    intro i v ws h hw
    have go : ∀ w : ByteArray, clean (sbytes w) → w.size ≤ 128 → ftx c (byteAt (spec_l38Uses c.Kind) i) = w → spec_CallLine_l1 c (n + 1) v i = spec_CallLine_l1 c n ((v ++ (⟨#[32]⟩ : ByteArray)) ++ w) (i + 1) →
        spec_CallLine_l1 c (n + 1) v i = ⟨#[]⟩ ∨ (Wd c (spec_CallLine_l1 c (n + 1) v i) (ws ++ lw c i (n + 1)) ∧ (spec_CallLine_l1 c (n + 1) v i).size ≤ v.size + 129 * (n + 1)) := fun w h1 h2 h3 h4 => by
      rw [h4]
      rcases ih (i + 1) _ (ws ++ [w]) (by omega) (hw.add h1) with e | ⟨e1, e2⟩
      · exact .inl e
      · refine .inr ⟨?_, ?_⟩
        · have : lw c i (n + 1) = w :: lw c (i + 1) n := by
            unfold lw
            rw [List.range'_succ, List.map_cons, h3]
          rw [this]
          rw [List.append_assoc] at e1
          exact e1
        · rw [sp_size] at e2
          omega
    have hi := hu i (by omega)
    rw [spec_CallLine_l1] at *
    have hgo := go
    revert hgo
    generalize hf : byteAt (spec_l38Uses c.Kind) i = u at hi ⊢
    intro hgo
    simp only [useB, Bool.or_eq_true, beq_iff_eq] at hi
    rcases hi with (((rfl | rfl) | rfl) | rfl) | rfl
    · rw [show ((UInt8.toNat 110 : Nat) : Int) = 110 from rfl] at *
      cases hn : spec_NameOk c.Name with
      | false => exact .inl rfl
      | true => 
        rw [hn] at hgo
        exact hgo c.Name (NameOk_clean hn).1 (by have := (NameOk_clean hn).2; omega) rfl rfl
    · rw [show ((UInt8.toNat 116 : Nat) : Int) = 116 from rfl] at *
      cases hn : spec_NameOk c.To with
      | false => exact .inl rfl
      | true => 
        rw [hn] at hgo
        exact hgo c.To (NameOk_clean hn).1 (by have := (NameOk_clean hn).2; omega) rfl rfl
    · exact hgo (spec_Decimal c.A) (dec_clean hA).1 (by have := (dec_clean hA).2; omega) rfl rfl
    · exact hgo (spec_Decimal c.B) (dec_clean hB).1 (by have := (dec_clean hB).2; omega) rfl rfl
    · exact hgo (hexText c.Text) (hexText_clean hx).1 (hexText_clean hx).2 rfl rfl
theorem parts_of {p0 : ByteArray} (h1 : p0.size ≤ 600) (h2 : okB (sbytes p0)) : impl_PartsOf p0 = finW (fieldsS p0) := by
  unfold impl_PartsOf
  rw [decide_eq_false (show ¬ (p0.size : Int) > 600 by omega)]
  exact impl_parts_good p0 (fun j hj => h2 _ (by
    have hj' : j < (sbytes p0).length := by rw [sbytes_length]; exact hj
    rw [← sbytes_at hj']
    exact List.getElem_mem hj')) _ _ (by omega)
theorem CallLine_words (c : Call) (h : spec_CallLine c ≠ ⟨#[]⟩) : (1 ≤ c.Kind ∧ c.Kind ≤ 22) ∧ spec_PartsOf (spec_CallLine c) = (spec_CallName c.Kind :: lw c 0 (spec_l38Uses c.Kind).size, true) ∧ spec_CallOk c = true ∧ spec_Told c = c ∧ spec_l38Fits c.A = true ∧ spec_l38Fits c.B = true := by
  cases hb : (((!(spec_CallOk c)) || (!(decide ((spec_Told c) = c)))) || (!(spec_l38Fits c.A))) || (!(spec_l38Fits c.B)) with
  | true =>
    unfold spec_CallLine at h
    rw [hb] at h
    exact absurd rfl h
  | false =>
    have e : spec_CallLine c = spec_CallLine_l1 c ((spec_l38Uses c.Kind).size - 0) (spec_CallName c.Kind) 0 := by
      unfold spec_CallLine
      rw [hb]
      rfl
    simp only [Bool.or_eq_false_iff, Bool.not_eq_false', decide_eq_true_eq] at hb
    obtain ⟨⟨⟨hok, ht⟩, hA⟩, hB⟩ := hb
    obtain ⟨hk, h1, h2, h3⟩ := spec_CallOk_t hok
    refine ⟨hk, ?_, hok, ht, hA, hB⟩
    have hcl := name_clean hk
    have hw0 : Wd c (spec_CallName c.Kind) [spec_CallName c.Kind] := by
      refine ⟨?_, fun b hb => ?_⟩
      · rw [fieldsS_toBA, fieldsGo_clean _ _ hcl.2 (by simpa using hcl.1)]
        rfl
      · have := hcl.2 b hb
        omega
    rw [e] at h ⊢
    have hn := spec_CallName_size c.Kind
    have hu := spec_l38Uses_size c.Kind
    rcases line_words hk h3 hA hB ((spec_l38Uses c.Kind).size - 0) 0 _ _ (by omega) hw0 with h' | ⟨h', h''⟩
    · exact absurd h' h
    · rw [← PartsOf_twin, parts_of (by omega) h'.o, h'.f]
      unfold finW
      rw [decide_eq_false (by
        show ¬ ((([spec_CallName c.Kind] ++ lw c 0 ((spec_l38Uses c.Kind).size - 0)).length : Nat) : Int) > 12
        unfold lw
        rw [List.length_append, List.length_map, List.length_range', List.length_singleton]
        omega)]
      rfl
theorem CallLine_count (c : Call) : (spec_PartsOf (spec_CallLine c)).1 = [] ∨ (spec_PartsOf (spec_CallLine c)).1.length = (spec_l38Uses c.Kind).size + 1 := by
  by_cases h : spec_CallLine c = ⟨#[]⟩
  · rw [h]
    exact .inl rfl
  · rw [(CallLine_words c h).2.1]
    refine .inr ?_
    show (spec_CallName c.Kind :: lw c 0 (spec_l38Uses c.Kind).size).length = _
    unfold lw
    rw [List.length_cons, List.length_map, List.length_range']
/-! ## A call, read -/
theorem index_not (w : ByteArray) : ∀ n i, (∀ j, i ≤ j → j < i + n → w ≠ nth gl1 j) → slices_Index_string_l1 gl1 w n i = -1 := by
  intro n
  induction n with
  | zero => intro i _; rfl
  | succ n ih =>
    intro i h
    rw [slices_Index_string_l1, decide_eq_false (h i (Nat.le_refl _) (by omega)), ih (i + 1) (fun j h1 h2 => h j (by omega) (by omega))]
    rfl
def kindL (w : ByteArray) : Nat → Int → Nat → Int
  | 0, c, _ => c
  | n + 1, c, i => kindL w n (bif (decide ((spec_CallName (i : Int)) = w)) then (i : Int) else c) (i + 1)
theorem kindL_not (w : ByteArray) (h : ∀ j : Nat, 1 ≤ j → j ≤ 22 → spec_CallName (j : Int) ≠ w) : ∀ n i c, 1 ≤ i → i + n ≤ 23 → kindL w n c i = c := by
  intro n
  induction n with
  | zero => intro i c _ _; rfl
  | succ n ih =>
    intro i c h1 h2
    rw [kindL, decide_eq_false (h i h1 (by omega)), ih (i + 1) _ (by omega) (by omega)]
    rfl
theorem kind_22 : ∀ n : Fin 22, kindL (nth gl1 n.val) 22 0 1 = (n.val : Int) + 1 ∧ IntKind.i64.wrap (1 + slices_Index_string gl1 (nth gl1 n.val)) = (n.val : Int) + 1 := by decide +kernel
theorem kind_twin (w : ByteArray) : kindL w 22 0 1 = IntKind.i64.wrap (1 + slices_Index_string gl1 w) ∧ 0 ≤ kindL w 22 0 1 ∧ kindL w 22 0 1 ≤ 22 := by
  by_cases h : ∃ n : Fin 22, nth gl1 n.val = w
  · obtain ⟨n, rfl⟩ := h
    rw [(kind_22 n).1, (kind_22 n).2]
    have := n.isLt
    exact ⟨rfl, by omega, by omega⟩
  · have h' : ∀ j, j < 22 → nth gl1 j ≠ w := fun j hj e => h ⟨⟨j, hj⟩, e⟩
    rw [kindL_not w (fun j h1 h2 => ?_) 22 1 0 (Nat.le_refl _) (Nat.le_refl _)]
    · have : slices_Index_string gl1 w = -1 := index_not w _ 0 fun j _ hj => (h' j (by rw [Nat.zero_add] at hj; exact hj)).symm
      rw [this]
      exact ⟨rfl, by omega, by omega⟩
    · have := names_22 ⟨j - 1, by omega⟩
      rw [show (((⟨j - 1, by omega⟩ : Fin 22).val : Nat) : Int) + 1 = (j : Int) by show ((j - 1 : Nat) : Int) + 1 = _; omega] at this
      rw [this]
      exact h' _ (by show j - 1 < 22; omega)
theorem spec_l1_kind (p0 : List ByteArray) : ∀ n c i, spec_ReadCall_l1 p0 n c i = spec_ReadCall_l1 p0 0 (kindL (nth p0 0) n c i) (i + n) := by
  intro n
  induction n with
  | zero => intro c i; rfl
  | succ n ih =>
    intro c i
    show spec_ReadCall_l1 p0 n (bif (decide ((spec_CallName (i : Int)) = (nth p0 0))) then (i : Int) else c) (i + 1) = _
    rw [ih, show i + 1 + n = i + (n + 1) by omega]
    rfl
def C0 : Call := Call.mk 0 ⟨#[]⟩ ⟨#[]⟩ 0 0 ⟨#[]⟩
def finRC (p0 : List ByteArray) (c : Call) : Call × Bool := bif (!((spec_PartsOf (spec_CallLine c)).2)) || (!(spec_l03Same ((spec_PartsOf (spec_CallLine c)).1) p0)) then (C0, false) else (c, true)
def kC (p0 : List ByteArray) (K : Int) (e : ByteArray × ByteArray × Int × Int × ByteArray) : Call × Bool := finRC p0 (Call.mk K e.1 e.2.1 e.2.2.1 e.2.2.2.1 e.2.2.2.2)
theorem spec_l1_zero (p0 : List ByteArray) (K : Int) (i : Nat) : spec_ReadCall_l1 p0 0 K i = spec_ReadCall_l2 p0 K i (kC p0 K) ((spec_l38Uses K).size - 0) ⟨#[]⟩ ⟨#[]⟩ 0 0 ⟨#[]⟩ 0 := rfl
theorem spec_l2_any (p0 : List ByteArray) (K : Int) (i0 : Nat) (k : (ByteArray × ByteArray × Int × Int × ByteArray) → Call × Bool) : ∀ n a b c d e i, ∃ x, spec_ReadCall_l2 p0 K i0 k n a b c d e i = k x := by
  intro n
  induction n with
  | zero => intro a b c d e i; exact ⟨_, rfl⟩
  | succ n ih =>
    intro a b c d e i
    rw [spec_ReadCall_l2]
    cases (decide ((i : Int) < ((spec_l38Uses K).size : Int))) && (decide ((IntKind.i64.wrap ((i : Int) + 1)) < (p0.length : Int))) with
    | true => exact ih _ _ _ _ _ _
    | false => exact ⟨_, rfl⟩
theorem same_len {a b : List ByteArray} (h : a.length ≠ b.length) : spec_l03Same a b = false := by
  unfold spec_l03Same
  rw [decide_eq_false (show ¬ (a.length : Int) = (b.length : Int) by omega)]
  rfl
theorem finC_len {p0 : List ByteArray} {c : Call} (hp : p0.length ≠ 0) (h : p0.length ≠ (spec_l38Uses c.Kind).size + 1) : finRC p0 c = (C0, false) := by
  unfold finRC
  rw [same_len (a := (spec_PartsOf (spec_CallLine c)).1) (b := p0) ?_]
  · rw [Bool.not_false, Bool.or_true]
    rfl
  · rcases CallLine_count c with e | e
    · rw [e]
      exact fun e2 => hp e2.symm
    · rw [e]
      exact fun e2 => h e2.symm
theorem Equal_twin (a b : List ByteArray) : slices_Equal_string a b = spec_l03Same a b := by
  have key : ∀ n i, slices_Equal_string_l1 a b n i = spec_l03Same_l1 a b n i := by
    intro n
    induction n with
    | zero => intro i; rfl
    | succ n ih => intro i; rw [slices_Equal_string_l1, spec_l03Same_l1, ih]
  unfold slices_Equal_string spec_l03Same
  rw [key]
theorem parts_false {x : ByteArray} (h : (spec_PartsOf x).2 = false) : (spec_PartsOf x).1 = [] := by
  rw [← PartsOf_twin] at h ⊢
  by_cases h1 : x.size ≤ 600
  · by_cases h2 : okB (sbytes x)
    · rw [parts_of h1 h2] at h ⊢
      unfold finW at h ⊢
      cases hc : decide (((fieldsS x).length : Int) > 12) with
      | true => rfl
      | false =>
        rw [hc] at h
        cases h
    · have : ∃ j, j < x.size ∧ ¬ (32 ≤ (byteAt x j).toNat ∧ (byteAt x j).toNat ≤ 126) := by
        refine Classical.byContradiction fun hn => h2 fun b hb => ?_
        obtain ⟨j, hj, rfl⟩ := mem_at hb
        exact Classical.byContradiction fun hh => hn ⟨j, hj, hh⟩
      obtain ⟨j, hj, hbad⟩ := this
      unfold impl_PartsOf
      rw [decide_eq_false (show ¬ (x.size : Int) > 600 by omega)]
      show (impl_PartsOf_l1 x (x.size - 0) 0).1 = []
      rw [impl_parts_bad x hj hbad _ _ (by omega) (Nat.zero_le _)]
  · unfold impl_PartsOf
    rw [decide_eq_true (show (x.size : Int) > 600 by omega)]
    rfl
theorem fin_twin {p0 : List ByteArray} {c : Call} (hg : Dat.good c) (hp : p0.length ≠ 0) : (bif !(slices_Equal_string ((impl_PartsOf (impl_CallLine c)).1) p0) then (C0, false) else (c, true)) = finRC p0 c := by
  unfold finRC
  rw [CallLine_twin hg, PartsOf_twin, Equal_twin]
  cases h : (spec_PartsOf (spec_CallLine c)).2 with
  | true => rfl
  | false =>
    rw [parts_false h, same_len (a := []) (b := p0) (fun e => hp e.symm)]
    rfl
theorem set_N (c : Call) (w : ByteArray) : impl_Call_setField c 78 w = ⟨c.Kind, w, c.To, c.A, c.B, c.Text⟩ := rfl
theorem set_T (c : Call) (w : ByteArray) : impl_Call_setField c 84 w = ⟨c.Kind, c.Name, w, c.A, c.B, c.Text⟩ := rfl
theorem set_A (c : Call) (w : ByteArray) : impl_Call_setField c 65 w = ⟨c.Kind, c.Name, c.To, (impl_ReadDecimal w).1, c.B, c.Text⟩ := rfl
theorem set_B (c : Call) (w : ByteArray) : impl_Call_setField c 66 w = ⟨c.Kind, c.Name, c.To, c.A, (impl_ReadDecimal w).1, c.Text⟩ := rfl
theorem set_X (c : Call) (w : ByteArray) : impl_Call_setField c 88 w = ⟨c.Kind, c.Name, c.To, c.A, c.B, (impl_Unhex w).1⟩ := rfl
theorem num_in {p0 : List ByteArray} {i : Nat} (h : i < p0.length) : spec_l38Num p0 (i : Int) = (spec_ReadDecimal (nth p0 i)).1 := by
  unfold spec_l38Num
  rw [decide_eq_false (show ¬ (i : Int) ≥ (p0.length : Int) by omega)]
  rfl
theorem uses_K {K : Int} (h : 0 ≤ K ∧ K ≤ 22) : (impl_fieldsOf K).size = (spec_l38Uses K).size ∧ ∀ i, i < (spec_l38Uses K).size → relB (byteAt (impl_fieldsOf K) i) (byteAt (spec_l38Uses K) i) = true := by
  rcases Int.lt_or_le 0 K with h1 | h1
  · obtain ⟨m, hm⟩ := of22 (k := K) (by omega)
    rw [hm]
    refine ⟨(uses_22 m).1, fun i hi => ?_⟩
    have h3 := spec_l38Uses_size ((m.val : Int) + 1)
    exact (uses_22 m).2 ⟨i, by omega⟩ hi
  · obtain rfl : K = 0 := by omega
    have hz : (spec_l38Uses 0).size = 0 := by decide +kernel
    exact ⟨by rw [hz]; decide +kernel, fun i hi => by omega⟩
theorem read_twin {p0 : List ByteArray} {K : Int} (hK : IntKind.i64.wrap (1 + slices_Index_string gl1 (nth p0 0)) = K) (hk : 0 ≤ K ∧ K ≤ 22) (hg : Dat.good p0) (hlen : p0.length = (spec_l38Uses K).size + 1) (i0 : Nat) :
    ∀ n i a b c d e, i + n = (spec_l38Uses K).size → Dat.good (Call.mk K a b c d e) → impl_ReadCall_l1 p0 n K a b c d e i = spec_ReadCall_l2 p0 K i0 (kC p0 K) n a b c d e i := by
  have hu := spec_l38Uses_size K
  intro n
  induction n with
  | zero =>
    intro i a b c d e _ hgc
    exact fin_twin hgc (by omega)
  | succ n ih =>
    intro i a b c d e h hgc
    have hgs := fun f : Int => impl_Call_setField_good (p0 := Call.mk K a b c d e) (p1 := f) (p2 := nth p0 (i + 1)) hgc (good_nths hg (i + 1))
    have hi := (uses_K hk).2 i (by omega)
    rw [impl_ReadCall_l1, spec_ReadCall_l2, hK, IntWalk.i64_in ((i : Int) + 1) (by omega), decide_eq_true (show (i : Int) < ((spec_l38Uses K).size : Int) by omega), decide_eq_true (show (i : Int) + 1 < (p0.length : Int) by omega), num_in (show i + 1 < p0.length by omega)]
    generalize byteAt (impl_fieldsOf K) i = f at hi ⊢
    generalize byteAt (spec_l38Uses K) i = u at hi ⊢
    simp only [relB, Bool.or_eq_true, Bool.and_eq_true, beq_iff_eq] at hi
    rcases hi with (((⟨rfl, rfl⟩ | ⟨rfl, rfl⟩) | ⟨rfl, rfl⟩) | ⟨rfl, rfl⟩) | ⟨rfl, rfl⟩
    · have := hgs 78
      rw [set_N] at this
      exact ih (i + 1) _ _ _ _ _ (by omega) this
    · have := hgs 84
      rw [set_T] at this
      exact ih (i + 1) _ _ _ _ _ (by omega) this
    · have := hgs 65
      rw [set_A] at this
      rw [show ((UInt8.toNat 65 : Nat) : Int) = 65 from rfl, set_A, ← ReadDecimal_twin]
      exact ih (i + 1) _ _ _ _ _ (by omega) this
    · have := hgs 66
      rw [set_B] at this
      rw [show ((UInt8.toNat 66 : Nat) : Int) = 66 from rfl, set_B, ← ReadDecimal_twin]
      exact ih (i + 1) _ _ _ _ _ (by omega) this
    · have := hgs 88
      rw [set_X] at this
      rw [show ((UInt8.toNat 88 : Nat) : Int) = 88 from rfl, set_X, ← Unhex_twin]
      exact ih (i + 1) _ _ _ _ _ (by omega) this
theorem good_C0 {K : Int} (hk : 0 ≤ K ∧ K ≤ 22) : Dat.good (Call.mk K ⟨#[]⟩ ⟨#[]⟩ 0 0 ⟨#[]⟩) := ⟨by unfold Dat.good; simp [instDatInt]; unfold I64; omega, Nat.zero_le _, Nat.zero_le _, gi 0, gi 0, Nat.zero_le _⟩
theorem ReadCall_twin {p0 : List ByteArray} (hg : Dat.good p0) (hl : p0.length ≤ 1048576) : impl_ReadCall p0 = spec_ReadCall p0 := by
  unfold impl_ReadCall spec_ReadCall
  by_cases h0 : p0.length = 0
  · rw [decide_eq_true (show (p0.length : Int) = 0 by omega)]
    rfl
  · rw [decide_eq_false (show ¬ (p0.length : Int) = 0 by omega), spec_l1_kind, spec_l1_zero]
    obtain ⟨hk1, hk2⟩ := kind_twin (nth p0 0)
    rw [show 23 - 1 = 22 from rfl, ← hk1]
    simp only [cond_false]
    generalize kindL (nth p0 0) 22 0 1 = K at hk1 hk2 ⊢
    rw [(uses_K hk2).1, IntWalk.i64_in ((p0.length : Int) - 1) (by omega)]
    by_cases hlen : p0.length = (spec_l38Uses K).size + 1
    · rw [decide_eq_true (show ((spec_l38Uses K).size : Int) = (p0.length : Int) - 1 by omega)]
      exact read_twin hk1.symm hk2 hg hlen _ _ _ _ _ _ _ _ (by omega) (good_C0 hk2)
    · rw [decide_eq_false (show ¬ ((spec_l38Uses K).size : Int) = (p0.length : Int) - 1 by omega)]
      obtain ⟨x, hx⟩ := spec_l2_any p0 K (1 + 22) (kC p0 K) ((spec_l38Uses K).size - 0) ⟨#[]⟩ ⟨#[]⟩ 0 0 ⟨#[]⟩ 0
      rw [hx]
      unfold kC
      rw [finC_len h0 hlen]
      rfl

/-! ## A call comes back from its line -/
theorem ReadDecimal_back {a : Int} (h : spec_l38Fits a = true) : (impl_ReadDecimal (spec_Decimal a)).1 = a := by
  have hs := (dec_clean h).2
  obtain ⟨u, rfl, hu⟩ := fits_nat h
  have hI : I64 (u : Int) := by unfold I64; omega
  have e : sbytes (spec_Decimal (u : Int)) = Lib.decDigits u := by rw [Decimal_twin hI, dec_list]
  rw [ReadDecimal_twin, spec_dec _ hs, e, decFrom_digits]
  show (finD (spec_Decimal (u : Int)) u).1 = _
  unfold finD
  rw [decide_eq_false (show ¬ (u : Int) > 1000000000 by omega), Decimal_twin hI, decide_eq_true rfl]
  rfl
theorem bstr_sbytes (p0 : ByteArray) : bstr (sbytes p0) = p0 := rfl
theorem Unhex_back {t : ByteArray} (h : t.size ≤ 64) : (impl_Unhex (hexText t)).1 = t := by
  unfold hexText
  by_cases e : (spec_Hex t).1 = ⟨#[]⟩
  · have ht : t.size = 0 := by
      rw [spec_Hex_is (by omega)] at e
      have := hexEnc_size (sbytes t)
      rw [e, sbytes_length] at this
      have h0 : (⟨#[]⟩ : ByteArray).size = 0 := rfl
      omega
    rw [decide_eq_true e]
    show (impl_Unhex ⟨#[45]⟩).1 = t
    rw [impl_unhex_bad ⟨#[45]⟩ fun raw _ e2 => ?_]
    · show (⟨#[]⟩ : ByteArray) = t
      obtain ⟨⟨l⟩⟩ := t
      cases l with
      | nil => rfl
      | cons a r => exact absurd ht (by show ¬ (r.length + 1 = 0); omega)
    · have := congrArg ByteArray.size e2
      rw [hexEnc_size] at this
      have h1 : (⟨#[45]⟩ : ByteArray).size = 1 := rfl
      omega
  · rw [decide_eq_false e]
    show (impl_Unhex (spec_Hex t).1).1 = t
    rw [spec_Hex_is (by omega), impl_unhex_good _ (by rw [sbytes_length]; omega)]
    exact bstr_sbytes t
theorem nth_lw (c : Call) (x : ByteArray) {n j : Nat} (h : j < n) : nth (x :: lw c 0 n) (j + 1) = ftx c (byteAt (spec_l38Uses c.Kind) j) := by
  have hl : j < (lw c 0 n).length := by unfold lw; rw [List.length_map, List.length_range']; exact h
  have e : nth (x :: lw c 0 n) (j + 1) = (lw c 0 n)[j] := by simp [nth, List.getD_eq_getElem?_getD, hl]
  rw [e]
  simp [lw]
theorem told_N (N T X : ByteArray) (A B : Int) : ∀ n : Fin 22, (∃ j, j < (spec_l38Uses ((n.val : Int) + 1)).size ∧ byteAt (spec_l38Uses ((n.val : Int) + 1)) j = 110) ∨ (spec_Told ⟨(n.val : Int) + 1, N, T, A, B, X⟩).Name = ⟨#[]⟩
  | ⟨0, _⟩ => .inl ⟨0, show 0 < (spec_l38Uses 1).size ∧ byteAt (spec_l38Uses 1) 0 = 110 from by decide +kernel⟩
  | ⟨1, _⟩ => .inl ⟨0, show 0 < (spec_l38Uses 2).size ∧ byteAt (spec_l38Uses 2) 0 = 110 from by decide +kernel⟩
  | ⟨2, _⟩ => .inl ⟨0, show 0 < (spec_l38Uses 3).size ∧ byteAt (spec_l38Uses 3) 0 = 110 from by decide +kernel⟩
  | ⟨3, _⟩ => .inl ⟨0, show 0 < (spec_l38Uses 4).size ∧ byteAt (spec_l38Uses 4) 0 = 110 from by decide +kernel⟩
  | ⟨4, _⟩ => .inr (by kernel_rfl)
  | ⟨5, _⟩ => .inl ⟨0, show 0 < (spec_l38Uses 6).size ∧ byteAt (spec_l38Uses 6) 0 = 110 from by decide +kernel⟩
  | ⟨6, _⟩ => .inl ⟨0, show 0 < (spec_l38Uses 7).size ∧ byteAt (spec_l38Uses 7) 0 = 110 from by decide +kernel⟩
  | ⟨7, _⟩ => .inl ⟨0, show 0 < (spec_l38Uses 8).size ∧ byteAt (spec_l38Uses 8) 0 = 110 from by decide +kernel⟩
  | ⟨8, _⟩ => .inr (by kernel_rfl)
  | ⟨9, _⟩ => .inr (by kernel_rfl)
  | ⟨10, _⟩ => .inr (by kernel_rfl)
  | ⟨11, _⟩ => .inr (by kernel_rfl)
  | ⟨12, _⟩ => .inr (by kernel_rfl)
  | ⟨13, _⟩ => .inr (by kernel_rfl)
  | ⟨14, _⟩ => .inr (by kernel_rfl)
  | ⟨15, _⟩ => .inr (by kernel_rfl)
  | ⟨16, _⟩ => .inr (by kernel_rfl)
  | ⟨17, _⟩ => .inr (by kernel_rfl)
  | ⟨18, _⟩ => .inr (by kernel_rfl)
  | ⟨19, _⟩ => .inr (by kernel_rfl)
  | ⟨20, _⟩ => .inr (by kernel_rfl)
  | ⟨21, _⟩ => .inr (by kernel_rfl)
  | ⟨n + 22, h⟩ => by omega
theorem told_T (N T X : ByteArray) (A B : Int) : ∀ n : Fin 22, (∃ j, j < (spec_l38Uses ((n.val : Int) + 1)).size ∧ byteAt (spec_l38Uses ((n.val : Int) + 1)) j = 116) ∨ (spec_Told ⟨(n.val : Int) + 1, N, T, A, B, X⟩).To = ⟨#[]⟩
  | ⟨0, _⟩ => .inr (by kernel_rfl)
  | ⟨1, _⟩ => .inl ⟨1, show 1 < (spec_l38Uses 2).size ∧ byteAt (spec_l38Uses 2) 1 = 116 from by decide +kernel⟩
  | ⟨2, _⟩ => .inr (by kernel_rfl)
  | ⟨3, _⟩ => .inl ⟨1, show 1 < (spec_l38Uses 4).size ∧ byteAt (spec_l38Uses 4) 1 = 116 from by decide +kernel⟩
  | ⟨4, _⟩ => .inr (by kernel_rfl)
  | ⟨5, _⟩ => .inr (by kernel_rfl)
  | ⟨6, _⟩ => .inr (by kernel_rfl)
  | ⟨7, _⟩ => .inr (by kernel_rfl)
  | ⟨8, _⟩ => .inr (by kernel_rfl)
  | ⟨9, _⟩ => .inr (by kernel_rfl)
  | ⟨10, _⟩ => .inr (by kernel_rfl)
  | ⟨11, _⟩ => .inr (by kernel_rfl)
  | ⟨12, _⟩ => .inr (by kernel_rfl)
  | ⟨13, _⟩ => .inr (by kernel_rfl)
  | ⟨14, _⟩ => .inr (by kernel_rfl)
  | ⟨15, _⟩ => .inr (by kernel_rfl)
  | ⟨16, _⟩ => .inr (by kernel_rfl)
  | ⟨17, _⟩ => .inr (by kernel_rfl)
  | ⟨18, _⟩ => .inr (by kernel_rfl)
  | ⟨19, _⟩ => .inr (by kernel_rfl)
  | ⟨20, _⟩ => .inr (by kernel_rfl)
  | ⟨21, _⟩ => .inr (by kernel_rfl)
  | ⟨n + 22, h⟩ => by omega
theorem told_a (N T X : ByteArray) (A B : Int) : ∀ n : Fin 22, (∃ j, j < (spec_l38Uses ((n.val : Int) + 1)).size ∧ byteAt (spec_l38Uses ((n.val : Int) + 1)) j = 97) ∨ (spec_Told ⟨(n.val : Int) + 1, N, T, A, B, X⟩).A = 0
  | ⟨0, _⟩ => .inr (by kernel_rfl)
  | ⟨1, _⟩ => .inr (by kernel_rfl)
  | ⟨2, _⟩ => .inr (by kernel_rfl)
  | ⟨3, _⟩ => .inr (by kernel_rfl)
  | ⟨4, _⟩ => .inr (by kernel_rfl)
  | ⟨5, _⟩ => .inl ⟨1, show 1 < (spec_l38Uses 6).size ∧ byteAt (spec_l38Uses 6) 1 = 97 from by decide +kernel⟩
  | ⟨6, _⟩ => .inl ⟨1, show 1 < (spec_l38Uses 7).size ∧ byteAt (spec_l38Uses 7) 1 = 97 from by decide +kernel⟩
  | ⟨7, _⟩ => .inl ⟨1, show 1 < (spec_l38Uses 8).size ∧ byteAt (spec_l38Uses 8) 1 = 97 from by decide +kernel⟩
  | ⟨8, _⟩ => .inr (by kernel_rfl)
  | ⟨9, _⟩ => .inl ⟨0, show 0 < (spec_l38Uses 10).size ∧ byteAt (spec_l38Uses 10) 0 = 97 from by decide +kernel⟩
  | ⟨10, _⟩ => .inl ⟨0, show 0 < (spec_l38Uses 11).size ∧ byteAt (spec_l38Uses 11) 0 = 97 from by decide +kernel⟩
  | ⟨11, _⟩ => .inr (by kernel_rfl)
  | ⟨12, _⟩ => .inl ⟨0, show 0 < (spec_l38Uses 13).size ∧ byteAt (spec_l38Uses 13) 0 = 97 from by decide +kernel⟩
  | ⟨13, _⟩ => .inl ⟨0, show 0 < (spec_l38Uses 14).size ∧ byteAt (spec_l38Uses 14) 0 = 97 from by decide +kernel⟩
  | ⟨14, _⟩ => .inr (by kernel_rfl)
  | ⟨15, _⟩ => .inl ⟨0, show 0 < (spec_l38Uses 16).size ∧ byteAt (spec_l38Uses 16) 0 = 97 from by decide +kernel⟩
  | ⟨16, _⟩ => .inr (by kernel_rfl)
  | ⟨17, _⟩ => .inl ⟨0, show 0 < (spec_l38Uses 18).size ∧ byteAt (spec_l38Uses 18) 0 = 97 from by decide +kernel⟩
  | ⟨18, _⟩ => .inl ⟨0, show 0 < (spec_l38Uses 19).size ∧ byteAt (spec_l38Uses 19) 0 = 97 from by decide +kernel⟩
  | ⟨19, _⟩ => .inl ⟨0, show 0 < (spec_l38Uses 20).size ∧ byteAt (spec_l38Uses 20) 0 = 97 from by decide +kernel⟩
  | ⟨20, _⟩ => .inl ⟨0, show 0 < (spec_l38Uses 21).size ∧ byteAt (spec_l38Uses 21) 0 = 97 from by decide +kernel⟩
  | ⟨21, _⟩ => .inr (by kernel_rfl)
  | ⟨n + 22, h⟩ => by omega
theorem told_b (N T X : ByteArray) (A B : Int) : ∀ n : Fin 22, (∃ j, j < (spec_l38Uses ((n.val : Int) + 1)).size ∧ byteAt (spec_l38Uses ((n.val : Int) + 1)) j = 98) ∨ (spec_Told ⟨(n.val : Int) + 1, N, T, A, B, X⟩).B = 0
  | ⟨0, _⟩ => .inr (by kernel_rfl)
  | ⟨1, _⟩ => .inr (by kernel_rfl)
  | ⟨2, _⟩ => .inr (by kernel_rfl)
  | ⟨3, _⟩ => .inr (by kernel_rfl)
  | ⟨4, _⟩ => .inr (by kernel_rfl)
  | ⟨5, _⟩ => .inl ⟨2, show 2 < (spec_l38Uses 6).size ∧ byteAt (spec_l38Uses 6) 2 = 98 from by decide +kernel⟩
  | ⟨6, _⟩ => .inr (by kernel_rfl)
  | ⟨7, _⟩ => .inr (by kernel_rfl)
  | ⟨8, _⟩ => .inr (by kernel_rfl)
  | ⟨9, _⟩ => .inr (by kernel_rfl)
  | ⟨10, _⟩ => .inr (by kernel_rfl)
  | ⟨11, _⟩ => .inr (by kernel_rfl)
  | ⟨12, _⟩ => .inr (by kernel_rfl)
  | ⟨13, _⟩ => .inr (by kernel_rfl)
  | ⟨14, _⟩ => .inr (by kernel_rfl)
  | ⟨15, _⟩ => .inl ⟨1, show 1 < (spec_l38Uses 16).size ∧ byteAt (spec_l38Uses 16) 1 = 98 from by decide +kernel⟩
  | ⟨16, _⟩ => .inr (by kernel_rfl)
  | ⟨17, _⟩ => .inr (by kernel_rfl)
  | ⟨18, _⟩ => .inr (by kernel_rfl)
  | ⟨19, _⟩ => .inr (by kernel_rfl)
  | ⟨20, _⟩ => .inr (by kernel_rfl)
  | ⟨21, _⟩ => .inr (by kernel_rfl)
  | ⟨n + 22, h⟩ => by omega
theorem told_X (N T X : ByteArray) (A B : Int) : ∀ n : Fin 22, (∃ j, j < (spec_l38Uses ((n.val : Int) + 1)).size ∧ byteAt (spec_l38Uses ((n.val : Int) + 1)) j = 120) ∨ (spec_Told ⟨(n.val : Int) + 1, N, T, A, B, X⟩).Text = ⟨#[]⟩
  | ⟨0, _⟩ => .inr (by kernel_rfl)
  | ⟨1, _⟩ => .inr (by kernel_rfl)
  | ⟨2, _⟩ => .inr (by kernel_rfl)
  | ⟨3, _⟩ => .inr (by kernel_rfl)
  | ⟨4, _⟩ => .inr (by kernel_rfl)
  | ⟨5, _⟩ => .inr (by kernel_rfl)
  | ⟨6, _⟩ => .inl ⟨2, show 2 < (spec_l38Uses 7).size ∧ byteAt (spec_l38Uses 7) 2 = 120 from by decide +kernel⟩
  | ⟨7, _⟩ => .inr (by kernel_rfl)
  | ⟨8, _⟩ => .inr (by kernel_rfl)
  | ⟨9, _⟩ => .inl ⟨1, show 1 < (spec_l38Uses 10).size ∧ byteAt (spec_l38Uses 10) 1 = 120 from by decide +kernel⟩
  | ⟨10, _⟩ => .inr (by kernel_rfl)
  | ⟨11, _⟩ => .inr (by kernel_rfl)
  | ⟨12, _⟩ => .inr (by kernel_rfl)
  | ⟨13, _⟩ => .inr (by kernel_rfl)
  | ⟨14, _⟩ => .inr (by kernel_rfl)
  | ⟨15, _⟩ => .inr (by kernel_rfl)
  | ⟨16, _⟩ => .inr (by kernel_rfl)
  | ⟨17, _⟩ => .inr (by kernel_rfl)
  | ⟨18, _⟩ => .inr (by kernel_rfl)
  | ⟨19, _⟩ => .inl ⟨1, show 1 < (spec_l38Uses 20).size ∧ byteAt (spec_l38Uses 20) 1 = 120 from by decide +kernel⟩
  | ⟨20, _⟩ => .inr (by kernel_rfl)
  | ⟨21, _⟩ => .inl ⟨0, show 0 < (spec_l38Uses 22).size ∧ byteAt (spec_l38Uses 22) 0 = 120 from by decide +kernel⟩
  | ⟨n + 22, h⟩ => by omega
/-- A field of what is being read: as it was told, or its letter has not come yet. -/
def fo {α : Type} (c : Call) (x y z : α) (u : UInt8) (i : Nat) : Prop := x = y ∨ (x = z ∧ ∀ j, j < i → byteAt (spec_l38Uses c.Kind) j ≠ u)
theorem fo.keep {α : Type} {c : Call} {x y z : α} {u : UInt8} {i : Nat} (h : fo c x y z u i) (hi : byteAt (spec_l38Uses c.Kind) i ≠ u) : fo c x y z u (i + 1) := by
  rcases h with h | ⟨h1, h2⟩
  · exact .inl h
  · refine .inr ⟨h1, fun j hj => ?_⟩
    by_cases e : j = i
    · rw [e]
      exact hi
    · exact h2 j (by omega)
structure Rd (c d : Call) (i : Nat) : Prop where
  k : d.Kind = c.Kind
  n : fo c d.Name c.Name ⟨#[]⟩ 110 i
  t : fo c d.To c.To ⟨#[]⟩ 116 i
  a : fo c d.A c.A 0 97 i
  b : fo c d.B c.B 0 98 i
  x : fo c d.Text c.Text ⟨#[]⟩ 120 i
theorem fo.fin {α : Type} {c : Call} {x y z : α} {u : UInt8} (h : fo c x y z u (spec_l38Uses c.Kind).size) (hd : (∃ j, j < (spec_l38Uses c.Kind).size ∧ byteAt (spec_l38Uses c.Kind) j = u) ∨ y = z) : x = y := by
  rcases h with h | ⟨h1, h2⟩
  · exact h
  · rcases hd with ⟨j, hj, e⟩ | e
    · exact absurd e (h2 j hj)
    · rw [h1, e]
theorem Rd.fin {c d : Call} (hk : 1 ≤ c.Kind ∧ c.Kind ≤ 22) (ht : spec_Told c = c) (h : Rd c d (spec_l38Uses c.Kind).size) : d = c := by
  obtain ⟨K, N, T, A, B, X⟩ := c
  obtain ⟨m, hm⟩ := of22 hk
  simp only at hm
  subst hm
  have e1 := h.n.fin (by have := told_N N T X A B m; rw [ht] at this; exact this)
  have e2 := h.t.fin (by have := told_T N T X A B m; rw [ht] at this; exact this)
  have e3 := h.a.fin (by have := told_a N T X A B m; rw [ht] at this; exact this)
  have e4 := h.b.fin (by have := told_b N T X A B m; rw [ht] at this; exact this)
  have e5 := h.x.fin (by have := told_X N T X A B m; rw [ht] at this; exact this)
  have e0 := h.k
  obtain ⟨K', N', T', A', B', X'⟩ := d
  simp only at e0 e1 e2 e3 e4 e5
  subst e0 e1 e2 e3 e4 e5
  rfl
theorem same_refl (ws : List ByteArray) : slices_Equal_string ws ws = true := by
  have key : ∀ n i, slices_Equal_string_l1 ws ws n i = true := by
    intro n
    induction n with
    | zero => intro i; rfl
    | succ n ih =>
      intro i
      rw [slices_Equal_string_l1, decide_eq_true rfl, ih]
      rfl
  unfold slices_Equal_string
  rw [decide_eq_true rfl]
  exact key _ _
theorem back_l1 {c : Call} (hk : 1 ≤ c.Kind ∧ c.Kind ≤ 22) (ht : spec_Told c = c) (hx : c.Text.size ≤ 64) (hA : spec_l38Fits c.A = true) (hB : spec_l38Fits c.B = true)
    (ws : List ByteArray) (hws : ws = spec_CallName c.Kind :: lw c 0 (spec_l38Uses c.Kind).size) (hp : (impl_PartsOf (impl_CallLine c)).1 = ws) (hK : IntKind.i64.wrap (1 + slices_Index_string gl1 (nth ws 0)) = c.Kind) :
    ∀ n i (d : Call), i + n = (spec_l38Uses c.Kind).size → Rd c d i → impl_ReadCall_l1 ws n d.Kind d.Name d.To d.A d.B d.Text i = (c, true) := by
  intro n
  induction n with
  | zero =>
    intro i d h hd
    have : i = (spec_l38Uses c.Kind).size := by omega
    subst this
    obtain rfl := hd.fin hk ht
    show (bif !(slices_Equal_string ((impl_PartsOf (impl_CallLine d)).1) ws) then (C0, false) else (d, true)) = (d, true)
    rw [hp, same_refl]
    rfl
  | succ n ih =>
    intro i d h hd
    have hi := (uses_K (K := c.Kind) (by omega)).2 i (by omega)
    have hw : nth ws (i + 1) = ftx c (byteAt (spec_l38Uses c.Kind) i) := by rw [hws]; exact nth_lw c _ (by omega)
    rw [impl_ReadCall_l1, hK, hw]
    have key : ∀ u f : UInt8, byteAt (spec_l38Uses c.Kind) i = u → byteAt (impl_fieldsOf c.Kind) i = f → Rd c (impl_Call_setField d (f.toNat : Int) (ftx c u)) (i + 1) → impl_ReadCall_l1 ws n (impl_Call_setField (Call.mk d.Kind d.Name d.To d.A d.B d.Text) ((byteAt (impl_fieldsOf c.Kind) i).toNat : Int) (ftx c (byteAt (spec_l38Uses c.Kind) i))).Kind (impl_Call_setField (Call.mk d.Kind d.Name d.To d.A d.B d.Text) ((byteAt (impl_fieldsOf c.Kind) i).toNat : Int) (ftx c (byteAt (spec_l38Uses c.Kind) i))).Name (impl_Call_setField (Call.mk d.Kind d.Name d.To d.A d.B d.Text) ((byteAt (impl_fieldsOf c.Kind) i).toNat : Int) (ftx c (byteAt (spec_l38Uses c.Kind) i))).To (impl_Call_setField (Call.mk d.Kind d.Name d.To d.A d.B d.Text) ((byteAt (impl_fieldsOf c.Kind) i).toNat : Int) (ftx c (byteAt (spec_l38Uses c.Kind) i))).A (impl_Call_setField (Call.mk d.Kind d.Name d.To d.A d.B d.Text) ((byteAt (impl_fieldsOf c.Kind) i).toNat : Int) (ftx c (byteAt (spec_l38Uses c.Kind) i))).B (impl_Call_setField (Call.mk d.Kind d.Name d.To d.A d.B d.Text) ((byteAt (impl_fieldsOf c.Kind) i).toNat : Int) (ftx c (byteAt (spec_l38Uses c.Kind) i))).Text (i + 1) = (c, true) := fun u f hu hf hr => by
      rw [hu, hf]
      exact ih (i + 1) _ (by omega) hr
    refine key _ _ rfl rfl ?_
    have ne : ∀ v : UInt8, byteAt (spec_l38Uses c.Kind) i ≠ v → ∀ {α : Type} {x y z : α}, fo c x y z v i → fo c x y z v (i + 1) := fun v hv _ _ _ _ hf => hf.keep hv
    revert ne
    generalize byteAt (impl_fieldsOf c.Kind) i = f at hi ⊢
    generalize byteAt (spec_l38Uses c.Kind) i = u at hi ⊢
    intro ne
    simp only [relB, Bool.or_eq_true, Bool.and_eq_true, beq_iff_eq] at hi
    rcases hi with (((⟨rfl, rfl⟩ | ⟨rfl, rfl⟩) | ⟨rfl, rfl⟩) | ⟨rfl, rfl⟩) | ⟨rfl, rfl⟩
    · rw [show ((UInt8.toNat 78 : Nat) : Int) = 78 from rfl, set_N]
      exact ⟨hd.k, .inl rfl, ne 116 (by decide) hd.t, ne 97 (by decide) hd.a, ne 98 (by decide) hd.b, ne 120 (by decide) hd.x⟩
    · rw [show ((UInt8.toNat 84 : Nat) : Int) = 84 from rfl, set_T]
      exact ⟨hd.k, ne 110 (by decide) hd.n, .inl rfl, ne 97 (by decide) hd.a, ne 98 (by decide) hd.b, ne 120 (by decide) hd.x⟩
    · rw [show ((UInt8.toNat 65 : Nat) : Int) = 65 from rfl, set_A]
      exact ⟨hd.k, ne 110 (by decide) hd.n, ne 116 (by decide) hd.t, .inl (ReadDecimal_back hA), ne 98 (by decide) hd.b, ne 120 (by decide) hd.x⟩
    · rw [show ((UInt8.toNat 66 : Nat) : Int) = 66 from rfl, set_B]
      exact ⟨hd.k, ne 110 (by decide) hd.n, ne 116 (by decide) hd.t, ne 97 (by decide) hd.a, .inl (ReadDecimal_back hB), ne 120 (by decide) hd.x⟩
    · rw [show ((UInt8.toNat 88 : Nat) : Int) = 88 from rfl, set_X]
      exact ⟨hd.k, ne 110 (by decide) hd.n, ne 116 (by decide) hd.t, ne 97 (by decide) hd.a, ne 98 (by decide) hd.b, .inl (Unhex_back hx)⟩
theorem ReadBack {c : Call} (hg : Dat.good c) (h : spec_CallLine c ≠ ⟨#[]⟩) : (impl_PartsOf (impl_CallLine c)).2 = true ∧ impl_ReadCall (impl_PartsOf (impl_CallLine c)).1 = (c, true) ∧ nth (impl_PartsOf (impl_CallLine c)).1 0 = impl_CallName c.Kind ∧ 0 < (impl_PartsOf (impl_CallLine c)).1.length := by
  obtain ⟨hk, hp, hok, ht, hA, hB⟩ := CallLine_words c h
  obtain ⟨_, _, _, hx⟩ := spec_CallOk_t hok
  have e : impl_PartsOf (impl_CallLine c) = (spec_CallName c.Kind :: lw c 0 (spec_l38Uses c.Kind).size, true) := by
    rw [CallLine_twin hg, PartsOf_twin, hp]
  have hu := spec_l38Uses_size c.Kind
  have hK : IntKind.i64.wrap (1 + slices_Index_string gl1 (spec_CallName c.Kind)) = c.Kind := by
    obtain ⟨m, hm⟩ := of22 hk
    rw [hm, names_22 m]
    exact (kind_22 m).2
  refine ⟨by rw [e], ?_, by rw [e]; exact (CallName_in hk).symm, by rw [e]; exact Nat.succ_pos _⟩
  have hp1 : (impl_PartsOf (impl_CallLine c)).1 = spec_CallName c.Kind :: lw c 0 (spec_l38Uses c.Kind).size := by rw [e]
  have hlen : (spec_CallName c.Kind :: lw c 0 (spec_l38Uses c.Kind).size).length = (spec_l38Uses c.Kind).size + 1 := by
    unfold lw
    rw [List.length_cons, List.length_map, List.length_range']
  rw [hp1]
  unfold impl_ReadCall
  rw [show nth (spec_CallName c.Kind :: lw c 0 (spec_l38Uses c.Kind).size) 0 = spec_CallName c.Kind from rfl, hK, hlen, decide_eq_false (show ¬ (((spec_l38Uses c.Kind).size + 1 : Nat) : Int) = 0 by omega), (uses_K (K := c.Kind) (by omega)).1, IntWalk.i64_in _ (by omega), decide_eq_true (show (((spec_l38Uses c.Kind).size : Nat) : Int) = (((spec_l38Uses c.Kind).size + 1 : Nat) : Int) - 1 by omega)]
  exact back_l1 hk ht hx hA hB _ rfl hp1 hK ((spec_l38Uses c.Kind).size - 0) 0 (Call.mk c.Kind ⟨#[]⟩ ⟨#[]⟩ 0 0 ⟨#[]⟩) (by omega) ⟨rfl, .inr ⟨rfl, fun j hj => by omega⟩, .inr ⟨rfl, fun j hj => by omega⟩, .inr ⟨rfl, fun j hj => by omega⟩, .inr ⟨rfl, fun j hj => by omega⟩, .inr ⟨rfl, fun j hj => by omega⟩⟩
/-! ## A line is told -/
theorem line_some {c : Call} (hn : ∀ i, i < (spec_l38Uses c.Kind).size → (byteAt (spec_l38Uses c.Kind) i = 110 → spec_NameOk c.Name = true) ∧ (byteAt (spec_l38Uses c.Kind) i = 116 → spec_NameOk c.To = true)) : ∀ n i v, i + n = (spec_l38Uses c.Kind).size → v.size ≠ 0 → (spec_CallLine_l1 c n v i).size ≠ 0 := by
  intro n
  induction n with
  | zero => intro i v _ h; exact h
  | succ n ih =>
    intro i v h hv
    have hh : ∀ w : ByteArray, ((v ++ (⟨#[32]⟩ : ByteArray)) ++ w).size ≠ 0 := fun w => by rw [sp_size]; omega
    obtain ⟨h1, h2⟩ := hn i (by omega)
    rw [spec_CallLine_l1]
    cases e1 : decide (((byteAt (spec_l38Uses c.Kind) i).toNat : Int) = 110) with
    | true =>
      have : byteAt (spec_l38Uses c.Kind) i = 110 := UInt8.toNat_inj.1 (by have := of_decide_eq_true e1; show _ = 110; omega)
      rw [h1 this]
      exact ih _ _ (by omega) (hh _)
    | false =>
      cases e2 : decide (((byteAt (spec_l38Uses c.Kind) i).toNat : Int) = 116) with
      | true =>
        have : byteAt (spec_l38Uses c.Kind) i = 116 := UInt8.toNat_inj.1 (by have := of_decide_eq_true e2; show _ = 116; omega)
        rw [h2 this]
        exact ih _ _ (by omega) (hh _)
      | false =>
        refine ih _ _ (by omega) ?_
        cases decide (((byteAt (spec_l38Uses c.Kind) i).toNat : Int) = 97)
        · cases decide (((byteAt (spec_l38Uses c.Kind) i).toNat : Int) = 98)
          · exact hh _
          · exact hh _
        · exact hh _
theorem fitsB {b : Bool} {x y : Int} (hx : spec_l38Fits x = true) (hy : spec_l38Fits y = true) : spec_l38Fits (bif b then x else y) = true := by cases b <;> assumption
theorem fits_Told {c : Call} (hA : spec_l38Fits c.A = true) (hB : spec_l38Fits c.B = true) : spec_l38Fits (spec_Told c).A = true ∧ spec_l38Fits (spec_Told c).B = true := by
  have h0 : spec_l38Fits 0 = true := rfl
  unfold spec_Told
  constructor
  · show spec_l38Fits (bif _ then _ else _) = true
    repeat' (first | assumption | apply fitsB)
  · show spec_l38Fits (bif _ then _ else _) = true
    repeat' (first | assumption | apply fitsB)
def cxy (k A B : Int) : Call := Call.mk k ⟨#[120]⟩ ⟨#[121]⟩ A B ⟨#[97, 98]⟩
def named (k A B : Int) (i : Nat) : Bool := (bif byteAt (spec_l38Uses k) i == 110 then spec_NameOk (spec_Told (cxy k A B)).Name else true) && (bif byteAt (spec_l38Uses k) i == 116 then spec_NameOk (spec_Told (cxy k A B)).To else true)
theorem xy_22 (A B : Int) : ∀ n : Fin 22, (spec_CallOk (spec_Told (cxy ((n.val : Int) + 1) A B)) && (named ((n.val : Int) + 1) A B 0 && (named ((n.val : Int) + 1) A B 1 && named ((n.val : Int) + 1) A B 2))) = true ∧ spec_Told (spec_Told (cxy ((n.val : Int) + 1) A B)) = spec_Told (cxy ((n.val : Int) + 1) A B) ∧ (spec_Told (cxy ((n.val : Int) + 1) A B)).Kind = (n.val : Int) + 1
  | ⟨0, _⟩ => ⟨by kernel_rfl, by kernel_rfl, by kernel_rfl⟩
  | ⟨1, _⟩ => ⟨by kernel_rfl, by kernel_rfl, by kernel_rfl⟩
  | ⟨2, _⟩ => ⟨by kernel_rfl, by kernel_rfl, by kernel_rfl⟩
  | ⟨3, _⟩ => ⟨by kernel_rfl, by kernel_rfl, by kernel_rfl⟩
  | ⟨4, _⟩ => ⟨by kernel_rfl, by kernel_rfl, by kernel_rfl⟩
  | ⟨5, _⟩ => ⟨by kernel_rfl, by kernel_rfl, by kernel_rfl⟩
  | ⟨6, _⟩ => ⟨by kernel_rfl, by kernel_rfl, by kernel_rfl⟩
  | ⟨7, _⟩ => ⟨by kernel_rfl, by kernel_rfl, by kernel_rfl⟩
  | ⟨8, _⟩ => ⟨by kernel_rfl, by kernel_rfl, by kernel_rfl⟩
  | ⟨9, _⟩ => ⟨by kernel_rfl, by kernel_rfl, by kernel_rfl⟩
  | ⟨10, _⟩ => ⟨by kernel_rfl, by kernel_rfl, by kernel_rfl⟩
  | ⟨11, _⟩ => ⟨by kernel_rfl, by kernel_rfl, by kernel_rfl⟩
  | ⟨12, _⟩ => ⟨by kernel_rfl, by kernel_rfl, by kernel_rfl⟩
  | ⟨13, _⟩ => ⟨by kernel_rfl, by kernel_rfl, by kernel_rfl⟩
  | ⟨14, _⟩ => ⟨by kernel_rfl, by kernel_rfl, by kernel_rfl⟩
  | ⟨15, _⟩ => ⟨by kernel_rfl, by kernel_rfl, by kernel_rfl⟩
  | ⟨16, _⟩ => ⟨by kernel_rfl, by kernel_rfl, by kernel_rfl⟩
  | ⟨17, _⟩ => ⟨by kernel_rfl, by kernel_rfl, by kernel_rfl⟩
  | ⟨18, _⟩ => ⟨by kernel_rfl, by kernel_rfl, by kernel_rfl⟩
  | ⟨19, _⟩ => ⟨by kernel_rfl, by kernel_rfl, by kernel_rfl⟩
  | ⟨20, _⟩ => ⟨by kernel_rfl, by kernel_rfl, by kernel_rfl⟩
  | ⟨21, _⟩ => ⟨by kernel_rfl, by kernel_rfl, by kernel_rfl⟩
  | ⟨n + 22, h⟩ => by omega
theorem xy_some {k A B : Int} (hk : 1 ≤ k ∧ k ≤ 22) (hA : spec_l38Fits A = true) (hB : spec_l38Fits B = true) : spec_CallLine (spec_Told (cxy k A B)) ≠ ⟨#[]⟩ := by
  obtain ⟨n, rfl⟩ := of22 hk
  obtain ⟨h1, h2, h3⟩ := xy_22 A B n
  obtain ⟨f1, f2⟩ := fits_Told (c := cxy ((n.val : Int) + 1) A B) hA hB
  simp only [Bool.and_eq_true] at h1
  obtain ⟨ok, n0, n1, n2⟩ := h1
  have hu := spec_l38Uses_size ((n.val : Int) + 1)
  have e : spec_CallLine (spec_Told (cxy ((n.val : Int) + 1) A B)) = spec_CallLine_l1 (spec_Told (cxy ((n.val : Int) + 1) A B)) ((spec_l38Uses (spec_Told (cxy ((n.val : Int) + 1) A B)).Kind).size - 0) (spec_CallName (spec_Told (cxy ((n.val : Int) + 1) A B)).Kind) 0 := by
    unfold spec_CallLine
    rw [ok, h2, decide_eq_true rfl, f1, f2]
    rfl
  rw [e]
  refine fun e2 => line_some (c := spec_Told (cxy ((n.val : Int) + 1) A B)) (fun i hi => ?_) ((spec_l38Uses (spec_Told (cxy ((n.val : Int) + 1) A B)).Kind).size - 0) 0 (spec_CallName (spec_Told (cxy ((n.val : Int) + 1) A B)).Kind) (by omega) ?_ (by rw [e2]; rfl)
  · rw [h3] at hi ⊢
    have key : named ((n.val : Int) + 1) A B i = true := by
      rcases (show i = 0 ∨ i = 1 ∨ i = 2 by omega) with rfl | rfl | rfl
      · exact n0
      · exact n1
      · exact n2
    unfold named at key
    rw [Bool.and_eq_true] at key
    obtain ⟨k1, k2⟩ := key
    exact ⟨fun h => by rw [h] at k1; exact k1, fun h => by rw [h] at k2; exact k2⟩
  · rw [h3]
    have := (name_clean (k := (n.val : Int) + 1) hk).1
    intro e3
    exact this (List.eq_nil_of_length_eq_zero (by rw [sbytes_length]; exact e3))

end Go.Proofs.YtmjjcihoobnbgaaDoor.Fw
