/-
  The reference and the program read the same number. No condition.
-/
import Derived.Test.YtmjjcihoobnbgaaDoorPR1
namespace Go.Proofs.YtmjjcihoobnbgaaDoor.Fw
open Go.RowKit
set_option linter.unusedVariables false
set_option linter.unusedSimpArgs false
set_option maxRecDepth 100000
/-! ## Numbers -/
theorem decFrom_app : ∀ (l m : List UInt8) (a : Nat), Lib.decFrom a (l ++ m) = (Lib.decFrom a l).bind fun n => Lib.decFrom n m
  | [], m, a => by simp [Lib.decFrom]
  | b :: l, m, a => by
    simp only [List.cons_append, Lib.decFrom]
    cases Lib.digitVal b with
    | none => rfl
    | some d => exact decFrom_app l m _
theorem digitVal_digit {d : Nat} (h : d < 10) : Lib.digitVal (UInt8.ofNat (48 + d)) = some d := by
  have key : ∀ n : Fin 10, Lib.digitVal (UInt8.ofNat (48 + n.val)) = some n.val := by decide +kernel
  exact key ⟨d, h⟩
theorem decFrom_digits : ∀ u : Nat, Lib.decFrom 0 (Lib.decDigits u) = some u := by
  intro u
  induction u using Nat.strongRecOn with
  | _ u ih =>
    rw [Lib.decDigits]
    split
    · rename_i h
      simp only [Lib.decFrom, digitVal_digit h]
      simp
    · rename_i h
      rw [decFrom_app, ih (u / 10) (by omega)]
      simp only [Option.bind_some, Lib.decFrom, digitVal_digit (show u % 10 < 10 by omega)]
      congr 1
      omega
theorem nDigits_lt : ∀ (k u : Nat), u < 10 ^ (k + 1) → Lib.nDigits u ≤ k + 1 := by
  intro k
  induction k with
  | zero => intro u h; rw [Lib.nDigits_small (by omega)]; omega
  | succ k ih =>
    intro u h
    by_cases h10 : u < 10
    · rw [Lib.nDigits_small h10]; omega
    · rw [Lib.nDigits_big h10]
      have := ih (u / 10) (by rw [Nat.pow_succ] at h; omega)
      omega
theorem dec_list (u : Nat) : sbytes (impl_Decimal (u : Int)) = Lib.decDigits u := by
  show ((Lib.itoa (u : Int)).toArray).toList = _
  rw [List.toList_toArray, Lib.itoa_nonneg]
theorem dec_size {u : Nat} (h : u ≤ 1000000000) : (impl_Decimal (u : Int)).size ≤ 10 := by
  rw [← sbytes_length, dec_list, Lib.decDigits_length]
  exact nDigits_lt 9 u (by omega)
theorem byteAt_cons (p0 : ByteArray) {i : Nat} (hi : i < p0.size) : (sbytes p0).drop i = byteAt p0 i :: (sbytes p0).drop (i + 1) := drop_at p0 hi
def finD (p0 : ByteArray) (m : Nat) : Int × Bool := bif (decide ((m : Int) > 1000000000)) || (!decide ((impl_Decimal (m : Int)) = p0)) then (0, false) else ((m : Int), true)
theorem spec_dec_l1 (p0 : ByteArray) (hs : p0.size ≤ 10) : ∀ n i (v : Nat), i + n = p0.size → v < 10 ^ i → spec_ReadDecimal_l1 p0 n (v : Int) i = match Lib.decFrom v ((sbytes p0).drop i) with
    | some m => finD p0 m
    | none => (0, false) := by
  intro n
  induction n with
  | zero =>
    intro i v h hv
    have hp : 10 ^ i ≤ 10 ^ 10 := Nat.pow_le_pow_right (by omega) (by omega)
    rw [List.drop_eq_nil_of_le (by rw [sbytes_length]; omega)]
    show spec_ReadDecimal_l1 p0 0 (v : Int) i = finD p0 v
    rw [spec_ReadDecimal_l1, Decimal_twin (p0 := (v : Int)) (by unfold I64; omega)]
    rfl
  | succ n ih =>
    intro i v h hv
    have hlt : i < p0.size := by omega
    have hp : 10 ^ i ≤ 10 ^ 9 := Nat.pow_le_pow_right (by omega) (by omega)
    rw [spec_ReadDecimal_l1, byteAt_cons p0 hlt, Lib.decFrom]
    have hb := (byteAt p0 i).toNat_lt
    by_cases hd : 48 ≤ (byteAt p0 i).toNat ∧ (byteAt p0 i).toNat ≤ 57
    · rw [decide_eq_false (show ¬ ((byteAt p0 i).toNat : Int) < 48 by omega), decide_eq_false (show ¬ ((byteAt p0 i).toNat : Int) > 57 by omega)]
      have hdv : Lib.digitVal (byteAt p0 i) = some ((byteAt p0 i).toNat - 48) := by
        have key : ∀ k : Fin 256, 48 ≤ k.val → k.val ≤ 57 → Lib.digitVal (UInt8.ofNat k.val) = some (k.val - 48) := by decide +kernel
        have := key ⟨(byteAt p0 i).toNat, hb⟩ hd.1 hd.2
        simpa using this
      rw [hdv]
      simp only [Bool.or_self, cond_false]
      rw [IntWalk.i64_in (10 * (v : Int)) (by omega), IntWalk.i64_in ((byteAt p0 i).toNat : Int) (by omega), IntWalk.i64_in (10 * (v : Int) + ((byteAt p0 i).toNat : Int)) (by omega), IntWalk.i64_in (10 * (v : Int) + ((byteAt p0 i).toNat : Int) - 48) (by omega)]
      have e : (10 * (v : Int) + ((byteAt p0 i).toNat : Int) - 48) = ((v * 10 + ((byteAt p0 i).toNat - 48) : Nat) : Int) := by omega
      rw [e]
      exact ih (i + 1) _ (by omega) (by rw [Nat.pow_succ]; omega)
    · have hdv : Lib.digitVal (byteAt p0 i) = none := by
        have key : ∀ k : Fin 256, ¬ (48 ≤ k.val ∧ k.val ≤ 57) → Lib.digitVal (UInt8.ofNat k.val) = none := by decide +kernel
        have := key ⟨(byteAt p0 i).toNat, hb⟩ hd
        simpa using this
      rw [hdv]
      have : ((decide (((byteAt p0 i).toNat : Int) < 48)) || (decide (((byteAt p0 i).toNat : Int) > 57))) = true := by
        rcases Nat.lt_or_ge (byteAt p0 i).toNat 48 with h1 | h1
        · rw [decide_eq_true (show ((byteAt p0 i).toNat : Int) < 48 by omega)]
          rfl
        · rw [decide_eq_true (show ((byteAt p0 i).toNat : Int) > 57 by omega), Bool.or_true]
      rw [this]
      rfl
theorem spec_dec (p0 : ByteArray) (hs : p0.size ≤ 10) : spec_ReadDecimal p0 = match Lib.decFrom 0 (sbytes p0) with
    | some m => finD p0 m
    | none => (0, false) := by
  unfold spec_ReadDecimal
  rw [decide_eq_false (show ¬ (p0.size : Int) > 10 by omega)]
  exact spec_dec_l1 p0 hs (p0.size - 0) 0 0 (by omega) (by decide)
/-- What the program's reading says, told of a number that stands there. -/
def finI (p0 : ByteArray) (n : Int) : Int × Bool := bif (!(impl_within n 0 1000000000)) || (!decide ((impl_Decimal n) = p0)) then (0, false) else (n, true)
theorem impl_dec (p0 : ByteArray) : impl_ReadDecimal p0 = bif (atoi p0).2 then finI p0 (atoi p0).1 else (0, false) := by
  unfold impl_ReadDecimal finI
  cases (atoi p0).2 with
  | true => simp only [Bool.not_true, Bool.false_or, cond_true]
  | false => simp only [Bool.not_false, Bool.true_or, cond_true, cond_false]
theorem finI_nat (p0 : ByteArray) (m : Nat) : finI p0 (m : Int) = finD p0 m := by
  unfold finI finD
  by_cases h : m ≤ 1000000000
  · have h1 : impl_within (m : Int) 0 1000000000 = true := by
      unfold impl_within
      simp
      omega
    rw [h1, decide_eq_false (show ¬ (m : Int) > 1000000000 by omega)]
    rfl
  · have h1 : impl_within (m : Int) 0 1000000000 = false := by
      cases hw : impl_within (m : Int) 0 1000000000 with
      | false => rfl
      | true => exact absurd (impl_within_t hw) (by omega)
    rw [h1, decide_eq_true (show (m : Int) > 1000000000 by omega)]
    rfl
theorem finI_bad (p0 : ByteArray) (n : Int) (h : ∀ m : Nat, m ≤ 1000000000 → impl_Decimal (m : Int) ≠ p0) : finI p0 n = (0, false) := by
  unfold finI
  cases hw : impl_within n 0 1000000000 with
  | false => rfl
  | true =>
    have hb := impl_within_t hw
    obtain ⟨m, rfl⟩ : ∃ m : Nat, n = (m : Int) := ⟨n.toNat, by omega⟩
    rw [decide_eq_false (h m (by omega))]
    rfl
theorem ReadDecimal_twin (p0 : ByteArray) : impl_ReadDecimal p0 = spec_ReadDecimal p0 := by
  rw [impl_dec]
  by_cases hs : p0.size ≤ 10
  · rw [spec_dec p0 hs]
    have hl : (sbytes p0).length ≤ 18 := by rw [sbytes_length]; omega
    have ha : Lib.atoiAll p0.data.toList = Lib.NumEnd.ofOption (Lib.atoi p0.data.toList) := Lib.atoiAll_short _ hl
    have hno : Lib.decFrom 0 (sbytes p0) = none → ∀ m : Nat, m ≤ 1000000000 → impl_Decimal (m : Int) ≠ p0 := fun hn m _ e => by
      rw [← e, dec_list, decFrom_digits] at hn
      cases hn
    unfold atoi
    rw [ha]
    show (bif (match Lib.NumEnd.ofOption (Lib.atoi (sbytes p0)) with | .ok v => (v, true) | .range => (Lib.atoiSat p0.data.toList, false) | _ => (0, false)).2 then finI p0 (match Lib.NumEnd.ofOption (Lib.atoi (sbytes p0)) with | .ok v => (v, true) | .range => (Lib.atoiSat p0.data.toList, false) | _ => (0, false)).1 else (0, false)) = _
    cases hc : sbytes p0 with
    | nil =>
      show (0, false) = finD p0 0
      have : impl_Decimal ((0 : Nat) : Int) ≠ p0 := fun e => by
        rw [← e, dec_list, Lib.decDigits_one (by omega)] at hc
        cases hc
      unfold finD
      rw [decide_eq_false this]
      rfl
    | cons b r =>
      rw [hc] at hno
      by_cases h45 : b = 45
      · subst h45
        have hn : Lib.decFrom 0 (45 :: r) = none := rfl
        rw [hn]
        have hf := fun n => finI_bad p0 n (hno hn)
        simp only [hf]
        exact Bool.cond_self _ _
      · by_cases h43 : b = 43
        · subst h43
          have hn : Lib.decFrom 0 (43 :: r) = none := rfl
          rw [hn]
          have hf := fun n => finI_bad p0 n (hno hn)
          simp only [hf]
          exact Bool.cond_self _ _
        · have e : Lib.atoi (b :: r) = (Lib.decFrom 0 (b :: r)).map fun (m : Nat) => (m : Int) := by
            show (if (b == 45) = true then (Lib.decNat r).map (fun (m : Nat) => -(m : Int)) else if (b == 43) = true then (Lib.decNat r).map (fun (m : Nat) => (m : Int)) else (Lib.decNat (b :: r)).map (fun (m : Nat) => (m : Int))) = _
            rw [if_neg (by simpa using h45), if_neg (by simpa using h43)]
            rfl
          rw [e]
          cases Lib.decFrom 0 (b :: r) with
          | none => rfl
          | some m => exact finI_nat p0 m
  · have hsp : spec_ReadDecimal p0 = (0, false) := by
      unfold spec_ReadDecimal
      rw [decide_eq_true (show (p0.size : Int) > 10 by omega)]
      rfl
    rw [hsp]
    have hf := fun n => finI_bad p0 n fun m hm e => hs (by rw [← e]; exact dec_size hm)
    rw [hf]
    exact Bool.cond_self _ _

end Go.Proofs.YtmjjcihoobnbgaaDoor.Fw
