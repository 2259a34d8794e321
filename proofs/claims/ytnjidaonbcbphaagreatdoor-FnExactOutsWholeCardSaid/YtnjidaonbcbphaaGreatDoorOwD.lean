/-
  The texts N1, NP, Am17, Am18, Sy3, S1, SP, Sy2, S2, SQ, S3, SR, S5, SO, HZ, HP, Am19, Am20, Am21, Sy4 of this proof, one behind the other: what each proves stands at its head. No condition.
-/
import Derived.Lib.ShelfFacts
import Derived.Test.YtnjidaonbcbphaaGreatDoorOwA
import Derived.Test.YtnjidaonbcbphaaGreatDoorOwB
import Derived.Test.YtnjidaonbcbphaaGreatDoorOwC
/- Contracts: each call returns what the model says. By program (wip/am/gen2.py). -/
namespace Go.Proofs.YtnjidaonbcbphaaGreatDoor.Fw
open Go.RowKit
set_option linter.unusedVariables false
set_option maxRecDepth 100000

theorem fok48 : FnOk Tryz.prog 48 := ⟨_, Tryz.func48, rfl, by kernel_rfl⟩
theorem fok58 : FnOk Tryz.prog 58 := ⟨_, Tryz.func58, rfl, by kernel_rfl⟩
theorem fok83 : FnOk Tryz.prog 83 := ⟨_, Tryz.func83, rfl, by kernel_rfl⟩
theorem fok132 : FnOk Tryz.prog 132 := ⟨_, Tryz.func132, rfl, by kernel_rfl⟩
theorem fok152 : FnOk Tryz.prog 152 := ⟨_, Tryz.func152, rfl, by kernel_rfl⟩
theorem fok160 : FnOk Tryz.prog 160 := ⟨_, Tryz.func160, rfl, by kernel_rfl⟩
theorem fok195 : FnOk Tryz.prog 195 := ⟨_, Tryz.func195, rfl, by kernel_rfl⟩
/- F85 loop.example/g00974/impl.ReadDecimal -/
def impl_ReadDecimal (p0 : ByteArray) : Int × Bool := bif ((!((atoi p0).2)) || (!(impl_within ((atoi p0).1) 0 1000000000))) || (!decide ((impl_Decimal ((atoi p0).1)) = p0)) then (0, false) else ((atoi p0).1, true)
theorem c_impl_ReadDecimal (p0 : ByteArray) (hq : p0.size ≤ 281474976710656) : CTs 85 [.o (.c (.string p0))] [Re.c (.int .i64 ((impl_ReadDecimal p0).1)), Re.c (.bool ((impl_ReadDecimal p0).2))] := by
  refine en Tryz.func85 Tryz.ntmps85 fun w hG hgd => ?_
  have hM := impl_ReadDecimal.eq_1 p0
  refine ad 8 ?_
  refine ce (k_atoi p0 (by first | assumption | exact om)) fok152 fun u1 hu1 => ?_
  refine ad 10 ?_
  refine op (er hu1) ?_
  refine ad 1 ?_
  refine ag 1 ?_
  refine op (cG (hct := fun hB => (k_impl_within ((atoi p0).1) 0 1000000000)) (hfn := fok83)) ?_
  refine ag 2 ?_
  refine ad 1 ?_
  refine ag 1 ?_
  refine op (cG (hct := fun hB => (k_impl_Decimal ((atoi p0).1) (atoi_I64 _))) (hfn := fok58)) ?_
  refine ag 3 ?_
  refine ad 1 ?_
  refine cd (fun h2 => ?_) (fun h2 => ?_)
  ·
    have hM := hM.trans (bt h2)
    refine ad 5 ?_
    exact rz (rs := [.tmp 2, .tmp 3]) (congrArg (fun x => [Re.c (.int .i64 x.1), Re.c (.bool x.2)]) hM)
  ·
    have hM := hM.trans (bf h2)
    have th2_1 := impl_within_t (by have hq := (Bool.or_eq_false_iff.1 (Bool.or_eq_false_iff.1 h2).1).2; simpa using hq)
    refine ad 7 ?_
    exact rz (rs := [.tmp 2, .tmp 3]) (congrArg (fun x => [Re.c (.int .i64 x.1), Re.c (.bool x.2)]) hM)
theorem impl_ReadDecimal_I64 (p0 : ByteArray) : I64 (impl_ReadDecimal p0).1 := by
  unfold impl_ReadDecimal
  cases (((!((atoi p0).2)) || (!(impl_within ((atoi p0).1) 0 1000000000))) || (!decide ((impl_Decimal ((atoi p0).1)) = p0)))
  · exact atoi_I64 p0
  · exact gi 0

/- F159 loop.example/g00974/spec.ReadDecimal -/
def spec_ReadDecimal_l1 (p0 : ByteArray) : Nat → Int → Nat → Int × Bool
  | 0, v4, i => bif (decide (v4 > 1000000000)) || (!decide ((spec_Decimal v4) = p0)) then (0, false) else (v4, true)
  | n + 1, v4, i => bif (decide (((byteAt p0 i).toNat : Int) < 48)) || (decide (((byteAt p0 i).toNat : Int) > 57)) then (0, false) else (spec_ReadDecimal_l1 p0 n (IntKind.i64.wrap ((IntKind.i64.wrap ((IntKind.i64.wrap (10 * v4)) + (IntKind.i64.wrap ((byteAt p0 i).toNat : Int)))) - 48)) (i + 1))
def spec_ReadDecimal (p0 : ByteArray) : Int × Bool := bif decide ((p0.size : Int) > 10) then (0, false) else (spec_ReadDecimal_l1 p0 (p0.size - 0) 0 0)
theorem c_spec_ReadDecimal (p0 : ByteArray) (hz_p0 : p0.size ≤ 9223372036854775807) : CTs 159 [.o (.c (.string p0))] [Re.c (.int .i64 ((spec_ReadDecimal p0).1)), Re.c (.bool ((spec_ReadDecimal p0).2))] := by
  refine en Tryz.func159 Tryz.ntmps159 fun w hG hgd => ?_
  have hM := spec_ReadDecimal.eq_1 p0
  refine ad 12 ?_
  refine cd (fun h1 => ?_) (fun h1 => ?_)
  ·
    have hM := hM.trans (bt h1)
    refine ad 5 ?_
    exact rz (rs := [.tmp 2, .tmp 3]) (congrArg (fun x => [Re.c (.int .i64 x.1), Re.c (.bool x.2)]) hM)
  ·
    have hM := hM.trans (bf h1)
    refine ad 11 ?_
    refine Run.loopM (ι := Int × Nat) (fun s => spec_ReadDecimal_l1 p0 (p0.size - s.2) s.1 s.2) (fun s => ⟨42, 0, [(0, .v (.string p0)), (4, .v (.int .i64 s.1)), (5, .v (.int .i64 (s.2 : Int)))], []⟩) (fun s => s.2 ≤ p0.size ∧ I64 s.1) (fun s => p0.size - s.2) (0, 0) [] [] hM (by exact ⟨by (try dsimp only); first | omega | exact trivial, (gi 0)⟩) su (by decide) ?_
    rintro ⟨v4, i⟩ hv hE
    try dsimp only at hE
    obtain ⟨hi, hg_v4⟩ := hv
    try dsimp only at hi hg_v4
    refine ad 8 ?_
    refine cd (fun h2 => ?_) (fun h2 => ?_)
    ·
      have h2l : i < p0.size := by have := of_decide_eq_true h2; omega
      have hM := hE.trans ((congrArg (fun n => spec_ReadDecimal_l1 p0 n v4 i) (show p0.size - i = (p0.size - (i + 1)) + 1 by omega)).trans (spec_ReadDecimal_l1.eq_2 _ _ _ _))
      refine ad 8 ?_
      refine op (sx (s := p0) i om) ?_
      refine ad 2 ?_
      refine ag 2 ?_
      refine op (sG (s := p0) i (hk := fun hB => by (try simp at hB); omega)) ?_
      refine ag 2 ?_
      refine ad 1 ?_
      refine cd (fun h3 => ?_) (fun h3 => ?_)
      ·
        have hM := hM.trans (bt h3)
        refine ad 5 ?_
        exact rz (rs := [.tmp 2, .tmp 3]) (congrArg (fun x => [Re.c (.int .i64 x.1), Re.c (.bool x.2)]) hM)
      ·
        have hM := hM.trans (bf h3)
        refine ad 6 ?_
        refine op (sx (s := p0) i om) ?_
        refine ad 9 ?_
        rw [wrapN (i := i) (by first | omega | exact om)]
        refine ad 2 ?_
        exact Run.again (IntKind.i64.wrap ((IntKind.i64.wrap ((IntKind.i64.wrap (10 * v4)) + (IntKind.i64.wrap ((byteAt p0 i).toNat : Int)))) - 48), (i + 1)) [] [] ⟨by exact ⟨by (try dsimp only); first | omega | exact trivial, (I64_wrap _)⟩, hM⟩ rfl (by show _ - _ < _ - _; (try dsimp only); omega) su (by decide)
    ·
      have h2l : ¬ (i < p0.size) := by have := of_decide_eq_false h2; omega
      have hM := hE.trans ((congrArg (fun n => spec_ReadDecimal_l1 p0 n v4 i) (show p0.size - i = 0 by omega)).trans (spec_ReadDecimal_l1.eq_1 _ _ _))
      refine ad 7 ?_
      refine ag 1 ?_
      refine op (cG (hct := fun hB => (k_spec_Decimal v4 hg_v4)) (hfn := fok48)) ?_
      refine ag 3 ?_
      refine ad 1 ?_
      refine cd (fun h4 => ?_) (fun h4 => ?_)
      ·
        have hM := hM.trans (bt h4)
        refine ad 5 ?_
        exact rz (rs := [.tmp 2, .tmp 3]) (congrArg (fun x => [Re.c (.int .i64 x.1), Re.c (.bool x.2)]) hM)
      ·
        have hM := hM.trans (bf h4)
        refine ad 7 ?_
        exact rz (rs := [.tmp 2, .tmp 3]) (congrArg (fun x => [Re.c (.int .i64 x.1), Re.c (.bool x.2)]) hM)
theorem spec_ReadDecimal_l1_I64 (p0 : ByteArray) : ∀ n v i, I64 v → I64 (spec_ReadDecimal_l1 p0 n v i).1 := by
  intro n
  induction n with
  | zero =>
    intro v i h
    rw [spec_ReadDecimal_l1]
    cases ((decide (v > 1000000000)) || (!decide ((spec_Decimal v) = p0)))
    · exact h
    · exact gi 0
  | succ n ih =>
    intro v i h
    rw [spec_ReadDecimal_l1]
    cases ((decide (((byteAt p0 i).toNat : Int) < 48)) || (decide (((byteAt p0 i).toNat : Int) > 57)))
    · exact ih _ _ (I64_wrap _)
    · exact gi 0
theorem spec_ReadDecimal_I64 (p0 : ByteArray) : I64 (spec_ReadDecimal p0).1 := by
  unfold spec_ReadDecimal
  cases (decide ((p0.size : Int) > 10))
  · exact spec_ReadDecimal_l1_I64 p0 _ _ _ (gi 0)
  · exact gi 0

/- F158 loop.example/g00974/impl.Unhex -/
def impl_Unhex (p0 : ByteArray) : ByteArray × Bool := bif ((!((decodeS p0).2)) || (decide ((((decodeS p0).1).length : Int) > 20000))) || (!decide ((hexEnc ((decodeS p0).1)) = p0)) then (⟨#[]⟩, false) else (bstr ((decodeS p0).1), true)
theorem c_impl_Unhex (p0 : ByteArray) (hq : p0.size ≤ 281474976710656) : CTs 158 [.o (.c (.string p0))] [Re.c (.string ((impl_Unhex p0).1)), Re.c (.bool ((impl_Unhex p0).2))] := by
  refine en Tryz.func158 Tryz.ntmps158 fun w hG hgd => ?_
  have hM := impl_Unhex.eq_1 p0
  refine ad 8 ?_
  refine ce (k_decode p0 (by first | assumption | exact om)) fok195 fun u1 hu1 => ?_
  refine ad 10 ?_
  refine op (er hu1) ?_
  refine ad 1 ?_
  refine ag 4 ?_
  refine ad 1 ?_
  refine ag 1 ?_
  refine op (cG (hct := fun hB => (k_hexEncA ((decodeS p0).1) (by first | (rw [sbytes_length]; exact om) | (simp at hB; omega)))) (hfn := fok132)) ?_
  refine ag 3 ?_
  refine ad 1 ?_
  refine cd (fun h2 => ?_) (fun h2 => ?_)
  ·
    have hM := hM.trans (bt h2)
    refine ad 5 ?_
    exact rz (rs := [.tmp 2, .tmp 3]) (congrArg (fun x => [Re.c (.string x.1), Re.c (.bool x.2)]) hM)
  ·
    have hM := hM.trans (bf h2)
    refine ad 4 ?_
    refine op (ts ((decodeS p0).1)) ?_
    refine ad 3 ?_
    exact rz (rs := [.tmp 2, .tmp 3]) (congrArg (fun x => [Re.c (.string x.1), Re.c (.bool x.2)]) hM)
theorem impl_Unhex_good (p0 : ByteArray) : (impl_Unhex p0).1.size ≤ maxLen := by
  unfold impl_Unhex
  cases hc : (((!((decodeS p0).2)) || (decide ((((decodeS p0).1).length : Int) > 20000))) || (!decide ((hexEnc ((decodeS p0).1)) = p0))) with
  | true => exact Nat.zero_le _
  | false =>
    have h1 := (Bool.or_eq_false_iff.1 (Bool.or_eq_false_iff.1 hc).1).2
    have h2 : (decodeS p0).1.length ≤ 20000 := by simp at h1; omega
    show ((decodeS p0).1.toArray).size ≤ maxLen
    rw [List.size_toArray]
    unfold maxLen
    omega

/- F160 loop.example/g00974/spec.l01Value -/
def spec_l01Value (p0 : UInt8) : Int := bif (decide ((p0.toNat : Int) ≥ 48)) && (decide ((p0.toNat : Int) ≤ 57)) then (IntKind.i64.wrap ((IntKind.i64.wrap (p0.toNat : Int)) - 48)) else (bif (decide ((p0.toNat : Int) ≥ 97)) && (decide ((p0.toNat : Int) ≤ 102)) then (IntKind.i64.wrap ((IntKind.i64.wrap ((IntKind.i64.wrap (p0.toNat : Int)) - 97)) + 10)) else (-1))
theorem c_spec_l01Value (p0 : UInt8) : CTs 160 [.o (.c (.int .u8 p0.toNat))] [Re.c (.int .i64 (spec_l01Value p0))] := by
  refine en Tryz.func160 Tryz.ntmps160 fun w hG hgd => ?_
  have hM := spec_l01Value.eq_1 p0
  refine ad 10 ?_
  refine ag 3 ?_
  refine ad 1 ?_
  refine cd (fun h1 => ?_) (fun h1 => ?_)
  ·
    have hM := hM.trans (bt h1)
    refine ad 7 ?_
    exact rz (rs := [.tmp 2]) (congrArg (fun x => [Re.c (.int .i64 x)]) hM)
  ·
    have hM := hM.trans (bf h1)
    refine ad 7 ?_
    refine ag 3 ?_
    refine ad 1 ?_
    refine cd (fun h2 => ?_) (fun h2 => ?_)
    ·
      have hM := hM.trans (bt h2)
      refine ad 8 ?_
      exact rz (rs := [.tmp 2]) (congrArg (fun x => [Re.c (.int .i64 x)]) hM)
    ·
      have hM := hM.trans (bf h2)
      refine ad 5 ?_
      exact rz (rs := [.tmp 2]) (congrArg (fun x => [Re.c (.int .i64 x)]) hM)

/- F100 loop.example/g00974/spec.Unhex -/
def spec_Unhex_l1 (p0 : ByteArray) (k_1 : (List UInt8) → (ByteArray × Bool)) : Nat → (List UInt8) → Nat → ByteArray × Bool
  | 0, v4_1, i_1 => k_1 v4_1
  | n_1 + 1, v4_1, i_1 => bif decide ((i_1 : Int) < (p0.size : Int)) then (bif (decide ((spec_l01Value (byteAt p0 i_1)) < 0)) || (decide ((spec_l01Value (byteAt p0 (i_1 + 1))) < 0)) then (⟨#[]⟩, false) else (spec_Unhex_l1 p0 k_1 n_1 (v4_1 ++ [u8of (IntKind.i64.wrap ((IntKind.i64.wrap (16 * (spec_l01Value (byteAt p0 i_1)))) + (spec_l01Value (byteAt p0 (i_1 + 1)))))]) (i_1 + 2))) else (k_1 v4_1)
theorem spec_Unhex_l1_x (p0 : ByteArray) (k_1 : (List UInt8) → (ByteArray × Bool)) (fu : Nat) (v4_1 : List UInt8) (i_1 : Nat) (h : (decide ((i_1 : Int) < (p0.size : Int))) = false) : spec_Unhex_l1 p0 k_1 fu v4_1 i_1 = k_1 v4_1 := by
  cases fu with
  | zero => rfl
  | succ n => exact (bf h)
def spec_Unhex (p0 : ByteArray) : ByteArray × Bool := bif (decide ((p0.size : Int) > 40000)) || (!decide ((Int.tmod (p0.size : Int) 2) = 0)) then (⟨#[]⟩, false) else (spec_Unhex_l1 p0 (fun e => (bstr e, true)) (p0.size - 0) ([] : List UInt8) 0)
theorem c_spec_Unhex (p0 : ByteArray) : CTs 100 [.o (.c (.string p0))] [Re.c (.string ((spec_Unhex p0).1)), Re.c (.bool ((spec_Unhex p0).2))] := by
  refine en Tryz.func100 Tryz.ntmps100 fun w hG hgd => ?_
  have hM := spec_Unhex.eq_1 p0
  refine ad 12 ?_
  refine ag 2 ?_
  refine op (rG) ?_
  refine ag 2 ?_
  refine ad 1 ?_
  refine cd (fun h1 => ?_) (fun h1 => ?_)
  ·
    have hM := hM.trans (bt h1)
    refine ad 5 ?_
    exact rz (rs := [.tmp 2, .tmp 3]) (congrArg (fun x => [Re.c (.string x.1), Re.c (.bool x.2)]) hM)
  ·
    have hM := hM.trans (bf h1)
    refine ad 3 ?_
    refine op (l0) ?_
    refine ad 8 ?_
    have he : p0.size % 2 = 0 := even_of (Bool.or_eq_false_iff.1 h1).2
    have hsz : p0.size ≤ 40000 := by have := (Bool.or_eq_false_iff.1 h1).1; simp at this; omega
    refine li 0 (d := instDatUInt8) ([] : List UInt8) ?_
    refine Run.loopkM (ι := Nat × (List UInt8) × Nat) (κ := (List UInt8)) (fun k s => spec_Unhex_l1 p0 k s.1 s.2.1 s.2.2) (fun s => ⟨49, 1, [(0, .v (.string p0)), (4, .sl 0 s.2.1.length), (5, .v (.int .i64 (s.2.2 : Int)))], [(0, .own UInt8 instDatUInt8 s.2.1)]⟩) (fun s => p0.size - s.2.2 ≤ s.1 ∧ s.2.2 % 2 = 0 ∧ s.2.2 ≤ p0.size ∧ s.2.1.length ≤ s.2.2) (fun s => s.1) (fun e => ⟨49, 1, [(4, .sl 0 e.length)], [(0, .own UInt8 instDatUInt8 e)]⟩) (fun e => True) (p0.size - 0, ([] : List UInt8), 0) [0] [0] hM (by refine ⟨by (try dsimp only); omega, rfl, by (try dsimp only); omega, by simp⟩) su (by decide) ?_ ?_
    ·
      rintro ev4_1 hv hM
      try dsimp only at hM hv ⊢
      refine ad 3 ?_
      refine op (ts ev4_1) ?_
      refine ad 3 ?_
      exact rz (rs := [.tmp 2, .tmp 3]) (congrArg (fun x => [Re.c (.string x.1), Re.c (.bool x.2)]) hM)
    ·
      intro k_1 hk_1
      rintro ⟨fu_1, v4_1, i_1⟩ hv_1 hE
      try dsimp only at hE
      obtain ⟨hi_1, hv_1_0, hv_1_1, hv_1_2⟩ := hv_1
      try dsimp only at hi_1 hv_1_0 hv_1_1 hv_1_2
      refine ad 8 ?_
      refine cd (fun h2 => ?_) (fun h2 => ?_)
      ·
        obtain ⟨n_1, rfl⟩ : ∃ n, fu_1 = n + 1 := ⟨fu_1 - 1, by have := h2; have := om (p := 0 < p0.size - i_1); omega⟩
        have hM := hE.trans ((spec_Unhex_l1.eq_2 _ _ _ _ _).trans (bt h2))
        refine ad 7 ?_
        refine op (sx (s := p0) i_1 om) ?_
        refine op (cl (c_spec_l01Value (byteAt p0 i_1)) fok160) ?_
        refine ad 7 ?_
        rw [wrapN (i := i_1) (by first | omega | exact om)]
        refine op (sx (s := p0) (i_1 + 1) om) ?_
        refine op (cl (c_spec_l01Value (byteAt p0 (i_1 + 1))) fok160) ?_
        refine ad 8 ?_
        refine ag 3 ?_
        refine ad 1 ?_
        refine cd (fun h3 => ?_) (fun h3 => ?_)
        ·
          have hM := hM.trans (bt h3)
          refine ad 5 ?_
          exact rz (rs := [.tmp 2, .tmp 3]) (congrArg (fun x => [Re.c (.string x.1), Re.c (.bool x.2)]) hM)
        ·
          have hM := hM.trans (bf h3)
          refine ad 9 ?_
          refine op (ap [u8of (IntKind.i64.wrap ((IntKind.i64.wrap (16 * (spec_l01Value (byteAt p0 i_1)))) + (spec_l01Value (byteAt p0 (i_1 + 1)))))] (hg := gdt) (hb := by simp only [List.length_cons, List.length_nil]; first | omega | exact om)) ?_
          refine ad 6 ?_
          rw [wrapN2 (i := i_1) (by first | omega | exact om)]
          refine ad 2 ?_
          exact Run.again (n_1, (v4_1 ++ [u8of (IntKind.i64.wrap ((IntKind.i64.wrap (16 * (spec_l01Value (byteAt p0 i_1)))) + (spec_l01Value (byteAt p0 (i_1 + 1)))))]), (i_1 + 2)) [2] [1] ⟨by refine ⟨by (try dsimp only); omega, by (try dsimp only); omega, by (try dsimp only); first | omega | exact om, by simp only [List.length_append, List.length_cons, List.length_nil]; omega⟩, hM⟩ rfl (by exact Nat.lt_succ_self _) su (by decide)
      ·
        have hM := hE.trans (spec_Unhex_l1_x p0 k_1 fu_1 v4_1 i_1 h2)
        refine ad 1 ?_
        exact Run.exitkM hk_1 v4_1 [0] [0] hM (by trivial) su (by decide)
theorem spec_Unhex_l1_len (p0 : ByteArray) : ∀ fu v i, ((spec_Unhex_l1 p0 (fun e => (bstr e, true)) fu v i).1).size ≤ v.length + fu := by
  intro fu
  induction fu with
  | zero =>
    intro v i
    show (v.toArray).size ≤ _
    rw [List.size_toArray]
    omega
  | succ n ih =>
    intro v i
    rw [spec_Unhex_l1]
    cases (decide ((i : Int) < (p0.size : Int)))
    · show (v.toArray).size ≤ _
      rw [List.size_toArray]
      omega
    · show (bif _ then _ else _ : ByteArray × Bool).1.size ≤ _
      cases (decide ((spec_l01Value (byteAt p0 i)) < 0)) || (decide ((spec_l01Value (byteAt p0 (i + 1))) < 0))
      · refine Nat.le_trans (ih _ _) ?_
        simp only [List.length_append, List.length_cons, List.length_nil]
        omega
      · exact Nat.zero_le _
theorem spec_Unhex_good (p0 : ByteArray) : (spec_Unhex p0).1.size ≤ maxLen := by
  unfold spec_Unhex
  cases hc : (decide ((p0.size : Int) > 40000)) || (!decide (Int.tmod (p0.size : Int) 2 = 0)) with
  | true => exact Nat.zero_le _
  | false =>
    have h1 := (Bool.or_eq_false_iff.1 hc).1
    have h2 : p0.size ≤ 40000 := by simp at h1; omega
    have := spec_Unhex_l1_len p0 (p0.size - 0) [] 0
    rw [List.length_nil] at this
    show ((spec_Unhex_l1 p0 (fun e => (bstr e, true)) (p0.size - 0) [] 0).1).size ≤ maxLen
    unfold maxLen
    omega

/- F77 slices.Equal[[]string,string] -/
def slices_Equal_string_l1 (p0 : List ByteArray) (p1 : List ByteArray) : Nat → Nat → Bool
  | 0, i => true
  | n + 1, i => bif !decide ((nth p0 i) = (nth p1 i)) then false else (slices_Equal_string_l1 p0 p1 n (i + 1))
def slices_Equal_string (p0 : List ByteArray) (p1 : List ByteArray) : Bool := bif !decide ((p0.length : Int) = (p1.length : Int)) then false else (slices_Equal_string_l1 p0 p1 (p0.length - 0) 0)
theorem c_slices_Equal_string (p0 : List ByteArray) (p1 : List ByteArray) : CTs 77 [.o (.sl ByteArray instDatByteArray p0), .o (.sl ByteArray instDatByteArray p1)] [Re.c (.bool (slices_Equal_string p0 p1))] := by
  refine en Tryz.func77 Tryz.ntmps77 fun w hG hgd => ?_
  obtain ⟨hg_p0, hg_p1, _⟩ := hgd
  have hl_p0 : p0.length ≤ 9223372036854775807 := hg_p0.1
  have hl_p1 : p1.length ≤ 9223372036854775807 := hg_p1.1
  have hM := slices_Equal_string.eq_1 p0 p1
  refine ad 13 ?_
  refine cd (fun h1 => ?_) (fun h1 => ?_)
  ·
    have hM := hM.trans (bt h1)
    refine ad 4 ?_
    exact rz (rs := [.tmp 4]) (congrArg (fun x => [Re.c (.bool x)]) hM)
  ·
    have hM := hM.trans (bf h1)
    refine ad 9 ?_
    refine Run.loopM (ι := Nat) (fun s => slices_Equal_string_l1 p0 p1 (p0.length - s) s) (fun s => ⟨26, 2, [(0, .sl 0 p0.length), (1, .sl 1 p1.length), (12, .v (.int .i64 (p0.length : Int))), (13, .v (.int .i64 (s : Int)))], [(0, .ros ByteArray instDatByteArray p0), (1, .ros ByteArray instDatByteArray p1)]⟩) (fun s => s ≤ p0.length) (fun s => p0.length - s) 0 [0, 1] [0, 1] hM (by first | exact ⟨by omega, by simp⟩ | omega | simp | (dsimp only; omega)) su (by decide) ?_
    rintro i hv hE
    try dsimp only at hE
    have hi := hv
    try dsimp only at hi
    refine ad 5 ?_
    refine cd (fun h2 => ?_) (fun h2 => ?_)
    ·
      have h2l : i < p0.length := by have := of_decide_eq_true h2; omega
      have hM := hE.trans ((congrArg (fun n => slices_Equal_string_l1 p0 p1 n i) (show p0.length - i = (p0.length - (i + 1)) + 1 by omega)).trans (slices_Equal_string_l1.eq_2 _ _ _ _))
      refine ad 9 ?_
      refine dr 9 fun _ _ _ _ _ hb => ?_
      refine tk [0, 1] ?_
      have hg3 := good_nth (k := i) hg_p0 om
      refine tx 2 (dx (xs := p0) i om) ?_
      refine tk [3, 4, 5] ?_
      have hg4 := good_nth (k := i) hg_p1 om
      refine tx 6 (dx (xs := p1) i om) ?_
      refine tk [7, 8] ?_
      refine dn hb ?_
      refine cd (fun h5 => ?_) (fun h5 => ?_)
      ·
        have hM := hM.trans (bt h5)
        refine ad 4 ?_
        exact rz (rs := [.tmp 4]) (congrArg (fun x => [Re.c (.bool x)]) hM)
      ·
        have hM := hM.trans (bf h5)
        refine ad 4 ?_
        rw [wrapN (i := i) (by first | omega | exact om)]
        refine ad 2 ?_
        exact Run.again (i + 1) [0, 1] [2, 3] ⟨by first | omega | exact trivial | (dsimp only; omega) | (refine ⟨by omega, ?_⟩; simp_all; try omega), hM⟩ rfl (by show _ - _ < _ - _; (try dsimp only); omega) su (by decide)
    ·
      have h2l : ¬ (i < p0.length) := by have := of_decide_eq_false h2; omega
      have hM := hE.trans ((congrArg (fun n => slices_Equal_string_l1 p0 p1 n i) (show p0.length - i = 0 by omega)).trans (slices_Equal_string_l1.eq_1 _ _ _))
      refine ad 5 ?_
      exact rz (rs := [.tmp 4]) (congrArg (fun x => [Re.c (.bool x)]) hM)

/- F75 loop.example/g00974/spec.l03Same -/
def spec_l03Same_l1 (p0 : List ByteArray) (p1 : List ByteArray) : Nat → Nat → Bool
  | 0, i => true
  | n + 1, i => bif !decide ((nth p0 i) = (nth p1 i)) then false else (spec_l03Same_l1 p0 p1 n (i + 1))
def spec_l03Same (p0 : List ByteArray) (p1 : List ByteArray) : Bool := bif !decide ((p0.length : Int) = (p1.length : Int)) then false else (spec_l03Same_l1 p0 p1 (p0.length - 0) 0)
theorem c_spec_l03Same (p0 : List ByteArray) (p1 : List ByteArray) : CTs 75 [.o (.sl ByteArray instDatByteArray p0), .o (.sl ByteArray instDatByteArray p1)] [Re.c (.bool (spec_l03Same p0 p1))] := by
  refine en Tryz.func75 Tryz.ntmps75 fun w hG hgd => ?_
  obtain ⟨hg_p0, hg_p1, _⟩ := hgd
  have hl_p0 : p0.length ≤ 9223372036854775807 := hg_p0.1
  have hl_p1 : p1.length ≤ 9223372036854775807 := hg_p1.1
  have hM := spec_l03Same.eq_1 p0 p1
  refine ad 13 ?_
  refine cd (fun h1 => ?_) (fun h1 => ?_)
  ·
    have hM := hM.trans (bt h1)
    refine ad 4 ?_
    exact rz (rs := [.tmp 4]) (congrArg (fun x => [Re.c (.bool x)]) hM)
  ·
    have hM := hM.trans (bf h1)
    refine ad 7 ?_
    refine Run.loopM (ι := Nat) (fun s => spec_l03Same_l1 p0 p1 (p0.length - s) s) (fun s => ⟨26, 2, [(0, .sl 0 p0.length), (1, .sl 1 p1.length), (5, .v (.int .i64 (s : Int)))], [(0, .ros ByteArray instDatByteArray p0), (1, .ros ByteArray instDatByteArray p1)]⟩) (fun s => s ≤ p0.length) (fun s => p0.length - s) 0 [0, 1] [0, 1] hM (by first | exact ⟨by omega, by simp⟩ | omega | simp | (dsimp only; omega)) su (by decide) ?_
    rintro i hv hE
    try dsimp only at hE
    have hi := hv
    try dsimp only at hi
    refine ad 8 ?_
    refine cd (fun h2 => ?_) (fun h2 => ?_)
    ·
      have h2l : i < p0.length := by have := of_decide_eq_true h2; omega
      have hM := hE.trans ((congrArg (fun n => spec_l03Same_l1 p0 p1 n i) (show p0.length - i = (p0.length - (i + 1)) + 1 by omega)).trans (spec_l03Same_l1.eq_2 _ _ _ _))
      refine ad 4 ?_
      refine dr 9 fun _ _ _ _ _ hb => ?_
      refine tk [0, 1] ?_
      have hg3 := good_nth (k := i) hg_p0 om
      refine tx 2 (dx (xs := p0) i om) ?_
      refine tk [3, 4, 5] ?_
      have hg4 := good_nth (k := i) hg_p1 om
      refine tx 6 (dx (xs := p1) i om) ?_
      refine tk [7, 8] ?_
      refine dn hb ?_
      refine cd (fun h5 => ?_) (fun h5 => ?_)
      ·
        have hM := hM.trans (bt h5)
        refine ad 4 ?_
        exact rz (rs := [.tmp 4]) (congrArg (fun x => [Re.c (.bool x)]) hM)
      ·
        have hM := hM.trans (bf h5)
        refine ad 5 ?_
        rw [wrapN (i := i) (by first | omega | exact om)]
        refine ad 2 ?_
        exact Run.again (i + 1) [0, 1] [2, 3] ⟨by first | omega | exact trivial | (dsimp only; omega) | (refine ⟨by omega, ?_⟩; simp_all; try omega), hM⟩ rfl (by show _ - _ < _ - _; (try dsimp only); omega) su (by decide)
    ·
      have h2l : ¬ (i < p0.length) := by have := of_decide_eq_false h2; omega
      have hM := hE.trans ((congrArg (fun n => spec_l03Same_l1 p0 p1 n i) (show p0.length - i = 0 by omega)).trans (spec_l03Same_l1.eq_1 _ _ _))
      refine ad 5 ?_
      exact rz (rs := [.tmp 4]) (congrArg (fun x => [Re.c (.bool x)]) hM)

end Go.Proofs.YtnjidaonbcbphaaGreatDoor.Fw
/-
  The reference and the program read the same numbers and bytes. No condition.
-/
namespace Go.Proofs.YtnjidaonbcbphaaGreatDoor.Fw
open Go.RowKit
set_option linter.unusedVariables false
set_option linter.unusedSimpArgs false
set_option maxRecDepth 100000
theorem sbytes_at {s : ByteArray} {i : Nat} (h : i < (sbytes s).length) : (sbytes s)[i] = byteAt s i := by
  have h' : i < s.data.size := by rw [sbytes_length] at h; exact h
  unfold byteAt
  rw [Array.getD_eq_getD_getElem?, Array.getElem?_eq_getElem h']
  simp [sbytes]
theorem hexEnc_size (xs : List UInt8) : (hexEnc xs).size = 2 * xs.length := by
  show ((Lib.Hx.encode xs).toArray).size = _
  rw [List.size_toArray, Lib.Hx.encode_length]
theorem drop_at (p0 : ByteArray) {i : Nat} (hi : i < p0.size) : (sbytes p0).drop i = byteAt p0 i :: (sbytes p0).drop (i + 1) := by
  have h : i < (sbytes p0).length := by rw [sbytes_length]; exact hi
  rw [List.drop_eq_getElem_cons h, sbytes_at h]
/-! ## Numbers -/
theorem decFrom_app : ∀ (l m : List UInt8) (a : Nat), Lib.decFrom a (l ++ m) = (Lib.decFrom a l).bind fun n => Lib.decFrom n m
  | [], m, a => by simp [Lib.decFrom]
  | b :: l, m, a => by
    simp only [List.cons_append, Lib.decFrom]
    cases Lib.digitVal b with
    | none => rfl
    | some d => exact decFrom_app l m _
theorem digitVal_digit {d : Nat} (h : d < 10) : Lib.digitVal (UInt8.ofNat (48 + d)) = some d := by
  have key : ∀ n : Fin 10, Lib.digitVal (UInt8.ofNat (48 + n.val)) = some n.val := by decide +kernel
  exact key ⟨d, h⟩
theorem decFrom_digits : ∀ u : Nat, Lib.decFrom 0 (Lib.decDigits u) = some u := by
  intro u
  induction u using Nat.strongRecOn with
  | _ u ih =>
    rw [Lib.decDigits]
    split
    · rename_i h
      simp only [Lib.decFrom, digitVal_digit h]
      simp
    · rename_i h
      rw [decFrom_app, ih (u / 10) (by omega)]
      simp only [Option.bind_some, Lib.decFrom, digitVal_digit (show u % 10 < 10 by omega)]
      congr 1
      omega
theorem nDigits_lt : ∀ (k u : Nat), u < 10 ^ (k + 1) → Lib.nDigits u ≤ k + 1 := by
  intro k
  induction k with
  | zero => intro u h; rw [Lib.nDigits_small (by omega)]; omega
  | succ k ih =>
    intro u h
    by_cases h10 : u < 10
    · rw [Lib.nDigits_small h10]; omega
    · rw [Lib.nDigits_big h10]
      have := ih (u / 10) (by rw [Nat.pow_succ] at h; omega)
      omega
theorem dec_list (u : Nat) : sbytes (impl_Decimal (u : Int)) = Lib.decDigits u := by
  show ((Lib.itoa (u : Int)).toArray).toList = _
  rw [List.toList_toArray, Lib.itoa_nonneg]
theorem dec_size {u : Nat} (h : u ≤ 1000000000) : (impl_Decimal (u : Int)).size ≤ 10 := by
  rw [← sbytes_length, dec_list, Lib.decDigits_length]
  exact nDigits_lt 9 u (by omega)
theorem byteAt_cons (p0 : ByteArray) {i : Nat} (hi : i < p0.size) : (sbytes p0).drop i = byteAt p0 i :: (sbytes p0).drop (i + 1) := drop_at p0 hi
def finD (p0 : ByteArray) (m : Nat) : Int × Bool := bif (decide ((m : Int) > 1000000000)) || (!decide ((impl_Decimal (m : Int)) = p0)) then (0, false) else ((m : Int), true)
theorem spec_dec_l1 (p0 : ByteArray) (hs : p0.size ≤ 10) : ∀ n i (v : Nat), i + n = p0.size → v < 10 ^ i → spec_ReadDecimal_l1 p0 n (v : Int) i = match Lib.decFrom v ((sbytes p0).drop i) with
    | some m => finD p0 m
    | none => (0, false) := by
  intro n
  induction n with
  | zero =>
    intro i v h hv
    have hp : 10 ^ i ≤ 10 ^ 10 := Nat.pow_le_pow_right (by omega) (by omega)
    rw [List.drop_eq_nil_of_le (by rw [sbytes_length]; omega)]
    show spec_ReadDecimal_l1 p0 0 (v : Int) i = finD p0 v
    rw [spec_ReadDecimal_l1, Decimal_twin (p0 := (v : Int)) (by unfold I64; omega)]
    rfl
  | succ n ih =>
    intro i v h hv
    have hlt : i < p0.size := by omega
    have hp : 10 ^ i ≤ 10 ^ 9 := Nat.pow_le_pow_right (by omega) (by omega)
    rw [spec_ReadDecimal_l1, byteAt_cons p0 hlt, Lib.decFrom]
    have hb := (byteAt p0 i).toNat_lt
    by_cases hd : 48 ≤ (byteAt p0 i).toNat ∧ (byteAt p0 i).toNat ≤ 57
    · rw [decide_eq_false (show ¬ ((byteAt p0 i).toNat : Int) < 48 by omega), decide_eq_false (show ¬ ((byteAt p0 i).toNat : Int) > 57 by omega)]
      have hdv : Lib.digitVal (byteAt p0 i) = some ((byteAt p0 i).toNat - 48) := by
        have key : ∀ k : Fin 256, 48 ≤ k.val → k.val ≤ 57 → Lib.digitVal (UInt8.ofNat k.val) = some (k.val - 48) := by decide +kernel
        have := key ⟨(byteAt p0 i).toNat, hb⟩ hd.1 hd.2
        simpa using this
      rw [hdv]
      simp only [Bool.or_self, cond_false]
      rw [IntWalk.i64_in (10 * (v : Int)) (by omega), IntWalk.i64_in ((byteAt p0 i).toNat : Int) (by omega), IntWalk.i64_in (10 * (v : Int) + ((byteAt p0 i).toNat : Int)) (by omega), IntWalk.i64_in (10 * (v : Int) + ((byteAt p0 i).toNat : Int) - 48) (by omega)]
      have e : (10 * (v : Int) + ((byteAt p0 i).toNat : Int) - 48) = ((v * 10 + ((byteAt p0 i).toNat - 48) : Nat) : Int) := by omega
      rw [e]
      exact ih (i + 1) _ (by omega) (by rw [Nat.pow_succ]; omega)
    · have hdv : Lib.digitVal (byteAt p0 i) = none := by
        have key : ∀ k : Fin 256, ¬ (48 ≤ k.val ∧ k.val ≤ 57) → Lib.digitVal (UInt8.ofNat k.val) = none := by decide +kernel
        have := key ⟨(byteAt p0 i).toNat, hb⟩ hd
        simpa using this
      rw [hdv]
      have : ((decide (((byteAt p0 i).toNat : Int) < 48)) || (decide (((byteAt p0 i).toNat : Int) > 57))) = true := by
        rcases Nat.lt_or_ge (byteAt p0 i).toNat 48 with h1 | h1
        · rw [decide_eq_true (show ((byteAt p0 i).toNat : Int) < 48 by omega)]
          rfl
        · rw [decide_eq_true (show ((byteAt p0 i).toNat : Int) > 57 by omega), Bool.or_true]
      rw [this]
      rfl
theorem spec_dec (p0 : ByteArray) (hs : p0.size ≤ 10) : spec_ReadDecimal p0 = match Lib.decFrom 0 (sbytes p0) with
    | some m => finD p0 m
    | none => (0, false) := by
  unfold spec_ReadDecimal
  rw [decide_eq_false (show ¬ (p0.size : Int) > 10 by omega)]
  exact spec_dec_l1 p0 hs (p0.size - 0) 0 0 (by omega) (by decide)
/-- What the program's reading says, told of a number that stands there. -/
def finI (p0 : ByteArray) (n : Int) : Int × Bool := bif (!(impl_within n 0 1000000000)) || (!decide ((impl_Decimal n) = p0)) then (0, false) else (n, true)
theorem impl_dec (p0 : ByteArray) : impl_ReadDecimal p0 = bif (atoi p0).2 then finI p0 (atoi p0).1 else (0, false) := by
  unfold impl_ReadDecimal finI
  cases (atoi p0).2 with
  | true => simp only [Bool.not_true, Bool.false_or, cond_true]
  | false => simp only [Bool.not_false, Bool.true_or, cond_true, cond_false]
theorem finI_nat (p0 : ByteArray) (m : Nat) : finI p0 (m : Int) = finD p0 m := by
  unfold finI finD
  by_cases h : m ≤ 1000000000
  · have h1 : impl_within (m : Int) 0 1000000000 = true := by
      unfold impl_within
      simp
      omega
    rw [h1, decide_eq_false (show ¬ (m : Int) > 1000000000 by omega)]
    rfl
  · have h1 : impl_within (m : Int) 0 1000000000 = false := by
      cases hw : impl_within (m : Int) 0 1000000000 with
      | false => rfl
      | true => exact absurd (impl_within_t hw) (by omega)
    rw [h1, decide_eq_true (show (m : Int) > 1000000000 by omega)]
    rfl
theorem finI_bad (p0 : ByteArray) (n : Int) (h : ∀ m : Nat, m ≤ 1000000000 → impl_Decimal (m : Int) ≠ p0) : finI p0 n = (0, false) := by
  unfold finI
  cases hw : impl_within n 0 1000000000 with
  | false => rfl
  | true =>
    have hb := impl_within_t hw
    obtain ⟨m, rfl⟩ : ∃ m : Nat, n = (m : Int) := ⟨n.toNat, by omega⟩
    rw [decide_eq_false (h m (by omega))]
    rfl
theorem ReadDecimal_twin (p0 : ByteArray) : impl_ReadDecimal p0 = spec_ReadDecimal p0 := by
  rw [impl_dec]
  by_cases hs : p0.size ≤ 10
  · rw [spec_dec p0 hs]
    have hl : (sbytes p0).length ≤ 18 := by rw [sbytes_length]; omega
    have ha : Lib.atoiAll p0.data.toList = Lib.NumEnd.ofOption (Lib.atoi p0.data.toList) := Lib.atoiAll_short _ hl
    have hno : Lib.decFrom 0 (sbytes p0) = none → ∀ m : Nat, m ≤ 1000000000 → impl_Decimal (m : Int) ≠ p0 := fun hn m _ e => by
      rw [← e, dec_list, decFrom_digits] at hn
      cases hn
    unfold atoi
    rw [ha]
    show (bif (match Lib.NumEnd.ofOption (Lib.atoi (sbytes p0)) with | .ok v => (v, true) | .range => (Lib.atoiSat p0.data.toList, false) | _ => (0, false)).2 then finI p0 (match Lib.NumEnd.ofOption (Lib.atoi (sbytes p0)) with | .ok v => (v, true) | .range => (Lib.atoiSat p0.data.toList, false) | _ => (0, false)).1 else (0, false)) = _
    cases hc : sbytes p0 with
    | nil =>
      show (0, false) = finD p0 0
      have : impl_Decimal ((0 : Nat) : Int) ≠ p0 := fun e => by
        rw [← e, dec_list, Lib.decDigits_one (by omega)] at hc
        cases hc
      unfold finD
      rw [decide_eq_false this]
      rfl
    | cons b r =>
      rw [hc] at hno
      by_cases h45 : b = 45
      · subst h45
        have hn : Lib.decFrom 0 (45 :: r) = none := rfl
        rw [hn]
        have hf := fun n => finI_bad p0 n (hno hn)
        simp only [hf]
        exact Bool.cond_self _ _
      · by_cases h43 : b = 43
        · subst h43
          have hn : Lib.decFrom 0 (43 :: r) = none := rfl
          rw [hn]
          have hf := fun n => finI_bad p0 n (hno hn)
          simp only [hf]
          exact Bool.cond_self _ _
        · have e : Lib.atoi (b :: r) = (Lib.decFrom 0 (b :: r)).map fun (m : Nat) => (m : Int) := by
            show (if (b == 45) = true then (Lib.decNat r).map (fun (m : Nat) => -(m : Int)) else if (b == 43) = true then (Lib.decNat r).map (fun (m : Nat) => (m : Int)) else (Lib.decNat (b :: r)).map (fun (m : Nat) => (m : Int))) = _
            rw [if_neg (by simpa using h45), if_neg (by simpa using h43)]
            rfl
          rw [e]
          cases Lib.decFrom 0 (b :: r) with
          | none => rfl
          | some m => exact finI_nat p0 m
  · have hsp : spec_ReadDecimal p0 = (0, false) := by
      unfold spec_ReadDecimal
      rw [decide_eq_true (show (p0.size : Int) > 10 by omega)]
      rfl
    rw [hsp]
    have hf := fun n => finI_bad p0 n fun m hm e => hs (by rw [← e]; exact dec_size hm)
    rw [hf]
    exact Bool.cond_self _ _
/-! ## Hexadecimal texts, read -/
theorem val_digit {d : Nat} (h : d < 16) : spec_l01Value (Lib.Hx.digit d) = (d : Int) := by
  have key : ∀ n : Fin 16, spec_l01Value (Lib.Hx.digit n.val) = (n.val : Int) := by decide +kernel
  exact key ⟨d, h⟩
theorem val_back (b : UInt8) (h : 0 ≤ spec_l01Value b) : (spec_l01Value b).toNat < 16 ∧ Lib.Hx.digit (spec_l01Value b).toNat = b := by
  have key : ∀ n : Fin 256, 0 ≤ spec_l01Value (UInt8.ofNat n.val) → (spec_l01Value (UInt8.ofNat n.val)).toNat < 16 ∧ Lib.Hx.digit (spec_l01Value (UInt8.ofNat n.val)).toNat = UInt8.ofNat n.val := by decide +kernel
  have e : UInt8.ofNat b.toNat = b := by simp
  have := key ⟨b.toNat, b.toNat_lt⟩
  simp only [e] at this
  exact this h
theorem byte_of {h l : Nat} (hh : h < 16) (hl : l < 16) : u8of (IntKind.i64.wrap ((IntKind.i64.wrap (16 * (h : Int))) + (l : Int))) = UInt8.ofNat (16 * h + l) := by
  have key : ∀ a b : Fin 16, u8of (IntKind.i64.wrap ((IntKind.i64.wrap (16 * (a.val : Int))) + (b.val : Int))) = UInt8.ofNat (16 * a.val + b.val) := by decide +kernel
  exact key ⟨h, hh⟩ ⟨l, hl⟩
theorem sbytes_hexEnc (xs : List UInt8) : sbytes (hexEnc xs) = Lib.Hx.encode xs := by
  show ((Lib.Hx.encode xs).toArray).toList = _
  rw [List.toList_toArray]
def kU (e : List UInt8) : ByteArray × Bool := (bstr e, true)
theorem unhex_good (p0 : ByteArray) : ∀ (raw : List UInt8) (i : Nat) (v : List UInt8) (fu : Nat), i + 2 * raw.length = p0.size → raw.length ≤ fu → (sbytes p0).drop i = Lib.Hx.encode raw → spec_Unhex_l1 p0 kU fu v i = (bstr (v ++ raw), true) := by
  intro raw
  induction raw with
  | nil =>
    intro i v fu h1 h2 h3
    have hi : decide ((i : Int) < (p0.size : Int)) = false := decide_eq_false (by simp only [List.length_nil] at h1; omega)
    rw [List.append_nil]
    cases fu with
    | zero => rfl
    | succ n => rw [spec_Unhex_l1, hi]; rfl
  | cons x r ih =>
    intro i v fu h1 h2 h3
    rw [List.length_cons] at h1 h2
    obtain ⟨f, rfl⟩ : ∃ f, fu = f + 1 := ⟨fu - 1, by omega⟩
    have hl1 : i < p0.size := by omega
    have hl2 : i + 1 < p0.size := by omega
    rw [drop_at p0 hl1, drop_at p0 hl2, Lib.Hx.encode_cons] at h3
    injection h3 with e1 h3
    injection h3 with e2 e3
    have hx := x.toNat_lt
    rw [spec_Unhex_l1, decide_eq_true (show (i : Int) < (p0.size : Int) by omega), e1, e2, val_digit (by omega), val_digit (by omega), decide_eq_false (show ¬ ((x.toNat / 16 : Nat) : Int) < 0 by omega), decide_eq_false (show ¬ ((x.toNat % 16 : Nat) : Int) < 0 by omega), byte_of (by omega) (by omega), show 16 * (x.toNat / 16) + x.toNat % 16 = x.toNat by omega]
    simp only [Bool.or_self, cond_true, cond_false]
    rw [ih (i + 2) _ f (by omega) (by omega) e3, show UInt8.ofNat x.toNat = x by simp, List.append_assoc]
    rfl
theorem unhex_back (p0 : ByteArray) (he : p0.size % 2 = 0) : ∀ (fu i : Nat) (v : List UInt8), i % 2 = 0 → i ≤ p0.size → p0.size - i ≤ fu →
    spec_Unhex_l1 p0 kU fu v i = (⟨#[]⟩, false) ∨ ∃ raw : List UInt8, (sbytes p0).drop i = Lib.Hx.encode raw ∧ i + 2 * raw.length = p0.size := by
  intro fu
  induction fu with
  | zero =>
    intro i v h1 h2 h3
    exact .inr ⟨[], List.drop_eq_nil_of_le (by rw [sbytes_length]; omega), by simp only [List.length_nil]; omega⟩
  | succ f ih =>
    intro i v h1 h2 h3
    by_cases hi : i < p0.size
    · have hl2 : i + 1 < p0.size := by omega
      rw [spec_Unhex_l1, decide_eq_true (show (i : Int) < (p0.size : Int) by omega)]
      by_cases hv : spec_l01Value (byteAt p0 i) < 0
      · rw [decide_eq_true hv]
        exact .inl rfl
      · by_cases hw : spec_l01Value (byteAt p0 (i + 1)) < 0
        · rw [decide_eq_true hw, Bool.or_true]
          exact .inl rfl
        · rw [decide_eq_false hv, decide_eq_false hw]
          simp only [Bool.or_self, cond_true, cond_false]
          obtain ⟨a1, a2⟩ := val_back (byteAt p0 i) (by omega)
          obtain ⟨b1, b2⟩ := val_back (byteAt p0 (i + 1)) (by omega)
          rcases ih (i + 2) (v ++ [u8of (IntKind.i64.wrap ((IntKind.i64.wrap (16 * (spec_l01Value (byteAt p0 i)))) + (spec_l01Value (byteAt p0 (i + 1)))))]) (by omega) (by omega) (by omega) with h | ⟨raw, hr, hs⟩
          · exact .inl h
          · refine .inr ⟨UInt8.ofNat (16 * (spec_l01Value (byteAt p0 i)).toNat + (spec_l01Value (byteAt p0 (i + 1))).toNat) :: raw, ?_, by rw [List.length_cons]; omega⟩
            have ex : (UInt8.ofNat (16 * (spec_l01Value (byteAt p0 i)).toNat + (spec_l01Value (byteAt p0 (i + 1))).toNat)).toNat = 16 * (spec_l01Value (byteAt p0 i)).toNat + (spec_l01Value (byteAt p0 (i + 1))).toNat := by
              have h := UInt8.toNat_ofNat' (n := 16 * (spec_l01Value (byteAt p0 i)).toNat + (spec_l01Value (byteAt p0 (i + 1))).toNat)
              rw [h]
              omega
            rw [drop_at p0 hi, drop_at p0 hl2, Lib.Hx.encode_cons, ex, hr]
            rw [show (16 * (spec_l01Value (byteAt p0 i)).toNat + (spec_l01Value (byteAt p0 (i + 1))).toNat) / 16 = (spec_l01Value (byteAt p0 i)).toNat by omega, show (16 * (spec_l01Value (byteAt p0 i)).toNat + (spec_l01Value (byteAt p0 (i + 1))).toNat) % 16 = (spec_l01Value (byteAt p0 (i + 1))).toNat by omega, a2, b2]
    · exact .inr ⟨[], List.drop_eq_nil_of_le (by rw [sbytes_length]; omega), by simp only [List.length_nil]; omega⟩
theorem decodeS_enc (raw : List UInt8) : decodeS (hexEnc raw) = (raw, true) := by
  unfold decodeS
  rw [show (hexEnc raw).data.toList = Lib.Hx.encode raw from sbytes_hexEnc raw, Lib.Hx.decode_encode]
theorem impl_unhex_good (raw : List UInt8) (h : raw.length ≤ 20000) : impl_Unhex (hexEnc raw) = (bstr raw, true) := by
  unfold impl_Unhex
  rw [decodeS_enc, decide_eq_false (show ¬ (((raw, true) : List UInt8 × Bool).1.length : Int) > 20000 by show ¬ (raw.length : Int) > 20000; omega), decide_eq_true (show hexEnc ((raw, true) : List UInt8 × Bool).1 = hexEnc raw from rfl)]
  rfl
theorem impl_unhex_bad (p0 : ByteArray) (h : ∀ raw : List UInt8, raw.length ≤ 20000 → hexEnc raw ≠ p0) : impl_Unhex p0 = (⟨#[]⟩, false) := by
  unfold impl_Unhex
  by_cases hl : (decodeS p0).1.length ≤ 20000
  · rw [decide_eq_false (h _ hl), Bool.not_false, Bool.or_true]
    rfl
  · rw [decide_eq_true (show ((decodeS p0).1.length : Int) > 20000 by omega), Bool.or_true, Bool.true_or]
    rfl
theorem hexEnc_of {p0 : ByteArray} {raw : List UInt8} (h : sbytes p0 = Lib.Hx.encode raw) : hexEnc raw = p0 := by
  unfold hexEnc
  rw [← h]
  rfl
theorem Unhex_twin (p0 : ByteArray) : impl_Unhex p0 = spec_Unhex p0 := by
  unfold spec_Unhex
  cases hc : (decide ((p0.size : Int) > 40000)) || (!decide ((Int.tmod (p0.size : Int) 2) = 0)) with
  | true =>
    rw [impl_unhex_bad p0 fun raw hl e => ?_]
    · rfl
    · have hs : p0.size = 2 * raw.length := by rw [← e, hexEnc_size]
      rw [decide_eq_false (show ¬ (p0.size : Int) > 40000 by omega)] at hc
      have ht : Int.tmod (p0.size : Int) 2 = 0 := by
        rw [hs]
        show (((2 * raw.length) % 2 : Nat) : Int) = 0
        omega
      rw [decide_eq_true ht] at hc
      cases hc
  | false =>
    have h1 : p0.size ≤ 40000 := by
      have := (Bool.or_eq_false_iff.1 hc).1
      simp at this
      omega
    have he := even_of (Bool.or_eq_false_iff.1 hc).2
    show impl_Unhex p0 = spec_Unhex_l1 p0 kU (p0.size - 0) [] 0
    rcases unhex_back p0 he (p0.size - 0) 0 [] rfl (Nat.zero_le _) (Nat.le_refl _) with h | ⟨raw, hr, hs⟩
    · rw [h]
      refine impl_unhex_bad p0 fun raw hl e => ?_
      have hs : p0.size = 2 * raw.length := by rw [← e, hexEnc_size]
      have := unhex_good p0 raw 0 [] (p0.size - 0) (by omega) (by omega) (by rw [List.drop_zero, ← e, sbytes_hexEnc])
      rw [h] at this
      cases this
    · rw [List.drop_zero] at hr
      have e := hexEnc_of hr
      rw [unhex_good p0 raw 0 [] (p0.size - 0) (by omega) (by omega) (by rw [List.drop_zero]; exact hr), List.nil_append]
      conv => lhs; rw [← e]
      exact impl_unhex_good raw (by omega)
theorem Equal_twin (a b : List ByteArray) : slices_Equal_string a b = spec_l03Same a b := by
  have key : ∀ n i, slices_Equal_string_l1 a b n i = spec_l03Same_l1 a b n i := by
    intro n
    induction n with
    | zero => intro i; rfl
    | succ n ih => intro i; rw [slices_Equal_string_l1, spec_l03Same_l1, ih]
  unfold slices_Equal_string spec_l03Same
  rw [key]

end Go.Proofs.YtnjidaonbcbphaaGreatDoor.Fw

/-
  The abstract machine: a field of an element of an own row is stored. No condition: every lemma is general in the program.
-/
namespace Go.Proofs.YtnjidaonbcbphaaGreatDoor.Fw
open Go.RowKit
set_option linter.unusedVariables false
set_option maxRecDepth 100000
def Fk.same {α : Type} (x y : α) : Fk α → Prop
  | .int g => g y = g x
  | .byte g => g y = g x
  | .bool g => g y = g x
  | .str g => g y = g x
  | .sl _ _ g => g y = g x
def Fk.scal {α : Type} (y : α) (u : Value) : Fk α → Prop
  | .int g => u = .int .i64 (g y) ∧ I64 (g y)
  | .byte g => u = .int .u8 (g y).toNat
  | .bool g => u = .bool (g y)
  | .str g => u = .string (g y) ∧ (g y).size ≤ maxLen
  | .sl _ _ _ => False
def FkSm {α : Type} (x y : α) : List (Fk α) → Prop
  | [] => True
  | f :: fs => f.same x y ∧ FkSm x y fs
/-- One field is another one, the others are the same. -/
def FkUp {α : Type} (x y : α) (u : Value) : List (Fk α) → Nat → Prop
  | [], _ => False
  | f :: fs, j => bif Nat.beq j 0 then f.scal y u ∧ FkSm x y fs else f.same x y ∧ FkUp x y u fs (Nat.pred j)
section
variable {α : Type} {x y : α} {u : Value} {w : World}
theorem Fk.own_sm {f : Fk α} (h : f.same x y) {v : Value} {F : List Nat} (ho : f.own w x v F) : f.own w y v F := by
  cases f <;> simp only [Fk.same] at h <;> simp only [Fk.own] at ho ⊢ <;> rw [h] <;> exact ho
theorem OwL_sm : ∀ {fs : List (Fk α)} {cs : List Value} {F : List Nat}, FkSm x y fs → OwL w x fs cs F → OwL w y fs cs F
  | [], _, _, _, h => h
  | f :: fs, _, _, h, ⟨v, r, G, H, e1, e2, hv, hr⟩ => ⟨v, r, G, H, e1, e2, Fk.own_sm h.1 hv, OwL_sm h.2 hr⟩
theorem OwL_up : ∀ {fs : List (Fk α)} {cs : List Value} {F : List Nat} {j : Nat}, FkUp x y u fs j → OwL w x fs cs F → OwL w y fs (cs.set j u) F
  | [], _, _, _, h, _ => h.elim
  | f :: fs, cs, F, j, h, ⟨v, r, G, H, e1, e2, hv, hr⟩ => by
    subst e1
    subst e2
    simp only [FkUp] at h
    cases j with
    | zero =>
      have h' : f.scal y u ∧ FkSm x y fs := h
      refine ⟨u, r, G, H, rfl, rfl, ?_, OwL_sm h'.2 hr⟩
      have h1 := h'.1
      cases f <;> simp only [Fk.scal] at h1 <;> simp only [Fk.own] at hv ⊢
      · exact ⟨h1, hv.2⟩
      · exact ⟨h1, hv.2⟩
      · exact ⟨h1, hv.2⟩
      · exact ⟨h1, hv.2⟩
    | succ j =>
      have h' : f.same x y ∧ FkUp x y u fs j := h
      exact ⟨v, r.set j u, G, H, rfl, rfl, Fk.own_sm h'.1 hv, OwL_up h'.2 hr⟩
theorem scal_one : ∀ {fs : List (Fk α)} {j : Nat}, FkUp x y u fs j → u.oneCell' = true ∧ u.cells = #[u] ∧ j < fs.length
  | [], _, h => h.elim
  | f :: fs, j, h => by
    simp only [FkUp] at h
    cases j with
    | zero =>
      have h1 : f.scal y u := (show f.scal y u ∧ FkSm x y fs from h).1
      refine ⟨?_, ?_, Nat.succ_pos _⟩ <;> cases f <;> simp only [Fk.scal] at h1
      · rw [h1.1]; rfl
      · rw [h1]; rfl
      · rw [h1]; rfl
      · rw [h1.1]; rfl
      · rw [h1.1]; rfl
      · rw [h1]; rfl
      · rw [h1]; rfl
      · rw [h1.1]; rfl
    | succ j =>
      obtain ⟨h1, h2, h3⟩ := scal_one (show f.same x y ∧ FkUp x y u fs j from h).2
      exact ⟨h1, h2, Nat.succ_lt_succ h3⟩
theorem OwL_length : ∀ {fs : List (Fk α)} {cs : List Value} {F : List Nat}, OwL w x fs cs F → cs.length = fs.length
  | [], _, _, h => by rw [h.1]; rfl
  | f :: fs, _, _, ⟨v, r, G, H, e1, e2, hv, hr⟩ => by rw [e1, List.length_cons, List.length_cons, OwL_length hr]
end
theorem cut_set {l : List Value} {k sz j : Nat} {u : Value} (hj : j < sz) (i : Nat) : Fw.cut sz (l.set (k * sz + j) u) i = if i = k then (Fw.cut sz l k).set j u else Fw.cut sz l i := by
  unfold Fw.cut
  apply List.ext_getElem?
  intro n
  by_cases e : i = k
  · subst e
    rw [if_pos rfl, List.getElem?_take, List.getElem?_set]
    by_cases hn : n < sz
    · rw [if_pos hn, List.getElem?_drop, List.getElem?_set, List.getElem?_take, if_pos hn, List.getElem?_drop]
      by_cases hjn : j = n
      · subst hjn
        rw [if_pos rfl, if_pos rfl]
        by_cases hl : i * sz + j < l.length
        · rw [if_pos hl, if_pos (by rw [List.length_take, List.length_drop]; omega)]
        · rw [if_neg hl, if_neg (by rw [List.length_take, List.length_drop]; omega)]
      · rw [if_neg (by omega), if_neg hjn]
    · rw [if_neg hn, if_neg (by omega), List.getElem?_take, if_neg hn]
  · rw [if_neg e, List.getElem?_take, List.getElem?_take]
    by_cases hn : n < sz
    · rw [if_pos hn, if_pos hn, List.getElem?_drop, List.getElem?_drop, List.getElem?_set, if_neg]
      intro h
      rcases Nat.lt_or_gt_of_ne e with h1 | h1
      · have := Nat.mul_le_mul_right sz (show i + 1 ≤ k by omega)
        rw [Nat.succ_mul] at this
        omega
      · have := Nat.mul_le_mul_right sz (show k + 1 ≤ i by omega)
        rw [Nat.succ_mul] at this
        omega
    · rw [if_neg hn, if_neg hn]
theorem put1 {arr : Array Value} {off : Nat} {u : Value} (h : off < arr.size) : putCells arr off 1 [u] = (arr.toList.set off u).toArray := by
  unfold putCells
  rw [List.set_eq_take_append_cons_drop, if_pos (by rw [Array.length_toList]; exact h), List.append_assoc]
  rfl
section
variable {c : Cx} {σ : St} {all : Array Oper} {ty : TypeId} {pos : String} {after : Array Edge} {d : Nat}
theorem OpS.stF {α : Type} {dα : Dat α} [s : @Str α dα] [Inhabited α] {t : Nat} {x v : Operand} {r off : Nat} {xs : List α} (k j : Nat) (y : α) {u : Value} (hx : ev σ.ρ x = some (.pt r off)) (hoff : off = k * Dat.sz α + j) (hr : lkE σ.E r = some (.own α dα xs)) (hk : k < xs.length)
    (hv : ev σ.ρ v = some (.v u)) (ht : (c.ti t).cells = some 1) (hu : FkUp (nth xs k) y u s.fk j) :
    OpS c σ all ⟨none, .store t x v, ty, pos, after, none⟩ ⟨σ.n, σ.m, σ.ρ, putE r (r, .own α dα (xs.set k y)) σ.E⟩ :=
  OpS.of fun θ a w h K Q hK => by
    subst hoff
    obtain ⟨S, w1, hh⟩ := h.heap
    obtain ⟨l, hl, hown⟩ := hh.own hr
    obtain ⟨h1, hcells, hj⟩ := scal_one hu
    have hve := h.env.con hv
    simp only [V.con, Option.some.injEq] at hve
    rcases hown with ⟨e1, e2, _⟩ | ⟨g, cap, arr, T, Fs, e1, e2, e3, e4, e5, e6, e7, e8⟩
    · rw [e2] at hk; exact absurd hk (by simp)
    obtain ⟨A, cap', F⟩ := l
    injection e1 with e1a e1b e1c
    simp only at e1a e1c e6
    subst e1a
    subst e1c
    subst e6
    have hnk : xs[k]? = some (nth xs k) := by
      unfold nth
      rw [List.getD_eq_getElem?_getD, List.getElem?_eq_getElem hk]
      rfl
    obtain ⟨Gk, hGk, hok⟩ := e8 k _ hnk
    have hjs : j < Dat.sz α := by
      have e := OwL_length (s.oop hok)
      have := Dat.rd_len (Dat.own_rd (B := fun _ => True) hok fun _ _ => trivial)
      omega
    have hle : k * Dat.sz α + Dat.sz α ≤ arr.size := by
      have h1 : (k + 1) * Dat.sz α ≤ cap' * Dat.sz α := Nat.mul_le_mul_right _ (by omega)
      rw [Nat.succ_mul] at h1
      omega
    have hxe := h.env.con hx
    simp only [V.con, hl, Option.some.injEq] at hxe
    have e : (⟨g, 0, none⟩ : Addr).add (k * Dat.sz α + j) = ⟨g, k * Dat.sz α + j, none⟩ := by unfold Addr.add; split <;> simp_all
    have hst := run_storeCells_at c.P g (k * Dat.sz α + j) T [u] 0 arr w e2 (by rw [List.length_singleton]; omega) (fun x hx => by rw [List.mem_singleton.1 hx]; exact h1)
    have hsz : ∀ w, (sizeOf t).run c.P w = .ok 1 w := fun w => TI.cells_size (c.tiok t) ht w
    have hrun : (execOp a.eval ⟨none, .store t x v, ty, pos, after, none⟩).run c.P w = .ok .skip (w.setRow g (putCells arr (k * Dat.sz α + j) 1 [u])) := by
      have hs : (a.eval v).cells.size = 1 := by rw [← hve, hcells]; rfl
      simp only [execOp, ← hxe, Instr.storeAt, Instr.sureAddr, storeVar, Sem.run_bind, Sem.run_pure, Result.andThen_ok, hsz, hs, ne_eq, not_true_eq_false, if_false, e]
      rw [← hve, hcells, show (#[u] : Array Value).toList = [u] from rfl, hst]
      simp only [Nat.add_zero, List.length_singleton, Result.andThen_ok, putCells]
    unfold Oper.wp
    rw [hrun, put1 (by omega)]
    have hck : ((En.own α dα xs).ck θ r).F = g :: Fs.flatten := locF_of hl
    have hother : ∀ b, b ≠ g → (w.setRow g (arr.toList.set (k * Dat.sz α + j) u).toArray).heap[b]? = w.heap[b]? := fun b hb => setRow_other w g b _ hb
    refine hK [] _ _ ⟨by rw [List.append_nil]; exact h.len, by rw [List.append_nil]; exact h.env, S, w1, ?_⟩
    rw [List.append_nil]
    have hnd := hh.sh.nd (k := (putE_get hr).choose) (c := (En.own α dα xs).ck θ r) (by rw [List.getElem?_map, (putE_get hr).choose_spec.1]; rfl)
    rw [hck] at hnd
    have hgF : g ∉ Fs.flatten := (List.nodup_cons.1 hnd).1
    refine hh.turn hr (p := (r, .own α dα (xs.set k y))) rfl rfl rfl (by simp) (fun b _ hb => hother b fun e => hb (by rw [hck, e]; exact List.mem_cons_self)) ?_ ?_ ?_ trivial
    · intro w2 hw2
      have hF' : ((En.own α dα (xs.set k y)).ck θ r).F = g :: Fs.flatten := locF_of hl
      refine ⟨_, hl, SlO_iff.2 (.inr ⟨g, cap', (arr.toList.set (k * Dat.sz α + j) u).toArray, T, Fs, rfl, ?_, by rw [List.length_set]; exact e3, e4, by rw [List.size_toArray, List.length_set, Array.length_toList]; exact e5, rfl, by rw [List.length_set]; exact e7, fun i x hi => ?_⟩)⟩
      · exact (hw2 g (by rw [hF']; exact List.mem_cons_self)).trans (setRow_heap w g arr _ T _ e2)
      · have hsame : ∀ G, Fs[i]? = some G → ∀ b ∈ G, w2.heap[b]? = w.heap[b]? := fun G hG b hb => by
          have hbf : b ∈ Fs.flatten := List.mem_flatten.2 ⟨G, List.mem_of_getElem? hG, hb⟩
          exact (hw2 b (by rw [hF']; exact List.mem_cons_of_mem _ hbf)).trans (hother b fun e => hgF (e ▸ hbf))
        rw [show ((arr.toList.set (k * Dat.sz α + j) u).toArray.toList) = arr.toList.set (k * Dat.sz α + j) u from rfl, cut_set hjs]
        rw [List.getElem?_set] at hi
        by_cases e : k = i
        · subst e
          rw [if_pos rfl, if_pos hk] at hi
          cases hi
          rw [if_pos rfl]
          exact ⟨Gk, hGk, Dat.own_same (s.omk (OwL_up hu (s.oop hok))) (hsame Gk hGk)⟩
        · rw [if_neg e] at hi
          rw [if_neg (fun h => e h.symm)]
          obtain ⟨G, hG, ho⟩ := e8 i x hi
          exact ⟨G, hG, Dat.own_same ho (hsame G hG)⟩
    · intro b hb
      have hb' : b ∈ g :: Fs.flatten := by
        have : ((r, En.own α dα (xs.set k y)).2.ck θ (r, En.own α dα (xs.set k y)).1).F = g :: Fs.flatten := locF_of hl
        rwa [this] at hb
      refine ⟨.inl (by rw [hck]; exact hb'), ?_⟩
      rw [size_setRow]
      exact (hh.sh.ge _ (List.mem_map.2 ⟨_, lkE_mem hr, rfl⟩) b (by rw [hck]; exact hb')).2
    · show (locF θ r).Nodup
      rw [locF_of hl]
      exact hnd
end
end Go.Proofs.YtnjidaonbcbphaaGreatDoor.Fw

/-
  The abstract machine: regions parted at a truth, least and greatest of two numbers, texts compared by order. No condition: every lemma is general in the program.
-/
namespace Go.Proofs.YtnjidaonbcbphaaGreatDoor.Fw
open Go.RowKit
set_option linter.unusedVariables false
set_option maxRecDepth 100000
theorem Run.midO {c : Cx} {res : List Re} {σ : St} {l : List Oper} {all : Array Oper} {k : List It} (σ2 : St) (h : Run c res σ (.ops l all :: .goal (At c σ2) :: k)) (hk : Run c res σ2 k) : Run c res σ (.ops l all :: k) := by
  intro θ a w hR
  rw [kQ_ops]
  refine wpList_mid (Mid := At c σ2) l l.length a w ?_ ?_
  · rw [List.take_length]
    exact h θ a w hR
  · rw [List.drop_length]
    rintro a w ⟨θ', hR'⟩
    exact hk θ' a w hR'
theorem Run.midOP {c : Cx} {res : List Re} {σ : St} {l : List Oper} {all : Array Oper} {k : List It} (σ2 : St) (P : Prop) (h : Run c res σ (.ops l all :: .goal (AtP c σ2 P) :: k)) (hk : P → Run c res σ2 k) : Run c res σ (.ops l all :: k) := by
  intro θ a w hR
  rw [kQ_ops]
  refine wpList_mid (Mid := AtP c σ2 P) l l.length a w ?_ ?_
  · rw [List.take_length]
    exact h θ a w hR
  · rw [List.drop_length]
    rintro a w ⟨hP, θ', hR'⟩
    exact hk hP θ' a w hR'
/-- A truth is told. -/
theorem Run.bc {c : Cx} {res : List Re} {σ : St} {k : List It} (t : Nat) {b : Bool} (hl : lk σ.ρ t = some (.v (.bool b))) (ht : b = true → Run c res ⟨σ.n, σ.m, (t, .v (.bool true)) :: σ.ρ, σ.E⟩ k) (hf : b = false → Run c res ⟨σ.n, σ.m, (t, .v (.bool false)) :: σ.ρ, σ.E⟩ k) : Run c res σ k := by
  intro θ a w hR
  have key : ∀ b', b = b' → R c θ ⟨σ.n, σ.m, (t, .v (.bool b')) :: σ.ρ, σ.E⟩ a w := fun b' hb => by
    subst hb
    refine ⟨hR.len, ⟨hR.env.size, hR.env.defers, fun t' v hv => ?_⟩, hR.heap⟩
    simp only [lk] at hv
    by_cases e : Nat.beq t t' = true
    · rw [e] at hv
      obtain rfl := Nat.eq_of_beq_eq_true e
      cases hv
      exact hR.env.get t _ hl
    · rw [Bool.not_eq_true] at e
      rw [e] at hv
      exact hR.env.get t' v hv
  cases hb : b with
  | true => exact ht hb θ a w (key _ hb)
  | false => exact hf hb θ a w (key _ hb)
section
variable {P : Program} {n : Nat} {ρ : List (Nat × Value)} {a : Act} {w : World} {ty : TypeId}
theorem y_min (hE : Env n ρ a) {x y : Operand} {ts : Array TypeId} {k q : IntKind} {i j : Int} (hx : ev? ρ x = some (.int k i)) (hy : ev? ρ y = some (.int q j)) :
    Yields P a w (.call { callee := .builtin .min, args := #[x, y], argTypes := ts }) ty (.int k (min i j)) := by
  intro _ _ _ _
  have e : (if j < i then j else i) = min i j := by split <;> omega
  simp [execOp, resolve, hE.eval hx, hE.eval hy, invoke, builtin, Builtin.min_, Builtin.min2, e]
theorem y_max (hE : Env n ρ a) {x y : Operand} {ts : Array TypeId} {k q : IntKind} {i j : Int} (hx : ev? ρ x = some (.int k i)) (hy : ev? ρ y = some (.int q j)) :
    Yields P a w (.call { callee := .builtin .max, args := #[x, y], argTypes := ts }) ty (.int k (max i j)) := by
  intro _ _ _ _
  have e : (if i < j then j else i) = max i j := by split <;> omega
  simp [execOp, resolve, hE.eval hx, hE.eval hy, invoke, builtin, Builtin.max_, Builtin.max2, e]
theorem y_min3 (hE : Env n ρ a) {x y z : Operand} {ts : Array TypeId} {k q q' : IntKind} {i j m : Int} (hx : ev? ρ x = some (.int k i)) (hy : ev? ρ y = some (.int q j)) (hz : ev? ρ z = some (.int q' m)) :
    Yields P a w (.call { callee := .builtin .min, args := #[x, y, z], argTypes := ts }) ty (.int k (min (min i j) m)) := by
  intro _ _ _ _
  have e : (if j < i then j else i) = min i j := by split <;> omega
  have e' : (if m < min i j then m else min i j) = min (min i j) m := by split <;> omega
  simp [execOp, resolve, hE.eval hx, hE.eval hy, hE.eval hz, invoke, builtin, Builtin.min_, Builtin.min2, e, e']
/-- Texts in order, byte by byte. -/
def ltB (x y : ByteArray) : Bool := Op.bytesLess x.toList y.toList
theorem y_lss_string (hE : Env n ρ a) {x y : Operand} {t t' : Nat} {i j : ByteArray} (hx : ev? ρ x = some (.string i)) (hy : ev? ρ y = some (.string j)) :
    Yields P a w (.binOp .lss t x y t') ty (.bool (ltB i j)) := by
  intro _ _ _ _
  simp only [execOp, hE.eval hx, hE.eval hy, eqGuard_at_string, binOp, Op.stringOp, string_eq, Sem.run_bind, Sem.run_pure, Result.andThen_ok, ltB]
theorem y_leq_string (hE : Env n ρ a) {x y : Operand} {t t' : Nat} {i j : ByteArray} (hx : ev? ρ x = some (.string i)) (hy : ev? ρ y = some (.string j)) :
    Yields P a w (.binOp .leq t x y t') ty (.bool (ltB i j || decide (i = j))) := by
  intro _ _ _ _
  simp only [execOp, hE.eval hx, hE.eval hy, eqGuard_at_string, binOp, Op.stringOp, string_eq, Sem.run_bind, Sem.run_pure, Result.andThen_ok, ltB]
theorem y_gtr_string (hE : Env n ρ a) {x y : Operand} {t t' : Nat} {i j : ByteArray} (hx : ev? ρ x = some (.string i)) (hy : ev? ρ y = some (.string j)) :
    Yields P a w (.binOp .gtr t x y t') ty (.bool (!(ltB i j || decide (i = j)))) := by
  intro _ _ _ _
  simp only [execOp, hE.eval hx, hE.eval hy, eqGuard_at_string, binOp, Op.stringOp, string_eq, Sem.run_bind, Sem.run_pure, Result.andThen_ok, ltB]
theorem y_geq_string (hE : Env n ρ a) {x y : Operand} {t t' : Nat} {i j : ByteArray} (hx : ev? ρ x = some (.string i)) (hy : ev? ρ y = some (.string j)) :
    Yields P a w (.binOp .geq t x y t') ty (.bool (!(ltB i j))) := by
  intro _ _ _ _
  simp only [execOp, hE.eval hx, hE.eval hy, eqGuard_at_string, binOp, Op.stringOp, string_eq, Sem.run_bind, Sem.run_pure, Result.andThen_ok, ltB]
end
section
variable {c : Cx} {σ : St} {all : Array Oper} {ty : TypeId} {pos : String} {after : Array Edge} {d : Nat}
theorem OpS.min2 {x y : Operand} {ts : Array TypeId} {k q : IntKind} {i j : Int} (hx : ev σ.ρ x = some (.v (.int k i))) (hy : ev σ.ρ y = some (.v (.int q j))) (hd : Nat.blt d σ.n = true) :
    OpS c σ all ⟨some d, .call { callee := .builtin .min, args := #[x, y], argTypes := ts }, ty, pos, after, none⟩ (put d (.v (.int k (min i j))) σ) :=
  OpS.of fun θ a w h K Q hK => by
    unfold Oper.wp
    rw [y_min (P := c.P) (w := w) (ty := ty) h.env.env (h.env.isv hx) (h.env.isv hy)]
    exact hK [] _ _ (h.put hd rfl).app0
theorem OpS.max2 {x y : Operand} {ts : Array TypeId} {k q : IntKind} {i j : Int} (hx : ev σ.ρ x = some (.v (.int k i))) (hy : ev σ.ρ y = some (.v (.int q j))) (hd : Nat.blt d σ.n = true) :
    OpS c σ all ⟨some d, .call { callee := .builtin .max, args := #[x, y], argTypes := ts }, ty, pos, after, none⟩ (put d (.v (.int k (max i j))) σ) :=
  OpS.of fun θ a w h K Q hK => by
    unfold Oper.wp
    rw [y_max (P := c.P) (w := w) (ty := ty) h.env.env (h.env.isv hx) (h.env.isv hy)]
    exact hK [] _ _ (h.put hd rfl).app0
theorem OpS.min3 {x y z : Operand} {ts : Array TypeId} {k q q' : IntKind} {i j m : Int} (hx : ev σ.ρ x = some (.v (.int k i))) (hy : ev σ.ρ y = some (.v (.int q j))) (hz : ev σ.ρ z = some (.v (.int q' m))) (hd : Nat.blt d σ.n = true) :
    OpS c σ all ⟨some d, .call { callee := .builtin .min, args := #[x, y, z], argTypes := ts }, ty, pos, after, none⟩ (put d (.v (.int k (min (min i j) m))) σ) :=
  OpS.of fun θ a w h K Q hK => by
    unfold Oper.wp
    rw [y_min3 (P := c.P) (w := w) (ty := ty) h.env.env (h.env.isv hx) (h.env.isv hy) (h.env.isv hz)]
    exact hK [] _ _ (h.put hd rfl).app0
def cmpB : BinOp → ByteArray → ByteArray → Option Bool
  | .lss, i, j => some (ltB i j)
  | .leq, i, j => some (ltB i j || decide (i = j))
  | .gtr, i, j => some (!(ltB i j || decide (i = j)))
  | .geq, i, j => some (!(ltB i j))
  | _, _, _ => none
theorem OpS.scmp {o : BinOp} {t t' : Nat} {x y : Operand} {i j : ByteArray} {b : Bool} (hx : ev σ.ρ x = some (.v (.string i))) (hy : ev σ.ρ y = some (.v (.string j))) (hc : cmpB o i j = some b) (hd : Nat.blt d σ.n = true) :
    OpS c σ all ⟨some d, .binOp o t x y t', ty, pos, after, none⟩ (put d (.v (.bool b)) σ) :=
  OpS.of fun θ a w h K Q hK => by
    have hyy : Yields c.P a w (.binOp o t x y t') ty (.bool b) := by
      cases o <;> simp only [cmpB] at hc <;> cases hc
      · exact y_lss_string h.env.env (h.env.isv hx) (h.env.isv hy)
      · exact y_leq_string h.env.env (h.env.isv hx) (h.env.isv hy)
      · exact y_gtr_string h.env.env (h.env.isv hx) (h.env.isv hy)
      · exact y_geq_string h.env.env (h.env.isv hx) (h.env.isv hy)
    unfold Oper.wp
    rw [hyy]
    exact hK [] _ _ (h.put hd rfl).app0
end
end Go.Proofs.YtnjidaonbcbphaaGreatDoor.Fw

/-
  The steps of the later kinds. No condition.
-/
namespace Go.Proofs.YtnjidaonbcbphaaGreatDoor.Fw
open Go.RowKit
set_option linter.unusedVariables false
set_option maxRecDepth 100000
section
variable {fn : Func} {Bz : Bs} {S1 : Nat → Prop} {w1 : World} {hk1 : Keep Bz.S0 Bz.w w1} {hs1 : ∀ b, Bz.S0 b → S1 b} {hd1 : ∀ b, S1 b → b < w1.heap.size} {res : List Re} {k : List It} {σ σ' : St} {all : Array Oper} {ty : TypeId} {pos : String} {after : Array Edge} {d : Nat}
theorem sF {α : Type} {dα : Dat α} [s : @Str α dα] [Inhabited α] {t : Nat} {x v : Operand} {r off : Nat} {xs : List α} {u : Value} (kk j : Nat) (y : α) (hu : FkUp (nth xs kk) y u s.fk j) (hk : kk < xs.length) (hx : ev σ.ρ x = some (.pt r off) := by dsimp only [ev, evs, evsG, cons2, lk, lkE, cond, Nat.beq, evG, stO', V.strip, grd, grdO, nthO, gB, gBV, Nat.pred, wnt, List.toList_toArray, List.cons_append, List.nil_append, List.append_nil]) (hr : lkE σ.E r = some (.own α dα xs) := by dsimp only [ev, evs, evsG, cons2, lk, lkE, cond, Nat.beq, evG, stO', V.strip, grd, grdO, nthO, gB, gBV, Nat.pred, wnt, List.toList_toArray, List.cons_append, List.nil_append, List.append_nil]) (hv : ev σ.ρ v = some (.v u) := by dsimp only [ev, evs, evsG, cons2, lk, lkE, cond, Nat.beq, evG, stO', V.strip, grd, grdO, nthO, gB, gBV, Nat.pred, wnt, List.toList_toArray, List.cons_append, List.nil_append, List.append_nil]) (hoff : off = kk * Dat.sz α + j := by rfl) (ht : (ti t).cells = some 1 := by rfl) :
    OpS (cx fn Bz S1 w1 hk1 hs1 hd1) σ all ⟨none, .store t x v, ty, pos, after, none⟩ ⟨σ.n, σ.m, σ.ρ, putE r (r, .own α dα (xs.set kk y)) σ.E⟩ := OpS.stF kk j y hx hoff hr hk hv ht hu
theorem bN {x y : Operand} {ts : Array TypeId} {k q : IntKind} {i j : Int} (hx : ev σ.ρ x = some (.v (.int k i)) := by dsimp only [ev, evs, evsG, cons2, lk, lkE, cond, Nat.beq, evG, stO', V.strip, grd, grdO, nthO, gB, gBV, Nat.pred, wnt, List.toList_toArray, List.cons_append, List.nil_append, List.append_nil]) (hy : ev σ.ρ y = some (.v (.int q j)) := by dsimp only [ev, evs, evsG, cons2, lk, lkE, cond, Nat.beq, evG, stO', V.strip, grd, grdO, nthO, gB, gBV, Nat.pred, wnt, List.toList_toArray, List.cons_append, List.nil_append, List.append_nil]) (hd : Nat.blt d σ.n = true := by rfl) :
    OpS (cx fn Bz S1 w1 hk1 hs1 hd1) σ all ⟨some d, .call { callee := .builtin .min, args := #[x, y], argTypes := ts }, ty, pos, after, none⟩ (put d (.v (.int k (min i j))) σ) := OpS.min2 hx hy hd
theorem bX {x y : Operand} {ts : Array TypeId} {k q : IntKind} {i j : Int} (hx : ev σ.ρ x = some (.v (.int k i)) := by dsimp only [ev, evs, evsG, cons2, lk, lkE, cond, Nat.beq, evG, stO', V.strip, grd, grdO, nthO, gB, gBV, Nat.pred, wnt, List.toList_toArray, List.cons_append, List.nil_append, List.append_nil]) (hy : ev σ.ρ y = some (.v (.int q j)) := by dsimp only [ev, evs, evsG, cons2, lk, lkE, cond, Nat.beq, evG, stO', V.strip, grd, grdO, nthO, gB, gBV, Nat.pred, wnt, List.toList_toArray, List.cons_append, List.nil_append, List.append_nil]) (hd : Nat.blt d σ.n = true := by rfl) :
    OpS (cx fn Bz S1 w1 hk1 hs1 hd1) σ all ⟨some d, .call { callee := .builtin .max, args := #[x, y], argTypes := ts }, ty, pos, after, none⟩ (put d (.v (.int k (max i j))) σ) := OpS.max2 hx hy hd
theorem b3 {x y z : Operand} {ts : Array TypeId} {k q q' : IntKind} {i j m : Int} (hx : ev σ.ρ x = some (.v (.int k i)) := by dsimp only [ev, evs, evsG, cons2, lk, lkE, cond, Nat.beq, evG, stO', V.strip, grd, grdO, nthO, gB, gBV, Nat.pred, wnt, List.toList_toArray, List.cons_append, List.nil_append, List.append_nil]) (hy : ev σ.ρ y = some (.v (.int q j)) := by dsimp only [ev, evs, evsG, cons2, lk, lkE, cond, Nat.beq, evG, stO', V.strip, grd, grdO, nthO, gB, gBV, Nat.pred, wnt, List.toList_toArray, List.cons_append, List.nil_append, List.append_nil]) (hz : ev σ.ρ z = some (.v (.int q' m)) := by dsimp only [ev, evs, evsG, cons2, lk, lkE, cond, Nat.beq, evG, stO', V.strip, grd, grdO, nthO, gB, gBV, Nat.pred, wnt, List.toList_toArray, List.cons_append, List.nil_append, List.append_nil]) (hd : Nat.blt d σ.n = true := by rfl) :
    OpS (cx fn Bz S1 w1 hk1 hs1 hd1) σ all ⟨some d, .call { callee := .builtin .min, args := #[x, y, z], argTypes := ts }, ty, pos, after, none⟩ (put d (.v (.int k (min (min i j) m))) σ) := OpS.min3 hx hy hz hd
theorem sQ {o : BinOp} {t t' : Nat} {x y : Operand} {i j : ByteArray} {b : Bool} (hx : ev σ.ρ x = some (.v (.string i)) := by dsimp only [ev, evs, evsG, cons2, lk, lkE, cond, Nat.beq, evG, stO', V.strip, grd, grdO, nthO, gB, gBV, Nat.pred, wnt, List.toList_toArray, List.cons_append, List.nil_append, List.append_nil]) (hy : ev σ.ρ y = some (.v (.string j)) := by dsimp only [ev, evs, evsG, cons2, lk, lkE, cond, Nat.beq, evG, stO', V.strip, grd, grdO, nthO, gB, gBV, Nat.pred, wnt, List.toList_toArray, List.cons_append, List.nil_append, List.append_nil]) (hc : cmpB o i j = some b := by rfl) (hd : Nat.blt d σ.n = true := by rfl) :
    OpS (cx fn Bz S1 w1 hk1 hs1 hd1) σ all ⟨some d, .binOp o t x y t', ty, pos, after, none⟩ (put d (.v (.bool b)) σ) := OpS.scmp hx hy hc hd
theorem adL {id : Nat} {ops ops' : Array Oper} {l : List Oper} (h : Run (cx fn Bz S1 w1 hk1 hs1 hd1) res σ (.ops l ops' :: k)) (ho : ops = ops' := by dsimp only [List.append]) (hl : ops'.toList = l := by dsimp only [List.toList_toArray]) : Run (cx fn Bz S1 w1 hk1 hs1 hd1) res σ (.code (.region id ops false) :: k) := by
  subst ho
  subst hl
  exact Run.advN 1 rfl h
theorem bc (t : Nat) {b : Bool} (ht : b = true → Run (cx fn Bz S1 w1 hk1 hs1 hd1) res ⟨σ.n, σ.m, (t, .v (.bool true)) :: σ.ρ, σ.E⟩ k) (hf : b = false → Run (cx fn Bz S1 w1 hk1 hs1 hd1) res ⟨σ.n, σ.m, (t, .v (.bool false)) :: σ.ρ, σ.E⟩ k) (hl : lk σ.ρ t = some (.v (.bool b)) := by dsimp only [ev, evs, evsG, cons2, lk, lkE, cond, Nat.beq, evG, stO', V.strip, grd, grdO, nthO, gB, gBV, Nat.pred, wnt, List.toList_toArray, List.cons_append, List.nil_append, List.append_nil]) : Run (cx fn Bz S1 w1 hk1 hs1 hd1) res σ k := Run.bc t hl ht hf
end
theorem lt_toN {i : Nat} {x : Int} (h : (i : Int) < x) : i < x.toNat := by omega
theorem nlt_toN {i : Nat} {x : Int} (h : ¬ (i : Int) < x) : ¬ i < x.toNat := by omega
theorem sub_S {i n : Nat} (h : i < n) : n - i = (n - (i + 1)) + 1 := by omega
theorem sub_Z {i n : Nat} (h : ¬ i < n) : n - i = 0 := by omega
end Go.Proofs.YtnjidaonbcbphaaGreatDoor.Fw

/- Contracts: each call returns what the model says. By program (wip/am/gen2.py). -/
namespace Go.Proofs.YtnjidaonbcbphaaGreatDoor.Fw
open Go.RowKit
set_option linter.unusedVariables false
set_option maxRecDepth 100000

theorem fok165 : FnOk Tryz.prog 165 := ⟨_, Tryz.func165, rfl, by kernel_rfl⟩
theorem fok191 : FnOk Tryz.prog 191 := ⟨_, Tryz.func191, rfl, by kernel_rfl⟩
theorem fok212 : FnOk Tryz.prog 212 := ⟨_, Tryz.func212, rfl, by kernel_rfl⟩
theorem fok213 : FnOk Tryz.prog 213 := ⟨_, Tryz.func213, rfl, by kernel_rfl⟩
theorem fok214 : FnOk Tryz.prog 214 := ⟨_, Tryz.func214, rfl, by kernel_rfl⟩
/- F145 loop.example/g00974/spec.GetKey -/
def spec_GetKey_l1 (p0 : List Cell) (p1 : ByteArray) : Nat → Nat → ByteArray
  | 0, i => ⟨#[]⟩
  | n + 1, i => bif decide (((nth p0 i).Key) = p1) then ((nth p0 i).Val) else (spec_GetKey_l1 p0 p1 n (i + 1))
def spec_GetKey (p0 : List Cell) (p1 : ByteArray) : ByteArray := spec_GetKey_l1 p0 p1 (p0.length - 0) 0
theorem c_spec_GetKey (p0 : List Cell) (p1 : ByteArray) : CTs 145 [.o (.sl Cell instDatCell p0), .o (.c (.string p1))] [Re.c (.string (spec_GetKey p0 p1))] := by
  refine en Tryz.func145 Tryz.ntmps145 fun w hG hgd => ?_
  obtain ⟨hg_p0, _⟩ := hgd
  have hl_p0 : p0.length ≤ 9223372036854775807 := hg_p0.1
  have hM := spec_GetKey.eq_1 p0 p1
  refine ad 10 ?_
  refine Run.loopM (ι := Nat) (fun s => spec_GetKey_l1 p0 p1 (p0.length - s) s) (fun s => ⟨24, 1, [(0, .sl 0 p0.length), (1, .v (.string p1)), (5, .v (.int .i64 (s : Int)))], [(0, .ros Cell instDatCell p0)]⟩) (fun s => s ≤ p0.length) (fun s => p0.length - s) 0 [0] [0] hM (by first | exact ⟨by omega, by simp⟩ | omega | simp | (dsimp only; omega)) su (by decide) ?_
  rintro i hv hE
  try dsimp only at hE
  have hi := hv
  try dsimp only at hi
  refine ad 8 ?_
  refine cd (fun h1 => ?_) (fun h1 => ?_)
  ·
    have h1l : i < p0.length := by have := of_decide_eq_true h1; omega
    have hM := hE.trans ((congrArg (fun n => spec_GetKey_l1 p0 p1 n i) (show p0.length - i = (p0.length - (i + 1)) + 1 by omega)).trans (spec_GetKey_l1.eq_2 _ _ _ _))
    refine ad 7 ?_
    have hg3 := good_nth (k := i) hg_p0 om
    refine op (ix (xs := p0) i om) ?_
    refine ad 5 ?_
    refine cd (fun h4 => ?_) (fun h4 => ?_)
    ·
      have hM := hM.trans (bt h4)
      refine ad 4 ?_
      have hg6 := good_nth (k := i) hg_p0 om
      refine op (ix (xs := p0) i om) ?_
      refine ad 4 ?_
      exact rz (rs := [.tmp 4]) (congrArg (fun x => [Re.c (.string x)]) hM)
    ·
      have hM := hM.trans (bf h4)
      refine ad 5 ?_
      rw [wrapN (i := i) (by first | omega | exact om)]
      refine ad 2 ?_
      exact Run.again (i + 1) [0] [1] ⟨by first | omega | exact trivial | (dsimp only; omega) | (refine ⟨by omega, ?_⟩; simp_all; try omega), hM⟩ rfl (by show _ - _ < _ - _; (try dsimp only); omega) su (by decide)
  ·
    have h1l : ¬ (i < p0.length) := by have := of_decide_eq_false h1; omega
    have hM := hE.trans ((congrArg (fun n => spec_GetKey_l1 p0 p1 n i) (show p0.length - i = 0 by omega)).trans (spec_GetKey_l1.eq_1 _ _ _))
    refine ad 5 ?_
    exact rz (rs := [.tmp 4]) (congrArg (fun x => [Re.c (.string x)]) hM)

/- F214 loop.example/g00974/impl.cellAt$1 -/
def impl_cellAt_1 (p0 : Cell) (c0 : ByteArray) : Bool := decide (p0.Key = c0)
theorem c_impl_cellAt_1 (p0 : Cell) (c0 : ByteArray) : CTs 214 [.o (.st Cell _ inferInstance p0), .o (.rp ByteArray instDatByteArray inferInstance c0)] [Re.c (.bool (impl_cellAt_1 p0 c0))] := by
  refine en Tryz.func214 Tryz.ntmps214 fun w hG hgd => ?_
  obtain ⟨hg_p0, hg_c0, _⟩ := hgd
  have hM := impl_cellAt_1.eq_1 p0 c0
  refine ad 13 ?_
  exact rz (rs := [.tmp 3]) (congrArg (fun x => [Re.c (.bool x)]) hM)

/- F213 slices.IndexFunc[[]loop.example/g00974/impl.Cell,loop.example/g00974/impl.Cell] -/
def slices_IndexFunc_Cell_l1 (p0 : List Cell) (p1_0 : ByteArray) : Nat → Nat → Int
  | 0, i => (-1)
  | n + 1, i => bif impl_cellAt_1 (nth p0 i) p1_0 then (i : Int) else (slices_IndexFunc_Cell_l1 p0 p1_0 n (i + 1))
def slices_IndexFunc_Cell (p0 : List Cell) (p1_0 : ByteArray) : Int := slices_IndexFunc_Cell_l1 p0 p1_0 (p0.length - 0) 0
theorem c_slices_IndexFunc_Cell (p0 : List Cell) (p1_0 : ByteArray) (hk : Dat.good p1_0) : CTs 213 [.o (.sl Cell instDatCell p0), .fn 214 [.rp ByteArray instDatByteArray inferInstance p1_0]] [Re.c (.int .i64 (slices_IndexFunc_Cell p0 p1_0))] := by
  refine en Tryz.func213 Tryz.ntmps213 fun w hG hgd => ?_
  obtain ⟨hg_p0, _⟩ := hgd
  have hl_p0 : p0.length ≤ 9223372036854775807 := hg_p0.1
  have hM := slices_IndexFunc_Cell.eq_1 p0 p1_0
  refine ad 12 ?_
  refine Run.loopM (ι := Nat) (fun s => slices_IndexFunc_Cell_l1 p0 p1_0 (p0.length - s) s) (fun s => ⟨19, 2, [(0, .sl 0 p0.length), (1, .fn 214 [.pt 1 0]), (7, .v (.int .i64 (p0.length : Int))), (8, .v (.int .i64 (s : Int)))], [(0, .ros Cell instDatCell p0), (1, .roc [.v (.string p1_0)])]⟩) (fun s => s ≤ p0.length) (fun s => p0.length - s) 0 [0, 1] [0, 1] hM (by first | exact ⟨by omega, by simp⟩ | omega | simp | (dsimp only; omega)) su (by decide) ?_
  rintro i hv hE
  try dsimp only at hE
  have hi := hv
  try dsimp only at hi
  refine ad 5 ?_
  refine cd (fun h1 => ?_) (fun h1 => ?_)
  ·
    have h1l : i < p0.length := by have := of_decide_eq_true h1; omega
    have hM := hE.trans ((congrArg (fun n => slices_IndexFunc_Cell_l1 p0 p1_0 n i) (show p0.length - i = (p0.length - (i + 1)) + 1 by omega)).trans (slices_IndexFunc_Cell_l1.eq_2 _ _ _ _))
    refine ad 13 ?_
    have hg3 := good_nth (k := i) hg_p0 om
    refine op (ix (xs := p0) i om) ?_
    refine ad 1 ?_
    have hg4 : Dat.good (nth p0 i : Cell) := hg3
    refine op (cl (c_impl_cellAt_1 (nth p0 i) p1_0) fok214) ?_
    refine ad 1 ?_
    refine cd (fun h5 => ?_) (fun h5 => ?_)
    ·
      have hM := hM.trans (bt h5)
      refine ad 5 ?_
      exact rz (rs := [.tmp 4]) (congrArg (fun x => [Re.c (.int .i64 x)]) hM)
    ·
      have hM := hM.trans (bf h5)
      refine ad 4 ?_
      rw [wrapN (i := i) (by first | omega | exact om)]
      refine ad 2 ?_
      exact Run.again (i + 1) [0, 1] [1, 2] ⟨by first | omega | exact trivial | (dsimp only; omega) | (refine ⟨by omega, ?_⟩; simp_all; try omega), hM⟩ rfl (by show _ - _ < _ - _; (try dsimp only); omega) su (by decide)
  ·
    have h1l : ¬ (i < p0.length) := by have := of_decide_eq_false h1; omega
    have hM := hE.trans ((congrArg (fun n => slices_IndexFunc_Cell_l1 p0 p1_0 n i) (show p0.length - i = 0 by omega)).trans (slices_IndexFunc_Cell_l1.eq_1 _ _ _))
    refine ad 5 ?_
    exact rz (rs := [.tmp 4]) (congrArg (fun x => [Re.c (.int .i64 x)]) hM)
theorem IndexFunc_Cell_l1_in (p0 : List Cell) (k : ByteArray) : ∀ n i, i + n = p0.length → -1 ≤ slices_IndexFunc_Cell_l1 p0 k n i ∧ slices_IndexFunc_Cell_l1 p0 k n i < p0.length := by
  intro n
  induction n with
  | zero => intro i _; rw [slices_IndexFunc_Cell_l1]; omega
  | succ n ih =>
    intro i h
    rw [slices_IndexFunc_Cell_l1]
    cases impl_cellAt_1 (nth p0 i) k with
    | false => exact ih (i + 1) (by omega)
    | true => show -1 ≤ (i : Int) ∧ (i : Int) < p0.length; omega

/- F191 loop.example/g00974/impl.cellAt -/
def impl_cellAt (p0 : List Cell) (p1 : ByteArray) : Int := (slices_IndexFunc_Cell p0 p1)
theorem c_impl_cellAt (p0 : List Cell) (p1 : ByteArray) (hk : Dat.good p1) : CTs 191 [.o (.sl Cell instDatCell p0), .o (.c (.string p1))] [Re.c (.int .i64 (impl_cellAt p0 p1))] := by
  refine en Tryz.func191 Tryz.ntmps191 fun w hG hgd => ?_
  obtain ⟨hg_p0, _⟩ := hgd
  have hl_p0 : p0.length ≤ 9223372036854775807 := hg_p0.1
  have hM := impl_cellAt.eq_1 p0 p1
  refine ad 9 ?_
  refine op (cl (c_slices_IndexFunc_Cell p0 p1 (by first | assumption | exact gs _ | exact KeyNum_good (by unfold I64; omega) (by decide) | (show ByteArray.size _ ≤ _; unfold maxLen; omega))) fok213) ?_
  refine ad 2 ?_
  exact rz (rs := [.tmp 4]) (congrArg (fun x => [Re.c (.int .i64 x)]) hM)
theorem cellAt_in (p0 : List Cell) (k : ByteArray) : -1 ≤ impl_cellAt p0 k ∧ impl_cellAt p0 k < p0.length := IndexFunc_Cell_l1_in p0 k _ 0 (by omega)

/- F149 loop.example/g00974/impl.GetKey -/
def impl_GetKey (p0 : List Cell) (p1 : ByteArray) : ByteArray := bif decide ((impl_cellAt p0 p1) ≥ 0) then ((nth p0 ((impl_cellAt p0 p1).toNat)).Val) else ⟨#[]⟩
theorem c_impl_GetKey (p0 : List Cell) (p1 : ByteArray) (hk : Dat.good p1) : CTs 149 [.o (.sl Cell instDatCell p0), .o (.c (.string p1))] [Re.c (.string (impl_GetKey p0 p1))] := by
  refine en Tryz.func149 Tryz.ntmps149 fun w hG hgd => ?_
  obtain ⟨hg_p0, _⟩ := hgd
  have hl_p0 : p0.length ≤ 9223372036854775807 := hg_p0.1
  have hM := impl_GetKey.eq_1 p0 p1
  have hat := cellAt_in p0 p1
  refine ad 9 ?_
  refine op (cl (c_impl_cellAt p0 p1 (by first | assumption | exact gs _ | exact KeyNum_good (by unfold I64; omega) (by decide) | (show ByteArray.size _ ≤ _; unfold maxLen; omega))) fok191) ?_
  refine ad 7 ?_
  refine cd (fun h1 => ?_) (fun h1 => ?_)
  ·
    have hM := hM.trans (bt h1)
    refine ad 4 ?_
    have hg3 := good_nth (k := ((impl_cellAt p0 p1).toNat)) hg_p0 om
    refine op (ix (xs := p0) ((impl_cellAt p0 p1).toNat) om (hi := om)) ?_
    refine ad 4 ?_
    exact rz (rs := [.tmp 4]) (congrArg (fun x => [Re.c (.string x)]) hM)
  ·
    have hM := hM.trans (bf h1)
    refine ad 5 ?_
    exact rz (rs := [.tmp 4]) (congrArg (fun x => [Re.c (.string x)]) hM)

/- F143 loop.example/g00974/spec.Brought -/
def spec_Brought (p0 : Int) (p1 : Int) (p2 : Int) : Int := bif (decide (p2 < p1)) || (decide (p0 < p1)) then p1 else (bif decide (p0 > p2) then p2 else p0)
theorem c_spec_Brought (p0 : Int) (p1 : Int) (p2 : Int) : CTs 143 [.o (.c (.int .i64 p0)), .o (.c (.int .i64 p1)), .o (.c (.int .i64 p2))] [Re.c (.int .i64 (spec_Brought p0 p1 p2))] := by
  refine en Tryz.func143 Tryz.ntmps143 fun w hG hgd => ?_
  have hM := spec_Brought.eq_1 p0 p1 p2
  refine ad 11 ?_
  refine ag 4 ?_
  refine ad 1 ?_
  refine cd (fun h1 => ?_) (fun h1 => ?_)
  ·
    have hM := hM.trans (bt h1)
    refine ad 5 ?_
    exact rz (rs := [.tmp 6]) (congrArg (fun x => [Re.c (.int .i64 x)]) hM)
  ·
    have hM := hM.trans (bf h1)
    refine ad 8 ?_
    refine cd (fun h2 => ?_) (fun h2 => ?_)
    ·
      have hM := hM.trans (bt h2)
      refine ad 5 ?_
      exact rz (rs := [.tmp 6]) (congrArg (fun x => [Re.c (.int .i64 x)]) hM)
    ·
      have hM := hM.trans (bf h2)
      refine ad 6 ?_
      exact rz (rs := [.tmp 6]) (congrArg (fun x => [Re.c (.int .i64 x)]) hM)

/- F165 internal/stringslite.HasPrefix -/
def internal_stringslite_HasPrefix (p0 : ByteArray) (p1 : ByteArray) : Bool := (decide ((p0.size : Int) ≥ (p1.size : Int))) && (decide ((cutS p0 0 p1.size) = p1))
theorem c_internal_stringslite_HasPrefix (p0 : ByteArray) (p1 : ByteArray) : CTs 165 [.o (.c (.string p0)), .o (.c (.string p1))] [Re.c (.bool (internal_stringslite_HasPrefix p0 p1))] := by
  refine en Tryz.func165 Tryz.ntmps165 fun w hG hgd => ?_
  have hM := internal_stringslite_HasPrefix.eq_1 p0 p1
  refine ad 12 ?_
  refine Run.midO ⟨18, 0, [(4, .v (.bool ((decide ((p0.size : Int) ≥ (p1.size : Int))) && (decide ((cutS p0 0 p1.size) = p1)))))], []⟩ ?_ ?_
  · refine bc 10 (fun h1 => ?_) (fun h1 => ?_)
    ·
      refine ad 7 ?_
      refine op (cu 0 p1.size (hl := rfl)) ?_
      refine ad 7 ?_
      exact Run.at [] [] (by first | exact su | (rw [h1]; exact su)) (by decide)
    ·
      refine ad 9 ?_
      exact Run.at [] [] (by first | exact su | (rw [h1]; exact su)) (by decide)
  exact rz (rs := [.tmp 4]) (congrArg (fun x => [Re.c (.bool x)]) hM)
theorem HasPrefix_le {a b : ByteArray} (h : (!(internal_stringslite_HasPrefix a b)) = false) : b.size ≤ a.size := by
  have h' : internal_stringslite_HasPrefix a b = true := by simpa using h
  unfold internal_stringslite_HasPrefix at h'
  have := of_decide_eq_true (Bool.and_eq_true_iff.1 h').1
  omega

/- F212 internal/stringslite.CutPrefix -/
def internal_stringslite_CutPrefix (p0 : ByteArray) (p1 : ByteArray) : ByteArray × Bool := bif !(internal_stringslite_HasPrefix p0 p1) then (p0, false) else (cutS p0 p1.size p0.size, true)
theorem c_internal_stringslite_CutPrefix (p0 : ByteArray) (p1 : ByteArray) : CTs 212 [.o (.c (.string p0)), .o (.c (.string p1))] [Re.c (.string ((internal_stringslite_CutPrefix p0 p1).1)), Re.c (.bool ((internal_stringslite_CutPrefix p0 p1).2))] := by
  refine en Tryz.func212 Tryz.ntmps212 fun w hG hgd => ?_
  have hM := internal_stringslite_CutPrefix.eq_1 p0 p1
  refine ad 10 ?_
  refine op (cl (c_internal_stringslite_HasPrefix p0 p1) fok165) ?_
  refine ad 2 ?_
  refine cd (fun h1 => ?_) (fun h1 => ?_)
  ·
    have hM := hM.trans (bt h1)
    refine ad 6 ?_
    exact rz (rs := [.tmp 4, .tmp 5]) (congrArg (fun x => [Re.c (.string x.1), Re.c (.bool x.2)]) hM)
  ·
    have hM := hM.trans (bf h1)
    have hpl := HasPrefix_le h1
    refine ad 6 ?_
    refine op (cu p1.size p0.size (hh := rfl)) ?_
    refine ad 3 ?_
    exact rz (rs := [.tmp 4, .tmp 5]) (congrArg (fun x => [Re.c (.string x.1), Re.c (.bool x.2)]) hM)

/- F190 strings.CutPrefix -/
def strings_CutPrefix (p0 : ByteArray) (p1 : ByteArray) : ByteArray × Bool := ((internal_stringslite_CutPrefix p0 p1).1, (internal_stringslite_CutPrefix p0 p1).2)
theorem c_strings_CutPrefix (p0 : ByteArray) (p1 : ByteArray) : CTs 190 [.o (.c (.string p0)), .o (.c (.string p1))] [Re.c (.string ((strings_CutPrefix p0 p1).1)), Re.c (.bool ((strings_CutPrefix p0 p1).2))] := by
  refine en Tryz.func190 Tryz.ntmps190 fun w hG hgd => ?_
  have hM := strings_CutPrefix.eq_1 p0 p1
  refine ad 9 ?_
  refine op (cl (c_internal_stringslite_CutPrefix p0 p1) fok212) ?_
  refine ad 5 ?_
  exact rz (rs := [.tmp 4, .tmp 5]) (congrArg (fun x => [Re.c (.string x.1), Re.c (.bool x.2)]) hM)

end Go.Proofs.YtnjidaonbcbphaaGreatDoor.Fw
/-
  Cells and numbers. No condition.
-/
namespace Go.Proofs.YtnjidaonbcbphaaGreatDoor.Fw
open Go.RowKit
set_option linter.unusedVariables false
set_option linter.unusedSimpArgs false
set_option maxRecDepth 100000
/-! ## Cells, numbers and texts: the program and the reference say the same -/
theorem GetKey_l1_twin (p0 : List Cell) (k : ByteArray) : ∀ n i, i + n = p0.length → (bif decide (slices_IndexFunc_Cell_l1 p0 k n i ≥ 0) then (nth p0 (slices_IndexFunc_Cell_l1 p0 k n i).toNat).Val else ⟨#[]⟩) = spec_GetKey_l1 p0 k n i := by
  intro n
  induction n with
  | zero => intro i _; rfl
  | succ n ih =>
    intro i h
    rw [slices_IndexFunc_Cell_l1, spec_GetKey_l1]
    unfold impl_cellAt_1
    cases decide ((nth p0 i).Key = k) with
    | false => exact ih (i + 1) (by omega)
    | true =>
      rw [cond_true, cond_true, decide_eq_true (show ((i : Int) ≥ 0) by omega)]
      rfl
theorem GetKey_twin (p0 : List Cell) (k : ByteArray) : impl_GetKey p0 k = spec_GetKey p0 k := GetKey_l1_twin p0 k _ 0 (by omega)
theorem spec_GetKey_l1_size {N : Nat} {p0 : List Cell} (hs : Dat.small N p0) (k : ByteArray) : ∀ n i, i + n = p0.length → (spec_GetKey_l1 p0 k n i).size ≤ N := by
  intro n
  induction n with
  | zero => intro i _; exact Nat.zero_le _
  | succ n ih =>
    intro i h
    rw [spec_GetKey_l1]
    cases decide ((nth p0 i).Key = k) with
    | false => exact ih (i + 1) (by omega)
    | true => exact (small_nth hs (k := i) (by omega)).2
theorem spec_GetKey_size {N : Nat} {p0 : List Cell} (hs : Dat.small N p0) (k : ByteArray) : (spec_GetKey p0 k).size ≤ N := spec_GetKey_l1_size hs k _ 0 (by omega)
theorem impl_GetKey_size {N : Nat} {p0 : List Cell} (hs : Dat.small N p0) (k : ByteArray) : (impl_GetKey p0 k).size ≤ N := by rw [GetKey_twin]; exact spec_GetKey_size hs k
theorem ReadDecimal_in (p0 : ByteArray) : 0 ≤ (impl_ReadDecimal p0).1 ∧ (impl_ReadDecimal p0).1 ≤ 1000000000 := by
  unfold impl_ReadDecimal
  cases hc : (((!((atoi p0).2)) || (!(impl_within ((atoi p0).1) 0 1000000000))) || (!decide ((impl_Decimal ((atoi p0).1)) = p0))) with
  | true => exact (show (0 : Int) ≤ 0 ∧ (0 : Int) ≤ 1000000000 from ⟨by decide, by decide⟩)
  | false =>
    have h1 := (Bool.or_eq_false_iff.1 (Bool.or_eq_false_iff.1 hc).1).2
    exact impl_within_t (by simpa using h1)
theorem ReadDecimal_no {p0 : ByteArray} (h : (impl_ReadDecimal p0).2 = false) : (impl_ReadDecimal p0).1 = 0 := by
  unfold impl_ReadDecimal at h ⊢
  cases hc : (((!((atoi p0).2)) || (!(impl_within ((atoi p0).1) 0 1000000000))) || (!decide ((impl_Decimal ((atoi p0).1)) = p0))) with
  | true => rfl
  | false => rw [hc] at h; cases h

end Go.Proofs.YtnjidaonbcbphaaGreatDoor.Fw

/-
  The abstract machine: an element of a list looked up under a truth that is not known, where the list is long enough in any case. No condition.
-/
namespace Go.Proofs.YtnjidaonbcbphaaGreatDoor.Fw
open Go.RowKit
set_option linter.unusedVariables false
set_option maxRecDepth 100000
def afterIdxG {α : Type} (σ : St) (d : Nat) (B : Bool) (x : α) (fk : List (Fk α)) : St := ⟨σ.n, σ.m + 1 + nsl fk, (d, .gd B (.pt σ.m 0)) :: σ.ρ, (σ.m, .roc (opn false x (σ.m + 1) fk).1) :: (opn false x (σ.m + 1) fk).2 ++ σ.E⟩
theorem OpS.idxG {c : Cx} {σ : St} {all : Array Oper} {ty : TypeId} {pos : String} {after : Array Edge} {d : Nat} {α : Type} {dα : Dat α} [s : Str α] [Inhabited α] {t e by' r len : Nat} {x y : Operand} {i : Int} {k j : Nat} {want B : Bool} {xs : List α} (hB : gB σ.ρ all j want = some B) (hx : evG σ.ρ x = some (.sl r len)) (hy : evG σ.ρ y = some (.v (.int .i64 i))) (hside : B = true → sideP B True σ.ρ [x, y]) (hp : lkE σ.E r = some (.ros α dα xs)) (hl : len = xs.length) (ht : c.ti t = .sl e (Dat.sz α) by') (hd : Nat.blt d σ.n = true) (hi : i = k) (hk : k < xs.length) :
    OpS c σ all ⟨some d, .indexAddr t x y, ty, pos, after, some (j, want)⟩ (afterIdxG σ d B (nth xs k) s.fk) := by
  intro θ a w h K Q hK
  have hw := gB_ok h (o := ⟨some d, .indexAddr t x y, ty, pos, after, some (j, want)⟩) rfl hB
  rw [hw]
  subst hi
  subst hl
  obtain ⟨S, w1, hh⟩ := h.heap
  obtain ⟨l, hl, hr⟩ := hh.ok _ (lkE_mem hp)
  simp only at hl
  obtain ⟨ad, cs, hA, _, hrd, hcs, hb⟩ := SlR.elem hr hk
  have hti := c.tiok t
  rw [ht] at hti
  simp only [TI.chk, Bool.and_eq_true] at hti
  let A' : Addr := (ad.add (k * Dat.sz α))
  let lc : Loc := ⟨some A', 0, []⟩
  obtain ⟨θ', hl', hc', he'⟩ := opn_ros (θ := θ ++ [lc]) (s.op hrd)
  rw [List.length_append, List.length_singleton, h.len, List.append_assoc] at hc' he'
  have hg : (θ ++ ([lc] ++ θ'))[σ.m]? = some lc := by rw [← h.len]; exact get_mid
  have fin : ∀ u, (V.gd B (.pt σ.m 0)).con (θ ++ ([lc] ++ θ')) = some u → K (a.put (some d) u) w := fun u hu => by
    refine hK ([lc] ++ θ') _ w ⟨?_, (h.env.ext (θ' := [lc] ++ θ')).put hd hu, S, w1, ?_⟩
    · rw [List.length_append, List.length_append, h.len, hl']
      show σ.m + (1 + nsl s.fk) = σ.m + 1 + nsl s.fk
      omega
    · have hfa : ∀ e ∈ (σ.m, En.roc (opn false (nth xs k) (σ.m + 1) s.fk).1) :: (opn false (nth xs k) (σ.m + 1) s.fk).2, e.2.ok S w1 (θ ++ ([lc] ++ θ')) e.1 ∧ ∀ θ r, e.2.ck θ r = ⟨[], fun _ => True⟩ := by
        intro e he
        rcases List.mem_cons.1 he with rfl | he
        · exact ⟨⟨lc, A', cs, hg, rfl, hc', by show S A'.block; simp only [A', block_add]; exact hb, hcs⟩, fun _ _ => rfl⟩
        · exact he' e he
      exact hh.facts hfa
  cases B with
  | true =>
    rw [if_pos rfl]
    have h1 := evG_con h.env rfl (hside rfl) x (by simp) _ hx
    have h2 := evG_con h.env rfl (hside rfl) y (by simp) _ hy
    have hc := h1.1
    simp only [V.con, hl, Option.some.injEq] at hc
    have hx' : ev? (selfρ a) x = _ := h1.2
    rw [← hc, hA] at hx'
    have hy' : ev? (selfρ a) y = some (.int .i64 (k : Int)) := by rw [h2.2, ← h2.1]; rfl
    have hyy := y_indexAddr (P := c.P) (w := w) (ty := ty) h.env.env hx' hy' (by omega) (by omega) hti.2
    unfold Oper.wp
    rw [hyy]
    refine fin _ ?_
    simp only [V.con, hg, lc, A', Int.toNat_natCast]
  | false =>
    rw [if_neg (by simp)]
    exact fin _ rfl
section
variable {fn : Func} {Bz : Bs} {S1 : Nat → Prop} {w1 : World} {hk1 : Keep Bz.S0 Bz.w w1} {hs1 : ∀ b, Bz.S0 b → S1 b} {hd1 : ∀ b, S1 b → b < w1.heap.size} {σ : St} {all : Array Oper} {ty : TypeId} {pos : String} {after : Array Edge} {d : Nat}
theorem iG {α : Type} {dα : Dat α} [s : Str α] [Inhabited α] {t e by' r len j : Nat} {x y : Operand} {i : Int} {want B : Bool} {xs : List α} (k : Nat) (hk : k < xs.length) (hB : gB σ.ρ all j want = some B := by dsimp only [ev, evs, evsG, cons2, lk, lkE, cond, Nat.beq, evG, stO', V.strip, grd, grdO, nthO, gB, gBV, Nat.pred, wnt, List.toList_toArray, List.cons_append, List.nil_append, List.append_nil]) (hx : evG σ.ρ x = some (.sl r len) := by dsimp only [ev, evs, evsG, cons2, lk, lkE, cond, Nat.beq, evG, stO', V.strip, grd, grdO, nthO, gB, gBV, Nat.pred, wnt, List.toList_toArray, List.cons_append, List.nil_append, List.append_nil]) (hy : evG σ.ρ y = some (.v (.int .i64 i)) := by dsimp only [ev, evs, evsG, cons2, lk, lkE, cond, Nat.beq, evG, stO', V.strip, grd, grdO, nthO, gB, gBV, Nat.pred, wnt, List.toList_toArray, List.cons_append, List.nil_append, List.append_nil])
    (hside : B = true → sideP B True σ.ρ [x, y] := by intro h; first | exact trivial | (dsimp only [sideP, sdV, ev, lk, cond, Nat.beq, V.side, List.toList_toArray]; (repeat' apply And.intro) <;> first | exact trivial | exact h | exact fun h => h | exact (Bool.and_eq_true_iff.1 h).1 | exact (Bool.and_eq_true_iff.1 h).2 | exact fun h => (Bool.and_eq_true_iff.1 h).1 | exact fun h => (Bool.and_eq_true_iff.1 h).2 | exact fun h => (Bool.and_eq_true_iff.1 (Bool.and_eq_true_iff.1 h).1).1 | (intro h; simp_all)))
    (hp : lkE σ.E r = some (.ros α dα xs) := by dsimp only [ev, evs, evsG, cons2, lk, lkE, cond, Nat.beq, evG, stO', V.strip, grd, grdO, nthO, gB, gBV, Nat.pred, wnt, List.toList_toArray, List.cons_append, List.nil_append, List.append_nil]) (hl : len = xs.length := by first | rfl | simp only [List.length_set]) (hi : i = k := by rfl) (ht : ti t = .sl e (Dat.sz α) by' := by rfl) (hd : Nat.blt d σ.n = true := by rfl) :
    OpS (cx fn Bz S1 w1 hk1 hs1 hd1) σ all ⟨some d, .indexAddr t x y, ty, pos, after, some (j, want)⟩ ⟨σ.n, σ.m + 1 + nsl s.fk, (d, .gd B (.pt σ.m 0)) :: σ.ρ, (σ.m, .roc (opn false (nth xs k) (σ.m + 1) s.fk).1) :: (opn false (nth xs k) (σ.m + 1) s.fk).2 ++ σ.E⟩ := OpS.idxG hB hx hy hside hp hl ht hd hi hk
theorem gO {op : Op} {j : Nat} {want B : Bool} {v : V} {p : Prop} (hB : gB σ.ρ all j want = some B := by dsimp only [ev, evs, evsG, cons2, lk, lkE, cond, Nat.beq, evG, stO', V.strip, grd, grdO, nthO, gB, gBV, Nat.pred, wnt, List.toList_toArray, List.cons_append, List.nil_append, List.append_nil]) (hv : gOp ti zr σ.ρ σ.E B op True = some (v, p) := by dsimp only [ti_9, ncV, szA, cvV, rnR, rnE, V.rn, rnL, En.rn, dropE, memN, afterStE, an, stK, cdK, opK, gdK, nvK, cellsO, zcells, blK, bsK, stW, stV, ptK, litD, litC, pkV, wrV, binV, unV, ldV, faW, faV, agO, blV, exV, mfV, lenV, caV, fillT, fillS, stO', sdV, cons2, grdO, gBV, gPw, gPk, gGo, gK, gK1, gK2, tkK, tk1, rvsV, rvV, Nat.reduceAdd, Nat.reduceSub, Nat.reduceMul, advN, adv1, stO, litV, fillV, splice, pv, ev, evs, lk, lkE, setE, putE, put, cond, ldC, ldE, nthN, tuAt, bin, bi, bs, bb, ikq, TI.cells, V.cells, V.one, oneL, toBlk, grd, nthO, beqB, gB, wnt, gOp, adG, adG1, pickV, sideP, evG, V.side, V.strip, afterCall, afterIdx, afterApp, afterApp0, packV, bindRs, bindR, bindGs, bindG, bindAs, bindA, ini, slotsV, opn, nsl, adD, setAll, Str.fk, Nat.blt, Nat.succ_eq_add_one, Nat.ble, Nat.beq, Nat.pred, Nat.add_zero, Nat.zero_add, Nat.add_eq, List.toList_toArray, List.length, List.length_cons, List.length_nil, List.take, List.drop, List.append_nil, List.nil_append, List.cons_append, List.map, List.take_succ_cons, List.take_zero, List.take_nil, List.drop_succ_cons, List.drop_zero, List.drop_nil, List.size_toArray, List.getD, id, Op.operands, Call.operands, Value.cells, Array.size_empty])
    (hp : p := by (repeat' apply And.intro) <;> first | exact trivial | exact fun h => h | exact fun h => (Bool.and_eq_true_iff.1 h).1 | exact fun h => (Bool.and_eq_true_iff.1 h).2 | exact fun h => (Bool.and_eq_true_iff.1 (Bool.and_eq_true_iff.1 h).1).1 | (intro h; simp_all)) (hd : Nat.blt d σ.n = true := by rfl) :
    OpS (cx fn Bz S1 w1 hk1 hs1 hd1) σ all ⟨some d, op, ty, pos, after, some (j, want)⟩ (put d (.gd B v) σ) := OpS.g1 hB hv hp hd
end
end Go.Proofs.YtnjidaonbcbphaaGreatDoor.Fw

/- Contracts: each call returns what the model says. By program (wip/am/gen2.py). -/
namespace Go.Proofs.YtnjidaonbcbphaaGreatDoor.Fw
open Go.RowKit
set_option linter.unusedVariables false
set_option maxRecDepth 100000

theorem fok85 : FnOk Tryz.prog 85 := ⟨_, Tryz.func85, rfl, by kernel_rfl⟩
theorem fok149 : FnOk Tryz.prog 149 := ⟨_, Tryz.func149, rfl, by kernel_rfl⟩
theorem fok159 : FnOk Tryz.prog 159 := ⟨_, Tryz.func159, rfl, by kernel_rfl⟩
theorem fok189 : FnOk Tryz.prog 189 := ⟨_, Tryz.func189, rfl, by kernel_rfl⟩
/- F144 loop.example/g00974/spec.NumOf -/
def spec_NumOf (p0 : ByteArray) : Int := bif (!((spec_ReadDecimal p0).2)) || (decide (((spec_ReadDecimal p0).1) > 999)) then 0 else ((spec_ReadDecimal p0).1)
theorem c_spec_NumOf (p0 : ByteArray) (hz_p0 : p0.size ≤ 9223372036854775807) : CTs 144 [.o (.c (.string p0))] [Re.c (.int .i64 (spec_NumOf p0))] := by
  refine en Tryz.func144 Tryz.ntmps144 fun w hG hgd => ?_
  have hM := spec_NumOf.eq_1 p0
  refine ad 7 ?_
  refine op (cl (c_spec_ReadDecimal p0 hz_p0) fok159) ?_
  refine ad 12 ?_
  refine ag 3 ?_
  refine ad 1 ?_
  refine cd (fun h1 => ?_) (fun h1 => ?_)
  ·
    have hM := hM.trans (bt h1)
    refine ad 4 ?_
    exact rz (rs := [.tmp 2]) (congrArg (fun x => [Re.c (.int .i64 x)]) hM)
  ·
    have hM := hM.trans (bf h1)
    refine ad 6 ?_
    exact rz (rs := [.tmp 2]) (congrArg (fun x => [Re.c (.int .i64 x)]) hM)

/- F189 loop.example/g00974/impl.NumOf -/
def impl_NumOf (p0 : ByteArray) : Int := bif decide (((impl_ReadDecimal p0).1) > 999) then 0 else ((impl_ReadDecimal p0).1)
theorem c_impl_NumOf (p0 : ByteArray) (hq : p0.size ≤ 281474976710656) : CTs 189 [.o (.c (.string p0))] [Re.c (.int .i64 (impl_NumOf p0))] := by
  refine en Tryz.func189 Tryz.ntmps189 fun w hG hgd => ?_
  have hM := impl_NumOf.eq_1 p0
  refine ad 7 ?_
  refine op (cl (c_impl_ReadDecimal p0 (by first | assumption | exact om)) fok85) ?_
  refine ad 12 ?_
  refine cd (fun h1 => ?_) (fun h1 => ?_)
  ·
    have hM := hM.trans (bt h1)
    refine ad 4 ?_
    exact rz (rs := [.tmp 2]) (congrArg (fun x => [Re.c (.int .i64 x)]) hM)
  ·
    have hM := hM.trans (bf h1)
    refine ad 6 ?_
    exact rz (rs := [.tmp 2]) (congrArg (fun x => [Re.c (.int .i64 x)]) hM)

/- F146 loop.example/g00974/spec.KeyNum -/
def spec_KeyNum (p0 : ByteArray) (p1 : Int) (p2 : ByteArray) : ByteArray := (p0 ++ (spec_Decimal p1)) ++ p2
theorem c_spec_KeyNum (p0 : ByteArray) (p1 : Int) (p2 : ByteArray) (hi : I64 p1) (hq : p0.size + p2.size ≤ 1000) : CTs 146 [.o (.c (.string p0)), .o (.c (.int .i64 p1)), .o (.c (.string p2))] [Re.c (.string (spec_KeyNum p0 p1 p2))] := by
  refine en Tryz.func146 Tryz.ntmps146 fun w hG hgd => ?_
  have hM := spec_KeyNum.eq_1 p0 p1 p2
  refine ad 8 ?_
  have hs1 := spec_Decimal_size (p0 := p1) (by first | assumption | (unfold I64; omega))
  refine op (cl (k_spec_Decimal p1 (by first | assumption | (unfold I64; omega))) fok48) ?_
  refine op (ca (hs := szt)) ?_
  refine ad 1 ?_
  refine op (ca (hs := szt)) ?_
  refine ad 2 ?_
  exact rz (rs := [.tmp 6]) (congrArg (fun x => [Re.c (.string x)]) hM)

/- F150 loop.example/g00974/impl.KeyNum -/
def impl_KeyNum (p0 : ByteArray) (p1 : Int) (p2 : ByteArray) : ByteArray := (p0 ++ (impl_Decimal p1)) ++ p2
theorem c_impl_KeyNum (p0 : ByteArray) (p1 : Int) (p2 : ByteArray) (hi : I64 p1) (hq : p0.size + p2.size ≤ 1000) : CTs 150 [.o (.c (.string p0)), .o (.c (.int .i64 p1)), .o (.c (.string p2))] [Re.c (.string (impl_KeyNum p0 p1 p2))] := by
  refine en Tryz.func150 Tryz.ntmps150 fun w hG hgd => ?_
  have hM := impl_KeyNum.eq_1 p0 p1 p2
  refine ad 8 ?_
  have hs1 := impl_Decimal_size (p0 := p1) (by first | assumption | (unfold I64; omega))
  refine op (cl (k_impl_Decimal p1 (by first | assumption | (unfold I64; omega))) fok58) ?_
  refine op (ca (hs := szt)) ?_
  refine ad 1 ?_
  refine op (ca (hs := szt)) ?_
  refine ad 2 ?_
  exact rz (rs := [.tmp 6]) (congrArg (fun x => [Re.c (.string x)]) hM)
theorem impl_KeyNum_size {p0 p2 : ByteArray} {p1 : Int} (h : I64 p1) : (impl_KeyNum p0 p1 p2).size ≤ p0.size + 20 + p2.size := by
  have := impl_Decimal_size h
  unfold impl_KeyNum
  rw [ByteArray.size_append, ByteArray.size_append]
  omega
theorem KeyNum_good {a b : ByteArray} {n : Int} (h : I64 n) (hq : a.size + b.size ≤ 1000) : Dat.good (impl_KeyNum a n b) := by
  have := impl_KeyNum_size (p0 := a) (p2 := b) h
  show ByteArray.size _ ≤ _
  unfold maxLen
  omega

/- F147 loop.example/g00974/impl.OutCount -/
def impl_OutCount (p0 : List Cell) : Int := min (impl_NumOf (impl_GetKey p0 ⟨#[100, 47, 110]⟩)) 40
theorem c_impl_OutCount (p0 : List Cell) (hs : Dat.small 1048576 p0) : CTs 147 [.o (.sl Cell instDatCell p0)] [Re.c (.int .i64 (impl_OutCount p0))] := by
  refine en Tryz.func147 Tryz.ntmps147 fun w hG hgd => ?_
  obtain ⟨hg_p0, _⟩ := hgd
  have hl_p0 : p0.length ≤ 9223372036854775807 := hg_p0.1
  have hM := impl_OutCount.eq_1 p0
  refine ad 7 ?_
  have hs1 := impl_GetKey_size (N := 1048576) (p0 := p0) (by assumption) ⟨#[100, 47, 110]⟩
  refine op (cl (c_impl_GetKey p0 ⟨#[100, 47, 110]⟩ (by first | assumption | exact gs _ | exact KeyNum_good (by unfold I64; omega) (by decide) | (show ByteArray.size _ ≤ _; unfold maxLen; omega))) fok149) ?_
  refine op (cl (c_impl_NumOf (impl_GetKey p0 ⟨#[100, 47, 110]⟩) (by first | assumption | exact om)) fok189) ?_
  refine op (bN) ?_
  refine ad 2 ?_
  exact rz (rs := [.tmp 2]) (congrArg (fun x => [Re.c (.int .i64 x)]) hM)

end Go.Proofs.YtnjidaonbcbphaaGreatDoor.Fw
/-
  Cells and numbers. No condition.
-/
namespace Go.Proofs.YtnjidaonbcbphaaGreatDoor.Fw
open Go.RowKit
set_option linter.unusedVariables false
set_option linter.unusedSimpArgs false
set_option maxRecDepth 100000
theorem NumOf_twin (p0 : ByteArray) : impl_NumOf p0 = spec_NumOf p0 := by
  unfold impl_NumOf spec_NumOf
  rw [← ReadDecimal_twin]
  cases h : (impl_ReadDecimal p0).2 with
  | false => rw [ReadDecimal_no h]; rfl
  | true => rw [Bool.not_true, Bool.false_or]
theorem NumOf_in (p0 : ByteArray) : 0 ≤ impl_NumOf p0 ∧ impl_NumOf p0 ≤ 999 := by
  unfold impl_NumOf
  have h := ReadDecimal_in p0
  cases hc : decide ((impl_ReadDecimal p0).1 > 999) with
  | true => exact (show (0 : Int) ≤ 0 ∧ (0 : Int) ≤ 999 from ⟨by decide, by decide⟩)
  | false =>
    have := of_decide_eq_false hc
    exact ⟨h.1, by show (impl_ReadDecimal p0).1 ≤ 999; omega⟩
theorem spec_NumOf_in (p0 : ByteArray) : 0 ≤ spec_NumOf p0 ∧ spec_NumOf p0 ≤ 999 := by rw [← NumOf_twin]; exact NumOf_in p0
theorem NumOf_I64 (p0 : ByteArray) : I64 (impl_NumOf p0) := by
  have := NumOf_in p0
  unfold I64
  omega
theorem KeyNum_twin (a : ByteArray) {n : Int} (b : ByteArray) (h : I64 n) : impl_KeyNum a n b = spec_KeyNum a n b := by
  unfold impl_KeyNum spec_KeyNum
  rw [Decimal_twin h]
theorem Brought_in (x : Int) : 0 ≤ spec_Brought x 0 40 ∧ spec_Brought x 0 40 ≤ 40 := by
  unfold spec_Brought
  rw [decide_eq_false (show ¬ (40 : Int) < 0 by decide), Bool.false_or]
  cases h1 : decide (x < 0) with
  | true => exact (show (0 : Int) ≤ 0 ∧ (0 : Int) ≤ 40 from ⟨by decide, by decide⟩)
  | false =>
    have h1' := of_decide_eq_false h1
    cases h2 : decide (x > 40) with
    | true => exact (show (0 : Int) ≤ 40 ∧ (40 : Int) ≤ 40 from ⟨by decide, by decide⟩)
    | false =>
      have h2' := of_decide_eq_false h2
      exact ⟨by show 0 ≤ x; omega, by show x ≤ 40; omega⟩
theorem Brought_min {x : Int} (h : 0 ≤ x) : spec_Brought x 0 40 = min x 40 := by
  unfold spec_Brought
  rw [decide_eq_false (show ¬ (40 : Int) < 0 by decide), decide_eq_false (show ¬ x < 0 by omega)]
  cases h2 : decide (x > 40) with
  | true =>
    have h2' := of_decide_eq_true h2
    show 40 = min x 40
    omega
  | false =>
    have h2' := of_decide_eq_false h2
    show x = min x 40
    omega
theorem OutCount_in (p0 : List Cell) : 0 ≤ impl_OutCount p0 ∧ impl_OutCount p0 ≤ 40 := by
  have := NumOf_in (impl_GetKey p0 ⟨#[100, 47, 110]⟩)
  unfold impl_OutCount
  omega
theorem CutPrefix_size (a b : ByteArray) : (strings_CutPrefix a b).1.size ≤ a.size := by
  unfold strings_CutPrefix internal_stringslite_CutPrefix
  cases internal_stringslite_HasPrefix a b with
  | false => exact Nat.le_refl _
  | true =>
    show (cutS a b.size a.size).size ≤ _
    unfold cutS
    rw [ByteArray.size_extract]
    omega

end Go.Proofs.YtnjidaonbcbphaaGreatDoor.Fw

/- Contracts: each call returns what the model says. By program (wip/am/gen2.py). -/
namespace Go.Proofs.YtnjidaonbcbphaaGreatDoor.Fw
open Go.RowKit
set_option linter.unusedVariables false
set_option maxRecDepth 100000

theorem fok71 : FnOk Tryz.prog 71 := ⟨_, Tryz.func71, rfl, by kernel_rfl⟩
theorem fok72 : FnOk Tryz.prog 72 := ⟨_, Tryz.func72, rfl, by kernel_rfl⟩
theorem fok73 : FnOk Tryz.prog 73 := ⟨_, Tryz.func73, rfl, by kernel_rfl⟩
theorem fok74 : FnOk Tryz.prog 74 := ⟨_, Tryz.func74, rfl, by kernel_rfl⟩
theorem fok75 : FnOk Tryz.prog 75 := ⟨_, Tryz.func75, rfl, by kernel_rfl⟩
theorem fok77 : FnOk Tryz.prog 77 := ⟨_, Tryz.func77, rfl, by kernel_rfl⟩
theorem fok100 : FnOk Tryz.prog 100 := ⟨_, Tryz.func100, rfl, by kernel_rfl⟩
theorem fok143 : FnOk Tryz.prog 143 := ⟨_, Tryz.func143, rfl, by kernel_rfl⟩
theorem fok144 : FnOk Tryz.prog 144 := ⟨_, Tryz.func144, rfl, by kernel_rfl⟩
theorem fok145 : FnOk Tryz.prog 145 := ⟨_, Tryz.func145, rfl, by kernel_rfl⟩
theorem fok146 : FnOk Tryz.prog 146 := ⟨_, Tryz.func146, rfl, by kernel_rfl⟩
theorem fok147 : FnOk Tryz.prog 147 := ⟨_, Tryz.func147, rfl, by kernel_rfl⟩
theorem fok148 : FnOk Tryz.prog 148 := ⟨_, Tryz.func148, rfl, by kernel_rfl⟩
theorem fok150 : FnOk Tryz.prog 150 := ⟨_, Tryz.func150, rfl, by kernel_rfl⟩
theorem fok158 : FnOk Tryz.prog 158 := ⟨_, Tryz.func158, rfl, by kernel_rfl⟩
theorem fok190 : FnOk Tryz.prog 190 := ⟨_, Tryz.func190, rfl, by kernel_rfl⟩
/- F148 loop.example/g00974/impl.messageOf -/
def impl_messageOf (p0 : ByteArray) : ByteArray := bif !((strings_CutPrefix p0 ⟨#[45]⟩).2) then ⟨#[]⟩ else ((impl_Unhex ((strings_CutPrefix p0 ⟨#[45]⟩).1)).1)
theorem c_impl_messageOf (p0 : ByteArray) (hq : p0.size ≤ 281474976710656) : CTs 148 [.o (.c (.string p0))] [Re.c (.string (impl_messageOf p0))] := by
  refine en Tryz.func148 Tryz.ntmps148 fun w hG hgd => ?_
  have hM := impl_messageOf.eq_1 p0
  have hcp := CutPrefix_size p0 ⟨#[45]⟩
  refine ad 7 ?_
  refine op (cl (c_strings_CutPrefix p0 ⟨#[45]⟩) fok190) ?_
  refine ad 12 ?_
  refine cd (fun h1 => ?_) (fun h1 => ?_)
  ·
    have hM := hM.trans (bt h1)
    refine ad 4 ?_
    exact rz (rs := [.tmp 2]) (congrArg (fun x => [Re.c (.string x)]) hM)
  ·
    have hM := hM.trans (bf h1)
    refine ad 4 ?_
    refine op (cl (c_impl_Unhex ((strings_CutPrefix p0 ⟨#[45]⟩).1) (by first | assumption | exact om)) fok158) ?_
    refine ad 11 ?_
    exact rz (rs := [.tmp 2]) (congrArg (fun x => [Re.c (.string x)]) hM)
theorem impl_messageOf_good (p0 : ByteArray) : (impl_messageOf p0).size ≤ maxLen := by
  unfold impl_messageOf
  cases !((strings_CutPrefix p0 ⟨#[45]⟩).2) with
  | true => exact Nat.zero_le _
  | false => exact impl_Unhex_good _


/- F72 loop.example/g00974/spec.OutsIn -/
def spec_OutsIn_l1 (p0 : List Cell) : Nat → (List ByteArray) → Nat → (List ByteArray)
  | 0, v3, i => v3
  | n + 1, v3, i => spec_OutsIn_l1 p0 n (v3 ++ [bif ((!decide ((spec_GetKey p0 (spec_KeyNum ⟨#[100, 47]⟩ (i : Int) ⟨#[]⟩)) = ⟨#[]⟩)) && (decide (((byteAt (spec_GetKey p0 (spec_KeyNum ⟨#[100, 47]⟩ (i : Int) ⟨#[]⟩)) 0).toNat : Int) = 45))) then ((spec_Unhex (cutS (spec_GetKey p0 (spec_KeyNum ⟨#[100, 47]⟩ (i : Int) ⟨#[]⟩)) 1 ((spec_GetKey p0 (spec_KeyNum ⟨#[100, 47]⟩ (i : Int) ⟨#[]⟩)).size))).1) else ⟨#[]⟩]) (i + 1)
def spec_OutsIn (p0 : List Cell) : (List ByteArray) := spec_OutsIn_l1 p0 (((spec_Brought (spec_NumOf (spec_GetKey p0 ⟨#[100, 47, 110]⟩)) 0 40 + 1).toNat) - 1) ([] : List ByteArray) 1
theorem c_spec_OutsIn (p0 : List Cell) (hs : Dat.small 1048576 p0) : CTs 72 [.o (.sl Cell instDatCell p0)] [Re.sl ByteArray instDatByteArray (spec_OutsIn p0)] := by
  refine en Tryz.func72 Tryz.ntmps72 fun w hG hgd => ?_
  obtain ⟨hg_p0, _⟩ := hgd
  have hl_p0 : p0.length ≤ 9223372036854775807 := hg_p0.1
  have hM := spec_OutsIn.eq_1 p0
  have hbr := Brought_in (spec_NumOf (spec_GetKey p0 ⟨#[100, 47, 110]⟩))
  refine ad 6 ?_
  refine op (l0) ?_
  refine ad 5 ?_
  have hs1 := spec_GetKey_size (N := 1048576) (p0 := p0) (by assumption) ⟨#[100, 47, 110]⟩
  refine op (cl (c_spec_GetKey p0 ⟨#[100, 47, 110]⟩) fok145) ?_
  refine op (cl (c_spec_NumOf (spec_GetKey p0 ⟨#[100, 47, 110]⟩) szt) fok144) ?_
  refine op (cl (c_spec_Brought (spec_NumOf (spec_GetKey p0 ⟨#[100, 47, 110]⟩)) 0 40) fok143) ?_
  refine ad 8 ?_
  refine li 1 (d := instDatByteArray) ([] : List ByteArray) ?_
  refine Run.loopM (ι := (List ByteArray) × Nat) (fun s => spec_OutsIn_l1 p0 (((spec_Brought (spec_NumOf (spec_GetKey p0 ⟨#[100, 47, 110]⟩)) 0 40 + 1).toNat) - s.2) s.1 s.2) (fun s => ⟨40, 2, [(0, .sl 0 p0.length), (3, .sl 1 s.1.length), (4, .v (.int .i64 (spec_Brought (spec_NumOf (spec_GetKey p0 ⟨#[100, 47, 110]⟩)) 0 40))), (5, .v (.int .i64 (s.2 : Int)))], [(0, .ros Cell instDatCell p0), (1, .own ByteArray instDatByteArray s.1)]⟩) (fun s => True ∧ 1 ≤ s.2 ∧ s.2 ≤ 41 ∧ s.1.length ≤ s.2) (fun s => ((spec_Brought (spec_NumOf (spec_GetKey p0 ⟨#[100, 47, 110]⟩)) 0 40 + 1).toNat) - s.2) (([] : List ByteArray), 1) [0, 1] [1, 0] hM (by exact ⟨trivial, by (try dsimp only); omega, by (try dsimp only); omega, by simp⟩) su (by decide) ?_
  rintro ⟨v3, i⟩ hv hE
  try dsimp only at hE
  obtain ⟨hi, hv0, hv1, hv2⟩ := hv
  try dsimp only at hi hv0 hv1 hv2
  refine ad 7 ?_
  refine cd (fun h2 => ?_) (fun h2 => ?_)
  ·
    have h2l : i < (spec_Brought (spec_NumOf (spec_GetKey p0 ⟨#[100, 47, 110]⟩)) 0 40 + 1).toNat := by have := of_decide_eq_true h2; omega
    have hM := hE.trans ((congrArg (fun n => spec_OutsIn_l1 p0 n v3 i) (show ((spec_Brought (spec_NumOf (spec_GetKey p0 ⟨#[100, 47, 110]⟩)) 0 40 + 1).toNat) - i = (((spec_Brought (spec_NumOf (spec_GetKey p0 ⟨#[100, 47, 110]⟩)) 0 40 + 1).toNat) - (i + 1)) + 1 by omega)).trans (spec_OutsIn_l1.eq_2 _ _ _ _))
    refine ad 7 ?_
    refine op (cl (c_spec_KeyNum ⟨#[100, 47]⟩ (i : Int) ⟨#[]⟩ (by first | assumption | (unfold I64; omega)) (by first | decide | exact om)) fok146) ?_
    have hs3 := spec_GetKey_size (N := 1048576) (p0 := p0) (by assumption) (spec_KeyNum ⟨#[100, 47]⟩ (i : Int) ⟨#[]⟩)
    refine op (cl (c_spec_GetKey p0 (spec_KeyNum ⟨#[100, 47]⟩ (i : Int) ⟨#[]⟩)) fok145) ?_
    refine ad 12 ?_
    refine ag 1 ?_
    refine op (sG (s := (spec_GetKey p0 (spec_KeyNum ⟨#[100, 47]⟩ (i : Int) ⟨#[]⟩))) 0 (hk := fun hB => by exact Nat.pos_of_ne_zero (size_ne (by simpa using hB)))) ?_
    refine ag 2 ?_
    refine ad 1 ?_
    refine Run.mid ⟨40, 2, [(0, .sl 0 p0.length), (3, .sl 1 v3.length), (4, .v (.int .i64 (spec_Brought (spec_NumOf (spec_GetKey p0 ⟨#[100, 47, 110]⟩)) 0 40))), (5, .v (.int .i64 (i : Int))), (7, .v (.string (bif ((!decide ((spec_GetKey p0 (spec_KeyNum ⟨#[100, 47]⟩ (i : Int) ⟨#[]⟩)) = ⟨#[]⟩)) && (decide (((byteAt (spec_GetKey p0 (spec_KeyNum ⟨#[100, 47]⟩ (i : Int) ⟨#[]⟩)) 0).toNat : Int) = 45))) then ((spec_Unhex (cutS (spec_GetKey p0 (spec_KeyNum ⟨#[100, 47]⟩ (i : Int) ⟨#[]⟩)) 1 ((spec_GetKey p0 (spec_KeyNum ⟨#[100, 47]⟩ (i : Int) ⟨#[]⟩)).size))).1) else ⟨#[]⟩)))], [(0, .ros Cell instDatCell p0), (1, .own ByteArray instDatByteArray v3)]⟩ ?_ ?_
    · refine cd (fun h4 => ?_) (fun h4 => ?_)
      ·
        have hne := Nat.pos_of_ne_zero (size_ne (by simpa using (Bool.and_eq_true_iff.1 h4).1))
        refine ad 2 ?_
        refine op (cu 1 ((spec_GetKey p0 (spec_KeyNum ⟨#[100, 47]⟩ (i : Int) ⟨#[]⟩)).size) (hh := rfl)) ?_
        refine op (cl (c_spec_Unhex (cutS (spec_GetKey p0 (spec_KeyNum ⟨#[100, 47]⟩ (i : Int) ⟨#[]⟩)) 1 ((spec_GetKey p0 (spec_KeyNum ⟨#[100, 47]⟩ (i : Int) ⟨#[]⟩)).size))) fok100) ?_
        refine ad 5 ?_
        exact Run.at [0, 1] [0, 1] (by first | exact su | (rw [h4]; exact su)) (by decide)
      ·
        refine ad 1 ?_
        exact Run.at [0, 1] [0, 1] (by first | exact su | (rw [h4]; exact su)) (by decide)
    refine ad 4 ?_
    have hg5 : (bif ((!decide ((spec_GetKey p0 (spec_KeyNum ⟨#[100, 47]⟩ (i : Int) ⟨#[]⟩)) = ⟨#[]⟩)) && (decide (((byteAt (spec_GetKey p0 (spec_KeyNum ⟨#[100, 47]⟩ (i : Int) ⟨#[]⟩)) 0).toNat : Int) = 45))) then ((spec_Unhex (cutS (spec_GetKey p0 (spec_KeyNum ⟨#[100, 47]⟩ (i : Int) ⟨#[]⟩)) 1 ((spec_GetKey p0 (spec_KeyNum ⟨#[100, 47]⟩ (i : Int) ⟨#[]⟩)).size))).1) else ⟨#[]⟩).size ≤ maxLen := (bifS (spec_Unhex_good _) (gs ⟨#[]⟩))
    refine op (ap [bif ((!decide ((spec_GetKey p0 (spec_KeyNum ⟨#[100, 47]⟩ (i : Int) ⟨#[]⟩)) = ⟨#[]⟩)) && (decide (((byteAt (spec_GetKey p0 (spec_KeyNum ⟨#[100, 47]⟩ (i : Int) ⟨#[]⟩)) 0).toNat : Int) = 45))) then ((spec_Unhex (cutS (spec_GetKey p0 (spec_KeyNum ⟨#[100, 47]⟩ (i : Int) ⟨#[]⟩)) 1 ((spec_GetKey p0 (spec_KeyNum ⟨#[100, 47]⟩ (i : Int) ⟨#[]⟩)).size))).1) else ⟨#[]⟩] (hg := gdt) (hb := by simp only [List.length_cons, List.length_nil]; first | omega | exact om)) ?_
    refine ad 6 ?_
    rw [wrapN (i := i) (by first | omega | exact om)]
    refine ad 2 ?_
    exact Run.again ((v3 ++ [bif ((!decide ((spec_GetKey p0 (spec_KeyNum ⟨#[100, 47]⟩ (i : Int) ⟨#[]⟩)) = ⟨#[]⟩)) && (decide (((byteAt (spec_GetKey p0 (spec_KeyNum ⟨#[100, 47]⟩ (i : Int) ⟨#[]⟩)) 0).toNat : Int) = 45))) then ((spec_Unhex (cutS (spec_GetKey p0 (spec_KeyNum ⟨#[100, 47]⟩ (i : Int) ⟨#[]⟩)) 1 ((spec_GetKey p0 (spec_KeyNum ⟨#[100, 47]⟩ (i : Int) ⟨#[]⟩)).size))).1) else ⟨#[]⟩]), (i + 1)) [0, 3] [1, 2] ⟨by exact ⟨trivial, by (try dsimp only); omega, by (try dsimp only); omega, by (try dsimp only); rw [List.length_append]; show v3.length + 1 ≤ i + 1; omega⟩, hM⟩ rfl (by show _ - _ < _ - _; (try dsimp only); omega) su (by decide)
  ·
    have h2l : ¬ (i < (spec_Brought (spec_NumOf (spec_GetKey p0 ⟨#[100, 47, 110]⟩)) 0 40 + 1).toNat) := by have := of_decide_eq_false h2; omega
    have hM := hE.trans ((congrArg (fun n => spec_OutsIn_l1 p0 n v3 i) (show ((spec_Brought (spec_NumOf (spec_GetKey p0 ⟨#[100, 47, 110]⟩)) 0 40 + 1).toNat) - i = 0 by omega)).trans (spec_OutsIn_l1.eq_1 _ _ _))
    refine ad 6 ?_
    exact rz (rs := [.tmp 2]) (congrArg (fun x => [Re.sl ByteArray instDatByteArray x]) hM)

/- F74 loop.example/g00974/impl.OutsIn -/
def impl_OutsIn_l1 (p0 : List Cell) : Nat → (List ByteArray) → Nat → (List ByteArray)
  | 0, v3, i => v3
  | n + 1, v3, i => impl_OutsIn_l1 p0 n (v3 ++ [(impl_messageOf (impl_GetKey p0 (impl_KeyNum ⟨#[100, 47]⟩ (i : Int) ⟨#[]⟩)))]) (i + 1)
def impl_OutsIn (p0 : List Cell) : (List ByteArray) := impl_OutsIn_l1 p0 (((impl_OutCount p0 + 1).toNat) - 1) [] 1
theorem c_impl_OutsIn (p0 : List Cell) (hs : Dat.small 1048576 p0) : CTs 74 [.o (.sl Cell instDatCell p0)] [Re.sl ByteArray instDatByteArray (impl_OutsIn p0)] := by
  refine en Tryz.func74 Tryz.ntmps74 fun w hG hgd => ?_
  obtain ⟨hg_p0, _⟩ := hgd
  have hl_p0 : p0.length ≤ 9223372036854775807 := hg_p0.1
  have hM := impl_OutsIn.eq_1 p0
  have hoc := OutCount_in p0
  refine ad 14 ?_
  refine Run.nil 3 (α := ByteArray) (d := instDatByteArray) rfl ?_
  refine Run.loopM (ι := (List ByteArray) × Nat) (fun s => impl_OutsIn_l1 p0 (((impl_OutCount p0 + 1).toNat) - s.2) s.1 s.2) (fun s => ⟨20, 2, [(0, .sl 0 p0.length), (3, .sl 1 s.1.length), (4, .v (.int .i64 (s.2 : Int)))], [(0, .ros Cell instDatCell p0), (1, .own ByteArray instDatByteArray s.1)]⟩) (fun s => True ∧ 1 ≤ s.2 ∧ s.2 ≤ 41 ∧ s.1.length ≤ s.2) (fun s => ((impl_OutCount p0 + 1).toNat) - s.2) ([], 1) [0, 1] [1, 0] hM (by exact ⟨trivial, by (try dsimp only); omega, by (try dsimp only); omega, by simp⟩) su (by decide) ?_
  rintro ⟨v3, i⟩ hv hE
  try dsimp only at hE
  obtain ⟨hi, hv0, hv1, hv2⟩ := hv
  try dsimp only at hi hv0 hv1 hv2
  refine ad 5 ?_
  refine op (cl (c_impl_OutCount p0 (by first | assumption | exact small_nth hs (by omega))) fok147) ?_
  refine ad 2 ?_
  refine cd (fun h1 => ?_) (fun h1 => ?_)
  ·
    have h1l : i < (impl_OutCount p0 + 1).toNat := by have := of_decide_eq_true h1; omega
    have hM := hE.trans ((congrArg (fun n => impl_OutsIn_l1 p0 n v3 i) (show ((impl_OutCount p0 + 1).toNat) - i = (((impl_OutCount p0 + 1).toNat) - (i + 1)) + 1 by omega)).trans (impl_OutsIn_l1.eq_2 _ _ _ _))
    refine ad 7 ?_
    refine op (cl (c_impl_KeyNum ⟨#[100, 47]⟩ (i : Int) ⟨#[]⟩ (by first | assumption | (unfold I64; omega)) (by first | decide | exact om)) fok150) ?_
    have hs2 := impl_GetKey_size (N := 1048576) (p0 := p0) (by assumption) (impl_KeyNum ⟨#[100, 47]⟩ (i : Int) ⟨#[]⟩)
    refine op (cl (c_impl_GetKey p0 (impl_KeyNum ⟨#[100, 47]⟩ (i : Int) ⟨#[]⟩) (by first | assumption | exact gs _ | exact KeyNum_good (by unfold I64; omega) (by decide) | (show ByteArray.size _ ≤ _; unfold maxLen; omega))) fok149) ?_
    refine op (cl (c_impl_messageOf (impl_GetKey p0 (impl_KeyNum ⟨#[100, 47]⟩ (i : Int) ⟨#[]⟩)) (by first | assumption | exact om)) fok148) ?_
    refine ad 1 ?_
    have hg3 : (impl_messageOf (impl_GetKey p0 (impl_KeyNum ⟨#[100, 47]⟩ (i : Int) ⟨#[]⟩))).size ≤ maxLen := (impl_messageOf_good _)
    refine op (ap [(impl_messageOf (impl_GetKey p0 (impl_KeyNum ⟨#[100, 47]⟩ (i : Int) ⟨#[]⟩)))] (hg := gdt) (hb := by simp only [List.length_cons, List.length_nil]; first | omega | exact om)) ?_
    refine ad 6 ?_
    rw [wrapN (i := i) (by first | omega | exact om)]
    refine ad 2 ?_
    exact Run.again ((v3 ++ [(impl_messageOf (impl_GetKey p0 (impl_KeyNum ⟨#[100, 47]⟩ (i : Int) ⟨#[]⟩)))]), (i + 1)) [0, 3] [1, 2] ⟨by exact ⟨trivial, by (try dsimp only); omega, by (try dsimp only); omega, by (try dsimp only); rw [List.length_append]; show v3.length + 1 ≤ i + 1; omega⟩, hM⟩ rfl (by show _ - _ < _ - _; (try dsimp only); omega) su (by decide)
  ·
    have h1l : ¬ (i < (impl_OutCount p0 + 1).toNat) := by have := of_decide_eq_false h1; omega
    have hM := hE.trans ((congrArg (fun n => impl_OutsIn_l1 p0 n v3 i) (show ((impl_OutCount p0 + 1).toNat) - i = 0 by omega)).trans (impl_OutsIn_l1.eq_1 _ _ _))
    refine ad 6 ?_
    exact rz (rs := [.tmp 2]) (congrArg (fun x => [Re.sl ByteArray instDatByteArray x]) hM)

/- F71 loop.example/g00974/spec.OutsGoOn -/
def spec_OutsGoOn (p0 : List ByteArray) (p1 : List ByteArray) : Bool := (decide ((p0.length : Int) ≤ (p1.length : Int))) && (spec_l03Same p0 (cutL p1 0 p0.length))
theorem c_spec_OutsGoOn (p0 : List ByteArray) (p1 : List ByteArray) : CTs 71 [.o (.sl ByteArray instDatByteArray p0), .o (.sl ByteArray instDatByteArray p1)] [Re.c (.bool (spec_OutsGoOn p0 p1))] := by
  refine en Tryz.func71 Tryz.ntmps71 fun w hG hgd => ?_
  obtain ⟨hg_p0, hg_p1, _⟩ := hgd
  have hl_p0 : p0.length ≤ 9223372036854775807 := hg_p0.1
  have hl_p1 : p1.length ≤ 9223372036854775807 := hg_p1.1
  have hM := spec_OutsGoOn.eq_1 p0 p1
  refine ad 12 ?_
  refine Run.midO ⟨18, 0, [(4, .v (.bool ((decide ((p0.length : Int) ≤ (p1.length : Int))) && (spec_l03Same p0 (cutL p1 0 p0.length)))))], []⟩ ?_ ?_
  · refine bc 10 (fun h1 => ?_) (fun h1 => ?_)
    ·
      refine ad 9 ?_
      refine op (pa 0 p0.length (hl := rfl)) ?_
      refine ad 1 ?_
      refine op (cl (c_spec_l03Same p0 (cutL p1 0 p0.length)) fok75) ?_
      refine ad 3 ?_
      exact Run.at [] [] (by first | exact su | (rw [h1]; exact su)) (by decide)
    ·
      refine ad 9 ?_
      exact Run.at [] [] (by first | exact su | (rw [h1]; exact su)) (by decide)
  exact rz (rs := [.tmp 4]) (congrArg (fun x => [Re.c (.bool x)]) hM)

/- F73 loop.example/g00974/impl.OutsGoOn -/
def impl_OutsGoOn (p0 : List ByteArray) (p1 : List ByteArray) : Bool := (decide ((p0.length : Int) ≤ (p1.length : Int))) && (slices_Equal_string p0 (cutL p1 0 p0.length))
theorem c_impl_OutsGoOn (p0 : List ByteArray) (p1 : List ByteArray) : CTs 73 [.o (.sl ByteArray instDatByteArray p0), .o (.sl ByteArray instDatByteArray p1)] [Re.c (.bool (impl_OutsGoOn p0 p1))] := by
  refine en Tryz.func73 Tryz.ntmps73 fun w hG hgd => ?_
  obtain ⟨hg_p0, hg_p1, _⟩ := hgd
  have hl_p0 : p0.length ≤ 9223372036854775807 := hg_p0.1
  have hl_p1 : p1.length ≤ 9223372036854775807 := hg_p1.1
  have hM := impl_OutsGoOn.eq_1 p0 p1
  refine ad 12 ?_
  refine Run.midO ⟨18, 0, [(4, .v (.bool ((decide ((p0.length : Int) ≤ (p1.length : Int))) && (slices_Equal_string p0 (cutL p1 0 p0.length)))))], []⟩ ?_ ?_
  · refine bc 10 (fun h1 => ?_) (fun h1 => ?_)
    ·
      refine ad 9 ?_
      refine op (pa 0 p0.length (hl := rfl)) ?_
      refine ad 1 ?_
      refine op (cl (c_slices_Equal_string p0 (cutL p1 0 p0.length)) fok77) ?_
      refine ad 3 ?_
      exact Run.at [] [] (by first | exact su | (rw [h1]; exact su)) (by decide)
    ·
      refine ad 9 ?_
      exact Run.at [] [] (by first | exact su | (rw [h1]; exact su)) (by decide)
  exact rz (rs := [.tmp 4]) (congrArg (fun x => [Re.c (.bool x)]) hM)

/- F17 loop.example/g00974/spec.SeenOk -/
def spec_SeenOk (p0 : Kernel) : Bool := (spec_OutsGoOn p0.Seen (spec_OutsIn p0.Store))
theorem c_spec_SeenOk (p0 : Kernel) (hs : Dat.small 1048576 p0) : CTs 17 [.o (.st Kernel _ inferInstance p0)] [Re.c (.bool (spec_SeenOk p0))] := by
  refine en Tryz.func17 Tryz.ntmps17 fun w hG hgd => ?_
  obtain ⟨hg_p0, _⟩ := hgd
  have hM := spec_SeenOk.eq_1 p0
  have hs0 : Dat.small 1048576 p0.Store := hs.1
  have hs6 : Dat.small 1048576 p0.History := hs.2.2.2.2.2.2.1
  refine ad 6 ?_
  refine dr 7 fun _ _ _ _ _ hb => ?_
  refine tk [0, 1, 2, 3] ?_
  refine ong 4 [1, 2, 3, 4, 5, 6] (clg (c_spec_OutsIn p0.Store (by first | assumption | exact small_nth hs (by omega))) fok72) fun hgq => ?_
  obtain ⟨hg1, _⟩ := hgq
  refine on 5 [1, 2, 3, 4, 5, 6] (cl (c_spec_OutsGoOn p0.Seen (spec_OutsIn p0.Store)) fok71) ?_
  refine tk [6] ?_
  refine dn hb ?_
  exact rz (rs := [.tmp 2]) (congrArg (fun x => [Re.c (.bool x)]) hM)

/- F18 loop.example/g00974/impl.SeenOk -/
def impl_SeenOk (p0 : Kernel) : Bool := (impl_OutsGoOn p0.Seen (impl_OutsIn p0.Store))
theorem c_impl_SeenOk (p0 : Kernel) (hs : Dat.small 1048576 p0) : CTs 18 [.o (.st Kernel _ inferInstance p0)] [Re.c (.bool (impl_SeenOk p0))] := by
  refine en Tryz.func18 Tryz.ntmps18 fun w hG hgd => ?_
  obtain ⟨hg_p0, _⟩ := hgd
  have hM := impl_SeenOk.eq_1 p0
  have hs0 : Dat.small 1048576 p0.Store := hs.1
  have hs6 : Dat.small 1048576 p0.History := hs.2.2.2.2.2.2.1
  refine ad 6 ?_
  refine dr 7 fun _ _ _ _ _ hb => ?_
  refine tk [0, 1, 2, 3] ?_
  refine ong 4 [1, 2, 3, 4, 5, 6] (clg (c_impl_OutsIn p0.Store (by first | assumption | exact small_nth hs (by omega))) fok74) fun hgq => ?_
  obtain ⟨hg1, _⟩ := hgq
  refine on 5 [1, 2, 3, 4, 5, 6] (cl (c_impl_OutsGoOn p0.Seen (impl_OutsIn p0.Store)) fok73) ?_
  refine tk [6] ?_
  refine dn hb ?_
  exact rz (rs := [.tmp 2]) (congrArg (fun x => [Re.c (.bool x)]) hM)

end Go.Proofs.YtnjidaonbcbphaaGreatDoor.Fw
/-
  The reference and the program find the same that went out. No condition.
-/
namespace Go.Proofs.YtnjidaonbcbphaaGreatDoor.Fw
open Go.RowKit
set_option linter.unusedVariables false
set_option linter.unusedSimpArgs false
set_option maxRecDepth 100000
theorem byteAt_mk (l : List UInt8) (k : Nat) : byteAt ⟨l.toArray⟩ k = l.getD k 0 := by
  unfold byteAt
  simp [Array.getD_eq_getD_getElem?, List.getD_eq_getElem?_getD]
theorem cut1 (b : UInt8) (r : List UInt8) : cutS (⟨(b :: r).toArray⟩ : ByteArray) 0 1 = ⟨#[b]⟩ := by
  unfold cutS
  apply ByteArray.ext
  simp [ByteArray.data_extract]
theorem dash_is (v : ByteArray) : internal_stringslite_HasPrefix v ⟨#[45]⟩ = ((!decide (v = ⟨#[]⟩)) && (decide (((byteAt v 0).toNat : Int) = 45))) := by
  obtain ⟨⟨l⟩⟩ := v
  cases l with
  | nil => rfl
  | cons b r =>
    have h1 : ¬ (⟨(b :: r).toArray⟩ : ByteArray) = ⟨#[]⟩ := fun e => by
      have := congrArg ByteArray.size e
      simp [ByteArray.size] at this
    unfold internal_stringslite_HasPrefix
    have h2 : ((⟨(b :: r).toArray⟩ : ByteArray).size : Int) ≥ ((⟨#[45]⟩ : ByteArray).size : Int) := by
      show ((r.length + 1 : Nat) : Int) ≥ 1
      omega
    rw [decide_eq_true h2, decide_eq_false h1, Bool.true_and, Bool.not_false, Bool.true_and]
    rw [show cutS (⟨(b :: r).toArray⟩ : ByteArray) 0 (⟨#[45]⟩ : ByteArray).size = ⟨#[b]⟩ from cut1 b r]
    rw [show byteAt (⟨(b :: r).toArray⟩ : ByteArray) 0 = b by rw [byteAt_mk]; rfl]
    apply decide_eq_decide.2
    constructor
    · intro e
      injection e with e
      have : b = 45 := by simpa using e
      rw [this]; rfl
    · intro e
      have : b = 45 := by
        have h3 : b.toNat = 45 := by omega
        exact UInt8.toNat_inj.1 h3
      rw [this]
theorem message_twin (v : ByteArray) : impl_messageOf v = bif ((!decide (v = ⟨#[]⟩)) && (decide (((byteAt v 0).toNat : Int) = 45))) then ((spec_Unhex (cutS v 1 v.size)).1) else ⟨#[]⟩ := by
  unfold impl_messageOf strings_CutPrefix internal_stringslite_CutPrefix
  rw [← dash_is]
  cases internal_stringslite_HasPrefix v ⟨#[45]⟩ with
  | false => rfl
  | true =>
    show (impl_Unhex (cutS v 1 v.size)).1 = (spec_Unhex (cutS v 1 v.size)).1
    rw [Unhex_twin]
theorem OutsIn_l1_twin (p0 : List Cell) : ∀ (n : Nat) v (i : Nat), i + n ≤ 100 → impl_OutsIn_l1 p0 n v i = spec_OutsIn_l1 p0 n v i := by
  intro n
  induction n with
  | zero => intro v i _; rfl
  | succ n ih =>
    intro v i h
    rw [impl_OutsIn_l1, spec_OutsIn_l1, ih _ _ (by omega), message_twin, GetKey_twin, KeyNum_twin _ _ (by unfold I64; omega)]
theorem OutsIn_twin (p0 : List Cell) : impl_OutsIn p0 = spec_OutsIn p0 := by
  have h := NumOf_in (impl_GetKey p0 ⟨#[100, 47, 110]⟩)
  have e : impl_OutCount p0 = spec_Brought (spec_NumOf (spec_GetKey p0 ⟨#[100, 47, 110]⟩)) 0 40 := by
    rw [Brought_min (by rw [← GetKey_twin, ← NumOf_twin]; exact h.1), ← GetKey_twin, ← NumOf_twin]
    rfl
  unfold impl_OutsIn spec_OutsIn
  rw [e]
  have hb := Brought_in (spec_NumOf (spec_GetKey p0 ⟨#[100, 47, 110]⟩))
  exact OutsIn_l1_twin p0 _ _ 1 (by omega)
theorem GoOn_twin (a b : List ByteArray) : impl_OutsGoOn a b = spec_OutsGoOn a b := by
  unfold impl_OutsGoOn spec_OutsGoOn
  rw [Equal_twin]
theorem SeenOk_twin (k : Kernel) : impl_SeenOk k = spec_SeenOk k := by
  unfold impl_SeenOk spec_SeenOk
  rw [OutsIn_twin, GoOn_twin]
/-- How many steps stand in the first entries. -/
def stepsB (p0 : List Entry) : Nat → Nat
  | 0 => 0
  | i + 1 => stepsB p0 i + (nth p0 i).Steps.length
theorem stepsB_succ (p0 : List Entry) (i : Nat) : stepsB p0 (i + 1) = stepsB p0 i + (nth p0 i).Steps.length := rfl
theorem stepsB_le1 {p0 : List Entry} (hs : Dat.small 1048576 p0) : ∀ i, i ≤ p0.length → stepsB p0 i ≤ i * 1048576
  | 0, _ => Nat.zero_le _
  | i + 1, h => by
    have h1 := stepsB_le1 hs i (by omega)
    have h2 : (nth p0 i).Steps.length ≤ 1048576 := (small_nth hs (k := i) (by omega)).2.2.2.1.1
    rw [stepsB_succ]
    omega
theorem stepsB_le {p0 : List Entry} (hs : Dat.small 1048576 p0) {i : Nat} (h : i ≤ p0.length) : stepsB p0 i ≤ 1099511627776 := by
  have h1 := stepsB_le1 hs i h
  have h2 : p0.length ≤ 1048576 := hs.1
  omega

end Go.Proofs.YtnjidaonbcbphaaGreatDoor.Fw

/- Contracts: each call returns what the model says. By program (wip/am/gen2.py). -/
namespace Go.Proofs.YtnjidaonbcbphaaGreatDoor.Fw
open Go.RowKit
set_option linter.unusedVariables false
set_option maxRecDepth 100000

theorem fok76 : FnOk Tryz.prog 76 := ⟨_, Tryz.func76, rfl, by kernel_rfl⟩
theorem fok78 : FnOk Tryz.prog 78 := ⟨_, Tryz.func78, rfl, by kernel_rfl⟩
/- F76 loop.example/g00974/spec.OutsOf -/
def spec_OutsOf_l2 (p0 : List Entry) (v3 : List ByteArray) (i : Nat) (k_2 : (List ByteArray) → (List ByteArray)) : Nat → (List ByteArray) → Nat → (List ByteArray)
  | 0, v3_2, i_2 => k_2 v3_2
  | n_2 + 1, v3_2, i_2 => bif (decide ((i_2 : Int) < ((nth p0 i).Steps.length : Int))) && (decide ((i_2 : Int) < ((nth p0 i).Answers.length : Int))) then (spec_OutsOf_l2 p0 v3 i k_2 n_2 (bif ((decide (((nth ((nth p0 i).Steps) i_2).Call.Kind) = 22)) && (decide (((nth ((nth p0 i).Answers) i_2).Code) = 0))) then (v3_2 ++ [(nth ((nth p0 i).Steps) i_2).Call.Text]) else v3_2) (i_2 + 1)) else (k_2 v3_2)
theorem spec_OutsOf_l2_x (p0 : List Entry) (v3 : List ByteArray) (i : Nat) (k_2 : (List ByteArray) → (List ByteArray)) (fu : Nat) (v3_2 : List ByteArray) (i_2 : Nat) (h : ((decide ((i_2 : Int) < ((nth p0 i).Steps.length : Int))) && (decide ((i_2 : Int) < ((nth p0 i).Answers.length : Int)))) = false) : spec_OutsOf_l2 p0 v3 i k_2 fu v3_2 i_2 = k_2 v3_2 := by
  cases fu with
  | zero => rfl
  | succ n => exact (bf h)
def spec_OutsOf_l1 (p0 : List Entry) : Nat → (List ByteArray) → Nat → (List ByteArray)
  | 0, v3, i => v3
  | n + 1, v3, i => spec_OutsOf_l2 p0 v3 i (fun e => spec_OutsOf_l1 p0 n e (i + 1)) (((nth p0 i).Steps.length) - 0) v3 0
def spec_OutsOf (p0 : List Entry) : (List ByteArray) := spec_OutsOf_l1 p0 (p0.length - 0) ([] : List ByteArray) 0
theorem c_spec_OutsOf (p0 : List Entry) (hs : Dat.small 1048576 p0) : CTs 76 [.o (.sl Entry instDatEntry p0)] [Re.sl ByteArray instDatByteArray (spec_OutsOf p0)] := by
  refine en Tryz.func76 Tryz.ntmps76 fun w hG hgd => ?_
  obtain ⟨hg_p0, _⟩ := hgd
  have hl_p0 : p0.length ≤ 9223372036854775807 := hg_p0.1
  have hM := spec_OutsOf.eq_1 p0
  refine ad 6 ?_
  refine op (l0) ?_
  refine ad 8 ?_
  refine li 1 (d := instDatByteArray) ([] : List ByteArray) ?_
  refine Run.loopM (ι := (List ByteArray) × Nat) (fun s => spec_OutsOf_l1 p0 (p0.length - s.2) s.1 s.2) (fun s => ⟨60, 2, [(0, .sl 0 p0.length), (3, .sl 1 s.1.length), (4, .v (.int .i64 (s.2 : Int)))], [(0, .ros Entry instDatEntry p0), (1, .own ByteArray instDatByteArray s.1)]⟩) (fun s => s.2 ≤ p0.length ∧ s.1.length ≤ stepsB p0 s.2) (fun s => p0.length - s.2) (([] : List ByteArray), 0) [0, 1] [1, 0] hM (by exact ⟨by (try dsimp only); omega, Nat.zero_le _⟩) su (by decide) ?_
  rintro ⟨v3, i⟩ hv hE
  try dsimp only at hE
  obtain ⟨hi, hv0⟩ := hv
  try dsimp only at hi hv0
  refine ad 8 ?_
  refine cd (fun h1 => ?_) (fun h1 => ?_)
  ·
    have h1l : i < p0.length := by have := of_decide_eq_true h1; omega
    have hM := hE.trans ((congrArg (fun n => spec_OutsOf_l1 p0 n v3 i) (show p0.length - i = (p0.length - (i + 1)) + 1 by omega)).trans (spec_OutsOf_l1.eq_2 _ _ _ _))
    have hsb := stepsB_succ p0 i
    have hsc := stepsB_le hs (i := i + 1) (by omega)
    refine ad 7 ?_
    have hg3 := good_nth (k := i) hg_p0 om
    refine op (ix (xs := p0) i om) ?_
    refine ad 9 ?_
    refine Run.loopkM (ι := Nat × (List ByteArray) × Nat) (κ := (List ByteArray)) (fun k s => spec_OutsOf_l2 p0 v3 i k s.1 s.2.1 s.2.2) (fun s => ⟨60, 5, [(0, .sl 0 p0.length), (3, .sl 4 s.2.1.length), (4, .v (.int .i64 (i : Int))), (5, .pt 1 0), (6, .v (.int .i64 (s.2.2 : Int)))], [(0, .ros Entry instDatEntry p0), (1, .var [.v (.int .i64 ((nth p0 i).Seq)), .v (.int .i64 ((nth p0 i).Kind)), .v (.int .i64 ((nth p0 i).Tx)), .sl 2 ((nth p0 i).Steps.length), .sl 3 ((nth p0 i).Answers.length), .v (.int .i64 ((nth p0 i).Began)), .v (.int .i64 ((nth p0 i).Ended)), .v (.bool ((nth p0 i).Laid))] 153), (2, .ros Step instDatStep ((nth p0 i).Steps)), (3, .ros Answer instDatAnswer ((nth p0 i).Answers)), (4, .own ByteArray instDatByteArray s.2.1)]⟩) (fun s => ((nth p0 i).Steps.length) - s.2.2 ≤ s.1 ∧ s.2.2 ≤ (nth p0 i).Steps.length ∧ s.2.1.length ≤ stepsB p0 i + s.2.2) (fun s => s.1) (fun e => ⟨60, 2, [(0, .sl 0 p0.length), (3, .sl 1 e.length), (4, .v (.int .i64 (i : Int)))], [(0, .ros Entry instDatEntry p0), (1, .own ByteArray instDatByteArray e)]⟩) (fun e => e.length ≤ stepsB p0 (i + 1)) (((nth p0 i).Steps.length) - 0, v3, 0) [0, 5, 3, 4, 1] [4, 0, 2, 3, 5] hM (by exact ⟨by (try dsimp only); omega, by (try dsimp only); omega, by (try dsimp only); omega⟩) su (by decide) ?_ ?_
    ·
      rintro ev3_2 hv hM
      try dsimp only at hM hv ⊢
      refine ad 4 ?_
      rw [wrapN (i := i) (by first | omega | exact om)]
      refine ad 2 ?_
      exact Run.again (ev3_2, (i + 1)) [0, 1] [0, 1] ⟨by exact ⟨by (try dsimp only); omega, by show ev3_2.length ≤ stepsB p0 (i + 1); omega⟩, hM⟩ rfl (by show _ - _ < _ - _; (try dsimp only); omega) su (by decide)
    ·
      intro k_2 hk_2
      rintro ⟨fu_2, v3_2, i_2⟩ hv_2 hE
      try dsimp only at hE
      obtain ⟨hi_2, hv_2_0, hv_2_1⟩ := hv_2
      try dsimp only at hi_2 hv_2_0 hv_2_1
      refine ad 9 ?_
      refine ag 6 ?_
      refine ad 1 ?_
      refine cd (fun h4 => ?_) (fun h4 => ?_)
      ·
        obtain ⟨n_2, rfl⟩ : ∃ n, fu_2 = n + 1 := ⟨fu_2 - 1, by have := h4; have := om (p := 0 < ((nth p0 i).Steps.length) - i_2); omega⟩
        have hM := hE.trans ((spec_OutsOf_l2.eq_2 _ _ _ _ _ _ _).trans (bt h4))
        refine ad 8 ?_
        have hg6 := good_nth (k := i_2) hg3.2.2.2.1 om
        refine op (ix (xs := (nth p0 i).Steps) i_2 om) ?_
        refine ad 5 ?_
        refine ag 3 ?_
        refine op (iG (xs := (nth p0 i).Answers) i_2 om) ?_
        refine ag 4 ?_
        refine ad 1 ?_
        refine Run.mid ⟨60, 5, [(0, .sl 0 p0.length), (3, .sl 1 ((bif ((decide (((nth ((nth p0 i).Steps) i_2).Call.Kind) = 22)) && (decide (((nth ((nth p0 i).Answers) i_2).Code) = 0))) then (v3_2 ++ [(nth ((nth p0 i).Steps) i_2).Call.Text]) else v3_2).length)), (4, .v (.int .i64 (i : Int))), (5, .pt 2 0), (6, .v (.int .i64 (i_2 : Int)))], [(0, .ros Entry instDatEntry p0), (1, .own ByteArray instDatByteArray (bif ((decide (((nth ((nth p0 i).Steps) i_2).Call.Kind) = 22)) && (decide (((nth ((nth p0 i).Answers) i_2).Code) = 0))) then (v3_2 ++ [(nth ((nth p0 i).Steps) i_2).Call.Text]) else v3_2)), (2, .var [.v (.int .i64 ((nth p0 i).Seq)), .v (.int .i64 ((nth p0 i).Kind)), .v (.int .i64 ((nth p0 i).Tx)), .sl 3 ((nth p0 i).Steps.length), .sl 4 ((nth p0 i).Answers.length), .v (.int .i64 ((nth p0 i).Began)), .v (.int .i64 ((nth p0 i).Ended)), .v (.bool ((nth p0 i).Laid))] 153), (3, .ros Step instDatStep ((nth p0 i).Steps)), (4, .ros Answer instDatAnswer ((nth p0 i).Answers))]⟩ ?_ ?_
        · refine cd (fun h7 => ?_) (fun h7 => ?_)
          ·
            refine ad 5 ?_
            have hg9 := good_nth (k := i_2) hg3.2.2.2.1 om
            refine op (ix (xs := (nth p0 i).Steps) i_2 om) ?_
            refine ad 4 ?_
            have hg10 : ((nth ((nth p0 i).Steps) i_2).Call.Text).size ≤ maxLen := hg9.2.2.2.2.2.2
            refine op (ap [(nth ((nth p0 i).Steps) i_2).Call.Text] (hg := gdt) (hb := by simp only [List.length_cons, List.length_nil]; first | omega | exact om)) ?_
            refine ad 2 ?_
            exact Run.at [0, 9, 1, 2, 3] [4, 8, 5, 6, 7] (by first | exact su | (rw [h7]; exact su)) (by decide)
          ·
            refine ad 1 ?_
            exact Run.at [0, 4, 1, 2, 3] [2, 6, 3, 4, 5] (by first | exact su | (rw [h7]; exact su)) (by decide)
        refine ad 4 ?_
        rw [wrapN (i := i_2) (by first | omega | exact om)]
        refine ad 2 ?_
        exact Run.again (n_2, bif ((decide (((nth ((nth p0 i).Steps) i_2).Call.Kind) = 22)) && (decide (((nth ((nth p0 i).Answers) i_2).Code) = 0))) then (v3_2 ++ [(nth ((nth p0 i).Steps) i_2).Call.Text]) else v3_2, (i_2 + 1)) [0, 2, 3, 4, 1] [0, 2, 3, 4, 1] ⟨by exact ⟨by (try dsimp only); omega, by (try dsimp only); first | omega | exact om, by (try dsimp only); (try simp only [Bool.cond_eq_ite]); (repeat' split); all_goals ((try simp only [List.length_append, List.length_cons, List.length_nil]); omega)⟩, hM⟩ rfl (by exact Nat.lt_succ_self _) su (by decide)
      ·
        have hM := hE.trans (spec_OutsOf_l2_x p0 v3 i k_2 fu_2 v3_2 i_2 h4)
        refine ad 1 ?_
        exact Run.exitkM hk_2 v3_2 [0, 4] [0, 4] hM (by ((try dsimp only); omega)) su (by decide)
  ·
    have h1l : ¬ (i < p0.length) := by have := of_decide_eq_false h1; omega
    have hM := hE.trans ((congrArg (fun n => spec_OutsOf_l1 p0 n v3 i) (show p0.length - i = 0 by omega)).trans (spec_OutsOf_l1.eq_1 _ _ _))
    refine ad 6 ?_
    exact rz (rs := [.tmp 2]) (congrArg (fun x => [Re.sl ByteArray instDatByteArray x]) hM)

/- F78 loop.example/g00974/impl.OutsOf -/
def impl_OutsOf_l2 (p0 : List Entry) (v3 : List ByteArray) (i : Nat) (k_2 : (List ByteArray) → (List ByteArray)) : Nat → (List ByteArray) → Nat → (List ByteArray)
  | 0, v3_2, i_2 => k_2 v3_2
  | n_2 + 1, v3_2, i_2 => impl_OutsOf_l2 p0 v3 i k_2 n_2 (bif (((decide (((nth ((nth p0 i).Steps) i_2).Call.Kind) = 22)) && (decide ((i_2 : Int) < ((nth p0 i).Answers.length : Int)))) && (decide (((nth ((nth p0 i).Answers) i_2).Code) = 0))) then (v3_2 ++ [(nth ((nth p0 i).Steps) i_2).Call.Text]) else v3_2) (i_2 + 1)
def impl_OutsOf_l1 (p0 : List Entry) : Nat → (List ByteArray) → Nat → (List ByteArray)
  | 0, v3, i => v3
  | n + 1, v3, i => impl_OutsOf_l2 p0 v3 i (fun e => impl_OutsOf_l1 p0 n e (i + 1)) (((nth p0 i).Steps.length) - 0) v3 0
def impl_OutsOf (p0 : List Entry) : (List ByteArray) := impl_OutsOf_l1 p0 (p0.length - 0) [] 0
theorem c_impl_OutsOf (p0 : List Entry) (hs : Dat.small 1048576 p0) : CTs 78 [.o (.sl Entry instDatEntry p0)] [Re.sl ByteArray instDatByteArray (impl_OutsOf p0)] := by
  refine en Tryz.func78 Tryz.ntmps78 fun w hG hgd => ?_
  obtain ⟨hg_p0, _⟩ := hgd
  have hl_p0 : p0.length ≤ 9223372036854775807 := hg_p0.1
  have hM := impl_OutsOf.eq_1 p0
  refine ad 16 ?_
  refine Run.nil 3 (α := ByteArray) (d := instDatByteArray) rfl ?_
  refine Run.loopM (ι := (List ByteArray) × Nat) (fun s => impl_OutsOf_l1 p0 (p0.length - s.2) s.1 s.2) (fun s => ⟨51, 2, [(3, .sl 1 s.1.length), (8, .sl 0 p0.length), (9, .v (.int .i64 (p0.length : Int))), (10, .v (.int .i64 (s.2 : Int)))], [(0, .ros Entry instDatEntry p0), (1, .own ByteArray instDatByteArray s.1)]⟩) (fun s => s.2 ≤ p0.length ∧ s.1.length ≤ stepsB p0 s.2) (fun s => p0.length - s.2) ([], 0) [0, 1] [1, 0] hM (by exact ⟨by (try dsimp only); omega, Nat.zero_le _⟩) su (by decide) ?_
  rintro ⟨v3, i⟩ hv hE
  try dsimp only at hE
  obtain ⟨hi, hv0⟩ := hv
  try dsimp only at hi hv0
  refine ad 5 ?_
  refine cd (fun h1 => ?_) (fun h1 => ?_)
  ·
    have h1l : i < p0.length := by have := of_decide_eq_true h1; omega
    have hM := hE.trans ((congrArg (fun n => impl_OutsOf_l1 p0 n v3 i) (show p0.length - i = (p0.length - (i + 1)) + 1 by omega)).trans (impl_OutsOf_l1.eq_2 _ _ _ _))
    have hsb := stepsB_succ p0 i
    have hsc := stepsB_le hs (i := i + 1) (by omega)
    refine ad 5 ?_
    have hg3 := good_nth (k := i) hg_p0 om
    refine op (ix (xs := p0) i om) ?_
    refine ad 12 ?_
    refine Run.loopkM (ι := (List ByteArray) × Nat) (κ := (List ByteArray)) (fun k s => impl_OutsOf_l2 p0 v3 i k (((nth p0 i).Steps.length) - s.2) s.1 s.2) (fun s => ⟨51, 5, [(3, .sl 4 s.1.length), (5, .pt 0 0), (8, .sl 3 p0.length), (9, .v (.int .i64 (p0.length : Int))), (10, .v (.int .i64 (i : Int))), (15, .sl 1 ((nth p0 i).Steps.length)), (16, .v (.int .i64 ((nth p0 i).Steps.length : Int))), (17, .v (.int .i64 (s.2 : Int)))], [(0, .var [.v (.int .i64 ((nth p0 i).Seq)), .v (.int .i64 ((nth p0 i).Kind)), .v (.int .i64 ((nth p0 i).Tx)), .sl 1 ((nth p0 i).Steps.length), .sl 2 ((nth p0 i).Answers.length), .v (.int .i64 ((nth p0 i).Began)), .v (.int .i64 ((nth p0 i).Ended)), .v (.bool ((nth p0 i).Laid))] 153), (1, .ros Step instDatStep ((nth p0 i).Steps)), (2, .ros Answer instDatAnswer ((nth p0 i).Answers)), (3, .ros Entry instDatEntry p0), (4, .own ByteArray instDatByteArray s.1)]⟩) (fun s => s.2 ≤ (nth p0 i).Steps.length ∧ s.2 ≤ (nth p0 i).Steps.length ∧ s.1.length ≤ stepsB p0 i + s.2) (fun s => ((nth p0 i).Steps.length) - s.2) (fun e => ⟨51, 2, [(3, .sl 0 e.length), (8, .sl 1 p0.length), (9, .v (.int .i64 (p0.length : Int))), (10, .v (.int .i64 (i : Int)))], [(0, .own ByteArray instDatByteArray e), (1, .ros Entry instDatEntry p0)]⟩) (fun e => e.length ≤ stepsB p0 (i + 1)) (v3, 0) [5, 3, 4, 0, 1] [0, 2, 3, 4, 5] hM (by exact ⟨by (try dsimp only); omega, by (try dsimp only); omega, by (try dsimp only); omega⟩) su (by decide) ?_ ?_
    ·
      rintro ev3_2 hv hM
      try dsimp only at hM hv ⊢
      refine ad 3 ?_
      rw [wrapN (i := i) (by first | omega | exact om)]
      refine ad 2 ?_
      exact Run.again (ev3_2, (i + 1)) [1, 0] [1, 0] ⟨by exact ⟨by (try dsimp only); omega, by show ev3_2.length ≤ stepsB p0 (i + 1); omega⟩, hM⟩ rfl (by show _ - _ < _ - _; (try dsimp only); omega) su (by decide)
    ·
      intro k_2 hk_2
      rintro ⟨v3_2, i_2⟩ hv_2 hE
      try dsimp only at hE
      obtain ⟨hi_2, hv_2_0, hv_2_1⟩ := hv_2
      try dsimp only at hi_2 hv_2_0 hv_2_1
      refine ad 5 ?_
      refine cd (fun h4 => ?_) (fun h4 => ?_)
      ·
        have h4l : i_2 < (nth p0 i).Steps.length := by have := of_decide_eq_true h4; omega
        have hM := hE.trans ((congrArg (fun n => impl_OutsOf_l2 p0 v3 i k_2 n v3_2 i_2) (show ((nth p0 i).Steps.length) - i_2 = (((nth p0 i).Steps.length) - (i_2 + 1)) + 1 by omega)).trans (impl_OutsOf_l2.eq_2 _ _ _ _ _ _ _))
        refine ad 6 ?_
        have hg6 := good_nth (k := i_2) hg3.2.2.2.1 om
        refine op (ix (xs := (nth p0 i).Steps) i_2 om) ?_
        refine ad 12 ?_
        refine ag 6 ?_
        refine ad 1 ?_
        refine Run.midO ⟨51, 6, [(3, .sl 0 v3_2.length), (5, .pt 1 0), (7, .pt 4 0), (8, .sl 5 p0.length), (9, .v (.int .i64 (p0.length : Int))), (10, .v (.int .i64 (i : Int))), (15, .sl 2 ((nth p0 i).Steps.length)), (16, .v (.int .i64 ((nth p0 i).Steps.length : Int))), (17, .v (.int .i64 (i_2 : Int))), (41, .v (.bool (((decide (((nth ((nth p0 i).Steps) i_2).Call.Kind) = 22)) && (decide ((i_2 : Int) < ((nth p0 i).Answers.length : Int)))) && (decide (((nth ((nth p0 i).Answers) i_2).Code) = 0)))))], [(0, .own ByteArray instDatByteArray v3_2), (1, .var [.v (.int .i64 ((nth p0 i).Seq)), .v (.int .i64 ((nth p0 i).Kind)), .v (.int .i64 ((nth p0 i).Tx)), .sl 2 ((nth p0 i).Steps.length), .sl 3 ((nth p0 i).Answers.length), .v (.int .i64 ((nth p0 i).Began)), .v (.int .i64 ((nth p0 i).Ended)), .v (.bool ((nth p0 i).Laid))] 153), (2, .ros Step instDatStep ((nth p0 i).Steps)), (3, .ros Answer instDatAnswer ((nth p0 i).Answers)), (4, .var [.v (.int .i64 ((nth ((nth p0 i).Steps) i_2).Proc)), .v (.int .i64 ((nth ((nth p0 i).Steps) i_2).Call.Kind)), .v (.string ((nth ((nth p0 i).Steps) i_2).Call.Name)), .v (.string ((nth ((nth p0 i).Steps) i_2).Call.To)), .v (.int .i64 ((nth ((nth p0 i).Steps) i_2).Call.A)), .v (.int .i64 ((nth ((nth p0 i).Steps) i_2).Call.B)), .v (.string ((nth ((nth p0 i).Steps) i_2).Call.Text))] 179), (5, .ros Entry instDatEntry p0)]⟩ ?_ ?_
        · refine bc 33 (fun h7 => ?_) (fun h7 => ?_)
          ·
            refine ad 7 ?_
            have hg9 := good_nth (k := i_2) hg3.2.2.2.2.1 om
            refine op (ix (xs := (nth p0 i).Answers) i_2 om) ?_
            refine ad 8 ?_
            exact Run.at [4, 0, 1, 2, 6, 3] [7, 3, 4, 5, 1, 6] (by first | exact su | (rw [h7]; exact su)) (by decide)
          ·
            refine ad 9 ?_
            exact Run.at [4, 0, 1, 2, 6, 3] [6, 2, 3, 4, 0, 5] (by first | exact su | (rw [h7]; exact su)) (by decide)
        refine Run.mid ⟨51, 5, [(3, .sl 0 ((bif (((decide (((nth ((nth p0 i).Steps) i_2).Call.Kind) = 22)) && (decide ((i_2 : Int) < ((nth p0 i).Answers.length : Int)))) && (decide (((nth ((nth p0 i).Answers) i_2).Code) = 0))) then (v3_2 ++ [(nth ((nth p0 i).Steps) i_2).Call.Text]) else v3_2).length)), (5, .pt 1 0), (8, .sl 4 p0.length), (9, .v (.int .i64 (p0.length : Int))), (10, .v (.int .i64 (i : Int))), (15, .sl 2 ((nth p0 i).Steps.length)), (16, .v (.int .i64 ((nth p0 i).Steps.length : Int))), (17, .v (.int .i64 (i_2 : Int)))], [(0, .own ByteArray instDatByteArray (bif (((decide (((nth ((nth p0 i).Steps) i_2).Call.Kind) = 22)) && (decide ((i_2 : Int) < ((nth p0 i).Answers.length : Int)))) && (decide (((nth ((nth p0 i).Answers) i_2).Code) = 0))) then (v3_2 ++ [(nth ((nth p0 i).Steps) i_2).Call.Text]) else v3_2)), (1, .var [.v (.int .i64 ((nth p0 i).Seq)), .v (.int .i64 ((nth p0 i).Kind)), .v (.int .i64 ((nth p0 i).Tx)), .sl 2 ((nth p0 i).Steps.length), .sl 3 ((nth p0 i).Answers.length), .v (.int .i64 ((nth p0 i).Began)), .v (.int .i64 ((nth p0 i).Ended)), .v (.bool ((nth p0 i).Laid))] 153), (2, .ros Step instDatStep ((nth p0 i).Steps)), (3, .ros Answer instDatAnswer ((nth p0 i).Answers)), (4, .ros Entry instDatEntry p0)]⟩ ?_ ?_
        · refine cd (fun h10 => ?_) (fun h10 => ?_)
          ·
            refine ad 6 ?_
            have hg11 : ((nth ((nth p0 i).Steps) i_2).Call.Text).size ≤ maxLen := hg6.2.2.2.2.2.2
            refine op (ap [(nth ((nth p0 i).Steps) i_2).Call.Text] (hg := gdt) (hb := by simp only [List.length_cons, List.length_nil]; first | omega | exact om)) ?_
            refine ad 2 ?_
            exact Run.at [7, 1, 2, 3, 5] [1, 2, 3, 4, 6] (by first | exact su | (rw [h10]; exact su)) (by decide)
          ·
            refine ad 1 ?_
            exact Run.at [0, 1, 2, 3, 5] [0, 1, 2, 3, 5] (by first | exact su | (rw [h10]; exact su)) (by decide)
        refine ad 3 ?_
        rw [wrapN (i := i_2) (by first | omega | exact om)]
        refine ad 2 ?_
        exact Run.again (bif (((decide (((nth ((nth p0 i).Steps) i_2).Call.Kind) = 22)) && (decide ((i_2 : Int) < ((nth p0 i).Answers.length : Int)))) && (decide (((nth ((nth p0 i).Answers) i_2).Code) = 0))) then (v3_2 ++ [(nth ((nth p0 i).Steps) i_2).Call.Text]) else v3_2, (i_2 + 1)) [1, 2, 3, 4, 0] [1, 2, 3, 4, 0] ⟨by exact ⟨by (try dsimp only); omega, by (try dsimp only); first | omega | exact om, by (try dsimp only); (try simp only [Bool.cond_eq_ite]); (repeat' split); all_goals ((try simp only [List.length_append, List.length_cons, List.length_nil]); omega)⟩, hM⟩ rfl (by show _ - _ < _ - _; (try dsimp only); omega) su (by decide)
      ·
        have h4l : ¬ (i_2 < (nth p0 i).Steps.length) := by have := of_decide_eq_false h4; omega
        have hM := hE.trans ((congrArg (fun n => impl_OutsOf_l2 p0 v3 i k_2 n v3_2 i_2) (show ((nth p0 i).Steps.length) - i_2 = 0 by omega)).trans (impl_OutsOf_l2.eq_1 _ _ _ _ _ _))
        refine ad 1 ?_
        exact Run.exitkM hk_2 v3_2 [4, 3] [4, 3] hM (by ((try dsimp only); omega)) su (by decide)
  ·
    have h1l : ¬ (i < p0.length) := by have := of_decide_eq_false h1; omega
    have hM := hE.trans ((congrArg (fun n => impl_OutsOf_l1 p0 n v3 i) (show p0.length - i = 0 by omega)).trans (impl_OutsOf_l1.eq_1 _ _ _))
    refine ad 6 ?_
    exact rz (rs := [.tmp 2]) (congrArg (fun x => [Re.sl ByteArray instDatByteArray x]) hM)

/- F19 loop.example/g00974/spec.OutsWhole -/
def spec_OutsWhole (p0 : Kernel) : Bool := (spec_l03Same (spec_OutsIn p0.Store) (spec_OutsOf p0.History))
theorem c_spec_OutsWhole (p0 : Kernel) (hs : Dat.small 1048576 p0) : CTs 19 [.o (.st Kernel _ inferInstance p0)] [Re.c (.bool (spec_OutsWhole p0))] := by
  refine en Tryz.func19 Tryz.ntmps19 fun w hG hgd => ?_
  obtain ⟨hg_p0, _⟩ := hgd
  have hM := spec_OutsWhole.eq_1 p0
  have hs0 : Dat.small 1048576 p0.Store := hs.1
  have hs6 : Dat.small 1048576 p0.History := hs.2.2.2.2.2.2.1
  refine ad 6 ?_
  refine dr 8 fun _ _ _ _ _ hb => ?_
  refine tk [0, 1, 3, 4] ?_
  refine ong 2 [1, 2, 3, 4, 5, 6] (clg (c_spec_OutsIn p0.Store (by first | assumption | exact small_nth hs (by omega))) fok72) fun hgq => ?_
  obtain ⟨hg1, _⟩ := hgq
  refine ong 5 [2, 3, 4, 5, 6, 7] (clg (c_spec_OutsOf p0.History (by first | assumption | exact small_nth hs (by omega))) fok76) fun hgq => ?_
  obtain ⟨hg2, _⟩ := hgq
  refine on 6 [2, 3, 4, 5, 6, 7] (cl (c_spec_l03Same (spec_OutsIn p0.Store) (spec_OutsOf p0.History)) fok75) ?_
  refine tk [7] ?_
  refine dn hb ?_
  exact rz (rs := [.tmp 2]) (congrArg (fun x => [Re.c (.bool x)]) hM)

/- F20 loop.example/g00974/impl.OutsWhole -/
def impl_OutsWhole (p0 : Kernel) : Bool := (slices_Equal_string (impl_OutsIn p0.Store) (impl_OutsOf p0.History))
theorem c_impl_OutsWhole (p0 : Kernel) (hs : Dat.small 1048576 p0) : CTs 20 [.o (.st Kernel _ inferInstance p0)] [Re.c (.bool (impl_OutsWhole p0))] := by
  refine en Tryz.func20 Tryz.ntmps20 fun w hG hgd => ?_
  obtain ⟨hg_p0, _⟩ := hgd
  have hM := impl_OutsWhole.eq_1 p0
  have hs0 : Dat.small 1048576 p0.Store := hs.1
  have hs6 : Dat.small 1048576 p0.History := hs.2.2.2.2.2.2.1
  refine ad 6 ?_
  refine dr 8 fun _ _ _ _ _ hb => ?_
  refine tk [0, 1, 3, 4] ?_
  refine ong 2 [1, 2, 3, 4, 5, 6] (clg (c_impl_OutsIn p0.Store (by first | assumption | exact small_nth hs (by omega))) fok74) fun hgq => ?_
  obtain ⟨hg1, _⟩ := hgq
  refine ong 5 [2, 3, 4, 5, 6, 7] (clg (c_impl_OutsOf p0.History (by first | assumption | exact small_nth hs (by omega))) fok78) fun hgq => ?_
  obtain ⟨hg2, _⟩ := hgq
  refine on 6 [2, 3, 4, 5, 6, 7] (cl (c_slices_Equal_string (impl_OutsIn p0.Store) (impl_OutsOf p0.History)) fok77) ?_
  refine tk [7] ?_
  refine dn hb ?_
  exact rz (rs := [.tmp 2]) (congrArg (fun x => [Re.c (.bool x)]) hM)

end Go.Proofs.YtnjidaonbcbphaaGreatDoor.Fw
/-
  The reference and the program find the same texts that the history sent out. No condition.
-/
namespace Go.Proofs.YtnjidaonbcbphaaGreatDoor.Fw
open Go.RowKit
set_option linter.unusedVariables false
set_option linter.unusedSimpArgs false
set_option maxRecDepth 100000
theorem impl_outs_rest (p0 : List Entry) (v3 : List ByteArray) (i : Nat) (k : List ByteArray → List ByteArray) : ∀ n v j, (nth p0 i).Answers.length ≤ j → impl_OutsOf_l2 p0 v3 i k n v j = k v := by
  intro n
  induction n with
  | zero => intro v j _; rfl
  | succ n ih =>
    intro v j h
    rw [impl_OutsOf_l2, decide_eq_false (show ¬ (j : Int) < ((nth p0 i).Answers.length : Int) by omega), Bool.and_false, Bool.false_and]
    exact ih v (j + 1) (by omega)
theorem outs_l2_twin (p0 : List Entry) (v3 v4 : List ByteArray) (i : Nat) (ks ki : List ByteArray → List ByteArray) (hk : ∀ e, ki e = ks e) : ∀ n v j, j + n = (nth p0 i).Steps.length → spec_OutsOf_l2 p0 v3 i ks n v j = impl_OutsOf_l2 p0 v4 i ki n v j := by
  intro n
  induction n with
  | zero => intro v j _; exact (hk v).symm
  | succ n ih =>
    intro v j h
    rw [spec_OutsOf_l2, impl_OutsOf_l2, decide_eq_true (show (j : Int) < ((nth p0 i).Steps.length : Int) by omega), Bool.true_and]
    by_cases ha : j < (nth p0 i).Answers.length
    · rw [decide_eq_true (show (j : Int) < ((nth p0 i).Answers.length : Int) by omega), Bool.and_true, cond_true]
      exact ih _ (j + 1) (by omega)
    · rw [decide_eq_false (show ¬ (j : Int) < ((nth p0 i).Answers.length : Int) by omega), Bool.and_false, Bool.false_and, cond_false, cond_false, impl_outs_rest p0 v4 i ki n v (j + 1) (by omega), hk]
theorem outs_l1_twin (p0 : List Entry) : ∀ n v i, impl_OutsOf_l1 p0 n v i = spec_OutsOf_l1 p0 n v i := by
  intro n
  induction n with
  | zero => intro v i; rfl
  | succ n ih =>
    intro v i
    rw [impl_OutsOf_l1, spec_OutsOf_l1]
    exact (outs_l2_twin p0 v v i _ _ (fun e => ih e (i + 1)) _ v 0 (by omega)).symm
theorem OutsOf_twin (p0 : List Entry) : impl_OutsOf p0 = spec_OutsOf p0 := outs_l1_twin p0 _ _ _
theorem OutsWhole_twin (k : Kernel) : impl_OutsWhole k = spec_OutsWhole k := by
  unfold impl_OutsWhole spec_OutsWhole
  rw [OutsIn_twin, OutsOf_twin, Equal_twin]

end Go.Proofs.YtnjidaonbcbphaaGreatDoor.Fw

/- Contracts: each call returns what the model says. By program (wip/am/gen2.py). -/
namespace Go.Proofs.YtnjidaonbcbphaaGreatDoor.Fw
open Go.RowKit
set_option linter.unusedVariables false
set_option maxRecDepth 100000

theorem fok43 : FnOk Tryz.prog 43 := ⟨_, Tryz.func43, rfl, by kernel_rfl⟩
theorem fok44 : FnOk Tryz.prog 44 := ⟨_, Tryz.func44, rfl, by kernel_rfl⟩
theorem fok45 : FnOk Tryz.prog 45 := ⟨_, Tryz.func45, rfl, by kernel_rfl⟩
theorem fok46 : FnOk Tryz.prog 46 := ⟨_, Tryz.func46, rfl, by kernel_rfl⟩
theorem fok47 : FnOk Tryz.prog 47 := ⟨_, Tryz.func47, rfl, by kernel_rfl⟩
theorem fok115 : FnOk Tryz.prog 115 := ⟨_, Tryz.func115, rfl, by kernel_rfl⟩
theorem fok116 : FnOk Tryz.prog 116 := ⟨_, Tryz.func116, rfl, by kernel_rfl⟩
theorem fok117 : FnOk Tryz.prog 117 := ⟨_, Tryz.func117, rfl, by kernel_rfl⟩
theorem fok118 : FnOk Tryz.prog 118 := ⟨_, Tryz.func118, rfl, by kernel_rfl⟩
theorem fok119 : FnOk Tryz.prog 119 := ⟨_, Tryz.func119, rfl, by kernel_rfl⟩
theorem fok167 : FnOk Tryz.prog 167 := ⟨_, Tryz.func167, rfl, by kernel_rfl⟩
theorem fok168 : FnOk Tryz.prog 168 := ⟨_, Tryz.func168, rfl, by kernel_rfl⟩
theorem fok169 : FnOk Tryz.prog 169 := ⟨_, Tryz.func169, rfl, by kernel_rfl⟩
theorem fok170 : FnOk Tryz.prog 170 := ⟨_, Tryz.func170, rfl, by kernel_rfl⟩
theorem fok171 : FnOk Tryz.prog 171 := ⟨_, Tryz.func171, rfl, by kernel_rfl⟩
theorem fok172 : FnOk Tryz.prog 172 := ⟨_, Tryz.func172, rfl, by kernel_rfl⟩
theorem fok200 : FnOk Tryz.prog 200 := ⟨_, Tryz.func200, rfl, by kernel_rfl⟩
theorem fok201 : FnOk Tryz.prog 201 := ⟨_, Tryz.func201, rfl, by kernel_rfl⟩
theorem fok202 : FnOk Tryz.prog 202 := ⟨_, Tryz.func202, rfl, by kernel_rfl⟩
/- F115 loop.example/g00974/laws.szCell -/
def laws_szCell (p0 : Cell) (p1 : Int) : Int := bif decide ((IntKind.i64.wrap (p1 - (p0.Key.size : Int))) < 0) then (-1) else (bif decide ((IntKind.i64.wrap ((IntKind.i64.wrap (p1 - (p0.Key.size : Int))) - (p0.Val.size : Int))) < 0) then (-1) else (IntKind.i64.wrap ((IntKind.i64.wrap (p1 - (p0.Key.size : Int))) - (p0.Val.size : Int))))
theorem c_laws_szCell (p0 : Cell) (p1 : Int) : CTs 115 [.o (.st Cell _ inferInstance p0), .o (.c (.int .i64 p1))] [Re.c (.int .i64 (laws_szCell p0 p1))] := by
  refine en Tryz.func115 Tryz.ntmps115 fun w hG hgd => ?_
  obtain ⟨hg_p0, _⟩ := hgd
  have hM := laws_szCell.eq_1 p0 p1
  refine ad 20 ?_
  refine cd (fun h1 => ?_) (fun h1 => ?_)
  ·
    have hM := hM.trans (bt h1)
    refine ad 4 ?_
    exact rz (rs := [.tmp 4]) (congrArg (fun x => [Re.c (.int .i64 x)]) hM)
  ·
    have hM := hM.trans (bf h1)
    refine ad 16 ?_
    refine cd (fun h2 => ?_) (fun h2 => ?_)
    ·
      have hM := hM.trans (bt h2)
      refine ad 4 ?_
      exact rz (rs := [.tmp 4]) (congrArg (fun x => [Re.c (.int .i64 x)]) hM)
    ·
      have hM := hM.trans (bf h2)
      refine ad 6 ?_
      exact rz (rs := [.tmp 4]) (congrArg (fun x => [Re.c (.int .i64 x)]) hM)

/- F43 loop.example/g00974/laws.szCellS -/
def laws_szCellS_l1 (p0 : List Cell) (p1 : Int) : Nat → Int → Nat → Int
  | 0, v1, i => v1
  | n + 1, v1, i => bif decide ((laws_szCell (nth p0 i) v1) < 0) then (-1) else (laws_szCellS_l1 p0 p1 n (laws_szCell (nth p0 i) v1) (i + 1))
def laws_szCellS (p0 : List Cell) (p1 : Int) : Int := bif decide ((IntKind.i64.wrap (p1 - (p0.length : Int))) < 0) then (-1) else (laws_szCellS_l1 p0 p1 (p0.length - 0) (IntKind.i64.wrap (p1 - (p0.length : Int))) 0)
theorem c_laws_szCellS (p0 : List Cell) (p1 : Int) : CTs 43 [.o (.sl Cell instDatCell p0), .o (.c (.int .i64 p1))] [Re.c (.int .i64 (laws_szCellS p0 p1))] := by
  refine en Tryz.func43 Tryz.ntmps43 fun w hG hgd => ?_
  obtain ⟨hg_p0, _⟩ := hgd
  have hl_p0 : p0.length ≤ 9223372036854775807 := hg_p0.1
  have hM := laws_szCellS.eq_1 p0 p1
  refine ad 18 ?_
  refine cd (fun h1 => ?_) (fun h1 => ?_)
  ·
    have hM := hM.trans (bt h1)
    refine ad 4 ?_
    exact rz (rs := [.tmp 4]) (congrArg (fun x => [Re.c (.int .i64 x)]) hM)
  ·
    have hM := hM.trans (bf h1)
    refine ad 7 ?_
    refine Run.loopM (ι := Int × Nat) (fun s => laws_szCellS_l1 p0 p1 (p0.length - s.2) s.1 s.2) (fun s => ⟨27, 1, [(0, .sl 0 p0.length), (1, .v (.int .i64 s.1)), (5, .v (.int .i64 (s.2 : Int)))], [(0, .ros Cell instDatCell p0)]⟩) (fun s => s.2 ≤ p0.length) (fun s => p0.length - s.2) (IntKind.i64.wrap (p1 - (p0.length : Int)), 0) [0] [0] hM (by first | exact ⟨by omega, by simp⟩ | omega | simp | (dsimp only; omega)) su (by decide) ?_
    rintro ⟨v1, i⟩ hv hE
    try dsimp only at hE
    have hi := hv
    try dsimp only at hi
    refine ad 8 ?_
    refine cd (fun h2 => ?_) (fun h2 => ?_)
    ·
      have h2l : i < p0.length := by have := of_decide_eq_true h2; omega
      have hM := hE.trans ((congrArg (fun n => laws_szCellS_l1 p0 p1 n v1 i) (show p0.length - i = (p0.length - (i + 1)) + 1 by omega)).trans (laws_szCellS_l1.eq_2 _ _ _ _ _))
      refine ad 7 ?_
      have hg4 := good_nth (k := i) hg_p0 om
      refine op (ix (xs := p0) i om) ?_
      refine ad 2 ?_
      have hg5 : Dat.good (nth p0 i : Cell) := hg4
      refine op (cl (c_laws_szCell (nth p0 i) v1) fok115) ?_
      refine ad 7 ?_
      refine cd (fun h6 => ?_) (fun h6 => ?_)
      ·
        have hM := hM.trans (bt h6)
        refine ad 4 ?_
        exact rz (rs := [.tmp 4]) (congrArg (fun x => [Re.c (.int .i64 x)]) hM)
      ·
        have hM := hM.trans (bf h6)
        refine ad 5 ?_
        rw [wrapN (i := i) (by first | omega | exact om)]
        refine ad 2 ?_
        exact Run.again ((laws_szCell (nth p0 i) v1), (i + 1)) [0] [1] ⟨by first | omega | exact trivial | (dsimp only; omega) | (refine ⟨by omega, ?_⟩; simp_all; try omega), hM⟩ rfl (by show _ - _ < _ - _; (try dsimp only); omega) su (by decide)
    ·
      have h2l : ¬ (i < p0.length) := by have := of_decide_eq_false h2; omega
      have hM := hE.trans ((congrArg (fun n => laws_szCellS_l1 p0 p1 n v1 i) (show p0.length - i = 0 by omega)).trans (laws_szCellS_l1.eq_1 _ _ _ _))
      refine ad 6 ?_
      exact rz (rs := [.tmp 4]) (congrArg (fun x => [Re.c (.int .i64 x)]) hM)

/- F200 loop.example/g00974/laws.szCall -/
def laws_szCall (p0 : Call) (p1 : Int) : Int := bif decide ((IntKind.i64.wrap (p1 - (p0.Name.size : Int))) < 0) then (-1) else (bif decide ((IntKind.i64.wrap ((IntKind.i64.wrap (p1 - (p0.Name.size : Int))) - (p0.To.size : Int))) < 0) then (-1) else (bif decide ((IntKind.i64.wrap ((IntKind.i64.wrap ((IntKind.i64.wrap (p1 - (p0.Name.size : Int))) - (p0.To.size : Int))) - (p0.Text.size : Int))) < 0) then (-1) else (IntKind.i64.wrap ((IntKind.i64.wrap ((IntKind.i64.wrap (p1 - (p0.Name.size : Int))) - (p0.To.size : Int))) - (p0.Text.size : Int)))))
theorem c_laws_szCall (p0 : Call) (p1 : Int) : CTs 200 [.o (.st Call _ inferInstance p0), .o (.c (.int .i64 p1))] [Re.c (.int .i64 (laws_szCall p0 p1))] := by
  refine en Tryz.func200 Tryz.ntmps200 fun w hG hgd => ?_
  obtain ⟨hg_p0, _⟩ := hgd
  have hM := laws_szCall.eq_1 p0 p1
  refine ad 20 ?_
  refine cd (fun h1 => ?_) (fun h1 => ?_)
  ·
    have hM := hM.trans (bt h1)
    refine ad 4 ?_
    exact rz (rs := [.tmp 4]) (congrArg (fun x => [Re.c (.int .i64 x)]) hM)
  ·
    have hM := hM.trans (bf h1)
    refine ad 16 ?_
    refine cd (fun h2 => ?_) (fun h2 => ?_)
    ·
      have hM := hM.trans (bt h2)
      refine ad 4 ?_
      exact rz (rs := [.tmp 4]) (congrArg (fun x => [Re.c (.int .i64 x)]) hM)
    ·
      have hM := hM.trans (bf h2)
      refine ad 16 ?_
      refine cd (fun h3 => ?_) (fun h3 => ?_)
      ·
        have hM := hM.trans (bt h3)
        refine ad 4 ?_
        exact rz (rs := [.tmp 4]) (congrArg (fun x => [Re.c (.int .i64 x)]) hM)
      ·
        have hM := hM.trans (bf h3)
        refine ad 6 ?_
        exact rz (rs := [.tmp 4]) (congrArg (fun x => [Re.c (.int .i64 x)]) hM)

/- F167 loop.example/g00974/laws.szCallS -/
def laws_szCallS_l1 (p0 : List Call) (p1 : Int) : Nat → Int → Nat → Int
  | 0, v1, i => v1
  | n + 1, v1, i => bif decide ((laws_szCall (nth p0 i) v1) < 0) then (-1) else (laws_szCallS_l1 p0 p1 n (laws_szCall (nth p0 i) v1) (i + 1))
def laws_szCallS (p0 : List Call) (p1 : Int) : Int := bif decide ((IntKind.i64.wrap (p1 - (p0.length : Int))) < 0) then (-1) else (laws_szCallS_l1 p0 p1 (p0.length - 0) (IntKind.i64.wrap (p1 - (p0.length : Int))) 0)
theorem c_laws_szCallS (p0 : List Call) (p1 : Int) : CTs 167 [.o (.sl Call instDatCall p0), .o (.c (.int .i64 p1))] [Re.c (.int .i64 (laws_szCallS p0 p1))] := by
  refine en Tryz.func167 Tryz.ntmps167 fun w hG hgd => ?_
  obtain ⟨hg_p0, _⟩ := hgd
  have hl_p0 : p0.length ≤ 9223372036854775807 := hg_p0.1
  have hM := laws_szCallS.eq_1 p0 p1
  refine ad 18 ?_
  refine cd (fun h1 => ?_) (fun h1 => ?_)
  ·
    have hM := hM.trans (bt h1)
    refine ad 4 ?_
    exact rz (rs := [.tmp 4]) (congrArg (fun x => [Re.c (.int .i64 x)]) hM)
  ·
    have hM := hM.trans (bf h1)
    refine ad 7 ?_
    refine Run.loopM (ι := Int × Nat) (fun s => laws_szCallS_l1 p0 p1 (p0.length - s.2) s.1 s.2) (fun s => ⟨27, 1, [(0, .sl 0 p0.length), (1, .v (.int .i64 s.1)), (5, .v (.int .i64 (s.2 : Int)))], [(0, .ros Call instDatCall p0)]⟩) (fun s => s.2 ≤ p0.length) (fun s => p0.length - s.2) (IntKind.i64.wrap (p1 - (p0.length : Int)), 0) [0] [0] hM (by first | exact ⟨by omega, by simp⟩ | omega | simp | (dsimp only; omega)) su (by decide) ?_
    rintro ⟨v1, i⟩ hv hE
    try dsimp only at hE
    have hi := hv
    try dsimp only at hi
    refine ad 8 ?_
    refine cd (fun h2 => ?_) (fun h2 => ?_)
    ·
      have h2l : i < p0.length := by have := of_decide_eq_true h2; omega
      have hM := hE.trans ((congrArg (fun n => laws_szCallS_l1 p0 p1 n v1 i) (show p0.length - i = (p0.length - (i + 1)) + 1 by omega)).trans (laws_szCallS_l1.eq_2 _ _ _ _ _))
      refine ad 7 ?_
      have hg4 := good_nth (k := i) hg_p0 om
      refine op (ix (xs := p0) i om) ?_
      refine ad 2 ?_
      have hg5 : Dat.good (nth p0 i : Call) := hg4
      refine op (cl (c_laws_szCall (nth p0 i) v1) fok200) ?_
      refine ad 7 ?_
      refine cd (fun h6 => ?_) (fun h6 => ?_)
      ·
        have hM := hM.trans (bt h6)
        refine ad 4 ?_
        exact rz (rs := [.tmp 4]) (congrArg (fun x => [Re.c (.int .i64 x)]) hM)
      ·
        have hM := hM.trans (bf h6)
        refine ad 5 ?_
        rw [wrapN (i := i) (by first | omega | exact om)]
        refine ad 2 ?_
        exact Run.again ((laws_szCall (nth p0 i) v1), (i + 1)) [0] [1] ⟨by first | omega | exact trivial | (dsimp only; omega) | (refine ⟨by omega, ?_⟩; simp_all; try omega), hM⟩ rfl (by show _ - _ < _ - _; (try dsimp only); omega) su (by decide)
    ·
      have h2l : ¬ (i < p0.length) := by have := of_decide_eq_false h2; omega
      have hM := hE.trans ((congrArg (fun n => laws_szCallS_l1 p0 p1 n v1 i) (show p0.length - i = 0 by omega)).trans (laws_szCallS_l1.eq_1 _ _ _ _))
      refine ad 6 ?_
      exact rz (rs := [.tmp 4]) (congrArg (fun x => [Re.c (.int .i64 x)]) hM)

/- F201 loop.example/g00974/laws.szAnswer -/
def laws_szAnswer (p0 : Answer) (p1 : Int) : Int := bif decide ((IntKind.i64.wrap (p1 - (p0.Text.size : Int))) < 0) then (-1) else (IntKind.i64.wrap (p1 - (p0.Text.size : Int)))
theorem c_laws_szAnswer (p0 : Answer) (p1 : Int) : CTs 201 [.o (.st Answer _ inferInstance p0), .o (.c (.int .i64 p1))] [Re.c (.int .i64 (laws_szAnswer p0 p1))] := by
  refine en Tryz.func201 Tryz.ntmps201 fun w hG hgd => ?_
  obtain ⟨hg_p0, _⟩ := hgd
  have hM := laws_szAnswer.eq_1 p0 p1
  refine ad 20 ?_
  refine cd (fun h1 => ?_) (fun h1 => ?_)
  ·
    have hM := hM.trans (bt h1)
    refine ad 4 ?_
    exact rz (rs := [.tmp 4]) (congrArg (fun x => [Re.c (.int .i64 x)]) hM)
  ·
    have hM := hM.trans (bf h1)
    refine ad 6 ?_
    exact rz (rs := [.tmp 4]) (congrArg (fun x => [Re.c (.int .i64 x)]) hM)

/- F168 loop.example/g00974/laws.szAnswerS -/
def laws_szAnswerS_l1 (p0 : List Answer) (p1 : Int) : Nat → Int → Nat → Int
  | 0, v1, i => v1
  | n + 1, v1, i => bif decide ((laws_szAnswer (nth p0 i) v1) < 0) then (-1) else (laws_szAnswerS_l1 p0 p1 n (laws_szAnswer (nth p0 i) v1) (i + 1))
def laws_szAnswerS (p0 : List Answer) (p1 : Int) : Int := bif decide ((IntKind.i64.wrap (p1 - (p0.length : Int))) < 0) then (-1) else (laws_szAnswerS_l1 p0 p1 (p0.length - 0) (IntKind.i64.wrap (p1 - (p0.length : Int))) 0)
theorem c_laws_szAnswerS (p0 : List Answer) (p1 : Int) : CTs 168 [.o (.sl Answer instDatAnswer p0), .o (.c (.int .i64 p1))] [Re.c (.int .i64 (laws_szAnswerS p0 p1))] := by
  refine en Tryz.func168 Tryz.ntmps168 fun w hG hgd => ?_
  obtain ⟨hg_p0, _⟩ := hgd
  have hl_p0 : p0.length ≤ 9223372036854775807 := hg_p0.1
  have hM := laws_szAnswerS.eq_1 p0 p1
  refine ad 18 ?_
  refine cd (fun h1 => ?_) (fun h1 => ?_)
  ·
    have hM := hM.trans (bt h1)
    refine ad 4 ?_
    exact rz (rs := [.tmp 4]) (congrArg (fun x => [Re.c (.int .i64 x)]) hM)
  ·
    have hM := hM.trans (bf h1)
    refine ad 7 ?_
    refine Run.loopM (ι := Int × Nat) (fun s => laws_szAnswerS_l1 p0 p1 (p0.length - s.2) s.1 s.2) (fun s => ⟨27, 1, [(0, .sl 0 p0.length), (1, .v (.int .i64 s.1)), (5, .v (.int .i64 (s.2 : Int)))], [(0, .ros Answer instDatAnswer p0)]⟩) (fun s => s.2 ≤ p0.length) (fun s => p0.length - s.2) (IntKind.i64.wrap (p1 - (p0.length : Int)), 0) [0] [0] hM (by first | exact ⟨by omega, by simp⟩ | omega | simp | (dsimp only; omega)) su (by decide) ?_
    rintro ⟨v1, i⟩ hv hE
    try dsimp only at hE
    have hi := hv
    try dsimp only at hi
    refine ad 8 ?_
    refine cd (fun h2 => ?_) (fun h2 => ?_)
    ·
      have h2l : i < p0.length := by have := of_decide_eq_true h2; omega
      have hM := hE.trans ((congrArg (fun n => laws_szAnswerS_l1 p0 p1 n v1 i) (show p0.length - i = (p0.length - (i + 1)) + 1 by omega)).trans (laws_szAnswerS_l1.eq_2 _ _ _ _ _))
      refine ad 7 ?_
      have hg4 := good_nth (k := i) hg_p0 om
      refine op (ix (xs := p0) i om) ?_
      refine ad 2 ?_
      have hg5 : Dat.good (nth p0 i : Answer) := hg4
      refine op (cl (c_laws_szAnswer (nth p0 i) v1) fok201) ?_
      refine ad 7 ?_
      refine cd (fun h6 => ?_) (fun h6 => ?_)
      ·
        have hM := hM.trans (bt h6)
        refine ad 4 ?_
        exact rz (rs := [.tmp 4]) (congrArg (fun x => [Re.c (.int .i64 x)]) hM)
      ·
        have hM := hM.trans (bf h6)
        refine ad 5 ?_
        rw [wrapN (i := i) (by first | omega | exact om)]
        refine ad 2 ?_
        exact Run.again ((laws_szAnswer (nth p0 i) v1), (i + 1)) [0] [1] ⟨by first | omega | exact trivial | (dsimp only; omega) | (refine ⟨by omega, ?_⟩; simp_all; try omega), hM⟩ rfl (by show _ - _ < _ - _; (try dsimp only); omega) su (by decide)
    ·
      have h2l : ¬ (i < p0.length) := by have := of_decide_eq_false h2; omega
      have hM := hE.trans ((congrArg (fun n => laws_szAnswerS_l1 p0 p1 n v1 i) (show p0.length - i = 0 by omega)).trans (laws_szAnswerS_l1.eq_1 _ _ _ _))
      refine ad 6 ?_
      exact rz (rs := [.tmp 4]) (congrArg (fun x => [Re.c (.int .i64 x)]) hM)

/- F47 loop.example/g00974/laws.szStringS -/
def laws_szStringS_l1 (p0 : List ByteArray) (p1 : Int) : Nat → Int → Nat → Int
  | 0, v1, i => v1
  | n + 1, v1, i => bif decide ((IntKind.i64.wrap (v1 - ((nth p0 i).size : Int))) < 0) then (-1) else (laws_szStringS_l1 p0 p1 n (IntKind.i64.wrap (v1 - ((nth p0 i).size : Int))) (i + 1))
def laws_szStringS (p0 : List ByteArray) (p1 : Int) : Int := bif decide ((IntKind.i64.wrap (p1 - (p0.length : Int))) < 0) then (-1) else (laws_szStringS_l1 p0 p1 (p0.length - 0) (IntKind.i64.wrap (p1 - (p0.length : Int))) 0)
theorem c_laws_szStringS (p0 : List ByteArray) (p1 : Int) : CTs 47 [.o (.sl ByteArray instDatByteArray p0), .o (.c (.int .i64 p1))] [Re.c (.int .i64 (laws_szStringS p0 p1))] := by
  refine en Tryz.func47 Tryz.ntmps47 fun w hG hgd => ?_
  obtain ⟨hg_p0, _⟩ := hgd
  have hl_p0 : p0.length ≤ 9223372036854775807 := hg_p0.1
  have hM := laws_szStringS.eq_1 p0 p1
  refine ad 18 ?_
  refine cd (fun h1 => ?_) (fun h1 => ?_)
  ·
    have hM := hM.trans (bt h1)
    refine ad 4 ?_
    exact rz (rs := [.tmp 4]) (congrArg (fun x => [Re.c (.int .i64 x)]) hM)
  ·
    have hM := hM.trans (bf h1)
    refine ad 7 ?_
    refine Run.loopM (ι := Int × Nat) (fun s => laws_szStringS_l1 p0 p1 (p0.length - s.2) s.1 s.2) (fun s => ⟨28, 1, [(0, .sl 0 p0.length), (1, .v (.int .i64 s.1)), (5, .v (.int .i64 (s.2 : Int)))], [(0, .ros ByteArray instDatByteArray p0)]⟩) (fun s => s.2 ≤ p0.length) (fun s => p0.length - s.2) (IntKind.i64.wrap (p1 - (p0.length : Int)), 0) [0] [0] hM (by first | exact ⟨by omega, by simp⟩ | omega | simp | (dsimp only; omega)) su (by decide) ?_
    rintro ⟨v1, i⟩ hv hE
    try dsimp only at hE
    have hi := hv
    try dsimp only at hi
    refine ad 8 ?_
    refine cd (fun h2 => ?_) (fun h2 => ?_)
    ·
      have h2l : i < p0.length := by have := of_decide_eq_true h2; omega
      have hM := hE.trans ((congrArg (fun n => laws_szStringS_l1 p0 p1 n v1 i) (show p0.length - i = (p0.length - (i + 1)) + 1 by omega)).trans (laws_szStringS_l1.eq_2 _ _ _ _ _))
      refine ad 8 ?_
      have hg4 := good_nth (k := i) hg_p0 om
      refine op (ix (xs := p0) i om) ?_
      refine ad 10 ?_
      refine cd (fun h5 => ?_) (fun h5 => ?_)
      ·
        have hM := hM.trans (bt h5)
        refine ad 4 ?_
        exact rz (rs := [.tmp 4]) (congrArg (fun x => [Re.c (.int .i64 x)]) hM)
      ·
        have hM := hM.trans (bf h5)
        refine ad 5 ?_
        rw [wrapN (i := i) (by first | omega | exact om)]
        refine ad 2 ?_
        exact Run.again (IntKind.i64.wrap (v1 - ((nth p0 i).size : Int)), (i + 1)) [0] [1] ⟨by first | omega | exact trivial | (dsimp only; omega) | (refine ⟨by omega, ?_⟩; simp_all; try omega), hM⟩ rfl (by show _ - _ < _ - _; (try dsimp only); omega) su (by decide)
    ·
      have h2l : ¬ (i < p0.length) := by have := of_decide_eq_false h2; omega
      have hM := hE.trans ((congrArg (fun n => laws_szStringS_l1 p0 p1 n v1 i) (show p0.length - i = 0 by omega)).trans (laws_szStringS_l1.eq_1 _ _ _ _))
      refine ad 6 ?_
      exact rz (rs := [.tmp 4]) (congrArg (fun x => [Re.c (.int .i64 x)]) hM)

/- F169 loop.example/g00974/laws.szTouch -/
def laws_szTouch (p0 : Touch) (p1 : Int) : Int := bif decide ((laws_szStringS p0.Reads p1) < 0) then (-1) else (bif decide ((laws_szStringS p0.Writes (laws_szStringS p0.Reads p1)) < 0) then (-1) else (laws_szStringS p0.Writes (laws_szStringS p0.Reads p1)))
theorem c_laws_szTouch (p0 : Touch) (p1 : Int) : CTs 169 [.o (.st Touch _ inferInstance p0), .o (.c (.int .i64 p1))] [Re.c (.int .i64 (laws_szTouch p0 p1))] := by
  refine en Tryz.func169 Tryz.ntmps169 fun w hG hgd => ?_
  obtain ⟨hg_p0, _⟩ := hgd
  have hM := laws_szTouch.eq_1 p0 p1
  refine ad 10 ?_
  refine op (cl (c_laws_szStringS p0.Reads p1) fok47) ?_
  refine ad 8 ?_
  refine cd (fun h1 => ?_) (fun h1 => ?_)
  ·
    have hM := hM.trans (bt h1)
    refine ad 4 ?_
    exact rz (rs := [.tmp 4]) (congrArg (fun x => [Re.c (.int .i64 x)]) hM)
  ·
    have hM := hM.trans (bf h1)
    refine ad 6 ?_
    refine op (cl (c_laws_szStringS p0.Writes (laws_szStringS p0.Reads p1)) fok47) ?_
    refine ad 8 ?_
    refine cd (fun h2 => ?_) (fun h2 => ?_)
    ·
      have hM := hM.trans (bt h2)
      refine ad 4 ?_
      exact rz (rs := [.tmp 4]) (congrArg (fun x => [Re.c (.int .i64 x)]) hM)
    ·
      have hM := hM.trans (bf h2)
      refine ad 6 ?_
      exact rz (rs := [.tmp 4]) (congrArg (fun x => [Re.c (.int .i64 x)]) hM)

/- F170 loop.example/g00974/laws.szIntS -/
def laws_szIntS (p0 : List Int) (p1 : Int) : Int := bif decide ((IntKind.i64.wrap (p1 - (p0.length : Int))) < 0) then (-1) else (IntKind.i64.wrap (p1 - (p0.length : Int)))
theorem c_laws_szIntS (p0 : List Int) (p1 : Int) : CTs 170 [.o (.sl Int instDatInt p0), .o (.c (.int .i64 p1))] [Re.c (.int .i64 (laws_szIntS p0 p1))] := by
  refine en Tryz.func170 Tryz.ntmps170 fun w hG hgd => ?_
  obtain ⟨hg_p0, _⟩ := hgd
  have hl_p0 : p0.length ≤ 9223372036854775807 := hg_p0.1
  have hM := laws_szIntS.eq_1 p0 p1
  refine ad 18 ?_
  refine cd (fun h1 => ?_) (fun h1 => ?_)
  ·
    have hM := hM.trans (bt h1)
    refine ad 4 ?_
    exact rz (rs := [.tmp 4]) (congrArg (fun x => [Re.c (.int .i64 x)]) hM)
  ·
    have hM := hM.trans (bf h1)
    refine ad 6 ?_
    exact rz (rs := [.tmp 4]) (congrArg (fun x => [Re.c (.int .i64 x)]) hM)

/- F116 loop.example/g00974/laws.szTx -/
def laws_szTx (p0 : Tx) (p1 : Int) : Int := bif decide ((laws_szCallS p0.Calls p1) < 0) then (-1) else (bif decide ((laws_szAnswerS p0.Answers (laws_szCallS p0.Calls p1)) < 0) then (-1) else (bif decide ((laws_szTouch p0.Touch (laws_szAnswerS p0.Answers (laws_szCallS p0.Calls p1))) < 0) then (-1) else (bif decide ((laws_szIntS p0.Marks (laws_szTouch p0.Touch (laws_szAnswerS p0.Answers (laws_szCallS p0.Calls p1)))) < 0) then (-1) else (laws_szIntS p0.Marks (laws_szTouch p0.Touch (laws_szAnswerS p0.Answers (laws_szCallS p0.Calls p1)))))))
theorem c_laws_szTx (p0 : Tx) (p1 : Int) : CTs 116 [.o (.st Tx _ inferInstance p0), .o (.c (.int .i64 p1))] [Re.c (.int .i64 (laws_szTx p0 p1))] := by
  refine en Tryz.func116 Tryz.ntmps116 fun w hG hgd => ?_
  obtain ⟨hg_p0, _⟩ := hgd
  have hM := laws_szTx.eq_1 p0 p1
  refine ad 10 ?_
  refine op (cl (c_laws_szCallS p0.Calls p1) fok167) ?_
  refine ad 8 ?_
  refine cd (fun h1 => ?_) (fun h1 => ?_)
  ·
    have hM := hM.trans (bt h1)
    refine ad 4 ?_
    exact rz (rs := [.tmp 4]) (congrArg (fun x => [Re.c (.int .i64 x)]) hM)
  ·
    have hM := hM.trans (bf h1)
    refine ad 6 ?_
    refine op (cl (c_laws_szAnswerS p0.Answers (laws_szCallS p0.Calls p1)) fok168) ?_
    refine ad 8 ?_
    refine cd (fun h2 => ?_) (fun h2 => ?_)
    ·
      have hM := hM.trans (bt h2)
      refine ad 4 ?_
      exact rz (rs := [.tmp 4]) (congrArg (fun x => [Re.c (.int .i64 x)]) hM)
    ·
      have hM := hM.trans (bf h2)
      refine ad 6 ?_
      have hg3 : Dat.good (p0.Touch : Touch) := hg_p0.2.2.2.2.2.2.1
      refine op (cl (c_laws_szTouch p0.Touch (laws_szAnswerS p0.Answers (laws_szCallS p0.Calls p1))) fok169) ?_
      refine ad 8 ?_
      refine cd (fun h4 => ?_) (fun h4 => ?_)
      ·
        have hM := hM.trans (bt h4)
        refine ad 4 ?_
        exact rz (rs := [.tmp 4]) (congrArg (fun x => [Re.c (.int .i64 x)]) hM)
      ·
        have hM := hM.trans (bf h4)
        refine ad 6 ?_
        refine op (cl (c_laws_szIntS p0.Marks (laws_szTouch p0.Touch (laws_szAnswerS p0.Answers (laws_szCallS p0.Calls p1)))) fok170) ?_
        refine ad 8 ?_
        refine cd (fun h5 => ?_) (fun h5 => ?_)
        ·
          have hM := hM.trans (bt h5)
          refine ad 4 ?_
          exact rz (rs := [.tmp 4]) (congrArg (fun x => [Re.c (.int .i64 x)]) hM)
        ·
          have hM := hM.trans (bf h5)
          refine ad 6 ?_
          exact rz (rs := [.tmp 4]) (congrArg (fun x => [Re.c (.int .i64 x)]) hM)

/- F44 loop.example/g00974/laws.szTxS -/
def laws_szTxS_l1 (p0 : List Tx) (p1 : Int) : Nat → Int → Nat → Int
  | 0, v1, i => v1
  | n + 1, v1, i => bif decide ((laws_szTx (nth p0 i) v1) < 0) then (-1) else (laws_szTxS_l1 p0 p1 n (laws_szTx (nth p0 i) v1) (i + 1))
def laws_szTxS (p0 : List Tx) (p1 : Int) : Int := bif decide ((IntKind.i64.wrap (p1 - (p0.length : Int))) < 0) then (-1) else (laws_szTxS_l1 p0 p1 (p0.length - 0) (IntKind.i64.wrap (p1 - (p0.length : Int))) 0)
theorem c_laws_szTxS (p0 : List Tx) (p1 : Int) : CTs 44 [.o (.sl Tx instDatTx p0), .o (.c (.int .i64 p1))] [Re.c (.int .i64 (laws_szTxS p0 p1))] := by
  refine en Tryz.func44 Tryz.ntmps44 fun w hG hgd => ?_
  obtain ⟨hg_p0, _⟩ := hgd
  have hl_p0 : p0.length ≤ 9223372036854775807 := hg_p0.1
  have hM := laws_szTxS.eq_1 p0 p1
  refine ad 18 ?_
  refine cd (fun h1 => ?_) (fun h1 => ?_)
  ·
    have hM := hM.trans (bt h1)
    refine ad 4 ?_
    exact rz (rs := [.tmp 4]) (congrArg (fun x => [Re.c (.int .i64 x)]) hM)
  ·
    have hM := hM.trans (bf h1)
    refine ad 7 ?_
    refine Run.loopM (ι := Int × Nat) (fun s => laws_szTxS_l1 p0 p1 (p0.length - s.2) s.1 s.2) (fun s => ⟨27, 1, [(0, .sl 0 p0.length), (1, .v (.int .i64 s.1)), (5, .v (.int .i64 (s.2 : Int)))], [(0, .ros Tx instDatTx p0)]⟩) (fun s => s.2 ≤ p0.length) (fun s => p0.length - s.2) (IntKind.i64.wrap (p1 - (p0.length : Int)), 0) [0] [0] hM (by first | exact ⟨by omega, by simp⟩ | omega | simp | (dsimp only; omega)) su (by decide) ?_
    rintro ⟨v1, i⟩ hv hE
    try dsimp only at hE
    have hi := hv
    try dsimp only at hi
    refine ad 8 ?_
    refine cd (fun h2 => ?_) (fun h2 => ?_)
    ·
      have h2l : i < p0.length := by have := of_decide_eq_true h2; omega
      have hM := hE.trans ((congrArg (fun n => laws_szTxS_l1 p0 p1 n v1 i) (show p0.length - i = (p0.length - (i + 1)) + 1 by omega)).trans (laws_szTxS_l1.eq_2 _ _ _ _ _))
      refine ad 7 ?_
      have hg4 := good_nth (k := i) hg_p0 om
      refine op (ix (xs := p0) i om) ?_
      refine ad 2 ?_
      have hg5 : Dat.good (nth p0 i : Tx) := hg4
      refine op (cl (c_laws_szTx (nth p0 i) v1) fok116) ?_
      refine ad 7 ?_
      refine cd (fun h6 => ?_) (fun h6 => ?_)
      ·
        have hM := hM.trans (bt h6)
        refine ad 4 ?_
        exact rz (rs := [.tmp 4]) (congrArg (fun x => [Re.c (.int .i64 x)]) hM)
      ·
        have hM := hM.trans (bf h6)
        refine ad 5 ?_
        rw [wrapN (i := i) (by first | omega | exact om)]
        refine ad 2 ?_
        exact Run.again ((laws_szTx (nth p0 i) v1), (i + 1)) [0] [6] ⟨by first | omega | exact trivial | (dsimp only; omega) | (refine ⟨by omega, ?_⟩; simp_all; try omega), hM⟩ rfl (by show _ - _ < _ - _; (try dsimp only); omega) su (by decide)
    ·
      have h2l : ¬ (i < p0.length) := by have := of_decide_eq_false h2; omega
      have hM := hE.trans ((congrArg (fun n => laws_szTxS_l1 p0 p1 n v1 i) (show p0.length - i = 0 by omega)).trans (laws_szTxS_l1.eq_1 _ _ _ _))
      refine ad 6 ?_
      exact rz (rs := [.tmp 4]) (congrArg (fun x => [Re.c (.int .i64 x)]) hM)

/- F171 loop.example/g00974/laws.szSlot -/
def laws_szSlot (p0 : Slot) (p1 : Int) : Int := bif decide ((laws_szCellS p0.Cells p1) < 0) then (-1) else (laws_szCellS p0.Cells p1)
theorem c_laws_szSlot (p0 : Slot) (p1 : Int) : CTs 171 [.o (.st Slot _ inferInstance p0), .o (.c (.int .i64 p1))] [Re.c (.int .i64 (laws_szSlot p0 p1))] := by
  refine en Tryz.func171 Tryz.ntmps171 fun w hG hgd => ?_
  obtain ⟨hg_p0, _⟩ := hgd
  have hM := laws_szSlot.eq_1 p0 p1
  refine ad 10 ?_
  refine op (cl (c_laws_szCellS p0.Cells p1) fok43) ?_
  refine ad 8 ?_
  refine cd (fun h1 => ?_) (fun h1 => ?_)
  ·
    have hM := hM.trans (bt h1)
    refine ad 4 ?_
    exact rz (rs := [.tmp 4]) (congrArg (fun x => [Re.c (.int .i64 x)]) hM)
  ·
    have hM := hM.trans (bf h1)
    refine ad 6 ?_
    exact rz (rs := [.tmp 4]) (congrArg (fun x => [Re.c (.int .i64 x)]) hM)

/- F117 loop.example/g00974/laws.szSlotS -/
def laws_szSlotS_l1 (p0 : List Slot) (p1 : Int) : Nat → Int → Nat → Int
  | 0, v1, i => v1
  | n + 1, v1, i => bif decide ((laws_szSlot (nth p0 i) v1) < 0) then (-1) else (laws_szSlotS_l1 p0 p1 n (laws_szSlot (nth p0 i) v1) (i + 1))
def laws_szSlotS (p0 : List Slot) (p1 : Int) : Int := bif decide ((IntKind.i64.wrap (p1 - (p0.length : Int))) < 0) then (-1) else (laws_szSlotS_l1 p0 p1 (p0.length - 0) (IntKind.i64.wrap (p1 - (p0.length : Int))) 0)
theorem c_laws_szSlotS (p0 : List Slot) (p1 : Int) : CTs 117 [.o (.sl Slot instDatSlot p0), .o (.c (.int .i64 p1))] [Re.c (.int .i64 (laws_szSlotS p0 p1))] := by
  refine en Tryz.func117 Tryz.ntmps117 fun w hG hgd => ?_
  obtain ⟨hg_p0, _⟩ := hgd
  have hl_p0 : p0.length ≤ 9223372036854775807 := hg_p0.1
  have hM := laws_szSlotS.eq_1 p0 p1
  refine ad 18 ?_
  refine cd (fun h1 => ?_) (fun h1 => ?_)
  ·
    have hM := hM.trans (bt h1)
    refine ad 4 ?_
    exact rz (rs := [.tmp 4]) (congrArg (fun x => [Re.c (.int .i64 x)]) hM)
  ·
    have hM := hM.trans (bf h1)
    refine ad 7 ?_
    refine Run.loopM (ι := Int × Nat) (fun s => laws_szSlotS_l1 p0 p1 (p0.length - s.2) s.1 s.2) (fun s => ⟨27, 1, [(0, .sl 0 p0.length), (1, .v (.int .i64 s.1)), (5, .v (.int .i64 (s.2 : Int)))], [(0, .ros Slot instDatSlot p0)]⟩) (fun s => s.2 ≤ p0.length) (fun s => p0.length - s.2) (IntKind.i64.wrap (p1 - (p0.length : Int)), 0) [0] [0] hM (by first | exact ⟨by omega, by simp⟩ | omega | simp | (dsimp only; omega)) su (by decide) ?_
    rintro ⟨v1, i⟩ hv hE
    try dsimp only at hE
    have hi := hv
    try dsimp only at hi
    refine ad 8 ?_
    refine cd (fun h2 => ?_) (fun h2 => ?_)
    ·
      have h2l : i < p0.length := by have := of_decide_eq_true h2; omega
      have hM := hE.trans ((congrArg (fun n => laws_szSlotS_l1 p0 p1 n v1 i) (show p0.length - i = (p0.length - (i + 1)) + 1 by omega)).trans (laws_szSlotS_l1.eq_2 _ _ _ _ _))
      refine ad 7 ?_
      have hg4 := good_nth (k := i) hg_p0 om
      refine op (ix (xs := p0) i om) ?_
      refine ad 2 ?_
      have hg5 : Dat.good (nth p0 i : Slot) := hg4
      refine op (cl (c_laws_szSlot (nth p0 i) v1) fok171) ?_
      refine ad 7 ?_
      refine cd (fun h6 => ?_) (fun h6 => ?_)
      ·
        have hM := hM.trans (bt h6)
        refine ad 4 ?_
        exact rz (rs := [.tmp 4]) (congrArg (fun x => [Re.c (.int .i64 x)]) hM)
      ·
        have hM := hM.trans (bf h6)
        refine ad 5 ?_
        rw [wrapN (i := i) (by first | omega | exact om)]
        refine ad 2 ?_
        exact Run.again ((laws_szSlot (nth p0 i) v1), (i + 1)) [0] [2] ⟨by first | omega | exact trivial | (dsimp only; omega) | (refine ⟨by omega, ?_⟩; simp_all; try omega), hM⟩ rfl (by show _ - _ < _ - _; (try dsimp only); omega) su (by decide)
    ·
      have h2l : ¬ (i < p0.length) := by have := of_decide_eq_false h2; omega
      have hM := hE.trans ((congrArg (fun n => laws_szSlotS_l1 p0 p1 n v1 i) (show p0.length - i = 0 by omega)).trans (laws_szSlotS_l1.eq_1 _ _ _ _))
      refine ad 6 ?_
      exact rz (rs := [.tmp 4]) (congrArg (fun x => [Re.c (.int .i64 x)]) hM)

/- F118 loop.example/g00974/laws.szJournal -/
def laws_szJournal (p0 : Journal) (p1 : Int) : Int := bif decide ((IntKind.i64.wrap (p1 - (p0.Text.size : Int))) < 0) then (-1) else (IntKind.i64.wrap (p1 - (p0.Text.size : Int)))
theorem c_laws_szJournal (p0 : Journal) (p1 : Int) : CTs 118 [.o (.st Journal _ inferInstance p0), .o (.c (.int .i64 p1))] [Re.c (.int .i64 (laws_szJournal p0 p1))] := by
  refine en Tryz.func118 Tryz.ntmps118 fun w hG hgd => ?_
  obtain ⟨hg_p0, _⟩ := hgd
  have hM := laws_szJournal.eq_1 p0 p1
  refine ad 20 ?_
  refine cd (fun h1 => ?_) (fun h1 => ?_)
  ·
    have hM := hM.trans (bt h1)
    refine ad 4 ?_
    exact rz (rs := [.tmp 4]) (congrArg (fun x => [Re.c (.int .i64 x)]) hM)
  ·
    have hM := hM.trans (bf h1)
    refine ad 6 ?_
    exact rz (rs := [.tmp 4]) (congrArg (fun x => [Re.c (.int .i64 x)]) hM)

/- F45 loop.example/g00974/laws.szDisk -/
def laws_szDisk (p0 : Disk) (p1 : Int) : Int := bif decide ((laws_szSlotS p0.Slots p1) < 0) then (-1) else (bif decide ((laws_szJournal p0.Journal (laws_szSlotS p0.Slots p1)) < 0) then (-1) else (laws_szJournal p0.Journal (laws_szSlotS p0.Slots p1)))
theorem c_laws_szDisk (p0 : Disk) (p1 : Int) : CTs 45 [.o (.st Disk _ inferInstance p0), .o (.c (.int .i64 p1))] [Re.c (.int .i64 (laws_szDisk p0 p1))] := by
  refine en Tryz.func45 Tryz.ntmps45 fun w hG hgd => ?_
  obtain ⟨hg_p0, _⟩ := hgd
  have hM := laws_szDisk.eq_1 p0 p1
  refine ad 10 ?_
  refine op (cl (c_laws_szSlotS p0.Slots p1) fok117) ?_
  refine ad 8 ?_
  refine cd (fun h1 => ?_) (fun h1 => ?_)
  ·
    have hM := hM.trans (bt h1)
    refine ad 4 ?_
    exact rz (rs := [.tmp 4]) (congrArg (fun x => [Re.c (.int .i64 x)]) hM)
  ·
    have hM := hM.trans (bf h1)
    refine ad 6 ?_
    have hg2 : Dat.good (p0.Journal : Journal) := hg_p0.2
    refine op (cl (c_laws_szJournal p0.Journal (laws_szSlotS p0.Slots p1)) fok118) ?_
    refine ad 8 ?_
    refine cd (fun h3 => ?_) (fun h3 => ?_)
    ·
      have hM := hM.trans (bt h3)
      refine ad 4 ?_
      exact rz (rs := [.tmp 4]) (congrArg (fun x => [Re.c (.int .i64 x)]) hM)
    ·
      have hM := hM.trans (bf h3)
      refine ad 6 ?_
      exact rz (rs := [.tmp 4]) (congrArg (fun x => [Re.c (.int .i64 x)]) hM)

/- F202 loop.example/g00974/laws.szStep -/
def laws_szStep (p0 : Step) (p1 : Int) : Int := bif decide ((laws_szCall p0.Call p1) < 0) then (-1) else (laws_szCall p0.Call p1)
theorem c_laws_szStep (p0 : Step) (p1 : Int) : CTs 202 [.o (.st Step _ inferInstance p0), .o (.c (.int .i64 p1))] [Re.c (.int .i64 (laws_szStep p0 p1))] := by
  refine en Tryz.func202 Tryz.ntmps202 fun w hG hgd => ?_
  obtain ⟨hg_p0, _⟩ := hgd
  have hM := laws_szStep.eq_1 p0 p1
  refine ad 10 ?_
  have hg1 : Dat.good (p0.Call : Call) := hg_p0.2
  refine op (cl (c_laws_szCall p0.Call p1) fok200) ?_
  refine ad 8 ?_
  refine cd (fun h2 => ?_) (fun h2 => ?_)
  ·
    have hM := hM.trans (bt h2)
    refine ad 4 ?_
    exact rz (rs := [.tmp 4]) (congrArg (fun x => [Re.c (.int .i64 x)]) hM)
  ·
    have hM := hM.trans (bf h2)
    refine ad 6 ?_
    exact rz (rs := [.tmp 4]) (congrArg (fun x => [Re.c (.int .i64 x)]) hM)

/- F172 loop.example/g00974/laws.szStepS -/
def laws_szStepS_l1 (p0 : List Step) (p1 : Int) : Nat → Int → Nat → Int
  | 0, v1, i => v1
  | n + 1, v1, i => bif decide ((laws_szStep (nth p0 i) v1) < 0) then (-1) else (laws_szStepS_l1 p0 p1 n (laws_szStep (nth p0 i) v1) (i + 1))
def laws_szStepS (p0 : List Step) (p1 : Int) : Int := bif decide ((IntKind.i64.wrap (p1 - (p0.length : Int))) < 0) then (-1) else (laws_szStepS_l1 p0 p1 (p0.length - 0) (IntKind.i64.wrap (p1 - (p0.length : Int))) 0)
theorem c_laws_szStepS (p0 : List Step) (p1 : Int) : CTs 172 [.o (.sl Step instDatStep p0), .o (.c (.int .i64 p1))] [Re.c (.int .i64 (laws_szStepS p0 p1))] := by
  refine en Tryz.func172 Tryz.ntmps172 fun w hG hgd => ?_
  obtain ⟨hg_p0, _⟩ := hgd
  have hl_p0 : p0.length ≤ 9223372036854775807 := hg_p0.1
  have hM := laws_szStepS.eq_1 p0 p1
  refine ad 18 ?_
  refine cd (fun h1 => ?_) (fun h1 => ?_)
  ·
    have hM := hM.trans (bt h1)
    refine ad 4 ?_
    exact rz (rs := [.tmp 4]) (congrArg (fun x => [Re.c (.int .i64 x)]) hM)
  ·
    have hM := hM.trans (bf h1)
    refine ad 7 ?_
    refine Run.loopM (ι := Int × Nat) (fun s => laws_szStepS_l1 p0 p1 (p0.length - s.2) s.1 s.2) (fun s => ⟨27, 1, [(0, .sl 0 p0.length), (1, .v (.int .i64 s.1)), (5, .v (.int .i64 (s.2 : Int)))], [(0, .ros Step instDatStep p0)]⟩) (fun s => s.2 ≤ p0.length) (fun s => p0.length - s.2) (IntKind.i64.wrap (p1 - (p0.length : Int)), 0) [0] [0] hM (by first | exact ⟨by omega, by simp⟩ | omega | simp | (dsimp only; omega)) su (by decide) ?_
    rintro ⟨v1, i⟩ hv hE
    try dsimp only at hE
    have hi := hv
    try dsimp only at hi
    refine ad 8 ?_
    refine cd (fun h2 => ?_) (fun h2 => ?_)
    ·
      have h2l : i < p0.length := by have := of_decide_eq_true h2; omega
      have hM := hE.trans ((congrArg (fun n => laws_szStepS_l1 p0 p1 n v1 i) (show p0.length - i = (p0.length - (i + 1)) + 1 by omega)).trans (laws_szStepS_l1.eq_2 _ _ _ _ _))
      refine ad 7 ?_
      have hg4 := good_nth (k := i) hg_p0 om
      refine op (ix (xs := p0) i om) ?_
      refine ad 2 ?_
      have hg5 : Dat.good (nth p0 i : Step) := hg4
      refine op (cl (c_laws_szStep (nth p0 i) v1) fok202) ?_
      refine ad 7 ?_
      refine cd (fun h6 => ?_) (fun h6 => ?_)
      ·
        have hM := hM.trans (bt h6)
        refine ad 4 ?_
        exact rz (rs := [.tmp 4]) (congrArg (fun x => [Re.c (.int .i64 x)]) hM)
      ·
        have hM := hM.trans (bf h6)
        refine ad 5 ?_
        rw [wrapN (i := i) (by first | omega | exact om)]
        refine ad 2 ?_
        exact Run.again ((laws_szStep (nth p0 i) v1), (i + 1)) [0] [1] ⟨by first | omega | exact trivial | (dsimp only; omega) | (refine ⟨by omega, ?_⟩; simp_all; try omega), hM⟩ rfl (by show _ - _ < _ - _; (try dsimp only); omega) su (by decide)
    ·
      have h2l : ¬ (i < p0.length) := by have := of_decide_eq_false h2; omega
      have hM := hE.trans ((congrArg (fun n => laws_szStepS_l1 p0 p1 n v1 i) (show p0.length - i = 0 by omega)).trans (laws_szStepS_l1.eq_1 _ _ _ _))
      refine ad 6 ?_
      exact rz (rs := [.tmp 4]) (congrArg (fun x => [Re.c (.int .i64 x)]) hM)

/- F119 loop.example/g00974/laws.szEntry -/
def laws_szEntry (p0 : Entry) (p1 : Int) : Int := bif decide ((laws_szStepS p0.Steps p1) < 0) then (-1) else (bif decide ((laws_szAnswerS p0.Answers (laws_szStepS p0.Steps p1)) < 0) then (-1) else (laws_szAnswerS p0.Answers (laws_szStepS p0.Steps p1)))
theorem c_laws_szEntry (p0 : Entry) (p1 : Int) : CTs 119 [.o (.st Entry _ inferInstance p0), .o (.c (.int .i64 p1))] [Re.c (.int .i64 (laws_szEntry p0 p1))] := by
  refine en Tryz.func119 Tryz.ntmps119 fun w hG hgd => ?_
  obtain ⟨hg_p0, _⟩ := hgd
  have hM := laws_szEntry.eq_1 p0 p1
  refine ad 10 ?_
  refine op (cl (c_laws_szStepS p0.Steps p1) fok172) ?_
  refine ad 8 ?_
  refine cd (fun h1 => ?_) (fun h1 => ?_)
  ·
    have hM := hM.trans (bt h1)
    refine ad 4 ?_
    exact rz (rs := [.tmp 4]) (congrArg (fun x => [Re.c (.int .i64 x)]) hM)
  ·
    have hM := hM.trans (bf h1)
    refine ad 6 ?_
    refine op (cl (c_laws_szAnswerS p0.Answers (laws_szStepS p0.Steps p1)) fok168) ?_
    refine ad 8 ?_
    refine cd (fun h2 => ?_) (fun h2 => ?_)
    ·
      have hM := hM.trans (bt h2)
      refine ad 4 ?_
      exact rz (rs := [.tmp 4]) (congrArg (fun x => [Re.c (.int .i64 x)]) hM)
    ·
      have hM := hM.trans (bf h2)
      refine ad 6 ?_
      exact rz (rs := [.tmp 4]) (congrArg (fun x => [Re.c (.int .i64 x)]) hM)

/- F46 loop.example/g00974/laws.szEntryS -/
def laws_szEntryS_l1 (p0 : List Entry) (p1 : Int) : Nat → Int → Nat → Int
  | 0, v1, i => v1
  | n + 1, v1, i => bif decide ((laws_szEntry (nth p0 i) v1) < 0) then (-1) else (laws_szEntryS_l1 p0 p1 n (laws_szEntry (nth p0 i) v1) (i + 1))
def laws_szEntryS (p0 : List Entry) (p1 : Int) : Int := bif decide ((IntKind.i64.wrap (p1 - (p0.length : Int))) < 0) then (-1) else (laws_szEntryS_l1 p0 p1 (p0.length - 0) (IntKind.i64.wrap (p1 - (p0.length : Int))) 0)
theorem c_laws_szEntryS (p0 : List Entry) (p1 : Int) : CTs 46 [.o (.sl Entry instDatEntry p0), .o (.c (.int .i64 p1))] [Re.c (.int .i64 (laws_szEntryS p0 p1))] := by
  refine en Tryz.func46 Tryz.ntmps46 fun w hG hgd => ?_
  obtain ⟨hg_p0, _⟩ := hgd
  have hl_p0 : p0.length ≤ 9223372036854775807 := hg_p0.1
  have hM := laws_szEntryS.eq_1 p0 p1
  refine ad 18 ?_
  refine cd (fun h1 => ?_) (fun h1 => ?_)
  ·
    have hM := hM.trans (bt h1)
    refine ad 4 ?_
    exact rz (rs := [.tmp 4]) (congrArg (fun x => [Re.c (.int .i64 x)]) hM)
  ·
    have hM := hM.trans (bf h1)
    refine ad 7 ?_
    refine Run.loopM (ι := Int × Nat) (fun s => laws_szEntryS_l1 p0 p1 (p0.length - s.2) s.1 s.2) (fun s => ⟨27, 1, [(0, .sl 0 p0.length), (1, .v (.int .i64 s.1)), (5, .v (.int .i64 (s.2 : Int)))], [(0, .ros Entry instDatEntry p0)]⟩) (fun s => s.2 ≤ p0.length) (fun s => p0.length - s.2) (IntKind.i64.wrap (p1 - (p0.length : Int)), 0) [0] [0] hM (by first | exact ⟨by omega, by simp⟩ | omega | simp | (dsimp only; omega)) su (by decide) ?_
    rintro ⟨v1, i⟩ hv hE
    try dsimp only at hE
    have hi := hv
    try dsimp only at hi
    refine ad 8 ?_
    refine cd (fun h2 => ?_) (fun h2 => ?_)
    ·
      have h2l : i < p0.length := by have := of_decide_eq_true h2; omega
      have hM := hE.trans ((congrArg (fun n => laws_szEntryS_l1 p0 p1 n v1 i) (show p0.length - i = (p0.length - (i + 1)) + 1 by omega)).trans (laws_szEntryS_l1.eq_2 _ _ _ _ _))
      refine ad 7 ?_
      have hg4 := good_nth (k := i) hg_p0 om
      refine op (ix (xs := p0) i om) ?_
      refine ad 2 ?_
      have hg5 : Dat.good (nth p0 i : Entry) := hg4
      refine op (cl (c_laws_szEntry (nth p0 i) v1) fok119) ?_
      refine ad 7 ?_
      refine cd (fun h6 => ?_) (fun h6 => ?_)
      ·
        have hM := hM.trans (bt h6)
        refine ad 4 ?_
        exact rz (rs := [.tmp 4]) (congrArg (fun x => [Re.c (.int .i64 x)]) hM)
      ·
        have hM := hM.trans (bf h6)
        refine ad 5 ?_
        rw [wrapN (i := i) (by first | omega | exact om)]
        refine ad 2 ?_
        exact Run.again ((laws_szEntry (nth p0 i) v1), (i + 1)) [0] [3] ⟨by first | omega | exact trivial | (dsimp only; omega) | (refine ⟨by omega, ?_⟩; simp_all; try omega), hM⟩ rfl (by show _ - _ < _ - _; (try dsimp only); omega) su (by decide)
    ·
      have h2l : ¬ (i < p0.length) := by have := of_decide_eq_false h2; omega
      have hM := hE.trans ((congrArg (fun n => laws_szEntryS_l1 p0 p1 n v1 i) (show p0.length - i = 0 by omega)).trans (laws_szEntryS_l1.eq_1 _ _ _ _))
      refine ad 6 ?_
      exact rz (rs := [.tmp 4]) (congrArg (fun x => [Re.c (.int .i64 x)]) hM)

/- F8 loop.example/g00974/laws.szKernel -/
def laws_szKernel (p0 : Kernel) (p1 : Int) : Int := bif decide ((laws_szCellS p0.Store p1) < 0) then (-1) else (bif decide ((laws_szTxS p0.Txs (laws_szCellS p0.Store p1)) < 0) then (-1) else (bif decide ((laws_szDisk p0.Disk (laws_szTxS p0.Txs (laws_szCellS p0.Store p1))) < 0) then (-1) else (bif decide ((laws_szEntryS p0.History (laws_szDisk p0.Disk (laws_szTxS p0.Txs (laws_szCellS p0.Store p1)))) < 0) then (-1) else (bif decide ((laws_szStringS p0.Seen (laws_szEntryS p0.History (laws_szDisk p0.Disk (laws_szTxS p0.Txs (laws_szCellS p0.Store p1))))) < 0) then (-1) else (laws_szStringS p0.Seen (laws_szEntryS p0.History (laws_szDisk p0.Disk (laws_szTxS p0.Txs (laws_szCellS p0.Store p1)))))))))
theorem c_laws_szKernel (p0 : Kernel) (p1 : Int) : CTs 8 [.o (.st Kernel _ inferInstance p0), .o (.c (.int .i64 p1))] [Re.c (.int .i64 (laws_szKernel p0 p1))] := by
  refine en Tryz.func8 Tryz.ntmps8 fun w hG hgd => ?_
  obtain ⟨hg_p0, _⟩ := hgd
  have hM := laws_szKernel.eq_1 p0 p1
  refine ad 10 ?_
  refine op (cl (c_laws_szCellS p0.Store p1) fok43) ?_
  refine ad 8 ?_
  refine cd (fun h1 => ?_) (fun h1 => ?_)
  ·
    have hM := hM.trans (bt h1)
    refine ad 4 ?_
    exact rz (rs := [.tmp 4]) (congrArg (fun x => [Re.c (.int .i64 x)]) hM)
  ·
    have hM := hM.trans (bf h1)
    refine ad 6 ?_
    refine op (cl (c_laws_szTxS p0.Txs (laws_szCellS p0.Store p1)) fok44) ?_
    refine ad 8 ?_
    refine cd (fun h2 => ?_) (fun h2 => ?_)
    ·
      have hM := hM.trans (bt h2)
      refine ad 4 ?_
      exact rz (rs := [.tmp 4]) (congrArg (fun x => [Re.c (.int .i64 x)]) hM)
    ·
      have hM := hM.trans (bf h2)
      refine ad 6 ?_
      have hg3 : Dat.good (p0.Disk : Disk) := hg_p0.2.2.1
      refine op (cl (c_laws_szDisk p0.Disk (laws_szTxS p0.Txs (laws_szCellS p0.Store p1))) fok45) ?_
      refine ad 8 ?_
      refine cd (fun h4 => ?_) (fun h4 => ?_)
      ·
        have hM := hM.trans (bt h4)
        refine ad 4 ?_
        exact rz (rs := [.tmp 4]) (congrArg (fun x => [Re.c (.int .i64 x)]) hM)
      ·
        have hM := hM.trans (bf h4)
        refine ad 6 ?_
        refine op (cl (c_laws_szEntryS p0.History (laws_szDisk p0.Disk (laws_szTxS p0.Txs (laws_szCellS p0.Store p1)))) fok46) ?_
        refine ad 8 ?_
        refine cd (fun h5 => ?_) (fun h5 => ?_)
        ·
          have hM := hM.trans (bt h5)
          refine ad 4 ?_
          exact rz (rs := [.tmp 4]) (congrArg (fun x => [Re.c (.int .i64 x)]) hM)
        ·
          have hM := hM.trans (bf h5)
          refine ad 6 ?_
          refine op (cl (c_laws_szStringS p0.Seen (laws_szEntryS p0.History (laws_szDisk p0.Disk (laws_szTxS p0.Txs (laws_szCellS p0.Store p1))))) fok47) ?_
          refine ad 8 ?_
          refine cd (fun h6 => ?_) (fun h6 => ?_)
          ·
            have hM := hM.trans (bt h6)
            refine ad 4 ?_
            exact rz (rs := [.tmp 4]) (congrArg (fun x => [Re.c (.int .i64 x)]) hM)
          ·
            have hM := hM.trans (bf h6)
            refine ad 6 ?_
            exact rz (rs := [.tmp 4]) (congrArg (fun x => [Re.c (.int .i64 x)]) hM)

end Go.Proofs.YtnjidaonbcbphaaGreatDoor.Fw
/-
  What is measured is small. No condition.
-/
namespace Go.Proofs.YtnjidaonbcbphaaGreatDoor.Fw
open Go.RowKit
set_option linter.unusedVariables false
set_option linter.unusedSimpArgs false
set_option maxRecDepth 100000

/-! ## Lists, generally -/
theorem nth_of {α : Type} [Inhabited α] {xs : List α} {i : Nat} {x : α} (h : xs[i]? = some x) : nth xs i = x := by
  simp [nth, List.getD_eq_getElem?_getD, h]
def szL {α : Type} [Inhabited α] (f : α → Int → Int) (xs : List α) : Nat → Int → Nat → Int
  | 0, s, _ => s
  | n + 1, s, i => bif decide (f (nth xs i) s < 0) then (-1) else szL f xs n (f (nth xs i) s) (i + 1)
theorem szL_small {α : Type} [Inhabited α] [Dat α] {f : α → Int → Int} {xs : List α} (hf : ∀ x s, 0 ≤ s → s ≤ 1048576 → Dat.good x → ¬ f x s < 0 → Dat.small 1048576 x ∧ 0 ≤ f x s ∧ f x s ≤ 1048576) (hg : ∀ x ∈ xs, Dat.good x) :
    ∀ (n : Nat) (s : Int) (i : Nat), n = xs.length - i → 0 ≤ s → s ≤ 1048576 → ¬ szL f xs n s i < 0 → (∀ j x, i ≤ j → xs[j]? = some x → Dat.small 1048576 x) ∧ 0 ≤ szL f xs n s i ∧ szL f xs n s i ≤ 1048576 := by
  intro n
  induction n with
  | zero =>
    intro s i hn h0 h1 _
    refine ⟨fun j x hj hx => ?_, h0, h1⟩
    have := (List.getElem?_eq_some_iff.1 hx).1
    omega
  | succ n ih =>
    intro s i hn h0 h1 h
    unfold szL at h ⊢
    by_cases hc : f (nth xs i) s < 0
    · rw [decide_eq_true hc] at h
      exact absurd (show ((-1 : Int)) < 0 by decide) h
    · rw [decide_eq_false hc] at h ⊢
      have hi : i < xs.length := by omega
      have hx : xs[i]? = some xs[i] := List.getElem?_eq_getElem hi
      have hgi : Dat.good (nth xs i) := by rw [nth_of hx]; exact hg _ (List.getElem_mem hi)
      obtain ⟨h2, h3, h4⟩ := hf _ _ h0 h1 hgi hc
      obtain ⟨h5, h6, h7⟩ := ih _ (i + 1) (by omega) h3 h4 h
      refine ⟨fun j x hj hjx => ?_, h6, h7⟩
      by_cases e : j = i
      · subst e
        rw [← nth_of hjx]
        exact h2
      · exact h5 j x (by omega) hjx
theorem good_str {s : ByteArray} (h : Dat.good s) : s.size ≤ 9223372036854775807 := by
  have h' : s.size ≤ maxLen := h
  unfold maxLen at h'
  omega
theorem wrap_sub {a : Int} {n : Nat} (h0 : 0 ≤ a) (h1 : a ≤ 1048576) (hn : n ≤ 9223372036854775807) : IntKind.i64.wrap (a - (n : Int)) = a - n := IntWalk.i64_in _ (by omega)
def laws_szString (x : ByteArray) (s : Int) : Int := IntKind.i64.wrap (s - (x.size : Int))
theorem laws_szString_small (p0 : ByteArray) (p1 : Int) (h0 : 0 ≤ p1) (h1 : p1 ≤ 1048576) (hg : Dat.good p0) (h : ¬ laws_szString p0 p1 < 0) : Dat.small 1048576 p0 ∧ 0 ≤ laws_szString p0 p1 ∧ laws_szString p0 p1 ≤ 1048576 := by
  unfold laws_szString at h ⊢
  rw [wrap_sub h0 h1 (good_str hg)] at h ⊢
  have e : p0.size ≤ 1048576 := by omega
  exact ⟨e, by omega, by omega⟩
theorem no_neg {a : Int} {x : Int} (h : ¬ (bif decide (a < 0) then (-1 : Int) else x) < 0) : ¬ a < 0 := fun hc => h (by rw [decide_eq_true hc]; show (-1 : Int) < 0; decide)
theorem laws_szCell_small (p0 : Cell) (p1 : Int) (h0 : 0 ≤ p1) (h1 : p1 ≤ 1048576) (hg : Dat.good p0) (h : ¬ laws_szCell p0 p1 < 0) : Dat.small 1048576 p0 ∧ 0 ≤ laws_szCell p0 p1 ∧ laws_szCell p0 p1 ≤ 1048576 := by
  unfold laws_szCell at h ⊢
  obtain ⟨g0, g1⟩ := hg
  rw [wrap_sub (a := p1) h0 h1 (n := p0.Key.size) (good_str g0)] at h ⊢
  have c1 : ¬ (p1 - (p0.Key.size : Int)) < 0 := no_neg h
  rw [decide_eq_false c1, cond_false] at h ⊢
  have b1 : 0 ≤ (p1 - (p0.Key.size : Int)) := by omega
  have e1 : (p1 - (p0.Key.size : Int)) ≤ 1048576 := by omega
  have s0 : p0.Key.size ≤ 1048576 := by omega
  rw [wrap_sub (a := (p1 - (p0.Key.size : Int))) b1 e1 (n := p0.Val.size) (good_str g1)] at h ⊢
  have c2 : ¬ ((p1 - (p0.Key.size : Int)) - (p0.Val.size : Int)) < 0 := no_neg h
  rw [decide_eq_false c2, cond_false] at h ⊢
  have b2 : 0 ≤ ((p1 - (p0.Key.size : Int)) - (p0.Val.size : Int)) := by omega
  have e2 : ((p1 - (p0.Key.size : Int)) - (p0.Val.size : Int)) ≤ 1048576 := by omega
  have s1 : p0.Val.size ≤ 1048576 := by omega
  exact ⟨⟨s0, s1⟩, b2, e2⟩
theorem laws_szCellS_l1_eq (p0 : List Cell) (p1 : Int) : ∀ n s i, laws_szCellS_l1 p0 p1 n s i = szL laws_szCell p0 n s i := by
  intro n
  induction n with
  | zero => intro s i; rfl
  | succ n ih => intro s i; rw [laws_szCellS_l1, szL, ih]
theorem laws_szCellS_small (p0 : List Cell) (p1 : Int) (h0 : 0 ≤ p1) (h1 : p1 ≤ 1048576) (hg : Dat.good p0) (h : ¬ laws_szCellS p0 p1 < 0) : Dat.small 1048576 p0 ∧ 0 ≤ laws_szCellS p0 p1 ∧ laws_szCellS p0 p1 ≤ 1048576 := by
  unfold laws_szCellS at h ⊢
  rw [wrap_sub h0 h1 hg.1] at h ⊢
  have hc := no_neg h
  rw [decide_eq_false hc, cond_false, laws_szCellS_l1_eq] at h ⊢
  obtain ⟨h2, h3, h4⟩ := szL_small (f := laws_szCell) (xs := p0) laws_szCell_small hg.2 _ _ 0 rfl (by omega) (by omega) h
  refine ⟨⟨by omega, fun x hx => ?_⟩, h3, h4⟩
  obtain ⟨j, hj⟩ := List.getElem?_of_mem hx
  exact h2 j x (Nat.zero_le _) hj
theorem laws_szCall_small (p0 : Call) (p1 : Int) (h0 : 0 ≤ p1) (h1 : p1 ≤ 1048576) (hg : Dat.good p0) (h : ¬ laws_szCall p0 p1 < 0) : Dat.small 1048576 p0 ∧ 0 ≤ laws_szCall p0 p1 ∧ laws_szCall p0 p1 ≤ 1048576 := by
  unfold laws_szCall at h ⊢
  obtain ⟨g0, g1, g2, g3, g4, g5⟩ := hg
  rw [wrap_sub (a := p1) h0 h1 (n := p0.Name.size) (good_str g1)] at h ⊢
  have c1 : ¬ (p1 - (p0.Name.size : Int)) < 0 := no_neg h
  rw [decide_eq_false c1, cond_false] at h ⊢
  have b1 : 0 ≤ (p1 - (p0.Name.size : Int)) := by omega
  have e1 : (p1 - (p0.Name.size : Int)) ≤ 1048576 := by omega
  have s1 : p0.Name.size ≤ 1048576 := by omega
  rw [wrap_sub (a := (p1 - (p0.Name.size : Int))) b1 e1 (n := p0.To.size) (good_str g2)] at h ⊢
  have c2 : ¬ ((p1 - (p0.Name.size : Int)) - (p0.To.size : Int)) < 0 := no_neg h
  rw [decide_eq_false c2, cond_false] at h ⊢
  have b2 : 0 ≤ ((p1 - (p0.Name.size : Int)) - (p0.To.size : Int)) := by omega
  have e2 : ((p1 - (p0.Name.size : Int)) - (p0.To.size : Int)) ≤ 1048576 := by omega
  have s2 : p0.To.size ≤ 1048576 := by omega
  rw [wrap_sub (a := ((p1 - (p0.Name.size : Int)) - (p0.To.size : Int))) b2 e2 (n := p0.Text.size) (good_str g5)] at h ⊢
  have c3 : ¬ (((p1 - (p0.Name.size : Int)) - (p0.To.size : Int)) - (p0.Text.size : Int)) < 0 := no_neg h
  rw [decide_eq_false c3, cond_false] at h ⊢
  have b3 : 0 ≤ (((p1 - (p0.Name.size : Int)) - (p0.To.size : Int)) - (p0.Text.size : Int)) := by omega
  have e3 : (((p1 - (p0.Name.size : Int)) - (p0.To.size : Int)) - (p0.Text.size : Int)) ≤ 1048576 := by omega
  have s5 : p0.Text.size ≤ 1048576 := by omega
  exact ⟨⟨trivial, s1, s2, trivial, trivial, s5⟩, b3, e3⟩
theorem laws_szCallS_l1_eq (p0 : List Call) (p1 : Int) : ∀ n s i, laws_szCallS_l1 p0 p1 n s i = szL laws_szCall p0 n s i := by
  intro n
  induction n with
  | zero => intro s i; rfl
  | succ n ih => intro s i; rw [laws_szCallS_l1, szL, ih]
theorem laws_szCallS_small (p0 : List Call) (p1 : Int) (h0 : 0 ≤ p1) (h1 : p1 ≤ 1048576) (hg : Dat.good p0) (h : ¬ laws_szCallS p0 p1 < 0) : Dat.small 1048576 p0 ∧ 0 ≤ laws_szCallS p0 p1 ∧ laws_szCallS p0 p1 ≤ 1048576 := by
  unfold laws_szCallS at h ⊢
  rw [wrap_sub h0 h1 hg.1] at h ⊢
  have hc := no_neg h
  rw [decide_eq_false hc, cond_false, laws_szCallS_l1_eq] at h ⊢
  obtain ⟨h2, h3, h4⟩ := szL_small (f := laws_szCall) (xs := p0) laws_szCall_small hg.2 _ _ 0 rfl (by omega) (by omega) h
  refine ⟨⟨by omega, fun x hx => ?_⟩, h3, h4⟩
  obtain ⟨j, hj⟩ := List.getElem?_of_mem hx
  exact h2 j x (Nat.zero_le _) hj
theorem laws_szAnswer_small (p0 : Answer) (p1 : Int) (h0 : 0 ≤ p1) (h1 : p1 ≤ 1048576) (hg : Dat.good p0) (h : ¬ laws_szAnswer p0 p1 < 0) : Dat.small 1048576 p0 ∧ 0 ≤ laws_szAnswer p0 p1 ∧ laws_szAnswer p0 p1 ≤ 1048576 := by
  unfold laws_szAnswer at h ⊢
  obtain ⟨g0, g1, g2⟩ := hg
  rw [wrap_sub (a := p1) h0 h1 (n := p0.Text.size) (good_str g2)] at h ⊢
  have c1 : ¬ (p1 - (p0.Text.size : Int)) < 0 := no_neg h
  rw [decide_eq_false c1, cond_false] at h ⊢
  have b1 : 0 ≤ (p1 - (p0.Text.size : Int)) := by omega
  have e1 : (p1 - (p0.Text.size : Int)) ≤ 1048576 := by omega
  have s2 : p0.Text.size ≤ 1048576 := by omega
  exact ⟨⟨trivial, trivial, s2⟩, b1, e1⟩
theorem laws_szAnswerS_l1_eq (p0 : List Answer) (p1 : Int) : ∀ n s i, laws_szAnswerS_l1 p0 p1 n s i = szL laws_szAnswer p0 n s i := by
  intro n
  induction n with
  | zero => intro s i; rfl
  | succ n ih => intro s i; rw [laws_szAnswerS_l1, szL, ih]
theorem laws_szAnswerS_small (p0 : List Answer) (p1 : Int) (h0 : 0 ≤ p1) (h1 : p1 ≤ 1048576) (hg : Dat.good p0) (h : ¬ laws_szAnswerS p0 p1 < 0) : Dat.small 1048576 p0 ∧ 0 ≤ laws_szAnswerS p0 p1 ∧ laws_szAnswerS p0 p1 ≤ 1048576 := by
  unfold laws_szAnswerS at h ⊢
  rw [wrap_sub h0 h1 hg.1] at h ⊢
  have hc := no_neg h
  rw [decide_eq_false hc, cond_false, laws_szAnswerS_l1_eq] at h ⊢
  obtain ⟨h2, h3, h4⟩ := szL_small (f := laws_szAnswer) (xs := p0) laws_szAnswer_small hg.2 _ _ 0 rfl (by omega) (by omega) h
  refine ⟨⟨by omega, fun x hx => ?_⟩, h3, h4⟩
  obtain ⟨j, hj⟩ := List.getElem?_of_mem hx
  exact h2 j x (Nat.zero_le _) hj
theorem laws_szStringS_l1_eq (p0 : List ByteArray) (p1 : Int) : ∀ n s i, laws_szStringS_l1 p0 p1 n s i = szL laws_szString p0 n s i := by
  intro n
  induction n with
  | zero => intro s i; rfl
  | succ n ih => intro s i; rw [laws_szStringS_l1, szL, ih]; rfl
theorem laws_szStringS_small (p0 : List ByteArray) (p1 : Int) (h0 : 0 ≤ p1) (h1 : p1 ≤ 1048576) (hg : Dat.good p0) (h : ¬ laws_szStringS p0 p1 < 0) : Dat.small 1048576 p0 ∧ 0 ≤ laws_szStringS p0 p1 ∧ laws_szStringS p0 p1 ≤ 1048576 := by
  unfold laws_szStringS at h ⊢
  rw [wrap_sub h0 h1 hg.1] at h ⊢
  have hc := no_neg h
  rw [decide_eq_false hc, cond_false, laws_szStringS_l1_eq] at h ⊢
  obtain ⟨h2, h3, h4⟩ := szL_small (f := laws_szString) (xs := p0) laws_szString_small hg.2 _ _ 0 rfl (by omega) (by omega) h
  refine ⟨⟨by omega, fun x hx => ?_⟩, h3, h4⟩
  obtain ⟨j, hj⟩ := List.getElem?_of_mem hx
  exact h2 j x (Nat.zero_le _) hj
theorem laws_szTouch_small (p0 : Touch) (p1 : Int) (h0 : 0 ≤ p1) (h1 : p1 ≤ 1048576) (hg : Dat.good p0) (h : ¬ laws_szTouch p0 p1 < 0) : Dat.small 1048576 p0 ∧ 0 ≤ laws_szTouch p0 p1 ∧ laws_szTouch p0 p1 ≤ 1048576 := by
  unfold laws_szTouch at h ⊢
  obtain ⟨g0, g1⟩ := hg
  have c1 : ¬ (laws_szStringS p0.Reads p1) < 0 := no_neg h
  rw [decide_eq_false c1, cond_false] at h ⊢
  obtain ⟨s0, b1, e1⟩ := laws_szStringS_small p0.Reads p1 h0 h1 g0 c1
  have c2 : ¬ (laws_szStringS p0.Writes (laws_szStringS p0.Reads p1)) < 0 := no_neg h
  rw [decide_eq_false c2, cond_false] at h ⊢
  obtain ⟨s1, b2, e2⟩ := laws_szStringS_small p0.Writes (laws_szStringS p0.Reads p1) b1 e1 g1 c2
  exact ⟨⟨s0, s1⟩, b2, e2⟩
theorem laws_szIntS_small (p0 : List Int) (p1 : Int) (h0 : 0 ≤ p1) (h1 : p1 ≤ 1048576) (hg : Dat.good p0) (h : ¬ laws_szIntS p0 p1 < 0) : Dat.small 1048576 p0 ∧ 0 ≤ laws_szIntS p0 p1 ∧ laws_szIntS p0 p1 ≤ 1048576 := by
  unfold laws_szIntS at h ⊢
  rw [wrap_sub h0 h1 hg.1] at h ⊢
  have hc := no_neg h
  rw [decide_eq_false hc] at h ⊢
  exact ⟨⟨by omega, fun _ _ => trivial⟩, by show 0 ≤ p1 - (p0.length : Int); omega, by show p1 - (p0.length : Int) ≤ 1048576; omega⟩
theorem laws_szTx_small (p0 : Tx) (p1 : Int) (h0 : 0 ≤ p1) (h1 : p1 ≤ 1048576) (hg : Dat.good p0) (h : ¬ laws_szTx p0 p1 < 0) : Dat.small 1048576 p0 ∧ 0 ≤ laws_szTx p0 p1 ∧ laws_szTx p0 p1 ≤ 1048576 := by
  unfold laws_szTx at h ⊢
  obtain ⟨g0, g1, g2, g3, g4, g5, g6, g7, g8⟩ := hg
  have c1 : ¬ (laws_szCallS p0.Calls p1) < 0 := no_neg h
  rw [decide_eq_false c1, cond_false] at h ⊢
  obtain ⟨s4, b1, e1⟩ := laws_szCallS_small p0.Calls p1 h0 h1 g4 c1
  have c2 : ¬ (laws_szAnswerS p0.Answers (laws_szCallS p0.Calls p1)) < 0 := no_neg h
  rw [decide_eq_false c2, cond_false] at h ⊢
  obtain ⟨s5, b2, e2⟩ := laws_szAnswerS_small p0.Answers (laws_szCallS p0.Calls p1) b1 e1 g5 c2
  have c3 : ¬ (laws_szTouch p0.Touch (laws_szAnswerS p0.Answers (laws_szCallS p0.Calls p1))) < 0 := no_neg h
  rw [decide_eq_false c3, cond_false] at h ⊢
  obtain ⟨s6, b3, e3⟩ := laws_szTouch_small p0.Touch (laws_szAnswerS p0.Answers (laws_szCallS p0.Calls p1)) b2 e2 g6 c3
  have c4 : ¬ (laws_szIntS p0.Marks (laws_szTouch p0.Touch (laws_szAnswerS p0.Answers (laws_szCallS p0.Calls p1)))) < 0 := no_neg h
  rw [decide_eq_false c4, cond_false] at h ⊢
  obtain ⟨s7, b4, e4⟩ := laws_szIntS_small p0.Marks (laws_szTouch p0.Touch (laws_szAnswerS p0.Answers (laws_szCallS p0.Calls p1))) b3 e3 g7 c4
  exact ⟨⟨trivial, trivial, trivial, trivial, s4, s5, s6, s7, trivial⟩, b4, e4⟩
theorem laws_szTxS_l1_eq (p0 : List Tx) (p1 : Int) : ∀ n s i, laws_szTxS_l1 p0 p1 n s i = szL laws_szTx p0 n s i := by
  intro n
  induction n with
  | zero => intro s i; rfl
  | succ n ih => intro s i; rw [laws_szTxS_l1, szL, ih]
theorem laws_szTxS_small (p0 : List Tx) (p1 : Int) (h0 : 0 ≤ p1) (h1 : p1 ≤ 1048576) (hg : Dat.good p0) (h : ¬ laws_szTxS p0 p1 < 0) : Dat.small 1048576 p0 ∧ 0 ≤ laws_szTxS p0 p1 ∧ laws_szTxS p0 p1 ≤ 1048576 := by
  unfold laws_szTxS at h ⊢
  rw [wrap_sub h0 h1 hg.1] at h ⊢
  have hc := no_neg h
  rw [decide_eq_false hc, cond_false, laws_szTxS_l1_eq] at h ⊢
  obtain ⟨h2, h3, h4⟩ := szL_small (f := laws_szTx) (xs := p0) laws_szTx_small hg.2 _ _ 0 rfl (by omega) (by omega) h
  refine ⟨⟨by omega, fun x hx => ?_⟩, h3, h4⟩
  obtain ⟨j, hj⟩ := List.getElem?_of_mem hx
  exact h2 j x (Nat.zero_le _) hj
theorem laws_szSlot_small (p0 : Slot) (p1 : Int) (h0 : 0 ≤ p1) (h1 : p1 ≤ 1048576) (hg : Dat.good p0) (h : ¬ laws_szSlot p0 p1 < 0) : Dat.small 1048576 p0 ∧ 0 ≤ laws_szSlot p0 p1 ∧ laws_szSlot p0 p1 ≤ 1048576 := by
  unfold laws_szSlot at h ⊢
  obtain ⟨g0, g1, g2⟩ := hg
  have c1 : ¬ (laws_szCellS p0.Cells p1) < 0 := no_neg h
  rw [decide_eq_false c1, cond_false] at h ⊢
  obtain ⟨s1, b1, e1⟩ := laws_szCellS_small p0.Cells p1 h0 h1 g1 c1
  exact ⟨⟨trivial, s1, trivial⟩, b1, e1⟩
theorem laws_szSlotS_l1_eq (p0 : List Slot) (p1 : Int) : ∀ n s i, laws_szSlotS_l1 p0 p1 n s i = szL laws_szSlot p0 n s i := by
  intro n
  induction n with
  | zero => intro s i; rfl
  | succ n ih => intro s i; rw [laws_szSlotS_l1, szL, ih]
theorem laws_szSlotS_small (p0 : List Slot) (p1 : Int) (h0 : 0 ≤ p1) (h1 : p1 ≤ 1048576) (hg : Dat.good p0) (h : ¬ laws_szSlotS p0 p1 < 0) : Dat.small 1048576 p0 ∧ 0 ≤ laws_szSlotS p0 p1 ∧ laws_szSlotS p0 p1 ≤ 1048576 := by
  unfold laws_szSlotS at h ⊢
  rw [wrap_sub h0 h1 hg.1] at h ⊢
  have hc := no_neg h
  rw [decide_eq_false hc, cond_false, laws_szSlotS_l1_eq] at h ⊢
  obtain ⟨h2, h3, h4⟩ := szL_small (f := laws_szSlot) (xs := p0) laws_szSlot_small hg.2 _ _ 0 rfl (by omega) (by omega) h
  refine ⟨⟨by omega, fun x hx => ?_⟩, h3, h4⟩
  obtain ⟨j, hj⟩ := List.getElem?_of_mem hx
  exact h2 j x (Nat.zero_le _) hj
theorem laws_szJournal_small (p0 : Journal) (p1 : Int) (h0 : 0 ≤ p1) (h1 : p1 ≤ 1048576) (hg : Dat.good p0) (h : ¬ laws_szJournal p0 p1 < 0) : Dat.small 1048576 p0 ∧ 0 ≤ laws_szJournal p0 p1 ∧ laws_szJournal p0 p1 ≤ 1048576 := by
  unfold laws_szJournal at h ⊢
  obtain ⟨g0, g1⟩ := hg
  rw [wrap_sub (a := p1) h0 h1 (n := p0.Text.size) (good_str g0)] at h ⊢
  have c1 : ¬ (p1 - (p0.Text.size : Int)) < 0 := no_neg h
  rw [decide_eq_false c1, cond_false] at h ⊢
  have b1 : 0 ≤ (p1 - (p0.Text.size : Int)) := by omega
  have e1 : (p1 - (p0.Text.size : Int)) ≤ 1048576 := by omega
  have s0 : p0.Text.size ≤ 1048576 := by omega
  exact ⟨⟨s0, trivial⟩, b1, e1⟩
theorem laws_szDisk_small (p0 : Disk) (p1 : Int) (h0 : 0 ≤ p1) (h1 : p1 ≤ 1048576) (hg : Dat.good p0) (h : ¬ laws_szDisk p0 p1 < 0) : Dat.small 1048576 p0 ∧ 0 ≤ laws_szDisk p0 p1 ∧ laws_szDisk p0 p1 ≤ 1048576 := by
  unfold laws_szDisk at h ⊢
  obtain ⟨g0, g1⟩ := hg
  have c1 : ¬ (laws_szSlotS p0.Slots p1) < 0 := no_neg h
  rw [decide_eq_false c1, cond_false] at h ⊢
  obtain ⟨s0, b1, e1⟩ := laws_szSlotS_small p0.Slots p1 h0 h1 g0 c1
  have c2 : ¬ (laws_szJournal p0.Journal (laws_szSlotS p0.Slots p1)) < 0 := no_neg h
  rw [decide_eq_false c2, cond_false] at h ⊢
  obtain ⟨s1, b2, e2⟩ := laws_szJournal_small p0.Journal (laws_szSlotS p0.Slots p1) b1 e1 g1 c2
  exact ⟨⟨s0, s1⟩, b2, e2⟩
theorem laws_szStep_small (p0 : Step) (p1 : Int) (h0 : 0 ≤ p1) (h1 : p1 ≤ 1048576) (hg : Dat.good p0) (h : ¬ laws_szStep p0 p1 < 0) : Dat.small 1048576 p0 ∧ 0 ≤ laws_szStep p0 p1 ∧ laws_szStep p0 p1 ≤ 1048576 := by
  unfold laws_szStep at h ⊢
  obtain ⟨g0, g1⟩ := hg
  have c1 : ¬ (laws_szCall p0.Call p1) < 0 := no_neg h
  rw [decide_eq_false c1, cond_false] at h ⊢
  obtain ⟨s1, b1, e1⟩ := laws_szCall_small p0.Call p1 h0 h1 g1 c1
  exact ⟨⟨trivial, s1⟩, b1, e1⟩
theorem laws_szStepS_l1_eq (p0 : List Step) (p1 : Int) : ∀ n s i, laws_szStepS_l1 p0 p1 n s i = szL laws_szStep p0 n s i := by
  intro n
  induction n with
  | zero => intro s i; rfl
  | succ n ih => intro s i; rw [laws_szStepS_l1, szL, ih]
theorem laws_szStepS_small (p0 : List Step) (p1 : Int) (h0 : 0 ≤ p1) (h1 : p1 ≤ 1048576) (hg : Dat.good p0) (h : ¬ laws_szStepS p0 p1 < 0) : Dat.small 1048576 p0 ∧ 0 ≤ laws_szStepS p0 p1 ∧ laws_szStepS p0 p1 ≤ 1048576 := by
  unfold laws_szStepS at h ⊢
  rw [wrap_sub h0 h1 hg.1] at h ⊢
  have hc := no_neg h
  rw [decide_eq_false hc, cond_false, laws_szStepS_l1_eq] at h ⊢
  obtain ⟨h2, h3, h4⟩ := szL_small (f := laws_szStep) (xs := p0) laws_szStep_small hg.2 _ _ 0 rfl (by omega) (by omega) h
  refine ⟨⟨by omega, fun x hx => ?_⟩, h3, h4⟩
  obtain ⟨j, hj⟩ := List.getElem?_of_mem hx
  exact h2 j x (Nat.zero_le _) hj
theorem laws_szEntry_small (p0 : Entry) (p1 : Int) (h0 : 0 ≤ p1) (h1 : p1 ≤ 1048576) (hg : Dat.good p0) (h : ¬ laws_szEntry p0 p1 < 0) : Dat.small 1048576 p0 ∧ 0 ≤ laws_szEntry p0 p1 ∧ laws_szEntry p0 p1 ≤ 1048576 := by
  unfold laws_szEntry at h ⊢
  obtain ⟨g0, g1, g2, g3, g4, g5, g6, g7⟩ := hg
  have c1 : ¬ (laws_szStepS p0.Steps p1) < 0 := no_neg h
  rw [decide_eq_false c1, cond_false] at h ⊢
  obtain ⟨s3, b1, e1⟩ := laws_szStepS_small p0.Steps p1 h0 h1 g3 c1
  have c2 : ¬ (laws_szAnswerS p0.Answers (laws_szStepS p0.Steps p1)) < 0 := no_neg h
  rw [decide_eq_false c2, cond_false] at h ⊢
  obtain ⟨s4, b2, e2⟩ := laws_szAnswerS_small p0.Answers (laws_szStepS p0.Steps p1) b1 e1 g4 c2
  exact ⟨⟨trivial, trivial, trivial, s3, s4, trivial, trivial, trivial⟩, b2, e2⟩
theorem laws_szEntryS_l1_eq (p0 : List Entry) (p1 : Int) : ∀ n s i, laws_szEntryS_l1 p0 p1 n s i = szL laws_szEntry p0 n s i := by
  intro n
  induction n with
  | zero => intro s i; rfl
  | succ n ih => intro s i; rw [laws_szEntryS_l1, szL, ih]
theorem laws_szEntryS_small (p0 : List Entry) (p1 : Int) (h0 : 0 ≤ p1) (h1 : p1 ≤ 1048576) (hg : Dat.good p0) (h : ¬ laws_szEntryS p0 p1 < 0) : Dat.small 1048576 p0 ∧ 0 ≤ laws_szEntryS p0 p1 ∧ laws_szEntryS p0 p1 ≤ 1048576 := by
  unfold laws_szEntryS at h ⊢
  rw [wrap_sub h0 h1 hg.1] at h ⊢
  have hc := no_neg h
  rw [decide_eq_false hc, cond_false, laws_szEntryS_l1_eq] at h ⊢
  obtain ⟨h2, h3, h4⟩ := szL_small (f := laws_szEntry) (xs := p0) laws_szEntry_small hg.2 _ _ 0 rfl (by omega) (by omega) h
  refine ⟨⟨by omega, fun x hx => ?_⟩, h3, h4⟩
  obtain ⟨j, hj⟩ := List.getElem?_of_mem hx
  exact h2 j x (Nat.zero_le _) hj
theorem laws_szKernel_small (p0 : Kernel) (p1 : Int) (h0 : 0 ≤ p1) (h1 : p1 ≤ 1048576) (hg : Dat.good p0) (h : ¬ laws_szKernel p0 p1 < 0) : Dat.small 1048576 p0 ∧ 0 ≤ laws_szKernel p0 p1 ∧ laws_szKernel p0 p1 ≤ 1048576 := by
  unfold laws_szKernel at h ⊢
  obtain ⟨g0, g1, g2, g3, g4, g5, g6, g7, g8⟩ := hg
  have c1 : ¬ (laws_szCellS p0.Store p1) < 0 := no_neg h
  rw [decide_eq_false c1, cond_false] at h ⊢
  obtain ⟨s0, b1, e1⟩ := laws_szCellS_small p0.Store p1 h0 h1 g0 c1
  have c2 : ¬ (laws_szTxS p0.Txs (laws_szCellS p0.Store p1)) < 0 := no_neg h
  rw [decide_eq_false c2, cond_false] at h ⊢
  obtain ⟨s1, b2, e2⟩ := laws_szTxS_small p0.Txs (laws_szCellS p0.Store p1) b1 e1 g1 c2
  have c3 : ¬ (laws_szDisk p0.Disk (laws_szTxS p0.Txs (laws_szCellS p0.Store p1))) < 0 := no_neg h
  rw [decide_eq_false c3, cond_false] at h ⊢
  obtain ⟨s2, b3, e3⟩ := laws_szDisk_small p0.Disk (laws_szTxS p0.Txs (laws_szCellS p0.Store p1)) b2 e2 g2 c3
  have c4 : ¬ (laws_szEntryS p0.History (laws_szDisk p0.Disk (laws_szTxS p0.Txs (laws_szCellS p0.Store p1)))) < 0 := no_neg h
  rw [decide_eq_false c4, cond_false] at h ⊢
  obtain ⟨s6, b4, e4⟩ := laws_szEntryS_small p0.History (laws_szDisk p0.Disk (laws_szTxS p0.Txs (laws_szCellS p0.Store p1))) b3 e3 g6 c4
  have c5 : ¬ (laws_szStringS p0.Seen (laws_szEntryS p0.History (laws_szDisk p0.Disk (laws_szTxS p0.Txs (laws_szCellS p0.Store p1))))) < 0 := no_neg h
  rw [decide_eq_false c5, cond_false] at h ⊢
  obtain ⟨s7, b5, e5⟩ := laws_szStringS_small p0.Seen (laws_szEntryS p0.History (laws_szDisk p0.Disk (laws_szTxS p0.Txs (laws_szCellS p0.Store p1)))) b4 e4 g7 c5
  exact ⟨⟨s0, s1, s2, trivial, trivial, trivial, s6, s7, trivial⟩, b5, e5⟩
end Go.Proofs.YtnjidaonbcbphaaGreatDoor.Fw

/-
  The abstract machine: regions that draw their order, where ways meet again. No condition: every lemma is general in the program.
-/
namespace Go.Proofs.YtnjidaonbcbphaaGreatDoor.Fw
open Go.RowKit
set_option linter.unusedVariables false

theorem SubE_mem {f : List Nat} {E : List (Nat × En)} : ∀ {js : List Nat} {E2 : List (Nat × En)}, SubE f E js E2 → ∀ e ∈ E2, ∃ q e', f[e.1]? = some q ∧ e.2.ren f = some e' ∧ (q, e') ∈ E
  | [], [], _, _, h => by cases h
  | [], _ :: _, h, _, _ => h.elim
  | _ :: _, [], h, _, _ => h.elim
  | i :: is, (r, e) :: E2, h, x, hx => by
    obtain ⟨h1, h2⟩ := h
    rcases List.mem_cons.1 hx with rfl | hx
    · split at h1
      · rename_i q e' hq he
        exact ⟨q, e', nthF_spec hq, he, List.mem_of_getElem? (nthE_spec h1)⟩
      · exact h1.elim
    · exact SubE_mem h2 x hx
theorem renθ_pre {f : List Nat} {m0 : Nat} {θ0 η : List Loc} (hl : θ0.length = m0) (h0 : f.take m0 = List.range m0) : renθ f (θ0 ++ η) = θ0 ++ renθ (f.drop m0) (θ0 ++ η) := by
  conv => lhs; rw [← List.take_append_drop m0 f]
  unfold renθ
  rw [List.map_append, h0]
  congr 1
  subst hl
  apply List.ext_getElem?
  intro i
  rw [List.getElem?_map]
  rcases Nat.lt_or_ge i θ0.length with h | h
  · rw [List.getElem?_range h, Option.map_some, List.getD_eq_getElem?_getD, List.getElem?_append_left h, List.getElem?_eq_getElem h]
    rfl
  · rw [List.getElem?_eq_none (by rw [List.length_range]; exact h), List.getElem?_eq_none h]
    rfl
/-- From one state of a drawn region to another that follows from it. -/
theorem RunD.sub {c : Cx} {K : Act → World → Prop} {E0 : List (Nat × En)} {m0 : Nat} {ops : Array Oper} {n : Nat} {M : List (Nat × En)} {listed : Array Bool} {σ σ2 : St} (f is js : List Nat) (hs : Sub f is σ σ2) (hn : is.Nodup) (h0 : f.take m0 = List.range m0) (hM : SubE f M js M) (h : RunD c K E0 m0 ops n M listed σ2) : RunD c K E0 m0 ops n M listed σ := by
  intro θ0 η a w hl hR hS hB0 hF
  have hR2 := hR.sub hs hn
  rw [renθ_pre hl h0] at hR2
  refine h θ0 _ a w hl hR2 hS hB0 fun e he => ⟨?_, (hF e he).2⟩
  obtain ⟨q, e', hq, hr, hmem⟩ := SubE_mem hM e he
  have := En.ren_ok hq hr (hF _ hmem).1
  rw [renθ_pre hl h0] at this
  exact this
/-- A state that is proved first. -/
theorem RunD.cut {c : Cx} {K : Act → World → Prop} {E0 : List (Nat × En)} {m0 : Nat} {ops : Array Oper} {n : Nat} {M : List (Nat × En)} {listed : Array Bool} {σ : St} (n2 : Nat) (listed2 : Array Bool) (σ2 : St) (h : RunD c K E0 m0 ops n2 M listed2 σ2) (hk : RunD c K E0 m0 ops n2 M listed2 σ2 → RunD c K E0 m0 ops n M listed σ) : RunD c K E0 m0 ops n M listed σ := hk h
def RunDs (c : Cx) (K : Act → World → Prop) (E0 : List (Nat × En)) (m0 : Nat) (ops : Array Oper) (n : Nat) (M : List (Nat × En)) (listed : Array Bool) (σ : St) : List Nat → Prop
  | [] => True
  | i :: is => RunD1 c K E0 m0 ops n M listed σ i ∧ RunDs c K E0 m0 ops n M listed σ is
theorem RunDs.all {c : Cx} {K : Act → World → Prop} {E0 : List (Nat × En)} {m0 : Nat} {ops : Array Oper} {n : Nat} {M : List (Nat × En)} {listed : Array Bool} {σ : St} : ∀ {L : List Nat}, RunDs c K E0 m0 ops n M listed σ L → ∀ i ∈ L, RunD1 c K E0 m0 ops n M listed σ i
  | [], _, _, h => by cases h
  | j :: L, h, i, hi => by
    rcases List.mem_cons.1 hi with rfl | hi
    · exact h.1
    · exact RunDs.all h.2 i hi
theorem RunD.gd {c : Cx} {K : Act → World → Prop} {E0 : List (Nat × En)} {m0 : Nat} {ops : Array Oper} {n : Nat} {M : List (Nat × En)} {listed : Array Bool} {σ : St} (r : Nat) {α : Type} {d : Dat α} {xs : List α} (hp : payE σ.E r = some ⟨α, d, xs⟩) (h : (@instDatList α d).good xs → RunD c K E0 m0 ops n M listed σ) : RunD c K E0 m0 ops n M listed σ := by
  intro θ0 η a w hl hR hS hB0 hM
  obtain ⟨S, w1, hh⟩ := hR.heap
  refine h ?_ θ0 η a w hl hR hS hB0 hM
  rcases payE_spec hp with he | he
  · obtain ⟨l, hl, ho⟩ := hh.own he
    exact Dat.rd_good (α := List α) (B := fun _ => True) (w := w) (cs := [_]) ⟨_, rfl, ho.rd fun _ _ => trivial⟩
  · obtain ⟨l, hl, ho⟩ := hh.ok _ (lkE_mem he)
    exact Dat.rd_good (α := List α) (B := S) (w := w1) (cs := [_]) ⟨_, rfl, ho⟩
end Go.Proofs.YtnjidaonbcbphaaGreatDoor.Fw

/-
  The abstract machine: calls that write into a row that they are handed. No condition: every lemma is general in the program.
-/
namespace Go.Proofs.YtnjidaonbcbphaaGreatDoor.Fw
open Go.RowKit
set_option linter.unusedVariables false

/-- The contract of a function that turns the row that it is handed, with a number beside it, and hands back a number. -/
def CTU (P : Program) (f : FuncId) {α : Type} (dα : Dat α) (p0 : List α) (k : Int) (y : List α) (k' : Int) : Prop :=
  ∀ (v0 : Value) (F0 : List Nat) (w : World), SH (Off [Ck.own (α := List α) [v0] p0 F0] w) w w [Ck.own (α := List α) [v0] p0 F0] →
    Calls P f [v0, .int .i64 k].toArray w (fun e w' => e = .returned (.int .i64 k') ∧ I64 k' ∧ ∃ F', SH (Off [Ck.own (α := List α) [v0] p0 F0] w) w w' [Ck.own (α := List α) [v0] y F'])

section
variable {c : Cx} {σ : St} {all : Array Oper} {ty : TypeId} {pos : String} {after : Array Edge} {d : Nat}
theorem OpS.mut {α : Type} {dα : Dat α} {k k' : Int} {p0 y : List α} {f : FuncId} {x : Operand} {xs : Array Operand} {ts : Array TypeId} {r len : Nat} (hct : CTU c.P f dα p0 k y k') (hfn : FnOk c.P f) (hx : ev σ.ρ x = some (.fn f [])) (hev : evs σ.ρ xs.toList = some [.sl r len, .v (.int .i64 k)]) (hr : lkE σ.E r = some (.own α dα p0)) (hl : len = p0.length) (hd : Nat.blt d σ.n = true) :
    OpSg c σ all ⟨some d, .call { callee := .value x, args := xs, argTypes := ts }, ty, pos, after, none⟩ (put d (.v (.int .i64 k')) (afterStE σ r dα y [])) (I64 k' ∧ p0.length = y.length) :=
  OpSg.of fun θ a w h K Q hK => by
    subst hl
    obtain ⟨us, hus, hm⟩ := h.env.evsL hev
    obtain ⟨S, w1, hh⟩ := h.heap
    obtain ⟨fn, hf, hb, hn⟩ := hfn
    have hn' : ¬ fn.name = "runtime.NumGoroutine" := by simpa using hn
    have hb' : ¬ fn.body = none := by intro e; rw [e] at hb; cases hb
    have hxc := h.env.con hx
    simp only [V.con, Option.map_eq_some_iff] at hxc
    obtain ⟨capt, hcapt, hfv⟩ := hxc
    have hcap : capt = [] := by
      have : some ([] : List Value) = some capt := hcapt
      cases this; rfl
    subst hcap
    have hmm : xs.map a.eval = us.toArray := by
      apply Array.toList_inj.1
      rw [Array.toList_map, Fw.evals h.env.env hm]
    obtain ⟨l, hlo, hown⟩ := hh.own hr
    have hu : us = [.slice l.A p0.length l.cap, .int .i64 k] := by
      have h1 : conL θ [.sl r p0.length, .v (.int .i64 k)] = some [.slice l.A p0.length l.cap, .int .i64 k] := by
        simp only [conL, V.con, hlo]
      rw [h1] at hus
      cases hus
      rfl
    subst hu
    unfold Oper.wp
    have : (execOp a.eval ⟨some d, .call { callee := .value x, args := xs, argTypes := ts }, ty, pos, after, none⟩).run c.P w = .ok (.enter f [Value.slice l.A p0.length l.cap, .int .i64 k].toArray) w := by
      simp [execOp, resolve, hmm, ← hfv, Deferred.ofValue, invoke, callFunc, hf, hn', hb']
    rw [this, Oper.upon_enter]
    -- the row alone
    have hck := hh.sh.ok _ (List.mem_map.2 ⟨_, lkE_mem hr, rfl⟩)
    have hge := hh.sh.ge _ (List.mem_map.2 ⟨_, lkE_mem hr, rfl⟩)
    have hlF : ((En.own α dα p0).ck θ r).F = l.F := locF_of hlo
    have hnd : l.F.Nodup := by
      obtain ⟨i, hi⟩ := List.getElem?_of_mem (List.mem_map.2 ⟨_, lkE_mem hr, rfl⟩ : (En.own α dα p0).ck θ r ∈ σ.E.map fun e => e.2.ck θ e.1)
      have := (nodup_flatMap_iff.1 hh.sh.apart).1 i _ hi
      rwa [hlF] at this
    let c0 : Ck := Ck.own (α := List α) [.slice l.A p0.length l.cap] p0 l.F
    have hc0 : SH (Off [c0] w) w w [c0] := by
      refine ⟨Keep.refl _ _, fun b hb => hb.1, fun x hx => ?_, fun x hx b hb => ?_, ?_⟩
      · obtain rfl := List.mem_singleton.1 hx
        intro w2 hw2
        obtain ⟨l2, hl2, ho⟩ := hck w2 (by rw [hlF]; exact hw2)
        rw [hlo] at hl2
        cases hl2
        exact ⟨_, rfl, ho⟩
      · obtain rfl := List.mem_singleton.1 hx
        refine ⟨fun ho => ho.2 (List.mem_flatMap.2 ⟨c0, List.mem_singleton.2 rfl, hb⟩), (hge b (by rw [hlF]; exact hb)).2⟩
      · rw [List.flatMap_cons, List.flatMap_nil, List.append_nil]
        exact hnd
    refine (hct _ l.F w hc0).mono fun e w' he => ?_
    obtain ⟨rfl, hi, F', hs⟩ := he
    have hyO : SlO w' (.slice l.A p0.length l.cap) y F' := hs.slO (k := 0) rfl
    have hlen : y.length = p0.length := by
      rcases hyO with ⟨e1, e2, _⟩ | ⟨g, cap, arr, T, Fs, e1, e2, e3, _⟩
      · injection e1 with _ e1b _
        rw [e2, e1b]
        rfl
      · injection e1 with _ e1b _
        exact e1b.symm
    let l' : Loc := ⟨l.A, l.cap, F'⟩
    have hg' : (θ ++ [l'])[σ.m]? = some l' := by rw [← h.len]; exact get_mid
    have hgr := get_ext (θ' := [l']) hlo
    have hon : ownN σ.E r := ⟨⟨α, dα, p0⟩, by unfold payOE; rw [hr]; rfl⟩
    have hFt : ∀ b ∈ l.F, b ∈ (takeE [r] σ.E).flatMap (fun e => (e.2.ck (θ ++ [l']) e.1).F) := fun b hb => takeE_own (List.mem_singleton.2 rfl) hon (by rw [locF_of hgr]; exact hb)
    have hfuse := (hh.ext (θ' := [l'])).fuse [r] (p := (σ.m, En.own α dα y)) (w' := w') hs.keep.os hs.keep.tape hs.keep.output hs.keep.size (fun b hbl hbn => hs.keep.block b ⟨hbl, fun hm => by
      obtain ⟨x, hx, hbx⟩ := List.mem_flatMap.1 hm
      obtain rfl := List.mem_singleton.1 hx
      exact hbn (hFt b hbx)⟩) ?_ ?_ ?_ trivial
    · have hR : R c (θ ++ [l']) (afterStE σ r dα y []) a w' := ⟨by rw [List.length_append, h.len]; rfl, (h.env.ext (θ' := [l'])).rn hgr hg' rfl rfl, S, w1, hfuse.rn hgr hg' rfl rfl⟩
      exact hK [l'] _ _ (hR.put hd rfl) ⟨hi, hlen.symm⟩
    · intro w2 hw2
      have hF2 : ((En.own α dα y).ck (θ ++ [l']) σ.m).F = F' := locF_of hg'
      have hok := hs.ok _ (List.mem_singleton.2 rfl) w2 (fun b hb => hw2 b (by rw [hF2]; exact hb))
      obtain ⟨v, hv, ho⟩ := hok
      cases hv
      refine ⟨l', hg', ?_⟩
      rw [hlen]
      exact ho
    · intro b hb
      have hb' : b ∈ F' := by
        have : b ∈ locF (θ ++ [l']) σ.m := hb
        rwa [locF_of hg'] at this
      have h1 := hs.ge _ (List.mem_singleton.2 rfl) b hb'
      refine ⟨?_, h1.2⟩
      rcases Nat.lt_or_ge b w.heap.size with hlt | hge'
      · refine .inl (Classical.byContradiction fun hn => h1.1 ⟨hlt, fun hm => ?_⟩)
        obtain ⟨x, hx, hbx⟩ := List.mem_flatMap.1 hm
        obtain rfl := List.mem_singleton.1 hx
        exact hn (hFt b hbx)
      · exact .inr hge'
    · show (locF _ σ.m).Nodup
      rw [locF_of hg']
      have := hs.apart
      rw [List.flatMap_cons, List.flatMap_nil, List.append_nil] at this
      exact this
end
end Go.Proofs.YtnjidaonbcbphaaGreatDoor.Fw

/-
  The abstract machine: a literal of rows that are one's own becomes a row of rows. No condition: every lemma is general in the program.
-/
namespace Go.Proofs.YtnjidaonbcbphaaGreatDoor.Fw
open Go.RowKit
set_option linter.unusedVariables false

def ownL (E : List (Nat × En)) (r : Nat) : Prop := ∃ e, lkE E r = some e ∧ ∀ θ, (e.ck θ r).F = locF θ r
theorem RH.nodupL {c : Cx} {θ : List Loc} {E : List (Nat × En)} {S : Nat → Prop} {w1 w : World} (h : RH c θ E S w1 w) : ∀ {rs : List Nat}, rs.Nodup → (∀ r ∈ rs, ownL E r) → (rs.flatMap (locF θ)).Nodup
  | [], _, _ => by simp
  | r :: rs, hn, ho => by
    have h1 := h.nodupL (List.nodup_cons.1 hn).2 fun r hr => ho r (by simp [hr])
    have hap := nodup_flatMap_iff.1 h.sh.apart
    have key : ∀ r, ownL E r → ∃ i : Nat, ∃ e, E[i]? = some (r, e) ∧ (e.ck θ r).F = locF θ r := by
      intro r ⟨e, he, hF⟩
      obtain ⟨i, hi, _⟩ := lkE_get he
      exact ⟨i, _, hi, hF θ⟩
    obtain ⟨i, e, hi, hF⟩ := key r (ho r (by simp))
    have hLi : (E.map fun e => e.2.ck θ e.1)[i]? = some (e.ck θ r) := by rw [List.getElem?_map, hi]; rfl
    rw [List.flatMap_cons]
    refine List.nodup_append.2 ⟨by rw [← hF]; exact hap.1 i _ hLi, h1, fun a ha b hb hab => ?_⟩
    subst hab
    obtain ⟨r', hr', hb'⟩ := List.mem_flatMap.1 hb
    obtain ⟨j, e', hj, hF'⟩ := key r' (ho r' (by simp [hr']))
    have hLj : (E.map fun e => e.2.ck θ e.1)[j]? = some (e'.ck θ r') := by rw [List.getElem?_map, hj]; rfl
    refine hap.2 i j _ _ hLi hLj ?_ a (by rw [hF]; exact ha) (by rw [hF']; exact hb')
    intro e
    subst e
    rw [hi] at hj
    cases hj
    exact (List.nodup_cons.1 hn).1 hr'
def rowsOk (E : List (Nat × En)) (β : Type) (dβ : Dat β) : List V → List (List β) → List Nat → Prop
  | [], [], [] => True
  | .sl r n :: cs, xs :: ys, q :: rs => (r = q ∧ lkE E r = some (.own β dβ xs) ∧ n = xs.length) ∧ rowsOk E β dβ cs ys rs
  | _, _, _ => False
theorem rowsOk_get {E : List (Nat × En)} {β : Type} {dβ : Dat β} : ∀ {cs : List V} {ys : List (List β)} {rs : List Nat}, rowsOk E β dβ cs ys rs → cs.length = ys.length ∧ rs.length = ys.length ∧ (∀ r ∈ rs, ∃ xs : List β, lkE E r = some (.own β dβ xs)) ∧ ∀ (i : Nat) x, ys[i]? = some x → ∃ r, rs[i]? = some r ∧ lkE E r = some (.own β dβ x) ∧ cs[i]? = some (.sl r x.length)
  | [], [], [], _ => ⟨rfl, rfl, (fun _ h => by cases h), fun i x h => by simp at h⟩
  | .sl r n :: cs, xs :: ys, q :: rs, h => by
    obtain ⟨⟨rfl, h1, rfl⟩, h2⟩ := h
    obtain ⟨a, b, c, d⟩ := rowsOk_get h2
    refine ⟨by simp [a], by simp [b], fun r' hr' => ?_, fun i x hx => ?_⟩
    · rcases List.mem_cons.1 hr' with rfl | hr'
      · exact ⟨_, h1⟩
      · exact c _ hr'
    · cases i with
      | zero =>
        have e : xs = x := by simpa using hx
        subst e
        exact ⟨r, rfl, h1, rfl⟩
      | succ i => exact d i x (by simpa using hx)
theorem conL_at {θ : List Loc} : ∀ {cs : List V} {us : List Value}, conL θ cs = some us → us.length = cs.length ∧ ∀ (i : Nat) v, cs[i]? = some v → ∃ u, us[i]? = some u ∧ v.con θ = some u
  | [], us, h => by
    have e : some ([] : List Value) = some us := h
    cases e
    exact ⟨rfl, fun i v h => by simp at h⟩
  | v :: cs, us, h => by
    simp only [conL] at h
    cases h1 : v.con θ with
    | none => rw [h1] at h; simp at h
    | some u =>
      cases h2 : conL θ cs with
      | none => rw [h1, h2] at h; simp at h
      | some us2 =>
        rw [h1, h2] at h
        simp only [Option.some.injEq] at h
        subst h
        obtain ⟨a, b⟩ := conL_at h2
        refine ⟨by simp [a], fun i x hx => ?_⟩
        cases i with
        | zero =>
          have e : v = x := by simpa using hx
          subst e
          exact ⟨u, rfl, h1⟩
        | succ i => exact b i x (by simpa using hx)

theorem R.litN {c : Cx} {θ : List Loc} {σ : St} {a : Act} {w : World} {β : Type} {dβ : Dat β} {q : Nat} {ys : List (List β)} {rs : List Nat} {cs : List V} {T n : Nat} (h : R c θ σ a w) (he : lkE σ.E q = some (.lit cs T n)) (hr : rowsOk σ.E β dβ cs ys rs) (hl : ys.length = n) (hm : n ≤ 1000) (hnd : (q :: rs).Nodup) : ∃ l', R c (θ ++ [l']) (afterStE σ q (@instDatList β dβ) ys rs) a w := by
  subst hl
  obtain ⟨S, w1, hh⟩ := h.heap
  obtain ⟨lq, bq, ccs, ⟨q1, q1'⟩, q2, q3, q4, q5⟩ := (hh.sh.ok _ (List.mem_map.2 ⟨_, lkE_mem he, rfl⟩)).here
  simp only at q1
  obtain ⟨g1, g2, g3, g4⟩ := rowsOk_get hr
  have hcl : ccs.length = ys.length := (conL_length q4).trans g1
  let l' : Loc := ⟨lq.A, lq.cap, bq :: (rs.map (locF θ)).flatten⟩
  refine ⟨l', ?_⟩
  have hg' : (θ ++ [l'])[σ.m]? = some l' := by rw [← h.len]; exact get_mid
  have hgr := get_ext (θ' := [l']) q1
  have hoL : ∀ r ∈ q :: rs, ownL σ.E r := by
    intro r hr
    rcases List.mem_cons.1 hr with rfl | hr
    · exact ⟨_, he, fun _ => rfl⟩
    · obtain ⟨xs, hx⟩ := g3 r hr
      exact ⟨_, hx, fun _ => rfl⟩
  have hnod := hh.nodupL hnd hoL
  rw [List.flatMap_cons, locF_of q1, q3] at hnod
  have hex := hh.ext (θ' := [l'])
  have hck : ∀ r ∈ rs, ∃ xs : List β, lkE σ.E r = some (.own β dβ xs) := g3
  have hFin : ∀ b ∈ l'.F, b ∈ (takeE (q :: rs) σ.E).flatMap (fun e => (e.2.ck (θ ++ [l']) e.1).F) := by
    intro b hb
    rcases List.mem_cons.1 hb with rfl | hb
    · exact List.mem_flatMap.2 ⟨_, takeE_mem (lkE_mem he) (memN_of (by simp)), by show b ∈ locF _ _; rw [locF_of hgr, q3]; simp⟩
    · obtain ⟨F, hF, hbF⟩ := List.mem_flatten.1 hb
      obtain ⟨r, hr, rfl⟩ := List.mem_map.1 hF
      obtain ⟨xs, hx⟩ := g3 r hr
      obtain ⟨l2, hl2, _⟩ := hh.own hx
      refine List.mem_flatMap.2 ⟨_, takeE_mem (lkE_mem hx) (memN_of (by simp [hr])), ?_⟩
      show b ∈ locF _ _
      rw [locF_of (get_ext hl2)]
      rwa [locF_of hl2] at hbF
  have hlt : ∀ b ∈ l'.F, b < w.heap.size := by
    intro b hb
    rcases List.mem_cons.1 hb with rfl | hb
    · exact (Array.getElem?_eq_some_iff.1 q5).1
    · obtain ⟨F, hF, hbF⟩ := List.mem_flatten.1 hb
      obtain ⟨r, hr, rfl⟩ := List.mem_map.1 hF
      obtain ⟨xs, hx⟩ := g3 r hr
      exact (hh.sh.ge _ (List.mem_map.2 ⟨_, lkE_mem hx, rfl⟩) b hbF).2
  have hfuse := hex.fuse (q :: rs) (p := (σ.m, En.own (List β) (@instDatList β dβ) ys)) (w' := w) rfl rfl rfl (Nat.le_refl _) (fun _ _ _ => rfl) ?_ ?_ ?_ trivial
  · exact ⟨by rw [List.length_append, h.len]; rfl, (h.env.ext (θ' := [l'])).rn hgr hg' rfl rfl, S, w1, hfuse.rn hgr hg' rfl rfl⟩
  · intro w2 hw2
    have hF' : ((En.own (List β) (@instDatList β dβ) ys).ck (θ ++ [l']) σ.m).F = l'.F := locF_of hg'
    rw [hF'] at hw2
    refine ⟨l', hg', .inr ⟨bq, lq.cap, ccs.toArray, T, rs.map (locF θ), by simp only [l', q2], ?_, by rw [q1']; exact Nat.le_refl _, by rw [q1']; unfold maxLen; omega, ?_, rfl, by rw [List.length_map]; exact g2, fun i x hi => ?_⟩⟩
    · exact (hw2 bq (by simp [l'])).trans q5
    · rw [q1', List.size_toArray, hcl]
      exact Nat.le_of_eq (Nat.mul_one _)
    · obtain ⟨r, hri, hx, hci⟩ := g4 i x hi
      obtain ⟨u, hu, huc⟩ := conL_get q4 hci
      obtain ⟨l2, hl2, _⟩ := hh.own hx
      refine ⟨locF θ r, by rw [List.getElem?_map, hri]; rfl, ?_⟩
      have hsl := hh.sh.ok _ (List.mem_map.2 ⟨_, lkE_mem hx, rfl⟩) w2 (fun b hb => hw2 b (List.mem_cons_of_mem _ (List.mem_flatten.2 ⟨locF θ r, List.mem_map.2 ⟨r, List.mem_of_getElem? hri, rfl⟩, hb⟩)))
      obtain ⟨l3, hl3, hso⟩ := hsl
      rw [hl2] at hl3
      cases hl3
      simp only [V.con, hl2, Option.some.injEq] at huc
      have e : ((ccs.toArray.toList.drop (i * Dat.sz (List β))).take (Dat.sz (List β))) = [u] := by
        show ((ccs.drop (i * 1)).take 1) = [u]
        rw [Nat.mul_one]
        obtain ⟨hi2, hx2⟩ := List.getElem?_eq_some_iff.1 hu
        rw [List.drop_eq_getElem_cons hi2, hx2]
        rfl
      rw [e, ← huc, locF_of hl2]
      exact ⟨_, rfl, hso⟩
  · intro b hb
    have hb' : b ∈ l'.F := by
      have : b ∈ locF (θ ++ [l']) σ.m := hb
      rwa [locF_of hg'] at this
    exact ⟨.inl (hFin b hb'), hlt b hb'⟩
  · show (locF _ σ.m).Nodup
    rw [locF_of hg']
    show (bq :: (rs.map (locF θ)).flatten).Nodup
    rw [← List.flatMap_def]
    exact hnod
theorem Run.litN {c : Cx} {res : List Re} {σ : St} {k : List It} (q : Nat) {β : Type} {dβ : Dat β} (ys : List (List β)) (rs : List Nat) {cs : List V} {T n : Nat} (he : lkE σ.E q = some (.lit cs T n)) (hr : rowsOk σ.E β dβ cs ys rs) (hl : ys.length = n) (hm : n ≤ 1000) (hnd : (q :: rs).Nodup) (h : Run c res (afterStE σ q (@instDatList β dβ) ys rs) k) : Run c res σ k := by
  intro θ a w hR
  obtain ⟨l', hR'⟩ := hR.litN he hr hl hm hnd
  exact h _ a w hR'
theorem RunD.litN {c : Cx} {K : Act → World → Prop} {E0 : List (Nat × En)} {m0 : Nat} {ops : Array Oper} {N : Nat} {M : List (Nat × En)} {listed : Array Bool} {σ : St} (q : Nat) {β : Type} {dβ : Dat β} (ys : List (List β)) (rs : List Nat) {cs : List V} {T n : Nat} (he : lkE σ.E q = some (.lit cs T n)) (hr : rowsOk σ.E β dβ cs ys rs) (hl : ys.length = n) (hm : n ≤ 1000) (hnd : (q :: rs).Nodup) (h : RunD c K E0 m0 ops N M listed (afterStE σ q (@instDatList β dβ) ys rs)) : RunD c K E0 m0 ops N M listed σ := by
  intro θ0 η a w hl0 hR hS hB0 hM
  obtain ⟨l', hR'⟩ := hR.litN he hr hl hm hnd
  rw [List.append_assoc] at hR'
  exact h θ0 (η ++ [l']) a w hl0 hR' hS hB0 (by rw [← List.append_assoc]; exact hM.ext)
/-- A flat literal becomes a row, in a region that draws its order. -/
theorem RunD.lit {c : Cx} {K : Act → World → Prop} {E0 : List (Nat × En)} {m0 : Nat} {ops : Array Oper} {N : Nat} {M : List (Nat × En)} {listed : Array Bool} {σ : St} (r : Nat) {α : Type} {d : Dat α} [s : @Str α d] (ys : List α) {cs : List V} {T n : Nat} (he : lkE σ.E r = some (.lit cs T n)) (hl : ys.length = n) (hm : Nat.ble n 1000 = true) (hn : V.names.namesL cs = []) (ho : ElOk σ.E (Dat.sz α) d s.fk ys cs) (h : RunD c K E0 m0 ops N M listed ⟨σ.n, σ.m, σ.ρ, putE r (r, .own α d ys) σ.E⟩) : RunD c K E0 m0 ops N M listed σ := by
  intro θ0 η a w hl0 hR hS hB0 hM
  obtain ⟨S, w1, hh⟩ := hR.heap
  exact h θ0 η a w hl0 ⟨hR.len, hR.env, S, w1, hh.lit he s hl (by have := Nat.le_of_ble_eq_true hm; unfold maxLen; omega) hn ho⟩ hS hB0 hM
end Go.Proofs.YtnjidaonbcbphaaGreatDoor.Fw

/-
  The steps of regions that draw their order, where ways meet again. No condition.
-/
namespace Go.Proofs.YtnjidaonbcbphaaGreatDoor.Fw
open Go.RowKit
set_option linter.unusedVariables false
set_option maxRecDepth 100000
section
variable {fn : Func} {Bz : Bs} {S1 : Nat → Prop} {w1 : World} {hk1 : Keep Bz.S0 Bz.w w1} {hs1 : ∀ b, Bz.S0 b → S1 b} {hd1 : ∀ b, S1 b → b < w1.heap.size} {K : Act → World → Prop} {E0 : List (Nat × En)} {m0 : Nat} {ops : Array Oper} {n : Nat} {M : List (Nat × En)} {listed : Array Bool} {σ σ' : St}
theorem dcut {P : Prop} (nn n2 : Nat) (is2 : List Nat) (σ2 : St) (h : P → RunD (cx fn Bz S1 w1 hk1 hs1 hd1) K E0 m0 ops n2 M (setAll (Array.replicate nn false) is2) σ2) (hk : (P → RunD (cx fn Bz S1 w1 hk1 hs1 hd1) K E0 m0 ops n2 M (setAll (Array.replicate nn false) is2) σ2) → RunD (cx fn Bz S1 w1 hk1 hs1 hd1) K E0 m0 ops n M listed σ) : RunD (cx fn Bz S1 w1 hk1 hs1 hd1) K E0 m0 ops n M listed σ := hk h
theorem dAt {listed2 : Array Bool} {σ2 : St} (f is js : List Nat) (r : RunD (cx fn Bz S1 w1 hk1 hs1 hd1) K E0 m0 ops n M listed2 σ2) (hs : Sub f is σ σ2) (hl : listed = listed2 := by kernel_rfl) (hn : is.Nodup := by decide) (h0 : f.take m0 = List.range m0 := by rfl) (hM : SubE f M js M := by dsimp only [SubE, V.ren, renL, En.ren, nthE, nthF, lk, cond, Nat.beq, Nat.pred]; (repeat' apply And.intro) <;> first | rfl | exact trivial) : RunD (cx fn Bz S1 w1 hk1 hs1 hd1) K E0 m0 ops n M listed σ := by
  subst hl
  exact RunD.sub f is js hs hn h0 hM r
theorem oL (L : List Nat) {n' : Nat} (h : RunDs (cx fn Bz S1 w1 hk1 hs1 hd1) K E0 m0 ops n M listed σ L) (hn : n' = n + 1 := by rfl) (hr : Region.ready .any ops listed = L := by kernel_rfl) (hL : L ≠ [] := by simp) : RunD (cx fn Bz S1 w1 hk1 hs1 hd1) K E0 m0 ops n' M listed σ := by
  subst hn
  exact RunD.alts hr hL (RunDs.all h)
theorem gD (r : Nat) {α : Type} {d : Dat α} {xs : List α} (h : (@instDatList α d).good xs → RunD (cx fn Bz S1 w1 hk1 hs1 hd1) K E0 m0 ops n M listed σ) (hp : payE σ.E r = some ⟨α, d, xs⟩ := by rfl) : RunD (cx fn Bz S1 w1 hk1 hs1 hd1) K E0 m0 ops n M listed σ := RunD.gd r hp h
theorem lN {fn : Func} {Bz : Bs} {S1 : Nat → Prop} {w1 : World} {hk1 : Keep Bz.S0 Bz.w w1} {hs1 : ∀ b, Bz.S0 b → S1 b} {hd1 : ∀ b, S1 b → b < w1.heap.size} {res : List Re} {k : List It} {σ σ' : St} (q : Nat) {β : Type} {dβ : Dat β} (ys : List (List β)) (rs : List Nat) {cs : List V} {T n : Nat} (h : Run (cx fn Bz S1 w1 hk1 hs1 hd1) res σ' k) (he : lkE σ.E q = some (.lit cs T n) := by dsimp only [ev, evs, evsG, cons2, lk, lkE, cond, Nat.beq, evG, stO', V.strip, grd, grdO, nthO, gB, gBV, Nat.pred, wnt, List.toList_toArray, List.cons_append, List.nil_append, List.append_nil]) (hr : rowsOk σ.E β dβ cs ys rs := by dsimp only [rowsOk, lkE, cond, Nat.beq]; (repeat' apply And.intro) <;> first | rfl | trivial | assumption) (hl : ys.length = n := by rfl) (hm : n ≤ 1000 := by decide) (hnd : (q :: rs).Nodup := by decide) (hs : afterStE σ q (@instDatList β dβ) ys rs = σ' := by dsimp only [afterCall, afterM, afterAppN, setV, fwE, En.fw, V.fw, fwL, nthG, pickE, consO, nthE, Nat.pred, afterIdx, afterIdxM, afterRos, afterStE, rnR, rnE, V.rn, rnL, En.rn, dropE, memN, V.names.namesL, V.names, afterApp, afterApp0, put, putE, setE, packV, bindRs, bindR, opn, nsl, id, cond, Nat.beq, Nat.reduceAdd, Nat.add_zero, Nat.zero_add, List.cons_append, List.nil_append, List.append_nil, List.append, List.length_cons, List.length_nil, Str.fk]) : Run (cx fn Bz S1 w1 hk1 hs1 hd1) res σ k := Run.litN q ys rs he hr hl hm hnd (by rw [hs]; exact h)
theorem lND (q : Nat) {β : Type} {dβ : Dat β} (ys : List (List β)) (rs : List Nat) {cs : List V} {T n0 : Nat} (h : RunD (cx fn Bz S1 w1 hk1 hs1 hd1) K E0 m0 ops n M listed σ') (he : lkE σ.E q = some (.lit cs T n0) := by dsimp only [ev, evs, evsG, cons2, lk, lkE, cond, Nat.beq, evG, stO', V.strip, grd, grdO, nthO, gB, gBV, Nat.pred, wnt, List.toList_toArray, List.cons_append, List.nil_append, List.append_nil]) (hr : rowsOk σ.E β dβ cs ys rs := by dsimp only [rowsOk, lkE, cond, Nat.beq]; (repeat' apply And.intro) <;> first | rfl | trivial | assumption) (hl : ys.length = n0 := by rfl) (hm : n0 ≤ 1000 := by decide) (hnd : (q :: rs).Nodup := by decide) (hs : afterStE σ q (@instDatList β dβ) ys rs = σ' := by dsimp only [afterCall, afterM, afterAppN, setV, fwE, En.fw, V.fw, fwL, nthG, pickE, consO, nthE, Nat.pred, afterIdx, afterIdxM, afterRos, afterStE, rnR, rnE, V.rn, rnL, En.rn, dropE, memN, V.names.namesL, V.names, afterApp, afterApp0, put, putE, setE, packV, bindRs, bindR, opn, nsl, id, cond, Nat.beq, Nat.reduceAdd, Nat.add_zero, Nat.zero_add, List.cons_append, List.nil_append, List.append_nil, List.append, List.length_cons, List.length_nil, Str.fk]) : RunD (cx fn Bz S1 w1 hk1 hs1 hd1) K E0 m0 ops n M listed σ := RunD.litN q ys rs he hr hl hm hnd (by rw [hs]; exact h)
theorem liD (r : Nat) {α : Type} {d : Dat α} [s : @Str α d] (ys : List α) {cs : List V} {T n0 : Nat} {E' : List (Nat × En)} (h : RunD (cx fn Bz S1 w1 hk1 hs1 hd1) K E0 m0 ops n M listed ⟨σ.n, σ.m, σ.ρ, E'⟩) (he : lkE σ.E r = some (.lit cs T n0) := by dsimp only [ev, evs, evsG, cons2, lk, lkE, cond, Nat.beq, evG, stO', V.strip, grd, grdO, nthO, gB, gBV, Nat.pred, wnt, List.toList_toArray, List.cons_append, List.nil_append, List.append_nil]) (ho : ElOk σ.E (Dat.sz α) d s.fk ys cs := by dsimp only [ElOk, SlOwn, payOE, En.payO, lkE, cond, Nat.beq, FkO, agC, List.map, Str.fk, id, List.take, List.drop, List.take_succ_cons, List.drop_succ_cons, List.take_zero, List.drop_zero]; repeat' (first | assumption | exact gi _ | exact gs _ | rfl | exact trivial | apply And.intro | omega)) (hl : ys.length = n0 := by rfl) (hm : Nat.ble n0 1000 = true := by rfl) (hn : V.names.namesL cs = [] := by rfl) (hs : putE r (r, .own α d ys) σ.E = E' := by dsimp only [afterCall, afterM, afterAppN, setV, fwE, En.fw, V.fw, fwL, nthG, pickE, consO, nthE, Nat.pred, afterIdx, afterIdxM, afterRos, afterStE, rnR, rnE, V.rn, rnL, En.rn, dropE, memN, V.names.namesL, V.names, afterApp, afterApp0, put, putE, setE, packV, bindRs, bindR, opn, nsl, id, cond, Nat.beq, Nat.reduceAdd, Nat.add_zero, Nat.zero_add, List.cons_append, List.nil_append, List.append_nil, List.append, List.length_cons, List.length_nil, Str.fk]) : RunD (cx fn Bz S1 w1 hk1 hs1 hd1) K E0 m0 ops n M listed σ := RunD.lit r ys he hl hm hn ho (by rw [hs]; exact h)
theorem d2 {i : Nat} {is : List Nat} (h1 : RunD1 (cx fn Bz S1 w1 hk1 hs1 hd1) K E0 m0 ops n M listed σ i) (h2 : RunDs (cx fn Bz S1 w1 hk1 hs1 hd1) K E0 m0 ops n M listed σ is) : RunDs (cx fn Bz S1 w1 hk1 hs1 hd1) K E0 m0 ops n M listed σ (i :: is) := ⟨h1, h2⟩
theorem d0 : RunDs (cx fn Bz S1 w1 hk1 hs1 hd1) K E0 m0 ops n M listed σ [] := trivial
end
section
variable {fn : Func} {Bz : Bs} {S1 : Nat → Prop} {w1 : World} {hk1 : Keep Bz.S0 Bz.w w1} {hs1 : ∀ b, Bz.S0 b → S1 b} {hd1 : ∀ b, S1 b → b < w1.heap.size} {σ σ' : St} {all : Array Oper} {ty : TypeId} {pos : String} {after : Array Edge} {d : Nat}
theorem mu {α : Type} {dα : Dat α} {f : FuncId} {r len : Nat} {x : Operand} {xs : Array Operand} {ts : Array TypeId} {k k' : Int} {p0 y : List α} (hct : CTU Tryz.prog f dα p0 k y k') (hfn : FnOk Tryz.prog f) (hx : ev σ.ρ x = some (.fn f []) := by dsimp only [ev, evs, evsG, cons2, lk, lkE, cond, Nat.beq, evG, stO', V.strip, grd, grdO, nthO, gB, gBV, Nat.pred, wnt, List.toList_toArray, List.cons_append, List.nil_append, List.append_nil]) (hev : evs σ.ρ xs.toList = some [.sl r len, .v (.int .i64 k)] := by dsimp only [ev, evs, evsG, cons2, lk, lkE, cond, Nat.beq, evG, stO', V.strip, grd, grdO, nthO, gB, gBV, Nat.pred, wnt, List.toList_toArray, List.cons_append, List.nil_append, List.append_nil]) (hr : lkE σ.E r = some (.own α dα p0) := by dsimp only [ev, evs, evsG, cons2, lk, lkE, cond, Nat.beq, evG, stO', V.strip, grd, grdO, nthO, gB, gBV, Nat.pred, wnt, List.toList_toArray, List.cons_append, List.nil_append, List.append_nil]) (hl : len = p0.length := by first | rfl | assumption) (hd : Nat.blt d σ.n = true := by rfl) :
    OpSg (cx fn Bz S1 w1 hk1 hs1 hd1) σ all ⟨some d, .call { callee := .value x, args := xs, argTypes := ts }, ty, pos, after, none⟩ (put d (.v (.int .i64 k')) (afterStE σ r dα y [])) (I64 k' ∧ p0.length = y.length) := OpS.mut hct hfn hx hev hr hl hd
end
theorem gnil {α : Type} {d : Dat α} : (@instDatList α d).good [] := ⟨Nat.zero_le _, fun _ h => by cases h⟩
theorem gdz {p : Prop} (h : p := by dsimp only [Value.cells, List.toList_toArray, List.map]; dsimp only [ElOk, SlOwn, payOE, En.payO, lkE, cond, Nat.beq, FkO, agC, List.map, Str.fk, id, List.take, List.drop, List.take_succ_cons, List.drop_succ_cons, List.take_zero, List.drop_zero]; repeat' (first | assumption | exact gi _ | exact gs _ | exact gnil | rfl | exact trivial | apply And.intro | omega)) : p := h
end Go.Proofs.YtnjidaonbcbphaaGreatDoor.Fw
