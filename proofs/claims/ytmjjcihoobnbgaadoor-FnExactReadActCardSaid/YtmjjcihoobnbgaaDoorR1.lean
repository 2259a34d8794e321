/- Contracts: each call returns what the model says. By program (wip/am/gen2.py). -/
import Derived.Test.YtmjjcihoobnbgaaDoorPC
namespace Go.Proofs.YtmjjcihoobnbgaaDoor.Fw
open Go.RowKit
set_option linter.unusedVariables false
set_option maxRecDepth 100000

theorem fok103 : FnOk Tryd.prog 103 := ⟨_, Tryd.func103, rfl, by kernel_rfl⟩
theorem fok104 : FnOk Tryd.prog 104 := ⟨_, Tryd.func104, rfl, by kernel_rfl⟩
theorem fok105 : FnOk Tryd.prog 105 := ⟨_, Tryd.func105, rfl, by kernel_rfl⟩
theorem fok115 : FnOk Tryd.prog 115 := ⟨_, Tryd.func115, rfl, by kernel_rfl⟩
/- F81 loop.example/g00974/impl.ReadDecimal -/
def impl_ReadDecimal (p0 : ByteArray) : Int × Bool := bif ((!((atoi p0).2)) || (!(impl_within ((atoi p0).1) 0 1000000000))) || (!decide ((impl_Decimal ((atoi p0).1)) = p0)) then (0, false) else ((atoi p0).1, true)
theorem c_impl_ReadDecimal (p0 : ByteArray) (hq : p0.size ≤ 281474976710656) : CTs 81 [.o (.c (.string p0))] [Re.c (.int .i64 ((impl_ReadDecimal p0).1)), Re.c (.bool ((impl_ReadDecimal p0).2))] := by
  refine en Tryd.func81 Tryd.ntmps81 fun w hG hgd => ?_
  have hM := impl_ReadDecimal.eq_1 p0
  refine ad 8 ?_
  refine ce (k_atoi p0 (by first | assumption | exact om)) fok105 fun u1 hu1 => ?_
  refine ad 10 ?_
  refine op (er hu1) ?_
  refine ad 1 ?_
  refine ag 1 ?_
  refine op (cG (hct := fun hB => (k_impl_within ((atoi p0).1) 0 1000000000)) (hfn := fok45)) ?_
  refine ag 2 ?_
  refine ad 1 ?_
  refine ag 1 ?_
  refine op (cG (hct := fun hB => (k_impl_Decimal ((atoi p0).1) (atoi_I64 _))) (hfn := fok61)) ?_
  refine ag 3 ?_
  refine ad 1 ?_
  refine cd (fun h2 => ?_) (fun h2 => ?_)
  ·
    have hM := hM.trans (bt h2)
    refine ad 5 ?_
    exact rz (rs := [.tmp 2, .tmp 3]) (congrArg (fun x => [Re.c (.int .i64 x.1), Re.c (.bool x.2)]) hM)
  ·
    have hM := hM.trans (bf h2)
    have th2_1 := impl_within_t (by have hq := (Bool.or_eq_false_iff.1 (Bool.or_eq_false_iff.1 h2).1).2; simpa using hq)
    refine ad 7 ?_
    exact rz (rs := [.tmp 2, .tmp 3]) (congrArg (fun x => [Re.c (.int .i64 x.1), Re.c (.bool x.2)]) hM)
theorem impl_ReadDecimal_I64 (p0 : ByteArray) : I64 (impl_ReadDecimal p0).1 := by
  unfold impl_ReadDecimal
  cases (((!((atoi p0).2)) || (!(impl_within ((atoi p0).1) 0 1000000000))) || (!decide ((impl_Decimal ((atoi p0).1)) = p0)))
  · exact atoi_I64 p0
  · exact gi 0

/- F103 loop.example/g00974/spec.ReadDecimal -/
def spec_ReadDecimal_l1 (p0 : ByteArray) : Nat → Int → Nat → Int × Bool
  | 0, v4, i => bif (decide (v4 > 1000000000)) || (!decide ((spec_Decimal v4) = p0)) then (0, false) else (v4, true)
  | n + 1, v4, i => bif (decide (((byteAt p0 i).toNat : Int) < 48)) || (decide (((byteAt p0 i).toNat : Int) > 57)) then (0, false) else (spec_ReadDecimal_l1 p0 n (IntKind.i64.wrap ((IntKind.i64.wrap ((IntKind.i64.wrap (10 * v4)) + (IntKind.i64.wrap ((byteAt p0 i).toNat : Int)))) - 48)) (i + 1))
def spec_ReadDecimal (p0 : ByteArray) : Int × Bool := bif decide ((p0.size : Int) > 10) then (0, false) else (spec_ReadDecimal_l1 p0 (p0.size - 0) 0 0)
theorem c_spec_ReadDecimal (p0 : ByteArray) (hz_p0 : p0.size ≤ 9223372036854775807) : CTs 103 [.o (.c (.string p0))] [Re.c (.int .i64 ((spec_ReadDecimal p0).1)), Re.c (.bool ((spec_ReadDecimal p0).2))] := by
  refine en Tryd.func103 Tryd.ntmps103 fun w hG hgd => ?_
  have hM := spec_ReadDecimal.eq_1 p0
  refine ad 12 ?_
  refine cd (fun h1 => ?_) (fun h1 => ?_)
  ·
    have hM := hM.trans (bt h1)
    refine ad 5 ?_
    exact rz (rs := [.tmp 2, .tmp 3]) (congrArg (fun x => [Re.c (.int .i64 x.1), Re.c (.bool x.2)]) hM)
  ·
    have hM := hM.trans (bf h1)
    refine ad 11 ?_
    refine Run.loopM (ι := Int × Nat) (fun s => spec_ReadDecimal_l1 p0 (p0.size - s.2) s.1 s.2) (fun s => ⟨42, 0, [(0, .v (.string p0)), (4, .v (.int .i64 s.1)), (5, .v (.int .i64 (s.2 : Int)))], []⟩) (fun s => s.2 ≤ p0.size ∧ I64 s.1) (fun s => p0.size - s.2) (0, 0) [] [] hM (by exact ⟨by (try dsimp only); first | omega | exact trivial, (gi 0)⟩) su (by decide) ?_
    rintro ⟨v4, i⟩ hv hE
    try dsimp only at hE
    obtain ⟨hi, hg_v4⟩ := hv
    try dsimp only at hi hg_v4
    refine ad 8 ?_
    refine cd (fun h2 => ?_) (fun h2 => ?_)
    ·
      have h2l : i < p0.size := by have := of_decide_eq_true h2; omega
      have hM := hE.trans ((congrArg (fun n => spec_ReadDecimal_l1 p0 n v4 i) (show p0.size - i = (p0.size - (i + 1)) + 1 by omega)).trans (spec_ReadDecimal_l1.eq_2 _ _ _ _))
      refine ad 8 ?_
      refine op (sx (s := p0) i om) ?_
      refine ad 2 ?_
      refine ag 2 ?_
      refine op (sG (s := p0) i (hk := fun hB => by (try simp at hB); omega)) ?_
      refine ag 2 ?_
      refine ad 1 ?_
      refine cd (fun h3 => ?_) (fun h3 => ?_)
      ·
        have hM := hM.trans (bt h3)
        refine ad 5 ?_
        exact rz (rs := [.tmp 2, .tmp 3]) (congrArg (fun x => [Re.c (.int .i64 x.1), Re.c (.bool x.2)]) hM)
      ·
        have hM := hM.trans (bf h3)
        refine ad 6 ?_
        refine op (sx (s := p0) i om) ?_
        refine ad 9 ?_
        rw [wrapN (i := i) (by first | omega | exact om)]
        refine ad 2 ?_
        exact Run.again (IntKind.i64.wrap ((IntKind.i64.wrap ((IntKind.i64.wrap (10 * v4)) + (IntKind.i64.wrap ((byteAt p0 i).toNat : Int)))) - 48), (i + 1)) [] [] ⟨by exact ⟨by (try dsimp only); first | omega | exact trivial, (I64_wrap _)⟩, hM⟩ rfl (by show _ - _ < _ - _; (try dsimp only); omega) su (by decide)
    ·
      have h2l : ¬ (i < p0.size) := by have := of_decide_eq_false h2; omega
      have hM := hE.trans ((congrArg (fun n => spec_ReadDecimal_l1 p0 n v4 i) (show p0.size - i = 0 by omega)).trans (spec_ReadDecimal_l1.eq_1 _ _ _))
      refine ad 7 ?_
      refine ag 1 ?_
      refine op (cG (hct := fun hB => (k_spec_Decimal v4 hg_v4)) (hfn := fok56)) ?_
      refine ag 3 ?_
      refine ad 1 ?_
      refine cd (fun h4 => ?_) (fun h4 => ?_)
      ·
        have hM := hM.trans (bt h4)
        refine ad 5 ?_
        exact rz (rs := [.tmp 2, .tmp 3]) (congrArg (fun x => [Re.c (.int .i64 x.1), Re.c (.bool x.2)]) hM)
      ·
        have hM := hM.trans (bf h4)
        refine ad 7 ?_
        exact rz (rs := [.tmp 2, .tmp 3]) (congrArg (fun x => [Re.c (.int .i64 x.1), Re.c (.bool x.2)]) hM)
theorem spec_ReadDecimal_l1_I64 (p0 : ByteArray) : ∀ n v i, I64 v → I64 (spec_ReadDecimal_l1 p0 n v i).1 := by
  intro n
  induction n with
  | zero =>
    intro v i h
    rw [spec_ReadDecimal_l1]
    cases ((decide (v > 1000000000)) || (!decide ((spec_Decimal v) = p0)))
    · exact h
    · exact gi 0
  | succ n ih =>
    intro v i h
    rw [spec_ReadDecimal_l1]
    cases ((decide (((byteAt p0 i).toNat : Int) < 48)) || (decide (((byteAt p0 i).toNat : Int) > 57)))
    · exact ih _ _ (I64_wrap _)
    · exact gi 0
theorem spec_ReadDecimal_I64 (p0 : ByteArray) : I64 (spec_ReadDecimal p0).1 := by
  unfold spec_ReadDecimal
  cases (decide ((p0.size : Int) > 10))
  · exact spec_ReadDecimal_l1_I64 p0 _ _ _ (gi 0)
  · exact gi 0

/- F102 loop.example/g00974/impl.Unhex -/
def impl_Unhex (p0 : ByteArray) : ByteArray × Bool := bif ((!((decodeS p0).2)) || (decide ((((decodeS p0).1).length : Int) > 20000))) || (!decide ((hexEnc ((decodeS p0).1)) = p0)) then (⟨#[]⟩, false) else (bstr ((decodeS p0).1), true)
theorem c_impl_Unhex (p0 : ByteArray) (hq : p0.size ≤ 281474976710656) : CTs 102 [.o (.c (.string p0))] [Re.c (.string ((impl_Unhex p0).1)), Re.c (.bool ((impl_Unhex p0).2))] := by
  refine en Tryd.func102 Tryd.ntmps102 fun w hG hgd => ?_
  have hM := impl_Unhex.eq_1 p0
  refine ad 8 ?_
  refine ce (k_decode p0 (by first | assumption | exact om)) fok115 fun u1 hu1 => ?_
  refine ad 10 ?_
  refine op (er hu1) ?_
  refine ad 1 ?_
  refine ag 4 ?_
  refine ad 1 ?_
  refine ag 1 ?_
  refine op (cG (hct := fun hB => (k_hexEncA ((decodeS p0).1) (by first | (rw [sbytes_length]; exact om) | (simp at hB; omega)))) (hfn := fok116)) ?_
  refine ag 3 ?_
  refine ad 1 ?_
  refine cd (fun h2 => ?_) (fun h2 => ?_)
  ·
    have hM := hM.trans (bt h2)
    refine ad 5 ?_
    exact rz (rs := [.tmp 2, .tmp 3]) (congrArg (fun x => [Re.c (.string x.1), Re.c (.bool x.2)]) hM)
  ·
    have hM := hM.trans (bf h2)
    refine ad 4 ?_
    refine op (ts ((decodeS p0).1)) ?_
    refine ad 3 ?_
    exact rz (rs := [.tmp 2, .tmp 3]) (congrArg (fun x => [Re.c (.string x.1), Re.c (.bool x.2)]) hM)
theorem impl_Unhex_good (p0 : ByteArray) : (impl_Unhex p0).1.size ≤ maxLen := by
  unfold impl_Unhex
  cases hc : (((!((decodeS p0).2)) || (decide ((((decodeS p0).1).length : Int) > 20000))) || (!decide ((hexEnc ((decodeS p0).1)) = p0))) with
  | true => exact Nat.zero_le _
  | false =>
    have h1 := (Bool.or_eq_false_iff.1 (Bool.or_eq_false_iff.1 hc).1).2
    have h2 : (decodeS p0).1.length ≤ 20000 := by simp at h1; omega
    show ((decodeS p0).1.toArray).size ≤ maxLen
    rw [List.size_toArray]
    unfold maxLen
    omega

/- F104 loop.example/g00974/spec.l01Value -/
def spec_l01Value (p0 : UInt8) : Int := bif (decide ((p0.toNat : Int) ≥ 48)) && (decide ((p0.toNat : Int) ≤ 57)) then (IntKind.i64.wrap ((IntKind.i64.wrap (p0.toNat : Int)) - 48)) else (bif (decide ((p0.toNat : Int) ≥ 97)) && (decide ((p0.toNat : Int) ≤ 102)) then (IntKind.i64.wrap ((IntKind.i64.wrap ((IntKind.i64.wrap (p0.toNat : Int)) - 97)) + 10)) else (-1))
theorem c_spec_l01Value (p0 : UInt8) : CTs 104 [.o (.c (.int .u8 p0.toNat))] [Re.c (.int .i64 (spec_l01Value p0))] := by
  refine en Tryd.func104 Tryd.ntmps104 fun w hG hgd => ?_
  have hM := spec_l01Value.eq_1 p0
  refine ad 10 ?_
  refine ag 3 ?_
  refine ad 1 ?_
  refine cd (fun h1 => ?_) (fun h1 => ?_)
  ·
    have hM := hM.trans (bt h1)
    refine ad 7 ?_
    exact rz (rs := [.tmp 2]) (congrArg (fun x => [Re.c (.int .i64 x)]) hM)
  ·
    have hM := hM.trans (bf h1)
    refine ad 7 ?_
    refine ag 3 ?_
    refine ad 1 ?_
    refine cd (fun h2 => ?_) (fun h2 => ?_)
    ·
      have hM := hM.trans (bt h2)
      refine ad 8 ?_
      exact rz (rs := [.tmp 2]) (congrArg (fun x => [Re.c (.int .i64 x)]) hM)
    ·
      have hM := hM.trans (bf h2)
      refine ad 5 ?_
      exact rz (rs := [.tmp 2]) (congrArg (fun x => [Re.c (.int .i64 x)]) hM)

/- F77 loop.example/g00974/spec.Unhex -/
def spec_Unhex_l1 (p0 : ByteArray) (k_1 : (List UInt8) → (ByteArray × Bool)) : Nat → (List UInt8) → Nat → ByteArray × Bool
  | 0, v4_1, i_1 => k_1 v4_1
  | n_1 + 1, v4_1, i_1 => bif decide ((i_1 : Int) < (p0.size : Int)) then (bif (decide ((spec_l01Value (byteAt p0 i_1)) < 0)) || (decide ((spec_l01Value (byteAt p0 (i_1 + 1))) < 0)) then (⟨#[]⟩, false) else (spec_Unhex_l1 p0 k_1 n_1 (v4_1 ++ [u8of (IntKind.i64.wrap ((IntKind.i64.wrap (16 * (spec_l01Value (byteAt p0 i_1)))) + (spec_l01Value (byteAt p0 (i_1 + 1)))))]) (i_1 + 2))) else (k_1 v4_1)
theorem spec_Unhex_l1_x (p0 : ByteArray) (k_1 : (List UInt8) → (ByteArray × Bool)) (fu : Nat) (v4_1 : List UInt8) (i_1 : Nat) (h : (decide ((i_1 : Int) < (p0.size : Int))) = false) : spec_Unhex_l1 p0 k_1 fu v4_1 i_1 = k_1 v4_1 := by
  cases fu with
  | zero => rfl
  | succ n => exact (bf h)
def spec_Unhex (p0 : ByteArray) : ByteArray × Bool := bif (decide ((p0.size : Int) > 40000)) || (!decide ((Int.tmod (p0.size : Int) 2) = 0)) then (⟨#[]⟩, false) else (spec_Unhex_l1 p0 (fun e => (bstr e, true)) (p0.size - 0) ([] : List UInt8) 0)
theorem c_spec_Unhex (p0 : ByteArray) : CTs 77 [.o (.c (.string p0))] [Re.c (.string ((spec_Unhex p0).1)), Re.c (.bool ((spec_Unhex p0).2))] := by
  refine en Tryd.func77 Tryd.ntmps77 fun w hG hgd => ?_
  have hM := spec_Unhex.eq_1 p0
  refine ad 12 ?_
  refine ag 2 ?_
  refine op (rG) ?_
  refine ag 2 ?_
  refine ad 1 ?_
  refine cd (fun h1 => ?_) (fun h1 => ?_)
  ·
    have hM := hM.trans (bt h1)
    refine ad 5 ?_
    exact rz (rs := [.tmp 2, .tmp 3]) (congrArg (fun x => [Re.c (.string x.1), Re.c (.bool x.2)]) hM)
  ·
    have hM := hM.trans (bf h1)
    refine ad 3 ?_
    refine op (l0) ?_
    refine ad 8 ?_
    have he : p0.size % 2 = 0 := even_of (Bool.or_eq_false_iff.1 h1).2
    have hsz : p0.size ≤ 40000 := by have := (Bool.or_eq_false_iff.1 h1).1; simp at this; omega
    refine li 0 (d := instDatUInt8) ([] : List UInt8) ?_
    refine Run.loopkM (ι := Nat × (List UInt8) × Nat) (κ := (List UInt8)) (fun k s => spec_Unhex_l1 p0 k s.1 s.2.1 s.2.2) (fun s => ⟨49, 1, [(0, .v (.string p0)), (4, .sl 0 s.2.1.length), (5, .v (.int .i64 (s.2.2 : Int)))], [(0, .own UInt8 instDatUInt8 s.2.1)]⟩) (fun s => p0.size - s.2.2 ≤ s.1 ∧ s.2.2 % 2 = 0 ∧ s.2.2 ≤ p0.size ∧ s.2.1.length ≤ s.2.2) (fun s => s.1) (fun e => ⟨49, 1, [(4, .sl 0 e.length)], [(0, .own UInt8 instDatUInt8 e)]⟩) (fun e => True) (p0.size - 0, ([] : List UInt8), 0) [0] [0] hM (by refine ⟨by (try dsimp only); omega, rfl, by (try dsimp only); omega, by simp⟩) su (by decide) ?_ ?_
    ·
      rintro ev4_1 hv hM
      try dsimp only at hM hv ⊢
      refine ad 3 ?_
      refine op (ts ev4_1) ?_
      refine ad 3 ?_
      exact rz (rs := [.tmp 2, .tmp 3]) (congrArg (fun x => [Re.c (.string x.1), Re.c (.bool x.2)]) hM)
    ·
      intro k_1 hk_1
      rintro ⟨fu_1, v4_1, i_1⟩ hv_1 hE
      try dsimp only at hE
      obtain ⟨hi_1, hv_1_0, hv_1_1, hv_1_2⟩ := hv_1
      try dsimp only at hi_1 hv_1_0 hv_1_1 hv_1_2
      refine ad 8 ?_
      refine cd (fun h2 => ?_) (fun h2 => ?_)
      ·
        obtain ⟨n_1, rfl⟩ : ∃ n, fu_1 = n + 1 := ⟨fu_1 - 1, by have := h2; have := om (p := 0 < p0.size - i_1); omega⟩
        have hM := hE.trans ((spec_Unhex_l1.eq_2 _ _ _ _ _).trans (bt h2))
        refine ad 7 ?_
        refine op (sx (s := p0) i_1 om) ?_
        refine op (cl (c_spec_l01Value (byteAt p0 i_1)) fok104) ?_
        refine ad 7 ?_
        rw [wrapN (i := i_1) (by first | omega | exact om)]
        refine op (sx (s := p0) (i_1 + 1) om) ?_
        refine op (cl (c_spec_l01Value (byteAt p0 (i_1 + 1))) fok104) ?_
        refine ad 8 ?_
        refine ag 3 ?_
        refine ad 1 ?_
        refine cd (fun h3 => ?_) (fun h3 => ?_)
        ·
          have hM := hM.trans (bt h3)
          refine ad 5 ?_
          exact rz (rs := [.tmp 2, .tmp 3]) (congrArg (fun x => [Re.c (.string x.1), Re.c (.bool x.2)]) hM)
        ·
          have hM := hM.trans (bf h3)
          refine ad 9 ?_
          refine op (ap [u8of (IntKind.i64.wrap ((IntKind.i64.wrap (16 * (spec_l01Value (byteAt p0 i_1)))) + (spec_l01Value (byteAt p0 (i_1 + 1)))))] (hg := gdt) (hb := by simp only [List.length_cons, List.length_nil]; first | omega | exact om)) ?_
          refine ad 6 ?_
          rw [wrapN2 (i := i_1) (by first | omega | exact om)]
          refine ad 2 ?_
          exact Run.again (n_1, (v4_1 ++ [u8of (IntKind.i64.wrap ((IntKind.i64.wrap (16 * (spec_l01Value (byteAt p0 i_1)))) + (spec_l01Value (byteAt p0 (i_1 + 1)))))]), (i_1 + 2)) [2] [1] ⟨by refine ⟨by (try dsimp only); omega, by (try dsimp only); omega, by (try dsimp only); first | omega | exact om, by simp only [List.length_append, List.length_cons, List.length_nil]; omega⟩, hM⟩ rfl (by exact Nat.lt_succ_self _) su (by decide)
      ·
        have hM := hE.trans (spec_Unhex_l1_x p0 k_1 fu_1 v4_1 i_1 h2)
        refine ad 1 ?_
        exact Run.exitkM hk_1 v4_1 [0] [0] hM (by trivial) su (by decide)
theorem spec_Unhex_l1_len (p0 : ByteArray) : ∀ fu v i, ((spec_Unhex_l1 p0 (fun e => (bstr e, true)) fu v i).1).size ≤ v.length + fu := by
  intro fu
  induction fu with
  | zero =>
    intro v i
    show (v.toArray).size ≤ _
    rw [List.size_toArray]
    omega
  | succ n ih =>
    intro v i
    rw [spec_Unhex_l1]
    cases (decide ((i : Int) < (p0.size : Int)))
    · show (v.toArray).size ≤ _
      rw [List.size_toArray]
      omega
    · show (bif _ then _ else _ : ByteArray × Bool).1.size ≤ _
      cases (decide ((spec_l01Value (byteAt p0 i)) < 0)) || (decide ((spec_l01Value (byteAt p0 (i + 1))) < 0))
      · refine Nat.le_trans (ih _ _) ?_
        simp only [List.length_append, List.length_cons, List.length_nil]
        omega
      · exact Nat.zero_le _
theorem spec_Unhex_good (p0 : ByteArray) : (spec_Unhex p0).1.size ≤ maxLen := by
  unfold spec_Unhex
  cases hc : (decide ((p0.size : Int) > 40000)) || (!decide (Int.tmod (p0.size : Int) 2 = 0)) with
  | true => exact Nat.zero_le _
  | false =>
    have h1 := (Bool.or_eq_false_iff.1 hc).1
    have h2 : p0.size ≤ 40000 := by simp at h1; omega
    have := spec_Unhex_l1_len p0 (p0.size - 0) [] 0
    rw [List.length_nil] at this
    show ((spec_Unhex_l1 p0 (fun e => (bstr e, true)) (p0.size - 0) [] 0).1).size ≤ maxLen
    unfold maxLen
    omega

/- F76 loop.example/g00974/spec.l38Num -/
def spec_l38Num (p0 : List ByteArray) (p1 : Int) : Int := bif decide (p1 ≥ (p0.length : Int)) then 0 else ((spec_ReadDecimal (nth p0 p1.toNat)).1)
theorem c_spec_l38Num (p0 : List ByteArray) (p1 : Int) (h0 : 0 ≤ p1) : CTs 76 [.o (.sl ByteArray instDatByteArray p0), .o (.c (.int .i64 p1))] [Re.c (.int .i64 (spec_l38Num p0 p1))] := by
  refine en Tryd.func76 Tryd.ntmps76 fun w hG hgd => ?_
  obtain ⟨hg_p0, _⟩ := hgd
  have hl_p0 : p0.length ≤ 9223372036854775807 := hg_p0.1
  have hM := spec_l38Num.eq_1 p0 p1
  refine ad 12 ?_
  refine cd (fun h1 => ?_) (fun h1 => ?_)
  ·
    have hM := hM.trans (bt h1)
    refine ad 4 ?_
    exact rz (rs := [.tmp 4]) (congrArg (fun x => [Re.c (.int .i64 x)]) hM)
  ·
    have hM := hM.trans (bf h1)
    refine ad 5 ?_
    have hg3 := good_nth (k := p1.toNat) hg_p0 om
    refine op (ix (xs := p0) p1.toNat om (hi := om)) ?_
    refine ad 1 ?_
    refine op (cl (c_spec_ReadDecimal (nth p0 p1.toNat) hg3) fok103) ?_
    refine ad 11 ?_
    exact rz (rs := [.tmp 4]) (congrArg (fun x => [Re.c (.int .i64 x)]) hM)
theorem spec_l38Num_I64 (p0 : List ByteArray) (p1 : Int) : I64 (spec_l38Num p0 p1) := by
  unfold spec_l38Num
  cases (decide (p1 ≥ (p0.length : Int)))
  · exact spec_ReadDecimal_I64 _
  · exact gi 0

/- F78 loop.example/g00974/spec.PartsOf -/
def spec_PartsOf_l1 (p0 : ByteArray) : Nat → (List ByteArray) → Int → Nat → (List ByteArray) × Bool
  | 0, v4, v5, i => bif decide ((v4.length : Int) > 12) then (([] : List ByteArray), false) else (v4, true)
  | n + 1, v4, v5, i => bif (decide ((i : Int) < (p0.size : Int))) && ((decide (((byteAt p0 i).toNat : Int) < 32)) || (decide (((byteAt p0 i).toNat : Int) > 126))) then (([] : List ByteArray), false) else (bif (decide ((i : Int) < (p0.size : Int))) && (!decide (((byteAt p0 i).toNat : Int) = 32)) then (spec_PartsOf_l1 p0 n v4 v5 (i + 1)) else (spec_PartsOf_l1 p0 n (bif (decide (v5 < (i : Int))) then (v4 ++ [cutS p0 v5.toNat i]) else v4) ((i + 1 : Nat) : Int) (i + 1)))
def spec_PartsOf (p0 : ByteArray) : (List ByteArray) × Bool := bif decide ((p0.size : Int) > 600) then (([] : List ByteArray), false) else (spec_PartsOf_l1 p0 ((p0.size + 1) - 0) ([] : List ByteArray) 0 0)
theorem c_spec_PartsOf (p0 : ByteArray) : CTs 78 [.o (.c (.string p0))] [Re.sl ByteArray instDatByteArray ((spec_PartsOf p0).1), Re.c (.bool ((spec_PartsOf p0).2))] := by
  refine en Tryd.func78 Tryd.ntmps78 fun w hG hgd => ?_
  have hM := spec_PartsOf.eq_1 p0
  refine ad 7 ?_
  refine op (l0) ?_
  refine ad 9 ?_
  refine cd (fun h1 => ?_) (fun h1 => ?_)
  ·
    have hM := hM.trans (bt h1)
    refine ad 6 ?_
    refine li 0 (d := instDatByteArray) ([] : List ByteArray) ?_
    exact rz (rs := [.tmp 2, .tmp 3]) (congrArg (fun x => [Re.sl ByteArray instDatByteArray x.1, Re.c (.bool x.2)]) hM)
  ·
    have hM := hM.trans (bf h1)
    refine ad 11 ?_
    have hsz : p0.size ≤ 600 := by have := h1; simp at this; omega
    refine li 0 (d := instDatByteArray) ([] : List ByteArray) ?_
    refine Run.loopM (ι := (List ByteArray) × Int × Nat) (fun s => spec_PartsOf_l1 p0 ((p0.size + 1) - s.2.2) s.1 s.2.1 s.2.2) (fun s => ⟨62, 1, [(0, .v (.string p0)), (4, .sl 0 s.1.length), (5, .v (.int .i64 s.2.1)), (6, .v (.int .i64 (s.2.2 : Int)))], [(0, .own ByteArray instDatByteArray s.1)]⟩) (fun s => s.2.2 ≤ (p0.size + 1) ∧ 0 ≤ s.2.1 ∧ s.2.1 ≤ s.2.2 ∧ s.1.length ≤ s.2.2) (fun s => (p0.size + 1) - s.2.2) (([] : List ByteArray), 0, 0) [0] [0] hM (by refine ⟨by (try dsimp only); omega, by (try dsimp only); omega, by (try dsimp only); omega, by simp⟩) su (by decide) ?_
    rintro ⟨v4, v5, i⟩ hv hE
    try dsimp only at hE
    obtain ⟨hi, hv0, hv1, hv2⟩ := hv
    try dsimp only at hi hv0 hv1 hv2
    refine ad 8 ?_
    refine cd (fun h2 => ?_) (fun h2 => ?_)
    ·
      have h2l : i < (p0.size + 1) := by have := of_decide_eq_true h2; omega
      have hM := hE.trans ((congrArg (fun n => spec_PartsOf_l1 p0 n v4 v5 i) (show (p0.size + 1) - i = ((p0.size + 1) - (i + 1)) + 1 by omega)).trans (spec_PartsOf_l1.eq_2 _ _ _ _ _))
      refine ad 11 ?_
      refine ag 2 ?_
      refine op (sG (s := p0) i (hk := fun hB => by (try simp at hB); omega)) ?_
      refine ag 4 ?_
      refine op (sG (s := p0) i (hk := fun hB => by (try simp at hB); omega)) ?_
      refine ag 3 ?_
      refine ad 1 ?_
      refine cd (fun h3 => ?_) (fun h3 => ?_)
      ·
        have hM := hM.trans (bt h3)
        refine ad 2 ?_
        refine op (l0) ?_
        refine ad 3 ?_
        refine li 1 (d := instDatByteArray) ([] : List ByteArray) ?_
        exact rz (rs := [.tmp 2, .tmp 3]) (congrArg (fun x => [Re.sl ByteArray instDatByteArray x.1, Re.c (.bool x.2)]) hM)
      ·
        have hM := hM.trans (bf h3)
        refine ad 9 ?_
        refine ag 2 ?_
        refine op (sG (s := p0) i (hk := fun hB => by (try simp at hB); omega)) ?_
        refine ag 2 ?_
        refine ad 1 ?_
        refine cd (fun h4 => ?_) (fun h4 => ?_)
        ·
          have hM := hM.trans (bt h4)
          refine ad 4 ?_
          rw [wrapN (i := i) (by first | omega | exact om)]
          refine ad 2 ?_
          exact Run.again (v4, v5, (i + 1)) [0] [0] ⟨by refine ⟨by (try dsimp only); omega, by (try dsimp only); omega, by (try dsimp only); omega, ?_⟩ <;> (try dsimp only) <;> first | omega | (rw [Bool.cond_eq_ite]; split <;> (try simp only [List.length_append, List.length_cons, List.length_nil]) <;> omega), hM⟩ rfl (by show _ - _ < _ - _; (try dsimp only); omega) su (by decide)
        ·
          have hM := hM.trans (bf h4)
          refine ad 8 ?_
          refine Run.mid ⟨62, 1, [(0, .v (.string p0)), (4, .sl 0 ((bif (decide (v5 < (i : Int))) then (v4 ++ [cutS p0 v5.toNat i]) else v4).length)), (6, .v (.int .i64 (i : Int)))], [(0, .own ByteArray instDatByteArray (bif (decide (v5 < (i : Int))) then (v4 ++ [cutS p0 v5.toNat i]) else v4))]⟩ ?_ ?_
          · refine cd (fun h5 => ?_) (fun h5 => ?_)
            ·
              refine ad 5 ?_
              refine op (cu v5.toNat i) ?_
              refine ad 1 ?_
              have hg6 : Dat.good (cutS p0 v5.toNat i) := cutS_good (by first | assumption | exact om)
              refine op (ap [cutS p0 v5.toNat i] (hg := gdt) (hb := by simp only [List.length_cons, List.length_nil]; first | omega | exact om)) ?_
              refine ad 2 ?_
              exact Run.at [2] [1] (by first | exact su | (rw [h5]; exact su)) (by decide)
            ·
              refine ad 1 ?_
              exact Run.at [0] [0] (by first | exact su | (rw [h5]; exact su)) (by decide)
          refine ad 3 ?_
          rw [wrapN (i := i) (by first | omega | exact om)]
          refine ad 6 ?_
          rw [wrapN (i := i) (by first | omega | exact om)]
          refine ad 2 ?_
          exact Run.again (bif (decide (v5 < (i : Int))) then (v4 ++ [cutS p0 v5.toNat i]) else v4, ((i + 1 : Nat) : Int), (i + 1)) [0] [0] ⟨by refine ⟨by (try dsimp only); omega, by (try dsimp only); omega, by (try dsimp only); omega, ?_⟩ <;> (try dsimp only) <;> first | omega | (rw [Bool.cond_eq_ite]; split <;> (try simp only [List.length_append, List.length_cons, List.length_nil]) <;> omega), hM⟩ rfl (by show _ - _ < _ - _; (try dsimp only); omega) su (by decide)
    ·
      have h2l : ¬ (i < (p0.size + 1)) := by have := of_decide_eq_false h2; omega
      have hM := hE.trans ((congrArg (fun n => spec_PartsOf_l1 p0 n v4 v5 i) (show (p0.size + 1) - i = 0 by omega)).trans (spec_PartsOf_l1.eq_1 _ _ _ _))
      refine ad 8 ?_
      refine cd (fun h7 => ?_) (fun h7 => ?_)
      ·
        have hM := hM.trans (bt h7)
        refine ad 2 ?_
        refine op (l0) ?_
        refine ad 3 ?_
        refine li 1 (d := instDatByteArray) ([] : List ByteArray) ?_
        exact rz (rs := [.tmp 2, .tmp 3]) (congrArg (fun x => [Re.sl ByteArray instDatByteArray x.1, Re.c (.bool x.2)]) hM)
      ·
        have hM := hM.trans (bf h7)
        refine ad 7 ?_
        exact rz (rs := [.tmp 2, .tmp 3]) (congrArg (fun x => [Re.sl ByteArray instDatByteArray x.1, Re.c (.bool x.2)]) hM)

/- F73 slices.Index[[]string,string] -/
def slices_Index_string_l1 (p0 : List ByteArray) (p1 : ByteArray) : Nat → Nat → Int
  | 0, i => (-1)
  | n + 1, i => bif decide (p1 = (nth p0 i)) then (i : Int) else (slices_Index_string_l1 p0 p1 n (i + 1))
def slices_Index_string (p0 : List ByteArray) (p1 : ByteArray) : Int := slices_Index_string_l1 p0 p1 (p0.length - 0) 0
theorem c_slices_Index_string (p0 : List ByteArray) (p1 : ByteArray) : CTs 73 [.o (.sl ByteArray instDatByteArray p0), .o (.c (.string p1))] [Re.c (.int .i64 (slices_Index_string p0 p1))] := by
  refine en Tryd.func73 Tryd.ntmps73 fun w hG hgd => ?_
  obtain ⟨hg_p0, _⟩ := hgd
  have hl_p0 : p0.length ≤ 9223372036854775807 := hg_p0.1
  have hM := slices_Index_string.eq_1 p0 p1
  refine ad 12 ?_
  refine Run.loopM (ι := Nat) (fun s => slices_Index_string_l1 p0 p1 (p0.length - s) s) (fun s => ⟨19, 1, [(0, .sl 0 p0.length), (1, .v (.string p1)), (7, .v (.int .i64 (p0.length : Int))), (8, .v (.int .i64 (s : Int)))], [(0, .ros ByteArray instDatByteArray p0)]⟩) (fun s => s ≤ p0.length) (fun s => p0.length - s) 0 [0] [0] hM (by first | exact ⟨by omega, by simp⟩ | omega | simp | (dsimp only; omega)) su (by decide) ?_
  rintro i hv hE
  try dsimp only at hE
  have hi := hv
  try dsimp only at hi
  refine ad 5 ?_
  refine cd (fun h1 => ?_) (fun h1 => ?_)
  ·
    have h1l : i < p0.length := by have := of_decide_eq_true h1; omega
    have hM := hE.trans ((congrArg (fun n => slices_Index_string_l1 p0 p1 n i) (show p0.length - i = (p0.length - (i + 1)) + 1 by omega)).trans (slices_Index_string_l1.eq_2 _ _ _ _))
    refine ad 13 ?_
    have hg3 := good_nth (k := i) hg_p0 om
    refine op (ix (xs := p0) i om) ?_
    refine ad 3 ?_
    refine cd (fun h4 => ?_) (fun h4 => ?_)
    ·
      have hM := hM.trans (bt h4)
      refine ad 5 ?_
      exact rz (rs := [.tmp 4]) (congrArg (fun x => [Re.c (.int .i64 x)]) hM)
    ·
      have hM := hM.trans (bf h4)
      refine ad 4 ?_
      rw [wrapN (i := i) (by first | omega | exact om)]
      refine ad 2 ?_
      exact Run.again (i + 1) [0] [1] ⟨by first | omega | exact trivial | (dsimp only; omega) | (refine ⟨by omega, ?_⟩; simp_all; try omega), hM⟩ rfl (by show _ - _ < _ - _; (try dsimp only); omega) su (by decide)
  ·
    have h1l : ¬ (i < p0.length) := by have := of_decide_eq_false h1; omega
    have hM := hE.trans ((congrArg (fun n => slices_Index_string_l1 p0 p1 n i) (show p0.length - i = 0 by omega)).trans (slices_Index_string_l1.eq_1 _ _ _))
    refine ad 5 ?_
    exact rz (rs := [.tmp 4]) (congrArg (fun x => [Re.c (.int .i64 x)]) hM)

/- F75 slices.Equal[[]string,string] -/
def slices_Equal_string_l1 (p0 : List ByteArray) (p1 : List ByteArray) : Nat → Nat → Bool
  | 0, i => true
  | n + 1, i => bif !decide ((nth p0 i) = (nth p1 i)) then false else (slices_Equal_string_l1 p0 p1 n (i + 1))
def slices_Equal_string (p0 : List ByteArray) (p1 : List ByteArray) : Bool := bif !decide ((p0.length : Int) = (p1.length : Int)) then false else (slices_Equal_string_l1 p0 p1 (p0.length - 0) 0)
theorem c_slices_Equal_string (p0 : List ByteArray) (p1 : List ByteArray) : CTs 75 [.o (.sl ByteArray instDatByteArray p0), .o (.sl ByteArray instDatByteArray p1)] [Re.c (.bool (slices_Equal_string p0 p1))] := by
  refine en Tryd.func75 Tryd.ntmps75 fun w hG hgd => ?_
  obtain ⟨hg_p0, hg_p1, _⟩ := hgd
  have hl_p0 : p0.length ≤ 9223372036854775807 := hg_p0.1
  have hl_p1 : p1.length ≤ 9223372036854775807 := hg_p1.1
  have hM := slices_Equal_string.eq_1 p0 p1
  refine ad 13 ?_
  refine cd (fun h1 => ?_) (fun h1 => ?_)
  ·
    have hM := hM.trans (bt h1)
    refine ad 4 ?_
    exact rz (rs := [.tmp 4]) (congrArg (fun x => [Re.c (.bool x)]) hM)
  ·
    have hM := hM.trans (bf h1)
    refine ad 9 ?_
    refine Run.loopM (ι := Nat) (fun s => slices_Equal_string_l1 p0 p1 (p0.length - s) s) (fun s => ⟨26, 2, [(0, .sl 0 p0.length), (1, .sl 1 p1.length), (12, .v (.int .i64 (p0.length : Int))), (13, .v (.int .i64 (s : Int)))], [(0, .ros ByteArray instDatByteArray p0), (1, .ros ByteArray instDatByteArray p1)]⟩) (fun s => s ≤ p0.length) (fun s => p0.length - s) 0 [0, 1] [0, 1] hM (by first | exact ⟨by omega, by simp⟩ | omega | simp | (dsimp only; omega)) su (by decide) ?_
    rintro i hv hE
    try dsimp only at hE
    have hi := hv
    try dsimp only at hi
    refine ad 5 ?_
    refine cd (fun h2 => ?_) (fun h2 => ?_)
    ·
      have h2l : i < p0.length := by have := of_decide_eq_true h2; omega
      have hM := hE.trans ((congrArg (fun n => slices_Equal_string_l1 p0 p1 n i) (show p0.length - i = (p0.length - (i + 1)) + 1 by omega)).trans (slices_Equal_string_l1.eq_2 _ _ _ _))
      refine ad 9 ?_
      refine dr 9 fun _ _ _ _ _ hb => ?_
      refine tk [0, 1] ?_
      have hg3 := good_nth (k := i) hg_p0 om
      refine tx 2 (dx (xs := p0) i om) ?_
      refine tk [3, 4, 5] ?_
      have hg4 := good_nth (k := i) hg_p1 om
      refine tx 6 (dx (xs := p1) i om) ?_
      refine tk [7, 8] ?_
      refine dn hb ?_
      refine cd (fun h5 => ?_) (fun h5 => ?_)
      ·
        have hM := hM.trans (bt h5)
        refine ad 4 ?_
        exact rz (rs := [.tmp 4]) (congrArg (fun x => [Re.c (.bool x)]) hM)
      ·
        have hM := hM.trans (bf h5)
        refine ad 4 ?_
        rw [wrapN (i := i) (by first | omega | exact om)]
        refine ad 2 ?_
        exact Run.again (i + 1) [0, 1] [2, 3] ⟨by first | omega | exact trivial | (dsimp only; omega) | (refine ⟨by omega, ?_⟩; simp_all; try omega), hM⟩ rfl (by show _ - _ < _ - _; (try dsimp only); omega) su (by decide)
    ·
      have h2l : ¬ (i < p0.length) := by have := of_decide_eq_false h2; omega
      have hM := hE.trans ((congrArg (fun n => slices_Equal_string_l1 p0 p1 n i) (show p0.length - i = 0 by omega)).trans (slices_Equal_string_l1.eq_1 _ _ _))
      refine ad 5 ?_
      exact rz (rs := [.tmp 4]) (congrArg (fun x => [Re.c (.bool x)]) hM)

/- F79 loop.example/g00974/spec.l03Same -/
def spec_l03Same_l1 (p0 : List ByteArray) (p1 : List ByteArray) : Nat → Nat → Bool
  | 0, i => true
  | n + 1, i => bif !decide ((nth p0 i) = (nth p1 i)) then false else (spec_l03Same_l1 p0 p1 n (i + 1))
def spec_l03Same (p0 : List ByteArray) (p1 : List ByteArray) : Bool := bif !decide ((p0.length : Int) = (p1.length : Int)) then false else (spec_l03Same_l1 p0 p1 (p0.length - 0) 0)
theorem c_spec_l03Same (p0 : List ByteArray) (p1 : List ByteArray) : CTs 79 [.o (.sl ByteArray instDatByteArray p0), .o (.sl ByteArray instDatByteArray p1)] [Re.c (.bool (spec_l03Same p0 p1))] := by
  refine en Tryd.func79 Tryd.ntmps79 fun w hG hgd => ?_
  obtain ⟨hg_p0, hg_p1, _⟩ := hgd
  have hl_p0 : p0.length ≤ 9223372036854775807 := hg_p0.1
  have hl_p1 : p1.length ≤ 9223372036854775807 := hg_p1.1
  have hM := spec_l03Same.eq_1 p0 p1
  refine ad 13 ?_
  refine cd (fun h1 => ?_) (fun h1 => ?_)
  ·
    have hM := hM.trans (bt h1)
    refine ad 4 ?_
    exact rz (rs := [.tmp 4]) (congrArg (fun x => [Re.c (.bool x)]) hM)
  ·
    have hM := hM.trans (bf h1)
    refine ad 7 ?_
    refine Run.loopM (ι := Nat) (fun s => spec_l03Same_l1 p0 p1 (p0.length - s) s) (fun s => ⟨26, 2, [(0, .sl 0 p0.length), (1, .sl 1 p1.length), (5, .v (.int .i64 (s : Int)))], [(0, .ros ByteArray instDatByteArray p0), (1, .ros ByteArray instDatByteArray p1)]⟩) (fun s => s ≤ p0.length) (fun s => p0.length - s) 0 [0, 1] [0, 1] hM (by first | exact ⟨by omega, by simp⟩ | omega | simp | (dsimp only; omega)) su (by decide) ?_
    rintro i hv hE
    try dsimp only at hE
    have hi := hv
    try dsimp only at hi
    refine ad 8 ?_
    refine cd (fun h2 => ?_) (fun h2 => ?_)
    ·
      have h2l : i < p0.length := by have := of_decide_eq_true h2; omega
      have hM := hE.trans ((congrArg (fun n => spec_l03Same_l1 p0 p1 n i) (show p0.length - i = (p0.length - (i + 1)) + 1 by omega)).trans (spec_l03Same_l1.eq_2 _ _ _ _))
      refine ad 4 ?_
      refine dr 9 fun _ _ _ _ _ hb => ?_
      refine tk [0, 1] ?_
      have hg3 := good_nth (k := i) hg_p0 om
      refine tx 2 (dx (xs := p0) i om) ?_
      refine tk [3, 4, 5] ?_
      have hg4 := good_nth (k := i) hg_p1 om
      refine tx 6 (dx (xs := p1) i om) ?_
      refine tk [7, 8] ?_
      refine dn hb ?_
      refine cd (fun h5 => ?_) (fun h5 => ?_)
      ·
        have hM := hM.trans (bt h5)
        refine ad 4 ?_
        exact rz (rs := [.tmp 4]) (congrArg (fun x => [Re.c (.bool x)]) hM)
      ·
        have hM := hM.trans (bf h5)
        refine ad 5 ?_
        rw [wrapN (i := i) (by first | omega | exact om)]
        refine ad 2 ?_
        exact Run.again (i + 1) [0, 1] [2, 3] ⟨by first | omega | exact trivial | (dsimp only; omega) | (refine ⟨by omega, ?_⟩; simp_all; try omega), hM⟩ rfl (by show _ - _ < _ - _; (try dsimp only); omega) su (by decide)
    ·
      have h2l : ¬ (i < p0.length) := by have := of_decide_eq_false h2; omega
      have hM := hE.trans ((congrArg (fun n => spec_l03Same_l1 p0 p1 n i) (show p0.length - i = 0 by omega)).trans (spec_l03Same_l1.eq_1 _ _ _))
      refine ad 5 ?_
      exact rz (rs := [.tmp 4]) (congrArg (fun x => [Re.c (.bool x)]) hM)

end Go.Proofs.YtmjjcihoobnbgaaDoor.Fw