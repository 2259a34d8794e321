/-
  The reference and the program read the same call off its words. No condition.
-/
import Derived.Test.YtmjjcihoobnbgaaDoorPR3
namespace Go.Proofs.YtmjjcihoobnbgaaDoor.Fw
open Go.RowKit
set_option linter.unusedVariables false
set_option linter.unusedSimpArgs false
set_option maxRecDepth 100000
/-! ## Words of a call's line -/
def clean (l : List UInt8) : Prop := l ≠ [] ∧ ∀ b ∈ l, 33 ≤ b.toNat ∧ b.toNat ≤ 126
theorem clean_sp {b : UInt8} (h : 33 ≤ b.toNat ∧ b.toNat ≤ 126) : Lib.isSp b = false := by
  rw [isSp_in (by omega) (by omega)]
  exact decide_eq_false (by omega)
theorem fieldsGo_clean : ∀ (m cur : List UInt8), (∀ b ∈ m, 33 ≤ b.toNat ∧ b.toNat ≤ 126) → cur ++ m ≠ [] → Lib.fieldsGo cur m = [cur ++ m]
  | [], cur, _, hne => by
    rw [List.append_nil] at hne ⊢
    cases cur with
    | nil => exact absurd rfl hne
    | cons _ _ => rfl
  | b :: m, cur, h, _ => by
    rw [Lib.fieldsGo_more cur b m (clean_sp (h b (List.mem_cons_self))), fieldsGo_clean m (cur ++ [b]) (fun c hc => h c (List.mem_cons_of_mem _ hc)) (by simp)]
    simp
theorem fieldsGo_app : ∀ (l cur m : List UInt8), clean m → Lib.fieldsGo cur (l ++ 32 :: m) = Lib.fieldsGo cur l ++ [m]
  | [], cur, m, hm => by
    have e := fieldsGo_clean m [] hm.2 (by simpa using hm.1)
    rw [List.nil_append] at e
    cases cur with
    | nil =>
      show Lib.fieldsGo [] (32 :: m) = [] ++ [m]
      rw [Lib.fieldsGo_sp 32 m (by decide), e]
      rfl
    | cons a r =>
      show Lib.fieldsGo (a :: r) (32 :: m) = [a :: r] ++ [m]
      rw [Lib.fieldsGo_end (a :: r) 32 m (by decide) (by simp), e]
      rfl
  | b :: l, cur, m, hm => by
    show Lib.fieldsGo cur (b :: (l ++ 32 :: m)) = Lib.fieldsGo cur (b :: l) ++ [m]
    cases hb : Lib.isSp b with
    | false => rw [Lib.fieldsGo_more cur b _ hb, Lib.fieldsGo_more cur b _ hb, fieldsGo_app l _ m hm]
    | true =>
      cases cur with
      | nil => rw [Lib.fieldsGo_sp b _ hb, Lib.fieldsGo_sp b _ hb, fieldsGo_app l _ m hm]
      | cons a r => rw [Lib.fieldsGo_end _ b _ hb (by simp), Lib.fieldsGo_end _ b _ hb (by simp), fieldsGo_app l _ m hm, List.cons_append]
theorem sbytes_app (a b : ByteArray) : sbytes (a ++ b) = sbytes a ++ sbytes b := by
  unfold sbytes
  rw [ByteArray.data_append, Array.toList_append]
theorem toBA_sbytes (p0 : ByteArray) : toBA (sbytes p0) = p0 := rfl
/-- What a line's word tells, by its letter. -/
def hexText (p0 : ByteArray) : ByteArray := bif decide ((spec_Hex p0).1 = ⟨#[]⟩) then ⟨#[45]⟩ else (spec_Hex p0).1
def ftx (c : Call) (u : UInt8) : ByteArray := bif u == 110 then c.Name else bif u == 116 then c.To else bif u == 97 then spec_Decimal c.A else bif u == 98 then spec_Decimal c.B else hexText c.Text
def useB (u : UInt8) : Bool := u == 110 || u == 116 || u == 97 || u == 98 || u == 120
theorem useB_22 : ∀ n : Fin 22, ∀ i : Fin 3, i.val < (spec_l38Uses ((n.val : Int) + 1)).size → useB (byteAt (spec_l38Uses ((n.val : Int) + 1)) i.val) = true := by decide +kernel
theorem names_22 : ∀ n : Fin 22, spec_CallName ((n.val : Int) + 1) = nth gl1 n.val := by decide +kernel
theorem cleanB_22 : ∀ n : Fin 22, (sbytes (spec_CallName ((n.val : Int) + 1))).all (fun b => Nat.ble 33 b.toNat && Nat.ble b.toNat 126) = true ∧ (sbytes (spec_CallName ((n.val : Int) + 1))).isEmpty = false := by decide +kernel
theorem clean_of {l : List UInt8} (h : l.all (fun b => Nat.ble 33 b.toNat && Nat.ble b.toNat 126) = true) (h2 : l.isEmpty = false) : clean l := by
  refine ⟨fun e => (by rw [e] at h2; cases h2), fun b hb => ?_⟩
  have := List.all_eq_true.1 h b hb
  rw [Bool.and_eq_true] at this
  exact ⟨Nat.le_of_ble_eq_true this.1, Nat.le_of_ble_eq_true this.2⟩
theorem name_clean {k : Int} (h : 1 ≤ k ∧ k ≤ 22) : clean (sbytes (spec_CallName k)) := by
  obtain ⟨n, rfl⟩ := of22 h
  exact clean_of (cleanB_22 n).1 (cleanB_22 n).2
theorem mem_at {p0 : ByteArray} {b : UInt8} (h : b ∈ sbytes p0) : ∃ j, j < p0.size ∧ byteAt p0 j = b := by
  obtain ⟨j, hj, rfl⟩ := List.getElem_of_mem h
  exact ⟨j, by rw [sbytes_length] at hj; exact hj, (sbytes_at hj).symm⟩
def nbad (b : UInt8) : Bool := (((!(spec_l01In (IntKind.i64.wrap (b.toNat : Int)) 97 122)) && (!(spec_l01In (IntKind.i64.wrap (b.toNat : Int)) 48 57))) && (!decide ((b.toNat : Int) = 46))) && (!decide ((b.toNat : Int) = 45))
theorem nbad_not {b : UInt8} (h : nbad b = false) : 33 ≤ b.toNat ∧ b.toNat ≤ 126 := by
  have key : ∀ n : Fin 256, nbad (UInt8.ofNat n.val) = false → 33 ≤ (UInt8.ofNat n.val).toNat ∧ (UInt8.ofNat n.val).toNat ≤ 126 := by decide +kernel
  have e : UInt8.ofNat b.toNat = b := by simp
  have := key ⟨b.toNat, b.toNat_lt⟩
  simp only [e] at this
  exact this h
theorem NameOk_l1_t (p0 : ByteArray) : ∀ n i, i + n = p0.size → spec_NameOk_l1 p0 n i = true → (1 ≤ p0.size ∧ p0.size ≤ 12) ∧ ∀ j, i ≤ j → j < p0.size → 33 ≤ (byteAt p0 j).toNat ∧ (byteAt p0 j).toNat ≤ 126 := by
  intro n
  induction n with
  | zero =>
    intro i h h1
    have := spec_l01In_t (a := (p0.size : Int)) (b := 1) (c := 12) h1
    exact ⟨by omega, fun j _ _ => by omega⟩
  | succ n ih =>
    intro i h h1
    rw [spec_NameOk_l1] at h1
    cases hb : nbad (byteAt p0 i) with
    | true =>
      unfold nbad at hb
      rw [hb] at h1
      cases h1
    | false =>
      have hb' := hb
      unfold nbad at hb'
      rw [hb'] at h1
      obtain ⟨h2, h3⟩ := ih (i + 1) (by omega) h1
      refine ⟨h2, fun j h4 h5 => ?_⟩
      by_cases e : i = j
      · subst e
        exact nbad_not hb
      · exact h3 j (by omega) h5
theorem NameOk_clean {p0 : ByteArray} (h : spec_NameOk p0 = true) : clean (sbytes p0) ∧ p0.size ≤ 12 := by
  obtain ⟨h1, h2⟩ := NameOk_l1_t p0 _ _ (by omega) h
  refine ⟨⟨fun e => ?_, fun b hb => ?_⟩, h1.2⟩
  · have := congrArg List.length e
    rw [sbytes_length, List.length_nil] at this
    omega
  · obtain ⟨j, hj, rfl⟩ := mem_at hb
    exact h2 j (Nat.zero_le _) hj
theorem decDigits_dig : ∀ u : Nat, ∀ b ∈ Lib.decDigits u, 48 ≤ b.toNat ∧ b.toNat ≤ 57 := by
  intro u
  induction u using Nat.strongRecOn with
  | _ u ih =>
    have dg : ∀ d : Nat, d < 10 → 48 ≤ (UInt8.ofNat (48 + d)).toNat ∧ (UInt8.ofNat (48 + d)).toNat ≤ 57 := fun d hd => by
      have key : ∀ n : Fin 10, 48 ≤ (UInt8.ofNat (48 + n.val)).toNat ∧ (UInt8.ofNat (48 + n.val)).toNat ≤ 57 := by decide +kernel
      exact key ⟨d, hd⟩
    intro b hb
    rw [Lib.decDigits] at hb
    split at hb
    · rename_i h
      rw [List.mem_singleton] at hb
      subst hb
      exact dg u h
    · rw [List.mem_append, List.mem_singleton] at hb
      rcases hb with hb | hb
      · exact ih (u / 10) (by omega) b hb
      · subst hb
        exact dg (u % 10) (by omega)
theorem fits_nat {a : Int} (h : spec_l38Fits a = true) : ∃ u : Nat, a = (u : Int) ∧ u ≤ 1000000000 := by
  have := spec_l01In_t (a := a) (b := 0) (c := 1000000000) h
  exact ⟨a.toNat, by omega, by omega⟩
theorem dec_clean {a : Int} (h : spec_l38Fits a = true) : clean (sbytes (spec_Decimal a)) ∧ (spec_Decimal a).size ≤ 10 := by
  obtain ⟨u, rfl, hu⟩ := fits_nat h
  rw [Decimal_twin (by unfold I64; omega)]
  refine ⟨?_, dec_size hu⟩
  rw [dec_list]
  refine ⟨fun e => ?_, fun b hb => ?_⟩
  · have := congrArg List.length e
    rw [Lib.decDigits_length, List.length_nil] at this
    have h2 := Lib.nDigits_pos u
    omega
  · have := decDigits_dig u b hb
    omega
theorem encode_dig : ∀ (l : List UInt8), ∀ b ∈ Lib.Hx.encode l, 33 ≤ b.toNat ∧ b.toNat ≤ 126
  | [], b, hb => by cases hb
  | x :: l, b, hb => by
    have dg : ∀ d : Nat, d < 16 → 33 ≤ (Lib.Hx.digit d).toNat ∧ (Lib.Hx.digit d).toNat ≤ 126 := fun d hd => by
      have key : ∀ n : Fin 16, 33 ≤ (Lib.Hx.digit n.val).toNat ∧ (Lib.Hx.digit n.val).toNat ≤ 126 := by decide +kernel
      exact key ⟨d, hd⟩
    have hx := x.toNat_lt
    rw [Lib.Hx.encode_cons] at hb
    rcases List.mem_cons.1 hb with rfl | hb
    · exact dg _ (by omega)
    · rcases List.mem_cons.1 hb with rfl | hb
      · exact dg _ (by omega)
      · exact encode_dig l b hb
theorem hexText_clean {p0 : ByteArray} (h : p0.size ≤ 64) : clean (sbytes (hexText p0)) ∧ (hexText p0).size ≤ 128 := by
  unfold hexText
  by_cases e : (spec_Hex p0).1 = ⟨#[]⟩
  · rw [decide_eq_true e]
    have hd : clean (sbytes (⟨#[45]⟩ : ByteArray)) := clean_of (by decide +kernel) (by decide +kernel)
    exact ⟨hd, Nat.le_of_ble_eq_true rfl⟩
  · rw [decide_eq_false e]
    refine ⟨⟨fun e2 => e (congrArg toBA (show sbytes (spec_Hex p0).1 = [] from e2)), fun b hb => ?_⟩, spec_Hex_size h⟩
    show _ ≤ _ ∧ _
    have hb' : b ∈ sbytes (spec_Hex p0).1 := hb
    rw [spec_Hex_is (by omega), sbytes_hexEnc] at hb'
    exact encode_dig _ b hb'
def okB (l : List UInt8) : Prop := ∀ b ∈ l, 32 ≤ b.toNat ∧ b.toNat ≤ 126
theorem okB_app {v w : List UInt8} (h : okB v) (hw : clean w) : okB (v ++ 32 :: w) := fun b hb => by
  rcases List.mem_append.1 hb with hb | hb
  · exact h b hb
  · rcases List.mem_cons.1 hb with rfl | hb
    · decide
    · have := hw.2 b hb
      omega
theorem sp_list (v w : ByteArray) : sbytes ((v ++ (⟨#[32]⟩ : ByteArray)) ++ w) = sbytes v ++ 32 :: sbytes w := by
  rw [sbytes_app, sbytes_app, List.append_assoc]
  rfl
def lw (c : Call) (i n : Nat) : List ByteArray := (List.range' i n).map fun j => ftx c (byteAt (spec_l38Uses c.Kind) j)
structure Wd (c : Call) (v : ByteArray) (ws : List ByteArray) : Prop where
  f : fieldsS v = ws
  o : okB (sbytes v)
theorem Wd.add {c : Call} {v w : ByteArray} {ws : List ByteArray} (h : Wd c v ws) (hw : clean (sbytes w)) : Wd c ((v ++ (⟨#[32]⟩ : ByteArray)) ++ w) (ws ++ [w]) := by
  refine ⟨?_, ?_⟩
  · rw [fieldsS_toBA, sp_list, fieldsGo_app _ _ _ hw, List.map_append, ← fieldsS_toBA, h.f]
    rfl
  · rw [sp_list]
    exact okB_app h.o hw
theorem sp_size (v w : ByteArray) : ((v ++ (⟨#[32]⟩ : ByteArray)) ++ w).size = v.size + 1 + w.size := by
  rw [← sbytes_length, sp_list, List.length_append, List.length_cons, sbytes_length, sbytes_length]
  omega
theorem line_words {c : Call} (hk : 1 ≤ c.Kind ∧ c.Kind ≤ 22) (hx : c.Text.size ≤ 64) (hA : spec_l38Fits c.A = true) (hB : spec_l38Fits c.B = true) :
    ∀ n i v ws, i + n = (spec_l38Uses c.Kind).size → Wd c v ws → spec_CallLine_l1 c n v i = ⟨#[]⟩ ∨ (Wd c (spec_CallLine_l1 c n v i) (ws ++ lw c i n) ∧ (spec_CallLine_l1 c n v i).size ≤ v.size + 129 * n) := by
  have hu : ∀ i, i < (spec_l38Uses c.Kind).size → useB (byteAt (spec_l38Uses c.Kind) i) = true := fun i hi => by
    obtain ⟨m, hm⟩ := of22 hk
    rw [hm] at hi ⊢
    have h3 := spec_l38Uses_size ((m.val : Int) + 1)
    exact useB_22 m ⟨i, by omega⟩ hi
  intro n
  induction n with
  | zero =>
    intro i v ws h hw
    refine .inr ⟨?_, Nat.le_add_right _ _⟩
    show Wd c v (ws ++ [])
    rw [List.append_nil]
    exact hw
  | succ n ih =>
    intro i v ws h hw
    have go : ∀ w : ByteArray, clean (sbytes w) → w.size ≤ 128 → ftx c (byteAt (spec_l38Uses c.Kind) i) = w → spec_CallLine_l1 c (n + 1) v i = spec_CallLine_l1 c n ((v ++ (⟨#[32]⟩ : ByteArray)) ++ w) (i + 1) →
        spec_CallLine_l1 c (n + 1) v i = ⟨#[]⟩ ∨ (Wd c (spec_CallLine_l1 c (n + 1) v i) (ws ++ lw c i (n + 1)) ∧ (spec_CallLine_l1 c (n + 1) v i).size ≤ v.size + 129 * (n + 1)) := fun w h1 h2 h3 h4 => by
      rw [h4]
      rcases ih (i + 1) _ (ws ++ [w]) (by omega) (hw.add h1) with e | ⟨e1, e2⟩
      · exact .inl e
      · refine .inr ⟨?_, ?_⟩
        · have : lw c i (n + 1) = w :: lw c (i + 1) n := by
            unfold lw
            rw [List.range'_succ, List.map_cons, h3]
          rw [this]
          rw [List.append_assoc] at e1
          exact e1
        · rw [sp_size] at e2
          omega
    have hi := hu i (by omega)
    rw [spec_CallLine_l1] at *
    have hgo := go
    revert hgo
    generalize hf : byteAt (spec_l38Uses c.Kind) i = u at hi ⊢
    intro hgo
    simp only [useB, Bool.or_eq_true, beq_iff_eq] at hi
    rcases hi with (((rfl | rfl) | rfl) | rfl) | rfl
    · rw [show ((UInt8.toNat 110 : Nat) : Int) = 110 from rfl] at *
      cases hn : spec_NameOk c.Name with
      | false => exact .inl rfl
      | true => 
        rw [hn] at hgo
        exact hgo c.Name (NameOk_clean hn).1 (by have := (NameOk_clean hn).2; omega) rfl rfl
    · rw [show ((UInt8.toNat 116 : Nat) : Int) = 116 from rfl] at *
      cases hn : spec_NameOk c.To with
      | false => exact .inl rfl
      | true => 
        rw [hn] at hgo
        exact hgo c.To (NameOk_clean hn).1 (by have := (NameOk_clean hn).2; omega) rfl rfl
    · exact hgo (spec_Decimal c.A) (dec_clean hA).1 (by have := (dec_clean hA).2; omega) rfl rfl
    · exact hgo (spec_Decimal c.B) (dec_clean hB).1 (by have := (dec_clean hB).2; omega) rfl rfl
    · exact hgo (hexText c.Text) (hexText_clean hx).1 (hexText_clean hx).2 rfl rfl
theorem parts_of {p0 : ByteArray} (h1 : p0.size ≤ 600) (h2 : okB (sbytes p0)) : impl_PartsOf p0 = finW (fieldsS p0) := by
  unfold impl_PartsOf
  rw [decide_eq_false (show ¬ (p0.size : Int) > 600 by omega)]
  exact impl_parts_good p0 (fun j hj => h2 _ (by
    have hj' : j < (sbytes p0).length := by rw [sbytes_length]; exact hj
    rw [← sbytes_at hj']
    exact List.getElem_mem hj')) _ _ (by omega)
theorem CallLine_words (c : Call) (h : spec_CallLine c ≠ ⟨#[]⟩) : (1 ≤ c.Kind ∧ c.Kind ≤ 22) ∧ spec_PartsOf (spec_CallLine c) = (spec_CallName c.Kind :: lw c 0 (spec_l38Uses c.Kind).size, true) ∧ spec_CallOk c = true ∧ spec_Told c = c ∧ spec_l38Fits c.A = true ∧ spec_l38Fits c.B = true := by
  cases hb : (((!(spec_CallOk c)) || (!(decide ((spec_Told c) = c)))) || (!(spec_l38Fits c.A))) || (!(spec_l38Fits c.B)) with
  | true =>
    unfold spec_CallLine at h
    rw [hb] at h
    exact absurd rfl h
  | false =>
    have e : spec_CallLine c = spec_CallLine_l1 c ((spec_l38Uses c.Kind).size - 0) (spec_CallName c.Kind) 0 := by
      unfold spec_CallLine
      rw [hb]
      rfl
    simp only [Bool.or_eq_false_iff, Bool.not_eq_false', decide_eq_true_eq] at hb
    obtain ⟨⟨⟨hok, ht⟩, hA⟩, hB⟩ := hb
    obtain ⟨hk, h1, h2, h3⟩ := spec_CallOk_t hok
    refine ⟨hk, ?_, hok, ht, hA, hB⟩
    have hcl := name_clean hk
    have hw0 : Wd c (spec_CallName c.Kind) [spec_CallName c.Kind] := by
      refine ⟨?_, fun b hb => ?_⟩
      · rw [fieldsS_toBA, fieldsGo_clean _ _ hcl.2 (by simpa using hcl.1)]
        rfl
      · have := hcl.2 b hb
        omega
    rw [e] at h ⊢
    have hn := spec_CallName_size c.Kind
    have hu := spec_l38Uses_size c.Kind
    rcases line_words hk h3 hA hB ((spec_l38Uses c.Kind).size - 0) 0 _ _ (by omega) hw0 with h' | ⟨h', h''⟩
    · exact absurd h' h
    · rw [← PartsOf_twin, parts_of (by omega) h'.o, h'.f]
      unfold finW
      rw [decide_eq_false (by
        show ¬ ((([spec_CallName c.Kind] ++ lw c 0 ((spec_l38Uses c.Kind).size - 0)).length : Nat) : Int) > 12
        unfold lw
        rw [List.length_append, List.length_map, List.length_range', List.length_singleton]
        omega)]
      rfl
theorem CallLine_count (c : Call) : (spec_PartsOf (spec_CallLine c)).1 = [] ∨ (spec_PartsOf (spec_CallLine c)).1.length = (spec_l38Uses c.Kind).size + 1 := by
  by_cases h : spec_CallLine c = ⟨#[]⟩
  · rw [h]
    exact .inl rfl
  · rw [(CallLine_words c h).2.1]
    refine .inr ?_
    show (spec_CallName c.Kind :: lw c 0 (spec_l38Uses c.Kind).size).length = _
    unfold lw
    rw [List.length_cons, List.length_map, List.length_range']
/-! ## A call, read -/
theorem index_not (w : ByteArray) : ∀ n i, (∀ j, i ≤ j → j < i + n → w ≠ nth gl1 j) → slices_Index_string_l1 gl1 w n i = -1 := by
  intro n
  induction n with
  | zero => intro i _; rfl
  | succ n ih =>
    intro i h
    rw [slices_Index_string_l1, decide_eq_false (h i (Nat.le_refl _) (by omega)), ih (i + 1) (fun j h1 h2 => h j (by omega) (by omega))]
    rfl
def kindL (w : ByteArray) : Nat → Int → Nat → Int
  | 0, c, _ => c
  | n + 1, c, i => kindL w n (bif (decide ((spec_CallName (i : Int)) = w)) then (i : Int) else c) (i + 1)
theorem kindL_not (w : ByteArray) (h : ∀ j : Nat, 1 ≤ j → j ≤ 22 → spec_CallName (j : Int) ≠ w) : ∀ n i c, 1 ≤ i → i + n ≤ 23 → kindL w n c i = c := by
  intro n
  induction n with
  | zero => intro i c _ _; rfl
  | succ n ih =>
    intro i c h1 h2
    rw [kindL, decide_eq_false (h i h1 (by omega)), ih (i + 1) _ (by omega) (by omega)]
    rfl
theorem kind_22 : ∀ n : Fin 22, kindL (nth gl1 n.val) 22 0 1 = (n.val : Int) + 1 ∧ IntKind.i64.wrap (1 + slices_Index_string gl1 (nth gl1 n.val)) = (n.val : Int) + 1 := by decide +kernel
theorem kind_twin (w : ByteArray) : kindL w 22 0 1 = IntKind.i64.wrap (1 + slices_Index_string gl1 w) ∧ 0 ≤ kindL w 22 0 1 ∧ kindL w 22 0 1 ≤ 22 := by
  by_cases h : ∃ n : Fin 22, nth gl1 n.val = w
  · obtain ⟨n, rfl⟩ := h
    rw [(kind_22 n).1, (kind_22 n).2]
    have := n.isLt
    exact ⟨rfl, by omega, by omega⟩
  · have h' : ∀ j, j < 22 → nth gl1 j ≠ w := fun j hj e => h ⟨⟨j, hj⟩, e⟩
    rw [kindL_not w (fun j h1 h2 => ?_) 22 1 0 (Nat.le_refl _) (Nat.le_refl _)]
    · have : slices_Index_string gl1 w = -1 := index_not w _ 0 fun j _ hj => (h' j (by rw [Nat.zero_add] at hj; exact hj)).symm
      rw [this]
      exact ⟨rfl, by omega, by omega⟩
    · have := names_22 ⟨j - 1, by omega⟩
      rw [show (((⟨j - 1, by omega⟩ : Fin 22).val : Nat) : Int) + 1 = (j : Int) by show ((j - 1 : Nat) : Int) + 1 = _; omega] at this
      rw [this]
      exact h' _ (by show j - 1 < 22; omega)
theorem spec_l1_kind (p0 : List ByteArray) : ∀ n c i, spec_ReadCall_l1 p0 n c i = spec_ReadCall_l1 p0 0 (kindL (nth p0 0) n c i) (i + n) := by
  intro n
  induction n with
  | zero => intro c i; rfl
  | succ n ih =>
    intro c i
    show spec_ReadCall_l1 p0 n (bif (decide ((spec_CallName (i : Int)) = (nth p0 0))) then (i : Int) else c) (i + 1) = _
    rw [ih, show i + 1 + n = i + (n + 1) by omega]
    rfl
def C0 : Call := Call.mk 0 ⟨#[]⟩ ⟨#[]⟩ 0 0 ⟨#[]⟩
def finRC (p0 : List ByteArray) (c : Call) : Call × Bool := bif (!((spec_PartsOf (spec_CallLine c)).2)) || (!(spec_l03Same ((spec_PartsOf (spec_CallLine c)).1) p0)) then (C0, false) else (c, true)
def kC (p0 : List ByteArray) (K : Int) (e : ByteArray × ByteArray × Int × Int × ByteArray) : Call × Bool := finRC p0 (Call.mk K e.1 e.2.1 e.2.2.1 e.2.2.2.1 e.2.2.2.2)
theorem spec_l1_zero (p0 : List ByteArray) (K : Int) (i : Nat) : spec_ReadCall_l1 p0 0 K i = spec_ReadCall_l2 p0 K i (kC p0 K) ((spec_l38Uses K).size - 0) ⟨#[]⟩ ⟨#[]⟩ 0 0 ⟨#[]⟩ 0 := rfl
theorem spec_l2_any (p0 : List ByteArray) (K : Int) (i0 : Nat) (k : (ByteArray × ByteArray × Int × Int × ByteArray) → Call × Bool) : ∀ n a b c d e i, ∃ x, spec_ReadCall_l2 p0 K i0 k n a b c d e i = k x := by
  intro n
  induction n with
  | zero => intro a b c d e i; exact ⟨_, rfl⟩
  | succ n ih =>
    intro a b c d e i
    rw [spec_ReadCall_l2]
    cases (decide ((i : Int) < ((spec_l38Uses K).size : Int))) && (decide ((IntKind.i64.wrap ((i : Int) + 1)) < (p0.length : Int))) with
    | true => exact ih _ _ _ _ _ _
    | false => exact ⟨_, rfl⟩
theorem same_len {a b : List ByteArray} (h : a.length ≠ b.length) : spec_l03Same a b = false := by
  unfold spec_l03Same
  rw [decide_eq_false (show ¬ (a.length : Int) = (b.length : Int) by omega)]
  rfl
theorem finC_len {p0 : List ByteArray} {c : Call} (hp : p0.length ≠ 0) (h : p0.length ≠ (spec_l38Uses c.Kind).size + 1) : finRC p0 c = (C0, false) := by
  unfold finRC
  rw [same_len (a := (spec_PartsOf (spec_CallLine c)).1) (b := p0) ?_]
  · rw [Bool.not_false, Bool.or_true]
    rfl
  · rcases CallLine_count c with e | e
    · rw [e]
      exact fun e2 => hp e2.symm
    · rw [e]
      exact fun e2 => h e2.symm
theorem Equal_twin (a b : List ByteArray) : slices_Equal_string a b = spec_l03Same a b := by
  have key : ∀ n i, slices_Equal_string_l1 a b n i = spec_l03Same_l1 a b n i := by
    intro n
    induction n with
    | zero => intro i; rfl
    | succ n ih => intro i; rw [slices_Equal_string_l1, spec_l03Same_l1, ih]
  unfold slices_Equal_string spec_l03Same
  rw [key]
theorem parts_false {x : ByteArray} (h : (spec_PartsOf x).2 = false) : (spec_PartsOf x).1 = [] := by
  rw [← PartsOf_twin] at h ⊢
  by_cases h1 : x.size ≤ 600
  · by_cases h2 : okB (sbytes x)
    · rw [parts_of h1 h2] at h ⊢
      unfold finW at h ⊢
      cases hc : decide (((fieldsS x).length : Int) > 12) with
      | true => rfl
      | false =>
        rw [hc] at h
        cases h
    · have : ∃ j, j < x.size ∧ ¬ (32 ≤ (byteAt x j).toNat ∧ (byteAt x j).toNat ≤ 126) := by
        refine Classical.byContradiction fun hn => h2 fun b hb => ?_
        obtain ⟨j, hj, rfl⟩ := mem_at hb
        exact Classical.byContradiction fun hh => hn ⟨j, hj, hh⟩
      obtain ⟨j, hj, hbad⟩ := this
      unfold impl_PartsOf
      rw [decide_eq_false (show ¬ (x.size : Int) > 600 by omega)]
      show (impl_PartsOf_l1 x (x.size - 0) 0).1 = []
      rw [impl_parts_bad x hj hbad _ _ (by omega) (Nat.zero_le _)]
  · unfold impl_PartsOf
    rw [decide_eq_true (show (x.size : Int) > 600 by omega)]
    rfl
theorem fin_twin {p0 : List ByteArray} {c : Call} (hg : Dat.good c) (hp : p0.length ≠ 0) : (bif !(slices_Equal_string ((impl_PartsOf (impl_CallLine c)).1) p0) then (C0, false) else (c, true)) = finRC p0 c := by
  unfold finRC
  rw [CallLine_twin hg, PartsOf_twin, Equal_twin]
  cases h : (spec_PartsOf (spec_CallLine c)).2 with
  | true => rfl
  | false =>
    rw [parts_false h, same_len (a := []) (b := p0) (fun e => hp e.symm)]
    rfl
theorem set_N (c : Call) (w : ByteArray) : impl_Call_setField c 78 w = ⟨c.Kind, w, c.To, c.A, c.B, c.Text⟩ := rfl
theorem set_T (c : Call) (w : ByteArray) : impl_Call_setField c 84 w = ⟨c.Kind, c.Name, w, c.A, c.B, c.Text⟩ := rfl
theorem set_A (c : Call) (w : ByteArray) : impl_Call_setField c 65 w = ⟨c.Kind, c.Name, c.To, (impl_ReadDecimal w).1, c.B, c.Text⟩ := rfl
theorem set_B (c : Call) (w : ByteArray) : impl_Call_setField c 66 w = ⟨c.Kind, c.Name, c.To, c.A, (impl_ReadDecimal w).1, c.Text⟩ := rfl
theorem set_X (c : Call) (w : ByteArray) : impl_Call_setField c 88 w = ⟨c.Kind, c.Name, c.To, c.A, c.B, (impl_Unhex w).1⟩ := rfl
theorem num_in {p0 : List ByteArray} {i : Nat} (h : i < p0.length) : spec_l38Num p0 (i : Int) = (spec_ReadDecimal (nth p0 i)).1 := by
  unfold spec_l38Num
  rw [decide_eq_false (show ¬ (i : Int) ≥ (p0.length : Int) by omega)]
  rfl
theorem uses_K {K : Int} (h : 0 ≤ K ∧ K ≤ 22) : (impl_fieldsOf K).size = (spec_l38Uses K).size ∧ ∀ i, i < (spec_l38Uses K).size → relB (byteAt (impl_fieldsOf K) i) (byteAt (spec_l38Uses K) i) = true := by
  rcases Int.lt_or_le 0 K with h1 | h1
  · obtain ⟨m, hm⟩ := of22 (k := K) (by omega)
    rw [hm]
    refine ⟨(uses_22 m).1, fun i hi => ?_⟩
    have h3 := spec_l38Uses_size ((m.val : Int) + 1)
    exact (uses_22 m).2 ⟨i, by omega⟩ hi
  · obtain rfl : K = 0 := by omega
    have hz : (spec_l38Uses 0).size = 0 := by decide +kernel
    exact ⟨by rw [hz]; decide +kernel, fun i hi => by omega⟩
theorem read_twin {p0 : List ByteArray} {K : Int} (hK : IntKind.i64.wrap (1 + slices_Index_string gl1 (nth p0 0)) = K) (hk : 0 ≤ K ∧ K ≤ 22) (hg : Dat.good p0) (hlen : p0.length = (spec_l38Uses K).size + 1) (i0 : Nat) :
    ∀ n i a b c d e, i + n = (spec_l38Uses K).size → Dat.good (Call.mk K a b c d e) → impl_ReadCall_l1 p0 n K a b c d e i = spec_ReadCall_l2 p0 K i0 (kC p0 K) n a b c d e i := by
  have hu := spec_l38Uses_size K
  intro n
  induction n with
  | zero =>
    intro i a b c d e _ hgc
    exact fin_twin hgc (by omega)
  | succ n ih =>
    intro i a b c d e h hgc
    have hgs := fun f : Int => impl_Call_setField_good (p0 := Call.mk K a b c d e) (p1 := f) (p2 := nth p0 (i + 1)) hgc (good_nths hg (i + 1))
    have hi := (uses_K hk).2 i (by omega)
    rw [impl_ReadCall_l1, spec_ReadCall_l2, hK, IntWalk.i64_in ((i : Int) + 1) (by omega), decide_eq_true (show (i : Int) < ((spec_l38Uses K).size : Int) by omega), decide_eq_true (show (i : Int) + 1 < (p0.length : Int) by omega), num_in (show i + 1 < p0.length by omega)]
    generalize byteAt (impl_fieldsOf K) i = f at hi ⊢
    generalize byteAt (spec_l38Uses K) i = u at hi ⊢
    simp only [relB, Bool.or_eq_true, Bool.and_eq_true, beq_iff_eq] at hi
    rcases hi with (((⟨rfl, rfl⟩ | ⟨rfl, rfl⟩) | ⟨rfl, rfl⟩) | ⟨rfl, rfl⟩) | ⟨rfl, rfl⟩
    · have := hgs 78
      rw [set_N] at this
      exact ih (i + 1) _ _ _ _ _ (by omega) this
    · have := hgs 84
      rw [set_T] at this
      exact ih (i + 1) _ _ _ _ _ (by omega) this
    · have := hgs 65
      rw [set_A] at this
      rw [show ((UInt8.toNat 65 : Nat) : Int) = 65 from rfl, set_A, ← ReadDecimal_twin]
      exact ih (i + 1) _ _ _ _ _ (by omega) this
    · have := hgs 66
      rw [set_B] at this
      rw [show ((UInt8.toNat 66 : Nat) : Int) = 66 from rfl, set_B, ← ReadDecimal_twin]
      exact ih (i + 1) _ _ _ _ _ (by omega) this
    · have := hgs 88
      rw [set_X] at this
      rw [show ((UInt8.toNat 88 : Nat) : Int) = 88 from rfl, set_X, ← Unhex_twin]
      exact ih (i + 1) _ _ _ _ _ (by omega) this
theorem good_C0 {K : Int} (hk : 0 ≤ K ∧ K ≤ 22) : Dat.good (Call.mk K ⟨#[]⟩ ⟨#[]⟩ 0 0 ⟨#[]⟩) := ⟨by unfold Dat.good; simp [instDatInt]; unfold I64; omega, Nat.zero_le _, Nat.zero_le _, gi 0, gi 0, Nat.zero_le _⟩
theorem ReadCall_twin {p0 : List ByteArray} (hg : Dat.good p0) (hl : p0.length ≤ 1048576) : impl_ReadCall p0 = spec_ReadCall p0 := by
  unfold impl_ReadCall spec_ReadCall
  by_cases h0 : p0.length = 0
  · rw [decide_eq_true (show (p0.length : Int) = 0 by omega)]
    rfl
  · rw [decide_eq_false (show ¬ (p0.length : Int) = 0 by omega), spec_l1_kind, spec_l1_zero]
    obtain ⟨hk1, hk2⟩ := kind_twin (nth p0 0)
    rw [show 23 - 1 = 22 from rfl, ← hk1]
    simp only [cond_false]
    generalize kindL (nth p0 0) 22 0 1 = K at hk1 hk2 ⊢
    rw [(uses_K hk2).1, IntWalk.i64_in ((p0.length : Int) - 1) (by omega)]
    by_cases hlen : p0.length = (spec_l38Uses K).size + 1
    · rw [decide_eq_true (show ((spec_l38Uses K).size : Int) = (p0.length : Int) - 1 by omega)]
      exact read_twin hk1.symm hk2 hg hlen _ _ _ _ _ _ _ _ (by omega) (good_C0 hk2)
    · rw [decide_eq_false (show ¬ ((spec_l38Uses K).size : Int) = (p0.length : Int) - 1 by omega)]
      obtain ⟨x, hx⟩ := spec_l2_any p0 K (1 + 22) (kC p0 K) ((spec_l38Uses K).size - 0) ⟨#[]⟩ ⟨#[]⟩ 0 0 ⟨#[]⟩ 0
      rw [hx]
      unfold kC
      rw [finC_len h0 hlen]
      rfl

end Go.Proofs.YtmjjcihoobnbgaaDoor.Fw
