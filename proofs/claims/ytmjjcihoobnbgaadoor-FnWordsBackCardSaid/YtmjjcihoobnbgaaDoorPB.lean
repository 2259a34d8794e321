/-
  A call comes back from its line. No condition.
-/
import Derived.Test.YtmjjcihoobnbgaaDoorPR4
namespace Go.Proofs.YtmjjcihoobnbgaaDoor.Fw
open Go.RowKit
set_option linter.unusedVariables false
set_option linter.unusedSimpArgs false
set_option maxRecDepth 100000
/-! ## A call comes back from its line -/
theorem ReadDecimal_back {a : Int} (h : spec_l38Fits a = true) : (impl_ReadDecimal (spec_Decimal a)).1 = a := by
  have hs := (dec_clean h).2
  obtain ⟨u, rfl, hu⟩ := fits_nat h
  have hI : I64 (u : Int) := by unfold I64; omega
  have e : sbytes (spec_Decimal (u : Int)) = Lib.decDigits u := by rw [Decimal_twin hI, dec_list]
  rw [ReadDecimal_twin, spec_dec _ hs, e, decFrom_digits]
  show (finD (spec_Decimal (u : Int)) u).1 = _
  unfold finD
  rw [decide_eq_false (show ¬ (u : Int) > 1000000000 by omega), Decimal_twin hI, decide_eq_true rfl]
  rfl
theorem bstr_sbytes (p0 : ByteArray) : bstr (sbytes p0) = p0 := rfl
theorem Unhex_back {t : ByteArray} (h : t.size ≤ 64) : (impl_Unhex (hexText t)).1 = t := by
  unfold hexText
  by_cases e : (spec_Hex t).1 = ⟨#[]⟩
  · have ht : t.size = 0 := by
      rw [spec_Hex_is (by omega)] at e
      have := hexEnc_size (sbytes t)
      rw [e, sbytes_length] at this
      have h0 : (⟨#[]⟩ : ByteArray).size = 0 := rfl
      omega
    rw [decide_eq_true e]
    show (impl_Unhex ⟨#[45]⟩).1 = t
    rw [impl_unhex_bad ⟨#[45]⟩ fun raw _ e2 => ?_]
    · show (⟨#[]⟩ : ByteArray) = t
      obtain ⟨⟨l⟩⟩ := t
      cases l with
      | nil => rfl
      | cons a r => exact absurd ht (by show ¬ (r.length + 1 = 0); omega)
    · have := congrArg ByteArray.size e2
      rw [hexEnc_size] at this
      have h1 : (⟨#[45]⟩ : ByteArray).size = 1 := rfl
      omega
  · rw [decide_eq_false e]
    show (impl_Unhex (spec_Hex t).1).1 = t
    rw [spec_Hex_is (by omega), impl_unhex_good _ (by rw [sbytes_length]; omega)]
    exact bstr_sbytes t
theorem nth_lw (c : Call) (x : ByteArray) {n j : Nat} (h : j < n) : nth (x :: lw c 0 n) (j + 1) = ftx c (byteAt (spec_l38Uses c.Kind) j) := by
  have hl : j < (lw c 0 n).length := by unfold lw; rw [List.length_map, List.length_range']; exact h
  have e : nth (x :: lw c 0 n) (j + 1) = (lw c 0 n)[j] := by simp [nth, List.getD_eq_getElem?_getD, hl]
  rw [e]
  simp [lw]
theorem told_N (N T X : ByteArray) (A B : Int) : ∀ n : Fin 22, (∃ j, j < (spec_l38Uses ((n.val : Int) + 1)).size ∧ byteAt (spec_l38Uses ((n.val : Int) + 1)) j = 110) ∨ (spec_Told ⟨(n.val : Int) + 1, N, T, A, B, X⟩).Name = ⟨#[]⟩
  | ⟨0, _⟩ => .inl ⟨0, show 0 < (spec_l38Uses 1).size ∧ byteAt (spec_l38Uses 1) 0 = 110 from by decide +kernel⟩
  | ⟨1, _⟩ => .inl ⟨0, show 0 < (spec_l38Uses 2).size ∧ byteAt (spec_l38Uses 2) 0 = 110 from by decide +kernel⟩
  | ⟨2, _⟩ => .inl ⟨0, show 0 < (spec_l38Uses 3).size ∧ byteAt (spec_l38Uses 3) 0 = 110 from by decide +kernel⟩
  | ⟨3, _⟩ => .inl ⟨0, show 0 < (spec_l38Uses 4).size ∧ byteAt (spec_l38Uses 4) 0 = 110 from by decide +kernel⟩
  | ⟨4, _⟩ => .inr (by kernel_rfl)
  | ⟨5, _⟩ => .inl ⟨0, show 0 < (spec_l38Uses 6).size ∧ byteAt (spec_l38Uses 6) 0 = 110 from by decide +kernel⟩
  | ⟨6, _⟩ => .inl ⟨0, show 0 < (spec_l38Uses 7).size ∧ byteAt (spec_l38Uses 7) 0 = 110 from by decide +kernel⟩
  | ⟨7, _⟩ => .inl ⟨0, show 0 < (spec_l38Uses 8).size ∧ byteAt (spec_l38Uses 8) 0 = 110 from by decide +kernel⟩
  | ⟨8, _⟩ => .inr (by kernel_rfl)
  | ⟨9, _⟩ => .inr (by kernel_rfl)
  | ⟨10, _⟩ => .inr (by kernel_rfl)
  | ⟨11, _⟩ => .inr (by kernel_rfl)
  | ⟨12, _⟩ => .inr (by kernel_rfl)
  | ⟨13, _⟩ => .inr (by kernel_rfl)
  | ⟨14, _⟩ => .inr (by kernel_rfl)
  | ⟨15, _⟩ => .inr (by kernel_rfl)
  | ⟨16, _⟩ => .inr (by kernel_rfl)
  | ⟨17, _⟩ => .inr (by kernel_rfl)
  | ⟨18, _⟩ => .inr (by kernel_rfl)
  | ⟨19, _⟩ => .inr (by kernel_rfl)
  | ⟨20, _⟩ => .inr (by kernel_rfl)
  | ⟨21, _⟩ => .inr (by kernel_rfl)
  | ⟨n + 22, h⟩ => by omega
theorem told_T (N T X : ByteArray) (A B : Int) : ∀ n : Fin 22, (∃ j, j < (spec_l38Uses ((n.val : Int) + 1)).size ∧ byteAt (spec_l38Uses ((n.val : Int) + 1)) j = 116) ∨ (spec_Told ⟨(n.val : Int) + 1, N, T, A, B, X⟩).To = ⟨#[]⟩
  | ⟨0, _⟩ => .inr (by kernel_rfl)
  | ⟨1, _⟩ => .inl ⟨1, show 1 < (spec_l38Uses 2).size ∧ byteAt (spec_l38Uses 2) 1 = 116 from by decide +kernel⟩
  | ⟨2, _⟩ => .inr (by kernel_rfl)
  | ⟨3, _⟩ => .inl ⟨1, show 1 < (spec_l38Uses 4).size ∧ byteAt (spec_l38Uses 4) 1 = 116 from by decide +kernel⟩
  | ⟨4, _⟩ => .inr (by kernel_rfl)
  | ⟨5, _⟩ => .inr (by kernel_rfl)
  | ⟨6, _⟩ => .inr (by kernel_rfl)
  | ⟨7, _⟩ => .inr (by kernel_rfl)
  | ⟨8, _⟩ => .inr (by kernel_rfl)
  | ⟨9, _⟩ => .inr (by kernel_rfl)
  | ⟨10, _⟩ => .inr (by kernel_rfl)
  | ⟨11, _⟩ => .inr (by kernel_rfl)
  | ⟨12, _⟩ => .inr (by kernel_rfl)
  | ⟨13, _⟩ => .inr (by kernel_rfl)
  | ⟨14, _⟩ => .inr (by kernel_rfl)
  | ⟨15, _⟩ => .inr (by kernel_rfl)
  | ⟨16, _⟩ => .inr (by kernel_rfl)
  | ⟨17, _⟩ => .inr (by kernel_rfl)
  | ⟨18, _⟩ => .inr (by kernel_rfl)
  | ⟨19, _⟩ => .inr (by kernel_rfl)
  | ⟨20, _⟩ => .inr (by kernel_rfl)
  | ⟨21, _⟩ => .inr (by kernel_rfl)
  | ⟨n + 22, h⟩ => by omega
theorem told_a (N T X : ByteArray) (A B : Int) : ∀ n : Fin 22, (∃ j, j < (spec_l38Uses ((n.val : Int) + 1)).size ∧ byteAt (spec_l38Uses ((n.val : Int) + 1)) j = 97) ∨ (spec_Told ⟨(n.val : Int) + 1, N, T, A, B, X⟩).A = 0
  | ⟨0, _⟩ => .inr (by kernel_rfl)
  | ⟨1, _⟩ => .inr (by kernel_rfl)
  | ⟨2, _⟩ => .inr (by kernel_rfl)
  | ⟨3, _⟩ => .inr (by kernel_rfl)
  | ⟨4, _⟩ => .inr (by kernel_rfl)
  | ⟨5, _⟩ => .inl ⟨1, show 1 < (spec_l38Uses 6).size ∧ byteAt (spec_l38Uses 6) 1 = 97 from by decide +kernel⟩
  | ⟨6, _⟩ => .inl ⟨1, show 1 < (spec_l38Uses 7).size ∧ byteAt (spec_l38Uses 7) 1 = 97 from by decide +kernel⟩
  | ⟨7, _⟩ => .inl ⟨1, show 1 < (spec_l38Uses 8).size ∧ byteAt (spec_l38Uses 8) 1 = 97 from by decide +kernel⟩
  | ⟨8, _⟩ => .inr (by kernel_rfl)
  | ⟨9, _⟩ => .inl ⟨0, show 0 < (spec_l38Uses 10).size ∧ byteAt (spec_l38Uses 10) 0 = 97 from by decide +kernel⟩
  | ⟨10, _⟩ => .inl ⟨0, show 0 < (spec_l38Uses 11).size ∧ byteAt (spec_l38Uses 11) 0 = 97 from by decide +kernel⟩
  | ⟨11, _⟩ => .inr (by kernel_rfl)
  | ⟨12, _⟩ => .inl ⟨0, show 0 < (spec_l38Uses 13).size ∧ byteAt (spec_l38Uses 13) 0 = 97 from by decide +kernel⟩
  | ⟨13, _⟩ => .inl ⟨0, show 0 < (spec_l38Uses 14).size ∧ byteAt (spec_l38Uses 14) 0 = 97 from by decide +kernel⟩
  | ⟨14, _⟩ => .inr (by kernel_rfl)
  | ⟨15, _⟩ => .inl ⟨0, show 0 < (spec_l38Uses 16).size ∧ byteAt (spec_l38Uses 16) 0 = 97 from by decide +kernel⟩
  | ⟨16, _⟩ => .inr (by kernel_rfl)
  | ⟨17, _⟩ => .inl ⟨0, show 0 < (spec_l38Uses 18).size ∧ byteAt (spec_l38Uses 18) 0 = 97 from by decide +kernel⟩
  | ⟨18, _⟩ => .inl ⟨0, show 0 < (spec_l38Uses 19).size ∧ byteAt (spec_l38Uses 19) 0 = 97 from by decide +kernel⟩
  | ⟨19, _⟩ => .inl ⟨0, show 0 < (spec_l38Uses 20).size ∧ byteAt (spec_l38Uses 20) 0 = 97 from by decide +kernel⟩
  | ⟨20, _⟩ => .inl ⟨0, show 0 < (spec_l38Uses 21).size ∧ byteAt (spec_l38Uses 21) 0 = 97 from by decide +kernel⟩
  | ⟨21, _⟩ => .inr (by kernel_rfl)
  | ⟨n + 22, h⟩ => by omega
theorem told_b (N T X : ByteArray) (A B : Int) : ∀ n : Fin 22, (∃ j, j < (spec_l38Uses ((n.val : Int) + 1)).size ∧ byteAt (spec_l38Uses ((n.val : Int) + 1)) j = 98) ∨ (spec_Told ⟨(n.val : Int) + 1, N, T, A, B, X⟩).B = 0
  | ⟨0, _⟩ => .inr (by kernel_rfl)
  | ⟨1, _⟩ => .inr (by kernel_rfl)
  | ⟨2, _⟩ => .inr (by kernel_rfl)
  | ⟨3, _⟩ => .inr (by kernel_rfl)
  | ⟨4, _⟩ => .inr (by kernel_rfl)
  | ⟨5, _⟩ => .inl ⟨2, show 2 < (spec_l38Uses 6).size ∧ byteAt (spec_l38Uses 6) 2 = 98 from by decide +kernel⟩
  | ⟨6, _⟩ => .inr (by kernel_rfl)
  | ⟨7, _⟩ => .inr (by kernel_rfl)
  | ⟨8, _⟩ => .inr (by kernel_rfl)
  | ⟨9, _⟩ => .inr (by kernel_rfl)
  | ⟨10, _⟩ => .inr (by kernel_rfl)
  | ⟨11, _⟩ => .inr (by kernel_rfl)
  | ⟨12, _⟩ => .inr (by kernel_rfl)
  | ⟨13, _⟩ => .inr (by kernel_rfl)
  | ⟨14, _⟩ => .inr (by kernel_rfl)
  | ⟨15, _⟩ => .inl ⟨1, show 1 < (spec_l38Uses 16).size ∧ byteAt (spec_l38Uses 16) 1 = 98 from by decide +kernel⟩
  | ⟨16, _⟩ => .inr (by kernel_rfl)
  | ⟨17, _⟩ => .inr (by kernel_rfl)
  | ⟨18, _⟩ => .inr (by kernel_rfl)
  | ⟨19, _⟩ => .inr (by kernel_rfl)
  | ⟨20, _⟩ => .inr (by kernel_rfl)
  | ⟨21, _⟩ => .inr (by kernel_rfl)
  | ⟨n + 22, h⟩ => by omega
theorem told_X (N T X : ByteArray) (A B : Int) : ∀ n : Fin 22, (∃ j, j < (spec_l38Uses ((n.val : Int) + 1)).size ∧ byteAt (spec_l38Uses ((n.val : Int) + 1)) j = 120) ∨ (spec_Told ⟨(n.val : Int) + 1, N, T, A, B, X⟩).Text = ⟨#[]⟩
  | ⟨0, _⟩ => .inr (by kernel_rfl)
  | ⟨1, _⟩ => .inr (by kernel_rfl)
  | ⟨2, _⟩ => .inr (by kernel_rfl)
  | ⟨3, _⟩ => .inr (by kernel_rfl)
  | ⟨4, _⟩ => .inr (by kernel_rfl)
  | ⟨5, _⟩ => .inr (by kernel_rfl)
  | ⟨6, _⟩ => .inl ⟨2, show 2 < (spec_l38Uses 7).size ∧ byteAt (spec_l38Uses 7) 2 = 120 from by decide +kernel⟩
  | ⟨7, _⟩ => .inr (by kernel_rfl)
  | ⟨8, _⟩ => .inr (by kernel_rfl)
  | ⟨9, _⟩ => .inl ⟨1, show 1 < (spec_l38Uses 10).size ∧ byteAt (spec_l38Uses 10) 1 = 120 from by decide +kernel⟩
  | ⟨10, _⟩ => .inr (by kernel_rfl)
  | ⟨11, _⟩ => .inr (by kernel_rfl)
  | ⟨12, _⟩ => .inr (by kernel_rfl)
  | ⟨13, _⟩ => .inr (by kernel_rfl)
  | ⟨14, _⟩ => .inr (by kernel_rfl)
  | ⟨15, _⟩ => .inr (by kernel_rfl)
  | ⟨16, _⟩ => .inr (by kernel_rfl)
  | ⟨17, _⟩ => .inr (by kernel_rfl)
  | ⟨18, _⟩ => .inr (by kernel_rfl)
  | ⟨19, _⟩ => .inl ⟨1, show 1 < (spec_l38Uses 20).size ∧ byteAt (spec_l38Uses 20) 1 = 120 from by decide +kernel⟩
  | ⟨20, _⟩ => .inr (by kernel_rfl)
  | ⟨21, _⟩ => .inl ⟨0, show 0 < (spec_l38Uses 22).size ∧ byteAt (spec_l38Uses 22) 0 = 120 from by decide +kernel⟩
  | ⟨n + 22, h⟩ => by omega
/-- A field of what is being read: as it was told, or its letter has not come yet. -/
def fo {α : Type} (c : Call) (x y z : α) (u : UInt8) (i : Nat) : Prop := x = y ∨ (x = z ∧ ∀ j, j < i → byteAt (spec_l38Uses c.Kind) j ≠ u)
theorem fo.keep {α : Type} {c : Call} {x y z : α} {u : UInt8} {i : Nat} (h : fo c x y z u i) (hi : byteAt (spec_l38Uses c.Kind) i ≠ u) : fo c x y z u (i + 1) := by
  rcases h with h | ⟨h1, h2⟩
  · exact .inl h
  · refine .inr ⟨h1, fun j hj => ?_⟩
    by_cases e : j = i
    · rw [e]
      exact hi
    · exact h2 j (by omega)
structure Rd (c d : Call) (i : Nat) : Prop where
  k : d.Kind = c.Kind
  n : fo c d.Name c.Name ⟨#[]⟩ 110 i
  t : fo c d.To c.To ⟨#[]⟩ 116 i
  a : fo c d.A c.A 0 97 i
  b : fo c d.B c.B 0 98 i
  x : fo c d.Text c.Text ⟨#[]⟩ 120 i
theorem fo.fin {α : Type} {c : Call} {x y z : α} {u : UInt8} (h : fo c x y z u (spec_l38Uses c.Kind).size) (hd : (∃ j, j < (spec_l38Uses c.Kind).size ∧ byteAt (spec_l38Uses c.Kind) j = u) ∨ y = z) : x = y := by
  rcases h with h | ⟨h1, h2⟩
  · exact h
  · rcases hd with ⟨j, hj, e⟩ | e
    · exact absurd e (h2 j hj)
    · rw [h1, e]
theorem Rd.fin {c d : Call} (hk : 1 ≤ c.Kind ∧ c.Kind ≤ 22) (ht : spec_Told c = c) (h : Rd c d (spec_l38Uses c.Kind).size) : d = c := by
  obtain ⟨K, N, T, A, B, X⟩ := c
  obtain ⟨m, hm⟩ := of22 hk
  simp only at hm
  subst hm
  have e1 := h.n.fin (by have := told_N N T X A B m; rw [ht] at this; exact this)
  have e2 := h.t.fin (by have := told_T N T X A B m; rw [ht] at this; exact this)
  have e3 := h.a.fin (by have := told_a N T X A B m; rw [ht] at this; exact this)
  have e4 := h.b.fin (by have := told_b N T X A B m; rw [ht] at this; exact this)
  have e5 := h.x.fin (by have := told_X N T X A B m; rw [ht] at this; exact this)
  have e0 := h.k
  obtain ⟨K', N', T', A', B', X'⟩ := d
  simp only at e0 e1 e2 e3 e4 e5
  subst e0 e1 e2 e3 e4 e5
  rfl
theorem same_refl (ws : List ByteArray) : slices_Equal_string ws ws = true := by
  have key : ∀ n i, slices_Equal_string_l1 ws ws n i = true := by
    intro n
    induction n with
    | zero => intro i; rfl
    | succ n ih =>
      intro i
      rw [slices_Equal_string_l1, decide_eq_true rfl, ih]
      rfl
  unfold slices_Equal_string
  rw [decide_eq_true rfl]
  exact key _ _
theorem back_l1 {c : Call} (hk : 1 ≤ c.Kind ∧ c.Kind ≤ 22) (ht : spec_Told c = c) (hx : c.Text.size ≤ 64) (hA : spec_l38Fits c.A = true) (hB : spec_l38Fits c.B = true)
    (ws : List ByteArray) (hws : ws = spec_CallName c.Kind :: lw c 0 (spec_l38Uses c.Kind).size) (hp : (impl_PartsOf (impl_CallLine c)).1 = ws) (hK : IntKind.i64.wrap (1 + slices_Index_string gl1 (nth ws 0)) = c.Kind) :
    ∀ n i (d : Call), i + n = (spec_l38Uses c.Kind).size → Rd c d i → impl_ReadCall_l1 ws n d.Kind d.Name d.To d.A d.B d.Text i = (c, true) := by
  intro n
  induction n with
  | zero =>
    intro i d h hd
    have : i = (spec_l38Uses c.Kind).size := by omega
    subst this
    obtain rfl := hd.fin hk ht
    show (bif !(slices_Equal_string ((impl_PartsOf (impl_CallLine d)).1) ws) then (C0, false) else (d, true)) = (d, true)
    rw [hp, same_refl]
    rfl
  | succ n ih =>
    intro i d h hd
    have hi := (uses_K (K := c.Kind) (by omega)).2 i (by omega)
    have hw : nth ws (i + 1) = ftx c (byteAt (spec_l38Uses c.Kind) i) := by rw [hws]; exact nth_lw c _ (by omega)
    rw [impl_ReadCall_l1, hK, hw]
    have key : ∀ u f : UInt8, byteAt (spec_l38Uses c.Kind) i = u → byteAt (impl_fieldsOf c.Kind) i = f → Rd c (impl_Call_setField d (f.toNat : Int) (ftx c u)) (i + 1) → impl_ReadCall_l1 ws n (impl_Call_setField (Call.mk d.Kind d.Name d.To d.A d.B d.Text) ((byteAt (impl_fieldsOf c.Kind) i).toNat : Int) (ftx c (byteAt (spec_l38Uses c.Kind) i))).Kind (impl_Call_setField (Call.mk d.Kind d.Name d.To d.A d.B d.Text) ((byteAt (impl_fieldsOf c.Kind) i).toNat : Int) (ftx c (byteAt (spec_l38Uses c.Kind) i))).Name (impl_Call_setField (Call.mk d.Kind d.Name d.To d.A d.B d.Text) ((byteAt (impl_fieldsOf c.Kind) i).toNat : Int) (ftx c (byteAt (spec_l38Uses c.Kind) i))).To (impl_Call_setField (Call.mk d.Kind d.Name d.To d.A d.B d.Text) ((byteAt (impl_fieldsOf c.Kind) i).toNat : Int) (ftx c (byteAt (spec_l38Uses c.Kind) i))).A (impl_Call_setField (Call.mk d.Kind d.Name d.To d.A d.B d.Text) ((byteAt (impl_fieldsOf c.Kind) i).toNat : Int) (ftx c (byteAt (spec_l38Uses c.Kind) i))).B (impl_Call_setField (Call.mk d.Kind d.Name d.To d.A d.B d.Text) ((byteAt (impl_fieldsOf c.Kind) i).toNat : Int) (ftx c (byteAt (spec_l38Uses c.Kind) i))).Text (i + 1) = (c, true) := fun u f hu hf hr => by
      rw [hu, hf]
      exact ih (i + 1) _ (by omega) hr
    refine key _ _ rfl rfl ?_
    have ne : ∀ v : UInt8, byteAt (spec_l38Uses c.Kind) i ≠ v → ∀ {α : Type} {x y z : α}, fo c x y z v i → fo c x y z v (i + 1) := fun v hv _ _ _ _ hf => hf.keep hv
    revert ne
    generalize byteAt (impl_fieldsOf c.Kind) i = f at hi ⊢
    generalize byteAt (spec_l38Uses c.Kind) i = u at hi ⊢
    intro ne
    simp only [relB, Bool.or_eq_true, Bool.and_eq_true, beq_iff_eq] at hi
    rcases hi with (((⟨rfl, rfl⟩ | ⟨rfl, rfl⟩) | ⟨rfl, rfl⟩) | ⟨rfl, rfl⟩) | ⟨rfl, rfl⟩
    · rw [show ((UInt8.toNat 78 : Nat) : Int) = 78 from rfl, set_N]
      exact ⟨hd.k, .inl rfl, ne 116 (by decide) hd.t, ne 97 (by decide) hd.a, ne 98 (by decide) hd.b, ne 120 (by decide) hd.x⟩
    · rw [show ((UInt8.toNat 84 : Nat) : Int) = 84 from rfl, set_T]
      exact ⟨hd.k, ne 110 (by decide) hd.n, .inl rfl, ne 97 (by decide) hd.a, ne 98 (by decide) hd.b, ne 120 (by decide) hd.x⟩
    · rw [show ((UInt8.toNat 65 : Nat) : Int) = 65 from rfl, set_A]
      exact ⟨hd.k, ne 110 (by decide) hd.n, ne 116 (by decide) hd.t, .inl (ReadDecimal_back hA), ne 98 (by decide) hd.b, ne 120 (by decide) hd.x⟩
    · rw [show ((UInt8.toNat 66 : Nat) : Int) = 66 from rfl, set_B]
      exact ⟨hd.k, ne 110 (by decide) hd.n, ne 116 (by decide) hd.t, ne 97 (by decide) hd.a, .inl (ReadDecimal_back hB), ne 120 (by decide) hd.x⟩
    · rw [show ((UInt8.toNat 88 : Nat) : Int) = 88 from rfl, set_X]
      exact ⟨hd.k, ne 110 (by decide) hd.n, ne 116 (by decide) hd.t, ne 97 (by decide) hd.a, ne 98 (by decide) hd.b, .inl (Unhex_back hx)⟩
theorem ReadBack {c : Call} (hg : Dat.good c) (h : spec_CallLine c ≠ ⟨#[]⟩) : (impl_PartsOf (impl_CallLine c)).2 = true ∧ impl_ReadCall (impl_PartsOf (impl_CallLine c)).1 = (c, true) ∧ nth (impl_PartsOf (impl_CallLine c)).1 0 = impl_CallName c.Kind ∧ 0 < (impl_PartsOf (impl_CallLine c)).1.length := by
  obtain ⟨hk, hp, hok, ht, hA, hB⟩ := CallLine_words c h
  obtain ⟨_, _, _, hx⟩ := spec_CallOk_t hok
  have e : impl_PartsOf (impl_CallLine c) = (spec_CallName c.Kind :: lw c 0 (spec_l38Uses c.Kind).size, true) := by
    rw [CallLine_twin hg, PartsOf_twin, hp]
  have hu := spec_l38Uses_size c.Kind
  have hK : IntKind.i64.wrap (1 + slices_Index_string gl1 (spec_CallName c.Kind)) = c.Kind := by
    obtain ⟨m, hm⟩ := of22 hk
    rw [hm, names_22 m]
    exact (kind_22 m).2
  refine ⟨by rw [e], ?_, by rw [e]; exact (CallName_in hk).symm, by rw [e]; exact Nat.succ_pos _⟩
  have hp1 : (impl_PartsOf (impl_CallLine c)).1 = spec_CallName c.Kind :: lw c 0 (spec_l38Uses c.Kind).size := by rw [e]
  have hlen : (spec_CallName c.Kind :: lw c 0 (spec_l38Uses c.Kind).size).length = (spec_l38Uses c.Kind).size + 1 := by
    unfold lw
    rw [List.length_cons, List.length_map, List.length_range']
  rw [hp1]
  unfold impl_ReadCall
  rw [show nth (spec_CallName c.Kind :: lw c 0 (spec_l38Uses c.Kind).size) 0 = spec_CallName c.Kind from rfl, hK, hlen, decide_eq_false (show ¬ (((spec_l38Uses c.Kind).size + 1 : Nat) : Int) = 0 by omega), (uses_K (K := c.Kind) (by omega)).1, IntWalk.i64_in _ (by omega), decide_eq_true (show (((spec_l38Uses c.Kind).size : Nat) : Int) = (((spec_l38Uses c.Kind).size + 1 : Nat) : Int) - 1 by omega)]
  exact back_l1 hk ht hx hA hB _ rfl hp1 hK ((spec_l38Uses c.Kind).size - 0) 0 (Call.mk c.Kind ⟨#[]⟩ ⟨#[]⟩ 0 0 ⟨#[]⟩) (by omega) ⟨rfl, .inr ⟨rfl, fun j hj => by omega⟩, .inr ⟨rfl, fun j hj => by omega⟩, .inr ⟨rfl, fun j hj => by omega⟩, .inr ⟨rfl, fun j hj => by omega⟩, .inr ⟨rfl, fun j hj => by omega⟩⟩
/-! ## A line is told -/
theorem line_some {c : Call} (hn : ∀ i, i < (spec_l38Uses c.Kind).size → (byteAt (spec_l38Uses c.Kind) i = 110 → spec_NameOk c.Name = true) ∧ (byteAt (spec_l38Uses c.Kind) i = 116 → spec_NameOk c.To = true)) : ∀ n i v, i + n = (spec_l38Uses c.Kind).size → v.size ≠ 0 → (spec_CallLine_l1 c n v i).size ≠ 0 := by
  intro n
  induction n with
  | zero => intro i v _ h; exact h
  | succ n ih =>
    intro i v h hv
    have hh : ∀ w : ByteArray, ((v ++ (⟨#[32]⟩ : ByteArray)) ++ w).size ≠ 0 := fun w => by rw [sp_size]; omega
    obtain ⟨h1, h2⟩ := hn i (by omega)
    rw [spec_CallLine_l1]
    cases e1 : decide (((byteAt (spec_l38Uses c.Kind) i).toNat : Int) = 110) with
    | true =>
      have : byteAt (spec_l38Uses c.Kind) i = 110 := UInt8.toNat_inj.1 (by have := of_decide_eq_true e1; show _ = 110; omega)
      rw [h1 this]
      exact ih _ _ (by omega) (hh _)
    | false =>
      cases e2 : decide (((byteAt (spec_l38Uses c.Kind) i).toNat : Int) = 116) with
      | true =>
        have : byteAt (spec_l38Uses c.Kind) i = 116 := UInt8.toNat_inj.1 (by have := of_decide_eq_true e2; show _ = 116; omega)
        rw [h2 this]
        exact ih _ _ (by omega) (hh _)
      | false =>
        refine ih _ _ (by omega) ?_
        cases decide (((byteAt (spec_l38Uses c.Kind) i).toNat : Int) = 97)
        · cases decide (((byteAt (spec_l38Uses c.Kind) i).toNat : Int) = 98)
          · exact hh _
          · exact hh _
        · exact hh _
theorem fitsB {b : Bool} {x y : Int} (hx : spec_l38Fits x = true) (hy : spec_l38Fits y = true) : spec_l38Fits (bif b then x else y) = true := by cases b <;> assumption
theorem fits_Told {c : Call} (hA : spec_l38Fits c.A = true) (hB : spec_l38Fits c.B = true) : spec_l38Fits (spec_Told c).A = true ∧ spec_l38Fits (spec_Told c).B = true := by
  have h0 : spec_l38Fits 0 = true := rfl
  unfold spec_Told
  constructor
  · show spec_l38Fits (bif _ then _ else _) = true
    repeat' (first | assumption | apply fitsB)
  · show spec_l38Fits (bif _ then _ else _) = true
    repeat' (first | assumption | apply fitsB)
def cxy (k A B : Int) : Call := Call.mk k ⟨#[120]⟩ ⟨#[121]⟩ A B ⟨#[97, 98]⟩
def named (k A B : Int) (i : Nat) : Bool := (bif byteAt (spec_l38Uses k) i == 110 then spec_NameOk (spec_Told (cxy k A B)).Name else true) && (bif byteAt (spec_l38Uses k) i == 116 then spec_NameOk (spec_Told (cxy k A B)).To else true)
theorem xy_22 (A B : Int) : ∀ n : Fin 22, (spec_CallOk (spec_Told (cxy ((n.val : Int) + 1) A B)) && (named ((n.val : Int) + 1) A B 0 && (named ((n.val : Int) + 1) A B 1 && named ((n.val : Int) + 1) A B 2))) = true ∧ spec_Told (spec_Told (cxy ((n.val : Int) + 1) A B)) = spec_Told (cxy ((n.val : Int) + 1) A B) ∧ (spec_Told (cxy ((n.val : Int) + 1) A B)).Kind = (n.val : Int) + 1
  | ⟨0, _⟩ => ⟨by kernel_rfl, by kernel_rfl, by kernel_rfl⟩
  | ⟨1, _⟩ => ⟨by kernel_rfl, by kernel_rfl, by kernel_rfl⟩
  | ⟨2, _⟩ => ⟨by kernel_rfl, by kernel_rfl, by kernel_rfl⟩
  | ⟨3, _⟩ => ⟨by kernel_rfl, by kernel_rfl, by kernel_rfl⟩
  | ⟨4, _⟩ => ⟨by kernel_rfl, by kernel_rfl, by kernel_rfl⟩
  | ⟨5, _⟩ => ⟨by kernel_rfl, by kernel_rfl, by kernel_rfl⟩
  | ⟨6, _⟩ => ⟨by kernel_rfl, by kernel_rfl, by kernel_rfl⟩
  | ⟨7, _⟩ => ⟨by kernel_rfl, by kernel_rfl, by kernel_rfl⟩
  | ⟨8, _⟩ => ⟨by kernel_rfl, by kernel_rfl, by kernel_rfl⟩
  | ⟨9, _⟩ => ⟨by kernel_rfl, by kernel_rfl, by kernel_rfl⟩
  | ⟨10, _⟩ => ⟨by kernel_rfl, by kernel_rfl, by kernel_rfl⟩
  | ⟨11, _⟩ => ⟨by kernel_rfl, by kernel_rfl, by kernel_rfl⟩
  | ⟨12, _⟩ => ⟨by kernel_rfl, by kernel_rfl, by kernel_rfl⟩
  | ⟨13, _⟩ => ⟨by kernel_rfl, by kernel_rfl, by kernel_rfl⟩
  | ⟨14, _⟩ => ⟨by kernel_rfl, by kernel_rfl, by kernel_rfl⟩
  | ⟨15, _⟩ => ⟨by kernel_rfl, by kernel_rfl, by kernel_rfl⟩
  | ⟨16, _⟩ => ⟨by kernel_rfl, by kernel_rfl, by kernel_rfl⟩
  | ⟨17, _⟩ => ⟨by kernel_rfl, by kernel_rfl, by kernel_rfl⟩
  | ⟨18, _⟩ => ⟨by kernel_rfl, by kernel_rfl, by kernel_rfl⟩
  | ⟨19, _⟩ => ⟨by kernel_rfl, by kernel_rfl, by kernel_rfl⟩
  | ⟨20, _⟩ => ⟨by kernel_rfl, by kernel_rfl, by kernel_rfl⟩
  | ⟨21, _⟩ => ⟨by kernel_rfl, by kernel_rfl, by kernel_rfl⟩
  | ⟨n + 22, h⟩ => by omega
theorem xy_some {k A B : Int} (hk : 1 ≤ k ∧ k ≤ 22) (hA : spec_l38Fits A = true) (hB : spec_l38Fits B = true) : spec_CallLine (spec_Told (cxy k A B)) ≠ ⟨#[]⟩ := by
  obtain ⟨n, rfl⟩ := of22 hk
  obtain ⟨h1, h2, h3⟩ := xy_22 A B n
  obtain ⟨f1, f2⟩ := fits_Told (c := cxy ((n.val : Int) + 1) A B) hA hB
  simp only [Bool.and_eq_true] at h1
  obtain ⟨ok, n0, n1, n2⟩ := h1
  have hu := spec_l38Uses_size ((n.val : Int) + 1)
  have e : spec_CallLine (spec_Told (cxy ((n.val : Int) + 1) A B)) = spec_CallLine_l1 (spec_Told (cxy ((n.val : Int) + 1) A B)) ((spec_l38Uses (spec_Told (cxy ((n.val : Int) + 1) A B)).Kind).size - 0) (spec_CallName (spec_Told (cxy ((n.val : Int) + 1) A B)).Kind) 0 := by
    unfold spec_CallLine
    rw [ok, h2, decide_eq_true rfl, f1, f2]
    rfl
  rw [e]
  refine fun e2 => line_some (c := spec_Told (cxy ((n.val : Int) + 1) A B)) (fun i hi => ?_) ((spec_l38Uses (spec_Told (cxy ((n.val : Int) + 1) A B)).Kind).size - 0) 0 (spec_CallName (spec_Told (cxy ((n.val : Int) + 1) A B)).Kind) (by omega) ?_ (by rw [e2]; rfl)
  · rw [h3] at hi ⊢
    have key : named ((n.val : Int) + 1) A B i = true := by
      rcases (show i = 0 ∨ i = 1 ∨ i = 2 by omega) with rfl | rfl | rfl
      · exact n0
      · exact n1
      · exact n2
    unfold named at key
    rw [Bool.and_eq_true] at key
    obtain ⟨k1, k2⟩ := key
    exact ⟨fun h => by rw [h] at k1; exact k1, fun h => by rw [h] at k2; exact k2⟩
  · rw [h3]
    have := (name_clean (k := (n.val : Int) + 1) hk).1
    intro e3
    exact this (List.eq_nil_of_length_eq_zero (by rw [sbytes_length]; exact e3))

end Go.Proofs.YtmjjcihoobnbgaaDoor.Fw
