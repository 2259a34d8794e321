/-
  The reference and the program write the same line for an action. No condition.
-/
import Derived.Test.YtmjjcihoobnbgaaDoorK3
namespace Go.Proofs.YtmjjcihoobnbgaaDoor.Fw
open Go.RowKit
set_option linter.unusedVariables false
set_option linter.unusedSimpArgs false
set_option maxRecDepth 100000
theorem bif_swap {α : Type} (a b : Bool) (e x : α) : (bif a then e else (bif b then e else x)) = (bif b then e else (bif a then e else x)) := by cases a <;> cases b <;> rfl
theorem ActName_12 : ∀ n : Fin 12, impl_ActName ((n.val : Int) + 1) = spec_ActName ((n.val : Int) + 1) := by decide +kernel
theorem dec_comm {α : Type} [DecidableEq α] (a b : α) : decide (a = b) = decide (b = a) := by
  by_cases h : a = b
  · subst h; rfl
  · rw [decide_eq_false h, decide_eq_false (fun e => h e.symm)]
theorem ActLine_12 (N M : Int) (C : Call) (hN : I64 N) (hM : I64 M) (hC : Dat.good C) : ∀ n : Fin 12, impl_ActLine ⟨(n.val : Int) + 1, N, M, C⟩ = spec_ActLine ⟨(n.val : Int) + 1, N, M, C⟩
  | ⟨0, _⟩ => by
    have hL : impl_ActLine (⟨1, N, M, C⟩ : Deed) = (bif (((!(impl_ActOk (⟨1, N, M, C⟩ : Deed))) || (!(decide ((⟨1, N, M, C⟩ : Deed) = Deed.mk 1 N 0 (Call.mk 0 ⟨#[]⟩ ⟨#[]⟩ 0 0 ⟨#[]⟩))))) || (!(impl_within N 0 1000000000))) || (!(impl_within M 0 1000000000)) then ⟨#[]⟩ else (impl_ActName 1 ++ (⟨#[32]⟩ ++ impl_Decimal N))) := by kernel_rfl
    have hR : spec_ActLine (⟨1, N, M, C⟩ : Deed) = (bif (((!(spec_ActOk (⟨1, N, M, C⟩ : Deed))) || (!(decide (Deed.mk 1 N 0 (Call.mk 0 ⟨#[]⟩ ⟨#[]⟩ 0 0 ⟨#[]⟩) = (⟨1, N, M, C⟩ : Deed))))) || (!(spec_l38Fits N))) || (!(spec_l38Fits M)) then ⟨#[]⟩ else ((spec_ActName 1 ++ ⟨#[32]⟩) ++ spec_Decimal N)) := by kernel_rfl
    refine hL.trans (Eq.trans ?_ hR.symm)
    rw [show impl_ActName 1 = spec_ActName 1 from ActName_12 ⟨0, by decide⟩, dec_comm (Deed.mk 1 N 0 (Call.mk 0 ⟨#[]⟩ ⟨#[]⟩ 0 0 ⟨#[]⟩)) (⟨1, N, M, C⟩ : Deed)]
    rw [← Decimal_twin hN, bt_assoc]
    rfl
  | ⟨1, _⟩ => by
    have hL : impl_ActLine (⟨2, N, M, C⟩ : Deed) = (bif decide (impl_CallLine C = ⟨#[]⟩) then ⟨#[]⟩ else (bif (((!(impl_ActOk (⟨2, N, M, C⟩ : Deed))) || (!(decide ((⟨2, N, M, C⟩ : Deed) = Deed.mk 2 N 0 C)))) || (!(impl_within N 0 1000000000))) || (!(impl_within M 0 1000000000)) then ⟨#[]⟩ else ((impl_ActName 2 ++ (⟨#[32]⟩ ++ impl_Decimal N)) ++ (⟨#[32]⟩ ++ impl_CallLine C)))) := by kernel_rfl
    have hR : spec_ActLine (⟨2, N, M, C⟩ : Deed) = (bif (((!(spec_ActOk (⟨2, N, M, C⟩ : Deed))) || (!(decide (Deed.mk 2 N 0 C = (⟨2, N, M, C⟩ : Deed))))) || (!(spec_l38Fits N))) || (!(spec_l38Fits M)) then ⟨#[]⟩ else (bif decide (spec_CallLine C = ⟨#[]⟩) then ⟨#[]⟩ else ((((spec_ActName 2 ++ ⟨#[32]⟩) ++ spec_Decimal N) ++ ⟨#[32]⟩) ++ spec_CallLine C))) := by kernel_rfl
    refine hL.trans (Eq.trans ?_ hR.symm)
    rw [show impl_ActName 2 = spec_ActName 2 from ActName_12 ⟨1, by decide⟩, dec_comm (Deed.mk 2 N 0 C) (⟨2, N, M, C⟩ : Deed)]
    rw [CallLine_twin hC, ← Decimal_twin hN, bt_assoc, bt_assoc]
    show (bif decide (spec_CallLine C = (⟨#[]⟩ : ByteArray)) then (⟨#[]⟩ : ByteArray) else (bif _ then (⟨#[]⟩ : ByteArray) else _)) = (bif _ then (⟨#[]⟩ : ByteArray) else (bif decide (spec_CallLine C = (⟨#[]⟩ : ByteArray)) then (⟨#[]⟩ : ByteArray) else _))
    exact bif_swap _ _ _ _
  | ⟨2, _⟩ => by
    have hL : impl_ActLine (⟨3, N, M, C⟩ : Deed) = (bif (((!(impl_ActOk (⟨3, N, M, C⟩ : Deed))) || (!(decide ((⟨3, N, M, C⟩ : Deed) = Deed.mk 3 N 0 (Call.mk 0 ⟨#[]⟩ ⟨#[]⟩ 0 0 ⟨#[]⟩))))) || (!(impl_within N 0 1000000000))) || (!(impl_within M 0 1000000000)) then ⟨#[]⟩ else (impl_ActName 3 ++ (⟨#[32]⟩ ++ impl_Decimal N))) := by kernel_rfl
    have hR : spec_ActLine (⟨3, N, M, C⟩ : Deed) = (bif (((!(spec_ActOk (⟨3, N, M, C⟩ : Deed))) || (!(decide (Deed.mk 3 N 0 (Call.mk 0 ⟨#[]⟩ ⟨#[]⟩ 0 0 ⟨#[]⟩) = (⟨3, N, M, C⟩ : Deed))))) || (!(spec_l38Fits N))) || (!(spec_l38Fits M)) then ⟨#[]⟩ else ((spec_ActName 3 ++ ⟨#[32]⟩) ++ spec_Decimal N)) := by kernel_rfl
    refine hL.trans (Eq.trans ?_ hR.symm)
    rw [show impl_ActName 3 = spec_ActName 3 from ActName_12 ⟨2, by decide⟩, dec_comm (Deed.mk 3 N 0 (Call.mk 0 ⟨#[]⟩ ⟨#[]⟩ 0 0 ⟨#[]⟩)) (⟨3, N, M, C⟩ : Deed)]
    rw [← Decimal_twin hN, bt_assoc]
    rfl
  | ⟨3, _⟩ => by
    have hL : impl_ActLine (⟨4, N, M, C⟩ : Deed) = (bif (((!(impl_ActOk (⟨4, N, M, C⟩ : Deed))) || (!(decide ((⟨4, N, M, C⟩ : Deed) = Deed.mk 4 N M (Call.mk 0 ⟨#[]⟩ ⟨#[]⟩ 0 0 ⟨#[]⟩))))) || (!(impl_within N 0 1000000000))) || (!(impl_within M 0 1000000000)) then ⟨#[]⟩ else ((impl_ActName 4 ++ (⟨#[32]⟩ ++ impl_Decimal N)) ++ (⟨#[32]⟩ ++ impl_Decimal M))) := by kernel_rfl
    have hR : spec_ActLine (⟨4, N, M, C⟩ : Deed) = (bif (((!(spec_ActOk (⟨4, N, M, C⟩ : Deed))) || (!(decide (Deed.mk 4 N M (Call.mk 0 ⟨#[]⟩ ⟨#[]⟩ 0 0 ⟨#[]⟩) = (⟨4, N, M, C⟩ : Deed))))) || (!(spec_l38Fits N))) || (!(spec_l38Fits M)) then ⟨#[]⟩ else ((((spec_ActName 4 ++ ⟨#[32]⟩) ++ spec_Decimal N) ++ ⟨#[32]⟩) ++ spec_Decimal M)) := by kernel_rfl
    refine hL.trans (Eq.trans ?_ hR.symm)
    rw [show impl_ActName 4 = spec_ActName 4 from ActName_12 ⟨3, by decide⟩, dec_comm (Deed.mk 4 N M (Call.mk 0 ⟨#[]⟩ ⟨#[]⟩ 0 0 ⟨#[]⟩)) (⟨4, N, M, C⟩ : Deed)]
    rw [← Decimal_twin hN, ← Decimal_twin hM, bt_assoc, bt_assoc]
    rfl
  | ⟨4, _⟩ => by
    have hL : impl_ActLine (⟨5, N, M, C⟩ : Deed) = (bif (((!(impl_ActOk (⟨5, N, M, C⟩ : Deed))) || (!(decide ((⟨5, N, M, C⟩ : Deed) = Deed.mk 5 N 0 (Call.mk 0 ⟨#[]⟩ ⟨#[]⟩ 0 0 ⟨#[]⟩))))) || (!(impl_within N 0 1000000000))) || (!(impl_within M 0 1000000000)) then ⟨#[]⟩ else (impl_ActName 5 ++ (⟨#[32]⟩ ++ impl_Decimal N))) := by kernel_rfl
    have hR : spec_ActLine (⟨5, N, M, C⟩ : Deed) = (bif (((!(spec_ActOk (⟨5, N, M, C⟩ : Deed))) || (!(decide (Deed.mk 5 N 0 (Call.mk 0 ⟨#[]⟩ ⟨#[]⟩ 0 0 ⟨#[]⟩) = (⟨5, N, M, C⟩ : Deed))))) || (!(spec_l38Fits N))) || (!(spec_l38Fits M)) then ⟨#[]⟩ else ((spec_ActName 5 ++ ⟨#[32]⟩) ++ spec_Decimal N)) := by kernel_rfl
    refine hL.trans (Eq.trans ?_ hR.symm)
    rw [show impl_ActName 5 = spec_ActName 5 from ActName_12 ⟨4, by decide⟩, dec_comm (Deed.mk 5 N 0 (Call.mk 0 ⟨#[]⟩ ⟨#[]⟩ 0 0 ⟨#[]⟩)) (⟨5, N, M, C⟩ : Deed)]
    rw [← Decimal_twin hN, bt_assoc]
    rfl
  | ⟨5, _⟩ => by
    have hL : impl_ActLine (⟨6, N, M, C⟩ : Deed) = (bif (((!(impl_ActOk (⟨6, N, M, C⟩ : Deed))) || (!(decide ((⟨6, N, M, C⟩ : Deed) = Deed.mk 6 N 0 (Call.mk 0 ⟨#[]⟩ ⟨#[]⟩ 0 0 ⟨#[]⟩))))) || (!(impl_within N 0 1000000000))) || (!(impl_within M 0 1000000000)) then ⟨#[]⟩ else (impl_ActName 6 ++ (⟨#[32]⟩ ++ impl_Decimal N))) := by kernel_rfl
    have hR : spec_ActLine (⟨6, N, M, C⟩ : Deed) = (bif (((!(spec_ActOk (⟨6, N, M, C⟩ : Deed))) || (!(decide (Deed.mk 6 N 0 (Call.mk 0 ⟨#[]⟩ ⟨#[]⟩ 0 0 ⟨#[]⟩) = (⟨6, N, M, C⟩ : Deed))))) || (!(spec_l38Fits N))) || (!(spec_l38Fits M)) then ⟨#[]⟩ else ((spec_ActName 6 ++ ⟨#[32]⟩) ++ spec_Decimal N)) := by kernel_rfl
    refine hL.trans (Eq.trans ?_ hR.symm)
    rw [show impl_ActName 6 = spec_ActName 6 from ActName_12 ⟨5, by decide⟩, dec_comm (Deed.mk 6 N 0 (Call.mk 0 ⟨#[]⟩ ⟨#[]⟩ 0 0 ⟨#[]⟩)) (⟨6, N, M, C⟩ : Deed)]
    rw [← Decimal_twin hN, bt_assoc]
    rfl
  | ⟨6, _⟩ => by
    have hL : impl_ActLine (⟨7, N, M, C⟩ : Deed) = (bif decide (impl_CallLine C = ⟨#[]⟩) then ⟨#[]⟩ else (bif (((!(impl_ActOk (⟨7, N, M, C⟩ : Deed))) || (!(decide ((⟨7, N, M, C⟩ : Deed) = Deed.mk 7 N 0 C)))) || (!(impl_within N 0 1000000000))) || (!(impl_within M 0 1000000000)) then ⟨#[]⟩ else ((impl_ActName 7 ++ (⟨#[32]⟩ ++ impl_Decimal N)) ++ (⟨#[32]⟩ ++ impl_CallLine C)))) := by kernel_rfl
    have hR : spec_ActLine (⟨7, N, M, C⟩ : Deed) = (bif (((!(spec_ActOk (⟨7, N, M, C⟩ : Deed))) || (!(decide (Deed.mk 7 N 0 C = (⟨7, N, M, C⟩ : Deed))))) || (!(spec_l38Fits N))) || (!(spec_l38Fits M)) then ⟨#[]⟩ else (bif decide (spec_CallLine C = ⟨#[]⟩) then ⟨#[]⟩ else ((((spec_ActName 7 ++ ⟨#[32]⟩) ++ spec_Decimal N) ++ ⟨#[32]⟩) ++ spec_CallLine C))) := by kernel_rfl
    refine hL.trans (Eq.trans ?_ hR.symm)
    rw [show impl_ActName 7 = spec_ActName 7 from ActName_12 ⟨6, by decide⟩, dec_comm (Deed.mk 7 N 0 C) (⟨7, N, M, C⟩ : Deed)]
    rw [CallLine_twin hC, ← Decimal_twin hN, bt_assoc, bt_assoc]
    show (bif decide (spec_CallLine C = (⟨#[]⟩ : ByteArray)) then (⟨#[]⟩ : ByteArray) else (bif _ then (⟨#[]⟩ : ByteArray) else _)) = (bif _ then (⟨#[]⟩ : ByteArray) else (bif decide (spec_CallLine C = (⟨#[]⟩ : ByteArray)) then (⟨#[]⟩ : ByteArray) else _))
    exact bif_swap _ _ _ _
  | ⟨7, _⟩ => by
    have hL : impl_ActLine (⟨8, N, M, C⟩ : Deed) = (bif (((!(impl_ActOk (⟨8, N, M, C⟩ : Deed))) || (!(decide ((⟨8, N, M, C⟩ : Deed) = Deed.mk 8 0 0 (Call.mk 0 ⟨#[]⟩ ⟨#[]⟩ 0 0 ⟨#[]⟩))))) || (!(impl_within N 0 1000000000))) || (!(impl_within M 0 1000000000)) then ⟨#[]⟩ else impl_ActName 8) := by kernel_rfl
    have hR : spec_ActLine (⟨8, N, M, C⟩ : Deed) = (bif (((!(spec_ActOk (⟨8, N, M, C⟩ : Deed))) || (!(decide (Deed.mk 8 0 0 (Call.mk 0 ⟨#[]⟩ ⟨#[]⟩ 0 0 ⟨#[]⟩) = (⟨8, N, M, C⟩ : Deed))))) || (!(spec_l38Fits N))) || (!(spec_l38Fits M)) then ⟨#[]⟩ else spec_ActName 8) := by kernel_rfl
    refine hL.trans (Eq.trans ?_ hR.symm)
    rw [show impl_ActName 8 = spec_ActName 8 from ActName_12 ⟨7, by decide⟩, dec_comm (Deed.mk 8 0 0 (Call.mk 0 ⟨#[]⟩ ⟨#[]⟩ 0 0 ⟨#[]⟩)) (⟨8, N, M, C⟩ : Deed)]
    rfl
  | ⟨8, _⟩ => by
    have hL : impl_ActLine (⟨9, N, M, C⟩ : Deed) = (bif (((!(impl_ActOk (⟨9, N, M, C⟩ : Deed))) || (!(decide ((⟨9, N, M, C⟩ : Deed) = Deed.mk 9 0 0 (Call.mk 0 ⟨#[]⟩ ⟨#[]⟩ 0 0 ⟨#[]⟩))))) || (!(impl_within N 0 1000000000))) || (!(impl_within M 0 1000000000)) then ⟨#[]⟩ else impl_ActName 9) := by kernel_rfl
    have hR : spec_ActLine (⟨9, N, M, C⟩ : Deed) = (bif (((!(spec_ActOk (⟨9, N, M, C⟩ : Deed))) || (!(decide (Deed.mk 9 0 0 (Call.mk 0 ⟨#[]⟩ ⟨#[]⟩ 0 0 ⟨#[]⟩) = (⟨9, N, M, C⟩ : Deed))))) || (!(spec_l38Fits N))) || (!(spec_l38Fits M)) then ⟨#[]⟩ else spec_ActName 9) := by kernel_rfl
    refine hL.trans (Eq.trans ?_ hR.symm)
    rw [show impl_ActName 9 = spec_ActName 9 from ActName_12 ⟨8, by decide⟩, dec_comm (Deed.mk 9 0 0 (Call.mk 0 ⟨#[]⟩ ⟨#[]⟩ 0 0 ⟨#[]⟩)) (⟨9, N, M, C⟩ : Deed)]
    rfl
  | ⟨9, _⟩ => by
    have hL : impl_ActLine (⟨10, N, M, C⟩ : Deed) = (bif (((!(impl_ActOk (⟨10, N, M, C⟩ : Deed))) || (!(decide ((⟨10, N, M, C⟩ : Deed) = Deed.mk 10 0 0 (Call.mk 0 ⟨#[]⟩ ⟨#[]⟩ 0 0 ⟨#[]⟩))))) || (!(impl_within N 0 1000000000))) || (!(impl_within M 0 1000000000)) then ⟨#[]⟩ else impl_ActName 10) := by kernel_rfl
    have hR : spec_ActLine (⟨10, N, M, C⟩ : Deed) = (bif (((!(spec_ActOk (⟨10, N, M, C⟩ : Deed))) || (!(decide (Deed.mk 10 0 0 (Call.mk 0 ⟨#[]⟩ ⟨#[]⟩ 0 0 ⟨#[]⟩) = (⟨10, N, M, C⟩ : Deed))))) || (!(spec_l38Fits N))) || (!(spec_l38Fits M)) then ⟨#[]⟩ else spec_ActName 10) := by kernel_rfl
    refine hL.trans (Eq.trans ?_ hR.symm)
    rw [show impl_ActName 10 = spec_ActName 10 from ActName_12 ⟨9, by decide⟩, dec_comm (Deed.mk 10 0 0 (Call.mk 0 ⟨#[]⟩ ⟨#[]⟩ 0 0 ⟨#[]⟩)) (⟨10, N, M, C⟩ : Deed)]
    rfl
  | ⟨10, _⟩ => by
    have hL : impl_ActLine (⟨11, N, M, C⟩ : Deed) = (bif (((!(impl_ActOk (⟨11, N, M, C⟩ : Deed))) || (!(decide ((⟨11, N, M, C⟩ : Deed) = Deed.mk 11 N 0 (Call.mk 0 ⟨#[]⟩ ⟨#[]⟩ 0 0 ⟨#[]⟩))))) || (!(impl_within N 0 1000000000))) || (!(impl_within M 0 1000000000)) then ⟨#[]⟩ else (impl_ActName 11 ++ (⟨#[32]⟩ ++ impl_Decimal N))) := by kernel_rfl
    have hR : spec_ActLine (⟨11, N, M, C⟩ : Deed) = (bif (((!(spec_ActOk (⟨11, N, M, C⟩ : Deed))) || (!(decide (Deed.mk 11 N 0 (Call.mk 0 ⟨#[]⟩ ⟨#[]⟩ 0 0 ⟨#[]⟩) = (⟨11, N, M, C⟩ : Deed))))) || (!(spec_l38Fits N))) || (!(spec_l38Fits M)) then ⟨#[]⟩ else ((spec_ActName 11 ++ ⟨#[32]⟩) ++ spec_Decimal N)) := by kernel_rfl
    refine hL.trans (Eq.trans ?_ hR.symm)
    rw [show impl_ActName 11 = spec_ActName 11 from ActName_12 ⟨10, by decide⟩, dec_comm (Deed.mk 11 N 0 (Call.mk 0 ⟨#[]⟩ ⟨#[]⟩ 0 0 ⟨#[]⟩)) (⟨11, N, M, C⟩ : Deed)]
    rw [← Decimal_twin hN, bt_assoc]
    rfl
  | ⟨11, _⟩ => by
    have hL : impl_ActLine (⟨12, N, M, C⟩ : Deed) = (bif (((!(impl_ActOk (⟨12, N, M, C⟩ : Deed))) || (!(decide ((⟨12, N, M, C⟩ : Deed) = Deed.mk 12 N 0 (Call.mk 0 ⟨#[]⟩ ⟨#[]⟩ 0 0 ⟨#[]⟩))))) || (!(impl_within N 0 1000000000))) || (!(impl_within M 0 1000000000)) then ⟨#[]⟩ else (impl_ActName 12 ++ (⟨#[32]⟩ ++ impl_Decimal N))) := by kernel_rfl
    have hR : spec_ActLine (⟨12, N, M, C⟩ : Deed) = (bif (((!(spec_ActOk (⟨12, N, M, C⟩ : Deed))) || (!(decide (Deed.mk 12 N 0 (Call.mk 0 ⟨#[]⟩ ⟨#[]⟩ 0 0 ⟨#[]⟩) = (⟨12, N, M, C⟩ : Deed))))) || (!(spec_l38Fits N))) || (!(spec_l38Fits M)) then ⟨#[]⟩ else ((spec_ActName 12 ++ ⟨#[32]⟩) ++ spec_Decimal N)) := by kernel_rfl
    refine hL.trans (Eq.trans ?_ hR.symm)
    rw [show impl_ActName 12 = spec_ActName 12 from ActName_12 ⟨11, by decide⟩, dec_comm (Deed.mk 12 N 0 (Call.mk 0 ⟨#[]⟩ ⟨#[]⟩ 0 0 ⟨#[]⟩)) (⟨12, N, M, C⟩ : Deed)]
    rw [← Decimal_twin hN, bt_assoc]
    rfl
  | ⟨n + 12, h⟩ => by omega
theorem actFields_out {k : Int} (h : ¬ (1 ≤ k ∧ k ≤ 12)) : impl_actFields k = ⟨#[]⟩ := by
  unfold impl_actFields
  simp only [show (decide (k = 1)) = false by simp; omega, show (decide (k = 2)) = false by simp; omega, show (decide (k = 3)) = false by simp; omega, show (decide (k = 4)) = false by simp; omega, show (decide (k = 5)) = false by simp; omega, show (decide (k = 6)) = false by simp; omega, show (decide (k = 7)) = false by simp; omega, show (decide (k = 11)) = false by simp; omega, show (decide (k = 12)) = false by simp; omega, Bool.or_false, cond_false]
theorem ActLine_twin {p0 : Deed} (hg : Dat.good p0) : impl_ActLine p0 = spec_ActLine p0 := by
  by_cases hk : 1 ≤ p0.Kind ∧ p0.Kind ≤ 12
  · obtain ⟨K, N, M, C⟩ := p0
    obtain ⟨n, hn⟩ : ∃ n : Fin 12, K = (n.val : Int) + 1 := ⟨⟨(K - 1).toNat, by have := hk.1; have := hk.2; simp only at *; omega⟩, by have := hk.1; show K = (((K - 1).toNat : Nat) : Int) + 1; simp only at *; omega⟩
    subst hn
    exact ActLine_12 N M C hg.2.1 hg.2.2.1 hg.2.2.2 n
  · have hok : impl_ActOk p0 = false := by
      cases h : impl_ActOk p0 with
      | false => rfl
      | true => exact absurd (impl_ActOk_t h) hk
    have hok2 : spec_ActOk p0 = false := hok
    unfold impl_ActLine spec_ActLine
    rw [actFields_out hk]
    show (bif (((!(impl_ActOk p0)) || _) || _) || _ then _ else _) = _
    simp only [hok, hok2, Bool.not_false, Bool.true_or, cond_true]

end Go.Proofs.YtmjjcihoobnbgaaDoor.Fw
