/-
  Contracts of the other kind, carried over to the abstract machine: within, Decimal, figures, hexadecimal texts. No condition.
-/
import Derived.Test.YtmjjcihoobnbgaaDoorSy
import Derived.Test.YtmjjcihoobnbgaaDoorPD
namespace Go.Proofs.YtmjjcihoobnbgaaDoor.Fw
open Go.RowKit
set_option linter.unusedVariables false
set_option maxRecDepth 100000

theorem argsC {w : World} : ∀ {us vs : List Value}, ArgsR w vs (us.map fun u => .o (.c u)) → vs = us
  | [], [], _ => rfl
  | [], _ :: _, h => h.elim
  | _ :: _, [], h => h.elim
  | u :: us, v :: vs, h => by
    obtain ⟨h1, h2⟩ := h
    have e : v = u := h1
    rw [e, argsC h2]
theorem k_impl_within (p0 p1 p2 : Int) : CTs 45 [.o (.c (.int .i64 p0)), .o (.c (.int .i64 p1)), .o (.c (.int .i64 p2))] [.c (.bool (impl_within p0 p1 p2))] := CT.flat fun w vs hG hA => by
  obtain rfl := argsC (us := [.int .i64 p0, .int .i64 p1, .int .i64 p2]) hA
  exact c_impl_within p0 p1 p2
theorem k_spec_l01In (p0 p1 p2 : Int) : CTs 46 [.o (.c (.int .i64 p0)), .o (.c (.int .i64 p1)), .o (.c (.int .i64 p2))] [.c (.bool (spec_l01In p0 p1 p2))] := CT.flat fun w vs hG hA => by
  obtain rfl := argsC (us := [.int .i64 p0, .int .i64 p1, .int .i64 p2]) hA
  exact c_spec_l01In p0 p1 p2
theorem k_spec_Decimal (p0 : Int) (h : I64 p0) : CTs 56 [.o (.c (.int .i64 p0))] [.c (.string (spec_Decimal p0))] := CT.flat fun w vs hG hA => by
  obtain rfl := argsC (us := [.int .i64 p0]) hA
  exact c_spec_Decimal p0 h
theorem k_impl_Decimal (p0 : Int) (h : I64 p0) : CTs 61 [.o (.c (.int .i64 p0))] [.c (.string (impl_Decimal p0))] := CT.flat fun w vs hG hA => by
  obtain rfl := argsC (us := [.int .i64 p0]) hA
  exact c_impl_Decimal p0 h (Gl7 w hG)
def fig (p0 : Int) : UInt8 := bif decide (p0 < 10) then u8of (IntKind.i64.wrap (48 + p0)) else u8of (IntKind.i64.wrap (IntKind.i64.wrap (97 + p0) - 10))
theorem fig_eq (p0 : Int) : spec_l01Figure p0 = ((fig p0).toNat : Int) := by
  unfold spec_l01Figure fig
  by_cases h : p0 < 10
  · simp only [h, decide_true, if_true, cond_true, wrap_u8]
  · simp only [h, decide_false, Bool.false_eq_true, if_false, cond_false, wrap_u8]
theorem k_spec_l01Figure (p0 : Int) : CTs 85 [.o (.c (.int .i64 p0))] [.c (.int .u8 (fig p0).toNat)] := CT.flat fun w vs hG hA => by
  obtain rfl := argsC (us := [.int .i64 p0]) hA
  rw [← fig_eq]
  exact c_spec_l01Figure p0
def hexEnc (xs : List UInt8) : ByteArray := ⟨(Lib.Hx.encode xs).toArray⟩
theorem k_hexEnc (xs : List UInt8) (hne : xs ≠ []) (h : 2 * xs.length ≤ 281474976710656) : CTs 116 [.o (.sl UInt8 instDatUInt8 xs)] [.c (.string (hexEnc xs))] := CT.flat fun w vs hG hA => by
  cases vs with
  | nil => exact hA.elim
  | cons v r =>
    cases r with
    | cons => exact hA.2.elim
    | nil =>
      obtain ⟨A, cap, rfl, h1, h2, h3⟩ := (show SlR (Old w) w v xs from hA.1)
      obtain ⟨ad, rfl, hb, hc⟩ := h3 hne
      have hcell : ∀ i (hi : i < xs.length), w.cell? (ad.add i) = some (.int .u8 ((xs[i]'hi).toNat : Int)) := fun i hi => by
        obtain ⟨cs, hrd, hcs⟩ := hc i xs[i] (List.getElem?_eq_getElem hi)
        obtain ⟨v, r, rfl, hv, rfl⟩ := (inferInstance : Str UInt8).op hrd
        have h0 := hcs 0 v rfl
        have e1 : i * Dat.sz UInt8 = i := Nat.mul_one i
        rw [e1, Addr.add_zero'] at h0
        rw [h0, hv]
        rfl
      obtain ⟨bk, o, sp⟩ := ad
      have hsp : sp = none := by
        have h0 := hcell 0 (List.length_pos_iff.2 hne)
        rw [Addr.add_zero'] at h0
        cases sp with
        | none => rfl
        | some s =>
          unfold World.cell? at h0
          split at h0
          · simp at h0
          · simp at h0
      subst hsp
      refine (Tryd.hex_EncodeToString_bytes bk o cap xs w (fun i hi => ?_) hb h).mono fun e w2 h => h
      have := hcell i hi
      have e : (⟨bk, o, none⟩ : Addr).add i = ⟨bk, o + i, none⟩ := by
        unfold Addr.add
        split <;> simp_all
      rw [e] at this
      exact this
theorem sbytes_length (s : ByteArray) : (sbytes s).length = s.size := by unfold sbytes; rw [Array.length_toList]; rfl
theorem sbytes_ne {s : ByteArray} (h : s.size ≠ 0) : sbytes s ≠ [] := by
  intro e
  have := sbytes_length s
  rw [e] at this
  exact h this.symm
theorem size_ne {s : ByteArray} (h : ¬ s = ⟨#[]⟩) : s.size ≠ 0 := by
  intro e
  apply h
  apply ByteArray.ext
  exact Array.eq_empty_of_size_eq_zero e
end Go.Proofs.YtmjjcihoobnbgaaDoor.Fw
