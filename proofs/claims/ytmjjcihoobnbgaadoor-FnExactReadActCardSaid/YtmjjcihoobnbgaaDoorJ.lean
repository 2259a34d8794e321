/- strings.Join: its contract out of the library shelf. By program (wip/gen). -/
import Derived.Test.YtmjjcihoobnbgaaDoorI
namespace Go.Proofs.YtmjjcihoobnbgaaDoor.Fw
open Go.RowKit
set_option linter.unusedVariables false
set_option linter.unusedSimpArgs false


def strings_Join (p0 : List ByteArray) (p1 : ByteArray) : ByteArray := ⟨(Lib.join (p0.map (·.data.toList)) p1.data.toList).toArray⟩
theorem c_strings_Join {v0 : Value} (p0 : List ByteArray) (p1 : ByteArray) {w : World} (hp0 : SlR (Old w) w v0 p0) (hj : (Lib.join (p0.map (·.data.toList)) p1.data.toList).length ≤ 140737488355328) (hn : p0.length ≤ 140737488355328) :
    Calls Tryd.prog 95 [v0, .string p1].toArray w (fun e w' => e = .returned (.string (strings_Join p0 p1)) ∧ Below w.heap.size w w') := by
  obtain ⟨A, cap, rfl, h1, h2, h3⟩ := hp0
  by_cases he : p0 = []
  · subst he
    refine (Tryd.strings_Join_none A cap p1 w).mono fun e w2 h => ?_
    obtain ⟨h, rfl⟩ := h
    exact ⟨h, Below.refl _ _⟩
  · obtain ⟨ad, rfl, hb, hc⟩ := h3 he
    obtain ⟨bk, o, sp⟩ := ad
    have hsp : sp = none := by
      obtain ⟨x, r, rfl⟩ := List.exists_cons_of_ne_nil he
      obtain ⟨cs, ⟨rfl, _⟩, hcs⟩ := hc 0 x rfl
      have h0 := hcs 0 _ rfl
      rw [Nat.zero_mul, Addr.add_zero', Addr.add_zero'] at h0
      cases sp with
      | none => rfl
      | some s =>
        unfold World.cell? at h0
        split at h0
        · simp at h0
        · simp at h0
    subst hsp
    refine (Tryd.strings_Join bk o cap p0 p1 w (fun j x hx => ?_) hb hn h1 hj).mono fun e w2 h => h
    obtain ⟨cs, ⟨rfl, _⟩, hcs⟩ := hc j x hx
    have h0 := hcs 0 _ rfl
    have e : (⟨bk, o, none⟩ : Addr).add (j * Dat.sz ByteArray) = ⟨bk, o + j, none⟩ := by
      have e1 : j * Dat.sz ByteArray = j := Nat.mul_one j
      rw [e1]
      unfold Addr.add
      split <;> simp_all
    rw [Addr.add_zero', e] at h0
    exact h0

end Go.Proofs.YtmjjcihoobnbgaaDoor.Fw
