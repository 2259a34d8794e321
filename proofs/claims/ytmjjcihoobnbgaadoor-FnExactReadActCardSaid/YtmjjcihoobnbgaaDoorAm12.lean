/-
  The abstract machine: texts ranged over, bytes and texts, parts of slices and texts, package variables; contracts carried in and out. No condition: every lemma is general in the program.
-/
import Derived.Test.YtmjjcihoobnbgaaDoorAm11
import Derived.Laws.RangeString
import Derived.Laws.IdiomStrings
namespace Go.Proofs.YtmjjcihoobnbgaaDoor.Fw
open Go.RowKit
set_option linter.unusedVariables false

theorem Cx.tstr (c : Cx) {t : Nat} (ht : c.ti t = .str) : c.P.underlying t = some .string := by
  have hti := c.tiok t
  rw [ht] at hti
  simp only [TI.chk, Bool.and_eq_true] at hti
  have := hti.2
  split at this
  · assumption
  · cases this
theorem Cx.tint (c : Cx) {t : Nat} {k : IntKind} (ht : c.ti t = .int k) : c.P.underlying t = some (.int k) := by
  have hti := c.tiok t
  rw [ht] at hti
  simp only [TI.chk, Bool.and_eq_true] at hti
  have := hti.2
  split at this
  · rename_i k' hk; rw [of_decide_eq_true this] at hk; exact hk
  · cases this
theorem Cx.tsl (c : Cx) {t e sz b : Nat} (ht : c.ti t = .sl e sz b) : chkSlice c.P t e sz b = true := by
  have hti := c.tiok t
  rw [ht] at hti
  simp only [TI.chk, Bool.and_eq_true] at hti
  exact hti.2

/-! ## Texts ranged over -/
def ascii (s : ByteArray) : Prop := ∀ k, (byteAt s k).toNat < 128
def asciiB (s : ByteArray) : Bool := s.data.all fun b => Nat.blt b.toNat 128
theorem ascii_of {s : ByteArray} (h : asciiB s = true) : ascii s := by
  intro k
  unfold byteAt
  rcases Nat.lt_or_ge k s.data.size with hk | hk
  · unfold asciiB at h
    rw [Array.all_eq_true] at h
    have := h k hk
    simp only [Nat.blt_eq] at this
    rw [Array.getD_eq_getD_getElem?, Array.getElem?_eq_getElem hk]
    exact this
  · rw [Array.getD_eq_getD_getElem?, Array.getElem?_eq_none hk]
    simp
theorem byteAt_get {s : ByteArray} {k : Nat} (h : k < s.size) : s[k] = byteAt s k := by
  unfold byteAt
  rw [Array.getD_eq_getD_getElem?, Array.getElem?_eq_getElem (by exact h)]
  rfl

section
variable {c : Cx} {σ : St} {all : Array Oper} {ty : TypeId} {pos : String} {after : Array Edge} {d : Nat}
theorem OpS.range {t : Nat} {x : Operand} {s : ByteArray} (hx : ev σ.ρ x = some (.v (.string s))) (ht : c.ti t = .str) (hd : Nat.blt d σ.n = true) :
    OpS c σ all ⟨some d, .range t x, ty, pos, after, none⟩ ⟨σ.n, σ.m + 1, (d, .pt σ.m 0) :: σ.ρ, (σ.m, .itr s 0) :: σ.E⟩ :=
  OpS.of fun θ a w h K Q hK => by
    have hu := c.tstr ht
    have hr : (execOp a.eval ⟨some d, .range t x, ty, pos, after, none⟩).run c.P w = .ok (.value (.pointer (some ⟨w.heap.size, 0, none⟩))) (w.alloc (.stringIter s 0)) := by
      have := run_range_string (P := c.P) w t s hu
      simp only [execOp, h.env.env.eval (h.env.isv hx), this, Sem.run_bind, Result.andThen_ok, Sem.run_pure]
      rfl
    unfold Oper.wp
    rw [hr, Oper.upon_value]
    obtain ⟨S, w1, hh⟩ := h.heap
    have hg : (θ ++ [⟨some ⟨w.heap.size, 0, none⟩, 0, [w.heap.size]⟩])[σ.m]? = some (⟨some ⟨w.heap.size, 0, none⟩, 0, [w.heap.size]⟩ : Loc) := by rw [← h.len]; exact get_mid
    refine hK [⟨some ⟨w.heap.size, 0, none⟩, 0, [w.heap.size]⟩] _ _ ⟨by rw [List.length_append, h.len]; rfl, (h.env.ext).put hd (h.pt0 rfl), S, w1, ?_⟩
    refine hh.ext.new (w' := w.alloc (.stringIter s 0)) ((Below.refl _ _).alloc (Nat.le_refl _) _) ?_ ?_ ?_ trivial
    · intro w2 h2
      refine ⟨_, w.heap.size, hg, rfl, rfl, ?_⟩
      exact (h2 w.heap.size (by show _ ∈ locF _ _; rw [locF_of hg]; simp)).trans (heap_alloc_new w _)
    · intro b hb
      have hb' : b ∈ locF (θ ++ [⟨some ⟨w.heap.size, 0, none⟩, 0, [w.heap.size]⟩]) σ.m := hb
      rw [locF_of hg] at hb'
      simp only [List.mem_singleton] at hb'
      subst hb'
      simp
    · show (locF _ σ.m).Nodup
      rw [locF_of hg]
      simp

theorem run_next_at {P : Program} (w : World) (b : Nat) (s : ByteArray) (p : Nat) (ty : TypeId) (hb : w.heap[b]? = some (.stringIter s p)) (h : p < s.size) (ha : (byteAt s p).toNat < 128) :
    (Instr.next (.pointer (some ⟨b, 0, none⟩)) true ty).run P w = .ok (.tuple #[.bool true, .int .i64 p, .int .i32 (byteAt s p).toNat]) { w with heap := w.heap.setIfInBounds b (.stringIter s (p + 1)) } := by
  have hd := decode_ascii s p h (by rw [byteAt_get h]; exact ha)
  rw [byteAt_get h] at hd
  simp [Instr.next, getObj, setObj, Sem.run, hb, Result.andThen, h, hd, goInt]
theorem run_next_over {P : Program} (w : World) (b : Nat) (s : ByteArray) (p : Nat) (ty : TypeId) (hb : w.heap[b]? = some (.stringIter s p)) (h : ¬ p < s.size) :
    (Instr.next (.pointer (some ⟨b, 0, none⟩)) true ty).run P w = .ok (.tuple #[.bool false]) w := by
  simp [Instr.next, getObj, Sem.run, hb, Result.andThen, h]

theorem Run.next {res : List Re} {k : List It} {rest : List Oper} {x : Operand} {r : Nat} {s : ByteArray} {p : Nat} (hx : ev σ.ρ x = some (.pt r 0)) (he : lkE σ.E r = some (.itr s p)) (ha : ascii s) (hd : Nat.blt d σ.n = true)
    (h1 : p < s.size → Run c res ⟨σ.n, σ.m, (d, .tu [.v (.bool true), .v (.int .i64 p), .v (.int .i32 (byteAt s p).toNat)]) :: σ.ρ, putE r (r, .itr s (p + 1)) σ.E⟩ (.ops rest all :: k))
    (h2 : ¬ p < s.size → Run c res ⟨σ.n, σ.m, (d, .tu [.v (.bool false)]) :: σ.ρ, σ.E⟩ (.ops rest all :: k)) :
    Run c res σ (.ops (⟨some d, .next x true, ty, pos, after, none⟩ :: rest) all :: k) := by
  intro θ a w hR
  rw [kQ_ops]
  refine wpList_step fun K hK => ?_
  rw [if_pos (by simp [Region.wanted])]
  obtain ⟨S, w1, hh⟩ := hR.heap
  obtain ⟨l, b, hl, hA, hF, hb⟩ := (hh.sh.ok _ (List.mem_map.2 ⟨_, lkE_mem he, rfl⟩)).here
  simp only at hl
  have hc := hR.env.con hx
  obtain ⟨l', A', hl', hA', hv⟩ := pt_con hc
  rw [hl] at hl'
  cases hl'
  rw [hA] at hA'
  cases hA'
  rw [Addr.add_zero'] at hv
  unfold Oper.wp
  by_cases hp : p < s.size
  · have hr : (execOp a.eval ⟨some d, .next x true, ty, pos, after, none⟩).run c.P w = .ok (.value (.tuple #[.bool true, .int .i64 p, .int .i32 (byteAt s p).toNat])) { w with heap := w.heap.setIfInBounds b (.stringIter s (p + 1)) } := by
      have := run_next_at (P := c.P) w b s p ty hb hp (ha p)
      simp only [execOp, hv, this, Sem.run_bind, Result.andThen_ok, Sem.run_pure]
    rw [hr, Oper.upon_value]
    have hbl : b < w.heap.size := (Array.getElem?_eq_some_iff.1 hb).1
    refine hK _ _ (h1 hp θ _ _ ⟨hR.len, hR.env.put hd rfl, S, w1, ?_⟩)
    have hFr : locF θ r = [b] := by rw [locF_of hl, hF]
    refine hh.turn he rfl rfl rfl (by simp) ?_ ?_ ?_ ?_ trivial
    · intro b' hb' hnb
      have hne : b' ≠ b := by
        rintro rfl
        apply hnb
        show b' ∈ locF θ r
        rw [hFr]
        simp
      show (w.heap.setIfInBounds b _)[b']? = _
      rw [Array.getElem?_setIfInBounds_ne (Ne.symm hne)]
    · intro w2 hw2
      refine ⟨l, b, hl, hA, hF, ?_⟩
      rw [hw2 b (by show b ∈ locF θ r; rw [hFr]; simp)]
      show (w.heap.setIfInBounds b _)[b]? = _
      rw [Array.getElem?_setIfInBounds_self_of_lt hbl]
    · intro b' hb'
      refine ⟨.inl hb', ?_⟩
      have hb2 : b' ∈ locF θ r := hb'
      rw [hFr, List.mem_singleton] at hb2
      subst hb2
      simpa using hbl
    · show (locF θ r).Nodup
      rw [hFr]
      simp
  · have hr : (execOp a.eval ⟨some d, .next x true, ty, pos, after, none⟩).run c.P w = .ok (.value (.tuple #[.bool false])) w := by
      have := run_next_over (P := c.P) w b s p ty hb hp
      simp only [execOp, hv, this, Sem.run_bind, Result.andThen_ok, Sem.run_pure]
    rw [hr, Oper.upon_value]
    exact hK _ _ (h2 hp θ _ _ ⟨hR.len, hR.env.put hd rfl, S, w1, hh⟩)
end

/-! ## Bytes and texts -/
def bstr (xs : List UInt8) : ByteArray := ⟨xs.toArray⟩
def sbytes (s : ByteArray) : List UInt8 := s.data.toList
section
variable {c : Cx} {σ : St} {all : Array Oper} {ty : TypeId} {pos : String} {after : Array Edge} {d : Nat}
/-- Bytes that can be read, as text. -/
theorem OpS.toStr {t u e by' : Nat} {x : Operand} {v : V} (xs : List UInt8) (hx : ev σ.ρ x = some v) (hs : SlOk σ.E UInt8 instDatUInt8 xs v) (ht : c.ti t = .sl e 1 by') (he : c.ti e = .int .u8) (hu : c.ti u = .str) (hd : Nat.blt d σ.n = true) :
    OpS c σ all ⟨some d, .convert t u x, ty, pos, after, none⟩ (put d (.v (.string (bstr xs))) σ) :=
  OpS.of fun θ a w h K Q hK => by
    obtain ⟨S, w1, hh⟩ := h.heap
    have hc := h.env.con hx
    have hr := hh.slOk hc hs
    obtain ⟨A, cap, hA, h1, h2, h3⟩ := hr
    have hts := (chkSlice_spec (c.tsl ht)).1
    have hte := c.tint he
    have htu := c.tstr hu
    have hrun : (execOp a.eval ⟨some d, .convert t u x, ty, pos, after, none⟩).run c.P w = .ok (.value (.string (bstr xs))) w := by
      by_cases hn : xs = []
      · subst hn
        have := run_convert_bytes_string (P := c.P) w t u e A 0 cap hts hte htu
        have h0 : (Conv.bytesToString (.slice A 0 cap)).run c.P w = .ok (.string (bstr [])) w := by
          cases A with
          | none => simp [Conv.bytesToString]; rfl
          | some A => exact run_bytesToString w A 0 cap [] (run_loadCells_list (P := c.P) w A [] (fun j v hj => by simp at hj))
        simp only [execOp, hA, this, List.length_nil, h0, Sem.run_bind, Result.andThen_ok, Sem.run_pure]
      · obtain ⟨ad, rfl, hb, hcs⟩ := h3 hn
        have := run_convert_bytes_back (P := c.P) w t u e ad cap xs hts hte htu (fun j hj => by
          obtain ⟨cs, hrd, hcell⟩ := hcs j xs[j] (List.getElem?_eq_getElem hj)
          obtain ⟨v, r, rfl, hv, rfl⟩ := (inferInstance : Str UInt8).op hrd
          have := hcell 0 v rfl
          have e1 : j * Dat.sz UInt8 = j := Nat.mul_one j
          rw [e1, Addr.add_zero'] at this
          rw [this, hv]
          rfl)
        simp only [execOp, hA, this, Sem.run_bind, Result.andThen_ok, Sem.run_pure]
        rfl
    unfold Oper.wp
    rw [hrun, Oper.upon_value]
    exact hK [] _ _ (h.put hd rfl).app0

/-- What stands there by now is readable from now on. -/
theorem RH.adopt {θ : List Loc} {E : List (Nat × En)} {S : Nat → Prop} {w1 w w' : World} (h : RH c θ E S w1 w) (hb : Below w.heap.size w w') (hE : ∀ e ∈ E, (e.2.ck θ e.1).ok w) : RH c θ E (fun b => S b ∨ (w.heap.size ≤ b ∧ b < w'.heap.size)) w' w' := by
  have hs := h.same hb
  have hk : Keep S w1 w' := hs.sh.keep
  have hge : ∀ c ∈ E.map (fun e => e.2.ck θ e.1), ∀ b ∈ c.F, b < w.heap.size := fun d hd b hbd => by
    obtain ⟨e, he, rfl⟩ := List.mem_map.1 hd
    have hp := (hE e he).here
    obtain ⟨r, e⟩ := e
    cases e with
    | var cs T =>
      obtain ⟨l, b', ccs, h1, h2, h3, h4, h5⟩ := hp
      have hbd' : b ∈ locF θ r := hbd
      rw [locF_of h1, h3, List.mem_singleton] at hbd'
      subst hbd'
      exact (Array.getElem?_eq_some_iff.1 h5).1
    | lit cs T n =>
      obtain ⟨l, b', ccs, ⟨h1, _⟩, h2, h3, h4, h5⟩ := hp
      have hbd' : b ∈ locF θ r := hbd
      rw [locF_of h1, h3, List.mem_singleton] at hbd'
      subst hbd'
      exact (Array.getElem?_eq_some_iff.1 h5).1
    | own α d xs =>
      obtain ⟨l, h1, h2⟩ := hp
      have hbd' : b ∈ locF θ r := hbd
      rw [locF_of h1] at hbd'
      exact h2.lt b hbd'
    | itr s p =>
      obtain ⟨l, b', h1, h2, h3, h5⟩ := hp
      have hbd' : b ∈ locF θ r := hbd
      rw [locF_of h1, h3, List.mem_singleton] at hbd'
      subst hbd'
      exact (Array.getElem?_eq_some_iff.1 h5).1
    | ros => cases hbd
    | roc => cases hbd
    | pin => cases hbd
  refine ⟨h.k0.trans (hk.mono h.sub), fun b hb => .inl (h.sub b hb), ⟨Keep.refl _ _, ?_, hs.sh.ok, ?_, hs.sh.apart⟩, fun x hx => ?_⟩
  · rintro b (hb | hb)
    · exact hs.lt b hb
    · exact hb.2
  · intro d hd b hbd
    have h1 := hs.sh.ge d hd b hbd
    have h2 := hge d hd b hbd
    refine ⟨?_, h1.2⟩
    rintro (hb | hb)
    · exact h1.1 hb
    · omega
  · have := h.ok x hx
    obtain ⟨r', e'⟩ := x
    cases e' with
    | ros β d' ys =>
      obtain ⟨l', h1, h2⟩ := this
      exact ⟨l', h1, (h2.below hk).mono fun b hb => .inl hb⟩
    | roc cs =>
      obtain ⟨l', A, ccs, h1, h2, h3, h4, h5⟩ := this
      exact ⟨l', A, ccs, h1, h2, h3, .inl h4, h5.keep hk h4⟩
    | var => trivial
    | own => trivial
    | lit => trivial
    | itr => trivial
    | pin => exact this

/-- A slice that can be read, named anew. -/
def afterRos {α : Type} (σ : St) (d : Nat) (dα : Dat α) (ys : List α) : St := ⟨σ.n, σ.m + 1, (d, .sl σ.m ys.length) :: σ.ρ, (σ.m, .ros α dα ys) :: σ.E⟩
theorem R.ros {θ : List Loc} {a : Act} {w : World} (h : R c θ σ a w) {S : Nat → Prop} {w1 w' : World} (hh : RH c θ σ.E S w1 w') {α : Type} {dα : Dat α} {ys : List α} {A : Option Addr} {cap : Nat} (hr : SlR S w1 (.slice A ys.length cap) ys) (hd : Nat.blt d σ.n = true) :
    R c (θ ++ [⟨A, cap, []⟩]) (afterRos σ d dα ys) (a.put (some d) (.slice A ys.length cap)) w' := by
  have hg : (θ ++ [⟨A, cap, []⟩])[σ.m]? = some (⟨A, cap, []⟩ : Loc) := by rw [← h.len]; exact get_mid
  refine ⟨by rw [List.length_append, h.len]; rfl, (h.env.ext).put hd (by simp only [V.con, hg]), S, w1, ?_⟩
  exact (hh.ext (θ' := [⟨A, cap, []⟩])).fact rfl ⟨_, hg, hr⟩

/-- A text as bytes. -/
theorem OpS.toBytes {t u e by' : Nat} {x : Operand} {s : ByteArray} (hx : ev σ.ρ x = some (.v (.string s))) (hs : s.size ≤ maxLen) (ht : c.ti u = .sl e 1 by') (he : c.ti e = .int .u8) (hu : c.ti t = .str) (hd : Nat.blt d σ.n = true) :
    OpS c σ all ⟨some d, .convert t u x, ty, pos, after, none⟩ (afterRos σ d instDatUInt8 (sbytes s)) :=
  OpS.of fun θ a w h K Q hK => by
    obtain ⟨S, w1, hh⟩ := h.heap
    have hts := (chkSlice_spec (c.tsl ht)).1
    have hte := c.tint he
    have htu := c.tstr hu
    have h0 := run_bytes_of_string (P := c.P) w t u e s htu hts hte
    have hrun : (execOp a.eval ⟨some d, .convert t u x, ty, pos, after, none⟩).run c.P w = .ok (.value (.slice (some ⟨w.heap.size, 0, none⟩) s.size (grownCap w s.size 0 e))) (w.drew.alloc (.cells (bytesRow s (grownCap w s.size 0 e)) e ((bytesRow s (grownCap w s.size 0 e)).size, (bytesRow s (grownCap w s.size 0 e)).size + 1))) := by
      simp only [execOp, h.env.env.eval (h.env.isv hx), h0, Sem.run_bind, Result.andThen_ok, Sem.run_pure]
    unfold Oper.wp
    rw [hrun, Oper.upon_value]
    have hlen : (sbytes s).length = s.size := by unfold sbytes; rw [Array.length_toList]; rfl
    have hb : Below w.heap.size w (w.drew.alloc (.cells (bytesRow s (grownCap w s.size 0 e)) e ((bytesRow s (grownCap w s.size 0 e)).size, (bytesRow s (grownCap w s.size 0 e)).size + 1))) := by
      refine ⟨rfl, rfl, rfl, by show w.heap.size ≤ (w.heap.push _).size; rw [Array.size_push]; omega, fun b hb => ?_⟩
      show (w.heap.push _)[b]? = _
      rw [Array.getElem?_push, if_neg (by omega)]
    have ha := hh.adopt hb fun e he => hh.sh.ok _ (List.mem_map.2 ⟨e, he, rfl⟩)
    have hcap : s.size ≤ grownCap w s.size 0 e := grownCap_ge w s.size 0 e
    have := h.ros ha (α := UInt8) (dα := instDatUInt8) (ys := sbytes s) (A := some ⟨w.heap.size, 0, none⟩) (cap := grownCap w s.size 0 e) (d := d) ⟨_, _, rfl, by omega, grownCap_le_maxLen w _ _ _ hs, fun hn => ⟨_, rfl, .inr ⟨Nat.le_refl _, by show w.heap.size < (w.heap.push _).size; rw [Array.size_push]; omega⟩, fun i x hi => ?_⟩⟩ hd
    · rw [hlen] at this
      exact hK _ _ _ this
    · refine ⟨[.int .u8 x.toNat], (inferInstance : Str UInt8).cl ⟨_, _, rfl, rfl, rfl⟩, ?_⟩
      have hi2 := List.getElem?_eq_some_iff.1 hi
      obtain ⟨hil, hix⟩ := hi2
      intro j v hj
      cases j with
      | succ j => simp at hj
      | zero =>
        simp only [List.getElem?_cons_zero, Option.some.injEq] at hj
        subst hj
        have e1 : i * Dat.sz UInt8 = i := Nat.mul_one i
        rw [e1, Addr.add_zero', addr_row]
        have hil' : i < s.data.size := by rw [hlen] at hil; exact hil
        refine (World.cell?_alloc_mark w.drew _ e _ i).trans ?_
        rw [bytesRow_at s _ i hil', ← hix]
        simp [sbytes]
end

/-! ## Parts -/
section
variable {c : Cx} {σ : St} {all : Array Oper} {ty : TypeId} {pos : String} {after : Array Edge} {d : Nat}
def cutS (s : ByteArray) (l h : Nat) : ByteArray := s.extract l h
theorem cutS_size {s : ByteArray} {l h : Nat} {m : Nat} (hs : s.size ≤ m) : (cutS s l h).size ≤ m := by
  unfold cutS
  rw [ByteArray.size_extract]
  omega
def bnd (ρ : List (Nat × V)) (dflt : Nat) (v : Nat) : Option Operand → Prop
  | none => v = dflt
  | some x => ∃ i : Int, ev ρ x = some (.v (.int .i64 i)) ∧ i = v
/-- Part of a text. -/
theorem OpS.cut {t : Nat} {x : Operand} {lo hi : Option Operand} {s : ByteArray} (l h : Nat) (hx : ev σ.ρ x = some (.v (.string s))) (hl : bnd σ.ρ 0 l lo) (hh : bnd σ.ρ s.size h hi) (h1 : l ≤ h) (h2 : h ≤ s.size) (ht : c.ti t = .str) (hd : Nat.blt d σ.n = true) :
    OpS c σ all ⟨some d, .slice t x lo hi none, ty, pos, after, none⟩ (put d (.v (.string (cutS s l h))) σ) :=
  OpS.of fun θ a w hR K Q hK => by
    have hu := c.tstr ht
    have hrun : (execOp a.eval ⟨some d, .slice t x lo hi none, ty, pos, after, none⟩).run c.P w = .ok (.value (.string (cutS s l h))) w := by
      have ex := hR.env.env.eval (hR.env.isv hx)
      cases lo with
      | none =>
        cases hi with
        | none =>
          cases hl; cases hh
          simp [execOp, ex, Instr.sliceAt, Instr.slice, run_underlying hu, Instr.sliceBounds, cutS]
        | some y =>
          cases hl
          obtain ⟨i, hy, rfl⟩ := hh
          simp [execOp, ex, hR.env.env.eval (hR.env.isv hy), Instr.sliceAt, Instr.slice, run_underlying hu, Instr.sliceBounds, Instr.sliceBound, asIntOf, h2, cutS]
      | some z =>
        obtain ⟨j, hz, rfl⟩ := hl
        cases hi with
        | none =>
          cases hh
          simp [execOp, ex, hR.env.env.eval (hR.env.isv hz), Instr.sliceAt, Instr.slice, run_underlying hu, Instr.sliceBounds, Instr.sliceBound, asIntOf, h1, cutS]
        | some y =>
          obtain ⟨i, hy, rfl⟩ := hh
          simp [execOp, ex, hR.env.env.eval (hR.env.isv hz), hR.env.env.eval (hR.env.isv hy), Instr.sliceAt, Instr.slice, run_underlying hu, Instr.sliceBounds, Instr.sliceBound, asIntOf, h1, h2, cutS]
    unfold Oper.wp
    rw [hrun, Oper.upon_value]
    exact hK [] _ _ (hR.put hd rfl).app0

def cutL {α : Type} (xs : List α) (l h : Nat) : List α := (xs.take h).drop l
/-- Part of a slice that is only read. -/
theorem OpS.part {α : Type} {dα : Dat α} {t e by' r len : Nat} {x : Operand} {lo hi : Option Operand} {xs : List α} (l h : Nat) (hx : ev σ.ρ x = some (.sl r len)) (hp : lkE σ.E r = some (.ros α dα xs)) (hlen : len = xs.length) (hl : bnd σ.ρ 0 l lo) (hh : bnd σ.ρ xs.length h hi) (h1 : l ≤ h) (h2 : h ≤ xs.length) (ht : c.ti t = .sl e (Dat.sz α) by') (hd : Nat.blt d σ.n = true) :
    OpS c σ all ⟨some d, .slice t x lo hi none, ty, pos, after, none⟩ (afterRos σ d dα (cutL xs l h)) :=
  OpS.of fun θ a w hR K Q hK => by
    subst hlen
    obtain ⟨S, w1, hhp⟩ := hR.heap
    obtain ⟨lc, hlc, hr⟩ := hhp.ok _ (lkE_mem hp)
    simp only at hlc
    have hc := hR.env.con hx
    simp only [V.con, hlc, Option.some.injEq] at hc
    have hu := (chkSlice_spec (c.tsl ht)).1
    obtain ⟨inf, hin, hsz, _⟩ := (chkSlice_spec (c.tsl ht)).2
    have hcap := (SlR_cap hr).1
    have hr1 := hr.take h
    have e1 : (xs.take h).length = h := by rw [List.length_take]; omega
    have hr2 := hr1.drop (k := l) (by omega)
    have e2 : ((xs.take h).drop l).length = h - l := by rw [List.length_drop, e1]
    have hA0 : lc.A.map (fun b => b.add 0) = lc.A := by cases lc.A <;> simp [Addr.add]
    have hrun : (execOp a.eval ⟨some d, .slice t x lo hi none, ty, pos, after, none⟩).run c.P w = .ok (.value (.slice (if lc.cap = l then lc.A else lc.A.map (·.add (l * Dat.sz α))) (h - l) (lc.cap - l))) w := by
      cases lo with
      | none =>
        cases hi with
        | none =>
          cases hl; cases hh
          simp [execOp, ← hc, Instr.sliceAt, Instr.slice, run_underlying hu, Instr.sliceBounds, sizeOf, typeInfo, hin, hA0]
        | some y =>
          cases hl
          obtain ⟨i, hy, rfl⟩ := hh
          have hle : h ≤ lc.cap := by omega
          simp [execOp, ← hc, hR.env.env.eval (hR.env.isv hy), Instr.sliceAt, Instr.slice, run_underlying hu, Instr.sliceBounds, Instr.sliceBound, asIntOf, hle, sizeOf, typeInfo, hin, hA0]
      | some z =>
        obtain ⟨j, hz, rfl⟩ := hl
        cases hi with
        | none =>
          cases hh
          simp [execOp, ← hc, hR.env.env.eval (hR.env.isv hz), Instr.sliceAt, Instr.slice, run_underlying hu, Instr.sliceBounds, Instr.sliceBound, asIntOf, h1, sizeOf, typeInfo, hin, hsz]
        | some y =>
          obtain ⟨i, hy, rfl⟩ := hh
          have hle : h ≤ lc.cap := by omega
          simp [execOp, ← hc, hR.env.env.eval (hR.env.isv hz), hR.env.env.eval (hR.env.isv hy), Instr.sliceAt, Instr.slice, run_underlying hu, Instr.sliceBounds, Instr.sliceBound, asIntOf, h1, hle, sizeOf, typeInfo, hin, hsz]
    unfold Oper.wp
    rw [hrun, Oper.upon_value]
    have := hR.ros hhp (dα := dα) (ys := cutL xs l h) hr2 hd
    unfold cutL at this
    rw [e2] at this
    exact hK _ _ _ this

/-! ## Package variables -/
theorem OpS.gidx {t len e g k : Nat} {x y : Operand} {i : Int} {α : Type} [Inhabited α] (mk : α → Value) (xs : List α) (hGV : ∀ w, c.G w → GV g (xs.map mk) w) (hg : ∀ w, GV g (xs.map mk) w → c.S0 g) (hx : ev σ.ρ x = some (.v (.pointer (some ⟨g, 0, none⟩)))) (hy : ev σ.ρ y = some (.v (.int .i64 i))) (hi : i = k) (hk : k < xs.length) (hlen : xs.length = len)
    (ht : chkArr c.P t len e = true) (hd : Nat.blt d σ.n = true) :
    OpS c σ all ⟨some d, .indexAddr t x y, ty, pos, after, none⟩ ⟨σ.n, σ.m + 1, (d, .pt σ.m 0) :: σ.ρ, (σ.m, .roc [.v (mk (nth xs k))]) :: σ.E⟩ :=
  OpS.of fun θ a w h K Q hK => by
    obtain ⟨S, w1, hh⟩ := h.heap
    have hyy := y_indexArrAddr (P := c.P) (w := w) (ty := ty) h.env.env (h.env.isv hx) (h.env.isv hy) hi (by omega) ht
    unfold Oper.wp
    rw [hyy]
    have hv1 := hGV w1 (c.gok w1 hh.k0)
    have hcs := hv1.cells
    let lc : Loc := ⟨some ((⟨g, 0, none⟩ : Addr).add k), 0, []⟩
    have hgt : (θ ++ [lc])[σ.m]? = some lc := by rw [← h.len]; exact get_mid
    refine hK [lc] _ w ⟨by rw [List.length_append, h.len]; rfl, (h.env.ext).put hd (h.pt0 rfl), S, w1, ?_⟩
    refine (hh.ext (θ' := [lc])).fact rfl ⟨lc, _, [mk (nth xs k)], hgt, rfl, rfl, ?_, ?_⟩
    · rw [block_add]
      exact hh.sub _ (hg w1 hv1)
    · intro j v hj
      cases j with
      | succ j => simp at hj
      | zero =>
        simp only [List.getElem?_cons_zero, Option.some.injEq] at hj
        subst hj
        rw [Addr.add_zero']
        refine hcs k _ ?_
        rw [List.getElem?_map, List.getElem?_eq_getElem hk]
        simp [nth, List.getD_eq_getElem?_getD, hk]
end

/-! ## Contracts carried in and out -/
theorem CT.flat {P : Program} {G : World → Prop} {f : FuncId} {args : List Arg} {v : Value} (h : ∀ w vs, G w → ArgsR w vs args → Calls P f vs.toArray w (fun e w' => e = .returned v ∧ Below w.heap.size w w')) : CT P G f args [.c v] :=
  fun w vs hG hA => (h w vs hG hA).mono fun e w' hr => ⟨v, hr.1, Keep.of_below hr.2 fun _ h => h, [v], [], rfl, ⟨[], [], rfl, ⟨rfl, rfl⟩, rfl⟩, List.nodup_nil, fun b hb => by cases hb⟩
theorem CT.close {P : Program} {G : World → Prop} {f : FuncId} {args : List Arg} {v : Value} (h : CT P G f args [.c v]) {w : World} {vs : List Value} (hG : G w) (hA : ArgsR w vs args) : Calls P f vs.toArray w (fun e w' => e = .returned v ∧ Below w.heap.size w w') :=
  (h w vs hG hA).mono fun e w' hr => by
    obtain ⟨u, rfl, hk, us, F, rfl, hl, hn, hF⟩ := hr
    cases us with
    | nil => exact hl.elim
    | cons u r =>
      obtain ⟨A, B, rfl, ⟨rfl, rfl⟩, hl⟩ := hl
      cases r with
      | nil => exact ⟨rfl, hk.below⟩
      | cons => exact hl.elim
end Go.Proofs.YtmjjcihoobnbgaaDoor.Fw
