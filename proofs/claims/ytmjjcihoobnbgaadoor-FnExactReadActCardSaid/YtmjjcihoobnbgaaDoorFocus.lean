/-
  One element of a row of the call's own, taken out to be changed in place, and put back. And calls that change what is handed to them. No condition.
-/
import Derived.Test.YtmjjcihoobnbgaaDoorOwn
namespace Go.Proofs.YtmjjcihoobnbgaaDoor.Fw
open Go.RowKit
set_option linter.unusedVariables false
set_option linter.unusedSimpArgs false
set_option linter.unusedSectionVars false

theorem flatten_set_perm {B : List Nat} : ∀ {Fs : List (List Nat)} {i : Nat} {A : List Nat}, Fs[i]? = some A → List.Perm ((Fs.set i B).flatten ++ A) (Fs.flatten ++ B)
  | [], i, A, h => by simp at h
  | F :: Fs, 0, A, h => by
    simp only [List.getElem?_cons_zero, Option.some.injEq] at h
    subst h
    simp only [List.set_cons_zero, List.flatten_cons]
    rw [List.append_assoc]
    refine (List.perm_append_comm).trans ?_
    exact (List.perm_append_comm (l₁ := Fs.flatten) (l₂ := F)).append_right B
  | F :: Fs, i + 1, A, h => by
    simp only [List.getElem?_cons_succ] at h
    simp only [List.set_cons_succ, List.flatten_cons, List.append_assoc]
    exact (flatten_set_perm h).append_left F

section
variable {S : Nat → Prop} {w0 w : World} {L : List Ck}
theorem SH.splitP {c : Ck} (h : SH S w0 w (c :: L)) (M : List Ck) (hF : List.Perm c.F (M.flatMap (·.F))) (hM : ∀ d ∈ M, d.ok w) : SH S w0 w (M ++ L) := by
  refine ⟨h.keep, h.dom, fun x hx => ?_, fun x hx b hb => ?_, ?_⟩
  · rcases List.mem_append.1 hx with hx | hx
    · exact hM x hx
    · exact h.ok x (List.mem_cons_of_mem _ hx)
  · rcases List.mem_append.1 hx with hx | hx
    · exact h.ge c (by simp) b (hF.mem_iff.2 (List.mem_flatMap.2 ⟨x, hx, hb⟩))
    · exact h.ge x (List.mem_cons_of_mem _ hx) b hb
  · rw [List.flatMap_append]
    have := h.apart
    rw [List.flatMap_cons] at this
    exact ((hF.append_right _).nodup_iff).1 this
theorem SH.joinP {M : List Ck} {c : Ck} (h : SH S w0 w (M ++ L)) (hF : List.Perm c.F (M.flatMap (·.F))) (hc : c.ok w) : SH S w0 w (c :: L) := by
  refine ⟨h.keep, h.dom, fun x hx => ?_, fun x hx b hb => ?_, ?_⟩
  · rcases List.mem_cons.1 hx with rfl | hx
    · exact hc
    · exact h.ok x (List.mem_append_right _ hx)
  · rcases List.mem_cons.1 hx with rfl | hx
    · obtain ⟨d, hd, hbd⟩ := List.mem_flatMap.1 (hF.mem_iff.1 hb)
      exact h.ge d (List.mem_append_left _ hd) b hbd
    · exact h.ge x (List.mem_append_right _ hx) b hb
  · rw [List.flatMap_cons]
    have := h.apart
    rw [List.flatMap_append] at this
    exact ((hF.append_right _).nodup_iff).2 this
end

/-- A row's block, element i of it taken out: its cells are cs. -/
def Ck.elem {α : Type} [Dat α] (g i cap : Nat) (cs : List Value) (xs : List α) (Fo : List Nat) : Ck :=
  ⟨g :: Fo, fun w => ∃ (arr : Array Value) (T : TypeId) (Fs : List (List Nat)), w.heap[g]? = some (.cells arr T (0, 0)) ∧ xs.length ≤ cap ∧ cap ≤ maxLen ∧ cap * Dat.sz α ≤ arr.size ∧ Fo = Fs.flatten ∧ Fs.length = xs.length ∧ Fs[i]? = some [] ∧
    cut (Dat.sz α) arr.toList i = cs ∧ ∀ j x, j ≠ i → xs[j]? = some x → ∃ G, Fs[j]? = some G ∧ Dat.own w (cut (Dat.sz α) arr.toList j) x G⟩

section
variable {α : Type} [Dat α] [Inhabited α] {S : Nat → Prop} {w0 w : World} {L : List Ck} {xs : List α}
theorem SH.focus {A : Option Addr} {n cap : Nat} {F : List Nat} (h : SH S w0 w (Ck.own [.slice A n cap] xs F :: L)) {i : Nat} (hi : i < xs.length) :
    ∃ g cs Fo G, A = some ⟨g, 0, none⟩ ∧ n = xs.length ∧ SH S w0 w (Ck.own cs (nth xs i) G :: Ck.elem g i cap cs xs Fo :: L) := by
  have hs : SlO w (.slice A n cap) xs F := h.slO (k := 0) rfl
  rcases SlO_iff.1 hs with ⟨_, rfl, _⟩ | ⟨g, cap', arr, T, Fs, he, hg, h1, h2, h3, rfl, hl, hel⟩
  · simp at hi
  simp only [Value.slice.injEq] at he
  obtain ⟨rfl, rfl, rfl⟩ := he
  obtain ⟨G, hG, ho⟩ := hel i xs[i] (List.getElem?_eq_getElem hi)
  have e : nth xs i = xs[i] := by simp [nth, List.getD_eq_getElem?_getD, hi]
  refine ⟨g, cut (Dat.sz α) arr.toList i, (Fs.set i []).flatten, G, rfl, rfl, ?_⟩
  rw [e]
  refine h.splitP [Ck.own (cut (Dat.sz α) arr.toList i) xs[i] G, Ck.elem g i cap (cut (Dat.sz α) arr.toList i) xs (Fs.set i []).flatten] ?_ (oks_cons (ok_st ho) (oks_cons ?_ oks_nil))
  · have hp := flatten_set_perm (B := []) hG
    simp only [List.append_nil] at hp
    simp only [Ck.own, Ck.elem, List.flatMap_cons, List.flatMap_nil, List.append_nil]
    refine List.Perm.trans ?_ List.perm_append_comm
    rw [List.cons_append]
    exact hp.symm.cons g
  · intro w2 h2w
    have hil : i < Fs.length := (List.getElem?_eq_some_iff.1 hG).1
    refine ⟨arr, T, Fs.set i [], (h2w g (by simp [Ck.elem])).trans hg, h1, h2, h3, rfl, by simp [hl], by simp [hil], rfl, fun j x hj hx => ?_⟩
    obtain ⟨G', hG', ho'⟩ := hel j x hx
    have hj' : (Fs.set i [])[j]? = some G' := by rw [List.getElem?_set_ne (fun e => hj e.symm)]; exact hG'
    exact ⟨G', hj', Dat.own_same ho' fun b hb => h2w b (List.mem_cons_of_mem _ (mem_flatten_of hj' hb))⟩
theorem SH.unfocus {g i cap n : Nat} {A : Option Addr} {cs : List Value} {x' : α} {G Fo : List Nat} (h : SH S w0 w (Ck.own cs x' G :: Ck.elem g i cap cs xs Fo :: L)) (hA : A = some ⟨g, 0, none⟩) (hn : n = xs.length) (hi : i < xs.length) :
    ∃ F', SH S w0 w (Ck.own [.slice A n cap] (xs.set i x') F' :: L) := by
  subst hA hn
  obtain ⟨arr, T, Fs, hg, h1, h2, h3, rfl, hl, hi0, hc, hel⟩ : (Ck.elem g i cap cs xs Fo).p w := h.get (k := 1) rfl
  have ho : Dat.own w cs x' G := h.get (k := 0) (c := Ck.own cs x' G) rfl
  have hil : i < Fs.length := (List.getElem?_eq_some_iff.1 hi0).1
  refine ⟨g :: (Fs.set i G).flatten, SH.joinP (M := [Ck.own cs x' G, Ck.elem g i cap cs xs Fs.flatten]) h ?_ (ok_sl (SlO_iff.2 (.inr ⟨g, cap, arr, T, Fs.set i G, by rw [List.length_set], hg, by rw [List.length_set]; exact h1, h2, h3, rfl, by simp [hl], fun j y hj => ?_⟩)))⟩
  · have hp := flatten_set_perm (B := G) hi0
    simp only [List.append_nil] at hp
    simp only [Ck.own, Ck.elem, List.flatMap_cons, List.flatMap_nil, List.append_nil]
    refine List.Perm.trans ?_ List.perm_append_comm
    rw [List.cons_append]
    exact hp.cons g
  · by_cases e : j = i
    · subst e
      rw [List.getElem?_set_self hi] at hj
      cases hj
      exact ⟨G, by rw [List.getElem?_set_self hil], by rw [hc]; exact ho⟩
    · rw [List.getElem?_set_ne (fun h => e h.symm)] at hj
      obtain ⟨G', hG', ho'⟩ := hel j y e hj
      exact ⟨G', by rw [List.getElem?_set_ne (fun h => e h.symm)]; exact hG', ho'⟩
theorem SH.elemCells (h : SH S w0 w L) {k g i cap p : Nat} {cs : List Value} {Fo : List Nat} (hk : L[k]? = some (Ck.elem g i cap cs xs Fo)) (hp : p = i * Dat.sz α) : CellsAt w ((⟨g, 0, none⟩ : Addr).add p) cs := by
  obtain ⟨arr, T, Fs, hg, _, _, _, _, _, _, hc, _⟩ : (Ck.elem g i cap cs xs Fo).p w := h.get hk
  have hrow : CellsAt w ⟨g, 0, none⟩ arr.toList := CellsAt.row (by simpa using hg)
  subst hp
  exact hrow.part hc
/-- A row's length, out of its slice's. -/
theorem SH.lenrow (h : SH S w0 w L) {k n cap : Nat} {A : Option Addr} {F : List Nat} (hk : L[k]? = some (Ck.own [.slice A n cap] xs F)) : xs.length = n := by
  obtain ⟨A', cap', e, _⟩ := (h.slO hk).form
  simp only [Value.slice.injEq] at e
  exact e.2.1.symm
end

theorem cut_put_same {n i off : Nat} {l ds : List Value} (hl : i * n + n ≤ l.length) (ho : off + ds.length ≤ n) :
    cut n (l.take (i * n + off) ++ ds ++ l.drop (i * n + off + ds.length)) i = (cut n l i).take off ++ ds ++ (cut n l i).drop (off + ds.length) := by
  unfold cut
  generalize i * n = m at *
  apply List.ext_getElem?
  intro r
  simp only [List.getElem?_take, List.getElem?_drop, List.getElem?_append, List.length_append, List.length_take, List.length_drop]
  grind
theorem cut_put_other {n i j off : Nat} {l ds : List Value} (hl : i * n + n ≤ l.length) (ho : off + ds.length ≤ n) (hj : j ≠ i) :
    cut n (l.take (i * n + off) ++ ds ++ l.drop (i * n + off + ds.length)) j = cut n l j := by
  have h : j * n + n ≤ i * n ∨ i * n + n ≤ j * n := by
    rcases Nat.lt_or_gt_of_ne hj with h | h
    · left
      have := Nat.mul_le_mul_right n (show j + 1 ≤ i from h)
      rw [Nat.add_mul, Nat.one_mul] at this
      exact this
    · right
      have := Nat.mul_le_mul_right n (show i + 1 ≤ j from h)
      rw [Nat.add_mul, Nat.one_mul] at this
      exact this
  unfold cut
  generalize i * n = m at *
  generalize j * n = q at *
  apply List.ext_getElem?
  intro r
  simp only [List.getElem?_take, List.getElem?_drop, List.getElem?_append, List.length_append, List.length_take, List.length_drop]
  grind

theorem addr_row (g i : Nat) : (⟨g, 0, none⟩ : Addr).add i = ⟨g, i, none⟩ := by
  unfold Addr.add
  split <;> simp_all
section
variable {P : Program} {ops : Array Oper} {Q : Exit → Act → World → Prop} {n : Nat} {ρ : List (Nat × Value)} {a : Act} {S : Nat → Prop} {w0 w : World} {L : List Ck} {rest : List Oper} {d : Nat} {ty : TypeId} {pos : String} {after : Array Edge}
/-- A store into the element that is taken out. -/
theorem st_storeE {α : Type} [Dat α] (hE : Env n ρ a) (hS : SH S w0 w L) {t : TypeId} {x y : Operand} {v : Value} {g i cap off k sz p : Nat} {cs ds : List Value} (cs' : List Value) {xs : List α} {Fo : List Nat}
    (hx : ev? ρ x = some (.pointer (some (((⟨g, 0, none⟩ : Addr).add p).add off)))) (hy : ev? ρ y = some v) (hk : L[k]? = some (Ck.elem g i cap cs xs Fo)) (hp : p = i * Dat.sz α) (hds : v.cells = ds.toArray)
    (hsz : ∀ w, (sizeOf t).run P w = .ok sz w) (hl : ds.length = sz) (hfit : Nat.ble (off + sz) (Dat.sz α) = true) (h1 : ds.all Value.oneCell' = true) (hcs : cs.take off ++ ds ++ cs.drop (off + sz) = cs')
    (K : ∀ w', SH S w0 w' (L.set k (Ck.elem g i cap cs' xs Fo)) → ∀ a, Env n ρ a → wpList P ops Q rest a w') :
    wpList P ops Q (⟨none, .store t x y, ty, pos, after, none⟩ :: rest) a w := by
  refine wpList_plain rfl fun K' hK => ?_
  unfold Oper.wp
  obtain ⟨arr, T, Fs, hg, h1', h2, h3, rfl, hlF, hi0, hc, hel⟩ : (Ck.elem g i cap cs xs Fo).p w := hS.get hk
  have hfit' : off + sz ≤ Dat.sz α := Nat.le_of_ble_eq_true hfit
  have hil : i < Fs.length := (List.getElem?_eq_some_iff.1 hi0).1
  have hcap : i * Dat.sz α + Dat.sz α ≤ arr.size := by
    have := Nat.mul_le_mul_right (Dat.sz α) (show i + 1 ≤ cap by omega)
    rw [Nat.add_mul, Nat.one_mul] at this
    omega
  have e : (((⟨g, 0, none⟩ : Addr).add p).add off) = ⟨g, i * Dat.sz α + off, none⟩ := by
    rw [add_add, addr_row, hp]
  have hal : arr.toList.length = arr.size := Array.length_toList
  have hst := run_storeCells_at P g (i * Dat.sz α + off) T ds 0 arr w hg (by rw [hl]; omega) (List.all_eq_true.1 h1)
  have hrun : (execOp a.eval ⟨none, .store t x y, ty, pos, after, none⟩).run P w = .ok .skip (w.setRow g (arr.toList.take (i * Dat.sz α + off) ++ ds ++ arr.toList.drop (i * Dat.sz α + off + sz)).toArray) := by
    have hs' : v.cells.size = sz := by rw [hds]; simpa using hl
    simp only [execOp, hE.eval hx, hE.eval hy, Instr.storeAt, Instr.sureAddr, storeVar, Sem.run_bind, Sem.run_pure, Result.andThen_ok, hsz, hs', ne_eq, not_true_eq_false, if_false, e]
    rw [hds, show ds.toArray.toList = ds from rfl, hst]
    simp only [Nat.add_zero, hl, Result.andThen_ok]
  rw [hrun]
  subst hl
  have hnd : (g :: Fs.flatten).Nodup := (nodup_flatMap_iff.1 hS.apart).1 k _ hk
  have hother : ∀ b, b ≠ g → (w.setRow g (arr.toList.take (i * Dat.sz α + off) ++ ds ++ arr.toList.drop (i * Dat.sz α + off + ds.length)).toArray).heap[b]? = w.heap[b]? := fun b hb => setRow_other w g b _ hb
  have hturn := hS.turn (w' := w.setRow g (arr.toList.take (i * Dat.sz α + off) ++ ds ++ arr.toList.drop (i * Dat.sz α + off + ds.length)).toArray) (c' := Ck.elem g i cap cs' xs Fs.flatten) hk rfl rfl rfl (by simp) (fun b _ hb => hother b (fun e => hb (by simp [Ck.elem, e]))) ?_ ?_ hnd
  · exact hK _ _ (K _ hturn _ (hE.put_none undef))
  · intro w2 h2w
    refine ⟨_, T, Fs, (h2w g (by simp [Ck.elem])).trans (setRow_heap w g arr _ T _ hg), h1', h2, ?_, rfl, hlF, hi0, ?_, fun j x hj hx => ?_⟩
    · simp only [List.size_toArray, List.length_append, List.length_take, List.length_drop, hal]
      omega
    · show cut _ (arr.toList.take (i * Dat.sz α + off) ++ ds ++ arr.toList.drop (i * Dat.sz α + off + ds.length)) i = cs'
      rw [cut_put_same (by omega) hfit', hc, hcs]
    · obtain ⟨G', hG', ho'⟩ := hel j x hj hx
      refine ⟨G', hG', ?_⟩
      show Dat.own w2 (cut _ (arr.toList.take (i * Dat.sz α + off) ++ ds ++ arr.toList.drop (i * Dat.sz α + off + ds.length)) j) x G'
      rw [cut_put_other (by omega) hfit' hj]
      refine Dat.own_same ho' fun b hb => ?_
      have hbF : b ∈ Fs.flatten := mem_flatten_of hG' hb
      exact (h2w b (List.mem_cons_of_mem _ hbF)).trans (hother b fun e => (List.nodup_cons.1 hnd).1 (e ▸ hbF))
  · intro b hb
    refine ⟨.inl hb, ?_⟩
    have := (hS.ge _ (List.mem_of_getElem? hk) b hb).2
    simpa using this
end

/-! ## Calls that change what they are handed -/
/-- What stands, the blocks of M apart. -/
def Off (M : List Ck) (w : World) : Nat → Prop := fun b => b < w.heap.size ∧ b ∉ M.flatMap (·.F)
section
variable {S : Nat → Prop} {w0 w w' : World} {M M' R : List Ck}
theorem SH.off (h : SH S w0 w (M ++ R)) : SH (Off M w) w w M := by
  refine ⟨Keep.refl _ _, fun b hb => hb.1, fun c hc => h.ok c (List.mem_append_left _ hc), fun c hc b hb => ⟨fun ho => ho.2 (List.mem_flatMap.2 ⟨c, hc, hb⟩), (h.ge c (List.mem_append_left _ hc) b hb).2⟩, ?_⟩
  have := h.apart
  rw [List.flatMap_append] at this
  exact (List.nodup_append.1 this).1
theorem SH.inOff (h : SH S w0 w (M ++ R)) {b : Nat} (hb : S b) : Off M w b := by
  refine ⟨?_, fun hm => ?_⟩
  · have := h.dom b hb
    have := h.size
    omega
  · obtain ⟨c, hc, hbc⟩ := List.mem_flatMap.1 hm
    exact (h.ge c (List.mem_append_left _ hc) b hbc).1 hb
theorem SH.callM (h : SH S w0 w (M ++ R)) (hc : SH (Off M w) w w' M') : SH S w0 w' (M' ++ R) := by
  have hap := h.apart
  rw [List.flatMap_append, List.nodup_append] at hap
  have hR : ∀ c ∈ R, ∀ b ∈ c.F, Off M w b := fun c hcR b hb => ⟨(h.ge c (List.mem_append_right _ hcR) b hb).2, fun hm => hap.2.2 b hm b (List.mem_flatMap.2 ⟨c, hcR, hb⟩) rfl⟩
  have hM' : ∀ c ∈ M', ∀ b ∈ c.F, (b ∈ M.flatMap (·.F) ∨ w.heap.size ≤ b) := fun c hcM b hb => by
    rcases Nat.lt_or_ge b w.heap.size with hlt | hge
    · left
      exact Classical.byContradiction fun hn => (hc.ge c hcM b hb).1 ⟨hlt, hn⟩
    · exact .inr hge
  refine ⟨⟨hc.keep.os.trans h.keep.os, hc.keep.tape.trans h.keep.tape, hc.keep.output.trans h.keep.output, Nat.le_trans h.keep.size hc.keep.size, fun b hb => (hc.keep.block b (h.inOff hb)).trans (h.keep.block b hb)⟩, h.dom, fun c hcx => ?_, fun c hcx b hb => ?_, ?_⟩
  · rcases List.mem_append.1 hcx with hcx | hcx
    · exact hc.ok c hcx
    · exact (h.ok c (List.mem_append_right _ hcx)).same fun b hb => hc.keep.block b (hR c hcx b hb)
  · rcases List.mem_append.1 hcx with hcx | hcx
    · refine ⟨fun hs => (hc.ge c hcx b hb).1 (h.inOff hs), (hc.ge c hcx b hb).2⟩
    · have := h.ge c (List.mem_append_right _ hcx) b hb
      exact ⟨this.1, Nat.lt_of_lt_of_le this.2 hc.keep.size⟩
  · rw [List.flatMap_append, List.nodup_append]
    refine ⟨hc.apart, hap.2.1, fun x hx y hy e => ?_⟩
    subst e
    obtain ⟨c, hcM, hb⟩ := List.mem_flatMap.1 hx
    obtain ⟨c2, hc2, hb2⟩ := List.mem_flatMap.1 hy
    have h1 := hR c2 hc2 x hb2
    rcases hM' c hcM x hb with h2 | h2
    · exact h1.2 h2
    · exact absurd h1.1 (by omega)
theorem SH.upM {α : Type} [Dat α] (h : SH S w0 w (M ++ R)) {v : Value} {xs : List α} (hv : SlR S w0 v xs) : SlR (Off M w) w v xs := (hv.below h.keep).mono fun b hb => h.inOff hb
end
section
variable {P : Program} {ops : Array Oper} {Q : Exit → Act → World → Prop} {n : Nat} {ρ : List (Nat × Value)} {a : Act} {S : Nat → Prop} {w0 w : World} {L : List Ck} {rest : List Oper} {d : Nat} {ty : TypeId} {pos : String} {after : Array Edge}
theorem st_callM {c : Ck} {c' : List Nat → Ck} {R : Prop} (hE : Env n ρ a) (hS : SH S w0 w (c :: L)) {f : FuncId} {fn : Func} {xs : Array Operand} {ts : Array TypeId} {vs : List Value} {v : Value}
    (hf : P.funcs[f]? = some fn) (hb : fn.body.isNone = false) (hn : (fn.name == "runtime.NumGoroutine") = false)
    (hc : Calls P f vs.toArray w (fun e w' => e = .returned v ∧ R ∧ ∃ F', SH (Off [c] w) w w' [c' F'])) (hx : xs.toList.map (ev? ρ) = vs.map some) (hd : Nat.blt d n = true)
    (k : ∀ F' w', R → SH S w0 w' (c' F' :: L) → ∀ a, Env n ((d, v) :: ρ) a → wpList P ops Q rest a w') :
    wpList P ops Q (⟨some d, .call { callee := .value (.func f), args := xs, argTypes := ts }, ty, pos, after, none⟩ :: rest) a w :=
  st_call hE hf hb hn hx hc hd (fun _ _ ⟨h, _⟩ => ⟨v, h⟩) fun u w' ⟨h1, h2, F', h3⟩ a' hE' => by
    cases h1
    exact k F' w' h2 (SH.callM (M := [c]) (R := L) hS h3) a' hE'
end
theorem I64_wrap (x : Int) : I64 (IntKind.i64.wrap x) := by
  unfold I64
  rw [IntKind.wrap_i64]
  omega

/-! ## Bytes and text -/
theorem strOfNums_size (xs : List Int) : (strOfNums xs).size = xs.length := by
  simp [strOfNums, ByteArray.size]
section
variable {P : Program} {n : Nat} {ρ : List (Nat × Value)} {a : Act} {w : World} {ty : TypeId}
/-- A number as one of another kind. -/
def chkConvI (P : Program) (src dst : Nat) (q : IntKind) : Bool := (P.underlying src).isSome && (match P.underlying dst with | some (.int q') => decide (q' = q) | _ => false)
theorem y_convI (hE : Env n ρ a) {x : Operand} {k q : IntKind} {i : Int} {src dst : Nat} (hx : ev? ρ x = some (.int k i)) (h : chkConvI P src dst q = true) : Yields P a w (.convert src dst x) ty (.int q (q.wrap i)) := by
  intro _ _ _ _
  simp only [chkConvI, Bool.and_eq_true] at h
  have hd : P.underlying dst = some (.int q) := by
    cases hu : P.underlying dst with
    | none => simp [hu] at h
    | some d =>
      cases d with
      | int q' => rw [hu] at h; rw [of_decide_eq_true h.2]
      | _ => simp [hu] at h
  have hk : P.intKind dst = q := by simp [Program.intKind, hd]
  have := run_convert_int (P := P) w src dst k i h.1 (by rw [hk]; exact hd)
  rw [hk] at this
  simp only [execOp, hE.eval hx, this, Sem.run_bind, Result.andThen_ok, Sem.run_pure]
/-- Bytes as text. -/
theorem y_bytesStr (hE : Env n ρ a) {x : Operand} {src dst e b len cap : Nat} {xs : List Int} (hx : ev? ρ x = some (.slice (some ⟨b, 0, none⟩) len cap)) (hs : P.underlying src = some (.slice e)) (he : P.underlying e = some (.int .u8)) (hd : P.underlying dst = some .string)
    (hl : xs.length = len) (hc : CellsAt w ⟨b, 0, none⟩ (xs.map (.int .u8))) : Yields P a w (.convert src dst x) ty (.string (strOfNums xs)) := by
  intro _ _ _ _
  have := run_convert_bytes_arg (P := P) w src e hs he b 0 len cap xs hl (fun i hi => by
    have := hc i (.int .u8 (xs.getD i 0)) (by
      rw [List.getElem?_map, List.getElem?_eq_getElem (by omega)]
      simp [List.getD, List.getElem?_eq_getElem (show i < xs.length by omega)])
    rw [addr_row] at this
    rw [Nat.zero_add]
    exact this) dst hd
  simp only [execOp, hE.eval hx, this, Sem.run_bind, Result.andThen_ok, Sem.run_pure]
theorem y_quo_in (hE : Env n ρ a) {x y : Operand} {t t' : Nat} {i j : Int} (hx : ev? ρ x = some (.int .i64 i)) (hy : ev? ρ y = some (.int .i64 j)) (hj : j ≠ 0) (h0 : 0 ≤ i) (h1 : i ≤ 9223372036854775807) (h2 : 1 ≤ j) :
    Yields P a w (.binOp .quo t x y t') ty (.int .i64 (i / j)) := by
  have := y_quo (P := P) (w := w) (ty := ty) (t := t) (t' := t') hE hx hy hj
  rwa [IntWalk.i64_quo i j ⟨h0, h1, h2⟩] at this
theorem y_rem_in (hE : Env n ρ a) {x y : Operand} {t t' : Nat} {i j : Int} (hx : ev? ρ x = some (.int .i64 i)) (hy : ev? ρ y = some (.int .i64 j)) (hj : j ≠ 0) (h0 : 0 ≤ i) :
    Yields P a w (.binOp .rem t x y t') ty (.int .i64 (i % j)) := by
  have := y_rem (P := P) (w := w) (ty := ty) (t := t) (t' := t') hE hx hy hj
  rwa [Int.tmod_eq_emod_of_nonneg h0] at this
end
/-- How many figures are written, and what is left. -/
def dig (o : Nat) (s : Int) : Prop := o ≤ 19 ∧ s < 10 ^ (19 - o)
theorem dig_start {s : Int} (h : s ≤ 9223372036854775807) : dig 0 s := ⟨by omega, by simp; omega⟩
theorem dig_step {o : Nat} {s : Int} (h : dig o s) (hs : 0 < s) : dig (o + 1) (s / 10) := by
  obtain ⟨h1, h2⟩ := h
  have ho : o = 0 ∨ o = 1 ∨ o = 2 ∨ o = 3 ∨ o = 4 ∨ o = 5 ∨ o = 6 ∨ o = 7 ∨ o = 8 ∨ o = 9 ∨ o = 10 ∨ o = 11 ∨ o = 12 ∨ o = 13 ∨ o = 14 ∨ o = 15 ∨ o = 16 ∨ o = 17 ∨ o = 18 ∨ o = 19 := by omega
  rcases ho with rfl | rfl | rfl | rfl | rfl | rfl | rfl | rfl | rfl | rfl | rfl | rfl | rfl | rfl | rfl | rfl | rfl | rfl | rfl | rfl <;>
    (simp only [dig] at *; simp at h2 ⊢; omega)

/-! ## Sizes of texts; negation; figures -/
theorem cat_le {a b : ByteArray} {m n : Nat} (h1 : a.size ≤ m) (h2 : b.size ≤ n) (h : Nat.ble (m + n) 9223372036854775807 = true) : a.size + b.size ≤ 9223372036854775807 := by
  have := Nat.le_of_ble_eq_true h
  omega
theorem cat_sz {a b : ByteArray} {m n : Nat} (h1 : a.size ≤ m) (h2 : b.size ≤ n) : (a ++ b).size ≤ m + n := by
  rw [ByteArray.size_append]
  omega
theorem nth_size {xs : List ByteArray} {n : Nat} (h : xs.all (fun s => Nat.ble s.size n) = true) (k : Nat) : (nth xs k).size ≤ n := by
  rcases Nat.lt_or_ge k xs.length with hk | hk
  · have e : nth xs k = xs[k] := by simp [nth, List.getD_eq_getElem?_getD, hk]
    rw [e]
    exact Nat.le_of_ble_eq_true (List.all_eq_true.1 h _ (List.getElem_mem hk))
  · have e : nth xs k = default := by simp [nth, List.getD_eq_getElem?_getD, List.getElem?_eq_none hk]
    rw [e]
    exact Nat.zero_le _
theorem max_of {a : ByteArray} {m : Nat} (h : a.size ≤ m) (hm : Nat.ble m 9223372036854775807 = true) : a.size ≤ maxLen := by
  have := Nat.le_of_ble_eq_true hm
  unfold maxLen
  omega
theorem y_neg {P : Program} {n : Nat} {ρ : List (Nat × Value)} {a : Act} {w : World} {ty : TypeId} (hE : Env n ρ a) {x : Operand} {t : Nat} {k : IntKind} {i : Int} (hx : ev? ρ x = some (.int k i)) : Yields P a w (.unOp .neg t x) ty (.int k (k.wrap (-i))) := by
  intro _ _ _ _
  simp [execOp, hE.eval hx, Op.unary, Op.intArith]
theorem quo10_abs {s : Int} (h : I64 s) : (IntKind.i64.wrap (Int.tdiv s 10)).natAbs = s.natAbs / 10 := by
  rw [IntWalk.i64_quo' s 10 ⟨h.1, h.2, by decide⟩, Int.natAbs_tdiv]
  rfl
end Go.Proofs.YtmjjcihoobnbgaaDoor.Fw
