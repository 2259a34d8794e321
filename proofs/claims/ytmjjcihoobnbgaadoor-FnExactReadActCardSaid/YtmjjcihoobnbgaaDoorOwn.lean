/-
  Rows of the call's own: made at a length and filled; appended to. No condition beyond the bounds that are stated.
-/
import Derived.Test.YtmjjcihoobnbgaaDoorData
import Derived.Laws.StructEq
import Derived.OrdersHeld
namespace Go.Proofs.YtmjjcihoobnbgaaDoor.Fw
open Go.RowKit
set_option linter.unusedVariables false

/-! ## Parts of rows -/
/-- The i-th element's cells. -/
abbrev cut (sz : Nat) (l : List Value) (i : Nat) : List Value := (l.drop (i * sz)).take sz

theorem cut_append_left {sz n i : Nat} {l r : List Value} (hl : l.length = n * sz) (hi : i < n) : cut sz (l ++ r) i = cut sz l i := by
  unfold cut
  have h1 : i * sz + sz ≤ n * sz := by have : (i + 1) * sz ≤ n * sz := Nat.mul_le_mul_right _ hi; rw [Nat.add_mul] at this; omega
  rw [List.drop_append_of_le_length (by omega), List.take_append_of_le_length (by rw [List.length_drop]; omega)]

theorem cut_append_right {sz n i : Nat} {l r : List Value} (hl : l.length = n * sz) (hi : n ≤ i) : cut sz (l ++ r) i = cut sz r (i - n) := by
  unfold cut
  have h1 : n * sz ≤ i * sz := Nat.mul_le_mul_right _ hi
  rw [List.drop_append, List.drop_eq_nil_of_le (by omega), List.nil_append, hl, ← Nat.sub_mul]

theorem cut_take {sz n i : Nat} {l : List Value} (hi : i < n) : cut sz (l.take (n * sz)) i = cut sz l i := by
  unfold cut
  have h1 : i * sz + sz ≤ n * sz := by have : (i + 1) * sz ≤ n * sz := Nat.mul_le_mul_right _ hi; rw [Nat.add_mul] at this; omega
  rw [List.drop_take, List.take_take, Nat.min_eq_left (by omega)]

/-- The elements xs lie in these cells, each with its own blocks. -/
def Elems {α : Type} [Dat α] (w : World) (l : List Value) (xs : List α) (Fs : List (List Nat)) : Prop :=
  Fs.length = xs.length ∧ ∀ i x, xs[i]? = some x → ∃ G, Fs[i]? = some G ∧ Dat.own w (cut (Dat.sz α) l i) x G

section
variable {α : Type} [Dat α] {w w' : World} {l : List Value} {xs ys : List α} {Fs Gs : List (List Nat)}
theorem Elems.nil : Elems w l ([] : List α) [] := ⟨rfl, fun i x h => by simp at h⟩
theorem Elems.same (h : Elems w l xs Fs) (hs : ∀ b ∈ Fs.flatten, w'.heap[b]? = w.heap[b]?) : Elems w' l xs Fs :=
  ⟨h.1, fun i x hi => let ⟨G, hG, ho⟩ := h.2 i x hi; ⟨G, hG, Dat.own_same ho fun b hb => hs b (mem_flatten_of hG hb)⟩⟩
theorem Elems.lt (h : Elems w l xs Fs) : ∀ b ∈ Fs.flatten, b < w.heap.size := by
  intro b hb
  obtain ⟨G, hG, hbG⟩ := List.mem_flatten.1 hb
  obtain ⟨i, hi⟩ := List.getElem?_of_mem hG
  have hil : i < xs.length := by rw [← h.1]; exact (List.getElem?_eq_some_iff.1 hi).1
  obtain ⟨G', hG', ho⟩ := h.2 i xs[i] (List.getElem?_eq_getElem hil)
  rw [hi] at hG'
  cases hG'
  exact Dat.own_lt ho b hbG
theorem Elems.app {l' r : List Value} (h : Elems w l xs Fs) (h' : Elems w l' ys Gs) (hr : r.take ((xs.length + ys.length) * Dat.sz α) = l.take (xs.length * Dat.sz α) ++ l') (hl : xs.length * Dat.sz α ≤ l.length) : Elems w r (xs ++ ys) (Fs ++ Gs) := by
  refine ⟨by rw [List.length_append, List.length_append, h.1, h'.1], fun i x hi => ?_⟩
  have hlen : (l.take (xs.length * Dat.sz α)).length = xs.length * Dat.sz α := by rw [List.length_take]; omega
  have hix : i < xs.length + ys.length := by have := (List.getElem?_eq_some_iff.1 hi).1; simpa using this
  have hcut : cut (Dat.sz α) r i = cut (Dat.sz α) (l.take (xs.length * Dat.sz α) ++ l') i := by rw [← hr, cut_take hix]
  rw [List.getElem?_append] at hi
  split at hi
  · rename_i hlt
    obtain ⟨G, hG, ho⟩ := h.2 i x hi
    refine ⟨G, ?_, ?_⟩
    · rw [List.getElem?_append_left (by rw [h.1]; exact hlt)]; exact hG
    · rw [hcut, cut_append_left hlen hlt, cut_take hlt]; exact ho
  · rename_i hge
    obtain ⟨G, hG, ho⟩ := h'.2 _ x hi
    refine ⟨G, ?_, ?_⟩
    · rw [List.getElem?_append_right (by rw [h.1]; omega), h.1]; exact hG
    · rw [hcut, cut_append_right hlen (by omega)]; exact ho
theorem SlO_iff {v : Value} {F : List Nat} : SlO w v xs F ↔ (v = .slice none 0 0 ∧ xs = [] ∧ F = []) ∨
  ∃ (g cap : Nat) (arr : Array Value) (T : TypeId) (Fs : List (List Nat)), v = .slice (some ⟨g, 0, none⟩) xs.length cap ∧ w.heap[g]? = some (.cells arr T (0, 0)) ∧ xs.length ≤ cap ∧ cap ≤ maxLen ∧ cap * Dat.sz α ≤ arr.size ∧
    F = g :: Fs.flatten ∧ Elems w arr.toList xs Fs := Iff.rfl
end

/-! ## append -/
section
variable {P : Program} {α : Type} [Dat α] {w : World}

/-- What can be appended: m elements' cells, at an address (or none at all). -/
def Src (w : World) (s : Value) (m : Nat) (news : List Value) : Prop :=
  ∃ (S : Option Addr) (c : Nat), s = .slice S m c ∧ ∀ j u, news[j]? = some u → ∃ a, S = some a ∧ w.cell? (a.add j) = some u

theorem Src.first {s : Value} {m size : Nat} {news : List Value} (h : Src w s m news) (hl : news.length = m * size) : (Builtin.firstCells size m s).run P w = .ok news.toArray w := by
  obtain ⟨S, c, rfl, hc⟩ := h
  cases S with
  | none =>
    have : news = [] := by
      cases news with
      | nil => rfl
      | cons u r => obtain ⟨a, ha, _⟩ := hc 0 u rfl; cases ha
    subst this
    simp [Builtin.firstCells]
  | some a =>
    refine run_firstCells_some (P := P) w size m a m c news hl fun j v hv => ?_
    obtain ⟨a', ha, hcell⟩ := hc j v hv
    cases ha
    exact hcell

theorem oneCell_of_cells {cs : List Value} : (∀ u ∈ cs, u.oneCell' = true) ↔ cs.all Value.oneCell' = true := by simp

/-- append onto a row of the call's own. -/
theorem run_app {t e ty sz bytes : Nat} {z : Value} (ht : chkSlice P t e sz bytes = true) (hsz : sz = Dat.sz α) (hz : ∀ w, (zeroValue e).run P w = .ok z w) (hzs : z.cells.size = sz) {v s : Value} {xs ys : List α} {F : List Nat} (hv : SlO w v xs F) (hF : F.Nodup)
    {news : List Value} {Gs : List (List Nat)} (hs : Src w s ys.length news) (hl : news.length = ys.length * Dat.sz α) (h1 : ∀ u ∈ news, u.oneCell' = true) (hy : Elems w news ys Gs) (hG : Gs.flatten.Nodup) (hdis : ∀ b ∈ Gs.flatten, b ∉ F)
    (hb : (xs.length + ys.length) * bytes ≤ 140737488355328) (hm : xs.length + ys.length ≤ maxLen) :
    ∃ v' w' F', (Builtin.append_ #[t, t] ty #[v, s]).run P w = .ok v' w' ∧ SlO w' v' (xs ++ ys) F' ∧ F'.Nodup ∧ w'.os = w.os ∧ w'.tape = w.tape ∧ w'.output = w.output ∧ w.heap.size ≤ w'.heap.size ∧
      (∀ b, b < w.heap.size → b ∉ F → w'.heap[b]? = w.heap[b]?) ∧ (∀ b ∈ F', b ∈ F ∨ b ∈ Gs.flatten ∨ w.heap.size ≤ b) := by
  obtain ⟨hu, i, hi, his, hib⟩ := chkSlice_spec ht
  have hzi : i.zero = some z := by
    have := hz w
    simp only [zeroValue, Sem.run_bind, typeInfo, run_program, hi, Sem.run_pure, Result.andThen_ok] at this
    cases hzz : i.zero with
    | none => rw [hzz] at this; simp at this
    | some z' => rw [hzz] at this; simp at this; rw [this]
  have hfirst := hs.first (P := P) hl
  have hfirst2 := Src.first (P := P) (w := w.drew) (show Src w.drew s ys.length news from hs) hl
  obtain ⟨S, c, rfl, _⟩ := id hs
  subst his
  have hszp : 0 < Dat.sz α := Dat.sz_pos α
  -- the new block
  have grow : ∀ (old : Nat) (olds : List Value) (Fs : List (List Nat)), old < xs.length + ys.length → olds.length = xs.length * Dat.sz α → Elems w olds xs Fs → (Fs.flatten ++ Gs.flatten).Nodup → (∀ b ∈ Fs.flatten, b ∈ F) →
      ∀ v' w', v' = .slice (some ⟨w.heap.size, 0, none⟩) (xs.length + ys.length) (grownCap w (xs.length + ys.length) old e) →
        w' = w.drew.alloc (.cells (olds.toArray ++ news.toArray ++ Builtin.zeroCells z.cells (grownCap w (xs.length + ys.length) old e - (xs.length + ys.length))) e) →
        ∃ F', SlO w' v' (xs ++ ys) F' ∧ F'.Nodup ∧ w'.os = w.os ∧ w'.tape = w.tape ∧ w'.output = w.output ∧ w.heap.size ≤ w'.heap.size ∧
          (∀ b, b < w.heap.size → b ∉ F → w'.heap[b]? = w.heap[b]?) ∧ (∀ b ∈ F', b ∈ F ∨ b ∈ Gs.flatten ∨ w.heap.size ≤ b) := by
    intro old olds Fs ho hlo hels hnd hsub v' w' ev ew
    subst ev
    subst ew
    have hge := grownCap_ge w (xs.length + ys.length) old e
    have hcm := grownCap_le_maxLen w (xs.length + ys.length) old e hm
    have hsame : ∀ (b : Nat), b < w.heap.size → (w.drew.alloc (.cells (olds.toArray ++ news.toArray ++ Builtin.zeroCells z.cells (grownCap w (xs.length + ys.length) old e - (xs.length + ys.length))) e)).heap[b]? = w.heap[b]? := fun b hb => heap_alloc_old w.drew _ hb
    have hltF := hels.lt
    have hltG := hy.lt
    refine ⟨w.heap.size :: (Fs ++ Gs).flatten, ?_, ?_, rfl, rfl, rfl, by simp, fun b hb _ => hsame b hb, ?_⟩
    · refine SlO_iff.2 (.inr ⟨w.heap.size, _, _, e, Fs ++ Gs, by rw [List.length_append], heap_alloc_new w.drew _, by rw [List.length_append]; exact hge, hcm, ?_, rfl, ?_⟩)
      · simp only [Array.size_append, List.size_toArray, size_zeroCells, hzs, hlo, hl, hsz]
        rw [← Nat.add_mul, ← Nat.add_mul]
        exact Nat.mul_le_mul_right _ (by omega)
      · refine (hels.same fun b hb => hsame b (hltF b hb)).app (hy.same fun b hb => hsame b (hltG b hb)) (l' := news) ?_ (by omega)
        simp only [Array.toList_append, List.append_assoc]
        rw [← List.append_assoc, List.take_append_of_le_length (by rw [List.length_append, hlo, hl, Nat.add_mul]; exact Nat.le_refl _), List.take_of_length_le (by rw [List.length_append, hlo, hl, Nat.add_mul]; exact Nat.le_refl _),
          List.take_of_length_le (by rw [hlo]; exact Nat.le_refl _)]
    · rw [List.flatten_append]
      refine List.nodup_cons.2 ⟨fun hb => ?_, hnd⟩
      rcases List.mem_append.1 hb with hb | hb
      · exact absurd (hltF _ hb) (by omega)
      · exact absurd (hltG _ hb) (by omega)
    · intro b hb
      rw [List.flatten_append] at hb
      rcases List.mem_cons.1 hb with rfl | hb
      · exact .inr (.inr (Nat.le_refl _))
      · rcases List.mem_append.1 hb with hb | hb
        · exact .inl (hsub b hb)
        · exact .inr (.inl hb)
  rcases SlO_iff.1 hv with ⟨rfl, rfl, rfl⟩ | ⟨g, cap, arr, T, Fs, rfl, hg, hlc, hcm, hsize, rfl, hels⟩
  · by_cases h0 : ys.length = 0
    · have : ys = [] := List.eq_nil_of_length_eq_zero h0
      subst this
      refine ⟨.slice none 0 0, w, [], ?_, SlO_iff.2 (.inl ⟨rfl, rfl, rfl⟩), by simp, rfl, rfl, rfl, Nat.le_refl _, fun _ _ _ => rfl, fun b hb => by cases hb⟩
      simp only [List.length_nil] at hfirst ⊢
      simp [Builtin.append_, run_underlying hu, sizeOf, typeInfo, hi, Builtin.lenOf, hsz, hfirst]
    · obtain ⟨F', h⟩ := grow 0 [] [] (by simp; omega) (by simp) Elems.nil (by simpa using hG) (by simp) _ _ rfl rfl
      refine ⟨_, _, F', ?_, h⟩
      have h63' : ¬ (9223372036854775807 < (ys.length : Int)) := by simp only [List.length_nil, Nat.zero_add, maxLen] at hm; omega
      have h48' : ¬ (281474976710656 < Builtin.nextslicecap ys.length 0 * i.bytes) := by rw [nextslicecap_zero (by omega), hib]; simp only [List.length_nil, Nat.zero_add] at hb; omega
      simp only [List.length_nil, Nat.zero_add, Array.empty_append, List.toArray]
      simp [Builtin.append_, run_underlying hu, sizeOf, typeInfo, hi, hzi, Builtin.lenOf, hsz, hfirst2, h0, h63', h48', zeroValue, grownCap, run_firstCells_none, newRow, Question.forced]
  · have hal : arr.toList.length = arr.size := Array.length_toList
    by_cases hroom : xs.length + ys.length ≤ cap
    · have hcut : (xs.length + ys.length) * Dat.sz α ≤ arr.size := Nat.le_trans (Nat.mul_le_mul_right _ hroom) hsize
      rw [Nat.add_mul] at hcut
      have hst := run_storeCells_at P g (xs.length * Dat.sz α) T news 0 arr w hg (by omega) h1
      simp only [Nat.add_zero] at hst
      have hother : ∀ b, b ≠ g → (w.setRow g (arr.toList.take (xs.length * Dat.sz α) ++ news ++ arr.toList.drop (xs.length * Dat.sz α + news.length)).toArray).heap[b]? = w.heap[b]? := fun b hb => setRow_other w g b _ hb
      have hnd := hF
      rw [List.nodup_cons] at hnd
      refine ⟨_, _, g :: (Fs ++ Gs).flatten, ?_, SlO_iff.2 (.inr ⟨g, cap, _, T, Fs ++ Gs, rfl, setRow_heap w g arr _ T _ hg, by rw [List.length_append]; exact hroom, hcm, ?_, rfl, ?_⟩), ?_, rfl, rfl, rfl, by simp, fun b _ hb => hother b (fun e => hb (by simp [e])), ?_⟩
      · rw [List.length_append]
        simp [Builtin.append_, run_underlying hu, sizeOf, typeInfo, hi, Builtin.lenOf, hroom, hsz, hfirst, Addr.add_lit, hst]
      · simp only [List.size_toArray, List.length_append, List.length_take, List.length_drop, hal]
        omega
      · refine (hels.same fun b hb => hother b (fun e => hnd.1 (e ▸ hb))).app (hy.same fun b hb => hother b (fun e => hdis b hb (by simp [e]))) (l' := news) ?_ (by rw [hal]; omega)
        rw [List.append_assoc, ← List.append_assoc, List.take_append_of_le_length (by rw [List.length_append, List.length_take, hal, hl, Nat.add_mul]; omega), List.take_of_length_le (by rw [List.length_append, List.length_take, hal, hl, Nat.add_mul]; omega)]
      · rw [List.flatten_append]
        refine List.nodup_cons.2 ⟨fun hb => ?_, List.nodup_append.2 ⟨hnd.2, hG, fun a ha b hb' => ?_⟩⟩
        · rcases List.mem_append.1 hb with hb | hb
          · exact hnd.1 hb
          · exact hdis g hb (by simp)
        · rintro rfl
          exact hdis a hb' (List.mem_cons_of_mem _ ha)
      · intro b hb
        rw [List.flatten_append] at hb
        rcases List.mem_cons.1 hb with rfl | hb
        · exact .inl (by simp)
        · rcases List.mem_append.1 hb with hb | hb
          · exact .inl (List.mem_cons_of_mem _ hb)
          · exact .inr (.inl hb)
    · have hnd := hF
      rw [List.nodup_cons] at hnd
      have hsz' : xs.length * Dat.sz α ≤ arr.size := Nat.le_trans (Nat.mul_le_mul_right _ hlc) hsize
      have hlo : (arr.toList.take (xs.length * Dat.sz α)).length = xs.length * Dat.sz α := by rw [List.length_take, hal]; omega
      have hels' : Elems w (arr.toList.take (xs.length * Dat.sz α)) xs Fs := ⟨hels.1, fun i x hi => by
        obtain ⟨G, hG, ho⟩ := hels.2 i x hi
        refine ⟨G, hG, ?_⟩
        rw [cut_take ((List.getElem?_eq_some_iff.1 hi).1)]
        exact ho⟩
      obtain ⟨F', h⟩ := grow cap (arr.toList.take (xs.length * Dat.sz α)) Fs (by omega) hlo hels' (List.nodup_append.2 ⟨hnd.2, hG, fun a ha b hb' => by rintro rfl; exact hdis a hb' (List.mem_cons_of_mem _ ha)⟩) (fun b hb => List.mem_cons_of_mem _ hb) _ _ rfl rfl
      refine ⟨_, _, F', ?_, h⟩
      have hrow : CellsAt w ⟨g, 0, none⟩ arr.toList := CellsAt.row (by simpa using hg)
      have holds : ∀ j u, (arr.toList.take (xs.length * Dat.sz α))[j]? = some u → w.cell? ((⟨g, 0, none⟩ : Addr).add j) = some u := fun j u hj => by
        rw [List.getElem?_take] at hj
        split at hj
        · exact hrow j u hj
        · cases hj
      have hf2 := run_firstCells_some (P := P) w.drew (Dat.sz α) xs.length ⟨g, 0, none⟩ xs.length cap _ hlo holds
      have h63' : ¬ (9223372036854775807 < ((xs.length : Int) + (ys.length : Int))) := by simp only [maxLen] at hm; omega
      have h48' : ¬ (281474976710656 < Builtin.nextslicecap (xs.length + ys.length) cap * i.bytes) := by have := growslice_fits (old := cap) (need := xs.length + ys.length) (bytes := i.bytes) (by omega) (by rw [hib]; exact hb); omega
      have hng : ¬ (xs.length + ys.length ≤ cap) := hroom
      simp [Builtin.append_, run_underlying hu, sizeOf, typeInfo, hi, hzi, Builtin.lenOf, hsz, hfirst2, hf2, hng, h63', h48', zeroValue, grownCap, newRow, Question.forced]
      congr 2
      apply Array.ext'
      simp [List.append_assoc]
end

/-! ## Chunks: made, filled, turned into data -/

/-- A row of n elements, the first of which hold ys. -/
def Ck.fill {α : Type} [Dat α] (g n : Nat) (T : TypeId) (ys : List α) (F : List Nat) : Ck :=
  ⟨F, fun w => ∃ (arr : Array Value) (Fs : List (List Nat)), w.heap[g]? = some (.cells arr T (0, 0)) ∧ arr.size = n * Dat.sz α ∧ F = g :: Fs.flatten ∧ Elems w arr.toList ys Fs⟩

section
variable {S : Nat → Prop} {w0 w w' : World} {L : List Ck}
/-- The same blocks, something else said of them. -/
theorem SH.conv (h : SH S w0 w L) {k : Nat} {c : Ck} (hk : L[k]? = some c) (c' : Ck) (hF : c'.F = c.F) (hp : ∀ w, c.p w → c'.p w) : SH S w0 w (L.set k c') := by
  have hc := h.ok c (List.mem_of_getElem? hk)
  refine h.turn hk rfl rfl rfl (Nat.le_refl _) (fun _ _ _ => rfl) (fun w2 h2 => hp _ (hc w2 fun b hb => h2 b (by rw [hF]; exact hb))) (fun b hb => ?_) ?_
  · rw [hF] at hb
    exact ⟨.inl hb, (h.ge c (List.mem_of_getElem? hk) b hb).2⟩
  · rw [hF]
    exact (nodup_flatMap_iff.1 h.apart).1 k c hk

/-- The first chunk's blocks become another chunk's. -/
theorem SH.absorb {c d : Ck} (h : SH S w0 w (c :: L)) {k : Nat} (hk : L[k]? = some d) : SH S w0 w (L.set k ⟨d.F ++ c.F, fun w => d.p w ∧ c.p w⟩) := by
  have hap := nodup_flatMap_iff.1 h.apart
  have hkl : k < L.length := (List.getElem?_eq_some_iff.1 hk).1
  have hc := h.ok c (by simp)
  have hd := h.ok d (List.mem_cons_of_mem _ (List.mem_of_getElem? hk))
  have hget : ∀ (i : Nat) x, (L.set k ⟨d.F ++ c.F, fun w => d.p w ∧ c.p w⟩)[i]? = some x → (i = k ∧ x = ⟨d.F ++ c.F, fun w => d.p w ∧ c.p w⟩) ∨ (i ≠ k ∧ L[i]? = some x) := by
    intro i x hi
    rw [List.getElem?_set] at hi
    by_cases e : k = i
    · subst e
      simp [hkl] at hi
      exact .inl ⟨rfl, hi.symm⟩
    · rw [if_neg e] at hi
      exact .inr ⟨fun e' => e e'.symm, hi⟩
  refine ⟨h.keep, h.dom, fun x hx => ?_, fun x hx b hb => ?_, nodup_flatMap_iff.2 ⟨fun i x hi => ?_, fun i j x y hi hj hij b hb hby => ?_⟩⟩
  · obtain ⟨i, hi⟩ := List.getElem?_of_mem hx
    rcases hget i x hi with ⟨_, rfl⟩ | ⟨_, hi⟩
    · exact fun w2 h2 => ⟨hd w2 fun b hb => h2 b (List.mem_append_left _ hb), hc w2 fun b hb => h2 b (List.mem_append_right _ hb)⟩
    · exact h.ok x (List.mem_cons_of_mem _ (List.mem_of_getElem? hi))
  · obtain ⟨i, hi⟩ := List.getElem?_of_mem hx
    rcases hget i x hi with ⟨_, rfl⟩ | ⟨_, hi⟩
    · rcases List.mem_append.1 hb with hb | hb
      · exact h.ge d (List.mem_cons_of_mem _ (List.mem_of_getElem? hk)) b hb
      · exact h.ge c (by simp) b hb
    · exact h.ge x (List.mem_cons_of_mem _ (List.mem_of_getElem? hi)) b hb
  · rcases hget i x hi with ⟨_, rfl⟩ | ⟨_, hi⟩
    · exact List.nodup_append.2 ⟨hap.1 (k + 1) d (by simpa using hk), hap.1 0 c rfl, fun a ha b hb e => hap.2 (k + 1) 0 d c (by simpa using hk) rfl (by omega) a ha (e ▸ hb)⟩
    · exact hap.1 (i + 1) x (by simpa using hi)
  · rcases hget i x hi with ⟨hik, rfl⟩ | ⟨hik, hi⟩
    · rcases hget j y hj with ⟨hjk, rfl⟩ | ⟨hjk, hj⟩
      · omega
      · rcases List.mem_append.1 hb with hb | hb
        · exact hap.2 (k + 1) (j + 1) d y (by simpa using hk) (by simpa using hj) (by omega) b hb hby
        · exact hap.2 0 (j + 1) c y rfl (by simpa using hj) (by omega) b hb hby
    · rcases hget j y hj with ⟨hjk, rfl⟩ | ⟨hjk, hj⟩
      · rcases List.mem_append.1 hby with hb' | hb'
        · exact hap.2 (i + 1) (k + 1) x d (by simpa using hi) (by simpa using hk) (by omega) b hb hb'
        · exact hap.2 (i + 1) 0 x c (by simpa using hi) rfl (by omega) b hb hb'
      · exact hap.2 (i + 1) (j + 1) x y (by simpa using hi) (by simpa using hj) (by omega) b hb hby

theorem fill_own {α : Type} [Dat α] {g n : Nat} {T : TypeId} {ys : List α} {F : List Nat} (hn : ys.length = n) (hm : n ≤ maxLen) : ∀ w, (Ck.fill g n T ys F).p w → (Ck.own [.slice (some ⟨g, 0, none⟩) n n] ys F).p w := by
  rintro w ⟨arr, Fs, hg, hs, rfl, he⟩
  subst hn
  exact ⟨_, rfl, SlO_iff.2 (.inr ⟨g, _, arr, T, Fs, rfl, hg, Nat.le_refl _, hm, by rw [hs]; exact Nat.le_refl _, rfl, he⟩)⟩
end

section
variable {P : Program} {ops : Array Oper} {Q : Exit → Act → World → Prop} {n : Nat} {ρ : List (Nat × Value)} {a : Act} {S : Nat → Prop} {w0 w : World} {L : List Ck} {rest : List Oper} {d : Nat} {ty : TypeId} {pos : String} {after : Array Edge}

theorem st_makeSlice {α : Type} [Dat α] (hE : Env n ρ a) (hS : SH S w0 w L) {t e bytes m : Nat} {x y : Operand} {z : Value} (ht : chkSlice P t e (Dat.sz α) bytes = true) (hz : ∀ w, (zeroValue e).run P w = .ok z w) (hx : ev? ρ x = some (.int .i64 m)) (hy : ev? ρ y = some (.int .i64 m))
    (hb : bytes * m ≤ 281474976710656) (hm : m ≤ 9223372036854775807) (hd : Nat.blt d n = true)
    (K : ∀ g w', SH S w0 w' (Ck.fill (α := α) g m e [] [g] :: L) → ∀ a, Env n ((d, .slice (some ⟨g, 0, none⟩) m m) :: ρ) a → wpList P ops Q rest a w') :
    wpList P ops Q (⟨some d, .makeSlice t x y, ty, pos, after, none⟩ :: rest) a w := by
  obtain ⟨hu, i, hi, his, hib⟩ := chkSlice_spec ht
  refine wpList_plain rfl fun K' hK => ?_
  unfold Oper.wp
  have hw : IntKind.i64.wrap (m : Int) = m := IntWalk.i64_in _ (by omega)
  have hlim : ¬ (281474976710656 < (bytes : Int) * (m : Int)) := by
    have : ((bytes * m : Nat) : Int) ≤ 281474976710656 := by omega
    rw [Int.natCast_mul] at this
    omega
  have : ∃ arr : Array Value, arr.size = m * Dat.sz α ∧ (execOp a.eval ⟨some d, .makeSlice t x y, ty, pos, after, none⟩).run P w = .ok (.value (.slice (some ⟨w.heap.size, 0, none⟩) m m)) (w.alloc (.cells arr e)) := by
    by_cases h0 : m = 0
    · subst h0
      refine ⟨#[], by simp, ?_⟩
      have hr : Array.range 0 = #[] := rfl
      simp [execOp, hE.eval hx, hE.eval hy, Instr.makeSlice, run_underlying hu, asInt, asIntOf, typeInfo, hi, sizeOf, newRow, hr, show IntKind.i64.wrap 0 = 0 from rfl]
    · refine ⟨(Array.range (m * Dat.sz α)).map (z.cells[· % z.cells.size]!), by simp, ?_⟩
      have hne : ¬ (m * Dat.sz α = 0) := by have := Dat.sz_pos α; rw [Nat.mul_eq_zero]; omega
      have hz' := hz w
      have hm0 : ¬ ((m : Int) < 0) := by omega
      have hszn : ¬ (Dat.sz α = 0) := by have := Dat.sz_pos α; omega
      have hlim' : ¬ (((bytes : Int) * (m : Int)) > 2 ^ 48) := by omega
      simp [execOp, hE.eval hx, hE.eval hy, Instr.makeSlice, run_underlying hu, asInt, asIntOf, typeInfo, hi, sizeOf, newRow, hib, his, hw, hlim, hz', hm0]
      exact fun h => absurd h hne
  obtain ⟨arr, hsz, this⟩ := this
  rw [this]
  refine hK _ _ (K _ _ (hS.call (w' := w.alloc (.cells arr e)) ((Below.refl _ _).alloc (Nat.le_refl _) _) (c := Ck.fill (α := α) w.heap.size m e [] [w.heap.size]) ?_ ?_ ?_) _ (hE.put hd _))
  · intro w2 h2
    exact ⟨arr, [], (h2 w.heap.size (by simp [Ck.fill])).trans (heap_alloc_new w _), hsz, by simp, Elems.nil⟩
  · intro b hb'
    simp only [Ck.fill, List.mem_singleton] at hb'
    subst hb'
    simp
  · simp [Ck.fill]

/-- A store into the next element of a row that is being filled; what is stored is the first chunk's. -/
theorem st_fill {α : Type} [Dat α] (hE : Env n ρ a) {ds : List Value} {y : α} {G : List Nat} (hS : SH S w0 w (Ck.own ds y G :: L)) {t : TypeId} {x v : Operand} {u : Value} {g m k : Nat} {i : Int} {T : TypeId} {ys : List α} {F : List Nat}
    (hk : L[k]? = some (Ck.fill g m T ys F)) (hi : i = ys.length) (hlt : ys.length < m) (hx : ev? ρ x = some (.pointer (some (((⟨g, 0, none⟩ : Addr).add (i.toNat * Dat.sz α)).add 0)))) (hv : ev? ρ v = some u) (hu : u.cells = ds.toArray)
    (hsz : ∀ w, (sizeOf t).run P w = .ok (Dat.sz α) w) (h1 : ∀ c ∈ ds, c.oneCell' = true)
    (K : ∀ w', SH S w0 w' (L.set k (Ck.fill g m T (ys ++ [y]) (F ++ G))) → ∀ a, Env n ρ a → wpList P ops Q rest a w') :
    wpList P ops Q (⟨none, .store t x v, ty, pos, after, none⟩ :: rest) a w := by
  refine wpList_plain rfl fun K' hK => ?_
  unfold Oper.wp
  subst hi
  have hap := nodup_flatMap_iff.1 hS.apart
  have hfill : (Ck.fill g m T ys F).p w := hS.get (k := k + 1) (by simpa using hk)
  have hown : Dat.own w ds y G := hS.get (k := 0) (c := Ck.own ds y G) rfl
  have hFn : F.Nodup := hap.1 (k + 1) (Ck.fill g m T ys F) (by simpa using hk)
  have hGn : G.Nodup := hap.1 0 (Ck.own ds y G) rfl
  have hdj : ∀ b ∈ G, b ∉ F := hap.2 0 (k + 1) (Ck.own ds y G) (Ck.fill g m T ys F) rfl (by simpa using hk) (by omega)
  have hltF := (hS.ge _ (List.mem_cons_of_mem _ (List.mem_of_getElem? hk)))
  obtain ⟨arr, Fs, hg, hs, rfl, he⟩ := hfill
  have hlen : ds.length = Dat.sz α := Dat.rd_len (Dat.own_rd hown (B := Old w) (fun b hb => Dat.own_lt hown b hb))
  have hfit : ys.length * Dat.sz α + Dat.sz α ≤ arr.size := by
    rw [hs]
    have : (ys.length + 1) * Dat.sz α ≤ m * Dat.sz α := Nat.mul_le_mul_right _ hlt
    rwa [Nat.add_mul, Nat.one_mul] at this
  have e : ((⟨g, 0, none⟩ : Addr).add (((ys.length : Nat) : Int).toNat * Dat.sz α)).add 0 = ⟨g, ys.length * Dat.sz α, none⟩ := by
    rw [Addr.add_zero', Int.toNat_natCast]
    unfold Addr.add
    split <;> simp_all
  have hst := run_storeCells_at P g (ys.length * Dat.sz α) T ds 0 arr w hg (by rw [hlen]; omega) h1
  have hrun : (execOp a.eval ⟨none, .store t x v, ty, pos, after, none⟩).run P w = .ok .skip (w.setRow g (arr.toList.take (ys.length * Dat.sz α) ++ ds ++ arr.toList.drop (ys.length * Dat.sz α + Dat.sz α)).toArray) := by
    have hs' : u.cells.size = Dat.sz α := by rw [hu]; simpa using hlen
    simp only [execOp, hE.eval hx, hE.eval hv, Instr.storeAt, Instr.sureAddr, storeVar, Sem.run_bind, Sem.run_pure, Result.andThen_ok, hsz, hs', ne_eq, not_true_eq_false, if_false, e]
    rw [hu, show ds.toArray.toList = ds from rfl, hst]
    simp only [Nat.add_zero, hlen, Result.andThen_ok]
  rw [hrun]
  have hother : ∀ b, b ≠ g → (w.setRow g (arr.toList.take (ys.length * Dat.sz α) ++ ds ++ arr.toList.drop (ys.length * Dat.sz α + Dat.sz α)).toArray).heap[b]? = w.heap[b]? := fun b hb => setRow_other w g b _ hb
  have hgF : g ∉ Fs.flatten := (List.nodup_cons.1 hFn).1
  have hgG : g ∉ G := fun h => hdj g h (by simp)
  have hkl : k < L.length := (List.getElem?_eq_some_iff.1 hk).1
  have hal : arr.toList.length = arr.size := Array.length_toList
  have hab := (hS.absorb hk).turn (k := k) (c := ⟨(g :: Fs.flatten) ++ G, fun w => (Ck.fill g m T ys (g :: Fs.flatten)).p w ∧ (Ck.own ds y G).p w⟩)
    (c' := Ck.fill g m T (ys ++ [y]) ((g :: Fs.flatten) ++ G)) (w' := w.setRow g (arr.toList.take (ys.length * Dat.sz α) ++ ds ++ arr.toList.drop (ys.length * Dat.sz α + Dat.sz α)).toArray)
    (by rw [List.getElem?_set_self hkl]; rfl) rfl rfl rfl (by simp) (fun b _ hb => hother b (fun e => hb (by simp [e]))) ?_ ?_ ?_
  · rw [List.set_set] at hab
    exact hK _ _ (K _ hab _ (hE.put_none undef))
  · intro w2 h2
    have hsame : ∀ b ∈ (g :: Fs.flatten) ++ G, b ≠ g → w2.heap[b]? = w.heap[b]? := fun b hb hne => (h2 b hb).trans (hother b hne)
    refine ⟨_, Fs ++ [G], (h2 g (by simp [Ck.fill])).trans (setRow_heap w g arr _ T _ hg), ?_, by simp, ?_⟩
    · rw [← hs]
      simp only [List.size_toArray, List.length_append, List.length_take, List.length_drop, hal, hlen]
      omega
    · have hy1 : Elems w2 ds [y] [G] := ⟨rfl, fun i x hx => by
        cases i with
        | zero =>
          simp at hx
          subst hx
          refine ⟨G, rfl, ?_⟩
          unfold cut
          rw [Nat.zero_mul, List.drop_zero, List.take_of_length_le (by omega)]
          exact Dat.own_same hown fun b hb => hsame b (List.mem_append_right _ hb) (fun e => hgG (e ▸ hb))
        | succ i => simp at hx⟩
      refine (he.same fun b hb => hsame b (List.mem_append_left _ (List.mem_cons_of_mem _ hb)) (fun e => hgF (e ▸ hb))).app hy1 ?_ (by rw [hal]; omega)
      simp only [List.length_singleton]
      rw [List.take_append_of_le_length (by rw [List.length_append, List.length_take, hal, hlen, Nat.add_mul]; omega), List.take_of_length_le (by rw [List.length_append, List.length_take, hal, hlen, Nat.add_mul]; omega)]
  · intro b hb
    refine ⟨.inl hb, ?_⟩
    rw [size_setRow]
    rcases List.mem_append.1 hb with hb | hb
    · exact (hltF b hb).2
    · exact Dat.own_lt hown b hb
  · exact List.nodup_append.2 ⟨hFn, hGn, fun a ha b hb e => hdj b hb (e ▸ ha)⟩
end

/-! ## What two chunks own together -/
section
variable {S : Nat → Prop} {w0 w : World} {L : List Ck}
theorem SH.nd (h : SH S w0 w L) {k : Nat} {c : Ck} (hk : L[k]? = some c) : c.F.Nodup := (nodup_flatMap_iff.1 h.apart).1 k c hk
theorem SH.dj (h : SH S w0 w L) {i j : Nat} {c d : Ck} (hi : L[i]? = some c) (hj : L[j]? = some d) (hij : i ≠ j) : ∀ b ∈ c.F, b ∉ d.F := (nodup_flatMap_iff.1 h.apart).2 i j c d hi hj hij
theorem SH.ge' (h : SH (Old w0) w0 w L) {k : Nat} {c : Ck} (hk : L[k]? = some c) : ∀ b ∈ c.F, w0.heap.size ≤ b := fun b hb => Nat.le_of_not_lt (h.ge c (List.mem_of_getElem? hk) b hb).1
theorem nd_app {F G : List Nat} (h1 : F.Nodup) (h2 : G.Nodup) (h : ∀ b ∈ F, b ∉ G) : (F ++ G).Nodup := List.nodup_append.2 ⟨h1, h2, fun a ha b hb e => h a ha (e ▸ hb)⟩
theorem dj_app {F G H : List Nat} (h1 : ∀ b ∈ F, b ∉ G) (h2 : ∀ b ∈ F, b ∉ H) : ∀ b ∈ F, b ∉ G ++ H := fun b hb hm => (List.mem_append.1 hm).elim (h1 b hb) (h2 b hb)
theorem dj_nil {F : List Nat} : ∀ b ∈ F, b ∉ ([] : List Nat) := fun _ _ h => by cases h
theorem ge_app {F G : List Nat} {n : Nat} (h1 : ∀ b ∈ F, n ≤ b) (h2 : ∀ b ∈ G, n ≤ b) : ∀ b ∈ F ++ G, n ≤ b := fun b hb => (List.mem_append.1 hb).elim (h1 b) (h2 b)
theorem ge_nil {n : Nat} : ∀ b ∈ ([] : List Nat), n ≤ b := fun _ h => by cases h
/-- An owned slice out of its chunk. -/
theorem SH.slO {α : Type} [Dat α] (h : SH S w0 w L) {k : Nat} {v : Value} {xs : List α} {F : List Nat} (hk : L[k]? = some (Ck.own [v] xs F)) : SlO w v xs F := by
  obtain ⟨u, hu, hs⟩ := (show Dat.own w [v] xs F from h.get hk)
  cases hu
  exact hs
theorem SlO.form {α : Type} [Dat α] {v : Value} {xs : List α} {F : List Nat} (h : SlO w v xs F) : ∃ (A : Option Addr) (cap : Nat), v = .slice A xs.length cap ∧ xs.length ≤ 9223372036854775807 :=
  (h.rd (B := Old w) fun b hb => h.lt b hb).form
end

theorem SH.flat {S : Nat → Prop} {w0 w : World} {L : List Ck} {α : Type} [Dat α] (h : SH S w0 w L) {cs : List Value} {x : α} (hx : ∀ w, Dat.own w cs x []) : SH S w0 w (Ck.own cs x [] :: L) :=
  h.call (Below.refl _ _) (c := Ck.own cs x []) (fun w2 _ => hx w2) (fun b hb => by cases hb) List.nodup_nil

/-! ## Function values -/
/-- A function that can be called through a value. -/
def FnOk (P : Program) (f : FuncId) : Prop := ∃ fn, P.funcs[f]? = some fn ∧ fn.body.isNone = false ∧ (fn.name == "runtime.NumGoroutine") = false

theorem SH.varlt {S : Nat → Prop} {w0 w : World} {L : List Ck} (h : SH S w0 w L) {k b : Nat} {cs : List Value} {T : TypeId} (hk : L[k]? = some (Ck.var b cs T)) : b < w.heap.size :=
  (h.ge _ (List.mem_of_getElem? hk) b (by simp [Ck.var])).2

theorem evals {n : Nat} {ρ : List (Nat × Value)} {a : Act} (hE : Env n ρ a) : ∀ {xs : List Operand} {vs : List Value}, xs.map (ev? ρ) = vs.map some → xs.map a.eval = vs
  | [], [], _ => rfl
  | [], _ :: _, h => by simp at h
  | _ :: _, [], h => by simp at h
  | x :: xs, v :: vs, h => by
    simp only [List.map_cons, List.cons.injEq] at h
    rw [List.map_cons, hE.eval h.1, evals hE h.2]

section
variable {P : Program} {ops : Array Oper} {Q : Exit → Act → World → Prop} {n : Nat} {ρ : List (Nat × Value)} {a : Act} {S : Nat → Prop} {w0 w : World} {L : List Ck} {rest : List Oper} {d : Nat} {ty : TypeId} {pos : String} {after : Array Edge}

/-- A call through a function value, answered plainly. -/
theorem st_callV (hE : Env n ρ a) (hS : SH S w0 w L) {x : Operand} {f : FuncId} {capt : List Value} {xs : Array Operand} {ts : Array TypeId} {vs : List Value} {v : Value}
    (hf : FnOk P f) (hx : ev? ρ x = some (.func (.func f) #[] capt.toArray))
    (hc : Calls P f (vs ++ capt).toArray w (fun e w' => e = .returned v ∧ Below w.heap.size w w')) (hxs : xs.toList.map (ev? ρ) = vs.map some) (hd : Nat.blt d n = true)
    (k : ∀ w', SH S w0 w' L → ∀ a, Env n ((d, v) :: ρ) a → wpList P ops Q rest a w') :
    wpList P ops Q (⟨some d, .call { callee := .value x, args := xs, argTypes := ts }, ty, pos, after, none⟩ :: rest) a w := by
  obtain ⟨fn, hf, hb, hn⟩ := hf
  have hn' : ¬ fn.name = "runtime.NumGoroutine" := by simpa using hn
  have hb' : ¬ fn.body = none := by intro e; rw [e] at hb; cases hb
  refine wpList_plain rfl fun K hK => ?_
  have hm : xs.map a.eval = vs.toArray := by
    apply Array.toList_inj.1
    rw [Array.toList_map, evals hE hxs]
  unfold Oper.wp
  have : (execOp a.eval ⟨some d, .call { callee := .value x, args := xs, argTypes := ts }, ty, pos, after, none⟩).run P w = .ok (.enter f (vs ++ capt).toArray) w := by
    simp [execOp, resolve, hm, hE.eval hx, Deferred.ofValue, invoke, callFunc, hf, hn', hb']
  rw [this, Oper.upon_enter]
  refine hc.mono fun e w' hr => ?_
  obtain ⟨rfl, hb⟩ := hr
  exact hK _ _ (k w' (hS.same hb) _ (hE.put hd v))

theorem q_callV {R : Act → Prop} (hE : Env n ρ a) {x : Operand} {f : FuncId} {capt : List Value} {xs : Array Operand} {ts : Array TypeId} {vs : List Value} {v : Value}
    (hf : FnOk P f) (hx : ev? ρ x = some (.func (.func f) #[] capt.toArray))
    (hc : ∀ w, SH S w0 w L → Calls P f (vs ++ capt).toArray w (fun e w' => e = .returned v ∧ Below w.heap.size w w')) (hxs : xs.toList.map (ev? ρ) = vs.map some) (hd : Nat.blt d n = true)
    (k : ∀ a, Env n ((d, v) :: ρ) a → wpQuiet P ops (fun w' => SH S w0 w' L) R rest a) :
    wpQuiet P ops (fun w' => SH S w0 w' L) R (⟨some d, .call { callee := .value x, args := xs, argTypes := ts }, ty, pos, after, none⟩ :: rest) a := by
  obtain ⟨fn, hf, hb, hn⟩ := hf
  have hn' : ¬ fn.name = "runtime.NumGoroutine" := by simpa using hn
  have hb' : ¬ fn.body = none := by intro e; rw [e] at hb; cases hb
  have hm : xs.map a.eval = vs.toArray := by
    apply Array.toList_inj.1
    rw [Array.toList_map, evals hE hxs]
  unfold wpQuiet
  simp only [Region.wanted, if_true]
  refine ⟨v, fun w' hw' => ?_, k _ (hE.put hd v)⟩
  unfold Oper.quietAt
  have : (execOp a.eval ⟨some d, .call { callee := .value x, args := xs, argTypes := ts }, ty, pos, after, none⟩).run P w' = .ok (.enter f (vs ++ capt).toArray) w' := by
    simp [execOp, resolve, hm, hE.eval hx, Deferred.ofValue, invoke, callFunc, hf, hn', hb']
  rw [this]
  exact ⟨rfl, (hc w' hw').mono fun e w2 h => ⟨h.1, hw'.same h.2⟩⟩

theorem y_makeFunc (hE : Env n ρ a) {f : Fn} {xs : Array Operand} {vs : List Value} (hx : xs.toList.map (ev? ρ) = vs.map some) : Yields P a w (.makeFunc f #[] xs) ty (.func f #[] vs.toArray) := by
  intro _ _ _ _
  have hm : xs.map a.eval = vs.toArray := by
    apply Array.toList_inj.1
    rw [Array.toList_map, evals hE hx]
  simp [execOp, Instr.makeFunc, hm]

/-- A composite value, reckoned by the kernel. -/
theorem y_build (hE : Env n ρ a) {t : TypeId} {parts : Array (Nat × Operand)} {is : List Nat} {vs : List Value} {v : Value} (hi : parts.toList.map (·.1) = is) (hx : (parts.toList.map (·.2)).map (ev? ρ) = vs.map some)
    (hr : (Instr.build t (is.zip vs).toArray).run P w = .ok v w) : Yields P a w (.build t parts) ty v := by
  intro _ _ _ _
  have hm : (parts.map fun (p : Nat × Operand) => (p.1, a.eval p.2)) = (is.zip vs).toArray := by
    apply Array.toList_inj.1
    have := evals hE hx
    rw [Array.toList_map, ← hi, ← this]
    clear hx hi hr this
    generalize parts.toList = l
    induction l with
    | nil => rfl
    | cons x l ih => simp [ih]
  have hm' : (parts.map fun (x : Nat × Operand) => match x with | (i, x) => (i, a.eval x)) = (is.zip vs).toArray := hm
  simp only [execOp, hm', Sem.run_bind, hr, Result.andThen_ok, Sem.run_pure]

/-- A literal of a slice: a row of its own, of plain elements. -/
theorem st_buildSlice {α : Type} [Dat α] (hE : Env n ρ a) (hS : SH S w0 w L) {t e len : Nat} {parts : Array (Nat × Operand)} {is : List Nat} {vs cs : List Value} {ys : List α} (hi : parts.toList.map (·.1) = is) (hx : (parts.toList.map (·.2)).map (ev? ρ) = vs.map some)
    (hr : (Instr.buildSlice t len (is.zip vs).toArray).run P w = .ok (.slice (some ⟨w.heap.size, 0, none⟩) len len) (w.alloc (.cells cs.toArray e))) (hy : ys.length = len) (hcs : cs.length = len * Dat.sz α) (hm : len ≤ maxLen)
    (hel : ∀ w i y, ys[i]? = some y → Dat.own w (cut (Dat.sz α) cs i) y []) (hd : Nat.blt d n = true)
    (K : ∀ b w', SH S w0 w' (Ck.own [.slice (some ⟨b, 0, none⟩) len len] ys [b] :: L) → ∀ a, Env n ((d, .slice (some ⟨b, 0, none⟩) len len) :: ρ) a → wpList P ops Q rest a w') :
    wpList P ops Q (⟨some d, .buildSlice t len parts, ty, pos, after, none⟩ :: rest) a w := by
  refine wpList_plain rfl fun K' hK => ?_
  have hm' : (parts.map fun (x : Nat × Operand) => match x with | (i, x) => (i, a.eval x)) = (is.zip vs).toArray := by
    apply Array.toList_inj.1
    have := evals hE hx
    rw [Array.toList_map, ← hi, ← this]
    clear hx hi hr this
    generalize parts.toList = l
    induction l with
    | nil => rfl
    | cons x l ih => simp [ih]
  unfold Oper.wp
  have hrun : (execOp a.eval ⟨some d, .buildSlice t len parts, ty, pos, after, none⟩).run P w = .ok (.value (.slice (some ⟨w.heap.size, 0, none⟩) len len)) (w.alloc (.cells cs.toArray e)) := by
    simp only [execOp, hm', Sem.run_bind, hr, Result.andThen_ok, Sem.run_pure]
  rw [hrun]
  refine hK _ _ (K _ _ (hS.call (w' := w.alloc (.cells cs.toArray e)) ((Below.refl _ _).alloc (Nat.le_refl _) _) (c := Ck.own [.slice (some ⟨w.heap.size, 0, none⟩) len len] ys [w.heap.size]) ?_ ?_ ?_) _ (hE.put hd _))
  · intro w2 h2
    subst hy
    refine ⟨_, rfl, SlO_iff.2 (.inr ⟨w.heap.size, ys.length, cs.toArray, e, List.replicate ys.length [], rfl, (h2 w.heap.size (by simp [Ck.own])).trans (heap_alloc_new w _), Nat.le_refl _, hm, by simp [hcs], by simp, ?_⟩)⟩
    refine ⟨by simp, fun i y hi => ⟨[], ?_, hel w2 i y hi⟩⟩
    rw [List.getElem?_replicate, if_pos (List.getElem?_eq_some_iff.1 hi).1]
  · intro b hb
    simp only [Ck.own, List.mem_singleton] at hb
    subst hb
    simp
  · simp [Ck.own]

/-- append onto an own row, of elements that hold no blocks. -/
theorem st_append {α : Type} [Dat α] (hE : Env n ρ a) (hS : SH S w0 w L) {t e bytes : Nat} {x y : Operand} {z v s : Value} {xs ys : List α} {F : List Nat} {news : List Value} {k : Nat} (ht : chkSlice P t e (Dat.sz α) bytes = true)
    (hz : ∀ w, (zeroValue e).run P w = .ok z w) (hzs : z.cells.size = Dat.sz α) (hx : ev? ρ x = some v) (hy : ev? ρ y = some s) (hk : L[k]? = some (Ck.own [v] xs F)) (hs : Src w s ys.length news) (hl : news.length = ys.length * Dat.sz α) (h1 : ∀ u ∈ news, u.oneCell' = true)
    (hel : ∀ i u, ys[i]? = some u → Dat.own w (cut (Dat.sz α) news i) u []) (hb : (xs.length + ys.length) * bytes ≤ 140737488355328) (hm : xs.length + ys.length ≤ 9223372036854775807) (hd : Nat.blt d n = true)
    (K : ∀ A cap F' w', SH S w0 w' (L.set k (Ck.own [.slice A (xs ++ ys).length cap] (xs ++ ys) F')) → ∀ a, Env n ((d, .slice A (xs ++ ys).length cap) :: ρ) a → wpList P ops Q rest a w') :
    wpList P ops Q (⟨some d, .call { callee := .builtin .append, args := #[x, y], argTypes := #[t, t] }, ty, pos, after, none⟩ :: rest) a w := by
  refine wpList_plain rfl fun K' hK => ?_
  have hv : SlO w v xs F := hS.slO hk
  have hF : F.Nodup := hS.nd hk
  have hels : Elems w news ys (List.replicate ys.length []) := ⟨by simp, fun i u hi => ⟨[], by rw [List.getElem?_replicate, if_pos (List.getElem?_eq_some_iff.1 hi).1], hel i u hi⟩⟩
  have hfl : (List.replicate ys.length ([] : List Nat)).flatten = [] := by simp
  obtain ⟨v', w', F', hr, h3, h4, h5, h6, h7, h8, h9, h10⟩ := run_app (P := P) (ty := ty) ht rfl hz hzs hv hF hs hl h1 hels (by rw [hfl]; exact List.nodup_nil) (by rw [hfl]; intro b hb; cases hb) hb (by unfold maxLen; omega)
  unfold Oper.wp
  have hrun : (execOp a.eval ⟨some d, .call { callee := .builtin .append, args := #[x, y], argTypes := #[t, t] }, ty, pos, after, none⟩).run P w = .ok (.value v') w' := by
    simp only [execOp, resolve, invoke, builtin, Sem.run_bind, Sem.run_pure, Result.andThen_ok, List.map_toArray, List.map_cons, List.map_nil, hE.eval hx, hE.eval hy, hr]
  rw [hrun]
  obtain ⟨A, cap, rfl, _⟩ := (h3.rd (B := Old w') fun b hb => h3.lt b hb).form
  refine hK _ _ (K A cap F' w' (hS.turn hk h5 h6 h7 h8 h9 (fun w2 h2 => ⟨_, rfl, h3.same h2⟩) (fun b hb => ⟨?_, h3.lt b hb⟩) h4) _ (hE.put hd _))
  rcases h10 b hb with h | h | h
  · exact .inl h
  · rw [hfl] at h; cases h
  · exact .inr h
end

/-! ## Parts of slices and strings -/
section
variable {α : Type} [Dat α] {B : Nat → Prop} {w : World} {A : Option Addr} {cap : Nat} {xs : List α}
theorem SlR.take (h : SlR B w (.slice A xs.length cap) xs) (k : Nat) : SlR B w (.slice A (xs.take k).length cap) (xs.take k) := by
  obtain ⟨A', cap', he, h1, h2, h3⟩ := h
  simp only [Value.slice.injEq] at he
  obtain ⟨rfl, _, rfl⟩ := he
  refine ⟨A, cap, rfl, by rw [List.length_take]; omega, h2, fun hn => ?_⟩
  obtain ⟨ad, rfl, hb, hc⟩ := h3 (by intro e; rw [e] at hn; simp at hn)
  refine ⟨ad, rfl, hb, fun i x hi => hc i x ?_⟩
  rw [List.getElem?_take] at hi
  split at hi
  · exact hi
  · cases hi
theorem SlR.drop (h : SlR B w (.slice A xs.length cap) xs) {k : Nat} (hk : k ≤ xs.length) :
    SlR B w (.slice (if cap = k then A else A.map (·.add (k * Dat.sz α))) (xs.drop k).length (cap - k)) (xs.drop k) := by
  obtain ⟨A', cap', he, h1, h2, h3⟩ := h
  simp only [Value.slice.injEq] at he
  obtain ⟨rfl, _, rfl⟩ := he
  refine ⟨_, _, rfl, by rw [List.length_drop]; omega, by omega, fun hn => ?_⟩
  have hlt : k < xs.length := by
    rcases Nat.lt_or_ge k xs.length with h | h
    · exact h
    · exact absurd (List.drop_eq_nil_of_le h) hn
  obtain ⟨ad, rfl, hb, hc⟩ := h3 (by intro e; rw [e] at hlt; simp at hlt)
  rw [if_neg (by omega)]
  refine ⟨ad.add (k * Dat.sz α), rfl, by rw [block_add]; exact hb, fun i x hi => ?_⟩
  rw [List.getElem?_drop] at hi
  obtain ⟨cs, hr, hcs⟩ := hc _ x hi
  refine ⟨cs, hr, ?_⟩
  rw [add_add, ← Nat.add_mul]
  exact hcs
end

section
variable {P : Program} {n : Nat} {ρ : List (Nat × Value)} {a : Act} {w : World} {ty : TypeId}
theorem y_slice_hi (hE : Env n ρ a) {x y : Operand} {t e sz bytes len cap h : Nat} {A : Option Addr} {i : Int} {m : Nat} (hx : ev? ρ x = some (.slice A len cap)) (hy : ev? ρ y = some (.int .i64 i)) (hi : i = h) (hh : h ≤ cap) (hm : m = h) (ht : chkSlice P t e sz bytes = true) :
    Yields P a w (.slice t x none (some y) none) ty (.slice A m cap) := by
  intro _ _ _ _
  subst hi
  subst hm
  obtain ⟨hu, inf, hin, hs, _⟩ := chkSlice_spec ht
  have hA : A.map (fun b => b.add 0) = A := by cases A <;> simp [Addr.add]
  simp [execOp, hE.eval hx, hE.eval hy, Instr.sliceAt, Instr.slice, run_underlying hu, Instr.sliceBounds, Instr.sliceBound, asIntOf, hh, sizeOf, typeInfo, hin, hA]
theorem y_slice_lo (hE : Env n ρ a) {x y : Operand} {t e sz bytes len cap l : Nat} {A : Option Addr} {i : Int} {m : Nat} (hx : ev? ρ x = some (.slice A len cap)) (hy : ev? ρ y = some (.int .i64 i)) (hi : i = l) (hl : l ≤ len) (hm : m = len - l) (ht : chkSlice P t e sz bytes = true) :
    Yields P a w (.slice t x (some y) none none) ty (.slice (if cap = l then A else A.map (·.add (l * sz))) m (cap - l)) := by
  intro _ _ _ _
  subst hi
  subst hm
  obtain ⟨hu, inf, hin, hs, _⟩ := chkSlice_spec ht
  simp [execOp, hE.eval hx, hE.eval hy, Instr.sliceAt, Instr.slice, run_underlying hu, Instr.sliceBounds, Instr.sliceBound, asIntOf, hl, sizeOf, typeInfo, hin, hs]
end

theorem SlR_cap {α : Type} [Dat α] {B : Nat → Prop} {w : World} {A : Option Addr} {len cap : Nat} {xs : List α} (h : SlR B w (.slice A len cap) xs) : xs.length ≤ cap ∧ len = xs.length := by
  obtain ⟨A', cap', he, h1, h2, h3⟩ := h
  simp only [Value.slice.injEq] at he
  obtain ⟨rfl, rfl, rfl⟩ := he
  exact ⟨h1, rfl⟩

def chkArr (P : Program) (t n e : Nat) : Bool :=
  (match P.underlying t with | some (.array n' e') => Nat.beq n' n && Nat.beq e' e | _ => false) && chkOne P e

theorem y_index_arr {P : Program} {n : Nat} {ρ : List (Nat × Value)} {a : Act} {w : World} {ty : TypeId} {α : Type} [Inhabited α] (mk : α → Value) (hE : Env n ρ a) {x y : Operand} {t len e : Nat} {cs : List Value} {xs : List α} {i : Int} {k : Nat} (hx : ev? ρ x = some (.agg cs.toArray)) (hcs : cs = xs.map mk)
    (hy : ev? ρ y = some (.int .i64 i)) (hi : i = k) (hk : k < xs.length) (ht : chkArr P t len e = true) (hlen : xs.length = len) : Yields P a w (.index t x y) ty (mk (nth xs k)) := by
  intro _ _ _ _
  unfold chkArr at ht
  simp only [Bool.and_eq_true] at ht
  obtain ⟨h1, h2⟩ := ht
  have hu : P.underlying t = some (.array len e) := by
    cases hu : P.underlying t with
    | none => simp [hu] at h1
    | some d =>
      cases d with
      | array n' e' => rw [hu] at h1; simp only [Bool.and_eq_true] at h1; rw [Nat.eq_of_beq_eq_true h1.1, Nat.eq_of_beq_eq_true h1.2]
      | _ => simp [hu] at h1
  subst hi
  subst hcs
  have hb : (0 : Int) ≤ (k : Int) ∧ (k : Int) < (len : Int) := by omega
  have hget : (xs.map mk)[k]? = some (mk (nth xs k)) := by
    simp [nth, List.getD_eq_getElem?_getD, List.getElem?_eq_getElem hk]
  have hget' : (xs.map mk).toArray[k]? = some (mk (nth xs k)) := by simpa using hget
  simp only [execOp, hE.eval hx, hE.eval hy, Instr.index, asIntOf, Sem.run_bind, Sem.run_pure, Result.andThen_ok, run_underlying hu, hb, and_self, if_true, (chkOne_isAgg h2 w).2, part, (chkOne_isAgg h2 w).1, Int.toNat_natCast, Nat.mul_one, Bool.false_eq_true, if_false, hget']

section
variable {P : Program}
theorem bt_inj (a b : ByteArray) : (a.toList = b.toList) = (a = b) := by
  rw [ByteArray.toList_eq, ByteArray.toList_eq]
  obtain ⟨⟨x⟩⟩ := a
  obtain ⟨⟨y⟩⟩ := b
  simp
/-- Two structs that are equal, or not: given that their cells compare so. -/
theorem y_eql_agg {n : Nat} {ρ : List (Nat × Value)} {a : Act} {w : World} {ty : TypeId} (hE : Env n ρ a) {x y : Operand} {t t' : Nat} {cx cy : List Value} {r : Bool} (hx : ev? ρ x = some (.agg cx.toArray)) (hy : ev? ρ y = some (.agg cy.toArray))
    (hg : P.eqGuardType P.depth t = false) (h : ∀ w, (Op.equalIn 10000 t (.agg cx.toArray) (.agg cy.toArray)).run P w = .ok r w) : Yields P a w (.binOp .eql t x y t') ty (.bool r) := by
  intro _ _ _ _
  simp only [execOp, hE.eval hx, hE.eval hy, Sem.run_bind, run_eqGuard_agg _ _ _ _ _ _ _ hg, Sem.run_pure, Result.andThen_ok, run_eql_struct, h]
theorem y_neq_agg {n : Nat} {ρ : List (Nat × Value)} {a : Act} {w : World} {ty : TypeId} (hE : Env n ρ a) {x y : Operand} {t t' : Nat} {cx cy : List Value} {r : Bool} (hx : ev? ρ x = some (.agg cx.toArray)) (hy : ev? ρ y = some (.agg cy.toArray))
    (hg : P.eqGuardType P.depth t = false) (h : ∀ w, (Op.equalIn 10000 t (.agg cx.toArray) (.agg cy.toArray)).run P w = .ok r w) : Yields P a w (.binOp .neq t x y t') ty (.bool (!r)) := by
  intro _ _ _ _
  simp only [execOp, hE.eval hx, hE.eval hy, Sem.run_bind, run_eqGuard_agg _ _ _ _ _ _ _ hg, Sem.run_pure, Result.andThen_ok, run_neq_struct, h]
end

section
variable {S : Nat → Prop} {w0 w : World} {L : List Ck}
theorem ok_sl {α : Type} [Dat α] {v : Value} {xs : List α} {F : List Nat} (h : SlO w v xs F) : (Ck.own [v] xs F).ok w := fun _ hs => ⟨_, rfl, h.same hs⟩
theorem ok_st {α : Type} [Dat α] {cs : List Value} {x : α} {F : List Nat} (h : Dat.own w cs x F) : (Ck.own cs x F).ok w := fun _ hs => Dat.own_same h hs
/-- The first chunk's blocks, dealt out among several. -/
theorem SH.split {c : Ck} (h : SH S w0 w (c :: L)) (M : List Ck) (hF : c.F = M.flatMap (·.F)) (hM : ∀ d ∈ M, d.ok w) : SH S w0 w (M ++ L) := by
  refine ⟨h.keep, h.dom, fun x hx => ?_, fun x hx b hb => ?_, ?_⟩
  · rcases List.mem_append.1 hx with hx | hx
    · exact hM x hx
    · exact h.ok x (List.mem_cons_of_mem _ hx)
  · rcases List.mem_append.1 hx with hx | hx
    · exact h.ge c (by simp) b (by rw [hF]; exact List.mem_flatMap.2 ⟨x, hx, hb⟩)
    · exact h.ge x (List.mem_cons_of_mem _ hx) b hb
  · rw [List.flatMap_append, ← hF]
    exact h.apart
theorem oks_nil : ∀ d ∈ ([] : List Ck), d.ok w := fun _ h => by cases h
theorem oks_cons {c : Ck} {M : List Ck} (h : c.ok w) (hM : ∀ d ∈ M, d.ok w) : ∀ d ∈ c :: M, d.ok w := List.forall_mem_cons.2 ⟨h, hM⟩
end

/-! ## A region that draws its order and that does more than read -/
def NormQ (K : Act → World → Prop) : Exit → Act → World → Prop := fun e a w => e = .normal ∧ K a w
section
variable {P : Program} {ops : Array Oper} {n : Nat} {ρ : List (Nat × Value)} {a : Act} {w : World} {S : World → Prop} {K : Act → World → Prop} {d : Nat} {op : Op} {ty : TypeId} {pos : String} {after : Array Edge} {fuel : Nat} {listed : Array Bool}
theorem reg_held {Q : Exit → Act → World → Prop} {id : Nat} {l : List Oper} (n : Nat) (hn : l.length = n) (S : World → Prop) (hm : P.follows .mixedOrders = true)
    (h : wpAnyH P .any l.toArray (NormQ fun a w => Q .normal a w) S n (Array.replicate n false) a w.drew) : (Code.region id l.toArray true).wp P Q a w :=
  Code.wp_mono (Q := NormQ fun a w => Q .normal a w) (fun e a w h => by obtain ⟨rfl, h⟩ := h; exact h) (wp_region_held hm (by rw [List.size_toArray, hn]; exact h))
def takeB (ops : Array Oper) (listed : Array Bool) (i : Nat) : Bool := Region.noSelect ops && Region.free .any ops listed i && (Region.ready .any ops listed).contains i
theorem h_take (i : Nat) (hi : ops[i]? = some ⟨some d, op, ty, pos, after, none⟩) (hB : takeB ops listed i = true) (hE : Env n ρ a) {v : Value} (hy : ∀ w, S w → Yields P a w op ty v) (hS : S w) (hd : Nat.blt d n = true)
    (k : ∀ a, Env n ((d, v) :: ρ) a → wpAnyH P .any ops (NormQ K) S fuel (listed.setIfInBounds i true) a w) : wpAnyH P .any ops (NormQ K) S (fuel + 1) listed a w := by
  simp only [takeB, Bool.and_eq_true] at hB
  refine wpAnyH_take (v := v) hi hB.1.1 hB.1.2 hB.2 (fun c a w h => by cases h.1) (.inl ⟨rfl, fun w hw => ?_⟩) hS (k _ (hE.put hd v))
  exact hy w hw _ _ _ _
theorem h_only (i : Nat) {o : Oper} (hi : ops[i]? = some o) (hr : Region.ready .any ops listed = [i])
    (h : wpList P ops (NormQ fun a w => S w ∧ wpAnyH P .any ops (NormQ K) S fuel (listed.setIfInBounds i true) a w) [o] a w) : wpAnyH P .any ops (NormQ K) S (fuel + 1) listed a w := by
  refine wpAnyH_all hr (by simp) fun j hj => ?_
  obtain rfl := List.mem_singleton.1 hj
  have mono : ∀ (o : Oper) (K1 : Act → World → Prop) (a : Act) (w : World), o.wp P a w (fun a' w' => NormQ K1 .normal a' w') (NormQ K1) → o.wp P a w K1 (NormQ K) := by
    intro o K1 a w h
    unfold Oper.wp at h ⊢
    generalize (execOp a.eval o).run P w = r at h ⊢
    cases r with
    | ok n w' =>
      cases n <;> simp only [Oper.upon] at h ⊢
      case value u => exact h.2
      case skip => exact h.2
      case defer d => exact h.2
      case enter f args =>
        refine Calls.mono h fun e w'' he => ?_
        cases e with
        | returned u => exact he.2
        | panicked c => cases he.1
        | outgrown => obtain ⟨_, _, h, _⟩ := he; cases h
      case row row args => exact Rows.mono h fun u w'' he => he.2
    | halt x w' =>
      cases x <;> simp only [Oper.upon] at h ⊢
      case panic u => cases h.1
  unfold wpOp
  simp only [hi]
  unfold wpList at h
  split
  · rename_i hw
    simp only [hw, if_true] at h
    rcases h with h | ⟨_, h⟩
    · exact .inl (mono _ _ _ _ h)
    · obtain ⟨_, _, h, _⟩ := h; cases h
  · rename_i hw
    simp only [hw] at h
    exact h.2
theorem h_index {α : Type} [Dat α] [Inhabited α] (i : Nat) {x y : Operand} {t e bytes : Nat} (hi0 : ops[i]? = some ⟨some d, .indexAddr t x y, ty, pos, after, none⟩) (hB : takeB ops listed i = true) (hE : Env n ρ a) {B : Nat → Prop} {w1 : World} {A : Option Addr} {len cap : Nat} {xs : List α} (hv : SlR B w1 (.slice A len cap) xs) {j : Int} {k : Nat}
    (hx : ev? ρ x = some (.slice A len cap)) (hy : ev? ρ y = some (.int .i64 j)) (hi : j = k) (hk : k < xs.length) (ht : chkSlice P t e (Dat.sz α) bytes = true) (hS : S w) (hd : Nat.blt d n = true)
    (C : ∀ ad cs, Dat.rd B w1 cs (nth xs k) → CellsAt w1 ad cs → B ad.block → ∀ a, Env n ((d, .pointer (some (ad.add 0))) :: ρ) a → wpAnyH P .any ops (NormQ K) S fuel (listed.setIfInBounds i true) a w) :
    wpAnyH P .any ops (NormQ K) S (fuel + 1) listed a w := by
  obtain ⟨ad, cs, rfl, rfl, hr, hc, hb⟩ := hv.elem hk
  subst hi
  refine h_take i hi0 hB hE (fun _ _ => y_indexAddr hE hx hy (by omega) (by omega) ht) hS hd fun a' hE' => ?_
  rw [Int.toNat_natCast] at hE'
  exact C _ cs hr hc (by rw [block_add]; exact hb) a' hE'
theorem h_end (hr : Region.ready .any ops listed = []) (h : K a w) : wpAnyH P .any ops (NormQ K) S 0 listed a w := ⟨hr, rfl, h⟩
end

/-! ## Picking chunks; a literal that is a source -/
theorem SH.pick {S : Nat → Prop} {w0 w : World} {L L' : List Ck} (h : SH S w0 w L) (is : List Nat) (hn : is.Nodup) (hL : is.map (fun i => L[i]?) = L'.map some) : SH S w0 w L' := by
  have hget : ∀ (i : Nat) (c : Ck), L'[i]? = some c → ∃ k : Nat, is[i]? = some k ∧ L[k]? = some c := by
    intro i c hi
    have := congrArg (·[i]?) hL
    simp only [List.getElem?_map, hi, Option.map_some] at this
    cases hk : is[i]? with
    | none => rw [hk] at this; simp at this
    | some k => rw [hk] at this; simp at this; exact ⟨k, rfl, this⟩
  have hap := nodup_flatMap_iff.1 h.apart
  have hmem : ∀ c ∈ L', c ∈ L := fun c hc => by
    obtain ⟨i, hi⟩ := List.getElem?_of_mem hc
    obtain ⟨k, _, hk⟩ := hget i c hi
    exact List.mem_of_getElem? hk
  refine ⟨h.keep, h.dom, fun c hc => h.ok c (hmem c hc), fun c hc => h.ge c (hmem c hc), nodup_flatMap_iff.2 ⟨fun i c hi => ?_, fun i j c d hi hj hij => ?_⟩⟩
  · obtain ⟨k, _, hk⟩ := hget i c hi
    exact hap.1 k c hk
  · obtain ⟨k, hik, hk⟩ := hget i c hi
    obtain ⟨m, hjm, hm⟩ := hget j d hj
    refine hap.2 k m c d hk hm fun e => ?_
    subst e
    have h1 := (List.getElem?_eq_some_iff.1 hik)
    have h2 := (List.getElem?_eq_some_iff.1 hjm)
    rcases Nat.lt_or_gt_of_ne hij with hlt | hlt
    · exact List.pairwise_iff_getElem.1 hn i j h1.1 h2.1 hlt (h1.2.trans h2.2.symm)
    · exact List.pairwise_iff_getElem.1 hn j i h2.1 h1.1 hlt (h2.2.trans h1.2.symm)
theorem SH.src {S : Nat → Prop} {w0 w : World} {L : List Ck} (h : SH S w0 w L) {k b : Nat} {cs : List Value} {T : TypeId} (hk : L[k]? = some (Ck.var b cs T)) (m : Nat) (c : Nat) : Src w (.slice (some ⟨b, 0, none⟩) m c) m cs := by
  refine ⟨_, c, rfl, fun j u hj => ⟨_, rfl, ?_⟩⟩
  exact h.cells hk j u hj
section
variable {P : Program} {ops : Array Oper} {Q : Exit → Act → World → Prop} {n : Nat} {ρ : List (Nat × Value)} {a : Act} {S : Nat → Prop} {w0 w : World} {L : List Ck} {rest : List Oper} {d : Nat} {ty : TypeId} {pos : String} {after : Array Edge}
theorem st_lit (hE : Env n ρ a) (hS : SH S w0 w L) {t e len : Nat} {parts : Array (Nat × Operand)} {is : List Nat} {vs cs : List Value} (hi : parts.toList.map (·.1) = is) (hx : (parts.toList.map (·.2)).map (ev? ρ) = vs.map some)
    (hr : (Instr.buildSlice t len (is.zip vs).toArray).run P w = .ok (.slice (some ⟨w.heap.size, 0, none⟩) len len) (w.alloc (.cells cs.toArray e))) (hd : Nat.blt d n = true)
    (K : ∀ b w', SH S w0 w' (Ck.var b cs e :: L) → ∀ a, Env n ((d, .slice (some ⟨b, 0, none⟩) len len) :: ρ) a → wpList P ops Q rest a w') :
    wpList P ops Q (⟨some d, .buildSlice t len parts, ty, pos, after, none⟩ :: rest) a w := by
  refine wpList_plain rfl fun K' hK => ?_
  have hm' : (parts.map fun (x : Nat × Operand) => match x with | (i, x) => (i, a.eval x)) = (is.zip vs).toArray := by
    apply Array.toList_inj.1
    have := evals hE hx
    rw [Array.toList_map, ← hi, ← this]
    clear hx hi hr this
    generalize parts.toList = l
    induction l with
    | nil => rfl
    | cons x l ih => simp [ih]
  unfold Oper.wp
  rw [show (execOp a.eval ⟨some d, .buildSlice t len parts, ty, pos, after, none⟩).run P w = .ok (.value (.slice (some ⟨w.heap.size, 0, none⟩) len len)) (w.alloc (.cells cs.toArray e)) by
    simp only [execOp, hm', Sem.run_bind, hr, Result.andThen_ok, Sem.run_pure]]
  exact hK _ _ (K _ _ (hS.alloc cs e) _ (hE.put hd _))
end
end Go.Proofs.YtmjjcihoobnbgaaDoor.Fw
