/-
  The abstract machine: stores of whole elements into own rows. No condition: every lemma is general in the program.
-/
import Derived.Test.YtmjjcihoobnbgaaDoorAm10
namespace Go.Proofs.YtmjjcihoobnbgaaDoor.Fw
open Go.RowKit
set_option linter.unusedVariables false

/-- One list put for another among lists that share nothing. -/
theorem nodup_set_flatten : ∀ {Fs : List (List Nat)} {k : Nat} {G : List Nat}, Fs.flatten.Nodup → G.Nodup → (∀ b ∈ G, b ∉ Fs.flatten) → (Fs.set k G).flatten.Nodup ∧ ∀ b ∈ (Fs.set k G).flatten, b ∈ Fs.flatten ∨ b ∈ G
  | [], _, _, h, _, _ => ⟨by simp, fun b hb => .inl (by simp at hb)⟩
  | F :: Fs, 0, G, h, hG, hd => by
    rw [List.set_cons_zero, List.flatten_cons]
    rw [List.flatten_cons, List.nodup_append] at h
    refine ⟨List.nodup_append.2 ⟨hG, h.2.1, fun b hb b' hb' e => hd b hb (by rw [List.flatten_cons]; exact List.mem_append_right _ (e ▸ hb'))⟩, fun b hb => ?_⟩
    rcases List.mem_append.1 hb with hb | hb
    · exact .inr hb
    · exact .inl (by rw [List.flatten_cons]; exact List.mem_append_right _ hb)
  | F :: Fs, k + 1, G, h, hG, hd => by
    rw [List.set_cons_succ, List.flatten_cons]
    rw [List.flatten_cons, List.nodup_append] at h
    obtain ⟨i1, i2⟩ := nodup_set_flatten (k := k) h.2.1 hG fun b hb hbf => hd b hb (by rw [List.flatten_cons]; exact List.mem_append_right _ hbf)
    refine ⟨List.nodup_append.2 ⟨h.1, i1, fun b hb b' hb' e => ?_⟩, fun b hb => ?_⟩
    · subst e
      rcases i2 b hb' with h2 | h2
      · exact h.2.2 b hb b h2 rfl
      · exact hd b h2 (by rw [List.flatten_cons]; exact List.mem_append_left _ hb)
    · rw [List.flatten_cons]
      rcases List.mem_append.1 hb with hb | hb
      · exact .inl (List.mem_append_left _ hb)
      · rcases i2 b hb with h2 | h2
        · exact .inl (List.mem_append_right _ h2)
        · exact .inr h2

/-- Cells of a row with one element's cells put anew. -/
def putCells (arr : Array Value) (off sz : Nat) (ds : List Value) : Array Value := (arr.toList.take off ++ ds ++ arr.toList.drop (off + sz)).toArray
theorem putCells_cut {arr : Array Value} {k sz : Nat} {ds : List Value} (hd : ds.length = sz) (hle : k * sz + sz ≤ arr.size) (i : Nat) : cut sz (putCells arr (k * sz) sz ds).toList i = if i = k then ds else cut sz arr.toList i := by
  have hal : arr.toList.length = arr.size := Array.length_toList
  unfold cut putCells
  rw [show (List.toArray (List.take (k * sz) arr.toList ++ ds ++ List.drop (k * sz + sz) arr.toList)).toList = List.take (k * sz) arr.toList ++ ds ++ List.drop (k * sz + sz) arr.toList from rfl]
  have h1 : (List.take (k * sz) arr.toList).length = k * sz := by rw [List.length_take]; omega
  by_cases e : i = k
  · subst e
    rw [if_pos rfl, List.append_assoc, List.drop_append_of_le_length (by omega), List.drop_of_length_le (by omega), List.nil_append, List.take_append_of_le_length (by omega), List.take_of_length_le (by omega)]
  · rw [if_neg e]
    by_cases hlt : i < k
    · have : i * sz + sz ≤ k * sz := by
        have := Nat.mul_le_mul_right sz hlt
        rwa [Nat.succ_mul] at this
      rw [List.append_assoc, List.drop_append_of_le_length (by omega), List.take_append_of_le_length (by rw [List.length_drop]; omega), List.drop_take, List.take_take, Nat.min_eq_left (by omega)]
    · have : k * sz + sz ≤ i * sz := by
        have := Nat.mul_le_mul_right sz (show k + 1 ≤ i by omega)
        rwa [Nat.succ_mul] at this
      rw [List.drop_append, List.drop_of_length_le (by rw [List.length_append]; omega), List.nil_append, List.length_append, h1, hd, List.drop_drop]
      congr 2
      omega
theorem putCells_size {arr : Array Value} {off sz : Nat} {ds : List Value} (hd : ds.length = sz) (hle : off + sz ≤ arr.size) : (putCells arr off sz ds).size = arr.size := by
  have hal : arr.toList.length = arr.size := Array.length_toList
  unfold putCells
  simp only [List.size_toArray, List.length_append, List.length_take, List.length_drop, hal, hd]
  omega

/-- An own row with one element put anew. -/
theorem SlO.put {α : Type} [Dat α] {w : World} {g cap k : Nat} {arr : Array Value} {T : TypeId} {Fs : List (List Nat)} {xs : List α} {y : α} {ds : List Value} {G : List Nat} (hcap : xs.length ≤ cap) (hm : cap ≤ maxLen) (hsz : cap * Dat.sz α ≤ arr.size) (hF : Fs.length = xs.length)
    (he : ∀ i x, xs[i]? = some x → ∃ G, Fs[i]? = some G ∧ Dat.own w (cut (Dat.sz α) arr.toList i) x G) (hk : k < xs.length) (hy : Dat.own w ds y G) (hgF : g ∉ Fs.flatten) (hgG : g ∉ G) :
    k * Dat.sz α + Dat.sz α ≤ arr.size ∧ ∀ w2 : World, w2.heap[g]? = some (.cells (putCells arr (k * Dat.sz α) (Dat.sz α) ds) T (0, 0)) → (∀ b ∈ (Fs.set k G).flatten, w2.heap[b]? = w.heap[b]?) → SlO w2 (.slice (some ⟨g, 0, none⟩) (xs.set k y).length cap) (xs.set k y) (g :: (Fs.set k G).flatten) := by
  have hle : k * Dat.sz α + Dat.sz α ≤ arr.size := by
    have h1 : (k + 1) * Dat.sz α ≤ cap * Dat.sz α := Nat.mul_le_mul_right _ (by omega)
    rw [Nat.succ_mul] at h1
    omega
  have hd : ds.length = Dat.sz α := Dat.rd_len (Dat.own_rd (B := fun _ => True) hy fun _ _ => trivial)
  refine ⟨hle, fun w2 h2 hs => SlO_iff.2 (.inr ⟨g, cap, _, T, Fs.set k G, rfl, h2, by rw [List.length_set]; exact hcap, hm, by rw [putCells_size hd hle]; exact hsz, rfl, by rw [List.length_set, List.length_set, hF], fun i x hi => ?_⟩)⟩
  rw [putCells_cut hd hle]
  rw [List.getElem?_set] at hi
  by_cases e : k = i
  · subst e
    rw [if_pos rfl, if_pos hk] at hi
    cases hi
    refine ⟨G, by rw [List.getElem?_set_self (by omega)], ?_⟩
    rw [if_pos rfl]
    exact Dat.own_same hy fun b hb => hs b (List.mem_flatten.2 ⟨G, List.mem_of_getElem? (List.getElem?_set_self (by omega)), hb⟩)
  · rw [if_neg e] at hi
    obtain ⟨H, hH, ho⟩ := he i x hi
    refine ⟨H, by rw [List.getElem?_set_ne e]; exact hH, ?_⟩
    rw [if_neg (fun h => e h.symm)]
    exact Dat.own_same ho fun b hb => hs b (List.mem_flatten.2 ⟨H, List.mem_of_getElem? (by rw [List.getElem?_set_ne e]; exact hH), hb⟩)

theorem memN_of {n : Nat} : ∀ {ns : List Nat}, n ∈ ns → memN n ns = true
  | x :: r, h => by
    simp only [memN]
    cases hb : Nat.beq n x with
    | true => rfl
    | false =>
      rcases List.mem_cons.1 h with rfl | h
      · simp at hb
      · exact memN_of h
theorem takeE_mem {ns : List Nat} {n : Nat} {e : En} : ∀ {E : List (Nat × En)}, (n, e) ∈ E → memN n ns = true → (n, e) ∈ takeE ns E
  | (r, x) :: E, h, hm => by
    simp only [takeE]
    rcases List.mem_cons.1 h with h | h
    · cases h
      rw [hm]
      exact List.mem_cons_self
    · cases memN r ns with
      | true => exact List.mem_cons_of_mem _ (takeE_mem h hm)
      | false => exact takeE_mem h hm
theorem takeE_own {θ : List Loc} {E : List (Nat × En)} {ns : List Nat} {n b : Nat} (hn : n ∈ ns) (ho : ownN E n) (hb : b ∈ locF θ n) : b ∈ (takeE ns E).flatMap (fun e => (e.2.ck θ e.1).F) := by
  obtain ⟨⟨α, d, xs⟩, hp⟩ := ho
  exact List.mem_flatMap.2 ⟨_, takeE_mem (lkE_mem (payOE_spec hp)) (memN_of hn), hb⟩

section
variable {c : Cx} {σ : St} {all : Array Oper} {ty : TypeId} {pos : String} {after : Array Edge} {d : Nat}
/-- The state behind a store of a whole element into an own row. -/
def afterStE {α : Type} (σ : St) (r : Nat) (dα : Dat α) (zs : List α) (ns : List Nat) : St := ⟨σ.n, σ.m + 1, rnR r σ.m σ.ρ, rnE r σ.m ((σ.m, .own α dα zs) :: dropE (r :: ns) σ.E)⟩
theorem OpS.stE {α : Type} {dα : Dat α} [s : @Str α dα] {t : Nat} {x v : Operand} {r off : Nat} {xs : List α} (k : Nat) (y : α) {vv : V} {cs : List V} (hx : ev σ.ρ x = some (.pt r off)) (hoff : off = k * Dat.sz α) (hr : lkE σ.E r = some (.own α dα xs)) (hk : k < xs.length)
    (hv : ev σ.ρ v = some vv) (hvc : vv.cells = some cs) (ht : (c.ti t).cells = some (Dat.sz α)) (hg : Dat.good y) (hf : FkO σ.E y s.fk cs) (h1 : oneL cs = true) (hn : (r :: V.names.namesL cs).Nodup) :
    OpS c σ all ⟨none, .store t x v, ty, pos, after, none⟩ (afterStE σ r dα (xs.set k y) (V.names.namesL cs)) :=
  OpS.of fun θ a w h K Q hK => by
    subst hoff
    obtain ⟨S, w1, hh⟩ := h.heap
    obtain ⟨l, hl, hown⟩ := hh.own hr
    obtain ⟨us, hus, hcells⟩ := V.cells_ok hvc (h.env.con hv)
    have hy : Dat.own w us y ((V.names.namesL cs).flatMap (locF θ)) := s.omk (hh.fkO hus hf (s.gd hg))
    have hnames : ∀ n ∈ r :: V.names.namesL cs, ownN σ.E n := by
      intro n hn
      rcases List.mem_cons.1 hn with rfl | hn
      · exact ⟨⟨α, dα, xs⟩, by unfold payOE; rw [hr]; rfl⟩
      · exact fkO_names hf n hn
    obtain ⟨hnd, _⟩ := hh.nodup hn hnames
    rw [List.flatMap_cons, locF_of hl] at hnd
    obtain ⟨nd1, nd2, nd3⟩ := List.nodup_append.1 hnd
    rcases hown with ⟨e1, e2, _⟩ | ⟨g, cap, arr, T, Fs, e1, e2, e3, e4, e5, e6, e7, e8⟩
    · rw [e2] at hk; exact absurd hk (by simp)
    obtain ⟨A, cap', F⟩ := l
    injection e1 with e1a e1b e1c
    simp only at e1a e1c e6 nd1 nd3
    subst e1a
    subst e1c
    subst e6
    have hgF : g ∉ Fs.flatten := (List.nodup_cons.1 nd1).1
    have hgG : g ∉ (V.names.namesL cs).flatMap (locF θ) := fun hb => nd3 g (by simp) g hb rfl
    obtain ⟨hle, hput⟩ := SlO.put (T := T) e3 e4 e5 e7 e8 hk hy hgF hgG
    obtain ⟨ndF, memF⟩ := nodup_set_flatten (k := k) (List.nodup_cons.1 nd1).2 nd2 fun b hb hbf => nd3 b (List.mem_cons_of_mem _ hbf) b hb rfl
    have hd : us.length = Dat.sz α := Dat.rd_len (Dat.own_rd (B := fun _ => True) hy fun _ _ => trivial)
    have hxe := h.env.con hx
    simp only [V.con, hl, Option.some.injEq] at hxe
    have e : (⟨g, 0, none⟩ : Addr).add (k * Dat.sz α) = ⟨g, k * Dat.sz α, none⟩ := by unfold Addr.add; split <;> simp_all
    have hst := run_storeCells_at c.P g (k * Dat.sz α) T us 0 arr w e2 (by omega) (List.all_eq_true.1 (oneL_ok h1 hus))
    have hsz : ∀ w, (sizeOf t).run c.P w = .ok (Dat.sz α) w := fun w => TI.cells_size (c.tiok t) ht w
    have hrun : (execOp a.eval ⟨none, .store t x v, ty, pos, after, none⟩).run c.P w = .ok .skip (w.setRow g (putCells arr (k * Dat.sz α) (Dat.sz α) us)) := by
      have hs : (a.eval v).cells.size = Dat.sz α := by rw [hcells]; simp; omega
      simp only [execOp, ← hxe, Instr.storeAt, Instr.sureAddr, storeVar, Sem.run_bind, Sem.run_pure, Result.andThen_ok, hsz, hs, ne_eq, not_true_eq_false, if_false, e]
      rw [hcells, show us.toArray.toList = us from rfl, hst]
      simp only [Nat.add_zero, hd, Result.andThen_ok, putCells]
    unfold Oper.wp
    rw [hrun]
    let l' : Loc := ⟨some ⟨g, 0, none⟩, cap', g :: (Fs.set k ((V.names.namesL cs).flatMap (locF θ))).flatten⟩
    have hg' : (θ ++ [l'])[σ.m]? = some l' := by rw [← h.len]; exact get_mid
    have hgr := get_ext (θ' := [l']) hl
    have hFt : ∀ n ∈ r :: V.names.namesL cs, ∀ b ∈ locF θ n, b ∈ (takeE (r :: V.names.namesL cs) σ.E).flatMap (fun e => (e.2.ck (θ ++ [l']) e.1).F) := fun n hn b hb => takeE_own hn (hnames n hn) (by
      obtain ⟨⟨α', d', xs'⟩, hp⟩ := hnames n hn
      obtain ⟨l2, hl2, _⟩ := hh.own (payOE_spec hp)
      rw [locF_of (get_ext hl2)]
      rwa [locF_of hl2] at hb)
    have hFr : ∀ b ∈ g :: Fs.flatten, b ∈ (takeE (r :: V.names.namesL cs) σ.E).flatMap (fun e => (e.2.ck (θ ++ [l']) e.1).F) := fun b hb => hFt r (by simp) b (by rw [locF_of hl]; exact hb)
    have hFG : ∀ b ∈ (V.names.namesL cs).flatMap (locF θ), b ∈ (takeE (r :: V.names.namesL cs) σ.E).flatMap (fun e => (e.2.ck (θ ++ [l']) e.1).F) := fun b hb => by
      obtain ⟨n, hn, hb⟩ := List.mem_flatMap.1 hb
      exact hFt n (List.mem_cons_of_mem _ hn) b hb
    have hother : ∀ b, b ≠ g → (w.setRow g (putCells arr (k * Dat.sz α) (Dat.sz α) us)).heap[b]? = w.heap[b]? := fun b hb => setRow_other w g b _ hb
    have hlt : ∀ b ∈ l'.F, b < w.heap.size := by
      intro b hb
      rcases List.mem_cons.1 hb with rfl | hb
      · exact (Array.getElem?_eq_some_iff.1 e2).1
      · rcases memF b hb with hb | hb
        · obtain ⟨G, hG, hbG⟩ := List.mem_flatten.1 hb
          obtain ⟨i, hi⟩ := List.getElem?_of_mem hG
          have hil : i < xs.length := by rw [← e7]; exact (List.getElem?_eq_some_iff.1 hi).1
          obtain ⟨G', hG', ho⟩ := e8 i _ (List.getElem?_eq_getElem hil)
          rw [hi] at hG'
          cases hG'
          exact Dat.own_lt ho b hbG
        · exact Dat.own_lt hy b hb
    have hfuse := (hh.ext (θ' := [l'])).fuse (r :: V.names.namesL cs) (p := (σ.m, En.own α dα (xs.set k y))) (w' := w.setRow g (putCells arr (k * Dat.sz α) (Dat.sz α) us)) rfl rfl rfl (by simp)
      (fun b _ hb => hother b fun e => hb (hFr b (by simp [e]))) ?_ ?_ ?_ trivial
    · refine hK [l'] _ _ ⟨by rw [List.length_append, h.len]; rfl, ?_, S, w1, hfuse.rn hgr hg' rfl rfl⟩
      exact ((h.env.ext (θ' := [l'])).rn hgr hg' rfl rfl)
    · intro w2 hw2
      have hF' : ((En.own α dα (xs.set k y)).ck (θ ++ [l']) σ.m).F = l'.F := locF_of hg'
      refine ⟨l', hg', hput w2 ?_ fun b hb => ?_⟩
      · exact (hw2 g (by rw [hF']; simp [l'])).trans (setRow_heap w g arr _ T _ e2)
      · refine (hw2 b (by rw [hF']; exact List.mem_cons_of_mem _ hb)).trans (hother b ?_)
        rintro rfl
        rcases memF b hb with h | h
        · exact hgF h
        · exact hgG h
    · intro b hb
      have hb' : b ∈ locF (θ ++ [l']) σ.m := hb
      rw [locF_of hg'] at hb'
      refine ⟨.inl ?_, by rw [size_setRow]; exact hlt b hb'⟩
      rcases List.mem_cons.1 hb' with rfl | hb'
      · exact hFr b (by simp)
      · rcases memF b hb' with h | h
        · exact hFr b (List.mem_cons_of_mem _ h)
        · exact hFG b h
    · show (locF _ σ.m).Nodup
      rw [locF_of hg']
      refine List.nodup_cons.2 ⟨fun hb => ?_, ndF⟩
      rcases memF g hb with h | h
      · exact hgF h
      · exact hgG h
end
end Go.Proofs.YtmjjcihoobnbgaaDoor.Fw
