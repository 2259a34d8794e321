/-
  The abstract machine: appends, literals as data, regions that draw their order. No condition: every lemma is general in the program.
-/
import Derived.Test.YtmjjcihoobnbgaaDoorAm6
namespace Go.Proofs.YtmjjcihoobnbgaaDoor.Fw
open Go.RowKit
set_option linter.unusedVariables false

/-! ## Elements told cell by cell -/
def ElOk (E : List (Nat × En)) (sz : Nat) {α : Type} (d : Dat α) (fk : List (Fk α)) : List α → List V → Prop
  | [], cs => cs = []
  | y :: ys, cs => Dat.good y ∧ FkO E y fk (cs.take sz) ∧ ElOk E sz d fk ys (cs.drop sz)

theorem namesL_take (n : Nat) : ∀ {cs : List V}, V.names.namesL cs = [] → V.names.namesL (cs.take n) = [] ∧ V.names.namesL (cs.drop n) = [] := by
  induction n with
  | zero => intro cs h; exact ⟨by simp [V.names.namesL], by simpa using h⟩
  | succ n ih =>
    intro cs h
    cases cs with
    | nil => exact ⟨rfl, rfl⟩
    | cons v vs =>
      rw [namesL_cons] at h
      obtain ⟨h1, h2⟩ := List.append_eq_nil_iff.1 h
      obtain ⟨h3, h4⟩ := ih h2
      refine ⟨?_, h4⟩
      rw [List.take_succ_cons, namesL_cons, h1, h3]
      rfl

theorem RH.elems {c : Cx} {θ : List Loc} {E : List (Nat × En)} {S : Nat → Prop} {w1 w : World} (h : RH c θ E S w1 w) {α : Type} {d : Dat α} (s : @Str α d) :
    ∀ {ys : List α} {cs : List V} {us : List Value}, conL θ cs = some us → V.names.namesL cs = [] → ElOk E (Dat.sz α) d s.fk ys cs → us.length = ys.length * Dat.sz α ∧ ∀ w' i y, ys[i]? = some y → Dat.own w' (cut (Dat.sz α) us i) y [] := by
  intro ys
  induction ys with
  | nil =>
    intro cs us hc hn ho
    have : cs = [] := ho
    subst this
    cases hc
    exact ⟨by simp, fun _ i y hi => by simp at hi⟩
  | cons y ys ih =>
    intro cs us hc hn ho
    obtain ⟨hg, h1, h2⟩ := ho
    obtain ⟨n1, n2⟩ := namesL_take (Dat.sz α) hn
    have o1 := s.omk (h.fkO (conL_take (Dat.sz α) hc) h1 (s.gd hg))
    rw [n1] at o1
    have hl := Dat.rd_len (Dat.own_rd (B := fun _ => True) o1 fun _ _ => trivial)
    obtain ⟨i1, i2⟩ := ih (conL_drop (Dat.sz α) hc) n2 h2
    rw [List.length_take] at hl
    rw [List.length_drop] at i1
    refine ⟨by rw [List.length_cons, Nat.add_mul, Nat.one_mul]; omega, fun w' i z hz => ?_⟩
    cases i with
    | zero =>
      simp at hz
      subst hz
      have o2 : Dat.own w' (us.take (Dat.sz α)) y [] := Dat.own_same o1 fun b hb => by cases hb
      simpa [cut] using o2
    | succ i =>
      have := i2 w' i z (by simpa using hz)
      unfold cut at this ⊢
      rw [List.drop_drop] at this
      rwa [Nat.add_mul, Nat.one_mul, Nat.add_comm (i * Dat.sz α)]

/-- A literal is data of its own. -/
theorem RH.lit {c : Cx} {θ : List Loc} {E : List (Nat × En)} {S : Nat → Prop} {w1 w : World} (h : RH c θ E S w1 w) {r : Nat} {cs : List V} {T n : Nat} (he : lkE E r = some (.lit cs T n)) {α : Type} {d : Dat α} (s : @Str α d) {ys : List α} (hl : ys.length = n) (hm : n ≤ maxLen) (hn : V.names.namesL cs = []) (ho : ElOk E (Dat.sz α) d s.fk ys cs) : RH c θ (putE r (r, .own α d ys) E) S w1 w := by
  obtain ⟨l, b, ccs, ⟨h1, h1'⟩, h2, h3, h4, h5⟩ := (h.sh.ok _ (List.mem_map.2 ⟨_, lkE_mem he, rfl⟩)).here
  simp only at h1
  refine h.turn he rfl rfl rfl (Nat.le_refl _) (fun _ _ _ => rfl) ?_ ?_ ?_ trivial
  · intro w2 hw2
    refine ⟨l, h1, ?_⟩
    have hF : l.F = [b] := h3
    obtain ⟨hlen, hown⟩ := h.elems s h4 hn ho
    rw [h2, h1', hF]
    subst hl
    refine SlO_iff.2 (.inr ⟨b, ys.length, ccs.toArray, T, List.replicate ys.length [], rfl, ?_, Nat.le_refl _, hm, by simp [hlen], by simp, by simp, fun i y hi => ⟨[], ?_, ?_⟩⟩)
    · exact (hw2 b (by show _ ∈ locF θ r; rw [locF_of h1, h3]; simp)).trans h5
    · rw [List.getElem?_replicate, if_pos (List.getElem?_eq_some_iff.1 hi).1]
    · exact hown w2 i y hi
  · intro b' hb'
    refine ⟨.inl hb', ?_⟩
    have hb'' : b' ∈ locF θ r := hb'
    rw [locF_of h1, h3, List.mem_singleton] at hb''
    subst hb''
    exact (Array.getElem?_eq_some_iff.1 h5).1
  · show (locF θ r).Nodup
    rw [locF_of h1, h3]
    simp
theorem Run.lit {c : Cx} {res : List Re} {σ : St} {k : List It} (r : Nat) {α : Type} {d : Dat α} [s : @Str α d] (ys : List α) {cs : List V} {T n : Nat} (he : lkE σ.E r = some (.lit cs T n)) (hl : ys.length = n) (hm : Nat.ble n 1000 = true) (hn : V.names.namesL cs = []) (ho : ElOk σ.E (Dat.sz α) d s.fk ys cs) (h : Run c res ⟨σ.n, σ.m, σ.ρ, putE r (r, .own α d ys) σ.E⟩ k) : Run c res σ k := by
  intro θ a w hR
  obtain ⟨S, w1, hh⟩ := hR.heap
  exact h θ a w ⟨hR.len, hR.env, S, w1, hh.lit he s hl (by have := Nat.le_of_ble_eq_true hm; unfold maxLen; omega) hn ho⟩

/-! ## append -/
section
variable {c : Cx} {σ : St} {all : Array Oper} {ty : TypeId} {pos : String} {after : Array Edge} {d : Nat}

/-- Own data under a new name: what stood under the old one is gone. -/
theorem RH.reown {θ : List Loc} {E : List (Nat × En)} {S : Nat → Prop} {w1 w w' : World} (h : RH c θ E S w1 w) {r : Nat} {α : Type} {dα : Dat α} {xs zs : List α} (he : lkE E r = some (.own α dα xs)) {A : Option Addr} {cap : Nat} {F' : List Nat} (hv : SlO w' (.slice A zs.length cap) zs F') (hn : F'.Nodup) (hos : w'.os = w.os) (htape : w'.tape = w.tape) (hout : w'.output = w.output) (hsize : w.heap.size ≤ w'.heap.size)
    (hsame : ∀ b, b < w.heap.size → b ∉ locF θ r → w'.heap[b]? = w.heap[b]?) (hF : ∀ b ∈ F', b ∈ locF θ r ∨ w.heap.size ≤ b) : RH c (θ ++ [⟨A, cap, F'⟩]) (putE r (θ.length, .own α dα zs) E) S w1 w' := by
  have hg : (θ ++ [⟨A, cap, F'⟩])[θ.length]? = some ⟨A, cap, F'⟩ := get_mid
  have hex := h.ext (θ' := [⟨A, cap, F'⟩])
  obtain ⟨l, hl, _⟩ := h.own he
  have hlF : locF (θ ++ [⟨A, cap, F'⟩]) r = locF θ r := by rw [locF_of hl, locF_of (get_ext hl)]
  refine hex.turn he hos htape hout hsize (fun b hb hnb => hsame b hb (by rw [← hlF]; exact hnb)) ?_ ?_ ?_ trivial
  · intro w2 hw2
    refine ⟨_, hg, hv.same fun b hb => hw2 b ?_⟩
    show b ∈ locF _ _
    rw [locF_of hg]
    exact hb
  · intro b hb
    have hb' : b ∈ locF (θ ++ [⟨A, cap, F'⟩]) θ.length := hb
    rw [locF_of hg] at hb'
    refine ⟨?_, hv.lt b hb'⟩
    rcases hF b hb' with h | h
    · left; show b ∈ locF _ _; rw [hlF]; exact h
    · exact .inr h
  · show (locF _ θ.length).Nodup
    rw [locF_of hg]
    exact hn

/-- The state behind an append onto own data. -/
def afterApp {α : Type} (σ : St) (d r : Nat) (dα : Dat α) (zs : List α) : St := ⟨σ.n, σ.m + 1, (d, .sl σ.m zs.length) :: σ.ρ, putE r (σ.m, .own α dα zs) σ.E⟩
/-- .. onto nothing. -/
def afterApp0 {α : Type} (σ : St) (d : Nat) (dα : Dat α) (zs : List α) : St := ⟨σ.n, σ.m + 1, (d, .sl σ.m zs.length) :: σ.ρ, (σ.m, .own α dα zs) :: σ.E⟩

theorem app_run {a : Act} {w : World} {t : Nat} {x y : Operand} {u v v' : Value} {w' : World} {g : Option (Nat × Bool)} (hx : a.eval x = u) (hy : a.eval y = v) (h : (Builtin.append_ #[t, t] ty #[u, v]).run c.P w = .ok v' w') :
    (execOp a.eval ⟨some d, .call { callee := .builtin .append, args := #[x, y], argTypes := #[t, t] }, ty, pos, after, g⟩).run c.P w = .ok (.value v') w' := by
  simp only [execOp, resolve, invoke, builtin, Sem.run_bind, Sem.run_pure, Result.andThen_ok, List.map_toArray, List.map_cons, List.map_nil, hx, hy, h]

theorem OpS.app {α : Type} {dα : Dat α} [s : @Str α dα] {t e by' r q n len T : Nat} {x y : Operand} {z : Value} {xs ys : List α} {cs : List V} (hx : ev σ.ρ x = some (.sl r len)) (hr : lkE σ.E r = some (.own α dα xs)) (hl : len = xs.length) (hy : ev σ.ρ y = some (.sl q n)) (hq : lkE σ.E q = some (.lit cs T n))
    (ht : c.ti t = .sl e (Dat.sz α) by') (hz : c.zr e = some z) (hzs : z.cells.size = Dat.sz α) (hd : Nat.blt d σ.n = true) (hyl : ys.length = n) (hnm : V.names.namesL cs = []) (ho : ElOk σ.E (Dat.sz α) dα s.fk ys cs) (h1 : oneL cs = true) (hb : (xs.length + ys.length) * by' ≤ 140737488355328) (hm : xs.length + ys.length ≤ 9223372036854775807) :
    OpS c σ all ⟨some d, .call { callee := .builtin .append, args := #[x, y], argTypes := #[t, t] }, ty, pos, after, none⟩ (afterApp σ d r dα (xs ++ ys)) :=
  OpS.of fun θ a w h K Q hK => by
    subst hl
    subst hyl
    obtain ⟨S, w1, hh⟩ := h.heap
    obtain ⟨l, hl, hown⟩ := hh.own hr
    obtain ⟨lq, bq, ccs, ⟨q1, q1'⟩, q2, q3, q4, q5⟩ := (hh.sh.ok _ (List.mem_map.2 ⟨_, lkE_mem hq, rfl⟩)).here
    simp only at q1
    obtain ⟨hlen, hel⟩ := hh.elems s q4 hnm ho
    have hti := c.tiok t
    rw [ht] at hti
    simp only [TI.chk, Bool.and_eq_true] at hti
    have hcx := h.env.con hx
    simp only [V.con, hl, Option.some.injEq] at hcx
    have hcy := h.env.con hy
    simp only [V.con, q1, Option.some.injEq] at hcy
    have hF : l.F.Nodup := by
      obtain ⟨i, hi, _⟩ := putE_get hr
      have := hh.sh.nd (k := i) (c := (En.own α dα xs).ck θ r) (by rw [List.getElem?_map, hi]; rfl)
      have h2 : (locF θ r).Nodup := this
      rwa [locF_of hl] at h2
    have hsrc : Src w (.slice lq.A ys.length lq.cap) ys.length ccs := ⟨lq.A, lq.cap, rfl, fun j u hj => ⟨_, q2, (CellsAt.row q5) j u hj⟩⟩
    have hels : Elems w ccs ys (List.replicate ys.length []) := ⟨by simp, fun i u hi => ⟨[], by rw [List.getElem?_replicate, if_pos (List.getElem?_eq_some_iff.1 hi).1], hel w i u hi⟩⟩
    have hfl : (List.replicate ys.length ([] : List Nat)).flatten = [] := by simp
    have hone : ∀ u ∈ ccs, u.oneCell' = true := List.all_eq_true.1 (oneL_ok (θ := θ) h1 q4)
    obtain ⟨v', w', F', hrun, h3, h4, h5, h6, h7, h8, h9, h10⟩ := run_app (P := c.P) (ty := ty) hti.2 rfl (c.zok e z hz) hzs hown hF hsrc hlen hone hels (by rw [hfl]; exact List.nodup_nil) (by rw [hfl]; intro b hb; cases hb) hb (by unfold maxLen; omega)
    unfold Oper.wp
    rw [app_run hcx.symm hcy.symm hrun]
    obtain ⟨A, cap, rfl, _⟩ := (h3.rd (B := Old w') fun b hb => h3.lt b hb).form
    have hlF : locF θ r = l.F := locF_of hl
    have hre := hh.reown (w' := w') hr h3 h4 h5 h6 h7 h8 (fun b hb hnb => h9 b hb (by rw [← hlF]; exact hnb)) (fun b hb => by
      rcases h10 b hb with h | h | h
      · exact .inl (by rw [hlF]; exact h)
      · rw [hfl] at h; cases h
      · exact .inr h)
    refine hK [⟨A, cap, F'⟩] _ w' ⟨by rw [List.length_append, h.len]; rfl, (h.env.ext (θ' := [⟨A, cap, F'⟩])).put hd (h.sl0 (l := ⟨A, cap, F'⟩) _), S, w1, ?_⟩
    show RH c _ (putE r (σ.m, .own α dα (xs ++ ys)) σ.E) S w1 w'
    rw [← h.len]
    exact hre

theorem OpS.app0 {α : Type} {dα : Dat α} [s : @Str α dα] {t e by' q n T : Nat} {x y : Operand} {z : Value} {ys : List α} {cs : List V} (hx : ev σ.ρ x = some (.v (.slice none 0 0))) (hy : ev σ.ρ y = some (.sl q n)) (hq : lkE σ.E q = some (.lit cs T n))
    (ht : c.ti t = .sl e (Dat.sz α) by') (hz : c.zr e = some z) (hzs : z.cells.size = Dat.sz α) (hd : Nat.blt d σ.n = true) (hyl : ys.length = n) (hnm : V.names.namesL cs = []) (ho : ElOk σ.E (Dat.sz α) dα s.fk ys cs) (h1 : oneL cs = true) (hb : ys.length * by' ≤ 140737488355328) (hm : ys.length ≤ 9223372036854775807) :
    OpS c σ all ⟨some d, .call { callee := .builtin .append, args := #[x, y], argTypes := #[t, t] }, ty, pos, after, none⟩ (afterApp0 σ d dα ys) :=
  OpS.of fun θ a w h K Q hK => by
    subst hyl
    obtain ⟨S, w1, hh⟩ := h.heap
    obtain ⟨lq, bq, ccs, ⟨q1, q1'⟩, q2, q3, q4, q5⟩ := (hh.sh.ok _ (List.mem_map.2 ⟨_, lkE_mem hq, rfl⟩)).here
    simp only at q1
    obtain ⟨hlen, hel⟩ := hh.elems s q4 hnm ho
    have hti := c.tiok t
    rw [ht] at hti
    simp only [TI.chk, Bool.and_eq_true] at hti
    have hcx := h.env.con hx
    simp only [V.con, Option.some.injEq] at hcx
    have hcy := h.env.con hy
    simp only [V.con, q1, Option.some.injEq] at hcy
    have hsrc : Src w (.slice lq.A ys.length lq.cap) ys.length ccs := ⟨lq.A, lq.cap, rfl, fun j u hj => ⟨_, q2, (CellsAt.row q5) j u hj⟩⟩
    have hels : Elems w ccs ys (List.replicate ys.length []) := ⟨by simp, fun i u hi => ⟨[], by rw [List.getElem?_replicate, if_pos (List.getElem?_eq_some_iff.1 hi).1], hel w i u hi⟩⟩
    have hfl : (List.replicate ys.length ([] : List Nat)).flatten = [] := by simp
    have hone : ∀ u ∈ ccs, u.oneCell' = true := List.all_eq_true.1 (oneL_ok (θ := θ) h1 q4)
    obtain ⟨v', w', F', hrun, h3, h4, h5, h6, h7, h8, h9, h10⟩ := run_app (P := c.P) (ty := ty) (xs := ([] : List α)) hti.2 rfl (c.zok e z hz) hzs slo_nil List.nodup_nil hsrc hlen hone hels (by rw [hfl]; exact List.nodup_nil) (by rw [hfl]; intro b hb; cases hb) (by simpa using hb) (by unfold maxLen; simp; omega)
    rw [List.nil_append] at h3
    unfold Oper.wp
    rw [app_run hcx.symm hcy.symm hrun]
    obtain ⟨A, cap, rfl, _⟩ := (h3.rd (B := Old w') fun b hb => h3.lt b hb).form
    have hF' : ∀ b ∈ F', w.heap.size ≤ b := fun b hb => by
      rcases h10 b hb with h | h | h
      · cases h
      · rw [hfl] at h; cases h
      · exact h
    have hbel : Below w.heap.size w w' := ⟨h5, h6, h7, h8, fun b hb => h9 b hb (by simp)⟩
    have hg : (θ ++ [⟨A, cap, F'⟩])[σ.m]? = some (⟨A, cap, F'⟩ : Loc) := by rw [← h.len]; exact get_mid
    refine hK [⟨A, cap, F'⟩] _ w' ⟨by rw [List.length_append, h.len]; rfl, (h.env.ext (θ' := [⟨A, cap, F'⟩])).put hd (h.sl0 (l := ⟨A, cap, F'⟩) _), S, w1, ?_⟩
    refine hh.ext.new hbel ?_ ?_ ?_ trivial
    · intro w2 hw2
      refine ⟨_, hg, h3.same fun b hb => hw2 b ?_⟩
      show b ∈ locF _ _
      rw [locF_of hg]
      exact hb
    · intro b hb
      have hb' : b ∈ locF (θ ++ [⟨A, cap, F'⟩]) σ.m := hb
      rw [locF_of hg] at hb'
      exact ⟨hF' b hb', h3.lt b hb'⟩
    · show (locF _ σ.m).Nodup
      rw [locF_of hg]
      exact h4
end
end Go.Proofs.YtmjjcihoobnbgaaDoor.Fw
