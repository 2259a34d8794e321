/-
  The texts Am7, Am8, Am10, Am11, Am12, Am13, Am14, Am15, Am16, Am9, G of this proof, one behind the other: what each proves stands at its head. No condition.
-/
import Derived.Laws.RangeString
import Derived.Laws.IdiomStrings
import Derived.WideLaws
import Derived.Test.YtppialklomgajaaGreatDoorProg
import Derived.Test.YtppialklomgajaaGreatDoorSTA
set_option linter.unusedVariables false
set_option linter.unusedSimpArgs false
set_option maxRecDepth 100000
namespace Go.Proofs.YtppialklomgajaaGreatDoor.Fw
section
open Go.RowKit
def ElOk (E : List (Nat × En)) (sz : Nat) {α : Type} (d : Dat α) (fk : List (Fk α)) : List α → List V → Prop
  | [], cs => cs = []
  | y :: ys, cs => Dat.good y ∧ FkO E y fk (cs.take sz) ∧ ElOk E sz d fk ys (cs.drop sz)
theorem Ybh (n : Nat) : ∀ {cs : List V}, V.names.namesL cs = [] → V.names.namesL (cs.take n) = [] ∧ V.names.namesL (cs.drop n) = [] := by
  induction n with
  | zero => intro cs h; exact ⟨by simp [V.names.namesL], by simpa using h⟩
  | succ n ih =>
    intro cs h
    cases cs with
    | nil => exact ⟨rfl, rfl⟩
    | cons v vs =>
      rw [Qi6] at h
      obtain ⟨h1, h2⟩ := List.append_eq_nil_iff.1 h
      obtain ⟨h3, h4⟩ := ih h2
      refine ⟨?_, h4⟩
      rw [List.take_succ_cons, Qi6, h1, h3]
      rfl
theorem RH.elems {c : Cx} {θ : List Loc} {E : List (Nat × En)} {S : Nat → Prop} {w1 w : World} (h : RH c θ E S w1 w) {α : Type} {d : Dat α} (s : @Str α d) :
    ∀ {ys : List α} {cs : List V} {us : List Value}, conL θ cs = some us → V.names.namesL cs = [] → ElOk E (Dat.sz α) d s.fk ys cs → us.length = ys.length * Dat.sz α ∧ ∀ w' i y, ys[i]? = some y → Dat.own w' (cut (Dat.sz α) us i) y [] := by
  intro ys
  induction ys with
  | nil =>
    intro cs us hc hn ho
    have : cs = [] := ho
    subst this
    cases hc
    exact ⟨by simp, fun _ i y hi => by simp at hi⟩
  | cons y ys ih =>
    intro cs us hc hn ho
    obtain ⟨hg, h1, h2⟩ := ho
    obtain ⟨n1, n2⟩ := Ybh (Dat.sz α) hn
    have o1 := s.omk (h.fkO (Qkg (Dat.sz α) hc) h1 (s.gd hg))
    rw [n1] at o1
    have hl := Dat.rd_len (Dat.own_rd (B := fun _ => True) o1 fun _ _ => trivial)
    obtain ⟨i1, i2⟩ := ih (Qkh (Dat.sz α) hc) n2 h2
    rw [List.length_take] at hl
    rw [List.length_drop] at i1
    refine ⟨by rw [List.length_cons, Nat.add_mul, Nat.one_mul]; omega, fun w' i z hz => ?_⟩
    cases i with
    | zero =>
      simp at hz
      subst hz
      have o2 : Dat.own w' (us.take (Dat.sz α)) y [] := Dat.own_same o1 fun b hb => by cases hb
      simpa [cut] using o2
    | succ i =>
      have := i2 w' i z (by simpa using hz)
      unfold cut at this ⊢
      rw [List.drop_drop] at this
      rwa [Nat.add_mul, Nat.one_mul, Nat.add_comm (i * Dat.sz α)]
theorem RH.lit {c : Cx} {θ : List Loc} {E : List (Nat × En)} {S : Nat → Prop} {w1 w : World} (h : RH c θ E S w1 w) {r : Nat} {cs : List V} {T n : Nat} (he : lkE E r = some (.lit cs T n)) {α : Type} {d : Dat α} (s : @Str α d) {ys : List α} (hl : ys.length = n) (hm : n ≤ maxLen) (hn : V.names.namesL cs = []) (ho : ElOk E (Dat.sz α) d s.fk ys cs) : RH c θ (putE r (r, .own α d ys) E) S w1 w := by
  obtain ⟨l, b, ccs, ⟨h1, h1'⟩, h2, h3, h4, h5⟩ := (h.sh.ok _ (List.mem_map.2 ⟨_, Qdv he, rfl⟩)).here
  simp only at h1
  refine h.turn he rfl rfl rfl (Nat.le_refl _) (fun _ _ _ => rfl) ?_ ?_ ?_ trivial
  · intro w2 hw2
    refine ⟨l, h1, ?_⟩
    have hF : l.F = [b] := h3
    obtain ⟨hlen, hown⟩ := h.elems s h4 hn ho
    rw [h2, h1', hF]
    subst hl
    refine Qfy.2 (.inr ⟨b, ys.length, ccs.toArray, T, List.replicate ys.length [], rfl, ?_, Nat.le_refl _, hm, by simp [hlen], by simp, by simp, fun i y hi => ⟨[], ?_, ?_⟩⟩)
    · exact (hw2 b (by show _ ∈ locF θ r; rw [Qaf h1, h3]; simp)).trans h5
    · rw [List.getElem?_replicate, if_pos (List.getElem?_eq_some_iff.1 hi).1]
    · exact hown w2 i y hi
  · intro b' hb'
    refine ⟨.inl hb', ?_⟩
    have hb'' : b' ∈ locF θ r := hb'
    rw [Qaf h1, h3, List.mem_singleton] at hb''
    subst hb''
    exact (Array.getElem?_eq_some_iff.1 h5).1
  · show (locF θ r).Nodup
    rw [Qaf h1, h3]
    simp
theorem Run.lit {c : Cx} {res : List Re} {σ : St} {k : List It} (r : Nat) {α : Type} {d : Dat α} [s : @Str α d] (ys : List α) {cs : List V} {T n : Nat} (he : lkE σ.E r = some (.lit cs T n)) (hl : ys.length = n) (hm : Nat.ble n 1000 = true) (hn : V.names.namesL cs = []) (ho : ElOk σ.E (Dat.sz α) d s.fk ys cs) (h : Run c res ⟨σ.n, σ.m, σ.ρ, putE r (r, .own α d ys) σ.E⟩ k) : Run c res σ k := by
  intro θ a w hR
  obtain ⟨S, w1, hh⟩ := hR.heap
  exact h θ a w ⟨hR.len, hR.env, S, w1, hh.lit he s hl (by have := Nat.le_of_ble_eq_true hm; unfold maxLen; omega) hn ho⟩
section
variable {c : Cx} {σ : St} {all : Array Oper} {ty : TypeId} {pos : String} {after : Array Edge} {d : Nat}
theorem RH.reown {θ : List Loc} {E : List (Nat × En)} {S : Nat → Prop} {w1 w w' : World} (h : RH c θ E S w1 w) {r : Nat} {α : Type} {dα : Dat α} {xs zs : List α} (he : lkE E r = some (.own α dα xs)) {A : Option Addr} {cap : Nat} {F' : List Nat} (hv : SlO w' (.slice A zs.length cap) zs F') (hn : F'.Nodup) (hos : w'.os = w.os) (htape : w'.tape = w.tape) (hout : w'.output = w.output) (hsize : w.heap.size ≤ w'.heap.size)
    (hsame : ∀ b, b < w.heap.size → b ∉ locF θ r → w'.heap[b]? = w.heap[b]?) (hF : ∀ b ∈ F', b ∈ locF θ r ∨ w.heap.size ≤ b) : RH c (θ ++ [⟨A, cap, F'⟩]) (putE r (θ.length, .own α dα zs) E) S w1 w' := by
  have hg : (θ ++ [⟨A, cap, F'⟩])[θ.length]? = some ⟨A, cap, F'⟩ := Qec
  have hex := h.ext (θ' := [⟨A, cap, F'⟩])
  obtain ⟨l, hl, _⟩ := h.own he
  have hlF : locF (θ ++ [⟨A, cap, F'⟩]) r = locF θ r := by rw [Qaf hl, Qaf (Qdl hl)]
  refine hex.turn he hos htape hout hsize (fun b hb hnb => hsame b hb (by rw [← hlF]; exact hnb)) ?_ ?_ ?_ trivial
  · intro w2 hw2
    refine ⟨_, hg, hv.same fun b hb => hw2 b ?_⟩
    show b ∈ locF _ _
    rw [Qaf hg]
    exact hb
  · intro b hb
    have hb' : b ∈ locF (θ ++ [⟨A, cap, F'⟩]) θ.length := hb
    rw [Qaf hg] at hb'
    refine ⟨?_, hv.lt b hb'⟩
    rcases hF b hb' with h | h
    · left; show b ∈ locF _ _; rw [hlF]; exact h
    · exact .inr h
  · show (locF _ θ.length).Nodup
    rw [Qaf hg]
    exact hn
def Qdq {α : Type} (σ : St) (d r : Nat) (dα : Dat α) (zs : List α) : St := ⟨σ.n, σ.m + 1, (d, .sl σ.m zs.length) :: σ.ρ, putE r (σ.m, .own α dα zs) σ.E⟩
def Qce {α : Type} (σ : St) (d : Nat) (dα : Dat α) (zs : List α) : St := ⟨σ.n, σ.m + 1, (d, .sl σ.m zs.length) :: σ.ρ, (σ.m, .own α dα zs) :: σ.E⟩
theorem Yb0 {a : Act} {w : World} {t : Nat} {x y : Operand} {u v v' : Value} {w' : World} {g : Option (Nat × Bool)} (hx : a.eval x = u) (hy : a.eval y = v) (h : (Builtin.append_ #[t, t] ty #[u, v]).run c.P w = .ok v' w') :
    (execOp a.eval ⟨some d, .call { callee := .builtin .append, args := #[x, y], argTypes := #[t, t] }, ty, pos, after, g⟩).run c.P w = .ok (.value v') w' := by
  simp only [execOp, resolve, invoke, builtin, Sem.run_bind, Sem.run_pure, Result.andThen_ok, List.map_toArray, List.map_cons, List.map_nil, hx, hy, h]
theorem OpS.app {α : Type} {dα : Dat α} [s : @Str α dα] {t e by' r q n len T : Nat} {x y : Operand} {z : Value} {xs ys : List α} {cs : List V} (hx : ev σ.ρ x = some (.sl r len)) (hr : lkE σ.E r = some (.own α dα xs)) (hl : len = xs.length) (hy : ev σ.ρ y = some (.sl q n)) (hq : lkE σ.E q = some (.lit cs T n))
    (ht : c.ti t = .sl e (Dat.sz α) by') (hz : c.zr e = some z) (hzs : z.cells.size = Dat.sz α) (hd : Nat.blt d σ.n = true) (hyl : ys.length = n) (hnm : V.names.namesL cs = []) (ho : ElOk σ.E (Dat.sz α) dα s.fk ys cs) (h1 : oneL cs = true) (hb : (xs.length + ys.length) * by' ≤ 140737488355328) (hm : xs.length + ys.length ≤ 9223372036854775807) :
    OpS c σ all ⟨some d, .call { callee := .builtin .append, args := #[x, y], argTypes := #[t, t] }, ty, pos, after, none⟩ (Qdq σ d r dα (xs ++ ys)) :=
  OpS.of fun θ a w h K Q hK => by
    subst hl
    subst hyl
    obtain ⟨S, w1, hh⟩ := h.heap
    obtain ⟨l, hl, hown⟩ := hh.own hr
    obtain ⟨lq, bq, ccs, ⟨q1, q1'⟩, q2, q3, q4, q5⟩ := (hh.sh.ok _ (List.mem_map.2 ⟨_, Qdv hq, rfl⟩)).here
    simp only at q1
    obtain ⟨hlen, hel⟩ := hh.elems s q4 hnm ho
    have hti := c.tiok t
    rw [ht] at hti
    simp only [TI.chk, Bool.and_eq_true] at hti
    have hcx := h.env.con hx
    simp only [V.con, hl, Option.some.injEq] at hcx
    have hcy := h.env.con hy
    simp only [V.con, q1, Option.some.injEq] at hcy
    have hF : l.F.Nodup := by
      obtain ⟨i, hi, _⟩ := Qn2 hr
      have := hh.sh.nd (k := i) (c := (En.own α dα xs).ck θ r) (by rw [List.getElem?_map, hi]; rfl)
      have h2 : (locF θ r).Nodup := this
      rwa [Qaf hl] at h2
    have hsrc : Src w (.slice lq.A ys.length lq.cap) ys.length ccs := ⟨lq.A, lq.cap, rfl, fun j u hj => ⟨_, q2, (Qbq.row q5) j u hj⟩⟩
    have hels : Qhn w ccs ys (List.replicate ys.length []) := ⟨by simp, fun i u hi => ⟨[], by rw [List.getElem?_replicate, if_pos (List.getElem?_eq_some_iff.1 hi).1], hel w i u hi⟩⟩
    have hfl : (List.replicate ys.length ([] : List Nat)).flatten = [] := by simp
    have hone : ∀ u ∈ ccs, u.oneCell' = true := List.all_eq_true.1 (Qpg (θ := θ) h1 q4)
    obtain ⟨v', w', F', hrun, h3, h4, h5, h6, h7, h8, h9, h10⟩ := Qpd (P := c.P) (ty := ty) hti.2 rfl (c.zok e z hz) hzs hown hF hsrc hlen hone hels (by rw [hfl]; exact List.nodup_nil) (by rw [hfl]; intro b hb; cases hb) hb (by unfold maxLen; omega)
    unfold Oper.wp
    rw [Yb0 hcx.symm hcy.symm hrun]
    obtain ⟨A, cap, rfl, _⟩ := (h3.rd (B := Old w') fun b hb => h3.lt b hb).form
    have hlF : locF θ r = l.F := Qaf hl
    have hre := hh.reown (w' := w') hr h3 h4 h5 h6 h7 h8 (fun b hb hnb => h9 b hb (by rw [← hlF]; exact hnb)) (fun b hb => by
      rcases h10 b hb with h | h | h
      · exact .inl (by rw [hlF]; exact h)
      · rw [hfl] at h; cases h
      · exact .inr h)
    refine hK [⟨A, cap, F'⟩] _ w' ⟨by rw [List.length_append, h.len]; rfl, (h.env.ext (θ' := [⟨A, cap, F'⟩])).put hd (h.sl0 (l := ⟨A, cap, F'⟩) _), S, w1, ?_⟩
    show RH c _ (putE r (σ.m, .own α dα (xs ++ ys)) σ.E) S w1 w'
    rw [← h.len]
    exact hre
theorem OpS.app0 {α : Type} {dα : Dat α} [s : @Str α dα] {t e by' q n T : Nat} {x y : Operand} {z : Value} {ys : List α} {cs : List V} (hx : ev σ.ρ x = some (.v (.slice none 0 0))) (hy : ev σ.ρ y = some (.sl q n)) (hq : lkE σ.E q = some (.lit cs T n))
    (ht : c.ti t = .sl e (Dat.sz α) by') (hz : c.zr e = some z) (hzs : z.cells.size = Dat.sz α) (hd : Nat.blt d σ.n = true) (hyl : ys.length = n) (hnm : V.names.namesL cs = []) (ho : ElOk σ.E (Dat.sz α) dα s.fk ys cs) (h1 : oneL cs = true) (hb : ys.length * by' ≤ 140737488355328) (hm : ys.length ≤ 9223372036854775807) :
    OpS c σ all ⟨some d, .call { callee := .builtin .append, args := #[x, y], argTypes := #[t, t] }, ty, pos, after, none⟩ (Qce σ d dα ys) :=
  OpS.of fun θ a w h K Q hK => by
    subst hyl
    obtain ⟨S, w1, hh⟩ := h.heap
    obtain ⟨lq, bq, ccs, ⟨q1, q1'⟩, q2, q3, q4, q5⟩ := (hh.sh.ok _ (List.mem_map.2 ⟨_, Qdv hq, rfl⟩)).here
    simp only at q1
    obtain ⟨hlen, hel⟩ := hh.elems s q4 hnm ho
    have hti := c.tiok t
    rw [ht] at hti
    simp only [TI.chk, Bool.and_eq_true] at hti
    have hcx := h.env.con hx
    simp only [V.con, Option.some.injEq] at hcx
    have hcy := h.env.con hy
    simp only [V.con, q1, Option.some.injEq] at hcy
    have hsrc : Src w (.slice lq.A ys.length lq.cap) ys.length ccs := ⟨lq.A, lq.cap, rfl, fun j u hj => ⟨_, q2, (Qbq.row q5) j u hj⟩⟩
    have hels : Qhn w ccs ys (List.replicate ys.length []) := ⟨by simp, fun i u hi => ⟨[], by rw [List.getElem?_replicate, if_pos (List.getElem?_eq_some_iff.1 hi).1], hel w i u hi⟩⟩
    have hfl : (List.replicate ys.length ([] : List Nat)).flatten = [] := by simp
    have hone : ∀ u ∈ ccs, u.oneCell' = true := List.all_eq_true.1 (Qpg (θ := θ) h1 q4)
    obtain ⟨v', w', F', hrun, h3, h4, h5, h6, h7, h8, h9, h10⟩ := Qpd (P := c.P) (ty := ty) (xs := ([] : List α)) hti.2 rfl (c.zok e z hz) hzs Qw0 List.nodup_nil hsrc hlen hone hels (by rw [hfl]; exact List.nodup_nil) (by rw [hfl]; intro b hb; cases hb) (by simpa using hb) (by unfold maxLen; simp; omega)
    rw [List.nil_append] at h3
    unfold Oper.wp
    rw [Yb0 hcx.symm hcy.symm hrun]
    obtain ⟨A, cap, rfl, _⟩ := (h3.rd (B := Old w') fun b hb => h3.lt b hb).form
    have hF' : ∀ b ∈ F', w.heap.size ≤ b := fun b hb => by
      rcases h10 b hb with h | h | h
      · cases h
      · rw [hfl] at h; cases h
      · exact h
    have hbel : Below w.heap.size w w' := ⟨h5, h6, h7, h8, fun b hb => h9 b hb (by simp)⟩
    have hg : (θ ++ [⟨A, cap, F'⟩])[σ.m]? = some (⟨A, cap, F'⟩ : Loc) := by rw [← h.len]; exact Qec
    refine hK [⟨A, cap, F'⟩] _ w' ⟨by rw [List.length_append, h.len]; rfl, (h.env.ext (θ' := [⟨A, cap, F'⟩])).put hd (h.sl0 (l := ⟨A, cap, F'⟩) _), S, w1, ?_⟩
    refine hh.ext.new hbel ?_ ?_ ?_ trivial
    · intro w2 hw2
      refine ⟨_, hg, h3.same fun b hb => hw2 b ?_⟩
      show b ∈ locF _ _
      rw [Qaf hg]
      exact hb
    · intro b hb
      have hb' : b ∈ locF (θ ++ [⟨A, cap, F'⟩]) σ.m := hb
      rw [Qaf hg] at hb'
      exact ⟨hF' b hb', h3.lt b hb'⟩
    · show (locF _ σ.m).Nodup
      rw [Qaf hg]
      exact h4
end
end
section
open Go.RowKit
theorem szA {α : Type} (l : List α) : l.toArray.size = l.length := rfl
theorem gi (n : Int) (h : -9223372036854775808 ≤ n ∧ n ≤ 9223372036854775807 := by decide) : I64 n := by unfold I64; omega
theorem gn (n : Nat) (h : n ≤ 9223372036854775807) : I64 (n : Int) := by unfold I64; omega
theorem gs (s : ByteArray) (h : s.size ≤ 9223372036854775807 := by decide) : s.size ≤ maxLen := h
def SD (c : Cx) (θ0 : List Loc) (E0 : List (Nat × En)) (w : World) : Prop := ∃ S w1, RH c θ0 E0 S w1 w
def Yk0 (c : Cx) (θ : List Loc) (E : List (Nat × En)) : Prop := ∀ e ∈ E, e.2.ok c.S0 c.w0 θ e.1
def RunD (c : Cx) (K : Act → World → Prop) (E0 : List (Nat × En)) (m0 : Nat) (ops : Array Oper) (n : Nat) (M : List (Nat × En)) (listed : Array Bool) (σ : St) : Prop :=
  ∀ θ0 η a w, θ0.length = m0 → R c (θ0 ++ η) σ a w → SD c θ0 E0 w → Yk0 c θ0 E0 → Qg9 c.S0 c.w0 (θ0 ++ η) M → wpAnyH c.P .any ops (Ql6 K) (SD c θ0 E0) n listed a w
def Cx.rebase (c : Cx) (S : Nat → Prop) (w : World) (hk : Keep c.S0 c.w0 w) (hs : ∀ b, c.S0 b → S b) (hd : ∀ b, S b → b < w.heap.size) : Cx := ⟨c.P, c.fn, c.ti, c.zr, c.G, S, w, c.tiok, c.zok, fun w' h => c.gok w' (hk.trans (h.mono hs)), hd, c.Q⟩
theorem RH.rebase {c : Cx} {θ : List Loc} {E : List (Nat × En)} {S : Nat → Prop} {w1 w : World} (h : RH c θ E S w1 w) : RH (c.rebase S w1 h.k0 h.sub h.sh.dom) θ E S w1 w := ⟨Keep.refl _ _, fun _ h => h, h.sh, h.ok⟩
theorem RH.unbase {c : Cx} {S : Nat → Prop} {w1 : World} {hk : Keep c.S0 c.w0 w1} {hs : ∀ b, c.S0 b → S b} {hd : ∀ b, S b → b < w1.heap.size} {θ : List Loc} {E : List (Nat × En)} {S2 : Nat → Prop} {w2 w : World} (h : RH (c.rebase S w1 hk hs hd) θ E S2 w2 w) : RH c θ E S2 w2 w :=
  ⟨hk.trans ((show Keep S w1 w2 from h.k0).mono hs), fun b hb => h.sub b (hs b hb), h.sh, h.ok⟩
theorem R.unbase {c : Cx} {S : Nat → Prop} {w1 : World} {hk : Keep c.S0 c.w0 w1} {hs : ∀ b, c.S0 b → S b} {hd : ∀ b, S b → b < w1.heap.size} {θ : List Loc} {σ : St} {a : Act} {w : World} (h : R (c.rebase S w1 hk hs hd) θ σ a w) : R c θ σ a w :=
  let ⟨S2, w2, hh⟩ := h.heap; ⟨h.len, h.env, S2, w2, hh.unbase⟩
theorem En.ok_up {c : Cx} {θ θ' : List Loc} {E : List (Nat × En)} {S : Nat → Prop} {w1 w : World} (h : RH c θ' E S w1 w) {r : Nat} {e : En} (he : e.ok c.S0 c.w0 θ r) : e.ok S w1 θ r := by
  cases e with
  | var => trivial
  | lit => trivial
  | own => trivial
  | itr => trivial
  | any => trivial
  | pin l => exact he
  | ros α d xs =>
    obtain ⟨l, hl, hr⟩ := he
    exact ⟨l, hl, (hr.below h.k0).mono h.sub⟩
  | roc cs =>
    obtain ⟨l, A, ccs, hl, h2, h3, h4, h5⟩ := he
    exact ⟨l, A, ccs, hl, h2, h3, h.sub _ h4, h5.keep h.k0 h4⟩
theorem Qg9.up {c : Cx} {θ θ' : List Loc} {E M : List (Nat × En)} {S : Nat → Prop} {w1 w : World} (h : RH c θ' E S w1 w) (hM : Qg9 c.S0 c.w0 θ M) : Qg9 S w1 θ M := fun e he => ⟨En.ok_up h (hM e he).1, (hM e he).2⟩
theorem RH.pickE {c : Cx} {θ : List Loc} {E E0 : List (Nat × En)} {S : Nat → Prop} {w1 w : World} (h : RH c θ E S w1 w) {is : List Nat} (hp : is.map (nthE E) = E0.map some) (hn : is.Nodup) : RH c θ E0 S w1 w := by
  have hp' : is.map (fun i => E[i]?) = E0.map some := by
    clear hn
    induction is generalizing E0 with
    | nil => cases E0 with
      | nil => rfl
      | cons => simp at hp
    | cons i is ih => cases E0 with
      | nil => simp at hp
      | cons e E0 =>
        simp only [List.map_cons, List.cons.injEq] at hp ⊢
        exact ⟨Qi5 hp.1, ih hp.2⟩
  refine ⟨h.k0, h.sub, ?_, fun e he => ?_⟩
  · refine h.sh.pick is hn ?_
    have h1 : (is.map fun i => (E.map fun e => e.2.ck θ e.1)[i]?) = (is.map fun i => E[i]?).map (Option.map fun e => e.2.ck θ e.1) := by
      rw [List.map_map]
      refine List.map_congr_left fun i _ => ?_
      simp
    rw [h1, hp', List.map_map, List.map_map]
    rfl
  · have : some e ∈ is.map (fun i => E[i]?) := by rw [hp']; exact List.mem_map.2 ⟨e, he, rfl⟩
    obtain ⟨i, _, hi⟩ := List.mem_map.1 this
    exact h.ok e (List.mem_of_getElem? hi)
theorem Qku {θ ζ : List Loc} {r : Nat} {l l' : Loc} (h : θ[r]? = some l) (h' : (θ ++ ζ)[r]? = some l') : l' = l := by
  rw [Qdl h] at h'
  cases h'
  rfl
theorem Qxt {θ ζ : List Loc} {cs : List V} {l l' : List Value} (h : conL θ cs = some l) (h' : conL (θ ++ ζ) cs = some l') : l' = l := by
  rw [Qh1 h] at h'
  cases h'
  rfl
theorem En.ck_back {θ ζ : List Loc} {r : Nat} {e : En} {w : World} (h : (e.ck θ r).p w) : (e.ck θ r).F = (e.ck (θ ++ ζ) r).F ∧ ∀ w', (e.ck (θ ++ ζ) r).p w' → (e.ck θ r).p w' := by
  cases e with
  | var cs T =>
    obtain ⟨l, b, ccs, hl, h2, h3, h4, _⟩ := h
    refine ⟨by show locF _ _ = locF _ _; rw [Qaf hl, Qaf (Qdl hl)], ?_⟩
    rintro w' ⟨l', b', ccs', h1', h2', h3', h4', h5'⟩
    obtain rfl := Qku hl h1'
    obtain rfl := Qxt h4 h4'
    exact ⟨_, b', _, hl, h2', h3', h4, h5'⟩
  | lit cs T n =>
    obtain ⟨l, b, ccs, ⟨hl, hcap⟩, h2, h3, h4, _⟩ := h
    refine ⟨by show locF _ _ = locF _ _; rw [Qaf hl, Qaf (Qdl hl)], ?_⟩
    rintro w' ⟨l', b', ccs', ⟨h1', h1''⟩, h2', h3', h4', h5'⟩
    obtain rfl := Qku hl h1'
    obtain rfl := Qxt h4 h4'
    exact ⟨_, b', _, ⟨hl, hcap⟩, h2', h3', h4, h5'⟩
  | own α d xs =>
    obtain ⟨l, hl, _⟩ := h
    refine ⟨by show locF _ _ = locF _ _; rw [Qaf hl, Qaf (Qdl hl)], ?_⟩
    rintro w' ⟨l', h1, h2⟩
    obtain rfl := Qku hl h1
    exact ⟨_, hl, h2⟩
  | any P =>
    obtain ⟨l, hl, _⟩ := h
    refine ⟨by show locF _ _ = locF _ _; rw [Qaf hl, Qaf (Qdl hl)], ?_⟩
    rintro w' ⟨l', h1, h2⟩
    obtain rfl := Qku hl h1
    exact ⟨_, hl, h2⟩
  | itr s p =>
    obtain ⟨l, b, hl, h2, h3, _⟩ := h
    refine ⟨by show locF _ _ = locF _ _; rw [Qaf hl, Qaf (Qdl hl)], ?_⟩
    rintro w' ⟨l', b', h1', h2', h3', h4'⟩
    obtain rfl := Qku hl h1'
    exact ⟨_, b', hl, h2', h3', h4'⟩
  | ros => exact ⟨rfl, fun _ _ => trivial⟩
  | roc => exact ⟨rfl, fun _ _ => trivial⟩
  | pin => exact ⟨rfl, fun _ _ => trivial⟩
theorem En.ok_back {S S' : Nat → Prop} {w1 w1' : World} {θ ζ : List Loc} {r : Nat} {e : En} (h : e.ok S w1 θ r) (h' : e.ok S' w1' (θ ++ ζ) r) : e.ok S' w1' θ r := by
  cases e with
  | var => trivial
  | lit => trivial
  | own => trivial
  | itr => trivial
  | any => trivial
  | pin l => exact h
  | ros α d xs =>
    obtain ⟨l, hl, _⟩ := h
    obtain ⟨l', h1, h2⟩ := h'
    obtain rfl := Qku hl h1
    exact ⟨_, hl, h2⟩
  | roc cs =>
    obtain ⟨l, A, ccs, hl, h2, h3, _⟩ := h
    obtain ⟨l', A', ccs', h1', h2', h3', h4', h5'⟩ := h'
    obtain rfl := Qku hl h1'
    obtain rfl := Qxt h3 h3'
    exact ⟨_, A', _, hl, h2', h3, h4', h5'⟩
theorem RH.back {c : Cx} {θ ζ : List Loc} {E : List (Nat × En)} {S S' : Nat → Prop} {w1 w1' w w' : World} (h : RH c θ E S w1 w) (h' : RH c (θ ++ ζ) E S' w1' w') : RH c θ E S' w1' w' :=
  ⟨h'.k0, h'.sub, h'.sh.map2 (fun e he _ => En.ck_back ((h.sh.ok _ (List.mem_map.2 ⟨e, he, rfl⟩)).here)), fun e he => En.ok_back (h.ok e he) (h'.ok e he)⟩
theorem Run.draw {c : Cx} {res : List Re} {σ : St} {id : Nat} {ops : Array Oper} {k : List It} (n : Nat) (hm : c.P.follows .mixedOrders = true) (hn : ops.size = n)
    (h : ∀ S w1 hk hs hd, RunD (c.rebase S w1 hk hs hd) (kQ c res k .normal) σ.E σ.m ops n [] (Array.replicate n false) σ) : Run c res σ (.code (.region id ops true) :: k) := by
  intro θ a w hR
  obtain ⟨S, w1, hh⟩ := hR.heap
  have hh' := hh.drew.rebase
  have hR' : R (c.rebase S w1 hh.k0 hh.sub hh.sh.dom) (θ ++ []) σ a w.drew := by rw [List.append_nil]; exact ⟨hR.len, hR.env, S, w1, hh'⟩
  have := h S w1 hh.k0 hh.sub hh.sh.dom θ [] a w.drew hR.len hR' ⟨S, w1, hh'⟩ hh.ok Qg9.nil
  refine Code.wp_mono (Q := Ql6 (kQ c res k .normal)) (fun e a w h => by obtain ⟨rfl, h⟩ := h; exact h) (wp_region_held (P := c.P) hm (by rw [hn]; exact this))
def okD (ops : Array Oper) : Array Bool → List Nat → Bool
  | _, [] => true
  | listed, i :: is => Qm3 ops listed i && okD ops (listed.setIfInBounds i true) is
def Qk4 : Array Bool → List Nat → Array Bool
  | l, [] => l
  | l, i :: is => Qk4 (l.setIfInBounds i true) is
def tkK (σ : St) (d : Nat) : Option (V × Prop) → Option (St × Prop)
  | some (v, q) => bif Nat.blt d σ.n then some (put d v σ, q) else none
  | none => none
def tk1 (ti : Nat → TI) (zr : Nat → Option Value) (ops : Array Oper) (E0 : List (Nat × En)) (σ : St) (p : Prop) : Option Oper → Option (St × Prop)
  | some ⟨some d, op, _, _, _, none⟩ => tkK σ d (gOp ti zr σ.ρ E0 true op p)
  | some ⟨some d, op, _, _, _, some (j, want)⟩ => tkK σ d (gK2 ti zr σ.ρ E0 op p (gB σ.ρ ops j want))
  | _ => none
def adD (ti : Nat → TI) (zr : Nat → Option Value) (ops : Array Oper) (E0 : List (Nat × En)) : List Nat → Option (St × Prop) → Option (St × Prop)
  | [], x => x
  | i :: is, some (σ, p) => adD ti zr ops E0 is (tk1 ti zr ops E0 σ p (nthO ops.toList i))
  | _ :: _, none => none
theorem Yc4 {ti : Nat → TI} {zr : Nat → Option Value} {ops : Array Oper} {E0 : List (Nat × En)} : ∀ (is : List Nat), adD ti zr ops E0 is none = none
  | [] => rfl
  | _ :: _ => rfl
theorem Yld {ti : Nat → TI} {zr : Nat → Option Value} {ops : Array Oper} {E0 : List (Nat × En)} {σ σ' : St} {o : Option Oper} {p q : Prop} (h : tk1 ti zr ops E0 σ p o = some (σ', q)) (hq : q) : p := by
  unfold tk1 at h
  split at h
  · unfold tkK at h
    split at h
    · rename_i v p1 hv
      cases hd : Nat.blt _ σ.n with
      | false => rw [hd] at h; cases h
      | true => rw [hd] at h; cases h; exact Q59 hv hq
    · cases h
  · unfold tkK at h
    split at h
    · rename_i v p1 hv
      unfold gK2 at hv
      split at hv
      · unfold gK1 at hv
        split at hv
        · rename_i hv1
          cases hv
          cases hd : Nat.blt _ σ.n with
          | false => rw [hd] at h; cases h
          | true => rw [hd] at h; cases h; exact Q59 hv1 hq
        · cases hv
      · cases hv
    · cases h
  · cases h
theorem Yia {ti : Nat → TI} {zr : Nat → Option Value} {ops : Array Oper} {E0 : List (Nat × En)} : ∀ {is : List Nat} {σ σ' : St} {p q : Prop}, adD ti zr ops E0 is (some (σ, p)) = some (σ', q) → q → p
  | [], _, _, _, _, h, hq => by cases h; exact hq
  | i :: is, σ, σ', p, q, h, hq => by
    simp only [adD] at h
    cases h1 : tk1 ti zr ops E0 σ p (nthO ops.toList i) with
    | none => rw [h1, Yc4] at h; cases h
    | some x =>
      obtain ⟨σ1, p1⟩ := x
      rw [h1] at h
      exact Yld h1 (Yia h hq)
theorem SD.r {c : Cx} {θ0 η : List Loc} {E0 M : List (Nat × En)} {σ : St} {a : Act} {w w2 : World} (h : R c (θ0 ++ η) σ a w) (hs : SD c θ0 E0 w2) (hM : Qg9 c.S0 c.w0 (θ0 ++ η) M) : R c (θ0 ++ η) ⟨σ.n, σ.m, σ.ρ, M ++ E0⟩ a w2 :=
  ⟨h.len, h.env, let ⟨S, w1, hh⟩ := hs; ⟨S, w1, hh.facts (Qg9.up hh hM)⟩⟩
theorem RunD.takes {c : Cx} {K : Act → World → Prop} {E0 : List (Nat × En)} {m0 : Nat} {ops : Array Oper} {n : Nat} {M : List (Nat × En)} : ∀ (is : List Nat) {listed : Array Bool} {σ σ' : St} {p q : Prop}, okD ops listed is = true → adD c.ti c.zr ops (M ++ E0) is (some (σ, p)) = some (σ', q) → q → RunD c K E0 m0 ops n M (Qk4 listed is) σ' → RunD c K E0 m0 ops (n + is.length) M listed σ
  | [], _, _, _, _, _, _, h, hq, hr => by cases h; exact hr
  | i :: is, listed, σ, σ', p, q, hb, h, hq, hr => by
    simp only [okD, Bool.and_eq_true] at hb
    have hB := hb.1
    simp only [Qm3, Bool.and_eq_true] at hB
    simp only [adD] at h
    cases h1 : tk1 c.ti c.zr ops (M ++ E0) σ p (nthO ops.toList i) with
    | none => rw [h1, Yc4] at h; cases h
    | some x =>
      obtain ⟨σ1, p1⟩ := x
      rw [h1] at h
      have hp1 := Yia h hq
      have ih := RunD.takes is hb.2 h hq hr
      unfold tk1 at h1
      split at h1
      · rename_i d op ty pos after hi
        unfold tkK at h1
        split at h1
        · rename_i v p2 hv
          cases hd : Nat.blt d σ.n with
          | false => rw [hd] at h1; cases h1
          | true =>
            rw [hd] at h1
            cases h1
            intro θ0 η a w hl hR hS hB0 hM
            have hi' : ops[i]? = some ⟨some d, op, ty, pos, after, none⟩ := by rw [← Array.getElem?_toList]; exact Qhg hi
            obtain ⟨u, hu, _⟩ := Q5n (SD.r hR hS hM) rfl (ty := ty) (σ := ⟨σ.n, σ.m, σ.ρ, M ++ E0⟩) hv hp1
            refine wpAnyH_take (v := u) hi' hB.1.1 hB.1.2 hB.2 (fun c a w h => by cases h.1) (.inl ⟨rfl, fun w2 hw2 => ?_⟩) hS (ih θ0 η _ w hl (hR.put hd hu) hS hB0 hM)
            obtain ⟨u2, hu2, hy⟩ := Q5n (SD.r hR hw2 hM) rfl (ty := ty) (σ := ⟨σ.n, σ.m, σ.ρ, M ++ E0⟩) hv hp1
            rw [hu] at hu2
            cases hu2
            exact hy _ _ _ _
        · cases h1
      · rename_i d op ty pos after j want hi
        unfold tkK at h1
        split at h1
        · rename_i v p2 hv
          unfold gK2 at hv
          split at hv
          · rename_i B hBB
            unfold gK1 at hv
            split at hv
            · rename_i v1 q1 hv1
              cases hv
              cases hd : Nat.blt d σ.n with
              | false => rw [hd] at h1; cases h1
              | true =>
                rw [hd] at h1
                cases h1
                intro θ0 η a w hl hR hS hB0 hM
                have hi' : ops[i]? = some ⟨some d, op, ty, pos, after, some (j, want)⟩ := by rw [← Array.getElem?_toList]; exact Qhg hi
                have hw := Yhh hR (o := ⟨some d, op, ty, pos, after, some (j, want)⟩) rfl hBB
                cases B with
                | true =>
                  obtain ⟨u, hu, _⟩ := Q5n (SD.r hR hS hM) rfl (ty := ty) (σ := ⟨σ.n, σ.m, σ.ρ, M ++ E0⟩) hv1 hp1
                  refine wpAnyH_take (v := u) hi' hB.1.1 hB.1.2 hB.2 (fun c a w h => by cases h.1) (.inl ⟨hw, fun w2 hw2 => ?_⟩) hS (ih θ0 η _ w hl (hR.put hd (v := .gd true v1) hu) hS hB0 hM)
                  obtain ⟨u2, hu2, hy⟩ := Q5n (SD.r hR hw2 hM) rfl (ty := ty) (σ := ⟨σ.n, σ.m, σ.ρ, M ++ E0⟩) hv1 hp1
                  rw [hu] at hu2
                  cases hu2
                  exact hy _ _ _ _
                | false =>
                  exact wpAnyH_take (v := undef) hi' hB.1.1 hB.1.2 hB.2 (fun c a w h => by cases h.1) (.inr ⟨hw, rfl⟩) hS (ih θ0 η _ w hl (hR.put hd (v := .gd false v1) rfl) hS hB0 hM)
            · cases hv
          · cases hv
        · cases h1
      · cases h1
theorem RunD.only {c : Cx} {K : Act → World → Prop} {E0 : List (Nat × En)} {m0 : Nat} {ops : Array Oper} {n : Nat} {M : List (Nat × En)} (i : Nat) (is : List Nat) {listed : Array Bool} {σ σ' : St} {o : Oper} (hr : Region.ready .any ops listed = [i]) (hi : nthO ops.toList i = some o) (ho : OpS c σ ops o σ') (hp : is.map (nthE σ'.E) = E0.map some) (hn : is.Nodup)
    (h : RunD c K E0 m0 ops n M (listed.setIfInBounds i true) σ') : RunD c K E0 m0 ops (n + 1) M listed σ := by
  intro θ0 η a w hl hR hS hB0 hM
  have hi' : ops[i]? = some o := by rw [← Array.getElem?_toList]; exact Qhg hi
  refine Yj6 i hi' hr ?_
  refine wpList_step fun K' hK' => ?_
  refine ho _ a w hR K' _ fun ζ a' w' hR' => hK' _ _ ?_
  rw [List.append_assoc] at hR'
  have hS' : SD c θ0 E0 w' := by
    obtain ⟨S, w1, hh⟩ := hR'.heap
    obtain ⟨S0, w0, hh0⟩ := hS
    exact ⟨S, w1, hh0.back (hh.pickE hp hn)⟩
  exact ⟨rfl, hS', h θ0 (η ++ ζ) a' w' hl hR' hS' hB0 (by rw [← List.append_assoc]; exact hM.ext)⟩
theorem RunD.onlyg {c : Cx} {K : Act → World → Prop} {E0 : List (Nat × En)} {m0 : Nat} {ops : Array Oper} {n : Nat} {M : List (Nat × En)} (i : Nat) (is : List Nat) {listed : Array Bool} {σ σ' : St} {o : Oper} {G : Prop} (hr : Region.ready .any ops listed = [i]) (hi : nthO ops.toList i = some o) (ho : OpSg c σ ops o σ' G) (hp : is.map (nthE σ'.E) = E0.map some) (hn : is.Nodup)
    (h : G → RunD c K E0 m0 ops n M (listed.setIfInBounds i true) σ') : RunD c K E0 m0 ops (n + 1) M listed σ := by
  intro θ0 η a w hl hR hS hB0 hM
  have hi' : ops[i]? = some o := by rw [← Array.getElem?_toList]; exact Qhg hi
  refine Yj6 i hi' hr ?_
  refine wpList_step fun K' hK' => ?_
  refine ho _ a w hR K' _ fun ζ a' w' hR' hg => hK' _ _ ?_
  rw [List.append_assoc] at hR'
  have hS' : SD c θ0 E0 w' := by
    obtain ⟨S, w1, hh⟩ := hR'.heap
    obtain ⟨S0, w0, hh0⟩ := hS
    exact ⟨S, w1, hh0.back (hh.pickE hp hn)⟩
  exact ⟨rfl, hS', h hg θ0 (η ++ ζ) a' w' hl hR' hS' hB0 (by rw [← List.append_assoc]; exact hM.ext)⟩
def evsG (ρ : List (Nat × V)) : List Operand → Option (List V)
  | [] => some []
  | x :: r => Qa4 (evG ρ x) (evsG ρ r)
theorem Yal {ρ : List (Nat × V)} : ∀ {l : List Operand} {vs : List V}, evsG ρ l = some vs → l.map (evG ρ) = vs.map some
  | [], vs, h => by cases h; rfl
  | x :: r, vs, h => by
    simp only [evsG] at h
    cases h1 : evG ρ x with
    | none => rw [h1] at h; cases h
    | some v =>
      cases h2 : evsG ρ r with
      | none => rw [h1, h2] at h; cases h
      | some b =>
        rw [h1, h2] at h
        cases h
        rw [List.map_cons, List.map_cons, h1, Yal h2]
def opAt (l : List Oper) (i : Nat) : Oper := match nthO l i with
  | some o => o
  | none => ⟨none, .move (.const undef), 0, "", #[], none⟩
def TkS (c : Cx) (E0 M : List (Nat × En)) (σ : St) (ops : Array Oper) (listed : Array Bool) (j : Nat) (σ1 : St) (M1 : List (Nat × En)) : Prop := ∀ (K : Act → World → Prop) (m0 n : Nat), RunD c K E0 m0 ops n M1 (listed.setIfInBounds j true) σ1 → RunD c K E0 m0 ops (n + 1) M listed σ
def Qee {α : Type} (σ : St) (x : α) (fk : List (Fk α)) (M : List (Nat × En)) : List (Nat × En) := (σ.m, .roc (opn false x (σ.m + 1) fk).1) :: (opn false x (σ.m + 1) fk).2 ++ M
theorem TkS.idx {c : Cx} {E0 M : List (Nat × En)} {ops : Array Oper} {listed : Array Bool} {σ : St} {α : Type} {dα : Dat α} [s : Str α] [Inhabited α] {t e by' r len d : Nat} {x y : Operand} {ty : TypeId} {pos : String} {after : Array Edge} {i : Int} {xs : List α} (j k : Nat) (hk : k < xs.length) (hi' : nthO ops.toList j = some ⟨some d, .indexAddr t x y, ty, pos, after, none⟩) (hB : Qm3 ops listed j = true)
    (hx : ev σ.ρ x = some (.sl r len)) (hy : ev σ.ρ y = some (.v (.int .i64 i))) (hp : lkE (M ++ E0) r = some (.ros α dα xs)) (hl : len = xs.length) (hi : i = k) (ht : c.ti t = .sl e (Dat.sz α) by') (hd : Nat.blt d σ.n = true) : TkS c E0 M σ ops listed j (Qcs σ d (nth xs k) s.fk) (Qee σ (nth xs k) s.fk M) := by
  intro K m0 n h
  subst hi
  subst hl
  intro θ0 η a w hl0 hR hS hB0 hM
  simp only [Qm3, Bool.and_eq_true] at hB
  have hj : ops[j]? = some ⟨some d, .indexAddr t x y, ty, pos, after, none⟩ := by rw [← Array.getElem?_toList]; exact Qhg hi'
  obtain ⟨S, w1, hh⟩ := hR.heap
  have hpo : (En.ros α dα xs).ok c.S0 c.w0 (θ0 ++ η) r := by
    rcases List.mem_append.1 (Qdv hp) with hm | hm
    · exact (hM _ hm).1
    · exact En.ok_ext (hB0 _ hm)
  obtain ⟨l, hl, hr⟩ := hpo
  have hc := hR.env.con hx
  simp only [V.con, hl, Option.some.injEq] at hc
  obtain ⟨ad, cs, hA, _, hrd, hcs, hb⟩ := SlR.elem hr hk
  have hti := c.tiok t
  rw [ht] at hti
  simp only [TI.chk, Bool.and_eq_true] at hti
  have hx' := hR.env.is hx (by rw [hR.env.con hx, ← hc, hA])
  have hy' := hR.env.isv hy
  let A' : Addr := (ad.add (k * Dat.sz α))
  let lc : Loc := ⟨some A', 0, []⟩
  obtain ⟨θ', hl', hc', he'⟩ := Qjx (θ := (θ0 ++ η) ++ [lc]) (s.op hrd)
  rw [List.length_append, List.length_singleton, hR.len, List.append_assoc] at hc' he'
  have hg : ((θ0 ++ η) ++ ([lc] ++ θ'))[σ.m]? = some lc := by rw [← hR.len]; exact Qec
  have hfa : Qg9 c.S0 c.w0 ((θ0 ++ η) ++ ([lc] ++ θ')) ((σ.m, En.roc (opn false (nth xs k) (σ.m + 1) s.fk).1) :: (opn false (nth xs k) (σ.m + 1) s.fk).2) := by
    intro e he
    rcases List.mem_cons.1 he with rfl | he
    · exact ⟨⟨lc, A', cs, hg, rfl, hc', by show c.S0 A'.block; simp only [A', Qji]; exact hb, hcs⟩, fun _ _ => rfl⟩
    · exact he' e he
  have hR2 : R c (θ0 ++ (η ++ ([lc] ++ θ'))) (Qcs σ d (nth xs k) s.fk) (a.put (some d) (.pointer (some (A'.add 0)))) w := by
    rw [← List.append_assoc]
    refine ⟨?_, (hR.env.ext (θ' := [lc] ++ θ')).put hd ?_, S, w1, ?_⟩
    · have h1 := hR.len
      have h2 : (Qcs σ d (nth xs k) s.fk).m = σ.m + 1 + nsl s.fk := rfl
      simp only [List.length_append, List.length_cons, List.length_nil] at h1 ⊢
      omega
    · simp only [V.con, hg, lc]
    · exact hh.facts (Qg9.up hh hfa)
  have hM2 : Qg9 c.S0 c.w0 (θ0 ++ (η ++ ([lc] ++ θ'))) (Qee σ (nth xs k) s.fk M) := by
    rw [← List.append_assoc]
    exact hfa.app hM.ext
  refine wpAnyH_take (v := .pointer (some (A'.add 0))) hj hB.1.1 hB.1.2 hB.2 (fun c a w h => by cases h.1) (.inl ⟨rfl, fun w2 _ => ?_⟩) hS (h θ0 (η ++ ([lc] ++ θ')) _ w hl0 hR2 hS hB0 hM2)
  have hyy := Qiz (P := c.P) (w := w2) (ty := ty) hR.env.env hx' hy' (by omega) (by omega) hti.2
  have := hyy (some d) pos after none
  simpa using this
end
section
open Go.RowKit
theorem Yck : ∀ (l : List Value), V.names.namesL (l.map V.v) = []
  | [] => rfl
  | x :: r => by rw [List.map_cons, Qi6, Yck r]; rfl
theorem Yi2 {zs : Array Value} {sz m i : Nat} (hz : zs.size = sz) (hp : 0 < sz) (hi : i < m) : cut sz ((Array.range (m * sz)).map (fun j => zs[j % zs.size]!)).toList i = zs.toList := by
  have hle : i * sz + sz ≤ m * sz := by
    have : (i + 1) * sz ≤ m * sz := Nat.mul_le_mul_right _ hi
    rwa [Nat.add_mul, Nat.one_mul] at this
  unfold cut
  refine List.ext_getElem? fun j => ?_
  by_cases hj : j < sz
  · rw [List.getElem?_take_of_lt hj, List.getElem?_drop]
    have h1 : i * sz + j < m * sz := by omega
    rw [Array.getElem?_toList, Array.getElem?_map]
    rw [Array.getElem?_eq_getElem (by simpa using h1)]
    simp only [Array.getElem_range, Option.map_some, hz]
    rw [Nat.mul_comm, Nat.mul_add_mod, Nat.mod_eq_of_lt hj, Array.getElem?_toList, getElem!_pos zs j (by omega), Array.getElem?_eq_getElem (by omega)]
  · rw [List.getElem?_eq_none (by simp; omega), List.getElem?_eq_none (by simp; omega)]
section
variable {c : Cx} {σ : St} {all : Array Oper} {ty : TypeId} {pos : String} {after : Array Edge} {d : Nat}
theorem OpS.make {α : Type} {dα : Dat α} [s : @Str α dα] {t e by' : Nat} {x y : Operand} {z : Value} (m : Nat) (z0 : α) {i j : Int} (hx : ev σ.ρ x = some (.v (.int .i64 i))) (hy : ev σ.ρ y = some (.v (.int .i64 j))) (hi : i = m) (hj : j = m)
    (ht : c.ti t = .sl e (Dat.sz α) by') (hz : c.zr e = some z) (hzs : z.cells.size = Dat.sz α) (ho : ElOk σ.E (Dat.sz α) dα s.fk [z0] (z.cells.toList.map V.v)) (hb : by' * m ≤ 281474976710656) (hm : m ≤ 9223372036854775807) (hd : Nat.blt d σ.n = true) :
    OpS c σ all ⟨some d, .makeSlice t x y, ty, pos, after, none⟩ (Qce σ d dα (List.replicate m z0)) :=
  OpS.of fun θ a w h K Q hK => by
    subst hi
    subst hj
    obtain ⟨S, w1, hh⟩ := h.heap
    have hti := c.tiok t
    rw [ht] at hti
    simp only [TI.chk, Bool.and_eq_true] at hti
    obtain ⟨hu, inf, hi, his, hib⟩ := Qbb hti.2
    have hex := Option.some.inj (h.env.con hx)
    have hey := Option.some.inj (h.env.con hy)
    obtain ⟨_, hown⟩ := hh.elems s (Yap z.cells.toList) (Yck _) ho
    have hown0 : ∀ w', Dat.own w' z.cells.toList z0 [] := fun w' => by
      have := hown w' 0 z0 rfl
      unfold cut at this
      rwa [Nat.zero_mul, List.drop_zero, List.take_of_length_le (by rw [Array.length_toList, hzs]; exact Nat.le_refl _)] at this
    have hw : IntKind.i64.wrap (m : Int) = m := IntWalk.i64_in _ (by omega)
    have hlim : ¬ (281474976710656 < (by' : Int) * (m : Int)) := by
      have : ((by' * m : Nat) : Int) ≤ 281474976710656 := by omega
      rw [Int.natCast_mul] at this
      omega
    have : ∃ arr : Array Value, arr.size = m * Dat.sz α ∧ (∀ i, i < m → cut (Dat.sz α) arr.toList i = z.cells.toList) ∧ (execOp a.eval ⟨some d, .makeSlice t x y, ty, pos, after, none⟩).run c.P w = .ok (.value (.slice (some ⟨w.heap.size, 0, none⟩) m m)) (w.alloc (.cells arr e)) := by
      by_cases h0 : m = 0
      · subst h0
        refine ⟨#[], by simp, fun i hi => by omega, ?_⟩
        have hr : Array.range 0 = #[] := rfl
        simp [execOp, ← hex, ← hey, Instr.makeSlice, run_underlying hu, asInt, asIntOf, typeInfo, hi, sizeOf, newRow, hr, show IntKind.i64.wrap 0 = 0 from rfl]
      · refine ⟨(Array.range (m * Dat.sz α)).map (z.cells[· % z.cells.size]!), by simp, fun i hi => Yi2 hzs (Dat.sz_pos α) hi, ?_⟩
        have hne : ¬ (m * Dat.sz α = 0) := by have := Dat.sz_pos α; rw [Nat.mul_eq_zero]; omega
        have hz' := c.zok e z hz w
        have hm0 : ¬ ((m : Int) < 0) := by omega
        have hszn : ¬ (Dat.sz α = 0) := by have := Dat.sz_pos α; omega
        have hlim' : ¬ (((by' : Int) * (m : Int)) > 2 ^ 48) := by omega
        simp [execOp, ← hex, ← hey, Instr.makeSlice, run_underlying hu, asInt, asIntOf, typeInfo, hi, sizeOf, newRow, hib, his, hw, hlim, hz', hm0]
        exact fun h => absurd h hne
    obtain ⟨arr, hsz, hcut, hrun⟩ := this
    unfold Oper.wp
    rw [hrun]
    have h3 : ∀ w2, w2.heap[w.heap.size]? = some (.cells arr e (0, 0)) → SlO w2 (.slice (some ⟨w.heap.size, 0, none⟩) (List.replicate m z0).length m) (List.replicate m z0) [w.heap.size] := fun w2 h2 =>
      Qfy.2 (.inr ⟨w.heap.size, m, arr, e, List.replicate m [], rfl, h2, by simp, by unfold maxLen; omega, by rw [hsz]; exact Nat.le_refl _, by simp, by simp, fun i y hi => by
        have him : i < m := by simpa using (List.getElem?_eq_some_iff.1 hi).1
        rw [List.getElem?_replicate, if_pos him] at hi
        cases hi
        refine ⟨[], by rw [List.getElem?_replicate, if_pos him], ?_⟩
        rw [hcut i him]
        exact hown0 w2⟩)
    have hbel : Below w.heap.size w (w.alloc (.cells arr e)) := (Below.refl _ _).alloc (Nat.le_refl _) _
    let l : Loc := ⟨some ⟨w.heap.size, 0, none⟩, m, [w.heap.size]⟩
    have hg : (θ ++ [l])[σ.m]? = some l := by rw [← h.len]; exact Qec
    refine hK [l] _ _ ⟨by rw [List.length_append, h.len]; rfl, (h.env.ext (θ' := [l])).put hd ?_, S, w1, ?_⟩
    · have := h.sl0 (l := l) (List.replicate m z0).length
      rw [List.length_replicate] at this ⊢
      exact this
    · refine hh.ext.new hbel ?_ ?_ ?_ trivial
      · intro w2 hw2
        refine ⟨l, hg, h3 w2 ?_⟩
        have hmem : w.heap.size ∈ ((En.own α dα (List.replicate m z0)).ck (θ ++ [l]) σ.m).F := by
          show _ ∈ locF _ _
          rw [Qaf hg]
          simp [l]
        exact (hw2 _ hmem).trans (heap_alloc_new w _)
      · intro b hb
        have hb' : b ∈ locF (θ ++ [l]) σ.m := hb
        rw [Qaf hg] at hb'
        have : b = w.heap.size := by simpa [l] using hb'
        subst this
        exact ⟨Nat.le_refl _, (Array.getElem?_eq_some_iff.1 (heap_alloc_new w _)).1⟩
      · show (locF _ σ.m).Nodup
        rw [Qaf hg]
        simp [l]
theorem OpS.oidx {α : Type} {dα : Dat α} {t e by' r len : Nat} {x y : Operand} {i : Int} {xs : List α} (k : Nat) (hk : k < xs.length) (hx : ev σ.ρ x = some (.sl r len)) (hy : ev σ.ρ y = some (.v (.int .i64 i))) (hp : lkE σ.E r = some (.own α dα xs)) (hl : len = xs.length) (hi : i = k) (ht : c.ti t = .sl e (Dat.sz α) by') (hd : Nat.blt d σ.n = true) :
    OpS c σ all ⟨some d, .indexAddr t x y, ty, pos, after, none⟩ (put d (.pt r (k * Dat.sz α)) σ) :=
  OpS.of fun θ a w h K Q hK => by
    subst hi
    subst hl
    obtain ⟨S, w1, hh⟩ := h.heap
    obtain ⟨l, hl, hown⟩ := hh.own hp
    have hc := h.env.con hx
    simp only [V.con, hl, Option.some.injEq] at hc
    obtain ⟨b, hA⟩ : ∃ b, l.A = some ⟨b, 0, none⟩ := by
      rcases hown with ⟨h1, h2, _⟩ | ⟨g, cap, arr, T, Fs, h1, _⟩
      · rw [h2] at hk; exact absurd hk (by simp)
      · injection h1 with h1 _ _
        exact ⟨g, h1⟩
    have hti := c.tiok t
    rw [ht] at hti
    simp only [TI.chk, Bool.and_eq_true] at hti
    have hx' := h.env.is hx (by rw [h.env.con hx, ← hc, hA])
    have hy' := h.env.isv hy
    have hyy := Qiz (P := c.P) (w := w) (ty := ty) h.env.env hx' hy' (by omega) (by omega) hti.2
    unfold Oper.wp
    rw [hyy]
    refine hK [] _ _ (h.put hd (v := .pt r (k * Dat.sz α)) ?_).app0
    obtain ⟨A, cap, F⟩ := l
    simp only at hA
    subst hA
    simp only [V.con, hl, Addr.add_zero', Int.toNat_natCast]
end
theorem SH.fuse {S : Nat → Prop} {w0 w w' : World} {L D Q : List Ck} (h : SH S w0 w L) {c' : Ck} (hp : L.Perm (D ++ Q)) (hos : w'.os = w.os) (htape : w'.tape = w.tape) (hout : w'.output = w.output) (hsize : w.heap.size ≤ w'.heap.size)
    (hsame : ∀ b, b < w.heap.size → b ∉ D.flatMap (·.F) → w'.heap[b]? = w.heap[b]?) (hok : c'.ok w') (hF : ∀ b ∈ c'.F, (b ∈ D.flatMap (·.F) ∨ w.heap.size ≤ b) ∧ b < w'.heap.size) (hn : c'.F.Nodup) : SH S w0 w' (c' :: Q) := by
  have hap : (D.flatMap (·.F) ++ Q.flatMap (·.F)).Nodup := by
    rw [← List.flatMap_append]
    exact (hp.flatMap_right _).nodup_iff.1 h.apart
  obtain ⟨_, hQn, hdj⟩ := List.nodup_append.1 hap
  have hD : ∀ b ∈ D.flatMap (·.F), ¬ S b ∧ b < w.heap.size := fun b hb => by
    obtain ⟨c, hc, hbc⟩ := List.mem_flatMap.1 hb
    exact h.ge c (hp.mem_iff.2 (List.mem_append_left _ hc)) b hbc
  have hQ : ∀ c ∈ Q, c ∈ L := fun c hc => hp.mem_iff.2 (List.mem_append_right _ hc)
  refine ⟨?_, h.dom, ?_, ?_, ?_⟩
  · exact h.keep.trans ⟨hos, htape, hout, hsize, fun b hb => hsame b (by have := h.dom b hb; have := h.size; omega) fun hbF => (hD b hbF).1 hb⟩
  · intro d hd
    rcases List.mem_cons.1 hd with rfl | hd
    · exact hok
    · refine (h.ok d (hQ d hd)).same fun b hb => hsame b (h.ge d (hQ d hd) b hb).2 fun hbD => hdj b hbD b (List.mem_flatMap.2 ⟨d, hd, hb⟩) rfl
  · intro d hd b hb
    rcases List.mem_cons.1 hd with rfl | hd
    · obtain ⟨h1, h2⟩ := hF b hb
      refine ⟨?_, h2⟩
      rcases h1 with h1 | h1
      · exact (hD b h1).1
      · intro hSb; have := h.dom b hSb; have := h.size; omega
    · have := h.ge d (hQ d hd) b hb
      exact ⟨this.1, by omega⟩
  · rw [List.flatMap_cons, List.nodup_append]
    refine ⟨hn, hQn, fun b hb b' hb' => ?_⟩
    rintro rfl
    rcases (hF b hb).1 with h1 | h1
    · exact hdj b h1 b hb' rfl
    · obtain ⟨d, hd, hbd⟩ := List.mem_flatMap.1 hb'
      have := (h.ge d (hQ d hd) b hbd).2
      omega
def memN (n : Nat) : List Nat → Bool
  | [] => false
  | x :: r => bif Nat.beq n x then true else memN n r
def Qfn (ns : List Nat) : List (Nat × En) → List (Nat × En)
  | [] => []
  | (r, x) :: E => bif memN r ns then Qfn ns E else (r, x) :: Qfn ns E
def Qkm (ns : List Nat) : List (Nat × En) → List (Nat × En)
  | [] => []
  | (r, x) :: E => bif memN r ns then (r, x) :: Qkm ns E else Qkm ns E
theorem Qmc (ns : List Nat) : ∀ (E : List (Nat × En)), E.Perm (Qkm ns E ++ Qfn ns E)
  | [] => .nil
  | (r, x) :: E => by
    simp only [Qkm, Qfn]
    cases memN r ns with
    | true => exact (Qmc ns E).cons _
    | false => exact ((Qmc ns E).cons _).trans List.perm_middle.symm
theorem RH.fuse {c : Cx} {θ : List Loc} {E : List (Nat × En)} {S : Nat → Prop} {w1 w w' : World} (h : RH c θ E S w1 w) (ns : List Nat) {p : Nat × En} (hos : w'.os = w.os) (htape : w'.tape = w.tape) (hout : w'.output = w.output) (hsize : w.heap.size ≤ w'.heap.size)
    (hsame : ∀ b, b < w.heap.size → b ∉ (Qkm ns E).flatMap (fun e => (e.2.ck θ e.1).F) → w'.heap[b]? = w.heap[b]?) (hok : (p.2.ck θ p.1).ok w') (hF : ∀ b ∈ (p.2.ck θ p.1).F, (b ∈ (Qkm ns E).flatMap (fun e => (e.2.ck θ e.1).F) ∨ w.heap.size ≤ b) ∧ b < w'.heap.size) (hn : (p.2.ck θ p.1).F.Nodup) (hf : p.2.ok S w1 θ p.1) : RH c θ (p :: Qfn ns E) S w1 w' := by
  refine ⟨h.k0, h.sub, ?_, fun e he => ?_⟩
  · rw [List.map_cons]
    refine h.sh.fuse (D := (Qkm ns E).map fun e => e.2.ck θ e.1) (by rw [← List.map_append]; exact (Qmc ns E).map _) hos htape hout hsize ?_ hok ?_ hn
    · rw [List.flatMap_map]; exact hsame
    · rw [List.flatMap_map]; exact hF
  · rcases List.mem_cons.1 he with rfl | he
    · exact hf
    · exact h.ok e ((Qmc ns E).mem_iff.2 (List.mem_append_right _ he))
mutual
def V.rn (r q : Nat) : V → V
  | .v x => .v x
  | .sl a n => bif Nat.beq a r then .sl q n else .sl a n
  | .pt a o => bif Nat.beq a r then .pt q o else .pt a o
  | .ag cs => .ag (rnL r q cs)
  | .fn f cs => .fn f (rnL r q cs)
  | .tu cs => .tu (rnL r q cs)
  | .gd b x => .gd b (x.rn r q)
def rnL (r q : Nat) : List V → List V
  | [] => []
  | x :: xs => x.rn r q :: rnL r q xs
end
def rnR (r q : Nat) : List (Nat × V) → List (Nat × V)
  | [] => []
  | (t, v) :: ρ => (t, v.rn r q) :: rnR r q ρ
def En.rn (r q : Nat) : En → En
  | .var cs T => .var (rnL r q cs) T
  | .lit cs T n => .lit (rnL r q cs) T n
  | .roc cs => .roc (rnL r q cs)
  | .own α d xs => .own α d xs
  | .ros α d xs => .ros α d xs
  | .itr s p => .itr s p
  | .any P => .any P
  | .pin l => .pin l
def rnE (r q : Nat) : List (Nat × En) → List (Nat × En)
  | [] => []
  | (t, e) :: E => (t, e.rn r q) :: rnE r q E
section
variable {θ : List Loc} {r q : Nat} {l l' : Loc}
mutual
theorem V.rn_con (hr : θ[r]? = some l) (hq : θ[q]? = some l') (hA : l'.A = l.A) (hc : l'.cap = l.cap) : ∀ (v : V), (v.rn r q).con θ = v.con θ
  | .v x => rfl
  | .sl a n => by
    simp only [V.rn]
    cases hb : Nat.beq a r with
    | false => rfl
    | true =>
      obtain rfl := Nat.eq_of_beq_eq_true hb
      simp only [cond_true, V.con, hr, hq, hA, hc]
  | .pt a o => by
    simp only [V.rn]
    cases hb : Nat.beq a r with
    | false => rfl
    | true =>
      obtain rfl := Nat.eq_of_beq_eq_true hb
      obtain ⟨A, cap, F⟩ := l
      obtain ⟨A', cap', F'⟩ := l'
      simp only at hA
      subst hA
      simp only [cond_true, V.con, hr, hq]
      cases A' <;> rfl
  | .ag cs => by simp only [V.rn, V.con, Qpe hr hq hA hc cs]
  | .fn f cs => by simp only [V.rn, V.con, Qpe hr hq hA hc cs]
  | .tu cs => by simp only [V.rn, V.con, Qpe hr hq hA hc cs]
  | .gd true x => by simp only [V.rn, V.con]; exact V.rn_con hr hq hA hc x
  | .gd false x => rfl
theorem Qpe (hr : θ[r]? = some l) (hq : θ[q]? = some l') (hA : l'.A = l.A) (hc : l'.cap = l.cap) : ∀ (cs : List V), conL θ (rnL r q cs) = conL θ cs
  | [] => rfl
  | x :: xs => by simp only [rnL, conL, V.rn_con hr hq hA hc x, Qpe hr hq hA hc xs]
end
theorem Yj0 : ∀ (ρ : List (Nat × V)) (t : Nat), lk (rnR r q ρ) t = (lk ρ t).map (V.rn r q)
  | [], _ => rfl
  | (k, v) :: ρ, t => by
    simp only [rnR, lk]
    cases Nat.beq k t with
    | true => rfl
    | false => exact Yj0 ρ t
theorem En.rn_ck (hr : θ[r]? = some l) (hq : θ[q]? = some l') (hA : l'.A = l.A) (hc : l'.cap = l.cap) (e : En) (t : Nat) : (e.rn r q).ck θ t = e.ck θ t := by
  cases e <;> simp only [En.rn, En.ck, Qpe hr hq hA hc]
theorem En.rn_ok (hr : θ[r]? = some l) (hq : θ[q]? = some l') (hA : l'.A = l.A) (hc : l'.cap = l.cap) {S : Nat → Prop} {w1 : World} (e : En) (t : Nat) : (e.rn r q).ok S w1 θ t ↔ e.ok S w1 θ t := by
  cases e <;> simp only [En.rn, En.ok, Qpe hr hq hA hc]
theorem Ygy : ∀ (E : List (Nat × En)), rnE r q E = E.map fun e => (e.1, e.2.rn r q)
  | [] => rfl
  | (t, e) :: E => by simp only [rnE, List.map_cons, Ygy E]
theorem RH.rn {c : Cx} {E : List (Nat × En)} {S : Nat → Prop} {w1 w : World} (h : RH c θ E S w1 w) (hr : θ[r]? = some l) (hq : θ[q]? = some l') (hA : l'.A = l.A) (hc : l'.cap = l.cap) : RH c θ (rnE r q E) S w1 w := by
  rw [Ygy]
  refine ⟨h.k0, h.sub, ?_, fun e he => ?_⟩
  · rw [List.map_map]
    have : ((fun e => e.2.ck θ e.1) ∘ fun e : Nat × En => (e.1, e.2.rn r q)) = fun e => e.2.ck θ e.1 := by
      funext e
      exact En.rn_ck hr hq hA hc e.2 e.1
    rw [this]
    exact h.sh
  · obtain ⟨e0, he0, rfl⟩ := List.mem_map.1 he
    exact (En.rn_ok hr hq hA hc e0.2 e0.1).2 (h.ok e0 he0)
theorem EnvV.rn {n : Nat} {ρ : List (Nat × V)} {a : Act} (h : EnvV n θ ρ a) (hr : θ[r]? = some l) (hq : θ[q]? = some l') (hA : l'.A = l.A) (hc : l'.cap = l.cap) : EnvV n θ (rnR r q ρ) a := by
  refine ⟨h.size, h.defers, fun t v hv => ?_⟩
  rw [Yj0, Option.map_eq_some_iff] at hv
  obtain ⟨v0, h0, rfl⟩ := hv
  rw [V.rn_con hr hq hA hc]
  exact h.get t v0 h0
end
end
section
open Go.RowKit
theorem Qj8 : ∀ {Fs : List (List Nat)} {k : Nat} {G : List Nat}, Fs.flatten.Nodup → G.Nodup → (∀ b ∈ G, b ∉ Fs.flatten) → (Fs.set k G).flatten.Nodup ∧ ∀ b ∈ (Fs.set k G).flatten, b ∈ Fs.flatten ∨ b ∈ G
  | [], _, _, h, _, _ => ⟨by simp, fun b hb => .inl (by simp at hb)⟩
  | F :: Fs, 0, G, h, hG, hd => by
    rw [List.set_cons_zero, List.flatten_cons]
    rw [List.flatten_cons, List.nodup_append] at h
    refine ⟨List.nodup_append.2 ⟨hG, h.2.1, fun b hb b' hb' e => hd b hb (by rw [List.flatten_cons]; exact List.mem_append_right _ (e ▸ hb'))⟩, fun b hb => ?_⟩
    rcases List.mem_append.1 hb with hb | hb
    · exact .inr hb
    · exact .inl (by rw [List.flatten_cons]; exact List.mem_append_right _ hb)
  | F :: Fs, k + 1, G, h, hG, hd => by
    rw [List.set_cons_succ, List.flatten_cons]
    rw [List.flatten_cons, List.nodup_append] at h
    obtain ⟨i1, i2⟩ := Qj8 (k := k) h.2.1 hG fun b hb hbf => hd b hb (by rw [List.flatten_cons]; exact List.mem_append_right _ hbf)
    refine ⟨List.nodup_append.2 ⟨h.1, i1, fun b hb b' hb' e => ?_⟩, fun b hb => ?_⟩
    · subst e
      rcases i2 b hb' with h2 | h2
      · exact h.2.2 b hb b h2 rfl
      · exact hd b h2 (by rw [List.flatten_cons]; exact List.mem_append_left _ hb)
    · rw [List.flatten_cons]
      rcases List.mem_append.1 hb with hb | hb
      · exact .inl (List.mem_append_left _ hb)
      · rcases i2 b hb with h2 | h2
        · exact .inl (List.mem_append_right _ h2)
        · exact .inr h2
def Qge (arr : Array Value) (off sz : Nat) (ds : List Value) : Array Value := (arr.toList.take off ++ ds ++ arr.toList.drop (off + sz)).toArray
theorem Q96 {arr : Array Value} {k sz : Nat} {ds : List Value} (hd : ds.length = sz) (hle : k * sz + sz ≤ arr.size) (i : Nat) : cut sz (Qge arr (k * sz) sz ds).toList i = if i = k then ds else cut sz arr.toList i := by
  have hal : arr.toList.length = arr.size := Array.length_toList
  unfold cut Qge
  rw [show (List.toArray (List.take (k * sz) arr.toList ++ ds ++ List.drop (k * sz + sz) arr.toList)).toList = List.take (k * sz) arr.toList ++ ds ++ List.drop (k * sz + sz) arr.toList from rfl]
  have h1 : (List.take (k * sz) arr.toList).length = k * sz := by rw [List.length_take]; omega
  by_cases e : i = k
  · subst e
    rw [if_pos rfl, List.append_assoc, List.drop_append_of_le_length (by omega), List.drop_of_length_le (by omega), List.nil_append, List.take_append_of_le_length (by omega), List.take_of_length_le (by omega)]
  · rw [if_neg e]
    by_cases hlt : i < k
    · have : i * sz + sz ≤ k * sz := by
        have := Nat.mul_le_mul_right sz hlt
        rwa [Nat.succ_mul] at this
      rw [List.append_assoc, List.drop_append_of_le_length (by omega), List.take_append_of_le_length (by rw [List.length_drop]; omega), List.drop_take, List.take_take, Nat.min_eq_left (by omega)]
    · have : k * sz + sz ≤ i * sz := by
        have := Nat.mul_le_mul_right sz (show k + 1 ≤ i by omega)
        rwa [Nat.succ_mul] at this
      rw [List.drop_append, List.drop_of_length_le (by rw [List.length_append]; omega), List.nil_append, List.length_append, h1, hd, List.drop_drop]
      congr 2
      omega
theorem Q52 {arr : Array Value} {off sz : Nat} {ds : List Value} (hd : ds.length = sz) (hle : off + sz ≤ arr.size) : (Qge arr off sz ds).size = arr.size := by
  have hal : arr.toList.length = arr.size := Array.length_toList
  unfold Qge
  simp only [List.size_toArray, List.length_append, List.length_take, List.length_drop, hal, hd]
  omega
theorem SlO.put {α : Type} [Dat α] {w : World} {g cap k : Nat} {arr : Array Value} {T : TypeId} {Fs : List (List Nat)} {xs : List α} {y : α} {ds : List Value} {G : List Nat} (hcap : xs.length ≤ cap) (hm : cap ≤ maxLen) (hsz : cap * Dat.sz α ≤ arr.size) (hF : Fs.length = xs.length)
    (he : ∀ i x, xs[i]? = some x → ∃ G, Fs[i]? = some G ∧ Dat.own w (cut (Dat.sz α) arr.toList i) x G) (hk : k < xs.length) (hy : Dat.own w ds y G) (hgF : g ∉ Fs.flatten) (hgG : g ∉ G) :
    k * Dat.sz α + Dat.sz α ≤ arr.size ∧ ∀ w2 : World, w2.heap[g]? = some (.cells (Qge arr (k * Dat.sz α) (Dat.sz α) ds) T (0, 0)) → (∀ b ∈ (Fs.set k G).flatten, w2.heap[b]? = w.heap[b]?) → SlO w2 (.slice (some ⟨g, 0, none⟩) (xs.set k y).length cap) (xs.set k y) (g :: (Fs.set k G).flatten) := by
  have hle : k * Dat.sz α + Dat.sz α ≤ arr.size := by
    have h1 : (k + 1) * Dat.sz α ≤ cap * Dat.sz α := Nat.mul_le_mul_right _ (by omega)
    rw [Nat.succ_mul] at h1
    omega
  have hd : ds.length = Dat.sz α := Dat.rd_len (Dat.own_rd (B := fun _ => True) hy fun _ _ => trivial)
  refine ⟨hle, fun w2 h2 hs => Qfy.2 (.inr ⟨g, cap, _, T, Fs.set k G, rfl, h2, by rw [List.length_set]; exact hcap, hm, by rw [Q52 hd hle]; exact hsz, rfl, by rw [List.length_set, List.length_set, hF], fun i x hi => ?_⟩)⟩
  rw [Q96 hd hle]
  rw [List.getElem?_set] at hi
  by_cases e : k = i
  · subst e
    rw [if_pos rfl, if_pos hk] at hi
    cases hi
    refine ⟨G, by rw [List.getElem?_set_self (by omega)], ?_⟩
    rw [if_pos rfl]
    exact Dat.own_same hy fun b hb => hs b (List.mem_flatten.2 ⟨G, List.mem_of_getElem? (List.getElem?_set_self (by omega)), hb⟩)
  · rw [if_neg e] at hi
    obtain ⟨H, hH, ho⟩ := he i x hi
    refine ⟨H, by rw [List.getElem?_set_ne e]; exact hH, ?_⟩
    rw [if_neg (fun h => e h.symm)]
    exact Dat.own_same ho fun b hb => hs b (List.mem_flatten.2 ⟨H, List.mem_of_getElem? (by rw [List.getElem?_set_ne e]; exact hH), hb⟩)
theorem Qw7 {n : Nat} : ∀ {ns : List Nat}, n ∈ ns → memN n ns = true
  | x :: r, h => by
    simp only [memN]
    cases hb : Nat.beq n x with
    | true => rfl
    | false =>
      rcases List.mem_cons.1 h with rfl | h
      · simp at hb
      · exact Qw7 h
theorem Qj2 {ns : List Nat} {n : Nat} {e : En} : ∀ {E : List (Nat × En)}, (n, e) ∈ E → memN n ns = true → (n, e) ∈ Qkm ns E
  | (r, x) :: E, h, hm => by
    simp only [Qkm]
    rcases List.mem_cons.1 h with h | h
    · cases h
      rw [hm]
      exact List.mem_cons_self
    · cases memN r ns with
      | true => exact List.mem_cons_of_mem _ (Qj2 h hm)
      | false => exact Qj2 h hm
theorem Qnv {θ : List Loc} {E : List (Nat × En)} {ns : List Nat} {n b : Nat} (hn : n ∈ ns) (ho : ownN E n) (hb : b ∈ locF θ n) : b ∈ (Qkm ns E).flatMap (fun e => (e.2.ck θ e.1).F) := by
  obtain ⟨⟨α, d, xs⟩, hp⟩ := ho
  exact List.mem_flatMap.2 ⟨_, Qj2 (Qdv (Qix hp)) (Qw7 hn), hb⟩
section
variable {c : Cx} {σ : St} {all : Array Oper} {ty : TypeId} {pos : String} {after : Array Edge} {d : Nat}
def Qcq {α : Type} (σ : St) (r : Nat) (dα : Dat α) (zs : List α) (ns : List Nat) : St := ⟨σ.n, σ.m + 1, rnR r σ.m σ.ρ, rnE r σ.m ((σ.m, .own α dα zs) :: Qfn (r :: ns) σ.E)⟩
theorem OpS.stE {α : Type} {dα : Dat α} [s : @Str α dα] {t : Nat} {x v : Operand} {r off : Nat} {xs : List α} (k : Nat) (y : α) {vv : V} {cs : List V} (hx : ev σ.ρ x = some (.pt r off)) (hoff : off = k * Dat.sz α) (hr : lkE σ.E r = some (.own α dα xs)) (hk : k < xs.length)
    (hv : ev σ.ρ v = some vv) (hvc : vv.cells = some cs) (ht : (c.ti t).cells = some (Dat.sz α)) (hg : Dat.good y) (hf : FkO σ.E y s.fk cs) (h1 : oneL cs = true) (hn : (r :: V.names.namesL cs).Nodup) :
    OpS c σ all ⟨none, .store t x v, ty, pos, after, none⟩ (Qcq σ r dα (xs.set k y) (V.names.namesL cs)) :=
  OpS.of fun θ a w h K Q hK => by
    subst hoff
    obtain ⟨S, w1, hh⟩ := h.heap
    obtain ⟨l, hl, hown⟩ := hh.own hr
    obtain ⟨us, hus, hcells⟩ := V.cells_ok hvc (h.env.con hv)
    have hy : Dat.own w us y ((V.names.namesL cs).flatMap (locF θ)) := s.omk (hh.fkO hus hf (s.gd hg))
    have hnames : ∀ n ∈ r :: V.names.namesL cs, ownN σ.E n := by
      intro n hn
      rcases List.mem_cons.1 hn with rfl | hn
      · exact ⟨⟨α, dα, xs⟩, by unfold Qlr; rw [hr]; rfl⟩
      · exact Qie hf n hn
    obtain ⟨hnd, _⟩ := hh.nodup hn hnames
    rw [List.flatMap_cons, Qaf hl] at hnd
    obtain ⟨nd1, nd2, nd3⟩ := List.nodup_append.1 hnd
    rcases hown with ⟨e1, e2, _⟩ | ⟨g, cap, arr, T, Fs, e1, e2, e3, e4, e5, e6, e7, e8⟩
    · rw [e2] at hk; exact absurd hk (by simp)
    obtain ⟨A, cap', F⟩ := l
    injection e1 with e1a e1b e1c
    simp only at e1a e1c e6 nd1 nd3
    subst e1a
    subst e1c
    subst e6
    have hgF : g ∉ Fs.flatten := (List.nodup_cons.1 nd1).1
    have hgG : g ∉ (V.names.namesL cs).flatMap (locF θ) := fun hb => nd3 g (by simp) g hb rfl
    obtain ⟨hle, hput⟩ := SlO.put (T := T) e3 e4 e5 e7 e8 hk hy hgF hgG
    obtain ⟨ndF, memF⟩ := Qj8 (k := k) (List.nodup_cons.1 nd1).2 nd2 fun b hb hbf => nd3 b (List.mem_cons_of_mem _ hbf) b hb rfl
    have hd : us.length = Dat.sz α := Dat.rd_len (Dat.own_rd (B := fun _ => True) hy fun _ _ => trivial)
    have hxe := h.env.con hx
    simp only [V.con, hl, Option.some.injEq] at hxe
    have e : (⟨g, 0, none⟩ : Addr).add (k * Dat.sz α) = ⟨g, k * Dat.sz α, none⟩ := by unfold Addr.add; split <;> simp_all
    have hst := run_storeCells_at c.P g (k * Dat.sz α) T us 0 arr w e2 (by omega) (List.all_eq_true.1 (Qpg h1 hus))
    have hsz : ∀ w, (sizeOf t).run c.P w = .ok (Dat.sz α) w := fun w => TI.cells_size (c.tiok t) ht w
    have hrun : (execOp a.eval ⟨none, .store t x v, ty, pos, after, none⟩).run c.P w = .ok .skip (w.setRow g (Qge arr (k * Dat.sz α) (Dat.sz α) us)) := by
      have hs : (a.eval v).cells.size = Dat.sz α := by rw [hcells]; simp; omega
      simp only [execOp, ← hxe, Instr.storeAt, Instr.sureAddr, storeVar, Sem.run_bind, Sem.run_pure, Result.andThen_ok, hsz, hs, ne_eq, not_true_eq_false, if_false, e]
      rw [hcells, show us.toArray.toList = us from rfl, hst]
      simp only [Nat.add_zero, hd, Result.andThen_ok, Qge]
    unfold Oper.wp
    rw [hrun]
    let l' : Loc := ⟨some ⟨g, 0, none⟩, cap', g :: (Fs.set k ((V.names.namesL cs).flatMap (locF θ))).flatten⟩
    have hg' : (θ ++ [l'])[σ.m]? = some l' := by rw [← h.len]; exact Qec
    have hgr := Qdl (θ' := [l']) hl
    have hFt : ∀ n ∈ r :: V.names.namesL cs, ∀ b ∈ locF θ n, b ∈ (Qkm (r :: V.names.namesL cs) σ.E).flatMap (fun e => (e.2.ck (θ ++ [l']) e.1).F) := fun n hn b hb => Qnv hn (hnames n hn) (by
      obtain ⟨⟨α', d', xs'⟩, hp⟩ := hnames n hn
      obtain ⟨l2, hl2, _⟩ := hh.own (Qix hp)
      rw [Qaf (Qdl hl2)]
      rwa [Qaf hl2] at hb)
    have hFr : ∀ b ∈ g :: Fs.flatten, b ∈ (Qkm (r :: V.names.namesL cs) σ.E).flatMap (fun e => (e.2.ck (θ ++ [l']) e.1).F) := fun b hb => hFt r (by simp) b (by rw [Qaf hl]; exact hb)
    have hFG : ∀ b ∈ (V.names.namesL cs).flatMap (locF θ), b ∈ (Qkm (r :: V.names.namesL cs) σ.E).flatMap (fun e => (e.2.ck (θ ++ [l']) e.1).F) := fun b hb => by
      obtain ⟨n, hn, hb⟩ := List.mem_flatMap.1 hb
      exact hFt n (List.mem_cons_of_mem _ hn) b hb
    have hother : ∀ b, b ≠ g → (w.setRow g (Qge arr (k * Dat.sz α) (Dat.sz α) us)).heap[b]? = w.heap[b]? := fun b hb => setRow_other w g b _ hb
    have hlt : ∀ b ∈ l'.F, b < w.heap.size := by
      intro b hb
      rcases List.mem_cons.1 hb with rfl | hb
      · exact (Array.getElem?_eq_some_iff.1 e2).1
      · rcases memF b hb with hb | hb
        · obtain ⟨G, hG, hbG⟩ := List.mem_flatten.1 hb
          obtain ⟨i, hi⟩ := List.getElem?_of_mem hG
          have hil : i < xs.length := by rw [← e7]; exact (List.getElem?_eq_some_iff.1 hi).1
          obtain ⟨G', hG', ho⟩ := e8 i _ (List.getElem?_eq_getElem hil)
          rw [hi] at hG'
          cases hG'
          exact Dat.own_lt ho b hbG
        · exact Dat.own_lt hy b hb
    have hfuse := (hh.ext (θ' := [l'])).fuse (r :: V.names.namesL cs) (p := (σ.m, En.own α dα (xs.set k y))) (w' := w.setRow g (Qge arr (k * Dat.sz α) (Dat.sz α) us)) rfl rfl rfl (by simp)
      (fun b _ hb => hother b fun e => hb (hFr b (by simp [e]))) ?_ ?_ ?_ trivial
    · refine hK [l'] _ _ ⟨by rw [List.length_append, h.len]; rfl, ?_, S, w1, hfuse.rn hgr hg' rfl rfl⟩
      exact ((h.env.ext (θ' := [l'])).rn hgr hg' rfl rfl)
    · intro w2 hw2
      have hF' : ((En.own α dα (xs.set k y)).ck (θ ++ [l']) σ.m).F = l'.F := Qaf hg'
      refine ⟨l', hg', hput w2 ?_ fun b hb => ?_⟩
      · exact (hw2 g (by rw [hF']; simp [l'])).trans (setRow_heap w g arr _ T _ e2)
      · refine (hw2 b (by rw [hF']; exact List.mem_cons_of_mem _ hb)).trans (hother b ?_)
        rintro rfl
        rcases memF b hb with h | h
        · exact hgF h
        · exact hgG h
    · intro b hb
      have hb' : b ∈ locF (θ ++ [l']) σ.m := hb
      rw [Qaf hg'] at hb'
      refine ⟨.inl ?_, by rw [size_setRow]; exact hlt b hb'⟩
      rcases List.mem_cons.1 hb' with rfl | hb'
      · exact hFr b (by simp)
      · rcases memF b hb' with h | h
        · exact hFr b (List.mem_cons_of_mem _ h)
        · exact hFG b h
    · show (locF _ σ.m).Nodup
      rw [Qaf hg']
      refine List.nodup_cons.2 ⟨fun hb => ?_, ndF⟩
      rcases memF g hb with h | h
      · exact hgF h
      · exact hgG h
end
end
section
open Go.RowKit
theorem Cx.tstr (c : Cx) {t : Nat} (ht : c.ti t = .str) : c.P.underlying t = some .string := by
  have hti := c.tiok t
  rw [ht] at hti
  simp only [TI.chk, Bool.and_eq_true] at hti
  have := hti.2
  split at this
  · assumption
  · cases this
theorem Cx.tint (c : Cx) {t : Nat} {k : IntKind} (ht : c.ti t = .int k) : c.P.underlying t = some (.int k) := by
  have hti := c.tiok t
  rw [ht] at hti
  simp only [TI.chk, Bool.and_eq_true] at hti
  have := hti.2
  split at this
  · rename_i k' hk; rw [of_decide_eq_true this] at hk; exact hk
  · cases this
theorem Cx.tsl (c : Cx) {t e sz b : Nat} (ht : c.ti t = .sl e sz b) : Qdj c.P t e sz b = true := by
  have hti := c.tiok t
  rw [ht] at hti
  simp only [TI.chk, Bool.and_eq_true] at hti
  exact hti.2
def Yo0 (s : ByteArray) : Prop := ∀ k, (Qak s k).toNat < 128
theorem Q5p {s : ByteArray} {k : Nat} (h : k < s.size) : s[k] = Qak s k := by
  unfold Qak
  rw [Array.getD_eq_getD_getElem?, Array.getElem?_eq_getElem (by exact h)]
  rfl
section
variable {c : Cx} {σ : St} {all : Array Oper} {ty : TypeId} {pos : String} {after : Array Edge} {d : Nat}
theorem Ybe {P : Program} (w : World) (b : Nat) (s : ByteArray) (p : Nat) (ty : TypeId) (hb : w.heap[b]? = some (.stringIter s p)) (h : p < s.size) (ha : (Qak s p).toNat < 128) :
    (Instr.next (.pointer (some ⟨b, 0, none⟩)) true ty).run P w = .ok (.tuple #[.bool true, .int .i64 p, .int .i32 (Qak s p).toNat]) { w with heap := w.heap.setIfInBounds b (.stringIter s (p + 1)) } := by
  have hd := decode_ascii s p h (by rw [Q5p h]; exact ha)
  rw [Q5p h] at hd
  simp [Instr.next, getObj, setObj, Sem.run, hb, Result.andThen, h, hd, goInt]
theorem Q50 {P : Program} (w : World) (b : Nat) (s : ByteArray) (p : Nat) (ty : TypeId) (hb : w.heap[b]? = some (.stringIter s p)) (h : ¬ p < s.size) :
    (Instr.next (.pointer (some ⟨b, 0, none⟩)) true ty).run P w = .ok (.tuple #[.bool false]) w := by
  simp [Instr.next, getObj, Sem.run, hb, Result.andThen, h]
theorem Run.next {res : List Re} {k : List It} {rest : List Oper} {x : Operand} {r : Nat} {s : ByteArray} {p : Nat} (hx : ev σ.ρ x = some (.pt r 0)) (he : lkE σ.E r = some (.itr s p)) (ha : Yo0 s) (hd : Nat.blt d σ.n = true)
    (h1 : p < s.size → Run c res ⟨σ.n, σ.m, (d, .tu [.v (.bool true), .v (.int .i64 p), .v (.int .i32 (Qak s p).toNat)]) :: σ.ρ, putE r (r, .itr s (p + 1)) σ.E⟩ (.ops rest all :: k))
    (h2 : ¬ p < s.size → Run c res ⟨σ.n, σ.m, (d, .tu [.v (.bool false)]) :: σ.ρ, σ.E⟩ (.ops rest all :: k)) :
    Run c res σ (.ops (⟨some d, .next x true, ty, pos, after, none⟩ :: rest) all :: k) := by
  intro θ a w hR
  rw [Qms]
  refine wpList_step fun K hK => ?_
  rw [if_pos (by simp [Region.wanted])]
  obtain ⟨S, w1, hh⟩ := hR.heap
  obtain ⟨l, b, hl, hA, hF, hb⟩ := (hh.sh.ok _ (List.mem_map.2 ⟨_, Qdv he, rfl⟩)).here
  simp only at hl
  have hc := hR.env.con hx
  obtain ⟨l', A', hl', hA', hv⟩ := Qn3 hc
  rw [hl] at hl'
  cases hl'
  rw [hA] at hA'
  cases hA'
  rw [Addr.add_zero'] at hv
  unfold Oper.wp
  by_cases hp : p < s.size
  · have hr : (execOp a.eval ⟨some d, .next x true, ty, pos, after, none⟩).run c.P w = .ok (.value (.tuple #[.bool true, .int .i64 p, .int .i32 (Qak s p).toNat])) { w with heap := w.heap.setIfInBounds b (.stringIter s (p + 1)) } := by
      have := Ybe (P := c.P) w b s p ty hb hp (ha p)
      simp only [execOp, hv, this, Sem.run_bind, Result.andThen_ok, Sem.run_pure]
    rw [hr, Oper.upon_value]
    have hbl : b < w.heap.size := (Array.getElem?_eq_some_iff.1 hb).1
    refine hK _ _ (h1 hp θ _ _ ⟨hR.len, hR.env.put hd rfl, S, w1, ?_⟩)
    have hFr : locF θ r = [b] := by rw [Qaf hl, hF]
    refine hh.turn he rfl rfl rfl (by simp) ?_ ?_ ?_ ?_ trivial
    · intro b' hb' hnb
      have hne : b' ≠ b := by
        rintro rfl
        apply hnb
        show b' ∈ locF θ r
        rw [hFr]
        simp
      show (w.heap.setIfInBounds b _)[b']? = _
      rw [Array.getElem?_setIfInBounds_ne (Ne.symm hne)]
    · intro w2 hw2
      refine ⟨l, b, hl, hA, hF, ?_⟩
      rw [hw2 b (by show b ∈ locF θ r; rw [hFr]; simp)]
      show (w.heap.setIfInBounds b _)[b]? = _
      rw [Array.getElem?_setIfInBounds_self_of_lt hbl]
    · intro b' hb'
      refine ⟨.inl hb', ?_⟩
      have hb2 : b' ∈ locF θ r := hb'
      rw [hFr, List.mem_singleton] at hb2
      subst hb2
      simpa using hbl
    · show (locF θ r).Nodup
      rw [hFr]
      simp
  · have hr : (execOp a.eval ⟨some d, .next x true, ty, pos, after, none⟩).run c.P w = .ok (.value (.tuple #[.bool false])) w := by
      have := Q50 (P := c.P) w b s p ty hb hp
      simp only [execOp, hv, this, Sem.run_bind, Result.andThen_ok, Sem.run_pure]
    rw [hr, Oper.upon_value]
    exact hK _ _ (h2 hp θ _ _ ⟨hR.len, hR.env.put hd rfl, S, w1, hh⟩)
end
def bstr (xs : List UInt8) : ByteArray := ⟨xs.toArray⟩
def Qax (s : ByteArray) : List UInt8 := s.data.toList
section
variable {c : Cx} {σ : St} {all : Array Oper} {ty : TypeId} {pos : String} {after : Array Edge} {d : Nat}
theorem OpS.toStr {t u e by' : Nat} {x : Operand} {v : V} (xs : List UInt8) (hx : ev σ.ρ x = some v) (hs : SlOk σ.E UInt8 instDatUInt8 xs v) (ht : c.ti t = .sl e 1 by') (he : c.ti e = .int .u8) (hu : c.ti u = .str) (hd : Nat.blt d σ.n = true) :
    OpS c σ all ⟨some d, .convert t u x, ty, pos, after, none⟩ (put d (.v (.string (bstr xs))) σ) :=
  OpS.of fun θ a w h K Q hK => by
    obtain ⟨S, w1, hh⟩ := h.heap
    have hc := h.env.con hx
    have hr := hh.slOk hc hs
    obtain ⟨A, cap, hA, h1, h2, h3⟩ := hr
    have hts := (Qbb (c.tsl ht)).1
    have hte := c.tint he
    have htu := c.tstr hu
    have hrun : (execOp a.eval ⟨some d, .convert t u x, ty, pos, after, none⟩).run c.P w = .ok (.value (.string (bstr xs))) w := by
      by_cases hn : xs = []
      · subst hn
        have := run_convert_bytes_string (P := c.P) w t u e A 0 cap hts hte htu
        have h0 : (Conv.bytesToString (.slice A 0 cap)).run c.P w = .ok (.string (bstr [])) w := by
          cases A with
          | none => simp [Conv.bytesToString]; rfl
          | some A => exact run_bytesToString w A 0 cap [] (run_loadCells_list (P := c.P) w A [] (fun j v hj => by simp at hj))
        simp only [execOp, hA, this, List.length_nil, h0, Sem.run_bind, Result.andThen_ok, Sem.run_pure]
      · obtain ⟨ad, rfl, hb, hcs⟩ := h3 hn
        have := run_convert_bytes_back (P := c.P) w t u e ad cap xs hts hte htu (fun j hj => by
          obtain ⟨cs, hrd, hcell⟩ := hcs j xs[j] (List.getElem?_eq_getElem hj)
          obtain ⟨v, r, rfl, hv, rfl⟩ := (inferInstance : Str UInt8).op hrd
          have := hcell 0 v rfl
          have e1 : j * Dat.sz UInt8 = j := Nat.mul_one j
          rw [e1, Addr.add_zero'] at this
          rw [this, hv]
          rfl)
        simp only [execOp, hA, this, Sem.run_bind, Result.andThen_ok, Sem.run_pure]
        rfl
    unfold Oper.wp
    rw [hrun, Oper.upon_value]
    exact hK [] _ _ (h.put hd rfl).app0
theorem RH.adopt {θ : List Loc} {E : List (Nat × En)} {S : Nat → Prop} {w1 w w' : World} (h : RH c θ E S w1 w) (hb : Below w.heap.size w w') (hE : ∀ e ∈ E, (e.2.ck θ e.1).ok w) : RH c θ E (fun b => S b ∨ (w.heap.size ≤ b ∧ b < w'.heap.size)) w' w' := by
  have hs := h.same hb
  have hk : Keep S w1 w' := hs.sh.keep
  have hge : ∀ c ∈ E.map (fun e => e.2.ck θ e.1), ∀ b ∈ c.F, b < w.heap.size := fun d hd b hbd => by
    obtain ⟨e, he, rfl⟩ := List.mem_map.1 hd
    have hp := (hE e he).here
    obtain ⟨r, e⟩ := e
    cases e with
    | var cs T =>
      obtain ⟨l, b', ccs, h1, h2, h3, h4, h5⟩ := hp
      have hbd' : b ∈ locF θ r := hbd
      rw [Qaf h1, h3, List.mem_singleton] at hbd'
      subst hbd'
      exact (Array.getElem?_eq_some_iff.1 h5).1
    | lit cs T n =>
      obtain ⟨l, b', ccs, ⟨h1, _⟩, h2, h3, h4, h5⟩ := hp
      have hbd' : b ∈ locF θ r := hbd
      rw [Qaf h1, h3, List.mem_singleton] at hbd'
      subst hbd'
      exact (Array.getElem?_eq_some_iff.1 h5).1
    | own α d xs =>
      obtain ⟨l, h1, h2⟩ := hp
      have hbd' : b ∈ locF θ r := hbd
      rw [Qaf h1] at hbd'
      exact h2.lt b hbd'
    | any P =>
      obtain ⟨l, h1, h2, _⟩ := hp
      have hbd' : b ∈ locF θ r := hbd
      rw [Qaf h1] at hbd'
      exact h2 b hbd'
    | itr s p =>
      obtain ⟨l, b', h1, h2, h3, h5⟩ := hp
      have hbd' : b ∈ locF θ r := hbd
      rw [Qaf h1, h3, List.mem_singleton] at hbd'
      subst hbd'
      exact (Array.getElem?_eq_some_iff.1 h5).1
    | ros => cases hbd
    | roc => cases hbd
    | pin => cases hbd
  refine ⟨h.k0.trans (hk.mono h.sub), fun b hb => .inl (h.sub b hb), ⟨Keep.refl _ _, ?_, hs.sh.ok, ?_, hs.sh.apart⟩, fun x hx => ?_⟩
  · rintro b (hb | hb)
    · exact hs.lt b hb
    · exact hb.2
  · intro d hd b hbd
    have h1 := hs.sh.ge d hd b hbd
    have h2 := hge d hd b hbd
    refine ⟨?_, h1.2⟩
    rintro (hb | hb)
    · exact h1.1 hb
    · omega
  · have := h.ok x hx
    obtain ⟨r', e'⟩ := x
    cases e' with
    | ros β d' ys =>
      obtain ⟨l', h1, h2⟩ := this
      exact ⟨l', h1, (h2.below hk).mono fun b hb => .inl hb⟩
    | roc cs =>
      obtain ⟨l', A, ccs, h1, h2, h3, h4, h5⟩ := this
      exact ⟨l', A, ccs, h1, h2, h3, .inl h4, h5.keep hk h4⟩
    | var => trivial
    | own => trivial
    | lit => trivial
    | itr => trivial
    | any => trivial
    | pin => exact this
def Qed {α : Type} (σ : St) (d : Nat) (dα : Dat α) (ys : List α) : St := ⟨σ.n, σ.m + 1, (d, .sl σ.m ys.length) :: σ.ρ, (σ.m, .ros α dα ys) :: σ.E⟩
theorem R.ros {θ : List Loc} {a : Act} {w : World} (h : R c θ σ a w) {S : Nat → Prop} {w1 w' : World} (hh : RH c θ σ.E S w1 w') {α : Type} {dα : Dat α} {ys : List α} {A : Option Addr} {cap : Nat} (hr : SlR S w1 (.slice A ys.length cap) ys) (hd : Nat.blt d σ.n = true) :
    R c (θ ++ [⟨A, cap, []⟩]) (Qed σ d dα ys) (a.put (some d) (.slice A ys.length cap)) w' := by
  have hg : (θ ++ [⟨A, cap, []⟩])[σ.m]? = some (⟨A, cap, []⟩ : Loc) := by rw [← h.len]; exact Qec
  refine ⟨by rw [List.length_append, h.len]; rfl, (h.env.ext).put hd (by simp only [V.con, hg]), S, w1, ?_⟩
  exact (hh.ext (θ' := [⟨A, cap, []⟩])).fact rfl ⟨_, hg, hr⟩
theorem OpS.toBytes {t u e by' : Nat} {x : Operand} {s : ByteArray} (hx : ev σ.ρ x = some (.v (.string s))) (hs : s.size ≤ maxLen) (ht : c.ti u = .sl e 1 by') (he : c.ti e = .int .u8) (hu : c.ti t = .str) (hd : Nat.blt d σ.n = true) :
    OpS c σ all ⟨some d, .convert t u x, ty, pos, after, none⟩ (Qed σ d instDatUInt8 (Qax s)) :=
  OpS.of fun θ a w h K Q hK => by
    obtain ⟨S, w1, hh⟩ := h.heap
    have hts := (Qbb (c.tsl ht)).1
    have hte := c.tint he
    have htu := c.tstr hu
    have h0 := run_bytes_of_string (P := c.P) w t u e s htu hts hte
    have hrun : (execOp a.eval ⟨some d, .convert t u x, ty, pos, after, none⟩).run c.P w = .ok (.value (.slice (some ⟨w.heap.size, 0, none⟩) s.size (grownCap w s.size 0 e))) (w.drew.alloc (.cells (bytesRow s (grownCap w s.size 0 e)) e ((bytesRow s (grownCap w s.size 0 e)).size, (bytesRow s (grownCap w s.size 0 e)).size + 1))) := by
      simp only [execOp, h.env.env.eval (h.env.isv hx), h0, Sem.run_bind, Result.andThen_ok, Sem.run_pure]
    unfold Oper.wp
    rw [hrun, Oper.upon_value]
    have hlen : (Qax s).length = s.size := by unfold Qax; rw [Array.length_toList]; rfl
    have hb : Below w.heap.size w (w.drew.alloc (.cells (bytesRow s (grownCap w s.size 0 e)) e ((bytesRow s (grownCap w s.size 0 e)).size, (bytesRow s (grownCap w s.size 0 e)).size + 1))) := by
      refine ⟨rfl, rfl, rfl, by show w.heap.size ≤ (w.heap.push _).size; rw [Array.size_push]; omega, fun b hb => ?_⟩
      show (w.heap.push _)[b]? = _
      rw [Array.getElem?_push, if_neg (by omega)]
    have ha := hh.adopt hb fun e he => hh.sh.ok _ (List.mem_map.2 ⟨e, he, rfl⟩)
    have hcap : s.size ≤ grownCap w s.size 0 e := grownCap_ge w s.size 0 e
    have := h.ros ha (α := UInt8) (dα := instDatUInt8) (ys := Qax s) (A := some ⟨w.heap.size, 0, none⟩) (cap := grownCap w s.size 0 e) (d := d) ⟨_, _, rfl, by omega, grownCap_le_maxLen w _ _ _ hs, fun hn => ⟨_, rfl, .inr ⟨Nat.le_refl _, by show w.heap.size < (w.heap.push _).size; rw [Array.size_push]; omega⟩, fun i x hi => ?_⟩⟩ hd
    · rw [hlen] at this
      exact hK _ _ _ this
    · refine ⟨[.int .u8 x.toNat], (inferInstance : Str UInt8).cl ⟨_, _, rfl, rfl, rfl⟩, ?_⟩
      have hi2 := List.getElem?_eq_some_iff.1 hi
      obtain ⟨hil, hix⟩ := hi2
      intro j v hj
      cases j with
      | succ j => simp at hj
      | zero =>
        simp only [List.getElem?_cons_zero, Option.some.injEq] at hj
        subst hj
        have e1 : i * Dat.sz UInt8 = i := Nat.mul_one i
        rw [e1, Addr.add_zero', Qmd]
        have hil' : i < s.data.size := by rw [hlen] at hil; exact hil
        refine (World.cell?_alloc_mark w.drew _ e _ i).trans ?_
        rw [bytesRow_at s _ i hil', ← hix]
        simp [Qax]
end
section
variable {c : Cx} {σ : St} {all : Array Oper} {ty : TypeId} {pos : String} {after : Array Edge} {d : Nat}
def cutS (s : ByteArray) (l h : Nat) : ByteArray := s.extract l h
theorem Yan {s : ByteArray} {l h : Nat} {m : Nat} (hs : s.size ≤ m) : (cutS s l h).size ≤ m := by
  unfold cutS
  rw [ByteArray.size_extract]
  omega
def bnd (ρ : List (Nat × V)) (dflt : Nat) (v : Nat) : Option Operand → Prop
  | none => v = dflt
  | some x => ∃ i : Int, ev ρ x = some (.v (.int .i64 i)) ∧ i = v
theorem OpS.cut {t : Nat} {x : Operand} {lo hi : Option Operand} {s : ByteArray} (l h : Nat) (hx : ev σ.ρ x = some (.v (.string s))) (hl : bnd σ.ρ 0 l lo) (hh : bnd σ.ρ s.size h hi) (h1 : l ≤ h) (h2 : h ≤ s.size) (ht : c.ti t = .str) (hd : Nat.blt d σ.n = true) :
    OpS c σ all ⟨some d, .slice t x lo hi none, ty, pos, after, none⟩ (put d (.v (.string (cutS s l h))) σ) :=
  OpS.of fun θ a w hR K Q hK => by
    have hu := c.tstr ht
    have hrun : (execOp a.eval ⟨some d, .slice t x lo hi none, ty, pos, after, none⟩).run c.P w = .ok (.value (.string (cutS s l h))) w := by
      have ex := hR.env.env.eval (hR.env.isv hx)
      cases lo with
      | none =>
        cases hi with
        | none =>
          cases hl; cases hh
          simp [execOp, ex, Instr.sliceAt, Instr.slice, run_underlying hu, Instr.sliceBounds, cutS]
        | some y =>
          cases hl
          obtain ⟨i, hy, rfl⟩ := hh
          simp [execOp, ex, hR.env.env.eval (hR.env.isv hy), Instr.sliceAt, Instr.slice, run_underlying hu, Instr.sliceBounds, Instr.sliceBound, asIntOf, h2, cutS]
      | some z =>
        obtain ⟨j, hz, rfl⟩ := hl
        cases hi with
        | none =>
          cases hh
          simp [execOp, ex, hR.env.env.eval (hR.env.isv hz), Instr.sliceAt, Instr.slice, run_underlying hu, Instr.sliceBounds, Instr.sliceBound, asIntOf, h1, cutS]
        | some y =>
          obtain ⟨i, hy, rfl⟩ := hh
          simp [execOp, ex, hR.env.env.eval (hR.env.isv hz), hR.env.env.eval (hR.env.isv hy), Instr.sliceAt, Instr.slice, run_underlying hu, Instr.sliceBounds, Instr.sliceBound, asIntOf, h1, h2, cutS]
    unfold Oper.wp
    rw [hrun, Oper.upon_value]
    exact hK [] _ _ (hR.put hd rfl).app0
def cutL {α : Type} (xs : List α) (l h : Nat) : List α := (xs.take h).drop l
theorem OpS.part {α : Type} {dα : Dat α} {t e by' r len : Nat} {x : Operand} {lo hi : Option Operand} {xs : List α} (l h : Nat) (hx : ev σ.ρ x = some (.sl r len)) (hp : lkE σ.E r = some (.ros α dα xs)) (hlen : len = xs.length) (hl : bnd σ.ρ 0 l lo) (hh : bnd σ.ρ xs.length h hi) (h1 : l ≤ h) (h2 : h ≤ xs.length) (ht : c.ti t = .sl e (Dat.sz α) by') (hd : Nat.blt d σ.n = true) :
    OpS c σ all ⟨some d, .slice t x lo hi none, ty, pos, after, none⟩ (Qed σ d dα (cutL xs l h)) :=
  OpS.of fun θ a w hR K Q hK => by
    subst hlen
    obtain ⟨S, w1, hhp⟩ := hR.heap
    obtain ⟨lc, hlc, hr⟩ := hhp.ok _ (Qdv hp)
    simp only at hlc
    have hc := hR.env.con hx
    simp only [V.con, hlc, Option.some.injEq] at hc
    have hu := (Qbb (c.tsl ht)).1
    obtain ⟨inf, hin, hsz, _⟩ := (Qbb (c.tsl ht)).2
    have hcap := (Q65 hr).1
    have hr1 := hr.take h
    have e1 : (xs.take h).length = h := by rw [List.length_take]; omega
    have hr2 := hr1.drop (k := l) (by omega)
    have e2 : ((xs.take h).drop l).length = h - l := by rw [List.length_drop, e1]
    have hA0 : lc.A.map (fun b => b.add 0) = lc.A := by cases lc.A <;> simp [Addr.add]
    have hrun : (execOp a.eval ⟨some d, .slice t x lo hi none, ty, pos, after, none⟩).run c.P w = .ok (.value (.slice (if lc.cap = l then lc.A else lc.A.map (·.add (l * Dat.sz α))) (h - l) (lc.cap - l))) w := by
      cases lo with
      | none =>
        cases hi with
        | none =>
          cases hl; cases hh
          simp [execOp, ← hc, Instr.sliceAt, Instr.slice, run_underlying hu, Instr.sliceBounds, sizeOf, typeInfo, hin, hA0]
        | some y =>
          cases hl
          obtain ⟨i, hy, rfl⟩ := hh
          have hle : h ≤ lc.cap := by omega
          simp [execOp, ← hc, hR.env.env.eval (hR.env.isv hy), Instr.sliceAt, Instr.slice, run_underlying hu, Instr.sliceBounds, Instr.sliceBound, asIntOf, hle, sizeOf, typeInfo, hin, hA0]
      | some z =>
        obtain ⟨j, hz, rfl⟩ := hl
        cases hi with
        | none =>
          cases hh
          simp [execOp, ← hc, hR.env.env.eval (hR.env.isv hz), Instr.sliceAt, Instr.slice, run_underlying hu, Instr.sliceBounds, Instr.sliceBound, asIntOf, h1, sizeOf, typeInfo, hin, hsz]
        | some y =>
          obtain ⟨i, hy, rfl⟩ := hh
          have hle : h ≤ lc.cap := by omega
          simp [execOp, ← hc, hR.env.env.eval (hR.env.isv hz), hR.env.env.eval (hR.env.isv hy), Instr.sliceAt, Instr.slice, run_underlying hu, Instr.sliceBounds, Instr.sliceBound, asIntOf, h1, hle, sizeOf, typeInfo, hin, hsz]
    unfold Oper.wp
    rw [hrun, Oper.upon_value]
    have := hR.ros hhp (dα := dα) (ys := cutL xs l h) hr2 hd
    unfold cutL at this
    rw [e2] at this
    exact hK _ _ _ this
end
theorem CT.flat {P : Program} {G : World → Prop} {f : FuncId} {args : List Arg} {v : Value} (h : ∀ w vs, G w → Q7f w vs args → Calls P f vs.toArray w (fun e w' => e = .returned v ∧ Below w.heap.size w w')) : CT P G f args [.c v] :=
  fun w vs hG hA => (h w vs hG hA).mono fun e w' hr => ⟨v, hr.1, Keep.of_below hr.2 fun _ h => h, [v], [], rfl, ⟨[], [], rfl, ⟨rfl, rfl⟩, rfl⟩, List.nodup_nil, fun b hb => by cases hb⟩
theorem CT.close {P : Program} {G : World → Prop} {f : FuncId} {args : List Arg} {v : Value} (h : CT P G f args [.c v]) {w : World} {vs : List Value} (hG : G w) (hA : Q7f w vs args) : Calls P f vs.toArray w (fun e w' => e = .returned v ∧ Below w.heap.size w w') :=
  (h w vs hG hA).mono fun e w' hr => by
    obtain ⟨u, rfl, hk, us, F, rfl, hl, hn, hF⟩ := hr
    cases us with
    | nil => exact hl.elim
    | cons u r =>
      obtain ⟨A, B, rfl, ⟨rfl, rfl⟩, hl⟩ := hl
      cases r with
      | nil => exact ⟨rfl, hk.below⟩
      | cons => exact hl.elim
end
section
open Go.RowKit
section
variable {c : Cx} {σ : St} {all : Array Oper} {ty : TypeId} {pos : String} {after : Array Edge} {d : Nat}
theorem OpS.valG {op : Op} {u : Value} {j : Nat} {want B : Bool} (hB : gB σ.ρ all j want = some B) (hy : B = true → ∀ θ a w, R c θ σ a w → Qbw c.P a w op ty u) (hd : Nat.blt d σ.n = true) : OpS c σ all ⟨some d, op, ty, pos, after, some (j, want)⟩ (put d (.gd B (.v u)) σ) := by
  intro θ a w h K Q hK
  have hw := Yhh h (o := ⟨some d, op, ty, pos, after, some (j, want)⟩) rfl hB
  rw [hw]
  cases B with
  | true =>
    rw [if_pos rfl]
    unfold Oper.wp
    rw [hy rfl θ a w h]
    exact hK [] _ _ (h.put hd (v := .gd true (.v u)) rfl).app0
  | false =>
    rw [if_neg (by simp)]
    exact hK [] _ _ (h.put hd (v := .gd false (.v u)) rfl).app0
theorem OpS.sidxG {t : Nat} {x y : Operand} {i : Int} {k : Nat} {s : ByteArray} {j : Nat} {want B : Bool} (hB : gB σ.ρ all j want = some B) (hx : evG σ.ρ x = some (.v (.string s))) (hy : evG σ.ρ y = some (.v (.int .i64 i))) (hside : B = true → Qff B True σ.ρ [x, y]) (ht : c.ti t = .str) (hi : B = true → i = k) (hk : B = true → k < s.size) (hd : Nat.blt d σ.n = true) :
    OpS c σ all ⟨some d, .index t x y, ty, pos, after, some (j, want)⟩ (put d (.gd B (.v (.int .u8 (Qak s k).toNat))) σ) :=
  OpS.valG hB (fun hb θ a w h => by
    have h1 := Qgv h.env hb (hside hb) x (by simp) _ hx
    have h2 := Qgv h.env hb (hside hb) y (by simp) _ hy
    have e1 : ev? (selfρ a) x = some (.string s) := by rw [h1.2, ← h1.1]; rfl
    have e2 : ev? (selfρ a) y = some (.int .i64 i) := by rw [h2.2, ← h2.1]; rfl
    exact Qm2 h.env.env e1 e2 (hi hb) (hk hb) (c.tstr ht)) hd
end
theorem Ylb {P : Program} {ops : Array Oper} {K G : Act → World → Prop} {i : Nat} {o : Oper} {a : Act} {w : World} (hi : ops[i]? = some o) (h : wpList P ops (Ql6 G) [o] a w) : wpOp P ops (Ql6 K) i G a w := by
  have mono : ∀ (o : Oper) (K1 : Act → World → Prop) (a : Act) (w : World), o.wp P a w (fun a' w' => Ql6 K1 .normal a' w') (Ql6 K1) → o.wp P a w K1 (Ql6 K) := by
    intro o K1 a w h
    unfold Oper.wp at h ⊢
    generalize (execOp a.eval o).run P w = r at h ⊢
    cases r with
    | ok n w' =>
      cases n <;> simp only [Oper.upon] at h ⊢
      case value u => exact h.2
      case skip => exact h.2
      case defer d => exact h.2
      case enter f args =>
        refine Calls.mono h fun e w'' he => ?_
        cases e with
        | returned u => exact he.2
        | panicked c => cases he.1
        | outgrown => obtain ⟨_, _, h, _⟩ := he; cases h
      case row row args => exact Rows.mono h fun u w'' he => he.2
    | halt x w' =>
      cases x <;> simp only [Oper.upon] at h ⊢
      case panic u => cases h.1
  unfold wpOp
  simp only [hi]
  unfold wpList at h
  split
  · rename_i hw
    simp only [hw, if_true] at h
    rcases h with h | ⟨_, h⟩
    · exact .inl (mono _ _ _ _ h)
    · obtain ⟨_, _, h, _⟩ := h; cases h
  · rename_i hw
    simp only [hw] at h
    exact h.2
def Qwj (c : Cx) (K : Act → World → Prop) (E0 : List (Nat × En)) (m0 : Nat) (ops : Array Oper) (n : Nat) (M : List (Nat × En)) (listed : Array Bool) (σ : St) (i : Nat) : Prop :=
  ∀ θ0 η a w, θ0.length = m0 → R c (θ0 ++ η) σ a w → SD c θ0 E0 w → Yk0 c θ0 E0 → Qg9 c.S0 c.w0 (θ0 ++ η) M → wpOp c.P ops (Ql6 K) i (fun a' w' => SD c θ0 E0 w' ∧ wpAnyH c.P .any ops (Ql6 K) (SD c θ0 E0) n (listed.setIfInBounds i true) a' w') a w
theorem Qwj.ofg {c : Cx} {K : Act → World → Prop} {E0 : List (Nat × En)} {m0 : Nat} {ops : Array Oper} {n : Nat} {M : List (Nat × En)} (i : Nat) (is : List Nat) {listed : Array Bool} {σ σ' : St} {o : Oper} {G : Prop} (hi : nthO ops.toList i = some o) (ho : OpSg c σ ops o σ' G) (hp : is.map (nthE σ'.E) = E0.map some) (hn : is.Nodup)
    (h : G → RunD c K E0 m0 ops n M (listed.setIfInBounds i true) σ') : Qwj c K E0 m0 ops n M listed σ i := by
  intro θ0 η a w hl hR hS hB0 hM
  have hi' : ops[i]? = some o := by rw [← Array.getElem?_toList]; exact Qhg hi
  refine Ylb hi' ?_
  refine wpList_step fun K' hK' => ?_
  refine ho _ a w hR K' _ fun ζ a' w' hR' hg => hK' _ _ ?_
  rw [List.append_assoc] at hR'
  have hS' : SD c θ0 E0 w' := by
    obtain ⟨S, w1, hh⟩ := hR'.heap
    obtain ⟨S0, w0, hh0⟩ := hS
    exact ⟨S, w1, hh0.back (hh.pickE hp hn)⟩
  exact ⟨rfl, hS', h hg θ0 (η ++ ζ) a' w' hl hR' hS' hB0 (by rw [← List.append_assoc]; exact hM.ext)⟩
theorem OpS.g {c : Cx} {σ σ' : St} {all : Array Oper} {o : Oper} (h : OpS c σ all o σ') : OpSg c σ all o σ' True := fun θ a w hR K Q hK => h θ a w hR K Q fun η a' w' hR' => hK η a' w' hR' trivial
theorem RunD.alts {c : Cx} {K : Act → World → Prop} {E0 : List (Nat × En)} {m0 : Nat} {ops : Array Oper} {n : Nat} {M : List (Nat × En)} {listed : Array Bool} {σ : St} {L : List Nat} (hr : Region.ready .any ops listed = L) (hL : L ≠ []) (h : ∀ i ∈ L, Qwj c K E0 m0 ops n M listed σ i) : RunD c K E0 m0 ops (n + 1) M listed σ :=
  fun θ0 η a w hl hR hS hB0 hM => wpAnyH_all hr hL fun i hi => h i hi θ0 η a w hl hR hS hB0 hM
def pkc : Option (Nat × En) → List (Nat × En) → List (Nat × En)
  | some e, r => e :: r
  | none, r => r
def pk : List Nat → List (Nat × En) → List (Nat × En)
  | [], _ => []
  | i :: is, E => pkc (nthE E i) (pk is E)
theorem Run.drawS {c : Cx} {res : List Re} {σ : St} {id : Nat} {ops : Array Oper} {k : List It} (n : Nat) (is0 : List Nat) (E0 : List (Nat × En)) (hp : is0.map (nthE σ.E) = E0.map some) (hd0 : is0.Nodup) (hm : c.P.follows .mixedOrders = true) (hn : ops.size = n)
    (h : ∀ S w1 hk hs hd, RunD (c.rebase S w1 hk hs hd) (kQ c res k .normal) E0 σ.m ops n [] (Array.replicate n false) σ) : Run c res σ (.code (.region id ops true) :: k) := by
  intro θ a w hR
  obtain ⟨S, w1, hh⟩ := hR.heap
  have hh' := hh.drew.rebase
  have hR' : R (c.rebase S w1 hh.k0 hh.sub hh.sh.dom) (θ ++ []) σ a w.drew := by rw [List.append_nil]; exact ⟨hR.len, hR.env, S, w1, hh'⟩
  have hE := hh'.pickE hp hd0
  have := h S w1 hh.k0 hh.sub hh.sh.dom θ [] a w.drew hR.len hR' ⟨S, w1, hE⟩ (hh.pickE hp hd0).ok Qg9.nil
  refine Code.wp_mono (Q := Ql6 (kQ c res k .normal)) (fun e a w h => by obtain ⟨rfl, h⟩ := h; exact h) (wp_region_held (P := c.P) hm (by rw [hn]; exact this))
theorem TkS.val {c : Cx} {E0 M : List (Nat × En)} {ops : Array Oper} {listed : Array Bool} {σ : St} {d : Nat} {op : Op} {u : Value} {ty : TypeId} {pos : String} {after : Array Edge} (j : Nat) (hi' : nthO ops.toList j = some ⟨some d, op, ty, pos, after, none⟩) (hB : Qm3 ops listed j = true)
    (hy : ∀ θ a w, R c θ σ a w → ∀ w2, Qbw c.P a w2 op ty u) (hd : Nat.blt d σ.n = true) : TkS c E0 M σ ops listed j (put d (.v u) σ) M := by
  intro K m0 n h θ0 η a w hl0 hR hS hB0 hM
  simp only [Qm3, Bool.and_eq_true] at hB
  have hj : ops[j]? = some ⟨some d, op, ty, pos, after, none⟩ := by rw [← Array.getElem?_toList]; exact Qhg hi'
  refine wpAnyH_take (v := u) hj hB.1.1 hB.1.2 hB.2 (fun c a w h => by cases h.1) (.inl ⟨rfl, fun w2 _ => ?_⟩) hS (h θ0 η _ w hl0 (hR.put hd rfl) hS hB0 hM)
  have := hy _ a w hR w2 (some d) pos after none
  simpa using this
section
variable {c : Cx} {E0 M : List (Nat × En)} {ops : Array Oper} {listed : Array Bool} {σ : St} {d : Nat} {ty : TypeId} {pos : String} {after : Array Edge}
theorem TkS.sidx {t : Nat} {x y : Operand} {i : Int} {s : ByteArray} (j k : Nat) (hk : k < s.size) (hi' : nthO ops.toList j = some ⟨some d, .index t x y, ty, pos, after, none⟩) (hB : Qm3 ops listed j = true) (hx : ev σ.ρ x = some (.v (.string s))) (hy : ev σ.ρ y = some (.v (.int .i64 i))) (ht : c.ti t = .str) (hi : i = k) (hd : Nat.blt d σ.n = true) :
    TkS c E0 M σ ops listed j (put d (.v (.int .u8 (Qak s k).toNat)) σ) M :=
  TkS.val j hi' hB (fun θ a w h w2 => Qm2 h.env.env (h.env.isv hx) (h.env.isv hy) hi hk (c.tstr ht)) hd
theorem TkS.quo {t t' : Nat} {x y : Operand} {k : IntKind} {i i2 : Int} (j : Nat) (hj : i2 ≠ 0) (hi' : nthO ops.toList j = some ⟨some d, .binOp .quo t x y t', ty, pos, after, none⟩) (hB : Qm3 ops listed j = true) (hx : ev σ.ρ x = some (.v (.int k i))) (hy : ev σ.ρ y = some (.v (.int k i2))) (hd : Nat.blt d σ.n = true) :
    TkS c E0 M σ ops listed j (put d (.v (.int k (k.wrap (i.tdiv i2)))) σ) M := TkS.val j hi' hB (fun θ a w h w2 => Yk4 h.env.env (h.env.isv hx) (h.env.isv hy) hj) hd
theorem TkS.rem {t t' : Nat} {x y : Operand} {k : IntKind} {i i2 : Int} (j : Nat) (hj : i2 ≠ 0) (hi' : nthO ops.toList j = some ⟨some d, .binOp .rem t x y t', ty, pos, after, none⟩) (hB : Qm3 ops listed j = true) (hx : ev σ.ρ x = some (.v (.int k i))) (hy : ev σ.ρ y = some (.v (.int k i2))) (hd : Nat.blt d σ.n = true) :
    TkS c E0 M σ ops listed j (put d (.v (.int k (i.tmod i2))) σ) M := TkS.val j hi' hB (fun θ a w h w2 => Yij h.env.env (h.env.isv hx) (h.env.isv hy) hj) hd
theorem TkS.cat {t t' : Nat} {x y : Operand} {p q : ByteArray} (j : Nat) (hs : p.size + q.size ≤ 9223372036854775807) (hi' : nthO ops.toList j = some ⟨some d, .binOp .add t x y t', ty, pos, after, none⟩) (hB : Qm3 ops listed j = true) (hx : ev σ.ρ x = some (.v (.string p))) (hy : ev σ.ρ y = some (.v (.string q))) (hd : Nat.blt d σ.n = true) :
    TkS c E0 M σ ops listed j (put d (.v (.string (p ++ q))) σ) M := TkS.val j hi' hB (fun θ a w h w2 => Ygo h.env.env (h.env.isv hx) (h.env.isv hy) hs) hd
end
section
variable {c : Cx} {σ : St} {all : Array Oper} {ty : TypeId} {pos : String} {after : Array Edge} {d : Nat}
theorem OpS.lit0 {t e sz by' : Nat} (ht : c.ti t = .sl e sz by') (hd : Nat.blt d σ.n = true) :
    OpS c σ all ⟨some d, .buildSlice t 0 #[], ty, pos, after, none⟩ ⟨σ.n, σ.m + 1, (d, .sl σ.m 0) :: σ.ρ, (σ.m, .lit [] e 0) :: σ.E⟩ :=
  OpS.of fun θ a w h K Q hK => by
    obtain ⟨hu, inf, hinf, his, _⟩ := Qbb (c.tsl ht)
    have hsz : (sizeOf e).run c.P w = .ok sz w := by simp [sizeOf, typeInfo, hinf, his]
    have : (execOp a.eval ⟨some d, .buildSlice t 0 #[], ty, pos, after, none⟩).run c.P w = .ok (.value (.slice (some ⟨w.heap.size, 0, none⟩) 0 0)) (w.alloc (.cells #[] e)) := by
      simp [execOp, Instr.buildSlice, run_underlying hu, hsz, Instr.fill, newRow]
      rw [show Array.map (fun _ => (default : Value)) (Array.range 0) = #[] from by simp]
    unfold Oper.wp
    rw [this]
    exact hK _ _ _ (h.newlit (cs := []) (l := []) rfl e 0 hd (h.sl0 0))
end
end
section
open Go.RowKit
def nthG (m : Nat) : List Nat → Nat → Nat
  | [], k => m + k
  | x :: r, k => bif Nat.beq k 0 then x else nthG m r (Nat.pred k)
mutual
def V.fw (f : List Nat) (m : Nat) : V → V
  | .v x => .v x
  | .sl r n => .sl (nthG m f r) n
  | .pt r o => .pt (nthG m f r) o
  | .ag cs => .ag (fwL f m cs)
  | .fn g cs => .fn g (fwL f m cs)
  | .tu cs => .tu (fwL f m cs)
  | .gd b x => .gd b (x.fw f m)
def fwL (f : List Nat) (m : Nat) : List V → List V
  | [] => []
  | x :: r => x.fw f m :: fwL f m r
end
def En.fw (f : List Nat) (m : Nat) : En → En
  | .var cs T => .var (fwL f m cs) T
  | .lit cs T n => .lit (fwL f m cs) T n
  | .roc cs => .roc (fwL f m cs)
  | .own α d xs => .own α d xs
  | .ros α d xs => .ros α d xs
  | .itr s p => .itr s p
  | .any P => .any P
  | .pin l => .pin l
def fwE (f : List Nat) (m : Nat) : List (Nat × En) → List (Nat × En)
  | [] => []
  | (r, e) :: E => (nthG m f r, e.fw f m) :: fwE f m E
theorem Ybn {f : List Nat} {m : Nat} : ∀ E : List (Nat × En), fwE f m E = E.map fun e => (nthG m f e.1, e.2.fw f m)
  | [] => rfl
  | (r, e) :: E => by simp only [fwE, List.map_cons, Ybn E]
section
variable {f : List Nat} {m : Nat} {θ1 θ2 : List Loc}
mutual
theorem V.fw_con (hf : ∀ r, θ1[r]? = θ2[nthG m f r]?) : ∀ v : V, (v.fw f m).con θ2 = v.con θ1
  | .v x => rfl
  | .sl r n => by simp only [V.fw, V.con, hf]
  | .pt r o => by simp only [V.fw, V.con, hf]
  | .ag cs => by simp only [V.fw, V.con, Qpv hf cs]
  | .fn g cs => by simp only [V.fw, V.con, Qpv hf cs]
  | .tu cs => by simp only [V.fw, V.con, Qpv hf cs]
  | .gd b x => by simp only [V.fw, V.con, V.fw_con hf x]
theorem Qpv (hf : ∀ r, θ1[r]? = θ2[nthG m f r]?) : ∀ cs : List V, conL θ2 (fwL f m cs) = conL θ1 cs
  | [] => rfl
  | x :: r => by simp only [fwL, conL, V.fw_con hf x, Qpv hf r]
end
theorem En.fw_ck (hf : ∀ r, θ1[r]? = θ2[nthG m f r]?) (e : En) (r : Nat) : (e.fw f m).ck θ2 (nthG m f r) = e.ck θ1 r := by
  have hl : locF θ2 (nthG m f r) = locF θ1 r := by unfold locF; rw [hf]
  cases e <;> simp only [En.fw, En.ck, hl, hf, Qpv hf]
end
section
variable {c : Cx} {σ : St} {all : Array Oper} {ty : TypeId} {pos : String} {after : Array Edge} {d : Nat}
end
def thz (p : Nat → Loc) (n : Nat) : List Loc := (List.range n).map p
theorem Qo8 {p : Nat → Loc} {n : Nat} : (thz p n).length = n := by simp [thz]
theorem Qf5 {p : Nat → Loc} {n k : Nat} (h : k < n) : (thz p n)[k]? = some (p k) := by simp [thz, h]
theorem Yin {p : Nat → Loc} {θ : List Loc} {n : Nat} (hn : n ≤ θ.length) (h : ∀ k, k < n → θ[k]? = some (p k)) : thz p n = θ.take n := by
  apply List.ext_getElem?
  intro k
  by_cases hk : k < n
  · rw [Qf5 hk, List.getElem?_take, if_pos hk, h k hk]
  · rw [List.getElem?_eq_none (by rw [Qo8]; omega), List.getElem?_eq_none (by simp; omega)]
def Qn4 (p : Nat → Loc) : Nat → Nat → List (Nat × En)
  | _, 0 => []
  | k, n + 1 => (k, .pin (p k)) :: Qn4 p (k + 1) n
theorem Q97 {p : Nat → Loc} : ∀ {n k i : Nat}, i < n → (k + i, En.pin (p (k + i))) ∈ Qn4 p k n
  | 0, _, _, h => by omega
  | n + 1, k, 0, _ => List.mem_cons_self
  | n + 1, k, i + 1, h => by
    have := Q97 (p := p) (n := n) (k := k + 1) (i := i) (by omega)
    rw [show k + 1 + i = k + (i + 1) by omega] at this
    exact List.mem_cons_of_mem _ this
theorem Qwp {p : Nat → Loc} : ∀ {n k : Nat} {e : Nat × En}, e ∈ Qn4 p k n → ∃ i, k ≤ i ∧ i < k + n ∧ e = (i, .pin (p i))
  | 0, _, _, h => by cases h
  | n + 1, k, e, h => by
    rcases List.mem_cons.1 h with rfl | h
    · exact ⟨k, Nat.le_refl _, by omega, rfl⟩
    · obtain ⟨i, h1, h2, h3⟩ := Qwp h
      exact ⟨i, by omega, by omega, h3⟩
def MQ (S : Nat → Prop) (w : World) (p : Nat → Loc) (mk : Nat) (E1 : List (Nat × En)) (nn : Nat) (res : List V) (G0 : Prop) (w' : World) (v : Value) : Prop :=
  G0 ∧ ∃ η us, η.length = nn ∧ conL (thz p mk ++ η) res = some us ∧ v = pack us ∧ SH S w w' (E1.map fun e => e.2.ck (thz p mk ++ η) e.1)
def CTM (P : Program) (G : World → Prop) (gs : List Nat) (f : FuncId) (mk m0 : Nat) (E0 F0 : List (Nat × En)) (args : List V) (E1 : List (Nat × En)) (nn : Nat) (res : List V) (G0 : Prop) : Prop :=
  ∀ (S : Nat → Prop) (w : World) (p : Nat → Loc) (us : List Value), (∀ w', Keep S w w' → G w') → (∀ g ∈ gs, S g) → SH S w w (E0.map fun e => e.2.ck (thz p m0) e.1) → Qg9 S w (thz p m0) F0 → conL (thz p m0) args = some us →
    Calls P f us.toArray w (fun e w' => ∃ v, e = .returned v ∧ MQ S w p mk E1 nn res G0 w' v)
def Yp1 {P : Program} {ti : Nat → TI} {zr : Nat → Option Value} {G : World → Prop} (s : SysOk P ti zr G) (fn : Func) (S : Nat → Prop) (w : World) (hG : ∀ w', Keep S w w' → G w') (hb : ∀ b, S b → b < w.heap.size) (Q : World → Value → Prop) : Cx := ⟨P, fn, ti, zr, G, S, w, s.tiok, s.zok, hG, hb, fun _ => Q⟩
theorem Yjg {θ : List Loc} : ∀ {M : List (Nat × En)}, (∀ e ∈ M, ∀ θ r, e.2.ck θ r = ⟨[], fun _ => True⟩) → (M.map fun e => e.2.ck θ e.1).flatMap (·.F) = [] := by
  intro M h
  rw [List.flatMap_map, List.flatMap_eq_nil_iff]
  intro e he
  rw [h e he]
theorem SH.more {S : Nat → Prop} {w0 w : World} {L : List Ck} {θ : List Loc} {M : List (Nat × En)} (h : SH S w0 w L) (hM : ∀ e ∈ M, ∀ θ r, e.2.ck θ r = ⟨[], fun _ => True⟩) : SH S w0 w (L ++ M.map fun e => e.2.ck θ e.1) := by
  refine ⟨h.keep, h.dom, fun c hc => ?_, fun c hc b hb => ?_, ?_⟩
  · rcases List.mem_append.1 hc with hc | hc
    · exact h.ok c hc
    · obtain ⟨e, he, rfl⟩ := List.mem_map.1 hc
      rw [hM e he]
      exact fun _ _ => trivial
  · rcases List.mem_append.1 hc with hc | hc
    · exact h.ge c hc b hb
    · obtain ⟨e, he, rfl⟩ := List.mem_map.1 hc
      rw [hM e he] at hb
      cases hb
  · rw [List.flatMap_append, Yjg hM, List.append_nil]
    exact h.apart
def En.isCk : En → Bool
  | .var _ _ => true
  | .lit _ _ _ => true
  | .own _ _ _ => true
  | .itr _ _ => true
  | .any _ => true
  | _ => false
def Ybk : List (Nat × En) → Bool
  | [] => true
  | (_, e) :: E => bif e.isCk then Ybk E else false
theorem En.ok_ck {e : En} (h : e.isCk = true) {S : Nat → Prop} {w : World} {θ : List Loc} {r : Nat} : e.ok S w θ r := by
  cases e <;> first | trivial | cases h
theorem Qxf : ∀ {E : List (Nat × En)}, Ybk E = true → ∀ e ∈ E, e.2.isCk = true
  | [], _, _, he => by cases he
  | (r, x) :: E, h, e, he => by
    simp only [Ybk] at h
    cases hx : x.isCk with
    | false => rw [hx] at h; cases h
    | true =>
      rw [hx] at h
      rcases List.mem_cons.1 he with rfl | he
      · exact hx
      · exact Qxf h e he
theorem Yg1 {p : Nat → Loc} {k n : Nat} : ∀ e ∈ Qn4 p k n, ∀ θ r, e.2.ck θ r = ⟨[], fun _ => True⟩ := fun e he θ r => by
  obtain ⟨i, _, _, rfl⟩ := Qwp he
  rfl
theorem CTM.of {G0 : Prop} {P : Program} {ti : Nat → TI} {zr : Nat → Option Value} {G : World → Prop} (s : SysOk P ti zr G) {gs : List Nat} {f : FuncId} {fn : Func} {code : Code} {n mk m0 nn : Nat} {E0 F0 E1 : List (Nat × En)} {args res : List V} (hf : P.funcs[f]? = some fn) (hb : fn.body = some code) (hn : fn.ntmps = n) (hl : Nat.ble args.length n = true) (hmk : Nat.ble mk m0 = true) (hE : Ybk E0 = true)
    (h : ∀ S w p (hG : ∀ w', Keep S w w' → G w') (hb : ∀ b, S b → b < w.heap.size), (∀ g ∈ gs, S g) → Run (Yp1 s fn S w hG hb (MQ S w p mk E1 nn res G0)) [] ⟨n, m0, Qj5 0 args, E0 ++ F0 ++ Qn4 p 0 mk⟩ [.code code]) : CTM P G gs f mk m0 E0 F0 args E1 nn res G0 := by
  intro S w p us hG hgs hS hF hc
  refine calls_of_wp hf hb ?_
  have hvl : us.length = args.length := Qfj hc
  have hle := Nat.le_of_ble_eq_true hl
  have hmk' := Nat.le_of_ble_eq_true hmk
  refine h S w p hG hS.dom hgs (thz p m0) _ w ⟨Qo8, ⟨?_, rfl, fun t v hv => ?_⟩, S, w, ?_⟩
  · show (us.toArray ++ Array.replicate (fn.ntmps - us.toArray.size) undef).size = n
    simp [hn]; omega
  · obtain ⟨_, u, hu, hcu⟩ := Qn0 hc hv
    rw [Nat.sub_zero] at hu
    have hlt := (List.getElem?_eq_some_iff.1 hu).1
    refine ⟨?_, by show t < n; omega⟩
    rw [hcu]
    simp [Array.getD_eq_getD_getElem?, Array.getElem?_append_left (show t < us.toArray.size by simpa using hlt), hu]
  · refine ⟨Keep.refl _ _, fun _ h => h, ?_, fun e he => ?_⟩
    · rw [List.map_append, List.map_append]
      exact (hS.more fun e he => (hF e he).2).more Yg1
    · rcases List.mem_append.1 he with he | he
      · rcases List.mem_append.1 he with he | he
        · exact En.ok_ck (Qxf hE e he)
        · exact (hF e he).1
      · obtain ⟨i, _, h2, rfl⟩ := Qwp he
        exact Qf5 (by omega)
theorem Run.keyM {c : Cx} {res' : List Re} {σ : St} {rs : List ResultVar} (hr : c.fn.results.toList = rs) (hl : Nat.ble rs.length 4 = true) {vs : List V} (hv : rvsV c.ti σ.ρ σ.E rs = some vs)
    {S : Nat → Prop} {w : World} {p : Nat → Loc} {mk nn : Nat} {E1 : List (Nat × En)} {res : List V} {G0 : Prop} (hg0 : G0) (hQ : ∀ R w' v, MQ S w p mk E1 nn res G0 w' v → c.Q R w' v) (hS0 : ∀ b, S b → c.S0 b) (hK : Keep S w c.w0) (hd : ∀ b, S b → b < w.heap.size)
    (f is : List Nat) (hlen : Nat.beq f.length (mk + nn) = true) (hs : SubE f σ.E is (E1 ++ Qn4 p 0 mk)) (hn : is.Nodup) (hres : renL f res = some vs) {θ : List Loc} {a : Act} {w' : World} (h : R c θ σ a w') : post c res' .ret a w' := by
  have hlen' : f.length = mk + nn := Nat.eq_of_beq_eq_true hlen
  have hR := h.sub (σ2 := ⟨σ.n, mk + nn, [], E1 ++ Qn4 p 0 mk⟩) (f := f) (is := is) ⟨rfl, hlen', trivial, hs⟩ hn
  obtain ⟨us, hus, hrl⟩ := Ybd h hv
  obtain ⟨S1, w1, hh⟩ := hR.heap
  have hpin : ∀ k, k < mk → (renθ f θ)[k]? = some (p k) := fun k hk => by
    have := hh.ok (0 + k, .pin (p (0 + k))) (List.mem_append_right _ (Q97 hk))
    rw [Nat.zero_add] at this
    exact this
  have hlr : (renθ f θ).length = mk + nn := hR.len
  have hsp : thz p mk ++ (renθ f θ).drop mk = renθ f θ := by
    rw [Yin (by omega) hpin, List.take_append_drop]
  refine ⟨h.env.defers, _, Q5k hr hl hrl, _, rfl, hQ _ _ _ ⟨hg0, (renθ f θ).drop mk, us, by simp [hlr], by rw [hsp]; exact Qjo hres hus, rfl, ?_⟩⟩
  rw [hsp]
  have hsh := hh.sh
  rw [List.map_append] at hsh
  refine ⟨hK.trans ((hh.k0.trans (hsh.keep.mono hh.sub)).mono hS0), hd, fun c hc => hsh.ok c (List.mem_append_left _ hc), fun c hc b hb => ?_, ?_⟩
  · have := hsh.ge c (List.mem_append_left _ hc) b hb
    exact ⟨fun hS => this.1 (hh.sub b (hS0 b hS)), this.2⟩
  · have := hsh.apart
    rw [List.flatMap_append, List.nodup_append] at this
    exact this.1
theorem Run.retM {c : Cx} {res' : List Re} {σ : St} {k : List It} {rs : List ResultVar} (hr : c.fn.results.toList = rs) (hl : Nat.ble rs.length 4 = true) {vs : List V} (hv : rvsV c.ti σ.ρ σ.E rs = some vs)
    {S : Nat → Prop} {w : World} {p : Nat → Loc} {mk nn : Nat} {E1 : List (Nat × En)} {res : List V} {G0 : Prop} (hg0 : G0) (hQ : ∀ R w' v, MQ S w p mk E1 nn res G0 w' v → c.Q R w' v) (hS0 : ∀ b, S b → c.S0 b) (hK : Keep S w c.w0) (hd : ∀ b, S b → b < w.heap.size)
    (f is : List Nat) (hlen : Nat.beq f.length (mk + nn) = true) (hs : SubE f σ.E is (E1 ++ Qn4 p 0 mk)) (hn : is.Nodup) (hres : renL f res = some vs) : Run c res' σ (.code .ret :: k) := by
  intro θ a w' h
  have key : post c res' .ret a w' := Run.keyM hr hl hv hg0 hQ hS0 hK hd f is hlen hs hn hres h
  refine wp_ret ?_
  clear hv hr hs hres
  induction k with
  | nil => exact key
  | cons x k ih => cases x <;> exact ih
def Qmn (x : Option (Nat × En)) (l : List (Nat × En)) : List (Nat × En) := match x with
  | some y => y :: l
  | none => l
def pickE (E : List (Nat × En)) : List Nat → List (Nat × En)
  | [] => []
  | i :: is => Qmn (nthE E i) (pickE E is)
def Qif (σ : St) (d : Nat) (fk : List Nat) (E1 : List (Nat × En)) (nn : Nat) (res : List V) (rest : List Nat) : St :=
  ⟨σ.n, σ.m + nn, (d, Qh5 (fwL fk σ.m res)) :: σ.ρ, fwE fk σ.m E1 ++ pickE σ.E rest⟩
theorem En.ok_off {M R : List Ck} {S : Nat → Prop} {w1 w : World} (h : SH S w1 w (M ++ R)) {θ : List Loc} {r : Nat} {e : En} (he : e.ok S w1 θ r) : e.ok (Off M w) w θ r := by
  cases e with
  | var => trivial
  | lit => trivial
  | own => trivial
  | itr => trivial
  | any => trivial
  | pin l => exact he
  | ros α d xs => obtain ⟨l, h1, h2⟩ := he; exact ⟨l, h1, h.upM h2⟩
  | roc cs => obtain ⟨l, A, ccs, h1, h2, h3, h4, h5⟩ := he; exact ⟨l, A, ccs, h1, h2, h3, h.inOff h4, h5.keep h.keep h4⟩
theorem Yg6 {m : Nat} : ∀ {f : List Nat} {r q : Nat}, f[r]? = some q → nthG m f r = q
  | x :: f, 0, q, h => by simpa [nthG] using h
  | x :: f, r + 1, q, h => by
    simp only [nthG, Nat.beq, Nat.pred, cond]
    exact Yg6 (by simpa using h)
theorem Yg7 {m : Nat} : ∀ {f : List Nat} {r : Nat}, f.length ≤ r → nthG m f r = m + (r - f.length)
  | [], r, _ => rfl
  | x :: f, 0, h => by simp at h
  | x :: f, r + 1, h => by
    simp only [nthG, Nat.beq, Nat.pred, cond]
    rw [Yg7 (by simpa using h), List.length_cons]
    omega
section
variable {f : List Nat} {θ1 θ2 : List Loc}
mutual
theorem V.ren_eq (hf : ∀ r q : Nat, f[r]? = some q → θ1[r]? = θ2[q]?) : ∀ {v u : V}, v.ren f = some u → v.con θ1 = u.con θ2
  | .v x, u, h => by simp only [V.ren] at h; cases h; rfl
  | .sl r n, u, h => by
    simp only [V.ren] at h
    split at h
    · rename_i q hq; cases h; simp only [V.con, hf r q hq]
    · cases h
  | .pt r n, u, h => by
    simp only [V.ren] at h
    split at h
    · rename_i q hq; cases h; simp only [V.con, hf r q hq]
    · cases h
  | .ag cs, u, h => by
    simp only [V.ren] at h
    split at h
    · rename_i l hl; cases h; simp only [V.con, Qlq hf hl]
    · cases h
  | .fn g cs, u, h => by
    simp only [V.ren] at h
    split at h
    · rename_i l hl; cases h; simp only [V.con, Qlq hf hl]
    · cases h
  | .tu cs, u, h => by
    simp only [V.ren] at h
    split at h
    · rename_i l hl; cases h; simp only [V.con, Qlq hf hl]
    · cases h
  | .gd b x, u, h => by
    simp only [V.ren] at h
    split at h
    · rename_i l hl; cases h; simp only [V.con, V.ren_eq hf hl]
    · cases h
theorem Qlq (hf : ∀ r q : Nat, f[r]? = some q → θ1[r]? = θ2[q]?) : ∀ {cs ds : List V}, renL f cs = some ds → conL θ1 cs = conL θ2 ds
  | [], ds, h => by simp only [renL] at h; cases h; rfl
  | x :: r, ds, h => by
    simp only [renL] at h
    split at h
    · rename_i a b h1 h2; cases h; simp only [conL, V.ren_eq hf h1, Qlq hf h2]
    · cases h
end
theorem En.ren_ck_eq (hf : ∀ r q : Nat, f[r]? = some q → θ1[r]? = θ2[q]?) {r q : Nat} (hr : f[r]? = some q) {e e' : En} (h : e.ren f = some e') : e.ck θ1 r = e'.ck θ2 q := by
  have hl : locF θ1 r = locF θ2 q := by unfold locF; rw [hf r q hr]
  cases e with
  | var cs T =>
    simp only [En.ren] at h
    split at h
    · rename_i l hl'; cases h; simp only [En.ck, hl, hf r q hr, Qlq hf hl']
    · cases h
  | lit cs T n =>
    simp only [En.ren] at h
    split at h
    · rename_i l hl'; cases h; simp only [En.ck, hl, hf r q hr, Qlq hf hl']
    · cases h
  | own α d xs => simp only [En.ren] at h; cases h; simp only [En.ck, hl, hf r q hr]
  | itr s p => simp only [En.ren] at h; cases h; simp only [En.ck, hl, hf r q hr]
  | any P => simp only [En.ren] at h; cases h; simp only [En.ck, hl, hf r q hr]
  | ros => simp only [En.ren] at h; cases h; rfl
  | pin => simp only [En.ren] at h; cases h; rfl
  | roc cs =>
    simp only [En.ren] at h
    split at h
    · cases h; rfl
    · cases h
theorem En.ren_ok_eq (hf : ∀ r q : Nat, f[r]? = some q → θ1[r]? = θ2[q]?) {r q : Nat} (hr : f[r]? = some q) {e e' : En} (h : e.ren f = some e') {S : Nat → Prop} {w : World} (hp : e'.ok S w θ2 q) : e.ok S w θ1 r := by
  cases e with
  | var => trivial
  | lit => trivial
  | own => trivial
  | itr => trivial
  | any => trivial
  | ros => simp only [En.ren] at h; cases h; simp only [En.ok, hf r q hr] at hp ⊢; exact hp
  | pin => simp only [En.ren] at h; cases h; simp only [En.ok, hf r q hr] at hp ⊢; exact hp
  | roc cs =>
    simp only [En.ren] at h
    split at h
    · rename_i l hl'; cases h; simp only [En.ok, hf r q hr, Qlq hf hl'] at hp ⊢; exact hp
    · cases h
end
def En.isF : En → Bool
  | .ros _ _ _ => true
  | .roc _ => true
  | .pin _ => true
  | _ => false
def isFs : List (Nat × En) → Bool
  | [] => true
  | (_, e) :: E => bif e.isF then isFs E else false
theorem Ycq : ∀ {E : List (Nat × En)}, isFs E = true → ∀ e ∈ E, ∀ θ r, e.2.ck θ r = ⟨[], fun _ => True⟩
  | [], _, _, he => by cases he
  | (r, x) :: E, h, e, he => by
    simp only [isFs] at h
    cases hx : x.isF with
    | false => rw [hx] at h; cases h
    | true =>
      rw [hx] at h
      rcases List.mem_cons.1 he with rfl | he
      · intro θ r; cases x <;> first | rfl | cases hx
      · exact Ycq h e he
def Yh7 (m : Nat) : List Nat → Bool
  | [] => true
  | x :: r => bif Nat.blt x m then Yh7 m r else false
theorem Q5r {m : Nat} : ∀ {f : List Nat} {r q : Nat}, Yh7 m f = true → f[r]? = some q → q < m
  | x :: f, r, q, h, hq => by
    simp only [Yh7] at h
    cases hx : Nat.blt x m with
    | false => rw [hx] at h; cases h
    | true =>
      rw [hx] at h
      cases r with
      | zero => simp at hq; subst hq; simpa using hx
      | succ r => exact Q5r h (by simpa using hq)
theorem OpSg.of {c : Cx} {σ σ' : St} {all : Array Oper} {dst : Option Tmp} {op : Op} {ty : TypeId} {pos : String} {after : Array Edge} {G : Prop}
    (h : ∀ θ a w, R c θ σ a w → ∀ (K : Act → World → Prop) (Q : Exit → Act → World → Prop), (∀ η a' w', R c (θ ++ η) σ' a' w' → G → K a' w') → Oper.wp c.P ⟨dst, op, ty, pos, after, none⟩ a w K Q) : OpSg c σ all ⟨dst, op, ty, pos, after, none⟩ σ' G := by
  intro θ a w hR K Q hK
  rw [if_pos (by simp [Region.wanted])]
  exact h θ a w hR K Q hK
def borN : En → En
  | .own α d xs => .ros α d xs
  | .ros α d xs => .ros α d xs
  | .var cs T => .roc cs
  | .roc cs => .roc cs
  | .lit cs T n => .lit cs T n
  | .itr s p => .itr s p
  | .any P => .any P
  | .pin l => .pin l
def borL : List (Nat × En) → List (Nat × En)
  | [] => []
  | (r, e) :: E => (r, borN e) :: borL E
theorem Yc0 : ∀ E : List (Nat × En), borL E = E.map fun e => (e.1, borN e.2)
  | [] => rfl
  | (r, e) :: E => by simp only [borL, List.map_cons, Yc0 E]
def djB (is : List Nat) : List Nat → Bool
  | [] => true
  | j :: js => !(is.elem j) && djB is js
theorem Q6c {is : List Nat} : ∀ {js : List Nat}, djB is js = true → ∀ j ∈ js, j ∉ is
  | [], _, _, h => by cases h
  | k :: js, h, j, hj => by
    simp only [djB, Bool.and_eq_true, Bool.not_eq_true'] at h
    rcases List.mem_cons.1 hj with rfl | hj
    · intro hm
      have := List.elem_eq_true_of_mem hm
      rw [h.1] at this
      cases this
    · exact Q6c h.2 j hj
section
variable {c : Cx} {σ : St} {all : Array Oper} {ty : TypeId} {pos : String} {after : Array Edge} {d : Nat}
theorem OpS.callM {G0 : Prop} {gs : List Nat} {fid : FuncId} {mk m0 nn : Nat} {E0 F0 E1 : List (Nat × En)} {args res : List V} (hct : CTM c.P c.G gs fid mk m0 E0 F0 args E1 nn res G0) (hfn : FnOk c.P fid) (hgs : ∀ g ∈ gs, c.S0 g) (f fk is js rest : List Nat)
    {x : Operand} {cs : List V} {xs : Array Operand} {ts : Array TypeId} {vs : List V} (hx : ev σ.ρ x = some (.fn fid cs)) (hev : evs σ.ρ xs.toList = some vs) (hva : renL f args = some (vs ++ cs)) (hfm : Nat.beq f.length m0 = true) (hfk : f.take mk = fk) (hE0 : SubE f σ.E is E0) (hF0 : SubE f (borL σ.E) js F0) (hFs : isFs F0 = true) (hdj : djB is js = true)
    (hnd : (is ++ rest).Nodup) (hrest : rest.map (nthE σ.E) = (pickE σ.E rest).map some) (hd : Nat.blt d σ.n = true) (hlt : Yh7 σ.m f = true) (hmk : Nat.ble mk m0 = true) (hE1 : Ybk E1 = true) :
    OpSg c σ all ⟨some d, .call { callee := .value x, args := xs, argTypes := ts }, ty, pos, after, none⟩ (Qif σ d fk E1 nn res rest) G0 :=
  OpSg.of fun θ a w h K Q hK => by
    obtain ⟨us, hus, hm⟩ := h.env.evsL hev
    obtain ⟨S, w1, hh⟩ := h.heap
    obtain ⟨fn, hf, hb, hn⟩ := hfn
    have hn' : ¬ fn.name = "runtime.NumGoroutine" := by simpa using hn
    have hb' : ¬ fn.body = none := by intro e; rw [e] at hb; cases hb
    have hxc := h.env.con hx
    simp only [V.con, Option.map_eq_some_iff] at hxc
    obtain ⟨capt, hcapt, hfv⟩ := hxc
    have hmm : xs.map a.eval = us.toArray := by
      apply Array.toList_inj.1
      rw [Array.toList_map, Fw.evals h.env.env hm]
    have hfm' : f.length = m0 := Nat.eq_of_beq_eq_true hfm
    have hmk' : mk ≤ m0 := Nat.le_of_ble_eq_true hmk
    let p : Nat → Loc := fun k => θ.getD (f.getD k 0) ⟨none, 0, []⟩
    have hget : ∀ r q : Nat, f[r]? = some q → θ[q]? = some (p r) := fun r q hq => by
      have hl := Q5r hlt hq
      rw [← h.len] at hl
      simp [p, hq, hl]
    have hren : ∀ r q : Nat, f[r]? = some q → (thz p m0)[r]? = θ[q]? := fun r q hq => by
      have hr := (List.getElem?_eq_some_iff.1 hq).1
      rw [Qf5 (by omega), hget r q hq]
    obtain ⟨Z, hZ1, hZ2, hZ3⟩ := Qwq hE0
    obtain ⟨Y, hY1, hY2, hY3⟩ := Qwq hF0
    have hpk : (is ++ rest).map (fun i => σ.E[i]?) = (Z.map (·.2) ++ pickE σ.E rest).map some := by
      rw [List.map_append, List.map_append, hZ2, List.map_map]
      congr 1
      have hr2 : rest.map (fun i => σ.E[i]?) = (pickE σ.E rest).map some := by
        have : ∀ (l : List Nat) (L : List (Nat × En)), l.map (nthE σ.E) = L.map some → l.map (fun i => σ.E[i]?) = L.map some := by
          intro l
          induction l with
          | nil => intro L hL; cases L with
            | nil => rfl
            | cons => simp at hL
          | cons i l ih => intro L hL; cases L with
            | nil => simp at hL
            | cons e L =>
              simp only [List.map_cons, List.cons.injEq] at hL ⊢
              exact ⟨Qi5 hL.1, ih L hL.2⟩
        exact this _ _ hrest
      exact hr2
    have hsh : SH S w1 w (E0.map (fun e => e.2.ck (thz p m0) e.1) ++ (pickE σ.E rest).map fun e => e.2.ck θ e.1) := by
      have h1 : SH S w1 w ((Z.map (·.2) ++ pickE σ.E rest).map fun e => e.2.ck θ e.1) := by
        refine hh.sh.pick (is ++ rest) hnd ?_
        have h2 : ((is ++ rest).map fun i => (σ.E.map fun e => e.2.ck θ e.1)[i]?) = ((is ++ rest).map fun i => σ.E[i]?).map (Option.map fun e => e.2.ck θ e.1) := by
          rw [List.map_map]
          refine List.map_congr_left fun i _ => ?_
          simp
        rw [h2, hpk, List.map_map, List.map_map]
        rfl
      have h3 : E0.map (fun e => e.2.ck (thz p m0) e.1) = (Z.map (·.2)).map fun e => e.2.ck θ e.1 := by
        rw [← hZ1, List.map_map, List.map_map]
        refine List.map_congr_left fun z hz => ?_
        exact En.ren_ck_eq hren (hZ3 z hz).1 (hZ3 z hz).2.1
      rw [h3, ← List.map_append]
      exact h1
    have hfa : Qg9 (Off (E0.map fun e => e.2.ck (thz p m0) e.1) w) w (thz p m0) F0 := fun e he => by
      refine ⟨?_, Ycq hFs e he⟩
      rw [← hY1] at he
      obtain ⟨z, hz, rfl⟩ := List.mem_map.1 he
      refine En.ren_ok_eq hren (hY3 z hz).1 (hY3 z hz).2.1 ?_
      have hzm : some z.2 ∈ js.map fun i => (borL σ.E)[i]? := by rw [hY2]; exact List.mem_map.2 ⟨z, hz, rfl⟩
      obtain ⟨j, hj, hjz⟩ := List.mem_map.1 hzm
      rw [Yc0, List.getElem?_map, Option.map_eq_some_iff] at hjz
      obtain ⟨⟨q, e⟩, hqe, hez⟩ := hjz
      rw [← hez]
      have hem : (q, e) ∈ σ.E := List.mem_of_getElem? hqe
      cases e with
      | own α dα xs =>
        obtain ⟨l, hl, ho⟩ := (hh.sh.ok _ (List.mem_map.2 ⟨_, hem, rfl⟩)).here
        refine ⟨l, hl, ho.rd fun b hb => ⟨ho.lt b hb, fun hm => ?_⟩⟩
        have hLj : (σ.E.map fun e => e.2.ck θ e.1)[j]? = some ((En.own α dα xs).ck θ q) := by rw [List.getElem?_map, hqe]; rfl
        obtain ⟨ck, hck, hbc⟩ := List.mem_flatMap.1 hm
        have h3 : E0.map (fun e => e.2.ck (thz p m0) e.1) = (Z.map (·.2)).map fun e => e.2.ck θ e.1 := by
          rw [← hZ1, List.map_map, List.map_map]
          refine List.map_congr_left fun z hz => ?_
          exact En.ren_ck_eq hren (hZ3 z hz).1 (hZ3 z hz).2.1
        rw [h3] at hck
        obtain ⟨e2, he2, rfl⟩ := List.mem_map.1 hck
        obtain ⟨z2, hz2, rfl⟩ := List.mem_map.1 he2
        have hzi : some z2.2 ∈ is.map fun i => σ.E[i]? := by rw [hZ2]; exact List.mem_map.2 ⟨z2, hz2, rfl⟩
        obtain ⟨i, hi, hiz⟩ := List.mem_map.1 hzi
        have hLi : (σ.E.map fun e => e.2.ck θ e.1)[i]? = some (z2.2.2.ck θ z2.2.1) := by rw [List.getElem?_map, hiz]; rfl
        refine hh.sh.dj hLj hLi (fun e => Q6c hdj j hj (e ▸ hi)) b ?_ hbc
        show b ∈ locF θ q
        rw [Qaf hl]
        exact hb
      | ros α dα xs => exact En.ok_off hsh (hh.ok _ hem)
      | var cs T =>
        obtain ⟨l, b, ccs, hl, hA, hFl, hcc, hb5⟩ := (hh.sh.ok _ (List.mem_map.2 ⟨_, hem, rfl⟩)).here
        refine ⟨l, _, ccs, hl, hA, hcc, ⟨(Array.getElem?_eq_some_iff.1 hb5).1, fun hm => ?_⟩, Qbq.row hb5⟩
        have hLj : (σ.E.map fun e => e.2.ck θ e.1)[j]? = some ((En.var cs T).ck θ q) := by rw [List.getElem?_map, hqe]; rfl
        obtain ⟨ck, hck, hbc⟩ := List.mem_flatMap.1 hm
        have h3 : E0.map (fun e => e.2.ck (thz p m0) e.1) = (Z.map (·.2)).map fun e => e.2.ck θ e.1 := by
          rw [← hZ1, List.map_map, List.map_map]
          refine List.map_congr_left fun z hz => ?_
          exact En.ren_ck_eq hren (hZ3 z hz).1 (hZ3 z hz).2.1
        rw [h3] at hck
        obtain ⟨e2, he2, rfl⟩ := List.mem_map.1 hck
        obtain ⟨z2, hz2, rfl⟩ := List.mem_map.1 he2
        have hzi : some z2.2 ∈ is.map fun i => σ.E[i]? := by rw [hZ2]; exact List.mem_map.2 ⟨z2, hz2, rfl⟩
        obtain ⟨i, hi, hiz⟩ := List.mem_map.1 hzi
        have hLi : (σ.E.map fun e => e.2.ck θ e.1)[i]? = some (z2.2.2.ck θ z2.2.1) := by rw [List.getElem?_map, hiz]; rfl
        refine hh.sh.dj hLj hLi (fun e => Q6c hdj j hj (e ▸ hi)) b ?_ hbc
        show b ∈ locF θ q
        rw [Qaf hl, hFl]
        exact List.mem_singleton.2 rfl
      | roc cs => exact En.ok_off hsh (hh.ok _ hem)
      | lit => trivial
      | itr => trivial
      | any => trivial
      | pin l => exact En.ok_off hsh (hh.ok _ hem)
    have hG : ∀ w', Keep (Off (E0.map fun e => e.2.ck (thz p m0) e.1) w) w w' → c.G w' := fun w' hk => c.gok w' (hh.keep.trans (hk.mono fun b hb => hsh.inOff (hh.sub b hb)))
    have hargs : conL (thz p m0) args = some (us ++ capt) := by
      rw [Qlq hren hva]
      exact Qkx hus hcapt
    unfold Oper.wp
    have : (execOp a.eval ⟨some d, .call { callee := .value x, args := xs, argTypes := ts }, ty, pos, after, none⟩).run c.P w = .ok (.enter fid (us ++ capt).toArray) w := by
      simp [execOp, resolve, hmm, ← hfv, Deferred.ofValue, invoke, callFunc, hf, hn', hb']
    rw [this, Oper.upon_enter]
    refine (hct _ w p (us ++ capt) hG (fun g hg => hsh.inOff (hh.sub g (hgs g hg))) hsh.off hfa hargs).mono fun e w' hr => ?_
    obtain ⟨v, rfl, hg0, η, us', hη, hc', rfl, hs'⟩ := hr
    have hnm : ∀ r, (thz p mk ++ η)[r]? = (θ ++ η)[nthG θ.length fk r]? := fun r => by
      have hlf : fk.length = mk := by rw [← hfk, List.length_take]; omega
      rcases Nat.lt_or_ge r mk with hr | hr
      · have hq : ∃ q, fk[r]? = some q := ⟨_, List.getElem?_eq_getElem (by omega)⟩
        obtain ⟨q, hq⟩ := hq
        have hq' : f[r]? = some q := by
          rw [← hfk, List.getElem?_take, if_pos hr] at hq
          exact hq
        rw [Yg6 hq, List.getElem?_append_left (by rw [Qo8]; exact hr), Qf5 hr]
        exact (Qdl (hget r q hq')).symm
      · rw [Yg7 (by omega), List.getElem?_append_right (by rw [Qo8]; exact hr), List.getElem?_append_right (by omega), Qo8, hlf]
        congr 1
        omega
    have hcall := SH.callM hsh hs'
    have hfin : SH S w1 w' ((fwE fk σ.m E1 ++ pickE σ.E rest).map fun e => e.2.ck (θ ++ η) e.1) := by
      have h4 : SH S w1 w' (E1.map (fun e => e.2.ck (thz p mk ++ η) e.1) ++ (pickE σ.E rest).map fun e => e.2.ck (θ ++ η) e.1) := by
        have h5 := @SH.map2 S w1 w' (Sum (Nat × En) (Nat × En)) (E1.map Sum.inl ++ (pickE σ.E rest).map Sum.inr) (fun s => match s with | .inl e => e.2.ck (thz p mk ++ η) e.1 | .inr e => e.2.ck θ e.1) (fun s => match s with | .inl e => e.2.ck (thz p mk ++ η) e.1 | .inr e => e.2.ck (θ ++ η) e.1) (by
          rw [List.map_append, List.map_map, List.map_map]
          exact hcall) (fun e he hp => by
            cases e with
            | inl e => exact ⟨rfl, fun _ h => h⟩
            | inr e => exact En.ck_ext hp)
        rw [List.map_append, List.map_map, List.map_map] at h5
        exact h5
      have h6 : (fwE fk σ.m E1).map (fun e => e.2.ck (θ ++ η) e.1) = E1.map fun e => e.2.ck (thz p mk ++ η) e.1 := by
        rw [Ybn, List.map_map]
        refine List.map_congr_left fun e _ => ?_
        rw [← h.len]
        exact En.fw_ck hnm e.2 e.1
      rw [List.map_append, h6]
      exact h4
    have hcon : conL (θ ++ η) (fwL fk σ.m res) = some us' := by
      rw [← h.len, Qpv hnm]
      exact hc'
    refine hK η _ w' ⟨by rw [List.length_append, h.len, hη]; rfl, (h.env.ext (θ' := η)).back (h.env.env.put hd (pack us')) (Q98 hcon) hd, S, w1, hh.k0, hh.sub, hfin, fun e he => ?_⟩ hg0
    rcases List.mem_append.1 he with he | he
    · rw [Ybn] at he
      obtain ⟨e0, he0, rfl⟩ := List.mem_map.1 he
      have := Qxf hE1 e0 he0
      obtain ⟨r0, e0⟩ := e0
      cases e0 <;> first | trivial | cases this
    · have : some e ∈ rest.map (nthE σ.E) := by rw [hrest]; exact List.mem_map.2 ⟨e, he, rfl⟩
      obtain ⟨i, _, hi⟩ := List.mem_map.1 this
      exact En.ok_ext (hh.ok e (List.mem_of_getElem? (Qi5 hi)))
end
theorem Run.loopM {c : Cx} {res : List Re} {σ : St} {b : Code} {k : List It} {ι τ : Type} {T : τ} (F : ι → τ) (st : ι → St) (inv : ι → Prop) (μ : ι → Nat) (i0 : ι) (f is : List Nat) (hp : T = F i0) (h0 : inv i0) (hs : Sub f is σ (st i0)) (hn : is.Nodup)
    (body : ∀ i, inv i → T = F i → Run c res (st i) (.code b :: .goal (Yjv c st (fun _ => res) (fun i => inv i ∧ T = F i) μ i) :: k)) : Run c res σ (.code (.loop b) :: k) :=
  Run.loop st (fun _ => res) (fun i => inv i ∧ T = F i) μ i0 f is rfl ⟨h0, hp⟩ hs hn fun i hi => body i hi.1 hi.2
theorem Run.loopkM {c : Cx} {res : List Re} {σ : St} {b : Code} {id : Nat} {k : List It} {ι κ τ : Type} {T : τ} {K : κ → τ} (F : (κ → τ) → ι → τ) (st : ι → St) (inv : ι → Prop) (μ : ι → Nat) (stK : κ → St) (invK : κ → Prop) (i0 : ι) (f is : List Nat)
    (hp : T = F K i0) (h0 : inv i0) (hs : Sub f is σ (st i0)) (hn : is.Nodup)
    (hk : ∀ e, invK e → T = K e → Run c res (stK e) k)
    (body : ∀ K : κ → τ, (∀ e, invK e → T = K e → Run c res (stK e) k) → ∀ i, inv i → T = F K i → Run c res (st i) (.code b :: .goal (Yjv c st (fun _ => res) (fun i => inv i ∧ T = F K i) μ i) :: .blk id :: k)) :
    Run c res σ (.code (.loop b) :: .blk id :: k) :=
  Run.loop st (fun _ => res) (fun i => inv i ∧ T = F K i) μ i0 f is rfl ⟨h0, hp⟩ hs hn fun i hi => body K hk i hi.1 hi.2
theorem Run.exitkM {c : Cx} {res : List Re} {σ : St} {k : List It} {κ τ : Type} {T : τ} {K : κ → τ} {stK : κ → St} {invK : κ → Prop} (hk : ∀ e, invK e → T = K e → Run c res (stK e) k) (e : κ) (f is : List Nat) (hp : T = K e) (hi : invK e) (hs : Sub f is σ (stK e)) (hn : is.Nodup) : Run c res σ k := Run.sub f is _ hs hn (hk e hi hp)
theorem Run.cg {c : Cx} {res : List Re} {σ σ' : St} {k : List It} (hs : σ = σ') (h : Run c res σ' k) : Run c res σ k := by rw [hs]; exact h
end
section
open Go.RowKit
theorem Yl1 (s : ByteArray) (l h : Nat) : (cutS s l h).size ≤ s.size := by
  unfold cutS
  rw [ByteArray.size_extract]
  omega
theorem Qlu {s : ByteArray} {l h : Nat} (hs : s.size ≤ 9223372036854775807) : Dat.good (cutS s l h) := Nat.le_trans (Yl1 s l h) hs
theorem Yhg {xs : List ByteArray} (h : Dat.good xs) (k : Nat) : (nth xs k).size ≤ maxLen := by
  rcases Nat.lt_or_ge k xs.length with hk | hk
  · exact Qar h hk
  · unfold nth
    rw [List.getD_eq_getElem?_getD, List.getElem?_eq_none hk]
    exact Nat.zero_le _
def GE (g : Nat) (w : World) : Prop := ∃ te pe, w.cell? ⟨g, 0, none⟩ = some (.iface te pe)
theorem GE.lt {g : Nat} {w : World} (h : GE g w) : g < w.heap.size := by
  obtain ⟨te, pe, h⟩ := h
  exact World.block_lt_of_cell? _ _ h
theorem GE.keep {g : Nat} {w w' : World} (h : GE g w) (hk : Keep (Old w) w w') : GE g w' := by
  have hl := h.lt
  obtain ⟨te, pe, h⟩ := h
  refine ⟨te, pe, ?_⟩
  rw [← h]
  unfold World.cell?
  rw [show w'.heap[(⟨g, 0, none⟩ : Addr).block]? = w.heap[(⟨g, 0, none⟩ : Addr).block]? from hk.block g hl]
def Yb8 (ok : Bool) (u : Value) : Prop := match ok with
  | true => u = .nilIface
  | false => ∃ t v, u = .iface t v
def CTE (P : Program) (G : World → Prop) (f : FuncId) (args : List Arg) (res : Value → List Re) (ok : Bool) : Prop :=
  ∀ (w : World) (vs : List Value), G w → Q7f w vs args → Calls P f vs.toArray w (fun e w' => ∃ u, Yb8 ok u ∧ ∃ v, e = .returned v ∧ ResR (Old w) w w' v (res u))
theorem Run.callE {c : Cx} {R0 : List Re} {res : Value → List Re} {ok : Bool} {σ : St} {k : List It} {f : FuncId} {x : Operand} {cs : List V} {xs : Array Operand} {ts : Array TypeId} {ty : TypeId} {pos : String} {after : Array Edge} {d : Nat} {r : List Oper} {all : Array Oper} {args : List Arg} {vs : List V}
    (hct : CTE c.P c.G f args res ok) (hfn : FnOk c.P f) (hx : ev σ.ρ x = some (.fn f cs)) (hev : evs σ.ρ xs.toList = some vs) (hargs : Qjj σ.E (vs ++ cs) args) (hd : Nat.blt d σ.n = true)
    (hk : ∀ u, Yb8 ok u → Run c R0 (Qb7 σ d (res u)) (.ops r all :: k)) :
    Run c R0 σ (.ops (⟨some d, .call { callee := .value x, args := xs, argTypes := ts }, ty, pos, after, none⟩ :: r) all :: k) := by
  intro θ a w h
  rw [Qms]
  obtain ⟨us, hus, hm⟩ := h.env.evsL hev
  obtain ⟨S, w1, hh⟩ := h.heap
  obtain ⟨fn, hf, hb, hn⟩ := hfn
  have hn' : ¬ fn.name = "runtime.NumGoroutine" := by simpa using hn
  have hb' : ¬ fn.body = none := by intro e; rw [e] at hb; cases hb
  have hc := h.env.con hx
  simp only [V.con, Option.map_eq_some_iff] at hc
  obtain ⟨capt, hcapt, hfv⟩ := hc
  refine wpList_plain rfl fun K hK => ?_
  have hmm : xs.map a.eval = us.toArray := by
    apply Array.toList_inj.1
    rw [Array.toList_map, Fw.evals h.env.env hm]
  unfold Oper.wp
  have : (execOp a.eval ⟨some d, .call { callee := .value x, args := xs, argTypes := ts }, ty, pos, after, none⟩).run c.P w = .ok (.enter f (us ++ capt).toArray) w := by
    simp [execOp, resolve, hmm, ← hfv, Deferred.ofValue, invoke, callFunc, hf, hn', hb']
  rw [this, Oper.upon_enter]
  refine (hct w (us ++ capt) h.g (hh.argsOk (Qkx hus hcapt) hargs)).mono fun e w' hr => ?_
  obtain ⟨u, hu, v, rfl, hR⟩ := hr
  have hE' : Env σ.n ((d, v) :: selfρ a) (a.put (some d) v) := h.env.env.put hd v
  obtain ⟨η, hR'⟩ := h.res' hR hd hE'
  exact hK _ _ (hk u hu (θ ++ η) _ w' hR')
section
variable {P : Program} {n : Nat} {ρ : List (Nat × Value)} {a : Act} {w : World} {ty : TypeId}
theorem Yk7 (hE : Env n ρ a) {x : Operand} {t t' : Nat} {u : Value} {ok : Bool} (hx : ev? ρ x = some u) (hu : Yb8 ok u) (ht : P.underlying t = some (.interface (P.methodsAt t))) :
    Qbw P a w (.binOp .neq t x (.const .nilIface) t') ty (.bool (!ok)) := by
  intro _ _ _ _
  have e := hE.eval hx
  have e2 : a.eval (.const .nilIface) = .nilIface := rfl
  cases ok with
  | true =>
    cases hu
    have := run_neq_nil_nil (P := P) w t ht
    simp only [execOp, e, e2]
    simp [eqGuard, this]
  | false =>
    obtain ⟨t1, v, rfl⟩ := hu
    have := run_neq_held_nil (P := P) w t t1 v ht
    simp only [execOp, e, e2]
    simp [eqGuard, this]
end
section
variable {c : Cx} {σ : St} {all : Array Oper} {ty : TypeId} {pos : String} {after : Array Edge} {d : Nat}
theorem OpS.errne {t t' : Nat} {x : Operand} {u : Value} {ok : Bool} (hx : ev σ.ρ x = some (.v u)) (hu : Yb8 ok u) (ht : c.P.underlying t = some (.interface (c.P.methodsAt t))) (hd : Nat.blt d σ.n = true) :
    OpS c σ all ⟨some d, .binOp .neq t x (.const .nilIface) t', ty, pos, after, none⟩ (put d (.v (.bool (!ok))) σ) :=
  OpS.of fun θ a w h K Q hK => by
    unfold Oper.wp
    rw [Yk7 (P := c.P) (w := w) (ty := ty) h.env.env (h.env.isv hx) hu ht]
    exact hK [] _ _ (h.put hd rfl).app0
theorem OpS.remG {t t' : Nat} {x y : Operand} {k : IntKind} {i i2 : Int} {j : Nat} {want B : Bool} (hB : gB σ.ρ all j want = some B) (hx : evG σ.ρ x = some (.v (.int k i))) (hy : evG σ.ρ y = some (.v (.int k i2))) (hside : B = true → Qff B True σ.ρ [x, y]) (hj : B = true → i2 ≠ 0) (hd : Nat.blt d σ.n = true) :
    OpS c σ all ⟨some d, .binOp .rem t x y t', ty, pos, after, some (j, want)⟩ (put d (.gd B (.v (.int k (i.tmod i2)))) σ) :=
  OpS.valG hB (fun hb θ a w h => by
    have h1 := Qgv h.env hb (hside hb) x (by simp) _ hx
    have h2 := Qgv h.env hb (hside hb) y (by simp) _ hy
    have e1 : ev? (selfρ a) x = some (.int k i) := by rw [h1.2, ← h1.1]; rfl
    have e2 : ev? (selfρ a) y = some (.int k i2) := by rw [h2.2, ← h2.1]; rfl
    exact Yij h.env.env e1 e2 (hj hb)) hd
end
end
section
open Go.RowKit
def setV (v : V) : List V → Nat → List V
  | [], _ => []
  | x :: r, j => bif Nat.beq j 0 then v :: r else x :: setV v r (Nat.pred j)
def nthV : List V → Nat → Option V
  | [], _ => none
  | x :: r, j => bif Nat.beq j 0 then some x else nthV r (Nat.pred j)
theorem Ych {θ : List Loc} {v u : V} (hv : v.con θ = u.con θ) : ∀ {cs : List V} {j : Nat}, nthV cs j = some u → conL θ (setV v cs j) = conL θ cs
  | [], _, h => by cases h
  | x :: r, j, h => by
    simp only [nthV, setV] at h ⊢
    cases hb : Nat.beq j 0 with
    | true => rw [hb] at h; cases h; simp only [cond, conL, hv]
    | false => rw [hb] at h; simp only [cond, conL]; rw [Ych hv h]
theorem Run.nilC {c : Cx} {res : List Re} {σ : St} {k : List It} (r j : Nat) {α : Type} {d : Dat α} {cs : List V} {T : TypeId} (hl : lkE σ.E r = some (.var cs T)) (hj : nthV cs j = some (.v (.slice none 0 0))) (h : Run c res ⟨σ.n, σ.m + 1, σ.ρ, (σ.m, .own α d []) :: putE r (r, .var (setV (.sl σ.m 0) cs j) T) σ.E⟩ k) : Run c res σ k := by
  intro θ a w hR
  obtain ⟨S, w1, hh⟩ := hR.heap
  have hg : (θ ++ [(⟨none, 0, []⟩ : Loc)])[σ.m]? = some ⟨none, 0, []⟩ := by rw [← hR.len]; exact Qec
  have hv : (V.sl σ.m 0).con (θ ++ [(⟨none, 0, []⟩ : Loc)]) = (V.v (.slice none 0 0)).con (θ ++ [(⟨none, 0, []⟩ : Loc)]) := by simp only [V.con, hg]
  refine h (θ ++ [⟨none, 0, []⟩]) a w ⟨by rw [List.length_append, hR.len]; rfl, hR.env.ext, S, w1, ?_⟩
  have hck : (En.var (setV (.sl σ.m 0) cs j) T).ck (θ ++ [⟨none, 0, []⟩]) r = (En.var cs T).ck (θ ++ [⟨none, 0, []⟩]) r := by simp only [En.ck, Ych hv hj]
  obtain ⟨i, hi, _⟩ := Qn2 hl
  have hex := hh.ext (θ' := [⟨none, 0, []⟩])
  have hLi : (σ.E.map fun e => e.2.ck (θ ++ [⟨none, 0, []⟩]) e.1)[i]? = some ((En.var cs T).ck (θ ++ [⟨none, 0, []⟩]) r) := by rw [List.getElem?_map, hi]; rfl
  have h1 : RH c (θ ++ [⟨none, 0, []⟩]) (putE r (r, .var (setV (.sl σ.m 0) cs j) T) σ.E) S w1 w := by
    refine hex.turn hl rfl rfl rfl (Nat.le_refl _) (fun _ _ _ => rfl) ?_ ?_ ?_ trivial
    · show Ck.ok _ _
      rw [show ((r, En.var (setV (.sl σ.m 0) cs j) T).2.ck (θ ++ [⟨none, 0, []⟩]) (r, En.var (setV (.sl σ.m 0) cs j) T).1) = _ from hck]
      exact hex.sh.ok _ (List.mem_of_getElem? hLi)
    · intro b hb
      rw [show ((r, En.var (setV (.sl σ.m 0) cs j) T).2.ck (θ ++ [⟨none, 0, []⟩]) (r, En.var (setV (.sl σ.m 0) cs j) T).1) = _ from hck] at hb
      exact ⟨.inl hb, (hex.sh.ge _ (List.mem_of_getElem? hLi) b hb).2⟩
    · rw [show ((r, En.var (setV (.sl σ.m 0) cs j) T).2.ck (θ ++ [⟨none, 0, []⟩]) (r, En.var (setV (.sl σ.m 0) cs j) T).1) = _ from hck]
      exact hex.sh.nd hLi
  refine h1.new (Below.refl _ _) (r := σ.m) (e := .own α d []) ?_ ?_ ?_ trivial
  · intro w2 _
    exact ⟨_, hg, Qw0⟩
  · intro b hb
    have hb' : b ∈ locF (θ ++ [(⟨none, 0, []⟩ : Loc)]) σ.m := hb
    rw [Qaf hg] at hb'
    cases hb'
  · show (locF _ σ.m).Nodup
    rw [Qaf hg]
    exact List.nodup_nil
theorem Run.gd {c : Cx} {res : List Re} {σ : St} {k : List It} (r : Nat) {α : Type} {d : Dat α} {xs : List α} (hp : payE σ.E r = some ⟨α, d, xs⟩) (h : (@instDatList α d).good xs → Run c res σ k) : Run c res σ k := by
  intro θ a w hR
  obtain ⟨S, w1, hh⟩ := hR.heap
  refine h ?_ θ a w hR
  rcases Qw4 hp with he | he
  · obtain ⟨l, hl, ho⟩ := hh.own he
    exact Dat.rd_good (α := List α) (B := fun _ => True) (w := w) (cs := [_]) ⟨_, rfl, ho.rd fun _ _ => trivial⟩
  · obtain ⟨l, hl, ho⟩ := hh.ok _ (Qdv he)
    exact Dat.rd_good (α := List α) (B := S) (w := w1) (cs := [_]) ⟨_, rfl, ho⟩
def Qmm {α : Type} : List (Fk α) → Bool
  | [] => true
  | .int _ :: r => Qmm r
  | .byte _ :: r => Qmm r
  | .bool _ :: r => Qmm r
  | .str _ :: r => Qmm r
  | .sl _ _ _ :: _ => false
theorem Ycv {α : Type} {S : Nat → Prop} {w w' : World} {x : α} : ∀ {fs : List (Fk α)} {cs : List Value}, Qmm fs = true → RdL S w x fs cs → OwL w' x fs cs []
  | [], _, _, h => ⟨h, rfl⟩
  | f :: fs, _, hf, ⟨v, r, e, hv, hr⟩ => by
    refine ⟨v, r, [], [], e, rfl, ?_, ?_⟩
    · cases f <;> first | exact ⟨hv, rfl⟩ | cases hf
    · exact Ycv (by cases f <;> first | exact hf | cases hf) hr
theorem Ycu {α : Type} [d : Dat α] (s : Str α) (hf : Qmm s.fk = true) {S : Nat → Prop} {w w' : World} {cs : List Value} {x : α} (h : Dat.rd S w cs x) : Dat.own w' cs x [] := s.omk (Ycv hf (s.op h))
theorem Yho {α : Type} [d : Dat α] (s : Str α) (hf : Qmm s.fk = true) {S : Nat → Prop} {w : World} : ∀ {xs : List α} {a : Addr}, (∀ i x, xs[i]? = some x → ∃ cs, Dat.rd S w cs x ∧ Qbq w (a.add (i * Dat.sz α)) cs) →
    ∃ news : List Value, Qbq w a news ∧ news.length = xs.length * Dat.sz α ∧ (∀ u ∈ news, u.oneCell' = true) ∧ ∀ i x, xs[i]? = some x → Dat.own w (cut (Dat.sz α) news i) x [] := by
  intro xs
  induction xs with
  | nil => intro a _; exact ⟨[], (fun j u h => by simp at h), by simp, (fun u h => by cases h), (fun i x h => by simp at h)⟩
  | cons x xs ih =>
    intro a h
    obtain ⟨cs, hr, hc⟩ := h 0 x rfl
    rw [Nat.zero_mul, Addr.add_zero'] at hc
    have hl : cs.length = Dat.sz α := Dat.rd_len hr
    obtain ⟨news, n1, n2, n3, n4⟩ := ih (a := a.add (Dat.sz α)) fun i y hi => by
      obtain ⟨ds, h1, h2⟩ := h (i + 1) y (by simpa using hi)
      refine ⟨ds, h1, ?_⟩
      rw [Qk0]
      rwa [Nat.add_mul, Nat.one_mul, Nat.add_comm] at h2
    refine ⟨cs ++ news, fun j u hj => ?_, by rw [List.length_append, n2, hl, List.length_cons, Nat.add_mul, Nat.one_mul, Nat.add_comm], fun u hu => (List.mem_append.1 hu).elim (Dat.rd_one hr u) (n3 u), fun i y hi => ?_⟩
    · rcases Nat.lt_or_ge j cs.length with h1 | h1
      · rw [List.getElem?_append_left h1] at hj
        exact hc j u hj
      · rw [List.getElem?_append_right h1] at hj
        have := n1 _ u hj
        rwa [Qk0, hl, show Dat.sz α + (j - Dat.sz α) = j by omega] at this
    · cases i with
      | zero =>
        simp at hi
        subst hi
        have : cut (Dat.sz α) (cs ++ news) 0 = cs := by unfold cut; simp [← hl]
        rw [this]
        exact Ycu s hf hr
      | succ i =>
        have := n4 i y (by simpa using hi)
        have e : cut (Dat.sz α) (cs ++ news) (i + 1) = cut (Dat.sz α) news i := by
          unfold cut
          rw [List.drop_append, List.drop_eq_nil_of_le (by rw [hl, Nat.add_mul]; omega), List.nil_append, hl, Nat.add_mul, Nat.one_mul, Nat.add_sub_cancel]
        rw [e]
        exact this
theorem SlR.src {α : Type} [d : Dat α] (s : Str α) (hf : Qmm s.fk = true) {S : Nat → Prop} {w : World} {u : Value} {xs : List α} (h : SlR S w u xs) :
    ∃ news : List Value, Src w u xs.length news ∧ news.length = xs.length * Dat.sz α ∧ (∀ v ∈ news, v.oneCell' = true) ∧ Qhn w news xs (List.replicate xs.length []) := by
  obtain ⟨A, cap, rfl, h1, h2, h3⟩ := h
  by_cases hx : xs = []
  · subst hx
    exact ⟨[], ⟨A, cap, rfl, (fun j u h => by simp at h)⟩, by simp, (fun u h => by cases h), ⟨by simp, (fun i x h => by simp at h)⟩⟩
  · obtain ⟨ad, rfl, _, hc⟩ := h3 hx
    obtain ⟨news, n1, n2, n3, n4⟩ := Yho s hf hc
    exact ⟨news, ⟨some ad, cap, rfl, fun j u hj => ⟨ad, rfl, n1 j u hj⟩⟩, n2, n3, ⟨by simp, fun i x hi => ⟨[], by rw [List.getElem?_replicate, if_pos (List.getElem?_eq_some_iff.1 hi).1], n4 i x hi⟩⟩⟩
section
variable {c : Cx} {σ : St} {all : Array Oper} {ty : TypeId} {pos : String} {after : Array Edge} {d : Nat}
def XRow (E : List (Nat × En)) (α : Type) (dα : Dat α) (xs : List α) (rs : List Nat) : V → Prop
  | .v x => x = .slice none 0 0 ∧ xs = [] ∧ rs = []
  | .sl r len => len = xs.length ∧ Qlr E r = some ⟨α, dα, xs⟩ ∧ rs = [r]
  | _ => False
theorem RH.xrow {θ : List Loc} {E : List (Nat × En)} {S : Nat → Prop} {w1 w : World} (h : RH c θ E S w1 w) {α : Type} {dα : Dat α} {xs : List α} {rs : List Nat} {v : V} (hx : XRow E α dα xs rs v) {u : Value} (hu : v.con θ = some u) : SlO w u xs (rs.flatMap (locF θ)) ∧ ∀ n ∈ rs, ownN E n := by
  cases v with
  | v x => obtain ⟨rfl, rfl, rfl⟩ := hx; cases hu; exact ⟨Qw0, fun n hn => by cases hn⟩
  | sl r len =>
    obtain ⟨rfl, hp, rfl⟩ := hx
    obtain ⟨l, hl, ho⟩ := h.own (Qix hp)
    simp only [V.con, hl] at hu
    cases hu
    refine ⟨by simpa [Qaf hl] using ho, fun n hn => ?_⟩
    obtain rfl := List.mem_singleton.1 hn
    exact ⟨_, hp⟩
  | pt => exact hx.elim
  | ag => exact hx.elim
  | fn => exact hx.elim
  | tu => exact hx.elim
  | gd => exact hx.elim
def Qdp {α : Type} (σ : St) (d : Nat) (dα : Dat α) (zs : List α) (ns : List Nat) : St := ⟨σ.n, σ.m + 1, (d, .sl σ.m zs.length) :: σ.ρ, (σ.m, .own α dα zs) :: Qfn ns σ.E⟩
theorem Yc3 {α : Type} {dα : Dat α} {t e by' : Nat} {x y : Operand} {z u v : Value} {xs ys : List α} {rs ns : List Nat} {θ : List Loc} {a : Act} {w w1 : World} {S : Nat → Prop} {Q : Exit → Act → World → Prop} {K : Act → World → Prop} (h : R c θ σ a w) (hh : RH c θ σ.E S w1 w) (hex : a.eval x = u) (hey : a.eval y = v)
    (ho : SlO w u xs (rs.flatMap (locF θ))) (hrs : ∀ n ∈ rs ++ ns, ownN σ.E n) (hnd : (rs ++ ns).Nodup)
    (hti : (TI.sl e (Dat.sz α) by').chk c.P t = true) (hz : c.zr e = some z) (hzs : z.cells.size = Dat.sz α) (hd : Nat.blt d σ.n = true) {news : List Value} {Gs : List (List Nat)} (hs : Src w v ys.length news) (hl : news.length = ys.length * Dat.sz α) (h1 : ∀ u ∈ news, u.oneCell' = true) (hy : Qhn w news ys Gs) (hG : Gs.flatten = ns.flatMap (locF θ))
    (hb : (xs.length + ys.length) * by' ≤ 140737488355328) (hm : xs.length + ys.length ≤ 9223372036854775807)
    (hK : ∀ θ' a' w', R c (θ ++ θ') (Qdp σ d dα (xs ++ ys) (rs ++ ns)) a' w' → K a' w') : Oper.wp c.P ⟨some d, .call { callee := .builtin .append, args := #[x, y], argTypes := #[t, t] }, ty, pos, after, none⟩ a w K Q := by
  simp only [TI.chk, Bool.and_eq_true] at hti
  obtain ⟨hnod, _⟩ := hh.nodup hnd hrs
  rw [List.flatMap_append] at hnod
  obtain ⟨nd1, nd2, nd3⟩ := List.nodup_append.1 hnod
  obtain ⟨v', w', F', hrun, h3, h4, h5, h6, h7, h8, h9, h10⟩ := Qpd (P := c.P) (ty := ty) hti.2 rfl (c.zok e z hz) hzs ho nd1 hs hl h1 hy (by rw [hG]; exact nd2) (by rw [hG]; exact fun b hb hF => nd3 b hF b hb rfl) hb (by unfold maxLen; omega)
  unfold Oper.wp
  rw [Yb0 hex hey hrun]
  obtain ⟨A, cap, rfl, _⟩ := (h3.rd (B := Old w') fun b hb => h3.lt b hb).form
  have hgm : (θ ++ [(⟨A, cap, F'⟩ : Loc)])[σ.m]? = some ⟨A, cap, F'⟩ := by rw [← h.len]; exact Qec
  have hFt : ∀ b, b ∈ (rs ++ ns).flatMap (locF θ) → b ∈ (Qkm (rs ++ ns) σ.E).flatMap (fun e => (e.2.ck (θ ++ [⟨A, cap, F'⟩]) e.1).F) := fun b hb => by
    obtain ⟨n, hn, hb⟩ := List.mem_flatMap.1 hb
    exact Qnv hn (hrs n hn) (by
      obtain ⟨⟨α', d', xs'⟩, hp⟩ := hrs n hn
      obtain ⟨l2, hl2, _⟩ := hh.own (Qix hp)
      rw [Qaf (Qdl hl2)]
      rwa [Qaf hl2] at hb)
  rw [List.flatMap_append] at hFt
  have hfuse := (hh.ext (θ' := [⟨A, cap, F'⟩])).fuse (rs ++ ns) (p := (σ.m, En.own α dα (xs ++ ys))) (w' := w') h5 h6 h7 h8
    (fun b hlt hb => h9 b hlt fun hF => hb (hFt b (List.mem_append_left _ hF))) ?_ ?_ ?_ trivial
  · exact hK [⟨A, cap, F'⟩] _ w' ⟨by rw [List.length_append, h.len]; rfl, (h.env.ext (θ' := [⟨A, cap, F'⟩])).put hd (by simp only [V.con, hgm]), S, w1, hfuse⟩
  · intro w2 hw2
    refine ⟨_, hgm, h3.same fun b hb => hw2 b ?_⟩
    show b ∈ locF _ _
    rw [Qaf hgm]
    exact hb
  · intro b hb
    have hb' : b ∈ locF (θ ++ [(⟨A, cap, F'⟩ : Loc)]) σ.m := hb
    rw [Qaf hgm] at hb'
    refine ⟨?_, h3.lt b hb'⟩
    rcases h10 b hb' with h | h | h
    · exact .inl (hFt b (List.mem_append_left _ h))
    · rw [hG] at h
      exact .inl (hFt b (List.mem_append_right _ h))
    · exact .inr h
  · show (locF _ σ.m).Nodup
    rw [Qaf hgm]
    exact h4
theorem OpS.appS {α : Type} {dα : Dat α} [s : @Str α dα] {t e by' : Nat} {x y : Operand} {z : Value} {xs ys : List α} {rs : List Nat} {vx vy : V} (hx : ev σ.ρ x = some vx) (hr : XRow σ.E α dα xs rs vx) (hy : ev σ.ρ y = some vy) (hq : SlOk σ.E α dα ys vy) (hfl : Qmm s.fk = true)
    (ht : c.ti t = .sl e (Dat.sz α) by') (hz : c.zr e = some z) (hzs : z.cells.size = Dat.sz α) (hd : Nat.blt d σ.n = true) (hb : (xs.length + ys.length) * by' ≤ 140737488355328) (hm : xs.length + ys.length ≤ 9223372036854775807) :
    OpS c σ all ⟨some d, .call { callee := .builtin .append, args := #[x, y], argTypes := #[t, t] }, ty, pos, after, none⟩ (Qdp σ d dα (xs ++ ys) rs) :=
  OpS.of fun θ a w h K Q hK => by
    obtain ⟨S, w1, hh⟩ := h.heap
    have hcx := h.env.con hx
    have hcy := h.env.con hy
    obtain ⟨ho, hrs⟩ := hh.xrow hr hcx
    obtain ⟨news, n1, n2, n3, n4⟩ := (hh.slOk hcy hq).src s hfl
    have hti := c.tiok t
    rw [ht] at hti
    have hrn : (rs ++ ([] : List Nat)).Nodup := by
      rw [List.append_nil]
      cases vx with
      | v => obtain ⟨_, _, rfl⟩ := hr; exact List.nodup_nil
      | sl => obtain ⟨_, _, rfl⟩ := hr; simp
      | pt => exact hr.elim
      | ag => exact hr.elim
      | fn => exact hr.elim
      | tu => exact hr.elim
      | gd => exact hr.elim
    refine Yc3 (ns := []) h hh rfl rfl ho (by rw [List.append_nil]; exact hrs) hrn hti hz hzs hd n1 n2 n3 n4 (by simp) hb hm fun θ' a' w' hR => ?_
    rw [List.append_nil] at hR
    exact hK θ' a' w' hR
theorem OpS.appN {α : Type} {dα : Dat α} [s : @Str α dα] {t e by' q T : Nat} {x y : Operand} {z : Value} {xs : List α} (y0 : α) {rs : List Nat} {vx : V} {cs : List V} (hx : ev σ.ρ x = some vx) (hr : XRow σ.E α dα xs rs vx) (hy : ev σ.ρ y = some (.sl q 1)) (hq : lkE σ.E q = some (.lit cs T 1))
    (ht : c.ti t = .sl e (Dat.sz α) by') (hz : c.zr e = some z) (hzs : z.cells.size = Dat.sz α) (hd : Nat.blt d σ.n = true) (hg : Dat.good y0) (hf : FkO σ.E y0 s.fk cs) (h1 : oneL cs = true) (hn : (rs ++ V.names.namesL cs).Nodup) (hb : (xs.length + 1) * by' ≤ 140737488355328) (hm : xs.length + 1 ≤ 9223372036854775807) :
    OpS c σ all ⟨some d, .call { callee := .builtin .append, args := #[x, y], argTypes := #[t, t] }, ty, pos, after, none⟩ (Qdp σ d dα (xs ++ [y0]) (rs ++ V.names.namesL cs)) :=
  OpS.of fun θ a w h K Q hK => by
    obtain ⟨S, w1, hh⟩ := h.heap
    have hcx := h.env.con hx
    obtain ⟨ho, hrs⟩ := hh.xrow hr hcx
    obtain ⟨lq, bq, ccs, ⟨q1, q1'⟩, q2, q3, q4, q5⟩ := (hh.sh.ok _ (List.mem_map.2 ⟨_, Qdv hq, rfl⟩)).here
    simp only at q1
    have hcy := h.env.con hy
    simp only [V.con, q1, Option.some.injEq] at hcy
    have hy0 : Dat.own w ccs y0 ((V.names.namesL cs).flatMap (locF θ)) := s.omk (hh.fkO q4 hf (s.gd hg))
    have hlen : ccs.length = Dat.sz α := Dat.rd_len (Dat.own_rd (B := fun _ => True) hy0 fun _ _ => trivial)
    have hti := c.tiok t
    rw [ht] at hti
    have hsrc : Src w (.slice lq.A 1 lq.cap) 1 ccs := ⟨lq.A, lq.cap, rfl, fun j u hj => ⟨_, q2, (Qbq.row q5) j u hj⟩⟩
    have hels : Qhn w ccs [y0] [(V.names.namesL cs).flatMap (locF θ)] := ⟨rfl, fun i u hi => by
      cases i with
      | zero =>
        simp at hi
        subst hi
        refine ⟨_, rfl, ?_⟩
        have : Fw.cut (Dat.sz α) ccs 0 = ccs := by unfold Fw.cut; simp [← hlen]
        rw [this]
        exact hy0
      | succ i => simp at hi⟩
    have hone : ∀ u ∈ ccs, u.oneCell' = true := List.all_eq_true.1 (Qpg (θ := θ) h1 q4)
    exact Yc3 (ys := [y0]) h hh rfl hcy.symm ho (fun n hn => (List.mem_append.1 hn).elim (hrs n) (Qie hf n)) hn hti hz hzs hd hsrc (by simp [hlen]) hone hels (by simp) hb hm hK
end
end
section
open Go.RowKit
def Fk.pull {σ τ : Type} (f : σ → τ) : Fk τ → Fk σ
  | .int g => .int fun x => g (f x)
  | .byte g => .byte fun x => g (f x)
  | .bool g => .bool fun x => g (f x)
  | .str g => .str fun x => g (f x)
  | .sl β d g => .sl β d fun x => g (f x)
theorem Qju {σ τ : Type} (f : σ → τ) {S : Nat → Prop} {w : World} {x : σ} : ∀ {fk : List (Fk τ)} {cs : List Value}, RdL S w x (fk.map (Fk.pull f)) cs ↔ RdL S w (f x) fk cs
  | [], _ => Iff.rfl
  | g :: fs, cs => by
    have key : ∀ v, (Fk.pull f g).rd S w x v ↔ g.rd S w (f x) v := fun v => by cases g <;> exact Iff.rfl
    constructor
    · rintro ⟨v, r, rfl, h1, h2⟩; exact ⟨v, r, rfl, (key v).1 h1, (Qju f).1 h2⟩
    · rintro ⟨v, r, rfl, h1, h2⟩; exact ⟨v, r, rfl, (key v).2 h1, (Qju f).2 h2⟩
theorem Qjv {σ τ : Type} (f : σ → τ) {w : World} {x : σ} : ∀ {fk : List (Fk τ)} {cs : List Value} {F : List Nat}, OwL w x (fk.map (Fk.pull f)) cs F ↔ OwL w (f x) fk cs F
  | [], _, _ => Iff.rfl
  | g :: fs, cs, F => by
    have key : ∀ v G, (Fk.pull f g).own w x v G ↔ g.own w (f x) v G := fun v G => by cases g <;> exact Iff.rfl
    constructor
    · rintro ⟨v, r, G, H, rfl, rfl, h1, h2⟩; exact ⟨v, r, G, H, rfl, rfl, (key v G).1 h1, (Qjv f).1 h2⟩
    · rintro ⟨v, r, G, H, rfl, rfl, h1, h2⟩; exact ⟨v, r, G, H, rfl, rfl, (key v G).2 h1, (Qjv f).2 h2⟩
theorem Qws {σ τ : Type} (f : σ → τ) {x : σ} : ∀ {fk : List (Fk τ)}, GdL (f x) fk → GdL x (fk.map (Fk.pull f))
  | [], h => h
  | g :: fs, h => ⟨by cases g <;> exact h.1, Qws f h.2⟩
theorem Q68 {α : Type} {S : Nat → Prop} {w : World} {x : α} : ∀ {f g : List (Fk α)} {cs : List Value}, RdL S w x (f ++ g) cs ↔ ∃ c d, cs = c ++ d ∧ RdL S w x f c ∧ RdL S w x g d
  | [], g, cs => ⟨fun h => ⟨[], cs, rfl, rfl, h⟩, fun ⟨c, d, e, h1, h2⟩ => by cases h1; rw [e]; exact h2⟩
  | a :: f, g, cs => by
    constructor
    · rintro ⟨v, r, rfl, h1, h2⟩
      obtain ⟨c, d, rfl, h3, h4⟩ := Q68.1 h2
      exact ⟨v :: c, d, rfl, ⟨v, c, rfl, h1, h3⟩, h4⟩
    · rintro ⟨c, d, rfl, ⟨v, r, rfl, h1, h2⟩, h4⟩
      exact ⟨v, r ++ d, rfl, h1, Q68.2 ⟨r, d, rfl, h2, h4⟩⟩
theorem Q69 {α : Type} {w : World} {x : α} : ∀ {f g : List (Fk α)} {cs : List Value} {F : List Nat}, OwL w x (f ++ g) cs F ↔ ∃ c d G H, cs = c ++ d ∧ F = G ++ H ∧ OwL w x f c G ∧ OwL w x g d H
  | [], g, cs, F => ⟨fun h => ⟨[], cs, [], F, rfl, rfl, ⟨rfl, rfl⟩, h⟩, fun ⟨c, d, G, H, e, e2, ⟨h1, h1'⟩, h2⟩ => by subst h1; subst h1'; rw [e, e2]; exact h2⟩
  | a :: f, g, cs, F => by
    constructor
    · rintro ⟨v, r, G, H, rfl, rfl, h1, h2⟩
      obtain ⟨c, d, G', H', rfl, rfl, h3, h4⟩ := Q69.1 h2
      exact ⟨v :: c, d, G ++ G', H', rfl, by rw [List.append_assoc], ⟨v, c, G, G', rfl, rfl, h1, h3⟩, h4⟩
    · rintro ⟨c, d, G, H, rfl, rfl, ⟨v, r, G', H', rfl, rfl, h1, h2⟩, h4⟩
      exact ⟨v, r ++ d, G', H' ++ H, rfl, by rw [List.append_assoc], h1, Q69.2 ⟨r, d, H', H, rfl, rfl, h2, h4⟩⟩
theorem Yif {α : Type} {x : α} : ∀ {f g : List (Fk α)}, GdL x f → GdL x g → GdL x (f ++ g)
  | [], _, _, h => h
  | _ :: _, _, h, h' => ⟨h.1, Yif h.2 h'⟩
instance : Str Bool where
  fk := [.bool id]
  op h := ⟨_, [], h.1, rfl, rfl⟩
  cl h := by obtain ⟨v, r, rfl, rfl, rfl⟩ := h; exact ⟨rfl, trivial⟩
  oop h := ⟨_, [], [], [], h.1.1, by rw [h.2]; rfl, ⟨rfl, rfl⟩, rfl, rfl⟩
  omk h := by obtain ⟨v, r, G, H, rfl, rfl, ⟨rfl, rfl⟩, rfl, rfl⟩ := h; exact ⟨⟨rfl, trivial⟩, rfl⟩
  gd h := ⟨trivial, trivial⟩
instance {α β : Type} [Dat α] [Dat β] [Str α] [Str β] : Str (α × β) where
  fk := (Str.fk (α := α)).map (Fk.pull Prod.fst) ++ (Str.fk (α := β)).map (Fk.pull Prod.snd)
  op h := by
    obtain ⟨c, d, rfl, h1, h2⟩ := h
    exact Q68.2 ⟨c, d, rfl, (Qju _).2 (Str.op h1), (Qju _).2 (Str.op h2)⟩
  cl h := by
    obtain ⟨c, d, rfl, h1, h2⟩ := Q68.1 h
    exact ⟨c, d, rfl, Str.cl ((Qju _).1 h1), Str.cl ((Qju _).1 h2)⟩
  oop h := by
    obtain ⟨c, d, G, H, rfl, rfl, h1, h2⟩ := h
    exact Q69.2 ⟨c, d, G, H, rfl, rfl, (Qjv _).2 (Str.oop h1), (Qjv _).2 (Str.oop h2)⟩
  omk h := by
    obtain ⟨c, d, G, H, rfl, rfl, h1, h2⟩ := Q69.1 h
    exact ⟨c, d, G, H, rfl, rfl, Str.omk ((Qjv _).1 h1), Str.omk ((Qjv _).1 h2)⟩
  gd h := Yif (Qws Prod.fst (Str.gd h.1)) (Qws Prod.snd (Str.gd h.2))
theorem Qhr {σ τ : Type} [d : Dat τ] [s : Str τ] (f : σ → τ) {S : Nat → Prop} {w : World} {cs : List Value} {x : σ} (h : @Dat.rd σ (Dat.pull f) S w cs x) : RdL S w x (s.fk.map (Fk.pull f)) cs := (Qju f).2 (s.op h)
theorem Qht {σ τ : Type} [d : Dat τ] [s : Str τ] (f : σ → τ) {S : Nat → Prop} {w : World} {cs : List Value} {x : σ} (h : RdL S w x (s.fk.map (Fk.pull f)) cs) : @Dat.rd σ (Dat.pull f) S w cs x := s.cl ((Qju f).1 h)
theorem Qgf {σ τ : Type} [d : Dat τ] [s : Str τ] (f : σ → τ) {w : World} {cs : List Value} {x : σ} {F : List Nat} (h : @Dat.own σ (Dat.pull f) w cs x F) : OwL w x (s.fk.map (Fk.pull f)) cs F := (Qjv f).2 (s.oop h)
theorem Qgg {σ τ : Type} [d : Dat τ] [s : Str τ] (f : σ → τ) {w : World} {cs : List Value} {x : σ} {F : List Nat} (h : OwL w x (s.fk.map (Fk.pull f)) cs F) : @Dat.own σ (Dat.pull f) w cs x F := s.omk ((Qjv f).1 h)
theorem Qhs {σ τ : Type} [d : Dat τ] [s : Str τ] (f : σ → τ) {x : σ} (h : @Dat.good σ (Dat.pull f) x) : GdL x (s.fk.map (Fk.pull f)) := Qws f (s.gd h)
instance : Str Cell where
  fk := [.str (fun x => x.Key), .str (fun x => x.Val)]
  op h := Qhr (fun x : Cell => (x.Key, x.Val)) h
  cl h := Qht (fun x : Cell => (x.Key, x.Val)) h
  oop h := Qgf (fun x : Cell => (x.Key, x.Val)) h
  omk h := Qgg (fun x : Cell => (x.Key, x.Val)) h
  gd h := Qhs (fun x : Cell => (x.Key, x.Val)) h
instance : Str Touch where
  fk := [.sl ByteArray instDatByteArray (fun x => x.Reads), .sl ByteArray instDatByteArray (fun x => x.Writes)]
  op h := Qhr (fun x : Touch => (x.Reads, x.Writes)) h
  cl h := Qht (fun x : Touch => (x.Reads, x.Writes)) h
  oop h := Qgf (fun x : Touch => (x.Reads, x.Writes)) h
  omk h := Qgg (fun x : Touch => (x.Reads, x.Writes)) h
  gd h := Qhs (fun x : Touch => (x.Reads, x.Writes)) h
instance : Str Mach where
  fk := [.sl Cell instDatCell (fun x => x.Store), .sl ByteArray instDatByteArray (fun x => x.Touch.Reads), .sl ByteArray instDatByteArray (fun x => x.Touch.Writes)]
  op h := Qhr (fun x : Mach => (x.Store, x.Touch)) h
  cl h := Qht (fun x : Mach => (x.Store, x.Touch)) h
  oop h := Qgf (fun x : Mach => (x.Store, x.Touch)) h
  omk h := Qgg (fun x : Mach => (x.Store, x.Touch)) h
  gd h := Qhs (fun x : Mach => (x.Store, x.Touch)) h
instance : Str Call where
  fk := [.int (fun x => x.Kind), .str (fun x => x.Name), .str (fun x => x.To), .int (fun x => x.A), .int (fun x => x.B), .str (fun x => x.Text)]
  op h := Qhr (fun x : Call => (x.Kind, x.Name, x.To, x.A, x.B, x.Text)) h
  cl h := Qht (fun x : Call => (x.Kind, x.Name, x.To, x.A, x.B, x.Text)) h
  oop h := Qgf (fun x : Call => (x.Kind, x.Name, x.To, x.A, x.B, x.Text)) h
  omk h := Qgg (fun x : Call => (x.Kind, x.Name, x.To, x.A, x.B, x.Text)) h
  gd h := Qhs (fun x : Call => (x.Kind, x.Name, x.To, x.A, x.B, x.Text)) h
instance : Str Answer where
  fk := [.int (fun x => x.Code), .int (fun x => x.N), .str (fun x => x.Text)]
  op h := Qhr (fun x : Answer => (x.Code, x.N, x.Text)) h
  cl h := Qht (fun x : Answer => (x.Code, x.N, x.Text)) h
  oop h := Qgf (fun x : Answer => (x.Code, x.N, x.Text)) h
  omk h := Qgg (fun x : Answer => (x.Code, x.N, x.Text)) h
  gd h := Qhs (fun x : Answer => (x.Code, x.N, x.Text)) h
instance : Str Step where
  fk := [.int (fun x => x.Proc), .int (fun x => x.Call.Kind), .str (fun x => x.Call.Name), .str (fun x => x.Call.To), .int (fun x => x.Call.A), .int (fun x => x.Call.B), .str (fun x => x.Call.Text)]
  op h := Qhr (fun x : Step => (x.Proc, x.Call)) h
  cl h := Qht (fun x : Step => (x.Proc, x.Call)) h
  oop h := Qgf (fun x : Step => (x.Proc, x.Call)) h
  omk h := Qgg (fun x : Step => (x.Proc, x.Call)) h
  gd h := Qhs (fun x : Step => (x.Proc, x.Call)) h
instance : Str Tx where
  fk := [.int (fun x => x.Id), .int (fun x => x.Age), .int (fun x => x.Proc), .int (fun x => x.Began), .sl Call instDatCall (fun x => x.Calls), .sl Answer instDatAnswer (fun x => x.Answers), .sl ByteArray instDatByteArray (fun x => x.Touch.Reads), .sl ByteArray instDatByteArray (fun x => x.Touch.Writes), .sl Int instDatInt (fun x => x.Marks), .int (fun x => x.State)]
  op h := Qhr (fun x : Tx => (x.Id, x.Age, x.Proc, x.Began, x.Calls, x.Answers, x.Touch, x.Marks, x.State)) h
  cl h := Qht (fun x : Tx => (x.Id, x.Age, x.Proc, x.Began, x.Calls, x.Answers, x.Touch, x.Marks, x.State)) h
  oop h := Qgf (fun x : Tx => (x.Id, x.Age, x.Proc, x.Began, x.Calls, x.Answers, x.Touch, x.Marks, x.State)) h
  omk h := Qgg (fun x : Tx => (x.Id, x.Age, x.Proc, x.Began, x.Calls, x.Answers, x.Touch, x.Marks, x.State)) h
  gd h := Qhs (fun x : Tx => (x.Id, x.Age, x.Proc, x.Began, x.Calls, x.Answers, x.Touch, x.Marks, x.State)) h
instance : Str Journal where
  fk := [.str (fun x => x.Text), .int (fun x => x.Sure)]
  op h := Qhr (fun x : Journal => (x.Text, x.Sure)) h
  cl h := Qht (fun x : Journal => (x.Text, x.Sure)) h
  oop h := Qgf (fun x : Journal => (x.Text, x.Sure)) h
  omk h := Qgg (fun x : Journal => (x.Text, x.Sure)) h
  gd h := Qhs (fun x : Journal => (x.Text, x.Sure)) h
instance : Str Slot where
  fk := [.int (fun x => x.Seq), .sl Cell instDatCell (fun x => x.Cells), .bool (fun x => x.Whole)]
  op h := Qhr (fun x : Slot => (x.Seq, x.Cells, x.Whole)) h
  cl h := Qht (fun x : Slot => (x.Seq, x.Cells, x.Whole)) h
  oop h := Qgf (fun x : Slot => (x.Seq, x.Cells, x.Whole)) h
  omk h := Qgg (fun x : Slot => (x.Seq, x.Cells, x.Whole)) h
  gd h := Qhs (fun x : Slot => (x.Seq, x.Cells, x.Whole)) h
instance : Str Disk where
  fk := [.sl Slot instDatSlot (fun x => x.Slots), .str (fun x => x.Journal.Text), .int (fun x => x.Journal.Sure)]
  op h := Qhr (fun x : Disk => (x.Slots, x.Journal)) h
  cl h := Qht (fun x : Disk => (x.Slots, x.Journal)) h
  oop h := Qgf (fun x : Disk => (x.Slots, x.Journal)) h
  omk h := Qgg (fun x : Disk => (x.Slots, x.Journal)) h
  gd h := Qhs (fun x : Disk => (x.Slots, x.Journal)) h
instance : Str Entry where
  fk := [.int (fun x => x.Seq), .int (fun x => x.Kind), .int (fun x => x.Tx), .sl Step instDatStep (fun x => x.Steps), .sl Answer instDatAnswer (fun x => x.Answers), .int (fun x => x.Began), .int (fun x => x.Ended), .bool (fun x => x.Laid)]
  op h := Qhr (fun x : Entry => (x.Seq, x.Kind, x.Tx, x.Steps, x.Answers, x.Began, x.Ended, x.Laid)) h
  cl h := Qht (fun x : Entry => (x.Seq, x.Kind, x.Tx, x.Steps, x.Answers, x.Began, x.Ended, x.Laid)) h
  oop h := Qgf (fun x : Entry => (x.Seq, x.Kind, x.Tx, x.Steps, x.Answers, x.Began, x.Ended, x.Laid)) h
  omk h := Qgg (fun x : Entry => (x.Seq, x.Kind, x.Tx, x.Steps, x.Answers, x.Began, x.Ended, x.Laid)) h
  gd h := Qhs (fun x : Entry => (x.Seq, x.Kind, x.Tx, x.Steps, x.Answers, x.Began, x.Ended, x.Laid)) h
instance : Str Kernel where
  fk := [.sl Cell instDatCell (fun x => x.Store), .sl Tx instDatTx (fun x => x.Txs), .sl Slot instDatSlot (fun x => x.Disk.Slots), .str (fun x => x.Disk.Journal.Text), .int (fun x => x.Disk.Journal.Sure), .int (fun x => x.Seq), .int (fun x => x.Next), .int (fun x => x.Time), .sl Entry instDatEntry (fun x => x.History), .sl ByteArray instDatByteArray (fun x => x.Seen), .bool (fun x => x.Room)]
  op h := Qhr (fun x : Kernel => (x.Store, x.Txs, x.Disk, x.Seq, x.Next, x.Time, x.History, x.Seen, x.Room)) h
  cl h := Qht (fun x : Kernel => (x.Store, x.Txs, x.Disk, x.Seq, x.Next, x.Time, x.History, x.Seen, x.Room)) h
  oop h := Qgf (fun x : Kernel => (x.Store, x.Txs, x.Disk, x.Seq, x.Next, x.Time, x.History, x.Seen, x.Room)) h
  omk h := Qgg (fun x : Kernel => (x.Store, x.Txs, x.Disk, x.Seq, x.Next, x.Time, x.History, x.Seen, x.Room)) h
  gd h := Qhs (fun x : Kernel => (x.Store, x.Txs, x.Disk, x.Seq, x.Next, x.Time, x.History, x.Seen, x.Room)) h
instance : Str Deed where
  fk := [.int (fun x => x.Kind), .int (fun x => x.N), .int (fun x => x.M), .int (fun x => x.Call.Kind), .str (fun x => x.Call.Name), .str (fun x => x.Call.To), .int (fun x => x.Call.A), .int (fun x => x.Call.B), .str (fun x => x.Call.Text)]
  op h := Qhr (fun x : Deed => (x.Kind, x.N, x.M, x.Call)) h
  cl h := Qht (fun x : Deed => (x.Kind, x.N, x.M, x.Call)) h
  oop h := Qgf (fun x : Deed => (x.Kind, x.N, x.M, x.Call)) h
  omk h := Qgg (fun x : Deed => (x.Kind, x.N, x.M, x.Call)) h
  gd h := Qhs (fun x : Deed => (x.Kind, x.N, x.M, x.Call)) h
end
section
open Go.RowKit
def gl6 : List Int := [1, 10, 100, 1000, 10000, 100000, 1000000, 10000000, 100000000, 1000000000, 10000000000, 100000000000, 1000000000000, 10000000000000, 100000000000000, 1000000000000000, 10000000000000000, 100000000000000000, 1000000000000000000, 10000000000000000000]
def gl7 : List Int := [0, 1, 28, 2, 29, 14, 24, 3, 30, 22, 20, 15, 25, 17, 4, 8, 31, 27, 13, 23, 21, 19, 16, 7, 26, 12, 18, 6, 11, 5, 10, 9]
def gl8 : List Int := [0, 1, 56, 2, 57, 49, 28, 3, 61, 58, 42, 50, 38, 29, 17, 4, 62, 47, 59, 36, 45, 43, 51, 22, 53, 39, 33, 30, 24, 18, 12, 5, 63, 55, 48, 27, 60, 41, 37, 16, 46, 35, 44, 21, 52, 32, 23, 11, 54, 26, 40, 15, 34, 20, 31, 10, 25, 14, 19, 9, 13, 8, 7, 6]
end
end Go.Proofs.YtppialklomgajaaGreatDoor.Fw
