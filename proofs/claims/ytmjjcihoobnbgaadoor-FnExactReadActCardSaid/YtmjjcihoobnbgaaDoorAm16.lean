/-
  The abstract machine: appends of whole slices, and of elements that own rows; nothing inside of a struct. No condition: every lemma is general in the program.
-/
import Derived.Test.YtmjjcihoobnbgaaDoorAm15
namespace Go.Proofs.YtmjjcihoobnbgaaDoor.Fw
open Go.RowKit
set_option linter.unusedVariables false
set_option maxRecDepth 100000

/-! ## Nothing, inside of a struct -/
def setV (v : V) : List V → Nat → List V
  | [], _ => []
  | x :: r, j => bif Nat.beq j 0 then v :: r else x :: setV v r (Nat.pred j)
def nthV : List V → Nat → Option V
  | [], _ => none
  | x :: r, j => bif Nat.beq j 0 then some x else nthV r (Nat.pred j)
theorem setV_con {θ : List Loc} {v u : V} (hv : v.con θ = u.con θ) : ∀ {cs : List V} {j : Nat}, nthV cs j = some u → conL θ (setV v cs j) = conL θ cs
  | [], _, h => by cases h
  | x :: r, j, h => by
    simp only [nthV, setV] at h ⊢
    cases hb : Nat.beq j 0 with
    | true => rw [hb] at h; cases h; simp only [cond, conL, hv]
    | false => rw [hb] at h; simp only [cond, conL]; rw [setV_con hv h]
theorem Run.nilA {c : Cx} {res : List Re} {σ : St} {k : List It} (t j : Nat) {α : Type} {d : Dat α} {cs : List V} (hl : lk σ.ρ t = some (.ag cs)) (hj : nthV cs j = some (.v (.slice none 0 0))) (h : Run c res ⟨σ.n, σ.m + 1, (t, .ag (setV (.sl σ.m 0) cs j)) :: σ.ρ, (σ.m, .own α d []) :: σ.E⟩ k) : Run c res σ k := by
  intro θ a w hR
  obtain ⟨S, w1, hh⟩ := hR.heap
  have hg : (θ ++ [(⟨none, 0, []⟩ : Loc)])[σ.m]? = some ⟨none, 0, []⟩ := by rw [← hR.len]; exact get_mid
  have hv : (V.sl σ.m 0).con (θ ++ [(⟨none, 0, []⟩ : Loc)]) = (V.v (.slice none 0 0)).con (θ ++ [(⟨none, 0, []⟩ : Loc)]) := by simp only [V.con, hg]
  refine h (θ ++ [⟨none, 0, []⟩]) a w ⟨by rw [List.length_append, hR.len]; rfl, ⟨hR.env.size, hR.env.defers, fun t' v hv' => ?_⟩, S, w1, ?_⟩
  · simp only [lk] at hv'
    by_cases e : Nat.beq t t' = true
    · rw [e] at hv'
      obtain rfl := Nat.eq_of_beq_eq_true e
      cases hv'
      obtain ⟨h1, h2⟩ := hR.env.get t _ hl
      refine ⟨?_, h2⟩
      rw [← V.con_ext (θ' := [⟨none, 0, []⟩]) h1]
      simp only [V.con, setV_con hv hj]
    · rw [Bool.not_eq_true] at e
      rw [e] at hv'
      obtain ⟨h1, h2⟩ := hR.env.get t' v hv'
      exact ⟨V.con_ext h1, h2⟩
  · refine hh.ext.new (Below.refl _ _) (r := σ.m) (e := .own α d []) ?_ ?_ ?_ trivial
    · intro w2 _
      exact ⟨_, hg, slo_nil⟩
    · intro b hb
      have hb' : b ∈ locF (θ ++ [(⟨none, 0, []⟩ : Loc)]) σ.m := hb
      rw [locF_of hg] at hb'
      cases hb'
    · show (locF _ σ.m).Nodup
      rw [locF_of hg]
      exact List.nodup_nil
/-- .. inside of a variable. -/
theorem Run.nilC {c : Cx} {res : List Re} {σ : St} {k : List It} (r j : Nat) {α : Type} {d : Dat α} {cs : List V} {T : TypeId} (hl : lkE σ.E r = some (.var cs T)) (hj : nthV cs j = some (.v (.slice none 0 0))) (h : Run c res ⟨σ.n, σ.m + 1, σ.ρ, (σ.m, .own α d []) :: putE r (r, .var (setV (.sl σ.m 0) cs j) T) σ.E⟩ k) : Run c res σ k := by
  intro θ a w hR
  obtain ⟨S, w1, hh⟩ := hR.heap
  have hg : (θ ++ [(⟨none, 0, []⟩ : Loc)])[σ.m]? = some ⟨none, 0, []⟩ := by rw [← hR.len]; exact get_mid
  have hv : (V.sl σ.m 0).con (θ ++ [(⟨none, 0, []⟩ : Loc)]) = (V.v (.slice none 0 0)).con (θ ++ [(⟨none, 0, []⟩ : Loc)]) := by simp only [V.con, hg]
  refine h (θ ++ [⟨none, 0, []⟩]) a w ⟨by rw [List.length_append, hR.len]; rfl, hR.env.ext, S, w1, ?_⟩
  have hck : (En.var (setV (.sl σ.m 0) cs j) T).ck (θ ++ [⟨none, 0, []⟩]) r = (En.var cs T).ck (θ ++ [⟨none, 0, []⟩]) r := by simp only [En.ck, setV_con hv hj]
  obtain ⟨i, hi, _⟩ := putE_get hl
  have hex := hh.ext (θ' := [⟨none, 0, []⟩])
  have hLi : (σ.E.map fun e => e.2.ck (θ ++ [⟨none, 0, []⟩]) e.1)[i]? = some ((En.var cs T).ck (θ ++ [⟨none, 0, []⟩]) r) := by rw [List.getElem?_map, hi]; rfl
  have h1 : RH c (θ ++ [⟨none, 0, []⟩]) (putE r (r, .var (setV (.sl σ.m 0) cs j) T) σ.E) S w1 w := by
    refine hex.turn hl rfl rfl rfl (Nat.le_refl _) (fun _ _ _ => rfl) ?_ ?_ ?_ trivial
    · show Ck.ok _ _
      rw [show ((r, En.var (setV (.sl σ.m 0) cs j) T).2.ck (θ ++ [⟨none, 0, []⟩]) (r, En.var (setV (.sl σ.m 0) cs j) T).1) = _ from hck]
      exact hex.sh.ok _ (List.mem_of_getElem? hLi)
    · intro b hb
      rw [show ((r, En.var (setV (.sl σ.m 0) cs j) T).2.ck (θ ++ [⟨none, 0, []⟩]) (r, En.var (setV (.sl σ.m 0) cs j) T).1) = _ from hck] at hb
      exact ⟨.inl hb, (hex.sh.ge _ (List.mem_of_getElem? hLi) b hb).2⟩
    · rw [show ((r, En.var (setV (.sl σ.m 0) cs j) T).2.ck (θ ++ [⟨none, 0, []⟩]) (r, En.var (setV (.sl σ.m 0) cs j) T).1) = _ from hck]
      exact hex.sh.nd hLi
  refine h1.new (Below.refl _ _) (r := σ.m) (e := .own α d []) ?_ ?_ ?_ trivial
  · intro w2 _
    exact ⟨_, hg, slo_nil⟩
  · intro b hb
    have hb' : b ∈ locF (θ ++ [(⟨none, 0, []⟩ : Loc)]) σ.m := hb
    rw [locF_of hg] at hb'
    cases hb'
  · show (locF _ σ.m).Nodup
    rw [locF_of hg]
    exact List.nodup_nil

/-- What is told is good. -/
theorem Run.gd {c : Cx} {res : List Re} {σ : St} {k : List It} (r : Nat) {α : Type} {d : Dat α} {xs : List α} (hp : payE σ.E r = some ⟨α, d, xs⟩) (h : (@instDatList α d).good xs → Run c res σ k) : Run c res σ k := by
  intro θ a w hR
  obtain ⟨S, w1, hh⟩ := hR.heap
  refine h ?_ θ a w hR
  rcases payE_spec hp with he | he
  · obtain ⟨l, hl, ho⟩ := hh.own he
    exact Dat.rd_good (α := List α) (B := fun _ => True) (w := w) (cs := [_]) ⟨_, rfl, ho.rd fun _ _ => trivial⟩
  · obtain ⟨l, hl, ho⟩ := hh.ok _ (lkE_mem he)
    exact Dat.rd_good (α := List α) (B := S) (w := w1) (cs := [_]) ⟨_, rfl, ho⟩

/-! ## Flat data that is read can be laid anew -/
def flats {α : Type} : List (Fk α) → Bool
  | [] => true
  | .int _ :: r => flats r
  | .byte _ :: r => flats r
  | .bool _ :: r => flats r
  | .str _ :: r => flats r
  | .sl _ _ _ :: _ => false
theorem flat_OwL {α : Type} {S : Nat → Prop} {w w' : World} {x : α} : ∀ {fs : List (Fk α)} {cs : List Value}, flats fs = true → RdL S w x fs cs → OwL w' x fs cs []
  | [], _, _, h => ⟨h, rfl⟩
  | f :: fs, _, hf, ⟨v, r, e, hv, hr⟩ => by
    refine ⟨v, r, [], [], e, rfl, ?_, ?_⟩
    · cases f <;> first | exact ⟨hv, rfl⟩ | cases hf
    · exact flat_OwL (by cases f <;> first | exact hf | cases hf) hr
theorem flat_own {α : Type} [d : Dat α] (s : Str α) (hf : flats s.fk = true) {S : Nat → Prop} {w w' : World} {cs : List Value} {x : α} (h : Dat.rd S w cs x) : Dat.own w' cs x [] := s.omk (flat_OwL hf (s.op h))
theorem flat_news {α : Type} [d : Dat α] (s : Str α) (hf : flats s.fk = true) {S : Nat → Prop} {w : World} : ∀ {xs : List α} {a : Addr}, (∀ i x, xs[i]? = some x → ∃ cs, Dat.rd S w cs x ∧ CellsAt w (a.add (i * Dat.sz α)) cs) →
    ∃ news : List Value, CellsAt w a news ∧ news.length = xs.length * Dat.sz α ∧ (∀ u ∈ news, u.oneCell' = true) ∧ ∀ i x, xs[i]? = some x → Dat.own w (cut (Dat.sz α) news i) x [] := by
  intro xs
  induction xs with
  | nil => intro a _; exact ⟨[], (fun j u h => by simp at h), by simp, (fun u h => by cases h), (fun i x h => by simp at h)⟩
  | cons x xs ih =>
    intro a h
    obtain ⟨cs, hr, hc⟩ := h 0 x rfl
    rw [Nat.zero_mul, Addr.add_zero'] at hc
    have hl : cs.length = Dat.sz α := Dat.rd_len hr
    obtain ⟨news, n1, n2, n3, n4⟩ := ih (a := a.add (Dat.sz α)) fun i y hi => by
      obtain ⟨ds, h1, h2⟩ := h (i + 1) y (by simpa using hi)
      refine ⟨ds, h1, ?_⟩
      rw [add_add]
      rwa [Nat.add_mul, Nat.one_mul, Nat.add_comm] at h2
    refine ⟨cs ++ news, fun j u hj => ?_, by rw [List.length_append, n2, hl, List.length_cons, Nat.add_mul, Nat.one_mul, Nat.add_comm], fun u hu => (List.mem_append.1 hu).elim (Dat.rd_one hr u) (n3 u), fun i y hi => ?_⟩
    · rcases Nat.lt_or_ge j cs.length with h1 | h1
      · rw [List.getElem?_append_left h1] at hj
        exact hc j u hj
      · rw [List.getElem?_append_right h1] at hj
        have := n1 _ u hj
        rwa [add_add, hl, show Dat.sz α + (j - Dat.sz α) = j by omega] at this
    · cases i with
      | zero =>
        simp at hi
        subst hi
        have : cut (Dat.sz α) (cs ++ news) 0 = cs := by unfold cut; simp [← hl]
        rw [this]
        exact flat_own s hf hr
      | succ i =>
        have := n4 i y (by simpa using hi)
        have e : cut (Dat.sz α) (cs ++ news) (i + 1) = cut (Dat.sz α) news i := by
          unfold cut
          rw [List.drop_append, List.drop_eq_nil_of_le (by rw [hl, Nat.add_mul]; omega), List.nil_append, hl, Nat.add_mul, Nat.one_mul, Nat.add_sub_cancel]
        rw [e]
        exact this
theorem SlR.src {α : Type} [d : Dat α] (s : Str α) (hf : flats s.fk = true) {S : Nat → Prop} {w : World} {u : Value} {xs : List α} (h : SlR S w u xs) :
    ∃ news : List Value, Src w u xs.length news ∧ news.length = xs.length * Dat.sz α ∧ (∀ v ∈ news, v.oneCell' = true) ∧ Elems w news xs (List.replicate xs.length []) := by
  obtain ⟨A, cap, rfl, h1, h2, h3⟩ := h
  by_cases hx : xs = []
  · subst hx
    exact ⟨[], ⟨A, cap, rfl, (fun j u h => by simp at h)⟩, by simp, (fun u h => by cases h), ⟨by simp, (fun i x h => by simp at h)⟩⟩
  · obtain ⟨ad, rfl, _, hc⟩ := h3 hx
    obtain ⟨news, n1, n2, n3, n4⟩ := flat_news s hf hc
    exact ⟨news, ⟨some ad, cap, rfl, fun j u hj => ⟨ad, rfl, n1 j u hj⟩⟩, n2, n3, ⟨by simp, fun i x hi => ⟨[], by rw [List.getElem?_replicate, if_pos (List.getElem?_eq_some_iff.1 hi).1], n4 i x hi⟩⟩⟩

/-! ## append, in general -/
section
variable {c : Cx} {σ : St} {all : Array Oper} {ty : TypeId} {pos : String} {after : Array Edge} {d : Nat}
/-- A row to append to: nothing, or own data. -/
def XRow (E : List (Nat × En)) (α : Type) (dα : Dat α) (xs : List α) (rs : List Nat) : V → Prop
  | .v x => x = .slice none 0 0 ∧ xs = [] ∧ rs = []
  | .sl r len => len = xs.length ∧ payOE E r = some ⟨α, dα, xs⟩ ∧ rs = [r]
  | _ => False
theorem RH.xrow {θ : List Loc} {E : List (Nat × En)} {S : Nat → Prop} {w1 w : World} (h : RH c θ E S w1 w) {α : Type} {dα : Dat α} {xs : List α} {rs : List Nat} {v : V} (hx : XRow E α dα xs rs v) {u : Value} (hu : v.con θ = some u) : SlO w u xs (rs.flatMap (locF θ)) ∧ ∀ n ∈ rs, ownN E n := by
  cases v with
  | v x => obtain ⟨rfl, rfl, rfl⟩ := hx; cases hu; exact ⟨slo_nil, fun n hn => by cases hn⟩
  | sl r len =>
    obtain ⟨rfl, hp, rfl⟩ := hx
    obtain ⟨l, hl, ho⟩ := h.own (payOE_spec hp)
    simp only [V.con, hl] at hu
    cases hu
    refine ⟨by simpa [locF_of hl] using ho, fun n hn => ?_⟩
    obtain rfl := List.mem_singleton.1 hn
    exact ⟨_, hp⟩
  | pt => exact hx.elim
  | ag => exact hx.elim
  | fn => exact hx.elim
  | tu => exact hx.elim
  | gd => exact hx.elim
/-- The state behind an append: what it is made of is gone. -/
def afterAppN {α : Type} (σ : St) (d : Nat) (dα : Dat α) (zs : List α) (ns : List Nat) : St := ⟨σ.n, σ.m + 1, (d, .sl σ.m zs.length) :: σ.ρ, (σ.m, .own α dα zs) :: dropE ns σ.E⟩
theorem app_core {α : Type} {dα : Dat α} {t e by' : Nat} {x y : Operand} {z u v : Value} {xs ys : List α} {rs ns : List Nat} {θ : List Loc} {a : Act} {w w1 : World} {S : Nat → Prop} {Q : Exit → Act → World → Prop} {K : Act → World → Prop} (h : R c θ σ a w) (hh : RH c θ σ.E S w1 w) (hex : a.eval x = u) (hey : a.eval y = v)
    (ho : SlO w u xs (rs.flatMap (locF θ))) (hrs : ∀ n ∈ rs ++ ns, ownN σ.E n) (hnd : (rs ++ ns).Nodup)
    (hti : (TI.sl e (Dat.sz α) by').chk c.P t = true) (hz : c.zr e = some z) (hzs : z.cells.size = Dat.sz α) (hd : Nat.blt d σ.n = true) {news : List Value} {Gs : List (List Nat)} (hs : Src w v ys.length news) (hl : news.length = ys.length * Dat.sz α) (h1 : ∀ u ∈ news, u.oneCell' = true) (hy : Elems w news ys Gs) (hG : Gs.flatten = ns.flatMap (locF θ))
    (hb : (xs.length + ys.length) * by' ≤ 140737488355328) (hm : xs.length + ys.length ≤ 9223372036854775807)
    (hK : ∀ θ' a' w', R c (θ ++ θ') (afterAppN σ d dα (xs ++ ys) (rs ++ ns)) a' w' → K a' w') : Oper.wp c.P ⟨some d, .call { callee := .builtin .append, args := #[x, y], argTypes := #[t, t] }, ty, pos, after, none⟩ a w K Q := by
  simp only [TI.chk, Bool.and_eq_true] at hti
  obtain ⟨hnod, _⟩ := hh.nodup hnd hrs
  rw [List.flatMap_append] at hnod
  obtain ⟨nd1, nd2, nd3⟩ := List.nodup_append.1 hnod
  obtain ⟨v', w', F', hrun, h3, h4, h5, h6, h7, h8, h9, h10⟩ := run_app (P := c.P) (ty := ty) hti.2 rfl (c.zok e z hz) hzs ho nd1 hs hl h1 hy (by rw [hG]; exact nd2) (by rw [hG]; exact fun b hb hF => nd3 b hF b hb rfl) hb (by unfold maxLen; omega)
  unfold Oper.wp
  rw [app_run hex hey hrun]
  obtain ⟨A, cap, rfl, _⟩ := (h3.rd (B := Old w') fun b hb => h3.lt b hb).form
  have hgm : (θ ++ [(⟨A, cap, F'⟩ : Loc)])[σ.m]? = some ⟨A, cap, F'⟩ := by rw [← h.len]; exact get_mid
  have hFt : ∀ b, b ∈ (rs ++ ns).flatMap (locF θ) → b ∈ (takeE (rs ++ ns) σ.E).flatMap (fun e => (e.2.ck (θ ++ [⟨A, cap, F'⟩]) e.1).F) := fun b hb => by
    obtain ⟨n, hn, hb⟩ := List.mem_flatMap.1 hb
    exact takeE_own hn (hrs n hn) (by
      obtain ⟨⟨α', d', xs'⟩, hp⟩ := hrs n hn
      obtain ⟨l2, hl2, _⟩ := hh.own (payOE_spec hp)
      rw [locF_of (get_ext hl2)]
      rwa [locF_of hl2] at hb)
  rw [List.flatMap_append] at hFt
  have hfuse := (hh.ext (θ' := [⟨A, cap, F'⟩])).fuse (rs ++ ns) (p := (σ.m, En.own α dα (xs ++ ys))) (w' := w') h5 h6 h7 h8
    (fun b hlt hb => h9 b hlt fun hF => hb (hFt b (List.mem_append_left _ hF))) ?_ ?_ ?_ trivial
  · exact hK [⟨A, cap, F'⟩] _ w' ⟨by rw [List.length_append, h.len]; rfl, (h.env.ext (θ' := [⟨A, cap, F'⟩])).put hd (by simp only [V.con, hgm]), S, w1, hfuse⟩
  · intro w2 hw2
    refine ⟨_, hgm, h3.same fun b hb => hw2 b ?_⟩
    show b ∈ locF _ _
    rw [locF_of hgm]
    exact hb
  · intro b hb
    have hb' : b ∈ locF (θ ++ [(⟨A, cap, F'⟩ : Loc)]) σ.m := hb
    rw [locF_of hgm] at hb'
    refine ⟨?_, h3.lt b hb'⟩
    rcases h10 b hb' with h | h | h
    · exact .inl (hFt b (List.mem_append_left _ h))
    · rw [hG] at h
      exact .inl (hFt b (List.mem_append_right _ h))
    · exact .inr h
  · show (locF _ σ.m).Nodup
    rw [locF_of hgm]
    exact h4
/-- A whole slice of flat data. -/
theorem OpS.appS {α : Type} {dα : Dat α} [s : @Str α dα] {t e by' : Nat} {x y : Operand} {z : Value} {xs ys : List α} {rs : List Nat} {vx vy : V} (hx : ev σ.ρ x = some vx) (hr : XRow σ.E α dα xs rs vx) (hy : ev σ.ρ y = some vy) (hq : SlOk σ.E α dα ys vy) (hfl : flats s.fk = true)
    (ht : c.ti t = .sl e (Dat.sz α) by') (hz : c.zr e = some z) (hzs : z.cells.size = Dat.sz α) (hd : Nat.blt d σ.n = true) (hb : (xs.length + ys.length) * by' ≤ 140737488355328) (hm : xs.length + ys.length ≤ 9223372036854775807) :
    OpS c σ all ⟨some d, .call { callee := .builtin .append, args := #[x, y], argTypes := #[t, t] }, ty, pos, after, none⟩ (afterAppN σ d dα (xs ++ ys) rs) :=
  OpS.of fun θ a w h K Q hK => by
    obtain ⟨S, w1, hh⟩ := h.heap
    have hcx := h.env.con hx
    have hcy := h.env.con hy
    obtain ⟨ho, hrs⟩ := hh.xrow hr hcx
    obtain ⟨news, n1, n2, n3, n4⟩ := (hh.slOk hcy hq).src s hfl
    have hti := c.tiok t
    rw [ht] at hti
    have hrn : (rs ++ ([] : List Nat)).Nodup := by
      rw [List.append_nil]
      cases vx with
      | v => obtain ⟨_, _, rfl⟩ := hr; exact List.nodup_nil
      | sl => obtain ⟨_, _, rfl⟩ := hr; simp
      | pt => exact hr.elim
      | ag => exact hr.elim
      | fn => exact hr.elim
      | tu => exact hr.elim
      | gd => exact hr.elim
    refine app_core (ns := []) h hh rfl rfl ho (by rw [List.append_nil]; exact hrs) hrn hti hz hzs hd n1 n2 n3 n4 (by simp) hb hm fun θ' a' w' hR => ?_
    rw [List.append_nil] at hR
    exact hK θ' a' w' hR
/-- An element that owns rows. -/
theorem OpS.appN {α : Type} {dα : Dat α} [s : @Str α dα] {t e by' q T : Nat} {x y : Operand} {z : Value} {xs : List α} (y0 : α) {rs : List Nat} {vx : V} {cs : List V} (hx : ev σ.ρ x = some vx) (hr : XRow σ.E α dα xs rs vx) (hy : ev σ.ρ y = some (.sl q 1)) (hq : lkE σ.E q = some (.lit cs T 1))
    (ht : c.ti t = .sl e (Dat.sz α) by') (hz : c.zr e = some z) (hzs : z.cells.size = Dat.sz α) (hd : Nat.blt d σ.n = true) (hg : Dat.good y0) (hf : FkO σ.E y0 s.fk cs) (h1 : oneL cs = true) (hn : (rs ++ V.names.namesL cs).Nodup) (hb : (xs.length + 1) * by' ≤ 140737488355328) (hm : xs.length + 1 ≤ 9223372036854775807) :
    OpS c σ all ⟨some d, .call { callee := .builtin .append, args := #[x, y], argTypes := #[t, t] }, ty, pos, after, none⟩ (afterAppN σ d dα (xs ++ [y0]) (rs ++ V.names.namesL cs)) :=
  OpS.of fun θ a w h K Q hK => by
    obtain ⟨S, w1, hh⟩ := h.heap
    have hcx := h.env.con hx
    obtain ⟨ho, hrs⟩ := hh.xrow hr hcx
    obtain ⟨lq, bq, ccs, ⟨q1, q1'⟩, q2, q3, q4, q5⟩ := (hh.sh.ok _ (List.mem_map.2 ⟨_, lkE_mem hq, rfl⟩)).here
    simp only at q1
    have hcy := h.env.con hy
    simp only [V.con, q1, Option.some.injEq] at hcy
    have hy0 : Dat.own w ccs y0 ((V.names.namesL cs).flatMap (locF θ)) := s.omk (hh.fkO q4 hf (s.gd hg))
    have hlen : ccs.length = Dat.sz α := Dat.rd_len (Dat.own_rd (B := fun _ => True) hy0 fun _ _ => trivial)
    have hti := c.tiok t
    rw [ht] at hti
    have hsrc : Src w (.slice lq.A 1 lq.cap) 1 ccs := ⟨lq.A, lq.cap, rfl, fun j u hj => ⟨_, q2, (CellsAt.row q5) j u hj⟩⟩
    have hels : Elems w ccs [y0] [(V.names.namesL cs).flatMap (locF θ)] := ⟨rfl, fun i u hi => by
      cases i with
      | zero =>
        simp at hi
        subst hi
        refine ⟨_, rfl, ?_⟩
        have : Fw.cut (Dat.sz α) ccs 0 = ccs := by unfold Fw.cut; simp [← hlen]
        rw [this]
        exact hy0
      | succ i => simp at hi⟩
    have hone : ∀ u ∈ ccs, u.oneCell' = true := List.all_eq_true.1 (oneL_ok (θ := θ) h1 q4)
    exact app_core (ys := [y0]) h hh rfl hcy.symm ho (fun n hn => (List.mem_append.1 hn).elim (hrs n) (fkO_names hf n)) hn hti hz hzs hd hsrc (by simp [hlen]) hone hels (by simp) hb hm hK
end

/-! ## The beginning of an own row -/
theorem SlO.take {α : Type} [d : Dat α] {w : World} {A : Option Addr} {cap n : Nat} {xs : List α} {F : List Nat} (h : SlO w (.slice A xs.length cap) xs F) (hn : n ≤ xs.length) : ∃ F', (∀ b ∈ F', b ∈ F) ∧ (F.Nodup → F'.Nodup) ∧ SlO w (.slice A n cap) (xs.take n) F' := by
  rcases h with ⟨e1, rfl, rfl⟩ | ⟨g, cap', arr, T, Fs, e1, e2, e3, e4, e5, rfl, e7, e8⟩
  · injection e1 with e1 e2 e3
    subst e1; subst e3
    obtain rfl : n = 0 := by simpa using hn
    exact ⟨[], fun b hb => hb, fun h => h, .inl ⟨rfl, rfl, rfl⟩⟩
  · injection e1 with a1 a2 a3
    subst a1; subst a3
    refine ⟨g :: (Fs.take n).flatten, fun b hb => ?_, fun hnd => ?_, .inr ⟨g, cap, arr, T, Fs.take n, by rw [List.length_take, Nat.min_eq_left hn], e2, by rw [List.length_take]; omega, e4, e5, rfl, by simp [e7], fun i x hi => ?_⟩⟩
    · rcases List.mem_cons.1 hb with rfl | hb
      · exact List.mem_cons_self
      · obtain ⟨G, hG, hbG⟩ := List.mem_flatten.1 hb
        exact List.mem_cons_of_mem _ (List.mem_flatten.2 ⟨G, List.mem_of_mem_take hG, hbG⟩)
    · rw [List.nodup_cons] at hnd ⊢
      have hsub : (Fs.take n).flatten.Sublist Fs.flatten := by
        conv => rhs; rw [← List.take_append_drop n Fs, List.flatten_append]
        exact List.sublist_append_left _ _
      exact ⟨fun hb => hnd.1 (hsub.subset hb), hsub.nodup hnd.2⟩
    · rw [List.getElem?_take] at hi
      split at hi
      · rename_i hlt
        obtain ⟨G, hG, ho⟩ := e8 i x hi
        exact ⟨G, by rw [List.getElem?_take, if_pos hlt]; exact hG, ho⟩
      · cases hi
end Go.Proofs.YtmjjcihoobnbgaaDoor.Fw
