/-
  The abstract machine: calls inside any region, elements of slices, texts, appends, loops. No condition: every lemma is general in the program.
-/
import Derived.Test.YtmjjcihoobnbgaaDoorAm5
namespace Go.Proofs.YtmjjcihoobnbgaaDoor.Fw
open Go.RowKit
set_option linter.unusedVariables false

section
variable {c : Cx} {σ : St} {all : Array Oper} {ty : TypeId} {pos : String} {after : Array Edge} {d : Nat}

/-- The state behind a call. -/
def afterCall (σ : St) (d : Nat) (res : List Re) : St := ⟨σ.n, σ.m + (bindRs σ.m res).2.2, (d, packV (bindRs σ.m res).1) :: σ.ρ, (bindRs σ.m res).2.1 ++ σ.E⟩

theorem R.res' {θ : List Loc} {a a' : Act} {w w' : World} (h : R c θ σ a w) {res : List Re} {v : Value} (hR : ResR (Old w) w w' v res) (hd : Nat.blt d σ.n = true) (hE : Env σ.n ((d, v) :: selfρ a) a') :
    ∃ η, R c (θ ++ η) (afterCall σ d res) a' w' := by
  obtain ⟨hk, vs, F, rfl, hr, hn, hF⟩ := hR
  obtain ⟨S, w1, hh⟩ := h.heap
  have hb := hk.below
  obtain ⟨θ', l1, c1, f1, e1⟩ := bindRs_ok (θ := θ) hr
  rw [h.len] at l1 c1 f1 e1
  refine ⟨θ', by rw [List.length_append, h.len, l1]; rfl, (h.env.ext (θ' := θ')).back hE (packV_con c1) hd, S, w1, ?_⟩
  exact hh.news hb f1 e1 (fun b hb => Nat.le_of_not_lt (hF b hb)) hn

/-- A call's walk: into the callee, by its contract. -/
theorem call_wp {res : List Re} {f : FuncId} {x : Operand} {cs : List V} {xs : Array Operand} {ts : Array TypeId} {args : List Arg} {vs : List V} (hct : CT c.P c.G f args res) (hfn : FnOk c.P f)
    {θ : List Loc} {a : Act} {w : World} (h : R c θ σ a w) {us : List Value} (hus : conL θ vs = some us) (hm : xs.toList.map (ev? (selfρ a)) = us.map some) (hx : (V.fn f cs).con θ = some (a.eval x)) (hargs : ArgsOk σ.E (vs ++ cs) args) (hd : Nat.blt d σ.n = true) {g : Option (Nat × Bool)}
    {K : Act → World → Prop} {Q : Exit → Act → World → Prop} (hK : ∀ v a' w', ResR (Old w) w w' v res → Env σ.n ((d, v) :: selfρ a) a' → a' = a.put (some d) v → K a' w') : Oper.wp c.P ⟨some d, .call { callee := .value x, args := xs, argTypes := ts }, ty, pos, after, g⟩ a w K Q := by
  obtain ⟨S, w1, hh⟩ := h.heap
  obtain ⟨fn, hf, hb, hn⟩ := hfn
  have hn' : ¬ fn.name = "runtime.NumGoroutine" := by simpa using hn
  have hb' : ¬ fn.body = none := by intro e; rw [e] at hb; cases hb
  simp only [V.con, Option.map_eq_some_iff] at hx
  obtain ⟨capt, hcapt, hfv⟩ := hx
  have hmm : xs.map a.eval = us.toArray := by
    apply Array.toList_inj.1
    rw [Array.toList_map, Fw.evals h.env.env hm]
  unfold Oper.wp
  have : (execOp a.eval ⟨some d, .call { callee := .value x, args := xs, argTypes := ts }, ty, pos, after, g⟩).run c.P w = .ok (.enter f (us ++ capt).toArray) w := by
    simp [execOp, resolve, hmm, ← hfv, Deferred.ofValue, invoke, callFunc, hf, hn', hb']
  rw [this, Oper.upon_enter]
  refine (hct w (us ++ capt) h.g (hh.argsOk (conL_app hus hcapt) hargs)).mono fun e w' hr => ?_
  obtain ⟨v, rfl, hR⟩ := hr
  exact hK v _ w' hR (h.env.env.put hd v) rfl

theorem OpS.call {res : List Re} {f : FuncId} {x : Operand} {cs : List V} {xs : Array Operand} {ts : Array TypeId} {args : List Arg} {vs : List V}
    (hct : CT c.P c.G f args res) (hfn : FnOk c.P f) (hx : ev σ.ρ x = some (.fn f cs)) (hev : evs σ.ρ xs.toList = some vs) (hargs : ArgsOk σ.E (vs ++ cs) args) (hd : Nat.blt d σ.n = true) :
    OpS c σ all ⟨some d, .call { callee := .value x, args := xs, argTypes := ts }, ty, pos, after, none⟩ (afterCall σ d res) :=
  OpS.of fun θ a w h K Q hK => by
    obtain ⟨us, hus, hm⟩ := h.env.evsL hev
    refine call_wp hct hfn h hus hm (h.env.con hx) hargs hd fun v a' w' hR hE _ => ?_
    obtain ⟨η, hR'⟩ := h.res' hR hd hE
    exact hK η a' w' hR'

/-- What is known of what a call answers. -/
def ResGd : List Re → Prop
  | [] => True
  | .c _ :: xs => ResGd xs
  | .st _ d _ x :: xs => d.good x ∧ ResGd xs
  | .sl α d ys :: xs => (@instDatList α d).good ys ∧ ResGd xs
theorem resGd {w : World} : ∀ {vs : List Value} {F : List Nat} {xs : List Re}, ResL w vs F xs → ResGd xs
  | [], _, [], _ => trivial
  | [], _, _ :: _, h => h.elim
  | _ :: _, _, [], h => h.elim
  | v :: vs, F, x :: xs, h => by
    obtain ⟨G, H, rfl, h1, h2⟩ := h
    have ih := resGd h2
    cases x with
    | c x => exact ih
    | st α d s x => obtain ⟨cs, _, ho⟩ := h1; exact ⟨Dat.rd_good (Dat.own_rd (B := fun _ => True) ho fun _ _ => trivial), ih⟩
    | sl α d ys =>
      have h1' : SlO w v ys G := h1
      exact ⟨(@instDatList α d).rd_good (B := fun _ => True) (w := w) (cs := [v]) ⟨v, rfl, h1'.rd fun _ _ => trivial⟩, ih⟩

/-- An operation behind which something more is known. -/
def OpSg (c : Cx) (σ : St) (all : Array Oper) (o : Oper) (σ' : St) (G : Prop) : Prop :=
  ∀ θ a w, R c θ σ a w → ∀ (K : Act → World → Prop) (Q : Exit → Act → World → Prop), (∀ η a' w', R c (θ ++ η) σ' a' w' → G → K a' w') →
    if Region.wanted o (yielded all a.tmps) then o.wp c.P a w K Q else K (a.put o.dst undef) w
theorem Run.opg {c : Cx} {res : List Re} {σ σ' : St} {o : Oper} {r : List Oper} {all : Array Oper} {k : List It} {G : Prop} (ho : OpSg c σ all o σ' G) (h : G → Run c res σ' (.ops r all :: k)) : Run c res σ (.ops (o :: r) all :: k) := by
  intro θ a w hR
  rw [kQ_ops]
  refine wpList_step fun K hK => ?_
  exact ho θ a w hR K _ fun η a' w' h' hg => hK _ _ (h hg _ a' w' h')
theorem OpSg.call {res : List Re} {f : FuncId} {x : Operand} {cs : List V} {xs : Array Operand} {ts : Array TypeId} {args : List Arg} {vs : List V}
    (hct : CT c.P c.G f args res) (hfn : FnOk c.P f) (hx : ev σ.ρ x = some (.fn f cs)) (hev : evs σ.ρ xs.toList = some vs) (hargs : ArgsOk σ.E (vs ++ cs) args) (hd : Nat.blt d σ.n = true) :
    OpSg c σ all ⟨some d, .call { callee := .value x, args := xs, argTypes := ts }, ty, pos, after, none⟩ (afterCall σ d res) (ResGd res) := by
  intro θ a w h K Q hK
  rw [if_pos (by simp [Region.wanted])]
  obtain ⟨us, hus, hm⟩ := h.env.evsL hev
  refine call_wp hct hfn h hus hm (h.env.con hx) hargs hd fun v a' w' hR hE _ => ?_
  have hg : ResGd res := by obtain ⟨_, vs, F, _, hr, _⟩ := hR; exact resGd hr
  obtain ⟨η, hR'⟩ := h.res' hR hd hE
  exact hK η a' w' hR' hg

/-- .. under a truth that is not known; what it answers is plain. -/
theorem OpS.callG {u : Value} {f : FuncId} {x : Operand} {cs : List V} {xs : Array Operand} {ts : Array TypeId} {args : List Arg} {vs : List V} {j : Nat} {want B : Bool} (hB : gB σ.ρ all j want = some B)
    (hct : B = true → CT c.P c.G f args [.c u]) (hfn : FnOk c.P f) (hx : ev σ.ρ x = some (.fn f cs)) (hev : ∀ x ∈ xs.toList, (evG σ.ρ x).isSome = true) (hvs : xs.toList.map (evG σ.ρ) = vs.map some) (hside : B = true → sideP B True σ.ρ xs.toList) (hargs : B = true → ArgsOk σ.E (vs ++ cs) args) (hd : Nat.blt d σ.n = true) :
    OpS c σ all ⟨some d, .call { callee := .value x, args := xs, argTypes := ts }, ty, pos, after, some (j, want)⟩ (put d (.gd B (.v u)) σ) := by
  intro θ a w h K Q hK
  have hw := gB_ok h (o := ⟨some d, .call { callee := .value x, args := xs, argTypes := ts }, ty, pos, after, some (j, want)⟩) rfl hB
  rw [hw]
  cases B with
  | true =>
    rw [if_pos rfl]
    have key : ∀ (l : List Operand) (vs : List V), (∀ x ∈ l, x ∈ xs.toList) → l.map (evG σ.ρ) = vs.map some → ∃ us, conL θ vs = some us ∧ l.map (ev? (selfρ a)) = us.map some := by
      intro l
      induction l with
      | nil => intro vs _ h2; cases vs with
        | nil => exact ⟨[], rfl, rfl⟩
        | cons => simp at h2
      | cons y l ih => intro vs h1 h2; cases vs with
        | nil => simp at h2
        | cons v vs =>
          simp only [List.map_cons, List.cons.injEq] at h2
          obtain ⟨us, hus, hm⟩ := ih vs (fun x hx => h1 x (by simp [hx])) h2.2
          have := evG_con h.env rfl (hside rfl) y (h1 y (by simp)) v h2.1
          exact ⟨a.eval y :: us, conL_mk this.1 hus, by rw [List.map_cons, List.map_cons, hm, this.2]⟩
    obtain ⟨us, hus, hm⟩ := key xs.toList vs (fun _ h => h) hvs
    refine call_wp (hct rfl) hfn h hus hm (h.env.con hx) (hargs rfl) hd fun v a' w' hR hE he => ?_
    obtain ⟨hk, us', F, rfl, hr, hn, hF⟩ := hR
    cases us' with
    | nil => exact hr.elim
    | cons u' r =>
      cases r with
      | cons => obtain ⟨_, _, _, _, h3⟩ := hr; exact h3.elim
      | nil =>
        obtain ⟨G, H, rfl, ⟨rfl, rfl⟩, rfl⟩ := hr
        subst he
        obtain ⟨S, w1, hh⟩ := h.heap
        refine hK [] _ w' ?_
        rw [List.append_nil]
        exact ⟨h.len, h.env.put hd (v := .gd true (.v u')) rfl, S, w1, hh.same hk.below⟩
  | false =>
    rw [if_neg (by simp)]
    exact hK [] _ _ (h.put hd (v := .gd false (.v u)) rfl).app0

/-! ## Elements -/
/-- The state behind the address of an element that is only read. -/
def afterIdx {α : Type} (σ : St) (d : Nat) (x : α) (fk : List (Fk α)) : St := ⟨σ.n, σ.m + 1 + nsl fk, (d, .pt σ.m 0) :: σ.ρ, (σ.m, .roc (opn false x (σ.m + 1) fk).1) :: (opn false x (σ.m + 1) fk).2 ++ σ.E⟩

theorem OpS.index {α : Type} {dα : Dat α} [s : Str α] [Inhabited α] {t e by' r len : Nat} {x y : Operand} {i : Int} {k : Nat} {xs : List α} (hx : ev σ.ρ x = some (.sl r len)) (hy : ev σ.ρ y = some (.v (.int .i64 i))) (hp : lkE σ.E r = some (.ros α dα xs)) (hl : len = xs.length) (ht : c.ti t = .sl e (Dat.sz α) by') (hd : Nat.blt d σ.n = true) (hi : i = k) (hk : k < xs.length) :
    OpS c σ all ⟨some d, .indexAddr t x y, ty, pos, after, none⟩ (afterIdx σ d (nth xs k) s.fk) :=
  OpS.of fun θ a w h K Q hK => by
    subst hi
    subst hl
    obtain ⟨S, w1, hh⟩ := h.heap
    obtain ⟨l, hl, hr⟩ := hh.ok _ (lkE_mem hp)
    simp only at hl
    have hc := h.env.con hx
    simp only [V.con, hl, Option.some.injEq] at hc
    obtain ⟨ad, cs, hA, _, hrd, hcs, hb⟩ := SlR.elem hr hk
    have hti := c.tiok t
    rw [ht] at hti
    simp only [TI.chk, Bool.and_eq_true] at hti
    have hx' := h.env.is hx (by rw [h.env.con hx, ← hc, hA])
    have hy' := h.env.isv hy
    have hyy := y_indexAddr (P := c.P) (w := w) (ty := ty) h.env.env hx' hy' (by omega) (by omega) hti.2
    unfold Oper.wp
    rw [hyy]
    let A' : Addr := (ad.add (k * Dat.sz α))
    let lc : Loc := ⟨some A', 0, []⟩
    obtain ⟨θ', hl', hc', he'⟩ := opn_ros (θ := θ ++ [lc]) (s.op hrd)
    rw [List.length_append, List.length_singleton, h.len, List.append_assoc] at hc' he'
    have hg : (θ ++ ([lc] ++ θ'))[σ.m]? = some lc := by rw [← h.len]; exact get_mid
    refine hK ([lc] ++ θ') _ w ⟨?_, (h.env.ext (θ' := [lc] ++ θ')).put hd ?_, S, w1, ?_⟩
    · rw [List.length_append, List.length_append, h.len, hl']
      show σ.m + (1 + nsl s.fk) = σ.m + 1 + nsl s.fk
      omega
    · simp only [V.con, hg, lc, A', Int.toNat_natCast]
    · have hfa : ∀ e ∈ (σ.m, En.roc (opn false (nth xs k) (σ.m + 1) s.fk).1) :: (opn false (nth xs k) (σ.m + 1) s.fk).2, e.2.ok S w1 (θ ++ ([lc] ++ θ')) e.1 ∧ ∀ θ r, e.2.ck θ r = ⟨[], fun _ => True⟩ := by
        intro e he
        rcases List.mem_cons.1 he with rfl | he
        · exact ⟨⟨lc, A', cs, hg, rfl, hc', by show S A'.block; simp only [A', block_add]; exact hb, hcs⟩, fun _ _ => rfl⟩
        · exact he' e he
      exact hh.facts hfa

/-- A byte of a text. -/
def byteAt (s : ByteArray) (k : Nat) : UInt8 := s.data.getD k 0
theorem y_index_str {P : Program} {n : Nat} {ρ : List (Nat × Value)} {a : Act} {w : World} (hE : Env n ρ a) {x y : Operand} {t : Nat} {s : ByteArray} {i : Int} {k : Nat} (hx : ev? ρ x = some (.string s)) (hy : ev? ρ y = some (.int .i64 i)) (hi : i = k) (hk : k < s.size) (hu : P.underlying t = some .string) :
    Yields P a w (.index t x y) ty (.int .u8 (byteAt s k).toNat) := by
  intro _ _ _ _
  subst hi
  have h1 : s[k]? = some (byteAt s k) := by
    simp [byteAt, getElem?_pos, hk, Array.getD_eq_getD_getElem?]
    rfl
  simp [execOp, hE.eval hx, hE.eval hy, Instr.index, asIntOf, run_underlying hu, h1]
theorem OpS.sidx {t : Nat} {x y : Operand} {i : Int} {k : Nat} {s : ByteArray} (hx : ev σ.ρ x = some (.v (.string s))) (hy : ev σ.ρ y = some (.v (.int .i64 i))) (ht : c.ti t = .str) (hd : Nat.blt d σ.n = true) (hi : i = k) (hk : k < s.size) :
    OpS c σ all ⟨some d, .index t x y, ty, pos, after, none⟩ (put d (.v (.int .u8 (byteAt s k).toNat)) σ) :=
  OpS.of fun θ a w h K Q hK => by
    have hti := c.tiok t
    rw [ht] at hti
    simp only [TI.chk, Bool.and_eq_true] at hti
    have hu : c.P.underlying t = some .string := by
      have := hti.2
      split at this
      · assumption
      · cases this
    unfold Oper.wp
    rw [y_index_str (ty := ty) h.env.env (h.env.isv hx) (h.env.isv hy) hi hk hu]
    exact hK [] _ _ (h.put hd rfl).app0

/-- Texts joined. -/
theorem OpS.cat {t t' : Nat} {x y : Operand} {p q : ByteArray} (hx : ev σ.ρ x = some (.v (.string p))) (hy : ev σ.ρ y = some (.v (.string q))) (hd : Nat.blt d σ.n = true) (hs : p.size + q.size ≤ 9223372036854775807) :
    OpS c σ all ⟨some d, .binOp .add t x y t', ty, pos, after, none⟩ (put d (.v (.string (p ++ q))) σ) :=
  OpS.of fun θ a w h K Q hK => by
    unfold Oper.wp
    rw [y_cat (P := c.P) (w := w) (ty := ty) h.env.env (h.env.isv hx) (h.env.isv hy) hs]
    exact hK [] _ _ (h.put hd rfl).app0
/-- Quotient and remainder. -/
theorem OpS.quo {t t' : Nat} {x y : Operand} {k : IntKind} {i j : Int} (hx : ev σ.ρ x = some (.v (.int k i))) (hy : ev σ.ρ y = some (.v (.int k j))) (hd : Nat.blt d σ.n = true) (hj : j ≠ 0) :
    OpS c σ all ⟨some d, .binOp .quo t x y t', ty, pos, after, none⟩ (put d (.v (.int k (k.wrap (i.tdiv j)))) σ) :=
  OpS.of fun θ a w h K Q hK => by
    unfold Oper.wp
    rw [y_quo (P := c.P) (w := w) (ty := ty) h.env.env (h.env.isv hx) (h.env.isv hy) hj]
    exact hK [] _ _ (h.put hd rfl).app0
theorem OpS.rem {t t' : Nat} {x y : Operand} {k : IntKind} {i j : Int} (hx : ev σ.ρ x = some (.v (.int k i))) (hy : ev σ.ρ y = some (.v (.int k j))) (hd : Nat.blt d σ.n = true) (hj : j ≠ 0) :
    OpS c σ all ⟨some d, .binOp .rem t x y t', ty, pos, after, none⟩ (put d (.v (.int k (i.tmod j))) σ) :=
  OpS.of fun θ a w h K Q hK => by
    unfold Oper.wp
    rw [y_rem (P := c.P) (w := w) (ty := ty) h.env.env (h.env.isv hx) (h.env.isv hy) hj]
    exact hK [] _ _ (h.put hd rfl).app0
end

/-! ## What is one's own from now on is only read -/
theorem RH.freeze {c : Cx} {θ : List Loc} {E : List (Nat × En)} {S : Nat → Prop} {w1 w : World} (h : RH c θ E S w1 w) {r : Nat} {α : Type} {d : Dat α} {xs : List α} (he : lkE E r = some (.own α d xs)) : ∃ S', RH c θ (putE r (r, .ros α d xs) E) S' w w := by
  obtain ⟨i, hi, hp⟩ := putE_get he
  obtain ⟨l, hl, ho⟩ := h.own he
  rw [hp]
  have hap := nodup_flatMap_iff.1 h.sh.apart
  have hLi : (E.map fun e => e.2.ck θ e.1)[i]? = some ((En.own α d xs).ck θ r) := by rw [List.getElem?_map, hi]; rfl
  have hFe : ((En.own α d xs).ck θ r).F = l.F := locF_of hl
  refine ⟨fun b => S b ∨ b ∈ l.F, h.k0.trans (h.sh.keep.mono h.sub), fun b hb => .inl (h.sub b hb), ⟨Keep.refl _ _, ?_, ?_, ?_, ?_⟩, ?_⟩
  · intro b hb
    rcases hb with hb | hb
    · exact h.lt b hb
    · exact ho.lt b hb
  · intro x hx
    rw [List.map_set] at hx
    rcases List.mem_or_eq_of_mem_set hx with hx | rfl
    · exact h.sh.ok x hx
    · exact fun _ _ => trivial
  · intro x hx b hb
    rw [List.map_set] at hx
    obtain ⟨j, hj⟩ := List.getElem?_of_mem hx
    rw [List.getElem?_set] at hj
    by_cases e : i = j
    · subst e
      rw [if_pos rfl] at hj
      split at hj
      · cases hj; cases hb
      · cases hj
    · rw [if_neg e] at hj
      have h1 := h.sh.ge x (List.mem_of_getElem? hj) b hb
      refine ⟨fun hS => ?_, h1.2⟩
      rcases hS with hS | hS
      · exact h1.1 hS
      · exact hap.2 i j _ _ hLi hj e b (by rw [hFe]; exact hS) hb
  · rw [List.map_set]
    refine nodup_flatMap_iff.2 ⟨fun j x hj => ?_, fun j k x y hj hk hjk b hb hby => ?_⟩
    · rw [List.getElem?_set] at hj
      split at hj
      · split at hj
        · cases hj; exact List.nodup_nil
        · cases hj
      · exact hap.1 j x hj
    · rw [List.getElem?_set] at hj hk
      by_cases e : i = j
      · rw [if_pos e] at hj
        split at hj
        · cases hj; cases hb
        · cases hj
      · rw [if_neg e] at hj
        by_cases e' : i = k
        · rw [if_pos e'] at hk
          split at hk
          · cases hk; cases hby
          · cases hk
        · rw [if_neg e'] at hk
          exact hap.2 j k x y hj hk hjk b hb hby
  · intro x hx
    rcases List.mem_or_eq_of_mem_set hx with hx | rfl
    · have := h.ok x hx
      obtain ⟨r', e'⟩ := x
      cases e' with
      | ros β d' ys =>
        obtain ⟨l', h1, h2⟩ := this
        exact ⟨l', h1, (h2.below h.sh.keep).mono fun b hb => .inl hb⟩
      | roc cs =>
        obtain ⟨l', A, ccs, h1, h2, h3, h4, h5⟩ := this
        exact ⟨l', A, ccs, h1, h2, h3, .inl h4, h5.keep h.sh.keep h4⟩
      | var => trivial
      | own => trivial
      | lit => trivial
      | itr => trivial
      | pin => exact this
    · exact ⟨l, hl, ho.rd fun b hb => .inr hb⟩

theorem Run.freeze {c : Cx} {res : List Re} {σ : St} {k : List It} (r : Nat) {α : Type} {d : Dat α} {xs : List α} (he : lkE σ.E r = some (.own α d xs)) (h : Run c res ⟨σ.n, σ.m, σ.ρ, putE r (r, .ros α d xs) σ.E⟩ k) : Run c res σ k := by
  intro θ a w hR
  obtain ⟨S, w1, hh⟩ := hR.heap
  obtain ⟨S', hf⟩ := hh.freeze he
  exact h θ a w ⟨hR.len, hR.env, S', w, hf⟩

/-- Nothing is a row of one's own. -/
theorem Run.nil {c : Cx} {res : List Re} {σ : St} {k : List It} (t : Nat) {α : Type} {d : Dat α} (hl : lk σ.ρ t = some (.v (.slice none 0 0))) (h : Run c res ⟨σ.n, σ.m + 1, (t, .sl σ.m 0) :: σ.ρ, (σ.m, .own α d []) :: σ.E⟩ k) : Run c res σ k := by
  intro θ a w hR
  obtain ⟨S, w1, hh⟩ := hR.heap
  have hg : (θ ++ [(⟨none, 0, []⟩ : Loc)])[σ.m]? = some ⟨none, 0, []⟩ := by rw [← hR.len]; exact get_mid
  refine h (θ ++ [⟨none, 0, []⟩]) a w ⟨by rw [List.length_append, hR.len]; rfl, ⟨hR.env.size, hR.env.defers, fun t' v hv => ?_⟩, S, w1, ?_⟩
  · simp only [lk] at hv
    by_cases e : Nat.beq t t' = true
    · rw [e] at hv
      obtain rfl := Nat.eq_of_beq_eq_true e
      cases hv
      obtain ⟨h1, h2⟩ := hR.env.get t _ hl
      refine ⟨?_, h2⟩
      rw [← h1]
      simp only [V.con, hg]
    · rw [Bool.not_eq_true] at e
      rw [e] at hv
      obtain ⟨h1, h2⟩ := hR.env.get t' v hv
      exact ⟨V.con_ext h1, h2⟩
  · refine hh.ext.new (Below.refl _ _) (r := σ.m) (e := .own α d []) ?_ ?_ ?_ trivial
    · intro w2 _
      exact ⟨_, hg, slo_nil⟩
    · intro b hb
      have hb' : b ∈ locF (θ ++ [(⟨none, 0, []⟩ : Loc)]) σ.m := hb
      rw [locF_of hg] at hb'
      cases hb'
    · show (locF _ σ.m).Nodup
      rw [locF_of hg]
      exact List.nodup_nil

/-! ## A state that says less, under other names -/
mutual
def V.ren (f : List Nat) : V → Option V
  | .v x => some (.v x)
  | .sl r n => match f[r]? with
    | some q => some (.sl q n)
    | none => none
  | .pt r o => match f[r]? with
    | some q => some (.pt q o)
    | none => none
  | .ag cs => match renL f cs with
    | some l => some (.ag l)
    | none => none
  | .fn g cs => match renL f cs with
    | some l => some (.fn g l)
    | none => none
  | .tu cs => match renL f cs with
    | some l => some (.tu l)
    | none => none
  | .gd b x => match x.ren f with
    | some y => some (.gd b y)
    | none => none
def renL (f : List Nat) : List V → Option (List V)
  | [] => some []
  | x :: r => match x.ren f, renL f r with
    | some a, some b => some (a :: b)
    | _, _ => none
end

def renθ (f : List Nat) (θ : List Loc) : List Loc := f.map fun q => θ.getD q ⟨none, 0, []⟩
theorem renθ_get {f : List Nat} {θ : List Loc} {i q : Nat} {l : Loc} (h : f[i]? = some q) (hl : θ[q]? = some l) : (renθ f θ)[i]? = some l := by
  simp [renθ, h, hl]

mutual
theorem V.ren_con {f : List Nat} {θ : List Loc} : ∀ {v u : V} {x : Value}, v.ren f = some u → u.con θ = some x → v.con (renθ f θ) = some x
  | .v y, u, x, h, hc => by simp only [V.ren] at h; cases h; exact hc
  | .sl r n, u, x, h, hc => by
    simp only [V.ren] at h
    split at h
    · rename_i q hq
      cases h
      simp only [V.con] at hc ⊢
      split at hc
      · rename_i l hl
        rw [renθ_get hq hl]
        exact hc
      · cases hc
    · cases h
  | .pt r n, u, x, h, hc => by
    simp only [V.ren] at h
    split at h
    · rename_i q hq
      cases h
      simp only [V.con] at hc ⊢
      split at hc
      · rename_i A cap F hl
        rw [renθ_get hq hl]
        exact hc
      · cases hc
    · cases h
  | .ag cs, u, x, h, hc => by
    simp only [V.ren] at h
    split at h
    · rename_i l hl
      cases h
      simp only [V.con, Option.map_eq_some_iff] at hc ⊢
      obtain ⟨us, hus, e⟩ := hc
      exact ⟨us, renL_con hl hus, e⟩
    · cases h
  | .fn g cs, u, x, h, hc => by
    simp only [V.ren] at h
    split at h
    · rename_i l hl
      cases h
      simp only [V.con, Option.map_eq_some_iff] at hc ⊢
      obtain ⟨us, hus, e⟩ := hc
      exact ⟨us, renL_con hl hus, e⟩
    · cases h
  | .tu cs, u, x, h, hc => by
    simp only [V.ren] at h
    split at h
    · rename_i l hl
      cases h
      simp only [V.con, Option.map_eq_some_iff] at hc ⊢
      obtain ⟨us, hus, e⟩ := hc
      exact ⟨us, renL_con hl hus, e⟩
    · cases h
  | .gd b y, u, x, h, hc => by
    simp only [V.ren] at h
    split at h
    · rename_i l hl
      cases h
      cases b with
      | true => simp only [V.con] at hc ⊢; exact V.ren_con hl hc
      | false => exact hc
    · cases h
theorem renL_con {f : List Nat} {θ : List Loc} : ∀ {cs ds : List V} {l : List Value}, renL f cs = some ds → conL θ ds = some l → conL (renθ f θ) cs = some l
  | [], ds, l, h, hc => by simp only [renL] at h; cases h; exact hc
  | x :: r, ds, l, h, hc => by
    simp only [renL] at h
    split at h
    · rename_i a b h1 h2
      cases h
      obtain ⟨u, us, rfl, h3, h4⟩ := conL_cons hc
      exact conL_mk (V.ren_con h1 h3) (renL_con h2 h4)
    · cases h
end

def En.ren (f : List Nat) : En → Option En
  | .var cs T => match renL f cs with
    | some l => some (.var l T)
    | none => none
  | .lit cs T n => match renL f cs with
    | some l => some (.lit l T n)
    | none => none
  | .roc cs => match renL f cs with
    | some l => some (.roc l)
    | none => none
  | .own α d xs => some (.own α d xs)
  | .ros α d xs => some (.ros α d xs)
  | .itr s p => some (.itr s p)
  | .pin l => some (.pin l)

theorem En.ren_ck {f : List Nat} {θ : List Loc} {r q : Nat} {e e' : En} {w : World} (hf : f[r]? = some q) (h : e.ren f = some e') (hp : (e'.ck θ q).p w) : (e.ck (renθ f θ) r).F = (e'.ck θ q).F ∧ ∀ w', (e'.ck θ q).p w' → (e.ck (renθ f θ) r).p w' := by
  cases e with
  | var cs T =>
    simp only [En.ren] at h
    split at h
    · rename_i l' hl'
      cases h
      obtain ⟨l, b, ccs, hl, _⟩ := hp
      refine ⟨by show locF _ _ = locF _ _; rw [locF_of hl, locF_of (renθ_get hf hl)], ?_⟩
      rintro w' ⟨l2, b2, ccs2, h1, h2, h3, h4, h5⟩
      exact ⟨l2, b2, ccs2, renθ_get hf h1, h2, h3, renL_con hl' h4, h5⟩
    · cases h
  | lit cs T n =>
    simp only [En.ren] at h
    split at h
    · rename_i l' hl'
      cases h
      obtain ⟨l, b, ccs, ⟨hl, _⟩, _⟩ := hp
      refine ⟨by show locF _ _ = locF _ _; rw [locF_of hl, locF_of (renθ_get hf hl)], ?_⟩
      rintro w' ⟨l2, b2, ccs2, ⟨h1, h1'⟩, h2, h3, h4, h5⟩
      exact ⟨l2, b2, ccs2, ⟨renθ_get hf h1, h1'⟩, h2, h3, renL_con hl' h4, h5⟩
    · cases h
  | own α d xs =>
    simp only [En.ren] at h
    cases h
    obtain ⟨l, hl, _⟩ := hp
    refine ⟨by show locF _ _ = locF _ _; rw [locF_of hl, locF_of (renθ_get hf hl)], ?_⟩
    rintro w' ⟨l2, h1, h2⟩
    exact ⟨l2, renθ_get hf h1, h2⟩
  | itr s p =>
    simp only [En.ren] at h
    cases h
    obtain ⟨l, b, hl, _⟩ := hp
    refine ⟨by show locF _ _ = locF _ _; rw [locF_of hl, locF_of (renθ_get hf hl)], ?_⟩
    rintro w' ⟨l2, b2, h1, h2, h3, h4⟩
    exact ⟨l2, b2, renθ_get hf h1, h2, h3, h4⟩
  | ros => simp only [En.ren] at h; cases h; exact ⟨rfl, fun _ _ => trivial⟩
  | pin => simp only [En.ren] at h; cases h; exact ⟨rfl, fun _ _ => trivial⟩
  | roc cs =>
    simp only [En.ren] at h
    split at h
    · cases h; exact ⟨rfl, fun _ _ => trivial⟩
    · cases h
theorem En.ren_ok {f : List Nat} {θ : List Loc} {r q : Nat} {e e' : En} {S : Nat → Prop} {w1 : World} (hf : f[r]? = some q) (h : e.ren f = some e') (hp : e'.ok S w1 θ q) : e.ok S w1 (renθ f θ) r := by
  cases e with
  | var => trivial
  | lit => trivial
  | own => trivial
  | itr => trivial
  | pin l => simp only [En.ren] at h; cases h; exact renθ_get hf hp
  | ros α d xs => simp only [En.ren] at h; cases h; obtain ⟨l, h1, h2⟩ := hp; exact ⟨l, renθ_get hf h1, h2⟩
  | roc cs =>
    simp only [En.ren] at h
    split at h
    · rename_i l' hl'
      cases h
      obtain ⟨l, A, ccs, h1, h2, h3, h4, h5⟩ := hp
      exact ⟨l, A, ccs, renθ_get hf h1, h2, renL_con hl' h3, h4, h5⟩
    · cases h

def nthE : List (Nat × En) → Nat → Option (Nat × En)
  | [], _ => none
  | x :: r, k => bif Nat.beq k 0 then some x else nthE r (Nat.pred k)
theorem nthE_spec : ∀ {l : List (Nat × En)} {k : Nat} {o : Nat × En}, nthE l k = some o → l[k]? = some o
  | [], _, _, h => by cases h
  | x :: r, 0, o, h => by simpa [nthE] using h
  | x :: r, k + 1, o, h => by simp [nthE] at h; simpa using nthE_spec h
def nthF : List Nat → Nat → Option Nat
  | [], _ => none
  | x :: r, k => bif Nat.beq k 0 then some x else nthF r (Nat.pred k)
theorem nthF_spec : ∀ {l : List Nat} {k : Nat} {o : Nat}, nthF l k = some o → l[k]? = some o
  | [], _, _, h => by cases h
  | x :: r, 0, o, h => by simpa [nthF] using h
  | x :: r, k + 1, o, h => by simp [nthF] at h; simpa using nthF_spec h

def SubR (f : List Nat) (ρ : List (Nat × V)) : List (Nat × V) → Prop
  | [] => True
  | (t, v) :: r => (match v.ren f with
    | some u => lk ρ t = some u
    | none => False) ∧ SubR f ρ r
def SubE (f : List Nat) (E : List (Nat × En)) : List Nat → List (Nat × En) → Prop
  | [], [] => True
  | i :: is, (r, e) :: E2 => (match nthF f r, e.ren f with
    | some q, some e' => nthE E i = some (q, e')
    | _, _ => False) ∧ SubE f E is E2
  | _, _ => False
/-- The second state follows from the first. -/
def Sub (f is : List Nat) (σ σ2 : St) : Prop := σ2.n = σ.n ∧ f.length = σ2.m ∧ SubR f σ.ρ σ2.ρ ∧ SubE f σ.E is σ2.E

theorem SubR_spec {f : List Nat} {ρ : List (Nat × V)} : ∀ {ρ2 : List (Nat × V)} {t : Nat} {v : V}, SubR f ρ ρ2 → lk ρ2 t = some v → ∃ u, v.ren f = some u ∧ lk ρ t = some u
  | [], _, _, _, h => by cases h
  | (t', v') :: r, t, v, hs, h => by
    simp only [lk] at h
    by_cases e : Nat.beq t' t = true
    · rw [e] at h
      obtain rfl := Nat.eq_of_beq_eq_true e
      cases h
      have := hs.1
      split at this
      · rename_i u hu
        exact ⟨u, hu, this⟩
      · exact this.elim
    · rw [Bool.not_eq_true] at e
      rw [e] at h
      exact SubR_spec hs.2 h

theorem SubE_zip {f : List Nat} {E : List (Nat × En)} : ∀ {is : List Nat} {E2 : List (Nat × En)}, SubE f E is E2 → ∃ Z : List ((Nat × En) × (Nat × En)), Z.map (·.1) = E2 ∧ is.map (fun i => E[i]?) = Z.map (fun z => some z.2) ∧ ∀ z ∈ Z, f[z.1.1]? = some z.2.1 ∧ z.1.2.ren f = some z.2.2 ∧ z.2 ∈ E
  | [], [], _ => ⟨[], rfl, rfl, fun _ h => by cases h⟩
  | [], _ :: _, h => h.elim
  | _ :: _, [], h => h.elim
  | i :: is, (r, e) :: E2, h => by
    obtain ⟨h1, h2⟩ := h
    obtain ⟨Z, hZ1, hZ2, hZ3⟩ := SubE_zip h2
    split at h1
    · rename_i q e' hq he
      refine ⟨((r, e), (q, e')) :: Z, by rw [List.map_cons, hZ1], by rw [List.map_cons, List.map_cons, hZ2, nthE_spec h1], fun z hz => ?_⟩
      rcases List.mem_cons.1 hz with rfl | hz
      · exact ⟨nthF_spec hq, he, List.mem_of_getElem? (nthE_spec h1)⟩
      · exact hZ3 z hz
    · exact h1.elim

theorem R.sub {c : Cx} {θ : List Loc} {σ σ2 : St} {a : Act} {w : World} (h : R c θ σ a w) {f is : List Nat} (hs : Sub f is σ σ2) (hn : is.Nodup) : R c (renθ f θ) σ2 a w := by
  obtain ⟨h1, h2, h3, h4⟩ := hs
  obtain ⟨S, w1, hh⟩ := h.heap
  obtain ⟨Z, hZ1, hZ2, hZ3⟩ := SubE_zip h4
  refine ⟨by rw [← h2]; simp [renθ], ⟨by rw [h1]; exact h.env.size, h.env.defers, fun t v hv => ?_⟩, S, w1, h.heap.elim fun _ _ => hh.k0, hh.sub, ?_, ?_⟩
  · obtain ⟨u, hu, hl⟩ := SubR_spec h3 hv
    obtain ⟨h5, h6⟩ := h.env.get t u hl
    exact ⟨V.ren_con hu h5, by rw [h1]; exact h6⟩
  · have hp := hh.sh.pick (L' := Z.map fun z => z.2.2.ck θ z.2.1) is hn (by
      have h1 : (is.map fun i => (σ.E.map fun e => e.2.ck θ e.1)[i]?) = (is.map fun i => σ.E[i]?).map (Option.map fun e => e.2.ck θ e.1) := by
        rw [List.map_map]
        refine List.map_congr_left fun i _ => ?_
        simp
      rw [h1, hZ2, List.map_map, List.map_map]
      rfl)
    have := @SH.map2 S w1 w _ Z (fun z => z.2.2.ck θ z.2.1) (fun z => z.1.2.ck (renθ f θ) z.1.1) hp fun z hz hpz => En.ren_ck (hZ3 z hz).1 (hZ3 z hz).2.1 hpz
    rw [← hZ1, List.map_map]
    exact this
  · intro e he
    rw [← hZ1] at he
    obtain ⟨z, hz, rfl⟩ := List.mem_map.1 he
    exact En.ren_ok (hZ3 z hz).1 (hZ3 z hz).2.1 (hh.ok _ (hZ3 z hz).2.2)

theorem Run.sub {c : Cx} {res : List Re} {σ : St} {k : List It} (f is : List Nat) (σ2 : St) (hs : Sub f is σ σ2) (hn : is.Nodup) (h : Run c res σ2 k) : Run c res σ k := fun _ _ _ hR => h _ _ _ (hR.sub hs hn)

/-- Where ways meet again. -/
def At (c : Cx) (σ2 : St) (a : Act) (w : World) : Prop := ∃ θ, R c θ σ2 a w
theorem Run.mid {c : Cx} {res : List Re} {σ : St} {y : Code} {k : List It} (σ2 : St) (h : Run c res σ (.code y :: .goal (At c σ2) :: k)) (hk : Run c res σ2 k) : Run c res σ (.code y :: k) := by
  intro θ a w hR
  refine Code.wp_mono (fun e a w q => ?_) (h θ a w hR)
  cases e with
  | normal => obtain ⟨θ', hR'⟩ := q; exact hk θ' a w hR'
  | exit id => exact q
  | goto l => exact q
  | ret => exact q
  | panic ch => exact q
  | outgrown => exact q
theorem Run.at {c : Cx} {res : List Re} {σ σ2 : St} {k : List It} (f is : List Nat) (hs : Sub f is σ σ2) (hn : is.Nodup) : Run c res σ (.goal (At c σ2) :: k) := fun _ _ _ hR => ⟨_, hR.sub hs hn⟩

/-! ## Loops -/
/-- What must hold when a round is over: a state of the loop again, and nearer to the end. -/
def Again (c : Cx) {ι : Type} (st : ι → St) (post : ι → List Re) (inv : ι → Prop) (μ : ι → Nat) (i : ι) (a : Act) (w : World) : Prop := ∃ j, inv j ∧ post j = post i ∧ μ j < μ i ∧ ∃ θ, R c θ (st j) a w

theorem wp_loop_ix {P : Program} {c : Code} {Q : Exit → Act → World → Prop} {ι : Type} (I : ι → Act → World → Prop) (μ : ι → Nat)
    (round : ∀ i a w, I i a w → c.wp P (Exit.then (fun a' w' => ∃ j, I j a' w' ∧ μ j < μ i) Q) a w) (i : ι) (a : Act) (w : World) (h₀ : I i a w) : (Code.loop c).wp P Q a w := by
  intro b k cs
  have key : ∀ n i a w, μ i = n → I i a w →
      ∃ e a' w', Q e a' w' ∧ Arrives P (lone (b.at a (.code c :: .inLoop c :: k)) cs w) b k cs e a' w' := by
    intro n
    induction n using Nat.strongRecOn with
    | _ n ih =>
      intro i a w hn hI
      obtain ⟨e, a₁, w₁, hq, harr⟩ := round i a w hI b (.inLoop c :: k) cs
      cases e with
      | normal =>
        obtain ⟨j, hI₁, hlt⟩ := hq
        obtain ⟨e₂, a₂, w₂, hq₂, harr₂⟩ := ih (μ j) (hn ▸ hlt) j a₁ w₁ rfl hI₁
        exact ⟨e₂, a₂, w₂, hq₂, .of_steps (Steps.trans harr (.one step_inLoop)) harr₂⟩
      | exit id => exact ⟨_, a₁, w₁, hq, .pass (x := .inLoop c) rfl (fun _ _ => .inl (by simp)) harr⟩
      | goto l => exact ⟨_, a₁, w₁, hq, .pass (x := .inLoop c) rfl (fun _ _ => .inl (by simp)) harr⟩
      | ret => exact ⟨_, a₁, w₁, hq, .pass (x := .inLoop c) rfl (fun _ _ => .inl (by simp)) harr⟩
      | panic ch => exact ⟨_, a₁, w₁, hq, .pass (x := .inLoop c) rfl (fun _ _ => .inl (by simp)) harr⟩
      | outgrown => exact ⟨_, a₁, w₁, hq, .pass (x := .inLoop c) rfl (fun _ _ => .inl (by simp)) harr⟩
  obtain ⟨e, a', w', hq, harr⟩ := key _ i a w rfl h₀
  exact ⟨e, a', w', hq, .of_steps (.one step_loop) harr⟩

theorem Run.loop {c : Cx} {res : List Re} {σ : St} {b : Code} {k : List It} {ι : Type} (st : ι → St) (post : ι → List Re) (inv : ι → Prop) (μ : ι → Nat) (i0 : ι) (f is : List Nat) (hp : res = post i0) (h0 : inv i0) (hs : Sub f is σ (st i0)) (hn : is.Nodup)
    (body : ∀ i, inv i → Run c (post i) (st i) (.code b :: .goal (Again c st post inv μ i) :: k)) : Run c res σ (.code (.loop b) :: k) := by
  subst hp
  intro θ a w hR
  refine wp_loop_ix (fun i a w => inv i ∧ post i = post i0 ∧ ∃ θ, R c θ (st i) a w) μ ?_ i0 a w ⟨h0, rfl, _, hR.sub hs hn⟩
  rintro i a w ⟨hi, hpi, θ, hRi⟩
  have := body i hi θ a w hRi
  rw [hpi] at this
  refine Code.wp_mono (fun e a w q => ?_) this
  cases e with
  | normal =>
    obtain ⟨j, h1, h2, h3, h4⟩ := q
    exact ⟨j, ⟨h1, h2.trans hpi, h4⟩, h3⟩
  | exit id => exact q
  | goto l => exact q
  | ret => exact q
  | panic ch => exact q
  | outgrown => exact q

theorem Run.again {c : Cx} {res : List Re} {σ : St} {k : List It} {ι : Type} {st : ι → St} {post : ι → List Re} {inv : ι → Prop} {μ : ι → Nat} {i : ι} (j : ι) (f is : List Nat) (hi : inv j) (hp : post j = post i) (hm : μ j < μ i) (hs : Sub f is σ (st j)) (hn : is.Nodup) : Run c res σ (.goal (Again c st post inv μ i) :: k) :=
  fun θ a w hR => ⟨j, hi, hp, hm, _, hR.sub hs hn⟩
end Go.Proofs.YtmjjcihoobnbgaaDoor.Fw
