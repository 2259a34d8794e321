/-
  The abstract machine: loops with what follows told once. No condition: every lemma is general in the program.
-/
import Derived.Test.YtmjjcihoobnbgaaDoorAm12
namespace Go.Proofs.YtmjjcihoobnbgaaDoor.Fw
open Go.RowKit
set_option linter.unusedVariables false

/-- A loop inside of its block, and what follows. -/
theorem Run.loopk {c : Cx} {res : List Re} {σ : St} {b : Code} {id : Nat} {k : List It} {ι κ τ : Type} (mk : τ → List Re) {K : κ → τ} (F : (κ → τ) → ι → τ) (st : ι → St) (inv : ι → Prop) (μ : ι → Nat) (stK : κ → St) (invK : κ → Prop) (i0 : ι) (f is : List Nat)
    (hp : res = mk (F K i0)) (h0 : inv i0) (hs : Sub f is σ (st i0)) (hn : is.Nodup)
    (hk : ∀ e, invK e → ∀ y, y = K e → Run c (mk y) (stK e) k)
    (body : ∀ K : κ → τ, (∀ e, invK e → Run c (mk (K e)) (stK e) k) → ∀ i, inv i → Run c (mk (F K i)) (st i) (.code b :: .goal (Again c st (fun i => mk (F K i)) inv μ i) :: .blk id :: k)) :
    Run c res σ (.code (.loop b) :: .blk id :: k) :=
  Run.loop st (fun i => mk (F K i)) inv μ i0 f is hp h0 hs hn (body K fun e he => hk e he _ rfl)
theorem Run.exitk {c : Cx} {res : List Re} {σ : St} {k : List It} {κ τ : Type} {mk : τ → List Re} {K : κ → τ} {stK : κ → St} {invK : κ → Prop} (hk : ∀ e, invK e → Run c (mk (K e)) (stK e) k) (e : κ) (f is : List Nat) (hp : res = mk (K e)) (hi : invK e) (hs : Sub f is σ (stK e)) (hn : is.Nodup) : Run c res σ k := by
  subst hp
  exact Run.sub f is _ hs hn (hk e hi)

/-! ## Structs of plain fields -/
def flatV {α : Type} (x : α) : List (Fk α) → Option (List V)
  | [] => some []
  | .int g :: fs => cons2 (some (.v (.int .i64 (g x)))) (flatV x fs)
  | .byte g :: fs => cons2 (some (.v (.int .u8 (g x).toNat))) (flatV x fs)
  | .bool g :: fs => cons2 (some (.v (.bool (g x)))) (flatV x fs)
  | .str g :: fs => cons2 (some (.v (.string (g x)))) (flatV x fs)
  | .sl _ _ _ :: _ => none
theorem cons2_spec {v : V} {o : Option (List V)} {vs : List V} (h : cons2 (some v) o = some vs) : ∃ r, o = some r ∧ vs = v :: r := by
  cases o with
  | none => cases h
  | some r => cases h; exact ⟨r, rfl, rfl⟩
theorem OwL_flat {α : Type} {w : World} {x : α} {θ : List Loc} : ∀ {fk : List (Fk α)} {cs : List Value} {F : List Nat} {vs : List V}, OwL w x fk cs F → flatV x fk = some vs → conL θ vs = some cs
  | [], cs, F, vs, h, hf => by obtain ⟨rfl, _⟩ := h; cases hf; rfl
  | f :: fs, cs, F, vs, h, hf => by
    obtain ⟨v, r, G, H, rfl, rfl, h1, h2⟩ := h
    cases f with
    | int g => obtain ⟨us, hu, rfl⟩ := cons2_spec hf; exact conL_mk (by rw [h1.1.1]; rfl) (OwL_flat h2 hu)
    | byte g => obtain ⟨us, hu, rfl⟩ := cons2_spec hf; exact conL_mk (by rw [h1.1]; rfl) (OwL_flat h2 hu)
    | bool g => obtain ⟨us, hu, rfl⟩ := cons2_spec hf; exact conL_mk (by rw [h1.1]; rfl) (OwL_flat h2 hu)
    | str g => obtain ⟨us, hu, rfl⟩ := cons2_spec hf; exact conL_mk (by rw [h1.1.1]; rfl) (OwL_flat h2 hu)
    | sl => cases hf

section
variable {c : Cx} {σ : St} {all : Array Oper} {ty : TypeId} {pos : String} {after : Array Edge} {d : Nat}
/-- A call under a truth that is not known; what it answers is a struct of plain fields. -/
theorem OpS.callGs {α : Type} {dα : Dat α} {s : @Str α dα} {r : α} {cv : List V} {f : FuncId} {x : Operand} {cs : List V} {xs : Array Operand} {ts : Array TypeId} {args : List Arg} {vs : List V} {j : Nat} {want B : Bool} (hB : gB σ.ρ all j want = some B)
    (hct : B = true → CT c.P c.G f args [.st α dα s r]) (hfl : flatV r s.fk = some cv) (hfn : FnOk c.P f) (hx : ev σ.ρ x = some (.fn f cs)) (hvs : xs.toList.map (evG σ.ρ) = vs.map some) (hside : B = true → sideP B True σ.ρ xs.toList) (hargs : B = true → ArgsOk σ.E (vs ++ cs) args) (hd : Nat.blt d σ.n = true) :
    OpS c σ all ⟨some d, .call { callee := .value x, args := xs, argTypes := ts }, ty, pos, after, some (j, want)⟩ (put d (.gd B (.ag cv)) σ) := by
  intro θ a w h K Q hK
  have hw := gB_ok h (o := ⟨some d, .call { callee := .value x, args := xs, argTypes := ts }, ty, pos, after, some (j, want)⟩) rfl hB
  rw [hw]
  cases B with
  | true =>
    rw [if_pos rfl]
    have key : ∀ (l : List Operand) (vs : List V), (∀ x ∈ l, x ∈ xs.toList) → l.map (evG σ.ρ) = vs.map some → ∃ us, conL θ vs = some us ∧ l.map (ev? (selfρ a)) = us.map some := by
      intro l
      induction l with
      | nil => intro vs _ h2; cases vs with
        | nil => exact ⟨[], rfl, rfl⟩
        | cons => simp at h2
      | cons y l ih => intro vs h1 h2; cases vs with
        | nil => simp at h2
        | cons v vs =>
          simp only [List.map_cons, List.cons.injEq] at h2
          obtain ⟨us, hus, hm⟩ := ih vs (fun x hx => h1 x (by simp [hx])) h2.2
          have := evG_con h.env rfl (hside rfl) y (h1 y (by simp)) v h2.1
          exact ⟨a.eval y :: us, conL_mk this.1 hus, by rw [List.map_cons, List.map_cons, hm, this.2]⟩
    obtain ⟨us, hus, hm⟩ := key xs.toList vs (fun _ h => h) hvs
    refine call_wp (hct rfl) hfn h hus hm (h.env.con hx) (hargs rfl) hd fun v a' w' hR hE he => ?_
    obtain ⟨hk, us', F, rfl, hr, hn, hF⟩ := hR
    cases us' with
    | nil => exact hr.elim
    | cons u' r' =>
      cases r' with
      | cons => obtain ⟨_, _, _, _, h3⟩ := hr; exact h3.elim
      | nil =>
        obtain ⟨G, H, rfl, ⟨cs', rfl, ho⟩, rfl⟩ := hr
        subst he
        obtain ⟨S, w1, hh⟩ := h.heap
        refine hK [] _ w' ?_
        rw [List.append_nil]
        refine ⟨h.len, h.env.put hd (v := .gd true (.ag cv)) ?_, S, w1, hh.same hk.below⟩
        show (conL θ cv).map _ = _
        rw [OwL_flat (θ := θ) (s.oop ho) hfl]
        rfl
  | false =>
    rw [if_neg (by simp)]
    exact hK [] _ _ (h.put hd (v := .gd false (.ag cv)) rfl).app0

/-- A value under a truth that is not known. -/
theorem OpS.valG {op : Op} {u : Value} {j : Nat} {want B : Bool} (hB : gB σ.ρ all j want = some B) (hy : B = true → ∀ θ a w, R c θ σ a w → Yields c.P a w op ty u) (hd : Nat.blt d σ.n = true) : OpS c σ all ⟨some d, op, ty, pos, after, some (j, want)⟩ (put d (.gd B (.v u)) σ) := by
  intro θ a w h K Q hK
  have hw := gB_ok h (o := ⟨some d, op, ty, pos, after, some (j, want)⟩) rfl hB
  rw [hw]
  cases B with
  | true =>
    rw [if_pos rfl]
    unfold Oper.wp
    rw [hy rfl θ a w h]
    exact hK [] _ _ (h.put hd (v := .gd true (.v u)) rfl).app0
  | false =>
    rw [if_neg (by simp)]
    exact hK [] _ _ (h.put hd (v := .gd false (.v u)) rfl).app0

def eqP (P : Program) (t : Nat) (cx cy : List Value) (r : Bool) : Prop := P.eqGuardType P.depth t = false ∧ ∀ w, (Op.equalIn 10000 t (.agg cx.toArray) (.agg cy.toArray)).run P w = .ok r w
def plainL : List V → Option (List Value)
  | [] => some []
  | .v u :: r => match plainL r with
    | some l => some (u :: l)
    | none => none
  | _ :: _ => none
theorem plainL_con {θ : List Loc} : ∀ {vs : List V} {us : List Value}, plainL vs = some us → conL θ vs = some us
  | [], us, h => by cases h; rfl
  | .v u :: r, us, h => by
    simp only [plainL] at h
    split at h
    · rename_i l hl; cases h; exact conL_mk rfl (plainL_con hl)
    · cases h
  | .sl _ _ :: _, _, h => by cases h
  | .pt _ _ :: _, _, h => by cases h
  | .ag _ :: _, _, h => by cases h
  | .fn _ _ :: _, _, h => by cases h
  | .tu _ :: _, _, h => by cases h
  | .gd _ _ :: _, _, h => by cases h
/-- Structs of plain fields compared. -/
theorem y_eqs {θ : List Loc} {a : Act} {w : World} {op : BinOp} {t t' : Nat} {x y : Operand} {vx vy : List V} {cx cy : List Value} {r : Bool} (h : R c θ σ a w) (h1 : (V.ag vx).con θ = some (a.eval x) ∧ ev? (selfρ a) x = some (a.eval x)) (h2 : (V.ag vy).con θ = some (a.eval y) ∧ ev? (selfρ a) y = some (a.eval y)) (hcx : plainL vx = some cx) (hcy : plainL vy = some cy) (he : eqP c.P t cx cy r) (ho : op = .eql ∨ op = .neq) :
    Yields c.P a w (.binOp op t x y t') ty (.bool (match op with | .eql => r | _ => !r)) := by
  have e1 : a.eval x = .agg cx.toArray := by
    have := h1.1
    simp only [V.con, plainL_con hcx, Option.map_some, Option.some.injEq] at this
    exact this.symm
  have e2 : a.eval y = .agg cy.toArray := by
    have := h2.1
    simp only [V.con, plainL_con hcy, Option.map_some, Option.some.injEq] at this
    exact this.symm
  rcases ho with rfl | rfl
  · exact y_eql_agg h.env.env (by rw [h1.2, e1]) (by rw [h2.2, e2]) he.1 he.2
  · exact y_neq_agg h.env.env (by rw [h1.2, e1]) (by rw [h2.2, e2]) he.1 he.2
theorem OpS.eqs {op : BinOp} {t t' : Nat} {x y : Operand} {vx vy : List V} {cx cy : List Value} {r : Bool} (hx : ev σ.ρ x = some (.ag vx)) (hy : ev σ.ρ y = some (.ag vy)) (hcx : plainL vx = some cx) (hcy : plainL vy = some cy) (he : eqP c.P t cx cy r) (ho : op = .eql ∨ op = .neq) (hd : Nat.blt d σ.n = true) :
    OpS c σ all ⟨some d, .binOp op t x y t', ty, pos, after, none⟩ (put d (.v (.bool (match op with | .eql => r | _ => !r))) σ) :=
  OpS.of fun θ a w h K Q hK => by
    have := y_eqs (ty := ty) (t' := t') h ⟨h.env.con hx, h.env.ev1 hx⟩ ⟨h.env.con hy, h.env.ev1 hy⟩ hcx hcy he ho
    unfold Oper.wp
    rw [this]
    exact hK [] _ _ (h.put hd rfl).app0
theorem OpS.eqsG {op : BinOp} {t t' : Nat} {x y : Operand} {vx vy : List V} {cx cy : List Value} {r : Bool} {j : Nat} {want B : Bool} (hB : gB σ.ρ all j want = some B) (hx : evG σ.ρ x = some (.ag vx)) (hy : evG σ.ρ y = some (.ag vy)) (hside : B = true → sideP B True σ.ρ [x, y]) (hcx : plainL vx = some cx) (hcy : plainL vy = some cy) (he : B = true → eqP c.P t cx cy r) (ho : op = .eql ∨ op = .neq) (hd : Nat.blt d σ.n = true) :
    OpS c σ all ⟨some d, .binOp op t x y t', ty, pos, after, some (j, want)⟩ (put d (.gd B (.v (.bool (match op with | .eql => r | _ => !r)))) σ) :=
  OpS.valG hB (fun hb θ a w h => by
    exact y_eqs h (evG_con h.env hb (hside hb) x (by simp) _ hx) (evG_con h.env hb (hside hb) y (by simp) _ hy) hcx hcy (he hb) ho) hd
/-- A byte of a text, under a truth that is not known. -/
theorem OpS.sidxG {t : Nat} {x y : Operand} {i : Int} {k : Nat} {s : ByteArray} {j : Nat} {want B : Bool} (hB : gB σ.ρ all j want = some B) (hx : evG σ.ρ x = some (.v (.string s))) (hy : evG σ.ρ y = some (.v (.int .i64 i))) (hside : B = true → sideP B True σ.ρ [x, y]) (ht : c.ti t = .str) (hi : B = true → i = k) (hk : B = true → k < s.size) (hd : Nat.blt d σ.n = true) :
    OpS c σ all ⟨some d, .index t x y, ty, pos, after, some (j, want)⟩ (put d (.gd B (.v (.int .u8 (byteAt s k).toNat))) σ) :=
  OpS.valG hB (fun hb θ a w h => by
    have h1 := evG_con h.env hb (hside hb) x (by simp) _ hx
    have h2 := evG_con h.env hb (hside hb) y (by simp) _ hy
    have e1 : ev? (selfρ a) x = some (.string s) := by rw [h1.2, ← h1.1]; rfl
    have e2 : ev? (selfρ a) y = some (.int .i64 i) := by rw [h2.2, ← h2.1]; rfl
    exact y_index_str h.env.env e1 e2 (hi hb) (hk hb) (c.tstr ht)) hd
theorem asc_bif {b : Bool} {x y : ByteArray} (hx : ascii x) (hy : ascii y) : ascii (bif b then x else y) := by cases b <;> assumption
end

/-! ## Drawn regions in which several may come up -/
theorem wpOp_of {P : Program} {ops : Array Oper} {K G : Act → World → Prop} {i : Nat} {o : Oper} {a : Act} {w : World} (hi : ops[i]? = some o) (h : wpList P ops (NormQ G) [o] a w) : wpOp P ops (NormQ K) i G a w := by
  have mono : ∀ (o : Oper) (K1 : Act → World → Prop) (a : Act) (w : World), o.wp P a w (fun a' w' => NormQ K1 .normal a' w') (NormQ K1) → o.wp P a w K1 (NormQ K) := by
    intro o K1 a w h
    unfold Oper.wp at h ⊢
    generalize (execOp a.eval o).run P w = r at h ⊢
    cases r with
    | ok n w' =>
      cases n <;> simp only [Oper.upon] at h ⊢
      case value u => exact h.2
      case skip => exact h.2
      case defer d => exact h.2
      case enter f args =>
        refine Calls.mono h fun e w'' he => ?_
        cases e with
        | returned u => exact he.2
        | panicked c => cases he.1
        | outgrown => obtain ⟨_, _, h, _⟩ := he; cases h
      case row row args => exact Rows.mono h fun u w'' he => he.2
    | halt x w' =>
      cases x <;> simp only [Oper.upon] at h ⊢
      case panic u => cases h.1
  unfold wpOp
  simp only [hi]
  unfold wpList at h
  split
  · rename_i hw
    simp only [hw, if_true] at h
    rcases h with h | ⟨_, h⟩
    · exact .inl (mono _ _ _ _ h)
    · obtain ⟨_, _, h, _⟩ := h; cases h
  · rename_i hw
    simp only [hw] at h
    exact h.2
def RunD1 (c : Cx) (K : Act → World → Prop) (E0 : List (Nat × En)) (m0 : Nat) (ops : Array Oper) (n : Nat) (M : List (Nat × En)) (listed : Array Bool) (σ : St) (i : Nat) : Prop :=
  ∀ θ0 η a w, θ0.length = m0 → R c (θ0 ++ η) σ a w → SD c θ0 E0 w → BaseOk c θ0 E0 → Facts c.S0 c.w0 (θ0 ++ η) M → wpOp c.P ops (NormQ K) i (fun a' w' => SD c θ0 E0 w' ∧ wpAnyH c.P .any ops (NormQ K) (SD c θ0 E0) n (listed.setIfInBounds i true) a' w') a w
theorem RunD1.ofg {c : Cx} {K : Act → World → Prop} {E0 : List (Nat × En)} {m0 : Nat} {ops : Array Oper} {n : Nat} {M : List (Nat × En)} (i : Nat) (is : List Nat) {listed : Array Bool} {σ σ' : St} {o : Oper} {G : Prop} (hi : nthO ops.toList i = some o) (ho : OpSg c σ ops o σ' G) (hp : is.map (nthE σ'.E) = E0.map some) (hn : is.Nodup)
    (h : G → RunD c K E0 m0 ops n M (listed.setIfInBounds i true) σ') : RunD1 c K E0 m0 ops n M listed σ i := by
  intro θ0 η a w hl hR hS hB0 hM
  have hi' : ops[i]? = some o := by rw [← Array.getElem?_toList]; exact nthO_spec hi
  refine wpOp_of hi' ?_
  refine wpList_step fun K' hK' => ?_
  refine ho _ a w hR K' _ fun ζ a' w' hR' hg => hK' _ _ ?_
  rw [List.append_assoc] at hR'
  have hS' : SD c θ0 E0 w' := by
    obtain ⟨S, w1, hh⟩ := hR'.heap
    obtain ⟨S0, w0, hh0⟩ := hS
    exact ⟨S, w1, hh0.back (hh.pickE hp hn)⟩
  exact ⟨rfl, hS', h hg θ0 (η ++ ζ) a' w' hl hR' hS' hB0 (by rw [← List.append_assoc]; exact hM.ext)⟩
theorem OpS.g {c : Cx} {σ σ' : St} {all : Array Oper} {o : Oper} (h : OpS c σ all o σ') : OpSg c σ all o σ' True := fun θ a w hR K Q hK => h θ a w hR K Q fun η a' w' hR' => hK η a' w' hR' trivial
theorem RunD.alts {c : Cx} {K : Act → World → Prop} {E0 : List (Nat × En)} {m0 : Nat} {ops : Array Oper} {n : Nat} {M : List (Nat × En)} {listed : Array Bool} {σ : St} {L : List Nat} (hr : Region.ready .any ops listed = L) (hL : L ≠ []) (h : ∀ i ∈ L, RunD1 c K E0 m0 ops n M listed σ i) : RunD c K E0 m0 ops (n + 1) M listed σ :=
  fun θ0 η a w hl hR hS hB0 hM => wpAnyH_all hr hL fun i hi => h i hi θ0 η a w hl hR hS hB0 hM
/-- .. where only some of what is there stays as it is. -/
def pkc : Option (Nat × En) → List (Nat × En) → List (Nat × En)
  | some e, r => e :: r
  | none, r => r
def pk : List Nat → List (Nat × En) → List (Nat × En)
  | [], _ => []
  | i :: is, E => pkc (nthE E i) (pk is E)
theorem Run.drawS {c : Cx} {res : List Re} {σ : St} {id : Nat} {ops : Array Oper} {k : List It} (n : Nat) (is0 : List Nat) (E0 : List (Nat × En)) (hp : is0.map (nthE σ.E) = E0.map some) (hd0 : is0.Nodup) (hm : c.P.follows .mixedOrders = true) (hn : ops.size = n)
    (h : ∀ S w1 hk hs hd, RunD (c.rebase S w1 hk hs hd) (kQ c res k .normal) E0 σ.m ops n [] (Array.replicate n false) σ) : Run c res σ (.code (.region id ops true) :: k) := by
  intro θ a w hR
  obtain ⟨S, w1, hh⟩ := hR.heap
  have hh' := hh.drew.rebase
  have hR' : R (c.rebase S w1 hh.k0 hh.sub hh.sh.dom) (θ ++ []) σ a w.drew := by rw [List.append_nil]; exact ⟨hR.len, hR.env, S, w1, hh'⟩
  have hE := hh'.pickE hp hd0
  have := h S w1 hh.k0 hh.sub hh.sh.dom θ [] a w.drew hR.len hR' ⟨S, w1, hE⟩ (hh.pickE hp hd0).ok Facts.nil
  refine Code.wp_mono (Q := NormQ (kQ c res k .normal)) (fun e a w h => by obtain ⟨rfl, h⟩ := h; exact h) (wp_region_held (P := c.P) hm (by rw [hn]; exact this))

/-! ## More of what may be taken, and an empty literal -/
theorem TkS.val {c : Cx} {E0 M : List (Nat × En)} {ops : Array Oper} {listed : Array Bool} {σ : St} {d : Nat} {op : Op} {u : Value} {ty : TypeId} {pos : String} {after : Array Edge} (j : Nat) (hi' : nthO ops.toList j = some ⟨some d, op, ty, pos, after, none⟩) (hB : takeB ops listed j = true)
    (hy : ∀ θ a w, R c θ σ a w → ∀ w2, Yields c.P a w2 op ty u) (hd : Nat.blt d σ.n = true) : TkS c E0 M σ ops listed j (put d (.v u) σ) M := by
  intro K m0 n h θ0 η a w hl0 hR hS hB0 hM
  simp only [takeB, Bool.and_eq_true] at hB
  have hj : ops[j]? = some ⟨some d, op, ty, pos, after, none⟩ := by rw [← Array.getElem?_toList]; exact nthO_spec hi'
  refine wpAnyH_take (v := u) hj hB.1.1 hB.1.2 hB.2 (fun c a w h => by cases h.1) (.inl ⟨rfl, fun w2 _ => ?_⟩) hS (h θ0 η _ w hl0 (hR.put hd rfl) hS hB0 hM)
  have := hy _ a w hR w2 (some d) pos after none
  simpa using this
section
variable {c : Cx} {E0 M : List (Nat × En)} {ops : Array Oper} {listed : Array Bool} {σ : St} {d : Nat} {ty : TypeId} {pos : String} {after : Array Edge}
theorem TkS.sidx {t : Nat} {x y : Operand} {i : Int} {s : ByteArray} (j k : Nat) (hk : k < s.size) (hi' : nthO ops.toList j = some ⟨some d, .index t x y, ty, pos, after, none⟩) (hB : takeB ops listed j = true) (hx : ev σ.ρ x = some (.v (.string s))) (hy : ev σ.ρ y = some (.v (.int .i64 i))) (ht : c.ti t = .str) (hi : i = k) (hd : Nat.blt d σ.n = true) :
    TkS c E0 M σ ops listed j (put d (.v (.int .u8 (byteAt s k).toNat)) σ) M :=
  TkS.val j hi' hB (fun θ a w h w2 => y_index_str h.env.env (h.env.isv hx) (h.env.isv hy) hi hk (c.tstr ht)) hd
theorem TkS.quo {t t' : Nat} {x y : Operand} {k : IntKind} {i i2 : Int} (j : Nat) (hj : i2 ≠ 0) (hi' : nthO ops.toList j = some ⟨some d, .binOp .quo t x y t', ty, pos, after, none⟩) (hB : takeB ops listed j = true) (hx : ev σ.ρ x = some (.v (.int k i))) (hy : ev σ.ρ y = some (.v (.int k i2))) (hd : Nat.blt d σ.n = true) :
    TkS c E0 M σ ops listed j (put d (.v (.int k (k.wrap (i.tdiv i2)))) σ) M := TkS.val j hi' hB (fun θ a w h w2 => y_quo h.env.env (h.env.isv hx) (h.env.isv hy) hj) hd
theorem TkS.rem {t t' : Nat} {x y : Operand} {k : IntKind} {i i2 : Int} (j : Nat) (hj : i2 ≠ 0) (hi' : nthO ops.toList j = some ⟨some d, .binOp .rem t x y t', ty, pos, after, none⟩) (hB : takeB ops listed j = true) (hx : ev σ.ρ x = some (.v (.int k i))) (hy : ev σ.ρ y = some (.v (.int k i2))) (hd : Nat.blt d σ.n = true) :
    TkS c E0 M σ ops listed j (put d (.v (.int k (i.tmod i2))) σ) M := TkS.val j hi' hB (fun θ a w h w2 => y_rem h.env.env (h.env.isv hx) (h.env.isv hy) hj) hd
theorem TkS.cat {t t' : Nat} {x y : Operand} {p q : ByteArray} (j : Nat) (hs : p.size + q.size ≤ 9223372036854775807) (hi' : nthO ops.toList j = some ⟨some d, .binOp .add t x y t', ty, pos, after, none⟩) (hB : takeB ops listed j = true) (hx : ev σ.ρ x = some (.v (.string p))) (hy : ev σ.ρ y = some (.v (.string q))) (hd : Nat.blt d σ.n = true) :
    TkS c E0 M σ ops listed j (put d (.v (.string (p ++ q))) σ) M := TkS.val j hi' hB (fun θ a w h w2 => y_cat h.env.env (h.env.isv hx) (h.env.isv hy) hs) hd
end
section
variable {c : Cx} {σ : St} {all : Array Oper} {ty : TypeId} {pos : String} {after : Array Edge} {d : Nat}
theorem OpS.lit0 {t e sz by' : Nat} (ht : c.ti t = .sl e sz by') (hd : Nat.blt d σ.n = true) :
    OpS c σ all ⟨some d, .buildSlice t 0 #[], ty, pos, after, none⟩ ⟨σ.n, σ.m + 1, (d, .sl σ.m 0) :: σ.ρ, (σ.m, .lit [] e 0) :: σ.E⟩ :=
  OpS.of fun θ a w h K Q hK => by
    obtain ⟨hu, inf, hinf, his, _⟩ := chkSlice_spec (c.tsl ht)
    have hsz : (sizeOf e).run c.P w = .ok sz w := by simp [sizeOf, typeInfo, hinf, his]
    have : (execOp a.eval ⟨some d, .buildSlice t 0 #[], ty, pos, after, none⟩).run c.P w = .ok (.value (.slice (some ⟨w.heap.size, 0, none⟩) 0 0)) (w.alloc (.cells #[] e)) := by
      simp [execOp, Instr.buildSlice, run_underlying hu, hsz, Instr.fill, newRow]
      rw [show Array.map (fun _ => (default : Value)) (Array.range 0) = #[] from by simp]
    unfold Oper.wp
    rw [this]
    exact hK _ _ _ (h.newlit (cs := []) (l := []) rfl e 0 hd (h.sl0 0))
end
end Go.Proofs.YtmjjcihoobnbgaaDoor.Fw
