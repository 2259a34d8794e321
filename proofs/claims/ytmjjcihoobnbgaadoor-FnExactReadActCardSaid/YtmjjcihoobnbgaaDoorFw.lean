/-
  A framework of step lemmas: the walk of a function's code over an abstract frame ('Env': the slots that are known, as a list) and an abstract world. No condition: every lemma is general in the program.
-/
import Derived.WalkKit
import Derived.ProofKit
import Derived.Deep.Quiet
import Derived.Handy
import Derived.Deep.LoopGhost
import Derived.Deep.Slices
namespace Go.Proofs.YtmjjcihoobnbgaaDoor.Fw
open Go.RowKit

/-! ## The frame -/

/-- The value that a list of known slots has for a slot. -/
def lk? : List (Nat × Value) → Nat → Option Value
  | [], _ => none
  | (t, v) :: r, k => bif Nat.beq t k then some v else lk? r k

/-- The value of an operand. -/
def ev? (ρ : List (Nat × Value)) : Operand → Option Value
  | .tmp t => lk? ρ t
  | .const v => some v
  | .global g => some (.pointer (some ⟨g, 0, none⟩))
  | .func f => some (.func (.func f) #[] #[])

structure Env (n : Nat) (ρ : List (Nat × Value)) (a : Act) : Prop where
  size : a.tmps.size = n
  defers : a.defers = []
  get : ∀ t v, lk? ρ t = some v → a.tmps.getD t undef = v

theorem Env.eval {n : Nat} {ρ : List (Nat × Value)} {a : Act} (h : Env n ρ a) {x : Operand} {v : Value} (hx : ev? ρ x = some v) : a.eval x = v := by
  cases x with
  | tmp t => exact h.get t v hx
  | const c => simp only [ev?, Option.some.injEq] at hx; exact hx
  | global g => simp only [ev?, Option.some.injEq] at hx; exact hx
  | func f => simp only [ev?, Option.some.injEq] at hx; exact hx

theorem Env.put {n : Nat} {ρ : List (Nat × Value)} {a : Act} (h : Env n ρ a) {d : Nat} (hd : Nat.blt d n = true) (v : Value) : Env n ((d, v) :: ρ) (a.put (some d) v) := by
  have hd' : d < a.tmps.size := by rw [h.size]; simpa using hd
  refine ⟨by simp [Act.put, h.size], by simp [Act.put, h.defers], fun t u hu => ?_⟩
  simp only [lk?] at hu
  by_cases e : d = t
  · subst e
    simp at hu
    subst hu
    simp [Act.put, hd']
  · have : Nat.beq d t = false := by
      cases hb : Nat.beq d t
      · rfl
      · exact absurd (Nat.eq_of_beq_eq_true hb) e
    rw [this] at hu
    have := h.get t u hu
    simp only [Act.put, Array.getD_eq_getD_getElem?] at *
    rw [Array.getElem?_setIfInBounds_ne e]
    exact this

theorem Env.put_none {n : Nat} {ρ : List (Nat × Value)} {a : Act} (h : Env n ρ a) (v : Value) : Env n ρ (a.put none v) := h

/-- Every pair of the second list is known in the first. -/
def sub (ρ : List (Nat × Value)) : List (Nat × Value) → Prop
  | [] => True
  | (t, v) :: r => lk? ρ t = some v ∧ sub ρ r

theorem sub_spec {ρ : List (Nat × Value)} : ∀ {ρ' : List (Nat × Value)}, sub ρ ρ' → ∀ t v, lk? ρ' t = some v → lk? ρ t = some v
  | [], _, _, _, h => by simp [lk?] at h
  | (t', v') :: r, hs, t, v, h => by
    simp only [lk?] at h
    by_cases e : Nat.beq t' t = true
    · rw [e] at h
      simp only [cond_true, Option.some.injEq] at h
      obtain rfl := Nat.eq_of_beq_eq_true e
      subst h
      exact hs.1
    · rw [Bool.not_eq_true] at e
      rw [e] at h
      exact sub_spec hs.2 t v h

theorem Env.weaken {n : Nat} {ρ ρ' : List (Nat × Value)} {a : Act} (h : Env n ρ a) (hs : sub ρ ρ') : Env n ρ' a :=
  ⟨h.size, h.defers, fun t v hv => h.get t v (sub_spec hs t v hv)⟩

/-- The slots at a function's start. -/
def slots : Nat → List Value → List (Nat × Value)
  | _, [] => []
  | i, v :: r => (i, v) :: slots (i + 1) r

theorem slots_lk : ∀ (vs : List Value) (i t : Nat) (v : Value), lk? (slots i vs) t = some v → i ≤ t ∧ vs[t - i]? = some v
  | [], _, _, _, h => by simp [slots, lk?] at h
  | u :: r, i, t, v, h => by
    simp only [slots, lk?] at h
    by_cases e : Nat.beq i t = true
    · rw [e] at h
      obtain rfl := Nat.eq_of_beq_eq_true e
      simpa using h
    · rw [Bool.not_eq_true] at e
      rw [e] at h
      obtain ⟨h1, h2⟩ := slots_lk r (i + 1) t v h
      refine ⟨by omega, ?_⟩
      rw [show t - i = (t - (i + 1)) + 1 by omega]
      simpa using h2

/-! ## A call's head and its end -/

theorem enter {P : Program} {f : FuncId} {fn : Func} {c : Code} {n : Nat} {vs : List Value} {w : World} {R : Ending → World → Prop}
    (hf : P.funcs[f]? = some fn) (hb : fn.body = some c) (hn : fn.ntmps = n) (hl : vs.length ≤ n)
    (h : ∀ a, Env n (slots 0 vs) a → c.wp P (bodyPost P fn R) a w) : Calls P f vs.toArray w R := by
  refine calls_of_wp hf hb ?_
  refine h _ ⟨?_, rfl, fun t v hv => ?_⟩
  · simp [hn]; omega
  · obtain ⟨_, h2⟩ := slots_lk vs 0 t v hv
    simp only [Nat.sub_zero] at h2
    obtain ⟨hlt, _⟩ := List.getElem?_eq_some_iff.1 h2
    simp [Array.getD_eq_getD_getElem?, Array.getElem?_append_left (show t < vs.toArray.size by simpa using hlt), h2]


/-! ## Closed facts about types: Bool functions, each decided by the kernel -/

def chkAgg (P : Program) (t n : Nat) : Bool :=
  (match P.underlying t with | some (.struct _) | some (.array _ _) => true | _ => false) && (match P.info? t with | some i => Nat.beq i.size n | none => false)

def chkOne (P : Program) (t : Nat) : Bool :=
  (match P.underlying t with | some (.struct _) | some (.array _ _) => false | some _ => true | none => false) && (match P.info? t with | some i => Nat.beq i.size 1 | none => false)

def chkField (P : Program) (s f off : Nat) : Bool :=
  match P.underlying s with
  | some (.struct fs) => (match fs[f]? with
    | some fd => Nat.beq fd.offset off && (match P.info? fd.type with | some i => !(Nat.beq i.size 0) | none => false)
    | none => false)
  | _ => false

def chkFieldT (P : Program) (s f off fd sz : Nat) : Bool :=
  match P.underlying s with
  | some (.struct fs) => (match fs[f]? with
    | some d => Nat.beq d.offset off && (Nat.beq d.type fd && Nat.beq (P.cellsOf fd) sz)
    | none => false)
  | _ => false

theorem chkFieldT_spec {P : Program} {s f off fd sz : Nat} (h : chkFieldT P s f off fd sz = true) : ∃ fs d, P.underlying s = some (.struct fs) ∧ fs[f]? = some d ∧ d.offset = off ∧ d.type = fd ∧ P.cellsOf fd = sz := by
  unfold chkFieldT at h
  cases hu : P.underlying s with
  | none => simp [hu] at h
  | some d =>
    cases d with
    | struct fs =>
      rw [hu] at h
      simp only at h
      cases hf : fs[f]? with
      | none => simp [hf] at h
      | some d =>
        rw [hf] at h
        simp only [Bool.and_eq_true] at h
        exact ⟨fs, d, rfl, hf, Nat.eq_of_beq_eq_true h.1, Nat.eq_of_beq_eq_true h.2.1, Nat.eq_of_beq_eq_true h.2.2⟩
    | _ => simp [hu] at h

/-- A slice type whose element takes 'sz' cells and 'bytes' bytes. -/
def chkSlice (P : Program) (t e sz bytes : Nat) : Bool :=
  (match P.underlying t with | some (.slice e') => Nat.beq e' e | _ => false) && (match P.info? e with | some i => Nat.beq i.size sz && Nat.beq i.bytes bytes | none => false)

theorem chkAgg_isAgg {P : Program} {t n : Nat} (h : chkAgg P t n = true) (w : World) : (isAgg t).run P w = .ok true w ∧ (sizeOf t).run P w = .ok n w := by
  unfold chkAgg at h
  simp only [Bool.and_eq_true] at h
  obtain ⟨h1, h2⟩ := h
  constructor
  · cases hu : P.underlying t with
    | none => simp [hu] at h1
    | some d =>
      unfold isAgg
      rw [Sem.run_bind, run_underlying hu w]
      cases d <;> simp_all
  · cases hi : P.info? t with
    | none => simp [hi] at h2
    | some i =>
      rw [hi] at h2
      have := Nat.eq_of_beq_eq_true h2
      simp [sizeOf, typeInfo, hi, this]

theorem chkOne_isAgg {P : Program} {t : Nat} (h : chkOne P t = true) (w : World) : (isAgg t).run P w = .ok false w ∧ (sizeOf t).run P w = .ok 1 w := by
  unfold chkOne at h
  simp only [Bool.and_eq_true] at h
  obtain ⟨h1, h2⟩ := h
  constructor
  · cases hu : P.underlying t with
    | none => simp [hu] at h1
    | some d =>
      unfold isAgg
      rw [Sem.run_bind, run_underlying hu w]
      cases d <;> simp_all
  · cases hi : P.info? t with
    | none => simp [hi] at h2
    | some i =>
      rw [hi] at h2
      have := Nat.eq_of_beq_eq_true h2
      simp [sizeOf, typeInfo, hi, this]

theorem chkField_spec {P : Program} {s f off : Nat} (h : chkField P s f off = true) : ∃ fs fd, P.underlying s = some (.struct fs) ∧ fs[f]? = some fd ∧ fd.offset = off ∧ ∃ i, P.info? fd.type = some i ∧ i.size ≠ 0 := by
  unfold chkField at h
  cases hu : P.underlying s with
  | none => simp [hu] at h
  | some d =>
    cases d with
    | struct fs =>
      rw [hu] at h
      simp only at h
      cases hf : fs[f]? with
      | none => simp [hf] at h
      | some fd =>
        rw [hf] at h
        simp only [Bool.and_eq_true] at h
        obtain ⟨h1, h2⟩ := h
        cases hi : P.info? fd.type with
        | none => simp [hi] at h2
        | some i =>
          rw [hi] at h2
          simp only [Bool.not_eq_true'] at h2
          exact ⟨fs, fd, rfl, hf, Nat.eq_of_beq_eq_true h1, i, hi, fun e => by rw [e] at h2; simp at h2⟩
    | _ => simp [hu] at h

theorem chkSlice_spec {P : Program} {t e sz bytes : Nat} (h : chkSlice P t e sz bytes = true) : P.underlying t = some (.slice e) ∧ ∃ i, P.info? e = some i ∧ i.size = sz ∧ i.bytes = bytes := by
  unfold chkSlice at h
  simp only [Bool.and_eq_true] at h
  obtain ⟨h1, h2⟩ := h
  constructor
  · cases hu : P.underlying t with
    | none => simp [hu] at h1
    | some d =>
      cases d with
      | slice e' => rw [hu] at h1; rw [Nat.eq_of_beq_eq_true h1]
      | _ => simp [hu] at h1
  · cases hi : P.info? e with
    | none => simp [hi] at h2
    | some i =>
      rw [hi] at h2
      simp only [Bool.and_eq_true] at h2
      exact ⟨i, rfl, Nat.eq_of_beq_eq_true h2.1, Nat.eq_of_beq_eq_true h2.2⟩

/-! ## Addresses and cells -/

theorem add_add (a : Addr) (i j : Nat) : (a.add i).add j = a.add (i + j) := by
  unfold Addr.add
  by_cases hi : i = 0 <;> by_cases hj : j = 0 <;> simp [hi, hj, Nat.add_assoc]

theorem block_add (a : Addr) (n : Nat) : (a.add n).block = a.block := by unfold Addr.add; split <;> rfl

/-- From address 'a' on lie these cells. -/
def CellsAt (w : World) (a : Addr) (cs : List Value) : Prop := ∀ j v, cs[j]? = some v → w.cell? (a.add j) = some v

theorem CellsAt.cell {w : World} {a : Addr} {cs : List Value} (h : CellsAt w a cs) {off : Nat} {v : Value} (hv : cs[off]? = some v) : w.cell? (a.add off) = some v := h off v hv

theorem CellsAt.part {w : World} {a : Addr} {cs ds : List Value} (h : CellsAt w a cs) {off n : Nat} (hd : (cs.drop off).take n = ds) : CellsAt w (a.add off) ds := by
  intro j v hv
  rw [add_add]
  subst hd
  rw [List.getElem?_take] at hv
  split at hv
  · rw [List.getElem?_drop] at hv
    exact h _ v hv
  · cases hv

/-- Of the blocks that S tells nothing has turned. -/
structure Keep (S : Nat → Prop) (w w' : World) : Prop where
  os : w'.os = w.os
  tape : w'.tape = w.tape
  output : w'.output = w.output
  size : w.heap.size ≤ w'.heap.size
  block : ∀ b, S b → w'.heap[b]? = w.heap[b]?

/-- What was there. -/
abbrev Old (w : World) : Nat → Prop := fun b => b < w.heap.size
/-- What was there but for some blocks. -/
abbrev But (F : List Nat) (w : World) : Nat → Prop := fun b => b < w.heap.size ∧ b ∉ F

theorem Keep.refl (S : Nat → Prop) (w : World) : Keep S w w := ⟨rfl, rfl, rfl, Nat.le_refl _, fun _ _ => rfl⟩
theorem Keep.trans {S : Nat → Prop} {a b c : World} (h : Keep S a b) (k : Keep S b c) : Keep S a c :=
  ⟨k.os.trans h.os, k.tape.trans h.tape, k.output.trans h.output, Nat.le_trans h.size k.size, fun i hi => (k.block i hi).trans (h.block i hi)⟩
theorem Keep.mono {S S' : Nat → Prop} {w w' : World} (h : Keep S w w') (hS : ∀ b, S' b → S b) : Keep S' w w' := ⟨h.os, h.tape, h.output, h.size, fun b hb => h.block b (hS b hb)⟩
theorem Keep.of_below {S : Nat → Prop} {B : Nat} {w w' : World} (h : Below B w w') (hS : ∀ b, S b → b < B) : Keep S w w' := ⟨h.os, h.tape, h.output, h.size, fun b hb => h.block b (hS b hb)⟩
theorem Keep.below {w w' : World} (h : Keep (Old w) w w') : Below w.heap.size w w' := ⟨h.os, h.tape, h.output, h.size, fun b hb => h.block b hb⟩

theorem CellsAt.keep {S : Nat → Prop} {w w' : World} {a : Addr} {cs : List Value} (h : CellsAt w a cs) (hb : Keep S w w') (ha : S a.block) : CellsAt w' a cs := by
  intro j v hv
  rw [← h j v hv]
  exact World.cell?_of_block (hb.block _ (by rw [block_add]; exact ha))
theorem CellsAt.below {B : Nat} {w w' : World} {a : Addr} {cs : List Value} (h : CellsAt w a cs) (hb : Below B w w') (ha : a.block < B) : CellsAt w' a cs := by
  intro j v hv
  rw [← h j v hv]
  exact hb.cell (by rw [block_add]; exact ha)

theorem CellsAt.row {w : World} {b : Nat} {cs : List Value} {T : TypeId} {fr : Nat × Nat} (h : w.heap[b]? = some (.cells cs.toArray T fr)) : CellsAt w ⟨b, 0, none⟩ cs := by
  intro j v hv
  have e : (⟨b, 0, none⟩ : Addr).add j = ⟨b, j, none⟩ := by unfold Addr.add; split <;> simp_all
  rw [e, cell_of_row w b j _ T fr h]
  simpa using hv

/-! ## One operation that leaves the world alone: 'y_..': it yields this value -/

/-- The operation yields this value, and the world stays. -/
def Yields (P : Program) (a : Act) (w : World) (op : Op) (ty : TypeId) (v : Value) : Prop :=
  ∀ (dst : Option Tmp) (pos : String) (after : Array Edge) (g : Option (Nat × Bool)), (execOp a.eval ⟨dst, op, ty, pos, after, g⟩).run P w = .ok (.value v) w

section
variable {P : Program} {n : Nat} {ρ : List (Nat × Value)} {a : Act} {w : World} {ty : TypeId}

theorem y_move (hE : Env n ρ a) {x : Operand} {v : Value} (hx : ev? ρ x = some v) : Yields P a w (.move x) ty v := by
  intro _ _ _ _
  simp [execOp, hE.eval hx]

theorem y_assign (hE : Env n ρ a) {x : Operand} {v : Value} (hx : ev? ρ x = some v) : Yields P a w (.assign x) ty v := by
  intro _ _ _ _
  simp [execOp, hE.eval hx]

theorem y_pick (hE : Env n ρ a) {c x y : Operand} {b : Bool} (hc : ev? ρ c = some (.bool b)) {v u : Value} (hx : ev? ρ x = some v) (hy : ev? ρ y = some u) : Yields P a w (.pick c x y) ty (if b then v else u) := by
  intro _ _ _ _
  simp [execOp, hE.eval hc, hE.eval hx, hE.eval hy, asBool]

theorem y_len_slice (hE : Env n ρ a) {x : Operand} {A : Option Addr} {len cap : Nat} (hx : ev? ρ x = some (.slice A len cap)) {t e sz bytes : Nat} (ht : chkSlice P t e sz bytes = true) :
    Yields P a w (.call { callee := .builtin .len, args := #[x], argTypes := #[t] }) ty (.int .i64 len) := by
  intro _ _ _ _
  simp [execOp, resolve, hE.eval hx, invoke, builtin, Builtin.len_, run_underlying (chkSlice_spec ht).1, goInt]

theorem y_len_string (hE : Env n ρ a) {x : Operand} {s : ByteArray} (hx : ev? ρ x = some (.string s)) {t : Nat} (ht : P.underlying t = some .string) :
    Yields P a w (.call { callee := .builtin .len, args := #[x], argTypes := #[t] }) ty (.int .i64 s.size) := by
  intro _ _ _ _
  simp [execOp, resolve, hE.eval hx, invoke, builtin, Builtin.len_, run_underlying ht, goInt]

theorem y_binop (hE : Env n ρ a) {x y : Operand} {t t' : Nat} {op : BinOp} {k : IntKind} {i j : Int} {v : Value} (hx : ev? ρ x = some (.int k i)) (hy : ev? ρ y = some (.int k j))
    (hr : (binOp op t (.int k i) (.int k j)).run P w = .ok v w) : Yields P a w (.binOp op t x y t') ty v := by
  intro _ _ _ _
  simp only [execOp, hE.eval hx, hE.eval hy, Sem.run_bind, eqGuard_at_int, Sem.run_pure, Result.andThen_ok, hr]

theorem y_add (hE : Env n ρ a) {x y : Operand} {t t' : Nat} {k : IntKind} {i j : Int} (hx : ev? ρ x = some (.int k i)) (hy : ev? ρ y = some (.int k j)) :
    Yields P a w (.binOp .add t x y t') ty (.int k (k.wrap (i + j))) := y_binop hE hx hy (by rw [binOp_add]; rfl)
theorem y_sub (hE : Env n ρ a) {x y : Operand} {t t' : Nat} {k : IntKind} {i j : Int} (hx : ev? ρ x = some (.int k i)) (hy : ev? ρ y = some (.int k j)) :
    Yields P a w (.binOp .sub t x y t') ty (.int k (k.wrap (i - j))) := y_binop hE hx hy (by rw [binOp_sub]; rfl)
theorem y_mul (hE : Env n ρ a) {x y : Operand} {t t' : Nat} {k : IntKind} {i j : Int} (hx : ev? ρ x = some (.int k i)) (hy : ev? ρ y = some (.int k j)) :
    Yields P a w (.binOp .mul t x y t') ty (.int k (k.wrap (i * j))) := y_binop hE hx hy (by rw [binOp_mul]; rfl)
theorem y_add_in (hE : Env n ρ a) {x y : Operand} {t t' : Nat} {i j m : Int} (hx : ev? ρ x = some (.int .i64 i)) (hy : ev? ρ y = some (.int .i64 j)) (hm : i + j = m) (h1 : -9223372036854775808 ≤ m) (h2 : m ≤ 9223372036854775807) :
    Yields P a w (.binOp .add t x y t') ty (.int .i64 m) := by
  have e : IntKind.i64.wrap (i + j) = m := by rw [hm]; exact IntWalk.i64_in _ (by omega)
  have := y_add (P := P) (w := w) (ty := ty) (t := t) (t' := t') hE hx hy
  rwa [e] at this
theorem y_sub_in (hE : Env n ρ a) {x y : Operand} {t t' : Nat} {i j m : Int} (hx : ev? ρ x = some (.int .i64 i)) (hy : ev? ρ y = some (.int .i64 j)) (hm : i - j = m) (h1 : -9223372036854775808 ≤ m) (h2 : m ≤ 9223372036854775807) :
    Yields P a w (.binOp .sub t x y t') ty (.int .i64 m) := by
  have e : IntKind.i64.wrap (i - j) = m := by rw [hm]; exact IntWalk.i64_in _ (by omega)
  have := y_sub (P := P) (w := w) (ty := ty) (t := t) (t' := t') hE hx hy
  rwa [e] at this
theorem y_quo (hE : Env n ρ a) {x y : Operand} {t t' : Nat} {k : IntKind} {i j : Int} (hx : ev? ρ x = some (.int k i)) (hy : ev? ρ y = some (.int k j)) (hj : j ≠ 0) :
    Yields P a w (.binOp .quo t x y t') ty (.int k (k.wrap (i.tdiv j))) := y_binop hE hx hy (by rw [binOp_quo]; simp [Op.intDiv, hj])
theorem y_rem (hE : Env n ρ a) {x y : Operand} {t t' : Nat} {k : IntKind} {i j : Int} (hx : ev? ρ x = some (.int k i)) (hy : ev? ρ y = some (.int k j)) (hj : j ≠ 0) :
    Yields P a w (.binOp .rem t x y t') ty (.int k (i.tmod j)) := y_binop hE hx hy (by rw [binOp_rem]; simp [Op.intDiv, hj])
theorem y_lss (hE : Env n ρ a) {x y : Operand} {t t' : Nat} {k : IntKind} {i j : Int} (hx : ev? ρ x = some (.int k i)) (hy : ev? ρ y = some (.int k j)) :
    Yields P a w (.binOp .lss t x y t') ty (.bool (decide (i < j))) := y_binop hE hx hy (by rw [binOp_lss]; rfl)
theorem y_leq (hE : Env n ρ a) {x y : Operand} {t t' : Nat} {k : IntKind} {i j : Int} (hx : ev? ρ x = some (.int k i)) (hy : ev? ρ y = some (.int k j)) :
    Yields P a w (.binOp .leq t x y t') ty (.bool (decide (i ≤ j))) := y_binop hE hx hy (by rw [binOp_leq]; rfl)
theorem y_gtr (hE : Env n ρ a) {x y : Operand} {t t' : Nat} {k : IntKind} {i j : Int} (hx : ev? ρ x = some (.int k i)) (hy : ev? ρ y = some (.int k j)) :
    Yields P a w (.binOp .gtr t x y t') ty (.bool (decide (i > j))) := y_binop hE hx hy (by rw [binOp_gtr]; rfl)
theorem y_geq (hE : Env n ρ a) {x y : Operand} {t t' : Nat} {k : IntKind} {i j : Int} (hx : ev? ρ x = some (.int k i)) (hy : ev? ρ y = some (.int k j)) :
    Yields P a w (.binOp .geq t x y t') ty (.bool (decide (i ≥ j))) := y_binop hE hx hy (by rw [binOp_geq]; rfl)
theorem y_eql (hE : Env n ρ a) {x y : Operand} {t t' : Nat} {k : IntKind} {i j : Int} (hx : ev? ρ x = some (.int k i)) (hy : ev? ρ y = some (.int k j)) :
    Yields P a w (.binOp .eql t x y t') ty (.bool (decide (i = j))) := y_binop hE hx hy (by rw [binOp_eql]; rfl)
theorem y_neq (hE : Env n ρ a) {x y : Operand} {t t' : Nat} {k : IntKind} {i j : Int} (hx : ev? ρ x = some (.int k i)) (hy : ev? ρ y = some (.int k j)) :
    Yields P a w (.binOp .neq t x y t') ty (.bool (!decide (i = j))) := y_binop hE hx hy (by rw [binOp_neq]; rfl)

theorem y_eql_bool (hE : Env n ρ a) {x y : Operand} {t t' : Nat} {i j : Bool} (hx : ev? ρ x = some (.bool i)) (hy : ev? ρ y = some (.bool j)) (ht : P.underlying t = some .bool) :
    Yields P a w (.binOp .eql t x y t') ty (.bool (decide (i = j))) := by
  intro _ _ _ _
  simp [execOp, hE.eval hx, hE.eval hy, eqGuard_at_bool, binOp, run_equal_bool w t i j ht]
  cases i <;> cases j <;> rfl
theorem y_neq_bool (hE : Env n ρ a) {x y : Operand} {t t' : Nat} {i j : Bool} (hx : ev? ρ x = some (.bool i)) (hy : ev? ρ y = some (.bool j)) (ht : P.underlying t = some .bool) :
    Yields P a w (.binOp .neq t x y t') ty (.bool (!decide (i = j))) := by
  intro _ _ _ _
  simp [execOp, hE.eval hx, hE.eval hy, eqGuard_at_bool, binOp, run_equal_bool w t i j ht]
  cases i <;> cases j <;> rfl

theorem string_eq (s t : ByteArray) : (s.toList == t.toList) = decide (s = t) := by
  have h : (s.toList = t.toList) ↔ s = t := by
    constructor
    · intro h
      rw [ByteArray.toList_eq, ByteArray.toList_eq] at h
      exact ByteArray.ext (Array.toList_inj.1 h)
    · intro h; rw [h]
  rw [Bool.eq_iff_iff]
  simp [h]

theorem y_eql_string (hE : Env n ρ a) {x y : Operand} {t t' : Nat} {i j : ByteArray} (hx : ev? ρ x = some (.string i)) (hy : ev? ρ y = some (.string j)) :
    Yields P a w (.binOp .eql t x y t') ty (.bool (decide (i = j))) := by
  intro _ _ _ _
  simp only [execOp, hE.eval hx, hE.eval hy, eqGuard_at_string, binOp, Op.stringOp, string_eq, Sem.run_bind, Sem.run_pure, Result.andThen_ok]
theorem y_neq_string (hE : Env n ρ a) {x y : Operand} {t t' : Nat} {i j : ByteArray} (hx : ev? ρ x = some (.string i)) (hy : ev? ρ y = some (.string j)) :
    Yields P a w (.binOp .neq t x y t') ty (.bool (!decide (i = j))) := by
  intro _ _ _ _
  simp only [execOp, hE.eval hx, hE.eval hy, eqGuard_at_string, binOp, Op.stringOp, string_eq, Sem.run_bind, Sem.run_pure, Result.andThen_ok]
theorem y_cat (hE : Env n ρ a) {x y : Operand} {t t' : Nat} {i j : ByteArray} (hx : ev? ρ x = some (.string i)) (hy : ev? ρ y = some (.string j)) (hs : i.size + j.size ≤ 9223372036854775807) :
    Yields P a w (.binOp .add t x y t') ty (.string (i ++ j)) := by
  intro _ _ _ _
  have : ¬ ((i.size + j.size : Nat) : Int) > IntKind.i64.max := by rw [IntKind.max_i64]; omega
  simp only [execOp, hE.eval hx, hE.eval hy, eqGuard_at_string, binOp, Op.stringOp, Sem.run_bind, Sem.run_pure, Result.andThen_ok, this, if_false]

theorem y_not (hE : Env n ρ a) {x : Operand} {t : Nat} {b : Bool} (hx : ev? ρ x = some (.bool b)) : Yields P a w (.unOp .not t x) ty (.bool (!b)) := by
  intro _ _ _ _
  simp [execOp, hE.eval hx, Op.unary]

theorem y_fieldAddr (hE : Env n ρ a) {x : Operand} {s f off o1 o2 : Nat} {ad : Addr} (hx : ev? ρ x = some (.pointer (some (ad.add o1)))) (hc : chkField P s f off = true) (ho : Nat.add o1 off = o2) :
    Yields P a w (.fieldAddr s x f) ty (.pointer (some (ad.add o2))) := by
  intro _ _ _ _
  obtain ⟨fs, fd, hu, hf, hoff, i, hi, hn⟩ := chkField_spec hc
  have hs : (sizeOf fd.type).run P w = .ok i.size w := by simp [sizeOf, typeInfo, hi]
  subst ho
  simp [execOp, hE.eval hx, Instr.fieldAt, run_underlying hu, hf, Instr.sureAddr, fieldPlace, hs, hn, hoff, add_add]

theorem run_load_one {t : Nat} {ad : Addr} {v : Value} (hc : w.cell? ad = some v) (ht : chkOne P t = true) : (loadVar t ad).run P w = .ok v w := by
  simp [loadVar, (chkOne_isAgg ht w).1, hc]

theorem run_load_agg {t k : Nat} {ad : Addr} {cs : List Value} (hc : CellsAt w ad cs) (ht : chkAgg P t k = true) (hk : cs.length = k) : (loadVar t ad).run P w = .ok (.agg cs.toArray) w := by
  have hl := run_loadCells_list (P := P) w ad cs (fun j v hv => hc j v hv)
  rw [hk] at hl
  simp [loadVar, (chkAgg_isAgg ht w).1, (chkAgg_isAgg ht w).2, hl]

theorem y_load_one (hE : Env n ρ a) {x : Operand} {t off : Nat} {ad : Addr} {cs : List Value} {v : Value} (hx : ev? ρ x = some (.pointer (some (ad.add off)))) (hc : CellsAt w ad cs) (hv : cs[off]? = some v) (ht : chkOne P t = true) :
    Yields P a w (.load t x) ty v := by
  intro _ _ _ _
  simp [execOp, hE.eval hx, Instr.loadAt, Instr.sureAddr, run_load_one (hc.cell hv) ht]

theorem y_load_agg (hE : Env n ρ a) {x : Operand} {t off k : Nat} {ad : Addr} {cs ds : List Value} (hx : ev? ρ x = some (.pointer (some (ad.add off)))) (hc : CellsAt w ad cs) (hd : (cs.drop off).take k = ds) (hk : ds.length = k)
    (ht : chkAgg P t k = true) : Yields P a w (.load t x) ty (.agg ds.toArray) := by
  intro _ _ _ _
  simp [execOp, hE.eval hx, Instr.loadAt, Instr.sureAddr, run_load_agg (hc.part hd) ht hk]

theorem y_indexAddr (hE : Env n ρ a) {x y : Operand} {t e sz bytes len cap : Nat} {A : Addr} {i : Int} (hx : ev? ρ x = some (.slice (some A) len cap)) (hy : ev? ρ y = some (.int .i64 i)) (h0 : 0 ≤ i) (h1 : i < len)
    (ht : chkSlice P t e sz bytes = true) : Yields P a w (.indexAddr t x y) ty (.pointer (some ((A.add (i.toNat * sz)).add 0))) := by
  intro _ _ _ _
  obtain ⟨hu, inf, hi, hs, _⟩ := chkSlice_spec ht
  have hz : (sizeOf e).run P w = .ok sz w := by simp [sizeOf, typeInfo, hi, hs]
  simp [execOp, hE.eval hx, hE.eval hy, Instr.indexAt, asIntOf, run_underlying hu, h0, h1, hz, add_add]

theorem y_extract (hE : Env n ρ a) {x : Operand} {i : Nat} {vs : List Value} {v : Value} (hx : ev? ρ x = some (.tuple vs.toArray)) (hv : vs[i]? = some v) : Yields P a w (.extract x i) ty v := by
  intro _ _ _ _
  simp [execOp, hE.eval hx, Instr.extract, hv]
end

theorem y_pick_t {P : Program} {n : Nat} {ρ : List (Nat × Value)} {a : Act} {w : World} {ty : TypeId} (hE : Env n ρ a) {c x y : Operand} {b : Bool} (hc : ev? ρ c = some (.bool b)) (hb : b = true) {v : Value} (hx : ev? ρ x = some v) : Yields P a w (.pick c x y) ty v := by
  intro _ _ _ _
  simp [execOp, hE.eval hc, hE.eval hx, hb, asBool]
theorem y_pick_f {P : Program} {n : Nat} {ρ : List (Nat × Value)} {a : Act} {w : World} {ty : TypeId} (hE : Env n ρ a) {c x y : Operand} {b : Bool} (hc : ev? ρ c = some (.bool b)) (hb : b = false) {v : Value} (hy : ev? ρ y = some v) : Yields P a w (.pick c x y) ty v := by
  intro _ _ _ _
  simp [execOp, hE.eval hc, hE.eval hy, hb, asBool]

/-- What stands behind an operation may say less. -/
theorem Oper.wp_mono' {P : Program} {o : Oper} {a : Act} {w : World} {K K' : Act → World → Prop} {Mid : Act → World → Prop} {Q : Exit → Act → World → Prop} (h : ∀ a w, K a w → K' a w) (hh : o.wp P a w K (Exit.then Mid Q)) : o.wp P a w K' Q := by
  unfold Oper.wp at *
  generalize (execOp a.eval o).run P w = r at *
  cases r with
  | ok nx w' =>
    cases nx <;> simp only [Oper.upon] at hh ⊢
    case value => exact h _ _ hh
    case skip => exact h _ _ hh
    case defer => exact h _ _ hh
    case row => exact hh.mono fun _ _ q => h _ _ q
    case enter =>
      refine hh.mono fun e w2 q => ?_
      cases e <;> first | exact h _ _ q | exact q
  | halt x w' => cases x <;> simp only [Oper.upon] at hh ⊢; exact hh

/-! ## Steps of the list of a region's operations -/

section
variable {P : Program} {ops : Array Oper} {Q : Exit → Act → World → Prop} {n : Nat} {ρ : List (Nat × Value)} {a : Act} {w : World} {rest : List Oper} {d : Nat} {op : Op} {ty : TypeId} {pos : String} {after : Array Edge}

theorem st_val (hE : Env n ρ a) {v : Value} (hy : Yields P a w op ty v) (hd : Nat.blt d n = true) (k : ∀ a, Env n ((d, v) :: ρ) a → wpList P ops Q rest a w) :
    wpList P ops Q (⟨some d, op, ty, pos, after, none⟩ :: rest) a w := by
  refine wpList_plain rfl fun K hK => ?_
  unfold Oper.wp
  rw [hy]
  exact hK _ _ (k _ (hE.put hd v))

theorem st_nil {K : Act → World → Prop} (h : K a w) : wpList P ops (Exit.then K Q) [] a w := h

theorem yielded_of {l : List Oper} (hE : Env n ρ a) {j t : Nat} {b : Bool} {o : Oper} (ho : l[j]? = some o) (hd : o.dst = some t) (ht : lk? ρ t = some (.bool b)) : yielded l.toArray a.tmps j = some b := by
  have h := hE.get t _ ht
  unfold yielded
  simp only [List.getElem?_toArray, ho, Option.bind_some, hd]
  rw [Array.getD_eq_getD_getElem?] at h
  cases hg : a.tmps[t]? with
  | none => rw [hg] at h; simp [undef] at h
  | some u => rw [hg] at h; simp at h; subst h; rfl

theorem st_run {l : List Oper} (hE : Env n ρ a) {j t : Nat} {want b : Bool} {dst : Option Tmp} {o : Oper} (ho : l[j]? = some o) (hd : o.dst = some t) (ht : lk? ρ t = some (.bool b)) (hb : b = want)
    (k : wpList P l.toArray Q (⟨dst, op, ty, pos, after, none⟩ :: rest) a w) : wpList P l.toArray Q (⟨dst, op, ty, pos, after, some (j, want)⟩ :: rest) a w := by
  subst hb
  have h := yielded_of hE ho hd ht
  unfold wpList at *
  simp only [Region.wanted, h, beq_self_eq_true, if_true] at *
  exact k

theorem st_skip {l : List Oper} (hE : Env n ρ a) {j t : Nat} {want b : Bool} {o : Oper} (ho : l[j]? = some o) (hd : o.dst = some t) (ht : lk? ρ t = some (.bool b)) (hb : b = !want) (hdn : Nat.blt d n = true)
    (k : ∀ a, Env n ((d, undef) :: ρ) a → wpList P l.toArray Q rest a w) : wpList P l.toArray Q (⟨some d, op, ty, pos, after, some (j, want)⟩ :: rest) a w := by
  subst hb
  have h := yielded_of hE ho hd ht
  unfold wpList
  have hne : ¬ (some (!want) == some want) = true := by cases want <;> simp
  simp only [Region.wanted, h, hne]
  exact k _ (hE.put hdn undef)

/-- .. where what it hangs on was itself passed over. -/
theorem st_skip_undef {l : List Oper} (hE : Env n ρ a) {j t : Nat} {want : Bool} {o : Oper} (ho : l[j]? = some o) (hd : o.dst = some t) (ht : lk? ρ t = some undef) (hdn : Nat.blt d n = true)
    (k : ∀ a, Env n ((d, undef) :: ρ) a → wpList P l.toArray Q rest a w) : wpList P l.toArray Q (⟨some d, op, ty, pos, after, some (j, want)⟩ :: rest) a w := by
  have h : yielded l.toArray a.tmps j = none := by
    have h := hE.get t _ ht
    unfold yielded
    simp only [List.getElem?_toArray, ho, Option.bind_some, hd]
    rw [Array.getD_eq_getD_getElem?] at h
    cases hg : a.tmps[t]? with
    | none => rfl
    | some u => rw [hg] at h; simp at h; subst h; rfl
  unfold wpList
  simp only [Region.wanted, h]
  exact k _ (hE.put hdn undef)

theorem wpList_mid {Mid : Act → World → Prop} : ∀ (l : List Oper) (k : Nat) (a : Act) (w : World), wpList P ops (Exit.then Mid Q) (l.take k) a w → (∀ a w, Mid a w → wpList P ops Q (l.drop k) a w) → wpList P ops Q l a w
  | l, 0, a, w, h, h2 => h2 a w h
  | [], _ + 1, a, w, h, h2 => h2 a w h
  | o :: l, k + 1, a, w, h, h2 => by
    unfold wpList at h ⊢
    simp only [List.take_succ_cons] at h
    split at h
    · rename_i hw
      rw [if_pos hw]
      rcases h with h | ⟨h, hq⟩
      · exact .inl (Oper.wp_mono' (fun a w h => wpList_mid l k a w h h2) h)
      · exact .inr ⟨h, hq⟩
    · rename_i hw
      rw [if_neg hw]
      exact wpList_mid l k _ _ h h2

/-- Where ways meet again inside a region. -/
theorem st_mid {l : List Oper} (k : Nat) (Mid : Act → World → Prop) (h1 : wpList P ops (Exit.then Mid Q) (l.take k) a w) (h2 : ∀ a w, Mid a w → wpList P ops Q (l.drop k) a w) : wpList P ops Q l a w :=
  wpList_mid l k a w h1 h2

/-- A call of a function with a body, by its contract. -/
theorem st_call (hE : Env n ρ a) {f : FuncId} {fn : Func} {xs : Array Operand} {ts : Array TypeId} {vs : List Value} {R : Ending → World → Prop}
    (hf : P.funcs[f]? = some fn) (hb : fn.body.isNone = false) (hn : (fn.name == "runtime.NumGoroutine") = false) (hx : xs.toList.map (ev? ρ) = vs.map some) (hc : Calls P f vs.toArray w R) (hd : Nat.blt d n = true)
    (hR : ∀ e w', R e w' → ∃ v, e = .returned v)
    (k : ∀ v w', R (.returned v) w' → ∀ a, Env n ((d, v) :: ρ) a → wpList P ops Q rest a w') :
    wpList P ops Q (⟨some d, .call { callee := .value (.func f), args := xs, argTypes := ts }, ty, pos, after, none⟩ :: rest) a w := by
  refine wpList_plain rfl fun K hK => ?_
  have hm : xs.map a.eval = vs.toArray := by
    have : xs.toList.map a.eval = vs := by
      clear hc hK k hR
      generalize xs.toList = l at hx ⊢
      induction l generalizing vs with
      | nil => cases vs with
        | nil => rfl
        | cons => simp at hx
      | cons x l ih => cases vs with
        | nil => simp at hx
        | cons v vs =>
          simp only [List.map_cons, List.cons.injEq] at hx
          rw [List.map_cons, hE.eval hx.1, ih hx.2]
    apply Array.toList_inj.1
    rw [Array.toList_map, this]
  unfold Oper.wp
  have : (execOp a.eval ⟨some d, .call { callee := .value (.func f), args := xs, argTypes := ts }, ty, pos, after, none⟩).run P w = .ok (.enter f vs.toArray) w := by
    have hn' : ¬ fn.name = "runtime.NumGoroutine" := by simpa using hn
    have hb' : ¬ fn.body = none := by intro e; rw [e] at hb; cases hb
    simp [execOp, resolve, hm, Act.eval, Deferred.ofValue, invoke, callFunc, hf, hn', hb']
  rw [this, Oper.upon_enter]
  refine hc.mono fun e w' hr => ?_
  obtain ⟨v, rfl⟩ := hR e w' hr
  exact hK _ _ (k v w' hr _ (hE.put hd v))
end

/-! ## Code -/
section
variable {P : Program} {Q : Exit → Act → World → Prop} {a : Act} {w : World} {id : Nat} {l : List Oper} {x y : Code}

theorem reg_then (h : wpList P l.toArray (Exit.then (y.wp P Q) Q) l a w) : (Code.seq (Code.region id l.toArray false) y).wp P Q a w := wp_seq (wp_region_lit h)

theorem cond_split {n : Nat} {ρ : List (Nat × Value)} (hE : Env n ρ a) {c : Operand} {b : Bool} (hc : ev? ρ c = some (.bool b)) (ht : b = true → x.wp P Q a w) (hf : b = false → y.wp P Q a w) : (Code.cond c x y).wp P Q a w :=
  wp_cond_split (hE.eval hc) ht hf
end

/-! ## Data: how cells read -/

def I64 (x : Int) : Prop := -9223372036854775808 ≤ x ∧ x ≤ 9223372036854775807

/-- A type whose values are read off cells: 'rd S w cs x': in world w the cells cs read as x, every block that is met is one that S tells. 'own w cs x F': they read so, just the blocks F are met, each once, each whole and not frozen. -/
class Dat (α : Type) where
  sz : Nat
  sz_pos' : 0 < sz
  rd : (Nat → Prop) → World → List Value → α → Prop
  rd_len : ∀ {B : Nat → Prop} {w cs x}, rd B w cs x → cs.length = sz
  rd_mono : ∀ {B B' : Nat → Prop} {w cs x}, (∀ b, B b → B' b) → rd B w cs x → rd B' w cs x
  rd_below : ∀ {B : Nat → Prop} {w w' cs x}, Keep B w w' → rd B w cs x → rd B w' cs x
  own : World → List Value → α → List Nat → Prop
  own_rd : ∀ {B : Nat → Prop} {w cs x F}, own w cs x F → (∀ b ∈ F, B b) → rd B w cs x
  own_same : ∀ {w w' cs x F}, own w cs x F → (∀ b ∈ F, w'.heap[b]? = w.heap[b]?) → own w' cs x F
  own_lt : ∀ {w cs x F}, own w cs x F → ∀ b ∈ F, b < w.heap.size
  good : α → Prop
  rd_good : ∀ {B : Nat → Prop} {w cs x}, rd B w cs x → good x
  small : Nat → α → Prop
  rd_one : ∀ {B : Nat → Prop} {w cs x}, rd B w cs x → ∀ u ∈ cs, u.oneCell' = true

/-- Cells that say all by themselves. -/
abbrev Dat.flat {α : Type} (n : Nat) (hp : 0 < n) (enc : α → List Value) (good : α → Prop) (hn : ∀ x, (enc x).length = n) (sm : Nat → α → Prop) (h1 : ∀ x, ∀ u ∈ enc x, u.oneCell' = true) : Dat α where
  sz := n
  sz_pos' := hp
  rd _ _ cs x := cs = enc x ∧ good x
  rd_len h := by rw [h.1]; exact hn _
  rd_mono _ h := h
  rd_below _ h := h
  own _ cs x F := (cs = enc x ∧ good x) ∧ F = []
  own_rd h _ := h.1
  own_same h _ := h
  own_lt h := by rw [h.2]; intro b hb; cases hb
  good := good
  rd_good h := h.2
  small := sm
  rd_one h := by rw [h.1]; exact h1 _

theorem Dat.sz_pos (α : Type) [Dat α] : 0 < Dat.sz α := Dat.sz_pos'

instance : Dat Int := Dat.flat 1 (by decide) (fun x => [.int .i64 x]) I64 (fun _ => rfl) (fun _ _ => True) (fun _ _ h => by simp at h; rw [h]; rfl)
instance : Dat Bool := Dat.flat 1 (by decide) (fun x => [.bool x]) (fun _ => True) (fun _ => rfl) (fun _ _ => True) (fun _ _ h => by simp at h; rw [h]; rfl)
instance : Dat ByteArray := Dat.flat 1 (by decide) (fun x => [.string x]) (fun s => s.size ≤ maxLen) (fun _ => rfl) (fun n s => s.size ≤ n) (fun _ _ h => by simp at h; rw [h]; rfl)
instance : Dat UInt8 := Dat.flat 1 (by decide) (fun x => [.int .u8 x.toNat]) (fun _ => True) (fun _ => rfl) (fun _ _ => True) (fun _ _ h => by simp at h; rw [h]; rfl)

instance {α β : Type} [Dat α] [Dat β] : Dat (α × β) where
  sz := Dat.sz α + Dat.sz β
  sz_pos' := Nat.add_pos_left Dat.sz_pos' _
  rd B w cs x := ∃ c d, cs = c ++ d ∧ Dat.rd B w c x.1 ∧ Dat.rd B w d x.2
  rd_len := by rintro B w cs x ⟨c, d, rfl, h1, h2⟩; rw [List.length_append, Dat.rd_len h1, Dat.rd_len h2]
  rd_mono := by rintro B B' w cs x h ⟨c, d, rfl, h1, h2⟩; exact ⟨c, d, rfl, Dat.rd_mono h h1, Dat.rd_mono h h2⟩
  rd_below := by rintro B w w' cs x h ⟨c, d, rfl, h1, h2⟩; exact ⟨c, d, rfl, Dat.rd_below h h1, Dat.rd_below h h2⟩
  own w cs x F := ∃ c d G H, cs = c ++ d ∧ F = G ++ H ∧ Dat.own w c x.1 G ∧ Dat.own w d x.2 H
  own_rd := by
    rintro B w cs x F ⟨c, d, G, H, rfl, rfl, h1, h2⟩ hF
    exact ⟨c, d, rfl, Dat.own_rd h1 fun b hb => hF b (List.mem_append_left _ hb), Dat.own_rd h2 fun b hb => hF b (List.mem_append_right _ hb)⟩
  own_same := by
    rintro w w' cs x F ⟨c, d, G, H, rfl, rfl, h1, h2⟩ hF
    exact ⟨c, d, G, H, rfl, rfl, Dat.own_same h1 fun b hb => hF b (List.mem_append_left _ hb), Dat.own_same h2 fun b hb => hF b (List.mem_append_right _ hb)⟩
  own_lt := by
    rintro w cs x F ⟨c, d, G, H, rfl, rfl, h1, h2⟩ b hb
    rcases List.mem_append.1 hb with hb | hb
    · exact Dat.own_lt h1 b hb
    · exact Dat.own_lt h2 b hb
  good x := Dat.good x.1 ∧ Dat.good x.2
  rd_good := by rintro B w cs x ⟨c, d, rfl, h1, h2⟩; exact ⟨Dat.rd_good h1, Dat.rd_good h2⟩
  small n x := Dat.small n x.1 ∧ Dat.small n x.2
  rd_one := by rintro B w cs x ⟨c, d, rfl, h1, h2⟩ u hu; exact (List.mem_append.1 hu).elim (Dat.rd_one h1 u) (Dat.rd_one h2 u)

/-- A type that is read as another one. -/
abbrev Dat.pull {σ τ : Type} [Dat τ] (f : σ → τ) : Dat σ where
  sz := Dat.sz τ
  sz_pos' := Dat.sz_pos'
  rd B w cs x := Dat.rd B w cs (f x)
  rd_len := Dat.rd_len
  rd_mono := Dat.rd_mono
  rd_below := Dat.rd_below
  own w cs x F := Dat.own w cs (f x) F
  own_rd := Dat.own_rd
  own_same := Dat.own_same
  own_lt := Dat.own_lt
  good x := Dat.good (f x)
  rd_good := Dat.rd_good
  small n x := Dat.small n (f x)
  rd_one := Dat.rd_one

/-- The slice value v reads as the list xs. -/
def SlR {α : Type} [Dat α] (B : Nat → Prop) (w : World) (v : Value) (xs : List α) : Prop :=
  ∃ (A : Option Addr) (cap : Nat), v = .slice A xs.length cap ∧ xs.length ≤ cap ∧ cap ≤ maxLen ∧
    (xs ≠ [] → ∃ ad, A = some ad ∧ B ad.block ∧ ∀ i x, xs[i]? = some x → ∃ cs, Dat.rd B w cs x ∧ CellsAt w (ad.add (i * Dat.sz α)) cs)

/-- The slice value v is a row of its own. -/
def SlO {α : Type} [Dat α] (w : World) (v : Value) (xs : List α) (F : List Nat) : Prop :=
  (v = .slice none 0 0 ∧ xs = [] ∧ F = []) ∨
  ∃ (g cap : Nat) (arr : Array Value) (T : TypeId) (Fs : List (List Nat)), v = .slice (some ⟨g, 0, none⟩) xs.length cap ∧ w.heap[g]? = some (.cells arr T (0, 0)) ∧ xs.length ≤ cap ∧ cap ≤ maxLen ∧ cap * Dat.sz α ≤ arr.size ∧
    F = g :: Fs.flatten ∧ Fs.length = xs.length ∧ ∀ i x, xs[i]? = some x → ∃ G, Fs[i]? = some G ∧ Dat.own w ((arr.toList.drop (i * Dat.sz α)).take (Dat.sz α)) x G

theorem SlR.mono {α : Type} [Dat α] {B B' : Nat → Prop} {w : World} {v : Value} {xs : List α} (hB : ∀ b, B b → B' b) (h : SlR B w v xs) : SlR B' w v xs := by
  obtain ⟨A, cap, rfl, h1, h2, h3⟩ := h
  refine ⟨A, cap, rfl, h1, h2, fun hn => ?_⟩
  obtain ⟨ad, rfl, hb, hc⟩ := h3 hn
  exact ⟨ad, rfl, hB _ hb, fun i x hx => let ⟨cs, hr, hcs⟩ := hc i x hx; ⟨cs, Dat.rd_mono hB hr, hcs⟩⟩

theorem SlR.below {α : Type} [Dat α] {B : Nat → Prop} {w w' : World} {v : Value} {xs : List α} (hb : Keep B w w') (h : SlR B w v xs) : SlR B w' v xs := by
  obtain ⟨A, cap, rfl, h1, h2, h3⟩ := h
  refine ⟨A, cap, rfl, h1, h2, fun hn => ?_⟩
  obtain ⟨ad, rfl, hlt, hc⟩ := h3 hn
  exact ⟨ad, rfl, hlt, fun i x hx => let ⟨cs, hr, hcs⟩ := hc i x hx; ⟨cs, Dat.rd_below hb hr, hcs.keep hb (by rw [block_add]; exact hlt)⟩⟩

theorem mem_flatten_of {Fs : List (List Nat)} {i : Nat} {G : List Nat} (h : Fs[i]? = some G) {b : Nat} (hb : b ∈ G) : b ∈ Fs.flatten :=
  List.mem_flatten.2 ⟨G, List.mem_of_getElem? h, hb⟩

theorem SlO.rd {α : Type} [Dat α] {B : Nat → Prop} {w : World} {v : Value} {xs : List α} {F : List Nat} (h : SlO w v xs F) (hF : ∀ b ∈ F, B b) : SlR B w v xs := by
  rcases h with ⟨rfl, rfl, rfl⟩ | ⟨g, cap, arr, T, Fs, rfl, hg, h1, h2, h3, rfl, hl, hx⟩
  · exact ⟨none, 0, rfl, by simp, by simp [maxLen], fun h => absurd rfl h⟩
  · refine ⟨_, cap, rfl, h1, h2, fun _ => ⟨_, rfl, hF g (by simp), fun i x hi => ?_⟩⟩
    obtain ⟨G, hG, ho⟩ := hx i x hi
    refine ⟨_, Dat.own_rd ho fun b hb => hF b (List.mem_cons_of_mem _ (mem_flatten_of hG hb)), ?_⟩
    have hrow : CellsAt w ⟨g, 0, none⟩ arr.toList := CellsAt.row (by simpa using hg)
    exact hrow.part rfl

theorem SlO.same {α : Type} [Dat α] {w w' : World} {v : Value} {xs : List α} {F : List Nat} (h : SlO w v xs F) (hF : ∀ b ∈ F, w'.heap[b]? = w.heap[b]?) : SlO w' v xs F := by
  rcases h with h | ⟨g, cap, arr, T, Fs, rfl, hg, h1, h2, h3, rfl, hl, hx⟩
  · exact .inl h
  · refine .inr ⟨g, cap, arr, T, Fs, rfl, (hF g (by simp)).trans hg, h1, h2, h3, rfl, hl, fun i x hi => ?_⟩
    obtain ⟨G, hG, ho⟩ := hx i x hi
    exact ⟨G, hG, Dat.own_same ho fun b hb => hF b (List.mem_cons_of_mem _ (mem_flatten_of hG hb))⟩

theorem SlO.lt {α : Type} [Dat α] {w : World} {v : Value} {xs : List α} {F : List Nat} (h : SlO w v xs F) : ∀ b ∈ F, b < w.heap.size := by
  rcases h with ⟨_, _, rfl⟩ | ⟨g, cap, arr, T, Fs, rfl, hg, h1, h2, h3, rfl, hl, hx⟩
  · intro b hb; cases hb
  · intro b hb
    rcases List.mem_cons.1 hb with rfl | hb
    · exact (Array.getElem?_eq_some_iff.1 hg).1
    · obtain ⟨G, hG, hbG⟩ := List.mem_flatten.1 hb
      obtain ⟨i, hi⟩ := List.getElem?_of_mem hG
      have hil : i < xs.length := by rw [← hl]; exact (List.getElem?_eq_some_iff.1 hi).1
      obtain ⟨G', hG', ho⟩ := hx i xs[i] (List.getElem?_eq_getElem hil)
      rw [hi] at hG'
      cases hG'
      exact Dat.own_lt ho b hbG

instance {α : Type} [Dat α] : Dat (List α) where
  sz := 1
  sz_pos' := by decide
  rd B w cs xs := ∃ v, cs = [v] ∧ SlR B w v xs
  rd_len := by rintro B w cs x ⟨v, rfl, _⟩; rfl
  rd_mono := by rintro B B' w cs x h ⟨v, rfl, hv⟩; exact ⟨v, rfl, hv.mono h⟩
  rd_below := by rintro B w w' cs x h ⟨v, rfl, hv⟩; exact ⟨v, rfl, hv.below h⟩
  own w cs xs F := ∃ v, cs = [v] ∧ SlO w v xs F
  own_rd := by rintro B w cs x F ⟨v, rfl, hv⟩ hF; exact ⟨v, rfl, hv.rd hF⟩
  own_same := by rintro w w' cs x F ⟨v, rfl, hv⟩ hF; exact ⟨v, rfl, hv.same hF⟩
  own_lt := by rintro w cs x F ⟨v, rfl, hv⟩; exact hv.lt
  good xs := xs.length ≤ 9223372036854775807 ∧ ∀ x ∈ xs, Dat.good x
  rd_good := by
    rintro B w cs xs ⟨v, rfl, A, cap, _, hl1, hl2, h⟩
    refine ⟨by unfold maxLen at hl2; omega, fun x hx => ?_⟩
    obtain ⟨ad, _, _, hc⟩ := h (by intro e; rw [e] at hx; cases hx)
    obtain ⟨i, hi⟩ := List.getElem?_of_mem hx
    obtain ⟨cs, hr, _⟩ := hc i x hi
    exact Dat.rd_good hr
  small n xs := xs.length ≤ n ∧ ∀ x ∈ xs, Dat.small n x
  rd_one := by
    rintro B w cs xs ⟨v, rfl, A, cap, rfl, _⟩ u hu
    simp at hu
    rw [hu]
    rfl

section
variable {α : Type} [Dat α] {B : Nat → Prop} {w : World} {v : Value} {xs : List α}
theorem SlR.form (h : SlR B w v xs) : ∃ (A : Option Addr) (cap : Nat), v = .slice A xs.length cap ∧ xs.length ≤ 9223372036854775807 := by
  obtain ⟨A, cap, rfl, h1, h2, _⟩ := h
  exact ⟨A, cap, rfl, by unfold maxLen at h2; omega⟩

/-- The k-th element of a list; beyond its end the default. -/
def nth {α : Type} [Inhabited α] (xs : List α) (k : Nat) : α := xs.getD k default

theorem small_nth [Inhabited α] {N : Nat} (h : Dat.small N xs) {k : Nat} (hk : k < xs.length) : Dat.small N (nth xs k) := by
  simp only [nth, List.getD_eq_getElem?_getD, List.getElem?_eq_getElem hk, Option.getD_some]
  exact h.2 _ (List.getElem_mem hk)
theorem good_nth [Inhabited α] (h : Dat.good xs) {k : Nat} (hk : k < xs.length) : Dat.good (nth xs k) := by
  simp only [nth, List.getD_eq_getElem?_getD, List.getElem?_eq_getElem hk, Option.getD_some]
  exact h.2 _ (List.getElem_mem hk)

theorem SlR.elem [Inhabited α] {A : Option Addr} {len cap : Nat} (h : SlR B w (.slice A len cap) xs) {k : Nat} (hk : k < xs.length) :
    ∃ ad cs, A = some ad ∧ len = xs.length ∧ Dat.rd B w cs (nth xs k) ∧ CellsAt w (ad.add (k * Dat.sz α)) cs ∧ B ad.block := by
  obtain ⟨A', cap', he, h1, h2, h3⟩ := h
  simp only [Value.slice.injEq] at he
  obtain ⟨rfl, rfl, rfl⟩ := he
  obtain ⟨ad, rfl, hb, hc⟩ := h3 (by intro e; rw [e] at hk; simp at hk)
  obtain ⟨cs, hr, hcs⟩ := hc k xs[k] (List.getElem?_eq_getElem hk)
  refine ⟨ad, cs, rfl, rfl, ?_, hcs, hb⟩
  simp only [nth, List.getD_eq_getElem?_getD, List.getElem?_eq_getElem hk, Option.getD_some]
  exact hr
end

theorem st_index {α : Type} [Dat α] [Inhabited α] {P : Program} {ops : Array Oper} {Q : Exit → Act → World → Prop} {n : Nat} {ρ : List (Nat × Value)} {a : Act} {w : World} {rest : List Oper} {d : Nat} {ty : TypeId} {pos : String} {after : Array Edge}
    (hE : Env n ρ a) {B : Nat → Prop} {w0 : World} {A : Option Addr} {len cap : Nat} {xs : List α} (hv : SlR B w0 (.slice A len cap) xs) {x y : Operand} {t e bytes : Nat} {i : Int} {k : Nat}
    (hx : ev? ρ x = some (.slice A len cap)) (hy : ev? ρ y = some (.int .i64 i)) (hi : i = k) (hk : k < xs.length) (ht : chkSlice P t e (Dat.sz α) bytes = true) (hd : Nat.blt d n = true)
    (K : ∀ ad cs, Dat.rd B w0 cs (nth xs k) → CellsAt w0 ad cs → B ad.block → ∀ a, Env n ((d, .pointer (some (ad.add 0))) :: ρ) a → wpList P ops Q rest a w) :
    wpList P ops Q (⟨some d, .indexAddr t x y, ty, pos, after, none⟩ :: rest) a w := by
  obtain ⟨ad, cs, rfl, rfl, hr, hc, hb⟩ := hv.elem hk
  subst hi
  refine st_val hE (y_indexAddr hE hx hy (by omega) (by omega) ht) hd fun a' hE' => ?_
  rw [Int.toNat_natCast] at hE'
  exact K _ cs hr hc (by rw [block_add]; exact hb) a' hE'

/-! ## The symbolic heap -/

/-- A chunk: the blocks that are its own, and what is said of them. -/
structure Ck where
  F : List Nat
  p : World → Prop

def Ck.ok (c : Ck) (w : World) : Prop := ∀ w', (∀ b ∈ c.F, w'.heap[b]? = w.heap[b]?) → c.p w'
theorem Ck.ok.here {c : Ck} {w : World} (h : c.ok w) : c.p w := h w fun _ _ => rfl
theorem Ck.ok.same {c : Ck} {w w' : World} (h : c.ok w) (hs : ∀ b ∈ c.F, w'.heap[b]? = w.heap[b]?) : c.ok w' := fun w2 h2 => h w2 fun b hb => (h2 b hb).trans (hs b hb)

/-- A variable's block. -/
def Ck.var (b : Nat) (cs : List Value) (T : TypeId) : Ck := ⟨[b], fun w => w.heap[b]? = some (.cells cs.toArray T (0, 0))⟩
/-- Data that is the call's own. -/
def Ck.own {α : Type} [Dat α] (cs : List Value) (x : α) (F : List Nat) : Ck := ⟨F, fun w => Dat.own w cs x F⟩

/-- From w0 on nothing has turned that S tells; these chunks hold, apart from one another and from S. -/
structure SH (S : Nat → Prop) (w0 w : World) (L : List Ck) : Prop where
  keep : Keep S w0 w
  dom : ∀ b, S b → b < w0.heap.size
  ok : ∀ c ∈ L, c.ok w
  ge : ∀ c ∈ L, ∀ b ∈ c.F, ¬ S b ∧ b < w.heap.size
  apart : (L.flatMap (·.F)).Nodup

section
variable {S : Nat → Prop} {w0 w w' : World} {L : List Ck}
theorem SH.start (w : World) : SH (Old w) w w [] := ⟨Keep.refl _ _, fun _ h => h, fun _ h => (by cases h), fun _ h => (by cases h), by simp⟩
theorem SH.below (h : SH (Old w0) w0 w L) : Below w0.heap.size w0 w := h.keep.below

theorem SH.size (h : SH S w0 w L) : w0.heap.size ≤ w.heap.size := h.keep.size

/-- A call that leaves all that is there as it is. -/
theorem SH.same (h : SH S w0 w L) (hb : Below w.heap.size w w') : SH S w0 w' L :=
  ⟨h.keep.trans (Keep.of_below hb fun b hb => by have := h.dom b hb; have := h.size; omega), h.dom, fun c hc => (h.ok c hc).same fun b hbF => hb.block b (h.ge c hc b hbF).2, fun c hc b hbF => ⟨(h.ge c hc b hbF).1, by have := (h.ge c hc b hbF).2; have := hb.size; omega⟩, h.apart⟩

/-- .. and hands back something new. -/
theorem SH.call (h : SH S w0 w L) (hb : Below w.heap.size w w') {c : Ck} (hok : c.ok w') (hge : ∀ b ∈ c.F, w.heap.size ≤ b ∧ b < w'.heap.size) (hn : c.F.Nodup) : SH S w0 w' (c :: L) := by
  have hs := h.same hb
  refine ⟨hs.keep, h.dom, fun x hx => ?_, fun x hx b hbF => ?_, ?_⟩
  · rcases List.mem_cons.1 hx with rfl | hx
    · exact hok
    · exact hs.ok x hx
  · rcases List.mem_cons.1 hx with rfl | hx
    · exact ⟨fun hSb => by have := h.dom b hSb; have := (hge b hbF).1; have := h.size; omega, (hge b hbF).2⟩
    · exact hs.ge x hx b hbF
  · rw [List.flatMap_cons]
    refine List.nodup_append.2 ⟨hn, hs.apart, fun x hx y hy => ?_⟩
    rintro rfl
    obtain ⟨c', hc', hx'⟩ := List.mem_flatMap.1 hy
    have h1 := (hge x hx).1
    have h2 := (h.ge c' hc' x hx').2
    omega

theorem SH.alloc (h : SH S w0 w L) (cs : List Value) (T : TypeId) : SH S w0 (w.alloc (.cells cs.toArray T)) (Ck.var w.heap.size cs T :: L) := by
  refine h.call ((Below.refl _ _).alloc (Nat.le_refl _) _) (c := Ck.var w.heap.size cs T) ?_ ?_ ?_
  · intro w2 h2
    exact (h2 w.heap.size (by simp [Ck.var])).trans (heap_alloc_new w _)
  · intro b hb
    simp only [Ck.var, List.mem_singleton] at hb
    subst hb
    simp
  · simp [Ck.var]

theorem SH.drew (h : SH S w0 w L) : SH S w0 w.drew L := ⟨⟨h.keep.os, h.keep.tape, h.keep.output, h.keep.size, h.keep.block⟩, h.dom, h.ok, h.ge, h.apart⟩

theorem SH.get (h : SH S w0 w L) {k : Nat} {c : Ck} (hk : L[k]? = some c) : c.p w := (h.ok c (List.mem_of_getElem? hk)).here

theorem SH.cells (h : SH S w0 w L) {k b : Nat} {cs : List Value} {T : TypeId} (hk : L[k]? = some (Ck.var b cs T)) : CellsAt w ⟨b, 0, none⟩ cs := CellsAt.row (h.get hk)

theorem flatMap_set_mem {L : List Ck} {k : Nat} {c : Ck} {b : Nat} (h : b ∈ (L.set k c).flatMap (·.F)) : b ∈ c.F ∨ ∃ j, j ≠ k ∧ ∃ d, L[j]? = some d ∧ b ∈ d.F := by
  obtain ⟨d, hd, hb⟩ := List.mem_flatMap.1 h
  obtain ⟨j, hj⟩ := List.getElem?_of_mem hd
  rw [List.getElem?_set] at hj
  split at hj
  · split at hj
    · simp only [Option.some.injEq] at hj
      subst hj
      exact .inl hb
    · cases hj
  · exact .inr ⟨j, by omega, d, hj, hb⟩

/-- Which blocks are met is told by place: two places, two sets. -/
theorem nodup_flatMap_iff {L : List Ck} : (L.flatMap (·.F)).Nodup ↔ (∀ (i : Nat) c, L[i]? = some c → c.F.Nodup) ∧ ∀ (i j : Nat) c d, L[i]? = some c → L[j]? = some d → i ≠ j → ∀ b ∈ c.F, b ∉ d.F := by
  induction L with
  | nil => simp
  | cons x L ih =>
    rw [List.flatMap_cons, List.nodup_append, ih]
    constructor
    · rintro ⟨h1, ⟨h2, h3⟩, h4⟩
      refine ⟨fun i c hi => ?_, fun i j c d hi hj hij b hb hbd => ?_⟩
      · cases i with
        | zero => simp at hi; subst hi; exact h1
        | succ i => exact h2 i c (by simpa using hi)
      · cases i with
        | zero =>
          cases j with
          | zero => exact hij rfl
          | succ j =>
            simp at hi hj
            subst hi
            exact h4 b hb b (List.mem_flatMap.2 ⟨d, List.mem_of_getElem? hj, hbd⟩) rfl
        | succ i =>
          cases j with
          | zero =>
            simp at hi hj
            subst hj
            exact h4 b hbd b (List.mem_flatMap.2 ⟨c, List.mem_of_getElem? hi, hb⟩) rfl
          | succ j => exact h3 i j c d (by simpa using hi) (by simpa using hj) (by omega) b hb hbd
    · rintro ⟨h1, h2⟩
      refine ⟨h1 0 x rfl, ⟨fun i c hi => h1 (i + 1) c (by simpa using hi), fun i j c d hi hj hij => h2 (i + 1) (j + 1) c d (by simpa using hi) (by simpa using hj) (by omega)⟩, ?_⟩
      rintro b hb b' hb' rfl
      obtain ⟨d, hd, hbd⟩ := List.mem_flatMap.1 hb'
      obtain ⟨j, hj⟩ := List.getElem?_of_mem hd
      exact h2 0 (j + 1) x d rfl (by simpa using hj) (by omega) b hb hbd

/-- Chunk k is turned (and new blocks may have come); all else is as it was. -/
theorem SH.turn (h : SH S w0 w L) {k : Nat} {c c' : Ck} (hk : L[k]? = some c) (hos : w'.os = w.os) (htape : w'.tape = w.tape) (hout : w'.output = w.output) (hsize : w.heap.size ≤ w'.heap.size)
    (hsame : ∀ b, b < w.heap.size → b ∉ c.F → w'.heap[b]? = w.heap[b]?) (hok : c'.ok w') (hF : ∀ b ∈ c'.F, (b ∈ c.F ∨ w.heap.size ≤ b) ∧ b < w'.heap.size) (hn : c'.F.Nodup) : SH S w0 w' (L.set k c') := by
  have hkl : k < L.length := (List.getElem?_eq_some_iff.1 hk).1
  have hcm := List.mem_of_getElem? hk
  have hap := nodup_flatMap_iff.1 h.apart
  have hget : ∀ (i : Nat) d, (L.set k c')[i]? = some d → (i = k ∧ d = c') ∨ (i ≠ k ∧ L[i]? = some d) := by
    intro i d hi
    rw [List.getElem?_set] at hi
    by_cases e : k = i
    · subst e
      simp [hkl] at hi
      exact .inl ⟨rfl, hi.symm⟩
    · rw [if_neg e] at hi
      exact .inr ⟨fun e' => e e'.symm, hi⟩
  have hother : ∀ (i : Nat) d, i ≠ k → L[i]? = some d → ∀ b ∈ d.F, w'.heap[b]? = w.heap[b]? := fun i d hik hi b hb =>
    hsame b (h.ge d (List.mem_of_getElem? hi) b hb).2 (hap.2 i k d c hi hk hik b hb)
  refine ⟨?_, h.dom, ?_, ?_, ?_⟩
  · exact h.keep.trans ⟨hos, htape, hout, hsize, fun b hb => hsame b (by have := h.dom b hb; have := h.size; omega) fun hbF => (h.ge c hcm b hbF).1 hb⟩
  · intro d hd
    obtain ⟨i, hi⟩ := List.getElem?_of_mem hd
    rcases hget i d hi with ⟨_, rfl⟩ | ⟨hik, hi⟩
    · exact hok
    · exact (h.ok d (List.mem_of_getElem? hi)).same (hother i d hik hi)
  · intro d hd b hb
    obtain ⟨i, hi⟩ := List.getElem?_of_mem hd
    rcases hget i d hi with ⟨_, rfl⟩ | ⟨hik, hi⟩
    · obtain ⟨h1, h2⟩ := hF b hb
      refine ⟨?_, h2⟩
      rcases h1 with h1 | h1
      · exact (h.ge c hcm b h1).1
      · intro hSb; have := h.dom b hSb; have := h.size; omega
    · have := h.ge d (List.mem_of_getElem? hi) b hb
      exact ⟨this.1, by omega⟩
  · refine nodup_flatMap_iff.2 ⟨fun i d hi => ?_, fun i j d e hi hj hij b hb hbe => ?_⟩
    · rcases hget i d hi with ⟨_, rfl⟩ | ⟨hik, hi⟩
      · exact hn
      · exact hap.1 i d hi
    · rcases hget i d hi with ⟨hik, hd⟩ | ⟨hik, hi'⟩
      · rcases hget j e hj with ⟨hjk, _⟩ | ⟨hjk, hj'⟩
        · exact hij (by omega)
        · rw [hd] at hb
          rcases (hF b hb).1 with h1 | h1
          · exact hap.2 k j c e hk hj' (by omega) b h1 hbe
          · have := (h.ge e (List.mem_of_getElem? hj') b hbe).2; omega
      · rcases hget j e hj with ⟨hjk, he⟩ | ⟨hjk, hj'⟩
        · rw [he] at hbe
          rcases (hF b hbe).1 with h1 | h1
          · exact hap.2 i k d c hi' hk (by omega) b hb h1
          · have := (h.ge d (List.mem_of_getElem? hi') b hb).2; omega
        · exact hap.2 i j d e hi' hj' hij b hb hbe

/-- A store of one cell into a variable's block. -/
theorem SH.setv (h : SH S w0 w L) {k b off : Nat} {cs : List Value} {T : TypeId} (hk : L[k]? = some (Ck.var b cs T)) (v : Value) :
    SH S w0 (w.setCell ((⟨b, 0, none⟩ : Addr).add off) v) (L.set k (Ck.var b (cs.set off v) T)) := by
  have hrow : w.heap[b]? = some (.cells cs.toArray T (0, 0)) := h.get hk
  have e : (⟨b, 0, none⟩ : Addr).add off = ⟨b, off, none⟩ := by unfold Addr.add; split <;> simp_all
  rw [e]
  refine h.turn hk rfl rfl rfl (by simp) (fun b' hb' hn => heap_setCell_other w _ b' v (by simpa [Ck.var] using hn)) ?_ ?_ ?_
  · intro w2 h2
    refine (h2 b (by simp [Ck.var])).trans ?_
    rw [heap_setCell_same w b off _ T v hrow]
    simp
  · intro b' hb'
    simp only [Ck.var, List.mem_singleton] at hb'
    subst hb'
    refine ⟨.inl (by simp [Ck.var]), ?_⟩
    rw [World.size_setCell]
    exact (h.ge _ (List.mem_of_getElem? hk) b' (by simp [Ck.var])).2
  · simp [Ck.var]

theorem SH.drop (h : SH S w0 w L) {k : Nat} : SH S w0 w (L.drop k) :=
  ⟨h.keep, h.dom, fun c hc => h.ok c (List.mem_of_mem_drop hc), fun c hc => h.ge c (List.mem_of_mem_drop hc), nodup_flatMap_iff.2 ⟨fun i c hi => (nodup_flatMap_iff.1 h.apart).1 (k + i) c (by rw [← hi, List.getElem?_drop]),
    fun i j c d hi hj hij => (nodup_flatMap_iff.1 h.apart).2 (k + i) (k + j) c d (by rw [← hi, List.getElem?_drop]) (by rw [← hj, List.getElem?_drop]) (by omega)⟩⟩
end

section
variable {S : Nat → Prop} {w0 w w' : World} {L : List Ck}
theorem SH.row (h : SH S w0 w L) {k b : Nat} {cs : List Value} {T : TypeId} (hk : L[k]? = some (Ck.var b cs T)) (cs' : List Value) :
    SH S w0 (w.setRow b cs'.toArray) (L.set k (Ck.var b cs' T)) := by
  have hrow : w.heap[b]? = some (.cells cs.toArray T (0, 0)) := h.get hk
  refine h.turn hk rfl rfl rfl (by simp) (fun b' hb' hn => setRow_other w b b' _ (by simpa [Ck.var] using hn)) ?_ ?_ ?_
  · intro w2 h2
    exact (h2 b (by simp [Ck.var])).trans (setRow_heap w b _ _ T _ hrow)
  · intro b' hb'
    simp only [Ck.var, List.mem_singleton] at hb'
    subst hb'
    refine ⟨.inl (by simp [Ck.var]), ?_⟩
    rw [size_setRow]
    exact (h.ge _ (List.mem_of_getElem? hk) b' (by simp [Ck.var])).2
  · simp [Ck.var]

/-- What was read at the start reads so still. -/
theorem SH.up {α : Type} [Dat α] (h : SH S w0 w L) {v : Value} {xs : List α} (hv : SlR S w0 v xs) : SlR (Old w) w v xs := (hv.below h.keep).mono fun b hb => by have := h.dom b hb; have := h.size; show b < w.heap.size; omega
theorem SH.upd {α : Type} [Dat α] (h : SH S w0 w L) {cs : List Value} {x : α} (hv : Dat.rd S w0 cs x) : Dat.rd (Old w) w cs x := Dat.rd_mono (fun b hb => by have := h.dom b hb; have := h.size; show b < w.heap.size; omega) (Dat.rd_below h.keep hv)
theorem SH.upc (h : SH S w0 w L) {ad : Addr} {cs : List Value} (hc : CellsAt w0 ad cs) (hb : S ad.block) : CellsAt w ad cs := hc.keep h.keep hb
/-- How many cells, and of what make, an owned struct has. -/
theorem SH.lenO {α : Type} [Dat α] (h : SH S w0 w L) {k : Nat} {cs : List Value} {x : α} {F : List Nat} (hk : L[k]? = some (Ck.own cs x F)) : cs.length = Dat.sz α :=
  Dat.rd_len (Dat.own_rd (show Dat.own w cs x F from h.get hk) (B := Old w) fun b hb => (h.ge _ (List.mem_of_getElem? hk) b hb).2)
theorem SH.oneO {α : Type} [Dat α] (h : SH S w0 w L) {k : Nat} {cs : List Value} {x : α} {F : List Nat} (hk : L[k]? = some (Ck.own cs x F)) : ∀ u ∈ cs, u.oneCell' = true :=
  Dat.rd_one (Dat.own_rd (show Dat.own w cs x F from h.get hk) (B := Old w) fun b hb => (h.ge _ (List.mem_of_getElem? hk) b hb).2)
theorem SH.oneO' {α : Type} [Dat α] (h : SH S w0 w L) {k : Nat} {cs : List Value} {x : α} {F : List Nat} (hk : L[k]? = some (Ck.own cs x F)) : cs.all Value.oneCell' = true := List.all_eq_true.2 (h.oneO hk)
/-- What is the call's own can be read. -/
theorem SH.ownd {α : Type} [Dat α] (h : SH S w0 w L) {k : Nat} {cs : List Value} {x : α} {F : List Nat} (hk : L[k]? = some (Ck.own cs x F)) : Dat.rd (Old w) w cs x :=
  Dat.own_rd (show Dat.own w cs x F from h.get hk) fun b hb => (h.ge _ (List.mem_of_getElem? hk) b hb).2
theorem SH.ownl {α : Type} [Dat α] (h : SH S w0 w L) {k : Nat} {v : Value} {x : List α} {F : List Nat} (hk : L[k]? = some (Ck.own [v] x F)) : SlR (Old w) w v x := by
  obtain ⟨u, hu, hs⟩ := h.ownd hk
  cases hu
  exact hs
end

/-! ## Steps that turn the world -/
section
variable {P : Program} {ops : Array Oper} {Q : Exit → Act → World → Prop} {n : Nat} {ρ : List (Nat × Value)} {a : Act} {S : Nat → Prop} {w0 w : World} {L : List Ck} {rest : List Oper} {d : Nat} {ty : TypeId} {pos : String} {after : Array Edge}

theorem st_box (hE : Env n ρ a) (hS : SH S w0 w L) {T : TypeId} {x : Operand} {v : Value} {cs : List Value} (hx : ev? ρ x = some v) (hcs : v.cells = cs.toArray) (hd : Nat.blt d n = true)
    (K : ∀ b w', SH S w0 w' (Ck.var b cs T :: L) → ∀ a, Env n ((d, .pointer (some ((⟨b, 0, none⟩ : Addr).add 0))) :: ρ) a → wpList P ops Q rest a w') :
    wpList P ops Q (⟨some d, .box T x, ty, pos, after, none⟩ :: rest) a w := by
  refine wpList_plain rfl fun K' hK => ?_
  unfold Oper.wp
  have : (execOp a.eval ⟨some d, .box T x, ty, pos, after, none⟩).run P w = .ok (.value (.pointer (some ((⟨w.heap.size, 0, none⟩ : Addr).add 0)))) (w.alloc (.cells cs.toArray T)) := by
    simp [execOp, Instr.box, newVar, newRow, hE.eval hx, hcs, Addr.add]
  rw [this]
  exact hK _ _ (K _ _ (hS.alloc cs T) _ (hE.put hd _))

theorem st_alloc (hE : Env n ρ a) (hS : SH S w0 w L) {T : TypeId} {z : Value} {cs : List Value} (hz : ∀ w, (zeroValue T).run P w = .ok z w) (hcs : z.cells = cs.toArray) (hd : Nat.blt d n = true)
    (K : ∀ b w', SH S w0 w' (Ck.var b cs T :: L) → ∀ a, Env n ((d, .pointer (some ((⟨b, 0, none⟩ : Addr).add 0))) :: ρ) a → wpList P ops Q rest a w') :
    wpList P ops Q (⟨some d, .alloc T, ty, pos, after, none⟩ :: rest) a w := by
  refine wpList_plain rfl fun K' hK => ?_
  unfold Oper.wp
  have : (execOp a.eval ⟨some d, .alloc T, ty, pos, after, none⟩).run P w = .ok (.value (.pointer (some ((⟨w.heap.size, 0, none⟩ : Addr).add 0)))) (w.alloc (.cells cs.toArray T)) := by
    simp [execOp, Instr.alloc, newVar, newRow, hz, hcs, Addr.add]
  rw [this]
  exact hK _ _ (K _ _ (hS.alloc cs T) _ (hE.put hd _))

/-- A store of a whole value into a variable's block. -/
theorem st_store (hE : Env n ρ a) (hS : SH S w0 w L) {t : TypeId} {x y : Operand} {v : Value} {b off k sz : Nat} {cs ds : List Value} (cs' : List Value) {T : TypeId}
    (hx : ev? ρ x = some (.pointer (some ((⟨b, 0, none⟩ : Addr).add off)))) (hy : ev? ρ y = some v) (hk : L[k]? = some (Ck.var b cs T)) (hds : v.cells = ds.toArray)
    (hsz : ∀ w, (sizeOf t).run P w = .ok sz w) (hl : ds.length = sz) (hfit : Nat.ble (off + sz) cs.length = true) (h1 : ds.all Value.oneCell' = true) (hcs : cs.take off ++ ds ++ cs.drop (off + sz) = cs')
    (K : ∀ w', SH S w0 w' (L.set k (Ck.var b cs' T)) → ∀ a, Env n ρ a → wpList P ops Q rest a w') :
    wpList P ops Q (⟨none, .store t x y, ty, pos, after, none⟩ :: rest) a w := by
  refine wpList_plain rfl fun K' hK => ?_
  unfold Oper.wp
  have hrow : w.heap[b]? = some (.cells cs.toArray T (0, 0)) := hS.get hk
  have e : (⟨b, 0, none⟩ : Addr).add off = ⟨b, off, none⟩ := by unfold Addr.add; split <;> simp_all
  have hfit' : off + sz ≤ cs.length := Nat.le_of_ble_eq_true hfit
  have hst := run_storeCells_at P b off T ds 0 cs.toArray w hrow (by simp [hl]; exact hfit') (List.all_eq_true.1 h1)
  have : (execOp a.eval ⟨none, .store t x y, ty, pos, after, none⟩).run P w = .ok .skip (w.setRow b cs'.toArray) := by
    have hs : v.cells.size = sz := by rw [hds]; simpa using hl
    simp only [execOp, hE.eval hx, hE.eval hy, Instr.storeAt, Instr.sureAddr, storeVar, Sem.run_bind, Sem.run_pure, Result.andThen_ok, hsz, hs, ne_eq, not_true_eq_false, if_false, e]
    rw [hds, show ds.toArray.toList = ds from rfl, hst]
    simp only [Nat.add_zero, hl, Result.andThen_ok]
    rw [← hcs]
  rw [this]
  exact hK _ _ (K _ (hS.row hk cs') _ (hE.put_none undef))

/-- A call of a function that answers plain values and leaves what is there as it is. -/
theorem st_callF (hE : Env n ρ a) (hS : SH S w0 w L) {f : FuncId} {fn : Func} {xs : Array Operand} {ts : Array TypeId} {vs : List Value} {v : Value}
    (hf : P.funcs[f]? = some fn) (hb : fn.body.isNone = false) (hn : (fn.name == "runtime.NumGoroutine") = false)
    (hc : Calls P f vs.toArray w (fun e w' => e = .returned v ∧ Below w.heap.size w w')) (hx : xs.toList.map (ev? ρ) = vs.map some) (hd : Nat.blt d n = true)
    (k : ∀ w', SH S w0 w' L → ∀ a, Env n ((d, v) :: ρ) a → wpList P ops Q rest a w') :
    wpList P ops Q (⟨some d, .call { callee := .value (.func f), args := xs, argTypes := ts }, ty, pos, after, none⟩ :: rest) a w :=
  st_call hE hf hb hn hx hc hd (fun _ _ h => ⟨v, h.1⟩) fun u w' h a' hE' => by
    obtain ⟨h1, h2⟩ := h
    cases h1
    exact k w' (hS.same h2) a' hE'

/-- A call that hands back new data of its own. -/
theorem st_callO {α : Type} [Dat α] (hE : Env n ρ a) (hS : SH S w0 w L) {f : FuncId} {fn : Func} {xs : Array Operand} {ts : Array TypeId} {vs : List Value} {x : α} {mk : List Value → Value}
    (hf : P.funcs[f]? = some fn) (hb : fn.body.isNone = false) (hn : (fn.name == "runtime.NumGoroutine") = false)
    (hc : Calls P f vs.toArray w (fun e w' => ∃ cs F, e = .returned (mk cs) ∧ Below w.heap.size w w' ∧ Dat.own w' cs x F ∧ F.Nodup ∧ ∀ b ∈ F, w.heap.size ≤ b)) (hx : xs.toList.map (ev? ρ) = vs.map some) (hd : Nat.blt d n = true)
    (k : ∀ cs F w', SH S w0 w' (Ck.own cs x F :: L) → ∀ a, Env n ((d, mk cs) :: ρ) a → wpList P ops Q rest a w') :
    wpList P ops Q (⟨some d, .call { callee := .value (.func f), args := xs, argTypes := ts }, ty, pos, after, none⟩ :: rest) a w :=
  st_call hE hf hb hn hx hc hd (fun _ _ ⟨cs, _, h, _⟩ => ⟨mk cs, h⟩) fun u w' ⟨cs, F, h1, h2, h3, h4, h5⟩ a' hE' => by
    cases h1
    exact k cs F w' (hS.call h2 (c := Ck.own cs x F) (fun w2 hw2 => Dat.own_same h3 hw2) (fun b hb => ⟨h5 b hb, Dat.own_lt h3 b hb⟩) h4) a' hE'
end

section
variable {P : Program} {ops : Array Oper} {Q : Exit → Act → World → Prop} {n : Nat} {ρ : List (Nat × Value)} {a : Act} {S : Nat → Prop} {w0 w : World} {L : List Ck} {rest : List Oper} {d : Nat} {ty : TypeId} {pos : String} {after : Array Edge}
/-- .. a slice of its own. -/
theorem st_callS {α : Type} [Dat α] (hE : Env n ρ a) (hS : SH S w0 w L) {f : FuncId} {fn : Func} {xs : Array Operand} {ts : Array TypeId} {vs : List Value} {x : List α}
    (hf : P.funcs[f]? = some fn) (hb : fn.body.isNone = false) (hn : (fn.name == "runtime.NumGoroutine") = false)
    (hc : Calls P f vs.toArray w (fun e w' => ∃ v F, e = .returned v ∧ Below w.heap.size w w' ∧ SlO w' v x F ∧ F.Nodup ∧ ∀ b ∈ F, w.heap.size ≤ b)) (hx : xs.toList.map (ev? ρ) = vs.map some) (hd : Nat.blt d n = true)
    (k : ∀ A cap F w', x.length ≤ 9223372036854775807 → SH S w0 w' (Ck.own [.slice A x.length cap] x F :: L) → ∀ a, Env n ((d, .slice A x.length cap) :: ρ) a → wpList P ops Q rest a w') :
    wpList P ops Q (⟨some d, .call { callee := .value (.func f), args := xs, argTypes := ts }, ty, pos, after, none⟩ :: rest) a w :=
  st_call hE hf hb hn hx hc hd (fun _ _ ⟨v, _, h, _⟩ => ⟨v, h⟩) fun u w' ⟨v, F, h1, h2, h3, h4, h5⟩ a' hE' => by
    cases h1
    obtain ⟨A, cap, rfl, hl⟩ := (h3.rd (B := Old w') fun b hb => h3.lt b hb).form
    exact k A cap F w' hl (hS.call h2 (c := Ck.own [.slice A x.length cap] x F) (fun w2 hw2 => ⟨_, rfl, h3.same hw2⟩) (fun b hb => ⟨h5 b hb, h3.lt b hb⟩) h4) a' hE'

/-- The whole of a variable, its cells not written out. -/
theorem y_load_whole (hE : Env n ρ a) {x : Operand} {t k : Nat} {ad : Addr} {cs : List Value} (hx : ev? ρ x = some (.pointer (some (ad.add 0)))) (hc : CellsAt w ad cs) (hk : cs.length = k)
    (ht : chkAgg P t k = true) : Yields P a w (.load t x) ty (.agg cs.toArray) := by
  intro _ _ _ _
  rw [Addr.add_zero'] at hx
  simp [execOp, hE.eval hx, Instr.loadAt, Instr.sureAddr, run_load_agg hc ht hk]
end

theorem chkAgg_size {P : Program} {t n : Nat} (h : chkAgg P t n = true) : ∀ w, (sizeOf t).run P w = .ok n w := fun w => (chkAgg_isAgg h w).2
theorem chkOne_size {P : Program} {t : Nat} (h : chkOne P t = true) : ∀ w, (sizeOf t).run P w = .ok 1 w := fun w => (chkOne_isAgg h w).2

/-! ## A region that draws its order: read in the text's order, in any world that keeps the chunks -/
section
variable {P : Program} {ops : Array Oper} {n : Nat} {ρ : List (Nat × Value)} {a : Act} {S : Nat → Prop} {w0 w : World} {L : List Ck} {rest : List Oper} {d : Nat} {op : Op} {ty : TypeId} {pos : String} {after : Array Edge} {R : Act → Prop}

theorem reg_quiet {Q : Exit → Act → World → Prop} {id : Nat} {l : List Oper} (hm : P.follows .mixedOrders = true) (hB : Region.lexB .any l.toArray = true) (hS : SH S w0 w L)
    (h : wpQuiet P l.toArray (fun w' => SH S w0 w' L) (fun a' => ∀ w', SH S w0 w' L → Q .normal a' w') l a) : (Code.region id l.toArray true).wp P Q a w :=
  wp_region_quiet (C := fun w' => SH S w0 w' L) hm hB hS.drew (by simpa using h)

theorem q_val (hE : Env n ρ a) {v : Value} (hy : ∀ w, SH S w0 w L → Yields P a w op ty v) (hd : Nat.blt d n = true) (k : ∀ a, Env n ((d, v) :: ρ) a → wpQuiet P ops (fun w' => SH S w0 w' L) R rest a) :
    wpQuiet P ops (fun w' => SH S w0 w' L) R (⟨some d, op, ty, pos, after, none⟩ :: rest) a := by
  unfold wpQuiet
  simp only [Region.wanted, if_true]
  refine ⟨v, fun w' hw' => ?_, k _ (hE.put hd v)⟩
  unfold Oper.quietAt
  rw [hy w' hw']
  exact ⟨rfl, rfl⟩

theorem q_call (hE : Env n ρ a) {f : FuncId} {fn : Func} {xs : Array Operand} {ts : Array TypeId} {vs : List Value} {v : Value}
    (hf : P.funcs[f]? = some fn) (hb : fn.body.isNone = false) (hn : (fn.name == "runtime.NumGoroutine") = false)
    (hc : ∀ w, SH S w0 w L → Calls P f vs.toArray w (fun e w' => e = .returned v ∧ Below w.heap.size w w')) (hx : xs.toList.map (ev? ρ) = vs.map some) (hd : Nat.blt d n = true)
    (k : ∀ a, Env n ((d, v) :: ρ) a → wpQuiet P ops (fun w' => SH S w0 w' L) R rest a) :
    wpQuiet P ops (fun w' => SH S w0 w' L) R (⟨some d, .call { callee := .value (.func f), args := xs, argTypes := ts }, ty, pos, after, none⟩ :: rest) a := by
  have hm : xs.map a.eval = vs.toArray := by
    have : xs.toList.map a.eval = vs := by
      clear hc k
      generalize xs.toList = l at hx ⊢
      induction l generalizing vs with
      | nil => cases vs with
        | nil => rfl
        | cons => simp at hx
      | cons x l ih => cases vs with
        | nil => simp at hx
        | cons v vs =>
          simp only [List.map_cons, List.cons.injEq] at hx
          rw [List.map_cons, hE.eval hx.1, ih hx.2]
    apply Array.toList_inj.1
    rw [Array.toList_map, this]
  have hn' : ¬ fn.name = "runtime.NumGoroutine" := by simpa using hn
  have hb' : ¬ fn.body = none := by intro e; rw [e] at hb; cases hb
  unfold wpQuiet
  simp only [Region.wanted, if_true]
  refine ⟨v, fun w' hw' => ?_, k _ (hE.put hd v)⟩
  unfold Oper.quietAt
  have : (execOp a.eval ⟨some d, .call { callee := .value (.func f), args := xs, argTypes := ts }, ty, pos, after, none⟩).run P w' = .ok (.enter f vs.toArray) w' := by
    simp [execOp, resolve, hm, Act.eval, Deferred.ofValue, invoke, callFunc, hf, hn', hb']
  rw [this]
  exact ⟨rfl, (hc w' hw').mono fun e w2 h => ⟨h.1, hw'.same h.2⟩⟩

theorem q_index {α : Type} [Dat α] [Inhabited α] (hE : Env n ρ a) {B : Nat → Prop} {w1 : World} {A : Option Addr} {len cap : Nat} {xs : List α} (hv : SlR B w1 (.slice A len cap) xs) {x y : Operand} {t e bytes : Nat} {i : Int} {k : Nat}
    (hx : ev? ρ x = some (.slice A len cap)) (hy : ev? ρ y = some (.int .i64 i)) (hi : i = k) (hk : k < xs.length) (ht : chkSlice P t e (Dat.sz α) bytes = true) (hd : Nat.blt d n = true)
    (K : ∀ ad cs, Dat.rd B w1 cs (nth xs k) → CellsAt w1 ad cs → B ad.block → ∀ a, Env n ((d, .pointer (some (ad.add 0))) :: ρ) a → wpQuiet P ops (fun w' => SH S w0 w' L) R rest a) :
    wpQuiet P ops (fun w' => SH S w0 w' L) R (⟨some d, .indexAddr t x y, ty, pos, after, none⟩ :: rest) a := by
  obtain ⟨ad, cs, rfl, rfl, hr, hc, hb⟩ := hv.elem hk
  subst hi
  refine q_val hE (fun _ _ => y_indexAddr hE hx hy (by omega) (by omega) ht) hd fun a' hE' => ?_
  rw [Int.toNat_natCast] at hE'
  exact K _ cs hr hc (by rw [block_add]; exact hb) a' hE'

theorem q_nil (h : R a) : wpQuiet P ops (fun w' => SH S w0 w' L) R [] a := h
end

/-! ## Passing through the ends -/
section
variable {K : Act → World → Prop} {Q : Exit → Act → World → Prop} {a : Act} {w : World} {id id' : Nat}
theorem then_normal (h : K a w) : Exit.then K Q .normal a w := h
theorem then_ret (h : Q .ret a w) : Exit.then K Q .ret a w := h
theorem then_exit (h : Q (.exit id) a w) : Exit.then K Q (.exit id) a w := h
theorem blk_normal (h : Q .normal a w) : Exit.inBlock id Q .normal a w := h
theorem blk_ret (h : Q .ret a w) : Exit.inBlock id Q .ret a w := h
theorem blk_exit (h : Q .normal a w) : Exit.inBlock id Q (.exit id) a w := by simp only [Exit.inBlock, if_true]; exact h
theorem blk_pass (hne : Nat.beq id' id = false) (h : Q (.exit id') a w) : Exit.inBlock id Q (.exit id') a w := by
  have : id' ≠ id := fun e => by subst e; simp at hne
  simp only [Exit.inBlock, this, if_false]
  exact h
end

section
variable {P : Program} {Q : Exit → Act → World → Prop} {a : Act} {w : World} {x y : Code}
/-- Where ways meet again. -/
theorem seq_cut (Mid : Act → World → Prop) (hx : x.wp P (Exit.then Mid Q) a w) (hy : ∀ a w, Mid a w → y.wp P Q a w) : (Code.seq x y).wp P Q a w :=
  wp_seq (wp_mono hx fun e a w h => by cases e <;> first | exact hy a w h | exact h)

theorem fin1 {fn : Func} {n : Nat} {ρ : List (Nat × Value)} {t : Nat} {v : Value} {R : Ending → World → Prop} (hE : Env n ρ a) (hr : fn.results = #[.tmp t]) (hv : lk? ρ t = some v) (h : R (.returned v) w) : bodyPost P fn R .ret a w :=
  ⟨hE.defers, v, by rw [results_tmp hr, hE.get t v hv], h⟩
theorem fin2 {fn : Func} {n : Nat} {ρ : List (Nat × Value)} {t u : Nat} {v v' : Value} {R : Ending → World → Prop} (hE : Env n ρ a) (hr : fn.results = #[.tmp t, .tmp u]) (hv : lk? ρ t = some v) (hv' : lk? ρ u = some v') (h : R (.returned (.tuple #[v, v'])) w) : bodyPost P fn R .ret a w :=
  ⟨hE.defers, _, by rw [results_tmp2 hr, hE.get t v hv, hE.get u v' hv'], h⟩
/-- A struct that lies in a variable. -/
theorem finC {fn : Func} {n : Nat} {ρ : List (Nat × Value)} {S : Nat → Prop} {w0 : World} {L : List Ck} {t k b sz : Nat} {T : TypeId} {cs : List Value} {R : Ending → World → Prop} (hE : Env n ρ a) (hS : SH S w0 w L) (hr : fn.results = #[.cell t T])
    (hv : lk? ρ t = some (.pointer (some ((⟨b, 0, none⟩ : Addr).add 0)))) {T' : TypeId} (hk : L[k]? = some (Ck.var b cs T')) (ht : chkAgg P T sz = true) (hl : cs.length = sz) (h : R (.returned (.agg cs.toArray)) w) : bodyPost P fn R .ret a w := by
  refine ⟨hE.defers, _, ?_, h⟩
  have hp := hE.get t _ hv
  rw [Addr.add_zero'] at hp
  simp only [Array.getD_eq_getD_getElem?] at hp
  have hl2 := run_load_agg (P := P) (w := w) (hS.cells hk) ht hl
  simp [results, hr, hp, asAddr, hl2]
end

theorem if_t {α : Type} {b : Bool} {x y : α} (h : b = true) : (if b = true then x else y) = x := if_pos h
theorem if_f {α : Type} {b : Bool} {x y : α} (h : b = false) : (if b = true then x else y) = y := if_neg (by rw [h]; decide)

/-! ## From the row's reading of an argument -/
section
variable {P : Program}
/-- What the row reads off cells of type t reads as an α. -/
def Reads (P : Program) (t : TypeId) (α : Type) [Dat α] : Prop :=
  ∀ {H : Type} {enc : TypeId × Value → H} {W : World} {fuel : Nat} {cs : List Value} {x : DataW H × List MemPlace}, DataW.trod enc P W 0 (fun _ => true) true fuel t cs = some x → ∃ a : α, Dat.rd (Old W) W cs a

theorem reads_int {t : TypeId} (ht : P.underlying t = some (.int .i64)) : Reads P t Int := by
  intro H enc W fuel cs x h
  obtain ⟨n, rfl, _, hw⟩ := DataW.trod_int ht h
  refine ⟨n, rfl, ?_⟩
  simp [Lit.wf, IntKind.min, IntKind.max, IntKind.signed, IntKind.bits] at hw
  unfold I64
  omega
theorem reads_bool {t : TypeId} (ht : P.underlying t = some .bool) : Reads P t Bool := by
  intro H enc W fuel cs x h
  obtain ⟨b, rfl, _⟩ := DataW.trod_bool ht h
  exact ⟨b, rfl, trivial⟩
theorem reads_string {t : TypeId} (ht : P.underlying t = some .string) : Reads P t ByteArray := by
  intro H enc W fuel cs x h
  obtain ⟨s, rfl, _, hs⟩ := DataW.trod_string ht h
  exact ⟨s, rfl, hs⟩

theorem choose_list {α : Type} (n : Nat) (p : Nat → α → Prop) (h : ∀ i, i < n → ∃ a, p i a) : ∃ l : List α, l.length = n ∧ ∀ i a, l[i]? = some a → p i a := by
  induction n with
  | zero => exact ⟨[], rfl, fun i a h => by simp at h⟩
  | succ n ih =>
    obtain ⟨l, hl, hp⟩ := ih fun i hi => h i (by omega)
    obtain ⟨a, ha⟩ := h n (by omega)
    refine ⟨l ++ [a], by simp [hl], fun i b hb => ?_⟩
    rw [List.getElem?_append] at hb
    split at hb
    · exact hp i b hb
    · rename_i hi
      have : i = n := by
        have := (List.getElem?_eq_some_iff.1 hb).1
        simp at this
        omega
      subst this
      simp [hl] at hb
      subst hb
      exact ha

theorem reads_slice {t e sz bytes : Nat} {α : Type} [Dat α] (ht : chkSlice P t e sz bytes = true) (hsz : P.cellsOf e = Dat.sz α) (he : Reads P e α) : Reads P t (List α) := by
  intro H enc W fuel cs x h
  rcases Deep.open_slice (chkSlice_spec ht).1 h with ⟨rfl, _⟩ | ⟨a, len, cap, m, n, D, Pl, rfl, hb, hl, hm, hmm, _, hx⟩
  · exact ⟨[], _, rfl, none, 0, rfl, by simp, by simp [maxLen], fun h => absurd rfl h⟩
  · have hlm : len ≤ m := by simp at hmm; omega
    obtain ⟨l, hll, hp⟩ := choose_list (α := α) len (fun i a' => ∃ cs, Dat.rd (Old W) W cs a' ∧ CellsAt W (a.add (i * Dat.sz α)) cs) (fun i hi => by
      obtain ⟨cs', h1, h2⟩ := hx i (by omega)
      obtain ⟨a', ha'⟩ := he h2
      obtain ⟨_, hlen, hc⟩ := World.cells?_some h1
      refine ⟨a', cs', ha', fun j v hv => ?_⟩
      rw [← hsz, hc j (by have := (List.getElem?_eq_some_iff.1 hv).1; omega)]
      exact hv)
    refine ⟨l, _, rfl, some a, cap, by rw [hll], by omega, hm, fun hn => ⟨a, rfl, ?_, hp⟩⟩
    have hpos : 0 < len := by rw [← hll]; exact List.length_pos_iff.2 hn
    obtain ⟨cs', h1, h2⟩ := hx 0 (by omega)
    obtain ⟨_, hlen, hc⟩ := World.cells?_some h1
    obtain ⟨a', ha'⟩ := he h2
    have hszp : 0 < P.cellsOf e ∨ P.cellsOf e = 0 := by omega
    rcases hszp with hp0 | hp0
    · have h0 := hc 0 hp0
      cases hv : cs'[0]? with
      | none => rw [List.getElem?_eq_none_iff] at hv; omega
      | some u =>
        rw [hv] at h0
        have := World.block_lt_of_cell? W _ h0
        simpa [block_add] using this
    · exact absurd hp0 (by rw [hsz]; exact Nat.pos_iff_ne_zero.1 (Dat.sz_pos α))

/-- Two parts that lie one behind the other. -/
theorem rd_pair {α β : Type} [Dat α] [Dat β] {B : Nat → Prop} {w : World} {cs : List Value} {o : Nat} {x : α} {y : β} (h1 : Dat.rd B w ((cs.drop o).take (Dat.sz α)) x) (h2 : Dat.rd B w ((cs.drop (o + Dat.sz α)).take (Dat.sz β)) y) :
    Dat.rd B w ((cs.drop o).take (Dat.sz (α × β))) (x, y) := by
  refine ⟨_, _, ?_, h1, h2⟩
  show (cs.drop o).take (Dat.sz α + Dat.sz β) = _
  rw [List.take_add, List.drop_drop]

/-- A struct's field is read. -/
theorem reads_field {t f o : Nat} {α : Type} [Dat α] {fd : TypeId} (hc : chkFieldT P t f o fd (Dat.sz α) = true) (he : Reads P fd α) {H : Type} {enc : TypeId × Value → H} {W : World} {fuel : Nat} {cs : List Value} {x : DataW H × List MemPlace}
    (h : DataW.trod enc P W 0 (fun _ => true) true fuel t cs = some x) : ∃ a : α, Dat.rd (Old W) W ((cs.drop o).take (Dat.sz α)) a := by
  obtain ⟨fs, fld, hu, hf, ho, hfd, hsz⟩ := chkFieldT_spec hc
  obtain ⟨xs, n, _, _, _, hlen, hx⟩ := DataW.trod_struct hu h
  have := hx f fld hf
  have hlt : f < xs.length := by rw [hlen]; exact (Array.getElem?_eq_some_iff.1 hf).1
  rw [List.getElem?_eq_getElem hlt, ho, hfd, hsz] at this
  exact he this
theorem struct_len {t n : Nat} (hc : chkAgg P t n = true) {fs : Array Field} (hu : P.underlying t = some (.struct fs)) {H : Type} {enc : TypeId × Value → H} {W : World} {fuel : Nat} {cs : List Value} {x : DataW H × List MemPlace}
    (h : DataW.trod enc P W 0 (fun _ => true) true fuel t cs = some x) : cs.length = n := by
  obtain ⟨_, _, _, _, hl, _⟩ := DataW.trod_struct hu h
  rw [hl]
  unfold chkAgg at hc
  simp only [Bool.and_eq_true] at hc
  cases hi : P.info? t with
  | none => rw [hi] at hc; simp at hc
  | some i =>
    rw [hi] at hc
    simp [Program.cellsOf, hi, Nat.eq_of_beq_eq_true hc.2]
end
end Go.Proofs.YtmjjcihoobnbgaaDoor.Fw
