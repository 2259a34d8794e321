/-
  An abstract machine for walks: the state of a call is told by names (no address, no world, no frame in sight), and a walk goes from state to state. No condition: every lemma is general in the program.
-/
import Derived.Test.YtmjjcihoobnbgaaDoorGlob
import Derived.Test.YtmjjcihoobnbgaaDoorFocus
namespace Go.Proofs.YtmjjcihoobnbgaaDoor.Fw
open Go.RowKit
set_option linter.unusedVariables false

/-- 'and', told apart from the 'and' of what is reckoned with. -/
def an : Bool → Bool → Bool
  | true, b => b
  | false, _ => false
theorem an_eq (a b : Bool) : an a b = (a && b) := by cases a <;> rfl

/-! ## Values by name -/
inductive V where
  | v (x : Value)
  | sl (r len : Nat)
  | pt (r off : Nat)
  | ag (cs : List V)
  | fn (f : FuncId) (cs : List V)
  | tu (cs : List V)
  | gd (b : Bool) (x : V)

/-- What a name stands for: an address (or none), a capacity, the blocks that are its own. -/
structure Loc where
  A : Option Addr
  cap : Nat
  F : List Nat

mutual
def V.con (θ : List Loc) : V → Option Value
  | .v x => some x
  | .sl r len => match θ[r]? with
    | some l => some (.slice l.A len l.cap)
    | none => none
  | .pt r off => match θ[r]? with
    | some ⟨some A, _, _⟩ => some (.pointer (some (A.add off)))
    | _ => none
  | .ag cs => (conL θ cs).map fun l => .agg l.toArray
  | .fn f cs => (conL θ cs).map fun l => .func (.func f) #[] l.toArray
  | .tu cs => (conL θ cs).map fun l => .tuple l.toArray
  | .gd b x => match b with
    | true => x.con θ
    | false => some undef
def conL (θ : List Loc) : List V → Option (List Value)
  | [] => some []
  | x :: r => match x.con θ, conL θ r with
    | some a, some b => some (a :: b)
    | _, _ => none
end

theorem get_ext {θ θ' : List Loc} {r : Nat} {l : Loc} (h : θ[r]? = some l) : (θ ++ θ')[r]? = some l := by
  rw [List.getElem?_append_left (List.getElem?_eq_some_iff.1 h).1]
  exact h

mutual
theorem V.con_ext {θ θ' : List Loc} : ∀ {v : V} {x : Value}, v.con θ = some x → v.con (θ ++ θ') = some x
  | .v _, _, h => h
  | .sl r len, x, h => by
    simp only [V.con] at h ⊢
    cases hr : θ[r]? with
    | none => rw [hr] at h; cases h
    | some l => rw [hr] at h; rw [get_ext hr]; exact h
  | .pt r off, x, h => by
    simp only [V.con] at h ⊢
    cases hr : θ[r]? with
    | none => rw [hr] at h; cases h
    | some l => rw [hr] at h; rw [get_ext hr]; exact h
  | .ag cs, x, h => by
    simp only [V.con, Option.map_eq_some_iff] at h ⊢
    obtain ⟨l, hl, e⟩ := h
    exact ⟨l, conL_ext hl, e⟩
  | .fn f cs, x, h => by
    simp only [V.con, Option.map_eq_some_iff] at h ⊢
    obtain ⟨l, hl, e⟩ := h
    exact ⟨l, conL_ext hl, e⟩
  | .tu cs, x, h => by
    simp only [V.con, Option.map_eq_some_iff] at h ⊢
    obtain ⟨l, hl, e⟩ := h
    exact ⟨l, conL_ext hl, e⟩
  | .gd true y, x, h => by
    simp only [V.con] at h ⊢
    exact V.con_ext h
  | .gd false y, x, h => h
theorem conL_ext {θ θ' : List Loc} : ∀ {cs : List V} {l : List Value}, conL θ cs = some l → conL (θ ++ θ') cs = some l
  | [], _, h => h
  | x :: r, l, h => by
    simp only [conL] at h ⊢
    cases h1 : x.con θ with
    | none => rw [h1] at h; cases h
    | some a =>
      cases h2 : conL θ r with
      | none => rw [h1, h2] at h; cases h
      | some b =>
        rw [h1, h2] at h
        rw [V.con_ext h1, conL_ext h2]
        exact h
end

theorem conL_cons {θ : List Loc} {x : V} {r : List V} {l : List Value} (h : conL θ (x :: r) = some l) : ∃ a b, l = a :: b ∧ x.con θ = some a ∧ conL θ r = some b := by
  simp only [conL] at h
  cases h1 : x.con θ with
  | none => rw [h1] at h; cases h
  | some a =>
    cases h2 : conL θ r with
    | none => rw [h1, h2] at h; cases h
    | some b => rw [h1, h2] at h; cases h; exact ⟨a, b, rfl, rfl, rfl⟩
theorem conL_mk {θ : List Loc} {x : V} {r : List V} {a : Value} {b : List Value} (h1 : x.con θ = some a) (h2 : conL θ r = some b) : conL θ (x :: r) = some (a :: b) := by
  simp only [conL, h1, h2]
theorem conL_length {θ : List Loc} : ∀ {cs : List V} {l : List Value}, conL θ cs = some l → l.length = cs.length
  | [], l, h => by cases h; rfl
  | x :: r, l, h => by
    obtain ⟨a, b, rfl, _, h2⟩ := conL_cons h
    simp [conL_length h2]
theorem conL_get {θ : List Loc} : ∀ {cs : List V} {l : List Value} {i : Nat} {v : V}, conL θ cs = some l → cs[i]? = some v → ∃ x, l[i]? = some x ∧ v.con θ = some x
  | [], _, _, _, _, h => by simp at h
  | x :: r, l, i, v, h, hi => by
    obtain ⟨a, b, rfl, h1, h2⟩ := conL_cons h
    cases i with
    | zero => simp at hi; subst hi; exact ⟨a, rfl, h1⟩
    | succ i =>
      obtain ⟨x, hx, hc⟩ := conL_get h2 (i := i) (by simpa using hi)
      exact ⟨x, by simpa using hx, hc⟩
theorem conL_app {θ : List Loc} : ∀ {cs ds : List V} {l m : List Value}, conL θ cs = some l → conL θ ds = some m → conL θ (cs ++ ds) = some (l ++ m)
  | [], _, l, _, h, h' => by cases h; exact h'
  | x :: r, ds, l, m, h, h' => by
    obtain ⟨a, b, rfl, h1, h2⟩ := conL_cons h
    exact conL_mk h1 (conL_app h2 h')
theorem conL_take {θ : List Loc} : ∀ {cs : List V} {l : List Value} (n : Nat), conL θ cs = some l → conL θ (cs.take n) = some (l.take n)
  | cs, l, 0, h => by simp [conL]
  | [], l, n + 1, h => by cases h; rfl
  | x :: r, l, n + 1, h => by
    obtain ⟨a, b, rfl, h1, h2⟩ := conL_cons h
    exact conL_mk h1 (conL_take n h2)
theorem conL_drop {θ : List Loc} : ∀ {cs : List V} {l : List Value} (n : Nat), conL θ cs = some l → conL θ (cs.drop n) = some (l.drop n)
  | cs, l, 0, h => by simpa using h
  | [], l, n + 1, h => by cases h; rfl
  | x :: r, l, n + 1, h => by
    obtain ⟨a, b, rfl, h1, h2⟩ := conL_cons h
    exact conL_drop n h2

/-! ## The frame -/
def lk : List (Nat × V) → Nat → Option V
  | [], _ => none
  | (t, v) :: r, k => bif Nat.beq t k then some v else lk r k

def ev (ρ : List (Nat × V)) : Operand → Option V
  | .tmp t => lk ρ t
  | .const x => some (.v x)
  | .global g => some (.v (.pointer (some ⟨g, 0, none⟩)))
  | .func f => some (.fn f [])

def cons2 : Option V → Option (List V) → Option (List V)
  | some a, some b => some (a :: b)
  | _, _ => none
def evs (ρ : List (Nat × V)) : List Operand → Option (List V)
  | [] => some []
  | x :: r => cons2 (ev ρ x) (evs ρ r)

structure EnvV (n : Nat) (θ : List Loc) (ρ : List (Nat × V)) (a : Act) : Prop where
  size : a.tmps.size = n
  defers : a.defers = []
  get : ∀ t v, lk ρ t = some v → v.con θ = some (a.tmps.getD t undef) ∧ t < n

def selfρ (a : Act) : List (Nat × Value) := (List.range a.tmps.size).map fun t => (t, a.tmps.getD t undef)

theorem lk?_self : ∀ (l : List Nat) (f : Nat → Value) (t : Nat), lk? (l.map fun t => (t, f t)) t = if t ∈ l then some (f t) else none
  | [], f, t => rfl
  | x :: r, f, t => by
    simp only [List.map_cons, lk?, lk?_self r f t]
    by_cases e : x = t
    · subst e; simp
    · have : Nat.beq x t = false := by
        cases h : Nat.beq x t
        · rfl
        · exact absurd (Nat.eq_of_beq_eq_true h) e
      have e' : ¬ t = x := fun h => e h.symm
      simp [this, e']

theorem Env.self (a : Act) (hd : a.defers = []) : Env a.tmps.size (selfρ a) a := by
  refine ⟨rfl, hd, fun t v h => ?_⟩
  unfold selfρ at h
  rw [lk?_self] at h
  split at h
  · cases h; rfl
  · cases h

section
variable {n : Nat} {θ θ' : List Loc} {ρ : List (Nat × V)} {a : Act}
theorem EnvV.env (h : EnvV n θ ρ a) : Env n (selfρ a) a := by
  have := Env.self a h.defers
  rw [h.size] at this
  exact this
theorem EnvV.con (h : EnvV n θ ρ a) {x : Operand} {v : V} (hx : ev ρ x = some v) : v.con θ = some (a.eval x) := by
  cases x with
  | tmp t => exact (h.get t v hx).1
  | const c => cases hx; rfl
  | global g => cases hx; rfl
  | func f => cases hx; rfl
theorem EnvV.ev1 (h : EnvV n θ ρ a) {x : Operand} {v : V} (hx : ev ρ x = some v) : ev? (selfρ a) x = some (a.eval x) := by
  cases x with
  | tmp t =>
    have := (h.get t v hx).2
    show lk? (selfρ a) t = _
    unfold selfρ
    rw [lk?_self, if_pos (by rw [h.size]; exact List.mem_range.2 this)]
    rfl
  | const c => rfl
  | global g => rfl
  | func f => rfl
theorem EnvV.is (h : EnvV n θ ρ a) {x : Operand} {v : V} {u : Value} (hx : ev ρ x = some v) (hu : v.con θ = some u) : ev? (selfρ a) x = some u := by
  have := h.con hx
  rw [hu] at this
  cases this
  exact h.ev1 hx
theorem EnvV.isv (h : EnvV n θ ρ a) {x : Operand} {u : Value} (hx : ev ρ x = some (.v u)) : ev? (selfρ a) x = some u := h.is hx rfl
theorem EnvV.ext (h : EnvV n θ ρ a) : EnvV n (θ ++ θ') ρ a := ⟨h.size, h.defers, fun t v hv => ⟨V.con_ext (h.get t v hv).1, (h.get t v hv).2⟩⟩
theorem EnvV.put (h : EnvV n θ ρ a) {d : Nat} (hd : Nat.blt d n = true) {v : V} {x : Value} (hv : v.con θ = some x) : EnvV n θ ((d, v) :: ρ) (a.put (some d) x) := by
  have hd' : d < a.tmps.size := by rw [h.size]; simpa using hd
  refine ⟨by simp [Act.put, h.size], by simp [Act.put, h.defers], fun t u hu => ?_⟩
  simp only [lk] at hu
  by_cases e : d = t
  · subst e
    simp at hu
    subst hu
    exact ⟨by simp [Act.put, hd', hv], by rw [← h.size]; exact hd'⟩
  · have : Nat.beq d t = false := by
      cases hb : Nat.beq d t
      · rfl
      · exact absurd (Nat.eq_of_beq_eq_true hb) e
    rw [this] at hu
    have := h.get t u hu
    refine ⟨?_, this.2⟩
    rw [this.1]
    simp only [Act.put, Array.getD_eq_getD_getElem?]
    rw [Array.getElem?_setIfInBounds_ne e]
theorem EnvV.evsL (h : EnvV n θ ρ a) : ∀ {xs : List Operand} {vs : List V}, evs ρ xs = some vs → ∃ us, conL θ vs = some us ∧ xs.map (ev? (selfρ a)) = us.map some
  | [], vs, hx => by cases hx; exact ⟨[], rfl, rfl⟩
  | x :: r, vs, hx => by
    simp only [evs] at hx
    cases h1 : ev ρ x with
    | none => rw [h1] at hx; cases hx
    | some v =>
      cases h2 : evs ρ r with
      | none => rw [h1, h2] at hx; cases hx
      | some b =>
        rw [h1, h2] at hx
        cases hx
        obtain ⟨us, hus, hm⟩ := h.evsL h2
        refine ⟨a.eval x :: us, conL_mk (h.con h1) hus, ?_⟩
        rw [List.map_cons, List.map_cons, hm, h.ev1 h1]
end

/-! ## What structs are made of -/
inductive Fk (α : Type) : Type 1 where
  | int (g : α → Int)
  | byte (g : α → UInt8)
  | bool (g : α → Bool)
  | str (g : α → ByteArray)
  | sl (β : Type) (d : Dat β) (g : α → List β)

def Fk.rd {α : Type} (S : Nat → Prop) (w : World) (x : α) (v : Value) : Fk α → Prop
  | .int g => v = .int .i64 (g x) ∧ I64 (g x)
  | .byte g => v = .int .u8 (g x).toNat
  | .bool g => v = .bool (g x)
  | .str g => v = .string (g x) ∧ (g x).size ≤ maxLen
  | .sl _ _ g => SlR S w v (g x)
def Fk.own {α : Type} (w : World) (x : α) (v : Value) (F : List Nat) : Fk α → Prop
  | .int g => (v = .int .i64 (g x) ∧ I64 (g x)) ∧ F = []
  | .byte g => v = .int .u8 (g x).toNat ∧ F = []
  | .bool g => v = .bool (g x) ∧ F = []
  | .str g => (v = .string (g x) ∧ (g x).size ≤ maxLen) ∧ F = []
  | .sl _ _ g => SlO w v (g x) F
def Fk.good {α : Type} (x : α) : Fk α → Prop
  | .int g => I64 (g x)
  | .byte _ => True
  | .bool _ => True
  | .str g => (g x).size ≤ maxLen
  | .sl _ _ g => (g x).length ≤ 9223372036854775807

def RdL {α : Type} (S : Nat → Prop) (w : World) (x : α) : List (Fk α) → List Value → Prop
  | [], cs => cs = []
  | f :: fs, cs => ∃ v r, cs = v :: r ∧ f.rd S w x v ∧ RdL S w x fs r
def OwL {α : Type} (w : World) (x : α) : List (Fk α) → List Value → List Nat → Prop
  | [], cs, F => cs = [] ∧ F = []
  | f :: fs, cs, F => ∃ v r G H, cs = v :: r ∧ F = G ++ H ∧ f.own w x v G ∧ OwL w x fs r H
def GdL {α : Type} (x : α) : List (Fk α) → Prop
  | [] => True
  | f :: fs => f.good x ∧ GdL x fs

/-- A type whose values are told by flat fields. -/
class Str (α : Type) [Dat α] where
  fk : List (Fk α)
  op : ∀ {S : Nat → Prop} {w : World} {cs : List Value} {x : α}, Dat.rd S w cs x → RdL S w x fk cs
  cl : ∀ {S : Nat → Prop} {w : World} {cs : List Value} {x : α}, RdL S w x fk cs → Dat.rd S w cs x
  oop : ∀ {w : World} {cs : List Value} {x : α} {F : List Nat}, Dat.own w cs x F → OwL w x fk cs F
  omk : ∀ {w : World} {cs : List Value} {x : α} {F : List Nat}, OwL w x fk cs F → Dat.own w cs x F
  gd : ∀ {x : α}, Dat.good x → GdL x fk

instance : Str Int where
  fk := [.int id]
  op h := ⟨_, [], h.1, ⟨rfl, h.2⟩, rfl⟩
  cl h := by obtain ⟨v, r, rfl, ⟨rfl, hg⟩, rfl⟩ := h; exact ⟨rfl, hg⟩
  oop h := ⟨_, [], [], [], h.1.1, by rw [h.2]; rfl, ⟨⟨rfl, h.1.2⟩, rfl⟩, rfl, rfl⟩
  omk h := by obtain ⟨v, r, G, H, rfl, rfl, ⟨⟨rfl, hg⟩, rfl⟩, rfl, rfl⟩ := h; exact ⟨⟨rfl, hg⟩, rfl⟩
  gd h := ⟨h, trivial⟩
instance : Str UInt8 where
  fk := [.byte id]
  op h := ⟨_, [], h.1, rfl, rfl⟩
  cl h := by obtain ⟨v, r, rfl, rfl, rfl⟩ := h; exact ⟨rfl, trivial⟩
  oop h := ⟨_, [], [], [], h.1.1, by rw [h.2]; rfl, ⟨rfl, rfl⟩, rfl, rfl⟩
  omk h := by obtain ⟨v, r, G, H, rfl, rfl, ⟨rfl, rfl⟩, rfl, rfl⟩ := h; exact ⟨⟨rfl, trivial⟩, rfl⟩
  gd h := ⟨trivial, trivial⟩
instance : Str ByteArray where
  fk := [.str id]
  op h := ⟨_, [], h.1, ⟨rfl, h.2⟩, rfl⟩
  cl h := by obtain ⟨v, r, rfl, ⟨rfl, hg⟩, rfl⟩ := h; exact ⟨rfl, hg⟩
  oop h := ⟨_, [], [], [], h.1.1, by rw [h.2]; rfl, ⟨⟨rfl, h.1.2⟩, rfl⟩, rfl, rfl⟩
  omk h := by obtain ⟨v, r, G, H, rfl, rfl, ⟨⟨rfl, hg⟩, rfl⟩, rfl, rfl⟩ := h; exact ⟨⟨rfl, hg⟩, rfl⟩
  gd h := ⟨h, trivial⟩
instance {β : Type} [Dat β] : Str (List β) where
  fk := [.sl β _ id]
  op h := by obtain ⟨v, rfl, h⟩ := h; exact ⟨v, [], rfl, h, rfl⟩
  cl h := by obtain ⟨v, r, rfl, h, rfl⟩ := h; exact ⟨v, rfl, h⟩
  oop h := by obtain ⟨v, rfl, h⟩ := h; exact ⟨v, [], _, [], rfl, (List.append_nil _).symm, h, rfl, rfl⟩
  omk h := by obtain ⟨v, r, G, H, rfl, rfl, h, rfl, rfl⟩ := h; rw [List.append_nil]; exact ⟨v, rfl, h⟩
  gd h := ⟨h.1, trivial⟩

/-! ## What names stand for -/
inductive En : Type 1 where
  | var (cs : List V) (T : TypeId)
  | own (α : Type) (d : Dat α) (xs : List α)
  | ros (α : Type) (d : Dat α) (xs : List α)
  | roc (cs : List V)
  | lit (cs : List V) (T : TypeId) (n : Nat)
  | itr (s : ByteArray) (pos : Nat)
  | pin (l : Loc)

def locF (θ : List Loc) (r : Nat) : List Nat := match θ[r]? with
  | some l => l.F
  | none => []

def En.ck (θ : List Loc) (r : Nat) : En → Ck
  | .var cs T => ⟨locF θ r, fun w => ∃ l b ccs, θ[r]? = some l ∧ l.A = some ⟨b, 0, none⟩ ∧ l.F = [b] ∧ conL θ cs = some ccs ∧ w.heap[b]? = some (.cells ccs.toArray T (0, 0))⟩
  | .lit cs T n => ⟨locF θ r, fun w => ∃ l b ccs, (θ[r]? = some l ∧ l.cap = n) ∧ l.A = some ⟨b, 0, none⟩ ∧ l.F = [b] ∧ conL θ cs = some ccs ∧ w.heap[b]? = some (.cells ccs.toArray T (0, 0))⟩
  | .own _ _ xs => ⟨locF θ r, fun w => ∃ l, θ[r]? = some l ∧ SlO w (.slice l.A xs.length l.cap) xs l.F⟩
  | .itr s pos => ⟨locF θ r, fun w => ∃ l b, θ[r]? = some l ∧ l.A = some ⟨b, 0, none⟩ ∧ l.F = [b] ∧ w.heap[b]? = some (.stringIter s pos)⟩
  | _ => ⟨[], fun _ => True⟩

def En.ok (S : Nat → Prop) (w1 : World) (θ : List Loc) (r : Nat) : En → Prop
  | .ros _ _ xs => ∃ l, θ[r]? = some l ∧ SlR S w1 (.slice l.A xs.length l.cap) xs
  | .pin l => θ[r]? = some l
  | .roc cs => ∃ l A ccs, θ[r]? = some l ∧ l.A = some A ∧ conL θ cs = some ccs ∧ S A.block ∧ CellsAt w1 A ccs
  | _ => True

/-- What is closed about types. -/
inductive TI where
  | no
  | one
  | int (k : IntKind)
  | bool
  | str
  | sl (e sz bytes : Nat)
  | st (n : Nat) (offs : List (Nat × Nat))

def chkFSz (P : Program) (t f s : Nat) : Bool := match P.underlying t with
  | some (.struct fs) => (match fs[f]? with
    | some fd => (match P.info? fd.type with
      | some i => Nat.beq i.size s
      | none => false)
    | none => false)
  | _ => false
def fieldsChk (P : Program) (t : Nat) : Nat → List (Nat × Nat) → Bool
  | f, [] => (match P.underlying t with | some (.struct fs) => Nat.beq fs.size f | _ => false)
  | f, o :: r => (chkField P t f o.1 && chkFSz P t f o.2) && fieldsChk P t (f + 1) r

def TI.chk (P : Program) (t : Nat) : TI → Bool
  | .no => true
  | .one => chkOne P t
  | .int k => chkOne P t && (match P.underlying t with | some (.int k') => decide (k' = k) | _ => false)
  | .bool => chkOne P t && (match P.underlying t with | some .bool => true | _ => false)
  | .str => chkOne P t && (match P.underlying t with | some .string => true | _ => false)
  | .sl e sz b => chkOne P t && chkSlice P t e sz b
  | .st n offs => chkAgg P t n && fieldsChk P t 0 offs

theorem fieldsChk_spec {P : Program} {t : Nat} : ∀ {offs : List (Nat × Nat)} {f0 f : Nat} {o : Nat × Nat}, fieldsChk P t f0 offs = true → offs[f]? = some o → chkField P t (f0 + f) o.1 = true ∧ chkFSz P t (f0 + f) o.2 = true
  | [], _, _, _, _, h => by simp at h
  | x :: r, f0, f, o, h, hf => by
    simp only [fieldsChk, Bool.and_eq_true] at h
    cases f with
    | zero => simp at hf; subst hf; exact h.1
    | succ f =>
      have := fieldsChk_spec (f0 := f0 + 1) (f := f) h.2 (by simpa using hf)
      rwa [show f0 + 1 + f = f0 + (f + 1) by omega] at this

/-- How many cells a value of the type takes, if that is told. -/
def TI.cells : TI → Option Nat
  | .no => none
  | .st n _ => some n
  | _ => some 1

theorem TI.one_of {P : Program} {t : Nat} {i : TI} (h : i.chk P t = true) : (∃ n offs, i = .st n offs) ∨ i = .no ∨ (chkOne P t = true ∧ i.cells = some 1) := by
  cases i with
  | no => exact .inr (.inl rfl)
  | st n o => exact .inl ⟨n, o, rfl⟩
  | one => exact .inr (.inr ⟨h, rfl⟩)
  | int k => simp only [TI.chk, Bool.and_eq_true] at h; exact .inr (.inr ⟨h.1, rfl⟩)
  | bool => simp only [TI.chk, Bool.and_eq_true] at h; exact .inr (.inr ⟨h.1, rfl⟩)
  | str => simp only [TI.chk, Bool.and_eq_true] at h; exact .inr (.inr ⟨h.1, rfl⟩)
  | sl e s b => simp only [TI.chk, Bool.and_eq_true] at h; exact .inr (.inr ⟨h.1, rfl⟩)

/-! ## The state -/
structure St where
  n : Nat
  m : Nat
  ρ : List (Nat × V)
  E : List (Nat × En)

structure Cx where
  P : Program
  fn : Func
  ti : Nat → TI
  zr : Nat → Option Value
  G : World → Prop
  S0 : Nat → Prop
  w0 : World
  tiok : ∀ t, (ti t).chk P t = true
  zok : ∀ t z, zr t = some z → ∀ w, (zeroValue t).run P w = .ok z w
  gok : ∀ w, Keep S0 w0 w → G w
  base : ∀ b, S0 b → b < w0.heap.size
  Q : (World → Value → Prop) → World → Value → Prop

structure RH (c : Cx) (θ : List Loc) (E : List (Nat × En)) (S : Nat → Prop) (w1 w : World) : Prop where
  k0 : Keep c.S0 c.w0 w1
  sub : ∀ b, c.S0 b → S b
  sh : SH S w1 w (E.map fun e => e.2.ck θ e.1)
  ok : ∀ e ∈ E, e.2.ok S w1 θ e.1

structure R (c : Cx) (θ : List Loc) (σ : St) (a : Act) (w : World) : Prop where
  len : θ.length = σ.m
  env : EnvV σ.n θ σ.ρ a
  heap : ∃ S w1, RH c θ σ.E S w1 w

theorem RH.keep {c : Cx} {θ : List Loc} {E : List (Nat × En)} {S : Nat → Prop} {w1 w : World} (h : RH c θ E S w1 w) : Keep c.S0 c.w0 w := h.k0.trans (h.sh.keep.mono h.sub)
theorem R.keep {c : Cx} {θ : List Loc} {σ : St} {a : Act} {w : World} (h : R c θ σ a w) : Keep c.S0 c.w0 w := let ⟨_, _, hh⟩ := h.heap; hh.keep
theorem R.g {c : Cx} {θ : List Loc} {σ : St} {a : Act} {w : World} (h : R c θ σ a w) : c.G w := c.gok w h.keep

/-- Chunk by chunk, something else is said. -/
theorem SH.map2 {S : Nat → Prop} {w0 w : World} {ι : Type 1} {E : List ι} {f g : ι → Ck} (h : SH S w0 w (E.map f)) (hfg : ∀ e ∈ E, (f e).p w → (g e).F = (f e).F ∧ ∀ w', (f e).p w' → (g e).p w') : SH S w0 w (E.map g) := by
  have hp : ∀ e ∈ E, (f e).p w := fun e he => (h.ok _ (List.mem_map.2 ⟨e, he, rfl⟩)).here
  have hF : ∀ e ∈ E, (g e).F = (f e).F := fun e he => (hfg e he (hp e he)).1
  refine ⟨h.keep, h.dom, fun c hc => ?_, fun c hc b hb => ?_, ?_⟩
  · obtain ⟨e, he, rfl⟩ := List.mem_map.1 hc
    intro w' hw'
    refine (hfg e he (hp e he)).2 w' ((h.ok _ (List.mem_map.2 ⟨e, he, rfl⟩)) w' fun b hb => hw' b ?_)
    rw [hF e he]; exact hb
  · obtain ⟨e, he, rfl⟩ := List.mem_map.1 hc
    rw [hF e he] at hb
    exact h.ge _ (List.mem_map.2 ⟨e, he, rfl⟩) b hb
  · have : (E.map g).flatMap (·.F) = (E.map f).flatMap (·.F) := by
      rw [List.flatMap_map, List.flatMap_map]
      clear hfg hp h
      induction E with
      | nil => rfl
      | cons x r ih =>
        rw [List.flatMap_cons, List.flatMap_cons, hF x (by simp), ih fun e he => hF e (by simp [he])]
    rw [this]
    exact h.apart

theorem locF_of {θ : List Loc} {r : Nat} {l : Loc} (h : θ[r]? = some l) : locF θ r = l.F := by unfold locF; rw [h]

theorem En.ck_ext {θ θ' : List Loc} {r : Nat} {e : En} {w : World} (h : (e.ck θ r).p w) : (e.ck (θ ++ θ') r).F = (e.ck θ r).F ∧ ∀ w', (e.ck θ r).p w' → (e.ck (θ ++ θ') r).p w' := by
  cases e with
  | var cs T =>
    obtain ⟨l, b, ccs, hl, _⟩ := h
    refine ⟨by show locF _ _ = locF _ _; rw [locF_of hl, locF_of (get_ext hl)], ?_⟩
    rintro w' ⟨l', b', ccs', h1, h2, h3, h4, h5⟩
    exact ⟨l', b', ccs', get_ext h1, h2, h3, conL_ext h4, h5⟩
  | lit cs T n =>
    obtain ⟨l, b, ccs, ⟨hl, _⟩, _⟩ := h
    refine ⟨by show locF _ _ = locF _ _; rw [locF_of hl, locF_of (get_ext hl)], ?_⟩
    rintro w' ⟨l', b', ccs', ⟨h1, h1'⟩, h2, h3, h4, h5⟩
    exact ⟨l', b', ccs', ⟨get_ext h1, h1'⟩, h2, h3, conL_ext h4, h5⟩
  | own α d xs =>
    obtain ⟨l, hl, _⟩ := h
    refine ⟨by show locF _ _ = locF _ _; rw [locF_of hl, locF_of (get_ext hl)], ?_⟩
    rintro w' ⟨l', h1, h2⟩
    exact ⟨l', get_ext h1, h2⟩
  | itr s pos =>
    obtain ⟨l, b, hl, _⟩ := h
    refine ⟨by show locF _ _ = locF _ _; rw [locF_of hl, locF_of (get_ext hl)], ?_⟩
    rintro w' ⟨l', b', h1, h2, h3, h4⟩
    exact ⟨l', b', get_ext h1, h2, h3, h4⟩
  | ros => exact ⟨rfl, fun _ _ => trivial⟩
  | roc => exact ⟨rfl, fun _ _ => trivial⟩
  | pin => exact ⟨rfl, fun _ _ => trivial⟩
theorem En.ok_ext {S : Nat → Prop} {w1 : World} {θ θ' : List Loc} {r : Nat} {e : En} (h : e.ok S w1 θ r) : e.ok S w1 (θ ++ θ') r := by
  cases e with
  | var => trivial
  | lit => trivial
  | own => trivial
  | itr => trivial
  | pin l => exact get_ext h
  | ros α d xs => obtain ⟨l, h1, h2⟩ := h; exact ⟨l, get_ext h1, h2⟩
  | roc cs => obtain ⟨l, A, ccs, h1, h2, h3, h4, h5⟩ := h; exact ⟨l, A, ccs, get_ext h1, h2, conL_ext h3, h4, h5⟩

section
variable {c : Cx} {θ θ' : List Loc} {E : List (Nat × En)} {S : Nat → Prop} {w1 w w' : World} {σ : St} {a : Act}
theorem RH.ext (h : RH c θ E S w1 w) : RH c (θ ++ θ') E S w1 w :=
  ⟨h.k0, h.sub, h.sh.map2 fun e _ hp => En.ck_ext hp, fun e he => En.ok_ext (h.ok e he)⟩

/-- Something read-only is named anew. -/
theorem RH.fact (h : RH c θ E S w1 w) {r : Nat} {e : En} (hF : (e.ck θ r) = ⟨[], fun _ => True⟩) (hok : e.ok S w1 θ r) : RH c θ ((r, e) :: E) S w1 w := by
  refine ⟨h.k0, h.sub, ?_, List.forall_mem_cons.2 ⟨hok, h.ok⟩⟩
  show SH S w1 w (En.ck θ r e :: _)
  rw [hF]
  exact h.sh.call (Below.refl _ _) (c := ⟨[], fun _ => True⟩) (fun _ _ => trivial) (fun b hb => by cases hb) List.nodup_nil

/-- A call, or an allocation: nothing that was there has turned; something new is there. -/
theorem RH.new (h : RH c θ E S w1 w) (hb : Below w.heap.size w w') {r : Nat} {e : En} (hok : (e.ck θ r).ok w') (hge : ∀ b ∈ (e.ck θ r).F, w.heap.size ≤ b ∧ b < w'.heap.size) (hn : (e.ck θ r).F.Nodup) (hf : e.ok S w1 θ r) : RH c θ ((r, e) :: E) S w1 w' :=
  ⟨h.k0, h.sub, h.sh.call hb hok hge hn, List.forall_mem_cons.2 ⟨hf, h.ok⟩⟩
theorem RH.same (h : RH c θ E S w1 w) (hb : Below w.heap.size w w') : RH c θ E S w1 w' := ⟨h.k0, h.sub, h.sh.same hb, h.ok⟩
theorem RH.drew (h : RH c θ E S w1 w) : RH c θ E S w1 w.drew := ⟨h.k0, h.sub, h.sh.drew, h.ok⟩
end

def lkE : List (Nat × En) → Nat → Option En
  | [], _ => none
  | (t, v) :: r, k => bif Nat.beq t k then some v else lkE r k
def setE (k : Nat) (e : En) : List (Nat × En) → List (Nat × En)
  | [] => []
  | (t, v) :: r => bif Nat.beq t k then (t, e) :: r else (t, v) :: setE k e r
def delE (k : Nat) : List (Nat × En) → List (Nat × En)
  | [] => []
  | (t, v) :: r => bif Nat.beq t k then r else (t, v) :: delE k r

theorem lkE_get : ∀ {E : List (Nat × En)} {k : Nat} {e : En}, lkE E k = some e → ∃ i : Nat, E[i]? = some (k, e) ∧ (∀ e', setE k e' E = E.set i (k, e')) ∧ delE k E = E.eraseIdx i
  | [], _, _, h => by cases h
  | (t, v) :: r, k, e, h => by
    simp only [lkE] at h
    by_cases hb : Nat.beq t k = true
    · rw [hb] at h
      obtain rfl := Nat.eq_of_beq_eq_true hb
      cases h
      exact ⟨0, rfl, fun e' => by simp [setE], by simp [delE]⟩
    · rw [Bool.not_eq_true] at hb
      rw [hb] at h
      obtain ⟨i, h1, h2, h3⟩ := lkE_get h
      exact ⟨i + 1, by simpa using h1, fun e' => by simp [setE, hb, h2], by simp [delE, hb, h3]⟩
theorem lkE_mem {E : List (Nat × En)} {k : Nat} {e : En} (h : lkE E k = some e) : (k, e) ∈ E := let ⟨_, h1, _⟩ := lkE_get h; List.mem_of_getElem? h1

/-- The cells that can be read at a name. -/
def En.cells : En → Option (List V)
  | .var cs _ => some cs
  | .roc cs => some cs
  | .lit cs _ _ => some cs
  | _ => none

theorem RH.at {c : Cx} {θ : List Loc} {E : List (Nat × En)} {S : Nat → Prop} {w1 w : World} (h : RH c θ E S w1 w) {r : Nat} {e : En} (he : lkE E r = some e) {cs : List V} (hc : e.cells = some cs) :
    ∃ l A ccs, θ[r]? = some l ∧ l.A = some A ∧ conL θ cs = some ccs ∧ CellsAt w A ccs := by
  have hm := lkE_mem he
  cases e with
  | var cs' T =>
    cases hc
    obtain ⟨l, b, ccs, h1, h2, h3, h4, h5⟩ := (h.sh.ok _ (List.mem_map.2 ⟨_, hm, rfl⟩)).here
    exact ⟨l, _, ccs, h1, h2, h4, CellsAt.row h5⟩
  | roc cs' =>
    cases hc
    obtain ⟨l, A, ccs, h1, h2, h3, h4, h5⟩ := h.ok _ hm
    exact ⟨l, A, ccs, h1, h2, h3, h5.keep h.sh.keep h4⟩
  | lit cs' T n =>
    cases hc
    obtain ⟨l, b, ccs, h1, h2, h3, h4, h5⟩ := (h.sh.ok _ (List.mem_map.2 ⟨_, hm, rfl⟩)).here
    exact ⟨l, _, ccs, h1.1, h2, h4, CellsAt.row h5⟩
  | own => cases hc
  | ros => cases hc
  | itr => cases hc
  | pin => cases hc
end Go.Proofs.YtmjjcihoobnbgaaDoor.Fw
