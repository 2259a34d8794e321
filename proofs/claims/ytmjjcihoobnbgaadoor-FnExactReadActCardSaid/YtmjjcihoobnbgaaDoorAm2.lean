/-
  The abstract machine's steps: what an operation yields by name, and what it turns. No condition: every lemma is general in the program.
-/
import Derived.Test.YtmjjcihoobnbgaaDoorAm
import Derived.Great.FillDense
namespace Go.Proofs.YtmjjcihoobnbgaaDoor.Fw
open Go.RowKit
set_option linter.unusedVariables false

/-! ## Operations that only yield -/
def ikq : IntKind → IntKind → Bool
  | .i64, .i64 => true
  | .u8, .u8 => true
  | .i32, .i32 => true
  | .u64, .u64 => true
  | .u32, .u32 => true
  | _, _ => false
theorem ikq_spec {k q : IntKind} (h : ikq k q = true) : k = q := by
  cases k <;> cases q <;> first | rfl | (simp [ikq] at h)

/-- Arithmetic and comparison of two integers of a kind. -/
def andI (k : IntKind) (x y : Int) : Int := k.wrap ((BitVec.ofInt k.bits x &&& BitVec.ofInt k.bits y).toNat : Int)
def orI (k : IntKind) (x y : Int) : Int := k.wrap ((BitVec.ofInt k.bits x ||| BitVec.ofInt k.bits y).toNat : Int)
def xorI (k : IntKind) (x y : Int) : Int := k.wrap ((BitVec.ofInt k.bits x ^^^ BitVec.ofInt k.bits y).toNat : Int)
theorem y_and {P : Program} {n : Nat} {ρ : List (Nat × Value)} {a : Act} {w : World} {ty : TypeId} (hE : Env n ρ a) {x y : Operand} {t t' : Nat} {k : IntKind} {i j : Int} (hx : ev? ρ x = some (.int k i)) (hy : ev? ρ y = some (.int k j)) :
    Yields P a w (.binOp .and t x y t') ty (.int k (andI k i j)) := y_binop hE hx hy (by rw [show binOp .and t (.int k i) (.int k j) = pure (.int k (andI k i j)) from by simp [binOp, Op.intBits, andI]]; rfl)
theorem y_or {P : Program} {n : Nat} {ρ : List (Nat × Value)} {a : Act} {w : World} {ty : TypeId} (hE : Env n ρ a) {x y : Operand} {t t' : Nat} {k : IntKind} {i j : Int} (hx : ev? ρ x = some (.int k i)) (hy : ev? ρ y = some (.int k j)) :
    Yields P a w (.binOp .or t x y t') ty (.int k (orI k i j)) := y_binop hE hx hy (by rw [show binOp .or t (.int k i) (.int k j) = pure (.int k (orI k i j)) from by simp [binOp, Op.intBits, orI]]; rfl)
theorem y_xor {P : Program} {n : Nat} {ρ : List (Nat × Value)} {a : Act} {w : World} {ty : TypeId} (hE : Env n ρ a) {x y : Operand} {t t' : Nat} {k : IntKind} {i j : Int} (hx : ev? ρ x = some (.int k i)) (hy : ev? ρ y = some (.int k j)) :
    Yields P a w (.binOp .xor t x y t') ty (.int k (xorI k i j)) := y_binop hE hx hy (by rw [show binOp .xor t (.int k i) (.int k j) = pure (.int k (xorI k i j)) from by simp [binOp, Op.intBits, xorI]]; rfl)
def bi (op : BinOp) (k : IntKind) (i j : Int) : Option Value :=
  match op with
  | .add => some (.int k (k.wrap (i + j)))
  | .sub => some (.int k (k.wrap (i - j)))
  | .mul => some (.int k (k.wrap (i * j)))
  | .lss => some (.bool (decide (i < j)))
  | .leq => some (.bool (decide (i ≤ j)))
  | .gtr => some (.bool (decide (i > j)))
  | .geq => some (.bool (decide (i ≥ j)))
  | .eql => some (.bool (decide (i = j)))
  | .neq => some (.bool (!decide (i = j)))
  | .and => some (.int k (andI k i j))
  | .or => some (.int k (orI k i j))
  | .xor => some (.int k (xorI k i j))
  | _ => none
def bs (op : BinOp) (i j : ByteArray) : Option Value :=
  match op with
  | .eql => some (.bool (decide (i = j)))
  | .neq => some (.bool (!decide (i = j)))
  | _ => none
def bb (op : BinOp) (t : TI) (i j : Bool) : Option Value :=
  match op, t with
  | .eql, .bool => some (.bool (decide (i = j)))
  | .neq, .bool => some (.bool (!decide (i = j)))
  | _, _ => none

def bin (op : BinOp) (t : TI) : Value → Value → Option Value
  | .int k i, .int q j => bif ikq k q then bi op k i j else none
  | .string i, .string j => bs op i j
  | .bool i, .bool j => bb op t i j
  | _, _ => none

theorem bin_ok {P : Program} {n : Nat} {ρ : List (Nat × Value)} {a : Act} {w : World} {ty : TypeId} (hE : Env n ρ a) {x y : Operand} {t t' : Nat} {i : TI} (hi : i.chk P t = true) {op : BinOp} {u v r : Value}
    (hx : ev? ρ x = some u) (hy : ev? ρ y = some v) (h : bin op i u v = some r) : Yields P a w (.binOp op t x y t') ty r := by
  unfold bin at h
  split at h
  · rename_i k a1 q b1
    cases hk : ikq k q with
    | false => rw [hk] at h; cases h
    | true =>
      rw [hk] at h
      obtain rfl := ikq_spec hk
      cases op <;> simp only [bi, cond_true] at h <;> cases h <;> first
          | exact y_add hE hx hy | exact y_sub hE hx hy | exact y_mul hE hx hy | exact y_lss hE hx hy | exact y_leq hE hx hy | exact y_gtr hE hx hy | exact y_geq hE hx hy | exact y_eql hE hx hy | exact y_neq hE hx hy | exact y_and hE hx hy | exact y_or hE hx hy | exact y_xor hE hx hy
  · cases op <;> simp only [bs] at h <;> cases h <;> first | exact y_eql_string hE hx hy | exact y_neq_string hE hx hy
  · cases op <;> cases i <;> simp only [bb] at h <;> cases h
    all_goals
      simp only [TI.chk, Bool.and_eq_true] at hi
      have hu : P.underlying t = some .bool := by
        have := hi.2
        split at this
        · assumption
        · cases this
      first | exact y_eql_bool hE hx hy hu | exact y_neq_bool hE hx hy hu
  · cases h

/-- The cells of a value. -/
def V.cells : V → Option (List V)
  | .ag cs => some cs
  | .v (.int k i) => some [.v (.int k i)]
  | .v (.bool b) => some [.v (.bool b)]
  | .v (.string s) => some [.v (.string s)]
  | .v (.slice A n m) => some [.v (.slice A n m)]
  | .v (.agg l) => some (l.toList.map .v)
  | .sl r n => some [.sl r n]
  | .pt r o => some [.pt r o]
  | _ => none
/-- A value that takes one cell. -/
def V.one : V → Bool
  | .v (.int _ _) => true
  | .v (.bool _) => true
  | .v (.string _) => true
  | .v (.slice _ _ _) => true
  | .sl _ _ => true
  | .pt _ _ => true
  | _ => false
def oneL : List V → Bool
  | [] => true
  | x :: r => an x.one (oneL r)

theorem V.one_ok {θ : List Loc} {v : V} {x : Value} (h : v.one = true) (hc : v.con θ = some x) : x.oneCell' = true ∧ x.cells = #[x] := by
  cases v with
  | v y =>
    cases hc
    cases x <;> simp only [V.one] at h <;> cases h <;> exact ⟨rfl, rfl⟩
  | sl r n =>
    simp only [V.con] at hc
    split at hc
    · cases hc; exact ⟨rfl, rfl⟩
    · cases hc
  | pt r n =>
    simp only [V.con] at hc
    split at hc
    · cases hc; exact ⟨rfl, rfl⟩
    · cases hc
  | ag => cases h
  | fn => cases h
  | tu => cases h
  | gd => cases h
theorem conL_v {θ : List Loc} : ∀ (l : List Value), conL θ (l.map .v) = some l
  | [] => rfl
  | x :: r => by simp only [List.map_cons, conL, V.con, conL_v r]
theorem V.cells_ok {θ : List Loc} {v : V} {cs : List V} {x : Value} (h : v.cells = some cs) (hc : v.con θ = some x) : ∃ l, conL θ cs = some l ∧ x.cells = l.toArray := by
  cases v with
  | v y =>
    cases hc
    cases x <;> simp only [V.cells] at h
    all_goals cases h
    all_goals first
      | exact ⟨_, rfl, rfl⟩
      | exact ⟨_, conL_v _, by simp [Value.cells]⟩
  | sl r n =>
    cases h
    refine ⟨[x], by simp only [conL, hc], ?_⟩
    exact (V.one_ok (v := .sl r n) rfl hc).2
  | pt r n =>
    cases h
    refine ⟨[x], by simp only [conL, hc], ?_⟩
    exact (V.one_ok (v := .pt r n) rfl hc).2
  | ag cs' =>
    cases h
    simp only [V.con, Option.map_eq_some_iff] at hc
    obtain ⟨l, hl, rfl⟩ := hc
    exact ⟨l, hl, rfl⟩
  | fn => cases h
  | tu => cases h
  | gd => cases h
theorem oneL_ok {θ : List Loc} : ∀ {cs : List V} {l : List Value}, oneL cs = true → conL θ cs = some l → l.all Value.oneCell' = true
  | [], l, _, h => by cases h; rfl
  | x :: r, l, h1, h => by
    obtain ⟨a, b, rfl, h2, h3⟩ := conL_cons h
    simp only [oneL, an_eq, Bool.and_eq_true] at h1
    rw [List.all_cons, (V.one_ok h1.1 h2).1, oneL_ok h1.2 h3]
    rfl

def nthN : List (Nat × Nat) → Nat → Option (Nat × Nat)
  | [], _ => none
  | x :: r, k => bif Nat.beq k 0 then some x else nthN r (Nat.pred k)
theorem nthN_spec : ∀ {l : List (Nat × Nat)} {k : Nat} {o : Nat × Nat}, nthN l k = some o → l[k]? = some o
  | [], _, _, h => by cases h
  | x :: r, 0, o, h => by simpa [nthN] using h
  | x :: r, k + 1, o, h => by simp [nthN] at h; simpa using nthN_spec h

def tuAt : List V → Nat → Option V
  | [], _ => none
  | x :: r, k => bif Nat.beq k 0 then some x else tuAt r (Nat.pred k)
theorem tuAt_spec : ∀ {l : List V} {k : Nat} {o : V}, tuAt l k = some o → l[k]? = some o
  | [], _, _, h => by cases h
  | x :: r, 0, o, h => by simpa [tuAt] using h
  | x :: r, k + 1, o, h => by simp [tuAt] at h; simpa using tuAt_spec h

/-- What lies at a pointer, read as the type says. -/
def ldC (i : TI) (off : Nat) (cs : List V) : Option V :=
  match i with
  | .no => none
  | .st n _ => bif Nat.ble (off + n) cs.length then some (.ag ((cs.drop off).take n)) else none
  | _ => tuAt cs off

def ldE (i : TI) (off : Nat) : Option En → Option V
  | some (.var cs _) => ldC i off cs
  | some (.roc cs) => ldC i off cs
  | _ => none

def splice (cs ds : List V) (off n : Nat) : List V := cs.take off ++ ds ++ cs.drop (off + n)
theorem conL_splice {θ : List Loc} {cs ds : List V} {l m : List Value} (h1 : conL θ cs = some l) (h2 : conL θ ds = some m) (off n : Nat) : conL θ (splice cs ds off n) = some (l.take off ++ m ++ l.drop (off + n)) :=
  conL_app (conL_app (conL_take off h1) h2) (conL_drop (off + n) h1)

/-- A composite value's cells: its parts laid over the zero value's. -/
def fillT (cs : List V) (o : Nat × Nat) : Option (List V) → Option (List V)
  | some ds => bif an (Nat.beq ds.length o.2) (Nat.ble (o.1 + o.2) cs.length) then some (splice cs ds o.1 o.2) else none
  | none => none
def fillS (cs : List V) : Option (Nat × Nat) → Option V → Option (List V)
  | some o, some v => fillT cs o v.cells
  | _, _ => none
def fillV (e : Operand → Option V) (places : List (Nat × Nat)) : Option (List V) → List (Nat × Operand) → Option (List V)
  | none, _ => none
  | some cs, [] => some cs
  | some cs, (i, x) :: r => fillV e places (fillS cs (nthN places i) (e x)) r

theorem foldl_splice (off : Nat) (ds : List Value) (cs : Array Value) (h : off + ds.length ≤ cs.size) : ((ds.zipIdx 0).foldl (fun cs (x : Value × Nat) => cs.setIfInBounds (off + x.2) x.1) cs) = (cs.toList.take off ++ ds ++ cs.toList.drop (off + ds.length)).toArray := by
  obtain ⟨h1, h2⟩ := Go.Great.foldl_set off ds 0 cs
  apply Array.ext_getElem?
  intro k
  rw [h2 k]
  have hl : cs.toList.length = cs.size := Array.length_toList
  simp only [Nat.add_zero, List.getElem?_toArray]
  rw [List.append_assoc]
  by_cases hk : k < off
  · rw [if_neg (by omega), List.getElem?_append_left (by rw [List.length_take]; omega), List.getElem?_take, if_pos hk, Array.getElem?_toList]
  · rw [List.getElem?_append_right (by rw [List.length_take]; omega), List.length_take, Nat.min_eq_left (by omega)]
    by_cases hk2 : k < off + ds.length
    · rw [if_pos (by omega), List.getElem?_append_left (by omega)]
    · rw [if_neg (by omega), List.getElem?_append_right (by omega), List.getElem?_drop, Array.getElem?_toList]
      congr 1
      omega

def fstL : List (Nat × Operand) → List Operand
  | [] => []
  | (_, x) :: r => x :: fstL r

def pkV : Option V → Option V → Option V → Option V
  | some (.v (.bool true)), a, _ => a
  | some (.v (.bool false)), _, b => b
  | _, _, _ => none
def wrV : Option Value → Option V
  | some r => some (.v r)
  | none => none
def binV (op : BinOp) (t : TI) : Option V → Option V → Option V
  | some (.v u), some (.v v) => wrV (bin op t u v)
  | _, _ => none
def unV : UnOp → Option V → Option V
  | .not, some (.v (.bool b)) => some (.v (.bool (!b)))
  | .neg, some (.v (.int k i)) => some (.v (.int k (k.wrap (-i))))
  | _, _ => none
def ldV (i : TI) (E : List (Nat × En)) : Option V → Option V
  | some (.pt r off) => ldE i off (lkE E r)
  | _ => none
def ncV : Option V → Option V
  | some (.pt r off) => some (.pt r off)
  | _ => none
def faW (r off : Nat) : Option (Nat × Nat) → Option V
  | some o => some (.pt r (off + o.1))
  | none => none
def faV (f : Nat) : TI → Option V → Option V
  | .st _ offs, some (.pt r off) => faW r off (nthN offs f)
  | _, _ => none
def agO : Option (List V) → Option V
  | some cs => some (.ag cs)
  | none => none
def blV (e : Operand → Option V) (parts : List (Nat × Operand)) : TI → Option Value → Option V
  | .st n offs, some (.agg z) => bif Nat.beq z.size n then agO (fillV e offs (some (z.toList.map .v)) parts) else none
  | _, _ => none
def exV (i : Nat) : Option V → Option V
  | some (.tu l) => tuAt l i
  | _ => none
def mfV (f : FuncId) : Option (List V) → Option V
  | some l => some (.fn f l)
  | none => none
def lenV : Option V → TI → Option V
  | some (.sl _ n), .sl _ _ _ => some (.v (.int .i64 n))
  | some (.v (.slice _ n _)), .sl _ _ _ => some (.v (.int .i64 n))
  | some (.v (.string s)), .str => some (.v (.int .i64 s.size))
  | _, _ => none
/-- The byte that a number comes to. -/
def u8of (i : Int) : UInt8 := UInt8.ofNat (IntKind.u8.wrap i).toNat
theorem wrap_u8 (i : Int) : IntKind.u8.wrap i = (u8of i).toNat := by
  have h : IntKind.u8.wrap i = i % 256 := by simp [IntKind.wrap, IntKind.bits, IntKind.signed]
  unfold u8of
  rw [h, UInt8.toNat_ofNat']
  omega
def caV (ti : Nat → TI) (e : Operand → Option V) : Callee → List Operand → List TypeId → Option V
  | .builtin .len, [x], [t] => lenV (e x) (ti t)
  | _, _, _ => none

/-- The value that an operation yields, of those that leave the world as it is; 'e' tells the operands. -/
def cvV : TI → TI → Option V → Option V
  | .int _, .int .u8, some (.v (.int _ i)) => some (.v (.int .u8 (u8of i).toNat))
  | .int _, .int q, some (.v (.int _ i)) => some (.v (.int q (q.wrap i)))
  | _, _, _ => none
def pv (ti : Nat → TI) (zr : Nat → Option Value) (e : Operand → Option V) (es : List Operand → Option (List V)) (E : List (Nat × En)) : Op → Option V
  | .move x => e x
  | .assign x => e x
  | .pick c a b => pkV (e c) (e a) (e b)
  | .binOp op t x y _ => binV op (ti t) (e x) (e y)
  | .unOp op _ x => unV op (e x)
  | .load t x => ldV (ti t) E (e x)
  | .fieldAddr t x f => faV f (ti t) (e x)
  | .nilCheck x => ncV (e x)
  | .build t parts => blV e parts.toList (ti t) (zr t)
  | .extract x i => exV i (e x)
  | .convert s t x => cvV (ti s) (ti t) (e x)
  | .makeFunc (.func f) first xs => bif Nat.beq first.size 0 then mfV f (es xs.toList) else none
  | .call c => caV ti e c.callee c.args.toList c.argTypes.toList
  | _ => none

/-- The operands are told rightly. -/
structure Ea (θ : List Loc) (a : Act) (e : Operand → Option V) (es : List Operand → Option (List V)) (L : List Operand) : Prop where
  one : ∀ x ∈ L, ∀ v, e x = some v → v.con θ = some (a.eval x) ∧ ev? (selfρ a) x = some (a.eval x)
  all : ∀ xs, (∀ x ∈ xs, x ∈ L) → ∀ vs, es xs = some vs → ∃ us, conL θ vs = some us ∧ xs.map (ev? (selfρ a)) = us.map some
theorem Ea.is {θ : List Loc} {a : Act} {e : Operand → Option V} {es : List Operand → Option (List V)} {L : List Operand} (h : Ea θ a e es L) {x : Operand} (hL : x ∈ L) {v : V} {u : Value} (hx : e x = some v) (hu : v.con θ = some u) : ev? (selfρ a) x = some u := by
  have := (h.one x hL v hx).1
  rw [hu] at this
  cases this
  exact (h.one x hL v hx).2
theorem Ea.isv {θ : List Loc} {a : Act} {e : Operand → Option V} {es : List Operand → Option (List V)} {L : List Operand} (h : Ea θ a e es L) {x : Operand} (hL : x ∈ L) {u : Value} (hx : e x = some (.v u)) : ev? (selfρ a) x = some u := h.is hL hx rfl

theorem pt_con {θ : List Loc} {r off : Nat} {x : Value} (h : (V.pt r off).con θ = some x) : ∃ l A, θ[r]? = some l ∧ l.A = some A ∧ x = .pointer (some (A.add off)) := by
  simp only [V.con] at h
  split at h
  · rename_i A c F hr
    cases h
    exact ⟨_, A, hr, rfl, rfl⟩
  · cases h

theorem ld_ok {c : Cx} {θ : List Loc} {σ : St} {a : Act} {w : World} (h : R c θ σ a w) {t : Nat} {x : Operand} {r off : Nat} {ty : TypeId} (hx : (V.pt r off).con θ = some (a.eval x)) (hx' : ev? (selfρ a) x = some (a.eval x)) {e : En} (he : lkE σ.E r = some e) {cs : List V} (hcs : e.cells = some cs) {v : V}
    (hv : ldC (c.ti t) off cs = some v) : ∃ u, v.con θ = some u ∧ Yields c.P a w (.load t x) ty u := by
  have hE := h.env.env
  obtain ⟨S, w1, hh⟩ := h.heap
  obtain ⟨l, A, ccs, h1, h2, h3, h4⟩ := hh.at he hcs
  obtain ⟨l', A', h1', h2', hp⟩ := pt_con hx
  rw [h1] at h1'; cases h1'
  rw [h2] at h2'; cases h2'
  rw [hp] at hx'
  have hti := c.tiok t
  unfold ldC at hv
  split at hv
  · cases hv
  · rename_i n offs heq
    rw [heq] at hti
    simp only [TI.chk, Bool.and_eq_true] at hti
    cases hb : Nat.ble (off + n) cs.length with
    | false => rw [hb] at hv; cases hv
    | true =>
      rw [hb] at hv
      cases hv
      have hlen := conL_length h3
      have hle := Nat.le_of_ble_eq_true hb
      refine ⟨.agg ((ccs.drop off).take n).toArray, ?_, y_load_agg hE hx' h4 rfl ?_ hti.1⟩
      · simp only [V.con, conL_take n (conL_drop off h3), Option.map_some]
      · rw [List.length_take, List.length_drop]; omega
  · rename_i hno hst
    obtain ⟨u, hu, hcu⟩ := conL_get h3 (tuAt_spec hv)
    refine ⟨u, hcu, y_load_one hE hx' h4 hu ?_⟩
    rcases TI.one_of hti with ⟨n, o, e⟩ | e | h
    · exact absurd e (by intro h; exact hst n o h)
    · exact absurd e (by intro h; exact hno h)
    · exact h.1

theorem fillV_none {e : Operand → Option V} {places : List (Nat × Nat)} {parts : List (Nat × Operand)} : fillV e places none parts = none := by cases parts <;> rfl
theorem fillV_ok {θ : List Loc} {a : Act} {e : Operand → Option V} {places : List (Nat × Nat)} {pl : Nat → Option (Nat × Nat)} (hpl : ∀ i o, places[i]? = some o → pl i = some o) : ∀ {parts : List (Nat × Operand)} {cs cs' : List V} {l : List Value}, (∀ p ∈ parts, ∀ v, e p.2 = some v → v.con θ = some (a.eval p.2)) → conL θ cs = some l → fillV e places (some cs) parts = some cs' →
    ∃ l', conL θ cs' = some l' ∧ l'.length = l.length ∧ Instr.fill pl l.toArray (parts.map fun p => (p.1, a.eval p.2)) = some l'.toArray
  | [], cs, cs', l, _, hc, h => by cases h; exact ⟨l, hc, rfl, rfl⟩
  | (i, x) :: r, cs, cs', l, he, hc, h => by
    simp only [fillV] at h
    cases hs : fillS cs (nthN places i) (e x) with
    | none => rw [hs, fillV_none] at h; cases h
    | some cs1 =>
      rw [hs] at h
      unfold fillS at hs
      split at hs
      · rename_i o v ho hv
        unfold fillT at hs
        split at hs
        · rename_i ds hds
          cases hb : an (Nat.beq ds.length o.2) (Nat.ble (o.1 + o.2) cs.length) with
          | false => rw [hb] at hs; cases hs
          | true =>
            rw [hb] at hs
            cases hs
            simp only [an_eq, Bool.and_eq_true] at hb
            have h1 := Nat.eq_of_beq_eq_true hb.1
            have h2 := Nat.le_of_ble_eq_true hb.2
            obtain ⟨dl, hdl, hcells⟩ := V.cells_ok hds (he (i, x) (by simp) v hv)
            simp only at hcells
            have hlen := conL_length hc
            have hdlen := conL_length hdl
            obtain ⟨l', hl', hll, hf⟩ := fillV_ok hpl (fun p hp => he p (List.mem_cons_of_mem _ hp)) (conL_splice hc hdl o.1 o.2) h
            refine ⟨l', hl', ?_, ?_⟩
            · rw [hll]; simp only [List.length_append, List.length_take, List.length_drop]; omega
            · rw [List.map_cons]
              unfold Instr.fill
              rw [hpl i o (nthN_spec ho)]
              simp only
              rw [if_neg (by rw [hcells]; simp; omega)]
              rw [← hf]
              congr 1
              rw [hcells]
              rw [← Array.foldl_toList, Array.toList_zipIdx]
              have := foldl_splice o.1 dl l.toArray (by simp; omega)
              rw [hdlen, h1] at this
              exact this
        · cases hs
      · cases hs

theorem fieldsChk_all {P : Program} {t : Nat} : ∀ {offs : List (Nat × Nat)} {f0 : Nat}, fieldsChk P t f0 offs = true → ∃ fs, P.underlying t = some (.struct fs) ∧ fs.size = f0 + offs.length
  | [], f0, h => by
    simp only [fieldsChk] at h
    split at h
    · rename_i fs hu
      exact ⟨fs, hu, Nat.eq_of_beq_eq_true h⟩
    · cases h
  | o :: r, f0, h => by
    simp only [fieldsChk, Bool.and_eq_true] at h
    obtain ⟨fs, hu, hs⟩ := fieldsChk_all h.2
    exact ⟨fs, hu, by rw [hs, List.length_cons]; omega⟩
theorem run_places {P : Program} {w : World} : ∀ (l : List Field) (ps : List (Nat × Nat)), l.length = ps.length → (∀ (i : Nat) (fd : Field) (o : Nat × Nat), l[i]? = some fd → ps[i]? = some o → fd.offset = o.1 ∧ (sizeOf fd.type).run P w = .ok o.2 w) →
    (l.mapM (m := Sem) fun f => do pure (f.offset, ← sizeOf f.type)).run P w = .ok ps w
  | [], [], _, _ => by simp
  | [], _ :: _, h, _ => by simp at h
  | _ :: _, [], h, _ => by simp at h
  | fd :: l, o :: ps, hl, h => by
    have h0 := h 0 fd o rfl rfl
    have ih := run_places (P := P) (w := w) l ps (by simpa using hl) fun i fd o h1 h2 => h (i + 1) fd o (by simpa using h1) (by simpa using h2)
    rw [List.mapM_cons]
    simp only [Sem.run_bind, Sem.run_pure, Result.andThen_ok, h0.2, ih, h0.1]

theorem pv_okE {c : Cx} {θ : List Loc} {σ : St} {a : Act} {w : World} (h : R c θ σ a w) {e : Operand → Option V} {es : List Operand → Option (List V)} {op : Op} (he : Ea θ a e es op.operands.toList) {ty : TypeId} {v : V} (hv : pv c.ti c.zr e es σ.E op = some v) : ∃ u, v.con θ = some u ∧ Yields c.P a w op ty u := by
  have hE := h.env.env
  cases op with
  | move x => exact ⟨_, (he.one x (by simp [Op.operands]) _ hv).1, y_move hE (he.one x (by simp [Op.operands]) _ hv).2⟩
  | assign x => exact ⟨_, (he.one x (by simp [Op.operands]) _ hv).1, y_assign hE (he.one x (by simp [Op.operands]) _ hv).2⟩
  | pick cc x y =>
    simp only [pv] at hv
    unfold pkV at hv
    split at hv
    · rename_i hc
      exact ⟨_, (he.one x (by simp [Op.operands]) _ hv).1, y_pick_t hE (he.isv (by simp [Op.operands]) hc) rfl (he.one x (by simp [Op.operands]) _ hv).2⟩
    · rename_i hc
      exact ⟨_, (he.one y (by simp [Op.operands]) _ hv).1, y_pick_f hE (he.isv (by simp [Op.operands]) hc) rfl (he.one y (by simp [Op.operands]) _ hv).2⟩
    · cases hv
  | binOp op t x y t' =>
    simp only [pv] at hv
    unfold binV at hv
    split at hv
    · rename_i u v' hx hy
      unfold wrV at hv
      split at hv
      · rename_i r hr
        cases hv
        exact ⟨r, rfl, bin_ok hE (c.tiok t) (he.isv (by simp [Op.operands]) hx) (he.isv (by simp [Op.operands]) hy) hr⟩
      · cases hv
    · cases hv
  | unOp op t x =>
    simp only [pv] at hv
    unfold unV at hv
    split at hv
    · rename_i b hb
      cases hv
      exact ⟨_, rfl, y_not hE (he.isv (by simp [Op.operands]) hb)⟩
    · rename_i k i hb
      cases hv
      exact ⟨_, rfl, y_neg hE (he.isv (by simp [Op.operands]) hb)⟩
    · cases hv
  | load t x =>
    simp only [pv] at hv
    unfold ldV at hv
    split at hv
    · rename_i r off hx
      obtain ⟨h1, h2⟩ := he.one x (by simp [Op.operands]) _ hx
      cases he' : lkE σ.E r with
      | none => rw [he'] at hv; cases hv
      | some e' =>
        rw [he'] at hv
        cases e' with
        | var cs T => exact ld_ok h h1 h2 he' rfl hv
        | roc cs => exact ld_ok h h1 h2 he' rfl hv
        | lit cs T n => cases hv
        | own => cases hv
        | ros => cases hv
        | itr => cases hv
        | pin => cases hv
    · cases hv
  | nilCheck x =>
    simp only [pv] at hv
    unfold ncV at hv
    split at hv
    · rename_i r off hx
      cases hv
      obtain ⟨h1, h2⟩ := he.one x (by simp [Op.operands]) _ hx
      refine ⟨_, h1, ?_⟩
      intro _ _ _ _
      simp only [V.con] at h1
      split at h1
      · rename_i A _ _ _
        have h1' := (Option.some.inj h1).symm
        simp only [execOp, h1']
        rfl
      · cases h1
    · cases hv
  | fieldAddr t x f =>
    simp only [pv] at hv
    unfold faV at hv
    split at hv
    · rename_i n offs r off ht hx
      unfold faW at hv
      split at hv
      · rename_i o ho
        cases hv
        obtain ⟨hc1, hc2⟩ := he.one x (by simp [Op.operands]) _ hx
        obtain ⟨l, A, h1, h2, hp⟩ := pt_con hc1
        have hti := c.tiok t
        rw [ht] at hti
        simp only [TI.chk, Bool.and_eq_true] at hti
        have hf := fieldsChk_spec hti.2 (nthN_spec ho)
        rw [Nat.zero_add] at hf
        rw [hp] at hc2
        refine ⟨.pointer (some (A.add (off + o.1))), ?_, y_fieldAddr hE hc2 hf.1 rfl⟩
        obtain ⟨A', cap, F⟩ := l
        simp only at h2
        subst h2
        simp only [V.con, h1]
      · cases hv
    · cases hv
  | build t parts =>
    simp only [pv] at hv
    unfold blV at hv
    split at hv
    · rename_i n offs z ht hz
      cases hb : Nat.beq z.size n with
      | false => rw [hb] at hv; cases hv
      | true =>
        rw [hb] at hv
        simp only [cond_true] at hv
        unfold agO at hv
        split at hv
        · rename_i cs hcs
          cases hv
          have hti := c.tiok t
          rw [ht] at hti
          simp only [TI.chk, Bool.and_eq_true] at hti
          obtain ⟨fs, hu, hsz⟩ := fieldsChk_all hti.2
          rw [Nat.zero_add] at hsz
          have hall : ∀ (i : Nat) fd o, fs.toList[i]? = some fd → offs[i]? = some o → fd.offset = o.1 ∧ (sizeOf fd.type).run c.P w = .ok o.2 w := by
            intro i fd o h1 h2
            have hf := fieldsChk_spec hti.2 h2
            rw [Nat.zero_add] at hf
            rw [Array.getElem?_toList] at h1
            obtain ⟨fs', fd', hu', hf', ho', _⟩ := chkField_spec hf.1
            rw [hu] at hu'; cases hu'
            rw [h1] at hf'; cases hf'
            refine ⟨ho', ?_⟩
            have hs := hf.2
            unfold chkFSz at hs
            rw [hu] at hs
            simp only [h1] at hs
            split at hs
            · rename_i inf hinf
              simp [sizeOf, typeInfo, hinf, Nat.eq_of_beq_eq_true hs]
            · cases hs
          have hp := run_places (P := c.P) (w := w) fs.toList offs (by simpa using hsz) hall
          obtain ⟨l', hl', _, hfill⟩ := fillV_ok (θ := θ) (a := a) (e := e) (pl := fun i => offs.toArray[i]?) (fun i o h => by simpa using h) (parts := parts.toList) (fun p hp v hv => (he.one p.2 (by
            simp only [Op.operands]
            exact List.mem_map.2 ⟨p, hp, rfl⟩) v hv).1) (conL_v z.toList) hcs
          refine ⟨.agg l'.toArray, by simp only [V.con, hl', Option.map_some], ?_⟩
          intro dst pos after g
          have hm : (parts.map fun (x : Nat × Operand) => match x with | (i, x) => (i, a.eval x)).toList = parts.toList.map fun p => (p.1, a.eval p.2) := by rw [Array.toList_map]
          have hmap : (fs.mapM (m := Sem) fun f => do pure (f.offset, ← sizeOf f.type)).run c.P w = .ok offs.toArray w := by
            rw [Array.mapM_eq_mapM_toList]
            rw [← bind_pure_comp]
            simp only [Sem.run_bind, hp, Result.andThen_ok, Sem.run_pure]
          simp only [execOp, Instr.build, Sem.run_bind, c.zok t _ hz w, Result.andThen_ok, run_underlying hu, hmap, hm, Value.cells, hfill, Sem.run_pure]
        · cases hv
    · cases hv
  | extract x i =>
    simp only [pv] at hv
    unfold exV at hv
    split at hv
    · rename_i l hx
      obtain ⟨hc, hc2⟩ := he.one x (by simp [Op.operands]) _ hx
      simp only [V.con, Option.map_eq_some_iff] at hc
      obtain ⟨us, hus, hp⟩ := hc
      obtain ⟨u, hu, hcu⟩ := conL_get hus (tuAt_spec hv)
      rw [← hp] at hc2
      exact ⟨u, hcu, y_extract hE hc2 hu⟩
    · cases hv
  | convert s t x =>
    simp only [pv] at hv
    unfold cvV at hv
    split at hv
    · rename_i k k' i h1 h2 hx
      cases hv
      rw [← wrap_u8]
      refine ⟨_, rfl, y_convI hE (he.isv (by simp [Op.operands]) hx) ?_⟩
      have g1 := c.tiok s
      have g2 := c.tiok t
      rw [h1] at g1
      rw [h2] at g2
      simp only [TI.chk, Bool.and_eq_true] at g1 g2
      simp only [chkConvI, Bool.and_eq_true]
      refine ⟨?_, g2.2⟩
      have := g1.2
      split at this
      · rename_i hu; rw [hu]; rfl
      · cases this
    · rename_i k q k' i _ h1 h2 hx
      cases hv
      refine ⟨_, rfl, y_convI hE (he.isv (by simp [Op.operands]) hx) ?_⟩
      have g1 := c.tiok s
      have g2 := c.tiok t
      rw [h1] at g1
      rw [h2] at g2
      simp only [TI.chk, Bool.and_eq_true] at g1 g2
      simp only [chkConvI, Bool.and_eq_true]
      refine ⟨?_, g2.2⟩
      have := g1.2
      split at this
      · rename_i hu; rw [hu]; rfl
      · cases this
    · cases hv
  | makeFunc f first xs =>
    cases f with
    | func g =>
      simp only [pv] at hv
      cases hb : Nat.beq first.size 0 with
      | false => rw [hb] at hv; cases hv
      | true =>
        rw [hb] at hv
        simp only [cond_true] at hv
        unfold mfV at hv
        split at hv
        · rename_i vs hvs
          cases hv
          have h0 : first = #[] := Array.size_eq_zero_iff.1 (Nat.eq_of_beq_eq_true hb)
          subst h0
          obtain ⟨us, hus, hm⟩ := he.all xs.toList (fun x hx => by simpa [Op.operands] using hx) vs hvs
          exact ⟨.func (.func g) #[] us.toArray, by simp only [V.con, hus, Option.map_some], y_makeFunc hE hm⟩
        · cases hv
    | _ => simp [pv] at hv
  | call cl =>
    obtain ⟨callee, args, argTypes⟩ := cl
    simp only [pv] at hv
    unfold caV at hv
    split at hv
    · rename_i x t hargs htys
      have ha : args = #[x] := Array.toList_inj.1 hargs
      have ht : argTypes = #[t] := Array.toList_inj.1 htys
      subst ha
      subst ht
      have hti := c.tiok t
      unfold lenV at hv
      split at hv
      · rename_i r n e' s b hx hi
        cases hv
        rw [hi] at hti
        simp only [TI.chk, Bool.and_eq_true] at hti
        obtain ⟨hc, hc2⟩ := he.one x (by simp [Op.operands, Call.operands]) _ hx
        simp only [V.con] at hc
        split at hc
        · rename_i l hl
          injection hc with hc
          rw [← hc] at hc2
          exact ⟨_, rfl, y_len_slice hE hc2 hti.2⟩
        · cases hc
      · rename_i A n m e' s b hx hi
        cases hv
        rw [hi] at hti
        simp only [TI.chk, Bool.and_eq_true] at hti
        exact ⟨_, rfl, y_len_slice hE (he.isv (by simp [Op.operands, Call.operands]) hx) hti.2⟩
      · rename_i s hx hi
        cases hv
        rw [hi] at hti
        simp only [TI.chk, Bool.and_eq_true] at hti
        have hu : c.P.underlying t = some .string := by
          have := hti.2
          split at this
          · assumption
          · cases this
        exact ⟨_, rfl, y_len_string hE (he.isv (by simp [Op.operands, Call.operands]) hx) hu⟩
      · cases hv
    · cases hv
  | _ => cases hv

theorem EnvV.ea {n : Nat} {θ : List Loc} {ρ : List (Nat × V)} {a : Act} (h : EnvV n θ ρ a) (L : List Operand) : Ea θ a (ev ρ) (evs ρ) L :=
  ⟨fun x _ v hx => ⟨h.con hx, h.ev1 hx⟩, fun xs _ vs hx => h.evsL hx⟩
theorem pv_ok {c : Cx} {θ : List Loc} {σ : St} {a : Act} {w : World} (h : R c θ σ a w) {op : Op} {ty : TypeId} {v : V} (hv : pv c.ti c.zr (ev σ.ρ) (evs σ.ρ) σ.E op = some v) : ∃ u, v.con θ = some u ∧ Yields c.P a w op ty u :=
  pv_okE h (h.env.ea _) hv

/-! ## Operations that hang on a truth that is not known -/
def V.strip : V → V
  | .gd _ y => y
  | .v x => .v x
  | .sl r n => .sl r n
  | .pt r o => .pt r o
  | .ag cs => .ag cs
  | .fn f cs => .fn f cs
  | .tu cs => .tu cs
def stO' : Option V → Option V
  | some v => some v.strip
  | none => none
def evG (ρ : List (Nat × V)) (x : Operand) : Option V := stO' (ev ρ x)
/-- What must hold that the operands are there. -/
def V.side (B : Bool) : V → Prop → Prop
  | .gd b _, p => (B = true → b = true) ∧ p
  | .v _, p => p
  | .sl _ _, p => p
  | .pt _ _, p => p
  | .ag _, p => p
  | .fn _ _, p => p
  | .tu _, p => p
def sdV (B : Bool) : Option V → Prop → Prop
  | some v, p => v.side B p
  | none, p => p
def sideP (B : Bool) (acc : Prop) (ρ : List (Nat × V)) : List Operand → Prop
  | [] => acc
  | x :: r => sdV B (ev ρ x) (sideP B acc ρ r)
def wnt : Bool → Bool → Bool
  | true, b => b
  | false, b => !b

/-- A choice between two truths. -/
def pickV (b : Bool) (x y : Operand) (u v : V) : Option Value := match x, y with
  | .const (.bool true), _ => match v with
    | .v (.bool v) => some (.bool (b || v))
    | _ => none
  | _, .const (.bool false) => match u with
    | .v (.bool u) => some (.bool (b && u))
    | _ => none
  | _, _ => match u, v with
    | .v (.bool u), .v (.bool v) => some (.bool (bif b then u else v))
    | _, _ => none
end Go.Proofs.YtmjjcihoobnbgaaDoor.Fw
