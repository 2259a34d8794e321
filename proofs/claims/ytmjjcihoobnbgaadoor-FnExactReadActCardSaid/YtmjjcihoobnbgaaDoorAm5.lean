/-
  The abstract machine: beginnings, ends, calls, branches, loops. No condition: every lemma is general in the program.
-/
import Derived.Test.YtmjjcihoobnbgaaDoorAm4
namespace Go.Proofs.YtmjjcihoobnbgaaDoor.Fw
open Go.RowKit
set_option linter.unusedVariables false

/-! ## The system: what all walks of a program share -/
structure SysOk (P : Program) (ti : Nat → TI) (zr : Nat → Option Value) (G : World → Prop) : Prop where
  tiok : ∀ t, (ti t).chk P t = true
  zok : ∀ t z, zr t = some z → ∀ w, (zeroValue t).run P w = .ok z w
  stab : ∀ w w', G w → Keep (Old w) w w' → G w'
def mkcx {P : Program} {ti : Nat → TI} {zr : Nat → Option Value} {G : World → Prop} (s : SysOk P ti zr G) (fn : Func) (w : World) (hG : G w) : Cx := ⟨P, fn, ti, zr, G, Old w, w, s.tiok, s.zok, fun w' hk => s.stab _ _ hG hk, fun _ h => h, fun R => R⟩

/-! ## Arguments, bound -/
def bindA (m : Nat) : Ar0 → V × List (Nat × En) × Nat
  | .c x => (.v x, [], 0)
  | .st _ d s x => (.ag (opn false x m s.fk).1, (opn false x m s.fk).2, nsl s.fk)
  | .sl α d xs => (.sl m xs.length, [(m, .ros α d xs)], 1)
  | .rp _ d s x => (.pt m 0, (m, .roc (opn false x (m + 1) s.fk).1) :: (opn false x (m + 1) s.fk).2, nsl s.fk + 1)
def bindAs : Nat → List Ar0 → List V × List (Nat × En) × Nat
  | _, [] => ([], [], 0)
  | m, x :: r => ((bindA m x).1 :: (bindAs (m + (bindA m x).2.2) r).1, (bindA m x).2.1 ++ (bindAs (m + (bindA m x).2.2) r).2.1, (bindA m x).2.2 + (bindAs (m + (bindA m x).2.2) r).2.2)
def bindG (m : Nat) : Arg → V × List (Nat × En) × Nat
  | .o a => bindA m a
  | .fn f caps => (.fn f (bindAs m caps).1, (bindAs m caps).2.1, (bindAs m caps).2.2)
def bindGs : Nat → List Arg → List V × List (Nat × En) × Nat
  | _, [] => ([], [], 0)
  | m, x :: r => ((bindG m x).1 :: (bindGs (m + (bindG m x).2.2) r).1, (bindG m x).2.1 ++ (bindGs (m + (bindG m x).2.2) r).2.1, (bindG m x).2.2 + (bindGs (m + (bindG m x).2.2) r).2.2)
def slotsV : Nat → List V → List (Nat × V)
  | _, [] => []
  | i, v :: r => (i, v) :: slotsV (i + 1) r
def ini (n : Nat) (args : List Arg) : St := ⟨n, (bindGs 0 args).2.2, slotsV 0 (bindGs 0 args).1, (bindGs 0 args).2.1⟩

/-- Read-only data and what is said of it. -/
def Facts (S : Nat → Prop) (w : World) (θ : List Loc) (M : List (Nat × En)) : Prop := ∀ e ∈ M, e.2.ok S w θ e.1 ∧ ∀ θ r, e.2.ck θ r = ⟨[], fun _ => True⟩
theorem Facts.ext {S : Nat → Prop} {w : World} {θ θ' : List Loc} {M : List (Nat × En)} (h : Facts S w θ M) : Facts S w (θ ++ θ') M := fun e he => ⟨En.ok_ext (h e he).1, (h e he).2⟩
theorem Facts.app {S : Nat → Prop} {w : World} {θ : List Loc} {M N : List (Nat × En)} (h : Facts S w θ M) (h' : Facts S w θ N) : Facts S w θ (M ++ N) := fun e he => (List.mem_append.1 he).elim (h e) (h' e)
theorem Facts.nil {S : Nat → Prop} {w : World} {θ : List Loc} : Facts S w θ [] := fun _ h => by cases h

theorem bindA_ok {w : World} {v : Value} {θ : List Loc} {x : Ar0} (h : x.R w v) : ∃ θ', θ'.length = (bindA θ.length x).2.2 ∧ (bindA θ.length x).1.con (θ ++ θ') = some v ∧ Facts (Old w) w (θ ++ θ') (bindA θ.length x).2.1 := by
  cases x with
  | c x => cases h; exact ⟨[], rfl, rfl, Facts.nil⟩
  | st α d s x =>
    obtain ⟨cs, rfl, hr⟩ := h
    obtain ⟨θ', hl, hc, he⟩ := opn_ros (θ := θ) (s.op hr)
    exact ⟨θ', hl, by simp only [bindA, V.con, hc, Option.map_some], he⟩
  | sl α d xs =>
    have h' : SlR (Old w) w v xs := h
    obtain ⟨l, hv, _⟩ := slR_loc h'
    have hg : (θ ++ [l])[θ.length]? = some l := get_mid
    refine ⟨[l], rfl, by simp only [bindA, V.con, hg, hv], fun e he => ?_⟩
    rcases List.mem_cons.1 he with rfl | he
    · exact ⟨⟨l, hg, by rw [← hv]; exact h'⟩, fun _ _ => rfl⟩
    · cases he
  | rp α d s x =>
    obtain ⟨A, cs, rfl, hb, hca, hr⟩ := h
    let l : Loc := ⟨some A, 0, []⟩
    obtain ⟨θ', hl, hc, he⟩ := opn_ros (θ := θ ++ [l]) (s.op hr)
    rw [List.length_append, List.length_singleton, List.append_assoc] at hc
    have hg : (θ ++ ([l] ++ θ'))[θ.length]? = some l := get_mid
    refine ⟨[l] ++ θ', by rw [List.length_append, hl, Nat.add_comm]; rfl, by simp only [bindA, V.con, hg]; rfl, fun e hm => ?_⟩
    rcases List.mem_cons.1 hm with rfl | hm
    · exact ⟨⟨l, A, cs, hg, rfl, hc, hb, hca⟩, fun _ _ => rfl⟩
    · rw [List.length_append, List.length_singleton, List.append_assoc] at he
      exact he e hm

theorem bindAs_ok {w : World} : ∀ {vs : List Value} {θ : List Loc} {xs : List Ar0}, AsR w vs xs → ∃ θ', θ'.length = (bindAs θ.length xs).2.2 ∧ conL (θ ++ θ') (bindAs θ.length xs).1 = some vs ∧ Facts (Old w) w (θ ++ θ') (bindAs θ.length xs).2.1
  | [], θ, [], _ => ⟨[], rfl, rfl, Facts.nil⟩
  | [], θ, _ :: _, h => h.elim
  | _ :: _, θ, [], h => h.elim
  | v :: vs, θ, x :: xs, h => by
    obtain ⟨θ1, l1, c1, f1⟩ := bindA_ok (θ := θ) h.1
    obtain ⟨θ2, l2, c2, f2⟩ := bindAs_ok (θ := θ ++ θ1) h.2
    rw [List.length_append, l1, List.append_assoc] at c2 f2
    rw [List.length_append, l1] at l2
    have c1' := V.con_ext (θ' := θ2) c1
    have f1' := f1.ext (θ' := θ2)
    rw [List.append_assoc] at c1' f1'
    exact ⟨θ1 ++ θ2, by rw [List.length_append, l1, l2]; rfl, conL_mk c1' c2, f1'.app f2⟩
theorem bindG_ok {w : World} {v : Value} {θ : List Loc} {x : Arg} (h : x.R w v) : ∃ θ', θ'.length = (bindG θ.length x).2.2 ∧ (bindG θ.length x).1.con (θ ++ θ') = some v ∧ Facts (Old w) w (θ ++ θ') (bindG θ.length x).2.1 := by
  cases x with
  | o a => exact bindA_ok h
  | fn f caps =>
    obtain ⟨vs, rfl, h⟩ := h
    obtain ⟨θ', hl, hc, hf⟩ := bindAs_ok (θ := θ) h
    exact ⟨θ', hl, by simp only [bindG, V.con, hc, Option.map_some], hf⟩
theorem bindGs_ok {w : World} : ∀ {vs : List Value} {θ : List Loc} {xs : List Arg}, ArgsR w vs xs → ∃ θ', θ'.length = (bindGs θ.length xs).2.2 ∧ conL (θ ++ θ') (bindGs θ.length xs).1 = some vs ∧ Facts (Old w) w (θ ++ θ') (bindGs θ.length xs).2.1
  | [], θ, [], _ => ⟨[], rfl, rfl, Facts.nil⟩
  | [], θ, _ :: _, h => h.elim
  | _ :: _, θ, [], h => h.elim
  | v :: vs, θ, x :: xs, h => by
    obtain ⟨θ1, l1, c1, f1⟩ := bindG_ok (θ := θ) h.1
    obtain ⟨θ2, l2, c2, f2⟩ := bindGs_ok (θ := θ ++ θ1) h.2
    rw [List.length_append, l1, List.append_assoc] at c2 f2
    rw [List.length_append, l1] at l2
    have c1' := V.con_ext (θ' := θ2) c1
    have f1' := f1.ext (θ' := θ2)
    rw [List.append_assoc] at c1' f1'
    exact ⟨θ1 ++ θ2, by rw [List.length_append, l1, l2]; rfl, conL_mk c1' c2, f1'.app f2⟩

theorem slotsV_lk {θ : List Loc} : ∀ {vs : List V} {us : List Value} {i t : Nat} {v : V}, conL θ vs = some us → lk (slotsV i vs) t = some v → i ≤ t ∧ ∃ u, us[t - i]? = some u ∧ v.con θ = some u
  | [], _, _, _, _, _, h => by cases h
  | x :: r, us, i, t, v, hc, h => by
    obtain ⟨a, b, rfl, h1, h2⟩ := conL_cons hc
    simp only [slotsV, lk] at h
    by_cases e : Nat.beq i t = true
    · rw [e] at h
      obtain rfl := Nat.eq_of_beq_eq_true e
      cases h
      exact ⟨Nat.le_refl _, a, by simp, h1⟩
    · rw [Bool.not_eq_true] at e
      rw [e] at h
      obtain ⟨hle, u, hu, hv⟩ := slotsV_lk h2 h
      refine ⟨by omega, u, ?_, hv⟩
      rw [show t - i = (t - (i + 1)) + 1 by omega]
      simpa using hu

theorem Keep.of_old {w w' : World} (h : Keep (Old w) w w') : Below w.heap.size w w' := h.below

/-- What is known of arguments that could be handed in. -/
def ArgsGd : List Arg → Prop
  | [] => True
  | .o (.c _) :: xs => ArgsGd xs
  | .o (.st _ d _ x) :: xs => d.good x ∧ ArgsGd xs
  | .o (.sl α d ys) :: xs => (@instDatList α d).good ys ∧ ArgsGd xs
  | .o (.rp _ d _ x) :: xs => d.good x ∧ ArgsGd xs
  | .fn _ _ :: xs => ArgsGd xs
theorem argsGd {w : World} : ∀ {vs : List Value} {xs : List Arg}, ArgsR w vs xs → ArgsGd xs
  | [], [], _ => trivial
  | [], _ :: _, h => h.elim
  | _ :: _, [], h => h.elim
  | v :: vs, x :: xs, h => by
    obtain ⟨h1, h2⟩ := h
    have ih := argsGd h2
    cases x with
    | fn f caps => exact ih
    | o a => cases a with
      | c x => exact ih
      | st α d s x => obtain ⟨cs, _, hr⟩ := h1; exact ⟨Dat.rd_good hr, ih⟩
      | sl α d ys => exact ⟨(@instDatList α d).rd_good (B := Old w) (w := w) (cs := [v]) ⟨v, rfl, h1⟩, ih⟩
      | rp α d s x => obtain ⟨A, cs, _, _, _, hr⟩ := h1; exact ⟨Dat.rd_good hr, ih⟩

/-- A contract, off a run of the function's text. -/
theorem CT.of {P : Program} {ti : Nat → TI} {zr : Nat → Option Value} {G : World → Prop} (s : SysOk P ti zr G) {f : FuncId} {fn : Func} {code : Code} {n : Nat} {args : List Arg} {res : List Re} (hf : P.funcs[f]? = some fn) (hb : fn.body = some code) (hn : fn.ntmps = n) (hl : Nat.ble args.length n = true)
    (h : ∀ w (hG : G w), ArgsGd args → Run (mkcx s fn w hG) res (ini n args) [.code code]) : CT P G f args res := by
  intro w vs hG ha
  refine calls_of_wp hf hb ?_
  obtain ⟨θ', hlen, hc, hfa⟩ := bindGs_ok (θ := []) ha
  simp only [List.nil_append, List.length_nil] at hc hfa hlen
  have hvl : vs.length = args.length := by
    clear hc hfa hlen hl h
    induction vs generalizing args with
    | nil => cases args with
      | nil => rfl
      | cons => exact ha.elim
    | cons v vs ih => cases args with
      | nil => exact ha.elim
      | cons x xs => rw [List.length_cons, List.length_cons, ih ha.2]
  have hle := Nat.le_of_ble_eq_true hl
  refine h w hG (argsGd ha) θ' _ w ⟨hlen, ⟨?_, rfl, fun t v hv => ?_⟩, Old w, w, ?_⟩
  · show (vs.toArray ++ Array.replicate (fn.ntmps - vs.toArray.size) undef).size = n
    simp [hn]; omega
  · obtain ⟨_, u, hu, hcu⟩ := slotsV_lk hc hv
    rw [Nat.sub_zero] at hu
    have hlt := (List.getElem?_eq_some_iff.1 hu).1
    refine ⟨?_, by show t < n; omega⟩
    rw [hcu]
    simp [Array.getD_eq_getD_getElem?, Array.getElem?_append_left (show t < vs.toArray.size by simpa using hlt), hu]
  · have h0 : RH (mkcx s fn w hG) [] [] (Old w) w w := ⟨Keep.refl _ _, fun _ h => h, SH.start w, fun e he => by cases he⟩
    have h1 := h0.facts (θ' := θ') (M := (bindGs 0 args).2.1) hfa
    simpa [ini] using h1

/-! ## What is handed over, held against what is asked -/
structure Pay : Type 1 where
  α : Type
  d : Dat α
  xs : List α

def En.pay : En → Option Pay
  | .own α d xs => some ⟨α, d, xs⟩
  | .ros α d xs => some ⟨α, d, xs⟩
  | _ => none
def En.payO : En → Option Pay
  | .own α d xs => some ⟨α, d, xs⟩
  | _ => none
def payE (E : List (Nat × En)) (r : Nat) : Option Pay := match lkE E r with
  | some e => e.pay
  | none => none
def payOE (E : List (Nat × En)) (r : Nat) : Option Pay := match lkE E r with
  | some e => e.payO
  | none => none

def SlOk (E : List (Nat × En)) (α : Type) (d : Dat α) (xs : List α) : V → Prop
  | .sl r n => n = xs.length ∧ payE E r = some ⟨α, d, xs⟩
  | .v x => x = .slice none 0 0 ∧ xs = []
  | _ => False
def SlOwn (E : List (Nat × En)) (α : Type) (d : Dat α) (xs : List α) : V → Prop
  | .sl r n => n = xs.length ∧ payOE E r = some ⟨α, d, xs⟩
  | .v x => x = .slice none 0 0 ∧ xs = []
  | _ => False
def FkV (E : List (Nat × En)) {α : Type} (x : α) : List (Fk α) → List V → Prop
  | [], [] => True
  | .int g :: fs, v :: vs => v = .v (.int .i64 (g x)) ∧ FkV E x fs vs
  | .byte g :: fs, v :: vs => v = .v (.int .u8 (g x).toNat) ∧ FkV E x fs vs
  | .bool g :: fs, v :: vs => v = .v (.bool (g x)) ∧ FkV E x fs vs
  | .str g :: fs, v :: vs => v = .v (.string (g x)) ∧ FkV E x fs vs
  | .sl β d g :: fs, v :: vs => SlOk E β d (g x) v ∧ FkV E x fs vs
  | _, _ => False
def FkO (E : List (Nat × En)) {α : Type} (x : α) : List (Fk α) → List V → Prop
  | [], [] => True
  | .int g :: fs, v :: vs => v = .v (.int .i64 (g x)) ∧ FkO E x fs vs
  | .byte g :: fs, v :: vs => v = .v (.int .u8 (g x).toNat) ∧ FkO E x fs vs
  | .bool g :: fs, v :: vs => v = .v (.bool (g x)) ∧ FkO E x fs vs
  | .str g :: fs, v :: vs => v = .v (.string (g x)) ∧ FkO E x fs vs
  | .sl β d g :: fs, v :: vs => SlOwn E β d (g x) v ∧ FkO E x fs vs
  | _, _ => False
def agC : V → Option (List V)
  | .ag cs => some cs
  | .v (.agg l) => some (l.toList.map .v)
  | _ => none
def cellsAt (E : List (Nat × En)) (r : Nat) : Option (List V) := match lkE E r with
  | some e => e.cells
  | none => none

def Ar0.ok (E : List (Nat × En)) (v : V) : Ar0 → Prop
  | .c x => v = .v x
  | .st _ _ s x => Dat.good x ∧ match agC v with
    | some cs => FkV E x s.fk cs
    | none => False
  | .sl α d xs => SlOk E α d xs v
  | .rp _ _ s x => Dat.good x ∧ match v with
    | .pt r off => off = 0 ∧ match cellsAt E r with
      | some cs => FkV E x s.fk cs
      | none => False
    | _ => False
def AsOk (E : List (Nat × En)) : List V → List Ar0 → Prop
  | [], [] => True
  | v :: vs, x :: xs => x.ok E v ∧ AsOk E vs xs
  | _, _ => False
def Arg.ok (E : List (Nat × En)) (v : V) : Arg → Prop
  | .o a => a.ok E v
  | .fn f caps => match v with
    | .fn g cs => g = f ∧ AsOk E cs caps
    | _ => False
def ArgsOk (E : List (Nat × En)) : List V → List Arg → Prop
  | [], [] => True
  | v :: vs, x :: xs => x.ok E v ∧ ArgsOk E vs xs
  | _, _ => False

section
variable {c : Cx} {θ : List Loc} {E : List (Nat × En)} {S : Nat → Prop} {w1 w : World}
theorem RH.lt (h : RH c θ E S w1 w) : ∀ b, S b → b < w.heap.size := fun b hb => by have := h.sh.dom b hb; have := h.sh.size; omega
theorem slr_nil {α : Type} [Dat α] {B : Nat → Prop} : SlR B w (.slice none 0 0) ([] : List α) := ⟨none, 0, rfl, by simp, by simp [maxLen], fun h => absurd rfl h⟩
theorem RH.own (h : RH c θ E S w1 w) {r : Nat} {α : Type} {d : Dat α} {xs : List α} (he : lkE E r = some (.own α d xs)) : ∃ l, θ[r]? = some l ∧ SlO w (.slice l.A xs.length l.cap) xs l.F :=
  (h.sh.ok _ (List.mem_map.2 ⟨_, lkE_mem he, rfl⟩)).here
theorem payE_spec {r : Nat} {α : Type} {d : Dat α} {xs : List α} (h : payE E r = some ⟨α, d, xs⟩) : lkE E r = some (.own α d xs) ∨ lkE E r = some (.ros α d xs) := by
  unfold payE at h
  split at h
  · rename_i e he
    cases e with
    | own α' d' ys => cases h; exact .inl he
    | ros α' d' ys => cases h; exact .inr he
    | var => cases h
    | lit => cases h
    | roc => cases h
    | itr => cases h
    | pin => cases h
  · cases h
theorem payOE_spec {r : Nat} {α : Type} {d : Dat α} {xs : List α} (h : payOE E r = some ⟨α, d, xs⟩) : lkE E r = some (.own α d xs) := by
  unfold payOE at h
  split at h
  · rename_i e he
    cases e with
    | own α' d' ys => cases h; exact he
    | ros α' d' ys => cases h
    | var => cases h
    | lit => cases h
    | roc => cases h
    | itr => cases h
    | pin => cases h
  · cases h
theorem RH.slOk (h : RH c θ E S w1 w) {α : Type} {d : Dat α} {xs : List α} {v : V} {u : Value} (hv : v.con θ = some u) (hs : SlOk E α d xs v) : SlR (Old w) w u xs := by
  cases v with
  | v x =>
    obtain ⟨rfl, rfl⟩ := hs
    cases hv
    exact slr_nil
  | sl r n =>
    obtain ⟨rfl, hp⟩ := hs
    simp only [V.con] at hv
    rcases payE_spec hp with he | he
    · obtain ⟨l, hl, ho⟩ := h.own he
      rw [hl] at hv
      cases hv
      exact ho.rd fun b hb => ho.lt b hb
    · obtain ⟨l, hl, ho⟩ := h.ok _ (lkE_mem he)
      simp only at hl
      rw [hl] at hv
      cases hv
      exact h.sh.up ho
  | pt => exact hs.elim
  | ag => exact hs.elim
  | fn => exact hs.elim
  | tu => exact hs.elim
  | gd => exact hs.elim

theorem RH.fkV (h : RH c θ E S w1 w) {α : Type} {x : α} : ∀ {fk : List (Fk α)} {cs : List V} {us : List Value}, conL θ cs = some us → FkV E x fk cs → GdL x fk → RdL (Old w) w x fk us
  | [], [], us, hc, _, _ => by cases hc; rfl
  | [], _ :: _, _, _, hf, _ => hf.elim
  | f :: fs, [], _, _, hf, _ => by cases f <;> exact hf.elim
  | f :: fs, v :: vs, us, hc, hf, hg => by
    obtain ⟨a, b, rfl, h1, h2⟩ := conL_cons hc
    cases f with
    | int g => obtain ⟨rfl, hf⟩ := hf; cases h1; exact ⟨_, _, rfl, ⟨rfl, hg.1⟩, h.fkV h2 hf hg.2⟩
    | byte g => obtain ⟨rfl, hf⟩ := hf; cases h1; exact ⟨_, _, rfl, rfl, h.fkV h2 hf hg.2⟩
    | bool g => obtain ⟨rfl, hf⟩ := hf; cases h1; exact ⟨_, _, rfl, rfl, h.fkV h2 hf hg.2⟩
    | str g => obtain ⟨rfl, hf⟩ := hf; cases h1; exact ⟨_, _, rfl, ⟨rfl, hg.1⟩, h.fkV h2 hf hg.2⟩
    | sl β d g => obtain ⟨hs, hf⟩ := hf; exact ⟨_, _, rfl, h.slOk h1 hs, h.fkV h2 hf hg.2⟩

theorem agC_ok {v : V} {cs : List V} {u : Value} (h : agC v = some cs) (hv : v.con θ = some u) : ∃ us, conL θ cs = some us ∧ u = .agg us.toArray := by
  cases v with
  | ag cs' =>
    cases h
    simp only [V.con, Option.map_eq_some_iff] at hv
    obtain ⟨l, hl, rfl⟩ := hv
    exact ⟨l, hl, rfl⟩
  | v x =>
    cases hv
    cases u <;> simp only [agC] at h <;> cases h
    exact ⟨_, conL_v _, rfl⟩
  | sl => cases h
  | pt => cases h
  | fn => cases h
  | tu => cases h
  | gd => cases h

theorem RH.arOk (h : RH c θ E S w1 w) {v : V} {u : Value} {x : Ar0} (hv : v.con θ = some u) (ho : x.ok E v) : x.R w u := by
  cases x with
  | c x => obtain rfl := ho; cases hv; rfl
  | st α d s x =>
    obtain ⟨hg, ho⟩ := ho
    split at ho
    · rename_i cs hcs
      obtain ⟨us, hus, rfl⟩ := agC_ok hcs hv
      exact ⟨us, rfl, s.cl (h.fkV hus ho (s.gd hg))⟩
    · exact ho.elim
  | sl α d xs => exact h.slOk hv ho
  | rp α d s x =>
    obtain ⟨hg, ho⟩ := ho
    cases v with
    | pt r off =>
      obtain ⟨rfl, ho⟩ := ho
      split at ho
      · rename_i cs hcs
        unfold cellsAt at hcs
        split at hcs
        · rename_i e he
          obtain ⟨l, A, ccs, h1, h2, h3, h4⟩ := h.at he hcs
          obtain ⟨l', A', h1', h2', rfl⟩ := pt_con hv
          rw [h1] at h1'; cases h1'
          rw [h2] at h2'; cases h2'
          refine ⟨A, ccs, rfl, ?_, h4, s.cl (h.fkV h3 ho (s.gd hg))⟩
          cases e with
          | var cs' T =>
            obtain ⟨l', b, ccs', h1', h2', _, _, h5⟩ := (h.sh.ok _ (List.mem_map.2 ⟨_, lkE_mem he, rfl⟩)).here
            simp only at h1'
            rw [h1] at h1'; cases h1'
            rw [h2] at h2'; cases h2'
            exact (Array.getElem?_eq_some_iff.1 h5).1
          | lit cs' T n =>
            obtain ⟨l', b, ccs', ⟨h1', _⟩, h2', _, _, h5⟩ := (h.sh.ok _ (List.mem_map.2 ⟨_, lkE_mem he, rfl⟩)).here
            simp only at h1'
            rw [h1] at h1'; cases h1'
            rw [h2] at h2'; cases h2'
            exact (Array.getElem?_eq_some_iff.1 h5).1
          | roc cs' =>
            obtain ⟨l', A', ccs', h1', h2', _, h4', _⟩ := h.ok _ (lkE_mem he)
            simp only at h1'
            rw [h1] at h1'; cases h1'
            rw [h2] at h2'; cases h2'
            exact h.lt _ h4'
          | own => cases hcs
          | ros => cases hcs
          | itr => cases hcs
          | pin => cases hcs
        · cases hcs
      · exact ho.elim
    | v => exact ho.elim
    | sl => exact ho.elim
    | ag => exact ho.elim
    | fn => exact ho.elim
    | tu => exact ho.elim
    | gd => exact ho.elim
theorem RH.asOk (h : RH c θ E S w1 w) : ∀ {vs : List V} {us : List Value} {xs : List Ar0}, conL θ vs = some us → AsOk E vs xs → AsR w us xs
  | [], us, [], hc, _ => by cases hc; trivial
  | [], _, _ :: _, _, ho => ho.elim
  | _ :: _, _, [], _, ho => ho.elim
  | v :: vs, us, x :: xs, hc, ho => by
    obtain ⟨a, b, rfl, h1, h2⟩ := conL_cons hc
    exact ⟨h.arOk h1 ho.1, h.asOk h2 ho.2⟩
theorem RH.argOk (h : RH c θ E S w1 w) {v : V} {u : Value} {x : Arg} (hv : v.con θ = some u) (ho : x.ok E v) : x.R w u := by
  cases x with
  | o a => exact h.arOk hv ho
  | fn f caps =>
    cases v with
    | fn g cs =>
      obtain ⟨rfl, ho⟩ := ho
      simp only [V.con, Option.map_eq_some_iff] at hv
      obtain ⟨l, hl, rfl⟩ := hv
      exact ⟨l, rfl, h.asOk hl ho⟩
    | v => exact ho.elim
    | sl => exact ho.elim
    | pt => exact ho.elim
    | ag => exact ho.elim
    | tu => exact ho.elim
    | gd => exact ho.elim
theorem RH.argsOk (h : RH c θ E S w1 w) : ∀ {vs : List V} {us : List Value} {xs : List Arg}, conL θ vs = some us → ArgsOk E vs xs → ArgsR w us xs
  | [], us, [], hc, _ => by cases hc; trivial
  | [], _, _ :: _, _, ho => ho.elim
  | _ :: _, _, [], _, ho => ho.elim
  | v :: vs, us, x :: xs, hc, ho => by
    obtain ⟨a, b, rfl, h1, h2⟩ := conL_cons hc
    exact ⟨h.argOk h1 ho.1, h.argsOk h2 ho.2⟩
end

/-! ## A call -/
theorem EnvV.back {n : Nat} {θ : List Loc} {ρ : List (Nat × V)} {a a' : Act} (h : EnvV n θ ρ a) {d : Nat} {u : Value} (hE : Env n ((d, u) :: selfρ a) a') {v : V} (hv : v.con θ = some u) (hd : Nat.blt d n = true) : EnvV n θ ((d, v) :: ρ) a' := by
  refine ⟨hE.size, hE.defers, fun t x hx => ?_⟩
  simp only [lk] at hx
  by_cases e : Nat.beq d t = true
  · rw [e] at hx
    obtain rfl := Nat.eq_of_beq_eq_true e
    cases hx
    have := hE.get d u (by simp [lk?])
    exact ⟨by rw [hv, this], by simpa using hd⟩
  · rw [Bool.not_eq_true] at e
    rw [e] at hx
    obtain ⟨h1, h2⟩ := h.get t x hx
    refine ⟨?_, h2⟩
    rw [h1, hE.get t (a.tmps.getD t undef)]
    simp only [lk?, e, cond_false]
    unfold selfρ
    rw [lk?_self, if_pos (by rw [h.size]; exact List.mem_range.2 h2)]

/-- What a call leaves, bound. -/
theorem R.res {c : Cx} {θ : List Loc} {σ : St} {a a' : Act} {w w' : World} (h : R c θ σ a w) {res : List Re} {v : Value} (hR : ResR (Old w) w w' v res) {d : Nat} (hd : Nat.blt d σ.n = true) (hE : Env σ.n ((d, v) :: selfρ a) a') :
    ∃ θ', R c θ' ⟨σ.n, σ.m + (bindRs σ.m res).2.2, (d, packV (bindRs σ.m res).1) :: σ.ρ, (bindRs σ.m res).2.1 ++ σ.E⟩ a' w' := by
  obtain ⟨hk, vs, F, rfl, hr, hn, hF⟩ := hR
  obtain ⟨S, w1, hh⟩ := h.heap
  have hb := hk.below
  obtain ⟨θ', l1, c1, f1, e1⟩ := bindRs_ok (θ := θ) hr
  rw [h.len] at l1 c1 f1 e1
  refine ⟨θ ++ θ', by rw [List.length_append, h.len, l1], (h.env.ext (θ' := θ')).back hE (packV_con c1) hd, S, w1, ?_⟩
  exact hh.news hb f1 e1 (fun b hb => Nat.le_of_not_lt (hF b hb)) hn

theorem Run.call {c : Cx} {R0 res : List Re} {σ : St} {k : List It} {f : FuncId} {xs : Array Operand} {ts : Array TypeId} {ty : TypeId} {pos : String} {after : Array Edge} {d : Nat} {r : List Oper} {all : Array Oper} {args : List Arg} {vs : List V}
    (hct : CT c.P c.G f args res) (hfn : FnOk c.P f) (hev : evs σ.ρ xs.toList = some vs) (hargs : ArgsOk σ.E vs args) (hd : Nat.blt d σ.n = true)
    (hk : Run c R0 ⟨σ.n, σ.m + (bindRs σ.m res).2.2, (d, packV (bindRs σ.m res).1) :: σ.ρ, (bindRs σ.m res).2.1 ++ σ.E⟩ (.ops r all :: k)) :
    Run c R0 σ (.ops (⟨some d, .call { callee := .value (.func f), args := xs, argTypes := ts }, ty, pos, after, none⟩ :: r) all :: k) := by
  intro θ a w h
  rw [kQ_ops]
  obtain ⟨us, hus, hm⟩ := h.env.evsL hev
  obtain ⟨S, w1, hh⟩ := h.heap
  obtain ⟨fn, hf, hb, hn⟩ := hfn
  refine st_call h.env.env hf hb hn hm (hct w us h.g (hh.argsOk hus hargs)) hd (fun e w' h => let ⟨v, h, _⟩ := h; ⟨v, h⟩) fun v w' hR a' hE' => ?_
  obtain ⟨v', e, hR⟩ := hR
  cases e
  obtain ⟨θ', hR'⟩ := h.res hR hd hE'
  exact hk θ' a' w' hR'

/-- .. through a function value. -/
theorem Run.callV {c : Cx} {R0 res : List Re} {σ : St} {k : List It} {f : FuncId} {x : Operand} {cs : List V} {xs : Array Operand} {ts : Array TypeId} {ty : TypeId} {pos : String} {after : Array Edge} {d : Nat} {r : List Oper} {all : Array Oper} {args : List Arg} {vs : List V}
    (hct : CT c.P c.G f args res) (hfn : FnOk c.P f) (hx : ev σ.ρ x = some (.fn f cs)) (hev : evs σ.ρ xs.toList = some vs) (hargs : ArgsOk σ.E (vs ++ cs) args) (hd : Nat.blt d σ.n = true)
    (hk : Run c R0 ⟨σ.n, σ.m + (bindRs σ.m res).2.2, (d, packV (bindRs σ.m res).1) :: σ.ρ, (bindRs σ.m res).2.1 ++ σ.E⟩ (.ops r all :: k)) :
    Run c R0 σ (.ops (⟨some d, .call { callee := .value x, args := xs, argTypes := ts }, ty, pos, after, none⟩ :: r) all :: k) := by
  intro θ a w h
  rw [kQ_ops]
  obtain ⟨us, hus, hm⟩ := h.env.evsL hev
  obtain ⟨S, w1, hh⟩ := h.heap
  obtain ⟨fn, hf, hb, hn⟩ := hfn
  have hn' : ¬ fn.name = "runtime.NumGoroutine" := by simpa using hn
  have hb' : ¬ fn.body = none := by intro e; rw [e] at hb; cases hb
  have hc := h.env.con hx
  simp only [V.con, Option.map_eq_some_iff] at hc
  obtain ⟨capt, hcapt, hfv⟩ := hc
  refine wpList_plain rfl fun K hK => ?_
  have hmm : xs.map a.eval = us.toArray := by
    apply Array.toList_inj.1
    rw [Array.toList_map, Fw.evals h.env.env hm]
  unfold Oper.wp
  have : (execOp a.eval ⟨some d, .call { callee := .value x, args := xs, argTypes := ts }, ty, pos, after, none⟩).run c.P w = .ok (.enter f (us ++ capt).toArray) w := by
    simp [execOp, resolve, hmm, ← hfv, Deferred.ofValue, invoke, callFunc, hf, hn', hb']
  rw [this, Oper.upon_enter]
  refine (hct w (us ++ capt) h.g (hh.argsOk (conL_app hus hcapt) hargs)).mono fun e w' hr => ?_
  obtain ⟨v, rfl, hR⟩ := hr
  have hE' : Env σ.n ((d, v) :: selfρ a) (a.put (some d) v) := h.env.env.put hd v
  obtain ⟨θ', hR'⟩ := h.res hR hd hE'
  exact hK _ _ (hk θ' _ w' hR')

/-! ## Branches -/
theorem Run.cond {c : Cx} {res : List Re} {σ : St} {k : List It} {x : Operand} {y z : Code} {b : Bool} (hx : ev σ.ρ x = some (.v (.bool b))) (ht : b = true → Run c res σ (.code y :: k)) (hf : b = false → Run c res σ (.code z :: k)) : Run c res σ (.code (.cond x y z) :: k) := by
  intro θ a w h
  exact wp_cond_split (Option.some.inj (h.env.con hx)).symm (fun e => ht e θ a w h) (fun e => hf e θ a w h)

/-! ## The end -/
def V.names : V → List Nat
  | .sl r _ => [r]
  | .ag cs => namesL cs
  | _ => []
where namesL : List V → List Nat
  | [] => []
  | .sl r _ :: l => r :: namesL l
  | _ :: l => namesL l

def Re.ok (E : List (Nat × En)) (v : V) : Re → Prop
  | .c x => v = .v x
  | .st _ _ s x => Dat.good x ∧ match agC v with
    | some cs => FkO E x s.fk cs
    | none => False
  | .sl α d xs => SlOwn E α d xs v
def ResOk (E : List (Nat × En)) : List V → List Re → Prop
  | [], [] => True
  | v :: vs, x :: xs => x.ok E v ∧ ResOk E vs xs
  | _, _ => False
def namesR : List V → List Re → List Nat
  | v :: vs, .c _ :: rs => namesR vs rs
  | v :: vs, .st _ _ _ _ :: rs => (match agC v with
    | some cs => V.names.namesL cs
    | none => []) ++ namesR vs rs
  | v :: vs, .sl _ _ _ :: rs => V.names.namesL [v] ++ namesR vs rs
  | _, _ => []

section
variable {c : Cx} {θ : List Loc} {E : List (Nat × En)} {S : Nat → Prop} {w1 w : World}
theorem slo_nil {α : Type} [Dat α] {w : World} : SlO w (.slice none 0 0) ([] : List α) [] := .inl ⟨rfl, rfl, rfl⟩
theorem RH.slOwn (h : RH c θ E S w1 w) {α : Type} {d : Dat α} {xs : List α} {v : V} {u : Value} (hv : v.con θ = some u) (hs : SlOwn E α d xs v) : SlO w u xs ((V.names.namesL [v]).flatMap (locF θ)) := by
  cases v with
  | v x =>
    obtain ⟨rfl, rfl⟩ := hs
    cases hv
    exact slo_nil
  | sl r n =>
    obtain ⟨rfl, hp⟩ := hs
    simp only [V.con] at hv
    obtain ⟨l, hl, ho⟩ := h.own (payOE_spec hp)
    rw [hl] at hv
    cases hv
    have : (V.names.namesL [V.sl r xs.length]).flatMap (locF θ) = l.F := by
      show locF θ r ++ [] = l.F
      rw [locF_of hl, List.append_nil]
    rw [this]
    exact ho
  | pt => exact hs.elim
  | ag => exact hs.elim
  | fn => exact hs.elim
  | tu => exact hs.elim
  | gd => exact hs.elim
theorem namesL_cons (v : V) (vs : List V) : V.names.namesL (v :: vs) = V.names.namesL [v] ++ V.names.namesL vs := by cases v <;> rfl
theorem RH.fkO (h : RH c θ E S w1 w) {α : Type} {x : α} : ∀ {fk : List (Fk α)} {cs : List V} {us : List Value}, conL θ cs = some us → FkO E x fk cs → GdL x fk → OwL w x fk us ((V.names.namesL cs).flatMap (locF θ))
  | [], [], us, hc, _, _ => by cases hc; exact ⟨rfl, rfl⟩
  | [], _ :: _, _, _, hf, _ => hf.elim
  | f :: fs, [], _, _, hf, _ => by cases f <;> exact hf.elim
  | f :: fs, v :: vs, us, hc, hf, hg => by
    obtain ⟨a, b, rfl, h1, h2⟩ := conL_cons hc
    rw [namesL_cons, List.flatMap_append]
    cases f with
    | int g => obtain ⟨rfl, hf⟩ := hf; cases h1; exact ⟨_, _, _, _, rfl, rfl, ⟨⟨rfl, hg.1⟩, rfl⟩, h.fkO h2 hf hg.2⟩
    | byte g => obtain ⟨rfl, hf⟩ := hf; cases h1; exact ⟨_, _, _, _, rfl, rfl, ⟨rfl, rfl⟩, h.fkO h2 hf hg.2⟩
    | bool g => obtain ⟨rfl, hf⟩ := hf; cases h1; exact ⟨_, _, _, _, rfl, rfl, ⟨rfl, rfl⟩, h.fkO h2 hf hg.2⟩
    | str g => obtain ⟨rfl, hf⟩ := hf; cases h1; exact ⟨_, _, _, _, rfl, rfl, ⟨⟨rfl, hg.1⟩, rfl⟩, h.fkO h2 hf hg.2⟩
    | sl β d g => obtain ⟨hs, hf⟩ := hf; exact ⟨_, _, _, _, rfl, rfl, h.slOwn h1 hs, h.fkO h2 hf hg.2⟩

theorem RH.resOk (h : RH c θ E S w1 w) : ∀ {vs : List V} {us : List Value} {xs : List Re}, conL θ vs = some us → ResOk E vs xs → ResL w us ((namesR vs xs).flatMap (locF θ)) xs
  | [], us, [], hc, _ => by cases hc; rfl
  | [], _, _ :: _, _, ho => ho.elim
  | _ :: _, _, [], _, ho => ho.elim
  | v :: vs, us, x :: xs, hc, ho => by
    obtain ⟨a, b, rfl, h1, h2⟩ := conL_cons hc
    have ih := h.resOk h2 ho.2
    cases x with
    | c x =>
      obtain ⟨rfl, _⟩ := ho
      cases h1
      exact ⟨[], _, rfl, ⟨rfl, rfl⟩, ih⟩
    | st α d s x =>
      obtain ⟨⟨hg, ho⟩, _⟩ := ho
      split at ho
      · rename_i cs hcs
        obtain ⟨us', hus, rfl⟩ := agC_ok hcs h1
        simp only [namesR, hcs, List.flatMap_append]
        exact ⟨_, _, rfl, ⟨us', rfl, s.omk (h.fkO hus ho (s.gd hg))⟩, ih⟩
      · exact ho.elim
    | sl α d xs =>
      simp only [namesR, List.flatMap_append]
      exact ⟨_, _, rfl, h.slOwn h1 ho.1, ih⟩

/-- Names that stand for own data. -/
def ownN (E : List (Nat × En)) (r : Nat) : Prop := ∃ p, payOE E r = some p
theorem RH.nodup (h : RH c θ E S w1 w) : ∀ {rs : List Nat}, rs.Nodup → (∀ r ∈ rs, ownN E r) → (rs.flatMap (locF θ)).Nodup ∧ ∀ b ∈ rs.flatMap (locF θ), ¬ S b
  | [], _, _ => ⟨by simp, fun b hb => by cases hb⟩
  | r :: rs, hn, ho => by
    obtain ⟨h1, h2⟩ := h.nodup (List.nodup_cons.1 hn).2 fun r hr => ho r (by simp [hr])
    have hap := nodup_flatMap_iff.1 h.sh.apart
    have key : ∀ r, ownN E r → ∃ i : Nat, ∃ e, E[i]? = some (r, e) ∧ (e.ck θ r).F = locF θ r := by
      intro r ⟨⟨α, d, xs⟩, hp⟩
      obtain ⟨i, hi, _⟩ := lkE_get (payOE_spec hp)
      exact ⟨i, _, hi, rfl⟩
    obtain ⟨i, e, hi, hF⟩ := key r (ho r (by simp))
    have hLi : (E.map fun e => e.2.ck θ e.1)[i]? = some (e.ck θ r) := by rw [List.getElem?_map, hi]; rfl
    refine ⟨?_, ?_⟩
    · rw [List.flatMap_cons]
      refine List.nodup_append.2 ⟨by rw [← hF]; exact hap.1 i _ hLi, h1, fun a ha b hb hab => ?_⟩
      subst hab
      obtain ⟨r', hr', hb'⟩ := List.mem_flatMap.1 hb
      obtain ⟨j, e', hj, hF'⟩ := key r' (ho r' (by simp [hr']))
      have hLj : (E.map fun e => e.2.ck θ e.1)[j]? = some (e'.ck θ r') := by rw [List.getElem?_map, hj]; rfl
      refine hap.2 i j _ _ hLi hLj ?_ a (by rw [hF]; exact ha) (by rw [hF']; exact hb')
      intro e
      subst e
      rw [hi] at hj
      cases hj
      exact (List.nodup_cons.1 hn).1 hr'
    · intro b hb
      rw [List.flatMap_cons] at hb
      rcases List.mem_append.1 hb with hb | hb
      · exact (h.sh.ge _ (List.mem_of_getElem? hLi) b (by rw [hF]; exact hb)).1
      · exact h2 b hb
end

theorem slOwn_names {E : List (Nat × En)} {α : Type} {d : Dat α} {xs : List α} {v : V} (h : SlOwn E α d xs v) : ∀ r ∈ V.names.namesL [v], ownN E r := by
  intro r hr
  cases v with
  | sl r' n =>
    have : r = r' := by simpa [V.names.namesL] using hr
    subst this
    exact ⟨_, h.2⟩
  | _ => cases hr
theorem fkO_names {E : List (Nat × En)} {α : Type} {x : α} : ∀ {fk : List (Fk α)} {cs : List V}, FkO E x fk cs → ∀ r ∈ V.names.namesL cs, ownN E r
  | [], [], _, r, hr => by cases hr
  | [], _ :: _, h, _, _ => h.elim
  | f :: fs, [], h, _, _ => by cases f <;> exact h.elim
  | f :: fs, v :: vs, h, r, hr => by
    rw [namesL_cons] at hr
    cases f with
    | sl β d g =>
      rcases List.mem_append.1 hr with hr | hr
      · exact slOwn_names h.1 r hr
      · exact fkO_names h.2 r hr
    | int g => obtain ⟨rfl, h⟩ := h; exact fkO_names h r (by simpa [V.names.namesL] using hr)
    | byte g => obtain ⟨rfl, h⟩ := h; exact fkO_names h r (by simpa [V.names.namesL] using hr)
    | bool g => obtain ⟨rfl, h⟩ := h; exact fkO_names h r (by simpa [V.names.namesL] using hr)
    | str g => obtain ⟨rfl, h⟩ := h; exact fkO_names h r (by simpa [V.names.namesL] using hr)
theorem resOk_names {E : List (Nat × En)} : ∀ {vs : List V} {xs : List Re}, ResOk E vs xs → ∀ r ∈ namesR vs xs, ownN E r
  | [], [], _, r, hr => by cases hr
  | [], _ :: _, h, _, _ => h.elim
  | _ :: _, [], h, _, _ => h.elim
  | v :: vs, x :: xs, h, r, hr => by
    cases x with
    | c x => exact resOk_names h.2 r hr
    | sl α d ys =>
      rcases List.mem_append.1 hr with hr | hr
      · exact slOwn_names h.1 r hr
      · exact resOk_names h.2 r hr
    | st α d s y =>
      obtain ⟨⟨_, h1⟩, h2⟩ := h
      rcases List.mem_append.1 hr with hr | hr
      · split at h1
        · rename_i cs hcs
          rw [hcs] at hr
          exact fkO_names h1 r hr
        · exact h1.elim
      · exact resOk_names h2 r hr

/-- A result variable, read. -/
def rvS (tmps : Array Value) : ResultVar → Sem Value
  | .tmp t => pure (tmps.getD t undef)
  | .cell a t => do loadVar t (← asAddr (tmps.getD a undef))
def RvL (P : Program) (w : World) (tmps : Array Value) : List ResultVar → List Value → Prop
  | [], us => us = []
  | r :: rs, us => ∃ u us', us = u :: us' ∧ (rvS tmps r).run P w = .ok u w ∧ RvL P w tmps rs us'
theorem results_rv {fn : Func} {rs : List ResultVar} {us : List Value} (h : fn.results.toList = rs) (hl : Nat.ble rs.length 4 = true) {tmps : Array Value} {P : Program} {w : World} (hr : RvL P w tmps rs us) : (results fn tmps).run P w = .ok (pack us) w := by
  have h' : fn.results = rs.toArray := Array.toList_inj.1 h
  have e : results fn tmps = (do
      let vs ← fn.results.mapM (rvS tmps)
      pure (if h : vs.size = 1 then vs[0] else .tuple vs)) := rfl
  rw [e, h']
  match rs, hl, hr with
  | [], _, hr => obtain rfl := hr; simp [pack]
  | [a], _, ⟨u, _, e1, h1, e2⟩ => cases e2; cases e1; simp [pack, h1]
  | [a, b], _, ⟨u, _, e1, h1, ⟨u2, _, e3, h2, e4⟩⟩ => cases e4; cases e3; cases e1; simp [pack, h1, h2]
  | [a, b, c], _, ⟨u, _, e1, h1, ⟨u2, _, e3, h2, ⟨u3, _, e5, h3, e6⟩⟩⟩ => cases e6; cases e5; cases e3; cases e1; simp [pack, h1, h2, h3]
  | [a, b, c, d], _, ⟨u, _, e1, h1, ⟨u2, _, e3, h2, ⟨u3, _, e5, h3, ⟨u4, _, e7, h4, e8⟩⟩⟩⟩ => cases e8; cases e7; cases e5; cases e3; cases e1; simp [pack, h1, h2, h3, h4]
  | a :: b :: c :: d :: e :: r, hl, _ => simp at hl

/-- The values of the result variables. -/
def rvV (ti : Nat → TI) (ρ : List (Nat × V)) (E : List (Nat × En)) : ResultVar → Option V
  | .tmp t => lk ρ t
  | .cell a t => ldV (ti t) E (lk ρ a)
def rvsV (ti : Nat → TI) (ρ : List (Nat × V)) (E : List (Nat × En)) : List ResultVar → Option (List V)
  | [] => some []
  | r :: rs => cons2 (rvV ti ρ E r) (rvsV ti ρ E rs)
theorem rvV_ok {c : Cx} {θ : List Loc} {σ : St} {a : Act} {w : World} (h : R c θ σ a w) {r : ResultVar} {v : V} (hv : rvV c.ti σ.ρ σ.E r = some v) : ∃ u, v.con θ = some u ∧ (rvS a.tmps r).run c.P w = .ok u w := by
  cases r with
  | tmp t => exact ⟨_, (h.env.get t v hv).1, by simp [rvS]⟩
  | cell s t =>
    simp only [rvV] at hv
    unfold ldV at hv
    split at hv
    · rename_i r off hx
      have hc := (h.env.get s _ hx).1
      obtain ⟨S, w1, hh⟩ := h.heap
      cases he : lkE σ.E r with
      | none => rw [he] at hv; cases hv
      | some e =>
        rw [he] at hv
        have key : ∀ cs, e.cells = some cs → ldC (c.ti t) off cs = some v → ∃ u, v.con θ = some u ∧ (rvS a.tmps (.cell s t)).run c.P w = .ok u w := by
          intro cs hcs hv
          obtain ⟨l, A, ccs, h1, h2, h3, h4⟩ := hh.at he hcs
          obtain ⟨l', A', h1', h2', hp⟩ := pt_con hc
          rw [h1] at h1'; cases h1'
          rw [h2] at h2'; cases h2'
          have hti := c.tiok t
          unfold ldC at hv
          split at hv
          · cases hv
          · rename_i n offs heq
            rw [heq] at hti
            simp only [TI.chk, Bool.and_eq_true] at hti
            cases hb : Nat.ble (off + n) cs.length with
            | false => rw [hb] at hv; cases hv
            | true =>
              rw [hb] at hv
              cases hv
              have hlen := conL_length h3
              have hle := Nat.le_of_ble_eq_true hb
              refine ⟨.agg ((ccs.drop off).take n).toArray, by simp only [V.con, conL_take n (conL_drop off h3), Option.map_some], ?_⟩
              simp only [rvS, hp, asAddr, Sem.run_bind, Sem.run_pure, Result.andThen_ok]
              exact run_load_agg (h4.part rfl) hti.1 (by rw [List.length_take, List.length_drop]; omega)
          · rename_i hno hst
            obtain ⟨u, hu, hcu⟩ := conL_get h3 (tuAt_spec hv)
            refine ⟨u, hcu, ?_⟩
            simp only [rvS, hp, asAddr, Sem.run_bind, Sem.run_pure, Result.andThen_ok]
            refine run_load_one (h4.cell hu) ?_
            rcases TI.one_of hti with ⟨n, o, e⟩ | e | h
            · exact absurd e (by intro h; exact hst n o h)
            · exact absurd e (by intro h; exact hno h)
            · exact h.1
        cases e with
        | var cs T => exact key cs rfl hv
        | roc cs => exact key cs rfl hv
        | lit cs T n => cases hv
        | own => cases hv
        | ros => cases hv
        | itr => cases hv
        | pin => cases hv
    · cases hv
theorem rvsV_ok {c : Cx} {θ : List Loc} {σ : St} {a : Act} {w : World} (h : R c θ σ a w) : ∀ {rs : List ResultVar} {vs : List V}, rvsV c.ti σ.ρ σ.E rs = some vs → ∃ us, conL θ vs = some us ∧ RvL c.P w a.tmps rs us
  | [], vs, hv => by cases hv; exact ⟨[], rfl, rfl⟩
  | r :: rs, vs, hv => by
    simp only [rvsV] at hv
    cases h1 : rvV c.ti σ.ρ σ.E r with
    | none => rw [h1] at hv; cases hv
    | some v =>
      cases h2 : rvsV c.ti σ.ρ σ.E rs with
      | none => rw [h1, h2] at hv; cases hv
      | some b =>
        rw [h1, h2] at hv
        cases hv
        obtain ⟨u, hu, hr⟩ := rvV_ok h h1
        obtain ⟨us, hus, hrs⟩ := rvsV_ok h h2
        exact ⟨u :: us, conL_mk hu hus, u, us, rfl, hr, hrs⟩

theorem Run.ret {c : Cx} {res : List Re} {σ : St} {k : List It} {rs : List ResultVar} (hr : c.fn.results.toList = rs) (hl : Nat.ble rs.length 4 = true) {vs : List V} (hv : rvsV c.ti σ.ρ σ.E rs = some vs) (ho : ResOk σ.E vs res) (hn : (namesR vs res).Nodup) (hQ : ∀ w' v, ResR c.S0 c.w0 w' v res → c.Q (fun w' v => ResR c.S0 c.w0 w' v res) w' v) : Run c res σ (.code .ret :: k) := by
  intro θ a w h
  have key : post c res .ret a w := by
    obtain ⟨S, w1, hh⟩ := h.heap
    have hn' := hh.nodup hn (resOk_names ho)
    obtain ⟨us, hus, hrl⟩ := rvsV_ok h hv
    exact ⟨h.env.defers, _, results_rv hr hl hrl, _, rfl, hQ _ _ ⟨h.keep, _, _, rfl, hh.resOk hus ho, hn'.1, fun b hb hS => hn'.2 b hb (hh.sub b hS)⟩⟩
  refine wp_ret ?_
  clear hv ho hn hr
  induction k with
  | nil => exact key
  | cons x k ih => cases x <;> exact ih
end Go.Proofs.YtmjjcihoobnbgaaDoor.Fw
