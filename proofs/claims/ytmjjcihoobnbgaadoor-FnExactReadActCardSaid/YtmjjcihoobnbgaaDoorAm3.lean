/-
  The abstract machine: its road through the code, its calls, loops and ends. No condition: every lemma is general in the program.
-/
import Derived.Test.YtmjjcihoobnbgaaDoorAm2
namespace Go.Proofs.YtmjjcihoobnbgaaDoor.Fw
open Go.RowKit
set_option linter.unusedVariables false

/-! ## What is handed in, and what is handed back -/
inductive Ar0 : Type 1 where
  | c (x : Value)
  | st (α : Type) (d : Dat α) (s : @Str α d) (x : α)
  | sl (α : Type) (d : Dat α) (xs : List α)
  | rp (α : Type) (d : Dat α) (s : @Str α d) (x : α)
inductive Arg : Type 1 where
  | o (a : Ar0)
  | fn (f : FuncId) (caps : List Ar0)
inductive Re : Type 1 where
  | c (x : Value)
  | st (α : Type) (d : Dat α) (s : @Str α d) (x : α)
  | sl (α : Type) (d : Dat α) (xs : List α)

def Ar0.R (w : World) (v : Value) : Ar0 → Prop
  | .c x => v = x
  | .st _ _ _ x => ∃ cs : List Value, v = .agg cs.toArray ∧ Dat.rd (Old w) w cs x
  | .sl _ _ xs => SlR (Old w) w v xs
  | .rp _ _ _ x => ∃ (A : Addr) (cs : List Value), v = .pointer (some (A.add 0)) ∧ A.block < w.heap.size ∧ CellsAt w A cs ∧ Dat.rd (Old w) w cs x
def AsR (w : World) : List Value → List Ar0 → Prop
  | [], [] => True
  | v :: vs, x :: xs => x.R w v ∧ AsR w vs xs
  | _, _ => False
def Arg.R (w : World) (v : Value) : Arg → Prop
  | .o a => a.R w v
  | .fn f caps => ∃ vs : List Value, v = .func (.func f) #[] vs.toArray ∧ AsR w vs caps
def ArgsR (w : World) : List Value → List Arg → Prop
  | [], [] => True
  | v :: vs, x :: xs => x.R w v ∧ ArgsR w vs xs
  | _, _ => False

def Re.R (w : World) (v : Value) (F : List Nat) : Re → Prop
  | .c x => v = x ∧ F = []
  | .st _ _ _ x => ∃ cs : List Value, v = .agg cs.toArray ∧ Dat.own w cs x F
  | .sl _ _ xs => SlO w v xs F
def ResL (w : World) : List Value → List Nat → List Re → Prop
  | [], F, [] => F = []
  | v :: vs, F, x :: xs => ∃ G H, F = G ++ H ∧ x.R w v G ∧ ResL w vs H xs
  | _, _, _ => False
def pack : List Value → Value
  | [v] => v
  | vs => .tuple vs.toArray
/-- What a call leaves: nothing that was there has turned, and what it hands back is new. -/
def ResR (S0 : Nat → Prop) (w0 w' : World) (v : Value) (res : List Re) : Prop :=
  Keep S0 w0 w' ∧ ∃ vs F, v = pack vs ∧ ResL w' vs F res ∧ F.Nodup ∧ ∀ b ∈ F, ¬ S0 b

/-- The contract of a function. -/
def CT (P : Program) (G : World → Prop) (f : FuncId) (args : List Arg) (res : List Re) : Prop :=
  ∀ (w : World) (vs : List Value), G w → ArgsR w vs args → Calls P f vs.toArray w (fun e w' => ∃ v, e = .returned v ∧ ResR (Old w) w w' v res)

/-! ## Opening data into cells -/
def opn {α : Type} (o : Bool) (x : α) : Nat → List (Fk α) → List V × List (Nat × En)
  | _, [] => ([], [])
  | m, .int g :: fs => (.v (.int .i64 (g x)) :: (opn o x m fs).1, (opn o x m fs).2)
  | m, .byte g :: fs => (.v (.int .u8 (g x).toNat) :: (opn o x m fs).1, (opn o x m fs).2)
  | m, .bool g :: fs => (.v (.bool (g x)) :: (opn o x m fs).1, (opn o x m fs).2)
  | m, .str g :: fs => (.v (.string (g x)) :: (opn o x m fs).1, (opn o x m fs).2)
  | m, .sl β d g :: fs => (.sl m (g x).length :: (opn o x (m + 1) fs).1, (m, bif o then .own β d (g x) else .ros β d (g x)) :: (opn o x (m + 1) fs).2)
def nsl {α : Type} : List (Fk α) → Nat
  | [] => 0
  | .sl _ _ _ :: fs => nsl fs + 1
  | .int _ :: fs => nsl fs
  | .byte _ :: fs => nsl fs
  | .bool _ :: fs => nsl fs
  | .str _ :: fs => nsl fs

theorem slR_loc {α : Type} [Dat α] {S : Nat → Prop} {w : World} {v : Value} {xs : List α} (h : SlR S w v xs) : ∃ l : Loc, v = .slice l.A xs.length l.cap ∧ l.F = [] := by
  obtain ⟨A, cap, rfl, _⟩ := h.form
  exact ⟨⟨A, cap, []⟩, rfl, rfl⟩
theorem slO_loc {α : Type} [Dat α] {w : World} {v : Value} {xs : List α} {F : List Nat} (h : SlO w v xs F) : ∃ l : Loc, v = .slice l.A xs.length l.cap ∧ l.F = F := by
  obtain ⟨A, cap, rfl, _⟩ := (h.rd (B := Old w) fun b hb => h.lt b hb).form
  exact ⟨⟨A, cap, F⟩, rfl, rfl⟩
theorem get_mid {θ θ' : List Loc} {l : Loc} : (θ ++ l :: θ')[θ.length]? = some l := by simp

theorem opn_ros {α : Type} {S : Nat → Prop} {w1 : World} {x : α} : ∀ {fk : List (Fk α)} {cs : List Value} {θ : List Loc}, RdL S w1 x fk cs →
    ∃ θ', θ'.length = nsl fk ∧ conL (θ ++ θ') (opn false x θ.length fk).1 = some cs ∧ ∀ e ∈ (opn false x θ.length fk).2, e.2.ok S w1 (θ ++ θ') e.1 ∧ ∀ θ r, e.2.ck θ r = ⟨[], fun _ => True⟩
  | [], cs, θ, h => by
    cases h
    exact ⟨[], rfl, rfl, fun e he => by cases he⟩
  | f :: fs, cs, θ, h => by
    obtain ⟨v, r, rfl, h1, h2⟩ := h
    cases f with
    | int g =>
      obtain ⟨θ', hl, hc, he⟩ := opn_ros (θ := θ) h2
      obtain ⟨rfl, _⟩ := h1
      exact ⟨θ', hl, conL_mk rfl hc, he⟩
    | byte g =>
      obtain ⟨θ', hl, hc, he⟩ := opn_ros (θ := θ) h2
      obtain rfl := h1
      exact ⟨θ', hl, conL_mk rfl hc, he⟩
    | bool g =>
      obtain ⟨θ', hl, hc, he⟩ := opn_ros (θ := θ) h2
      obtain rfl := h1
      exact ⟨θ', hl, conL_mk rfl hc, he⟩
    | str g =>
      obtain ⟨θ', hl, hc, he⟩ := opn_ros (θ := θ) h2
      obtain ⟨rfl, _⟩ := h1
      exact ⟨θ', hl, conL_mk rfl hc, he⟩
    | sl β d g =>
      obtain ⟨l, hv, _⟩ := slR_loc h1
      obtain ⟨θ', hl, hc, he⟩ := opn_ros (θ := θ ++ [l]) h2
      rw [List.length_append, List.length_singleton] at hc he
      rw [List.append_assoc] at hc he
      refine ⟨[l] ++ θ', by rw [List.length_append, List.length_singleton, hl, Nat.add_comm]; rfl, conL_mk ?_ hc, ?_⟩
      · simp only [V.con, List.singleton_append, get_mid, hv]
      · intro e hm
        rcases List.mem_cons.1 hm with rfl | hm
        · refine ⟨⟨l, get_mid, ?_⟩, fun _ _ => rfl⟩
          have h1' : SlR S w1 v (g x) := h1
          rwa [hv] at h1'
        · exact he e hm

theorem OwL_same {α : Type} {w w' : World} {x : α} : ∀ {fk : List (Fk α)} {cs : List Value} {F : List Nat}, OwL w x fk cs F → (∀ b ∈ F, w'.heap[b]? = w.heap[b]?) → OwL w' x fk cs F
  | [], _, _, h, _ => h
  | f :: fs, _, _, h, hF => by
    obtain ⟨v, r, G, H, rfl, rfl, h1, h2⟩ := h
    refine ⟨v, r, G, H, rfl, rfl, ?_, OwL_same h2 fun b hb => hF b (List.mem_append_right _ hb)⟩
    cases f with
    | int g => exact h1
    | byte g => exact h1
    | bool g => exact h1
    | str g => exact h1
    | sl β d g => exact SlO.same h1 fun b hb => hF b (List.mem_append_left _ hb)

theorem opn_own {α : Type} {w : World} {x : α} : ∀ {fk : List (Fk α)} {cs : List Value} {F : List Nat} {θ : List Loc}, OwL w x fk cs F →
    ∃ θ', θ'.length = nsl fk ∧ conL (θ ++ θ') (opn true x θ.length fk).1 = some cs ∧ F = ((opn true x θ.length fk).2.map fun e => e.2.ck (θ ++ θ') e.1).flatMap (·.F) ∧ ∀ e ∈ (opn true x θ.length fk).2, (e.2.ck (θ ++ θ') e.1).ok w ∧ ∀ S w1 θ r, e.2.ok S w1 θ r
  | [], cs, F, θ, h => by
    obtain ⟨rfl, rfl⟩ := h
    exact ⟨[], rfl, rfl, rfl, fun e he => by cases he⟩
  | f :: fs, cs, F, θ, h => by
    obtain ⟨v, r, G, H, rfl, rfl, h1, h2⟩ := h
    cases f with
    | int g =>
      obtain ⟨θ', hl, hc, hF, he⟩ := opn_own (θ := θ) h2
      obtain ⟨⟨rfl, _⟩, rfl⟩ := h1
      exact ⟨θ', hl, conL_mk rfl hc, hF, he⟩
    | byte g =>
      obtain ⟨θ', hl, hc, hF, he⟩ := opn_own (θ := θ) h2
      obtain ⟨rfl, rfl⟩ := h1
      exact ⟨θ', hl, conL_mk rfl hc, hF, he⟩
    | bool g =>
      obtain ⟨θ', hl, hc, hF, he⟩ := opn_own (θ := θ) h2
      obtain ⟨rfl, rfl⟩ := h1
      exact ⟨θ', hl, conL_mk rfl hc, hF, he⟩
    | str g =>
      obtain ⟨θ', hl, hc, hF, he⟩ := opn_own (θ := θ) h2
      obtain ⟨⟨rfl, _⟩, rfl⟩ := h1
      exact ⟨θ', hl, conL_mk rfl hc, hF, he⟩
    | sl β d g =>
      obtain ⟨l, hv, hlF⟩ := slO_loc h1
      obtain ⟨θ', hl, hc, hF, he⟩ := opn_own (θ := θ ++ [l]) h2
      rw [List.length_append, List.length_singleton] at hc he hF
      rw [List.append_assoc] at hc he hF
      refine ⟨[l] ++ θ', by rw [List.length_append, List.length_singleton, hl, Nat.add_comm]; rfl, conL_mk ?_ hc, ?_, ?_⟩
      · simp only [V.con, List.singleton_append, get_mid, hv]
      · show G ++ H = locF (θ ++ ([l] ++ θ')) θ.length ++ _
        rw [locF_of (show (θ ++ ([l] ++ θ'))[θ.length]? = some l from get_mid), hlF, hF]
        rfl
      · intro e hm
        rcases List.mem_cons.1 hm with rfl | hm
        · refine ⟨fun w2 h2 => ⟨l, get_mid, ?_⟩, fun _ _ _ _ => trivial⟩
          have h1' : SlO w v (g x) G := h1
          rw [hv] at h1'
          rw [hlF]
          refine h1'.same fun b hb => h2 b ?_
          show b ∈ locF (θ ++ ([l] ++ θ')) θ.length
          rw [locF_of (show (θ ++ ([l] ++ θ'))[θ.length]? = some l from get_mid), hlF]
          exact hb
        · exact he e hm

/-- New data is there, opened. -/
theorem RH.news {c : Cx} {θ θ' : List Loc} {E M : List (Nat × En)} {S : Nat → Prop} {w1 w w' : World} (h : RH c θ E S w1 w) (hb : Below w.heap.size w w') {F : List Nat} (hF : F = (M.map fun e => e.2.ck (θ ++ θ') e.1).flatMap (·.F))
    (hM : ∀ e ∈ M, (e.2.ck (θ ++ θ') e.1).ok w' ∧ ∀ S w1 θ r, e.2.ok S w1 θ r) (hge : ∀ b ∈ F, w.heap.size ≤ b) (hn : F.Nodup) : RH c (θ ++ θ') (M ++ E) S w1 w' := by
  have h' := h.ext (θ' := θ')
  have hlt : ∀ b ∈ F, b < w'.heap.size := by
    intro b hbF
    subst hF
    obtain ⟨d, hd, hbd⟩ := List.mem_flatMap.1 hbF
    obtain ⟨e, he, rfl⟩ := List.mem_map.1 hd
    have hp := ((hM e he).1).here
    obtain ⟨r, e⟩ := e
    cases e with
    | var cs T =>
      obtain ⟨l, b', ccs, h1, h2, h3, h4, h5⟩ := hp
      have : b ∈ l.F := by
        have hbd' : b ∈ locF (θ ++ θ') r := hbd
        rwa [locF_of h1] at hbd'
      rw [h3, List.mem_singleton] at this
      subst this
      exact (Array.getElem?_eq_some_iff.1 h5).1
    | lit cs T n =>
      obtain ⟨l, b', ccs, ⟨h1, _⟩, h2, h3, h4, h5⟩ := hp
      have : b ∈ l.F := by
        have hbd' : b ∈ locF (θ ++ θ') r := hbd
        rwa [locF_of h1] at hbd'
      rw [h3, List.mem_singleton] at this
      subst this
      exact (Array.getElem?_eq_some_iff.1 h5).1
    | own α d xs =>
      obtain ⟨l, h1, h2⟩ := hp
      have hbd' : b ∈ locF (θ ++ θ') r := hbd
      rw [locF_of h1] at hbd'
      exact h2.lt b hbd'
    | itr s pos =>
      obtain ⟨l, b', h1, h2, h3, h5⟩ := hp
      have : b ∈ l.F := by
        have hbd' : b ∈ locF (θ ++ θ') r := hbd
        rwa [locF_of h1] at hbd'
      rw [h3, List.mem_singleton] at this
      subst this
      exact (Array.getElem?_eq_some_iff.1 h5).1
    | ros => cases hbd
    | roc => cases hbd
    | pin => cases hbd
  have hs := h'.sh.call hb (c := ⟨F, fun w2 => ∀ e ∈ M, (e.2.ck (θ ++ θ') e.1).ok w2⟩) (fun w2 h2 e he => (hM e he).1.same fun b hb => h2 b (by
    rw [hF]; exact List.mem_flatMap.2 ⟨_, List.mem_map.2 ⟨e, he, rfl⟩, hb⟩)) (fun b hb => ⟨hge b hb, hlt b hb⟩) hn
  refine ⟨h.k0, h.sub, ?_, fun e he => ?_⟩
  · rw [List.map_append]
    refine hs.split _ hF fun d hd => ?_
    obtain ⟨e, he, rfl⟩ := List.mem_map.1 hd
    exact (hM e he).1
  · rcases List.mem_append.1 he with he | he
    · exact (hM e he).2 _ _ _ _
    · exact h'.ok e he

/-- Read-only data is there, opened. -/
theorem RH.facts {c : Cx} {θ θ' : List Loc} {E M : List (Nat × En)} {S : Nat → Prop} {w1 w : World} (h : RH c θ E S w1 w) (hM : ∀ e ∈ M, e.2.ok S w1 (θ ++ θ') e.1 ∧ ∀ θ r, e.2.ck θ r = ⟨[], fun _ => True⟩) : RH c (θ ++ θ') (M ++ E) S w1 w := by
  have h' := h.ext (θ' := θ')
  clear h
  induction M with
  | nil => exact h'
  | cons e M ih =>
    have := ih (fun e he => hM e (List.mem_cons_of_mem _ he))
    obtain ⟨r, e⟩ := e
    exact this.fact ((hM (r, e) (by simp)).2 _ _) (hM (r, e) (by simp)).1

/-! ## What is handed back by a call, bound -/
def bindR (m : Nat) : Re → V × List (Nat × En) × Nat
  | .c x => (.v x, [], 0)
  | .st _ d s x => (.ag (opn true x m s.fk).1, (opn true x m s.fk).2, nsl s.fk)
  | .sl α d xs => (.sl m xs.length, [(m, .own α d xs)], 1)
def bindRs : Nat → List Re → List V × List (Nat × En) × Nat
  | _, [] => ([], [], 0)
  | m, x :: r => ((bindR m x).1 :: (bindRs (m + (bindR m x).2.2) r).1, (bindR m x).2.1 ++ (bindRs (m + (bindR m x).2.2) r).2.1, (bindR m x).2.2 + (bindRs (m + (bindR m x).2.2) r).2.2)
def packV : List V → V
  | [v] => v
  | vs => .tu vs

theorem bindR_ok {w : World} {v : Value} {F : List Nat} {θ : List Loc} {x : Re} (h : x.R w v F) :
    ∃ θ', θ'.length = (bindR θ.length x).2.2 ∧ (bindR θ.length x).1.con (θ ++ θ') = some v ∧ F = ((bindR θ.length x).2.1.map fun e => e.2.ck (θ ++ θ') e.1).flatMap (·.F) ∧ ∀ e ∈ (bindR θ.length x).2.1, (e.2.ck (θ ++ θ') e.1).ok w ∧ ∀ S w1 θ r, e.2.ok S w1 θ r := by
  cases x with
  | c x =>
    obtain ⟨rfl, rfl⟩ := h
    exact ⟨[], rfl, rfl, rfl, fun e he => by cases he⟩
  | st α d s x =>
    obtain ⟨cs, rfl, ho⟩ := h
    obtain ⟨θ', hl, hc, hF, he⟩ := opn_own (θ := θ) (s.oop ho)
    exact ⟨θ', hl, by simp only [bindR, V.con, hc, Option.map_some], hF, he⟩
  | sl α d xs =>
    have h' : SlO w v xs F := h
    obtain ⟨l, hv, hlF⟩ := slO_loc h'
    have hg : (θ ++ [l])[θ.length]? = some l := get_mid
    refine ⟨[l], rfl, by simp only [bindR, V.con, hg, hv], ?_, ?_⟩
    · show F = locF (θ ++ [l]) θ.length ++ []
      rw [locF_of hg, hlF, List.append_nil]
    · intro e hm
      rcases List.mem_cons.1 hm with rfl | hm
      · refine ⟨fun w2 h2 => ⟨l, hg, ?_⟩, fun _ _ _ _ => trivial⟩
        rw [hv] at h'
        rw [hlF]
        refine h'.same fun b hb => h2 b ?_
        show b ∈ locF (θ ++ [l]) θ.length
        rw [locF_of hg, hlF]
        exact hb
      · cases hm

theorem En.ck_len {θ θ' : List Loc} {r : Nat} {e : En} {w : World} (h : (e.ck θ r).ok w) : (e.ck (θ ++ θ') r).F = (e.ck θ r).F ∧ (e.ck (θ ++ θ') r).ok w := by
  have h1 := En.ck_ext (θ' := θ') h.here
  refine ⟨h1.1, fun w' hw' => h1.2 w' (h w' fun b hb => hw' b (by rw [h1.1]; exact hb))⟩

theorem bindRs_ok {w : World} : ∀ {vs : List Value} {F : List Nat} {θ : List Loc} {xs : List Re}, ResL w vs F xs →
    ∃ θ', θ'.length = (bindRs θ.length xs).2.2 ∧ conL (θ ++ θ') (bindRs θ.length xs).1 = some vs ∧ F = ((bindRs θ.length xs).2.1.map fun e => e.2.ck (θ ++ θ') e.1).flatMap (·.F) ∧ ∀ e ∈ (bindRs θ.length xs).2.1, (e.2.ck (θ ++ θ') e.1).ok w ∧ ∀ S w1 θ r, e.2.ok S w1 θ r
  | [], F, θ, [], h => by cases h; exact ⟨[], rfl, rfl, rfl, fun e he => by cases he⟩
  | [], F, θ, _ :: _, h => h.elim
  | _ :: _, F, θ, [], h => h.elim
  | v :: vs, F, θ, x :: xs, h => by
    obtain ⟨G, H, rfl, h1, h2⟩ := h
    obtain ⟨θ1, l1, c1, f1, e1⟩ := bindR_ok (θ := θ) h1
    obtain ⟨θ2, l2, c2, f2, e2⟩ := bindRs_ok (θ := θ ++ θ1) h2
    rw [List.length_append, l1, List.append_assoc] at c2 f2 e2
    rw [List.length_append, l1] at l2
    have e1' : ∀ e ∈ (bindR θ.length x).2.1, (e.2.ck (θ ++ (θ1 ++ θ2)) e.1).F = (e.2.ck (θ ++ θ1) e.1).F ∧ (e.2.ck (θ ++ (θ1 ++ θ2)) e.1).ok w := fun e he => by
      have := En.ck_len (θ' := θ2) (e1 e he).1
      rwa [List.append_assoc] at this
    refine ⟨θ1 ++ θ2, by rw [List.length_append, l1, l2]; rfl, ?_, ?_, ?_⟩
    · have := V.con_ext (θ' := θ2) c1
      rw [List.append_assoc] at this
      exact conL_mk this c2
    · show G ++ H = (((bindR θ.length x).2.1 ++ _).map _).flatMap _
      rw [List.map_append, List.flatMap_append, ← f2, f1]
      congr 1
      rw [List.flatMap_map, List.flatMap_map]
      clear f1 f2 c1 c2 e2
      generalize (bindR θ.length x).2.1 = l at e1'
      induction l with
      | nil => rfl
      | cons a l ih => rw [List.flatMap_cons, List.flatMap_cons, (e1' a (by simp)).1, ih fun e he => e1' e (by simp [he])]
    · intro e he
      rcases List.mem_append.1 he with he | he
      · exact ⟨(e1' e he).2, (e1 e he).2⟩
      · exact e2 e he

theorem packV_con {θ : List Loc} : ∀ {vs : List V} {us : List Value}, conL θ vs = some us → (packV vs).con θ = some (pack us)
  | [], us, h => by cases h; rfl
  | [v], us, h => by
    obtain ⟨a, b, rfl, h1, h2⟩ := conL_cons h
    cases h2
    exact h1
  | v :: v' :: r, us, h => by
    obtain ⟨a, b, rfl, h1, h2⟩ := conL_cons h
    obtain ⟨a', b', rfl, h3, h4⟩ := conL_cons h2
    simp only [packV, V.con, pack, h, Option.map_some]
end Go.Proofs.YtmjjcihoobnbgaaDoor.Fw
