/-
  The abstract machine: runs. No condition: every lemma is general in the program.
-/
import Derived.Test.YtmjjcihoobnbgaaDoorAm3
namespace Go.Proofs.YtmjjcihoobnbgaaDoor.Fw
open Go.RowKit
set_option linter.unusedVariables false

inductive It where
  | code (c : Code)
  | ops (l : List Oper) (all : Array Oper)
  | blk (id : Nat)
  | goal (G : Act → World → Prop)

def post (c : Cx) (res : List Re) : Exit → Act → World → Prop := bodyPost c.P c.fn (fun e w' => ∃ v, e = .returned v ∧ c.Q (fun w' v => ResR c.S0 c.w0 w' v res) w' v)

def kQ (c : Cx) (res : List Re) : List It → Exit → Act → World → Prop
  | [] => post c res
  | .code y :: k => Exit.then (y.wp c.P (kQ c res k)) (kQ c res k)
  | .ops l all :: k => Exit.then (wpList c.P all (kQ c res k) l) (kQ c res k)
  | .blk id :: k => Exit.inBlock id (kQ c res k)
  | .goal G :: k => Exit.then G (kQ c res k)

theorem kQ_ops (c : Cx) (res : List Re) (l : List Oper) (all : Array Oper) (k : List It) : kQ c res (.ops l all :: k) .normal = wpList c.P all (kQ c res k) l := rfl

/-- From a state on, with this still to do, the call ends as it must. -/
def Run (c : Cx) (res : List Re) (σ : St) (k : List It) : Prop := ∀ θ a w, R c θ σ a w → kQ c res k .normal a w

/-! ## One step -/
def put (d : Nat) (v : V) (σ : St) : St := ⟨σ.n, σ.m, (d, v) :: σ.ρ, σ.E⟩

/-- A literal's elements, cell by cell. -/
def litD (sz : Nat) (cs : List V) : Option (List V) → Option (List V)
  | some ds => bif Nat.beq ds.length sz then some (ds ++ cs) else none
  | none => none
def litC (sz : Nat) : Bool → Option V → Option (List V) → Option (List V)
  | true, some v, some cs => litD sz cs v.cells
  | _, _, _ => none
def litV (e : Operand → Option V) (sz : Nat) : Nat → List (Nat × Operand) → Option (List V)
  | _, [] => some []
  | k, (i, x) :: r => litC sz (Nat.beq i k) (e x) (litV e sz (k + 1) r)

/-- A new variable. -/
def nvK (σ : St) (d : Nat) (T : TypeId) : Option (List V) → Option St
  | some cs => bif Nat.blt d σ.n then some ⟨σ.n, σ.m + 1, (d, .pt σ.m 0) :: σ.ρ, (σ.m, .var cs T) :: σ.E⟩ else none
  | none => none
def cellsO : Option V → Option (List V)
  | some v => v.cells
  | none => none
def zcells : Option Value → Option (List V)
  | some z => (V.v z).cells
  | none => none
def blK (σ : St) (d len n : Nat) (e sz : Nat) : Option Value → Option (List V) → Option St
  | some z, some cs => bif an (an (an (an (an (Nat.beq n len) (Nat.blt 0 sz)) (Nat.ble (len * sz) 16777216)) (Nat.blt 0 len)) (Nat.beq z.cells.size sz)) (Nat.blt d σ.n) then some ⟨σ.n, σ.m + 1, (d, .sl σ.m len) :: σ.ρ, (σ.m, .lit cs e len) :: σ.E⟩ else none
  | _, _ => none
def bsK (zr : Nat → Option Value) (σ : St) (d len : Nat) (parts : List (Nat × Operand)) : TI → Option St
  | .sl e sz _ => blK σ d len parts.length e sz (zr e) (litV (ev σ.ρ) sz 0 parts)
  | _ => none
def stW (σ : St) (r off : Nat) : Option En → Option (List V) → Option Nat → Option St
  | some (.var cs T), some ds, some n => bif an (an (Nat.beq ds.length n) (Nat.ble (off + n) cs.length)) (oneL ds) then some ⟨σ.n, σ.m, σ.ρ, setE r (.var (splice cs ds off n) T) σ.E⟩ else none
  | _, _, _ => none
def stV (σ : St) (i : TI) : Option V → Option V → Option St
  | some (.pt r off), some v => stW σ r off (lkE σ.E r) v.cells i.cells
  | _, _ => none
def ptK (σ : St) (d : Nat) : Option V → Option St
  | some v => bif Nat.blt d σ.n then some (put d v σ) else none
  | none => none

def stO (ti : Nat → TI) (zr : Nat → Option Value) (σ : St) : Option Tmp → Op → Option St
  | some d, .box T x => nvK σ d T (cellsO (ev σ.ρ x))
  | some d, .alloc T => nvK σ d T (zcells (zr T))
  | some d, .buildSlice t len parts => bsK zr σ d len parts.toList (ti t)
  | none, .store t x y => stV σ (ti t) (ev σ.ρ x) (ev σ.ρ y)
  | some d, .move x => ptK σ d (pv ti zr (ev σ.ρ) (evs σ.ρ) σ.E (.move x))
  | some d, .assign x => ptK σ d (pv ti zr (ev σ.ρ) (evs σ.ρ) σ.E (.assign x))
  | some d, .pick x y z => ptK σ d (pv ti zr (ev σ.ρ) (evs σ.ρ) σ.E (.pick x y z))
  | some d, .binOp o t x y u => ptK σ d (pv ti zr (ev σ.ρ) (evs σ.ρ) σ.E (.binOp o t x y u))
  | some d, .unOp o t x => ptK σ d (pv ti zr (ev σ.ρ) (evs σ.ρ) σ.E (.unOp o t x))
  | some d, .load t x => ptK σ d (pv ti zr (ev σ.ρ) (evs σ.ρ) σ.E (.load t x))
  | some d, .fieldAddr t x f => ptK σ d (pv ti zr (ev σ.ρ) (evs σ.ρ) σ.E (.fieldAddr t x f))
  | some d, .build t ps => ptK σ d (pv ti zr (ev σ.ρ) (evs σ.ρ) σ.E (.build t ps))
  | some d, .nilCheck x => ptK σ d (pv ti zr (ev σ.ρ) (evs σ.ρ) σ.E (.nilCheck x))
  | some d, .extract x i => ptK σ d (pv ti zr (ev σ.ρ) (evs σ.ρ) σ.E (.extract x i))
  | some d, .convert s t x => ptK σ d (pv ti zr (ev σ.ρ) (evs σ.ρ) σ.E (.convert s t x))
  | some d, .makeFunc f a b => ptK σ d (pv ti zr (ev σ.ρ) (evs σ.ρ) σ.E (.makeFunc f a b))
  | some d, .call c => ptK σ d (pv ti zr (ev σ.ρ) (evs σ.ρ) σ.E (.call c))
  | _, _ => none

theorem R.put {c : Cx} {θ : List Loc} {σ : St} {a : Act} {w : World} (h : R c θ σ a w) {d : Nat} (hd : Nat.blt d σ.n = true) {v : V} {u : Value} (hv : v.con θ = some u) : R c θ (put d v σ) (a.put (some d) u) w :=
  ⟨h.len, h.env.put hd hv, h.heap⟩

theorem R.ext {c : Cx} {θ θ' : List Loc} {σ : St} {a : Act} {w : World} (h : R c θ σ a w) : R c (θ ++ θ') ⟨σ.n, σ.m + θ'.length, σ.ρ, σ.E⟩ a w :=
  ⟨by rw [List.length_append, h.len], h.env.ext, let ⟨S, w1, hh⟩ := h.heap; ⟨S, w1, hh.ext⟩⟩

/-- Chunk r is turned into chunk p; all else is as it was. -/
def putE (k : Nat) (p : Nat × En) : List (Nat × En) → List (Nat × En)
  | [] => []
  | (t, v) :: r => bif Nat.beq t k then p :: r else (t, v) :: putE k p r
theorem putE_get : ∀ {E : List (Nat × En)} {k : Nat} {e : En}, lkE E k = some e → ∃ i : Nat, E[i]? = some (k, e) ∧ ∀ p, putE k p E = E.set i p
  | [], _, _, h => by cases h
  | (t, v) :: r, k, e, h => by
    simp only [lkE] at h
    by_cases hb : Nat.beq t k = true
    · rw [hb] at h
      obtain rfl := Nat.eq_of_beq_eq_true hb
      cases h
      exact ⟨0, rfl, fun e' => by simp [putE]⟩
    · rw [Bool.not_eq_true] at hb
      rw [hb] at h
      obtain ⟨i, h1, h2⟩ := putE_get h
      exact ⟨i + 1, by simpa using h1, fun e' => by simp [putE, hb, h2]⟩
theorem setE_put : ∀ {E : List (Nat × En)} {k : Nat} {e : En}, setE k e E = putE k (k, e) E
  | [], _, _ => rfl
  | (t, v) :: r, k, e => by
    simp only [setE, putE]
    by_cases hb : Nat.beq t k = true
    · rw [hb]
      obtain rfl := Nat.eq_of_beq_eq_true hb
      rfl
    · rw [Bool.not_eq_true] at hb
      rw [hb, setE_put]
      rfl

theorem RH.turn {c : Cx} {θ : List Loc} {E : List (Nat × En)} {S : Nat → Prop} {w1 w w' : World} (h : RH c θ E S w1 w) {r : Nat} {e : En} (he : lkE E r = some e) {p : Nat × En} (hos : w'.os = w.os) (htape : w'.tape = w.tape) (hout : w'.output = w.output) (hsize : w.heap.size ≤ w'.heap.size)
    (hsame : ∀ b, b < w.heap.size → b ∉ (e.ck θ r).F → w'.heap[b]? = w.heap[b]?) (hok : (p.2.ck θ p.1).ok w') (hF : ∀ b ∈ (p.2.ck θ p.1).F, (b ∈ (e.ck θ r).F ∨ w.heap.size ≤ b) ∧ b < w'.heap.size) (hn : (p.2.ck θ p.1).F.Nodup) (hf : p.2.ok S w1 θ p.1) : RH c θ (putE r p E) S w1 w' := by
  obtain ⟨i, hi, hp⟩ := putE_get he
  rw [hp]
  refine ⟨h.k0, h.sub, ?_, fun x hx => ?_⟩
  · rw [List.map_set]
    exact h.sh.turn (k := i) (c := e.ck θ r) (by rw [List.getElem?_map, hi]; rfl) hos htape hout hsize hsame hok hF hn
  · rcases List.mem_or_eq_of_mem_set hx with hx | rfl
    · exact h.ok x hx
    · exact hf

theorem TI.cells_size {P : Program} {t n : Nat} {i : TI} (h : i.chk P t = true) (hn : i.cells = some n) (w : World) : (sizeOf t).run P w = .ok n w := by
  rcases TI.one_of h with ⟨m, o, rfl⟩ | rfl | ⟨h1, h2⟩
  · cases hn
    simp only [TI.chk, Bool.and_eq_true] at h
    exact (chkAgg_isAgg h.1 w).2
  · cases hn
  · rw [h2] at hn; cases hn
    exact (chkOne_isAgg h1 w).2

theorem litV_ok {θ : List Loc} {a : Act} {e : Operand → Option V} {sz : Nat} : ∀ {parts : List (Nat × Operand)} {k : Nat} {cs : List V}, (∀ p ∈ parts, ∀ v, e p.2 = some v → v.con θ = some (a.eval p.2)) → litV e sz k parts = some cs →
    ∃ us : List Value, parts.map (fun p => (p.1, a.eval p.2)) = (us.zipIdx k).map (fun x => (x.2, x.1)) ∧ (∀ u ∈ us, u.cells.size = sz) ∧ conL θ cs = some (us.flatMap fun u => u.cells.toList) ∧ us.length = parts.length
  | [], k, cs, _, h => by cases h; exact ⟨[], rfl, by simp, rfl, rfl⟩
  | (i, x) :: r, k, cs, he, h => by
    simp only [litV] at h
    unfold litC at h
    split at h
    · rename_i v cs' hb hv hcs'
      obtain rfl := Nat.eq_of_beq_eq_true hb
      unfold litD at h
      split at h
      · rename_i ds hds
        cases hb2 : Nat.beq ds.length sz with
        | false => rw [hb2] at h; cases h
        | true =>
          rw [hb2] at h
          cases h
          obtain ⟨l, hl, hc⟩ := V.cells_ok hds (he (i, x) (by simp) v hv)
          obtain ⟨us, h1, h2, h3, h4⟩ := litV_ok (fun p hp => he p (List.mem_cons_of_mem _ hp)) hcs'
          have hlen := conL_length hl
          have := Nat.eq_of_beq_eq_true hb2
          refine ⟨a.eval x :: us, ?_, ?_, ?_, by simp [h4]⟩
          · rw [List.map_cons, List.zipIdx_cons, List.map_cons, h1]
          · intro u hu
            rcases List.mem_cons.1 hu with rfl | hu
            · simp only at hc; rw [hc]; simp; omega
            · exact h2 u hu
          · rw [List.flatMap_cons]
            simp only at hc
            rw [hc]
            exact conL_app hl h3
      · cases h
    · cases h

/-- A new block. -/
theorem R.newvar {c : Cx} {θ : List Loc} {σ : St} {a : Act} {w : World} (h : R c θ σ a w) {cs : List V} {l : List Value} (hl : conL θ cs = some l) (T : TypeId) (cap : Nat) {d : Nat} (hd : Nat.blt d σ.n = true) {v : V} {u : Value} (hv : v.con (θ ++ [⟨some ⟨w.heap.size, 0, none⟩, cap, [w.heap.size]⟩]) = some u) :
    R c (θ ++ [⟨some ⟨w.heap.size, 0, none⟩, cap, [w.heap.size]⟩]) ⟨σ.n, σ.m + 1, (d, v) :: σ.ρ, (σ.m, .var cs T) :: σ.E⟩ (a.put (some d) u) (w.alloc (.cells l.toArray T)) := by
  obtain ⟨S, w1, hh⟩ := h.heap
  have hg : (θ ++ [⟨some ⟨w.heap.size, 0, none⟩, cap, [w.heap.size]⟩])[σ.m]? = some ⟨some ⟨w.heap.size, 0, none⟩, cap, [w.heap.size]⟩ := by rw [← h.len]; exact get_mid
  refine ⟨by rw [List.length_append, h.len]; rfl, (h.env.ext).put hd hv, S, w1, ?_⟩
  refine hh.ext.new (w' := w.alloc (.cells l.toArray T)) ((Below.refl _ _).alloc (Nat.le_refl _) _) ?_ ?_ ?_ trivial
  · intro w2 h2
    refine ⟨_, w.heap.size, l, hg, rfl, rfl, conL_ext hl, ?_⟩
    exact (h2 w.heap.size (by show _ ∈ locF _ _; rw [locF_of hg]; simp)).trans (heap_alloc_new w _)
  · intro b hb
    have hb' : b ∈ locF (θ ++ [⟨some ⟨w.heap.size, 0, none⟩, cap, [w.heap.size]⟩]) σ.m := hb
    rw [locF_of hg] at hb'
    simp only [List.mem_singleton] at hb'
    subst hb'
    simp
  · show (locF _ σ.m).Nodup
    rw [locF_of hg]
    simp
theorem R.newlit {c : Cx} {θ : List Loc} {σ : St} {a : Act} {w : World} (h : R c θ σ a w) {cs : List V} {l : List Value} (hl : conL θ cs = some l) (T : TypeId) (cap : Nat) {d : Nat} (hd : Nat.blt d σ.n = true) {v : V} {u : Value} (hv : v.con (θ ++ [⟨some ⟨w.heap.size, 0, none⟩, cap, [w.heap.size]⟩]) = some u) :
    R c (θ ++ [⟨some ⟨w.heap.size, 0, none⟩, cap, [w.heap.size]⟩]) ⟨σ.n, σ.m + 1, (d, v) :: σ.ρ, (σ.m, .lit cs T cap) :: σ.E⟩ (a.put (some d) u) (w.alloc (.cells l.toArray T)) := by
  obtain ⟨S, w1, hh⟩ := h.heap
  have hg : (θ ++ [⟨some ⟨w.heap.size, 0, none⟩, cap, [w.heap.size]⟩])[σ.m]? = some ⟨some ⟨w.heap.size, 0, none⟩, cap, [w.heap.size]⟩ := by rw [← h.len]; exact get_mid
  refine ⟨by rw [List.length_append, h.len]; rfl, (h.env.ext).put hd hv, S, w1, ?_⟩
  refine hh.ext.new (w' := w.alloc (.cells l.toArray T)) ((Below.refl _ _).alloc (Nat.le_refl _) _) ?_ ?_ ?_ trivial
  · intro w2 h2
    refine ⟨_, w.heap.size, l, ⟨hg, rfl⟩, rfl, rfl, conL_ext hl, ?_⟩
    exact (h2 w.heap.size (by show _ ∈ locF _ _; rw [locF_of hg]; simp)).trans (heap_alloc_new w _)
  · intro b hb
    have hb' : b ∈ locF (θ ++ [⟨some ⟨w.heap.size, 0, none⟩, cap, [w.heap.size]⟩]) σ.m := hb
    rw [locF_of hg] at hb'
    simp only [List.mem_singleton] at hb'
    subst hb'
    simp
  · show (locF _ σ.m).Nodup
    rw [locF_of hg]
    simp
theorem R.pt0 {c : Cx} {θ : List Loc} {σ : St} {a : Act} {w : World} (h : R c θ σ a w) {l : Loc} {A : Addr} (hA : l.A = some A) : (V.pt σ.m 0).con (θ ++ [l]) = some (.pointer (some (A.add 0))) := by
  have hg : (θ ++ [l])[σ.m]? = some l := by rw [← h.len]; exact get_mid
  obtain ⟨A', cap, F⟩ := l
  cases hA
  simp only [V.con, hg]
theorem R.sl0 {c : Cx} {θ : List Loc} {σ : St} {a : Act} {w : World} (h : R c θ σ a w) {l : Loc} (n : Nat) : (V.sl σ.m n).con (θ ++ [l]) = some (.slice l.A n l.cap) := by
  have hg : (θ ++ [l])[σ.m]? = some l := by rw [← h.len]; exact get_mid
  simp only [V.con, hg]

section
variable {c : Cx} {σ σ' : St} {θ : List Loc} {a : Act} {w : World} {ty : TypeId} {pos : String} {after : Array Edge} {g : Option (Nat × Bool)} {K : Act → World → Prop} {Q : Exit → Act → World → Prop}
theorem nvK_ok {d : Nat} {T : TypeId} {o : Option (List V)} {op : Op} (hs : nvK σ d T o = some σ') (h : R c θ σ a w)
    (hrun : ∀ cs, o = some cs → ∃ l, conL θ cs = some l ∧ (execOp a.eval ⟨some d, op, ty, pos, after, g⟩).run c.P w = .ok (.value (.pointer (some ((⟨w.heap.size, 0, none⟩ : Addr).add 0)))) (w.alloc (.cells l.toArray T)))
    (hK : ∀ η a' w', R c (θ ++ η) σ' a' w' → K a' w') : Oper.wp c.P ⟨some d, op, ty, pos, after, g⟩ a w K Q := by
  unfold nvK at hs
  split at hs
  · rename_i cs
    cases hd : Nat.blt d σ.n with
    | false => rw [hd] at hs; cases hs
    | true =>
      rw [hd] at hs
      cases hs
      obtain ⟨l, hl, hr⟩ := hrun cs rfl
      unfold Oper.wp
      rw [hr]
      exact hK _ _ _ (h.newvar hl T 0 hd (h.pt0 rfl))
  · cases hs

theorem ptK_ok {d : Nat} {op : Op} (hs : ptK σ d (pv c.ti c.zr (ev σ.ρ) (evs σ.ρ) σ.E op) = some σ') (h : R c θ σ a w) (hK : ∀ η a' w', R c (θ ++ η) σ' a' w' → K a' w') : Oper.wp c.P ⟨some d, op, ty, pos, after, g⟩ a w K Q := by
  unfold ptK at hs
  split at hs
  · rename_i v hv
    cases hd : Nat.blt d σ.n with
    | false => rw [hd] at hs; cases hs
    | true =>
      rw [hd] at hs
      cases hs
      obtain ⟨u, hu, hy⟩ := pv_ok h (ty := ty) hv
      unfold Oper.wp
      rw [hy]
      exact hK [] _ _ (by rw [List.append_nil]; exact h.put hd hu)
  · cases hs

theorem stO_ok {dst : Option Tmp} {op : Op} (hs : stO c.ti c.zr σ dst op = some σ') (h : R c θ σ a w)
    (hK : ∀ η a' w', R c (θ ++ η) σ' a' w' → K a' w') : Oper.wp c.P ⟨dst, op, ty, pos, after, g⟩ a w K Q := by
  have hE := h.env.env
  unfold stO at hs
  split at hs
  · -- box
    rename_i d T x
    refine nvK_ok hs h (fun cs hcs => ?_) hK
    unfold cellsO at hcs
    split at hcs
    · rename_i v hv
      obtain ⟨l, hl, hcells⟩ := V.cells_ok hcs (h.env.con hv)
      refine ⟨l, hl, ?_⟩
      simp [execOp, Instr.box, newVar, newRow, hcells, Addr.add]
    · cases hcs
  · -- alloc
    rename_i d T
    refine nvK_ok hs h (fun cs hcs => ?_) hK
    unfold zcells at hcs
    split at hcs
    · rename_i z hz
      obtain ⟨l, hl, hcells⟩ := V.cells_ok (θ := θ) hcs rfl
      refine ⟨l, hl, ?_⟩
      simp [execOp, Instr.alloc, newVar, newRow, c.zok T z hz, hcells, Addr.add]
    · cases hcs
  · -- a literal
    rename_i d t len parts
    unfold bsK at hs
    split at hs
    · rename_i e sz by' hti
      unfold blK at hs
      split at hs
      · rename_i z cs hz hcs
        cases hb : an (an (an (an (an (Nat.beq parts.toList.length len) (Nat.blt 0 sz)) (Nat.ble (len * sz) 16777216)) (Nat.blt 0 len)) (Nat.beq z.cells.size sz)) (Nat.blt d σ.n) with
        | false => rw [hb] at hs; cases hs
        | true =>
          rw [hb] at hs
          cases hs
          simp only [an_eq, Bool.and_eq_true] at hb
          obtain ⟨⟨⟨⟨⟨hb1, hb2⟩, hb3⟩, hb4⟩, hb5⟩, hd⟩ := hb
          have hb1 := Nat.eq_of_beq_eq_true hb1
          have hb3 := Nat.le_of_ble_eq_true hb3
          have hb5 := Nat.eq_of_beq_eq_true hb5
          have hb2 : 0 < sz := by simpa using hb2
          have hb4 : 0 < len := by simpa using hb4
          have hti' := c.tiok t
          rw [hti] at hti'
          simp only [TI.chk, Bool.and_eq_true] at hti'
          obtain ⟨hu, inf, hinf, his, _⟩ := chkSlice_spec hti'.2
          have hsz : (sizeOf e).run c.P w = .ok sz w := by simp [sizeOf, typeInfo, hinf, his]
          obtain ⟨us, h1, h2, h3, h4⟩ := litV_ok (θ := θ) (a := a) (fun p _ v hv => h.env.con hv) hcs
          have hul : us.length = len := by rw [h4, hb1]
          have hfill := Go.Great.fill_whole hb2 us ((Array.range (len * sz)).map (z.cells[· % z.cells.size]!)) h2 (by simp [hul])
          have hm : (parts.map fun (x : Nat × Operand) => match x with | (i, x) => (i, a.eval x)).toList = parts.toList.map fun p => (p.1, a.eval p.2) := by rw [Array.toList_map]
          have hne : ¬ len * sz = 0 := by have := Nat.mul_pos hb4 hb2; omega
          have hng : ¬ len * sz > 2 ^ 24 := by have : (2 : Nat) ^ 24 = 16777216 := by decide
                                               omega
          have : (execOp a.eval ⟨some d, .buildSlice t len parts, ty, pos, after, g⟩).run c.P w = .ok (.value (.slice (some ⟨w.heap.size, 0, none⟩) len len)) (w.alloc (.cells (us.flatMap fun u => u.cells.toList).toArray e)) := by
            simp only [execOp, Instr.buildSlice, Sem.run_bind, run_underlying hu, Result.andThen_ok, hsz, hng, if_false, hne, c.zok e z hz, Sem.run_pure, hm, h1, hfill]
            simp [newRow]
          unfold Oper.wp
          rw [this]
          exact hK _ _ _ (h.newlit h3 e len hd (h.sl0 len))
      · cases hs
    · cases hs
  · -- store
    rename_i t x y
    unfold stV at hs
    split at hs
    · rename_i r off v hx hy
      unfold stW at hs
      split at hs
      · rename_i cs T ds n he hds hn
        cases hb : an (an (Nat.beq ds.length n) (Nat.ble (off + n) cs.length)) (oneL ds) with
        | false => rw [hb] at hs; cases hs
        | true =>
          rw [hb] at hs
          cases hs
          simp only [an_eq, Bool.and_eq_true] at hb
          obtain ⟨⟨hb1, hb2⟩, hb3⟩ := hb
          have hl1 := Nat.eq_of_beq_eq_true hb1
          have hl2 := Nat.le_of_ble_eq_true hb2
          obtain ⟨S, w1, hh⟩ := h.heap
          obtain ⟨lc, b, ccs, h1, h2, h3, h4, h5⟩ := (hh.sh.ok _ (List.mem_map.2 ⟨_, lkE_mem he, rfl⟩)).here
          obtain ⟨lc', A', h1', h2', hp⟩ := pt_con (h.env.con hx)
          simp only at h1
          rw [h1] at h1'; cases h1'
          rw [h2] at h2'; cases h2'
          obtain ⟨dl, hdl, hcells⟩ := V.cells_ok hds (h.env.con hy)
          have hlen := conL_length h4
          have hdlen := conL_length hdl
          have e : (⟨b, 0, none⟩ : Addr).add off = ⟨b, off, none⟩ := by unfold Addr.add; split <;> simp_all
          have hst := run_storeCells_at c.P b off T dl 0 ccs.toArray w h5 (by simp; omega) (List.all_eq_true.1 (oneL_ok hb3 hdl))
          have hsz : ∀ w, (sizeOf t).run c.P w = .ok n w := fun w => TI.cells_size (c.tiok t) hn w
          have : (execOp a.eval ⟨none, .store t x y, ty, pos, after, g⟩).run c.P w = .ok .skip (w.setRow b (ccs.take off ++ dl ++ ccs.drop (off + n)).toArray) := by
            have hs : (a.eval y).cells.size = n := by rw [hcells]; simp; omega
            simp only [execOp, hp, Instr.storeAt, Instr.sureAddr, storeVar, Sem.run_bind, Sem.run_pure, Result.andThen_ok, hsz, hs, ne_eq, not_true_eq_false, if_false, e]
            rw [hcells, show dl.toArray.toList = dl from rfl, hst]
            simp only [Nat.add_zero, hdlen, hl1, Result.andThen_ok]
          unfold Oper.wp
          rw [this]
          refine hK [] _ _ ?_
          rw [List.append_nil]
          refine ⟨h.len, h.env, S, w1, ?_⟩
          show RH c θ (setE r _ σ.E) S w1 _
          rw [setE_put]
          refine hh.turn he rfl rfl rfl (by simp) (fun b' _ hn' => setRow_other w b b' _ ?_) ?_ ?_ ?_ trivial
          · intro e'
            subst e'
            refine hn' ?_
            show b' ∈ locF θ r
            rw [locF_of h1, h3]
            simp
          · intro w2 hw2
            refine ⟨lc, b, _, h1, h2, h3, conL_splice h4 hdl off n, ?_⟩
            exact (hw2 b (by show _ ∈ locF _ _; rw [locF_of h1, h3]; simp)).trans (setRow_heap w b _ _ T _ h5)
          · intro b' hb'
            have hb'' : b' ∈ locF θ r := hb'
            rw [locF_of h1, h3, List.mem_singleton] at hb''
            subst hb''
            refine ⟨.inl (by show _ ∈ locF _ _; rw [locF_of h1, h3]; simp), ?_⟩
            rw [size_setRow]
            exact (Array.getElem?_eq_some_iff.1 h5).1
          · show (locF θ r).Nodup
            rw [locF_of h1, h3]
            simp
      · cases hs
    · cases hs
  all_goals first | exact ptK_ok hs h hK | cases hs
end

/-! ## One operation, whatever region it stands in -/
def OpS (c : Cx) (σ : St) (all : Array Oper) (o : Oper) (σ' : St) : Prop :=
  ∀ θ a w, R c θ σ a w → ∀ (K : Act → World → Prop) (Q : Exit → Act → World → Prop), (∀ η a' w', R c (θ ++ η) σ' a' w' → K a' w') →
    if Region.wanted o (yielded all a.tmps) then o.wp c.P a w K Q else K (a.put o.dst undef) w

theorem R.app0 {c : Cx} {θ : List Loc} {σ : St} {a : Act} {w : World} (h : R c θ σ a w) : R c (θ ++ []) σ a w := by rw [List.append_nil]; exact h

theorem OpS.of {c : Cx} {σ σ' : St} {all : Array Oper} {dst : Option Tmp} {op : Op} {ty : TypeId} {pos : String} {after : Array Edge}
    (h : ∀ θ a w, R c θ σ a w → ∀ (K : Act → World → Prop) (Q : Exit → Act → World → Prop), (∀ η a' w', R c (θ ++ η) σ' a' w' → K a' w') → Oper.wp c.P ⟨dst, op, ty, pos, after, none⟩ a w K Q) : OpS c σ all ⟨dst, op, ty, pos, after, none⟩ σ' := by
  intro θ a w hR K Q hK
  rw [if_pos (by simp [Region.wanted])]
  exact h θ a w hR K Q hK

theorem OpS.st {c : Cx} {σ σ' : St} {all : Array Oper} {dst : Option Tmp} {op : Op} {ty : TypeId} {pos : String} {after : Array Edge} (hs : stO c.ti c.zr σ dst op = some σ') : OpS c σ all ⟨dst, op, ty, pos, after, none⟩ σ' :=
  OpS.of fun θ a w h K Q hK => stO_ok hs h hK

theorem Run.op {c : Cx} {res : List Re} {σ σ' : St} {o : Oper} {r : List Oper} {all : Array Oper} {k : List It} (ho : OpS c σ all o σ') (h : Run c res σ' (.ops r all :: k)) : Run c res σ (.ops (o :: r) all :: k) := by
  intro θ a w hR
  rw [kQ_ops]
  refine wpList_step fun K hK => ?_
  exact ho θ a w hR K _ fun η a' w' h' => hK _ _ (h _ a' w' h')

/-! ## What an operation hangs on -/
def nthO : List Oper → Nat → Option Oper
  | [], _ => none
  | x :: r, k => bif Nat.beq k 0 then some x else nthO r (Nat.pred k)

/-- The value that another operation has left. -/
def grdO (ρ : List (Nat × V)) : Option Oper → Option V
  | some ⟨some t, _, _, _, _, _⟩ => lk ρ t
  | _ => none
def grd (ρ : List (Nat × V)) (all : Array Oper) (j : Nat) : Option V := grdO ρ (nthO all.toList j)

def beqB : Bool → Bool → Bool
  | true, true => true
  | false, false => true
  | _, _ => false

theorem nthO_spec : ∀ {l : List Oper} {k : Nat} {o : Oper}, nthO l k = some o → l[k]? = some o
  | [], _, _, h => by cases h
  | x :: r, 0, o, h => by simpa [nthO] using h
  | x :: r, k + 1, o, h => by simp [nthO] at h; simpa using nthO_spec h

theorem grd_val {c : Cx} {θ : List Loc} {σ : St} {a : Act} {w : World} (h : R c θ σ a w) {all : Array Oper} {j : Nat} {v : V} (hg : grd σ.ρ all j = some v) : ∃ u, v.con θ = some u ∧ yielded all a.tmps j = (match u with | .bool b => some b | _ => none) := by
  unfold grd grdO at hg
  split at hg
  · rename_i t _ _ _ _ _ ho
    have h1 := nthO_spec ho
    rw [Array.getElem?_toList] at h1
    obtain ⟨h2, h3⟩ := h.env.get t _ hg
    refine ⟨_, h2, ?_⟩
    unfold yielded
    simp only [h1, Option.bind_some]
    have hlt : t < a.tmps.size := by rw [h.env.size]; exact h3
    rw [Array.getD_eq_getD_getElem?, Array.getElem?_eq_getElem hlt]
    simp only [Option.getD_some]
    cases a.tmps[t] <;> rfl
  · cases hg
theorem grd_ok {c : Cx} {θ : List Loc} {σ : St} {a : Act} {w : World} (h : R c θ σ a w) {all : Array Oper} {j : Nat} {b : Bool} (hg : grd σ.ρ all j = some (.v (.bool b))) : yielded all a.tmps j = some b := by
  obtain ⟨u, hu, hy⟩ := grd_val h hg
  cases hu
  exact hy

theorem beqB_spec {a b : Bool} (h : beqB a b = true) : a = b := by cases a <;> cases b <;> first | rfl | cases h
theorem beqB_spec' {a b : Bool} (h : beqB a b = false) : a = !b := by cases a <;> cases b <;> first | rfl | cases h

/-- What it hangs on is known, and it is carried out. -/
theorem OpS.on {c : Cx} {σ σ' : St} {all : Array Oper} {dst : Option Tmp} {op : Op} {ty : TypeId} {pos : String} {after : Array Edge} {j : Nat} {b want : Bool} (hg : grd σ.ρ all j = some (.v (.bool b))) (hb : beqB b want = true) (h : OpS c σ all ⟨dst, op, ty, pos, after, none⟩ σ') : OpS c σ all ⟨dst, op, ty, pos, after, some (j, want)⟩ σ' := by
  intro θ a w hR K Q hK
  have hy := grd_ok hR hg
  obtain rfl := beqB_spec hb
  rw [if_pos (by simp [Region.wanted, hy])]
  have := h θ a w hR K Q hK
  rw [if_pos (by simp [Region.wanted])] at this
  exact this
/-- .. and it is passed over. -/
theorem OpS.off {c : Cx} {σ : St} {all : Array Oper} {d : Nat} {op : Op} {ty : TypeId} {pos : String} {after : Array Edge} {j : Nat} {b want : Bool} (hg : grd σ.ρ all j = some (.v (.bool b))) (hb : beqB b want = false) (hd : Nat.blt d σ.n = true) : OpS c σ all ⟨some d, op, ty, pos, after, some (j, want)⟩ (put d (.v undef) σ) := by
  intro θ a w hR K Q hK
  have hy := grd_ok hR hg
  have hb' := beqB_spec' hb
  rw [if_neg (by simp [Region.wanted, hy, hb'])]
  exact hK [] _ _ (hR.put hd (v := .v undef) rfl).app0

/-! ## Operations under a truth that is not known -/
def gBV (want : Bool) : Option V → Option Bool
  | some (.v (.bool b)) => some (wnt want b)
  | some (.gd g (.v (.bool b))) => some (g && wnt want b)
  | _ => none
def gB (ρ : List (Nat × V)) (all : Array Oper) (j : Nat) (want : Bool) : Option Bool := gBV want (grd ρ all j)
theorem wnt_spec {want b : Bool} : (some b == some want) = wnt want b := by cases want <;> cases b <;> rfl
theorem gB_ok {c : Cx} {θ : List Loc} {σ : St} {a : Act} {w : World} (h : R c θ σ a w) {all : Array Oper} {o : Oper} {j : Nat} {want B : Bool} (ho : o.guard = some (j, want)) (hg : gB σ.ρ all j want = some B) : Region.wanted o (yielded all a.tmps) = B := by
  unfold gB gBV at hg
  simp only [Region.wanted, ho]
  split at hg
  · rename_i b hb
    cases hg
    rw [grd_ok h hb]
    exact wnt_spec
  · rename_i g b hb
    cases hg
    obtain ⟨u, hu, hy⟩ := grd_val h hb
    rw [hy]
    cases g with
    | true => simp only [V.con, Option.some.injEq] at hu; subst hu; rw [Bool.true_and]; exact wnt_spec
    | false => simp only [V.con, Option.some.injEq] at hu; subst hu; rfl
  · cases hg

/-- The operation's value where B holds, and what is then to be shown. -/
def gPr (v : Value) (p : Prop) : Option (V × Prop) := some (.v v, p)
def gPw (p : Prop) : Option Value → Option (V × Prop)
  | some r => some (.v r, p)
  | none => none
def gPk (ρ : List (Nat × V)) (B : Bool) (acc : Prop) (c x y : Operand) : Option V → Option V → Option V → Option (V × Prop)
  | some (.v (.bool b)), some u, some v => gPw (sideP B acc ρ [c] ∧ sideP (B && b) True ρ [x] ∧ sideP (B && !b) True ρ [y]) (pickV b x y u v)
  | _, _, _ => none
def gGo (p : Prop) : Option V → Option (V × Prop)
  | some v => some (v, p)
  | none => none
def gOp (ti : Nat → TI) (zr : Nat → Option Value) (ρ : List (Nat × V)) (E : List (Nat × En)) (B : Bool) (op : Op) (acc : Prop) : Option (V × Prop) :=
  match op with
  | .pick c x y => gPk ρ B acc c x y (evG ρ c) (evG ρ x) (evG ρ y)
  | .move x => gGo (sideP B acc ρ [x]) (pv ti zr (evG ρ) (fun _ => none) E (.move x))
  | .assign x => gGo (sideP B acc ρ [x]) (pv ti zr (evG ρ) (fun _ => none) E (.assign x))
  | .binOp o t x y u => gGo (sideP B acc ρ [x, y]) (pv ti zr (evG ρ) (fun _ => none) E (.binOp o t x y u))
  | .unOp o t x => gGo (sideP B acc ρ [x]) (pv ti zr (evG ρ) (fun _ => none) E (.unOp o t x))
  | .load t x => gGo (sideP B acc ρ [x]) (pv ti zr (evG ρ) (fun _ => none) E (.load t x))
  | .fieldAddr t x f => gGo (sideP B acc ρ [x]) (pv ti zr (evG ρ) (fun _ => none) E (.fieldAddr t x f))
  | .build t ps => gGo (sideP B acc ρ (ps.toList.map (·.2))) (pv ti zr (evG ρ) (fun _ => none) E (.build t ps))
  | .nilCheck x => gGo (sideP B acc ρ [x]) (pv ti zr (evG ρ) (fun _ => none) E (.nilCheck x))
  | .extract x i => gGo (sideP B acc ρ [x]) (pv ti zr (evG ρ) (fun _ => none) E (.extract x i))
  | .convert s t x => gGo (sideP B acc ρ [x]) (pv ti zr (evG ρ) (fun _ => none) E (.convert s t x))
  | .call c => gGo (sideP B acc ρ c.operands.toList) (pv ti zr (evG ρ) (fun _ => none) E (.call c))
  | _ => none

theorem side_con {θ : List Loc} {v : V} {B : Bool} {p : Prop} (h : v.side B p) (hB : B = true) : v.con θ = v.strip.con θ ∧ p := by
  cases v with
  | gd b x =>
    obtain ⟨h1, h2⟩ := h
    have := h1 hB
    subst this
    exact ⟨rfl, h2⟩
  | v => exact ⟨rfl, h⟩
  | sl => exact ⟨rfl, h⟩
  | pt => exact ⟨rfl, h⟩
  | ag => exact ⟨rfl, h⟩
  | fn => exact ⟨rfl, h⟩
  | tu => exact ⟨rfl, h⟩
theorem side_acc {v : V} {B : Bool} {p : Prop} (h : v.side B p) : p := by
  cases v with
  | gd b x => exact h.2
  | v => exact h
  | sl => exact h
  | pt => exact h
  | ag => exact h
  | fn => exact h
  | tu => exact h
theorem sideP_acc {B : Bool} {acc : Prop} {ρ : List (Nat × V)} : ∀ {l : List Operand}, sideP B acc ρ l → acc
  | [], h => h
  | x :: r, h => by
    simp only [sideP] at h
    unfold sdV at h
    split at h
    · exact sideP_acc (side_acc h)
    · exact sideP_acc h
theorem evG_con {n : Nat} {θ : List Loc} {ρ : List (Nat × V)} {a : Act} (h : EnvV n θ ρ a) {B : Bool} (hB : B = true) {acc : Prop} : ∀ {l : List Operand}, sideP B acc ρ l → ∀ x ∈ l, ∀ v, evG ρ x = some v → v.con θ = some (a.eval x) ∧ ev? (selfρ a) x = some (a.eval x)
  | [], _, x, hx, _, _ => by cases hx
  | y :: r, hp, x, hx, v, hv => by
    simp only [sideP] at hp
    unfold sdV at hp
    rcases List.mem_cons.1 hx with rfl | hx
    · unfold evG stO' at hv
      split at hv
      · rename_i u hu
        cases hv
        rw [hu] at hp
        have := (side_con (θ := θ) hp hB).1
        rw [← this]
        exact ⟨h.con hu, h.ev1 hu⟩
      · cases hv
    · split at hp
      · exact evG_con h hB (side_acc hp) x hx v hv
      · exact evG_con h hB hp x hx v hv

theorem gOp_ok {c : Cx} {θ : List Loc} {σ : St} {a : Act} {w : World} (h : R c θ σ a w) {B : Bool} (hB : B = true) {op : Op} {ty : TypeId} {acc : Prop} {v : V} {p : Prop} (hv : gOp c.ti c.zr σ.ρ σ.E B op acc = some (v, p)) (hp : p) : ∃ u, v.con θ = some u ∧ Yields c.P a w op ty u := by
  have gen : ∀ op l, op.operands.toList = l → gGo (sideP B acc σ.ρ l) (pv c.ti c.zr (evG σ.ρ) (fun _ => none) σ.E op) = some (v, p) → ∃ u, v.con θ = some u ∧ Yields c.P a w op ty u := by
    intro op l hl hv
    unfold gGo at hv
    split at hv
    · rename_i v' hv'
      cases hv
      exact pv_okE h ⟨fun x hx v hv => evG_con h.env hB hp x (by rw [← hl]; exact hx) v hv, fun xs _ vs hvs => by cases hvs⟩ hv'
    · cases hv
  cases op with
  | pick cc x y =>
    simp only [gOp] at hv
    unfold gPk at hv
    split at hv
    · rename_i b u u' hc hx hy
      unfold gPw at hv
      split at hv
      · rename_i r hr
        cases hv
        obtain ⟨p1, p2, p3⟩ := hp
        have h1 := (evG_con h.env hB p1 cc (by simp) _ hc)
        have hcc : ev? (selfρ a) cc = some (.bool b) := by
          have := h1.1
          simp only [V.con, Option.some.injEq] at this
          rw [this]; exact h1.2
        refine ⟨r, rfl, ?_⟩
        cases hb : b with
        | true =>
          have h2 := evG_con h.env (B := B && b) (by simp [hB, hb]) p2 x (by simp) _ hx
          have : u.con θ = some r := by
            unfold pickV at hr
            split at hr
            · cases hx; split at hr
              · cases hr; subst hb; rfl
              · cases hr
            · split at hr
              · cases hr; subst hb; simp [V.con]
              · cases hr
            · split at hr
              · cases hr; subst hb; rfl
              · cases hr
          rw [this] at h2
          exact y_pick_t h.env.env hcc hb (by rw [h2.2, ← h2.1])
        | false =>
          have h2 := evG_con h.env (B := B && !b) (by simp [hB, hb]) p3 y (by simp) _ hy
          have : u'.con θ = some r := by
            unfold pickV at hr
            split at hr
            · split at hr
              · cases hr; subst hb; simp [V.con]
              · cases hr
            · cases hy; split at hr
              · cases hr; subst hb; rfl
              · cases hr
            · split at hr
              · cases hr; subst hb; rfl
              · cases hr
          rw [this] at h2
          exact y_pick_f h.env.env hcc hb (by rw [h2.2, ← h2.1])
      · cases hv
    · cases hv
  | move => exact gen _ _ (by simp [Op.operands]) hv
  | assign => exact gen _ _ (by simp [Op.operands]) hv
  | binOp => exact gen _ _ (by simp [Op.operands]) hv
  | unOp => exact gen _ _ (by simp [Op.operands]) hv
  | load => exact gen _ _ (by simp [Op.operands]) hv
  | fieldAddr => exact gen _ _ (by simp [Op.operands]) hv
  | build => exact gen _ _ (by simp [Op.operands]) hv
  | nilCheck => exact gen _ _ (by simp [Op.operands]) hv
  | extract => exact gen _ _ (by simp [Op.operands]) hv
  | convert => exact gen _ _ (by simp [Op.operands]) hv
  | call => exact gen _ _ (by simp [Op.operands]) hv
  | _ => cases hv

theorem OpS.g0 {c : Cx} {σ : St} {all : Array Oper} {d : Nat} {op : Op} {ty : TypeId} {pos : String} {after : Array Edge} {acc : Prop} {v : V} {p : Prop} (hv : gOp c.ti c.zr σ.ρ σ.E true op acc = some (v, p)) (hp : p) (hd : Nat.blt d σ.n = true) : OpS c σ all ⟨some d, op, ty, pos, after, none⟩ (put d v σ) :=
  OpS.of fun θ a w h K Q hK => by
    obtain ⟨u, hu, hy⟩ := gOp_ok h rfl (ty := ty) hv hp
    unfold Oper.wp
    rw [hy]
    exact hK [] _ _ (h.put hd hu).app0
theorem OpS.g1 {c : Cx} {σ : St} {all : Array Oper} {d : Nat} {op : Op} {ty : TypeId} {pos : String} {after : Array Edge} {j : Nat} {want B : Bool} (hg : gB σ.ρ all j want = some B) {acc : Prop} {v : V} {p : Prop} (hv : gOp c.ti c.zr σ.ρ σ.E B op acc = some (v, p)) (hp : p) (hd : Nat.blt d σ.n = true) : OpS c σ all ⟨some d, op, ty, pos, after, some (j, want)⟩ (put d (.gd B v) σ) := by
  intro θ a w h K Q hK
  have hw := gB_ok h (o := ⟨some d, op, ty, pos, after, some (j, want)⟩) rfl hg
  rw [hw]
  cases B with
  | true =>
    rw [if_pos rfl]
    obtain ⟨u, hu, hy⟩ := gOp_ok h rfl (ty := ty) hv hp
    unfold Oper.wp
    rw [hy]
    exact hK [] _ _ (h.put hd (v := .gd true v) hu).app0
  | false =>
    rw [if_neg (by simp)]
    exact hK [] _ _ (h.put hd (v := .gd false v) rfl).app0

/-! ## The road -/
def toBlk (id : Nat) : List It → Option (List It)
  | [] => none
  | .blk i :: k => bif Nat.beq i id then some k else toBlk id k
  | .code _ :: k => toBlk id k
  | .ops _ _ :: k => toBlk id k
  | .goal _ :: k => toBlk id k

def stK (σ : St) : Option (List It) → Option (St × List It)
  | some k => some (σ, k)
  | none => none
def cdK (σ : St) (y z : Code) (k : List It) : Option V → Option (St × List It)
  | some (.v (.bool true)) => some (σ, .code y :: k)
  | some (.v (.bool false)) => some (σ, .code z :: k)
  | _ => none
def opK (r : List Oper) (all : Array Oper) (k : List It) : Option St → Option (St × List It)
  | some σ => some (σ, .ops r all :: k)
  | none => none
def gdK (σ : St) (d : Nat) (want : Bool) (o : Oper) (r : List Oper) (all : Array Oper) (k : List It) : Option V → Option (St × List It)
  | some (.v (.bool b)) => bif beqB b want then some (σ, .ops (o :: r) all :: k)
      else bif Nat.blt d σ.n then some (put d (.v undef) σ, .ops r all :: k) else none
  | some (.v (.tuple _)) => bif Nat.blt d σ.n then some (put d (.v undef) σ, .ops r all :: k) else none
  | _ => none

def adv1 (ti : Nat → TI) (zr : Nat → Option Value) (σ : St) : List It → Option (St × List It)
  | .code (.seq x y) :: k => some (σ, .code x :: .code y :: k)
  | .code .skip :: k => some (σ, k)
  | .code (.block id b) :: k => some (σ, .code b :: .blk id :: k)
  | .blk _ :: k => some (σ, k)
  | .code (.exit id) :: k => stK σ (toBlk id k)
  | .code (.region _ ops false) :: k => some (σ, .ops ops.toList ops :: k)
  | .code (.cond x y z) :: k => cdK σ y z k (ev σ.ρ x)
  | .ops [] _ :: k => some (σ, k)
  | .ops (⟨dst, op, _, _, _, none⟩ :: r) all :: k => opK r all k (stO ti zr σ dst op)
  | .ops (⟨some d, op, ty, pos, after, some (j, want)⟩ :: r) all :: k => gdK σ d want ⟨some d, op, ty, pos, after, none⟩ r all k (grd σ.ρ all j)
  | _ => none

theorem toBlk_ok {c : Cx} {res : List Re} {id : Nat} {a : Act} {w : World} : ∀ {k k' : List It}, toBlk id k = some k' → kQ c res k' .normal a w → kQ c res k (.exit id) a w
  | [], _, h, _ => by cases h
  | .blk i :: k, k', h, hq => by
    simp only [toBlk] at h
    show Exit.inBlock i (kQ c res k) (.exit id) a w
    simp only [Exit.inBlock]
    by_cases hb : Nat.beq i id = true
    · rw [hb] at h
      cases h
      obtain rfl := Nat.eq_of_beq_eq_true hb
      rw [if_pos rfl]
      exact hq
    · rw [Bool.not_eq_true] at hb
      rw [hb] at h
      have hne : ¬ id = i := fun e => by subst e; simp at hb
      rw [if_neg hne]
      exact toBlk_ok h hq
  | .code _ :: k, k', h, hq => toBlk_ok (k := k) h hq
  | .ops _ _ :: k, k', h, hq => toBlk_ok (k := k) h hq
  | .goal _ :: k, k', h, hq => toBlk_ok (k := k) h hq

theorem Run.on {c : Cx} {res : List Re} {σ : St} {dst : Option Tmp} {op : Op} {ty : TypeId} {pos : String} {after : Array Edge} {j : Nat} {b want : Bool} {r : List Oper} {all : Array Oper} {k : List It} (hg : grd σ.ρ all j = some (.v (.bool b))) (hb : beqB b want = true) (h : Run c res σ (.ops (⟨dst, op, ty, pos, after, none⟩ :: r) all :: k)) : Run c res σ (.ops (⟨dst, op, ty, pos, after, some (j, want)⟩ :: r) all :: k) := by
  intro θ a w hR
  have := h θ a w hR
  rw [kQ_ops] at this ⊢
  have hy := grd_ok hR hg
  obtain rfl := beqB_spec hb
  unfold wpList at this ⊢
  rw [if_pos (by simp [Region.wanted])] at this
  rw [if_pos (by simp [Region.wanted, hy])]
  exact this

theorem Run.adv1 {c : Cx} {res : List Re} {σ σ' : St} {k k' : List It} (hs : adv1 c.ti c.zr σ k = some (σ', k')) (h : Run c res σ' k') : Run c res σ k := by
  unfold Fw.adv1 at hs
  split at hs
  · cases hs; exact fun θ a w hR => wp_seq (h θ a w hR)
  · cases hs; exact fun θ a w hR => wp_skip (h θ a w hR)
  · cases hs; exact fun θ a w hR => wp_block (h θ a w hR)
  · cases hs; exact fun θ a w hR => h θ a w hR
  · unfold stK at hs
    split at hs
    · rename_i hb
      cases hs
      exact fun θ a w hR => wp_exit (toBlk_ok hb (h θ a w hR))
    · cases hs
  · cases hs; exact fun θ a w hR => wp_region_list (h θ a w hR)
  · unfold cdK at hs
    split at hs
    · rename_i hx
      cases hs
      exact fun θ a w hR => wp_cond_true (Option.some.inj (hR.env.con hx)).symm (h θ a w hR)
    · rename_i hx
      cases hs
      exact fun θ a w hR => wp_cond_false (Option.some.inj (hR.env.con hx)).symm (h θ a w hR)
    · cases hs
  · cases hs; exact fun θ a w hR => h θ a w hR
  · unfold opK at hs
    split at hs
    · rename_i hst
      cases hs
      exact Run.op (OpS.st hst) h
    · cases hs
  · unfold gdK at hs
    split at hs
    · rename_i b hg
      cases hb : beqB b _ with
      | true =>
        rw [hb] at hs
        cases hs
        exact Run.on hg hb h
      | false =>
        rw [hb] at hs
        simp only [cond_false] at hs
        cases hd : Nat.blt _ σ.n with
        | false => rw [hd] at hs; cases hs
        | true =>
          rw [hd] at hs
          cases hs
          exact Run.op (OpS.off hg hb hd) h
    · rename_i t hg
      cases hd : Nat.blt _ σ.n with
      | false => rw [hd] at hs; cases hs
      | true =>
        rw [hd] at hs
        cases hs
        refine Run.op (fun θ a w hR K Q hK => ?_) h
        obtain ⟨u, hu, hy⟩ := grd_val hR hg
        cases hu
        rw [if_neg (by simp [Region.wanted, hy])]
        exact hK [] _ _ (hR.put hd (v := .v undef) rfl).app0
    · cases hs
  · cases hs

def advN (ti : Nat → TI) (zr : Nat → Option Value) : Nat → Option (St × List It) → Option (St × List It)
  | 0, x => x
  | n + 1, some (σ, k) => advN ti zr n (adv1 ti zr σ k)
  | _ + 1, none => none
theorem advN_none {ti : Nat → TI} {zr : Nat → Option Value} : ∀ (n : Nat), advN ti zr n none = none
  | 0 => rfl
  | _ + 1 => rfl

theorem Run.advN {c : Cx} {res : List Re} : ∀ (n : Nat) {σ σ' : St} {k k' : List It}, advN c.ti c.zr n (some (σ, k)) = some (σ', k') → Run c res σ' k' → Run c res σ k
  | 0, _, _, _, _, hs, h => by cases hs; exact h
  | n + 1, σ, σ', k, k', hs, h => by
    simp only [Fw.advN] at hs
    cases h1 : Fw.adv1 c.ti c.zr σ k with
    | none => rw [h1, advN_none] at hs; cases hs
    | some x =>
      obtain ⟨σ1, k1⟩ := x
      rw [h1] at hs
      exact Run.adv1 h1 (Run.advN n hs h)

/-- .. under truths that are not known. -/
def gK (σ : St) (d : Nat) (r : List Oper) : Option (V × Prop) → Option (St × List Oper × Prop)
  | some (v, q) => bif Nat.blt d σ.n then some (put d v σ, r, q) else none
  | none => none
def gK1 (B : Bool) : Option (V × Prop) → Option (V × Prop)
  | some (v, q) => some (.gd B v, q)
  | none => none
def gK2 (ti : Nat → TI) (zr : Nat → Option Value) (ρ : List (Nat × V)) (E : List (Nat × En)) (op : Op) (p : Prop) : Option Bool → Option (V × Prop)
  | some B => gK1 B (gOp ti zr ρ E B op p)
  | none => none
def adG1 (ti : Nat → TI) (zr : Nat → Option Value) (σ : St) (all : Array Oper) (p : Prop) : List Oper → Option (St × List Oper × Prop)
  | ⟨some d, op, _, _, _, none⟩ :: r => gK σ d r (gOp ti zr σ.ρ σ.E true op p)
  | ⟨some d, op, _, _, _, some (j, want)⟩ :: r => gK σ d r (gK2 ti zr σ.ρ σ.E op p (gB σ.ρ all j want))
  | _ => none
def adG (ti : Nat → TI) (zr : Nat → Option Value) (all : Array Oper) : Nat → Option (St × List Oper × Prop) → Option (St × List Oper × Prop)
  | 0, x => x
  | n + 1, some (σ, l, p) => adG ti zr all n (adG1 ti zr σ all p l)
  | _ + 1, none => none
theorem adG_none {ti : Nat → TI} {zr : Nat → Option Value} {all : Array Oper} : ∀ (n : Nat), adG ti zr all n none = none
  | 0 => rfl
  | _ + 1 => rfl

theorem gGo_acc {B : Bool} {acc : Prop} {ρ : List (Nat × V)} {l : List Operand} {o : Option V} {v : V} {p : Prop} (hv : gGo (sideP B acc ρ l) o = some (v, p)) (hp : p) : acc := by
  unfold gGo at hv
  split at hv
  · cases hv; exact sideP_acc hp
  · cases hv
theorem gOp_acc {ti : Nat → TI} {zr : Nat → Option Value} {ρ : List (Nat × V)} {E : List (Nat × En)} {B : Bool} {op : Op} {acc : Prop} {v : V} {p : Prop} (hv : gOp ti zr ρ E B op acc = some (v, p)) (hp : p) : acc := by
  unfold gOp at hv
  split at hv
  · unfold gPk at hv
    split at hv
    · unfold gPw at hv
      split at hv
      · cases hv; exact sideP_acc hp.1
      · cases hv
    · cases hv
  all_goals first | exact gGo_acc hv hp | cases hv
theorem adG1_ok {c : Cx} {res : List Re} {σ σ' : St} {l l' : List Oper} {all : Array Oper} {k : List It} {p q : Prop} (hs : adG1 c.ti c.zr σ all p l = some (σ', l', q)) (hq : q) : p ∧ (Run c res σ' (.ops l' all :: k) → Run c res σ (.ops l all :: k)) := by
  unfold adG1 at hs
  split at hs
  · unfold gK at hs
    split at hs
    · rename_i v q' hv
      cases hd : Nat.blt _ σ.n with
      | false => rw [hd] at hs; cases hs
      | true =>
        rw [hd] at hs
        cases hs
        exact ⟨gOp_acc hv hq, fun h => Run.op (OpS.g0 hv hq hd) h⟩
    · cases hs
  · unfold gK at hs
    split at hs
    · rename_i v q' hv
      unfold gK2 at hv
      split at hv
      · rename_i B hB
        unfold gK1 at hv
        split at hv
        · rename_i v1 q1 hv1
          cases hv
          cases hd : Nat.blt _ σ.n with
          | false => rw [hd] at hs; cases hs
          | true =>
            rw [hd] at hs
            cases hs
            exact ⟨gOp_acc hv1 hq, fun h => Run.op (OpS.g1 hB hv1 hq hd) h⟩
        · cases hv
      · cases hv
    · cases hs
  · cases hs
theorem adG_ok {c : Cx} {res : List Re} {all : Array Oper} {k : List It} : ∀ {n : Nat} {σ σ' : St} {l l' : List Oper} {p q : Prop}, adG c.ti c.zr all n (some (σ, l, p)) = some (σ', l', q) → q → p ∧ (Run c res σ' (.ops l' all :: k) → Run c res σ (.ops l all :: k))
  | 0, _, _, _, _, _, _, hs, hq => by cases hs; exact ⟨hq, id⟩
  | n + 1, σ, σ', l, l', p, q, hs, hq => by
    simp only [adG] at hs
    cases h1 : adG1 c.ti c.zr σ all p l with
    | none => rw [h1, adG_none] at hs; cases hs
    | some x =>
      obtain ⟨σ1, r, q1⟩ := x
      rw [h1] at hs
      obtain ⟨hq1, h2⟩ := adG_ok (res := res) (k := k) hs hq
      obtain ⟨hp, h3⟩ := adG1_ok (res := res) (k := k) h1 hq1
      exact ⟨hp, fun h => h3 (h2 h)⟩
theorem Run.adG {c : Cx} {res : List Re} {all : Array Oper} {k : List It} (n : Nat) {σ σ' : St} {l l' : List Oper} {q : Prop} (hs : adG c.ti c.zr all n (some (σ, l, True)) = some (σ', l', q)) (hq : q) (h : Run c res σ' (.ops l' all :: k)) : Run c res σ (.ops l all :: k) := (adG_ok hs hq).2 h
end Go.Proofs.YtmjjcihoobnbgaaDoor.Fw
