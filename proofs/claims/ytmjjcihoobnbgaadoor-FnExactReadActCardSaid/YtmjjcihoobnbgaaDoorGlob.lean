/-
  Package variables that stand as laid, and the steps that read them. Needs: the laid reading of the variable.
-/
import Derived.Test.YtmjjcihoobnbgaaDoorOwn
import Derived.OpenShut
import Derived.FnData
import Derived.ChangeArms
import Derived.ChangeOld
import Derived.Carry
namespace Go.Proofs.YtmjjcihoobnbgaaDoor.Fw
open Go.RowKit
set_option linter.unusedVariables false
set_option linter.unusedSimpArgs false

/-- The package variable g holds these cells, and no others. -/
def GV (g : Nat) (cs : List Value) (w : World) : Prop := ∃ (T : TypeId) (fr : Nat × Nat), w.heap[g]? = some (.cells cs.toArray T fr)
theorem GV.lt {g : Nat} {cs : List Value} {w : World} (h : GV g cs w) : g < w.heap.size := by
  obtain ⟨T, fr, h⟩ := h
  exact (Array.getElem?_eq_some_iff.1 h).1
theorem GV.cells {g : Nat} {cs : List Value} {w : World} (h : GV g cs w) : CellsAt w ⟨g, 0, none⟩ cs := by
  obtain ⟨T, fr, h⟩ := h
  exact CellsAt.row h
theorem GV.sh {g : Nat} {cs : List Value} {w0 w : World} {L : List Ck} (hS : SH (Old w0) w0 w L) (h : GV g cs w0) : GV g cs w := by
  have hl := h.lt
  obtain ⟨T, fr, h⟩ := h
  exact ⟨T, fr, (hS.keep.block g hl).trans h⟩
theorem GV.var {P : Program} {nm : String} {g : Nat} {cs : List Value} {w : World} (h : GV g cs w) (hg : P.globalNamed nm = some g) : w.var? P nm = some cs.toArray := by
  obtain ⟨T, fr, h⟩ := h
  simp only [World.var?, hg, Option.bind_some, h]
theorem add_row (g i : Nat) : (⟨g, 0, none⟩ : Addr).add i = ⟨g, i, none⟩ := by
  unfold Addr.add
  split <;> simp_all
/-- One element. -/
theorem GV.elem {g : Nat} {α : Type} [Inhabited α] {mk : α → Value} {xs : List α} {w0 w : World} {L : List Ck} (hS : SH (Old w0) w0 w L) (h : GV g (xs.map mk) w0) {k : Nat} (hk : k < xs.length) : CellsAt w ((⟨g, 0, none⟩ : Addr).add k) [mk (nth xs k)] := by
  intro j v hj
  have hj0 : j = 0 := by
    rcases j with _ | j
    · rfl
    · simp at hj
  subst hj0
  simp only [List.getElem?_cons_zero, Option.some.injEq] at hj
  subst hj
  rw [Addr.add_zero']
  refine (GV.sh hS h).cells k _ ?_
  rw [List.getElem?_map, List.getElem?_eq_getElem hk]
  simp [nth, List.getD_eq_getElem?_getD, hk]

section
variable {P : Program} {n : Nat} {ρ : List (Nat × Value)} {a : Act} {w : World} {ty : TypeId}
theorem chkArr_spec {t len e : Nat} (ht : chkArr P t len e = true) : P.underlying t = some (.array len e) ∧ ∀ w, (sizeOf e).run P w = .ok 1 w := by
  unfold chkArr at ht
  simp only [Bool.and_eq_true] at ht
  obtain ⟨h1, h2⟩ := ht
  refine ⟨?_, chkOne_size h2⟩
  cases hu : P.underlying t with
  | none => simp [hu] at h1
  | some d =>
    cases d with
    | array n' e' => rw [hu] at h1; simp only [Bool.and_eq_true] at h1; rw [Nat.eq_of_beq_eq_true h1.1, Nat.eq_of_beq_eq_true h1.2]
    | _ => simp [hu] at h1
/-- The address of an element of an array in a variable. -/
theorem y_indexArrAddr (hE : Env n ρ a) {x y : Operand} {t len e : Nat} {A : Addr} {i : Int} {k : Nat} (hx : ev? ρ x = some (.pointer (some A))) (hy : ev? ρ y = some (.int .i64 i)) (hi : i = k) (hk : k < len)
    (ht : chkArr P t len e = true) : Yields P a w (.indexAddr t x y) ty (.pointer (some ((A.add k).add 0))) := by
  intro _ _ _ _
  obtain ⟨hu, hz⟩ := chkArr_spec ht
  subst hi
  have hb : (0 : Int) ≤ (k : Int) ∧ (k : Int) < (len : Int) := by omega
  simp [execOp, hE.eval hx, hE.eval hy, Instr.indexAt, Instr.sureAddr, asIntOf, run_underlying hu, hz, hk, Addr.add_zero']
end

section
variable {P : Program} {W : World} {H : Type} {enc : TypeId × Value → H} {sp : Nat → Bool} {b : Bool} {fuel t n e g : Nat} {x : List MemPlace} {cs : Array Value} {nm : String}
theorem var_lt (hg : P.globalNamed nm = some g) (hv : W.var? P nm = some cs) : g < W.heap.size := by
  simp only [World.var?, hg, Option.bind_some] at hv
  rcases Nat.lt_or_ge g W.heap.size with h | h
  · exact h
  · rw [Array.getElem?_eq_none h] at hv
    simp at hv
theorem var_gv {cs' : List Value} (hg : P.globalNamed nm = some g) (hv : W.var? P nm = some cs) (hc : cs.toList = cs') : GV g cs' W := by
  simp only [World.var?, hg, Option.bind_some] at hv
  have e : cs = cs'.toArray := by rw [← hc]
  cases hh : W.heap[g]? with
  | none => rw [hh] at hv; simp at hv
  | some o =>
    rw [hh] at hv
    cases o with
    | cells c T fr => simp only [Option.some.injEq] at hv; subst hv; exact ⟨T, fr, by rw [hh, e]⟩
    | _ => simp at hv
theorem GV_list {α : Type} {mk : α → Value} {lit : α → DataW H} {names : List α} (hg : P.globalNamed nm = some g) (hu : P.underlying t = some (.array n e)) (hc : P.cellsOf e = 1) (hct : P.cellsOf t = n) (hv : W.var? P nm = some cs)
    (hd : DataW.trod enc P W 0 sp b fuel t cs.toList = some (.agg (names.map lit), x))
    (hone : ∀ (m : Nat) (c : List Value) (y : DataW H × List MemPlace) (s : α), DataW.trod enc P W 0 sp b m e c = some y → y.1 = lit s → c = [mk s]) : GV g (names.map mk) W := by
  refine var_gv hg hv ?_
  obtain ⟨xs, m, rfl, hx, hlen, hn, hel⟩ := DataW.trod_array hu hd
  simp only [Prod.mk.injEq, DataW.agg.injEq] at hx
  have hnl : names.length = n := by
    have := congrArg List.length hx.1
    simp only [List.length_map] at this
    omega
  apply List.ext_getElem?
  intro j
  rcases Nat.lt_or_ge j n with hj | hj
  · have hxj : xs[j]? = some xs[j] := List.getElem?_eq_getElem (by omega)
    have hsj : names[j]? = some names[j] := List.getElem?_eq_getElem (by omega)
    have h1 := congrArg (·[j]?) hx.1
    simp only [List.getElem?_map, hsj, hxj, Option.map_some, Option.some.injEq] at h1
    have e1 := hone _ _ _ _ ((hel j hj).trans hxj) h1.symm
    rw [hc, Nat.mul_one] at e1
    have := congrArg (·[0]?) e1
    simp only [List.getElem?_take, List.getElem?_drop, Nat.zero_lt_one, if_true, Nat.add_zero, List.getElem?_cons_zero] at this
    rw [this, List.getElem?_map, hsj]
    rfl
  · rw [List.getElem?_eq_none (by omega), List.getElem?_eq_none (by rw [List.length_map]; omega)]
theorem GV_strs {names : List ByteArray} (hg : P.globalNamed nm = some g) (hu : P.underlying t = some (.array n e)) (he : P.underlying e = some .string) (hc : P.cellsOf e = 1) (hct : P.cellsOf t = n) (hv : W.var? P nm = some cs)
    (hd : DataW.trod enc P W 0 sp b fuel t cs.toList = some (.agg (names.map fun s => .lit (.string s.data.toList)), x)) : GV g (names.map .string) W := by
  refine GV_list hg hu hc hct hv hd fun m c y s h1 h2 => ?_
  obtain ⟨s', e1, e2, _⟩ := DataW.trod_string he h1
  rw [e2] at h2
  simp only [DataW.lit.injEq, Lit.string.injEq] at h2
  rw [e1]
  obtain ⟨⟨l⟩⟩ := s
  obtain ⟨⟨l'⟩⟩ := s'
  simp at h2
  rw [h2]
theorem GV_ints {k : IntKind} {names : List Int} (hg : P.globalNamed nm = some g) (hu : P.underlying t = some (.array n e)) (he : P.underlying e = some (.int k)) (hc : P.cellsOf e = 1) (hct : P.cellsOf t = n) (hv : W.var? P nm = some cs)
    (hd : DataW.trod enc P W 0 sp b fuel t cs.toList = some (.agg (names.map fun s => .lit (.int k s)), x)) : GV g (names.map (.int k)) W := by
  refine GV_list hg hu hc hct hv hd fun m c y s h1 h2 => ?_
  obtain ⟨s', e1, e2, _⟩ := DataW.trod_int he h1
  rw [e2] at h2
  simp only [DataW.lit.injEq, Lit.int.injEq, true_and] at h2
  rw [e1, h2]
end
theorem nth_good_str {xs : List ByteArray} (h : xs.all (fun s => Nat.ble s.size 1000) = true) (k : Nat) : (nth xs k).size ≤ maxLen := by
  rcases Nat.lt_or_ge k xs.length with hk | hk
  · have e : nth xs k = xs[k] := by simp [nth, List.getD_eq_getElem?_getD, hk]
    rw [e]
    have := Nat.le_of_ble_eq_true (List.all_eq_true.1 h _ (List.getElem_mem hk))
    unfold maxLen
    omega
  · have e : nth xs k = default := by simp [nth, List.getD_eq_getElem?_getD, List.getElem?_eq_none hk]
    rw [e]
    exact Nat.zero_le _
section
variable {P : Program} {W : World} {H : Type} {enc : TypeId × Value → H} {sp : Nat → Bool}
theorem trodVars_cons {n : String} {ns : List String} {gs : List (DataW H)} {ps : List MemPlace} (h : DataW.TrodVars enc P W sp (n :: ns) gs ps) : ∃ g gs' q, gs = g :: gs' ∧ DataW.TrodVars enc P W sp ns gs' q := by
  cases gs with
  | nil => simp [DataW.TrodVars] at h
  | cons g gs => obtain ⟨_, _, _, _, _, q, _, _, _, _, h, _⟩ := h; exact ⟨g, gs, q, rfl, h⟩
theorem trodVars_end {gs : List (DataW H)} {ps : List MemPlace} (h : DataW.TrodVars enc P W sp [] gs ps) : gs = [] := by
  cases gs with
  | nil => rfl
  | cons g gs => simp [DataW.TrodVars] at h
end

/-- Each named variable's type is a readable row of the table. -/
def rowedB (P : Program) (ns : List String) : Bool := ns.all fun n => match P.globalNamed n with
  | some g => (match P.globals[g]? with | some gl => P.readableRec gl.type && Nat.blt gl.type P.types.size | none => false)
  | none => false
open Go.WideElems in
/-- Named variables read after a call that leaves the old heap as it is what they read before. -/
theorem vars_below {H : Type} {enc : TypeId × Value → H} {P : Program} (hl : laidOutB P = true) {W W' : World} (hb : Below W.heap.size W W') (ns : List String) :
    ∀ {gs : List (DataW H)} {ps : List MemPlace}, rowedB P ns = true → DataW.TrodVars enc P W (fun _ => true) ns gs ps → DataW.TrodVars enc P W' (fun b => decide (b < W.heap.size)) ns gs ps := by
  induction ns with
  | nil => intro gs ps _ h; cases gs with
    | nil => exact h
    | cons _ _ => exact h.elim
  | cons n ns ih =>
    intro gs ps hv h
    cases gs with
    | nil => exact h.elim
    | cons d ds =>
      have hlt := DataW.TrodVars.lt h
      obtain ⟨g, t, cs, fuel, p, q, h1, h2, h3, h4, hs, e⟩ := h
      simp only [rowedB, List.all_cons, Bool.and_eq_true, h1] at hv
      obtain ⟨hv1, hv2⟩ := hv
      have ht : P.readableRec t = true ∧ t < P.types.size := by
        cases hg : P.globals[g]? with
        | none => rw [hg] at h2; cases h2
        | some gl =>
          rw [hg] at h2 hv1
          simp only [Option.map_some, Option.some.injEq] at h2
          subst h2
          simp only [Bool.and_eq_true] at hv1
          exact ⟨hv1.1, by simpa using hv1.2⟩
      have hgl : g < W.heap.size := var_lt h1 h3
      refine ⟨g, t, cs, fuel, p, q, h1, h2, ?_, ?_, ih hv2 hs, e⟩
      · rw [← h3]
        unfold World.var?
        rw [h1]
        simp only [Option.bind_some]
        rw [hb.block g hgl]
      · have hp : ∀ x ∈ p, x.block < W.heap.size := fun x hx => hlt x (by rw [e]; simp [hx])
        exact DataW.trod_stays (kids_book hl ht.1) (book_sized ht.1) (fun h => by cases h) ⟨ht.2, book_self t⟩ h4 (fun x hx => hb.same (hp x hx)) (fun x hx => by simpa using hp x hx)
end Go.Proofs.YtmjjcihoobnbgaaDoor.Fw
