/-
  The abstract machine: calls that hand back an error. No condition: every lemma is general in the program.
-/
import Derived.Test.YtmjjcihoobnbgaaDoorAm14
import Derived.WideLaws
namespace Go.Proofs.YtmjjcihoobnbgaaDoor.Fw
open Go.RowKit
set_option linter.unusedVariables false
set_option maxRecDepth 100000

theorem cutS_le (s : ByteArray) (l h : Nat) : (cutS s l h).size ≤ s.size := by
  unfold cutS
  rw [ByteArray.size_extract]
  omega
theorem cutS_good {s : ByteArray} {l h : Nat} (hs : s.size ≤ 9223372036854775807) : Dat.good (cutS s l h) := Nat.le_trans (cutS_le s l h) hs
theorem good_nths {xs : List ByteArray} (h : Dat.good xs) (k : Nat) : (nth xs k).size ≤ maxLen := by
  rcases Nat.lt_or_ge k xs.length with hk | hk
  · exact good_nth h hk
  · unfold nth
    rw [List.getD_eq_getElem?_getD, List.getElem?_eq_none hk]
    exact Nat.zero_le _
/-- A package variable that holds an error. -/
def GE (g : Nat) (w : World) : Prop := ∃ te pe, w.cell? ⟨g, 0, none⟩ = some (.iface te pe)
theorem GE.lt {g : Nat} {w : World} (h : GE g w) : g < w.heap.size := by
  obtain ⟨te, pe, h⟩ := h
  exact World.block_lt_of_cell? _ _ h
theorem GE.keep {g : Nat} {w w' : World} (h : GE g w) (hk : Keep (Old w) w w') : GE g w' := by
  have hl := h.lt
  obtain ⟨te, pe, h⟩ := h
  refine ⟨te, pe, ?_⟩
  rw [← h]
  unfold World.cell?
  rw [show w'.heap[(⟨g, 0, none⟩ : Addr).block]? = w.heap[(⟨g, 0, none⟩ : Addr).block]? from hk.block g hl]

/-- An error value: none, or one. -/
def ErrIs (ok : Bool) (u : Value) : Prop := match ok with
  | true => u = .nilIface
  | false => ∃ t v, u = .iface t v
/-- The contract of a function that hands back an error among its results. -/
def CTE (P : Program) (G : World → Prop) (f : FuncId) (args : List Arg) (res : Value → List Re) (ok : Bool) : Prop :=
  ∀ (w : World) (vs : List Value), G w → ArgsR w vs args → Calls P f vs.toArray w (fun e w' => ∃ u, ErrIs ok u ∧ ∃ v, e = .returned v ∧ ResR (Old w) w w' v (res u))

theorem Run.callE {c : Cx} {R0 : List Re} {res : Value → List Re} {ok : Bool} {σ : St} {k : List It} {f : FuncId} {x : Operand} {cs : List V} {xs : Array Operand} {ts : Array TypeId} {ty : TypeId} {pos : String} {after : Array Edge} {d : Nat} {r : List Oper} {all : Array Oper} {args : List Arg} {vs : List V}
    (hct : CTE c.P c.G f args res ok) (hfn : FnOk c.P f) (hx : ev σ.ρ x = some (.fn f cs)) (hev : evs σ.ρ xs.toList = some vs) (hargs : ArgsOk σ.E (vs ++ cs) args) (hd : Nat.blt d σ.n = true)
    (hk : ∀ u, ErrIs ok u → Run c R0 (afterCall σ d (res u)) (.ops r all :: k)) :
    Run c R0 σ (.ops (⟨some d, .call { callee := .value x, args := xs, argTypes := ts }, ty, pos, after, none⟩ :: r) all :: k) := by
  intro θ a w h
  rw [kQ_ops]
  obtain ⟨us, hus, hm⟩ := h.env.evsL hev
  obtain ⟨S, w1, hh⟩ := h.heap
  obtain ⟨fn, hf, hb, hn⟩ := hfn
  have hn' : ¬ fn.name = "runtime.NumGoroutine" := by simpa using hn
  have hb' : ¬ fn.body = none := by intro e; rw [e] at hb; cases hb
  have hc := h.env.con hx
  simp only [V.con, Option.map_eq_some_iff] at hc
  obtain ⟨capt, hcapt, hfv⟩ := hc
  refine wpList_plain rfl fun K hK => ?_
  have hmm : xs.map a.eval = us.toArray := by
    apply Array.toList_inj.1
    rw [Array.toList_map, Fw.evals h.env.env hm]
  unfold Oper.wp
  have : (execOp a.eval ⟨some d, .call { callee := .value x, args := xs, argTypes := ts }, ty, pos, after, none⟩).run c.P w = .ok (.enter f (us ++ capt).toArray) w := by
    simp [execOp, resolve, hmm, ← hfv, Deferred.ofValue, invoke, callFunc, hf, hn', hb']
  rw [this, Oper.upon_enter]
  refine (hct w (us ++ capt) h.g (hh.argsOk (conL_app hus hcapt) hargs)).mono fun e w' hr => ?_
  obtain ⟨u, hu, v, rfl, hR⟩ := hr
  have hE' : Env σ.n ((d, v) :: selfρ a) (a.put (some d) v) := h.env.env.put hd v
  obtain ⟨η, hR'⟩ := h.res' hR hd hE'
  exact hK _ _ (hk u hu (θ ++ η) _ w' hR')

section
variable {P : Program} {n : Nat} {ρ : List (Nat × Value)} {a : Act} {w : World} {ty : TypeId}
theorem y_errne (hE : Env n ρ a) {x : Operand} {t t' : Nat} {u : Value} {ok : Bool} (hx : ev? ρ x = some u) (hu : ErrIs ok u) (ht : P.underlying t = some (.interface (P.methodsAt t))) :
    Yields P a w (.binOp .neq t x (.const .nilIface) t') ty (.bool (!ok)) := by
  intro _ _ _ _
  have e := hE.eval hx
  have e2 : a.eval (.const .nilIface) = .nilIface := rfl
  cases ok with
  | true =>
    cases hu
    have := run_neq_nil_nil (P := P) w t ht
    simp only [execOp, e, e2]
    simp [eqGuard, this]
  | false =>
    obtain ⟨t1, v, rfl⟩ := hu
    have := run_neq_held_nil (P := P) w t t1 v ht
    simp only [execOp, e, e2]
    simp [eqGuard, this]
end
section
variable {c : Cx} {σ : St} {all : Array Oper} {ty : TypeId} {pos : String} {after : Array Edge} {d : Nat}
theorem OpS.errne {t t' : Nat} {x : Operand} {u : Value} {ok : Bool} (hx : ev σ.ρ x = some (.v u)) (hu : ErrIs ok u) (ht : c.P.underlying t = some (.interface (c.P.methodsAt t))) (hd : Nat.blt d σ.n = true) :
    OpS c σ all ⟨some d, .binOp .neq t x (.const .nilIface) t', ty, pos, after, none⟩ (put d (.v (.bool (!ok))) σ) :=
  OpS.of fun θ a w h K Q hK => by
    unfold Oper.wp
    rw [y_errne (P := c.P) (w := w) (ty := ty) h.env.env (h.env.isv hx) hu ht]
    exact hK [] _ _ (h.put hd rfl).app0
/-- A package array, as a slice. -/
theorem OpS.gslice {t len e g : Nat} {x : Operand} {α : Type} {dα : Dat α} (mk : α → Value) (xs : List α) (hGV : ∀ w, c.G w → GV g (xs.map mk) w) (hg : c.S0 g) (hx : ev σ.ρ x = some (.v (.pointer (some ⟨g, 0, none⟩)))) (ht : chkArr c.P t len e = true) (hlen : xs.length = len) (hsz : Dat.sz α = 1) (hm : len ≤ 1000000)
    (hrd : ∀ S w y, y ∈ xs → Dat.rd S w [mk y] y) (hd : Nat.blt d σ.n = true) :
    OpS c σ all ⟨some d, .slice t x none none none, ty, pos, after, none⟩ (afterRos σ d dα xs) :=
  OpS.of fun θ a w h K Q hK => by
    obtain ⟨S, w1, hh⟩ := h.heap
    obtain ⟨T, fr, hb⟩ := hGV w1 (c.gok w1 hh.k0)
    obtain ⟨hu, hz⟩ := chkArr_spec ht
    have e0 := h.env.env.eval (h.env.isv hx)
    have hrun : (execOp a.eval ⟨some d, .slice t x none none none, ty, pos, after, none⟩).run c.P w = .ok (.value (.slice (some ⟨g, 0, none⟩) len len)) w := by
      simp only [execOp, e0]
      simp [Instr.sliceAt, run_underlying hu, Instr.sureAddr, Instr.sliceBounds, hz, Addr.add_zero']
    unfold Oper.wp
    rw [hrun, Oper.upon_value]
    have := h.ros hh (α := α) (dα := dα) (ys := xs) (A := some ⟨g, 0, none⟩) (cap := len) (d := d) ⟨_, _, rfl, by omega, by unfold maxLen; omega, fun hn => ⟨_, rfl, hh.sub g hg, fun i x hi => ⟨[mk x], hrd S w1 x (List.mem_of_getElem? hi), fun j v hj => ?_⟩⟩⟩ hd
    · rw [hlen] at this
      exact hK _ _ _ this
    · cases j with
      | zero =>
        cases hj
        rw [Addr.add_zero', hsz, Nat.mul_one]
        have e : (⟨g, 0, none⟩ : Addr).add i = ⟨g, i, none⟩ := by unfold Addr.add; split <;> simp_all
        rw [e]
        unfold World.cell?
        rw [hb]
        simp [hi]
      | succ j => simp at hj
theorem OpS.remG {t t' : Nat} {x y : Operand} {k : IntKind} {i i2 : Int} {j : Nat} {want B : Bool} (hB : gB σ.ρ all j want = some B) (hx : evG σ.ρ x = some (.v (.int k i))) (hy : evG σ.ρ y = some (.v (.int k i2))) (hside : B = true → sideP B True σ.ρ [x, y]) (hj : B = true → i2 ≠ 0) (hd : Nat.blt d σ.n = true) :
    OpS c σ all ⟨some d, .binOp .rem t x y t', ty, pos, after, some (j, want)⟩ (put d (.gd B (.v (.int k (i.tmod i2)))) σ) :=
  OpS.valG hB (fun hb θ a w h => by
    have h1 := evG_con h.env hb (hside hb) x (by simp) _ hx
    have h2 := evG_con h.env hb (hside hb) y (by simp) _ hy
    have e1 : ev? (selfρ a) x = some (.int k i) := by rw [h1.2, ← h1.1]; rfl
    have e2 : ev? (selfρ a) y = some (.int k i2) := by rw [h2.2, ← h2.1]; rfl
    exact y_rem h.env.env e1 e2 (hj hb)) hd
end
end Go.Proofs.YtmjjcihoobnbgaaDoor.Fw
