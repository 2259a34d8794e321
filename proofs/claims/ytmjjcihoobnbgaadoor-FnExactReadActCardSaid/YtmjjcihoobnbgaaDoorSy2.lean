/-
  The abstract machine: an element of a list looked up under a truth that is not known, where the list is long enough in any case. No condition.
-/
import Derived.Test.YtmjjcihoobnbgaaDoorSy
namespace Go.Proofs.YtmjjcihoobnbgaaDoor.Fw
open Go.RowKit
set_option linter.unusedVariables false
set_option maxRecDepth 100000
def afterIdxG {α : Type} (σ : St) (d : Nat) (B : Bool) (x : α) (fk : List (Fk α)) : St := ⟨σ.n, σ.m + 1 + nsl fk, (d, .gd B (.pt σ.m 0)) :: σ.ρ, (σ.m, .roc (opn false x (σ.m + 1) fk).1) :: (opn false x (σ.m + 1) fk).2 ++ σ.E⟩
theorem OpS.idxG {c : Cx} {σ : St} {all : Array Oper} {ty : TypeId} {pos : String} {after : Array Edge} {d : Nat} {α : Type} {dα : Dat α} [s : Str α] [Inhabited α] {t e by' r len : Nat} {x y : Operand} {i : Int} {k j : Nat} {want B : Bool} {xs : List α} (hB : gB σ.ρ all j want = some B) (hx : evG σ.ρ x = some (.sl r len)) (hy : evG σ.ρ y = some (.v (.int .i64 i))) (hside : B = true → sideP B True σ.ρ [x, y]) (hp : lkE σ.E r = some (.ros α dα xs)) (hl : len = xs.length) (ht : c.ti t = .sl e (Dat.sz α) by') (hd : Nat.blt d σ.n = true) (hi : i = k) (hk : k < xs.length) :
    OpS c σ all ⟨some d, .indexAddr t x y, ty, pos, after, some (j, want)⟩ (afterIdxG σ d B (nth xs k) s.fk) := by
  intro θ a w h K Q hK
  have hw := gB_ok h (o := ⟨some d, .indexAddr t x y, ty, pos, after, some (j, want)⟩) rfl hB
  rw [hw]
  subst hi
  subst hl
  obtain ⟨S, w1, hh⟩ := h.heap
  obtain ⟨l, hl, hr⟩ := hh.ok _ (lkE_mem hp)
  simp only at hl
  obtain ⟨ad, cs, hA, _, hrd, hcs, hb⟩ := SlR.elem hr hk
  have hti := c.tiok t
  rw [ht] at hti
  simp only [TI.chk, Bool.and_eq_true] at hti
  let A' : Addr := (ad.add (k * Dat.sz α))
  let lc : Loc := ⟨some A', 0, []⟩
  obtain ⟨θ', hl', hc', he'⟩ := opn_ros (θ := θ ++ [lc]) (s.op hrd)
  rw [List.length_append, List.length_singleton, h.len, List.append_assoc] at hc' he'
  have hg : (θ ++ ([lc] ++ θ'))[σ.m]? = some lc := by rw [← h.len]; exact get_mid
  have fin : ∀ u, (V.gd B (.pt σ.m 0)).con (θ ++ ([lc] ++ θ')) = some u → K (a.put (some d) u) w := fun u hu => by
    refine hK ([lc] ++ θ') _ w ⟨?_, (h.env.ext (θ' := [lc] ++ θ')).put hd hu, S, w1, ?_⟩
    · rw [List.length_append, List.length_append, h.len, hl']
      show σ.m + (1 + nsl s.fk) = σ.m + 1 + nsl s.fk
      omega
    · have hfa : ∀ e ∈ (σ.m, En.roc (opn false (nth xs k) (σ.m + 1) s.fk).1) :: (opn false (nth xs k) (σ.m + 1) s.fk).2, e.2.ok S w1 (θ ++ ([lc] ++ θ')) e.1 ∧ ∀ θ r, e.2.ck θ r = ⟨[], fun _ => True⟩ := by
        intro e he
        rcases List.mem_cons.1 he with rfl | he
        · exact ⟨⟨lc, A', cs, hg, rfl, hc', by show S A'.block; simp only [A', block_add]; exact hb, hcs⟩, fun _ _ => rfl⟩
        · exact he' e he
      exact hh.facts hfa
  cases B with
  | true =>
    rw [if_pos rfl]
    have h1 := evG_con h.env rfl (hside rfl) x (by simp) _ hx
    have h2 := evG_con h.env rfl (hside rfl) y (by simp) _ hy
    have hc := h1.1
    simp only [V.con, hl, Option.some.injEq] at hc
    have hx' : ev? (selfρ a) x = _ := h1.2
    rw [← hc, hA] at hx'
    have hy' : ev? (selfρ a) y = some (.int .i64 (k : Int)) := by rw [h2.2, ← h2.1]; rfl
    have hyy := y_indexAddr (P := c.P) (w := w) (ty := ty) h.env.env hx' hy' (by omega) (by omega) hti.2
    unfold Oper.wp
    rw [hyy]
    refine fin _ ?_
    simp only [V.con, hg, lc, A', Int.toNat_natCast]
  | false =>
    rw [if_neg (by simp)]
    exact fin _ rfl
section
variable {fn : Func} {Bz : Bs} {S1 : Nat → Prop} {w1 : World} {hk1 : Keep Bz.S0 Bz.w w1} {hs1 : ∀ b, Bz.S0 b → S1 b} {hd1 : ∀ b, S1 b → b < w1.heap.size} {σ : St} {all : Array Oper} {ty : TypeId} {pos : String} {after : Array Edge} {d : Nat}
theorem iG {α : Type} {dα : Dat α} [s : Str α] [Inhabited α] {t e by' r len j : Nat} {x y : Operand} {i : Int} {want B : Bool} {xs : List α} (k : Nat) (hk : k < xs.length) (hB : gB σ.ρ all j want = some B := by dsimp only [ev, evs, evsG, cons2, lk, lkE, cond, Nat.beq, evG, stO', V.strip, grd, grdO, nthO, gB, gBV, Nat.pred, wnt, List.toList_toArray, List.cons_append, List.nil_append, List.append_nil]) (hx : evG σ.ρ x = some (.sl r len) := by dsimp only [ev, evs, evsG, cons2, lk, lkE, cond, Nat.beq, evG, stO', V.strip, grd, grdO, nthO, gB, gBV, Nat.pred, wnt, List.toList_toArray, List.cons_append, List.nil_append, List.append_nil]) (hy : evG σ.ρ y = some (.v (.int .i64 i)) := by dsimp only [ev, evs, evsG, cons2, lk, lkE, cond, Nat.beq, evG, stO', V.strip, grd, grdO, nthO, gB, gBV, Nat.pred, wnt, List.toList_toArray, List.cons_append, List.nil_append, List.append_nil])
    (hside : B = true → sideP B True σ.ρ [x, y] := by intro h; first | exact trivial | (dsimp only [sideP, sdV, ev, lk, cond, Nat.beq, V.side, List.toList_toArray]; (repeat' apply And.intro) <;> first | exact trivial | exact h | exact fun h => h | exact (Bool.and_eq_true_iff.1 h).1 | exact (Bool.and_eq_true_iff.1 h).2 | exact fun h => (Bool.and_eq_true_iff.1 h).1 | exact fun h => (Bool.and_eq_true_iff.1 h).2 | exact fun h => (Bool.and_eq_true_iff.1 (Bool.and_eq_true_iff.1 h).1).1 | (intro h; simp_all)))
    (hp : lkE σ.E r = some (.ros α dα xs) := by dsimp only [ev, evs, evsG, cons2, lk, lkE, cond, Nat.beq, evG, stO', V.strip, grd, grdO, nthO, gB, gBV, Nat.pred, wnt, List.toList_toArray, List.cons_append, List.nil_append, List.append_nil]) (hl : len = xs.length := by first | rfl | simp only [List.length_set]) (hi : i = k := by rfl) (ht : ti t = .sl e (Dat.sz α) by' := by rfl) (hd : Nat.blt d σ.n = true := by rfl) :
    OpS (cx fn Bz S1 w1 hk1 hs1 hd1) σ all ⟨some d, .indexAddr t x y, ty, pos, after, some (j, want)⟩ ⟨σ.n, σ.m + 1 + nsl s.fk, (d, .gd B (.pt σ.m 0)) :: σ.ρ, (σ.m, .roc (opn false (nth xs k) (σ.m + 1) s.fk).1) :: (opn false (nth xs k) (σ.m + 1) s.fk).2 ++ σ.E⟩ := OpS.idxG hB hx hy hside hp hl ht hd hi hk
theorem gO {op : Op} {j : Nat} {want B : Bool} {v : V} {p : Prop} (hB : gB σ.ρ all j want = some B := by dsimp only [ev, evs, evsG, cons2, lk, lkE, cond, Nat.beq, evG, stO', V.strip, grd, grdO, nthO, gB, gBV, Nat.pred, wnt, List.toList_toArray, List.cons_append, List.nil_append, List.append_nil]) (hv : gOp ti zr σ.ρ σ.E B op True = some (v, p) := by dsimp only [ti_9, ncV, szA, cvV, rnR, rnE, V.rn, rnL, En.rn, dropE, memN, afterStE, an, stK, cdK, opK, gdK, nvK, cellsO, zcells, blK, bsK, stW, stV, ptK, litD, litC, pkV, wrV, binV, unV, ldV, faW, faV, agO, blV, exV, mfV, lenV, caV, fillT, fillS, stO', sdV, cons2, grdO, gBV, gPw, gPk, gGo, gK, gK1, gK2, tkK, tk1, rvsV, rvV, Nat.reduceAdd, Nat.reduceSub, Nat.reduceMul, advN, adv1, stO, litV, fillV, splice, pv, ev, evs, lk, lkE, setE, putE, put, cond, ldC, ldE, nthN, tuAt, bin, bi, bs, bb, ikq, TI.cells, V.cells, V.one, oneL, toBlk, grd, nthO, beqB, gB, wnt, gOp, adG, adG1, pickV, sideP, evG, V.side, V.strip, afterCall, afterIdx, afterApp, afterApp0, packV, bindRs, bindR, bindGs, bindG, bindAs, bindA, ini, slotsV, opn, nsl, adD, setAll, Str.fk, Nat.blt, Nat.succ_eq_add_one, Nat.ble, Nat.beq, Nat.pred, Nat.add_zero, Nat.zero_add, Nat.add_eq, List.toList_toArray, List.length, List.length_cons, List.length_nil, List.take, List.drop, List.append_nil, List.nil_append, List.cons_append, List.map, List.take_succ_cons, List.take_zero, List.take_nil, List.drop_succ_cons, List.drop_zero, List.drop_nil, List.size_toArray, List.getD, id, Op.operands, Call.operands, Value.cells, Array.size_empty])
    (hp : p := by (repeat' apply And.intro) <;> first | exact trivial | exact fun h => h | exact fun h => (Bool.and_eq_true_iff.1 h).1 | exact fun h => (Bool.and_eq_true_iff.1 h).2 | exact fun h => (Bool.and_eq_true_iff.1 (Bool.and_eq_true_iff.1 h).1).1 | (intro h; simp_all)) (hd : Nat.blt d σ.n = true := by rfl) :
    OpS (cx fn Bz S1 w1 hk1 hs1 hd1) σ all ⟨some d, op, ty, pos, after, some (j, want)⟩ (put d (.gd B v) σ) := OpS.g1 hB hv hp hd
end
end Go.Proofs.YtmjjcihoobnbgaaDoor.Fw
