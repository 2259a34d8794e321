/-
  The abstract machine: regions that draw their order. No condition: every lemma is general in the program.
-/
import Derived.Test.YtmjjcihoobnbgaaDoorAm7
namespace Go.Proofs.YtmjjcihoobnbgaaDoor.Fw
open Go.RowKit
set_option linter.unusedVariables false

theorem szA {α : Type} (l : List α) : l.toArray.size = l.length := rfl

/-! Words that constants are good. -/
theorem gi (n : Int) (h : -9223372036854775808 ≤ n ∧ n ≤ 9223372036854775807 := by decide) : I64 n := by unfold I64; omega
theorem gn (n : Nat) (h : n ≤ 9223372036854775807) : I64 (n : Int) := by unfold I64; omega
theorem gs (s : ByteArray) (h : s.size ≤ 9223372036854775807 := by decide) : s.size ≤ maxLen := h

/-- What the region's operations leave as it is. -/
def SD (c : Cx) (θ0 : List Loc) (E0 : List (Nat × En)) (w : World) : Prop := ∃ S w1, RH c θ0 E0 S w1 w

def BaseOk (c : Cx) (θ : List Loc) (E : List (Nat × En)) : Prop := ∀ e ∈ E, e.2.ok c.S0 c.w0 θ e.1
def RunD (c : Cx) (K : Act → World → Prop) (E0 : List (Nat × En)) (m0 : Nat) (ops : Array Oper) (n : Nat) (M : List (Nat × En)) (listed : Array Bool) (σ : St) : Prop :=
  ∀ θ0 η a w, θ0.length = m0 → R c (θ0 ++ η) σ a w → SD c θ0 E0 w → BaseOk c θ0 E0 → Facts c.S0 c.w0 (θ0 ++ η) M → wpAnyH c.P .any ops (NormQ K) (SD c θ0 E0) n listed a w

/-- A later beginning. -/
def Cx.rebase (c : Cx) (S : Nat → Prop) (w : World) (hk : Keep c.S0 c.w0 w) (hs : ∀ b, c.S0 b → S b) (hd : ∀ b, S b → b < w.heap.size) : Cx := ⟨c.P, c.fn, c.ti, c.zr, c.G, S, w, c.tiok, c.zok, fun w' h => c.gok w' (hk.trans (h.mono hs)), hd, c.Q⟩
theorem RH.rebase {c : Cx} {θ : List Loc} {E : List (Nat × En)} {S : Nat → Prop} {w1 w : World} (h : RH c θ E S w1 w) : RH (c.rebase S w1 h.k0 h.sub h.sh.dom) θ E S w1 w := ⟨Keep.refl _ _, fun _ h => h, h.sh, h.ok⟩
theorem RH.unbase {c : Cx} {S : Nat → Prop} {w1 : World} {hk : Keep c.S0 c.w0 w1} {hs : ∀ b, c.S0 b → S b} {hd : ∀ b, S b → b < w1.heap.size} {θ : List Loc} {E : List (Nat × En)} {S2 : Nat → Prop} {w2 w : World} (h : RH (c.rebase S w1 hk hs hd) θ E S2 w2 w) : RH c θ E S2 w2 w :=
  ⟨hk.trans ((show Keep S w1 w2 from h.k0).mono hs), fun b hb => h.sub b (hs b hb), h.sh, h.ok⟩
theorem R.unbase {c : Cx} {S : Nat → Prop} {w1 : World} {hk : Keep c.S0 c.w0 w1} {hs : ∀ b, c.S0 b → S b} {hd : ∀ b, S b → b < w1.heap.size} {θ : List Loc} {σ : St} {a : Act} {w : World} (h : R (c.rebase S w1 hk hs hd) θ σ a w) : R c θ σ a w :=
  let ⟨S2, w2, hh⟩ := h.heap; ⟨h.len, h.env, S2, w2, hh.unbase⟩
/-- What is said of the beginning holds later. -/
theorem En.ok_up {c : Cx} {θ θ' : List Loc} {E : List (Nat × En)} {S : Nat → Prop} {w1 w : World} (h : RH c θ' E S w1 w) {r : Nat} {e : En} (he : e.ok c.S0 c.w0 θ r) : e.ok S w1 θ r := by
  cases e with
  | var => trivial
  | lit => trivial
  | own => trivial
  | itr => trivial
  | pin l => exact he
  | ros α d xs =>
    obtain ⟨l, hl, hr⟩ := he
    exact ⟨l, hl, (hr.below h.k0).mono h.sub⟩
  | roc cs =>
    obtain ⟨l, A, ccs, hl, h2, h3, h4, h5⟩ := he
    exact ⟨l, A, ccs, hl, h2, h3, h.sub _ h4, h5.keep h.k0 h4⟩
theorem Facts.up {c : Cx} {θ θ' : List Loc} {E M : List (Nat × En)} {S : Nat → Prop} {w1 w : World} (h : RH c θ' E S w1 w) (hM : Facts c.S0 c.w0 θ M) : Facts S w1 θ M := fun e he => ⟨En.ok_up h (hM e he).1, (hM e he).2⟩

theorem RH.pickE {c : Cx} {θ : List Loc} {E E0 : List (Nat × En)} {S : Nat → Prop} {w1 w : World} (h : RH c θ E S w1 w) {is : List Nat} (hp : is.map (nthE E) = E0.map some) (hn : is.Nodup) : RH c θ E0 S w1 w := by
  have hp' : is.map (fun i => E[i]?) = E0.map some := by
    clear hn
    induction is generalizing E0 with
    | nil => cases E0 with
      | nil => rfl
      | cons => simp at hp
    | cons i is ih => cases E0 with
      | nil => simp at hp
      | cons e E0 =>
        simp only [List.map_cons, List.cons.injEq] at hp ⊢
        exact ⟨nthE_spec hp.1, ih hp.2⟩
  refine ⟨h.k0, h.sub, ?_, fun e he => ?_⟩
  · refine h.sh.pick is hn ?_
    have h1 : (is.map fun i => (E.map fun e => e.2.ck θ e.1)[i]?) = (is.map fun i => E[i]?).map (Option.map fun e => e.2.ck θ e.1) := by
      rw [List.map_map]
      refine List.map_congr_left fun i _ => ?_
      simp
    rw [h1, hp', List.map_map, List.map_map]
    rfl
  · have : some e ∈ is.map (fun i => E[i]?) := by rw [hp']; exact List.mem_map.2 ⟨e, he, rfl⟩
    obtain ⟨i, _, hi⟩ := List.mem_map.1 this
    exact h.ok e (List.mem_of_getElem? hi)

theorem get_back {θ ζ : List Loc} {r : Nat} {l l' : Loc} (h : θ[r]? = some l) (h' : (θ ++ ζ)[r]? = some l') : l' = l := by
  rw [get_ext h] at h'
  cases h'
  rfl
theorem conL_back {θ ζ : List Loc} {cs : List V} {l l' : List Value} (h : conL θ cs = some l) (h' : conL (θ ++ ζ) cs = some l') : l' = l := by
  rw [conL_ext h] at h'
  cases h'
  rfl
theorem En.ck_back {θ ζ : List Loc} {r : Nat} {e : En} {w : World} (h : (e.ck θ r).p w) : (e.ck θ r).F = (e.ck (θ ++ ζ) r).F ∧ ∀ w', (e.ck (θ ++ ζ) r).p w' → (e.ck θ r).p w' := by
  cases e with
  | var cs T =>
    obtain ⟨l, b, ccs, hl, h2, h3, h4, _⟩ := h
    refine ⟨by show locF _ _ = locF _ _; rw [locF_of hl, locF_of (get_ext hl)], ?_⟩
    rintro w' ⟨l', b', ccs', h1', h2', h3', h4', h5'⟩
    obtain rfl := get_back hl h1'
    obtain rfl := conL_back h4 h4'
    exact ⟨_, b', _, hl, h2', h3', h4, h5'⟩
  | lit cs T n =>
    obtain ⟨l, b, ccs, ⟨hl, hcap⟩, h2, h3, h4, _⟩ := h
    refine ⟨by show locF _ _ = locF _ _; rw [locF_of hl, locF_of (get_ext hl)], ?_⟩
    rintro w' ⟨l', b', ccs', ⟨h1', h1''⟩, h2', h3', h4', h5'⟩
    obtain rfl := get_back hl h1'
    obtain rfl := conL_back h4 h4'
    exact ⟨_, b', _, ⟨hl, hcap⟩, h2', h3', h4, h5'⟩
  | own α d xs =>
    obtain ⟨l, hl, _⟩ := h
    refine ⟨by show locF _ _ = locF _ _; rw [locF_of hl, locF_of (get_ext hl)], ?_⟩
    rintro w' ⟨l', h1, h2⟩
    obtain rfl := get_back hl h1
    exact ⟨_, hl, h2⟩
  | itr s p =>
    obtain ⟨l, b, hl, h2, h3, _⟩ := h
    refine ⟨by show locF _ _ = locF _ _; rw [locF_of hl, locF_of (get_ext hl)], ?_⟩
    rintro w' ⟨l', b', h1', h2', h3', h4'⟩
    obtain rfl := get_back hl h1'
    exact ⟨_, b', hl, h2', h3', h4'⟩
  | ros => exact ⟨rfl, fun _ _ => trivial⟩
  | roc => exact ⟨rfl, fun _ _ => trivial⟩
  | pin => exact ⟨rfl, fun _ _ => trivial⟩
theorem En.ok_back {S S' : Nat → Prop} {w1 w1' : World} {θ ζ : List Loc} {r : Nat} {e : En} (h : e.ok S w1 θ r) (h' : e.ok S' w1' (θ ++ ζ) r) : e.ok S' w1' θ r := by
  cases e with
  | var => trivial
  | lit => trivial
  | own => trivial
  | itr => trivial
  | pin l => exact h
  | ros α d xs =>
    obtain ⟨l, hl, _⟩ := h
    obtain ⟨l', h1, h2⟩ := h'
    obtain rfl := get_back hl h1
    exact ⟨_, hl, h2⟩
  | roc cs =>
    obtain ⟨l, A, ccs, hl, h2, h3, _⟩ := h
    obtain ⟨l', A', ccs', h1', h2', h3', h4', h5'⟩ := h'
    obtain rfl := get_back hl h1'
    obtain rfl := conL_back h3 h3'
    exact ⟨_, A', _, hl, h2', h3, h4', h5'⟩
theorem RH.back {c : Cx} {θ ζ : List Loc} {E : List (Nat × En)} {S S' : Nat → Prop} {w1 w1' w w' : World} (h : RH c θ E S w1 w) (h' : RH c (θ ++ ζ) E S' w1' w') : RH c θ E S' w1' w' :=
  ⟨h'.k0, h'.sub, h'.sh.map2 (fun e he _ => En.ck_back ((h.sh.ok _ (List.mem_map.2 ⟨e, he, rfl⟩)).here)), fun e he => En.ok_back (h.ok e he) (h'.ok e he)⟩

theorem Run.draw {c : Cx} {res : List Re} {σ : St} {id : Nat} {ops : Array Oper} {k : List It} (n : Nat) (hm : c.P.follows .mixedOrders = true) (hn : ops.size = n)
    (h : ∀ S w1 hk hs hd, RunD (c.rebase S w1 hk hs hd) (kQ c res k .normal) σ.E σ.m ops n [] (Array.replicate n false) σ) : Run c res σ (.code (.region id ops true) :: k) := by
  intro θ a w hR
  obtain ⟨S, w1, hh⟩ := hR.heap
  have hh' := hh.drew.rebase
  have hR' : R (c.rebase S w1 hh.k0 hh.sub hh.sh.dom) (θ ++ []) σ a w.drew := by rw [List.append_nil]; exact ⟨hR.len, hR.env, S, w1, hh'⟩
  have := h S w1 hh.k0 hh.sub hh.sh.dom θ [] a w.drew hR.len hR' ⟨S, w1, hh'⟩ hh.ok Facts.nil
  refine Code.wp_mono (Q := NormQ (kQ c res k .normal)) (fun e a w h => by obtain ⟨rfl, h⟩ := h; exact h) (wp_region_held (P := c.P) hm (by rw [hn]; exact this))

def okD (ops : Array Oper) : Array Bool → List Nat → Bool
  | _, [] => true
  | listed, i :: is => takeB ops listed i && okD ops (listed.setIfInBounds i true) is
def setAll : Array Bool → List Nat → Array Bool
  | l, [] => l
  | l, i :: is => setAll (l.setIfInBounds i true) is

/-- Operations taken first. -/
def tkK (σ : St) (d : Nat) : Option (V × Prop) → Option (St × Prop)
  | some (v, q) => bif Nat.blt d σ.n then some (put d v σ, q) else none
  | none => none
def tk1 (ti : Nat → TI) (zr : Nat → Option Value) (ops : Array Oper) (E0 : List (Nat × En)) (σ : St) (p : Prop) : Option Oper → Option (St × Prop)
  | some ⟨some d, op, _, _, _, none⟩ => tkK σ d (gOp ti zr σ.ρ E0 true op p)
  | some ⟨some d, op, _, _, _, some (j, want)⟩ => tkK σ d (gK2 ti zr σ.ρ E0 op p (gB σ.ρ ops j want))
  | _ => none
def adD (ti : Nat → TI) (zr : Nat → Option Value) (ops : Array Oper) (E0 : List (Nat × En)) : List Nat → Option (St × Prop) → Option (St × Prop)
  | [], x => x
  | i :: is, some (σ, p) => adD ti zr ops E0 is (tk1 ti zr ops E0 σ p (nthO ops.toList i))
  | _ :: _, none => none
theorem adD_none {ti : Nat → TI} {zr : Nat → Option Value} {ops : Array Oper} {E0 : List (Nat × En)} : ∀ (is : List Nat), adD ti zr ops E0 is none = none
  | [] => rfl
  | _ :: _ => rfl

theorem tk1_acc {ti : Nat → TI} {zr : Nat → Option Value} {ops : Array Oper} {E0 : List (Nat × En)} {σ σ' : St} {o : Option Oper} {p q : Prop} (h : tk1 ti zr ops E0 σ p o = some (σ', q)) (hq : q) : p := by
  unfold tk1 at h
  split at h
  · unfold tkK at h
    split at h
    · rename_i v p1 hv
      cases hd : Nat.blt _ σ.n with
      | false => rw [hd] at h; cases h
      | true => rw [hd] at h; cases h; exact gOp_acc hv hq
    · cases h
  · unfold tkK at h
    split at h
    · rename_i v p1 hv
      unfold gK2 at hv
      split at hv
      · unfold gK1 at hv
        split at hv
        · rename_i hv1
          cases hv
          cases hd : Nat.blt _ σ.n with
          | false => rw [hd] at h; cases h
          | true => rw [hd] at h; cases h; exact gOp_acc hv1 hq
        · cases hv
      · cases hv
    · cases h
  · cases h
theorem adD_acc {ti : Nat → TI} {zr : Nat → Option Value} {ops : Array Oper} {E0 : List (Nat × En)} : ∀ {is : List Nat} {σ σ' : St} {p q : Prop}, adD ti zr ops E0 is (some (σ, p)) = some (σ', q) → q → p
  | [], _, _, _, _, h, hq => by cases h; exact hq
  | i :: is, σ, σ', p, q, h, hq => by
    simp only [adD] at h
    cases h1 : tk1 ti zr ops E0 σ p (nthO ops.toList i) with
    | none => rw [h1, adD_none] at h; cases h
    | some x =>
      obtain ⟨σ1, p1⟩ := x
      rw [h1] at h
      exact tk1_acc h1 (adD_acc h hq)

theorem SD.r {c : Cx} {θ0 η : List Loc} {E0 M : List (Nat × En)} {σ : St} {a : Act} {w w2 : World} (h : R c (θ0 ++ η) σ a w) (hs : SD c θ0 E0 w2) (hM : Facts c.S0 c.w0 (θ0 ++ η) M) : R c (θ0 ++ η) ⟨σ.n, σ.m, σ.ρ, M ++ E0⟩ a w2 :=
  ⟨h.len, h.env, let ⟨S, w1, hh⟩ := hs; ⟨S, w1, hh.facts (Facts.up hh hM)⟩⟩

theorem RunD.takes {c : Cx} {K : Act → World → Prop} {E0 : List (Nat × En)} {m0 : Nat} {ops : Array Oper} {n : Nat} {M : List (Nat × En)} : ∀ (is : List Nat) {listed : Array Bool} {σ σ' : St} {p q : Prop}, okD ops listed is = true → adD c.ti c.zr ops (M ++ E0) is (some (σ, p)) = some (σ', q) → q → RunD c K E0 m0 ops n M (setAll listed is) σ' → RunD c K E0 m0 ops (n + is.length) M listed σ
  | [], _, _, _, _, _, _, h, hq, hr => by cases h; exact hr
  | i :: is, listed, σ, σ', p, q, hb, h, hq, hr => by
    simp only [okD, Bool.and_eq_true] at hb
    have hB := hb.1
    simp only [takeB, Bool.and_eq_true] at hB
    simp only [adD] at h
    cases h1 : tk1 c.ti c.zr ops (M ++ E0) σ p (nthO ops.toList i) with
    | none => rw [h1, adD_none] at h; cases h
    | some x =>
      obtain ⟨σ1, p1⟩ := x
      rw [h1] at h
      have hp1 := adD_acc h hq
      have ih := RunD.takes is hb.2 h hq hr
      unfold tk1 at h1
      split at h1
      · rename_i d op ty pos after hi
        unfold tkK at h1
        split at h1
        · rename_i v p2 hv
          cases hd : Nat.blt d σ.n with
          | false => rw [hd] at h1; cases h1
          | true =>
            rw [hd] at h1
            cases h1
            intro θ0 η a w hl hR hS hB0 hM
            have hi' : ops[i]? = some ⟨some d, op, ty, pos, after, none⟩ := by rw [← Array.getElem?_toList]; exact nthO_spec hi
            obtain ⟨u, hu, _⟩ := gOp_ok (SD.r hR hS hM) rfl (ty := ty) (σ := ⟨σ.n, σ.m, σ.ρ, M ++ E0⟩) hv hp1
            refine wpAnyH_take (v := u) hi' hB.1.1 hB.1.2 hB.2 (fun c a w h => by cases h.1) (.inl ⟨rfl, fun w2 hw2 => ?_⟩) hS (ih θ0 η _ w hl (hR.put hd hu) hS hB0 hM)
            obtain ⟨u2, hu2, hy⟩ := gOp_ok (SD.r hR hw2 hM) rfl (ty := ty) (σ := ⟨σ.n, σ.m, σ.ρ, M ++ E0⟩) hv hp1
            rw [hu] at hu2
            cases hu2
            exact hy _ _ _ _
        · cases h1
      · rename_i d op ty pos after j want hi
        unfold tkK at h1
        split at h1
        · rename_i v p2 hv
          unfold gK2 at hv
          split at hv
          · rename_i B hBB
            unfold gK1 at hv
            split at hv
            · rename_i v1 q1 hv1
              cases hv
              cases hd : Nat.blt d σ.n with
              | false => rw [hd] at h1; cases h1
              | true =>
                rw [hd] at h1
                cases h1
                intro θ0 η a w hl hR hS hB0 hM
                have hi' : ops[i]? = some ⟨some d, op, ty, pos, after, some (j, want)⟩ := by rw [← Array.getElem?_toList]; exact nthO_spec hi
                have hw := gB_ok hR (o := ⟨some d, op, ty, pos, after, some (j, want)⟩) rfl hBB
                cases B with
                | true =>
                  obtain ⟨u, hu, _⟩ := gOp_ok (SD.r hR hS hM) rfl (ty := ty) (σ := ⟨σ.n, σ.m, σ.ρ, M ++ E0⟩) hv1 hp1
                  refine wpAnyH_take (v := u) hi' hB.1.1 hB.1.2 hB.2 (fun c a w h => by cases h.1) (.inl ⟨hw, fun w2 hw2 => ?_⟩) hS (ih θ0 η _ w hl (hR.put hd (v := .gd true v1) hu) hS hB0 hM)
                  obtain ⟨u2, hu2, hy⟩ := gOp_ok (SD.r hR hw2 hM) rfl (ty := ty) (σ := ⟨σ.n, σ.m, σ.ρ, M ++ E0⟩) hv1 hp1
                  rw [hu] at hu2
                  cases hu2
                  exact hy _ _ _ _
                | false =>
                  exact wpAnyH_take (v := undef) hi' hB.1.1 hB.1.2 hB.2 (fun c a w h => by cases h.1) (.inr ⟨hw, rfl⟩) hS (ih θ0 η _ w hl (hR.put hd (v := .gd false v1) rfl) hS hB0 hM)
            · cases hv
          · cases hv
        · cases h1
      · cases h1

/-- The one operation that may come up. -/
theorem RunD.only {c : Cx} {K : Act → World → Prop} {E0 : List (Nat × En)} {m0 : Nat} {ops : Array Oper} {n : Nat} {M : List (Nat × En)} (i : Nat) (is : List Nat) {listed : Array Bool} {σ σ' : St} {o : Oper} (hr : Region.ready .any ops listed = [i]) (hi : nthO ops.toList i = some o) (ho : OpS c σ ops o σ') (hp : is.map (nthE σ'.E) = E0.map some) (hn : is.Nodup)
    (h : RunD c K E0 m0 ops n M (listed.setIfInBounds i true) σ') : RunD c K E0 m0 ops (n + 1) M listed σ := by
  intro θ0 η a w hl hR hS hB0 hM
  have hi' : ops[i]? = some o := by rw [← Array.getElem?_toList]; exact nthO_spec hi
  refine h_only i hi' hr ?_
  refine wpList_step fun K' hK' => ?_
  refine ho _ a w hR K' _ fun ζ a' w' hR' => hK' _ _ ?_
  rw [List.append_assoc] at hR'
  have hS' : SD c θ0 E0 w' := by
    obtain ⟨S, w1, hh⟩ := hR'.heap
    obtain ⟨S0, w0, hh0⟩ := hS
    exact ⟨S, w1, hh0.back (hh.pickE hp hn)⟩
  exact ⟨rfl, hS', h θ0 (η ++ ζ) a' w' hl hR' hS' hB0 (by rw [← List.append_assoc]; exact hM.ext)⟩

theorem RunD.onlyg {c : Cx} {K : Act → World → Prop} {E0 : List (Nat × En)} {m0 : Nat} {ops : Array Oper} {n : Nat} {M : List (Nat × En)} (i : Nat) (is : List Nat) {listed : Array Bool} {σ σ' : St} {o : Oper} {G : Prop} (hr : Region.ready .any ops listed = [i]) (hi : nthO ops.toList i = some o) (ho : OpSg c σ ops o σ' G) (hp : is.map (nthE σ'.E) = E0.map some) (hn : is.Nodup)
    (h : G → RunD c K E0 m0 ops n M (listed.setIfInBounds i true) σ') : RunD c K E0 m0 ops (n + 1) M listed σ := by
  intro θ0 η a w hl hR hS hB0 hM
  have hi' : ops[i]? = some o := by rw [← Array.getElem?_toList]; exact nthO_spec hi
  refine h_only i hi' hr ?_
  refine wpList_step fun K' hK' => ?_
  refine ho _ a w hR K' _ fun ζ a' w' hR' hg => hK' _ _ ?_
  rw [List.append_assoc] at hR'
  have hS' : SD c θ0 E0 w' := by
    obtain ⟨S, w1, hh⟩ := hR'.heap
    obtain ⟨S0, w0, hh0⟩ := hS
    exact ⟨S, w1, hh0.back (hh.pickE hp hn)⟩
  exact ⟨rfl, hS', h hg θ0 (η ++ ζ) a' w' hl hR' hS' hB0 (by rw [← List.append_assoc]; exact hM.ext)⟩

def evsG (ρ : List (Nat × V)) : List Operand → Option (List V)
  | [] => some []
  | x :: r => cons2 (evG ρ x) (evsG ρ r)
theorem evsG_spec {ρ : List (Nat × V)} : ∀ {l : List Operand} {vs : List V}, evsG ρ l = some vs → l.map (evG ρ) = vs.map some
  | [], vs, h => by cases h; rfl
  | x :: r, vs, h => by
    simp only [evsG] at h
    cases h1 : evG ρ x with
    | none => rw [h1] at h; cases h
    | some v =>
      cases h2 : evsG ρ r with
      | none => rw [h1, h2] at h; cases h
      | some b =>
        rw [h1, h2] at h
        cases h
        rw [List.map_cons, List.map_cons, h1, evsG_spec h2]
def opAt (l : List Oper) (i : Nat) : Oper := match nthO l i with
  | some o => o
  | none => ⟨none, .move (.const undef), 0, "", #[], none⟩
/-- One that may be taken at any time. -/
def TkS (c : Cx) (E0 M : List (Nat × En)) (σ : St) (ops : Array Oper) (listed : Array Bool) (j : Nat) (σ1 : St) (M1 : List (Nat × En)) : Prop := ∀ (K : Act → World → Prop) (m0 n : Nat), RunD c K E0 m0 ops n M1 (listed.setIfInBounds j true) σ1 → RunD c K E0 m0 ops (n + 1) M listed σ
def afterIdxM {α : Type} (σ : St) (x : α) (fk : List (Fk α)) (M : List (Nat × En)) : List (Nat × En) := (σ.m, .roc (opn false x (σ.m + 1) fk).1) :: (opn false x (σ.m + 1) fk).2 ++ M
/-- The address of an element that is only read, taken first. -/
theorem TkS.idx {c : Cx} {E0 M : List (Nat × En)} {ops : Array Oper} {listed : Array Bool} {σ : St} {α : Type} {dα : Dat α} [s : Str α] [Inhabited α] {t e by' r len d : Nat} {x y : Operand} {ty : TypeId} {pos : String} {after : Array Edge} {i : Int} {xs : List α} (j k : Nat) (hk : k < xs.length) (hi' : nthO ops.toList j = some ⟨some d, .indexAddr t x y, ty, pos, after, none⟩) (hB : takeB ops listed j = true)
    (hx : ev σ.ρ x = some (.sl r len)) (hy : ev σ.ρ y = some (.v (.int .i64 i))) (hp : lkE (M ++ E0) r = some (.ros α dα xs)) (hl : len = xs.length) (hi : i = k) (ht : c.ti t = .sl e (Dat.sz α) by') (hd : Nat.blt d σ.n = true) : TkS c E0 M σ ops listed j (afterIdx σ d (nth xs k) s.fk) (afterIdxM σ (nth xs k) s.fk M) := by
  intro K m0 n h
  subst hi
  subst hl
  intro θ0 η a w hl0 hR hS hB0 hM
  simp only [takeB, Bool.and_eq_true] at hB
  have hj : ops[j]? = some ⟨some d, .indexAddr t x y, ty, pos, after, none⟩ := by rw [← Array.getElem?_toList]; exact nthO_spec hi'
  obtain ⟨S, w1, hh⟩ := hR.heap
  have hpo : (En.ros α dα xs).ok c.S0 c.w0 (θ0 ++ η) r := by
    rcases List.mem_append.1 (lkE_mem hp) with hm | hm
    · exact (hM _ hm).1
    · exact En.ok_ext (hB0 _ hm)
  obtain ⟨l, hl, hr⟩ := hpo
  have hc := hR.env.con hx
  simp only [V.con, hl, Option.some.injEq] at hc
  obtain ⟨ad, cs, hA, _, hrd, hcs, hb⟩ := SlR.elem hr hk
  have hti := c.tiok t
  rw [ht] at hti
  simp only [TI.chk, Bool.and_eq_true] at hti
  have hx' := hR.env.is hx (by rw [hR.env.con hx, ← hc, hA])
  have hy' := hR.env.isv hy
  let A' : Addr := (ad.add (k * Dat.sz α))
  let lc : Loc := ⟨some A', 0, []⟩
  obtain ⟨θ', hl', hc', he'⟩ := opn_ros (θ := (θ0 ++ η) ++ [lc]) (s.op hrd)
  rw [List.length_append, List.length_singleton, hR.len, List.append_assoc] at hc' he'
  have hg : ((θ0 ++ η) ++ ([lc] ++ θ'))[σ.m]? = some lc := by rw [← hR.len]; exact get_mid
  have hfa : Facts c.S0 c.w0 ((θ0 ++ η) ++ ([lc] ++ θ')) ((σ.m, En.roc (opn false (nth xs k) (σ.m + 1) s.fk).1) :: (opn false (nth xs k) (σ.m + 1) s.fk).2) := by
    intro e he
    rcases List.mem_cons.1 he with rfl | he
    · exact ⟨⟨lc, A', cs, hg, rfl, hc', by show c.S0 A'.block; simp only [A', block_add]; exact hb, hcs⟩, fun _ _ => rfl⟩
    · exact he' e he
  have hR2 : R c (θ0 ++ (η ++ ([lc] ++ θ'))) (afterIdx σ d (nth xs k) s.fk) (a.put (some d) (.pointer (some (A'.add 0)))) w := by
    rw [← List.append_assoc]
    refine ⟨?_, (hR.env.ext (θ' := [lc] ++ θ')).put hd ?_, S, w1, ?_⟩
    · have h1 := hR.len
      have h2 : (afterIdx σ d (nth xs k) s.fk).m = σ.m + 1 + nsl s.fk := rfl
      simp only [List.length_append, List.length_cons, List.length_nil] at h1 ⊢
      omega
    · simp only [V.con, hg, lc]
    · exact hh.facts (Facts.up hh hfa)
  have hM2 : Facts c.S0 c.w0 (θ0 ++ (η ++ ([lc] ++ θ'))) (afterIdxM σ (nth xs k) s.fk M) := by
    rw [← List.append_assoc]
    exact hfa.app hM.ext
  refine wpAnyH_take (v := .pointer (some (A'.add 0))) hj hB.1.1 hB.1.2 hB.2 (fun c a w h => by cases h.1) (.inl ⟨rfl, fun w2 _ => ?_⟩) hS (h θ0 (η ++ ([lc] ++ θ')) _ w hl0 hR2 hS hB0 hM2)
  have hyy := y_indexAddr (P := c.P) (w := w2) (ty := ty) hR.env.env hx' hy' (by omega) (by omega) hti.2
  have := hyy (some d) pos after none
  simpa using this

theorem RunD.done {c : Cx} {S : Nat → Prop} {w1 : World} {hk : Keep c.S0 c.w0 w1} {hs : ∀ b, c.S0 b → S b} {hd : ∀ b, S b → b < w1.heap.size} {res : List Re} {k : List It} {E0 M : List (Nat × En)} {m0 : Nat} {ops : Array Oper} {listed : Array Bool} {σ : St} (hr : Region.ready .any ops listed = []) (h : Run c res σ k) : RunD (c.rebase S w1 hk hs hd) (kQ c res k .normal) E0 m0 ops 0 M listed σ :=
  fun θ0 η a w _ hR _ _ _ => h_end hr (h _ a w hR.unbase)
end Go.Proofs.YtmjjcihoobnbgaaDoor.Fw
