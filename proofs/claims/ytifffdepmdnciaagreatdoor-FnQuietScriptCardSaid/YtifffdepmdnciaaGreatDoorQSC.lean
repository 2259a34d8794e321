/-
  The texts Ri22, Ri24, Am9, Ri23, KT, KR, KXS, KS, QT, Q1, Q2, RiW, W1, W2, W3, W4, PL, W5, Shelf, RiSp, RIc, RIs, RCc of this proof, one behind the other: what each proves stands at its head. No condition.
-/
import Derived.Test.YtifffdepmdnciaaGreatDoorProg
import Derived.KernelRfl
import Derived.Lib.ItoaLen
import Derived.Lib.Fields
import Derived.Shelf.Strings.Split
import Derived.Lib.ItoaNum
import Derived.Lib.SplitLaws
import Derived.Shelf.Strings.OnBuilder
import Derived.Shelf.LaysM
import Derived.Shelf.Strconv.Itoa3
import Derived.Shelf.LaysC
import Derived.Shelf.Strconv.AtoiAll
import Derived.Shelf.Strings.Fields
import Derived.Ground.PaProg
import Derived.Shelf.Hex.DecodeOwns
import Derived.Shelf.Hex.More
import Derived.WalkKit
import Derived.Lib.Overlaps
import Derived.Lib.AppendZerosOnto
import Derived.Shelf.RegionOpenPlain
import Derived.Lib.SliceRun
import Derived.Laws.Externs
import Derived.Laws.IdiomCopy
import Derived.Lib.AppendZeros
import Derived.Test.YtifffdepmdnciaaGreatDoorQSA
import Derived.Test.YtifffdepmdnciaaGreatDoorQSB
namespace Go.Proofs.YtifffdepmdnciaaGreatDoor.Ri
open Go.Proofs.YtifffdepmdnciaaGreatDoor.Fw
open Go.RowKit
set_option linter.unusedVariables false
set_option linter.unusedSimpArgs false
theorem ancO_bit {acc : List Nat} {k : Nat} : ∀ {es : List Edge}, Nat.testBit (ancO acc es) k = true ↔ ∃ e ∈ es, Region.binds .any e = true ∧ (e.on = k ∨ Nat.testBit (acc.getD e.on 0) k = true)
  | [] => by simp [ancO]
  | e :: es => by
    have ih := ancO_bit (acc := acc) (k := k) (es := es)
    simp only [ancO]
    cases hb : Region.binds .any e with
    | false =>
      simp only [cond_false, ih]
      constructor
      · rintro ⟨e', h1, h2⟩; exact ⟨e', List.mem_cons_of_mem _ h1, h2⟩
      · rintro ⟨e', h1, h2, h3⟩
        rcases List.mem_cons.1 h1 with rfl | h1
        · rw [hb] at h2; cases h2
        · exact ⟨e', h1, h2, h3⟩
    | true =>
      simp only [cond_true]
      rw [Nat.testBit_or, Nat.testBit_or, Nat.one_shiftLeft, Nat.testBit_two_pow, Bool.or_eq_true, Bool.or_eq_true, decide_eq_true_eq, ih]
      constructor
      · rintro (h | h | ⟨e', h1, h2⟩)
        · exact ⟨e, List.mem_cons_self, hb, .inl h⟩
        · exact ⟨e, List.mem_cons_self, hb, .inr h⟩
        · exact ⟨e', List.mem_cons_of_mem _ h1, h2⟩
      · rintro ⟨e', h1, h2, h3⟩
        rcases List.mem_cons.1 h1 with rfl | h1
        · rcases h3 with h3 | h3
          · exact .inl h3
          · exact .inr (.inl h3)
        · exact .inr (.inr ⟨e', h1, h2, h3⟩)
theorem ancs_pre : ∀ (l : List Oper) (acc : List Nat), ∃ t, ancs acc l = acc ++ t ∧ t.length = l.length
  | [], acc => ⟨[], by simp [ancs], rfl⟩
  | o :: l, acc => by
    obtain ⟨t, h1, h2⟩ := ancs_pre l (acc ++ [ancO acc o.after.toList])
    exact ⟨ancO acc o.after.toList :: t, by simp only [ancs]; rw [h1]; simp, by simp [h2]⟩
theorem ancs_get : ∀ (l : List Oper) (acc : List Nat) (i : Nat) (o : Oper), l[i]? = some o → (ancs acc l)[acc.length + i]? = some (ancO ((ancs acc l).take (acc.length + i)) o.after.toList)
  | [], _, _, _, h => by simp at h
  | o0 :: l, acc, 0, o, h => by
    simp at h
    subst h
    obtain ⟨t, h1, h2⟩ := ancs_pre l (acc ++ [ancO acc o0.after.toList])
    simp only [ancs]
    rw [h1]
    simp
  | o0 :: l, acc, i + 1, o, h => by
    have := ancs_get l (acc ++ [ancO acc o0.after.toList]) i o (by simpa using h)
    simp only [ancs]
    rw [show acc.length + (i + 1) = (acc ++ [ancO acc o0.after.toList]).length + i by simp; omega]
    exact this
theorem anc_spec {l : List Oper} {i ai : Nat} {o : Oper} (ho : l[i]? = some o) (ha : (ancs [] l)[i]? = some ai) {k : Nat} : Nat.testBit ai k = true ↔ ∃ e ∈ o.after.toList, Region.binds .any e = true ∧ (e.on = k ∨ ∃ ae, e.on < i ∧ (ancs [] l)[e.on]? = some ae ∧ Nat.testBit ae k = true) := by
  have h := ancs_get l [] i o ho
  simp only [List.length_nil, Nat.zero_add] at h
  rw [ha] at h
  simp only [Option.some.injEq] at h
  rw [h, ancO_bit]
  constructor
  · rintro ⟨e, h1, h2, h3⟩
    refine ⟨e, h1, h2, h3.imp id fun h3 => ?_⟩
    rw [List.getD_eq_getElem?_getD, List.getElem?_take] at h3
    split at h3
    · rename_i hlt
      cases hx : (ancs [] l)[e.on]? with
      | none => rw [hx] at h3; simp at h3
      | some x => rw [hx] at h3; exact ⟨x, hlt, rfl, h3⟩
    · simp at h3
  · rintro ⟨e, h1, h2, h3⟩
    refine ⟨e, h1, h2, h3.imp id fun ⟨ae, h4, h5, h6⟩ => ?_⟩
    rw [List.getD_eq_getElem?_getD, List.getElem?_take, if_pos h4, h5]
    exact h6
theorem getD_listed {L : Array Bool} {i j : Nat} {d : Bool} (hj : j < L.size) : (L.setIfInBounds j true).getD i d = if i = j then true else L.getD i d := by
  simp only [Array.getD_eq_getD_getElem?, Array.getElem?_setIfInBounds]
  by_cases h : j = i
  · subst h; simp [hj]
  · rw [if_neg h, if_neg (Ne.symm h)]
theorem getD_any {L : Array Bool} {i : Nat} (hi : i < L.size) (d d' : Bool) : L.getD i d = L.getD i d' := by
  simp [Array.getD_eq_getD_getElem?, hi]
section
variable {τ : Tab} {Z : Lw τ} {P : Program} {fid : Nat} {D : ∀ f, InT τ (Z.sg f) → Option (OutT τ (Z.sg f))} {pins : List Nat} {H : Nat → Nat} {nx : Nat}
def PL (nx : Nat) (listed : Array Bool) (r : Nat) : Prop := r < nx ∨ ∃ j, listed.getD j false = true ∧ nx + 16 * j ≤ r ∧ r < nx + 16 * j + 16
theorem maskS_sees {U : List Nat} {m : List (Nat × Sl τ)} : Sees (maskS U (lkA m)) m := by
  intro t s h
  unfold maskS at h
  cases hb : memN t U with
  | true => rw [hb] at h; cases h
  | false =>
    rw [hb] at h
    simp only [cond_false] at h
    split at h
    · rename_i j b v hv
      cases hj : memN j U with
      | true => rw [hj] at h; cases h
      | false => rw [hj] at h; cases h; exact hv
    · cases h
    · exact h
theorem maskE_sees {nx m h : Nat} {E : List (Nat × Ex τ)} : Sees (maskE nx m h (lkA E)) E := by
  intro r e he
  unfold maskE at he
  cases hb : visN nx m h r with
  | false => rw [hb] at he; cases he
  | true => rw [hb] at he; exact he
theorem drawn_any (s : Sy P Z.ti Z.zr) (hC : CallOk Z P D) {ops : Array Oper} (hlt : ∀ i ai, (ancs [] ops.toList)[i]? = some ai → Nat.blt ai (1 <<< i) = true) {B : Bx} {pv : Nat → Value} {Q : Exit → Act → World → Prop} {σf : Sx τ}
    (hQ : ∀ σ' a' w', Like σ' σf → Rz B pins pv σ' a' w' → Q .normal a' w') : ∀ (fuel : Nat) (L : List (Nat × Nat)) (listed : Array Bool) (σ : Sx τ), L.length = fuel → listed.size = ops.size → (L.map (·.1)).Pairwise (· < ·) → (∀ i, i < ops.size → (listed.getD i true = false ↔ i ∈ L.map (·.1))) → (∀ x ∈ L, x.1 < ops.size) →
      (∀ j aj k, (ancs [] ops.toList)[j]? = some aj → listed.getD j false = true → Nat.testBit aj k = true → listed.getD k false = true) →
      (∀ x ∈ L, ∀ y ∈ L, x.1 < y.1 → (∀ ay, (ancs [] ops.toList)[y.1]? = some ay → Nat.testBit ay x.1 = false) → Cmp (ancs [] ops.toList) H nx x.1 x.2 y.1 y.2) →
      Nm (PL nx listed) σ → RunA Z fid D pins ops.toList (ancs [] ops.toList) H nx L σ σf → ∀ a w, Rz B pins pv σ a w → wpAny P .any ops Q fuel listed a w
  | 0, L, listed, σ, hf, hsz, hso, hiff, hLn, hcl, hcm, hn, hrun, a, w, hR => by
    have hL : L = [] := List.length_eq_zero_iff.1 hf
    subst hL
    refine ⟨List.eq_nil_iff_forall_not_mem.2 fun j hj => ?_, hQ σ a w hrun hR⟩
    obtain ⟨h1, o, h2, _⟩ := mem_ready.1 hj
    have := (hiff j (Array.getElem?_eq_some_iff.1 h2).1).1 h1
    cases this
  | fuel + 1, L, listed, σ, hf, hsz, hso, hiff, hLn, hcl, hcm, hn, hrun, a, w, hR => by
    have hanl : (ancs [] ops.toList).length = ops.size := by
      obtain ⟨t, h1, h2⟩ := ancs_pre ops.toList []
      rw [h1]; simp [h2]
    have hunl : ∀ i, i < ops.size → i ∉ L.map (·.1) → listed.getD i false = true := by
      intro i hi hm
      have h1 : ¬ listed.getD i true = false := fun h => hm ((hiff i hi).1 h)
      rw [getD_any (by omega) false true]
      simpa using h1
    refine ⟨fun hnil => ?_, fun j hj => ?_⟩
    · exfalso
      obtain ⟨⟨i, c⟩, L', rfl⟩ : ∃ x L', L = x :: L' := by
        cases L with
        | nil => cases hf
        | cons x L' => exact ⟨x, L', rfl⟩
      · skip
        have hin : i < ops.size := hLn (i, c) List.mem_cons_self
        have hai : (ancs [] ops.toList)[i]? = some (ancs [] ops.toList)[i] := List.getElem?_eq_getElem (by omega)
        have : i ∈ Region.ready .any ops listed := by
          refine mem_ready.2 ⟨(hiff i hin).2 (by simp), ops[i], by simp [hin], fun e he hb => ?_⟩
          have hbit : Nat.testBit (ancs [] ops.toList)[i] e.on = true := (anc_spec (l := ops.toList) (i := i) (o := ops[i]) (by simp [hin]) hai).2 ⟨e, by simpa using he, hb, .inl rfl⟩
          have hlt' : e.on < i := by
            rcases Nat.lt_or_ge e.on i with h | h
            · exact h
            · rw [lt_shift (hlt i _ hai) h] at hbit; cases hbit
          refine hunl e.on (by omega) fun hm => ?_
          simp only [List.map_cons, List.pairwise_cons] at hso
          rcases List.mem_cons.1 hm with h | h
          · simp only at h; omega
          · have := hso.1 _ h; omega
        rw [hnil] at this
        cases this
    · obtain ⟨h1, oj, h2, h3⟩ := mem_ready.1 hj
      have hjn : j < ops.size := (Array.getElem?_eq_some_iff.1 h2).1
      have hjL := (hiff j hjn).1 h1
      obtain ⟨⟨j', cj⟩, hmem, hj'⟩ := List.mem_map.1 hjL
      simp only at hj'
      subst hj'
      obtain ⟨pre, post, rfl⟩ := List.append_of_mem hmem
      have haj : (ancs [] ops.toList)[j']? = some (ancs [] ops.toList)[j'] := List.getElem?_eq_getElem (by omega)
      have hol : ops.toList[j']? = some oj := by simpa using h2
      have hbits : ∀ k, Nat.testBit (ancs [] ops.toList)[j'] k = true → listed.getD k false = true := by
        intro k hk
        obtain ⟨e, e1, e2, e3⟩ := (anc_spec hol haj).1 hk
        have he := h3 e (by simpa using e1) e2
        rcases e3 with e3 | ⟨ae, e4, e5, e6⟩
        · rw [← e3]; exact he
        · exact hcl e.on ae k e5 he e6
      have hso' := hso
      simp only [List.map_append, List.map_cons, List.pairwise_append, List.pairwise_cons] at hso'
      obtain ⟨so1, ⟨so2, so3⟩, so4⟩ := hso'
      have hprelt : ∀ x ∈ pre, x.1 < j' := fun x hx => so4 x.1 (List.mem_map.2 ⟨x, hx, rfl⟩) j' List.mem_cons_self
      have hnl : ∀ i, i < ops.size → i ∈ (pre ++ (j', cj) :: post).map (·.1) → listed.getD i false = false := fun i hi hm => by
        rw [getD_any (by omega) false true]; exact (hiff i hi).2 hm
      obtain ⟨σ1, r1, r2⟩ := RunA.first hrun fun x hx => by
        have hxl := hprelt x hx
        have hxL : x ∈ pre ++ (j', cj) :: post := List.mem_append_left _ hx
        have hxb : Nat.testBit (ancs [] ops.toList)[j'] x.1 = false := by
          cases hb : Nat.testBit (ancs [] ops.toList)[j'] x.1 with
          | false => rfl
          | true =>
            have e1 := hbits _ hb
            rw [hnl x.1 (hLn x hxL) (List.mem_map.2 ⟨x, hxL, rfl⟩)] at e1
            cases e1
        refine ⟨by omega, fun ai aj e1 e2 => ?_, hcm x hxL (j', cj) (by simp) hxl fun ay hay => ?_⟩
        · rw [haj] at e2; cases e2
          exact ⟨hxb, lt_shift (hlt _ _ e1) (by omega)⟩
        · simp only at hay
          rw [haj] at hay; cases hay
          exact hxb
      have hstep : stepO Z fid D pins nx ops.toList (visN nx (ancs [] ops.toList)[j'] (H j')) (nx + 16 * j') (maskS (usl j' (ancs [] ops.toList)[j'] 0 (ancs [] ops.toList) ops.toList) (lkA σ.ρ)) (maskE nx (ancs [] ops.toList)[j'] (H j') (lkA σ.E)) oj σ = some (cj, σ1) := by
        unfold stepI at r1
        rw [hol, haj] at r1
        simp only at r1
        cases hb : dok oj.dst (usl j' (ancs [] ops.toList)[j'] 0 (ancs [] ops.toList) ops.toList) && (ancs [] ops.toList)[j'].blt (1 <<< j') with
        | false => rw [hb] at r1; cases r1
        | true => rw [hb] at r1; exact r1
      have hjl : listed.getD j' false = false := hnl j' hjn hjL
      obtain ⟨k1, k2, k3⟩ := stepO_ok (opsA := ops) s hC hn (fun r q1 q2 q3 => by
          rcases q3 with q3 | ⟨k, q3, q4, q5⟩
          · omega
          · have hkj : k = j' := by omega
            rw [hkj, hjl] at q3
            cases q3) (fun r hr => by
          unfold visN at hr
          cases hb : Nat.blt r nx with
          | true => exact .inl (Nat.le_of_ble_eq_true hb)
          | false =>
            rw [hb] at hr
            simp only [cond_false] at hr
            have hge : nx ≤ r := by
              rcases Nat.lt_or_ge r nx with h | h
              · have : Nat.blt r nx = true := Nat.ble_eq_true_of_le h
                rw [this] at hb; cases hb
              · exact h
            exact .inr ⟨_, hbits _ hr, by omega, by omega⟩) maskS_sees maskE_sees hstep
      have key := k3 B pv a w hR (wpAny P .any ops Q fuel (listed.setIfInBounds j' true)) Q fun a' w' hR' => by
        have hsub : ∀ x, x ∈ pre ++ post → x ∈ pre ++ (j', cj) :: post := fun x hx => by
          rcases List.mem_append.1 hx with hx | hx
          · exact List.mem_append_left _ hx
          · exact List.mem_append_right _ (List.mem_cons_of_mem _ hx)
        refine drawn_any s hC hlt hQ fuel (pre ++ post) _ σ1 (by simp at hf ⊢; omega) (by simpa using hsz) ?_ (fun i hi => ?_) (fun x hx => hLn x (hsub x hx)) (fun j aj k e1 e2 e3 => ?_) (fun x hx y hy => hcm x (hsub x hx) y (hsub y hy)) (k2.mono fun r hr => ?_) r2 a' w' hR'
        · simp only [List.map_append, List.pairwise_append]
          exact ⟨so1, so3, fun x hx y hy => so4 x hx y (List.mem_cons_of_mem _ hy)⟩
        · rw [getD_listed (by omega)]
          by_cases hij : i = j'
          · subst hij
            rw [if_pos rfl]
            refine ⟨fun h => (by cases h), fun hm => ?_⟩
            simp only [List.map_append] at hm
            rcases List.mem_append.1 hm with hm | hm
            · have := so4 i hm i List.mem_cons_self; omega
            · have := so2 i hm; omega
          · rw [if_neg hij, hiff i hi]
            simp only [List.map_append, List.map_cons, List.mem_append, List.mem_cons, hij, false_or]
        · rw [getD_listed (by omega)] at e2 ⊢
          by_cases hkj : k = j'
          · rw [if_pos hkj]
          · rw [if_neg hkj]
            by_cases hjj : j = j'
            · subst hjj
              rw [haj] at e1; cases e1
              exact hbits k e3
            · rw [if_neg hjj] at e2
              exact hcl j aj k e1 e2 e3
        · rcases hr with (hr | ⟨k, e1, e2⟩) | hr
          · exact .inl hr
          · refine .inr ⟨k, ?_, e2⟩
            rw [getD_listed (by omega)]
            split
            · rfl
            · exact e1
          · exact .inr ⟨j', by rw [getD_listed (by omega), if_pos rfl], hr.1, hr.2⟩
      unfold Go.wpOp
      simp only [h2]
      split
      · rename_i hw
        rw [if_pos hw] at key
        exact .inl key
      · rename_i hw
        rw [if_neg hw] at key
        exact key
theorem sep_ok {K h a j r : Nat} (hs : sep nx K h a j = true) (hr : Nat.testBit K (keyN nx r) = true) : visN nx a h r = false ∧ ¬ (nx + 16 * j ≤ r ∧ r < nx + 16 * j + 16) := by
  unfold sep at hs
  simp only [Bool.and_eq_true] at hs
  have h1 := Nat.eq_of_beq_eq_true hs.1
  have h2 := Nat.eq_of_beq_eq_true hs.2
  unfold visN
  unfold keyN at hr
  cases hb : Nat.blt r nx with
  | true =>
    rw [hb] at hr
    have hlt : r < nx := Nat.le_of_ble_eq_true hb
    have h3 := congrArg (fun n => Nat.testBit n r) h1
    simp only [Nat.testBit_and, Nat.testBit_mod_two_pow, hlt, decide_true, Bool.true_and] at h3
    simp only [cond_true] at hr ⊢
    rw [hr] at h3
    simp only [Bool.true_and] at h3
    rw [h3]
    exact ⟨rfl, by omega⟩
  | false =>
    rw [hb] at hr
    have hge : nx ≤ r := by
      rcases Nat.lt_or_ge r nx with h | h
      · have : Nat.blt r nx = true := Nat.ble_eq_true_of_le h
        rw [this] at hb; cases hb
      · exact h
    simp only [cond_false] at hr ⊢
    have h3 := congrArg (fun n => Nat.testBit n ((r - nx) / 16)) h2
    simp only [Nat.testBit_and, Nat.testBit_or, Nat.testBit_shiftRight, hr, Bool.true_and, Nat.zero_testBit, Bool.or_eq_false_iff] at h3
    refine ⟨h3.1, fun ⟨q1, q2⟩ => ?_⟩
    have e : (r - nx) / 16 = j := by omega
    have h4 := h3.2
    rw [e, Nat.one_shiftLeft, Nat.testBit_two_pow_self] at h4
    cases h4
theorem apt_of {A : List Nat} {i c j c' ai aj : Nat} (hi : A[i]? = some ai) (hj : A[j]? = some aj) (hij : i ≠ j) (h1 : sep nx (c / 2) (H j) aj j = true) (h2 : sep nx (c' / 2) (H i) ai i = true) (h3 : (c / 2) &&& (c' / 2) = 0) : Apt A H nx i c j c' := by
  intro r aj' hj' hb hr
  rw [hj] at hj'; cases hj'
  rcases hr with ⟨q1, q2⟩ | hr
  · refine ⟨visN_own hb q1 q2, ?_⟩
    rintro (⟨k1, k2⟩ | k)
    · omega
    · exact (sep_ok h2 k).2 ⟨q1, q2⟩
  · refine ⟨(sep_ok h1 hr).1, ?_⟩
    rintro (k | k)
    · exact (sep_ok h1 hr).2 k
    · have h4 := congrArg (fun n => Nat.testBit n (keyN nx r)) h3
      simp only [Nat.testBit_and, hr, k, Bool.and_self, Nat.zero_testBit] at h4
      cases h4
theorem okC_ok {A : List Nat} {i ai c : Nat} (hi : A[i]? = some ai) : ∀ {cs : List (Nat × Nat)}, okC nx A H i ai c cs = true → ∀ x ∈ cs, x.1 < i → Nat.testBit ai x.1 = false → Cmp A H nx x.1 x.2 i c
  | [], _, _, h, _, _ => by cases h
  | (j, c') :: cs, h, x, hx, hlt, hb => by
    simp only [okC] at h
    cases h0 : (Nat.beq c 0 || (Nat.testBit ai j || (Nat.beq c' 0 || (sep nx (c / 2) (H j) (A.getD j 0) j && (sep nx (c' / 2) (H i) ai i && Nat.beq ((c / 2) &&& (c' / 2)) 0))))) with
    | false => rw [h0] at h; cases h
    | true =>
      rw [h0] at h
      rcases List.mem_cons.1 hx with hx | hx
      · subst hx
        simp only [Bool.or_eq_true, Bool.and_eq_true] at h0
        simp only at hb hlt ⊢
        rw [hb] at h0
        rcases h0 with h0 | h0 | h0 | ⟨h0, h1, h2⟩
        · exact .inr (.inl (Nat.eq_of_beq_eq_true h0))
        · cases h0
        · exact .inl (Nat.eq_of_beq_eq_true h0)
        · have hil := (List.getElem?_eq_some_iff.1 hi).1
          have hj : A[j]? = some (A.getD j 0) := by
            rw [List.getD_eq_getElem?_getD, List.getElem?_eq_getElem (show j < A.length by omega)]; rfl
          have h2 := Nat.eq_of_beq_eq_true h2
          exact .inr (.inr ⟨apt_of hj hi (by omega) h1 h0 (by rw [Nat.and_comm]; exact h2), apt_of hi hj (by omega) h0 h1 h2⟩)
      · exact okC_ok hi h x hx hlt hb
theorem drawK_run (s : Sy P Z.ti Z.zr) (hC : CallOk Z P D) {R : Type} {ops : Array Oper} {k : Sx τ → Nat → Option R} {r : R} : ∀ (rest : List Oper) (i : Nat) (cs : List (Nat × Nat)) (σ : Sx τ), (∀ j o, rest[j]? = some o → ops.toList[i + j]? = some o) → (∀ x ∈ cs, x.1 < i) → drawK Z fid D pins ops.toList (ancs [] ops.toList) H nx i rest cs σ k = some r → Nm (· < nx + 16 * i) σ →
    ∃ L σf, L.map (·.1) = List.range' i rest.length ∧ RunA Z fid D pins ops.toList (ancs [] ops.toList) H nx L σ σf ∧ k σf (nx + 16 * (i + rest.length)) = some r ∧ Nm (· < nx + 16 * (i + rest.length)) σf ∧ σf.n = σ.n ∧ (∀ j, i ≤ j → j < i + rest.length → ∀ aj, (ancs [] ops.toList)[j]? = some aj → Nat.blt aj (1 <<< j) = true) ∧
      (∀ y ∈ L, ∀ x ∈ cs, (∀ ay, (ancs [] ops.toList)[y.1]? = some ay → Nat.testBit ay x.1 = false) → Cmp (ancs [] ops.toList) H nx x.1 x.2 y.1 y.2) ∧ ∀ x ∈ L, ∀ y ∈ L, x.1 < y.1 → (∀ ay, (ancs [] ops.toList)[y.1]? = some ay → Nat.testBit ay x.1 = false) → Cmp (ancs [] ops.toList) H nx x.1 x.2 y.1 y.2
  | [], i, cs, σ, ho, hcs, h, hn => by
    simp only [drawK, knowG_eq] at h
    exact ⟨[], σ, rfl, Like.refl σ, h, hn, rfl, fun j h1 h2 => (by simp at h2; omega), fun y hy => (by cases hy), fun x hx => (by cases hx)⟩
  | o :: rest, i, cs, σ, ho, hcs, h, hn => by
    simp only [drawK, knowG_eq] at h
    split at h
    · rename_i ai hai
      cases hb : dok o.dst (usl i ai 0 (ancs [] ops.toList) ops.toList) && Nat.blt ai (1 <<< i) with
      | false => rw [hb] at h; cases h
      | true =>
        rw [hb] at h
        simp only [cond_true] at h
        have hb' := hb
        simp only [Bool.and_eq_true] at hb'
        obtain ⟨c, σ1, h1, h2⟩ := stepK_bind h
        cases hok : okC nx (ancs [] ops.toList) H i ai c cs with
        | false => rw [hok] at h2; cases h2
        | true =>
          rw [hok] at h2
          simp only [cond_true] at h2
          have hoi : ops.toList[i]? = some o := by have := ho 0 o rfl; simpa using this
          have hs : stepI Z fid D pins ops.toList (ancs [] ops.toList) H nx i σ = some (c, σ1) := by
            unfold stepI
            rw [hoi, hai]
            simp only [hb, cond_true]
            exact h1
          obtain ⟨k1, k2, k3⟩ := stepO_ok (opsA := ops) s hC hn (fun r q1 q2 q3 => by have : r < nx + 16 * i := q3; omega) (fun r hr => visN_lt hb'.2 hr) maskS_sees maskE_sees h1
          obtain ⟨L, σf, z1, z2, z3, z4, z5, z6, z7, z8⟩ := drawK_run s hC rest (i + 1) ((i, c) :: cs) σ1 (fun j o' hj => by have := ho (j + 1) o' (by simpa using hj); rw [show i + 1 + j = i + (j + 1) by omega]; exact this) (fun x hx => by
            rcases List.mem_cons.1 hx with hx | hx
            · subst hx; exact Nat.lt_succ_self i
            · have := hcs x hx; omega) h2 (k2.mono fun r hr => by
            show r < nx + 16 * (i + 1)
            rcases hr with hr | hr
            · have : r < nx + 16 * i := hr; omega
            · omega)
          have hle : i + 1 + rest.length = i + (o :: rest).length := by simp; omega
          rw [hle] at z3 z4 z6
          have hLi : ∀ y ∈ L, i < y.1 := fun y hy => by
            have : y.1 ∈ L.map (·.1) := List.mem_map.2 ⟨y, hy, rfl⟩
            rw [z1, List.mem_range'_1] at this
            omega
          refine ⟨(i, c) :: L, σf, ?_, ⟨σ1, hs, z2⟩, z3, z4, z5.trans k1, fun j q1 q2 aj q3 => ?_, fun y hy x hx hbit => ?_, fun x hx y hy hxy hbit => ?_⟩
          · simp only [List.map_cons, z1, List.length_cons, List.range'_succ]
          · by_cases hji : j = i
            · subst hji; rw [hai] at q3; cases q3; exact hb'.2
            · exact z6 j (by omega) q2 aj q3
          · rcases List.mem_cons.1 hy with hy | hy
            · subst hy; exact okC_ok hai hok x hx (hcs x hx) (hbit ai hai)
            · exact z7 y hy x (List.mem_cons_of_mem _ hx) hbit
          · rcases List.mem_cons.1 hx with hx | hx
            · subst hx
              rcases List.mem_cons.1 hy with hy | hy
              · subst hy; simp only at hxy; omega
              · exact z7 y hy _ List.mem_cons_self hbit
            · rcases List.mem_cons.1 hy with hy | hy
              · subst hy
                have := hLi x hx
                simp only at hxy
                omega
              · exact z8 x hx y hy hxy hbit
    · cases h
theorem draws_ok (hm : P.follows .mixedOrders = true) (s : Sy P Z.ti Z.zr) : DrawsOk Z P := by
  intro D hC fid pins R ops id nx σ k r h hn
  obtain ⟨L, σf, z1, z2, z3, z4, z5, z6, z7, z8⟩ := drawK_run (fid := fid) (pins := pins) s hC ops.toList 0 [] σ (fun j o hj => by simpa using hj) (fun x hx => by cases hx) h (hn.mono fun r hr => by show r < nx + 16 * 0; have : r < nx := hr; omega)
  refine ⟨σf, _, z3, z4, z5, fun B pv a w hR Q hQ => wp_region_any hm ?_⟩
  have hLlen : L.length = ops.size := by
    have := congrArg List.length z1
    simpa using this
  have hL0 : L.map (·.1) = List.range' 0 ops.size := by simpa using z1
  have hanl : (ancs [] ops.toList).length = ops.size := by
    obtain ⟨t, h1, h2⟩ := ancs_pre ops.toList []
    rw [h1]; simp [h2]
  obtain ⟨⟨θ, S, hR⟩, hP⟩ := hR
  refine drawn_any s hC (fun i ai hai => ?_) (fun σ' a' w' hl h' => hQ a' w' (hl.rz h')) ops.size L _ σ hLlen (by simp) ?_ (fun i hi => ?_) (fun x hx => ?_) (fun j aj k e1 e2 => ?_) z8 (hn.mono fun r hr => .inl hr) z2 a _ ⟨⟨θ, S, hR.drew⟩, hP⟩
  · have := (List.getElem?_eq_some_iff.1 hai).1
    exact z6 i (Nat.zero_le _) (by simp; omega) ai hai
  · rw [hL0]
    exact List.pairwise_lt_range'
  · rw [hL0, List.mem_range'_1]
    simp [hi]
  · have : x.1 ∈ L.map (·.1) := List.mem_map.2 ⟨x, hx, rfl⟩
    rw [hL0, List.mem_range'_1] at this
    omega
  · exfalso
    rw [Array.getD_eq_getD_getElem?, Array.getElem?_replicate] at e2
    split at e2 <;> simp at e2
end
end Go.Proofs.YtifffdepmdnciaaGreatDoor.Ri

namespace Go.Proofs.YtifffdepmdnciaaGreatDoor.Ri
open Go.Proofs.YtifffdepmdnciaaGreatDoor.Fw
open Go.RowKit
set_option linter.unusedVariables false
set_option linter.unusedSimpArgs false
section
variable {τ : Tab} {R : Type} {Z : Lw τ} {fid : Nat} {D : ∀ f, InT τ (Z.sg f) → Option (OutT τ (Z.sg f))} {pins : List Nat}
def Loc (Z : Lw τ) {α : Type} (D : ∀ f, InT τ (Z.sg f) → Option (OutT τ (Z.sg f))) (g : (∀ f, InT τ (Z.sg f) → Option (OutT τ (Z.sg f))) → Option α) (r : α) : Prop :=
  (∀ D', g D' = some r) ∨ ∃ f x y, D f x = some y ∧ ∀ D', D' f x = some y → g D' = some r
theorem callK_loc {vr : Nat → Nat} {l : Nat → Option (Sl τ)} {El : Nat → Option (Ex τ)} {G : List (Nat × Bool)} {b : Nat} {c : Call} {k : Eff τ → Option R} {r : R} (h : callK Z D vr l El G b c k = some r) : Loc Z D (fun D => callK Z D vr l El G b c k) r := by
  unfold callK at h
  split at h
  · rename_i f0 cl hc
    obtain ⟨f, hf⟩ : ∃ f, vr f0 = f := ⟨_, rfl⟩
    have e : ∀ D' : ∀ f, InT τ (Z.sg f) → Option (OutT τ (Z.sg f)), callK Z D' vr l El G b c k = callV Z D' l El G b c.args.toList cl k f0 f := fun D' => by unfold callK; rw [hc]; show callV _ _ _ _ _ _ _ _ _ _ _ = _; rw [hf]
    rw [hf] at h
    have h0 := h
    unfold callV at h
    cases h1 : Nat.beq (Z.bs f) f0 with
    | false => rw [h1] at h; cases h
    | true =>
      rw [h1] at h
      simp only [cond_true] at h
      split at h
      · rename_i vs hvs
        split at h
        · rename_i x L fr hx
          cases h2 : nodupN (somes L) with
          | false => rw [h2] at h; cases h
          | true =>
            cases h3 : apart (somes L) fr with
            | false => rw [h2, h3] at h; cases h
            | true =>
              rw [h2, h3] at h
              simp only [cond_true] at h
              split at h
              · rename_i y hy
                refine .inr ⟨f, x, y, hy, fun D' h' => ?_⟩
                show callK Z D' vr l El G b c k = some r
                rw [e]
                simp only [callV, h1, hvs, hx, h2, h3, cond_true, h']
                exact h
              · cases h
        · cases h
      · cases h
  · cases h
theorem stepK_loc {nx : Nat} {ops : List Oper} {q : Nat → Bool} {b : Nat} {l : Nat → Option (Sl τ)} {El : Nat → Option (Ex τ)} {o : Oper} {σ : Sx τ} {k : Nat → Sx τ → Option R} {r : R} (h : stepK Z fid D pins nx ops q b l El o σ k = some r) : Loc Z D (fun D => stepK Z fid D pins nx ops q b l El o σ k) r := by
  have call : ∀ {G : List (Nat × Bool)} {c : Call} {k' : Eff τ → Option R}, callK Z D (Z.vr fid) l El G b c k' = some r → (∀ D', stepK Z fid D' pins nx ops q b l El o σ k = callK Z D' (Z.vr fid) l El G b c k') → Loc Z D (fun D => stepK Z fid D pins nx ops q b l El o σ k) r := by
    intro G c k' h1 h2
    rcases callK_loc h1 with h3 | ⟨f, x, y, h3, h4⟩
    · exact .inl fun D' => (h2 D').trans (h3 D')
    · exact .inr ⟨f, x, y, h3, fun D' h' => (h2 D').trans (h4 D' h')⟩
  have h0 := h
  unfold stepK at h
  split at h
  · rename_i hg
    split at h
    · rename_i c v hv
      exact .inl fun D' => by unfold stepK; simp only [hg, hv]; exact h
    · rename_i hv
      split at h
      · rename_i c ef he
        exact .inl fun D' => by unfold stepK; simp only [hg, hv, he]; exact h
      · rename_i he
        split at h
        · rename_i c hop
          refine call h fun D' => ?_
          unfold stepK
          rw [hop] at hv he
          simp only [hg, hop, hv, he]
        · cases h
  · rename_i j want hg
    split at h
    · rename_i t ht
      split at h
      · rename_i g G hgr
        split at h
        · rename_i c v hv
          exact .inl fun D' => by unfold stepK; simp only [hg, ht, hgr, hv]; exact h
        · rename_i hv
          cases hgt : g with
          | false =>
            subst hgt
            exact .inl fun D' => by unfold stepK; simp only [hg, ht, hgr, hv]; exact h
          | true =>
            subst hgt
            simp only [cond_true] at h
            split at h
            · rename_i c ef he
              exact .inl fun D' => by unfold stepK; simp only [hg, ht, hgr, hv, he, cond_true]; exact h
            · rename_i he
              split at h
              · rename_i c hop
                refine call h fun D' => ?_
                unfold stepK
                rw [hop] at hv he
                simp only [hg, ht, hgr, hop, hv, he, cond_true]
              · cases h
      · cases h
    · cases h
end
def Ev (p : Nat → Prop) : Prop := ∃ N, ∀ n, N ≤ n → p n
theorem Ev.all {p : Nat → Prop} (h : ∀ n, p n) : Ev p := ⟨0, fun n _ => h n⟩
theorem Ev.and {p q r : Nat → Prop} (h1 : Ev p) (h2 : Ev q) (h : ∀ n, p n → q n → r n) : Ev r := by
  obtain ⟨N, h1⟩ := h1
  obtain ⟨M, h2⟩ := h2
  exact ⟨max N M, fun n hn => h n (h1 n (by omega)) (h2 n (by omega))⟩
def Lim {α β : Type} (k : α → Option β) (kn : Nat → α → Option β) : Prop := ∀ a r, k a = some r → Ev fun n => kn n a = some r
def Lim2 {α β γ : Type} (k : α → γ → Option β) (kn : Nat → α → γ → Option β) : Prop := ∀ a c r, k a c = some r → Ev fun n => kn n a c = some r
section
variable {τ : Tab} {R : Type} {Z : Lw τ} {fid : Nat} {D : ∀ f, InT τ (Z.sg f) → Option (OutT τ (Z.sg f))} {Dn : Nat → ∀ f, InT τ (Z.sg f) → Option (OutT τ (Z.sg f))} {pins : List Nat}
theorem Loc.ev {α : Type} {g : (∀ f, InT τ (Z.sg f) → Option (OutT τ (Z.sg f))) → Option α} {r : α} (h : Loc Z D g r) (hD : ∀ f, Lim (D f) fun n => Dn n f) : Ev fun n => g (Dn n) = some r := by
  rcases h with h | ⟨f, x, y, h1, h2⟩
  · exact Ev.all fun n => h _
  · obtain ⟨N, h3⟩ := hD f x y h1
    exact ⟨N, fun n hn => h2 _ (h3 n hn)⟩
theorem stepK_of {nx : Nat} {ops : List Oper} {q : Nat → Bool} {b : Nat} {l : Nat → Option (Sl τ)} {El : Nat → Option (Ex τ)} {o : Oper} {σ σ' : Sx τ} {c : Nat} (h : stepO Z fid D pins nx ops q b l El o σ = some (c, σ')) (k : Nat → Sx τ → Option R) : stepK Z fid D pins nx ops q b l El o σ k = k c σ' := by
  have put : ∀ {c0 : Nat} {d : Option Nat} {s : Sl τ} {σ : Sx τ}, putK pins d s σ (fun σ' => some (c0, σ')) = some (c, σ') → putK pins d s σ (k c0) = k c σ' := by
    intro c0 d s σ h
    obtain ⟨σ1, h1, h2⟩ := putK_bind h
    cases h2
    exact h1 _ _
  have app : ∀ {c0 : Nat} {d : Option Nat} {q : Nat → Bool} {ef : Eff τ} {σ : Sx τ}, appK pins d q ef σ (fun σ' => some (c0, σ')) = some (c, σ') → appK pins d q ef σ (k c0) = k c σ' := by
    intro c0 d q ef σ h
    obtain ⟨σ1, h1, h2⟩ := appK_bind h
    cases h2
    exact h1 _ _
  unfold stepO stepK at h
  unfold stepK
  split at h
  · rename_i hg
    try simp only [hg]
    split at h
    · rename_i c0 v hv
      try simp only [hv]
      cases hc : c0 with
      | false => rw [hc] at h; cases h
      | true =>
        rw [hc] at h
        simp only [cond_true] at h ⊢
        cases hb : v.bl q with
        | false => rw [hb] at h; cases h
        | true => rw [hb] at h; exact put h
    · rename_i hv
      try simp only [hv]
      split at h
      · rename_i c0 ef he
        try simp only [he]
        cases hc : c0 with
        | false => rw [hc] at h; cases h
        | true => rw [hc] at h; exact app h
      · rename_i he
        try simp only [he]
        split at h
        · rename_i cl hop
          try simp only [hop]
          obtain ⟨ef, h1, h2⟩ := callK_bind h
          rw [h1]
          exact app h2
        · cases h
  · rename_i j want hg
    try simp only [hg]
    split at h
    · rename_i t ht
      try simp only [ht]
      split at h
      · rename_i g G hgr
        try simp only [hgr]
        split at h
        · rename_i c0 v hv
          try simp only [hv]
          cases hc : (bif c0 then true else !g) with
          | false => rw [hc] at h; cases h
          | true =>
            rw [hc] at h
            simp only [cond_true] at h ⊢
            cases hb : v.bl q && gdok o.dst t with
            | false => rw [hb] at h; cases h
            | true => rw [hb] at h; exact put h
        · rename_i hv
          try simp only [hv]
          cases hgt : g with
          | false =>
            rw [hgt] at h
            exact put h
          | true =>
            rw [hgt] at h
            simp only [cond_true] at h ⊢
            split at h
            · rename_i c0 ef he
              try simp only [he]
              cases hc : c0 with
              | false => rw [hc] at h; cases h
              | true => rw [hc] at h; exact app h
            · rename_i he
              try simp only [he]
              split at h
              · rename_i cl hop
                try simp only [hop]
                obtain ⟨ef, h1, h2⟩ := callK_bind h
                rw [h1]
                exact app h2
              · cases h
      · cases h
    · cases h
theorem stepK_lim {nx : Nat} {ops : List Oper} {q : Nat → Bool} {b : Nat} {l : Nat → Option (Sl τ)} {El : Nat → Option (Ex τ)} {o : Oper} {σ : Sx τ} {k : Nat → Sx τ → Option R} {kn : Nat → Nat → Sx τ → Option R} {r : R} (hD : ∀ f, Lim (D f) fun n => Dn n f) (hk : Lim2 k kn) (h : stepK Z fid D pins nx ops q b l El o σ k = some r) : Ev fun n => stepK Z fid (Dn n) pins nx ops q b l El o σ (kn n) = some r := by
  obtain ⟨c, σ', h1, h2⟩ := stepK_bind h
  refine Ev.and ((stepK_loc h1).ev hD) (hk c σ' r h2) fun n h3 h4 => ?_
  rw [stepK_of h3]
  exact h4
theorem rgnK_lim (hD : ∀ f, Lim (D f) fun n => Dn n f) {ops : List Oper} {k : Sx τ → Nat → Option R} {kn : Nat → Sx τ → Nat → Option R} (hk : Lim2 k kn) : ∀ {rs : List Oper} {b : Nat} {σ : Sx τ} {r : R}, rgnK Z fid D pins ops b rs σ k = some r → Ev fun n => rgnK Z fid (Dn n) pins ops b rs σ (kn n) = some r
  | [], b, σ, r, h => hk _ _ _ h
  | o :: rs, b, σ, r, h => by
    simp only [rgnK, knowG_eq] at h ⊢
    exact stepK_lim (kn := fun n _ σ' => rgnK Z fid (Dn n) pins ops (b + 16) rs σ' (kn n)) hD (fun c σ' r h' => rgnK_lim hD hk h') h
theorem drawK_lim (hD : ∀ f, Lim (D f) fun n => Dn n f) {ops : List Oper} {A : List Nat} {H : Nat → Nat} {nx : Nat} {k : Sx τ → Nat → Option R} {kn : Nat → Sx τ → Nat → Option R} (hk : Lim2 k kn) : ∀ {rs : List Oper} {i : Nat} {cs : List (Nat × Nat)} {σ : Sx τ} {r : R}, drawK Z fid D pins ops A H nx i rs cs σ k = some r → Ev fun n => drawK Z fid (Dn n) pins ops A H nx i rs cs σ (kn n) = some r
  | [], i, cs, σ, r, h => hk _ _ _ h
  | o :: rs, i, cs, σ, r, h => by
    simp only [drawK, knowG_eq] at h ⊢
    split at h
    · rename_i ai hai
      try simp only [hai]
      cases hb : dok o.dst (usl i ai 0 A ops) && Nat.blt ai (1 <<< i) with
      | false => rw [hb] at h; cases h
      | true =>
        rw [hb] at h
        simp only [cond_true] at h ⊢
        refine stepK_lim (kn := fun n c σ' => bif okC nx A H i ai c cs then drawK Z fid (Dn n) pins ops A H nx (i + 1) rs ((i, c) :: cs) σ' (kn n) else none) hD (fun c σ' r h' => ?_) h
        cases hc : okC nx A H i ai c cs with
        | false => rw [hc] at h'; cases h'
        | true =>
          rw [hc] at h'
          obtain ⟨N, hN⟩ := drawK_lim hD hk h'
          exact ⟨N, fun n hn => by simp only [hc, cond_true]; exact hN n hn⟩
    · cases h
structure LimKt (K : Kt τ R) (Kn : Nat → Kt τ R) : Prop where
  k : Lim2 K.k fun n => (Kn n).k
  ex : ∀ id k, lkA K.ex id = some k → ∃ kn : Nat → Sx τ → Nat → Option R, (∀ n, lkA (Kn n).ex id = some (kn n)) ∧ Lim2 k kn
theorem LimKt.block {K : Kt τ R} {Kn : Nat → Kt τ R} (h : LimKt K Kn) (id : Nat) : LimKt ⟨K.k, (id, K.k) :: K.ex⟩ fun n => ⟨(Kn n).k, (id, (Kn n).k) :: (Kn n).ex⟩ := ⟨h.k, fun i k hk => by
  simp only [lkA] at hk ⊢
  cases hb : Nat.beq id i with
  | true => rw [hb] at hk; cases hk; exact ⟨fun n => (Kn n).k, fun n => rfl, h.k⟩
  | false => rw [hb] at hk; exact h.ex i k hk⟩
variable {J : Nat → Sx τ → Nat → Option R} {Jn : Nat → Nat → Sx τ → Nat → Option R} {rt : Sx τ → Nat → Option R}
theorem meetK_lim (hJ : ∀ p, Lim2 (J p) fun n => Jn n p) {p : Nat} {σ : Sx τ} {nx : Nat} {k : Sx τ → Nat → Option R} {kn : Nat → Sx τ → Nat → Option R} {r : R} (hk : Lim2 k kn) (h : meetK Z fid J p σ nx k = some r) : Ev fun n => meetK Z fid (Jn n) p σ nx (kn n) = some r := by
  unfold meetK at h ⊢
  cases ha : Z.ann fid p with
  | none => rw [ha] at h; exact hk _ _ _ h
  | some A =>
    rw [ha] at h
    simp only at h ⊢
    cases hm : meetX A σ nx with
    | none => rw [hm] at h; cases h
    | some q => rw [hm] at h; exact hJ p _ _ _ h
theorem loopK_lim (hJ : ∀ p, Lim2 (J p) fun n => Jn n p) {p : Nat} {σ : Sx τ} {nx : Nat} {r : R} (h : loopK Z fid J p σ nx = some r) : Ev fun n => loopK Z fid (Jn n) p σ nx = some r := by
  unfold loopK at h ⊢
  cases ha : Z.ann fid p with
  | none => rw [ha] at h; cases h
  | some A =>
    rw [ha] at h
    simp only at h ⊢
    cases hm : meetX A σ nx with
    | none => rw [hm] at h; cases h
    | some q => rw [hm] at h; exact hJ p _ _ _ h
theorem codeK_lim (hD : ∀ f, Lim (D f) fun n => Dn n f) (hJ : ∀ p, Lim2 (J p) fun n => Jn n p) : ∀ (c : Code) (p : Nat) {K : Kt τ R} {Kn : Nat → Kt τ R}, LimKt K Kn → Lim2 (codeK Z fid D pins J rt c p K) fun n => codeK Z fid (Dn n) pins (Jn n) rt c p (Kn n)
  | .skip, p, K, Kn, hK => fun σ nx r h => hK.k σ nx r h
  | .region id ops dr, p, K, Kn, hK => fun σ nx r h => by
    simp only [codeK] at h ⊢
    cases dr with
    | true => exact drawK_lim hD hK.k h
    | false => exact rgnK_lim hD hK.k h
  | .seq x y, p, K, Kn, hK => fun σ nx r h => by
    simp only [codeK] at h ⊢
    exact codeK_lim hD hJ x (2 * p) (K := ⟨fun σ nx => meetK Z fid J (2 * p + 1) σ nx (codeK Z fid D pins J rt y (2 * p + 1) K), K.ex⟩) (Kn := fun n => ⟨fun σ nx => meetK Z fid (Jn n) (2 * p + 1) σ nx (codeK Z fid (Dn n) pins (Jn n) rt y (2 * p + 1) (Kn n)), (Kn n).ex⟩) ⟨fun σ nx r h => meetK_lim hJ (codeK_lim hD hJ y (2 * p + 1) hK) h, hK.ex⟩ σ nx r h
  | .cond c x y, p, K, Kn, hK => fun σ nx r h => by
    simp only [codeK] at h ⊢
    split at h
    · rename_i t ht
      try simp only [ht]
      cases t with
      | true => exact codeK_lim hD hJ x (2 * p) hK σ nx r h
      | false => exact codeK_lim hD hJ y (2 * p + 1) hK σ nx r h
    · cases h
  | .block id c, p, K, Kn, hK => fun σ nx r h => by
    simp only [codeK] at h ⊢
    exact codeK_lim hD hJ c (2 * p) (hK.block id) σ nx r h
  | .loop _, p, K, Kn, hK => fun σ nx r h => loopK_lim hJ h
  | .exit id, p, K, Kn, hK => fun σ nx r h => by
    simp only [codeK] at h ⊢
    cases he : lkA K.ex id with
    | none => rw [he] at h; cases h
    | some k =>
      rw [he] at h
      obtain ⟨kn, h1, h2⟩ := hK.ex id k he
      obtain ⟨N, h3⟩ := h2 σ nx r h
      exact ⟨N, fun n hn => by
        show (match lkA (Kn n).ex id with
          | some k => k σ nx
          | none => none) = some r
        rw [h1 n]; exact h3 n hn⟩
  | .ret, p, K, Kn, hK => fun σ nx r h => Ev.all fun n => h
  | .rangeFunc _ _ _ _, p, K, Kn, hK => fun σ nx r h => by cases h
  | .scope _, p, K, Kn, hK => fun σ nx r h => by cases h
  | .label _, p, K, Kn, hK => fun σ nx r h => by cases h
  | .goto _, p, K, Kn, hK => fun σ nx r h => by cases h
  | .refuse _, p, K, Kn, hK => fun σ nx r h => by cases h
theorem goTo_lim (hD : ∀ f, Lim (D f) fun n => Dn n f) (hJ : ∀ p, Lim2 (J p) fun n => Jn n p) : ∀ (π : List Bool) (c : Code) (p : Nat) {K : Kt τ R} {Kn : Nat → Kt τ R}, LimKt K Kn → Lim2 (goTo Z fid D pins J rt π c p K) fun n => goTo Z fid (Dn n) pins (Jn n) rt π c p (Kn n)
  | [], c, p, K, Kn, hK => by simp only [goTo]; exact codeK_lim hD hJ c p hK
  | b :: π, .seq x y, p, K, Kn, hK => by
    simp only [goTo]
    cases b with
    | true => exact goTo_lim hD hJ π y (2 * p + 1) hK
    | false => exact goTo_lim hD hJ π x (2 * p) (K := ⟨fun σ nx => meetK Z fid J (2 * p + 1) σ nx (codeK Z fid D pins J rt y (2 * p + 1) K), K.ex⟩) (Kn := fun n => ⟨fun σ nx => meetK Z fid (Jn n) (2 * p + 1) σ nx (codeK Z fid (Dn n) pins (Jn n) rt y (2 * p + 1) (Kn n)), (Kn n).ex⟩) ⟨fun σ nx r h => meetK_lim hJ (codeK_lim hD hJ y (2 * p + 1) hK) h, hK.ex⟩
  | b :: π, .cond _ x y, p, K, Kn, hK => by
    simp only [goTo]
    cases b with
    | true => exact goTo_lim hD hJ π y (2 * p + 1) hK
    | false => exact goTo_lim hD hJ π x (2 * p) hK
  | _ :: π, .block id c, p, K, Kn, hK => by simp only [goTo]; exact goTo_lim hD hJ π c (2 * p) (hK.block id)
  | _ :: π, .loop c, p, K, Kn, hK => by
    simp only [goTo]
    exact goTo_lim hD hJ π c (2 * p) (K := ⟨fun σ nx => loopK Z fid J (2 * p) σ nx, K.ex⟩) (Kn := fun n => ⟨fun σ nx => loopK Z fid (Jn n) (2 * p) σ nx, (Kn n).ex⟩) ⟨fun σ nx r h => loopK_lim hJ h, hK.ex⟩
  | _ :: _, .skip, p, K, Kn, hK => fun σ nx r h => by cases h
  | _ :: _, .region _ _ _, p, K, Kn, hK => fun σ nx r h => by cases h
  | _ :: _, .exit _, p, K, Kn, hK => fun σ nx r h => by cases h
  | _ :: _, .ret, p, K, Kn, hK => fun σ nx r h => by cases h
  | _ :: _, .rangeFunc _ _ _ _, p, K, Kn, hK => fun σ nx r h => by cases h
  | _ :: _, .scope _, p, K, Kn, hK => fun σ nx r h => by cases h
  | _ :: _, .label _, p, K, Kn, hK => fun σ nx r h => by cases h
  | _ :: _, .goto _, p, K, Kn, hK => fun σ nx r h => by cases h
  | _ :: _, .refuse _, p, K, Kn, hK => fun σ nx r h => by cases h
end
section
variable {τ : Tab} (Z : Lw τ) (F : Nat → Option Fx)
section
variable {Z F}
variable {D : ∀ f, InT τ (Z.sg f) → Option (OutT τ (Z.sg f))} {Dn : Nat → ∀ f, InT τ (Z.sg f) → Option (OutT τ (Z.sg f))} {J : ∀ f, Nat → Sx τ → Nat → Option (OutT τ (Z.sg f))} {Jn : Nat → ∀ f, Nat → Sx τ → Nat → Option (OutT τ (Z.sg f))}
theorem runF_lim (hD : ∀ f, Lim (D f) fun n => Dn n f) (hJ : ∀ f p, Lim2 (J f p) fun n => Jn n f p) (f p : Nat) : Lim2 (runF Z F D J f p) fun n => runF Z F (Dn n) (Jn n) f p := by
  intro σ nx r h
  unfold runF at h ⊢
  cases hF : F f with
  | none => rw [hF] at h; cases h
  | some X =>
    rw [hF] at h
    exact goTo_lim hD (hJ f) _ _ _ (K := ⟨fun σ _ => retX Z X.rs (Z.sg f) σ, []⟩) (Kn := fun _ => ⟨fun σ _ => retX Z X.rs (Z.sg f) σ, []⟩) ⟨fun σ nx r h => Ev.all fun n => h, fun id k hk => by cases hk⟩ σ nx r h
theorem begF_lim (hJ : ∀ f p, Lim2 (J f p) fun n => Jn n f p) (f : Nat) : Lim (begF Z F J f) fun n => begF Z F (Jn n) f := by
  intro x r h
  unfold begF at h ⊢
  cases hx : Z.isx f with
  | true => rw [hx] at h; exact Ev.all fun _ => by simpa [hx] using h
  | false =>
  rw [hx] at h
  simp only [cond_false] at h
  simp only [hx, cond_false]
  cases hF : F f with
  | none => rw [hF] at h; cases h
  | some X =>
    rw [hF] at h
    simp only at h ⊢
    generalize canO Z.O Z.ti (ptrs (Z.sg f).ps).length (Z.sg f).ps (List.range (ptrs (Z.sg f).ps).length) x = C at h ⊢
    obtain ⟨vs, E, nx⟩ := C
    simp only at h ⊢
    cases hb : Nat.ble vs.length X.n with
    | false => rw [hb] at h; cases h
    | true => rw [hb] at h; exact hJ f 1 _ _ _ h
end
theorem run_up : ∀ (n f p : Nat) (σ : Sx τ) (nx : Nat) (y : OutT τ (Z.sg f)), run Z F n f p σ nx = some y → run Z F (n + 1) f p σ nx = some y
  | 0, f, p, σ, nx, y, h => by cases h
  | n + 1, f, p, σ, nx, y, h => by
    have hJ : ∀ f p, Lim2 (run Z F n f p) fun _ => run Z F (n + 1) f p := fun f p σ nx r h => Ev.all fun _ => run_up n f p σ nx r h
    obtain ⟨N, hN⟩ := runF_lim (F := F) (begF_lim (F := F) hJ) hJ f p σ nx y h
    exact hN N (Nat.le_refl _)
theorem run_le {n m : Nat} (h : n ≤ m) {f p : Nat} {σ : Sx τ} {nx : Nat} {y : OutT τ (Z.sg f)} (hy : run Z F n f p σ nx = some y) : run Z F m f p σ nx = some y := by
  induction h with
  | refl => exact hy
  | step _ ih => exact run_up Z F _ f p σ nx y ih
open Classical in
noncomputable def Run (f p : Nat) (σ : Sx τ) (nx : Nat) : Option (OutT τ (Z.sg f)) := if h : ∃ n, (run Z F n f p σ nx).isSome = true then run Z F (Classical.choose h) f p σ nx else none
theorem Run_lim (f p : Nat) : Lim2 (Run Z F f p) fun n => run Z F n f p := by
  intro σ nx y h
  unfold Run at h
  split at h
  · exact ⟨_, fun n hn => run_le Z F hn h⟩
  · cases h
theorem Run_of {n f p : Nat} {σ : Sx τ} {nx : Nat} {y : OutT τ (Z.sg f)} (h : run Z F n f p σ nx = some y) : Run Z F f p σ nx = some y := by
  have hx : ∃ n, (run Z F n f p σ nx).isSome = true := ⟨n, by rw [h]; rfl⟩
  unfold Run
  rw [dif_pos hx]
  have hs := Classical.choose_spec hx
  obtain ⟨y', hy'⟩ := Option.isSome_iff_exists.1 hs
  rw [hy']
  rcases Nat.le_total n (Classical.choose hx) with hle | hle
  · rw [run_le Z F hle h] at hy'; rw [← hy']
  · rw [run_le Z F hle hy'] at h; rw [h]
noncomputable def Den (f : Nat) (x : InT τ (Z.sg f)) : Option (OutT τ (Z.sg f)) := begF Z F (fun f p σ nx => runF Z F (fun g y => begF Z F (Run Z F) g y) (Run Z F) f p σ nx) f x
theorem Run_eq (f p : Nat) (σ : Sx τ) (nx : Nat) : Run Z F f p σ nx = runF Z F (begF Z F (Run Z F)) (Run Z F) f p σ nx := by
  have key : ∀ y, Run Z F f p σ nx = some y ↔ runF Z F (begF Z F (Run Z F)) (Run Z F) f p σ nx = some y := by
    intro y
    constructor
    · intro h
      obtain ⟨N, hN⟩ := Run_lim Z F f p σ nx y h
      have h1 := hN (N + 1) (Nat.le_succ _)
      have hJ : ∀ f p, Lim2 (run Z F N f p) fun _ => Run Z F f p := fun f p σ nx r h => Ev.all fun _ => Run_of Z F h
      obtain ⟨M, hM⟩ := runF_lim (F := F) (begF_lim (F := F) hJ) hJ f p σ nx y h1
      exact hM M (Nat.le_refl _)
    · intro h
      obtain ⟨N, hN⟩ := runF_lim (F := F) (begF_lim (F := F) (Run_lim Z F)) (Run_lim Z F) f p σ nx y h
      exact Run_of Z F (n := N + 1) (hN N (Nat.le_refl _))
  cases h : Run Z F f p σ nx with
  | some y => exact ((key y).1 h).symm
  | none =>
    cases h' : runF Z F (begF Z F (Run Z F)) (Run Z F) f p σ nx with
    | none => rfl
    | some y => rw [(key y).2 h'] at h; cases h
theorem Den_beg (f : Nat) (x : InT τ (Z.sg f)) : Den Z F f x = begF Z F (Run Z F) f x := by
  have e : (fun f p σ nx => runF Z F (fun g y => begF Z F (Run Z F) g y) (Run Z F) f p σ nx) = Run Z F := by
    funext f p σ nx
    exact (Run_eq Z F f p σ nx).symm
  unfold Den
  rw [e]
theorem Den_eq (f : Nat) (x : InT τ (Z.sg f)) : Den Z F f x = begF Z F (fun f p σ nx => runF Z F (Den Z F) (Run Z F) f p σ nx) f x := by
  have e : Den Z F = fun g y => begF Z F (Run Z F) g y := by
    funext f x
    exact Den_beg Z F f x
  rw [e]
  exact (Den_beg Z F f x).symm.trans rfl
theorem Run_eq' (f p : Nat) (σ : Sx τ) (nx : Nat) : Run Z F f p σ nx = runF Z F (Den Z F) (Run Z F) f p σ nx := by
  have e : Den Z F = begF Z F (Run Z F) := by
    funext f x
    exact Den_beg Z F f x
  rw [e]
  exact Run_eq Z F f p σ nx
variable {Z F}
theorem Den_ok {P : Program} (s : Sy P Z.ti Z.zr) (hO : MkFit Z.O) (hF : FOk Z P F) (hC : CallsOk Z P) (hD : DrawsOk Z P) (hXt : ∀ f, Z.isx f = true → Ct Z P f (Z.xt f)) (f : Nat) : Ct Z P f (Den Z F f) := by
  have hJ : JOk Z P F (Run Z F) := fun f p σ nx y h => by
    obtain ⟨N, hN⟩ := Run_lim Z F f p σ nx y h
    exact run_ok s hO hF hC hD hXt N f p σ nx y (hN N (Nat.le_refl _))
  have := begF_ok hF hJ hXt f
  have e : Den Z F f = begF Z F (Run Z F) f := funext fun x => Den_beg Z F f x
  rw [e]
  exact this
end
end Go.Proofs.YtifffdepmdnciaaGreatDoor.Ri

namespace Go.Proofs.YtifffdepmdnciaaGreatDoor.Fw
open Go.RowKit
set_option linter.unusedVariables false
def Fk.pull {σ τ : Type} (f : σ → τ) : Fk τ → Fk σ
  | .int g => .int fun x => g (f x)
  | .byte g => .byte fun x => g (f x)
  | .bool g => .bool fun x => g (f x)
  | .str g => .str fun x => g (f x)
  | .sl β d g => .sl β d fun x => g (f x)
theorem RdL_pull {σ τ : Type} (f : σ → τ) {S : Nat → Prop} {w : World} {x : σ} : ∀ {fk : List (Fk τ)} {cs : List Value}, RdL S w x (fk.map (Fk.pull f)) cs ↔ RdL S w (f x) fk cs
  | [], _ => Iff.rfl
  | g :: fs, cs => by
    have key : ∀ v, (Fk.pull f g).rd S w x v ↔ g.rd S w (f x) v := fun v => by cases g <;> exact Iff.rfl
    constructor
    · rintro ⟨v, r, rfl, h1, h2⟩; exact ⟨v, r, rfl, (key v).1 h1, (RdL_pull f).1 h2⟩
    · rintro ⟨v, r, rfl, h1, h2⟩; exact ⟨v, r, rfl, (key v).2 h1, (RdL_pull f).2 h2⟩
theorem OwL_pull {σ τ : Type} (f : σ → τ) {w : World} {x : σ} : ∀ {fk : List (Fk τ)} {cs : List Value} {F : List Nat}, OwL w x (fk.map (Fk.pull f)) cs F ↔ OwL w (f x) fk cs F
  | [], _, _ => Iff.rfl
  | g :: fs, cs, F => by
    have key : ∀ v G, (Fk.pull f g).own w x v G ↔ g.own w (f x) v G := fun v G => by cases g <;> exact Iff.rfl
    constructor
    · rintro ⟨v, r, G, H, rfl, rfl, h1, h2⟩; exact ⟨v, r, G, H, rfl, rfl, (key v G).1 h1, (OwL_pull f).1 h2⟩
    · rintro ⟨v, r, G, H, rfl, rfl, h1, h2⟩; exact ⟨v, r, G, H, rfl, rfl, (key v G).2 h1, (OwL_pull f).2 h2⟩
theorem GdL_pull {σ τ : Type} (f : σ → τ) {x : σ} : ∀ {fk : List (Fk τ)}, GdL (f x) fk → GdL x (fk.map (Fk.pull f))
  | [], h => h
  | g :: fs, h => ⟨by cases g <;> exact h.1, GdL_pull f h.2⟩
theorem RdL_app {α : Type} {S : Nat → Prop} {w : World} {x : α} : ∀ {f g : List (Fk α)} {cs : List Value}, RdL S w x (f ++ g) cs ↔ ∃ c d, cs = c ++ d ∧ RdL S w x f c ∧ RdL S w x g d
  | [], g, cs => ⟨fun h => ⟨[], cs, rfl, rfl, h⟩, fun ⟨c, d, e, h1, h2⟩ => by cases h1; rw [e]; exact h2⟩
  | a :: f, g, cs => by
    constructor
    · rintro ⟨v, r, rfl, h1, h2⟩
      obtain ⟨c, d, rfl, h3, h4⟩ := RdL_app.1 h2
      exact ⟨v :: c, d, rfl, ⟨v, c, rfl, h1, h3⟩, h4⟩
    · rintro ⟨c, d, rfl, ⟨v, r, rfl, h1, h2⟩, h4⟩
      exact ⟨v, r ++ d, rfl, h1, RdL_app.2 ⟨r, d, rfl, h2, h4⟩⟩
theorem OwL_app {α : Type} {w : World} {x : α} : ∀ {f g : List (Fk α)} {cs : List Value} {F : List Nat}, OwL w x (f ++ g) cs F ↔ ∃ c d G H, cs = c ++ d ∧ F = G ++ H ∧ OwL w x f c G ∧ OwL w x g d H
  | [], g, cs, F => ⟨fun h => ⟨[], cs, [], F, rfl, rfl, ⟨rfl, rfl⟩, h⟩, fun ⟨c, d, G, H, e, e2, ⟨h1, h1'⟩, h2⟩ => by subst h1; subst h1'; rw [e, e2]; exact h2⟩
  | a :: f, g, cs, F => by
    constructor
    · rintro ⟨v, r, G, H, rfl, rfl, h1, h2⟩
      obtain ⟨c, d, G', H', rfl, rfl, h3, h4⟩ := OwL_app.1 h2
      exact ⟨v :: c, d, G ++ G', H', rfl, by rw [List.append_assoc], ⟨v, c, G, G', rfl, rfl, h1, h3⟩, h4⟩
    · rintro ⟨c, d, G, H, rfl, rfl, ⟨v, r, G', H', rfl, rfl, h1, h2⟩, h4⟩
      exact ⟨v, r ++ d, G', H' ++ H, rfl, by rw [List.append_assoc], h1, OwL_app.2 ⟨r, d, H', H, rfl, rfl, h2, h4⟩⟩
theorem GdL_app {α : Type} {x : α} : ∀ {f g : List (Fk α)}, GdL x f → GdL x g → GdL x (f ++ g)
  | [], _, _, h => h
  | _ :: _, _, h, h' => ⟨h.1, GdL_app h.2 h'⟩
instance : Str Bool where
  fk := [.bool id]
  op h := ⟨_, [], h.1, rfl, rfl⟩
  cl h := by obtain ⟨v, r, rfl, rfl, rfl⟩ := h; exact ⟨rfl, trivial⟩
  oop h := ⟨_, [], [], [], h.1.1, by rw [h.2]; rfl, ⟨rfl, rfl⟩, rfl, rfl⟩
  omk h := by obtain ⟨v, r, G, H, rfl, rfl, ⟨rfl, rfl⟩, rfl, rfl⟩ := h; exact ⟨⟨rfl, trivial⟩, rfl⟩
  gd h := ⟨trivial, trivial⟩
instance {α β : Type} [Dat α] [Dat β] [Str α] [Str β] : Str (α × β) where
  fk := (Str.fk (α := α)).map (Fk.pull Prod.fst) ++ (Str.fk (α := β)).map (Fk.pull Prod.snd)
  op h := by
    obtain ⟨c, d, rfl, h1, h2⟩ := h
    exact RdL_app.2 ⟨c, d, rfl, (RdL_pull _).2 (Str.op h1), (RdL_pull _).2 (Str.op h2)⟩
  cl h := by
    obtain ⟨c, d, rfl, h1, h2⟩ := RdL_app.1 h
    exact ⟨c, d, rfl, Str.cl ((RdL_pull _).1 h1), Str.cl ((RdL_pull _).1 h2)⟩
  oop h := by
    obtain ⟨c, d, G, H, rfl, rfl, h1, h2⟩ := h
    exact OwL_app.2 ⟨c, d, G, H, rfl, rfl, (OwL_pull _).2 (Str.oop h1), (OwL_pull _).2 (Str.oop h2)⟩
  omk h := by
    obtain ⟨c, d, G, H, rfl, rfl, h1, h2⟩ := OwL_app.1 h
    exact ⟨c, d, G, H, rfl, rfl, Str.omk ((OwL_pull _).1 h1), Str.omk ((OwL_pull _).1 h2)⟩
  gd h := GdL_app (GdL_pull Prod.fst (Str.gd h.1)) (GdL_pull Prod.snd (Str.gd h.2))
theorem pull_op {σ τ : Type} [d : Dat τ] [s : Str τ] (f : σ → τ) {S : Nat → Prop} {w : World} {cs : List Value} {x : σ} (h : @Dat.rd σ (Dat.pull f) S w cs x) : RdL S w x (s.fk.map (Fk.pull f)) cs := (RdL_pull f).2 (s.op h)
theorem pull_cl {σ τ : Type} [d : Dat τ] [s : Str τ] (f : σ → τ) {S : Nat → Prop} {w : World} {cs : List Value} {x : σ} (h : RdL S w x (s.fk.map (Fk.pull f)) cs) : @Dat.rd σ (Dat.pull f) S w cs x := s.cl ((RdL_pull f).1 h)
theorem pull_oop {σ τ : Type} [d : Dat τ] [s : Str τ] (f : σ → τ) {w : World} {cs : List Value} {x : σ} {F : List Nat} (h : @Dat.own σ (Dat.pull f) w cs x F) : OwL w x (s.fk.map (Fk.pull f)) cs F := (OwL_pull f).2 (s.oop h)
theorem pull_omk {σ τ : Type} [d : Dat τ] [s : Str τ] (f : σ → τ) {w : World} {cs : List Value} {x : σ} {F : List Nat} (h : OwL w x (s.fk.map (Fk.pull f)) cs F) : @Dat.own σ (Dat.pull f) w cs x F := s.omk ((OwL_pull f).1 h)
theorem pull_gd {σ τ : Type} [d : Dat τ] [s : Str τ] (f : σ → τ) {x : σ} (h : @Dat.good σ (Dat.pull f) x) : GdL x (s.fk.map (Fk.pull f)) := GdL_pull f (s.gd h)
instance : Str Cell where
  fk := [.str (fun x => x.Key), .str (fun x => x.Val)]
  op h := pull_op (fun x : Cell => (x.Key, x.Val)) h
  cl h := pull_cl (fun x : Cell => (x.Key, x.Val)) h
  oop h := pull_oop (fun x : Cell => (x.Key, x.Val)) h
  omk h := pull_omk (fun x : Cell => (x.Key, x.Val)) h
  gd h := pull_gd (fun x : Cell => (x.Key, x.Val)) h
instance : Str Touch where
  fk := [.sl ByteArray instDatByteArray (fun x => x.Reads), .sl ByteArray instDatByteArray (fun x => x.Writes)]
  op h := pull_op (fun x : Touch => (x.Reads, x.Writes)) h
  cl h := pull_cl (fun x : Touch => (x.Reads, x.Writes)) h
  oop h := pull_oop (fun x : Touch => (x.Reads, x.Writes)) h
  omk h := pull_omk (fun x : Touch => (x.Reads, x.Writes)) h
  gd h := pull_gd (fun x : Touch => (x.Reads, x.Writes)) h
instance : Str Mach where
  fk := [.sl Cell instDatCell (fun x => x.Store), .sl ByteArray instDatByteArray (fun x => x.Touch.Reads), .sl ByteArray instDatByteArray (fun x => x.Touch.Writes)]
  op h := pull_op (fun x : Mach => (x.Store, x.Touch)) h
  cl h := pull_cl (fun x : Mach => (x.Store, x.Touch)) h
  oop h := pull_oop (fun x : Mach => (x.Store, x.Touch)) h
  omk h := pull_omk (fun x : Mach => (x.Store, x.Touch)) h
  gd h := pull_gd (fun x : Mach => (x.Store, x.Touch)) h
instance : Str Call where
  fk := [.int (fun x => x.Kind), .str (fun x => x.Name), .str (fun x => x.To), .int (fun x => x.A), .int (fun x => x.B), .str (fun x => x.Text)]
  op h := pull_op (fun x : Call => (x.Kind, x.Name, x.To, x.A, x.B, x.Text)) h
  cl h := pull_cl (fun x : Call => (x.Kind, x.Name, x.To, x.A, x.B, x.Text)) h
  oop h := pull_oop (fun x : Call => (x.Kind, x.Name, x.To, x.A, x.B, x.Text)) h
  omk h := pull_omk (fun x : Call => (x.Kind, x.Name, x.To, x.A, x.B, x.Text)) h
  gd h := pull_gd (fun x : Call => (x.Kind, x.Name, x.To, x.A, x.B, x.Text)) h
instance : Str Answer where
  fk := [.int (fun x => x.Code), .int (fun x => x.N), .str (fun x => x.Text)]
  op h := pull_op (fun x : Answer => (x.Code, x.N, x.Text)) h
  cl h := pull_cl (fun x : Answer => (x.Code, x.N, x.Text)) h
  oop h := pull_oop (fun x : Answer => (x.Code, x.N, x.Text)) h
  omk h := pull_omk (fun x : Answer => (x.Code, x.N, x.Text)) h
  gd h := pull_gd (fun x : Answer => (x.Code, x.N, x.Text)) h
instance : Str Step where
  fk := [.int (fun x => x.Proc), .int (fun x => x.Call.Kind), .str (fun x => x.Call.Name), .str (fun x => x.Call.To), .int (fun x => x.Call.A), .int (fun x => x.Call.B), .str (fun x => x.Call.Text)]
  op h := pull_op (fun x : Step => (x.Proc, x.Call)) h
  cl h := pull_cl (fun x : Step => (x.Proc, x.Call)) h
  oop h := pull_oop (fun x : Step => (x.Proc, x.Call)) h
  omk h := pull_omk (fun x : Step => (x.Proc, x.Call)) h
  gd h := pull_gd (fun x : Step => (x.Proc, x.Call)) h
instance : Str Tx where
  fk := [.int (fun x => x.Id), .int (fun x => x.Age), .int (fun x => x.Proc), .int (fun x => x.Began), .sl Call instDatCall (fun x => x.Calls), .sl Answer instDatAnswer (fun x => x.Answers), .sl ByteArray instDatByteArray (fun x => x.Touch.Reads), .sl ByteArray instDatByteArray (fun x => x.Touch.Writes), .sl Int instDatInt (fun x => x.Marks), .int (fun x => x.State)]
  op h := pull_op (fun x : Tx => (x.Id, x.Age, x.Proc, x.Began, x.Calls, x.Answers, x.Touch, x.Marks, x.State)) h
  cl h := pull_cl (fun x : Tx => (x.Id, x.Age, x.Proc, x.Began, x.Calls, x.Answers, x.Touch, x.Marks, x.State)) h
  oop h := pull_oop (fun x : Tx => (x.Id, x.Age, x.Proc, x.Began, x.Calls, x.Answers, x.Touch, x.Marks, x.State)) h
  omk h := pull_omk (fun x : Tx => (x.Id, x.Age, x.Proc, x.Began, x.Calls, x.Answers, x.Touch, x.Marks, x.State)) h
  gd h := pull_gd (fun x : Tx => (x.Id, x.Age, x.Proc, x.Began, x.Calls, x.Answers, x.Touch, x.Marks, x.State)) h
instance : Str Journal where
  fk := [.str (fun x => x.Text), .int (fun x => x.Sure)]
  op h := pull_op (fun x : Journal => (x.Text, x.Sure)) h
  cl h := pull_cl (fun x : Journal => (x.Text, x.Sure)) h
  oop h := pull_oop (fun x : Journal => (x.Text, x.Sure)) h
  omk h := pull_omk (fun x : Journal => (x.Text, x.Sure)) h
  gd h := pull_gd (fun x : Journal => (x.Text, x.Sure)) h
instance : Str Slot where
  fk := [.int (fun x => x.Seq), .sl Cell instDatCell (fun x => x.Cells), .bool (fun x => x.Whole)]
  op h := pull_op (fun x : Slot => (x.Seq, x.Cells, x.Whole)) h
  cl h := pull_cl (fun x : Slot => (x.Seq, x.Cells, x.Whole)) h
  oop h := pull_oop (fun x : Slot => (x.Seq, x.Cells, x.Whole)) h
  omk h := pull_omk (fun x : Slot => (x.Seq, x.Cells, x.Whole)) h
  gd h := pull_gd (fun x : Slot => (x.Seq, x.Cells, x.Whole)) h
instance : Str Disk where
  fk := [.sl Slot instDatSlot (fun x => x.Slots), .str (fun x => x.Journal.Text), .int (fun x => x.Journal.Sure)]
  op h := pull_op (fun x : Disk => (x.Slots, x.Journal)) h
  cl h := pull_cl (fun x : Disk => (x.Slots, x.Journal)) h
  oop h := pull_oop (fun x : Disk => (x.Slots, x.Journal)) h
  omk h := pull_omk (fun x : Disk => (x.Slots, x.Journal)) h
  gd h := pull_gd (fun x : Disk => (x.Slots, x.Journal)) h
instance : Str Entry where
  fk := [.int (fun x => x.Seq), .int (fun x => x.Kind), .int (fun x => x.Tx), .sl Step instDatStep (fun x => x.Steps), .sl Answer instDatAnswer (fun x => x.Answers), .int (fun x => x.Began), .int (fun x => x.Ended), .bool (fun x => x.Laid)]
  op h := pull_op (fun x : Entry => (x.Seq, x.Kind, x.Tx, x.Steps, x.Answers, x.Began, x.Ended, x.Laid)) h
  cl h := pull_cl (fun x : Entry => (x.Seq, x.Kind, x.Tx, x.Steps, x.Answers, x.Began, x.Ended, x.Laid)) h
  oop h := pull_oop (fun x : Entry => (x.Seq, x.Kind, x.Tx, x.Steps, x.Answers, x.Began, x.Ended, x.Laid)) h
  omk h := pull_omk (fun x : Entry => (x.Seq, x.Kind, x.Tx, x.Steps, x.Answers, x.Began, x.Ended, x.Laid)) h
  gd h := pull_gd (fun x : Entry => (x.Seq, x.Kind, x.Tx, x.Steps, x.Answers, x.Began, x.Ended, x.Laid)) h
instance : Str Kernel where
  fk := [.sl Cell instDatCell (fun x => x.Store), .sl Tx instDatTx (fun x => x.Txs), .sl Slot instDatSlot (fun x => x.Disk.Slots), .str (fun x => x.Disk.Journal.Text), .int (fun x => x.Disk.Journal.Sure), .int (fun x => x.Seq), .int (fun x => x.Next), .int (fun x => x.Time), .sl Entry instDatEntry (fun x => x.History), .sl ByteArray instDatByteArray (fun x => x.Seen), .bool (fun x => x.Room)]
  op h := pull_op (fun x : Kernel => (x.Store, x.Txs, x.Disk, x.Seq, x.Next, x.Time, x.History, x.Seen, x.Room)) h
  cl h := pull_cl (fun x : Kernel => (x.Store, x.Txs, x.Disk, x.Seq, x.Next, x.Time, x.History, x.Seen, x.Room)) h
  oop h := pull_oop (fun x : Kernel => (x.Store, x.Txs, x.Disk, x.Seq, x.Next, x.Time, x.History, x.Seen, x.Room)) h
  omk h := pull_omk (fun x : Kernel => (x.Store, x.Txs, x.Disk, x.Seq, x.Next, x.Time, x.History, x.Seen, x.Room)) h
  gd h := pull_gd (fun x : Kernel => (x.Store, x.Txs, x.Disk, x.Seq, x.Next, x.Time, x.History, x.Seen, x.Room)) h
instance : Str Deed where
  fk := [.int (fun x => x.Kind), .int (fun x => x.N), .int (fun x => x.M), .int (fun x => x.Call.Kind), .str (fun x => x.Call.Name), .str (fun x => x.Call.To), .int (fun x => x.Call.A), .int (fun x => x.Call.B), .str (fun x => x.Call.Text)]
  op h := pull_op (fun x : Deed => (x.Kind, x.N, x.M, x.Call)) h
  cl h := pull_cl (fun x : Deed => (x.Kind, x.N, x.M, x.Call)) h
  oop h := pull_oop (fun x : Deed => (x.Kind, x.N, x.M, x.Call)) h
  omk h := pull_omk (fun x : Deed => (x.Kind, x.N, x.M, x.Call)) h
  gd h := pull_gd (fun x : Deed => (x.Kind, x.N, x.M, x.Call)) h
end Go.Proofs.YtifffdepmdnciaaGreatDoor.Fw

namespace Go.Proofs.YtifffdepmdnciaaGreatDoor.Ri
open Go.Proofs.YtifffdepmdnciaaGreatDoor.Fw
open Go.RowKit
set_option linter.unusedVariables false
set_option linter.unusedSimpArgs false
inductive Fc where
  | int
  | byte
  | bool
  | str
  | sl (e : Nat)
section
variable (τ : Tab)
def Fc.T : Fc → Type
  | .int => Int
  | .byte => UInt8
  | .bool => Bool
  | .str => ByteArray
  | .sl e => List (τ.T e)
def HF : List Fc → Type
  | [] => Unit
  | f :: fs => f.T τ × HF fs
end
section
variable {τ : Tab} {S : Nat → Prop} {w : World}
def Fc.rd (S : Nat → Prop) (w : World) (v : Value) : (f : Fc) → f.T τ → Prop
  | .int, n => v = .int .i64 n ∧ I64 n
  | .byte, n => v = .int .u8 (UInt8.toNat n : Nat)
  | .bool, b => v = .bool b
  | .str, s => v = .string s ∧ s.size ≤ maxLen
  | .sl e, xs => SlR S w v xs
def RdF (S : Nat → Prop) (w : World) : (fs : List Fc) → HF τ fs → List Value → Prop
  | [], _, us => us = []
  | f :: fs, (x, h), us => ∃ v r, us = v :: r ∧ Fc.rd S w v f x ∧ RdF S w fs h r
def Fc.cl : (f : Fc) → f.T τ → Cl τ
  | .int, n => .v (.int .i64 n)
  | .byte, n => .v (.int .u8 (UInt8.toNat n : Nat))
  | .bool, b => .v (.bool b)
  | .str, s => .v (.string s)
  | .sl e, xs => .sl e xs
def clF : (fs : List Fc) → HF τ fs → List (Cl τ)
  | [], _ => []
  | f :: fs, (x, h) => f.cl x :: clF fs h
def ofInt : Cl τ → Option Int
  | .v (.int .i64 n) => some n
  | _ => none
def ofBool : Cl τ → Option Bool
  | .v (.bool b) => some b
  | _ => none
def ofStr : Cl τ → Option ByteArray
  | .v (.string s) => some s
  | _ => none
def u8of (n : Int) : UInt8 := UInt8.ofNat n.toNat
def ofByte : Cl τ → Option UInt8
  | .v (.int .u8 n) => some (u8of n)
  | _ => none
def isNil : Value → Bool
  | .slice none n m => Nat.ble n 0 && Nat.ble m 0
  | _ => false
def ofSl (e : Nat) : Cl τ → Option (List (τ.T e))
  | .sl e' xs => castL e' e xs
  | .v x => bif isNil x then some [] else none
def Fc.of (f : Fc) (c : Cl τ) : Option (f.T τ) := match f with
  | .int => ofInt c
  | .byte => ofByte c
  | .bool => ofBool c
  | .str => ofStr c
  | .sl e => ofSl e c
theorem isNil_ok {x : Value} (h : isNil x = true) : x = .slice none 0 0 := by
  cases x with
  | slice A n m =>
    cases A with
    | some A => cases h
    | none =>
      simp only [isNil, Bool.and_eq_true] at h
      rw [Nat.eq_zero_of_le_zero (Nat.le_of_ble_eq_true h.1), Nat.eq_zero_of_le_zero (Nat.le_of_ble_eq_true h.2)]
  | _ => cases h
def mkF : (fs : List Fc) → List (Cl τ) → Option (HF τ fs)
  | [], [] => some ()
  | f :: fs, c :: cs => match f.of c, mkF fs cs with
    | some x, some h => some (x, h)
    | _, _ => none
  | _, _ => none
theorem clF_op : ∀ {fs : List Fc} {h : HF τ fs} {us : List Value}, RdF S w fs h us → RdC S w us (clF fs h)
  | [], _, us, h => h
  | f :: fs, (x, h), us, ⟨v, r, h1, h2, h3⟩ => ⟨v, r, h1, by
    cases f with
    | int => obtain ⟨rfl, hg⟩ := h2; exact ⟨rfl, wrap_id (by unfold I64 at hg; simp [loK, hiK, IntKind.signed, IntKind.bits]; omega), rfl⟩
    | byte => exact ⟨h2, wrap_id (by have := UInt8.toNat_lt x; simp [loK, hiK, IntKind.signed, IntKind.bits]; omega), rfl⟩
    | bool => exact ⟨h2, trivial, rfl⟩
    | str => obtain ⟨rfl, hg⟩ := h2; exact ⟨rfl, hg, rfl⟩
    | sl e => exact h2, clF_op h3⟩
def Fc.flat : Fc → Bool
  | .sl _ => false
  | _ => true
theorem RdF.swap {S' : Nat → Prop} {w' : World} : ∀ {fs : List Fc} {h : HF τ fs} {us : List Value}, fs.all Fc.flat = true → RdF S w fs h us → RdF S' w' fs h us
  | [], _, us, _, h => h
  | f :: fs, (x, h), us, ha, ⟨v, r, h1, h2, h3⟩ => by
    simp only [List.all_cons, Bool.and_eq_true] at ha
    exact ⟨v, r, h1, (by cases f <;> first | exact h2 | (simp [Fc.flat] at ha)), RdF.swap ha.2 h3⟩
theorem ofInt_ok {c : Cl τ} {x : Int} (h : ofInt c = some x) : c = .v (.int .i64 x) := by
  unfold ofInt at h
  split at h
  · cases h; rfl
  · cases h
theorem ofBool_ok {c : Cl τ} {x : Bool} (h : ofBool c = some x) : c = .v (.bool x) := by
  unfold ofBool at h
  split at h
  · cases h; rfl
  · cases h
theorem ofStr_ok {c : Cl τ} {x : ByteArray} (h : ofStr c = some x) : c = .v (.string x) := by
  unfold ofStr at h
  split at h
  · cases h; rfl
  · cases h
theorem u8of_ok {n : Int} (h : IntKind.u8.wrap n = n) : ((u8of n).toNat : Int) = n := by
  have := good_in h
  simp [loK, hiK, IntKind.signed, IntKind.bits] at this
  unfold u8of
  rw [UInt8.toNat_ofNat']
  omega
theorem ofByte_ok {c : Cl τ} {x : UInt8} (h : ofByte c = some x) : ∃ n, c = .v (.int .u8 n) ∧ x = u8of n := by
  unfold ofByte at h
  split at h
  · rename_i n; cases h; exact ⟨n, rfl, rfl⟩
  · cases h
theorem Fc.of_ok {f : Fc} {c : Cl τ} {x : f.T τ} (h : f.of c = some x) : Fit1 c (f.cl x) ∧ ∀ {S : Nat → Prop} {w : World} {v : Value}, c.rd S w v → Fc.rd S w v f x := by
  cases f with
  | int =>
    obtain rfl := ofInt_ok h
    refine ⟨⟨fun _ => rfl, fun A n m e => (by cases e)⟩, fun {S w v} hv => ⟨hv.1, ?_⟩⟩
    have := good_in (k := .i64) (n := x) hv.2.1
    unfold I64; simp [loK, hiK, IntKind.signed, IntKind.bits] at this; omega
  | byte =>
    obtain ⟨n, rfl, rfl⟩ := ofByte_ok h
    exact ⟨⟨fun hg => by rw [u8of_ok hg], fun A n m e => (by cases e)⟩, fun {S w v} hv => by
      show v = _
      rw [u8of_ok hv.2.1]
      exact hv.1⟩
  | bool =>
    obtain rfl := ofBool_ok h
    exact ⟨⟨fun _ => rfl, fun A n m e => (by cases e)⟩, fun {S w v} hv => hv.1⟩
  | str =>
    obtain rfl := ofStr_ok h
    exact ⟨⟨fun _ => rfl, fun A n m e => (by cases e)⟩, fun {S w v} hv => ⟨hv.1, hv.2.1⟩⟩
  | sl e =>
    cases c with
    | sl e' xs =>
      obtain ⟨rfl, hh⟩ := castL_ok (show castL e' e xs = some x from h)
      cases hh
      exact ⟨rfl, fun {S w v} hv => hv⟩
    | v y =>
      have h' : (bif isNil y then some [] else none) = some x := h
      cases hb : isNil y with
      | false => rw [hb] at h'; cases h'
      | true =>
        rw [hb] at h'
        obtain rfl : [] = x := Option.some.inj h'
        obtain rfl := isNil_ok hb
        refine ⟨⟨rfl, rfl, rfl, rfl⟩, fun {S w v} hv => ?_⟩
        show SlR S w v []
        rw [hv.1]
        exact SlR.nil rfl rfl
theorem mkF_ok : ∀ {fs : List Fc} {cs : List (Cl τ)} {h : HF τ fs}, mkF fs cs = some h → Fit cs (clF fs h) ∧ ∀ {S : Nat → Prop} {w : World} {us : List Value}, RdC S w us cs → RdF S w fs h us
  | [], [], _, hm => by cases hm; exact ⟨trivial, fun {S w us} h => h⟩
  | [], _ :: _, _, hm => by cases hm
  | _ :: _, [], _, hm => by cases hm
  | f :: fs, c :: cs, (x, h), hm => by
    simp only [mkF] at hm
    split at hm
    · rename_i x' h' e1 e2
      cases hm
      obtain ⟨k1, k2⟩ := Fc.of_ok e1
      obtain ⟨k3, k4⟩ := mkF_ok e2
      exact ⟨⟨k1, k3⟩, fun {S w us} ⟨v, r, q1, q2, q3⟩ => ⟨v, r, q1, k2 q2, k4 q3⟩⟩
    · cases hm
end
def cap1 {τ : Tab} (t : Nat) (x : τ.T t) : List (Σ e, τ.T e) := [⟨t, x⟩]
def uncap1 {τ : Tab} (t : Nat) : List (Σ e, τ.T e) → Option (τ.T t)
  | [⟨e, y⟩] => castE e t y
  | _ => none
theorem cap1_ok {τ : Tab} {t : Nat} {l : List (Σ e, τ.T e)} {x : τ.T t} (h : uncap1 t l = some x) : cap1 t x = l := by
  unfold uncap1 at h
  split at h
  · rename_i e y
    unfold castE at h
    split at h
    · rename_i he; subst he; cases h; rfl
    · cases h
  · cases h
structure TyO (τ : Tab) (t : Nat) where
  fs : List Fc
  tu : τ.T t → HF τ fs
  of : HF τ fs → τ.T t
  back : ∀ h, tu (of h) = h
  op : ∀ {S : Nat → Prop} {w : World} {us : List Value} {x : τ.T t}, Dat.rd S w us x → RdF S w fs (tu x) us
  cl : ∀ {S : Nat → Prop} {w : World} {us : List Value} {x : τ.T t}, RdF S w fs (tu x) us → Dat.rd S w us x
  bt : Option ((τ.T t → UInt8) × (UInt8 → τ.T t)) := none
  bl : ∀ p, bt = some p → Dat.sz (τ.T t) = 1 ∧ (∀ (S : Nat → Prop) (w : World) (us : List Value) (x : τ.T t), Dat.rd S w us x → us = [.int .u8 ((p.1 x).toNat : Nat)]) ∧ ∀ (S : Nat → Prop) (w : World) (x : UInt8), Dat.rd S w [.int .u8 (x.toNat : Nat)] (p.2 x) := by intro p h; cases h
  cap : τ.T t → List (Σ e, τ.T e) := cap1 t
  uncap : List (Σ e, τ.T e) → Option (τ.T t) := uncap1 t
  capok : ∀ l x, uncap l = some x → cap x = l := by exact fun l x h => cap1_ok h
def TyO.byt {τ : Tab} {t : Nat} (o : TyO τ t) : Bool := match o.bt with
  | some _ => true
  | none => false
def TyO.toB {τ : Tab} {t : Nat} (o : TyO τ t) (x : τ.T t) : UInt8 := match o.bt with
  | some p => p.1 x
  | none => 0
def TyO.ofB {τ : Tab} {t : Nat} (o : TyO τ t) (x : UInt8) : τ.T t := match o.bt with
  | some p => p.2 x
  | none => default
theorem TyO.byt_ok {τ : Tab} {t : Nat} (o : TyO τ t) (h : o.byt = true) : ∃ p, o.bt = some p ∧ (∀ x, o.toB x = p.1 x) ∧ ∀ x, o.ofB x = p.2 x := by
  unfold TyO.byt at h
  split at h
  · rename_i p hp
    refine ⟨p, hp, fun x => ?_, fun x => ?_⟩
    · unfold TyO.toB; rw [hp]
    · unfold TyO.ofB; rw [hp]
  · cases h
def TyO.fld {τ : Tab} {t : Nat} (o : TyO τ t) (x : τ.T t) : List (Cl τ) := clF o.fs (o.tu x)
def TyO.mk' {τ : Tab} {t : Nat} (o : TyO τ t) (l : List (Cl τ)) : Option (τ.T t) := match mkF o.fs l with
  | some h => some (o.of h)
  | none => none
theorem TyO.mk_ok {τ : Tab} {t : Nat} {o : TyO τ t} {l : List (Cl τ)} {x : τ.T t} (h : o.mk' l = some x) : Fit l (o.fld x) ∧ ∀ {S : Nat → Prop} {w : World} {us : List Value}, RdC S w us l → Dat.rd S w us x := by
  unfold TyO.mk' at h
  split at h
  · rename_i y hy
    cases h
    obtain ⟨h1, h2⟩ := mkF_ok hy
    unfold TyO.fld
    rw [o.back]
    exact ⟨h1, fun {S w us} hr => o.cl (by rw [o.back]; exact h2 hr)⟩
  · cases h
def lkO {τ : Tab} : (L : List (Σ t, TyO τ t)) → (t : Nat) → ((∀ x ∈ L, x.1 ≠ t) → TyO τ t) → TyO τ t
  | [], t, m => m (fun x hx => by cases hx)
  | ⟨k, o⟩ :: r, t, m => if h : k = t then h ▸ o else lkO r t fun hr => m fun x hx => by
    rcases List.mem_cons.1 hx with rfl | hx
    · exact h
    · exact hr x hx
def opnOf {τ : Tab} (o : ∀ t, TyO τ t) : Opn τ := ⟨fun t => (o t).fld, fun t => (o t).mk', fun t x h => clF_op ((o t).op h), fun t l x h hr => (TyO.mk_ok h).2 hr, fun t => (o t).fs.all Fc.flat, fun t x h hr => (o t).cl (RdF.swap h ((o t).op hr)), fun t => (o t).byt, fun t => (o t).toB, fun t => (o t).ofB, fun t h => by
  obtain ⟨p, h1, _, _⟩ := (o t).byt_ok h
  exact ((o t).bl p h1).1, fun {S w us} t x h hr => by
  obtain ⟨p, h1, h2, _⟩ := (o t).byt_ok h
  rw [h2]
  exact ((o t).bl p h1).2.1 S w us x hr, fun {S w} t x h => by
  obtain ⟨p, h1, _, h3⟩ := (o t).byt_ok h
  rw [h3]
  exact ((o t).bl p h1).2.2 S w x, fun t => (o t).cap, fun t => (o t).uncap, fun t => (o t).capok⟩
theorem opnOf_fit {τ : Tab} (o : ∀ t, TyO τ t) : MkFit (opnOf o) := fun t l x h => (TyO.mk_ok h).1
structure Ty where
  T : Type
  d : Dat T
  i : Inhabited T
def lkTy : List (Nat × Ty) → Nat → Ty
  | [], _ => ⟨Int, inferInstance, inferInstance⟩
  | (k, x) :: r, t => bif Nat.beq k t then x else lkTy r t
theorem lkTy_miss : ∀ {L : List (Nat × Ty)} {t : Nat}, (∀ k ∈ L.map (·.1), k ≠ t) → lkTy L t = ⟨Int, inferInstance, inferInstance⟩
  | [], _, _ => rfl
  | (k, x) :: r, t, h => by
    simp only [lkTy]
    rw [beq_f (h k (by simp))]
    exact lkTy_miss fun k' hk' => h k' (by simp at hk' ⊢; exact .inr hk')
def tabOf (L : List (Nat × Ty)) : Tab := ⟨fun t => (lkTy L t).T, fun t => (lkTy L t).d, fun t => (lkTy L t).i⟩
def castT {b : Ty} (e : b = ⟨Int, inferInstance, inferInstance⟩) (x : b.T) : Int := cast (congrArg Ty.T e) x
def castU {b : Ty} (e : b = ⟨Int, inferInstance, inferInstance⟩) (x : Int) : b.T := cast (congrArg Ty.T e).symm x
theorem castTU {b : Ty} (e : b = ⟨Int, inferInstance, inferInstance⟩) (x : Int) : castT e (castU e x) = x := by subst e; rfl
theorem castT_rd {b : Ty} (e : b = ⟨Int, inferInstance, inferInstance⟩) {S : Nat → Prop} {w : World} {us : List Value} {x : b.T} : @Dat.rd b.T b.d S w us x ↔ Dat.rd S w us (castT e x) := by subst e; exact Iff.rfl
def tyMiss {L : List (Nat × Ty)} {t : Nat} (e : lkTy L t = ⟨Int, inferInstance, inferInstance⟩) : TyO (tabOf L) t where
  fs := [.int]
  tu := fun x => (castT e x, ())
  of := fun h => castU e h.1
  back h := by
    obtain ⟨x, u⟩ := h
    exact congrArg (fun y : Int => ((y, ()) : Int × Unit)) (castTU e x)
  op {S w us x} h := by
    have := (castT_rd e).1 h
    exact Str.op (α := Int) this
  cl {S w us x} h := (castT_rd e).2 (Str.cl (α := Int) h)
end Go.Proofs.YtifffdepmdnciaaGreatDoor.Ri

namespace Go.Proofs.YtifffdepmdnciaaGreatDoor.Fw
open Go.RowKit
set_option linter.unusedVariables false
set_option maxRecDepth 100000
def lkT : List (Nat × TI) → Nat → TI
  | [], _ => .no
  | (k, i) :: r, t => bif Nat.beq k t then i else lkT r t
theorem lkT_ok {P : Program} : ∀ {l : List (Nat × TI)}, (l.all fun p => p.2.chk P p.1) = true → ∀ t, (lkT l t).chk P t = true
  | [], _, _ => rfl
  | (k, i) :: r, h, t => by
    simp only [List.all_cons, Bool.and_eq_true] at h
    simp only [lkT]
    cases e : Nat.beq k t with
    | true => obtain rfl := Nat.eq_of_beq_eq_true e; exact h.1
    | false => exact lkT_ok h.2 t
def lkZ : List (Nat × Value) → Nat → Option Value
  | [], _ => none
  | (k, i) :: r, t => bif Nat.beq k t then some i else lkZ r t
def ZOk (P : Program) : List (Nat × Value) → Prop
  | [] => True
  | p :: r => (∀ w, (zeroValue p.1).run P w = .ok p.2 w) ∧ ZOk P r
theorem lkZ_ok {P : Program} : ∀ {l : List (Nat × Value)}, ZOk P l → ∀ t z, lkZ l t = some z → ∀ w, (zeroValue t).run P w = .ok z w
  | [], _, _, _, h => by cases h
  | (k, i) :: r, h, t, z, hz => by
    simp only [lkZ] at hz
    cases e : Nat.beq k t with
    | true => obtain rfl := Nat.eq_of_beq_eq_true e; rw [e] at hz; cases hz; exact h.1
    | false => rw [e] at hz; exact lkZ_ok h.2 t z hz
def tiL : List (Nat × TI) := [(3, .int .i64),
  (4, .bool),
  (5, .int .u8),
  (9, .str),
  (22, .sl 5 1 1),
  (24, .sl 3 1 8),
  (27, .sl 9 1 16),
  (30, .sl 62 9 96),
  (34, .one),
  (35, .one),
  (38, .sl 143 2 32),
  (39, .sl 119 10 160),
  (40, .sl 152 3 40),
  (44, .st 3 [(0, 1), (1, 2)]),
  (45, .sl 122 8 96),
  (47, .st 11 [(0, 1), (1, 1), (2, 3), (5, 1), (6, 1), (7, 1), (8, 1), (9, 1), (10, 1)]),
  (48, .sl 52 3 32),
  (52, .st 3 [(0, 1), (1, 1), (2, 1)]),
  (60, .st 6 [(0, 1), (1, 1), (2, 1), (3, 1), (4, 1), (5, 1)]),
  (62, .st 9 [(0, 1), (1, 1), (2, 1), (3, 6)]),
  (67, .st 3 [(0, 1), (1, 1), (2, 1)]),
  (91, .sl 189 7 80),
  (113, .sl 27 1 24),
  (117, .st 2 [(0, 1), (1, 1)]),
  (119, .st 10 [(0, 1), (1, 1), (2, 1), (3, 1), (4, 1), (5, 1), (6, 2), (8, 1), (9, 1)]),
  (122, .st 8 [(0, 1), (1, 1), (2, 1), (3, 1), (4, 1), (5, 1), (6, 1), (7, 1)]),
  (137, .st 3 [(0, 1), (1, 2)]),
  (143, .st 2 [(0, 1), (1, 1)]),
  (152, .st 3 [(0, 1), (1, 1), (2, 1)]),
  (189, .st 7 [(0, 1), (1, 6)]),
  (218, .one),
  (302, .one)]
def ti (t : Nat) : TI := lkT tiL t
theorem tiok : ∀ t, (ti t).chk Tryz.prog t = true := lkT_ok (by kernel_rfl)
def zrL : List (Nat × Value) := [(3, Value.int IntKind.i64 0),
  (4, Value.bool false),
  (5, Value.int IntKind.u8 0),
  (9, Value.string { data := #[] }),
  (22, Value.slice none 0 0),
  (24, Value.slice none 0 0),
  (27, Value.slice none 0 0),
  (30, Value.slice none 0 0),
  (34, Value.nilFunc),
  (35, Value.pointer none),
  (38, Value.slice none 0 0),
  (39, Value.slice none 0 0),
  (40, Value.slice none 0 0),
  (44, Value.agg #[Value.slice none 0 0, Value.string { data := #[] }, Value.int IntKind.i64 0]),
  (45, Value.slice none 0 0),
  (47, Value.agg #[Value.slice none 0 0, Value.slice none 0 0, Value.slice none 0 0, Value.string { data := #[] }, Value.int IntKind.i64 0, Value.int IntKind.i64 0, Value.int IntKind.i64 0, Value.int IntKind.i64 0, Value.slice none 0 0, Value.slice none 0 0, Value.bool false]),
  (48, Value.slice none 0 0),
  (52, Value.agg #[Value.int IntKind.i64 0, Value.int IntKind.i64 0, Value.string { data := #[] }]),
  (60, Value.agg #[Value.int IntKind.i64 0, Value.string { data := #[] }, Value.string { data := #[] }, Value.int IntKind.i64 0, Value.int IntKind.i64 0, Value.string { data := #[] }]),
  (62, Value.agg #[Value.int IntKind.i64 0, Value.int IntKind.i64 0, Value.int IntKind.i64 0, Value.int IntKind.i64 0, Value.string { data := #[] }, Value.string { data := #[] }, Value.int IntKind.i64 0, Value.int IntKind.i64 0, Value.string { data := #[] }]),
  (67, Value.agg #[Value.slice none 0 0, Value.int IntKind.i64 0, Value.int IntKind.i64 0]),
  (91, Value.slice none 0 0),
  (113, Value.slice none 0 0),
  (117, Value.agg #[Value.slice none 0 0, Value.slice none 0 0]),
  (119, Value.agg #[Value.int IntKind.i64 0, Value.int IntKind.i64 0, Value.int IntKind.i64 0, Value.int IntKind.i64 0, Value.slice none 0 0, Value.slice none 0 0, Value.slice none 0 0, Value.slice none 0 0, Value.slice none 0 0, Value.int IntKind.i64 0]),
  (122, Value.agg #[Value.int IntKind.i64 0, Value.int IntKind.i64 0, Value.int IntKind.i64 0, Value.slice none 0 0, Value.slice none 0 0, Value.int IntKind.i64 0, Value.int IntKind.i64 0, Value.bool false]),
  (137, Value.agg #[Value.slice none 0 0, Value.slice none 0 0, Value.slice none 0 0]),
  (143, Value.agg #[Value.string { data := #[] }, Value.string { data := #[] }]),
  (152, Value.agg #[Value.int IntKind.i64 0, Value.slice none 0 0, Value.bool false]),
  (189, Value.agg #[Value.int IntKind.i64 0, Value.int IntKind.i64 0, Value.string { data := #[] }, Value.string { data := #[] }, Value.int IntKind.i64 0, Value.int IntKind.i64 0, Value.string { data := #[] }]),
  (218, Value.pointer none),
  (302, Value.nilFunc)]
def ftL : List (Nat × Nat × Nat) := []
def lkFt : List (Nat × Nat × Nat) → Nat → Nat → Option Nat
  | [], _, _ => none
  | (t, i, f) :: r, t' , i' => bif Nat.beq t t' && Nat.beq i i' then some f else lkFt r t' i'
def arL : List (Nat × Nat) := []
def lkAr : List (Nat × Nat) → Nat → Option Nat
  | [], _ => none
  | (t, n) :: r, t' => bif Nat.beq t t' then some n else lkAr r t'
def sqL : List (Nat × List Nat) := [(52, [0, 0, 1]), (60, [0, 1, 1, 0, 0, 1]), (143, [1, 1])]
def lkSq : List (Nat × List Nat) → Nat → Option (List Nat)
  | [], _ => none
  | (t, n) :: r, t' => bif Nat.beq t t' then some n else lkSq r t'
def zr : Ri.Zr := ⟨lkZ zrL, lkFt ftL, lkAr arL, lkSq sqL⟩
theorem sqk52 : Ri.SqOk Tryz.prog 52 [0, 0, 1] := by
  refine ⟨by kernel_rfl, fun cx cy r h w => ?_⟩
  obtain ⟨a0, b0, cx, cy, r0, rfl, rfl, h1, rfl⟩ := Ri.eqK_i h
  obtain ⟨a1, b1, cx, cy, r1, rfl, rfl, h2, rfl⟩ := Ri.eqK_i h1
  obtain ⟨a2, b2, cx, cy, r2, rfl, rfl, h3, rfl⟩ := Ri.eqK_s h2
  obtain ⟨rfl, rfl, rfl⟩ := Ri.eqK_n h3
  have u3 := Tryz.underlying3
  have q3 := Tryz.isAgg3
  have z3 := Tryz.sizeOf3
  have u9 := Tryz.underlying9
  have q9 := Tryz.isAgg9
  have z9 := Tryz.sizeOf9
  have hS : Tryz.prog.underlying 52 = some (.struct (Tryz.prog.fieldsOf 52)) := by kernel_rfl
  have hp : Tryz.prog.stoodInHeld 52 = false := by kernel_rfl
  rw [run_equalIn_agg w 9999 52 _ _ hS hp]
  simp only [Program.fieldsOf, Tryz.underlying52]
  go_simp
  simp only [bt_inj]
  repeat' split
  all_goals simp_all
theorem sqk60 : Ri.SqOk Tryz.prog 60 [0, 1, 1, 0, 0, 1] := by
  refine ⟨by kernel_rfl, fun cx cy r h w => ?_⟩
  obtain ⟨a0, b0, cx, cy, r0, rfl, rfl, h1, rfl⟩ := Ri.eqK_i h
  obtain ⟨a1, b1, cx, cy, r1, rfl, rfl, h2, rfl⟩ := Ri.eqK_s h1
  obtain ⟨a2, b2, cx, cy, r2, rfl, rfl, h3, rfl⟩ := Ri.eqK_s h2
  obtain ⟨a3, b3, cx, cy, r3, rfl, rfl, h4, rfl⟩ := Ri.eqK_i h3
  obtain ⟨a4, b4, cx, cy, r4, rfl, rfl, h5, rfl⟩ := Ri.eqK_i h4
  obtain ⟨a5, b5, cx, cy, r5, rfl, rfl, h6, rfl⟩ := Ri.eqK_s h5
  obtain ⟨rfl, rfl, rfl⟩ := Ri.eqK_n h6
  have u3 := Tryz.underlying3
  have q3 := Tryz.isAgg3
  have z3 := Tryz.sizeOf3
  have u9 := Tryz.underlying9
  have q9 := Tryz.isAgg9
  have z9 := Tryz.sizeOf9
  have hS : Tryz.prog.underlying 60 = some (.struct (Tryz.prog.fieldsOf 60)) := by kernel_rfl
  have hp : Tryz.prog.stoodInHeld 60 = false := by kernel_rfl
  rw [run_equalIn_agg w 9999 60 _ _ hS hp]
  simp only [Program.fieldsOf, Tryz.underlying60]
  go_simp
  simp only [bt_inj]
  repeat' split
  all_goals simp_all
theorem sqk143 : Ri.SqOk Tryz.prog 143 [1, 1] := by
  refine ⟨by kernel_rfl, fun cx cy r h w => ?_⟩
  obtain ⟨a0, b0, cx, cy, r0, rfl, rfl, h1, rfl⟩ := Ri.eqK_s h
  obtain ⟨a1, b1, cx, cy, r1, rfl, rfl, h2, rfl⟩ := Ri.eqK_s h1
  obtain ⟨rfl, rfl, rfl⟩ := Ri.eqK_n h2
  have u9 := Tryz.underlying9
  have q9 := Tryz.isAgg9
  have z9 := Tryz.sizeOf9
  have hS : Tryz.prog.underlying 143 = some (.struct (Tryz.prog.fieldsOf 143)) := by kernel_rfl
  have hp : Tryz.prog.stoodInHeld 143 = false := by kernel_rfl
  rw [run_equalIn_agg w 9999 143 _ _ hS hp]
  simp only [Program.fieldsOf, Tryz.underlying143]
  go_simp
  simp only [bt_inj]
  repeat' split
  all_goals simp_all
theorem sqok : ∀ t ks, zr.sq t = some ks → Ri.SqOk Tryz.prog t ks := by
  intro t ks h
  simp only [zr, sqL, lkSq] at h
  cases e0 : Nat.beq 52 t with
  | true =>
    obtain rfl := Nat.eq_of_beq_eq_true e0
    cases h
    exact sqk52
  | false =>
  rw [e0] at h
  simp only [cond_false] at h
  cases e1 : Nat.beq 60 t with
  | true =>
    obtain rfl := Nat.eq_of_beq_eq_true e1
    cases h
    exact sqk60
  | false =>
  rw [e1] at h
  simp only [cond_false] at h
  cases e2 : Nat.beq 143 t with
  | true =>
    obtain rfl := Nat.eq_of_beq_eq_true e2
    cases h
    exact sqk143
  | false =>
  rw [e2] at h
  simp only [cond_false] at h
  cases h
theorem arok : ∀ t n, zr.ar t = some n → ∃ e, chkArr Tryz.prog t n e = true := by
  intro t n h
  simp only [zr, arL, lkAr] at h
  cases h
theorem zok : ∀ t z, zr t = some z → ∀ w, (zeroValue t).run Tryz.prog w = .ok z w := lkZ_ok ⟨Tryz.zeroValue3, Tryz.zeroValue4, Tryz.zeroValue5, Tryz.zeroValue9, Tryz.zeroValue22, Tryz.zeroValue24, Tryz.zeroValue27, Tryz.zeroValue30, Tryz.zeroValue34, Tryz.zeroValue35, Tryz.zeroValue38, Tryz.zeroValue39, Tryz.zeroValue40, Tryz.zeroValue44, Tryz.zeroValue45, Tryz.zeroValue47, Tryz.zeroValue48, Tryz.zeroValue52, Tryz.zeroValue60, Tryz.zeroValue62, Tryz.zeroValue67, Tryz.zeroValue91, Tryz.zeroValue113, Tryz.zeroValue117, Tryz.zeroValue119, Tryz.zeroValue122, Tryz.zeroValue137, Tryz.zeroValue143, Tryz.zeroValue152, Tryz.zeroValue189, Tryz.zeroValue218, Tryz.zeroValue302, trivial⟩
theorem ftok : ∀ t i f, zr.ft t i = some f → ∃ off sz, chkFieldT Tryz.prog t i off f sz = true := by
  intro t i f h
  simp only [zr, ftL, lkFt] at h
  cases h
end Go.Proofs.YtifffdepmdnciaaGreatDoor.Fw

namespace Go.Proofs.YtifffdepmdnciaaGreatDoor.Ri
open Go.Proofs.YtifffdepmdnciaaGreatDoor.Fw
set_option linter.unusedVariables false
set_option maxRecDepth 100000
structure L01Cur where
  b : List UInt8
  i : Int
  h : Int
  deriving Inhabited
instance : Dat L01Cur := Dat.pull fun x => (x.b, x.i, x.h)
instance : Str L01Cur where
  fk := [.sl UInt8 instDatUInt8 (fun x => x.b), .int (fun x => x.i), .int (fun x => x.h)]
  op h := pull_op (fun x : L01Cur => (x.b, x.i, x.h)) h
  cl h := pull_cl (fun x : L01Cur => (x.b, x.i, x.h)) h
  oop h := pull_oop (fun x : L01Cur => (x.b, x.i, x.h)) h
  omk h := pull_omk (fun x : L01Cur => (x.b, x.i, x.h)) h
  gd h := pull_gd (fun x : L01Cur => (x.b, x.i, x.h)) h
noncomputable def tys : List (Nat × Ty) := [(3, ⟨Int, inferInstance, inferInstance⟩), (4, ⟨Bool, inferInstance, inferInstance⟩), (5, ⟨UInt8, inferInstance, inferInstance⟩), (9, ⟨ByteArray, inferInstance, inferInstance⟩), (22, ⟨List UInt8, inferInstance, inferInstance⟩), (24, ⟨List Int, inferInstance, inferInstance⟩), (27, ⟨List ByteArray, inferInstance, inferInstance⟩), (30, ⟨List Fw.Deed, inferInstance, inferInstance⟩), (38, ⟨List Fw.Cell, inferInstance, inferInstance⟩), (39, ⟨List Fw.Tx, inferInstance, inferInstance⟩), (40, ⟨List Fw.Slot, inferInstance, inferInstance⟩), (42, ⟨Fw.Journal, inferInstance, inferInstance⟩), (44, ⟨Fw.Disk, inferInstance, inferInstance⟩), (45, ⟨List Fw.Entry, inferInstance, inferInstance⟩), (47, ⟨Fw.Kernel, inferInstance, inferInstance⟩), (48, ⟨List Fw.Answer, inferInstance, inferInstance⟩), (52, ⟨Fw.Answer, inferInstance, inferInstance⟩), (60, ⟨Fw.Call, inferInstance, inferInstance⟩), (62, ⟨Fw.Deed, inferInstance, inferInstance⟩), (67, ⟨L01Cur, inferInstance, inferInstance⟩), (91, ⟨List Fw.Step, inferInstance, inferInstance⟩), (113, ⟨List (List ByteArray), inferInstance, inferInstance⟩), (115, ⟨List Fw.Call, inferInstance, inferInstance⟩), (117, ⟨Fw.Touch, inferInstance, inferInstance⟩), (119, ⟨Fw.Tx, inferInstance, inferInstance⟩), (122, ⟨Fw.Entry, inferInstance, inferInstance⟩), (137, ⟨Fw.Mach, inferInstance, inferInstance⟩), (143, ⟨Fw.Cell, inferInstance, inferInstance⟩), (152, ⟨Fw.Slot, inferInstance, inferInstance⟩), (189, ⟨Fw.Step, inferInstance, inferInstance⟩), (254, ⟨List (List Fw.Cell), inferInstance, inferInstance⟩)]
noncomputable def τ0 : Tab := tabOf tys
noncomputable def to3 : TyO τ0 3 where
  fs := [.int]
  tu := fun (x : Int) => (x, ())
  of := fun h => (h.1 : Int)
  back h := rfl
  op {S w us x} h := Str.op (α := Int) h
  cl {S w us x} h := Str.cl (α := Int) h
noncomputable def to4 : TyO τ0 4 where
  fs := [.bool]
  tu := fun (x : Bool) => (x, ())
  of := fun h => (h.1 : Bool)
  back h := rfl
  op {S w us x} h := Str.op (α := Bool) h
  cl {S w us x} h := Str.cl (α := Bool) h
noncomputable def to5 : TyO τ0 5 where
  fs := [.byte]
  tu := fun (x : UInt8) => (x, ())
  of := fun h => (h.1 : UInt8)
  back h := rfl
  op {S w us x} h := Str.op (α := UInt8) h
  cl {S w us x} h := Str.cl (α := UInt8) h
  bt := some (fun x => x, fun x => x)
  bl p h := by
    cases h
    exact ⟨rfl, fun S w us x h => by
      obtain ⟨v, r, rfl, hv, rfl⟩ := (inferInstance : Str UInt8).op h
      rw [hv]; rfl, fun S w x => (inferInstance : Str UInt8).cl ⟨_, _, rfl, rfl, rfl⟩⟩
noncomputable def to9 : TyO τ0 9 where
  fs := [.str]
  tu := fun (x : ByteArray) => (x, ())
  of := fun h => (h.1 : ByteArray)
  back h := rfl
  op {S w us x} h := Str.op (α := ByteArray) h
  cl {S w us x} h := Str.cl (α := ByteArray) h
noncomputable def to22 : TyO τ0 22 where
  fs := [.sl 5]
  tu := fun (x : List UInt8) => (x, ())
  of := fun h => (h.1 : List UInt8)
  back h := rfl
  op {S w us x} h := Str.op (α := List UInt8) h
  cl {S w us x} h := Str.cl (α := List UInt8) h
noncomputable def to24 : TyO τ0 24 where
  fs := [.sl 3]
  tu := fun (x : List Int) => (x, ())
  of := fun h => (h.1 : List Int)
  back h := rfl
  op {S w us x} h := Str.op (α := List Int) h
  cl {S w us x} h := Str.cl (α := List Int) h
noncomputable def to27 : TyO τ0 27 where
  fs := [.sl 9]
  tu := fun (x : List ByteArray) => (x, ())
  of := fun h => (h.1 : List ByteArray)
  back h := rfl
  op {S w us x} h := Str.op (α := List ByteArray) h
  cl {S w us x} h := Str.cl (α := List ByteArray) h
noncomputable def to30 : TyO τ0 30 where
  fs := [.sl 62]
  tu := fun (x : List Fw.Deed) => (x, ())
  of := fun h => (h.1 : List Fw.Deed)
  back h := rfl
  op {S w us x} h := Str.op (α := List Fw.Deed) h
  cl {S w us x} h := Str.cl (α := List Fw.Deed) h
noncomputable def to38 : TyO τ0 38 where
  fs := [.sl 143]
  tu := fun (x : List Fw.Cell) => (x, ())
  of := fun h => (h.1 : List Fw.Cell)
  back h := rfl
  op {S w us x} h := Str.op (α := List Fw.Cell) h
  cl {S w us x} h := Str.cl (α := List Fw.Cell) h
noncomputable def to39 : TyO τ0 39 where
  fs := [.sl 119]
  tu := fun (x : List Fw.Tx) => (x, ())
  of := fun h => (h.1 : List Fw.Tx)
  back h := rfl
  op {S w us x} h := Str.op (α := List Fw.Tx) h
  cl {S w us x} h := Str.cl (α := List Fw.Tx) h
noncomputable def to40 : TyO τ0 40 where
  fs := [.sl 152]
  tu := fun (x : List Fw.Slot) => (x, ())
  of := fun h => (h.1 : List Fw.Slot)
  back h := rfl
  op {S w us x} h := Str.op (α := List Fw.Slot) h
  cl {S w us x} h := Str.cl (α := List Fw.Slot) h
noncomputable def to42 : TyO τ0 42 where
  fs := [.str, .int]
  tu := fun (x : Fw.Journal) => (x.Text, x.Sure, ())
  of := fun h => (⟨h.1, h.2.1⟩ : Fw.Journal)
  back h := rfl
  op {S w us x} h := Str.op (α := Fw.Journal) h
  cl {S w us x} h := Str.cl (α := Fw.Journal) h
noncomputable def to44 : TyO τ0 44 where
  fs := [.sl 152, .str, .int]
  tu := fun (x : Fw.Disk) => (x.Slots, x.Journal.Text, x.Journal.Sure, ())
  of := fun h => (⟨h.1, ⟨h.2.1, h.2.2.1⟩⟩ : Fw.Disk)
  back h := rfl
  op {S w us x} h := Str.op (α := Fw.Disk) h
  cl {S w us x} h := Str.cl (α := Fw.Disk) h
noncomputable def to45 : TyO τ0 45 where
  fs := [.sl 122]
  tu := fun (x : List Fw.Entry) => (x, ())
  of := fun h => (h.1 : List Fw.Entry)
  back h := rfl
  op {S w us x} h := Str.op (α := List Fw.Entry) h
  cl {S w us x} h := Str.cl (α := List Fw.Entry) h
noncomputable def to47 : TyO τ0 47 where
  fs := [.sl 143, .sl 119, .sl 152, .str, .int, .int, .int, .int, .sl 122, .sl 9, .bool]
  tu := fun (x : Fw.Kernel) => (x.Store, x.Txs, x.Disk.Slots, x.Disk.Journal.Text, x.Disk.Journal.Sure, x.Seq, x.Next, x.Time, x.History, x.Seen, x.Room, ())
  of := fun h => (⟨h.1, h.2.1, ⟨h.2.2.1, ⟨h.2.2.2.1, h.2.2.2.2.1⟩⟩, h.2.2.2.2.2.1, h.2.2.2.2.2.2.1, h.2.2.2.2.2.2.2.1, h.2.2.2.2.2.2.2.2.1, h.2.2.2.2.2.2.2.2.2.1, h.2.2.2.2.2.2.2.2.2.2.1⟩ : Fw.Kernel)
  back h := rfl
  op {S w us x} h := Str.op (α := Fw.Kernel) h
  cl {S w us x} h := Str.cl (α := Fw.Kernel) h
noncomputable def to48 : TyO τ0 48 where
  fs := [.sl 52]
  tu := fun (x : List Fw.Answer) => (x, ())
  of := fun h => (h.1 : List Fw.Answer)
  back h := rfl
  op {S w us x} h := Str.op (α := List Fw.Answer) h
  cl {S w us x} h := Str.cl (α := List Fw.Answer) h
noncomputable def to52 : TyO τ0 52 where
  fs := [.int, .int, .str]
  tu := fun (x : Fw.Answer) => (x.Code, x.N, x.Text, ())
  of := fun h => (⟨h.1, h.2.1, h.2.2.1⟩ : Fw.Answer)
  back h := rfl
  op {S w us x} h := Str.op (α := Fw.Answer) h
  cl {S w us x} h := Str.cl (α := Fw.Answer) h
noncomputable def to60 : TyO τ0 60 where
  fs := [.int, .str, .str, .int, .int, .str]
  tu := fun (x : Fw.Call) => (x.Kind, x.Name, x.To, x.A, x.B, x.Text, ())
  of := fun h => (⟨h.1, h.2.1, h.2.2.1, h.2.2.2.1, h.2.2.2.2.1, h.2.2.2.2.2.1⟩ : Fw.Call)
  back h := rfl
  op {S w us x} h := Str.op (α := Fw.Call) h
  cl {S w us x} h := Str.cl (α := Fw.Call) h
noncomputable def to62 : TyO τ0 62 where
  fs := [.int, .int, .int, .int, .str, .str, .int, .int, .str]
  tu := fun (x : Fw.Deed) => (x.Kind, x.N, x.M, x.Call.Kind, x.Call.Name, x.Call.To, x.Call.A, x.Call.B, x.Call.Text, ())
  of := fun h => (⟨h.1, h.2.1, h.2.2.1, ⟨h.2.2.2.1, h.2.2.2.2.1, h.2.2.2.2.2.1, h.2.2.2.2.2.2.1, h.2.2.2.2.2.2.2.1, h.2.2.2.2.2.2.2.2.1⟩⟩ : Fw.Deed)
  back h := rfl
  op {S w us x} h := Str.op (α := Fw.Deed) h
  cl {S w us x} h := Str.cl (α := Fw.Deed) h
noncomputable def to67 : TyO τ0 67 where
  fs := [.sl 5, .int, .int]
  tu := fun (x : L01Cur) => (x.b, x.i, x.h, ())
  of := fun h => (⟨h.1, h.2.1, h.2.2.1⟩ : L01Cur)
  back h := rfl
  op {S w us x} h := Str.op (α := L01Cur) h
  cl {S w us x} h := Str.cl (α := L01Cur) h
noncomputable def to91 : TyO τ0 91 where
  fs := [.sl 189]
  tu := fun (x : List Fw.Step) => (x, ())
  of := fun h => (h.1 : List Fw.Step)
  back h := rfl
  op {S w us x} h := Str.op (α := List Fw.Step) h
  cl {S w us x} h := Str.cl (α := List Fw.Step) h
noncomputable def to113 : TyO τ0 113 where
  fs := [.sl 27]
  tu := fun (x : List (List ByteArray)) => (x, ())
  of := fun h => (h.1 : List (List ByteArray))
  back h := rfl
  op {S w us x} h := Str.op (α := List (List ByteArray)) h
  cl {S w us x} h := Str.cl (α := List (List ByteArray)) h
noncomputable def to115 : TyO τ0 115 where
  fs := [.sl 60]
  tu := fun (x : List Fw.Call) => (x, ())
  of := fun h => (h.1 : List Fw.Call)
  back h := rfl
  op {S w us x} h := Str.op (α := List Fw.Call) h
  cl {S w us x} h := Str.cl (α := List Fw.Call) h
noncomputable def to117 : TyO τ0 117 where
  fs := [.sl 9, .sl 9]
  tu := fun (x : Fw.Touch) => (x.Reads, x.Writes, ())
  of := fun h => (⟨h.1, h.2.1⟩ : Fw.Touch)
  back h := rfl
  op {S w us x} h := Str.op (α := Fw.Touch) h
  cl {S w us x} h := Str.cl (α := Fw.Touch) h
noncomputable def to119 : TyO τ0 119 where
  fs := [.int, .int, .int, .int, .sl 60, .sl 52, .sl 9, .sl 9, .sl 3, .int]
  tu := fun (x : Fw.Tx) => (x.Id, x.Age, x.Proc, x.Began, x.Calls, x.Answers, x.Touch.Reads, x.Touch.Writes, x.Marks, x.State, ())
  of := fun h => (⟨h.1, h.2.1, h.2.2.1, h.2.2.2.1, h.2.2.2.2.1, h.2.2.2.2.2.1, ⟨h.2.2.2.2.2.2.1, h.2.2.2.2.2.2.2.1⟩, h.2.2.2.2.2.2.2.2.1, h.2.2.2.2.2.2.2.2.2.1⟩ : Fw.Tx)
  back h := rfl
  op {S w us x} h := Str.op (α := Fw.Tx) h
  cl {S w us x} h := Str.cl (α := Fw.Tx) h
noncomputable def to122 : TyO τ0 122 where
  fs := [.int, .int, .int, .sl 189, .sl 52, .int, .int, .bool]
  tu := fun (x : Fw.Entry) => (x.Seq, x.Kind, x.Tx, x.Steps, x.Answers, x.Began, x.Ended, x.Laid, ())
  of := fun h => (⟨h.1, h.2.1, h.2.2.1, h.2.2.2.1, h.2.2.2.2.1, h.2.2.2.2.2.1, h.2.2.2.2.2.2.1, h.2.2.2.2.2.2.2.1⟩ : Fw.Entry)
  back h := rfl
  op {S w us x} h := Str.op (α := Fw.Entry) h
  cl {S w us x} h := Str.cl (α := Fw.Entry) h
noncomputable def to137 : TyO τ0 137 where
  fs := [.sl 143, .sl 9, .sl 9]
  tu := fun (x : Fw.Mach) => (x.Store, x.Touch.Reads, x.Touch.Writes, ())
  of := fun h => (⟨h.1, ⟨h.2.1, h.2.2.1⟩⟩ : Fw.Mach)
  back h := rfl
  op {S w us x} h := Str.op (α := Fw.Mach) h
  cl {S w us x} h := Str.cl (α := Fw.Mach) h
noncomputable def to143 : TyO τ0 143 where
  fs := [.str, .str]
  tu := fun (x : Fw.Cell) => (x.Key, x.Val, ())
  of := fun h => (⟨h.1, h.2.1⟩ : Fw.Cell)
  back h := rfl
  op {S w us x} h := Str.op (α := Fw.Cell) h
  cl {S w us x} h := Str.cl (α := Fw.Cell) h
noncomputable def to152 : TyO τ0 152 where
  fs := [.int, .sl 143, .bool]
  tu := fun (x : Fw.Slot) => (x.Seq, x.Cells, x.Whole, ())
  of := fun h => (⟨h.1, h.2.1, h.2.2.1⟩ : Fw.Slot)
  back h := rfl
  op {S w us x} h := Str.op (α := Fw.Slot) h
  cl {S w us x} h := Str.cl (α := Fw.Slot) h
noncomputable def to189 : TyO τ0 189 where
  fs := [.int, .int, .str, .str, .int, .int, .str]
  tu := fun (x : Fw.Step) => (x.Proc, x.Call.Kind, x.Call.Name, x.Call.To, x.Call.A, x.Call.B, x.Call.Text, ())
  of := fun h => (⟨h.1, ⟨h.2.1, h.2.2.1, h.2.2.2.1, h.2.2.2.2.1, h.2.2.2.2.2.1, h.2.2.2.2.2.2.1⟩⟩ : Fw.Step)
  back h := rfl
  op {S w us x} h := Str.op (α := Fw.Step) h
  cl {S w us x} h := Str.cl (α := Fw.Step) h
noncomputable def to254 : TyO τ0 254 where
  fs := [.sl 38]
  tu := fun (x : List (List Fw.Cell)) => (x, ())
  of := fun h => (h.1 : List (List Fw.Cell))
  back h := rfl
  op {S w us x} h := Str.op (α := List (List Fw.Cell)) h
  cl {S w us x} h := Str.cl (α := List (List Fw.Cell)) h
noncomputable def toL : List (Σ t, TyO τ0 t) := [⟨3, to3⟩, ⟨4, to4⟩, ⟨5, to5⟩, ⟨9, to9⟩, ⟨22, to22⟩, ⟨24, to24⟩, ⟨27, to27⟩, ⟨30, to30⟩, ⟨38, to38⟩, ⟨39, to39⟩, ⟨40, to40⟩, ⟨42, to42⟩, ⟨44, to44⟩, ⟨45, to45⟩, ⟨47, to47⟩, ⟨48, to48⟩, ⟨52, to52⟩, ⟨60, to60⟩, ⟨62, to62⟩, ⟨67, to67⟩, ⟨91, to91⟩, ⟨113, to113⟩, ⟨115, to115⟩, ⟨117, to117⟩, ⟨119, to119⟩, ⟨122, to122⟩, ⟨137, to137⟩, ⟨143, to143⟩, ⟨152, to152⟩, ⟨189, to189⟩, ⟨254, to254⟩]
theorem toL_keys : toL.map (·.1) = tys.map (·.1) := rfl
noncomputable def O0 : Opn τ0 := opnOf fun t => lkO toL t fun h => tyMiss (lkTy_miss fun k hk => by
  rw [← toL_keys] at hk
  obtain ⟨x, hx, rfl⟩ := List.mem_map.1 hk
  exact h x hx)
theorem O0_fit : MkFit O0 := opnOf_fit _
end Go.Proofs.YtifffdepmdnciaaGreatDoor.Ri

namespace Go.Proofs.YtifffdepmdnciaaGreatDoor.Ri
open Go.Proofs.YtifffdepmdnciaaGreatDoor.Fw
def itoaS (n : Int) : ByteArray := ⟨(Lib.itoa (IntKind.wrap .i64 n)).toArray⟩
def itoaX (x : Int × Unit) : Option (ByteArray × Unit) := some (itoaS x.1, ())
def growX (x : List ByteArray × Int × Unit) : Option (List ByteArray × Unit) := bif decide (0 ≤ x.2.1) && decide (x.2.1 ≤ 4398046511104) then some ([], ()) else none
def insX {α : Type} (x : List α × Int × List α × Unit) : Option (List α × Unit) := bif (decide (0 ≤ x.2.1) && decide (x.2.1 ≤ (x.1.length : Int))) && (Nat.ble x.1.length 1073741824 && Nat.beq x.2.2.1.length 1) then some (x.1.take x.2.1.toNat ++ x.2.2.1 ++ x.1.drop x.2.1.toNat, ()) else none
def cloneX {α : Type} (x : List α × Unit) : Option (List α × Unit) := bif Nat.ble x.1.length 1073741824 then some (x.1, ()) else none
def splitS (s sep : ByteArray) : List ByteArray := Lib.splitB sep 0 (Lib.countB s sep) s
def splitX (x : ByteArray × ByteArray × Unit) : Option (List ByteArray × Unit) := bif Nat.ble x.1.size 4294967280 && Nat.beq x.2.1.size 1 then some (splitS x.1 x.2.1, ()) else none
def fieldsS (s : ByteArray) : List ByteArray := (Lib.fields s.data.toList).map fun l => ⟨l.toArray⟩
def fieldsX (x : ByteArray × Unit) : Option (List ByteArray × Unit) := bif Nat.ble x.1.size 4294967280 && x.1.data.toList.all (fun b => decide (b.toNat < 128)) then some (fieldsS x.1, ()) else none
def readX (x : ByteArray × Unit) : Option (Int × Bool × Unit) := bif Nat.beq x.1.size 0 then some (0, false, ()) else none
end Go.Proofs.YtifffdepmdnciaaGreatDoor.Ri

namespace Go.Proofs.YtifffdepmdnciaaGreatDoor.Ri
open Go.Proofs.YtifffdepmdnciaaGreatDoor.Fw
set_option maxRecDepth 100000
def annL : List (Nat × Nat × List Nat × List (Nat × Nat)) → Nat → Nat → Option An
  | [], _, _ => none
  | (f', p', l, n) :: r, f, p => bif Nat.beq f' f && Nat.beq p' p then some ⟨l, n⟩ else annL r f p
def sgL : List (Nat × Sig) → Nat → Sig
  | [], _ => ⟨[], []⟩
  | (k, x) :: r, t => bif Nat.beq k t then x else sgL r t
def vrL : List (Nat × Nat × Nat) → Nat → Nat → Nat
  | [], _, f => f
  | (a, b, v) :: r, g, f => bif Nat.beq a g && Nat.beq b f then v else vrL r g f
def lkN : List (Nat × Nat) → Nat → Nat
  | [], _ => 0
  | (a, v) :: r, i => bif Nat.beq a i then v else lkN r i
def hdL : List (Nat × Nat × List (Nat × Nat)) → Nat → Nat → Nat → Nat
  | [], _, _, _ => 0
  | (f, d, l) :: r, g, i, k => bif Nat.beq f g && Nat.beq d i then lkN l k else hdL r g i k
def bs0 (f : Nat) : Nat := f % 1000
def ocL : List (Nat × List Nat) → Nat → Nat → Bool
  | [], _, _ => false
  | (f, l) :: r, g, d => bif Nat.beq f g then memN d l else ocL r g d
def sgT : List (Nat × Sig) := [(3, ⟨[(22, .ro)], [(4, .own)]⟩),
  (4, ⟨[(22, .ro)], [(4, .own)]⟩),
  (5, ⟨[(22, .ro)], [(24, .own)]⟩),
  (6, ⟨[(3, .ro)], [(9, .own)]⟩),
  (7, ⟨[(9, .ro)], [(27, .own), (3, .own)]⟩),
  (8, ⟨[(9, .ro)], [(30, .own), (3, .own)]⟩),
  (9, ⟨[(27, .ro), (27, .ro)], [(4, .own)]⟩),
  (10, ⟨[(9, .ro)], [(4, .own)]⟩),
  (11, ⟨[(22, .ro)], [(67, .nv)]⟩),
  (12, ⟨[(67, .pb), (3, .ro)], [(3, .own)]⟩),
  (13, ⟨[(3, .ro)], [(9, .own)]⟩),
  (14, ⟨[(30, .ro)], [(47, .ro), (48, .ro)]⟩),
  (17, ⟨[(47, .ro)], [(27, .own)]⟩),
  (18, ⟨[(9, .ro), (9, .ro)], [(27, .own)]⟩),
  (19, ⟨[(9, .ro)], [(27, .own), (4, .own)]⟩),
  (20, ⟨[(9, .ro), (9, .ro)], [(4, .own)]⟩),
  (22, ⟨[(47, .ro)], [(4, .own)]⟩),
  (23, ⟨[(67, .pb)], [(3, .own)]⟩),
  (25, ⟨[], [(47, .ro)]⟩),
  (27, ⟨[(3, .ro), (3, .ro), (3, .ro)], [(4, .own)]⟩),
  (29, ⟨[(113, .ro)], [(27, .own)]⟩),
  (30, ⟨[(39, .ro)], [(27, .own)]⟩),
  (31, ⟨[(45, .ro)], [(27, .own)]⟩),
  (33, ⟨[(9, .ro)], [(27, .own)]⟩),
  (34, ⟨[(9, .ro), (9, .ro)], [(4, .own)]⟩),
  (37, ⟨[(9, .ro)], [(3, .own), (4, .own)]⟩),
  (41, ⟨[(38, .ro), (91, .ro)], [(38, .own), (48, .own)]⟩),
  (42, ⟨[], [(38, .own)]⟩),
  (43, ⟨[(45, .ro)], [(91, .own)]⟩),
  (44, ⟨[(48, .ro), (48, .ro)], [(4, .own)]⟩),
  (45, ⟨[(45, .ro)], [(48, .own)]⟩),
  (46, ⟨[(38, .ro), (38, .ro)], [(4, .own)]⟩),
  (48, ⟨[(38, .ro)], [(44, .ro)]⟩),
  (65, ⟨[(27, .vo .nl), (3, .ro)], [(27, .own)]⟩),
  (78, ⟨[(38, .ro)], [(137, .own)]⟩),
  (79, ⟨[(137, .pm), (91, .ro)], [(48, .own)]⟩),
  (80, ⟨[(137, .pm), (3, .ro)], [(3, .own), (3, .own)]⟩),
  (81, ⟨[(48, .ro), (48, .ro)], [(4, .own)]⟩),
  (82, ⟨[(38, .ro), (38, .ro)], [(4, .own)]⟩),
  (87, ⟨[(38, .ro)], [(38, .own)]⟩),
  (95, ⟨[(38, .ro), (9, .ro)], [(9, .own)]⟩),
  (96, ⟨[(3, .ro), (9, .ro)], [(9, .own)]⟩),
  (144, ⟨[(137, .pm), (9, .ro)], [(3, .own)]⟩),
  (145, ⟨[(137, .pm), (9, .ro)], [(3, .own)]⟩),
  (146, ⟨[(137, .pm), (9, .ro), (3, .ro)], []⟩),
  (163, ⟨[(38, .ro), (9, .ro)], [(3, .own)]⟩),
  (164, ⟨[(9, .ro), (3, .ro), (9, .ro)], [(9, .own)]⟩),
  (190, ⟨[(38, .own), (9, .ro), (9, .ro)], [(38, .own)]⟩),
  (234, ⟨[(9, .ro)], [(3, .own)]⟩),
  (235, ⟨[(137, .pm), (9, .ro)], [(9, .own)]⟩),
  (236, ⟨[(137, .pm), (9, .ro), (9, .ro)], []⟩),
  (242, ⟨[(9, .ro)], [(4, .own)]⟩),
  (244, ⟨[(38, .ro), (9, .vo (.cf 245))], [(3, .own)]⟩),
  (245, ⟨[(143, .ro), (9, .vo .pr)], [(4, .own)]⟩),
  (249, ⟨[(27, .own), (9, .ro)], [(27, .own)]⟩),
  (260, ⟨[(38, .own), (9, .vo (.cf 261))], [(38, .own)]⟩),
  (261, ⟨[(143, .ro), (9, .vo .pr)], [(4, .own)]⟩),
  (262, ⟨[(143, .ro), (9, .vo .pr)], [(4, .own)]⟩),
  (263, ⟨[(38, .own), (3, .ro), (38, .own)], [(38, .own)]⟩),
  (287, ⟨[(27, .ro), (9, .vo (.cf 288))], [(3, .own)]⟩),
  (288, ⟨[(9, .ro), (9, .vo .pr)], [(4, .own)]⟩),
  (289, ⟨[(27, .own), (3, .ro), (27, .own)], [(27, .own)]⟩),
  (1244, ⟨[(38, .ro), (9, .vo (.cf 262))], [(3, .own)]⟩),
  (2244, ⟨[(38, .ro), (9, .vo (.cf 261))], [(3, .own)]⟩)]
def anT : List (Nat × Nat × List Nat × List (Nat × Nat)) := [(3, 63, [4], []),
  (3, 500, [3, 4, 5], []),
  (5, 31, [4], []),
  (5, 244, [3, 4, 5], []),
  (7, 127, [6, 8], []),
  (7, 1012, [6, 8, 24, 25, 26], []),
  (8, 31, [4], []),
  (8, 244, [4, 14, 15, 16], []),
  (8, 1959, [4, 14, 15, 16], []),
  (9, 15, [], []),
  (9, 116, [0, 1, 5], []),
  (11, 15, [0, 3], []),
  (11, 116, [0, 3, 4], []),
  (14, 31, [2, 4, 5], []),
  (14, 244, [2, 4, 5, 15, 16, 17], []),
  (17, 15, [3], []),
  (17, 116, [3, 22, 23, 24], []),
  (19, 15, [0], []),
  (19, 116, [0, 10, 11], []),
  (23, 31, [0, 3], []),
  (29, 15, [0, 3], []),
  (29, 63, [6], []),
  (29, 116, [0, 3, 9, 10, 11], []),
  (29, 500, [6, 25, 26, 27], []),
  (29, 935, [0, 3, 9, 10, 11], []),
  (30, 15, [3], []),
  (30, 116, [3, 6, 7, 8], []),
  (31, 15, [3], []),
  (31, 116, [3, 6, 7, 8], []),
  (43, 15, [3], []),
  (43, 116, [3, 6, 7, 8], []),
  (45, 15, [3], []),
  (45, 116, [3, 6, 7, 8], []),
  (79, 15, [0, 5], []),
  (79, 116, [0, 5, 8, 9, 10], []),
  (81, 15, [], []),
  (81, 116, [0, 1, 12, 13], []),
  (82, 15, [], []),
  (82, 116, [0, 1, 12, 13], []),
  (146, 7, [0, 1, 6], []),
  (190, 127, [0, 2, 4, 7], []),
  (242, 7, [0], []),
  (242, 52, [0, 5, 6], []),
  (244, 7, [], []),
  (244, 52, [0, 1, 7, 8], []),
  (260, 31, [0, 5], []),
  (260, 244, [0, 1, 5, 6], []),
  (260, 979, [0, 1, 5, 6], []),
  (287, 7, [], []),
  (287, 52, [0, 1, 7, 8], [])]
def isx0 (f : Nat) : Bool := Nat.beq f 37 || Nat.beq f 87 || Nat.beq f 65 || Nat.beq f 263 || Nat.beq f 289 || Nat.beq f 13 || Nat.beq f 33 || Nat.beq f 18
noncomputable def xt0 : ∀ f, HL τ0 ((sgL sgT f).ps.map (·.1)) → Option (HL τ0 ((sgL sgT f).outs.map (·.1)))
  | 37 => readX
  | 87 => cloneX
  | 65 => growX
  | 263 => insX
  | 289 => insX
  | 13 => itoaX
  | 33 => fieldsX
  | 18 => splitX
  | _ => fun _ => none
noncomputable def Z0 : Lw τ0 := ⟨O0, ti, zr, sgL sgT, fun f => annL anT (bs0 f), fun f => ocL [(249, [3]), (163, [3]), (190, [4]), (260, [38, 41])] (bs0 f), fun f => hdL [] (bs0 f), fun f => vrL [(190, 244, 1244), (260, 244, 2244)] (bs0 f), bs0, isx0, xt0⟩
noncomputable def F0 : Nat → Option Fx := fun f => fxOf Tryz.prog (bs0 f)
end Go.Proofs.YtifffdepmdnciaaGreatDoor.Ri

namespace Go.Proofs.YtifffdepmdnciaaGreatDoor.Ri
open Go.Proofs.YtifffdepmdnciaaGreatDoor.Fw
open Go.RowKit
set_option linter.unusedVariables false
set_option maxRecDepth 100000
def gd {α : Type} (c : Bool) (k : Option α) : Option α := bif c then k else none
def ng {α : Type} (c : Bool) (k : Option α) : Option α := bif c then none else k
def tx (l : List UInt8) : ByteArray := ⟨l.toArray⟩
noncomputable def Dn (f : Nat) (x : InT τ0 (Z0.sg f)) : Option (OutT τ0 (Z0.sg f)) := Den Z0 F0 f x
noncomputable def Ln (f p : Nat) (s : Sx τ0 × Nat) : Option (OutT τ0 (Z0.sg f)) := Run Z0 F0 f p s.1 s.2
noncomputable def DE (f : Nat) (x : InT τ0 (Z0.sg f)) : Option (OutT τ0 (Z0.sg f)) := begF Z0 F0 (fun f p σ nx => runF Z0 F0 (Den Z0 F0) (Run Z0 F0) f p σ nx) f x
noncomputable def LE (f p : Nat) (s : Sx τ0 × Nat) : Option (OutT τ0 (Z0.sg f)) := runF Z0 F0 (Den Z0 F0) (Run Z0 F0) f p s.1 s.2
theorem Dn_eq (f : Nat) (x : InT τ0 (Z0.sg f)) : Dn f x = DE f x := Den_eq Z0 F0 f x
theorem Ln_eq (f p : Nat) (s : Sx τ0 × Nat) : Ln f p s = LE f p s := Run_eq' Z0 F0 f p s.1 s.2
noncomputable def D3 (x0 : List UInt8) : Option (Bool × Unit) := Dn 3 (x0, ())
noncomputable def D4 (x0 : List UInt8) : Option (Bool × Unit) := Dn 4 (x0, ())
noncomputable def D5 (x0 : List UInt8) : Option ((List Int) × Unit) := Dn 5 (x0, ())
noncomputable def D6 (x0 : Int) : Option (ByteArray × Unit) := Dn 6 (x0, ())
noncomputable def D7 (x0 : ByteArray) : Option ((List ByteArray) × Int × Unit) := Dn 7 (x0, ())
noncomputable def D8 (x0 : ByteArray) : Option ((List Fw.Deed) × Int × Unit) := Dn 8 (x0, ())
noncomputable def D9 (x0 : List ByteArray) (x1 : List ByteArray) : Option (Bool × Unit) := Dn 9 (x0, x1, ())
noncomputable def D10 (x0 : ByteArray) : Option (Bool × Unit) := Dn 10 (x0, ())
noncomputable def D11 (x0 : List UInt8) : Option (L01Cur × Unit) := Dn 11 (x0, ())
noncomputable def D12 (x0 : L01Cur) (x1 : Int) : Option (Int × L01Cur × Unit) := Dn 12 (x0, x1, ())
noncomputable def D13 (x0 : Int) : Option (ByteArray × Unit) := Dn 13 (x0, ())
noncomputable def D14 (x0 : List Fw.Deed) : Option (Fw.Kernel × (List Fw.Answer) × Unit) := Dn 14 (x0, ())
noncomputable def D17 (x0 : Fw.Kernel) : Option ((List ByteArray) × Unit) := Dn 17 (x0, ())
noncomputable def D18 (x0 : ByteArray) (x1 : ByteArray) : Option ((List ByteArray) × Unit) := Dn 18 (x0, x1, ())
noncomputable def D19 (x0 : ByteArray) : Option ((List ByteArray) × Bool × Unit) := Dn 19 (x0, ())
noncomputable def D20 (x0 : ByteArray) (x1 : ByteArray) : Option (Bool × Unit) := Dn 20 (x0, x1, ())
noncomputable def D22 (x0 : Fw.Kernel) : Option (Bool × Unit) := Dn 22 (x0, ())
noncomputable def D23 (x0 : L01Cur) : Option (Int × L01Cur × Unit) := Dn 23 (x0, ())
noncomputable def D25  : Option (Fw.Kernel × Unit) := Dn 25 (())
noncomputable def D27 (x0 : Int) (x1 : Int) (x2 : Int) : Option (Bool × Unit) := Dn 27 (x0, x1, x2, ())
noncomputable def D29 (x0 : List (List ByteArray)) : Option ((List ByteArray) × Unit) := Dn 29 (x0, ())
noncomputable def D30 (x0 : List Fw.Tx) : Option ((List ByteArray) × Unit) := Dn 30 (x0, ())
noncomputable def D31 (x0 : List Fw.Entry) : Option ((List ByteArray) × Unit) := Dn 31 (x0, ())
noncomputable def D33 (x0 : ByteArray) : Option ((List ByteArray) × Unit) := Dn 33 (x0, ())
noncomputable def D34 (x0 : ByteArray) (x1 : ByteArray) : Option (Bool × Unit) := Dn 34 (x0, x1, ())
noncomputable def D37 (x0 : ByteArray) : Option (Int × Bool × Unit) := Dn 37 (x0, ())
noncomputable def D41 (x0 : List Fw.Cell) (x1 : List Fw.Step) : Option ((List Fw.Cell) × (List Fw.Answer) × Unit) := Dn 41 (x0, x1, ())
noncomputable def D42  : Option ((List Fw.Cell) × Unit) := Dn 42 (())
noncomputable def D43 (x0 : List Fw.Entry) : Option ((List Fw.Step) × Unit) := Dn 43 (x0, ())
noncomputable def D44 (x0 : List Fw.Answer) (x1 : List Fw.Answer) : Option (Bool × Unit) := Dn 44 (x0, x1, ())
noncomputable def D45 (x0 : List Fw.Entry) : Option ((List Fw.Answer) × Unit) := Dn 45 (x0, ())
noncomputable def D46 (x0 : List Fw.Cell) (x1 : List Fw.Cell) : Option (Bool × Unit) := Dn 46 (x0, x1, ())
noncomputable def D48 (x0 : List Fw.Cell) : Option (Fw.Disk × Unit) := Dn 48 (x0, ())
noncomputable def D65 (x0 : List ByteArray) (x1 : Int) : Option ((List ByteArray) × Unit) := Dn 65 (x0, x1, ())
noncomputable def D78 (x0 : List Fw.Cell) : Option (Fw.Mach × Unit) := Dn 78 (x0, ())
noncomputable def D79 (x0 : Fw.Mach) (x1 : List Fw.Step) : Option ((List Fw.Answer) × Fw.Mach × Unit) := Dn 79 (x0, x1, ())
noncomputable def D80 (x0 : Fw.Mach) (x1 : Int) : Option (Int × Int × Fw.Mach × Unit) := Dn 80 (x0, x1, ())
noncomputable def D81 (x0 : List Fw.Answer) (x1 : List Fw.Answer) : Option (Bool × Unit) := Dn 81 (x0, x1, ())
noncomputable def D82 (x0 : List Fw.Cell) (x1 : List Fw.Cell) : Option (Bool × Unit) := Dn 82 (x0, x1, ())
noncomputable def D87 (x0 : List Fw.Cell) : Option ((List Fw.Cell) × Unit) := Dn 87 (x0, ())
noncomputable def D95 (x0 : List Fw.Cell) (x1 : ByteArray) : Option (ByteArray × Unit) := Dn 95 (x0, x1, ())
noncomputable def D96 (x0 : Int) (x1 : ByteArray) : Option (ByteArray × Unit) := Dn 96 (x0, x1, ())
noncomputable def D144 (x0 : Fw.Mach) (x1 : ByteArray) : Option (Int × Fw.Mach × Unit) := Dn 144 (x0, x1, ())
noncomputable def D145 (x0 : Fw.Mach) (x1 : ByteArray) : Option (Int × Fw.Mach × Unit) := Dn 145 (x0, x1, ())
noncomputable def D146 (x0 : Fw.Mach) (x1 : ByteArray) (x2 : Int) : Option (Fw.Mach × Unit) := Dn 146 (x0, x1, x2, ())
noncomputable def D163 (x0 : List Fw.Cell) (x1 : ByteArray) : Option (Int × Unit) := Dn 163 (x0, x1, ())
noncomputable def D164 (x0 : ByteArray) (x1 : Int) (x2 : ByteArray) : Option (ByteArray × Unit) := Dn 164 (x0, x1, x2, ())
noncomputable def D190 (x0 : List Fw.Cell) (x1 : ByteArray) (x2 : ByteArray) : Option ((List Fw.Cell) × Unit) := Dn 190 (x0, x1, x2, ())
noncomputable def D234 (x0 : ByteArray) : Option (Int × Unit) := Dn 234 (x0, ())
noncomputable def D235 (x0 : Fw.Mach) (x1 : ByteArray) : Option (ByteArray × Fw.Mach × Unit) := Dn 235 (x0, x1, ())
noncomputable def D236 (x0 : Fw.Mach) (x1 : ByteArray) (x2 : ByteArray) : Option (Fw.Mach × Unit) := Dn 236 (x0, x1, x2, ())
noncomputable def D242 (x0 : ByteArray) : Option (Bool × Unit) := Dn 242 (x0, ())
noncomputable def D244 (x0 : List Fw.Cell) (x1 : ByteArray) : Option (Int × Unit) := Dn 244 (x0, x1, ())
noncomputable def D245 (x0 : Fw.Cell) (x1 : ByteArray) : Option (Bool × Unit) := Dn 245 (x0, x1, ())
noncomputable def D249 (x0 : List ByteArray) (x1 : ByteArray) : Option ((List ByteArray) × Unit) := Dn 249 (x0, x1, ())
noncomputable def D260 (x0 : List Fw.Cell) (x1 : ByteArray) : Option ((List Fw.Cell) × Unit) := Dn 260 (x0, x1, ())
noncomputable def D261 (x0 : Fw.Cell) (x1 : ByteArray) : Option (Bool × Unit) := Dn 261 (x0, x1, ())
noncomputable def D262 (x0 : Fw.Cell) (x1 : ByteArray) : Option (Bool × Unit) := Dn 262 (x0, x1, ())
noncomputable def D263 (x0 : List Fw.Cell) (x1 : Int) (x2 : List Fw.Cell) : Option ((List Fw.Cell) × Unit) := Dn 263 (x0, x1, x2, ())
noncomputable def D287 (x0 : List ByteArray) (x1 : ByteArray) : Option (Int × Unit) := Dn 287 (x0, x1, ())
noncomputable def D288 (x0 : ByteArray) (x1 : ByteArray) : Option (Bool × Unit) := Dn 288 (x0, x1, ())
noncomputable def D289 (x0 : List ByteArray) (x1 : Int) (x2 : List ByteArray) : Option ((List ByteArray) × Unit) := Dn 289 (x0, x1, x2, ())
noncomputable def D1244 (x0 : List Fw.Cell) (x1 : ByteArray) : Option (Int × Unit) := Dn 1244 (x0, x1, ())
noncomputable def D2244 (x0 : List Fw.Cell) (x1 : ByteArray) : Option (Int × Unit) := Dn 2244 (x0, x1, ())
end Go.Proofs.YtifffdepmdnciaaGreatDoor.Ri

namespace Go.Proofs.YtifffdepmdnciaaGreatDoor.Ri
open Go.Proofs.YtifffdepmdnciaaGreatDoor.Fw
open Go.RowKit
set_option linter.unusedVariables false
set_option maxRecDepth 100000
noncomputable def L3_500 (s4 : ByteArray) (s5 : Int) (e0 : List Int) : Option (Bool × Unit) := Ln 3 500 (⟨60, [(3, .ok (.sl 0)), (4, .ok (.v (.string s4))), (5, .ok (.v (.int .i64 s5)))], [(0, .own 3 e0)]⟩, 1)
noncomputable def L3_63 (s4 : ByteArray) : Option (Bool × Unit) := Ln 3 63 (⟨60, [(4, .ok (.v (.string s4)))], []⟩, 0)
theorem E3 (x0 : List UInt8) : D3 x0 = ((D4 x0).bind fun y0 => bif y0.1 then (some (true, ())) else (D5 x0).bind fun y1 => L3_500 (tx []) 0 y1.1) := (Dn_eq _ _).trans (by kernel_rfl)
theorem P3_500 (s4 : ByteArray) (s5 : Int) (e0 : List Int) : L3_500 s4 s5 e0 = (gd ((decide (0 ≤ 0)) && (decide (0 < (e0.length : Int)))) <| gd (!(decide (20 = 0))) <| bif (decide (s5 < (Int.tmod (nth e0 (0 : Int).toNat) 20))) then (gd (decide ((s4.size + (tx [35, 32]).size) ≤ 9223372036854775807)) <| gd ((decide (0 ≤ 1)) && (decide (1 < (e0.length : Int)))) <| (D6 (nth e0 (1 : Int).toNat)).bind fun y0 => gd (decide (((s4 ++ (tx [35, 32])).size + y0.1.size) ≤ 9223372036854775807)) <| gd (decide ((((s4 ++ (tx [35, 32])) ++ y0.1).size + (tx [10, 32, 10]).size) ≤ 9223372036854775807)) <| L3_500 (((s4 ++ (tx [35, 32])) ++ y0.1) ++ (tx [10, 32, 10])) (IntKind.wrap .i64 (s5 + 1)) e0) else L3_63 s4) := (Ln_eq _ _ _).trans (by kernel_rfl)
theorem P3_63 (s4 : ByteArray) : L3_63 s4 = ((D7 s4).bind fun y0 => (D8 s4).bind fun y1 => bif (((decide (y0.2.1 = 0)) && (decide (y1.2.1 = 0))) && (decide ((y1.1.length : Int) = 0))) then ((D9 y0.1 [(tx [115, 101, 113, 32, 48])]).bind fun y2 => bif y2.1 then ((D10 s4).bind fun y3 => some (y3.1, ())) else some (false, ())) else some (false, ())) := (Ln_eq _ _ _).trans (by kernel_rfl)
theorem E4 (x0 : List UInt8) : D4 x0 = (some ((decide ((x0.length : Int) > 1048576)), ())) := (Dn_eq _ _).trans (by kernel_rfl)
noncomputable def L5_244 (s5 : Int) (e0_0 : List UInt8) (e0_1 : Int) (e0_2 : Int) (e1 : List Int) : Option ((List Int) × Unit) := Ln 5 244 (⟨19, [(3, .ok (.pt 0 0)), (4, .ok (.sl 1)), (5, .ok (.v (.int .i64 s5)))], [(0, .var [.ro 5 e0_0, .v (.int .i64 e0_1), .v (.int .i64 e0_2)] 67), (1, .own 3 e1)]⟩, 2)
noncomputable def L5_31 (e0 : List Int) : Option ((List Int) × Unit) := Ln 5 31 (⟨19, [(4, .ok (.sl 0))], [(0, .own 3 e0)]⟩, 1)
theorem E5 (x0 : List UInt8) : D5 x0 = ((D11 x0).bind fun y0 => L5_244 0 y0.1.b y0.1.i y0.1.h []) := (Dn_eq _ _).trans (by kernel_rfl)
theorem P5_244 (s5 : Int) (e0_0 : List UInt8) (e0_1 : Int) (e0_2 : Int) (e1 : List Int) : L5_244 s5 e0_0 e0_1 e0_2 e1 = (bif (decide (s5 < 12)) then ((D12 (⟨e0_0, e0_1, e0_2⟩ : L01Cur) 10000).bind fun y0 => gd ((decide (((e1.length + 1) * 8) ≤ 140737488355328)) && (decide ((e1.length + 1) ≤ 9223372036854775807))) <| L5_244 (IntKind.wrap .i64 (s5 + 1)) y0.2.1.b y0.2.1.i y0.2.1.h (e1 ++ [y0.1])) else L5_31 e1) := (Ln_eq _ _ _).trans (by kernel_rfl)
theorem P5_31 (e0 : List Int) : L5_31 e0 = (some (e0, ())) := (Ln_eq _ _ _).trans (by kernel_rfl)
theorem E6 (x0 : Int) : D6 x0 = ((D13 x0).bind fun y0 => some (y0.1, ())) := (Dn_eq _ _).trans (by kernel_rfl)
noncomputable def L7_1012 (s24 : List Fw.Answer) (s25 : Int) (s26 : Int) (e0_0 : List Fw.Cell) (e0_1 : List Fw.Tx) (e0_2 : List Fw.Slot) (e0_3 : ByteArray) (e0_4 : Int) (e0_5 : Int) (e0_6 : Int) (e0_7 : Int) (e0_8 : List Fw.Entry) (e0_9 : List ByteArray) (e0_10 : Bool) : Option ((List ByteArray) × Int × Unit) := Ln 7 1012 (⟨45, [(6, .ok (.pt 0 0)), (8, .ok (.v (.slice none 0 0))), (24, .ok (.ro 52 s24)), (25, .ok (.v (.int .i64 s25))), (26, .ok (.v (.int .i64 s26)))], [(0, .var [.ro 143 e0_0, .ro 119 e0_1, .ro 152 e0_2, .v (.string e0_3), .v (.int .i64 e0_4), .v (.int .i64 e0_5), .v (.int .i64 e0_6), .v (.int .i64 e0_7), .ro 122 e0_8, .ro 9 e0_9, .v (.bool e0_10)] 47)]⟩, 1)
noncomputable def L7_127 (e0_0 : List Fw.Cell) (e0_1 : List Fw.Tx) (e0_2 : List Fw.Slot) (e0_3 : ByteArray) (e0_4 : Int) (e0_5 : Int) (e0_6 : Int) (e0_7 : Int) (e0_8 : List Fw.Entry) (e0_9 : List ByteArray) (e0_10 : Bool) : Option ((List ByteArray) × Int × Unit) := Ln 7 127 (⟨45, [(6, .ok (.pt 0 0)), (8, .ok (.v (.slice none 0 0)))], [(0, .var [.ro 143 e0_0, .ro 119 e0_1, .ro 152 e0_2, .v (.string e0_3), .v (.int .i64 e0_4), .v (.int .i64 e0_5), .v (.int .i64 e0_6), .v (.int .i64 e0_7), .ro 122 e0_8, .ro 9 e0_9, .v (.bool e0_10)] 47)]⟩, 1)
theorem E7 (x0 : ByteArray) : D7 x0 = ((D8 x0).bind fun y0 => bif (!(decide (y0.2.1 = 0))) then (some ([], (y0.2.1, ()))) else (D14 y0.1).bind fun y1 => L7_1012 y1.2.1 (y1.2.1.length : Int) 0 y1.1.Store y1.1.Txs y1.1.Disk.Slots y1.1.Disk.Journal.Text y1.1.Disk.Journal.Sure y1.1.Seq y1.1.Next y1.1.Time y1.1.History y1.1.Seen y1.1.Room) := (Dn_eq _ _).trans (by kernel_rfl)
theorem P7_1012 (s24 : List Fw.Answer) (s25 : Int) (s26 : Int) (e0_0 : List Fw.Cell) (e0_1 : List Fw.Tx) (e0_2 : List Fw.Slot) (e0_3 : ByteArray) (e0_4 : Int) (e0_5 : Int) (e0_6 : Int) (e0_7 : Int) (e0_8 : List Fw.Entry) (e0_9 : List ByteArray) (e0_10 : Bool) : L7_1012 s24 s25 s26 e0_0 e0_1 e0_2 e0_3 e0_4 e0_5 e0_6 e0_7 e0_8 e0_9 e0_10 = (bif (decide (s26 < s25)) then (gd ((decide (0 ≤ s26)) && (decide (s26 < (s24.length : Int)))) <| none) else L7_127 e0_0 e0_1 e0_2 e0_3 e0_4 e0_5 e0_6 e0_7 e0_8 e0_9 e0_10) := (Ln_eq _ _ _).trans (by kernel_rfl)
theorem P7_127 (e0_0 : List Fw.Cell) (e0_1 : List Fw.Tx) (e0_2 : List Fw.Slot) (e0_3 : ByteArray) (e0_4 : Int) (e0_5 : Int) (e0_6 : Int) (e0_7 : Int) (e0_8 : List Fw.Entry) (e0_9 : List ByteArray) (e0_10 : Bool) : L7_127 e0_0 e0_1 e0_2 e0_3 e0_4 e0_5 e0_6 e0_7 e0_8 e0_9 e0_10 = ((D17 (⟨e0_0, e0_1, (⟨e0_2, (⟨e0_3, e0_4⟩ : Fw.Journal)⟩ : Fw.Disk), e0_5, e0_6, e0_7, e0_8, e0_9, e0_10⟩ : Fw.Kernel)).bind fun y0 => gd ((decide ((y0.1.length * 16) ≤ 140737488355328)) && (decide (y0.1.length ≤ 9223372036854775807))) <| some (y0.1, (0, ()))) := (Ln_eq _ _ _).trans (by kernel_rfl)
noncomputable def L8_244 (s15 : Int) (s16 : Int) (e0 : List ByteArray) : Option ((List Fw.Deed) × Int × Unit) := Ln 8 244 (⟨58, [(4, .ok (.v (.slice none 0 0))), (14, .ok (.sl 0)), (15, .ok (.v (.int .i64 s15))), (16, .ok (.v (.int .i64 s16)))], [(0, .own 9 e0)]⟩, 1)
noncomputable def L8_31  : Option ((List Fw.Deed) × Int × Unit) := Ln 8 31 (⟨58, [(4, .ok (.v (.slice none 0 0)))], []⟩, 0)
noncomputable def L8_1959 (s15 : Int) (s16 : Int) (e0 : List ByteArray) : Option ((List Fw.Deed) × Int × Unit) := Ln 8 1959 (⟨58, [(4, .ok (.v (.slice none 0 0))), (14, .ok (.sl 0)), (15, .ok (.v (.int .i64 s15))), (16, .ok (.v (.int .i64 s16)))], [(0, .own 9 e0)]⟩, 1)
theorem E8 (x0 : ByteArray) : D8 x0 = (bif (decide ((x0.size : Int) > 12000)) then (some ([], ((-1), ()))) else (D18 x0 (tx [10])).bind fun y0 => L8_244 (y0.1.length : Int) 0 y0.1) := (Dn_eq _ _).trans (by kernel_rfl)
theorem P8_244 (s15 : Int) (s16 : Int) (e0 : List ByteArray) : L8_244 s15 s16 e0 = (bif (decide (s16 < s15)) then (gd ((decide (0 ≤ s16)) && (decide (s16 < (e0.length : Int)))) <| (D19 (nth e0 s16.toNat)).bind fun y0 => gd (((decide (0 ≤ 0)) && (decide (0 < (y0.1.length : Int)))) || (!(y0.2.1 && (!(decide ((y0.1.length : Int) = 0)))))) <| bif (y0.2.1 && (!(decide ((y0.1.length : Int) = 0)))) then ((D20 (nth y0.1 (0 : Int).toNat) (tx [35])).bind fun y1 => gd (y0.2.1 && ((decide ((y0.1.length : Int) = 0)) || y1.1)) <| L8_1959 s15 s16 e0) else gd ((decide ((y0.1.length : Int) = 0)) || (!y0.2.1)) <| gd (y0.2.1 && true) <| L8_1959 s15 s16 e0) else L8_31) := (Ln_eq _ _ _).trans (by kernel_rfl)
theorem P8_31  : L8_31 = (some ([], (0, ()))) := (Ln_eq _ _ _).trans (by kernel_rfl)
theorem P8_1959 (s15 : Int) (s16 : Int) (e0 : List ByteArray) : L8_1959 s15 s16 e0 = (L8_244 s15 (IntKind.wrap .i64 (s16 + 1)) e0) := (Ln_eq _ _ _).trans (by kernel_rfl)
noncomputable def L9_116 (s0 : List ByteArray) (s1 : List ByteArray) (s5 : Int) : Option (Bool × Unit) := Ln 9 116 (⟨26, [(0, .ok (.ro 9 s0)), (1, .ok (.ro 9 s1)), (5, .ok (.v (.int .i64 s5)))], []⟩, 0)
noncomputable def L9_15  : Option (Bool × Unit) := Ln 9 15 (⟨26, [], []⟩, 0)
theorem E9 (x0 : List ByteArray) (x1 : List ByteArray) : D9 x0 x1 = (bif (!(decide ((x0.length : Int) = (x1.length : Int)))) then (some (false, ())) else L9_116 x0 x1 0) := (Dn_eq _ _).trans (by kernel_rfl)
theorem P9_116 (s0 : List ByteArray) (s1 : List ByteArray) (s5 : Int) : L9_116 s0 s1 s5 = (bif (decide (s5 < (s0.length : Int))) then (gd ((decide (0 ≤ s5)) && (decide (s5 < (s0.length : Int)))) <| gd ((decide (0 ≤ s5)) && (decide (s5 < (s1.length : Int)))) <| bif (!(decide ((nth s0 s5.toNat) = (nth s1 s5.toNat)))) then (some (false, ())) else L9_116 s0 s1 (IntKind.wrap .i64 (s5 + 1))) else L9_15) := (Ln_eq _ _ _).trans (by kernel_rfl)
theorem P9_15  : L9_15 = (some (true, ())) := (Ln_eq _ _ _).trans (by kernel_rfl)
theorem E10 (x0 : ByteArray) : D10 x0 = ((D8 x0).bind fun y0 => bif (!(decide (y0.2.1 = 0))) then (some (false, ())) else (D14 y0.1).bind fun y1 => (D22 y1.1).bind fun y2 => some (y2.1, ())) := (Dn_eq _ _).trans (by kernel_rfl)
noncomputable def L11_116 (s0 : List UInt8) (s3 : Int) (s4 : Int) : Option (L01Cur × Unit) := Ln 11 116 (⟨32, [(0, .ok (.ro 5 s0)), (3, .ok (.v (.int .i64 s3))), (4, .ok (.v (.int .i64 s4)))], []⟩, 0)
noncomputable def L11_15 (s0 : List UInt8) (s3 : Int) : Option (L01Cur × Unit) := Ln 11 15 (⟨32, [(0, .ok (.ro 5 s0)), (3, .ok (.v (.int .i64 s3)))], []⟩, 0)
theorem E11 (x0 : List UInt8) : D11 x0 = (L11_116 x0 (IntKind.wrap .i64 (94701 + (x0.length : Int))) 0) := (Dn_eq _ _).trans (by kernel_rfl)
theorem P11_116 (s0 : List UInt8) (s3 : Int) (s4 : Int) : L11_116 s0 s3 s4 = (bif ((decide (s4 < (s0.length : Int))) && (decide (s4 < 4000))) then (gd ((decide (0 ≤ s4)) && (decide (s4 < (s0.length : Int)))) <| L11_116 s0 (andI .i64 (IntKind.wrap .i64 ((IntKind.wrap .i64 ((IntKind.wrap .i64 (s3 * 131)) + (IntKind.wrap .i64 ((nth s0 s4.toNat).toNat : Int)))) + 7)) 1073741823) (IntKind.wrap .i64 (s4 + 1))) else L11_15 s0 s3) := (Ln_eq _ _ _).trans (by kernel_rfl)
theorem P11_15 (s0 : List UInt8) (s3 : Int) : L11_15 s0 s3 = (some ((⟨s0, 0, s3⟩ : L01Cur), ())) := (Ln_eq _ _ _).trans (by kernel_rfl)
theorem E12 (x0 : L01Cur) (x1 : Int) : D12 x0 x1 = (bif (decide (x1 ≤ 0)) then (some (0, (x0, ()))) else bif (decide (x1 ≤ 256)) then ((D23 x0).bind fun y4 => gd (!(decide (x1 = 0))) <| some ((Int.tmod y4.1 x1), (y4.2.1, ()))) else (D23 x0).bind fun y0 => (D23 y0.2.1).bind fun y1 => (D23 y1.2.1).bind fun y2 => (D23 y2.2.1).bind fun y3 => gd (!(decide (x1 = 0))) <| some ((Int.tmod (IntKind.wrap .i64 ((IntKind.wrap .i64 ((IntKind.wrap .i64 ((IntKind.wrap .i64 (y0.1 * 16777216)) + (IntKind.wrap .i64 (y1.1 * 65536)))) + (IntKind.wrap .i64 (y2.1 * 256)))) + y3.1)) x1), (y3.2.1, ()))) := (Dn_eq _ _).trans (by kernel_rfl)
theorem E13 (x0 : Int) : D13 x0 = (itoaX (x0, ())) := (Dn_eq _ _).trans (by kernel_rfl)
noncomputable def L14_244 (s15 : List Fw.Deed) (s16 : Int) (s17 : Int) (e0_3 : ByteArray) (e0_4 : Int) (e0_5 : Int) (e0_6 : Int) (e0_7 : Int) (e0_10 : Bool) (e1_0 : List Fw.Cell) (e1_1 : List Fw.Tx) (e1_2 : List Fw.Slot) (e1_3 : ByteArray) (e1_4 : Int) (e1_5 : Int) (e1_6 : Int) (e1_7 : Int) (e1_8 : List Fw.Entry) (e1_9 : List ByteArray) (e1_10 : Bool) : Option (Fw.Kernel × (List Fw.Answer) × Unit) := Ln 14 244 (⟨35, [(2, .ok (.pt 0 0)), (4, .ok (.pt 1 0)), (5, .ok (.v (.slice none 0 0))), (15, .ok (.ro 62 s15)), (16, .ok (.v (.int .i64 s16))), (17, .ok (.v (.int .i64 s17)))], [(0, .var [.v (.slice none 0 0), .v (.slice none 0 0), .v (.slice none 0 0), .v (.string e0_3), .v (.int .i64 e0_4), .v (.int .i64 e0_5), .v (.int .i64 e0_6), .v (.int .i64 e0_7), .v (.slice none 0 0), .v (.slice none 0 0), .v (.bool e0_10)] 47), (1, .var [.ro 143 e1_0, .ro 119 e1_1, .ro 152 e1_2, .v (.string e1_3), .v (.int .i64 e1_4), .v (.int .i64 e1_5), .v (.int .i64 e1_6), .v (.int .i64 e1_7), .ro 122 e1_8, .ro 9 e1_9, .v (.bool e1_10)] 47)]⟩, 2)
noncomputable def L14_31 (e0_3 : ByteArray) (e0_4 : Int) (e0_5 : Int) (e0_6 : Int) (e0_7 : Int) (e0_10 : Bool) (e1_0 : List Fw.Cell) (e1_1 : List Fw.Tx) (e1_2 : List Fw.Slot) (e1_3 : ByteArray) (e1_4 : Int) (e1_5 : Int) (e1_6 : Int) (e1_7 : Int) (e1_8 : List Fw.Entry) (e1_9 : List ByteArray) (e1_10 : Bool) : Option (Fw.Kernel × (List Fw.Answer) × Unit) := Ln 14 31 (⟨35, [(2, .ok (.pt 0 0)), (4, .ok (.pt 1 0)), (5, .ok (.v (.slice none 0 0)))], [(0, .var [.v (.slice none 0 0), .v (.slice none 0 0), .v (.slice none 0 0), .v (.string e0_3), .v (.int .i64 e0_4), .v (.int .i64 e0_5), .v (.int .i64 e0_6), .v (.int .i64 e0_7), .v (.slice none 0 0), .v (.slice none 0 0), .v (.bool e0_10)] 47), (1, .var [.ro 143 e1_0, .ro 119 e1_1, .ro 152 e1_2, .v (.string e1_3), .v (.int .i64 e1_4), .v (.int .i64 e1_5), .v (.int .i64 e1_6), .v (.int .i64 e1_7), .ro 122 e1_8, .ro 9 e1_9, .v (.bool e1_10)] 47)]⟩, 2)
theorem E14 (x0 : List Fw.Deed) : D14 x0 = ((D25).bind fun y0 => gd ((decide (0 ≤ 0)) && ((decide (0 ≤ (min (x0.length : Int) 60))) && (decide ((min (x0.length : Int) 60) ≤ (x0.length : Int))))) <| L14_244 (cutL x0 (0 : Int).toNat (min (x0.length : Int) 60).toNat) ((cutL x0 (0 : Int).toNat (min (x0.length : Int) 60).toNat).length : Int) 0 (tx []) 0 0 0 0 false y0.1.Store y0.1.Txs y0.1.Disk.Slots y0.1.Disk.Journal.Text y0.1.Disk.Journal.Sure y0.1.Seq y0.1.Next y0.1.Time y0.1.History y0.1.Seen y0.1.Room) := (Dn_eq _ _).trans (by kernel_rfl)
theorem P14_244 (s15 : List Fw.Deed) (s16 : Int) (s17 : Int) (e0_3 : ByteArray) (e0_4 : Int) (e0_5 : Int) (e0_6 : Int) (e0_7 : Int) (e0_10 : Bool) (e1_0 : List Fw.Cell) (e1_1 : List Fw.Tx) (e1_2 : List Fw.Slot) (e1_3 : ByteArray) (e1_4 : Int) (e1_5 : Int) (e1_6 : Int) (e1_7 : Int) (e1_8 : List Fw.Entry) (e1_9 : List ByteArray) (e1_10 : Bool) : L14_244 s15 s16 s17 e0_3 e0_4 e0_5 e0_6 e0_7 e0_10 e1_0 e1_1 e1_2 e1_3 e1_4 e1_5 e1_6 e1_7 e1_8 e1_9 e1_10 = (bif (decide (s17 < s16)) then (gd ((decide (0 ≤ s17)) && (decide (s17 < (s15.length : Int)))) <| none) else L14_31 e0_3 e0_4 e0_5 e0_6 e0_7 e0_10 e1_0 e1_1 e1_2 e1_3 e1_4 e1_5 e1_6 e1_7 e1_8 e1_9 e1_10) := (Ln_eq _ _ _).trans (by kernel_rfl)
theorem P14_31 (e0_3 : ByteArray) (e0_4 : Int) (e0_5 : Int) (e0_6 : Int) (e0_7 : Int) (e0_10 : Bool) (e1_0 : List Fw.Cell) (e1_1 : List Fw.Tx) (e1_2 : List Fw.Slot) (e1_3 : ByteArray) (e1_4 : Int) (e1_5 : Int) (e1_6 : Int) (e1_7 : Int) (e1_8 : List Fw.Entry) (e1_9 : List ByteArray) (e1_10 : Bool) : L14_31 e0_3 e0_4 e0_5 e0_6 e0_7 e0_10 e1_0 e1_1 e1_2 e1_3 e1_4 e1_5 e1_6 e1_7 e1_8 e1_9 e1_10 = (some ((⟨e1_0, e1_1, (⟨e1_2, (⟨e1_3, e1_4⟩ : Fw.Journal)⟩ : Fw.Disk), e1_5, e1_6, e1_7, e1_8, e1_9, e1_10⟩ : Fw.Kernel), ([], ()))) := (Ln_eq _ _ _).trans (by kernel_rfl)
noncomputable def L17_116 (s22 : List ByteArray) (s23 : Int) (s24 : Int) (e0 : List ByteArray) : Option ((List ByteArray) × Unit) := Ln 17 116 (⟨40, [(3, .ok (.sl 0)), (22, .ok (.ro 9 s22)), (23, .ok (.v (.int .i64 s23))), (24, .ok (.v (.int .i64 s24)))], [(0, .own 9 e0)]⟩, 1)
noncomputable def L17_15 (e0 : List ByteArray) : Option ((List ByteArray) × Unit) := Ln 17 15 (⟨40, [(3, .ok (.sl 0))], [(0, .own 9 e0)]⟩, 1)
theorem E17 (x0 : Fw.Kernel) : D17 x0 = ((D6 x0.Seq).bind fun y0 => gd (decide (((tx [115, 101, 113, 32]).size + y0.1.size) ≤ 9223372036854775807)) <| (D30 x0.Txs).bind fun y1 => (D31 x0.History).bind fun y2 => (D29 [[((tx [115, 101, 113, 32]) ++ y0.1)], y1.1, y2.1]).bind fun y3 => L17_116 x0.Seen (x0.Seen.length : Int) 0 y3.1) := (Dn_eq _ _).trans (by kernel_rfl)
theorem P17_116 (s22 : List ByteArray) (s23 : Int) (s24 : Int) (e0 : List ByteArray) : L17_116 s22 s23 s24 e0 = (bif (decide (s24 < s23)) then (gd ((decide (0 ≤ s24)) && (decide (s24 < (s22.length : Int)))) <| none) else L17_15 e0) := (Ln_eq _ _ _).trans (by kernel_rfl)
theorem P17_15 (e0 : List ByteArray) : L17_15 e0 = (some (e0, ())) := (Ln_eq _ _ _).trans (by kernel_rfl)
theorem E18 (x0 : ByteArray) (x1 : ByteArray) : D18 x0 x1 = (splitX (x0, (x1, ()))) := (Dn_eq _ _).trans (by kernel_rfl)
noncomputable def L19_116 (s0 : ByteArray) (s10 : Int) (s11 : Int) : Option ((List ByteArray) × Bool × Unit) := Ln 19 116 (⟨31, [(0, .ok (.v (.string s0))), (10, .ok (.v (.int .i64 s10))), (11, .ok (.v (.int .i64 s11)))], []⟩, 0)
noncomputable def L19_15 (s0 : ByteArray) : Option ((List ByteArray) × Bool × Unit) := Ln 19 15 (⟨31, [(0, .ok (.v (.string s0)))], []⟩, 0)
theorem E19 (x0 : ByteArray) : D19 x0 = (bif (decide ((x0.size : Int) > 600)) then (some ([], (false, ()))) else L19_116 x0 (x0.size : Int) 0) := (Dn_eq _ _).trans (by kernel_rfl)
theorem P19_116 (s0 : ByteArray) (s10 : Int) (s11 : Int) : L19_116 s0 s10 s11 = (bif (decide (s11 < s10)) then (gd ((decide (0 ≤ s11)) && (decide (s11 < (s0.size : Int)))) <| gd (((decide (0 ≤ s11)) && (decide (s11 < (s0.size : Int)))) || (!(!(decide (((byteAt s0 s11.toNat).toNat : Int) < 32))))) <| bif ((decide (((byteAt s0 s11.toNat).toNat : Int) < 32)) || (decide (((byteAt s0 s11.toNat).toNat : Int) > 126))) then (some ([], (false, ()))) else L19_116 s0 s10 (IntKind.wrap .i64 (s11 + 1))) else L19_15 s0) := (Ln_eq _ _ _).trans (by kernel_rfl)
theorem P19_15 (s0 : ByteArray) : L19_15 s0 = ((D33 s0).bind fun y0 => bif (decide ((y0.1.length : Int) > 12)) then (some ([], (false, ()))) else some (y0.1, (true, ()))) := (Ln_eq _ _ _).trans (by kernel_rfl)
theorem E20 (x0 : ByteArray) (x1 : ByteArray) : D20 x0 x1 = ((D34 x0 x1).bind fun y0 => some (y0.1, ())) := (Dn_eq _ _).trans (by kernel_rfl)
theorem E22 (x0 : Fw.Kernel) : D22 x0 = ((D42).bind fun y0 => (D43 x0.History).bind fun y1 => (D41 y0.1 y1.1).bind fun y2 => (D45 x0.History).bind fun y3 => (D44 y2.2.1 y3.1).bind fun y4 => bif y4.1 then ((D46 y2.1 x0.Store).bind fun y5 => some (y5.1, ())) else some (false, ())) := (Dn_eq _ _).trans (by kernel_rfl)
noncomputable def L23_31 (s3 : Int) (e0_0 : List UInt8) (e0_1 : Int) (e0_2 : Int) : Option (Int × L01Cur × Unit) := Ln 23 31 (⟨58, [(0, .ok (.pt 0 0)), (3, .ok (.v (.int .i64 s3)))], [(0, .var [.ro 5 e0_0, .v (.int .i64 e0_1), .v (.int .i64 e0_2)] 67)]⟩, 1)
theorem E23 (x0 : L01Cur) : D23 x0 = (bif (decide (x0.i < (x0.b.length : Int))) then (gd ((decide (0 ≤ x0.i)) && (decide (x0.i < (x0.b.length : Int)))) <| L23_31 (andI .i64 (IntKind.wrap .i64 ((andI .i64 (xorI .i64 (shrI .i64 (IntKind.wrap .i64 ((IntKind.wrap .i64 (x0.h * 6364136223846793005)) + 1442695040888963407)) 33) (shrI .i64 (IntKind.wrap .i64 ((IntKind.wrap .i64 (x0.h * 6364136223846793005)) + 1442695040888963407)) 45)) 255) + (IntKind.wrap .i64 ((nth x0.b x0.i.toNat).toNat : Int)))) 255) x0.b (IntKind.wrap .i64 (x0.i + 1)) (IntKind.wrap .i64 ((IntKind.wrap .i64 (x0.h * 6364136223846793005)) + 1442695040888963407))) else L23_31 (andI .i64 (xorI .i64 (shrI .i64 (IntKind.wrap .i64 ((IntKind.wrap .i64 (x0.h * 6364136223846793005)) + 1442695040888963407)) 33) (shrI .i64 (IntKind.wrap .i64 ((IntKind.wrap .i64 (x0.h * 6364136223846793005)) + 1442695040888963407)) 45)) 255) x0.b x0.i (IntKind.wrap .i64 ((IntKind.wrap .i64 (x0.h * 6364136223846793005)) + 1442695040888963407))) := (Dn_eq _ _).trans (by kernel_rfl)
theorem P23_31 (s3 : Int) (e0_0 : List UInt8) (e0_1 : Int) (e0_2 : Int) : L23_31 s3 e0_0 e0_1 e0_2 = (some (s3, ((⟨e0_0, e0_1, e0_2⟩ : L01Cur), ()))) := (Ln_eq _ _ _).trans (by kernel_rfl)
theorem E25  : D25 = ((D42).bind fun y0 => (D42).bind fun y1 => (D48 y1.1).bind fun y2 => some ((⟨y0.1, [], y2.1, 0, 1, 0, [], [], true⟩ : Fw.Kernel), ())) := (Dn_eq _ _).trans (by kernel_rfl)
theorem E27 (x0 : Int) (x1 : Int) (x2 : Int) : D27 x0 x1 x2 = (some (((decide (x0 ≥ x1)) && (decide (x0 ≤ x2))), ())) := (Dn_eq _ _).trans (by kernel_rfl)
noncomputable def L29_116 (s0 : List (List ByteArray)) (s3 : Int) (s9 : List (List ByteArray)) (s10 : Int) (s11 : Int) : Option ((List ByteArray) × Unit) := Ln 29 116 (⟨36, [(0, .ok (.ro 27 s0)), (3, .ok (.v (.int .i64 s3))), (9, .ok (.ro 27 s9)), (10, .ok (.v (.int .i64 s10))), (11, .ok (.v (.int .i64 s11)))], []⟩, 0)
noncomputable def L29_15 (s0 : List (List ByteArray)) (s3 : Int) : Option ((List ByteArray) × Unit) := Ln 29 15 (⟨36, [(0, .ok (.ro 27 s0)), (3, .ok (.v (.int .i64 s3)))], []⟩, 0)
noncomputable def L29_935 (s0 : List (List ByteArray)) (s3 : Int) (s9 : List (List ByteArray)) (s10 : Int) (s11 : Int) : Option ((List ByteArray) × Unit) := Ln 29 935 (⟨36, [(0, .ok (.ro 27 s0)), (3, .ok (.v (.int .i64 s3))), (9, .ok (.ro 27 s9)), (10, .ok (.v (.int .i64 s10))), (11, .ok (.v (.int .i64 s11)))], []⟩, 0)
noncomputable def L29_500 (s25 : List (List ByteArray)) (s26 : Int) (s27 : Int) (e0 : List ByteArray) : Option ((List ByteArray) × Unit) := Ln 29 500 (⟨36, [(6, .ok (.sl 0)), (25, .ok (.ro 27 s25)), (26, .ok (.v (.int .i64 s26))), (27, .ok (.v (.int .i64 s27)))], [(0, .own 9 e0)]⟩, 1)
noncomputable def L29_63 (e0 : List ByteArray) : Option ((List ByteArray) × Unit) := Ln 29 63 (⟨36, [(6, .ok (.sl 0))], [(0, .own 9 e0)]⟩, 1)
theorem E29 (x0 : List (List ByteArray)) : D29 x0 = (L29_116 x0 0 x0 (x0.length : Int) 0) := (Dn_eq _ _).trans (by kernel_rfl)
theorem P29_116 (s0 : List (List ByteArray)) (s3 : Int) (s9 : List (List ByteArray)) (s10 : Int) (s11 : Int) : L29_116 s0 s3 s9 s10 s11 = (bif (decide (s11 < s10)) then (gd ((decide (0 ≤ s11)) && (decide (s11 < (s9.length : Int)))) <| ng (decide ((IntKind.wrap .i64 (s3 + ((nth s9 s11.toNat).length : Int))) < 0)) <| L29_935 s0 (IntKind.wrap .i64 (s3 + ((nth s9 s11.toNat).length : Int))) s9 s10 s11) else L29_15 s0 s3) := (Ln_eq _ _ _).trans (by kernel_rfl)
theorem P29_15 (s0 : List (List ByteArray)) (s3 : Int) : L29_15 s0 s3 = ((D65 [] s3).bind fun y0 => L29_500 s0 (s0.length : Int) 0 y0.1) := (Ln_eq _ _ _).trans (by kernel_rfl)
theorem P29_935 (s0 : List (List ByteArray)) (s3 : Int) (s9 : List (List ByteArray)) (s10 : Int) (s11 : Int) : L29_935 s0 s3 s9 s10 s11 = (L29_116 s0 s3 s9 s10 (IntKind.wrap .i64 (s11 + 1))) := (Ln_eq _ _ _).trans (by kernel_rfl)
theorem P29_500 (s25 : List (List ByteArray)) (s26 : Int) (s27 : Int) (e0 : List ByteArray) : L29_500 s25 s26 s27 e0 = (bif (decide (s27 < s26)) then (gd ((decide (0 ≤ s27)) && (decide (s27 < (s25.length : Int)))) <| gd ((decide (((e0.length + (nth s25 s27.toNat).length) * 16) ≤ 140737488355328)) && (decide ((e0.length + (nth s25 s27.toNat).length) ≤ 9223372036854775807))) <| L29_500 s25 s26 (IntKind.wrap .i64 (s27 + 1)) (e0 ++ (nth s25 s27.toNat))) else L29_63 e0) := (Ln_eq _ _ _).trans (by kernel_rfl)
theorem P29_63 (e0 : List ByteArray) : L29_63 e0 = (some (e0, ())) := (Ln_eq _ _ _).trans (by kernel_rfl)
noncomputable def L30_116 (s6 : List Fw.Tx) (s7 : Int) (s8 : Int) : Option ((List ByteArray) × Unit) := Ln 30 116 (⟨19, [(3, .ok (.v (.slice none 0 0))), (6, .ok (.ro 119 s6)), (7, .ok (.v (.int .i64 s7))), (8, .ok (.v (.int .i64 s8)))], []⟩, 0)
noncomputable def L30_15  : Option ((List ByteArray) × Unit) := Ln 30 15 (⟨19, [(3, .ok (.v (.slice none 0 0)))], []⟩, 0)
theorem E30 (x0 : List Fw.Tx) : D30 x0 = (L30_116 x0 (x0.length : Int) 0) := (Dn_eq _ _).trans (by kernel_rfl)
theorem P30_116 (s6 : List Fw.Tx) (s7 : Int) (s8 : Int) : L30_116 s6 s7 s8 = (bif (decide (s8 < s7)) then (gd ((decide (0 ≤ s8)) && (decide (s8 < (s6.length : Int)))) <| none) else L30_15) := (Ln_eq _ _ _).trans (by kernel_rfl)
theorem P30_15  : L30_15 = (some ([], ())) := (Ln_eq _ _ _).trans (by kernel_rfl)
noncomputable def L31_116 (s6 : List Fw.Entry) (s7 : Int) (s8 : Int) : Option ((List ByteArray) × Unit) := Ln 31 116 (⟨19, [(3, .ok (.v (.slice none 0 0))), (6, .ok (.ro 122 s6)), (7, .ok (.v (.int .i64 s7))), (8, .ok (.v (.int .i64 s8)))], []⟩, 0)
noncomputable def L31_15  : Option ((List ByteArray) × Unit) := Ln 31 15 (⟨19, [(3, .ok (.v (.slice none 0 0)))], []⟩, 0)
theorem E31 (x0 : List Fw.Entry) : D31 x0 = (L31_116 x0 (x0.length : Int) 0) := (Dn_eq _ _).trans (by kernel_rfl)
theorem P31_116 (s6 : List Fw.Entry) (s7 : Int) (s8 : Int) : L31_116 s6 s7 s8 = (bif (decide (s8 < s7)) then (gd ((decide (0 ≤ s8)) && (decide (s8 < (s6.length : Int)))) <| none) else L31_15) := (Ln_eq _ _ _).trans (by kernel_rfl)
theorem P31_15  : L31_15 = (some ([], ())) := (Ln_eq _ _ _).trans (by kernel_rfl)
theorem E33 (x0 : ByteArray) : D33 x0 = (fieldsX (x0, ())) := (Dn_eq _ _).trans (by kernel_rfl)
theorem E34 (x0 : ByteArray) (x1 : ByteArray) : D34 x0 x1 = (gd (((decide (0 ≤ 0)) && ((decide (0 ≤ (x1.size : Int))) && (decide ((x1.size : Int) ≤ (x0.size : Int))))) || (!(decide ((x0.size : Int) ≥ (x1.size : Int))))) <| some (((decide ((x0.size : Int) ≥ (x1.size : Int))) && (decide ((cutS x0 (0 : Int).toNat (x1.size : Int).toNat) = x1))), ())) := (Dn_eq _ _).trans (by kernel_rfl)
theorem E37 (x0 : ByteArray) : D37 x0 = (readX (x0, ())) := (Dn_eq _ _).trans (by kernel_rfl)
theorem E41 (x0 : List Fw.Cell) (x1 : List Fw.Step) : D41 x0 x1 = ((D78 x0).bind fun y0 => (D79 y0.1 x1).bind fun y1 => some (y1.2.1.Store, (y1.1, ()))) := (Dn_eq _ _).trans (by kernel_rfl)
theorem E42  : D42 = ((D80 (⟨[], (⟨[], []⟩ : Fw.Touch)⟩ : Fw.Mach) 0).bind fun y0 => some (y0.2.2.1.Store, ())) := (Dn_eq _ _).trans (by kernel_rfl)
end Go.Proofs.YtifffdepmdnciaaGreatDoor.Ri

namespace Go.Proofs.YtifffdepmdnciaaGreatDoor.Ri
open Go.Proofs.YtifffdepmdnciaaGreatDoor.Fw
open Go.RowKit
set_option linter.unusedVariables false
set_option maxRecDepth 100000
noncomputable def L43_116 (s6 : List Fw.Entry) (s7 : Int) (s8 : Int) : Option ((List Fw.Step) × Unit) := Ln 43 116 (⟨18, [(3, .ok (.v (.slice none 0 0))), (6, .ok (.ro 122 s6)), (7, .ok (.v (.int .i64 s7))), (8, .ok (.v (.int .i64 s8)))], []⟩, 0)
noncomputable def L43_15  : Option ((List Fw.Step) × Unit) := Ln 43 15 (⟨18, [(3, .ok (.v (.slice none 0 0)))], []⟩, 0)
noncomputable def L43_116b (s6 : List Fw.Entry) (s7 : Int) (s8 : Int) (e0 : List Fw.Step) : Option ((List Fw.Step) × Unit) := Ln 43 116 (⟨18, [(3, .ok (.sl 0)), (6, .ok (.ro 122 s6)), (7, .ok (.v (.int .i64 s7))), (8, .ok (.v (.int .i64 s8)))], [(0, .own 189 e0)]⟩, 1)
theorem E43 (x0 : List Fw.Entry) : D43 x0 = (L43_116 x0 (x0.length : Int) 0) := (Dn_eq _ _).trans (by kernel_rfl)
theorem P43_116 (s6 : List Fw.Entry) (s7 : Int) (s8 : Int) : L43_116 s6 s7 s8 = (bif (decide (s8 < s7)) then (gd ((decide (0 ≤ s8)) && (decide (s8 < (s6.length : Int)))) <| gd ((decide (((nth s6 s8.toNat).Steps.length * 80) ≤ 140737488355328)) && (decide ((nth s6 s8.toNat).Steps.length ≤ 9223372036854775807))) <| L43_116b s6 s7 (IntKind.wrap .i64 (s8 + 1)) (nth s6 s8.toNat).Steps) else L43_15) := (Ln_eq _ _ _).trans (by kernel_rfl)
theorem P43_15  : L43_15 = (some ([], ())) := (Ln_eq _ _ _).trans (by kernel_rfl)
theorem E44 (x0 : List Fw.Answer) (x1 : List Fw.Answer) : D44 x0 x1 = ((D81 x0 x1).bind fun y0 => some (y0.1, ())) := (Dn_eq _ _).trans (by kernel_rfl)
noncomputable def L45_116 (s6 : List Fw.Entry) (s7 : Int) (s8 : Int) : Option ((List Fw.Answer) × Unit) := Ln 45 116 (⟨18, [(3, .ok (.v (.slice none 0 0))), (6, .ok (.ro 122 s6)), (7, .ok (.v (.int .i64 s7))), (8, .ok (.v (.int .i64 s8)))], []⟩, 0)
noncomputable def L45_15  : Option ((List Fw.Answer) × Unit) := Ln 45 15 (⟨18, [(3, .ok (.v (.slice none 0 0)))], []⟩, 0)
noncomputable def L45_116b (s6 : List Fw.Entry) (s7 : Int) (s8 : Int) (e0 : List Fw.Answer) : Option ((List Fw.Answer) × Unit) := Ln 45 116 (⟨18, [(3, .ok (.sl 0)), (6, .ok (.ro 122 s6)), (7, .ok (.v (.int .i64 s7))), (8, .ok (.v (.int .i64 s8)))], [(0, .own 52 e0)]⟩, 1)
theorem E45 (x0 : List Fw.Entry) : D45 x0 = (L45_116 x0 (x0.length : Int) 0) := (Dn_eq _ _).trans (by kernel_rfl)
theorem P45_116 (s6 : List Fw.Entry) (s7 : Int) (s8 : Int) : L45_116 s6 s7 s8 = (bif (decide (s8 < s7)) then (gd ((decide (0 ≤ s8)) && (decide (s8 < (s6.length : Int)))) <| gd ((decide (((nth s6 s8.toNat).Answers.length * 32) ≤ 140737488355328)) && (decide ((nth s6 s8.toNat).Answers.length ≤ 9223372036854775807))) <| L45_116b s6 s7 (IntKind.wrap .i64 (s8 + 1)) (nth s6 s8.toNat).Answers) else L45_15) := (Ln_eq _ _ _).trans (by kernel_rfl)
theorem P45_15  : L45_15 = (some ([], ())) := (Ln_eq _ _ _).trans (by kernel_rfl)
theorem E46 (x0 : List Fw.Cell) (x1 : List Fw.Cell) : D46 x0 x1 = ((D82 x0 x1).bind fun y0 => some (y0.1, ())) := (Dn_eq _ _).trans (by kernel_rfl)
theorem E48 (x0 : List Fw.Cell) : D48 x0 = ((D87 x0).bind fun y0 => some ((⟨[(⟨0, y0.1, true⟩ : Fw.Slot), (⟨0, [], false⟩ : Fw.Slot)], (⟨(tx []), 0⟩ : Fw.Journal)⟩ : Fw.Disk), ())) := (Dn_eq _ _).trans (by kernel_rfl)
theorem E65 (x0 : List ByteArray) (x1 : Int) : D65 x0 x1 = (growX (x0, (x1, ()))) := (Dn_eq _ _).trans (by kernel_rfl)
theorem E78 (x0 : List Fw.Cell) : D78 x0 = ((D87 x0).bind fun y0 => some ((⟨y0.1, (⟨[], []⟩ : Fw.Touch)⟩ : Fw.Mach), ())) := (Dn_eq _ _).trans (by kernel_rfl)
noncomputable def L79_116 (s8 : List Fw.Step) (s9 : Int) (s10 : Int) (e1 : List Fw.Cell) (e2 : List ByteArray) (e3 : List ByteArray) : Option ((List Fw.Answer) × Fw.Mach × Unit) := Ln 79 116 (⟨25, [(0, .ok (.pt 0 0)), (5, .ok (.v (.slice none 0 0))), (8, .ok (.ro 189 s8)), (9, .ok (.v (.int .i64 s9))), (10, .ok (.v (.int .i64 s10)))], [(0, .var [.sl 1, .sl 2, .sl 3] 137), (1, .own 143 e1), (2, .own 9 e2), (3, .own 9 e3)]⟩, 4)
noncomputable def L79_15 (e1 : List Fw.Cell) (e2 : List ByteArray) (e3 : List ByteArray) : Option ((List Fw.Answer) × Fw.Mach × Unit) := Ln 79 15 (⟨25, [(0, .ok (.pt 0 0)), (5, .ok (.v (.slice none 0 0)))], [(0, .var [.sl 1, .sl 2, .sl 3] 137), (1, .own 143 e1), (2, .own 9 e2), (3, .own 9 e3)]⟩, 4)
theorem E79 (x0 : Fw.Mach) (x1 : List Fw.Step) : D79 x0 x1 = (L79_116 x1 (x1.length : Int) 0 x0.Store x0.Touch.Reads x0.Touch.Writes) := (Dn_eq _ _).trans (by kernel_rfl)
theorem P79_116 (s8 : List Fw.Step) (s9 : Int) (s10 : Int) (e1 : List Fw.Cell) (e2 : List ByteArray) (e3 : List ByteArray) : L79_116 s8 s9 s10 e1 e2 e3 = (bif (decide (s10 < s9)) then (gd ((decide (0 ≤ s10)) && (decide (s10 < (s8.length : Int)))) <| none) else L79_15 e1 e2 e3) := (Ln_eq _ _ _).trans (by kernel_rfl)
theorem P79_15 (e1 : List Fw.Cell) (e2 : List ByteArray) (e3 : List ByteArray) : L79_15 e1 e2 e3 = (some ([], ((⟨e1, (⟨e2, e3⟩ : Fw.Touch)⟩ : Fw.Mach), ()))) := (Ln_eq _ _ _).trans (by kernel_rfl)
theorem E80 (x0 : Fw.Mach) (x1 : Int) : D80 x0 x1 = ((D144 x0 (tx [99, 47, 112, 114, 111, 99])).bind fun y0 => bif (decide (y0.1 ≥ 12)) then (some (0, (3, (y0.2.1, ())))) else (D145 y0.2.1 (tx [99, 47, 112, 114, 111, 99])).bind fun y1 => (D96 y1.1 (tx [47, 115])).bind fun y2 => (D146 y1.2.1 y2.1 1).bind fun y3 => (D96 y1.1 (tx [47, 112])).bind fun y4 => (D146 y3.1 y4.1 x1).bind fun y5 => some (y1.1, (0, (y5.1, ())))) := (Dn_eq _ _).trans (by kernel_rfl)
noncomputable def L81_116 (s0 : List Fw.Answer) (s1 : List Fw.Answer) (s12 : Int) (s13 : Int) : Option (Bool × Unit) := Ln 81 116 (⟨26, [(0, .ok (.ro 52 s0)), (1, .ok (.ro 52 s1)), (12, .ok (.v (.int .i64 s12))), (13, .ok (.v (.int .i64 s13)))], []⟩, 0)
noncomputable def L81_15  : Option (Bool × Unit) := Ln 81 15 (⟨26, [], []⟩, 0)
theorem E81 (x0 : List Fw.Answer) (x1 : List Fw.Answer) : D81 x0 x1 = (bif (!(decide ((x0.length : Int) = (x1.length : Int)))) then (some (false, ())) else L81_116 x0 x1 (x0.length : Int) 0) := (Dn_eq _ _).trans (by kernel_rfl)
theorem P81_116 (s0 : List Fw.Answer) (s1 : List Fw.Answer) (s12 : Int) (s13 : Int) : L81_116 s0 s1 s12 s13 = (bif (decide (s13 < s12)) then (gd ((decide (0 ≤ s13)) && (decide (s13 < (s0.length : Int)))) <| gd ((decide (0 ≤ s13)) && (decide (s13 < (s1.length : Int)))) <| bif (!((decide ((nth s0 s13.toNat).Code = (nth s1 s13.toNat).Code)) && ((decide ((nth s0 s13.toNat).N = (nth s1 s13.toNat).N)) && ((decide ((nth s0 s13.toNat).Text = (nth s1 s13.toNat).Text)) && true)))) then (some (false, ())) else L81_116 s0 s1 s12 (IntKind.wrap .i64 (s13 + 1))) else L81_15) := (Ln_eq _ _ _).trans (by kernel_rfl)
theorem P81_15  : L81_15 = (some (true, ())) := (Ln_eq _ _ _).trans (by kernel_rfl)
noncomputable def L82_116 (s0 : List Fw.Cell) (s1 : List Fw.Cell) (s12 : Int) (s13 : Int) : Option (Bool × Unit) := Ln 82 116 (⟨26, [(0, .ok (.ro 143 s0)), (1, .ok (.ro 143 s1)), (12, .ok (.v (.int .i64 s12))), (13, .ok (.v (.int .i64 s13)))], []⟩, 0)
noncomputable def L82_15  : Option (Bool × Unit) := Ln 82 15 (⟨26, [], []⟩, 0)
theorem E82 (x0 : List Fw.Cell) (x1 : List Fw.Cell) : D82 x0 x1 = (bif (!(decide ((x0.length : Int) = (x1.length : Int)))) then (some (false, ())) else L82_116 x0 x1 (x0.length : Int) 0) := (Dn_eq _ _).trans (by kernel_rfl)
theorem P82_116 (s0 : List Fw.Cell) (s1 : List Fw.Cell) (s12 : Int) (s13 : Int) : L82_116 s0 s1 s12 s13 = (bif (decide (s13 < s12)) then (gd ((decide (0 ≤ s13)) && (decide (s13 < (s0.length : Int)))) <| gd ((decide (0 ≤ s13)) && (decide (s13 < (s1.length : Int)))) <| bif (!((decide ((nth s0 s13.toNat).Key = (nth s1 s13.toNat).Key)) && ((decide ((nth s0 s13.toNat).Val = (nth s1 s13.toNat).Val)) && true))) then (some (false, ())) else L82_116 s0 s1 s12 (IntKind.wrap .i64 (s13 + 1))) else L82_15) := (Ln_eq _ _ _).trans (by kernel_rfl)
theorem P82_15  : L82_15 = (some (true, ())) := (Ln_eq _ _ _).trans (by kernel_rfl)
theorem E87 (x0 : List Fw.Cell) : D87 x0 = (cloneX (x0, ())) := (Dn_eq _ _).trans (by kernel_rfl)
theorem E95 (x0 : List Fw.Cell) (x1 : ByteArray) : D95 x0 x1 = ((D163 x0 x1).bind fun y0 => bif (decide (y0.1 ≥ 0)) then (gd ((decide (0 ≤ y0.1)) && (decide (y0.1 < (x0.length : Int)))) <| some ((nth x0 y0.1.toNat).Val, ())) else some ((tx []), ())) := (Dn_eq _ _).trans (by kernel_rfl)
theorem E96 (x0 : Int) (x1 : ByteArray) : D96 x0 x1 = ((D164 (tx [114, 47]) x0 x1).bind fun y0 => some (y0.1, ())) := (Dn_eq _ _).trans (by kernel_rfl)
theorem E144 (x0 : Fw.Mach) (x1 : ByteArray) : D144 x0 x1 = ((D235 x0 x1).bind fun y0 => (D234 y0.1).bind fun y1 => some (y1.1, (y0.2.1, ()))) := (Dn_eq _ _).trans (by kernel_rfl)
theorem E145 (x0 : Fw.Mach) (x1 : ByteArray) : D145 x0 x1 = ((D144 x0 x1).bind fun y0 => bif (decide ((IntKind.wrap .i64 (y0.1 + 1)) > 999)) then (some (0, (y0.2.1, ()))) else (D146 y0.2.1 x1 (IntKind.wrap .i64 (y0.1 + 1))).bind fun y1 => some ((IntKind.wrap .i64 (y0.1 + 1)), (y1.1, ()))) := (Dn_eq _ _).trans (by kernel_rfl)
noncomputable def L146_7 (s1 : ByteArray) (s6 : ByteArray) (e1 : List Fw.Cell) (e2 : List ByteArray) (e3 : List ByteArray) : Option (Fw.Mach × Unit) := Ln 146 7 (⟨15, [(0, .ok (.pt 0 0)), (1, .ok (.v (.string s1))), (6, .ok (.v (.string s6)))], [(0, .var [.sl 1, .sl 2, .sl 3] 137), (1, .own 143 e1), (2, .own 9 e2), (3, .own 9 e3)]⟩, 4)
theorem E146 (x0 : Fw.Mach) (x1 : ByteArray) (x2 : Int) : D146 x0 x1 x2 = ((D27 x2 1 999).bind fun y0 => bif y0.1 then ((D6 x2).bind fun y1 => L146_7 x1 y1.1 x0.Store x0.Touch.Reads x0.Touch.Writes) else L146_7 x1 (tx []) x0.Store x0.Touch.Reads x0.Touch.Writes) := (Dn_eq _ _).trans (by kernel_rfl)
theorem P146_7 (s1 : ByteArray) (s6 : ByteArray) (e1 : List Fw.Cell) (e2 : List ByteArray) (e3 : List ByteArray) : L146_7 s1 s6 e1 e2 e3 = ((D236 (⟨e1, (⟨e2, e3⟩ : Fw.Touch)⟩ : Fw.Mach) s1 s6).bind fun y0 => some (y0.1, ())) := (Ln_eq _ _ _).trans (by kernel_rfl)
theorem E163 (x0 : List Fw.Cell) (x1 : ByteArray) : D163 x0 x1 = ((D244 x0 x1).bind fun y0 => some (y0.1, ())) := (Dn_eq _ _).trans (by kernel_rfl)
theorem E164 (x0 : ByteArray) (x1 : Int) (x2 : ByteArray) : D164 x0 x1 x2 = ((D6 x1).bind fun y0 => gd (decide ((x0.size + y0.1.size) ≤ 9223372036854775807)) <| gd (decide (((x0 ++ y0.1).size + x2.size) ≤ 9223372036854775807)) <| some (((x0 ++ y0.1) ++ x2), ())) := (Dn_eq _ _).trans (by kernel_rfl)
noncomputable def L190_127 (s2 : ByteArray) (s4 : ByteArray) (s7 : Int) (e0 : List Fw.Cell) : Option ((List Fw.Cell) × Unit) := Ln 190 127 (⟨37, [(0, .ok (.sl 0)), (2, .ok (.v (.string s2))), (4, .ok (.pe 9 s4 0)), (7, .ok (.v (.int .i64 s7)))], [(0, .own 143 e0)]⟩, 1)
theorem E190 (x0 : List Fw.Cell) (x1 : ByteArray) (x2 : ByteArray) : D190 x0 x1 x2 = ((D242 x1).bind fun y0 => bif ((!y0.1) || (decide ((x2.size : Int) > 60))) then (some (x0, ())) else (D260 x0 x1).bind fun y1 => bif (decide (x2 = (tx []))) then (some (y1.1, ())) else (D1244 y1.1 x1).bind fun y2 => bif (decide (y2.1 < 0)) then (L190_127 x2 x1 (y1.1.length : Int) y1.1) else L190_127 x2 x1 y2.1 y1.1) := (Dn_eq _ _).trans (by kernel_rfl)
theorem P190_127 (s2 : ByteArray) (s4 : ByteArray) (s7 : Int) (e0 : List Fw.Cell) : L190_127 s2 s4 s7 e0 = ((D263 e0 s7 [(⟨s4, s2⟩ : Fw.Cell)]).bind fun y0 => some (y0.1, ())) := (Ln_eq _ _ _).trans (by kernel_rfl)
theorem E234 (x0 : ByteArray) : D234 x0 = ((D37 x0).bind fun y0 => bif (decide (y0.1 > 999)) then (some (0, ())) else some (y0.1, ())) := (Dn_eq _ _).trans (by kernel_rfl)
theorem E235 (x0 : Fw.Mach) (x1 : ByteArray) : D235 x0 x1 = ((D249 x0.Touch.Reads x1).bind fun y0 => (D95 x0.Store x1).bind fun y1 => some (y1.1, ((⟨x0.Store, (⟨y0.1, x0.Touch.Writes⟩ : Fw.Touch)⟩ : Fw.Mach), ()))) := (Dn_eq _ _).trans (by kernel_rfl)
theorem E236 (x0 : Fw.Mach) (x1 : ByteArray) (x2 : ByteArray) : D236 x0 x1 x2 = ((D249 x0.Touch.Writes x1).bind fun y0 => (D190 x0.Store x1 x2).bind fun y1 => some ((⟨y1.1, (⟨x0.Touch.Reads, y0.1⟩ : Fw.Touch)⟩ : Fw.Mach), ())) := (Dn_eq _ _).trans (by kernel_rfl)
noncomputable def L242_52 (s0 : ByteArray) (s5 : Int) (s6 : Int) : Option (Bool × Unit) := Ln 242 52 (⟨29, [(0, .ok (.v (.string s0))), (5, .ok (.v (.int .i64 s5))), (6, .ok (.v (.int .i64 s6)))], []⟩, 0)
noncomputable def L242_7 (s0 : ByteArray) : Option (Bool × Unit) := Ln 242 7 (⟨29, [(0, .ok (.v (.string s0)))], []⟩, 0)
theorem E242 (x0 : ByteArray) : D242 x0 = (L242_52 x0 (x0.size : Int) 0) := (Dn_eq _ _).trans (by kernel_rfl)
theorem P242_52 (s0 : ByteArray) (s5 : Int) (s6 : Int) : L242_52 s0 s5 s6 = (bif (decide (s6 < s5)) then (gd ((decide (0 ≤ s6)) && (decide (s6 < (s0.size : Int)))) <| gd (((decide (0 ≤ s6)) && (decide (s6 < (s0.size : Int)))) || (!(!(decide (((byteAt s0 s6.toNat).toNat : Int) < 33))))) <| gd (((decide (0 ≤ s6)) && (decide (s6 < (s0.size : Int)))) || (!(!((decide (((byteAt s0 s6.toNat).toNat : Int) < 33)) || (decide (((byteAt s0 s6.toNat).toNat : Int) > 126)))))) <| bif (((decide (((byteAt s0 s6.toNat).toNat : Int) < 33)) || (decide (((byteAt s0 s6.toNat).toNat : Int) > 126))) || (decide (((byteAt s0 s6.toNat).toNat : Int) = 42))) then (some (false, ())) else L242_52 s0 s5 (IntKind.wrap .i64 (s6 + 1))) else L242_7 s0) := (Ln_eq _ _ _).trans (by kernel_rfl)
theorem P242_7 (s0 : ByteArray) : L242_7 s0 = ((D27 (s0.size : Int) 1 40).bind fun y0 => some (y0.1, ())) := (Ln_eq _ _ _).trans (by kernel_rfl)
noncomputable def L244_52 (s0 : List Fw.Cell) (s1_0 : ByteArray) (s7 : Int) (s8 : Int) : Option (Int × Unit) := Ln 244 52 (⟨19, [(0, .ok (.ro 143 s0)), (1, .ok (.fn 245 [.pe 9 s1_0 0])), (7, .ok (.v (.int .i64 s7))), (8, .ok (.v (.int .i64 s8)))], []⟩, 0)
noncomputable def L244_7  : Option (Int × Unit) := Ln 244 7 (⟨19, [], []⟩, 0)
theorem E244 (x0 : List Fw.Cell) (x1 : ByteArray) : D244 x0 x1 = (L244_52 x0 x1 (x0.length : Int) 0) := (Dn_eq _ _).trans (by kernel_rfl)
theorem P244_52 (s0 : List Fw.Cell) (s1_0 : ByteArray) (s7 : Int) (s8 : Int) : L244_52 s0 s1_0 s7 s8 = (bif (decide (s8 < s7)) then (gd ((decide (0 ≤ s8)) && (decide (s8 < (s0.length : Int)))) <| (D245 (nth s0 s8.toNat) s1_0).bind fun y0 => bif y0.1 then (some (s8, ())) else L244_52 s0 s1_0 s7 (IntKind.wrap .i64 (s8 + 1))) else L244_7) := (Ln_eq _ _ _).trans (by kernel_rfl)
theorem P244_7  : L244_7 = (some ((-1), ())) := (Ln_eq _ _ _).trans (by kernel_rfl)
theorem E245 (x0 : Fw.Cell) (x1 : ByteArray) : D245 x0 x1 = (some ((decide (x0.Key = x1)), ())) := (Dn_eq _ _).trans (by kernel_rfl)
theorem E249 (x0 : List ByteArray) (x1 : ByteArray) : D249 x0 x1 = ((D287 x0 x1).bind fun y0 => bif (decide (y0.1 < 0)) then (gd ((decide (((x0.length + 1) * 16) ≤ 140737488355328)) && (decide ((x0.length + 1) ≤ 9223372036854775807))) <| some ((x0 ++ [x1]), ())) else gd ((decide (0 ≤ y0.1)) && (decide (y0.1 < (x0.length : Int)))) <| bif (decide ((nth x0 y0.1.toNat) = x1)) then (some (x0, ())) else (D289 x0 y0.1 [x1]).bind fun y1 => some (y1.1, ())) := (Dn_eq _ _).trans (by kernel_rfl)
noncomputable def L260_244 (s1_0 : ByteArray) (s5 : Int) (s6 : Int) (e0 : List Fw.Cell) : Option ((List Fw.Cell) × Unit) := Ln 260 244 (⟨42, [(0, .ok (.sl 0)), (1, .ok (.fn 261 [.pe 9 s1_0 0])), (5, .ok (.v (.int .i64 s5))), (6, .ok (.v (.int .i64 s6)))], [(0, .own 143 e0)]⟩, 1)
noncomputable def L260_31 (s5 : Int) (e0 : List Fw.Cell) : Option ((List Fw.Cell) × Unit) := Ln 260 31 (⟨42, [(0, .ok (.sl 0)), (5, .ok (.v (.int .i64 s5)))], [(0, .own 143 e0)]⟩, 1)
noncomputable def L260_979 (s1_0 : ByteArray) (s5 : Int) (s6 : Int) (e0 : List Fw.Cell) : Option ((List Fw.Cell) × Unit) := Ln 260 979 (⟨42, [(0, .ok (.sl 0)), (1, .ok (.fn 261 [.pe 9 s1_0 0])), (5, .ok (.v (.int .i64 s5))), (6, .ok (.v (.int .i64 s6)))], [(0, .own 143 e0)]⟩, 1)
theorem E260 (x0 : List Fw.Cell) (x1 : ByteArray) : D260 x0 x1 = ((D2244 x0 x1).bind fun y0 => bif (decide (y0.1 = (-1))) then (some (x0, ())) else L260_244 x1 y0.1 (IntKind.wrap .i64 (y0.1 + 1)) x0) := (Dn_eq _ _).trans (by kernel_rfl)
theorem P260_244 (s1_0 : ByteArray) (s5 : Int) (s6 : Int) (e0 : List Fw.Cell) : L260_244 s1_0 s5 s6 e0 = (bif (decide (s6 < (e0.length : Int))) then (gd ((decide (0 ≤ s6)) && (decide (s6 < (e0.length : Int)))) <| (D261 (nth e0 s6.toNat) s1_0).bind fun y0 => bif (!y0.1) then (gd ((decide (0 ≤ s5)) && (decide (s5 < (e0.length : Int)))) <| L260_979 s1_0 (IntKind.wrap .i64 (s5 + 1)) s6 (e0.set s5.toNat (nth e0 s6.toNat))) else L260_979 s1_0 s5 s6 e0) else L260_31 s5 e0) := (Ln_eq _ _ _).trans (by kernel_rfl)
theorem P260_31 (s5 : Int) (e0 : List Fw.Cell) : L260_31 s5 e0 = (gd ((decide (0 ≤ s5)) && (decide (s5 ≤ (e0.length : Int)))) <| gd ((decide (0 ≤ s5)) && (decide (s5 ≤ (((cutL e0 0 s5.toNat) ++ (List.replicate (e0.length - s5.toNat) (⟨(tx []), (tx [])⟩ : Fw.Cell))).length : Int)))) <| some ((((cutL e0 0 s5.toNat) ++ (List.replicate (e0.length - s5.toNat) (⟨(tx []), (tx [])⟩ : Fw.Cell))).take s5.toNat), ())) := (Ln_eq _ _ _).trans (by kernel_rfl)
theorem P260_979 (s1_0 : ByteArray) (s5 : Int) (s6 : Int) (e0 : List Fw.Cell) : L260_979 s1_0 s5 s6 e0 = (L260_244 s1_0 s5 (IntKind.wrap .i64 (s6 + 1)) e0) := (Ln_eq _ _ _).trans (by kernel_rfl)
theorem E261 (x0 : Fw.Cell) (x1 : ByteArray) : D261 x0 x1 = (some ((decide (x0.Key = x1)), ())) := (Dn_eq _ _).trans (by kernel_rfl)
theorem E262 (x0 : Fw.Cell) (x1 : ByteArray) : D262 x0 x1 = (some ((!((ltB x0.Key x1) || (decide (x0.Key = x1)))), ())) := (Dn_eq _ _).trans (by kernel_rfl)
theorem E263 (x0 : List Fw.Cell) (x1 : Int) (x2 : List Fw.Cell) : D263 x0 x1 x2 = (insX (x0, (x1, (x2, ())))) := (Dn_eq _ _).trans (by kernel_rfl)
noncomputable def L287_52 (s0 : List ByteArray) (s1_0 : ByteArray) (s7 : Int) (s8 : Int) : Option (Int × Unit) := Ln 287 52 (⟨19, [(0, .ok (.ro 9 s0)), (1, .ok (.fn 288 [.pe 9 s1_0 0])), (7, .ok (.v (.int .i64 s7))), (8, .ok (.v (.int .i64 s8)))], []⟩, 0)
noncomputable def L287_7  : Option (Int × Unit) := Ln 287 7 (⟨19, [], []⟩, 0)
theorem E287 (x0 : List ByteArray) (x1 : ByteArray) : D287 x0 x1 = (L287_52 x0 x1 (x0.length : Int) 0) := (Dn_eq _ _).trans (by kernel_rfl)
theorem P287_52 (s0 : List ByteArray) (s1_0 : ByteArray) (s7 : Int) (s8 : Int) : L287_52 s0 s1_0 s7 s8 = (bif (decide (s8 < s7)) then (gd ((decide (0 ≤ s8)) && (decide (s8 < (s0.length : Int)))) <| (D288 (nth s0 s8.toNat) s1_0).bind fun y0 => bif y0.1 then (some (s8, ())) else L287_52 s0 s1_0 s7 (IntKind.wrap .i64 (s8 + 1))) else L287_7) := (Ln_eq _ _ _).trans (by kernel_rfl)
theorem P287_7  : L287_7 = (some ((-1), ())) := (Ln_eq _ _ _).trans (by kernel_rfl)
theorem E288 (x0 : ByteArray) (x1 : ByteArray) : D288 x0 x1 = (some ((!(ltB x0 x1)), ())) := (Dn_eq _ _).trans (by kernel_rfl)
theorem E289 (x0 : List ByteArray) (x1 : Int) (x2 : List ByteArray) : D289 x0 x1 x2 = (insX (x0, (x1, (x2, ())))) := (Dn_eq _ _).trans (by kernel_rfl)
noncomputable def L1244_52 (s0 : List Fw.Cell) (s1_0 : ByteArray) (s7 : Int) (s8 : Int) : Option (Int × Unit) := Ln 1244 52 (⟨19, [(0, .ok (.ro 143 s0)), (1, .ok (.fn 262 [.pe 9 s1_0 0])), (7, .ok (.v (.int .i64 s7))), (8, .ok (.v (.int .i64 s8)))], []⟩, 0)
noncomputable def L1244_7  : Option (Int × Unit) := Ln 1244 7 (⟨19, [], []⟩, 0)
theorem E1244 (x0 : List Fw.Cell) (x1 : ByteArray) : D1244 x0 x1 = (L1244_52 x0 x1 (x0.length : Int) 0) := (Dn_eq _ _).trans (by kernel_rfl)
theorem P1244_52 (s0 : List Fw.Cell) (s1_0 : ByteArray) (s7 : Int) (s8 : Int) : L1244_52 s0 s1_0 s7 s8 = (bif (decide (s8 < s7)) then (gd ((decide (0 ≤ s8)) && (decide (s8 < (s0.length : Int)))) <| (D262 (nth s0 s8.toNat) s1_0).bind fun y0 => bif y0.1 then (some (s8, ())) else L1244_52 s0 s1_0 s7 (IntKind.wrap .i64 (s8 + 1))) else L1244_7) := (Ln_eq _ _ _).trans (by kernel_rfl)
theorem P1244_7  : L1244_7 = (some ((-1), ())) := (Ln_eq _ _ _).trans (by kernel_rfl)
noncomputable def L2244_52 (s0 : List Fw.Cell) (s1_0 : ByteArray) (s7 : Int) (s8 : Int) : Option (Int × Unit) := Ln 2244 52 (⟨19, [(0, .ok (.ro 143 s0)), (1, .ok (.fn 261 [.pe 9 s1_0 0])), (7, .ok (.v (.int .i64 s7))), (8, .ok (.v (.int .i64 s8)))], []⟩, 0)
noncomputable def L2244_7  : Option (Int × Unit) := Ln 2244 7 (⟨19, [], []⟩, 0)
theorem E2244 (x0 : List Fw.Cell) (x1 : ByteArray) : D2244 x0 x1 = (L2244_52 x0 x1 (x0.length : Int) 0) := (Dn_eq _ _).trans (by kernel_rfl)
theorem P2244_52 (s0 : List Fw.Cell) (s1_0 : ByteArray) (s7 : Int) (s8 : Int) : L2244_52 s0 s1_0 s7 s8 = (bif (decide (s8 < s7)) then (gd ((decide (0 ≤ s8)) && (decide (s8 < (s0.length : Int)))) <| (D261 (nth s0 s8.toNat) s1_0).bind fun y0 => bif y0.1 then (some (s8, ())) else L2244_52 s0 s1_0 s7 (IntKind.wrap .i64 (s8 + 1))) else L2244_7) := (Ln_eq _ _ _).trans (by kernel_rfl)
theorem P2244_7  : L2244_7 = (some ((-1), ())) := (Ln_eq _ _ _).trans (by kernel_rfl)
end Go.Proofs.YtifffdepmdnciaaGreatDoor.Ri

namespace Go.Proofs.YtifffdepmdnciaaGreatDoor.Ri
open Go.Proofs.YtifffdepmdnciaaGreatDoor.Fw
set_option linter.unusedVariables false
def Wp {α : Type} (o : Option α) (P : α → Prop) : Prop := ∃ y, o = some y ∧ P y
section
variable {α β : Type} {P Q : α → Prop}
theorem Wp.mono {o : Option α} (h : Wp o Q) (hq : ∀ y, Q y → P y) : Wp o P := let ⟨y, h1, h2⟩ := h; ⟨y, h1, hq y h2⟩
theorem w_some {y : α} (h : P y) : Wp (some y) P := ⟨y, rfl, h⟩
theorem w_gd {c : Bool} {k : Option α} (hc : c = true) (h : Wp k P) : Wp (gd c k) P := by subst hc; exact h
theorem w_if {c : Bool} {a b : Option α} (h1 : c = true → Wp a P) (h2 : c = false → Wp b P) : Wp (bif c then a else b) P := by
  cases c
  · exact h2 rfl
  · exact h1 rfl
theorem w_bd {o : Option β} {k : β → Option α} {Q : β → Prop} (h : Wp o Q) (hk : ∀ y, Q y → Wp (k y) P) : Wp (o.bind k) P := by
  obtain ⟨y, h1, h2⟩ := h
  rw [h1]
  exact hk y h2
theorem w_eq {a b : Option α} (e : a = b) (h : Wp b P) : Wp a P := e ▸ h
theorem w_be {o : Option β} {k : β → Option α} {y : β} (h : o = some y) (hk : Wp (k y) P) : Wp (o.bind k) P := by rw [h]; exact hk
end
class BP (c : Bool) (P : outParam Prop) : Prop where
  iff : c = true ↔ P
instance bp_dec (p : Prop) [Decidable p] : BP (decide p) p := ⟨decide_eq_true_iff⟩
instance bp_and {a b : Bool} {P Q : Prop} [h : BP a P] [h' : BP b Q] : BP (a && b) (P ∧ Q) := ⟨by rw [Bool.and_eq_true, h.iff, h'.iff]⟩
instance bp_or {a b : Bool} {P Q : Prop} [h : BP a P] [h' : BP b Q] : BP (a || b) (P ∨ Q) := ⟨by rw [Bool.or_eq_true, h.iff, h'.iff]⟩
instance bp_not {a : Bool} {P : Prop} [h : BP a P] : BP (!a) (¬P) := ⟨by rw [← h.iff]; cases a <;> decide⟩
instance (priority := low) bp_any (c : Bool) : BP c (c = true) := ⟨Iff.rfl⟩
section
variable {α β : Type} {P : α → Prop} {a b : Option α} {c : Bool} {C : Prop}
theorem w_ip [h : BP c C] (h1 : C → Wp a P) (h2 : ¬C → Wp b P) : Wp (bif c then a else b) P := w_if (fun e => h1 (h.iff.1 e)) fun e => h2 fun x => by rw [h.iff.2 x] at e; cases e
theorem w_gp [h : BP c C] (h1 : C) (h2 : Wp a P) : Wp (gd c a) P := w_gd (h.iff.2 h1) h2
end
theorem i64_id {n : Int} (h : -9223372036854775808 ≤ n) (h' : n ≤ 9223372036854775807) : IntKind.i64.wrap n = n := wrap_id (by simp [loK, hiK, IntKind.bits, IntKind.signed]; omega)
end Go.Proofs.YtifffdepmdnciaaGreatDoor.Ri

namespace Go.Proofs.YtifffdepmdnciaaGreatDoor.Ri
open Go.Proofs.YtifffdepmdnciaaGreatDoor.Fw
set_option linter.unusedVariables false
set_option linter.unusedSimpArgs false
set_option maxRecDepth 100000
theorem itoaS_size (n : Int) : (itoaS n).size ≤ 21 := by
  unfold itoaS
  exact Lib.itoa_length_le _ (by rw [IntKind.wrap_i64]; omega) (by rw [IntKind.wrap_i64]; omega)
theorem clr_len {α : Type} (e : List α) (k n : Nat) (z : α) (h : k ≤ e.length) : ((cutL e 0 k ++ List.replicate n z).take k).length ≤ e.length := by
  rw [List.length_take]; omega
theorem cut0_len {α : Type} (e : List α) (k : Nat) (z : α) (h : k ≤ e.length) : (cutL e 0 k ++ List.replicate (e.length - k) z).length = e.length := by
  simp [cutL]; omega
theorem o_2qqyue {p : Prop} (h : p := by (try dsimp only); exact ⟨rfl, itoaS_size _⟩) : p := h
theorem o_l7xsmt {p : Prop} (h : p := by first | assumption | omega | (simp only [List.length_append, List.length_cons, List.length_nil, List.length_set, ByteArray.size_append] at *; omega) | grind [i64_id, cut0_len]) : p := h
theorem o_fbm8pv {p : Prop} (h : p := by (try dsimp only); first | assumption | omega | trivial | exact ⟨by assumption, by assumption⟩ | (simp only [List.length_append, List.length_cons, List.length_nil, List.length_set, ByteArray.size_append] at *; omega) | grind [i64_id, clr_len]) : p := h
theorem o_ubz9vl {p : Prop} (h : p := by (try dsimp only); first | exact fun h => by omega | exact fun h => rfl) : p := h
theorem o_r14479 {p : Prop} (h : p := by first | omega | (rw [cut0_len _ _ _ (by omega)]; omega) | (refine ⟨by omega, ?_⟩; rw [cut0_len _ _ _ (by omega)]; omega)) : p := h
theorem o_avadwg {p : Prop} (h : p := by (try dsimp only); first | (apply clr_len; omega) | omega) : p := h
theorem c27 {x0 : Int} {x1 : Int} {x2 : Int} : Wp (D27 x0 x1 x2) fun y => True := by
  rw [E27]
  exact w_some trivial
theorem c245 {x0 : Fw.Cell} {x1 : ByteArray} : Wp (D245 x0 x1) fun y => True := by
  rw [E245]
  exact w_some trivial
theorem c261 {x0 : Fw.Cell} {x1 : ByteArray} : Wp (D261 x0 x1) fun y => True := by
  rw [E261]
  exact w_some trivial
theorem c262 {x0 : Fw.Cell} {x1 : ByteArray} : Wp (D262 x0 x1) fun y => True := by
  rw [E262]
  exact w_some trivial
theorem c288 {x0 : ByteArray} {x1 : ByteArray} : Wp (D288 x0 x1) fun y => True := by
  rw [E288]
  exact w_some trivial
theorem c13 {x0 : Int} : D13 x0 = some (itoaS x0, ()) := by
  rw [E13]; rfl
theorem c6 {x0 : Int} : Wp (D6 x0) fun y => y.1 = itoaS x0 ∧ y.1.size ≤ 21 := by
  rw [E6]
  exact w_be (c13) (by (try dsimp only); exact (w_some o_2qqyue))
theorem w244_52 (N : Nat) : ∀ {s0 : List Fw.Cell} {s1_0 : ByteArray} {s7 : Int} {s8 : Int} (p0 : s7 = s0.length) (p1 : 0 ≤ s8) (p2 : s0.length ≤ 1000000) (hN : s7 - s8 ≤ (N : Int)), Wp (L244_52 s0 s1_0 s7 s8) fun y => -1 ≤ y.1 ∧ y.1 < s0.length := by
  induction N using Nat.strongRecOn with
  | ind N ih =>
    intro s0 s1_0 s7 s8 p0 p1 p2 hN
    rw [P244_52]
    exact w_ip (fun h1 => w_gp o_l7xsmt (w_bd (c245) (fun y0 _ => w_ip (fun h3 => w_some o_fbm8pv) (fun h3 => ih (N - 1) o_l7xsmt o_l7xsmt o_l7xsmt o_l7xsmt o_l7xsmt)))) (fun h1 => w_eq (P244_7) (w_some o_fbm8pv))
theorem c244 {x0 : List Fw.Cell} {x1 : ByteArray} (p0 : x0.length ≤ 1000000) : Wp (D244 x0 x1) fun y => -1 ≤ y.1 ∧ y.1 < x0.length := by
  rw [E244]
  exact (w244_52 _ o_l7xsmt o_l7xsmt o_l7xsmt (Int.self_le_toNat _)).mono (fun y ⟨q1_0, q1_1⟩ => o_fbm8pv)
theorem w1244_52 (N : Nat) : ∀ {s0 : List Fw.Cell} {s1_0 : ByteArray} {s7 : Int} {s8 : Int} (p0 : s7 = s0.length) (p1 : 0 ≤ s8) (p2 : s0.length ≤ 1000000) (hN : s7 - s8 ≤ (N : Int)), Wp (L1244_52 s0 s1_0 s7 s8) fun y => -1 ≤ y.1 ∧ y.1 < s0.length := by
  induction N using Nat.strongRecOn with
  | ind N ih =>
    intro s0 s1_0 s7 s8 p0 p1 p2 hN
    rw [P1244_52]
    exact w_ip (fun h1 => w_gp o_l7xsmt (w_bd (c262) (fun y0 _ => w_ip (fun h3 => w_some o_fbm8pv) (fun h3 => ih (N - 1) o_l7xsmt o_l7xsmt o_l7xsmt o_l7xsmt o_l7xsmt)))) (fun h1 => w_eq (P1244_7) (w_some o_fbm8pv))
theorem c1244 {x0 : List Fw.Cell} {x1 : ByteArray} (p0 : x0.length ≤ 1000000) : Wp (D1244 x0 x1) fun y => -1 ≤ y.1 ∧ y.1 < x0.length := by
  rw [E1244]
  exact (w1244_52 _ o_l7xsmt o_l7xsmt o_l7xsmt (Int.self_le_toNat _)).mono (fun y ⟨q1_0, q1_1⟩ => o_fbm8pv)
theorem w2244_52 (N : Nat) : ∀ {s0 : List Fw.Cell} {s1_0 : ByteArray} {s7 : Int} {s8 : Int} (p0 : s7 = s0.length) (p1 : 0 ≤ s8) (p2 : s0.length ≤ 1000000) (hN : s7 - s8 ≤ (N : Int)), Wp (L2244_52 s0 s1_0 s7 s8) fun y => -1 ≤ y.1 ∧ y.1 < s0.length := by
  induction N using Nat.strongRecOn with
  | ind N ih =>
    intro s0 s1_0 s7 s8 p0 p1 p2 hN
    rw [P2244_52]
    exact w_ip (fun h1 => w_gp o_l7xsmt (w_bd (c261) (fun y0 _ => w_ip (fun h3 => w_some o_fbm8pv) (fun h3 => ih (N - 1) o_l7xsmt o_l7xsmt o_l7xsmt o_l7xsmt o_l7xsmt)))) (fun h1 => w_eq (P2244_7) (w_some o_fbm8pv))
theorem c2244 {x0 : List Fw.Cell} {x1 : ByteArray} (p0 : x0.length ≤ 1000000) : Wp (D2244 x0 x1) fun y => -1 ≤ y.1 ∧ y.1 < x0.length := by
  rw [E2244]
  exact (w2244_52 _ o_l7xsmt o_l7xsmt o_l7xsmt (Int.self_le_toNat _)).mono (fun y ⟨q1_0, q1_1⟩ => o_fbm8pv)
theorem w287_52 (N : Nat) : ∀ {s0 : List ByteArray} {s1_0 : ByteArray} {s7 : Int} {s8 : Int} (p0 : s7 = s0.length) (p1 : 0 ≤ s8) (p2 : s0.length ≤ 1000000) (hN : s7 - s8 ≤ (N : Int)), Wp (L287_52 s0 s1_0 s7 s8) fun y => -1 ≤ y.1 ∧ y.1 < s0.length := by
  induction N using Nat.strongRecOn with
  | ind N ih =>
    intro s0 s1_0 s7 s8 p0 p1 p2 hN
    rw [P287_52]
    exact w_ip (fun h1 => w_gp o_l7xsmt (w_bd (c288) (fun y0 _ => w_ip (fun h3 => w_some o_fbm8pv) (fun h3 => ih (N - 1) o_l7xsmt o_l7xsmt o_l7xsmt o_l7xsmt o_l7xsmt)))) (fun h1 => w_eq (P287_7) (w_some o_fbm8pv))
theorem c287 {x0 : List ByteArray} {x1 : ByteArray} (p0 : x0.length ≤ 1000000) : Wp (D287 x0 x1) fun y => -1 ≤ y.1 ∧ y.1 < x0.length := by
  rw [E287]
  exact (w287_52 _ o_l7xsmt o_l7xsmt o_l7xsmt (Int.self_le_toNat _)).mono (fun y ⟨q1_0, q1_1⟩ => o_fbm8pv)
theorem c163 {x0 : List Fw.Cell} {x1 : ByteArray} (p0 : x0.length ≤ 1000000) : Wp (D163 x0 x1) fun y => -1 ≤ y.1 ∧ y.1 < x0.length := by
  rw [E163]
  exact w_bd (c244 o_l7xsmt) (fun y0 ⟨q1_0, q1_1⟩ => w_some o_fbm8pv)
theorem c95 {x0 : List Fw.Cell} {x1 : ByteArray} (p0 : x0.length ≤ 1000000) : Wp (D95 x0 x1) fun y => (x0.length = 0 → y.1 = tx []) := by
  rw [E95]
  exact w_bd (c163 o_l7xsmt) (fun y0 ⟨q1_0, q1_1⟩ => w_ip (fun h2 => w_gp o_l7xsmt (w_some o_ubz9vl)) (fun h2 => w_some o_ubz9vl))
theorem c87 {x0 : List Fw.Cell} (p0 : x0.length ≤ 1000000) : D87 x0 = some (x0, ()) := by
  rw [E87]; show (bif Nat.ble x0.length 1073741824 then some (x0, ()) else none) = _; rw [Nat.ble_eq_true_of_le (by omega)]; rfl
theorem w260_31 {s5 : Int} {e0 : List Fw.Cell} (p0 : 0 ≤ s5) (p1 : s5 ≤ e0.length) (p2 : e0.length ≤ 1000000) : Wp (L260_31 s5 e0) fun y => y.1.length ≤ e0.length := by
  rw [P260_31]
  exact w_gp o_r14479 (w_gp o_r14479 (w_some o_avadwg))
theorem w260_244{n : Nat} (N : Nat) : ∀ {s1_0 : ByteArray} {s5 : Int} {s6 : Int} {e0 : List Fw.Cell} (p0 : e0.length = n) (p1 : 0 ≤ s5) (p2 : s5 < s6) (p3 : s6 ≤ e0.length) (p4 : e0.length ≤ 1000000) (hN : e0.length - s6 ≤ (N : Int)), Wp (L260_244 s1_0 s5 s6 e0) fun y => y.1.length ≤ n := by
  induction N using Nat.strongRecOn with
  | ind N ih =>
    intro s1_0 s5 s6 e0 p0 p1 p2 p3 p4 hN
    rw [P260_244]
    exact w_ip (fun h1 => w_gp o_l7xsmt (w_bd (c261) (fun y0 _ => w_ip (fun h3 => w_gp o_l7xsmt (w_eq (P260_979 _ _ _ _) (ih (N - 1) o_l7xsmt o_l7xsmt o_l7xsmt o_l7xsmt o_l7xsmt o_l7xsmt o_l7xsmt))) (fun h3 => w_eq (P260_979 _ _ _ _) (ih (N - 1) o_l7xsmt o_l7xsmt o_l7xsmt o_l7xsmt o_l7xsmt o_l7xsmt o_l7xsmt))))) (fun h1 => (w260_31 o_r14479 o_r14479 o_r14479).mono (fun y q4 => o_fbm8pv))
theorem c260 {x0 : List Fw.Cell} {x1 : ByteArray} (p0 : x0.length ≤ 1000000) : Wp (D260 x0 x1) fun y => y.1.length ≤ x0.length := by
  rw [E260]
  exact w_bd (c2244 o_l7xsmt) (fun y0 ⟨q1_0, q1_1⟩ => w_ip (fun h2 => w_some o_fbm8pv) (fun h2 => (w260_244 (n := x0.length) _ o_l7xsmt o_l7xsmt o_l7xsmt o_l7xsmt o_l7xsmt (Int.self_le_toNat _)).mono (fun y q3 => o_fbm8pv)))
theorem c263 {x0 : List Fw.Cell} {x1 : Int} {x2 : List Fw.Cell} (p0 : 0 ≤ x1) (p1 : x1 ≤ x0.length) (p2 : x0.length ≤ 1000000) (p3 : x2.length = 1) : D263 x0 x1 x2 = some (x0.take x1.toNat ++ x2 ++ x0.drop x1.toNat, ()) := by
  rw [E263]; show (bif (decide (0 ≤ x1) && decide (x1 ≤ (x0.length : Int))) && (Nat.ble x0.length 1073741824 && Nat.beq x2.length 1) then some (x0.take x1.toNat ++ x2 ++ x0.drop x1.toNat, ()) else none) = _; rw [decide_eq_true p0, decide_eq_true p1, Nat.ble_eq_true_of_le (by omega), p3]; rfl
theorem c289 {x0 : List ByteArray} {x1 : Int} {x2 : List ByteArray} (p0 : 0 ≤ x1) (p1 : x1 ≤ x0.length) (p2 : x0.length ≤ 1000000) (p3 : x2.length = 1) : D289 x0 x1 x2 = some (x0.take x1.toNat ++ x2 ++ x0.drop x1.toNat, ()) := by
  rw [E289]; show (bif (decide (0 ≤ x1) && decide (x1 ≤ (x0.length : Int))) && (Nat.ble x0.length 1073741824 && Nat.beq x2.length 1) then some (x0.take x1.toNat ++ x2 ++ x0.drop x1.toNat, ()) else none) = _; rw [decide_eq_true p0, decide_eq_true p1, Nat.ble_eq_true_of_le (by omega), p3]; rfl
end Go.Proofs.YtifffdepmdnciaaGreatDoor.Ri

namespace Go.Proofs.YtifffdepmdnciaaGreatDoor.Ri
open Go.Proofs.YtifffdepmdnciaaGreatDoor.Fw
set_option linter.unusedVariables false
set_option linter.unusedSimpArgs false
set_option maxRecDepth 100000
theorem ins_len {α : Type} (l : List α) (k : Nat) (m : List α) (h : m.length = 1) (hk : k ≤ l.length) : (l.take k ++ m ++ l.drop k).length = l.length + 1 := by
  simp [h]; omega
theorem txs0 : (tx []).size = 0 := rfl
theorem txs1 : (tx [47, 115]).size = 2 := rfl
theorem txs2 : (tx [47, 112]).size = 2 := rfl
theorem txs3 : (tx [114, 47]).size = 2 := rfl
theorem txs4 : (tx [99, 47, 112, 114, 111, 99]).size = 6 := rfl
theorem o_8yhem6 {p : Prop} (h : p := by first | assumption | omega | rfl | (simp only [List.length_append, List.length_cons, List.length_nil, ByteArray.size_append, txs1, txs2, txs3, txs4, txs0] at *; omega) | grind [i64_id, txs0, txs1, txs2, txs3, txs4]) : p := h
theorem o_ne43gz {p : Prop} (h : p := by (try dsimp only); first | assumption | omega | trivial | (simp only [List.length_append, List.length_cons, List.length_nil, ByteArray.size_append] at *; omega) | grind [i64_id, ins_len]) : p := h
theorem o_blwrjk {p : Prop} (h : p := by (try dsimp only); exact ⟨by assumption, by assumption, rfl⟩) : p := h
theorem o_d51da4 {p : Prop} (h : p := by (try dsimp only); exact ⟨rfl, by assumption, rfl, by assumption⟩) : p := h
theorem o_u08qmi {p : Prop} (h : p := by (try dsimp only); all_goals first | rfl | omega) : p := h
theorem o_rrbi2u {p : Prop} (h : p := by first | assumption | omega | exact q1_3 (by assumption) | (apply_assumption <;> assumption) | grind) : p := h
theorem o_btnbex {p : Prop} (h : p := by (try dsimp only); exact ⟨by assumption, by assumption, by assumption, by assumption⟩) : p := h
theorem w242_52 (N : Nat) : ∀ {s0 : ByteArray} {s5 : Int} {s6 : Int} (p0 : s5 = s0.size) (p1 : 0 ≤ s6) (p2 : s0.size ≤ 1000000) (hN : s5 - s6 ≤ (N : Int)), Wp (L242_52 s0 s5 s6) fun y => True := by
  induction N using Nat.strongRecOn with
  | ind N ih =>
    intro s0 s5 s6 p0 p1 p2 hN
    rw [P242_52]
    exact w_ip (fun h1 => w_gp o_8yhem6 (w_gp o_8yhem6 (w_gp o_8yhem6 (w_ip (fun h2 => w_some trivial) (fun h2 => ih (N - 1) o_8yhem6 o_8yhem6 o_8yhem6 o_8yhem6 o_8yhem6))))) (fun h1 => w_eq (P242_7 _) (w_bd (c27) (fun y0 _ => w_some trivial)))
theorem c242 {x0 : ByteArray} (p0 : x0.size ≤ 1000000) : Wp (D242 x0) fun y => True := by
  rw [E242]
  exact (w242_52 _ o_8yhem6 o_8yhem6 o_8yhem6 (Int.self_le_toNat _))
theorem c249 {x0 : List ByteArray} {x1 : ByteArray} (p0 : x0.length ≤ 900000) : Wp (D249 x0 x1) fun y => y.1.length ≤ x0.length + 1 := by
  rw [E249]
  exact w_bd (c287 o_8yhem6) (fun y0 ⟨q1_0, q1_1⟩ => w_ip (fun h2 => w_gp o_8yhem6 (w_some o_ne43gz)) (fun h2 => w_gp o_8yhem6 (w_ip (fun h3 => w_some o_ne43gz) (fun h3 => w_be (c289 o_8yhem6 o_8yhem6 o_8yhem6 o_8yhem6) (by (try dsimp only); exact (w_some o_ne43gz))))))
theorem w190_127 {s2 : ByteArray} {s4 : ByteArray} {s7 : Int} {e0 : List Fw.Cell} (p0 : 0 ≤ s7) (p1 : s7 ≤ e0.length) (p2 : e0.length ≤ 1000000) : Wp (L190_127 s2 s4 s7 e0) fun y => y.1.length ≤ e0.length + 1 := by
  rw [P190_127]
  exact w_be (c263 o_8yhem6 o_8yhem6 o_8yhem6 o_8yhem6) (by (try dsimp only); exact (w_some o_ne43gz))
theorem c190 {x0 : List Fw.Cell} {x1 : ByteArray} {x2 : ByteArray} (p0 : x0.length ≤ 900000) (p1 : x1.size ≤ 1000000) : Wp (D190 x0 x1 x2) fun y => y.1.length ≤ x0.length + 1 := by
  rw [E190]
  exact w_bd (c242 o_8yhem6) (fun y0 _ => w_ip (fun h2 => w_some o_ne43gz) (fun h2 => w_bd (c260 o_8yhem6) (fun y1 q3 => w_ip (fun h4 => w_some o_ne43gz) (fun h4 => w_bd (c1244 o_8yhem6) (fun y2 ⟨q5_0, q5_1⟩ => w_ip (fun h6 => (w190_127 o_8yhem6 o_8yhem6 o_8yhem6).mono (fun y q7 => o_ne43gz)) (fun h6 => (w190_127 o_8yhem6 o_8yhem6 o_8yhem6).mono (fun y q8 => o_ne43gz)))))))
theorem c236 {x0 : Fw.Mach} {x1 : ByteArray} {x2 : ByteArray} (p0 : x0.Store.length ≤ 900000) (p1 : x0.Touch.Writes.length ≤ 900000) (p2 : x1.size ≤ 1000000) : Wp (D236 x0 x1 x2) fun y => y.1.Store.length ≤ x0.Store.length + 1 ∧ y.1.Touch.Writes.length ≤ x0.Touch.Writes.length + 1 ∧ y.1.Touch.Reads = x0.Touch.Reads := by
  rw [E236]
  exact w_bd (c249 o_8yhem6) (fun y0 q1 => w_bd (c190 o_8yhem6 o_8yhem6) (fun y1 q2 => w_some o_blwrjk))
theorem c235 {x0 : Fw.Mach} {x1 : ByteArray} (p0 : x0.Store.length ≤ 900000) (p1 : x0.Touch.Reads.length ≤ 900000) : Wp (D235 x0 x1) fun y => y.2.1.Store = x0.Store ∧ y.2.1.Touch.Reads.length ≤ x0.Touch.Reads.length + 1 ∧ y.2.1.Touch.Writes = x0.Touch.Writes ∧ (x0.Store.length = 0 → y.1 = tx []) := by
  rw [E235]
  exact w_bd (c249 o_8yhem6) (fun y0 q1 => w_bd (c95 o_8yhem6) (fun y1 q2 => w_some o_d51da4))
theorem c37 {x0 : ByteArray} (p0 : x0 = tx []) : D37 x0 = some (0, (false, ())) := by
  rw [E37]; subst p0; rfl
theorem c234 {x0 : ByteArray} (p0 : x0 = tx []) : Wp (D234 x0) fun y => y.1 = 0 := by
  rw [E234]
  exact w_be (c37 o_8yhem6) (by (try dsimp only); exact (w_ip (fun h2 => w_some o_u08qmi) (fun h2 => w_some o_u08qmi)))
theorem c144 {x0 : Fw.Mach} {x1 : ByteArray} (p0 : x0.Store.length = 0) (p1 : x0.Touch.Reads.length ≤ 1000) : Wp (D144 x0 x1) fun y => y.1 = 0 ∧ y.2.1.Store = x0.Store ∧ y.2.1.Touch.Reads.length ≤ x0.Touch.Reads.length + 1 ∧ y.2.1.Touch.Writes = x0.Touch.Writes := by
  rw [E144]
  exact w_bd (c235 o_rrbi2u o_rrbi2u) (fun y0 ⟨q1_0, q1_1, q1_2, q1_3⟩ => w_bd (c234 o_rrbi2u) (fun y1 q2 => w_some o_btnbex))
theorem c164 {x0 : ByteArray} {x1 : Int} {x2 : ByteArray} (p0 : x0.size ≤ 100) (p1 : x2.size ≤ 100) : Wp (D164 x0 x1 x2) fun y => y.1.size ≤ 1000 := by
  rw [E164]
  exact w_bd (c6) (fun y0 ⟨q1_0, q1_1⟩ => w_gp o_8yhem6 (w_gp o_8yhem6 (w_some o_ne43gz)))
theorem c96 {x0 : Int} {x1 : ByteArray} (p0 : x1.size ≤ 100) : Wp (D96 x0 x1) fun y => y.1.size ≤ 1000 := by
  rw [E96]
  exact w_bd (c164 o_8yhem6 o_8yhem6) (fun y0 q1 => w_some o_ne43gz)
theorem w146_7 {s1 : ByteArray} {s6 : ByteArray} {e1 : List Fw.Cell} {e2 : List ByteArray} {e3 : List ByteArray} (p0 : e1.length ≤ 900000) (p1 : e3.length ≤ 900000) (p2 : s1.size ≤ 1000) : Wp (L146_7 s1 s6 e1 e2 e3) fun y => y.1.Store.length ≤ e1.length + 1 ∧ y.1.Touch.Writes.length ≤ e3.length + 1 ∧ y.1.Touch.Reads = e2 := by
  rw [P146_7]
  exact w_bd (c236 o_8yhem6 o_8yhem6 o_8yhem6) (fun y0 ⟨q1_0, q1_1, q1_2⟩ => w_some o_ne43gz)
theorem c146 {x0 : Fw.Mach} {x1 : ByteArray} {x2 : Int} (p0 : x0.Store.length ≤ 900000) (p1 : x0.Touch.Writes.length ≤ 900000) (p2 : x1.size ≤ 1000) : Wp (D146 x0 x1 x2) fun y => y.1.Store.length ≤ x0.Store.length + 1 ∧ y.1.Touch.Writes.length ≤ x0.Touch.Writes.length + 1 ∧ y.1.Touch.Reads = x0.Touch.Reads := by
  rw [E146]
  exact w_bd (c27) (fun y0 _ => w_ip (fun h2 => w_bd (c6) (fun y1 ⟨q3_0, q3_1⟩ => (w146_7 o_8yhem6 o_8yhem6 o_8yhem6).mono (fun y ⟨q4_0, q4_1, q4_2⟩ => o_ne43gz))) (fun h2 => (w146_7 o_8yhem6 o_8yhem6 o_8yhem6).mono (fun y ⟨q5_0, q5_1, q5_2⟩ => o_ne43gz)))
theorem c145 {x0 : Fw.Mach} {x1 : ByteArray} (p0 : x0.Store.length = 0) (p1 : x0.Touch.Reads.length ≤ 900) (p2 : x0.Touch.Writes.length ≤ 900) (p3 : x1.size ≤ 1000) : Wp (D145 x0 x1) fun y => y.2.1.Store.length ≤ 1 ∧ y.2.1.Touch.Writes.length ≤ 1000 := by
  rw [E145]
  exact w_bd (c144 o_rrbi2u o_rrbi2u) (fun y0 ⟨q1_0, q1_1, q1_2, q1_3⟩ => w_ip (fun h2 => by (try simp (disch := omega) only [i64_id] at h2); exact w_some o_ne43gz) (fun h2 => by (try simp (disch := omega) only [i64_id] at h2); exact w_bd (c146 o_8yhem6 o_8yhem6 o_8yhem6) (fun y1 ⟨q3_0, q3_1, q3_2⟩ => w_some o_ne43gz)))
theorem c80 {x0 : Fw.Mach} {x1 : Int} (p0 : x0.Store.length = 0) (p1 : x0.Touch.Reads.length ≤ 100) (p2 : x0.Touch.Writes.length ≤ 100) : Wp (D80 x0 x1) fun y => y.2.2.1.Store.length ≤ 1000 := by
  rw [E80]
  exact w_bd (c144 o_rrbi2u o_rrbi2u) (fun y0 ⟨q1_0, q1_1, q1_2, q1_3⟩ => w_ip (fun h2 => w_some o_ne43gz) (fun h2 => w_bd (c145 o_8yhem6 o_8yhem6 o_8yhem6 o_8yhem6) (fun y1 ⟨q3_0, q3_1⟩ => w_bd (c96 o_8yhem6) (fun y2 q4 => w_bd (c146 o_8yhem6 o_8yhem6 o_8yhem6) (fun y3 ⟨q5_0, q5_1, q5_2⟩ => w_bd (c96 o_8yhem6) (fun y4 q6 => w_bd (c146 o_8yhem6 o_8yhem6 o_8yhem6) (fun y5 ⟨q7_0, q7_1, q7_2⟩ => w_some o_ne43gz)))))))
theorem c42 : Wp (D42) fun y => y.1.length ≤ 1000 := by
  rw [E42]
  exact w_bd (c80 o_8yhem6 o_8yhem6 o_8yhem6) (fun y0 q1 => w_some o_ne43gz)
end Go.Proofs.YtifffdepmdnciaaGreatDoor.Ri

namespace Go.Proofs.YtifffdepmdnciaaGreatDoor.Ri
open Go.Proofs.YtifffdepmdnciaaGreatDoor.Fw
set_option linter.unusedVariables false
set_option linter.unusedSimpArgs false
set_option maxRecDepth 100000
theorem c48 (s : List Fw.Cell) (h : s.length ≤ 1000000) : ∃ d, D48 s = some (d, ()) := by
  rw [E48, c87 h]
  exact ⟨_, rfl⟩
theorem c25 : ∃ k : Fw.Kernel, D25 = some (k, ()) ∧ D42 = some (k.Store, ()) ∧ k.Store.length ≤ 1000 ∧ k.Seq = 0 ∧ k.Txs = [] ∧ k.History = [] ∧ k.Seen = [] := by
  obtain ⟨⟨s, ⟨⟩⟩, h1, h2⟩ := c42
  have h2 : s.length ≤ 1000 := h2
  obtain ⟨d, h3⟩ := c48 s (by omega)
  refine ⟨⟨s, [], d, 0, 1, 0, [], [], true⟩, ?_, h1, h2, rfl, rfl, rfl, rfl⟩
  rw [E25, h1]
  show (D48 s).bind _ = _
  rw [h3]
  rfl
theorem c14 {k : Fw.Kernel} (h : D25 = some (k, ())) : D14 [] = some (k, ([], ())) := by
  rw [E14, h]
  show gd _ (L14_244 [] 0 0 _ _ _ _ _ _ _ _ _ _ _ _ _ _ _ _ _) = _
  rw [P14_244, P14_31]
  rfl
theorem c30 : D30 [] = some ([], ()) := by
  rw [E30, P30_116, P30_15]; rfl
theorem c31 : D31 [] = some ([], ()) := by
  rw [E31, P31_116, P31_15]; rfl
theorem c43 : D43 [] = some ([], ()) := by
  rw [E43, P43_116, P43_15]; rfl
theorem c45 : D45 [] = some ([], ()) := by
  rw [E45, P45_116, P45_15]; rfl
theorem c44 : D44 [] [] = some (true, ()) := by
  rw [E44, E81, P81_116, P81_15]; rfl
theorem c65 : D65 [] 1 = some ([], ()) := by rw [E65]; rfl
theorem c29 (t : ByteArray) : D29 [[t], [], []] = some ([t], ()) := by
  rw [E29]
  show L29_116 [[t], [], []] 0 [[t], [], []] 3 0 = _
  rw [P29_116]
  show L29_935 [[t], [], []] 1 [[t], [], []] 3 0 = _
  rw [P29_935]
  show L29_116 [[t], [], []] 1 [[t], [], []] 3 1 = _
  rw [P29_116]
  show L29_935 [[t], [], []] 1 [[t], [], []] 3 1 = _
  rw [P29_935]
  show L29_116 [[t], [], []] 1 [[t], [], []] 3 2 = _
  rw [P29_116]
  show L29_935 [[t], [], []] 1 [[t], [], []] 3 2 = _
  rw [P29_935]
  show L29_116 [[t], [], []] 1 [[t], [], []] 3 3 = _
  rw [P29_116]
  show L29_15 [[t], [], []] 1 = _
  rw [P29_15, c65]
  show L29_500 [[t], [], []] 3 0 [] = _
  rw [P29_500]
  show L29_500 [[t], [], []] 3 1 [t] = _
  rw [P29_500]
  show L29_500 [[t], [], []] 3 2 [t] = _
  rw [P29_500]
  show L29_500 [[t], [], []] 3 3 [t] = _
  rw [P29_500]
  show L29_63 [t] = _
  rw [P29_63]
theorem itoa0 : itoaS 0 = tx [48] := by
  unfold itoaS
  rw [show IntKind.wrap .i64 0 = 0 from rfl, show Lib.itoa 0 = [48] by unfold Lib.itoa; rw [if_neg (by decide)]; rw [show (0 : Int).toNat = 0 from rfl, Lib.decDigits]; rfl]
  rfl
theorem c17 {k : Fw.Kernel} (h1 : k.Seq = 0) (h2 : k.Txs = []) (h3 : k.History = []) (h4 : k.Seen = []) : D17 k = some ([tx [115, 101, 113, 32, 48]], ()) := by
  rw [E17, h1, h2, h3, h4, E6, c13, c30, c31]
  show gd _ ((D29 [[tx [115, 101, 113, 32] ++ itoaS 0], [], []]).bind _) = _
  rw [c29, itoa0]
  show L17_116 [] 0 0 [tx [115, 101, 113, 32] ++ tx [48]] = _
  rw [P17_116]
  show L17_15 _ = _
  rw [P17_15]
  rfl
theorem c9 (t : ByteArray) : D9 [t] [t] = some (true, ()) := by
  rw [E9]
  show L9_116 [t] [t] 0 = _
  rw [P9_116]
  show (bif (!(decide (t = t))) then some (false, ()) else L9_116 [t] [t] 1) = _
  rw [decide_eq_true rfl]
  show L9_116 [t] [t] 1 = _
  rw [P9_116]
  show L9_15 = _
  rw [P9_15]
theorem c82l (s : List Fw.Cell) (n : Nat) : ∀ i : Int, 0 ≤ i → s.length ≤ 1000000 → (s.length : Int) - i ≤ n → L82_116 s s (s.length : Int) i = some (true, ()) := by
  induction n with
  | zero =>
    intro i h0 hl hn
    rw [P82_116, decide_eq_false (by omega)]
    exact P82_15
  | succ n ih =>
    intro i h0 hl hn
    rw [P82_116]
    by_cases h : i < (s.length : Int)
    · rw [decide_eq_true h, decide_eq_true h0, decide_eq_true (p := (nth s i.toNat).Key = (nth s i.toNat).Key) rfl, decide_eq_true (p := (nth s i.toNat).Val = (nth s i.toNat).Val) rfl, i64_id (by omega) (by omega)]
      exact ih (i + 1) (by omega) hl (by omega)
    · rw [decide_eq_false h]
      exact P82_15
theorem c46 (s : List Fw.Cell) (h : s.length ≤ 1000000) : D46 s s = some (true, ()) := by
  rw [E46, E82, decide_eq_true (p := (s.length : Int) = (s.length : Int)) rfl, c82l s s.length 0 (by omega) h (by omega)]
  rfl
theorem c41 (s : List Fw.Cell) (h : s.length ≤ 1000000) : D41 s [] = some (s, ([], ())) := by
  rw [E41, E78, c87 h]
  simp only [Option.bind_some]
  rw [E79, P79_116, P79_15]
  simp only [List.length_nil, Int.ofNat_zero, Int.natCast_zero, Int.lt_irrefl, decide_false, cond_false, Option.bind_some]
theorem c22 {k : Fw.Kernel} (h1 : D42 = some (k.Store, ())) (h2 : k.Store.length ≤ 1000) (h3 : k.History = []) : D22 k = some (true, ()) := by
  rw [E22, h3, c43, c45, h1]
  show (D41 k.Store []).bind _ = _
  rw [c41 _ (by omega)]
  show (D44 [] []).bind _ = _
  rw [c44]
  show (D46 k.Store k.Store).bind _ = _
  rw [c46 _ (by omega)]
  rfl
theorem quiet {s : ByteArray} (h : D8 s = some ([], (0, ()))) : L3_63 s = some (true, ()) := by
  obtain ⟨k, k1, k2, k3, k4, k5, k6, k7⟩ := c25
  have e7 : D7 s = some ([tx [115, 101, 113, 32, 48]], (0, ())) := by
    rw [E7, h]
    simp only [Option.bind_some, decide_true, Bool.not_true, cond_false]
    rw [c14 k1]
    simp only [Option.bind_some]
    rw [P7_1012, P7_127]
    simp only [List.length_nil, Int.ofNat_zero, Int.natCast_zero, Int.lt_irrefl, decide_false, cond_false]
    rw [show (⟨k.Store, k.Txs, ⟨k.Disk.Slots, ⟨k.Disk.Journal.Text, k.Disk.Journal.Sure⟩⟩, k.Seq, k.Next, k.Time, k.History, k.Seen, k.Room⟩ : Fw.Kernel) = k from rfl, c17 k4 k5 k6 k7]
    simp [gd]
  have e10 : D10 s = some (true, ()) := by
    rw [E10, h]
    simp only [Option.bind_some, decide_true, Bool.not_true, cond_false]
    rw [c14 k1]
    simp only [Option.bind_some]
    rw [c22 k2 k3 k6]
    rfl
  rw [P3_63, e7, h]
  simp only [Option.bind_some, decide_true, Bool.and_true, List.length_nil, Int.ofNat_zero, Int.natCast_zero, cond_true]
  rw [c9]
  simp only [Option.bind_some, cond_true]
  rw [e10]
  rfl
end Go.Proofs.YtifffdepmdnciaaGreatDoor.Ri

namespace Go.Proofs.YtifffdepmdnciaaGreatDoor.Ri
open Go.Proofs.YtifffdepmdnciaaGreatDoor.Fw
set_option linter.unusedVariables false
set_option linter.unusedSimpArgs false
set_option maxRecDepth 100000
def Cu (c : L01Cur) : Prop := 0 ≤ c.i ∧ c.b.length ≤ 1048576
theorem nth_mem {α : Type} [Inhabited α] {l : List α} {i : Nat} (h : i < l.length) : nth l i ∈ l := by
  have : nth l i = l[i] := by unfold nth; simp [h]
  rw [this]
  exact List.getElem_mem h
theorem o_xeu2yj {p : Prop} (h : p := by first | assumption | omega | grind [i64_id, Cu]) : p := h
theorem o_n23oxs {p : Prop} (h : p := by (try dsimp only); grind [i64_id, Cu]) : p := h
theorem o_lt2ew7 {p : Prop} (h : p := by (try dsimp only); first | assumption | grind [i64_id, Cu]) : p := h
theorem o_i2nx0w {p : Prop} (h : p := by first | assumption | omega | grind [i64_id]) : p := h
theorem o_4d3dp7 {p : Prop} (h : p := by (try dsimp only); first | assumption | omega | grind [i64_id, Cu]) : p := h
theorem o_iita29 {p : Prop} (h : p := by first | assumption | omega | (simp only [List.length_append, List.length_cons, List.length_nil] at *; omega) | grind [i64_id, Cu]) : p := h
theorem o_j5odho {p : Prop} (h : p := by (try dsimp only); first | omega | grind) : p := h
theorem o_kqvzdp {p : Prop} (h : p := by first | assumption | omega | rfl | exact q1_0 | grind [Cu]) : p := h
theorem o_8wv5z6 {p : Prop} (h : p := by (try dsimp only); first | assumption | omega | rfl | exact q1_0 | grind [Cu]) : p := h
theorem c23 {x0 : L01Cur} (p0 : Cu x0) : Wp (D23 x0) fun y => Cu y.2.1 := by
  rw [E23]
  exact w_ip (fun h1 => w_gp o_xeu2yj (w_eq (P23_31 _ _ _ _) (w_some o_n23oxs))) (fun h1 => w_eq (P23_31 _ _ _ _) (w_some o_n23oxs))
theorem c12 {x0 : L01Cur} {x1 : Int} (p0 : Cu x0) : Wp (D12 x0 x1) fun y => Cu y.2.1 := by
  rw [E12]
  exact w_ip (fun h1 => w_some o_lt2ew7) (fun h1 => w_ip (fun h2 => w_bd (c23 o_xeu2yj) (fun y4 q3 => w_gp o_xeu2yj (w_some o_lt2ew7))) (fun h2 => w_bd (c23 o_xeu2yj) (fun y0 q4 => w_bd (c23 o_xeu2yj) (fun y1 q5 => w_bd (c23 o_xeu2yj) (fun y2 q6 => w_bd (c23 o_xeu2yj) (fun y3 q7 => w_gp o_xeu2yj (w_some o_lt2ew7)))))))
theorem w11_116 (N : Nat) : ∀ {s0 : List UInt8} {s3 : Int} {s4 : Int} (p0 : 0 ≤ s4) (p1 : s0.length ≤ 1048576) (hN : s0.length - s4 ≤ (N : Int)), Wp (L11_116 s0 s3 s4) fun y => Cu y.1 := by
  induction N using Nat.strongRecOn with
  | ind N ih =>
    intro s0 s3 s4 p0 p1 hN
    rw [P11_116]
    exact w_ip (fun h1 => w_gp o_xeu2yj (ih (N - 1) o_xeu2yj o_xeu2yj o_xeu2yj o_i2nx0w)) (fun h1 => w_eq (P11_15 _ _) (w_some o_4d3dp7))
theorem c11 {x0 : List UInt8} (p0 : x0.length ≤ 1048576) : Wp (D11 x0) fun y => Cu y.1 := by
  rw [E11]
  exact (w11_116 _ o_xeu2yj o_xeu2yj (Int.self_le_toNat _)).mono (fun y q1 => o_4d3dp7)
theorem w5_244 (N : Nat) : ∀ {s5 : Int} {e0_0 : List UInt8} {e0_1 : Int} {e0_2 : Int} {e1 : List Int} (p0 : 0 ≤ s5) (p1 : s5 ≤ 12) (p2 : Cu ⟨e0_0, e0_1, e0_2⟩) (p3 : (e1.length : Int) = s5) (hN : 12 - s5 ≤ (N : Int)), Wp (L5_244 s5 e0_0 e0_1 e0_2 e1) fun y => y.1.length = 12 := by
  induction N using Nat.strongRecOn with
  | ind N ih =>
    intro s5 e0_0 e0_1 e0_2 e1 p0 p1 p2 p3 hN
    rw [P5_244]
    exact w_ip (fun h1 => w_bd (c12 o_iita29) (fun y0 q2 => w_gp o_iita29 (ih (N - 1) o_iita29 o_iita29 o_iita29 o_iita29 o_iita29 o_i2nx0w))) (fun h1 => w_eq (P5_31 _) (w_some o_j5odho))
theorem c5 {x0 : List UInt8} (p0 : x0.length ≤ 1048576) : Wp (D5 x0) fun y => y.1.length = 12 := by
  rw [E5]
  exact w_bd (c11 o_kqvzdp) (fun y0 q1 => (w5_244 _ o_kqvzdp o_kqvzdp o_kqvzdp o_kqvzdp (Int.self_le_toNat _)).mono (fun y q2 => o_8wv5z6))
end Go.Proofs.YtifffdepmdnciaaGreatDoor.Ri

namespace Go.Proofs.YtifffdepmdnciaaGreatDoor.Ri
open Go
theorem dd_ok : ∀ u, ∀ b ∈ Lib.decDigits u, 48 ≤ b.toNat ∧ b.toNat ≤ 57 := by
  intro u
  induction u using Nat.strongRecOn with
  | ind u ih =>
    intro b hb
    rw [Lib.decDigits] at hb
    split at hb
    · rw [List.mem_singleton] at hb
      subst hb
      rw [UInt8.toNat_ofNat']
      omega
    · rcases List.mem_append.1 hb with h | h
      · exact ih _ (by omega) b h
      · rw [List.mem_singleton] at h
        subst h
        rw [UInt8.toNat_ofNat']
        omega
theorem it_ok (n : Int) : ∀ b ∈ Lib.itoa n, 33 ≤ b.toNat ∧ b.toNat ≤ 126 := by
  intro b hb
  unfold Lib.itoa at hb
  split at hb
  · rcases List.mem_cons.1 hb with rfl | h
    · decide
    · have := dd_ok _ b h; omega
  · have := dd_ok _ b hb; omega
def Lk (l : List UInt8) : Prop := l.length ≤ 600 ∧ (∀ b ∈ l, 32 ≤ b.toNat ∧ b.toNat ≤ 126) ∧ (Lib.fields l).length ≤ 12 ∧ (Lib.fields l = [] ∨ ∃ r t, Lib.fields l = (35 :: r) :: t)
theorem isSp_no {b : UInt8} (h : 33 ≤ b.toNat) : Lib.isSp b = false := by
  unfold Lib.isSp
  have e : ∀ k : UInt8, k.toNat < 33 → (b == k) = false := fun k hk => by
    rw [beq_eq_false_iff_ne]
    intro e
    subst e
    omega
  rw [e 9 (by decide), e 10 (by decide), e 11 (by decide), e 12 (by decide), e 13 (by decide), e 32 (by decide)]
  rfl
theorem fg_word : ∀ (d cur : List UInt8), (∀ b ∈ d, 33 ≤ b.toNat) → (Lib.fieldsGo cur d).length ≤ 1
  | [], cur, _ => by
    unfold Lib.fieldsGo
    split <;> simp
  | b :: d, cur, h => by
    rw [Lib.fieldsGo_more _ _ _ (isSp_no (h b List.mem_cons_self))]
    exact fg_word d _ fun c hc => h c (List.mem_cons_of_mem _ hc)
theorem Lk_nil : Lk [] := ⟨by decide, fun b hb => (by cases hb), by decide, .inl rfl⟩
theorem Lk_sp : Lk [32] := ⟨by decide, fun b hb => (by rw [List.mem_singleton] at hb; subst hb; decide), by decide, .inl rfl⟩
theorem Lk_c {d : List UInt8} (h : ∀ b ∈ d, 33 ≤ b.toNat ∧ b.toNat ≤ 126) (hl : d.length ≤ 100) : Lk ([35, 32] ++ d) := by
  have e : Lib.fields ([35, 32] ++ d) = [35] :: Lib.fieldsGo [] d := by
    show Lib.fieldsGo [] (35 :: 32 :: d) = _
    rw [Lib.fieldsGo_more _ _ _ (by decide)]
    exact Lib.fieldsGo_end _ _ _ (by decide) (by decide)
  refine ⟨by rw [List.length_append]; show 2 + _ ≤ _; omega, fun b hb => ?_, ?_, .inr ⟨[], _, e⟩⟩
  · rcases List.mem_append.1 hb with hb | hb
    · simp only [List.mem_cons, List.mem_nil_iff, or_false] at hb
      rcases hb with rfl | rfl <;> decide
    · have := h b hb; omega
  · rw [e, List.length_cons]
    have := fg_word d [] fun b hb => (h b hb).1
    omega
theorem ix_hd : ∀ (a l : List UInt8), (∀ b ∈ a, b ≠ 10) → Lib.index (a ++ 10 :: l) [10] = (a.length : Int)
  | [], l, _ => by show Lib.index (10 :: l) [10] = _; rw [Lib.index]; simp [List.isPrefixOf]
  | b :: a, l, h => by
    have hp : ([10] : List UInt8).isPrefixOf (b :: (a ++ 10 :: l)) = false := by
      have := h b List.mem_cons_self
      simp [List.isPrefixOf, Ne.symm this]
    have ih := ix_hd a l fun c hc => h c (List.mem_cons_of_mem _ hc)
    show Lib.index (b :: (a ++ 10 :: l)) [10] = _
    rw [Lib.index, hp, ih]
    have : ¬ (((a.length : Int) == -1) = true) := by simp; try omega
    rw [if_neg (by decide), if_neg this]
    simp
theorem sp_hd (a l : List UInt8) (h : ∀ b ∈ a, b ≠ 10) : Lib.splitK [10] 0 (Lib.count (a ++ 10 :: l) [10]) (a ++ 10 :: l) = a :: Lib.splitK [10] 0 (Lib.count l [10]) l := by
  have hc : Lib.count (a ++ 10 :: l) [10] = Lib.count l [10] + 1 := by
    rw [Lib.count_one, Lib.count_one, List.count_append, List.count_cons_self, List.count_eq_zero.2 fun hm => h 10 hm rfl]
    omega
  rw [hc, Lib.splitK, ix_hd a l h]
  have : ¬ (((a.length : Int) == -1) = true) := by simp; try omega
  rw [if_neg this]
  simp
theorem sp_nil : Lib.splitK [10] 0 (Lib.count [] [10]) [] = [[]] := by
  rw [Lib.count_one]
  rfl
def Tx (n : Nat) (d : List UInt8) : List UInt8 := (List.replicate n ([35, 32] ++ d ++ [10, 32, 10])).flatten
theorem Tx_succ (n : Nat) (d : List UInt8) : Tx (n + 1) d = Tx n d ++ ([35, 32] ++ d ++ [10, 32, 10]) := by
  unfold Tx
  rw [List.replicate_succ', List.flatten_append]
  simp
theorem Tx_len (n : Nat) (d : List UInt8) : (Tx n d).length = n * (d.length + 5) := by
  induction n with
  | zero => simp [Tx]
  | succ n ih => rw [Tx_succ, List.length_append, ih, Nat.add_mul, Nat.one_mul]; simp; try omega
theorem Tx_lines {d : List UInt8} (h : ∀ b ∈ d, 33 ≤ b.toNat ∧ b.toNat ≤ 126) (hl : d.length ≤ 100) : ∀ n, ∀ x ∈ Lib.splitK [10] 0 (Lib.count (Tx n d) [10]) (Tx n d), Lk x
  | 0, x, hx => by
    rw [show Tx 0 d = [] from rfl, sp_nil, List.mem_singleton] at hx
    subst hx
    exact Lk_nil
  | n + 1, x, hx => by
    have e : Tx (n + 1) d = ([35, 32] ++ d) ++ 10 :: ([32] ++ 10 :: Tx n d) := by
      unfold Tx
      rw [List.replicate_succ, List.flatten_cons]
      simp
    rw [e, sp_hd _ _ (fun b hb hx => by
      subst hx
      rcases List.mem_append.1 hb with hb | hb
      · revert hb; decide
      · have := (h 10 hb).1
        revert this; decide), sp_hd _ _ (by decide)] at hx
    rcases List.mem_cons.1 hx with rfl | hx
    · exact Lk_c h hl
    rcases List.mem_cons.1 hx with rfl | hx
    · exact Lk_sp
    exact Tx_lines h hl n x hx
end Go.Proofs.YtifffdepmdnciaaGreatDoor.Ri

namespace Go.Proofs.YtifffdepmdnciaaGreatDoor.Ri
open Go.Proofs.YtifffdepmdnciaaGreatDoor.Fw
set_option linter.unusedVariables false
set_option linter.unusedSimpArgs false
set_option maxRecDepth 100000
theorem c33 {s : ByteArray} (h1 : s.size ≤ 600) (h2 : ∀ b ∈ s.data.toList, b.toNat ≤ 126) : D33 s = some (fieldsS s, ()) := by
  rw [E33]
  show (bif Nat.ble s.size 4294967280 && s.data.toList.all (fun b => decide (b.toNat < 128)) then some (fieldsS s, ()) else none) = _
  rw [Nat.ble_eq_true_of_le (by omega), List.all_eq_true.2 fun b hb => decide_eq_true (by have := h2 b hb; omega)]
  rfl
theorem byte_mem {s : ByteArray} {i : Nat} (h : i < s.size) : byteAt s i ∈ s.data.toList := by
  have h' : i < s.data.size := h
  have e : byteAt s i = s.data[i] := by
    unfold byteAt
    simp only [Array.getD_eq_getD_getElem?, Array.getElem?_eq_getElem h', Option.getD_some]
  rw [e]
  exact Array.getElem_mem_toList h'
theorem c19l {s : ByteArray} (h1 : s.size ≤ 600) (h2 : ∀ b ∈ s.data.toList, 32 ≤ b.toNat ∧ b.toNat ≤ 126) (h3 : (fieldsS s).length ≤ 12) (n : Nat) : ∀ i : Int, 0 ≤ i → (s.size : Int) - i ≤ n → L19_116 s (s.size : Int) i = some (fieldsS s, (true, ())) := by
  have end_ : L19_15 s = some (fieldsS s, (true, ())) := by
    rw [P19_15, c33 h1 fun b hb => (h2 b hb).2]
    simp only [Option.bind_some]
    rw [decide_eq_false (by omega)]
    rfl
  induction n with
  | zero =>
    intro i h0 hn
    rw [P19_116, decide_eq_false (by omega)]
    exact end_
  | succ n ih =>
    intro i h0 hn
    rw [P19_116]
    by_cases h : i < (s.size : Int)
    · have hb := h2 _ (byte_mem (s := s) (i := i.toNat) (by omega))
      rw [decide_eq_true h, decide_eq_true h0, decide_eq_false (p := ((byteAt s i.toNat).toNat : Int) < 32) (by omega), decide_eq_false (p := ((byteAt s i.toNat).toNat : Int) > 126) (by omega), i64_id (by omega) (by omega)]
      exact ih (i + 1) (by omega) (by omega)
    · rw [decide_eq_false h]
      exact end_
theorem fS_len (s : ByteArray) : (fieldsS s).length = (Lib.fields s.data.toList).length := by unfold fieldsS; rw [List.length_map]
theorem sz_len (s : ByteArray) : s.size = s.data.toList.length := by rw [Array.length_toList]; rfl
theorem c19 {s : ByteArray} (h : Lk s.data.toList) : D19 s = some (fieldsS s, (true, ())) := by
  obtain ⟨h1, h2, h3, _⟩ := h
  rw [← sz_len] at h1
  rw [E19, decide_eq_false (by omega)]
  exact c19l h1 h2 (by rw [fS_len]; exact h3) s.size 0 (by omega) (by omega)
theorem c20 (r : List UInt8) : D20 ⟨(35 :: r).toArray⟩ (tx [35]) = some (true, ()) := by
  have e0 : ((⟨(35 :: r).toArray⟩ : ByteArray).size : Int) = (r.length : Int) + 1 := by show (((35 :: r).toArray.size : Nat) : Int) = _; simp
  have e1 : ((tx [35]).size : Int) = 1 := rfl
  have e2 : cutS ⟨(35 :: r).toArray⟩ (0 : Int).toNat (1 : Int).toNat = tx [35] := by
    apply ByteArray.ext
    apply Array.toList_inj.1
    unfold cutS
    simp [tx]
  rw [E20, E34, e0, e1, e2, decide_eq_true (p := (1 : Int) ≤ (r.length : Int) + 1) (by omega), decide_eq_true (p := tx [35] = tx [35]) rfl]
  rfl
theorem c8l (L : List ByteArray) (hL : ∀ x ∈ L, Lk x.data.toList) (h2 : L.length ≤ 20000) (n : Nat) : ∀ i : Int, 0 ≤ i → (L.length : Int) - i ≤ n → L8_244 (L.length : Int) i L = some ([], (0, ())) := by
  induction n with
  | zero =>
    intro i h0 hn
    rw [P8_244, decide_eq_false (by omega)]
    exact P8_31
  | succ n ih =>
    intro i h0 hn
    rw [P8_244]
    by_cases h : i < (L.length : Int)
    · have hx := hL _ (nth_mem (l := L) (i := i.toNat) (by omega))
      have go : L8_1959 (L.length : Int) i L = some ([], (0, ())) := by
        rw [P8_1959, i64_id (by omega) (by omega)]
        exact ih (i + 1) (by omega) (by omega)
      rw [decide_eq_true h, decide_eq_true h0, c19 hx]
      simp only [Option.bind_some, cond_true, Bool.and_self, gd, Bool.true_and]
      rcases hx.2.2.2 with e | ⟨r, t, e⟩
      · have ef : fieldsS (nth L i.toNat) = [] := by unfold fieldsS; rw [e]; rfl
        rw [ef]
        simpa using go
      · have ef : fieldsS (nth L i.toNat) = (⟨(35 :: r).toArray⟩ : ByteArray) :: t.map fun l => ⟨l.toArray⟩ := by unfold fieldsS; rw [e]; rfl
        rw [ef]
        have e0 : nth ((⟨(35 :: r).toArray⟩ : ByteArray) :: t.map fun l => ⟨l.toArray⟩) (0 : Int).toNat = ⟨(35 :: r).toArray⟩ := rfl
        rw [e0, c20]
        have e1 : ¬ (((((⟨(35 :: r).toArray⟩ : ByteArray) :: t.map fun l => (⟨l.toArray⟩ : ByteArray)).length : Nat) : Int) = 0) := by rw [List.length_cons]; omega
        have e2 : (0 : Int) < (((((⟨(35 :: r).toArray⟩ : ByteArray) :: t.map fun l => (⟨l.toArray⟩ : ByteArray)).length : Nat) : Int)) := by rw [List.length_cons]; omega
        rw [decide_eq_false e1, decide_eq_true e2]
        simpa using go
    · rw [decide_eq_false h]
      exact P8_31
theorem c18 {s : ByteArray} (h : s.size ≤ 12000) : D18 s (tx [10]) = some (splitS s (tx [10]), ()) := by
  rw [E18]
  show (bif Nat.ble s.size 4294967280 && Nat.beq (tx [10]).size 1 then some (splitS s (tx [10]), ()) else none) = _
  rw [Nat.ble_eq_true_of_le (by omega)]
  rfl
theorem c8 {s : ByteArray} {n : Nat} {d : List UInt8} (hs : s.data.toList = Tx n d) (hn : n ≤ 20) (hd : ∀ b ∈ d, 33 ≤ b.toNat ∧ b.toNat ≤ 126) (hl : d.length ≤ 100) : D8 s = some ([], (0, ())) := by
  have h1 : s.size ≤ 12000 := by
    rw [sz_len, hs, Tx_len]
    have := Nat.mul_le_mul hn (show d.length + 5 ≤ 105 by omega)
    omega
  have hlen : (splitS s (tx [10])).length ≤ 20000 := by
    have := Lib.splitB_length_le (tx [10]) 0 (Lib.countB s (tx [10])) s
    have := Lib.countB_le (tx [10]) (by decide) s.size s (Nat.le_refl _)
    unfold splitS
    omega
  rw [E8, decide_eq_false (by omega), c18 h1]
  refine c8l _ (fun x hx => ?_) hlen _ 0 (by omega) (Int.self_le_toNat _)
  refine Tx_lines hd hl n _ ?_
  have e := Lib.splitB_data (tx [10]) 0 (Lib.countB s (tx [10])) s
  have hm : x.data.toList ∈ (splitS s (tx [10])).map (·.data.toList) := List.mem_map_of_mem hx
  unfold splitS at hm
  rw [e] at hm
  rw [← hs]
  exact hm
theorem it_bytes (n : Int) : ∀ b ∈ (itoaS n).data.toList, 33 ≤ b.toNat ∧ b.toNat ≤ 126 := it_ok _
theorem tm20 (a : Int) : Int.tmod a 20 < 20 := Int.tmod_lt_of_pos _ (by omega)
theorem c3l (e : List Int) (he : e.length = 12) (k : Nat) : ∀ (s : ByteArray) (i : Nat), s.data.toList = Tx i (itoaS (nth e 1)).data.toList → i ≤ 20 → 20 - i ≤ k → L3_500 s (i : Int) e = some (true, ()) := by
  have hd := it_bytes (nth e 1)
  have hl : (itoaS (nth e 1)).data.toList.length ≤ 100 := by rw [← sz_len]; have := itoaS_size (nth e 1); omega
  induction k with
  | zero =>
    intro s i hs hi hk
    have ht := tm20 (nth e (0 : Int).toNat)
    rw [P3_500, he, decide_eq_false (p := (i : Int) < Int.tmod (nth e (0 : Int).toNat) 20) (by omega)]
    exact quiet (c8 hs hi hd hl)
  | succ k ih =>
    intro s i hs hi hk
    have ht := tm20 (nth e (0 : Int).toNat)
    rw [P3_500, he]
    by_cases h : (i : Int) < Int.tmod (nth e (0 : Int).toNat) 20
    · have hi' : i + 1 ≤ 20 := by omega
      have hz : s.size ≤ 20 * 105 := by
        rw [sz_len, hs, Tx_len]
        exact Nat.mul_le_mul hi (by omega)
      have hz2 := itoaS_size (nth e (1 : Int).toNat)
      rw [decide_eq_true h, E6, c13]
      simp only [Option.bind_some, ByteArray.size_append]
      rw [decide_eq_true (p := s.size + (tx [35, 32]).size ≤ 9223372036854775807) (by have : (tx [35, 32]).size = 2 := rfl; omega), decide_eq_true (p := s.size + (tx [35, 32]).size + (itoaS (nth e (1 : Int).toNat)).size ≤ 9223372036854775807) (by have : (tx [35, 32]).size = 2 := rfl; omega), decide_eq_true (p := s.size + (tx [35, 32]).size + (itoaS (nth e (1 : Int).toNat)).size + (tx [10, 32, 10]).size ≤ 9223372036854775807) (by have : (tx [35, 32]).size = 2 := rfl; have : (tx [10, 32, 10]).size = 3 := rfl; omega), i64_id (by omega) (by omega)]
      refine ih _ (i + 1) ?_ hi' (by omega)
      rw [Tx_succ, ← hs]
      simp [tx, ByteArray.data_append]
    · rw [decide_eq_false h]
      exact quiet (c8 hs hi hd hl)
theorem c3 (x : List UInt8) : D3 x = some (true, ()) := by
  rw [E3, E4]
  simp only [Option.bind_some]
  by_cases h : (x.length : Int) > 1048576
  · rw [decide_eq_true h]
    rfl
  · rw [decide_eq_false h]
    obtain ⟨⟨e, ⟨⟩⟩, h1, h2⟩ := c5 (x0 := x) (by omega)
    rw [h1]
    exact c3l e h2 20 _ 0 rfl (by omega) (by omega)
end Go.Proofs.YtifffdepmdnciaaGreatDoor.Ri

namespace Go.Proofs
open Go.Shelf
def Tryz.laysM171_ren : Go.Shelf.Ren := ⟨fun | 171 => 13 | 243 => 24 | 246 => 47 | 283 => 83 | 284 => 84 | 285 => 85 | 286 => 86 | 129 => 148 | 317 => 147 | 318 => 149 | 319 => 150 | 320 => 151 | 337 => 237 | 338 => 238 | n => n, fun | 3 => 3 | 9 => 9 | 2 => 2 | 4 => 4 | 171 => 144 | 0 => 0 | 53 => 145 | 37 => 22 | 5 => 5 | 173 => 148 | 212 => 222 | 51 => 210 | 20 => 20 | 213 => 223 | 46 => 96 | 232 => 337 | 233 => 338 | n => n, fun | 17 => 4 | 18 => 10 | 19 => 11 | n => n⟩
theorem Tryz.laysM171 : Go.Proofs.LaysM.n171 Tryz.prog Tryz.laysM171_ren := {
  mixed := by kernel_rfl
  f129 := Tryz.func148.trans (congrArg some (by kernel_rfl))
  f171 := Tryz.func13.trans (congrArg some (by kernel_rfl))
  f243 := Tryz.func24.trans (congrArg some (by kernel_rfl))
  f246 := Tryz.func47.trans (congrArg some (by kernel_rfl))
  f283 := Tryz.func83.trans (congrArg some (by kernel_rfl))
  f284 := Tryz.func84.trans (congrArg some (by kernel_rfl))
  f285 := Tryz.func85.trans (congrArg some (by kernel_rfl))
  f286 := Tryz.func86.trans (congrArg some (by kernel_rfl))
  f317 := Tryz.func147.trans (congrArg some (by kernel_rfl))
  f318 := Tryz.func149.trans (congrArg some (by kernel_rfl))
  f319 := Tryz.func150.trans (congrArg some (by kernel_rfl))
  f320 := Tryz.func151.trans (congrArg some (by kernel_rfl))
  f337 := Tryz.func237.trans (congrArg some (by kernel_rfl))
  f338 := Tryz.func238.trans (congrArg some (by kernel_rfl))
  t0 := Tryz.underlying0
  a0 := Tryz.isAgg0
  z0 := Tryz.sizeOf0
  v0 := Tryz.zeroValue0
  t2 := Tryz.underlying2
  a2 := Tryz.isAgg2
  z2 := Tryz.sizeOf2
  v2 := Tryz.zeroValue2
  t3 := Tryz.underlying3
  a3 := Tryz.isAgg3
  z3 := Tryz.sizeOf3
  v3 := Tryz.zeroValue3
  t4 := Tryz.underlying4
  a4 := Tryz.isAgg4
  z4 := Tryz.sizeOf4
  v4 := Tryz.zeroValue4
  t5 := Tryz.underlying5
  a5 := Tryz.isAgg5
  z5 := Tryz.sizeOf5
  v5 := Tryz.zeroValue5
  t9 := Tryz.underlying9
  a9 := Tryz.isAgg9
  z9 := Tryz.sizeOf9
  v9 := Tryz.zeroValue9
  t20 := Tryz.underlying20
  a20 := Tryz.isAgg20
  z20 := Tryz.sizeOf20
  v20 := Tryz.zeroValue20
  t37 := Tryz.underlying22
  a37 := Tryz.isAgg22
  z37 := Tryz.sizeOf22
  v37 := Tryz.zeroValue22
  t46 := Tryz.underlying96
  a46 := Tryz.isAgg96
  z46 := Tryz.sizeOf96
  v46 := Tryz.zeroValue96
  t51 := Tryz.underlying210
  a51 := Tryz.isAgg210
  z51 := Tryz.sizeOf210
  v51 := Tryz.zeroValue210
  t53 := Tryz.underlying145
  a53 := Tryz.isAgg145
  z53 := Tryz.sizeOf145
  v53 := Tryz.zeroValue145
  t171 := Tryz.underlying144
  a171 := Tryz.isAgg144
  z171 := Tryz.sizeOf144
  v171 := Tryz.zeroValue144
  t173 := Tryz.underlying148
  a173 := Tryz.isAgg148
  z173 := Tryz.sizeOf148
  v173 := Tryz.zeroValue148
  t212 := Tryz.underlying222
  a212 := Tryz.isAgg222
  z212 := Tryz.sizeOf222
  v212 := Tryz.zeroValue222
  t213 := Tryz.underlying223
  a213 := Tryz.isAgg223
  z213 := Tryz.sizeOf223
  t232 := Tryz.underlying337
  a232 := Tryz.isAgg337
  z232 := Tryz.sizeOf337
  v232 := Tryz.zeroValue337
  t233 := Tryz.underlying338
  a233 := Tryz.isAgg338
  z233 := Tryz.sizeOf338
  v233 := Tryz.zeroValue338
  g17 := by kernel_rfl
  g18 := by kernel_rfl
  g19 := by kernel_rfl
  i0 := by kernel_rfl
  i2 := by kernel_rfl
  i3 := by kernel_rfl
  i4 := by kernel_rfl
  i5 := by kernel_rfl
  i9 := by kernel_rfl
  i20 := by kernel_rfl
  i37 := by kernel_rfl
  i46 := by kernel_rfl
  i51 := by kernel_rfl
  i53 := by kernel_rfl
  i171 := by kernel_rfl
  i173 := by kernel_rfl
  i212 := by kernel_rfl
  i232 := by kernel_rfl
  i233 := by kernel_rfl
  m17 := by kernel_rfl
  m18 := by kernel_rfl
  m19 := by kernel_rfl }
open Go.RowKit Go.Sort Go.Lib in
theorem Tryz.strconv_Itoa (n : Int) (h0 : -9223372036854775808 ≤ n) (h1 : n ≤ 9223372036854775807) (w : World) (htab : Lib.TabIs Tryz.prog w "internal/strconv.uint64pow10" .u64 Lib.pow10Tab) :
    Calls Tryz.prog 13 #[.int .i64 n] w fun e w' => e = .returned (.string ⟨(Lib.itoa n).toArray⟩) ∧ ∃ k os, w' = grow (w.drewN k) os := Any.strconv_Itoa Tryz.laysM171 n h0 h1 w htab
def Tryz.laysC172_ren : Go.Shelf.Ren := ⟨fun | 172 => 73 | 244 => 136 | 245 => 137 | 247 => 204 | 279 => 205 | 280 => 206 | 281 => 207 | 282 => 208 | 287 => 268 | 316 => 269 | 171 => 13 | 205 => 270 | 321 => 304 | 322 => 305 | 243 => 24 | 246 => 47 | 283 => 83 | 284 => 84 | 285 => 85 | 286 => 86 | 129 => 148 | 317 => 147 | 318 => 149 | 319 => 150 | 320 => 151 | 337 => 237 | 338 => 238 | n => n, fun | 9 => 9 | 3 => 3 | 75 => 130 | 76 => 131 | 4 => 4 | 5 => 5 | 167 => 277 | 37 => 22 | 0 => 0 | 85 => 278 | 2 => 2 | 168 => 280 | 53 => 145 | 175 => 329 | 46 => 96 | 210 => 332 | 127 => 321 | 145 => 351 | 143 => 349 | 21 => 21 | 171 => 144 | 173 => 148 | 212 => 222 | 51 => 210 | 20 => 20 | 213 => 223 | 232 => 337 | 233 => 338 | 80 => 265 | n => n, fun | 15 => 8 | 16 => 9 | 17 => 4 | 18 => 10 | 19 => 11 | n => n⟩
theorem Tryz.laysC172 : Go.Proofs.LaysC.n172 Tryz.prog Tryz.laysC172_ren := {
  mixed := by kernel_rfl
  f129 := Tryz.func148.trans (congrArg some (by kernel_rfl))
  f171 := Tryz.func13.trans (congrArg some (by kernel_rfl))
  f172 := Tryz.func73.trans (congrArg some (by kernel_rfl))
  f205 := Tryz.func270.trans (congrArg some (by kernel_rfl))
  f243 := Tryz.func24.trans (congrArg some (by kernel_rfl))
  f244 := Tryz.func136.trans (congrArg some (by kernel_rfl))
  f245 := Tryz.func137.trans (congrArg some (by kernel_rfl))
  f246 := Tryz.func47.trans (congrArg some (by kernel_rfl))
  f247 := Tryz.func204.trans (congrArg some (by kernel_rfl))
  f279 := Tryz.func205.trans (congrArg some (by kernel_rfl))
  f280 := Tryz.func206.trans (congrArg some (by kernel_rfl))
  f281 := Tryz.func207.trans (congrArg some (by kernel_rfl))
  f282 := Tryz.func208.trans (congrArg some (by kernel_rfl))
  f283 := Tryz.func83.trans (congrArg some (by kernel_rfl))
  f284 := Tryz.func84.trans (congrArg some (by kernel_rfl))
  f285 := Tryz.func85.trans (congrArg some (by kernel_rfl))
  f286 := Tryz.func86.trans (congrArg some (by kernel_rfl))
  f287 := Tryz.func268.trans (congrArg some (by kernel_rfl))
  f316 := Tryz.func269.trans (congrArg some (by kernel_rfl))
  f317 := Tryz.func147.trans (congrArg some (by kernel_rfl))
  f318 := Tryz.func149.trans (congrArg some (by kernel_rfl))
  f319 := Tryz.func150.trans (congrArg some (by kernel_rfl))
  f320 := Tryz.func151.trans (congrArg some (by kernel_rfl))
  f321 := Tryz.func304.trans (congrArg some (by kernel_rfl))
  f322 := Tryz.func305.trans (congrArg some (by kernel_rfl))
  f337 := Tryz.func237.trans (congrArg some (by kernel_rfl))
  f338 := Tryz.func238.trans (congrArg some (by kernel_rfl))
  t0 := Tryz.underlying0
  a0 := Tryz.isAgg0
  z0 := Tryz.sizeOf0
  v0 := Tryz.zeroValue0
  t2 := Tryz.underlying2
  a2 := Tryz.isAgg2
  z2 := Tryz.sizeOf2
  v2 := Tryz.zeroValue2
  t3 := Tryz.underlying3
  a3 := Tryz.isAgg3
  z3 := Tryz.sizeOf3
  v3 := Tryz.zeroValue3
  t4 := Tryz.underlying4
  a4 := Tryz.isAgg4
  z4 := Tryz.sizeOf4
  v4 := Tryz.zeroValue4
  t5 := Tryz.underlying5
  a5 := Tryz.isAgg5
  z5 := Tryz.sizeOf5
  v5 := Tryz.zeroValue5
  t9 := Tryz.underlying9
  a9 := Tryz.isAgg9
  z9 := Tryz.sizeOf9
  v9 := Tryz.zeroValue9
  t20 := Tryz.underlying20
  a20 := Tryz.isAgg20
  z20 := Tryz.sizeOf20
  v20 := Tryz.zeroValue20
  t21 := Tryz.underlying21
  a21 := Tryz.isAgg21
  z21 := Tryz.sizeOf21
  v21 := Tryz.zeroValue21
  t37 := Tryz.underlying22
  a37 := Tryz.isAgg22
  z37 := Tryz.sizeOf22
  v37 := Tryz.zeroValue22
  t46 := Tryz.underlying96
  a46 := Tryz.isAgg96
  z46 := Tryz.sizeOf96
  v46 := Tryz.zeroValue96
  t51 := Tryz.underlying210
  a51 := Tryz.isAgg210
  z51 := Tryz.sizeOf210
  v51 := Tryz.zeroValue210
  t53 := Tryz.underlying145
  a53 := Tryz.isAgg145
  z53 := Tryz.sizeOf145
  v53 := Tryz.zeroValue145
  t75 := Tryz.underlying130
  a75 := Tryz.isAgg130
  z75 := Tryz.sizeOf130
  v75 := Tryz.zeroValue130
  t76 := Tryz.underlying131
  a76 := Tryz.isAgg131
  z76 := Tryz.sizeOf131
  v76 := Tryz.zeroValue131
  t85 := Tryz.underlying278
  a85 := Tryz.isAgg278
  z85 := Tryz.sizeOf278
  v85 := Tryz.zeroValue278
  t127 := Tryz.underlying321
  a127 := Tryz.isAgg321
  z127 := Tryz.sizeOf321
  v127 := Tryz.zeroValue321
  t143 := Tryz.underlying349
  a143 := Tryz.isAgg349
  z143 := Tryz.sizeOf349
  v143 := Tryz.zeroValue349
  t145 := Tryz.underlying351
  a145 := Tryz.isAgg351
  z145 := Tryz.sizeOf351
  v145 := Tryz.zeroValue351
  t167 := Tryz.underlying277
  a167 := Tryz.isAgg277
  z167 := Tryz.sizeOf277
  v167 := Tryz.zeroValue277
  t168 := Tryz.underlying280
  a168 := Tryz.isAgg280
  z168 := Tryz.sizeOf280
  v168 := Tryz.zeroValue280
  t171 := Tryz.underlying144
  a171 := Tryz.isAgg144
  z171 := Tryz.sizeOf144
  v171 := Tryz.zeroValue144
  t173 := Tryz.underlying148
  a173 := Tryz.isAgg148
  z173 := Tryz.sizeOf148
  v173 := Tryz.zeroValue148
  t175 := Tryz.underlying329
  a175 := Tryz.isAgg329
  z175 := Tryz.sizeOf329
  v175 := Tryz.zeroValue329
  t210 := Tryz.underlying332
  a210 := Tryz.isAgg332
  z210 := Tryz.sizeOf332
  v210 := Tryz.zeroValue332
  t212 := Tryz.underlying222
  a212 := Tryz.isAgg222
  z212 := Tryz.sizeOf222
  v212 := Tryz.zeroValue222
  t213 := Tryz.underlying223
  a213 := Tryz.isAgg223
  z213 := Tryz.sizeOf223
  t232 := Tryz.underlying337
  a232 := Tryz.isAgg337
  z232 := Tryz.sizeOf337
  v232 := Tryz.zeroValue337
  t233 := Tryz.underlying338
  a233 := Tryz.isAgg338
  z233 := Tryz.sizeOf338
  v233 := Tryz.zeroValue338
  g15 := by kernel_rfl
  g16 := by kernel_rfl
  g17 := by kernel_rfl
  g18 := by kernel_rfl
  g19 := by kernel_rfl
  t80 := Tryz.underlying265
  a80 := Tryz.isAgg265
  z80 := Tryz.sizeOf265
  v80 := Tryz.zeroValue265
  i0 := by kernel_rfl
  i2 := by kernel_rfl
  i3 := by kernel_rfl
  i4 := by kernel_rfl
  i5 := by kernel_rfl
  i9 := by kernel_rfl
  i20 := by kernel_rfl
  i21 := by kernel_rfl
  i37 := by kernel_rfl
  i46 := by kernel_rfl
  i51 := by kernel_rfl
  i53 := by kernel_rfl
  i75 := by kernel_rfl
  i76 := by kernel_rfl
  i80 := by kernel_rfl
  i85 := by kernel_rfl
  i127 := by kernel_rfl
  i143 := by kernel_rfl
  i145 := by kernel_rfl
  i167 := by kernel_rfl
  i168 := by kernel_rfl
  i171 := by kernel_rfl
  i173 := by kernel_rfl
  i175 := by kernel_rfl
  i210 := by kernel_rfl
  i212 := by kernel_rfl
  i232 := by kernel_rfl
  i233 := by kernel_rfl
  m15 := by kernel_rfl
  m16 := by kernel_rfl
  m17 := by kernel_rfl
  m18 := by kernel_rfl
  m19 := by kernel_rfl
  c0 := by kernel_rfl
  c2 := by kernel_rfl
  c3 := by kernel_rfl
  c4 := by kernel_rfl
  c5 := by kernel_rfl
  c9 := by kernel_rfl
  c20 := by kernel_rfl
  c21 := by kernel_rfl
  c37 := by kernel_rfl
  c46 := by kernel_rfl
  c51 := by kernel_rfl
  c53 := by kernel_rfl
  c75 := by kernel_rfl
  c76 := by kernel_rfl
  c80 := by kernel_rfl
  c85 := by kernel_rfl
  c127 := by kernel_rfl
  c143 := by kernel_rfl
  c145 := by kernel_rfl
  c167 := by kernel_rfl
  c168 := by kernel_rfl
  c171 := by kernel_rfl
  c173 := by kernel_rfl
  c175 := by kernel_rfl
  c210 := by kernel_rfl
  c212 := by kernel_rfl
  c213 := by kernel_rfl
  c232 := by kernel_rfl
  c233 := by kernel_rfl }
open Go.RowKit in
theorem Tryz.strconv_Atoi_syntax (s : ByteArray) (hlim : s.size ≤ 281474976710656) (h : Lib.atoiAll s.data.toList = Lib.atoiAll []) (ev : Value) (w : World) (hv : w.cell? ⟨8, 0, none⟩ = some ev) (hev : ev = .nilIface ∨ ∃ te pe, ev = .iface te pe) :
    Calls Tryz.prog 73 #[.string s] w fun e w' => ∃ N, e = .returned (.tuple #[.int .i64 (0), .iface 280 (.pointer (some ⟨N, 0, none⟩))]) ∧ w.heap.size ≤ N ∧ w'.heap[N]? = some (.cells #[.string ⟨#[65, 116, 111, 105]⟩, .string s, ev] 332 (0, 0)) ∧ Below w.heap.size w w' := Any.strconv_Atoi_syntax Tryz.laysC172 s hlim (h.trans (by decide +kernel)) ev w hv hev
def Tryz.lays146_ren : Go.Shelf.Ren := ⟨fun | 146 => 18 | 221 => 32 | 268 => 68 | 138 => 69 | 143 => 70 | 195 => 131 | 197 => 132 | 218 => 133 | 219 => 134 | 260 => 197 | 217 => 198 | 225 => 199 | 224 => 200 | 267 => 201 | 266 => 266 | 314 => 267 | n => n, fun | 9 => 9 | 31 => 27 | 3 => 3 | 4 => 4 | 0 => 0 | 105 => 204 | 21 => 21 | 5 => 5 | 46 => 96 | 119 => 126 | 139 => 324 | 138 => 323 | 146 => 325 | 51 => 210 | n => n, fun | 1 => 5 | 3 => 6 | 4 => 7 | n => n⟩
theorem Tryz.lays146 : Go.Proofs.Lays.n146 Tryz.prog Tryz.lays146_ren := {
  mixed := by kernel_rfl
  f138 := Tryz.func69.trans (congrArg some (by kernel_rfl))
  f143 := Tryz.func70.trans (congrArg some (by kernel_rfl))
  f146 := Tryz.func18.trans (congrArg some (by kernel_rfl))
  f195 := Tryz.func131.trans (congrArg some (by kernel_rfl))
  f197 := Tryz.func132.trans (congrArg some (by kernel_rfl))
  f217 := Tryz.func198.trans (congrArg some (by kernel_rfl))
  f218 := Tryz.func133.trans (congrArg some (by kernel_rfl))
  f219 := Tryz.func134.trans (congrArg some (by kernel_rfl))
  f221 := Tryz.func32.trans (congrArg some (by kernel_rfl))
  f224 := Tryz.func200.trans (congrArg some (by kernel_rfl))
  f225 := Tryz.func199.trans (congrArg some (by kernel_rfl))
  f260 := Tryz.func197.trans (congrArg some (by kernel_rfl))
  f266 := Tryz.func266.trans (congrArg some (by kernel_rfl))
  f267 := Tryz.func201.trans (congrArg some (by kernel_rfl))
  f268 := Tryz.func68.trans (congrArg some (by kernel_rfl))
  f314 := Tryz.func267.trans (congrArg some (by kernel_rfl))
  t0 := Tryz.underlying0
  a0 := Tryz.isAgg0
  z0 := Tryz.sizeOf0
  v0 := Tryz.zeroValue0
  t3 := Tryz.underlying3
  a3 := Tryz.isAgg3
  z3 := Tryz.sizeOf3
  v3 := Tryz.zeroValue3
  t4 := Tryz.underlying4
  a4 := Tryz.isAgg4
  z4 := Tryz.sizeOf4
  v4 := Tryz.zeroValue4
  t5 := Tryz.underlying5
  a5 := Tryz.isAgg5
  z5 := Tryz.sizeOf5
  v5 := Tryz.zeroValue5
  t9 := Tryz.underlying9
  a9 := Tryz.isAgg9
  z9 := Tryz.sizeOf9
  v9 := Tryz.zeroValue9
  t21 := Tryz.underlying21
  a21 := Tryz.isAgg21
  z21 := Tryz.sizeOf21
  v21 := Tryz.zeroValue21
  t31 := Tryz.underlying27
  a31 := Tryz.isAgg27
  z31 := Tryz.sizeOf27
  v31 := Tryz.zeroValue27
  t46 := Tryz.underlying96
  a46 := Tryz.isAgg96
  z46 := Tryz.sizeOf96
  v46 := Tryz.zeroValue96
  t51 := Tryz.underlying210
  a51 := Tryz.isAgg210
  z51 := Tryz.sizeOf210
  v51 := Tryz.zeroValue210
  t105 := Tryz.underlying204
  a105 := Tryz.isAgg204
  z105 := Tryz.sizeOf204
  v105 := Tryz.zeroValue204
  t119 := Tryz.underlying126
  a119 := Tryz.isAgg126
  z119 := Tryz.sizeOf126
  t138 := Tryz.underlying323
  a138 := Tryz.isAgg323
  z138 := Tryz.sizeOf323
  v138 := Tryz.zeroValue323
  t139 := Tryz.underlying324
  a139 := Tryz.isAgg324
  z139 := Tryz.sizeOf324
  v139 := Tryz.zeroValue324
  t146 := Tryz.underlying325
  a146 := Tryz.isAgg325
  z146 := Tryz.sizeOf325
  v146 := Tryz.zeroValue325
  g1 := by kernel_rfl
  g3 := by kernel_rfl
  g4 := by kernel_rfl }
def Tryz.lays157_ren : Go.Shelf.Ren := ⟨fun | 157 => 33 | 229 => 71 | 199 => 72 | 261 => 135 | 311 => 202 | 312 => 203 | n => n, fun | 9 => 9 | 31 => 27 | 3 => 3 | 5 => 5 | 4 => 4 | 119 => 126 | 0 => 0 | 40 => 128 | 152 => 207 | 21 => 21 | 154 => 209 | 51 => 210 | 141 => 212 | 196 => 269 | 193 => 266 | 198 => 272 | 49 => 270 | 194 => 267 | 201 => 275 | 226 => 327 | 46 => 96 | 227 => 328 | n => n, fun | 0 => 1 | 6 => 3 | n => n⟩
theorem Tryz.lays157 : Go.Proofs.Lays.n157 Tryz.prog Tryz.lays157_ren := {
  mixed := by kernel_rfl
  f157 := Tryz.func33.trans (congrArg some (by kernel_rfl))
  f199 := Tryz.func72.trans (congrArg some (by kernel_rfl))
  f229 := Tryz.func71.trans (congrArg some (by kernel_rfl))
  f261 := Tryz.func135.trans (congrArg some (by kernel_rfl))
  f311 := Tryz.func202.trans (congrArg some (by kernel_rfl))
  f312 := Tryz.func203.trans (congrArg some (by kernel_rfl))
  t0 := Tryz.underlying0
  a0 := Tryz.isAgg0
  z0 := Tryz.sizeOf0
  v0 := Tryz.zeroValue0
  t3 := Tryz.underlying3
  a3 := Tryz.isAgg3
  z3 := Tryz.sizeOf3
  v3 := Tryz.zeroValue3
  t4 := Tryz.underlying4
  a4 := Tryz.isAgg4
  z4 := Tryz.sizeOf4
  v4 := Tryz.zeroValue4
  t5 := Tryz.underlying5
  a5 := Tryz.isAgg5
  z5 := Tryz.sizeOf5
  v5 := Tryz.zeroValue5
  t9 := Tryz.underlying9
  a9 := Tryz.isAgg9
  z9 := Tryz.sizeOf9
  v9 := Tryz.zeroValue9
  t21 := Tryz.underlying21
  a21 := Tryz.isAgg21
  z21 := Tryz.sizeOf21
  v21 := Tryz.zeroValue21
  t31 := Tryz.underlying27
  a31 := Tryz.isAgg27
  z31 := Tryz.sizeOf27
  v31 := Tryz.zeroValue27
  t40 := Tryz.underlying128
  a40 := Tryz.isAgg128
  z40 := Tryz.sizeOf128
  v40 := Tryz.zeroValue128
  t46 := Tryz.underlying96
  a46 := Tryz.isAgg96
  z46 := Tryz.sizeOf96
  v46 := Tryz.zeroValue96
  t49 := Tryz.underlying270
  a49 := Tryz.isAgg270
  z49 := Tryz.sizeOf270
  v49 := Tryz.zeroValue270
  t51 := Tryz.underlying210
  a51 := Tryz.isAgg210
  z51 := Tryz.sizeOf210
  v51 := Tryz.zeroValue210
  t119 := Tryz.underlying126
  a119 := Tryz.isAgg126
  z119 := Tryz.sizeOf126
  t141 := Tryz.underlying212
  a141 := Tryz.isAgg212
  z141 := Tryz.sizeOf212
  v141 := Tryz.zeroValue212
  t152 := Tryz.underlying207
  a152 := Tryz.isAgg207
  z152 := Tryz.sizeOf207
  v152 := Tryz.zeroValue207
  t154 := Tryz.underlying209
  a154 := Tryz.isAgg209
  z154 := Tryz.sizeOf209
  v154 := Tryz.zeroValue209
  t193 := Tryz.underlying266
  a193 := Tryz.isAgg266
  z193 := Tryz.sizeOf266
  v193 := Tryz.zeroValue266
  t194 := Tryz.underlying267
  a194 := Tryz.isAgg267
  z194 := Tryz.sizeOf267
  v194 := Tryz.zeroValue267
  t196 := Tryz.underlying269
  a196 := Tryz.isAgg269
  z196 := Tryz.sizeOf269
  v196 := Tryz.zeroValue269
  t198 := Tryz.underlying272
  a198 := Tryz.isAgg272
  z198 := Tryz.sizeOf272
  v198 := Tryz.zeroValue272
  t201 := Tryz.underlying275
  a201 := Tryz.isAgg275
  z201 := Tryz.sizeOf275
  v201 := Tryz.zeroValue275
  t226 := Tryz.underlying327
  a226 := Tryz.isAgg327
  z226 := Tryz.sizeOf327
  v226 := Tryz.zeroValue327
  t227 := Tryz.underlying328
  a227 := Tryz.isAgg328
  z227 := Tryz.sizeOf328
  v227 := Tryz.zeroValue328
  g0 := by kernel_rfl
  g6 := by kernel_rfl }
open Go.RowKit Go.Lib in
theorem Tryz.strings_Fields (s : ByteArray) (w : World) (hs : s.size < 4294967281) (hascii : ∀ (j : Nat) b, s.data.toList[j]? = some b → b.toNat < 128) (htab : Lib.TabIs Tryz.prog w "strings.asciiSpace" .u8 Lib.asciiSpaceTab) :
    Calls Tryz.prog 33 #[.string s] w fun e w' =>
      e = .returned (.slice (some ⟨w.heap.size, 0, none⟩) (Lib.fields s.data.toList).length (Lib.fields s.data.toList).length) ∧ w' = w.alloc (.cells ((Lib.fields s.data.toList).map fun l => Value.string ⟨l.toArray⟩).toArray 9) := Any.strings_Fields Tryz.lays157 (by kernel_rfl) (by kernel_rfl) s w hs hascii htab
end Go.Proofs

namespace Go.Proofs
open Go.Shelf
theorem idx_one (c : UInt8) : ∀ l : List UInt8, Lib.index l [c] = Lib.indexByte l c
  | [] => rfl
  | b :: l => by
    have ih := idx_one c l
    rw [Lib.index, Lib.indexByte, ih]
    by_cases h : b = c
    · subst h; simp [List.isPrefixOf]
    · have h1 : ([c] : List UInt8).isPrefixOf (b :: l) = false := by simp [List.isPrefixOf, Ne.symm h]
      have h2 : (b == c) = false := beq_eq_false_iff_ne.2 h
      rw [h1, h2]
set_option maxHeartbeats 1000000 in
theorem split_one {P : Program} {ρ : Ren} (L : Lays.n146 P ρ) (hi9 : (P.info? (ρ.t 9)).map (fun i => (i.zero, i.size, i.bytes)) = some (some (.string ByteArray.empty), 1, 16)) (s : ByteArray) (c : UInt8) (w : World) (hs : s.size < 4294967281) :
    Calls P (ρ.f 146) #[.string s, .string ⟨#[c]⟩] w fun e w' =>
      e = .returned (.slice (some ⟨w.heap.size, 0, none⟩) (Lib.countB s ⟨#[c]⟩ + 1) (Lib.countB s ⟨#[c]⟩ + 1)) ∧ w' = w.alloc (.cells ((Lib.splitB ⟨#[c]⟩ 0 (Lib.countB s ⟨#[c]⟩) s).map Value.string).toArray (ρ.t 9)) := by
  have h1 : 1 ≤ (⟨#[c]⟩ : ByteArray).size := Nat.le_refl _
  have hle := Lib.countB_le ⟨#[c]⟩ h1 s.size s (Nat.le_refl _)
  have hlen := Lib.splitB_all ⟨#[c]⟩ h1 0 _ s rfl
  have hcc : Lib.countByte s.data.toList c = Lib.countB s ⟨#[c]⟩ := (Lib.count_one c _).symm
  have c0 := Any.strings_genSplit_core { L with } hi9 s ⟨#[c]⟩ 0 (-1) (Lib.countB s ⟨#[c]⟩ + 1) w hs h1 (Nat.zero_le _)
    (fun x cc hx => by
      have := Any.strings_Index_one { L with } x c (w.alloc (.cells cc (ρ.t 9)))
      rw [← idx_one] at this
      exact this)
    (by
      have := Any.strings_Count_one { L with } s c w
      rw [hcc] at this
      exact this) (by decide) (by decide) (by rw [if_pos (by decide)]; omega)
  rw [Nat.add_sub_cancel, hlen] at c0
  have e2 : Lib.cellsOf (Lib.splitB ⟨#[c]⟩ 0 (Lib.countB s ⟨#[c]⟩) s) (Lib.countB s ⟨#[c]⟩ + 1) = ((Lib.splitB ⟨#[c]⟩ 0 (Lib.countB s ⟨#[c]⟩) s).map Value.string).toArray := by rw [← hlen]; exact Lib.cellsOf_full _
  rw [e2] at c0
  have mixed := L.mixed
  have t3 := L.t3; have t9 := L.t9; have t31 := L.t31
  have a3 := L.a3; have a9 := L.a9; have a31 := L.a31
  have z3 := L.z3; have v3 := L.v3; have z9 := L.z9; have v9 := L.v9; have z31 := L.z31; have v31 := L.v31
  have e221 : ∀ args w, (callFunc (ρ.f 221) args).run P w = .ok (.enter (ρ.f 221) args) w := enters_of L.f221 (by kernel_rfl) rfl
  go_enter L.f146, Body.n146_ntmps ρ
  go_wp2_with (go_at_fn (ρ.f 221); refine c0.mono ?_; rintro e w' ⟨rfl, hw⟩; rw [hw])
  go_ret
  exact ⟨rfl, rfl⟩
end Go.Proofs

namespace Go.Proofs.YtifffdepmdnciaaGreatDoor.Fw
open Go.RowKit Go.Shelf
set_option linter.unusedVariables false
theorem step_cpy {P : Program} {ops : Array Oper} {o : Oper} {a : Act} {w : World} {K : Act → World → Prop} {Q : Exit → Act → World → Prop} {E : Prop}
    (hg : o.guard = none) (d x : Operand) (dT sT : TypeId) (hop : o.op = Op.call { callee := Callee.builtin Builtin.copy, args := #[d, x], argTypes := #[dT, sT] })
    (v u : Value) (hd : a.eval d = v) (hx : a.eval x = u) {v' : Value} {w' : World} (hr : (Builtin.copy_ #[dT, sT] o.type #[v, u]).run P w = .ok v' w') (hK : K (a.put o.dst v') w') :
    if Region.wanted o (yielded ops a.tmps) = true then Oper.wp P o a w K Q else E := by
  have hw : Region.wanted o (yielded ops a.tmps) = true := by simp [Region.wanted, hg]
  rw [if_pos hw]
  unfold Oper.wp
  simp [execOp, hop, resolve, invoke, builtin, hd, hx, hr, Result.andThen]
  exact hK
theorem hchCell : chkSlice Tryz.prog 38 143 2 32 = true := by kernel_rfl
theorem src_own {w : World} {g : Nat} {arr : Array Value} {T : TypeId} (hg : w.heap[g]? = some (.cells arr T (0, 0))) (o n : Nat) : ∀ j u, ((arr.toList.drop o).take n)[j]? = some u → w.cell? ((⟨g, o, none⟩ : Addr).add j) = some u := by
  have hrow : CellsAt w ⟨g, 0, none⟩ arr.toList := CellsAt.row (by simpa using hg)
  have hp := hrow.part (off := o) (n := n) rfl
  rw [addr_row] at hp
  exact hp
section
variable {xs : List Cell} {c0 : Cell} {w : World} {F : List Nat} {g2 cap2 : Nat} {arr2 : Array Value} {T2 : TypeId}
set_option maxHeartbeats 4000000 in
set_option maxRecDepth 100000 in
theorem ins_end {v : Value} (hbig : xs.length ≤ 1073741824) (hv : SlO w v xs F) (hF : F.Nodup) (hg2 : w.heap[g2]? = some (.cells arr2 T2 (0, 0))) (hs2 : 2 ≤ arr2.size) (hel : FlE arr2.toList [c0]) (h1 : ∀ u ∈ Fw.cut 2 arr2.toList 0, u.oneCell' = true) :
    Calls Tryz.prog 263 #[v, .int .i64 xs.length, .slice (some ⟨g2, 0, none⟩) 1 cap2] w (InsQ (xs ++ [c0]) F w) := by
  have hl2 : (Fw.cut 2 arr2.toList 0).length = [c0].length * Dat.sz Cell := by
    unfold Fw.cut
    rw [List.length_take, List.length_drop, Array.length_toList]
    show min 2 _ = 2
    omega
  have hsrc : Src w (.slice (some ⟨g2, 0, none⟩) 1 cap2) 1 (Fw.cut 2 arr2.toList 0) := ⟨_, _, rfl, fun j u hj => ⟨_, rfl, src_own hg2 _ _ j u hj⟩⟩
  have hy : Elems w (Fw.cut 2 arr2.toList 0) [c0] [[]] := by
    refine ⟨rfl, fun i x hi => ?_⟩
    cases i with
    | succ i => simp at hi
    | zero =>
      cases hi
      refine ⟨[], rfl, ?_⟩
      have := hel 0 c0 rfl w
      rw [show Fw.cut (Dat.sz Cell) (Fw.cut 2 arr2.toList 0) 0 = Fw.cut 2 arr2.toList 0 by unfold Fw.cut; rw [Nat.zero_mul, Nat.zero_mul, List.drop_zero, List.drop_zero, List.take_take]; rfl]
      exact this
  obtain ⟨v', w', F', hrun, r1, r2, r3, r4, r5, r6, r7, r8⟩ := run_app (P := Tryz.prog) (ty := 38) hchCell rfl Tryz.zeroValue143 rfl hv hF hsrc hl2 h1 hy List.nodup_nil (fun b hb => by cases hb) (by simp only [List.length_cons, List.length_nil]; omega) (by simp only [List.length_cons, List.length_nil]; unfold maxLen; omega)
  have key : Calls Tryz.prog 263 #[v, .int .i64 xs.length, .slice (some ⟨g2, 0, none⟩) 1 cap2] w fun e w2 => e = .returned v' ∧ w2 = w' := by
    have mixed : Tryz.prog.follows .mixedOrders = true := by kernel_rfl
    have t35 := Tryz.underlying38; have a35 := Tryz.isAgg38; have z35 := Tryz.sizeOf38; have v35 := Tryz.zeroValue38; have u35 := run_underlying t35
    have t114 := Tryz.underlying143; have a114 := Tryz.isAgg143; have z114 := Tryz.sizeOf143; have v114 := Tryz.zeroValue143; have u114 := run_underlying t114
    have t3 := Tryz.underlying3; have a3 := Tryz.isAgg3; have z3 := Tryz.sizeOf3; have v3 := Tryz.zeroValue3; have u3 := run_underlying t3
    rcases hv.form with ⟨A, cap, rfl, hle⟩
    have hcap := (SlR_cap (hv.rd (B := fun _ => True) fun _ _ => trivial)).1
    go_enter Tryz.func263, Tryz.ntmps263
    go_wp2_with (at_builtin; refine Lib.wpList_append_run _ rfl _ _ _ _ rfl _ _ rfl rfl _ _ hrun ?_)
    all_goals (go_ret; exact ⟨rfl, rfl⟩)
  refine key.mono fun e w2 h => ?_
  obtain ⟨rfl, rfl⟩ := h
  refine ⟨v', F', rfl, r1, r2, r3, r4, r5, r6, r7, fun b hb => ?_⟩
  rcases r8 b hb with h | h | h
  · exact .inl h
  · cases h
  · exact .inr h
set_option maxHeartbeats 4000000 in
set_option maxRecDepth 100000 in
theorem ins_room {n k c g : Nat} {arr : Array Value} {T : TypeId} (hbig : n ≤ 1073741824) (hk : k < n) (hroom : n + 1 ≤ c) (hcm : c ≤ maxLen) (hg : w.heap[g]? = some (.cells arr T (0, 0))) (hsz : c * 2 ≤ arr.size) (h1 : ∀ u ∈ arr.toList.take (n * 2), u.oneCell' = true) (hg2 : w.heap[g2]? = some (.cells arr2 T2 (0, 0))) (hs2 : 2 ≤ arr2.size) (h12 : ∀ u ∈ Fw.cut 2 arr2.toList 0, u.oneCell' = true) (hne : g2 ≠ g) :
    Calls Tryz.prog 263 #[.slice (some ⟨g, 0, none⟩) n c, .int .i64 k, .slice (some ⟨g2, 0, none⟩) 1 cap2] w fun e w' => e = .returned (.slice (some ⟨g, 0, none⟩) (n + 1) c) ∧ ∃ arr', w'.heap[g]? = some (.cells arr' T (0, 0)) ∧ arr'.size = arr.size ∧ (∀ i, i < n + 1 → Fw.cut 2 arr'.toList i = if i < k then Fw.cut 2 arr.toList i else if i = k then Fw.cut 2 arr2.toList 0 else Fw.cut 2 arr.toList (i - 1)) ∧ w'.os = w.os ∧ w'.tape = w.tape ∧ w'.output = w.output ∧ w.heap.size ≤ w'.heap.size ∧ (∀ b, b ≠ g → w'.heap[b]? = w.heap[b]?) := by
  have mixed : Tryz.prog.follows .mixedOrders = true := by kernel_rfl
  have t35 := Tryz.underlying38; have a35 := Tryz.isAgg38; have z35 := Tryz.sizeOf38; have v35 := Tryz.zeroValue38; have u35 := run_underlying t35
  have t114 := Tryz.underlying143; have a114 := Tryz.isAgg143; have z114 := Tryz.sizeOf143; have v114 := Tryz.zeroValue143; have u114 := run_underlying t114
  have t3 := Tryz.underlying3; have a3 := Tryz.isAgg3; have z3 := Tryz.sizeOf3; have v3 := Tryz.zeroValue3; have u3 := run_underlying t3
  have hz2 : ¬ ((k : Int) = (n : Int)) := by omega
  have hz3 : ¬ ((c : Int) < (n : Int) + 1) := by omega
  have hw0 : IntKind.i64.wrap ((n : Int) + 1) = (n : Int) + 1 := by rw [IntKind.wrap_i64]; omega
  have hw1 : IntKind.i64.wrap ((k : Int) + 1) = (k : Int) + 1 := by rw [IntKind.wrap_i64]; omega
  have hb1 : (0 : Int) ≤ (k : Int) + 1 := by omega
  have htn : ((k : Int) + 1).toNat = k + 1 := by omega
  have htn2 : ((n : Int) + 1).toNat = n + 1 := by omega
  have hb2 : ¬ (c = k + 1) := by omega
  have hb4 : ¬ (c = k) := by omega
  have hb3 : (k : Int) ≤ (n : Int) + 1 := by omega
  have hkn : k ≤ n := by omega
  have hln : (n : Int) + 1 ≤ (c : Int) := by omega
  have hal : arr.toList.length = arr.size := Array.length_toList
  have ha2 : arr2.toList.length = arr2.size := Array.length_toList
  have hov : ∀ lb cb, (callFunc 300 #[.slice (some ⟨g2, 0, none⟩) 1 cap2, .slice (some ⟨g, (k + 1) * 2, none⟩) lb cb]).run Tryz.prog w = .ok (.value (.bool false)) w := fun lb cb => by
    rw [run_callFunc_extern Tryz.func300 (by kernel_rfl) (by kernel_rfl) (by kernel_rfl) (e := Extern.SlicesOverlaps.overlaps #[38, 38] #[4]) (by kernel_rfl),
      Lib.run_overlaps_apart w 38 4 143 t35 2 z114 ⟨g2, 0, none⟩ ⟨g, (k + 1) * 2, none⟩ 1 cap2 lb cb hne T2 T arr2.size arr.size (by simp [World.shape?, hg2]) (by simp [World.shape?, hg]) (by omega) (by simp [World.frozen?, hg2]) (by simp [World.frozen?, hg2])]
    rfl
  obtain ⟨mid, hmid⟩ : ∃ mid, mid = midC 2 k (n - k) arr.toList := ⟨_, rfl⟩
  have hml : mid.length = (n - k) * 2 := by rw [hmid]; exact midC_len (by omega)
  obtain ⟨arr1, harr1⟩ : ∃ arr1 : Array Value, arr1 = (arr.toList.take ((k + 1) * 2) ++ mid ++ arr.toList.drop ((k + 1) * 2 + (n - k) * 2)).toArray := ⟨_, rfl⟩
  have hz1 : arr1.size = arr.size := by
    rw [harr1]
    simp only [List.size_toArray, List.length_append, List.length_take, List.length_drop, hml]
    omega
  have hal1 : arr1.toList.length = arr1.size := Array.length_toList
  obtain ⟨ec, hec⟩ : ∃ ec, ec = Fw.cut 2 arr2.toList 0 := ⟨_, rfl⟩
  have hel : ec.length = 1 * 2 := by rw [hec]; unfold Fw.cut; rw [List.length_take, List.length_drop, ha2]; omega
  obtain ⟨arr3, harr3⟩ : ∃ arr3 : Array Value, arr3 = (arr1.toList.take (k * 2) ++ ec ++ arr1.toList.drop (k * 2 + 1 * 2)).toArray := ⟨_, rfl⟩
  have hz4 : arr3.size = arr.size := by
    rw [harr3]
    simp only [List.size_toArray, List.length_append, List.length_take, List.length_drop, hel]
    omega
  have hm1 : ∀ u ∈ mid, u.oneCell' = true := fun u hu => by rw [hmid] at hu; exact h1 u (midC_mem hkn hu)
  have hc1 : ∀ u ∈ ec, u.oneCell' = true := fun u hu => by rw [hec] at hu; exact h12 u hu
  have hcp1 : ∀ (W : World), W.heap = w.heap → ∀ ty dc sc, (Builtin.copy_ #[38, 38] ty #[.slice (some ⟨g, (k + 1) * 2, none⟩) (n - k) dc, .slice (some ⟨g, k * 2, none⟩) (n + 1 - k) sc]).run Tryz.prog W = .ok (goInt (n - k : Nat)) (W.setRow g arr1) := fun W hW ty dc sc => by
    have hgW : W.heap[g]? = some (.cells arr T (0, 0)) := by rw [hW]; exact hg
    rw [harr1]
    exact run_cpy hchCell (S := ⟨g, k * 2, none⟩) (m := n - k) (by simp only [Nat.min_def]; split <;> omega) hml (by rw [hmid]; exact src_own hgW _ _) hgW (by omega) hm1
  have hcp2 : ∀ (W : World), W.heap[g]? = some (.cells arr1 T (0, 0)) → W.heap[g2]? = some (.cells arr2 T2 (0, 0)) → ∀ ty dc, (Builtin.copy_ #[38, 38] ty #[.slice (some ⟨g, k * 2, none⟩) (n + 1 - k) dc, .slice (some ⟨g2, 0, none⟩) 1 cap2]).run Tryz.prog W = .ok (goInt (1 : Nat)) (W.setRow g arr3) := fun W hW1 hW2 ty dc => by
    rw [harr3]
    exact run_cpy hchCell (S := ⟨g2, 0, none⟩) (m := 1) (by simp only [Nat.min_def]; split <;> omega) hel (by rw [hec]; unfold Fw.cut; rw [Nat.zero_mul]; exact src_own hW2 _ _) hW1 (by omega) hc1
  have hrow1 : ∀ (W : World), W.heap = w.heap → (W.setRow g arr1).heap[g]? = some (.cells arr1 T (0, 0)) := fun W hW => setRow_heap W g arr arr1 T (0, 0) (by rw [hW]; exact hg)
  have hrow2 : ∀ (W : World), W.heap = w.heap → (W.setRow g arr1).heap[g2]? = some (.cells arr2 T2 (0, 0)) := fun W hW => (setRow_other W g g2 _ hne).trans (by rw [hW]; exact hg2)
  have hfin : ∀ i, i < n + 1 → Fw.cut 2 arr3.toList i = if i < k then Fw.cut 2 arr.toList i else if i = k then Fw.cut 2 arr2.toList 0 else Fw.cut 2 arr.toList (i - 1) := fun i hi => by
    rw [harr3, show (arr1.toList.take (k * 2) ++ ec ++ arr1.toList.drop (k * 2 + 1 * 2)).toArray.toList = _ from rfl, cut_mid hel (by omega)]
    by_cases h3 : i < k
    · rw [if_pos h3, if_pos h3, harr1, show (arr.toList.take ((k + 1) * 2) ++ mid ++ arr.toList.drop ((k + 1) * 2 + (n - k) * 2)).toArray.toList = _ from rfl, cut_mid hml (by omega), if_pos (by omega)]
    · rw [if_neg h3, if_neg h3]
      by_cases h4 : i = k
      · rw [if_pos (by omega), if_pos h4, h4, Nat.sub_self, hec]
        unfold Fw.cut
        rw [Nat.zero_mul, List.drop_zero, List.drop_zero, List.take_take, Nat.min_self]
      · rw [if_neg (by omega), if_neg h4, harr1, show (arr.toList.take ((k + 1) * 2) ++ mid ++ arr.toList.drop ((k + 1) * 2 + (n - k) * 2)).toArray.toList = _ from rfl, cut_mid hml (by omega), if_neg (by omega), if_pos (by omega), hmid, midC_cut (by omega), show k + (i - (k + 1)) = i - 1 by omega]
  clear harr1 harr3 hmid hec hml hel hal ha2 hal1 hm1 hc1
  go_enter Tryz.func263, Tryz.ntmps263
  go_wp2_with (simp only [hov])
  go_region_law_o (refine step_cpy rfl _ _ 38 38 rfl (.slice (some ⟨g, (k + 1) * 2, none⟩) (n - k) (c - (k + 1))) (.slice (some ⟨g, k * 2, none⟩) (n + 1 - k) (c - k)) (by simp [Act.eval, Act.put]) (by simp [Act.eval, Act.put]) (hcp1 w.drew rfl 3 (c - (k + 1)) (c - k)) ?_)
  go_wp2
  rw [hcp2 (w.drew.setRow g arr1) (hrow1 w.drew rfl) (hrow2 w.drew rfl) 3 (c - k)]
  simp only [Result.andThen]
  rw [Oper.upon_value]
  go_wp2
  go_ret
  exact ⟨rfl, arr3, setRow_heap _ g arr1 arr3 T (0, 0) (hrow1 w.drew rfl), hz4, hfin, rfl, rfl, rfl, by simp, fun b hb => (setRow_other _ g b _ hb).trans (setRow_other _ g b _ hb)⟩
set_option maxHeartbeats 4000000 in
set_option maxRecDepth 100000 in
theorem ins_grow {n k g : Nat} {arr : Array Value} {T : TypeId} (hbig : n ≤ 1073741824) (hk : k < n) (hg : w.heap[g]? = some (.cells arr T (0, 0))) (hsz : n * 2 ≤ arr.size) (h1 : ∀ u ∈ arr.toList.take (n * 2), u.oneCell' = true) (hg2 : w.heap[g2]? = some (.cells arr2 T2 (0, 0))) (hs2 : 2 ≤ arr2.size) (h12 : ∀ u ∈ Fw.cut 2 arr2.toList 0, u.oneCell' = true) :
    Calls Tryz.prog 263 #[.slice (some ⟨g, 0, none⟩) n n, .int .i64 k, .slice (some ⟨g2, 0, none⟩) 1 cap2] w fun e w' => ∃ G arr', e = .returned (.slice (some ⟨w.heap.size, 0, none⟩) (n + 1) G) ∧ n + 1 ≤ G ∧ G ≤ maxLen ∧ w'.heap[w.heap.size]? = some (.cells arr' 143 (0, 0)) ∧ arr'.size = G * 2 ∧ (∀ i, i < n + 1 → Fw.cut 2 arr'.toList i = if i < k then Fw.cut 2 arr.toList i else if i = k then Fw.cut 2 arr2.toList 0 else Fw.cut 2 arr.toList (i - 1)) ∧ w'.os = w.os ∧ w'.tape = w.tape ∧ w'.output = w.output ∧ w.heap.size ≤ w'.heap.size ∧ (∀ b, b < w.heap.size → w'.heap[b]? = w.heap[b]?) := by
  have mixed : Tryz.prog.follows .mixedOrders = true := by kernel_rfl
  have t35 := Tryz.underlying38; have a35 := Tryz.isAgg38; have z35 := Tryz.sizeOf38; have v35 := Tryz.zeroValue38; have u35 := run_underlying t35
  have t114 := Tryz.underlying143; have a114 := Tryz.isAgg143; have z114 := Tryz.sizeOf143; have v114 := Tryz.zeroValue143; have u114 := run_underlying t114
  have t3 := Tryz.underlying3; have a3 := Tryz.isAgg3; have z3 := Tryz.sizeOf3; have v3 := Tryz.zeroValue3; have u3 := run_underlying t3
  have hkn : k ≤ n := by omega
  obtain ⟨hu, i0, hi0, his, hib⟩ := chkSlice_spec hchCell
  have hz0 : i0.zero = some (.agg #[.string ⟨#[]⟩, .string ⟨#[]⟩]) := by
    have := v114 w
    simp only [zeroValue, Sem.run_bind, typeInfo, run_program, hi0, Sem.run_pure, Result.andThen_ok] at this
    cases hzz : i0.zero with
    | none => rw [hzz] at this; simp at this
    | some z' => rw [hzz] at this; simp at this; rw [this]
  have hal : arr.toList.length = arr.size := Array.length_toList
  have ha2 : arr2.toList.length = arr2.size := Array.length_toList
  have hgw : g < w.heap.size := (Array.getElem?_eq_some_iff.1 hg).1
  have hgw2 : g2 < w.heap.size := (Array.getElem?_eq_some_iff.1 hg2).1
  obtain ⟨G, hG⟩ : ∃ G, G = grownCap w (n + 1) n 143 := ⟨_, rfl⟩
  have hGn : n + 1 ≤ G := by rw [hG]; exact grownCap_ge w _ _ _
  have hGm : G ≤ maxLen := by rw [hG]; exact grownCap_le_maxLen w _ _ _ (by unfold maxLen; omega)
  obtain ⟨olds, holds⟩ : ∃ olds, olds = (arr.toList.drop (0 * 2)).take (k * 2) := ⟨_, rfl⟩
  have hol : olds.length = k * 2 := by rw [holds, List.length_take, List.length_drop]; omega
  obtain ⟨ROW, hROW⟩ : ∃ ROW : Array Value, ROW = olds.toArray ++ Builtin.zeroCells ((.agg #[.string ⟨#[]⟩, .string ⟨#[]⟩]) : Value).cells (n + 1 - k) ++ Builtin.zeroCells ((.agg #[.string ⟨#[]⟩, .string ⟨#[]⟩]) : Value).cells (G - (n + 1)) := ⟨_, rfl⟩
  have hzc : ((.agg #[.string ⟨#[]⟩, .string ⟨#[]⟩]) : Value).cells.size = 2 := rfl
  have hRs : ROW.size = G * 2 := by
    rw [hROW]
    simp only [Array.size_append, List.size_toArray, size_zeroCells, hzc, hol]
    omega
  have hRl : ROW.toList.length = ROW.size := Array.length_toList
  have hRc : ∀ i, i < k → Fw.cut 2 ROW.toList i = Fw.cut 2 arr.toList i := fun i hi => by
    rw [hROW, Array.toList_append, Array.toList_append, List.append_assoc, cut_append_left (n := k) hol hi, holds, Nat.zero_mul, List.drop_zero, cut_take hi]
  have hold : (Builtin.firstCells i0.size k (.slice (some ⟨g, 0, none⟩) k n)).run Tryz.prog w.drew = .ok olds.toArray w.drew := by
    rw [his]
    exact run_firstCells_some w.drew 2 k ⟨g, 0, none⟩ k n olds hol (by rw [holds, Nat.zero_mul]; exact src_own (w := w.drew) hg _ _)
  have hik : k + (n + 1 - k) = n + 1 := by omega
  have hkk : (n : Int) + 1 - (k : Int) = ((n + 1 - k : Nat) : Int) := by omega
  have hrz : ∀ ty, (Builtin.append_ #[38, 3] ty #[.slice (some ⟨g, 0, none⟩) k n, .int .i64 ((n : Int) + 1 - (k : Int))]).run Tryz.prog w = .ok (.slice (some ⟨w.heap.size, 0, none⟩) (n + 1) G) (w.drew.alloc (.cells ROW 143)) := fun ty => by
    have h := Lib.run_append_grow_zeros w 38 3 ty 143 i0 (.agg #[.string ⟨#[]⟩, .string ⟨#[]⟩]) .i64 .i64 t35 t3 hi0 hz0 (some ⟨g, 0, none⟩) k n olds hold (n + 1 - k) (by omega) (by omega) (by omega) (by omega) (by rw [hib]; omega) (by rw [hib, hik]; exact growslice_fits (by omega) (by omega))
    rw [hik, ← hG, ← hROW] at h
    rw [hkk]
    exact h
  obtain ⟨mid, hmid⟩ : ∃ mid, mid = midC 2 k (n - k) arr.toList := ⟨_, rfl⟩
  have hml : mid.length = (n - k) * 2 := by rw [hmid]; exact midC_len (by omega)
  obtain ⟨ec, hec⟩ : ∃ ec, ec = Fw.cut 2 arr2.toList 0 := ⟨_, rfl⟩
  have hel : ec.length = 1 * 2 := by rw [hec]; unfold Fw.cut; rw [List.length_take, List.length_drop, ha2]; omega
  obtain ⟨arr1, harr1⟩ : ∃ arr1 : Array Value, arr1 = (ROW.toList.take (k * 2) ++ ec ++ ROW.toList.drop (k * 2 + 1 * 2)).toArray := ⟨_, rfl⟩
  have hz1 : arr1.size = ROW.size := by
    rw [harr1]
    simp only [List.size_toArray, List.length_append, List.length_take, List.length_drop, hel]
    omega
  have hal1 : arr1.toList.length = arr1.size := Array.length_toList
  obtain ⟨arr3, harr3⟩ : ∃ arr3 : Array Value, arr3 = (arr1.toList.take ((k + 1) * 2) ++ mid ++ arr1.toList.drop ((k + 1) * 2 + (n - k) * 2)).toArray := ⟨_, rfl⟩
  have hz4 : arr3.size = G * 2 := by
    rw [harr3]
    simp only [List.size_toArray, List.length_append, List.length_take, List.length_drop, hml]
    omega
  have hm1 : ∀ u ∈ mid, u.oneCell' = true := fun u hu => by rw [hmid] at hu; exact h1 u (midC_mem hkn hu)
  have hc1 : ∀ u ∈ ec, u.oneCell' = true := fun u hu => by rw [hec] at hu; exact h12 u hu
  have hcp1 : ∀ (W : World), W.heap[w.heap.size]? = some (.cells ROW 143 (0, 0)) → W.heap[g2]? = some (.cells arr2 T2 (0, 0)) → ∀ ty dc, (Builtin.copy_ #[38, 38] ty #[.slice (some ⟨w.heap.size, k * 2, none⟩) (n + 1 - k) dc, .slice (some ⟨g2, 0, none⟩) 1 cap2]).run Tryz.prog W = .ok (goInt (1 : Nat)) (W.setRow w.heap.size arr1) := fun W hW1 hW2 ty dc => by
    rw [harr1]
    exact run_cpy hchCell (S := ⟨g2, 0, none⟩) (m := 1) (by simp only [Nat.min_def]; split <;> omega) hel (by rw [hec]; unfold Fw.cut; rw [Nat.zero_mul]; exact src_own hW2 _ _) hW1 (by omega) hc1
  have hcp2 : ∀ (W : World), W.heap[w.heap.size]? = some (.cells arr1 143 (0, 0)) → W.heap[g]? = some (.cells arr T (0, 0)) → ∀ ty dc sc, (Builtin.copy_ #[38, 38] ty #[.slice (some ⟨w.heap.size, (k + 1) * 2, none⟩) (n - k) dc, .slice (some ⟨g, k * 2, none⟩) (n - k) sc]).run Tryz.prog W = .ok (goInt (n - k : Nat)) (W.setRow w.heap.size arr3) := fun W hW1 hW2 ty dc sc => by
    rw [harr3]
    exact run_cpy hchCell (S := ⟨g, k * 2, none⟩) (m := n - k) (Nat.min_self _) hml (by rw [hmid]; exact src_own hW2 _ _) hW1 (by omega) hm1
  have hfin : ∀ i, i < n + 1 → Fw.cut 2 arr3.toList i = if i < k then Fw.cut 2 arr.toList i else if i = k then Fw.cut 2 arr2.toList 0 else Fw.cut 2 arr.toList (i - 1) := fun i hi => by
    rw [harr3, show (arr1.toList.take ((k + 1) * 2) ++ mid ++ arr1.toList.drop ((k + 1) * 2 + (n - k) * 2)).toArray.toList = _ from rfl, cut_mid hml (by omega)]
    by_cases h3 : i < k + 1
    · rw [if_pos h3, harr1, show (ROW.toList.take (k * 2) ++ ec ++ ROW.toList.drop (k * 2 + 1 * 2)).toArray.toList = _ from rfl, cut_mid hel (by omega)]
      by_cases h4 : i < k
      · rw [if_pos h4, if_pos h4, hRc i h4]
      · rw [if_neg h4, if_neg h4, if_pos (by omega), if_pos (by omega), show i - k = 0 by omega, hec]
        unfold Fw.cut
        rw [Nat.zero_mul, List.drop_zero, List.drop_zero, List.take_take, Nat.min_self]
    · rw [if_neg h3, if_pos (by omega), if_neg (by omega), if_neg (by omega), hmid, midC_cut (by omega), show k + (i - (k + 1)) = i - 1 by omega]
  have hn1 : ∀ (W : World), W.heap = (w.drew.alloc (.cells ROW 143)).heap → W.heap[w.heap.size]? = some (.cells ROW 143 (0, 0)) := fun W hW => by rw [hW]; exact heap_alloc_new w.drew _
  have ho1 : ∀ (W : World), W.heap = (w.drew.alloc (.cells ROW 143)).heap → ∀ b, b < w.heap.size → W.heap[b]? = w.heap[b]? := fun W hW b hb => by rw [hW]; exact heap_alloc_old w.drew _ hb
  have hn2 : ∀ (W : World), W.heap = ((w.drew.alloc (.cells ROW 143)).setRow w.heap.size arr1).heap → W.heap[w.heap.size]? = some (.cells arr1 143 (0, 0)) := fun W hW => by rw [hW]; exact setRow_heap _ _ ROW arr1 _ (0, 0) (heap_alloc_new w.drew _)
  have ho2 : ∀ (W : World), W.heap = ((w.drew.alloc (.cells ROW 143)).setRow w.heap.size arr1).heap → ∀ b, b < w.heap.size → W.heap[b]? = w.heap[b]? := fun W hW b hb => by rw [hW, setRow_other _ _ b _ (by omega)]; exact heap_alloc_old w.drew _ hb
  clear harr1 harr3 hmid hec hml hel hal ha2 hal1 hm1 hc1 hROW hRs hRl hRc hold holds hol hG hkk hik
  have hz2 : ¬ ((k : Int) = (n : Int)) := by omega
  have hz3 : (n : Int) < (n : Int) + 1 := by omega
  have hw0 : IntKind.i64.wrap ((n : Int) + 1) = (n : Int) + 1 := by rw [IntKind.wrap_i64]; omega
  have hw1 : IntKind.i64.wrap ((k : Int) + 1) = (k : Int) + 1 := by rw [IntKind.wrap_i64]; omega
  have hw2 : IntKind.i64.wrap ((n : Int) + 1 - (k : Int)) = (n : Int) + 1 - (k : Int) := by rw [IntKind.wrap_i64]; omega
  have hb1 : (0 : Int) ≤ (k : Int) + 1 := by omega
  have htn : ((k : Int) + 1).toNat = k + 1 := by omega
  have hb2 : ¬ (G = k + 1) := by omega
  have hb3 : (k : Int) ≤ (n : Int) + 1 := by omega
  have hb4 : ¬ (G = k) := by omega
  have hb5 : ¬ (n = k) := by omega
  go_enter Tryz.func263, Tryz.ntmps263
  go_wp2_with (at_builtin; refine Lib.wpList_append_run _ rfl _ _ _ _ rfl _ _ rfl rfl _ _ (hrz _) ?_)
  rw [hcp1 (w.alloc (.cells ROW 143)).drew (hn1 _ rfl) ((ho1 _ rfl g2 hgw2).trans hg2) 3 (G - k)]
  simp only [Result.andThen]
  rw [Oper.upon_value]
  go_wp2
  go_region_law_o (refine step_cpy rfl _ _ 38 38 rfl (.slice (some ⟨w.heap.size, (k + 1) * 2, none⟩) (n - k) (G - (k + 1))) (.slice (some ⟨g, k * 2, none⟩) (n - k) (n - k)) (by simp [Act.eval, Act.put]) (by simp [Act.eval, Act.put]) (hcp2 ((w.alloc (.cells ROW 143)).drew.setRow w.heap.size arr1).drew (hn2 _ rfl) ((ho2 _ rfl g hgw).trans hg) 3 (G - (k + 1)) (n - k)) ?_)
  go_wp2
  go_ret
  refine ⟨G, arr3, rfl, hGn, hGm, setRow_heap _ _ arr1 arr3 _ (0, 0) (hn2 _ rfl), hz4, hfin, rfl, rfl, rfl, ?_, fun b hb => (setRow_other _ _ b _ (by omega)).trans (ho2 _ rfl b hb)⟩
  simp
theorem ins_all (k : Nat) (hk : k ≤ xs.length) (hbig : xs.length ≤ 1073741824) {v v2 : Value} {F2 : List Nat} (hv : SlO w v xs F) (hF : F.Nodup) (hv2 : SlO w v2 [c0] F2) (hdj : ∀ b ∈ F2, b ∉ F) :
    Calls Tryz.prog 263 #[v, .int .i64 k, v2] w (InsQ (insL xs k c0) F w) := by
  have hfl : flats (Str.fk (α := Cell)) = true := rfl
  rcases hv2.fl inferInstance hfl with ⟨_, e2⟩ | ⟨g2, cap2, arr2, T2, e1, e2, e3, e4, e5, e6, e7⟩
  · cases e2
  subst e1
  have hs2 : 2 ≤ arr2.size := by
    have : 1 ≤ cap2 := e3
    have := Nat.mul_le_mul_right (Dat.sz Cell) this
    exact Nat.le_trans this e5
  have h12 : ∀ u ∈ Fw.cut 2 arr2.toList 0, u.oneCell' = true := fun u hu => e7.one w u (by unfold Fw.cut at hu; rwa [Nat.zero_mul, List.drop_zero] at hu)
  by_cases hkn : k = xs.length
  · subst hkn
    have h := ins_end hbig hv hF e2 hs2 e7 h12 (cap2 := cap2)
    unfold insL
    rw [List.take_length, List.drop_length]
    exact h
  have hk' : k < xs.length := by omega
  have hc0 : ∀ w, Dat.own w (Fw.cut 2 arr2.toList 0) c0 [] := fun w => e7 0 c0 rfl w
  rcases hv.fl inferInstance hfl with ⟨_, q2⟩ | ⟨g, cap, arr, T, q1, q2, q3, q4, q5, q6, q7⟩
  · rw [q2] at hk'; simp at hk'
  subst q1
  have hlt := hv.lt
  have h1 := q7.one w
  have hne : g2 ≠ g := fun e => hdj g2 e6 (by rw [e]; exact q6)
  by_cases hroom : xs.length + 1 ≤ cap
  · refine (ins_room hbig hk' hroom q4 q2 q5 h1 e2 hs2 h12 hne (cap2 := cap2)).mono fun e w' hq => ?_
    obtain ⟨rfl, arr', r1, r2, r3, r4, r5, r6, r7, r8⟩ := hq
    refine ⟨_, [g], rfl, (q7.ins hk hc0 r3).slo r1 (insL_length hk).symm hroom q4 (by rw [r2]; exact q5), by simp, r4, r5, r6, r7, fun b _ hb => r8 b fun e => hb (by rw [e]; exact q6), fun b hb => .inl (by rw [List.mem_singleton.1 hb]; exact q6)⟩
  · obtain rfl : cap = xs.length := by omega
    refine (ins_grow hbig hk' q2 q5 h1 e2 hs2 h12 (cap2 := cap2)).mono fun e w' hq => ?_
    obtain ⟨G, arr', rfl, r0, r0', r1, r2, r3, r4, r5, r6, r7, r8⟩ := hq
    exact ⟨_, [w.heap.size], rfl, (q7.ins hk hc0 r3).slo r1 (insL_length hk).symm r0 r0' (by rw [r2]; exact Nat.le_refl _), by simp, r4, r5, r6, r7, fun b hb _ => r8 b hb, fun b hb => .inr (by rw [List.mem_singleton.1 hb]; exact Nat.le_refl _)⟩
end
end Go.Proofs.YtifffdepmdnciaaGreatDoor.Fw

namespace Go.Proofs.YtifffdepmdnciaaGreatDoor.Fw
open Go.RowKit Go.Shelf
set_option linter.unusedVariables false
theorem hchstring : chkSlice Tryz.prog 27 9 1 16 = true := by kernel_rfl
theorem src_owns {w : World} {g : Nat} {arr : Array Value} {T : TypeId} (hg : w.heap[g]? = some (.cells arr T (0, 0))) (o n : Nat) : ∀ j u, ((arr.toList.drop o).take n)[j]? = some u → w.cell? ((⟨g, o, none⟩ : Addr).add j) = some u := by
  have hrow : CellsAt w ⟨g, 0, none⟩ arr.toList := CellsAt.row (by simpa using hg)
  have hp := hrow.part (off := o) (n := n) rfl
  rw [addr_row] at hp
  exact hp
section
variable {xs : List ByteArray} {c0 : ByteArray} {w : World} {F : List Nat} {g2 cap2 : Nat} {arr2 : Array Value} {T2 : TypeId}
set_option maxHeartbeats 4000000 in
set_option maxRecDepth 100000 in
theorem ins_ends {v : Value} (hbig : xs.length ≤ 1073741824) (hv : SlO w v xs F) (hF : F.Nodup) (hg2 : w.heap[g2]? = some (.cells arr2 T2 (0, 0))) (hs2 : 1 ≤ arr2.size) (hel : FlE arr2.toList [c0]) (h1 : ∀ u ∈ Fw.cut 1 arr2.toList 0, u.oneCell' = true) :
    Calls Tryz.prog 289 #[v, .int .i64 xs.length, .slice (some ⟨g2, 0, none⟩) 1 cap2] w (InsQ (xs ++ [c0]) F w) := by
  have hl2 : (Fw.cut 1 arr2.toList 0).length = [c0].length * Dat.sz ByteArray := by
    unfold Fw.cut
    rw [List.length_take, List.length_drop, Array.length_toList]
    show min 1 _ = 1
    omega
  have hsrc : Src w (.slice (some ⟨g2, 0, none⟩) 1 cap2) 1 (Fw.cut 1 arr2.toList 0) := ⟨_, _, rfl, fun j u hj => ⟨_, rfl, src_owns hg2 _ _ j u hj⟩⟩
  have hy : Elems w (Fw.cut 1 arr2.toList 0) [c0] [[]] := by
    refine ⟨rfl, fun i x hi => ?_⟩
    cases i with
    | succ i => simp at hi
    | zero =>
      cases hi
      refine ⟨[], rfl, ?_⟩
      have := hel 0 c0 rfl w
      rw [show Fw.cut (Dat.sz ByteArray) (Fw.cut 1 arr2.toList 0) 0 = Fw.cut 1 arr2.toList 0 by unfold Fw.cut; rw [Nat.zero_mul, Nat.zero_mul, List.drop_zero, List.drop_zero, List.take_take]; rfl]
      exact this
  obtain ⟨v', w', F', hrun, r1, r2, r3, r4, r5, r6, r7, r8⟩ := run_app (P := Tryz.prog) (ty := 27) hchstring rfl Tryz.zeroValue9 rfl hv hF hsrc hl2 h1 hy List.nodup_nil (fun b hb => by cases hb) (by simp only [List.length_cons, List.length_nil]; omega) (by simp only [List.length_cons, List.length_nil]; unfold maxLen; omega)
  have key : Calls Tryz.prog 289 #[v, .int .i64 xs.length, .slice (some ⟨g2, 0, none⟩) 1 cap2] w fun e w2 => e = .returned v' ∧ w2 = w' := by
    have mixed : Tryz.prog.follows .mixedOrders = true := by kernel_rfl
    have t35 := Tryz.underlying27; have a35 := Tryz.isAgg27; have z35 := Tryz.sizeOf27; have v35 := Tryz.zeroValue27; have u35 := run_underlying t35
    have t114 := Tryz.underlying9; have a114 := Tryz.isAgg9; have z114 := Tryz.sizeOf9; have v114 := Tryz.zeroValue9; have u114 := run_underlying t114
    have t3 := Tryz.underlying3; have a3 := Tryz.isAgg3; have z3 := Tryz.sizeOf3; have v3 := Tryz.zeroValue3; have u3 := run_underlying t3
    rcases hv.form with ⟨A, cap, rfl, hle⟩
    have hcap := (SlR_cap (hv.rd (B := fun _ => True) fun _ _ => trivial)).1
    go_enter Tryz.func289, Tryz.ntmps289
    go_wp2_with (at_builtin; refine Lib.wpList_append_run _ rfl _ _ _ _ rfl _ _ rfl rfl _ _ hrun ?_)
    all_goals (go_ret; exact ⟨rfl, rfl⟩)
  refine key.mono fun e w2 h => ?_
  obtain ⟨rfl, rfl⟩ := h
  refine ⟨v', F', rfl, r1, r2, r3, r4, r5, r6, r7, fun b hb => ?_⟩
  rcases r8 b hb with h | h | h
  · exact .inl h
  · cases h
  · exact .inr h
set_option maxHeartbeats 4000000 in
set_option maxRecDepth 100000 in
theorem ins_rooms {n k c g : Nat} {arr : Array Value} {T : TypeId} (hbig : n ≤ 1073741824) (hk : k < n) (hroom : n + 1 ≤ c) (hcm : c ≤ maxLen) (hg : w.heap[g]? = some (.cells arr T (0, 0))) (hsz : c * 1 ≤ arr.size) (h1 : ∀ u ∈ arr.toList.take (n * 1), u.oneCell' = true) (hg2 : w.heap[g2]? = some (.cells arr2 T2 (0, 0))) (hs2 : 1 ≤ arr2.size) (h12 : ∀ u ∈ Fw.cut 1 arr2.toList 0, u.oneCell' = true) (hne : g2 ≠ g) :
    Calls Tryz.prog 289 #[.slice (some ⟨g, 0, none⟩) n c, .int .i64 k, .slice (some ⟨g2, 0, none⟩) 1 cap2] w fun e w' => e = .returned (.slice (some ⟨g, 0, none⟩) (n + 1) c) ∧ ∃ arr', w'.heap[g]? = some (.cells arr' T (0, 0)) ∧ arr'.size = arr.size ∧ (∀ i, i < n + 1 → Fw.cut 1 arr'.toList i = if i < k then Fw.cut 1 arr.toList i else if i = k then Fw.cut 1 arr2.toList 0 else Fw.cut 1 arr.toList (i - 1)) ∧ w'.os = w.os ∧ w'.tape = w.tape ∧ w'.output = w.output ∧ w.heap.size ≤ w'.heap.size ∧ (∀ b, b ≠ g → w'.heap[b]? = w.heap[b]?) := by
  have mixed : Tryz.prog.follows .mixedOrders = true := by kernel_rfl
  have t35 := Tryz.underlying27; have a35 := Tryz.isAgg27; have z35 := Tryz.sizeOf27; have v35 := Tryz.zeroValue27; have u35 := run_underlying t35
  have t114 := Tryz.underlying9; have a114 := Tryz.isAgg9; have z114 := Tryz.sizeOf9; have v114 := Tryz.zeroValue9; have u114 := run_underlying t114
  have t3 := Tryz.underlying3; have a3 := Tryz.isAgg3; have z3 := Tryz.sizeOf3; have v3 := Tryz.zeroValue3; have u3 := run_underlying t3
  have hz2 : ¬ ((k : Int) = (n : Int)) := by omega
  have hz3 : ¬ ((c : Int) < (n : Int) + 1) := by omega
  have hw0 : IntKind.i64.wrap ((n : Int) + 1) = (n : Int) + 1 := by rw [IntKind.wrap_i64]; omega
  have hw1 : IntKind.i64.wrap ((k : Int) + 1) = (k : Int) + 1 := by rw [IntKind.wrap_i64]; omega
  have hb1 : (0 : Int) ≤ (k : Int) + 1 := by omega
  have htn : ((k : Int) + 1).toNat = k + 1 := by omega
  have htn2 : ((n : Int) + 1).toNat = n + 1 := by omega
  have hb2 : ¬ (c = k + 1) := by omega
  have hb4 : ¬ (c = k) := by omega
  have hb3 : (k : Int) ≤ (n : Int) + 1 := by omega
  have hkn : k ≤ n := by omega
  have hln : (n : Int) + 1 ≤ (c : Int) := by omega
  have hal : arr.toList.length = arr.size := Array.length_toList
  have ha2 : arr2.toList.length = arr2.size := Array.length_toList
  have hov : ∀ lb cb, (callFunc 311 #[.slice (some ⟨g2, 0, none⟩) 1 cap2, .slice (some ⟨g, (k + 1) * 1, none⟩) lb cb]).run Tryz.prog w = .ok (.value (.bool false)) w := fun lb cb => by
    rw [run_callFunc_extern Tryz.func311 (by kernel_rfl) (by kernel_rfl) (by kernel_rfl) (e := Extern.SlicesOverlaps.overlaps #[27, 27] #[4]) (by kernel_rfl),
      Lib.run_overlaps_apart w 27 4 9 t35 1 z114 ⟨g2, 0, none⟩ ⟨g, (k + 1) * 1, none⟩ 1 cap2 lb cb hne T2 T arr2.size arr.size (by simp [World.shape?, hg2]) (by simp [World.shape?, hg]) (by omega) (by simp [World.frozen?, hg2]) (by simp [World.frozen?, hg2])]
    rfl
  obtain ⟨mid, hmid⟩ : ∃ mid, mid = midC 1 k (n - k) arr.toList := ⟨_, rfl⟩
  have hml : mid.length = (n - k) * 1 := by rw [hmid]; exact midC_len (by omega)
  obtain ⟨arr1, harr1⟩ : ∃ arr1 : Array Value, arr1 = (arr.toList.take ((k + 1) * 1) ++ mid ++ arr.toList.drop ((k + 1) * 1 + (n - k) * 1)).toArray := ⟨_, rfl⟩
  have hz1 : arr1.size = arr.size := by
    rw [harr1]
    simp only [List.size_toArray, List.length_append, List.length_take, List.length_drop, hml]
    omega
  have hal1 : arr1.toList.length = arr1.size := Array.length_toList
  obtain ⟨ec, hec⟩ : ∃ ec, ec = Fw.cut 1 arr2.toList 0 := ⟨_, rfl⟩
  have hel : ec.length = 1 * 1 := by rw [hec]; unfold Fw.cut; rw [List.length_take, List.length_drop, ha2]; omega
  obtain ⟨arr3, harr3⟩ : ∃ arr3 : Array Value, arr3 = (arr1.toList.take (k * 1) ++ ec ++ arr1.toList.drop (k * 1 + 1 * 1)).toArray := ⟨_, rfl⟩
  have hz4 : arr3.size = arr.size := by
    rw [harr3]
    simp only [List.size_toArray, List.length_append, List.length_take, List.length_drop, hel]
    omega
  have hm1 : ∀ u ∈ mid, u.oneCell' = true := fun u hu => by rw [hmid] at hu; exact h1 u (midC_mem hkn hu)
  have hc1 : ∀ u ∈ ec, u.oneCell' = true := fun u hu => by rw [hec] at hu; exact h12 u hu
  have hcp1 : ∀ (W : World), W.heap = w.heap → ∀ ty dc sc, (Builtin.copy_ #[27, 27] ty #[.slice (some ⟨g, (k + 1) * 1, none⟩) (n - k) dc, .slice (some ⟨g, k * 1, none⟩) (n + 1 - k) sc]).run Tryz.prog W = .ok (goInt (n - k : Nat)) (W.setRow g arr1) := fun W hW ty dc sc => by
    have hgW : W.heap[g]? = some (.cells arr T (0, 0)) := by rw [hW]; exact hg
    rw [harr1]
    exact run_cpy hchstring (S := ⟨g, k * 1, none⟩) (m := n - k) (by simp only [Nat.min_def]; split <;> omega) hml (by rw [hmid]; exact src_owns hgW _ _) hgW (by omega) hm1
  have hcp2 : ∀ (W : World), W.heap[g]? = some (.cells arr1 T (0, 0)) → W.heap[g2]? = some (.cells arr2 T2 (0, 0)) → ∀ ty dc, (Builtin.copy_ #[27, 27] ty #[.slice (some ⟨g, k * 1, none⟩) (n + 1 - k) dc, .slice (some ⟨g2, 0, none⟩) 1 cap2]).run Tryz.prog W = .ok (goInt (1 : Nat)) (W.setRow g arr3) := fun W hW1 hW2 ty dc => by
    rw [harr3]
    exact run_cpy hchstring (S := ⟨g2, 0, none⟩) (m := 1) (by simp only [Nat.min_def]; split <;> omega) hel (by rw [hec]; unfold Fw.cut; rw [Nat.zero_mul]; exact src_own hW2 _ _) hW1 (by omega) hc1
  have hrow1 : ∀ (W : World), W.heap = w.heap → (W.setRow g arr1).heap[g]? = some (.cells arr1 T (0, 0)) := fun W hW => setRow_heap W g arr arr1 T (0, 0) (by rw [hW]; exact hg)
  have hrow2 : ∀ (W : World), W.heap = w.heap → (W.setRow g arr1).heap[g2]? = some (.cells arr2 T2 (0, 0)) := fun W hW => (setRow_other W g g2 _ hne).trans (by rw [hW]; exact hg2)
  have hfin : ∀ i, i < n + 1 → Fw.cut 1 arr3.toList i = if i < k then Fw.cut 1 arr.toList i else if i = k then Fw.cut 1 arr2.toList 0 else Fw.cut 1 arr.toList (i - 1) := fun i hi => by
    rw [harr3, show (arr1.toList.take (k * 1) ++ ec ++ arr1.toList.drop (k * 1 + 1 * 1)).toArray.toList = _ from rfl, cut_mid hel (by omega)]
    by_cases h3 : i < k
    · rw [if_pos h3, if_pos h3, harr1, show (arr.toList.take ((k + 1) * 1) ++ mid ++ arr.toList.drop ((k + 1) * 1 + (n - k) * 1)).toArray.toList = _ from rfl, cut_mid hml (by omega), if_pos (by omega)]
    · rw [if_neg h3, if_neg h3]
      by_cases h4 : i = k
      · rw [if_pos (by omega), if_pos h4, h4, Nat.sub_self, hec]
        unfold Fw.cut
        rw [Nat.zero_mul, List.drop_zero, List.drop_zero, List.take_take, Nat.min_self]
      · rw [if_neg (by omega), if_neg h4, harr1, show (arr.toList.take ((k + 1) * 1) ++ mid ++ arr.toList.drop ((k + 1) * 1 + (n - k) * 1)).toArray.toList = _ from rfl, cut_mid hml (by omega), if_neg (by omega), if_pos (by omega), hmid, midC_cut (by omega), show k + (i - (k + 1)) = i - 1 by omega]
  clear harr1 harr3 hmid hec hml hel hal ha2 hal1 hm1 hc1
  simp only [Nat.mul_one] at hov hcp1 hcp2
  go_enter Tryz.func289, Tryz.ntmps289
  go_wp2_with (simp only [hov])
  go_region_law_o (refine step_cpy rfl _ _ 27 27 rfl (.slice (some ⟨g, k + 1, none⟩) (n - k) (c - (k + 1))) (.slice (some ⟨g, k, none⟩) (n + 1 - k) (c - k)) (by simp [Act.eval, Act.put]) (by simp [Act.eval, Act.put]) (hcp1 w.drew rfl 3 (c - (k + 1)) (c - k)) ?_)
  go_wp2
  rw [hcp2 (w.drew.setRow g arr1) (hrow1 w.drew rfl) (hrow2 w.drew rfl) 3 (c - k)]
  simp only [Result.andThen]
  rw [Oper.upon_value]
  go_wp2
  go_ret
  exact ⟨rfl, arr3, setRow_heap _ g arr1 arr3 T (0, 0) (hrow1 w.drew rfl), hz4, hfin, rfl, rfl, rfl, by simp, fun b hb => (setRow_other _ g b _ hb).trans (setRow_other _ g b _ hb)⟩
set_option maxHeartbeats 4000000 in
set_option maxRecDepth 100000 in
theorem ins_grows {n k g : Nat} {arr : Array Value} {T : TypeId} (hbig : n ≤ 1073741824) (hk : k < n) (hg : w.heap[g]? = some (.cells arr T (0, 0))) (hsz : n * 1 ≤ arr.size) (h1 : ∀ u ∈ arr.toList.take (n * 1), u.oneCell' = true) (hg2 : w.heap[g2]? = some (.cells arr2 T2 (0, 0))) (hs2 : 1 ≤ arr2.size) (h12 : ∀ u ∈ Fw.cut 1 arr2.toList 0, u.oneCell' = true) :
    Calls Tryz.prog 289 #[.slice (some ⟨g, 0, none⟩) n n, .int .i64 k, .slice (some ⟨g2, 0, none⟩) 1 cap2] w fun e w' => ∃ G arr', e = .returned (.slice (some ⟨w.heap.size, 0, none⟩) (n + 1) G) ∧ n + 1 ≤ G ∧ G ≤ maxLen ∧ w'.heap[w.heap.size]? = some (.cells arr' 9 (0, 0)) ∧ arr'.size = G * 1 ∧ (∀ i, i < n + 1 → Fw.cut 1 arr'.toList i = if i < k then Fw.cut 1 arr.toList i else if i = k then Fw.cut 1 arr2.toList 0 else Fw.cut 1 arr.toList (i - 1)) ∧ w'.os = w.os ∧ w'.tape = w.tape ∧ w'.output = w.output ∧ w.heap.size ≤ w'.heap.size ∧ (∀ b, b < w.heap.size → w'.heap[b]? = w.heap[b]?) := by
  have mixed : Tryz.prog.follows .mixedOrders = true := by kernel_rfl
  have t35 := Tryz.underlying27; have a35 := Tryz.isAgg27; have z35 := Tryz.sizeOf27; have v35 := Tryz.zeroValue27; have u35 := run_underlying t35
  have t114 := Tryz.underlying9; have a114 := Tryz.isAgg9; have z114 := Tryz.sizeOf9; have v114 := Tryz.zeroValue9; have u114 := run_underlying t114
  have t3 := Tryz.underlying3; have a3 := Tryz.isAgg3; have z3 := Tryz.sizeOf3; have v3 := Tryz.zeroValue3; have u3 := run_underlying t3
  have hkn : k ≤ n := by omega
  obtain ⟨hu, i0, hi0, his, hib⟩ := chkSlice_spec hchstring
  have hz0 : i0.zero = some (.string ⟨#[]⟩) := by
    have := v114 w
    simp only [zeroValue, Sem.run_bind, typeInfo, run_program, hi0, Sem.run_pure, Result.andThen_ok] at this
    cases hzz : i0.zero with
    | none => rw [hzz] at this; simp at this
    | some z' => rw [hzz] at this; simp at this; rw [this]
  have hal : arr.toList.length = arr.size := Array.length_toList
  have ha2 : arr2.toList.length = arr2.size := Array.length_toList
  have hgw : g < w.heap.size := (Array.getElem?_eq_some_iff.1 hg).1
  have hgw2 : g2 < w.heap.size := (Array.getElem?_eq_some_iff.1 hg2).1
  obtain ⟨G, hG⟩ : ∃ G, G = grownCap w (n + 1) n 9 := ⟨_, rfl⟩
  have hGn : n + 1 ≤ G := by rw [hG]; exact grownCap_ge w _ _ _
  have hGm : G ≤ maxLen := by rw [hG]; exact grownCap_le_maxLen w _ _ _ (by unfold maxLen; omega)
  obtain ⟨olds, holds⟩ : ∃ olds, olds = (arr.toList.drop (0 * 1)).take (k * 1) := ⟨_, rfl⟩
  have hol : olds.length = k * 1 := by rw [holds, List.length_take, List.length_drop]; omega
  obtain ⟨ROW, hROW⟩ : ∃ ROW : Array Value, ROW = olds.toArray ++ Builtin.zeroCells ((.string ⟨#[]⟩) : Value).cells (n + 1 - k) ++ Builtin.zeroCells ((.string ⟨#[]⟩) : Value).cells (G - (n + 1)) := ⟨_, rfl⟩
  have hzc : ((.string ⟨#[]⟩) : Value).cells.size = 1 := rfl
  have hRs : ROW.size = G * 1 := by
    rw [hROW]
    simp only [Array.size_append, List.size_toArray, size_zeroCells, hzc, hol]
    omega
  have hRl : ROW.toList.length = ROW.size := Array.length_toList
  have hRc : ∀ i, i < k → Fw.cut 1 ROW.toList i = Fw.cut 1 arr.toList i := fun i hi => by
    rw [hROW, Array.toList_append, Array.toList_append, List.append_assoc, cut_append_left (n := k) hol hi, holds, Nat.zero_mul, List.drop_zero, cut_take hi]
  have hold : (Builtin.firstCells i0.size k (.slice (some ⟨g, 0, none⟩) k n)).run Tryz.prog w.drew = .ok olds.toArray w.drew := by
    rw [his]
    exact run_firstCells_some w.drew 1 k ⟨g, 0, none⟩ k n olds hol (by rw [holds, Nat.zero_mul]; exact src_own (w := w.drew) hg _ _)
  have hik : k + (n + 1 - k) = n + 1 := by omega
  have hkk : (n : Int) + 1 - (k : Int) = ((n + 1 - k : Nat) : Int) := by omega
  have hrz : ∀ ty, (Builtin.append_ #[27, 3] ty #[.slice (some ⟨g, 0, none⟩) k n, .int .i64 ((n : Int) + 1 - (k : Int))]).run Tryz.prog w = .ok (.slice (some ⟨w.heap.size, 0, none⟩) (n + 1) G) (w.drew.alloc (.cells ROW 9)) := fun ty => by
    have h := Lib.run_append_grow_zeros w 27 3 ty 9 i0 (.string ⟨#[]⟩) .i64 .i64 t35 t3 hi0 hz0 (some ⟨g, 0, none⟩) k n olds hold (n + 1 - k) (by omega) (by omega) (by omega) (by omega) (by rw [hib]; omega) (by rw [hib, hik]; exact growslice_fits (by omega) (by omega))
    rw [hik, ← hG, ← hROW] at h
    rw [hkk]
    exact h
  obtain ⟨mid, hmid⟩ : ∃ mid, mid = midC 1 k (n - k) arr.toList := ⟨_, rfl⟩
  have hml : mid.length = (n - k) * 1 := by rw [hmid]; exact midC_len (by omega)
  obtain ⟨ec, hec⟩ : ∃ ec, ec = Fw.cut 1 arr2.toList 0 := ⟨_, rfl⟩
  have hel : ec.length = 1 * 1 := by rw [hec]; unfold Fw.cut; rw [List.length_take, List.length_drop, ha2]; omega
  obtain ⟨arr1, harr1⟩ : ∃ arr1 : Array Value, arr1 = (ROW.toList.take (k * 1) ++ ec ++ ROW.toList.drop (k * 1 + 1 * 1)).toArray := ⟨_, rfl⟩
  have hz1 : arr1.size = ROW.size := by
    rw [harr1]
    simp only [List.size_toArray, List.length_append, List.length_take, List.length_drop, hel]
    omega
  have hal1 : arr1.toList.length = arr1.size := Array.length_toList
  obtain ⟨arr3, harr3⟩ : ∃ arr3 : Array Value, arr3 = (arr1.toList.take ((k + 1) * 1) ++ mid ++ arr1.toList.drop ((k + 1) * 1 + (n - k) * 1)).toArray := ⟨_, rfl⟩
  have hz4 : arr3.size = G * 1 := by
    rw [harr3]
    simp only [List.size_toArray, List.length_append, List.length_take, List.length_drop, hml]
    omega
  have hm1 : ∀ u ∈ mid, u.oneCell' = true := fun u hu => by rw [hmid] at hu; exact h1 u (midC_mem hkn hu)
  have hc1 : ∀ u ∈ ec, u.oneCell' = true := fun u hu => by rw [hec] at hu; exact h12 u hu
  have hcp1 : ∀ (W : World), W.heap[w.heap.size]? = some (.cells ROW 9 (0, 0)) → W.heap[g2]? = some (.cells arr2 T2 (0, 0)) → ∀ ty dc, (Builtin.copy_ #[27, 27] ty #[.slice (some ⟨w.heap.size, k * 1, none⟩) (n + 1 - k) dc, .slice (some ⟨g2, 0, none⟩) 1 cap2]).run Tryz.prog W = .ok (goInt (1 : Nat)) (W.setRow w.heap.size arr1) := fun W hW1 hW2 ty dc => by
    rw [harr1]
    exact run_cpy hchstring (S := ⟨g2, 0, none⟩) (m := 1) (by simp only [Nat.min_def]; split <;> omega) hel (by rw [hec]; unfold Fw.cut; rw [Nat.zero_mul]; exact src_own hW2 _ _) hW1 (by omega) hc1
  have hcp2 : ∀ (W : World), W.heap[w.heap.size]? = some (.cells arr1 9 (0, 0)) → W.heap[g]? = some (.cells arr T (0, 0)) → ∀ ty dc sc, (Builtin.copy_ #[27, 27] ty #[.slice (some ⟨w.heap.size, (k + 1) * 1, none⟩) (n - k) dc, .slice (some ⟨g, k * 1, none⟩) (n - k) sc]).run Tryz.prog W = .ok (goInt (n - k : Nat)) (W.setRow w.heap.size arr3) := fun W hW1 hW2 ty dc sc => by
    rw [harr3]
    exact run_cpy hchstring (S := ⟨g, k * 1, none⟩) (m := n - k) (Nat.min_self _) hml (by rw [hmid]; exact src_own hW2 _ _) hW1 (by omega) hm1
  have hfin : ∀ i, i < n + 1 → Fw.cut 1 arr3.toList i = if i < k then Fw.cut 1 arr.toList i else if i = k then Fw.cut 1 arr2.toList 0 else Fw.cut 1 arr.toList (i - 1) := fun i hi => by
    rw [harr3, show (arr1.toList.take ((k + 1) * 1) ++ mid ++ arr1.toList.drop ((k + 1) * 1 + (n - k) * 1)).toArray.toList = _ from rfl, cut_mid hml (by omega)]
    by_cases h3 : i < k + 1
    · rw [if_pos h3, harr1, show (ROW.toList.take (k * 1) ++ ec ++ ROW.toList.drop (k * 1 + 1 * 1)).toArray.toList = _ from rfl, cut_mid hel (by omega)]
      by_cases h4 : i < k
      · rw [if_pos h4, if_pos h4, hRc i h4]
      · rw [if_neg h4, if_neg h4, if_pos (by omega), if_pos (by omega), show i - k = 0 by omega, hec]
        unfold Fw.cut
        rw [Nat.zero_mul, List.drop_zero, List.drop_zero, List.take_take, Nat.min_self]
    · rw [if_neg h3, if_pos (by omega), if_neg (by omega), if_neg (by omega), hmid, midC_cut (by omega), show k + (i - (k + 1)) = i - 1 by omega]
  have hn1 : ∀ (W : World), W.heap = (w.drew.alloc (.cells ROW 9)).heap → W.heap[w.heap.size]? = some (.cells ROW 9 (0, 0)) := fun W hW => by rw [hW]; exact heap_alloc_new w.drew _
  have ho1 : ∀ (W : World), W.heap = (w.drew.alloc (.cells ROW 9)).heap → ∀ b, b < w.heap.size → W.heap[b]? = w.heap[b]? := fun W hW b hb => by rw [hW]; exact heap_alloc_old w.drew _ hb
  have hn2 : ∀ (W : World), W.heap = ((w.drew.alloc (.cells ROW 9)).setRow w.heap.size arr1).heap → W.heap[w.heap.size]? = some (.cells arr1 9 (0, 0)) := fun W hW => by rw [hW]; exact setRow_heap _ _ ROW arr1 _ (0, 0) (heap_alloc_new w.drew _)
  have ho2 : ∀ (W : World), W.heap = ((w.drew.alloc (.cells ROW 9)).setRow w.heap.size arr1).heap → ∀ b, b < w.heap.size → W.heap[b]? = w.heap[b]? := fun W hW b hb => by rw [hW, setRow_other _ _ b _ (by omega)]; exact heap_alloc_old w.drew _ hb
  clear harr1 harr3 hmid hec hml hel hal ha2 hal1 hm1 hc1 hROW hRs hRl hRc hold holds hol hG hkk hik
  have hz2 : ¬ ((k : Int) = (n : Int)) := by omega
  have hz3 : (n : Int) < (n : Int) + 1 := by omega
  have hw0 : IntKind.i64.wrap ((n : Int) + 1) = (n : Int) + 1 := by rw [IntKind.wrap_i64]; omega
  have hw1 : IntKind.i64.wrap ((k : Int) + 1) = (k : Int) + 1 := by rw [IntKind.wrap_i64]; omega
  have hw2 : IntKind.i64.wrap ((n : Int) + 1 - (k : Int)) = (n : Int) + 1 - (k : Int) := by rw [IntKind.wrap_i64]; omega
  have hb1 : (0 : Int) ≤ (k : Int) + 1 := by omega
  have htn : ((k : Int) + 1).toNat = k + 1 := by omega
  have hb2 : ¬ (G = k + 1) := by omega
  have hb3 : (k : Int) ≤ (n : Int) + 1 := by omega
  have hb4 : ¬ (G = k) := by omega
  have hb5 : ¬ (n = k) := by omega
  simp only [Nat.mul_one] at hcp1 hcp2
  go_enter Tryz.func289, Tryz.ntmps289
  go_wp2_with (at_builtin; refine Lib.wpList_append_run _ rfl _ _ _ _ rfl _ _ rfl rfl _ _ (hrz _) ?_)
  rw [hcp1 (w.alloc (.cells ROW 9)).drew (hn1 _ rfl) ((ho1 _ rfl g2 hgw2).trans hg2) 3 (G - k)]
  simp only [Result.andThen]
  rw [Oper.upon_value]
  go_wp2
  go_region_law_o (refine step_cpy rfl _ _ 27 27 rfl (.slice (some ⟨w.heap.size, k + 1, none⟩) (n - k) (G - (k + 1))) (.slice (some ⟨g, k, none⟩) (n - k) (n - k)) (by simp [Act.eval, Act.put]) (by simp [Act.eval, Act.put]) (hcp2 ((w.alloc (.cells ROW 9)).drew.setRow w.heap.size arr1).drew (hn2 _ rfl) ((ho2 _ rfl g hgw).trans hg) 3 (G - (k + 1)) (n - k)) ?_)
  go_wp2
  go_ret
  refine ⟨G, arr3, rfl, hGn, hGm, setRow_heap _ _ arr1 arr3 _ (0, 0) (hn2 _ rfl), hz4, hfin, rfl, rfl, rfl, ?_, fun b hb => (setRow_other _ _ b _ (by omega)).trans (ho2 _ rfl b hb)⟩
  simp
theorem ins_alls (k : Nat) (hk : k ≤ xs.length) (hbig : xs.length ≤ 1073741824) {v v2 : Value} {F2 : List Nat} (hv : SlO w v xs F) (hF : F.Nodup) (hv2 : SlO w v2 [c0] F2) (hdj : ∀ b ∈ F2, b ∉ F) :
    Calls Tryz.prog 289 #[v, .int .i64 k, v2] w (InsQ (insL xs k c0) F w) := by
  have hfl : flats (Str.fk (α := ByteArray)) = true := rfl
  rcases hv2.fl inferInstance hfl with ⟨_, e2⟩ | ⟨g2, cap2, arr2, T2, e1, e2, e3, e4, e5, e6, e7⟩
  · cases e2
  subst e1
  have hs2 : 1 ≤ arr2.size := by
    have : 1 ≤ cap2 := e3
    have := Nat.mul_le_mul_right (Dat.sz ByteArray) this
    exact Nat.le_trans this e5
  have h12 : ∀ u ∈ Fw.cut 1 arr2.toList 0, u.oneCell' = true := fun u hu => e7.one w u (by unfold Fw.cut at hu; rwa [Nat.zero_mul, List.drop_zero] at hu)
  by_cases hkn : k = xs.length
  · subst hkn
    have h := ins_ends hbig hv hF e2 hs2 e7 h12 (cap2 := cap2)
    unfold insL
    rw [List.take_length, List.drop_length]
    exact h
  have hk' : k < xs.length := by omega
  have hc0 : ∀ w, Dat.own w (Fw.cut 1 arr2.toList 0) c0 [] := fun w => e7 0 c0 rfl w
  rcases hv.fl inferInstance hfl with ⟨_, q2⟩ | ⟨g, cap, arr, T, q1, q2, q3, q4, q5, q6, q7⟩
  · rw [q2] at hk'; simp at hk'
  subst q1
  have hlt := hv.lt
  have h1 := q7.one w
  have hne : g2 ≠ g := fun e => hdj g2 e6 (by rw [e]; exact q6)
  by_cases hroom : xs.length + 1 ≤ cap
  · refine (ins_rooms hbig hk' hroom q4 q2 q5 h1 e2 hs2 h12 hne (cap2 := cap2)).mono fun e w' hq => ?_
    obtain ⟨rfl, arr', r1, r2, r3, r4, r5, r6, r7, r8⟩ := hq
    refine ⟨_, [g], rfl, (q7.ins hk hc0 r3).slo r1 (insL_length hk).symm hroom q4 (by rw [r2]; exact q5), by simp, r4, r5, r6, r7, fun b _ hb => r8 b fun e => hb (by rw [e]; exact q6), fun b hb => .inl (by rw [List.mem_singleton.1 hb]; exact q6)⟩
  · obtain rfl : cap = xs.length := by omega
    refine (ins_grows hbig hk' q2 q5 h1 e2 hs2 h12 (cap2 := cap2)).mono fun e w' hq => ?_
    obtain ⟨G, arr', rfl, r0, r0', r1, r2, r3, r4, r5, r6, r7, r8⟩ := hq
    exact ⟨_, [w.heap.size], rfl, (q7.ins hk hc0 r3).slo r1 (insL_length hk).symm r0 r0' (by rw [r2]; exact Nat.le_refl _), by simp, r4, r5, r6, r7, fun b hb _ => r8 b hb, fun b hb => .inr (by rw [List.mem_singleton.1 hb]; exact Nat.le_refl _)⟩
end
end Go.Proofs.YtifffdepmdnciaaGreatDoor.Fw

namespace Go.Proofs.YtifffdepmdnciaaGreatDoor.Fw
open Go.RowKit Go.Shelf
set_option linter.unusedVariables false
theorem cellAlCell {W : World} {a : Addr} {v : Value} {o : Obj} (h : W.cell? a = some v) : (W.alloc o).cell? a = some v := by
  have hlt : a.block < W.heap.size := by
    rcases Nat.lt_or_ge a.block W.heap.size with h1 | h1
    · exact h1
    · simp [World.cell?, Array.getElem?_eq_none h1] at h
  have e : (W.alloc o).heap[a.block]? = W.heap[a.block]? := by first | exact heap_alloc_old W o hlt | exact heap_alloc_old W o _ hlt
  unfold World.cell? at h ⊢
  rw [e]
  exact h
theorem eqnCell (A : Option Addr) (n c : Nat) (w : World) : (binOp .eql 38 (.slice A n c) (.slice none 0 0)).run Tryz.prog w = .ok (.bool A.isNone) w := by
  exact Lib.run_eql_slice_nil w _ _ A n c 0 0 Tryz.underlying38
theorem cchCell : chkSlice Tryz.prog 38 143 2 32 = true := by kernel_rfl
set_option maxHeartbeats 4000000 in
set_option maxRecDepth 100000 in
theorem cl_Cell : CloneC Tryz.prog 87 2 := by
  intro w A len cap raws hl hs hlen
  have mixed : Tryz.prog.follows .mixedOrders = true := by kernel_rfl
  have t35 := Tryz.underlying38; have a35 := Tryz.isAgg38; have z35 := Tryz.sizeOf38; have v35 := Tryz.zeroValue38; have u35 := run_underlying t35
  have t114 := Tryz.underlying143; have a114 := Tryz.isAgg143; have z114 := Tryz.sizeOf143; have v114 := Tryz.zeroValue143; have u114 := run_underlying t114
  have t4 := Tryz.underlying4; have a4 := Tryz.isAgg4; have u4 := run_underlying t4
  cases A with
  | none =>
    have hr : raws = [] := by
      cases raws with
      | nil => rfl
      | cons r rs =>
        obtain ⟨S, c, e, hc⟩ := hs
        have hlen := r.len
        cases hv : r.val with
        | nil => rw [hv] at hlen; cases hlen
        | cons u us =>
          obtain ⟨a, ha, _⟩ := hc 0 u (by unfold rawCells; rw [List.flatMap_cons, hv]; rfl)
          injection e with e _ _
          rw [← e] at ha
          cases ha
    subst hr
    subst hl
    clear hs hlen
    go_enter Tryz.func87, Tryz.ntmps87
    go_wp2
    rw [eqnCell]
    simp only [Result.andThen]
    rw [Oper.upon_value]
    go_wp2
    all_goals (go_ret; exact ⟨⟨none, 0, []⟩, rfl, Below.refl _ _, .inl ⟨rfl, rfl, rfl, rfl⟩⟩)
  | some ad =>
    have hw1 : @SlO (Raw 2) (rawDat 2 (by decide)) (w.alloc (.cells #[] 143)) (.slice (some ⟨w.heap.size, 0, none⟩) 0 0) [] [w.heap.size] :=
      (@SlO_iff (Raw 2) (rawDat 2 (by decide)) _ [] _ _).2 (.inr ⟨w.heap.size, 0, #[], 143, [], rfl, heap_alloc_new w _, Nat.le_refl _, Nat.zero_le _, by simp, rfl, ⟨rfl, fun i x h => by cases h⟩⟩)
    have hsrc : Src (w.alloc (.cells #[] 143)) (.slice (some ad) len cap) raws.length (rawCells raws) := by
      obtain ⟨S, c, e, hc⟩ := hs
      refine ⟨S, c, by rw [hl]; exact e, fun j u hj => ?_⟩
      obtain ⟨a, ha, hcell⟩ := hc j u hj
      exact ⟨a, ha, cellAlCell hcell⟩
    obtain ⟨v', w', F', hrun, r1, r2, r3, r4, r5, r6, r7, r8⟩ := @run_app Tryz.prog (Raw 2) (rawDat 2 (by decide)) (w.alloc (.cells #[] 143)) 38 143 38 2 32 _ cchCell rfl Tryz.zeroValue143 rfl _ _ [] raws _ hw1 (by simp) _ _ hsrc (rawCells_len raws) (rawCells_one raws) (rawElems (by decide) _ raws) (by rw [rep_nil]; exact List.nodup_nil) (fun b hb => by rw [rep_nil] at hb; cases hb) (by simp only [List.length_nil]; omega) (by simp only [List.length_nil]; unfold maxLen; omega)
    rw [List.nil_append] at r1
    have hbel : Below w.heap.size w w' := by
      refine ⟨r3, r4, r5, ?_, fun b hb => ?_⟩
      · have : (w.alloc (.cells #[] 143)).heap.size = w.heap.size + 1 := World.size_alloc _ _
        omega
      · rw [r7 b (by rw [World.size_alloc]; omega) (fun h => by rw [List.mem_singleton.1 h] at hb; omega)]
        first | exact heap_alloc_old w _ hb | exact heap_alloc_old w _ _ hb
    have hF : ∀ b ∈ F', w.heap.size ≤ b := fun b hb => by
      rcases r8 b hb with h | h | h
      · rw [List.mem_singleton.1 h]; exact Nat.le_refl _
      · rw [rep_nil] at h; cases h
      · rw [World.size_alloc] at h; omega
    obtain ⟨l, hv, hC⟩ := raw_row (by decide) r1 hbel hF
    clear hs hsrc hw1 r1 r2 r3 r4 r5 r6 r7 r8 hbel hF
    go_enter Tryz.func87, Tryz.ntmps87
    go_wp2
    rw [eqnCell]
    simp only [Result.andThen]
    rw [Oper.upon_value]
    go_wp2_with (at_builtin; refine Lib.wpList_append_run _ rfl _ _ _ _ rfl _ _ rfl rfl _ _ hrun ?_)
    all_goals (go_ret; exact ⟨l, rfl, hC⟩)
end Go.Proofs.YtifffdepmdnciaaGreatDoor.Fw
