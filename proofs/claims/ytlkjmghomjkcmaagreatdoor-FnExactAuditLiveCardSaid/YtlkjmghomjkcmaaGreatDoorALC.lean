/-
  The texts Ri22, Ri24, Am9, Ri23, KT, KR, KXL, KS, QT, Q1, Q2, Q3, Q4, Q5 of this proof, one behind the other: what each proves stands at its head. No condition.
-/
import Derived.Test.YtlkjmghomjkcmaaGreatDoorProg
import Derived.KernelRfl
import Derived.Lib.ItoaLen
import Derived.Lib.AtoiAll
import Derived.Shelf.Hex.More
import Derived.Test.YtlkjmghomjkcmaaGreatDoorALA
import Derived.Test.YtlkjmghomjkcmaaGreatDoorALB
namespace Go.Proofs.YtlkjmghomjkcmaaGreatDoor.Ri
open Go.Proofs.YtlkjmghomjkcmaaGreatDoor.Fw
open Go.RowKit
set_option linter.unusedVariables false
set_option linter.unusedSimpArgs false
theorem ancO_bit {acc : List Nat} {k : Nat} : ∀ {es : List Edge}, Nat.testBit (ancO acc es) k = true ↔ ∃ e ∈ es, Region.binds .any e = true ∧ (e.on = k ∨ Nat.testBit (acc.getD e.on 0) k = true)
  | [] => by simp [ancO]
  | e :: es => by
    have ih := ancO_bit (acc := acc) (k := k) (es := es)
    simp only [ancO]
    cases hb : Region.binds .any e with
    | false =>
      simp only [cond_false, ih]
      constructor
      · rintro ⟨e', h1, h2⟩; exact ⟨e', List.mem_cons_of_mem _ h1, h2⟩
      · rintro ⟨e', h1, h2, h3⟩
        rcases List.mem_cons.1 h1 with rfl | h1
        · rw [hb] at h2; cases h2
        · exact ⟨e', h1, h2, h3⟩
    | true =>
      simp only [cond_true]
      rw [Nat.testBit_or, Nat.testBit_or, Nat.one_shiftLeft, Nat.testBit_two_pow, Bool.or_eq_true, Bool.or_eq_true, decide_eq_true_eq, ih]
      constructor
      · rintro (h | h | ⟨e', h1, h2⟩)
        · exact ⟨e, List.mem_cons_self, hb, .inl h⟩
        · exact ⟨e, List.mem_cons_self, hb, .inr h⟩
        · exact ⟨e', List.mem_cons_of_mem _ h1, h2⟩
      · rintro ⟨e', h1, h2, h3⟩
        rcases List.mem_cons.1 h1 with rfl | h1
        · rcases h3 with h3 | h3
          · exact .inl h3
          · exact .inr (.inl h3)
        · exact .inr (.inr ⟨e', h1, h2, h3⟩)
theorem ancs_pre : ∀ (l : List Oper) (acc : List Nat), ∃ t, ancs acc l = acc ++ t ∧ t.length = l.length
  | [], acc => ⟨[], by simp [ancs], rfl⟩
  | o :: l, acc => by
    obtain ⟨t, h1, h2⟩ := ancs_pre l (acc ++ [ancO acc o.after.toList])
    exact ⟨ancO acc o.after.toList :: t, by simp only [ancs]; rw [h1]; simp, by simp [h2]⟩
theorem ancs_get : ∀ (l : List Oper) (acc : List Nat) (i : Nat) (o : Oper), l[i]? = some o → (ancs acc l)[acc.length + i]? = some (ancO ((ancs acc l).take (acc.length + i)) o.after.toList)
  | [], _, _, _, h => by simp at h
  | o0 :: l, acc, 0, o, h => by
    simp at h
    subst h
    obtain ⟨t, h1, h2⟩ := ancs_pre l (acc ++ [ancO acc o0.after.toList])
    simp only [ancs]
    rw [h1]
    simp
  | o0 :: l, acc, i + 1, o, h => by
    have := ancs_get l (acc ++ [ancO acc o0.after.toList]) i o (by simpa using h)
    simp only [ancs]
    rw [show acc.length + (i + 1) = (acc ++ [ancO acc o0.after.toList]).length + i by simp; omega]
    exact this
theorem anc_spec {l : List Oper} {i ai : Nat} {o : Oper} (ho : l[i]? = some o) (ha : (ancs [] l)[i]? = some ai) {k : Nat} : Nat.testBit ai k = true ↔ ∃ e ∈ o.after.toList, Region.binds .any e = true ∧ (e.on = k ∨ ∃ ae, e.on < i ∧ (ancs [] l)[e.on]? = some ae ∧ Nat.testBit ae k = true) := by
  have h := ancs_get l [] i o ho
  simp only [List.length_nil, Nat.zero_add] at h
  rw [ha] at h
  simp only [Option.some.injEq] at h
  rw [h, ancO_bit]
  constructor
  · rintro ⟨e, h1, h2, h3⟩
    refine ⟨e, h1, h2, h3.imp id fun h3 => ?_⟩
    rw [List.getD_eq_getElem?_getD, List.getElem?_take] at h3
    split at h3
    · rename_i hlt
      cases hx : (ancs [] l)[e.on]? with
      | none => rw [hx] at h3; simp at h3
      | some x => rw [hx] at h3; exact ⟨x, hlt, rfl, h3⟩
    · simp at h3
  · rintro ⟨e, h1, h2, h3⟩
    refine ⟨e, h1, h2, h3.imp id fun ⟨ae, h4, h5, h6⟩ => ?_⟩
    rw [List.getD_eq_getElem?_getD, List.getElem?_take, if_pos h4, h5]
    exact h6
theorem getD_listed {L : Array Bool} {i j : Nat} {d : Bool} (hj : j < L.size) : (L.setIfInBounds j true).getD i d = if i = j then true else L.getD i d := by
  simp only [Array.getD_eq_getD_getElem?, Array.getElem?_setIfInBounds]
  by_cases h : j = i
  · subst h; simp [hj]
  · rw [if_neg h, if_neg (Ne.symm h)]
theorem getD_any {L : Array Bool} {i : Nat} (hi : i < L.size) (d d' : Bool) : L.getD i d = L.getD i d' := by
  simp [Array.getD_eq_getD_getElem?, hi]
section
variable {τ : Tab} {Z : Lw τ} {P : Program} {fid : Nat} {D : ∀ f, InT τ (Z.sg f) → Option (OutT τ (Z.sg f))} {pins : List Nat} {H : Nat → Nat} {nx : Nat}
def PL (nx : Nat) (listed : Array Bool) (r : Nat) : Prop := r < nx ∨ ∃ j, listed.getD j false = true ∧ nx + 16 * j ≤ r ∧ r < nx + 16 * j + 16
theorem maskS_sees {U : List Nat} {m : List (Nat × Sl τ)} : Sees (maskS U (lkA m)) m := by
  intro t s h
  unfold maskS at h
  cases hb : memN t U with
  | true => rw [hb] at h; cases h
  | false =>
    rw [hb] at h
    simp only [cond_false] at h
    split at h
    · rename_i j b v hv
      cases hj : memN j U with
      | true => rw [hj] at h; cases h
      | false => rw [hj] at h; cases h; exact hv
    · cases h
    · exact h
theorem maskE_sees {nx m h : Nat} {E : List (Nat × Ex τ)} : Sees (maskE nx m h (lkA E)) E := by
  intro r e he
  unfold maskE at he
  cases hb : visN nx m h r with
  | false => rw [hb] at he; cases he
  | true => rw [hb] at he; exact he
theorem drawn_any (s : Sy P Z.ti Z.zr) (hC : CallOk Z P D) {ops : Array Oper} (hlt : ∀ i ai, (ancs [] ops.toList)[i]? = some ai → Nat.blt ai (1 <<< i) = true) {B : Bx} {pv : Nat → Value} {Q : Exit → Act → World → Prop} {σf : Sx τ}
    (hQ : ∀ σ' a' w', Like σ' σf → Rz B pins pv σ' a' w' → Q .normal a' w') : ∀ (fuel : Nat) (L : List (Nat × Nat)) (listed : Array Bool) (σ : Sx τ), L.length = fuel → listed.size = ops.size → (L.map (·.1)).Pairwise (· < ·) → (∀ i, i < ops.size → (listed.getD i true = false ↔ i ∈ L.map (·.1))) → (∀ x ∈ L, x.1 < ops.size) →
      (∀ j aj k, (ancs [] ops.toList)[j]? = some aj → listed.getD j false = true → Nat.testBit aj k = true → listed.getD k false = true) →
      (∀ x ∈ L, ∀ y ∈ L, x.1 < y.1 → (∀ ay, (ancs [] ops.toList)[y.1]? = some ay → Nat.testBit ay x.1 = false) → Cmp (ancs [] ops.toList) H nx x.1 x.2 y.1 y.2) →
      Nm (PL nx listed) σ → RunA Z fid D pins ops.toList (ancs [] ops.toList) H nx L σ σf → ∀ a w, Rz B pins pv σ a w → wpAny P .any ops Q fuel listed a w
  | 0, L, listed, σ, hf, hsz, hso, hiff, hLn, hcl, hcm, hn, hrun, a, w, hR => by
    have hL : L = [] := List.length_eq_zero_iff.1 hf
    subst hL
    refine ⟨List.eq_nil_iff_forall_not_mem.2 fun j hj => ?_, hQ σ a w hrun hR⟩
    obtain ⟨h1, o, h2, _⟩ := mem_ready.1 hj
    have := (hiff j (Array.getElem?_eq_some_iff.1 h2).1).1 h1
    cases this
  | fuel + 1, L, listed, σ, hf, hsz, hso, hiff, hLn, hcl, hcm, hn, hrun, a, w, hR => by
    have hanl : (ancs [] ops.toList).length = ops.size := by
      obtain ⟨t, h1, h2⟩ := ancs_pre ops.toList []
      rw [h1]; simp [h2]
    have hunl : ∀ i, i < ops.size → i ∉ L.map (·.1) → listed.getD i false = true := by
      intro i hi hm
      have h1 : ¬ listed.getD i true = false := fun h => hm ((hiff i hi).1 h)
      rw [getD_any (by omega) false true]
      simpa using h1
    refine ⟨fun hnil => ?_, fun j hj => ?_⟩
    · exfalso
      obtain ⟨⟨i, c⟩, L', rfl⟩ : ∃ x L', L = x :: L' := by
        cases L with
        | nil => cases hf
        | cons x L' => exact ⟨x, L', rfl⟩
      · skip
        have hin : i < ops.size := hLn (i, c) List.mem_cons_self
        have hai : (ancs [] ops.toList)[i]? = some (ancs [] ops.toList)[i] := List.getElem?_eq_getElem (by omega)
        have : i ∈ Region.ready .any ops listed := by
          refine mem_ready.2 ⟨(hiff i hin).2 (by simp), ops[i], by simp [hin], fun e he hb => ?_⟩
          have hbit : Nat.testBit (ancs [] ops.toList)[i] e.on = true := (anc_spec (l := ops.toList) (i := i) (o := ops[i]) (by simp [hin]) hai).2 ⟨e, by simpa using he, hb, .inl rfl⟩
          have hlt' : e.on < i := by
            rcases Nat.lt_or_ge e.on i with h | h
            · exact h
            · rw [lt_shift (hlt i _ hai) h] at hbit; cases hbit
          refine hunl e.on (by omega) fun hm => ?_
          simp only [List.map_cons, List.pairwise_cons] at hso
          rcases List.mem_cons.1 hm with h | h
          · simp only at h; omega
          · have := hso.1 _ h; omega
        rw [hnil] at this
        cases this
    · obtain ⟨h1, oj, h2, h3⟩ := mem_ready.1 hj
      have hjn : j < ops.size := (Array.getElem?_eq_some_iff.1 h2).1
      have hjL := (hiff j hjn).1 h1
      obtain ⟨⟨j', cj⟩, hmem, hj'⟩ := List.mem_map.1 hjL
      simp only at hj'
      subst hj'
      obtain ⟨pre, post, rfl⟩ := List.append_of_mem hmem
      have haj : (ancs [] ops.toList)[j']? = some (ancs [] ops.toList)[j'] := List.getElem?_eq_getElem (by omega)
      have hol : ops.toList[j']? = some oj := by simpa using h2
      have hbits : ∀ k, Nat.testBit (ancs [] ops.toList)[j'] k = true → listed.getD k false = true := by
        intro k hk
        obtain ⟨e, e1, e2, e3⟩ := (anc_spec hol haj).1 hk
        have he := h3 e (by simpa using e1) e2
        rcases e3 with e3 | ⟨ae, e4, e5, e6⟩
        · rw [← e3]; exact he
        · exact hcl e.on ae k e5 he e6
      have hso' := hso
      simp only [List.map_append, List.map_cons, List.pairwise_append, List.pairwise_cons] at hso'
      obtain ⟨so1, ⟨so2, so3⟩, so4⟩ := hso'
      have hprelt : ∀ x ∈ pre, x.1 < j' := fun x hx => so4 x.1 (List.mem_map.2 ⟨x, hx, rfl⟩) j' List.mem_cons_self
      have hnl : ∀ i, i < ops.size → i ∈ (pre ++ (j', cj) :: post).map (·.1) → listed.getD i false = false := fun i hi hm => by
        rw [getD_any (by omega) false true]; exact (hiff i hi).2 hm
      obtain ⟨σ1, r1, r2⟩ := RunA.first hrun fun x hx => by
        have hxl := hprelt x hx
        have hxL : x ∈ pre ++ (j', cj) :: post := List.mem_append_left _ hx
        have hxb : Nat.testBit (ancs [] ops.toList)[j'] x.1 = false := by
          cases hb : Nat.testBit (ancs [] ops.toList)[j'] x.1 with
          | false => rfl
          | true =>
            have e1 := hbits _ hb
            rw [hnl x.1 (hLn x hxL) (List.mem_map.2 ⟨x, hxL, rfl⟩)] at e1
            cases e1
        refine ⟨by omega, fun ai aj e1 e2 => ?_, hcm x hxL (j', cj) (by simp) hxl fun ay hay => ?_⟩
        · rw [haj] at e2; cases e2
          exact ⟨hxb, lt_shift (hlt _ _ e1) (by omega)⟩
        · simp only at hay
          rw [haj] at hay; cases hay
          exact hxb
      have hstep : stepO Z fid D pins nx ops.toList (visN nx (ancs [] ops.toList)[j'] (H j')) (nx + 16 * j') (maskS (usl j' (ancs [] ops.toList)[j'] 0 (ancs [] ops.toList) ops.toList) (lkA σ.ρ)) (maskE nx (ancs [] ops.toList)[j'] (H j') (lkA σ.E)) oj σ = some (cj, σ1) := by
        unfold stepI at r1
        rw [hol, haj] at r1
        simp only at r1
        cases hb : dok oj.dst (usl j' (ancs [] ops.toList)[j'] 0 (ancs [] ops.toList) ops.toList) && (ancs [] ops.toList)[j'].blt (1 <<< j') with
        | false => rw [hb] at r1; cases r1
        | true => rw [hb] at r1; exact r1
      have hjl : listed.getD j' false = false := hnl j' hjn hjL
      obtain ⟨k1, k2, k3⟩ := stepO_ok (opsA := ops) s hC hn (fun r q1 q2 q3 => by
          rcases q3 with q3 | ⟨k, q3, q4, q5⟩
          · omega
          · have hkj : k = j' := by omega
            rw [hkj, hjl] at q3
            cases q3) (fun r hr => by
          unfold visN at hr
          cases hb : Nat.blt r nx with
          | true => exact .inl (Nat.le_of_ble_eq_true hb)
          | false =>
            rw [hb] at hr
            simp only [cond_false] at hr
            have hge : nx ≤ r := by
              rcases Nat.lt_or_ge r nx with h | h
              · have : Nat.blt r nx = true := Nat.ble_eq_true_of_le h
                rw [this] at hb; cases hb
              · exact h
            exact .inr ⟨_, hbits _ hr, by omega, by omega⟩) maskS_sees maskE_sees hstep
      have key := k3 B pv a w hR (wpAny P .any ops Q fuel (listed.setIfInBounds j' true)) Q fun a' w' hR' => by
        have hsub : ∀ x, x ∈ pre ++ post → x ∈ pre ++ (j', cj) :: post := fun x hx => by
          rcases List.mem_append.1 hx with hx | hx
          · exact List.mem_append_left _ hx
          · exact List.mem_append_right _ (List.mem_cons_of_mem _ hx)
        refine drawn_any s hC hlt hQ fuel (pre ++ post) _ σ1 (by simp at hf ⊢; omega) (by simpa using hsz) ?_ (fun i hi => ?_) (fun x hx => hLn x (hsub x hx)) (fun j aj k e1 e2 e3 => ?_) (fun x hx y hy => hcm x (hsub x hx) y (hsub y hy)) (k2.mono fun r hr => ?_) r2 a' w' hR'
        · simp only [List.map_append, List.pairwise_append]
          exact ⟨so1, so3, fun x hx y hy => so4 x hx y (List.mem_cons_of_mem _ hy)⟩
        · rw [getD_listed (by omega)]
          by_cases hij : i = j'
          · subst hij
            rw [if_pos rfl]
            refine ⟨fun h => (by cases h), fun hm => ?_⟩
            simp only [List.map_append] at hm
            rcases List.mem_append.1 hm with hm | hm
            · have := so4 i hm i List.mem_cons_self; omega
            · have := so2 i hm; omega
          · rw [if_neg hij, hiff i hi]
            simp only [List.map_append, List.map_cons, List.mem_append, List.mem_cons, hij, false_or]
        · rw [getD_listed (by omega)] at e2 ⊢
          by_cases hkj : k = j'
          · rw [if_pos hkj]
          · rw [if_neg hkj]
            by_cases hjj : j = j'
            · subst hjj
              rw [haj] at e1; cases e1
              exact hbits k e3
            · rw [if_neg hjj] at e2
              exact hcl j aj k e1 e2 e3
        · rcases hr with (hr | ⟨k, e1, e2⟩) | hr
          · exact .inl hr
          · refine .inr ⟨k, ?_, e2⟩
            rw [getD_listed (by omega)]
            split
            · rfl
            · exact e1
          · exact .inr ⟨j', by rw [getD_listed (by omega), if_pos rfl], hr.1, hr.2⟩
      unfold Go.wpOp
      simp only [h2]
      split
      · rename_i hw
        rw [if_pos hw] at key
        exact .inl key
      · rename_i hw
        rw [if_neg hw] at key
        exact key
theorem sep_ok {K h a j r : Nat} (hs : sep nx K h a j = true) (hr : Nat.testBit K (keyN nx r) = true) : visN nx a h r = false ∧ ¬ (nx + 16 * j ≤ r ∧ r < nx + 16 * j + 16) := by
  unfold sep at hs
  simp only [Bool.and_eq_true] at hs
  have h1 := Nat.eq_of_beq_eq_true hs.1
  have h2 := Nat.eq_of_beq_eq_true hs.2
  unfold visN
  unfold keyN at hr
  cases hb : Nat.blt r nx with
  | true =>
    rw [hb] at hr
    have hlt : r < nx := Nat.le_of_ble_eq_true hb
    have h3 := congrArg (fun n => Nat.testBit n r) h1
    simp only [Nat.testBit_and, Nat.testBit_mod_two_pow, hlt, decide_true, Bool.true_and] at h3
    simp only [cond_true] at hr ⊢
    rw [hr] at h3
    simp only [Bool.true_and] at h3
    rw [h3]
    exact ⟨rfl, by omega⟩
  | false =>
    rw [hb] at hr
    have hge : nx ≤ r := by
      rcases Nat.lt_or_ge r nx with h | h
      · have : Nat.blt r nx = true := Nat.ble_eq_true_of_le h
        rw [this] at hb; cases hb
      · exact h
    simp only [cond_false] at hr ⊢
    have h3 := congrArg (fun n => Nat.testBit n ((r - nx) / 16)) h2
    simp only [Nat.testBit_and, Nat.testBit_or, Nat.testBit_shiftRight, hr, Bool.true_and, Nat.zero_testBit, Bool.or_eq_false_iff] at h3
    refine ⟨h3.1, fun ⟨q1, q2⟩ => ?_⟩
    have e : (r - nx) / 16 = j := by omega
    have h4 := h3.2
    rw [e, Nat.one_shiftLeft, Nat.testBit_two_pow_self] at h4
    cases h4
theorem apt_of {A : List Nat} {i c j c' ai aj : Nat} (hi : A[i]? = some ai) (hj : A[j]? = some aj) (hij : i ≠ j) (h1 : sep nx (c / 2) (H j) aj j = true) (h2 : sep nx (c' / 2) (H i) ai i = true) (h3 : (c / 2) &&& (c' / 2) = 0) : Apt A H nx i c j c' := by
  intro r aj' hj' hb hr
  rw [hj] at hj'; cases hj'
  rcases hr with ⟨q1, q2⟩ | hr
  · refine ⟨visN_own hb q1 q2, ?_⟩
    rintro (⟨k1, k2⟩ | k)
    · omega
    · exact (sep_ok h2 k).2 ⟨q1, q2⟩
  · refine ⟨(sep_ok h1 hr).1, ?_⟩
    rintro (k | k)
    · exact (sep_ok h1 hr).2 k
    · have h4 := congrArg (fun n => Nat.testBit n (keyN nx r)) h3
      simp only [Nat.testBit_and, hr, k, Bool.and_self, Nat.zero_testBit] at h4
      cases h4
theorem okC_ok {A : List Nat} {i ai c : Nat} (hi : A[i]? = some ai) : ∀ {cs : List (Nat × Nat)}, okC nx A H i ai c cs = true → ∀ x ∈ cs, x.1 < i → Nat.testBit ai x.1 = false → Cmp A H nx x.1 x.2 i c
  | [], _, _, h, _, _ => by cases h
  | (j, c') :: cs, h, x, hx, hlt, hb => by
    simp only [okC] at h
    cases h0 : (Nat.beq c 0 || (Nat.testBit ai j || (Nat.beq c' 0 || (sep nx (c / 2) (H j) (A.getD j 0) j && (sep nx (c' / 2) (H i) ai i && Nat.beq ((c / 2) &&& (c' / 2)) 0))))) with
    | false => rw [h0] at h; cases h
    | true =>
      rw [h0] at h
      rcases List.mem_cons.1 hx with hx | hx
      · subst hx
        simp only [Bool.or_eq_true, Bool.and_eq_true] at h0
        simp only at hb hlt ⊢
        rw [hb] at h0
        rcases h0 with h0 | h0 | h0 | ⟨h0, h1, h2⟩
        · exact .inr (.inl (Nat.eq_of_beq_eq_true h0))
        · cases h0
        · exact .inl (Nat.eq_of_beq_eq_true h0)
        · have hil := (List.getElem?_eq_some_iff.1 hi).1
          have hj : A[j]? = some (A.getD j 0) := by
            rw [List.getD_eq_getElem?_getD, List.getElem?_eq_getElem (show j < A.length by omega)]; rfl
          have h2 := Nat.eq_of_beq_eq_true h2
          exact .inr (.inr ⟨apt_of hj hi (by omega) h1 h0 (by rw [Nat.and_comm]; exact h2), apt_of hi hj (by omega) h0 h1 h2⟩)
      · exact okC_ok hi h x hx hlt hb
theorem drawK_run (s : Sy P Z.ti Z.zr) (hC : CallOk Z P D) {R : Type} {ops : Array Oper} {k : Sx τ → Nat → Option R} {r : R} : ∀ (rest : List Oper) (i : Nat) (cs : List (Nat × Nat)) (σ : Sx τ), (∀ j o, rest[j]? = some o → ops.toList[i + j]? = some o) → (∀ x ∈ cs, x.1 < i) → drawK Z fid D pins ops.toList (ancs [] ops.toList) H nx i rest cs σ k = some r → Nm (· < nx + 16 * i) σ →
    ∃ L σf, L.map (·.1) = List.range' i rest.length ∧ RunA Z fid D pins ops.toList (ancs [] ops.toList) H nx L σ σf ∧ k σf (nx + 16 * (i + rest.length)) = some r ∧ Nm (· < nx + 16 * (i + rest.length)) σf ∧ σf.n = σ.n ∧ (∀ j, i ≤ j → j < i + rest.length → ∀ aj, (ancs [] ops.toList)[j]? = some aj → Nat.blt aj (1 <<< j) = true) ∧
      (∀ y ∈ L, ∀ x ∈ cs, (∀ ay, (ancs [] ops.toList)[y.1]? = some ay → Nat.testBit ay x.1 = false) → Cmp (ancs [] ops.toList) H nx x.1 x.2 y.1 y.2) ∧ ∀ x ∈ L, ∀ y ∈ L, x.1 < y.1 → (∀ ay, (ancs [] ops.toList)[y.1]? = some ay → Nat.testBit ay x.1 = false) → Cmp (ancs [] ops.toList) H nx x.1 x.2 y.1 y.2
  | [], i, cs, σ, ho, hcs, h, hn => by
    simp only [drawK, knowG_eq] at h
    exact ⟨[], σ, rfl, Like.refl σ, h, hn, rfl, fun j h1 h2 => (by simp at h2; omega), fun y hy => (by cases hy), fun x hx => (by cases hx)⟩
  | o :: rest, i, cs, σ, ho, hcs, h, hn => by
    simp only [drawK, knowG_eq] at h
    split at h
    · rename_i ai hai
      cases hb : dok o.dst (usl i ai 0 (ancs [] ops.toList) ops.toList) && Nat.blt ai (1 <<< i) with
      | false => rw [hb] at h; cases h
      | true =>
        rw [hb] at h
        simp only [cond_true] at h
        have hb' := hb
        simp only [Bool.and_eq_true] at hb'
        obtain ⟨c, σ1, h1, h2⟩ := stepK_bind h
        cases hok : okC nx (ancs [] ops.toList) H i ai c cs with
        | false => rw [hok] at h2; cases h2
        | true =>
          rw [hok] at h2
          simp only [cond_true] at h2
          have hoi : ops.toList[i]? = some o := by have := ho 0 o rfl; simpa using this
          have hs : stepI Z fid D pins ops.toList (ancs [] ops.toList) H nx i σ = some (c, σ1) := by
            unfold stepI
            rw [hoi, hai]
            simp only [hb, cond_true]
            exact h1
          obtain ⟨k1, k2, k3⟩ := stepO_ok (opsA := ops) s hC hn (fun r q1 q2 q3 => by have : r < nx + 16 * i := q3; omega) (fun r hr => visN_lt hb'.2 hr) maskS_sees maskE_sees h1
          obtain ⟨L, σf, z1, z2, z3, z4, z5, z6, z7, z8⟩ := drawK_run s hC rest (i + 1) ((i, c) :: cs) σ1 (fun j o' hj => by have := ho (j + 1) o' (by simpa using hj); rw [show i + 1 + j = i + (j + 1) by omega]; exact this) (fun x hx => by
            rcases List.mem_cons.1 hx with hx | hx
            · subst hx; exact Nat.lt_succ_self i
            · have := hcs x hx; omega) h2 (k2.mono fun r hr => by
            show r < nx + 16 * (i + 1)
            rcases hr with hr | hr
            · have : r < nx + 16 * i := hr; omega
            · omega)
          have hle : i + 1 + rest.length = i + (o :: rest).length := by simp; omega
          rw [hle] at z3 z4 z6
          have hLi : ∀ y ∈ L, i < y.1 := fun y hy => by
            have : y.1 ∈ L.map (·.1) := List.mem_map.2 ⟨y, hy, rfl⟩
            rw [z1, List.mem_range'_1] at this
            omega
          refine ⟨(i, c) :: L, σf, ?_, ⟨σ1, hs, z2⟩, z3, z4, z5.trans k1, fun j q1 q2 aj q3 => ?_, fun y hy x hx hbit => ?_, fun x hx y hy hxy hbit => ?_⟩
          · simp only [List.map_cons, z1, List.length_cons, List.range'_succ]
          · by_cases hji : j = i
            · subst hji; rw [hai] at q3; cases q3; exact hb'.2
            · exact z6 j (by omega) q2 aj q3
          · rcases List.mem_cons.1 hy with hy | hy
            · subst hy; exact okC_ok hai hok x hx (hcs x hx) (hbit ai hai)
            · exact z7 y hy x (List.mem_cons_of_mem _ hx) hbit
          · rcases List.mem_cons.1 hx with hx | hx
            · subst hx
              rcases List.mem_cons.1 hy with hy | hy
              · subst hy; simp only at hxy; omega
              · exact z7 y hy _ List.mem_cons_self hbit
            · rcases List.mem_cons.1 hy with hy | hy
              · subst hy
                have := hLi x hx
                simp only at hxy
                omega
              · exact z8 x hx y hy hxy hbit
    · cases h
theorem draws_ok (hm : P.follows .mixedOrders = true) (s : Sy P Z.ti Z.zr) : DrawsOk Z P := by
  intro D hC fid pins R ops id nx σ k r h hn
  obtain ⟨L, σf, z1, z2, z3, z4, z5, z6, z7, z8⟩ := drawK_run (fid := fid) (pins := pins) s hC ops.toList 0 [] σ (fun j o hj => by simpa using hj) (fun x hx => by cases hx) h (hn.mono fun r hr => by show r < nx + 16 * 0; have : r < nx := hr; omega)
  refine ⟨σf, _, z3, z4, z5, fun B pv a w hR Q hQ => wp_region_any hm ?_⟩
  have hLlen : L.length = ops.size := by
    have := congrArg List.length z1
    simpa using this
  have hL0 : L.map (·.1) = List.range' 0 ops.size := by simpa using z1
  have hanl : (ancs [] ops.toList).length = ops.size := by
    obtain ⟨t, h1, h2⟩ := ancs_pre ops.toList []
    rw [h1]; simp [h2]
  obtain ⟨⟨θ, S, hR⟩, hP⟩ := hR
  refine drawn_any s hC (fun i ai hai => ?_) (fun σ' a' w' hl h' => hQ a' w' (hl.rz h')) ops.size L _ σ hLlen (by simp) ?_ (fun i hi => ?_) (fun x hx => ?_) (fun j aj k e1 e2 => ?_) z8 (hn.mono fun r hr => .inl hr) z2 a _ ⟨⟨θ, S, hR.drew⟩, hP⟩
  · have := (List.getElem?_eq_some_iff.1 hai).1
    exact z6 i (Nat.zero_le _) (by simp; omega) ai hai
  · rw [hL0]
    exact List.pairwise_lt_range'
  · rw [hL0, List.mem_range'_1]
    simp [hi]
  · have : x.1 ∈ L.map (·.1) := List.mem_map.2 ⟨x, hx, rfl⟩
    rw [hL0, List.mem_range'_1] at this
    omega
  · exfalso
    rw [Array.getD_eq_getD_getElem?, Array.getElem?_replicate] at e2
    split at e2 <;> simp at e2
end
end Go.Proofs.YtlkjmghomjkcmaaGreatDoor.Ri

namespace Go.Proofs.YtlkjmghomjkcmaaGreatDoor.Ri
open Go.Proofs.YtlkjmghomjkcmaaGreatDoor.Fw
open Go.RowKit
set_option linter.unusedVariables false
set_option linter.unusedSimpArgs false
section
variable {τ : Tab} {R : Type} {Z : Lw τ} {fid : Nat} {D : ∀ f, InT τ (Z.sg f) → Option (OutT τ (Z.sg f))} {pins : List Nat}
def Loc (Z : Lw τ) {α : Type} (D : ∀ f, InT τ (Z.sg f) → Option (OutT τ (Z.sg f))) (g : (∀ f, InT τ (Z.sg f) → Option (OutT τ (Z.sg f))) → Option α) (r : α) : Prop :=
  (∀ D', g D' = some r) ∨ ∃ f x y, D f x = some y ∧ ∀ D', D' f x = some y → g D' = some r
theorem callK_loc {vr : Nat → Nat} {l : Nat → Option (Sl τ)} {El : Nat → Option (Ex τ)} {G : List (Nat × Bool)} {b : Nat} {c : Call} {k : Eff τ → Option R} {r : R} (h : callK Z D vr l El G b c k = some r) : Loc Z D (fun D => callK Z D vr l El G b c k) r := by
  unfold callK at h
  split at h
  · rename_i f0 cl hc
    obtain ⟨f, hf⟩ : ∃ f, vr f0 = f := ⟨_, rfl⟩
    have e : ∀ D' : ∀ f, InT τ (Z.sg f) → Option (OutT τ (Z.sg f)), callK Z D' vr l El G b c k = callV Z D' l El G b c.args.toList cl k f0 f := fun D' => by unfold callK; rw [hc]; show callV _ _ _ _ _ _ _ _ _ _ _ = _; rw [hf]
    rw [hf] at h
    have h0 := h
    unfold callV at h
    cases h1 : Nat.beq (Z.bs f) f0 with
    | false => rw [h1] at h; cases h
    | true =>
      rw [h1] at h
      simp only [cond_true] at h
      split at h
      · rename_i vs hvs
        split at h
        · rename_i x L fr hx
          cases h2 : nodupN (somes L) with
          | false => rw [h2] at h; cases h
          | true =>
            cases h3 : apart (somes L) fr with
            | false => rw [h2, h3] at h; cases h
            | true =>
              rw [h2, h3] at h
              simp only [cond_true] at h
              split at h
              · rename_i y hy
                refine .inr ⟨f, x, y, hy, fun D' h' => ?_⟩
                show callK Z D' vr l El G b c k = some r
                rw [e]
                simp only [callV, h1, hvs, hx, h2, h3, cond_true, h']
                exact h
              · cases h
        · cases h
      · cases h
  · cases h
theorem stepK_loc {nx : Nat} {ops : List Oper} {q : Nat → Bool} {b : Nat} {l : Nat → Option (Sl τ)} {El : Nat → Option (Ex τ)} {o : Oper} {σ : Sx τ} {k : Nat → Sx τ → Option R} {r : R} (h : stepK Z fid D pins nx ops q b l El o σ k = some r) : Loc Z D (fun D => stepK Z fid D pins nx ops q b l El o σ k) r := by
  have call : ∀ {G : List (Nat × Bool)} {c : Call} {k' : Eff τ → Option R}, callK Z D (Z.vr fid) l El G b c k' = some r → (∀ D', stepK Z fid D' pins nx ops q b l El o σ k = callK Z D' (Z.vr fid) l El G b c k') → Loc Z D (fun D => stepK Z fid D pins nx ops q b l El o σ k) r := by
    intro G c k' h1 h2
    rcases callK_loc h1 with h3 | ⟨f, x, y, h3, h4⟩
    · exact .inl fun D' => (h2 D').trans (h3 D')
    · exact .inr ⟨f, x, y, h3, fun D' h' => (h2 D').trans (h4 D' h')⟩
  have h0 := h
  unfold stepK at h
  split at h
  · rename_i hg
    split at h
    · rename_i c v hv
      exact .inl fun D' => by unfold stepK; simp only [hg, hv]; exact h
    · rename_i hv
      split at h
      · rename_i c ef he
        exact .inl fun D' => by unfold stepK; simp only [hg, hv, he]; exact h
      · rename_i he
        split at h
        · rename_i c hop
          refine call h fun D' => ?_
          unfold stepK
          rw [hop] at hv he
          simp only [hg, hop, hv, he]
        · cases h
  · rename_i j want hg
    split at h
    · rename_i t ht
      split at h
      · rename_i g G hgr
        split at h
        · rename_i c v hv
          exact .inl fun D' => by unfold stepK; simp only [hg, ht, hgr, hv]; exact h
        · rename_i hv
          cases hgt : g with
          | false =>
            subst hgt
            exact .inl fun D' => by unfold stepK; simp only [hg, ht, hgr, hv]; exact h
          | true =>
            subst hgt
            simp only [cond_true] at h
            split at h
            · rename_i c ef he
              exact .inl fun D' => by unfold stepK; simp only [hg, ht, hgr, hv, he, cond_true]; exact h
            · rename_i he
              split at h
              · rename_i c hop
                refine call h fun D' => ?_
                unfold stepK
                rw [hop] at hv he
                simp only [hg, ht, hgr, hop, hv, he, cond_true]
              · cases h
      · cases h
    · cases h
end
def Ev (p : Nat → Prop) : Prop := ∃ N, ∀ n, N ≤ n → p n
theorem Ev.all {p : Nat → Prop} (h : ∀ n, p n) : Ev p := ⟨0, fun n _ => h n⟩
theorem Ev.and {p q r : Nat → Prop} (h1 : Ev p) (h2 : Ev q) (h : ∀ n, p n → q n → r n) : Ev r := by
  obtain ⟨N, h1⟩ := h1
  obtain ⟨M, h2⟩ := h2
  exact ⟨max N M, fun n hn => h n (h1 n (by omega)) (h2 n (by omega))⟩
def Lim {α β : Type} (k : α → Option β) (kn : Nat → α → Option β) : Prop := ∀ a r, k a = some r → Ev fun n => kn n a = some r
def Lim2 {α β γ : Type} (k : α → γ → Option β) (kn : Nat → α → γ → Option β) : Prop := ∀ a c r, k a c = some r → Ev fun n => kn n a c = some r
section
variable {τ : Tab} {R : Type} {Z : Lw τ} {fid : Nat} {D : ∀ f, InT τ (Z.sg f) → Option (OutT τ (Z.sg f))} {Dn : Nat → ∀ f, InT τ (Z.sg f) → Option (OutT τ (Z.sg f))} {pins : List Nat}
theorem Loc.ev {α : Type} {g : (∀ f, InT τ (Z.sg f) → Option (OutT τ (Z.sg f))) → Option α} {r : α} (h : Loc Z D g r) (hD : ∀ f, Lim (D f) fun n => Dn n f) : Ev fun n => g (Dn n) = some r := by
  rcases h with h | ⟨f, x, y, h1, h2⟩
  · exact Ev.all fun n => h _
  · obtain ⟨N, h3⟩ := hD f x y h1
    exact ⟨N, fun n hn => h2 _ (h3 n hn)⟩
theorem stepK_of {nx : Nat} {ops : List Oper} {q : Nat → Bool} {b : Nat} {l : Nat → Option (Sl τ)} {El : Nat → Option (Ex τ)} {o : Oper} {σ σ' : Sx τ} {c : Nat} (h : stepO Z fid D pins nx ops q b l El o σ = some (c, σ')) (k : Nat → Sx τ → Option R) : stepK Z fid D pins nx ops q b l El o σ k = k c σ' := by
  have put : ∀ {c0 : Nat} {d : Option Nat} {s : Sl τ} {σ : Sx τ}, putK pins d s σ (fun σ' => some (c0, σ')) = some (c, σ') → putK pins d s σ (k c0) = k c σ' := by
    intro c0 d s σ h
    obtain ⟨σ1, h1, h2⟩ := putK_bind h
    cases h2
    exact h1 _ _
  have app : ∀ {c0 : Nat} {d : Option Nat} {q : Nat → Bool} {ef : Eff τ} {σ : Sx τ}, appK pins d q ef σ (fun σ' => some (c0, σ')) = some (c, σ') → appK pins d q ef σ (k c0) = k c σ' := by
    intro c0 d q ef σ h
    obtain ⟨σ1, h1, h2⟩ := appK_bind h
    cases h2
    exact h1 _ _
  unfold stepO stepK at h
  unfold stepK
  split at h
  · rename_i hg
    try simp only [hg]
    split at h
    · rename_i c0 v hv
      try simp only [hv]
      cases hc : c0 with
      | false => rw [hc] at h; cases h
      | true =>
        rw [hc] at h
        simp only [cond_true] at h ⊢
        cases hb : v.bl q with
        | false => rw [hb] at h; cases h
        | true => rw [hb] at h; exact put h
    · rename_i hv
      try simp only [hv]
      split at h
      · rename_i c0 ef he
        try simp only [he]
        cases hc : c0 with
        | false => rw [hc] at h; cases h
        | true => rw [hc] at h; exact app h
      · rename_i he
        try simp only [he]
        split at h
        · rename_i cl hop
          try simp only [hop]
          obtain ⟨ef, h1, h2⟩ := callK_bind h
          rw [h1]
          exact app h2
        · cases h
  · rename_i j want hg
    try simp only [hg]
    split at h
    · rename_i t ht
      try simp only [ht]
      split at h
      · rename_i g G hgr
        try simp only [hgr]
        split at h
        · rename_i c0 v hv
          try simp only [hv]
          cases hc : (bif c0 then true else !g) with
          | false => rw [hc] at h; cases h
          | true =>
            rw [hc] at h
            simp only [cond_true] at h ⊢
            cases hb : v.bl q && gdok o.dst t with
            | false => rw [hb] at h; cases h
            | true => rw [hb] at h; exact put h
        · rename_i hv
          try simp only [hv]
          cases hgt : g with
          | false =>
            rw [hgt] at h
            exact put h
          | true =>
            rw [hgt] at h
            simp only [cond_true] at h ⊢
            split at h
            · rename_i c0 ef he
              try simp only [he]
              cases hc : c0 with
              | false => rw [hc] at h; cases h
              | true => rw [hc] at h; exact app h
            · rename_i he
              try simp only [he]
              split at h
              · rename_i cl hop
                try simp only [hop]
                obtain ⟨ef, h1, h2⟩ := callK_bind h
                rw [h1]
                exact app h2
              · cases h
      · cases h
    · cases h
theorem stepK_lim {nx : Nat} {ops : List Oper} {q : Nat → Bool} {b : Nat} {l : Nat → Option (Sl τ)} {El : Nat → Option (Ex τ)} {o : Oper} {σ : Sx τ} {k : Nat → Sx τ → Option R} {kn : Nat → Nat → Sx τ → Option R} {r : R} (hD : ∀ f, Lim (D f) fun n => Dn n f) (hk : Lim2 k kn) (h : stepK Z fid D pins nx ops q b l El o σ k = some r) : Ev fun n => stepK Z fid (Dn n) pins nx ops q b l El o σ (kn n) = some r := by
  obtain ⟨c, σ', h1, h2⟩ := stepK_bind h
  refine Ev.and ((stepK_loc h1).ev hD) (hk c σ' r h2) fun n h3 h4 => ?_
  rw [stepK_of h3]
  exact h4
theorem rgnK_lim (hD : ∀ f, Lim (D f) fun n => Dn n f) {ops : List Oper} {k : Sx τ → Nat → Option R} {kn : Nat → Sx τ → Nat → Option R} (hk : Lim2 k kn) : ∀ {rs : List Oper} {b : Nat} {σ : Sx τ} {r : R}, rgnK Z fid D pins ops b rs σ k = some r → Ev fun n => rgnK Z fid (Dn n) pins ops b rs σ (kn n) = some r
  | [], b, σ, r, h => hk _ _ _ h
  | o :: rs, b, σ, r, h => by
    simp only [rgnK, knowG_eq] at h ⊢
    exact stepK_lim (kn := fun n _ σ' => rgnK Z fid (Dn n) pins ops (b + 16) rs σ' (kn n)) hD (fun c σ' r h' => rgnK_lim hD hk h') h
theorem drawK_lim (hD : ∀ f, Lim (D f) fun n => Dn n f) {ops : List Oper} {A : List Nat} {H : Nat → Nat} {nx : Nat} {k : Sx τ → Nat → Option R} {kn : Nat → Sx τ → Nat → Option R} (hk : Lim2 k kn) : ∀ {rs : List Oper} {i : Nat} {cs : List (Nat × Nat)} {σ : Sx τ} {r : R}, drawK Z fid D pins ops A H nx i rs cs σ k = some r → Ev fun n => drawK Z fid (Dn n) pins ops A H nx i rs cs σ (kn n) = some r
  | [], i, cs, σ, r, h => hk _ _ _ h
  | o :: rs, i, cs, σ, r, h => by
    simp only [drawK, knowG_eq] at h ⊢
    split at h
    · rename_i ai hai
      try simp only [hai]
      cases hb : dok o.dst (usl i ai 0 A ops) && Nat.blt ai (1 <<< i) with
      | false => rw [hb] at h; cases h
      | true =>
        rw [hb] at h
        simp only [cond_true] at h ⊢
        refine stepK_lim (kn := fun n c σ' => bif okC nx A H i ai c cs then drawK Z fid (Dn n) pins ops A H nx (i + 1) rs ((i, c) :: cs) σ' (kn n) else none) hD (fun c σ' r h' => ?_) h
        cases hc : okC nx A H i ai c cs with
        | false => rw [hc] at h'; cases h'
        | true =>
          rw [hc] at h'
          obtain ⟨N, hN⟩ := drawK_lim hD hk h'
          exact ⟨N, fun n hn => by simp only [hc, cond_true]; exact hN n hn⟩
    · cases h
structure LimKt (K : Kt τ R) (Kn : Nat → Kt τ R) : Prop where
  k : Lim2 K.k fun n => (Kn n).k
  ex : ∀ id k, lkA K.ex id = some k → ∃ kn : Nat → Sx τ → Nat → Option R, (∀ n, lkA (Kn n).ex id = some (kn n)) ∧ Lim2 k kn
theorem LimKt.block {K : Kt τ R} {Kn : Nat → Kt τ R} (h : LimKt K Kn) (id : Nat) : LimKt ⟨K.k, (id, K.k) :: K.ex⟩ fun n => ⟨(Kn n).k, (id, (Kn n).k) :: (Kn n).ex⟩ := ⟨h.k, fun i k hk => by
  simp only [lkA] at hk ⊢
  cases hb : Nat.beq id i with
  | true => rw [hb] at hk; cases hk; exact ⟨fun n => (Kn n).k, fun n => rfl, h.k⟩
  | false => rw [hb] at hk; exact h.ex i k hk⟩
variable {J : Nat → Sx τ → Nat → Option R} {Jn : Nat → Nat → Sx τ → Nat → Option R} {rt : Sx τ → Nat → Option R}
theorem meetK_lim (hJ : ∀ p, Lim2 (J p) fun n => Jn n p) {p : Nat} {σ : Sx τ} {nx : Nat} {k : Sx τ → Nat → Option R} {kn : Nat → Sx τ → Nat → Option R} {r : R} (hk : Lim2 k kn) (h : meetK Z fid J p σ nx k = some r) : Ev fun n => meetK Z fid (Jn n) p σ nx (kn n) = some r := by
  unfold meetK at h ⊢
  cases ha : Z.ann fid p with
  | none => rw [ha] at h; exact hk _ _ _ h
  | some A =>
    rw [ha] at h
    simp only at h ⊢
    cases hm : meetX A σ nx with
    | none => rw [hm] at h; cases h
    | some q => rw [hm] at h; exact hJ p _ _ _ h
theorem loopK_lim (hJ : ∀ p, Lim2 (J p) fun n => Jn n p) {p : Nat} {σ : Sx τ} {nx : Nat} {r : R} (h : loopK Z fid J p σ nx = some r) : Ev fun n => loopK Z fid (Jn n) p σ nx = some r := by
  unfold loopK at h ⊢
  cases ha : Z.ann fid p with
  | none => rw [ha] at h; cases h
  | some A =>
    rw [ha] at h
    simp only at h ⊢
    cases hm : meetX A σ nx with
    | none => rw [hm] at h; cases h
    | some q => rw [hm] at h; exact hJ p _ _ _ h
theorem codeK_lim (hD : ∀ f, Lim (D f) fun n => Dn n f) (hJ : ∀ p, Lim2 (J p) fun n => Jn n p) : ∀ (c : Code) (p : Nat) {K : Kt τ R} {Kn : Nat → Kt τ R}, LimKt K Kn → Lim2 (codeK Z fid D pins J rt c p K) fun n => codeK Z fid (Dn n) pins (Jn n) rt c p (Kn n)
  | .skip, p, K, Kn, hK => fun σ nx r h => hK.k σ nx r h
  | .region id ops dr, p, K, Kn, hK => fun σ nx r h => by
    simp only [codeK] at h ⊢
    cases dr with
    | true => exact drawK_lim hD hK.k h
    | false => exact rgnK_lim hD hK.k h
  | .seq x y, p, K, Kn, hK => fun σ nx r h => by
    simp only [codeK] at h ⊢
    exact codeK_lim hD hJ x (2 * p) (K := ⟨fun σ nx => meetK Z fid J (2 * p + 1) σ nx (codeK Z fid D pins J rt y (2 * p + 1) K), K.ex⟩) (Kn := fun n => ⟨fun σ nx => meetK Z fid (Jn n) (2 * p + 1) σ nx (codeK Z fid (Dn n) pins (Jn n) rt y (2 * p + 1) (Kn n)), (Kn n).ex⟩) ⟨fun σ nx r h => meetK_lim hJ (codeK_lim hD hJ y (2 * p + 1) hK) h, hK.ex⟩ σ nx r h
  | .cond c x y, p, K, Kn, hK => fun σ nx r h => by
    simp only [codeK] at h ⊢
    split at h
    · rename_i t ht
      try simp only [ht]
      cases t with
      | true => exact codeK_lim hD hJ x (2 * p) hK σ nx r h
      | false => exact codeK_lim hD hJ y (2 * p + 1) hK σ nx r h
    · cases h
  | .block id c, p, K, Kn, hK => fun σ nx r h => by
    simp only [codeK] at h ⊢
    exact codeK_lim hD hJ c (2 * p) (hK.block id) σ nx r h
  | .loop _, p, K, Kn, hK => fun σ nx r h => loopK_lim hJ h
  | .exit id, p, K, Kn, hK => fun σ nx r h => by
    simp only [codeK] at h ⊢
    cases he : lkA K.ex id with
    | none => rw [he] at h; cases h
    | some k =>
      rw [he] at h
      obtain ⟨kn, h1, h2⟩ := hK.ex id k he
      obtain ⟨N, h3⟩ := h2 σ nx r h
      exact ⟨N, fun n hn => by
        show (match lkA (Kn n).ex id with
          | some k => k σ nx
          | none => none) = some r
        rw [h1 n]; exact h3 n hn⟩
  | .ret, p, K, Kn, hK => fun σ nx r h => Ev.all fun n => h
  | .rangeFunc _ _ _ _, p, K, Kn, hK => fun σ nx r h => by cases h
  | .scope _, p, K, Kn, hK => fun σ nx r h => by cases h
  | .label _, p, K, Kn, hK => fun σ nx r h => by cases h
  | .goto _, p, K, Kn, hK => fun σ nx r h => by cases h
  | .refuse _, p, K, Kn, hK => fun σ nx r h => by cases h
theorem goTo_lim (hD : ∀ f, Lim (D f) fun n => Dn n f) (hJ : ∀ p, Lim2 (J p) fun n => Jn n p) : ∀ (π : List Bool) (c : Code) (p : Nat) {K : Kt τ R} {Kn : Nat → Kt τ R}, LimKt K Kn → Lim2 (goTo Z fid D pins J rt π c p K) fun n => goTo Z fid (Dn n) pins (Jn n) rt π c p (Kn n)
  | [], c, p, K, Kn, hK => by simp only [goTo]; exact codeK_lim hD hJ c p hK
  | b :: π, .seq x y, p, K, Kn, hK => by
    simp only [goTo]
    cases b with
    | true => exact goTo_lim hD hJ π y (2 * p + 1) hK
    | false => exact goTo_lim hD hJ π x (2 * p) (K := ⟨fun σ nx => meetK Z fid J (2 * p + 1) σ nx (codeK Z fid D pins J rt y (2 * p + 1) K), K.ex⟩) (Kn := fun n => ⟨fun σ nx => meetK Z fid (Jn n) (2 * p + 1) σ nx (codeK Z fid (Dn n) pins (Jn n) rt y (2 * p + 1) (Kn n)), (Kn n).ex⟩) ⟨fun σ nx r h => meetK_lim hJ (codeK_lim hD hJ y (2 * p + 1) hK) h, hK.ex⟩
  | b :: π, .cond _ x y, p, K, Kn, hK => by
    simp only [goTo]
    cases b with
    | true => exact goTo_lim hD hJ π y (2 * p + 1) hK
    | false => exact goTo_lim hD hJ π x (2 * p) hK
  | _ :: π, .block id c, p, K, Kn, hK => by simp only [goTo]; exact goTo_lim hD hJ π c (2 * p) (hK.block id)
  | _ :: π, .loop c, p, K, Kn, hK => by
    simp only [goTo]
    exact goTo_lim hD hJ π c (2 * p) (K := ⟨fun σ nx => loopK Z fid J (2 * p) σ nx, K.ex⟩) (Kn := fun n => ⟨fun σ nx => loopK Z fid (Jn n) (2 * p) σ nx, (Kn n).ex⟩) ⟨fun σ nx r h => loopK_lim hJ h, hK.ex⟩
  | _ :: _, .skip, p, K, Kn, hK => fun σ nx r h => by cases h
  | _ :: _, .region _ _ _, p, K, Kn, hK => fun σ nx r h => by cases h
  | _ :: _, .exit _, p, K, Kn, hK => fun σ nx r h => by cases h
  | _ :: _, .ret, p, K, Kn, hK => fun σ nx r h => by cases h
  | _ :: _, .rangeFunc _ _ _ _, p, K, Kn, hK => fun σ nx r h => by cases h
  | _ :: _, .scope _, p, K, Kn, hK => fun σ nx r h => by cases h
  | _ :: _, .label _, p, K, Kn, hK => fun σ nx r h => by cases h
  | _ :: _, .goto _, p, K, Kn, hK => fun σ nx r h => by cases h
  | _ :: _, .refuse _, p, K, Kn, hK => fun σ nx r h => by cases h
end
section
variable {τ : Tab} (Z : Lw τ) (F : Nat → Option Fx)
section
variable {Z F}
variable {D : ∀ f, InT τ (Z.sg f) → Option (OutT τ (Z.sg f))} {Dn : Nat → ∀ f, InT τ (Z.sg f) → Option (OutT τ (Z.sg f))} {J : ∀ f, Nat → Sx τ → Nat → Option (OutT τ (Z.sg f))} {Jn : Nat → ∀ f, Nat → Sx τ → Nat → Option (OutT τ (Z.sg f))}
theorem runF_lim (hD : ∀ f, Lim (D f) fun n => Dn n f) (hJ : ∀ f p, Lim2 (J f p) fun n => Jn n f p) (f p : Nat) : Lim2 (runF Z F D J f p) fun n => runF Z F (Dn n) (Jn n) f p := by
  intro σ nx r h
  unfold runF at h ⊢
  cases hF : F f with
  | none => rw [hF] at h; cases h
  | some X =>
    rw [hF] at h
    exact goTo_lim hD (hJ f) _ _ _ (K := ⟨fun σ _ => retX Z X.rs (Z.sg f) σ, []⟩) (Kn := fun _ => ⟨fun σ _ => retX Z X.rs (Z.sg f) σ, []⟩) ⟨fun σ nx r h => Ev.all fun n => h, fun id k hk => by cases hk⟩ σ nx r h
theorem begF_lim (hJ : ∀ f p, Lim2 (J f p) fun n => Jn n f p) (f : Nat) : Lim (begF Z F J f) fun n => begF Z F (Jn n) f := by
  intro x r h
  unfold begF at h ⊢
  cases hx : Z.isx f with
  | true => rw [hx] at h; exact Ev.all fun _ => by simpa [hx] using h
  | false =>
  rw [hx] at h
  simp only [cond_false] at h
  simp only [hx, cond_false]
  cases hF : F f with
  | none => rw [hF] at h; cases h
  | some X =>
    rw [hF] at h
    simp only at h ⊢
    generalize canO Z.O Z.ti (ptrs (Z.sg f).ps).length (Z.sg f).ps (List.range (ptrs (Z.sg f).ps).length) x = C at h ⊢
    obtain ⟨vs, E, nx⟩ := C
    simp only at h ⊢
    cases hb : Nat.ble vs.length X.n with
    | false => rw [hb] at h; cases h
    | true => rw [hb] at h; exact hJ f 1 _ _ _ h
end
theorem run_up : ∀ (n f p : Nat) (σ : Sx τ) (nx : Nat) (y : OutT τ (Z.sg f)), run Z F n f p σ nx = some y → run Z F (n + 1) f p σ nx = some y
  | 0, f, p, σ, nx, y, h => by cases h
  | n + 1, f, p, σ, nx, y, h => by
    have hJ : ∀ f p, Lim2 (run Z F n f p) fun _ => run Z F (n + 1) f p := fun f p σ nx r h => Ev.all fun _ => run_up n f p σ nx r h
    obtain ⟨N, hN⟩ := runF_lim (F := F) (begF_lim (F := F) hJ) hJ f p σ nx y h
    exact hN N (Nat.le_refl _)
theorem run_le {n m : Nat} (h : n ≤ m) {f p : Nat} {σ : Sx τ} {nx : Nat} {y : OutT τ (Z.sg f)} (hy : run Z F n f p σ nx = some y) : run Z F m f p σ nx = some y := by
  induction h with
  | refl => exact hy
  | step _ ih => exact run_up Z F _ f p σ nx y ih
open Classical in
noncomputable def Run (f p : Nat) (σ : Sx τ) (nx : Nat) : Option (OutT τ (Z.sg f)) := if h : ∃ n, (run Z F n f p σ nx).isSome = true then run Z F (Classical.choose h) f p σ nx else none
theorem Run_lim (f p : Nat) : Lim2 (Run Z F f p) fun n => run Z F n f p := by
  intro σ nx y h
  unfold Run at h
  split at h
  · exact ⟨_, fun n hn => run_le Z F hn h⟩
  · cases h
theorem Run_of {n f p : Nat} {σ : Sx τ} {nx : Nat} {y : OutT τ (Z.sg f)} (h : run Z F n f p σ nx = some y) : Run Z F f p σ nx = some y := by
  have hx : ∃ n, (run Z F n f p σ nx).isSome = true := ⟨n, by rw [h]; rfl⟩
  unfold Run
  rw [dif_pos hx]
  have hs := Classical.choose_spec hx
  obtain ⟨y', hy'⟩ := Option.isSome_iff_exists.1 hs
  rw [hy']
  rcases Nat.le_total n (Classical.choose hx) with hle | hle
  · rw [run_le Z F hle h] at hy'; rw [← hy']
  · rw [run_le Z F hle hy'] at h; rw [h]
noncomputable def Den (f : Nat) (x : InT τ (Z.sg f)) : Option (OutT τ (Z.sg f)) := begF Z F (fun f p σ nx => runF Z F (fun g y => begF Z F (Run Z F) g y) (Run Z F) f p σ nx) f x
theorem Run_eq (f p : Nat) (σ : Sx τ) (nx : Nat) : Run Z F f p σ nx = runF Z F (begF Z F (Run Z F)) (Run Z F) f p σ nx := by
  have key : ∀ y, Run Z F f p σ nx = some y ↔ runF Z F (begF Z F (Run Z F)) (Run Z F) f p σ nx = some y := by
    intro y
    constructor
    · intro h
      obtain ⟨N, hN⟩ := Run_lim Z F f p σ nx y h
      have h1 := hN (N + 1) (Nat.le_succ _)
      have hJ : ∀ f p, Lim2 (run Z F N f p) fun _ => Run Z F f p := fun f p σ nx r h => Ev.all fun _ => Run_of Z F h
      obtain ⟨M, hM⟩ := runF_lim (F := F) (begF_lim (F := F) hJ) hJ f p σ nx y h1
      exact hM M (Nat.le_refl _)
    · intro h
      obtain ⟨N, hN⟩ := runF_lim (F := F) (begF_lim (F := F) (Run_lim Z F)) (Run_lim Z F) f p σ nx y h
      exact Run_of Z F (n := N + 1) (hN N (Nat.le_refl _))
  cases h : Run Z F f p σ nx with
  | some y => exact ((key y).1 h).symm
  | none =>
    cases h' : runF Z F (begF Z F (Run Z F)) (Run Z F) f p σ nx with
    | none => rfl
    | some y => rw [(key y).2 h'] at h; cases h
theorem Den_beg (f : Nat) (x : InT τ (Z.sg f)) : Den Z F f x = begF Z F (Run Z F) f x := by
  have e : (fun f p σ nx => runF Z F (fun g y => begF Z F (Run Z F) g y) (Run Z F) f p σ nx) = Run Z F := by
    funext f p σ nx
    exact (Run_eq Z F f p σ nx).symm
  unfold Den
  rw [e]
theorem Den_eq (f : Nat) (x : InT τ (Z.sg f)) : Den Z F f x = begF Z F (fun f p σ nx => runF Z F (Den Z F) (Run Z F) f p σ nx) f x := by
  have e : Den Z F = fun g y => begF Z F (Run Z F) g y := by
    funext f x
    exact Den_beg Z F f x
  rw [e]
  exact (Den_beg Z F f x).symm.trans rfl
theorem Run_eq' (f p : Nat) (σ : Sx τ) (nx : Nat) : Run Z F f p σ nx = runF Z F (Den Z F) (Run Z F) f p σ nx := by
  have e : Den Z F = begF Z F (Run Z F) := by
    funext f x
    exact Den_beg Z F f x
  rw [e]
  exact Run_eq Z F f p σ nx
variable {Z F}
theorem Den_ok {P : Program} (s : Sy P Z.ti Z.zr) (hO : MkFit Z.O) (hF : FOk Z P F) (hC : CallsOk Z P) (hD : DrawsOk Z P) (hXt : ∀ f, Z.isx f = true → Ct Z P f (Z.xt f)) (f : Nat) : Ct Z P f (Den Z F f) := by
  have hJ : JOk Z P F (Run Z F) := fun f p σ nx y h => by
    obtain ⟨N, hN⟩ := Run_lim Z F f p σ nx y h
    exact run_ok s hO hF hC hD hXt N f p σ nx y (hN N (Nat.le_refl _))
  have := begF_ok hF hJ hXt f
  have e : Den Z F f = begF Z F (Run Z F) f := funext fun x => Den_beg Z F f x
  rw [e]
  exact this
end
end Go.Proofs.YtlkjmghomjkcmaaGreatDoor.Ri

namespace Go.Proofs.YtlkjmghomjkcmaaGreatDoor.Fw
open Go.RowKit
set_option linter.unusedVariables false
def Fk.pull {σ τ : Type} (f : σ → τ) : Fk τ → Fk σ
  | .int g => .int fun x => g (f x)
  | .byte g => .byte fun x => g (f x)
  | .bool g => .bool fun x => g (f x)
  | .str g => .str fun x => g (f x)
  | .sl β d g => .sl β d fun x => g (f x)
theorem RdL_pull {σ τ : Type} (f : σ → τ) {S : Nat → Prop} {w : World} {x : σ} : ∀ {fk : List (Fk τ)} {cs : List Value}, RdL S w x (fk.map (Fk.pull f)) cs ↔ RdL S w (f x) fk cs
  | [], _ => Iff.rfl
  | g :: fs, cs => by
    have key : ∀ v, (Fk.pull f g).rd S w x v ↔ g.rd S w (f x) v := fun v => by cases g <;> exact Iff.rfl
    constructor
    · rintro ⟨v, r, rfl, h1, h2⟩; exact ⟨v, r, rfl, (key v).1 h1, (RdL_pull f).1 h2⟩
    · rintro ⟨v, r, rfl, h1, h2⟩; exact ⟨v, r, rfl, (key v).2 h1, (RdL_pull f).2 h2⟩
theorem OwL_pull {σ τ : Type} (f : σ → τ) {w : World} {x : σ} : ∀ {fk : List (Fk τ)} {cs : List Value} {F : List Nat}, OwL w x (fk.map (Fk.pull f)) cs F ↔ OwL w (f x) fk cs F
  | [], _, _ => Iff.rfl
  | g :: fs, cs, F => by
    have key : ∀ v G, (Fk.pull f g).own w x v G ↔ g.own w (f x) v G := fun v G => by cases g <;> exact Iff.rfl
    constructor
    · rintro ⟨v, r, G, H, rfl, rfl, h1, h2⟩; exact ⟨v, r, G, H, rfl, rfl, (key v G).1 h1, (OwL_pull f).1 h2⟩
    · rintro ⟨v, r, G, H, rfl, rfl, h1, h2⟩; exact ⟨v, r, G, H, rfl, rfl, (key v G).2 h1, (OwL_pull f).2 h2⟩
theorem GdL_pull {σ τ : Type} (f : σ → τ) {x : σ} : ∀ {fk : List (Fk τ)}, GdL (f x) fk → GdL x (fk.map (Fk.pull f))
  | [], h => h
  | g :: fs, h => ⟨by cases g <;> exact h.1, GdL_pull f h.2⟩
theorem RdL_app {α : Type} {S : Nat → Prop} {w : World} {x : α} : ∀ {f g : List (Fk α)} {cs : List Value}, RdL S w x (f ++ g) cs ↔ ∃ c d, cs = c ++ d ∧ RdL S w x f c ∧ RdL S w x g d
  | [], g, cs => ⟨fun h => ⟨[], cs, rfl, rfl, h⟩, fun ⟨c, d, e, h1, h2⟩ => by cases h1; rw [e]; exact h2⟩
  | a :: f, g, cs => by
    constructor
    · rintro ⟨v, r, rfl, h1, h2⟩
      obtain ⟨c, d, rfl, h3, h4⟩ := RdL_app.1 h2
      exact ⟨v :: c, d, rfl, ⟨v, c, rfl, h1, h3⟩, h4⟩
    · rintro ⟨c, d, rfl, ⟨v, r, rfl, h1, h2⟩, h4⟩
      exact ⟨v, r ++ d, rfl, h1, RdL_app.2 ⟨r, d, rfl, h2, h4⟩⟩
theorem OwL_app {α : Type} {w : World} {x : α} : ∀ {f g : List (Fk α)} {cs : List Value} {F : List Nat}, OwL w x (f ++ g) cs F ↔ ∃ c d G H, cs = c ++ d ∧ F = G ++ H ∧ OwL w x f c G ∧ OwL w x g d H
  | [], g, cs, F => ⟨fun h => ⟨[], cs, [], F, rfl, rfl, ⟨rfl, rfl⟩, h⟩, fun ⟨c, d, G, H, e, e2, ⟨h1, h1'⟩, h2⟩ => by subst h1; subst h1'; rw [e, e2]; exact h2⟩
  | a :: f, g, cs, F => by
    constructor
    · rintro ⟨v, r, G, H, rfl, rfl, h1, h2⟩
      obtain ⟨c, d, G', H', rfl, rfl, h3, h4⟩ := OwL_app.1 h2
      exact ⟨v :: c, d, G ++ G', H', rfl, by rw [List.append_assoc], ⟨v, c, G, G', rfl, rfl, h1, h3⟩, h4⟩
    · rintro ⟨c, d, G, H, rfl, rfl, ⟨v, r, G', H', rfl, rfl, h1, h2⟩, h4⟩
      exact ⟨v, r ++ d, G', H' ++ H, rfl, by rw [List.append_assoc], h1, OwL_app.2 ⟨r, d, H', H, rfl, rfl, h2, h4⟩⟩
theorem GdL_app {α : Type} {x : α} : ∀ {f g : List (Fk α)}, GdL x f → GdL x g → GdL x (f ++ g)
  | [], _, _, h => h
  | _ :: _, _, h, h' => ⟨h.1, GdL_app h.2 h'⟩
instance : Str Bool where
  fk := [.bool id]
  op h := ⟨_, [], h.1, rfl, rfl⟩
  cl h := by obtain ⟨v, r, rfl, rfl, rfl⟩ := h; exact ⟨rfl, trivial⟩
  oop h := ⟨_, [], [], [], h.1.1, by rw [h.2]; rfl, ⟨rfl, rfl⟩, rfl, rfl⟩
  omk h := by obtain ⟨v, r, G, H, rfl, rfl, ⟨rfl, rfl⟩, rfl, rfl⟩ := h; exact ⟨⟨rfl, trivial⟩, rfl⟩
  gd h := ⟨trivial, trivial⟩
instance {α β : Type} [Dat α] [Dat β] [Str α] [Str β] : Str (α × β) where
  fk := (Str.fk (α := α)).map (Fk.pull Prod.fst) ++ (Str.fk (α := β)).map (Fk.pull Prod.snd)
  op h := by
    obtain ⟨c, d, rfl, h1, h2⟩ := h
    exact RdL_app.2 ⟨c, d, rfl, (RdL_pull _).2 (Str.op h1), (RdL_pull _).2 (Str.op h2)⟩
  cl h := by
    obtain ⟨c, d, rfl, h1, h2⟩ := RdL_app.1 h
    exact ⟨c, d, rfl, Str.cl ((RdL_pull _).1 h1), Str.cl ((RdL_pull _).1 h2)⟩
  oop h := by
    obtain ⟨c, d, G, H, rfl, rfl, h1, h2⟩ := h
    exact OwL_app.2 ⟨c, d, G, H, rfl, rfl, (OwL_pull _).2 (Str.oop h1), (OwL_pull _).2 (Str.oop h2)⟩
  omk h := by
    obtain ⟨c, d, G, H, rfl, rfl, h1, h2⟩ := OwL_app.1 h
    exact ⟨c, d, G, H, rfl, rfl, Str.omk ((OwL_pull _).1 h1), Str.omk ((OwL_pull _).1 h2)⟩
  gd h := GdL_app (GdL_pull Prod.fst (Str.gd h.1)) (GdL_pull Prod.snd (Str.gd h.2))
theorem pull_op {σ τ : Type} [d : Dat τ] [s : Str τ] (f : σ → τ) {S : Nat → Prop} {w : World} {cs : List Value} {x : σ} (h : @Dat.rd σ (Dat.pull f) S w cs x) : RdL S w x (s.fk.map (Fk.pull f)) cs := (RdL_pull f).2 (s.op h)
theorem pull_cl {σ τ : Type} [d : Dat τ] [s : Str τ] (f : σ → τ) {S : Nat → Prop} {w : World} {cs : List Value} {x : σ} (h : RdL S w x (s.fk.map (Fk.pull f)) cs) : @Dat.rd σ (Dat.pull f) S w cs x := s.cl ((RdL_pull f).1 h)
theorem pull_oop {σ τ : Type} [d : Dat τ] [s : Str τ] (f : σ → τ) {w : World} {cs : List Value} {x : σ} {F : List Nat} (h : @Dat.own σ (Dat.pull f) w cs x F) : OwL w x (s.fk.map (Fk.pull f)) cs F := (OwL_pull f).2 (s.oop h)
theorem pull_omk {σ τ : Type} [d : Dat τ] [s : Str τ] (f : σ → τ) {w : World} {cs : List Value} {x : σ} {F : List Nat} (h : OwL w x (s.fk.map (Fk.pull f)) cs F) : @Dat.own σ (Dat.pull f) w cs x F := s.omk ((OwL_pull f).1 h)
theorem pull_gd {σ τ : Type} [d : Dat τ] [s : Str τ] (f : σ → τ) {x : σ} (h : @Dat.good σ (Dat.pull f) x) : GdL x (s.fk.map (Fk.pull f)) := GdL_pull f (s.gd h)
instance : Str Cell where
  fk := [.str (fun x => x.Key), .str (fun x => x.Val)]
  op h := pull_op (fun x : Cell => (x.Key, x.Val)) h
  cl h := pull_cl (fun x : Cell => (x.Key, x.Val)) h
  oop h := pull_oop (fun x : Cell => (x.Key, x.Val)) h
  omk h := pull_omk (fun x : Cell => (x.Key, x.Val)) h
  gd h := pull_gd (fun x : Cell => (x.Key, x.Val)) h
instance : Str Touch where
  fk := [.sl ByteArray instDatByteArray (fun x => x.Reads), .sl ByteArray instDatByteArray (fun x => x.Writes)]
  op h := pull_op (fun x : Touch => (x.Reads, x.Writes)) h
  cl h := pull_cl (fun x : Touch => (x.Reads, x.Writes)) h
  oop h := pull_oop (fun x : Touch => (x.Reads, x.Writes)) h
  omk h := pull_omk (fun x : Touch => (x.Reads, x.Writes)) h
  gd h := pull_gd (fun x : Touch => (x.Reads, x.Writes)) h
instance : Str Mach where
  fk := [.sl Cell instDatCell (fun x => x.Store), .sl ByteArray instDatByteArray (fun x => x.Touch.Reads), .sl ByteArray instDatByteArray (fun x => x.Touch.Writes)]
  op h := pull_op (fun x : Mach => (x.Store, x.Touch)) h
  cl h := pull_cl (fun x : Mach => (x.Store, x.Touch)) h
  oop h := pull_oop (fun x : Mach => (x.Store, x.Touch)) h
  omk h := pull_omk (fun x : Mach => (x.Store, x.Touch)) h
  gd h := pull_gd (fun x : Mach => (x.Store, x.Touch)) h
instance : Str Call where
  fk := [.int (fun x => x.Kind), .str (fun x => x.Name), .str (fun x => x.To), .int (fun x => x.A), .int (fun x => x.B), .str (fun x => x.Text)]
  op h := pull_op (fun x : Call => (x.Kind, x.Name, x.To, x.A, x.B, x.Text)) h
  cl h := pull_cl (fun x : Call => (x.Kind, x.Name, x.To, x.A, x.B, x.Text)) h
  oop h := pull_oop (fun x : Call => (x.Kind, x.Name, x.To, x.A, x.B, x.Text)) h
  omk h := pull_omk (fun x : Call => (x.Kind, x.Name, x.To, x.A, x.B, x.Text)) h
  gd h := pull_gd (fun x : Call => (x.Kind, x.Name, x.To, x.A, x.B, x.Text)) h
instance : Str Answer where
  fk := [.int (fun x => x.Code), .int (fun x => x.N), .str (fun x => x.Text)]
  op h := pull_op (fun x : Answer => (x.Code, x.N, x.Text)) h
  cl h := pull_cl (fun x : Answer => (x.Code, x.N, x.Text)) h
  oop h := pull_oop (fun x : Answer => (x.Code, x.N, x.Text)) h
  omk h := pull_omk (fun x : Answer => (x.Code, x.N, x.Text)) h
  gd h := pull_gd (fun x : Answer => (x.Code, x.N, x.Text)) h
instance : Str Step where
  fk := [.int (fun x => x.Proc), .int (fun x => x.Call.Kind), .str (fun x => x.Call.Name), .str (fun x => x.Call.To), .int (fun x => x.Call.A), .int (fun x => x.Call.B), .str (fun x => x.Call.Text)]
  op h := pull_op (fun x : Step => (x.Proc, x.Call)) h
  cl h := pull_cl (fun x : Step => (x.Proc, x.Call)) h
  oop h := pull_oop (fun x : Step => (x.Proc, x.Call)) h
  omk h := pull_omk (fun x : Step => (x.Proc, x.Call)) h
  gd h := pull_gd (fun x : Step => (x.Proc, x.Call)) h
instance : Str Tx where
  fk := [.int (fun x => x.Id), .int (fun x => x.Age), .int (fun x => x.Proc), .int (fun x => x.Began), .sl Call instDatCall (fun x => x.Calls), .sl Answer instDatAnswer (fun x => x.Answers), .sl ByteArray instDatByteArray (fun x => x.Touch.Reads), .sl ByteArray instDatByteArray (fun x => x.Touch.Writes), .sl Int instDatInt (fun x => x.Marks), .int (fun x => x.State)]
  op h := pull_op (fun x : Tx => (x.Id, x.Age, x.Proc, x.Began, x.Calls, x.Answers, x.Touch, x.Marks, x.State)) h
  cl h := pull_cl (fun x : Tx => (x.Id, x.Age, x.Proc, x.Began, x.Calls, x.Answers, x.Touch, x.Marks, x.State)) h
  oop h := pull_oop (fun x : Tx => (x.Id, x.Age, x.Proc, x.Began, x.Calls, x.Answers, x.Touch, x.Marks, x.State)) h
  omk h := pull_omk (fun x : Tx => (x.Id, x.Age, x.Proc, x.Began, x.Calls, x.Answers, x.Touch, x.Marks, x.State)) h
  gd h := pull_gd (fun x : Tx => (x.Id, x.Age, x.Proc, x.Began, x.Calls, x.Answers, x.Touch, x.Marks, x.State)) h
instance : Str Journal where
  fk := [.str (fun x => x.Text), .int (fun x => x.Sure)]
  op h := pull_op (fun x : Journal => (x.Text, x.Sure)) h
  cl h := pull_cl (fun x : Journal => (x.Text, x.Sure)) h
  oop h := pull_oop (fun x : Journal => (x.Text, x.Sure)) h
  omk h := pull_omk (fun x : Journal => (x.Text, x.Sure)) h
  gd h := pull_gd (fun x : Journal => (x.Text, x.Sure)) h
instance : Str Slot where
  fk := [.int (fun x => x.Seq), .sl Cell instDatCell (fun x => x.Cells), .bool (fun x => x.Whole)]
  op h := pull_op (fun x : Slot => (x.Seq, x.Cells, x.Whole)) h
  cl h := pull_cl (fun x : Slot => (x.Seq, x.Cells, x.Whole)) h
  oop h := pull_oop (fun x : Slot => (x.Seq, x.Cells, x.Whole)) h
  omk h := pull_omk (fun x : Slot => (x.Seq, x.Cells, x.Whole)) h
  gd h := pull_gd (fun x : Slot => (x.Seq, x.Cells, x.Whole)) h
instance : Str Disk where
  fk := [.sl Slot instDatSlot (fun x => x.Slots), .str (fun x => x.Journal.Text), .int (fun x => x.Journal.Sure)]
  op h := pull_op (fun x : Disk => (x.Slots, x.Journal)) h
  cl h := pull_cl (fun x : Disk => (x.Slots, x.Journal)) h
  oop h := pull_oop (fun x : Disk => (x.Slots, x.Journal)) h
  omk h := pull_omk (fun x : Disk => (x.Slots, x.Journal)) h
  gd h := pull_gd (fun x : Disk => (x.Slots, x.Journal)) h
instance : Str Entry where
  fk := [.int (fun x => x.Seq), .int (fun x => x.Kind), .int (fun x => x.Tx), .sl Step instDatStep (fun x => x.Steps), .sl Answer instDatAnswer (fun x => x.Answers), .int (fun x => x.Began), .int (fun x => x.Ended), .bool (fun x => x.Laid)]
  op h := pull_op (fun x : Entry => (x.Seq, x.Kind, x.Tx, x.Steps, x.Answers, x.Began, x.Ended, x.Laid)) h
  cl h := pull_cl (fun x : Entry => (x.Seq, x.Kind, x.Tx, x.Steps, x.Answers, x.Began, x.Ended, x.Laid)) h
  oop h := pull_oop (fun x : Entry => (x.Seq, x.Kind, x.Tx, x.Steps, x.Answers, x.Began, x.Ended, x.Laid)) h
  omk h := pull_omk (fun x : Entry => (x.Seq, x.Kind, x.Tx, x.Steps, x.Answers, x.Began, x.Ended, x.Laid)) h
  gd h := pull_gd (fun x : Entry => (x.Seq, x.Kind, x.Tx, x.Steps, x.Answers, x.Began, x.Ended, x.Laid)) h
instance : Str Kernel where
  fk := [.sl Cell instDatCell (fun x => x.Store), .sl Tx instDatTx (fun x => x.Txs), .sl Slot instDatSlot (fun x => x.Disk.Slots), .str (fun x => x.Disk.Journal.Text), .int (fun x => x.Disk.Journal.Sure), .int (fun x => x.Seq), .int (fun x => x.Next), .int (fun x => x.Time), .sl Entry instDatEntry (fun x => x.History), .sl ByteArray instDatByteArray (fun x => x.Seen), .bool (fun x => x.Room)]
  op h := pull_op (fun x : Kernel => (x.Store, x.Txs, x.Disk, x.Seq, x.Next, x.Time, x.History, x.Seen, x.Room)) h
  cl h := pull_cl (fun x : Kernel => (x.Store, x.Txs, x.Disk, x.Seq, x.Next, x.Time, x.History, x.Seen, x.Room)) h
  oop h := pull_oop (fun x : Kernel => (x.Store, x.Txs, x.Disk, x.Seq, x.Next, x.Time, x.History, x.Seen, x.Room)) h
  omk h := pull_omk (fun x : Kernel => (x.Store, x.Txs, x.Disk, x.Seq, x.Next, x.Time, x.History, x.Seen, x.Room)) h
  gd h := pull_gd (fun x : Kernel => (x.Store, x.Txs, x.Disk, x.Seq, x.Next, x.Time, x.History, x.Seen, x.Room)) h
instance : Str Deed where
  fk := [.int (fun x => x.Kind), .int (fun x => x.N), .int (fun x => x.M), .int (fun x => x.Call.Kind), .str (fun x => x.Call.Name), .str (fun x => x.Call.To), .int (fun x => x.Call.A), .int (fun x => x.Call.B), .str (fun x => x.Call.Text)]
  op h := pull_op (fun x : Deed => (x.Kind, x.N, x.M, x.Call)) h
  cl h := pull_cl (fun x : Deed => (x.Kind, x.N, x.M, x.Call)) h
  oop h := pull_oop (fun x : Deed => (x.Kind, x.N, x.M, x.Call)) h
  omk h := pull_omk (fun x : Deed => (x.Kind, x.N, x.M, x.Call)) h
  gd h := pull_gd (fun x : Deed => (x.Kind, x.N, x.M, x.Call)) h
end Go.Proofs.YtlkjmghomjkcmaaGreatDoor.Fw

namespace Go.Proofs.YtlkjmghomjkcmaaGreatDoor.Ri
open Go.Proofs.YtlkjmghomjkcmaaGreatDoor.Fw
open Go.RowKit
set_option linter.unusedVariables false
set_option linter.unusedSimpArgs false
inductive Fc where
  | int
  | byte
  | bool
  | str
  | sl (e : Nat)
section
variable (τ : Tab)
def Fc.T : Fc → Type
  | .int => Int
  | .byte => UInt8
  | .bool => Bool
  | .str => ByteArray
  | .sl e => List (τ.T e)
def HF : List Fc → Type
  | [] => Unit
  | f :: fs => f.T τ × HF fs
end
section
variable {τ : Tab} {S : Nat → Prop} {w : World}
def Fc.rd (S : Nat → Prop) (w : World) (v : Value) : (f : Fc) → f.T τ → Prop
  | .int, n => v = .int .i64 n ∧ I64 n
  | .byte, n => v = .int .u8 (UInt8.toNat n : Nat)
  | .bool, b => v = .bool b
  | .str, s => v = .string s ∧ s.size ≤ maxLen
  | .sl e, xs => SlR S w v xs
def RdF (S : Nat → Prop) (w : World) : (fs : List Fc) → HF τ fs → List Value → Prop
  | [], _, us => us = []
  | f :: fs, (x, h), us => ∃ v r, us = v :: r ∧ Fc.rd S w v f x ∧ RdF S w fs h r
def Fc.cl : (f : Fc) → f.T τ → Cl τ
  | .int, n => .v (.int .i64 n)
  | .byte, n => .v (.int .u8 (UInt8.toNat n : Nat))
  | .bool, b => .v (.bool b)
  | .str, s => .v (.string s)
  | .sl e, xs => .sl e xs
def clF : (fs : List Fc) → HF τ fs → List (Cl τ)
  | [], _ => []
  | f :: fs, (x, h) => f.cl x :: clF fs h
def ofInt : Cl τ → Option Int
  | .v (.int .i64 n) => some n
  | _ => none
def ofBool : Cl τ → Option Bool
  | .v (.bool b) => some b
  | _ => none
def ofStr : Cl τ → Option ByteArray
  | .v (.string s) => some s
  | _ => none
def u8of (n : Int) : UInt8 := UInt8.ofNat n.toNat
def ofByte : Cl τ → Option UInt8
  | .v (.int .u8 n) => some (u8of n)
  | _ => none
def isNil : Value → Bool
  | .slice none n m => Nat.ble n 0 && Nat.ble m 0
  | _ => false
def ofSl (e : Nat) : Cl τ → Option (List (τ.T e))
  | .sl e' xs => castL e' e xs
  | .v x => bif isNil x then some [] else none
def Fc.of (f : Fc) (c : Cl τ) : Option (f.T τ) := match f with
  | .int => ofInt c
  | .byte => ofByte c
  | .bool => ofBool c
  | .str => ofStr c
  | .sl e => ofSl e c
theorem isNil_ok {x : Value} (h : isNil x = true) : x = .slice none 0 0 := by
  cases x with
  | slice A n m =>
    cases A with
    | some A => cases h
    | none =>
      simp only [isNil, Bool.and_eq_true] at h
      rw [Nat.eq_zero_of_le_zero (Nat.le_of_ble_eq_true h.1), Nat.eq_zero_of_le_zero (Nat.le_of_ble_eq_true h.2)]
  | _ => cases h
def mkF : (fs : List Fc) → List (Cl τ) → Option (HF τ fs)
  | [], [] => some ()
  | f :: fs, c :: cs => match f.of c, mkF fs cs with
    | some x, some h => some (x, h)
    | _, _ => none
  | _, _ => none
theorem clF_op : ∀ {fs : List Fc} {h : HF τ fs} {us : List Value}, RdF S w fs h us → RdC S w us (clF fs h)
  | [], _, us, h => h
  | f :: fs, (x, h), us, ⟨v, r, h1, h2, h3⟩ => ⟨v, r, h1, by
    cases f with
    | int => obtain ⟨rfl, hg⟩ := h2; exact ⟨rfl, wrap_id (by unfold I64 at hg; simp [loK, hiK, IntKind.signed, IntKind.bits]; omega), rfl⟩
    | byte => exact ⟨h2, wrap_id (by have := UInt8.toNat_lt x; simp [loK, hiK, IntKind.signed, IntKind.bits]; omega), rfl⟩
    | bool => exact ⟨h2, trivial, rfl⟩
    | str => obtain ⟨rfl, hg⟩ := h2; exact ⟨rfl, hg, rfl⟩
    | sl e => exact h2, clF_op h3⟩
def Fc.flat : Fc → Bool
  | .sl _ => false
  | _ => true
theorem RdF.swap {S' : Nat → Prop} {w' : World} : ∀ {fs : List Fc} {h : HF τ fs} {us : List Value}, fs.all Fc.flat = true → RdF S w fs h us → RdF S' w' fs h us
  | [], _, us, _, h => h
  | f :: fs, (x, h), us, ha, ⟨v, r, h1, h2, h3⟩ => by
    simp only [List.all_cons, Bool.and_eq_true] at ha
    exact ⟨v, r, h1, (by cases f <;> first | exact h2 | (simp [Fc.flat] at ha)), RdF.swap ha.2 h3⟩
theorem ofInt_ok {c : Cl τ} {x : Int} (h : ofInt c = some x) : c = .v (.int .i64 x) := by
  unfold ofInt at h
  split at h
  · cases h; rfl
  · cases h
theorem ofBool_ok {c : Cl τ} {x : Bool} (h : ofBool c = some x) : c = .v (.bool x) := by
  unfold ofBool at h
  split at h
  · cases h; rfl
  · cases h
theorem ofStr_ok {c : Cl τ} {x : ByteArray} (h : ofStr c = some x) : c = .v (.string x) := by
  unfold ofStr at h
  split at h
  · cases h; rfl
  · cases h
theorem u8of_ok {n : Int} (h : IntKind.u8.wrap n = n) : ((u8of n).toNat : Int) = n := by
  have := good_in h
  simp [loK, hiK, IntKind.signed, IntKind.bits] at this
  unfold u8of
  rw [UInt8.toNat_ofNat']
  omega
theorem ofByte_ok {c : Cl τ} {x : UInt8} (h : ofByte c = some x) : ∃ n, c = .v (.int .u8 n) ∧ x = u8of n := by
  unfold ofByte at h
  split at h
  · rename_i n; cases h; exact ⟨n, rfl, rfl⟩
  · cases h
theorem Fc.of_ok {f : Fc} {c : Cl τ} {x : f.T τ} (h : f.of c = some x) : Fit1 c (f.cl x) ∧ ∀ {S : Nat → Prop} {w : World} {v : Value}, c.rd S w v → Fc.rd S w v f x := by
  cases f with
  | int =>
    obtain rfl := ofInt_ok h
    refine ⟨⟨fun _ => rfl, fun A n m e => (by cases e)⟩, fun {S w v} hv => ⟨hv.1, ?_⟩⟩
    have := good_in (k := .i64) (n := x) hv.2.1
    unfold I64; simp [loK, hiK, IntKind.signed, IntKind.bits] at this; omega
  | byte =>
    obtain ⟨n, rfl, rfl⟩ := ofByte_ok h
    exact ⟨⟨fun hg => by rw [u8of_ok hg], fun A n m e => (by cases e)⟩, fun {S w v} hv => by
      show v = _
      rw [u8of_ok hv.2.1]
      exact hv.1⟩
  | bool =>
    obtain rfl := ofBool_ok h
    exact ⟨⟨fun _ => rfl, fun A n m e => (by cases e)⟩, fun {S w v} hv => hv.1⟩
  | str =>
    obtain rfl := ofStr_ok h
    exact ⟨⟨fun _ => rfl, fun A n m e => (by cases e)⟩, fun {S w v} hv => ⟨hv.1, hv.2.1⟩⟩
  | sl e =>
    cases c with
    | sl e' xs =>
      obtain ⟨rfl, hh⟩ := castL_ok (show castL e' e xs = some x from h)
      cases hh
      exact ⟨rfl, fun {S w v} hv => hv⟩
    | v y =>
      have h' : (bif isNil y then some [] else none) = some x := h
      cases hb : isNil y with
      | false => rw [hb] at h'; cases h'
      | true =>
        rw [hb] at h'
        obtain rfl : [] = x := Option.some.inj h'
        obtain rfl := isNil_ok hb
        refine ⟨⟨rfl, rfl, rfl, rfl⟩, fun {S w v} hv => ?_⟩
        show SlR S w v []
        rw [hv.1]
        exact SlR.nil rfl rfl
theorem mkF_ok : ∀ {fs : List Fc} {cs : List (Cl τ)} {h : HF τ fs}, mkF fs cs = some h → Fit cs (clF fs h) ∧ ∀ {S : Nat → Prop} {w : World} {us : List Value}, RdC S w us cs → RdF S w fs h us
  | [], [], _, hm => by cases hm; exact ⟨trivial, fun {S w us} h => h⟩
  | [], _ :: _, _, hm => by cases hm
  | _ :: _, [], _, hm => by cases hm
  | f :: fs, c :: cs, (x, h), hm => by
    simp only [mkF] at hm
    split at hm
    · rename_i x' h' e1 e2
      cases hm
      obtain ⟨k1, k2⟩ := Fc.of_ok e1
      obtain ⟨k3, k4⟩ := mkF_ok e2
      exact ⟨⟨k1, k3⟩, fun {S w us} ⟨v, r, q1, q2, q3⟩ => ⟨v, r, q1, k2 q2, k4 q3⟩⟩
    · cases hm
end
def cap1 {τ : Tab} (t : Nat) (x : τ.T t) : List (Σ e, τ.T e) := [⟨t, x⟩]
def uncap1 {τ : Tab} (t : Nat) : List (Σ e, τ.T e) → Option (τ.T t)
  | [⟨e, y⟩] => castE e t y
  | _ => none
theorem cap1_ok {τ : Tab} {t : Nat} {l : List (Σ e, τ.T e)} {x : τ.T t} (h : uncap1 t l = some x) : cap1 t x = l := by
  unfold uncap1 at h
  split at h
  · rename_i e y
    unfold castE at h
    split at h
    · rename_i he; subst he; cases h; rfl
    · cases h
  · cases h
structure TyO (τ : Tab) (t : Nat) where
  fs : List Fc
  tu : τ.T t → HF τ fs
  of : HF τ fs → τ.T t
  back : ∀ h, tu (of h) = h
  op : ∀ {S : Nat → Prop} {w : World} {us : List Value} {x : τ.T t}, Dat.rd S w us x → RdF S w fs (tu x) us
  cl : ∀ {S : Nat → Prop} {w : World} {us : List Value} {x : τ.T t}, RdF S w fs (tu x) us → Dat.rd S w us x
  bt : Option ((τ.T t → UInt8) × (UInt8 → τ.T t)) := none
  bl : ∀ p, bt = some p → Dat.sz (τ.T t) = 1 ∧ (∀ (S : Nat → Prop) (w : World) (us : List Value) (x : τ.T t), Dat.rd S w us x → us = [.int .u8 ((p.1 x).toNat : Nat)]) ∧ ∀ (S : Nat → Prop) (w : World) (x : UInt8), Dat.rd S w [.int .u8 (x.toNat : Nat)] (p.2 x) := by intro p h; cases h
  cap : τ.T t → List (Σ e, τ.T e) := cap1 t
  uncap : List (Σ e, τ.T e) → Option (τ.T t) := uncap1 t
  capok : ∀ l x, uncap l = some x → cap x = l := by exact fun l x h => cap1_ok h
def TyO.byt {τ : Tab} {t : Nat} (o : TyO τ t) : Bool := match o.bt with
  | some _ => true
  | none => false
def TyO.toB {τ : Tab} {t : Nat} (o : TyO τ t) (x : τ.T t) : UInt8 := match o.bt with
  | some p => p.1 x
  | none => 0
def TyO.ofB {τ : Tab} {t : Nat} (o : TyO τ t) (x : UInt8) : τ.T t := match o.bt with
  | some p => p.2 x
  | none => default
theorem TyO.byt_ok {τ : Tab} {t : Nat} (o : TyO τ t) (h : o.byt = true) : ∃ p, o.bt = some p ∧ (∀ x, o.toB x = p.1 x) ∧ ∀ x, o.ofB x = p.2 x := by
  unfold TyO.byt at h
  split at h
  · rename_i p hp
    refine ⟨p, hp, fun x => ?_, fun x => ?_⟩
    · unfold TyO.toB; rw [hp]
    · unfold TyO.ofB; rw [hp]
  · cases h
def TyO.fld {τ : Tab} {t : Nat} (o : TyO τ t) (x : τ.T t) : List (Cl τ) := clF o.fs (o.tu x)
def TyO.mk' {τ : Tab} {t : Nat} (o : TyO τ t) (l : List (Cl τ)) : Option (τ.T t) := match mkF o.fs l with
  | some h => some (o.of h)
  | none => none
theorem TyO.mk_ok {τ : Tab} {t : Nat} {o : TyO τ t} {l : List (Cl τ)} {x : τ.T t} (h : o.mk' l = some x) : Fit l (o.fld x) ∧ ∀ {S : Nat → Prop} {w : World} {us : List Value}, RdC S w us l → Dat.rd S w us x := by
  unfold TyO.mk' at h
  split at h
  · rename_i y hy
    cases h
    obtain ⟨h1, h2⟩ := mkF_ok hy
    unfold TyO.fld
    rw [o.back]
    exact ⟨h1, fun {S w us} hr => o.cl (by rw [o.back]; exact h2 hr)⟩
  · cases h
def lkO {τ : Tab} : (L : List (Σ t, TyO τ t)) → (t : Nat) → ((∀ x ∈ L, x.1 ≠ t) → TyO τ t) → TyO τ t
  | [], t, m => m (fun x hx => by cases hx)
  | ⟨k, o⟩ :: r, t, m => if h : k = t then h ▸ o else lkO r t fun hr => m fun x hx => by
    rcases List.mem_cons.1 hx with rfl | hx
    · exact h
    · exact hr x hx
def opnOf {τ : Tab} (o : ∀ t, TyO τ t) : Opn τ := ⟨fun t => (o t).fld, fun t => (o t).mk', fun t x h => clF_op ((o t).op h), fun t l x h hr => (TyO.mk_ok h).2 hr, fun t => (o t).fs.all Fc.flat, fun t x h hr => (o t).cl (RdF.swap h ((o t).op hr)), fun t => (o t).byt, fun t => (o t).toB, fun t => (o t).ofB, fun t h => by
  obtain ⟨p, h1, _, _⟩ := (o t).byt_ok h
  exact ((o t).bl p h1).1, fun {S w us} t x h hr => by
  obtain ⟨p, h1, h2, _⟩ := (o t).byt_ok h
  rw [h2]
  exact ((o t).bl p h1).2.1 S w us x hr, fun {S w} t x h => by
  obtain ⟨p, h1, _, h3⟩ := (o t).byt_ok h
  rw [h3]
  exact ((o t).bl p h1).2.2 S w x, fun t => (o t).cap, fun t => (o t).uncap, fun t => (o t).capok⟩
theorem opnOf_fit {τ : Tab} (o : ∀ t, TyO τ t) : MkFit (opnOf o) := fun t l x h => (TyO.mk_ok h).1
structure Ty where
  T : Type
  d : Dat T
  i : Inhabited T
def lkTy : List (Nat × Ty) → Nat → Ty
  | [], _ => ⟨Int, inferInstance, inferInstance⟩
  | (k, x) :: r, t => bif Nat.beq k t then x else lkTy r t
theorem lkTy_miss : ∀ {L : List (Nat × Ty)} {t : Nat}, (∀ k ∈ L.map (·.1), k ≠ t) → lkTy L t = ⟨Int, inferInstance, inferInstance⟩
  | [], _, _ => rfl
  | (k, x) :: r, t, h => by
    simp only [lkTy]
    rw [beq_f (h k (by simp))]
    exact lkTy_miss fun k' hk' => h k' (by simp at hk' ⊢; exact .inr hk')
def tabOf (L : List (Nat × Ty)) : Tab := ⟨fun t => (lkTy L t).T, fun t => (lkTy L t).d, fun t => (lkTy L t).i⟩
def castT {b : Ty} (e : b = ⟨Int, inferInstance, inferInstance⟩) (x : b.T) : Int := cast (congrArg Ty.T e) x
def castU {b : Ty} (e : b = ⟨Int, inferInstance, inferInstance⟩) (x : Int) : b.T := cast (congrArg Ty.T e).symm x
theorem castTU {b : Ty} (e : b = ⟨Int, inferInstance, inferInstance⟩) (x : Int) : castT e (castU e x) = x := by subst e; rfl
theorem castT_rd {b : Ty} (e : b = ⟨Int, inferInstance, inferInstance⟩) {S : Nat → Prop} {w : World} {us : List Value} {x : b.T} : @Dat.rd b.T b.d S w us x ↔ Dat.rd S w us (castT e x) := by subst e; exact Iff.rfl
def tyMiss {L : List (Nat × Ty)} {t : Nat} (e : lkTy L t = ⟨Int, inferInstance, inferInstance⟩) : TyO (tabOf L) t where
  fs := [.int]
  tu := fun x => (castT e x, ())
  of := fun h => castU e h.1
  back h := by
    obtain ⟨x, u⟩ := h
    exact congrArg (fun y : Int => ((y, ()) : Int × Unit)) (castTU e x)
  op {S w us x} h := by
    have := (castT_rd e).1 h
    exact Str.op (α := Int) this
  cl {S w us x} h := (castT_rd e).2 (Str.cl (α := Int) h)
end Go.Proofs.YtlkjmghomjkcmaaGreatDoor.Ri

namespace Go.Proofs.YtlkjmghomjkcmaaGreatDoor.Fw
open Go.RowKit
set_option linter.unusedVariables false
set_option maxRecDepth 100000
def lkT : List (Nat × TI) → Nat → TI
  | [], _ => .no
  | (k, i) :: r, t => bif Nat.beq k t then i else lkT r t
theorem lkT_ok {P : Program} : ∀ {l : List (Nat × TI)}, (l.all fun p => p.2.chk P p.1) = true → ∀ t, (lkT l t).chk P t = true
  | [], _, _ => rfl
  | (k, i) :: r, h, t => by
    simp only [List.all_cons, Bool.and_eq_true] at h
    simp only [lkT]
    cases e : Nat.beq k t with
    | true => obtain rfl := Nat.eq_of_beq_eq_true e; exact h.1
    | false => exact lkT_ok h.2 t
def lkZ : List (Nat × Value) → Nat → Option Value
  | [], _ => none
  | (k, i) :: r, t => bif Nat.beq k t then some i else lkZ r t
def ZOk (P : Program) : List (Nat × Value) → Prop
  | [] => True
  | p :: r => (∀ w, (zeroValue p.1).run P w = .ok p.2 w) ∧ ZOk P r
theorem lkZ_ok {P : Program} : ∀ {l : List (Nat × Value)}, ZOk P l → ∀ t z, lkZ l t = some z → ∀ w, (zeroValue t).run P w = .ok z w
  | [], _, _, _, h => by cases h
  | (k, i) :: r, h, t, z, hz => by
    simp only [lkZ] at hz
    cases e : Nat.beq k t with
    | true => obtain rfl := Nat.eq_of_beq_eq_true e; rw [e] at hz; cases hz; exact h.1
    | false => rw [e] at hz; exact lkZ_ok h.2 t z hz
def tiL : List (Nat × TI) := [(3, .int .i64),
  (4, .bool),
  (5, .int .u8),
  (9, .str),
  (22, .sl 74 2 32),
  (23, .sl 80 10 160),
  (24, .sl 116 3 40),
  (26, .st 2 [(0, 1), (1, 1)]),
  (28, .st 3 [(0, 1), (1, 2)]),
  (29, .sl 86 8 96),
  (30, .sl 9 1 16),
  (32, .st 11 [(0, 1), (1, 1), (2, 3), (5, 1), (6, 1), (7, 1), (8, 1), (9, 1), (10, 1)]),
  (35, .sl 92 2 32),
  (36, .sl 58 10 160),
  (37, .sl 132 3 40),
  (38, .st 2 [(0, 1), (1, 1)]),
  (40, .st 3 [(0, 1), (1, 2)]),
  (41, .sl 98 8 96),
  (43, .st 11 [(0, 1), (1, 1), (2, 3), (5, 1), (6, 1), (7, 1), (8, 1), (9, 1), (10, 1)]),
  (52, .sl 123 6 72),
  (53, .sl 119 3 32),
  (55, .st 2 [(0, 1), (1, 1)]),
  (56, .sl 3 1 8),
  (58, .st 10 [(0, 1), (1, 1), (2, 1), (3, 1), (4, 1), (5, 1), (6, 2), (8, 1), (9, 1)]),
  (66, .one),
  (74, .st 2 [(0, 1), (1, 1)]),
  (76, .sl 147 6 72),
  (77, .sl 149 3 32),
  (78, .st 2 [(0, 1), (1, 1)]),
  (80, .st 10 [(0, 1), (1, 1), (2, 1), (3, 1), (4, 1), (5, 1), (6, 2), (8, 1), (9, 1)]),
  (84, .sl 152 7 80),
  (86, .st 8 [(0, 1), (1, 1), (2, 1), (3, 1), (4, 1), (5, 1), (6, 1), (7, 1)]),
  (89, .sl 125 7 80),
  (92, .st 2 [(0, 1), (1, 1)]),
  (98, .st 8 [(0, 1), (1, 1), (2, 1), (3, 1), (4, 1), (5, 1), (6, 1), (7, 1)]),
  (102, .st 3 [(0, 1), (1, 2)]),
  (116, .st 3 [(0, 1), (1, 1), (2, 1)]),
  (119, .st 3 [(0, 1), (1, 1), (2, 1)]),
  (123, .st 6 [(0, 1), (1, 1), (2, 1), (3, 1), (4, 1), (5, 1)]),
  (125, .st 7 [(0, 1), (1, 6)]),
  (132, .st 3 [(0, 1), (1, 1), (2, 1)]),
  (136, .one),
  (140, .one),
  (147, .st 6 [(0, 1), (1, 1), (2, 1), (3, 1), (4, 1), (5, 1)]),
  (149, .st 3 [(0, 1), (1, 1), (2, 1)]),
  (152, .st 7 [(0, 1), (1, 6)]),
  (233, .sl 5 1 1),
  (244, .one)]
def ti (t : Nat) : TI := lkT tiL t
theorem tiok : ∀ t, (ti t).chk Tryz.prog t = true := lkT_ok (by kernel_rfl)
def zrL : List (Nat × Value) := [(3, Value.int IntKind.i64 0),
  (4, Value.bool false),
  (5, Value.int IntKind.u8 0),
  (9, Value.string { data := #[] }),
  (22, Value.slice none 0 0),
  (23, Value.slice none 0 0),
  (24, Value.slice none 0 0),
  (26, Value.agg #[Value.string { data := #[] }, Value.int IntKind.i64 0]),
  (28, Value.agg #[Value.slice none 0 0, Value.string { data := #[] }, Value.int IntKind.i64 0]),
  (29, Value.slice none 0 0),
  (30, Value.slice none 0 0),
  (32, Value.agg #[Value.slice none 0 0, Value.slice none 0 0, Value.slice none 0 0, Value.string { data := #[] }, Value.int IntKind.i64 0, Value.int IntKind.i64 0, Value.int IntKind.i64 0, Value.int IntKind.i64 0, Value.slice none 0 0, Value.slice none 0 0, Value.bool false]),
  (35, Value.slice none 0 0),
  (36, Value.slice none 0 0),
  (37, Value.slice none 0 0),
  (38, Value.agg #[Value.string { data := #[] }, Value.int IntKind.i64 0]),
  (40, Value.agg #[Value.slice none 0 0, Value.string { data := #[] }, Value.int IntKind.i64 0]),
  (41, Value.slice none 0 0),
  (43, Value.agg #[Value.slice none 0 0, Value.slice none 0 0, Value.slice none 0 0, Value.string { data := #[] }, Value.int IntKind.i64 0, Value.int IntKind.i64 0, Value.int IntKind.i64 0, Value.int IntKind.i64 0, Value.slice none 0 0, Value.slice none 0 0, Value.bool false]),
  (52, Value.slice none 0 0),
  (53, Value.slice none 0 0),
  (55, Value.agg #[Value.slice none 0 0, Value.slice none 0 0]),
  (56, Value.slice none 0 0),
  (58, Value.agg #[Value.int IntKind.i64 0, Value.int IntKind.i64 0, Value.int IntKind.i64 0, Value.int IntKind.i64 0, Value.slice none 0 0, Value.slice none 0 0, Value.slice none 0 0, Value.slice none 0 0, Value.slice none 0 0, Value.int IntKind.i64 0]),
  (66, Value.nilFunc),
  (74, Value.agg #[Value.string { data := #[] }, Value.string { data := #[] }]),
  (76, Value.slice none 0 0),
  (77, Value.slice none 0 0),
  (78, Value.agg #[Value.slice none 0 0, Value.slice none 0 0]),
  (80, Value.agg #[Value.int IntKind.i64 0, Value.int IntKind.i64 0, Value.int IntKind.i64 0, Value.int IntKind.i64 0, Value.slice none 0 0, Value.slice none 0 0, Value.slice none 0 0, Value.slice none 0 0, Value.slice none 0 0, Value.int IntKind.i64 0]),
  (84, Value.slice none 0 0),
  (86, Value.agg #[Value.int IntKind.i64 0, Value.int IntKind.i64 0, Value.int IntKind.i64 0, Value.slice none 0 0, Value.slice none 0 0, Value.int IntKind.i64 0, Value.int IntKind.i64 0, Value.bool false]),
  (89, Value.slice none 0 0),
  (92, Value.agg #[Value.string { data := #[] }, Value.string { data := #[] }]),
  (98, Value.agg #[Value.int IntKind.i64 0, Value.int IntKind.i64 0, Value.int IntKind.i64 0, Value.slice none 0 0, Value.slice none 0 0, Value.int IntKind.i64 0, Value.int IntKind.i64 0, Value.bool false]),
  (102, Value.agg #[Value.slice none 0 0, Value.slice none 0 0, Value.slice none 0 0]),
  (116, Value.agg #[Value.int IntKind.i64 0, Value.slice none 0 0, Value.bool false]),
  (119, Value.agg #[Value.int IntKind.i64 0, Value.int IntKind.i64 0, Value.string { data := #[] }]),
  (123, Value.agg #[Value.int IntKind.i64 0, Value.string { data := #[] }, Value.string { data := #[] }, Value.int IntKind.i64 0, Value.int IntKind.i64 0, Value.string { data := #[] }]),
  (125, Value.agg #[Value.int IntKind.i64 0, Value.int IntKind.i64 0, Value.string { data := #[] }, Value.string { data := #[] }, Value.int IntKind.i64 0, Value.int IntKind.i64 0, Value.string { data := #[] }]),
  (132, Value.agg #[Value.int IntKind.i64 0, Value.slice none 0 0, Value.bool false]),
  (136, Value.pointer none),
  (140, Value.nilFunc),
  (147, Value.agg #[Value.int IntKind.i64 0, Value.string { data := #[] }, Value.string { data := #[] }, Value.int IntKind.i64 0, Value.int IntKind.i64 0, Value.string { data := #[] }]),
  (149, Value.agg #[Value.int IntKind.i64 0, Value.int IntKind.i64 0, Value.string { data := #[] }]),
  (152, Value.agg #[Value.int IntKind.i64 0, Value.int IntKind.i64 0, Value.string { data := #[] }, Value.string { data := #[] }, Value.int IntKind.i64 0, Value.int IntKind.i64 0, Value.string { data := #[] }]),
  (233, Value.slice none 0 0),
  (244, Value.nilFunc)]
def ftL : List (Nat × Nat × Nat) := []
def lkFt : List (Nat × Nat × Nat) → Nat → Nat → Option Nat
  | [], _, _ => none
  | (t, i, f) :: r, t' , i' => bif Nat.beq t t' && Nat.beq i i' then some f else lkFt r t' i'
def arL : List (Nat × Nat) := []
def lkAr : List (Nat × Nat) → Nat → Option Nat
  | [], _ => none
  | (t, n) :: r, t' => bif Nat.beq t t' then some n else lkAr r t'
def sqL : List (Nat × List Nat) := [(26, [1, 0]), (38, [1, 0]), (74, [1, 1]), (92, [1, 1]), (119, [0, 0, 1]), (123, [0, 1, 1, 0, 0, 1]), (147, [0, 1, 1, 0, 0, 1]), (149, [0, 0, 1])]
def lkSq : List (Nat × List Nat) → Nat → Option (List Nat)
  | [], _ => none
  | (t, n) :: r, t' => bif Nat.beq t t' then some n else lkSq r t'
def zr : Ri.Zr := ⟨lkZ zrL, lkFt ftL, lkAr arL, lkSq sqL⟩
theorem sqk26 : Ri.SqOk Tryz.prog 26 [1, 0] := by
  refine ⟨by kernel_rfl, fun cx cy r h w => ?_⟩
  obtain ⟨a0, b0, cx, cy, r0, rfl, rfl, h1, rfl⟩ := Ri.eqK_s h
  obtain ⟨a1, b1, cx, cy, r1, rfl, rfl, h2, rfl⟩ := Ri.eqK_i h1
  obtain ⟨rfl, rfl, rfl⟩ := Ri.eqK_n h2
  have u3 := Tryz.underlying3
  have q3 := Tryz.isAgg3
  have z3 := Tryz.sizeOf3
  have u9 := Tryz.underlying9
  have q9 := Tryz.isAgg9
  have z9 := Tryz.sizeOf9
  have hS : Tryz.prog.underlying 26 = some (.struct (Tryz.prog.fieldsOf 26)) := by kernel_rfl
  have hp : Tryz.prog.stoodInHeld 26 = false := by kernel_rfl
  rw [run_equalIn_agg w 9999 26 _ _ hS hp]
  simp only [Program.fieldsOf, Tryz.underlying26]
  go_simp
  simp only [bt_inj]
  repeat' split
  all_goals simp_all
theorem sqk38 : Ri.SqOk Tryz.prog 38 [1, 0] := by
  refine ⟨by kernel_rfl, fun cx cy r h w => ?_⟩
  obtain ⟨a0, b0, cx, cy, r0, rfl, rfl, h1, rfl⟩ := Ri.eqK_s h
  obtain ⟨a1, b1, cx, cy, r1, rfl, rfl, h2, rfl⟩ := Ri.eqK_i h1
  obtain ⟨rfl, rfl, rfl⟩ := Ri.eqK_n h2
  have u3 := Tryz.underlying3
  have q3 := Tryz.isAgg3
  have z3 := Tryz.sizeOf3
  have u9 := Tryz.underlying9
  have q9 := Tryz.isAgg9
  have z9 := Tryz.sizeOf9
  have hS : Tryz.prog.underlying 38 = some (.struct (Tryz.prog.fieldsOf 38)) := by kernel_rfl
  have hp : Tryz.prog.stoodInHeld 38 = false := by kernel_rfl
  rw [run_equalIn_agg w 9999 38 _ _ hS hp]
  simp only [Program.fieldsOf, Tryz.underlying38]
  go_simp
  simp only [bt_inj]
  repeat' split
  all_goals simp_all
theorem sqk74 : Ri.SqOk Tryz.prog 74 [1, 1] := by
  refine ⟨by kernel_rfl, fun cx cy r h w => ?_⟩
  obtain ⟨a0, b0, cx, cy, r0, rfl, rfl, h1, rfl⟩ := Ri.eqK_s h
  obtain ⟨a1, b1, cx, cy, r1, rfl, rfl, h2, rfl⟩ := Ri.eqK_s h1
  obtain ⟨rfl, rfl, rfl⟩ := Ri.eqK_n h2
  have u9 := Tryz.underlying9
  have q9 := Tryz.isAgg9
  have z9 := Tryz.sizeOf9
  have hS : Tryz.prog.underlying 74 = some (.struct (Tryz.prog.fieldsOf 74)) := by kernel_rfl
  have hp : Tryz.prog.stoodInHeld 74 = false := by kernel_rfl
  rw [run_equalIn_agg w 9999 74 _ _ hS hp]
  simp only [Program.fieldsOf, Tryz.underlying74]
  go_simp
  simp only [bt_inj]
  repeat' split
  all_goals simp_all
theorem sqk92 : Ri.SqOk Tryz.prog 92 [1, 1] := by
  refine ⟨by kernel_rfl, fun cx cy r h w => ?_⟩
  obtain ⟨a0, b0, cx, cy, r0, rfl, rfl, h1, rfl⟩ := Ri.eqK_s h
  obtain ⟨a1, b1, cx, cy, r1, rfl, rfl, h2, rfl⟩ := Ri.eqK_s h1
  obtain ⟨rfl, rfl, rfl⟩ := Ri.eqK_n h2
  have u9 := Tryz.underlying9
  have q9 := Tryz.isAgg9
  have z9 := Tryz.sizeOf9
  have hS : Tryz.prog.underlying 92 = some (.struct (Tryz.prog.fieldsOf 92)) := by kernel_rfl
  have hp : Tryz.prog.stoodInHeld 92 = false := by kernel_rfl
  rw [run_equalIn_agg w 9999 92 _ _ hS hp]
  simp only [Program.fieldsOf, Tryz.underlying92]
  go_simp
  simp only [bt_inj]
  repeat' split
  all_goals simp_all
theorem sqk119 : Ri.SqOk Tryz.prog 119 [0, 0, 1] := by
  refine ⟨by kernel_rfl, fun cx cy r h w => ?_⟩
  obtain ⟨a0, b0, cx, cy, r0, rfl, rfl, h1, rfl⟩ := Ri.eqK_i h
  obtain ⟨a1, b1, cx, cy, r1, rfl, rfl, h2, rfl⟩ := Ri.eqK_i h1
  obtain ⟨a2, b2, cx, cy, r2, rfl, rfl, h3, rfl⟩ := Ri.eqK_s h2
  obtain ⟨rfl, rfl, rfl⟩ := Ri.eqK_n h3
  have u3 := Tryz.underlying3
  have q3 := Tryz.isAgg3
  have z3 := Tryz.sizeOf3
  have u9 := Tryz.underlying9
  have q9 := Tryz.isAgg9
  have z9 := Tryz.sizeOf9
  have hS : Tryz.prog.underlying 119 = some (.struct (Tryz.prog.fieldsOf 119)) := by kernel_rfl
  have hp : Tryz.prog.stoodInHeld 119 = false := by kernel_rfl
  rw [run_equalIn_agg w 9999 119 _ _ hS hp]
  simp only [Program.fieldsOf, Tryz.underlying119]
  go_simp
  simp only [bt_inj]
  repeat' split
  all_goals simp_all
theorem sqk123 : Ri.SqOk Tryz.prog 123 [0, 1, 1, 0, 0, 1] := by
  refine ⟨by kernel_rfl, fun cx cy r h w => ?_⟩
  obtain ⟨a0, b0, cx, cy, r0, rfl, rfl, h1, rfl⟩ := Ri.eqK_i h
  obtain ⟨a1, b1, cx, cy, r1, rfl, rfl, h2, rfl⟩ := Ri.eqK_s h1
  obtain ⟨a2, b2, cx, cy, r2, rfl, rfl, h3, rfl⟩ := Ri.eqK_s h2
  obtain ⟨a3, b3, cx, cy, r3, rfl, rfl, h4, rfl⟩ := Ri.eqK_i h3
  obtain ⟨a4, b4, cx, cy, r4, rfl, rfl, h5, rfl⟩ := Ri.eqK_i h4
  obtain ⟨a5, b5, cx, cy, r5, rfl, rfl, h6, rfl⟩ := Ri.eqK_s h5
  obtain ⟨rfl, rfl, rfl⟩ := Ri.eqK_n h6
  have u3 := Tryz.underlying3
  have q3 := Tryz.isAgg3
  have z3 := Tryz.sizeOf3
  have u9 := Tryz.underlying9
  have q9 := Tryz.isAgg9
  have z9 := Tryz.sizeOf9
  have hS : Tryz.prog.underlying 123 = some (.struct (Tryz.prog.fieldsOf 123)) := by kernel_rfl
  have hp : Tryz.prog.stoodInHeld 123 = false := by kernel_rfl
  rw [run_equalIn_agg w 9999 123 _ _ hS hp]
  simp only [Program.fieldsOf, Tryz.underlying123]
  go_simp
  simp only [bt_inj]
  repeat' split
  all_goals simp_all
theorem sqk147 : Ri.SqOk Tryz.prog 147 [0, 1, 1, 0, 0, 1] := by
  refine ⟨by kernel_rfl, fun cx cy r h w => ?_⟩
  obtain ⟨a0, b0, cx, cy, r0, rfl, rfl, h1, rfl⟩ := Ri.eqK_i h
  obtain ⟨a1, b1, cx, cy, r1, rfl, rfl, h2, rfl⟩ := Ri.eqK_s h1
  obtain ⟨a2, b2, cx, cy, r2, rfl, rfl, h3, rfl⟩ := Ri.eqK_s h2
  obtain ⟨a3, b3, cx, cy, r3, rfl, rfl, h4, rfl⟩ := Ri.eqK_i h3
  obtain ⟨a4, b4, cx, cy, r4, rfl, rfl, h5, rfl⟩ := Ri.eqK_i h4
  obtain ⟨a5, b5, cx, cy, r5, rfl, rfl, h6, rfl⟩ := Ri.eqK_s h5
  obtain ⟨rfl, rfl, rfl⟩ := Ri.eqK_n h6
  have u3 := Tryz.underlying3
  have q3 := Tryz.isAgg3
  have z3 := Tryz.sizeOf3
  have u9 := Tryz.underlying9
  have q9 := Tryz.isAgg9
  have z9 := Tryz.sizeOf9
  have hS : Tryz.prog.underlying 147 = some (.struct (Tryz.prog.fieldsOf 147)) := by kernel_rfl
  have hp : Tryz.prog.stoodInHeld 147 = false := by kernel_rfl
  rw [run_equalIn_agg w 9999 147 _ _ hS hp]
  simp only [Program.fieldsOf, Tryz.underlying147]
  go_simp
  simp only [bt_inj]
  repeat' split
  all_goals simp_all
theorem sqk149 : Ri.SqOk Tryz.prog 149 [0, 0, 1] := by
  refine ⟨by kernel_rfl, fun cx cy r h w => ?_⟩
  obtain ⟨a0, b0, cx, cy, r0, rfl, rfl, h1, rfl⟩ := Ri.eqK_i h
  obtain ⟨a1, b1, cx, cy, r1, rfl, rfl, h2, rfl⟩ := Ri.eqK_i h1
  obtain ⟨a2, b2, cx, cy, r2, rfl, rfl, h3, rfl⟩ := Ri.eqK_s h2
  obtain ⟨rfl, rfl, rfl⟩ := Ri.eqK_n h3
  have u3 := Tryz.underlying3
  have q3 := Tryz.isAgg3
  have z3 := Tryz.sizeOf3
  have u9 := Tryz.underlying9
  have q9 := Tryz.isAgg9
  have z9 := Tryz.sizeOf9
  have hS : Tryz.prog.underlying 149 = some (.struct (Tryz.prog.fieldsOf 149)) := by kernel_rfl
  have hp : Tryz.prog.stoodInHeld 149 = false := by kernel_rfl
  rw [run_equalIn_agg w 9999 149 _ _ hS hp]
  simp only [Program.fieldsOf, Tryz.underlying149]
  go_simp
  simp only [bt_inj]
  repeat' split
  all_goals simp_all
theorem sqok : ∀ t ks, zr.sq t = some ks → Ri.SqOk Tryz.prog t ks := by
  intro t ks h
  simp only [zr, sqL, lkSq] at h
  cases e0 : Nat.beq 26 t with
  | true =>
    obtain rfl := Nat.eq_of_beq_eq_true e0
    cases h
    exact sqk26
  | false =>
  rw [e0] at h
  simp only [cond_false] at h
  cases e1 : Nat.beq 38 t with
  | true =>
    obtain rfl := Nat.eq_of_beq_eq_true e1
    cases h
    exact sqk38
  | false =>
  rw [e1] at h
  simp only [cond_false] at h
  cases e2 : Nat.beq 74 t with
  | true =>
    obtain rfl := Nat.eq_of_beq_eq_true e2
    cases h
    exact sqk74
  | false =>
  rw [e2] at h
  simp only [cond_false] at h
  cases e3 : Nat.beq 92 t with
  | true =>
    obtain rfl := Nat.eq_of_beq_eq_true e3
    cases h
    exact sqk92
  | false =>
  rw [e3] at h
  simp only [cond_false] at h
  cases e4 : Nat.beq 119 t with
  | true =>
    obtain rfl := Nat.eq_of_beq_eq_true e4
    cases h
    exact sqk119
  | false =>
  rw [e4] at h
  simp only [cond_false] at h
  cases e5 : Nat.beq 123 t with
  | true =>
    obtain rfl := Nat.eq_of_beq_eq_true e5
    cases h
    exact sqk123
  | false =>
  rw [e5] at h
  simp only [cond_false] at h
  cases e6 : Nat.beq 147 t with
  | true =>
    obtain rfl := Nat.eq_of_beq_eq_true e6
    cases h
    exact sqk147
  | false =>
  rw [e6] at h
  simp only [cond_false] at h
  cases e7 : Nat.beq 149 t with
  | true =>
    obtain rfl := Nat.eq_of_beq_eq_true e7
    cases h
    exact sqk149
  | false =>
  rw [e7] at h
  simp only [cond_false] at h
  cases h
theorem arok : ∀ t n, zr.ar t = some n → ∃ e, chkArr Tryz.prog t n e = true := by
  intro t n h
  simp only [zr, arL, lkAr] at h
  cases h
theorem zok : ∀ t z, zr t = some z → ∀ w, (zeroValue t).run Tryz.prog w = .ok z w := lkZ_ok ⟨Tryz.zeroValue3, Tryz.zeroValue4, Tryz.zeroValue5, Tryz.zeroValue9, Tryz.zeroValue22, Tryz.zeroValue23, Tryz.zeroValue24, Tryz.zeroValue26, Tryz.zeroValue28, Tryz.zeroValue29, Tryz.zeroValue30, Tryz.zeroValue32, Tryz.zeroValue35, Tryz.zeroValue36, Tryz.zeroValue37, Tryz.zeroValue38, Tryz.zeroValue40, Tryz.zeroValue41, Tryz.zeroValue43, Tryz.zeroValue52, Tryz.zeroValue53, Tryz.zeroValue55, Tryz.zeroValue56, Tryz.zeroValue58, Tryz.zeroValue66, Tryz.zeroValue74, Tryz.zeroValue76, Tryz.zeroValue77, Tryz.zeroValue78, Tryz.zeroValue80, Tryz.zeroValue84, Tryz.zeroValue86, Tryz.zeroValue89, Tryz.zeroValue92, Tryz.zeroValue98, Tryz.zeroValue102, Tryz.zeroValue116, Tryz.zeroValue119, Tryz.zeroValue123, Tryz.zeroValue125, Tryz.zeroValue132, Tryz.zeroValue136, Tryz.zeroValue140, Tryz.zeroValue147, Tryz.zeroValue149, Tryz.zeroValue152, Tryz.zeroValue233, Tryz.zeroValue244, trivial⟩
theorem ftok : ∀ t i f, zr.ft t i = some f → ∃ off sz, chkFieldT Tryz.prog t i off f sz = true := by
  intro t i f h
  simp only [zr, ftL, lkFt] at h
  cases h
end Go.Proofs.YtlkjmghomjkcmaaGreatDoor.Fw

namespace Go.Proofs.YtlkjmghomjkcmaaGreatDoor.Ri
open Go.Proofs.YtlkjmghomjkcmaaGreatDoor.Fw
set_option linter.unusedVariables false
set_option maxRecDepth 100000
structure L01Cur where
  b : List UInt8
  i : Int
  h : Int
  deriving Inhabited
instance : Dat L01Cur := Dat.pull fun x => (x.b, x.i, x.h)
instance : Str L01Cur where
  fk := [.sl UInt8 instDatUInt8 (fun x => x.b), .int (fun x => x.i), .int (fun x => x.h)]
  op h := pull_op (fun x : L01Cur => (x.b, x.i, x.h)) h
  cl h := pull_cl (fun x : L01Cur => (x.b, x.i, x.h)) h
  oop h := pull_oop (fun x : L01Cur => (x.b, x.i, x.h)) h
  omk h := pull_omk (fun x : L01Cur => (x.b, x.i, x.h)) h
  gd h := pull_gd (fun x : L01Cur => (x.b, x.i, x.h)) h
noncomputable def tys : List (Nat × Ty) := [(3, ⟨Int, inferInstance, inferInstance⟩), (4, ⟨Bool, inferInstance, inferInstance⟩), (5, ⟨UInt8, inferInstance, inferInstance⟩), (9, ⟨ByteArray, inferInstance, inferInstance⟩), (22, ⟨List Fw.Cell, inferInstance, inferInstance⟩), (23, ⟨List Fw.Tx, inferInstance, inferInstance⟩), (24, ⟨List Fw.Slot, inferInstance, inferInstance⟩), (26, ⟨Fw.Journal, inferInstance, inferInstance⟩), (28, ⟨Fw.Disk, inferInstance, inferInstance⟩), (29, ⟨List Fw.Entry, inferInstance, inferInstance⟩), (30, ⟨List ByteArray, inferInstance, inferInstance⟩), (32, ⟨Fw.Kernel, inferInstance, inferInstance⟩), (35, ⟨List Fw.Cell, inferInstance, inferInstance⟩), (36, ⟨List Fw.Tx, inferInstance, inferInstance⟩), (37, ⟨List Fw.Slot, inferInstance, inferInstance⟩), (38, ⟨Fw.Journal, inferInstance, inferInstance⟩), (40, ⟨Fw.Disk, inferInstance, inferInstance⟩), (41, ⟨List Fw.Entry, inferInstance, inferInstance⟩), (43, ⟨Fw.Kernel, inferInstance, inferInstance⟩), (52, ⟨List Fw.Call, inferInstance, inferInstance⟩), (53, ⟨List Fw.Answer, inferInstance, inferInstance⟩), (55, ⟨Fw.Touch, inferInstance, inferInstance⟩), (56, ⟨List Int, inferInstance, inferInstance⟩), (58, ⟨Fw.Tx, inferInstance, inferInstance⟩), (74, ⟨Fw.Cell, inferInstance, inferInstance⟩), (76, ⟨List Fw.Call, inferInstance, inferInstance⟩), (77, ⟨List Fw.Answer, inferInstance, inferInstance⟩), (78, ⟨Fw.Touch, inferInstance, inferInstance⟩), (80, ⟨Fw.Tx, inferInstance, inferInstance⟩), (84, ⟨List Fw.Step, inferInstance, inferInstance⟩), (86, ⟨Fw.Entry, inferInstance, inferInstance⟩), (89, ⟨List Fw.Step, inferInstance, inferInstance⟩), (92, ⟨Fw.Cell, inferInstance, inferInstance⟩), (98, ⟨Fw.Entry, inferInstance, inferInstance⟩), (102, ⟨Fw.Mach, inferInstance, inferInstance⟩), (116, ⟨Fw.Slot, inferInstance, inferInstance⟩), (119, ⟨Fw.Answer, inferInstance, inferInstance⟩), (123, ⟨Fw.Call, inferInstance, inferInstance⟩), (125, ⟨Fw.Step, inferInstance, inferInstance⟩), (132, ⟨Fw.Slot, inferInstance, inferInstance⟩), (147, ⟨Fw.Call, inferInstance, inferInstance⟩), (149, ⟨Fw.Answer, inferInstance, inferInstance⟩), (152, ⟨Fw.Step, inferInstance, inferInstance⟩), (233, ⟨List UInt8, inferInstance, inferInstance⟩)]
noncomputable def τ0 : Tab := tabOf tys
noncomputable def to3 : TyO τ0 3 where
  fs := [.int]
  tu := fun (x : Int) => (x, ())
  of := fun h => (h.1 : Int)
  back h := rfl
  op {S w us x} h := Str.op (α := Int) h
  cl {S w us x} h := Str.cl (α := Int) h
noncomputable def to4 : TyO τ0 4 where
  fs := [.bool]
  tu := fun (x : Bool) => (x, ())
  of := fun h => (h.1 : Bool)
  back h := rfl
  op {S w us x} h := Str.op (α := Bool) h
  cl {S w us x} h := Str.cl (α := Bool) h
noncomputable def to5 : TyO τ0 5 where
  fs := [.byte]
  tu := fun (x : UInt8) => (x, ())
  of := fun h => (h.1 : UInt8)
  back h := rfl
  op {S w us x} h := Str.op (α := UInt8) h
  cl {S w us x} h := Str.cl (α := UInt8) h
  bt := some (fun x => x, fun x => x)
  bl p h := by
    cases h
    exact ⟨rfl, fun S w us x h => by
      obtain ⟨v, r, rfl, hv, rfl⟩ := (inferInstance : Str UInt8).op h
      rw [hv]; rfl, fun S w x => (inferInstance : Str UInt8).cl ⟨_, _, rfl, rfl, rfl⟩⟩
noncomputable def to9 : TyO τ0 9 where
  fs := [.str]
  tu := fun (x : ByteArray) => (x, ())
  of := fun h => (h.1 : ByteArray)
  back h := rfl
  op {S w us x} h := Str.op (α := ByteArray) h
  cl {S w us x} h := Str.cl (α := ByteArray) h
noncomputable def to22 : TyO τ0 22 where
  fs := [.sl 74]
  tu := fun (x : List Fw.Cell) => (x, ())
  of := fun h => (h.1 : List Fw.Cell)
  back h := rfl
  op {S w us x} h := Str.op (α := List Fw.Cell) h
  cl {S w us x} h := Str.cl (α := List Fw.Cell) h
noncomputable def to23 : TyO τ0 23 where
  fs := [.sl 80]
  tu := fun (x : List Fw.Tx) => (x, ())
  of := fun h => (h.1 : List Fw.Tx)
  back h := rfl
  op {S w us x} h := Str.op (α := List Fw.Tx) h
  cl {S w us x} h := Str.cl (α := List Fw.Tx) h
noncomputable def to24 : TyO τ0 24 where
  fs := [.sl 116]
  tu := fun (x : List Fw.Slot) => (x, ())
  of := fun h => (h.1 : List Fw.Slot)
  back h := rfl
  op {S w us x} h := Str.op (α := List Fw.Slot) h
  cl {S w us x} h := Str.cl (α := List Fw.Slot) h
noncomputable def to26 : TyO τ0 26 where
  fs := [.str, .int]
  tu := fun (x : Fw.Journal) => (x.Text, x.Sure, ())
  of := fun h => (⟨h.1, h.2.1⟩ : Fw.Journal)
  back h := rfl
  op {S w us x} h := Str.op (α := Fw.Journal) h
  cl {S w us x} h := Str.cl (α := Fw.Journal) h
noncomputable def to28 : TyO τ0 28 where
  fs := [.sl 116, .str, .int]
  tu := fun (x : Fw.Disk) => (x.Slots, x.Journal.Text, x.Journal.Sure, ())
  of := fun h => (⟨h.1, ⟨h.2.1, h.2.2.1⟩⟩ : Fw.Disk)
  back h := rfl
  op {S w us x} h := Str.op (α := Fw.Disk) h
  cl {S w us x} h := Str.cl (α := Fw.Disk) h
noncomputable def to29 : TyO τ0 29 where
  fs := [.sl 86]
  tu := fun (x : List Fw.Entry) => (x, ())
  of := fun h => (h.1 : List Fw.Entry)
  back h := rfl
  op {S w us x} h := Str.op (α := List Fw.Entry) h
  cl {S w us x} h := Str.cl (α := List Fw.Entry) h
noncomputable def to30 : TyO τ0 30 where
  fs := [.sl 9]
  tu := fun (x : List ByteArray) => (x, ())
  of := fun h => (h.1 : List ByteArray)
  back h := rfl
  op {S w us x} h := Str.op (α := List ByteArray) h
  cl {S w us x} h := Str.cl (α := List ByteArray) h
noncomputable def to32 : TyO τ0 32 where
  fs := [.sl 74, .sl 80, .sl 116, .str, .int, .int, .int, .int, .sl 86, .sl 9, .bool]
  tu := fun (x : Fw.Kernel) => (x.Store, x.Txs, x.Disk.Slots, x.Disk.Journal.Text, x.Disk.Journal.Sure, x.Seq, x.Next, x.Time, x.History, x.Seen, x.Room, ())
  of := fun h => (⟨h.1, h.2.1, ⟨h.2.2.1, ⟨h.2.2.2.1, h.2.2.2.2.1⟩⟩, h.2.2.2.2.2.1, h.2.2.2.2.2.2.1, h.2.2.2.2.2.2.2.1, h.2.2.2.2.2.2.2.2.1, h.2.2.2.2.2.2.2.2.2.1, h.2.2.2.2.2.2.2.2.2.2.1⟩ : Fw.Kernel)
  back h := rfl
  op {S w us x} h := Str.op (α := Fw.Kernel) h
  cl {S w us x} h := Str.cl (α := Fw.Kernel) h
noncomputable def to35 : TyO τ0 35 where
  fs := [.sl 92]
  tu := fun (x : List Fw.Cell) => (x, ())
  of := fun h => (h.1 : List Fw.Cell)
  back h := rfl
  op {S w us x} h := Str.op (α := List Fw.Cell) h
  cl {S w us x} h := Str.cl (α := List Fw.Cell) h
noncomputable def to36 : TyO τ0 36 where
  fs := [.sl 58]
  tu := fun (x : List Fw.Tx) => (x, ())
  of := fun h => (h.1 : List Fw.Tx)
  back h := rfl
  op {S w us x} h := Str.op (α := List Fw.Tx) h
  cl {S w us x} h := Str.cl (α := List Fw.Tx) h
noncomputable def to37 : TyO τ0 37 where
  fs := [.sl 132]
  tu := fun (x : List Fw.Slot) => (x, ())
  of := fun h => (h.1 : List Fw.Slot)
  back h := rfl
  op {S w us x} h := Str.op (α := List Fw.Slot) h
  cl {S w us x} h := Str.cl (α := List Fw.Slot) h
noncomputable def to38 : TyO τ0 38 where
  fs := [.str, .int]
  tu := fun (x : Fw.Journal) => (x.Text, x.Sure, ())
  of := fun h => (⟨h.1, h.2.1⟩ : Fw.Journal)
  back h := rfl
  op {S w us x} h := Str.op (α := Fw.Journal) h
  cl {S w us x} h := Str.cl (α := Fw.Journal) h
noncomputable def to40 : TyO τ0 40 where
  fs := [.sl 132, .str, .int]
  tu := fun (x : Fw.Disk) => (x.Slots, x.Journal.Text, x.Journal.Sure, ())
  of := fun h => (⟨h.1, ⟨h.2.1, h.2.2.1⟩⟩ : Fw.Disk)
  back h := rfl
  op {S w us x} h := Str.op (α := Fw.Disk) h
  cl {S w us x} h := Str.cl (α := Fw.Disk) h
noncomputable def to41 : TyO τ0 41 where
  fs := [.sl 98]
  tu := fun (x : List Fw.Entry) => (x, ())
  of := fun h => (h.1 : List Fw.Entry)
  back h := rfl
  op {S w us x} h := Str.op (α := List Fw.Entry) h
  cl {S w us x} h := Str.cl (α := List Fw.Entry) h
noncomputable def to43 : TyO τ0 43 where
  fs := [.sl 92, .sl 58, .sl 132, .str, .int, .int, .int, .int, .sl 98, .sl 9, .bool]
  tu := fun (x : Fw.Kernel) => (x.Store, x.Txs, x.Disk.Slots, x.Disk.Journal.Text, x.Disk.Journal.Sure, x.Seq, x.Next, x.Time, x.History, x.Seen, x.Room, ())
  of := fun h => (⟨h.1, h.2.1, ⟨h.2.2.1, ⟨h.2.2.2.1, h.2.2.2.2.1⟩⟩, h.2.2.2.2.2.1, h.2.2.2.2.2.2.1, h.2.2.2.2.2.2.2.1, h.2.2.2.2.2.2.2.2.1, h.2.2.2.2.2.2.2.2.2.1, h.2.2.2.2.2.2.2.2.2.2.1⟩ : Fw.Kernel)
  back h := rfl
  op {S w us x} h := Str.op (α := Fw.Kernel) h
  cl {S w us x} h := Str.cl (α := Fw.Kernel) h
noncomputable def to52 : TyO τ0 52 where
  fs := [.sl 123]
  tu := fun (x : List Fw.Call) => (x, ())
  of := fun h => (h.1 : List Fw.Call)
  back h := rfl
  op {S w us x} h := Str.op (α := List Fw.Call) h
  cl {S w us x} h := Str.cl (α := List Fw.Call) h
noncomputable def to53 : TyO τ0 53 where
  fs := [.sl 119]
  tu := fun (x : List Fw.Answer) => (x, ())
  of := fun h => (h.1 : List Fw.Answer)
  back h := rfl
  op {S w us x} h := Str.op (α := List Fw.Answer) h
  cl {S w us x} h := Str.cl (α := List Fw.Answer) h
noncomputable def to55 : TyO τ0 55 where
  fs := [.sl 9, .sl 9]
  tu := fun (x : Fw.Touch) => (x.Reads, x.Writes, ())
  of := fun h => (⟨h.1, h.2.1⟩ : Fw.Touch)
  back h := rfl
  op {S w us x} h := Str.op (α := Fw.Touch) h
  cl {S w us x} h := Str.cl (α := Fw.Touch) h
noncomputable def to56 : TyO τ0 56 where
  fs := [.sl 3]
  tu := fun (x : List Int) => (x, ())
  of := fun h => (h.1 : List Int)
  back h := rfl
  op {S w us x} h := Str.op (α := List Int) h
  cl {S w us x} h := Str.cl (α := List Int) h
noncomputable def to58 : TyO τ0 58 where
  fs := [.int, .int, .int, .int, .sl 123, .sl 119, .sl 9, .sl 9, .sl 3, .int]
  tu := fun (x : Fw.Tx) => (x.Id, x.Age, x.Proc, x.Began, x.Calls, x.Answers, x.Touch.Reads, x.Touch.Writes, x.Marks, x.State, ())
  of := fun h => (⟨h.1, h.2.1, h.2.2.1, h.2.2.2.1, h.2.2.2.2.1, h.2.2.2.2.2.1, ⟨h.2.2.2.2.2.2.1, h.2.2.2.2.2.2.2.1⟩, h.2.2.2.2.2.2.2.2.1, h.2.2.2.2.2.2.2.2.2.1⟩ : Fw.Tx)
  back h := rfl
  op {S w us x} h := Str.op (α := Fw.Tx) h
  cl {S w us x} h := Str.cl (α := Fw.Tx) h
noncomputable def to74 : TyO τ0 74 where
  fs := [.str, .str]
  tu := fun (x : Fw.Cell) => (x.Key, x.Val, ())
  of := fun h => (⟨h.1, h.2.1⟩ : Fw.Cell)
  back h := rfl
  op {S w us x} h := Str.op (α := Fw.Cell) h
  cl {S w us x} h := Str.cl (α := Fw.Cell) h
noncomputable def to76 : TyO τ0 76 where
  fs := [.sl 147]
  tu := fun (x : List Fw.Call) => (x, ())
  of := fun h => (h.1 : List Fw.Call)
  back h := rfl
  op {S w us x} h := Str.op (α := List Fw.Call) h
  cl {S w us x} h := Str.cl (α := List Fw.Call) h
noncomputable def to77 : TyO τ0 77 where
  fs := [.sl 149]
  tu := fun (x : List Fw.Answer) => (x, ())
  of := fun h => (h.1 : List Fw.Answer)
  back h := rfl
  op {S w us x} h := Str.op (α := List Fw.Answer) h
  cl {S w us x} h := Str.cl (α := List Fw.Answer) h
noncomputable def to78 : TyO τ0 78 where
  fs := [.sl 9, .sl 9]
  tu := fun (x : Fw.Touch) => (x.Reads, x.Writes, ())
  of := fun h => (⟨h.1, h.2.1⟩ : Fw.Touch)
  back h := rfl
  op {S w us x} h := Str.op (α := Fw.Touch) h
  cl {S w us x} h := Str.cl (α := Fw.Touch) h
noncomputable def to80 : TyO τ0 80 where
  fs := [.int, .int, .int, .int, .sl 147, .sl 149, .sl 9, .sl 9, .sl 3, .int]
  tu := fun (x : Fw.Tx) => (x.Id, x.Age, x.Proc, x.Began, x.Calls, x.Answers, x.Touch.Reads, x.Touch.Writes, x.Marks, x.State, ())
  of := fun h => (⟨h.1, h.2.1, h.2.2.1, h.2.2.2.1, h.2.2.2.2.1, h.2.2.2.2.2.1, ⟨h.2.2.2.2.2.2.1, h.2.2.2.2.2.2.2.1⟩, h.2.2.2.2.2.2.2.2.1, h.2.2.2.2.2.2.2.2.2.1⟩ : Fw.Tx)
  back h := rfl
  op {S w us x} h := Str.op (α := Fw.Tx) h
  cl {S w us x} h := Str.cl (α := Fw.Tx) h
noncomputable def to84 : TyO τ0 84 where
  fs := [.sl 152]
  tu := fun (x : List Fw.Step) => (x, ())
  of := fun h => (h.1 : List Fw.Step)
  back h := rfl
  op {S w us x} h := Str.op (α := List Fw.Step) h
  cl {S w us x} h := Str.cl (α := List Fw.Step) h
noncomputable def to86 : TyO τ0 86 where
  fs := [.int, .int, .int, .sl 152, .sl 149, .int, .int, .bool]
  tu := fun (x : Fw.Entry) => (x.Seq, x.Kind, x.Tx, x.Steps, x.Answers, x.Began, x.Ended, x.Laid, ())
  of := fun h => (⟨h.1, h.2.1, h.2.2.1, h.2.2.2.1, h.2.2.2.2.1, h.2.2.2.2.2.1, h.2.2.2.2.2.2.1, h.2.2.2.2.2.2.2.1⟩ : Fw.Entry)
  back h := rfl
  op {S w us x} h := Str.op (α := Fw.Entry) h
  cl {S w us x} h := Str.cl (α := Fw.Entry) h
noncomputable def to89 : TyO τ0 89 where
  fs := [.sl 125]
  tu := fun (x : List Fw.Step) => (x, ())
  of := fun h => (h.1 : List Fw.Step)
  back h := rfl
  op {S w us x} h := Str.op (α := List Fw.Step) h
  cl {S w us x} h := Str.cl (α := List Fw.Step) h
noncomputable def to92 : TyO τ0 92 where
  fs := [.str, .str]
  tu := fun (x : Fw.Cell) => (x.Key, x.Val, ())
  of := fun h => (⟨h.1, h.2.1⟩ : Fw.Cell)
  back h := rfl
  op {S w us x} h := Str.op (α := Fw.Cell) h
  cl {S w us x} h := Str.cl (α := Fw.Cell) h
noncomputable def to98 : TyO τ0 98 where
  fs := [.int, .int, .int, .sl 125, .sl 119, .int, .int, .bool]
  tu := fun (x : Fw.Entry) => (x.Seq, x.Kind, x.Tx, x.Steps, x.Answers, x.Began, x.Ended, x.Laid, ())
  of := fun h => (⟨h.1, h.2.1, h.2.2.1, h.2.2.2.1, h.2.2.2.2.1, h.2.2.2.2.2.1, h.2.2.2.2.2.2.1, h.2.2.2.2.2.2.2.1⟩ : Fw.Entry)
  back h := rfl
  op {S w us x} h := Str.op (α := Fw.Entry) h
  cl {S w us x} h := Str.cl (α := Fw.Entry) h
noncomputable def to102 : TyO τ0 102 where
  fs := [.sl 92, .sl 9, .sl 9]
  tu := fun (x : Fw.Mach) => (x.Store, x.Touch.Reads, x.Touch.Writes, ())
  of := fun h => (⟨h.1, ⟨h.2.1, h.2.2.1⟩⟩ : Fw.Mach)
  back h := rfl
  op {S w us x} h := Str.op (α := Fw.Mach) h
  cl {S w us x} h := Str.cl (α := Fw.Mach) h
noncomputable def to116 : TyO τ0 116 where
  fs := [.int, .sl 74, .bool]
  tu := fun (x : Fw.Slot) => (x.Seq, x.Cells, x.Whole, ())
  of := fun h => (⟨h.1, h.2.1, h.2.2.1⟩ : Fw.Slot)
  back h := rfl
  op {S w us x} h := Str.op (α := Fw.Slot) h
  cl {S w us x} h := Str.cl (α := Fw.Slot) h
noncomputable def to119 : TyO τ0 119 where
  fs := [.int, .int, .str]
  tu := fun (x : Fw.Answer) => (x.Code, x.N, x.Text, ())
  of := fun h => (⟨h.1, h.2.1, h.2.2.1⟩ : Fw.Answer)
  back h := rfl
  op {S w us x} h := Str.op (α := Fw.Answer) h
  cl {S w us x} h := Str.cl (α := Fw.Answer) h
noncomputable def to123 : TyO τ0 123 where
  fs := [.int, .str, .str, .int, .int, .str]
  tu := fun (x : Fw.Call) => (x.Kind, x.Name, x.To, x.A, x.B, x.Text, ())
  of := fun h => (⟨h.1, h.2.1, h.2.2.1, h.2.2.2.1, h.2.2.2.2.1, h.2.2.2.2.2.1⟩ : Fw.Call)
  back h := rfl
  op {S w us x} h := Str.op (α := Fw.Call) h
  cl {S w us x} h := Str.cl (α := Fw.Call) h
noncomputable def to125 : TyO τ0 125 where
  fs := [.int, .int, .str, .str, .int, .int, .str]
  tu := fun (x : Fw.Step) => (x.Proc, x.Call.Kind, x.Call.Name, x.Call.To, x.Call.A, x.Call.B, x.Call.Text, ())
  of := fun h => (⟨h.1, ⟨h.2.1, h.2.2.1, h.2.2.2.1, h.2.2.2.2.1, h.2.2.2.2.2.1, h.2.2.2.2.2.2.1⟩⟩ : Fw.Step)
  back h := rfl
  op {S w us x} h := Str.op (α := Fw.Step) h
  cl {S w us x} h := Str.cl (α := Fw.Step) h
noncomputable def to132 : TyO τ0 132 where
  fs := [.int, .sl 92, .bool]
  tu := fun (x : Fw.Slot) => (x.Seq, x.Cells, x.Whole, ())
  of := fun h => (⟨h.1, h.2.1, h.2.2.1⟩ : Fw.Slot)
  back h := rfl
  op {S w us x} h := Str.op (α := Fw.Slot) h
  cl {S w us x} h := Str.cl (α := Fw.Slot) h
noncomputable def to147 : TyO τ0 147 where
  fs := [.int, .str, .str, .int, .int, .str]
  tu := fun (x : Fw.Call) => (x.Kind, x.Name, x.To, x.A, x.B, x.Text, ())
  of := fun h => (⟨h.1, h.2.1, h.2.2.1, h.2.2.2.1, h.2.2.2.2.1, h.2.2.2.2.2.1⟩ : Fw.Call)
  back h := rfl
  op {S w us x} h := Str.op (α := Fw.Call) h
  cl {S w us x} h := Str.cl (α := Fw.Call) h
noncomputable def to149 : TyO τ0 149 where
  fs := [.int, .int, .str]
  tu := fun (x : Fw.Answer) => (x.Code, x.N, x.Text, ())
  of := fun h => (⟨h.1, h.2.1, h.2.2.1⟩ : Fw.Answer)
  back h := rfl
  op {S w us x} h := Str.op (α := Fw.Answer) h
  cl {S w us x} h := Str.cl (α := Fw.Answer) h
noncomputable def to152 : TyO τ0 152 where
  fs := [.int, .int, .str, .str, .int, .int, .str]
  tu := fun (x : Fw.Step) => (x.Proc, x.Call.Kind, x.Call.Name, x.Call.To, x.Call.A, x.Call.B, x.Call.Text, ())
  of := fun h => (⟨h.1, ⟨h.2.1, h.2.2.1, h.2.2.2.1, h.2.2.2.2.1, h.2.2.2.2.2.1, h.2.2.2.2.2.2.1⟩⟩ : Fw.Step)
  back h := rfl
  op {S w us x} h := Str.op (α := Fw.Step) h
  cl {S w us x} h := Str.cl (α := Fw.Step) h
noncomputable def to233 : TyO τ0 233 where
  fs := [.sl 5]
  tu := fun (x : List UInt8) => (x, ())
  of := fun h => (h.1 : List UInt8)
  back h := rfl
  op {S w us x} h := Str.op (α := List UInt8) h
  cl {S w us x} h := Str.cl (α := List UInt8) h
noncomputable def toL : List (Σ t, TyO τ0 t) := [⟨3, to3⟩, ⟨4, to4⟩, ⟨5, to5⟩, ⟨9, to9⟩, ⟨22, to22⟩, ⟨23, to23⟩, ⟨24, to24⟩, ⟨26, to26⟩, ⟨28, to28⟩, ⟨29, to29⟩, ⟨30, to30⟩, ⟨32, to32⟩, ⟨35, to35⟩, ⟨36, to36⟩, ⟨37, to37⟩, ⟨38, to38⟩, ⟨40, to40⟩, ⟨41, to41⟩, ⟨43, to43⟩, ⟨52, to52⟩, ⟨53, to53⟩, ⟨55, to55⟩, ⟨56, to56⟩, ⟨58, to58⟩, ⟨74, to74⟩, ⟨76, to76⟩, ⟨77, to77⟩, ⟨78, to78⟩, ⟨80, to80⟩, ⟨84, to84⟩, ⟨86, to86⟩, ⟨89, to89⟩, ⟨92, to92⟩, ⟨98, to98⟩, ⟨102, to102⟩, ⟨116, to116⟩, ⟨119, to119⟩, ⟨123, to123⟩, ⟨125, to125⟩, ⟨132, to132⟩, ⟨147, to147⟩, ⟨149, to149⟩, ⟨152, to152⟩, ⟨233, to233⟩]
theorem toL_keys : toL.map (·.1) = tys.map (·.1) := rfl
noncomputable def O0 : Opn τ0 := opnOf fun t => lkO toL t fun h => tyMiss (lkTy_miss fun k hk => by
  rw [← toL_keys] at hk
  obtain ⟨x, hx, rfl⟩ := List.mem_map.1 hk
  exact h x hx)
theorem O0_fit : MkFit O0 := opnOf_fit _
end Go.Proofs.YtlkjmghomjkcmaaGreatDoor.Ri

namespace Go.Proofs.YtlkjmghomjkcmaaGreatDoor.Ri
open Go.Proofs.YtlkjmghomjkcmaaGreatDoor.Fw
def digF : Nat → Nat → List UInt8
  | 0, u => [UInt8.ofNat (48 + u % 10)]
  | f + 1, u => bif Nat.blt u 10 then [UInt8.ofNat (48 + u)] else digF f (u / 10) ++ [UInt8.ofNat (48 + u % 10)]
theorem digF_eq : ∀ (f u : Nat), u < 10 ^ (f + 1) → digF f u = Lib.decDigits u
  | 0, u, h => by
    have h : u < 10 := by simpa using h
    rw [Lib.decDigits, dif_pos h]
    show [UInt8.ofNat (48 + u % 10)] = _
    rw [Nat.mod_eq_of_lt h]
  | f + 1, u, h => by
    unfold digF
    by_cases hu : u < 10
    · rw [Lib.decDigits, dif_pos hu]
      have : Nat.blt u 10 = true := by simpa [Nat.blt_eq] using hu
      rw [this]; rfl
    · rw [Lib.decDigits, dif_neg hu]
      have : Nat.blt u 10 = false := by
        cases hb : Nat.blt u 10 with
        | false => rfl
        | true => exact absurd (by simpa [Nat.blt_eq] using hb) hu
      rw [this, cond_false, digF_eq f (u / 10) (by rw [Nat.pow_succ] at h; omega)]
def itoaL (n : Int) : List UInt8 := bif decide (n < 0) then 45 :: digF 19 n.natAbs else digF 19 n.toNat
theorem itoaL_eq {n : Int} (h : n.natAbs ≤ 9223372036854775808) : itoaL n = Lib.itoa n := by
  unfold itoaL Lib.itoa
  by_cases hn : n < 0
  · rw [if_pos hn, decide_eq_true hn, cond_true, digF_eq _ _ (Nat.lt_of_le_of_lt h (by decide))]
  · rw [if_neg hn, decide_eq_false hn, cond_false, digF_eq _ _ (Nat.lt_of_le_of_lt (show n.toNat ≤ 9223372036854775808 by omega) (by decide))]
def itoaS (n : Int) : ByteArray := ⟨(itoaL (IntKind.wrap .i64 n)).toArray⟩
def itoaX (x : Int × Unit) : Option (ByteArray × Unit) := some (itoaS x.1, ())
def hexS (xs : List UInt8) : ByteArray := ⟨(Lib.Hx.encode xs).toArray⟩
def hexX (x : List UInt8 × Unit) : Option (ByteArray × Unit) := bif Nat.ble (2 * x.1.length) 281474976710656 then some (hexS x.1, ()) else none
def insX {α : Type} (x : List α × Int × List α × Unit) : Option (List α × Unit) := bif (decide (0 ≤ x.2.1) && decide (x.2.1 ≤ (x.1.length : Int))) && (Nat.ble x.1.length 1099511627776 && Nat.beq x.2.2.1.length 1) then some (x.1.take x.2.1.toNat ++ x.2.2.1 ++ x.1.drop x.2.1.toNat, ()) else none
def cloneX {α : Type} (x : List α × Unit) : Option (List α × Unit) := bif Nat.ble x.1.length 1099511627776 then some (x.1, ()) else none
def readM (l : List UInt8) : Int × Bool × Unit := match Lib.atoiAll l with
  | .ok v => bif (decide (0 ≤ v) && decide (v ≤ 1000000000)) && decide (itoaL v = l) then (v, true, ()) else (0, false, ())
  | _ => (0, false, ())
def readX (x : ByteArray × Unit) : Option (Int × Bool × Unit) := bif Nat.ble x.1.size 281474976710656 then some (readM x.1.data.toList) else none
def hexV (b : UInt8) : Option Nat := bif Nat.ble 48 b.toNat && Nat.ble b.toNat 57 then some (b.toNat - 48) else bif Nat.ble 97 b.toNat && Nat.ble b.toNat 102 then some (b.toNat - 87) else none
def unhexL : List UInt8 → Option (List UInt8)
  | [] => some []
  | a :: b :: r => match hexV a, hexV b, unhexL r with
    | some x, some y, some z => some (UInt8.ofNat (16 * x + y) :: z)
    | _, _, _ => none
  | _ => none
def unhexX (x : ByteArray × Unit) : Option (ByteArray × Bool × Unit) := bif Nat.ble x.1.size 281474976710656 then some (match unhexL x.1.data.toList with
  | some r => bif Nat.ble r.length 20000 then (⟨r.toArray⟩, true, ()) else (⟨#[]⟩, false, ())
  | none => (⟨#[]⟩, false, ())) else none
def keyOkL (l : List UInt8) : Bool := (l.all fun b => (Nat.ble 33 b.toNat && Nat.ble b.toNat 126) && !Nat.beq b.toNat 42) && (Nat.ble 1 l.length && Nat.ble l.length 40)
end Go.Proofs.YtlkjmghomjkcmaaGreatDoor.Ri

namespace Go.Proofs.YtlkjmghomjkcmaaGreatDoor.Ri
open Go.Proofs.YtlkjmghomjkcmaaGreatDoor.Fw
set_option maxRecDepth 100000
def annL : List (Nat × Nat × List Nat × List (Nat × Nat)) → Nat → Nat → Option An
  | [], _, _ => none
  | (f', p', l, n) :: r, f, p => bif Nat.beq f' f && Nat.beq p' p then some ⟨l, n⟩ else annL r f p
def sgL : List (Nat × Sig) → Nat → Sig
  | [], _ => ⟨[], []⟩
  | (k, x) :: r, t => bif Nat.beq k t then x else sgL r t
def vrL : List (Nat × Nat × Nat) → Nat → Nat → Nat
  | [], _, f => f
  | (a, b, v) :: r, g, f => bif Nat.beq a g && Nat.beq b f then v else vrL r g f
def lkN : List (Nat × Nat) → Nat → Nat
  | [], _ => 0
  | (a, v) :: r, i => bif Nat.beq a i then v else lkN r i
def hdL : List (Nat × Nat × List (Nat × Nat)) → Nat → Nat → Nat → Nat
  | [], _, _, _ => 0
  | (f, d, l) :: r, g, i, k => bif Nat.beq f g && Nat.beq d i then lkN l k else hdL r g i k
def bs0 (f : Nat) : Nat := f % 1000
def ocL : List (Nat × List Nat) → Nat → Nat → Bool
  | [], _, _ => false
  | (f, l) :: r, g, d => bif Nat.beq f g then memN d l else ocL r g d
def sgT : List (Nat × Sig) := [(3, ⟨[(32, .ro)], [(4, .own)]⟩),
  (4, ⟨[(32, .ro), (3, .ro)], [(3, .own)]⟩),
  (5, ⟨[(43, .ro)], [(4, .own)]⟩),
  (6, ⟨[(32, .ro)], [(43, .own)]⟩),
  (7, ⟨[(43, .ro)], [(4, .own)]⟩),
  (8, ⟨[(43, .ro), (43, .ro)], [(4, .own)]⟩),
  (9, ⟨[(22, .ro), (3, .ro)], [(3, .own)]⟩),
  (10, ⟨[(23, .ro), (3, .ro)], [(3, .own)]⟩),
  (11, ⟨[(28, .ro), (3, .ro)], [(3, .own)]⟩),
  (12, ⟨[(29, .ro), (3, .ro)], [(3, .own)]⟩),
  (13, ⟨[(30, .ro), (3, .ro)], [(3, .own)]⟩),
  (14, ⟨[(35, .ro), (58, .ro)], [(4, .own)]⟩),
  (15, ⟨[(22, .ro)], [(35, .own)]⟩),
  (16, ⟨[(23, .ro)], [(36, .own)]⟩),
  (17, ⟨[(28, .ro)], [(40, .own)]⟩),
  (18, ⟨[(29, .ro)], [(41, .own)]⟩),
  (19, ⟨[(30, .ro)], [(30, .own)]⟩),
  (20, ⟨[(36, .ro), (3, .vo (.cf 0))], [(4, .own)]⟩),
  (21, ⟨[(58, .ro), (43, .vo .pr)], [(4, .own)]⟩),
  (22, ⟨[(35, .ro), (58, .ro)], [(4, .own)]⟩),
  (23, ⟨[(35, .ro), (35, .ro)], [(4, .own)]⟩),
  (24, ⟨[(36, .ro), (36, .ro)], [(4, .own)]⟩),
  (25, ⟨[(40, .ro), (40, .ro)], [(4, .own)]⟩),
  (26, ⟨[(41, .ro), (41, .ro)], [(4, .own)]⟩),
  (27, ⟨[(30, .ro), (30, .ro)], [(4, .own)]⟩),
  (28, ⟨[(74, .ro), (3, .ro)], [(3, .own)]⟩),
  (29, ⟨[(80, .ro), (3, .ro)], [(3, .own)]⟩),
  (30, ⟨[(24, .ro), (3, .ro)], [(3, .own)]⟩),
  (31, ⟨[(26, .ro), (3, .ro)], [(3, .own)]⟩),
  (32, ⟨[(86, .ro), (3, .ro)], [(3, .own)]⟩),
  (33, ⟨[(35, .ro), (89, .ro)], [(35, .own), (53, .own), (55, .own)]⟩),
  (34, ⟨[(58, .ro)], [(89, .own)]⟩),
  (35, ⟨[(53, .ro), (53, .ro)], [(4, .own)]⟩),
  (36, ⟨[(30, .ro), (30, .ro)], [(4, .own)]⟩),
  (37, ⟨[(74, .ro)], [(92, .own)]⟩),
  (38, ⟨[(80, .ro)], [(58, .own)]⟩),
  (39, ⟨[(24, .ro)], [(37, .own)]⟩),
  (40, ⟨[(26, .ro)], [(38, .own)]⟩),
  (41, ⟨[(86, .ro)], [(98, .own)]⟩),
  (42, ⟨[(36, .ro), (3, .vo (.cf 0))], [(3, .own)]⟩),
  (43, ⟨[(35, .ro)], [(102, .own)]⟩),
  (44, ⟨[(102, .pm 0), (89, .ro)], [(53, .own)]⟩),
  (45, ⟨[(58, .ro)], [(89, .own)]⟩),
  (46, ⟨[(53, .ro), (53, .ro)], [(4, .own)]⟩),
  (47, ⟨[(30, .ro), (30, .ro)], [(4, .own)]⟩),
  (48, ⟨[(92, .ro), (92, .ro)], [(4, .own)]⟩),
  (49, ⟨[(58, .ro), (58, .ro)], [(4, .own)]⟩),
  (50, ⟨[(37, .ro), (37, .ro)], [(4, .own)]⟩),
  (51, ⟨[(38, .ro), (38, .ro)], [(4, .own)]⟩),
  (52, ⟨[(98, .ro), (98, .ro)], [(4, .own)]⟩),
  (53, ⟨[(76, .ro), (3, .ro)], [(3, .own)]⟩),
  (54, ⟨[(77, .ro), (3, .ro)], [(3, .own)]⟩),
  (55, ⟨[(78, .ro), (3, .ro)], [(3, .own)]⟩),
  (56, ⟨[(56, .ro), (3, .ro)], [(3, .own)]⟩),
  (57, ⟨[(116, .ro), (3, .ro)], [(3, .own)]⟩),
  (58, ⟨[(84, .ro), (3, .ro)], [(3, .own)]⟩),
  (59, ⟨[(35, .ro), (3, .ro), (123, .ro)], [(35, .own), (119, .own), (55, .own)]⟩),
  (60, ⟨[(55, .ro), (55, .ro)], [(55, .own)]⟩),
  (61, ⟨[(76, .ro)], [(52, .own)]⟩),
  (62, ⟨[(77, .ro)], [(53, .own)]⟩),
  (63, ⟨[(78, .ro)], [(55, .own)]⟩),
  (64, ⟨[(56, .ro)], [(56, .own)]⟩),
  (65, ⟨[(116, .ro)], [(132, .own)]⟩),
  (66, ⟨[(84, .ro)], [(89, .own)]⟩),
  (67, ⟨[(35, .ro)], [(35, .own)]⟩),
  (68, ⟨[(102, .pm 0), (3, .ro), (123, .ro)], [(119, .own)]⟩),
  (69, ⟨[(53, .ro), (53, .ro)], [(4, .own)]⟩),
  (70, ⟨[(30, .ro), (9, .vo (.cf 0))], [(4, .own)]⟩),
  (71, ⟨[(9, .ro), (30, .vo .pr)], [(4, .own)]⟩),
  (72, ⟨[(30, .ro), (9, .ro)], [(4, .own)]⟩),
  (73, ⟨[(52, .ro), (52, .ro)], [(4, .own)]⟩),
  (74, ⟨[(53, .ro), (53, .ro)], [(4, .own)]⟩),
  (75, ⟨[(55, .ro), (55, .ro)], [(4, .own)]⟩),
  (76, ⟨[(56, .ro), (56, .ro)], [(4, .own)]⟩),
  (77, ⟨[(132, .ro), (132, .ro)], [(4, .own)]⟩),
  (78, ⟨[(89, .ro), (89, .ro)], [(4, .own)]⟩),
  (79, ⟨[(147, .ro), (3, .ro)], [(3, .own)]⟩),
  (80, ⟨[(149, .ro), (3, .ro)], [(3, .own)]⟩),
  (81, ⟨[(152, .ro), (3, .ro)], [(3, .own)]⟩),
  (82, ⟨[(102, .own), (3, .ro), (123, .ro)], [(102, .own), (119, .own)]⟩),
  (83, ⟨[(35, .ro)], [(102, .own)]⟩),
  (84, ⟨[(30, .ro), (9, .ro)], [(30, .own)]⟩),
  (85, ⟨[(147, .ro)], [(123, .own)]⟩),
  (86, ⟨[(149, .ro)], [(119, .own)]⟩),
  (87, ⟨[(152, .ro)], [(125, .own)]⟩),
  (88, ⟨[(102, .pm 0), (3, .ro)], [(3, .own)]⟩),
  (89, ⟨[(123, .ro)], [(4, .own)]⟩),
  (90, ⟨[(102, .pm 0), (9, .ro)], [(3, .own), (3, .own)]⟩),
  (91, ⟨[(102, .pm 0), (9, .ro), (9, .ro)], [(3, .own)]⟩),
  (92, ⟨[(102, .pm 0), (9, .ro)], [(3, .own)]⟩),
  (93, ⟨[(102, .pm 0), (9, .ro), (9, .ro)], [(3, .own)]⟩),
  (94, ⟨[(102, .pm 0)], [(30, .own)]⟩),
  (95, ⟨[(102, .pm 0), (123, .ro)], [(119, .own)]⟩),
  (96, ⟨[(102, .pm 0)], [(3, .own), (3, .own)]⟩),
  (97, ⟨[(102, .pm 0), (3, .ro), (9, .ro)], [(3, .own)]⟩),
  (98, ⟨[(102, .pm 0), (3, .ro)], [(9, .own), (3, .own)]⟩),
  (99, ⟨[(102, .pm 0), (3, .ro)], [(3, .own), (3, .own)]⟩),
  (100, ⟨[(102, .pm 0), (3, .ro), (3, .ro)], []⟩),
  (101, ⟨[(102, .pm 0), (3, .ro), (3, .ro)], [(3, .own)]⟩),
  (102, ⟨[(102, .pm 0), (3, .ro)], []⟩),
  (103, ⟨[(102, .pm 0), (3, .ro), (3, .ro)], [(3, .own), (3, .own)]⟩),
  (104, ⟨[(102, .pm 0), (3, .ro)], [(56, .own)]⟩),
  (105, ⟨[(3, .ro)], [(9, .own)]⟩),
  (106, ⟨[(102, .pm 0), (3, .ro), (3, .ro)], [(3, .own)]⟩),
  (107, ⟨[(102, .pm 0), (3, .ro)], [(3, .own), (3, .own)]⟩),
  (108, ⟨[(102, .pm 0), (3, .ro), (3, .ro)], [(3, .own)]⟩),
  (109, ⟨[(102, .pm 0), (3, .ro)], [(3, .own), (3, .own)]⟩),
  (110, ⟨[(102, .pm 0), (3, .ro), (3, .ro), (9, .ro)], [(3, .own)]⟩),
  (111, ⟨[(102, .pm 0), (3, .ro), (3, .ro)], [(9, .own), (3, .own)]⟩),
  (112, ⟨[(102, .pm 0), (9, .ro)], [(3, .own)]⟩),
  (113, ⟨[(30, .ro), (9, .vo (.cf 219))], [(3, .own)]⟩),
  (114, ⟨[(30, .ro), (9, .ro)], [(3, .own)]⟩),
  (115, ⟨[(123, .ro), (123, .ro)], [(4, .own)]⟩),
  (116, ⟨[(119, .ro), (119, .ro)], [(4, .own)]⟩),
  (117, ⟨[(125, .ro), (125, .ro)], [(4, .own)]⟩),
  (118, ⟨[(102, .own), (3, .ro)], [(102, .own), (3, .own)]⟩),
  (119, ⟨[(123, .ro)], [(4, .own)]⟩),
  (120, ⟨[(102, .own), (9, .ro)], [(102, .own), (3, .own), (3, .own)]⟩),
  (121, ⟨[(102, .own), (9, .ro), (9, .ro)], [(102, .own), (3, .own)]⟩),
  (122, ⟨[(102, .own), (9, .ro)], [(102, .own), (3, .own)]⟩),
  (123, ⟨[(102, .own), (9, .ro), (9, .ro)], [(102, .own), (3, .own)]⟩),
  (124, ⟨[(102, .own)], [(102, .own), (119, .own)]⟩),
  (125, ⟨[(102, .own), (123, .ro)], [(102, .own), (119, .own)]⟩),
  (126, ⟨[(102, .own)], [(102, .own), (3, .own), (3, .own)]⟩),
  (127, ⟨[(102, .own), (3, .ro), (9, .ro)], [(102, .own), (3, .own)]⟩),
  (128, ⟨[(102, .own), (3, .ro)], [(102, .own), (9, .own), (3, .own)]⟩),
  (129, ⟨[(102, .own), (3, .ro), (3, .ro)], [(102, .own), (3, .own)]⟩),
  (130, ⟨[(102, .own), (3, .ro)], [(102, .own), (3, .own), (3, .own)]⟩),
  (131, ⟨[(102, .own), (3, .ro), (3, .ro)], [(102, .own), (3, .own)]⟩),
  (132, ⟨[(102, .own), (3, .ro)], [(102, .own), (3, .own), (3, .own)]⟩),
  (133, ⟨[(102, .own), (3, .ro), (3, .ro), (9, .ro)], [(102, .own), (3, .own)]⟩),
  (134, ⟨[(102, .own), (3, .ro), (3, .ro)], [(102, .own), (9, .own), (3, .own)]⟩),
  (135, ⟨[(102, .own), (9, .ro)], [(102, .own), (3, .own)]⟩),
  (136, ⟨[(102, .own), (3, .ro), (123, .ro)], [(102, .own), (119, .own)]⟩),
  (137, ⟨[(30, .ro), (9, .ro)], [(30, .ro)]⟩),
  (138, ⟨[(102, .pm 0), (9, .ro)], [(3, .own)]⟩),
  (139, ⟨[(3, .ro), (9, .ro)], [(9, .own)]⟩),
  (140, ⟨[(3, .ro), (3, .ro), (3, .ro)], [(4, .own)]⟩),
  (141, ⟨[(9, .ro)], [(4, .own)]⟩),
  (142, ⟨[(102, .pm 0), (9, .ro)], [(3, .own)]⟩),
  (143, ⟨[(102, .pm 0), (9, .ro)], [(3, .own)]⟩),
  (144, ⟨[(102, .pm 0), (9, .ro), (3, .ro)], []⟩),
  (145, ⟨[(9, .ro)], [(9, .own)]⟩),
  (146, ⟨[(3, .ro)], [(9, .own)]⟩),
  (147, ⟨[(102, .pm 0), (9, .ro), (9, .ro)], []⟩),
  (148, ⟨[(102, .pm 0), (9, .ro)], []⟩),
  (149, ⟨[(9, .ro), (3, .ro), (9, .ro)], [(9, .own)]⟩),
  (150, ⟨[(102, .pm 0), (9, .ro)], [(30, .own)]⟩),
  (151, ⟨[(102, .pm 0), (3, .ro), (3, .ro), (3, .ro)], [(9, .own)]⟩),
  (152, ⟨[(102, .pm 0), (3, .ro), (3, .ro), (9, .ro)], [(3, .own)]⟩),
  (153, ⟨[(102, .pm 0), (3, .ro), (3, .ro)], [(3, .own)]⟩),
  (154, ⟨[(3, .ro), (9, .ro)], [(9, .own)]⟩),
  (155, ⟨[(102, .pm 0), (3, .ro)], [(4, .own)]⟩),
  (156, ⟨[(9, .ro)], [(9, .own)]⟩),
  (157, ⟨[(102, .pm 0), (9, .ro)], [(9, .own)]⟩),
  (158, ⟨[(3, .ro)], [(9, .own)]⟩),
  (159, ⟨[(102, .pm 0), (9, .ro)], [(9, .own)]⟩),
  (160, ⟨[(9, .ro), (9, .ro)], [(9, .own), (4, .own)]⟩),
  (161, ⟨[(9, .ro)], [(3, .own)]⟩),
  (162, ⟨[(3, .ro)], [(9, .own)]⟩),
  (163, ⟨[(3, .ro), (9, .ro)], [(9, .own)]⟩),
  (164, ⟨[(102, .own), (9, .ro)], [(102, .own), (3, .own)]⟩),
  (165, ⟨[(3, .ro), (9, .ro)], [(9, .own)]⟩),
  (166, ⟨[(3, .ro), (3, .ro), (3, .ro)], [(4, .own)]⟩),
  (167, ⟨[(9, .ro)], [(4, .own)]⟩),
  (168, ⟨[(102, .own), (9, .ro)], [(102, .own), (3, .own)]⟩),
  (169, ⟨[(102, .own), (9, .ro)], [(102, .own), (3, .own)]⟩),
  (170, ⟨[(102, .own), (9, .ro), (3, .ro)], [(102, .own)]⟩),
  (171, ⟨[(9, .ro), (3, .ro), (9, .ro)], [(9, .own)]⟩),
  (172, ⟨[(102, .own), (9, .ro), (9, .ro)], [(102, .own)]⟩),
  (173, ⟨[(102, .own), (9, .ro)], [(102, .own)]⟩),
  (174, ⟨[(102, .own)], [(102, .own), (30, .own)]⟩),
  (175, ⟨[(102, .own), (3, .ro), (3, .ro), (3, .ro)], [(102, .own), (9, .own)]⟩),
  (176, ⟨[(102, .own), (3, .ro), (3, .ro), (9, .ro)], [(102, .own), (3, .own)]⟩),
  (177, ⟨[(102, .own), (3, .ro), (3, .ro)], [(102, .own), (3, .own)]⟩),
  (178, ⟨[(3, .ro), (9, .ro)], [(9, .own)]⟩),
  (179, ⟨[(102, .own), (3, .ro)], [(102, .own), (4, .own)]⟩),
  (180, ⟨[(9, .ro)], [(9, .own), (4, .own)]⟩),
  (181, ⟨[(3, .ro), (3, .ro)], [(9, .own)]⟩),
  (182, ⟨[(102, .own), (9, .ro)], [(102, .own), (9, .own)]⟩),
  (183, ⟨[(9, .ro)], [(9, .own), (4, .own)]⟩),
  (184, ⟨[(3, .ro), (9, .ro)], [(9, .own)]⟩),
  (185, ⟨[(3, .ro), (3, .ro)], [(9, .own)]⟩),
  (186, ⟨[(102, .own), (9, .ro)], [(102, .own), (30, .own)]⟩),
  (187, ⟨[(9, .ro)], [(3, .own)]⟩),
  (188, ⟨[(3, .ro)], [(9, .own)]⟩),
  (189, ⟨[(102, .own), (3, .ro)], [(102, .own), (3, .own), (3, .own)]⟩),
  (190, ⟨[(102, .own), (3, .ro), (3, .ro)], [(102, .own)]⟩),
  (191, ⟨[(102, .own), (3, .ro), (3, .ro)], [(102, .own), (3, .own)]⟩),
  (192, ⟨[(102, .own), (3, .ro)], [(102, .own)]⟩),
  (193, ⟨[(102, .own), (3, .ro), (3, .ro)], [(102, .own), (3, .own), (3, .own)]⟩),
  (194, ⟨[(102, .own), (3, .ro)], [(102, .own), (56, .own)]⟩),
  (195, ⟨[(3, .ro)], [(9, .own)]⟩),
  (196, ⟨[(30, .own), (9, .ro)], [(30, .own)]⟩),
  (197, ⟨[(35, .own), (9, .ro), (9, .ro)], [(35, .own)]⟩),
  (198, ⟨[(35, .ro), (9, .ro)], [(30, .own)]⟩),
  (199, ⟨[(3, .ro)], [(9, .own)]⟩),
  (200, ⟨[(102, .pm 0), (3, .ro), (3, .ro)], [(9, .own)]⟩),
  (201, ⟨[(3, .ro), (3, .ro)], [(9, .own)]⟩),
  (202, ⟨[(9, .ro)], [(9, .own), (4, .own)]⟩),
  (203, ⟨[(9, .ro)], [(9, .own)]⟩),
  (204, ⟨[(35, .ro), (9, .ro)], [(9, .own)]⟩),
  (205, ⟨[(9, .ro), (9, .ro)], [(9, .own), (4, .own)]⟩),
  (206, ⟨[(9, .ro)], [(3, .own), (4, .own)]⟩),
  (208, ⟨[(35, .ro), (9, .ro), (9, .ro)], [(35, .own)]⟩),
  (209, ⟨[(102, .own), (3, .ro)], [(102, .own), (3, .own)]⟩),
  (210, ⟨[(102, .own), (3, .ro), (3, .ro)], [(102, .own), (9, .own)]⟩),
  (211, ⟨[(102, .own), (3, .ro), (3, .ro), (9, .ro)], [(102, .own)]⟩),
  (212, ⟨[(3, .ro), (3, .ro), (3, .ro)], [(3, .own)]⟩),
  (213, ⟨[(3, .ro), (3, .ro)], [(9, .own)]⟩),
  (214, ⟨[(3, .ro)], [(5, .own)]⟩),
  (215, ⟨[(35, .ro), (9, .ro)], [(9, .own)]⟩),
  (216, ⟨[(5, .ro)], [(3, .own)]⟩),
  (217, ⟨[(35, .ro), (9, .ro)], [(30, .own)]⟩),
  (218, ⟨[(9, .ro)], [(3, .own), (4, .own)]⟩),
  (219, ⟨[(9, .ro), (9, .vo .pr)], [(4, .own)]⟩),
  (220, ⟨[(30, .own), (3, .ro), (30, .own)], [(30, .own)]⟩),
  (221, ⟨[(9, .ro)], [(4, .own)]⟩),
  (222, ⟨[(35, .own), (9, .vo (.cf 223))], [(35, .own)]⟩),
  (223, ⟨[(92, .ro), (9, .vo .pr)], [(4, .own)]⟩),
  (224, ⟨[(35, .ro), (9, .vo (.cf 246))], [(3, .own)]⟩),
  (225, ⟨[(92, .ro), (9, .vo .pr)], [(4, .own)]⟩),
  (226, ⟨[(35, .own), (3, .ro), (35, .own)], [(35, .own)]⟩),
  (227, ⟨[(9, .ro), (9, .ro)], [(4, .own)]⟩),
  (228, ⟨[(9, .ro)], [(9, .own), (4, .own)]⟩),
  (229, ⟨[(233, .ro)], [(9, .own)]⟩),
  (230, ⟨[(9, .ro), (9, .ro)], [(9, .own), (4, .own)]⟩),
  (231, ⟨[(35, .ro), (9, .ro)], [(3, .own)]⟩),
  (232, ⟨[(9, .ro), (9, .ro)], [(4, .own)]⟩),
  (235, ⟨[(9, .ro)], [(4, .own)]⟩),
  (236, ⟨[(9, .ro), (9, .ro)], [(4, .own)]⟩),
  (241, ⟨[(9, .ro), (9, .ro)], [(4, .own)]⟩),
  (245, ⟨[(9, .ro), (9, .ro)], [(9, .own), (4, .own)]⟩),
  (246, ⟨[(92, .ro), (9, .vo .pr)], [(4, .own)]⟩),
  (1020, ⟨[(36, .ro), (702, .vo (.cf 0))], [(4, .own)]⟩),
  (2020, ⟨[(36, .ro), (43, .vo (.cf 21))], [(4, .own)]⟩),
  (1070, ⟨[(30, .ro), (30, .vo (.cf 71))], [(4, .own)]⟩),
  (1224, ⟨[(35, .ro), (9, .vo (.cf 225))], [(3, .own)]⟩),
  (2224, ⟨[(35, .ro), (9, .vo (.cf 223))], [(3, .own)]⟩),
  (1042, ⟨[(36, .ro), (3, .vo (.cf 0))], [(3, .own)]⟩),
  (2042, ⟨[(36, .ro), (3, .vo (.cf 0))], [(3, .own)]⟩),
  (3042, ⟨[(36, .ro), (702, .vo (.cf 0))], [(3, .own)]⟩),
  (4042, ⟨[(36, .ro), (43, .vo (.cf 21))], [(3, .own)]⟩),
  (1113, ⟨[(30, .ro), (30, .vo (.cf 71))], [(3, .own)]⟩),
  (2113, ⟨[(30, .ro), (9, .vo (.cf 0))], [(3, .own)]⟩)]
def anT : List (Nat × Nat × List Nat × List (Nat × Nat)) := [(5, 7, [], []),
  (5, 52, [1, 3], []),
  (9, 31, [1], []),
  (9, 244, [0, 1, 5], []),
  (10, 31, [1], []),
  (10, 244, [0, 1, 5], []),
  (12, 31, [1], []),
  (12, 244, [0, 1, 5], []),
  (13, 31, [1], []),
  (13, 244, [0, 1, 5], []),
  (15, 15, [3], []),
  (15, 116, [0, 3, 4], []),
  (16, 15, [3], []),
  (16, 116, [0, 3, 4], []),
  (18, 15, [3], []),
  (18, 116, [0, 3, 4], []),
  (19, 15, [3], []),
  (19, 116, [0, 3, 4], []),
  (23, 15, [], []),
  (23, 116, [0, 1, 5], []),
  (24, 15, [], []),
  (24, 116, [0, 1, 5], []),
  (26, 15, [], []),
  (26, 116, [0, 1, 5], []),
  (27, 15, [], []),
  (27, 116, [0, 1, 5], []),
  (30, 31, [1], []),
  (30, 244, [0, 1, 5], []),
  (33, 63, [0, 6, 7, 8], []),
  (33, 500, [0, 1, 6, 7, 8, 9], []),
  (34, 15, [3], []),
  (34, 116, [1, 3, 4], []),
  (35, 15, [], []),
  (35, 116, [0, 1, 5], []),
  (36, 7, [], []),
  (36, 52, [0, 1, 5], []),
  (36, 211, [0, 1, 5], []),
  (36, 1683, [0, 1, 5, 6], []),
  (36, 13460, [0, 1, 5, 6, 7], []),
  (39, 15, [3], []),
  (39, 116, [0, 3, 4], []),
  (42, 7, [], []),
  (42, 52, [0, 1, 7, 8], []),
  (44, 15, [0, 5], []),
  (44, 116, [0, 5, 8, 9, 10], []),
  (45, 15, [3], []),
  (45, 116, [1, 3, 7, 8, 9], []),
  (50, 15, [], []),
  (50, 116, [0, 1, 5], []),
  (53, 31, [1], []),
  (53, 244, [0, 1, 5], []),
  (54, 31, [1], []),
  (54, 244, [0, 1, 5], []),
  (58, 31, [1], []),
  (58, 244, [0, 1, 5], []),
  (60, 15, [3, 4, 5], []),
  (60, 31, [4, 5], []),
  (60, 116, [3, 4, 5, 6], []),
  (60, 244, [3, 4, 5, 7], []),
  (61, 15, [3], []),
  (61, 116, [0, 3, 4], []),
  (62, 15, [3], []),
  (62, 116, [0, 3, 4], []),
  (64, 15, [3], []),
  (64, 116, [0, 3, 4], []),
  (66, 15, [3], []),
  (66, 116, [0, 3, 4], []),
  (68, 31, [0, 6, 7], []),
  (68, 251903, [0, 1, 5, 6, 7, 24, 77], []),
  (68, 1007604, [0, 6, 7, 64, 65, 66], []),
  (68, 66035122164, [0, 6, 7, 161, 162, 163], []),
  (69, 15, [], []),
  (69, 116, [0, 1, 12, 13], []),
  (73, 15, [], []),
  (73, 116, [0, 1, 5], []),
  (74, 15, [], []),
  (74, 116, [0, 1, 5], []),
  (76, 15, [], []),
  (76, 116, [0, 1, 5], []),
  (78, 15, [], []),
  (78, 116, [0, 1, 5], []),
  (82, 127, [3, 6, 7, 9], []),
  (82, 1038335, [1, 3, 5, 6, 7, 9, 27, 86], []),
  (92, 127, [0], []),
  (93, 63, [0, 1, 2, 7], []),
  (94, 15, [0, 3], []),
  (94, 116, [0, 3, 7, 8, 9], []),
  (100, 12, [0, 1, 2, 11, 12, 13], []),
  (104, 15, [0, 5], []),
  (104, 116, [0, 1, 5, 11, 12, 13], []),
  (104, 935, [0, 1, 5, 11, 12, 13], []),
  (109, 511, [0, 7], []),
  (109, 4084, [0, 6, 7, 25, 26, 27], []),
  (109, 32679, [0, 6, 7, 25, 26, 27], []),
  (110, 31, [0, 1, 2, 9], []),
  (113, 7, [], []),
  (113, 52, [0, 1, 7, 8], []),
  (114, 7, [], []),
  (114, 52, [0, 1, 7, 8], []),
  (123, 255, [1, 2, 3, 6, 8], []),
  (124, 31, [1, 2, 3, 5], []),
  (124, 244, [1, 2, 3, 4, 5, 6], []),
  (125, 63, [2, 4, 5, 7], []),
  (128, 1023, [1, 2, 4, 8, 11], []),
  (132, 511, [2, 4, 9], []),
  (132, 4084, [1, 2, 4, 7, 8, 9, 10], []),
  (132, 16339, [1, 2, 4, 7, 8, 9, 10], []),
  (134, 63, [3, 6, 10], []),
  (136, 15, [3, 6, 7, 8], []),
  (136, 120828, [3, 6, 7, 8, 9, 10], []),
  (137, 15, [0, 1, 5], []),
  (137, 56, [0, 1, 5], []),
  (141, 7, [0], []),
  (141, 52, [0, 6, 7], []),
  (144, 7, [0, 1, 6], []),
  (148, 12, [0, 8, 9, 10], []),
  (151, 127, [0, 11], []),
  (151, 1012, [0, 1, 2, 10, 11, 12], []),
  (151, 4051, [0, 1, 2, 10, 11, 12], []),
  (152, 127, [0, 1, 9, 10], []),
  (152, 255, [0], []),
  (152, 1012, [0, 1, 2, 3, 9, 10, 11], []),
  (152, 4051, [0, 1, 2, 3, 9, 10, 11], []),
  (152, 64807, [0, 1, 2, 3, 9, 10, 11, 12], []),
  (152, 518452, [0, 1, 2, 3, 9, 10, 11, 12, 13, 14], []),
  (152, 2073811, [0, 1, 2, 3, 9, 10, 11, 12, 13, 14], []),
  (152, 8295241, [0, 1, 2, 3, 9, 10, 11, 12, 13, 14], []),
  (152, 33180960, [0, 1, 2, 3, 9, 10, 11, 12, 13, 14], []),
  (153, 63, [0, 1, 2, 7, 8], []),
  (153, 127, [0, 1, 2], []),
  (153, 504, [0, 1, 2, 7, 8], []),
  (167, 7, [0], []),
  (167, 52, [0, 3], []),
  (173, 15, [2, 4], []),
  (173, 116, [2, 4, 5, 6], []),
  (174, 31, [1, 2, 5], []),
  (174, 244, [1, 2, 4, 5, 6], []),
  (175, 63, [1, 2, 4, 8, 11], []),
  (175, 255, [4, 8, 12], []),
  (175, 2036, [1, 2, 4, 8, 11, 12, 13], []),
  (175, 8147, [1, 2, 4, 8, 11, 12, 13], []),
  (175, 521372, [1, 2, 4, 8, 11, 12, 13, 14, 15], []),
  (175, 2085491, [1, 2, 4, 8, 11, 12, 13, 14, 15], []),
  (176, 127, [1, 4, 8, 10, 11], []),
  (176, 255, [4, 8], []),
  (176, 1012, [1, 2, 3, 4, 8, 10, 11, 12], []),
  (176, 4051, [1, 2, 3, 4, 8, 10, 11, 12], []),
  (176, 129615, [1, 2, 3, 4, 8, 10, 11, 12, 14], []),
  (176, 1036916, [1, 2, 3, 4, 8, 10, 11, 12, 14, 15], []),
  (176, 4147667, [1, 2, 3, 4, 8, 10, 11, 12, 14, 15], []),
  (176, 66362663, [1, 2, 3, 4, 8, 10, 11, 12, 14, 15, 16], []),
  (176, 265450648, [1, 2, 3, 4, 8, 10, 11, 12, 14, 15, 16], []),
  (177, 63, [1, 2, 3, 6, 8, 9], []),
  (177, 127, [1, 2, 3, 6], []),
  (177, 504, [1, 2, 3, 6, 8, 9], []),
  (180, 31, [4], []),
  (180, 244, [0, 4, 5], []),
  (183, 31, [4], []),
  (183, 244, [0, 4, 5], []),
  (190, 15, [3, 6], []),
  (190, 116, [1, 2, 3, 6, 7, 8], []),
  (194, 31, [2, 4, 7], []),
  (194, 244, [1, 2, 4, 6, 7, 8], []),
  (194, 979, [1, 2, 4, 6, 7, 8], []),
  (195, 63, [3, 4], []),
  (195, 248, [0, 3, 4], []),
  (195, 3979, [0, 3, 4, 5], []),
  (197, 127, [0, 2, 4, 7], []),
  (198, 15, [5], []),
  (198, 116, [1, 5, 8, 9, 10], []),
  (198, 935, [1, 5, 8, 9, 10], []),
  (208, 63, [1, 2, 7, 8], []),
  (208, 127, [7], []),
  (208, 500, [0, 1, 2, 7, 8, 9], []),
  (208, 2003, [0, 1, 2, 7, 8, 9], []),
  (208, 8009, [0, 1, 2, 7, 8, 9], []),
  (215, 7, [], []),
  (215, 52, [0, 1, 5], []),
  (217, 15, [5], []),
  (217, 116, [0, 1, 5, 6], []),
  (217, 467, [0, 1, 5, 6], []),
  (218, 31, [0, 4], []),
  (218, 244, [0, 4, 5], []),
  (221, 7, [0], []),
  (221, 52, [0, 5, 6], []),
  (222, 31, [0, 5], []),
  (222, 244, [0, 1, 5, 6], []),
  (222, 979, [0, 1, 5, 6], []),
  (224, 7, [], []),
  (224, 52, [0, 1, 7, 8], []),
  (235, 7, [0], []),
  (235, 52, [0, 3], [])]
def isx0 (f : Nat) : Bool := Nat.beq f 229 || Nat.beq f 206 || Nat.beq f 228 || Nat.beq f 67 || Nat.beq f 226 || Nat.beq f 220 || Nat.beq f 162
noncomputable def xt0 : ∀ f, HL τ0 ((sgL sgT f).ps.map (·.1)) → Option (HL τ0 ((sgL sgT f).outs.map (·.1)))
  | 229 => hexX
  | 206 => readX
  | 228 => unhexX
  | 67 => cloneX
  | 226 => insX
  | 220 => insX
  | 162 => itoaX
  | _ => fun _ => none
noncomputable def Z0 : Lw τ0 := ⟨O0, ti, zr, sgL sgT, fun f => annL anT (bs0 f), fun f => ocL [(292, [3]), (7, [1]), (196, [3]), (47, [3]), (231, [3]), (197, [4]), (222, [38, 41])] (bs0 f), fun f => hdL [(59, 2, [(4, 4294967296)]), (175, 19, [(2, 16)]), (82, 43, [(1, 16)]), (125, 11, [(1, 16)]), (124, 7, [(1, 16)]), (136, 19, [(1, 16)])] (bs0 f), fun f => vrL [(292, 42, 1042), (7, 20, 2020), (47, 70, 1070), (197, 224, 1224), (20, 42, 2042), (1020, 42, 3042), (2020, 42, 4042), (70, 113, 2113), (1070, 113, 1113), (222, 224, 2224)] f, bs0, isx0, xt0⟩
noncomputable def F0 : Nat → Option Fx := fun f => fxOf Tryz.prog (bs0 f)
end Go.Proofs.YtlkjmghomjkcmaaGreatDoor.Ri

namespace Go.Proofs.YtlkjmghomjkcmaaGreatDoor.Ri
open Go.Proofs.YtlkjmghomjkcmaaGreatDoor.Fw
open Go.RowKit
set_option linter.unusedVariables false
set_option maxRecDepth 100000
def gd {α : Type} (c : Bool) (k : Option α) : Option α := bif c then k else none
def tx (l : List UInt8) : ByteArray := ⟨l.toArray⟩
noncomputable def Dn (f : Nat) (x : InT τ0 (Z0.sg f)) : Option (OutT τ0 (Z0.sg f)) := Den Z0 F0 f x
noncomputable def Ln (f p : Nat) (s : Sx τ0 × Nat) : Option (OutT τ0 (Z0.sg f)) := Run Z0 F0 f p s.1 s.2
noncomputable def DE (f : Nat) (x : InT τ0 (Z0.sg f)) : Option (OutT τ0 (Z0.sg f)) := begF Z0 F0 (fun f p σ nx => runF Z0 F0 (Den Z0 F0) (Run Z0 F0) f p σ nx) f x
noncomputable def LE (f p : Nat) (s : Sx τ0 × Nat) : Option (OutT τ0 (Z0.sg f)) := runF Z0 F0 (Den Z0 F0) (Run Z0 F0) f p s.1 s.2
theorem Dn_eq (f : Nat) (x : InT τ0 (Z0.sg f)) : Dn f x = DE f x := Den_eq Z0 F0 f x
theorem Ln_eq (f p : Nat) (s : Sx τ0 × Nat) : Ln f p s = LE f p s := Run_eq' Z0 F0 f p s.1 s.2
noncomputable def D27 (x0 : Int) (x1 : Int) (x2 : Int) : Option (Bool × Unit) := Dn 166 (x0, x1, x2, ())
noncomputable def D52 (x0 : Fw.Mach) (x1 : Int) : Option (Fw.Mach × Int × Int × Unit) := Dn 189 (x0, x1, ())
noncomputable def D53 (x0 : List Fw.Cell) : Option (Fw.Mach × Unit) := Dn 83 (x0, ())
noncomputable def D64 (x0 : List Fw.Cell) (x1 : Int) (x2 : Fw.Call) : Option ((List Fw.Cell) × Fw.Answer × Fw.Touch × Unit) := Dn 59 (x0, x1, x2, ())
noncomputable def D88 (x0 : Fw.Mach) (x1 : ByteArray) : Option (Fw.Mach × Int × Unit) := Dn 164 (x0, x1, ())
noncomputable def D89 (x0 : Fw.Mach) (x1 : ByteArray) : Option (Fw.Mach × Int × Unit) := Dn 169 (x0, x1, ())
noncomputable def D90 (x0 : Fw.Mach) (x1 : ByteArray) (x2 : Int) : Option (Fw.Mach × Unit) := Dn 170 (x0, x1, x2, ())
noncomputable def D91 (x0 : Int) (x1 : ByteArray) : Option (ByteArray × Unit) := Dn 165 (x0, x1, ())
noncomputable def D100 (x0 : Fw.Touch) (x1 : Fw.Touch) : Option (Fw.Touch × Unit) := Dn 60 (x0, x1, ())
noncomputable def D101 (x0 : Fw.Mach) (x1 : Int) (x2 : Fw.Call) : Option (Fw.Mach × Fw.Answer × Unit) := Dn 82 (x0, x1, x2, ())
noncomputable def D104 (x0 : List Fw.Cell) (x1 : ByteArray) : Option (ByteArray × Unit) := Dn 215 (x0, x1, ())
noncomputable def D106 (x0 : Int) (x1 : Int) (x2 : Int) : Option (Int × Unit) := Dn 212 (x0, x1, x2, ())
noncomputable def D111 (x0 : ByteArray) : Option (Int × Unit) := Dn 187 (x0, ())
noncomputable def D112 (x0 : ByteArray) (x1 : Int) (x2 : ByteArray) : Option (ByteArray × Unit) := Dn 171 (x0, x1, x2, ())
noncomputable def D113 (x0 : ByteArray) : Option (ByteArray × Bool × Unit) := Dn 183 (x0, ())
noncomputable def D122 (x0 : Int) : Option (ByteArray × Unit) := Dn 195 (x0, ())
noncomputable def D129 (x0 : Fw.Tx) : Option ((List Fw.Step) × Unit) := Dn 34 (x0, ())
noncomputable def D130 (x0 : Fw.Mach) (x1 : ByteArray) : Option (Fw.Mach × ByteArray × Unit) := Dn 182 (x0, x1, ())
noncomputable def D131 (x0 : Fw.Mach) (x1 : ByteArray) (x2 : ByteArray) : Option (Fw.Mach × Unit) := Dn 172 (x0, x1, x2, ())
noncomputable def D132 (x0 : ByteArray) : Option (Bool × Unit) := Dn 235 (x0, ())
noncomputable def D134 (x0 : List Fw.Cell) (x1 : List Fw.Step) : Option ((List Fw.Cell) × (List Fw.Answer) × Fw.Touch × Unit) := Dn 33 (x0, x1, ())
noncomputable def D135 (x0 : List ByteArray) (x1 : ByteArray) : Option ((List ByteArray) × Unit) := Dn 84 (x0, x1, ())
noncomputable def D136 (x0 : Fw.Mach) (x1 : Int) : Option (Fw.Mach × Int × Unit) := Dn 118 (x0, x1, ())
noncomputable def D137 (x0 : Fw.Call) : Option (Bool × Unit) := Dn 119 (x0, ())
noncomputable def D138 (x0 : Fw.Mach) (x1 : ByteArray) : Option (Fw.Mach × Int × Int × Unit) := Dn 120 (x0, x1, ())
noncomputable def D139 (x0 : Fw.Mach) (x1 : ByteArray) (x2 : ByteArray) : Option (Fw.Mach × Int × Unit) := Dn 121 (x0, x1, x2, ())
noncomputable def D140 (x0 : Fw.Mach) (x1 : ByteArray) : Option (Fw.Mach × Int × Unit) := Dn 122 (x0, x1, ())
noncomputable def D141 (x0 : Fw.Mach) (x1 : ByteArray) (x2 : ByteArray) : Option (Fw.Mach × Int × Unit) := Dn 123 (x0, x1, x2, ())
noncomputable def D142 (x0 : Fw.Mach) : Option (Fw.Mach × Fw.Answer × Unit) := Dn 124 (x0, ())
noncomputable def D143 (x0 : Fw.Mach) (x1 : Fw.Call) : Option (Fw.Mach × Fw.Answer × Unit) := Dn 125 (x0, x1, ())
noncomputable def D144 (x0 : Fw.Mach) : Option (Fw.Mach × Int × Int × Unit) := Dn 126 (x0, ())
noncomputable def D145 (x0 : Fw.Mach) (x1 : Int) (x2 : ByteArray) : Option (Fw.Mach × Int × Unit) := Dn 127 (x0, x1, x2, ())
noncomputable def D146 (x0 : Fw.Mach) (x1 : Int) : Option (Fw.Mach × ByteArray × Int × Unit) := Dn 128 (x0, x1, ())
noncomputable def D147 (x0 : Fw.Mach) (x1 : Int) (x2 : Int) : Option (Fw.Mach × Int × Unit) := Dn 129 (x0, x1, x2, ())
noncomputable def D148 (x0 : Fw.Mach) (x1 : Int) : Option (Fw.Mach × Int × Int × Unit) := Dn 130 (x0, x1, ())
noncomputable def D149 (x0 : Fw.Mach) (x1 : Int) (x2 : Int) : Option (Fw.Mach × Int × Unit) := Dn 131 (x0, x1, x2, ())
noncomputable def D150 (x0 : Fw.Mach) (x1 : Int) : Option (Fw.Mach × Int × Int × Unit) := Dn 132 (x0, x1, ())
noncomputable def D151 (x0 : Fw.Mach) (x1 : Int) (x2 : Int) (x3 : ByteArray) : Option (Fw.Mach × Int × Unit) := Dn 133 (x0, x1, x2, x3, ())
noncomputable def D152 (x0 : Fw.Mach) (x1 : Int) (x2 : Int) : Option (Fw.Mach × ByteArray × Int × Unit) := Dn 134 (x0, x1, x2, ())
noncomputable def D153 (x0 : Fw.Mach) (x1 : ByteArray) : Option (Fw.Mach × Int × Unit) := Dn 135 (x0, x1, ())
noncomputable def D154 (x0 : Fw.Mach) (x1 : Int) (x2 : Fw.Call) : Option (Fw.Mach × Fw.Answer × Unit) := Dn 136 (x0, x1, x2, ())
noncomputable def D156 (x0 : List ByteArray) (x1 : ByteArray) : Option ((List ByteArray) × Unit) := Dn 137 (x0, x1, ())
noncomputable def D157 (x0 : ByteArray) : Option (ByteArray × Bool × Unit) := Dn 180 (x0, ())
noncomputable def D159 (x0 : ByteArray) : Option (Int × Bool × Unit) := Dn 218 (x0, ())
noncomputable def D160 (x0 : UInt8) : Option (Int × Unit) := Dn 216 (x0, ())
noncomputable def D162 (x0 : List Fw.Cell) (x1 : ByteArray) (x2 : ByteArray) : Option ((List Fw.Cell) × Unit) := Dn 208 (x0, x1, x2, ())
noncomputable def D163 (x0 : Int) : Option (UInt8 × Unit) := Dn 214 (x0, ())
noncomputable def D165 (x0 : ByteArray) : Option (Bool × Unit) := Dn 167 (x0, ())
noncomputable def D166 (x0 : Fw.Mach) (x1 : ByteArray) : Option (Fw.Mach × Int × Unit) := Dn 168 (x0, x1, ())
noncomputable def D167 (x0 : Fw.Mach) (x1 : ByteArray) : Option (Fw.Mach × Unit) := Dn 173 (x0, x1, ())
noncomputable def D168 (x0 : Fw.Mach) : Option (Fw.Mach × (List ByteArray) × Unit) := Dn 174 (x0, ())
noncomputable def D169 (x0 : Fw.Mach) (x1 : Int) (x2 : Int) (x3 : Int) : Option (Fw.Mach × ByteArray × Unit) := Dn 175 (x0, x1, x2, x3, ())
noncomputable def D170 (x0 : Fw.Mach) (x1 : Int) (x2 : Int) (x3 : ByteArray) : Option (Fw.Mach × Int × Unit) := Dn 176 (x0, x1, x2, x3, ())
noncomputable def D171 (x0 : Fw.Mach) (x1 : Int) (x2 : Int) : Option (Fw.Mach × Int × Unit) := Dn 177 (x0, x1, x2, ())
noncomputable def D172 (x0 : Int) (x1 : ByteArray) : Option (ByteArray × Unit) := Dn 178 (x0, x1, ())
noncomputable def D173 (x0 : Fw.Mach) (x1 : Int) : Option (Fw.Mach × Bool × Unit) := Dn 179 (x0, x1, ())
noncomputable def D174 (x0 : Int) (x1 : Int) : Option (ByteArray × Unit) := Dn 181 (x0, x1, ())
noncomputable def D175 (x0 : Int) (x1 : ByteArray) : Option (ByteArray × Unit) := Dn 184 (x0, x1, ())
noncomputable def D176 (x0 : Int) (x1 : Int) : Option (ByteArray × Unit) := Dn 185 (x0, x1, ())
noncomputable def D177 (x0 : Fw.Mach) (x1 : ByteArray) : Option (Fw.Mach × (List ByteArray) × Unit) := Dn 186 (x0, x1, ())
noncomputable def D178 (x0 : Int) : Option (ByteArray × Unit) := Dn 188 (x0, ())
noncomputable def D179 (x0 : Fw.Mach) (x1 : Int) (x2 : Int) : Option (Fw.Mach × Unit) := Dn 190 (x0, x1, x2, ())
noncomputable def D180 (x0 : Fw.Mach) (x1 : Int) (x2 : Int) : Option (Fw.Mach × Int × Unit) := Dn 191 (x0, x1, x2, ())
noncomputable def D181 (x0 : Fw.Mach) (x1 : Int) : Option (Fw.Mach × Unit) := Dn 192 (x0, x1, ())
noncomputable def D182 (x0 : Fw.Mach) (x1 : Int) (x2 : Int) : Option (Fw.Mach × Int × Int × Unit) := Dn 193 (x0, x1, x2, ())
noncomputable def D183 (x0 : Fw.Mach) (x1 : Int) : Option (Fw.Mach × (List Int) × Unit) := Dn 194 (x0, x1, ())
noncomputable def D185 (x0 : Fw.Mach) (x1 : Int) : Option (Fw.Mach × Int × Unit) := Dn 209 (x0, x1, ())
noncomputable def D186 (x0 : Fw.Mach) (x1 : Int) (x2 : Int) : Option (Fw.Mach × ByteArray × Unit) := Dn 210 (x0, x1, x2, ())
noncomputable def D187 (x0 : Fw.Mach) (x1 : Int) (x2 : Int) (x3 : ByteArray) : Option (Fw.Mach × Unit) := Dn 211 (x0, x1, x2, x3, ())
noncomputable def D188 (x0 : Int) (x1 : Int) : Option (ByteArray × Unit) := Dn 213 (x0, x1, ())
noncomputable def D189 (x0 : List Fw.Cell) (x1 : ByteArray) : Option ((List ByteArray) × Unit) := Dn 217 (x0, x1, ())
noncomputable def D191 (x0 : ByteArray) (x1 : ByteArray) : Option (Bool × Unit) := Dn 236 (x0, x1, ())
noncomputable def D2051 (x0 : Fw.Kernel) : Option (Bool × Unit) := Dn 5 (x0, ())
noncomputable def D2053 (x0 : Fw.Kernel) : Option (Bool × Unit) := Dn 7 (x0, ())
noncomputable def D2078 (x0 : List Fw.Cell) (x1 : ByteArray) : Option (ByteArray × Unit) := Dn 204 (x0, x1, ())
noncomputable def D2079 (x0 : Int) (x1 : ByteArray) : Option (ByteArray × Unit) := Dn 139 (x0, x1, ())
noncomputable def D2080 (x0 : Int) : Option (ByteArray × Unit) := Dn 105 (x0, ())
noncomputable def D2090 (x0 : Int) (x1 : Int) (x2 : Int) : Option (Bool × Unit) := Dn 140 (x0, x1, x2, ())
noncomputable def D2101 (x0 : List Fw.Answer) (x1 : List Fw.Answer) : Option (Bool × Unit) := Dn 46 (x0, x1, ())
noncomputable def D2106 (x0 : ByteArray) : Option (ByteArray × Bool × Unit) := Dn 202 (x0, ())
noncomputable def D2123 (x0 : List Fw.Cell) (x1 : Fw.Tx) : Option (Bool × Unit) := Dn 14 (x0, x1, ())
noncomputable def D2129 (x0 : Fw.Tx) (x1 : Fw.Kernel) : Option (Bool × Unit) := Dn 21 (x0, x1, ())
noncomputable def D2130 (x0 : List Fw.Cell) (x1 : Fw.Tx) : Option (Bool × Unit) := Dn 22 (x0, x1, ())
noncomputable def D2142 (x0 : List ByteArray) (x1 : ByteArray) : Option (Bool × Unit) := Dn 72 (x0, x1, ())
noncomputable def D2165 (x0 : Fw.Tx) : Option ((List Fw.Step) × Unit) := Dn 45 (x0, ())
noncomputable def D2167 (x0 : Fw.Mach) (x1 : Int) : Option (Int × Int × Fw.Mach × Unit) := Dn 99 (x0, x1, ())
noncomputable def D2168 (x0 : List Fw.Cell) : Option ((List Fw.Cell) × Unit) := Dn 67 (x0, ())
noncomputable def D2180 (x0 : List Fw.Cell) (x1 : ByteArray) : Option (Int × Unit) := Dn 231 (x0, x1, ())
noncomputable def D2181 (x0 : ByteArray) (x1 : Int) (x2 : ByteArray) : Option (ByteArray × Unit) := Dn 149 (x0, x1, x2, ())
noncomputable def D2182 (x0 : Int) : Option (ByteArray × Unit) := Dn 162 (x0, ())
noncomputable def D2194 (x0 : ByteArray) : Option (ByteArray × Unit) := Dn 203 (x0, ())
noncomputable def D2202 (x0 : List Fw.Cell) : Option (Fw.Mach × Unit) := Dn 43 (x0, ())
noncomputable def D2203 (x0 : Fw.Mach) (x1 : List Fw.Step) : Option ((List Fw.Answer) × Fw.Mach × Unit) := Dn 44 (x0, x1, ())
noncomputable def D2204 (x0 : List Fw.Answer) (x1 : List Fw.Answer) : Option (Bool × Unit) := Dn 69 (x0, x1, ())
noncomputable def D2213 (x0 : List UInt8) : Option (ByteArray × Unit) := Dn 229 (x0, ())
noncomputable def D2235 (x0 : List Fw.Answer) (x1 : List Fw.Answer) : Option (Bool × Unit) := Dn 35 (x0, x1, ())
noncomputable def D2236 (x0 : List ByteArray) (x1 : List ByteArray) : Option (Bool × Unit) := Dn 36 (x0, x1, ())
noncomputable def D2242 (x0 : List ByteArray) (x1 : List ByteArray) : Option (Bool × Unit) := Dn 47 (x0, x1, ())
noncomputable def D2253 (x0 : List ByteArray) (x1 : ByteArray) : Option (Int × Unit) := Dn 114 (x0, x1, ())
noncomputable def D2254 (x0 : ByteArray) : Option (Bool × Unit) := Dn 221 (x0, ())
noncomputable def D2256 (x0 : ByteArray) : Option (ByteArray × Unit) := Dn 156 (x0, ())
noncomputable def D2295 (x0 : Fw.Mach) (x1 : ByteArray) : Option (Int × Fw.Mach × Unit) := Dn 138 (x0, x1, ())
noncomputable def D2296 (x0 : Fw.Mach) (x1 : ByteArray) : Option (Int × Fw.Mach × Unit) := Dn 143 (x0, x1, ())
noncomputable def D2297 (x0 : Fw.Mach) (x1 : ByteArray) (x2 : Int) : Option (Fw.Mach × Unit) := Dn 144 (x0, x1, x2, ())
noncomputable def D2303 (x0 : List Fw.Cell) (x1 : ByteArray) : Option (Int × Unit) := Dn 224 (x0, x1, ())
noncomputable def D2304 (x0 : Fw.Cell) (x1 : ByteArray) : Option (Bool × Unit) := Dn 246 (x0, x1, ())
noncomputable def D2308 (x0 : Fw.Mach) (x1 : Int) (x2 : Fw.Call) : Option (Fw.Answer × Fw.Mach × Unit) := Dn 68 (x0, x1, x2, ())
noncomputable def D2310 (x0 : List ByteArray) (x1 : ByteArray) : Option ((List ByteArray) × Unit) := Dn 196 (x0, x1, ())
noncomputable def D2311 (x0 : ByteArray) : Option (Int × Unit) := Dn 161 (x0, ())
noncomputable def D2312 (x0 : ByteArray) (x1 : ByteArray) : Option (ByteArray × Bool × Unit) := Dn 230 (x0, x1, ())
noncomputable def D2313 (x0 : ByteArray) : Option (ByteArray × Bool × Unit) := Dn 228 (x0, ())
noncomputable def D2319 (x0 : List Fw.Cell) (x1 : ByteArray) (x2 : ByteArray) : Option ((List Fw.Cell) × Unit) := Dn 197 (x0, x1, x2, ())
noncomputable def D2345 (x0 : ByteArray) (x1 : List ByteArray) : Option (Bool × Unit) := Dn 71 (x0, x1, ())
noncomputable def D2387 (x0 : Fw.Mach) (x1 : ByteArray) : Option (ByteArray × Fw.Mach × Unit) := Dn 159 (x0, x1, ())
noncomputable def D2388 (x0 : Fw.Mach) (x1 : ByteArray) (x2 : ByteArray) : Option (Fw.Mach × Unit) := Dn 147 (x0, x1, x2, ())
noncomputable def D2394 (x0 : Fw.Mach) (x1 : Int) : Option (Int × Fw.Mach × Unit) := Dn 88 (x0, x1, ())
noncomputable def D2395 (x0 : Fw.Call) : Option (Bool × Unit) := Dn 89 (x0, ())
noncomputable def D2396 (x0 : Fw.Mach) (x1 : ByteArray) : Option (Int × Int × Fw.Mach × Unit) := Dn 90 (x0, x1, ())
noncomputable def D2397 (x0 : Fw.Mach) (x1 : ByteArray) (x2 : ByteArray) : Option (Int × Fw.Mach × Unit) := Dn 91 (x0, x1, x2, ())
noncomputable def D2398 (x0 : Fw.Mach) (x1 : ByteArray) : Option (Int × Fw.Mach × Unit) := Dn 92 (x0, x1, ())
noncomputable def D2399 (x0 : Fw.Mach) (x1 : ByteArray) (x2 : ByteArray) : Option (Int × Fw.Mach × Unit) := Dn 93 (x0, x1, x2, ())
noncomputable def D2400 (x0 : Fw.Mach) : Option ((List ByteArray) × Fw.Mach × Unit) := Dn 94 (x0, ())
noncomputable def D2401 (x0 : Fw.Mach) (x1 : Fw.Call) : Option (Fw.Answer × Fw.Mach × Unit) := Dn 95 (x0, x1, ())
noncomputable def D2402 (x0 : Fw.Mach) : Option (Int × Int × Fw.Mach × Unit) := Dn 96 (x0, ())
noncomputable def D2403 (x0 : Fw.Mach) (x1 : Int) (x2 : ByteArray) : Option (Int × Fw.Mach × Unit) := Dn 97 (x0, x1, x2, ())
noncomputable def D2404 (x0 : Fw.Mach) (x1 : Int) : Option (ByteArray × Int × Fw.Mach × Unit) := Dn 98 (x0, x1, ())
noncomputable def D2405 (x0 : Fw.Mach) (x1 : Int) (x2 : Int) : Option (Fw.Mach × Unit) := Dn 100 (x0, x1, x2, ())
noncomputable def D2406 (x0 : Fw.Mach) (x1 : Int) (x2 : Int) : Option (Int × Fw.Mach × Unit) := Dn 101 (x0, x1, x2, ())
noncomputable def D2407 (x0 : Fw.Mach) (x1 : Int) : Option (Fw.Mach × Unit) := Dn 102 (x0, x1, ())
noncomputable def D2408 (x0 : Fw.Mach) (x1 : Int) (x2 : Int) : Option (Int × Int × Fw.Mach × Unit) := Dn 103 (x0, x1, x2, ())
noncomputable def D2409 (x0 : Fw.Mach) (x1 : Int) : Option ((List Int) × Fw.Mach × Unit) := Dn 104 (x0, x1, ())
noncomputable def D2410 (x0 : Fw.Mach) (x1 : Int) (x2 : Int) : Option (Int × Fw.Mach × Unit) := Dn 106 (x0, x1, x2, ())
noncomputable def D2411 (x0 : Fw.Mach) (x1 : Int) : Option (Int × Int × Fw.Mach × Unit) := Dn 107 (x0, x1, ())
noncomputable def D2412 (x0 : Fw.Mach) (x1 : Int) (x2 : Int) : Option (Int × Fw.Mach × Unit) := Dn 108 (x0, x1, x2, ())
noncomputable def D2413 (x0 : Fw.Mach) (x1 : Int) : Option (Int × Int × Fw.Mach × Unit) := Dn 109 (x0, x1, ())
noncomputable def D2414 (x0 : Fw.Mach) (x1 : Int) (x2 : Int) (x3 : ByteArray) : Option (Int × Fw.Mach × Unit) := Dn 110 (x0, x1, x2, x3, ())
noncomputable def D2415 (x0 : Fw.Mach) (x1 : Int) (x2 : Int) : Option (ByteArray × Int × Fw.Mach × Unit) := Dn 111 (x0, x1, x2, ())
noncomputable def D2416 (x0 : Fw.Mach) (x1 : ByteArray) : Option (Int × Fw.Mach × Unit) := Dn 112 (x0, x1, ())
noncomputable def D2417 (x0 : List ByteArray) (x1 : ByteArray) : Option (Int × Unit) := Dn 113 (x0, x1, ())
noncomputable def D2418 (x0 : ByteArray) (x1 : ByteArray) : Option (Bool × Unit) := Dn 219 (x0, x1, ())
noncomputable def D2419 (x0 : List ByteArray) (x1 : Int) (x2 : List ByteArray) : Option ((List ByteArray) × Unit) := Dn 220 (x0, x1, x2, ())
noncomputable def D2420 (x0 : ByteArray) : Option (Int × Bool × Unit) := Dn 206 (x0, ())
noncomputable def D2425 (x0 : List Fw.Cell) (x1 : ByteArray) : Option ((List Fw.Cell) × Unit) := Dn 222 (x0, x1, ())
noncomputable def D2426 (x0 : Fw.Cell) (x1 : ByteArray) : Option (Bool × Unit) := Dn 223 (x0, x1, ())
noncomputable def D2427 (x0 : Fw.Cell) (x1 : ByteArray) : Option (Bool × Unit) := Dn 225 (x0, x1, ())
noncomputable def D2428 (x0 : List Fw.Cell) (x1 : Int) (x2 : List Fw.Cell) : Option ((List Fw.Cell) × Unit) := Dn 226 (x0, x1, x2, ())
noncomputable def D2486 (x0 : ByteArray) : Option (Bool × Unit) := Dn 141 (x0, ())
noncomputable def D2487 (x0 : Fw.Mach) (x1 : ByteArray) : Option (Int × Fw.Mach × Unit) := Dn 142 (x0, x1, ())
noncomputable def D2488 (x0 : ByteArray) : Option (ByteArray × Unit) := Dn 145 (x0, ())
noncomputable def D2489 (x0 : Int) : Option (ByteArray × Unit) := Dn 146 (x0, ())
noncomputable def D2490 (x0 : Fw.Mach) (x1 : ByteArray) : Option (Fw.Mach × Unit) := Dn 148 (x0, x1, ())
noncomputable def D2491 (x0 : Fw.Mach) (x1 : ByteArray) : Option ((List ByteArray) × Fw.Mach × Unit) := Dn 150 (x0, x1, ())
noncomputable def D2492 (x0 : Fw.Mach) (x1 : Int) (x2 : Int) (x3 : Int) : Option (ByteArray × Fw.Mach × Unit) := Dn 151 (x0, x1, x2, x3, ())
noncomputable def D2493 (x0 : Fw.Mach) (x1 : Int) (x2 : Int) (x3 : ByteArray) : Option (Int × Fw.Mach × Unit) := Dn 152 (x0, x1, x2, x3, ())
noncomputable def D2494 (x0 : Fw.Mach) (x1 : Int) (x2 : Int) : Option (Int × Fw.Mach × Unit) := Dn 153 (x0, x1, x2, ())
noncomputable def D2495 (x0 : Int) (x1 : ByteArray) : Option (ByteArray × Unit) := Dn 154 (x0, x1, ())
noncomputable def D2496 (x0 : Fw.Mach) (x1 : Int) : Option (Bool × Fw.Mach × Unit) := Dn 155 (x0, x1, ())
noncomputable def D2497 (x0 : Fw.Mach) (x1 : ByteArray) : Option (ByteArray × Fw.Mach × Unit) := Dn 157 (x0, x1, ())
noncomputable def D2498 (x0 : Int) : Option (ByteArray × Unit) := Dn 158 (x0, ())
noncomputable def D2499 (x0 : ByteArray) (x1 : ByteArray) : Option (ByteArray × Bool × Unit) := Dn 160 (x0, x1, ())
noncomputable def D2500 (x0 : Int) (x1 : ByteArray) : Option (ByteArray × Unit) := Dn 163 (x0, x1, ())
noncomputable def D2547 (x0 : ByteArray) (x1 : ByteArray) : Option (Bool × Unit) := Dn 227 (x0, x1, ())
noncomputable def D2554 (x0 : List Fw.Cell) (x1 : ByteArray) : Option ((List ByteArray) × Unit) := Dn 198 (x0, x1, ())
noncomputable def D2555 (x0 : Int) : Option (ByteArray × Unit) := Dn 199 (x0, ())
noncomputable def D2556 (x0 : Fw.Mach) (x1 : Int) (x2 : Int) : Option (ByteArray × Fw.Mach × Unit) := Dn 200 (x0, x1, x2, ())
noncomputable def D2557 (x0 : Int) (x1 : Int) : Option (ByteArray × Unit) := Dn 201 (x0, x1, ())
noncomputable def D3303 (x0 : List Fw.Cell) (x1 : ByteArray) : Option (Int × Unit) := Dn 1224 (x0, x1, ())
noncomputable def D3344 (x0 : List ByteArray) (x1 : List ByteArray) : Option (Bool × Unit) := Dn 1070 (x0, x1, ())
noncomputable def D3417 (x0 : List ByteArray) (x1 : List ByteArray) : Option (Int × Unit) := Dn 1113 (x0, x1, ())
noncomputable def D4081 (x0 : List Fw.Tx) (x1 : Fw.Kernel) : Option (Bool × Unit) := Dn 2020 (x0, x1, ())
noncomputable def D4303 (x0 : List Fw.Cell) (x1 : ByteArray) : Option (Int × Unit) := Dn 2224 (x0, x1, ())
noncomputable def D5003 (x0 : Fw.Kernel) : Option (Bool × Unit) := Dn 3 (x0, ())
noncomputable def D5004 (x0 : Fw.Kernel) (x1 : Int) : Option (Int × Unit) := Dn 4 (x0, x1, ())
noncomputable def D5006 (x0 : Fw.Kernel) : Option (Fw.Kernel × Unit) := Dn 6 (x0, ())
noncomputable def D5008 (x0 : Fw.Kernel) (x1 : Fw.Kernel) : Option (Bool × Unit) := Dn 8 (x0, x1, ())
noncomputable def D5009 (x0 : List Fw.Cell) (x1 : Int) : Option (Int × Unit) := Dn 9 (x0, x1, ())
noncomputable def D5010 (x0 : List Fw.Tx) (x1 : Int) : Option (Int × Unit) := Dn 10 (x0, x1, ())
noncomputable def D5011 (x0 : Fw.Disk) (x1 : Int) : Option (Int × Unit) := Dn 11 (x0, x1, ())
noncomputable def D5012 (x0 : List Fw.Entry) (x1 : Int) : Option (Int × Unit) := Dn 12 (x0, x1, ())
noncomputable def D5013 (x0 : List ByteArray) (x1 : Int) : Option (Int × Unit) := Dn 13 (x0, x1, ())
noncomputable def D5015 (x0 : List Fw.Cell) : Option ((List Fw.Cell) × Unit) := Dn 15 (x0, ())
noncomputable def D5016 (x0 : List Fw.Tx) : Option ((List Fw.Tx) × Unit) := Dn 16 (x0, ())
noncomputable def D5017 (x0 : Fw.Disk) : Option (Fw.Disk × Unit) := Dn 17 (x0, ())
noncomputable def D5018 (x0 : List Fw.Entry) : Option ((List Fw.Entry) × Unit) := Dn 18 (x0, ())
noncomputable def D5019 (x0 : List ByteArray) : Option ((List ByteArray) × Unit) := Dn 19 (x0, ())
noncomputable def D5023 (x0 : List Fw.Cell) (x1 : List Fw.Cell) : Option (Bool × Unit) := Dn 23 (x0, x1, ())
noncomputable def D5024 (x0 : List Fw.Tx) (x1 : List Fw.Tx) : Option (Bool × Unit) := Dn 24 (x0, x1, ())
noncomputable def D5025 (x0 : Fw.Disk) (x1 : Fw.Disk) : Option (Bool × Unit) := Dn 25 (x0, x1, ())
noncomputable def D5026 (x0 : List Fw.Entry) (x1 : List Fw.Entry) : Option (Bool × Unit) := Dn 26 (x0, x1, ())
noncomputable def D5027 (x0 : List ByteArray) (x1 : List ByteArray) : Option (Bool × Unit) := Dn 27 (x0, x1, ())
noncomputable def D5028 (x0 : Fw.Cell) (x1 : Int) : Option (Int × Unit) := Dn 28 (x0, x1, ())
noncomputable def D5029 (x0 : Fw.Tx) (x1 : Int) : Option (Int × Unit) := Dn 29 (x0, x1, ())
noncomputable def D5030 (x0 : List Fw.Slot) (x1 : Int) : Option (Int × Unit) := Dn 30 (x0, x1, ())
noncomputable def D5031 (x0 : Fw.Journal) (x1 : Int) : Option (Int × Unit) := Dn 31 (x0, x1, ())
noncomputable def D5032 (x0 : Fw.Entry) (x1 : Int) : Option (Int × Unit) := Dn 32 (x0, x1, ())
noncomputable def D5037 (x0 : Fw.Cell) : Option (Fw.Cell × Unit) := Dn 37 (x0, ())
noncomputable def D5038 (x0 : Fw.Tx) : Option (Fw.Tx × Unit) := Dn 38 (x0, ())
noncomputable def D5039 (x0 : List Fw.Slot) : Option ((List Fw.Slot) × Unit) := Dn 39 (x0, ())
noncomputable def D5040 (x0 : Fw.Journal) : Option (Fw.Journal × Unit) := Dn 40 (x0, ())
noncomputable def D5041 (x0 : Fw.Entry) : Option (Fw.Entry × Unit) := Dn 41 (x0, ())
noncomputable def D5048 (x0 : Fw.Cell) (x1 : Fw.Cell) : Option (Bool × Unit) := Dn 48 (x0, x1, ())
noncomputable def D5049 (x0 : Fw.Tx) (x1 : Fw.Tx) : Option (Bool × Unit) := Dn 49 (x0, x1, ())
noncomputable def D5050 (x0 : List Fw.Slot) (x1 : List Fw.Slot) : Option (Bool × Unit) := Dn 50 (x0, x1, ())
noncomputable def D5051 (x0 : Fw.Journal) (x1 : Fw.Journal) : Option (Bool × Unit) := Dn 51 (x0, x1, ())
noncomputable def D5052 (x0 : Fw.Entry) (x1 : Fw.Entry) : Option (Bool × Unit) := Dn 52 (x0, x1, ())
noncomputable def D5053 (x0 : List Fw.Call) (x1 : Int) : Option (Int × Unit) := Dn 53 (x0, x1, ())
noncomputable def D5054 (x0 : List Fw.Answer) (x1 : Int) : Option (Int × Unit) := Dn 54 (x0, x1, ())
noncomputable def D5055 (x0 : Fw.Touch) (x1 : Int) : Option (Int × Unit) := Dn 55 (x0, x1, ())
noncomputable def D5056 (x0 : List Int) (x1 : Int) : Option (Int × Unit) := Dn 56 (x0, x1, ())
noncomputable def D5057 (x0 : Fw.Slot) (x1 : Int) : Option (Int × Unit) := Dn 57 (x0, x1, ())
noncomputable def D5058 (x0 : List Fw.Step) (x1 : Int) : Option (Int × Unit) := Dn 58 (x0, x1, ())
noncomputable def D5061 (x0 : List Fw.Call) : Option ((List Fw.Call) × Unit) := Dn 61 (x0, ())
noncomputable def D5062 (x0 : List Fw.Answer) : Option ((List Fw.Answer) × Unit) := Dn 62 (x0, ())
noncomputable def D5063 (x0 : Fw.Touch) : Option (Fw.Touch × Unit) := Dn 63 (x0, ())
noncomputable def D5064 (x0 : List Int) : Option ((List Int) × Unit) := Dn 64 (x0, ())
noncomputable def D5065 (x0 : Fw.Slot) : Option (Fw.Slot × Unit) := Dn 65 (x0, ())
noncomputable def D5066 (x0 : List Fw.Step) : Option ((List Fw.Step) × Unit) := Dn 66 (x0, ())
noncomputable def D5073 (x0 : List Fw.Call) (x1 : List Fw.Call) : Option (Bool × Unit) := Dn 73 (x0, x1, ())
noncomputable def D5074 (x0 : List Fw.Answer) (x1 : List Fw.Answer) : Option (Bool × Unit) := Dn 74 (x0, x1, ())
noncomputable def D5075 (x0 : Fw.Touch) (x1 : Fw.Touch) : Option (Bool × Unit) := Dn 75 (x0, x1, ())
noncomputable def D5076 (x0 : List Int) (x1 : List Int) : Option (Bool × Unit) := Dn 76 (x0, x1, ())
noncomputable def D5077 (x0 : Fw.Slot) (x1 : Fw.Slot) : Option (Bool × Unit) := Dn 77 (x0, x1, ())
noncomputable def D5078 (x0 : List Fw.Step) (x1 : List Fw.Step) : Option (Bool × Unit) := Dn 78 (x0, x1, ())
noncomputable def D5079 (x0 : Fw.Call) (x1 : Int) : Option (Int × Unit) := Dn 79 (x0, x1, ())
noncomputable def D5080 (x0 : Fw.Answer) (x1 : Int) : Option (Int × Unit) := Dn 80 (x0, x1, ())
noncomputable def D5081 (x0 : Fw.Step) (x1 : Int) : Option (Int × Unit) := Dn 81 (x0, x1, ())
noncomputable def D5085 (x0 : Fw.Call) : Option (Fw.Call × Unit) := Dn 85 (x0, ())
noncomputable def D5086 (x0 : Fw.Answer) : Option (Fw.Answer × Unit) := Dn 86 (x0, ())
noncomputable def D5087 (x0 : Fw.Step) : Option (Fw.Step × Unit) := Dn 87 (x0, ())
noncomputable def D5115 (x0 : Fw.Call) (x1 : Fw.Call) : Option (Bool × Unit) := Dn 115 (x0, x1, ())
noncomputable def D5116 (x0 : Fw.Answer) (x1 : Fw.Answer) : Option (Bool × Unit) := Dn 116 (x0, x1, ())
noncomputable def D5117 (x0 : Fw.Step) (x1 : Fw.Step) : Option (Bool × Unit) := Dn 117 (x0, x1, ())
noncomputable def D5205 (x0 : ByteArray) (x1 : ByteArray) : Option (ByteArray × Bool × Unit) := Dn 205 (x0, x1, ())
noncomputable def D5232 (x0 : ByteArray) (x1 : ByteArray) : Option (Bool × Unit) := Dn 232 (x0, x1, ())
noncomputable def D5241 (x0 : ByteArray) (x1 : ByteArray) : Option (Bool × Unit) := Dn 241 (x0, x1, ())
noncomputable def D5245 (x0 : ByteArray) (x1 : ByteArray) : Option (ByteArray × Bool × Unit) := Dn 245 (x0, x1, ())
noncomputable def D6183 (x0 : List Fw.Tx) (x1 : Fw.Kernel) : Option (Int × Unit) := Dn 4042 (x0, x1, ())
end Go.Proofs.YtlkjmghomjkcmaaGreatDoor.Ri

namespace Go.Proofs.YtlkjmghomjkcmaaGreatDoor.Ri
open Go.Proofs.YtlkjmghomjkcmaaGreatDoor.Fw
open Go.RowKit
set_option linter.unusedVariables false
set_option maxRecDepth 100000
theorem E27 (x0 : Int) (x1 : Int) (x2 : Int) : D27 x0 x1 x2 = (some (((decide (x0 ≥ x1)) && (decide (x0 ≤ x2))), ())) := (Dn_eq _ _).trans (by kernel_rfl)
theorem E52 (x0 : Fw.Mach) (x1 : Int) : D52 x0 x1 = ((D88 x0 (tx [99, 47, 112, 114, 111, 99])).bind fun y0 => bif (decide (y0.2.1 ≥ 12)) then (some (y0.1, (0, (3, ())))) else (D89 y0.1 (tx [99, 47, 112, 114, 111, 99])).bind fun y1 => (D91 y1.2.1 (tx [47, 115])).bind fun y2 => (D90 y1.1 y2.1 1).bind fun y3 => (D91 y1.2.1 (tx [47, 112])).bind fun y4 => (D90 y3.1 y4.1 x1).bind fun y5 => some (y5.1, (y1.2.1, (0, ())))) := (Dn_eq _ _).trans (by kernel_rfl)
theorem E53 (x0 : List Fw.Cell) : D53 x0 = (gd ((decide (((0 + x0.length) * 32) ≤ 140737488355328)) && (decide ((0 + x0.length) ≤ 9223372036854775807))) <| some ((⟨([] ++ x0), (⟨[], []⟩ : Fw.Touch)⟩ : Fw.Mach), ())) := (Dn_eq _ _).trans (by kernel_rfl)
theorem E64 (x0 : List Fw.Cell) (x1 : Int) (x2 : Fw.Call) : D64 x0 x1 x2 = ((D53 x0).bind fun y0 => (D101 y0.1 x1 x2).bind fun y1 => some (y1.1.Store, (y1.2.1, (y1.1.Touch, ())))) := (Dn_eq _ _).trans (by kernel_rfl)
theorem E88 (x0 : Fw.Mach) (x1 : ByteArray) : D88 x0 x1 = ((D130 x0 x1).bind fun y0 => (D111 y0.2.1).bind fun y1 => some (y0.1, (y1.1, ()))) := (Dn_eq _ _).trans (by kernel_rfl)
theorem E89 (x0 : Fw.Mach) (x1 : ByteArray) : D89 x0 x1 = ((D130 x0 x1).bind fun y0 => (D111 y0.2.1).bind fun y1 => bif (decide ((IntKind.wrap .i64 (y1.1 + 1)) > 999)) then (some (y0.1, (0, ()))) else (D122 (IntKind.wrap .i64 (y1.1 + 1))).bind fun y2 => (D131 y0.1 x1 y2.1).bind fun y3 => some (y3.1, ((IntKind.wrap .i64 (y1.1 + 1)), ()))) := (Dn_eq _ _).trans (by kernel_rfl)
theorem E90 (x0 : Fw.Mach) (x1 : ByteArray) (x2 : Int) : D90 x0 x1 x2 = ((D27 x2 1 999).bind fun y0 => bif (!y0.1) then ((D131 x0 x1 (tx [])).bind fun y3 => some (y3.1, ())) else (D122 x2).bind fun y1 => (D131 x0 x1 y1.1).bind fun y2 => some (y2.1, ())) := (Dn_eq _ _).trans (by kernel_rfl)
theorem E91 (x0 : Int) (x1 : ByteArray) : D91 x0 x1 = ((D112 (tx [114, 47]) x0 x1).bind fun y0 => some (y0.1, ())) := (Dn_eq _ _).trans (by kernel_rfl)
noncomputable def L100_116 (s6 : Int) (e0_0 : List ByteArray) (e0_1 : List ByteArray) (e3 : List ByteArray) (e4 : List ByteArray) : Option (Fw.Touch × Unit) := Ln 60 116 (⟨50, [(3, .ok (.pt 0 0)), (4, .ok (.pt 1 0)), (5, .ok (.pt 2 0)), (6, .ok (.v (.int .i64 s6)))], [(0, .var [.ro 9 e0_0, .ro 9 e0_1] 55), (1, .var [.v (.slice none 0 0), .v (.slice none 0 0)] 55), (2, .var [.sl 3, .sl 4] 55), (3, .own 9 e3), (4, .own 9 e4)]⟩, 5)
noncomputable def L100_15 (e0_0 : List ByteArray) (e0_1 : List ByteArray) (e3 : List ByteArray) (e4 : List ByteArray) : Option (Fw.Touch × Unit) := Ln 60 15 (⟨50, [(3, .ok (.pt 0 0)), (4, .ok (.pt 1 0)), (5, .ok (.pt 2 0))], [(0, .var [.ro 9 e0_0, .ro 9 e0_1] 55), (1, .var [.v (.slice none 0 0), .v (.slice none 0 0)] 55), (2, .var [.sl 3, .sl 4] 55), (3, .own 9 e3), (4, .own 9 e4)]⟩, 5)
noncomputable def L100_244 (s7 : Int) (e0_0 : List ByteArray) (e0_1 : List ByteArray) (e3 : List ByteArray) (e4 : List ByteArray) : Option (Fw.Touch × Unit) := Ln 60 244 (⟨50, [(3, .ok (.pt 0 0)), (4, .ok (.pt 1 0)), (5, .ok (.pt 2 0)), (7, .ok (.v (.int .i64 s7)))], [(0, .var [.ro 9 e0_0, .ro 9 e0_1] 55), (1, .var [.v (.slice none 0 0), .v (.slice none 0 0)] 55), (2, .var [.sl 3, .sl 4] 55), (3, .own 9 e3), (4, .own 9 e4)]⟩, 5)
noncomputable def L100_31 (e2 : List ByteArray) (e3 : List ByteArray) : Option (Fw.Touch × Unit) := Ln 60 31 (⟨50, [(4, .ok (.pt 0 0)), (5, .ok (.pt 1 0))], [(0, .var [.v (.slice none 0 0), .v (.slice none 0 0)] 55), (1, .var [.sl 2, .sl 3] 55), (2, .own 9 e2), (3, .own 9 e3)]⟩, 4)
theorem E100 (x0 : Fw.Touch) (x1 : Fw.Touch) : D100 x0 x1 = (gd ((decide (((0 + x0.Reads.length) * 16) ≤ 140737488355328)) && (decide ((0 + x0.Reads.length) ≤ 9223372036854775807))) <| gd ((decide (((0 + x0.Writes.length) * 16) ≤ 140737488355328)) && (decide ((0 + x0.Writes.length) ≤ 9223372036854775807))) <| L100_116 0 x1.Reads x1.Writes ([] ++ x0.Reads) ([] ++ x0.Writes)) := (Dn_eq _ _).trans (by kernel_rfl)
theorem P100_116 (s6 : Int) (e0_0 : List ByteArray) (e0_1 : List ByteArray) (e3 : List ByteArray) (e4 : List ByteArray) : L100_116 s6 e0_0 e0_1 e3 e4 = (bif (decide (s6 < (e0_0.length : Int))) then (gd ((decide (0 ≤ s6)) && (decide (s6 < (e0_0.length : Int)))) <| (D135 e3 (nth e0_0 s6.toNat)).bind fun y0 => L100_116 (IntKind.wrap .i64 (s6 + 1)) e0_0 e0_1 y0.1 e4) else L100_15 e0_0 e0_1 e3 e4) := (Ln_eq _ _ _).trans (by kernel_rfl)
theorem P100_15 (e0_0 : List ByteArray) (e0_1 : List ByteArray) (e3 : List ByteArray) (e4 : List ByteArray) : L100_15 e0_0 e0_1 e3 e4 = (L100_244 0 e0_0 e0_1 e3 e4) := (Ln_eq _ _ _).trans (by kernel_rfl)
theorem P100_244 (s7 : Int) (e0_0 : List ByteArray) (e0_1 : List ByteArray) (e3 : List ByteArray) (e4 : List ByteArray) : L100_244 s7 e0_0 e0_1 e3 e4 = (bif (decide (s7 < (e0_1.length : Int))) then (gd ((decide (0 ≤ s7)) && (decide (s7 < (e0_1.length : Int)))) <| (D135 e4 (nth e0_1 s7.toNat)).bind fun y0 => L100_244 (IntKind.wrap .i64 (s7 + 1)) e0_0 e0_1 e3 y0.1) else L100_31 e3 e4) := (Ln_eq _ _ _).trans (by kernel_rfl)
theorem P100_31 (e2 : List ByteArray) (e3 : List ByteArray) : L100_31 e2 e3 = (some ((⟨e2, e3⟩ : Fw.Touch), ())) := (Ln_eq _ _ _).trans (by kernel_rfl)
noncomputable def L101_1038335 (s1 : Int) (s27 : Int) (s86 : Bool) (e1 : List Fw.Cell) (e2 : List ByteArray) (e3 : List ByteArray) (e4_0 : Int) (e4_1 : ByteArray) (e4_2 : ByteArray) (e4_3 : Int) (e4_4 : Int) (e4_5 : ByteArray) (e6_0 : Int) (e6_1 : Int) (e6_2 : ByteArray) (e7_0 : Int) (e7_1 : Int) (e7_2 : ByteArray) : Option (Fw.Mach × Fw.Answer × Unit) := Ln 82 1038335 (⟨213, [(1, .ok (.v (.int .i64 s1))), (3, .ok (.pt 0 0)), (5, .ok (.pt 4 0)), (6, .ok (.pt 5 0)), (7, .ok (.pt 6 0)), (9, .ok (.pt 7 0)), (27, .ok (.v (.int .i64 s27))), (86, .ok (.v (.bool s86)))], [(0, .var [.sl 1, .sl 2, .sl 3] 102), (1, .own 92 e1), (2, .own 9 e2), (3, .own 9 e3), (4, .var [.v (.int .i64 e4_0), .v (.string e4_1), .v (.string e4_2), .v (.int .i64 e4_3), .v (.int .i64 e4_4), .v (.string e4_5)] 123), (5, .var [.v (.slice none 0 0), .v (.slice none 0 0), .v (.slice none 0 0)] 102), (6, .var [.v (.int .i64 e6_0), .v (.int .i64 e6_1), .v (.string e6_2)] 119), (7, .var [.v (.int .i64 e7_0), .v (.int .i64 e7_1), .v (.string e7_2)] 119)]⟩, 8)
noncomputable def L101_127 (e1 : List Fw.Cell) (e2 : List ByteArray) (e3 : List ByteArray) (e5_0 : Int) (e5_1 : Int) (e5_2 : ByteArray) (e6_0 : Int) (e6_1 : Int) (e6_2 : ByteArray) : Option (Fw.Mach × Fw.Answer × Unit) := Ln 82 127 (⟨213, [(3, .ok (.pt 0 0)), (6, .ok (.pt 4 0)), (7, .ok (.pt 5 0)), (9, .ok (.pt 6 0))], [(0, .var [.sl 1, .sl 2, .sl 3] 102), (1, .own 92 e1), (2, .own 9 e2), (3, .own 9 e3), (4, .var [.v (.slice none 0 0), .v (.slice none 0 0), .v (.slice none 0 0)] 102), (5, .var [.v (.int .i64 e5_0), .v (.int .i64 e5_1), .v (.string e5_2)] 119), (6, .var [.v (.int .i64 e6_0), .v (.int .i64 e6_1), .v (.string e6_2)] 119)]⟩, 7)
theorem E101 (x0 : Fw.Mach) (x1 : Int) (x2 : Fw.Call) : D101 x0 x1 x2 = ((D136 x0 x1).bind fun y0 => bif (!(decide (y0.2.1 = 1))) then (some (y0.1, ((⟨2, 0, (tx [])⟩ : Fw.Answer), ()))) else (D137 x2).bind fun y1 => bif (!y1.1) then (some (y0.1, ((⟨4, 0, (tx [])⟩ : Fw.Answer), ()))) else bif (decide (x2.Kind = 1)) then ((D138 y0.1 x2.Name).bind fun y6 => L101_127 y6.1.Store y6.1.Touch.Reads y6.1.Touch.Writes 0 0 (tx []) y6.2.2.1 y6.2.1 (tx [])) else bif (decide (x2.Kind = 2)) then ((D139 y0.1 x2.Name x2.To).bind fun y5 => L101_127 y5.1.Store y5.1.Touch.Reads y5.1.Touch.Writes 0 0 (tx []) y5.2.1 0 (tx [])) else bif (decide (x2.Kind = 3)) then ((D140 y0.1 x2.Name).bind fun y4 => L101_127 y4.1.Store y4.1.Touch.Reads y4.1.Touch.Writes 0 0 (tx []) y4.2.1 0 (tx [])) else bif (decide (x2.Kind = 4)) then ((D141 y0.1 x2.Name x2.To).bind fun y3 => L101_127 y3.1.Store y3.1.Touch.Reads y3.1.Touch.Writes 0 0 (tx []) y3.2.1 0 (tx [])) else bif (decide (x2.Kind = 5)) then ((D142 y0.1).bind fun y2 => some (y2.1, (y2.2.1, ()))) else bif (decide (x2.Kind = 6)) then (L101_1038335 x1 x2.Kind (decide (x2.Kind = 6)) y0.1.Store y0.1.Touch.Reads y0.1.Touch.Writes x2.Kind x2.Name x2.To x2.A x2.B x2.Text 0 0 (tx []) 0 0 (tx [])) else bif (decide (x2.Kind = 7)) then (L101_1038335 x1 x2.Kind (decide (x2.Kind = 7)) y0.1.Store y0.1.Touch.Reads y0.1.Touch.Writes x2.Kind x2.Name x2.To x2.A x2.B x2.Text 0 0 (tx []) 0 0 (tx [])) else L101_1038335 x1 x2.Kind (decide (x2.Kind = 8)) y0.1.Store y0.1.Touch.Reads y0.1.Touch.Writes x2.Kind x2.Name x2.To x2.A x2.B x2.Text 0 0 (tx []) 0 0 (tx [])) := (Dn_eq _ _).trans (by kernel_rfl)
theorem P101_1038335 (s1 : Int) (s27 : Int) (s86 : Bool) (e1 : List Fw.Cell) (e2 : List ByteArray) (e3 : List ByteArray) (e4_0 : Int) (e4_1 : ByteArray) (e4_2 : ByteArray) (e4_3 : Int) (e4_4 : Int) (e4_5 : ByteArray) (e6_0 : Int) (e6_1 : Int) (e6_2 : ByteArray) (e7_0 : Int) (e7_1 : Int) (e7_2 : ByteArray) : L101_1038335 s1 s27 s86 e1 e2 e3 e4_0 e4_1 e4_2 e4_3 e4_4 e4_5 e6_0 e6_1 e6_2 e7_0 e7_1 e7_2 = (bif s86 then ((D143 (⟨e1, (⟨e2, e3⟩ : Fw.Touch)⟩ : Fw.Mach) (⟨e4_0, e4_1, e4_2, e4_3, e4_4, e4_5⟩ : Fw.Call)).bind fun y11 => some (y11.1, (y11.2.1, ()))) else bif (decide (s27 = 9)) then ((D144 (⟨e1, (⟨e2, e3⟩ : Fw.Touch)⟩ : Fw.Mach)).bind fun y10 => L101_127 y10.1.Store y10.1.Touch.Reads y10.1.Touch.Writes e6_0 e6_1 e6_2 y10.2.2.1 y10.2.1 e7_2) else bif (decide (s27 = 10)) then ((D145 (⟨e1, (⟨e2, e3⟩ : Fw.Touch)⟩ : Fw.Mach) e4_3 e4_5).bind fun y9 => L101_127 y9.1.Store y9.1.Touch.Reads y9.1.Touch.Writes e6_0 e6_1 e6_2 y9.2.1 e7_1 e7_2) else bif (decide (s27 = 11)) then ((D146 (⟨e1, (⟨e2, e3⟩ : Fw.Touch)⟩ : Fw.Mach) e4_3).bind fun y8 => L101_127 y8.1.Store y8.1.Touch.Reads y8.1.Touch.Writes e6_0 e6_1 e6_2 y8.2.2.1 e7_1 y8.2.1) else bif (decide (s27 = 16)) then ((D147 (⟨e1, (⟨e2, e3⟩ : Fw.Touch)⟩ : Fw.Mach) e4_3 e4_4).bind fun y7 => L101_127 y7.1.Store y7.1.Touch.Reads y7.1.Touch.Writes e6_0 e6_1 e6_2 y7.2.1 e7_1 e7_2) else bif (decide (s27 = 17)) then ((D148 (⟨e1, (⟨e2, e3⟩ : Fw.Touch)⟩ : Fw.Mach) s1).bind fun y6 => L101_127 y6.1.Store y6.1.Touch.Reads y6.1.Touch.Writes e6_0 e6_1 e6_2 y6.2.2.1 y6.2.1 e7_2) else bif (decide (s27 = 18)) then ((D149 (⟨e1, (⟨e2, e3⟩ : Fw.Touch)⟩ : Fw.Mach) s1 e4_3).bind fun y5 => L101_127 y5.1.Store y5.1.Touch.Reads y5.1.Touch.Writes e6_0 e6_1 e6_2 y5.2.1 e7_1 e7_2) else bif (decide (s27 = 19)) then ((D150 (⟨e1, (⟨e2, e3⟩ : Fw.Touch)⟩ : Fw.Mach) e4_3).bind fun y4 => L101_127 y4.1.Store y4.1.Touch.Reads y4.1.Touch.Writes e6_0 e6_1 e6_2 y4.2.2.1 y4.2.1 e7_2) else bif (decide (s27 = 20)) then ((D151 (⟨e1, (⟨e2, e3⟩ : Fw.Touch)⟩ : Fw.Mach) s1 e4_3 e4_5).bind fun y3 => L101_127 y3.1.Store y3.1.Touch.Reads y3.1.Touch.Writes e6_0 e6_1 e6_2 y3.2.1 e7_1 e7_2) else bif (decide (s27 = 21)) then ((D152 (⟨e1, (⟨e2, e3⟩ : Fw.Touch)⟩ : Fw.Mach) s1 e4_3).bind fun y2 => L101_127 y2.1.Store y2.1.Touch.Reads y2.1.Touch.Writes e6_0 e6_1 e6_2 y2.2.2.1 e7_1 y2.2.1) else bif (decide (s27 = 22)) then ((D153 (⟨e1, (⟨e2, e3⟩ : Fw.Touch)⟩ : Fw.Mach) e4_5).bind fun y1 => L101_127 y1.1.Store y1.1.Touch.Reads y1.1.Touch.Writes e6_0 e6_1 e6_2 y1.2.1 e7_1 e7_2) else (D154 (⟨e1, (⟨e2, e3⟩ : Fw.Touch)⟩ : Fw.Mach) s1 (⟨e4_0, e4_1, e4_2, e4_3, e4_4, e4_5⟩ : Fw.Call)).bind fun y0 => some (y0.1, (y0.2.1, ()))) := (Ln_eq _ _ _).trans (by kernel_rfl)
theorem P101_127 (e1 : List Fw.Cell) (e2 : List ByteArray) (e3 : List ByteArray) (e5_0 : Int) (e5_1 : Int) (e5_2 : ByteArray) (e6_0 : Int) (e6_1 : Int) (e6_2 : ByteArray) : L101_127 e1 e2 e3 e5_0 e5_1 e5_2 e6_0 e6_1 e6_2 = (some ((⟨e1, (⟨e2, e3⟩ : Fw.Touch)⟩ : Fw.Mach), ((⟨e6_0, e6_1, e6_2⟩ : Fw.Answer), ()))) := (Ln_eq _ _ _).trans (by kernel_rfl)
noncomputable def L104_52 (s0 : List Fw.Cell) (s1 : ByteArray) (s5 : Int) : Option (ByteArray × Unit) := Ln 215 52 (⟨24, [(0, .ok (.ro 92 s0)), (1, .ok (.v (.string s1))), (5, .ok (.v (.int .i64 s5)))], []⟩, 0)
noncomputable def L104_7  : Option (ByteArray × Unit) := Ln 215 7 (⟨24, [], []⟩, 0)
theorem E104 (x0 : List Fw.Cell) (x1 : ByteArray) : D104 x0 x1 = (L104_52 x0 x1 0) := (Dn_eq _ _).trans (by kernel_rfl)
theorem P104_52 (s0 : List Fw.Cell) (s1 : ByteArray) (s5 : Int) : L104_52 s0 s1 s5 = (bif (decide (s5 < (s0.length : Int))) then (gd ((decide (0 ≤ s5)) && (decide (s5 < (s0.length : Int)))) <| bif (decide ((nth s0 s5.toNat).Key = s1)) then (gd ((decide (0 ≤ s5)) && (decide (s5 < (s0.length : Int)))) <| some ((nth s0 s5.toNat).Val, ())) else L104_52 s0 s1 (IntKind.wrap .i64 (s5 + 1))) else L104_7) := (Ln_eq _ _ _).trans (by kernel_rfl)
theorem P104_7  : L104_7 = (some ((tx []), ())) := (Ln_eq _ _ _).trans (by kernel_rfl)
theorem E106 (x0 : Int) (x1 : Int) (x2 : Int) : D106 x0 x1 x2 = (bif ((decide (x2 < x1)) || (decide (x0 < x1))) then (some (x1, ())) else bif (decide (x0 > x2)) then (some (x2, ())) else some (x0, ())) := (Dn_eq _ _).trans (by kernel_rfl)
theorem E111 (x0 : ByteArray) : D111 x0 = ((D159 x0).bind fun y0 => bif ((!y0.2.1) || (decide (y0.1 > 999))) then (some (0, ())) else some (y0.1, ())) := (Dn_eq _ _).trans (by kernel_rfl)
theorem E112 (x0 : ByteArray) (x1 : Int) (x2 : ByteArray) : D112 x0 x1 x2 = ((D122 x1).bind fun y0 => gd (decide ((x0.size + y0.1.size) ≤ 9223372036854775807)) <| gd (decide (((x0 ++ y0.1).size + x2.size) ≤ 9223372036854775807)) <| some (((x0 ++ y0.1) ++ x2), ())) := (Dn_eq _ _).trans (by kernel_rfl)
noncomputable def L113_244 (s0 : ByteArray) (s5 : Int) (e0 : List UInt8) : Option (ByteArray × Bool × Unit) := Ln 183 244 (⟨49, [(0, .ok (.v (.string s0))), (4, .ok (.sl 0)), (5, .ok (.v (.int .i64 s5)))], [(0, .own 5 e0)]⟩, 1)
noncomputable def L113_31 (e0 : List UInt8) : Option (ByteArray × Bool × Unit) := Ln 183 31 (⟨49, [(4, .ok (.sl 0))], [(0, .own 5 e0)]⟩, 1)
theorem E113 (x0 : ByteArray) : D113 x0 = (gd ((!(decide (2 = 0))) || (!(!(decide ((x0.size : Int) > 40000))))) <| bif ((decide ((x0.size : Int) > 40000)) || (!(decide ((Int.tmod (x0.size : Int) 2) = 0)))) then (some ((tx []), (false, ()))) else L113_244 x0 0 []) := (Dn_eq _ _).trans (by kernel_rfl)
theorem P113_244 (s0 : ByteArray) (s5 : Int) (e0 : List UInt8) : L113_244 s0 s5 e0 = (bif (decide (s5 < (s0.size : Int))) then (gd ((decide (0 ≤ s5)) && (decide (s5 < (s0.size : Int)))) <| (D160 (u8of ((byteAt s0 s5.toNat).toNat : Int))).bind fun y0 => gd ((decide (0 ≤ (IntKind.wrap .i64 (s5 + 1)))) && (decide ((IntKind.wrap .i64 (s5 + 1)) < (s0.size : Int)))) <| (D160 (u8of ((byteAt s0 (IntKind.wrap .i64 (s5 + 1)).toNat).toNat : Int))).bind fun y1 => bif ((decide (y0.1 < 0)) || (decide (y1.1 < 0))) then (some ((tx []), (false, ()))) else gd ((decide (((e0.length + 1) * 1) ≤ 140737488355328)) && (decide ((e0.length + 1) ≤ 9223372036854775807))) <| L113_244 s0 (IntKind.wrap .i64 (s5 + 2)) (e0 ++ [(u8of (IntKind.wrap .u8 (IntKind.wrap .i64 ((IntKind.wrap .i64 (16 * y0.1)) + y1.1))))])) else L113_31 e0) := (Ln_eq _ _ _).trans (by kernel_rfl)
theorem P113_31 (e0 : List UInt8) : L113_31 e0 = (some ((bstr (e0.map fun x => x)), (true, ()))) := (Ln_eq _ _ _).trans (by kernel_rfl)
noncomputable def L122_248 (s0 : Int) (s3 : Bool) (s4 : ByteArray) : Option (ByteArray × Unit) := Ln 195 248 (⟨30, [(0, .ok (.v (.int .i64 s0))), (3, .ok (.v (.bool s3))), (4, .ok (.v (.string s4)))], []⟩, 0)
noncomputable def L122_63 (s3 : Bool) (s4 : ByteArray) : Option (ByteArray × Unit) := Ln 195 63 (⟨30, [(3, .ok (.v (.bool s3))), (4, .ok (.v (.string s4)))], []⟩, 0)
noncomputable def L122_3979 (s0 : Int) (s3 : Bool) (s4 : ByteArray) (s5 : Int) : Option (ByteArray × Unit) := Ln 195 3979 (⟨30, [(0, .ok (.v (.int .i64 s0))), (3, .ok (.v (.bool s3))), (4, .ok (.v (.string s4))), (5, .ok (.v (.int .i64 s5)))], []⟩, 0)
theorem E122 (x0 : Int) : D122 x0 = (bif (decide (x0 = 0)) then (some ((tx [48]), ())) else L122_248 x0 (decide (x0 < 0)) (tx [])) := (Dn_eq _ _).trans (by kernel_rfl)
theorem P122_248 (s0 : Int) (s3 : Bool) (s4 : ByteArray) : L122_248 s0 s3 s4 = (bif (!(decide (s0 = 0))) then (gd (!(decide (10 = 0))) <| bif (decide ((Int.tmod s0 10) < 0)) then (L122_3979 s0 s3 s4 (IntKind.wrap .i64 (-(Int.tmod s0 10)))) else L122_3979 s0 s3 s4 (Int.tmod s0 10)) else L122_63 s3 s4) := (Ln_eq _ _ _).trans (by kernel_rfl)
theorem P122_63 (s3 : Bool) (s4 : ByteArray) : L122_63 s3 s4 = (bif s3 then (gd (decide (((tx [45]).size + s4.size) ≤ 9223372036854775807)) <| some (((tx [45]) ++ s4), ())) else some (s4, ())) := (Ln_eq _ _ _).trans (by kernel_rfl)
theorem P122_3979 (s0 : Int) (s3 : Bool) (s4 : ByteArray) (s5 : Int) : L122_3979 s0 s3 s4 s5 = ((D163 s5).bind fun y0 => gd (decide (((bstr ([(u8of (y0.1.toNat : Int))].map fun x => x)).size + s4.size) ≤ 9223372036854775807)) <| gd (!(decide (10 = 0))) <| L122_248 (IntKind.wrap .i64 (Int.tdiv s0 10)) s3 ((bstr ([(u8of (y0.1.toNat : Int))].map fun x => x)) ++ s4)) := (Ln_eq _ _ _).trans (by kernel_rfl)
noncomputable def L129_116 (s4 : Int) (e0_0 : Int) (e0_1 : Int) (e0_2 : Int) (e0_3 : Int) (e0_4 : List Fw.Call) (e0_5 : List Fw.Answer) (e0_6 : List ByteArray) (e0_7 : List ByteArray) (e0_8 : List Int) (e0_9 : Int) (e1 : List Fw.Step) : Option ((List Fw.Step) × Unit) := Ln 34 116 (⟨25, [(1, .ok (.pt 0 0)), (3, .ok (.sl 1)), (4, .ok (.v (.int .i64 s4)))], [(0, .var [.v (.int .i64 e0_0), .v (.int .i64 e0_1), .v (.int .i64 e0_2), .v (.int .i64 e0_3), .ro 123 e0_4, .ro 119 e0_5, .ro 9 e0_6, .ro 9 e0_7, .ro 3 e0_8, .v (.int .i64 e0_9)] 58), (1, .own 125 e1)]⟩, 2)
noncomputable def L129_15 (e0 : List Fw.Step) : Option ((List Fw.Step) × Unit) := Ln 34 15 (⟨25, [(3, .ok (.sl 0))], [(0, .own 125 e0)]⟩, 1)
theorem E129 (x0 : Fw.Tx) : D129 x0 = (L129_116 0 x0.Id x0.Age x0.Proc x0.Began x0.Calls x0.Answers x0.Touch.Reads x0.Touch.Writes x0.Marks x0.State []) := (Dn_eq _ _).trans (by kernel_rfl)
theorem P129_116 (s4 : Int) (e0_0 : Int) (e0_1 : Int) (e0_2 : Int) (e0_3 : Int) (e0_4 : List Fw.Call) (e0_5 : List Fw.Answer) (e0_6 : List ByteArray) (e0_7 : List ByteArray) (e0_8 : List Int) (e0_9 : Int) (e1 : List Fw.Step) : L129_116 s4 e0_0 e0_1 e0_2 e0_3 e0_4 e0_5 e0_6 e0_7 e0_8 e0_9 e1 = (bif (decide (s4 < (e0_4.length : Int))) then (gd ((decide (0 ≤ s4)) && (decide (s4 < (e0_4.length : Int)))) <| gd ((decide (((e1.length + 1) * 80) ≤ 140737488355328)) && (decide ((e1.length + 1) ≤ 9223372036854775807))) <| L129_116 (IntKind.wrap .i64 (s4 + 1)) e0_0 e0_1 e0_2 e0_3 e0_4 e0_5 e0_6 e0_7 e0_8 e0_9 (e1 ++ [(⟨e0_2, (nth e0_4 s4.toNat)⟩ : Fw.Step)])) else L129_15 e1) := (Ln_eq _ _ _).trans (by kernel_rfl)
theorem P129_15 (e0 : List Fw.Step) : L129_15 e0 = (some (e0, ())) := (Ln_eq _ _ _).trans (by kernel_rfl)
theorem E130 (x0 : Fw.Mach) (x1 : ByteArray) : D130 x0 x1 = ((D135 x0.Touch.Reads x1).bind fun y0 => (D104 x0.Store x1).bind fun y1 => some ((⟨x0.Store, (⟨y0.1, x0.Touch.Writes⟩ : Fw.Touch)⟩ : Fw.Mach), (y1.1, ()))) := (Dn_eq _ _).trans (by kernel_rfl)
theorem E131 (x0 : Fw.Mach) (x1 : ByteArray) (x2 : ByteArray) : D131 x0 x1 x2 = ((D135 x0.Touch.Writes x1).bind fun y0 => (D162 x0.Store x1 x2).bind fun y1 => some ((⟨y1.1, (⟨x0.Touch.Reads, y0.1⟩ : Fw.Touch)⟩ : Fw.Mach), ())) := (Dn_eq _ _).trans (by kernel_rfl)
noncomputable def L132_52 (s0 : ByteArray) (s3 : Int) : Option (Bool × Unit) := Ln 235 52 (⟨25, [(0, .ok (.v (.string s0))), (3, .ok (.v (.int .i64 s3)))], []⟩, 0)
noncomputable def L132_7 (s0 : ByteArray) : Option (Bool × Unit) := Ln 235 7 (⟨25, [(0, .ok (.v (.string s0)))], []⟩, 0)
theorem E132 (x0 : ByteArray) : D132 x0 = (L132_52 x0 0) := (Dn_eq _ _).trans (by kernel_rfl)
theorem P132_52 (s0 : ByteArray) (s3 : Int) : L132_52 s0 s3 = (bif (decide (s3 < (s0.size : Int))) then (gd ((decide (0 ≤ s3)) && (decide (s3 < (s0.size : Int)))) <| (D27 (IntKind.wrap .i64 ((byteAt s0 s3.toNat).toNat : Int)) 33 126).bind fun y0 => gd (((decide (0 ≤ s3)) && (decide (s3 < (s0.size : Int)))) || (!(!(!y0.1)))) <| bif ((!y0.1) || (decide (((byteAt s0 s3.toNat).toNat : Int) = 42))) then (some (false, ())) else L132_52 s0 (IntKind.wrap .i64 (s3 + 1))) else L132_7 s0) := (Ln_eq _ _ _).trans (by kernel_rfl)
theorem P132_7 (s0 : ByteArray) : L132_7 s0 = ((D27 (s0.size : Int) 1 40).bind fun y0 => some (y0.1, ())) := (Ln_eq _ _ _).trans (by kernel_rfl)
noncomputable def L134_500 (s1 : List Fw.Step) (s9 : Int) (e0 : List Fw.Cell) (e2 : List Fw.Answer) : Option ((List Fw.Cell) × (List Fw.Answer) × Fw.Touch × Unit) := Ln 33 500 (⟨51, [(0, .ok (.sl 0)), (1, .ok (.ro 125 s1)), (6, .ok (.pt 1 0)), (7, .ok (.sl 2)), (8, .ok (.pt 3 0)), (9, .ok (.v (.int .i64 s9)))], [(0, .own 92 e0), (1, .var [.v (.slice none 0 0), .v (.slice none 0 0)] 55), (2, .own 119 e2), (3, .var [.v (.slice none 0 0), .v (.slice none 0 0)] 55)]⟩, 4)
noncomputable def L134_63 (e0 : List Fw.Cell) (e2 : List Fw.Answer) : Option ((List Fw.Cell) × (List Fw.Answer) × Fw.Touch × Unit) := Ln 33 63 (⟨51, [(0, .ok (.sl 0)), (6, .ok (.pt 1 0)), (7, .ok (.sl 2)), (8, .ok (.pt 3 0))], [(0, .own 92 e0), (1, .var [.v (.slice none 0 0), .v (.slice none 0 0)] 55), (2, .own 119 e2), (3, .var [.v (.slice none 0 0), .v (.slice none 0 0)] 55)]⟩, 4)
noncomputable def L134_500b (s1 : List Fw.Step) (s9 : Int) (e0 : List Fw.Cell) (e2 : List Fw.Answer) (e4 : List ByteArray) (e5 : List ByteArray) : Option ((List Fw.Cell) × (List Fw.Answer) × Fw.Touch × Unit) := Ln 33 500 (⟨51, [(0, .ok (.sl 0)), (1, .ok (.ro 125 s1)), (6, .ok (.pt 1 0)), (7, .ok (.sl 2)), (8, .ok (.pt 3 0)), (9, .ok (.v (.int .i64 s9)))], [(0, .own 92 e0), (1, .var [.v (.slice none 0 0), .v (.slice none 0 0)] 55), (2, .own 119 e2), (3, .var [.sl 4, .sl 5] 55), (4, .own 9 e4), (5, .own 9 e5)]⟩, 6)
noncomputable def L134_63b (e0 : List Fw.Cell) (e2 : List Fw.Answer) (e4 : List ByteArray) (e5 : List ByteArray) : Option ((List Fw.Cell) × (List Fw.Answer) × Fw.Touch × Unit) := Ln 33 63 (⟨51, [(0, .ok (.sl 0)), (6, .ok (.pt 1 0)), (7, .ok (.sl 2)), (8, .ok (.pt 3 0))], [(0, .own 92 e0), (1, .var [.v (.slice none 0 0), .v (.slice none 0 0)] 55), (2, .own 119 e2), (3, .var [.sl 4, .sl 5] 55), (4, .own 9 e4), (5, .own 9 e5)]⟩, 6)
theorem E134 (x0 : List Fw.Cell) (x1 : List Fw.Step) : D134 x0 x1 = (gd ((decide (((0 + x0.length) * 32) ≤ 140737488355328)) && (decide ((0 + x0.length) ≤ 9223372036854775807))) <| L134_500 x1 0 ([] ++ x0) []) := (Dn_eq _ _).trans (by kernel_rfl)
theorem P134_500 (s1 : List Fw.Step) (s9 : Int) (e0 : List Fw.Cell) (e2 : List Fw.Answer) : L134_500 s1 s9 e0 e2 = (bif (decide (s9 < (s1.length : Int))) then (gd ((decide (0 ≤ s9)) && (decide (s9 < (s1.length : Int)))) <| gd ((decide (0 ≤ s9)) && (decide (s9 < (s1.length : Int)))) <| (D64 e0 (nth s1 s9.toNat).Proc (nth s1 s9.toNat).Call).bind fun y0 => gd ((decide (((e2.length + 1) * 32) ≤ 140737488355328)) && (decide ((e2.length + 1) ≤ 9223372036854775807))) <| (D100 (⟨[], []⟩ : Fw.Touch) y0.2.2.1).bind fun y1 => L134_500b s1 (IntKind.wrap .i64 (s9 + 1)) y0.1 (e2 ++ [y0.2.1]) y1.1.Reads y1.1.Writes) else L134_63 e0 e2) := (Ln_eq _ _ _).trans (by kernel_rfl)
theorem P134_63 (e0 : List Fw.Cell) (e2 : List Fw.Answer) : L134_63 e0 e2 = (some (e0, (e2, ((⟨[], []⟩ : Fw.Touch), ())))) := (Ln_eq _ _ _).trans (by kernel_rfl)
theorem P134_500b (s1 : List Fw.Step) (s9 : Int) (e0 : List Fw.Cell) (e2 : List Fw.Answer) (e4 : List ByteArray) (e5 : List ByteArray) : L134_500b s1 s9 e0 e2 e4 e5 = (bif (decide (s9 < (s1.length : Int))) then (gd ((decide (0 ≤ s9)) && (decide (s9 < (s1.length : Int)))) <| gd ((decide (0 ≤ s9)) && (decide (s9 < (s1.length : Int)))) <| (D64 e0 (nth s1 s9.toNat).Proc (nth s1 s9.toNat).Call).bind fun y0 => gd ((decide (((e2.length + 1) * 32) ≤ 140737488355328)) && (decide ((e2.length + 1) ≤ 9223372036854775807))) <| (D100 (⟨e4, e5⟩ : Fw.Touch) y0.2.2.1).bind fun y1 => L134_500b s1 (IntKind.wrap .i64 (s9 + 1)) y0.1 (e2 ++ [y0.2.1]) y1.1.Reads y1.1.Writes) else L134_63b e0 e2 e4 e5) := (Ln_eq _ _ _).trans (by kernel_rfl)
theorem P134_63b (e0 : List Fw.Cell) (e2 : List Fw.Answer) (e4 : List ByteArray) (e5 : List ByteArray) : L134_63b e0 e2 e4 e5 = (some (e0, (e2, ((⟨e4, e5⟩ : Fw.Touch), ())))) := (Ln_eq _ _ _).trans (by kernel_rfl)
theorem E135 (x0 : List ByteArray) (x1 : ByteArray) : D135 x0 x1 = ((D156 x0 x1).bind fun y0 => gd ((decide (((0 + y0.1.length) * 16) ≤ 140737488355328)) && (decide ((0 + y0.1.length) ≤ 9223372036854775807))) <| some (([] ++ y0.1), ())) := (Dn_eq _ _).trans (by kernel_rfl)
theorem E136 (x0 : Fw.Mach) (x1 : Int) : D136 x0 x1 = ((D91 x1 (tx [47, 115])).bind fun y0 => (D88 x0 y0.1).bind fun y1 => some (y1.1, (y1.2.1, ()))) := (Dn_eq _ _).trans (by kernel_rfl)
theorem E137 (x0 : Fw.Call) : D137 x0 = ((D27 x0.Kind 1 22).bind fun y0 => some ((((y0.1 && (decide ((x0.Name.size : Int) ≤ 20))) && (decide ((x0.To.size : Int) ≤ 20))) && (decide ((x0.Text.size : Int) ≤ 64))), ())) := (Dn_eq _ _).trans (by kernel_rfl)
end Go.Proofs.YtlkjmghomjkcmaaGreatDoor.Ri

namespace Go.Proofs.YtlkjmghomjkcmaaGreatDoor.Ri
open Go.Proofs.YtlkjmghomjkcmaaGreatDoor.Fw
open Go.RowKit
set_option linter.unusedVariables false
set_option maxRecDepth 100000
theorem E138 (x0 : Fw.Mach) (x1 : ByteArray) : D138 x0 x1 = ((D165 x1).bind fun y0 => bif (!y0.1) then (some (x0, (0, (4, ())))) else (D166 x0 x1).bind fun y1 => bif (!(decide (y1.2.1 = 0))) then (some (y1.1, (0, (1, ())))) else (D88 y1.1 (tx [99, 47, 102, 105, 108, 101])).bind fun y2 => bif (decide (y2.2.1 ≥ 20)) then (some (y2.1, (0, (3, ())))) else (D89 y2.1 (tx [99, 47, 102, 105, 108, 101])).bind fun y3 => gd (decide (((tx [110, 47]).size + x1.size) ≤ 9223372036854775807)) <| (D90 y3.1 ((tx [110, 47]) ++ x1) y3.2.1).bind fun y4 => (D112 (tx [105, 47]) y3.2.1 (tx [47, 108])).bind fun y5 => (D90 y4.1 y5.1 1).bind fun y6 => some (y6.1, (y3.2.1, (0, ())))) := (Dn_eq _ _).trans (by kernel_rfl)
theorem E139 (x0 : Fw.Mach) (x1 : ByteArray) (x2 : ByteArray) : D139 x0 x1 x2 = ((D165 x1).bind fun y0 => bif (!(!y0.1)) then ((D165 x2).bind fun y1 => bif (!y1.1) then (some (x0, (4, ()))) else (D166 x0 x1).bind fun y2 => bif (decide (y2.2.1 = 0)) then (some (y2.1, (2, ()))) else (D166 y2.1 x2).bind fun y3 => bif (!(decide (y3.2.1 = 0))) then (some (y3.1, (1, ()))) else (D112 (tx [105, 47]) y2.2.1 (tx [47, 108])).bind fun y4 => (D88 y3.1 y4.1).bind fun y5 => bif (decide (y5.2.1 ≥ 4)) then (some (y5.1, (3, ()))) else gd (decide (((tx [110, 47]).size + x2.size) ≤ 9223372036854775807)) <| (D90 y5.1 ((tx [110, 47]) ++ x2) y2.2.1).bind fun y6 => (D112 (tx [105, 47]) y2.2.1 (tx [47, 108])).bind fun y7 => (D90 y6.1 y7.1 (IntKind.wrap .i64 (y5.2.1 + 1))).bind fun y8 => some (y8.1, (0, ()))) else some (x0, (4, ()))) := (Dn_eq _ _).trans (by kernel_rfl)
theorem E140 (x0 : Fw.Mach) (x1 : ByteArray) : D140 x0 x1 = ((D165 x1).bind fun y0 => bif (!y0.1) then (some (x0, (4, ()))) else (D166 x0 x1).bind fun y1 => bif (decide (y1.2.1 = 0)) then (some (y1.1, (2, ()))) else gd (decide (((tx [110, 47]).size + x1.size) ≤ 9223372036854775807)) <| (D131 y1.1 ((tx [110, 47]) ++ x1) (tx [])).bind fun y2 => (D112 (tx [105, 47]) y1.2.1 (tx [47, 108])).bind fun y3 => (D88 y2.1 y3.1).bind fun y4 => bif (decide (y4.2.1 > 1)) then ((D112 (tx [105, 47]) y1.2.1 (tx [47, 108])).bind fun y7 => (D90 y4.1 y7.1 (IntKind.wrap .i64 (y4.2.1 - 1))).bind fun y8 => some (y8.1, (0, ()))) else (D112 (tx [105, 47]) y1.2.1 (tx [47])).bind fun y5 => (D167 y4.1 y5.1).bind fun y6 => some (y6.1, (0, ()))) := (Dn_eq _ _).trans (by kernel_rfl)
noncomputable def L141_255 (s1 : ByteArray) (s2 : ByteArray) (s8 : Int) (e1 : List Fw.Cell) (e2 : List ByteArray) (e3 : List ByteArray) : Option (Fw.Mach × Int × Unit) := Ln 123 255 (⟨55, [(1, .ok (.v (.string s1))), (2, .ok (.v (.string s2))), (3, .ok (.pt 0 0)), (6, .ok (.pt 4 0)), (8, .ok (.v (.int .i64 s8)))], [(0, .var [.sl 1, .sl 2, .sl 3] 102), (1, .own 92 e1), (2, .own 9 e2), (3, .own 9 e3), (4, .var [.v (.slice none 0 0), .v (.slice none 0 0), .v (.slice none 0 0)] 102)]⟩, 5)
theorem E141 (x0 : Fw.Mach) (x1 : ByteArray) (x2 : ByteArray) : D141 x0 x1 x2 = ((D165 x1).bind fun y0 => bif (!(!y0.1)) then ((D165 x2).bind fun y1 => bif (!y1.1) then (some (x0, (4, ()))) else (D166 x0 x1).bind fun y2 => bif (decide (y2.2.1 = 0)) then (some (y2.1, (2, ()))) else (D166 y2.1 x2).bind fun y3 => bif (decide (y3.2.1 = y2.2.1)) then (some (y3.1, (0, ()))) else bif (!(decide (y3.2.1 = 0))) then ((D140 y3.1 x2).bind fun y4 => L141_255 x1 x2 y2.2.1 y4.1.Store y4.1.Touch.Reads y4.1.Touch.Writes) else L141_255 x1 x2 y2.2.1 y3.1.Store y3.1.Touch.Reads y3.1.Touch.Writes) else some (x0, (4, ()))) := (Dn_eq _ _).trans (by kernel_rfl)
theorem P141_255 (s1 : ByteArray) (s2 : ByteArray) (s8 : Int) (e1 : List Fw.Cell) (e2 : List ByteArray) (e3 : List ByteArray) : L141_255 s1 s2 s8 e1 e2 e3 = (gd (decide (((tx [110, 47]).size + s2.size) ≤ 9223372036854775807)) <| (D90 (⟨e1, (⟨e2, e3⟩ : Fw.Touch)⟩ : Fw.Mach) ((tx [110, 47]) ++ s2) s8).bind fun y0 => gd (decide (((tx [110, 47]).size + s1.size) ≤ 9223372036854775807)) <| (D131 y0.1 ((tx [110, 47]) ++ s1) (tx [])).bind fun y1 => some (y1.1, (0, ()))) := (Ln_eq _ _ _).trans (by kernel_rfl)
noncomputable def L142_244 (s6 : Int) (e1 : List Fw.Cell) (e2 : List ByteArray) (e3 : List ByteArray) (e5_0 : Int) (e5_1 : Int) (e5_2 : ByteArray) (e6 : List ByteArray) (e7_0 : Int) (e7_1 : Int) (e7_2 : ByteArray) : Option (Fw.Mach × Fw.Answer × Unit) := Ln 124 244 (⟨30, [(1, .ok (.pt 0 0)), (2, .ok (.pt 4 0)), (3, .ok (.pt 5 0)), (4, .ok (.sl 6)), (5, .ok (.pt 7 0)), (6, .ok (.v (.int .i64 s6)))], [(0, .var [.sl 1, .sl 2, .sl 3] 102), (1, .own 92 e1), (2, .own 9 e2), (3, .own 9 e3), (4, .var [.v (.slice none 0 0), .v (.slice none 0 0), .v (.slice none 0 0)] 102), (5, .var [.v (.int .i64 e5_0), .v (.int .i64 e5_1), .v (.string e5_2)] 119), (6, .own 9 e6), (7, .var [.v (.int .i64 e7_0), .v (.int .i64 e7_1), .v (.string e7_2)] 119)]⟩, 8)
noncomputable def L142_31 (e1 : List Fw.Cell) (e2 : List ByteArray) (e3 : List ByteArray) (e5_0 : Int) (e5_1 : Int) (e5_2 : ByteArray) (e6_0 : Int) (e6_1 : Int) (e6_2 : ByteArray) : Option (Fw.Mach × Fw.Answer × Unit) := Ln 124 31 (⟨30, [(1, .ok (.pt 0 0)), (2, .ok (.pt 4 0)), (3, .ok (.pt 5 0)), (5, .ok (.pt 6 0))], [(0, .var [.sl 1, .sl 2, .sl 3] 102), (1, .own 92 e1), (2, .own 9 e2), (3, .own 9 e3), (4, .var [.v (.slice none 0 0), .v (.slice none 0 0), .v (.slice none 0 0)] 102), (5, .var [.v (.int .i64 e5_0), .v (.int .i64 e5_1), .v (.string e5_2)] 119), (6, .var [.v (.int .i64 e6_0), .v (.int .i64 e6_1), .v (.string e6_2)] 119)]⟩, 7)
theorem E142 (x0 : Fw.Mach) : D142 x0 = ((D168 x0).bind fun y0 => L142_244 0 y0.1.Store y0.1.Touch.Reads y0.1.Touch.Writes 0 0 (tx []) y0.2.1 0 0 (tx [])) := (Dn_eq _ _).trans (by kernel_rfl)
theorem P142_244 (s6 : Int) (e1 : List Fw.Cell) (e2 : List ByteArray) (e3 : List ByteArray) (e5_0 : Int) (e5_1 : Int) (e5_2 : ByteArray) (e6 : List ByteArray) (e7_0 : Int) (e7_1 : Int) (e7_2 : ByteArray) : L142_244 s6 e1 e2 e3 e5_0 e5_1 e5_2 e6 e7_0 e7_1 e7_2 = (bif (decide (s6 < (e6.length : Int))) then (gd ((decide (0 ≤ s6)) && (decide (s6 < (e6.length : Int)))) <| gd (decide ((e7_2.size + (nth e6 s6.toNat).size) ≤ 9223372036854775807)) <| gd (decide (((e7_2 ++ (nth e6 s6.toNat)).size + (tx [32]).size) ≤ 9223372036854775807)) <| L142_244 (IntKind.wrap .i64 (s6 + 1)) e1 e2 e3 e5_0 e5_1 e5_2 e6 e7_0 e7_1 ((e7_2 ++ (nth e6 s6.toNat)) ++ (tx [32]))) else L142_31 e1 e2 e3 e5_0 e5_1 e5_2 e7_0 e7_1 e7_2) := (Ln_eq _ _ _).trans (by kernel_rfl)
theorem P142_31 (e1 : List Fw.Cell) (e2 : List ByteArray) (e3 : List ByteArray) (e5_0 : Int) (e5_1 : Int) (e5_2 : ByteArray) (e6_0 : Int) (e6_1 : Int) (e6_2 : ByteArray) : L142_31 e1 e2 e3 e5_0 e5_1 e5_2 e6_0 e6_1 e6_2 = (some ((⟨e1, (⟨e2, e3⟩ : Fw.Touch)⟩ : Fw.Mach), ((⟨e6_0, e6_1, e6_2⟩ : Fw.Answer), ()))) := (Ln_eq _ _ _).trans (by kernel_rfl)
noncomputable def L143_63 (e1 : List Fw.Cell) (e2 : List ByteArray) (e3 : List ByteArray) (e5_0 : Int) (e5_1 : Int) (e5_2 : ByteArray) (e6_0 : Int) (e6_1 : Int) (e6_2 : ByteArray) : Option (Fw.Mach × Fw.Answer × Unit) := Ln 125 63 (⟨59, [(2, .ok (.pt 0 0)), (4, .ok (.pt 4 0)), (5, .ok (.pt 5 0)), (7, .ok (.pt 6 0))], [(0, .var [.sl 1, .sl 2, .sl 3] 102), (1, .own 92 e1), (2, .own 9 e2), (3, .own 9 e3), (4, .var [.v (.slice none 0 0), .v (.slice none 0 0), .v (.slice none 0 0)] 102), (5, .var [.v (.int .i64 e5_0), .v (.int .i64 e5_1), .v (.string e5_2)] 119), (6, .var [.v (.int .i64 e6_0), .v (.int .i64 e6_1), .v (.string e6_2)] 119)]⟩, 7)
theorem E143 (x0 : Fw.Mach) (x1 : Fw.Call) : D143 x0 x1 = ((D166 x0 x1.Name).bind fun y0 => bif (decide (y0.2.1 = 0)) then (some (y0.1, ((⟨2, 0, (tx [])⟩ : Fw.Answer), ()))) else bif (decide (x1.Kind = 6)) then ((D169 y0.1 y0.2.1 x1.A x1.B).bind fun y3 => L143_63 y3.1.Store y3.1.Touch.Reads y3.1.Touch.Writes 0 0 (tx []) 0 0 y3.2.1) else bif (decide (x1.Kind = 7)) then ((D170 y0.1 y0.2.1 x1.A x1.Text).bind fun y2 => L143_63 y2.1.Store y2.1.Touch.Reads y2.1.Touch.Writes 0 0 (tx []) y2.2.1 0 (tx [])) else (D171 y0.1 y0.2.1 x1.A).bind fun y1 => L143_63 y1.1.Store y1.1.Touch.Reads y1.1.Touch.Writes 0 0 (tx []) y1.2.1 0 (tx [])) := (Dn_eq _ _).trans (by kernel_rfl)
theorem P143_63 (e1 : List Fw.Cell) (e2 : List ByteArray) (e3 : List ByteArray) (e5_0 : Int) (e5_1 : Int) (e5_2 : ByteArray) (e6_0 : Int) (e6_1 : Int) (e6_2 : ByteArray) : L143_63 e1 e2 e3 e5_0 e5_1 e5_2 e6_0 e6_1 e6_2 = (some ((⟨e1, (⟨e2, e3⟩ : Fw.Touch)⟩ : Fw.Mach), ((⟨e6_0, e6_1, e6_2⟩ : Fw.Answer), ()))) := (Ln_eq _ _ _).trans (by kernel_rfl)
theorem E144 (x0 : Fw.Mach) : D144 x0 = ((D88 x0 (tx [99, 47, 112, 105, 112, 101])).bind fun y0 => bif (decide (y0.2.1 ≥ 8)) then (some (y0.1, (0, (3, ())))) else (D89 y0.1 (tx [99, 47, 112, 105, 112, 101])).bind fun y1 => (D172 y1.2.1 (tx [47, 111])).bind fun y2 => (D90 y1.1 y2.1 1).bind fun y3 => some (y3.1, (y1.2.1, (0, ())))) := (Dn_eq _ _).trans (by kernel_rfl)
theorem E145 (x0 : Fw.Mach) (x1 : Int) (x2 : ByteArray) : D145 x0 x1 x2 = ((D173 x0 x1).bind fun y0 => bif (!y0.2.1) then (some (y0.1, (2, ()))) else bif (decide ((x2.size : Int) > 20)) then (some (y0.1, (4, ()))) else (D172 x1 (tx [47, 116])).bind fun y1 => (D88 y0.1 y1.1).bind fun y2 => (D172 x1 (tx [47, 104])).bind fun y3 => (D88 y2.1 y3.1).bind fun y4 => bif (decide ((IntKind.wrap .i64 (y2.2.1 - y4.2.1)) ≥ 4)) then (some (y4.1, (5, ()))) else bif (decide (y2.2.1 ≥ 999)) then (some (y4.1, (3, ()))) else (D157 x2).bind fun y5 => (D172 x1 (tx [47, 116])).bind fun y6 => (D90 y4.1 y6.1 (IntKind.wrap .i64 (y2.2.1 + 1))).bind fun y7 => (D174 x1 (IntKind.wrap .i64 (y2.2.1 + 1))).bind fun y8 => gd (decide (((tx [45]).size + y5.1.size) ≤ 9223372036854775807)) <| (D131 y7.1 y8.1 ((tx [45]) ++ y5.1)).bind fun y9 => some (y9.1, (0, ()))) := (Dn_eq _ _).trans (by kernel_rfl)
noncomputable def L146_1023 (s1 : Int) (s8 : Int) (s11 : ByteArray) (e1 : List Fw.Cell) (e2 : List ByteArray) (e3 : List ByteArray) : Option (Fw.Mach × ByteArray × Int × Unit) := Ln 128 1023 (⟨74, [(1, .ok (.v (.int .i64 s1))), (2, .ok (.pt 0 0)), (4, .ok (.pt 4 0)), (8, .ok (.v (.int .i64 s8))), (11, .ok (.v (.string s11)))], [(0, .var [.sl 1, .sl 2, .sl 3] 102), (1, .own 92 e1), (2, .own 9 e2), (3, .own 9 e3), (4, .var [.v (.slice none 0 0), .v (.slice none 0 0), .v (.slice none 0 0)] 102)]⟩, 5)
theorem E146 (x0 : Fw.Mach) (x1 : Int) : D146 x0 x1 = ((D173 x0 x1).bind fun y0 => bif (!y0.2.1) then (some (y0.1, ((tx []), (2, ())))) else (D172 x1 (tx [47, 104])).bind fun y1 => (D88 y0.1 y1.1).bind fun y2 => (D172 x1 (tx [47, 116])).bind fun y3 => (D88 y2.1 y3.1).bind fun y4 => bif (decide (y2.2.1 = y4.2.1)) then (some (y4.1, ((tx []), (5, ())))) else (D174 x1 (IntKind.wrap .i64 (y2.2.1 + 1))).bind fun y5 => (D130 y4.1 y5.1).bind fun y6 => gd (((decide (0 ≤ 0)) && (decide (0 < (y6.2.1.size : Int)))) || (!(!(decide (y6.2.1 = (tx [])))))) <| bif ((!(decide (y6.2.1 = (tx [])))) && (decide (((byteAt y6.2.1 (0 : Int).toNat).toNat : Int) = 45))) then (gd ((decide (0 ≤ 1)) && ((decide (1 ≤ (y6.2.1.size : Int))) && (decide ((y6.2.1.size : Int) ≤ (y6.2.1.size : Int))))) <| (D113 (cutS y6.2.1 (1 : Int).toNat (y6.2.1.size : Int).toNat)).bind fun y7 => L146_1023 x1 y2.2.1 y7.1 y6.1.Store y6.1.Touch.Reads y6.1.Touch.Writes) else L146_1023 x1 y2.2.1 (tx []) y6.1.Store y6.1.Touch.Reads y6.1.Touch.Writes) := (Dn_eq _ _).trans (by kernel_rfl)
theorem P146_1023 (s1 : Int) (s8 : Int) (s11 : ByteArray) (e1 : List Fw.Cell) (e2 : List ByteArray) (e3 : List ByteArray) : L146_1023 s1 s8 s11 e1 e2 e3 = ((D174 s1 (IntKind.wrap .i64 (s8 + 1))).bind fun y0 => (D131 (⟨e1, (⟨e2, e3⟩ : Fw.Touch)⟩ : Fw.Mach) y0.1 (tx [])).bind fun y1 => (D172 s1 (tx [47, 104])).bind fun y2 => (D90 y1.1 y2.1 (IntKind.wrap .i64 (s8 + 1))).bind fun y3 => some (y3.1, (s11, (0, ())))) := (Ln_eq _ _ _).trans (by kernel_rfl)
theorem E147 (x0 : Fw.Mach) (x1 : Int) (x2 : Int) : D147 x0 x1 x2 = ((D136 x0 x1).bind fun y0 => bif (!(decide (y0.2.1 = 1))) then (some (y0.1, (2, ()))) else (D27 x2 1 31).bind fun y1 => bif (!y1.1) then (some (y0.1, (4, ()))) else (D175 x1 (tx [47, 116])).bind fun y2 => (D88 y0.1 y2.1).bind fun y3 => (D175 x1 (tx [47, 104])).bind fun y4 => (D88 y3.1 y4.1).bind fun y5 => bif (decide ((IntKind.wrap .i64 (y3.2.1 - y5.2.1)) ≥ 4)) then (some (y5.1, (5, ()))) else bif (decide (y3.2.1 ≥ 999)) then (some (y5.1, (3, ()))) else (D175 x1 (tx [47, 116])).bind fun y6 => (D90 y5.1 y6.1 (IntKind.wrap .i64 (y3.2.1 + 1))).bind fun y7 => (D176 x1 (IntKind.wrap .i64 (y3.2.1 + 1))).bind fun y8 => (D90 y7.1 y8.1 x2).bind fun y9 => some (y9.1, (0, ()))) := (Dn_eq _ _).trans (by kernel_rfl)
theorem E148 (x0 : Fw.Mach) (x1 : Int) : D148 x0 x1 = ((D175 x1 (tx [47, 104])).bind fun y0 => (D88 x0 y0.1).bind fun y1 => (D175 x1 (tx [47, 116])).bind fun y2 => (D88 y1.1 y2.1).bind fun y3 => bif (decide (y1.2.1 = y3.2.1)) then (some (y3.1, (0, (5, ())))) else (D176 x1 (IntKind.wrap .i64 (y1.2.1 + 1))).bind fun y4 => (D88 y3.1 y4.1).bind fun y5 => (D176 x1 (IntKind.wrap .i64 (y1.2.1 + 1))).bind fun y6 => (D131 y5.1 y6.1 (tx [])).bind fun y7 => (D175 x1 (tx [47, 104])).bind fun y8 => (D90 y7.1 y8.1 (IntKind.wrap .i64 (y1.2.1 + 1))).bind fun y9 => some (y9.1, (y5.2.1, (0, ())))) := (Dn_eq _ _).trans (by kernel_rfl)
theorem E149 (x0 : Fw.Mach) (x1 : Int) (x2 : Int) : D149 x0 x1 x2 = ((D27 x2 0 999).bind fun y0 => bif (!y0.1) then (some (x0, (4, ()))) else (D112 (tx [116, 47]) x1 (tx [])).bind fun y1 => (D90 x0 y1.1 x2).bind fun y2 => some (y2.1, (0, ()))) := (Dn_eq _ _).trans (by kernel_rfl)
noncomputable def L150_4084 (s1 : Int) (s7 : Int) (s9 : Int) (s10 : Int) (e1 : List Fw.Cell) (e2 : List ByteArray) (e3 : List ByteArray) (e5 : List ByteArray) : Option (Fw.Mach × Int × Int × Unit) := Ln 132 4084 (⟨76, [(1, .ok (.v (.int .i64 s1))), (2, .ok (.pt 0 0)), (4, .ok (.pt 4 0)), (7, .ok (.v (.int .i64 s7))), (8, .ok (.sl 5)), (9, .ok (.v (.int .i64 s9))), (10, .ok (.v (.int .i64 s10)))], [(0, .var [.sl 1, .sl 2, .sl 3] 102), (1, .own 92 e1), (2, .own 9 e2), (3, .own 9 e3), (4, .var [.v (.slice none 0 0), .v (.slice none 0 0), .v (.slice none 0 0)] 102), (5, .own 9 e5)]⟩, 6)
noncomputable def L150_511 (s9 : Int) (e1 : List Fw.Cell) (e2 : List ByteArray) (e3 : List ByteArray) : Option (Fw.Mach × Int × Int × Unit) := Ln 132 511 (⟨76, [(2, .ok (.pt 0 0)), (4, .ok (.pt 4 0)), (9, .ok (.v (.int .i64 s9)))], [(0, .var [.sl 1, .sl 2, .sl 3] 102), (1, .own 92 e1), (2, .own 9 e2), (3, .own 9 e3), (4, .var [.v (.slice none 0 0), .v (.slice none 0 0), .v (.slice none 0 0)] 102)]⟩, 5)
noncomputable def L150_16339 (s1 : Int) (s7 : Int) (s9 : Int) (s10 : Int) (e1 : List Fw.Cell) (e2 : List ByteArray) (e3 : List ByteArray) (e5 : List ByteArray) : Option (Fw.Mach × Int × Int × Unit) := Ln 132 16339 (⟨76, [(1, .ok (.v (.int .i64 s1))), (2, .ok (.pt 0 0)), (4, .ok (.pt 4 0)), (7, .ok (.v (.int .i64 s7))), (8, .ok (.sl 5)), (9, .ok (.v (.int .i64 s9))), (10, .ok (.v (.int .i64 s10)))], [(0, .var [.sl 1, .sl 2, .sl 3] 102), (1, .own 92 e1), (2, .own 9 e2), (3, .own 9 e3), (4, .var [.v (.slice none 0 0), .v (.slice none 0 0), .v (.slice none 0 0)] 102), (5, .own 9 e5)]⟩, 6)
theorem E150 (x0 : Fw.Mach) (x1 : Int) : D150 x0 x1 = (bif (decide (x1 < 1)) then (some (x0, (0, (4, ())))) else (D88 x0 (tx [99, 47, 99, 108, 111, 99, 107])).bind fun y0 => bif (decide (x1 > (IntKind.wrap .i64 (999 - y0.2.1)))) then (some (y0.1, (0, (3, ())))) else (D90 y0.1 (tx [99, 47, 99, 108, 111, 99, 107]) (IntKind.wrap .i64 (y0.2.1 + x1))).bind fun y1 => (D177 y1.1 (tx [116, 47])).bind fun y2 => L150_4084 x1 y0.2.1 0 0 y2.1.Store y2.1.Touch.Reads y2.1.Touch.Writes y2.2.1) := (Dn_eq _ _).trans (by kernel_rfl)
theorem P150_4084 (s1 : Int) (s7 : Int) (s9 : Int) (s10 : Int) (e1 : List Fw.Cell) (e2 : List ByteArray) (e3 : List ByteArray) (e5 : List ByteArray) : L150_4084 s1 s7 s9 s10 e1 e2 e3 e5 = (bif (decide (s10 < (e5.length : Int))) then (gd ((decide (0 ≤ s10)) && (decide (s10 < (e5.length : Int)))) <| (D88 (⟨e1, (⟨e2, e3⟩ : Fw.Touch)⟩ : Fw.Mach) (nth e5 s10.toNat)).bind fun y0 => bif (decide (y0.2.1 ≤ (IntKind.wrap .i64 (s7 + s1)))) then (gd ((decide (0 ≤ s10)) && (decide (s10 < (e5.length : Int)))) <| (D131 y0.1 (nth e5 s10.toNat) (tx [])).bind fun y1 => gd ((decide (0 ≤ s10)) && (decide (s10 < (e5.length : Int)))) <| gd ((decide (0 ≤ 2)) && ((decide (2 ≤ ((nth e5 s10.toNat).size : Int))) && (decide (((nth e5 s10.toNat).size : Int) ≤ ((nth e5 s10.toNat).size : Int))))) <| (D111 (cutS (nth e5 s10.toNat) (2 : Int).toNat ((nth e5 s10.toNat).size : Int).toNat)).bind fun y2 => (D147 y1.1 y2.1 14).bind fun y3 => L150_16339 s1 s7 (IntKind.wrap .i64 (s9 + 1)) s10 y3.1.Store y3.1.Touch.Reads y3.1.Touch.Writes e5) else L150_16339 s1 s7 s9 s10 y0.1.Store y0.1.Touch.Reads y0.1.Touch.Writes e5) else L150_511 s9 e1 e2 e3) := (Ln_eq _ _ _).trans (by kernel_rfl)
theorem P150_511 (s9 : Int) (e1 : List Fw.Cell) (e2 : List ByteArray) (e3 : List ByteArray) : L150_511 s9 e1 e2 e3 = (some ((⟨e1, (⟨e2, e3⟩ : Fw.Touch)⟩ : Fw.Mach), (s9, (0, ())))) := (Ln_eq _ _ _).trans (by kernel_rfl)
theorem P150_16339 (s1 : Int) (s7 : Int) (s9 : Int) (s10 : Int) (e1 : List Fw.Cell) (e2 : List ByteArray) (e3 : List ByteArray) (e5 : List ByteArray) : L150_16339 s1 s7 s9 s10 e1 e2 e3 e5 = (L150_4084 s1 s7 s9 (IntKind.wrap .i64 (s10 + 1)) e1 e2 e3 e5) := (Ln_eq _ _ _).trans (by kernel_rfl)
theorem E151 (x0 : Fw.Mach) (x1 : Int) (x2 : Int) (x3 : ByteArray) : D151 x0 x1 x2 x3 = ((D27 x2 0 3).bind fun y0 => bif ((!y0.1) || (decide ((x3.size : Int) > 20))) then (some (x0, (4, ()))) else bif (decide (x3 = (tx []))) then ((D178 x1).bind fun y5 => (D112 y5.1 x2 (tx [])).bind fun y6 => (D131 x0 y6.1 (tx [])).bind fun y7 => some (y7.1, (0, ()))) else (D157 x3).bind fun y1 => (D178 x1).bind fun y2 => (D112 y2.1 x2 (tx [])).bind fun y3 => gd (decide (((tx [45]).size + y1.1.size) ≤ 9223372036854775807)) <| (D131 x0 y3.1 ((tx [45]) ++ y1.1)).bind fun y4 => some (y4.1, (0, ()))) := (Dn_eq _ _).trans (by kernel_rfl)
noncomputable def L152_63 (s10 : ByteArray) (e1 : List Fw.Cell) (e2 : List ByteArray) (e3 : List ByteArray) : Option (Fw.Mach × ByteArray × Int × Unit) := Ln 134 63 (⟨39, [(3, .ok (.pt 0 0)), (6, .ok (.pt 4 0)), (10, .ok (.v (.string s10)))], [(0, .var [.sl 1, .sl 2, .sl 3] 102), (1, .own 92 e1), (2, .own 9 e2), (3, .own 9 e3), (4, .var [.v (.slice none 0 0), .v (.slice none 0 0), .v (.slice none 0 0)] 102)]⟩, 5)
theorem E152 (x0 : Fw.Mach) (x1 : Int) (x2 : Int) : D152 x0 x1 x2 = ((D27 x2 0 3).bind fun y0 => bif (!y0.1) then (some (x0, ((tx []), (4, ())))) else (D178 x1).bind fun y1 => (D112 y1.1 x2 (tx [])).bind fun y2 => (D130 x0 y2.1).bind fun y3 => gd (((decide (0 ≤ 0)) && (decide (0 < (y3.2.1.size : Int)))) || (!(!(decide (y3.2.1 = (tx [])))))) <| bif ((!(decide (y3.2.1 = (tx [])))) && (decide (((byteAt y3.2.1 (0 : Int).toNat).toNat : Int) = 45))) then (gd ((decide (0 ≤ 1)) && ((decide (1 ≤ (y3.2.1.size : Int))) && (decide ((y3.2.1.size : Int) ≤ (y3.2.1.size : Int))))) <| (D113 (cutS y3.2.1 (1 : Int).toNat (y3.2.1.size : Int).toNat)).bind fun y4 => L152_63 y4.1 y3.1.Store y3.1.Touch.Reads y3.1.Touch.Writes) else L152_63 (tx []) y3.1.Store y3.1.Touch.Reads y3.1.Touch.Writes) := (Dn_eq _ _).trans (by kernel_rfl)
theorem P152_63 (s10 : ByteArray) (e1 : List Fw.Cell) (e2 : List ByteArray) (e3 : List ByteArray) : L152_63 s10 e1 e2 e3 = (some ((⟨e1, (⟨e2, e3⟩ : Fw.Touch)⟩ : Fw.Mach), (s10, (0, ())))) := (Ln_eq _ _ _).trans (by kernel_rfl)
theorem E153 (x0 : Fw.Mach) (x1 : ByteArray) : D153 x0 x1 = (bif ((decide (x1 = (tx []))) || (decide ((x1.size : Int) > 20))) then (some (x0, (4, ()))) else (D88 x0 (tx [100, 47, 110])).bind fun y0 => bif (decide (y0.2.1 ≥ 40)) then (some (y0.1, (3, ()))) else (D157 x1).bind fun y1 => (D90 y0.1 (tx [100, 47, 110]) (IntKind.wrap .i64 (y0.2.1 + 1))).bind fun y2 => (D112 (tx [100, 47]) (IntKind.wrap .i64 (y0.2.1 + 1)) (tx [])).bind fun y3 => gd (decide (((tx [45]).size + y1.1.size) ≤ 9223372036854775807)) <| (D131 y2.1 y3.1 ((tx [45]) ++ y1.1)).bind fun y4 => some (y4.1, (0, ()))) := (Dn_eq _ _).trans (by kernel_rfl)
noncomputable def L154_120828 (s10 : Int) (e1 : List Fw.Cell) (e2 : List ByteArray) (e3 : List ByteArray) (e5_0 : Int) (e5_1 : Int) (e5_2 : ByteArray) (e6_0 : Int) (e6_1 : Int) (e6_2 : ByteArray) (e7 : List Int) : Option (Fw.Mach × Fw.Answer × Unit) := Ln 136 120828 (⟨88, [(3, .ok (.pt 0 0)), (6, .ok (.pt 4 0)), (7, .ok (.pt 5 0)), (8, .ok (.pt 6 0)), (9, .ok (.sl 7)), (10, .ok (.v (.int .i64 s10)))], [(0, .var [.sl 1, .sl 2, .sl 3] 102), (1, .own 92 e1), (2, .own 9 e2), (3, .own 9 e3), (4, .var [.v (.slice none 0 0), .v (.slice none 0 0), .v (.slice none 0 0)] 102), (5, .var [.v (.int .i64 e5_0), .v (.int .i64 e5_1), .v (.string e5_2)] 119), (6, .var [.v (.int .i64 e6_0), .v (.int .i64 e6_1), .v (.string e6_2)] 119), (7, .own 3 e7)]⟩, 8)
noncomputable def L154_15 (e1 : List Fw.Cell) (e2 : List ByteArray) (e3 : List ByteArray) (e5_0 : Int) (e5_1 : Int) (e5_2 : ByteArray) (e6_0 : Int) (e6_1 : Int) (e6_2 : ByteArray) : Option (Fw.Mach × Fw.Answer × Unit) := Ln 136 15 (⟨88, [(3, .ok (.pt 0 0)), (6, .ok (.pt 4 0)), (7, .ok (.pt 5 0)), (8, .ok (.pt 6 0))], [(0, .var [.sl 1, .sl 2, .sl 3] 102), (1, .own 92 e1), (2, .own 9 e2), (3, .own 9 e3), (4, .var [.v (.slice none 0 0), .v (.slice none 0 0), .v (.slice none 0 0)] 102), (5, .var [.v (.int .i64 e5_0), .v (.int .i64 e5_1), .v (.string e5_2)] 119), (6, .var [.v (.int .i64 e6_0), .v (.int .i64 e6_1), .v (.string e6_2)] 119)]⟩, 7)
theorem E154 (x0 : Fw.Mach) (x1 : Int) (x2 : Fw.Call) : D154 x0 x1 x2 = (bif (decide (x2.Kind = 12)) then ((D52 x0 x1).bind fun y4 => bif (decide (y4.2.2.1 = 0)) then ((D179 y4.1 x1 y4.2.1).bind fun y5 => L154_15 y5.1.Store y5.1.Touch.Reads y5.1.Touch.Writes 0 0 (tx []) y4.2.2.1 y4.2.1 (tx [])) else L154_15 y4.1.Store y4.1.Touch.Reads y4.1.Touch.Writes 0 0 (tx []) y4.2.2.1 y4.2.1 (tx [])) else bif (decide (x2.Kind = 13)) then ((D180 x0 x1 x2.A).bind fun y2 => bif (decide (y2.2.1 = 0)) then ((D181 y2.1 x1).bind fun y3 => L154_15 y3.1.Store y3.1.Touch.Reads y3.1.Touch.Writes 0 0 (tx []) y2.2.1 0 (tx [])) else L154_15 y2.1.Store y2.1.Touch.Reads y2.1.Touch.Writes 0 0 (tx []) y2.2.1 0 (tx [])) else bif (decide (x2.Kind = 14)) then ((D182 x0 x1 x2.A).bind fun y1 => L154_15 y1.1.Store y1.1.Touch.Reads y1.1.Touch.Writes 0 0 (tx []) y1.2.2.1 y1.2.1 (tx [])) else (D183 x0 x1).bind fun y0 => L154_120828 0 y0.1.Store y0.1.Touch.Reads y0.1.Touch.Writes 0 0 (tx []) 0 0 (tx []) y0.2.1) := (Dn_eq _ _).trans (by kernel_rfl)
theorem P154_120828 (s10 : Int) (e1 : List Fw.Cell) (e2 : List ByteArray) (e3 : List ByteArray) (e5_0 : Int) (e5_1 : Int) (e5_2 : ByteArray) (e6_0 : Int) (e6_1 : Int) (e6_2 : ByteArray) (e7 : List Int) : L154_120828 s10 e1 e2 e3 e5_0 e5_1 e5_2 e6_0 e6_1 e6_2 e7 = (bif (decide (s10 < (e7.length : Int))) then (gd ((decide (0 ≤ s10)) && (decide (s10 < (e7.length : Int)))) <| (D122 (nth e7 s10.toNat)).bind fun y0 => gd (decide ((e6_2.size + y0.1.size) ≤ 9223372036854775807)) <| gd (decide (((e6_2 ++ y0.1).size + (tx [32]).size) ≤ 9223372036854775807)) <| L154_120828 (IntKind.wrap .i64 (s10 + 1)) e1 e2 e3 e5_0 e5_1 e5_2 e6_0 e6_1 ((e6_2 ++ y0.1) ++ (tx [32])) e7) else L154_15 e1 e2 e3 e5_0 e5_1 e5_2 e6_0 e6_1 e6_2) := (Ln_eq _ _ _).trans (by kernel_rfl)
theorem P154_15 (e1 : List Fw.Cell) (e2 : List ByteArray) (e3 : List ByteArray) (e5_0 : Int) (e5_1 : Int) (e5_2 : ByteArray) (e6_0 : Int) (e6_1 : Int) (e6_2 : ByteArray) : L154_15 e1 e2 e3 e5_0 e5_1 e5_2 e6_0 e6_1 e6_2 = (some ((⟨e1, (⟨e2, e3⟩ : Fw.Touch)⟩ : Fw.Mach), ((⟨e6_0, e6_1, e6_2⟩ : Fw.Answer), ()))) := (Ln_eq _ _ _).trans (by kernel_rfl)
end Go.Proofs.YtlkjmghomjkcmaaGreatDoor.Ri

namespace Go.Proofs.YtlkjmghomjkcmaaGreatDoor.Ri
open Go.Proofs.YtlkjmghomjkcmaaGreatDoor.Fw
open Go.RowKit
set_option linter.unusedVariables false
set_option maxRecDepth 100000
noncomputable def L156_56 (s0 : List ByteArray) (s1 : ByteArray) (s5 : Int) : Option ((List ByteArray) × Unit) := Ln 137 56 (⟨47, [(0, .ok (.ro 9 s0)), (1, .ok (.v (.string s1))), (5, .ok (.v (.int .i64 s5)))], []⟩, 0)
noncomputable def L156_15 (s0 : List ByteArray) (s1 : ByteArray) (s5 : Int) : Option ((List ByteArray) × Unit) := Ln 137 15 (⟨47, [(0, .ok (.ro 9 s0)), (1, .ok (.v (.string s1))), (5, .ok (.v (.int .i64 s5)))], []⟩, 0)
theorem E156 (x0 : List ByteArray) (x1 : ByteArray) : D156 x0 x1 = (L156_56 x0 x1 0) := (Dn_eq _ _).trans (by kernel_rfl)
theorem P156_56 (s0 : List ByteArray) (s1 : ByteArray) (s5 : Int) : L156_56 s0 s1 s5 = (gd (((decide (0 ≤ s5)) && (decide (s5 < (s0.length : Int)))) || (!(decide (s5 < (s0.length : Int))))) <| bif ((decide (s5 < (s0.length : Int))) && (ltB (nth s0 s5.toNat) s1)) then (L156_56 s0 s1 (IntKind.wrap .i64 (s5 + 1))) else L156_15 s0 s1 s5) := (Ln_eq _ _ _).trans (by kernel_rfl)
theorem P156_15 (s0 : List ByteArray) (s1 : ByteArray) (s5 : Int) : L156_15 s0 s1 s5 = (gd (((decide (0 ≤ s5)) && (decide (s5 < (s0.length : Int)))) || (!(decide (s5 < (s0.length : Int))))) <| bif ((decide (s5 < (s0.length : Int))) && (decide ((nth s0 s5.toNat) = s1))) then (some (s0, ())) else gd ((decide (0 ≤ 0)) && ((decide (0 ≤ s5)) && (decide (s5 ≤ (s0.length : Int))))) <| gd ((decide (((0 + (cutL s0 (0 : Int).toNat s5.toNat).length) * 16) ≤ 140737488355328)) && (decide ((0 + (cutL s0 (0 : Int).toNat s5.toNat).length) ≤ 9223372036854775807))) <| gd ((decide (((([] ++ (cutL s0 (0 : Int).toNat s5.toNat)).length + 1) * 16) ≤ 140737488355328)) && (decide ((([] ++ (cutL s0 (0 : Int).toNat s5.toNat)).length + 1) ≤ 9223372036854775807))) <| gd ((decide (0 ≤ s5)) && ((decide (s5 ≤ (s0.length : Int))) && (decide ((s0.length : Int) ≤ (s0.length : Int))))) <| gd ((decide ((((([] ++ (cutL s0 (0 : Int).toNat s5.toNat)) ++ [s1]).length + (cutL s0 s5.toNat (s0.length : Int).toNat).length) * 16) ≤ 140737488355328)) && (decide (((([] ++ (cutL s0 (0 : Int).toNat s5.toNat)) ++ [s1]).length + (cutL s0 s5.toNat (s0.length : Int).toNat).length) ≤ 9223372036854775807))) <| some (((([] ++ (cutL s0 (0 : Int).toNat s5.toNat)) ++ [s1]) ++ (cutL s0 s5.toNat (s0.length : Int).toNat)), ())) := (Ln_eq _ _ _).trans (by kernel_rfl)
noncomputable def L157_244 (s0 : ByteArray) (s5 : Int) (e0 : List UInt8) : Option (ByteArray × Bool × Unit) := Ln 180 244 (⟨33, [(0, .ok (.v (.string s0))), (4, .ok (.sl 0)), (5, .ok (.v (.int .i64 s5)))], [(0, .own 5 e0)]⟩, 1)
noncomputable def L157_31 (e0 : List UInt8) : Option (ByteArray × Bool × Unit) := Ln 180 31 (⟨33, [(4, .ok (.sl 0))], [(0, .own 5 e0)]⟩, 1)
theorem E157 (x0 : ByteArray) : D157 x0 = (bif (decide ((x0.size : Int) > 20000)) then (some ((tx []), (false, ()))) else L157_244 x0 0 []) := (Dn_eq _ _).trans (by kernel_rfl)
theorem P157_244 (s0 : ByteArray) (s5 : Int) (e0 : List UInt8) : L157_244 s0 s5 e0 = (bif (decide (s5 < (s0.size : Int))) then (gd ((decide (0 ≤ s5)) && (decide (s5 < (s0.size : Int)))) <| gd (!(decide (16 = 0))) <| (D163 (IntKind.wrap .i64 (Int.tdiv (IntKind.wrap .i64 ((byteAt s0 s5.toNat).toNat : Int)) 16))).bind fun y0 => gd ((decide (0 ≤ s5)) && (decide (s5 < (s0.size : Int)))) <| gd (!(decide (16 = 0))) <| (D163 (Int.tmod (IntKind.wrap .i64 ((byteAt s0 s5.toNat).toNat : Int)) 16)).bind fun y1 => gd ((decide (((e0.length + 2) * 1) ≤ 140737488355328)) && (decide ((e0.length + 2) ≤ 9223372036854775807))) <| L157_244 s0 (IntKind.wrap .i64 (s5 + 1)) (e0 ++ [(u8of (y0.1.toNat : Int)), (u8of (y1.1.toNat : Int))])) else L157_31 e0) := (Ln_eq _ _ _).trans (by kernel_rfl)
theorem P157_31 (e0 : List UInt8) : L157_31 e0 = (some ((bstr (e0.map fun x => x)), (true, ()))) := (Ln_eq _ _ _).trans (by kernel_rfl)
noncomputable def L159_244 (s0 : ByteArray) (s4 : Int) (s5 : Int) : Option (Int × Bool × Unit) := Ln 218 244 (⟨42, [(0, .ok (.v (.string s0))), (4, .ok (.v (.int .i64 s4))), (5, .ok (.v (.int .i64 s5)))], []⟩, 0)
noncomputable def L159_31 (s0 : ByteArray) (s4 : Int) : Option (Int × Bool × Unit) := Ln 218 31 (⟨42, [(0, .ok (.v (.string s0))), (4, .ok (.v (.int .i64 s4)))], []⟩, 0)
theorem E159 (x0 : ByteArray) : D159 x0 = (bif (decide ((x0.size : Int) > 10)) then (some (0, (false, ()))) else L159_244 x0 0 0) := (Dn_eq _ _).trans (by kernel_rfl)
theorem P159_244 (s0 : ByteArray) (s4 : Int) (s5 : Int) : L159_244 s0 s4 s5 = (bif (decide (s5 < (s0.size : Int))) then (gd ((decide (0 ≤ s5)) && (decide (s5 < (s0.size : Int)))) <| gd (((decide (0 ≤ s5)) && (decide (s5 < (s0.size : Int)))) || (!(!(decide (((byteAt s0 s5.toNat).toNat : Int) < 48))))) <| bif ((decide (((byteAt s0 s5.toNat).toNat : Int) < 48)) || (decide (((byteAt s0 s5.toNat).toNat : Int) > 57))) then (some (0, (false, ()))) else gd ((decide (0 ≤ s5)) && (decide (s5 < (s0.size : Int)))) <| L159_244 s0 (IntKind.wrap .i64 ((IntKind.wrap .i64 ((IntKind.wrap .i64 (10 * s4)) + (IntKind.wrap .i64 ((byteAt s0 s5.toNat).toNat : Int)))) - 48)) (IntKind.wrap .i64 (s5 + 1))) else L159_31 s0 s4) := (Ln_eq _ _ _).trans (by kernel_rfl)
theorem P159_31 (s0 : ByteArray) (s4 : Int) : L159_31 s0 s4 = (bif (!(decide (s4 > 1000000000))) then ((D122 s4).bind fun y0 => bif (!(decide (y0.1 = s0))) then (some (0, (false, ()))) else some (s4, (true, ()))) else some (0, (false, ()))) := (Ln_eq _ _ _).trans (by kernel_rfl)
theorem E160 (x0 : UInt8) : D160 x0 = (bif ((decide ((x0.toNat : Int) ≥ 48)) && (decide ((x0.toNat : Int) ≤ 57))) then (some ((IntKind.wrap .i64 ((IntKind.wrap .i64 (x0.toNat : Int)) - 48)), ())) else bif ((decide ((x0.toNat : Int) ≥ 97)) && (decide ((x0.toNat : Int) ≤ 102))) then (some ((IntKind.wrap .i64 ((IntKind.wrap .i64 ((IntKind.wrap .i64 (x0.toNat : Int)) - 97)) + 10)), ())) else some ((-1), ())) := (Dn_eq _ _).trans (by kernel_rfl)
noncomputable def L162_500 (s0 : List Fw.Cell) (s1 : ByteArray) (s2 : ByteArray) (s8 : Bool) (s9 : Int) (e0 : List Fw.Cell) : Option ((List Fw.Cell) × Unit) := Ln 208 500 (⟨70, [(0, .ok (.ro 92 s0)), (1, .ok (.v (.string s1))), (2, .ok (.v (.string s2))), (7, .ok (.sl 0)), (8, .ok (.v (.bool s8))), (9, .ok (.v (.int .i64 s9)))], [(0, .own 92 e0)]⟩, 1)
noncomputable def L162_63 (s1 : ByteArray) (s2 : ByteArray) (s8 : Bool) (e0 : List Fw.Cell) : Option ((List Fw.Cell) × Unit) := Ln 208 63 (⟨70, [(1, .ok (.v (.string s1))), (2, .ok (.v (.string s2))), (7, .ok (.sl 0)), (8, .ok (.v (.bool s8)))], [(0, .own 92 e0)]⟩, 1)
noncomputable def L162_8009 (s0 : List Fw.Cell) (s1 : ByteArray) (s2 : ByteArray) (s8 : Bool) (s9 : Int) (e0 : List Fw.Cell) : Option ((List Fw.Cell) × Unit) := Ln 208 8009 (⟨70, [(0, .ok (.ro 92 s0)), (1, .ok (.v (.string s1))), (2, .ok (.v (.string s2))), (7, .ok (.sl 0)), (8, .ok (.v (.bool s8))), (9, .ok (.v (.int .i64 s9)))], [(0, .own 92 e0)]⟩, 1)
noncomputable def L162_127 (e0 : List Fw.Cell) : Option ((List Fw.Cell) × Unit) := Ln 208 127 (⟨70, [(7, .ok (.sl 0))], [(0, .own 92 e0)]⟩, 1)
noncomputable def L162_2003 (s0 : List Fw.Cell) (s1 : ByteArray) (s2 : ByteArray) (s8 : Bool) (s9 : Int) (e0 : List Fw.Cell) : Option ((List Fw.Cell) × Unit) := Ln 208 2003 (⟨70, [(0, .ok (.ro 92 s0)), (1, .ok (.v (.string s1))), (2, .ok (.v (.string s2))), (7, .ok (.sl 0)), (8, .ok (.v (.bool s8))), (9, .ok (.v (.int .i64 s9)))], [(0, .own 92 e0)]⟩, 1)
theorem E162 (x0 : List Fw.Cell) (x1 : ByteArray) (x2 : ByteArray) : D162 x0 x1 x2 = ((D132 x1).bind fun y0 => bif ((!y0.1) || (decide ((x2.size : Int) > 60))) then (gd ((decide (((0 + x0.length) * 32) ≤ 140737488355328)) && (decide ((0 + x0.length) ≤ 9223372036854775807))) <| some (([] ++ x0), ())) else L162_500 x0 x1 x2 (decide (x2 = (tx []))) 0 []) := (Dn_eq _ _).trans (by kernel_rfl)
theorem P162_500 (s0 : List Fw.Cell) (s1 : ByteArray) (s2 : ByteArray) (s8 : Bool) (s9 : Int) (e0 : List Fw.Cell) : L162_500 s0 s1 s2 s8 s9 e0 = (bif (decide (s9 < (s0.length : Int))) then (gd (((decide (0 ≤ s9)) && (decide (s9 < (s0.length : Int)))) || (!(!s8))) <| bif ((!s8) && (!((ltB (nth s0 s9.toNat).Key s1) || (decide ((nth s0 s9.toNat).Key = s1))))) then (gd ((decide (((e0.length + 1) * 32) ≤ 140737488355328)) && (decide ((e0.length + 1) ≤ 9223372036854775807))) <| L162_8009 s0 s1 s2 true s9 (e0 ++ [(⟨s1, s2⟩ : Fw.Cell)])) else L162_8009 s0 s1 s2 s8 s9 e0) else L162_63 s1 s2 s8 e0) := (Ln_eq _ _ _).trans (by kernel_rfl)
theorem P162_63 (s1 : ByteArray) (s2 : ByteArray) (s8 : Bool) (e0 : List Fw.Cell) : L162_63 s1 s2 s8 e0 = (bif (!s8) then (gd ((decide (((e0.length + 1) * 32) ≤ 140737488355328)) && (decide ((e0.length + 1) ≤ 9223372036854775807))) <| L162_127 (e0 ++ [(⟨s1, s2⟩ : Fw.Cell)])) else L162_127 e0) := (Ln_eq _ _ _).trans (by kernel_rfl)
theorem P162_8009 (s0 : List Fw.Cell) (s1 : ByteArray) (s2 : ByteArray) (s8 : Bool) (s9 : Int) (e0 : List Fw.Cell) : L162_8009 s0 s1 s2 s8 s9 e0 = (gd ((decide (0 ≤ s9)) && (decide (s9 < (s0.length : Int)))) <| bif (!(decide ((nth s0 s9.toNat).Key = s1))) then (gd ((decide (0 ≤ s9)) && (decide (s9 < (s0.length : Int)))) <| gd ((decide (((e0.length + 1) * 32) ≤ 140737488355328)) && (decide ((e0.length + 1) ≤ 9223372036854775807))) <| L162_2003 s0 s1 s2 s8 s9 (e0 ++ [(nth s0 s9.toNat)])) else L162_2003 s0 s1 s2 s8 s9 e0) := (Ln_eq _ _ _).trans (by kernel_rfl)
theorem P162_127 (e0 : List Fw.Cell) : L162_127 e0 = (some (e0, ())) := (Ln_eq _ _ _).trans (by kernel_rfl)
theorem P162_2003 (s0 : List Fw.Cell) (s1 : ByteArray) (s2 : ByteArray) (s8 : Bool) (s9 : Int) (e0 : List Fw.Cell) : L162_2003 s0 s1 s2 s8 s9 e0 = (L162_500 s0 s1 s2 s8 (IntKind.wrap .i64 (s9 + 1)) e0) := (Ln_eq _ _ _).trans (by kernel_rfl)
theorem E163 (x0 : Int) : D163 x0 = (bif (decide (x0 < 10)) then (some ((u8of (IntKind.wrap .u8 (IntKind.wrap .i64 (48 + x0)))), ())) else some ((u8of (IntKind.wrap .u8 (IntKind.wrap .i64 ((IntKind.wrap .i64 (97 + x0)) - 10)))), ())) := (Dn_eq _ _).trans (by kernel_rfl)
noncomputable def L165_52 (s0 : ByteArray) (s3 : Int) : Option (Bool × Unit) := Ln 167 52 (⟨35, [(0, .ok (.v (.string s0))), (3, .ok (.v (.int .i64 s3)))], []⟩, 0)
noncomputable def L165_7 (s0 : ByteArray) : Option (Bool × Unit) := Ln 167 7 (⟨35, [(0, .ok (.v (.string s0)))], []⟩, 0)
theorem E165 (x0 : ByteArray) : D165 x0 = (L165_52 x0 0) := (Dn_eq _ _).trans (by kernel_rfl)
theorem P165_52 (s0 : ByteArray) (s3 : Int) : L165_52 s0 s3 = (bif (decide (s3 < (s0.size : Int))) then (gd ((decide (0 ≤ s3)) && (decide (s3 < (s0.size : Int)))) <| (D27 (IntKind.wrap .i64 ((byteAt s0 s3.toNat).toNat : Int)) 97 122).bind fun y0 => bif (!y0.1) then ((D27 (IntKind.wrap .i64 ((byteAt s0 s3.toNat).toNat : Int)) 48 57).bind fun y1 => bif (((!y1.1) && (!(decide (((byteAt s0 s3.toNat).toNat : Int) = 46)))) && (!(decide (((byteAt s0 s3.toNat).toNat : Int) = 45)))) then (some (false, ())) else L165_52 s0 (IntKind.wrap .i64 (s3 + 1))) else L165_52 s0 (IntKind.wrap .i64 (s3 + 1))) else L165_7 s0) := (Ln_eq _ _ _).trans (by kernel_rfl)
theorem P165_7 (s0 : ByteArray) : L165_7 s0 = ((D27 (s0.size : Int) 1 12).bind fun y0 => some (y0.1, ())) := (Ln_eq _ _ _).trans (by kernel_rfl)
theorem E166 (x0 : Fw.Mach) (x1 : ByteArray) : D166 x0 x1 = ((D165 x1).bind fun y0 => bif (!y0.1) then (some (x0, (0, ()))) else gd (decide (((tx [110, 47]).size + x1.size) ≤ 9223372036854775807)) <| (D88 x0 ((tx [110, 47]) ++ x1)).bind fun y1 => some (y1.1, (y1.2.1, ()))) := (Dn_eq _ _).trans (by kernel_rfl)
noncomputable def L167_116 (s6 : Int) (e1 : List Fw.Cell) (e2 : List ByteArray) (e3 : List ByteArray) (e5 : List ByteArray) : Option (Fw.Mach × Unit) := Ln 173 116 (⟨26, [(2, .ok (.pt 0 0)), (4, .ok (.pt 4 0)), (5, .ok (.sl 5)), (6, .ok (.v (.int .i64 s6)))], [(0, .var [.sl 1, .sl 2, .sl 3] 102), (1, .own 92 e1), (2, .own 9 e2), (3, .own 9 e3), (4, .var [.v (.slice none 0 0), .v (.slice none 0 0), .v (.slice none 0 0)] 102), (5, .own 9 e5)]⟩, 6)
noncomputable def L167_15 (e1 : List Fw.Cell) (e2 : List ByteArray) (e3 : List ByteArray) : Option (Fw.Mach × Unit) := Ln 173 15 (⟨26, [(2, .ok (.pt 0 0)), (4, .ok (.pt 4 0))], [(0, .var [.sl 1, .sl 2, .sl 3] 102), (1, .own 92 e1), (2, .own 9 e2), (3, .own 9 e3), (4, .var [.v (.slice none 0 0), .v (.slice none 0 0), .v (.slice none 0 0)] 102)]⟩, 5)
theorem E167 (x0 : Fw.Mach) (x1 : ByteArray) : D167 x0 x1 = ((D177 x0 x1).bind fun y0 => L167_116 0 y0.1.Store y0.1.Touch.Reads y0.1.Touch.Writes y0.2.1) := (Dn_eq _ _).trans (by kernel_rfl)
theorem P167_116 (s6 : Int) (e1 : List Fw.Cell) (e2 : List ByteArray) (e3 : List ByteArray) (e5 : List ByteArray) : L167_116 s6 e1 e2 e3 e5 = (bif (decide (s6 < (e5.length : Int))) then (gd ((decide (0 ≤ s6)) && (decide (s6 < (e5.length : Int)))) <| (D131 (⟨e1, (⟨e2, e3⟩ : Fw.Touch)⟩ : Fw.Mach) (nth e5 s6.toNat) (tx [])).bind fun y0 => L167_116 (IntKind.wrap .i64 (s6 + 1)) y0.1.Store y0.1.Touch.Reads y0.1.Touch.Writes e5) else L167_15 e1 e2 e3) := (Ln_eq _ _ _).trans (by kernel_rfl)
theorem P167_15 (e1 : List Fw.Cell) (e2 : List ByteArray) (e3 : List ByteArray) : L167_15 e1 e2 e3 = (some ((⟨e1, (⟨e2, e3⟩ : Fw.Touch)⟩ : Fw.Mach), ())) := (Ln_eq _ _ _).trans (by kernel_rfl)
noncomputable def L168_244 (s6 : Int) (e1 : List Fw.Cell) (e2 : List ByteArray) (e3 : List ByteArray) (e5 : List ByteArray) (e6 : List ByteArray) : Option (Fw.Mach × (List ByteArray) × Unit) := Ln 174 244 (⟨29, [(1, .ok (.pt 0 0)), (2, .ok (.pt 4 0)), (4, .ok (.sl 5)), (5, .ok (.sl 6)), (6, .ok (.v (.int .i64 s6)))], [(0, .var [.sl 1, .sl 2, .sl 3] 102), (1, .own 92 e1), (2, .own 9 e2), (3, .own 9 e3), (4, .var [.v (.slice none 0 0), .v (.slice none 0 0), .v (.slice none 0 0)] 102), (5, .own 9 e5), (6, .own 9 e6)]⟩, 7)
noncomputable def L168_31 (e1 : List Fw.Cell) (e2 : List ByteArray) (e3 : List ByteArray) (e5 : List ByteArray) : Option (Fw.Mach × (List ByteArray) × Unit) := Ln 174 31 (⟨29, [(1, .ok (.pt 0 0)), (2, .ok (.pt 4 0)), (5, .ok (.sl 5))], [(0, .var [.sl 1, .sl 2, .sl 3] 102), (1, .own 92 e1), (2, .own 9 e2), (3, .own 9 e3), (4, .var [.v (.slice none 0 0), .v (.slice none 0 0), .v (.slice none 0 0)] 102), (5, .own 9 e5)]⟩, 6)
theorem E168 (x0 : Fw.Mach) : D168 x0 = ((D177 x0 (tx [110, 47])).bind fun y0 => L168_244 0 y0.1.Store y0.1.Touch.Reads y0.1.Touch.Writes y0.2.1 []) := (Dn_eq _ _).trans (by kernel_rfl)
theorem P168_244 (s6 : Int) (e1 : List Fw.Cell) (e2 : List ByteArray) (e3 : List ByteArray) (e5 : List ByteArray) (e6 : List ByteArray) : L168_244 s6 e1 e2 e3 e5 e6 = (bif (decide (s6 < (e5.length : Int))) then (gd ((decide (0 ≤ s6)) && (decide (s6 < (e5.length : Int)))) <| gd ((decide (0 ≤ 2)) && ((decide (2 ≤ ((nth e5 s6.toNat).size : Int))) && (decide (((nth e5 s6.toNat).size : Int) ≤ ((nth e5 s6.toNat).size : Int))))) <| gd ((decide (((e6.length + 1) * 16) ≤ 140737488355328)) && (decide ((e6.length + 1) ≤ 9223372036854775807))) <| L168_244 (IntKind.wrap .i64 (s6 + 1)) e1 e2 e3 e5 (e6 ++ [(cutS (nth e5 s6.toNat) (2 : Int).toNat ((nth e5 s6.toNat).size : Int).toNat)])) else L168_31 e1 e2 e3 e6) := (Ln_eq _ _ _).trans (by kernel_rfl)
theorem P168_31 (e1 : List Fw.Cell) (e2 : List ByteArray) (e3 : List ByteArray) (e5 : List ByteArray) : L168_31 e1 e2 e3 e5 = (some ((⟨e1, (⟨e2, e3⟩ : Fw.Touch)⟩ : Fw.Mach), (e5, ()))) := (Ln_eq _ _ _).trans (by kernel_rfl)
noncomputable def L169_63 (s1 : Int) (s2 : Int) (s11 : Int) (e1 : List Fw.Cell) (e2 : List ByteArray) (e3 : List ByteArray) : Option (Fw.Mach × ByteArray × Unit) := Ln 175 63 (⟨91, [(1, .ok (.v (.int .i64 s1))), (2, .ok (.v (.int .i64 s2))), (4, .ok (.pt 0 0)), (8, .ok (.pt 4 0)), (11, .ok (.v (.int .i64 s11)))], [(0, .var [.sl 1, .sl 2, .sl 3] 102), (1, .own 92 e1), (2, .own 9 e2), (3, .own 9 e3), (4, .var [.v (.slice none 0 0), .v (.slice none 0 0), .v (.slice none 0 0)] 102)]⟩, 5)
noncomputable def L169_2036 (s1 : Int) (s2 : Int) (s11 : Int) (s13 : Int) (e1 : List Fw.Cell) (e2 : List ByteArray) (e3 : List ByteArray) (e5 : List UInt8) : Option (Fw.Mach × ByteArray × Unit) := Ln 175 2036 (⟨91, [(1, .ok (.v (.int .i64 s1))), (2, .ok (.v (.int .i64 s2))), (4, .ok (.pt 0 0)), (8, .ok (.pt 4 0)), (11, .ok (.v (.int .i64 s11))), (12, .ok (.sl 5)), (13, .ok (.v (.int .i64 s13)))], [(0, .var [.sl 1, .sl 2, .sl 3] 102), (1, .own 92 e1), (2, .own 9 e2), (3, .own 9 e3), (4, .var [.v (.slice none 0 0), .v (.slice none 0 0), .v (.slice none 0 0)] 102), (5, .own 5 e5)]⟩, 6)
noncomputable def L169_255 (e1 : List Fw.Cell) (e2 : List ByteArray) (e3 : List ByteArray) (e5 : List UInt8) : Option (Fw.Mach × ByteArray × Unit) := Ln 175 255 (⟨91, [(4, .ok (.pt 0 0)), (8, .ok (.pt 4 0)), (12, .ok (.sl 5))], [(0, .var [.sl 1, .sl 2, .sl 3] 102), (1, .own 92 e1), (2, .own 9 e2), (3, .own 9 e3), (4, .var [.v (.slice none 0 0), .v (.slice none 0 0), .v (.slice none 0 0)] 102), (5, .own 5 e5)]⟩, 6)
noncomputable def L169_521372 (s1 : Int) (s2 : Int) (s11 : Int) (s13 : Int) (s14 : ByteArray) (s15 : Int) (e1 : List Fw.Cell) (e2 : List ByteArray) (e3 : List ByteArray) (e5 : List UInt8) : Option (Fw.Mach × ByteArray × Unit) := Ln 175 521372 (⟨91, [(1, .ok (.v (.int .i64 s1))), (2, .ok (.v (.int .i64 s2))), (4, .ok (.pt 0 0)), (8, .ok (.pt 4 0)), (11, .ok (.v (.int .i64 s11))), (12, .ok (.sl 5)), (13, .ok (.v (.int .i64 s13))), (14, .ok (.v (.string s14))), (15, .ok (.v (.int .i64 s15)))], [(0, .var [.sl 1, .sl 2, .sl 3] 102), (1, .own 92 e1), (2, .own 9 e2), (3, .own 9 e3), (4, .var [.v (.slice none 0 0), .v (.slice none 0 0), .v (.slice none 0 0)] 102), (5, .own 5 e5)]⟩, 6)
noncomputable def L169_8147 (s1 : Int) (s2 : Int) (s11 : Int) (s13 : Int) (e1 : List Fw.Cell) (e2 : List ByteArray) (e3 : List ByteArray) (e5 : List UInt8) : Option (Fw.Mach × ByteArray × Unit) := Ln 175 8147 (⟨91, [(1, .ok (.v (.int .i64 s1))), (2, .ok (.v (.int .i64 s2))), (4, .ok (.pt 0 0)), (8, .ok (.pt 4 0)), (11, .ok (.v (.int .i64 s11))), (12, .ok (.sl 5)), (13, .ok (.v (.int .i64 s13)))], [(0, .var [.sl 1, .sl 2, .sl 3] 102), (1, .own 92 e1), (2, .own 9 e2), (3, .own 9 e3), (4, .var [.v (.slice none 0 0), .v (.slice none 0 0), .v (.slice none 0 0)] 102), (5, .own 5 e5)]⟩, 6)
noncomputable def L169_2085491 (s1 : Int) (s2 : Int) (s11 : Int) (s13 : Int) (s14 : ByteArray) (s15 : Int) (e1 : List Fw.Cell) (e2 : List ByteArray) (e3 : List ByteArray) (e5 : List UInt8) : Option (Fw.Mach × ByteArray × Unit) := Ln 175 2085491 (⟨91, [(1, .ok (.v (.int .i64 s1))), (2, .ok (.v (.int .i64 s2))), (4, .ok (.pt 0 0)), (8, .ok (.pt 4 0)), (11, .ok (.v (.int .i64 s11))), (12, .ok (.sl 5)), (13, .ok (.v (.int .i64 s13))), (14, .ok (.v (.string s14))), (15, .ok (.v (.int .i64 s15)))], [(0, .var [.sl 1, .sl 2, .sl 3] 102), (1, .own 92 e1), (2, .own 9 e2), (3, .own 9 e3), (4, .var [.v (.slice none 0 0), .v (.slice none 0 0), .v (.slice none 0 0)] 102), (5, .own 5 e5)]⟩, 6)
theorem E169 (x0 : Fw.Mach) (x1 : Int) (x2 : Int) (x3 : Int) : D169 x0 x1 x2 x3 = ((D185 x0 x1).bind fun y0 => bif (((decide (x2 < 0)) || (decide (x3 < 1))) || (decide (x2 ≥ y0.2.1))) then (some (y0.1, ((tx []), ()))) else bif (decide (x3 < (IntKind.wrap .i64 (y0.2.1 - x2)))) then (L169_63 x1 x2 (IntKind.wrap .i64 (x2 + x3)) y0.1.Store y0.1.Touch.Reads y0.1.Touch.Writes) else L169_63 x1 x2 y0.2.1 y0.1.Store y0.1.Touch.Reads y0.1.Touch.Writes) := (Dn_eq _ _).trans (by kernel_rfl)
theorem P169_63 (s1 : Int) (s2 : Int) (s11 : Int) (e1 : List Fw.Cell) (e2 : List ByteArray) (e3 : List ByteArray) : L169_63 s1 s2 s11 e1 e2 e3 = (gd (!(decide (8 = 0))) <| L169_2036 s1 s2 s11 (IntKind.wrap .i64 (Int.tdiv s2 8)) e1 e2 e3 []) := (Ln_eq _ _ _).trans (by kernel_rfl)
theorem P169_2036 (s1 : Int) (s2 : Int) (s11 : Int) (s13 : Int) (e1 : List Fw.Cell) (e2 : List ByteArray) (e3 : List ByteArray) (e5 : List UInt8) : L169_2036 s1 s2 s11 s13 e1 e2 e3 e5 = (bif (decide ((IntKind.wrap .i64 (s13 * 8)) < s11)) then ((D186 (⟨e1, (⟨e2, e3⟩ : Fw.Touch)⟩ : Fw.Mach) s1 s13).bind fun y0 => L169_521372 s1 s2 s11 s13 y0.2.1 0 y0.1.Store y0.1.Touch.Reads y0.1.Touch.Writes e5) else L169_255 e1 e2 e3 e5) := (Ln_eq _ _ _).trans (by kernel_rfl)
theorem P169_255 (e1 : List Fw.Cell) (e2 : List ByteArray) (e3 : List ByteArray) (e5 : List UInt8) : L169_255 e1 e2 e3 e5 = (some ((⟨e1, (⟨e2, e3⟩ : Fw.Touch)⟩ : Fw.Mach), ((bstr (e5.map fun x => x)), ()))) := (Ln_eq _ _ _).trans (by kernel_rfl)
theorem P169_521372 (s1 : Int) (s2 : Int) (s11 : Int) (s13 : Int) (s14 : ByteArray) (s15 : Int) (e1 : List Fw.Cell) (e2 : List ByteArray) (e3 : List ByteArray) (e5 : List UInt8) : L169_521372 s1 s2 s11 s13 s14 s15 e1 e2 e3 e5 = (bif ((decide (s15 < (s14.size : Int))) && (decide (s15 < 8))) then (bif ((decide ((IntKind.wrap .i64 ((IntKind.wrap .i64 (s13 * 8)) + s15)) ≥ s2)) && (decide ((IntKind.wrap .i64 ((IntKind.wrap .i64 (s13 * 8)) + s15)) < s11))) then (gd ((decide (0 ≤ s15)) && (decide (s15 < (s14.size : Int)))) <| gd ((decide (((e5.length + 1) * 1) ≤ 140737488355328)) && (decide ((e5.length + 1) ≤ 9223372036854775807))) <| L169_2085491 s1 s2 s11 s13 s14 s15 e1 e2 e3 (e5 ++ [(u8of ((byteAt s14 s15.toNat).toNat : Int))])) else L169_2085491 s1 s2 s11 s13 s14 s15 e1 e2 e3 e5) else L169_8147 s1 s2 s11 s13 e1 e2 e3 e5) := (Ln_eq _ _ _).trans (by kernel_rfl)
theorem P169_8147 (s1 : Int) (s2 : Int) (s11 : Int) (s13 : Int) (e1 : List Fw.Cell) (e2 : List ByteArray) (e3 : List ByteArray) (e5 : List UInt8) : L169_8147 s1 s2 s11 s13 e1 e2 e3 e5 = (L169_2036 s1 s2 s11 (IntKind.wrap .i64 (s13 + 1)) e1 e2 e3 e5) := (Ln_eq _ _ _).trans (by kernel_rfl)
theorem P169_2085491 (s1 : Int) (s2 : Int) (s11 : Int) (s13 : Int) (s14 : ByteArray) (s15 : Int) (e1 : List Fw.Cell) (e2 : List ByteArray) (e3 : List ByteArray) (e5 : List UInt8) : L169_2085491 s1 s2 s11 s13 s14 s15 e1 e2 e3 e5 = (L169_521372 s1 s2 s11 s13 s14 (IntKind.wrap .i64 (s15 + 1)) e1 e2 e3 e5) := (Ln_eq _ _ _).trans (by kernel_rfl)
end Go.Proofs.YtlkjmghomjkcmaaGreatDoor.Ri

namespace Go.Proofs.YtlkjmghomjkcmaaGreatDoor.Ri
open Go.Proofs.YtlkjmghomjkcmaaGreatDoor.Fw
open Go.RowKit
set_option linter.unusedVariables false
set_option maxRecDepth 100000
noncomputable def L170_1012 (s1 : Int) (s2 : Int) (s3 : ByteArray) (s10 : Int) (s11 : Int) (s12 : Int) (e1 : List Fw.Cell) (e2 : List ByteArray) (e3 : List ByteArray) : Option (Fw.Mach × Int × Unit) := Ln 176 1012 (⟨102, [(1, .ok (.v (.int .i64 s1))), (2, .ok (.v (.int .i64 s2))), (3, .ok (.v (.string s3))), (4, .ok (.pt 0 0)), (8, .ok (.pt 4 0)), (10, .ok (.v (.int .i64 s10))), (11, .ok (.v (.int .i64 s11))), (12, .ok (.v (.int .i64 s12)))], [(0, .var [.sl 1, .sl 2, .sl 3] 102), (1, .own 92 e1), (2, .own 9 e2), (3, .own 9 e3), (4, .var [.v (.slice none 0 0), .v (.slice none 0 0), .v (.slice none 0 0)] 102)]⟩, 5)
noncomputable def L170_127 (s1 : Int) (s10 : Int) (s11 : Int) (e1 : List Fw.Cell) (e2 : List ByteArray) (e3 : List ByteArray) : Option (Fw.Mach × Int × Unit) := Ln 176 127 (⟨102, [(1, .ok (.v (.int .i64 s1))), (4, .ok (.pt 0 0)), (8, .ok (.pt 4 0)), (10, .ok (.v (.int .i64 s10))), (11, .ok (.v (.int .i64 s11)))], [(0, .var [.sl 1, .sl 2, .sl 3] 102), (1, .own 92 e1), (2, .own 9 e2), (3, .own 9 e3), (4, .var [.v (.slice none 0 0), .v (.slice none 0 0), .v (.slice none 0 0)] 102)]⟩, 5)
noncomputable def L170_1036916 (s1 : Int) (s2 : Int) (s3 : ByteArray) (s10 : Int) (s11 : Int) (s12 : Int) (s15 : Int) (e1 : List Fw.Cell) (e2 : List ByteArray) (e3 : List ByteArray) (e5 : List UInt8) : Option (Fw.Mach × Int × Unit) := Ln 176 1036916 (⟨102, [(1, .ok (.v (.int .i64 s1))), (2, .ok (.v (.int .i64 s2))), (3, .ok (.v (.string s3))), (4, .ok (.pt 0 0)), (8, .ok (.pt 4 0)), (10, .ok (.v (.int .i64 s10))), (11, .ok (.v (.int .i64 s11))), (12, .ok (.v (.int .i64 s12))), (14, .ok (.sl 5)), (15, .ok (.v (.int .i64 s15)))], [(0, .var [.sl 1, .sl 2, .sl 3] 102), (1, .own 92 e1), (2, .own 9 e2), (3, .own 9 e3), (4, .var [.v (.slice none 0 0), .v (.slice none 0 0), .v (.slice none 0 0)] 102), (5, .own 5 e5)]⟩, 6)
noncomputable def L170_255 (e1 : List Fw.Cell) (e2 : List ByteArray) (e3 : List ByteArray) : Option (Fw.Mach × Int × Unit) := Ln 176 255 (⟨102, [(4, .ok (.pt 0 0)), (8, .ok (.pt 4 0))], [(0, .var [.sl 1, .sl 2, .sl 3] 102), (1, .own 92 e1), (2, .own 9 e2), (3, .own 9 e3), (4, .var [.v (.slice none 0 0), .v (.slice none 0 0), .v (.slice none 0 0)] 102)]⟩, 5)
noncomputable def L170_129615 (s1 : Int) (s2 : Int) (s3 : ByteArray) (s10 : Int) (s11 : Int) (s12 : Int) (e1 : List Fw.Cell) (e2 : List ByteArray) (e3 : List ByteArray) (e5 : List UInt8) : Option (Fw.Mach × Int × Unit) := Ln 176 129615 (⟨102, [(1, .ok (.v (.int .i64 s1))), (2, .ok (.v (.int .i64 s2))), (3, .ok (.v (.string s3))), (4, .ok (.pt 0 0)), (8, .ok (.pt 4 0)), (10, .ok (.v (.int .i64 s10))), (11, .ok (.v (.int .i64 s11))), (12, .ok (.v (.int .i64 s12))), (14, .ok (.sl 5))], [(0, .var [.sl 1, .sl 2, .sl 3] 102), (1, .own 92 e1), (2, .own 9 e2), (3, .own 9 e3), (4, .var [.v (.slice none 0 0), .v (.slice none 0 0), .v (.slice none 0 0)] 102), (5, .own 5 e5)]⟩, 6)
noncomputable def L170_265450648 (s1 : Int) (s2 : Int) (s3 : ByteArray) (s10 : Int) (s11 : Int) (s12 : Int) (s15 : Int) (s16 : Int) (e1 : List Fw.Cell) (e2 : List ByteArray) (e3 : List ByteArray) (e5 : List UInt8) : Option (Fw.Mach × Int × Unit) := Ln 176 265450648 (⟨102, [(1, .ok (.v (.int .i64 s1))), (2, .ok (.v (.int .i64 s2))), (3, .ok (.v (.string s3))), (4, .ok (.pt 0 0)), (8, .ok (.pt 4 0)), (10, .ok (.v (.int .i64 s10))), (11, .ok (.v (.int .i64 s11))), (12, .ok (.v (.int .i64 s12))), (14, .ok (.sl 5)), (15, .ok (.v (.int .i64 s15))), (16, .ok (.v (.int .i64 s16)))], [(0, .var [.sl 1, .sl 2, .sl 3] 102), (1, .own 92 e1), (2, .own 9 e2), (3, .own 9 e3), (4, .var [.v (.slice none 0 0), .v (.slice none 0 0), .v (.slice none 0 0)] 102), (5, .own 5 e5)]⟩, 6)
noncomputable def L170_4147667 (s1 : Int) (s2 : Int) (s3 : ByteArray) (s10 : Int) (s11 : Int) (s12 : Int) (s15 : Int) (e1 : List Fw.Cell) (e2 : List ByteArray) (e3 : List ByteArray) (e5 : List UInt8) : Option (Fw.Mach × Int × Unit) := Ln 176 4147667 (⟨102, [(1, .ok (.v (.int .i64 s1))), (2, .ok (.v (.int .i64 s2))), (3, .ok (.v (.string s3))), (4, .ok (.pt 0 0)), (8, .ok (.pt 4 0)), (10, .ok (.v (.int .i64 s10))), (11, .ok (.v (.int .i64 s11))), (12, .ok (.v (.int .i64 s12))), (14, .ok (.sl 5)), (15, .ok (.v (.int .i64 s15)))], [(0, .var [.sl 1, .sl 2, .sl 3] 102), (1, .own 92 e1), (2, .own 9 e2), (3, .own 9 e3), (4, .var [.v (.slice none 0 0), .v (.slice none 0 0), .v (.slice none 0 0)] 102), (5, .own 5 e5)]⟩, 6)
noncomputable def L170_4051 (s1 : Int) (s2 : Int) (s3 : ByteArray) (s10 : Int) (s11 : Int) (s12 : Int) (e1 : List Fw.Cell) (e2 : List ByteArray) (e3 : List ByteArray) : Option (Fw.Mach × Int × Unit) := Ln 176 4051 (⟨102, [(1, .ok (.v (.int .i64 s1))), (2, .ok (.v (.int .i64 s2))), (3, .ok (.v (.string s3))), (4, .ok (.pt 0 0)), (8, .ok (.pt 4 0)), (10, .ok (.v (.int .i64 s10))), (11, .ok (.v (.int .i64 s11))), (12, .ok (.v (.int .i64 s12)))], [(0, .var [.sl 1, .sl 2, .sl 3] 102), (1, .own 92 e1), (2, .own 9 e2), (3, .own 9 e3), (4, .var [.v (.slice none 0 0), .v (.slice none 0 0), .v (.slice none 0 0)] 102)]⟩, 5)
noncomputable def L170_66362663 (s1 : Int) (s2 : Int) (s3 : ByteArray) (s10 : Int) (s11 : Int) (s12 : Int) (s15 : Int) (s16 : Int) (e1 : List Fw.Cell) (e2 : List ByteArray) (e3 : List ByteArray) (e5 : List UInt8) : Option (Fw.Mach × Int × Unit) := Ln 176 66362663 (⟨102, [(1, .ok (.v (.int .i64 s1))), (2, .ok (.v (.int .i64 s2))), (3, .ok (.v (.string s3))), (4, .ok (.pt 0 0)), (8, .ok (.pt 4 0)), (10, .ok (.v (.int .i64 s10))), (11, .ok (.v (.int .i64 s11))), (12, .ok (.v (.int .i64 s12))), (14, .ok (.sl 5)), (15, .ok (.v (.int .i64 s15))), (16, .ok (.v (.int .i64 s16)))], [(0, .var [.sl 1, .sl 2, .sl 3] 102), (1, .own 92 e1), (2, .own 9 e2), (3, .own 9 e3), (4, .var [.v (.slice none 0 0), .v (.slice none 0 0), .v (.slice none 0 0)] 102), (5, .own 5 e5)]⟩, 6)
theorem E170 (x0 : Fw.Mach) (x1 : Int) (x2 : Int) (x3 : ByteArray) : D170 x0 x1 x2 x3 = ((D185 x0 x1).bind fun y0 => (D27 x2 0 y0.2.1).bind fun y1 => bif ((!y1.1) || (decide (x3 = (tx [])))) then (some (y0.1, (4, ()))) else bif (decide ((IntKind.wrap .i64 (x2 + (x3.size : Int))) > 64)) then (some (y0.1, (3, ()))) else gd (!(decide (8 = 0))) <| L170_1012 x1 x2 x3 y0.2.1 (IntKind.wrap .i64 (x2 + (x3.size : Int))) (IntKind.wrap .i64 (Int.tdiv x2 8)) y0.1.Store y0.1.Touch.Reads y0.1.Touch.Writes) := (Dn_eq _ _).trans (by kernel_rfl)
theorem P170_1012 (s1 : Int) (s2 : Int) (s3 : ByteArray) (s10 : Int) (s11 : Int) (s12 : Int) (e1 : List Fw.Cell) (e2 : List ByteArray) (e3 : List ByteArray) : L170_1012 s1 s2 s3 s10 s11 s12 e1 e2 e3 = (bif (decide ((IntKind.wrap .i64 (s12 * 8)) < s11)) then ((D186 (⟨e1, (⟨e2, e3⟩ : Fw.Touch)⟩ : Fw.Mach) s1 s12).bind fun y0 => L170_1036916 s1 s2 s3 s10 s11 s12 0 y0.1.Store y0.1.Touch.Reads y0.1.Touch.Writes ((sbytes y0.2.1).map fun x => x)) else L170_127 s1 s10 s11 e1 e2 e3) := (Ln_eq _ _ _).trans (by kernel_rfl)
theorem P170_127 (s1 : Int) (s10 : Int) (s11 : Int) (e1 : List Fw.Cell) (e2 : List ByteArray) (e3 : List ByteArray) : L170_127 s1 s10 s11 e1 e2 e3 = (bif (decide (s11 > s10)) then ((D112 (tx [105, 47]) s1 (tx [47, 115])).bind fun y0 => (D90 (⟨e1, (⟨e2, e3⟩ : Fw.Touch)⟩ : Fw.Mach) y0.1 s11).bind fun y1 => L170_255 y1.1.Store y1.1.Touch.Reads y1.1.Touch.Writes) else L170_255 e1 e2 e3) := (Ln_eq _ _ _).trans (by kernel_rfl)
theorem P170_1036916 (s1 : Int) (s2 : Int) (s3 : ByteArray) (s10 : Int) (s11 : Int) (s12 : Int) (s15 : Int) (e1 : List Fw.Cell) (e2 : List ByteArray) (e3 : List ByteArray) (e5 : List UInt8) : L170_1036916 s1 s2 s3 s10 s11 s12 s15 e1 e2 e3 e5 = (bif (decide (s15 < 8)) then (bif ((decide ((IntKind.wrap .i64 ((IntKind.wrap .i64 (s12 * 8)) + s15)) < s2)) || (decide ((IntKind.wrap .i64 ((IntKind.wrap .i64 (s12 * 8)) + s15)) ≥ s11))) then (L170_4147667 s1 s2 s3 s10 s11 s12 s15 e1 e2 e3 e5) else L170_265450648 s1 s2 s3 s10 s11 s12 s15 (IntKind.wrap .i64 ((IntKind.wrap .i64 (s12 * 8)) + s15)) e1 e2 e3 e5) else L170_129615 s1 s2 s3 s10 s11 s12 e1 e2 e3 e5) := (Ln_eq _ _ _).trans (by kernel_rfl)
theorem P170_255 (e1 : List Fw.Cell) (e2 : List ByteArray) (e3 : List ByteArray) : L170_255 e1 e2 e3 = (some ((⟨e1, (⟨e2, e3⟩ : Fw.Touch)⟩ : Fw.Mach), (0, ()))) := (Ln_eq _ _ _).trans (by kernel_rfl)
theorem P170_129615 (s1 : Int) (s2 : Int) (s3 : ByteArray) (s10 : Int) (s11 : Int) (s12 : Int) (e1 : List Fw.Cell) (e2 : List ByteArray) (e3 : List ByteArray) (e5 : List UInt8) : L170_129615 s1 s2 s3 s10 s11 s12 e1 e2 e3 e5 = ((D187 (⟨e1, (⟨e2, e3⟩ : Fw.Touch)⟩ : Fw.Mach) s1 s12 (bstr (e5.map fun x => x))).bind fun y0 => L170_4051 s1 s2 s3 s10 s11 s12 y0.1.Store y0.1.Touch.Reads y0.1.Touch.Writes) := (Ln_eq _ _ _).trans (by kernel_rfl)
theorem P170_265450648 (s1 : Int) (s2 : Int) (s3 : ByteArray) (s10 : Int) (s11 : Int) (s12 : Int) (s15 : Int) (s16 : Int) (e1 : List Fw.Cell) (e2 : List ByteArray) (e3 : List ByteArray) (e5 : List UInt8) : L170_265450648 s1 s2 s3 s10 s11 s12 s15 s16 e1 e2 e3 e5 = (bif (decide ((e5.length : Int) ≤ s15)) then (gd ((decide (((e5.length + 1) * 1) ≤ 140737488355328)) && (decide ((e5.length + 1) ≤ 9223372036854775807))) <| L170_265450648 s1 s2 s3 s10 s11 s12 s15 s16 e1 e2 e3 (e5 ++ [(u8of 0)])) else L170_66362663 s1 s2 s3 s10 s11 s12 s15 s16 e1 e2 e3 e5) := (Ln_eq _ _ _).trans (by kernel_rfl)
theorem P170_4147667 (s1 : Int) (s2 : Int) (s3 : ByteArray) (s10 : Int) (s11 : Int) (s12 : Int) (s15 : Int) (e1 : List Fw.Cell) (e2 : List ByteArray) (e3 : List ByteArray) (e5 : List UInt8) : L170_4147667 s1 s2 s3 s10 s11 s12 s15 e1 e2 e3 e5 = (L170_1036916 s1 s2 s3 s10 s11 s12 (IntKind.wrap .i64 (s15 + 1)) e1 e2 e3 e5) := (Ln_eq _ _ _).trans (by kernel_rfl)
theorem P170_4051 (s1 : Int) (s2 : Int) (s3 : ByteArray) (s10 : Int) (s11 : Int) (s12 : Int) (e1 : List Fw.Cell) (e2 : List ByteArray) (e3 : List ByteArray) : L170_4051 s1 s2 s3 s10 s11 s12 e1 e2 e3 = (L170_1012 s1 s2 s3 s10 s11 (IntKind.wrap .i64 (s12 + 1)) e1 e2 e3) := (Ln_eq _ _ _).trans (by kernel_rfl)
theorem P170_66362663 (s1 : Int) (s2 : Int) (s3 : ByteArray) (s10 : Int) (s11 : Int) (s12 : Int) (s15 : Int) (s16 : Int) (e1 : List Fw.Cell) (e2 : List ByteArray) (e3 : List ByteArray) (e5 : List UInt8) : L170_66362663 s1 s2 s3 s10 s11 s12 s15 s16 e1 e2 e3 e5 = (gd ((decide (0 ≤ (IntKind.wrap .i64 (s16 - s2)))) && (decide ((IntKind.wrap .i64 (s16 - s2)) < (s3.size : Int)))) <| gd ((decide (0 ≤ s15)) && (decide (s15 < (e5.length : Int)))) <| L170_4147667 s1 s2 s3 s10 s11 s12 s15 e1 e2 e3 (e5.set s15.toNat (u8of ((byteAt s3 (IntKind.wrap .i64 (s16 - s2)).toNat).toNat : Int)))) := (Ln_eq _ _ _).trans (by kernel_rfl)
noncomputable def L171_63 (s1 : Int) (s2 : Int) (s8 : Int) (s9 : Int) (e1 : List Fw.Cell) (e2 : List ByteArray) (e3 : List ByteArray) : Option (Fw.Mach × Int × Unit) := Ln 177 63 (⟨63, [(1, .ok (.v (.int .i64 s1))), (2, .ok (.v (.int .i64 s2))), (3, .ok (.pt 0 0)), (6, .ok (.pt 4 0)), (8, .ok (.v (.int .i64 s8))), (9, .ok (.v (.int .i64 s9)))], [(0, .var [.sl 1, .sl 2, .sl 3] 102), (1, .own 92 e1), (2, .own 9 e2), (3, .own 9 e3), (4, .var [.v (.slice none 0 0), .v (.slice none 0 0), .v (.slice none 0 0)] 102)]⟩, 5)
noncomputable def L171_504 (s1 : Int) (s2 : Int) (s8 : Int) (s9 : Int) (e1 : List Fw.Cell) (e2 : List ByteArray) (e3 : List ByteArray) : Option (Fw.Mach × Int × Unit) := Ln 177 504 (⟨63, [(1, .ok (.v (.int .i64 s1))), (2, .ok (.v (.int .i64 s2))), (3, .ok (.pt 0 0)), (6, .ok (.pt 4 0)), (8, .ok (.v (.int .i64 s8))), (9, .ok (.v (.int .i64 s9)))], [(0, .var [.sl 1, .sl 2, .sl 3] 102), (1, .own 92 e1), (2, .own 9 e2), (3, .own 9 e3), (4, .var [.v (.slice none 0 0), .v (.slice none 0 0), .v (.slice none 0 0)] 102)]⟩, 5)
noncomputable def L171_127 (s1 : Int) (s2 : Int) (e1 : List Fw.Cell) (e2 : List ByteArray) (e3 : List ByteArray) : Option (Fw.Mach × Int × Unit) := Ln 177 127 (⟨63, [(1, .ok (.v (.int .i64 s1))), (2, .ok (.v (.int .i64 s2))), (3, .ok (.pt 0 0)), (6, .ok (.pt 4 0))], [(0, .var [.sl 1, .sl 2, .sl 3] 102), (1, .own 92 e1), (2, .own 9 e2), (3, .own 9 e3), (4, .var [.v (.slice none 0 0), .v (.slice none 0 0), .v (.slice none 0 0)] 102)]⟩, 5)
theorem E171 (x0 : Fw.Mach) (x1 : Int) (x2 : Int) : D171 x0 x1 x2 = ((D185 x0 x1).bind fun y0 => (D27 x2 0 y0.2.1).bind fun y1 => bif (!y1.1) then (some (y0.1, (4, ()))) else gd (!(decide (8 = 0))) <| gd (!(decide (8 = 0))) <| bif (decide ((Int.tmod x2 8) > 0)) then ((D186 y0.1 x1 (IntKind.wrap .i64 (Int.tdiv x2 8))).bind fun y2 => gd (!(decide (8 = 0))) <| (D106 (Int.tmod x2 8) 0 (y2.2.1.size : Int)).bind fun y3 => gd ((decide (0 ≤ 0)) && ((decide (0 ≤ y3.1)) && (decide (y3.1 ≤ (y2.2.1.size : Int))))) <| (D187 y2.1 x1 (IntKind.wrap .i64 (Int.tdiv x2 8)) (cutS y2.2.1 (0 : Int).toNat y3.1.toNat)).bind fun y4 => L171_63 x1 x2 y0.2.1 (IntKind.wrap .i64 ((IntKind.wrap .i64 (Int.tdiv x2 8)) + 1)) y4.1.Store y4.1.Touch.Reads y4.1.Touch.Writes) else L171_63 x1 x2 y0.2.1 (IntKind.wrap .i64 (Int.tdiv x2 8)) y0.1.Store y0.1.Touch.Reads y0.1.Touch.Writes) := (Dn_eq _ _).trans (by kernel_rfl)
theorem P171_63 (s1 : Int) (s2 : Int) (s8 : Int) (s9 : Int) (e1 : List Fw.Cell) (e2 : List ByteArray) (e3 : List ByteArray) : L171_63 s1 s2 s8 s9 e1 e2 e3 = (L171_504 s1 s2 s8 s9 e1 e2 e3) := (Ln_eq _ _ _).trans (by kernel_rfl)
theorem P171_504 (s1 : Int) (s2 : Int) (s8 : Int) (s9 : Int) (e1 : List Fw.Cell) (e2 : List ByteArray) (e3 : List ByteArray) : L171_504 s1 s2 s8 s9 e1 e2 e3 = (bif (decide ((IntKind.wrap .i64 (s9 * 8)) < s8)) then ((D188 s1 s9).bind fun y0 => (D131 (⟨e1, (⟨e2, e3⟩ : Fw.Touch)⟩ : Fw.Mach) y0.1 (tx [])).bind fun y1 => L171_504 s1 s2 s8 (IntKind.wrap .i64 (s9 + 1)) y1.1.Store y1.1.Touch.Reads y1.1.Touch.Writes) else L171_127 s1 s2 e1 e2 e3) := (Ln_eq _ _ _).trans (by kernel_rfl)
theorem P171_127 (s1 : Int) (s2 : Int) (e1 : List Fw.Cell) (e2 : List ByteArray) (e3 : List ByteArray) : L171_127 s1 s2 e1 e2 e3 = ((D112 (tx [105, 47]) s1 (tx [47, 115])).bind fun y0 => (D90 (⟨e1, (⟨e2, e3⟩ : Fw.Touch)⟩ : Fw.Mach) y0.1 s2).bind fun y1 => some (y1.1, (0, ()))) := (Ln_eq _ _ _).trans (by kernel_rfl)
theorem E172 (x0 : Int) (x1 : ByteArray) : D172 x0 x1 = ((D112 (tx [112, 47]) x0 x1).bind fun y0 => some (y0.1, ())) := (Dn_eq _ _).trans (by kernel_rfl)
theorem E173 (x0 : Fw.Mach) (x1 : Int) : D173 x0 x1 = ((D172 x1 (tx [47, 111])).bind fun y0 => (D88 x0 y0.1).bind fun y1 => some (y1.1, ((decide (y1.2.1 = 1)), ()))) := (Dn_eq _ _).trans (by kernel_rfl)
theorem E174 (x0 : Int) (x1 : Int) : D174 x0 x1 = ((D172 x0 (tx [47, 113, 47])).bind fun y0 => (D112 y0.1 x1 (tx [])).bind fun y1 => some (y1.1, ())) := (Dn_eq _ _).trans (by kernel_rfl)
theorem E175 (x0 : Int) (x1 : ByteArray) : D175 x0 x1 = ((D112 (tx [103, 47]) x0 x1).bind fun y0 => some (y0.1, ())) := (Dn_eq _ _).trans (by kernel_rfl)
theorem E176 (x0 : Int) (x1 : Int) : D176 x0 x1 = ((D175 x0 (tx [47, 113, 47])).bind fun y0 => (D112 y0.1 x1 (tx [])).bind fun y1 => some (y1.1, ())) := (Dn_eq _ _).trans (by kernel_rfl)
theorem E177 (x0 : Fw.Mach) (x1 : ByteArray) : D177 x0 x1 = (gd (decide ((x1.size + (tx [42]).size) ≤ 9223372036854775807)) <| (D135 x0.Touch.Reads (x1 ++ (tx [42]))).bind fun y0 => (D189 x0.Store x1).bind fun y1 => some ((⟨x0.Store, (⟨y0.1, x0.Touch.Writes⟩ : Fw.Touch)⟩ : Fw.Mach), (y1.1, ()))) := (Dn_eq _ _).trans (by kernel_rfl)
theorem E178 (x0 : Int) : D178 x0 = ((D112 (tx [109, 47]) x0 (tx [47])).bind fun y0 => some (y0.1, ())) := (Dn_eq _ _).trans (by kernel_rfl)
noncomputable def L179_116 (s1 : Int) (s2 : Int) (s8 : Int) (e1 : List Fw.Cell) (e2 : List ByteArray) (e3 : List ByteArray) (e5 : List ByteArray) : Option (Fw.Mach × Unit) := Ln 190 116 (⟨47, [(1, .ok (.v (.int .i64 s1))), (2, .ok (.v (.int .i64 s2))), (3, .ok (.pt 0 0)), (6, .ok (.pt 4 0)), (7, .ok (.sl 5)), (8, .ok (.v (.int .i64 s8)))], [(0, .var [.sl 1, .sl 2, .sl 3] 102), (1, .own 92 e1), (2, .own 9 e2), (3, .own 9 e3), (4, .var [.v (.slice none 0 0), .v (.slice none 0 0), .v (.slice none 0 0)] 102), (5, .own 9 e5)]⟩, 6)
noncomputable def L179_15 (e1 : List Fw.Cell) (e2 : List ByteArray) (e3 : List ByteArray) : Option (Fw.Mach × Unit) := Ln 190 15 (⟨47, [(3, .ok (.pt 0 0)), (6, .ok (.pt 4 0))], [(0, .var [.sl 1, .sl 2, .sl 3] 102), (1, .own 92 e1), (2, .own 9 e2), (3, .own 9 e3), (4, .var [.v (.slice none 0 0), .v (.slice none 0 0), .v (.slice none 0 0)] 102)]⟩, 5)
theorem E179 (x0 : Fw.Mach) (x1 : Int) (x2 : Int) : D179 x0 x1 x2 = ((D178 x1).bind fun y0 => (D177 x0 y0.1).bind fun y1 => L179_116 x1 x2 0 y1.1.Store y1.1.Touch.Reads y1.1.Touch.Writes y1.2.1) := (Dn_eq _ _).trans (by kernel_rfl)
theorem P179_116 (s1 : Int) (s2 : Int) (s8 : Int) (e1 : List Fw.Cell) (e2 : List ByteArray) (e3 : List ByteArray) (e5 : List ByteArray) : L179_116 s1 s2 s8 e1 e2 e3 e5 = (bif (decide (s8 < (e5.length : Int))) then (gd ((decide (0 ≤ s8)) && (decide (s8 < (e5.length : Int)))) <| (D130 (⟨e1, (⟨e2, e3⟩ : Fw.Touch)⟩ : Fw.Mach) (nth e5 s8.toNat)).bind fun y0 => (D178 s2).bind fun y1 => gd ((decide (0 ≤ s8)) && (decide (s8 < (e5.length : Int)))) <| (D178 s1).bind fun y2 => gd ((decide (0 ≤ (y2.1.size : Int))) && ((decide ((y2.1.size : Int) ≤ ((nth e5 s8.toNat).size : Int))) && (decide (((nth e5 s8.toNat).size : Int) ≤ ((nth e5 s8.toNat).size : Int))))) <| gd (decide ((y1.1.size + (cutS (nth e5 s8.toNat) (y2.1.size : Int).toNat ((nth e5 s8.toNat).size : Int).toNat).size) ≤ 9223372036854775807)) <| (D131 y0.1 (y1.1 ++ (cutS (nth e5 s8.toNat) (y2.1.size : Int).toNat ((nth e5 s8.toNat).size : Int).toNat)) y0.2.1).bind fun y3 => L179_116 s1 s2 (IntKind.wrap .i64 (s8 + 1)) y3.1.Store y3.1.Touch.Reads y3.1.Touch.Writes e5) else L179_15 e1 e2 e3) := (Ln_eq _ _ _).trans (by kernel_rfl)
theorem P179_15 (e1 : List Fw.Cell) (e2 : List ByteArray) (e3 : List ByteArray) : L179_15 e1 e2 e3 = (some ((⟨e1, (⟨e2, e3⟩ : Fw.Touch)⟩ : Fw.Mach), ())) := (Ln_eq _ _ _).trans (by kernel_rfl)
theorem E180 (x0 : Fw.Mach) (x1 : Int) (x2 : Int) : D180 x0 x1 x2 = ((D136 x0 x1).bind fun y0 => bif (!(decide (y0.2.1 = 1))) then (some (y0.1, (2, ()))) else (D27 x2 0 100).bind fun y1 => bif (!y1.1) then (some (y0.1, (4, ()))) else (D91 x1 (tx [47, 115])).bind fun y2 => (D90 y0.1 y2.1 2).bind fun y3 => (D91 x1 (tx [47, 120])).bind fun y4 => (D90 y3.1 y4.1 (IntKind.wrap .i64 (x2 + 1))).bind fun y5 => some (y5.1, (0, ()))) := (Dn_eq _ _).trans (by kernel_rfl)
theorem E181 (x0 : Fw.Mach) (x1 : Int) : D181 x0 x1 = ((D178 x1).bind fun y0 => (D167 x0 y0.1).bind fun y1 => some (y1.1, ())) := (Dn_eq _ _).trans (by kernel_rfl)
theorem E182 (x0 : Fw.Mach) (x1 : Int) (x2 : Int) : D182 x0 x1 x2 = ((D91 x2 (tx [47, 112])).bind fun y0 => (D88 x0 y0.1).bind fun y1 => bif ((decide (y1.2.1 = 0)) || (!(decide (y1.2.1 = x1)))) then (some (y1.1, (0, (2, ())))) else (D136 y1.1 x2).bind fun y2 => bif (decide (y2.2.1 = 1)) then (some (y2.1, (0, (5, ())))) else bif (!(decide (y2.2.1 = 2))) then (some (y2.1, (0, (2, ())))) else (D91 x2 (tx [47, 120])).bind fun y3 => (D88 y2.1 y3.1).bind fun y4 => (D91 x2 (tx [47])).bind fun y5 => (D167 y4.1 y5.1).bind fun y6 => some (y6.1, ((IntKind.wrap .i64 (y4.2.1 - 1)), (0, ())))) := (Dn_eq _ _).trans (by kernel_rfl)
noncomputable def L183_244 (s1 : Int) (s8 : Int) (e1 : List Fw.Cell) (e2 : List ByteArray) (e3 : List ByteArray) (e5 : List ByteArray) (e6 : List Int) : Option (Fw.Mach × (List Int) × Unit) := Ln 194 244 (⟨58, [(1, .ok (.v (.int .i64 s1))), (2, .ok (.pt 0 0)), (4, .ok (.pt 4 0)), (6, .ok (.sl 5)), (7, .ok (.sl 6)), (8, .ok (.v (.int .i64 s8)))], [(0, .var [.sl 1, .sl 2, .sl 3] 102), (1, .own 92 e1), (2, .own 9 e2), (3, .own 9 e3), (4, .var [.v (.slice none 0 0), .v (.slice none 0 0), .v (.slice none 0 0)] 102), (5, .own 9 e5), (6, .own 3 e6)]⟩, 7)
noncomputable def L183_31 (e1 : List Fw.Cell) (e2 : List ByteArray) (e3 : List ByteArray) (e5 : List Int) : Option (Fw.Mach × (List Int) × Unit) := Ln 194 31 (⟨58, [(2, .ok (.pt 0 0)), (4, .ok (.pt 4 0)), (7, .ok (.sl 5))], [(0, .var [.sl 1, .sl 2, .sl 3] 102), (1, .own 92 e1), (2, .own 9 e2), (3, .own 9 e3), (4, .var [.v (.slice none 0 0), .v (.slice none 0 0), .v (.slice none 0 0)] 102), (5, .own 3 e5)]⟩, 6)
noncomputable def L183_979 (s1 : Int) (s8 : Int) (e1 : List Fw.Cell) (e2 : List ByteArray) (e3 : List ByteArray) (e5 : List ByteArray) (e6 : List Int) : Option (Fw.Mach × (List Int) × Unit) := Ln 194 979 (⟨58, [(1, .ok (.v (.int .i64 s1))), (2, .ok (.pt 0 0)), (4, .ok (.pt 4 0)), (6, .ok (.sl 5)), (7, .ok (.sl 6)), (8, .ok (.v (.int .i64 s8)))], [(0, .var [.sl 1, .sl 2, .sl 3] 102), (1, .own 92 e1), (2, .own 9 e2), (3, .own 9 e3), (4, .var [.v (.slice none 0 0), .v (.slice none 0 0), .v (.slice none 0 0)] 102), (5, .own 9 e5), (6, .own 3 e6)]⟩, 7)
theorem E183 (x0 : Fw.Mach) (x1 : Int) : D183 x0 x1 = ((D177 x0 (tx [114, 47])).bind fun y0 => L183_244 x1 0 y0.1.Store y0.1.Touch.Reads y0.1.Touch.Writes y0.2.1 []) := (Dn_eq _ _).trans (by kernel_rfl)
theorem P183_244 (s1 : Int) (s8 : Int) (e1 : List Fw.Cell) (e2 : List ByteArray) (e3 : List ByteArray) (e5 : List ByteArray) (e6 : List Int) : L183_244 s1 s8 e1 e2 e3 e5 e6 = (bif (decide (s8 < (e5.length : Int))) then (gd ((decide (0 ≤ s8)) && (decide (s8 < (e5.length : Int)))) <| gd (((decide (0 ≤ (IntKind.wrap .i64 (((nth e5 s8.toNat).size : Int) - 2)))) && ((decide ((IntKind.wrap .i64 (((nth e5 s8.toNat).size : Int) - 2)) ≤ ((nth e5 s8.toNat).size : Int))) && (decide (((nth e5 s8.toNat).size : Int) ≤ ((nth e5 s8.toNat).size : Int))))) || (!(!(decide (((nth e5 s8.toNat).size : Int) < 5))))) <| bif ((decide (((nth e5 s8.toNat).size : Int) < 5)) || (!(decide ((cutS (nth e5 s8.toNat) (IntKind.wrap .i64 (((nth e5 s8.toNat).size : Int) - 2)).toNat ((nth e5 s8.toNat).size : Int).toNat) = (tx [47, 112]))))) then (L183_979 s1 s8 e1 e2 e3 e5 e6) else (D88 (⟨e1, (⟨e2, e3⟩ : Fw.Touch)⟩ : Fw.Mach) (nth e5 s8.toNat)).bind fun y0 => bif (decide (y0.2.1 = s1)) then (gd ((decide (0 ≤ 2)) && ((decide (2 ≤ (IntKind.wrap .i64 (((nth e5 s8.toNat).size : Int) - 2)))) && (decide ((IntKind.wrap .i64 (((nth e5 s8.toNat).size : Int) - 2)) ≤ ((nth e5 s8.toNat).size : Int))))) <| (D111 (cutS (nth e5 s8.toNat) (2 : Int).toNat (IntKind.wrap .i64 (((nth e5 s8.toNat).size : Int) - 2)).toNat)).bind fun y1 => gd ((decide (((e6.length + 1) * 8) ≤ 140737488355328)) && (decide ((e6.length + 1) ≤ 9223372036854775807))) <| L183_979 s1 s8 y0.1.Store y0.1.Touch.Reads y0.1.Touch.Writes e5 (e6 ++ [y1.1])) else L183_979 s1 s8 y0.1.Store y0.1.Touch.Reads y0.1.Touch.Writes e5 e6) else L183_31 e1 e2 e3 e6) := (Ln_eq _ _ _).trans (by kernel_rfl)
theorem P183_31 (e1 : List Fw.Cell) (e2 : List ByteArray) (e3 : List ByteArray) (e5 : List Int) : L183_31 e1 e2 e3 e5 = (some ((⟨e1, (⟨e2, e3⟩ : Fw.Touch)⟩ : Fw.Mach), (e5, ()))) := (Ln_eq _ _ _).trans (by kernel_rfl)
theorem P183_979 (s1 : Int) (s8 : Int) (e1 : List Fw.Cell) (e2 : List ByteArray) (e3 : List ByteArray) (e5 : List ByteArray) (e6 : List Int) : L183_979 s1 s8 e1 e2 e3 e5 e6 = (L183_244 s1 (IntKind.wrap .i64 (s8 + 1)) e1 e2 e3 e5 e6) := (Ln_eq _ _ _).trans (by kernel_rfl)
theorem E185 (x0 : Fw.Mach) (x1 : Int) : D185 x0 x1 = ((D112 (tx [105, 47]) x1 (tx [47, 115])).bind fun y0 => (D88 x0 y0.1).bind fun y1 => some (y1.1, (y1.2.1, ()))) := (Dn_eq _ _).trans (by kernel_rfl)
theorem E186 (x0 : Fw.Mach) (x1 : Int) (x2 : Int) : D186 x0 x1 x2 = ((D188 x1 x2).bind fun y0 => (D130 x0 y0.1).bind fun y1 => (D113 y1.2.1).bind fun y2 => bif (!y2.2.1) then (some (y1.1, ((tx []), ()))) else some (y1.1, (y2.1, ()))) := (Dn_eq _ _).trans (by kernel_rfl)
theorem E187 (x0 : Fw.Mach) (x1 : Int) (x2 : Int) (x3 : ByteArray) : D187 x0 x1 x2 x3 = ((D157 x3).bind fun y0 => (D188 x1 x2).bind fun y1 => (D131 x0 y1.1 y0.1).bind fun y2 => some (y2.1, ())) := (Dn_eq _ _).trans (by kernel_rfl)
theorem E188 (x0 : Int) (x1 : Int) : D188 x0 x1 = ((D112 (tx [105, 47]) x0 (tx [47, 98, 47])).bind fun y0 => (D112 y0.1 x1 (tx [])).bind fun y1 => some (y1.1, ())) := (Dn_eq _ _).trans (by kernel_rfl)
end Go.Proofs.YtlkjmghomjkcmaaGreatDoor.Ri

namespace Go.Proofs.YtlkjmghomjkcmaaGreatDoor.Ri
open Go.Proofs.YtlkjmghomjkcmaaGreatDoor.Fw
open Go.RowKit
set_option linter.unusedVariables false
set_option maxRecDepth 100000
noncomputable def L189_116 (s0 : List Fw.Cell) (s1 : ByteArray) (s6 : Int) (e0 : List ByteArray) : Option ((List ByteArray) × Unit) := Ln 217 116 (⟨30, [(0, .ok (.ro 92 s0)), (1, .ok (.v (.string s1))), (5, .ok (.sl 0)), (6, .ok (.v (.int .i64 s6)))], [(0, .own 9 e0)]⟩, 1)
noncomputable def L189_15 (e0 : List ByteArray) : Option ((List ByteArray) × Unit) := Ln 217 15 (⟨30, [(5, .ok (.sl 0))], [(0, .own 9 e0)]⟩, 1)
noncomputable def L189_467 (s0 : List Fw.Cell) (s1 : ByteArray) (s6 : Int) (e0 : List ByteArray) : Option ((List ByteArray) × Unit) := Ln 217 467 (⟨30, [(0, .ok (.ro 92 s0)), (1, .ok (.v (.string s1))), (5, .ok (.sl 0)), (6, .ok (.v (.int .i64 s6)))], [(0, .own 9 e0)]⟩, 1)
theorem E189 (x0 : List Fw.Cell) (x1 : ByteArray) : D189 x0 x1 = (L189_116 x0 x1 0 []) := (Dn_eq _ _).trans (by kernel_rfl)
theorem P189_116 (s0 : List Fw.Cell) (s1 : ByteArray) (s6 : Int) (e0 : List ByteArray) : L189_116 s0 s1 s6 e0 = (bif (decide (s6 < (s0.length : Int))) then (gd ((decide (0 ≤ s6)) && (decide (s6 < (s0.length : Int)))) <| (D191 (nth s0 s6.toNat).Key s1).bind fun y0 => bif y0.1 then (gd ((decide (0 ≤ s6)) && (decide (s6 < (s0.length : Int)))) <| gd ((decide (((e0.length + 1) * 16) ≤ 140737488355328)) && (decide ((e0.length + 1) ≤ 9223372036854775807))) <| L189_467 s0 s1 s6 (e0 ++ [(nth s0 s6.toNat).Key])) else L189_467 s0 s1 s6 e0) else L189_15 e0) := (Ln_eq _ _ _).trans (by kernel_rfl)
theorem P189_15 (e0 : List ByteArray) : L189_15 e0 = (some (e0, ())) := (Ln_eq _ _ _).trans (by kernel_rfl)
theorem P189_467 (s0 : List Fw.Cell) (s1 : ByteArray) (s6 : Int) (e0 : List ByteArray) : L189_467 s0 s1 s6 e0 = (L189_116 s0 s1 (IntKind.wrap .i64 (s6 + 1)) e0) := (Ln_eq _ _ _).trans (by kernel_rfl)
theorem E191 (x0 : ByteArray) (x1 : ByteArray) : D191 x0 x1 = (gd (((decide (0 ≤ 0)) && ((decide (0 ≤ (x1.size : Int))) && (decide ((x1.size : Int) ≤ (x0.size : Int))))) || (!(decide ((x0.size : Int) ≥ (x1.size : Int))))) <| some (((decide ((x0.size : Int) ≥ (x1.size : Int))) && (decide ((cutS x0 (0 : Int).toNat (x1.size : Int).toNat) = x1))), ())) := (Dn_eq _ _).trans (by kernel_rfl)
noncomputable def L2051_52 (s3 : Int) (e0_0 : List Fw.Cell) (e0_1 : List Fw.Tx) (e0_2 : List Fw.Slot) (e0_3 : ByteArray) (e0_4 : Int) (e0_5 : Int) (e0_6 : Int) (e0_7 : Int) (e0_8 : List Fw.Entry) (e0_9 : List ByteArray) (e0_10 : Bool) : Option (Bool × Unit) := Ln 5 52 (⟨29, [(1, .ok (.pt 0 0)), (3, .ok (.v (.int .i64 s3)))], [(0, .var [.ro 92 e0_0, .ro 58 e0_1, .ro 132 e0_2, .v (.string e0_3), .v (.int .i64 e0_4), .v (.int .i64 e0_5), .v (.int .i64 e0_6), .v (.int .i64 e0_7), .ro 98 e0_8, .ro 9 e0_9, .v (.bool e0_10)] 43)]⟩, 1)
noncomputable def L2051_7  : Option (Bool × Unit) := Ln 5 7 (⟨29, [], []⟩, 0)
theorem E2051 (x0 : Fw.Kernel) : D2051 x0 = (L2051_52 0 x0.Store x0.Txs x0.Disk.Slots x0.Disk.Journal.Text x0.Disk.Journal.Sure x0.Seq x0.Next x0.Time x0.History x0.Seen x0.Room) := (Dn_eq _ _).trans (by kernel_rfl)
theorem P2051_52 (s3 : Int) (e0_0 : List Fw.Cell) (e0_1 : List Fw.Tx) (e0_2 : List Fw.Slot) (e0_3 : ByteArray) (e0_4 : Int) (e0_5 : Int) (e0_6 : Int) (e0_7 : Int) (e0_8 : List Fw.Entry) (e0_9 : List ByteArray) (e0_10 : Bool) : L2051_52 s3 e0_0 e0_1 e0_2 e0_3 e0_4 e0_5 e0_6 e0_7 e0_8 e0_9 e0_10 = (bif (decide (s3 < (e0_1.length : Int))) then (gd ((decide (0 ≤ s3)) && (decide (s3 < (e0_1.length : Int)))) <| gd (((decide (0 ≤ s3)) && (decide (s3 < (e0_1.length : Int)))) || (!(decide ((nth e0_1 s3.toNat).State = 1)))) <| bif (decide ((nth e0_1 s3.toNat).State = 1)) then ((D2123 e0_0 (nth e0_1 s3.toNat)).bind fun y0 => bif (!y0.1) then (some (false, ())) else L2051_52 (IntKind.wrap .i64 (s3 + 1)) e0_0 e0_1 e0_2 e0_3 e0_4 e0_5 e0_6 e0_7 e0_8 e0_9 e0_10) else L2051_52 (IntKind.wrap .i64 (s3 + 1)) e0_0 e0_1 e0_2 e0_3 e0_4 e0_5 e0_6 e0_7 e0_8 e0_9 e0_10) else L2051_7) := (Ln_eq _ _ _).trans (by kernel_rfl)
theorem P2051_7  : L2051_7 = (some (true, ())) := (Ln_eq _ _ _).trans (by kernel_rfl)
theorem E2053 (x0 : Fw.Kernel) : D2053 x0 = ((D4081 x0.Txs x0).bind fun y0 => some ((!y0.1), ())) := (Dn_eq _ _).trans (by kernel_rfl)
theorem E2078 (x0 : List Fw.Cell) (x1 : ByteArray) : D2078 x0 x1 = ((D2180 x0 x1).bind fun y0 => bif (decide (y0.1 ≥ 0)) then (gd ((decide (0 ≤ y0.1)) && (decide (y0.1 < (x0.length : Int)))) <| some ((nth x0 y0.1.toNat).Val, ())) else some ((tx []), ())) := (Dn_eq _ _).trans (by kernel_rfl)
theorem E2079 (x0 : Int) (x1 : ByteArray) : D2079 x0 x1 = ((D2181 (tx [114, 47]) x0 x1).bind fun y0 => some (y0.1, ())) := (Dn_eq _ _).trans (by kernel_rfl)
theorem E2080 (x0 : Int) : D2080 x0 = ((D2182 x0).bind fun y0 => some (y0.1, ())) := (Dn_eq _ _).trans (by kernel_rfl)
theorem E2090 (x0 : Int) (x1 : Int) (x2 : Int) : D2090 x0 x1 x2 = (some (((decide (x0 ≥ x1)) && (decide (x0 ≤ x2))), ())) := (Dn_eq _ _).trans (by kernel_rfl)
theorem E2101 (x0 : List Fw.Answer) (x1 : List Fw.Answer) : D2101 x0 x1 = ((D2204 x0 x1).bind fun y0 => some (y0.1, ())) := (Dn_eq _ _).trans (by kernel_rfl)
theorem E2106 (x0 : ByteArray) : D2106 x0 = (bif (decide ((x0.size : Int) > 20000)) then (some ((tx []), (false, ()))) else (D2213 ((sbytes x0).map fun x => x)).bind fun y0 => some (y0.1, (true, ()))) := (Dn_eq _ _).trans (by kernel_rfl)
theorem E2123 (x0 : List Fw.Cell) (x1 : Fw.Tx) : D2123 x0 x1 = ((D129 x1).bind fun y0 => (D134 x0 y0.1).bind fun y1 => (D2235 y1.2.1 x1.Answers).bind fun y2 => bif y2.1 then ((D2236 y1.2.2.1.Reads x1.Touch.Reads).bind fun y3 => bif y3.1 then ((D2236 y1.2.2.1.Writes x1.Touch.Writes).bind fun y4 => some (y4.1, ())) else some (false, ())) else some (false, ())) := (Dn_eq _ _).trans (by kernel_rfl)
theorem E2129 (x0 : Fw.Tx) (x1 : Fw.Kernel) : D2129 x0 x1 = (bif (decide (x0.State = 1)) then ((D2130 x1.Store x0).bind fun y0 => some ((!y0.1), ())) else some (false, ())) := (Dn_eq _ _).trans (by kernel_rfl)
theorem E2130 (x0 : List Fw.Cell) (x1 : Fw.Tx) : D2130 x0 x1 = ((D2202 x0).bind fun y0 => (D2165 x1).bind fun y1 => (D2203 y0.1 y1.1).bind fun y2 => (D2101 y2.1 x1.Answers).bind fun y3 => bif y3.1 then ((D2242 y2.2.1.Touch.Reads x1.Touch.Reads).bind fun y4 => bif y4.1 then ((D2242 y2.2.1.Touch.Writes x1.Touch.Writes).bind fun y5 => some (y5.1, ())) else some (false, ())) else some (false, ())) := (Dn_eq _ _).trans (by kernel_rfl)
theorem E2142 (x0 : List ByteArray) (x1 : ByteArray) : D2142 x0 x1 = ((D2253 x0 x1).bind fun y0 => some ((decide (y0.1 ≥ 0)), ())) := (Dn_eq _ _).trans (by kernel_rfl)
noncomputable def L2165_116 (s7 : List Fw.Call) (s8 : Int) (s9 : Int) (e0_0 : Int) (e0_1 : Int) (e0_2 : Int) (e0_3 : Int) (e0_4 : List Fw.Call) (e0_5 : List Fw.Answer) (e0_6 : List ByteArray) (e0_7 : List ByteArray) (e0_8 : List Int) (e0_9 : Int) : Option ((List Fw.Step) × Unit) := Ln 45 116 (⟨22, [(1, .ok (.pt 0 0)), (3, .ok (.v (.slice none 0 0))), (7, .ok (.ro 123 s7)), (8, .ok (.v (.int .i64 s8))), (9, .ok (.v (.int .i64 s9)))], [(0, .var [.v (.int .i64 e0_0), .v (.int .i64 e0_1), .v (.int .i64 e0_2), .v (.int .i64 e0_3), .ro 123 e0_4, .ro 119 e0_5, .ro 9 e0_6, .ro 9 e0_7, .ro 3 e0_8, .v (.int .i64 e0_9)] 58)]⟩, 1)
noncomputable def L2165_15  : Option ((List Fw.Step) × Unit) := Ln 45 15 (⟨22, [(3, .ok (.v (.slice none 0 0)))], []⟩, 0)
noncomputable def L2165_116b (s7 : List Fw.Call) (s8 : Int) (s9 : Int) (e0_0 : Int) (e0_1 : Int) (e0_2 : Int) (e0_3 : Int) (e0_4 : List Fw.Call) (e0_5 : List Fw.Answer) (e0_6 : List ByteArray) (e0_7 : List ByteArray) (e0_8 : List Int) (e0_9 : Int) (e1 : List Fw.Step) : Option ((List Fw.Step) × Unit) := Ln 45 116 (⟨22, [(1, .ok (.pt 0 0)), (3, .ok (.sl 1)), (7, .ok (.ro 123 s7)), (8, .ok (.v (.int .i64 s8))), (9, .ok (.v (.int .i64 s9)))], [(0, .var [.v (.int .i64 e0_0), .v (.int .i64 e0_1), .v (.int .i64 e0_2), .v (.int .i64 e0_3), .ro 123 e0_4, .ro 119 e0_5, .ro 9 e0_6, .ro 9 e0_7, .ro 3 e0_8, .v (.int .i64 e0_9)] 58), (1, .own 125 e1)]⟩, 2)
noncomputable def L2165_15b (e0 : List Fw.Step) : Option ((List Fw.Step) × Unit) := Ln 45 15 (⟨22, [(3, .ok (.sl 0))], [(0, .own 125 e0)]⟩, 1)
theorem E2165 (x0 : Fw.Tx) : D2165 x0 = (L2165_116 x0.Calls (x0.Calls.length : Int) 0 x0.Id x0.Age x0.Proc x0.Began x0.Calls x0.Answers x0.Touch.Reads x0.Touch.Writes x0.Marks x0.State) := (Dn_eq _ _).trans (by kernel_rfl)
theorem P2165_116 (s7 : List Fw.Call) (s8 : Int) (s9 : Int) (e0_0 : Int) (e0_1 : Int) (e0_2 : Int) (e0_3 : Int) (e0_4 : List Fw.Call) (e0_5 : List Fw.Answer) (e0_6 : List ByteArray) (e0_7 : List ByteArray) (e0_8 : List Int) (e0_9 : Int) : L2165_116 s7 s8 s9 e0_0 e0_1 e0_2 e0_3 e0_4 e0_5 e0_6 e0_7 e0_8 e0_9 = (bif (decide (s9 < s8)) then (gd ((decide (0 ≤ s9)) && (decide (s9 < (s7.length : Int)))) <| gd ((decide ((1 * 80) ≤ 140737488355328)) && (decide (1 ≤ 9223372036854775807))) <| L2165_116b s7 s8 (IntKind.wrap .i64 (s9 + 1)) e0_0 e0_1 e0_2 e0_3 e0_4 e0_5 e0_6 e0_7 e0_8 e0_9 [(⟨e0_2, (nth s7 s9.toNat)⟩ : Fw.Step)]) else L2165_15) := (Ln_eq _ _ _).trans (by kernel_rfl)
theorem P2165_15  : L2165_15 = (some ([], ())) := (Ln_eq _ _ _).trans (by kernel_rfl)
theorem P2165_116b (s7 : List Fw.Call) (s8 : Int) (s9 : Int) (e0_0 : Int) (e0_1 : Int) (e0_2 : Int) (e0_3 : Int) (e0_4 : List Fw.Call) (e0_5 : List Fw.Answer) (e0_6 : List ByteArray) (e0_7 : List ByteArray) (e0_8 : List Int) (e0_9 : Int) (e1 : List Fw.Step) : L2165_116b s7 s8 s9 e0_0 e0_1 e0_2 e0_3 e0_4 e0_5 e0_6 e0_7 e0_8 e0_9 e1 = (bif (decide (s9 < s8)) then (gd ((decide (0 ≤ s9)) && (decide (s9 < (s7.length : Int)))) <| gd ((decide (((e1.length + 1) * 80) ≤ 140737488355328)) && (decide ((e1.length + 1) ≤ 9223372036854775807))) <| L2165_116b s7 s8 (IntKind.wrap .i64 (s9 + 1)) e0_0 e0_1 e0_2 e0_3 e0_4 e0_5 e0_6 e0_7 e0_8 e0_9 (e1 ++ [(⟨e0_2, (nth s7 s9.toNat)⟩ : Fw.Step)])) else L2165_15b e1) := (Ln_eq _ _ _).trans (by kernel_rfl)
theorem P2165_15b (e0 : List Fw.Step) : L2165_15b e0 = (some (e0, ())) := (Ln_eq _ _ _).trans (by kernel_rfl)
theorem E2167 (x0 : Fw.Mach) (x1 : Int) : D2167 x0 x1 = ((D2295 x0 (tx [99, 47, 112, 114, 111, 99])).bind fun y0 => bif (decide (y0.1 ≥ 12)) then (some (0, (3, (y0.2.1, ())))) else (D2296 y0.2.1 (tx [99, 47, 112, 114, 111, 99])).bind fun y1 => (D2079 y1.1 (tx [47, 115])).bind fun y2 => (D2297 y1.2.1 y2.1 1).bind fun y3 => (D2079 y1.1 (tx [47, 112])).bind fun y4 => (D2297 y3.1 y4.1 x1).bind fun y5 => some (y1.1, (0, (y5.1, ())))) := (Dn_eq _ _).trans (by kernel_rfl)
theorem E2168 (x0 : List Fw.Cell) : D2168 x0 = (cloneX (x0, ())) := (Dn_eq _ _).trans (by kernel_rfl)
theorem E2180 (x0 : List Fw.Cell) (x1 : ByteArray) : D2180 x0 x1 = ((D2303 x0 x1).bind fun y0 => some (y0.1, ())) := (Dn_eq _ _).trans (by kernel_rfl)
theorem E2181 (x0 : ByteArray) (x1 : Int) (x2 : ByteArray) : D2181 x0 x1 x2 = ((D2080 x1).bind fun y0 => gd (decide ((x0.size + y0.1.size) ≤ 9223372036854775807)) <| gd (decide (((x0 ++ y0.1).size + x2.size) ≤ 9223372036854775807)) <| some (((x0 ++ y0.1) ++ x2), ())) := (Dn_eq _ _).trans (by kernel_rfl)
theorem E2182 (x0 : Int) : D2182 x0 = (itoaX (x0, ())) := (Dn_eq _ _).trans (by kernel_rfl)
theorem E2194 (x0 : ByteArray) : D2194 x0 = ((D2312 x0 (tx [45])).bind fun y0 => bif (!y0.2.1) then (some ((tx []), ())) else (D2313 y0.1).bind fun y1 => some (y1.1, ())) := (Dn_eq _ _).trans (by kernel_rfl)
theorem E2202 (x0 : List Fw.Cell) : D2202 x0 = ((D2168 x0).bind fun y0 => some ((⟨y0.1, (⟨[], []⟩ : Fw.Touch)⟩ : Fw.Mach), ())) := (Dn_eq _ _).trans (by kernel_rfl)
noncomputable def L2203_116 (s8 : List Fw.Step) (s9 : Int) (s10 : Int) (e1 : List Fw.Cell) (e2 : List ByteArray) (e3 : List ByteArray) : Option ((List Fw.Answer) × Fw.Mach × Unit) := Ln 44 116 (⟨25, [(0, .ok (.pt 0 0)), (5, .ok (.v (.slice none 0 0))), (8, .ok (.ro 125 s8)), (9, .ok (.v (.int .i64 s9))), (10, .ok (.v (.int .i64 s10)))], [(0, .var [.sl 1, .sl 2, .sl 3] 102), (1, .own 92 e1), (2, .own 9 e2), (3, .own 9 e3)]⟩, 4)
noncomputable def L2203_15 (e1 : List Fw.Cell) (e2 : List ByteArray) (e3 : List ByteArray) : Option ((List Fw.Answer) × Fw.Mach × Unit) := Ln 44 15 (⟨25, [(0, .ok (.pt 0 0)), (5, .ok (.v (.slice none 0 0)))], [(0, .var [.sl 1, .sl 2, .sl 3] 102), (1, .own 92 e1), (2, .own 9 e2), (3, .own 9 e3)]⟩, 4)
noncomputable def L2203_116b (s8 : List Fw.Step) (s9 : Int) (s10 : Int) (e1 : List Fw.Cell) (e2 : List ByteArray) (e3 : List ByteArray) (e4 : List Fw.Answer) : Option ((List Fw.Answer) × Fw.Mach × Unit) := Ln 44 116 (⟨25, [(0, .ok (.pt 0 0)), (5, .ok (.sl 4)), (8, .ok (.ro 125 s8)), (9, .ok (.v (.int .i64 s9))), (10, .ok (.v (.int .i64 s10)))], [(0, .var [.sl 1, .sl 2, .sl 3] 102), (1, .own 92 e1), (2, .own 9 e2), (3, .own 9 e3), (4, .own 119 e4)]⟩, 5)
noncomputable def L2203_15b (e1 : List Fw.Cell) (e2 : List ByteArray) (e3 : List ByteArray) (e4 : List Fw.Answer) : Option ((List Fw.Answer) × Fw.Mach × Unit) := Ln 44 15 (⟨25, [(0, .ok (.pt 0 0)), (5, .ok (.sl 4))], [(0, .var [.sl 1, .sl 2, .sl 3] 102), (1, .own 92 e1), (2, .own 9 e2), (3, .own 9 e3), (4, .own 119 e4)]⟩, 5)
theorem E2203 (x0 : Fw.Mach) (x1 : List Fw.Step) : D2203 x0 x1 = (L2203_116 x1 (x1.length : Int) 0 x0.Store x0.Touch.Reads x0.Touch.Writes) := (Dn_eq _ _).trans (by kernel_rfl)
theorem P2203_116 (s8 : List Fw.Step) (s9 : Int) (s10 : Int) (e1 : List Fw.Cell) (e2 : List ByteArray) (e3 : List ByteArray) : L2203_116 s8 s9 s10 e1 e2 e3 = (bif (decide (s10 < s9)) then (gd ((decide (0 ≤ s10)) && (decide (s10 < (s8.length : Int)))) <| (D2308 (⟨e1, (⟨e2, e3⟩ : Fw.Touch)⟩ : Fw.Mach) (nth s8 s10.toNat).Proc (nth s8 s10.toNat).Call).bind fun y0 => gd ((decide ((1 * 32) ≤ 140737488355328)) && (decide (1 ≤ 9223372036854775807))) <| L2203_116b s8 s9 (IntKind.wrap .i64 (s10 + 1)) y0.2.1.Store y0.2.1.Touch.Reads y0.2.1.Touch.Writes [y0.1]) else L2203_15 e1 e2 e3) := (Ln_eq _ _ _).trans (by kernel_rfl)
theorem P2203_15 (e1 : List Fw.Cell) (e2 : List ByteArray) (e3 : List ByteArray) : L2203_15 e1 e2 e3 = (some ([], ((⟨e1, (⟨e2, e3⟩ : Fw.Touch)⟩ : Fw.Mach), ()))) := (Ln_eq _ _ _).trans (by kernel_rfl)
theorem P2203_116b (s8 : List Fw.Step) (s9 : Int) (s10 : Int) (e1 : List Fw.Cell) (e2 : List ByteArray) (e3 : List ByteArray) (e4 : List Fw.Answer) : L2203_116b s8 s9 s10 e1 e2 e3 e4 = (bif (decide (s10 < s9)) then (gd ((decide (0 ≤ s10)) && (decide (s10 < (s8.length : Int)))) <| (D2308 (⟨e1, (⟨e2, e3⟩ : Fw.Touch)⟩ : Fw.Mach) (nth s8 s10.toNat).Proc (nth s8 s10.toNat).Call).bind fun y0 => gd ((decide (((e4.length + 1) * 32) ≤ 140737488355328)) && (decide ((e4.length + 1) ≤ 9223372036854775807))) <| L2203_116b s8 s9 (IntKind.wrap .i64 (s10 + 1)) y0.2.1.Store y0.2.1.Touch.Reads y0.2.1.Touch.Writes (e4 ++ [y0.1])) else L2203_15b e1 e2 e3 e4) := (Ln_eq _ _ _).trans (by kernel_rfl)
theorem P2203_15b (e1 : List Fw.Cell) (e2 : List ByteArray) (e3 : List ByteArray) (e4 : List Fw.Answer) : L2203_15b e1 e2 e3 e4 = (some (e4, ((⟨e1, (⟨e2, e3⟩ : Fw.Touch)⟩ : Fw.Mach), ()))) := (Ln_eq _ _ _).trans (by kernel_rfl)
noncomputable def L2204_116 (s0 : List Fw.Answer) (s1 : List Fw.Answer) (s12 : Int) (s13 : Int) : Option (Bool × Unit) := Ln 69 116 (⟨26, [(0, .ok (.ro 119 s0)), (1, .ok (.ro 119 s1)), (12, .ok (.v (.int .i64 s12))), (13, .ok (.v (.int .i64 s13)))], []⟩, 0)
noncomputable def L2204_15  : Option (Bool × Unit) := Ln 69 15 (⟨26, [], []⟩, 0)
theorem E2204 (x0 : List Fw.Answer) (x1 : List Fw.Answer) : D2204 x0 x1 = (bif (!(decide ((x0.length : Int) = (x1.length : Int)))) then (some (false, ())) else L2204_116 x0 x1 (x0.length : Int) 0) := (Dn_eq _ _).trans (by kernel_rfl)
theorem P2204_116 (s0 : List Fw.Answer) (s1 : List Fw.Answer) (s12 : Int) (s13 : Int) : L2204_116 s0 s1 s12 s13 = (bif (decide (s13 < s12)) then (gd ((decide (0 ≤ s13)) && (decide (s13 < (s0.length : Int)))) <| gd ((decide (0 ≤ s13)) && (decide (s13 < (s1.length : Int)))) <| bif (!((decide ((nth s0 s13.toNat).Code = (nth s1 s13.toNat).Code)) && ((decide ((nth s0 s13.toNat).N = (nth s1 s13.toNat).N)) && ((decide ((nth s0 s13.toNat).Text = (nth s1 s13.toNat).Text)) && true)))) then (some (false, ())) else L2204_116 s0 s1 s12 (IntKind.wrap .i64 (s13 + 1))) else L2204_15) := (Ln_eq _ _ _).trans (by kernel_rfl)
theorem P2204_15  : L2204_15 = (some (true, ())) := (Ln_eq _ _ _).trans (by kernel_rfl)
theorem E2213 (x0 : List UInt8) : D2213 x0 = (hexX (x0, ())) := (Dn_eq _ _).trans (by kernel_rfl)
noncomputable def L2235_116 (s0 : List Fw.Answer) (s1 : List Fw.Answer) (s5 : Int) : Option (Bool × Unit) := Ln 35 116 (⟨26, [(0, .ok (.ro 119 s0)), (1, .ok (.ro 119 s1)), (5, .ok (.v (.int .i64 s5)))], []⟩, 0)
noncomputable def L2235_15  : Option (Bool × Unit) := Ln 35 15 (⟨26, [], []⟩, 0)
theorem E2235 (x0 : List Fw.Answer) (x1 : List Fw.Answer) : D2235 x0 x1 = (bif (!(decide ((x0.length : Int) = (x1.length : Int)))) then (some (false, ())) else L2235_116 x0 x1 0) := (Dn_eq _ _).trans (by kernel_rfl)
theorem P2235_116 (s0 : List Fw.Answer) (s1 : List Fw.Answer) (s5 : Int) : L2235_116 s0 s1 s5 = (bif (decide (s5 < (s0.length : Int))) then (gd ((decide (0 ≤ s5)) && (decide (s5 < (s0.length : Int)))) <| gd ((decide (0 ≤ s5)) && (decide (s5 < (s1.length : Int)))) <| bif (!((decide ((nth s0 s5.toNat).Code = (nth s1 s5.toNat).Code)) && ((decide ((nth s0 s5.toNat).N = (nth s1 s5.toNat).N)) && ((decide ((nth s0 s5.toNat).Text = (nth s1 s5.toNat).Text)) && true)))) then (some (false, ())) else L2235_116 s0 s1 (IntKind.wrap .i64 (s5 + 1))) else L2235_15) := (Ln_eq _ _ _).trans (by kernel_rfl)
theorem P2235_15  : L2235_15 = (some (true, ())) := (Ln_eq _ _ _).trans (by kernel_rfl)
noncomputable def L2236_52 (s0 : List ByteArray) (s1 : List ByteArray) (s5 : Int) : Option (Bool × Unit) := Ln 36 52 (⟨34, [(0, .ok (.ro 9 s0)), (1, .ok (.ro 9 s1)), (5, .ok (.v (.int .i64 s5)))], []⟩, 0)
noncomputable def L2236_7  : Option (Bool × Unit) := Ln 36 7 (⟨34, [], []⟩, 0)
noncomputable def L2236_13460 (s0 : List ByteArray) (s1 : List ByteArray) (s5 : Int) (s6 : Bool) (s7 : Int) : Option (Bool × Unit) := Ln 36 13460 (⟨34, [(0, .ok (.ro 9 s0)), (1, .ok (.ro 9 s1)), (5, .ok (.v (.int .i64 s5))), (6, .ok (.v (.bool s6))), (7, .ok (.v (.int .i64 s7)))], []⟩, 0)
noncomputable def L2236_1683 (s0 : List ByteArray) (s1 : List ByteArray) (s5 : Int) (s6 : Bool) : Option (Bool × Unit) := Ln 36 1683 (⟨34, [(0, .ok (.ro 9 s0)), (1, .ok (.ro 9 s1)), (5, .ok (.v (.int .i64 s5))), (6, .ok (.v (.bool s6)))], []⟩, 0)
noncomputable def L2236_211 (s0 : List ByteArray) (s1 : List ByteArray) (s5 : Int) : Option (Bool × Unit) := Ln 36 211 (⟨34, [(0, .ok (.ro 9 s0)), (1, .ok (.ro 9 s1)), (5, .ok (.v (.int .i64 s5)))], []⟩, 0)
theorem E2236 (x0 : List ByteArray) (x1 : List ByteArray) : D2236 x0 x1 = (L2236_52 x0 x1 0) := (Dn_eq _ _).trans (by kernel_rfl)
theorem P2236_52 (s0 : List ByteArray) (s1 : List ByteArray) (s5 : Int) : L2236_52 s0 s1 s5 = (bif (decide (s5 < (s0.length : Int))) then (L2236_13460 s0 s1 s5 false 0) else L2236_7) := (Ln_eq _ _ _).trans (by kernel_rfl)
theorem P2236_7  : L2236_7 = (some (true, ())) := (Ln_eq _ _ _).trans (by kernel_rfl)
theorem P2236_13460 (s0 : List ByteArray) (s1 : List ByteArray) (s5 : Int) (s6 : Bool) (s7 : Int) : L2236_13460 s0 s1 s5 s6 s7 = (bif (decide (s7 < (s1.length : Int))) then (gd (((decide (0 ≤ s5)) && (decide (s5 < (s0.length : Int)))) || (!(!s6))) <| gd (((decide (0 ≤ s7)) && (decide (s7 < (s1.length : Int)))) || (!(!s6))) <| L2236_13460 s0 s1 s5 (s6 || (decide ((nth s0 s5.toNat) = (nth s1 s7.toNat)))) (IntKind.wrap .i64 (s7 + 1))) else L2236_1683 s0 s1 s5 s6) := (Ln_eq _ _ _).trans (by kernel_rfl)
theorem P2236_1683 (s0 : List ByteArray) (s1 : List ByteArray) (s5 : Int) (s6 : Bool) : L2236_1683 s0 s1 s5 s6 = (bif (!s6) then (some (false, ())) else L2236_211 s0 s1 s5) := (Ln_eq _ _ _).trans (by kernel_rfl)
theorem P2236_211 (s0 : List ByteArray) (s1 : List ByteArray) (s5 : Int) : L2236_211 s0 s1 s5 = (L2236_52 s0 s1 (IntKind.wrap .i64 (s5 + 1))) := (Ln_eq _ _ _).trans (by kernel_rfl)
theorem E2242 (x0 : List ByteArray) (x1 : List ByteArray) : D2242 x0 x1 = ((D3344 x0 x1).bind fun y0 => some ((!y0.1), ())) := (Dn_eq _ _).trans (by kernel_rfl)
noncomputable def L2253_52 (s0 : List ByteArray) (s1 : ByteArray) (s7 : Int) (s8 : Int) : Option (Int × Unit) := Ln 114 52 (⟨19, [(0, .ok (.ro 9 s0)), (1, .ok (.v (.string s1))), (7, .ok (.v (.int .i64 s7))), (8, .ok (.v (.int .i64 s8)))], []⟩, 0)
noncomputable def L2253_7  : Option (Int × Unit) := Ln 114 7 (⟨19, [], []⟩, 0)
theorem E2253 (x0 : List ByteArray) (x1 : ByteArray) : D2253 x0 x1 = (L2253_52 x0 x1 (x0.length : Int) 0) := (Dn_eq _ _).trans (by kernel_rfl)
theorem P2253_52 (s0 : List ByteArray) (s1 : ByteArray) (s7 : Int) (s8 : Int) : L2253_52 s0 s1 s7 s8 = (bif (decide (s8 < s7)) then (gd ((decide (0 ≤ s8)) && (decide (s8 < (s0.length : Int)))) <| bif (decide (s1 = (nth s0 s8.toNat))) then (some (s8, ())) else L2253_52 s0 s1 s7 (IntKind.wrap .i64 (s8 + 1))) else L2253_7) := (Ln_eq _ _ _).trans (by kernel_rfl)
theorem P2253_7  : L2253_7 = (some ((-1), ())) := (Ln_eq _ _ _).trans (by kernel_rfl)
noncomputable def L2254_52 (s0 : ByteArray) (s5 : Int) (s6 : Int) : Option (Bool × Unit) := Ln 221 52 (⟨29, [(0, .ok (.v (.string s0))), (5, .ok (.v (.int .i64 s5))), (6, .ok (.v (.int .i64 s6)))], []⟩, 0)
noncomputable def L2254_7 (s0 : ByteArray) : Option (Bool × Unit) := Ln 221 7 (⟨29, [(0, .ok (.v (.string s0)))], []⟩, 0)
theorem E2254 (x0 : ByteArray) : D2254 x0 = (L2254_52 x0 (x0.size : Int) 0) := (Dn_eq _ _).trans (by kernel_rfl)
theorem P2254_52 (s0 : ByteArray) (s5 : Int) (s6 : Int) : L2254_52 s0 s5 s6 = (bif (decide (s6 < s5)) then (gd ((decide (0 ≤ s6)) && (decide (s6 < (s0.size : Int)))) <| gd (((decide (0 ≤ s6)) && (decide (s6 < (s0.size : Int)))) || (!(!(decide (((byteAt s0 s6.toNat).toNat : Int) < 33))))) <| gd (((decide (0 ≤ s6)) && (decide (s6 < (s0.size : Int)))) || (!(!((decide (((byteAt s0 s6.toNat).toNat : Int) < 33)) || (decide (((byteAt s0 s6.toNat).toNat : Int) > 126)))))) <| bif (((decide (((byteAt s0 s6.toNat).toNat : Int) < 33)) || (decide (((byteAt s0 s6.toNat).toNat : Int) > 126))) || (decide (((byteAt s0 s6.toNat).toNat : Int) = 42))) then (some (false, ())) else L2254_52 s0 s5 (IntKind.wrap .i64 (s6 + 1))) else L2254_7 s0) := (Ln_eq _ _ _).trans (by kernel_rfl)
theorem P2254_7 (s0 : ByteArray) : L2254_7 s0 = ((D2090 (s0.size : Int) 1 40).bind fun y0 => some (y0.1, ())) := (Ln_eq _ _ _).trans (by kernel_rfl)
theorem E2256 (x0 : ByteArray) : D2256 x0 = ((D2106 x0).bind fun y0 => some (y0.1, ())) := (Dn_eq _ _).trans (by kernel_rfl)
theorem E2295 (x0 : Fw.Mach) (x1 : ByteArray) : D2295 x0 x1 = ((D2387 x0 x1).bind fun y0 => (D2311 y0.1).bind fun y1 => some (y1.1, (y0.2.1, ()))) := (Dn_eq _ _).trans (by kernel_rfl)
theorem E2296 (x0 : Fw.Mach) (x1 : ByteArray) : D2296 x0 x1 = ((D2295 x0 x1).bind fun y0 => bif (decide ((IntKind.wrap .i64 (y0.1 + 1)) > 999)) then (some (0, (y0.2.1, ()))) else (D2297 y0.2.1 x1 (IntKind.wrap .i64 (y0.1 + 1))).bind fun y1 => some ((IntKind.wrap .i64 (y0.1 + 1)), (y1.1, ()))) := (Dn_eq _ _).trans (by kernel_rfl)
noncomputable def L2297_7 (s1 : ByteArray) (s6 : ByteArray) (e1 : List Fw.Cell) (e2 : List ByteArray) (e3 : List ByteArray) : Option (Fw.Mach × Unit) := Ln 144 7 (⟨15, [(0, .ok (.pt 0 0)), (1, .ok (.v (.string s1))), (6, .ok (.v (.string s6)))], [(0, .var [.sl 1, .sl 2, .sl 3] 102), (1, .own 92 e1), (2, .own 9 e2), (3, .own 9 e3)]⟩, 4)
theorem E2297 (x0 : Fw.Mach) (x1 : ByteArray) (x2 : Int) : D2297 x0 x1 x2 = ((D2090 x2 1 999).bind fun y0 => bif y0.1 then ((D2080 x2).bind fun y1 => L2297_7 x1 y1.1 x0.Store x0.Touch.Reads x0.Touch.Writes) else L2297_7 x1 (tx []) x0.Store x0.Touch.Reads x0.Touch.Writes) := (Dn_eq _ _).trans (by kernel_rfl)
theorem P2297_7 (s1 : ByteArray) (s6 : ByteArray) (e1 : List Fw.Cell) (e2 : List ByteArray) (e3 : List ByteArray) : L2297_7 s1 s6 e1 e2 e3 = ((D2388 (⟨e1, (⟨e2, e3⟩ : Fw.Touch)⟩ : Fw.Mach) s1 s6).bind fun y0 => some (y0.1, ())) := (Ln_eq _ _ _).trans (by kernel_rfl)
noncomputable def L2303_52 (s0 : List Fw.Cell) (s1_0 : ByteArray) (s7 : Int) (s8 : Int) : Option (Int × Unit) := Ln 224 52 (⟨19, [(0, .ok (.ro 92 s0)), (1, .ok (.fn 246 [.pe 9 s1_0 0])), (7, .ok (.v (.int .i64 s7))), (8, .ok (.v (.int .i64 s8)))], []⟩, 0)
noncomputable def L2303_7  : Option (Int × Unit) := Ln 224 7 (⟨19, [], []⟩, 0)
theorem E2303 (x0 : List Fw.Cell) (x1 : ByteArray) : D2303 x0 x1 = (L2303_52 x0 x1 (x0.length : Int) 0) := (Dn_eq _ _).trans (by kernel_rfl)
theorem P2303_52 (s0 : List Fw.Cell) (s1_0 : ByteArray) (s7 : Int) (s8 : Int) : L2303_52 s0 s1_0 s7 s8 = (bif (decide (s8 < s7)) then (gd ((decide (0 ≤ s8)) && (decide (s8 < (s0.length : Int)))) <| (D2304 (nth s0 s8.toNat) s1_0).bind fun y0 => bif y0.1 then (some (s8, ())) else L2303_52 s0 s1_0 s7 (IntKind.wrap .i64 (s8 + 1))) else L2303_7) := (Ln_eq _ _ _).trans (by kernel_rfl)
theorem P2303_7  : L2303_7 = (some ((-1), ())) := (Ln_eq _ _ _).trans (by kernel_rfl)
theorem E2304 (x0 : Fw.Cell) (x1 : ByteArray) : D2304 x0 x1 = (some ((decide (x0.Key = x1)), ())) := (Dn_eq _ _).trans (by kernel_rfl)
end Go.Proofs.YtlkjmghomjkcmaaGreatDoor.Ri
