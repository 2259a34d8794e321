/-
  An action line is its words; the end of a reading. No condition.
-/
import Derived.Test.YtmjjcihoobnbgaaDoorPA
import Derived.Test.YtmjjcihoobnbgaaDoorPW
import Derived.Test.YtmjjcihoobnbgaaDoorR0
namespace Go.Proofs.YtmjjcihoobnbgaaDoor.Fw
open Go.RowKit
set_option linter.unusedVariables false
set_option linter.unusedSimpArgs false
set_option maxRecDepth 100000
/-! ## Lines and their words -/
def putW (v w : ByteArray) : ByteArray := (v ++ (⟨#[32]⟩ : ByteArray)) ++ w
def joinB : List ByteArray → ByteArray
  | [] => ⟨#[]⟩
  | w :: r => r.foldl putW w
theorem foldl_putW : ∀ (r : List ByteArray) (x u : ByteArray), x ++ r.foldl putW u = r.foldl putW (x ++ u)
  | [], x, u => rfl
  | w :: r, x, u => by
    rw [List.foldl_cons, List.foldl_cons, foldl_putW r]
    unfold putW
    simp only [ByteArray.append_assoc]
theorem joinB_app {ws us : List ByteArray} (h1 : ws ≠ []) (h2 : us ≠ []) : joinB (ws ++ us) = putW (joinB ws) (joinB us) := by
  cases ws with
  | nil => exact absurd rfl h1
  | cons w r =>
    cases us with
    | nil => exact absurd rfl h2
    | cons u s =>
      show (r ++ u :: s).foldl putW w = putW (r.foldl putW w) (s.foldl putW u)
      rw [List.foldl_append, List.foldl_cons]
      show s.foldl putW ((r.foldl putW w ++ (⟨#[32]⟩ : ByteArray)) ++ u) = (r.foldl putW w ++ (⟨#[32]⟩ : ByteArray)) ++ s.foldl putW u
      rw [foldl_putW]
def cleans (ws : List ByteArray) : Prop := ∀ w ∈ ws, clean (sbytes w)
theorem Wd.foldl {c : Call} : ∀ (r : List ByteArray) {v : ByteArray} {ws : List ByteArray}, Wd c v ws → cleans r → Wd c (r.foldl putW v) (ws ++ r)
  | [], v, ws, h, _ => by rw [List.append_nil]; exact h
  | w :: r, v, ws, h, hc => by
    have := Wd.foldl r (h.add (hc w (List.mem_cons_self))) (fun x hx => hc x (List.mem_cons_of_mem _ hx))
    rw [List.append_assoc] at this
    exact this
theorem joinB_wd (c : Call) {ws : List ByteArray} (h : cleans ws) : Wd c (joinB ws) ws := by
  cases ws with
  | nil => exact ⟨rfl, fun b hb => by cases hb⟩
  | cons w r =>
    have hw := h w (List.mem_cons_self)
    have h0 : Wd c w [w] := by
      refine ⟨?_, fun b hb => ?_⟩
      · rw [fieldsS_toBA, fieldsGo_clean _ _ hw.2 (by simpa using hw.1)]
        rfl
      · have := hw.2 b hb
        omega
    exact h0.foldl r fun x hx => h x (List.mem_cons_of_mem _ hx)
theorem joinB_inj {ws us : List ByteArray} (h1 : cleans ws) (h2 : cleans us) (h : joinB ws = joinB us) : ws = us := by
  rw [← (joinB_wd C0 h1).f, ← (joinB_wd C0 h2).f, h]
theorem parts_join {ws : List ByteArray} (h : cleans ws) (hs : (joinB ws).size ≤ 600) (hl : ws.length ≤ 12) : impl_PartsOf (joinB ws) = (ws, true) := by
  rw [parts_of hs (joinB_wd C0 h).o, (joinB_wd C0 h).f]
  unfold finW
  rw [decide_eq_false (show ¬ (ws.length : Int) > 12 by omega)]
  rfl
theorem empty_app (x : ByteArray) : (⟨#[]⟩ : ByteArray) ++ x = x := ByteArray.empty_append
theorem Join_l1 (ps : List ByteArray) : ∀ n i v, 1 ≤ i → i + n = ps.length → spec_l38Join_l1 ps n v i = (ps.drop i).foldl putW v := by
  intro n
  induction n with
  | zero =>
    intro i v _ h
    rw [List.drop_eq_nil_of_le (by omega)]
    rfl
  | succ n ih =>
    intro i v h1 h
    have hi : i < ps.length := by omega
    have e : nth ps i = ps[i] := by simp [nth, List.getD_eq_getElem?_getD, hi]
    rw [spec_l38Join_l1, decide_eq_true (show (i : Int) > 0 by omega), ih (i + 1) _ (by omega) (by omega), List.drop_eq_getElem_cons hi, e]
    rfl
theorem Join_is (ps : List ByteArray) : spec_l38Join ps = joinB ps := by
  cases ps with
  | nil => rfl
  | cons w r =>
    unfold spec_l38Join
    rw [List.length_cons, show r.length + 1 - 0 = r.length + 1 from rfl, spec_l38Join_l1, Join_l1 _ _ _ _ (by omega) (by rw [List.length_cons]; omega)]
    show r.foldl putW ((⟨#[]⟩ : ByteArray) ++ w) = r.foldl putW w
    rw [empty_app]
/-! ## A call's line is its words -/
theorem line_join {c : Call} (hk : 1 ≤ c.Kind ∧ c.Kind ≤ 22) (hx : c.Text.size ≤ 64) (hA : spec_l38Fits c.A = true) (hB : spec_l38Fits c.B = true) :
    ∀ n i v, i + n = (spec_l38Uses c.Kind).size → spec_CallLine_l1 c n v i = ⟨#[]⟩ ∨ (spec_CallLine_l1 c n v i = (lw c i n).foldl putW v ∧ cleans (lw c i n) ∧ (spec_CallLine_l1 c n v i).size ≤ v.size + 129 * n) := by
  have hu : ∀ i, i < (spec_l38Uses c.Kind).size → useB (byteAt (spec_l38Uses c.Kind) i) = true := fun i hi => by
    obtain ⟨m, hm⟩ := of22 hk
    rw [hm] at hi ⊢
    have h3 := spec_l38Uses_size ((m.val : Int) + 1)
    exact useB_22 m ⟨i, by omega⟩ hi
  intro n
  induction n with
  | zero => intro i v h; exact .inr ⟨rfl, (fun w hw => by cases hw), Nat.le_add_right _ _⟩
  | succ n ih =>
    intro i v h
    have go : ∀ w : ByteArray, clean (sbytes w) → w.size ≤ 128 → ftx c (byteAt (spec_l38Uses c.Kind) i) = w → spec_CallLine_l1 c (n + 1) v i = spec_CallLine_l1 c n ((v ++ (⟨#[32]⟩ : ByteArray)) ++ w) (i + 1) →
        spec_CallLine_l1 c (n + 1) v i = ⟨#[]⟩ ∨ (spec_CallLine_l1 c (n + 1) v i = (lw c i (n + 1)).foldl putW v ∧ cleans (lw c i (n + 1)) ∧ (spec_CallLine_l1 c (n + 1) v i).size ≤ v.size + 129 * (n + 1)) := fun w h1 h2 h3 h4 => by
      rw [h4]
      have el : lw c i (n + 1) = w :: lw c (i + 1) n := by
        unfold lw
        rw [List.range'_succ, List.map_cons, h3]
      rcases ih (i + 1) ((v ++ (⟨#[32]⟩ : ByteArray)) ++ w) (by omega) with e | ⟨e1, e2, e3⟩
      · exact .inl e
      · refine .inr ⟨?_, ?_, ?_⟩
        · rw [el]
          exact e1
        · rw [el]
          intro x hx
          rcases List.mem_cons.1 hx with rfl | hx
          · exact h1
          · exact e2 x hx
        · rw [sp_size] at e3
          omega
    have hi := hu i (by omega)
    rw [spec_CallLine_l1] at *
    have hgo := go
    revert hgo
    generalize hf : byteAt (spec_l38Uses c.Kind) i = u at hi ⊢
    intro hgo
    simp only [useB, Bool.or_eq_true, beq_iff_eq] at hi
    rcases hi with (((rfl | rfl) | rfl) | rfl) | rfl
    · rw [show ((UInt8.toNat 110 : Nat) : Int) = 110 from rfl] at *
      cases hn : spec_NameOk c.Name with
      | false => exact .inl rfl
      | true =>
        rw [hn] at hgo
        exact hgo c.Name (NameOk_clean hn).1 (by have := (NameOk_clean hn).2; omega) rfl rfl
    · rw [show ((UInt8.toNat 116 : Nat) : Int) = 116 from rfl] at *
      cases hn : spec_NameOk c.To with
      | false => exact .inl rfl
      | true =>
        rw [hn] at hgo
        exact hgo c.To (NameOk_clean hn).1 (by have := (NameOk_clean hn).2; omega) rfl rfl
    · exact hgo (spec_Decimal c.A) (dec_clean hA).1 (by have := (dec_clean hA).2; omega) rfl rfl
    · exact hgo (spec_Decimal c.B) (dec_clean hB).1 (by have := (dec_clean hB).2; omega) rfl rfl
    · exact hgo (hexText c.Text) (hexText_clean hx).1 (hexText_clean hx).2 rfl rfl
def cw (c : Call) : List ByteArray := spec_CallName c.Kind :: lw c 0 (spec_l38Uses c.Kind).size
theorem cw_len (c : Call) : 1 ≤ (cw c).length ∧ (cw c).length ≤ 4 := by
  have hu := spec_l38Uses_size c.Kind
  unfold cw lw
  rw [List.length_cons, List.length_map, List.length_range']
  omega
theorem CallLine_join {c : Call} (h : spec_CallLine c ≠ ⟨#[]⟩) : spec_CallLine c = joinB (cw c) ∧ cleans (cw c) ∧ (spec_CallLine c).size ≤ 397 := by
  obtain ⟨hk, _, hok, ht, hA, hB⟩ := CallLine_words c h
  obtain ⟨_, _, _, hx⟩ := spec_CallOk_t hok
  have e : spec_CallLine c = spec_CallLine_l1 c ((spec_l38Uses c.Kind).size - 0) (spec_CallName c.Kind) 0 := by
    unfold spec_CallLine
    rw [hok, ht, decide_eq_true rfl, hA, hB]
    rfl
  rw [e] at h ⊢
  have hn := spec_CallName_size c.Kind
  have hu := spec_l38Uses_size c.Kind
  rcases line_join hk hx hA hB ((spec_l38Uses c.Kind).size - 0) 0 (spec_CallName c.Kind) (by omega) with h' | ⟨h1, h2, h3⟩
  · exact absurd h' h
  · refine ⟨h1, fun w hw => ?_, by omega⟩
    rcases List.mem_cons.1 hw with rfl | hw
    · exact name_clean hk
    · exact h2 w hw
/-! ## An action's line is its words -/
theorem of12 {k : Int} (h : 1 ≤ k ∧ k ≤ 12) : ∃ n : Fin 12, k = (n.val : Int) + 1 := ⟨⟨(k - 1).toNat, by omega⟩, by show k = (((k - 1).toNat : Nat) : Int) + 1; omega⟩
theorem acleanB_12 : ∀ n : Fin 12, (sbytes (spec_ActName ((n.val : Int) + 1))).all (fun b => Nat.ble 33 b.toNat && Nat.ble b.toNat 126) = true ∧ (sbytes (spec_ActName ((n.val : Int) + 1))).isEmpty = false := by decide +kernel
theorem aname_clean {k : Int} (h : 1 ≤ k ∧ k ≤ 12) : clean (sbytes (spec_ActName k)) := by
  obtain ⟨n, rfl⟩ := of12 h
  exact clean_of (acleanB_12 n).1 (acleanB_12 n).2
def aw (a : Deed) : List ByteArray := bif (decide (a.Kind = 8)) || ((decide (a.Kind = 9)) || (decide (a.Kind = 10))) then [spec_ActName a.Kind] else (bif (decide (a.Kind = 2)) || (decide (a.Kind = 7)) then spec_ActName a.Kind :: spec_Decimal a.N :: cw a.Call else (bif decide (a.Kind = 4) then [spec_ActName a.Kind, spec_Decimal a.N, spec_Decimal a.M] else [spec_ActName a.Kind, spec_Decimal a.N]))
theorem ActLine_join {a : Deed} (h : spec_ActLine a ≠ ⟨#[]⟩) : spec_ActLine a = joinB (aw a) ∧ cleans (aw a) ∧ (spec_ActLine a).size ≤ 600 ∧ (aw a).length ≤ 12 ∧ aw a ≠ [] ∧ spec_l38Told a = a := by
  cases hb : (((!(spec_ActOk a)) || (!(decide ((spec_l38Told a) = a)))) || (!(spec_l38Fits a.N))) || (!(spec_l38Fits a.M)) with
  | true =>
    unfold spec_ActLine at h
    rw [hb] at h
    exact absurd rfl h
  | false =>
    unfold spec_ActLine at h ⊢
    rw [hb] at h ⊢
    simp only [Bool.or_eq_false_iff, Bool.not_eq_false', decide_eq_true_eq] at hb
    obtain ⟨⟨⟨hok, ht⟩, hN⟩, hM⟩ := hb
    have hk := spec_ActOk_t hok
    have c0 := aname_clean hk
    have c1 := dec_clean hN
    have c2 := dec_clean hM
    have s0 := spec_ActName_size a.Kind
    rw [cond_false] at h ⊢
    unfold aw
    cases e1 : (decide (a.Kind = 8)) || ((decide (a.Kind = 9)) || (decide (a.Kind = 10))) with
    | true =>
      refine ⟨rfl, fun w hw => ?_, by show (spec_ActName a.Kind).size ≤ 600; omega, by show ([_] : List ByteArray).length ≤ 12; simp, by simp, ht⟩
      rw [List.mem_singleton.1 hw]
      exact c0
    | false =>
      rw [e1, cond_false] at h
      rw [cond_false, cond_false]
      cases e2 : (decide (a.Kind = 2)) || (decide (a.Kind = 7)) with
      | true =>
        rw [e2, cond_true] at h
        rw [cond_true, cond_true]
        cases e3 : decide ((spec_CallLine a.Call) = ⟨#[]⟩) with
        | true =>
          rw [e3] at h
          exact absurd rfl h
        | false =>
          obtain ⟨j1, j2, j3⟩ := CallLine_join (of_decide_eq_false e3)
          have hl := cw_len a.Call
          refine ⟨?_, fun w hw => ?_, ?_, by rw [List.length_cons, List.length_cons]; omega, by simp, ht⟩
          · show (putW (putW (spec_ActName a.Kind) (spec_Decimal a.N)) (spec_CallLine a.Call)) = joinB ([spec_ActName a.Kind, spec_Decimal a.N] ++ cw a.Call)
            rw [joinB_app (by simp) (by intro e; rw [e] at hl; simp at hl), j1]
            rfl
          · rcases List.mem_cons.1 hw with rfl | hw
            · exact c0
            · rcases List.mem_cons.1 hw with rfl | hw
              · exact c1.1
              · exact j2 w hw
          · have h1 := c1.2
            show (putW (putW (spec_ActName a.Kind) (spec_Decimal a.N)) (spec_CallLine a.Call)).size ≤ 600
            unfold putW
            rw [sp_size, sp_size]
            omega
      | false =>
        rw [cond_false, cond_false]
        cases e3 : decide (a.Kind = 4) with
        | true =>
          refine ⟨rfl, fun w hw => ?_, ?_, by show ([_, _, _] : List ByteArray).length ≤ 12; simp, by simp, ht⟩
          · rcases List.mem_cons.1 hw with rfl | hw
            · exact c0
            · rcases List.mem_cons.1 hw with rfl | hw
              · exact c1.1
              · rw [List.mem_singleton.1 hw]
                exact c2.1
          · have h1 := c1.2
            have h2 := c2.2
            show (putW (putW (spec_ActName a.Kind) (spec_Decimal a.N)) (spec_Decimal a.M)).size ≤ 600
            unfold putW
            rw [sp_size, sp_size]
            omega
        | false =>
          refine ⟨rfl, fun w hw => ?_, ?_, by show ([_, _] : List ByteArray).length ≤ 12; simp, by simp, ht⟩
          · rcases List.mem_cons.1 hw with rfl | hw
            · exact c0
            · rw [List.mem_singleton.1 hw]
              exact c1.1
          · have h1 := c1.2
            show (putW (spec_ActName a.Kind) (spec_Decimal a.N)).size ≤ 600
            unfold putW
            rw [sp_size]
            omega
/-! ## The end of a reading -/
theorem same_nth {a b : List ByteArray} (hl : a.length = b.length) (h : ∀ j, j < a.length → nth a j = nth b j) : a = b := by
  apply List.ext_getElem hl
  intro j h1 h2
  have := h j h1
  simpa [nth, List.getD_eq_getElem?_getD, h1, h2] using this
theorem Equal_is (a b : List ByteArray) : slices_Equal_string a b = decide (a = b) := by
  have key : a.length = b.length → ∀ n i, i + n = a.length → slices_Equal_string_l1 a b n i = true → ∀ j, i ≤ j → j < a.length → nth a j = nth b j := by
    intro hl n
    induction n with
    | zero => intro i h _ j h1 h2; omega
    | succ n ih =>
      intro i h ht j h1 h2
      rw [slices_Equal_string_l1] at ht
      by_cases e : nth a i = nth b i
      · rw [decide_eq_true e] at ht
        by_cases ej : i = j
        · subst ej
          exact e
        · exact ih (i + 1) (by omega) ht j (by omega) h2
      · rw [decide_eq_false e] at ht
        cases ht
  by_cases e : a = b
  · subst e
    rw [same_refl, decide_eq_true rfl]
  · rw [decide_eq_false e]
    cases hs : slices_Equal_string a b with
    | false => rfl
    | true =>
      refine absurd ?_ e
      unfold slices_Equal_string at hs
      by_cases hl : a.length = b.length
      · rw [decide_eq_true (show (a.length : Int) = (b.length : Int) by omega)] at hs
        exact same_nth hl fun j hj => key hl (a.length - 0) 0 (by omega) hs j (Nat.zero_le _) hj
      · rw [decide_eq_false (show ¬ (a.length : Int) = (b.length : Int) by omega)] at hs
        cases hs
def D0 : Deed := Deed.mk 0 0 0 (Call.mk 0 ⟨#[]⟩ ⟨#[]⟩ 0 0 ⟨#[]⟩)
def finAI (ps : List ByteArray) (a : Deed) : Deed × Bool := bif !(slices_Equal_string ((impl_PartsOf (impl_ActLine a)).1) ps) then (D0, false) else (a, true)
def finAS (ps : List ByteArray) (a : Deed) : Deed × Bool := bif (decide ((spec_ActLine a) = ⟨#[]⟩)) || (!decide ((spec_ActLine a) = (spec_l38Join ps))) then (D0, false) else (a, true)
theorem finAS_is {ps : List ByteArray} {a : Deed} (hc : cleans ps) : finAS ps a = bif decide (spec_ActLine a ≠ ⟨#[]⟩ ∧ aw a = ps) then (a, true) else (D0, false) := by
  unfold finAS
  by_cases h : spec_ActLine a = ⟨#[]⟩
  · rw [decide_eq_true h, decide_eq_false (fun e : spec_ActLine a ≠ ⟨#[]⟩ ∧ aw a = ps => e.1 h)]
    rfl
  · rw [decide_eq_false h]
    obtain ⟨j1, j2, _⟩ := ActLine_join h
    by_cases e : aw a = ps
    · rw [decide_eq_true (⟨h, e⟩ : spec_ActLine a ≠ ⟨#[]⟩ ∧ aw a = ps), decide_eq_true (show spec_ActLine a = spec_l38Join ps by rw [j1, e, Join_is])]
      rfl
    · rw [decide_eq_false (fun h2 : spec_ActLine a ≠ ⟨#[]⟩ ∧ aw a = ps => e h2.2), decide_eq_false (fun h2 : spec_ActLine a = spec_l38Join ps => e (joinB_inj j2 hc (by rw [← j1, h2, Join_is])))]
      rfl
theorem finAI_is {ps : List ByteArray} {a : Deed} (hg : Dat.good a) (hp : ps ≠ []) : finAI ps a = bif decide (spec_ActLine a ≠ ⟨#[]⟩ ∧ aw a = ps) then (a, true) else (D0, false) := by
  unfold finAI
  rw [ActLine_twin hg, Equal_is]
  by_cases h : spec_ActLine a = ⟨#[]⟩
  · rw [h, decide_eq_false (fun e : (impl_PartsOf ⟨#[]⟩).1 = ps => hp e.symm), decide_eq_false (fun e : (⟨#[]⟩ : ByteArray) ≠ ⟨#[]⟩ ∧ aw a = ps => e.1 rfl)]
    rfl
  · obtain ⟨j1, j2, j3, j4, _⟩ := ActLine_join h
    have e : impl_PartsOf (spec_ActLine a) = (aw a, true) := by
      rw [j1] at j3 ⊢
      exact parts_join j2 j3 j4
    rw [e]
    by_cases e2 : aw a = ps
    · rw [decide_eq_true (⟨h, e2⟩ : spec_ActLine a ≠ ⟨#[]⟩ ∧ aw a = ps), decide_eq_true e2]
      rfl
    · rw [decide_eq_false (fun h2 : spec_ActLine a ≠ ⟨#[]⟩ ∧ aw a = ps => e2 h2.2), decide_eq_false e2]
      rfl
theorem fin_no {ps : List ByteArray} {a : Deed} (hc : cleans ps) (h : spec_ActLine a ≠ ⟨#[]⟩ → aw a ≠ ps) : finAS ps a = (D0, false) := by
  rw [finAS_is hc, decide_eq_false (fun e => h e.1 e.2)]
  rfl
/-! ## Words of a line that is read -/
theorem fieldsGo_cleans : ∀ (l cur : List UInt8), (∀ b ∈ l, 32 ≤ b.toNat ∧ b.toNat ≤ 126) → (∀ b ∈ cur, 33 ≤ b.toNat ∧ b.toNat ≤ 126) → ∀ w ∈ Lib.fieldsGo cur l, clean w
  | [], cur, _, hc, w, hw => by
    rw [Lib.fieldsGo] at hw
    split at hw
    · cases hw
    · rename_i h
      rw [List.mem_singleton] at hw
      subst hw
      exact ⟨by intro e; rw [e] at h; exact h rfl, hc⟩
  | b :: l, cur, hl, hc, w, hw => by
    have hb := hl b (List.mem_cons_self)
    have hl' : ∀ x ∈ l, 32 ≤ x.toNat ∧ x.toNat ≤ 126 := fun x hx => hl x (List.mem_cons_of_mem _ hx)
    cases hs : Lib.isSp b with
    | false =>
      rw [Lib.fieldsGo_more cur b l hs] at hw
      refine fieldsGo_cleans l _ hl' (fun x hx => ?_) w hw
      rcases List.mem_append.1 hx with hx | hx
      · exact hc x hx
      · rw [List.mem_singleton.1 hx]
        rw [isSp_in hb.1 hb.2] at hs
        have := of_decide_eq_false hs
        omega
    | true =>
      cases cur with
      | nil =>
        rw [Lib.fieldsGo_sp b l hs] at hw
        exact fieldsGo_cleans l [] hl' (fun x hx => by cases hx) w hw
      | cons a r =>
        rw [Lib.fieldsGo_end _ b l hs (by simp)] at hw
        rcases List.mem_cons.1 hw with rfl | hw
        · exact ⟨by simp, hc⟩
        · exact fieldsGo_cleans l [] hl' (fun x hx => by cases hx) w hw
theorem parts_facts (x : ByteArray) : cleans (impl_PartsOf x).1 ∧ (impl_PartsOf x).1.length ≤ 12 := by
  cases hb : (impl_PartsOf x).2 with
  | false =>
    have e : (impl_PartsOf x).1 = [] := by
      rw [PartsOf_twin] at hb ⊢
      exact parts_false hb
    rw [e]
    exact ⟨fun w hw => (by cases hw), Nat.zero_le _⟩
  | true =>
    have hs : x.size ≤ 600 := by
      refine Classical.byContradiction fun hn => ?_
      unfold impl_PartsOf at hb
      rw [decide_eq_true (show (x.size : Int) > 600 by omega)] at hb
      cases hb
    have hall : ∀ j, j < x.size → 32 ≤ (byteAt x j).toNat ∧ (byteAt x j).toNat ≤ 126 := by
      refine Classical.byContradiction fun hn => ?_
      obtain ⟨j, hj⟩ := Classical.not_forall.1 hn
      obtain ⟨hj1, hj2⟩ := Classical.not_imp.1 hj
      unfold impl_PartsOf at hb
      rw [decide_eq_false (show ¬ (x.size : Int) > 600 by omega)] at hb
      have hb' : (impl_PartsOf_l1 x (x.size - 0) 0).2 = true := hb
      rw [impl_parts_bad x hj1 hj2 _ _ (by omega) (Nat.zero_le _)] at hb'
      cases hb'
    have e : impl_PartsOf x = finW (fieldsS x) := by
      unfold impl_PartsOf
      rw [decide_eq_false (show ¬ (x.size : Int) > 600 by omega)]
      exact impl_parts_good x hall _ _ (by omega)
    rw [e] at hb ⊢
    unfold finW at hb ⊢
    cases hc : decide (((fieldsS x).length : Int) > 12) with
    | true =>
      rw [hc] at hb
      cases hb
    | false =>
      have := of_decide_eq_false hc
      refine ⟨fun w hw => ?_, by show (fieldsS x).length ≤ 12; omega⟩
      have hw' : w ∈ fieldsS x := hw
      rw [fieldsS_toBA] at hw'
      obtain ⟨l, hl, rfl⟩ := List.mem_map.1 hw'
      exact fieldsGo_cleans _ [] (fun b hb => by obtain ⟨j, hj, rfl⟩ := mem_at hb; exact hall j hj) (fun b hb => by cases hb) l hl
/-! ## What is read of a call is good -/
def small (p : List ByteArray) : Prop := p.length ≤ 1048576 ∧ ∀ k, (nth p k).size ≤ 281474976710656
theorem small_good {p : List ByteArray} (h : small p) : Dat.good p := by
  refine ⟨by have := h.1; omega, fun x hx => ?_⟩
  obtain ⟨j, hj, rfl⟩ := List.getElem_of_mem hx
  have := h.2 j
  have e : nth p j = p[j] := by simp [nth, List.getD_eq_getElem?_getD, hj]
  rw [e] at this
  show p[j].size ≤ maxLen
  unfold maxLen
  omega
theorem parts_smalls (x : ByteArray) : small (impl_PartsOf x).1 := ⟨by have := (parts_facts x).2; omega, parts_small x⟩
theorem cutL_drop (p : List ByteArray) (l : Nat) : cutL p l p.length = p.drop l := by
  unfold cutL
  simp
theorem small_drop {p : List ByteArray} (h : small p) (l : Nat) : small (cutL p l p.length) := by
  rw [cutL_drop]
  refine ⟨by rw [List.length_drop]; have := h.1; omega, fun k => ?_⟩
  have : nth (p.drop l) k = nth p (l + k) := by simp [nth, List.getD_eq_getElem?_getD]
  rw [this]
  exact h.2 _
theorem small_bif {b : Bool} {x y : List ByteArray} (h1 : small x) (h2 : small y) : small (bif b then x else y) := by cases b <;> assumption
theorem good_C00 : Dat.good (Call.mk 0 ⟨#[]⟩ ⟨#[]⟩ 0 0 ⟨#[]⟩) := good_Call (gi 0) (gs ⟨#[]⟩) (gs ⟨#[]⟩) (gi 0) (gi 0) (gs ⟨#[]⟩)
theorem line_good {c : Call} (h : spec_CallLine c ≠ ⟨#[]⟩) : Dat.good c := by
  obtain ⟨hk, _, hok, _, hA, hB⟩ := CallLine_words c h
  obtain ⟨_, h1, h2, h3⟩ := spec_CallOk_t hok
  obtain ⟨a, ha, ha2⟩ := fits_nat hA
  obtain ⟨b, hb, hb2⟩ := fits_nat hB
  obtain ⟨K, N, T, A, B, X⟩ := c
  simp only at hk h1 h2 h3 ha hb
  exact good_Call (by unfold I64; omega) (by unfold maxLen; omega) (by unfold maxLen; omega) (by unfold I64; omega) (by unfold I64; omega) (by unfold maxLen; omega)
theorem finRC_good {p : List ByteArray} {c : Call} (hp : p.length ≠ 0) : Dat.good (finRC p c).1 := by
  unfold finRC
  cases hb : (!((spec_PartsOf (spec_CallLine c)).2)) || (!(spec_l03Same ((spec_PartsOf (spec_CallLine c)).1) p)) with
  | true => exact good_C00
  | false =>
    refine line_good (c := c) fun e => ?_
    rw [e, same_len (a := (spec_PartsOf ⟨#[]⟩).1) (b := p) (fun h => hp h.symm)] at hb
    simp at hb
theorem spec_ReadCall_good (p : List ByteArray) : Dat.good (spec_ReadCall p).1 := by
  unfold spec_ReadCall
  by_cases h0 : p.length = 0
  · rw [decide_eq_true (show (p.length : Int) = 0 by omega)]
    exact good_C00
  · rw [decide_eq_false (show ¬ (p.length : Int) = 0 by omega), spec_l1_kind, spec_l1_zero]
    obtain ⟨x, hx⟩ := spec_l2_any p (kindL (nth p 0) (23 - 1) 0 1) (1 + (23 - 1)) (kC p (kindL (nth p 0) (23 - 1) 0 1)) ((spec_l38Uses (kindL (nth p 0) (23 - 1) 0 1)).size - 0) ⟨#[]⟩ ⟨#[]⟩ 0 0 ⟨#[]⟩ 0
    rw [hx]
    exact finRC_good h0
theorem impl_ReadCall_good (p : List ByteArray) (h : small p := by assumption) : Dat.good (impl_ReadCall p).1 := by
  rw [ReadCall_twin (small_good h) h.1]
  exact spec_ReadCall_good p
theorem spec_ActLine_size {a : Deed} : (spec_ActLine a).size ≤ 600 := by
  by_cases h : spec_ActLine a = ⟨#[]⟩
  · rw [h]
    exact Nat.zero_le _
  · exact (ActLine_join h).2.2.1
theorem impl_ActLine_size {a : Deed} (hg : Dat.good a) : (impl_ActLine a).size ≤ 600 := by
  rw [ActLine_twin hg]
  exact spec_ActLine_size
theorem sparts12 (x : ByteArray) : (spec_PartsOf x).1.length ≤ 12 ∧ ∀ k, (nth (spec_PartsOf x).1 k).size ≤ 600 := by
  rw [← PartsOf_twin]
  refine ⟨(parts_facts x).2, fun k => ?_⟩
  rcases Nat.lt_or_ge k (impl_PartsOf x).1.length with hk | hk
  · have e : nth (impl_PartsOf x).1 k = (impl_PartsOf x).1[k] := by simp [nth, List.getD_eq_getElem?_getD, hk]
    rw [e]
    exact parts_mem (List.getElem_mem hk)
  · unfold nth
    rw [List.getD_eq_getElem?_getD, List.getElem?_eq_none hk]
    exact Nat.zero_le _
theorem good_parts {c : Call} (h : Dat.good c) : I64 c.Kind ∧ c.Name.size ≤ maxLen ∧ c.To.size ≤ maxLen ∧ I64 c.A ∧ I64 c.B ∧ c.Text.size ≤ maxLen := h
theorem impl_ReadCall_gs (p : List ByteArray) (h : small p := by assumption) : I64 (impl_ReadCall p).1.Kind ∧ (impl_ReadCall p).1.Name.size ≤ maxLen ∧ (impl_ReadCall p).1.To.size ≤ maxLen ∧ I64 (impl_ReadCall p).1.A ∧ I64 (impl_ReadCall p).1.B ∧ (impl_ReadCall p).1.Text.size ≤ maxLen := good_parts (impl_ReadCall_good p h)
theorem spec_ReadCall_gs (p : List ByteArray) : I64 (spec_ReadCall p).1.Kind ∧ (spec_ReadCall p).1.Name.size ≤ maxLen ∧ (spec_ReadCall p).1.To.size ≤ maxLen ∧ I64 (spec_ReadCall p).1.A ∧ I64 (spec_ReadCall p).1.B ∧ (spec_ReadCall p).1.Text.size ≤ maxLen := good_parts (spec_ReadCall_good p)

end Go.Proofs.YtmjjcihoobnbgaaDoor.Fw
