/-
  The texts W28, RiC of this proof, one behind the other: what each proves stands at its head. No condition.
-/
import Derived.Test.YtdghkmbppfmifaaGreatMWA
import Derived.Test.YtdghkmbppfmifaaGreatMWB
import Derived.Test.YtdghkmbppfmifaaGreatMWC
import Derived.Test.YtdghkmbppfmifaaGreatMWD
namespace Go.Proofs.YtdghkmbppfmifaaGreat.Ri
open Go.Proofs.YtdghkmbppfmifaaGreat.Fw
set_option linter.unusedVariables false
set_option linter.unusedSimpArgs false
set_option maxRecDepth 100000
def bfr (a b : Fw.Entry) : Bool := decide (a.Ended ≤ b.Began) && decide (a.Ended < b.Ended)
def mwc (l : List Fw.Entry) (i : Int) : Nat → Int
  | 0 => 0
  | k + 1 => mwc l i k + (bif decide ((k : Int) = i) || (bfr (nth l k) (nth l i.toNat) || bfr (nth l i.toNat) (nth l k)) then 0 else 1)
def owc (l : List Fw.Entry) (i : Int) : Nat → Int
  | 0 => 0
  | k + 1 => owc l i k + (bif decide ((k : Int) = i) then 0 else bif bfr (nth l k) (nth l i.toNat) || bfr (nth l i.toNat) (nth l k) then 1 else 0)
theorem mwc_b (l : List Fw.Entry) (i : Int) : ∀ k, 0 ≤ mwc l i k ∧ mwc l i k ≤ k
  | 0 => ⟨Int.le_refl _, Int.le_refl _⟩
  | k + 1 => by
    have := mwc_b l i k
    unfold mwc
    cases decide ((k : Int) = i) || (bfr (nth l k) (nth l i.toNat) || bfr (nth l i.toNat) (nth l k)) <;> simp <;> omega
theorem owc_b (l : List Fw.Entry) (i : Int) : ∀ k, 0 ≤ owc l i k ∧ owc l i k ≤ k
  | 0 => ⟨Int.le_refl _, Int.le_refl _⟩
  | k + 1 => by
    have := owc_b l i k
    unfold owc
    cases decide ((k : Int) = i) <;> cases bfr (nth l k) (nth l i.toNat) || bfr (nth l i.toNat) (nth l k) <;> simp <;> omega
theorem mow (l : List Fw.Entry) (i : Int) (h : 0 ≤ i) : ∀ k : Nat, mwc l i k + owc l i k = if i < k then (k : Int) - 1 else k
  | 0 => by simp [mwc, owc]; omega
  | k + 1 => by
    have ih := mow l i h k
    unfold mwc owc
    by_cases e : (k : Int) = i
    · simp only [e, decide_true, Bool.true_or, cond_true] at ih ⊢
      split at ih <;> split <;> omega
    · simp only [e, decide_false, Bool.false_or]
      cases bfr (nth l k) (nth l i.toNat) || bfr (nth l i.toNat) (nth l k) <;> simp only [cond_false, cond_true] <;> split at ih <;> split <;> omega
theorem mw1 {l : List Fw.Entry} {i s5 s16 : Int} (h0 : 0 ≤ s16) (h1 : s16 ≤ 1000) (e : s5 = mwc l i s16.toNat) (hne : ¬ s16 = i) (ha : ¬ bfr (nth l s16.toNat) (nth l i.toNat) = true) (hb : ¬ bfr (nth l i.toNat) (nth l s16.toNat) = true) : IntKind.wrap .i64 (s5 + 1) = mwc l i (IntKind.wrap .i64 (s16 + 1)).toNat := by
  have hk := mwc_b l i s16.toNat
  rw [i64_id (by omega) (by omega), i64_id (by omega) (by omega), show (s16 + 1).toNat = s16.toNat + 1 by omega]
  unfold mwc
  rw [show ((s16.toNat : Nat) : Int) = s16 by omega, decide_eq_false hne, Bool.eq_false_iff.2 ha, Bool.eq_false_iff.2 hb, e]
  rfl
theorem mw0 {l : List Fw.Entry} {i s5 s16 : Int} (h0 : 0 ≤ s16) (h1 : s16 ≤ 1000) (e : s5 = mwc l i s16.toNat) (h : s16 = i ∨ bfr (nth l s16.toNat) (nth l i.toNat) = true ∨ bfr (nth l i.toNat) (nth l s16.toNat) = true) : s5 = mwc l i (IntKind.wrap .i64 (s16 + 1)).toNat := by
  rw [i64_id (by omega) (by omega), show (s16 + 1).toNat = s16.toNat + 1 by omega]
  unfold mwc
  rw [show ((s16.toNat : Nat) : Int) = s16 by omega]
  have : (decide (s16 = i) || (bfr (nth l s16.toNat) (nth l i.toNat) || bfr (nth l i.toNat) (nth l s16.toNat))) = true := by
    rcases h with h | h | h <;> simp [h]
  rw [this, e]
  simp
theorem ow1 {l : List Fw.Entry} {i s5 s6 : Int} (h0 : 0 ≤ s6) (h1 : s6 ≤ 1000) (e : s5 = owc l i s6.toNat) (hne : ¬ s6 = i) (h : bfr (nth l s6.toNat) (nth l i.toNat) = true ∨ bfr (nth l i.toNat) (nth l s6.toNat) = true) : IntKind.wrap .i64 (s5 + 1) = owc l i (IntKind.wrap .i64 (s6 + 1)).toNat := by
  have hk := owc_b l i s6.toNat
  rw [i64_id (by omega) (by omega), i64_id (by omega) (by omega), show (s6 + 1).toNat = s6.toNat + 1 by omega]
  unfold owc
  have : (bfr (nth l s6.toNat) (nth l i.toNat) || bfr (nth l i.toNat) (nth l s6.toNat)) = true := by rcases h with h | h <;> simp [h]
  rw [show ((s6.toNat : Nat) : Int) = s6 by omega, decide_eq_false hne, this, e]
  rfl
theorem ow0 {l : List Fw.Entry} {i s5 s6 : Int} (h0 : 0 ≤ s6) (h1 : s6 ≤ 1000) (e : s5 = owc l i s6.toNat) (h : s6 = i ∨ (¬ bfr (nth l s6.toNat) (nth l i.toNat) = true ∧ ¬ bfr (nth l i.toNat) (nth l s6.toNat) = true)) : s5 = owc l i (IntKind.wrap .i64 (s6 + 1)).toNat := by
  rw [i64_id (by omega) (by omega), show (s6 + 1).toNat = s6.toNat + 1 by omega]
  unfold owc
  rw [show ((s6.toNat : Nat) : Int) = s6 by omega]
  by_cases hc : s6 = i
  · rw [decide_eq_true hc, e]; simp
  · rcases h with h | ⟨h, h'⟩
    · exact absurd h hc
    · rw [decide_eq_false hc, Bool.eq_false_iff.2 h, Bool.eq_false_iff.2 h', e]; simp
theorem ow_end {l : List Fw.Entry} {i a b : Int} (h0 : 0 ≤ i) (h1 : i < l.length) (h2 : l.length ≤ 1000) (ha : a = mwc l i l.length) (hb : b = owc l i l.length) : IntKind.wrap .i64 (a + b) = (l.length : Int) - 1 := by
  have := mow l i h0 l.length
  rw [if_pos h1] at this
  rw [ha, hb, this]
  exact i64_id (by omega) (by omega)
theorem c8e : Wp (D8 []) fun y => y.1 = true := by
  rw [E8, P8_52]
  exact w_eq P8_7 (w_some rfl)
theorem o_gqywo3 {p : Prop} (h : p := by (try dsimp only); (intro hh; simp at hh; omega)) : p := h
theorem o_i07n7q {p : Prop} (h : p := by first | assumption | omega | (left; omega) | (subst p3; exact mw1 p0 (by omega) p7 (by assumption) (by assumption) (by assumption)) | (subst p3; exact mw0 p0 (by omega) p7 (Or.inl (by omega))) | (subst p3; exact mw0 p0 (by omega) p7 (Or.inr (Or.inl (by first | assumption | exact Classical.not_not.1 (by assumption))))) | (subst p3; exact mw0 p0 (by omega) p7 (Or.inr (Or.inr (by first | assumption | exact Classical.not_not.1 (by assumption))))) | exact ob12) : p := h
theorem o_v61110 {p : Prop} (h : p := by (try dsimp only); (subst p3; rw [p7]; congr 1; omega)) : p := h
theorem o_re1rx3 {p : Prop} (h : p := by (try dsimp only); first | exact ⟨fun _ _ => by assumption, fun hh => by exfalso; simp (disch := omega) only [i64_id] at *; omega⟩ | exact ⟨fun _ _ => by exfalso; simp (disch := omega) only [i64_id] at *; omega, fun _ => rfl⟩) : p := h
theorem o_idtd81 {p : Prop} (h : p := by first | assumption | rfl | omega | (simp (disch := omega) only [i64_id] at *; omega) | exact ob12) : p := h
theorem o_zh0c8n {p : Prop} (h : p := by first | assumption | omega | (left; omega) | exact ow1 p0 (by omega) p5 (by omega) (Or.inl (by first | assumption | exact Classical.not_not.1 (by assumption))) | exact ow1 p0 (by omega) p5 (by omega) (Or.inr (by first | assumption | exact Classical.not_not.1 (by assumption))) | exact ow1 p0 (by omega) p5 (by omega) (by assumption) | exact ow0 p0 (by omega) p5 (Or.inl (by omega)) | exact ow0 p0 (by omega) p5 (Or.inr ⟨by assumption, by assumption⟩) | exact ow0 p0 (by omega) p5 (Or.inr (not_or.1 (by assumption))) | exact ob12) : p := h
theorem o_3gw1lb {p : Prop} (h : p := by (try dsimp only); first | assumption | (exfalso; exact h8 (ow_end (by omega) (by omega) (by omega) (q7_0 p3 p4) (p5.trans (by congr 1; omega))))) : p := h
theorem o_oculnp {p : Prop} (h : p := by (try dsimp only); first | done | assumption | rfl | (exfalso; exact (‹¬ _ = _›) ((‹(_ ∨ _) → _ = _›) (by assumption)))) : p := h
theorem c5 {x0 : List UInt8} : Wp (D5 x0) fun y => (¬ y.1 = true → x0.length ≤ 1048576) := by
  rw [E5]
  exact w_some o_gqywo3
theorem c9 {x0 : Fw.Entry} {x1 : Fw.Entry} : D9 x0 x1 = some (bfr x0 x1, ()) := by
  exact E9 _ _
theorem c23 {x0 : Int} {x1 : Int} {x2 : Int} : D23 x0 x1 x2 = some (decide (x0 ≥ x1) && decide (x0 ≤ x2), ()) := by
  exact E23 _ _ _
theorem w7_244 (N : Nat) : ∀ {s0 : List Fw.Entry} {s1 : Int} {s5 : Int} {s14 : List Fw.Entry} {s15 : Int} {s16 : Int} (p0 : 0 ≤ s16) (p1 : s16 ≤ s15) (p2 : s15 = s14.length) (p3 : s14 = s0) (p4 : s0.length ≤ 1000) (p5 : 0 ≤ s1) (p6 : s1 < s0.length) (p7 : s5 = mwc s0 s1 s16.toNat) (hN : s15 - s16 ≤ (N : Int)), Wp (L7_244 s0 s1 s5 s14 s15 s16) fun y => y.1 = mwc s0 s1 s0.length := by
  induction N using Nat.strongRecOn with
  | ind N ih =>
    intro s0 s1 s5 s14 s15 s16 p0 p1 p2 p3 p4 p5 p6 p7 hN
    rw [P7_244]
    exact w_ip (fun h1 => w_gp o_i07n7q (w_gp o_i07n7q (w_ip (fun h2 => w_be (c9) (by (try dsimp only); exact (w_gp o_i07n7q (w_ip (fun h4 => w_be (c9) (by (try dsimp only); exact (w_ip (fun h6 => w_eq (P7_1959 _ _ _ _ _ _) (ih (N - 1) o_i07n7q o_i07n7q o_i07n7q o_i07n7q o_i07n7q o_i07n7q o_i07n7q o_i07n7q o_i07n7q ob12)) (fun h6 => w_eq (P7_1959 _ _ _ _ _ _) (ih (N - 1) o_i07n7q o_i07n7q o_i07n7q o_i07n7q o_i07n7q o_i07n7q o_i07n7q o_i07n7q o_i07n7q ob12))))) (fun h4 => w_eq (P7_1959 _ _ _ _ _ _) (ih (N - 1) o_i07n7q o_i07n7q o_i07n7q o_i07n7q o_i07n7q o_i07n7q o_i07n7q o_i07n7q o_i07n7q ob12)))))) (fun h2 => w_gp o_i07n7q (w_eq (P7_1959 _ _ _ _ _ _) (ih (N - 1) o_i07n7q o_i07n7q o_i07n7q o_i07n7q o_i07n7q o_i07n7q o_i07n7q o_i07n7q o_i07n7q ob12)))))) (fun h1 => w_eq (P7_31 _) (w_some o_v61110))
theorem c7 {x0 : List Fw.Entry} {x1 : Int} (p0 : x0.length ≤ 1000) : Wp (D7 x0 x1) fun y => (0 ≤ x1 → x1 < x0.length → y.1 = mwc x0 x1 x0.length) ∧ ((x1 < 0 ∨ x1 ≥ x0.length) → y.1 = 0) := by
  rw [E7]
  exact w_be (c23) (by (try dsimp only); exact (w_ip (fun h2 => w_some o_re1rx3) (fun h2 => (w7_244 _ o_idtd81 o_idtd81 o_idtd81 o_idtd81 o_idtd81 o_idtd81 o_idtd81 o_idtd81 (Int.self_le_toNat _)).mono (fun y q3 => o_re1rx3))))
theorem w3_1012 (N : Nat) : ∀ {s3 : List Fw.Entry} {s4 : Int} {s5 : Int} {s6 : Int} (p0 : 0 ≤ s6) (p1 : s6 ≤ s3.length) (p2 : s3.length ≤ 1000) (p3 : 0 ≤ s4) (p4 : s4 < s3.length) (p5 : s5 = owc s3 s4 s6.toNat) (hN : s3.length - s6 ≤ (N : Int)), Wp (L3_1012 s3 s4 s5 s6) fun y => y.1 = true := by
  induction N using Nat.strongRecOn with
  | ind N ih =>
    intro s3 s4 s5 s6 p0 p1 p2 p3 p4 p5 hN
    rw [P3_1012]
    exact w_ip (fun h1 => w_gp o_zh0c8n (w_gp o_zh0c8n (w_ip (fun h2 => w_be (c9) (by (try dsimp only); exact (w_gp o_zh0c8n (w_gp o_zh0c8n (w_ip (fun h4 => w_be (c9) (by (try dsimp only); exact (w_ip (fun h6 => w_eq (P3_4051 _ _ _ _) (ih (N - 1) o_zh0c8n o_zh0c8n o_zh0c8n o_zh0c8n o_zh0c8n o_zh0c8n o_zh0c8n ob12)) (fun h6 => w_eq (P3_4051 _ _ _ _) (ih (N - 1) o_zh0c8n o_zh0c8n o_zh0c8n o_zh0c8n o_zh0c8n o_zh0c8n o_zh0c8n ob12))))) (fun h4 => w_gp o_zh0c8n (w_eq (P3_4051 _ _ _ _) (ih (N - 1) o_zh0c8n o_zh0c8n o_zh0c8n o_zh0c8n o_zh0c8n o_zh0c8n o_zh0c8n ob12)))))))) (fun h2 => w_gp o_zh0c8n (w_gp o_zh0c8n (w_eq (P3_4051 _ _ _ _) (ih (N - 1) o_zh0c8n o_zh0c8n o_zh0c8n o_zh0c8n o_zh0c8n o_zh0c8n o_zh0c8n ob12))))))) (fun h1 => w_eq (P3_127 _ _ _) (w_bd (c7 o_zh0c8n) (fun y0 ⟨q7_0, q7_1⟩ => w_ip (fun h8 => by (try simp (disch := omega) only [i64_id] at h8); exact w_bd (c8e) (fun y1 q9 => w_some o_3gw1lb)) (fun h8 => by (try simp (disch := omega) only [i64_id] at h8); exact w_some o_3gw1lb))))
theorem c3 {x0 : List UInt8} : Wp (D3 x0) fun y => y.1 = true := by
  rw [E3]
  exact w_bd (c5) (fun y0 q1 => w_ip (fun h2 => w_some o_oculnp) (fun h2 => w_bd (c6 o_ok3k2u) (fun y1 ⟨q3_0, q3_1, q3_2⟩ => w_ip (fun h4 => w_bd (c7 o_ok3k2u) (fun y2 ⟨q5_0, q5_1⟩ => w_ip (fun h6 => w_bd (c8e) (fun y3 q7 => w_some o_oculnp)) (fun h6 => w_some o_oculnp))) (fun h4 => (w3_1012 _ o_ok3k2u o_ok3k2u o_ok3k2u o_ok3k2u o_ok3k2u o_ok3k2u (Int.self_le_toNat _)).mono (fun y q8 => o_oculnp)))))
end Go.Proofs.YtdghkmbppfmifaaGreat.Ri

namespace Go.Proofs.YtdghkmbppfmifaaGreat.Ri
open Go.Proofs.YtdghkmbppfmifaaGreat.Fw
open Go.RowKit
set_option linter.unusedVariables false
set_option maxRecDepth 100000
theorem S0 : Sy Tryz.prog Z0.ti Z0.zr := ⟨tiok, zok, ftok⟩
theorem hm0 : Tryz.prog.follows .mixedOrders = true := by kernel_rfl
theorem Dn_ok (f : Nat) : Ct Z0 Tryz.prog f (Dn f) := Den_ok S0 O0_fit (fxOf_ok Z0 Tryz.prog) (calls_ok O0_fit) (draws_ok hm0 S0) f
theorem close_law {f : Nat} {x : InT τ0 (Z0.sg f)} {y : OutT τ0 (Z0.sg f)} {vi : List (Vx τ0)} {nx : Nat} {r : Value} {us : List Value} {w : World} (h : Dn f x = some y) (hps : ptrs (Z0.sg f).ps = [])
    (hI : canO Z0.O Z0.ti (ptrs (Z0.sg f).ps).length (Z0.sg f).ps (List.range (ptrs (Z0.sg f).ps).length) x = (vi, [], nx)) (hpu : ptrU (Z0.sg f).ps us = [])
    (hO : (canO Z0.O Z0.ti 0 (Z0.sg f).outs [] y).1 = [.v r]) (hr : ∀ θ, RepL θ (Old w) w vi us) :
    Calls Tryz.prog (Z0.bs f) us.toArray w fun e w' => e = .returned r ∧ Below w.heap.size w w' := by
  obtain ⟨_, hc⟩ := Dn_ok f x y h
  have hc := hc (Old w) (Old w) w (fun _ => ⟨none, 0, 0⟩) us (fun _ h => h) (fun _ h => h) (by rw [hI]; exact hr _) (by rw [hI]; exact ⟨fun r e h => (by cases h), fun r r' e e' b b' h => (by cases h)⟩)
  refine hc.mono fun e w' ⟨v, hv, hk, _, S', _, _, us', hvp, hl, hall⟩ => ?_
  obtain ⟨θ', _, h1, _⟩ := hall 0 [] (fun _ => ⟨none, 0, 0⟩) (by rw [hps]; rfl) List.nodup_nil (fun q hq => by cases hq) (by rw [hpu]; rfl)
  rw [hO, hpu, List.append_nil] at h1
  obtain ⟨u, r', e1, ⟨e2, _⟩, e3⟩ := h1
  obtain rfl := e3
  refine ⟨?_, hk.below⟩
  rw [hv, hvp, e1, e2]
  rfl
theorem oc3 (p0 : List UInt8) {v0 : Value} {w : World} (hp0 : SlR (Old w) w v0 p0) : Calls Tryz.prog 3 [v0].toArray w (fun e w' => e = .returned (.bool true) ∧ Below w.heap.size w w') := by
  have h : D3 p0 = some (true, ()) := by
    obtain ⟨⟨b, u⟩, h1, h2⟩ := c3 (x0 := p0)
    rw [h1]
    obtain rfl : b = true := h2
    rfl
  exact close_law (f := 3) (y := (true, ())) (vi := [.ro 5 p0]) (nx := 0) (r := .bool true) h rfl (by kernel_rfl) rfl (by kernel_rfl) (fun θ => ⟨_, _, rfl, hp0, rfl⟩)
end Go.Proofs.YtdghkmbppfmifaaGreat.Ri
