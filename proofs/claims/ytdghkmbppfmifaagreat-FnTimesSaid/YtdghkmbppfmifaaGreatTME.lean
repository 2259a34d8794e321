/-
  The texts W28, W29, W30, W31, W32, W33, W34, RiC of this proof, one behind the other: what each proves stands at its head. No condition.
-/
import Derived.Test.YtdghkmbppfmifaaGreatTMA
import Derived.Test.YtdghkmbppfmifaaGreatTMB
import Derived.Test.YtdghkmbppfmifaaGreatTMC
import Derived.Test.YtdghkmbppfmifaaGreatTMD
namespace Go.Proofs.YtdghkmbppfmifaaGreat.Ri
open Go.Proofs.YtdghkmbppfmifaaGreat.Fw
set_option linter.unusedVariables false
set_option linter.unusedSimpArgs false
set_option maxRecDepth 100000
def bfr (a b : Fw.Entry) : Bool := decide (a.Ended ≤ b.Began) && decide (a.Ended < b.Ended)
def mwc (l : List Fw.Entry) (i : Int) : Nat → Int
  | 0 => 0
  | k + 1 => mwc l i k + (bif decide ((k : Int) = i) || (bfr (nth l k) (nth l i.toNat) || bfr (nth l i.toNat) (nth l k)) then 0 else 1)
theorem mwc_b (l : List Fw.Entry) (i : Int) : ∀ k, 0 ≤ mwc l i k ∧ mwc l i k ≤ k
  | 0 => ⟨Int.le_refl _, Int.le_refl _⟩
  | k + 1 => by
    have := mwc_b l i k
    unfold mwc
    cases decide ((k : Int) = i) || (bfr (nth l k) (nth l i.toNat) || bfr (nth l i.toNat) (nth l k)) <;> simp <;> omega
theorem mw1 {l : List Fw.Entry} {i s5 s16 : Int} (h0 : 0 ≤ s16) (h1 : s16 ≤ 1000) (e : s5 = mwc l i s16.toNat) (hne : ¬ s16 = i) (ha : ¬ bfr (nth l s16.toNat) (nth l i.toNat) = true) (hb : ¬ bfr (nth l i.toNat) (nth l s16.toNat) = true) : IntKind.wrap .i64 (s5 + 1) = mwc l i (IntKind.wrap .i64 (s16 + 1)).toNat := by
  have hk := mwc_b l i s16.toNat
  rw [i64_id (by omega) (by omega), i64_id (by omega) (by omega), show (s16 + 1).toNat = s16.toNat + 1 by omega]
  unfold mwc
  rw [show ((s16.toNat : Nat) : Int) = s16 by omega, decide_eq_false hne, Bool.eq_false_iff.2 ha, Bool.eq_false_iff.2 hb, e]
  rfl
theorem mw0 {l : List Fw.Entry} {i s5 s16 : Int} (h0 : 0 ≤ s16) (h1 : s16 ≤ 1000) (e : s5 = mwc l i s16.toNat) (h : s16 = i ∨ bfr (nth l s16.toNat) (nth l i.toNat) = true ∨ bfr (nth l i.toNat) (nth l s16.toNat) = true) : s5 = mwc l i (IntKind.wrap .i64 (s16 + 1)).toNat := by
  rw [i64_id (by omega) (by omega), show (s16 + 1).toNat = s16.toNat + 1 by omega]
  unfold mwc
  rw [show ((s16.toNat : Nat) : Int) = s16 by omega]
  have : (decide (s16 = i) || (bfr (nth l s16.toNat) (nth l i.toNat) || bfr (nth l i.toNat) (nth l s16.toNat))) = true := by
    rcases h with h | h | h <;> simp [h]
  rw [this, e]
  simp
theorem o_gqywo3 {p : Prop} (h : p := by (try dsimp only); (intro hh; simp at hh; omega)) : p := h
theorem o_i07n7q {p : Prop} (h : p := by first | assumption | omega | (left; omega) | (subst p3; exact mw1 p0 (by omega) p7 (by assumption) (by assumption) (by assumption)) | (subst p3; exact mw0 p0 (by omega) p7 (Or.inl (by omega))) | (subst p3; exact mw0 p0 (by omega) p7 (Or.inr (Or.inl (by first | assumption | exact Classical.not_not.1 (by assumption))))) | (subst p3; exact mw0 p0 (by omega) p7 (Or.inr (Or.inr (by first | assumption | exact Classical.not_not.1 (by assumption))))) | exact ob12) : p := h
theorem o_v61110 {p : Prop} (h : p := by (try dsimp only); (subst p3; rw [p7]; congr 1; omega)) : p := h
theorem o_re1rx3 {p : Prop} (h : p := by (try dsimp only); first | exact ⟨fun _ _ => by assumption, fun hh => by exfalso; simp (disch := omega) only [i64_id] at *; omega⟩ | exact ⟨fun _ _ => by exfalso; simp (disch := omega) only [i64_id] at *; omega, fun _ => rfl⟩) : p := h
theorem o_idtd81 {p : Prop} (h : p := by first | assumption | rfl | omega | (simp (disch := omega) only [i64_id] at *; omega) | exact ob12) : p := h
theorem c5 {x0 : List UInt8} : Wp (D5 x0) fun y => (¬ y.1 = true → x0.length ≤ 1048576) := by
  rw [E5]
  exact w_some o_gqywo3
theorem c9 {x0 : Fw.Entry} {x1 : Fw.Entry} : D9 x0 x1 = some (bfr x0 x1, ()) := by
  exact E9 _ _
theorem c23 {x0 : Int} {x1 : Int} {x2 : Int} : D23 x0 x1 x2 = some (decide (x0 ≥ x1) && decide (x0 ≤ x2), ()) := by
  exact E23 _ _ _
theorem w7_244 (N : Nat) : ∀ {s0 : List Fw.Entry} {s1 : Int} {s5 : Int} {s14 : List Fw.Entry} {s15 : Int} {s16 : Int} (p0 : 0 ≤ s16) (p1 : s16 ≤ s15) (p2 : s15 = s14.length) (p3 : s14 = s0) (p4 : s0.length ≤ 1000) (p5 : 0 ≤ s1) (p6 : s1 < s0.length) (p7 : s5 = mwc s0 s1 s16.toNat) (hN : s15 - s16 ≤ (N : Int)), Wp (L7_244 s0 s1 s5 s14 s15 s16) fun y => y.1 = mwc s0 s1 s0.length := by
  induction N using Nat.strongRecOn with
  | ind N ih =>
    intro s0 s1 s5 s14 s15 s16 p0 p1 p2 p3 p4 p5 p6 p7 hN
    rw [P7_244]
    exact w_ip (fun h1 => w_gp o_i07n7q (w_gp o_i07n7q (w_ip (fun h2 => w_be (c9) (by (try dsimp only); exact (w_gp o_i07n7q (w_ip (fun h4 => w_be (c9) (by (try dsimp only); exact (w_ip (fun h6 => w_eq (P7_1959 _ _ _ _ _ _) (ih (N - 1) o_i07n7q o_i07n7q o_i07n7q o_i07n7q o_i07n7q o_i07n7q o_i07n7q o_i07n7q o_i07n7q ob12)) (fun h6 => w_eq (P7_1959 _ _ _ _ _ _) (ih (N - 1) o_i07n7q o_i07n7q o_i07n7q o_i07n7q o_i07n7q o_i07n7q o_i07n7q o_i07n7q o_i07n7q ob12))))) (fun h4 => w_eq (P7_1959 _ _ _ _ _ _) (ih (N - 1) o_i07n7q o_i07n7q o_i07n7q o_i07n7q o_i07n7q o_i07n7q o_i07n7q o_i07n7q o_i07n7q ob12)))))) (fun h2 => w_gp o_i07n7q (w_eq (P7_1959 _ _ _ _ _ _) (ih (N - 1) o_i07n7q o_i07n7q o_i07n7q o_i07n7q o_i07n7q o_i07n7q o_i07n7q o_i07n7q o_i07n7q ob12)))))) (fun h1 => w_eq (P7_31 _) (w_some o_v61110))
theorem c7 {x0 : List Fw.Entry} {x1 : Int} (p0 : x0.length ≤ 1000) : Wp (D7 x0 x1) fun y => (0 ≤ x1 → x1 < x0.length → y.1 = mwc x0 x1 x0.length) ∧ ((x1 < 0 ∨ x1 ≥ x0.length) → y.1 = 0) := by
  rw [E7]
  exact w_be (c23) (by (try dsimp only); exact (w_ip (fun h2 => w_some o_re1rx3) (fun h2 => (w7_244 _ o_idtd81 o_idtd81 o_idtd81 o_idtd81 o_idtd81 o_idtd81 o_idtd81 o_idtd81 (Int.self_le_toNat _)).mono (fun y q3 => o_re1rx3))))
end Go.Proofs.YtdghkmbppfmifaaGreat.Ri

namespace Go.Proofs.YtdghkmbppfmifaaGreat.Ri
open Go.Proofs.YtdghkmbppfmifaaGreat.Fw
set_option linter.unusedVariables false
set_option linter.unusedSimpArgs false
set_option maxRecDepth 100000
def RTu (l : List Fw.Entry) (i : Int) (k : Int) : Prop := (∀ a b : Nat, (a : Int) < i → b < a → ¬ bfr (nth l a) (nth l b) = true) ∧ ∀ b : Nat, (b : Int) < k → ¬ bfr (nth l i.toNat) (nth l b) = true
abbrev RT (l : List Fw.Entry) : Prop := RTu l l.length 0
theorem RTu.z (l : List Fw.Entry) : RTu l 0 0 := ⟨fun a b h => by omega, fun b h => by omega⟩
theorem RTu.step {l : List Fw.Entry} {i k : Int} (h : RTu l i k) (h0 : 0 ≤ k) (h1 : k ≤ 1000) (hn : ¬ bfr (nth l i.toNat) (nth l k.toNat) = true) : RTu l i (IntKind.wrap .i64 (k + 1)) := by
  rw [i64_id (by omega) (by omega)]
  refine ⟨h.1, fun b hb => ?_⟩
  by_cases e : (b : Int) = k
  · have : k.toNat = b := by omega
    rw [this] at hn
    exact hn
  · exact h.2 b (by omega)
theorem RTu.next {l : List Fw.Entry} {i k : Int} (h : RTu l i k) (h0 : 0 ≤ i) (h1 : i ≤ 1000) (hk : i ≤ k) : RTu l (IntKind.wrap .i64 (i + 1)) 0 := by
  rw [i64_id (by omega) (by omega)]
  refine ⟨fun a b ha hb => ?_, fun b hb => by omega⟩
  by_cases e : (a : Int) = i
  · have : i.toNat = a := by omega
    have h2 := h.2 b (by omega)
    rw [this] at h2
    exact h2
  · exact h.1 a b (by omega) hb
theorem RTu.no {l : List Fw.Entry} {i k : Int} (h0 : 0 ≤ k) (hk : k < i) (hi : i < l.length) (hb : bfr (nth l i.toNat) (nth l k.toNat) = true) : ¬ RT l := fun h => h.1 i.toNat k.toNat (by omega) (by omega) hb
theorem RTu.end {l : List Fw.Entry} {i k : Int} (h : RTu l i k) (hi : l.length ≤ i) : RT l := ⟨fun a b ha hb => h.1 a b (by omega) hb, fun b hb => by omega⟩
theorem nth_cut0 {α : Type} [Inhabited α] {l : List α} {i j : Nat} (h : j < i) (hi : i ≤ l.length) : nth (cutL l 0 i) j = nth l j := by
  unfold cutL nth
  rw [List.drop_zero]
  have h1 : (List.take i l)[j]? = l[j]? := by rw [List.getElem?_take]; simp [h]
  simp [List.getD, h1]
def RIu (l : List Fw.Entry) (i : Int) : Prop := ∀ a : Nat, (a : Int) < i → (nth l a).Began ≤ (nth l a).Ended ∧ (0 < a → (nth l (a - 1)).Ended < (nth l a).Ended)
abbrev RIs (l : List Fw.Entry) : Prop := RIu l l.length
theorem RIu.z (l : List Fw.Entry) : RIu l 0 := fun a h => by omega
theorem RIu.step {l : List Fw.Entry} {i : Int} {X : Prop} (h : RIu l i) (h0 : 0 ≤ i) (h1 : i ≤ 1000) (hn : ¬((nth l i.toNat).Began > (nth l i.toNat).Ended ∨ (i > 0 ∧ X))) (hX : ¬ X → (nth l (i - 1).toNat).Ended < (nth l i.toNat).Ended) : RIu l (IntKind.wrap .i64 (i + 1)) := by
  intro a ha
  rw [i64_id (by omega) (by omega)] at ha
  by_cases e : (a : Int) = i
  · have e2 : i.toNat = a := by omega
    have h2 := not_or.1 hn
    rw [e2] at h2 hX
    refine ⟨by omega, fun hp => ?_⟩
    have h3 := hX fun x => h2.2 ⟨by omega, x⟩
    have e3 : (i - 1).toNat = a - 1 := by omega
    rw [e3] at h3
    exact h3
  · exact h a (by omega)
theorem RIu.no {l : List Fw.Entry} {i : Int} (h0 : 0 ≤ i) (h1 : i < l.length) (h2 : l.length ≤ 1000) (hn : (nth l i.toNat).Began > (nth l i.toNat).Ended ∨ (i > 0 ∧ (nth l i.toNat).Ended ≤ (nth l (i - 1).toNat).Ended)) : ¬ RIs l := fun h => by
  have h3 := h i.toNat (by omega)
  rcases hn with hn | ⟨hn, hm⟩
  · omega
  · have e3 : (i - 1).toNat = i.toNat - 1 := by omega
    rw [e3] at hm
    have := h3.2 (by omega)
    omega
theorem RIu.end {l : List Fw.Entry} {i : Int} (h : RIu l i) (hi : l.length ≤ i) : RIs l := fun a ha => h a (by omega)
def spn (l : List Fw.Entry) (t : Int) : Nat → List Int
  | 0 => []
  | k + 1 => spn l t k ++ (bif decide ((nth l k).Began ≤ t) && decide ((nth l k).Ended > t) then [(k : Int)] else [])
theorem spn_len (l : List Fw.Entry) (t : Int) : ∀ k, (spn l t k).length ≤ k
  | 0 => Nat.le_refl _
  | k + 1 => by
    have := spn_len l t k
    unfold spn
    rw [List.length_append]
    cases decide ((nth l k).Began ≤ t) && decide ((nth l k).Ended > t) <;> simp <;> omega
theorem sp1 {l : List Fw.Entry} {t i : Int} (h0 : 0 ≤ i) (h1 : i ≤ 1000) (h : (nth l i.toNat).Began ≤ t ∧ (nth l i.toNat).Ended > t) {e : List Int} (he : e = spn l t i.toNat) : e ++ [i] = spn l t (IntKind.wrap .i64 (i + 1)).toNat := by
  rw [i64_id (by omega) (by omega), show (i + 1).toNat = i.toNat + 1 by omega]
  unfold spn
  rw [decide_eq_true h.1, decide_eq_true h.2, he, show ((i.toNat : Nat) : Int) = i by omega]
  rfl
theorem sp0 {l : List Fw.Entry} {t i : Int} (h0 : 0 ≤ i) (h1 : i ≤ 1000) (h : ¬((nth l i.toNat).Began ≤ t ∧ (nth l i.toNat).Ended > t)) {e : List Int} (he : e = spn l t i.toNat) : e = spn l t (IntKind.wrap .i64 (i + 1)).toNat := by
  rw [i64_id (by omega) (by omega), show (i + 1).toNat = i.toNat + 1 by omega]
  unfold spn
  have : (decide ((nth l i.toNat).Began ≤ t) && decide ((nth l i.toNat).Ended > t)) = false := by
    rw [Bool.and_eq_false_iff, decide_eq_false_iff_not, decide_eq_false_iff_not]
    exact Decidable.not_and_iff_or_not.1 h
  rw [this, he, cond_false, List.append_nil]
theorem sp1n {l : List Fw.Entry} {t i : Int} (h0 : 0 ≤ i) (h1 : i ≤ 1000) (h : (nth l i.toNat).Began ≤ t ∧ (nth l i.toNat).Ended > t) (he : [] = spn l t i.toNat) : [i] = spn l t (IntKind.wrap .i64 (i + 1)).toNat := sp1 h0 h1 h he
theorem o_ptcfh6 {p : Prop} (h : p := by first | assumption | omega | exact RTu.step p4 (by omega) (by omega) (by first | assumption | exact Classical.not_not.1 (by assumption)) | (have e : s4 = s3 := by omega; subst e; assumption) | exact ob12) : p := h
theorem o_s88imc {p : Prop} (h : p := by (try dsimp only); exact p5 (RTu.no (i := s3) (k := s4) p0 (by omega) (by omega) (by first | assumption | exact Classical.not_not.1 (by assumption)))) : p := h
theorem o_cxuw3c {p : Prop} (h : p := by first | assumption | omega | exact RTu.next (by assumption) (by omega) (by omega) (Int.le_refl _) | exact (fun hh => ⟨fun hc => (by cases hc), fun hc => absurd hc hh⟩) | exact ob12) : p := h
theorem o_z1fdwg {p : Prop} (h : p := by (try dsimp only); first | exact ⟨fun _ => RTu.end p3 (by omega), fun _ => rfl⟩ | assumption) : p := h
theorem o_cg6gg4 {p : Prop} (h : p := by first | assumption | omega | exact RTu.z _ | exact ob12) : p := h
theorem o_ww48qy {p : Prop} (h : p := by first | assumption | omega | (rw [p6, cutL_len]; omega) | (refine RTu.step p4 (by omega) (by omega) ?_; rw [← p8, ← nth_cut0 (l := s0) (i := s9.toNat) (j := s18.toNat) (by omega) (by omega), ← p6]; exact (by first | assumption | exact Classical.not_not.1 (by assumption))) | (have e : s18 = s9 := by omega; subst e; assumption) | exact ob12) : p := h
theorem o_o1b4ep {p : Prop} (h : p := by (try dsimp only); (refine p5 (RTu.no (i := s9) (k := s18) p0 (by omega) (by omega) ?_); rw [← p8, ← nth_cut0 (l := s0) (i := s9.toNat) (j := s18.toNat) (by omega) (by omega), ← p6]; exact (by first | assumption | exact Classical.not_not.1 (by assumption)))) : p := h
theorem o_rhel5i {p : Prop} (h : p := by first | assumption | omega | rfl | (subst p4; first | omega | rfl | (rw [cutL_len]; omega)) | exact RTu.next (by assumption) (by omega) (by omega) (Int.le_refl _) | exact (fun hh => ⟨fun hc => (by cases hc), fun hc => absurd hc hh⟩) | exact ob12) : p := h
theorem o_k6ysl6 {p : Prop} (h : p := by first | assumption | omega | rfl | exact RTu.z _ | exact ob12) : p := h
theorem o_c06f9p {p : Prop} (h : p := by first | assumption | omega | (by_cases hz : s3 > 0; · left; rw [i64_id (by omega) (by omega)]; omega; · right; exact fun hc => hz hc.2) | (left; omega) | exact RIu.step (by assumption) (by omega) (by omega) (by assumption) (fun hx => by omega) | exact ob12) : p := h
theorem o_yikvsa {p : Prop} (h : p := by (try dsimp only); first | exact ⟨fun _ => RIu.end p3 (by omega), fun _ => rfl⟩ | exact ⟨fun hc => (by cases hc), fun hc => absurd hc (RIu.no p0 (by omega) p2 (by assumption))⟩) : p := h
theorem o_dzm5ke {p : Prop} (h : p := by first | assumption | omega | exact RIu.z _ | exact ob12) : p := h
theorem o_qvb0x6 {p : Prop} (h : p := by first | assumption | omega | (subst p4; omega) | (subst p4; by_cases hz : s7 > 0; · left; rw [i64_id (by omega) (by omega)]; omega; · right; exact fun hc => hz hc.2) | (left; omega) | (subst p4; exact RIu.step (by assumption) (by omega) (by omega) (by assumption) (fun hx => by omega)) | exact ob12) : p := h
theorem o_b332a1 {p : Prop} (h : p := by (try dsimp only); (subst p4; first | exact ⟨fun _ => RIu.end p3 (by omega), fun _ => rfl⟩ | exact ⟨fun hc => (by cases hc), fun hc => absurd hc (RIu.no p0 (by omega) p2 (by assumption))⟩)) : p := h
theorem o_psvxbe {p : Prop} (h : p := by first | assumption | omega | rfl | exact RIu.z _ | exact ob12) : p := h
theorem o_a8wqrk {p : Prop} (h : p := by first | assumption | omega | (have hl := spn_len s0 s1 s6.toNat; rw [← p3] at hl; omega) | exact sp1 p0 (by omega) (by assumption) p3 | exact sp0 p0 (by omega) (by assumption) p3 | (left; omega) | exact ob12) : p := h
theorem o_hiquul {p : Prop} (h : p := by (try dsimp only); (rw [p3]; congr 1; omega)) : p := h
theorem o_iyeudh {p : Prop} (h : p := by first | assumption | omega | (have hl := spn_len s8 s1 s10.toNat; rw [← p4] at hl; omega) | exact sp1 p0 (by omega) (by assumption) p4 | exact sp0 p0 (by omega) (by assumption) p4 | exact ob12) : p := h
theorem o_iwqnd1 {p : Prop} (h : p := by (try dsimp only); (rw [p4]; congr 1; omega)) : p := h
theorem o_xim752 {p : Prop} (h : p := by first | assumption | omega | exact sp1n p0 (by omega) (by assumption) p4 | exact sp0 p0 (by omega) (by assumption) p4 | exact ob12) : p := h
theorem o_jowx8x {p : Prop} (h : p := by (try dsimp only); first | assumption | (rw [p4]; congr 1; omega)) : p := h
theorem o_55drcd {p : Prop} (h : p := by first | assumption | omega | (subst p3; omega) | exact ob12) : p := h
theorem o_j57ylj {p : Prop} (h : p := by (try dsimp only); first | done | rfl | assumption | (exfalso; subst p3; exact (‹¬ _ = _›) rfl)) : p := h
theorem o_fumkbh {p : Prop} (h : p := by (try dsimp only); first | done | rfl | assumption | (exfalso; subst p1; exact (‹¬ _ = _›) rfl)) : p := h
theorem o_hyj3b8 {p : Prop} (h : p := by first | assumption | omega | (subst p1; omega) | exact ob12) : p := h
theorem o_frf0uc {p : Prop} (h : p := by first | assumption | omega | (left; omega) | exact mw1 p0 (by omega) p5 (by assumption) (by assumption) (by assumption) | exact mw0 p0 (by omega) p5 (Or.inl (by omega)) | exact mw0 p0 (by omega) p5 (Or.inr (Or.inl (by first | assumption | exact Classical.not_not.1 (by assumption)))) | exact mw0 p0 (by omega) p5 (Or.inr (Or.inr (by first | assumption | exact Classical.not_not.1 (by assumption)))) | exact ob12) : p := h
theorem o_rlbrag {p : Prop} (h : p := by (try dsimp only); first | assumption | (rw [p5]; congr 1; omega) | (exfalso; simp (disch := omega) only [i64_id] at *; omega)) : p := h
theorem c16 {x0 : Fw.Entry} {x1 : Fw.Entry} : D16 x0 x1 = some (bfr x0 x1, ()) := by
  exact E16 _ _
theorem w14_3364 (N : Nat) : ∀ {s0 : List Fw.Entry} {s3 : Int} {s4 : Int} {Q : Bool × Unit → Prop} (p0 : 0 ≤ s4) (p1 : s4 ≤ s3) (p2 : s3 < s0.length) (p3 : s0.length ≤ 1000) (p4 : RTu s0 s3 s4) (p5 : (¬ RT s0 → Q (false, ()))) (hN : s3 - s4 ≤ (N : Int)) (hk : RTu s0 s3 s3 → Wp (L14_211 s0 s3) Q), Wp (L14_3364 s0 s3 s4) Q := by
  induction N using Nat.strongRecOn with
  | ind N ih =>
    intro s0 s3 s4 Q p0 p1 p2 p3 p4 p5 hN hk
    rw [P14_3364]
    exact w_ip (fun h1 => w_gp o_ptcfh6 (w_gp o_ptcfh6 (w_be (c16) (by (try dsimp only); exact (w_ip (fun h3 => w_some o_s88imc) (fun h3 => ih (N - 1) o_ptcfh6 o_ptcfh6 o_ptcfh6 o_ptcfh6 o_ptcfh6 o_ptcfh6 o_ptcfh6 ob12 hk)))))) (fun h1 => hk o_ptcfh6)
theorem w14_52 (N : Nat) : ∀ {s0 : List Fw.Entry} {s3 : Int} (p0 : 0 ≤ s3) (p1 : s3 ≤ s0.length) (p2 : s0.length ≤ 1000) (p3 : RTu s0 s3 0) (hN : s0.length - s3 ≤ (N : Int)), Wp (L14_52 s0 s3) fun y => (y.1 = true ↔ RT s0) := by
  induction N using Nat.strongRecOn with
  | ind N ih =>
    intro s0 s3 p0 p1 p2 p3 hN
    rw [P14_52]
    exact w_ip (fun h1 => w14_3364 _ o_cxuw3c o_cxuw3c o_cxuw3c o_cxuw3c o_cxuw3c o_cxuw3c (Int.self_le_toNat _) (fun k2_0 => w_eq (P14_211 _ _) (ih (N - 1) o_cxuw3c o_cxuw3c o_cxuw3c o_cxuw3c o_cxuw3c ob12))) (fun h1 => w_eq (P14_7) (w_some o_z1fdwg))
theorem c14 {x0 : List Fw.Entry} (p0 : x0.length ≤ 1000) : Wp (D14 x0) fun y => (y.1 = true ↔ RT x0) := by
  rw [E14]
  exact (w14_52 _ o_cg6gg4 o_cg6gg4 o_cg6gg4 o_cg6gg4 (Int.self_le_toNat _)).mono (fun y q1 => o_21uf74)
theorem w13_13516 (N : Nat) : ∀ {s0 : List Fw.Entry} {s7 : List Fw.Entry} {s8 : Int} {s9 : Int} {s16 : List Fw.Entry} {s17 : Int} {s18 : Int} {e0_0 : Int} {e0_1 : Int} {e0_2 : Int} {e0_3 : List Fw.Step} {e0_4 : List Fw.Answer} {e0_5 : Int} {e0_6 : Int} {e0_7 : Bool} {Q : Bool × Unit → Prop} (p0 : 0 ≤ s18) (p1 : s18 ≤ s9) (p2 : s9 < s0.length) (p3 : s0.length ≤ 1000) (p4 : RTu s0 s9 s18) (p5 : (¬ RT s0 → Q (false, ()))) (p6 : s16 = cutL s0 0 s9.toNat) (p7 : s17 = s9) (p8 : (⟨e0_0, e0_1, e0_2, e0_3, e0_4, e0_5, e0_6, e0_7⟩ : Fw.Entry) = nth s0 s9.toNat) (hN : s9 - s18 ≤ (N : Int)) (hk : RTu s0 s9 s9 → Wp (L13_423 s0 s7 s8 s9) Q), Wp (L13_13516 s0 s7 s8 s9 s16 s17 s18 e0_0 e0_1 e0_2 e0_3 e0_4 e0_5 e0_6 e0_7) Q := by
  induction N using Nat.strongRecOn with
  | ind N ih =>
    intro s0 s7 s8 s9 s16 s17 s18 e0_0 e0_1 e0_2 e0_3 e0_4 e0_5 e0_6 e0_7 Q p0 p1 p2 p3 p4 p5 p6 p7 p8 hN hk
    rw [P13_13516]
    exact w_ip (fun h1 => w_gp o_ww48qy (w_be (c9) (by (try dsimp only); exact (w_ip (fun h3 => w_some o_o1b4ep) (fun h3 => ih (N - 1) o_ww48qy o_ww48qy o_ww48qy o_ww48qy o_ww48qy o_ww48qy o_ww48qy o_ww48qy o_ww48qy o_ww48qy ob12 hk))))) (fun h1 => hk o_ww48qy)
theorem w13_52 (N : Nat) : ∀ {s0 : List Fw.Entry} {s7 : List Fw.Entry} {s8 : Int} {s9 : Int} (p0 : 0 ≤ s9) (p1 : s9 ≤ s0.length) (p2 : s0.length ≤ 1000) (p3 : RTu s0 s9 0) (p4 : s7 = s0) (p5 : s8 = s0.length) (hN : s0.length - s9 ≤ (N : Int)), Wp (L13_52 s0 s7 s8 s9) fun y => (y.1 = true ↔ RT s0) := by
  induction N using Nat.strongRecOn with
  | ind N ih =>
    intro s0 s7 s8 s9 p0 p1 p2 p3 p4 p5 hN
    rw [P13_52]
    exact w_ip (fun h1 => w_gp o_rhel5i (w_gp o_rhel5i (w13_13516 _ o_rhel5i o_rhel5i o_rhel5i o_rhel5i o_rhel5i o_rhel5i o_rhel5i o_rhel5i o_rhel5i (Int.self_le_toNat _) (fun k2_0 => w_eq (P13_423 _ _ _ _) (ih (N - 1) o_rhel5i o_rhel5i o_rhel5i o_rhel5i o_rhel5i o_rhel5i o_rhel5i ob12))))) (fun h1 => w_eq (P13_7) (w_some o_z1fdwg))
theorem c13 {x0 : List Fw.Entry} (p0 : x0.length ≤ 1000) : Wp (D13 x0) fun y => (y.1 = true ↔ RT x0) := by
  rw [E13]
  exact (w13_52 _ o_k6ysl6 o_k6ysl6 o_k6ysl6 o_k6ysl6 o_k6ysl6 o_k6ysl6 (Int.self_le_toNat _)).mono (fun y q1 => o_21uf74)
theorem w15_52 (N : Nat) : ∀ {s0 : List Fw.Entry} {s3 : Int} (p0 : 0 ≤ s3) (p1 : s3 ≤ s0.length) (p2 : s0.length ≤ 1000) (p3 : RIu s0 s3) (hN : s0.length - s3 ≤ (N : Int)), Wp (L15_52 s0 s3) fun y => (y.1 = true ↔ RIs s0) := by
  induction N using Nat.strongRecOn with
  | ind N ih =>
    intro s0 s3 p0 p1 p2 p3 hN
    rw [P15_52]
    exact w_ip (fun h1 => w_gp o_c06f9p (w_gp o_c06f9p (w_gp o_c06f9p (w_gp o_c06f9p (w_ip (fun h2 => by (try simp (disch := omega) only [i64_id] at h2); exact w_some o_yikvsa) (fun h2 => by (try simp (disch := omega) only [i64_id] at h2); exact ih (N - 1) o_c06f9p o_c06f9p o_c06f9p o_c06f9p o_c06f9p ob12)))))) (fun h1 => w_eq (P15_7) (w_some o_yikvsa))
theorem c15 {x0 : List Fw.Entry} (p0 : x0.length ≤ 1000) : Wp (D15 x0) fun y => (y.1 = true ↔ RIs x0) := by
  rw [E15]
  exact (w15_52 _ o_dzm5ke o_dzm5ke o_dzm5ke o_dzm5ke (Int.self_le_toNat _)).mono (fun y q1 => o_21uf74)
theorem w8_52 (N : Nat) : ∀ {s0 : List Fw.Entry} {s5 : List Fw.Entry} {s6 : Int} {s7 : Int} (p0 : 0 ≤ s7) (p1 : s7 ≤ s0.length) (p2 : s0.length ≤ 1000) (p3 : RIu s0 s7) (p4 : s5 = s0) (p5 : s6 = s0.length) (hN : s0.length - s7 ≤ (N : Int)), Wp (L8_52 s0 s5 s6 s7) fun y => (y.1 = true ↔ RIs s0) := by
  induction N using Nat.strongRecOn with
  | ind N ih =>
    intro s0 s5 s6 s7 p0 p1 p2 p3 p4 p5 hN
    rw [P8_52]
    exact w_ip (fun h1 => w_gp o_qvb0x6 (w_gp o_qvb0x6 (w_ip (fun h2 => by (try simp (disch := omega) only [i64_id] at h2); exact w_some o_b332a1) (fun h2 => by (try simp (disch := omega) only [i64_id] at h2); exact ih (N - 1) o_qvb0x6 o_qvb0x6 o_qvb0x6 o_qvb0x6 o_qvb0x6 o_qvb0x6 o_qvb0x6 ob12)))) (fun h1 => w_eq (P8_7) (w_some o_b332a1))
theorem c8t {x0 : List Fw.Entry} (p0 : x0.length ≤ 1000) : Wp (D8 x0) fun y => (y.1 = true ↔ RIs x0) := by
  rw [E8]
  exact (w8_52 _ o_psvxbe o_psvxbe o_psvxbe o_psvxbe o_psvxbe o_psvxbe (Int.self_le_toNat _)).mono (fun y q1 => o_21uf74)
theorem w19_116 (N : Nat) : ∀ {s0 : List Fw.Entry} {s1 : Int} {s6 : Int} {e0 : List Int} (p0 : 0 ≤ s6) (p1 : s6 ≤ s0.length) (p2 : s0.length ≤ 1000) (p3 : e0 = spn s0 s1 s6.toNat) (hN : s0.length - s6 ≤ (N : Int)), Wp (L19_116 s0 s1 s6 e0) fun y => y.1 = spn s0 s1 s0.length := by
  induction N using Nat.strongRecOn with
  | ind N ih =>
    intro s0 s1 s6 e0 p0 p1 p2 p3 hN
    rw [P19_116]
    exact w_ip (fun h1 => w_gp o_a8wqrk (w_gp o_a8wqrk (w_ip (fun h2 => w_gp o_a8wqrk (w_eq (P19_467 _ _ _ _) (ih (N - 1) o_a8wqrk o_a8wqrk o_a8wqrk o_a8wqrk o_a8wqrk ob12))) (fun h2 => w_eq (P19_467 _ _ _ _) (ih (N - 1) o_a8wqrk o_a8wqrk o_a8wqrk o_a8wqrk o_a8wqrk ob12))))) (fun h1 => w_eq (P19_15 _) (w_some o_hiquul))
theorem c19 {x0 : List Fw.Entry} {x1 : Int} (p0 : x0.length ≤ 1000) : Wp (D19 x0 x1) fun y => y.1 = spn x0 x1 x0.length := by
  rw [E19]
  exact (w19_116 _ o_ok3k2u o_ok3k2u o_ok3k2u o_ok3k2u (Int.self_le_toNat _)).mono (fun y q1 => o_21uf74)
theorem w18_116b (N : Nat) : ∀ {s1 : Int} {s8 : List Fw.Entry} {s9 : Int} {s10 : Int} {e0 : List Int} (p0 : 0 ≤ s10) (p1 : s10 ≤ s8.length) (p2 : s8.length ≤ 1000) (p3 : s9 = s8.length) (p4 : e0 = spn s8 s1 s10.toNat) (hN : s8.length - s10 ≤ (N : Int)), Wp (L18_116b s1 s8 s9 s10 e0) fun y => y.1 = spn s8 s1 s8.length := by
  induction N using Nat.strongRecOn with
  | ind N ih =>
    intro s1 s8 s9 s10 e0 p0 p1 p2 p3 p4 hN
    rw [P18_116b]
    exact w_ip (fun h1 => w_gp o_iyeudh (w_ip (fun h2 => w_gp o_iyeudh (w_eq (P18_935b _ _ _ _ _) (ih (N - 1) o_iyeudh o_iyeudh o_iyeudh o_iyeudh o_iyeudh o_iyeudh ob12))) (fun h2 => w_eq (P18_935b _ _ _ _ _) (ih (N - 1) o_iyeudh o_iyeudh o_iyeudh o_iyeudh o_iyeudh o_iyeudh ob12)))) (fun h1 => w_eq (P18_15b _) (w_some o_iwqnd1))
theorem w18_116 (N : Nat) : ∀ {s1 : Int} {s8 : List Fw.Entry} {s9 : Int} {s10 : Int} (p0 : 0 ≤ s10) (p1 : s10 ≤ s8.length) (p2 : s8.length ≤ 1000) (p3 : s9 = s8.length) (p4 : [] = spn s8 s1 s10.toNat) (hN : s8.length - s10 ≤ (N : Int)), Wp (L18_116 s1 s8 s9 s10) fun y => y.1 = spn s8 s1 s8.length := by
  induction N using Nat.strongRecOn with
  | ind N ih =>
    intro s1 s8 s9 s10 p0 p1 p2 p3 p4 hN
    rw [P18_116]
    exact w_ip (fun h1 => w_gp o_xim752 (w_ip (fun h2 => w_gp o_xim752 (w_eq (P18_935b _ _ _ _ _) ((w18_116b _ o_xim752 o_xim752 o_xim752 o_xim752 o_xim752 (Int.self_le_toNat _)).mono (fun y q3 => o_jowx8x)))) (fun h2 => w_eq (P18_935 _ _ _ _) (ih (N - 1) o_xim752 o_xim752 o_xim752 o_xim752 o_xim752 o_xim752 ob12)))) (fun h1 => w_eq (P18_15) (w_some o_jowx8x))
theorem c18 {x0 : List Fw.Entry} {x1 : Int} (p0 : x0.length ≤ 1000) : Wp (D18 x0 x1) fun y => y.1 = spn x0 x1 x0.length := by
  rw [E18]
  exact (w18_116 _ o_ok3k2u o_ok3k2u o_ok3k2u o_ok3k2u o_ok3k2u (Int.self_le_toNat _)).mono (fun y q1 => o_21uf74)
theorem w17_116 (N : Nat) : ∀ {s0 : List Int} {s1 : List Int} {s5 : Int} (p0 : 0 ≤ s5) (p1 : s5 ≤ s0.length) (p2 : s0.length ≤ 1000) (p3 : s1 = s0) (hN : s0.length - s5 ≤ (N : Int)), Wp (L17_116 s0 s1 s5) fun y => y.1 = true := by
  induction N using Nat.strongRecOn with
  | ind N ih =>
    intro s0 s1 s5 p0 p1 p2 p3 hN
    rw [P17_116]
    exact w_ip (fun h1 => w_gp o_55drcd (w_gp o_55drcd (w_ip (fun h2 => w_some o_j57ylj) (fun h2 => ih (N - 1) o_55drcd o_55drcd o_55drcd o_55drcd o_55drcd ob12)))) (fun h1 => w_eq (P17_15) (w_some o_j57ylj))
theorem c17 {x0 : List Int} {x1 : List Int} (p0 : x0.length ≤ 1000) (p1 : x1 = x0) : Wp (D17 x0 x1) fun y => y.1 = true := by
  rw [E17]
  exact w_ip (fun h1 => w_some o_fumkbh) (fun h1 => (w17_116 _ o_hyj3b8 o_hyj3b8 o_hyj3b8 o_hyj3b8 (Int.self_le_toNat _)).mono (fun y q2 => o_fumkbh))
theorem w20_116 (N : Nat) : ∀ {s0 : List Fw.Entry} {s1 : Int} {s5 : Int} {s6 : Int} (p0 : 0 ≤ s6) (p1 : s6 ≤ s0.length) (p2 : s0.length ≤ 1000) (p3 : 0 ≤ s1) (p4 : s1 < s0.length) (p5 : s5 = mwc s0 s1 s6.toNat) (hN : s0.length - s6 ≤ (N : Int)), Wp (L20_116 s0 s1 s5 s6) fun y => y.1 = mwc s0 s1 s0.length := by
  induction N using Nat.strongRecOn with
  | ind N ih =>
    intro s0 s1 s5 s6 p0 p1 p2 p3 p4 p5 hN
    rw [P20_116]
    exact w_ip (fun h1 => w_be (c27) (by (try dsimp only); exact (w_ip (fun h3 => w_gp o_frf0uc (w_gp o_frf0uc (w_ip (fun h4 => w_be (c16) (by (try dsimp only); exact (w_gp o_frf0uc (w_gp o_frf0uc (w_ip (fun h6 => w_be (c16) (by (try dsimp only); exact (w_ip (fun h8 => w_eq (P20_467 _ _ _ _) (ih (N - 1) o_frf0uc o_frf0uc o_frf0uc o_frf0uc o_frf0uc o_frf0uc o_frf0uc ob12)) (fun h8 => w_eq (P20_467 _ _ _ _) (ih (N - 1) o_frf0uc o_frf0uc o_frf0uc o_frf0uc o_frf0uc o_frf0uc o_frf0uc ob12))))) (fun h6 => w_eq (P20_467 _ _ _ _) (ih (N - 1) o_frf0uc o_frf0uc o_frf0uc o_frf0uc o_frf0uc o_frf0uc o_frf0uc ob12))))))) (fun h4 => w_gp o_frf0uc (w_gp o_frf0uc (w_eq (P20_467 _ _ _ _) (ih (N - 1) o_frf0uc o_frf0uc o_frf0uc o_frf0uc o_frf0uc o_frf0uc o_frf0uc ob12))))))) (fun h3 => w_eq (P20_15 _) (w_some o_rlbrag))))) (fun h1 => w_eq (P20_15 _) (w_some o_rlbrag))
theorem c20 {x0 : List Fw.Entry} {x1 : Int} (p0 : x0.length ≤ 1000) : Wp (D20 x0 x1) fun y => (0 ≤ x1 → x1 < x0.length → y.1 = mwc x0 x1 x0.length) ∧ ((x1 < 0 ∨ x1 ≥ x0.length) → y.1 = 0) := by
  by_cases h : 0 ≤ x1 ∧ x1 < x0.length
  · rw [E20]
    exact (w20_116 _ (Int.le_refl _) (by omega) p0 h.1 h.2 rfl (Int.self_le_toNat _)).mono fun y hy => ⟨fun _ _ => hy, fun hh => by omega⟩
  · rw [E20, P20_116]
    refine w_ip (fun h1 => ?_) fun h1 => w_eq (P20_15 _) (w_some ⟨fun _ _ => by omega, fun _ => rfl⟩)
    refine w_be c27 (by
      dsimp only
      refine w_ip (fun h2 => ?_) fun h2 => w_eq (P20_15 _) (w_some ⟨fun _ _ => by omega, fun _ => rfl⟩)
      exfalso
      rw [i64_id (by omega) (by omega)] at h2
      omega)
end Go.Proofs.YtdghkmbppfmifaaGreat.Ri

namespace Go.Proofs.YtdghkmbppfmifaaGreat.Ri
open Go.Proofs.YtdghkmbppfmifaaGreat.Fw
set_option linter.unusedVariables false
set_option linter.unusedSimpArgs false
set_option maxRecDepth 100000
def XT (b : Int) (l : List Fw.Tx) : Prop := ∀ x ∈ l, x.Began ≤ b
theorem XT.nil {b : Int} : XT b [] := fun x h => by cases h
theorem XT.nth {b : Int} {l : List Fw.Tx} (h : XT b l) {i : Nat} (hi : i < l.length) : (nth l i).Began ≤ b := h _ (nth_mem hi)
theorem XT.app {b : Int} {l : List Fw.Tx} {x : Fw.Tx} (h : XT b l) (hx : x.Began ≤ b) : XT b (l ++ [x]) := fun z hz => (List.mem_append.1 hz).elim (h z) fun e => by rw [List.mem_singleton.1 e]; exact hx
theorem XT.set {b : Int} {l : List Fw.Tx} {x : Fw.Tx} (h : XT b l) (i : Nat) (hx : x.Began ≤ b) : XT b (l.set i x) := fun z hz => (List.mem_or_eq_of_mem_set hz).elim (h z) fun e => e ▸ hx
theorem XT.le {b b' : Int} {l : List Fw.Tx} (h : XT b l) (hb : b ≤ b') : XT b' l := fun x hx => Int.le_trans (h x hx) hb
structure RH (b : Int) (l : List Fw.Entry) : Prop where
  e : ∀ x ∈ l, x.Began ≤ x.Ended ∧ x.Ended ≤ b
  p : l.Pairwise fun x y => x.Ended < y.Ended
theorem RH.nil {b : Int} : RH b [] := ⟨fun x h => (by cases h), List.Pairwise.nil⟩
theorem RH.le {b b' : Int} {l : List Fw.Entry} (h : RH b l) (hb : b ≤ b') : RH b' l := ⟨fun x hx => ⟨(h.e x hx).1, Int.le_trans (h.e x hx).2 hb⟩, h.p⟩
theorem RH.app {b b' : Int} {l : List Fw.Entry} {x : Fw.Entry} (h : RH b l) (h1 : x.Began ≤ x.Ended) (h2 : x.Ended = b') (hb : b < b') : RH b' (l ++ [x]) := by
  refine ⟨fun z hz => ?_, List.pairwise_append.2 ⟨h.p, List.pairwise_singleton _ _, fun a ha c hc => ?_⟩⟩
  · rcases List.mem_append.1 hz with hz | hz
    · have := h.e z hz; omega
    · rw [List.mem_singleton.1 hz]; omega
  · rw [List.mem_singleton.1 hc]
    have := h.e a ha
    omega
theorem RH.cut {b : Int} {l : List Fw.Entry} (h : RH b l) (i j : Nat) : RH b (cutL l i j) := by
  have hs : (cutL l i j).Sublist l := by unfold cutL; exact (List.drop_sublist _ _).trans (List.take_sublist _ _)
  exact ⟨fun x hx => h.e x (hs.subset hx), h.p.sublist hs⟩
theorem nth_get {α : Type} [Inhabited α] {l : List α} {i : Nat} (h : i < l.length) : nth l i = l[i] := by unfold Fw.nth; simp [h]
theorem RH.ris {b : Int} {l : List Fw.Entry} (h : RH b l) : RIs l := fun a ha => by
  have h1 : a < l.length := by omega
  refine ⟨(h.e _ (nth_mem h1)).1, fun h0 => ?_⟩
  rw [nth_get h1, nth_get (show a - 1 < l.length by omega)]
  exact List.pairwise_iff_getElem.1 h.p _ _ _ _ (by omega)
theorem RH.rt {b : Int} {l : List Fw.Entry} (h : RH b l) : RT l := ⟨fun a c ha hc hb => by
  have h1 : a < l.length := by omega
  have := List.pairwise_iff_getElem.1 h.p c a (by omega) h1 hc
  rw [nth_get h1, nth_get (show c < l.length by omega)] at hb
  unfold bfr at hb
  rw [Bool.and_eq_true, decide_eq_true_iff, decide_eq_true_iff] at hb
  omega, fun b hb => by omega⟩
structure TM (b : Int) (k : Fw.Kernel) : Prop where
  h : RH k.Time k.History
  x : XT k.Time k.Txs
  lo : 0 ≤ k.Time
  hi : k.Time ≤ b
theorem TM.le {b b' : Int} {k : Fw.Kernel} (h : TM b k) (hb : b ≤ b') : TM b' k := ⟨h.h, h.x, h.lo, Int.le_trans h.hi hb⟩
theorem TM.txs {b : Int} {k : Fw.Kernel} {l : List Fw.Tx} (h : TM b k) (hl : XT k.Time l) : TM b { k with Txs := l } := ⟨h.h, hl, h.lo, h.hi⟩
theorem TM.hour {b : Int} {k : Fw.Kernel} (h : TM b k) (hb : b ≤ 100000) : TM (b + 1) { k with Time := IntKind.wrap .i64 (k.Time + 1) } := by
  have h1 := h.lo
  have h2 := h.hi
  have e : IntKind.wrap .i64 (k.Time + 1) = k.Time + 1 := i64_id (by omega) (by omega)
  rw [e]
  exact ⟨h.h.le (by dsimp only; omega), h.x.le (by dsimp only; omega), by dsimp only; omega, by dsimp only; omega⟩
theorem TM.put {b : Int} {k : Fw.Kernel} {l : List Fw.Tx} {e : Fw.Entry} {s : List Fw.Cell} (h : TM b k) (hb : b ≤ 100000) (hl : XT k.Time l) (h1 : e.Began ≤ k.Time ∨ e.Began = e.Ended) (h2 : e.Ended = IntKind.wrap .i64 (k.Time + 1)) : TM (b + 1) { k with Store := s, Txs := l, Time := IntKind.wrap .i64 (k.Time + 1), History := k.History ++ [e] } := by
  have h3 := h.lo
  have h4 := h.hi
  have e' : IntKind.wrap .i64 (k.Time + 1) = k.Time + 1 := i64_id (by omega) (by omega)
  rw [e'] at h2 ⊢
  exact ⟨RH.app h.h (by rcases h1 with h1 | h1 <;> omega) h2 (by dsimp only; omega), hl.le (by dsimp only; omega), by dsimp only; omega, by dsimp only; omega⟩
theorem o_byyarl {p : Prop} (h : p := by first | assumption | omega | (left; omega) | exact XT.set (by assumption) _ (XT.nth (by assumption) (by omega)) | (rw [List.length_set]; omega) | exact ob8) : p := h
theorem o_f9stmy {p : Prop} (h : p := by (try dsimp only); all_goals first | done | rfl) : p := h
theorem w61t{m : Nat} {b : Int} (N : Nat) : ∀ {s1 : List Int} {s6 : Int} {e0 : List Fw.Tx} (p0 : 0 ≤ s6) (p1 : s6 ≤ m) (p2 : e0.length = m) (p3 : m ≤ 1000) (p4 : s1.length ≤ 1000) (p5 : XT b e0) (hN : m - s6 ≤ (N : Int)), Wp (L61_116 s1 s6 e0) fun y => XT b y.1 := by
  induction N using Nat.strongRecOn with
  | ind N ih =>
    intro s1 s6 e0 p0 p1 p2 p3 p4 p5 hN
    rw [P61_116]
    exact w_ip (fun h1 => w_gp o_byyarl (w_gp o_byyarl (w_ip (fun h2 => w_bd (c99 o_byyarl) (fun y0 _ => w_ip (fun h4 => w_gp o_byyarl (w_eq (P61_467 _ _ _) (ih (N - 1) o_byyarl o_byyarl o_byyarl o_byyarl o_byyarl o_byyarl o_byyarl ob12))) (fun h4 => w_eq (P61_467 _ _ _) (ih (N - 1) o_byyarl o_byyarl o_byyarl o_byyarl o_byyarl o_byyarl o_byyarl ob12)))) (fun h2 => w_eq (P61_467 _ _ _) (ih (N - 1) o_byyarl o_byyarl o_byyarl o_byyarl o_byyarl o_byyarl o_byyarl ob12))))) (fun h1 => w_eq (P61_15 _) (w_some o_21uf74))
theorem c61t{t : Nat} {b : Int} {x0 : List Fw.Tx} {x1 : List Int} (p0 : x0.length ≤ 1000) (p1 : XL t x0) (p2 : t ≤ 1000000000000) (p3 : x1.length ≤ 1000) (p4 : XT b x0) : Wp (D61 x0 x1) fun y => XT b y.1 := by
  rw [E61]
  exact w_be (c54 (t := t) ob12 ob12 ob12) (by (try dsimp only); exact ((w61t (m := x0.length) (b := b) _ ob12 ob12 ob12 ob12 ob12 ob12 (Int.self_le_toNat _)).mono (fun y q2 => o_21uf74)))
theorem c62t{t : Nat} {x0 : List Fw.Cell} {x1 : Fw.Tx} {x2 : Fw.Call} (p0 : x0.length ≤ 900) (p1 : KZ x0) (p2 : XB t x1) (p3 : t ≤ 900000000000) (p4 : x2.A.natAbs ≤ 4000000000) (p5 : x2.B.natAbs ≤ 4000000000) : Wp (D62 x0 x1 x2) fun y => y.1.Began = x1.Began := by
  rw [E62]
  have h1 := p2.c
  have h2 := p2.a
  have h3 := p2.t
  have h4 := p2.ci
  have h5 := p2.p
  have h6 := p2.m
  exact w_be (c92 (t := t) o_6udrrx o_6udrrx) (by (try dsimp only); exact (w_ip (fun h2 => w_some o_f9stmy) (fun h2 => w_ip (fun h3 => w_some o_f9stmy) (fun h3 => w_bd (c98 o_6udrrx o_6udrrx o_6udrrx o_6udrrx o_6udrrx) (fun y1 ⟨q4_0, q4_1⟩ => w_bd (c64 (s := 4100000000) o_6udrrx o_6udrrx o_6udrrx o_6udrrx o_6udrrx o_6udrrx) (fun y2 ⟨q5_0, q5_1, q5_2⟩ => w_gp o_6udrrx (w_gp o_6udrrx (w_bd (c100 (a := t) (b := 28700000300) o_6udrrx o_6udrrx o_6udrrx) (fun y3 q6 => w_some o_f9stmy)))))))))
theorem c126t{t : Nat} {x0 : Fw.Tx} (p0 : XB t x0) (p1 : t ≤ 1000000000000) : Wp (D126 x0) fun y => y.1.Began = x0.Began := by
  rw [E126]
  have h1 := p0.m
  exact w_be (c92 (t := t) ob12 ob12) (by (try dsimp only); exact (w_ip (fun h2 => w_some o_f9stmy) (fun h2 => w_gp ob12 (w_some o_f9stmy))))
theorem c127t{t : Nat} {x0 : Fw.Tx} {x1 : Int} (p0 : XB t x0) (p1 : t ≤ 1000000000000) : Wp (D127 x0 x1) fun y => y.1.Began = x0.Began := by
  rw [E127]
  have h1 := p0.m
  have h2 := p0.c
  have h3 := p0.a
  exact w_be (c92 (t := t) o_v2brq6 o_v2brq6) (by (try dsimp only); exact (w_ip (fun h2 => w_be (c27) (by (try dsimp only); exact (w_ip (fun h4 => w_some o_f9stmy) (fun h4 => w_gp o_v2brq6 (w_bd (c106) (fun y2 q5 => w_gp o_v2brq6 (w_bd (c106) (fun y3 q6 => w_gp o_v2brq6 (w_gp o_v2brq6 (w_some o_f9stmy)))))))))) (fun h2 => w_some o_f9stmy)))
theorem c69t{n t : Nat} {x0 : Fw.Kernel} {x1 : List Fw.Cell} (p0 : KB n t x0) (p1 : n ≤ 1000) (p2 : t ≤ 1000000000000) (p3 : x1.length ≤ 3000000000000) (p4 : KZ x1) : Wp (D69 x0 x1) fun y => y.1 = ⟨x0.Store, x0.Txs, y.1.Disk, y.1.Seq, x0.Next, x0.Time, x0.History, x0.Seen, x0.Room⟩ := by
  rw [E69]
  have h1 := p0.j
  exact w_be (c40 (n := n) (t := t) ob12 ob12 ob12) (by (try dsimp only); exact (w_ip (fun h2 => w_some o_f9stmy) (fun h2 => w_bd (c108 ob12 ob12) (fun y1 q3 => w_ip (fun h4 => w_some o_f9stmy) (fun h4 => w_bd (c109 ob12 ob12) (fun y2 q5 => w_ip (fun h6 => w_some o_f9stmy) (fun h6 => w_some o_f9stmy)))))))
end Go.Proofs.YtdghkmbppfmifaaGreat.Ri

namespace Go.Proofs.YtdghkmbppfmifaaGreat.Ri
open Go.Proofs.YtdghkmbppfmifaaGreat.Fw
set_option linter.unusedVariables false
set_option linter.unusedSimpArgs false
set_option maxRecDepth 100000
theorem c61b {t : Nat} {b : Int} {x0 : List Fw.Tx} {x1 : List Int} (p0 : x0.length ≤ 1000) (p1 : XL t x0) (p2 : t ≤ 1000000000000) (p3 : x1.length ≤ 1000) (p4 : XT b x0) : Wp (D61 x0 x1) fun y => (y.1.length = x0.length ∧ XL t y.1) ∧ XT b y.1 := wp_and (c61 p0 p1 p2 p3) (c61t p0 p1 p2 p3 p4)
theorem c62b {t : Nat} {x0 : List Fw.Cell} {x1 : Fw.Tx} {x2 : Fw.Call} (p0 : x0.length ≤ 900) (p1 : KZ x0) (p2 : XB t x1) (p3 : t ≤ 900000000000) (p4 : x2.A.natAbs ≤ 4000000000) (p5 : x2.B.natAbs ≤ 4000000000) : Wp (D62 x0 x1 x2) fun y => XB (t + 28700000300) y.1 ∧ y.1.Began = x1.Began := wp_and (c62 p0 p1 p2 p3 p4 p5) (c62t p0 p1 p2 p3 p4 p5)
theorem c69b {n t : Nat} {x0 : Fw.Kernel} {x1 : List Fw.Cell} (p0 : KB n t x0) (p1 : n ≤ 1000) (p2 : t ≤ 1000000000000) (p3 : x1.length ≤ 3000000000000) (p4 : KZ x1) : Wp (D69 x0 x1) fun y => (KB n t y.1 ∧ y.1.Txs.length = x0.Txs.length ∧ y.1.History.length = x0.History.length) ∧ y.1 = ⟨x0.Store, x0.Txs, y.1.Disk, y.1.Seq, x0.Next, x0.Time, x0.History, x0.Seen, x0.Room⟩ := wp_and (c69 p0 p1 p2 p3 p4) (c69t p0 p1 p2 p3 p4)
theorem TM.lay {b : Int} {k y : Fw.Kernel} (h : TM b k) (e : y = ⟨k.Store, k.Txs, y.Disk, y.Seq, k.Next, k.Time, k.History, k.Seen, k.Room⟩) : TM b y := by rw [e]; exact ⟨h.h, h.x, h.lo, h.hi⟩
theorem o_i17t9l {p : Prop} (h : p := by (try dsimp only); exact ⟨⟨p0.s, p0.kz, p0.x, p0.xn, p0.d, p0.dn, p0.h, p0.hn, p0.se, p0.j⟩, TM.hour p3 p4⟩) : p := h
theorem o_q8i7y1 {p : Prop} (h : p := by first | assumption | omega | exact KB.txs p0 (‹_ ∧ XL _ _›).2 (by omega) | exact (‹KB _ _ _ ∧ _›).1 | exact (‹KB _ _ _ ∧ _›).1.h | exact (‹KB _ _ _ ∧ _›).1.hn | (have hq := (‹KB _ _ _ ∧ _›).2; omega) | exact XL.nth (by assumption) (by omega) | exact XL.nth (‹_ ∧ XL _ _›).2 (by omega) | exact (XL.nth (by assumption : XL t x0.Txs) (i := y2.1.toNat) (by omega)).ci | exact (XL.nth (by assumption : XL t x0.Txs) (i := y2.1.toNat) (by omega)).c | exact (XL.nth (by assumption : XL t x0.Txs) (i := y2.1.toNat) (by omega)).p | (have ha := (XL.nth (by assumption : XL t x0.Txs) (i := y2.1.toNat) (by omega)).a; omega) | exact ob12) : p := h
theorem o_a1hpof {p : Prop} (h : p := by (try dsimp only); first | exact p3.le (by omega) | (have hT := TM.lay (TM.txs p3 (by assumption)) (by assumption); exact TM.put hT p4 hT.x (Or.inr rfl) rfl)) : p := h
theorem o_ff937q {p : Prop} (h : p := by (try dsimp only); first | exact p3.le (by omega) | (have hT := TM.lay p3 (by assumption); obtain ⟨hk, hl, hh⟩ := ‹KB _ _ _ ∧ _ ∧ _›; exact TM.put hT p4 (XT.set hT.x _ (XT.nth hT.x (by omega))) (Or.inl (Int.le_trans (XT.nth t1 (by omega)) (Int.le_of_eq (congrArg Fw.Kernel.Time q8_1).symm))) rfl)) : p := h
theorem o_t9axq8 {p : Prop} (h : p := by (try dsimp only); first | exact p3 | exact TM.txs p3 (by assumption) | exact TM.txs p3 (XT.set (by assumption) _ (Int.le_trans (Int.le_of_eq (by assumption)) (XT.nth (by assumption) (by omega))))) : p := h
theorem o_3jtt83 {p : Prop} (h : p := by (try dsimp only); first | exact p3 | exact ⟨p3.h, p3.x, p3.lo, p3.hi⟩) : p := h
theorem o_a1lojc {p : Prop} (h : p := by (try dsimp only); first | assumption | exact ⟨p3.h.cut _ _, p3.x, p3.lo, p3.hi⟩) : p := h
theorem o_4a4100 {p : Prop} (h : p := by first | assumption | omega | exact ⟨p3.h, by assumption, p3.lo, p3.hi⟩ | exact ob12) : p := h
theorem o_b3ze0p {p : Prop} (h : p := by (try dsimp only); first | exact p3 | exact TM.txs p3 (XT.set p3.x _ (Int.le_trans (Int.le_of_eq (by assumption)) (XT.nth p3.x (by omega))))) : p := h
theorem o_mqrd5u {p : Prop} (h : p := by (try dsimp only); first | exact p3 | exact TM.txs p3 (XT.set p3.x _ (XT.nth (i := y1.1.toNat) p3.x (by omega)))) : p := h
theorem o_owfhn9 {p : Prop} (h : p := by (try dsimp only); exact ⟨p0.h, p0.x.app (Int.le_refl _), p0.lo, p0.hi⟩) : p := h
theorem c41t{n t : Nat} {b : Int} {x0 : Fw.Kernel} (p0 : KB n t x0) (p1 : n ≤ 1000) (p2 : t ≤ 1000000000000) (p3 : TM b x0) (p4 : b ≤ 100000) : Wp (D41 x0) fun y => KB n t y.1 ∧ TM (b + 1) y.1 := by
  rw [E41]
  exact w_be (c40 (n := n) (t := t) ob12 ob12 ob12) (by (try dsimp only); exact (w_some o_i17t9l))
theorem c43t{n t : Nat} {b : Int} {x0 : Fw.Kernel} {x1 : Int} {x2 : Fw.Call} (p0 : KB n t x0) (p1 : n ≤ 900) (p2 : t ≤ 800000000000) (p3 : TM b x0) (p4 : b ≤ 100000) (p5 : x1.natAbs ≤ 4000000000) (p6 : x2.A.natAbs ≤ 4000000000) (p7 : x2.B.natAbs ≤ 4000000000) : Wp (D43 x0 x1 x2) fun y => TM (b + 1) y.1 := by
  rw [E43]
  have h1 := p0.xn
  have h2 := p0.x
  have h3 := p0.kz
  have h4 := p0.hn
  have h5 := p0.h
  have t1 := p3.x
  exact w_be (c40 (n := n) (t := t) o_q8i7y1 o_q8i7y1 o_q8i7y1) (by (try dsimp only); exact (w_bd (c57 (n := n) (t := t) o_q8i7y1 o_q8i7y1 o_q8i7y1) (fun y1 q2 => w_ip (fun h3 => w_some o_a1hpof) (fun h3 => w_bd (c64 (s := 900) o_q8i7y1 o_q8i7y1 o_q8i7y1 o_q8i7y1 o_q8i7y1 o_q8i7y1) (fun y2 ⟨q4_0, q4_1, q4_2⟩ => w_be (c40 (n := n) (t := t) o_q8i7y1 o_q8i7y1 o_q8i7y1) (by (try dsimp only); exact (w_bd (c65 (t := t) (b := 6600) o_q8i7y1 o_q8i7y1 o_q8i7y1 o_q8i7y1 o_q8i7y1) (fun y4 q6 => w_bd (c61b (t := t) (b := x0.Time) o_q8i7y1 o_q8i7y1 o_q8i7y1 o_q8i7y1 o_q8i7y1) (fun y5 ⟨q7_0, q7_1⟩ => w_bd (c66 o_q8i7y1 o_q8i7y1 o_q8i7y1 o_q8i7y1) (fun y6 ⟨q8_0, q8_1⟩ => w_ip (fun h9 => w_bd (c68 o_q8i7y1 o_q8i7y1) (fun y8 ⟨q10_0, q10_1⟩ => w_bd (c67 o_q8i7y1) (fun y9 _ => w_ip (fun h12 => w_some o_a1hpof) (fun h12 => w_bd (c69b (n := n) (t := t) o_q8i7y1 o_q8i7y1 o_q8i7y1 o_q8i7y1 o_q8i7y1) (fun y10 ⟨q13_0, q13_1⟩ => w_ip (fun h14 => w_some o_a1hpof) (fun h14 => w_gp o_q8i7y1 (w_some o_a1hpof))))))) (fun h9 => w_bd (c69b (n := n) (t := t) o_q8i7y1 o_q8i7y1 o_q8i7y1 o_q8i7y1 o_q8i7y1) (fun y7 ⟨q15_0, q15_1⟩ => w_ip (fun h16 => w_some o_a1hpof) (fun h16 => w_gp o_q8i7y1 (w_some o_a1hpof))))))))))))))
theorem c84t{n t : Nat} {b : Int} {x0 : Fw.Kernel} {x1 : Int} (p0 : KB n t x0) (p1 : n ≤ 900) (p2 : t ≤ 800000000000) (p3 : TM b x0) (p4 : b ≤ 100000) : Wp (D84 x0 x1) fun y => TM (b + 1) y.1 := by
  rw [E84]
  have h1 := p0.xn
  have h2 := p0.x
  have h3 := p0.kz
  have h4 := p0.hn
  have h5 := p0.h
  have t1 := p3.x
  exact w_be (c40 (n := n) (t := t) o_q8i7y1 o_q8i7y1 o_q8i7y1) (by (try dsimp only); exact (w_bd (c57 (n := n) (t := t) o_q8i7y1 o_q8i7y1 o_q8i7y1) (fun y1 q2 => w_ip (fun h3 => w_some o_ff937q) (fun h3 => w_bd (c58 o_q8i7y1) (fun y2 ⟨q4_0, q4_1⟩ => w_ip (fun h5 => w_some o_ff937q) (fun h5 => w_gp o_q8i7y1 (w_bd (c128 (t := t) o_q8i7y1 o_q8i7y1 o_q8i7y1 o_q8i7y1) (fun y3 ⟨q6_0, q6_1⟩ => w_bd (c66 o_q8i7y1 o_q8i7y1 o_q8i7y1 o_q8i7y1) (fun y4 ⟨q7_0, q7_1⟩ => w_bd (c69b (n := n) (t := t) o_q8i7y1 o_q8i7y1 o_q8i7y1 o_q8i7y1 o_q8i7y1) (fun y5 ⟨q8_0, q8_1⟩ => w_ip (fun h9 => w_some o_ff937q) (fun h9 => w_gp o_q8i7y1 (w_bd (c129 o_q8i7y1 o_q8i7y1 o_q8i7y1) (fun y6 ⟨q10_0, q10_1⟩ => w_gp o_q8i7y1 (w_gp o_q8i7y1 (w_some o_ff937q)))))))))))))))
theorem c42t{n t : Nat} {b : Int} {x0 : Fw.Kernel} {x1 : Int} {x2 : Fw.Call} (p0 : KB n t x0) (p1 : n ≤ 900) (p2 : t ≤ 800000000000) (p3 : TM b x0) (p4 : b ≤ 100000) (p5 : x2.A.natAbs ≤ 4000000000) (p6 : x2.B.natAbs ≤ 4000000000) : Wp (D42 x0 x1 x2) fun y => TM b y.1 := by
  rw [E42]
  have h1 := p0.xn
  have h2 := p0.x
  have h3 := p0.kz
  have h4 := p0.hn
  have h5 := p0.h
  have t1 := p3.x
  exact w_be (c40 (n := n) (t := t) o_q8i7y1 o_q8i7y1 o_q8i7y1) (by (try dsimp only); exact (w_bd (c57 (n := n) (t := t) o_q8i7y1 o_q8i7y1 o_q8i7y1) (fun y1 q2 => w_ip (fun h3 => w_some o_t9axq8) (fun h3 => w_bd (c58 o_q8i7y1) (fun y2 ⟨q4_0, q4_1⟩ => w_ip (fun h5 => w_some o_t9axq8) (fun h5 => w_gp o_q8i7y1 (w_ip (fun h6 => w_some o_t9axq8) (fun h6 => w_gp o_q8i7y1 (w_gp o_q8i7y1 (w_bd (c60 o_q8i7y1 o_q8i7y1 o_q8i7y1 o_q8i7y1 o_q8i7y1 o_q8i7y1 o_q8i7y1) (fun y3 q7 => w_bd (c59 (t := t) (b := 28700000300) o_q8i7y1 o_q8i7y1 o_q8i7y1 o_q8i7y1 o_q8i7y1) (fun y4 q8 => w_ip (fun h9 => w_some o_t9axq8) (fun h9 => w_bd (c61b (t := t) (b := x0.Time) o_q8i7y1 o_q8i7y1 o_q8i7y1 o_q8i7y1 o_q8i7y1) (fun y5 ⟨q10_0, q10_1⟩ => w_gp o_q8i7y1 (w_bd (c62b (t := t) o_q8i7y1 o_q8i7y1 o_q8i7y1 o_q8i7y1 o_q8i7y1 o_q8i7y1) (fun y6 ⟨q11_0, q11_1⟩ => w_bd (c63 (t := t + 28700000300) o_q8i7y1 o_q8i7y1 o_q8i7y1) (fun y7 _ => w_be (c27) (by (try dsimp only); exact (w_ip (fun h14 => w_some o_t9axq8) (fun h14 => w_gp o_q8i7y1 (w_some o_t9axq8)))))))))))))))))))))
theorem c44t{n t : Nat} {b : Int} {x0 : Fw.Kernel} (p0 : KB n t x0) (p1 : n ≤ 900) (p2 : t ≤ 800000000000) (p3 : TM b x0) (p4 : b ≤ 100000) (p5 : 1 ≤ n) : Wp (D44 x0) fun y => TM b y.1 := by
  rw [E44]
  have h1 := p0.xn
  have h2 := p0.x
  have h3 := p0.kz
  have h4 := p0.hn
  have h5 := p0.h
  have t1 := p3.x
  exact w_be (c40 (n := n) (t := t) o_q8i7y1 o_q8i7y1 o_q8i7y1) (by (try dsimp only); exact (w_bd (c57 (n := n) (t := t) o_q8i7y1 o_q8i7y1 o_q8i7y1) (fun y1 q2 => w_ip (fun h3 => w_some o_3jtt83) (fun h3 => w_bd (c70) (fun y2 q4 => w_bd (c71 o_q8i7y1 o_q8i7y1) (fun y3 q5 => w_some o_3jtt83))))))
theorem c45t{n t : Nat} {b : Int} {x0 : Fw.Kernel} (p0 : KB n t x0) (p1 : n ≤ 900) (p2 : t ≤ 800000000000) (p3 : TM b x0) (p4 : b ≤ 100000) : Wp (D45 x0) fun y => TM b y.1 := by
  rw [E45]
  have h1 := p0.d
  have h2 := p0.dn
  have h3 := p0.j
  have h4 := p0.x
  have h5 := p0.xn
  have h6 := p0.hn
  have t1 := p3.x
  exact w_be (c40 (n := n) (t := t) o_q8i7y1 o_q8i7y1 o_q8i7y1) (by (try dsimp only); exact (w_bd (c57 (n := n) (t := t) o_q8i7y1 o_q8i7y1 o_q8i7y1) (fun y1 q2 => w_ip (fun h3 => w_some o_3jtt83) (fun h3 => w_bd (c72 o_q8i7y1 o_q8i7y1 o_q8i7y1) (fun y2 ⟨q4_0, q4_1, q4_2⟩ => w_some o_3jtt83)))))
theorem c47t{n t : Nat} {b : Int} {x0 : Fw.Kernel} (p0 : KB n t x0) (p1 : n ≤ 900) (p2 : t ≤ 800000000000) (p3 : TM b x0) (p4 : b ≤ 100000) : Wp (D47 x0) fun y => TM b y.1 := by
  rw [E47]
  have h1 := p0.d
  have h2 := p0.dn
  have h3 := p0.j
  have h4 := p0.x
  have h5 := p0.xn
  have h6 := p0.hn
  have t1 := p3.x
  exact w_be (c40 (n := n) (t := t) o_q8i7y1 o_q8i7y1 o_q8i7y1) (by (try dsimp only); exact (w_bd (c57 (n := n) (t := t) o_q8i7y1 o_q8i7y1 o_q8i7y1) (fun y1 q2 => w_ip (fun h3 => w_some o_3jtt83) (fun h3 => w_bd (c73 o_q8i7y1 o_q8i7y1 o_q8i7y1) (fun y2 ⟨q4_0, q4_1, q4_2⟩ => w_ip (fun h5 => w_some o_3jtt83) (fun h5 => w_bd (c74 o_q8i7y1 o_q8i7y1 o_q8i7y1) (fun y3 ⟨q6_0, q6_1, q6_2⟩ => w_some o_3jtt83)))))))
theorem w48t{b : Int} (N : Nat) : ∀ {s5 : Int} {e0_3 : ByteArray} {e0_4 : Int} {e0_5 : Int} {e0_6 : Int} {e0_7 : Int} {e0_10 : Bool} {e1 : List Fw.Cell} {e2 : List Fw.Tx} {e3 : List Fw.Slot} {e4 : List Fw.Entry} {e5 : List ByteArray} {e6_3 : ByteArray} {e6_4 : Int} {e6_5 : Int} {e6_6 : Int} {e6_7 : Int} {e6_10 : Bool} (p0 : 0 ≤ s5) (p1 : s5 ≤ e4.length) (p2 : e4.length ≤ 1000) (p3 : TM b ⟨e1, e2, ⟨e3, ⟨e0_3, e0_4⟩⟩, e0_5, e0_6, e0_7, e4, e5, e0_10⟩) (hN : e4.length - s5 ≤ (N : Int)), Wp (L48_2036 s5 e0_3 e0_4 e0_5 e0_6 e0_7 e0_10 e1 e2 e3 e4 e5 e6_3 e6_4 e6_5 e6_6 e6_7 e6_10) fun y => TM b y.1 := by
  induction N using Nat.strongRecOn with
  | ind N ih =>
    intro s5 e0_3 e0_4 e0_5 e0_6 e0_7 e0_10 e1 e2 e3 e4 e5 e6_3 e6_4 e6_5 e6_6 e6_7 e6_10 p0 p1 p2 p3 hN
    rw [P48_2036]
    exact w_ip (fun h1 => w_gp o_rqp0xk (w_gp o_rqp0xk (w_ip (fun h2 => w_gp o_rqp0xk (w_eq (P48_255b _ _ _ _ _ _ _ _ _ _ _ _ _ _ _ _ _) (w_some o_a1lojc))) (fun h2 => ih (N - 1) o_rqp0xk o_rqp0xk o_rqp0xk o_rqp0xk o_rqp0xk ob12)))) (fun h1 => w_eq (P48_255 _ _ _ _ _ _ _ _ _ _ _ _ _ _ _ _ _) (w_some o_a1lojc))
theorem c48t{n t : Nat} {b : Int} {x0 : Fw.Kernel} {x1 : Int} (p0 : KB n t x0) (p1 : n ≤ 900) (p2 : t ≤ 800000000000) (p3 : TM b x0) (p4 : b ≤ 100000) : Wp (D48 x0 x1) fun y => TM b y.1 := by
  rw [E48]
  have h1 := p0.d
  have h2 := p0.dn
  have h3 := p0.j
  have h4 := p0.x
  have h5 := p0.xn
  have h6 := p0.hn
  have t1 := p3.x
  exact w_be (c40 (n := n) (t := t) o_4a4100 o_4a4100 o_4a4100) (by (try dsimp only); exact (w_bd (c57 (n := n) (t := t) o_4a4100 o_4a4100 o_4a4100) (fun y1 q2 => w_ip (fun h3 => w_some o_21uf74) (fun h3 => w_bd (c76 o_4a4100 o_4a4100 o_4a4100) (fun y2 ⟨q4_0, q4_1, q4_2⟩ => w_bd (c75 o_4a4100 o_4a4100 o_4a4100) (fun y3 ⟨q5_0, q5_1, q5_2⟩ => w_bd (c77d o_4a4100 o_4a4100 o_4a4100) (fun y4 ⟨q6_0, q6_1⟩ => w_bd (c78 o_4a4100) (fun y5 q7 => w_bd (c61b (t := t) (b := x0.Time) o_4a4100 o_4a4100 o_4a4100 o_4a4100 o_4a4100) (fun y6 ⟨q8_0, q8_1⟩ => (w48t (b := b) _ o_4a4100 o_4a4100 o_4a4100 o_4a4100 (Int.self_le_toNat _)).mono (fun y q9 => o_21uf74))))))))))
theorem c81t{n t : Nat} {b : Int} {x0 : Fw.Kernel} {x1 : Int} (p0 : KB n t x0) (p1 : n ≤ 900) (p2 : t ≤ 800000000000) (p3 : TM b x0) (p4 : b ≤ 100000) : Wp (D81 x0 x1) fun y => TM b y.1 := by
  rw [E81]
  have h1 := p0.xn
  have h2 := p0.x
  have h3 := p0.kz
  have h4 := p0.hn
  have h5 := p0.h
  have t1 := p3.x
  exact w_be (c40 (n := n) (t := t) o_q8i7y1 o_q8i7y1 o_q8i7y1) (by (try dsimp only); exact (w_bd (c93 o_q8i7y1) (fun y1 ⟨q2_0, q2_1⟩ => w_bd (c57 (n := n) (t := t) o_q8i7y1 o_q8i7y1 o_q8i7y1) (fun y2 q3 => w_ip (fun h4 => w_some o_b3ze0p) (fun h4 => w_gp o_q8i7y1 (w_bd (c126t (t := t) o_q8i7y1 o_q8i7y1) (fun y3 q5 => w_gp o_q8i7y1 (w_some o_b3ze0p))))))))
theorem c82t{n t : Nat} {b : Int} {x0 : Fw.Kernel} {x1 : Int} {x2 : Int} (p0 : KB n t x0) (p1 : n ≤ 900) (p2 : t ≤ 800000000000) (p3 : TM b x0) (p4 : b ≤ 100000) : Wp (D82 x0 x1 x2) fun y => TM b y.1 := by
  rw [E82]
  have h1 := p0.xn
  have h2 := p0.x
  have h3 := p0.kz
  have h4 := p0.hn
  have h5 := p0.h
  have t1 := p3.x
  exact w_be (c40 (n := n) (t := t) o_q8i7y1 o_q8i7y1 o_q8i7y1) (by (try dsimp only); exact (w_bd (c93 o_q8i7y1) (fun y1 ⟨q2_0, q2_1⟩ => w_bd (c57 (n := n) (t := t) o_q8i7y1 o_q8i7y1 o_q8i7y1) (fun y2 q3 => w_ip (fun h4 => w_some o_b3ze0p) (fun h4 => w_gp o_q8i7y1 (w_bd (c127t (t := t) o_q8i7y1 o_q8i7y1) (fun y3 q5 => w_gp o_q8i7y1 (w_some o_b3ze0p))))))))
theorem c83t{n t : Nat} {b : Int} {x0 : Fw.Kernel} {x1 : Int} (p0 : KB n t x0) (p1 : n ≤ 900) (p2 : t ≤ 800000000000) (p3 : TM b x0) (p4 : b ≤ 100000) : Wp (D83 x0 x1) fun y => TM b y.1 := by
  rw [E83]
  have h1 := p0.xn
  have h2 := p0.x
  have h3 := p0.kz
  have h4 := p0.hn
  have h5 := p0.h
  have t1 := p3.x
  exact w_be (c40 (n := n) (t := t) o_q8i7y1 o_q8i7y1 o_q8i7y1) (by (try dsimp only); exact (w_bd (c58 o_q8i7y1) (fun y1 ⟨q2_0, q2_1⟩ => w_bd (c57 (n := n) (t := t) o_q8i7y1 o_q8i7y1 o_q8i7y1) (fun y2 q3 => w_ip (fun h4 => w_some o_mqrd5u) (fun h4 => w_gp o_q8i7y1 (w_some o_mqrd5u))))))
theorem w79_63t{b : Int} {s1 : Int} {s2 : Int} {e0_3 : ByteArray} {e0_4 : Int} {e0_5 : Int} {e0_6 : Int} {e0_7 : Int} {e0_10 : Bool} {e1 : List Fw.Cell} {e2 : List Fw.Tx} {e3 : List Fw.Slot} {e4 : List Fw.Entry} {e5 : List ByteArray} {e6_3 : ByteArray} {e6_4 : Int} {e6_5 : Int} {e6_6 : Int} {e6_7 : Int} {e6_10 : Bool} (p0 : TM b ⟨e1, e2, ⟨e3, ⟨e0_3, e0_4⟩⟩, e0_5, e0_6, e0_7, e4, e5, e0_10⟩) (p1 : e2.length ≤ 1000) : Wp (L79_63 s1 s2 e0_3 e0_4 e0_5 e0_6 e0_7 e0_10 e1 e2 e3 e4 e5 e6_3 e6_4 e6_5 e6_6 e6_7 e6_10) fun y => TM b y.1 := by
  rw [P79_63]
  exact w_be (c124) (by (try dsimp only); exact (w_gp ob12 (w_some o_owfhn9)))
theorem w79_31t{b : Int} {s1 : Int} {s2 : Int} {e0_3 : ByteArray} {e0_4 : Int} {e0_5 : Int} {e0_6 : Int} {e0_7 : Int} {e0_10 : Bool} {e1 : List Fw.Cell} {e2 : List Fw.Tx} {e3 : List Fw.Slot} {e4 : List Fw.Entry} {e5 : List ByteArray} {e6_3 : ByteArray} {e6_4 : Int} {e6_5 : Int} {e6_6 : Int} {e6_7 : Int} {e6_10 : Bool} (p0 : TM b ⟨e1, e2, ⟨e3, ⟨e0_3, e0_4⟩⟩, e0_5, e0_6, e0_7, e4, e5, e0_10⟩) (p1 : e2.length ≤ 1000) : Wp (L79_31 s1 s2 e0_3 e0_4 e0_5 e0_6 e0_7 e0_10 e1 e2 e3 e4 e5 e6_3 e6_4 e6_5 e6_6 e6_7 e6_10) fun y => TM b y.1 := by
  rw [P79_31]
  exact w_ip (fun h1 => w_bd (c123 ob12) (fun y0 _ => (w79_63t (b := b) ob12 ob12).mono (fun y q3 => o_21uf74))) (fun h1 => (w79_63t (b := b) ob12 ob12).mono (fun y q4 => o_21uf74))
theorem w79t{b : Int} (N : Nat) : ∀ {s1 : Int} {s2 : Int} {s9 : Int} {e0_3 : ByteArray} {e0_4 : Int} {e0_5 : Int} {e0_6 : Int} {e0_7 : Int} {e0_10 : Bool} {e1 : List Fw.Cell} {e2 : List Fw.Tx} {e3 : List Fw.Slot} {e4 : List Fw.Entry} {e5 : List ByteArray} {e6_3 : ByteArray} {e6_4 : Int} {e6_5 : Int} {e6_6 : Int} {e6_7 : Int} {e6_10 : Bool} (p0 : 0 ≤ s9) (p1 : s9 ≤ e2.length) (p2 : TM b ⟨e1, e2, ⟨e3, ⟨e0_3, e0_4⟩⟩, e0_5, e0_6, e0_7, e4, e5, e0_10⟩) (p3 : e2.length ≤ 1000) (hN : e2.length - s9 ≤ (N : Int)), Wp (L79_244 s1 s2 s9 e0_3 e0_4 e0_5 e0_6 e0_7 e0_10 e1 e2 e3 e4 e5 e6_3 e6_4 e6_5 e6_6 e6_7 e6_10) fun y => TM b y.1 := by
  induction N using Nat.strongRecOn with
  | ind N ih =>
    intro s1 s2 s9 e0_3 e0_4 e0_5 e0_6 e0_7 e0_10 e1 e2 e3 e4 e5 e6_3 e6_4 e6_5 e6_6 e6_7 e6_10 p0 p1 p2 p3 hN
    rw [P79_244]
    exact w_ip (fun h1 => w_gp o_rqp0xk (w_gp o_rqp0xk (w_ip (fun h2 => w_some o_21uf74) (fun h2 => ih (N - 1) o_rqp0xk o_rqp0xk o_rqp0xk o_rqp0xk o_rqp0xk ob12)))) (fun h1 => (w79_31t (b := b) o_rqp0xk o_rqp0xk).mono (fun y q3 => o_21uf74))
theorem c79t{n t : Nat} {b : Int} {x0 : Fw.Kernel} {x1 : Int} {x2 : Int} (p0 : KB n t x0) (p1 : n ≤ 900) (p2 : t ≤ 800000000000) (p3 : TM b x0) (p4 : b ≤ 100000) (p5 : x1.natAbs ≤ 4000000000) : Wp (D79 x0 x1 x2) fun y => TM b y.1 := by
  rw [E79]
  have h1 := p0.xn
  have h2 := p0.x
  have h3 := p0.kz
  have h4 := p0.hn
  have h5 := p0.h
  have t1 := p3.x
  have h6 := p0.s
  exact w_be (c40 (n := n) (t := t) o_eej6a o_eej6a o_eej6a) (by (try dsimp only); exact (w_bd (c57 (n := n) (t := t) o_eej6a o_eej6a o_eej6a) (fun y1 q2 => w_ip (fun h3 => w_some o_21uf74) (fun h3 => w_bd (c121 o_eej6a) (fun y2 _ => w_ip (fun h5 => w_bd (c67 o_eej6a) (fun y3 _ => w_ip (fun h7 => w_some o_21uf74) (fun h7 => w_bd (c112 o_eej6a o_eej6a o_eej6a o_eej6a) (fun y4 q8 => w_bd (c104 o_eej6a o_eej6a) (fun y5 q9 => w_bd (c122 o_eej6a o_eej6a) (fun y6 q10 => w_ip (fun h11 => w_some o_21uf74) (fun h11 => (w79t (b := b) _ o_eej6a o_eej6a o_eej6a o_eej6a (Int.self_le_toNat _)).mono (fun y q12 => o_21uf74)))))))) (fun h5 => w_some o_21uf74))))))
theorem c80t{n t : Nat} {b : Int} {x0 : Fw.Kernel} {x1 : Int} (p0 : KB n t x0) (p1 : n ≤ 900) (p2 : t ≤ 800000000000) (p3 : TM b x0) (p4 : b ≤ 100000) : Wp (D80 x0 x1) fun y => TM b y.1 := by
  rw [E80]
  have h1 := p0.xn
  have h2 := p0.x
  have h3 := p0.kz
  have h4 := p0.hn
  have h5 := p0.h
  have t1 := p3.x
  exact w_bd (c125 (t := t) o_cmi1rw o_cmi1rw o_cmi1rw) (fun y0 q1 => w_ip (fun h2 => w_be (c40 (n := n) (t := t) o_cmi1rw o_cmi1rw o_cmi1rw) (by (try dsimp only); exact (w_some o_21uf74))) (fun h2 => w_bd (c79t (n := n) (t := t) (b := b) o_cmi1rw o_cmi1rw o_cmi1rw o_cmi1rw o_cmi1rw o_cmi1rw) (fun y1 q4 => w_some o_21uf74)))
end Go.Proofs.YtdghkmbppfmifaaGreat.Ri

namespace Go.Proofs.YtdghkmbppfmifaaGreat.Ri
open Go.Proofs.YtdghkmbppfmifaaGreat.Fw
set_option linter.unusedVariables false
set_option linter.unusedSimpArgs false
set_option maxRecDepth 100000
theorem o_6obr4n {p : Prop} (h : p := by (try dsimp only); first | exact TM.le (b := b) (by assumption) (by omega) | exact TM.le (b := b + 1) (by assumption) (by omega)) : p := h
theorem o_11qnh3 {p : Prop} (h : p := by (try dsimp only); first | exact TM.le (b := b) (by assumption) (by omega) | exact TM.le (b := b + 1) (by assumption) (by omega) | exact TM.le (b := b + 1 + 1) (by assumption) (by omega)) : p := h
theorem o_lislmz {p : Prop} (h : p := by (try dsimp only); exact ⟨RH.nil, XT.nil, Int.le_refl _, Int.le_refl _⟩) : p := h
theorem c49t{n t : Nat} {b : Int} {x0 : Fw.Kernel} {x1 : Fw.Deed} (p0 : KB n t x0) (p1 : n ≤ 900) (p2 : t ≤ 800000000000) (p3 : TM b x0) (p4 : b ≤ 95000) (p5 : DeB x1) : Wp (D49 x0 x1) fun y => TM (b + 1) y.1 := by
  rw [E49]
  obtain ⟨d1, d2, d3⟩ := p5
  exact w_ip (fun h1 => w_bd (c79t (n := n) (t := t) (b := b) o_cmi1rw o_cmi1rw o_cmi1rw o_cmi1rw o_cmi1rw o_cmi1rw) (fun y7 q2 => w_eq (P49_31 _ _ _ _ _ _ _ _ _ _ _ _ _ _ _ _ _ _ _ _ _ _ _) (w_some o_6obr4n))) (fun h1 => w_ip (fun h3 => w_bd (c80t (n := n) (t := t) (b := b) o_cmi1rw o_cmi1rw o_cmi1rw o_cmi1rw o_cmi1rw) (fun y6 q4 => w_eq (P49_31 _ _ _ _ _ _ _ _ _ _ _ _ _ _ _ _ _ _ _ _ _ _ _) (w_some o_6obr4n))) (fun h3 => w_ip (fun h5 => w_bd (c81t (n := n) (t := t) (b := b) o_cmi1rw o_cmi1rw o_cmi1rw o_cmi1rw o_cmi1rw) (fun y5 q6 => w_eq (P49_31 _ _ _ _ _ _ _ _ _ _ _ _ _ _ _ _ _ _ _ _ _ _ _) (w_some o_6obr4n))) (fun h5 => w_ip (fun h7 => w_bd (c82t (n := n) (t := t) (b := b) o_cmi1rw o_cmi1rw o_cmi1rw o_cmi1rw o_cmi1rw) (fun y3 q8 => w_bd (c46) (fun y4 _ => w_eq (P49_31 _ _ _ _ _ _ _ _ _ _ _ _ _ _ _ _ _ _ _ _ _ _ _) (w_some o_6obr4n)))) (fun h7 => w_ip (fun h10 => w_bd (c83t (n := n) (t := t) (b := b) o_cmi1rw o_cmi1rw o_cmi1rw o_cmi1rw o_cmi1rw) (fun y1 q11 => w_bd (c46) (fun y2 _ => w_eq (P49_31 _ _ _ _ _ _ _ _ _ _ _ _ _ _ _ _ _ _ _ _ _ _ _) (w_some o_6obr4n)))) (fun h10 => w_bd (c84t (n := n) (t := t) (b := b) o_cmi1rw o_cmi1rw o_cmi1rw o_cmi1rw o_cmi1rw) (fun y0 q13 => w_eq (P49_31 _ _ _ _ _ _ _ _ _ _ _ _ _ _ _ _ _ _ _ _ _ _ _) (w_some o_6obr4n)))))))
theorem c34t{n t : Nat} {b : Int} {x0 : Fw.Kernel} {x1 : Fw.Deed} (p0 : 1 ≤ n) (p1 : KB n t x0) (p2 : n ≤ 900) (p3 : t ≤ 800000000000) (p4 : TM b x0) (p5 : b ≤ 90000) (p6 : DeB x1) : Wp (D34 x0 x1) fun y => TM (b + 2) y.1 := by
  rw [E34]
  obtain ⟨d1, d2, d3⟩ := p6
  exact w_bd (c39) (fun y0 _ => w_ip (fun h2 => w_be (c40 (n := n) (t := t) o_z6zxwo o_z6zxwo o_z6zxwo) (by (try dsimp only); exact (w_some o_11qnh3))) (fun h2 => w_bd (c41t (n := n) (t := t) (b := b) o_z6zxwo o_z6zxwo o_z6zxwo o_z6zxwo o_z6zxwo) (fun y1 ⟨q4_0, q4_1⟩ => w_ip (fun h5 => w_bd (c42t (n := n) (t := t) (b := b + 1) o_z6zxwo o_z6zxwo o_z6zxwo o_z6zxwo o_z6zxwo o_z6zxwo o_z6zxwo) (fun y10 q6 => w_some o_11qnh3)) (fun h5 => w_ip (fun h7 => w_bd (c43t (n := n) (t := t) (b := b + 1) o_z6zxwo o_z6zxwo o_z6zxwo o_z6zxwo o_z6zxwo o_z6zxwo o_z6zxwo o_z6zxwo) (fun y9 q8 => w_some o_11qnh3)) (fun h7 => w_ip (fun h9 => w_bd (c44t (n := n) (t := t) (b := b + 1) o_z6zxwo o_z6zxwo o_z6zxwo o_z6zxwo o_z6zxwo o_z6zxwo) (fun y8 q10 => w_some o_11qnh3)) (fun h9 => w_ip (fun h11 => w_bd (c45t (n := n) (t := t) (b := b + 1) o_z6zxwo o_z6zxwo o_z6zxwo o_z6zxwo o_z6zxwo) (fun y6 q12 => w_bd (c46) (fun y7 _ => w_some o_11qnh3))) (fun h11 => w_ip (fun h14 => w_bd (c47t (n := n) (t := t) (b := b + 1) o_z6zxwo o_z6zxwo o_z6zxwo o_z6zxwo o_z6zxwo) (fun y4 q15 => w_bd (c46) (fun y5 _ => w_some o_11qnh3))) (fun h14 => w_ip (fun h17 => w_bd (c48t (n := n) (t := t) (b := b + 1) o_z6zxwo o_z6zxwo o_z6zxwo o_z6zxwo o_z6zxwo) (fun y3 q18 => w_some o_11qnh3)) (fun h17 => w_bd (c49t (n := n) (t := t) (b := b + 1) o_z6zxwo o_z6zxwo o_z6zxwo o_z6zxwo o_z6zxwo o_z6zxwo) (fun y2 q19 => w_some o_11qnh3))))))))))
theorem c33t : Wp (D33) fun y => TM 0 y.1 := by
  rw [E33]
  exact w_bd (c37) (fun y0 ⟨q1_0, q1_1⟩ => w_bd (c38 ob12 ob12) (fun y1 ⟨q2_0, q2_1, q2_2⟩ => w_some o_lislmz))
end Go.Proofs.YtdghkmbppfmifaaGreat.Ri

namespace Go.Proofs.YtdghkmbppfmifaaGreat.Ri
open Go.Proofs.YtdghkmbppfmifaaGreat.Fw
set_option linter.unusedVariables false
set_option linter.unusedSimpArgs false
set_option maxRecDepth 100000
theorem c34b {n t : Nat} {b : Int} {x0 : Fw.Kernel} {x1 : Fw.Deed} (p0 : 1 ≤ n) (p1 : KB n t x0) (p2 : n ≤ 900) (p3 : t ≤ 800000000000) (p4 : TM b x0) (p5 : b ≤ 90000) (p6 : DeB x1) : Wp (D34 x0 x1) fun y => KB (n + 1) (t + 28700000300) y.1 ∧ TM (b + 2) y.1 := wp_and (c34 p0 p1 p2 p3 p6) (c34t p0 p1 p2 p3 p4 p5 p6)
theorem c33b : Wp (D33) fun y => KB 1 0 y.1 ∧ TM 0 y.1 := wp_and c33 c33t
theorem o_yxgg4m {p : Prop} (h : p := by first | assumption | omega | exact DeL.nth (by assumption) (by omega) | exact KB.le (by assumption) (by simp (disch := omega) only [i64_id]; omega) (by simp (disch := omega) only [i64_id]; omega) | exact TM.le (by assumption) (by simp (disch := omega) only [i64_id]; omega) | exact ob12) : p := h
theorem o_imq48m {p : Prop} (h : p := by (try dsimp only); exact TM.le (by assumption) (by omega)) : p := h
theorem w31t (N : Nat) : ∀ {s0 : List Fw.Deed} {s6 : Int} {e0_3 : ByteArray} {e0_4 : Int} {e0_5 : Int} {e0_6 : Int} {e0_7 : Int} {e0_10 : Bool} {e1_0 : List Fw.Cell} {e1_1 : List Fw.Tx} {e1_2 : List Fw.Slot} {e1_3 : ByteArray} {e1_4 : Int} {e1_5 : Int} {e1_6 : Int} {e1_7 : Int} {e1_8 : List Fw.Entry} {e1_9 : List ByteArray} {e1_10 : Bool} {e2 : List Fw.Answer} (p0 : 0 ≤ s6) (p1 : s6 ≤ s0.length) (p2 : s0.length ≤ 26) (p3 : DeL s0) (p4 : (e2.length : Int) = s6) (p5 : KB (s6.toNat + 1) (28700000300 * s6.toNat) ⟨e1_0, e1_1, ⟨e1_2, ⟨e1_3, e1_4⟩⟩, e1_5, e1_6, e1_7, e1_8, e1_9, e1_10⟩) (p6 : TM (2 * s6) ⟨e1_0, e1_1, ⟨e1_2, ⟨e1_3, e1_4⟩⟩, e1_5, e1_6, e1_7, e1_8, e1_9, e1_10⟩) (hN : s0.length - s6 ≤ (N : Int)), Wp (L31_244 s0 s6 e0_3 e0_4 e0_5 e0_6 e0_7 e0_10 e1_0 e1_1 e1_2 e1_3 e1_4 e1_5 e1_6 e1_7 e1_8 e1_9 e1_10 e2) fun y => TM 60 y.1 := by
  induction N using Nat.strongRecOn with
  | ind N ih =>
    intro s0 s6 e0_3 e0_4 e0_5 e0_6 e0_7 e0_10 e1_0 e1_1 e1_2 e1_3 e1_4 e1_5 e1_6 e1_7 e1_8 e1_9 e1_10 e2 p0 p1 p2 p3 p4 p5 p6 hN
    rw [P31_244]
    exact w_ip (fun h1 => w_gp o_yxgg4m (w_bd (c34b (n := s6.toNat + 1) (t := 28700000300 * s6.toNat) (b := 2 * s6) o_yxgg4m o_yxgg4m o_yxgg4m o_yxgg4m o_yxgg4m o_yxgg4m o_yxgg4m) (fun y0 ⟨q2_0, q2_1⟩ => w_gp o_yxgg4m (ih (N - 1) o_yxgg4m o_yxgg4m o_yxgg4m o_yxgg4m o_yxgg4m o_yxgg4m o_yxgg4m o_yxgg4m ob12)))) (fun h1 => w_eq (P31_31 _ _ _ _ _ _ _ _ _ _ _ _ _ _ _ _ _ _) (w_some o_imq48m))
theorem c31t {x0 : List Fw.Deed} (p0 : x0.length ≤ 26) (p1 : DeL x0) : Wp (D31 x0) fun y => TM 60 y.1 := by
  rw [E31]
  exact w_bd (c33b) (fun y0 ⟨q1_0, q1_1⟩ => (w31t _ o_ok3k2u o_ok3k2u o_ok3k2u o_ok3k2u o_ok3k2u o_ok3k2u o_ok3k2u (Int.self_le_toNat _)).mono (fun y q2 => o_21uf74))
theorem c28t {x0 : L01Cur} (p0 : Cu x0) : Wp (D28 x0) fun y => TM 60 y.1 := by
  rw [E28]
  exact w_bd (c32 ob12 ob12 ob12) (fun y0 ⟨q1_0, q1_1, q1_2⟩ => w_bd (c31t ob12 ob12) (fun y1 q2 => w_some o_21uf74))
theorem c21t {x0 : List UInt8} (p0 : x0.length ≤ 1048576) : Wp (D21 x0) fun y => TM 60 y.1 := by
  rw [E21]
  exact w_bd (c25 ob12) (fun y0 q1 => w_bd (c28t ob12) (fun y1 q2 => w_some o_21uf74))
end Go.Proofs.YtdghkmbppfmifaaGreat.Ri

namespace Go.Proofs.YtdghkmbppfmifaaGreat.Ri
open Go.Proofs.YtdghkmbppfmifaaGreat.Fw
set_option linter.unusedVariables false
set_option linter.unusedSimpArgs false
set_option maxRecDepth 100000
theorem c21b {x0 : List UInt8} (p0 : x0.length ≤ 1048576) : Wp (D21 x0) fun y => KB 27 746200007800 y.1 ∧ TM 60 y.1 := wp_and (c21 p0) (c21t p0)
theorem bfr_anti {a b : Fw.Entry} (h : bfr a b = true) (h' : bfr b a = true) : False := by
  unfold bfr at h h'
  rw [Bool.and_eq_true, decide_eq_true_iff, decide_eq_true_iff] at h h'
  omega
theorem o_qbz880 {p : Prop} (h : p := by (try dsimp only); first | done | assumption | rfl | (exfalso; first | exact absurd (not_not_intro (Bool.eq_iff_iff.2 ((‹_ ↔ RT _›).trans (‹_ ↔ RT _›).symm))) (by assumption) | exact absurd (not_not_intro (Bool.eq_iff_iff.2 (q7.trans q8.symm))) (by assumption) | exact absurd (not_not_intro (Bool.eq_iff_iff.2 (q10.trans q11.symm))) (by assumption) | exact absurd (not_not_intro rfl) (by assumption) | exact absurd (not_not_intro q18) (by assumption) | (refine absurd ?_ (‹¬ y14.1 = y15.1›); by_cases hr : 0 ≤ y4.2.1 ∧ y4.2.1 < y4.1.length; exact (q20_0 hr.1 hr.2).trans (q21_0 hr.1 hr.2).symm; exact (q20_1 (by omega)).trans (q21_1 (by omega)).symm) | exact absurd ((‹_ ↔ RIs y16.1.History›).2 q23_1.h.ris) (by assumption) | exact absurd ((‹_ ↔ RT y16.1.History›).2 q23_1.h.rt) (by assumption) | (refine absurd ?_ (‹¬¬(_ ∧ _)›); exact fun hh => bfr_anti hh.1 hh.2) | exact bfr_anti (by assumption) (by assumption))) : p := h
theorem o_snyd4v {p : Prop} (h : p := by first | assumption | omega | rfl | (rw [q16]; exact Nat.le_trans (spn_len _ _ _) (by omega)) | exact q17.trans q16.symm | exact Nat.le_trans q23_0.hn (by decide) | exact ob12) : p := h
theorem c4 {x0 : List UInt8} : Wp (D4 x0) fun y => y.1 = true := by
  rw [E4]
  exact w_bd (c5) (fun y0 q1 => w_ip (fun h2 => w_some o_qbz880) (fun h2 => w_bd (c10 o_snyd4v) (fun y1 q3 => w_bd (c11 o_snyd4v) (fun y2 _ => w_bd (c12 o_snyd4v) (fun y3 ⟨q5_0, q5_1, q5_2⟩ => w_bd (c6 o_snyd4v) (fun y4 ⟨q6_0, q6_1, q6_2⟩ => w_bd (c13 o_snyd4v) (fun y5 q7 => w_bd (c14 o_snyd4v) (fun y6 q8 => w_ip (fun h9 => w_bd (c8t o_snyd4v) (fun y7 q10 => w_bd (c15 o_snyd4v) (fun y8 q11 => w_ip (fun h12 => w_be (c9) (by (try dsimp only); exact (w_be (c16) (by (try dsimp only); exact (w_ip (fun h15 => w_bd (c18 o_snyd4v) (fun y11 q16 => w_bd (c19 o_snyd4v) (fun y12 q17 => w_bd (c17 o_snyd4v o_snyd4v) (fun y13 q18 => w_ip (fun h19 => w_bd (c7 o_snyd4v) (fun y14 ⟨q20_0, q20_1⟩ => w_bd (c20 o_snyd4v) (fun y15 ⟨q21_0, q21_1⟩ => w_ip (fun h22 => w_some o_qbz880) (fun h22 => w_bd (c21b o_snyd4v) (fun y16 ⟨q23_0, q23_1⟩ => w_bd (c8t o_snyd4v) (fun y17 q24 => w_ip (fun h25 => w_bd (c13 o_snyd4v) (fun y18 q26 => w_ip (fun h27 => w_be (c9) (by (try dsimp only); exact (w_ip (fun h29 => w_be (c9) (by (try dsimp only); exact (w_ip (fun h31 => w_be (c9) (by (try dsimp only); exact (w_some o_qbz880))) (fun h31 => w_some o_qbz880)))) (fun h29 => w_gp o_snyd4v (w_be (c9) (by (try dsimp only); exact (w_some o_qbz880))))))) (fun h27 => w_some o_qbz880))) (fun h25 => w_some o_qbz880))))))) (fun h19 => w_some o_qbz880))))) (fun h15 => w_some o_qbz880)))))) (fun h12 => w_some o_qbz880)))) (fun h9 => w_some o_qbz880)))))))))
end Go.Proofs.YtdghkmbppfmifaaGreat.Ri

namespace Go.Proofs.YtdghkmbppfmifaaGreat.Ri
open Go.Proofs.YtdghkmbppfmifaaGreat.Fw
open Go.RowKit
set_option linter.unusedVariables false
set_option maxRecDepth 100000
theorem S0 : Sy Tryz.prog Z0.ti Z0.zr := ⟨tiok, zok, ftok⟩
theorem hm0 : Tryz.prog.follows .mixedOrders = true := by kernel_rfl
theorem Dn_ok (f : Nat) : Ct Z0 Tryz.prog f (Dn f) := Den_ok S0 O0_fit (fxOf_ok Z0 Tryz.prog) (calls_ok O0_fit) (draws_ok hm0 S0) f
theorem close_law {f : Nat} {x : InT τ0 (Z0.sg f)} {y : OutT τ0 (Z0.sg f)} {vi : List (Vx τ0)} {nx : Nat} {r : Value} {us : List Value} {w : World} (h : Dn f x = some y) (hps : ptrs (Z0.sg f).ps = [])
    (hI : canO Z0.O Z0.ti (ptrs (Z0.sg f).ps).length (Z0.sg f).ps (List.range (ptrs (Z0.sg f).ps).length) x = (vi, [], nx)) (hpu : ptrU (Z0.sg f).ps us = [])
    (hO : (canO Z0.O Z0.ti 0 (Z0.sg f).outs [] y).1 = [.v r]) (hr : ∀ θ, RepL θ (Old w) w vi us) :
    Calls Tryz.prog (Z0.bs f) us.toArray w fun e w' => e = .returned r ∧ Below w.heap.size w w' := by
  obtain ⟨_, hc⟩ := Dn_ok f x y h
  have hc := hc (Old w) (Old w) w (fun _ => ⟨none, 0, 0⟩) us (fun _ h => h) (fun _ h => h) (by rw [hI]; exact hr _) (by rw [hI]; exact ⟨fun r e h => (by cases h), fun r r' e e' b b' h => (by cases h)⟩)
  refine hc.mono fun e w' ⟨v, hv, hk, _, S', _, _, us', hvp, hl, hall⟩ => ?_
  obtain ⟨θ', _, h1, _⟩ := hall 0 [] (fun _ => ⟨none, 0, 0⟩) (by rw [hps]; rfl) List.nodup_nil (fun q hq => by cases hq) (by rw [hpu]; rfl)
  rw [hO, hpu, List.append_nil] at h1
  obtain ⟨u, r', e1, ⟨e2, _⟩, e3⟩ := h1
  obtain rfl := e3
  refine ⟨?_, hk.below⟩
  rw [hv, hvp, e1, e2]
  rfl
theorem oc4 (p0 : List UInt8) {v0 : Value} {w : World} (hp0 : SlR (Old w) w v0 p0) : Calls Tryz.prog 4 [v0].toArray w (fun e w' => e = .returned (.bool true) ∧ Below w.heap.size w w') := by
  have h : D4 p0 = some (true, ()) := by
    obtain ⟨⟨b, u⟩, h1, h2⟩ := c4 (x0 := p0)
    rw [h1]
    obtain rfl : b = true := h2
    rfl
  exact close_law (f := 4) (y := (true, ())) (vi := [.ro 5 p0]) (nx := 0) (r := .bool true) h rfl (by kernel_rfl) rfl (by kernel_rfl) (fun θ => ⟨_, _, rfl, hp0, rfl⟩)
end Go.Proofs.YtdghkmbppfmifaaGreat.Ri
