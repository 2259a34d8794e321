/- The law FnExactAuditSeqs: for every input it returns true, and what came in is as it was. No condition. By program (wip/gen). -/
import Derived.Test.YtpfnofdaaekglaaC1
import Derived.Test.YtpfnofdaaekglaaRows
import Derived.OpenShut
import Derived.ChangeOld
namespace Go.Proofs.Ytpfnofdaaekglaa.Fw
open Go.RowKit
set_option linter.unusedVariables false
set_option linter.unusedSimpArgs false

theorem fb11 : Try.f11.body.isNone = false := rfl
theorem fb12 : Try.f12.body.isNone = false := rfl
theorem fb13 : Try.f13.body.isNone = false := rfl
theorem fb14 : Try.f14.body.isNone = false := rfl
theorem fb15 : Try.f15.body.isNone = false := rfl
theorem fn11 : (Try.f11.name == "runtime.NumGoroutine") = false := by kernel_rfl
theorem fn12 : (Try.f12.name == "runtime.NumGoroutine") = false := by kernel_rfl
theorem fn13 : (Try.f13.name == "runtime.NumGoroutine") = false := by kernel_rfl
theorem fn14 : (Try.f14.name == "runtime.NumGoroutine") = false := by kernel_rfl
theorem fn15 : (Try.f15.name == "runtime.NumGoroutine") = false := by kernel_rfl

theorem rd3 : Reads Try.prog 3 Int := reads_int Try.underlying3
theorem rd9 : Reads Try.prog 9 ByteArray := reads_string Try.underlying9
theorem rd132 : Reads Try.prog 132 Call := by
  intro H enc W fuel cs x h
  obtain ⟨a0, h0⟩ := reads_field (α := Int) (o := 0) (by kernel_rfl : chkFieldT Try.prog 132 0 0 3 1 = true) rd3 h
  obtain ⟨a1, h1⟩ := reads_field (α := ByteArray) (o := 1) (by kernel_rfl : chkFieldT Try.prog 132 1 1 9 1 = true) rd9 h
  obtain ⟨a2, h2⟩ := reads_field (α := ByteArray) (o := 2) (by kernel_rfl : chkFieldT Try.prog 132 2 2 9 1 = true) rd9 h
  obtain ⟨a3, h3⟩ := reads_field (α := Int) (o := 3) (by kernel_rfl : chkFieldT Try.prog 132 3 3 3 1 = true) rd3 h
  obtain ⟨a4, h4⟩ := reads_field (α := Int) (o := 4) (by kernel_rfl : chkFieldT Try.prog 132 4 4 3 1 = true) rd3 h
  obtain ⟨a5, h5⟩ := reads_field (α := ByteArray) (o := 5) (by kernel_rfl : chkFieldT Try.prog 132 5 5 9 1 = true) rd9 h
  have hl := struct_len agg132 Try.underlying132 h
  have e : cs = (cs.drop 0).take 6 := by rw [List.drop_zero, List.take_of_length_le (by omega)]
  refine ⟨⟨a0, a1, a2, a3, a4, a5⟩, ?_⟩
  rw [e]
  exact rd_pair h0 (rd_pair h1 (rd_pair h2 (rd_pair h3 (rd_pair h4 h5))))
theorem rd134 : Reads Try.prog 134 Step := by
  intro H enc W fuel cs x h
  obtain ⟨a0, h0⟩ := reads_field (α := Int) (o := 0) (by kernel_rfl : chkFieldT Try.prog 134 0 0 3 1 = true) rd3 h
  obtain ⟨a1, h1⟩ := reads_field (α := Call) (o := 1) (by kernel_rfl : chkFieldT Try.prog 134 1 1 132 6 = true) rd132 h
  have hl := struct_len agg134 Try.underlying134 h
  have e : cs = (cs.drop 0).take 7 := by rw [List.drop_zero, List.take_of_length_le (by omega)]
  refine ⟨⟨a0, a1⟩, ?_⟩
  rw [e]
  exact rd_pair h0 h1
theorem rd67 : Reads Try.prog 67 (List Step) := reads_slice sl67 (by kernel_rfl) rd134
theorem rd136 : Reads Try.prog 136 Answer := by
  intro H enc W fuel cs x h
  obtain ⟨a0, h0⟩ := reads_field (α := Int) (o := 0) (by kernel_rfl : chkFieldT Try.prog 136 0 0 3 1 = true) rd3 h
  obtain ⟨a1, h1⟩ := reads_field (α := Int) (o := 1) (by kernel_rfl : chkFieldT Try.prog 136 1 1 3 1 = true) rd3 h
  obtain ⟨a2, h2⟩ := reads_field (α := ByteArray) (o := 2) (by kernel_rfl : chkFieldT Try.prog 136 2 2 9 1 = true) rd9 h
  have hl := struct_len agg136 Try.underlying136 h
  have e : cs = (cs.drop 0).take 3 := by rw [List.drop_zero, List.take_of_length_le (by omega)]
  refine ⟨⟨a0, a1, a2⟩, ?_⟩
  rw [e]
  exact rd_pair h0 (rd_pair h1 h2)
theorem rd68 : Reads Try.prog 68 (List Answer) := reads_slice sl68 (by kernel_rfl) rd136
theorem rd4 : Reads Try.prog 4 Bool := reads_bool Try.underlying4
theorem rd70 : Reads Try.prog 70 Entry := by
  intro H enc W fuel cs x h
  obtain ⟨a0, h0⟩ := reads_field (α := Int) (o := 0) (by kernel_rfl : chkFieldT Try.prog 70 0 0 3 1 = true) rd3 h
  obtain ⟨a1, h1⟩ := reads_field (α := Int) (o := 1) (by kernel_rfl : chkFieldT Try.prog 70 1 1 3 1 = true) rd3 h
  obtain ⟨a2, h2⟩ := reads_field (α := Int) (o := 2) (by kernel_rfl : chkFieldT Try.prog 70 2 2 3 1 = true) rd3 h
  obtain ⟨a3, h3⟩ := reads_field (α := List Step) (o := 3) (by kernel_rfl : chkFieldT Try.prog 70 3 3 67 1 = true) rd67 h
  obtain ⟨a4, h4⟩ := reads_field (α := List Answer) (o := 4) (by kernel_rfl : chkFieldT Try.prog 70 4 4 68 1 = true) rd68 h
  obtain ⟨a5, h5⟩ := reads_field (α := Int) (o := 5) (by kernel_rfl : chkFieldT Try.prog 70 5 5 3 1 = true) rd3 h
  obtain ⟨a6, h6⟩ := reads_field (α := Int) (o := 6) (by kernel_rfl : chkFieldT Try.prog 70 6 6 3 1 = true) rd3 h
  obtain ⟨a7, h7⟩ := reads_field (α := Bool) (o := 7) (by kernel_rfl : chkFieldT Try.prog 70 7 7 4 1 = true) rd4 h
  have hl := struct_len agg70 Try.underlying70 h
  have e : cs = (cs.drop 0).take 8 := by rw [List.drop_zero, List.take_of_length_le (by omega)]
  refine ⟨⟨a0, a1, a2, a3, a4, a5, a6, a7⟩, ?_⟩
  rw [e]
  exact rd_pair h0 (rd_pair h1 (rd_pair h2 (rd_pair h3 (rd_pair h4 (rd_pair h5 (rd_pair h6 h7))))))
theorem rd24 : Reads Try.prog 24 (List Entry) := reads_slice sl24 (by kernel_rfl) rd70

def laws_FnExactAuditSeqs (p0 : List Entry) : Bool := (if (decide ((laws_szEntryS p0 1048576) < 0)) = true then true else (if (!decide ((impl_AuditSeqs (laws_toEntryS p0)) = (spec_AuditSeqs (laws_toEntryS p0)))) = true then false else (if (!(laws_eqEntryS (laws_toEntryS p0) (laws_toEntryS p0))) = true then false else true)))
theorem c_laws_FnExactAuditSeqs {v0 : Value} (p0 : List Entry) {w : World} (hp0 : SlR w.heap.size w v0 p0) :
    Calls Try.prog 4 [v0].toArray w (fun e w' => e = .returned (.bool (laws_FnExactAuditSeqs p0)) ∧ Below w.heap.size w w') := by
  obtain ⟨A0, cap0, rfl, hx0⟩ := hp0.form
  refine enter Try.func4 rfl Try.ntmps4 (Nat.le_of_ble_eq_true rfl) ?_
  intro a0 hE0
  have hS0 := SH.start w
  have hM := laws_FnExactAuditSeqs.eq_1 p0
  have hgd0 : Dat.good p0 := Dat.rd_good (B := w.heap.size) (w := w) (cs := [_]) ⟨_, rfl, hp0⟩
  refine wp_seq (wp_region_lit ?_)
  refine st_val hE0 (y_assign hE0 rfl) rfl fun a1 hE1 => wpList_nil ?_
  clear hE0
  clear a0
  refine then_normal ?_
  refine wp_seq (wp_region_lit ?_)
  refine st_val hE1 (y_assign hE1 rfl) rfl fun a2 hE2 => wpList_nil ?_
  clear hE1
  clear a1
  refine then_normal ?_
  refine wp_seq (wp_region_lit ?_)
  refine st_val hE2 (y_move hE2 rfl) rfl fun a3 hE3 => st_val hE3 (y_move hE3 rfl) rfl fun a4 hE4 => st_callF hE4 hS0 Try.func11 fb11 fn11 (c_laws_szEntryS p0 1048576 (hS0.up hp0)) rfl rfl fun w5 hS5 a6 hE6 => st_val hE6 (y_assign hE6 rfl) rfl fun a7 hE7 => wpList_nil ?_
  clear hE2 hE3 hE4 hE6
  clear a2 a3 a4 a6
  refine then_normal ?_
  refine wp_seq (wp_seq (wp_region_lit ?_))
  refine st_val hE7 (y_move hE7 rfl) rfl fun a8 hE8 => st_val hE8 (y_lss hE8 rfl rfl) rfl fun a9 hE9 => wpList_nil ?_
  clear hE7 hE8
  clear a7 a8
  refine then_normal ?_
  refine cond_split hE9 rfl (fun hb10 => ?_) (fun hb10 => ?_)
  ·
    have hM := hM.trans (if_t hb10)
    have hb10f : (laws_szEntryS p0 1048576) < 0 := of_decide_eq_true hb10
    refine wp_seq (wp_region_lit ?_)
    refine st_val hE9 (y_assign hE9 rfl) rfl fun a11 hE11 => wpList_nil ?_
    clear hE9
    clear a9
    refine then_normal ?_
    refine wp_ret ?_
    refine then_ret ?_
    exact fin1 hE11 rfl rfl ⟨by rw [hM], hS5.below⟩
  ·
    have hM := hM.trans (if_f hb10)
    have hb10f : ¬ ((laws_szEntryS p0 1048576) < 0) := of_decide_eq_false hb10
    obtain ⟨hsm0, hle0, hle0_⟩ := laws_szEntryS_small p0 1048576 (by omega) (by omega) hgd0 hb10f
    have hln0 : p0.length ≤ 1048576 := hsm0.1
    refine wp_skip ?_
    refine then_normal ?_
    refine wp_seq (wp_region_lit ?_)
    refine st_val hE9 (y_move hE9 rfl) rfl fun a12 hE12 => st_callS hE12 hS5 Try.func13 fb13 fn13 (c_laws_toEntryS p0 (hS5.up hp0) hsm0) rfl rfl fun A13 cp13 F13 w13 hx13 hS13 a14 hE14 => st_callF hE14 hS13 Try.func12 fb12 fn12 (c_spec_AuditSeqs (laws_toEntryS p0) (hS13.ownl (k := 0) rfl)) rfl rfl fun w15 hS15 a16 hE16 => st_val hE16 (y_assign hE16 rfl) rfl fun a17 hE17 => wpList_nil ?_
    clear hE9 hE12 hE14 hE16
    clear a9 a12 a14 a16
    refine then_normal ?_
    refine wp_seq (wp_region_lit ?_)
    refine st_val hE17 (y_move hE17 rfl) rfl fun a18 hE18 => st_callS hE18 hS15 Try.func13 fb13 fn13 (c_laws_toEntryS p0 (hS15.up hp0) hsm0) rfl rfl fun A19 cp19 F19 w19 hx19 hS19 a20 hE20 => st_val hE20 (y_assign hE20 rfl) rfl fun a21 hE21 => wpList_nil ?_
    clear hE17 hE18 hE20
    clear a17 a18 a20
    refine then_normal ?_
    refine wp_seq (wp_region_lit ?_)
    refine st_val hE21 (y_move hE21 rfl) rfl fun a22 hE22 => st_callF hE22 hS19 Try.func14 fb14 fn14 (c_impl_AuditSeqs (laws_toEntryS p0) (hS19.ownl (k := 0) rfl)) rfl rfl fun w23 hS23 a24 hE24 => st_val hE24 (y_assign hE24 rfl) rfl fun a25 hE25 => wpList_nil ?_
    clear hE21 hE22 hE24
    clear a21 a22 a24
    refine then_normal ?_
    refine wp_seq (wp_seq (wp_region_lit ?_))
    refine st_val hE25 (y_move hE25 rfl) rfl fun a26 hE26 => st_val hE26 (y_move hE26 rfl) rfl fun a27 hE27 => st_val hE27 (y_neq_bool hE27 rfl rfl Try.underlying4) rfl fun a28 hE28 => wpList_nil ?_
    clear hE25 hE26 hE27
    clear a25 a26 a27
    refine then_normal ?_
    refine cond_split hE28 rfl (fun hb29 => ?_) (fun hb29 => ?_)
    ·
      have hM := hM.trans (if_t hb29)
      refine wp_seq (wp_region_lit ?_)
      refine st_val hE28 (y_assign hE28 rfl) rfl fun a30 hE30 => wpList_nil ?_
      clear hE28
      clear a28
      refine then_normal ?_
      refine wp_ret ?_
      refine then_ret ?_
      exact fin1 hE30 rfl rfl ⟨by rw [hM], hS23.below⟩
    ·
      have hM := hM.trans (if_f hb29)
      refine wp_skip ?_
      refine then_normal ?_
      refine wp_seq (wp_seq (wp_region_lit ?_))
      refine st_val hE28 (y_move hE28 rfl) rfl fun a31 hE31 => st_val hE31 (y_move hE31 rfl) rfl fun a32 hE32 => st_callS hE32 hS23 Try.func13 fb13 fn13 (c_laws_toEntryS p0 (hS23.up hp0) hsm0) rfl rfl fun A33 cp33 F33 w33 hx33 hS33 a34 hE34 => st_callF hE34 hS33 Try.func15 fb15 fn15 (c_laws_eqEntryS (laws_toEntryS p0) (laws_toEntryS p0) (hS33.ownl (k := 1) rfl) (hS33.ownl (k := 0) rfl)) rfl rfl fun w35 hS35 a36 hE36 => st_val hE36 (y_not hE36 rfl) rfl fun a37 hE37 => wpList_nil ?_
      clear hE28 hE31 hE32 hE34 hE36
      clear a28 a31 a32 a34 a36
      refine then_normal ?_
      refine cond_split hE37 rfl (fun hb38 => ?_) (fun hb38 => ?_)
      ·
        have hM := hM.trans (if_t hb38)
        refine wp_seq (wp_region_lit ?_)
        refine st_val hE37 (y_assign hE37 rfl) rfl fun a39 hE39 => wpList_nil ?_
        clear hE37
        clear a37
        refine then_normal ?_
        refine wp_ret ?_
        refine then_ret ?_
        exact fin1 hE39 rfl rfl ⟨by rw [hM], hS35.below⟩
      ·
        have hM := hM.trans (if_f hb38)
        refine wp_skip ?_
        refine then_normal ?_
        refine wp_seq (wp_region_lit ?_)
        refine st_val hE37 (y_assign hE37 rfl) rfl fun a40 hE40 => wpList_nil ?_
        clear hE37
        clear a37
        refine then_normal ?_
        refine wp_ret ?_
        exact fin1 hE40 rfl rfl ⟨by rw [hM], hS35.below⟩


theorem AuditSeqs_l1 (p0 : List Entry) (hg : Dat.good p0) : ∀ n i, n = p0.length - i → 1 ≤ i → impl_AuditSeqs_l1 p0 n i = spec_AuditSeqs_l1 p0 n i := by
  intro n
  induction n with
  | zero => intro i _ _; rfl
  | succ n ih =>
    intro i hn hi
    have hs : I64 (nth p0 (i - 1)).Seq := (good_nth hg (k := i - 1) (by omega)).1
    have e : IntKind.i64.wrap ((nth p0 (i - 1)).Seq + 0) = (nth p0 (i - 1)).Seq := by
      unfold I64 at hs
      rw [Int.add_zero]
      exact IntWalk.i64_in _ hs
    simp only [impl_AuditSeqs_l1, spec_AuditSeqs_l1, e, ih (i + 1) (by omega) (by omega)]
theorem laws_FnExactAuditSeqs_true (p0 : List Entry) (hg : Dat.good p0) : laws_FnExactAuditSeqs p0 = true := by
  have h : impl_AuditSeqs p0 = spec_AuditSeqs p0 := AuditSeqs_l1 p0 hg _ 1 rfl (Nat.le_refl _)
  unfold laws_FnExactAuditSeqs
  simp [h]

end Go.Proofs.Ytpfnofdaaekglaa.Fw

namespace Go.Proofs.Ytpfnofdaaekglaa.fnExactAuditSeqs
open Go.ChangeShapes Go.WideShapes Go.ChangeAt Go.RowKit Go.Proofs.Ytpfnofdaaekglaa.Fw
set_option linter.unusedVariables false

theorem own : ownKnob Try.prog.godebug = none := by kernel_rfl
theorem laidOut : laidOutB Try.prog = true := by kernel_rfl

set_option maxRecDepth 100000 in
theorem lifted (os : Os) (started : os.Started) (H : Type) (enc : TypeId × Value → H) :
    ReturnsInHanded {} Try.checked os 4 .any (Rows.fnExactAuditSeqsSpec.pre6 enc Try.prog Try.f4 Rows.fnExactAuditSeqsRow.domain false) (Rows.fnExactAuditSeqsSpec.post enc Try.prog Try.f4 false true false false) := by
  refine returnsInHanded_of_change (C := Try.checked) own started (by kernel_rfl) Try.func4
    (ChangeSpec.witness6 (enc := enc) (C := Try.checked) false ⟨#[], #[.slice none 0 0], []⟩ 8 (by kernel_rfl) (by kernel_rfl) (by kernel_rfl) (by kernel_rfl)) ?_
  intro W base args ds gs before hval0 hW hcnd _
  have hval : ∀ (j : Nat) t v, Try.f4.params[j]? = some t → args[j]? = some v → Value.okWide Try.prog W .any base t v := hval0
  have hW' := hW
  obtain ⟨p, q, hA0, hV, rfl, hfz, hnd⟩ := hW
  have hA : DataW.TrodAll enc Try.prog W 0 (fun _ => true) true Try.f4.params.toList args.toList ds p := hA0
  rw [Try.params4] at hA hval
  obtain ⟨v0, vs0, d0, ds0, p0, q0, hargs, rfl, rfl, h0, r0⟩ := trodAll_cons hA
  obtain ⟨rfl, rfl, rfl⟩ := trodAll_nil r0
  obtain rfl : args = #[v0] := by cases args; simp_all
  obtain ⟨rfl, rfl⟩ := trodVars_none hV
  have k0 := h0
  have lt0 : ∀ x ∈ p0, x.block < W.heap.size := by obtain ⟨m, hm⟩ := k0; exact DataW.trod_lt m _ _ _ hm
  obtain ⟨A0, len0, cap0, rfl⟩ := okWide_slice Try.underlying24 (hval 0 24 v0 rfl rfl)
  obtain ⟨x0, hx0⟩ : ∃ x : List Entry, SlR W.heap.size W (.slice A0 len0 cap0) x := by
    obtain ⟨fuel, hf⟩ := h0
    obtain ⟨x, v, hv, hx⟩ := rd24 hf
    cases hv
    exact ⟨x, hx⟩
  have hc := c_laws_FnExactAuditSeqs x0 hx0
  refine hc.mono fun e W' ⟨he, bel⟩ => ?_
  rw [laws_FnExactAuditSeqs_true x0 (Dat.rd_good (B := W.heap.size) (w := W) (cs := [_]) ⟨_, rfl, hx0⟩)] at he
  subst he
  exact ⟨_, rfl, _, _, _, [], _, [], hW', trodAll_mk1 (shut_bool Try.underlying4 _), (trodAll_cons_mk (Below.trod laidOut (by kernel_rfl) (of_decide_eq_true (by kernel_rfl)) k0 bel lt0) trodAll_mk0), rfl, bel.frame _, fun h => by cases h⟩

theorem over : Rows.fnExactAuditSeqsRow.holds Try.pinned (OpenSpec.ofChange Rows.fnExactAuditSeqsSpec) :=
  OpenClaim.holds_of_wide 4 Try.f4 rfl rfl rfl rfl rfl rfl rfl ⟨rfl, rfl, rfl, rfl, rfl⟩ rfl rfl rfl rfl rfl (by kernel_rfl) Try.func4 (by kernel_rfl)
    (of_decide_eq_true (by kernel_rfl)) (by unfold Func.isWrapper; first | (rw [if_pos (by decide +kernel)]; kernel_rfl) | (rw [if_neg (by decide +kernel)]; exact ⟨rfl, rfl⟩))
    (fun os started H enc _ => lifted os started H enc)

end Go.Proofs.Ytpfnofdaaekglaa.fnExactAuditSeqs
namespace Go.Proofs.Ytpfnofdaaekglaa
/-- The statement. -/
theorem fnExactAuditSeqs_proved : Rows.FnExactAuditSeqsSaid := fnExactAuditSeqs.over
#print axioms fnExactAuditSeqs_proved
end Go.Proofs.Ytpfnofdaaekglaa
