/- The law FnExactIsBeginning: for every input it returns true, and what came in is as it was. No condition. By program (wip/gen). -/
import Derived.Test.YtpfnofdaaekglaaC3
import Derived.Test.YtpfnofdaaekglaaRows
import Derived.OpenShut
import Derived.ChangeOld
namespace Go.Proofs.Ytpfnofdaaekglaa.Fw
open Go.RowKit
set_option linter.unusedVariables false
set_option linter.unusedSimpArgs false

theorem fb11 : Try.f11.body.isNone = false := rfl
theorem fb13 : Try.f13.body.isNone = false := rfl
theorem fb15 : Try.f15.body.isNone = false := rfl
theorem fb16 : Try.f16.body.isNone = false := rfl
theorem fb17 : Try.f17.body.isNone = false := rfl
theorem fn11 : (Try.f11.name == "runtime.NumGoroutine") = false := by kernel_rfl
theorem fn13 : (Try.f13.name == "runtime.NumGoroutine") = false := by kernel_rfl
theorem fn15 : (Try.f15.name == "runtime.NumGoroutine") = false := by kernel_rfl
theorem fn16 : (Try.f16.name == "runtime.NumGoroutine") = false := by kernel_rfl
theorem fn17 : (Try.f17.name == "runtime.NumGoroutine") = false := by kernel_rfl

theorem rd3 : Reads Try.prog 3 Int := reads_int Try.underlying3
theorem rd9 : Reads Try.prog 9 ByteArray := reads_string Try.underlying9
theorem rd132 : Reads Try.prog 132 Call := by
  intro H enc W fuel cs x h
  obtain ⟨a0, h0⟩ := reads_field (α := Int) (o := 0) (by kernel_rfl : chkFieldT Try.prog 132 0 0 3 1 = true) rd3 h
  obtain ⟨a1, h1⟩ := reads_field (α := ByteArray) (o := 1) (by kernel_rfl : chkFieldT Try.prog 132 1 1 9 1 = true) rd9 h
  obtain ⟨a2, h2⟩ := reads_field (α := ByteArray) (o := 2) (by kernel_rfl : chkFieldT Try.prog 132 2 2 9 1 = true) rd9 h
  obtain ⟨a3, h3⟩ := reads_field (α := Int) (o := 3) (by kernel_rfl : chkFieldT Try.prog 132 3 3 3 1 = true) rd3 h
  obtain ⟨a4, h4⟩ := reads_field (α := Int) (o := 4) (by kernel_rfl : chkFieldT Try.prog 132 4 4 3 1 = true) rd3 h
  obtain ⟨a5, h5⟩ := reads_field (α := ByteArray) (o := 5) (by kernel_rfl : chkFieldT Try.prog 132 5 5 9 1 = true) rd9 h
  have hl := struct_len agg132 Try.underlying132 h
  have e : cs = (cs.drop 0).take 6 := by rw [List.drop_zero, List.take_of_length_le (by omega)]
  refine ⟨⟨a0, a1, a2, a3, a4, a5⟩, ?_⟩
  rw [e]
  exact rd_pair h0 (rd_pair h1 (rd_pair h2 (rd_pair h3 (rd_pair h4 h5))))
theorem rd134 : Reads Try.prog 134 Step := by
  intro H enc W fuel cs x h
  obtain ⟨a0, h0⟩ := reads_field (α := Int) (o := 0) (by kernel_rfl : chkFieldT Try.prog 134 0 0 3 1 = true) rd3 h
  obtain ⟨a1, h1⟩ := reads_field (α := Call) (o := 1) (by kernel_rfl : chkFieldT Try.prog 134 1 1 132 6 = true) rd132 h
  have hl := struct_len agg134 Try.underlying134 h
  have e : cs = (cs.drop 0).take 7 := by rw [List.drop_zero, List.take_of_length_le (by omega)]
  refine ⟨⟨a0, a1⟩, ?_⟩
  rw [e]
  exact rd_pair h0 h1
theorem rd67 : Reads Try.prog 67 (List Step) := reads_slice sl67 (by kernel_rfl) rd134
theorem rd136 : Reads Try.prog 136 Answer := by
  intro H enc W fuel cs x h
  obtain ⟨a0, h0⟩ := reads_field (α := Int) (o := 0) (by kernel_rfl : chkFieldT Try.prog 136 0 0 3 1 = true) rd3 h
  obtain ⟨a1, h1⟩ := reads_field (α := Int) (o := 1) (by kernel_rfl : chkFieldT Try.prog 136 1 1 3 1 = true) rd3 h
  obtain ⟨a2, h2⟩ := reads_field (α := ByteArray) (o := 2) (by kernel_rfl : chkFieldT Try.prog 136 2 2 9 1 = true) rd9 h
  have hl := struct_len agg136 Try.underlying136 h
  have e : cs = (cs.drop 0).take 3 := by rw [List.drop_zero, List.take_of_length_le (by omega)]
  refine ⟨⟨a0, a1, a2⟩, ?_⟩
  rw [e]
  exact rd_pair h0 (rd_pair h1 h2)
theorem rd68 : Reads Try.prog 68 (List Answer) := reads_slice sl68 (by kernel_rfl) rd136
theorem rd4 : Reads Try.prog 4 Bool := reads_bool Try.underlying4
theorem rd70 : Reads Try.prog 70 Entry := by
  intro H enc W fuel cs x h
  obtain ⟨a0, h0⟩ := reads_field (α := Int) (o := 0) (by kernel_rfl : chkFieldT Try.prog 70 0 0 3 1 = true) rd3 h
  obtain ⟨a1, h1⟩ := reads_field (α := Int) (o := 1) (by kernel_rfl : chkFieldT Try.prog 70 1 1 3 1 = true) rd3 h
  obtain ⟨a2, h2⟩ := reads_field (α := Int) (o := 2) (by kernel_rfl : chkFieldT Try.prog 70 2 2 3 1 = true) rd3 h
  obtain ⟨a3, h3⟩ := reads_field (α := List Step) (o := 3) (by kernel_rfl : chkFieldT Try.prog 70 3 3 67 1 = true) rd67 h
  obtain ⟨a4, h4⟩ := reads_field (α := List Answer) (o := 4) (by kernel_rfl : chkFieldT Try.prog 70 4 4 68 1 = true) rd68 h
  obtain ⟨a5, h5⟩ := reads_field (α := Int) (o := 5) (by kernel_rfl : chkFieldT Try.prog 70 5 5 3 1 = true) rd3 h
  obtain ⟨a6, h6⟩ := reads_field (α := Int) (o := 6) (by kernel_rfl : chkFieldT Try.prog 70 6 6 3 1 = true) rd3 h
  obtain ⟨a7, h7⟩ := reads_field (α := Bool) (o := 7) (by kernel_rfl : chkFieldT Try.prog 70 7 7 4 1 = true) rd4 h
  have hl := struct_len agg70 Try.underlying70 h
  have e : cs = (cs.drop 0).take 8 := by rw [List.drop_zero, List.take_of_length_le (by omega)]
  refine ⟨⟨a0, a1, a2, a3, a4, a5, a6, a7⟩, ?_⟩
  rw [e]
  exact rd_pair h0 (rd_pair h1 (rd_pair h2 (rd_pair h3 (rd_pair h4 (rd_pair h5 (rd_pair h6 h7))))))
theorem rd24 : Reads Try.prog 24 (List Entry) := reads_slice sl24 (by kernel_rfl) rd70

def laws_FnExactIsBeginning (p0 : List Entry) (p1 : List Entry) : Bool := (if (decide ((laws_szEntryS p0 1048576) < 0)) = true then true else (if (decide ((laws_szEntryS p1 (laws_szEntryS p0 1048576)) < 0)) = true then true else (if (!decide ((impl_IsBeginning (laws_toEntryS p0) (laws_toEntryS p1)) = (spec_IsBeginning (laws_toEntryS p0) (laws_toEntryS p1)))) = true then false else (if (!(laws_eqEntryS (laws_toEntryS p0) (laws_toEntryS p0))) = true then false else (if (!(laws_eqEntryS (laws_toEntryS p1) (laws_toEntryS p1))) = true then false else true)))))
theorem c_laws_FnExactIsBeginning {v0 : Value} (p0 : List Entry) {v1 : Value} (p1 : List Entry) {w : World} (hp0 : SlR (Old w) w v0 p0) (hp1 : SlR (Old w) w v1 p1) :
    Calls Try.prog 5 [v0, v1].toArray w (fun e w' => e = .returned (.bool (laws_FnExactIsBeginning p0 p1)) ∧ Below w.heap.size w w') := by
  obtain ⟨A0, cap0, rfl, hx0⟩ := hp0.form
  obtain ⟨A1, cap1, rfl, hx1⟩ := hp1.form
  refine enter Try.func5 rfl Try.ntmps5 (Nat.le_of_ble_eq_true rfl) ?_
  intro a0 hE0
  have hS0 := SH.start w
  have hM := laws_FnExactIsBeginning.eq_1 p0 p1
  have hgd0 : Dat.good p0 := Dat.rd_good (B := Old w) (w := w) (cs := [_]) ⟨_, rfl, hp0⟩
  have hgd1 : Dat.good p1 := Dat.rd_good (B := Old w) (w := w) (cs := [_]) ⟨_, rfl, hp1⟩
  refine wp_seq (wp_region_lit ?_)
  refine st_val hE0 (y_assign hE0 rfl) rfl fun a1 hE1 => wpList_nil ?_
  clear hE0
  clear a0
  refine then_normal ?_
  refine wp_seq (wp_region_lit ?_)
  refine st_val hE1 (y_assign hE1 rfl) rfl fun a2 hE2 => wpList_nil ?_
  clear hE1
  clear a1
  refine then_normal ?_
  refine wp_seq (wp_region_lit ?_)
  refine st_val hE2 (y_move hE2 rfl) rfl fun a3 hE3 => st_val hE3 (y_move hE3 rfl) rfl fun a4 hE4 => st_callF hE4 hS0 Try.func11 fb11 fn11 (c_laws_szEntryS p0 1048576 (hS0.up hp0)) rfl rfl fun w5 hS5 a6 hE6 => st_val hE6 (y_assign hE6 rfl) rfl fun a7 hE7 => wpList_nil ?_
  clear hE2 hE3 hE4 hE6
  clear a2 a3 a4 a6
  refine then_normal ?_
  refine wp_seq (wp_seq (wp_region_lit ?_))
  refine st_val hE7 (y_move hE7 rfl) rfl fun a8 hE8 => st_val hE8 (y_lss hE8 rfl rfl) rfl fun a9 hE9 => wpList_nil ?_
  clear hE7 hE8
  clear a7 a8
  refine then_normal ?_
  refine cond_split hE9 rfl (fun hb10 => ?_) (fun hb10 => ?_)
  ·
    have hM := hM.trans (if_t hb10)
    have hb10f : (laws_szEntryS p0 1048576) < 0 := of_decide_eq_true hb10
    refine wp_seq (wp_region_lit ?_)
    refine st_val hE9 (y_assign hE9 rfl) rfl fun a11 hE11 => wpList_nil ?_
    clear hE9
    clear a9
    refine then_normal ?_
    refine wp_ret ?_
    refine then_ret ?_
    exact fin1 hE11 rfl rfl ⟨by rw [hM], hS5.below⟩
  ·
    have hM := hM.trans (if_f hb10)
    have hb10f : ¬ ((laws_szEntryS p0 1048576) < 0) := of_decide_eq_false hb10
    obtain ⟨hsm0, hle0, hle0_⟩ := laws_szEntryS_small p0 1048576 (by omega) (by omega) hgd0 hb10f
    have hln0 : p0.length ≤ 1048576 := hsm0.1
    refine wp_skip ?_
    refine then_normal ?_
    refine wp_seq (wp_region_lit ?_)
    refine st_val hE9 (y_move hE9 rfl) rfl fun a12 hE12 => st_val hE12 (y_move hE12 rfl) rfl fun a13 hE13 => st_callF hE13 hS5 Try.func11 fb11 fn11 (c_laws_szEntryS p1 (laws_szEntryS p0 1048576) (hS5.up hp1)) rfl rfl fun w14 hS14 a15 hE15 => st_val hE15 (y_assign hE15 rfl) rfl fun a16 hE16 => wpList_nil ?_
    clear hE9 hE12 hE13 hE15
    clear a9 a12 a13 a15
    refine then_normal ?_
    refine wp_seq (wp_seq (wp_region_lit ?_))
    refine st_val hE16 (y_move hE16 rfl) rfl fun a17 hE17 => st_val hE17 (y_lss hE17 rfl rfl) rfl fun a18 hE18 => wpList_nil ?_
    clear hE16 hE17
    clear a16 a17
    refine then_normal ?_
    refine cond_split hE18 rfl (fun hb19 => ?_) (fun hb19 => ?_)
    ·
      have hM := hM.trans (if_t hb19)
      have hb19f : (laws_szEntryS p1 (laws_szEntryS p0 1048576)) < 0 := of_decide_eq_true hb19
      refine wp_seq (wp_region_lit ?_)
      refine st_val hE18 (y_assign hE18 rfl) rfl fun a20 hE20 => wpList_nil ?_
      clear hE18
      clear a18
      refine then_normal ?_
      refine wp_ret ?_
      refine then_ret ?_
      exact fin1 hE20 rfl rfl ⟨by rw [hM], hS14.below⟩
    ·
      have hM := hM.trans (if_f hb19)
      have hb19f : ¬ ((laws_szEntryS p1 (laws_szEntryS p0 1048576)) < 0) := of_decide_eq_false hb19
      obtain ⟨hsm1, hle1, hle1_⟩ := laws_szEntryS_small p1 (laws_szEntryS p0 1048576) (by omega) (by omega) hgd1 hb19f
      have hln1 : p1.length ≤ 1048576 := hsm1.1
      refine wp_skip ?_
      refine then_normal ?_
      refine wp_seq (wp_region_lit ?_)
      refine st_val hE18 (y_move hE18 rfl) rfl fun a21 hE21 => st_callS hE21 hS14 Try.func13 fb13 fn13 (c_laws_toEntryS p0 (hS14.up hp0) hsm0) rfl rfl fun A22 cp22 F22 w22 hx22 hS22 a23 hE23 => st_val hE23 (y_move hE23 rfl) rfl fun a24 hE24 => st_callS hE24 hS22 Try.func13 fb13 fn13 (c_laws_toEntryS p1 (hS22.up hp1) hsm1) rfl rfl fun A25 cp25 F25 w25 hx25 hS25 a26 hE26 => st_callF hE26 hS25 Try.func16 fb16 fn16 (c_spec_IsBeginning (laws_toEntryS p0) (laws_toEntryS p1) (hS25.ownl (k := 1) rfl) (hS25.ownl (k := 0) rfl)) rfl rfl fun w27 hS27 a28 hE28 => st_val hE28 (y_assign hE28 rfl) rfl fun a29 hE29 => wpList_nil ?_
      clear hE18 hE21 hE23 hE24 hE26 hE28
      clear a18 a21 a23 a24 a26 a28
      refine then_normal ?_
      refine wp_seq (wp_region_lit ?_)
      refine st_val hE29 (y_move hE29 rfl) rfl fun a30 hE30 => st_callS hE30 hS27 Try.func13 fb13 fn13 (c_laws_toEntryS p0 (hS27.up hp0) hsm0) rfl rfl fun A31 cp31 F31 w31 hx31 hS31 a32 hE32 => st_val hE32 (y_assign hE32 rfl) rfl fun a33 hE33 => wpList_nil ?_
      clear hE29 hE30 hE32
      clear a29 a30 a32
      refine then_normal ?_
      refine wp_seq (wp_region_lit ?_)
      refine st_val hE33 (y_move hE33 rfl) rfl fun a34 hE34 => st_callS hE34 hS31 Try.func13 fb13 fn13 (c_laws_toEntryS p1 (hS31.up hp1) hsm1) rfl rfl fun A35 cp35 F35 w35 hx35 hS35 a36 hE36 => st_val hE36 (y_assign hE36 rfl) rfl fun a37 hE37 => wpList_nil ?_
      clear hE33 hE34 hE36
      clear a33 a34 a36
      refine then_normal ?_
      refine wp_seq (wp_region_lit ?_)
      refine st_val hE37 (y_move hE37 rfl) rfl fun a38 hE38 => st_val hE38 (y_move hE38 rfl) rfl fun a39 hE39 => st_callF hE39 hS35 Try.func17 fb17 fn17 (c_impl_IsBeginning (laws_toEntryS p0) (laws_toEntryS p1) (hS35.ownl (k := 1) rfl) (hS35.ownl (k := 0) rfl)) rfl rfl fun w40 hS40 a41 hE41 => st_val hE41 (y_assign hE41 rfl) rfl fun a42 hE42 => wpList_nil ?_
      clear hE37 hE38 hE39 hE41
      clear a37 a38 a39 a41
      refine then_normal ?_
      refine wp_seq (wp_seq (wp_region_lit ?_))
      refine st_val hE42 (y_move hE42 rfl) rfl fun a43 hE43 => st_val hE43 (y_move hE43 rfl) rfl fun a44 hE44 => st_val hE44 (y_neq_bool hE44 rfl rfl Try.underlying4) rfl fun a45 hE45 => wpList_nil ?_
      clear hE42 hE43 hE44
      clear a42 a43 a44
      refine then_normal ?_
      refine cond_split hE45 rfl (fun hb46 => ?_) (fun hb46 => ?_)
      ·
        have hM := hM.trans (if_t hb46)
        refine wp_seq (wp_region_lit ?_)
        refine st_val hE45 (y_assign hE45 rfl) rfl fun a47 hE47 => wpList_nil ?_
        clear hE45
        clear a45
        refine then_normal ?_
        refine wp_ret ?_
        refine then_ret ?_
        exact fin1 hE47 rfl rfl ⟨by rw [hM], hS40.below⟩
      ·
        have hM := hM.trans (if_f hb46)
        refine wp_skip ?_
        refine then_normal ?_
        refine wp_seq (wp_seq (wp_region_lit ?_))
        refine st_val hE45 (y_move hE45 rfl) rfl fun a48 hE48 => st_val hE48 (y_move hE48 rfl) rfl fun a49 hE49 => st_callS hE49 hS40 Try.func13 fb13 fn13 (c_laws_toEntryS p0 (hS40.up hp0) hsm0) rfl rfl fun A50 cp50 F50 w50 hx50 hS50 a51 hE51 => st_callF hE51 hS50 Try.func15 fb15 fn15 (c_laws_eqEntryS (laws_toEntryS p0) (laws_toEntryS p0) (hS50.ownl (k := 2) rfl) (hS50.ownl (k := 0) rfl)) rfl rfl fun w52 hS52 a53 hE53 => st_val hE53 (y_not hE53 rfl) rfl fun a54 hE54 => wpList_nil ?_
        clear hE45 hE48 hE49 hE51 hE53
        clear a45 a48 a49 a51 a53
        refine then_normal ?_
        refine cond_split hE54 rfl (fun hb55 => ?_) (fun hb55 => ?_)
        ·
          have hM := hM.trans (if_t hb55)
          refine wp_seq (wp_region_lit ?_)
          refine st_val hE54 (y_assign hE54 rfl) rfl fun a56 hE56 => wpList_nil ?_
          clear hE54
          clear a54
          refine then_normal ?_
          refine wp_ret ?_
          refine then_ret ?_
          exact fin1 hE56 rfl rfl ⟨by rw [hM], hS52.below⟩
        ·
          have hM := hM.trans (if_f hb55)
          refine wp_skip ?_
          refine then_normal ?_
          refine wp_seq (wp_seq (wp_region_lit ?_))
          refine st_val hE54 (y_move hE54 rfl) rfl fun a57 hE57 => st_val hE57 (y_move hE57 rfl) rfl fun a58 hE58 => st_callS hE58 hS52 Try.func13 fb13 fn13 (c_laws_toEntryS p1 (hS52.up hp1) hsm1) rfl rfl fun A59 cp59 F59 w59 hx59 hS59 a60 hE60 => st_callF hE60 hS59 Try.func15 fb15 fn15 (c_laws_eqEntryS (laws_toEntryS p1) (laws_toEntryS p1) (hS59.ownl (k := 2) rfl) (hS59.ownl (k := 0) rfl)) rfl rfl fun w61 hS61 a62 hE62 => st_val hE62 (y_not hE62 rfl) rfl fun a63 hE63 => wpList_nil ?_
          clear hE54 hE57 hE58 hE60 hE62
          clear a54 a57 a58 a60 a62
          refine then_normal ?_
          refine cond_split hE63 rfl (fun hb64 => ?_) (fun hb64 => ?_)
          ·
            have hM := hM.trans (if_t hb64)
            refine wp_seq (wp_region_lit ?_)
            refine st_val hE63 (y_assign hE63 rfl) rfl fun a65 hE65 => wpList_nil ?_
            clear hE63
            clear a63
            refine then_normal ?_
            refine wp_ret ?_
            refine then_ret ?_
            exact fin1 hE65 rfl rfl ⟨by rw [hM], hS61.below⟩
          ·
            have hM := hM.trans (if_f hb64)
            refine wp_skip ?_
            refine then_normal ?_
            refine wp_seq (wp_region_lit ?_)
            refine st_val hE63 (y_assign hE63 rfl) rfl fun a66 hE66 => wpList_nil ?_
            clear hE63
            clear a63
            refine then_normal ?_
            refine wp_ret ?_
            exact fin1 hE66 rfl rfl ⟨by rw [hM], hS61.below⟩


theorem SameSteps_twin (a b : List Step) : impl_SameSteps a b = spec_SameSteps a b := by
  have h : ∀ n i, slices_Equal_Step_l1 a b n i = spec_SameSteps_l1 a b n i := by
    intro n
    induction n with
    | zero => intro i; rfl
    | succ n ih => intro i; simp only [slices_Equal_Step_l1, spec_SameSteps_l1, ih]
  simp only [impl_SameSteps, slices_Equal_Step, spec_SameSteps, h]
theorem SameAnswers_twin (a b : List Answer) : impl_SameAnswers a b = spec_SameAnswers a b := by
  have h : ∀ n i, slices_Equal_Answer_l1 a b n i = spec_SameAnswers_l1 a b n i := by
    intro n
    induction n with
    | zero => intro i; rfl
    | succ n ih => intro i; simp only [slices_Equal_Answer_l1, spec_SameAnswers_l1, ih]
  simp only [impl_SameAnswers, slices_Equal_Answer, spec_SameAnswers, h]
theorem sameEntry_twin (a b : Entry) : impl_sameEntry a b = spec_l26SameEntry a b := by
  simp only [impl_sameEntry, spec_l26SameEntry, SameSteps_twin, SameAnswers_twin, Bool.and_assoc, Bool.and_comm, Bool.and_left_comm]
theorem SameEntries_twin (a b : List Entry) : impl_SameEntries a b = spec_SameEntries a b := by
  have h : ∀ n i, slices_EqualFunc_Entry_l1 a b impl_sameEntry n i = spec_SameEntries_l1 a b n i := by
    intro n
    induction n with
    | zero => intro i; rfl
    | succ n ih => intro i; simp only [slices_EqualFunc_Entry_l1, spec_SameEntries_l1, sameEntry_twin, ih]
  simp only [impl_SameEntries, slices_EqualFunc_Entry, spec_SameEntries, h]
theorem laws_FnExactIsBeginning_true (p0 p1 : List Entry) (hg0 : Dat.good p0) (hg1 : Dat.good p1) : laws_FnExactIsBeginning p0 p1 = true := by
  have h : impl_IsBeginning p0 p1 = spec_IsBeginning p0 p1 := by simp only [impl_IsBeginning, spec_IsBeginning, SameEntries_twin]
  unfold laws_FnExactIsBeginning
  simp [h]

end Go.Proofs.Ytpfnofdaaekglaa.Fw

namespace Go.Proofs.Ytpfnofdaaekglaa.fnExactIsBeginning
open Go.ChangeShapes Go.WideShapes Go.ChangeAt Go.RowKit Go.Proofs.Ytpfnofdaaekglaa.Fw
set_option linter.unusedVariables false

theorem own : ownKnob Try.prog.godebug = none := by kernel_rfl
theorem laidOut : laidOutB Try.prog = true := by kernel_rfl

set_option maxRecDepth 100000 in
theorem lifted (os : Os) (started : os.Started) (H : Type) (enc : TypeId × Value → H) :
    ReturnsInHanded {} Try.checked os 5 .any (Rows.fnExactIsBeginningSpec.pre6 enc Try.prog Try.f5 Rows.fnExactIsBeginningRow.domain false) (Rows.fnExactIsBeginningSpec.post enc Try.prog Try.f5 false true false false) := by
  refine returnsInHanded_of_change (C := Try.checked) own started (by kernel_rfl) Try.func5
    (ChangeSpec.witness6 (enc := enc) (C := Try.checked) false ⟨#[], #[.slice none 0 0, .slice none 0 0], []⟩ 8 (by kernel_rfl) (by kernel_rfl) (by kernel_rfl) (by kernel_rfl)) ?_
  intro W base args ds gs before hval0 hW hcnd _
  have hval : ∀ (j : Nat) t v, Try.f5.params[j]? = some t → args[j]? = some v → Value.okWide Try.prog W .any base t v := hval0
  have hW' := hW
  obtain ⟨p, q, hA0, hV, rfl, hfz, hnd⟩ := hW
  have hA : DataW.TrodAll enc Try.prog W 0 (fun _ => true) true Try.f5.params.toList args.toList ds p := hA0
  rw [Try.params5] at hA hval
  obtain ⟨v0, vs0, d0, ds0, p0, q0, hargs, rfl, rfl, h0, r0⟩ := trodAll_cons hA
  obtain ⟨v1, vs1, d1, ds1, p1, q1, rfl, rfl, rfl, h1, r1⟩ := trodAll_cons r0
  obtain ⟨rfl, rfl, rfl⟩ := trodAll_nil r1
  obtain rfl : args = #[v0, v1] := by cases args; simp_all
  obtain ⟨rfl, rfl⟩ := trodVars_none hV
  have k0 := h0
  have lt0 : ∀ x ∈ p0, x.block < W.heap.size := by obtain ⟨m, hm⟩ := k0; exact DataW.trod_lt m _ _ _ hm
  obtain ⟨A0, len0, cap0, rfl⟩ := okWide_slice Try.underlying24 (hval 0 24 v0 rfl rfl)
  obtain ⟨x0, hx0⟩ : ∃ x : List Entry, SlR (Old W) W (.slice A0 len0 cap0) x := by
    obtain ⟨fuel, hf⟩ := h0
    obtain ⟨x, v, hv, hx⟩ := rd24 hf
    cases hv
    exact ⟨x, hx⟩
  have k1 := h1
  have lt1 : ∀ x ∈ p1, x.block < W.heap.size := by obtain ⟨m, hm⟩ := k1; exact DataW.trod_lt m _ _ _ hm
  obtain ⟨A1, len1, cap1, rfl⟩ := okWide_slice Try.underlying24 (hval 1 24 v1 rfl rfl)
  obtain ⟨x1, hx1⟩ : ∃ x : List Entry, SlR (Old W) W (.slice A1 len1 cap1) x := by
    obtain ⟨fuel, hf⟩ := h1
    obtain ⟨x, v, hv, hx⟩ := rd24 hf
    cases hv
    exact ⟨x, hx⟩
  have hc := c_laws_FnExactIsBeginning (w := W) x0 x1 hx0 hx1
  refine hc.mono fun e W' ⟨he, bel⟩ => ?_
  rw [laws_FnExactIsBeginning_true x0 x1 (Dat.rd_good (B := Old W) (w := W) (cs := [_]) ⟨_, rfl, hx0⟩) (Dat.rd_good (B := Old W) (w := W) (cs := [_]) ⟨_, rfl, hx1⟩)] at he
  subst he
  exact ⟨_, rfl, _, _, _, [], _, [], hW', trodAll_mk1 (shut_bool Try.underlying4 _), (trodAll_cons_mk (Below.trod laidOut (by kernel_rfl) (of_decide_eq_true (by kernel_rfl)) k0 bel lt0) (trodAll_cons_mk (Below.trod laidOut (by kernel_rfl) (of_decide_eq_true (by kernel_rfl)) k1 bel lt1) trodAll_mk0)), rfl, bel.frame _, fun h => by cases h⟩

theorem over : Rows.fnExactIsBeginningRow.holds Try.pinned (OpenSpec.ofChange Rows.fnExactIsBeginningSpec) :=
  OpenClaim.holds_of_wide 5 Try.f5 rfl rfl rfl rfl rfl rfl rfl ⟨rfl, rfl, rfl, rfl, rfl⟩ rfl rfl rfl rfl rfl (by kernel_rfl) Try.func5 (by kernel_rfl)
    (of_decide_eq_true (by kernel_rfl)) (by unfold Func.isWrapper; first | (rw [if_pos (by decide +kernel)]; kernel_rfl) | (rw [if_neg (by decide +kernel)]; exact ⟨rfl, rfl⟩))
    (fun os started H enc _ => lifted os started H enc)

end Go.Proofs.Ytpfnofdaaekglaa.fnExactIsBeginning
namespace Go.Proofs.Ytpfnofdaaekglaa
/-- The statement. -/
theorem fnExactIsBeginning_proved : Rows.FnExactIsBeginningSaid := fnExactIsBeginning.over
#print axioms fnExactIsBeginning_proved
end Go.Proofs.Ytpfnofdaaekglaa
