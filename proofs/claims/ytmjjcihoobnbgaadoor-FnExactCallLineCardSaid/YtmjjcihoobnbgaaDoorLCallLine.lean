/- The law FnExactCallLine: for every input it returns true, and what came in is as it was. No condition. By program (wip/gen). -/
import Derived.Test.YtmjjcihoobnbgaaDoorP8
import Derived.Test.YtmjjcihoobnbgaaDoorCards
import Derived.Test.YtmjjcihoobnbgaaDoorTie
import Derived.OpenShut
import Derived.ChangeOld
import Derived.ProofKit
import Derived.LaidMore
import Derived.Stop.Joined
import Derived.SevenTiedAt
namespace Go.Proofs.YtmjjcihoobnbgaaDoor.Fw
open Go.RowKit
set_option linter.unusedVariables false
set_option linter.unusedSimpArgs false

theorem agg29 : chkAgg Tryd.prog 29 6 = true := by kernel_rfl
theorem fb14 : Tryd.f14.body.isNone = false := rfl
theorem fb15 : Tryd.f15.body.isNone = false := rfl
theorem fb16 : Tryd.f16.body.isNone = false := rfl
theorem fb17 : Tryd.f17.body.isNone = false := rfl
theorem fn14 : (Tryd.f14.name == "runtime.NumGoroutine") = false := by kernel_rfl
theorem fn15 : (Tryd.f15.name == "runtime.NumGoroutine") = false := by kernel_rfl
theorem fn16 : (Tryd.f16.name == "runtime.NumGoroutine") = false := by kernel_rfl
theorem fn17 : (Tryd.f17.name == "runtime.NumGoroutine") = false := by kernel_rfl

theorem rd3 : Reads Tryd.prog 3 Int := reads_int Tryd.underlying3
theorem rd9 : Reads Tryd.prog 9 ByteArray := reads_string Tryd.underlying9
theorem rd29 : Reads Tryd.prog 29 Call := by
  intro H enc W fuel cs x h
  obtain ⟨a0, h0⟩ := reads_field (α := Int) (o := 0) (by kernel_rfl : chkFieldT Tryd.prog 29 0 0 3 1 = true) rd3 h
  obtain ⟨a1, h1⟩ := reads_field (α := ByteArray) (o := 1) (by kernel_rfl : chkFieldT Tryd.prog 29 1 1 9 1 = true) rd9 h
  obtain ⟨a2, h2⟩ := reads_field (α := ByteArray) (o := 2) (by kernel_rfl : chkFieldT Tryd.prog 29 2 2 9 1 = true) rd9 h
  obtain ⟨a3, h3⟩ := reads_field (α := Int) (o := 3) (by kernel_rfl : chkFieldT Tryd.prog 29 3 3 3 1 = true) rd3 h
  obtain ⟨a4, h4⟩ := reads_field (α := Int) (o := 4) (by kernel_rfl : chkFieldT Tryd.prog 29 4 4 3 1 = true) rd3 h
  obtain ⟨a5, h5⟩ := reads_field (α := ByteArray) (o := 5) (by kernel_rfl : chkFieldT Tryd.prog 29 5 5 9 1 = true) rd9 h
  have hl := struct_len agg29 Tryd.underlying29 h
  have e : cs = (cs.drop 0).take 6 := by rw [List.drop_zero, List.take_of_length_le (by omega)]
  refine ⟨⟨a0, a1, a2, a3, a4, a5⟩, ?_⟩
  rw [e]
  exact rd_pair h0 (rd_pair h1 (rd_pair h2 (rd_pair h3 (rd_pair h4 h5))))

def laws_FnExactCallLine (p0 : Call) : Bool := (if (decide ((laws_szCall p0 1048576) < 0)) = true then true else (if (!decide ((impl_CallLine (laws_toCall p0)) = (spec_CallLine (laws_toCall p0)))) = true then false else true))
theorem c_laws_FnExactCallLine {c0 : List Value} (p0 : Call) {w : World} (hp0 : Dat.rd (Old w) w c0 p0) (hG1 : GV 1 (gl1.map Value.string) w) (hG7 : GV 7 (gl7.map (Value.int .u64)) w) :
    Calls Tryd.prog 4 [.agg c0.toArray].toArray w (fun e w' => e = .returned (.bool (laws_FnExactCallLine p0)) ∧ Below w.heap.size w w') := by
  obtain ⟨rfl, hg90000_0, hg90000_1, hg90000_2, hg90000_3, hg90000_4, hg90000_5, _⟩ := Call_open hp0
  refine enter Tryd.func4 rfl Tryd.ntmps4 (Nat.le_of_ble_eq_true rfl) ?_
  intro a0 hE0
  have hS0 := SH.start w
  have hM := laws_FnExactCallLine.eq_1 p0
  have hgd0 : Dat.good p0 := Dat.rd_good hp0
  refine wp_seq (wp_region_lit ?_)
  refine st_box hE0 hS0 rfl rfl rfl fun b1 w1 hS1 a2 hE2 => st_val hE2 (y_assign hE2 rfl) rfl fun a3 hE3 => wpList_nil ?_
  clear hE0 hE2
  clear a0 a2
  refine then_normal ?_
  refine wp_seq (wp_region_lit ?_)
  refine st_val hE3 (y_assign hE3 rfl) rfl fun a4 hE4 => wpList_nil ?_
  clear hE3
  clear a3
  refine then_normal ?_
  refine wp_seq (wp_region_lit ?_)
  refine st_val hE4 (y_load_agg hE4 rfl (hS1.cells (k := 0) rfl) rfl rfl agg29) rfl fun a5 hE5 => st_val hE5 (y_move hE5 rfl) rfl fun a6 hE6 => st_callF hE6 hS1 Tryd.func15 fb15 fn15 (c_laws_szCall p0 1048576 (hS1.upd hp0)) rfl rfl fun w7 hS7 a8 hE8 => st_val hE8 (y_assign hE8 rfl) rfl fun a9 hE9 => wpList_nil ?_
  clear hE4 hE5 hE6 hE8
  clear a4 a5 a6 a8
  refine then_normal ?_
  refine wp_seq (wp_seq (wp_region_lit ?_))
  refine st_val hE9 (y_move hE9 rfl) rfl fun a10 hE10 => st_val hE10 (y_lss hE10 rfl rfl) rfl fun a11 hE11 => wpList_nil ?_
  clear hE9 hE10
  clear a9 a10
  refine then_normal ?_
  refine cond_split hE11 rfl (fun hb12 => ?_) (fun hb12 => ?_)
  ·
    have hM := hM.trans (if_t hb12)
    have hb12f : (laws_szCall p0 1048576) < 0 := of_decide_eq_true hb12
    refine wp_seq (wp_region_lit ?_)
    refine st_val hE11 (y_assign hE11 rfl) rfl fun a13 hE13 => wpList_nil ?_
    clear hE11
    clear a11
    refine then_normal ?_
    refine wp_ret ?_
    refine then_ret ?_
    exact fin1 hE13 rfl rfl ⟨by rw [hM], hS7.below⟩
  ·
    have hM := hM.trans (if_f hb12)
    have hb12f : ¬ ((laws_szCall p0 1048576) < 0) := of_decide_eq_false hb12
    obtain ⟨hsm0, hle0, hle0_⟩ := laws_szCall_small p0 1048576 (by omega) (by omega) hgd0 hb12f
    refine wp_skip ?_
    refine then_normal ?_
    refine wp_seq (wp_region_lit ?_)
    refine st_val hE11 (y_load_agg hE11 rfl (hS7.cells (k := 0) rfl) rfl rfl agg29) rfl fun a14 hE14 => st_callO (mk := fun cs => .agg cs.toArray) hE14 hS7 Tryd.func17 fb17 fn17 (c_laws_toCall p0 (hS7.upd hp0)) rfl rfl fun cs15 F15 w15 hS15 a16 hE16 => st_callF hE16 hS15 Tryd.func16 fb16 fn16 (oc_spec_CallLine (laws_toCall p0) (hS15.ownd (k := 0) rfl) (GV.sh hS15 hG1) (GV.sh hS15 hG7)) rfl rfl fun w17 hS17 a18 hE18 => st_val hE18 (y_assign hE18 rfl) rfl fun a19 hE19 => wpList_nil ?_
    clear hE11 hE14 hE16 hE18
    clear a11 a14 a16 a18
    refine then_normal ?_
    refine wp_seq (wp_region_lit ?_)
    refine st_val hE19 (y_load_agg hE19 rfl (hS17.cells (k := 1) rfl) rfl rfl agg29) rfl fun a20 hE20 => st_callO (mk := fun cs => .agg cs.toArray) hE20 hS17 Tryd.func17 fb17 fn17 (c_laws_toCall p0 (hS17.upd hp0)) rfl rfl fun cs21 F21 w21 hS21 a22 hE22 => st_callF hE22 hS21 Tryd.func14 fb14 fn14 (oc_impl_CallLine (laws_toCall p0) (hS21.ownd (k := 0) rfl) (GV.sh hS21 hG1) (GV.sh hS21 hG7)) rfl rfl fun w23 hS23 a24 hE24 => st_val hE24 (y_assign hE24 rfl) rfl fun a25 hE25 => wpList_nil ?_
    clear hE19 hE20 hE22 hE24
    clear a19 a20 a22 a24
    refine then_normal ?_
    refine wp_seq (wp_seq (wp_region_lit ?_))
    refine st_val hE25 (y_move hE25 rfl) rfl fun a26 hE26 => st_val hE26 (y_move hE26 rfl) rfl fun a27 hE27 => st_val hE27 (y_neq_string hE27 rfl rfl) rfl fun a28 hE28 => wpList_nil ?_
    clear hE25 hE26 hE27
    clear a25 a26 a27
    refine then_normal ?_
    refine cond_split hE28 rfl (fun hb29 => ?_) (fun hb29 => ?_)
    ·
      have hM := hM.trans (if_t hb29)
      refine wp_seq (wp_region_lit ?_)
      refine st_val hE28 (y_assign hE28 rfl) rfl fun a30 hE30 => wpList_nil ?_
      clear hE28
      clear a28
      refine then_normal ?_
      refine wp_ret ?_
      refine then_ret ?_
      exact fin1 hE30 rfl rfl ⟨by rw [hM], hS23.below⟩
    ·
      have hM := hM.trans (if_f hb29)
      refine wp_skip ?_
      refine then_normal ?_
      refine wp_seq (wp_region_lit ?_)
      refine st_val hE28 (y_assign hE28 rfl) rfl fun a31 hE31 => wpList_nil ?_
      clear hE28
      clear a28
      refine then_normal ?_
      refine wp_ret ?_
      exact fin1 hE31 rfl rfl ⟨by rw [hM], hS23.below⟩


theorem laws_FnExactCallLine_true (p0 : Call) (hg0 : Dat.good p0) : laws_FnExactCallLine p0 = true := by
  unfold laws_FnExactCallLine
  simp [laws_toCall_id, CallLine_twin hg0]

end Go.Proofs.YtmjjcihoobnbgaaDoor.Fw

namespace Go.Proofs.YtmjjcihoobnbgaaDoor.fnExactCallLine
open Go.ChangeShapes Go.WideShapes Go.ChangeAt Go.RowKit Go.Proofs.YtmjjcihoobnbgaaDoor.Fw
set_option linter.unusedVariables false

theorem own : ownKnob Tryd.prog.godebug = none := by kernel_rfl
theorem laidOut : laidOutB Tryd.prog = true := by kernel_rfl

theorem door_met (os : Os) (args : Array Value) : laidMetH Tryd.prog Rows.fnExactCallLineRow.laid ((World.doorLaid Tryd.prog 400 os).forCall (fun _ _ => 0) ⟨#[], args, []⟩).memory :=
  laidMetH_of_parts3 (fuel := 8) (laidMet_of_run' 8 (by kernel_rfl) (by kernel_rfl)) (by kernel_rfl) (by kernel_rfl)
theorem of_laid {W : World} (h : laidMetH Tryd.prog Rows.fnExactCallLineRow.laid W) : GV 9 (gl9.map (Value.int .u8)) W ∧ GV 10 (gl10.map (Value.int .u8)) W ∧ GV 7 (gl7.map (Value.int .u64)) W ∧ GV 1 (gl1.map Value.string) W := by
  rw [MakeChecks.laidMetH_plain _ _ _ (by kernel_rfl)] at h
  obtain ⟨ps, ⟨g0, t0, cs0, f0, p0, q0, hg0, ht0, hv0, hd0, ⟨g1, t1, cs1, f1, p1, q1, hg1, ht1, hv1, hd1, ⟨g2, t2, cs2, f2, p2, q2, hg2, ht2, hv2, hd2, ⟨g3, t3, cs3, f3, p3, q3, hg3, ht3, hv3, hd3, _, _⟩, _⟩, _⟩, _⟩, _, _⟩ := h
  obtain rfl := Option.some.inj ((show Tryd.prog.globalNamed "math/bits.deBruijn32tab" = some 9 by kernel_rfl).symm.trans hg0)
  obtain rfl := Option.some.inj ((show (Tryd.prog.globals[9]?).map (·.type) = some 200 by kernel_rfl).symm.trans ht0)
  obtain rfl := Option.some.inj ((show Tryd.prog.globalNamed "math/bits.deBruijn64tab" = some 10 by kernel_rfl).symm.trans hg1)
  obtain rfl := Option.some.inj ((show (Tryd.prog.globals[10]?).map (·.type) = some 201 by kernel_rfl).symm.trans ht1)
  obtain rfl := Option.some.inj ((show Tryd.prog.globalNamed "internal/strconv.uint64pow10" = some 7 by kernel_rfl).symm.trans hg2)
  obtain rfl := Option.some.inj ((show (Tryd.prog.globals[7]?).map (·.type) = some 192 by kernel_rfl).symm.trans ht2)
  obtain rfl := Option.some.inj ((show Tryd.prog.globalNamed "loop.example/g00974/impl.callNames" = some 1 by kernel_rfl).symm.trans hg3)
  obtain rfl := Option.some.inj ((show (Tryd.prog.globals[1]?).map (·.type) = some 98 by kernel_rfl).symm.trans ht3)
  exact ⟨GV_ints (names := gl9) hg0 Tryd.underlying200 Tryd.underlying5 (by kernel_rfl) (by kernel_rfl) hv0 hd0, GV_ints (names := gl10) hg1 Tryd.underlying201 Tryd.underlying5 (by kernel_rfl) (by kernel_rfl) hv1 hd1, GV_ints (names := gl7) hg2 Tryd.underlying192 Tryd.underlying175 (by kernel_rfl) (by kernel_rfl) hv2 hd2, GV_strs (names := gl1) hg3 Tryd.underlying98 Tryd.underlying9 (by kernel_rfl) (by kernel_rfl) hv3 hd3⟩

set_option maxRecDepth 100000 in
theorem lifted (os : Os) (started : os.Started) (H : Type) (enc : TypeId × Value → H) :
    ReturnsInHanded {} Tryd.checked os 4 .any (fun w args => (Rows.fnExactCallLineSpec.pre enc Tryd.prog Tryd.f4 Rows.fnExactCallLineRow.domain false w args ∧ laidMetH Tryd.prog Rows.fnExactCallLineRow.laid w) ∧ sizedMet enc Tryd.prog Tryd.f4 (OpenSpec.ofChange Rows.fnExactCallLineSpec) false w args) (Rows.fnExactCallLineSpec.post enc Tryd.prog Tryd.f4 false true false false) := by
  refine returnsInHanded_of_change_and (C := Tryd.checked) (X := fun w _ => laidMetH Tryd.prog Rows.fnExactCallLineRow.laid w) (fun _ _ _ hh h => h.of_heap hh) own started (by kernel_rfl) Tryd.func4
    (ChangeSpec.witness_shaped (enc := enc) (C := Tryd.checked) (os := os) (X := fun w _ => laidMetH Tryd.prog Rows.fnExactCallLineRow.laid w) false (World.doorLaid Tryd.prog 400 os) #[.agg #[.int .i64 0, .string ⟨#[]⟩, .string ⟨#[]⟩, .int .i64 0, .int .i64 0, .string ⟨#[]⟩]] 8 rfl (World.shaped_of_RefB (by kernel_rfl) (by kernel_rfl)) (by kernel_rfl) (by kernel_rfl) (by kernel_rfl) (door_met os _)) ?_
  intro W base args ds gs before hval0 hW hcnd _ hL _
  have hval : ∀ (j : Nat) t v, Tryd.f4.params[j]? = some t → args[j]? = some v → Value.okWide Tryd.prog W .any base t v := hval0
  have hW' := hW
  obtain ⟨p, q, hA0, hV, rfl, hfz, hnd⟩ := hW
  have hA : DataW.TrodAll enc Tryd.prog W 0 (fun _ => true) true Tryd.f4.params.toList args.toList ds p := hA0
  rw [Tryd.params4] at hA hval
  obtain ⟨v0, vs0, d0, ds0, p0, q0, hargs, rfl, rfl, h0, r0⟩ := trodAll_cons hA
  obtain ⟨rfl, rfl, rfl⟩ := trodAll_nil r0
  obtain rfl : args = #[v0] := by cases args; simp_all
  obtain ⟨gd0, gs0, gq0, rfl, hv0⟩ := trodVars_cons hV
  obtain rfl := trodVars_end hv0
  obtain ⟨hG9, hG10, hG7, hG1⟩ := of_laid hL
  have k0 := h0
  have lt0 : ∀ x ∈ p0, x.block < W.heap.size := by obtain ⟨m, hm⟩ := k0; exact DataW.trod_lt m _ _ _ hm
  obtain ⟨cs0, rfl, _⟩ := okWide_struct Tryd.underlying29 (hval 0 29 v0 rfl rfl)
  obtain ⟨x0, hx0⟩ : ∃ x : Fw.Call, Dat.rd (Old W) W cs0.toList x := by
    obtain ⟨fuel, hf⟩ := h0
    exact rd29 hf
  have hc := c_laws_FnExactCallLine (w := W) x0 hx0 hG1 hG7
  refine hc.mono fun e W' ⟨he, bel⟩ => ?_
  rw [laws_FnExactCallLine_true x0 (Dat.rd_good hx0)] at he
  subst he
  exact ⟨_, rfl, _, _, _, [], _, _, hW', trodAll_mk1 (shut_bool Tryd.underlying4 _), (trodAll_cons_mk (Below.trod laidOut (by kernel_rfl) (of_decide_eq_true (by kernel_rfl)) k0 bel lt0) trodAll_mk0), vars_below laidOut bel _ (by kernel_rfl) hV, bel.frame _, fun h => by cases h⟩

theorem over : Rows.fnExactCallLineRow.holds Tryd.pinned (OpenSpec.ofChange Rows.fnExactCallLineSpec) :=
  OpenClaim.holds_of_wide 4 Tryd.f4 rfl rfl rfl rfl rfl rfl rfl ⟨rfl, rfl, rfl, rfl, rfl⟩ rfl rfl rfl rfl rfl (by kernel_rfl) Tryd.func4 (by kernel_rfl)
    (of_decide_eq_true (by kernel_rfl)) (by unfold Func.isWrapper; first | (rw [if_pos (by decide +kernel)]; kernel_rfl) | (rw [if_neg (by decide +kernel)]; exact ⟨rfl, rfl⟩))
    (fun os started H enc _ => lifted os started H enc)

theorem card : Rows.FnExactCallLineCardSaid :=
  Claim7.holds_tied_plain_at .later [] [.data, .data, .data, .widerDeep] true (true, "c92ada5cff6e9dda2d5334594b9f58e624b37b383a7acb95d78510338284d01f") true
    over (fun _ h => by cases h) (by kernel_rfl) (fun _ h => by cases h) fnExactCallLine_row_tie rfl ⟨rfl, rfl⟩ (by kernel_rfl) rfl
    (fun f fn hf hfn => by
      obtain rfl : f = 4 := Option.some.inj ((show Tryd.prog.funcNamed "loop.example/g00974/laws.FnExactCallLine" = some 4 by kernel_rfl).symm.trans hf) |>.symm
      obtain rfl : fn = Tryd.f4 := (Option.some.inj (Tryd.func4.symm.trans hfn)).symm
      exact ⟨by kernel_rfl, fun j t ht => by
        rw [Tryd.params4] at ht
        have hm : t ∈ [29] := by simpa using Array.mem_of_getElem? ht
        have hall : ([29].all fun u => !Tryd.prog.wantsStandIn u) = true := by kernel_rfl
        exact (show Tryd.prog.wantsStandIn t = false by simpa using List.all_eq_true.1 hall t hm)⟩)
    (by kernel_rfl)
end Go.Proofs.YtmjjcihoobnbgaaDoor.fnExactCallLine
namespace Go.Proofs.YtmjjcihoobnbgaaDoor
/-- The statement. -/
theorem fnExactCallLine_proved : Rows.FnExactCallLineCardSaid := fnExactCallLine.card
#print axioms fnExactCallLine_proved
end Go.Proofs.YtmjjcihoobnbgaaDoor
