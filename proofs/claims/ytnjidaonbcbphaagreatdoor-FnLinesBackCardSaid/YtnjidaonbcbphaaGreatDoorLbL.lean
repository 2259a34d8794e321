/- The law FnLinesBack: for every input it returns true, and what came in is as it was. No condition. By program (wip/gen). -/
import Derived.Test.YtnjidaonbcbphaaGreatDoorCards
import Derived.Test.YtnjidaonbcbphaaGreatDoorTie
import Derived.OpenShut
import Derived.ChangeOld
import Derived.ProofKit
import Derived.LaidMore
import Derived.Stop.Joined
import Derived.SevenTiedAt
import Derived.Test.YtnjidaonbcbphaaGreatDoorLbZ
import Derived.Test.YtnjidaonbcbphaaGreatDoorLbA
import Derived.Test.YtnjidaonbcbphaaGreatDoorLbB
import Derived.Test.YtnjidaonbcbphaaGreatDoorLbC
import Derived.Test.YtnjidaonbcbphaaGreatDoorLbD
import Derived.Test.YtnjidaonbcbphaaGreatDoorLbE
import Derived.Test.YtnjidaonbcbphaaGreatDoorLbF
namespace Go.Proofs.YtnjidaonbcbphaaGreatDoor.Fw
open Go.RowKit
set_option linter.unusedVariables false
set_option linter.unusedSimpArgs false

theorem sl51 : chkSlice Tryz.prog 51 5 1 1 = true := by kernel_rfl

theorem rd5 : Reads Tryz.prog 5 UInt8 := by
  intro H enc W fuel cs x h
  obtain ⟨n, rfl, _, hw⟩ := DataW.trod_int Tryz.underlying5 h
  refine ⟨UInt8.ofNat n.toNat, ?_, trivial⟩
  simp [Lit.wf, IntKind.min, IntKind.max, IntKind.signed, IntKind.bits] at hw
  have h2 : (UInt8.ofNat n.toNat).toNat = n.toNat % 256 := UInt8.toNat_ofNat'
  show [Value.int .u8 n] = [Value.int .u8 ((UInt8.ofNat n.toNat).toNat : Int)]
  rw [h2, show ((n.toNat % 256 : Nat) : Int) = n by omega]
theorem rd51 : Reads Tryz.prog 51 (List UInt8) := reads_slice sl51 (by kernel_rfl) rd5

theorem laws_FnLinesBack_eq (p0 : List UInt8) (hA : Dat.good (spec_DrawActLine p0)) (hC : Dat.good (spec_DrawCallLine p0)) (hR : Dat.good (spec_DrawReadCall p0)) : laws_FnLinesBack p0 = true := by
  unfold laws_FnLinesBack
  have hl := (DrawReadCall_small p0).1
  have hfold : impl_ActLine (Deed.mk 9 0 0 (Call.mk 0 ⟨#[]⟩ ⟨#[]⟩ 0 0 ⟨#[]⟩)) = ⟨#[102, 111, 108, 100]⟩ := by kernel_rfl
  rw [hfold, ActLine_twin hA, CallLine_twin hC, ReadCall_twin hR (by omega), ActName_all, ReadAct_twin (spec_DrawReadAct p0), ReadAct_twin (((⟨#[32, 32]⟩ : ByteArray) ++ _) ++ _)]
  generalize spec_DrawActLine p0 = a at *
  generalize spec_DrawCallLine p0 = c at *
  generalize spec_ReadCall (spec_DrawReadCall p0) = x at *
  generalize spec_ReadAct (spec_DrawReadAct p0) = y at *
  generalize spec_ActName (spec_DrawActName p0) = z at *
  have e1 : (spec_ActLine a = ⟨#[]⟩ ∧ (spec_ReadAct (((⟨#[32, 32]⟩ : ByteArray) ++ (spec_ActLine a)) ++ (⟨#[32]⟩ : ByteArray))).2 = false) ∨ (spec_ActLine a ≠ ⟨#[]⟩ ∧ spec_ReadAct (((⟨#[32, 32]⟩ : ByteArray) ++ (spec_ActLine a)) ++ (⟨#[32]⟩ : ByteArray)) = (a, true)) := by
    by_cases h : spec_ActLine a = ⟨#[]⟩
    · exact .inl ⟨h, by rw [h]; exact ReadAct_empty⟩
    · exact .inr ⟨h, ActBack h (ActLine_parts h)⟩
  have e2 : (spec_CallLine c = ⟨#[]⟩ ∧ (impl_ReadCall ((impl_PartsOf (spec_CallLine c)).1)).2 = false) ∨ (spec_CallLine c ≠ ⟨#[]⟩ ∧ impl_ReadCall ((impl_PartsOf (spec_CallLine c)).1) = (c, true)) := by
    by_cases h : spec_CallLine c = ⟨#[]⟩
    · exact .inl ⟨h, by rw [h]; exact ReadCall_empty⟩
    · have := (ReadBack hC h).2.1
      rw [CallLine_twin hC] at this
      exact .inr ⟨h, this⟩
  generalize spec_ReadAct (((⟨#[32, 32]⟩ : ByteArray) ++ (spec_ActLine a)) ++ (⟨#[32]⟩ : ByteArray)) = u at *
  generalize impl_ReadCall ((impl_PartsOf (spec_CallLine c)).1) = v at *
  generalize spec_ActLine a = p at *
  generalize spec_CallLine c = q at *
  rcases e1 with ⟨h1, h2⟩ | ⟨h1, rfl⟩ <;> rcases e2 with ⟨h3, h4⟩ | ⟨h3, rfl⟩ <;> cases laws_big p0 <;> simp_all
def lbv (p0 : List UInt8) : Bool := true
theorem oc_laws_FnLinesBack {v0 : Value} (p0 : List UInt8) {w : World} (hp0 : SlR (Old w) w v0 p0) (hG0 : GV 0 (gl0.map Value.string) w) (hG1 : GV 1 (gl1.map Value.string) w) (hG2 : GV 2 (gl2.map (Value.int .u8)) w) (hG8 : GV 8 (gl8.map (Value.int .u64)) w) (hG4 : GE 4 w) (hG5 : GE 5 w) (hG6 : GE 6 w) :
    Calls Tryz.prog 6 [v0].toArray w (fun e w' => e = .returned (.bool (lbv p0)) ∧ Below w.heap.size w w') := by
  have hG : Gw w := ⟨hG0, hG1, hG2, hG8, hG4, hG5, hG6⟩
  have hA : ArgsR w [v0] [.o (.sl UInt8 instDatUInt8 p0)] := ⟨hp0, trivial⟩
  have e : laws_FnLinesBack p0 = true := laws_FnLinesBack_eq p0 ((c_spec_DrawActLine p0).gds hG hA).1 ((c_spec_DrawCallLine p0).gds hG hA).1 ((c_spec_DrawReadCall p0).gds hG hA).1
  have key := (c_laws_FnLinesBack p0).close hG hA
  rw [e] at key
  exact key

theorem lbv_true (p0 : List UInt8) (hg0 : Dat.good p0) : lbv p0 = true := rfl

end Go.Proofs.YtnjidaonbcbphaaGreatDoor.Fw

namespace Go.Proofs.YtnjidaonbcbphaaGreatDoor.fnLinesBack
open Go.ChangeShapes Go.WideShapes Go.ChangeAt Go.RowKit Go.Proofs.YtnjidaonbcbphaaGreatDoor.Fw
set_option linter.unusedVariables false

theorem own : ownKnob Tryz.prog.godebug = none := by kernel_rfl
theorem laidOut : laidOutB Tryz.prog = true := zf_laid

theorem door_met (os : Os) (args : Array Value) : laidMetH Tryz.prog Rows.fnLinesBackRow.laid ((World.doorLaid Tryz.prog 400 os).forCall (fun _ _ => 0) ⟨#[], args, []⟩).memory :=
  laidMetH_of_parts3 (fuel := 8) (laidMet_of_run' 8 (by kernel_rfl) (by kernel_rfl)) (by kernel_rfl) (by kernel_rfl)
set_option maxRecDepth 100000 in
theorem of_laid {W : World} (h : laidMetH Tryz.prog Rows.fnLinesBackRow.laid W) : GV 11 (gl11.map (Value.int .u8)) W ∧ GV 12 (gl12.map (Value.int .u8)) W ∧ GV 8 (gl8.map (Value.int .u64)) W ∧ GE 5 W ∧ GE 4 W ∧ GV 2 (gl2.map (Value.int .u8)) W ∧ GE 6 W ∧ GV 1 (gl1.map Value.string) W ∧ GV 0 (gl0.map Value.string) W := by
  rw [MakeChecks.laidMetH_plain _ _ _ (by kernel_rfl)] at h
  obtain ⟨ps, ⟨g0, t0, cs0, f0, p0, q0, hg0, ht0, hv0, hd0, ⟨g1, t1, cs1, f1, p1, q1, hg1, ht1, hv1, hd1, ⟨g2, t2, cs2, f2, p2, q2, hg2, ht2, hv2, hd2, ⟨g3, t3, cs3, f3, p3, q3, hg3, ht3, hv3, hd3, ⟨g4, t4, cs4, f4, p4, q4, hg4, ht4, hv4, hd4, ⟨g5, t5, cs5, f5, p5, q5, hg5, ht5, hv5, hd5, ⟨g6, t6, cs6, f6, p6, q6, hg6, ht6, hv6, hd6, ⟨g7, t7, cs7, f7, p7, q7, hg7, ht7, hv7, hd7, ⟨g8, t8, cs8, f8, p8, q8, hg8, ht8, hv8, hd8, ⟨g9, t9, cs9, f9, p9, q9, hg9, ht9, hv9, hd9, _, _⟩, _⟩, _⟩, _⟩, _⟩, _⟩, _⟩, _⟩, _⟩, _⟩, _, _⟩ := h
  obtain rfl := Option.some.inj ((show Tryz.prog.globalNamed "math/bits.deBruijn32tab" = some 11 by kernel_rfl).symm.trans hg0)
  obtain rfl := Option.some.inj ((show (Tryz.prog.globals[11]?).map (·.type) = some 312 by kernel_rfl).symm.trans ht0)
  obtain rfl := Option.some.inj ((show Tryz.prog.globalNamed "math/bits.deBruijn64tab" = some 12 by kernel_rfl).symm.trans hg1)
  obtain rfl := Option.some.inj ((show (Tryz.prog.globals[12]?).map (·.type) = some 313 by kernel_rfl).symm.trans ht1)
  obtain rfl := Option.some.inj ((show Tryz.prog.globalNamed "internal/strconv.uint64pow10" = some 8 by kernel_rfl).symm.trans hg2)
  obtain rfl := Option.some.inj ((show (Tryz.prog.globals[8]?).map (·.type) = some 296 by kernel_rfl).symm.trans ht2)
  obtain rfl := Option.some.inj ((show Tryz.prog.globalNamed "strconv.ErrRange" = some 5 by kernel_rfl).symm.trans hg3)
  obtain rfl := Option.some.inj ((show (Tryz.prog.globals[5]?).map (·.type) = some 185 by kernel_rfl).symm.trans ht3)
  obtain rfl := Option.some.inj ((show Tryz.prog.globalNamed "strconv.ErrSyntax" = some 4 by kernel_rfl).symm.trans hg4)
  obtain rfl := Option.some.inj ((show (Tryz.prog.globals[4]?).map (·.type) = some 185 by kernel_rfl).symm.trans ht4)
  obtain rfl := Option.some.inj ((show Tryz.prog.globalNamed "strings.asciiSpace" = some 2 by kernel_rfl).symm.trans hg6)
  obtain rfl := Option.some.inj ((show (Tryz.prog.globals[2]?).map (·.type) = some 194 by kernel_rfl).symm.trans ht6)
  obtain rfl := Option.some.inj ((show Tryz.prog.globalNamed "encoding/hex.ErrLength" = some 6 by kernel_rfl).symm.trans hg7)
  obtain rfl := Option.some.inj ((show (Tryz.prog.globals[6]?).map (·.type) = some 185 by kernel_rfl).symm.trans ht7)
  obtain rfl := Option.some.inj ((show Tryz.prog.globalNamed "loop.example/g00974/impl.callNames" = some 1 by kernel_rfl).symm.trans hg8)
  obtain rfl := Option.some.inj ((show (Tryz.prog.globals[1]?).map (·.type) = some 115 by kernel_rfl).symm.trans ht8)
  obtain rfl := Option.some.inj ((show Tryz.prog.globalNamed "loop.example/g00974/impl.actNames" = some 0 by kernel_rfl).symm.trans hg9)
  obtain rfl := Option.some.inj ((show (Tryz.prog.globals[0]?).map (·.type) = some 106 by kernel_rfl).symm.trans ht9)
  exact ⟨GV_ints (names := gl11) hg0 Tryz.underlying312 Tryz.underlying5 (by kernel_rfl) (by kernel_rfl) hv0 hd0, GV_ints (names := gl12) hg1 Tryz.underlying313 Tryz.underlying5 (by kernel_rfl) (by kernel_rfl) hv1 hd1, GV_ints (names := gl8) hg2 Tryz.underlying296 Tryz.underlying281 (by kernel_rfl) (by kernel_rfl) hv2 hd2, GE_iface hg3 Tryz.underlying185 hv3 hd3, GE_iface hg4 Tryz.underlying185 hv4 hd4, GV_ints (names := gl2) hg6 Tryz.underlying194 Tryz.underlying5 (by kernel_rfl) (by kernel_rfl) hv6 hd6, GE_iface hg7 Tryz.underlying185 hv7 hd7, GV_strs (names := gl1) hg8 Tryz.underlying115 Tryz.underlying9 (by kernel_rfl) (by kernel_rfl) hv8 hd8, GV_strs (names := gl0) hg9 Tryz.underlying106 Tryz.underlying9 (by kernel_rfl) (by kernel_rfl) hv9 hd9⟩

set_option maxRecDepth 100000 in
theorem lifted (os : Os) (started : os.Started) (H : Type) (enc : TypeId × Value → H) :
    ReturnsInHanded {} Tryz.checked os 6 .any (fun w args => (Rows.fnLinesBackSpec.pre enc Tryz.prog Tryz.f6 Rows.fnLinesBackRow.domain false w args ∧ laidMetH Tryz.prog Rows.fnLinesBackRow.laid w) ∧ sizedMet enc Tryz.prog Tryz.f6 (OpenSpec.ofChange Rows.fnLinesBackSpec) false w args) (Rows.fnLinesBackSpec.post enc Tryz.prog Tryz.f6 false true false false) := by
  refine returnsInHanded_of_change_and (C := Tryz.checked) (X := fun w _ => laidMetH Tryz.prog Rows.fnLinesBackRow.laid w) (fun _ _ _ hh h => h.of_heap hh) own started (by kernel_rfl) Tryz.func6
    (ChangeSpec.witness_shaped (enc := enc) (C := Tryz.checked) (os := os) (X := fun w _ => laidMetH Tryz.prog Rows.fnLinesBackRow.laid w) false (World.doorLaid Tryz.prog 400 os) #[.slice none 0 0] 8 rfl (World.shaped_of_RefB (by kernel_rfl) (by kernel_rfl)) (by kernel_rfl) (by kernel_rfl) (by kernel_rfl) (door_met os _)) ?_
  intro W base args ds gs before hval0 hW hcnd _ hL _
  have hval : ∀ (j : Nat) t v, Tryz.f6.params[j]? = some t → args[j]? = some v → Value.okWide Tryz.prog W .any base t v := hval0
  have hW' := hW
  obtain ⟨p, q, hA0, hV, rfl, hfz, hnd⟩ := hW
  have hA : DataW.TrodAll enc Tryz.prog W 0 (fun _ => true) true Tryz.f6.params.toList args.toList ds p := hA0
  rw [Tryz.params6] at hA hval
  obtain ⟨v0, vs0, d0, ds0, p0, q0, hargs, rfl, rfl, h0, r0⟩ := trodAll_cons hA
  obtain ⟨rfl, rfl, rfl⟩ := trodAll_nil r0
  obtain rfl : args = #[v0] := by cases args; simp_all
  obtain ⟨gd0, gs0, gq0, rfl, hv0⟩ := trodVars_cons hV
  obtain ⟨gd1, gs1, gq1, rfl, hv1⟩ := trodVars_cons hv0
  obtain rfl := trodVars_end hv1
  obtain ⟨hG11, hG12, hG8, hG5, hG4, hG2, hG6, hG1, hG0⟩ := of_laid hL
  have k0 := h0
  have lt0 : ∀ x ∈ p0, x.block < W.heap.size := by obtain ⟨m, hm⟩ := k0; exact DataW.trod_lt m _ _ _ hm
  obtain ⟨A0, len0, cap0, rfl⟩ := okWide_slice Tryz.underlying51 (hval 0 51 v0 rfl rfl)
  obtain ⟨x0, hx0⟩ : ∃ x : List UInt8, SlR (Old W) W (.slice A0 len0 cap0) x := by
    obtain ⟨fuel, hf⟩ := h0
    obtain ⟨x, v, hv, hx⟩ := rd51 hf
    cases hv
    exact ⟨x, hx⟩
  have hc := oc_laws_FnLinesBack (w := W) x0 hx0 hG0 hG1 hG2 hG8 hG4 hG5 hG6
  refine hc.mono fun e W' ⟨he, bel⟩ => ?_
  rw [lbv_true x0 (Dat.rd_good (B := Old W) (w := W) (cs := [_]) ⟨_, rfl, hx0⟩)] at he
  subst he
  exact ⟨_, rfl, _, _, _, [], _, _, hW', trodAll_mk1 (shut_bool Tryz.underlying4 _), (trodAll_cons_mk (Below.trod laidOut (by kernel_rfl) (of_decide_eq_true (by kernel_rfl)) k0 bel lt0) trodAll_mk0), vars_below laidOut bel _ (by kernel_rfl) hV, bel.frame _, fun h => by cases h⟩

theorem over : Rows.fnLinesBackRow.holds Tryz.pinned (OpenSpec.ofChange Rows.fnLinesBackSpec) :=
  OpenClaim.holds_of_wide 6 Tryz.f6 rfl rfl rfl rfl rfl rfl rfl ⟨rfl, rfl, rfl, rfl, rfl⟩ rfl rfl rfl rfl rfl zf_fn Tryz.func6 zf_closed
    (of_decide_eq_true zf_inst) (by unfold Func.isWrapper; first | (rw [if_pos (by decide +kernel)]; kernel_rfl) | (rw [if_neg (by decide +kernel)]; exact ⟨rfl, rfl⟩))
    (fun os started H enc _ => lifted os started H enc)

theorem card : Rows.FnLinesBackCardSaid :=
  Claim7.holds_tied_plain_at .later [] [.data, .data, .data, .sentinel, .sentinel, .listed, .data, .sentinel, .widerDeep, .widerDeep] true (true, "81da9f89cd1924f8074fa95ed256bdbba201bb1b06ffc350f947b5eb980d85d4") true
    over (fun _ h => by cases h) zf_wfb (fun _ h => by cases h) fnLinesBack_row_tie rfl ⟨rfl, rfl⟩ zf_main rfl
    (fun f fn hf hfn => by
      obtain rfl : f = 6 := Option.some.inj ((show Tryz.prog.funcNamed "loop.example/g00974/laws.FnLinesBack" = some 6 from zf_fn).symm.trans hf) |>.symm
      obtain rfl : fn = Tryz.f6 := (Option.some.inj (Tryz.func6.symm.trans hfn)).symm
      exact ⟨zf_looks, fun j t ht => by
        rw [Tryz.params6] at ht
        have hm : t ∈ [51] := by simpa using Array.mem_of_getElem? ht
        have hall : ([51].all fun u => !Tryz.prog.wantsStandIn u) = true := by kernel_rfl
        exact (show Tryz.prog.wantsStandIn t = false by simpa using List.all_eq_true.1 hall t hm)⟩)
    zf_goes
end Go.Proofs.YtnjidaonbcbphaaGreatDoor.fnLinesBack
namespace Go.Proofs.YtnjidaonbcbphaaGreatDoor
/-- The statement. -/
theorem fnLinesBack_proved : Rows.FnLinesBackCardSaid := fnLinesBack.card
#print axioms fnLinesBack_proved
end Go.Proofs.YtnjidaonbcbphaaGreatDoor
