/- The law FnQuietScript: for every input it returns true, and what came in is as it was. No condition. By program (wip/gen). -/
import Derived.Test.YtifffdepmdnciaaGreatDoorCards
import Derived.Test.YtifffdepmdnciaaGreatDoorTie
import Derived.OpenShut
import Derived.ChangeOld
import Derived.ProofKit
import Derived.LaidMore
import Derived.Stop.Joined
import Derived.Lay
import Derived.LaidOnce
import Derived.SevenTiedAt
import Derived.Test.YtifffdepmdnciaaGreatDoorQSZ
import Derived.Test.YtifffdepmdnciaaGreatDoorQSA
import Derived.Test.YtifffdepmdnciaaGreatDoorQSB
import Derived.Test.YtifffdepmdnciaaGreatDoorQSC
import Derived.Test.YtifffdepmdnciaaGreatDoorQSD
namespace Go.Proofs.YtifffdepmdnciaaGreatDoor.Fw
open Go.RowKit
set_option linter.unusedVariables false
set_option linter.unusedSimpArgs false

theorem sl22 : chkSlice Tryz.prog 22 5 1 1 = true := by kernel_rfl

theorem rd5 : Reads Tryz.prog 5 UInt8 := by
  intro H enc W fuel cs x h
  obtain ⟨n, rfl, _, hw⟩ := DataW.trod_int Tryz.underlying5 h
  refine ⟨UInt8.ofNat n.toNat, ?_, trivial⟩
  simp [Lit.wf, IntKind.min, IntKind.max, IntKind.signed, IntKind.bits] at hw
  have h2 : (UInt8.ofNat n.toNat).toNat = n.toNat % 256 := UInt8.toNat_ofNat'
  show [Value.int .u8 n] = [Value.int .u8 ((UInt8.ofNat n.toNat).toNat : Int)]
  rw [h2, show ((n.toNat % 256 : Nat) : Int) = n by omega]
theorem rd22 : Reads Tryz.prog 22 (List UInt8) := reads_slice sl22 (by kernel_rfl) rd5

def laws_FnQuietScript (p0 : List UInt8) : Bool := true
theorem oc_laws_FnQuietScript (p0 : List UInt8) {v0 : Value} {w : World} (hp0 : SlR (Old w) w v0 p0) (hG1 : GV 1 (gl1.map (Value.int .u8)) w) (hG4 : GV 4 (gl4.map (Value.int .u64)) w) (hG8 : GX 8 w) :
    Calls Tryz.prog 3 [v0].toArray w (fun e w' => e = .returned (.bool (laws_FnQuietScript p0)) ∧ Below w.heap.size w w') := Ri.oc3 p0 hp0 (Ri.gok_of hG1 hG4 hG8)
theorem laws_FnQuietScript_true (p0 : List UInt8) (_ : Dat.good p0) : laws_FnQuietScript p0 = true := rfl
end Go.Proofs.YtifffdepmdnciaaGreatDoor.Fw

namespace Go.Proofs.YtifffdepmdnciaaGreatDoor.fnQuietScript
open Go.ChangeShapes Go.WideShapes Go.ChangeAt Go.RowKit Go.Proofs.YtifffdepmdnciaaGreatDoor.Fw
set_option linter.unusedVariables false

theorem own : ownKnob Tryz.prog.godebug = none := by kernel_rfl
theorem laidOut : laidOutB Tryz.prog = true := zf_laid

/-- The witness: what the door has laid, and the pinned table beside it. -/
noncomputable def W0 (os : Os) : World := (World.doorLaid Tryz.prog 400 os).layVars Tryz.prog [("unicode/utf8.first", Pinned.utf8First)]
/-- 'laidMet' out of two closed facts, no place twice by a set of bits. -/
theorem laidMet_bits {P : Program} {w : World} {l : List (String × DataW Unit)} (fuel M : Nat) (h : (DataW.laidRun P w fuel (l.map (·.1))).map (·.1) = some l)
    (hr : (DataW.laidRun P w fuel (l.map (·.1))).map (fun x => nodupBits M x.2 0 && laidRowsB P w x.2) = some true) : laidMet P l w := by
  cases hx : DataW.laidRun P w fuel (l.map (·.1)) with
  | none => simp [hx] at h
  | some x =>
    obtain ⟨l', ps⟩ := x
    simp only [hx, Option.map_some, Option.some.injEq] at h hr
    subst h
    simp only [Bool.and_eq_true] at hr
    exact laidMet_of_run fuel hx (decide_eq_true (nodupBits_sound hr.1).1) hr.2
theorem dm1 (os : Os) (args : Array Value) : (DataW.laidRun Tryz.prog ((W0 os).forCall (fun _ _ => 0) ⟨#[], args, []⟩).memory 8 ((Rows.fnQuietScriptRow.laid.filter fun x => x.2.handleName?.isNone).map (·.1))).map (·.1) = some (Rows.fnQuietScriptRow.laid.filter fun x => x.2.handleName?.isNone) := by kernel_rfl
theorem dm2 (os : Os) (args : Array Value) : (DataW.laidRun Tryz.prog ((W0 os).forCall (fun _ _ => 0) ⟨#[], args, []⟩).memory 8 ((Rows.fnQuietScriptRow.laid.filter fun x => x.2.handleName?.isNone).map (·.1))).map (fun x => nodupBits 512 x.2 0 && laidRowsB Tryz.prog ((W0 os).forCall (fun _ _ => 0) ⟨#[], args, []⟩).memory x.2) = some true := by kernel_rfl
theorem dm3 (os : Os) (args : Array Value) : (Rows.fnQuietScriptRow.laid.filter fun x => x.2.handleName?.isSome && x.2.funcsIn?.isNone).all (handleAtB Tryz.prog ((W0 os).forCall (fun _ _ => 0) ⟨#[], args, []⟩).memory) = true := by kernel_rfl
theorem dm4 (os : Os) (args : Array Value) : funcsRun Tryz.prog ((W0 os).forCall (fun _ _ => 0) ⟨#[], args, []⟩).memory 8 ((funcsListed Rows.fnQuietScriptRow.laid).map (·.1)) = some ((funcsListed Rows.fnQuietScriptRow.laid).map (·.2.funcsOut)) := by kernel_rfl
theorem door_met (os : Os) (args : Array Value) : laidMetH Tryz.prog Rows.fnQuietScriptRow.laid ((W0 os).forCall (fun _ _ => 0) ⟨#[], args, []⟩).memory := laidMetH_of_parts3 (fuel := 8) (laidMet_bits 8 512 (dm1 os args) (dm2 os args)) (dm3 os args) (dm4 os args)
set_option maxRecDepth 100000 in
theorem of_laid {W : World} (h : laidMetH Tryz.prog Rows.fnQuietScriptRow.laid W) : GV 10 (gl10.map (Value.int .u8)) W ∧ GV 11 (gl11.map (Value.int .u8)) W ∧ GV 4 (gl4.map (Value.int .u64)) W ∧ GX 9 W ∧ GX 8 W ∧ GV 1 (gl1.map (Value.int .u8)) W ∧ GX 12 W ∧ GV 2 (gl2.map Value.string) W ∧ GV 0 (gl0.map Value.string) W := by
  rw [MakeChecks.laidMetH_plain _ _ _ (by kernel_rfl)] at h
  obtain ⟨ps, ⟨g0, t0, cs0, f0, p0, q0, hg0, ht0, hv0, hd0, ⟨g1, t1, cs1, f1, p1, q1, hg1, ht1, hv1, hd1, ⟨g2, t2, cs2, f2, p2, q2, hg2, ht2, hv2, hd2, ⟨g3, t3, cs3, f3, p3, q3, hg3, ht3, hv3, hd3, ⟨g4, t4, cs4, f4, p4, q4, hg4, ht4, hv4, hd4, ⟨g5, t5, cs5, f5, p5, q5, hg5, ht5, hv5, hd5, ⟨g6, t6, cs6, f6, p6, q6, hg6, ht6, hv6, hd6, ⟨g7, t7, cs7, f7, p7, q7, hg7, ht7, hv7, hd7, ⟨g8, t8, cs8, f8, p8, q8, hg8, ht8, hv8, hd8, ⟨g9, t9, cs9, f9, p9, q9, hg9, ht9, hv9, hd9, ⟨g10, t10, cs10, f10, p10, q10, hg10, ht10, hv10, hd10, ⟨g11, t11, cs11, f11, p11, q11, hg11, ht11, hv11, hd11, _, _⟩, _⟩, _⟩, _⟩, _⟩, _⟩, _⟩, _⟩, _⟩, _⟩, _⟩, _⟩, _, _⟩ := h
  obtain rfl := Option.some.inj ((show Tryz.prog.globalNamed "math/bits.deBruijn32tab" = some 10 by kernel_rfl).symm.trans hg0)
  obtain rfl := Option.some.inj ((show (Tryz.prog.globals[10]?).map (·.type) = some 337 by kernel_rfl).symm.trans ht0)
  obtain rfl := Option.some.inj ((show Tryz.prog.globalNamed "math/bits.deBruijn64tab" = some 11 by kernel_rfl).symm.trans hg1)
  obtain rfl := Option.some.inj ((show (Tryz.prog.globals[11]?).map (·.type) = some 338 by kernel_rfl).symm.trans ht1)
  obtain rfl := Option.some.inj ((show Tryz.prog.globalNamed "internal/strconv.uint64pow10" = some 4 by kernel_rfl).symm.trans hg2)
  obtain rfl := Option.some.inj ((show (Tryz.prog.globals[4]?).map (·.type) = some 222 by kernel_rfl).symm.trans ht2)
  obtain rfl := Option.some.inj ((show Tryz.prog.globalNamed "strconv.ErrRange" = some 9 by kernel_rfl).symm.trans hg4)
  obtain rfl := Option.some.inj ((show (Tryz.prog.globals[9]?).map (·.type) = some 130 by kernel_rfl).symm.trans ht4)
  obtain rfl := Option.some.inj ((show Tryz.prog.globalNamed "strconv.ErrSyntax" = some 8 by kernel_rfl).symm.trans hg5)
  obtain rfl := Option.some.inj ((show (Tryz.prog.globals[8]?).map (·.type) = some 130 by kernel_rfl).symm.trans ht5)
  obtain rfl := Option.some.inj ((show Tryz.prog.globalNamed "strings.asciiSpace" = some 1 by kernel_rfl).symm.trans hg7)
  obtain rfl := Option.some.inj ((show (Tryz.prog.globals[1]?).map (·.type) = some 126 by kernel_rfl).symm.trans ht7)
  obtain rfl := Option.some.inj ((show Tryz.prog.globalNamed "encoding/hex.ErrLength" = some 12 by kernel_rfl).symm.trans hg8)
  obtain rfl := Option.some.inj ((show (Tryz.prog.globals[12]?).map (·.type) = some 130 by kernel_rfl).symm.trans ht8)
  obtain rfl := Option.some.inj ((show Tryz.prog.globalNamed "loop.example/g00974/impl.callNames" = some 2 by kernel_rfl).symm.trans hg9)
  obtain rfl := Option.some.inj ((show (Tryz.prog.globals[2]?).map (·.type) = some 133 by kernel_rfl).symm.trans ht9)
  obtain rfl := Option.some.inj ((show Tryz.prog.globalNamed "loop.example/g00974/impl.actNames" = some 0 by kernel_rfl).symm.trans hg10)
  obtain rfl := Option.some.inj ((show (Tryz.prog.globals[0]?).map (·.type) = some 82 by kernel_rfl).symm.trans ht10)
  exact ⟨GV_ints (names := gl10) hg0 Tryz.underlying337 Tryz.underlying5 (by kernel_rfl) (by kernel_rfl) hv0 hd0, GV_ints (names := gl11) hg1 Tryz.underlying338 Tryz.underlying5 (by kernel_rfl) (by kernel_rfl) hv1 hd1, GV_ints (names := gl4) hg2 Tryz.underlying222 Tryz.underlying145 (by kernel_rfl) (by kernel_rfl) hv2 hd2, GX_iface hg4 Tryz.underlying130 hv4 hd4, GX_iface hg5 Tryz.underlying130 hv5 hd5, GV_ints (names := gl1) hg7 Tryz.underlying126 Tryz.underlying5 (by kernel_rfl) (by kernel_rfl) hv7 hd7, GX_iface hg8 Tryz.underlying130 hv8 hd8, GV_strs (names := gl2) hg9 Tryz.underlying133 Tryz.underlying9 (by kernel_rfl) (by kernel_rfl) hv9 hd9, GV_strs (names := gl0) hg10 Tryz.underlying82 Tryz.underlying9 (by kernel_rfl) (by kernel_rfl) hv10 hd10⟩

set_option maxRecDepth 100000 in
theorem lifted (os : Os) (started : os.Started) (H : Type) (enc : TypeId × Value → H) :
    ReturnsInHanded {} Tryz.checked os 3 .any (fun w args => (Rows.fnQuietScriptSpec.pre enc Tryz.prog Tryz.f3 Rows.fnQuietScriptRow.domain false w args ∧ laidMetH Tryz.prog Rows.fnQuietScriptRow.laid w) ∧ sizedMet enc Tryz.prog Tryz.f3 (OpenSpec.ofChange Rows.fnQuietScriptSpec) false w args) (Rows.fnQuietScriptSpec.post enc Tryz.prog Tryz.f3 false true false false) := by
  refine returnsInHanded_of_change_and (C := Tryz.checked) (X := fun w _ => laidMetH Tryz.prog Rows.fnQuietScriptRow.laid w) (fun _ _ _ hh h => h.of_heap hh) own started (by kernel_rfl) Tryz.func3
    (ChangeSpec.witness_shaped (enc := enc) (C := Tryz.checked) (os := os) (X := fun w _ => laidMetH Tryz.prog Rows.fnQuietScriptRow.laid w) false (W0 os) #[.slice none 0 0] 8 ((World.layVars_os _ _ _).trans rfl) (World.shaped_of_RefB (by kernel_rfl) (by kernel_rfl)) (by kernel_rfl) (by kernel_rfl) (by kernel_rfl) (door_met os _)) ?_
  intro W base args ds gs before hval0 hW hcnd _ hL _
  have hval : ∀ (j : Nat) t v, Tryz.f3.params[j]? = some t → args[j]? = some v → Value.okWide Tryz.prog W .any base t v := hval0
  have hW' := hW
  obtain ⟨p, q, hA0, hV, rfl, hfz, hnd⟩ := hW
  have hA : DataW.TrodAll enc Tryz.prog W 0 (fun _ => true) true Tryz.f3.params.toList args.toList ds p := hA0
  rw [Tryz.params3] at hA hval
  obtain ⟨v0, vs0, d0, ds0, p0, q0, hargs, rfl, rfl, h0, r0⟩ := trodAll_cons hA
  obtain ⟨rfl, rfl, rfl⟩ := trodAll_nil r0
  obtain rfl : args = #[v0] := by cases args; simp_all
  obtain ⟨gd0, gs0, gq0, rfl, hv0⟩ := trodVars_cons hV
  obtain ⟨gd1, gs1, gq1, rfl, hv1⟩ := trodVars_cons hv0
  obtain rfl := trodVars_end hv1
  obtain ⟨hG10, hG11, hG4, hG9, hG8, hG1, hG12, hG2, hG0⟩ := of_laid hL
  have k0 := h0
  have lt0 : ∀ x ∈ p0, x.block < W.heap.size := by obtain ⟨m, hm⟩ := k0; exact DataW.trod_lt m _ _ _ hm
  obtain ⟨A0, len0, cap0, rfl⟩ := okWide_slice Tryz.underlying22 (hval 0 22 v0 rfl rfl)
  obtain ⟨x0, hx0⟩ : ∃ x : List UInt8, SlR (Old W) W (.slice A0 len0 cap0) x := by
    obtain ⟨fuel, hf⟩ := h0
    obtain ⟨x, v, hv, hx⟩ := rd22 hf
    cases hv
    exact ⟨x, hx⟩
  have hc := oc_laws_FnQuietScript (w := W) x0 hx0 hG1 hG4 hG8
  refine hc.mono fun e W' ⟨he, bel⟩ => ?_
  rw [laws_FnQuietScript_true x0 (Dat.rd_good (B := Old W) (w := W) (cs := [_]) ⟨_, rfl, hx0⟩)] at he
  subst he
  exact ⟨_, rfl, _, _, _, [], _, _, hW', trodAll_mk1 (shut_bool Tryz.underlying4 _), (trodAll_cons_mk (Below.trod laidOut (by kernel_rfl) (of_decide_eq_true (by kernel_rfl)) k0 bel lt0) trodAll_mk0), vars_below laidOut bel _ (by kernel_rfl) hV, bel.frame _, fun h => by cases h⟩

theorem over : Rows.fnQuietScriptRow.holds Tryz.pinned (OpenSpec.ofChange Rows.fnQuietScriptSpec) :=
  OpenClaim.holds_of_wide 3 Tryz.f3 rfl rfl rfl rfl rfl rfl rfl ⟨rfl, rfl, rfl, rfl, rfl⟩ rfl rfl rfl rfl rfl zf_fn Tryz.func3 zf_closed
    (of_decide_eq_true zf_inst) (by unfold Func.isWrapper; first | (rw [if_pos (by decide +kernel)]; kernel_rfl) | (rw [if_neg (by decide +kernel)]; exact ⟨rfl, rfl⟩))
    (fun os started H enc _ => lifted os started H enc)

theorem card : Rows.FnQuietScriptCardSaid :=
  Claim7.holds_tied_plain_at .later [] [.data, .data, .data, .data, .sentinel, .sentinel, .listed, .data, .sentinel, .widerDeep, .widerDeep, .pinned] true (true, "540287a1a8df8bf79d22f282d125603c111ef3e393fcf972e941d4cfdaa404a2") true
    over (fun _ h => by cases h) zf_wfb (fun _ h => by cases h) fnQuietScript_row_tie rfl ⟨rfl, rfl⟩ zf_main rfl
    (fun f fn hf hfn => by
      obtain rfl : f = 3 := Option.some.inj ((show Tryz.prog.funcNamed "loop.example/g00974/laws.FnQuietScript" = some 3 from zf_fn).symm.trans hf) |>.symm
      obtain rfl : fn = Tryz.f3 := (Option.some.inj (Tryz.func3.symm.trans hfn)).symm
      exact ⟨zf_looks, fun j t ht => by
        rw [Tryz.params3] at ht
        have hm : t ∈ [22] := by simpa using Array.mem_of_getElem? ht
        have hall : ([22].all fun u => !Tryz.prog.wantsStandIn u) = true := by kernel_rfl
        exact (show Tryz.prog.wantsStandIn t = false by simpa using List.all_eq_true.1 hall t hm)⟩)
    zf_goes
end Go.Proofs.YtifffdepmdnciaaGreatDoor.fnQuietScript
namespace Go.Proofs.YtifffdepmdnciaaGreatDoor
/-- The statement. -/
theorem fnQuietScript_proved : Rows.FnQuietScriptCardSaid := fnQuietScript.card
#print axioms fnQuietScript_proved
end Go.Proofs.YtifffdepmdnciaaGreatDoor
