/- The law FnWordsBack: for every input it returns true, and what came in is as it was. No condition. By program (wip/gen). -/
import Derived.Test.YtmjjcihoobnbgaaDoorW2
import Derived.Test.YtmjjcihoobnbgaaDoorGEi
import Derived.Test.YtmjjcihoobnbgaaDoorCards
import Derived.Test.YtmjjcihoobnbgaaDoorTie
import Derived.OpenShut
import Derived.ChangeOld
import Derived.ProofKit
import Derived.LaidMore
import Derived.Stop.Joined
import Derived.SevenTiedAt
namespace Go.Proofs.YtmjjcihoobnbgaaDoor.Fw
open Go.RowKit
set_option linter.unusedVariables false
set_option linter.unusedSimpArgs false

theorem sl22 : chkSlice Tryd.prog 22 5 1 1 = true := by kernel_rfl

theorem rd5 : Reads Tryd.prog 5 UInt8 := by
  intro H enc W fuel cs x h
  obtain ⟨n, rfl, _, hw⟩ := DataW.trod_int Tryd.underlying5 h
  refine ⟨UInt8.ofNat n.toNat, ?_, trivial⟩
  simp [Lit.wf, IntKind.min, IntKind.max, IntKind.signed, IntKind.bits] at hw
  have h2 : (UInt8.ofNat n.toNat).toNat = n.toNat % 256 := UInt8.toNat_ofNat'
  show [Value.int .u8 n] = [Value.int .u8 ((UInt8.ofNat n.toNat).toNat : Int)]
  rw [h2, show ((n.toNat % 256 : Nat) : Int) = n by omega]
theorem rd22 : Reads Tryd.prog 22 (List UInt8) := reads_slice sl22 (by kernel_rfl) rd5

theorem oc_laws_FnWordsBack {v0 : Value} (p0 : List UInt8) {w : World} (hp0 : SlR (Old w) w v0 p0) (hG1 : GV 1 (gl1.map Value.string) w) (hG2 : GV 2 (gl2.map (Value.int .u8)) w) (hG7 : GV 7 (gl7.map (Value.int .u64)) w) (hG4 : GE 4 w) (hG5 : GE 5 w) (hG6 : GE 6 w) :
    Calls Tryd.prog 7 [v0].toArray w (fun e w' => e = .returned (.bool (laws_FnWordsBack p0)) ∧ Below w.heap.size w w') := (c_laws_FnWordsBack p0).close ⟨hG1, hG2, hG7, hG4, hG5, hG6⟩ ⟨hp0, trivial⟩

theorem words_l1 (p0 : List UInt8) : ∀ n i, 1 ≤ i → i + n = 23 → laws_FnWordsBack_l1 p0 n i = true := by
  intro n
  induction n with
  | zero => intro i _ _; rfl
  | succ n ih =>
    intro i h1 h2
    obtain ⟨b1, b2, b3, _⟩ := xy_back (b := p0) (i := i) h1 (by omega)
    simp only [cxy] at b1 b2 b3
    rw [laws_FnWordsBack_l1, ih (i + 1) (by omega) (by omega)]
    simp only [b1, b2, b3, decide_true, Bool.not_true, Bool.or_self, cond_false]
theorem laws_FnWordsBack_true (p0 : List UInt8) (hg0 : Dat.good p0) : laws_FnWordsBack p0 = true := by
  unfold laws_FnWordsBack
  rw [words_l1 p0 (23 - 1) 1 (by omega) (by omega)]
  exact Bool.cond_self _ _

end Go.Proofs.YtmjjcihoobnbgaaDoor.Fw

namespace Go.Proofs.YtmjjcihoobnbgaaDoor.fnWordsBack
open Go.ChangeShapes Go.WideShapes Go.ChangeAt Go.RowKit Go.Proofs.YtmjjcihoobnbgaaDoor.Fw
set_option linter.unusedVariables false

theorem own : ownKnob Tryd.prog.godebug = none := by kernel_rfl
theorem laidOut : laidOutB Tryd.prog = true := by kernel_rfl

theorem door_met (os : Os) (args : Array Value) : laidMetH Tryd.prog Rows.fnWordsBackRow.laid ((World.doorLaid Tryd.prog 400 os).forCall (fun _ _ => 0) ⟨#[], args, []⟩).memory :=
  laidMetH_of_parts3 (fuel := 8) (laidMet_of_run' 8 (by kernel_rfl) (by kernel_rfl)) (by kernel_rfl) (by kernel_rfl)
set_option maxRecDepth 100000 in
theorem of_laid {W : World} (h : laidMetH Tryd.prog Rows.fnWordsBackRow.laid W) : GV 9 (gl9.map (Value.int .u8)) W ∧ GV 10 (gl10.map (Value.int .u8)) W ∧ GV 7 (gl7.map (Value.int .u64)) W ∧ GE 6 W ∧ GE 5 W ∧ GV 2 (gl2.map (Value.int .u8)) W ∧ GE 4 W ∧ GV 1 (gl1.map Value.string) W := by
  rw [MakeChecks.laidMetH_plain _ _ _ (by kernel_rfl)] at h
  obtain ⟨ps, ⟨g0, t0, cs0, f0, p0, q0, hg0, ht0, hv0, hd0, ⟨g1, t1, cs1, f1, p1, q1, hg1, ht1, hv1, hd1, ⟨g2, t2, cs2, f2, p2, q2, hg2, ht2, hv2, hd2, ⟨g3, t3, cs3, f3, p3, q3, hg3, ht3, hv3, hd3, ⟨g4, t4, cs4, f4, p4, q4, hg4, ht4, hv4, hd4, ⟨g5, t5, cs5, f5, p5, q5, hg5, ht5, hv5, hd5, ⟨g6, t6, cs6, f6, p6, q6, hg6, ht6, hv6, hd6, ⟨g7, t7, cs7, f7, p7, q7, hg7, ht7, hv7, hd7, ⟨g8, t8, cs8, f8, p8, q8, hg8, ht8, hv8, hd8, _, _⟩, _⟩, _⟩, _⟩, _⟩, _⟩, _⟩, _⟩, _⟩, _, _⟩ := h
  obtain rfl := Option.some.inj ((show Tryd.prog.globalNamed "math/bits.deBruijn32tab" = some 9 by kernel_rfl).symm.trans hg0)
  obtain rfl := Option.some.inj ((show (Tryd.prog.globals[9]?).map (·.type) = some 200 by kernel_rfl).symm.trans ht0)
  obtain rfl := Option.some.inj ((show Tryd.prog.globalNamed "math/bits.deBruijn64tab" = some 10 by kernel_rfl).symm.trans hg1)
  obtain rfl := Option.some.inj ((show (Tryd.prog.globals[10]?).map (·.type) = some 201 by kernel_rfl).symm.trans ht1)
  obtain rfl := Option.some.inj ((show Tryd.prog.globalNamed "internal/strconv.uint64pow10" = some 7 by kernel_rfl).symm.trans hg2)
  obtain rfl := Option.some.inj ((show (Tryd.prog.globals[7]?).map (·.type) = some 192 by kernel_rfl).symm.trans ht2)
  obtain rfl := Option.some.inj ((show Tryd.prog.globalNamed "strconv.ErrRange" = some 6 by kernel_rfl).symm.trans hg3)
  obtain rfl := Option.some.inj ((show (Tryd.prog.globals[6]?).map (·.type) = some 129 by kernel_rfl).symm.trans ht3)
  obtain rfl := Option.some.inj ((show Tryd.prog.globalNamed "strconv.ErrSyntax" = some 5 by kernel_rfl).symm.trans hg4)
  obtain rfl := Option.some.inj ((show (Tryd.prog.globals[5]?).map (·.type) = some 129 by kernel_rfl).symm.trans ht4)
  obtain rfl := Option.some.inj ((show Tryd.prog.globalNamed "strings.asciiSpace" = some 2 by kernel_rfl).symm.trans hg6)
  obtain rfl := Option.some.inj ((show (Tryd.prog.globals[2]?).map (·.type) = some 123 by kernel_rfl).symm.trans ht6)
  obtain rfl := Option.some.inj ((show Tryd.prog.globalNamed "encoding/hex.ErrLength" = some 4 by kernel_rfl).symm.trans hg7)
  obtain rfl := Option.some.inj ((show (Tryd.prog.globals[4]?).map (·.type) = some 129 by kernel_rfl).symm.trans ht7)
  obtain rfl := Option.some.inj ((show Tryd.prog.globalNamed "loop.example/g00974/impl.callNames" = some 1 by kernel_rfl).symm.trans hg8)
  obtain rfl := Option.some.inj ((show (Tryd.prog.globals[1]?).map (·.type) = some 98 by kernel_rfl).symm.trans ht8)
  exact ⟨GV_ints (names := gl9) hg0 Tryd.underlying200 Tryd.underlying5 (by kernel_rfl) (by kernel_rfl) hv0 hd0, GV_ints (names := gl10) hg1 Tryd.underlying201 Tryd.underlying5 (by kernel_rfl) (by kernel_rfl) hv1 hd1, GV_ints (names := gl7) hg2 Tryd.underlying192 Tryd.underlying175 (by kernel_rfl) (by kernel_rfl) hv2 hd2, GE_iface hg3 Tryd.underlying129 hv3 hd3, GE_iface hg4 Tryd.underlying129 hv4 hd4, GV_ints (names := gl2) hg6 Tryd.underlying123 Tryd.underlying5 (by kernel_rfl) (by kernel_rfl) hv6 hd6, GE_iface hg7 Tryd.underlying129 hv7 hd7, GV_strs (names := gl1) hg8 Tryd.underlying98 Tryd.underlying9 (by kernel_rfl) (by kernel_rfl) hv8 hd8⟩

set_option maxRecDepth 100000 in
theorem lifted (os : Os) (started : os.Started) (H : Type) (enc : TypeId × Value → H) :
    ReturnsInHanded {} Tryd.checked os 7 .any (fun w args => (Rows.fnWordsBackSpec.pre enc Tryd.prog Tryd.f7 Rows.fnWordsBackRow.domain false w args ∧ laidMetH Tryd.prog Rows.fnWordsBackRow.laid w) ∧ sizedMet enc Tryd.prog Tryd.f7 (OpenSpec.ofChange Rows.fnWordsBackSpec) false w args) (Rows.fnWordsBackSpec.post enc Tryd.prog Tryd.f7 false true false false) := by
  refine returnsInHanded_of_change_and (C := Tryd.checked) (X := fun w _ => laidMetH Tryd.prog Rows.fnWordsBackRow.laid w) (fun _ _ _ hh h => h.of_heap hh) own started (by kernel_rfl) Tryd.func7
    (ChangeSpec.witness_shaped (enc := enc) (C := Tryd.checked) (os := os) (X := fun w _ => laidMetH Tryd.prog Rows.fnWordsBackRow.laid w) false (World.doorLaid Tryd.prog 400 os) #[.slice none 0 0] 8 rfl (World.shaped_of_RefB (by kernel_rfl) (by kernel_rfl)) (by kernel_rfl) (by kernel_rfl) (by kernel_rfl) (door_met os _)) ?_
  intro W base args ds gs before hval0 hW hcnd _ hL _
  have hval : ∀ (j : Nat) t v, Tryd.f7.params[j]? = some t → args[j]? = some v → Value.okWide Tryd.prog W .any base t v := hval0
  have hW' := hW
  obtain ⟨p, q, hA0, hV, rfl, hfz, hnd⟩ := hW
  have hA : DataW.TrodAll enc Tryd.prog W 0 (fun _ => true) true Tryd.f7.params.toList args.toList ds p := hA0
  rw [Tryd.params7] at hA hval
  obtain ⟨v0, vs0, d0, ds0, p0, q0, hargs, rfl, rfl, h0, r0⟩ := trodAll_cons hA
  obtain ⟨rfl, rfl, rfl⟩ := trodAll_nil r0
  obtain rfl : args = #[v0] := by cases args; simp_all
  obtain ⟨gd0, gs0, gq0, rfl, hv0⟩ := trodVars_cons hV
  obtain rfl := trodVars_end hv0
  obtain ⟨hG9, hG10, hG7, hG6, hG5, hG2, hG4, hG1⟩ := of_laid hL
  have k0 := h0
  have lt0 : ∀ x ∈ p0, x.block < W.heap.size := by obtain ⟨m, hm⟩ := k0; exact DataW.trod_lt m _ _ _ hm
  obtain ⟨A0, len0, cap0, rfl⟩ := okWide_slice Tryd.underlying22 (hval 0 22 v0 rfl rfl)
  obtain ⟨x0, hx0⟩ : ∃ x : List UInt8, SlR (Old W) W (.slice A0 len0 cap0) x := by
    obtain ⟨fuel, hf⟩ := h0
    obtain ⟨x, v, hv, hx⟩ := rd22 hf
    cases hv
    exact ⟨x, hx⟩
  have hc := oc_laws_FnWordsBack (w := W) x0 hx0 hG1 hG2 hG7 hG4 hG5 hG6
  refine hc.mono fun e W' ⟨he, bel⟩ => ?_
  rw [laws_FnWordsBack_true x0 (Dat.rd_good (B := Old W) (w := W) (cs := [_]) ⟨_, rfl, hx0⟩)] at he
  subst he
  exact ⟨_, rfl, _, _, _, [], _, _, hW', trodAll_mk1 (shut_bool Tryd.underlying4 _), (trodAll_cons_mk (Below.trod laidOut (by kernel_rfl) (of_decide_eq_true (by kernel_rfl)) k0 bel lt0) trodAll_mk0), vars_below laidOut bel _ (by kernel_rfl) hV, bel.frame _, fun h => by cases h⟩

theorem over : Rows.fnWordsBackRow.holds Tryd.pinned (OpenSpec.ofChange Rows.fnWordsBackSpec) :=
  OpenClaim.holds_of_wide 7 Tryd.f7 rfl rfl rfl rfl rfl rfl rfl ⟨rfl, rfl, rfl, rfl, rfl⟩ rfl rfl rfl rfl rfl (by kernel_rfl) Tryd.func7 (by kernel_rfl)
    (of_decide_eq_true (by kernel_rfl)) (by unfold Func.isWrapper; first | (rw [if_pos (by decide +kernel)]; kernel_rfl) | (rw [if_neg (by decide +kernel)]; exact ⟨rfl, rfl⟩))
    (fun os started H enc _ => lifted os started H enc)

theorem card : Rows.FnWordsBackCardSaid :=
  Claim7.holds_tied_plain_at .later [] [.data, .data, .data, .sentinel, .sentinel, .listed, .data, .sentinel, .widerDeep] true (true, "c92ada5cff6e9dda2d5334594b9f58e624b37b383a7acb95d78510338284d01f") true
    over (fun _ h => by cases h) (by kernel_rfl) (fun _ h => by cases h) fnWordsBack_row_tie rfl ⟨rfl, rfl⟩ (by kernel_rfl) rfl
    (fun f fn hf hfn => by
      obtain rfl : f = 7 := Option.some.inj ((show Tryd.prog.funcNamed "loop.example/g00974/laws.FnWordsBack" = some 7 by kernel_rfl).symm.trans hf) |>.symm
      obtain rfl : fn = Tryd.f7 := (Option.some.inj (Tryd.func7.symm.trans hfn)).symm
      exact ⟨by kernel_rfl, fun j t ht => by
        rw [Tryd.params7] at ht
        have hm : t ∈ [22] := by simpa using Array.mem_of_getElem? ht
        have hall : ([22].all fun u => !Tryd.prog.wantsStandIn u) = true := by kernel_rfl
        exact (show Tryd.prog.wantsStandIn t = false by simpa using List.all_eq_true.1 hall t hm)⟩)
    (by kernel_rfl)
end Go.Proofs.YtmjjcihoobnbgaaDoor.fnWordsBack
namespace Go.Proofs.YtmjjcihoobnbgaaDoor
/-- The statement. -/
theorem fnWordsBack_proved : Rows.FnWordsBackCardSaid := fnWordsBack.card
#print axioms fnWordsBack_proved
end Go.Proofs.YtmjjcihoobnbgaaDoor
