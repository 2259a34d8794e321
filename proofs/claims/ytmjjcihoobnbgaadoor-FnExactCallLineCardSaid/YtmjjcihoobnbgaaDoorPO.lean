/- The contracts, in their other form. By program (wip/gen). -/
import Derived.Test.YtmjjcihoobnbgaaDoorPC
namespace Go.Proofs.YtmjjcihoobnbgaaDoor.Fw
open Go.RowKit
set_option linter.unusedVariables false
set_option linter.unusedSimpArgs false

theorem oc_impl_CallLine {c0 : List Value} (p0 : Call) {w : World} (hp0 : Dat.rd (Old w) w c0 p0) (hG1 : GV 1 (gl1.map Value.string) w) (hG7 : GV 7 (gl7.map (Value.int .u64)) w) :
    Calls Tryd.prog 14 [.agg c0.toArray].toArray w (fun e w' => e = .returned (.string (impl_CallLine p0)) ∧ Below w.heap.size w w') := (c_impl_CallLine p0).close ⟨hG1, hG7⟩ ⟨⟨c0, rfl, hp0⟩, trivial⟩
theorem oc_spec_CallLine {c0 : List Value} (p0 : Call) {w : World} (hp0 : Dat.rd (Old w) w c0 p0) (hG1 : GV 1 (gl1.map Value.string) w) (hG7 : GV 7 (gl7.map (Value.int .u64)) w) :
    Calls Tryd.prog 16 [.agg c0.toArray].toArray w (fun e w' => e = .returned (.string (spec_CallLine p0)) ∧ Below w.heap.size w w') := (c_spec_CallLine p0).close ⟨hG1, hG7⟩ ⟨⟨c0, rfl, hp0⟩, trivial⟩

end Go.Proofs.YtmjjcihoobnbgaaDoor.Fw
