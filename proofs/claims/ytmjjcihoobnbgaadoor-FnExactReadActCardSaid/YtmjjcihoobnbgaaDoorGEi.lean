/-
  A package variable that is laid as an error holds one. No condition.
-/
import Derived.Test.YtmjjcihoobnbgaaDoorAm15
import Derived.Test.YtmjjcihoobnbgaaDoorGlob
namespace Go.Proofs.YtmjjcihoobnbgaaDoor.Fw
open Go.RowKit
set_option linter.unusedVariables false
theorem GE_iface {P : Program} {W : World} {H : Type} {enc : TypeId × Value → H} {sp : Nat → Bool} {b : Bool} {fuel t g : Nat} {x : List MemPlace} {cs : Array Value} {nm nm2 : String} {d : DataW H} {ms : Array (String × TypeId)}
    (hg : P.globalNamed nm = some g) (hu : P.underlying t = some (.interface ms)) (hv : W.var? P nm = some cs) (hd : DataW.trod enc P W 0 sp b fuel t cs.toList = some (.iface nm2 d, x)) : GE g W := by
  have key : ∃ u v, cs.toList = [.iface u v] := by
    cases fuel with
    | zero => simp [DataW.trod] at hd
    | succ n =>
      generalize cs.toList = l at hd ⊢
      rcases l with _ | ⟨c, _ | ⟨c2, r⟩⟩
      · simp [DataW.trod, hu] at hd
      · cases c <;> first | exact ⟨_, _, rfl⟩ | simp [DataW.trod, hu] at hd
      · simp [DataW.trod, hu] at hd
  obtain ⟨u, v, e⟩ := key
  obtain ⟨T, fr, h⟩ := var_gv hg hv e
  refine ⟨u, v, ?_⟩
  simp [World.cell?, h]
end Go.Proofs.YtmjjcihoobnbgaaDoor.Fw
