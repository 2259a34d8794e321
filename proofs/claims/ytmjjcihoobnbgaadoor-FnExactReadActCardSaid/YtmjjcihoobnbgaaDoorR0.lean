/- Contracts: each call returns what the model says. By program (wip/am/gen2.py). -/
import Derived.Test.YtmjjcihoobnbgaaDoorPA
namespace Go.Proofs.YtmjjcihoobnbgaaDoor.Fw
open Go.RowKit
set_option linter.unusedVariables false
set_option maxRecDepth 100000

/- F80 loop.example/g00974/spec.l38Join -/
def spec_l38Join_l1 (p0 : List ByteArray) : Nat → ByteArray → Nat → ByteArray
  | 0, v3, i => v3
  | n + 1, v3, i => spec_l38Join_l1 p0 n ((bif (decide ((i : Int) > 0)) then (v3 ++ ⟨#[32]⟩) else v3) ++ (nth p0 i)) (i + 1)
def spec_l38Join (p0 : List ByteArray) : ByteArray := spec_l38Join_l1 p0 (p0.length - 0) ⟨#[]⟩ 0
theorem c_spec_l38Join (p0 : List ByteArray) (hj : p0.length ≤ 12 ∧ ∀ k, (nth p0 k).size ≤ 600) : CTs 80 [.o (.sl ByteArray instDatByteArray p0)] [Re.c (.string (spec_l38Join p0))] := by
  refine en Tryd.func80 Tryd.ntmps80 fun w hG hgd => ?_
  obtain ⟨hg_p0, _⟩ := hgd
  have hl_p0 : p0.length ≤ 9223372036854775807 := hg_p0.1
  have hM := spec_l38Join.eq_1 p0
  refine ad 14 ?_
  refine Run.loopM (ι := ByteArray × Nat) (fun s => spec_l38Join_l1 p0 (p0.length - s.2) s.1 s.2) (fun s => ⟨22, 1, [(0, .sl 0 p0.length), (3, .v (.string s.1)), (4, .v (.int .i64 (s.2 : Int)))], [(0, .ros ByteArray instDatByteArray p0)]⟩) (fun s => s.2 ≤ p0.length ∧ s.1.size ≤ 601 * s.2) (fun s => p0.length - s.2) (⟨#[]⟩, 0) [0] [0] hM (by exact ⟨by (try dsimp only); omega, Nat.zero_le _⟩) su (by decide) ?_
  rintro ⟨v3, i⟩ hv hE
  try dsimp only at hE
  obtain ⟨hi, hv0⟩ := hv
  try dsimp only at hi hv0
  refine ad 8 ?_
  refine cd (fun h1 => ?_) (fun h1 => ?_)
  ·
    have h1l : i < p0.length := by have := of_decide_eq_true h1; omega
    have hM := hE.trans ((congrArg (fun n => spec_l38Join_l1 p0 n v3 i) (show p0.length - i = (p0.length - (i + 1)) + 1 by omega)).trans (spec_l38Join_l1.eq_2 _ _ _ _))
    have hji := hj.2 i
    have hjl := hj.1
    refine ad 9 ?_
    refine Run.mid ⟨22, 1, [(0, .sl 0 p0.length), (3, .v (.string (bif (decide ((i : Int) > 0)) then (v3 ++ ⟨#[32]⟩) else v3))), (4, .v (.int .i64 (i : Int)))], [(0, .ros ByteArray instDatByteArray p0)]⟩ ?_ ?_
    · refine cd (fun h2 => ?_) (fun h2 => ?_)
      ·
        refine ad 2 ?_
        refine op (ca (hs := (by first | exact szt | ((try simp only [Bool.cond_eq_ite]); (repeat' split); all_goals ((try simp only [ByteArray.size_append, bts, List.size_toArray, List.length_cons, List.length_nil]); omega))))) ?_
        refine ad 2 ?_
        exact Run.at [0] [0] (by first | exact su | (rw [h2]; exact su)) (by decide)
      ·
        refine ad 1 ?_
        exact Run.at [0] [0] (by first | exact su | (rw [h2]; exact su)) (by decide)
    refine ad 4 ?_
    have hg4 := good_nth (k := i) hg_p0 om
    refine op (ix (xs := p0) i om) ?_
    refine ad 1 ?_
    refine op (ca (hs := (by first | exact szt | ((try simp only [Bool.cond_eq_ite]); (repeat' split); all_goals ((try simp only [ByteArray.size_append, bts, List.size_toArray, List.length_cons, List.length_nil]); omega))))) ?_
    refine ad 6 ?_
    rw [wrapN (i := i) (by first | omega | exact om)]
    refine ad 2 ?_
    exact Run.again ((bif (decide ((i : Int) > 0)) then (v3 ++ ⟨#[32]⟩) else v3) ++ (nth p0 i), (i + 1)) [0] [1] ⟨by exact ⟨by (try dsimp only); omega, by (try dsimp only); (try simp only [Bool.cond_eq_ite]); (repeat' split); all_goals ((try simp only [ByteArray.size_append, bts, List.size_toArray, List.length_cons, List.length_nil]); omega)⟩, hM⟩ rfl (by show _ - _ < _ - _; (try dsimp only); omega) su (by decide)
  ·
    have h1l : ¬ (i < p0.length) := by have := of_decide_eq_false h1; omega
    have hM := hE.trans ((congrArg (fun n => spec_l38Join_l1 p0 n v3 i) (show p0.length - i = 0 by omega)).trans (spec_l38Join_l1.eq_1 _ _ _))
    refine ad 6 ?_
    exact rz (rs := [.tmp 2]) (congrArg (fun x => [Re.c (.string x)]) hM)

end Go.Proofs.YtmjjcihoobnbgaaDoor.Fw