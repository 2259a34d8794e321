/- Contracts: each call returns what the model says. By program (wip/am/gen2.py). -/
import Derived.Test.YtmjjcihoobnbgaaDoorPW
import Derived.Test.YtmjjcihoobnbgaaDoorSy2
namespace Go.Proofs.YtmjjcihoobnbgaaDoor.Fw
open Go.RowKit
set_option linter.unusedVariables false
set_option maxRecDepth 100000

theorem fok10 : FnOk Tryd.prog 10 := ⟨_, Tryd.func10, rfl, by kernel_rfl⟩
theorem fok31 : FnOk Tryd.prog 31 := ⟨_, Tryd.func31, rfl, by kernel_rfl⟩
/- F10 loop.example/g00974/laws.big -/
def laws_big (p0 : List (UInt8)) : Bool := decide ((p0.length : Int) > 1048576)
theorem c_laws_big (p0 : List (UInt8)) : CTs 10 [.o (.sl UInt8 instDatUInt8 p0)] [Re.c (.bool (laws_big p0))] := by
  refine en Tryd.func10 Tryd.ntmps10 fun w hG hgd => ?_
  obtain ⟨hg_p0, _⟩ := hgd
  have hl_p0 : p0.length ≤ 9223372036854775807 := hg_p0.1
  have hM := laws_big.eq_1 p0
  refine ad 11 ?_
  exact rz (rs := [.tmp 2]) (congrArg (fun x => [Re.c (.bool x)]) hM)

/- F7 loop.example/g00974/laws.FnWordsBack -/
def laws_FnWordsBack_l1 (p0 : List (UInt8)) : Nat → Nat → Bool
  | 0, i => true
  | n + 1, i => bif (((!((impl_PartsOf (impl_CallLine (impl_Told (Call.mk (i : Int) ⟨#[120]⟩ ⟨#[121]⟩ (nth (spec_DrawPlaces p0) 0) (nth (spec_DrawPlaces p0) 1) ⟨#[97, 98]⟩)))).2)) || (!((impl_ReadCall ((impl_PartsOf (impl_CallLine (impl_Told (Call.mk (i : Int) ⟨#[120]⟩ ⟨#[121]⟩ (nth (spec_DrawPlaces p0) 0) (nth (spec_DrawPlaces p0) 1) ⟨#[97, 98]⟩)))).1)).2))) || (!(decide (((impl_ReadCall ((impl_PartsOf (impl_CallLine (impl_Told (Call.mk (i : Int) ⟨#[120]⟩ ⟨#[121]⟩ (nth (spec_DrawPlaces p0) 0) (nth (spec_DrawPlaces p0) 1) ⟨#[97, 98]⟩)))).1)).1) = (impl_Told (Call.mk (i : Int) ⟨#[120]⟩ ⟨#[121]⟩ (nth (spec_DrawPlaces p0) 0) (nth (spec_DrawPlaces p0) 1) ⟨#[97, 98]⟩)))))) || (!decide ((nth ((impl_PartsOf (impl_CallLine (impl_Told (Call.mk (i : Int) ⟨#[120]⟩ ⟨#[121]⟩ (nth (spec_DrawPlaces p0) 0) (nth (spec_DrawPlaces p0) 1) ⟨#[97, 98]⟩)))).1) 0) = (impl_CallName (i : Int)))) then false else (laws_FnWordsBack_l1 p0 n (i + 1))
def laws_FnWordsBack (p0 : List (UInt8)) : Bool := bif laws_big p0 then true else (laws_FnWordsBack_l1 p0 (23 - 1) 1)
theorem c_laws_FnWordsBack (p0 : List (UInt8)) : CTs 7 [.o (.sl UInt8 instDatUInt8 p0)] [Re.c (.bool (laws_FnWordsBack p0))] := by
  refine en Tryd.func7 Tryd.ntmps7 fun w hG hgd => ?_
  obtain ⟨hg_p0, _⟩ := hgd
  have hl_p0 : p0.length ≤ 9223372036854775807 := hg_p0.1
  have hM := laws_FnWordsBack.eq_1 p0
  refine ad 8 ?_
  refine op (cl (c_laws_big p0) fok10) ?_
  refine ad 1 ?_
  refine cd (fun h1 => ?_) (fun h1 => ?_)
  ·
    have hM := hM.trans (bt h1)
    refine ad 4 ?_
    exact rz (rs := [.tmp 2]) (congrArg (fun x => [Re.c (.bool x)]) hM)
  ·
    have hM := hM.trans (bf h1)
    refine ad 4 ?_
    refine og (clg (c_spec_DrawPlaces p0) fok31) fun hgq => ?_
    obtain ⟨hg2, _⟩ := hgq
    refine ad 8 ?_
    refine fz 1 ?_
    refine Run.loopM (ι := Nat) (fun s => laws_FnWordsBack_l1 p0 (23 - s) s) (fun s => ⟨57, 1, [(3, .sl 0 ((spec_DrawPlaces p0).length)), (4, .v (.int .i64 (s : Int)))], [(0, .ros Int instDatInt (spec_DrawPlaces p0))]⟩) (fun s => s ≤ 23 ∧ 1 ≤ s) (fun s => 23 - s) 1 [1] [0] hM (by (try dsimp only); omega) su (by decide) ?_
    rintro i hv hE
    try dsimp only at hE
    obtain ⟨hi, hv0⟩ := hv
    try dsimp only at hi hv0
    refine ad 6 ?_
    refine cd (fun h3 => ?_) (fun h3 => ?_)
    ·
      have h3l : i < 23 := by have := of_decide_eq_true h3; omega
      have hM := hE.trans ((congrArg (fun n => laws_FnWordsBack_l1 p0 n i) (show 23 - i = (23 - (i + 1)) + 1 by omega)).trans (laws_FnWordsBack_l1.eq_2 _ _ _))
      have hne : 0 < (impl_PartsOf (impl_CallLine (impl_Told (Call.mk (i : Int) ⟨#[120]⟩ ⟨#[121]⟩ (nth (spec_DrawPlaces p0) 0) (nth (spec_DrawPlaces p0) 1) ⟨#[97, 98]⟩)))).1.length := (xy_back (b := p0) (i := i) (by assumption) (by omega)).2.2.2
      have hlen := DrawPlaces_len p0
      refine ad 4 ?_
      refine Run.mid ⟨57, 2, [(3, .sl 0 ((spec_DrawPlaces p0).length)), (4, .v (.int .i64 (i : Int))), (5, .pt 1 0)], [(0, .ros Int instDatInt (spec_DrawPlaces p0)), (1, .var [.v (.int .i64 ((impl_Told (Call.mk (i : Int) ⟨#[120]⟩ ⟨#[121]⟩ (nth (spec_DrawPlaces p0) 0) (nth (spec_DrawPlaces p0) 1) ⟨#[97, 98]⟩)).Kind)), .v (.string ((impl_Told (Call.mk (i : Int) ⟨#[120]⟩ ⟨#[121]⟩ (nth (spec_DrawPlaces p0) 0) (nth (spec_DrawPlaces p0) 1) ⟨#[97, 98]⟩)).Name)), .v (.string ((impl_Told (Call.mk (i : Int) ⟨#[120]⟩ ⟨#[121]⟩ (nth (spec_DrawPlaces p0) 0) (nth (spec_DrawPlaces p0) 1) ⟨#[97, 98]⟩)).To)), .v (.int .i64 ((impl_Told (Call.mk (i : Int) ⟨#[120]⟩ ⟨#[121]⟩ (nth (spec_DrawPlaces p0) 0) (nth (spec_DrawPlaces p0) 1) ⟨#[97, 98]⟩)).A)), .v (.int .i64 ((impl_Told (Call.mk (i : Int) ⟨#[120]⟩ ⟨#[121]⟩ (nth (spec_DrawPlaces p0) 0) (nth (spec_DrawPlaces p0) 1) ⟨#[97, 98]⟩)).B)), .v (.string ((impl_Told (Call.mk (i : Int) ⟨#[120]⟩ ⟨#[121]⟩ (nth (spec_DrawPlaces p0) 0) (nth (spec_DrawPlaces p0) 1) ⟨#[97, 98]⟩)).Text))] 28)]⟩ ?_ ?_
      ·
        refine dr 11 fun _ _ _ _ _ hb => ?_
        refine tk [0, 1] ?_
        refine tx 2 (dx (xs := (spec_DrawPlaces p0)) 0 om) ?_
        refine tk [3, 4] ?_
        refine tx 5 (dx (xs := (spec_DrawPlaces p0)) 1 om) ?_
        refine tk [6, 7] ?_
        refine o2 8 9 ?_ ?_
        ·
          have hg4 : Dat.good (Call.mk (i : Int) ⟨#[120]⟩ ⟨#[121]⟩ (nth (spec_DrawPlaces p0) 0) (nth (spec_DrawPlaces p0) 1) ⟨#[97, 98]⟩ : Call) := (good_Call (gn i (by omega)) (gs ⟨#[120]⟩) (gs ⟨#[121]⟩) (DrawPlaces_I64 _ _) (DrawPlaces_I64 _ _) (gs ⟨#[97, 98]⟩))
          refine ong1 8 [2] (clg (c_impl_Told (Call.mk (i : Int) ⟨#[120]⟩ ⟨#[121]⟩ (nth (spec_DrawPlaces p0) 0) (nth (spec_DrawPlaces p0) 1) ⟨#[97, 98]⟩)) fok32) fun hgq => ?_
          obtain ⟨hg5, _⟩ := hgq
          refine on 9 [3] (OpS.st rfl) ?_
          refine on 10 [3] (OpS.st rfl) ?_
          refine dn hb ?_
          exact Run.at [0, 3] [3, 0] su (by decide)
        ·
          refine on1 9 [3] (OpS.st rfl) ?_
          have hg6 : Dat.good (Call.mk (i : Int) ⟨#[120]⟩ ⟨#[121]⟩ (nth (spec_DrawPlaces p0) 0) (nth (spec_DrawPlaces p0) 1) ⟨#[97, 98]⟩ : Call) := (good_Call (gn i (by omega)) (gs ⟨#[120]⟩) (gs ⟨#[121]⟩) (DrawPlaces_I64 _ _) (DrawPlaces_I64 _ _) (gs ⟨#[97, 98]⟩))
          refine ong 8 [3] (clg (c_impl_Told (Call.mk (i : Int) ⟨#[120]⟩ ⟨#[121]⟩ (nth (spec_DrawPlaces p0) 0) (nth (spec_DrawPlaces p0) 1) ⟨#[97, 98]⟩)) fok32) fun hgq => ?_
          obtain ⟨hg7, _⟩ := hgq
          refine on 10 [3] (OpS.st rfl) ?_
          refine dn hb ?_
          exact Run.at [0, 3] [3, 0] su (by decide)
      refine ad 3 ?_
      have hg8 : Dat.good (impl_Told (Call.mk (i : Int) ⟨#[120]⟩ ⟨#[121]⟩ (nth (spec_DrawPlaces p0) 0) (nth (spec_DrawPlaces p0) 1) ⟨#[97, 98]⟩) : Call) := (impl_Told_good (good_Call (gn i (by omega)) (gs ⟨#[120]⟩) (gs ⟨#[121]⟩) (DrawPlaces_I64 _ _) (DrawPlaces_I64 _ _) (gs ⟨#[97, 98]⟩)))
      have hs9 := impl_CallLine_size (p0 := (impl_Told (Call.mk (i : Int) ⟨#[120]⟩ ⟨#[121]⟩ (nth (spec_DrawPlaces p0) 0) (nth (spec_DrawPlaces p0) 1) ⟨#[97, 98]⟩))) (by assumption)
      refine op (cl (c_impl_CallLine (impl_Told (Call.mk (i : Int) ⟨#[120]⟩ ⟨#[121]⟩ (nth (spec_DrawPlaces p0) 0) (nth (spec_DrawPlaces p0) 1) ⟨#[97, 98]⟩))) fok14) ?_
      refine og (clg (c_impl_PartsOf (impl_CallLine (impl_Told (Call.mk (i : Int) ⟨#[120]⟩ ⟨#[121]⟩ (nth (spec_DrawPlaces p0) 0) (nth (spec_DrawPlaces p0) 1) ⟨#[97, 98]⟩))) szt) fok33) fun hgq => ?_
      obtain ⟨hg10, _⟩ := hgq
      refine ad 9 ?_
      refine og (clg (c_impl_ReadCall ((impl_PartsOf (impl_CallLine (impl_Told (Call.mk (i : Int) ⟨#[120]⟩ ⟨#[121]⟩ (nth (spec_DrawPlaces p0) 0) (nth (spec_DrawPlaces p0) 1) ⟨#[97, 98]⟩)))).1) (by first | exact parts_small _ | assumption)) fok34) fun hgq => ?_
      obtain ⟨hg11, _⟩ := hgq
      refine ad 8 ?_
      refine fz 2 ?_
      refine Run.mid ⟨57, 1, [(3, .sl 0 ((spec_DrawPlaces p0).length)), (4, .v (.int .i64 (i : Int))), (56, .v (.bool ((((!((impl_PartsOf (impl_CallLine (impl_Told (Call.mk (i : Int) ⟨#[120]⟩ ⟨#[121]⟩ (nth (spec_DrawPlaces p0) 0) (nth (spec_DrawPlaces p0) 1) ⟨#[97, 98]⟩)))).2)) || (!((impl_ReadCall ((impl_PartsOf (impl_CallLine (impl_Told (Call.mk (i : Int) ⟨#[120]⟩ ⟨#[121]⟩ (nth (spec_DrawPlaces p0) 0) (nth (spec_DrawPlaces p0) 1) ⟨#[97, 98]⟩)))).1)).2))) || (!(decide (((impl_ReadCall ((impl_PartsOf (impl_CallLine (impl_Told (Call.mk (i : Int) ⟨#[120]⟩ ⟨#[121]⟩ (nth (spec_DrawPlaces p0) 0) (nth (spec_DrawPlaces p0) 1) ⟨#[97, 98]⟩)))).1)).1) = (impl_Told (Call.mk (i : Int) ⟨#[120]⟩ ⟨#[121]⟩ (nth (spec_DrawPlaces p0) 0) (nth (spec_DrawPlaces p0) 1) ⟨#[97, 98]⟩)))))) || (!decide ((nth ((impl_PartsOf (impl_CallLine (impl_Told (Call.mk (i : Int) ⟨#[120]⟩ ⟨#[121]⟩ (nth (spec_DrawPlaces p0) 0) (nth (spec_DrawPlaces p0) 1) ⟨#[97, 98]⟩)))).1) 0) = (impl_CallName (i : Int)))))))], [(0, .ros Int instDatInt (spec_DrawPlaces p0))]⟩ ?_ ?_
      ·
        refine dr 19 fun _ _ _ _ _ hb => ?_
        refine tk [0, 1, 2, 3, 4, 5, 6, 7, 8] ?_
        refine on 9 [0, 1, 2, 3] (qg (fun _ => (eqp28 ((impl_ReadCall ((impl_PartsOf (impl_CallLine (impl_Told (Call.mk (i : Int) ⟨#[120]⟩ ⟨#[121]⟩ (nth (spec_DrawPlaces p0) 0) (nth (spec_DrawPlaces p0) 1) ⟨#[97, 98]⟩)))).1)).1) (impl_Told (Call.mk (i : Int) ⟨#[120]⟩ ⟨#[121]⟩ (nth (spec_DrawPlaces p0) 0) (nth (spec_DrawPlaces p0) 1) ⟨#[97, 98]⟩))))) ?_
        refine tk [10, 11, 12, 15] ?_
        refine o2 13 16 ?_ ?_
        ·
          refine on1 13 [1, 2, 3, 4] (iG (xs := (impl_PartsOf (impl_CallLine (impl_Told (Call.mk (i : Int) ⟨#[120]⟩ ⟨#[121]⟩ (nth (spec_DrawPlaces p0) 0) (nth (spec_DrawPlaces p0) 1) ⟨#[97, 98]⟩)))).1) 0 om) ?_
          refine o2 14 16 ?_ ?_
          ·
            refine on1 14 [1, 2, 3, 4] (gO) ?_
            refine on 16 [1, 2, 3, 4] (cG (hct := fun hB => (c_impl_CallName (i : Int))) (hfn := fok35)) ?_
            refine tk [17, 18] ?_
            refine dn hb ?_
            exact Run.at [0] [3] su (by decide)
          ·
            refine on1 16 [1, 2, 3, 4] (cG (hct := fun hB => (c_impl_CallName (i : Int))) (hfn := fok35)) ?_
            refine on 14 [1, 2, 3, 4] (gO) ?_
            refine tk [17, 18] ?_
            refine dn hb ?_
            exact Run.at [0] [3] su (by decide)
        ·
          refine on1 16 [0, 1, 2, 3] (cG (hct := fun hB => (c_impl_CallName (i : Int))) (hfn := fok35)) ?_
          refine on 13 [1, 2, 3, 4] (iG (xs := (impl_PartsOf (impl_CallLine (impl_Told (Call.mk (i : Int) ⟨#[120]⟩ ⟨#[121]⟩ (nth (spec_DrawPlaces p0) 0) (nth (spec_DrawPlaces p0) 1) ⟨#[97, 98]⟩)))).1) 0 om) ?_
          refine on 14 [1, 2, 3, 4] (gO) ?_
          refine tk [17, 18] ?_
          refine dn hb ?_
          exact Run.at [0] [3] su (by decide)
      refine cd (fun h12 => ?_) (fun h12 => ?_)
      ·
        have hM := hM.trans (bt h12)
        refine ad 4 ?_
        exact rz (rs := [.tmp 2]) (congrArg (fun x => [Re.c (.bool x)]) hM)
      ·
        have hM := hM.trans (bf h12)
        refine ad 5 ?_
        rw [wrapN (i := i) (by first | omega | exact om)]
        refine ad 2 ?_
        exact Run.again (i + 1) [0] [0] ⟨by exact ⟨by (try dsimp only); omega, by (try dsimp only); omega⟩, hM⟩ rfl (by show _ - _ < _ - _; (try dsimp only); omega) su (by decide)
    ·
      have h3l : ¬ (i < 23) := by have := of_decide_eq_false h3; omega
      have hM := hE.trans ((congrArg (fun n => laws_FnWordsBack_l1 p0 n i) (show 23 - i = 0 by omega)).trans (laws_FnWordsBack_l1.eq_1 _ _))
      refine ad 5 ?_
      exact rz (rs := [.tmp 2]) (congrArg (fun x => [Re.c (.bool x)]) hM)

end Go.Proofs.YtmjjcihoobnbgaaDoor.Fw