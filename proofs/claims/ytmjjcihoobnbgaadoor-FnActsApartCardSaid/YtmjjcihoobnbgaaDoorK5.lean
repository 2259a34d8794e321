/- Contracts: each call returns what the model says. By program (wip/am/gen2.py). -/
import Derived.Test.YtmjjcihoobnbgaaDoorKD
namespace Go.Proofs.YtmjjcihoobnbgaaDoor.Fw
open Go.RowKit
set_option linter.unusedVariables false
set_option maxRecDepth 100000

theorem fok10 : FnOk Tryd.prog 10 := ⟨_, Tryd.func10, rfl, by kernel_rfl⟩
theorem fok11 : FnOk Tryd.prog 11 := ⟨_, Tryd.func11, rfl, by kernel_rfl⟩
/- F10 loop.example/g00974/laws.big -/
def laws_big (p0 : List (UInt8)) : Bool := decide ((p0.length : Int) > 1048576)
theorem c_laws_big (p0 : List (UInt8)) : CTs 10 [.o (.sl UInt8 instDatUInt8 p0)] [Re.c (.bool (laws_big p0))] := by
  refine en Tryd.func10 Tryd.ntmps10 fun w hG hgd => ?_
  obtain ⟨hg_p0, _⟩ := hgd
  have hl_p0 : p0.length ≤ 9223372036854775807 := hg_p0.1
  have hM := laws_big.eq_1 p0
  refine ad 11 ?_
  exact rz (rs := [.tmp 2]) (congrArg (fun x => [Re.c (.bool x)]) hM)

/- F3 loop.example/g00974/laws.FnActsApart -/
def laws_FnActsApart_l2 (p0 : List (UInt8)) (i : Nat) (k_2 : Unit → Bool) : Nat → Nat → Bool
  | 0, i_2 => k_2 ()
  | n_2 + 1, i_2 => bif decide ((impl_ActName (i : Int)) = (impl_ActName (i_2 : Int))) then false else (laws_FnActsApart_l2 p0 i k_2 n_2 (i_2 + 1))
def laws_FnActsApart_l1 (p0 : List (UInt8)) : Nat → Nat → Bool
  | 0, i => (((decide ((impl_ActName (spec_DrawActName p0)) = (spec_ActName (spec_DrawActName p0)))) && (decide ((impl_ActName 12) = ⟨#[114, 101, 116, 114, 121]⟩))) && (decide ((impl_ActName 13) = ⟨#[63]⟩))) && (decide ((impl_CallLine (Call.mk 5 ⟨#[]⟩ ⟨#[]⟩ 0 0 ⟨#[]⟩)) = ⟨#[110, 97, 109, 101, 115]⟩))
  | n + 1, i => laws_FnActsApart_l2 p0 i (fun e => laws_FnActsApart_l1 p0 n (i + 1)) (i - 1) 1
def laws_FnActsApart (p0 : List (UInt8)) : Bool := bif laws_big p0 then true else (laws_FnActsApart_l1 p0 (13 - 1) 1)
theorem c_laws_FnActsApart (p0 : List (UInt8)) : CTs 3 [.o (.sl UInt8 instDatUInt8 p0)] [Re.c (.bool (laws_FnActsApart p0))] := by
  refine en Tryd.func3 Tryd.ntmps3 fun w hG hgd => ?_
  obtain ⟨hg_p0, _⟩ := hgd
  have hl_p0 : p0.length ≤ 9223372036854775807 := hg_p0.1
  have hM := laws_FnActsApart.eq_1 p0
  refine ad 8 ?_
  refine op (cl (c_laws_big p0) fok10) ?_
  refine ad 1 ?_
  refine cd (fun h1 => ?_) (fun h1 => ?_)
  ·
    have hM := hM.trans (bt h1)
    refine ad 4 ?_
    exact rz (rs := [.tmp 2]) (congrArg (fun x => [Re.c (.bool x)]) hM)
  ·
    have hM := hM.trans (bf h1)
    refine ad 4 ?_
    refine op (cl (c_spec_DrawActName p0) fok11) ?_
    refine ad 8 ?_
    refine Run.loopM (ι := Nat) (fun s => laws_FnActsApart_l1 p0 (13 - s) s) (fun s => ⟨42, 0, [(3, .v (.int .i64 (spec_DrawActName p0))), (4, .v (.int .i64 (s : Int)))], []⟩) (fun s => s ≤ 13 ∧ 1 ≤ s) (fun s => 13 - s) 1 [] [] hM (by (try dsimp only); omega) su (by decide) ?_
    rintro i hv hE
    try dsimp only at hE
    obtain ⟨hi, hv0⟩ := hv
    try dsimp only at hi hv0
    refine ad 6 ?_
    refine cd (fun h2 => ?_) (fun h2 => ?_)
    ·
      have h2l : i < 13 := by have := of_decide_eq_true h2; omega
      have hM := hE.trans ((congrArg (fun n => laws_FnActsApart_l1 p0 n i) (show 13 - i = (13 - (i + 1)) + 1 by omega)).trans (laws_FnActsApart_l1.eq_2 _ _ _))
      refine ad 8 ?_
      refine Run.loopkM (ι := Nat) (κ := Unit) (fun k s => laws_FnActsApart_l2 p0 i k (i - s) s) (fun s => ⟨42, 0, [(3, .v (.int .i64 (spec_DrawActName p0))), (4, .v (.int .i64 (i : Int))), (5, .v (.int .i64 (s : Int)))], []⟩) (fun s => s ≤ i) (fun s => i - s) (fun e => ⟨42, 0, [(3, .v (.int .i64 (spec_DrawActName p0))), (4, .v (.int .i64 (i : Int)))], []⟩) (fun e => True) 1 [] [] hM (by first | exact ⟨by omega, by simp⟩ | omega | simp | (dsimp only; omega)) su (by decide) ?_ ?_
      ·
        rintro _ hv hM
        try dsimp only at hM hv ⊢
        refine ad 4 ?_
        rw [wrapN (i := i) (by first | omega | exact om)]
        refine ad 2 ?_
        exact Run.again (i + 1) [] [] ⟨by exact ⟨by (try dsimp only); omega, by (try dsimp only); omega⟩, hM⟩ rfl (by show _ - _ < _ - _; (try dsimp only); omega) su (by decide)
      ·
        intro k_2 hk_2
        rintro i_2 hv_2 hE
        try dsimp only at hE
        have hi_2 := hv_2
        try dsimp only at hi_2
        refine ad 7 ?_
        refine cd (fun h3 => ?_) (fun h3 => ?_)
        ·
          have h3l : i_2 < i := by have := of_decide_eq_true h3; omega
          have hM := hE.trans ((congrArg (fun n => laws_FnActsApart_l2 p0 i k_2 n i_2) (show i - i_2 = (i - (i_2 + 1)) + 1 by omega)).trans (laws_FnActsApart_l2.eq_2 _ _ _ _ _))
          refine ad 6 ?_
          refine op (cl (c_impl_ActName (i : Int)) fok12) ?_
          refine ad 1 ?_
          refine op (cl (c_impl_ActName (i_2 : Int)) fok12) ?_
          refine ad 2 ?_
          refine cd (fun h4 => ?_) (fun h4 => ?_)
          ·
            have hM := hM.trans (bt h4)
            refine ad 4 ?_
            exact rz (rs := [.tmp 2]) (congrArg (fun x => [Re.c (.bool x)]) hM)
          ·
            have hM := hM.trans (bf h4)
            refine ad 5 ?_
            rw [wrapN (i := i_2) (by first | omega | exact om)]
            refine ad 2 ?_
            exact Run.again (i_2 + 1) [] [] ⟨by first | omega | exact trivial | (dsimp only; omega) | (refine ⟨by omega, ?_⟩; simp_all; try omega), hM⟩ rfl (by show _ - _ < _ - _; (try dsimp only); omega) su (by decide)
        ·
          have h3l : ¬ (i_2 < i) := by have := of_decide_eq_false h3; omega
          have hM := hE.trans ((congrArg (fun n => laws_FnActsApart_l2 p0 i k_2 n i_2) (show i - i_2 = 0 by omega)).trans (laws_FnActsApart_l2.eq_1 _ _ _ _))
          refine ad 1 ?_
          exact Run.exitkM hk_2 () [] [] hM (by trivial) su (by decide)
    ·
      have h2l : ¬ (i < 13) := by have := of_decide_eq_false h2; omega
      have hM := hE.trans ((congrArg (fun n => laws_FnActsApart_l1 p0 n i) (show 13 - i = 0 by omega)).trans (laws_FnActsApart_l1.eq_1 _ _))
      refine ad 4 ?_
      refine op (cl (c_impl_ActName (spec_DrawActName p0)) fok12) ?_
      refine ad 1 ?_
      refine op (cl (c_spec_ActName (spec_DrawActName p0)) fok13) ?_
      refine ad 2 ?_
      refine op (cG (fun hB => (c_impl_ActName 12)) fok12) ?_
      refine ag 2 ?_
      refine ad 1 ?_
      refine op (cG (fun hB => (c_impl_ActName 13)) fok12) ?_
      refine ag 2 ?_
      refine ad 1 ?_
      refine ag 1 ?_
      have hg5 : Dat.good (Call.mk 5 ⟨#[]⟩ ⟨#[]⟩ 0 0 ⟨#[]⟩ : Call) := ⟨(gi 5), (gs ⟨#[]⟩), (gs ⟨#[]⟩), (gi 0), (gi 0), (gs ⟨#[]⟩)⟩
      refine op (cG (fun hB => (c_impl_CallLine (Call.mk 5 ⟨#[]⟩ ⟨#[]⟩ 0 0 ⟨#[]⟩))) fok14) ?_
      refine ag 2 ?_
      refine ad 2 ?_
      exact rz (rs := [.tmp 2]) (congrArg (fun x => [Re.c (.bool x)]) hM)

end Go.Proofs.YtmjjcihoobnbgaaDoor.Fw