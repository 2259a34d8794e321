/-
  The texts R3, PK, ShelfS, B6, Am17, Am18, Sy3, T1, TP, Sy5, T2, M0, MA, Am19, Am20, Am21, Sy4, B7, TQ, T3, GEi of this proof, one behind the other: what each proves stands at its head. No condition.
-/
import Derived.Shelf.Strings.OnBuilder
import Derived.Shelf.LaysM
import Derived.Shelf.Strconv.Itoa3
import Derived.Shelf.LaysC
import Derived.Shelf.Strconv.AtoiAll
import Derived.Shelf.Strings.Split
import Derived.Shelf.Strings.Fields
import Derived.Ground.PaProg
import Derived.Shelf.Hex.DecodeOwns
import Derived.Shelf.Hex.More
import Derived.Test.YtnjidaonbcbphaaGreatDoorProg
import Derived.Lib.ShelfFacts
import Derived.Test.YtnjidaonbcbphaaGreatDoorScA
import Derived.Test.YtnjidaonbcbphaaGreatDoorScB
import Derived.Test.YtnjidaonbcbphaaGreatDoorScC
import Derived.Test.YtnjidaonbcbphaaGreatDoorScD
/- Contracts: each call returns what the model says. By program (wip/am/gen2.py). -/
namespace Go.Proofs.YtnjidaonbcbphaaGreatDoor.Fw
open Go.RowKit
set_option linter.unusedVariables false
set_option maxRecDepth 100000
set_option maxHeartbeats 2000000

theorem fok23 : FnOk Tryz.prog 23 := ⟨_, Tryz.func23, rfl, by kernel_rfl⟩
theorem fok28 : FnOk Tryz.prog 28 := ⟨_, Tryz.func28, rfl, by kernel_rfl⟩
theorem fok29 : FnOk Tryz.prog 29 := ⟨_, Tryz.func29, rfl, by kernel_rfl⟩
theorem fok34 : FnOk Tryz.prog 34 := ⟨_, Tryz.func34, rfl, by kernel_rfl⟩
theorem fok102 : FnOk Tryz.prog 102 := ⟨_, Tryz.func102, rfl, by kernel_rfl⟩
theorem fok166 : FnOk Tryz.prog 166 := ⟨_, Tryz.func166, rfl, by kernel_rfl⟩
/- F24 loop.example/g00974/impl.ReadAct -/
def impl_ReadAct_l1 (p0 : ByteArray) : Nat → Int → Int → Int → ByteArray → ByteArray → Int → Int → ByteArray → Nat → (List ByteArray) → Deed × Bool
  | 0, c2_1, c2_2, c2_3, c2_4, c2_5, c2_6, c2_7, c2_8, i, v7 => bif !(slices_Equal_string ((impl_PartsOf (impl_ActLine (Deed.mk (IntKind.i64.wrap (1 + (slices_Index_string gl0 (nth ((impl_PartsOf p0).1) 0)))) c2_1 c2_2 (Call.mk c2_3 c2_4 c2_5 c2_6 c2_7 c2_8)))).1) ((impl_PartsOf p0).1)) then ((Deed.mk 0 0 0 (Call.mk 0 ⟨#[]⟩ ⟨#[]⟩ 0 0 ⟨#[]⟩)), false) else ((Deed.mk (IntKind.i64.wrap (1 + (slices_Index_string gl0 (nth ((impl_PartsOf p0).1) 0)))) c2_1 c2_2 (Call.mk c2_3 c2_4 c2_5 c2_6 c2_7 c2_8)), true)
  | n + 1, c2_1, c2_2, c2_3, c2_4, c2_5, c2_6, c2_7, c2_8, i, v7 => bif decide ((v7.length : Int) = 0) then ((Deed.mk 0 0 0 (Call.mk 0 ⟨#[]⟩ ⟨#[]⟩ 0 0 ⟨#[]⟩)), false) else (impl_ReadAct_l1 p0 n (bif (decide (((byteAt (impl_actFields (IntKind.i64.wrap (1 + (slices_Index_string gl0 (nth ((impl_PartsOf p0).1) 0))))) i).toNat : Int) = 78)) then ((impl_ReadDecimal (nth v7 0)).1) else c2_1) (bif (decide (((byteAt (impl_actFields (IntKind.i64.wrap (1 + (slices_Index_string gl0 (nth ((impl_PartsOf p0).1) 0))))) i).toNat : Int) = 78)) then c2_2 else (bif (decide (((byteAt (impl_actFields (IntKind.i64.wrap (1 + (slices_Index_string gl0 (nth ((impl_PartsOf p0).1) 0))))) i).toNat : Int) = 77)) then ((impl_ReadDecimal (nth v7 0)).1) else c2_2)) (bif (decide (((byteAt (impl_actFields (IntKind.i64.wrap (1 + (slices_Index_string gl0 (nth ((impl_PartsOf p0).1) 0))))) i).toNat : Int) = 78)) then c2_3 else (bif (decide (((byteAt (impl_actFields (IntKind.i64.wrap (1 + (slices_Index_string gl0 (nth ((impl_PartsOf p0).1) 0))))) i).toNat : Int) = 77)) then c2_3 else (bif (decide (((byteAt (impl_actFields (IntKind.i64.wrap (1 + (slices_Index_string gl0 (nth ((impl_PartsOf p0).1) 0))))) i).toNat : Int) = 67)) then ((impl_ReadCall v7).1.Kind) else c2_3))) (bif (decide (((byteAt (impl_actFields (IntKind.i64.wrap (1 + (slices_Index_string gl0 (nth ((impl_PartsOf p0).1) 0))))) i).toNat : Int) = 78)) then c2_4 else (bif (decide (((byteAt (impl_actFields (IntKind.i64.wrap (1 + (slices_Index_string gl0 (nth ((impl_PartsOf p0).1) 0))))) i).toNat : Int) = 77)) then c2_4 else (bif (decide (((byteAt (impl_actFields (IntKind.i64.wrap (1 + (slices_Index_string gl0 (nth ((impl_PartsOf p0).1) 0))))) i).toNat : Int) = 67)) then ((impl_ReadCall v7).1.Name) else c2_4))) (bif (decide (((byteAt (impl_actFields (IntKind.i64.wrap (1 + (slices_Index_string gl0 (nth ((impl_PartsOf p0).1) 0))))) i).toNat : Int) = 78)) then c2_5 else (bif (decide (((byteAt (impl_actFields (IntKind.i64.wrap (1 + (slices_Index_string gl0 (nth ((impl_PartsOf p0).1) 0))))) i).toNat : Int) = 77)) then c2_5 else (bif (decide (((byteAt (impl_actFields (IntKind.i64.wrap (1 + (slices_Index_string gl0 (nth ((impl_PartsOf p0).1) 0))))) i).toNat : Int) = 67)) then ((impl_ReadCall v7).1.To) else c2_5))) (bif (decide (((byteAt (impl_actFields (IntKind.i64.wrap (1 + (slices_Index_string gl0 (nth ((impl_PartsOf p0).1) 0))))) i).toNat : Int) = 78)) then c2_6 else (bif (decide (((byteAt (impl_actFields (IntKind.i64.wrap (1 + (slices_Index_string gl0 (nth ((impl_PartsOf p0).1) 0))))) i).toNat : Int) = 77)) then c2_6 else (bif (decide (((byteAt (impl_actFields (IntKind.i64.wrap (1 + (slices_Index_string gl0 (nth ((impl_PartsOf p0).1) 0))))) i).toNat : Int) = 67)) then ((impl_ReadCall v7).1.A) else c2_6))) (bif (decide (((byteAt (impl_actFields (IntKind.i64.wrap (1 + (slices_Index_string gl0 (nth ((impl_PartsOf p0).1) 0))))) i).toNat : Int) = 78)) then c2_7 else (bif (decide (((byteAt (impl_actFields (IntKind.i64.wrap (1 + (slices_Index_string gl0 (nth ((impl_PartsOf p0).1) 0))))) i).toNat : Int) = 77)) then c2_7 else (bif (decide (((byteAt (impl_actFields (IntKind.i64.wrap (1 + (slices_Index_string gl0 (nth ((impl_PartsOf p0).1) 0))))) i).toNat : Int) = 67)) then ((impl_ReadCall v7).1.B) else c2_7))) (bif (decide (((byteAt (impl_actFields (IntKind.i64.wrap (1 + (slices_Index_string gl0 (nth ((impl_PartsOf p0).1) 0))))) i).toNat : Int) = 78)) then c2_8 else (bif (decide (((byteAt (impl_actFields (IntKind.i64.wrap (1 + (slices_Index_string gl0 (nth ((impl_PartsOf p0).1) 0))))) i).toNat : Int) = 77)) then c2_8 else (bif (decide (((byteAt (impl_actFields (IntKind.i64.wrap (1 + (slices_Index_string gl0 (nth ((impl_PartsOf p0).1) 0))))) i).toNat : Int) = 67)) then ((impl_ReadCall v7).1.Text) else c2_8))) (i + 1) (bif (decide (((byteAt (impl_actFields (IntKind.i64.wrap (1 + (slices_Index_string gl0 (nth ((impl_PartsOf p0).1) 0))))) i).toNat : Int) = 78)) then (cutL v7 1 v7.length) else (bif (decide (((byteAt (impl_actFields (IntKind.i64.wrap (1 + (slices_Index_string gl0 (nth ((impl_PartsOf p0).1) 0))))) i).toNat : Int) = 77)) then (cutL v7 1 v7.length) else v7)))
def impl_ReadAct (p0 : ByteArray) : Deed × Bool := bif (!((impl_PartsOf p0).2)) || (decide ((((impl_PartsOf p0).1).length : Int) = 0)) then ((Deed.mk 0 0 0 (Call.mk 0 ⟨#[]⟩ ⟨#[]⟩ 0 0 ⟨#[]⟩)), false) else (impl_ReadAct_l1 p0 (((impl_actFields (IntKind.i64.wrap (1 + (slices_Index_string gl0 (nth ((impl_PartsOf p0).1) 0))))).size) - 0) 0 0 0 ⟨#[]⟩ ⟨#[]⟩ 0 0 ⟨#[]⟩ 0 (cutL ((impl_PartsOf p0).1) 1 (((impl_PartsOf p0).1).length)))
theorem c_impl_ReadAct (p0 : ByteArray) (hz_p0 : p0.size ≤ 9223372036854775807) : CTs 24 [.o (.c (.string p0))] [Re.st Deed _ inferInstance ((impl_ReadAct p0).1), Re.c (.bool ((impl_ReadAct p0).2))] := by
  refine en Tryz.func24 Tryz.ntmps24 fun w hG hgd => ?_
  have hM := impl_ReadAct.eq_1 p0
  refine ad 8 ?_
  refine og (clg (c_impl_PartsOf p0 hz_p0) fok33) fun hgq => ?_
  obtain ⟨hg1, _⟩ := hgq
  refine ad 12 ?_
  refine ag 4 ?_
  refine ad 1 ?_
  refine cd (fun h2 => ?_) (fun h2 => ?_)
  ·
    have hM := hM.trans (bt h2)
    refine ad 6 ?_
    have hg3 : Dat.good (Deed.mk 0 0 0 (Call.mk 0 ⟨#[]⟩ ⟨#[]⟩ 0 0 ⟨#[]⟩) : Deed) := ⟨(gi 0), (gi 0), (gi 0), (good_Call (gi 0) (gs ⟨#[]⟩) (gs ⟨#[]⟩) (gi 0) (gi 0) (gs ⟨#[]⟩))⟩
    exact rz (rs := [.cell 2 56, .tmp 3]) (congrArg (fun x => [Re.st Deed _ inferInstance x.1, Re.c (.bool x.2)]) hM)
  ·
    have hM := hM.trans (bf h2)
    refine ad 2 ?_
    refine fz 1 ?_
    refine Run.mid ⟨90, 3, [(2, .pt 0 0), (4, .sl 1 (((impl_PartsOf p0).1).length)), (6, .pt 2 0)], [(0, .var [.v (.int .i64 0), .v (.int .i64 0), .v (.int .i64 0), .v (.int .i64 0), .v (.string ⟨#[]⟩), .v (.string ⟨#[]⟩), .v (.int .i64 0), .v (.int .i64 0), .v (.string ⟨#[]⟩)] 56), (1, .ros ByteArray instDatByteArray ((impl_PartsOf p0).1)), (2, .var [.v (.int .i64 (IntKind.i64.wrap (1 + (slices_Index_string gl0 (nth ((impl_PartsOf p0).1) 0))))), .v (.int .i64 0), .v (.int .i64 0), .v (.int .i64 0), .v (.string ⟨#[]⟩), .v (.string ⟨#[]⟩), .v (.int .i64 0), .v (.int .i64 0), .v (.string ⟨#[]⟩)] 56)]⟩ ?_ ?_
    ·
      refine dr 9 fun _ _ _ _ _ hb => ?_
      refine tk [1] ?_
      have hg4 := good_nth (k := 0) hg1 om
      refine tx 2 (dx (xs := (impl_PartsOf p0).1) 0 om) ?_
      refine tk [3] ?_
      refine o2 0 7 ?_ ?_
      ·
        refine on1 0 [2, 3] (gsl (e := 9) gl0 Gl0) ?_
        refine o2 4 7 ?_ ?_
        ·
          refine on1 4 [2, 3] (cl (c_slices_Index_string gl0 (nth ((impl_PartsOf p0).1) 0)) fok84) ?_
          refine tk [5, 6] ?_
          refine on 7 [3, 4] (OpS.st rfl) ?_
          refine on 8 [3, 4] (OpS.st rfl) ?_
          refine dn hb ?_
          exact Run.at [0, 1, 4] [4, 3, 0] su (by decide)
        ·
          refine on1 7 [3, 4] (OpS.st rfl) ?_
          refine on 4 [3, 4] (cl (c_slices_Index_string gl0 (nth ((impl_PartsOf p0).1) 0)) fok84) ?_
          refine tk [5, 6] ?_
          refine on 8 [3, 4] (OpS.st rfl) ?_
          refine dn hb ?_
          exact Run.at [0, 1, 4] [4, 3, 0] su (by decide)
      ·
        refine on1 7 [2, 3] (OpS.st rfl) ?_
        refine on 0 [3, 4] (gsl (e := 9) gl0 Gl0) ?_
        refine on 4 [3, 4] (cl (c_slices_Index_string gl0 (nth ((impl_PartsOf p0).1) 0)) fok84) ?_
        refine tk [5, 6] ?_
        refine on 8 [3, 4] (OpS.st rfl) ?_
        refine dn hb ?_
        exact Run.at [0, 1, 3] [4, 3, 1] su (by decide)
    refine ad 3 ?_
    refine op (pa 1 (((impl_PartsOf p0).1).length) (hh := rfl)) ?_
    refine ad 7 ?_
    refine op (cl (c_impl_actFields (IntKind.i64.wrap (1 + (slices_Index_string gl0 (nth ((impl_PartsOf p0).1) 0))))) fok81) ?_
    refine op (rg) ?_
    refine ad 2 ?_
    refine Run.loopM (ι := Int × Int × Int × ByteArray × ByteArray × Int × Int × ByteArray × Nat × (List ByteArray)) (fun s => impl_ReadAct_l1 p0 (((impl_actFields (IntKind.i64.wrap (1 + (slices_Index_string gl0 (nth ((impl_PartsOf p0).1) 0))))).size) - s.2.2.2.2.2.2.2.2.1) s.1 s.2.1 s.2.2.1 s.2.2.2.1 s.2.2.2.2.1 s.2.2.2.2.2.1 s.2.2.2.2.2.2.1 s.2.2.2.2.2.2.2.1 s.2.2.2.2.2.2.2.2.1 s.2.2.2.2.2.2.2.2.2) (fun s => ⟨90, 5, [(2, .pt 0 0), (4, .sl 1 (((impl_PartsOf p0).1).length)), (6, .pt 2 0), (7, .sl 4 s.2.2.2.2.2.2.2.2.2.length), (37, .pt 3 0)], [(0, .var [.v (.int .i64 0), .v (.int .i64 0), .v (.int .i64 0), .v (.int .i64 0), .v (.string ⟨#[]⟩), .v (.string ⟨#[]⟩), .v (.int .i64 0), .v (.int .i64 0), .v (.string ⟨#[]⟩)] 56), (1, .ros ByteArray instDatByteArray ((impl_PartsOf p0).1)), (2, .var [.v (.int .i64 (IntKind.i64.wrap (1 + (slices_Index_string gl0 (nth ((impl_PartsOf p0).1) 0))))), .v (.int .i64 s.1), .v (.int .i64 s.2.1), .v (.int .i64 s.2.2.1), .v (.string s.2.2.2.1), .v (.string s.2.2.2.2.1), .v (.int .i64 s.2.2.2.2.2.1), .v (.int .i64 s.2.2.2.2.2.2.1), .v (.string s.2.2.2.2.2.2.2.1)] 56), (3, .itr (impl_actFields (IntKind.i64.wrap (1 + (slices_Index_string gl0 (nth ((impl_PartsOf p0).1) 0))))) s.2.2.2.2.2.2.2.2.1), (4, .ros ByteArray instDatByteArray s.2.2.2.2.2.2.2.2.2)]⟩) (fun s => s.2.2.2.2.2.2.2.2.1 ≤ (impl_actFields (IntKind.i64.wrap (1 + (slices_Index_string gl0 (nth ((impl_PartsOf p0).1) 0))))).size ∧ small s.2.2.2.2.2.2.2.2.2 ∧ I64 s.1 ∧ I64 s.2.1 ∧ I64 s.2.2.1 ∧ s.2.2.2.1.size ≤ maxLen ∧ s.2.2.2.2.1.size ≤ maxLen ∧ I64 s.2.2.2.2.2.1 ∧ I64 s.2.2.2.2.2.2.1 ∧ s.2.2.2.2.2.2.2.1.size ≤ maxLen) (fun s => ((impl_actFields (IntKind.i64.wrap (1 + (slices_Index_string gl0 (nth ((impl_PartsOf p0).1) 0))))).size) - s.2.2.2.2.2.2.2.2.1) (0, 0, 0, ⟨#[]⟩, ⟨#[]⟩, 0, 0, ⟨#[]⟩, 0, (cutL ((impl_PartsOf p0).1) 1 (((impl_PartsOf p0).1).length))) [0, 1, 2, 4, 3] [2, 3, 4, 0, 1] hM (by exact ⟨by (try dsimp only); first | omega | exact trivial, by exact small_drop (parts_smalls _) 1, (gi 0), (gi 0), (gi 0), (gs ⟨#[]⟩), (gs ⟨#[]⟩), (gi 0), (gi 0), (gs ⟨#[]⟩)⟩) su (by decide) ?_
    rintro ⟨c2_1, c2_2, c2_3, c2_4, c2_5, c2_6, c2_7, c2_8, i, v7⟩ hv hE
    try dsimp only at hE
    obtain ⟨hi, hv0, hg_c2_1, hg_c2_2, hg_c2_3, hg_c2_4, hg_c2_5, hg_c2_6, hg_c2_7, hg_c2_8⟩ := hv
    try dsimp only at hi hv0 hg_c2_1 hg_c2_2 hg_c2_3 hg_c2_4 hg_c2_5 hg_c2_6 hg_c2_7 hg_c2_8
    refine ad 2 ?_
    refine nx (fun h5 => ?_) (fun h5 => ?_) (asc_impl_actFields (IntKind.i64.wrap (1 + (slices_Index_string gl0 (nth ((impl_PartsOf p0).1) 0)))))
    ·
      have hM := hE.trans ((congrArg (fun n => impl_ReadAct_l1 p0 n c2_1 c2_2 c2_3 c2_4 c2_5 c2_6 c2_7 c2_8 i v7) (show ((impl_actFields (IntKind.i64.wrap (1 + (slices_Index_string gl0 (nth ((impl_PartsOf p0).1) 0))))).size) - i = (((impl_actFields (IntKind.i64.wrap (1 + (slices_Index_string gl0 (nth ((impl_PartsOf p0).1) 0))))).size) - (i + 1)) + 1 by omega)).trans (impl_ReadAct_l1.eq_2 _ _ _ _ _ _ _ _ _ _ _ _))
      have hr0 := hv0.2 0
      have hq7 := hv0.2
      refine ad 18 ?_
      refine cd (fun h6 => ?_) (fun h6 => ?_)
      ·
        have hM := hM.trans (bt h6)
        refine ad 6 ?_
        have hg7 : Dat.good (Deed.mk 0 0 0 (Call.mk 0 ⟨#[]⟩ ⟨#[]⟩ 0 0 ⟨#[]⟩) : Deed) := ⟨(gi 0), (gi 0), (gi 0), (good_Call (gi 0) (gs ⟨#[]⟩) (gs ⟨#[]⟩) (gi 0) (gi 0) (gs ⟨#[]⟩))⟩
        exact rz (rs := [.cell 2 56, .tmp 3]) (congrArg (fun x => [Re.st Deed _ inferInstance x.1, Re.c (.bool x.2)]) hM)
      ·
        have hM := hM.trans (bf h6)
        refine ad 11 ?_
        refine Run.mid ⟨90, 5, [(2, .pt 0 0), (4, .sl 1 (((impl_PartsOf p0).1).length)), (6, .pt 2 0), (7, .sl 3 ((bif (decide (((byteAt (impl_actFields (IntKind.i64.wrap (1 + (slices_Index_string gl0 (nth ((impl_PartsOf p0).1) 0))))) i).toNat : Int) = 78)) then (cutL v7 1 v7.length) else (bif (decide (((byteAt (impl_actFields (IntKind.i64.wrap (1 + (slices_Index_string gl0 (nth ((impl_PartsOf p0).1) 0))))) i).toNat : Int) = 77)) then (cutL v7 1 v7.length) else v7)).length)), (37, .pt 4 0)], [(0, .var [.v (.int .i64 0), .v (.int .i64 0), .v (.int .i64 0), .v (.int .i64 0), .v (.string ⟨#[]⟩), .v (.string ⟨#[]⟩), .v (.int .i64 0), .v (.int .i64 0), .v (.string ⟨#[]⟩)] 56), (1, .ros ByteArray instDatByteArray ((impl_PartsOf p0).1)), (2, .var [.v (.int .i64 (IntKind.i64.wrap (1 + (slices_Index_string gl0 (nth ((impl_PartsOf p0).1) 0))))), .v (.int .i64 (bif (decide (((byteAt (impl_actFields (IntKind.i64.wrap (1 + (slices_Index_string gl0 (nth ((impl_PartsOf p0).1) 0))))) i).toNat : Int) = 78)) then ((impl_ReadDecimal (nth v7 0)).1) else c2_1)), .v (.int .i64 (bif (decide (((byteAt (impl_actFields (IntKind.i64.wrap (1 + (slices_Index_string gl0 (nth ((impl_PartsOf p0).1) 0))))) i).toNat : Int) = 78)) then c2_2 else (bif (decide (((byteAt (impl_actFields (IntKind.i64.wrap (1 + (slices_Index_string gl0 (nth ((impl_PartsOf p0).1) 0))))) i).toNat : Int) = 77)) then ((impl_ReadDecimal (nth v7 0)).1) else c2_2))), .v (.int .i64 (bif (decide (((byteAt (impl_actFields (IntKind.i64.wrap (1 + (slices_Index_string gl0 (nth ((impl_PartsOf p0).1) 0))))) i).toNat : Int) = 78)) then c2_3 else (bif (decide (((byteAt (impl_actFields (IntKind.i64.wrap (1 + (slices_Index_string gl0 (nth ((impl_PartsOf p0).1) 0))))) i).toNat : Int) = 77)) then c2_3 else (bif (decide (((byteAt (impl_actFields (IntKind.i64.wrap (1 + (slices_Index_string gl0 (nth ((impl_PartsOf p0).1) 0))))) i).toNat : Int) = 67)) then ((impl_ReadCall v7).1.Kind) else c2_3)))), .v (.string (bif (decide (((byteAt (impl_actFields (IntKind.i64.wrap (1 + (slices_Index_string gl0 (nth ((impl_PartsOf p0).1) 0))))) i).toNat : Int) = 78)) then c2_4 else (bif (decide (((byteAt (impl_actFields (IntKind.i64.wrap (1 + (slices_Index_string gl0 (nth ((impl_PartsOf p0).1) 0))))) i).toNat : Int) = 77)) then c2_4 else (bif (decide (((byteAt (impl_actFields (IntKind.i64.wrap (1 + (slices_Index_string gl0 (nth ((impl_PartsOf p0).1) 0))))) i).toNat : Int) = 67)) then ((impl_ReadCall v7).1.Name) else c2_4)))), .v (.string (bif (decide (((byteAt (impl_actFields (IntKind.i64.wrap (1 + (slices_Index_string gl0 (nth ((impl_PartsOf p0).1) 0))))) i).toNat : Int) = 78)) then c2_5 else (bif (decide (((byteAt (impl_actFields (IntKind.i64.wrap (1 + (slices_Index_string gl0 (nth ((impl_PartsOf p0).1) 0))))) i).toNat : Int) = 77)) then c2_5 else (bif (decide (((byteAt (impl_actFields (IntKind.i64.wrap (1 + (slices_Index_string gl0 (nth ((impl_PartsOf p0).1) 0))))) i).toNat : Int) = 67)) then ((impl_ReadCall v7).1.To) else c2_5)))), .v (.int .i64 (bif (decide (((byteAt (impl_actFields (IntKind.i64.wrap (1 + (slices_Index_string gl0 (nth ((impl_PartsOf p0).1) 0))))) i).toNat : Int) = 78)) then c2_6 else (bif (decide (((byteAt (impl_actFields (IntKind.i64.wrap (1 + (slices_Index_string gl0 (nth ((impl_PartsOf p0).1) 0))))) i).toNat : Int) = 77)) then c2_6 else (bif (decide (((byteAt (impl_actFields (IntKind.i64.wrap (1 + (slices_Index_string gl0 (nth ((impl_PartsOf p0).1) 0))))) i).toNat : Int) = 67)) then ((impl_ReadCall v7).1.A) else c2_6)))), .v (.int .i64 (bif (decide (((byteAt (impl_actFields (IntKind.i64.wrap (1 + (slices_Index_string gl0 (nth ((impl_PartsOf p0).1) 0))))) i).toNat : Int) = 78)) then c2_7 else (bif (decide (((byteAt (impl_actFields (IntKind.i64.wrap (1 + (slices_Index_string gl0 (nth ((impl_PartsOf p0).1) 0))))) i).toNat : Int) = 77)) then c2_7 else (bif (decide (((byteAt (impl_actFields (IntKind.i64.wrap (1 + (slices_Index_string gl0 (nth ((impl_PartsOf p0).1) 0))))) i).toNat : Int) = 67)) then ((impl_ReadCall v7).1.B) else c2_7)))), .v (.string (bif (decide (((byteAt (impl_actFields (IntKind.i64.wrap (1 + (slices_Index_string gl0 (nth ((impl_PartsOf p0).1) 0))))) i).toNat : Int) = 78)) then c2_8 else (bif (decide (((byteAt (impl_actFields (IntKind.i64.wrap (1 + (slices_Index_string gl0 (nth ((impl_PartsOf p0).1) 0))))) i).toNat : Int) = 77)) then c2_8 else (bif (decide (((byteAt (impl_actFields (IntKind.i64.wrap (1 + (slices_Index_string gl0 (nth ((impl_PartsOf p0).1) 0))))) i).toNat : Int) = 67)) then ((impl_ReadCall v7).1.Text) else c2_8))))] 56), (3, .ros ByteArray instDatByteArray (bif (decide (((byteAt (impl_actFields (IntKind.i64.wrap (1 + (slices_Index_string gl0 (nth ((impl_PartsOf p0).1) 0))))) i).toNat : Int) = 78)) then (cutL v7 1 v7.length) else (bif (decide (((byteAt (impl_actFields (IntKind.i64.wrap (1 + (slices_Index_string gl0 (nth ((impl_PartsOf p0).1) 0))))) i).toNat : Int) = 77)) then (cutL v7 1 v7.length) else v7))), (4, .itr (impl_actFields (IntKind.i64.wrap (1 + (slices_Index_string gl0 (nth ((impl_PartsOf p0).1) 0))))) (i + 1))]⟩ ?_ ?_
        · refine cd (fun h8 => ?_) (fun h8 => ?_)
          ·
            refine ad 3 ?_
            refine op (ix (xs := v7) 0 om) ?_
            refine ad 1 ?_
            refine op (cl (c_impl_ReadDecimal (nth v7 0) (by first | assumption | exact om)) fok85) ?_
            refine ad 8 ?_
            refine op (pa 1 v7.length (hh := rfl)) ?_
            refine ad 2 ?_
            exact Run.at [0, 1, 2, 6, 3] [2, 3, 4, 0, 5] (by first | exact su | (rw [h8]; exact su)) (by decide)
          ·
            refine ad 5 ?_
            refine Run.mid ⟨90, 5, [(2, .pt 0 0), (4, .sl 1 (((impl_PartsOf p0).1).length)), (6, .pt 2 0), (7, .sl 3 ((bif (decide (((byteAt (impl_actFields (IntKind.i64.wrap (1 + (slices_Index_string gl0 (nth ((impl_PartsOf p0).1) 0))))) i).toNat : Int) = 77)) then (cutL v7 1 v7.length) else v7).length)), (37, .pt 4 0)], [(0, .var [.v (.int .i64 0), .v (.int .i64 0), .v (.int .i64 0), .v (.int .i64 0), .v (.string ⟨#[]⟩), .v (.string ⟨#[]⟩), .v (.int .i64 0), .v (.int .i64 0), .v (.string ⟨#[]⟩)] 56), (1, .ros ByteArray instDatByteArray ((impl_PartsOf p0).1)), (2, .var [.v (.int .i64 (IntKind.i64.wrap (1 + (slices_Index_string gl0 (nth ((impl_PartsOf p0).1) 0))))), .v (.int .i64 c2_1), .v (.int .i64 (bif (decide (((byteAt (impl_actFields (IntKind.i64.wrap (1 + (slices_Index_string gl0 (nth ((impl_PartsOf p0).1) 0))))) i).toNat : Int) = 77)) then ((impl_ReadDecimal (nth v7 0)).1) else c2_2)), .v (.int .i64 (bif (decide (((byteAt (impl_actFields (IntKind.i64.wrap (1 + (slices_Index_string gl0 (nth ((impl_PartsOf p0).1) 0))))) i).toNat : Int) = 77)) then c2_3 else (bif (decide (((byteAt (impl_actFields (IntKind.i64.wrap (1 + (slices_Index_string gl0 (nth ((impl_PartsOf p0).1) 0))))) i).toNat : Int) = 67)) then ((impl_ReadCall v7).1.Kind) else c2_3))), .v (.string (bif (decide (((byteAt (impl_actFields (IntKind.i64.wrap (1 + (slices_Index_string gl0 (nth ((impl_PartsOf p0).1) 0))))) i).toNat : Int) = 77)) then c2_4 else (bif (decide (((byteAt (impl_actFields (IntKind.i64.wrap (1 + (slices_Index_string gl0 (nth ((impl_PartsOf p0).1) 0))))) i).toNat : Int) = 67)) then ((impl_ReadCall v7).1.Name) else c2_4))), .v (.string (bif (decide (((byteAt (impl_actFields (IntKind.i64.wrap (1 + (slices_Index_string gl0 (nth ((impl_PartsOf p0).1) 0))))) i).toNat : Int) = 77)) then c2_5 else (bif (decide (((byteAt (impl_actFields (IntKind.i64.wrap (1 + (slices_Index_string gl0 (nth ((impl_PartsOf p0).1) 0))))) i).toNat : Int) = 67)) then ((impl_ReadCall v7).1.To) else c2_5))), .v (.int .i64 (bif (decide (((byteAt (impl_actFields (IntKind.i64.wrap (1 + (slices_Index_string gl0 (nth ((impl_PartsOf p0).1) 0))))) i).toNat : Int) = 77)) then c2_6 else (bif (decide (((byteAt (impl_actFields (IntKind.i64.wrap (1 + (slices_Index_string gl0 (nth ((impl_PartsOf p0).1) 0))))) i).toNat : Int) = 67)) then ((impl_ReadCall v7).1.A) else c2_6))), .v (.int .i64 (bif (decide (((byteAt (impl_actFields (IntKind.i64.wrap (1 + (slices_Index_string gl0 (nth ((impl_PartsOf p0).1) 0))))) i).toNat : Int) = 77)) then c2_7 else (bif (decide (((byteAt (impl_actFields (IntKind.i64.wrap (1 + (slices_Index_string gl0 (nth ((impl_PartsOf p0).1) 0))))) i).toNat : Int) = 67)) then ((impl_ReadCall v7).1.B) else c2_7))), .v (.string (bif (decide (((byteAt (impl_actFields (IntKind.i64.wrap (1 + (slices_Index_string gl0 (nth ((impl_PartsOf p0).1) 0))))) i).toNat : Int) = 77)) then c2_8 else (bif (decide (((byteAt (impl_actFields (IntKind.i64.wrap (1 + (slices_Index_string gl0 (nth ((impl_PartsOf p0).1) 0))))) i).toNat : Int) = 67)) then ((impl_ReadCall v7).1.Text) else c2_8)))] 56), (3, .ros ByteArray instDatByteArray (bif (decide (((byteAt (impl_actFields (IntKind.i64.wrap (1 + (slices_Index_string gl0 (nth ((impl_PartsOf p0).1) 0))))) i).toNat : Int) = 77)) then (cutL v7 1 v7.length) else v7)), (4, .itr (impl_actFields (IntKind.i64.wrap (1 + (slices_Index_string gl0 (nth ((impl_PartsOf p0).1) 0))))) (i + 1))]⟩ ?_ ?_
            · refine cd (fun h10 => ?_) (fun h10 => ?_)
              ·
                refine ad 3 ?_
                refine op (ix (xs := v7) 0 om) ?_
                refine ad 1 ?_
                refine op (cl (c_impl_ReadDecimal (nth v7 0) (by first | assumption | exact om)) fok85) ?_
                refine ad 8 ?_
                refine op (pa 1 v7.length (hh := rfl)) ?_
                refine ad 2 ?_
                exact Run.at [0, 1, 2, 6, 3] [2, 3, 4, 0, 5] (by first | exact su | (rw [h10]; exact su)) (by decide)
              ·
                refine ad 5 ?_
                refine Run.mid ⟨90, 5, [(2, .pt 0 0), (4, .sl 1 (((impl_PartsOf p0).1).length)), (6, .pt 2 0), (7, .sl 3 v7.length), (37, .pt 4 0)], [(0, .var [.v (.int .i64 0), .v (.int .i64 0), .v (.int .i64 0), .v (.int .i64 0), .v (.string ⟨#[]⟩), .v (.string ⟨#[]⟩), .v (.int .i64 0), .v (.int .i64 0), .v (.string ⟨#[]⟩)] 56), (1, .ros ByteArray instDatByteArray ((impl_PartsOf p0).1)), (2, .var [.v (.int .i64 (IntKind.i64.wrap (1 + (slices_Index_string gl0 (nth ((impl_PartsOf p0).1) 0))))), .v (.int .i64 c2_1), .v (.int .i64 c2_2), .v (.int .i64 (bif (decide (((byteAt (impl_actFields (IntKind.i64.wrap (1 + (slices_Index_string gl0 (nth ((impl_PartsOf p0).1) 0))))) i).toNat : Int) = 67)) then ((impl_ReadCall v7).1.Kind) else c2_3)), .v (.string (bif (decide (((byteAt (impl_actFields (IntKind.i64.wrap (1 + (slices_Index_string gl0 (nth ((impl_PartsOf p0).1) 0))))) i).toNat : Int) = 67)) then ((impl_ReadCall v7).1.Name) else c2_4)), .v (.string (bif (decide (((byteAt (impl_actFields (IntKind.i64.wrap (1 + (slices_Index_string gl0 (nth ((impl_PartsOf p0).1) 0))))) i).toNat : Int) = 67)) then ((impl_ReadCall v7).1.To) else c2_5)), .v (.int .i64 (bif (decide (((byteAt (impl_actFields (IntKind.i64.wrap (1 + (slices_Index_string gl0 (nth ((impl_PartsOf p0).1) 0))))) i).toNat : Int) = 67)) then ((impl_ReadCall v7).1.A) else c2_6)), .v (.int .i64 (bif (decide (((byteAt (impl_actFields (IntKind.i64.wrap (1 + (slices_Index_string gl0 (nth ((impl_PartsOf p0).1) 0))))) i).toNat : Int) = 67)) then ((impl_ReadCall v7).1.B) else c2_7)), .v (.string (bif (decide (((byteAt (impl_actFields (IntKind.i64.wrap (1 + (slices_Index_string gl0 (nth ((impl_PartsOf p0).1) 0))))) i).toNat : Int) = 67)) then ((impl_ReadCall v7).1.Text) else c2_8))] 56), (3, .ros ByteArray instDatByteArray v7), (4, .itr (impl_actFields (IntKind.i64.wrap (1 + (slices_Index_string gl0 (nth ((impl_PartsOf p0).1) 0))))) (i + 1))]⟩ ?_ ?_
                · refine cd (fun h12 => ?_) (fun h12 => ?_)
                  ·
                    refine ad 2 ?_
                    refine og (clg (c_impl_ReadCall v7 (by first | exact parts_small _ | assumption)) fok28) fun hgq => ?_
                    obtain ⟨hg13, _⟩ := hgq
                    refine ad 6 ?_
                    exact Run.at [0, 1, 2, 4, 3] [0, 1, 2, 4, 3] (by first | exact su | (rw [h12]; exact su)) (by decide)
                  ·
                    refine ad 1 ?_
                    exact Run.at [0, 1, 2, 4, 3] [0, 1, 2, 4, 3] (by first | exact su | (rw [h12]; exact su)) (by decide)
                exact Run.at [0, 1, 2, 3, 4] [0, 1, 2, 3, 4] (by first | exact su | (rw [h10]; exact su)) (by decide)
            exact Run.at [0, 1, 2, 3, 4] [0, 1, 2, 3, 4] (by first | exact su | (rw [h8]; exact su)) (by decide)
        refine ad 2 ?_
        exact Run.again (bif (decide (((byteAt (impl_actFields (IntKind.i64.wrap (1 + (slices_Index_string gl0 (nth ((impl_PartsOf p0).1) 0))))) i).toNat : Int) = 78)) then ((impl_ReadDecimal (nth v7 0)).1) else c2_1, bif (decide (((byteAt (impl_actFields (IntKind.i64.wrap (1 + (slices_Index_string gl0 (nth ((impl_PartsOf p0).1) 0))))) i).toNat : Int) = 78)) then c2_2 else (bif (decide (((byteAt (impl_actFields (IntKind.i64.wrap (1 + (slices_Index_string gl0 (nth ((impl_PartsOf p0).1) 0))))) i).toNat : Int) = 77)) then ((impl_ReadDecimal (nth v7 0)).1) else c2_2), bif (decide (((byteAt (impl_actFields (IntKind.i64.wrap (1 + (slices_Index_string gl0 (nth ((impl_PartsOf p0).1) 0))))) i).toNat : Int) = 78)) then c2_3 else (bif (decide (((byteAt (impl_actFields (IntKind.i64.wrap (1 + (slices_Index_string gl0 (nth ((impl_PartsOf p0).1) 0))))) i).toNat : Int) = 77)) then c2_3 else (bif (decide (((byteAt (impl_actFields (IntKind.i64.wrap (1 + (slices_Index_string gl0 (nth ((impl_PartsOf p0).1) 0))))) i).toNat : Int) = 67)) then ((impl_ReadCall v7).1.Kind) else c2_3)), bif (decide (((byteAt (impl_actFields (IntKind.i64.wrap (1 + (slices_Index_string gl0 (nth ((impl_PartsOf p0).1) 0))))) i).toNat : Int) = 78)) then c2_4 else (bif (decide (((byteAt (impl_actFields (IntKind.i64.wrap (1 + (slices_Index_string gl0 (nth ((impl_PartsOf p0).1) 0))))) i).toNat : Int) = 77)) then c2_4 else (bif (decide (((byteAt (impl_actFields (IntKind.i64.wrap (1 + (slices_Index_string gl0 (nth ((impl_PartsOf p0).1) 0))))) i).toNat : Int) = 67)) then ((impl_ReadCall v7).1.Name) else c2_4)), bif (decide (((byteAt (impl_actFields (IntKind.i64.wrap (1 + (slices_Index_string gl0 (nth ((impl_PartsOf p0).1) 0))))) i).toNat : Int) = 78)) then c2_5 else (bif (decide (((byteAt (impl_actFields (IntKind.i64.wrap (1 + (slices_Index_string gl0 (nth ((impl_PartsOf p0).1) 0))))) i).toNat : Int) = 77)) then c2_5 else (bif (decide (((byteAt (impl_actFields (IntKind.i64.wrap (1 + (slices_Index_string gl0 (nth ((impl_PartsOf p0).1) 0))))) i).toNat : Int) = 67)) then ((impl_ReadCall v7).1.To) else c2_5)), bif (decide (((byteAt (impl_actFields (IntKind.i64.wrap (1 + (slices_Index_string gl0 (nth ((impl_PartsOf p0).1) 0))))) i).toNat : Int) = 78)) then c2_6 else (bif (decide (((byteAt (impl_actFields (IntKind.i64.wrap (1 + (slices_Index_string gl0 (nth ((impl_PartsOf p0).1) 0))))) i).toNat : Int) = 77)) then c2_6 else (bif (decide (((byteAt (impl_actFields (IntKind.i64.wrap (1 + (slices_Index_string gl0 (nth ((impl_PartsOf p0).1) 0))))) i).toNat : Int) = 67)) then ((impl_ReadCall v7).1.A) else c2_6)), bif (decide (((byteAt (impl_actFields (IntKind.i64.wrap (1 + (slices_Index_string gl0 (nth ((impl_PartsOf p0).1) 0))))) i).toNat : Int) = 78)) then c2_7 else (bif (decide (((byteAt (impl_actFields (IntKind.i64.wrap (1 + (slices_Index_string gl0 (nth ((impl_PartsOf p0).1) 0))))) i).toNat : Int) = 77)) then c2_7 else (bif (decide (((byteAt (impl_actFields (IntKind.i64.wrap (1 + (slices_Index_string gl0 (nth ((impl_PartsOf p0).1) 0))))) i).toNat : Int) = 67)) then ((impl_ReadCall v7).1.B) else c2_7)), bif (decide (((byteAt (impl_actFields (IntKind.i64.wrap (1 + (slices_Index_string gl0 (nth ((impl_PartsOf p0).1) 0))))) i).toNat : Int) = 78)) then c2_8 else (bif (decide (((byteAt (impl_actFields (IntKind.i64.wrap (1 + (slices_Index_string gl0 (nth ((impl_PartsOf p0).1) 0))))) i).toNat : Int) = 77)) then c2_8 else (bif (decide (((byteAt (impl_actFields (IntKind.i64.wrap (1 + (slices_Index_string gl0 (nth ((impl_PartsOf p0).1) 0))))) i).toNat : Int) = 67)) then ((impl_ReadCall v7).1.Text) else c2_8)), (i + 1), bif (decide (((byteAt (impl_actFields (IntKind.i64.wrap (1 + (slices_Index_string gl0 (nth ((impl_PartsOf p0).1) 0))))) i).toNat : Int) = 78)) then (cutL v7 1 v7.length) else (bif (decide (((byteAt (impl_actFields (IntKind.i64.wrap (1 + (slices_Index_string gl0 (nth ((impl_PartsOf p0).1) 0))))) i).toNat : Int) = 77)) then (cutL v7 1 v7.length) else v7)) [0, 1, 2, 4, 3] [0, 1, 2, 4, 3] ⟨by exact ⟨by (try dsimp only); first | omega | exact trivial, by exact small_bif (small_drop (by assumption) 1) (small_bif (small_drop (by assumption) 1) (by assumption)), (bifI (impl_ReadDecimal_I64 _) hg_c2_1), (bifI hg_c2_2 (bifI (impl_ReadDecimal_I64 _) hg_c2_2)), (bifI hg_c2_3 (bifI hg_c2_3 (bifI (impl_ReadCall_gs v7).1 hg_c2_3))), (bifS hg_c2_4 (bifS hg_c2_4 (bifS (impl_ReadCall_gs v7).2.1 hg_c2_4))), (bifS hg_c2_5 (bifS hg_c2_5 (bifS (impl_ReadCall_gs v7).2.2.1 hg_c2_5))), (bifI hg_c2_6 (bifI hg_c2_6 (bifI (impl_ReadCall_gs v7).2.2.2.1 hg_c2_6))), (bifI hg_c2_7 (bifI hg_c2_7 (bifI (impl_ReadCall_gs v7).2.2.2.2.1 hg_c2_7))), (bifS hg_c2_8 (bifS hg_c2_8 (bifS (impl_ReadCall_gs v7).2.2.2.2.2 hg_c2_8)))⟩, hM⟩ rfl (by show _ - _ < _ - _; (try dsimp only); omega) su (by decide)
    ·
      have hM := hE.trans ((congrArg (fun n => impl_ReadAct_l1 p0 n c2_1 c2_2 c2_3 c2_4 c2_5 c2_6 c2_7 c2_8 i v7) (show ((impl_actFields (IntKind.i64.wrap (1 + (slices_Index_string gl0 (nth ((impl_PartsOf p0).1) 0))))).size) - i = 0 by omega)).trans (impl_ReadAct_l1.eq_1 _ _ _ _ _ _ _ _ _ _ _))
      refine ad 8 ?_
      have hg14 : Dat.good (Deed.mk (IntKind.i64.wrap (1 + (slices_Index_string gl0 (nth ((impl_PartsOf p0).1) 0)))) c2_1 c2_2 (Call.mk c2_3 c2_4 c2_5 c2_6 c2_7 c2_8) : Deed) := ⟨(I64_wrap _), hg_c2_1, hg_c2_2, (good_Call hg_c2_3 hg_c2_4 hg_c2_5 hg_c2_6 hg_c2_7 hg_c2_8)⟩
      have hs15 := impl_ActLine_size (a := (Deed.mk (IntKind.i64.wrap (1 + (slices_Index_string gl0 (nth ((impl_PartsOf p0).1) 0)))) c2_1 c2_2 (Call.mk c2_3 c2_4 c2_5 c2_6 c2_7 c2_8))) (by assumption)
      refine op (cl (c_impl_ActLine (Deed.mk (IntKind.i64.wrap (1 + (slices_Index_string gl0 (nth ((impl_PartsOf p0).1) 0)))) c2_1 c2_2 (Call.mk c2_3 c2_4 c2_5 c2_6 c2_7 c2_8))) fok23) ?_
      refine og (clg (c_impl_PartsOf (impl_ActLine (Deed.mk (IntKind.i64.wrap (1 + (slices_Index_string gl0 (nth ((impl_PartsOf p0).1) 0)))) c2_1 c2_2 (Call.mk c2_3 c2_4 c2_5 c2_6 c2_7 c2_8))) szt) fok33) fun hgq => ?_
      obtain ⟨hg16, _⟩ := hgq
      refine ad 11 ?_
      refine op (cl (c_slices_Equal_string ((impl_PartsOf (impl_ActLine (Deed.mk (IntKind.i64.wrap (1 + (slices_Index_string gl0 (nth ((impl_PartsOf p0).1) 0)))) c2_1 c2_2 (Call.mk c2_3 c2_4 c2_5 c2_6 c2_7 c2_8)))).1) ((impl_PartsOf p0).1)) fok77) ?_
      refine ad 2 ?_
      refine cd (fun h17 => ?_) (fun h17 => ?_)
      ·
        have hM := hM.trans (bt h17)
        refine ad 6 ?_
        have hg18 : Dat.good (Deed.mk 0 0 0 (Call.mk 0 ⟨#[]⟩ ⟨#[]⟩ 0 0 ⟨#[]⟩) : Deed) := ⟨(gi 0), (gi 0), (gi 0), (good_Call (gi 0) (gs ⟨#[]⟩) (gs ⟨#[]⟩) (gi 0) (gi 0) (gs ⟨#[]⟩))⟩
        exact rz (rs := [.cell 2 56, .tmp 3]) (congrArg (fun x => [Re.st Deed _ inferInstance x.1, Re.c (.bool x.2)]) hM)
      ·
        have hM := hM.trans (bf h17)
        refine ad 7 ?_
        exact rz (rs := [.cell 2 56, .tmp 3]) (congrArg (fun x => [Re.st Deed _ inferInstance x.1, Re.c (.bool x.2)]) hM)

/- F31 loop.example/g00974/spec.ReadAct -/
def spec_ReadAct_l1 (p0 : ByteArray) : Nat → Int → Nat → Deed × Bool
  | 0, c2_0, i => bif (decide ((spec_ActLine (Deed.mk c2_0 (spec_l38Num ((spec_PartsOf p0).1) 1) (bif ((decide (c2_0 = 2)) || (decide (c2_0 = 7))) then 0 else (bif (decide (c2_0 = 4)) then (spec_l38Num ((spec_PartsOf p0).1) 2) else 0)) (Call.mk (bif ((decide (c2_0 = 2)) || (decide (c2_0 = 7))) then (bif (decide ((((spec_PartsOf p0).1).length : Int) > 2)) then ((spec_ReadCall (cutL ((spec_PartsOf p0).1) 2 (((spec_PartsOf p0).1).length))).1.Kind) else 0) else 0) (bif ((decide (c2_0 = 2)) || (decide (c2_0 = 7))) then (bif (decide ((((spec_PartsOf p0).1).length : Int) > 2)) then ((spec_ReadCall (cutL ((spec_PartsOf p0).1) 2 (((spec_PartsOf p0).1).length))).1.Name) else ⟨#[]⟩) else ⟨#[]⟩) (bif ((decide (c2_0 = 2)) || (decide (c2_0 = 7))) then (bif (decide ((((spec_PartsOf p0).1).length : Int) > 2)) then ((spec_ReadCall (cutL ((spec_PartsOf p0).1) 2 (((spec_PartsOf p0).1).length))).1.To) else ⟨#[]⟩) else ⟨#[]⟩) (bif ((decide (c2_0 = 2)) || (decide (c2_0 = 7))) then (bif (decide ((((spec_PartsOf p0).1).length : Int) > 2)) then ((spec_ReadCall (cutL ((spec_PartsOf p0).1) 2 (((spec_PartsOf p0).1).length))).1.A) else 0) else 0) (bif ((decide (c2_0 = 2)) || (decide (c2_0 = 7))) then (bif (decide ((((spec_PartsOf p0).1).length : Int) > 2)) then ((spec_ReadCall (cutL ((spec_PartsOf p0).1) 2 (((spec_PartsOf p0).1).length))).1.B) else 0) else 0) (bif ((decide (c2_0 = 2)) || (decide (c2_0 = 7))) then (bif (decide ((((spec_PartsOf p0).1).length : Int) > 2)) then ((spec_ReadCall (cutL ((spec_PartsOf p0).1) 2 (((spec_PartsOf p0).1).length))).1.Text) else ⟨#[]⟩) else ⟨#[]⟩)))) = ⟨#[]⟩)) || (!decide ((spec_ActLine (Deed.mk c2_0 (spec_l38Num ((spec_PartsOf p0).1) 1) (bif ((decide (c2_0 = 2)) || (decide (c2_0 = 7))) then 0 else (bif (decide (c2_0 = 4)) then (spec_l38Num ((spec_PartsOf p0).1) 2) else 0)) (Call.mk (bif ((decide (c2_0 = 2)) || (decide (c2_0 = 7))) then (bif (decide ((((spec_PartsOf p0).1).length : Int) > 2)) then ((spec_ReadCall (cutL ((spec_PartsOf p0).1) 2 (((spec_PartsOf p0).1).length))).1.Kind) else 0) else 0) (bif ((decide (c2_0 = 2)) || (decide (c2_0 = 7))) then (bif (decide ((((spec_PartsOf p0).1).length : Int) > 2)) then ((spec_ReadCall (cutL ((spec_PartsOf p0).1) 2 (((spec_PartsOf p0).1).length))).1.Name) else ⟨#[]⟩) else ⟨#[]⟩) (bif ((decide (c2_0 = 2)) || (decide (c2_0 = 7))) then (bif (decide ((((spec_PartsOf p0).1).length : Int) > 2)) then ((spec_ReadCall (cutL ((spec_PartsOf p0).1) 2 (((spec_PartsOf p0).1).length))).1.To) else ⟨#[]⟩) else ⟨#[]⟩) (bif ((decide (c2_0 = 2)) || (decide (c2_0 = 7))) then (bif (decide ((((spec_PartsOf p0).1).length : Int) > 2)) then ((spec_ReadCall (cutL ((spec_PartsOf p0).1) 2 (((spec_PartsOf p0).1).length))).1.A) else 0) else 0) (bif ((decide (c2_0 = 2)) || (decide (c2_0 = 7))) then (bif (decide ((((spec_PartsOf p0).1).length : Int) > 2)) then ((spec_ReadCall (cutL ((spec_PartsOf p0).1) 2 (((spec_PartsOf p0).1).length))).1.B) else 0) else 0) (bif ((decide (c2_0 = 2)) || (decide (c2_0 = 7))) then (bif (decide ((((spec_PartsOf p0).1).length : Int) > 2)) then ((spec_ReadCall (cutL ((spec_PartsOf p0).1) 2 (((spec_PartsOf p0).1).length))).1.Text) else ⟨#[]⟩) else ⟨#[]⟩)))) = (spec_l38Join ((spec_PartsOf p0).1)))) then ((Deed.mk 0 0 0 (Call.mk 0 ⟨#[]⟩ ⟨#[]⟩ 0 0 ⟨#[]⟩)), false) else ((Deed.mk c2_0 (spec_l38Num ((spec_PartsOf p0).1) 1) (bif ((decide (c2_0 = 2)) || (decide (c2_0 = 7))) then 0 else (bif (decide (c2_0 = 4)) then (spec_l38Num ((spec_PartsOf p0).1) 2) else 0)) (Call.mk (bif ((decide (c2_0 = 2)) || (decide (c2_0 = 7))) then (bif (decide ((((spec_PartsOf p0).1).length : Int) > 2)) then ((spec_ReadCall (cutL ((spec_PartsOf p0).1) 2 (((spec_PartsOf p0).1).length))).1.Kind) else 0) else 0) (bif ((decide (c2_0 = 2)) || (decide (c2_0 = 7))) then (bif (decide ((((spec_PartsOf p0).1).length : Int) > 2)) then ((spec_ReadCall (cutL ((spec_PartsOf p0).1) 2 (((spec_PartsOf p0).1).length))).1.Name) else ⟨#[]⟩) else ⟨#[]⟩) (bif ((decide (c2_0 = 2)) || (decide (c2_0 = 7))) then (bif (decide ((((spec_PartsOf p0).1).length : Int) > 2)) then ((spec_ReadCall (cutL ((spec_PartsOf p0).1) 2 (((spec_PartsOf p0).1).length))).1.To) else ⟨#[]⟩) else ⟨#[]⟩) (bif ((decide (c2_0 = 2)) || (decide (c2_0 = 7))) then (bif (decide ((((spec_PartsOf p0).1).length : Int) > 2)) then ((spec_ReadCall (cutL ((spec_PartsOf p0).1) 2 (((spec_PartsOf p0).1).length))).1.A) else 0) else 0) (bif ((decide (c2_0 = 2)) || (decide (c2_0 = 7))) then (bif (decide ((((spec_PartsOf p0).1).length : Int) > 2)) then ((spec_ReadCall (cutL ((spec_PartsOf p0).1) 2 (((spec_PartsOf p0).1).length))).1.B) else 0) else 0) (bif ((decide (c2_0 = 2)) || (decide (c2_0 = 7))) then (bif (decide ((((spec_PartsOf p0).1).length : Int) > 2)) then ((spec_ReadCall (cutL ((spec_PartsOf p0).1) 2 (((spec_PartsOf p0).1).length))).1.Text) else ⟨#[]⟩) else ⟨#[]⟩))), true)
  | n + 1, c2_0, i => spec_ReadAct_l1 p0 n (bif (decide ((spec_ActName (i : Int)) = (nth ((spec_PartsOf p0).1) 0))) then (i : Int) else c2_0) (i + 1)
def spec_ReadAct (p0 : ByteArray) : Deed × Bool := bif (!((spec_PartsOf p0).2)) || (decide ((((spec_PartsOf p0).1).length : Int) = 0)) then ((Deed.mk 0 0 0 (Call.mk 0 ⟨#[]⟩ ⟨#[]⟩ 0 0 ⟨#[]⟩)), false) else (spec_ReadAct_l1 p0 (13 - 1) 0 1)
theorem c_spec_ReadAct (p0 : ByteArray) : CTs 31 [.o (.c (.string p0))] [Re.st Deed _ inferInstance ((spec_ReadAct p0).1), Re.c (.bool ((spec_ReadAct p0).2))] := by
  refine en Tryz.func31 Tryz.ntmps31 fun w hG hgd => ?_
  have hM := spec_ReadAct.eq_1 p0
  refine ad 8 ?_
  refine og (clg (c_spec_PartsOf p0) fok93) fun hgq => ?_
  obtain ⟨hg1, _⟩ := hgq
  refine ad 12 ?_
  refine ag 4 ?_
  refine ad 1 ?_
  refine cd (fun h2 => ?_) (fun h2 => ?_)
  ·
    have hM := hM.trans (bt h2)
    refine ad 6 ?_
    have hg3 : Dat.good (Deed.mk 0 0 0 (Call.mk 0 ⟨#[]⟩ ⟨#[]⟩ 0 0 ⟨#[]⟩) : Deed) := ⟨(gi 0), (gi 0), (gi 0), (good_Call (gi 0) (gs ⟨#[]⟩) (gs ⟨#[]⟩) (gi 0) (gi 0) (gs ⟨#[]⟩))⟩
    exact rz (rs := [.cell 2 56, .tmp 3]) (congrArg (fun x => [Re.st Deed _ inferInstance x.1, Re.c (.bool x.2)]) hM)
  ·
    have hM := hM.trans (bf h2)
    refine ad 4 ?_
    refine op (cl (c_spec_l38Num ((spec_PartsOf p0).1) 1 (by omega)) fok99) ?_
    refine ad 10 ?_
    refine fz 1 ?_
    refine Run.loopM (ι := Int × Nat) (fun s => spec_ReadAct_l1 p0 (13 - s.2) s.1 s.2) (fun s => ⟨69, 3, [(2, .pt 0 0), (4, .sl 1 (((spec_PartsOf p0).1).length)), (6, .pt 2 0), (7, .v (.int .i64 (s.2 : Int)))], [(0, .var [.v (.int .i64 0), .v (.int .i64 0), .v (.int .i64 0), .v (.int .i64 0), .v (.string ⟨#[]⟩), .v (.string ⟨#[]⟩), .v (.int .i64 0), .v (.int .i64 0), .v (.string ⟨#[]⟩)] 56), (1, .ros ByteArray instDatByteArray ((spec_PartsOf p0).1)), (2, .var [.v (.int .i64 s.1), .v (.int .i64 (spec_l38Num ((spec_PartsOf p0).1) 1)), .v (.int .i64 0), .v (.int .i64 0), .v (.string ⟨#[]⟩), .v (.string ⟨#[]⟩), .v (.int .i64 0), .v (.int .i64 0), .v (.string ⟨#[]⟩)] 56)]⟩) (fun s => s.2 ≤ 13 ∧ I64 s.1) (fun s => 13 - s.2) (0, 1) [0, 1, 2] [2, 1, 0] hM (by exact ⟨by (try dsimp only); first | omega | exact trivial, (gi 0)⟩) su (by decide) ?_
    rintro ⟨c2_0, i⟩ hv hE
    try dsimp only at hE
    obtain ⟨hi, hg_c2_0⟩ := hv
    try dsimp only at hi hg_c2_0
    refine ad 6 ?_
    refine cd (fun h4 => ?_) (fun h4 => ?_)
    ·
      have h4l : i < 13 := by have := of_decide_eq_true h4; omega
      have hM := hE.trans ((congrArg (fun n => spec_ReadAct_l1 p0 n c2_0 i) (show 13 - i = (13 - (i + 1)) + 1 by omega)).trans (spec_ReadAct_l1.eq_2 _ _ _ _))
      refine ad 4 ?_
      refine dr 6 fun _ _ _ _ _ hb => ?_
      refine tk [0, 2] ?_
      have hg5 := good_nth (k := 0) hg1 om
      refine tx 3 (dx (xs := (spec_PartsOf p0).1) 0 om) ?_
      refine tk [4] ?_
      refine on 1 [1, 2, 3] (cl (c_spec_ActName (i : Int)) fok37) ?_
      refine tk [5] ?_
      refine dn hb ?_
      refine Run.mid ⟨69, 3, [(2, .pt 0 0), (4, .sl 1 (((spec_PartsOf p0).1).length)), (6, .pt 2 0), (7, .v (.int .i64 (i : Int)))], [(0, .var [.v (.int .i64 0), .v (.int .i64 0), .v (.int .i64 0), .v (.int .i64 0), .v (.string ⟨#[]⟩), .v (.string ⟨#[]⟩), .v (.int .i64 0), .v (.int .i64 0), .v (.string ⟨#[]⟩)] 56), (1, .ros ByteArray instDatByteArray ((spec_PartsOf p0).1)), (2, .var [.v (.int .i64 (bif (decide ((spec_ActName (i : Int)) = (nth ((spec_PartsOf p0).1) 0))) then (i : Int) else c2_0)), .v (.int .i64 (spec_l38Num ((spec_PartsOf p0).1) 1)), .v (.int .i64 0), .v (.int .i64 0), .v (.string ⟨#[]⟩), .v (.string ⟨#[]⟩), .v (.int .i64 0), .v (.int .i64 0), .v (.string ⟨#[]⟩)] 56)]⟩ ?_ ?_
      · refine cd (fun h6 => ?_) (fun h6 => ?_)
        ·
          refine ad 5 ?_
          exact Run.at [0, 1, 2] [1, 2, 3] (by first | exact su | (rw [h6]; exact su)) (by decide)
        ·
          refine ad 1 ?_
          exact Run.at [0, 1, 2] [1, 2, 3] (by first | exact su | (rw [h6]; exact su)) (by decide)
      refine ad 4 ?_
      rw [wrapN (i := i) (by first | omega | exact om)]
      refine ad 2 ?_
      exact Run.again (bif (decide ((spec_ActName (i : Int)) = (nth ((spec_PartsOf p0).1) 0))) then (i : Int) else c2_0, (i + 1)) [0, 1, 2] [0, 1, 2] ⟨by exact ⟨by (try dsimp only); first | omega | exact trivial, (bifI (gn i (by omega)) hg_c2_0)⟩, hM⟩ rfl (by show _ - _ < _ - _; (try dsimp only); omega) su (by decide)
    ·
      have h4l : ¬ (i < 13) := by have := of_decide_eq_false h4; omega
      have hM := hE.trans ((congrArg (fun n => spec_ReadAct_l1 p0 n c2_0 i) (show 13 - i = 0 by omega)).trans (spec_ReadAct_l1.eq_1 _ _ _))
      refine ad 14 ?_
      refine Run.mid ⟨69, 3, [(2, .pt 0 0), (4, .sl 1 (((spec_PartsOf p0).1).length)), (6, .pt 2 0), (38, .v (.int .i64 c2_0)), (39, .v (.bool ((decide (c2_0 = 2)) || (decide (c2_0 = 7)))))], [(0, .var [.v (.int .i64 0), .v (.int .i64 0), .v (.int .i64 0), .v (.int .i64 0), .v (.string ⟨#[]⟩), .v (.string ⟨#[]⟩), .v (.int .i64 0), .v (.int .i64 0), .v (.string ⟨#[]⟩)] 56), (1, .ros ByteArray instDatByteArray ((spec_PartsOf p0).1)), (2, .var [.v (.int .i64 c2_0), .v (.int .i64 (spec_l38Num ((spec_PartsOf p0).1) 1)), .v (.int .i64 0), .v (.int .i64 0), .v (.string ⟨#[]⟩), .v (.string ⟨#[]⟩), .v (.int .i64 0), .v (.int .i64 0), .v (.string ⟨#[]⟩)] 56)]⟩ ?_ ?_
      · refine cd (fun h7 => ?_) (fun h7 => ?_)
        ·
          refine ad 1 ?_
          exact Run.at [0, 1, 2] [0, 1, 2] (by first | exact su | (rw [h7]; exact su)) (by decide)
        ·
          refine ad 4 ?_
          exact Run.at [0, 1, 2] [0, 1, 2] (by first | exact su | (rw [h7]; exact su)) (by decide)
      refine Run.mid ⟨69, 3, [(2, .pt 0 0), (4, .sl 1 (((spec_PartsOf p0).1).length)), (6, .pt 2 0)], [(0, .var [.v (.int .i64 0), .v (.int .i64 0), .v (.int .i64 0), .v (.int .i64 0), .v (.string ⟨#[]⟩), .v (.string ⟨#[]⟩), .v (.int .i64 0), .v (.int .i64 0), .v (.string ⟨#[]⟩)] 56), (1, .ros ByteArray instDatByteArray ((spec_PartsOf p0).1)), (2, .var [.v (.int .i64 c2_0), .v (.int .i64 (spec_l38Num ((spec_PartsOf p0).1) 1)), .v (.int .i64 (bif ((decide (c2_0 = 2)) || (decide (c2_0 = 7))) then 0 else (bif (decide (c2_0 = 4)) then (spec_l38Num ((spec_PartsOf p0).1) 2) else 0))), .v (.int .i64 (bif ((decide (c2_0 = 2)) || (decide (c2_0 = 7))) then (bif (decide ((((spec_PartsOf p0).1).length : Int) > 2)) then ((spec_ReadCall (cutL ((spec_PartsOf p0).1) 2 (((spec_PartsOf p0).1).length))).1.Kind) else 0) else 0)), .v (.string (bif ((decide (c2_0 = 2)) || (decide (c2_0 = 7))) then (bif (decide ((((spec_PartsOf p0).1).length : Int) > 2)) then ((spec_ReadCall (cutL ((spec_PartsOf p0).1) 2 (((spec_PartsOf p0).1).length))).1.Name) else ⟨#[]⟩) else ⟨#[]⟩)), .v (.string (bif ((decide (c2_0 = 2)) || (decide (c2_0 = 7))) then (bif (decide ((((spec_PartsOf p0).1).length : Int) > 2)) then ((spec_ReadCall (cutL ((spec_PartsOf p0).1) 2 (((spec_PartsOf p0).1).length))).1.To) else ⟨#[]⟩) else ⟨#[]⟩)), .v (.int .i64 (bif ((decide (c2_0 = 2)) || (decide (c2_0 = 7))) then (bif (decide ((((spec_PartsOf p0).1).length : Int) > 2)) then ((spec_ReadCall (cutL ((spec_PartsOf p0).1) 2 (((spec_PartsOf p0).1).length))).1.A) else 0) else 0)), .v (.int .i64 (bif ((decide (c2_0 = 2)) || (decide (c2_0 = 7))) then (bif (decide ((((spec_PartsOf p0).1).length : Int) > 2)) then ((spec_ReadCall (cutL ((spec_PartsOf p0).1) 2 (((spec_PartsOf p0).1).length))).1.B) else 0) else 0)), .v (.string (bif ((decide (c2_0 = 2)) || (decide (c2_0 = 7))) then (bif (decide ((((spec_PartsOf p0).1).length : Int) > 2)) then ((spec_ReadCall (cutL ((spec_PartsOf p0).1) 2 (((spec_PartsOf p0).1).length))).1.Text) else ⟨#[]⟩) else ⟨#[]⟩))] 56)]⟩ ?_ ?_
      · refine cd (fun h8 => ?_) (fun h8 => ?_)
        ·
          refine ad 6 ?_
          refine Run.mid ⟨69, 3, [(2, .pt 0 0), (4, .sl 1 (((spec_PartsOf p0).1).length)), (6, .pt 2 0)], [(0, .var [.v (.int .i64 0), .v (.int .i64 0), .v (.int .i64 0), .v (.int .i64 0), .v (.string ⟨#[]⟩), .v (.string ⟨#[]⟩), .v (.int .i64 0), .v (.int .i64 0), .v (.string ⟨#[]⟩)] 56), (1, .ros ByteArray instDatByteArray ((spec_PartsOf p0).1)), (2, .var [.v (.int .i64 c2_0), .v (.int .i64 (spec_l38Num ((spec_PartsOf p0).1) 1)), .v (.int .i64 0), .v (.int .i64 (bif (decide ((((spec_PartsOf p0).1).length : Int) > 2)) then ((spec_ReadCall (cutL ((spec_PartsOf p0).1) 2 (((spec_PartsOf p0).1).length))).1.Kind) else 0)), .v (.string (bif (decide ((((spec_PartsOf p0).1).length : Int) > 2)) then ((spec_ReadCall (cutL ((spec_PartsOf p0).1) 2 (((spec_PartsOf p0).1).length))).1.Name) else ⟨#[]⟩)), .v (.string (bif (decide ((((spec_PartsOf p0).1).length : Int) > 2)) then ((spec_ReadCall (cutL ((spec_PartsOf p0).1) 2 (((spec_PartsOf p0).1).length))).1.To) else ⟨#[]⟩)), .v (.int .i64 (bif (decide ((((spec_PartsOf p0).1).length : Int) > 2)) then ((spec_ReadCall (cutL ((spec_PartsOf p0).1) 2 (((spec_PartsOf p0).1).length))).1.A) else 0)), .v (.int .i64 (bif (decide ((((spec_PartsOf p0).1).length : Int) > 2)) then ((spec_ReadCall (cutL ((spec_PartsOf p0).1) 2 (((spec_PartsOf p0).1).length))).1.B) else 0)), .v (.string (bif (decide ((((spec_PartsOf p0).1).length : Int) > 2)) then ((spec_ReadCall (cutL ((spec_PartsOf p0).1) 2 (((spec_PartsOf p0).1).length))).1.Text) else ⟨#[]⟩))] 56)]⟩ ?_ ?_
          · refine cd (fun h9 => ?_) (fun h9 => ?_)
            ·
              refine ad 2 ?_
              refine op (pa 2 (((spec_PartsOf p0).1).length) (hh := rfl)) ?_
              refine og (clg (c_spec_ReadCall (cutL ((spec_PartsOf p0).1) 2 (((spec_PartsOf p0).1).length))) fok29) fun hgq => ?_
              obtain ⟨hg10, _⟩ := hgq
              refine ad 6 ?_
              exact Run.at [0, 1, 2] [1, 2, 3] (by first | exact su | (rw [h9]; exact su)) (by decide)
            ·
              refine ad 1 ?_
              exact Run.at [0, 1, 2] [0, 1, 2] (by first | exact su | (rw [h9]; exact su)) (by decide)
          exact Run.at [0, 1, 2] [0, 1, 2] (by first | exact su | (rw [h8]; exact su)) (by decide)
        ·
          refine ad 5 ?_
          refine Run.mid ⟨69, 3, [(2, .pt 0 0), (4, .sl 1 (((spec_PartsOf p0).1).length)), (6, .pt 2 0)], [(0, .var [.v (.int .i64 0), .v (.int .i64 0), .v (.int .i64 0), .v (.int .i64 0), .v (.string ⟨#[]⟩), .v (.string ⟨#[]⟩), .v (.int .i64 0), .v (.int .i64 0), .v (.string ⟨#[]⟩)] 56), (1, .ros ByteArray instDatByteArray ((spec_PartsOf p0).1)), (2, .var [.v (.int .i64 c2_0), .v (.int .i64 (spec_l38Num ((spec_PartsOf p0).1) 1)), .v (.int .i64 (bif (decide (c2_0 = 4)) then (spec_l38Num ((spec_PartsOf p0).1) 2) else 0)), .v (.int .i64 0), .v (.string ⟨#[]⟩), .v (.string ⟨#[]⟩), .v (.int .i64 0), .v (.int .i64 0), .v (.string ⟨#[]⟩)] 56)]⟩ ?_ ?_
          · refine cd (fun h11 => ?_) (fun h11 => ?_)
            ·
              refine ad 2 ?_
              refine op (cl (c_spec_l38Num ((spec_PartsOf p0).1) 2 (by omega)) fok99) ?_
              refine ad 3 ?_
              exact Run.at [0, 1, 2] [0, 1, 2] (by first | exact su | (rw [h11]; exact su)) (by decide)
            ·
              refine ad 1 ?_
              exact Run.at [0, 1, 2] [0, 1, 2] (by first | exact su | (rw [h11]; exact su)) (by decide)
          exact Run.at [0, 1, 2] [0, 1, 2] (by first | exact su | (rw [h8]; exact su)) (by decide)
      refine ad 4 ?_
      have hg12 : Dat.good (Deed.mk c2_0 (spec_l38Num ((spec_PartsOf p0).1) 1) (bif ((decide (c2_0 = 2)) || (decide (c2_0 = 7))) then 0 else (bif (decide (c2_0 = 4)) then (spec_l38Num ((spec_PartsOf p0).1) 2) else 0)) (Call.mk (bif ((decide (c2_0 = 2)) || (decide (c2_0 = 7))) then (bif (decide ((((spec_PartsOf p0).1).length : Int) > 2)) then ((spec_ReadCall (cutL ((spec_PartsOf p0).1) 2 (((spec_PartsOf p0).1).length))).1.Kind) else 0) else 0) (bif ((decide (c2_0 = 2)) || (decide (c2_0 = 7))) then (bif (decide ((((spec_PartsOf p0).1).length : Int) > 2)) then ((spec_ReadCall (cutL ((spec_PartsOf p0).1) 2 (((spec_PartsOf p0).1).length))).1.Name) else ⟨#[]⟩) else ⟨#[]⟩) (bif ((decide (c2_0 = 2)) || (decide (c2_0 = 7))) then (bif (decide ((((spec_PartsOf p0).1).length : Int) > 2)) then ((spec_ReadCall (cutL ((spec_PartsOf p0).1) 2 (((spec_PartsOf p0).1).length))).1.To) else ⟨#[]⟩) else ⟨#[]⟩) (bif ((decide (c2_0 = 2)) || (decide (c2_0 = 7))) then (bif (decide ((((spec_PartsOf p0).1).length : Int) > 2)) then ((spec_ReadCall (cutL ((spec_PartsOf p0).1) 2 (((spec_PartsOf p0).1).length))).1.A) else 0) else 0) (bif ((decide (c2_0 = 2)) || (decide (c2_0 = 7))) then (bif (decide ((((spec_PartsOf p0).1).length : Int) > 2)) then ((spec_ReadCall (cutL ((spec_PartsOf p0).1) 2 (((spec_PartsOf p0).1).length))).1.B) else 0) else 0) (bif ((decide (c2_0 = 2)) || (decide (c2_0 = 7))) then (bif (decide ((((spec_PartsOf p0).1).length : Int) > 2)) then ((spec_ReadCall (cutL ((spec_PartsOf p0).1) 2 (((spec_PartsOf p0).1).length))).1.Text) else ⟨#[]⟩) else ⟨#[]⟩)) : Deed) := ⟨hg_c2_0, (spec_l38Num_I64 _ _), (bifI (gi 0) (bifI (spec_l38Num_I64 _ _) (gi 0))), (good_Call (bifI (bifI (spec_ReadCall_gs (cutL ((spec_PartsOf p0).1) 2 (((spec_PartsOf p0).1).length))).1 (gi 0)) (gi 0)) (bifS (bifS (spec_ReadCall_gs (cutL ((spec_PartsOf p0).1) 2 (((spec_PartsOf p0).1).length))).2.1 (gs ⟨#[]⟩)) (gs ⟨#[]⟩)) (bifS (bifS (spec_ReadCall_gs (cutL ((spec_PartsOf p0).1) 2 (((spec_PartsOf p0).1).length))).2.2.1 (gs ⟨#[]⟩)) (gs ⟨#[]⟩)) (bifI (bifI (spec_ReadCall_gs (cutL ((spec_PartsOf p0).1) 2 (((spec_PartsOf p0).1).length))).2.2.2.1 (gi 0)) (gi 0)) (bifI (bifI (spec_ReadCall_gs (cutL ((spec_PartsOf p0).1) 2 (((spec_PartsOf p0).1).length))).2.2.2.2.1 (gi 0)) (gi 0)) (bifS (bifS (spec_ReadCall_gs (cutL ((spec_PartsOf p0).1) 2 (((spec_PartsOf p0).1).length))).2.2.2.2.2 (gs ⟨#[]⟩)) (gs ⟨#[]⟩)))⟩
      have hs13 := spec_ActLine_size (a := (Deed.mk c2_0 (spec_l38Num ((spec_PartsOf p0).1) 1) (bif ((decide (c2_0 = 2)) || (decide (c2_0 = 7))) then 0 else (bif (decide (c2_0 = 4)) then (spec_l38Num ((spec_PartsOf p0).1) 2) else 0)) (Call.mk (bif ((decide (c2_0 = 2)) || (decide (c2_0 = 7))) then (bif (decide ((((spec_PartsOf p0).1).length : Int) > 2)) then ((spec_ReadCall (cutL ((spec_PartsOf p0).1) 2 (((spec_PartsOf p0).1).length))).1.Kind) else 0) else 0) (bif ((decide (c2_0 = 2)) || (decide (c2_0 = 7))) then (bif (decide ((((spec_PartsOf p0).1).length : Int) > 2)) then ((spec_ReadCall (cutL ((spec_PartsOf p0).1) 2 (((spec_PartsOf p0).1).length))).1.Name) else ⟨#[]⟩) else ⟨#[]⟩) (bif ((decide (c2_0 = 2)) || (decide (c2_0 = 7))) then (bif (decide ((((spec_PartsOf p0).1).length : Int) > 2)) then ((spec_ReadCall (cutL ((spec_PartsOf p0).1) 2 (((spec_PartsOf p0).1).length))).1.To) else ⟨#[]⟩) else ⟨#[]⟩) (bif ((decide (c2_0 = 2)) || (decide (c2_0 = 7))) then (bif (decide ((((spec_PartsOf p0).1).length : Int) > 2)) then ((spec_ReadCall (cutL ((spec_PartsOf p0).1) 2 (((spec_PartsOf p0).1).length))).1.A) else 0) else 0) (bif ((decide (c2_0 = 2)) || (decide (c2_0 = 7))) then (bif (decide ((((spec_PartsOf p0).1).length : Int) > 2)) then ((spec_ReadCall (cutL ((spec_PartsOf p0).1) 2 (((spec_PartsOf p0).1).length))).1.B) else 0) else 0) (bif ((decide (c2_0 = 2)) || (decide (c2_0 = 7))) then (bif (decide ((((spec_PartsOf p0).1).length : Int) > 2)) then ((spec_ReadCall (cutL ((spec_PartsOf p0).1) 2 (((spec_PartsOf p0).1).length))).1.Text) else ⟨#[]⟩) else ⟨#[]⟩))))
      refine op (cl (c_spec_ActLine (Deed.mk c2_0 (spec_l38Num ((spec_PartsOf p0).1) 1) (bif ((decide (c2_0 = 2)) || (decide (c2_0 = 7))) then 0 else (bif (decide (c2_0 = 4)) then (spec_l38Num ((spec_PartsOf p0).1) 2) else 0)) (Call.mk (bif ((decide (c2_0 = 2)) || (decide (c2_0 = 7))) then (bif (decide ((((spec_PartsOf p0).1).length : Int) > 2)) then ((spec_ReadCall (cutL ((spec_PartsOf p0).1) 2 (((spec_PartsOf p0).1).length))).1.Kind) else 0) else 0) (bif ((decide (c2_0 = 2)) || (decide (c2_0 = 7))) then (bif (decide ((((spec_PartsOf p0).1).length : Int) > 2)) then ((spec_ReadCall (cutL ((spec_PartsOf p0).1) 2 (((spec_PartsOf p0).1).length))).1.Name) else ⟨#[]⟩) else ⟨#[]⟩) (bif ((decide (c2_0 = 2)) || (decide (c2_0 = 7))) then (bif (decide ((((spec_PartsOf p0).1).length : Int) > 2)) then ((spec_ReadCall (cutL ((spec_PartsOf p0).1) 2 (((spec_PartsOf p0).1).length))).1.To) else ⟨#[]⟩) else ⟨#[]⟩) (bif ((decide (c2_0 = 2)) || (decide (c2_0 = 7))) then (bif (decide ((((spec_PartsOf p0).1).length : Int) > 2)) then ((spec_ReadCall (cutL ((spec_PartsOf p0).1) 2 (((spec_PartsOf p0).1).length))).1.A) else 0) else 0) (bif ((decide (c2_0 = 2)) || (decide (c2_0 = 7))) then (bif (decide ((((spec_PartsOf p0).1).length : Int) > 2)) then ((spec_ReadCall (cutL ((spec_PartsOf p0).1) 2 (((spec_PartsOf p0).1).length))).1.B) else 0) else 0) (bif ((decide (c2_0 = 2)) || (decide (c2_0 = 7))) then (bif (decide ((((spec_PartsOf p0).1).length : Int) > 2)) then ((spec_ReadCall (cutL ((spec_PartsOf p0).1) 2 (((spec_PartsOf p0).1).length))).1.Text) else ⟨#[]⟩) else ⟨#[]⟩)))) fok34) ?_
      refine ad 8 ?_
      refine ag 2 ?_
      refine op (cG (hct := fun hB => (c_spec_l38Join ((spec_PartsOf p0).1) (sparts12 _))) (hfn := fok102)) ?_
      refine ag 2 ?_
      refine ad 1 ?_
      refine cd (fun h14 => ?_) (fun h14 => ?_)
      ·
        have hM := hM.trans (bt h14)
        refine ad 6 ?_
        have hg15 : Dat.good (Deed.mk 0 0 0 (Call.mk 0 ⟨#[]⟩ ⟨#[]⟩ 0 0 ⟨#[]⟩) : Deed) := ⟨(gi 0), (gi 0), (gi 0), (good_Call (gi 0) (gs ⟨#[]⟩) (gs ⟨#[]⟩) (gi 0) (gi 0) (gs ⟨#[]⟩))⟩
        exact rz (rs := [.cell 2 56, .tmp 3]) (congrArg (fun x => [Re.st Deed _ inferInstance x.1, Re.c (.bool x.2)]) hM)
      ·
        have hM := hM.trans (bf h14)
        refine ad 7 ?_
        exact rz (rs := [.cell 2 56, .tmp 3]) (congrArg (fun x => [Re.st Deed _ inferInstance x.1, Re.c (.bool x.2)]) hM)

/- F114 loop.example/g00974/laws.eqAct -/
def laws_eqAct (p0 : Deed) (p1 : Deed) : Bool := bif !decide (p0.Kind = p1.Kind) then false else (bif !decide (p0.N = p1.N) then false else (bif !decide (p0.M = p1.M) then false else (bif !(laws_eqCall p0.Call p1.Call) then false else true)))
theorem c_laws_eqAct (p0 : Deed) (p1 : Deed) : CTs 114 [.o (.st Deed _ inferInstance p0), .o (.st Deed _ inferInstance p1)] [Re.c (.bool (laws_eqAct p0 p1))] := by
  refine en Tryz.func114 Tryz.ntmps114 fun w hG hgd => ?_
  obtain ⟨hg_p0, hg_p1, _⟩ := hgd
  have hM := laws_eqAct.eq_1 p0 p1
  refine ad 15 ?_
  refine cd (fun h1 => ?_) (fun h1 => ?_)
  ·
    have hM := hM.trans (bt h1)
    refine ad 4 ?_
    exact rz (rs := [.tmp 4]) (congrArg (fun x => [Re.c (.bool x)]) hM)
  ·
    have hM := hM.trans (bf h1)
    refine ad 10 ?_
    refine cd (fun h2 => ?_) (fun h2 => ?_)
    ·
      have hM := hM.trans (bt h2)
      refine ad 4 ?_
      exact rz (rs := [.tmp 4]) (congrArg (fun x => [Re.c (.bool x)]) hM)
    ·
      have hM := hM.trans (bf h2)
      refine ad 10 ?_
      refine cd (fun h3 => ?_) (fun h3 => ?_)
      ·
        have hM := hM.trans (bt h3)
        refine ad 4 ?_
        exact rz (rs := [.tmp 4]) (congrArg (fun x => [Re.c (.bool x)]) hM)
      ·
        have hM := hM.trans (bf h3)
        refine ad 8 ?_
        have hg4 : Dat.good (p0.Call : Call) := hg_p0.2.2.2
        have hg5 : Dat.good (p1.Call : Call) := hg_p1.2.2.2
        refine op (cl (c_laws_eqCall p0.Call p1.Call) fok166) ?_
        refine ad 2 ?_
        refine cd (fun h6 => ?_) (fun h6 => ?_)
        ·
          have hM := hM.trans (bt h6)
          refine ad 4 ?_
          exact rz (rs := [.tmp 4]) (congrArg (fun x => [Re.c (.bool x)]) hM)
        ·
          have hM := hM.trans (bf h6)
          refine ad 5 ?_
          exact rz (rs := [.tmp 4]) (congrArg (fun x => [Re.c (.bool x)]) hM)

end Go.Proofs.YtnjidaonbcbphaaGreatDoor.Fw
/-
  The reference and the program read the same action off a line. No condition.
-/
namespace Go.Proofs.YtnjidaonbcbphaaGreatDoor.Fw
open Go.RowKit
set_option linter.unusedVariables false
set_option linter.unusedSimpArgs false
set_option maxRecDepth 100000
/-! ## An action, read -/
theorem index_notG (xs : List ByteArray) (w : ByteArray) : ∀ n i, (∀ j, i ≤ j → j < i + n → w ≠ nth xs j) → slices_Index_string_l1 xs w n i = -1 := by
  intro n
  induction n with
  | zero => intro i _; rfl
  | succ n ih =>
    intro i h
    rw [slices_Index_string_l1, decide_eq_false (h i (Nat.le_refl _) (by omega)), ih (i + 1) (fun j h1 h2 => h j (by omega) (by omega))]
    rfl
def kindA (w : ByteArray) : Nat → Int → Nat → Int
  | 0, c, _ => c
  | n + 1, c, i => kindA w n (bif (decide ((spec_ActName (i : Int)) = w)) then (i : Int) else c) (i + 1)
theorem kindA_not (w : ByteArray) (h : ∀ j : Nat, 1 ≤ j → j ≤ 12 → spec_ActName (j : Int) ≠ w) : ∀ n i c, 1 ≤ i → i + n ≤ 13 → kindA w n c i = c := by
  intro n
  induction n with
  | zero => intro i c _ _; rfl
  | succ n ih =>
    intro i c h1 h2
    rw [kindA, decide_eq_false (h i h1 (by omega)), ih (i + 1) _ (by omega) (by omega)]
    rfl
theorem anames_12 : ∀ n : Fin 12, spec_ActName ((n.val : Int) + 1) = nth gl0 n.val := by decide +kernel
theorem kindA_12 : ∀ n : Fin 12, kindA (nth gl0 n.val) 12 0 1 = (n.val : Int) + 1 ∧ IntKind.i64.wrap (1 + slices_Index_string gl0 (nth gl0 n.val)) = (n.val : Int) + 1 := by decide +kernel
theorem kindA_twin (w : ByteArray) : kindA w 12 0 1 = IntKind.i64.wrap (1 + slices_Index_string gl0 w) ∧ 0 ≤ kindA w 12 0 1 ∧ kindA w 12 0 1 ≤ 12 := by
  by_cases h : ∃ n : Fin 12, nth gl0 n.val = w
  · obtain ⟨n, rfl⟩ := h
    rw [(kindA_12 n).1, (kindA_12 n).2]
    have := n.isLt
    exact ⟨rfl, by omega, by omega⟩
  · have h' : ∀ j, j < 12 → nth gl0 j ≠ w := fun j hj e => h ⟨⟨j, hj⟩, e⟩
    rw [kindA_not w (fun j h1 h2 => ?_) 12 1 0 (Nat.le_refl _) (Nat.le_refl _)]
    · have : slices_Index_string gl0 w = -1 := index_notG gl0 w _ 0 fun j _ hj => (h' j (by rw [Nat.zero_add] at hj; exact hj)).symm
      rw [this]
      exact ⟨rfl, by omega, by omega⟩
    · have := anames_12 ⟨j - 1, by omega⟩
      rw [show (((⟨j - 1, by omega⟩ : Fin 12).val : Nat) : Int) + 1 = (j : Int) by show ((j - 1 : Nat) : Int) + 1 = _; omega] at this
      rw [this]
      exact h' _ (by show j - 1 < 12; omega)
theorem spec_act_kind (p0 : ByteArray) : ∀ n c i, spec_ReadAct_l1 p0 n c i = spec_ReadAct_l1 p0 0 (kindA (nth (spec_PartsOf p0).1 0) n c i) (i + n) := by
  intro n
  induction n with
  | zero => intro c i; rfl
  | succ n ih =>
    intro c i
    show spec_ReadAct_l1 p0 n (bif (decide ((spec_ActName (i : Int)) = (nth (spec_PartsOf p0).1 0))) then (i : Int) else c) (i + 1) = _
    rw [ih, show i + 1 + n = i + (n + 1) by omega]
    rfl
/-- What the reference takes the words for. -/
def sC (ps : List ByteArray) : Call := (spec_ReadCall (cutL ps 2 ps.length)).1
def sA (ps : List ByteArray) (K : Int) : Deed := Deed.mk K (spec_l38Num ps 1) (bif ((decide (K = 2)) || (decide (K = 7))) then 0 else (bif (decide (K = 4)) then (spec_l38Num ps 2) else 0))
  (Call.mk (bif ((decide (K = 2)) || (decide (K = 7))) then (bif (decide ((ps.length : Int) > 2)) then (sC ps).Kind else 0) else 0) (bif ((decide (K = 2)) || (decide (K = 7))) then (bif (decide ((ps.length : Int) > 2)) then (sC ps).Name else ⟨#[]⟩) else ⟨#[]⟩) (bif ((decide (K = 2)) || (decide (K = 7))) then (bif (decide ((ps.length : Int) > 2)) then (sC ps).To else ⟨#[]⟩) else ⟨#[]⟩) (bif ((decide (K = 2)) || (decide (K = 7))) then (bif (decide ((ps.length : Int) > 2)) then (sC ps).A else 0) else 0) (bif ((decide (K = 2)) || (decide (K = 7))) then (bif (decide ((ps.length : Int) > 2)) then (sC ps).B else 0) else 0) (bif ((decide (K = 2)) || (decide (K = 7))) then (bif (decide ((ps.length : Int) > 2)) then (sC ps).Text else ⟨#[]⟩) else ⟨#[]⟩))
theorem spec_act_fin (p0 : ByteArray) (K : Int) (i : Nat) : spec_ReadAct_l1 p0 0 K i = finAS (spec_PartsOf p0).1 (sA (spec_PartsOf p0).1 K) := rfl
abbrev XA (p0 : ByteArray) : Int := IntKind.i64.wrap (1 + (slices_Index_string gl0 (nth ((impl_PartsOf p0).1) 0)))
theorem st_N (p0 : ByteArray) {n i : Nat} {c1 c2 c3 c6 c7 : Int} {c4 c5 c8 : ByteArray} {v : List ByteArray} (hf : byteAt (impl_actFields (XA p0)) i = 78) : impl_ReadAct_l1 p0 (n + 1) c1 c2 c3 c4 c5 c6 c7 c8 i v = bif decide ((v.length : Int) = 0) then (D0, false) else impl_ReadAct_l1 p0 n (impl_ReadDecimal (nth v 0)).1 c2 c3 c4 c5 c6 c7 c8 (i + 1) (cutL v 1 v.length) := by
  rw [impl_ReadAct_l1, hf]
  rfl
theorem st_M (p0 : ByteArray) {n i : Nat} {c1 c2 c3 c6 c7 : Int} {c4 c5 c8 : ByteArray} {v : List ByteArray} (hf : byteAt (impl_actFields (XA p0)) i = 77) : impl_ReadAct_l1 p0 (n + 1) c1 c2 c3 c4 c5 c6 c7 c8 i v = bif decide ((v.length : Int) = 0) then (D0, false) else impl_ReadAct_l1 p0 n c1 (impl_ReadDecimal (nth v 0)).1 c3 c4 c5 c6 c7 c8 (i + 1) (cutL v 1 v.length) := by
  rw [impl_ReadAct_l1, hf]
  rfl
theorem st_C (p0 : ByteArray) {n i : Nat} {c1 c2 c3 c6 c7 : Int} {c4 c5 c8 : ByteArray} {v : List ByteArray} (hf : byteAt (impl_actFields (XA p0)) i = 67) : impl_ReadAct_l1 p0 (n + 1) c1 c2 c3 c4 c5 c6 c7 c8 i v = bif decide ((v.length : Int) = 0) then (D0, false) else impl_ReadAct_l1 p0 n c1 c2 (impl_ReadCall v).1.Kind (impl_ReadCall v).1.Name (impl_ReadCall v).1.To (impl_ReadCall v).1.A (impl_ReadCall v).1.B (impl_ReadCall v).1.Text (i + 1) v := by
  rw [impl_ReadAct_l1, hf]
  rfl
theorem st_0 (p0 : ByteArray) {i : Nat} {c1 c2 c3 c6 c7 : Int} {c4 c5 c8 : ByteArray} {v : List ByteArray} : impl_ReadAct_l1 p0 0 c1 c2 c3 c4 c5 c6 c7 c8 i v = finAI (impl_PartsOf p0).1 (Deed.mk (XA p0) c1 c2 (Call.mk c3 c4 c5 c6 c7 c8)) := rfl
def Z : Call := Call.mk 0 ⟨#[]⟩ ⟨#[]⟩ 0 0 ⟨#[]⟩
theorem good_Z : Dat.good Z := good_C00
theorem good_Deed {k n m : Int} {c : Call} (h1 : I64 k) (h2 : I64 n) (h3 : I64 m) (h4 : Dat.good c) : Dat.good (Deed.mk k n m c) := ⟨h1, h2, h3, h4⟩
/-- What the program takes the words for. -/
def rdI (w0 : ByteArray) (r : List ByteArray) (K : Int) : Deed × Bool :=
  bif (decide (K = 1)) || ((decide (K = 3)) || ((decide (K = 5)) || ((decide (K = 6)) || ((decide (K = 11)) || (decide (K = 12)))))) then (bif decide ((r.length : Int) = 0) then (D0, false) else finAI (w0 :: r) (Deed.mk K (impl_ReadDecimal (nth r 0)).1 0 Z))
  else (bif decide (K = 4) then (bif decide ((r.length : Int) = 0) then (D0, false) else bif decide (((r.drop 1).length : Int) = 0) then (D0, false) else finAI (w0 :: r) (Deed.mk K (impl_ReadDecimal (nth r 0)).1 (impl_ReadDecimal (nth (r.drop 1) 0)).1 Z))
  else (bif (decide (K = 2)) || (decide (K = 7)) then (bif decide ((r.length : Int) = 0) then (D0, false) else bif decide (((r.drop 1).length : Int) = 0) then (D0, false) else finAI (w0 :: r) (Deed.mk K (impl_ReadDecimal (nth r 0)).1 0 (impl_ReadCall (r.drop 1)).1))
  else finAI (w0 :: r) (Deed.mk K 0 0 Z)))
theorem impl_act_is {p0 w0 : ByteArray} {r : List ByteArray} {K : Int} (hp : (impl_PartsOf p0).1 = w0 :: r) (hK : XA p0 = K) : impl_ReadAct_l1 p0 ((impl_actFields (XA p0)).size - 0) 0 0 0 ⟨#[]⟩ ⟨#[]⟩ 0 0 ⟨#[]⟩ 0 (cutL (impl_PartsOf p0).1 1 (impl_PartsOf p0).1.length) = rdI w0 r K := by
  rw [cutL_drop]
  rw [show (impl_PartsOf p0).1.drop 1 = r by rw [hp]; rfl]
  unfold rdI
  cases e1 : (decide (K = 1)) || ((decide (K = 3)) || ((decide (K = 5)) || ((decide (K = 6)) || ((decide (K = 11)) || (decide (K = 12)))))) with
  | true =>
    have hf : impl_actFields (XA p0) = ⟨#[78]⟩ := by
      unfold impl_actFields
      rw [hK, e1]
      rfl
    rw [hf, show (⟨#[78]⟩ : ByteArray).size - 0 = 0 + 1 from rfl, st_N p0 (by rw [hf]; rfl), st_0, hp, hK]
    rfl
  | false =>
    cases e2 : decide (K = 4) with
    | true =>
      have hf : impl_actFields (XA p0) = ⟨#[78, 77]⟩ := by
        unfold impl_actFields
        rw [hK, e1, e2]
        rfl
      rw [hf, show (⟨#[78, 77]⟩ : ByteArray).size - 0 = 0 + 1 + 1 from rfl, st_N p0 (by rw [hf]; rfl), st_M p0 (by rw [hf]; rfl), st_0, hp, hK, cutL_drop]
      rfl
    | false =>
      cases e3 : (decide (K = 2)) || (decide (K = 7)) with
      | true =>
        have hf : impl_actFields (XA p0) = ⟨#[78, 67]⟩ := by
          unfold impl_actFields
          rw [hK, e1, e2, e3]
          rfl
        rw [hf, show (⟨#[78, 67]⟩ : ByteArray).size - 0 = 0 + 1 + 1 from rfl, st_N p0 (by rw [hf]; rfl), st_C p0 (by rw [hf]; rfl), st_0, hp, hK, cutL_drop]
        rfl
      | false =>
        have hf : impl_actFields (XA p0) = ⟨#[]⟩ := by
          unfold impl_actFields
          rw [hK, e1, e2, e3]
          rfl
        rw [hf, show (⟨#[]⟩ : ByteArray).size - 0 = 0 from rfl, st_0, hp, hK]
        rfl
theorem num_out {ps : List ByteArray} {i : Nat} (h : ps.length ≤ i) : spec_l38Num ps (i : Int) = 0 := by
  unfold spec_l38Num
  rw [decide_eq_true (show (i : Int) ≥ (ps.length : Int) by omega)]
  rfl
theorem nth_cons (w0 : ByteArray) (r : List ByteArray) (k : Nat) : nth (w0 :: r) (k + 1) = nth r k := by simp [nth, List.getD_eq_getElem?_getD]
theorem nth_drop1 (r : List ByteArray) (k : Nat) : nth (r.drop 1) k = nth r (1 + k) := by simp [nth, List.getD_eq_getElem?_getD, Nat.add_comm]
theorem len_no {ps : List ByteArray} {a : Deed} (hc : cleans ps) (h : (aw a).length ≠ ps.length) : finAS ps a = (D0, false) := fin_no hc fun _ e => h (congrArg List.length e)
theorem fin_same {ps : List ByteArray} {a : Deed} (hc : cleans ps) (hg : Dat.good a) (hp : ps ≠ []) : finAI ps a = finAS ps a := by rw [finAS_is hc, finAI_is hg hp]
theorem act_N {w0 : ByteArray} {r : List ByteArray} {K : Int} (hc : cleans (w0 :: r)) (hk : I64 K) (ha : ∀ N, aw (Deed.mk K N 0 Z) = [spec_ActName K, spec_Decimal N]) :
    (bif decide ((r.length : Int) = 0) then (D0, false) else finAI (w0 :: r) (Deed.mk K (impl_ReadDecimal (nth r 0)).1 0 Z)) = finAS (w0 :: r) (Deed.mk K (spec_l38Num (w0 :: r) 1) 0 Z) := by
  by_cases h : r.length = 0
  · rw [decide_eq_true (show (r.length : Int) = 0 by omega), len_no hc (by rw [ha, List.length_cons]; simp [h])]
    rfl
  · have e : spec_l38Num (w0 :: r) 1 = (impl_ReadDecimal (nth r 0)).1 := by
      have := num_in (p0 := w0 :: r) (i := 1) (by rw [List.length_cons]; omega)
      rw [show ((1 : Nat) : Int) = 1 from rfl] at this
      rw [this, nth_cons, ReadDecimal_twin]
    rw [decide_eq_false (show ¬ (r.length : Int) = 0 by omega), e]
    exact fin_same hc (good_Deed hk (impl_ReadDecimal_I64 _) (gi 0) good_Z) (by simp)
theorem act_M {w0 : ByteArray} {r : List ByteArray} (hc : cleans (w0 :: r)) :
    (bif decide ((r.length : Int) = 0) then (D0, false) else bif decide (((r.drop 1).length : Int) = 0) then (D0, false) else finAI (w0 :: r) (Deed.mk 4 (impl_ReadDecimal (nth r 0)).1 (impl_ReadDecimal (nth (r.drop 1) 0)).1 Z)) = finAS (w0 :: r) (Deed.mk 4 (spec_l38Num (w0 :: r) 1) (spec_l38Num (w0 :: r) 2) Z) := by
  have ha : ∀ N M, aw (Deed.mk 4 N M Z) = [spec_ActName 4, spec_Decimal N, spec_Decimal M] := fun _ _ => rfl
  by_cases h : r.length ≤ 1
  · rw [len_no hc (by rw [ha, List.length_cons]; simp; omega)]
    by_cases h0 : r.length = 0
    · rw [decide_eq_true (show (r.length : Int) = 0 by omega)]
      rfl
    · rw [decide_eq_false (show ¬ (r.length : Int) = 0 by omega), decide_eq_true (show (((r.drop 1).length : Nat) : Int) = 0 by rw [List.length_drop]; omega)]
      rfl
  · have e1 : spec_l38Num (w0 :: r) 1 = (impl_ReadDecimal (nth r 0)).1 := by
      have := num_in (p0 := w0 :: r) (i := 1) (by rw [List.length_cons]; omega)
      rw [show ((1 : Nat) : Int) = 1 from rfl] at this
      rw [this, nth_cons, ReadDecimal_twin]
    have e2 : spec_l38Num (w0 :: r) 2 = (impl_ReadDecimal (nth (r.drop 1) 0)).1 := by
      have := num_in (p0 := w0 :: r) (i := 2) (by rw [List.length_cons]; omega)
      rw [show ((2 : Nat) : Int) = 2 from rfl] at this
      rw [this, nth_cons, ReadDecimal_twin, nth_drop1]
    rw [decide_eq_false (show ¬ (r.length : Int) = 0 by omega), decide_eq_false (show ¬ (((r.drop 1).length : Nat) : Int) = 0 by rw [List.length_drop]; omega), e1, e2]
    exact fin_same hc (good_Deed (gi 4) (impl_ReadDecimal_I64 _) (impl_ReadDecimal_I64 _) good_Z) (by simp)
theorem act_C {w0 : ByteArray} {r : List ByteArray} {K : Int} (hc : cleans (w0 :: r)) (hs : small (w0 :: r)) (hk : I64 K) (ha : ∀ N c, aw (Deed.mk K N 0 c) = spec_ActName K :: spec_Decimal N :: cw c) (c : Call) (hcc : 2 < (w0 :: r).length → c = sC (w0 :: r)) :
    (bif decide ((r.length : Int) = 0) then (D0, false) else bif decide (((r.drop 1).length : Int) = 0) then (D0, false) else finAI (w0 :: r) (Deed.mk K (impl_ReadDecimal (nth r 0)).1 0 (impl_ReadCall (r.drop 1)).1)) = finAS (w0 :: r) (Deed.mk K (spec_l38Num (w0 :: r) 1) 0 c) := by
  by_cases h : r.length ≤ 1
  · have hl := cw_len c
    rw [len_no hc (by rw [ha, List.length_cons, List.length_cons, List.length_cons]; omega)]
    by_cases h0 : r.length = 0
    · rw [decide_eq_true (show (r.length : Int) = 0 by omega)]
      rfl
    · rw [decide_eq_false (show ¬ (r.length : Int) = 0 by omega), decide_eq_true (show (((r.drop 1).length : Nat) : Int) = 0 by rw [List.length_drop]; omega)]
      rfl
  · have e1 : spec_l38Num (w0 :: r) 1 = (impl_ReadDecimal (nth r 0)).1 := by
      have := num_in (p0 := w0 :: r) (i := 1) (by rw [List.length_cons]; omega)
      rw [show ((1 : Nat) : Int) = 1 from rfl] at this
      rw [this, nth_cons, ReadDecimal_twin]
    have hs2 : small (r.drop 1) := by
      have := small_drop hs 2
      rw [cutL_drop] at this
      exact this
    have e2 : c = (impl_ReadCall (r.drop 1)).1 := by
      rw [hcc (by rw [List.length_cons]; omega), ReadCall_twin (small_good hs2) hs2.1]
      unfold sC
      rw [cutL_drop]
      rfl
    rw [decide_eq_false (show ¬ (r.length : Int) = 0 by omega), decide_eq_false (show ¬ (((r.drop 1).length : Nat) : Int) = 0 by rw [List.length_drop]; omega), e1, e2]
    exact fin_same hc (good_Deed hk (impl_ReadDecimal_I64 _) (gi 0) (impl_ReadCall_good _ hs2)) (by simp)
theorem act_0 {w0 : ByteArray} {r : List ByteArray} {K : Int} (hc : cleans (w0 :: r)) (hk : I64 K) (ha : ∀ N, aw (Deed.mk K N 0 Z) = [spec_ActName K]) (ht : ∀ N, (spec_l38Told (Deed.mk K N 0 Z)).N = 0) : finAI (w0 :: r) (Deed.mk K 0 0 Z) = finAS (w0 :: r) (Deed.mk K (spec_l38Num (w0 :: r) 1) 0 Z) := by
  by_cases h : spec_l38Num (w0 :: r) 1 = 0
  · rw [h]
    exact fin_same hc (good_Deed hk (gi 0) (gi 0) good_Z) (by simp)
  · rw [fin_no hc fun h1 _ => ?_]
    · rw [finAI_is (good_Deed hk (gi 0) (gi 0) good_Z) (by simp), decide_eq_false fun e => ?_]
      · rfl
      · refine h ?_
        have hl := congrArg List.length e.2
        rw [ha] at hl
        have := num_out (ps := w0 :: r) (i := 1) (by rw [← hl]; exact Nat.le_refl _)
        exact this
    · have := (ActLine_join h1).2.2.2.2.2
      exact h (by rw [← ht (spec_l38Num (w0 :: r) 1), this])
theorem act_none {w0 : ByteArray} {r : List ByteArray} (hc : cleans (w0 :: r)) : finAI (w0 :: r) (Deed.mk 0 0 0 Z) = finAS (w0 :: r) (Deed.mk 0 (spec_l38Num (w0 :: r) 1) 0 Z) := by
  have h : ∀ N, spec_ActLine (Deed.mk 0 N 0 Z) = ⟨#[]⟩ := fun N => rfl
  rw [fin_no hc fun h1 _ => h1 (h _), finAI_is (good_Deed (gi 0) (gi 0) (gi 0) good_Z) (by simp), decide_eq_false fun e => e.1 (h 0)]
  rfl
theorem act_fin {w0 : ByteArray} {r : List ByteArray} {K : Int} (hk : 0 ≤ K ∧ K ≤ 12) (hc : cleans (w0 :: r)) (hs : small (w0 :: r)) : rdI w0 r K = finAS (w0 :: r) (sA (w0 :: r) K) := by
  have hcall : ∀ ps : List ByteArray, 2 < ps.length → Call.mk (bif (decide ((ps.length : Int) > 2)) then (sC ps).Kind else 0) (bif (decide ((ps.length : Int) > 2)) then (sC ps).Name else ⟨#[]⟩) (bif (decide ((ps.length : Int) > 2)) then (sC ps).To else ⟨#[]⟩) (bif (decide ((ps.length : Int) > 2)) then (sC ps).A else 0) (bif (decide ((ps.length : Int) > 2)) then (sC ps).B else 0) (bif (decide ((ps.length : Int) > 2)) then (sC ps).Text else ⟨#[]⟩) = sC ps := fun ps h => by
    rw [decide_eq_true (show (ps.length : Int) > 2 by omega)]
    rfl
  rcases (show K = 0 ∨ K = 1 ∨ K = 2 ∨ K = 3 ∨ K = 4 ∨ K = 5 ∨ K = 6 ∨ K = 7 ∨ K = 8 ∨ K = 9 ∨ K = 10 ∨ K = 11 ∨ K = 12 by omega) with rfl | rfl | rfl | rfl | rfl | rfl | rfl | rfl | rfl | rfl | rfl | rfl | rfl
  · exact act_none hc
  · exact act_N hc (gi 1) (fun _ => rfl)
  · exact act_C hc hs (gi 2) (fun _ _ => rfl) _ (hcall _)
  · exact act_N hc (gi 3) (fun _ => rfl)
  · exact act_M hc
  · exact act_N hc (gi 5) (fun _ => rfl)
  · exact act_N hc (gi 6) (fun _ => rfl)
  · exact act_C hc hs (gi 7) (fun _ _ => rfl) _ (hcall _)
  · exact act_0 hc (gi 8) (fun _ => rfl) (fun _ => rfl)
  · exact act_0 hc (gi 9) (fun _ => rfl) (fun _ => rfl)
  · exact act_0 hc (gi 10) (fun _ => rfl) (fun _ => rfl)
  · exact act_N hc (gi 11) (fun _ => rfl)
  · exact act_N hc (gi 12) (fun _ => rfl)
theorem ReadAct_twin (p0 : ByteArray) : impl_ReadAct p0 = spec_ReadAct p0 := by
  have ht : (spec_PartsOf p0) = (impl_PartsOf p0) := (PartsOf_twin p0).symm
  unfold impl_ReadAct spec_ReadAct
  rw [ht]
  cases hb : (!((impl_PartsOf p0).2)) || (decide (((impl_PartsOf p0).1.length : Int) = 0)) with
  | true => rfl
  | false =>
    have h0 := of_decide_eq_false (Bool.or_eq_false_iff.1 hb).2
    obtain ⟨w0, r, hp⟩ : ∃ w0 r, (impl_PartsOf p0).1 = w0 :: r := by
      cases h : (impl_PartsOf p0).1 with
      | nil => rw [h] at h0; exact absurd rfl h0
      | cons a b => exact ⟨a, b, rfl⟩
    obtain ⟨k1, k2⟩ := kindA_twin (nth (impl_PartsOf p0).1 0)
    rw [cond_false, cond_false, impl_act_is hp rfl, spec_act_kind, spec_act_fin, ht, show 13 - 1 = 12 from rfl, k1]
    rw [k1] at k2
    rw [hp] at k2 ⊢
    show rdI w0 r (IntKind.i64.wrap (1 + (slices_Index_string gl0 (nth ((impl_PartsOf p0).1) 0)))) = _
    rw [hp]
    have hc := (parts_facts p0).1
    have hs := parts_smalls p0
    rw [hp] at hc hs
    exact act_fin k2 hc hs

end Go.Proofs.YtnjidaonbcbphaaGreatDoor.Fw

/-
  Contracts of library functions at this program, laid by the shelf. No condition.
-/
namespace Go.Proofs
open Go.Shelf
def Tryz.lays221_ren : Go.Shelf.Ren := ⟨fun | 221 => 164 | 268 => 197 | 138 => 198 | 143 => 199 | 195 => 224 | 197 => 225 | 218 => 226 | 219 => 227 | 260 => 237 | 217 => 238 | 225 => 239 | 224 => 240 | 267 => 241 | 266 => 251 | 314 => 252 | n => n, fun | 9 => 9 | 3 => 3 | 31 => 30 | 4 => 4 | 0 => 0 | 105 => 277 | 21 => 21 | 5 => 5 | 46 => 230 | 119 => 194 | 139 => 308 | 138 => 307 | 146 => 309 | 51 => 234 | n => n, fun | 1 => 7 | 3 => 9 | 4 => 10 | n => n⟩
theorem Tryz.lays221 : Go.Proofs.Lays.n221 Tryz.prog Tryz.lays221_ren := {
  mixed := by kernel_rfl
  f138 := Tryz.func198.trans (congrArg some (by kernel_rfl))
  f143 := Tryz.func199.trans (congrArg some (by kernel_rfl))
  f195 := Tryz.func224.trans (congrArg some (by kernel_rfl))
  f197 := Tryz.func225.trans (congrArg some (by kernel_rfl))
  f217 := Tryz.func238.trans (congrArg some (by kernel_rfl))
  f218 := Tryz.func226.trans (congrArg some (by kernel_rfl))
  f219 := Tryz.func227.trans (congrArg some (by kernel_rfl))
  f221 := Tryz.func164.trans (congrArg some (by kernel_rfl))
  f224 := Tryz.func240.trans (congrArg some (by kernel_rfl))
  f225 := Tryz.func239.trans (congrArg some (by kernel_rfl))
  f260 := Tryz.func237.trans (congrArg some (by kernel_rfl))
  f266 := Tryz.func251.trans (congrArg some (by kernel_rfl))
  f267 := Tryz.func241.trans (congrArg some (by kernel_rfl))
  f268 := Tryz.func197.trans (congrArg some (by kernel_rfl))
  f314 := Tryz.func252.trans (congrArg some (by kernel_rfl))
  t0 := Tryz.underlying0
  a0 := Tryz.isAgg0
  z0 := Tryz.sizeOf0
  v0 := Tryz.zeroValue0
  t3 := Tryz.underlying3
  a3 := Tryz.isAgg3
  z3 := Tryz.sizeOf3
  v3 := Tryz.zeroValue3
  t4 := Tryz.underlying4
  a4 := Tryz.isAgg4
  z4 := Tryz.sizeOf4
  v4 := Tryz.zeroValue4
  t5 := Tryz.underlying5
  a5 := Tryz.isAgg5
  z5 := Tryz.sizeOf5
  v5 := Tryz.zeroValue5
  t9 := Tryz.underlying9
  a9 := Tryz.isAgg9
  z9 := Tryz.sizeOf9
  v9 := Tryz.zeroValue9
  t21 := Tryz.underlying21
  a21 := Tryz.isAgg21
  z21 := Tryz.sizeOf21
  v21 := Tryz.zeroValue21
  t31 := Tryz.underlying30
  a31 := Tryz.isAgg30
  z31 := Tryz.sizeOf30
  v31 := Tryz.zeroValue30
  t46 := Tryz.underlying230
  a46 := Tryz.isAgg230
  z46 := Tryz.sizeOf230
  v46 := Tryz.zeroValue230
  t51 := Tryz.underlying234
  a51 := Tryz.isAgg234
  z51 := Tryz.sizeOf234
  v51 := Tryz.zeroValue234
  t105 := Tryz.underlying277
  a105 := Tryz.isAgg277
  z105 := Tryz.sizeOf277
  v105 := Tryz.zeroValue277
  t119 := Tryz.underlying194
  a119 := Tryz.isAgg194
  z119 := Tryz.sizeOf194
  t138 := Tryz.underlying307
  a138 := Tryz.isAgg307
  z138 := Tryz.sizeOf307
  v138 := Tryz.zeroValue307
  t139 := Tryz.underlying308
  a139 := Tryz.isAgg308
  z139 := Tryz.sizeOf308
  v139 := Tryz.zeroValue308
  t146 := Tryz.underlying309
  a146 := Tryz.isAgg309
  z146 := Tryz.sizeOf309
  v146 := Tryz.zeroValue309
  g1 := by kernel_rfl
  g3 := by kernel_rfl
  g4 := by kernel_rfl }
end Go.Proofs

/-
  The contract of the library's splitting at line ends, for the abstract machine. No condition.
-/
namespace Go.Proofs.YtnjidaonbcbphaaGreatDoor.Fw
open Go.RowKit
set_option linter.unusedVariables false
set_option maxRecDepth 100000

theorem splitB_sizes (sep : ByteArray) : ∀ (k : Nat) (s : ByteArray), ∀ x ∈ Lib.splitB sep 0 k s, x.size ≤ s.size
  | 0, s => fun x hx => by
    obtain rfl := List.mem_singleton.1 hx
    exact Nat.le_refl _
  | k + 1, s => fun x hx => by
    rcases Lib.indexB_cases s sep with h | ⟨i, h, _⟩
    · rw [Lib.splitB_miss sep 0 (k + 1) s h] at hx
      obtain rfl := List.mem_singleton.1 hx
      exact Nat.le_refl _
    · rw [Lib.splitB_hit sep 0 k s i h] at hx
      rcases List.mem_cons.1 hx with rfl | hx
      · rw [ByteArray.size_extract]
        omega
      · have := splitB_sizes sep k _ x hx
        rw [ByteArray.size_extract] at this
        omega
def linesS (s : ByteArray) : List ByteArray := Lib.splitB ⟨#[10]⟩ 0 (Lib.countB s ⟨#[10]⟩) s
theorem linesS_len (s : ByteArray) : (linesS s).length = Lib.countB s ⟨#[10]⟩ + 1 := Lib.splitB_all ⟨#[10]⟩ (Nat.le_refl _) 0 _ s rfl
theorem linesS_le (s : ByteArray) : (linesS s).length ≤ s.size + 1 := by
  have := Lib.countB_le ⟨#[10]⟩ (Nat.le_refl _) s.size s (Nat.le_refl _)
  rw [linesS_len]
  omega
theorem k_genSplit (s : ByteArray) (hs : s.size ≤ 1048576) : CTs 164 [.o (.c (.string s)), .o (.c (.string ⟨#[10]⟩)), .o (.c (.int .i64 0)), .o (.c (.int .i64 (-1)))] [.sl ByteArray instDatByteArray (linesS s)] := fun w vs hG hA => by
  obtain rfl := argsC (us := [.string s, .string ⟨#[10]⟩, .int .i64 0, .int .i64 (-1)]) hA
  have hc := Lib.countB_le ⟨#[10]⟩ (Nat.le_refl _) s.size s (Nat.le_refl _)
  have c := Go.Proofs.Any.strings_genSplit_core Tryz.lays221 (by kernel_rfl) s ⟨#[10]⟩ 0 (-1) (Lib.countB s ⟨#[10]⟩ + 1) w (by omega) (Nat.le_refl _) (Nat.zero_le _)
    (fun x cs hx => by
      refine (Go.Proofs.Any.strings_Index_one { Tryz.lays221 with } x 10 _).mono fun e w' h => ⟨?_, h.2⟩
      rw [h.1]
      show _ = Ending.returned (Value.int .i64 (Lib.index x.data.toList [10]))
      rw [Lib.index_one])
    (by
      refine (Go.Proofs.Any.strings_Count_one { Tryz.lays221 with } s 10 w).mono fun e w' h => ⟨?_, h.2⟩
      rw [h.1]
      show _ = Ending.returned (Value.int .i64 ((Lib.count s.data.toList [10] : Nat) : Int))
      rw [Lib.count_one]
      rfl)
    (by decide) (by decide) (by rw [if_pos (by decide)]; omega)
  rw [Nat.add_sub_cancel] at c
  have hlen := linesS_len s
  have e2 : Lib.cellsOf (linesS s) (Lib.countB s ⟨#[10]⟩ + 1) = ((linesS s).map Value.string).toArray := by rw [← hlen]; exact Lib.cellsOf_full _
  refine c.mono fun e w2 hr => ?_
  obtain ⟨rfl, rfl⟩ := hr
  have hl := linesS_le s
  have hk : Below w.heap.size w (w.alloc (.cells ((linesS s).map Value.string).toArray 9)) := (Below.refl _ w).alloc (Nat.le_refl _) _
  have hrow : (w.alloc (.cells ((linesS s).map Value.string).toArray 9)).ownsRow w.heap.size 9 1 (.slice (some ⟨w.heap.size, 0, none⟩) (linesS s).length (linesS s).length) (linesS s).length ((linesS s).map Value.string) := by
    refine ⟨by rw [List.length_map, Nat.mul_one], .inr ⟨w.heap.size, (linesS s).length, _, rfl, Nat.le_refl _, Array.getElem?_push_size, Nat.le_refl _, by unfold maxLen; omega, ?_, ?_⟩⟩
    · rw [List.size_toArray, List.length_map, Nat.mul_one]
    · rw [Nat.mul_one, List.take_of_length_le (by simp)]
  obtain ⟨F, h1, h2, h3⟩ := slo_row (α := ByteArray) (mk := Value.string) rfl (fun x hx => ⟨⟨rfl, by have := splitB_sizes _ _ s x hx; show x.size ≤ maxLen; unfold maxLen; omega⟩, rfl⟩) hrow rfl
  show ∃ _, _
  rw [show Lib.splitB ⟨#[10]⟩ 0 (Lib.countB s ⟨#[10]⟩) s = linesS s from rfl, e2, ← hlen]
  refine ⟨_, rfl, Keep.of_below hk fun _ h => h, [_], F ++ [], rfl, ⟨F, [], rfl, h1, rfl⟩, by rw [List.append_nil]; exact h2, fun b hb => ?_⟩
  rw [List.append_nil] at hb
  have := h3 b hb
  show ¬ b < w.heap.size
  omega
/-- The split as it is called: at line ends, all of them. -/
def genS (s sep : ByteArray) (a n : Int) : List ByteArray := linesS s
theorem k_genS (s sep : ByteArray) (a n : Int) (h1 : sep = ⟨#[10]⟩) (h2 : a = 0) (h3 : n = -1) (hs : s.size ≤ 1048576) : CTs 164 [.o (.c (.string s)), .o (.c (.string sep)), .o (.c (.int .i64 a)), .o (.c (.int .i64 n))] [.sl ByteArray instDatByteArray (genS s sep a n)] := by
  subst h1 h2 h3
  exact k_genSplit s hs
end Go.Proofs.YtnjidaonbcbphaaGreatDoor.Fw

/-
  The abstract machine: a field of an element of an own row is stored. No condition: every lemma is general in the program.
-/
namespace Go.Proofs.YtnjidaonbcbphaaGreatDoor.Fw
open Go.RowKit
set_option linter.unusedVariables false
set_option maxRecDepth 100000
def Fk.same {α : Type} (x y : α) : Fk α → Prop
  | .int g => g y = g x
  | .byte g => g y = g x
  | .bool g => g y = g x
  | .str g => g y = g x
  | .sl _ _ g => g y = g x
section
variable {α : Type} {x y : α} {u : Value} {w : World}
end
section
variable {c : Cx} {σ : St} {all : Array Oper} {ty : TypeId} {pos : String} {after : Array Edge} {d : Nat}
end
end Go.Proofs.YtnjidaonbcbphaaGreatDoor.Fw

/-
  The abstract machine: regions parted at a truth, least and greatest of two numbers, texts compared by order. No condition: every lemma is general in the program.
-/
namespace Go.Proofs.YtnjidaonbcbphaaGreatDoor.Fw
open Go.RowKit
set_option linter.unusedVariables false
set_option maxRecDepth 100000
theorem Run.midO {c : Cx} {res : List Re} {σ : St} {l : List Oper} {all : Array Oper} {k : List It} (σ2 : St) (h : Run c res σ (.ops l all :: .goal (At c σ2) :: k)) (hk : Run c res σ2 k) : Run c res σ (.ops l all :: k) := by
  intro θ a w hR
  rw [kQ_ops]
  refine wpList_mid (Mid := At c σ2) l l.length a w ?_ ?_
  · rw [List.take_length]
    exact h θ a w hR
  · rw [List.drop_length]
    rintro a w ⟨θ', hR'⟩
    exact hk θ' a w hR'
/-- A truth is told. -/
theorem Run.bc {c : Cx} {res : List Re} {σ : St} {k : List It} (t : Nat) {b : Bool} (hl : lk σ.ρ t = some (.v (.bool b))) (ht : b = true → Run c res ⟨σ.n, σ.m, (t, .v (.bool true)) :: σ.ρ, σ.E⟩ k) (hf : b = false → Run c res ⟨σ.n, σ.m, (t, .v (.bool false)) :: σ.ρ, σ.E⟩ k) : Run c res σ k := by
  intro θ a w hR
  have key : ∀ b', b = b' → R c θ ⟨σ.n, σ.m, (t, .v (.bool b')) :: σ.ρ, σ.E⟩ a w := fun b' hb => by
    subst hb
    refine ⟨hR.len, ⟨hR.env.size, hR.env.defers, fun t' v hv => ?_⟩, hR.heap⟩
    simp only [lk] at hv
    by_cases e : Nat.beq t t' = true
    · rw [e] at hv
      obtain rfl := Nat.eq_of_beq_eq_true e
      cases hv
      exact hR.env.get t _ hl
    · rw [Bool.not_eq_true] at e
      rw [e] at hv
      exact hR.env.get t' v hv
  cases hb : b with
  | true => exact ht hb θ a w (key _ hb)
  | false => exact hf hb θ a w (key _ hb)
section
variable {P : Program} {n : Nat} {ρ : List (Nat × Value)} {a : Act} {w : World} {ty : TypeId}
end
section
variable {c : Cx} {σ : St} {all : Array Oper} {ty : TypeId} {pos : String} {after : Array Edge} {d : Nat}
end
end Go.Proofs.YtnjidaonbcbphaaGreatDoor.Fw

/-
  The steps of the later kinds. No condition.
-/
namespace Go.Proofs.YtnjidaonbcbphaaGreatDoor.Fw
open Go.RowKit
set_option linter.unusedVariables false
set_option maxRecDepth 100000
section
variable {fn : Func} {Bz : Bs} {S1 : Nat → Prop} {w1 : World} {hk1 : Keep Bz.S0 Bz.w w1} {hs1 : ∀ b, Bz.S0 b → S1 b} {hd1 : ∀ b, S1 b → b < w1.heap.size} {res : List Re} {k : List It} {σ σ' : St} {all : Array Oper} {ty : TypeId} {pos : String} {after : Array Edge} {d : Nat}
theorem bc (t : Nat) {b : Bool} (ht : b = true → Run (cx fn Bz S1 w1 hk1 hs1 hd1) res ⟨σ.n, σ.m, (t, .v (.bool true)) :: σ.ρ, σ.E⟩ k) (hf : b = false → Run (cx fn Bz S1 w1 hk1 hs1 hd1) res ⟨σ.n, σ.m, (t, .v (.bool false)) :: σ.ρ, σ.E⟩ k) (hl : lk σ.ρ t = some (.v (.bool b)) := by dsimp only [ev, evs, evsG, cons2, lk, lkE, cond, Nat.beq, evG, stO', V.strip, grd, grdO, nthO, gB, gBV, Nat.pred, wnt, List.toList_toArray, List.cons_append, List.nil_append, List.append_nil]) : Run (cx fn Bz S1 w1 hk1 hs1 hd1) res σ k := Run.bc t hl ht hf
end
end Go.Proofs.YtnjidaonbcbphaaGreatDoor.Fw

/- Contracts: each call returns what the model says. By program (wip/am/gen2.py). -/
namespace Go.Proofs.YtnjidaonbcbphaaGreatDoor.Fw
open Go.RowKit
set_option linter.unusedVariables false
set_option maxRecDepth 100000

theorem fok164 : FnOk Tryz.prog 164 := ⟨_, Tryz.func164, rfl, by kernel_rfl⟩
theorem fok165 : FnOk Tryz.prog 165 := ⟨_, Tryz.func165, rfl, by kernel_rfl⟩
/- F165 internal/stringslite.HasPrefix -/
def internal_stringslite_HasPrefix (p0 : ByteArray) (p1 : ByteArray) : Bool := (decide ((p0.size : Int) ≥ (p1.size : Int))) && (decide ((cutS p0 0 p1.size) = p1))
theorem c_internal_stringslite_HasPrefix (p0 : ByteArray) (p1 : ByteArray) : CTs 165 [.o (.c (.string p0)), .o (.c (.string p1))] [Re.c (.bool (internal_stringslite_HasPrefix p0 p1))] := by
  refine en Tryz.func165 Tryz.ntmps165 fun w hG hgd => ?_
  have hM := internal_stringslite_HasPrefix.eq_1 p0 p1
  refine ad 12 ?_
  refine Run.midO ⟨18, 0, [(4, .v (.bool ((decide ((p0.size : Int) ≥ (p1.size : Int))) && (decide ((cutS p0 0 p1.size) = p1)))))], []⟩ ?_ ?_
  · refine bc 10 (fun h1 => ?_) (fun h1 => ?_)
    ·
      refine ad 7 ?_
      refine op (cu 0 p1.size (hl := rfl)) ?_
      refine ad 7 ?_
      exact Run.at [] [] (by first | exact su | (rw [h1]; exact su)) (by decide)
    ·
      refine ad 9 ?_
      exact Run.at [] [] (by first | exact su | (rw [h1]; exact su)) (by decide)
  exact rz (rs := [.tmp 4]) (congrArg (fun x => [Re.c (.bool x)]) hM)

/- F113 strings.HasPrefix -/
def strings_HasPrefix (p0 : ByteArray) (p1 : ByteArray) : Bool := (internal_stringslite_HasPrefix p0 p1)
theorem c_strings_HasPrefix (p0 : ByteArray) (p1 : ByteArray) : CTs 113 [.o (.c (.string p0)), .o (.c (.string p1))] [Re.c (.bool (strings_HasPrefix p0 p1))] := by
  refine en Tryz.func113 Tryz.ntmps113 fun w hG hgd => ?_
  have hM := strings_HasPrefix.eq_1 p0 p1
  refine ad 8 ?_
  refine op (cl (c_internal_stringslite_HasPrefix p0 p1) fok165) ?_
  refine ad 2 ?_
  exact rz (rs := [.tmp 4]) (congrArg (fun x => [Re.c (.bool x)]) hM)

/- F112 strings.Split -/
def strings_Split (p0 : ByteArray) (p1 : ByteArray) : (List ByteArray) := (genS p0 p1 0 (-1))
theorem c_strings_Split (p0 : ByteArray) (p1 : ByteArray) (hn : p1 = ⟨#[10]⟩) (hq : p0.size ≤ 1048576) : CTs 112 [.o (.c (.string p0)), .o (.c (.string p1))] [Re.sl ByteArray instDatByteArray (strings_Split p0 p1)] := by
  refine en Tryz.func112 Tryz.ntmps112 fun w hG hgd => ?_
  have hM := strings_Split.eq_1 p0 p1
  refine ad 8 ?_
  refine og (clg (k_genS p0 p1 0 (-1) (by assumption) rfl rfl (by assumption)) fok164) fun hgq => ?_
  obtain ⟨hg1, _⟩ := hgq
  refine ad 2 ?_
  exact rz (rs := [.tmp 4]) (congrArg (fun x => [Re.sl ByteArray instDatByteArray x]) hM)

/- F111 loop.example/g00974/spec.l21Split -/
def spec_l21Split_l1 (p0 : ByteArray) (p1 : UInt8) : Nat → (List ByteArray) → Int → Nat → (List ByteArray)
  | 0, v5, v6, i => v5
  | n + 1, v5, v6, i => spec_l21Split_l1 p0 p1 n (bif ((decide ((i : Int) = (p0.size : Int))) || (decide (((byteAt p0 i).toNat : Int) = (p1.toNat : Int)))) then (v5 ++ [cutS p0 v6.toNat i]) else v5) (bif ((decide ((i : Int) = (p0.size : Int))) || (decide (((byteAt p0 i).toNat : Int) = (p1.toNat : Int)))) then ((i + 1 : Nat) : Int) else v6) (i + 1)
def spec_l21Split (p0 : ByteArray) (p1 : UInt8) : (List ByteArray) := spec_l21Split_l1 p0 p1 ((p0.size + 1) - 0) ([] : List ByteArray) 0 0
theorem c_spec_l21Split (p0 : ByteArray) (p1 : UInt8) (hq : p0.size ≤ 1048576) : CTs 111 [.o (.c (.string p0)), .o (.c (.int .u8 p1.toNat))] [Re.sl ByteArray instDatByteArray (spec_l21Split p0 p1)] := by
  refine en Tryz.func111 Tryz.ntmps111 fun w hG hgd => ?_
  have hM := spec_l21Split.eq_1 p0 p1
  refine ad 6 ?_
  refine op (l0) ?_
  refine ad 12 ?_
  refine li 0 (d := instDatByteArray) ([] : List ByteArray) ?_
  refine Run.loopM (ι := (List ByteArray) × Int × Nat) (fun s => spec_l21Split_l1 p0 p1 ((p0.size + 1) - s.2.2) s.1 s.2.1 s.2.2) (fun s => ⟨36, 1, [(0, .v (.string p0)), (1, .v (.int .u8 (p1.toNat : Int))), (5, .sl 0 s.1.length), (6, .v (.int .i64 s.2.1)), (7, .v (.int .i64 (s.2.2 : Int)))], [(0, .own ByteArray instDatByteArray s.1)]⟩) (fun s => s.2.2 ≤ (p0.size + 1) ∧ 0 ≤ s.2.1 ∧ s.2.1 ≤ (s.2.2 : Int) ∧ s.1.length ≤ s.2.2) (fun s => (p0.size + 1) - s.2.2) (([] : List ByteArray), 0, 0) [0] [0] hM (by exact ⟨by (try dsimp only); omega, by (try dsimp only); omega, by (try dsimp only); omega, by simp⟩) su (by decide) ?_
  rintro ⟨v5, v6, i⟩ hv hE
  try dsimp only at hE
  obtain ⟨hi, hv0, hv1, hv2⟩ := hv
  try dsimp only at hi hv0 hv1 hv2
  refine ad 8 ?_
  refine cd (fun h1 => ?_) (fun h1 => ?_)
  ·
    have h1l : i < (p0.size + 1) := by have := of_decide_eq_true h1; omega
    have hM := hE.trans ((congrArg (fun n => spec_l21Split_l1 p0 p1 n v5 v6 i) (show (p0.size + 1) - i = ((p0.size + 1) - (i + 1)) + 1 by omega)).trans (spec_l21Split_l1.eq_2 _ _ _ _ _ _))
    refine ad 10 ?_
    refine ag 2 ?_
    refine op (sG (s := p0) i (hk := fun hB => by (try simp at hB); omega)) ?_
    refine ag 3 ?_
    refine ad 1 ?_
    refine Run.mid ⟨36, 1, [(0, .v (.string p0)), (1, .v (.int .u8 (p1.toNat : Int))), (5, .sl 0 ((bif ((decide ((i : Int) = (p0.size : Int))) || (decide (((byteAt p0 i).toNat : Int) = (p1.toNat : Int)))) then (v5 ++ [cutS p0 v6.toNat i]) else v5).length)), (6, .v (.int .i64 (bif ((decide ((i : Int) = (p0.size : Int))) || (decide (((byteAt p0 i).toNat : Int) = (p1.toNat : Int)))) then ((i + 1 : Nat) : Int) else v6))), (7, .v (.int .i64 (i : Int)))], [(0, .own ByteArray instDatByteArray (bif ((decide ((i : Int) = (p0.size : Int))) || (decide (((byteAt p0 i).toNat : Int) = (p1.toNat : Int)))) then (v5 ++ [cutS p0 v6.toNat i]) else v5))]⟩ ?_ ?_
    · refine cd (fun h2 => ?_) (fun h2 => ?_)
      ·
        refine ad 6 ?_
        refine op (cu v6.toNat i) ?_
        refine ad 1 ?_
        have hg3 : Dat.good (cutS p0 v6.toNat i) := cutS_good (by first | assumption | exact om)
        refine op (ap [cutS p0 v6.toNat i] (hg := gdt) (hb := by simp only [List.length_cons, List.length_nil]; first | omega | exact om)) ?_
        refine ad 5 ?_
        rw [wrapN (i := i) (by first | omega | exact om)]
        refine ad 2 ?_
        exact Run.at [2] [1] (by first | exact su | (rw [h2]; exact su)) (by decide)
      ·
        refine ad 1 ?_
        exact Run.at [0] [0] (by first | exact su | (rw [h2]; exact su)) (by decide)
    refine ad 4 ?_
    rw [wrapN (i := i) (by first | omega | exact om)]
    refine ad 2 ?_
    exact Run.again (bif ((decide ((i : Int) = (p0.size : Int))) || (decide (((byteAt p0 i).toNat : Int) = (p1.toNat : Int)))) then (v5 ++ [cutS p0 v6.toNat i]) else v5, bif ((decide ((i : Int) = (p0.size : Int))) || (decide (((byteAt p0 i).toNat : Int) = (p1.toNat : Int)))) then ((i + 1 : Nat) : Int) else v6, (i + 1)) [0] [0] ⟨by exact ⟨by (try dsimp only); omega, by (try dsimp only); ((try simp only [Bool.cond_eq_ite]); (repeat' split) <;> omega), by (try dsimp only); ((try simp only [Bool.cond_eq_ite]); (repeat' split) <;> omega), by (try dsimp only); ((try simp only [Bool.cond_eq_ite]); (repeat' split); all_goals ((try simp only [List.length_append, List.length_cons, List.length_nil]); omega))⟩, hM⟩ rfl (by show _ - _ < _ - _; (try dsimp only); omega) su (by decide)
  ·
    have h1l : ¬ (i < (p0.size + 1)) := by have := of_decide_eq_false h1; omega
    have hM := hE.trans ((congrArg (fun n => spec_l21Split_l1 p0 p1 n v5 v6 i) (show (p0.size + 1) - i = 0 by omega)).trans (spec_l21Split_l1.eq_1 _ _ _ _ _))
    refine ad 6 ?_
    exact rz (rs := [.tmp 4]) (congrArg (fun x => [Re.sl ByteArray instDatByteArray x]) hM)

end Go.Proofs.YtnjidaonbcbphaaGreatDoor.Fw
/-
  Lines of a text: the reference and the program part it alike. No condition.
-/
namespace Go.Proofs.YtnjidaonbcbphaaGreatDoor.Fw
open Go.RowKit
set_option linter.unusedVariables false
set_option linter.unusedSimpArgs false
set_option maxRecDepth 100000
theorem part_pos (x : ByteArray) (h : ¬ (((spec_PartsOf x).1.length : Nat) : Int) = 0) : 0 < (nth (spec_PartsOf x).1 0).size := by
  have hc := (parts_facts x).1
  rw [PartsOf_twin] at hc
  generalize (spec_PartsOf x).1 = l at *
  cases l with
  | nil => exact absurd rfl h
  | cons a r =>
    have h1 := (hc a (List.mem_cons_self)).1
    show 0 < a.size
    have h2 := sbytes_length a
    rcases Nat.eq_zero_or_pos a.size with h3 | h3
    · exact absurd (List.length_eq_zero_iff.1 (h2.trans h3)) h1
    · exact h3
theorem hasHash {a : ByteArray} (h : 0 < a.size) : strings_HasPrefix a ⟨#[35]⟩ = decide (((byteAt a 0).toNat : Int) = 35) := by
  obtain ⟨⟨l⟩⟩ := a
  cases l with
  | nil => exact absurd h (Nat.lt_irrefl 0)
  | cons b t =>
    have e : cutS ⟨⟨b :: t⟩⟩ 0 (⟨#[35]⟩ : ByteArray).size = ⟨#[b]⟩ := by
      apply ByteArray.ext
      apply Array.toList_inj.1
      unfold cutS
      rw [Lib.extract_from_zero]
      rfl
    unfold strings_HasPrefix internal_stringslite_HasPrefix
    rw [e, decide_eq_true (show (((⟨⟨b :: t⟩⟩ : ByteArray).size : Int) ≥ ((⟨#[35]⟩ : ByteArray).size : Int)) from by show (((b :: t).length : Nat) : Int) ≥ 1; simp only [List.length_cons]; omega), Bool.true_and]
    show decide _ = decide ((b.toNat : Int) = 35)
    by_cases hb : b = 35
    · subst hb
      rfl
    · rw [decide_eq_false (fun e2 => hb (by injection e2 with e3; injection e3 with e4; injection e4)), decide_eq_false (fun e2 => hb (UInt8.toNat_inj.1 (by show b.toNat = 35; omega)))]
theorem ib_none {c : UInt8} : ∀ l : List UInt8, (∀ y ∈ l, y ≠ c) → Lib.indexByte l c = -1
  | [], _ => rfl
  | b :: l, h => by
    have h1 : (b == c) = false := beq_eq_false_iff_ne.2 (h b List.mem_cons_self)
    rw [Lib.indexByte, h1, ib_none l (fun y hy => h y (List.mem_cons_of_mem _ hy))]
    rfl
theorem ib_at {c : UInt8} : ∀ (k : Nat) (l : List UInt8), (∀ j, j < k → l[j]? ≠ some c) → l[k]? = some c → Lib.indexByte l c = k
  | 0, [], _, h => by cases h
  | 0, b :: l, _, h => by
    have h1 : (b == c) = true := beq_iff_eq.2 (by simpa using h)
    rw [Lib.indexByte, h1]
    rfl
  | k + 1, [], _, h => by cases h
  | k + 1, b :: l, hn, h => by
    have h1 : (b == c) = false := beq_eq_false_iff_ne.2 (fun e => hn 0 (by omega) (by rw [e]; rfl))
    have ih := ib_at k l (fun j hj => hn (j + 1) (by omega)) h
    rw [Lib.indexByte, h1, ih, if_neg (by decide), if_neg (by rw [beq_iff_eq]; omega)]
    omega
theorem linesS_miss {x : ByteArray} (h : Lib.indexB x ⟨#[10]⟩ = -1) : linesS x = [x] := Lib.splitB_miss _ _ _ _ h
theorem linesS_hit {x : ByteArray} {i : Nat} (h : Lib.indexB x ⟨#[10]⟩ = i) : linesS x = x.extract 0 i :: linesS (x.extract (i + 1) x.size) := by
  have hc := Lib.countB_hit x ⟨#[10]⟩ i (Nat.le_refl _) h
  unfold linesS
  rw [hc, Nat.add_comm 1, Lib.splitB_hit _ _ _ _ _ h]
  rfl
theorem byte_get {s : ByteArray} {j : Nat} (h : j < s.size) : s.data.toList[j]? = some (byteAt s j) := by
  unfold byteAt
  rw [Array.getD_eq_getD_getElem?, Array.getElem?_toList]
  have h' : j < s.data.size := h
  rw [Array.getElem?_eq_getElem h']
  rfl
theorem indexB_one (x : ByteArray) : Lib.indexB x ⟨#[10]⟩ = Lib.indexByte x.data.toList 10 := Lib.index_one _ _
theorem ext_ext (s : ByteArray) {b i : Nat} (hb : b ≤ i) (hi : i < s.size) : (s.extract b s.size).extract 0 (i - b) = s.extract b i ∧ (s.extract b s.size).extract (i - b + 1) (s.extract b s.size).size = s.extract (i + 1) s.size := by
  constructor
  · apply ByteArray.ext
    apply Array.toList_inj.1
    rw [Lib.extract_from_zero, Lib.extract_to_end, Lib.extract_data]
  · apply ByteArray.ext
    apply Array.toList_inj.1
    rw [Lib.extract_to_end, Lib.extract_to_end, Lib.extract_to_end, List.drop_drop]
    congr 1
    omega
theorem l21_is (p0 : ByteArray) : ∀ n i (v : List ByteArray) (b : Nat), i + n = p0.size → b ≤ i → (∀ j, b ≤ j → j < i → byteAt p0 j ≠ 10) → spec_l21Split_l1 p0 10 (n + 1) v (b : Int) i = v ++ linesS (p0.extract b p0.size) := by
  intro n
  induction n with
  | zero =>
    intro i v b hi hb hno
    obtain rfl : i = p0.size := by omega
    rw [spec_l21Split_l1, spec_l21Split_l1, decide_eq_true rfl]
    show v ++ [cutS p0 (b : Int).toNat p0.size] = _
    rw [Int.toNat_natCast, linesS_miss]
    · rfl
    · rw [indexB_one, Lib.extract_to_end]
      refine ib_none _ fun y hy => ?_
      obtain ⟨j, e⟩ := List.mem_iff_getElem?.1 hy
      rw [List.getElem?_drop] at e
      have hlt : b + j < p0.data.toList.length := (List.getElem?_eq_some_iff.1 e).1
      have hlt' : b + j < p0.size := by rw [Array.length_toList] at hlt; exact hlt
      rw [byte_get hlt'] at e
      injection e with e
      rw [← e]
      exact hno _ (by omega) hlt'
  | succ n ih =>
    intro i v b hi hb hno
    have hlt : i < p0.size := by omega
    rw [spec_l21Split_l1, decide_eq_false (show ¬ (i : Int) = (p0.size : Int) by omega), Bool.false_or]
    by_cases h10 : byteAt p0 i = 10
    · rw [h10, decide_eq_true rfl]
      show spec_l21Split_l1 p0 10 (n + 1) (v ++ [cutS p0 (b : Int).toNat i]) ((i + 1 : Nat) : Int) (i + 1) = _
      rw [ih (i + 1) _ (i + 1) (by omega) (Nat.le_refl _) (fun j h1 h2 => by omega), Int.toNat_natCast]
      have hx : Lib.indexB (p0.extract b p0.size) ⟨#[10]⟩ = ((i - b : Nat) : Int) := by
        rw [indexB_one, Lib.extract_to_end]
        refine ib_at _ _ (fun j hj e => ?_) ?_
        · rw [List.getElem?_drop, byte_get (by omega)] at e
          injection e with e
          exact hno (b + j) (by omega) (by omega) e
        · rw [List.getElem?_drop, show b + (i - b) = i by omega, byte_get hlt, h10]
      rw [linesS_hit hx, (ext_ext p0 hb hlt).1, (ext_ext p0 hb hlt).2, List.append_assoc]
      rfl
    · rw [decide_eq_false (show ¬ ((byteAt p0 i).toNat : Int) = (((10 : UInt8).toNat : Nat) : Int) from fun e => h10 (UInt8.toNat_inj.1 (by omega)))]
      show spec_l21Split_l1 p0 10 (n + 1) v (b : Int) (i + 1) = _
      refine ih (i + 1) v b (by omega) (by omega) fun j h1 h2 => ?_
      rcases Nat.lt_or_ge j i with h3 | h3
      · exact hno j h1 h3
      · obtain rfl : j = i := by omega
        exact h10
theorem l21_lines (p0 : ByteArray) : spec_l21Split p0 10 = linesS p0 := by
  unfold spec_l21Split
  rw [Nat.sub_zero]
  have := l21_is p0 p0.size 0 [] 0 (by omega) (Nat.le_refl _) (fun j _ h => absurd h (by omega))
  rw [show p0.extract 0 p0.size = p0 from by apply ByteArray.ext; apply Array.toList_inj.1; rw [Lib.extract_to_end]; rfl, List.nil_append] at this
  exact this
theorem split_lines (p0 : ByteArray) : strings_Split p0 ⟨#[10]⟩ = linesS p0 := rfl
theorem l21_len {p0 : ByteArray} (h : p0.size ≤ 12000) : (spec_l21Split p0 10).length ≤ 12001 := by
  have := linesS_le p0
  rw [l21_lines]
  omega
theorem split_len {p0 : ByteArray} (h : p0.size ≤ 12000) : (strings_Split p0 ⟨#[10]⟩).length ≤ 12001 := by
  have := linesS_le p0
  rw [split_lines]
  omega

end Go.Proofs.YtnjidaonbcbphaaGreatDoor.Fw

/-
  A step of the machine where an operation hangs on one that did not run. No condition.
-/
namespace Go.Proofs.YtnjidaonbcbphaaGreatDoor.Fw
open Go.RowKit
set_option maxRecDepth 100000
section
variable {fn : Func} {Bz : Bs} {S1 : Nat → Prop} {w1 : World} {hk1 : Keep Bz.S0 Bz.w w1} {hs1 : ∀ b, Bz.S0 b → S1 b} {hd1 : ∀ b, S1 b → b < w1.heap.size} {res : List Re} {σ σ' : St} {k k' : List It}
theorem adu (n : Nat) (h : Run (cx fn Bz S1 w1 hk1 hs1 hd1) res σ' k') (hs : advN ti zr n (some (σ, k)) = some (σ', k') := by dsimp only [undef, ncV, szA, cvV, rnR, rnE, V.rn, rnL, En.rn, dropE, memN, afterStE, an, stK, cdK, opK, gdK, nvK, cellsO, zcells, blK, bsK, stW, stV, ptK, litD, litC, pkV, wrV, binV, unV, ldV, faW, faV, agO, blV, exV, mfV, lenV, caV, fillT, fillS, stO', sdV, cons2, grdO, gBV, gPw, gPk, gGo, gK, gK1, gK2, tkK, tk1, rvsV, rvV, Nat.reduceAdd, Nat.reduceSub, Nat.reduceMul, advN, adv1, stO, litV, fillV, splice, pv, ev, evs, lk, lkE, setE, putE, put, cond, ldC, ldE, nthN, tuAt, bin, bi, bs, bb, ikq, TI.cells, V.cells, V.one, oneL, toBlk, grd, nthO, beqB, gB, wnt, gOp, adG, adG1, pickV, sideP, evG, V.side, V.strip, afterCall, afterIdx, afterApp, afterApp0, packV, bindRs, bindR, bindGs, bindG, bindAs, bindA, ini, slotsV, opn, nsl, adD, setAll, Str.fk, ti_1, ti_2, ti_3, ti_4, ti_5, ti_6, ti_7, ti_8, ti_9, ti_10, ti_11, ti_12, ti_13, ti_14, ti_15, ti_16, ti_17, ti_18, ti_19, ti_21, ti_22, ti_23, ti_24, ti_25, ti_26, ti_27, ti_28, ti_29, ti_30, ti_31, ti_32, ti_33, ti_34, ti_35, ti_36, ti_37, ti_38, ti_39, ti_40, ti_41, ti_42, ti_43, ti_44, ti_45, ti_46, ti_47, ti_48, ti_49, ti_50, ti_51, ti_52, ti_53, ti_54, ti_55, ti_56, ti_57, ti_58, ti_60, ti_61, ti_62, ti_63, ti_65, ti_66, ti_67, ti_69, ti_70, ti_71, ti_73, ti_74, ti_75, ti_76, ti_77, ti_78, ti_79, ti_80, ti_81, ti_82, ti_84, ti_85, ti_86, ti_87, ti_88, ti_89, ti_90, ti_91, ti_92, ti_93, ti_94, ti_95, ti_96, ti_97, ti_98, ti_99, ti_100, ti_101, ti_102, ti_103, ti_104, ti_105, ti_108, ti_109, ti_110, ti_111, ti_112, ti_113, ti_114, ti_116, ti_117, ti_118, ti_119, ti_120, ti_121, ti_122, ti_123, ti_124, ti_125, ti_126, ti_127, ti_128, ti_129, ti_130, ti_131, ti_132, ti_133, ti_134, ti_135, ti_136, ti_137, ti_138, ti_139, ti_140, ti_141, ti_142, ti_143, ti_144, ti_145, ti_146, ti_147, ti_148, ti_149, ti_150, ti_151, ti_152, ti_153, ti_154, ti_155, ti_156, ti_157, ti_158, ti_159, ti_160, ti_161, ti_162, ti_163, ti_164, ti_165, ti_166, ti_167, ti_168, ti_169, ti_170, ti_171, ti_172, ti_173, ti_174, ti_175, ti_176, ti_177, ti_178, ti_179, ti_180, ti_181, ti_182, ti_183, ti_187, ti_188, ti_189, ti_190, ti_191, ti_192, ti_193, ti_195, ti_196, ti_197, ti_198, ti_199, ti_200, ti_201, ti_202, ti_203, ti_204, ti_205, ti_206, ti_207, ti_208, ti_209, ti_210, ti_211, ti_212, ti_213, ti_215, ti_217, ti_218, ti_219, ti_220, ti_221, ti_222, ti_223, ti_224, ti_225, ti_226, ti_227, ti_229, ti_230, ti_231, ti_232, ti_233, ti_234, ti_235, ti_236, ti_237, ti_238, ti_239, ti_240, ti_241, ti_242, ti_243, ti_244, ti_245, ti_246, ti_247, ti_248, ti_249, ti_250, ti_251, ti_252, ti_253, ti_254, ti_255, ti_256, ti_258, ti_259, ti_262, ti_266, ti_267, ti_269, ti_272, ti_275, ti_281, ti_286, ti_290, ti_292, ti_293, ti_294, ti_303, ti_305, ti_307, zr_1, zr_2, zr_3, zr_4, zr_5, zr_6, zr_7, zr_8, zr_9, zr_10, zr_11, zr_12, zr_13, zr_14, zr_15, zr_16, zr_17, zr_18, zr_19, zr_21, zr_22, zr_23, zr_24, zr_25, zr_26, zr_27, zr_28, zr_29, zr_30, zr_31, zr_32, zr_33, zr_34, zr_35, zr_36, zr_37, zr_38, zr_39, zr_40, zr_41, zr_42, zr_43, zr_44, zr_45, zr_46, zr_47, zr_48, zr_49, zr_50, zr_51, zr_52, zr_53, zr_54, zr_55, zr_56, zr_57, zr_58, zr_60, zr_61, zr_62, zr_63, zr_65, zr_66, zr_67, zr_69, zr_70, zr_71, zr_73, zr_74, zr_75, zr_76, zr_77, zr_78, zr_79, zr_80, zr_81, zr_82, zr_84, zr_85, zr_86, zr_87, zr_88, zr_89, zr_90, zr_91, zr_92, zr_93, zr_94, zr_95, zr_96, zr_97, zr_98, zr_99, zr_100, zr_101, zr_102, zr_103, zr_104, zr_105, zr_108, zr_109, zr_110, zr_111, zr_112, zr_113, zr_114, zr_116, zr_117, zr_118, zr_119, zr_120, zr_121, zr_122, zr_123, zr_124, zr_125, zr_126, zr_127, zr_128, zr_129, zr_130, zr_131, zr_132, zr_133, zr_134, zr_135, zr_136, zr_137, zr_138, zr_139, zr_140, zr_141, zr_142, zr_143, zr_144, zr_145, zr_146, zr_147, zr_148, zr_149, zr_150, zr_151, zr_152, zr_153, zr_154, zr_155, zr_156, zr_157, zr_158, zr_159, zr_160, zr_161, zr_162, zr_163, zr_164, zr_165, zr_166, zr_167, zr_168, zr_169, zr_170, zr_171, zr_172, zr_173, zr_174, zr_175, zr_176, zr_177, zr_178, zr_179, zr_180, zr_181, zr_182, zr_183, zr_187, zr_188, zr_189, zr_190, zr_191, zr_192, zr_193, zr_195, zr_196, zr_197, zr_198, zr_199, zr_200, zr_201, zr_202, zr_203, zr_204, zr_205, zr_206, zr_207, zr_208, zr_209, zr_210, zr_211, zr_212, zr_213, zr_215, zr_217, zr_218, zr_219, zr_220, zr_221, zr_222, zr_223, zr_224, zr_225, zr_226, zr_227, zr_229, zr_230, zr_231, zr_232, zr_233, zr_234, zr_235, zr_236, zr_237, zr_238, zr_239, zr_240, zr_241, zr_242, zr_243, zr_244, zr_245, zr_246, zr_247, zr_248, zr_249, zr_250, zr_251, zr_252, zr_253, zr_254, zr_255, zr_256, zr_258, zr_259, zr_262, zr_266, zr_267, zr_269, zr_272, zr_275, zr_281, zr_286, zr_292, zr_293, zr_294, zr_303, zr_305, zr_307, Nat.blt, Nat.succ_eq_add_one, Nat.ble, Nat.beq, Nat.pred, Nat.add_zero, Nat.zero_add, Nat.add_eq, List.toList_toArray, List.length, List.length_cons, List.length_nil, List.take, List.drop, List.append_nil, List.nil_append, List.cons_append, List.map, List.take_succ_cons, List.take_zero, List.take_nil, List.drop_succ_cons, List.drop_zero, List.drop_nil, List.size_toArray, List.getD, id, Op.operands, Call.operands, Value.cells, Array.size_empty]) : Run (cx fn Bz S1 w1 hk1 hs1 hd1) res σ k := Run.advN n hs h
end
end Go.Proofs.YtnjidaonbcbphaaGreatDoor.Fw

/- Contracts: each call returns what the model says. By program (wip/am/gen2.py). -/
namespace Go.Proofs.YtnjidaonbcbphaaGreatDoor.Fw
open Go.RowKit
set_option linter.unusedVariables false
set_option maxRecDepth 100000

theorem fok24 : FnOk Tryz.prog 24 := ⟨_, Tryz.func24, rfl, by kernel_rfl⟩
theorem fok31 : FnOk Tryz.prog 31 := ⟨_, Tryz.func31, rfl, by kernel_rfl⟩
theorem fok111 : FnOk Tryz.prog 111 := ⟨_, Tryz.func111, rfl, by kernel_rfl⟩
theorem fok112 : FnOk Tryz.prog 112 := ⟨_, Tryz.func112, rfl, by kernel_rfl⟩
theorem fok113 : FnOk Tryz.prog 113 := ⟨_, Tryz.func113, rfl, by kernel_rfl⟩
/- F38 loop.example/g00974/spec.ScriptActs -/
def spec_ScriptActs_l1 (p0 : ByteArray) : Nat → (List Deed) → Nat → (List Deed) × Int
  | 0, v4, i => (v4, 0)
  | n + 1, v4, i => bif ((spec_PartsOf (nth (spec_l21Split p0 (10 : UInt8)) i)).2) && ((decide ((((spec_PartsOf (nth (spec_l21Split p0 (10 : UInt8)) i)).1).length : Int) = 0)) || (decide (((byteAt (nth ((spec_PartsOf (nth (spec_l21Split p0 (10 : UInt8)) i)).1) 0) 0).toNat : Int) = 35))) then (spec_ScriptActs_l1 p0 n v4 (i + 1)) else (bif (!((spec_ReadAct (nth (spec_l21Split p0 (10 : UInt8)) i)).2)) || (decide ((v4.length : Int) ≥ 60)) then (([] : List Deed), ((i + 1 : Nat) : Int)) else (spec_ScriptActs_l1 p0 n (v4 ++ [(spec_ReadAct (nth (spec_l21Split p0 (10 : UInt8)) i)).1]) (i + 1)))
def spec_ScriptActs (p0 : ByteArray) : (List Deed) × Int := bif decide ((p0.size : Int) > 12000) then (([] : List Deed), (-1)) else (spec_ScriptActs_l1 p0 (((spec_l21Split p0 (10 : UInt8)).length) - 0) ([] : List Deed) 0)
theorem c_spec_ScriptActs (p0 : ByteArray) : CTs 38 [.o (.c (.string p0))] [Re.sl Deed instDatDeed ((spec_ScriptActs p0).1), Re.c (.int .i64 ((spec_ScriptActs p0).2))] := by
  refine en Tryz.func38 Tryz.ntmps38 fun w hG hgd => ?_
  have hM := spec_ScriptActs.eq_1 p0
  refine ad 7 ?_
  refine op (l0) ?_
  refine ad 9 ?_
  refine cd (fun h1 => ?_) (fun h1 => ?_)
  ·
    have hM := hM.trans (bt h1)
    refine ad 6 ?_
    refine li 0 (d := instDatDeed) ([] : List Deed) ?_
    exact rz (rs := [.tmp 2, .tmp 3]) (congrArg (fun x => [Re.sl Deed instDatDeed x.1, Re.c (.int .i64 x.2)]) hM)
  ·
    have hM := hM.trans (bf h1)
    have hz1 : p0.size ≤ 12000 := by have := of_decide_eq_false h1; omega
    have hz2 := l21_len hz1
    refine ad 4 ?_
    refine og (clg (c_spec_l21Split p0 (10 : UInt8) (by first | assumption | omega | exact om)) fok111) fun hgq => ?_
    obtain ⟨hg2, _⟩ := hgq
    refine ad 8 ?_
    refine li 0 (d := instDatDeed) ([] : List Deed) ?_
    refine fz 1 ?_
    refine Run.loopM (ι := (List Deed) × Nat) (fun s => spec_ScriptActs_l1 p0 (((spec_l21Split p0 (10 : UInt8)).length) - s.2) s.1 s.2) (fun s => ⟨68, 2, [(4, .sl 1 s.1.length), (5, .sl 0 ((spec_l21Split p0 (10 : UInt8)).length)), (6, .v (.int .i64 (s.2 : Int)))], [(0, .ros ByteArray instDatByteArray (spec_l21Split p0 (10 : UInt8))), (1, .own Deed instDatDeed s.1)]⟩) (fun s => s.2 ≤ (spec_l21Split p0 (10 : UInt8)).length ∧ s.1.length ≤ s.2) (fun s => ((spec_l21Split p0 (10 : UInt8)).length) - s.2) (([] : List Deed), 0) [1, 0] [0, 1] hM (by exact ⟨by (try dsimp only); omega, by simp⟩) su (by decide) ?_
    rintro ⟨v4, i⟩ hv hE
    try dsimp only at hE
    obtain ⟨hi, hv0⟩ := hv
    try dsimp only at hi hv0
    refine ad 8 ?_
    refine cd (fun h3 => ?_) (fun h3 => ?_)
    ·
      have h3l : i < (spec_l21Split p0 (10 : UInt8)).length := by have := of_decide_eq_true h3; omega
      have hM := hE.trans ((congrArg (fun n => spec_ScriptActs_l1 p0 n v4 i) (show ((spec_l21Split p0 (10 : UInt8)).length) - i = (((spec_l21Split p0 (10 : UInt8)).length) - (i + 1)) + 1 by omega)).trans (spec_ScriptActs_l1.eq_2 _ _ _ _))
      refine ad 7 ?_
      refine op (ix (xs := (spec_l21Split p0 (10 : UInt8))) i om) ?_
      refine ad 1 ?_
      refine og (clg (c_spec_PartsOf (nth (spec_l21Split p0 (10 : UInt8)) i)) fok93) fun hgq => ?_
      obtain ⟨hg5, _⟩ := hgq
      refine ad 11 ?_
      refine Run.midO ⟨68, 2, [(4, .sl 0 v4.length), (5, .sl 1 ((spec_l21Split p0 (10 : UInt8)).length)), (6, .v (.int .i64 (i : Int))), (44, .v (.bool (((spec_PartsOf (nth (spec_l21Split p0 (10 : UInt8)) i)).2) && ((decide ((((spec_PartsOf (nth (spec_l21Split p0 (10 : UInt8)) i)).1).length : Int) = 0)) || (decide (((byteAt (nth ((spec_PartsOf (nth (spec_l21Split p0 (10 : UInt8)) i)).1) 0) 0).toNat : Int) = 35))))))], [(0, .own Deed instDatDeed v4), (1, .ros ByteArray instDatByteArray (spec_l21Split p0 (10 : UInt8)))]⟩ ?_ ?_
      · refine bc 33 (fun h6 => ?_) (fun h6 => ?_)
        ·
          refine adu 8 ?_
          refine Run.midO ⟨68, 2, [(4, .sl 0 v4.length), (5, .sl 1 ((spec_l21Split p0 (10 : UInt8)).length)), (6, .v (.int .i64 (i : Int))), (44, .v (.bool ((decide ((((spec_PartsOf (nth (spec_l21Split p0 (10 : UInt8)) i)).1).length : Int) = 0)) || (decide (((byteAt (nth ((spec_PartsOf (nth (spec_l21Split p0 (10 : UInt8)) i)).1) 0) 0).toNat : Int) = 35)))))], [(0, .own Deed instDatDeed v4), (1, .ros ByteArray instDatByteArray (spec_l21Split p0 (10 : UInt8)))]⟩ ?_ ?_
          · refine bc 37 (fun h7 => ?_) (fun h7 => ?_)
            ·
              refine ad 9 ?_
              exact Run.at [1, 0] [3, 2] (by first | exact su | (rw [h7]; exact su)) (by decide)
            ·
              have hp7 := of_decide_eq_false h7
              have hp8 := part_pos _ hp7
              refine ad 3 ?_
              refine fz 3 ?_
              have hg9 := good_nth (k := 0) hg5 om
              refine op (ix (xs := (spec_PartsOf (nth (spec_l21Split p0 (10 : UInt8)) i)).1) 0 om) ?_
              refine ad 3 ?_
              refine op (sx (s := (nth ((spec_PartsOf (nth (spec_l21Split p0 (10 : UInt8)) i)).1) 0)) 0 om) ?_
              refine ad 6 ?_
              exact Run.at [1, 0] [4, 3] (by first | exact su | (rw [h7]; exact su)) (by decide)
          exact Run.at [0, 1] [0, 1] (by first | exact su | (rw [h6]; exact su)) (by decide)
        ·
          refine adu 12 ?_
          exact Run.at [1, 0] [3, 2] (by first | exact su | (rw [h6]; exact su)) (by decide)
      refine cd (fun h10 => ?_) (fun h10 => ?_)
      ·
        have hM := hM.trans (bt h10)
        refine ad 4 ?_
        rw [wrapN (i := i) (by first | omega | exact om)]
        refine ad 2 ?_
        exact Run.again (v4, (i + 1)) [1, 0] [1, 0] ⟨by exact ⟨by (try dsimp only); omega, by (try dsimp only); ((try simp only [List.length_append, List.length_cons, List.length_nil]); omega)⟩, hM⟩ rfl (by show _ - _ < _ - _; (try dsimp only); omega) su (by decide)
      ·
        have hM := hM.trans (bf h10)
        refine ad 5 ?_
        refine op (ix (xs := (spec_l21Split p0 (10 : UInt8))) i om) ?_
        refine ad 1 ?_
        refine og (clg (c_spec_ReadAct (nth (spec_l21Split p0 (10 : UInt8)) i)) fok31) fun hgq => ?_
        obtain ⟨hg12, _⟩ := hgq
        refine ad 13 ?_
        refine ag 4 ?_
        refine ad 1 ?_
        refine cd (fun h13 => ?_) (fun h13 => ?_)
        ·
          have hM := hM.trans (bt h13)
          refine ad 2 ?_
          refine op (l0) ?_
          refine ad 2 ?_
          rw [wrapN (i := i) (by first | omega | exact om)]
          refine ad 3 ?_
          refine li 4 (d := instDatDeed) ([] : List Deed) ?_
          exact rz (rs := [.tmp 2, .tmp 3]) (congrArg (fun x => [Re.sl Deed instDatDeed x.1, Re.c (.int .i64 x.2)]) hM)
        ·
          have hM := hM.trans (bf h13)
          refine ad 5 ?_
          refine op (ap [(spec_ReadAct (nth (spec_l21Split p0 (10 : UInt8)) i)).1] (hg := gdt) (hb := by simp only [List.length_cons, List.length_nil]; first | omega | exact om)) ?_
          refine ad 6 ?_
          rw [wrapN (i := i) (by first | omega | exact om)]
          refine ad 2 ?_
          exact Run.again ((v4 ++ [(spec_ReadAct (nth (spec_l21Split p0 (10 : UInt8)) i)).1]), (i + 1)) [1, 5] [4, 3] ⟨by exact ⟨by (try dsimp only); omega, by (try dsimp only); ((try simp only [List.length_append, List.length_cons, List.length_nil]); omega)⟩, hM⟩ rfl (by show _ - _ < _ - _; (try dsimp only); omega) su (by decide)
    ·
      have h3l : ¬ (i < (spec_l21Split p0 (10 : UInt8)).length) := by have := of_decide_eq_false h3; omega
      have hM := hE.trans ((congrArg (fun n => spec_ScriptActs_l1 p0 n v4 i) (show ((spec_l21Split p0 (10 : UInt8)).length) - i = 0 by omega)).trans (spec_ScriptActs_l1.eq_1 _ _ _))
      refine ad 7 ?_
      exact rz (rs := [.tmp 2, .tmp 3]) (congrArg (fun x => [Re.sl Deed instDatDeed x.1, Re.c (.int .i64 x.2)]) hM)

/- F39 loop.example/g00974/impl.ScriptActs -/
def impl_ScriptActs_l1 (p0 : ByteArray) : Nat → (List Deed) → Nat → (List Deed) × Int
  | 0, v4, i => (v4, 0)
  | n + 1, v4, i => bif ((impl_PartsOf (nth (strings_Split p0 ⟨#[10]⟩) i)).2) && ((decide ((((impl_PartsOf (nth (strings_Split p0 ⟨#[10]⟩) i)).1).length : Int) = 0)) || (strings_HasPrefix (nth ((impl_PartsOf (nth (strings_Split p0 ⟨#[10]⟩) i)).1) 0) ⟨#[35]⟩)) then (impl_ScriptActs_l1 p0 n v4 (i + 1)) else (bif (!((impl_ReadAct (nth (strings_Split p0 ⟨#[10]⟩) i)).2)) || (decide ((v4.length : Int) = 60)) then ([], ((i + 1 : Nat) : Int)) else (impl_ScriptActs_l1 p0 n (v4 ++ [(impl_ReadAct (nth (strings_Split p0 ⟨#[10]⟩) i)).1]) (i + 1)))
def impl_ScriptActs (p0 : ByteArray) : (List Deed) × Int := bif decide ((p0.size : Int) > 12000) then ([], (-1)) else (impl_ScriptActs_l1 p0 (((strings_Split p0 ⟨#[10]⟩).length) - 0) [] 0)
theorem c_impl_ScriptActs (p0 : ByteArray) : CTs 39 [.o (.c (.string p0))] [Re.sl Deed instDatDeed ((impl_ScriptActs p0).1), Re.c (.int .i64 ((impl_ScriptActs p0).2))] := by
  refine en Tryz.func39 Tryz.ntmps39 fun w hG hgd => ?_
  have hM := impl_ScriptActs.eq_1 p0
  refine ad 12 ?_
  refine cd (fun h1 => ?_) (fun h1 => ?_)
  ·
    have hM := hM.trans (bt h1)
    refine ad 5 ?_
    exact rz (rs := [.tmp 2, .tmp 3]) (congrArg (fun x => [Re.sl Deed instDatDeed x.1, Re.c (.int .i64 x.2)]) hM)
  ·
    have hM := hM.trans (bf h1)
    have hz1 : p0.size ≤ 12000 := by have := of_decide_eq_false h1; omega
    have hz3 : p0.size ≤ 1048576 := by omega
    have hz2 := split_len hz1
    refine ad 9 ?_
    refine og (clg (c_strings_Split p0 ⟨#[10]⟩ rfl (by first | assumption | exact om)) fok112) fun hgq => ?_
    obtain ⟨hg2, _⟩ := hgq
    refine ad 4 ?_
    refine Run.nil 4 (α := Deed) (d := instDatDeed) rfl ?_
    refine fz 0 ?_
    refine Run.loopM (ι := (List Deed) × Nat) (fun s => impl_ScriptActs_l1 p0 (((strings_Split p0 ⟨#[10]⟩).length) - s.2) s.1 s.2) (fun s => ⟨58, 2, [(4, .sl 1 s.1.length), (14, .sl 0 ((strings_Split p0 ⟨#[10]⟩).length)), (15, .v (.int .i64 ((strings_Split p0 ⟨#[10]⟩).length : Int))), (16, .v (.int .i64 (s.2 : Int)))], [(0, .ros ByteArray instDatByteArray (strings_Split p0 ⟨#[10]⟩)), (1, .own Deed instDatDeed s.1)]⟩) (fun s => s.2 ≤ (strings_Split p0 ⟨#[10]⟩).length ∧ s.1.length ≤ s.2) (fun s => ((strings_Split p0 ⟨#[10]⟩).length) - s.2) ([], 0) [0, 1] [1, 0] hM (by exact ⟨by (try dsimp only); omega, by simp⟩) su (by decide) ?_
    rintro ⟨v4, i⟩ hv hE
    try dsimp only at hE
    obtain ⟨hi, hv0⟩ := hv
    try dsimp only at hi hv0
    refine ad 5 ?_
    refine cd (fun h3 => ?_) (fun h3 => ?_)
    ·
      have h3l : i < (strings_Split p0 ⟨#[10]⟩).length := by have := of_decide_eq_true h3; omega
      have hM := hE.trans ((congrArg (fun n => impl_ScriptActs_l1 p0 n v4 i) (show ((strings_Split p0 ⟨#[10]⟩).length) - i = (((strings_Split p0 ⟨#[10]⟩).length) - (i + 1)) + 1 by omega)).trans (impl_ScriptActs_l1.eq_2 _ _ _ _))
      refine ad 6 ?_
      refine op (ix (xs := (strings_Split p0 ⟨#[10]⟩)) i om) ?_
      refine ad 7 ?_
      refine og (clg (c_impl_PartsOf (nth (strings_Split p0 ⟨#[10]⟩) i) (good_nths hg2 _)) fok33) fun hgq => ?_
      obtain ⟨hg5, _⟩ := hgq
      refine ad 11 ?_
      refine Run.midO ⟨58, 2, [(4, .sl 0 v4.length), (5, .v (.int .i64 (i : Int))), (6, .v (.string (nth (strings_Split p0 ⟨#[10]⟩) i))), (14, .sl 1 ((strings_Split p0 ⟨#[10]⟩).length)), (15, .v (.int .i64 ((strings_Split p0 ⟨#[10]⟩).length : Int))), (16, .v (.int .i64 (i : Int))), (37, .v (.bool (((impl_PartsOf (nth (strings_Split p0 ⟨#[10]⟩) i)).2) && ((decide ((((impl_PartsOf (nth (strings_Split p0 ⟨#[10]⟩) i)).1).length : Int) = 0)) || (strings_HasPrefix (nth ((impl_PartsOf (nth (strings_Split p0 ⟨#[10]⟩) i)).1) 0) ⟨#[35]⟩)))))], [(0, .own Deed instDatDeed v4), (1, .ros ByteArray instDatByteArray (strings_Split p0 ⟨#[10]⟩))]⟩ ?_ ?_
      · refine bc 27 (fun h6 => ?_) (fun h6 => ?_)
        ·
          refine adu 8 ?_
          refine Run.midO ⟨58, 2, [(4, .sl 0 v4.length), (5, .v (.int .i64 (i : Int))), (6, .v (.string (nth (strings_Split p0 ⟨#[10]⟩) i))), (14, .sl 1 ((strings_Split p0 ⟨#[10]⟩).length)), (15, .v (.int .i64 ((strings_Split p0 ⟨#[10]⟩).length : Int))), (16, .v (.int .i64 (i : Int))), (37, .v (.bool ((decide ((((impl_PartsOf (nth (strings_Split p0 ⟨#[10]⟩) i)).1).length : Int) = 0)) || (strings_HasPrefix (nth ((impl_PartsOf (nth (strings_Split p0 ⟨#[10]⟩) i)).1) 0) ⟨#[35]⟩))))], [(0, .own Deed instDatDeed v4), (1, .ros ByteArray instDatByteArray (strings_Split p0 ⟨#[10]⟩))]⟩ ?_ ?_
          · refine bc 31 (fun h7 => ?_) (fun h7 => ?_)
            ·
              refine ad 8 ?_
              exact Run.at [1, 0] [3, 2] (by first | exact su | (rw [h7]; exact su)) (by decide)
            ·
              have hp7 := of_decide_eq_false h7
              refine ad 3 ?_
              refine fz 3 ?_
              have hg9 := good_nth (k := 0) hg5 om
              refine op (ix (xs := (impl_PartsOf (nth (strings_Split p0 ⟨#[10]⟩) i)).1) 0 om) ?_
              refine ad 3 ?_
              refine op (cl (c_strings_HasPrefix (nth ((impl_PartsOf (nth (strings_Split p0 ⟨#[10]⟩) i)).1) 0) ⟨#[35]⟩) fok113) ?_
              refine ad 4 ?_
              exact Run.at [1, 0] [4, 3] (by first | exact su | (rw [h7]; exact su)) (by decide)
          exact Run.at [0, 1] [0, 1] (by first | exact su | (rw [h6]; exact su)) (by decide)
        ·
          refine adu 11 ?_
          exact Run.at [1, 0] [3, 2] (by first | exact su | (rw [h6]; exact su)) (by decide)
      refine cd (fun h10 => ?_) (fun h10 => ?_)
      ·
        have hM := hM.trans (bt h10)
        refine ad 3 ?_
        rw [wrapN (i := i) (by first | omega | exact om)]
        refine ad 2 ?_
        exact Run.again (v4, (i + 1)) [1, 0] [1, 0] ⟨by exact ⟨by (try dsimp only); omega, by (try dsimp only); ((try simp only [List.length_append, List.length_cons, List.length_nil]); omega)⟩, hM⟩ rfl (by show _ - _ < _ - _; (try dsimp only); omega) su (by decide)
      ·
        have hM := hM.trans (bf h10)
        refine ad 4 ?_
        refine og (clg (c_impl_ReadAct (nth (strings_Split p0 ⟨#[10]⟩) i) (good_nths hg2 _)) fok24) fun hgq => ?_
        obtain ⟨hg11, _⟩ := hgq
        refine ad 13 ?_
        refine ag 4 ?_
        refine ad 1 ?_
        refine cd (fun h12 => ?_) (fun h12 => ?_)
        ·
          have hM := hM.trans (bt h12)
          refine ad 4 ?_
          rw [wrapN (i := i) (by first | omega | exact om)]
          refine ad 3 ?_
          exact rz (rs := [.tmp 2, .tmp 3]) (congrArg (fun x => [Re.sl Deed instDatDeed x.1, Re.c (.int .i64 x.2)]) hM)
        ·
          have hM := hM.trans (bf h12)
          refine ad 5 ?_
          refine op (ap [(impl_ReadAct (nth (strings_Split p0 ⟨#[10]⟩) i)).1] (hg := gdt) (hb := by simp only [List.length_cons, List.length_nil]; first | omega | exact om)) ?_
          refine ad 5 ?_
          rw [wrapN (i := i) (by first | omega | exact om)]
          refine ad 2 ?_
          exact Run.again ((v4 ++ [(impl_ReadAct (nth (strings_Split p0 ⟨#[10]⟩) i)).1]), (i + 1)) [1, 4] [3, 2] ⟨by exact ⟨by (try dsimp only); omega, by (try dsimp only); ((try simp only [List.length_append, List.length_cons, List.length_nil]); omega)⟩, hM⟩ rfl (by show _ - _ < _ - _; (try dsimp only); omega) su (by decide)
    ·
      have h3l : ¬ (i < (strings_Split p0 ⟨#[10]⟩).length) := by have := of_decide_eq_false h3; omega
      have hM := hE.trans ((congrArg (fun n => impl_ScriptActs_l1 p0 n v4 i) (show ((strings_Split p0 ⟨#[10]⟩).length) - i = 0 by omega)).trans (impl_ScriptActs_l1.eq_1 _ _ _))
      refine ad 7 ?_
      exact rz (rs := [.tmp 2, .tmp 3]) (congrArg (fun x => [Re.sl Deed instDatDeed x.1, Re.c (.int .i64 x.2)]) hM)

end Go.Proofs.YtnjidaonbcbphaaGreatDoor.Fw
/- Contracts: each call returns what the model says. By program (wip/gen). -/
namespace Go.Proofs.YtnjidaonbcbphaaGreatDoor.Fw
open Go.RowKit
set_option linter.unusedVariables false
set_option linter.unusedSimpArgs false



/- F70 loop.example/g00974/laws.markText -/
def laws_markText_l1_after (p0 : Int) (s1_0 : Int) (s1_3 : ByteArray) : ByteArray := ((⟨#[109]⟩ : ByteArray) ++ s1_3)
def laws_markText_l1 (p0 : Int) : Nat → Int → ByteArray → ByteArray
  | 0, s1_0, s1_3 => laws_markText_l1_after p0 s1_0 s1_3
  | fu1 + 1, s1_0, s1_3 => if (decide (s1_0 > 0)) = true then laws_markText_l1 p0 fu1 (s1_0 / 10) ((strOfNums [IntKind.u8.wrap (48 + (s1_0 % 10))]) ++ s1_3) else laws_markText_l1_after p0 s1_0 s1_3
def laws_markText (p0 : Int) : ByteArray := (if (decide (p0 ≤ 0)) = true then (⟨#[109, 48]⟩ : ByteArray) else laws_markText_l1 p0 (p0.toNat) p0 (⟨#[]⟩ : ByteArray))
theorem c_laws_markText (p0 : Int) {w : World} (hi0 : I64 p0) :
    Calls Tryz.prog 70 [.int .i64 p0].toArray w (fun e w' => e = .returned (.string (laws_markText p0)) ∧ Below w.heap.size w w') := by
  refine enter Tryz.func70 rfl Tryz.ntmps70 (Nat.le_of_ble_eq_true rfl) ?_
  intro a0 hE0
  have hS0 := SH.start w
  have hM := laws_markText.eq_1 p0
  have hij0 : -9223372036854775808 ≤ p0 ∧ p0 ≤ 9223372036854775807 := hi0
  refine wp_seq (wp_region_lit ?_)
  refine st_val hE0 (y_assign hE0 rfl) rfl fun a1 hE1 => wpList_nil ?_
  clear hE0
  clear a0
  refine then_normal ?_
  refine wp_seq (wp_seq (wp_region_lit ?_))
  refine st_val hE1 (y_move hE1 rfl) rfl fun a2 hE2 => st_val hE2 (y_leq hE2 rfl rfl) rfl fun a3 hE3 => wpList_nil ?_
  clear hE1 hE2
  clear a1 a2
  refine then_normal ?_
  refine cond_split hE3 rfl (fun hb4 => ?_) (fun hb4 => ?_)
  ·
    have hM := hM.trans (if_t hb4)
    have hb4f : p0 ≤ 0 := of_decide_eq_true hb4
    refine wp_seq (wp_region_lit ?_)
    refine st_val hE3 (y_assign hE3 rfl) rfl fun a5 hE5 => wpList_nil ?_
    clear hE3
    clear a3
    refine then_normal ?_
    refine wp_ret ?_
    refine then_ret ?_
    exact fin1 hE5 rfl rfl ⟨by rw [hM], hS0.below⟩
  ·
    have hM := hM.trans (if_f hb4)
    have hb4f : ¬ (p0 ≤ 0) := of_decide_eq_false hb4
    refine wp_skip ?_
    refine then_normal ?_
    refine wp_seq (wp_region_lit ?_)
    refine st_val hE3 (y_assign hE3 rfl) rfl fun a6 hE6 => wpList_nil ?_
    clear hE3
    clear a3
    refine then_normal ?_
    refine wp_seq (wp_block (wp_loop_ghost (fun fu1 a w2 => ∃ (s1_0 : Int) (s1_3 : ByteArray), s1_0.toNat ≤ fu1 ∧ dig s1_3.size s1_0 ∧ I64 s1_0 ∧ laws_markText p0 = laws_markText_l1 p0 fu1 s1_0 s1_3 ∧ Env 20 [(0, .int .i64 s1_0), (3, .string s1_3)] a ∧ SH (Old w) w w2 []) (p0.toNat) ⟨p0, (⟨#[]⟩ : ByteArray), Nat.le_refl _, (dig_start (by omega)), hi0, hM, hE6.weaken ⟨rfl, rfl, trivial⟩, hS0⟩ ?_))
    clear hM hE6
    rintro fu1 a7 w7 ⟨s1_0, s1_3, hme1, hin1_0, hgis1_0, hM, hE7, hS7⟩
    have hgjs1_0 : -9223372036854775808 ≤ s1_0 ∧ s1_0 ≤ 9223372036854775807 := hgis1_0
    refine wp_seq (wp_seq (wp_region_lit ?_))
    refine st_val hE7 (y_move hE7 rfl) rfl fun a8 hE8 => st_val hE8 (y_gtr hE8 rfl rfl) rfl fun a9 hE9 => wpList_nil ?_
    clear hE7 hE8
    clear a7 a8
    refine then_normal ?_
    refine cond_split hE9 rfl (fun hb10 => ?_) (fun hb10 => ?_)
    ·
      have hb10f : s1_0 > 0 := of_decide_eq_true hb10
      obtain ⟨fu1, rfl⟩ : ∃ m, fu1 = m + 1 := ⟨fu1 - 1, by omega⟩
      have hM := hM.trans ((laws_markText_l1.eq_2 _ _ _ _).trans (if_t hb10))
      refine wp_skip ?_
      refine then_normal ?_
      refine wp_block (wp_seq (wp_region_lit ?_))
      refine st_val hE9 (y_move hE9 rfl) rfl fun a11 hE11 => st_val hE11 (y_rem_in hE11 rfl rfl (by decide) (by omega)) rfl fun a12 hE12 => st_val hE12 (y_add_in hE12 rfl rfl (m := 48 + (s1_0 % 10)) rfl (by omega) (by omega)) rfl fun a13 hE13 => st_val hE13 (y_convI hE13 rfl cv3_5) rfl fun a14 hE14 => st_lit (is := [0]) (vs := [.int .u8 (IntKind.u8.wrap (48 + (s1_0 % 10)))]) (cs := [.int .u8 (IntKind.u8.wrap (48 + (s1_0 % 10)))]) (e := 5) hE14 hS7 rfl rfl (by kernel_rfl) rfl fun b15 w15 hS15 a16 hE16 => st_val hE16 (y_bytesStr (xs := [IntKind.u8.wrap (48 + (s1_0 % 10))]) hE16 rfl Tryz.underlying51 Tryz.underlying5 Tryz.underlying9 rfl (hS15.cells (k := 0) rfl)) rfl fun a17 hE17 => st_val hE17 (y_move hE17 rfl) rfl fun a18 hE18 => st_val hE18 (y_cat hE18 rfl rfl (by have h := hin1_0.1; first | omega | (simp only [ByteArray.size, List.size_toArray, List.length] at *; omega) | (rw [strOfNums_size]; simp only [List.length]; omega))) rfl fun a19 hE19 => st_val hE19 (y_assign hE19 rfl) rfl fun a20 hE20 => wpList_nil ?_
      clear hE9 hE11 hE12 hE13 hE14 hE16 hE17 hE18 hE19
      clear a9 a11 a12 a13 a14 a16 a17 a18 a19
      refine then_normal ?_
      refine wp_region_lit ?_
      refine st_val hE20 (y_move hE20 rfl) rfl fun a21 hE21 => st_val hE21 (y_quo_in hE21 rfl rfl (by decide) (by omega) (by omega) (by omega)) rfl fun a22 hE22 => st_val hE22 (y_assign hE22 rfl) rfl fun a23 hE23 => wpList_nil ?_
      clear hE20 hE21 hE22
      clear a20 a21 a22
      refine blk_normal ?_
      refine then_normal ⟨fu1, Nat.lt_succ_self _, s1_0 / 10, ((strOfNums [IntKind.u8.wrap (48 + (s1_0 % 10))]) ++ s1_3), by omega, (by rw [ByteArray.size_append, strOfNums_size]; show dig (1 + _) _; rw [Nat.add_comm]; exact dig_step hin1_0 (by omega)), (by unfold I64; omega), hM, hE23.weaken ⟨rfl, rfl, trivial⟩, (hS15.drop (k := 1))⟩
    ·
      have hb10f : ¬ (s1_0 > 0) := of_decide_eq_false hb10
      have hM := hM.trans (show laws_markText_l1 p0 fu1 s1_0 s1_3 = laws_markText_l1_after p0 s1_0 s1_3 from by cases fu1 with | zero => exact laws_markText_l1.eq_1 _ _ _ | succ m => exact (laws_markText_l1.eq_2 _ _ _ _).trans (if_f hb10))
      have hM := hM.trans (laws_markText_l1_after.eq_1 _ _ _)
      refine wp_exit ?_
      refine then_exit ?_
      refine then_exit ?_
      refine blk_exit ?_
      refine then_normal ?_
      refine wp_seq (wp_region_lit ?_)
      refine st_val hE9 (y_move hE9 rfl) rfl fun a24 hE24 => st_val hE24 (y_cat hE24 rfl rfl (by have h := hin1_0.1; first | omega | (simp only [ByteArray.size, List.size_toArray, List.length] at *; omega) | (rw [strOfNums_size]; simp only [List.length]; omega))) rfl fun a25 hE25 => st_val hE25 (y_assign hE25 rfl) rfl fun a26 hE26 => wpList_nil ?_
      clear hE9 hE24 hE25
      clear a9 a24 a25
      refine then_normal ?_
      refine wp_ret ?_
      exact fin1 hE26 rfl rfl ⟨by rw [hM], hS7.below⟩

theorem laws_markText_l1_size (p0 : Int) : ∀ (fu : Nat) (s : Int) (o : ByteArray), dig o.size s → (laws_markText_l1 p0 fu s o).size ≤ 20 := by
  intro fu
  induction fu with
  | zero =>
    intro s o h
    have := h.1
    simp only [laws_markText_l1, laws_markText_l1_after, ByteArray.size_append]
    show 1 + o.size ≤ 20
    omega
  | succ m ih =>
    intro s o h
    rw [laws_markText_l1]
    split
    · rename_i hs
      refine ih _ _ ?_
      rw [ByteArray.size_append, strOfNums_size]
      show dig (1 + _) _
      rw [Nat.add_comm]
      exact dig_step h (of_decide_eq_true hs)
    · have := h.1
      simp only [laws_markText_l1_after, ByteArray.size_append]
      show 1 + o.size ≤ 20
      omega
theorem laws_markText_good {p0 : Int} (h : I64 p0) : (laws_markText p0).size ≤ maxLen := by
  have e : (laws_markText p0).size ≤ 20 := by
    unfold laws_markText
    split
    · decide
    · exact laws_markText_l1_size _ _ _ _ (dig_start h.2)
  unfold maxLen
  omega

end Go.Proofs.YtnjidaonbcbphaaGreatDoor.Fw

/- Contracts: each call returns what the model says. By program (wip/gen). -/
namespace Go.Proofs.YtnjidaonbcbphaaGreatDoor.Fw
open Go.RowKit
set_option linter.unusedVariables false
set_option linter.unusedSimpArgs false

theorem fa54_0 : chkField Tryz.prog 54 0 0 = true := by kernel_rfl
theorem fa54_1 : chkField Tryz.prog 54 1 1 = true := by kernel_rfl
theorem fa54_2 : chkField Tryz.prog 54 2 2 = true := by kernel_rfl
theorem fa54_3 : chkField Tryz.prog 54 3 3 = true := by kernel_rfl
theorem fa54_4 : chkField Tryz.prog 54 4 4 = true := by kernel_rfl
theorem fa54_5 : chkField Tryz.prog 54 5 5 = true := by kernel_rfl
theorem fa56_0 : chkField Tryz.prog 56 0 0 = true := by kernel_rfl
theorem fa56_1 : chkField Tryz.prog 56 1 1 = true := by kernel_rfl
theorem fa56_2 : chkField Tryz.prog 56 2 2 = true := by kernel_rfl
theorem fa56_3 : chkField Tryz.prog 56 3 3 = true := by kernel_rfl
theorem fb70 : Tryz.f70.body.isNone = false := rfl
theorem fn70 : (Tryz.f70.name == "runtime.NumGoroutine") = false := by kernel_rfl
theorem one3 : chkOne Tryz.prog 3 = true := by kernel_rfl
theorem one9 : chkOne Tryz.prog 9 = true := by kernel_rfl
theorem sl71 : chkSlice Tryz.prog 71 56 9 96 = true := by kernel_rfl

/- F41 loop.example/g00974/laws.markActS -/
def laws_markActS_l1 (p0 : List Deed) (p1 : Int) : Nat → Nat → Int → List Deed → List Deed × Int
  | 0, i1, s1_1, y1_m0 => (y1_m0, s1_1)
  | fu1 + 1, i1, s1_1, y1_m0 => laws_markActS_l1 p0 p1 fu1 (i1 + 1) (IntKind.i64.wrap (IntKind.i64.wrap (IntKind.i64.wrap (IntKind.i64.wrap (IntKind.i64.wrap (IntKind.i64.wrap (IntKind.i64.wrap (IntKind.i64.wrap (IntKind.i64.wrap (s1_1 + 1) + 1) + 1) + 1) + 1) + 1) + 1) + 1) + 1)) (y1_m0.set i1 (Deed.mk s1_1 (IntKind.i64.wrap (s1_1 + 1)) (IntKind.i64.wrap (IntKind.i64.wrap (s1_1 + 1) + 1)) (Call.mk (IntKind.i64.wrap (IntKind.i64.wrap (IntKind.i64.wrap (s1_1 + 1) + 1) + 1)) (laws_markText (IntKind.i64.wrap (IntKind.i64.wrap (IntKind.i64.wrap (IntKind.i64.wrap (s1_1 + 1) + 1) + 1) + 1))) (laws_markText (IntKind.i64.wrap (IntKind.i64.wrap (IntKind.i64.wrap (IntKind.i64.wrap (IntKind.i64.wrap (s1_1 + 1) + 1) + 1) + 1) + 1))) (IntKind.i64.wrap (IntKind.i64.wrap (IntKind.i64.wrap (IntKind.i64.wrap (IntKind.i64.wrap (IntKind.i64.wrap (s1_1 + 1) + 1) + 1) + 1) + 1) + 1)) (IntKind.i64.wrap (IntKind.i64.wrap (IntKind.i64.wrap (IntKind.i64.wrap (IntKind.i64.wrap (IntKind.i64.wrap (IntKind.i64.wrap (s1_1 + 1) + 1) + 1) + 1) + 1) + 1) + 1)) (laws_markText (IntKind.i64.wrap (IntKind.i64.wrap (IntKind.i64.wrap (IntKind.i64.wrap (IntKind.i64.wrap (IntKind.i64.wrap (IntKind.i64.wrap (IntKind.i64.wrap (s1_1 + 1) + 1) + 1) + 1) + 1) + 1) + 1) + 1))))))
def laws_markActS (p0 : List Deed) (p1 : Int) : List Deed × Int := laws_markActS_l1 p0 p1 (p0.length - 0) 0 p1 p0
theorem c_laws_markActS {v0 : Value} (p0 : List Deed) {F0 : List Nat} (p1 : Int) {w : World} (hMu0 : SH (Off [Ck.own (α := List Deed) [v0] p0 F0] w) w w [Ck.own (α := List Deed) [v0] p0 F0]) (hi1 : I64 p1) :
    Calls Tryz.prog 41 [v0, .int .i64 p1].toArray w (fun e w' => e = .returned (.int .i64 (laws_markActS p0 p1).2) ∧ I64 (laws_markActS p0 p1).2 ∧ ∃ F', SH (Off [Ck.own (α := List Deed) [v0] p0 F0] w) w w' [Ck.own (α := List Deed) [v0] (laws_markActS p0 p1).1 F']) := by
  obtain ⟨A0, cap0, rfl, hx0⟩ := (hMu0.slO (k := 0) rfl).form
  refine enter Tryz.func41 rfl Tryz.ntmps41 (Nat.le_of_ble_eq_true rfl) ?_
  intro a0 hE0
  have hS0 := hMu0
  have hM := laws_markActS.eq_1 p0 p1
  have hij1 : -9223372036854775808 ≤ p1 ∧ p1 ≤ 9223372036854775807 := hi1
  refine wp_seq (wp_region_lit ?_)
  refine st_val hE0 (y_assign hE0 rfl) rfl fun a1 hE1 => wpList_nil ?_
  clear hE0
  clear a0
  refine then_normal ?_
  refine wp_seq (wp_seq (wp_region_lit ?_))
  refine st_val hE1 (y_assign hE1 rfl) rfl fun a2 hE2 => wpList_nil ?_
  clear hE1
  clear a1
  refine then_normal ?_
  refine wp_block (wp_loop_ghost (fun fu1 a w2 => ∃ (i1 : Nat) (s1_1 : Int) (y1_m0 : List Deed) (Fy1_m0 : List Nat), 0 ≤ i1 ∧ fu1 = p0.length - i1 ∧ (i1 ≤ p0.length ∨ i1 = 0) ∧ I64 s1_1 ∧ laws_markActS p0 p1 = laws_markActS_l1 p0 p1 fu1 i1 s1_1 y1_m0 ∧ Env 85 [(0, .slice A0 p0.length cap0), (1, .int .i64 s1_1), (5, .int .i64 (i1 : Int))] a ∧ SH (Off [Ck.own (α := List Deed) [.slice A0 p0.length cap0] p0 F0] w) w w2 [Ck.own (α := List Deed) [.slice A0 p0.length cap0] y1_m0 Fy1_m0]) (p0.length - 0) ⟨0, p1, p0, F0, Nat.le_refl _, rfl, .inr rfl, hi1, hM, hE2.weaken ⟨rfl, rfl, rfl, trivial⟩, hS0⟩ ?_)
  clear hM hE2
  rintro fu1 a3 w3 ⟨i1, s1_1, y1_m0, Fy1_m0, hi1, hfu1, hup1, hgis1_1, hM, hE3, hS3⟩
  have hlry1_m0 := hS3.lenrow (k := 0) rfl
  refine wp_seq (wp_seq (wp_region_lit ?_))
  refine st_val hE3 (y_move hE3 rfl) rfl fun a4 hE4 => st_val hE4 (y_move hE4 rfl) rfl fun a5 hE5 => st_val hE5 (y_len_slice hE5 rfl sl71) rfl fun a6 hE6 => st_val hE6 (y_lss hE6 rfl rfl) rfl fun a7 hE7 => wpList_nil ?_
  clear hE3 hE4 hE5 hE6
  clear a3 a4 a5 a6
  refine then_normal ?_
  refine cond_split hE7 rfl (fun hb8 => ?_) (fun hb8 => ?_)
  ·
    have hlt1 : i1 < p0.length := by have := of_decide_eq_true hb8; omega
    obtain ⟨fu1, rfl⟩ : ∃ m, fu1 = m + 1 := ⟨fu1 - 1, by omega⟩
    have hM := hM.trans (laws_markActS_l1.eq_2 _ _ _ _ _ _)
    refine wp_skip ?_
    refine then_normal ?_
    refine wp_seq (wp_block (wp_seq (wp_region_lit ?_)))
    refine st_val hE7 (y_move hE7 rfl) rfl fun a9 hE9 => st_val hE9 (y_move hE9 rfl) rfl fun a10 hE10 => st_val hE10 (y_move hE10 rfl) rfl fun a11 hE11 => ?_
    clear hE7 hE9 hE10
    clear a7 a9 a10
    have hlr12 := hS3.lenrow (k := 0) rfl
    obtain ⟨g12, ce12, Fo12, G12, hA12, hn12, hF12⟩ := SH.focus (L := []) hS3 (i := i1) (by omega)
    obtain ⟨rfl, rfl, hg12_0, hg12_1, hg12_2, hg12_3, hg12_4, hg12_5, hg12_6, hg12_7, hg12_8, _⟩ := Deed_oopen (show Dat.own w3 ce12 (nth y1_m0 i1) G12 from hF12.get (k := 0) rfl)
    have hS13 := hF12.drop (k := 1)
    refine st_val hE11 (y_indexAddr (A := ⟨g12, 0, none⟩) hE11 (congrArg (fun A => some (Value.slice A p0.length cap0)) hA12) rfl (by omega) (by omega) sl71) rfl fun a14 hE14 => st_val hE14 (y_fieldAddr hE14 rfl fa56_0 rfl) rfl fun a15 hE15 => st_storeE (α := Deed) (k := 0) hE15 hS13 [.int .i64 s1_1, .int .i64 ((nth y1_m0 i1).N), .int .i64 ((nth y1_m0 i1).M), .int .i64 ((nth y1_m0 i1).Call.Kind), .string ((nth y1_m0 i1).Call.Name), .string ((nth y1_m0 i1).Call.To), .int .i64 ((nth y1_m0 i1).Call.A), .int .i64 ((nth y1_m0 i1).Call.B), .string ((nth y1_m0 i1).Call.Text)] rfl rfl rfl (by rw [Int.toNat_natCast]; rfl) rfl (chkOne_size one3) rfl rfl rfl rfl fun w16 (hS16 : SH (Off [Ck.own (α := List Deed) [.slice A0 p0.length cap0] p0 F0] w) w w16 [Ck.elem (α := Deed) g12 i1 cap0 [.int .i64 s1_1, .int .i64 ((nth y1_m0 i1).N), .int .i64 ((nth y1_m0 i1).M), .int .i64 ((nth y1_m0 i1).Call.Kind), .string ((nth y1_m0 i1).Call.Name), .string ((nth y1_m0 i1).Call.To), .int .i64 ((nth y1_m0 i1).Call.A), .int .i64 ((nth y1_m0 i1).Call.B), .string ((nth y1_m0 i1).Call.Text)] y1_m0 Fo12]) a17 hE17 => wpList_nil ?_
    clear hE11 hE14 hE15
    clear a11 a14 a15
    refine then_normal ?_
    refine wp_seq (wp_region_lit ?_)
    refine st_val hE17 (y_move hE17 rfl) rfl fun a18 hE18 => st_val hE18 (y_add hE18 rfl rfl) rfl fun a19 hE19 => st_val hE19 (y_assign hE19 rfl) rfl fun a20 hE20 => wpList_nil ?_
    clear hE17 hE18 hE19
    clear a17 a18 a19
    refine then_normal ?_
    refine wp_seq (wp_region_lit ?_)
    refine st_val hE20 (y_move hE20 rfl) rfl fun a21 hE21 => st_val hE21 (y_move hE21 rfl) rfl fun a22 hE22 => st_val hE22 (y_move hE22 rfl) rfl fun a23 hE23 => ?_
    refine st_val hE23 (y_indexAddr (A := ⟨g12, 0, none⟩) hE23 (congrArg (fun A => some (Value.slice A p0.length cap0)) hA12) rfl (by omega) (by omega) sl71) rfl fun a24 hE24 => st_val hE24 (y_fieldAddr hE24 rfl fa56_1 rfl) rfl fun a25 hE25 => st_storeE (α := Deed) (k := 0) hE25 hS16 [.int .i64 s1_1, .int .i64 (IntKind.i64.wrap (s1_1 + 1)), .int .i64 ((nth y1_m0 i1).M), .int .i64 ((nth y1_m0 i1).Call.Kind), .string ((nth y1_m0 i1).Call.Name), .string ((nth y1_m0 i1).Call.To), .int .i64 ((nth y1_m0 i1).Call.A), .int .i64 ((nth y1_m0 i1).Call.B), .string ((nth y1_m0 i1).Call.Text)] rfl rfl rfl (by rw [Int.toNat_natCast]; rfl) rfl (chkOne_size one3) rfl rfl rfl rfl fun w26 (hS26 : SH (Off [Ck.own (α := List Deed) [.slice A0 p0.length cap0] p0 F0] w) w w26 [Ck.elem (α := Deed) g12 i1 cap0 [.int .i64 s1_1, .int .i64 (IntKind.i64.wrap (s1_1 + 1)), .int .i64 ((nth y1_m0 i1).M), .int .i64 ((nth y1_m0 i1).Call.Kind), .string ((nth y1_m0 i1).Call.Name), .string ((nth y1_m0 i1).Call.To), .int .i64 ((nth y1_m0 i1).Call.A), .int .i64 ((nth y1_m0 i1).Call.B), .string ((nth y1_m0 i1).Call.Text)] y1_m0 Fo12]) a27 hE27 => wpList_nil ?_
    clear hE20 hE21 hE22 hE23 hE24 hE25
    clear a20 a21 a22 a23 a24 a25
    refine then_normal ?_
    refine wp_seq (wp_region_lit ?_)
    refine st_val hE27 (y_move hE27 rfl) rfl fun a28 hE28 => st_val hE28 (y_add hE28 rfl rfl) rfl fun a29 hE29 => st_val hE29 (y_assign hE29 rfl) rfl fun a30 hE30 => wpList_nil ?_
    clear hE27 hE28 hE29
    clear a27 a28 a29
    refine then_normal ?_
    refine wp_seq (wp_region_lit ?_)
    refine st_val hE30 (y_move hE30 rfl) rfl fun a31 hE31 => st_val hE31 (y_move hE31 rfl) rfl fun a32 hE32 => st_val hE32 (y_move hE32 rfl) rfl fun a33 hE33 => ?_
    refine st_val hE33 (y_indexAddr (A := ⟨g12, 0, none⟩) hE33 (congrArg (fun A => some (Value.slice A p0.length cap0)) hA12) rfl (by omega) (by omega) sl71) rfl fun a34 hE34 => st_val hE34 (y_fieldAddr hE34 rfl fa56_2 rfl) rfl fun a35 hE35 => st_storeE (α := Deed) (k := 0) hE35 hS26 [.int .i64 s1_1, .int .i64 (IntKind.i64.wrap (s1_1 + 1)), .int .i64 (IntKind.i64.wrap (IntKind.i64.wrap (s1_1 + 1) + 1)), .int .i64 ((nth y1_m0 i1).Call.Kind), .string ((nth y1_m0 i1).Call.Name), .string ((nth y1_m0 i1).Call.To), .int .i64 ((nth y1_m0 i1).Call.A), .int .i64 ((nth y1_m0 i1).Call.B), .string ((nth y1_m0 i1).Call.Text)] rfl rfl rfl (by rw [Int.toNat_natCast]; rfl) rfl (chkOne_size one3) rfl rfl rfl rfl fun w36 (hS36 : SH (Off [Ck.own (α := List Deed) [.slice A0 p0.length cap0] p0 F0] w) w w36 [Ck.elem (α := Deed) g12 i1 cap0 [.int .i64 s1_1, .int .i64 (IntKind.i64.wrap (s1_1 + 1)), .int .i64 (IntKind.i64.wrap (IntKind.i64.wrap (s1_1 + 1) + 1)), .int .i64 ((nth y1_m0 i1).Call.Kind), .string ((nth y1_m0 i1).Call.Name), .string ((nth y1_m0 i1).Call.To), .int .i64 ((nth y1_m0 i1).Call.A), .int .i64 ((nth y1_m0 i1).Call.B), .string ((nth y1_m0 i1).Call.Text)] y1_m0 Fo12]) a37 hE37 => wpList_nil ?_
    clear hE30 hE31 hE32 hE33 hE34 hE35
    clear a30 a31 a32 a33 a34 a35
    refine then_normal ?_
    refine wp_seq (wp_region_lit ?_)
    refine st_val hE37 (y_move hE37 rfl) rfl fun a38 hE38 => st_val hE38 (y_add hE38 rfl rfl) rfl fun a39 hE39 => st_val hE39 (y_assign hE39 rfl) rfl fun a40 hE40 => wpList_nil ?_
    clear hE37 hE38 hE39
    clear a37 a38 a39
    refine then_normal ?_
    refine wp_seq (wp_region_lit ?_)
    refine st_val hE40 (y_move hE40 rfl) rfl fun a41 hE41 => st_val hE41 (y_move hE41 rfl) rfl fun a42 hE42 => st_val hE42 (y_move hE42 rfl) rfl fun a43 hE43 => ?_
    refine st_val hE43 (y_indexAddr (A := ⟨g12, 0, none⟩) hE43 (congrArg (fun A => some (Value.slice A p0.length cap0)) hA12) rfl (by omega) (by omega) sl71) rfl fun a44 hE44 => st_val hE44 (y_fieldAddr hE44 rfl fa56_3 rfl) rfl fun a45 hE45 => st_val hE45 (y_fieldAddr hE45 rfl fa54_0 rfl) rfl fun a46 hE46 => st_storeE (α := Deed) (k := 0) hE46 hS36 [.int .i64 s1_1, .int .i64 (IntKind.i64.wrap (s1_1 + 1)), .int .i64 (IntKind.i64.wrap (IntKind.i64.wrap (s1_1 + 1) + 1)), .int .i64 (IntKind.i64.wrap (IntKind.i64.wrap (IntKind.i64.wrap (s1_1 + 1) + 1) + 1)), .string ((nth y1_m0 i1).Call.Name), .string ((nth y1_m0 i1).Call.To), .int .i64 ((nth y1_m0 i1).Call.A), .int .i64 ((nth y1_m0 i1).Call.B), .string ((nth y1_m0 i1).Call.Text)] rfl rfl rfl (by rw [Int.toNat_natCast]; rfl) rfl (chkOne_size one3) rfl rfl rfl rfl fun w47 (hS47 : SH (Off [Ck.own (α := List Deed) [.slice A0 p0.length cap0] p0 F0] w) w w47 [Ck.elem (α := Deed) g12 i1 cap0 [.int .i64 s1_1, .int .i64 (IntKind.i64.wrap (s1_1 + 1)), .int .i64 (IntKind.i64.wrap (IntKind.i64.wrap (s1_1 + 1) + 1)), .int .i64 (IntKind.i64.wrap (IntKind.i64.wrap (IntKind.i64.wrap (s1_1 + 1) + 1) + 1)), .string ((nth y1_m0 i1).Call.Name), .string ((nth y1_m0 i1).Call.To), .int .i64 ((nth y1_m0 i1).Call.A), .int .i64 ((nth y1_m0 i1).Call.B), .string ((nth y1_m0 i1).Call.Text)] y1_m0 Fo12]) a48 hE48 => wpList_nil ?_
    clear hE40 hE41 hE42 hE43 hE44 hE45 hE46
    clear a40 a41 a42 a43 a44 a45 a46
    refine then_normal ?_
    refine wp_seq (wp_region_lit ?_)
    refine st_val hE48 (y_move hE48 rfl) rfl fun a49 hE49 => st_val hE49 (y_add hE49 rfl rfl) rfl fun a50 hE50 => st_val hE50 (y_assign hE50 rfl) rfl fun a51 hE51 => wpList_nil ?_
    clear hE48 hE49 hE50
    clear a48 a49 a50
    refine then_normal ?_
    refine wp_seq (wp_region_lit ?_)
    refine st_val hE51 (y_move hE51 rfl) rfl fun a52 hE52 => st_val hE52 (y_move hE52 rfl) rfl fun a53 hE53 => st_val hE53 (y_move hE53 rfl) rfl fun a54 hE54 => st_callF hE54 hS47 Tryz.func70 fb70 fn70 (c_laws_markText (IntKind.i64.wrap (IntKind.i64.wrap (IntKind.i64.wrap (IntKind.i64.wrap (s1_1 + 1) + 1) + 1) + 1)) (I64_wrap _)) rfl rfl fun w55 hS55 a56 hE56 => ?_
    refine st_val hE56 (y_indexAddr (A := ⟨g12, 0, none⟩) hE56 (congrArg (fun A => some (Value.slice A p0.length cap0)) hA12) rfl (by omega) (by omega) sl71) rfl fun a57 hE57 => st_val hE57 (y_fieldAddr hE57 rfl fa56_3 rfl) rfl fun a58 hE58 => st_val hE58 (y_fieldAddr hE58 rfl fa54_1 rfl) rfl fun a59 hE59 => st_storeE (α := Deed) (k := 0) hE59 hS55 [.int .i64 s1_1, .int .i64 (IntKind.i64.wrap (s1_1 + 1)), .int .i64 (IntKind.i64.wrap (IntKind.i64.wrap (s1_1 + 1) + 1)), .int .i64 (IntKind.i64.wrap (IntKind.i64.wrap (IntKind.i64.wrap (s1_1 + 1) + 1) + 1)), .string (laws_markText (IntKind.i64.wrap (IntKind.i64.wrap (IntKind.i64.wrap (IntKind.i64.wrap (s1_1 + 1) + 1) + 1) + 1))), .string ((nth y1_m0 i1).Call.To), .int .i64 ((nth y1_m0 i1).Call.A), .int .i64 ((nth y1_m0 i1).Call.B), .string ((nth y1_m0 i1).Call.Text)] rfl rfl rfl (by rw [Int.toNat_natCast]; rfl) rfl (chkOne_size one9) rfl rfl rfl rfl fun w60 (hS60 : SH (Off [Ck.own (α := List Deed) [.slice A0 p0.length cap0] p0 F0] w) w w60 [Ck.elem (α := Deed) g12 i1 cap0 [.int .i64 s1_1, .int .i64 (IntKind.i64.wrap (s1_1 + 1)), .int .i64 (IntKind.i64.wrap (IntKind.i64.wrap (s1_1 + 1) + 1)), .int .i64 (IntKind.i64.wrap (IntKind.i64.wrap (IntKind.i64.wrap (s1_1 + 1) + 1) + 1)), .string (laws_markText (IntKind.i64.wrap (IntKind.i64.wrap (IntKind.i64.wrap (IntKind.i64.wrap (s1_1 + 1) + 1) + 1) + 1))), .string ((nth y1_m0 i1).Call.To), .int .i64 ((nth y1_m0 i1).Call.A), .int .i64 ((nth y1_m0 i1).Call.B), .string ((nth y1_m0 i1).Call.Text)] y1_m0 Fo12]) a61 hE61 => wpList_nil ?_
    clear hE51 hE52 hE53 hE54 hE56 hE57 hE58 hE59
    clear a51 a52 a53 a54 a56 a57 a58 a59
    refine then_normal ?_
    refine wp_seq (wp_region_lit ?_)
    refine st_val hE61 (y_move hE61 rfl) rfl fun a62 hE62 => st_val hE62 (y_add hE62 rfl rfl) rfl fun a63 hE63 => st_val hE63 (y_assign hE63 rfl) rfl fun a64 hE64 => wpList_nil ?_
    clear hE61 hE62 hE63
    clear a61 a62 a63
    refine then_normal ?_
    refine wp_seq (wp_region_lit ?_)
    refine st_val hE64 (y_move hE64 rfl) rfl fun a65 hE65 => st_val hE65 (y_move hE65 rfl) rfl fun a66 hE66 => st_val hE66 (y_move hE66 rfl) rfl fun a67 hE67 => st_callF hE67 hS60 Tryz.func70 fb70 fn70 (c_laws_markText (IntKind.i64.wrap (IntKind.i64.wrap (IntKind.i64.wrap (IntKind.i64.wrap (IntKind.i64.wrap (s1_1 + 1) + 1) + 1) + 1) + 1)) (I64_wrap _)) rfl rfl fun w68 hS68 a69 hE69 => ?_
    refine st_val hE69 (y_indexAddr (A := ⟨g12, 0, none⟩) hE69 (congrArg (fun A => some (Value.slice A p0.length cap0)) hA12) rfl (by omega) (by omega) sl71) rfl fun a70 hE70 => st_val hE70 (y_fieldAddr hE70 rfl fa56_3 rfl) rfl fun a71 hE71 => st_val hE71 (y_fieldAddr hE71 rfl fa54_2 rfl) rfl fun a72 hE72 => st_storeE (α := Deed) (k := 0) hE72 hS68 [.int .i64 s1_1, .int .i64 (IntKind.i64.wrap (s1_1 + 1)), .int .i64 (IntKind.i64.wrap (IntKind.i64.wrap (s1_1 + 1) + 1)), .int .i64 (IntKind.i64.wrap (IntKind.i64.wrap (IntKind.i64.wrap (s1_1 + 1) + 1) + 1)), .string (laws_markText (IntKind.i64.wrap (IntKind.i64.wrap (IntKind.i64.wrap (IntKind.i64.wrap (s1_1 + 1) + 1) + 1) + 1))), .string (laws_markText (IntKind.i64.wrap (IntKind.i64.wrap (IntKind.i64.wrap (IntKind.i64.wrap (IntKind.i64.wrap (s1_1 + 1) + 1) + 1) + 1) + 1))), .int .i64 ((nth y1_m0 i1).Call.A), .int .i64 ((nth y1_m0 i1).Call.B), .string ((nth y1_m0 i1).Call.Text)] rfl rfl rfl (by rw [Int.toNat_natCast]; rfl) rfl (chkOne_size one9) rfl rfl rfl rfl fun w73 (hS73 : SH (Off [Ck.own (α := List Deed) [.slice A0 p0.length cap0] p0 F0] w) w w73 [Ck.elem (α := Deed) g12 i1 cap0 [.int .i64 s1_1, .int .i64 (IntKind.i64.wrap (s1_1 + 1)), .int .i64 (IntKind.i64.wrap (IntKind.i64.wrap (s1_1 + 1) + 1)), .int .i64 (IntKind.i64.wrap (IntKind.i64.wrap (IntKind.i64.wrap (s1_1 + 1) + 1) + 1)), .string (laws_markText (IntKind.i64.wrap (IntKind.i64.wrap (IntKind.i64.wrap (IntKind.i64.wrap (s1_1 + 1) + 1) + 1) + 1))), .string (laws_markText (IntKind.i64.wrap (IntKind.i64.wrap (IntKind.i64.wrap (IntKind.i64.wrap (IntKind.i64.wrap (s1_1 + 1) + 1) + 1) + 1) + 1))), .int .i64 ((nth y1_m0 i1).Call.A), .int .i64 ((nth y1_m0 i1).Call.B), .string ((nth y1_m0 i1).Call.Text)] y1_m0 Fo12]) a74 hE74 => wpList_nil ?_
    clear hE64 hE65 hE66 hE67 hE69 hE70 hE71 hE72
    clear a64 a65 a66 a67 a69 a70 a71 a72
    refine then_normal ?_
    refine wp_seq (wp_region_lit ?_)
    refine st_val hE74 (y_move hE74 rfl) rfl fun a75 hE75 => st_val hE75 (y_add hE75 rfl rfl) rfl fun a76 hE76 => st_val hE76 (y_assign hE76 rfl) rfl fun a77 hE77 => wpList_nil ?_
    clear hE74 hE75 hE76
    clear a74 a75 a76
    refine then_normal ?_
    refine wp_seq (wp_region_lit ?_)
    refine st_val hE77 (y_move hE77 rfl) rfl fun a78 hE78 => st_val hE78 (y_move hE78 rfl) rfl fun a79 hE79 => st_val hE79 (y_move hE79 rfl) rfl fun a80 hE80 => ?_
    refine st_val hE80 (y_indexAddr (A := ⟨g12, 0, none⟩) hE80 (congrArg (fun A => some (Value.slice A p0.length cap0)) hA12) rfl (by omega) (by omega) sl71) rfl fun a81 hE81 => st_val hE81 (y_fieldAddr hE81 rfl fa56_3 rfl) rfl fun a82 hE82 => st_val hE82 (y_fieldAddr hE82 rfl fa54_3 rfl) rfl fun a83 hE83 => st_storeE (α := Deed) (k := 0) hE83 hS73 [.int .i64 s1_1, .int .i64 (IntKind.i64.wrap (s1_1 + 1)), .int .i64 (IntKind.i64.wrap (IntKind.i64.wrap (s1_1 + 1) + 1)), .int .i64 (IntKind.i64.wrap (IntKind.i64.wrap (IntKind.i64.wrap (s1_1 + 1) + 1) + 1)), .string (laws_markText (IntKind.i64.wrap (IntKind.i64.wrap (IntKind.i64.wrap (IntKind.i64.wrap (s1_1 + 1) + 1) + 1) + 1))), .string (laws_markText (IntKind.i64.wrap (IntKind.i64.wrap (IntKind.i64.wrap (IntKind.i64.wrap (IntKind.i64.wrap (s1_1 + 1) + 1) + 1) + 1) + 1))), .int .i64 (IntKind.i64.wrap (IntKind.i64.wrap (IntKind.i64.wrap (IntKind.i64.wrap (IntKind.i64.wrap (IntKind.i64.wrap (s1_1 + 1) + 1) + 1) + 1) + 1) + 1)), .int .i64 ((nth y1_m0 i1).Call.B), .string ((nth y1_m0 i1).Call.Text)] rfl rfl rfl (by rw [Int.toNat_natCast]; rfl) rfl (chkOne_size one3) rfl rfl rfl rfl fun w84 (hS84 : SH (Off [Ck.own (α := List Deed) [.slice A0 p0.length cap0] p0 F0] w) w w84 [Ck.elem (α := Deed) g12 i1 cap0 [.int .i64 s1_1, .int .i64 (IntKind.i64.wrap (s1_1 + 1)), .int .i64 (IntKind.i64.wrap (IntKind.i64.wrap (s1_1 + 1) + 1)), .int .i64 (IntKind.i64.wrap (IntKind.i64.wrap (IntKind.i64.wrap (s1_1 + 1) + 1) + 1)), .string (laws_markText (IntKind.i64.wrap (IntKind.i64.wrap (IntKind.i64.wrap (IntKind.i64.wrap (s1_1 + 1) + 1) + 1) + 1))), .string (laws_markText (IntKind.i64.wrap (IntKind.i64.wrap (IntKind.i64.wrap (IntKind.i64.wrap (IntKind.i64.wrap (s1_1 + 1) + 1) + 1) + 1) + 1))), .int .i64 (IntKind.i64.wrap (IntKind.i64.wrap (IntKind.i64.wrap (IntKind.i64.wrap (IntKind.i64.wrap (IntKind.i64.wrap (s1_1 + 1) + 1) + 1) + 1) + 1) + 1)), .int .i64 ((nth y1_m0 i1).Call.B), .string ((nth y1_m0 i1).Call.Text)] y1_m0 Fo12]) a85 hE85 => wpList_nil ?_
    clear hE77 hE78 hE79 hE80 hE81 hE82 hE83
    clear a77 a78 a79 a80 a81 a82 a83
    refine then_normal ?_
    refine wp_seq (wp_region_lit ?_)
    refine st_val hE85 (y_move hE85 rfl) rfl fun a86 hE86 => st_val hE86 (y_add hE86 rfl rfl) rfl fun a87 hE87 => st_val hE87 (y_assign hE87 rfl) rfl fun a88 hE88 => wpList_nil ?_
    clear hE85 hE86 hE87
    clear a85 a86 a87
    refine then_normal ?_
    refine wp_seq (wp_region_lit ?_)
    refine st_val hE88 (y_move hE88 rfl) rfl fun a89 hE89 => st_val hE89 (y_move hE89 rfl) rfl fun a90 hE90 => st_val hE90 (y_move hE90 rfl) rfl fun a91 hE91 => ?_
    refine st_val hE91 (y_indexAddr (A := ⟨g12, 0, none⟩) hE91 (congrArg (fun A => some (Value.slice A p0.length cap0)) hA12) rfl (by omega) (by omega) sl71) rfl fun a92 hE92 => st_val hE92 (y_fieldAddr hE92 rfl fa56_3 rfl) rfl fun a93 hE93 => st_val hE93 (y_fieldAddr hE93 rfl fa54_4 rfl) rfl fun a94 hE94 => st_storeE (α := Deed) (k := 0) hE94 hS84 [.int .i64 s1_1, .int .i64 (IntKind.i64.wrap (s1_1 + 1)), .int .i64 (IntKind.i64.wrap (IntKind.i64.wrap (s1_1 + 1) + 1)), .int .i64 (IntKind.i64.wrap (IntKind.i64.wrap (IntKind.i64.wrap (s1_1 + 1) + 1) + 1)), .string (laws_markText (IntKind.i64.wrap (IntKind.i64.wrap (IntKind.i64.wrap (IntKind.i64.wrap (s1_1 + 1) + 1) + 1) + 1))), .string (laws_markText (IntKind.i64.wrap (IntKind.i64.wrap (IntKind.i64.wrap (IntKind.i64.wrap (IntKind.i64.wrap (s1_1 + 1) + 1) + 1) + 1) + 1))), .int .i64 (IntKind.i64.wrap (IntKind.i64.wrap (IntKind.i64.wrap (IntKind.i64.wrap (IntKind.i64.wrap (IntKind.i64.wrap (s1_1 + 1) + 1) + 1) + 1) + 1) + 1)), .int .i64 (IntKind.i64.wrap (IntKind.i64.wrap (IntKind.i64.wrap (IntKind.i64.wrap (IntKind.i64.wrap (IntKind.i64.wrap (IntKind.i64.wrap (s1_1 + 1) + 1) + 1) + 1) + 1) + 1) + 1)), .string ((nth y1_m0 i1).Call.Text)] rfl rfl rfl (by rw [Int.toNat_natCast]; rfl) rfl (chkOne_size one3) rfl rfl rfl rfl fun w95 (hS95 : SH (Off [Ck.own (α := List Deed) [.slice A0 p0.length cap0] p0 F0] w) w w95 [Ck.elem (α := Deed) g12 i1 cap0 [.int .i64 s1_1, .int .i64 (IntKind.i64.wrap (s1_1 + 1)), .int .i64 (IntKind.i64.wrap (IntKind.i64.wrap (s1_1 + 1) + 1)), .int .i64 (IntKind.i64.wrap (IntKind.i64.wrap (IntKind.i64.wrap (s1_1 + 1) + 1) + 1)), .string (laws_markText (IntKind.i64.wrap (IntKind.i64.wrap (IntKind.i64.wrap (IntKind.i64.wrap (s1_1 + 1) + 1) + 1) + 1))), .string (laws_markText (IntKind.i64.wrap (IntKind.i64.wrap (IntKind.i64.wrap (IntKind.i64.wrap (IntKind.i64.wrap (s1_1 + 1) + 1) + 1) + 1) + 1))), .int .i64 (IntKind.i64.wrap (IntKind.i64.wrap (IntKind.i64.wrap (IntKind.i64.wrap (IntKind.i64.wrap (IntKind.i64.wrap (s1_1 + 1) + 1) + 1) + 1) + 1) + 1)), .int .i64 (IntKind.i64.wrap (IntKind.i64.wrap (IntKind.i64.wrap (IntKind.i64.wrap (IntKind.i64.wrap (IntKind.i64.wrap (IntKind.i64.wrap (s1_1 + 1) + 1) + 1) + 1) + 1) + 1) + 1)), .string ((nth y1_m0 i1).Call.Text)] y1_m0 Fo12]) a96 hE96 => wpList_nil ?_
    clear hE88 hE89 hE90 hE91 hE92 hE93 hE94
    clear a88 a89 a90 a91 a92 a93 a94
    refine then_normal ?_
    refine wp_seq (wp_region_lit ?_)
    refine st_val hE96 (y_move hE96 rfl) rfl fun a97 hE97 => st_val hE97 (y_add hE97 rfl rfl) rfl fun a98 hE98 => st_val hE98 (y_assign hE98 rfl) rfl fun a99 hE99 => wpList_nil ?_
    clear hE96 hE97 hE98
    clear a96 a97 a98
    refine then_normal ?_
    refine wp_seq (wp_region_lit ?_)
    refine st_val hE99 (y_move hE99 rfl) rfl fun a100 hE100 => st_val hE100 (y_move hE100 rfl) rfl fun a101 hE101 => st_val hE101 (y_move hE101 rfl) rfl fun a102 hE102 => st_callF hE102 hS95 Tryz.func70 fb70 fn70 (c_laws_markText (IntKind.i64.wrap (IntKind.i64.wrap (IntKind.i64.wrap (IntKind.i64.wrap (IntKind.i64.wrap (IntKind.i64.wrap (IntKind.i64.wrap (IntKind.i64.wrap (s1_1 + 1) + 1) + 1) + 1) + 1) + 1) + 1) + 1)) (I64_wrap _)) rfl rfl fun w103 hS103 a104 hE104 => ?_
    refine st_val hE104 (y_indexAddr (A := ⟨g12, 0, none⟩) hE104 (congrArg (fun A => some (Value.slice A p0.length cap0)) hA12) rfl (by omega) (by omega) sl71) rfl fun a105 hE105 => st_val hE105 (y_fieldAddr hE105 rfl fa56_3 rfl) rfl fun a106 hE106 => st_val hE106 (y_fieldAddr hE106 rfl fa54_5 rfl) rfl fun a107 hE107 => st_storeE (α := Deed) (k := 0) hE107 hS103 [.int .i64 s1_1, .int .i64 (IntKind.i64.wrap (s1_1 + 1)), .int .i64 (IntKind.i64.wrap (IntKind.i64.wrap (s1_1 + 1) + 1)), .int .i64 (IntKind.i64.wrap (IntKind.i64.wrap (IntKind.i64.wrap (s1_1 + 1) + 1) + 1)), .string (laws_markText (IntKind.i64.wrap (IntKind.i64.wrap (IntKind.i64.wrap (IntKind.i64.wrap (s1_1 + 1) + 1) + 1) + 1))), .string (laws_markText (IntKind.i64.wrap (IntKind.i64.wrap (IntKind.i64.wrap (IntKind.i64.wrap (IntKind.i64.wrap (s1_1 + 1) + 1) + 1) + 1) + 1))), .int .i64 (IntKind.i64.wrap (IntKind.i64.wrap (IntKind.i64.wrap (IntKind.i64.wrap (IntKind.i64.wrap (IntKind.i64.wrap (s1_1 + 1) + 1) + 1) + 1) + 1) + 1)), .int .i64 (IntKind.i64.wrap (IntKind.i64.wrap (IntKind.i64.wrap (IntKind.i64.wrap (IntKind.i64.wrap (IntKind.i64.wrap (IntKind.i64.wrap (s1_1 + 1) + 1) + 1) + 1) + 1) + 1) + 1)), .string (laws_markText (IntKind.i64.wrap (IntKind.i64.wrap (IntKind.i64.wrap (IntKind.i64.wrap (IntKind.i64.wrap (IntKind.i64.wrap (IntKind.i64.wrap (IntKind.i64.wrap (s1_1 + 1) + 1) + 1) + 1) + 1) + 1) + 1) + 1)))] rfl rfl rfl (by rw [Int.toNat_natCast]; rfl) rfl (chkOne_size one9) rfl rfl rfl rfl fun w108 (hS108 : SH (Off [Ck.own (α := List Deed) [.slice A0 p0.length cap0] p0 F0] w) w w108 [Ck.elem (α := Deed) g12 i1 cap0 [.int .i64 s1_1, .int .i64 (IntKind.i64.wrap (s1_1 + 1)), .int .i64 (IntKind.i64.wrap (IntKind.i64.wrap (s1_1 + 1) + 1)), .int .i64 (IntKind.i64.wrap (IntKind.i64.wrap (IntKind.i64.wrap (s1_1 + 1) + 1) + 1)), .string (laws_markText (IntKind.i64.wrap (IntKind.i64.wrap (IntKind.i64.wrap (IntKind.i64.wrap (s1_1 + 1) + 1) + 1) + 1))), .string (laws_markText (IntKind.i64.wrap (IntKind.i64.wrap (IntKind.i64.wrap (IntKind.i64.wrap (IntKind.i64.wrap (s1_1 + 1) + 1) + 1) + 1) + 1))), .int .i64 (IntKind.i64.wrap (IntKind.i64.wrap (IntKind.i64.wrap (IntKind.i64.wrap (IntKind.i64.wrap (IntKind.i64.wrap (s1_1 + 1) + 1) + 1) + 1) + 1) + 1)), .int .i64 (IntKind.i64.wrap (IntKind.i64.wrap (IntKind.i64.wrap (IntKind.i64.wrap (IntKind.i64.wrap (IntKind.i64.wrap (IntKind.i64.wrap (s1_1 + 1) + 1) + 1) + 1) + 1) + 1) + 1)), .string (laws_markText (IntKind.i64.wrap (IntKind.i64.wrap (IntKind.i64.wrap (IntKind.i64.wrap (IntKind.i64.wrap (IntKind.i64.wrap (IntKind.i64.wrap (IntKind.i64.wrap (s1_1 + 1) + 1) + 1) + 1) + 1) + 1) + 1) + 1)))] y1_m0 Fo12]) a109 hE109 => wpList_nil ?_
    clear hE99 hE100 hE101 hE102 hE104 hE105 hE106 hE107
    clear a99 a100 a101 a102 a104 a105 a106 a107
    refine then_normal ?_
    refine wp_region_lit ?_
    refine st_val hE109 (y_move hE109 rfl) rfl fun a110 hE110 => st_val hE110 (y_add hE110 rfl rfl) rfl fun a111 hE111 => st_val hE111 (y_assign hE111 rfl) rfl fun a112 hE112 => wpList_nil ?_
    clear hE109 hE110 hE111
    clear a109 a110 a111
    refine blk_normal ?_
    refine then_normal ?_
    refine wp_region_lit ?_
    refine st_val hE112 (y_move hE112 rfl) rfl fun a113 hE113 => st_val hE113 (y_add_in hE113 rfl rfl (m := ((i1 + 1 : Nat) : Int)) (by omega) (by omega) (by omega)) rfl fun a114 hE114 => st_val hE114 (y_assign hE114 rfl) rfl fun a115 hE115 => wpList_nil ?_
    clear hE112 hE113 hE114
    clear a112 a113 a114
    have hJ116 := SH.flat (L := [Ck.elem (α := Deed) g12 i1 cap0 [.int .i64 s1_1, .int .i64 (IntKind.i64.wrap (s1_1 + 1)), .int .i64 (IntKind.i64.wrap (IntKind.i64.wrap (s1_1 + 1) + 1)), .int .i64 (IntKind.i64.wrap (IntKind.i64.wrap (IntKind.i64.wrap (s1_1 + 1) + 1) + 1)), .string (laws_markText (IntKind.i64.wrap (IntKind.i64.wrap (IntKind.i64.wrap (IntKind.i64.wrap (s1_1 + 1) + 1) + 1) + 1))), .string (laws_markText (IntKind.i64.wrap (IntKind.i64.wrap (IntKind.i64.wrap (IntKind.i64.wrap (IntKind.i64.wrap (s1_1 + 1) + 1) + 1) + 1) + 1))), .int .i64 (IntKind.i64.wrap (IntKind.i64.wrap (IntKind.i64.wrap (IntKind.i64.wrap (IntKind.i64.wrap (IntKind.i64.wrap (s1_1 + 1) + 1) + 1) + 1) + 1) + 1)), .int .i64 (IntKind.i64.wrap (IntKind.i64.wrap (IntKind.i64.wrap (IntKind.i64.wrap (IntKind.i64.wrap (IntKind.i64.wrap (IntKind.i64.wrap (s1_1 + 1) + 1) + 1) + 1) + 1) + 1) + 1)), .string (laws_markText (IntKind.i64.wrap (IntKind.i64.wrap (IntKind.i64.wrap (IntKind.i64.wrap (IntKind.i64.wrap (IntKind.i64.wrap (IntKind.i64.wrap (IntKind.i64.wrap (s1_1 + 1) + 1) + 1) + 1) + 1) + 1) + 1) + 1)))] y1_m0 Fo12]) (α := Deed) (cs := [.int .i64 s1_1, .int .i64 (IntKind.i64.wrap (s1_1 + 1)), .int .i64 (IntKind.i64.wrap (IntKind.i64.wrap (s1_1 + 1) + 1)), .int .i64 (IntKind.i64.wrap (IntKind.i64.wrap (IntKind.i64.wrap (s1_1 + 1) + 1) + 1)), .string (laws_markText (IntKind.i64.wrap (IntKind.i64.wrap (IntKind.i64.wrap (IntKind.i64.wrap (s1_1 + 1) + 1) + 1) + 1))), .string (laws_markText (IntKind.i64.wrap (IntKind.i64.wrap (IntKind.i64.wrap (IntKind.i64.wrap (IntKind.i64.wrap (s1_1 + 1) + 1) + 1) + 1) + 1))), .int .i64 (IntKind.i64.wrap (IntKind.i64.wrap (IntKind.i64.wrap (IntKind.i64.wrap (IntKind.i64.wrap (IntKind.i64.wrap (s1_1 + 1) + 1) + 1) + 1) + 1) + 1)), .int .i64 (IntKind.i64.wrap (IntKind.i64.wrap (IntKind.i64.wrap (IntKind.i64.wrap (IntKind.i64.wrap (IntKind.i64.wrap (IntKind.i64.wrap (s1_1 + 1) + 1) + 1) + 1) + 1) + 1) + 1)), .string (laws_markText (IntKind.i64.wrap (IntKind.i64.wrap (IntKind.i64.wrap (IntKind.i64.wrap (IntKind.i64.wrap (IntKind.i64.wrap (IntKind.i64.wrap (IntKind.i64.wrap (s1_1 + 1) + 1) + 1) + 1) + 1) + 1) + 1) + 1)))]) (x := (Deed.mk s1_1 (IntKind.i64.wrap (s1_1 + 1)) (IntKind.i64.wrap (IntKind.i64.wrap (s1_1 + 1) + 1)) (Call.mk (IntKind.i64.wrap (IntKind.i64.wrap (IntKind.i64.wrap (s1_1 + 1) + 1) + 1)) (laws_markText (IntKind.i64.wrap (IntKind.i64.wrap (IntKind.i64.wrap (IntKind.i64.wrap (s1_1 + 1) + 1) + 1) + 1))) (laws_markText (IntKind.i64.wrap (IntKind.i64.wrap (IntKind.i64.wrap (IntKind.i64.wrap (IntKind.i64.wrap (s1_1 + 1) + 1) + 1) + 1) + 1))) (IntKind.i64.wrap (IntKind.i64.wrap (IntKind.i64.wrap (IntKind.i64.wrap (IntKind.i64.wrap (IntKind.i64.wrap (s1_1 + 1) + 1) + 1) + 1) + 1) + 1)) (IntKind.i64.wrap (IntKind.i64.wrap (IntKind.i64.wrap (IntKind.i64.wrap (IntKind.i64.wrap (IntKind.i64.wrap (IntKind.i64.wrap (s1_1 + 1) + 1) + 1) + 1) + 1) + 1) + 1)) (laws_markText (IntKind.i64.wrap (IntKind.i64.wrap (IntKind.i64.wrap (IntKind.i64.wrap (IntKind.i64.wrap (IntKind.i64.wrap (IntKind.i64.wrap (IntKind.i64.wrap (s1_1 + 1) + 1) + 1) + 1) + 1) + 1) + 1) + 1)))))) hS108 (fun _ => Deed_own (x := (Deed.mk s1_1 (IntKind.i64.wrap (s1_1 + 1)) (IntKind.i64.wrap (IntKind.i64.wrap (s1_1 + 1) + 1)) (Call.mk (IntKind.i64.wrap (IntKind.i64.wrap (IntKind.i64.wrap (s1_1 + 1) + 1) + 1)) (laws_markText (IntKind.i64.wrap (IntKind.i64.wrap (IntKind.i64.wrap (IntKind.i64.wrap (s1_1 + 1) + 1) + 1) + 1))) (laws_markText (IntKind.i64.wrap (IntKind.i64.wrap (IntKind.i64.wrap (IntKind.i64.wrap (IntKind.i64.wrap (s1_1 + 1) + 1) + 1) + 1) + 1))) (IntKind.i64.wrap (IntKind.i64.wrap (IntKind.i64.wrap (IntKind.i64.wrap (IntKind.i64.wrap (IntKind.i64.wrap (s1_1 + 1) + 1) + 1) + 1) + 1) + 1)) (IntKind.i64.wrap (IntKind.i64.wrap (IntKind.i64.wrap (IntKind.i64.wrap (IntKind.i64.wrap (IntKind.i64.wrap (IntKind.i64.wrap (s1_1 + 1) + 1) + 1) + 1) + 1) + 1) + 1)) (laws_markText (IntKind.i64.wrap (IntKind.i64.wrap (IntKind.i64.wrap (IntKind.i64.wrap (IntKind.i64.wrap (IntKind.i64.wrap (IntKind.i64.wrap (IntKind.i64.wrap (s1_1 + 1) + 1) + 1) + 1) + 1) + 1) + 1) + 1)))))) hgis1_1 (I64_wrap _) (I64_wrap _) (I64_wrap _) (laws_markText_good (by first | assumption | exact I64_wrap _)) (laws_markText_good (by first | assumption | exact I64_wrap _)) (I64_wrap _) (I64_wrap _) (laws_markText_good (by first | assumption | exact I64_wrap _)))
    obtain ⟨F116, hS116⟩ := SH.unfocus (α := Deed) (L := []) hJ116 hA12 hn12 (by omega)
    refine then_normal ⟨fu1, Nat.lt_succ_self _, (i1 + 1), IntKind.i64.wrap (IntKind.i64.wrap (IntKind.i64.wrap (IntKind.i64.wrap (IntKind.i64.wrap (IntKind.i64.wrap (IntKind.i64.wrap (IntKind.i64.wrap (IntKind.i64.wrap (s1_1 + 1) + 1) + 1) + 1) + 1) + 1) + 1) + 1) + 1), (y1_m0.set i1 (Deed.mk s1_1 (IntKind.i64.wrap (s1_1 + 1)) (IntKind.i64.wrap (IntKind.i64.wrap (s1_1 + 1) + 1)) (Call.mk (IntKind.i64.wrap (IntKind.i64.wrap (IntKind.i64.wrap (s1_1 + 1) + 1) + 1)) (laws_markText (IntKind.i64.wrap (IntKind.i64.wrap (IntKind.i64.wrap (IntKind.i64.wrap (s1_1 + 1) + 1) + 1) + 1))) (laws_markText (IntKind.i64.wrap (IntKind.i64.wrap (IntKind.i64.wrap (IntKind.i64.wrap (IntKind.i64.wrap (s1_1 + 1) + 1) + 1) + 1) + 1))) (IntKind.i64.wrap (IntKind.i64.wrap (IntKind.i64.wrap (IntKind.i64.wrap (IntKind.i64.wrap (IntKind.i64.wrap (s1_1 + 1) + 1) + 1) + 1) + 1) + 1)) (IntKind.i64.wrap (IntKind.i64.wrap (IntKind.i64.wrap (IntKind.i64.wrap (IntKind.i64.wrap (IntKind.i64.wrap (IntKind.i64.wrap (s1_1 + 1) + 1) + 1) + 1) + 1) + 1) + 1)) (laws_markText (IntKind.i64.wrap (IntKind.i64.wrap (IntKind.i64.wrap (IntKind.i64.wrap (IntKind.i64.wrap (IntKind.i64.wrap (IntKind.i64.wrap (IntKind.i64.wrap (s1_1 + 1) + 1) + 1) + 1) + 1) + 1) + 1) + 1)))))), F116, by omega, by omega, .inl (by omega), (I64_wrap _), hM, hE115.weaken ⟨rfl, rfl, rfl, trivial⟩, hS116⟩
  ·
    have hge1 : ¬ i1 < p0.length := by have := of_decide_eq_false hb8; omega
    obtain rfl : fu1 = 0 := by omega
    have hM := hM.trans (laws_markActS_l1.eq_1 _ _ _ _ _)
    refine wp_exit ?_
    refine then_exit ?_
    refine then_exit ?_
    refine blk_exit ?_
    refine then_normal ?_
    refine wp_seq (wp_region_lit ?_)
    refine st_val hE7 (y_move hE7 rfl) rfl fun a117 hE117 => st_val hE117 (y_assign hE117 rfl) rfl fun a118 hE118 => wpList_nil ?_
    clear hE7 hE117
    clear a7 a117
    refine then_normal ?_
    refine wp_ret ?_
    refine fin1 hE118 rfl rfl ?_
    rw [hM]
    exact ⟨rfl, hgis1_1, Fy1_m0, hS3⟩

/- F42 loop.example/g00974/laws.heldActS -/
def laws_heldActS_l1 (p0 : List Deed) (p1 : Int) : Nat → Nat → Int → Int
  | 0, i1, s1_1 => s1_1
  | fu1 + 1, i1, s1_1 => (if (!decide ((nth p0 i1).Kind = s1_1)) = true then (-1) else (if (!decide ((nth p0 i1).N = IntKind.i64.wrap (s1_1 + 1))) = true then (-1) else (if (!decide ((nth p0 i1).M = IntKind.i64.wrap (IntKind.i64.wrap (s1_1 + 1) + 1))) = true then (-1) else (if (!decide ((nth p0 i1).Call.Kind = IntKind.i64.wrap (IntKind.i64.wrap (IntKind.i64.wrap (s1_1 + 1) + 1) + 1))) = true then (-1) else (if (!decide ((nth p0 i1).Call.Name = (laws_markText (IntKind.i64.wrap (IntKind.i64.wrap (IntKind.i64.wrap (IntKind.i64.wrap (s1_1 + 1) + 1) + 1) + 1))))) = true then (-1) else (if (!decide ((nth p0 i1).Call.To = (laws_markText (IntKind.i64.wrap (IntKind.i64.wrap (IntKind.i64.wrap (IntKind.i64.wrap (IntKind.i64.wrap (s1_1 + 1) + 1) + 1) + 1) + 1))))) = true then (-1) else (if (!decide ((nth p0 i1).Call.A = IntKind.i64.wrap (IntKind.i64.wrap (IntKind.i64.wrap (IntKind.i64.wrap (IntKind.i64.wrap (IntKind.i64.wrap (s1_1 + 1) + 1) + 1) + 1) + 1) + 1))) = true then (-1) else (if (!decide ((nth p0 i1).Call.B = IntKind.i64.wrap (IntKind.i64.wrap (IntKind.i64.wrap (IntKind.i64.wrap (IntKind.i64.wrap (IntKind.i64.wrap (IntKind.i64.wrap (s1_1 + 1) + 1) + 1) + 1) + 1) + 1) + 1))) = true then (-1) else (if (!decide ((nth p0 i1).Call.Text = (laws_markText (IntKind.i64.wrap (IntKind.i64.wrap (IntKind.i64.wrap (IntKind.i64.wrap (IntKind.i64.wrap (IntKind.i64.wrap (IntKind.i64.wrap (IntKind.i64.wrap (s1_1 + 1) + 1) + 1) + 1) + 1) + 1) + 1) + 1))))) = true then (-1) else laws_heldActS_l1 p0 p1 fu1 (i1 + 1) (IntKind.i64.wrap (IntKind.i64.wrap (IntKind.i64.wrap (IntKind.i64.wrap (IntKind.i64.wrap (IntKind.i64.wrap (IntKind.i64.wrap (IntKind.i64.wrap (IntKind.i64.wrap (s1_1 + 1) + 1) + 1) + 1) + 1) + 1) + 1) + 1) + 1)))))))))))
def laws_heldActS (p0 : List Deed) (p1 : Int) : Int := laws_heldActS_l1 p0 p1 (p0.length - 0) 0 p1
theorem c_laws_heldActS {v0 : Value} (p0 : List Deed) (p1 : Int) {w : World} (hp0 : SlR (Old w) w v0 p0) :
    Calls Tryz.prog 42 [v0, .int .i64 p1].toArray w (fun e w' => e = .returned (.int .i64 (laws_heldActS p0 p1)) ∧ Below w.heap.size w w') := by
  obtain ⟨A0, cap0, rfl, hx0⟩ := hp0.form
  refine enter Tryz.func42 rfl Tryz.ntmps42 (Nat.le_of_ble_eq_true rfl) ?_
  intro a0 hE0
  have hS0 := SH.start w
  have hM := laws_heldActS.eq_1 p0 p1
  refine wp_seq (wp_region_lit ?_)
  refine st_val hE0 (y_assign hE0 rfl) rfl fun a1 hE1 => wpList_nil ?_
  clear hE0
  clear a0
  refine then_normal ?_
  refine wp_seq (wp_seq (wp_region_lit ?_))
  refine st_val hE1 (y_assign hE1 rfl) rfl fun a2 hE2 => wpList_nil ?_
  clear hE1
  clear a1
  refine then_normal ?_
  refine wp_block (wp_loop_ghost (fun fu1 a w2 => ∃ (i1 : Nat) (s1_1 : Int), 0 ≤ i1 ∧ fu1 = p0.length - i1 ∧ laws_heldActS p0 p1 = laws_heldActS_l1 p0 p1 fu1 i1 s1_1 ∧ Env 103 [(0, .slice A0 p0.length cap0), (1, .int .i64 s1_1), (5, .int .i64 (i1 : Int))] a ∧ SH (Old w) w w2 []) (p0.length - 0) ⟨0, p1, Nat.le_refl _, rfl, hM, hE2.weaken ⟨rfl, rfl, rfl, trivial⟩, hS0⟩ ?_)
  clear hM hE2
  rintro fu1 a3 w3 ⟨i1, s1_1, hi1, hfu1, hM, hE3, hS3⟩
  refine wp_seq (wp_seq (wp_region_lit ?_))
  refine st_val hE3 (y_move hE3 rfl) rfl fun a4 hE4 => st_val hE4 (y_move hE4 rfl) rfl fun a5 hE5 => st_val hE5 (y_len_slice hE5 rfl sl71) rfl fun a6 hE6 => st_val hE6 (y_lss hE6 rfl rfl) rfl fun a7 hE7 => wpList_nil ?_
  clear hE3 hE4 hE5 hE6
  clear a3 a4 a5 a6
  refine then_normal ?_
  refine cond_split hE7 rfl (fun hb8 => ?_) (fun hb8 => ?_)
  ·
    have hlt1 : i1 < p0.length := by have := of_decide_eq_true hb8; omega
    obtain ⟨fu1, rfl⟩ : ∃ m, fu1 = m + 1 := ⟨fu1 - 1, by omega⟩
    have hM := hM.trans (laws_heldActS_l1.eq_2 _ _ _ _ _)
    refine wp_skip ?_
    refine then_normal ?_
    refine wp_seq (wp_block (wp_seq (wp_seq (wp_region_lit ?_))))
    refine st_val hE7 (y_move hE7 rfl) rfl fun a9 hE9 => st_val hE9 (y_move hE9 rfl) rfl fun a10 hE10 => st_index hE10 hp0 rfl rfl rfl (by omega) sl71 rfl fun ad11 cs11 hr11 hc11 hl11 a12 hE12 => ?_
    obtain ⟨rfl, hg11_0, hg11_1, hg11_2, hg11_3, hg11_4, hg11_5, hg11_6, hg11_7, hg11_8, _⟩ := Deed_open hr11
    refine st_val hE12 (y_fieldAddr hE12 rfl fa56_0 rfl) rfl fun a13 hE13 => st_val hE13 (y_load_one hE13 rfl (hS3.upc hc11 hl11) rfl one3) rfl fun a14 hE14 => st_val hE14 (y_move hE14 rfl) rfl fun a15 hE15 => st_val hE15 (y_neq hE15 rfl rfl) rfl fun a16 hE16 => wpList_nil ?_
    clear hE7 hE9 hE10 hE12 hE13 hE14 hE15
    clear a7 a9 a10 a12 a13 a14 a15
    refine then_normal ?_
    refine cond_split hE16 rfl (fun hb17 => ?_) (fun hb17 => ?_)
    ·
      have hM := hM.trans (if_t hb17)
      have hb17f : ¬ ((nth p0 i1).Kind = s1_1) := by simpa using hb17
      refine wp_seq (wp_region_lit ?_)
      refine st_val hE16 (y_assign hE16 rfl) rfl fun a18 hE18 => wpList_nil ?_
      clear hE16
      clear a16
      refine then_normal ?_
      refine wp_ret ?_
      refine then_ret ?_
      refine blk_ret ?_
      refine then_ret ?_
      refine then_ret ?_
      refine blk_ret ?_
      refine then_ret ?_
      exact fin1 hE18 rfl rfl ⟨by rw [hM], hS3.below⟩
    ·
      have hM := hM.trans (if_f hb17)
      have hb17f : (nth p0 i1).Kind = s1_1 := by simpa using hb17
      refine wp_skip ?_
      refine then_normal ?_
      refine wp_seq (wp_region_lit ?_)
      refine st_val hE16 (y_move hE16 rfl) rfl fun a19 hE19 => st_val hE19 (y_add hE19 rfl rfl) rfl fun a20 hE20 => st_val hE20 (y_assign hE20 rfl) rfl fun a21 hE21 => wpList_nil ?_
      clear hE16 hE19 hE20
      clear a16 a19 a20
      refine then_normal ?_
      refine wp_seq (wp_seq (wp_region_lit ?_))
      refine st_val hE21 (y_move hE21 rfl) rfl fun a22 hE22 => st_val hE22 (y_move hE22 rfl) rfl fun a23 hE23 => st_index hE23 hp0 rfl rfl rfl (by omega) sl71 rfl fun ad24 cs24 hr24 hc24 hl24 a25 hE25 => ?_
      obtain ⟨rfl, hg24_0, hg24_1, hg24_2, hg24_3, hg24_4, hg24_5, hg24_6, hg24_7, hg24_8, _⟩ := Deed_open hr24
      refine st_val hE25 (y_fieldAddr hE25 rfl fa56_1 rfl) rfl fun a26 hE26 => st_val hE26 (y_load_one hE26 rfl (hS3.upc hc24 hl24) rfl one3) rfl fun a27 hE27 => st_val hE27 (y_move hE27 rfl) rfl fun a28 hE28 => st_val hE28 (y_neq hE28 rfl rfl) rfl fun a29 hE29 => wpList_nil ?_
      clear hE21 hE22 hE23 hE25 hE26 hE27 hE28
      clear a21 a22 a23 a25 a26 a27 a28
      refine then_normal ?_
      refine cond_split hE29 rfl (fun hb30 => ?_) (fun hb30 => ?_)
      ·
        have hM := hM.trans (if_t hb30)
        have hb30f : ¬ ((nth p0 i1).N = IntKind.i64.wrap (s1_1 + 1)) := by simpa using hb30
        refine wp_seq (wp_region_lit ?_)
        refine st_val hE29 (y_assign hE29 rfl) rfl fun a31 hE31 => wpList_nil ?_
        clear hE29
        clear a29
        refine then_normal ?_
        refine wp_ret ?_
        refine then_ret ?_
        refine blk_ret ?_
        refine then_ret ?_
        refine then_ret ?_
        refine blk_ret ?_
        refine then_ret ?_
        exact fin1 hE31 rfl rfl ⟨by rw [hM], hS3.below⟩
      ·
        have hM := hM.trans (if_f hb30)
        have hb30f : (nth p0 i1).N = IntKind.i64.wrap (s1_1 + 1) := by simpa using hb30
        refine wp_skip ?_
        refine then_normal ?_
        refine wp_seq (wp_region_lit ?_)
        refine st_val hE29 (y_move hE29 rfl) rfl fun a32 hE32 => st_val hE32 (y_add hE32 rfl rfl) rfl fun a33 hE33 => st_val hE33 (y_assign hE33 rfl) rfl fun a34 hE34 => wpList_nil ?_
        clear hE29 hE32 hE33
        clear a29 a32 a33
        refine then_normal ?_
        refine wp_seq (wp_seq (wp_region_lit ?_))
        refine st_val hE34 (y_move hE34 rfl) rfl fun a35 hE35 => st_val hE35 (y_move hE35 rfl) rfl fun a36 hE36 => st_index hE36 hp0 rfl rfl rfl (by omega) sl71 rfl fun ad37 cs37 hr37 hc37 hl37 a38 hE38 => ?_
        obtain ⟨rfl, hg37_0, hg37_1, hg37_2, hg37_3, hg37_4, hg37_5, hg37_6, hg37_7, hg37_8, _⟩ := Deed_open hr37
        refine st_val hE38 (y_fieldAddr hE38 rfl fa56_2 rfl) rfl fun a39 hE39 => st_val hE39 (y_load_one hE39 rfl (hS3.upc hc37 hl37) rfl one3) rfl fun a40 hE40 => st_val hE40 (y_move hE40 rfl) rfl fun a41 hE41 => st_val hE41 (y_neq hE41 rfl rfl) rfl fun a42 hE42 => wpList_nil ?_
        clear hE34 hE35 hE36 hE38 hE39 hE40 hE41
        clear a34 a35 a36 a38 a39 a40 a41
        refine then_normal ?_
        refine cond_split hE42 rfl (fun hb43 => ?_) (fun hb43 => ?_)
        ·
          have hM := hM.trans (if_t hb43)
          have hb43f : ¬ ((nth p0 i1).M = IntKind.i64.wrap (IntKind.i64.wrap (s1_1 + 1) + 1)) := by simpa using hb43
          refine wp_seq (wp_region_lit ?_)
          refine st_val hE42 (y_assign hE42 rfl) rfl fun a44 hE44 => wpList_nil ?_
          clear hE42
          clear a42
          refine then_normal ?_
          refine wp_ret ?_
          refine then_ret ?_
          refine blk_ret ?_
          refine then_ret ?_
          refine then_ret ?_
          refine blk_ret ?_
          refine then_ret ?_
          exact fin1 hE44 rfl rfl ⟨by rw [hM], hS3.below⟩
        ·
          have hM := hM.trans (if_f hb43)
          have hb43f : (nth p0 i1).M = IntKind.i64.wrap (IntKind.i64.wrap (s1_1 + 1) + 1) := by simpa using hb43
          refine wp_skip ?_
          refine then_normal ?_
          refine wp_seq (wp_region_lit ?_)
          refine st_val hE42 (y_move hE42 rfl) rfl fun a45 hE45 => st_val hE45 (y_add hE45 rfl rfl) rfl fun a46 hE46 => st_val hE46 (y_assign hE46 rfl) rfl fun a47 hE47 => wpList_nil ?_
          clear hE42 hE45 hE46
          clear a42 a45 a46
          refine then_normal ?_
          refine wp_seq (wp_seq (wp_region_lit ?_))
          refine st_val hE47 (y_move hE47 rfl) rfl fun a48 hE48 => st_val hE48 (y_move hE48 rfl) rfl fun a49 hE49 => st_index hE49 hp0 rfl rfl rfl (by omega) sl71 rfl fun ad50 cs50 hr50 hc50 hl50 a51 hE51 => ?_
          obtain ⟨rfl, hg50_0, hg50_1, hg50_2, hg50_3, hg50_4, hg50_5, hg50_6, hg50_7, hg50_8, _⟩ := Deed_open hr50
          refine st_val hE51 (y_fieldAddr hE51 rfl fa56_3 rfl) rfl fun a52 hE52 => st_val hE52 (y_fieldAddr hE52 rfl fa54_0 rfl) rfl fun a53 hE53 => st_val hE53 (y_load_one hE53 rfl (hS3.upc hc50 hl50) rfl one3) rfl fun a54 hE54 => st_val hE54 (y_move hE54 rfl) rfl fun a55 hE55 => st_val hE55 (y_neq hE55 rfl rfl) rfl fun a56 hE56 => wpList_nil ?_
          clear hE47 hE48 hE49 hE51 hE52 hE53 hE54 hE55
          clear a47 a48 a49 a51 a52 a53 a54 a55
          refine then_normal ?_
          refine cond_split hE56 rfl (fun hb57 => ?_) (fun hb57 => ?_)
          ·
            have hM := hM.trans (if_t hb57)
            have hb57f : ¬ ((nth p0 i1).Call.Kind = IntKind.i64.wrap (IntKind.i64.wrap (IntKind.i64.wrap (s1_1 + 1) + 1) + 1)) := by simpa using hb57
            refine wp_seq (wp_region_lit ?_)
            refine st_val hE56 (y_assign hE56 rfl) rfl fun a58 hE58 => wpList_nil ?_
            clear hE56
            clear a56
            refine then_normal ?_
            refine wp_ret ?_
            refine then_ret ?_
            refine blk_ret ?_
            refine then_ret ?_
            refine then_ret ?_
            refine blk_ret ?_
            refine then_ret ?_
            exact fin1 hE58 rfl rfl ⟨by rw [hM], hS3.below⟩
          ·
            have hM := hM.trans (if_f hb57)
            have hb57f : (nth p0 i1).Call.Kind = IntKind.i64.wrap (IntKind.i64.wrap (IntKind.i64.wrap (s1_1 + 1) + 1) + 1) := by simpa using hb57
            refine wp_skip ?_
            refine then_normal ?_
            refine wp_seq (wp_region_lit ?_)
            refine st_val hE56 (y_move hE56 rfl) rfl fun a59 hE59 => st_val hE59 (y_add hE59 rfl rfl) rfl fun a60 hE60 => st_val hE60 (y_assign hE60 rfl) rfl fun a61 hE61 => wpList_nil ?_
            clear hE56 hE59 hE60
            clear a56 a59 a60
            refine then_normal ?_
            refine wp_seq (wp_seq (reg_quiet mixed (by kernel_rfl) hS3 ?_))
            refine q_val hE61 (fun w3 hS3 => y_move hE61 rfl) rfl fun a62 hE62 => q_val hE62 (fun w3 hS3 => y_move hE62 rfl) rfl fun a63 hE63 => q_index hE63 hp0 rfl rfl rfl (by omega) sl71 rfl fun ad64 cs64 hr64 hc64 hl64 a65 hE65 => ?_
            obtain ⟨rfl, hg64_0, hg64_1, hg64_2, hg64_3, hg64_4, hg64_5, hg64_6, hg64_7, hg64_8, _⟩ := Deed_open hr64
            refine q_val hE65 (fun w3 hS3 => y_fieldAddr hE65 rfl fa56_3 rfl) rfl fun a66 hE66 => q_val hE66 (fun w3 hS3 => y_fieldAddr hE66 rfl fa54_1 rfl) rfl fun a67 hE67 => q_val hE67 (fun w3 hS3 => y_load_one hE67 rfl (hS3.upc hc64 hl64) rfl one9) rfl fun a68 hE68 => q_val hE68 (fun w3 hS3 => y_move hE68 rfl) rfl fun a69 hE69 => q_call hE69 Tryz.func70 fb70 fn70 (fun w3 hS3 => (c_laws_markText (IntKind.i64.wrap (IntKind.i64.wrap (IntKind.i64.wrap (IntKind.i64.wrap (s1_1 + 1) + 1) + 1) + 1)) (I64_wrap _))) rfl rfl fun a70 hE70 => q_val hE70 (fun w3 hS3 => y_neq_string hE70 rfl rfl) rfl fun a71 hE71 => ?_
            refine q_nil fun w72 hS72 => ?_
            clear hE61 hE62 hE63 hE65 hE66 hE67 hE68 hE69 hE70
            clear a61 a62 a63 a65 a66 a67 a68 a69 a70
            refine then_normal ?_
            refine cond_split hE71 rfl (fun hb73 => ?_) (fun hb73 => ?_)
            ·
              have hM := hM.trans (if_t hb73)
              refine wp_seq (wp_region_lit ?_)
              refine st_val hE71 (y_assign hE71 rfl) rfl fun a74 hE74 => wpList_nil ?_
              clear hE71
              clear a71
              refine then_normal ?_
              refine wp_ret ?_
              refine then_ret ?_
              refine blk_ret ?_
              refine then_ret ?_
              refine then_ret ?_
              refine blk_ret ?_
              refine then_ret ?_
              exact fin1 hE74 rfl rfl ⟨by rw [hM], hS72.below⟩
            ·
              have hM := hM.trans (if_f hb73)
              refine wp_skip ?_
              refine then_normal ?_
              refine wp_seq (wp_region_lit ?_)
              refine st_val hE71 (y_move hE71 rfl) rfl fun a75 hE75 => st_val hE75 (y_add hE75 rfl rfl) rfl fun a76 hE76 => st_val hE76 (y_assign hE76 rfl) rfl fun a77 hE77 => wpList_nil ?_
              clear hE71 hE75 hE76
              clear a71 a75 a76
              refine then_normal ?_
              refine wp_seq (wp_seq (reg_quiet mixed (by kernel_rfl) hS72 ?_))
              refine q_val hE77 (fun w72 hS72 => y_move hE77 rfl) rfl fun a78 hE78 => q_val hE78 (fun w72 hS72 => y_move hE78 rfl) rfl fun a79 hE79 => q_index hE79 hp0 rfl rfl rfl (by omega) sl71 rfl fun ad80 cs80 hr80 hc80 hl80 a81 hE81 => ?_
              obtain ⟨rfl, hg80_0, hg80_1, hg80_2, hg80_3, hg80_4, hg80_5, hg80_6, hg80_7, hg80_8, _⟩ := Deed_open hr80
              refine q_val hE81 (fun w72 hS72 => y_fieldAddr hE81 rfl fa56_3 rfl) rfl fun a82 hE82 => q_val hE82 (fun w72 hS72 => y_fieldAddr hE82 rfl fa54_2 rfl) rfl fun a83 hE83 => q_val hE83 (fun w72 hS72 => y_load_one hE83 rfl (hS72.upc hc80 hl80) rfl one9) rfl fun a84 hE84 => q_val hE84 (fun w72 hS72 => y_move hE84 rfl) rfl fun a85 hE85 => q_call hE85 Tryz.func70 fb70 fn70 (fun w72 hS72 => (c_laws_markText (IntKind.i64.wrap (IntKind.i64.wrap (IntKind.i64.wrap (IntKind.i64.wrap (IntKind.i64.wrap (s1_1 + 1) + 1) + 1) + 1) + 1)) (I64_wrap _))) rfl rfl fun a86 hE86 => q_val hE86 (fun w72 hS72 => y_neq_string hE86 rfl rfl) rfl fun a87 hE87 => ?_
              refine q_nil fun w88 hS88 => ?_
              clear hE77 hE78 hE79 hE81 hE82 hE83 hE84 hE85 hE86
              clear a77 a78 a79 a81 a82 a83 a84 a85 a86
              refine then_normal ?_
              refine cond_split hE87 rfl (fun hb89 => ?_) (fun hb89 => ?_)
              ·
                have hM := hM.trans (if_t hb89)
                refine wp_seq (wp_region_lit ?_)
                refine st_val hE87 (y_assign hE87 rfl) rfl fun a90 hE90 => wpList_nil ?_
                clear hE87
                clear a87
                refine then_normal ?_
                refine wp_ret ?_
                refine then_ret ?_
                refine blk_ret ?_
                refine then_ret ?_
                refine then_ret ?_
                refine blk_ret ?_
                refine then_ret ?_
                exact fin1 hE90 rfl rfl ⟨by rw [hM], hS88.below⟩
              ·
                have hM := hM.trans (if_f hb89)
                refine wp_skip ?_
                refine then_normal ?_
                refine wp_seq (wp_region_lit ?_)
                refine st_val hE87 (y_move hE87 rfl) rfl fun a91 hE91 => st_val hE91 (y_add hE91 rfl rfl) rfl fun a92 hE92 => st_val hE92 (y_assign hE92 rfl) rfl fun a93 hE93 => wpList_nil ?_
                clear hE87 hE91 hE92
                clear a87 a91 a92
                refine then_normal ?_
                refine wp_seq (wp_seq (wp_region_lit ?_))
                refine st_val hE93 (y_move hE93 rfl) rfl fun a94 hE94 => st_val hE94 (y_move hE94 rfl) rfl fun a95 hE95 => st_index hE95 hp0 rfl rfl rfl (by omega) sl71 rfl fun ad96 cs96 hr96 hc96 hl96 a97 hE97 => ?_
                obtain ⟨rfl, hg96_0, hg96_1, hg96_2, hg96_3, hg96_4, hg96_5, hg96_6, hg96_7, hg96_8, _⟩ := Deed_open hr96
                refine st_val hE97 (y_fieldAddr hE97 rfl fa56_3 rfl) rfl fun a98 hE98 => st_val hE98 (y_fieldAddr hE98 rfl fa54_3 rfl) rfl fun a99 hE99 => st_val hE99 (y_load_one hE99 rfl (hS88.upc hc96 hl96) rfl one3) rfl fun a100 hE100 => st_val hE100 (y_move hE100 rfl) rfl fun a101 hE101 => st_val hE101 (y_neq hE101 rfl rfl) rfl fun a102 hE102 => wpList_nil ?_
                clear hE93 hE94 hE95 hE97 hE98 hE99 hE100 hE101
                clear a93 a94 a95 a97 a98 a99 a100 a101
                refine then_normal ?_
                refine cond_split hE102 rfl (fun hb103 => ?_) (fun hb103 => ?_)
                ·
                  have hM := hM.trans (if_t hb103)
                  have hb103f : ¬ ((nth p0 i1).Call.A = IntKind.i64.wrap (IntKind.i64.wrap (IntKind.i64.wrap (IntKind.i64.wrap (IntKind.i64.wrap (IntKind.i64.wrap (s1_1 + 1) + 1) + 1) + 1) + 1) + 1)) := by simpa using hb103
                  refine wp_seq (wp_region_lit ?_)
                  refine st_val hE102 (y_assign hE102 rfl) rfl fun a104 hE104 => wpList_nil ?_
                  clear hE102
                  clear a102
                  refine then_normal ?_
                  refine wp_ret ?_
                  refine then_ret ?_
                  refine blk_ret ?_
                  refine then_ret ?_
                  refine then_ret ?_
                  refine blk_ret ?_
                  refine then_ret ?_
                  exact fin1 hE104 rfl rfl ⟨by rw [hM], hS88.below⟩
                ·
                  have hM := hM.trans (if_f hb103)
                  have hb103f : (nth p0 i1).Call.A = IntKind.i64.wrap (IntKind.i64.wrap (IntKind.i64.wrap (IntKind.i64.wrap (IntKind.i64.wrap (IntKind.i64.wrap (s1_1 + 1) + 1) + 1) + 1) + 1) + 1) := by simpa using hb103
                  refine wp_skip ?_
                  refine then_normal ?_
                  refine wp_seq (wp_region_lit ?_)
                  refine st_val hE102 (y_move hE102 rfl) rfl fun a105 hE105 => st_val hE105 (y_add hE105 rfl rfl) rfl fun a106 hE106 => st_val hE106 (y_assign hE106 rfl) rfl fun a107 hE107 => wpList_nil ?_
                  clear hE102 hE105 hE106
                  clear a102 a105 a106
                  refine then_normal ?_
                  refine wp_seq (wp_seq (wp_region_lit ?_))
                  refine st_val hE107 (y_move hE107 rfl) rfl fun a108 hE108 => st_val hE108 (y_move hE108 rfl) rfl fun a109 hE109 => st_index hE109 hp0 rfl rfl rfl (by omega) sl71 rfl fun ad110 cs110 hr110 hc110 hl110 a111 hE111 => ?_
                  obtain ⟨rfl, hg110_0, hg110_1, hg110_2, hg110_3, hg110_4, hg110_5, hg110_6, hg110_7, hg110_8, _⟩ := Deed_open hr110
                  refine st_val hE111 (y_fieldAddr hE111 rfl fa56_3 rfl) rfl fun a112 hE112 => st_val hE112 (y_fieldAddr hE112 rfl fa54_4 rfl) rfl fun a113 hE113 => st_val hE113 (y_load_one hE113 rfl (hS88.upc hc110 hl110) rfl one3) rfl fun a114 hE114 => st_val hE114 (y_move hE114 rfl) rfl fun a115 hE115 => st_val hE115 (y_neq hE115 rfl rfl) rfl fun a116 hE116 => wpList_nil ?_
                  clear hE107 hE108 hE109 hE111 hE112 hE113 hE114 hE115
                  clear a107 a108 a109 a111 a112 a113 a114 a115
                  refine then_normal ?_
                  refine cond_split hE116 rfl (fun hb117 => ?_) (fun hb117 => ?_)
                  ·
                    have hM := hM.trans (if_t hb117)
                    have hb117f : ¬ ((nth p0 i1).Call.B = IntKind.i64.wrap (IntKind.i64.wrap (IntKind.i64.wrap (IntKind.i64.wrap (IntKind.i64.wrap (IntKind.i64.wrap (IntKind.i64.wrap (s1_1 + 1) + 1) + 1) + 1) + 1) + 1) + 1)) := by simpa using hb117
                    refine wp_seq (wp_region_lit ?_)
                    refine st_val hE116 (y_assign hE116 rfl) rfl fun a118 hE118 => wpList_nil ?_
                    clear hE116
                    clear a116
                    refine then_normal ?_
                    refine wp_ret ?_
                    refine then_ret ?_
                    refine blk_ret ?_
                    refine then_ret ?_
                    refine then_ret ?_
                    refine blk_ret ?_
                    refine then_ret ?_
                    exact fin1 hE118 rfl rfl ⟨by rw [hM], hS88.below⟩
                  ·
                    have hM := hM.trans (if_f hb117)
                    have hb117f : (nth p0 i1).Call.B = IntKind.i64.wrap (IntKind.i64.wrap (IntKind.i64.wrap (IntKind.i64.wrap (IntKind.i64.wrap (IntKind.i64.wrap (IntKind.i64.wrap (s1_1 + 1) + 1) + 1) + 1) + 1) + 1) + 1) := by simpa using hb117
                    refine wp_skip ?_
                    refine then_normal ?_
                    refine wp_seq (wp_region_lit ?_)
                    refine st_val hE116 (y_move hE116 rfl) rfl fun a119 hE119 => st_val hE119 (y_add hE119 rfl rfl) rfl fun a120 hE120 => st_val hE120 (y_assign hE120 rfl) rfl fun a121 hE121 => wpList_nil ?_
                    clear hE116 hE119 hE120
                    clear a116 a119 a120
                    refine then_normal ?_
                    refine wp_seq (wp_seq (reg_quiet mixed (by kernel_rfl) hS88 ?_))
                    refine q_val hE121 (fun w88 hS88 => y_move hE121 rfl) rfl fun a122 hE122 => q_val hE122 (fun w88 hS88 => y_move hE122 rfl) rfl fun a123 hE123 => q_index hE123 hp0 rfl rfl rfl (by omega) sl71 rfl fun ad124 cs124 hr124 hc124 hl124 a125 hE125 => ?_
                    obtain ⟨rfl, hg124_0, hg124_1, hg124_2, hg124_3, hg124_4, hg124_5, hg124_6, hg124_7, hg124_8, _⟩ := Deed_open hr124
                    refine q_val hE125 (fun w88 hS88 => y_fieldAddr hE125 rfl fa56_3 rfl) rfl fun a126 hE126 => q_val hE126 (fun w88 hS88 => y_fieldAddr hE126 rfl fa54_5 rfl) rfl fun a127 hE127 => q_val hE127 (fun w88 hS88 => y_load_one hE127 rfl (hS88.upc hc124 hl124) rfl one9) rfl fun a128 hE128 => q_val hE128 (fun w88 hS88 => y_move hE128 rfl) rfl fun a129 hE129 => q_call hE129 Tryz.func70 fb70 fn70 (fun w88 hS88 => (c_laws_markText (IntKind.i64.wrap (IntKind.i64.wrap (IntKind.i64.wrap (IntKind.i64.wrap (IntKind.i64.wrap (IntKind.i64.wrap (IntKind.i64.wrap (IntKind.i64.wrap (s1_1 + 1) + 1) + 1) + 1) + 1) + 1) + 1) + 1)) (I64_wrap _))) rfl rfl fun a130 hE130 => q_val hE130 (fun w88 hS88 => y_neq_string hE130 rfl rfl) rfl fun a131 hE131 => ?_
                    refine q_nil fun w132 hS132 => ?_
                    clear hE121 hE122 hE123 hE125 hE126 hE127 hE128 hE129 hE130
                    clear a121 a122 a123 a125 a126 a127 a128 a129 a130
                    refine then_normal ?_
                    refine cond_split hE131 rfl (fun hb133 => ?_) (fun hb133 => ?_)
                    ·
                      have hM := hM.trans (if_t hb133)
                      refine wp_seq (wp_region_lit ?_)
                      refine st_val hE131 (y_assign hE131 rfl) rfl fun a134 hE134 => wpList_nil ?_
                      clear hE131
                      clear a131
                      refine then_normal ?_
                      refine wp_ret ?_
                      refine then_ret ?_
                      refine blk_ret ?_
                      refine then_ret ?_
                      refine then_ret ?_
                      refine blk_ret ?_
                      refine then_ret ?_
                      exact fin1 hE134 rfl rfl ⟨by rw [hM], hS132.below⟩
                    ·
                      have hM := hM.trans (if_f hb133)
                      refine wp_skip ?_
                      refine then_normal ?_
                      refine wp_region_lit ?_
                      refine st_val hE131 (y_move hE131 rfl) rfl fun a135 hE135 => st_val hE135 (y_add hE135 rfl rfl) rfl fun a136 hE136 => st_val hE136 (y_assign hE136 rfl) rfl fun a137 hE137 => wpList_nil ?_
                      clear hE131 hE135 hE136
                      clear a131 a135 a136
                      refine blk_normal ?_
                      refine then_normal ?_
                      refine wp_region_lit ?_
                      refine st_val hE137 (y_move hE137 rfl) rfl fun a138 hE138 => st_val hE138 (y_add_in hE138 rfl rfl (m := ((i1 + 1 : Nat) : Int)) (by omega) (by omega) (by omega)) rfl fun a139 hE139 => st_val hE139 (y_assign hE139 rfl) rfl fun a140 hE140 => wpList_nil ?_
                      clear hE137 hE138 hE139
                      clear a137 a138 a139
                      refine then_normal ⟨fu1, Nat.lt_succ_self _, (i1 + 1), IntKind.i64.wrap (IntKind.i64.wrap (IntKind.i64.wrap (IntKind.i64.wrap (IntKind.i64.wrap (IntKind.i64.wrap (IntKind.i64.wrap (IntKind.i64.wrap (IntKind.i64.wrap (s1_1 + 1) + 1) + 1) + 1) + 1) + 1) + 1) + 1) + 1), by omega, by omega, hM, hE140.weaken ⟨rfl, rfl, rfl, trivial⟩, hS132⟩
  ·
    have hge1 : ¬ i1 < p0.length := by have := of_decide_eq_false hb8; omega
    obtain rfl : fu1 = 0 := by omega
    have hM := hM.trans (laws_heldActS_l1.eq_1 _ _ _ _)
    refine wp_exit ?_
    refine then_exit ?_
    refine then_exit ?_
    refine blk_exit ?_
    refine then_normal ?_
    refine wp_seq (wp_region_lit ?_)
    refine st_val hE7 (y_move hE7 rfl) rfl fun a141 hE141 => st_val hE141 (y_assign hE141 rfl) rfl fun a142 hE142 => wpList_nil ?_
    clear hE7 hE141
    clear a7 a141
    refine then_normal ?_
    refine wp_ret ?_
    exact fin1 hE142 rfl rfl ⟨by rw [hM], hS3.below⟩

end Go.Proofs.YtnjidaonbcbphaaGreatDoor.Fw

/-
  The abstract machine: regions that draw their order, where ways meet again. No condition: every lemma is general in the program.
-/
namespace Go.Proofs.YtnjidaonbcbphaaGreatDoor.Fw
open Go.RowKit
set_option linter.unusedVariables false

theorem SubE_mem {f : List Nat} {E : List (Nat × En)} : ∀ {js : List Nat} {E2 : List (Nat × En)}, SubE f E js E2 → ∀ e ∈ E2, ∃ q e', f[e.1]? = some q ∧ e.2.ren f = some e' ∧ (q, e') ∈ E
  | [], [], _, _, h => by cases h
  | [], _ :: _, h, _, _ => h.elim
  | _ :: _, [], h, _, _ => h.elim
  | i :: is, (r, e) :: E2, h, x, hx => by
    obtain ⟨h1, h2⟩ := h
    rcases List.mem_cons.1 hx with rfl | hx
    · split at h1
      · rename_i q e' hq he
        exact ⟨q, e', nthF_spec hq, he, List.mem_of_getElem? (nthE_spec h1)⟩
      · exact h1.elim
    · exact SubE_mem h2 x hx
theorem renθ_pre {f : List Nat} {m0 : Nat} {θ0 η : List Loc} (hl : θ0.length = m0) (h0 : f.take m0 = List.range m0) : renθ f (θ0 ++ η) = θ0 ++ renθ (f.drop m0) (θ0 ++ η) := by
  conv => lhs; rw [← List.take_append_drop m0 f]
  unfold renθ
  rw [List.map_append, h0]
  congr 1
  subst hl
  apply List.ext_getElem?
  intro i
  rw [List.getElem?_map]
  rcases Nat.lt_or_ge i θ0.length with h | h
  · rw [List.getElem?_range h, Option.map_some, List.getD_eq_getElem?_getD, List.getElem?_append_left h, List.getElem?_eq_getElem h]
    rfl
  · rw [List.getElem?_eq_none (by rw [List.length_range]; exact h), List.getElem?_eq_none h]
    rfl
/-- From one state of a drawn region to another that follows from it. -/
theorem RunD.sub {c : Cx} {K : Act → World → Prop} {E0 : List (Nat × En)} {m0 : Nat} {ops : Array Oper} {n : Nat} {M : List (Nat × En)} {listed : Array Bool} {σ σ2 : St} (f is js : List Nat) (hs : Sub f is σ σ2) (hn : is.Nodup) (h0 : f.take m0 = List.range m0) (hM : SubE f M js M) (h : RunD c K E0 m0 ops n M listed σ2) : RunD c K E0 m0 ops n M listed σ := by
  intro θ0 η a w hl hR hS hB0 hF
  have hR2 := hR.sub hs hn
  rw [renθ_pre hl h0] at hR2
  refine h θ0 _ a w hl hR2 hS hB0 fun e he => ⟨?_, (hF e he).2⟩
  obtain ⟨q, e', hq, hr, hmem⟩ := SubE_mem hM e he
  have := En.ren_ok hq hr (hF _ hmem).1
  rw [renθ_pre hl h0] at this
  exact this
/-- A state that is proved first. -/
theorem RunD.cut {c : Cx} {K : Act → World → Prop} {E0 : List (Nat × En)} {m0 : Nat} {ops : Array Oper} {n : Nat} {M : List (Nat × En)} {listed : Array Bool} {σ : St} (n2 : Nat) (listed2 : Array Bool) (σ2 : St) (h : RunD c K E0 m0 ops n2 M listed2 σ2) (hk : RunD c K E0 m0 ops n2 M listed2 σ2 → RunD c K E0 m0 ops n M listed σ) : RunD c K E0 m0 ops n M listed σ := hk h
def RunDs (c : Cx) (K : Act → World → Prop) (E0 : List (Nat × En)) (m0 : Nat) (ops : Array Oper) (n : Nat) (M : List (Nat × En)) (listed : Array Bool) (σ : St) : List Nat → Prop
  | [] => True
  | i :: is => RunD1 c K E0 m0 ops n M listed σ i ∧ RunDs c K E0 m0 ops n M listed σ is
theorem RunDs.all {c : Cx} {K : Act → World → Prop} {E0 : List (Nat × En)} {m0 : Nat} {ops : Array Oper} {n : Nat} {M : List (Nat × En)} {listed : Array Bool} {σ : St} : ∀ {L : List Nat}, RunDs c K E0 m0 ops n M listed σ L → ∀ i ∈ L, RunD1 c K E0 m0 ops n M listed σ i
  | [], _, _, h => by cases h
  | j :: L, h, i, hi => by
    rcases List.mem_cons.1 hi with rfl | hi
    · exact h.1
    · exact RunDs.all h.2 i hi
theorem RunD.gd {c : Cx} {K : Act → World → Prop} {E0 : List (Nat × En)} {m0 : Nat} {ops : Array Oper} {n : Nat} {M : List (Nat × En)} {listed : Array Bool} {σ : St} (r : Nat) {α : Type} {d : Dat α} {xs : List α} (hp : payE σ.E r = some ⟨α, d, xs⟩) (h : (@instDatList α d).good xs → RunD c K E0 m0 ops n M listed σ) : RunD c K E0 m0 ops n M listed σ := by
  intro θ0 η a w hl hR hS hB0 hM
  obtain ⟨S, w1, hh⟩ := hR.heap
  refine h ?_ θ0 η a w hl hR hS hB0 hM
  rcases payE_spec hp with he | he
  · obtain ⟨l, hl, ho⟩ := hh.own he
    exact Dat.rd_good (α := List α) (B := fun _ => True) (w := w) (cs := [_]) ⟨_, rfl, ho.rd fun _ _ => trivial⟩
  · obtain ⟨l, hl, ho⟩ := hh.ok _ (lkE_mem he)
    exact Dat.rd_good (α := List α) (B := S) (w := w1) (cs := [_]) ⟨_, rfl, ho⟩
end Go.Proofs.YtnjidaonbcbphaaGreatDoor.Fw

/-
  The abstract machine: calls that write into a row that they are handed. No condition: every lemma is general in the program.
-/
namespace Go.Proofs.YtnjidaonbcbphaaGreatDoor.Fw
open Go.RowKit
set_option linter.unusedVariables false

/-- The contract of a function that turns the row that it is handed, with a number beside it, and hands back a number. -/
def CTU (P : Program) (f : FuncId) {α : Type} (dα : Dat α) (p0 : List α) (k : Int) (y : List α) (k' : Int) : Prop :=
  ∀ (v0 : Value) (F0 : List Nat) (w : World), SH (Off [Ck.own (α := List α) [v0] p0 F0] w) w w [Ck.own (α := List α) [v0] p0 F0] →
    Calls P f [v0, .int .i64 k].toArray w (fun e w' => e = .returned (.int .i64 k') ∧ I64 k' ∧ ∃ F', SH (Off [Ck.own (α := List α) [v0] p0 F0] w) w w' [Ck.own (α := List α) [v0] y F'])

section
variable {c : Cx} {σ : St} {all : Array Oper} {ty : TypeId} {pos : String} {after : Array Edge} {d : Nat}
theorem OpS.mut {α : Type} {dα : Dat α} {k k' : Int} {p0 y : List α} {f : FuncId} {x : Operand} {xs : Array Operand} {ts : Array TypeId} {r len : Nat} (hct : CTU c.P f dα p0 k y k') (hfn : FnOk c.P f) (hx : ev σ.ρ x = some (.fn f [])) (hev : evs σ.ρ xs.toList = some [.sl r len, .v (.int .i64 k)]) (hr : lkE σ.E r = some (.own α dα p0)) (hl : len = p0.length) (hd : Nat.blt d σ.n = true) :
    OpSg c σ all ⟨some d, .call { callee := .value x, args := xs, argTypes := ts }, ty, pos, after, none⟩ (put d (.v (.int .i64 k')) (afterStE σ r dα y [])) (I64 k' ∧ p0.length = y.length) :=
  OpSg.of fun θ a w h K Q hK => by
    subst hl
    obtain ⟨us, hus, hm⟩ := h.env.evsL hev
    obtain ⟨S, w1, hh⟩ := h.heap
    obtain ⟨fn, hf, hb, hn⟩ := hfn
    have hn' : ¬ fn.name = "runtime.NumGoroutine" := by simpa using hn
    have hb' : ¬ fn.body = none := by intro e; rw [e] at hb; cases hb
    have hxc := h.env.con hx
    simp only [V.con, Option.map_eq_some_iff] at hxc
    obtain ⟨capt, hcapt, hfv⟩ := hxc
    have hcap : capt = [] := by
      have : some ([] : List Value) = some capt := hcapt
      cases this; rfl
    subst hcap
    have hmm : xs.map a.eval = us.toArray := by
      apply Array.toList_inj.1
      rw [Array.toList_map, Fw.evals h.env.env hm]
    obtain ⟨l, hlo, hown⟩ := hh.own hr
    have hu : us = [.slice l.A p0.length l.cap, .int .i64 k] := by
      have h1 : conL θ [.sl r p0.length, .v (.int .i64 k)] = some [.slice l.A p0.length l.cap, .int .i64 k] := by
        simp only [conL, V.con, hlo]
      rw [h1] at hus
      cases hus
      rfl
    subst hu
    unfold Oper.wp
    have : (execOp a.eval ⟨some d, .call { callee := .value x, args := xs, argTypes := ts }, ty, pos, after, none⟩).run c.P w = .ok (.enter f [Value.slice l.A p0.length l.cap, .int .i64 k].toArray) w := by
      simp [execOp, resolve, hmm, ← hfv, Deferred.ofValue, invoke, callFunc, hf, hn', hb']
    rw [this, Oper.upon_enter]
    -- the row alone
    have hck := hh.sh.ok _ (List.mem_map.2 ⟨_, lkE_mem hr, rfl⟩)
    have hge := hh.sh.ge _ (List.mem_map.2 ⟨_, lkE_mem hr, rfl⟩)
    have hlF : ((En.own α dα p0).ck θ r).F = l.F := locF_of hlo
    have hnd : l.F.Nodup := by
      obtain ⟨i, hi⟩ := List.getElem?_of_mem (List.mem_map.2 ⟨_, lkE_mem hr, rfl⟩ : (En.own α dα p0).ck θ r ∈ σ.E.map fun e => e.2.ck θ e.1)
      have := (nodup_flatMap_iff.1 hh.sh.apart).1 i _ hi
      rwa [hlF] at this
    let c0 : Ck := Ck.own (α := List α) [.slice l.A p0.length l.cap] p0 l.F
    have hc0 : SH (Off [c0] w) w w [c0] := by
      refine ⟨Keep.refl _ _, fun b hb => hb.1, fun x hx => ?_, fun x hx b hb => ?_, ?_⟩
      · obtain rfl := List.mem_singleton.1 hx
        intro w2 hw2
        obtain ⟨l2, hl2, ho⟩ := hck w2 (by rw [hlF]; exact hw2)
        rw [hlo] at hl2
        cases hl2
        exact ⟨_, rfl, ho⟩
      · obtain rfl := List.mem_singleton.1 hx
        refine ⟨fun ho => ho.2 (List.mem_flatMap.2 ⟨c0, List.mem_singleton.2 rfl, hb⟩), (hge b (by rw [hlF]; exact hb)).2⟩
      · rw [List.flatMap_cons, List.flatMap_nil, List.append_nil]
        exact hnd
    refine (hct _ l.F w hc0).mono fun e w' he => ?_
    obtain ⟨rfl, hi, F', hs⟩ := he
    have hyO : SlO w' (.slice l.A p0.length l.cap) y F' := hs.slO (k := 0) rfl
    have hlen : y.length = p0.length := by
      rcases hyO with ⟨e1, e2, _⟩ | ⟨g, cap, arr, T, Fs, e1, e2, e3, _⟩
      · injection e1 with _ e1b _
        rw [e2, e1b]
        rfl
      · injection e1 with _ e1b _
        exact e1b.symm
    let l' : Loc := ⟨l.A, l.cap, F'⟩
    have hg' : (θ ++ [l'])[σ.m]? = some l' := by rw [← h.len]; exact get_mid
    have hgr := get_ext (θ' := [l']) hlo
    have hon : ownN σ.E r := ⟨⟨α, dα, p0⟩, by unfold payOE; rw [hr]; rfl⟩
    have hFt : ∀ b ∈ l.F, b ∈ (takeE [r] σ.E).flatMap (fun e => (e.2.ck (θ ++ [l']) e.1).F) := fun b hb => takeE_own (List.mem_singleton.2 rfl) hon (by rw [locF_of hgr]; exact hb)
    have hfuse := (hh.ext (θ' := [l'])).fuse [r] (p := (σ.m, En.own α dα y)) (w' := w') hs.keep.os hs.keep.tape hs.keep.output hs.keep.size (fun b hbl hbn => hs.keep.block b ⟨hbl, fun hm => by
      obtain ⟨x, hx, hbx⟩ := List.mem_flatMap.1 hm
      obtain rfl := List.mem_singleton.1 hx
      exact hbn (hFt b hbx)⟩) ?_ ?_ ?_ trivial
    · have hR : R c (θ ++ [l']) (afterStE σ r dα y []) a w' := ⟨by rw [List.length_append, h.len]; rfl, (h.env.ext (θ' := [l'])).rn hgr hg' rfl rfl, S, w1, hfuse.rn hgr hg' rfl rfl⟩
      exact hK [l'] _ _ (hR.put hd rfl) ⟨hi, hlen.symm⟩
    · intro w2 hw2
      have hF2 : ((En.own α dα y).ck (θ ++ [l']) σ.m).F = F' := locF_of hg'
      have hok := hs.ok _ (List.mem_singleton.2 rfl) w2 (fun b hb => hw2 b (by rw [hF2]; exact hb))
      obtain ⟨v, hv, ho⟩ := hok
      cases hv
      refine ⟨l', hg', ?_⟩
      rw [hlen]
      exact ho
    · intro b hb
      have hb' : b ∈ F' := by
        have : b ∈ locF (θ ++ [l']) σ.m := hb
        rwa [locF_of hg'] at this
      have h1 := hs.ge _ (List.mem_singleton.2 rfl) b hb'
      refine ⟨?_, h1.2⟩
      rcases Nat.lt_or_ge b w.heap.size with hlt | hge'
      · refine .inl (Classical.byContradiction fun hn => h1.1 ⟨hlt, fun hm => ?_⟩)
        obtain ⟨x, hx, hbx⟩ := List.mem_flatMap.1 hm
        obtain rfl := List.mem_singleton.1 hx
        exact hn (hFt b hbx)
      · exact .inr hge'
    · show (locF _ σ.m).Nodup
      rw [locF_of hg']
      have := hs.apart
      rw [List.flatMap_cons, List.flatMap_nil, List.append_nil] at this
      exact this
end
end Go.Proofs.YtnjidaonbcbphaaGreatDoor.Fw

/-
  The abstract machine: a literal of rows that are one's own becomes a row of rows. No condition: every lemma is general in the program.
-/
namespace Go.Proofs.YtnjidaonbcbphaaGreatDoor.Fw
open Go.RowKit
set_option linter.unusedVariables false

/-- A flat literal becomes a row, in a region that draws its order. -/
theorem RunD.lit {c : Cx} {K : Act → World → Prop} {E0 : List (Nat × En)} {m0 : Nat} {ops : Array Oper} {N : Nat} {M : List (Nat × En)} {listed : Array Bool} {σ : St} (r : Nat) {α : Type} {d : Dat α} [s : @Str α d] (ys : List α) {cs : List V} {T n : Nat} (he : lkE σ.E r = some (.lit cs T n)) (hl : ys.length = n) (hm : Nat.ble n 1000 = true) (hn : V.names.namesL cs = []) (ho : ElOk σ.E (Dat.sz α) d s.fk ys cs) (h : RunD c K E0 m0 ops N M listed ⟨σ.n, σ.m, σ.ρ, putE r (r, .own α d ys) σ.E⟩) : RunD c K E0 m0 ops N M listed σ := by
  intro θ0 η a w hl0 hR hS hB0 hM
  obtain ⟨S, w1, hh⟩ := hR.heap
  exact h θ0 η a w hl0 ⟨hR.len, hR.env, S, w1, hh.lit he s hl (by have := Nat.le_of_ble_eq_true hm; unfold maxLen; omega) hn ho⟩ hS hB0 hM
end Go.Proofs.YtnjidaonbcbphaaGreatDoor.Fw

/-
  The steps of regions that draw their order, where ways meet again. No condition.
-/
namespace Go.Proofs.YtnjidaonbcbphaaGreatDoor.Fw
open Go.RowKit
set_option linter.unusedVariables false
set_option maxRecDepth 100000
section
variable {fn : Func} {Bz : Bs} {S1 : Nat → Prop} {w1 : World} {hk1 : Keep Bz.S0 Bz.w w1} {hs1 : ∀ b, Bz.S0 b → S1 b} {hd1 : ∀ b, S1 b → b < w1.heap.size} {K : Act → World → Prop} {E0 : List (Nat × En)} {m0 : Nat} {ops : Array Oper} {n : Nat} {M : List (Nat × En)} {listed : Array Bool} {σ σ' : St}
theorem d2 {i : Nat} {is : List Nat} (h1 : RunD1 (cx fn Bz S1 w1 hk1 hs1 hd1) K E0 m0 ops n M listed σ i) (h2 : RunDs (cx fn Bz S1 w1 hk1 hs1 hd1) K E0 m0 ops n M listed σ is) : RunDs (cx fn Bz S1 w1 hk1 hs1 hd1) K E0 m0 ops n M listed σ (i :: is) := ⟨h1, h2⟩
theorem d0 : RunDs (cx fn Bz S1 w1 hk1 hs1 hd1) K E0 m0 ops n M listed σ [] := trivial
end
section
variable {fn : Func} {Bz : Bs} {S1 : Nat → Prop} {w1 : World} {hk1 : Keep Bz.S0 Bz.w w1} {hs1 : ∀ b, Bz.S0 b → S1 b} {hd1 : ∀ b, S1 b → b < w1.heap.size} {σ σ' : St} {all : Array Oper} {ty : TypeId} {pos : String} {after : Array Edge} {d : Nat}
theorem mu {α : Type} {dα : Dat α} {f : FuncId} {r len : Nat} {x : Operand} {xs : Array Operand} {ts : Array TypeId} {k k' : Int} {p0 y : List α} (hct : CTU Tryz.prog f dα p0 k y k') (hfn : FnOk Tryz.prog f) (hx : ev σ.ρ x = some (.fn f []) := by dsimp only [ev, evs, evsG, cons2, lk, lkE, cond, Nat.beq, evG, stO', V.strip, grd, grdO, nthO, gB, gBV, Nat.pred, wnt, List.toList_toArray, List.cons_append, List.nil_append, List.append_nil]) (hev : evs σ.ρ xs.toList = some [.sl r len, .v (.int .i64 k)] := by dsimp only [ev, evs, evsG, cons2, lk, lkE, cond, Nat.beq, evG, stO', V.strip, grd, grdO, nthO, gB, gBV, Nat.pred, wnt, List.toList_toArray, List.cons_append, List.nil_append, List.append_nil]) (hr : lkE σ.E r = some (.own α dα p0) := by dsimp only [ev, evs, evsG, cons2, lk, lkE, cond, Nat.beq, evG, stO', V.strip, grd, grdO, nthO, gB, gBV, Nat.pred, wnt, List.toList_toArray, List.cons_append, List.nil_append, List.append_nil]) (hl : len = p0.length := by first | rfl | assumption) (hd : Nat.blt d σ.n = true := by rfl) :
    OpSg (cx fn Bz S1 w1 hk1 hs1 hd1) σ all ⟨some d, .call { callee := .value x, args := xs, argTypes := ts }, ty, pos, after, none⟩ (put d (.v (.int .i64 k')) (afterStE σ r dα y [])) (I64 k' ∧ p0.length = y.length) := OpS.mut hct hfn hx hev hr hl hd
end
end Go.Proofs.YtnjidaonbcbphaaGreatDoor.Fw

/-
  Marks over actions, carried over to the abstract machine. No condition.
-/
namespace Go.Proofs.YtnjidaonbcbphaaGreatDoor.Fw
open Go.RowKit
set_option linter.unusedVariables false
set_option maxRecDepth 100000

theorem k_laws_heldActS (p0 : List Deed) (p1 : Int) (h : I64 p1) : CTs 42 [.o (.sl Deed instDatDeed p0), .o (.c (.int .i64 p1))] [.c (.int .i64 (laws_heldActS p0 p1))] := CT.flat fun w vs hG hA => by
  cases vs with
  | nil => exact hA.elim
  | cons v r =>
    cases r with
    | nil => exact hA.2.elim
    | cons u r =>
      cases r with
      | cons => exact hA.2.2.elim
      | nil =>
        obtain rfl : u = .int .i64 p1 := hA.2.1
        exact c_laws_heldActS p0 p1 hA.1
theorem u_laws_markActS (p0 : List Deed) (p1 : Int) (h : I64 p1) : CTU Tryz.prog 41 instDatDeed p0 p1 (laws_markActS p0 p1).1 (laws_markActS p0 p1).2 := fun v0 F0 w hs => c_laws_markActS p0 p1 hs h
end Go.Proofs.YtnjidaonbcbphaaGreatDoor.Fw

/-
  The reference and the program read the same actions off a text; what was marked is found so. No condition.
-/
namespace Go.Proofs.YtnjidaonbcbphaaGreatDoor.Fw
open Go.RowKit
set_option linter.unusedVariables false
set_option linter.unusedSimpArgs false
set_option maxRecDepth 100000
theorem script_l1 (p0 : ByteArray) : ∀ n (v : List Deed) i, v.length ≤ 60 → impl_ScriptActs_l1 p0 n v i = spec_ScriptActs_l1 p0 n v i := by
  intro n
  induction n with
  | zero => intro v i _; rfl
  | succ n ih =>
    intro v i hv
    rw [impl_ScriptActs_l1, spec_ScriptActs_l1, split_lines, l21_lines, PartsOf_twin, ReadAct_twin]
    have e1 : ((decide ((((spec_PartsOf (nth (linesS p0) i)).1).length : Int) = 0)) || (strings_HasPrefix (nth ((spec_PartsOf (nth (linesS p0) i)).1) 0) ⟨#[35]⟩)) = ((decide ((((spec_PartsOf (nth (linesS p0) i)).1).length : Int) = 0)) || (decide (((byteAt (nth ((spec_PartsOf (nth (linesS p0) i)).1) 0) 0).toNat : Int) = 35))) := by
      by_cases h0 : (((spec_PartsOf (nth (linesS p0) i)).1.length : Nat) : Int) = 0
      · rw [decide_eq_true h0, Bool.true_or, Bool.true_or]
      · rw [hasHash (part_pos _ h0)]
    have e2 : decide ((v.length : Int) = 60) = decide ((v.length : Int) ≥ 60) := decide_eq_decide.2 (by omega)
    rw [e1, e2, ih v (i + 1) hv]
    cases h60 : decide ((v.length : Int) ≥ 60) with
    | true => rw [Bool.or_true]; rfl
    | false =>
      have h6 := of_decide_eq_false h60
      rw [ih (v ++ [_]) (i + 1) (by rw [List.length_append, List.length_singleton]; omega)]
theorem ScriptActs_twin (p0 : ByteArray) : impl_ScriptActs p0 = spec_ScriptActs p0 := by
  unfold impl_ScriptActs spec_ScriptActs
  rw [script_l1 _ _ _ _ (by simp), split_lines, l21_lines]
theorem script_l1_len (p0 : ByteArray) : ∀ n (v : List Deed) i, v.length ≤ 60 → (spec_ScriptActs_l1 p0 n v i).1.length ≤ 60 := by
  intro n
  induction n with
  | zero => intro v i h; exact h
  | succ n ih =>
    intro v i hv
    rw [spec_ScriptActs_l1]
    cases (((spec_PartsOf (nth (spec_l21Split p0 (10 : UInt8)) i)).2) && ((decide ((((spec_PartsOf (nth (spec_l21Split p0 (10 : UInt8)) i)).1).length : Int) = 0)) || (decide (((byteAt (nth ((spec_PartsOf (nth (spec_l21Split p0 (10 : UInt8)) i)).1) 0) 0).toNat : Int) = 35)))) with
    | true => exact ih v (i + 1) hv
    | false =>
      cases h60 : ((!((spec_ReadAct (nth (spec_l21Split p0 (10 : UInt8)) i)).2)) || (decide ((v.length : Int) ≥ 60))) with
      | true => exact Nat.zero_le _
      | false =>
        have h6 := of_decide_eq_false (Bool.or_eq_false_iff.1 h60).2
        exact ih _ (i + 1) (by rw [List.length_append, List.length_singleton]; omega)
theorem script_len (p0 : ByteArray) : (spec_ScriptActs p0).1.length ≤ 60 := by
  unfold spec_ScriptActs
  cases decide ((p0.size : Int) > 12000)
  · exact script_l1_len p0 _ _ _ (by simp)
  · exact Nat.zero_le _

/-! ## Marks, generally -/
theorem wrap_up {s hi : Int} (h : 0 ≤ s ∧ s ≤ hi) (hh : hi ≤ 2305843009213693952) : 0 ≤ IntKind.i64.wrap (s + 1) ∧ IntKind.i64.wrap (s + 1) ≤ hi + 1 := by
  rw [IntWalk.i64_in (s + 1) ⟨by omega, by omega⟩]
  omega
theorem nth_set_self {α : Type} [Inhabited α] {xs : List α} {i : Nat} {x : α} (h : i < xs.length) : nth (xs.set i x) i = x := by
  simp [nth, List.getD_eq_getElem?_getD, h]
theorem nth_set_ne {α : Type} [Inhabited α] {xs : List α} {i j : Nat} {x : α} (h : i ≠ j) : nth (xs.set i x) j = nth xs j := by
  simp [nth, List.getD_eq_getElem?_getD, List.getElem?_set_ne h]

theorem laws_markActS_l1_le (p0 : List Deed) (p1 : Int) : ∀ (n i : Nat) (s : Int) (y : List Deed), 0 ≤ s → s + 9 * n ≤ 1152921504606846976 → 0 ≤ (laws_markActS_l1 p0 p1 n i s y).2 ∧ (laws_markActS_l1 p0 p1 n i s y).2 ≤ s + 9 * n := by
  intro n
  induction n with
  | zero => intro i s y h0 h1; exact ⟨h0, by simp [laws_markActS_l1]⟩
  | succ n ih =>
    intro i s y h0 h1
    have hw := (wrap_up (wrap_up (wrap_up (wrap_up (wrap_up (wrap_up (wrap_up (wrap_up (wrap_up (show 0 ≤ s ∧ s ≤ s from ⟨h0, Int.le_refl _⟩) (by omega)) (by omega)) (by omega)) (by omega)) (by omega)) (by omega)) (by omega)) (by omega)) (by omega))
    rw [laws_markActS_l1]
    have h2 := fun Y => ih (i + 1) _ Y hw.1 (by omega)
    exact ⟨(h2 _).1, Int.le_trans (h2 _).2 (by omega)⟩
theorem laws_markActS_le {p0 : List Deed} {p1 : Int} (h0 : 0 ≤ p1) (h1 : p1 ≤ 576460752303423488) (hl : p0.length ≤ 1048576) : 0 ≤ (laws_markActS p0 p1).2 ∧ (laws_markActS p0 p1).2 ≤ p1 + 9437184 := by
  unfold laws_markActS
  have := laws_markActS_l1_le p0 p1 (p0.length - 0) 0 p1 p0 h0 (by omega)
  exact ⟨this.1, by omega⟩

theorem markAct_length (q : List Deed) (k : Int) : ∀ (n i : Nat) (s : Int) (y : List Deed), (laws_markActS_l1 q k n i s y).1.length = y.length := by
  intro n
  induction n with
  | zero => intro i s y; rfl
  | succ n ih => intro i s y; rw [laws_markActS_l1, ih, List.length_set]
theorem markAct_below (q : List Deed) (k : Int) : ∀ (n i : Nat) (s : Int) (y : List Deed) (j : Nat), j < i → nth (laws_markActS_l1 q k n i s y).1 j = nth y j := by
  intro n
  induction n with
  | zero => intro i s y j _; rfl
  | succ n ih => intro i s y j hj; rw [laws_markActS_l1, ih _ _ _ _ (by omega), nth_set_ne (by omega)]
theorem heldAct_marked (q : List Deed) (k k2 : Int) : ∀ (n i : Nat) (s : Int) (y : List Deed), i + n ≤ y.length → laws_heldActS_l1 (laws_markActS_l1 q k n i s y).1 k2 n i s = (laws_markActS_l1 q k n i s y).2 := by
  intro n
  induction n with
  | zero => intro i s y _; rfl
  | succ n ih =>
    intro i s y h
    rw [laws_heldActS_l1, laws_markActS_l1, markAct_below _ _ _ _ _ _ _ (Nat.lt_succ_self i), nth_set_self (by omega)]
    simp only [decide_true, Bool.not_true, Bool.false_eq_true, if_false]
    exact ih (i + 1) _ _ (by rw [List.length_set]; omega)
theorem laws_heldActS_marked {y : List Deed} (hy : y.length ≤ 60) : laws_heldActS (laws_markActS y 1).1 1 = (laws_markActS y 1).2 ∧ 0 ≤ (laws_markActS y 1).2 := by
  have hl := laws_markActS_le (p0 := y) (p1 := 1) (by decide) (by decide) (by omega)
  refine ⟨?_, hl.1⟩
  unfold laws_heldActS laws_markActS
  rw [markAct_length]
  exact heldAct_marked y 1 1 _ 0 1 y (by omega)
theorem eqCall_refl (c : Call) : laws_eqCall c c = true := by
  unfold laws_eqCall
  simp only [decide_true, Bool.not_true, cond_false]
theorem eqAct_refl (c : Deed) : laws_eqAct c c = true := by
  unfold laws_eqAct
  simp only [eqCall_refl, decide_true, Bool.not_true, cond_false]

end Go.Proofs.YtnjidaonbcbphaaGreatDoor.Fw

/- Contracts: each call returns what the model says. By program (wip/am/gen2.py). -/
namespace Go.Proofs.YtnjidaonbcbphaaGreatDoor.Fw
open Go.RowKit
set_option linter.unusedVariables false
set_option maxRecDepth 100000
set_option maxHeartbeats 2000000

theorem fok38 : FnOk Tryz.prog 38 := ⟨_, Tryz.func38, rfl, by kernel_rfl⟩
theorem fok39 : FnOk Tryz.prog 39 := ⟨_, Tryz.func39, rfl, by kernel_rfl⟩
theorem fok40 : FnOk Tryz.prog 40 := ⟨_, Tryz.func40, rfl, by kernel_rfl⟩
theorem fok41 : FnOk Tryz.prog 41 := ⟨_, Tryz.func41, rfl, by kernel_rfl⟩
theorem fok42 : FnOk Tryz.prog 42 := ⟨_, Tryz.func42, rfl, by kernel_rfl⟩
theorem fok114 : FnOk Tryz.prog 114 := ⟨_, Tryz.func114, rfl, by kernel_rfl⟩
/- F40 loop.example/g00974/laws.eqActS -/
def laws_eqActS_l1 (p0 : List Deed) (p1 : List Deed) : Nat → Nat → Bool
  | 0, i => true
  | n + 1, i => bif !(laws_eqAct (nth p0 i) (nth p1 i)) then false else (laws_eqActS_l1 p0 p1 n (i + 1))
def laws_eqActS (p0 : List Deed) (p1 : List Deed) : Bool := bif !decide ((p0.length : Int) = (p1.length : Int)) then false else (laws_eqActS_l1 p0 p1 (p0.length - 0) 0)
theorem c_laws_eqActS (p0 : List Deed) (p1 : List Deed) : CTs 40 [.o (.sl Deed instDatDeed p0), .o (.sl Deed instDatDeed p1)] [Re.c (.bool (laws_eqActS p0 p1))] := by
  refine en Tryz.func40 Tryz.ntmps40 fun w hG hgd => ?_
  obtain ⟨hg_p0, hg_p1, _⟩ := hgd
  have hl_p0 : p0.length ≤ 9223372036854775807 := hg_p0.1
  have hl_p1 : p1.length ≤ 9223372036854775807 := hg_p1.1
  have hM := laws_eqActS.eq_1 p0 p1
  refine ad 13 ?_
  refine cd (fun h1 => ?_) (fun h1 => ?_)
  ·
    have hM := hM.trans (bt h1)
    refine ad 4 ?_
    exact rz (rs := [.tmp 4]) (congrArg (fun x => [Re.c (.bool x)]) hM)
  ·
    have hM := hM.trans (bf h1)
    refine ad 7 ?_
    refine Run.loopM (ι := Nat) (fun s => laws_eqActS_l1 p0 p1 (p0.length - s) s) (fun s => ⟨27, 2, [(0, .sl 0 p0.length), (1, .sl 1 p1.length), (5, .v (.int .i64 (s : Int)))], [(0, .ros Deed instDatDeed p0), (1, .ros Deed instDatDeed p1)]⟩) (fun s => s ≤ p0.length) (fun s => p0.length - s) 0 [0, 1] [0, 1] hM (by first | exact ⟨by omega, by simp⟩ | omega | simp | (dsimp only; omega)) su (by decide) ?_
    rintro i hv hE
    try dsimp only at hE
    have hi := hv
    try dsimp only at hi
    refine ad 8 ?_
    refine cd (fun h2 => ?_) (fun h2 => ?_)
    ·
      have h2l : i < p0.length := by have := of_decide_eq_true h2; omega
      have hM := hE.trans ((congrArg (fun n => laws_eqActS_l1 p0 p1 n i) (show p0.length - i = (p0.length - (i + 1)) + 1 by omega)).trans (laws_eqActS_l1.eq_2 _ _ _ _))
      refine ad 4 ?_
      refine dr 10 fun _ _ _ _ _ hb => ?_
      refine tk [0, 1] ?_
      have hg3 := good_nth (k := i) hg_p0 om
      refine tx 2 (dx (xs := p0) i om) ?_
      refine tk [3, 4, 5] ?_
      have hg4 := good_nth (k := i) hg_p1 om
      refine tx 6 (dx (xs := p1) i om) ?_
      refine tk [7] ?_
      have hg5 : Dat.good (nth p0 i : Deed) := hg3
      have hg6 : Dat.good (nth p1 i : Deed) := hg4
      refine on 8 [2, 3] (cl (c_laws_eqAct (nth p0 i) (nth p1 i)) fok114) ?_
      refine tk [9] ?_
      refine dn hb ?_
      refine cd (fun h7 => ?_) (fun h7 => ?_)
      ·
        have hM := hM.trans (bt h7)
        refine ad 4 ?_
        exact rz (rs := [.tmp 4]) (congrArg (fun x => [Re.c (.bool x)]) hM)
      ·
        have hM := hM.trans (bf h7)
        refine ad 5 ?_
        rw [wrapN (i := i) (by first | omega | exact om)]
        refine ad 2 ?_
        exact Run.again (i + 1) [0, 1] [2, 3] ⟨by first | omega | exact trivial | (dsimp only; omega) | (refine ⟨by omega, ?_⟩; simp_all; try omega), hM⟩ rfl (by show _ - _ < _ - _; (try dsimp only); omega) su (by decide)
    ·
      have h2l : ¬ (i < p0.length) := by have := of_decide_eq_false h2; omega
      have hM := hE.trans ((congrArg (fun n => laws_eqActS_l1 p0 p1 n i) (show p0.length - i = 0 by omega)).trans (laws_eqActS_l1.eq_1 _ _ _))
      refine ad 5 ?_
      exact rz (rs := [.tmp 4]) (congrArg (fun x => [Re.c (.bool x)]) hM)

/- F7 loop.example/g00974/laws.FnExactScriptActs -/
def laws_FnExactScriptActs (p0 : ByteArray) : Bool := bif decide ((p0.size : Int) > 1048576) then true else (bif (!(laws_eqActS ((impl_ScriptActs p0).1) ((spec_ScriptActs p0).1))) || (!decide (((impl_ScriptActs p0).2) = ((spec_ScriptActs p0).2))) then false else (bif decide ((laws_heldActS ((laws_markActS ((impl_ScriptActs p0).1) 1).1) 1) < 0) then false else (bif !decide ((laws_heldActS ((laws_markActS ((impl_ScriptActs p0).1) 1).1) 1) = ((laws_markActS ((impl_ScriptActs p0).1) 1).2)) then false else (bif (!(laws_eqActS ((impl_ScriptActs p0).1) ((spec_ScriptActs p0).1))) || (!decide (((impl_ScriptActs p0).2) = ((spec_ScriptActs p0).2))) then false else (bif decide ((laws_heldActS ((laws_markActS ((impl_ScriptActs p0).1) 1).1) 1) < 0) then false else (bif !decide ((laws_heldActS ((laws_markActS ((impl_ScriptActs p0).1) 1).1) 1) = ((laws_markActS ((impl_ScriptActs p0).1) 1).2)) then false else true))))))
theorem c_laws_FnExactScriptActs (p0 : ByteArray) : CTs 7 [.o (.c (.string p0))] [Re.c (.bool (laws_FnExactScriptActs p0))] := by
  refine en Tryz.func7 Tryz.ntmps7 fun w hG hgd => ?_
  have hM := laws_FnExactScriptActs.eq_1 p0
  refine ad 11 ?_
  refine cd (fun h1 => ?_) (fun h1 => ?_)
  ·
    have hM := hM.trans (bt h1)
    refine ad 4 ?_
    exact rz (rs := [.tmp 2]) (congrArg (fun x => [Re.c (.bool x)]) hM)
  ·
    have hM := hM.trans (bf h1)
    refine ad 4 ?_
    refine og (clg (c_spec_ScriptActs p0) fok38) fun hgq => ?_
    obtain ⟨hg2, _⟩ := hgq
    refine ad 9 ?_
    refine og (clg (c_impl_ScriptActs p0) fok39) fun hgq => ?_
    obtain ⟨hg3, _⟩ := hgq
    refine ad 11 ?_
    refine op (cl (c_laws_eqActS ((impl_ScriptActs p0).1) ((spec_ScriptActs p0).1)) fok40) ?_
    refine ad 2 ?_
    refine ag 4 ?_
    refine ad 1 ?_
    refine cd (fun h4 => ?_) (fun h4 => ?_)
    ·
      have hM := hM.trans (bt h4)
      refine ad 4 ?_
      exact rz (rs := [.tmp 2]) (congrArg (fun x => [Re.c (.bool x)]) hM)
    ·
      have hM := hM.trans (bf h4)
      refine ad 9 ?_
      refine og (mu (u_laws_markActS ((impl_ScriptActs p0).1) 1 (gi 1)) fok41) fun hgq => ?_
      obtain ⟨hg5, hg6⟩ := hgq
      refine ad 10 ?_
      refine op (cl (k_laws_heldActS ((laws_markActS ((impl_ScriptActs p0).1) 1).1) 1 (gi 1)) fok42) ?_
      refine ad 8 ?_
      refine cd (fun h7 => ?_) (fun h7 => ?_)
      ·
        have hM := hM.trans (bt h7)
        refine ad 4 ?_
        exact rz (rs := [.tmp 2]) (congrArg (fun x => [Re.c (.bool x)]) hM)
      ·
        have hM := hM.trans (bf h7)
        refine ad 8 ?_
        refine cd (fun h8 => ?_) (fun h8 => ?_)
        ·
          have hM := hM.trans (bt h8)
          refine ad 4 ?_
          exact rz (rs := [.tmp 2]) (congrArg (fun x => [Re.c (.bool x)]) hM)
        ·
          have hM := hM.trans (bf h8)
          refine ad 4 ?_
          refine og (clg (c_impl_ScriptActs p0) fok39) fun hgq => ?_
          obtain ⟨hg9, _⟩ := hgq
          refine ad 11 ?_
          refine op (cl (c_laws_eqActS ((impl_ScriptActs p0).1) ((spec_ScriptActs p0).1)) fok40) ?_
          refine ad 2 ?_
          refine ag 4 ?_
          refine ad 1 ?_
          refine cd (fun h10 => ?_) (fun h10 => ?_)
          ·
            have hM := hM.trans (bt h10)
            refine ad 4 ?_
            exact rz (rs := [.tmp 2]) (congrArg (fun x => [Re.c (.bool x)]) hM)
          ·
            have hM := hM.trans (bf h10)
            refine ad 9 ?_
            refine op (cl (k_laws_heldActS ((laws_markActS ((impl_ScriptActs p0).1) 1).1) 1 (gi 1)) fok42) ?_
            refine ad 8 ?_
            refine cd (fun h11 => ?_) (fun h11 => ?_)
            ·
              have hM := hM.trans (bt h11)
              refine ad 4 ?_
              exact rz (rs := [.tmp 2]) (congrArg (fun x => [Re.c (.bool x)]) hM)
            ·
              have hM := hM.trans (bf h11)
              refine ad 8 ?_
              refine cd (fun h12 => ?_) (fun h12 => ?_)
              ·
                have hM := hM.trans (bt h12)
                refine ad 4 ?_
                exact rz (rs := [.tmp 2]) (congrArg (fun x => [Re.c (.bool x)]) hM)
              ·
                have hM := hM.trans (bf h12)
                refine ad 5 ?_
                exact rz (rs := [.tmp 2]) (congrArg (fun x => [Re.c (.bool x)]) hM)

end Go.Proofs.YtnjidaonbcbphaaGreatDoor.Fw
/-
  A package variable that is laid as an error holds one. No condition.
-/
namespace Go.Proofs.YtnjidaonbcbphaaGreatDoor.Fw
open Go.RowKit
set_option linter.unusedVariables false
theorem GE_iface {P : Program} {W : World} {H : Type} {enc : TypeId × Value → H} {sp : Nat → Bool} {b : Bool} {fuel t g : Nat} {x : List MemPlace} {cs : Array Value} {nm nm2 : String} {d : DataW H} {ms : Array (String × TypeId)}
    (hg : P.globalNamed nm = some g) (hu : P.underlying t = some (.interface ms)) (hv : W.var? P nm = some cs) (hd : DataW.trod enc P W 0 sp b fuel t cs.toList = some (.iface nm2 d, x)) : GE g W := by
  have key : ∃ u v, cs.toList = [.iface u v] := by
    cases fuel with
    | zero => simp [DataW.trod] at hd
    | succ n =>
      generalize cs.toList = l at hd ⊢
      rcases l with _ | ⟨c, _ | ⟨c2, r⟩⟩
      · simp [DataW.trod, hu] at hd
      · cases c <;> first | exact ⟨_, _, rfl⟩ | simp [DataW.trod, hu] at hd
      · simp [DataW.trod, hu] at hd
  obtain ⟨u, v, e⟩ := key
  obtain ⟨T, fr, h⟩ := var_gv hg hv e
  refine ⟨u, v, ?_⟩
  simp [World.cell?, h]
end Go.Proofs.YtnjidaonbcbphaaGreatDoor.Fw
