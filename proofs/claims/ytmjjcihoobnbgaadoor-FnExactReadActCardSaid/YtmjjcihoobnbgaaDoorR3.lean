/- Contracts: each call returns what the model says. By program (wip/am/gen2.py). -/
import Derived.Test.YtmjjcihoobnbgaaDoorPJ
import Derived.Test.YtmjjcihoobnbgaaDoorSy2
namespace Go.Proofs.YtmjjcihoobnbgaaDoor.Fw
open Go.RowKit
set_option linter.unusedVariables false
set_option maxRecDepth 100000
set_option maxHeartbeats 2000000

theorem fok19 : FnOk Tryd.prog 19 := ⟨_, Tryd.func19, rfl, by kernel_rfl⟩
theorem fok21 : FnOk Tryd.prog 21 := ⟨_, Tryd.func21, rfl, by kernel_rfl⟩
theorem fok40 : FnOk Tryd.prog 40 := ⟨_, Tryd.func40, rfl, by kernel_rfl⟩
theorem fok41 : FnOk Tryd.prog 41 := ⟨_, Tryd.func41, rfl, by kernel_rfl⟩
theorem fok42 : FnOk Tryd.prog 42 := ⟨_, Tryd.func42, rfl, by kernel_rfl⟩
theorem fok80 : FnOk Tryd.prog 80 := ⟨_, Tryd.func80, rfl, by kernel_rfl⟩
/- F41 loop.example/g00974/impl.ReadAct -/
def impl_ReadAct_l1 (p0 : ByteArray) : Nat → Int → Int → Int → ByteArray → ByteArray → Int → Int → ByteArray → Nat → (List ByteArray) → Deed × Bool
  | 0, c2_1, c2_2, c2_3, c2_4, c2_5, c2_6, c2_7, c2_8, i, v7 => bif !(slices_Equal_string ((impl_PartsOf (impl_ActLine (Deed.mk (IntKind.i64.wrap (1 + (slices_Index_string gl0 (nth ((impl_PartsOf p0).1) 0)))) c2_1 c2_2 (Call.mk c2_3 c2_4 c2_5 c2_6 c2_7 c2_8)))).1) ((impl_PartsOf p0).1)) then ((Deed.mk 0 0 0 (Call.mk 0 ⟨#[]⟩ ⟨#[]⟩ 0 0 ⟨#[]⟩)), false) else ((Deed.mk (IntKind.i64.wrap (1 + (slices_Index_string gl0 (nth ((impl_PartsOf p0).1) 0)))) c2_1 c2_2 (Call.mk c2_3 c2_4 c2_5 c2_6 c2_7 c2_8)), true)
  | n + 1, c2_1, c2_2, c2_3, c2_4, c2_5, c2_6, c2_7, c2_8, i, v7 => bif decide ((v7.length : Int) = 0) then ((Deed.mk 0 0 0 (Call.mk 0 ⟨#[]⟩ ⟨#[]⟩ 0 0 ⟨#[]⟩)), false) else (impl_ReadAct_l1 p0 n (bif (decide (((byteAt (impl_actFields (IntKind.i64.wrap (1 + (slices_Index_string gl0 (nth ((impl_PartsOf p0).1) 0))))) i).toNat : Int) = 78)) then ((impl_ReadDecimal (nth v7 0)).1) else c2_1) (bif (decide (((byteAt (impl_actFields (IntKind.i64.wrap (1 + (slices_Index_string gl0 (nth ((impl_PartsOf p0).1) 0))))) i).toNat : Int) = 78)) then c2_2 else (bif (decide (((byteAt (impl_actFields (IntKind.i64.wrap (1 + (slices_Index_string gl0 (nth ((impl_PartsOf p0).1) 0))))) i).toNat : Int) = 77)) then ((impl_ReadDecimal (nth v7 0)).1) else c2_2)) (bif (decide (((byteAt (impl_actFields (IntKind.i64.wrap (1 + (slices_Index_string gl0 (nth ((impl_PartsOf p0).1) 0))))) i).toNat : Int) = 78)) then c2_3 else (bif (decide (((byteAt (impl_actFields (IntKind.i64.wrap (1 + (slices_Index_string gl0 (nth ((impl_PartsOf p0).1) 0))))) i).toNat : Int) = 77)) then c2_3 else (bif (decide (((byteAt (impl_actFields (IntKind.i64.wrap (1 + (slices_Index_string gl0 (nth ((impl_PartsOf p0).1) 0))))) i).toNat : Int) = 67)) then ((impl_ReadCall v7).1.Kind) else c2_3))) (bif (decide (((byteAt (impl_actFields (IntKind.i64.wrap (1 + (slices_Index_string gl0 (nth ((impl_PartsOf p0).1) 0))))) i).toNat : Int) = 78)) then c2_4 else (bif (decide (((byteAt (impl_actFields (IntKind.i64.wrap (1 + (slices_Index_string gl0 (nth ((impl_PartsOf p0).1) 0))))) i).toNat : Int) = 77)) then c2_4 else (bif (decide (((byteAt (impl_actFields (IntKind.i64.wrap (1 + (slices_Index_string gl0 (nth ((impl_PartsOf p0).1) 0))))) i).toNat : Int) = 67)) then ((impl_ReadCall v7).1.Name) else c2_4))) (bif (decide (((byteAt (impl_actFields (IntKind.i64.wrap (1 + (slices_Index_string gl0 (nth ((impl_PartsOf p0).1) 0))))) i).toNat : Int) = 78)) then c2_5 else (bif (decide (((byteAt (impl_actFields (IntKind.i64.wrap (1 + (slices_Index_string gl0 (nth ((impl_PartsOf p0).1) 0))))) i).toNat : Int) = 77)) then c2_5 else (bif (decide (((byteAt (impl_actFields (IntKind.i64.wrap (1 + (slices_Index_string gl0 (nth ((impl_PartsOf p0).1) 0))))) i).toNat : Int) = 67)) then ((impl_ReadCall v7).1.To) else c2_5))) (bif (decide (((byteAt (impl_actFields (IntKind.i64.wrap (1 + (slices_Index_string gl0 (nth ((impl_PartsOf p0).1) 0))))) i).toNat : Int) = 78)) then c2_6 else (bif (decide (((byteAt (impl_actFields (IntKind.i64.wrap (1 + (slices_Index_string gl0 (nth ((impl_PartsOf p0).1) 0))))) i).toNat : Int) = 77)) then c2_6 else (bif (decide (((byteAt (impl_actFields (IntKind.i64.wrap (1 + (slices_Index_string gl0 (nth ((impl_PartsOf p0).1) 0))))) i).toNat : Int) = 67)) then ((impl_ReadCall v7).1.A) else c2_6))) (bif (decide (((byteAt (impl_actFields (IntKind.i64.wrap (1 + (slices_Index_string gl0 (nth ((impl_PartsOf p0).1) 0))))) i).toNat : Int) = 78)) then c2_7 else (bif (decide (((byteAt (impl_actFields (IntKind.i64.wrap (1 + (slices_Index_string gl0 (nth ((impl_PartsOf p0).1) 0))))) i).toNat : Int) = 77)) then c2_7 else (bif (decide (((byteAt (impl_actFields (IntKind.i64.wrap (1 + (slices_Index_string gl0 (nth ((impl_PartsOf p0).1) 0))))) i).toNat : Int) = 67)) then ((impl_ReadCall v7).1.B) else c2_7))) (bif (decide (((byteAt (impl_actFields (IntKind.i64.wrap (1 + (slices_Index_string gl0 (nth ((impl_PartsOf p0).1) 0))))) i).toNat : Int) = 78)) then c2_8 else (bif (decide (((byteAt (impl_actFields (IntKind.i64.wrap (1 + (slices_Index_string gl0 (nth ((impl_PartsOf p0).1) 0))))) i).toNat : Int) = 77)) then c2_8 else (bif (decide (((byteAt (impl_actFields (IntKind.i64.wrap (1 + (slices_Index_string gl0 (nth ((impl_PartsOf p0).1) 0))))) i).toNat : Int) = 67)) then ((impl_ReadCall v7).1.Text) else c2_8))) (i + 1) (bif (decide (((byteAt (impl_actFields (IntKind.i64.wrap (1 + (slices_Index_string gl0 (nth ((impl_PartsOf p0).1) 0))))) i).toNat : Int) = 78)) then (cutL v7 1 v7.length) else (bif (decide (((byteAt (impl_actFields (IntKind.i64.wrap (1 + (slices_Index_string gl0 (nth ((impl_PartsOf p0).1) 0))))) i).toNat : Int) = 77)) then (cutL v7 1 v7.length) else v7)))
def impl_ReadAct (p0 : ByteArray) : Deed × Bool := bif (!((impl_PartsOf p0).2)) || (decide ((((impl_PartsOf p0).1).length : Int) = 0)) then ((Deed.mk 0 0 0 (Call.mk 0 ⟨#[]⟩ ⟨#[]⟩ 0 0 ⟨#[]⟩)), false) else (impl_ReadAct_l1 p0 (((impl_actFields (IntKind.i64.wrap (1 + (slices_Index_string gl0 (nth ((impl_PartsOf p0).1) 0))))).size) - 0) 0 0 0 ⟨#[]⟩ ⟨#[]⟩ 0 0 ⟨#[]⟩ 0 (cutL ((impl_PartsOf p0).1) 1 (((impl_PartsOf p0).1).length)))
theorem c_impl_ReadAct (p0 : ByteArray) (hz_p0 : p0.size ≤ 9223372036854775807) : CTs 41 [.o (.c (.string p0))] [Re.st Deed _ inferInstance ((impl_ReadAct p0).1), Re.c (.bool ((impl_ReadAct p0).2))] := by
  refine en Tryd.func41 Tryd.ntmps41 fun w hG hgd => ?_
  have hM := impl_ReadAct.eq_1 p0
  refine ad 8 ?_
  refine og (clg (c_impl_PartsOf p0 hz_p0) fok33) fun hgq => ?_
  obtain ⟨hg1, _⟩ := hgq
  refine ad 12 ?_
  refine ag 4 ?_
  refine ad 1 ?_
  refine cd (fun h2 => ?_) (fun h2 => ?_)
  ·
    have hM := hM.trans (bt h2)
    refine ad 6 ?_
    have hg3 : Dat.good (Deed.mk 0 0 0 (Call.mk 0 ⟨#[]⟩ ⟨#[]⟩ 0 0 ⟨#[]⟩) : Deed) := ⟨(gi 0), (gi 0), (gi 0), (good_Call (gi 0) (gs ⟨#[]⟩) (gs ⟨#[]⟩) (gi 0) (gi 0) (gs ⟨#[]⟩))⟩
    exact rz (rs := [.cell 2 38, .tmp 3]) (congrArg (fun x => [Re.st Deed _ inferInstance x.1, Re.c (.bool x.2)]) hM)
  ·
    have hM := hM.trans (bf h2)
    refine ad 2 ?_
    refine fz 1 ?_
    refine Run.mid ⟨90, 3, [(2, .pt 0 0), (4, .sl 1 (((impl_PartsOf p0).1).length)), (6, .pt 2 0)], [(0, .var [.v (.int .i64 0), .v (.int .i64 0), .v (.int .i64 0), .v (.int .i64 0), .v (.string ⟨#[]⟩), .v (.string ⟨#[]⟩), .v (.int .i64 0), .v (.int .i64 0), .v (.string ⟨#[]⟩)] 38), (1, .ros ByteArray instDatByteArray ((impl_PartsOf p0).1)), (2, .var [.v (.int .i64 (IntKind.i64.wrap (1 + (slices_Index_string gl0 (nth ((impl_PartsOf p0).1) 0))))), .v (.int .i64 0), .v (.int .i64 0), .v (.int .i64 0), .v (.string ⟨#[]⟩), .v (.string ⟨#[]⟩), .v (.int .i64 0), .v (.int .i64 0), .v (.string ⟨#[]⟩)] 38)]⟩ ?_ ?_
    ·
      refine dr 9 fun _ _ _ _ _ hb => ?_
      refine tk [1] ?_
      have hg4 := good_nth (k := 0) hg1 om
      refine tx 2 (dx (xs := (impl_PartsOf p0).1) 0 om) ?_
      refine tk [3] ?_
      refine o2 0 7 ?_ ?_
      ·
        refine on1 0 [2, 3] (gsl (e := 9) gl0 Gl0) ?_
        refine o2 4 7 ?_ ?_
        ·
          refine on1 4 [2, 3] (cl (c_slices_Index_string gl0 (nth ((impl_PartsOf p0).1) 0)) fok73) ?_
          refine tk [5, 6] ?_
          refine on 7 [3, 4] (OpS.st rfl) ?_
          refine on 8 [3, 4] (OpS.st rfl) ?_
          refine dn hb ?_
          exact Run.at [0, 1, 4] [4, 3, 0] su (by decide)
        ·
          refine on1 7 [3, 4] (OpS.st rfl) ?_
          refine on 4 [3, 4] (cl (c_slices_Index_string gl0 (nth ((impl_PartsOf p0).1) 0)) fok73) ?_
          refine tk [5, 6] ?_
          refine on 8 [3, 4] (OpS.st rfl) ?_
          refine dn hb ?_
          exact Run.at [0, 1, 4] [4, 3, 0] su (by decide)
      ·
        refine on1 7 [2, 3] (OpS.st rfl) ?_
        refine on 0 [3, 4] (gsl (e := 9) gl0 Gl0) ?_
        refine on 4 [3, 4] (cl (c_slices_Index_string gl0 (nth ((impl_PartsOf p0).1) 0)) fok73) ?_
        refine tk [5, 6] ?_
        refine on 8 [3, 4] (OpS.st rfl) ?_
        refine dn hb ?_
        exact Run.at [0, 1, 3] [4, 3, 1] su (by decide)
    refine ad 3 ?_
    refine op (pa 1 (((impl_PartsOf p0).1).length) (hh := rfl)) ?_
    refine ad 7 ?_
    refine op (cl (c_impl_actFields (IntKind.i64.wrap (1 + (slices_Index_string gl0 (nth ((impl_PartsOf p0).1) 0))))) fok60) ?_
    refine op (rg) ?_
    refine ad 2 ?_
    refine Run.loopM (ι := Int × Int × Int × ByteArray × ByteArray × Int × Int × ByteArray × Nat × (List ByteArray)) (fun s => impl_ReadAct_l1 p0 (((impl_actFields (IntKind.i64.wrap (1 + (slices_Index_string gl0 (nth ((impl_PartsOf p0).1) 0))))).size) - s.2.2.2.2.2.2.2.2.1) s.1 s.2.1 s.2.2.1 s.2.2.2.1 s.2.2.2.2.1 s.2.2.2.2.2.1 s.2.2.2.2.2.2.1 s.2.2.2.2.2.2.2.1 s.2.2.2.2.2.2.2.2.1 s.2.2.2.2.2.2.2.2.2) (fun s => ⟨90, 5, [(2, .pt 0 0), (4, .sl 1 (((impl_PartsOf p0).1).length)), (6, .pt 2 0), (7, .sl 4 s.2.2.2.2.2.2.2.2.2.length), (37, .pt 3 0)], [(0, .var [.v (.int .i64 0), .v (.int .i64 0), .v (.int .i64 0), .v (.int .i64 0), .v (.string ⟨#[]⟩), .v (.string ⟨#[]⟩), .v (.int .i64 0), .v (.int .i64 0), .v (.string ⟨#[]⟩)] 38), (1, .ros ByteArray instDatByteArray ((impl_PartsOf p0).1)), (2, .var [.v (.int .i64 (IntKind.i64.wrap (1 + (slices_Index_string gl0 (nth ((impl_PartsOf p0).1) 0))))), .v (.int .i64 s.1), .v (.int .i64 s.2.1), .v (.int .i64 s.2.2.1), .v (.string s.2.2.2.1), .v (.string s.2.2.2.2.1), .v (.int .i64 s.2.2.2.2.2.1), .v (.int .i64 s.2.2.2.2.2.2.1), .v (.string s.2.2.2.2.2.2.2.1)] 38), (3, .itr (impl_actFields (IntKind.i64.wrap (1 + (slices_Index_string gl0 (nth ((impl_PartsOf p0).1) 0))))) s.2.2.2.2.2.2.2.2.1), (4, .ros ByteArray instDatByteArray s.2.2.2.2.2.2.2.2.2)]⟩) (fun s => s.2.2.2.2.2.2.2.2.1 ≤ (impl_actFields (IntKind.i64.wrap (1 + (slices_Index_string gl0 (nth ((impl_PartsOf p0).1) 0))))).size ∧ small s.2.2.2.2.2.2.2.2.2 ∧ I64 s.1 ∧ I64 s.2.1 ∧ I64 s.2.2.1 ∧ s.2.2.2.1.size ≤ maxLen ∧ s.2.2.2.2.1.size ≤ maxLen ∧ I64 s.2.2.2.2.2.1 ∧ I64 s.2.2.2.2.2.2.1 ∧ s.2.2.2.2.2.2.2.1.size ≤ maxLen) (fun s => ((impl_actFields (IntKind.i64.wrap (1 + (slices_Index_string gl0 (nth ((impl_PartsOf p0).1) 0))))).size) - s.2.2.2.2.2.2.2.2.1) (0, 0, 0, ⟨#[]⟩, ⟨#[]⟩, 0, 0, ⟨#[]⟩, 0, (cutL ((impl_PartsOf p0).1) 1 (((impl_PartsOf p0).1).length))) [0, 1, 2, 4, 3] [2, 3, 4, 0, 1] hM (by exact ⟨by (try dsimp only); first | omega | exact trivial, by exact small_drop (parts_smalls _) 1, (gi 0), (gi 0), (gi 0), (gs ⟨#[]⟩), (gs ⟨#[]⟩), (gi 0), (gi 0), (gs ⟨#[]⟩)⟩) su (by decide) ?_
    rintro ⟨c2_1, c2_2, c2_3, c2_4, c2_5, c2_6, c2_7, c2_8, i, v7⟩ hv hE
    try dsimp only at hE
    obtain ⟨hi, hv0, hg_c2_1, hg_c2_2, hg_c2_3, hg_c2_4, hg_c2_5, hg_c2_6, hg_c2_7, hg_c2_8⟩ := hv
    try dsimp only at hi hv0 hg_c2_1 hg_c2_2 hg_c2_3 hg_c2_4 hg_c2_5 hg_c2_6 hg_c2_7 hg_c2_8
    refine ad 2 ?_
    refine nx (fun h5 => ?_) (fun h5 => ?_) (asc_impl_actFields (IntKind.i64.wrap (1 + (slices_Index_string gl0 (nth ((impl_PartsOf p0).1) 0)))))
    ·
      have hM := hE.trans ((congrArg (fun n => impl_ReadAct_l1 p0 n c2_1 c2_2 c2_3 c2_4 c2_5 c2_6 c2_7 c2_8 i v7) (show ((impl_actFields (IntKind.i64.wrap (1 + (slices_Index_string gl0 (nth ((impl_PartsOf p0).1) 0))))).size) - i = (((impl_actFields (IntKind.i64.wrap (1 + (slices_Index_string gl0 (nth ((impl_PartsOf p0).1) 0))))).size) - (i + 1)) + 1 by omega)).trans (impl_ReadAct_l1.eq_2 _ _ _ _ _ _ _ _ _ _ _ _))
      have hr0 := hv0.2 0
      have hq7 := hv0.2
      refine ad 18 ?_
      refine cd (fun h6 => ?_) (fun h6 => ?_)
      ·
        have hM := hM.trans (bt h6)
        refine ad 6 ?_
        have hg7 : Dat.good (Deed.mk 0 0 0 (Call.mk 0 ⟨#[]⟩ ⟨#[]⟩ 0 0 ⟨#[]⟩) : Deed) := ⟨(gi 0), (gi 0), (gi 0), (good_Call (gi 0) (gs ⟨#[]⟩) (gs ⟨#[]⟩) (gi 0) (gi 0) (gs ⟨#[]⟩))⟩
        exact rz (rs := [.cell 2 38, .tmp 3]) (congrArg (fun x => [Re.st Deed _ inferInstance x.1, Re.c (.bool x.2)]) hM)
      ·
        have hM := hM.trans (bf h6)
        refine ad 11 ?_
        refine Run.mid ⟨90, 5, [(2, .pt 0 0), (4, .sl 1 (((impl_PartsOf p0).1).length)), (6, .pt 2 0), (7, .sl 3 ((bif (decide (((byteAt (impl_actFields (IntKind.i64.wrap (1 + (slices_Index_string gl0 (nth ((impl_PartsOf p0).1) 0))))) i).toNat : Int) = 78)) then (cutL v7 1 v7.length) else (bif (decide (((byteAt (impl_actFields (IntKind.i64.wrap (1 + (slices_Index_string gl0 (nth ((impl_PartsOf p0).1) 0))))) i).toNat : Int) = 77)) then (cutL v7 1 v7.length) else v7)).length)), (37, .pt 4 0)], [(0, .var [.v (.int .i64 0), .v (.int .i64 0), .v (.int .i64 0), .v (.int .i64 0), .v (.string ⟨#[]⟩), .v (.string ⟨#[]⟩), .v (.int .i64 0), .v (.int .i64 0), .v (.string ⟨#[]⟩)] 38), (1, .ros ByteArray instDatByteArray ((impl_PartsOf p0).1)), (2, .var [.v (.int .i64 (IntKind.i64.wrap (1 + (slices_Index_string gl0 (nth ((impl_PartsOf p0).1) 0))))), .v (.int .i64 (bif (decide (((byteAt (impl_actFields (IntKind.i64.wrap (1 + (slices_Index_string gl0 (nth ((impl_PartsOf p0).1) 0))))) i).toNat : Int) = 78)) then ((impl_ReadDecimal (nth v7 0)).1) else c2_1)), .v (.int .i64 (bif (decide (((byteAt (impl_actFields (IntKind.i64.wrap (1 + (slices_Index_string gl0 (nth ((impl_PartsOf p0).1) 0))))) i).toNat : Int) = 78)) then c2_2 else (bif (decide (((byteAt (impl_actFields (IntKind.i64.wrap (1 + (slices_Index_string gl0 (nth ((impl_PartsOf p0).1) 0))))) i).toNat : Int) = 77)) then ((impl_ReadDecimal (nth v7 0)).1) else c2_2))), .v (.int .i64 (bif (decide (((byteAt (impl_actFields (IntKind.i64.wrap (1 + (slices_Index_string gl0 (nth ((impl_PartsOf p0).1) 0))))) i).toNat : Int) = 78)) then c2_3 else (bif (decide (((byteAt (impl_actFields (IntKind.i64.wrap (1 + (slices_Index_string gl0 (nth ((impl_PartsOf p0).1) 0))))) i).toNat : Int) = 77)) then c2_3 else (bif (decide (((byteAt (impl_actFields (IntKind.i64.wrap (1 + (slices_Index_string gl0 (nth ((impl_PartsOf p0).1) 0))))) i).toNat : Int) = 67)) then ((impl_ReadCall v7).1.Kind) else c2_3)))), .v (.string (bif (decide (((byteAt (impl_actFields (IntKind.i64.wrap (1 + (slices_Index_string gl0 (nth ((impl_PartsOf p0).1) 0))))) i).toNat : Int) = 78)) then c2_4 else (bif (decide (((byteAt (impl_actFields (IntKind.i64.wrap (1 + (slices_Index_string gl0 (nth ((impl_PartsOf p0).1) 0))))) i).toNat : Int) = 77)) then c2_4 else (bif (decide (((byteAt (impl_actFields (IntKind.i64.wrap (1 + (slices_Index_string gl0 (nth ((impl_PartsOf p0).1) 0))))) i).toNat : Int) = 67)) then ((impl_ReadCall v7).1.Name) else c2_4)))), .v (.string (bif (decide (((byteAt (impl_actFields (IntKind.i64.wrap (1 + (slices_Index_string gl0 (nth ((impl_PartsOf p0).1) 0))))) i).toNat : Int) = 78)) then c2_5 else (bif (decide (((byteAt (impl_actFields (IntKind.i64.wrap (1 + (slices_Index_string gl0 (nth ((impl_PartsOf p0).1) 0))))) i).toNat : Int) = 77)) then c2_5 else (bif (decide (((byteAt (impl_actFields (IntKind.i64.wrap (1 + (slices_Index_string gl0 (nth ((impl_PartsOf p0).1) 0))))) i).toNat : Int) = 67)) then ((impl_ReadCall v7).1.To) else c2_5)))), .v (.int .i64 (bif (decide (((byteAt (impl_actFields (IntKind.i64.wrap (1 + (slices_Index_string gl0 (nth ((impl_PartsOf p0).1) 0))))) i).toNat : Int) = 78)) then c2_6 else (bif (decide (((byteAt (impl_actFields (IntKind.i64.wrap (1 + (slices_Index_string gl0 (nth ((impl_PartsOf p0).1) 0))))) i).toNat : Int) = 77)) then c2_6 else (bif (decide (((byteAt (impl_actFields (IntKind.i64.wrap (1 + (slices_Index_string gl0 (nth ((impl_PartsOf p0).1) 0))))) i).toNat : Int) = 67)) then ((impl_ReadCall v7).1.A) else c2_6)))), .v (.int .i64 (bif (decide (((byteAt (impl_actFields (IntKind.i64.wrap (1 + (slices_Index_string gl0 (nth ((impl_PartsOf p0).1) 0))))) i).toNat : Int) = 78)) then c2_7 else (bif (decide (((byteAt (impl_actFields (IntKind.i64.wrap (1 + (slices_Index_string gl0 (nth ((impl_PartsOf p0).1) 0))))) i).toNat : Int) = 77)) then c2_7 else (bif (decide (((byteAt (impl_actFields (IntKind.i64.wrap (1 + (slices_Index_string gl0 (nth ((impl_PartsOf p0).1) 0))))) i).toNat : Int) = 67)) then ((impl_ReadCall v7).1.B) else c2_7)))), .v (.string (bif (decide (((byteAt (impl_actFields (IntKind.i64.wrap (1 + (slices_Index_string gl0 (nth ((impl_PartsOf p0).1) 0))))) i).toNat : Int) = 78)) then c2_8 else (bif (decide (((byteAt (impl_actFields (IntKind.i64.wrap (1 + (slices_Index_string gl0 (nth ((impl_PartsOf p0).1) 0))))) i).toNat : Int) = 77)) then c2_8 else (bif (decide (((byteAt (impl_actFields (IntKind.i64.wrap (1 + (slices_Index_string gl0 (nth ((impl_PartsOf p0).1) 0))))) i).toNat : Int) = 67)) then ((impl_ReadCall v7).1.Text) else c2_8))))] 38), (3, .ros ByteArray instDatByteArray (bif (decide (((byteAt (impl_actFields (IntKind.i64.wrap (1 + (slices_Index_string gl0 (nth ((impl_PartsOf p0).1) 0))))) i).toNat : Int) = 78)) then (cutL v7 1 v7.length) else (bif (decide (((byteAt (impl_actFields (IntKind.i64.wrap (1 + (slices_Index_string gl0 (nth ((impl_PartsOf p0).1) 0))))) i).toNat : Int) = 77)) then (cutL v7 1 v7.length) else v7))), (4, .itr (impl_actFields (IntKind.i64.wrap (1 + (slices_Index_string gl0 (nth ((impl_PartsOf p0).1) 0))))) (i + 1))]⟩ ?_ ?_
        · refine cd (fun h8 => ?_) (fun h8 => ?_)
          ·
            refine ad 3 ?_
            refine op (ix (xs := v7) 0 om) ?_
            refine ad 1 ?_
            refine op (cl (c_impl_ReadDecimal (nth v7 0) (by first | assumption | exact om)) fok81) ?_
            refine ad 8 ?_
            refine op (pa 1 v7.length (hh := rfl)) ?_
            refine ad 2 ?_
            exact Run.at [0, 1, 2, 6, 3] [2, 3, 4, 0, 5] (by first | exact su | (rw [h8]; exact su)) (by decide)
          ·
            refine ad 5 ?_
            refine Run.mid ⟨90, 5, [(2, .pt 0 0), (4, .sl 1 (((impl_PartsOf p0).1).length)), (6, .pt 2 0), (7, .sl 3 ((bif (decide (((byteAt (impl_actFields (IntKind.i64.wrap (1 + (slices_Index_string gl0 (nth ((impl_PartsOf p0).1) 0))))) i).toNat : Int) = 77)) then (cutL v7 1 v7.length) else v7).length)), (37, .pt 4 0)], [(0, .var [.v (.int .i64 0), .v (.int .i64 0), .v (.int .i64 0), .v (.int .i64 0), .v (.string ⟨#[]⟩), .v (.string ⟨#[]⟩), .v (.int .i64 0), .v (.int .i64 0), .v (.string ⟨#[]⟩)] 38), (1, .ros ByteArray instDatByteArray ((impl_PartsOf p0).1)), (2, .var [.v (.int .i64 (IntKind.i64.wrap (1 + (slices_Index_string gl0 (nth ((impl_PartsOf p0).1) 0))))), .v (.int .i64 c2_1), .v (.int .i64 (bif (decide (((byteAt (impl_actFields (IntKind.i64.wrap (1 + (slices_Index_string gl0 (nth ((impl_PartsOf p0).1) 0))))) i).toNat : Int) = 77)) then ((impl_ReadDecimal (nth v7 0)).1) else c2_2)), .v (.int .i64 (bif (decide (((byteAt (impl_actFields (IntKind.i64.wrap (1 + (slices_Index_string gl0 (nth ((impl_PartsOf p0).1) 0))))) i).toNat : Int) = 77)) then c2_3 else (bif (decide (((byteAt (impl_actFields (IntKind.i64.wrap (1 + (slices_Index_string gl0 (nth ((impl_PartsOf p0).1) 0))))) i).toNat : Int) = 67)) then ((impl_ReadCall v7).1.Kind) else c2_3))), .v (.string (bif (decide (((byteAt (impl_actFields (IntKind.i64.wrap (1 + (slices_Index_string gl0 (nth ((impl_PartsOf p0).1) 0))))) i).toNat : Int) = 77)) then c2_4 else (bif (decide (((byteAt (impl_actFields (IntKind.i64.wrap (1 + (slices_Index_string gl0 (nth ((impl_PartsOf p0).1) 0))))) i).toNat : Int) = 67)) then ((impl_ReadCall v7).1.Name) else c2_4))), .v (.string (bif (decide (((byteAt (impl_actFields (IntKind.i64.wrap (1 + (slices_Index_string gl0 (nth ((impl_PartsOf p0).1) 0))))) i).toNat : Int) = 77)) then c2_5 else (bif (decide (((byteAt (impl_actFields (IntKind.i64.wrap (1 + (slices_Index_string gl0 (nth ((impl_PartsOf p0).1) 0))))) i).toNat : Int) = 67)) then ((impl_ReadCall v7).1.To) else c2_5))), .v (.int .i64 (bif (decide (((byteAt (impl_actFields (IntKind.i64.wrap (1 + (slices_Index_string gl0 (nth ((impl_PartsOf p0).1) 0))))) i).toNat : Int) = 77)) then c2_6 else (bif (decide (((byteAt (impl_actFields (IntKind.i64.wrap (1 + (slices_Index_string gl0 (nth ((impl_PartsOf p0).1) 0))))) i).toNat : Int) = 67)) then ((impl_ReadCall v7).1.A) else c2_6))), .v (.int .i64 (bif (decide (((byteAt (impl_actFields (IntKind.i64.wrap (1 + (slices_Index_string gl0 (nth ((impl_PartsOf p0).1) 0))))) i).toNat : Int) = 77)) then c2_7 else (bif (decide (((byteAt (impl_actFields (IntKind.i64.wrap (1 + (slices_Index_string gl0 (nth ((impl_PartsOf p0).1) 0))))) i).toNat : Int) = 67)) then ((impl_ReadCall v7).1.B) else c2_7))), .v (.string (bif (decide (((byteAt (impl_actFields (IntKind.i64.wrap (1 + (slices_Index_string gl0 (nth ((impl_PartsOf p0).1) 0))))) i).toNat : Int) = 77)) then c2_8 else (bif (decide (((byteAt (impl_actFields (IntKind.i64.wrap (1 + (slices_Index_string gl0 (nth ((impl_PartsOf p0).1) 0))))) i).toNat : Int) = 67)) then ((impl_ReadCall v7).1.Text) else c2_8)))] 38), (3, .ros ByteArray instDatByteArray (bif (decide (((byteAt (impl_actFields (IntKind.i64.wrap (1 + (slices_Index_string gl0 (nth ((impl_PartsOf p0).1) 0))))) i).toNat : Int) = 77)) then (cutL v7 1 v7.length) else v7)), (4, .itr (impl_actFields (IntKind.i64.wrap (1 + (slices_Index_string gl0 (nth ((impl_PartsOf p0).1) 0))))) (i + 1))]⟩ ?_ ?_
            · refine cd (fun h10 => ?_) (fun h10 => ?_)
              ·
                refine ad 3 ?_
                refine op (ix (xs := v7) 0 om) ?_
                refine ad 1 ?_
                refine op (cl (c_impl_ReadDecimal (nth v7 0) (by first | assumption | exact om)) fok81) ?_
                refine ad 8 ?_
                refine op (pa 1 v7.length (hh := rfl)) ?_
                refine ad 2 ?_
                exact Run.at [0, 1, 2, 6, 3] [2, 3, 4, 0, 5] (by first | exact su | (rw [h10]; exact su)) (by decide)
              ·
                refine ad 5 ?_
                refine Run.mid ⟨90, 5, [(2, .pt 0 0), (4, .sl 1 (((impl_PartsOf p0).1).length)), (6, .pt 2 0), (7, .sl 3 v7.length), (37, .pt 4 0)], [(0, .var [.v (.int .i64 0), .v (.int .i64 0), .v (.int .i64 0), .v (.int .i64 0), .v (.string ⟨#[]⟩), .v (.string ⟨#[]⟩), .v (.int .i64 0), .v (.int .i64 0), .v (.string ⟨#[]⟩)] 38), (1, .ros ByteArray instDatByteArray ((impl_PartsOf p0).1)), (2, .var [.v (.int .i64 (IntKind.i64.wrap (1 + (slices_Index_string gl0 (nth ((impl_PartsOf p0).1) 0))))), .v (.int .i64 c2_1), .v (.int .i64 c2_2), .v (.int .i64 (bif (decide (((byteAt (impl_actFields (IntKind.i64.wrap (1 + (slices_Index_string gl0 (nth ((impl_PartsOf p0).1) 0))))) i).toNat : Int) = 67)) then ((impl_ReadCall v7).1.Kind) else c2_3)), .v (.string (bif (decide (((byteAt (impl_actFields (IntKind.i64.wrap (1 + (slices_Index_string gl0 (nth ((impl_PartsOf p0).1) 0))))) i).toNat : Int) = 67)) then ((impl_ReadCall v7).1.Name) else c2_4)), .v (.string (bif (decide (((byteAt (impl_actFields (IntKind.i64.wrap (1 + (slices_Index_string gl0 (nth ((impl_PartsOf p0).1) 0))))) i).toNat : Int) = 67)) then ((impl_ReadCall v7).1.To) else c2_5)), .v (.int .i64 (bif (decide (((byteAt (impl_actFields (IntKind.i64.wrap (1 + (slices_Index_string gl0 (nth ((impl_PartsOf p0).1) 0))))) i).toNat : Int) = 67)) then ((impl_ReadCall v7).1.A) else c2_6)), .v (.int .i64 (bif (decide (((byteAt (impl_actFields (IntKind.i64.wrap (1 + (slices_Index_string gl0 (nth ((impl_PartsOf p0).1) 0))))) i).toNat : Int) = 67)) then ((impl_ReadCall v7).1.B) else c2_7)), .v (.string (bif (decide (((byteAt (impl_actFields (IntKind.i64.wrap (1 + (slices_Index_string gl0 (nth ((impl_PartsOf p0).1) 0))))) i).toNat : Int) = 67)) then ((impl_ReadCall v7).1.Text) else c2_8))] 38), (3, .ros ByteArray instDatByteArray v7), (4, .itr (impl_actFields (IntKind.i64.wrap (1 + (slices_Index_string gl0 (nth ((impl_PartsOf p0).1) 0))))) (i + 1))]⟩ ?_ ?_
                · refine cd (fun h12 => ?_) (fun h12 => ?_)
                  ·
                    refine ad 2 ?_
                    refine og (clg (c_impl_ReadCall v7 (by first | exact parts_small _ | assumption)) fok34) fun hgq => ?_
                    obtain ⟨hg13, _⟩ := hgq
                    refine ad 6 ?_
                    exact Run.at [0, 1, 2, 4, 3] [0, 1, 2, 4, 3] (by first | exact su | (rw [h12]; exact su)) (by decide)
                  ·
                    refine ad 1 ?_
                    exact Run.at [0, 1, 2, 4, 3] [0, 1, 2, 4, 3] (by first | exact su | (rw [h12]; exact su)) (by decide)
                exact Run.at [0, 1, 2, 3, 4] [0, 1, 2, 3, 4] (by first | exact su | (rw [h10]; exact su)) (by decide)
            exact Run.at [0, 1, 2, 3, 4] [0, 1, 2, 3, 4] (by first | exact su | (rw [h8]; exact su)) (by decide)
        refine ad 2 ?_
        exact Run.again (bif (decide (((byteAt (impl_actFields (IntKind.i64.wrap (1 + (slices_Index_string gl0 (nth ((impl_PartsOf p0).1) 0))))) i).toNat : Int) = 78)) then ((impl_ReadDecimal (nth v7 0)).1) else c2_1, bif (decide (((byteAt (impl_actFields (IntKind.i64.wrap (1 + (slices_Index_string gl0 (nth ((impl_PartsOf p0).1) 0))))) i).toNat : Int) = 78)) then c2_2 else (bif (decide (((byteAt (impl_actFields (IntKind.i64.wrap (1 + (slices_Index_string gl0 (nth ((impl_PartsOf p0).1) 0))))) i).toNat : Int) = 77)) then ((impl_ReadDecimal (nth v7 0)).1) else c2_2), bif (decide (((byteAt (impl_actFields (IntKind.i64.wrap (1 + (slices_Index_string gl0 (nth ((impl_PartsOf p0).1) 0))))) i).toNat : Int) = 78)) then c2_3 else (bif (decide (((byteAt (impl_actFields (IntKind.i64.wrap (1 + (slices_Index_string gl0 (nth ((impl_PartsOf p0).1) 0))))) i).toNat : Int) = 77)) then c2_3 else (bif (decide (((byteAt (impl_actFields (IntKind.i64.wrap (1 + (slices_Index_string gl0 (nth ((impl_PartsOf p0).1) 0))))) i).toNat : Int) = 67)) then ((impl_ReadCall v7).1.Kind) else c2_3)), bif (decide (((byteAt (impl_actFields (IntKind.i64.wrap (1 + (slices_Index_string gl0 (nth ((impl_PartsOf p0).1) 0))))) i).toNat : Int) = 78)) then c2_4 else (bif (decide (((byteAt (impl_actFields (IntKind.i64.wrap (1 + (slices_Index_string gl0 (nth ((impl_PartsOf p0).1) 0))))) i).toNat : Int) = 77)) then c2_4 else (bif (decide (((byteAt (impl_actFields (IntKind.i64.wrap (1 + (slices_Index_string gl0 (nth ((impl_PartsOf p0).1) 0))))) i).toNat : Int) = 67)) then ((impl_ReadCall v7).1.Name) else c2_4)), bif (decide (((byteAt (impl_actFields (IntKind.i64.wrap (1 + (slices_Index_string gl0 (nth ((impl_PartsOf p0).1) 0))))) i).toNat : Int) = 78)) then c2_5 else (bif (decide (((byteAt (impl_actFields (IntKind.i64.wrap (1 + (slices_Index_string gl0 (nth ((impl_PartsOf p0).1) 0))))) i).toNat : Int) = 77)) then c2_5 else (bif (decide (((byteAt (impl_actFields (IntKind.i64.wrap (1 + (slices_Index_string gl0 (nth ((impl_PartsOf p0).1) 0))))) i).toNat : Int) = 67)) then ((impl_ReadCall v7).1.To) else c2_5)), bif (decide (((byteAt (impl_actFields (IntKind.i64.wrap (1 + (slices_Index_string gl0 (nth ((impl_PartsOf p0).1) 0))))) i).toNat : Int) = 78)) then c2_6 else (bif (decide (((byteAt (impl_actFields (IntKind.i64.wrap (1 + (slices_Index_string gl0 (nth ((impl_PartsOf p0).1) 0))))) i).toNat : Int) = 77)) then c2_6 else (bif (decide (((byteAt (impl_actFields (IntKind.i64.wrap (1 + (slices_Index_string gl0 (nth ((impl_PartsOf p0).1) 0))))) i).toNat : Int) = 67)) then ((impl_ReadCall v7).1.A) else c2_6)), bif (decide (((byteAt (impl_actFields (IntKind.i64.wrap (1 + (slices_Index_string gl0 (nth ((impl_PartsOf p0).1) 0))))) i).toNat : Int) = 78)) then c2_7 else (bif (decide (((byteAt (impl_actFields (IntKind.i64.wrap (1 + (slices_Index_string gl0 (nth ((impl_PartsOf p0).1) 0))))) i).toNat : Int) = 77)) then c2_7 else (bif (decide (((byteAt (impl_actFields (IntKind.i64.wrap (1 + (slices_Index_string gl0 (nth ((impl_PartsOf p0).1) 0))))) i).toNat : Int) = 67)) then ((impl_ReadCall v7).1.B) else c2_7)), bif (decide (((byteAt (impl_actFields (IntKind.i64.wrap (1 + (slices_Index_string gl0 (nth ((impl_PartsOf p0).1) 0))))) i).toNat : Int) = 78)) then c2_8 else (bif (decide (((byteAt (impl_actFields (IntKind.i64.wrap (1 + (slices_Index_string gl0 (nth ((impl_PartsOf p0).1) 0))))) i).toNat : Int) = 77)) then c2_8 else (bif (decide (((byteAt (impl_actFields (IntKind.i64.wrap (1 + (slices_Index_string gl0 (nth ((impl_PartsOf p0).1) 0))))) i).toNat : Int) = 67)) then ((impl_ReadCall v7).1.Text) else c2_8)), (i + 1), bif (decide (((byteAt (impl_actFields (IntKind.i64.wrap (1 + (slices_Index_string gl0 (nth ((impl_PartsOf p0).1) 0))))) i).toNat : Int) = 78)) then (cutL v7 1 v7.length) else (bif (decide (((byteAt (impl_actFields (IntKind.i64.wrap (1 + (slices_Index_string gl0 (nth ((impl_PartsOf p0).1) 0))))) i).toNat : Int) = 77)) then (cutL v7 1 v7.length) else v7)) [0, 1, 2, 4, 3] [0, 1, 2, 4, 3] ⟨by exact ⟨by (try dsimp only); first | omega | exact trivial, by exact small_bif (small_drop (by assumption) 1) (small_bif (small_drop (by assumption) 1) (by assumption)), (bifI (impl_ReadDecimal_I64 _) hg_c2_1), (bifI hg_c2_2 (bifI (impl_ReadDecimal_I64 _) hg_c2_2)), (bifI hg_c2_3 (bifI hg_c2_3 (bifI (impl_ReadCall_gs v7).1 hg_c2_3))), (bifS hg_c2_4 (bifS hg_c2_4 (bifS (impl_ReadCall_gs v7).2.1 hg_c2_4))), (bifS hg_c2_5 (bifS hg_c2_5 (bifS (impl_ReadCall_gs v7).2.2.1 hg_c2_5))), (bifI hg_c2_6 (bifI hg_c2_6 (bifI (impl_ReadCall_gs v7).2.2.2.1 hg_c2_6))), (bifI hg_c2_7 (bifI hg_c2_7 (bifI (impl_ReadCall_gs v7).2.2.2.2.1 hg_c2_7))), (bifS hg_c2_8 (bifS hg_c2_8 (bifS (impl_ReadCall_gs v7).2.2.2.2.2 hg_c2_8)))⟩, hM⟩ rfl (by show _ - _ < _ - _; (try dsimp only); omega) su (by decide)
    ·
      have hM := hE.trans ((congrArg (fun n => impl_ReadAct_l1 p0 n c2_1 c2_2 c2_3 c2_4 c2_5 c2_6 c2_7 c2_8 i v7) (show ((impl_actFields (IntKind.i64.wrap (1 + (slices_Index_string gl0 (nth ((impl_PartsOf p0).1) 0))))).size) - i = 0 by omega)).trans (impl_ReadAct_l1.eq_1 _ _ _ _ _ _ _ _ _ _ _))
      refine ad 8 ?_
      have hg14 : Dat.good (Deed.mk (IntKind.i64.wrap (1 + (slices_Index_string gl0 (nth ((impl_PartsOf p0).1) 0)))) c2_1 c2_2 (Call.mk c2_3 c2_4 c2_5 c2_6 c2_7 c2_8) : Deed) := ⟨(I64_wrap _), hg_c2_1, hg_c2_2, (good_Call hg_c2_3 hg_c2_4 hg_c2_5 hg_c2_6 hg_c2_7 hg_c2_8)⟩
      have hs15 := impl_ActLine_size (a := (Deed.mk (IntKind.i64.wrap (1 + (slices_Index_string gl0 (nth ((impl_PartsOf p0).1) 0)))) c2_1 c2_2 (Call.mk c2_3 c2_4 c2_5 c2_6 c2_7 c2_8))) (by assumption)
      refine op (cl (c_impl_ActLine (Deed.mk (IntKind.i64.wrap (1 + (slices_Index_string gl0 (nth ((impl_PartsOf p0).1) 0)))) c2_1 c2_2 (Call.mk c2_3 c2_4 c2_5 c2_6 c2_7 c2_8))) fok21) ?_
      refine og (clg (c_impl_PartsOf (impl_ActLine (Deed.mk (IntKind.i64.wrap (1 + (slices_Index_string gl0 (nth ((impl_PartsOf p0).1) 0)))) c2_1 c2_2 (Call.mk c2_3 c2_4 c2_5 c2_6 c2_7 c2_8))) szt) fok33) fun hgq => ?_
      obtain ⟨hg16, _⟩ := hgq
      refine ad 11 ?_
      refine op (cl (c_slices_Equal_string ((impl_PartsOf (impl_ActLine (Deed.mk (IntKind.i64.wrap (1 + (slices_Index_string gl0 (nth ((impl_PartsOf p0).1) 0)))) c2_1 c2_2 (Call.mk c2_3 c2_4 c2_5 c2_6 c2_7 c2_8)))).1) ((impl_PartsOf p0).1)) fok75) ?_
      refine ad 2 ?_
      refine cd (fun h17 => ?_) (fun h17 => ?_)
      ·
        have hM := hM.trans (bt h17)
        refine ad 6 ?_
        have hg18 : Dat.good (Deed.mk 0 0 0 (Call.mk 0 ⟨#[]⟩ ⟨#[]⟩ 0 0 ⟨#[]⟩) : Deed) := ⟨(gi 0), (gi 0), (gi 0), (good_Call (gi 0) (gs ⟨#[]⟩) (gs ⟨#[]⟩) (gi 0) (gi 0) (gs ⟨#[]⟩))⟩
        exact rz (rs := [.cell 2 38, .tmp 3]) (congrArg (fun x => [Re.st Deed _ inferInstance x.1, Re.c (.bool x.2)]) hM)
      ·
        have hM := hM.trans (bf h17)
        refine ad 7 ?_
        exact rz (rs := [.cell 2 38, .tmp 3]) (congrArg (fun x => [Re.st Deed _ inferInstance x.1, Re.c (.bool x.2)]) hM)

/- F40 loop.example/g00974/spec.ReadAct -/
def spec_ReadAct_l1 (p0 : ByteArray) : Nat → Int → Nat → Deed × Bool
  | 0, c2_0, i => bif (decide ((spec_ActLine (Deed.mk c2_0 (spec_l38Num ((spec_PartsOf p0).1) 1) (bif ((decide (c2_0 = 2)) || (decide (c2_0 = 7))) then 0 else (bif (decide (c2_0 = 4)) then (spec_l38Num ((spec_PartsOf p0).1) 2) else 0)) (Call.mk (bif ((decide (c2_0 = 2)) || (decide (c2_0 = 7))) then (bif (decide ((((spec_PartsOf p0).1).length : Int) > 2)) then ((spec_ReadCall (cutL ((spec_PartsOf p0).1) 2 (((spec_PartsOf p0).1).length))).1.Kind) else 0) else 0) (bif ((decide (c2_0 = 2)) || (decide (c2_0 = 7))) then (bif (decide ((((spec_PartsOf p0).1).length : Int) > 2)) then ((spec_ReadCall (cutL ((spec_PartsOf p0).1) 2 (((spec_PartsOf p0).1).length))).1.Name) else ⟨#[]⟩) else ⟨#[]⟩) (bif ((decide (c2_0 = 2)) || (decide (c2_0 = 7))) then (bif (decide ((((spec_PartsOf p0).1).length : Int) > 2)) then ((spec_ReadCall (cutL ((spec_PartsOf p0).1) 2 (((spec_PartsOf p0).1).length))).1.To) else ⟨#[]⟩) else ⟨#[]⟩) (bif ((decide (c2_0 = 2)) || (decide (c2_0 = 7))) then (bif (decide ((((spec_PartsOf p0).1).length : Int) > 2)) then ((spec_ReadCall (cutL ((spec_PartsOf p0).1) 2 (((spec_PartsOf p0).1).length))).1.A) else 0) else 0) (bif ((decide (c2_0 = 2)) || (decide (c2_0 = 7))) then (bif (decide ((((spec_PartsOf p0).1).length : Int) > 2)) then ((spec_ReadCall (cutL ((spec_PartsOf p0).1) 2 (((spec_PartsOf p0).1).length))).1.B) else 0) else 0) (bif ((decide (c2_0 = 2)) || (decide (c2_0 = 7))) then (bif (decide ((((spec_PartsOf p0).1).length : Int) > 2)) then ((spec_ReadCall (cutL ((spec_PartsOf p0).1) 2 (((spec_PartsOf p0).1).length))).1.Text) else ⟨#[]⟩) else ⟨#[]⟩)))) = ⟨#[]⟩)) || (!decide ((spec_ActLine (Deed.mk c2_0 (spec_l38Num ((spec_PartsOf p0).1) 1) (bif ((decide (c2_0 = 2)) || (decide (c2_0 = 7))) then 0 else (bif (decide (c2_0 = 4)) then (spec_l38Num ((spec_PartsOf p0).1) 2) else 0)) (Call.mk (bif ((decide (c2_0 = 2)) || (decide (c2_0 = 7))) then (bif (decide ((((spec_PartsOf p0).1).length : Int) > 2)) then ((spec_ReadCall (cutL ((spec_PartsOf p0).1) 2 (((spec_PartsOf p0).1).length))).1.Kind) else 0) else 0) (bif ((decide (c2_0 = 2)) || (decide (c2_0 = 7))) then (bif (decide ((((spec_PartsOf p0).1).length : Int) > 2)) then ((spec_ReadCall (cutL ((spec_PartsOf p0).1) 2 (((spec_PartsOf p0).1).length))).1.Name) else ⟨#[]⟩) else ⟨#[]⟩) (bif ((decide (c2_0 = 2)) || (decide (c2_0 = 7))) then (bif (decide ((((spec_PartsOf p0).1).length : Int) > 2)) then ((spec_ReadCall (cutL ((spec_PartsOf p0).1) 2 (((spec_PartsOf p0).1).length))).1.To) else ⟨#[]⟩) else ⟨#[]⟩) (bif ((decide (c2_0 = 2)) || (decide (c2_0 = 7))) then (bif (decide ((((spec_PartsOf p0).1).length : Int) > 2)) then ((spec_ReadCall (cutL ((spec_PartsOf p0).1) 2 (((spec_PartsOf p0).1).length))).1.A) else 0) else 0) (bif ((decide (c2_0 = 2)) || (decide (c2_0 = 7))) then (bif (decide ((((spec_PartsOf p0).1).length : Int) > 2)) then ((spec_ReadCall (cutL ((spec_PartsOf p0).1) 2 (((spec_PartsOf p0).1).length))).1.B) else 0) else 0) (bif ((decide (c2_0 = 2)) || (decide (c2_0 = 7))) then (bif (decide ((((spec_PartsOf p0).1).length : Int) > 2)) then ((spec_ReadCall (cutL ((spec_PartsOf p0).1) 2 (((spec_PartsOf p0).1).length))).1.Text) else ⟨#[]⟩) else ⟨#[]⟩)))) = (spec_l38Join ((spec_PartsOf p0).1)))) then ((Deed.mk 0 0 0 (Call.mk 0 ⟨#[]⟩ ⟨#[]⟩ 0 0 ⟨#[]⟩)), false) else ((Deed.mk c2_0 (spec_l38Num ((spec_PartsOf p0).1) 1) (bif ((decide (c2_0 = 2)) || (decide (c2_0 = 7))) then 0 else (bif (decide (c2_0 = 4)) then (spec_l38Num ((spec_PartsOf p0).1) 2) else 0)) (Call.mk (bif ((decide (c2_0 = 2)) || (decide (c2_0 = 7))) then (bif (decide ((((spec_PartsOf p0).1).length : Int) > 2)) then ((spec_ReadCall (cutL ((spec_PartsOf p0).1) 2 (((spec_PartsOf p0).1).length))).1.Kind) else 0) else 0) (bif ((decide (c2_0 = 2)) || (decide (c2_0 = 7))) then (bif (decide ((((spec_PartsOf p0).1).length : Int) > 2)) then ((spec_ReadCall (cutL ((spec_PartsOf p0).1) 2 (((spec_PartsOf p0).1).length))).1.Name) else ⟨#[]⟩) else ⟨#[]⟩) (bif ((decide (c2_0 = 2)) || (decide (c2_0 = 7))) then (bif (decide ((((spec_PartsOf p0).1).length : Int) > 2)) then ((spec_ReadCall (cutL ((spec_PartsOf p0).1) 2 (((spec_PartsOf p0).1).length))).1.To) else ⟨#[]⟩) else ⟨#[]⟩) (bif ((decide (c2_0 = 2)) || (decide (c2_0 = 7))) then (bif (decide ((((spec_PartsOf p0).1).length : Int) > 2)) then ((spec_ReadCall (cutL ((spec_PartsOf p0).1) 2 (((spec_PartsOf p0).1).length))).1.A) else 0) else 0) (bif ((decide (c2_0 = 2)) || (decide (c2_0 = 7))) then (bif (decide ((((spec_PartsOf p0).1).length : Int) > 2)) then ((spec_ReadCall (cutL ((spec_PartsOf p0).1) 2 (((spec_PartsOf p0).1).length))).1.B) else 0) else 0) (bif ((decide (c2_0 = 2)) || (decide (c2_0 = 7))) then (bif (decide ((((spec_PartsOf p0).1).length : Int) > 2)) then ((spec_ReadCall (cutL ((spec_PartsOf p0).1) 2 (((spec_PartsOf p0).1).length))).1.Text) else ⟨#[]⟩) else ⟨#[]⟩))), true)
  | n + 1, c2_0, i => spec_ReadAct_l1 p0 n (bif (decide ((spec_ActName (i : Int)) = (nth ((spec_PartsOf p0).1) 0))) then (i : Int) else c2_0) (i + 1)
def spec_ReadAct (p0 : ByteArray) : Deed × Bool := bif (!((spec_PartsOf p0).2)) || (decide ((((spec_PartsOf p0).1).length : Int) = 0)) then ((Deed.mk 0 0 0 (Call.mk 0 ⟨#[]⟩ ⟨#[]⟩ 0 0 ⟨#[]⟩)), false) else (spec_ReadAct_l1 p0 (13 - 1) 0 1)
theorem c_spec_ReadAct (p0 : ByteArray) : CTs 40 [.o (.c (.string p0))] [Re.st Deed _ inferInstance ((spec_ReadAct p0).1), Re.c (.bool ((spec_ReadAct p0).2))] := by
  refine en Tryd.func40 Tryd.ntmps40 fun w hG hgd => ?_
  have hM := spec_ReadAct.eq_1 p0
  refine ad 8 ?_
  refine og (clg (c_spec_PartsOf p0) fok78) fun hgq => ?_
  obtain ⟨hg1, _⟩ := hgq
  refine ad 12 ?_
  refine ag 4 ?_
  refine ad 1 ?_
  refine cd (fun h2 => ?_) (fun h2 => ?_)
  ·
    have hM := hM.trans (bt h2)
    refine ad 6 ?_
    have hg3 : Dat.good (Deed.mk 0 0 0 (Call.mk 0 ⟨#[]⟩ ⟨#[]⟩ 0 0 ⟨#[]⟩) : Deed) := ⟨(gi 0), (gi 0), (gi 0), (good_Call (gi 0) (gs ⟨#[]⟩) (gs ⟨#[]⟩) (gi 0) (gi 0) (gs ⟨#[]⟩))⟩
    exact rz (rs := [.cell 2 38, .tmp 3]) (congrArg (fun x => [Re.st Deed _ inferInstance x.1, Re.c (.bool x.2)]) hM)
  ·
    have hM := hM.trans (bf h2)
    refine ad 4 ?_
    refine op (cl (c_spec_l38Num ((spec_PartsOf p0).1) 1 (by omega)) fok76) ?_
    refine ad 10 ?_
    refine fz 1 ?_
    refine Run.loopM (ι := Int × Nat) (fun s => spec_ReadAct_l1 p0 (13 - s.2) s.1 s.2) (fun s => ⟨69, 3, [(2, .pt 0 0), (4, .sl 1 (((spec_PartsOf p0).1).length)), (6, .pt 2 0), (7, .v (.int .i64 (s.2 : Int)))], [(0, .var [.v (.int .i64 0), .v (.int .i64 0), .v (.int .i64 0), .v (.int .i64 0), .v (.string ⟨#[]⟩), .v (.string ⟨#[]⟩), .v (.int .i64 0), .v (.int .i64 0), .v (.string ⟨#[]⟩)] 38), (1, .ros ByteArray instDatByteArray ((spec_PartsOf p0).1)), (2, .var [.v (.int .i64 s.1), .v (.int .i64 (spec_l38Num ((spec_PartsOf p0).1) 1)), .v (.int .i64 0), .v (.int .i64 0), .v (.string ⟨#[]⟩), .v (.string ⟨#[]⟩), .v (.int .i64 0), .v (.int .i64 0), .v (.string ⟨#[]⟩)] 38)]⟩) (fun s => s.2 ≤ 13 ∧ I64 s.1) (fun s => 13 - s.2) (0, 1) [0, 1, 2] [2, 1, 0] hM (by exact ⟨by (try dsimp only); first | omega | exact trivial, (gi 0)⟩) su (by decide) ?_
    rintro ⟨c2_0, i⟩ hv hE
    try dsimp only at hE
    obtain ⟨hi, hg_c2_0⟩ := hv
    try dsimp only at hi hg_c2_0
    refine ad 6 ?_
    refine cd (fun h4 => ?_) (fun h4 => ?_)
    ·
      have h4l : i < 13 := by have := of_decide_eq_true h4; omega
      have hM := hE.trans ((congrArg (fun n => spec_ReadAct_l1 p0 n c2_0 i) (show 13 - i = (13 - (i + 1)) + 1 by omega)).trans (spec_ReadAct_l1.eq_2 _ _ _ _))
      refine ad 4 ?_
      refine dr 6 fun _ _ _ _ _ hb => ?_
      refine tk [0, 2] ?_
      have hg5 := good_nth (k := 0) hg1 om
      refine tx 3 (dx (xs := (spec_PartsOf p0).1) 0 om) ?_
      refine tk [4] ?_
      refine on 1 [1, 2, 3] (cl (c_spec_ActName (i : Int)) fok13) ?_
      refine tk [5] ?_
      refine dn hb ?_
      refine Run.mid ⟨69, 3, [(2, .pt 0 0), (4, .sl 1 (((spec_PartsOf p0).1).length)), (6, .pt 2 0), (7, .v (.int .i64 (i : Int)))], [(0, .var [.v (.int .i64 0), .v (.int .i64 0), .v (.int .i64 0), .v (.int .i64 0), .v (.string ⟨#[]⟩), .v (.string ⟨#[]⟩), .v (.int .i64 0), .v (.int .i64 0), .v (.string ⟨#[]⟩)] 38), (1, .ros ByteArray instDatByteArray ((spec_PartsOf p0).1)), (2, .var [.v (.int .i64 (bif (decide ((spec_ActName (i : Int)) = (nth ((spec_PartsOf p0).1) 0))) then (i : Int) else c2_0)), .v (.int .i64 (spec_l38Num ((spec_PartsOf p0).1) 1)), .v (.int .i64 0), .v (.int .i64 0), .v (.string ⟨#[]⟩), .v (.string ⟨#[]⟩), .v (.int .i64 0), .v (.int .i64 0), .v (.string ⟨#[]⟩)] 38)]⟩ ?_ ?_
      · refine cd (fun h6 => ?_) (fun h6 => ?_)
        ·
          refine ad 5 ?_
          exact Run.at [0, 1, 2] [1, 2, 3] (by first | exact su | (rw [h6]; exact su)) (by decide)
        ·
          refine ad 1 ?_
          exact Run.at [0, 1, 2] [1, 2, 3] (by first | exact su | (rw [h6]; exact su)) (by decide)
      refine ad 4 ?_
      rw [wrapN (i := i) (by first | omega | exact om)]
      refine ad 2 ?_
      exact Run.again (bif (decide ((spec_ActName (i : Int)) = (nth ((spec_PartsOf p0).1) 0))) then (i : Int) else c2_0, (i + 1)) [0, 1, 2] [0, 1, 2] ⟨by exact ⟨by (try dsimp only); first | omega | exact trivial, (bifI (gn i (by omega)) hg_c2_0)⟩, hM⟩ rfl (by show _ - _ < _ - _; (try dsimp only); omega) su (by decide)
    ·
      have h4l : ¬ (i < 13) := by have := of_decide_eq_false h4; omega
      have hM := hE.trans ((congrArg (fun n => spec_ReadAct_l1 p0 n c2_0 i) (show 13 - i = 0 by omega)).trans (spec_ReadAct_l1.eq_1 _ _ _))
      refine ad 14 ?_
      refine Run.mid ⟨69, 3, [(2, .pt 0 0), (4, .sl 1 (((spec_PartsOf p0).1).length)), (6, .pt 2 0), (38, .v (.int .i64 c2_0)), (39, .v (.bool ((decide (c2_0 = 2)) || (decide (c2_0 = 7)))))], [(0, .var [.v (.int .i64 0), .v (.int .i64 0), .v (.int .i64 0), .v (.int .i64 0), .v (.string ⟨#[]⟩), .v (.string ⟨#[]⟩), .v (.int .i64 0), .v (.int .i64 0), .v (.string ⟨#[]⟩)] 38), (1, .ros ByteArray instDatByteArray ((spec_PartsOf p0).1)), (2, .var [.v (.int .i64 c2_0), .v (.int .i64 (spec_l38Num ((spec_PartsOf p0).1) 1)), .v (.int .i64 0), .v (.int .i64 0), .v (.string ⟨#[]⟩), .v (.string ⟨#[]⟩), .v (.int .i64 0), .v (.int .i64 0), .v (.string ⟨#[]⟩)] 38)]⟩ ?_ ?_
      · refine cd (fun h7 => ?_) (fun h7 => ?_)
        ·
          refine ad 1 ?_
          exact Run.at [0, 1, 2] [0, 1, 2] (by first | exact su | (rw [h7]; exact su)) (by decide)
        ·
          refine ad 4 ?_
          exact Run.at [0, 1, 2] [0, 1, 2] (by first | exact su | (rw [h7]; exact su)) (by decide)
      refine Run.mid ⟨69, 3, [(2, .pt 0 0), (4, .sl 1 (((spec_PartsOf p0).1).length)), (6, .pt 2 0)], [(0, .var [.v (.int .i64 0), .v (.int .i64 0), .v (.int .i64 0), .v (.int .i64 0), .v (.string ⟨#[]⟩), .v (.string ⟨#[]⟩), .v (.int .i64 0), .v (.int .i64 0), .v (.string ⟨#[]⟩)] 38), (1, .ros ByteArray instDatByteArray ((spec_PartsOf p0).1)), (2, .var [.v (.int .i64 c2_0), .v (.int .i64 (spec_l38Num ((spec_PartsOf p0).1) 1)), .v (.int .i64 (bif ((decide (c2_0 = 2)) || (decide (c2_0 = 7))) then 0 else (bif (decide (c2_0 = 4)) then (spec_l38Num ((spec_PartsOf p0).1) 2) else 0))), .v (.int .i64 (bif ((decide (c2_0 = 2)) || (decide (c2_0 = 7))) then (bif (decide ((((spec_PartsOf p0).1).length : Int) > 2)) then ((spec_ReadCall (cutL ((spec_PartsOf p0).1) 2 (((spec_PartsOf p0).1).length))).1.Kind) else 0) else 0)), .v (.string (bif ((decide (c2_0 = 2)) || (decide (c2_0 = 7))) then (bif (decide ((((spec_PartsOf p0).1).length : Int) > 2)) then ((spec_ReadCall (cutL ((spec_PartsOf p0).1) 2 (((spec_PartsOf p0).1).length))).1.Name) else ⟨#[]⟩) else ⟨#[]⟩)), .v (.string (bif ((decide (c2_0 = 2)) || (decide (c2_0 = 7))) then (bif (decide ((((spec_PartsOf p0).1).length : Int) > 2)) then ((spec_ReadCall (cutL ((spec_PartsOf p0).1) 2 (((spec_PartsOf p0).1).length))).1.To) else ⟨#[]⟩) else ⟨#[]⟩)), .v (.int .i64 (bif ((decide (c2_0 = 2)) || (decide (c2_0 = 7))) then (bif (decide ((((spec_PartsOf p0).1).length : Int) > 2)) then ((spec_ReadCall (cutL ((spec_PartsOf p0).1) 2 (((spec_PartsOf p0).1).length))).1.A) else 0) else 0)), .v (.int .i64 (bif ((decide (c2_0 = 2)) || (decide (c2_0 = 7))) then (bif (decide ((((spec_PartsOf p0).1).length : Int) > 2)) then ((spec_ReadCall (cutL ((spec_PartsOf p0).1) 2 (((spec_PartsOf p0).1).length))).1.B) else 0) else 0)), .v (.string (bif ((decide (c2_0 = 2)) || (decide (c2_0 = 7))) then (bif (decide ((((spec_PartsOf p0).1).length : Int) > 2)) then ((spec_ReadCall (cutL ((spec_PartsOf p0).1) 2 (((spec_PartsOf p0).1).length))).1.Text) else ⟨#[]⟩) else ⟨#[]⟩))] 38)]⟩ ?_ ?_
      · refine cd (fun h8 => ?_) (fun h8 => ?_)
        ·
          refine ad 6 ?_
          refine Run.mid ⟨69, 3, [(2, .pt 0 0), (4, .sl 1 (((spec_PartsOf p0).1).length)), (6, .pt 2 0)], [(0, .var [.v (.int .i64 0), .v (.int .i64 0), .v (.int .i64 0), .v (.int .i64 0), .v (.string ⟨#[]⟩), .v (.string ⟨#[]⟩), .v (.int .i64 0), .v (.int .i64 0), .v (.string ⟨#[]⟩)] 38), (1, .ros ByteArray instDatByteArray ((spec_PartsOf p0).1)), (2, .var [.v (.int .i64 c2_0), .v (.int .i64 (spec_l38Num ((spec_PartsOf p0).1) 1)), .v (.int .i64 0), .v (.int .i64 (bif (decide ((((spec_PartsOf p0).1).length : Int) > 2)) then ((spec_ReadCall (cutL ((spec_PartsOf p0).1) 2 (((spec_PartsOf p0).1).length))).1.Kind) else 0)), .v (.string (bif (decide ((((spec_PartsOf p0).1).length : Int) > 2)) then ((spec_ReadCall (cutL ((spec_PartsOf p0).1) 2 (((spec_PartsOf p0).1).length))).1.Name) else ⟨#[]⟩)), .v (.string (bif (decide ((((spec_PartsOf p0).1).length : Int) > 2)) then ((spec_ReadCall (cutL ((spec_PartsOf p0).1) 2 (((spec_PartsOf p0).1).length))).1.To) else ⟨#[]⟩)), .v (.int .i64 (bif (decide ((((spec_PartsOf p0).1).length : Int) > 2)) then ((spec_ReadCall (cutL ((spec_PartsOf p0).1) 2 (((spec_PartsOf p0).1).length))).1.A) else 0)), .v (.int .i64 (bif (decide ((((spec_PartsOf p0).1).length : Int) > 2)) then ((spec_ReadCall (cutL ((spec_PartsOf p0).1) 2 (((spec_PartsOf p0).1).length))).1.B) else 0)), .v (.string (bif (decide ((((spec_PartsOf p0).1).length : Int) > 2)) then ((spec_ReadCall (cutL ((spec_PartsOf p0).1) 2 (((spec_PartsOf p0).1).length))).1.Text) else ⟨#[]⟩))] 38)]⟩ ?_ ?_
          · refine cd (fun h9 => ?_) (fun h9 => ?_)
            ·
              refine ad 2 ?_
              refine op (pa 2 (((spec_PartsOf p0).1).length) (hh := rfl)) ?_
              refine og (clg (c_spec_ReadCall (cutL ((spec_PartsOf p0).1) 2 (((spec_PartsOf p0).1).length))) fok37) fun hgq => ?_
              obtain ⟨hg10, _⟩ := hgq
              refine ad 6 ?_
              exact Run.at [0, 1, 2] [1, 2, 3] (by first | exact su | (rw [h9]; exact su)) (by decide)
            ·
              refine ad 1 ?_
              exact Run.at [0, 1, 2] [0, 1, 2] (by first | exact su | (rw [h9]; exact su)) (by decide)
          exact Run.at [0, 1, 2] [0, 1, 2] (by first | exact su | (rw [h8]; exact su)) (by decide)
        ·
          refine ad 5 ?_
          refine Run.mid ⟨69, 3, [(2, .pt 0 0), (4, .sl 1 (((spec_PartsOf p0).1).length)), (6, .pt 2 0)], [(0, .var [.v (.int .i64 0), .v (.int .i64 0), .v (.int .i64 0), .v (.int .i64 0), .v (.string ⟨#[]⟩), .v (.string ⟨#[]⟩), .v (.int .i64 0), .v (.int .i64 0), .v (.string ⟨#[]⟩)] 38), (1, .ros ByteArray instDatByteArray ((spec_PartsOf p0).1)), (2, .var [.v (.int .i64 c2_0), .v (.int .i64 (spec_l38Num ((spec_PartsOf p0).1) 1)), .v (.int .i64 (bif (decide (c2_0 = 4)) then (spec_l38Num ((spec_PartsOf p0).1) 2) else 0)), .v (.int .i64 0), .v (.string ⟨#[]⟩), .v (.string ⟨#[]⟩), .v (.int .i64 0), .v (.int .i64 0), .v (.string ⟨#[]⟩)] 38)]⟩ ?_ ?_
          · refine cd (fun h11 => ?_) (fun h11 => ?_)
            ·
              refine ad 2 ?_
              refine op (cl (c_spec_l38Num ((spec_PartsOf p0).1) 2 (by omega)) fok76) ?_
              refine ad 3 ?_
              exact Run.at [0, 1, 2] [0, 1, 2] (by first | exact su | (rw [h11]; exact su)) (by decide)
            ·
              refine ad 1 ?_
              exact Run.at [0, 1, 2] [0, 1, 2] (by first | exact su | (rw [h11]; exact su)) (by decide)
          exact Run.at [0, 1, 2] [0, 1, 2] (by first | exact su | (rw [h8]; exact su)) (by decide)
      refine ad 4 ?_
      have hg12 : Dat.good (Deed.mk c2_0 (spec_l38Num ((spec_PartsOf p0).1) 1) (bif ((decide (c2_0 = 2)) || (decide (c2_0 = 7))) then 0 else (bif (decide (c2_0 = 4)) then (spec_l38Num ((spec_PartsOf p0).1) 2) else 0)) (Call.mk (bif ((decide (c2_0 = 2)) || (decide (c2_0 = 7))) then (bif (decide ((((spec_PartsOf p0).1).length : Int) > 2)) then ((spec_ReadCall (cutL ((spec_PartsOf p0).1) 2 (((spec_PartsOf p0).1).length))).1.Kind) else 0) else 0) (bif ((decide (c2_0 = 2)) || (decide (c2_0 = 7))) then (bif (decide ((((spec_PartsOf p0).1).length : Int) > 2)) then ((spec_ReadCall (cutL ((spec_PartsOf p0).1) 2 (((spec_PartsOf p0).1).length))).1.Name) else ⟨#[]⟩) else ⟨#[]⟩) (bif ((decide (c2_0 = 2)) || (decide (c2_0 = 7))) then (bif (decide ((((spec_PartsOf p0).1).length : Int) > 2)) then ((spec_ReadCall (cutL ((spec_PartsOf p0).1) 2 (((spec_PartsOf p0).1).length))).1.To) else ⟨#[]⟩) else ⟨#[]⟩) (bif ((decide (c2_0 = 2)) || (decide (c2_0 = 7))) then (bif (decide ((((spec_PartsOf p0).1).length : Int) > 2)) then ((spec_ReadCall (cutL ((spec_PartsOf p0).1) 2 (((spec_PartsOf p0).1).length))).1.A) else 0) else 0) (bif ((decide (c2_0 = 2)) || (decide (c2_0 = 7))) then (bif (decide ((((spec_PartsOf p0).1).length : Int) > 2)) then ((spec_ReadCall (cutL ((spec_PartsOf p0).1) 2 (((spec_PartsOf p0).1).length))).1.B) else 0) else 0) (bif ((decide (c2_0 = 2)) || (decide (c2_0 = 7))) then (bif (decide ((((spec_PartsOf p0).1).length : Int) > 2)) then ((spec_ReadCall (cutL ((spec_PartsOf p0).1) 2 (((spec_PartsOf p0).1).length))).1.Text) else ⟨#[]⟩) else ⟨#[]⟩)) : Deed) := ⟨hg_c2_0, (spec_l38Num_I64 _ _), (bifI (gi 0) (bifI (spec_l38Num_I64 _ _) (gi 0))), (good_Call (bifI (bifI (spec_ReadCall_gs (cutL ((spec_PartsOf p0).1) 2 (((spec_PartsOf p0).1).length))).1 (gi 0)) (gi 0)) (bifS (bifS (spec_ReadCall_gs (cutL ((spec_PartsOf p0).1) 2 (((spec_PartsOf p0).1).length))).2.1 (gs ⟨#[]⟩)) (gs ⟨#[]⟩)) (bifS (bifS (spec_ReadCall_gs (cutL ((spec_PartsOf p0).1) 2 (((spec_PartsOf p0).1).length))).2.2.1 (gs ⟨#[]⟩)) (gs ⟨#[]⟩)) (bifI (bifI (spec_ReadCall_gs (cutL ((spec_PartsOf p0).1) 2 (((spec_PartsOf p0).1).length))).2.2.2.1 (gi 0)) (gi 0)) (bifI (bifI (spec_ReadCall_gs (cutL ((spec_PartsOf p0).1) 2 (((spec_PartsOf p0).1).length))).2.2.2.2.1 (gi 0)) (gi 0)) (bifS (bifS (spec_ReadCall_gs (cutL ((spec_PartsOf p0).1) 2 (((spec_PartsOf p0).1).length))).2.2.2.2.2 (gs ⟨#[]⟩)) (gs ⟨#[]⟩)))⟩
      have hs13 := spec_ActLine_size (a := (Deed.mk c2_0 (spec_l38Num ((spec_PartsOf p0).1) 1) (bif ((decide (c2_0 = 2)) || (decide (c2_0 = 7))) then 0 else (bif (decide (c2_0 = 4)) then (spec_l38Num ((spec_PartsOf p0).1) 2) else 0)) (Call.mk (bif ((decide (c2_0 = 2)) || (decide (c2_0 = 7))) then (bif (decide ((((spec_PartsOf p0).1).length : Int) > 2)) then ((spec_ReadCall (cutL ((spec_PartsOf p0).1) 2 (((spec_PartsOf p0).1).length))).1.Kind) else 0) else 0) (bif ((decide (c2_0 = 2)) || (decide (c2_0 = 7))) then (bif (decide ((((spec_PartsOf p0).1).length : Int) > 2)) then ((spec_ReadCall (cutL ((spec_PartsOf p0).1) 2 (((spec_PartsOf p0).1).length))).1.Name) else ⟨#[]⟩) else ⟨#[]⟩) (bif ((decide (c2_0 = 2)) || (decide (c2_0 = 7))) then (bif (decide ((((spec_PartsOf p0).1).length : Int) > 2)) then ((spec_ReadCall (cutL ((spec_PartsOf p0).1) 2 (((spec_PartsOf p0).1).length))).1.To) else ⟨#[]⟩) else ⟨#[]⟩) (bif ((decide (c2_0 = 2)) || (decide (c2_0 = 7))) then (bif (decide ((((spec_PartsOf p0).1).length : Int) > 2)) then ((spec_ReadCall (cutL ((spec_PartsOf p0).1) 2 (((spec_PartsOf p0).1).length))).1.A) else 0) else 0) (bif ((decide (c2_0 = 2)) || (decide (c2_0 = 7))) then (bif (decide ((((spec_PartsOf p0).1).length : Int) > 2)) then ((spec_ReadCall (cutL ((spec_PartsOf p0).1) 2 (((spec_PartsOf p0).1).length))).1.B) else 0) else 0) (bif ((decide (c2_0 = 2)) || (decide (c2_0 = 7))) then (bif (decide ((((spec_PartsOf p0).1).length : Int) > 2)) then ((spec_ReadCall (cutL ((spec_PartsOf p0).1) 2 (((spec_PartsOf p0).1).length))).1.Text) else ⟨#[]⟩) else ⟨#[]⟩))))
      refine op (cl (c_spec_ActLine (Deed.mk c2_0 (spec_l38Num ((spec_PartsOf p0).1) 1) (bif ((decide (c2_0 = 2)) || (decide (c2_0 = 7))) then 0 else (bif (decide (c2_0 = 4)) then (spec_l38Num ((spec_PartsOf p0).1) 2) else 0)) (Call.mk (bif ((decide (c2_0 = 2)) || (decide (c2_0 = 7))) then (bif (decide ((((spec_PartsOf p0).1).length : Int) > 2)) then ((spec_ReadCall (cutL ((spec_PartsOf p0).1) 2 (((spec_PartsOf p0).1).length))).1.Kind) else 0) else 0) (bif ((decide (c2_0 = 2)) || (decide (c2_0 = 7))) then (bif (decide ((((spec_PartsOf p0).1).length : Int) > 2)) then ((spec_ReadCall (cutL ((spec_PartsOf p0).1) 2 (((spec_PartsOf p0).1).length))).1.Name) else ⟨#[]⟩) else ⟨#[]⟩) (bif ((decide (c2_0 = 2)) || (decide (c2_0 = 7))) then (bif (decide ((((spec_PartsOf p0).1).length : Int) > 2)) then ((spec_ReadCall (cutL ((spec_PartsOf p0).1) 2 (((spec_PartsOf p0).1).length))).1.To) else ⟨#[]⟩) else ⟨#[]⟩) (bif ((decide (c2_0 = 2)) || (decide (c2_0 = 7))) then (bif (decide ((((spec_PartsOf p0).1).length : Int) > 2)) then ((spec_ReadCall (cutL ((spec_PartsOf p0).1) 2 (((spec_PartsOf p0).1).length))).1.A) else 0) else 0) (bif ((decide (c2_0 = 2)) || (decide (c2_0 = 7))) then (bif (decide ((((spec_PartsOf p0).1).length : Int) > 2)) then ((spec_ReadCall (cutL ((spec_PartsOf p0).1) 2 (((spec_PartsOf p0).1).length))).1.B) else 0) else 0) (bif ((decide (c2_0 = 2)) || (decide (c2_0 = 7))) then (bif (decide ((((spec_PartsOf p0).1).length : Int) > 2)) then ((spec_ReadCall (cutL ((spec_PartsOf p0).1) 2 (((spec_PartsOf p0).1).length))).1.Text) else ⟨#[]⟩) else ⟨#[]⟩)))) fok19) ?_
      refine ad 8 ?_
      refine ag 2 ?_
      refine op (cG (hct := fun hB => (c_spec_l38Join ((spec_PartsOf p0).1) (sparts12 _))) (hfn := fok80)) ?_
      refine ag 2 ?_
      refine ad 1 ?_
      refine cd (fun h14 => ?_) (fun h14 => ?_)
      ·
        have hM := hM.trans (bt h14)
        refine ad 6 ?_
        have hg15 : Dat.good (Deed.mk 0 0 0 (Call.mk 0 ⟨#[]⟩ ⟨#[]⟩ 0 0 ⟨#[]⟩) : Deed) := ⟨(gi 0), (gi 0), (gi 0), (good_Call (gi 0) (gs ⟨#[]⟩) (gs ⟨#[]⟩) (gi 0) (gi 0) (gs ⟨#[]⟩))⟩
        exact rz (rs := [.cell 2 38, .tmp 3]) (congrArg (fun x => [Re.st Deed _ inferInstance x.1, Re.c (.bool x.2)]) hM)
      ·
        have hM := hM.trans (bf h14)
        refine ad 7 ?_
        exact rz (rs := [.cell 2 38, .tmp 3]) (congrArg (fun x => [Re.st Deed _ inferInstance x.1, Re.c (.bool x.2)]) hM)

/- F42 loop.example/g00974/laws.eqAct -/
def laws_eqAct (p0 : Deed) (p1 : Deed) : Bool := bif !decide (p0.Kind = p1.Kind) then false else (bif !decide (p0.N = p1.N) then false else (bif !decide (p0.M = p1.M) then false else (bif !(laws_eqCall p0.Call p1.Call) then false else true)))
theorem c_laws_eqAct (p0 : Deed) (p1 : Deed) : CTs 42 [.o (.st Deed _ inferInstance p0), .o (.st Deed _ inferInstance p1)] [Re.c (.bool (laws_eqAct p0 p1))] := by
  refine en Tryd.func42 Tryd.ntmps42 fun w hG hgd => ?_
  obtain ⟨hg_p0, hg_p1, _⟩ := hgd
  have hM := laws_eqAct.eq_1 p0 p1
  refine ad 15 ?_
  refine cd (fun h1 => ?_) (fun h1 => ?_)
  ·
    have hM := hM.trans (bt h1)
    refine ad 4 ?_
    exact rz (rs := [.tmp 4]) (congrArg (fun x => [Re.c (.bool x)]) hM)
  ·
    have hM := hM.trans (bf h1)
    refine ad 10 ?_
    refine cd (fun h2 => ?_) (fun h2 => ?_)
    ·
      have hM := hM.trans (bt h2)
      refine ad 4 ?_
      exact rz (rs := [.tmp 4]) (congrArg (fun x => [Re.c (.bool x)]) hM)
    ·
      have hM := hM.trans (bf h2)
      refine ad 10 ?_
      refine cd (fun h3 => ?_) (fun h3 => ?_)
      ·
        have hM := hM.trans (bt h3)
        refine ad 4 ?_
        exact rz (rs := [.tmp 4]) (congrArg (fun x => [Re.c (.bool x)]) hM)
      ·
        have hM := hM.trans (bf h3)
        refine ad 8 ?_
        have hg4 : Dat.good (p0.Call : Call) := hg_p0.2.2.2
        have hg5 : Dat.good (p1.Call : Call) := hg_p1.2.2.2
        refine op (cl (c_laws_eqCall p0.Call p1.Call) fok39) ?_
        refine ad 2 ?_
        refine cd (fun h6 => ?_) (fun h6 => ?_)
        ·
          have hM := hM.trans (bt h6)
          refine ad 4 ?_
          exact rz (rs := [.tmp 4]) (congrArg (fun x => [Re.c (.bool x)]) hM)
        ·
          have hM := hM.trans (bf h6)
          refine ad 5 ?_
          exact rz (rs := [.tmp 4]) (congrArg (fun x => [Re.c (.bool x)]) hM)

/- F9 loop.example/g00974/laws.FnExactReadAct -/
def laws_FnExactReadAct (p0 : ByteArray) : Bool := bif decide ((p0.size : Int) > 1048576) then true else (bif (!(laws_eqAct ((impl_ReadAct p0).1) ((spec_ReadAct p0).1))) || (!decide (((impl_ReadAct p0).2) = ((spec_ReadAct p0).2))) then false else true)
theorem c_laws_FnExactReadAct (p0 : ByteArray) (hz_p0 : p0.size ≤ 9223372036854775807) : CTs 9 [.o (.c (.string p0))] [Re.c (.bool (laws_FnExactReadAct p0))] := by
  refine en Tryd.func9 Tryd.ntmps9 fun w hG hgd => ?_
  have hM := laws_FnExactReadAct.eq_1 p0
  refine ad 11 ?_
  refine cd (fun h1 => ?_) (fun h1 => ?_)
  ·
    have hM := hM.trans (bt h1)
    refine ad 4 ?_
    exact rz (rs := [.tmp 2]) (congrArg (fun x => [Re.c (.bool x)]) hM)
  ·
    have hM := hM.trans (bf h1)
    refine ad 4 ?_
    refine og (clg (c_spec_ReadAct p0) fok40) fun hgq => ?_
    obtain ⟨hg2, _⟩ := hgq
    refine ad 10 ?_
    refine og (clg (c_impl_ReadAct p0 hz_p0) fok41) fun hgq => ?_
    obtain ⟨hg3, _⟩ := hgq
    refine ad 12 ?_
    refine op (cl (c_laws_eqAct ((impl_ReadAct p0).1) ((spec_ReadAct p0).1)) fok42) ?_
    refine ad 2 ?_
    refine ag 4 ?_
    refine ad 1 ?_
    refine cd (fun h4 => ?_) (fun h4 => ?_)
    ·
      have hM := hM.trans (bt h4)
      refine ad 4 ?_
      exact rz (rs := [.tmp 2]) (congrArg (fun x => [Re.c (.bool x)]) hM)
    ·
      have hM := hM.trans (bf h4)
      refine ad 5 ?_
      exact rz (rs := [.tmp 2]) (congrArg (fun x => [Re.c (.bool x)]) hM)

end Go.Proofs.YtmjjcihoobnbgaaDoor.Fw