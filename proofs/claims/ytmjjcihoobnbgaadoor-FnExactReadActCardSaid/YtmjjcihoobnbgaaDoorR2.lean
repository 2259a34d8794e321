/- Contracts: each call returns what the model says. By program (wip/am/gen2.py). -/
import Derived.Test.YtmjjcihoobnbgaaDoorR1
import Derived.Test.YtmjjcihoobnbgaaDoorB3
namespace Go.Proofs.YtmjjcihoobnbgaaDoor.Fw
open Go.RowKit
set_option linter.unusedVariables false
set_option maxRecDepth 100000

theorem fok14 : FnOk Tryd.prog 14 := ⟨_, Tryd.func14, rfl, by kernel_rfl⟩
theorem fok16 : FnOk Tryd.prog 16 := ⟨_, Tryd.func16, rfl, by kernel_rfl⟩
theorem fok26 : FnOk Tryd.prog 26 := ⟨_, Tryd.func26, rfl, by kernel_rfl⟩
theorem fok33 : FnOk Tryd.prog 33 := ⟨_, Tryd.func33, rfl, by kernel_rfl⟩
theorem fok34 : FnOk Tryd.prog 34 := ⟨_, Tryd.func34, rfl, by kernel_rfl⟩
theorem fok36 : FnOk Tryd.prog 36 := ⟨_, Tryd.func36, rfl, by kernel_rfl⟩
theorem fok37 : FnOk Tryd.prog 37 := ⟨_, Tryd.func37, rfl, by kernel_rfl⟩
theorem fok38 : FnOk Tryd.prog 38 := ⟨_, Tryd.func38, rfl, by kernel_rfl⟩
theorem fok39 : FnOk Tryd.prog 39 := ⟨_, Tryd.func39, rfl, by kernel_rfl⟩
theorem fok72 : FnOk Tryd.prog 72 := ⟨_, Tryd.func72, rfl, by kernel_rfl⟩
theorem fok73 : FnOk Tryd.prog 73 := ⟨_, Tryd.func73, rfl, by kernel_rfl⟩
theorem fok74 : FnOk Tryd.prog 74 := ⟨_, Tryd.func74, rfl, by kernel_rfl⟩
theorem fok75 : FnOk Tryd.prog 75 := ⟨_, Tryd.func75, rfl, by kernel_rfl⟩
theorem fok76 : FnOk Tryd.prog 76 := ⟨_, Tryd.func76, rfl, by kernel_rfl⟩
theorem fok77 : FnOk Tryd.prog 77 := ⟨_, Tryd.func77, rfl, by kernel_rfl⟩
theorem fok78 : FnOk Tryd.prog 78 := ⟨_, Tryd.func78, rfl, by kernel_rfl⟩
theorem fok79 : FnOk Tryd.prog 79 := ⟨_, Tryd.func79, rfl, by kernel_rfl⟩
theorem fok81 : FnOk Tryd.prog 81 := ⟨_, Tryd.func81, rfl, by kernel_rfl⟩
theorem fok102 : FnOk Tryd.prog 102 := ⟨_, Tryd.func102, rfl, by kernel_rfl⟩
/- F33 loop.example/g00974/impl.PartsOf -/
def impl_PartsOf_l1 (p0 : ByteArray) : Nat → Nat → (List ByteArray) × Bool
  | 0, i => bif decide (((fieldsS p0).length : Int) > 12) then ([], false) else ((fieldsS p0), true)
  | n + 1, i => bif (decide (((byteAt p0 i).toNat : Int) < 32)) || (decide (((byteAt p0 i).toNat : Int) > 126)) then ([], false) else (impl_PartsOf_l1 p0 n (i + 1))
def impl_PartsOf (p0 : ByteArray) : (List ByteArray) × Bool := bif decide ((p0.size : Int) > 600) then ([], false) else (impl_PartsOf_l1 p0 (p0.size - 0) 0)
theorem c_impl_PartsOf (p0 : ByteArray) (hz_p0 : p0.size ≤ 9223372036854775807) : CTs 33 [.o (.c (.string p0))] [Re.sl ByteArray instDatByteArray ((impl_PartsOf p0).1), Re.c (.bool ((impl_PartsOf p0).2))] := by
  refine en Tryd.func33 Tryd.ntmps33 fun w hG hgd => ?_
  have hM := impl_PartsOf.eq_1 p0
  refine ad 12 ?_
  refine cd (fun h1 => ?_) (fun h1 => ?_)
  ·
    have hM := hM.trans (bt h1)
    refine ad 5 ?_
    exact rz (rs := [.tmp 2, .tmp 3]) (congrArg (fun x => [Re.sl ByteArray instDatByteArray x.1, Re.c (.bool x.2)]) hM)
  ·
    have hM := hM.trans (bf h1)
    refine ad 9 ?_
    have hsz : p0.size ≤ 600 := by have := h1; simp at this; omega
    refine Run.loopM (ι := Nat) (fun s => impl_PartsOf_l1 p0 (p0.size - s) s) (fun s => ⟨31, 0, [(0, .v (.string p0)), (10, .v (.int .i64 (p0.size : Int))), (11, .v (.int .i64 (s : Int)))], []⟩) (fun s => s ≤ p0.size ∧ ∀ j, j < s → 32 ≤ (byteAt p0 j).toNat ∧ (byteAt p0 j).toNat ≤ 126) (fun s => p0.size - s) 0 [] [] hM (by exact ⟨by (try dsimp only); omega, fun j hj => by omega⟩) su (by decide) ?_
    rintro i hv hE
    try dsimp only at hE
    obtain ⟨hi, hv0⟩ := hv
    try dsimp only at hi hv0
    refine ad 5 ?_
    refine cd (fun h2 => ?_) (fun h2 => ?_)
    ·
      have h2l : i < p0.size := by have := of_decide_eq_true h2; omega
      have hM := hE.trans ((congrArg (fun n => impl_PartsOf_l1 p0 n i) (show p0.size - i = (p0.size - (i + 1)) + 1 by omega)).trans (impl_PartsOf_l1.eq_2 _ _ _))
      refine ad 12 ?_
      refine op (sx (s := p0) i om) ?_
      refine ad 2 ?_
      refine ag 2 ?_
      refine op (sG (s := p0) i (hk := fun hB => by (try simp at hB); omega)) ?_
      refine ag 2 ?_
      refine ad 1 ?_
      refine cd (fun h3 => ?_) (fun h3 => ?_)
      ·
        have hM := hM.trans (bt h3)
        refine ad 5 ?_
        exact rz (rs := [.tmp 2, .tmp 3]) (congrArg (fun x => [Re.sl ByteArray instDatByteArray x.1, Re.c (.bool x.2)]) hM)
      ·
        have hM := hM.trans (bf h3)
        refine ad 4 ?_
        rw [wrapN (i := i) (by first | omega | exact om)]
        refine ad 2 ?_
        exact Run.again (i + 1) [] [] ⟨by exact parts_inv (by omega) hv0 (by assumption), hM⟩ rfl (by show _ - _ < _ - _; (try dsimp only); omega) su (by decide)
    ·
      have h2l : ¬ (i < p0.size) := by have := of_decide_eq_false h2; omega
      have hM := hE.trans ((congrArg (fun n => impl_PartsOf_l1 p0 n i) (show p0.size - i = 0 by omega)).trans (impl_PartsOf_l1.eq_1 _ _))
      refine ad 4 ?_
      refine og (clg (k_fields p0 (by first | assumption | exact om) (fun j hj => hv0 j (by omega))) fok72) fun hgq => ?_
      obtain ⟨hg4, _⟩ := hgq
      refine ad 9 ?_
      refine cd (fun h5 => ?_) (fun h5 => ?_)
      ·
        have hM := hM.trans (bt h5)
        refine ad 5 ?_
        exact rz (rs := [.tmp 2, .tmp 3]) (congrArg (fun x => [Re.sl ByteArray instDatByteArray x.1, Re.c (.bool x.2)]) hM)
      ·
        have hM := hM.trans (bf h5)
        refine ad 7 ?_
        exact rz (rs := [.tmp 2, .tmp 3]) (congrArg (fun x => [Re.sl ByteArray instDatByteArray x.1, Re.c (.bool x.2)]) hM)

/- F74 (*loop.example/g00974/impl.Call).setField -/
def impl_Call_setField (p0 : Call) (p1 : Int) (p2 : ByteArray) : Call := (Call.mk p0.Kind (bif (decide (p1 = 78)) then p2 else p0.Name) (bif (decide (p1 = 78)) then p0.To else (bif (decide (p1 = 84)) then p2 else p0.To)) (bif (decide (p1 = 78)) then p0.A else (bif (decide (p1 = 84)) then p0.A else (bif (decide (p1 = 65)) then ((impl_ReadDecimal p2).1) else p0.A))) (bif (decide (p1 = 78)) then p0.B else (bif (decide (p1 = 84)) then p0.B else (bif (decide (p1 = 65)) then p0.B else (bif (decide (p1 = 66)) then ((impl_ReadDecimal p2).1) else p0.B)))) (bif (decide (p1 = 78)) then p0.Text else (bif (decide (p1 = 84)) then p0.Text else (bif (decide (p1 = 65)) then p0.Text else (bif (decide (p1 = 66)) then p0.Text else (bif (decide (p1 = 88)) then ((impl_Unhex p2).1) else p0.Text))))))
theorem c_impl_Call_setField (p0 : Call) (p1 : Int) (p2 : ByteArray) (hq : p2.size ≤ 281474976710656) : CTMs 74 1 1 [(0, .var [.v (.int .i64 p0.Kind), .v (.string p0.Name), .v (.string p0.To), .v (.int .i64 p0.A), .v (.int .i64 p0.B), .v (.string p0.Text)] 28)] [] [.pt 0 0, .v (.int .i32 p1), .v (.string p2)] [(0, .var [.v (.int .i64 ((impl_Call_setField p0 p1 p2).Kind)), .v (.string ((impl_Call_setField p0 p1 p2).Name)), .v (.string ((impl_Call_setField p0 p1 p2).To)), .v (.int .i64 ((impl_Call_setField p0 p1 p2).A)), .v (.int .i64 ((impl_Call_setField p0 p1 p2).B)), .v (.string ((impl_Call_setField p0 p1 p2).Text))] 28)] 0 [] True := by
  refine enM Tryd.func74 Tryd.ntmps74 fun S w p hG hb hg => ?_
  refine Run.cg (σ' := ⟨49, 1, [(0, .pt 0 0), (1, .v (.int .i32 p1)), (2, .v (.string p2))], [(0, .var [.v (.int .i64 p0.Kind), .v (.string p0.Name), .v (.string p0.To), .v (.int .i64 p0.A), .v (.int .i64 p0.B), .v (.string p0.Text)] 28), (0, .pin (p 0))]⟩) rfl ?_
  have hM := impl_Call_setField.eq_1 p0 p1 p2
  refine ad 10 ?_
  refine Run.mid ⟨49, 1, [(0, .pt 0 0)], [(0, .var [.v (.int .i64 p0.Kind), .v (.string (bif (decide (p1 = 78)) then p2 else p0.Name)), .v (.string (bif (decide (p1 = 78)) then p0.To else (bif (decide (p1 = 84)) then p2 else p0.To))), .v (.int .i64 (bif (decide (p1 = 78)) then p0.A else (bif (decide (p1 = 84)) then p0.A else (bif (decide (p1 = 65)) then ((impl_ReadDecimal p2).1) else p0.A)))), .v (.int .i64 (bif (decide (p1 = 78)) then p0.B else (bif (decide (p1 = 84)) then p0.B else (bif (decide (p1 = 65)) then p0.B else (bif (decide (p1 = 66)) then ((impl_ReadDecimal p2).1) else p0.B))))), .v (.string (bif (decide (p1 = 78)) then p0.Text else (bif (decide (p1 = 84)) then p0.Text else (bif (decide (p1 = 65)) then p0.Text else (bif (decide (p1 = 66)) then p0.Text else (bif (decide (p1 = 88)) then ((impl_Unhex p2).1) else p0.Text))))))] 28), (0, .pin (p 0))]⟩ ?_ ?_
  · refine cd (fun h1 => ?_) (fun h1 => ?_)
    ·
      refine ad 7 ?_
      exact Run.at [0] [0, 1] (by first | exact su | (rw [h1]; exact su)) (by decide)
    ·
      refine ad 5 ?_
      refine Run.mid ⟨49, 1, [(0, .pt 0 0)], [(0, .var [.v (.int .i64 p0.Kind), .v (.string p0.Name), .v (.string (bif (decide (p1 = 84)) then p2 else p0.To)), .v (.int .i64 (bif (decide (p1 = 84)) then p0.A else (bif (decide (p1 = 65)) then ((impl_ReadDecimal p2).1) else p0.A))), .v (.int .i64 (bif (decide (p1 = 84)) then p0.B else (bif (decide (p1 = 65)) then p0.B else (bif (decide (p1 = 66)) then ((impl_ReadDecimal p2).1) else p0.B)))), .v (.string (bif (decide (p1 = 84)) then p0.Text else (bif (decide (p1 = 65)) then p0.Text else (bif (decide (p1 = 66)) then p0.Text else (bif (decide (p1 = 88)) then ((impl_Unhex p2).1) else p0.Text)))))] 28), (0, .pin (p 0))]⟩ ?_ ?_
      · refine cd (fun h2 => ?_) (fun h2 => ?_)
        ·
          refine ad 7 ?_
          exact Run.at [0] [0, 1] (by first | exact su | (rw [h2]; exact su)) (by decide)
        ·
          refine ad 5 ?_
          refine Run.mid ⟨49, 1, [(0, .pt 0 0)], [(0, .var [.v (.int .i64 p0.Kind), .v (.string p0.Name), .v (.string p0.To), .v (.int .i64 (bif (decide (p1 = 65)) then ((impl_ReadDecimal p2).1) else p0.A)), .v (.int .i64 (bif (decide (p1 = 65)) then p0.B else (bif (decide (p1 = 66)) then ((impl_ReadDecimal p2).1) else p0.B))), .v (.string (bif (decide (p1 = 65)) then p0.Text else (bif (decide (p1 = 66)) then p0.Text else (bif (decide (p1 = 88)) then ((impl_Unhex p2).1) else p0.Text))))] 28), (0, .pin (p 0))]⟩ ?_ ?_
          · refine cd (fun h3 => ?_) (fun h3 => ?_)
            ·
              refine ad 3 ?_
              refine op (cl (c_impl_ReadDecimal p2 (by first | assumption | exact om)) fok81) ?_
              refine ad 7 ?_
              exact Run.at [0] [0, 1] (by first | exact su | (rw [h3]; exact su)) (by decide)
            ·
              refine ad 5 ?_
              refine Run.mid ⟨49, 1, [(0, .pt 0 0)], [(0, .var [.v (.int .i64 p0.Kind), .v (.string p0.Name), .v (.string p0.To), .v (.int .i64 p0.A), .v (.int .i64 (bif (decide (p1 = 66)) then ((impl_ReadDecimal p2).1) else p0.B)), .v (.string (bif (decide (p1 = 66)) then p0.Text else (bif (decide (p1 = 88)) then ((impl_Unhex p2).1) else p0.Text)))] 28), (0, .pin (p 0))]⟩ ?_ ?_
              · refine cd (fun h4 => ?_) (fun h4 => ?_)
                ·
                  refine ad 3 ?_
                  refine op (cl (c_impl_ReadDecimal p2 (by first | assumption | exact om)) fok81) ?_
                  refine ad 7 ?_
                  exact Run.at [0] [0, 1] (by first | exact su | (rw [h4]; exact su)) (by decide)
                ·
                  refine ad 5 ?_
                  refine Run.mid ⟨49, 1, [(0, .pt 0 0)], [(0, .var [.v (.int .i64 p0.Kind), .v (.string p0.Name), .v (.string p0.To), .v (.int .i64 p0.A), .v (.int .i64 p0.B), .v (.string (bif (decide (p1 = 88)) then ((impl_Unhex p2).1) else p0.Text))] 28), (0, .pin (p 0))]⟩ ?_ ?_
                  · refine cd (fun h5 => ?_) (fun h5 => ?_)
                    ·
                      refine ad 3 ?_
                      refine op (cl (c_impl_Unhex p2 (by first | assumption | exact om)) fok102) ?_
                      refine ad 7 ?_
                      exact Run.at [0] [0, 1] (by first | exact su | (rw [h5]; exact su)) (by decide)
                    ·
                      refine ad 1 ?_
                      exact Run.at [0] [0, 1] (by first | exact su | (rw [h5]; exact su)) (by decide)
                  exact Run.at [0] [0, 1] (by first | exact su | (rw [h4]; exact su)) (by decide)
              exact Run.at [0] [0, 1] (by first | exact su | (rw [h3]; exact su)) (by decide)
          exact Run.at [0] [0, 1] (by first | exact su | (rw [h2]; exact su)) (by decide)
      exact Run.at [0] [0, 1] (by first | exact su | (rw [h1]; exact su)) (by decide)
  refine ad 1 ?_
  exact rzE (rs := []) [0] [0, 1] (hg1 := trivial) (hG1 := congrArg (fun x => (True : Prop)) hM) (congrArg (fun x => ([(0, .var [.v (.int .i64 x.Kind), .v (.string x.Name), .v (.string x.To), .v (.int .i64 x.A), .v (.int .i64 x.B), .v (.string x.Text)] 28)] : List (Nat × En))) hM) (congrArg (fun x => ([] : List V)) hM)
theorem impl_Call_setField_good {p0 : Call} {p1 : Int} {p2 : ByteArray} (hg : Dat.good p0) (hw : p2.size ≤ maxLen) : Dat.good (impl_Call_setField p0 p1 p2) := by
  obtain ⟨g1, g2, g3, g4, g5, g6⟩ := hg
  have h1 := impl_ReadDecimal_I64 p2
  have h2 := impl_Unhex_good p2
  exact ⟨g1, bifS hw g2, bifS g3 (bifS hw g3), bifI g4 (bifI g4 (bifI h1 g4)), bifI g5 (bifI g5 (bifI g5 (bifI h1 g5))), bifS g6 (bifS g6 (bifS g6 (bifS g6 (bifS h2 g6))))⟩

/- F34 loop.example/g00974/impl.ReadCall -/
def impl_ReadCall_l1 (p0 : List ByteArray) : Nat → Int → ByteArray → ByteArray → Int → Int → ByteArray → Nat → Call × Bool
  | 0, c2_0, c2_1, c2_2, c2_3, c2_4, c2_5, i => bif !(slices_Equal_string ((impl_PartsOf (impl_CallLine (Call.mk c2_0 c2_1 c2_2 c2_3 c2_4 c2_5))).1) p0) then ((Call.mk 0 ⟨#[]⟩ ⟨#[]⟩ 0 0 ⟨#[]⟩), false) else ((Call.mk c2_0 c2_1 c2_2 c2_3 c2_4 c2_5), true)
  | n + 1, c2_0, c2_1, c2_2, c2_3, c2_4, c2_5, i => impl_ReadCall_l1 p0 n ((impl_Call_setField (Call.mk c2_0 c2_1 c2_2 c2_3 c2_4 c2_5) ((byteAt (impl_fieldsOf (IntKind.i64.wrap (1 + (slices_Index_string gl1 (nth p0 0))))) i).toNat : Int) (nth p0 (i + 1))).Kind) ((impl_Call_setField (Call.mk c2_0 c2_1 c2_2 c2_3 c2_4 c2_5) ((byteAt (impl_fieldsOf (IntKind.i64.wrap (1 + (slices_Index_string gl1 (nth p0 0))))) i).toNat : Int) (nth p0 (i + 1))).Name) ((impl_Call_setField (Call.mk c2_0 c2_1 c2_2 c2_3 c2_4 c2_5) ((byteAt (impl_fieldsOf (IntKind.i64.wrap (1 + (slices_Index_string gl1 (nth p0 0))))) i).toNat : Int) (nth p0 (i + 1))).To) ((impl_Call_setField (Call.mk c2_0 c2_1 c2_2 c2_3 c2_4 c2_5) ((byteAt (impl_fieldsOf (IntKind.i64.wrap (1 + (slices_Index_string gl1 (nth p0 0))))) i).toNat : Int) (nth p0 (i + 1))).A) ((impl_Call_setField (Call.mk c2_0 c2_1 c2_2 c2_3 c2_4 c2_5) ((byteAt (impl_fieldsOf (IntKind.i64.wrap (1 + (slices_Index_string gl1 (nth p0 0))))) i).toNat : Int) (nth p0 (i + 1))).B) ((impl_Call_setField (Call.mk c2_0 c2_1 c2_2 c2_3 c2_4 c2_5) ((byteAt (impl_fieldsOf (IntKind.i64.wrap (1 + (slices_Index_string gl1 (nth p0 0))))) i).toNat : Int) (nth p0 (i + 1))).Text) (i + 1)
def impl_ReadCall (p0 : List ByteArray) : Call × Bool := bif decide ((p0.length : Int) = 0) then ((Call.mk 0 ⟨#[]⟩ ⟨#[]⟩ 0 0 ⟨#[]⟩), false) else (bif !decide (((impl_fieldsOf (IntKind.i64.wrap (1 + (slices_Index_string gl1 (nth p0 0))))).size : Int) = (IntKind.i64.wrap ((p0.length : Int) - 1))) then ((Call.mk 0 ⟨#[]⟩ ⟨#[]⟩ 0 0 ⟨#[]⟩), false) else (impl_ReadCall_l1 p0 (((impl_fieldsOf (IntKind.i64.wrap (1 + (slices_Index_string gl1 (nth p0 0))))).size) - 0) (IntKind.i64.wrap (1 + (slices_Index_string gl1 (nth p0 0)))) ⟨#[]⟩ ⟨#[]⟩ 0 0 ⟨#[]⟩ 0))
theorem c_impl_ReadCall (p0 : List ByteArray) (hq : ∀ k, (nth p0 k).size ≤ 281474976710656) : CTs 34 [.o (.sl ByteArray instDatByteArray p0)] [Re.st Call _ inferInstance ((impl_ReadCall p0).1), Re.c (.bool ((impl_ReadCall p0).2))] := by
  refine en Tryd.func34 Tryd.ntmps34 fun w hG hgd => ?_
  obtain ⟨hg_p0, _⟩ := hgd
  have hl_p0 : p0.length ≤ 9223372036854775807 := hg_p0.1
  have hM := impl_ReadCall.eq_1 p0
  refine ad 12 ?_
  refine cd (fun h1 => ?_) (fun h1 => ?_)
  ·
    have hM := hM.trans (bt h1)
    refine ad 6 ?_
    have hg2 : Dat.good (Call.mk 0 ⟨#[]⟩ ⟨#[]⟩ 0 0 ⟨#[]⟩ : Call) := ⟨(gi 0), (gs ⟨#[]⟩), (gs ⟨#[]⟩), (gi 0), (gi 0), (gs ⟨#[]⟩)⟩
    exact rz (rs := [.cell 2 28, .tmp 3]) (congrArg (fun x => [Re.st Call _ inferInstance x.1, Re.c (.bool x.2)]) hM)
  ·
    have hM := hM.trans (bf h1)
    refine ad 2 ?_
    refine Run.mid ⟨56, 3, [(0, .sl 0 p0.length), (2, .pt 1 0), (4, .pt 2 0)], [(0, .ros ByteArray instDatByteArray p0), (1, .var [.v (.int .i64 0), .v (.string ⟨#[]⟩), .v (.string ⟨#[]⟩), .v (.int .i64 0), .v (.int .i64 0), .v (.string ⟨#[]⟩)] 28), (2, .var [.v (.int .i64 (IntKind.i64.wrap (1 + (slices_Index_string gl1 (nth p0 0))))), .v (.string ⟨#[]⟩), .v (.string ⟨#[]⟩), .v (.int .i64 0), .v (.int .i64 0), .v (.string ⟨#[]⟩)] 28)]⟩ ?_ ?_
    ·
      refine dr 9 fun _ _ _ _ _ hb => ?_
      refine tk [1] ?_
      have hg3 := good_nth (k := 0) hg_p0 om
      refine tx 2 (dx (xs := p0) 0 om) ?_
      refine tk [3] ?_
      refine o2 0 7 ?_ ?_
      ·
        refine on1 0 [2, 3] (gsl (e := 9) gl1 Gl1) ?_
        refine o2 4 7 ?_ ?_
        ·
          refine on1 4 [2, 3] (cl (c_slices_Index_string gl1 (nth p0 0)) fok73) ?_
          refine tk [5, 6] ?_
          refine on 7 [3, 4] (OpS.st rfl) ?_
          refine on 8 [3, 4] (OpS.st rfl) ?_
          refine dn hb ?_
          exact Run.at [0, 1, 4] [4, 3, 0] su (by decide)
        ·
          refine on1 7 [3, 4] (OpS.st rfl) ?_
          refine on 4 [3, 4] (cl (c_slices_Index_string gl1 (nth p0 0)) fok73) ?_
          refine tk [5, 6] ?_
          refine on 8 [3, 4] (OpS.st rfl) ?_
          refine dn hb ?_
          exact Run.at [0, 1, 4] [4, 3, 0] su (by decide)
      ·
        refine on1 7 [2, 3] (OpS.st rfl) ?_
        refine on 0 [3, 4] (gsl (e := 9) gl1 Gl1) ?_
        refine on 4 [3, 4] (cl (c_slices_Index_string gl1 (nth p0 0)) fok73) ?_
        refine tk [5, 6] ?_
        refine on 8 [3, 4] (OpS.st rfl) ?_
        refine dn hb ?_
        exact Run.at [0, 1, 3] [4, 3, 1] su (by decide)
    refine ad 4 ?_
    refine op (cl (c_impl_fieldsOf (IntKind.i64.wrap (1 + (slices_Index_string gl1 (nth p0 0))))) fok48) ?_
    refine ad 12 ?_
    refine cd (fun h4 => ?_) (fun h4 => ?_)
    ·
      have hM := hM.trans (bt h4)
      refine ad 6 ?_
      have hg5 : Dat.good (Call.mk 0 ⟨#[]⟩ ⟨#[]⟩ 0 0 ⟨#[]⟩ : Call) := ⟨(gi 0), (gs ⟨#[]⟩), (gs ⟨#[]⟩), (gi 0), (gi 0), (gs ⟨#[]⟩)⟩
      exact rz (rs := [.cell 2 28, .tmp 3]) (congrArg (fun x => [Re.st Call _ inferInstance x.1, Re.c (.bool x.2)]) hM)
    ·
      have hM := hM.trans (bf h4)
      refine ad 5 ?_
      refine op (rg) ?_
      refine ad 2 ?_
      have hlen := len_of (n := p0.length) (a := (impl_fieldsOf (IntKind.i64.wrap (1 + (slices_Index_string gl1 (nth p0 0)))))) (by assumption) (by assumption) hl_p0
      have hfs := impl_fieldsOf_size (IntKind.i64.wrap (1 + (slices_Index_string gl1 (nth p0 0))))
      refine Run.loopM (ι := Int × ByteArray × ByteArray × Int × Int × ByteArray × Nat) (fun s => impl_ReadCall_l1 p0 (((impl_fieldsOf (IntKind.i64.wrap (1 + (slices_Index_string gl1 (nth p0 0))))).size) - s.2.2.2.2.2.2) s.1 s.2.1 s.2.2.1 s.2.2.2.1 s.2.2.2.2.1 s.2.2.2.2.2.1 s.2.2.2.2.2.2) (fun s => ⟨56, 4, [(0, .sl 0 p0.length), (2, .pt 1 0), (4, .pt 2 0), (32, .pt 3 0)], [(0, .ros ByteArray instDatByteArray p0), (1, .var [.v (.int .i64 0), .v (.string ⟨#[]⟩), .v (.string ⟨#[]⟩), .v (.int .i64 0), .v (.int .i64 0), .v (.string ⟨#[]⟩)] 28), (2, .var [.v (.int .i64 s.1), .v (.string s.2.1), .v (.string s.2.2.1), .v (.int .i64 s.2.2.2.1), .v (.int .i64 s.2.2.2.2.1), .v (.string s.2.2.2.2.2.1)] 28), (3, .itr (impl_fieldsOf (IntKind.i64.wrap (1 + (slices_Index_string gl1 (nth p0 0))))) s.2.2.2.2.2.2)]⟩) (fun s => s.2.2.2.2.2.2 ≤ (impl_fieldsOf (IntKind.i64.wrap (1 + (slices_Index_string gl1 (nth p0 0))))).size ∧ I64 s.1 ∧ s.2.1.size ≤ maxLen ∧ s.2.2.1.size ≤ maxLen ∧ I64 s.2.2.2.1 ∧ I64 s.2.2.2.2.1 ∧ s.2.2.2.2.2.1.size ≤ maxLen) (fun s => ((impl_fieldsOf (IntKind.i64.wrap (1 + (slices_Index_string gl1 (nth p0 0))))).size) - s.2.2.2.2.2.2) (IntKind.i64.wrap (1 + (slices_Index_string gl1 (nth p0 0))), ⟨#[]⟩, ⟨#[]⟩, 0, 0, ⟨#[]⟩, 0) [0, 1, 2, 3] [1, 2, 3, 0] hM (by exact ⟨by (try dsimp only); first | omega | exact trivial, (I64_wrap _), (gs ⟨#[]⟩), (gs ⟨#[]⟩), (gi 0), (gi 0), (gs ⟨#[]⟩)⟩) su (by decide) ?_
      rintro ⟨c2_0, c2_1, c2_2, c2_3, c2_4, c2_5, i⟩ hv hE
      try dsimp only at hE
      obtain ⟨hi, hg_c2_0, hg_c2_1, hg_c2_2, hg_c2_3, hg_c2_4, hg_c2_5⟩ := hv
      try dsimp only at hi hg_c2_0 hg_c2_1 hg_c2_2 hg_c2_3 hg_c2_4 hg_c2_5
      refine ad 2 ?_
      refine nx (fun h6 => ?_) (fun h6 => ?_) (asc_impl_fieldsOf (IntKind.i64.wrap (1 + (slices_Index_string gl1 (nth p0 0)))))
      ·
        have hM := hE.trans ((congrArg (fun n => impl_ReadCall_l1 p0 n c2_0 c2_1 c2_2 c2_3 c2_4 c2_5 i) (show ((impl_fieldsOf (IntKind.i64.wrap (1 + (slices_Index_string gl1 (nth p0 0))))).size) - i = (((impl_fieldsOf (IntKind.i64.wrap (1 + (slices_Index_string gl1 (nth p0 0))))).size) - (i + 1)) + 1 by omega)).trans (impl_ReadCall_l1.eq_2 _ _ _ _ _ _ _ _ _))
        refine ad 18 ?_
        rw [wrapN (i := i) (by first | omega | exact om)]
        have hg8 := good_nth (k := (i + 1)) hg_p0 om
        refine op (ix (xs := p0) (i + 1) om) ?_
        refine ad 1 ?_
        have hg9 : Dat.good ((impl_Call_setField (Call.mk c2_0 c2_1 c2_2 c2_3 c2_4 c2_5) ((byteAt (impl_fieldsOf (IntKind.i64.wrap (1 + (slices_Index_string gl1 (nth p0 0))))) i).toNat : Int) (nth p0 (i + 1))) : Call) := impl_Call_setField_good ⟨hg_c2_0, hg_c2_1, hg_c2_2, hg_c2_3, hg_c2_4, hg_c2_5⟩ hg8
        refine og (cm [2] [2] [3] [] [0, 1, 2, 4] (c_impl_Call_setField (Call.mk c2_0 c2_1 c2_2 c2_3 c2_4 c2_5) ((byteAt (impl_fieldsOf (IntKind.i64.wrap (1 + (slices_Index_string gl1 (nth p0 0))))) i).toNat : Int) (nth p0 (i + 1)) (by first | assumption | exact hq _ | exact om)) fok74) fun _ => ?_
        refine ad 2 ?_
        exact Run.again ((impl_Call_setField (Call.mk c2_0 c2_1 c2_2 c2_3 c2_4 c2_5) ((byteAt (impl_fieldsOf (IntKind.i64.wrap (1 + (slices_Index_string gl1 (nth p0 0))))) i).toNat : Int) (nth p0 (i + 1))).Kind, (impl_Call_setField (Call.mk c2_0 c2_1 c2_2 c2_3 c2_4 c2_5) ((byteAt (impl_fieldsOf (IntKind.i64.wrap (1 + (slices_Index_string gl1 (nth p0 0))))) i).toNat : Int) (nth p0 (i + 1))).Name, (impl_Call_setField (Call.mk c2_0 c2_1 c2_2 c2_3 c2_4 c2_5) ((byteAt (impl_fieldsOf (IntKind.i64.wrap (1 + (slices_Index_string gl1 (nth p0 0))))) i).toNat : Int) (nth p0 (i + 1))).To, (impl_Call_setField (Call.mk c2_0 c2_1 c2_2 c2_3 c2_4 c2_5) ((byteAt (impl_fieldsOf (IntKind.i64.wrap (1 + (slices_Index_string gl1 (nth p0 0))))) i).toNat : Int) (nth p0 (i + 1))).A, (impl_Call_setField (Call.mk c2_0 c2_1 c2_2 c2_3 c2_4 c2_5) ((byteAt (impl_fieldsOf (IntKind.i64.wrap (1 + (slices_Index_string gl1 (nth p0 0))))) i).toNat : Int) (nth p0 (i + 1))).B, (impl_Call_setField (Call.mk c2_0 c2_1 c2_2 c2_3 c2_4 c2_5) ((byteAt (impl_fieldsOf (IntKind.i64.wrap (1 + (slices_Index_string gl1 (nth p0 0))))) i).toNat : Int) (nth p0 (i + 1))).Text, (i + 1)) [0, 1, 2, 3] [2, 3, 0, 4] ⟨by exact ⟨by (try dsimp only); first | omega | exact trivial, hg9.1, hg9.2.1, hg9.2.2.1, hg9.2.2.2.1, hg9.2.2.2.2.1, hg9.2.2.2.2.2⟩, hM⟩ rfl (by show _ - _ < _ - _; (try dsimp only); omega) su (by decide)
      ·
        have hM := hE.trans ((congrArg (fun n => impl_ReadCall_l1 p0 n c2_0 c2_1 c2_2 c2_3 c2_4 c2_5 i) (show ((impl_fieldsOf (IntKind.i64.wrap (1 + (slices_Index_string gl1 (nth p0 0))))).size) - i = 0 by omega)).trans (impl_ReadCall_l1.eq_1 _ _ _ _ _ _ _ _))
        refine ad 8 ?_
        have hg10 : Dat.good (Call.mk c2_0 c2_1 c2_2 c2_3 c2_4 c2_5 : Call) := ⟨hg_c2_0, hg_c2_1, hg_c2_2, hg_c2_3, hg_c2_4, hg_c2_5⟩
        have hs11 := impl_CallLine_size (p0 := (Call.mk c2_0 c2_1 c2_2 c2_3 c2_4 c2_5)) (by assumption)
        refine op (cl (c_impl_CallLine (Call.mk c2_0 c2_1 c2_2 c2_3 c2_4 c2_5)) fok14) ?_
        refine og (clg (c_impl_PartsOf (impl_CallLine (Call.mk c2_0 c2_1 c2_2 c2_3 c2_4 c2_5)) szt) fok33) fun hgq => ?_
        obtain ⟨hg12, _⟩ := hgq
        refine ad 11 ?_
        refine op (cl (c_slices_Equal_string ((impl_PartsOf (impl_CallLine (Call.mk c2_0 c2_1 c2_2 c2_3 c2_4 c2_5))).1) p0) fok75) ?_
        refine ad 2 ?_
        refine cd (fun h13 => ?_) (fun h13 => ?_)
        ·
          have hM := hM.trans (bt h13)
          refine ad 6 ?_
          have hg14 : Dat.good (Call.mk 0 ⟨#[]⟩ ⟨#[]⟩ 0 0 ⟨#[]⟩ : Call) := ⟨(gi 0), (gs ⟨#[]⟩), (gs ⟨#[]⟩), (gi 0), (gi 0), (gs ⟨#[]⟩)⟩
          exact rz (rs := [.cell 2 28, .tmp 3]) (congrArg (fun x => [Re.st Call _ inferInstance x.1, Re.c (.bool x.2)]) hM)
        ·
          have hM := hM.trans (bf h13)
          refine ad 7 ?_
          exact rz (rs := [.cell 2 28, .tmp 3]) (congrArg (fun x => [Re.st Call _ inferInstance x.1, Re.c (.bool x.2)]) hM)

/- F37 loop.example/g00974/spec.ReadCall -/
def spec_ReadCall_l2 (p0 : List ByteArray) (c2_0 : Int) (i : Nat) (k_2 : (ByteArray × ByteArray × Int × Int × ByteArray) → (Call × Bool)) : Nat → ByteArray → ByteArray → Int → Int → ByteArray → Nat → Call × Bool
  | 0, c2_1_2, c2_2_2, c2_3_2, c2_4_2, c2_5_2, i_2 => k_2 (c2_1_2, c2_2_2, c2_3_2, c2_4_2, c2_5_2)
  | n_2 + 1, c2_1_2, c2_2_2, c2_3_2, c2_4_2, c2_5_2, i_2 => bif (decide ((i_2 : Int) < ((spec_l38Uses c2_0).size : Int))) && (decide ((IntKind.i64.wrap ((i_2 : Int) + 1)) < (p0.length : Int))) then (spec_ReadCall_l2 p0 c2_0 i k_2 n_2 (bif (decide (((byteAt (spec_l38Uses c2_0) i_2).toNat : Int) = 110)) then (nth p0 (i_2 + 1)) else c2_1_2) (bif (decide (((byteAt (spec_l38Uses c2_0) i_2).toNat : Int) = 110)) then c2_2_2 else (bif (decide (((byteAt (spec_l38Uses c2_0) i_2).toNat : Int) = 116)) then (nth p0 (i_2 + 1)) else c2_2_2)) (bif (decide (((byteAt (spec_l38Uses c2_0) i_2).toNat : Int) = 110)) then c2_3_2 else (bif (decide (((byteAt (spec_l38Uses c2_0) i_2).toNat : Int) = 116)) then c2_3_2 else (bif (decide (((byteAt (spec_l38Uses c2_0) i_2).toNat : Int) = 97)) then (spec_l38Num p0 ((i_2 + 1 : Nat) : Int)) else c2_3_2))) (bif (decide (((byteAt (spec_l38Uses c2_0) i_2).toNat : Int) = 110)) then c2_4_2 else (bif (decide (((byteAt (spec_l38Uses c2_0) i_2).toNat : Int) = 116)) then c2_4_2 else (bif (decide (((byteAt (spec_l38Uses c2_0) i_2).toNat : Int) = 97)) then c2_4_2 else (bif (decide (((byteAt (spec_l38Uses c2_0) i_2).toNat : Int) = 98)) then (spec_l38Num p0 ((i_2 + 1 : Nat) : Int)) else c2_4_2)))) (bif (decide (((byteAt (spec_l38Uses c2_0) i_2).toNat : Int) = 110)) then c2_5_2 else (bif (decide (((byteAt (spec_l38Uses c2_0) i_2).toNat : Int) = 116)) then c2_5_2 else (bif (decide (((byteAt (spec_l38Uses c2_0) i_2).toNat : Int) = 97)) then c2_5_2 else (bif (decide (((byteAt (spec_l38Uses c2_0) i_2).toNat : Int) = 98)) then c2_5_2 else ((spec_Unhex (nth p0 (i_2 + 1))).1))))) (i_2 + 1)) else (k_2 (c2_1_2, c2_2_2, c2_3_2, c2_4_2, c2_5_2))
theorem spec_ReadCall_l2_x (p0 : List ByteArray) (c2_0 : Int) (i : Nat) (k_2 : (ByteArray × ByteArray × Int × Int × ByteArray) → (Call × Bool)) (fu : Nat) (c2_1_2 : ByteArray) (c2_2_2 : ByteArray) (c2_3_2 : Int) (c2_4_2 : Int) (c2_5_2 : ByteArray) (i_2 : Nat) (h : ((decide ((i_2 : Int) < ((spec_l38Uses c2_0).size : Int))) && (decide ((IntKind.i64.wrap ((i_2 : Int) + 1)) < (p0.length : Int)))) = false) : spec_ReadCall_l2 p0 c2_0 i k_2 fu c2_1_2 c2_2_2 c2_3_2 c2_4_2 c2_5_2 i_2 = k_2 (c2_1_2, c2_2_2, c2_3_2, c2_4_2, c2_5_2) := by
  cases fu with
  | zero => rfl
  | succ n => exact (bf h)
def spec_ReadCall_l1 (p0 : List ByteArray) : Nat → Int → Nat → Call × Bool
  | 0, c2_0, i => spec_ReadCall_l2 p0 c2_0 i (fun e => bif (!((spec_PartsOf (spec_CallLine (Call.mk c2_0 e.1 e.2.1 e.2.2.1 e.2.2.2.1 e.2.2.2.2))).2)) || (!(spec_l03Same ((spec_PartsOf (spec_CallLine (Call.mk c2_0 e.1 e.2.1 e.2.2.1 e.2.2.2.1 e.2.2.2.2))).1) p0)) then ((Call.mk 0 ⟨#[]⟩ ⟨#[]⟩ 0 0 ⟨#[]⟩), false) else ((Call.mk c2_0 e.1 e.2.1 e.2.2.1 e.2.2.2.1 e.2.2.2.2), true)) (((spec_l38Uses c2_0).size) - 0) ⟨#[]⟩ ⟨#[]⟩ 0 0 ⟨#[]⟩ 0
  | n + 1, c2_0, i => spec_ReadCall_l1 p0 n (bif (decide ((spec_CallName (i : Int)) = (nth p0 0))) then (i : Int) else c2_0) (i + 1)
def spec_ReadCall (p0 : List ByteArray) : Call × Bool := bif decide ((p0.length : Int) = 0) then ((Call.mk 0 ⟨#[]⟩ ⟨#[]⟩ 0 0 ⟨#[]⟩), false) else (spec_ReadCall_l1 p0 (23 - 1) 0 1)
theorem c_spec_ReadCall (p0 : List ByteArray) : CTs 37 [.o (.sl ByteArray instDatByteArray p0)] [Re.st Call _ inferInstance ((spec_ReadCall p0).1), Re.c (.bool ((spec_ReadCall p0).2))] := by
  refine en Tryd.func37 Tryd.ntmps37 fun w hG hgd => ?_
  obtain ⟨hg_p0, _⟩ := hgd
  have hl_p0 : p0.length ≤ 9223372036854775807 := hg_p0.1
  have hM := spec_ReadCall.eq_1 p0
  refine ad 12 ?_
  refine cd (fun h1 => ?_) (fun h1 => ?_)
  ·
    have hM := hM.trans (bt h1)
    refine ad 6 ?_
    have hg2 : Dat.good (Call.mk 0 ⟨#[]⟩ ⟨#[]⟩ 0 0 ⟨#[]⟩ : Call) := ⟨(gi 0), (gs ⟨#[]⟩), (gs ⟨#[]⟩), (gi 0), (gi 0), (gs ⟨#[]⟩)⟩
    exact rz (rs := [.cell 2 28, .tmp 3]) (congrArg (fun x => [Re.st Call _ inferInstance x.1, Re.c (.bool x.2)]) hM)
  ·
    have hM := hM.trans (bf h1)
    refine ad 13 ?_
    refine Run.loopM (ι := Int × Nat) (fun s => spec_ReadCall_l1 p0 (23 - s.2) s.1 s.2) (fun s => ⟨102, 3, [(0, .sl 0 p0.length), (2, .pt 1 0), (4, .pt 2 0), (5, .v (.int .i64 (s.2 : Int)))], [(0, .ros ByteArray instDatByteArray p0), (1, .var [.v (.int .i64 0), .v (.string ⟨#[]⟩), .v (.string ⟨#[]⟩), .v (.int .i64 0), .v (.int .i64 0), .v (.string ⟨#[]⟩)] 28), (2, .var [.v (.int .i64 s.1), .v (.string ⟨#[]⟩), .v (.string ⟨#[]⟩), .v (.int .i64 0), .v (.int .i64 0), .v (.string ⟨#[]⟩)] 28)]⟩) (fun s => s.2 ≤ 23 ∧ I64 s.1) (fun s => 23 - s.2) (0, 1) [0, 1, 2] [2, 1, 0] hM (by exact ⟨by (try dsimp only); first | omega | exact trivial, (gi 0)⟩) su (by decide) ?_
    rintro ⟨c2_0, i⟩ hv hE
    try dsimp only at hE
    obtain ⟨hi, hg_c2_0⟩ := hv
    try dsimp only at hi hg_c2_0
    refine ad 6 ?_
    refine cd (fun h3 => ?_) (fun h3 => ?_)
    ·
      have h3l : i < 23 := by have := of_decide_eq_true h3; omega
      have hM := hE.trans ((congrArg (fun n => spec_ReadCall_l1 p0 n c2_0 i) (show 23 - i = (23 - (i + 1)) + 1 by omega)).trans (spec_ReadCall_l1.eq_2 _ _ _ _))
      refine ad 4 ?_
      refine dr 6 fun _ _ _ _ _ hb => ?_
      refine tk [0, 2] ?_
      have hg4 := good_nth (k := 0) hg_p0 om
      refine tx 3 (dx (xs := p0) 0 om) ?_
      refine tk [4] ?_
      refine on 1 [1, 2, 3] (cl (c_spec_CallName (i : Int)) fok53) ?_
      refine tk [5] ?_
      refine dn hb ?_
      refine Run.mid ⟨102, 3, [(0, .sl 0 p0.length), (2, .pt 1 0), (4, .pt 2 0), (5, .v (.int .i64 (i : Int)))], [(0, .ros ByteArray instDatByteArray p0), (1, .var [.v (.int .i64 0), .v (.string ⟨#[]⟩), .v (.string ⟨#[]⟩), .v (.int .i64 0), .v (.int .i64 0), .v (.string ⟨#[]⟩)] 28), (2, .var [.v (.int .i64 (bif (decide ((spec_CallName (i : Int)) = (nth p0 0))) then (i : Int) else c2_0)), .v (.string ⟨#[]⟩), .v (.string ⟨#[]⟩), .v (.int .i64 0), .v (.int .i64 0), .v (.string ⟨#[]⟩)] 28)]⟩ ?_ ?_
      · refine cd (fun h5 => ?_) (fun h5 => ?_)
        ·
          refine ad 5 ?_
          exact Run.at [0, 1, 2] [1, 2, 3] (by first | exact su | (rw [h5]; exact su)) (by decide)
        ·
          refine ad 1 ?_
          exact Run.at [0, 1, 2] [1, 2, 3] (by first | exact su | (rw [h5]; exact su)) (by decide)
      refine ad 4 ?_
      rw [wrapN (i := i) (by first | omega | exact om)]
      refine ad 2 ?_
      exact Run.again (bif (decide ((spec_CallName (i : Int)) = (nth p0 0))) then (i : Int) else c2_0, (i + 1)) [0, 1, 2] [0, 1, 2] ⟨by exact ⟨by (try dsimp only); first | omega | exact trivial, (bifI (gn i (by omega)) hg_c2_0)⟩, hM⟩ rfl (by show _ - _ < _ - _; (try dsimp only); omega) su (by decide)
    ·
      have h3l : ¬ (i < 23) := by have := of_decide_eq_false h3; omega
      have hM := hE.trans ((congrArg (fun n => spec_ReadCall_l1 p0 n c2_0 i) (show 23 - i = 0 by omega)).trans (spec_ReadCall_l1.eq_1 _ _ _))
      refine ad 5 ?_
      refine op (cl (c_spec_l38Uses c2_0) fok54) ?_
      refine ad 8 ?_
      have hfs := spec_l38Uses_size c2_0
      have hz6 : (spec_l38Uses c2_0).size ≤ 9223372036854775807 := szt
      refine Run.loopkM (ι := Nat × ByteArray × ByteArray × Int × Int × ByteArray × Nat) (κ := ByteArray × ByteArray × Int × Int × ByteArray) (fun k s => spec_ReadCall_l2 p0 c2_0 i k s.1 s.2.1 s.2.2.1 s.2.2.2.1 s.2.2.2.2.1 s.2.2.2.2.2.1 s.2.2.2.2.2.2) (fun s => ⟨102, 3, [(0, .sl 0 p0.length), (2, .pt 1 0), (4, .pt 2 0), (6, .v (.string (spec_l38Uses c2_0))), (7, .v (.int .i64 (s.2.2.2.2.2.2 : Int)))], [(0, .ros ByteArray instDatByteArray p0), (1, .var [.v (.int .i64 0), .v (.string ⟨#[]⟩), .v (.string ⟨#[]⟩), .v (.int .i64 0), .v (.int .i64 0), .v (.string ⟨#[]⟩)] 28), (2, .var [.v (.int .i64 c2_0), .v (.string s.2.1), .v (.string s.2.2.1), .v (.int .i64 s.2.2.2.1), .v (.int .i64 s.2.2.2.2.1), .v (.string s.2.2.2.2.2.1)] 28)]⟩) (fun s => ((spec_l38Uses c2_0).size) - s.2.2.2.2.2.2 ≤ s.1 ∧ s.2.1.size ≤ maxLen ∧ s.2.2.1.size ≤ maxLen ∧ I64 s.2.2.2.1 ∧ I64 s.2.2.2.2.1 ∧ s.2.2.2.2.2.1.size ≤ maxLen) (fun s => s.1) (fun e => ⟨102, 3, [(0, .sl 0 p0.length), (2, .pt 1 0), (4, .pt 2 0)], [(0, .ros ByteArray instDatByteArray p0), (1, .var [.v (.int .i64 0), .v (.string ⟨#[]⟩), .v (.string ⟨#[]⟩), .v (.int .i64 0), .v (.int .i64 0), .v (.string ⟨#[]⟩)] 28), (2, .var [.v (.int .i64 c2_0), .v (.string e.1), .v (.string e.2.1), .v (.int .i64 e.2.2.1), .v (.int .i64 e.2.2.2.1), .v (.string e.2.2.2.2)] 28)]⟩) (fun e => True ∧ e.1.size ≤ maxLen ∧ e.2.1.size ≤ maxLen ∧ I64 e.2.2.1 ∧ I64 e.2.2.2.1 ∧ e.2.2.2.2.size ≤ maxLen) (((spec_l38Uses c2_0).size) - 0, ⟨#[]⟩, ⟨#[]⟩, 0, 0, ⟨#[]⟩, 0) [0, 1, 2] [0, 1, 2] hM (by exact ⟨by (try dsimp only); first | omega | exact trivial, (gs ⟨#[]⟩), (gs ⟨#[]⟩), (gi 0), (gi 0), (gs ⟨#[]⟩)⟩) su (by decide) ?_ ?_
      ·
        rintro ⟨ec2_1_2, ec2_2_2, ec2_3_2, ec2_4_2, ec2_5_2⟩ hv hM
        try dsimp only at hM hv ⊢
        obtain ⟨hk0, hg_ec2_1_2, hg_ec2_2_2, hg_ec2_3_2, hg_ec2_4_2, hg_ec2_5_2⟩ := hv
        refine ad 3 ?_
        have hg7 : Dat.good (Call.mk c2_0 ec2_1_2 ec2_2_2 ec2_3_2 ec2_4_2 ec2_5_2 : Call) := ⟨hg_c2_0, hg_ec2_1_2, hg_ec2_2_2, hg_ec2_3_2, hg_ec2_4_2, hg_ec2_5_2⟩
        have hs8 := spec_CallLine_size (p0 := (Call.mk c2_0 ec2_1_2 ec2_2_2 ec2_3_2 ec2_4_2 ec2_5_2)) (by assumption)
        refine op (cl (c_spec_CallLine (Call.mk c2_0 ec2_1_2 ec2_2_2 ec2_3_2 ec2_4_2 ec2_5_2)) fok16) ?_
        refine og (clg (c_spec_PartsOf (spec_CallLine (Call.mk c2_0 ec2_1_2 ec2_2_2 ec2_3_2 ec2_4_2 ec2_5_2))) fok78) fun hgq => ?_
        obtain ⟨hg9, _⟩ := hgq
        refine ad 12 ?_
        refine ag 2 ?_
        refine op (cG (hct := fun hB => (c_spec_l03Same ((spec_PartsOf (spec_CallLine (Call.mk c2_0 ec2_1_2 ec2_2_2 ec2_3_2 ec2_4_2 ec2_5_2))).1) p0)) (hfn := fok79)) ?_
        refine ag 2 ?_
        refine ad 1 ?_
        refine cd (fun h10 => ?_) (fun h10 => ?_)
        ·
          have hM := hM.trans (bt h10)
          refine ad 6 ?_
          have hg11 : Dat.good (Call.mk 0 ⟨#[]⟩ ⟨#[]⟩ 0 0 ⟨#[]⟩ : Call) := ⟨(gi 0), (gs ⟨#[]⟩), (gs ⟨#[]⟩), (gi 0), (gi 0), (gs ⟨#[]⟩)⟩
          exact rz (rs := [.cell 2 28, .tmp 3]) (congrArg (fun x => [Re.st Call _ inferInstance x.1, Re.c (.bool x.2)]) hM)
        ·
          have hM := hM.trans (bf h10)
          refine ad 7 ?_
          exact rz (rs := [.cell 2 28, .tmp 3]) (congrArg (fun x => [Re.st Call _ inferInstance x.1, Re.c (.bool x.2)]) hM)
      ·
        intro k_2 hk_2
        rintro ⟨fu_2, c2_1_2, c2_2_2, c2_3_2, c2_4_2, c2_5_2, i_2⟩ hv_2 hE
        try dsimp only at hE
        obtain ⟨hi_2, hg_c2_1_2, hg_c2_2_2, hg_c2_3_2, hg_c2_4_2, hg_c2_5_2⟩ := hv_2
        try dsimp only at hi_2 hg_c2_1_2 hg_c2_2_2 hg_c2_3_2 hg_c2_4_2 hg_c2_5_2
        refine ad 8 ?_
        refine ag 6 ?_
        refine ad 1 ?_
        refine cd (fun h12 => ?_) (fun h12 => ?_)
        ·
          obtain ⟨n_2, rfl⟩ : ∃ n, fu_2 = n + 1 := ⟨fu_2 - 1, by have := h12; have := om (p := 0 < ((spec_l38Uses c2_0).size) - i_2); omega⟩
          have hM := hE.trans ((spec_ReadCall_l2.eq_2 _ _ _ _ _ _ _ _ _ _ _).trans (bt h12))
          have hl1 := of_decide_eq_true (Bool.and_eq_true_iff.1 h12).1
          have hlt := lt_wrap (Bool.and_eq_true_iff.1 h12).2 (by omega)
          refine ad 7 ?_
          refine op (sx (s := (spec_l38Uses c2_0)) i_2 om) ?_
          refine ad 7 ?_
          refine Run.mid ⟨102, 3, [(0, .sl 0 p0.length), (2, .pt 1 0), (4, .pt 2 0), (6, .v (.string (spec_l38Uses c2_0))), (7, .v (.int .i64 (i_2 : Int)))], [(0, .ros ByteArray instDatByteArray p0), (1, .var [.v (.int .i64 0), .v (.string ⟨#[]⟩), .v (.string ⟨#[]⟩), .v (.int .i64 0), .v (.int .i64 0), .v (.string ⟨#[]⟩)] 28), (2, .var [.v (.int .i64 c2_0), .v (.string (bif (decide (((byteAt (spec_l38Uses c2_0) i_2).toNat : Int) = 110)) then (nth p0 (i_2 + 1)) else c2_1_2)), .v (.string (bif (decide (((byteAt (spec_l38Uses c2_0) i_2).toNat : Int) = 110)) then c2_2_2 else (bif (decide (((byteAt (spec_l38Uses c2_0) i_2).toNat : Int) = 116)) then (nth p0 (i_2 + 1)) else c2_2_2))), .v (.int .i64 (bif (decide (((byteAt (spec_l38Uses c2_0) i_2).toNat : Int) = 110)) then c2_3_2 else (bif (decide (((byteAt (spec_l38Uses c2_0) i_2).toNat : Int) = 116)) then c2_3_2 else (bif (decide (((byteAt (spec_l38Uses c2_0) i_2).toNat : Int) = 97)) then (spec_l38Num p0 ((i_2 + 1 : Nat) : Int)) else c2_3_2)))), .v (.int .i64 (bif (decide (((byteAt (spec_l38Uses c2_0) i_2).toNat : Int) = 110)) then c2_4_2 else (bif (decide (((byteAt (spec_l38Uses c2_0) i_2).toNat : Int) = 116)) then c2_4_2 else (bif (decide (((byteAt (spec_l38Uses c2_0) i_2).toNat : Int) = 97)) then c2_4_2 else (bif (decide (((byteAt (spec_l38Uses c2_0) i_2).toNat : Int) = 98)) then (spec_l38Num p0 ((i_2 + 1 : Nat) : Int)) else c2_4_2))))), .v (.string (bif (decide (((byteAt (spec_l38Uses c2_0) i_2).toNat : Int) = 110)) then c2_5_2 else (bif (decide (((byteAt (spec_l38Uses c2_0) i_2).toNat : Int) = 116)) then c2_5_2 else (bif (decide (((byteAt (spec_l38Uses c2_0) i_2).toNat : Int) = 97)) then c2_5_2 else (bif (decide (((byteAt (spec_l38Uses c2_0) i_2).toNat : Int) = 98)) then c2_5_2 else ((spec_Unhex (nth p0 (i_2 + 1))).1))))))] 28)]⟩ ?_ ?_
          · refine cd (fun h13 => ?_) (fun h13 => ?_)
            ·
              refine ad 4 ?_
              rw [wrapN (i := i_2) (by first | omega | exact om)]
              have hg15 := good_nth (k := (i_2 + 1)) hg_p0 om
              refine op (ix (xs := p0) (i_2 + 1) om) ?_
              refine ad 4 ?_
              exact Run.at [0, 1, 2] [1, 2, 3] (by first | exact su | (rw [h13]; exact su)) (by decide)
            ·
              refine ad 5 ?_
              refine Run.mid ⟨102, 3, [(0, .sl 0 p0.length), (2, .pt 1 0), (4, .pt 2 0), (6, .v (.string (spec_l38Uses c2_0))), (7, .v (.int .i64 (i_2 : Int)))], [(0, .ros ByteArray instDatByteArray p0), (1, .var [.v (.int .i64 0), .v (.string ⟨#[]⟩), .v (.string ⟨#[]⟩), .v (.int .i64 0), .v (.int .i64 0), .v (.string ⟨#[]⟩)] 28), (2, .var [.v (.int .i64 c2_0), .v (.string c2_1_2), .v (.string (bif (decide (((byteAt (spec_l38Uses c2_0) i_2).toNat : Int) = 116)) then (nth p0 (i_2 + 1)) else c2_2_2)), .v (.int .i64 (bif (decide (((byteAt (spec_l38Uses c2_0) i_2).toNat : Int) = 116)) then c2_3_2 else (bif (decide (((byteAt (spec_l38Uses c2_0) i_2).toNat : Int) = 97)) then (spec_l38Num p0 ((i_2 + 1 : Nat) : Int)) else c2_3_2))), .v (.int .i64 (bif (decide (((byteAt (spec_l38Uses c2_0) i_2).toNat : Int) = 116)) then c2_4_2 else (bif (decide (((byteAt (spec_l38Uses c2_0) i_2).toNat : Int) = 97)) then c2_4_2 else (bif (decide (((byteAt (spec_l38Uses c2_0) i_2).toNat : Int) = 98)) then (spec_l38Num p0 ((i_2 + 1 : Nat) : Int)) else c2_4_2)))), .v (.string (bif (decide (((byteAt (spec_l38Uses c2_0) i_2).toNat : Int) = 116)) then c2_5_2 else (bif (decide (((byteAt (spec_l38Uses c2_0) i_2).toNat : Int) = 97)) then c2_5_2 else (bif (decide (((byteAt (spec_l38Uses c2_0) i_2).toNat : Int) = 98)) then c2_5_2 else ((spec_Unhex (nth p0 (i_2 + 1))).1)))))] 28)]⟩ ?_ ?_
              · refine cd (fun h16 => ?_) (fun h16 => ?_)
                ·
                  refine ad 4 ?_
                  rw [wrapN (i := i_2) (by first | omega | exact om)]
                  have hg18 := good_nth (k := (i_2 + 1)) hg_p0 om
                  refine op (ix (xs := p0) (i_2 + 1) om) ?_
                  refine ad 4 ?_
                  exact Run.at [0, 1, 2] [1, 2, 3] (by first | exact su | (rw [h16]; exact su)) (by decide)
                ·
                  refine ad 5 ?_
                  refine Run.mid ⟨102, 3, [(0, .sl 0 p0.length), (2, .pt 1 0), (4, .pt 2 0), (6, .v (.string (spec_l38Uses c2_0))), (7, .v (.int .i64 (i_2 : Int)))], [(0, .ros ByteArray instDatByteArray p0), (1, .var [.v (.int .i64 0), .v (.string ⟨#[]⟩), .v (.string ⟨#[]⟩), .v (.int .i64 0), .v (.int .i64 0), .v (.string ⟨#[]⟩)] 28), (2, .var [.v (.int .i64 c2_0), .v (.string c2_1_2), .v (.string c2_2_2), .v (.int .i64 (bif (decide (((byteAt (spec_l38Uses c2_0) i_2).toNat : Int) = 97)) then (spec_l38Num p0 ((i_2 + 1 : Nat) : Int)) else c2_3_2)), .v (.int .i64 (bif (decide (((byteAt (spec_l38Uses c2_0) i_2).toNat : Int) = 97)) then c2_4_2 else (bif (decide (((byteAt (spec_l38Uses c2_0) i_2).toNat : Int) = 98)) then (spec_l38Num p0 ((i_2 + 1 : Nat) : Int)) else c2_4_2))), .v (.string (bif (decide (((byteAt (spec_l38Uses c2_0) i_2).toNat : Int) = 97)) then c2_5_2 else (bif (decide (((byteAt (spec_l38Uses c2_0) i_2).toNat : Int) = 98)) then c2_5_2 else ((spec_Unhex (nth p0 (i_2 + 1))).1))))] 28)]⟩ ?_ ?_
                  · refine cd (fun h19 => ?_) (fun h19 => ?_)
                    ·
                      refine ad 4 ?_
                      rw [wrapN (i := i_2) (by first | omega | exact om)]
                      refine op (cl (c_spec_l38Num p0 ((i_2 + 1 : Nat) : Int) (by omega)) fok76) ?_
                      refine ad 3 ?_
                      exact Run.at [0, 1, 2] [0, 1, 2] (by first | exact su | (rw [h19]; exact su)) (by decide)
                    ·
                      refine ad 5 ?_
                      refine Run.mid ⟨102, 3, [(0, .sl 0 p0.length), (2, .pt 1 0), (4, .pt 2 0), (6, .v (.string (spec_l38Uses c2_0))), (7, .v (.int .i64 (i_2 : Int)))], [(0, .ros ByteArray instDatByteArray p0), (1, .var [.v (.int .i64 0), .v (.string ⟨#[]⟩), .v (.string ⟨#[]⟩), .v (.int .i64 0), .v (.int .i64 0), .v (.string ⟨#[]⟩)] 28), (2, .var [.v (.int .i64 c2_0), .v (.string c2_1_2), .v (.string c2_2_2), .v (.int .i64 c2_3_2), .v (.int .i64 (bif (decide (((byteAt (spec_l38Uses c2_0) i_2).toNat : Int) = 98)) then (spec_l38Num p0 ((i_2 + 1 : Nat) : Int)) else c2_4_2)), .v (.string (bif (decide (((byteAt (spec_l38Uses c2_0) i_2).toNat : Int) = 98)) then c2_5_2 else ((spec_Unhex (nth p0 (i_2 + 1))).1)))] 28)]⟩ ?_ ?_
                      · refine cd (fun h20 => ?_) (fun h20 => ?_)
                        ·
                          refine ad 4 ?_
                          rw [wrapN (i := i_2) (by first | omega | exact om)]
                          refine op (cl (c_spec_l38Num p0 ((i_2 + 1 : Nat) : Int) (by omega)) fok76) ?_
                          refine ad 3 ?_
                          exact Run.at [0, 1, 2] [0, 1, 2] (by first | exact su | (rw [h20]; exact su)) (by decide)
                        ·
                          refine ad 4 ?_
                          rw [wrapN (i := i_2) (by first | omega | exact om)]
                          have hg22 := good_nth (k := (i_2 + 1)) hg_p0 om
                          refine op (ix (xs := p0) (i_2 + 1) om) ?_
                          refine ad 1 ?_
                          refine op (cl (c_spec_Unhex (nth p0 (i_2 + 1))) fok77) ?_
                          refine ad 6 ?_
                          exact Run.at [0, 1, 2] [1, 2, 3] (by first | exact su | (rw [h20]; exact su)) (by decide)
                      exact Run.at [0, 1, 2] [0, 1, 2] (by first | exact su | (rw [h19]; exact su)) (by decide)
                  exact Run.at [0, 1, 2] [0, 1, 2] (by first | exact su | (rw [h16]; exact su)) (by decide)
              exact Run.at [0, 1, 2] [0, 1, 2] (by first | exact su | (rw [h13]; exact su)) (by decide)
          refine ad 5 ?_
          rw [wrapN (i := i_2) (by first | omega | exact om)]
          refine ad 2 ?_
          exact Run.again (n_2, bif (decide (((byteAt (spec_l38Uses c2_0) i_2).toNat : Int) = 110)) then (nth p0 (i_2 + 1)) else c2_1_2, bif (decide (((byteAt (spec_l38Uses c2_0) i_2).toNat : Int) = 110)) then c2_2_2 else (bif (decide (((byteAt (spec_l38Uses c2_0) i_2).toNat : Int) = 116)) then (nth p0 (i_2 + 1)) else c2_2_2), bif (decide (((byteAt (spec_l38Uses c2_0) i_2).toNat : Int) = 110)) then c2_3_2 else (bif (decide (((byteAt (spec_l38Uses c2_0) i_2).toNat : Int) = 116)) then c2_3_2 else (bif (decide (((byteAt (spec_l38Uses c2_0) i_2).toNat : Int) = 97)) then (spec_l38Num p0 ((i_2 + 1 : Nat) : Int)) else c2_3_2)), bif (decide (((byteAt (spec_l38Uses c2_0) i_2).toNat : Int) = 110)) then c2_4_2 else (bif (decide (((byteAt (spec_l38Uses c2_0) i_2).toNat : Int) = 116)) then c2_4_2 else (bif (decide (((byteAt (spec_l38Uses c2_0) i_2).toNat : Int) = 97)) then c2_4_2 else (bif (decide (((byteAt (spec_l38Uses c2_0) i_2).toNat : Int) = 98)) then (spec_l38Num p0 ((i_2 + 1 : Nat) : Int)) else c2_4_2))), bif (decide (((byteAt (spec_l38Uses c2_0) i_2).toNat : Int) = 110)) then c2_5_2 else (bif (decide (((byteAt (spec_l38Uses c2_0) i_2).toNat : Int) = 116)) then c2_5_2 else (bif (decide (((byteAt (spec_l38Uses c2_0) i_2).toNat : Int) = 97)) then c2_5_2 else (bif (decide (((byteAt (spec_l38Uses c2_0) i_2).toNat : Int) = 98)) then c2_5_2 else ((spec_Unhex (nth p0 (i_2 + 1))).1)))), (i_2 + 1)) [0, 1, 2] [0, 1, 2] ⟨by exact ⟨by (try dsimp only); first | omega | exact trivial, (bifS (good_nths hg_p0 _) hg_c2_1_2), (bifS hg_c2_2_2 (bifS (good_nths hg_p0 _) hg_c2_2_2)), (bifI hg_c2_3_2 (bifI hg_c2_3_2 (bifI (spec_l38Num_I64 _ _) hg_c2_3_2))), (bifI hg_c2_4_2 (bifI hg_c2_4_2 (bifI hg_c2_4_2 (bifI (spec_l38Num_I64 _ _) hg_c2_4_2)))), (bifS hg_c2_5_2 (bifS hg_c2_5_2 (bifS hg_c2_5_2 (bifS hg_c2_5_2 (spec_Unhex_good _)))))⟩, hM⟩ rfl (by exact Nat.lt_succ_self _) su (by decide)
        ·
          have hM := hE.trans (spec_ReadCall_l2_x p0 c2_0 i k_2 fu_2 c2_1_2 c2_2_2 c2_3_2 c2_4_2 c2_5_2 i_2 h12)
          refine ad 1 ?_
          exact Run.exitkM hk_2 (c2_1_2, c2_2_2, c2_3_2, c2_4_2, c2_5_2) [0, 1, 2] [0, 1, 2] hM (by exact ⟨by trivial, hg_c2_1_2, hg_c2_2_2, hg_c2_3_2, hg_c2_4_2, hg_c2_5_2⟩) su (by decide)

/- F36 loop.example/g00974/laws.szStringS -/
def laws_szStringS_l1 (p0 : List ByteArray) (p1 : Int) : Nat → Int → Nat → Int
  | 0, v1, i => v1
  | n + 1, v1, i => bif decide ((IntKind.i64.wrap (v1 - ((nth p0 i).size : Int))) < 0) then (-1) else (laws_szStringS_l1 p0 p1 n (IntKind.i64.wrap (v1 - ((nth p0 i).size : Int))) (i + 1))
def laws_szStringS (p0 : List ByteArray) (p1 : Int) : Int := bif decide ((IntKind.i64.wrap (p1 - (p0.length : Int))) < 0) then (-1) else (laws_szStringS_l1 p0 p1 (p0.length - 0) (IntKind.i64.wrap (p1 - (p0.length : Int))) 0)
theorem c_laws_szStringS (p0 : List ByteArray) (p1 : Int) : CTs 36 [.o (.sl ByteArray instDatByteArray p0), .o (.c (.int .i64 p1))] [Re.c (.int .i64 (laws_szStringS p0 p1))] := by
  refine en Tryd.func36 Tryd.ntmps36 fun w hG hgd => ?_
  obtain ⟨hg_p0, _⟩ := hgd
  have hl_p0 : p0.length ≤ 9223372036854775807 := hg_p0.1
  have hM := laws_szStringS.eq_1 p0 p1
  refine ad 18 ?_
  refine cd (fun h1 => ?_) (fun h1 => ?_)
  ·
    have hM := hM.trans (bt h1)
    refine ad 4 ?_
    exact rz (rs := [.tmp 4]) (congrArg (fun x => [Re.c (.int .i64 x)]) hM)
  ·
    have hM := hM.trans (bf h1)
    refine ad 7 ?_
    refine Run.loopM (ι := Int × Nat) (fun s => laws_szStringS_l1 p0 p1 (p0.length - s.2) s.1 s.2) (fun s => ⟨28, 1, [(0, .sl 0 p0.length), (1, .v (.int .i64 s.1)), (5, .v (.int .i64 (s.2 : Int)))], [(0, .ros ByteArray instDatByteArray p0)]⟩) (fun s => s.2 ≤ p0.length) (fun s => p0.length - s.2) (IntKind.i64.wrap (p1 - (p0.length : Int)), 0) [0] [0] hM (by first | exact ⟨by omega, by simp⟩ | omega | simp | (dsimp only; omega)) su (by decide) ?_
    rintro ⟨v1, i⟩ hv hE
    try dsimp only at hE
    have hi := hv
    try dsimp only at hi
    refine ad 8 ?_
    refine cd (fun h2 => ?_) (fun h2 => ?_)
    ·
      have h2l : i < p0.length := by have := of_decide_eq_true h2; omega
      have hM := hE.trans ((congrArg (fun n => laws_szStringS_l1 p0 p1 n v1 i) (show p0.length - i = (p0.length - (i + 1)) + 1 by omega)).trans (laws_szStringS_l1.eq_2 _ _ _ _ _))
      refine ad 8 ?_
      have hg4 := good_nth (k := i) hg_p0 om
      refine op (ix (xs := p0) i om) ?_
      refine ad 10 ?_
      refine cd (fun h5 => ?_) (fun h5 => ?_)
      ·
        have hM := hM.trans (bt h5)
        refine ad 4 ?_
        exact rz (rs := [.tmp 4]) (congrArg (fun x => [Re.c (.int .i64 x)]) hM)
      ·
        have hM := hM.trans (bf h5)
        refine ad 5 ?_
        rw [wrapN (i := i) (by first | omega | exact om)]
        refine ad 2 ?_
        exact Run.again (IntKind.i64.wrap (v1 - ((nth p0 i).size : Int)), (i + 1)) [0] [1] ⟨by first | omega | exact trivial | (dsimp only; omega) | (refine ⟨by omega, ?_⟩; simp_all; try omega), hM⟩ rfl (by show _ - _ < _ - _; (try dsimp only); omega) su (by decide)
    ·
      have h2l : ¬ (i < p0.length) := by have := of_decide_eq_false h2; omega
      have hM := hE.trans ((congrArg (fun n => laws_szStringS_l1 p0 p1 n v1 i) (show p0.length - i = 0 by omega)).trans (laws_szStringS_l1.eq_1 _ _ _ _))
      refine ad 6 ?_
      exact rz (rs := [.tmp 4]) (congrArg (fun x => [Re.c (.int .i64 x)]) hM)
theorem laws_szStringS_l1_all {p0 : List ByteArray} (p1 : Int) (hg : Dat.good p0) : ∀ n (v : Int) i, n = p0.length - i → 0 ≤ v → v ≤ 1048576 → ¬ (laws_szStringS_l1 p0 p1 n v i < 0) → ∀ k, i ≤ k → k < p0.length → (nth p0 k).size ≤ 1048576 := by
  intro n
  induction n with
  | zero => intro v i h _ _ _ k h1 h2; omega
  | succ n ih =>
    intro v i h h0 h1 hs k hk1 hk2
    have hz := good_nths hg i
    unfold maxLen at hz
    rw [laws_szStringS_l1, IntWalk.i64_in _ (by omega)] at hs
    by_cases hc : v - ((nth p0 i).size : Int) < 0
    · rw [decide_eq_true hc] at hs
      exact absurd (show ((-1 : Int)) < 0 by decide) hs
    · rw [decide_eq_false hc] at hs
      rcases Nat.lt_or_ge i k with hik | hik
      · exact ih _ (i + 1) (by omega) (by omega) (by omega) hs k hik hk2
      · obtain rfl : i = k := by omega
        omega
theorem laws_szStringS_small {p0 : List ByteArray} (hg : Dat.good p0) (h : decide ((laws_szStringS p0 1048576) < 0) = false) : p0.length ≤ 1048576 ∧ ∀ k, (nth p0 k).size ≤ 1048576 := by
  have hs := of_decide_eq_false h
  have hl := hg.1
  unfold laws_szStringS at hs
  rw [IntWalk.i64_in _ (by omega)] at hs
  by_cases hc : 1048576 - (p0.length : Int) < 0
  · rw [decide_eq_true hc] at hs
    exact absurd (show ((-1 : Int)) < 0 by decide) hs
  · rw [decide_eq_false hc] at hs
    refine ⟨by omega, fun k => ?_⟩
    rcases Nat.lt_or_ge k p0.length with hk | hk
    · exact laws_szStringS_l1_all 1048576 hg _ _ 0 rfl (by omega) (by omega) hs k (Nat.zero_le _) hk
    · unfold nth
      rw [List.getD_eq_getElem?_getD, List.getElem?_eq_none hk]
      exact Nat.zero_le _

/- F38 loop.example/g00974/laws.toStringS -/
def laws_toStringS_l1 (p0 : List ByteArray) : Nat → (List ByteArray) → Nat → (List ByteArray)
  | 0, w1, i => w1
  | n + 1, w1, i => laws_toStringS_l1 p0 n (w1.set i (nth p0 i)) (i + 1)
def laws_toStringS (p0 : List ByteArray) : (List ByteArray) := laws_toStringS_l1 p0 (p0.length - 0) (List.replicate p0.length (⟨#[]⟩ : ByteArray)) 0
theorem c_laws_toStringS (p0 : List ByteArray) (hs : p0.length ≤ 1048576) : CTs 38 [.o (.sl ByteArray instDatByteArray p0)] [Re.sl ByteArray instDatByteArray (laws_toStringS p0)] := by
  refine en Tryd.func38 Tryd.ntmps38 fun w hG hgd => ?_
  obtain ⟨hg_p0, _⟩ := hgd
  have hl_p0 : p0.length ≤ 9223372036854775807 := hg_p0.1
  have hM := laws_toStringS.eq_1 p0
  refine ad 8 ?_
  refine op (ma p0.length (⟨#[]⟩ : ByteArray)) ?_
  refine ad 8 ?_
  refine Run.loopM (ι := (List ByteArray) × Nat) (fun s => laws_toStringS_l1 p0 (p0.length - s.2) s.1 s.2) (fun s => ⟨22, 2, [(0, .sl 0 p0.length), (3, .sl 1 s.1.length), (4, .v (.int .i64 (s.2 : Int)))], [(0, .ros ByteArray instDatByteArray p0), (1, .own ByteArray instDatByteArray s.1)]⟩) (fun s => s.2 ≤ p0.length ∧ s.1.length = p0.length) (fun s => p0.length - s.2) ((List.replicate p0.length (⟨#[]⟩ : ByteArray)), 0) [0, 1] [1, 0] hM (by first | exact ⟨by omega, by simp⟩ | omega | simp | (dsimp only; omega)) su (by decide) ?_
  rintro ⟨w1, i⟩ hv hE
  try dsimp only at hE
  obtain ⟨hi, hv0⟩ := hv
  try dsimp only at hi hv0
  refine ad 8 ?_
  refine cd (fun h1 => ?_) (fun h1 => ?_)
  ·
    have h1l : i < p0.length := by have := of_decide_eq_true h1; omega
    have hM := hE.trans ((congrArg (fun n => laws_toStringS_l1 p0 n w1 i) (show p0.length - i = (p0.length - (i + 1)) + 1 by omega)).trans (laws_toStringS_l1.eq_2 _ _ _ _))
    refine ad 8 ?_
    have hg3 := good_nth (k := i) hg_p0 om
    refine op (ix (xs := p0) i om) ?_
    refine ad 1 ?_
    refine op (oi (xs := w1) i om) ?_
    refine op (se (xs := w1) i (nth p0 i) hg3 om) ?_
    refine ad 5 ?_
    rw [wrapN (i := i) (by first | omega | exact om)]
    refine ad 2 ?_
    exact Run.again ((w1.set i (nth p0 i)), (i + 1)) [0, 3] [2, 0] ⟨by first | omega | exact trivial | (dsimp only; omega) | (refine ⟨by omega, ?_⟩; simp_all; try omega), hM⟩ rfl (by show _ - _ < _ - _; (try dsimp only); omega) su (by decide)
  ·
    have h1l : ¬ (i < p0.length) := by have := of_decide_eq_false h1; omega
    have hM := hE.trans ((congrArg (fun n => laws_toStringS_l1 p0 n w1 i) (show p0.length - i = 0 by omega)).trans (laws_toStringS_l1.eq_1 _ _ _))
    refine ad 6 ?_
    exact rz (rs := [.tmp 2]) (congrArg (fun x => [Re.sl ByteArray instDatByteArray x]) hM)
theorem laws_toStringS_l1_id (p0 : List ByteArray) : ∀ n w i, n = p0.length - i → w.length = p0.length → (∀ j, j < i → w[j]? = p0[j]?) → laws_toStringS_l1 p0 n w i = p0 := by
  intro n
  induction n with
  | zero =>
    intro w i h hl hj
    show w = p0
    apply List.ext_getElem?
    intro j
    rcases Nat.lt_or_ge j i with h1 | h1
    · exact hj j h1
    · rw [List.getElem?_eq_none (by omega), List.getElem?_eq_none (by omega)]
  | succ n ih =>
    intro w i h hl hj
    rw [laws_toStringS_l1]
    refine ih _ (i + 1) (by omega) (by rw [List.length_set]; exact hl) fun j hji => ?_
    rcases Nat.lt_or_ge j i with h1 | h1
    · rw [List.getElem?_set_ne (by omega)]
      exact hj j h1
    · obtain rfl : j = i := by omega
      rw [List.getElem?_set_self (by omega)]
      unfold nth
      rw [List.getD_eq_getElem?_getD, List.getElem?_eq_getElem (by omega : j < p0.length)]
      rfl
theorem laws_toStringS_id (p0 : List ByteArray) : laws_toStringS p0 = p0 := laws_toStringS_l1_id p0 _ _ 0 rfl (by rw [List.length_replicate]) fun j hj => by omega

/- F26 loop.example/g00974/laws.eqStringS -/
def laws_eqStringS_l1 (p0 : List ByteArray) (p1 : List ByteArray) : Nat → Nat → Bool
  | 0, i => true
  | n + 1, i => bif !decide ((nth p0 i) = (nth p1 i)) then false else (laws_eqStringS_l1 p0 p1 n (i + 1))
def laws_eqStringS (p0 : List ByteArray) (p1 : List ByteArray) : Bool := bif !decide ((p0.length : Int) = (p1.length : Int)) then false else (laws_eqStringS_l1 p0 p1 (p0.length - 0) 0)
theorem c_laws_eqStringS (p0 : List ByteArray) (p1 : List ByteArray) : CTs 26 [.o (.sl ByteArray instDatByteArray p0), .o (.sl ByteArray instDatByteArray p1)] [Re.c (.bool (laws_eqStringS p0 p1))] := by
  refine en Tryd.func26 Tryd.ntmps26 fun w hG hgd => ?_
  obtain ⟨hg_p0, hg_p1, _⟩ := hgd
  have hl_p0 : p0.length ≤ 9223372036854775807 := hg_p0.1
  have hl_p1 : p1.length ≤ 9223372036854775807 := hg_p1.1
  have hM := laws_eqStringS.eq_1 p0 p1
  refine ad 13 ?_
  refine cd (fun h1 => ?_) (fun h1 => ?_)
  ·
    have hM := hM.trans (bt h1)
    refine ad 4 ?_
    exact rz (rs := [.tmp 4]) (congrArg (fun x => [Re.c (.bool x)]) hM)
  ·
    have hM := hM.trans (bf h1)
    refine ad 7 ?_
    refine Run.loopM (ι := Nat) (fun s => laws_eqStringS_l1 p0 p1 (p0.length - s) s) (fun s => ⟨26, 2, [(0, .sl 0 p0.length), (1, .sl 1 p1.length), (5, .v (.int .i64 (s : Int)))], [(0, .ros ByteArray instDatByteArray p0), (1, .ros ByteArray instDatByteArray p1)]⟩) (fun s => s ≤ p0.length) (fun s => p0.length - s) 0 [0, 1] [0, 1] hM (by first | exact ⟨by omega, by simp⟩ | omega | simp | (dsimp only; omega)) su (by decide) ?_
    rintro i hv hE
    try dsimp only at hE
    have hi := hv
    try dsimp only at hi
    refine ad 8 ?_
    refine cd (fun h2 => ?_) (fun h2 => ?_)
    ·
      have h2l : i < p0.length := by have := of_decide_eq_true h2; omega
      have hM := hE.trans ((congrArg (fun n => laws_eqStringS_l1 p0 p1 n i) (show p0.length - i = (p0.length - (i + 1)) + 1 by omega)).trans (laws_eqStringS_l1.eq_2 _ _ _ _))
      refine ad 4 ?_
      refine dr 9 fun _ _ _ _ _ hb => ?_
      refine tk [0, 1] ?_
      have hg3 := good_nth (k := i) hg_p0 om
      refine tx 2 (dx (xs := p0) i om) ?_
      refine tk [3, 4, 5] ?_
      have hg4 := good_nth (k := i) hg_p1 om
      refine tx 6 (dx (xs := p1) i om) ?_
      refine tk [7, 8] ?_
      refine dn hb ?_
      refine cd (fun h5 => ?_) (fun h5 => ?_)
      ·
        have hM := hM.trans (bt h5)
        refine ad 4 ?_
        exact rz (rs := [.tmp 4]) (congrArg (fun x => [Re.c (.bool x)]) hM)
      ·
        have hM := hM.trans (bf h5)
        refine ad 5 ?_
        rw [wrapN (i := i) (by first | omega | exact om)]
        refine ad 2 ?_
        exact Run.again (i + 1) [0, 1] [2, 3] ⟨by first | omega | exact trivial | (dsimp only; omega) | (refine ⟨by omega, ?_⟩; simp_all; try omega), hM⟩ rfl (by show _ - _ < _ - _; (try dsimp only); omega) su (by decide)
    ·
      have h2l : ¬ (i < p0.length) := by have := of_decide_eq_false h2; omega
      have hM := hE.trans ((congrArg (fun n => laws_eqStringS_l1 p0 p1 n i) (show p0.length - i = 0 by omega)).trans (laws_eqStringS_l1.eq_1 _ _ _))
      refine ad 5 ?_
      exact rz (rs := [.tmp 4]) (congrArg (fun x => [Re.c (.bool x)]) hM)

/- F39 loop.example/g00974/laws.eqCall -/
def laws_eqCall (p0 : Call) (p1 : Call) : Bool := bif !decide (p0.Kind = p1.Kind) then false else (bif !decide (p0.Name = p1.Name) then false else (bif !decide (p0.To = p1.To) then false else (bif !decide (p0.A = p1.A) then false else (bif !decide (p0.B = p1.B) then false else (bif !decide (p0.Text = p1.Text) then false else true)))))
theorem c_laws_eqCall (p0 : Call) (p1 : Call) : CTs 39 [.o (.st Call _ inferInstance p0), .o (.st Call _ inferInstance p1)] [Re.c (.bool (laws_eqCall p0 p1))] := by
  refine en Tryd.func39 Tryd.ntmps39 fun w hG hgd => ?_
  obtain ⟨hg_p0, hg_p1, _⟩ := hgd
  have hM := laws_eqCall.eq_1 p0 p1
  refine ad 15 ?_
  refine cd (fun h1 => ?_) (fun h1 => ?_)
  ·
    have hM := hM.trans (bt h1)
    refine ad 4 ?_
    exact rz (rs := [.tmp 4]) (congrArg (fun x => [Re.c (.bool x)]) hM)
  ·
    have hM := hM.trans (bf h1)
    refine ad 10 ?_
    refine cd (fun h2 => ?_) (fun h2 => ?_)
    ·
      have hM := hM.trans (bt h2)
      refine ad 4 ?_
      exact rz (rs := [.tmp 4]) (congrArg (fun x => [Re.c (.bool x)]) hM)
    ·
      have hM := hM.trans (bf h2)
      refine ad 10 ?_
      refine cd (fun h3 => ?_) (fun h3 => ?_)
      ·
        have hM := hM.trans (bt h3)
        refine ad 4 ?_
        exact rz (rs := [.tmp 4]) (congrArg (fun x => [Re.c (.bool x)]) hM)
      ·
        have hM := hM.trans (bf h3)
        refine ad 10 ?_
        refine cd (fun h4 => ?_) (fun h4 => ?_)
        ·
          have hM := hM.trans (bt h4)
          refine ad 4 ?_
          exact rz (rs := [.tmp 4]) (congrArg (fun x => [Re.c (.bool x)]) hM)
        ·
          have hM := hM.trans (bf h4)
          refine ad 10 ?_
          refine cd (fun h5 => ?_) (fun h5 => ?_)
          ·
            have hM := hM.trans (bt h5)
            refine ad 4 ?_
            exact rz (rs := [.tmp 4]) (congrArg (fun x => [Re.c (.bool x)]) hM)
          ·
            have hM := hM.trans (bf h5)
            refine ad 10 ?_
            refine cd (fun h6 => ?_) (fun h6 => ?_)
            ·
              have hM := hM.trans (bt h6)
              refine ad 4 ?_
              exact rz (rs := [.tmp 4]) (congrArg (fun x => [Re.c (.bool x)]) hM)
            ·
              have hM := hM.trans (bf h6)
              refine ad 5 ?_
              exact rz (rs := [.tmp 4]) (congrArg (fun x => [Re.c (.bool x)]) hM)

/- F8 loop.example/g00974/laws.FnExactReadCall -/
def laws_FnExactReadCall (p0 : List ByteArray) : Bool := bif decide ((laws_szStringS p0 1048576) < 0) then true else (bif (!(laws_eqCall ((impl_ReadCall (laws_toStringS p0)).1) ((spec_ReadCall (laws_toStringS p0)).1))) || (!decide (((impl_ReadCall (laws_toStringS p0)).2) = ((spec_ReadCall (laws_toStringS p0)).2))) then false else (bif !(laws_eqStringS (laws_toStringS p0) (laws_toStringS p0)) then false else true))
theorem c_laws_FnExactReadCall (p0 : List ByteArray) : CTs 8 [.o (.sl ByteArray instDatByteArray p0)] [Re.c (.bool (laws_FnExactReadCall p0))] := by
  refine en Tryd.func8 Tryd.ntmps8 fun w hG hgd => ?_
  obtain ⟨hg_p0, _⟩ := hgd
  have hl_p0 : p0.length ≤ 9223372036854775807 := hg_p0.1
  have hM := laws_FnExactReadCall.eq_1 p0
  refine ad 12 ?_
  refine op (cl (c_laws_szStringS p0 1048576) fok36) ?_
  refine ad 8 ?_
  refine cd (fun h1 => ?_) (fun h1 => ?_)
  ·
    have hM := hM.trans (bt h1)
    refine ad 4 ?_
    exact rz (rs := [.tmp 2]) (congrArg (fun x => [Re.c (.bool x)]) hM)
  ·
    have hM := hM.trans (bf h1)
    obtain ⟨hs, hall⟩ := laws_szStringS_small hg_p0 h1
    have hq : ∀ k, (nth (laws_toStringS p0) k).size ≤ 281474976710656 := fun k => by rw [laws_toStringS_id]; have := hall k; omega
    refine ad 4 ?_
    refine og (clg (c_laws_toStringS p0 (by assumption)) fok38) fun hgq => ?_
    obtain ⟨hg2, _⟩ := hgq
    refine og (clg (c_spec_ReadCall (laws_toStringS p0)) fok37) fun hgq => ?_
    obtain ⟨hg3, _⟩ := hgq
    refine ad 10 ?_
    refine og (clg (c_laws_toStringS p0 (by assumption)) fok38) fun hgq => ?_
    obtain ⟨hg4, _⟩ := hgq
    refine ad 5 ?_
    refine og (clg (c_impl_ReadCall (laws_toStringS p0) (by first | exact parts_small _ | assumption)) fok34) fun hgq => ?_
    obtain ⟨hg5, _⟩ := hgq
    refine ad 12 ?_
    refine op (cl (c_laws_eqCall ((impl_ReadCall (laws_toStringS p0)).1) ((spec_ReadCall (laws_toStringS p0)).1)) fok39) ?_
    refine ad 2 ?_
    refine ag 4 ?_
    refine ad 1 ?_
    refine cd (fun h6 => ?_) (fun h6 => ?_)
    ·
      have hM := hM.trans (bt h6)
      refine ad 4 ?_
      exact rz (rs := [.tmp 2]) (congrArg (fun x => [Re.c (.bool x)]) hM)
    ·
      have hM := hM.trans (bf h6)
      refine ad 6 ?_
      refine og (clg (c_laws_toStringS p0 (by assumption)) fok38) fun hgq => ?_
      obtain ⟨hg7, _⟩ := hgq
      refine op (cl (c_laws_eqStringS (laws_toStringS p0) (laws_toStringS p0)) fok26) ?_
      refine ad 2 ?_
      refine cd (fun h8 => ?_) (fun h8 => ?_)
      ·
        have hM := hM.trans (bt h8)
        refine ad 4 ?_
        exact rz (rs := [.tmp 2]) (congrArg (fun x => [Re.c (.bool x)]) hM)
      ·
        have hM := hM.trans (bf h8)
        refine ad 5 ?_
        exact rz (rs := [.tmp 2]) (congrArg (fun x => [Re.c (.bool x)]) hM)

end Go.Proofs.YtmjjcihoobnbgaaDoor.Fw