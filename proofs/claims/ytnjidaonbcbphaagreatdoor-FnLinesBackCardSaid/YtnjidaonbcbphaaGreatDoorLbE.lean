/-
  The texts K3, PA, KC, KD, PW, R0, PJ, R3, PK, PL, Am17, Sy3 of this proof, one behind the other: what each proves stands at its head. No condition.
-/
import Derived.Test.YtnjidaonbcbphaaGreatDoorLbA
import Derived.Test.YtnjidaonbcbphaaGreatDoorLbB
import Derived.Test.YtnjidaonbcbphaaGreatDoorLbC
import Derived.Test.YtnjidaonbcbphaaGreatDoorLbD
/- Contracts: each call returns what the model says. By program (wip/am/gen2.py). -/
namespace Go.Proofs.YtnjidaonbcbphaaGreatDoor.Fw
open Go.RowKit
set_option linter.unusedVariables false
set_option maxRecDepth 100000

theorem fok36 : FnOk Tryz.prog 36 := ⟨_, Tryz.func36, rfl, by kernel_rfl⟩
theorem fok37 : FnOk Tryz.prog 37 := ⟨_, Tryz.func37, rfl, by kernel_rfl⟩
theorem fok81 : FnOk Tryz.prog 81 := ⟨_, Tryz.func81, rfl, by kernel_rfl⟩
theorem fok82 : FnOk Tryz.prog 82 := ⟨_, Tryz.func82, rfl, by kernel_rfl⟩
theorem fok104 : FnOk Tryz.prog 104 := ⟨_, Tryz.func104, rfl, by kernel_rfl⟩
theorem fok105 : FnOk Tryz.prog 105 := ⟨_, Tryz.func105, rfl, by kernel_rfl⟩
theorem eqt56 : ∀ (d : Nat) (x y : Deed) (w : World), (Op.equalIn (d + 10) 56 (.agg [.int .i64 x.Kind, .int .i64 x.N, .int .i64 x.M, .int .i64 x.Call.Kind, .string x.Call.Name, .string x.Call.To, .int .i64 x.Call.A, .int .i64 x.Call.B, .string x.Call.Text].toArray) (.agg [.int .i64 y.Kind, .int .i64 y.N, .int .i64 y.M, .int .i64 y.Call.Kind, .string y.Call.Name, .string y.Call.To, .int .i64 y.Call.A, .int .i64 y.Call.B, .string y.Call.Text].toArray)).run Tryz.prog w = .ok (decide (x = y)) w := by
  intro d x y w
  have u3 := Tryz.underlying3
  have a3 := Tryz.isAgg3
  have z3 := Tryz.sizeOf3
  have u9 := Tryz.underlying9
  have a9 := Tryz.isAgg9
  have z9 := Tryz.sizeOf9
  have u54 := Tryz.underlying54
  have a54 := Tryz.isAgg54
  have z54 := Tryz.sizeOf54
  have hS : Tryz.prog.underlying 56 = some (.struct (Tryz.prog.fieldsOf 56)) := by kernel_rfl
  have hp : Tryz.prog.stoodInHeld 56 = false := by kernel_rfl
  rw [run_equalIn_agg w (d + 9) 56 _ _ hS hp]
  simp only [Program.fieldsOf, Tryz.underlying56]
  obtain ⟨z1, z2, z3, ⟨z4, z5, z6, z7, z8, z9⟩⟩ := x
  obtain ⟨z10, z11, z12, ⟨z13, z14, z15, z16, z17, z18⟩⟩ := y
  go_simp
  simp only [bt_inj]
  repeat' split
  all_goals simp_all
theorem eqp56 (x y : Deed) : eqP Tryz.prog 56 [.int .i64 x.Kind, .int .i64 x.N, .int .i64 x.M, .int .i64 x.Call.Kind, .string x.Call.Name, .string x.Call.To, .int .i64 x.Call.A, .int .i64 x.Call.B, .string x.Call.Text] [.int .i64 y.Kind, .int .i64 y.N, .int .i64 y.M, .int .i64 y.Call.Kind, .string y.Call.Name, .string y.Call.To, .int .i64 y.Call.A, .int .i64 y.Call.B, .string y.Call.Text] (decide (x = y)) := ⟨by kernel_rfl, fun w => eqt56 9990 x y w⟩
/- F81 loop.example/g00974/impl.actFields -/
def impl_actFields (p0 : Int) : ByteArray := bif (decide (p0 = 1)) || ((decide (p0 = 3)) || ((decide (p0 = 5)) || ((decide (p0 = 6)) || ((decide (p0 = 11)) || (decide (p0 = 12)))))) then ⟨#[78]⟩ else (bif decide (p0 = 4) then ⟨#[78, 77]⟩ else (bif (decide (p0 = 2)) || (decide (p0 = 7)) then ⟨#[78, 67]⟩ else ⟨#[]⟩))
theorem c_impl_actFields (p0 : Int) : CTs 81 [.o (.c (.int .i64 p0))] [Re.c (.string (impl_actFields p0))] := by
  refine en Tryz.func81 Tryz.ntmps81 fun w hG hgd => ?_
  have hM := impl_actFields.eq_1 p0
  refine ad 16 ?_
  refine Run.mid ⟨16, 0, [(3, .v (.int .i64 p0)), (4, .v (.bool ((decide (p0 = 1)) || ((decide (p0 = 3)) || ((decide (p0 = 5)) || ((decide (p0 = 6)) || ((decide (p0 = 11)) || (decide (p0 = 12)))))))))], []⟩ ?_ ?_
  · refine cd (fun h1 => ?_) (fun h1 => ?_)
    ·
      refine ad 1 ?_
      exact Run.at [] [] (by first | exact su | (rw [h1]; exact su)) (by decide)
    ·
      refine ad 5 ?_
      refine Run.mid ⟨16, 0, [(3, .v (.int .i64 p0)), (4, .v (.bool ((decide (p0 = 3)) || ((decide (p0 = 5)) || ((decide (p0 = 6)) || ((decide (p0 = 11)) || (decide (p0 = 12))))))))], []⟩ ?_ ?_
      · refine cd (fun h2 => ?_) (fun h2 => ?_)
        ·
          refine ad 1 ?_
          exact Run.at [] [] (by first | exact su | (rw [h2]; exact su)) (by decide)
        ·
          refine ad 5 ?_
          refine Run.mid ⟨16, 0, [(3, .v (.int .i64 p0)), (4, .v (.bool ((decide (p0 = 5)) || ((decide (p0 = 6)) || ((decide (p0 = 11)) || (decide (p0 = 12)))))))], []⟩ ?_ ?_
          · refine cd (fun h3 => ?_) (fun h3 => ?_)
            ·
              refine ad 1 ?_
              exact Run.at [] [] (by first | exact su | (rw [h3]; exact su)) (by decide)
            ·
              refine ad 5 ?_
              refine Run.mid ⟨16, 0, [(3, .v (.int .i64 p0)), (4, .v (.bool ((decide (p0 = 6)) || ((decide (p0 = 11)) || (decide (p0 = 12))))))], []⟩ ?_ ?_
              · refine cd (fun h4 => ?_) (fun h4 => ?_)
                ·
                  refine ad 1 ?_
                  exact Run.at [] [] (by first | exact su | (rw [h4]; exact su)) (by decide)
                ·
                  refine ad 5 ?_
                  refine Run.mid ⟨16, 0, [(3, .v (.int .i64 p0)), (4, .v (.bool ((decide (p0 = 11)) || (decide (p0 = 12)))))], []⟩ ?_ ?_
                  · refine cd (fun h5 => ?_) (fun h5 => ?_)
                    ·
                      refine ad 1 ?_
                      exact Run.at [] [] (by first | exact su | (rw [h5]; exact su)) (by decide)
                    ·
                      refine ad 4 ?_
                      exact Run.at [] [] (by first | exact su | (rw [h5]; exact su)) (by decide)
                  exact Run.at [] [] (by first | exact su | (rw [h4]; exact su)) (by decide)
              exact Run.at [] [] (by first | exact su | (rw [h3]; exact su)) (by decide)
          exact Run.at [] [] (by first | exact su | (rw [h2]; exact su)) (by decide)
      exact Run.at [] [] (by first | exact su | (rw [h1]; exact su)) (by decide)
  refine cd (fun h6 => ?_) (fun h6 => ?_)
  ·
    have hM := hM.trans (bt h6)
    refine ad 4 ?_
    exact rz (rs := [.tmp 2]) (congrArg (fun x => [Re.c (.string x)]) hM)
  ·
    have hM := hM.trans (bf h6)
    refine ad 5 ?_
    refine cd (fun h7 => ?_) (fun h7 => ?_)
    ·
      have hM := hM.trans (bt h7)
      refine ad 4 ?_
      exact rz (rs := [.tmp 2]) (congrArg (fun x => [Re.c (.string x)]) hM)
    ·
      have hM := hM.trans (bf h7)
      refine ad 6 ?_
      refine Run.mid ⟨16, 0, [(13, .v (.bool ((decide (p0 = 2)) || (decide (p0 = 7)))))], []⟩ ?_ ?_
      · refine cd (fun h8 => ?_) (fun h8 => ?_)
        ·
          refine ad 1 ?_
          exact Run.at [] [] (by first | exact su | (rw [h8]; exact su)) (by decide)
        ·
          refine ad 4 ?_
          exact Run.at [] [] (by first | exact su | (rw [h8]; exact su)) (by decide)
      refine cd (fun h9 => ?_) (fun h9 => ?_)
      ·
        have hM := hM.trans (bt h9)
        refine ad 4 ?_
        exact rz (rs := [.tmp 2]) (congrArg (fun x => [Re.c (.string x)]) hM)
      ·
        have hM := hM.trans (bf h9)
        refine ad 6 ?_
        exact rz (rs := [.tmp 2]) (congrArg (fun x => [Re.c (.string x)]) hM)
theorem asc_impl_actFields (p0 : Int) : ascii (impl_actFields p0) := by
  unfold impl_actFields
  repeat' (first | refine asc_bif ?_ ?_ | exact ascii_of (by decide +kernel))
theorem impl_actFields_size (p0 : Int) : (impl_actFields p0).size ≤ 2 := by
  unfold impl_actFields
  repeat' (first | refine szb ?_ ?_ | exact Nat.le_of_ble_eq_true rfl)

/- F82 loop.example/g00974/impl.ActOk -/
def impl_ActOk (p0 : Deed) : Bool := (impl_within p0.Kind 1 12)
theorem c_impl_ActOk (p0 : Deed) : CTs 82 [.o (.st Deed _ inferInstance p0)] [Re.c (.bool (impl_ActOk p0))] := by
  refine en Tryz.func82 Tryz.ntmps82 fun w hG hgd => ?_
  obtain ⟨hg_p0, _⟩ := hgd
  have hM := impl_ActOk.eq_1 p0
  refine ad 9 ?_
  refine op (cl (k_impl_within p0.Kind 1 12) fok83) ?_
  refine ad 2 ?_
  exact rz (rs := [.tmp 2]) (congrArg (fun x => [Re.c (.bool x)]) hM)
theorem impl_ActOk_t {p0 : Deed} (h : impl_ActOk p0 = true) : 1 ≤ p0.Kind ∧ p0.Kind ≤ 12 := impl_within_t h

/- F104 loop.example/g00974/spec.ActOk -/
def spec_ActOk (p0 : Deed) : Bool := (spec_l01In p0.Kind 1 12)
theorem c_spec_ActOk (p0 : Deed) : CTs 104 [.o (.st Deed _ inferInstance p0)] [Re.c (.bool (spec_ActOk p0))] := by
  refine en Tryz.func104 Tryz.ntmps104 fun w hG hgd => ?_
  obtain ⟨hg_p0, _⟩ := hgd
  have hM := spec_ActOk.eq_1 p0
  refine ad 9 ?_
  refine op (cl (k_spec_l01In p0.Kind 1 12) fok110) ?_
  refine ad 2 ?_
  exact rz (rs := [.tmp 2]) (congrArg (fun x => [Re.c (.bool x)]) hM)
theorem spec_ActOk_t {p0 : Deed} (h : spec_ActOk p0 = true) : 1 ≤ p0.Kind ∧ p0.Kind ≤ 12 := spec_l01In_t h

/- F36 loop.example/g00974/impl.ActName -/
def impl_ActName (p0 : Int) : ByteArray := bif !(impl_within p0 1 12) then ⟨#[63]⟩ else (nth gl0 ((IntKind.i64.wrap (p0 - 1)).toNat))
theorem c_impl_ActName (p0 : Int) : CTs 36 [.o (.c (.int .i64 p0))] [Re.c (.string (impl_ActName p0))] := by
  refine en Tryz.func36 Tryz.ntmps36 fun w hG hgd => ?_
  have hM := impl_ActName.eq_1 p0
  refine ad 8 ?_
  refine op (cl (k_impl_within p0 1 12) fok83) ?_
  refine ad 2 ?_
  refine cd (fun h1 => ?_) (fun h1 => ?_)
  ·
    have hM := hM.trans (bt h1)
    refine ad 4 ?_
    exact rz (rs := [.tmp 2]) (congrArg (fun x => [Re.c (.string x)]) hM)
  ·
    have hM := hM.trans (bf h1)
    have th1 := impl_within_t (by simpa using h1)
    refine ad 5 ?_
    refine op (gx (len := 12) (e := 9) Value.string gl0 ((IntKind.i64.wrap (p0 - 1)).toNat) Gl0 (show ((IntKind.i64.wrap (p0 - 1)).toNat) < 12 from om) (hi := om)) ?_
    refine ad 3 ?_
    exact rz (rs := [.tmp 2]) (congrArg (fun x => [Re.c (.string x)]) hM)
theorem impl_ActName_size (p0 : Int) : (impl_ActName p0).size ≤ 10 := by
  unfold impl_ActName
  exact szb (Nat.le_of_ble_eq_true rfl) (nth_szs (by decide) _)

/- F37 loop.example/g00974/spec.ActName -/
def spec_ActName (p0 : Int) : ByteArray := bif !(spec_l01In p0 1 12) then ⟨#[63]⟩ else (nth ([⟨#[]⟩, ⟨#[98, 101, 103, 105, 110]⟩, ⟨#[97, 115, 107]⟩, ⟨#[109, 97, 114, 107]⟩, ⟨#[98, 97, 99, 107]⟩, ⟨#[100, 114, 111, 112]⟩, ⟨#[99, 111, 109, 109, 105, 116]⟩, ⟨#[112, 108, 97, 105, 110]⟩, ⟨#[102, 108, 117, 115, 104]⟩, ⟨#[102, 111, 108, 100]⟩, ⟨#[102, 111, 108, 100, 101, 100]⟩, ⟨#[102, 97, 108, 108]⟩, ⟨#[114, 101, 116, 114, 121]⟩] : List ByteArray) p0.toNat)
theorem c_spec_ActName (p0 : Int) : CTs 37 [.o (.c (.int .i64 p0))] [Re.c (.string (spec_ActName p0))] := by
  refine en Tryz.func37 Tryz.ntmps37 fun w hG hgd => ?_
  have hM := spec_ActName.eq_1 p0
  refine ad 8 ?_
  refine op (cl (k_spec_l01In p0 1 12) fok110) ?_
  refine ad 2 ?_
  refine cd (fun h1 => ?_) (fun h1 => ?_)
  ·
    have hM := hM.trans (bt h1)
    refine ad 4 ?_
    exact rz (rs := [.tmp 2]) (congrArg (fun x => [Re.c (.string x)]) hM)
  ·
    have hM := hM.trans (bf h1)
    have th1 := spec_l01In_t (by simpa using h1)
    refine ad 5 ?_
    refine li 0 (d := instDatByteArray) ([⟨#[]⟩, ⟨#[98, 101, 103, 105, 110]⟩, ⟨#[97, 115, 107]⟩, ⟨#[109, 97, 114, 107]⟩, ⟨#[98, 97, 99, 107]⟩, ⟨#[100, 114, 111, 112]⟩, ⟨#[99, 111, 109, 109, 105, 116]⟩, ⟨#[112, 108, 97, 105, 110]⟩, ⟨#[102, 108, 117, 115, 104]⟩, ⟨#[102, 111, 108, 100]⟩, ⟨#[102, 111, 108, 100, 101, 100]⟩, ⟨#[102, 97, 108, 108]⟩, ⟨#[114, 101, 116, 114, 121]⟩] : List ByteArray) ?_
    refine fz 0 ?_
    refine op (ix (xs := ([⟨#[]⟩, ⟨#[98, 101, 103, 105, 110]⟩, ⟨#[97, 115, 107]⟩, ⟨#[109, 97, 114, 107]⟩, ⟨#[98, 97, 99, 107]⟩, ⟨#[100, 114, 111, 112]⟩, ⟨#[99, 111, 109, 109, 105, 116]⟩, ⟨#[112, 108, 97, 105, 110]⟩, ⟨#[102, 108, 117, 115, 104]⟩, ⟨#[102, 111, 108, 100]⟩, ⟨#[102, 111, 108, 100, 101, 100]⟩, ⟨#[102, 97, 108, 108]⟩, ⟨#[114, 101, 116, 114, 121]⟩] : List ByteArray)) p0.toNat (show p0.toNat < 13 from om) (hi := om)) ?_
    refine ad 3 ?_
    exact rz (rs := [.tmp 2]) (congrArg (fun x => [Re.c (.string x)]) hM)
theorem spec_ActName_size (p0 : Int) : (spec_ActName p0).size ≤ 10 := by
  unfold spec_ActName
  exact szb (Nat.le_of_ble_eq_true rfl) (nth_szs (by decide) _)

/- F105 loop.example/g00974/spec.l38Told -/
def spec_l38Told (p0 : Deed) : Deed := bif (decide (p0.Kind = 8)) || ((decide (p0.Kind = 9)) || (decide (p0.Kind = 10))) then (Deed.mk p0.Kind 0 0 (Call.mk 0 ⟨#[]⟩ ⟨#[]⟩ 0 0 ⟨#[]⟩)) else (Deed.mk p0.Kind p0.N (bif ((decide (p0.Kind = 2)) || (decide (p0.Kind = 7))) then 0 else (bif (decide (p0.Kind = 4)) then p0.M else 0)) (Call.mk (bif ((decide (p0.Kind = 2)) || (decide (p0.Kind = 7))) then p0.Call.Kind else 0) (bif ((decide (p0.Kind = 2)) || (decide (p0.Kind = 7))) then p0.Call.Name else ⟨#[]⟩) (bif ((decide (p0.Kind = 2)) || (decide (p0.Kind = 7))) then p0.Call.To else ⟨#[]⟩) (bif ((decide (p0.Kind = 2)) || (decide (p0.Kind = 7))) then p0.Call.A else 0) (bif ((decide (p0.Kind = 2)) || (decide (p0.Kind = 7))) then p0.Call.B else 0) (bif ((decide (p0.Kind = 2)) || (decide (p0.Kind = 7))) then p0.Call.Text else ⟨#[]⟩)))
theorem c_spec_l38Told (p0 : Deed) : CTs 105 [.o (.st Deed _ inferInstance p0)] [Re.st Deed _ inferInstance (spec_l38Told p0)] := by
  refine en Tryz.func105 Tryz.ntmps105 fun w hG hgd => ?_
  obtain ⟨hg_p0, _⟩ := hgd
  have hM := spec_l38Told.eq_1 p0
  refine ad 26 ?_
  refine Run.mid ⟨29, 3, [(1, .pt 0 0), (2, .pt 1 0), (3, .pt 2 0), (8, .v (.int .i64 p0.Kind)), (9, .v (.bool ((decide (p0.Kind = 8)) || ((decide (p0.Kind = 9)) || (decide (p0.Kind = 10))))))], [(0, .var [.v (.int .i64 p0.Kind), .v (.int .i64 p0.N), .v (.int .i64 p0.M), .v (.int .i64 p0.Call.Kind), .v (.string p0.Call.Name), .v (.string p0.Call.To), .v (.int .i64 p0.Call.A), .v (.int .i64 p0.Call.B), .v (.string p0.Call.Text)] 56), (1, .var [.v (.int .i64 0), .v (.int .i64 0), .v (.int .i64 0), .v (.int .i64 0), .v (.string ⟨#[]⟩), .v (.string ⟨#[]⟩), .v (.int .i64 0), .v (.int .i64 0), .v (.string ⟨#[]⟩)] 56), (2, .var [.v (.int .i64 p0.Kind), .v (.int .i64 0), .v (.int .i64 0), .v (.int .i64 0), .v (.string ⟨#[]⟩), .v (.string ⟨#[]⟩), .v (.int .i64 0), .v (.int .i64 0), .v (.string ⟨#[]⟩)] 56)]⟩ ?_ ?_
  · refine cd (fun h1 => ?_) (fun h1 => ?_)
    ·
      refine ad 1 ?_
      exact Run.at [0, 1, 2] [2, 1, 0] (by first | exact su | (rw [h1]; exact su)) (by decide)
    ·
      refine ad 5 ?_
      refine Run.mid ⟨29, 3, [(1, .pt 0 0), (2, .pt 1 0), (3, .pt 2 0), (8, .v (.int .i64 p0.Kind)), (9, .v (.bool ((decide (p0.Kind = 9)) || (decide (p0.Kind = 10)))))], [(0, .var [.v (.int .i64 p0.Kind), .v (.int .i64 p0.N), .v (.int .i64 p0.M), .v (.int .i64 p0.Call.Kind), .v (.string p0.Call.Name), .v (.string p0.Call.To), .v (.int .i64 p0.Call.A), .v (.int .i64 p0.Call.B), .v (.string p0.Call.Text)] 56), (1, .var [.v (.int .i64 0), .v (.int .i64 0), .v (.int .i64 0), .v (.int .i64 0), .v (.string ⟨#[]⟩), .v (.string ⟨#[]⟩), .v (.int .i64 0), .v (.int .i64 0), .v (.string ⟨#[]⟩)] 56), (2, .var [.v (.int .i64 p0.Kind), .v (.int .i64 0), .v (.int .i64 0), .v (.int .i64 0), .v (.string ⟨#[]⟩), .v (.string ⟨#[]⟩), .v (.int .i64 0), .v (.int .i64 0), .v (.string ⟨#[]⟩)] 56)]⟩ ?_ ?_
      · refine cd (fun h2 => ?_) (fun h2 => ?_)
        ·
          refine ad 1 ?_
          exact Run.at [0, 1, 2] [2, 1, 0] (by first | exact su | (rw [h2]; exact su)) (by decide)
        ·
          refine ad 4 ?_
          exact Run.at [0, 1, 2] [2, 1, 0] (by first | exact su | (rw [h2]; exact su)) (by decide)
      exact Run.at [0, 1, 2] [0, 1, 2] (by first | exact su | (rw [h1]; exact su)) (by decide)
  refine cd (fun h3 => ?_) (fun h3 => ?_)
  ·
    have hM := hM.trans (bt h3)
    refine ad 5 ?_
    have hg4 : Dat.good (Deed.mk p0.Kind 0 0 (Call.mk 0 ⟨#[]⟩ ⟨#[]⟩ 0 0 ⟨#[]⟩) : Deed) := ⟨hg_p0.1, (gi 0), (gi 0), ⟨(gi 0), (gs ⟨#[]⟩), (gs ⟨#[]⟩), (gi 0), (gi 0), (gs ⟨#[]⟩)⟩⟩
    exact rz (rs := [.cell 2 56]) (congrArg (fun x => [Re.st Deed _ inferInstance x]) hM)
  ·
    have hM := hM.trans (bf h3)
    refine ad 6 ?_
    refine Run.mid ⟨29, 3, [(1, .pt 0 0), (2, .pt 1 0), (3, .pt 2 0), (8, .v (.int .i64 p0.Kind)), (14, .v (.bool ((decide (p0.Kind = 2)) || (decide (p0.Kind = 7)))))], [(0, .var [.v (.int .i64 p0.Kind), .v (.int .i64 p0.N), .v (.int .i64 p0.M), .v (.int .i64 p0.Call.Kind), .v (.string p0.Call.Name), .v (.string p0.Call.To), .v (.int .i64 p0.Call.A), .v (.int .i64 p0.Call.B), .v (.string p0.Call.Text)] 56), (1, .var [.v (.int .i64 0), .v (.int .i64 0), .v (.int .i64 0), .v (.int .i64 0), .v (.string ⟨#[]⟩), .v (.string ⟨#[]⟩), .v (.int .i64 0), .v (.int .i64 0), .v (.string ⟨#[]⟩)] 56), (2, .var [.v (.int .i64 p0.Kind), .v (.int .i64 0), .v (.int .i64 0), .v (.int .i64 0), .v (.string ⟨#[]⟩), .v (.string ⟨#[]⟩), .v (.int .i64 0), .v (.int .i64 0), .v (.string ⟨#[]⟩)] 56)]⟩ ?_ ?_
    · refine cd (fun h5 => ?_) (fun h5 => ?_)
      ·
        refine ad 1 ?_
        exact Run.at [0, 1, 2] [0, 1, 2] (by first | exact su | (rw [h5]; exact su)) (by decide)
      ·
        refine ad 4 ?_
        exact Run.at [0, 1, 2] [0, 1, 2] (by first | exact su | (rw [h5]; exact su)) (by decide)
    refine Run.mid ⟨29, 3, [(1, .pt 0 0), (2, .pt 1 0), (3, .pt 2 0)], [(0, .var [.v (.int .i64 p0.Kind), .v (.int .i64 p0.N), .v (.int .i64 p0.M), .v (.int .i64 p0.Call.Kind), .v (.string p0.Call.Name), .v (.string p0.Call.To), .v (.int .i64 p0.Call.A), .v (.int .i64 p0.Call.B), .v (.string p0.Call.Text)] 56), (1, .var [.v (.int .i64 0), .v (.int .i64 0), .v (.int .i64 0), .v (.int .i64 0), .v (.string ⟨#[]⟩), .v (.string ⟨#[]⟩), .v (.int .i64 0), .v (.int .i64 0), .v (.string ⟨#[]⟩)] 56), (2, .var [.v (.int .i64 p0.Kind), .v (.int .i64 0), .v (.int .i64 (bif ((decide (p0.Kind = 2)) || (decide (p0.Kind = 7))) then 0 else (bif (decide (p0.Kind = 4)) then p0.M else 0))), .v (.int .i64 (bif ((decide (p0.Kind = 2)) || (decide (p0.Kind = 7))) then p0.Call.Kind else 0)), .v (.string (bif ((decide (p0.Kind = 2)) || (decide (p0.Kind = 7))) then p0.Call.Name else ⟨#[]⟩)), .v (.string (bif ((decide (p0.Kind = 2)) || (decide (p0.Kind = 7))) then p0.Call.To else ⟨#[]⟩)), .v (.int .i64 (bif ((decide (p0.Kind = 2)) || (decide (p0.Kind = 7))) then p0.Call.A else 0)), .v (.int .i64 (bif ((decide (p0.Kind = 2)) || (decide (p0.Kind = 7))) then p0.Call.B else 0)), .v (.string (bif ((decide (p0.Kind = 2)) || (decide (p0.Kind = 7))) then p0.Call.Text else ⟨#[]⟩))] 56)]⟩ ?_ ?_
    · refine cd (fun h6 => ?_) (fun h6 => ?_)
      ·
        refine ad 6 ?_
        exact Run.at [0, 1, 2] [0, 1, 2] (by first | exact su | (rw [h6]; exact su)) (by decide)
      ·
        refine ad 5 ?_
        refine Run.mid ⟨29, 3, [(1, .pt 0 0), (2, .pt 1 0), (3, .pt 2 0)], [(0, .var [.v (.int .i64 p0.Kind), .v (.int .i64 p0.N), .v (.int .i64 p0.M), .v (.int .i64 p0.Call.Kind), .v (.string p0.Call.Name), .v (.string p0.Call.To), .v (.int .i64 p0.Call.A), .v (.int .i64 p0.Call.B), .v (.string p0.Call.Text)] 56), (1, .var [.v (.int .i64 0), .v (.int .i64 0), .v (.int .i64 0), .v (.int .i64 0), .v (.string ⟨#[]⟩), .v (.string ⟨#[]⟩), .v (.int .i64 0), .v (.int .i64 0), .v (.string ⟨#[]⟩)] 56), (2, .var [.v (.int .i64 p0.Kind), .v (.int .i64 0), .v (.int .i64 (bif (decide (p0.Kind = 4)) then p0.M else 0)), .v (.int .i64 0), .v (.string ⟨#[]⟩), .v (.string ⟨#[]⟩), .v (.int .i64 0), .v (.int .i64 0), .v (.string ⟨#[]⟩)] 56)]⟩ ?_ ?_
        · refine cd (fun h7 => ?_) (fun h7 => ?_)
          ·
            refine ad 6 ?_
            exact Run.at [0, 1, 2] [0, 1, 2] (by first | exact su | (rw [h7]; exact su)) (by decide)
          ·
            refine ad 1 ?_
            exact Run.at [0, 1, 2] [0, 1, 2] (by first | exact su | (rw [h7]; exact su)) (by decide)
        exact Run.at [0, 1, 2] [0, 1, 2] (by first | exact su | (rw [h6]; exact su)) (by decide)
    refine ad 13 ?_
    have hg8 : Dat.good (Deed.mk p0.Kind p0.N (bif ((decide (p0.Kind = 2)) || (decide (p0.Kind = 7))) then 0 else (bif (decide (p0.Kind = 4)) then p0.M else 0)) (Call.mk (bif ((decide (p0.Kind = 2)) || (decide (p0.Kind = 7))) then p0.Call.Kind else 0) (bif ((decide (p0.Kind = 2)) || (decide (p0.Kind = 7))) then p0.Call.Name else ⟨#[]⟩) (bif ((decide (p0.Kind = 2)) || (decide (p0.Kind = 7))) then p0.Call.To else ⟨#[]⟩) (bif ((decide (p0.Kind = 2)) || (decide (p0.Kind = 7))) then p0.Call.A else 0) (bif ((decide (p0.Kind = 2)) || (decide (p0.Kind = 7))) then p0.Call.B else 0) (bif ((decide (p0.Kind = 2)) || (decide (p0.Kind = 7))) then p0.Call.Text else ⟨#[]⟩)) : Deed) := ⟨hg_p0.1, hg_p0.2.1, (bifI (gi 0) (bifI hg_p0.2.2.1 (gi 0))), ⟨(bifI hg_p0.2.2.2.1 (gi 0)), (bifS hg_p0.2.2.2.2.1 (gs ⟨#[]⟩)), (bifS hg_p0.2.2.2.2.2.1 (gs ⟨#[]⟩)), (bifI hg_p0.2.2.2.2.2.2.1 (gi 0)), (bifI hg_p0.2.2.2.2.2.2.2.1 (gi 0)), (bifS hg_p0.2.2.2.2.2.2.2.2 (gs ⟨#[]⟩))⟩⟩
    exact rz (rs := [.cell 2 56]) (congrArg (fun x => [Re.st Deed _ inferInstance x]) hM)

/- F23 loop.example/g00974/impl.ActLine -/
def impl_ActLine_l1 (p0 : Deed) : Nat → Int → Int → Int → ByteArray → ByteArray → Int → Int → ByteArray → Nat → ByteArray → ByteArray
  | 0, c1_1, c1_2, c1_3, c1_4, c1_5, c1_6, c1_7, c1_8, i, v4 => bif (((!(impl_ActOk p0)) || (!(decide (p0 = (Deed.mk p0.Kind c1_1 c1_2 (Call.mk c1_3 c1_4 c1_5 c1_6 c1_7 c1_8)))))) || (!(impl_within p0.N 0 1000000000))) || (!(impl_within p0.M 0 1000000000)) then ⟨#[]⟩ else v4
  | n + 1, c1_1, c1_2, c1_3, c1_4, c1_5, c1_6, c1_7, c1_8, i, v4 => bif decide (((byteAt (impl_actFields p0.Kind) i).toNat : Int) = 78) then (impl_ActLine_l1 p0 n p0.N c1_2 c1_3 c1_4 c1_5 c1_6 c1_7 c1_8 (i + 1) (v4 ++ (⟨#[32]⟩ ++ (impl_Decimal p0.N)))) else (bif decide (((byteAt (impl_actFields p0.Kind) i).toNat : Int) = 77) then (impl_ActLine_l1 p0 n c1_1 p0.M c1_3 c1_4 c1_5 c1_6 c1_7 c1_8 (i + 1) (v4 ++ (⟨#[32]⟩ ++ (impl_Decimal p0.M)))) else (bif decide (((byteAt (impl_actFields p0.Kind) i).toNat : Int) = 67) then (bif decide ((impl_CallLine p0.Call) = ⟨#[]⟩) then ⟨#[]⟩ else (impl_ActLine_l1 p0 n c1_1 c1_2 p0.Call.Kind p0.Call.Name p0.Call.To p0.Call.A p0.Call.B p0.Call.Text (i + 1) (v4 ++ (⟨#[32]⟩ ++ (impl_CallLine p0.Call))))) else (impl_ActLine_l1 p0 n c1_1 c1_2 c1_3 c1_4 c1_5 c1_6 c1_7 c1_8 (i + 1) v4)))
def impl_ActLine (p0 : Deed) : ByteArray := impl_ActLine_l1 p0 (((impl_actFields p0.Kind).size) - 0) 0 0 0 ⟨#[]⟩ ⟨#[]⟩ 0 0 ⟨#[]⟩ 0 (impl_ActName p0.Kind)
theorem c_impl_ActLine (p0 : Deed) : CTs 23 [.o (.st Deed _ inferInstance p0)] [Re.c (.string (impl_ActLine p0))] := by
  refine en Tryz.func23 Tryz.ntmps23 fun w hG hgd => ?_
  obtain ⟨hg_p0, _⟩ := hgd
  have hM := impl_ActLine.eq_1 p0
  refine ad 17 ?_
  refine op (cl (c_impl_ActName p0.Kind) fok36) ?_
  refine ad 7 ?_
  refine op (cl (c_impl_actFields p0.Kind) fok81) ?_
  refine op (rg) ?_
  refine ad 2 ?_
  have hda : (impl_Decimal p0.N).size ≤ 20 := impl_Decimal_size hg_p0.2.1
  have hdb : (impl_Decimal p0.M).size ≤ 20 := impl_Decimal_size hg_p0.2.2.1
  have hdc : (impl_CallLine p0.Call).size ≤ 610 := impl_CallLine_size hg_p0.2.2.2
  have han := impl_ActName_size p0.Kind
  have hfs := impl_actFields_size p0.Kind
  refine Run.loopM (ι := Int × Int × Int × ByteArray × ByteArray × Int × Int × ByteArray × Nat × ByteArray) (fun s => impl_ActLine_l1 p0 (((impl_actFields p0.Kind).size) - s.2.2.2.2.2.2.2.2.1) s.1 s.2.1 s.2.2.1 s.2.2.2.1 s.2.2.2.2.1 s.2.2.2.2.2.1 s.2.2.2.2.2.2.1 s.2.2.2.2.2.2.2.1 s.2.2.2.2.2.2.2.2.1 s.2.2.2.2.2.2.2.2.2) (fun s => ⟨79, 3, [(1, .pt 0 0), (3, .pt 1 0), (4, .v (.string s.2.2.2.2.2.2.2.2.2)), (17, .pt 2 0)], [(0, .var [.v (.int .i64 p0.Kind), .v (.int .i64 p0.N), .v (.int .i64 p0.M), .v (.int .i64 p0.Call.Kind), .v (.string p0.Call.Name), .v (.string p0.Call.To), .v (.int .i64 p0.Call.A), .v (.int .i64 p0.Call.B), .v (.string p0.Call.Text)] 56), (1, .var [.v (.int .i64 p0.Kind), .v (.int .i64 s.1), .v (.int .i64 s.2.1), .v (.int .i64 s.2.2.1), .v (.string s.2.2.2.1), .v (.string s.2.2.2.2.1), .v (.int .i64 s.2.2.2.2.2.1), .v (.int .i64 s.2.2.2.2.2.2.1), .v (.string s.2.2.2.2.2.2.2.1)] 56), (2, .itr (impl_actFields p0.Kind) s.2.2.2.2.2.2.2.2.1)]⟩) (fun s => s.2.2.2.2.2.2.2.2.1 ≤ (impl_actFields p0.Kind).size ∧ s.2.2.2.2.2.2.2.2.2.size ≤ 10 + 700 * s.2.2.2.2.2.2.2.2.1 ∧ I64 s.1 ∧ I64 s.2.1 ∧ I64 s.2.2.1 ∧ s.2.2.2.1.size ≤ maxLen ∧ s.2.2.2.2.1.size ≤ maxLen ∧ I64 s.2.2.2.2.2.1 ∧ I64 s.2.2.2.2.2.2.1 ∧ s.2.2.2.2.2.2.2.1.size ≤ maxLen) (fun s => ((impl_actFields p0.Kind).size) - s.2.2.2.2.2.2.2.2.1) (0, 0, 0, ⟨#[]⟩, ⟨#[]⟩, 0, 0, ⟨#[]⟩, 0, (impl_ActName p0.Kind)) [0, 1, 2] [2, 1, 0] hM (by exact ⟨by (try dsimp only); first | omega | exact trivial, by (dsimp only; omega), (gi 0), (gi 0), (gi 0), (gs ⟨#[]⟩), (gs ⟨#[]⟩), (gi 0), (gi 0), (gs ⟨#[]⟩)⟩) su (by decide) ?_
  rintro ⟨c1_1, c1_2, c1_3, c1_4, c1_5, c1_6, c1_7, c1_8, i, v4⟩ hv hE
  try dsimp only at hE
  obtain ⟨hi, hv0, hg_c1_1, hg_c1_2, hg_c1_3, hg_c1_4, hg_c1_5, hg_c1_6, hg_c1_7, hg_c1_8⟩ := hv
  try dsimp only at hi hv0 hg_c1_1 hg_c1_2 hg_c1_3 hg_c1_4 hg_c1_5 hg_c1_6 hg_c1_7 hg_c1_8
  refine ad 2 ?_
  refine nx (fun h1 => ?_) (fun h1 => ?_) (asc_impl_actFields p0.Kind)
  ·
    have hM := hE.trans ((congrArg (fun n => impl_ActLine_l1 p0 n c1_1 c1_2 c1_3 c1_4 c1_5 c1_6 c1_7 c1_8 i v4) (show ((impl_actFields p0.Kind).size) - i = (((impl_actFields p0.Kind).size) - (i + 1)) + 1 by omega)).trans (impl_ActLine_l1.eq_2 _ _ _ _ _ _ _ _ _ _ _ _))
    refine ad 21 ?_
    refine cd (fun h2 => ?_) (fun h2 => ?_)
    ·
      have hM := hM.trans (bt h2)
      refine ad 11 ?_
      have hs3 := impl_Decimal_size (p0 := p0.N) hg_p0.2.1
      refine op (cl (k_impl_Decimal p0.N hg_p0.2.1) fok58) ?_
      refine op (ca (hs := szt)) ?_
      refine op (ca (hs := szt)) ?_
      refine ad 4 ?_
      exact Run.again (p0.N, c1_2, c1_3, c1_4, c1_5, c1_6, c1_7, c1_8, (i + 1), v4 ++ (⟨#[32]⟩ ++ (impl_Decimal p0.N))) [0, 1, 2] [0, 1, 2] ⟨by exact ⟨by (try dsimp only); first | omega | exact trivial, by (dsimp only; (try simp only [Bool.cond_eq_ite]); (repeat' split); all_goals ((try simp only [ByteArray.size_append, bts, List.size_toArray, List.length_cons, List.length_nil]); omega)), hg_p0.2.1, hg_c1_2, hg_c1_3, hg_c1_4, hg_c1_5, hg_c1_6, hg_c1_7, hg_c1_8⟩, hM⟩ rfl (by show _ - _ < _ - _; (try dsimp only); omega) su (by decide)
    ·
      have hM := hM.trans (bf h2)
      refine ad 5 ?_
      refine cd (fun h4 => ?_) (fun h4 => ?_)
      ·
        have hM := hM.trans (bt h4)
        refine ad 11 ?_
        have hs5 := impl_Decimal_size (p0 := p0.M) hg_p0.2.2.1
        refine op (cl (k_impl_Decimal p0.M hg_p0.2.2.1) fok58) ?_
        refine op (ca (hs := szt)) ?_
        refine op (ca (hs := szt)) ?_
        refine ad 4 ?_
        exact Run.again (c1_1, p0.M, c1_3, c1_4, c1_5, c1_6, c1_7, c1_8, (i + 1), v4 ++ (⟨#[32]⟩ ++ (impl_Decimal p0.M))) [0, 1, 2] [0, 1, 2] ⟨by exact ⟨by (try dsimp only); first | omega | exact trivial, by (dsimp only; (try simp only [Bool.cond_eq_ite]); (repeat' split); all_goals ((try simp only [ByteArray.size_append, bts, List.size_toArray, List.length_cons, List.length_nil]); omega)), hg_c1_1, hg_p0.2.2.1, hg_c1_3, hg_c1_4, hg_c1_5, hg_c1_6, hg_c1_7, hg_c1_8⟩, hM⟩ rfl (by show _ - _ < _ - _; (try dsimp only); omega) su (by decide)
      ·
        have hM := hM.trans (bf h4)
        refine ad 5 ?_
        refine cd (fun h6 => ?_) (fun h6 => ?_)
        ·
          have hM := hM.trans (bt h6)
          refine ad 11 ?_
          have hg7 : Dat.good (p0.Call : Call) := hg_p0.2.2.2
          have hs8 := impl_CallLine_size (p0 := p0.Call) (by assumption)
          refine op (cl (c_impl_CallLine p0.Call) fok26) ?_
          refine ad 8 ?_
          refine cd (fun h9 => ?_) (fun h9 => ?_)
          ·
            have hM := hM.trans (bt h9)
            refine ad 4 ?_
            exact rz (rs := [.tmp 2]) (congrArg (fun x => [Re.c (.string x)]) hM)
          ·
            have hM := hM.trans (bf h9)
            refine ad 4 ?_
            refine op (ca (hs := szt)) ?_
            refine op (ca (hs := szt)) ?_
            refine ad 4 ?_
            exact Run.again (c1_1, c1_2, p0.Call.Kind, p0.Call.Name, p0.Call.To, p0.Call.A, p0.Call.B, p0.Call.Text, (i + 1), v4 ++ (⟨#[32]⟩ ++ (impl_CallLine p0.Call))) [0, 1, 2] [0, 1, 2] ⟨by exact ⟨by (try dsimp only); first | omega | exact trivial, by (dsimp only; (try simp only [Bool.cond_eq_ite]); (repeat' split); all_goals ((try simp only [ByteArray.size_append, bts, List.size_toArray, List.length_cons, List.length_nil]); omega)), hg_c1_1, hg_c1_2, hg7.1, hg7.2.1, hg7.2.2.1, hg7.2.2.2.1, hg7.2.2.2.2.1, hg7.2.2.2.2.2⟩, hM⟩ rfl (by show _ - _ < _ - _; (try dsimp only); omega) su (by decide)
        ·
          have hM := hM.trans (bf h6)
          refine ad 3 ?_
          exact Run.again (c1_1, c1_2, c1_3, c1_4, c1_5, c1_6, c1_7, c1_8, (i + 1), v4) [0, 1, 2] [0, 1, 2] ⟨by exact ⟨by (try dsimp only); first | omega | exact trivial, by (dsimp only; (try simp only [Bool.cond_eq_ite]); (repeat' split); all_goals ((try simp only [ByteArray.size_append, bts, List.size_toArray, List.length_cons, List.length_nil]); omega)), hg_c1_1, hg_c1_2, hg_c1_3, hg_c1_4, hg_c1_5, hg_c1_6, hg_c1_7, hg_c1_8⟩, hM⟩ rfl (by show _ - _ < _ - _; (try dsimp only); omega) su (by decide)
  ·
    have hM := hE.trans ((congrArg (fun n => impl_ActLine_l1 p0 n c1_1 c1_2 c1_3 c1_4 c1_5 c1_6 c1_7 c1_8 i v4) (show ((impl_actFields p0.Kind).size) - i = 0 by omega)).trans (impl_ActLine_l1.eq_1 _ _ _ _ _ _ _ _ _ _ _))
    refine ad 9 ?_
    refine op (cl (c_impl_ActOk p0) fok82) ?_
    refine ad 2 ?_
    refine ag 2 ?_
    refine op (qg (fun _ => (eqp56 p0 (Deed.mk p0.Kind c1_1 c1_2 (Call.mk c1_3 c1_4 c1_5 c1_6 c1_7 c1_8))))) ?_
    refine ag 1 ?_
    refine ad 1 ?_
    refine ag 2 ?_
    refine op (cG (hct := fun hB => (k_impl_within p0.N 0 1000000000)) (hfn := fok83)) ?_
    refine ag 2 ?_
    refine ad 1 ?_
    refine ag 2 ?_
    refine op (cG (hct := fun hB => (k_impl_within p0.M 0 1000000000)) (hfn := fok83)) ?_
    refine ag 2 ?_
    refine ad 1 ?_
    refine cd (fun h10 => ?_) (fun h10 => ?_)
    ·
      have hM := hM.trans (bt h10)
      refine ad 4 ?_
      exact rz (rs := [.tmp 2]) (congrArg (fun x => [Re.c (.string x)]) hM)
    ·
      have hM := hM.trans (bf h10)
      have th10_0 := impl_ActOk_t (by have hq := (Bool.or_eq_false_iff.1 (Bool.or_eq_false_iff.1 (Bool.or_eq_false_iff.1 h10).1).1).1; simpa using hq)
      have th10_2 := impl_within_t (by have hq := (Bool.or_eq_false_iff.1 (Bool.or_eq_false_iff.1 h10).1).2; simpa using hq)
      have th10_3 := impl_within_t (by have hq := (Bool.or_eq_false_iff.1 h10).2; simpa using hq)
      refine ad 6 ?_
      exact rz (rs := [.tmp 2]) (congrArg (fun x => [Re.c (.string x)]) hM)

/- F34 loop.example/g00974/spec.ActLine -/
def spec_ActLine (p0 : Deed) : ByteArray := bif (((!(spec_ActOk p0)) || (!(decide ((spec_l38Told p0) = p0)))) || (!(spec_l38Fits p0.N))) || (!(spec_l38Fits p0.M)) then ⟨#[]⟩ else (bif (decide (p0.Kind = 8)) || ((decide (p0.Kind = 9)) || (decide (p0.Kind = 10))) then (spec_ActName p0.Kind) else (bif (decide (p0.Kind = 2)) || (decide (p0.Kind = 7)) then (bif decide ((spec_CallLine p0.Call) = ⟨#[]⟩) then ⟨#[]⟩ else (((((spec_ActName p0.Kind) ++ ⟨#[32]⟩) ++ (spec_Decimal p0.N)) ++ ⟨#[32]⟩) ++ (spec_CallLine p0.Call))) else (bif decide (p0.Kind = 4) then (((((spec_ActName p0.Kind) ++ ⟨#[32]⟩) ++ (spec_Decimal p0.N)) ++ ⟨#[32]⟩) ++ (spec_Decimal p0.M)) else (((spec_ActName p0.Kind) ++ ⟨#[32]⟩) ++ (spec_Decimal p0.N)))))
theorem c_spec_ActLine (p0 : Deed) : CTs 34 [.o (.st Deed _ inferInstance p0)] [Re.c (.string (spec_ActLine p0))] := by
  refine en Tryz.func34 Tryz.ntmps34 fun w hG hgd => ?_
  obtain ⟨hg_p0, _⟩ := hgd
  have hM := spec_ActLine.eq_1 p0
  have hda : (spec_Decimal p0.N).size ≤ 20 := spec_Decimal_size hg_p0.2.1
  have hdb : (spec_Decimal p0.M).size ≤ 20 := spec_Decimal_size hg_p0.2.2.1
  have hdc : (spec_CallLine p0.Call).size ≤ 610 := spec_CallLine_size hg_p0.2.2.2
  have han := spec_ActName_size p0.Kind
  refine ad 7 ?_
  refine dr 21 fun _ _ _ _ _ hb => ?_
  refine tk [0] ?_
  refine on 1 [0] (cl (c_spec_ActOk p0) fok104) ?_
  refine tk [2, 3, 4, 6] ?_
  refine on 5 [0] (cGs (hct := fun hB => (c_spec_l38Told p0)) (hfn := fok105)) ?_
  refine on 7 [0] (qg (fun _ => (eqp56 (spec_l38Told p0) p0))) ?_
  refine tk [8, 9, 10, 11] ?_
  refine on 12 [0] (cG (hct := fun hB => (c_spec_l38Fits p0.N)) (hfn := fok106)) ?_
  refine tk [13, 14, 15, 16, 17] ?_
  refine on 18 [0] (cG (hct := fun hB => (c_spec_l38Fits p0.M)) (hfn := fok106)) ?_
  refine tk [19, 20] ?_
  refine dn hb ?_
  refine cd (fun h1 => ?_) (fun h1 => ?_)
  ·
    have hM := hM.trans (bt h1)
    refine ad 4 ?_
    exact rz (rs := [.tmp 2]) (congrArg (fun x => [Re.c (.string x)]) hM)
  ·
    have hM := hM.trans (bf h1)
    have th1_0 := spec_ActOk_t (by have hq := (Bool.or_eq_false_iff.1 (Bool.or_eq_false_iff.1 (Bool.or_eq_false_iff.1 h1).1).1).1; simpa using hq)
    refine ad 5 ?_
    refine op (cl (c_spec_ActName p0.Kind) fok37) ?_
    refine ad 15 ?_
    refine Run.mid ⟨72, 1, [(1, .pt 0 0), (3, .v (.string (spec_ActName p0.Kind))), (30, .v (.int .i64 p0.Kind)), (31, .v (.bool ((decide (p0.Kind = 8)) || ((decide (p0.Kind = 9)) || (decide (p0.Kind = 10))))))], [(0, .var [.v (.int .i64 p0.Kind), .v (.int .i64 p0.N), .v (.int .i64 p0.M), .v (.int .i64 p0.Call.Kind), .v (.string p0.Call.Name), .v (.string p0.Call.To), .v (.int .i64 p0.Call.A), .v (.int .i64 p0.Call.B), .v (.string p0.Call.Text)] 56)]⟩ ?_ ?_
    · refine cd (fun h2 => ?_) (fun h2 => ?_)
      ·
        refine ad 1 ?_
        exact Run.at [0] [0] (by first | exact su | (rw [h2]; exact su)) (by decide)
      ·
        refine ad 5 ?_
        refine Run.mid ⟨72, 1, [(1, .pt 0 0), (3, .v (.string (spec_ActName p0.Kind))), (30, .v (.int .i64 p0.Kind)), (31, .v (.bool ((decide (p0.Kind = 9)) || (decide (p0.Kind = 10)))))], [(0, .var [.v (.int .i64 p0.Kind), .v (.int .i64 p0.N), .v (.int .i64 p0.M), .v (.int .i64 p0.Call.Kind), .v (.string p0.Call.Name), .v (.string p0.Call.To), .v (.int .i64 p0.Call.A), .v (.int .i64 p0.Call.B), .v (.string p0.Call.Text)] 56)]⟩ ?_ ?_
        · refine cd (fun h3 => ?_) (fun h3 => ?_)
          ·
            refine ad 1 ?_
            exact Run.at [0] [0] (by first | exact su | (rw [h3]; exact su)) (by decide)
          ·
            refine ad 4 ?_
            exact Run.at [0] [0] (by first | exact su | (rw [h3]; exact su)) (by decide)
        exact Run.at [0] [0] (by first | exact su | (rw [h2]; exact su)) (by decide)
    refine cd (fun h4 => ?_) (fun h4 => ?_)
    ·
      have hM := hM.trans (bt h4)
      refine ad 5 ?_
      exact rz (rs := [.tmp 2]) (congrArg (fun x => [Re.c (.string x)]) hM)
    ·
      have hM := hM.trans (bf h4)
      refine ad 6 ?_
      refine Run.mid ⟨72, 1, [(1, .pt 0 0), (3, .v (.string (spec_ActName p0.Kind))), (30, .v (.int .i64 p0.Kind)), (36, .v (.bool ((decide (p0.Kind = 2)) || (decide (p0.Kind = 7)))))], [(0, .var [.v (.int .i64 p0.Kind), .v (.int .i64 p0.N), .v (.int .i64 p0.M), .v (.int .i64 p0.Call.Kind), .v (.string p0.Call.Name), .v (.string p0.Call.To), .v (.int .i64 p0.Call.A), .v (.int .i64 p0.Call.B), .v (.string p0.Call.Text)] 56)]⟩ ?_ ?_
      · refine cd (fun h5 => ?_) (fun h5 => ?_)
        ·
          refine ad 1 ?_
          exact Run.at [0] [0] (by first | exact su | (rw [h5]; exact su)) (by decide)
        ·
          refine ad 4 ?_
          exact Run.at [0] [0] (by first | exact su | (rw [h5]; exact su)) (by decide)
      refine cd (fun h6 => ?_) (fun h6 => ?_)
      ·
        have hM := hM.trans (bt h6)
        refine ad 4 ?_
        have hg7 : Dat.good (p0.Call : Call) := hg_p0.2.2.2
        have hs8 := spec_CallLine_size (p0 := p0.Call) (by assumption)
        refine op (cl (c_spec_CallLine p0.Call) fok35) ?_
        refine ad 8 ?_
        refine cd (fun h9 => ?_) (fun h9 => ?_)
        ·
          have hM := hM.trans (bt h9)
          refine ad 4 ?_
          exact rz (rs := [.tmp 2]) (congrArg (fun x => [Re.c (.string x)]) hM)
        ·
          have hM := hM.trans (bf h9)
          refine ad 4 ?_
          refine op (ca (hs := szt)) ?_
          refine ad 2 ?_
          have hs10 := spec_Decimal_size (p0 := p0.N) hg_p0.2.1
          refine op (cl (k_spec_Decimal p0.N hg_p0.2.1) fok48) ?_
          refine op (ca (hs := szt)) ?_
          refine op (ca (hs := szt)) ?_
          refine ad 1 ?_
          refine op (ca (hs := szt)) ?_
          refine ad 2 ?_
          exact rz (rs := [.tmp 2]) (congrArg (fun x => [Re.c (.string x)]) hM)
      ·
        have hM := hM.trans (bf h6)
        refine ad 5 ?_
        refine cd (fun h11 => ?_) (fun h11 => ?_)
        ·
          have hM := hM.trans (bt h11)
          refine ad 1 ?_
          refine dr 12 fun _ _ _ _ _ hb => ?_
          refine tk [0] ?_
          refine tx 1 (tca (hs := szt)) ?_
          refine tk [2, 3, 7, 8] ?_
          have hs12 := spec_Decimal_size (p0 := p0.N) hg_p0.2.1
          refine on 4 [0] (cl (k_spec_Decimal p0.N hg_p0.2.1) fok48) ?_
          refine tx 5 (tca (hs := szt)) ?_
          refine tx 6 (tca (hs := szt)) ?_
          have hs13 := spec_Decimal_size (p0 := p0.M) hg_p0.2.2.1
          refine on 9 [0] (cl (k_spec_Decimal p0.M hg_p0.2.2.1) fok48) ?_
          refine tx 10 (tca (hs := szt)) ?_
          refine tk [11] ?_
          refine dn hb ?_
          exact rz (rs := [.tmp 2]) (congrArg (fun x => [Re.c (.string x)]) hM)
        ·
          have hM := hM.trans (bf h11)
          refine ad 5 ?_
          refine op (ca (hs := szt)) ?_
          refine ad 2 ?_
          have hs14 := spec_Decimal_size (p0 := p0.N) hg_p0.2.1
          refine op (cl (k_spec_Decimal p0.N hg_p0.2.1) fok48) ?_
          refine op (ca (hs := szt)) ?_
          refine ad 2 ?_
          exact rz (rs := [.tmp 2]) (congrArg (fun x => [Re.c (.string x)]) hM)

end Go.Proofs.YtnjidaonbcbphaaGreatDoor.Fw
/-
  The reference and the program write the same line for an action. No condition.
-/
namespace Go.Proofs.YtnjidaonbcbphaaGreatDoor.Fw
open Go.RowKit
set_option linter.unusedVariables false
set_option linter.unusedSimpArgs false
set_option maxRecDepth 100000
theorem bif_swap {α : Type} (a b : Bool) (e x : α) : (bif a then e else (bif b then e else x)) = (bif b then e else (bif a then e else x)) := by cases a <;> cases b <;> rfl
theorem ActName_12 : ∀ n : Fin 12, impl_ActName ((n.val : Int) + 1) = spec_ActName ((n.val : Int) + 1) := by decide +kernel
theorem dec_comm {α : Type} [DecidableEq α] (a b : α) : decide (a = b) = decide (b = a) := by
  by_cases h : a = b
  · subst h; rfl
  · rw [decide_eq_false h, decide_eq_false (fun e => h e.symm)]
theorem ActLine_12 (N M : Int) (C : Call) (hN : I64 N) (hM : I64 M) (hC : Dat.good C) : ∀ n : Fin 12, impl_ActLine ⟨(n.val : Int) + 1, N, M, C⟩ = spec_ActLine ⟨(n.val : Int) + 1, N, M, C⟩
  | ⟨0, _⟩ => by
    have hL : impl_ActLine (⟨1, N, M, C⟩ : Deed) = (bif (((!(impl_ActOk (⟨1, N, M, C⟩ : Deed))) || (!(decide ((⟨1, N, M, C⟩ : Deed) = Deed.mk 1 N 0 (Call.mk 0 ⟨#[]⟩ ⟨#[]⟩ 0 0 ⟨#[]⟩))))) || (!(impl_within N 0 1000000000))) || (!(impl_within M 0 1000000000)) then ⟨#[]⟩ else (impl_ActName 1 ++ (⟨#[32]⟩ ++ impl_Decimal N))) := by kernel_rfl
    have hR : spec_ActLine (⟨1, N, M, C⟩ : Deed) = (bif (((!(spec_ActOk (⟨1, N, M, C⟩ : Deed))) || (!(decide (Deed.mk 1 N 0 (Call.mk 0 ⟨#[]⟩ ⟨#[]⟩ 0 0 ⟨#[]⟩) = (⟨1, N, M, C⟩ : Deed))))) || (!(spec_l38Fits N))) || (!(spec_l38Fits M)) then ⟨#[]⟩ else ((spec_ActName 1 ++ ⟨#[32]⟩) ++ spec_Decimal N)) := by kernel_rfl
    refine hL.trans (Eq.trans ?_ hR.symm)
    rw [show impl_ActName 1 = spec_ActName 1 from ActName_12 ⟨0, by decide⟩, dec_comm (Deed.mk 1 N 0 (Call.mk 0 ⟨#[]⟩ ⟨#[]⟩ 0 0 ⟨#[]⟩)) (⟨1, N, M, C⟩ : Deed)]
    rw [← Decimal_twin hN, bt_assoc]
    rfl
  | ⟨1, _⟩ => by
    have hL : impl_ActLine (⟨2, N, M, C⟩ : Deed) = (bif decide (impl_CallLine C = ⟨#[]⟩) then ⟨#[]⟩ else (bif (((!(impl_ActOk (⟨2, N, M, C⟩ : Deed))) || (!(decide ((⟨2, N, M, C⟩ : Deed) = Deed.mk 2 N 0 C)))) || (!(impl_within N 0 1000000000))) || (!(impl_within M 0 1000000000)) then ⟨#[]⟩ else ((impl_ActName 2 ++ (⟨#[32]⟩ ++ impl_Decimal N)) ++ (⟨#[32]⟩ ++ impl_CallLine C)))) := by kernel_rfl
    have hR : spec_ActLine (⟨2, N, M, C⟩ : Deed) = (bif (((!(spec_ActOk (⟨2, N, M, C⟩ : Deed))) || (!(decide (Deed.mk 2 N 0 C = (⟨2, N, M, C⟩ : Deed))))) || (!(spec_l38Fits N))) || (!(spec_l38Fits M)) then ⟨#[]⟩ else (bif decide (spec_CallLine C = ⟨#[]⟩) then ⟨#[]⟩ else ((((spec_ActName 2 ++ ⟨#[32]⟩) ++ spec_Decimal N) ++ ⟨#[32]⟩) ++ spec_CallLine C))) := by kernel_rfl
    refine hL.trans (Eq.trans ?_ hR.symm)
    rw [show impl_ActName 2 = spec_ActName 2 from ActName_12 ⟨1, by decide⟩, dec_comm (Deed.mk 2 N 0 C) (⟨2, N, M, C⟩ : Deed)]
    rw [CallLine_twin hC, ← Decimal_twin hN, bt_assoc, bt_assoc]
    show (bif decide (spec_CallLine C = (⟨#[]⟩ : ByteArray)) then (⟨#[]⟩ : ByteArray) else (bif _ then (⟨#[]⟩ : ByteArray) else _)) = (bif _ then (⟨#[]⟩ : ByteArray) else (bif decide (spec_CallLine C = (⟨#[]⟩ : ByteArray)) then (⟨#[]⟩ : ByteArray) else _))
    exact bif_swap _ _ _ _
  | ⟨2, _⟩ => by
    have hL : impl_ActLine (⟨3, N, M, C⟩ : Deed) = (bif (((!(impl_ActOk (⟨3, N, M, C⟩ : Deed))) || (!(decide ((⟨3, N, M, C⟩ : Deed) = Deed.mk 3 N 0 (Call.mk 0 ⟨#[]⟩ ⟨#[]⟩ 0 0 ⟨#[]⟩))))) || (!(impl_within N 0 1000000000))) || (!(impl_within M 0 1000000000)) then ⟨#[]⟩ else (impl_ActName 3 ++ (⟨#[32]⟩ ++ impl_Decimal N))) := by kernel_rfl
    have hR : spec_ActLine (⟨3, N, M, C⟩ : Deed) = (bif (((!(spec_ActOk (⟨3, N, M, C⟩ : Deed))) || (!(decide (Deed.mk 3 N 0 (Call.mk 0 ⟨#[]⟩ ⟨#[]⟩ 0 0 ⟨#[]⟩) = (⟨3, N, M, C⟩ : Deed))))) || (!(spec_l38Fits N))) || (!(spec_l38Fits M)) then ⟨#[]⟩ else ((spec_ActName 3 ++ ⟨#[32]⟩) ++ spec_Decimal N)) := by kernel_rfl
    refine hL.trans (Eq.trans ?_ hR.symm)
    rw [show impl_ActName 3 = spec_ActName 3 from ActName_12 ⟨2, by decide⟩, dec_comm (Deed.mk 3 N 0 (Call.mk 0 ⟨#[]⟩ ⟨#[]⟩ 0 0 ⟨#[]⟩)) (⟨3, N, M, C⟩ : Deed)]
    rw [← Decimal_twin hN, bt_assoc]
    rfl
  | ⟨3, _⟩ => by
    have hL : impl_ActLine (⟨4, N, M, C⟩ : Deed) = (bif (((!(impl_ActOk (⟨4, N, M, C⟩ : Deed))) || (!(decide ((⟨4, N, M, C⟩ : Deed) = Deed.mk 4 N M (Call.mk 0 ⟨#[]⟩ ⟨#[]⟩ 0 0 ⟨#[]⟩))))) || (!(impl_within N 0 1000000000))) || (!(impl_within M 0 1000000000)) then ⟨#[]⟩ else ((impl_ActName 4 ++ (⟨#[32]⟩ ++ impl_Decimal N)) ++ (⟨#[32]⟩ ++ impl_Decimal M))) := by kernel_rfl
    have hR : spec_ActLine (⟨4, N, M, C⟩ : Deed) = (bif (((!(spec_ActOk (⟨4, N, M, C⟩ : Deed))) || (!(decide (Deed.mk 4 N M (Call.mk 0 ⟨#[]⟩ ⟨#[]⟩ 0 0 ⟨#[]⟩) = (⟨4, N, M, C⟩ : Deed))))) || (!(spec_l38Fits N))) || (!(spec_l38Fits M)) then ⟨#[]⟩ else ((((spec_ActName 4 ++ ⟨#[32]⟩) ++ spec_Decimal N) ++ ⟨#[32]⟩) ++ spec_Decimal M)) := by kernel_rfl
    refine hL.trans (Eq.trans ?_ hR.symm)
    rw [show impl_ActName 4 = spec_ActName 4 from ActName_12 ⟨3, by decide⟩, dec_comm (Deed.mk 4 N M (Call.mk 0 ⟨#[]⟩ ⟨#[]⟩ 0 0 ⟨#[]⟩)) (⟨4, N, M, C⟩ : Deed)]
    rw [← Decimal_twin hN, ← Decimal_twin hM, bt_assoc, bt_assoc]
    rfl
  | ⟨4, _⟩ => by
    have hL : impl_ActLine (⟨5, N, M, C⟩ : Deed) = (bif (((!(impl_ActOk (⟨5, N, M, C⟩ : Deed))) || (!(decide ((⟨5, N, M, C⟩ : Deed) = Deed.mk 5 N 0 (Call.mk 0 ⟨#[]⟩ ⟨#[]⟩ 0 0 ⟨#[]⟩))))) || (!(impl_within N 0 1000000000))) || (!(impl_within M 0 1000000000)) then ⟨#[]⟩ else (impl_ActName 5 ++ (⟨#[32]⟩ ++ impl_Decimal N))) := by kernel_rfl
    have hR : spec_ActLine (⟨5, N, M, C⟩ : Deed) = (bif (((!(spec_ActOk (⟨5, N, M, C⟩ : Deed))) || (!(decide (Deed.mk 5 N 0 (Call.mk 0 ⟨#[]⟩ ⟨#[]⟩ 0 0 ⟨#[]⟩) = (⟨5, N, M, C⟩ : Deed))))) || (!(spec_l38Fits N))) || (!(spec_l38Fits M)) then ⟨#[]⟩ else ((spec_ActName 5 ++ ⟨#[32]⟩) ++ spec_Decimal N)) := by kernel_rfl
    refine hL.trans (Eq.trans ?_ hR.symm)
    rw [show impl_ActName 5 = spec_ActName 5 from ActName_12 ⟨4, by decide⟩, dec_comm (Deed.mk 5 N 0 (Call.mk 0 ⟨#[]⟩ ⟨#[]⟩ 0 0 ⟨#[]⟩)) (⟨5, N, M, C⟩ : Deed)]
    rw [← Decimal_twin hN, bt_assoc]
    rfl
  | ⟨5, _⟩ => by
    have hL : impl_ActLine (⟨6, N, M, C⟩ : Deed) = (bif (((!(impl_ActOk (⟨6, N, M, C⟩ : Deed))) || (!(decide ((⟨6, N, M, C⟩ : Deed) = Deed.mk 6 N 0 (Call.mk 0 ⟨#[]⟩ ⟨#[]⟩ 0 0 ⟨#[]⟩))))) || (!(impl_within N 0 1000000000))) || (!(impl_within M 0 1000000000)) then ⟨#[]⟩ else (impl_ActName 6 ++ (⟨#[32]⟩ ++ impl_Decimal N))) := by kernel_rfl
    have hR : spec_ActLine (⟨6, N, M, C⟩ : Deed) = (bif (((!(spec_ActOk (⟨6, N, M, C⟩ : Deed))) || (!(decide (Deed.mk 6 N 0 (Call.mk 0 ⟨#[]⟩ ⟨#[]⟩ 0 0 ⟨#[]⟩) = (⟨6, N, M, C⟩ : Deed))))) || (!(spec_l38Fits N))) || (!(spec_l38Fits M)) then ⟨#[]⟩ else ((spec_ActName 6 ++ ⟨#[32]⟩) ++ spec_Decimal N)) := by kernel_rfl
    refine hL.trans (Eq.trans ?_ hR.symm)
    rw [show impl_ActName 6 = spec_ActName 6 from ActName_12 ⟨5, by decide⟩, dec_comm (Deed.mk 6 N 0 (Call.mk 0 ⟨#[]⟩ ⟨#[]⟩ 0 0 ⟨#[]⟩)) (⟨6, N, M, C⟩ : Deed)]
    rw [← Decimal_twin hN, bt_assoc]
    rfl
  | ⟨6, _⟩ => by
    have hL : impl_ActLine (⟨7, N, M, C⟩ : Deed) = (bif decide (impl_CallLine C = ⟨#[]⟩) then ⟨#[]⟩ else (bif (((!(impl_ActOk (⟨7, N, M, C⟩ : Deed))) || (!(decide ((⟨7, N, M, C⟩ : Deed) = Deed.mk 7 N 0 C)))) || (!(impl_within N 0 1000000000))) || (!(impl_within M 0 1000000000)) then ⟨#[]⟩ else ((impl_ActName 7 ++ (⟨#[32]⟩ ++ impl_Decimal N)) ++ (⟨#[32]⟩ ++ impl_CallLine C)))) := by kernel_rfl
    have hR : spec_ActLine (⟨7, N, M, C⟩ : Deed) = (bif (((!(spec_ActOk (⟨7, N, M, C⟩ : Deed))) || (!(decide (Deed.mk 7 N 0 C = (⟨7, N, M, C⟩ : Deed))))) || (!(spec_l38Fits N))) || (!(spec_l38Fits M)) then ⟨#[]⟩ else (bif decide (spec_CallLine C = ⟨#[]⟩) then ⟨#[]⟩ else ((((spec_ActName 7 ++ ⟨#[32]⟩) ++ spec_Decimal N) ++ ⟨#[32]⟩) ++ spec_CallLine C))) := by kernel_rfl
    refine hL.trans (Eq.trans ?_ hR.symm)
    rw [show impl_ActName 7 = spec_ActName 7 from ActName_12 ⟨6, by decide⟩, dec_comm (Deed.mk 7 N 0 C) (⟨7, N, M, C⟩ : Deed)]
    rw [CallLine_twin hC, ← Decimal_twin hN, bt_assoc, bt_assoc]
    show (bif decide (spec_CallLine C = (⟨#[]⟩ : ByteArray)) then (⟨#[]⟩ : ByteArray) else (bif _ then (⟨#[]⟩ : ByteArray) else _)) = (bif _ then (⟨#[]⟩ : ByteArray) else (bif decide (spec_CallLine C = (⟨#[]⟩ : ByteArray)) then (⟨#[]⟩ : ByteArray) else _))
    exact bif_swap _ _ _ _
  | ⟨7, _⟩ => by
    have hL : impl_ActLine (⟨8, N, M, C⟩ : Deed) = (bif (((!(impl_ActOk (⟨8, N, M, C⟩ : Deed))) || (!(decide ((⟨8, N, M, C⟩ : Deed) = Deed.mk 8 0 0 (Call.mk 0 ⟨#[]⟩ ⟨#[]⟩ 0 0 ⟨#[]⟩))))) || (!(impl_within N 0 1000000000))) || (!(impl_within M 0 1000000000)) then ⟨#[]⟩ else impl_ActName 8) := by kernel_rfl
    have hR : spec_ActLine (⟨8, N, M, C⟩ : Deed) = (bif (((!(spec_ActOk (⟨8, N, M, C⟩ : Deed))) || (!(decide (Deed.mk 8 0 0 (Call.mk 0 ⟨#[]⟩ ⟨#[]⟩ 0 0 ⟨#[]⟩) = (⟨8, N, M, C⟩ : Deed))))) || (!(spec_l38Fits N))) || (!(spec_l38Fits M)) then ⟨#[]⟩ else spec_ActName 8) := by kernel_rfl
    refine hL.trans (Eq.trans ?_ hR.symm)
    rw [show impl_ActName 8 = spec_ActName 8 from ActName_12 ⟨7, by decide⟩, dec_comm (Deed.mk 8 0 0 (Call.mk 0 ⟨#[]⟩ ⟨#[]⟩ 0 0 ⟨#[]⟩)) (⟨8, N, M, C⟩ : Deed)]
    rfl
  | ⟨8, _⟩ => by
    have hL : impl_ActLine (⟨9, N, M, C⟩ : Deed) = (bif (((!(impl_ActOk (⟨9, N, M, C⟩ : Deed))) || (!(decide ((⟨9, N, M, C⟩ : Deed) = Deed.mk 9 0 0 (Call.mk 0 ⟨#[]⟩ ⟨#[]⟩ 0 0 ⟨#[]⟩))))) || (!(impl_within N 0 1000000000))) || (!(impl_within M 0 1000000000)) then ⟨#[]⟩ else impl_ActName 9) := by kernel_rfl
    have hR : spec_ActLine (⟨9, N, M, C⟩ : Deed) = (bif (((!(spec_ActOk (⟨9, N, M, C⟩ : Deed))) || (!(decide (Deed.mk 9 0 0 (Call.mk 0 ⟨#[]⟩ ⟨#[]⟩ 0 0 ⟨#[]⟩) = (⟨9, N, M, C⟩ : Deed))))) || (!(spec_l38Fits N))) || (!(spec_l38Fits M)) then ⟨#[]⟩ else spec_ActName 9) := by kernel_rfl
    refine hL.trans (Eq.trans ?_ hR.symm)
    rw [show impl_ActName 9 = spec_ActName 9 from ActName_12 ⟨8, by decide⟩, dec_comm (Deed.mk 9 0 0 (Call.mk 0 ⟨#[]⟩ ⟨#[]⟩ 0 0 ⟨#[]⟩)) (⟨9, N, M, C⟩ : Deed)]
    rfl
  | ⟨9, _⟩ => by
    have hL : impl_ActLine (⟨10, N, M, C⟩ : Deed) = (bif (((!(impl_ActOk (⟨10, N, M, C⟩ : Deed))) || (!(decide ((⟨10, N, M, C⟩ : Deed) = Deed.mk 10 0 0 (Call.mk 0 ⟨#[]⟩ ⟨#[]⟩ 0 0 ⟨#[]⟩))))) || (!(impl_within N 0 1000000000))) || (!(impl_within M 0 1000000000)) then ⟨#[]⟩ else impl_ActName 10) := by kernel_rfl
    have hR : spec_ActLine (⟨10, N, M, C⟩ : Deed) = (bif (((!(spec_ActOk (⟨10, N, M, C⟩ : Deed))) || (!(decide (Deed.mk 10 0 0 (Call.mk 0 ⟨#[]⟩ ⟨#[]⟩ 0 0 ⟨#[]⟩) = (⟨10, N, M, C⟩ : Deed))))) || (!(spec_l38Fits N))) || (!(spec_l38Fits M)) then ⟨#[]⟩ else spec_ActName 10) := by kernel_rfl
    refine hL.trans (Eq.trans ?_ hR.symm)
    rw [show impl_ActName 10 = spec_ActName 10 from ActName_12 ⟨9, by decide⟩, dec_comm (Deed.mk 10 0 0 (Call.mk 0 ⟨#[]⟩ ⟨#[]⟩ 0 0 ⟨#[]⟩)) (⟨10, N, M, C⟩ : Deed)]
    rfl
  | ⟨10, _⟩ => by
    have hL : impl_ActLine (⟨11, N, M, C⟩ : Deed) = (bif (((!(impl_ActOk (⟨11, N, M, C⟩ : Deed))) || (!(decide ((⟨11, N, M, C⟩ : Deed) = Deed.mk 11 N 0 (Call.mk 0 ⟨#[]⟩ ⟨#[]⟩ 0 0 ⟨#[]⟩))))) || (!(impl_within N 0 1000000000))) || (!(impl_within M 0 1000000000)) then ⟨#[]⟩ else (impl_ActName 11 ++ (⟨#[32]⟩ ++ impl_Decimal N))) := by kernel_rfl
    have hR : spec_ActLine (⟨11, N, M, C⟩ : Deed) = (bif (((!(spec_ActOk (⟨11, N, M, C⟩ : Deed))) || (!(decide (Deed.mk 11 N 0 (Call.mk 0 ⟨#[]⟩ ⟨#[]⟩ 0 0 ⟨#[]⟩) = (⟨11, N, M, C⟩ : Deed))))) || (!(spec_l38Fits N))) || (!(spec_l38Fits M)) then ⟨#[]⟩ else ((spec_ActName 11 ++ ⟨#[32]⟩) ++ spec_Decimal N)) := by kernel_rfl
    refine hL.trans (Eq.trans ?_ hR.symm)
    rw [show impl_ActName 11 = spec_ActName 11 from ActName_12 ⟨10, by decide⟩, dec_comm (Deed.mk 11 N 0 (Call.mk 0 ⟨#[]⟩ ⟨#[]⟩ 0 0 ⟨#[]⟩)) (⟨11, N, M, C⟩ : Deed)]
    rw [← Decimal_twin hN, bt_assoc]
    rfl
  | ⟨11, _⟩ => by
    have hL : impl_ActLine (⟨12, N, M, C⟩ : Deed) = (bif (((!(impl_ActOk (⟨12, N, M, C⟩ : Deed))) || (!(decide ((⟨12, N, M, C⟩ : Deed) = Deed.mk 12 N 0 (Call.mk 0 ⟨#[]⟩ ⟨#[]⟩ 0 0 ⟨#[]⟩))))) || (!(impl_within N 0 1000000000))) || (!(impl_within M 0 1000000000)) then ⟨#[]⟩ else (impl_ActName 12 ++ (⟨#[32]⟩ ++ impl_Decimal N))) := by kernel_rfl
    have hR : spec_ActLine (⟨12, N, M, C⟩ : Deed) = (bif (((!(spec_ActOk (⟨12, N, M, C⟩ : Deed))) || (!(decide (Deed.mk 12 N 0 (Call.mk 0 ⟨#[]⟩ ⟨#[]⟩ 0 0 ⟨#[]⟩) = (⟨12, N, M, C⟩ : Deed))))) || (!(spec_l38Fits N))) || (!(spec_l38Fits M)) then ⟨#[]⟩ else ((spec_ActName 12 ++ ⟨#[32]⟩) ++ spec_Decimal N)) := by kernel_rfl
    refine hL.trans (Eq.trans ?_ hR.symm)
    rw [show impl_ActName 12 = spec_ActName 12 from ActName_12 ⟨11, by decide⟩, dec_comm (Deed.mk 12 N 0 (Call.mk 0 ⟨#[]⟩ ⟨#[]⟩ 0 0 ⟨#[]⟩)) (⟨12, N, M, C⟩ : Deed)]
    rw [← Decimal_twin hN, bt_assoc]
    rfl
  | ⟨n + 12, h⟩ => by omega
theorem actFields_out {k : Int} (h : ¬ (1 ≤ k ∧ k ≤ 12)) : impl_actFields k = ⟨#[]⟩ := by
  unfold impl_actFields
  simp only [show (decide (k = 1)) = false by simp; omega, show (decide (k = 2)) = false by simp; omega, show (decide (k = 3)) = false by simp; omega, show (decide (k = 4)) = false by simp; omega, show (decide (k = 5)) = false by simp; omega, show (decide (k = 6)) = false by simp; omega, show (decide (k = 7)) = false by simp; omega, show (decide (k = 11)) = false by simp; omega, show (decide (k = 12)) = false by simp; omega, Bool.or_false, cond_false]
theorem ActLine_twin {p0 : Deed} (hg : Dat.good p0) : impl_ActLine p0 = spec_ActLine p0 := by
  by_cases hk : 1 ≤ p0.Kind ∧ p0.Kind ≤ 12
  · obtain ⟨K, N, M, C⟩ := p0
    obtain ⟨n, hn⟩ : ∃ n : Fin 12, K = (n.val : Int) + 1 := ⟨⟨(K - 1).toNat, by have := hk.1; have := hk.2; simp only at *; omega⟩, by have := hk.1; show K = (((K - 1).toNat : Nat) : Int) + 1; simp only at *; omega⟩
    subst hn
    exact ActLine_12 N M C hg.2.1 hg.2.2.1 hg.2.2.2 n
  · have hok : impl_ActOk p0 = false := by
      cases h : impl_ActOk p0 with
      | false => rfl
      | true => exact absurd (impl_ActOk_t h) hk
    have hok2 : spec_ActOk p0 = false := hok
    unfold impl_ActLine spec_ActLine
    rw [actFields_out hk]
    show (bif (((!(impl_ActOk p0)) || _) || _) || _ then _ else _) = _
    simp only [hok, hok2, Bool.not_false, Bool.true_or, cond_true]

end Go.Proofs.YtnjidaonbcbphaaGreatDoor.Fw

/-
  What a cursor over drawn bytes is. No condition.
-/
namespace Go.Proofs.YtnjidaonbcbphaaGreatDoor.Fw
open Go.RowKit
set_option linter.unusedVariables false
set_option linter.unusedSimpArgs false
set_option maxRecDepth 100000
structure Cur where
  i : Nat
  h : Int
theorem andI_in (x y : Int) : I64 (andI .i64 x y) := I64_wrap _
theorem I64_tmod {x y : Int} (h : I64 x) : I64 (Int.tmod x y) := by
  have h1 : (Int.tmod x y).natAbs ≤ x.natAbs := by
    rw [Int.natAbs_tmod]
    exact Nat.mod_le _ _
  have h2 : 0 ≤ x → 0 ≤ Int.tmod x y := fun h => Int.tmod_nonneg _ h
  have h3 : x ≤ 0 → Int.tmod x y ≤ 0 := fun h => by
    have := Int.tmod_nonneg y (show 0 ≤ -x by omega)
    rw [Int.neg_tmod] at this
    omega
  unfold I64 at h ⊢
  omega
end Go.Proofs.YtnjidaonbcbphaaGreatDoor.Fw

/- Contracts: each call returns what the model says. By program (wip/am/gen2.py). -/
namespace Go.Proofs.YtnjidaonbcbphaaGreatDoor.Fw
open Go.RowKit
set_option linter.unusedVariables false
set_option maxRecDepth 100000

theorem fok161 : FnOk Tryz.prog 161 := ⟨_, Tryz.func161, rfl, by kernel_rfl⟩
/- F80 loop.example/g00974/spec.l01New -/
def spec_l01New_l1 (p0 : List (UInt8)) (k_1 : Int → Cur) : Nat → Int → Nat → Cur
  | 0, v3_1, i_1 => k_1 v3_1
  | n_1 + 1, v3_1, i_1 => bif (decide ((i_1 : Int) < (p0.length : Int))) && (decide ((i_1 : Int) < 4000)) then (spec_l01New_l1 p0 k_1 n_1 (andI .i64 (IntKind.i64.wrap ((IntKind.i64.wrap ((IntKind.i64.wrap (v3_1 * 131)) + (IntKind.i64.wrap ((nth p0 i_1).toNat : Int)))) + 7)) 1073741823) (i_1 + 1)) else (k_1 v3_1)
theorem spec_l01New_l1_x (p0 : List (UInt8)) (k_1 : Int → Cur) (fu : Nat) (v3_1 : Int) (i_1 : Nat) (h : ((decide ((i_1 : Int) < (p0.length : Int))) && (decide ((i_1 : Int) < 4000))) = false) : spec_l01New_l1 p0 k_1 fu v3_1 i_1 = k_1 v3_1 := by
  cases fu with
  | zero => rfl
  | succ n => exact (bf h)
def spec_l01New (p0 : List (UInt8)) : Cur := spec_l01New_l1 p0 (fun e => (Cur.mk 0 e)) (p0.length - 0) (IntKind.i64.wrap (94701 + (p0.length : Int))) 0
theorem c_spec_l01New (p0 : List (UInt8)) : CTMs 80 1 1 [] [(0, .ros UInt8 instDatUInt8 p0)] [.sl 0 p0.length] [(1, .var [.sl 0 p0.length, .v (.int .i64 ((spec_l01New p0).i : Int)), .v (.int .i64 ((spec_l01New p0).h))] 183)] 1 [.pt 1 0] True := by
  refine enM Tryz.func80 Tryz.ntmps80 fun S w p hG hb hg => ?_
  refine Run.cg (σ' := ⟨32, 1, [(0, .sl 0 p0.length)], [(0, .ros UInt8 instDatUInt8 p0), (0, .pin (p 0))]⟩) rfl ?_
  refine gd 0 fun hg_p0 => ?_
  have hl_p0 : p0.length ≤ 9223372036854775807 := hg_p0.1
  have hM := spec_l01New.eq_1 p0
  refine ad 17 ?_
  refine Run.loopkM (ι := Nat × Int × Nat) (κ := Int) (fun k s => spec_l01New_l1 p0 k s.1 s.2.1 s.2.2) (fun s => ⟨32, 1, [(0, .sl 0 p0.length), (3, .v (.int .i64 s.2.1)), (4, .v (.int .i64 (s.2.2 : Int)))], [(0, .ros UInt8 instDatUInt8 p0), (0, .pin (p 0))]⟩) (fun s => p0.length - s.2.2 ≤ s.1) (fun s => s.1) (fun e => ⟨32, 1, [(0, .sl 0 p0.length), (3, .v (.int .i64 e))], [(0, .ros UInt8 instDatUInt8 p0), (0, .pin (p 0))]⟩) (fun e => True) (p0.length - 0, IntKind.i64.wrap (94701 + (p0.length : Int)), 0) [0] [0, 1] hM (by first | exact ⟨by omega, by simp⟩ | omega | simp | (dsimp only; omega)) su (by decide) ?_ ?_
  ·
    rintro ev3_1 hv hM
    try dsimp only at hM hv ⊢
    refine ad 8 ?_
    exact rzM (rs := [.tmp 2]) [0, 1] [0, 2] (hg1 := trivial) (hG1 := congrArg (fun x => (True : Prop)) hM) (congrArg (fun x => ([(1, .var [.sl 0 p0.length, .v (.int .i64 (x.i : Int)), .v (.int .i64 x.h)] 183)] : List (Nat × En))) hM) (congrArg (fun x => ([.pt 1 0] : List V)) hM)
  ·
    intro k_1 hk_1
    rintro ⟨fu_1, v3_1, i_1⟩ hv_1 hE
    try dsimp only at hE
    have hi_1 := hv_1
    try dsimp only at hi_1
    refine ad 8 ?_
    refine ag 3 ?_
    refine ad 1 ?_
    refine cd (fun h1 => ?_) (fun h1 => ?_)
    ·
      obtain ⟨n_1, rfl⟩ : ∃ n, fu_1 = n + 1 := ⟨fu_1 - 1, by have := h1; have := om (p := 0 < p0.length - i_1); omega⟩
      have hM := hE.trans ((spec_l01New_l1.eq_2 _ _ _ _ _).trans (bt h1))
      refine ad 8 ?_
      have hg3 := good_nth (k := i_1) hg_p0 om
      refine op (ix (xs := p0) i_1 om) ?_
      refine ad 11 ?_
      rw [wrapN (i := i_1) (by first | omega | exact om)]
      refine ad 2 ?_
      exact Run.again (n_1, andI .i64 (IntKind.i64.wrap ((IntKind.i64.wrap ((IntKind.i64.wrap (v3_1 * 131)) + (IntKind.i64.wrap ((nth p0 i_1).toNat : Int)))) + 7)) 1073741823, (i_1 + 1)) [0] [1, 2] ⟨by first | omega | exact trivial | (dsimp only; omega) | (refine ⟨by omega, ?_⟩; simp_all; try omega), hM⟩ rfl (by exact Nat.lt_succ_self _) su (by decide)
    ·
      have hM := hE.trans (spec_l01New_l1_x p0 k_1 fu_1 v3_1 i_1 h1)
      refine ad 1 ?_
      exact Run.exitkM hk_1 v3_1 [0] [0, 1] hM (by trivial) su (by decide)

/- F161 loop.example/g00974/spec.l01Byte -/
def spec_l01Byte (p0b : List (UInt8)) (p0 : Cur) : Int × Cur := (bif (decide ((p0.i : Int) < (p0b.length : Int))) then (andI .i64 (IntKind.i64.wrap ((andI .i64 (xorI .i64 (shrI .i64 (IntKind.i64.wrap ((IntKind.i64.wrap (p0.h * 6364136223846793005)) + 1442695040888963407)) 33) (shrI .i64 (IntKind.i64.wrap ((IntKind.i64.wrap (p0.h * 6364136223846793005)) + 1442695040888963407)) 45)) 255) + (IntKind.i64.wrap ((nth p0b p0.i).toNat : Int)))) 255) else (andI .i64 (xorI .i64 (shrI .i64 (IntKind.i64.wrap ((IntKind.i64.wrap (p0.h * 6364136223846793005)) + 1442695040888963407)) 33) (shrI .i64 (IntKind.i64.wrap ((IntKind.i64.wrap (p0.h * 6364136223846793005)) + 1442695040888963407)) 45)) 255), (Cur.mk (bif (decide ((p0.i : Int) < (p0b.length : Int))) then (p0.i + 1) else p0.i) (IntKind.i64.wrap ((IntKind.i64.wrap (p0.h * 6364136223846793005)) + 1442695040888963407))))
theorem c_spec_l01Byte (p0b : List (UInt8)) (p0 : Cur) : CTMs 161 2 2 [(0, .var [.sl 1 p0b.length, .v (.int .i64 (p0.i : Int)), .v (.int .i64 p0.h)] 183)] [(1, .ros UInt8 instDatUInt8 p0b)] [.pt 0 0] [(0, .var [.sl 1 p0b.length, .v (.int .i64 (((spec_l01Byte p0b p0).2).i : Int)), .v (.int .i64 (((spec_l01Byte p0b p0).2).h))] 183)] 0 [.v (.int .i64 ((spec_l01Byte p0b p0).1))] (I64 ((spec_l01Byte p0b p0).1)) := by
  refine enM Tryz.func161 Tryz.ntmps161 fun S w p hG hb hg => ?_
  refine Run.cg (σ' := ⟨58, 2, [(0, .pt 0 0)], [(0, .var [.sl 1 p0b.length, .v (.int .i64 (p0.i : Int)), .v (.int .i64 p0.h)] 183), (1, .ros UInt8 instDatUInt8 p0b), (0, .pin (p 0)), (1, .pin (p 1))]⟩) rfl ?_
  refine gd 1 fun hg_p0b => ?_
  have hl_p0b : p0b.length ≤ 9223372036854775807 := hg_p0b.1
  have hM := spec_l01Byte.eq_1 p0b p0
  refine ad 18 ?_
  refine Run.mid ⟨58, 2, [(0, .pt 0 0), (3, .v (.int .i64 (andI .i64 (xorI .i64 (shrI .i64 (IntKind.i64.wrap ((IntKind.i64.wrap (p0.h * 6364136223846793005)) + 1442695040888963407)) 33) (shrI .i64 (IntKind.i64.wrap ((IntKind.i64.wrap (p0.h * 6364136223846793005)) + 1442695040888963407)) 45)) 255)))], [(0, .var [.sl 1 p0b.length, .v (.int .i64 (p0.i : Int)), .v (.int .i64 (IntKind.i64.wrap ((IntKind.i64.wrap (p0.h * 6364136223846793005)) + 1442695040888963407)))] 183), (1, .ros UInt8 instDatUInt8 p0b), (1, .pin (p 1)), (0, .pin (p 0))]⟩ ?_ ?_
  ·
    refine dr 13 fun _ _ _ _ _ hb => ?_
    refine tk [0, 1, 2, 3, 5, 6, 7, 8] ?_
    refine o2 4 9 ?_ ?_
    ·
      refine on1 4 [0, 1, 2, 3] (sr) ?_
      refine on 9 [0, 1, 2, 3] (sr) ?_
      refine tk [10, 11, 12] ?_
      refine dn hb ?_
      exact Run.at [0, 1] [0, 1, 3, 2] su (by decide)
    ·
      refine on1 9 [0, 1, 2, 3] (sr) ?_
      refine on 4 [0, 1, 2, 3] (sr) ?_
      refine tk [10, 11, 12] ?_
      refine dn hb ?_
      exact Run.at [0, 1] [0, 1, 3, 2] su (by decide)
  refine ad 2 ?_
  refine dr 10 fun _ _ _ _ _ hb => ?_
  refine tk [0, 1, 2, 3, 4, 5, 6, 7, 8, 9] ?_
  refine dn hb ?_
  refine Run.mid ⟨58, 2, [(0, .pt 0 0), (3, .v (.int .i64 (bif (decide ((p0.i : Int) < (p0b.length : Int))) then (andI .i64 (IntKind.i64.wrap ((andI .i64 (xorI .i64 (shrI .i64 (IntKind.i64.wrap ((IntKind.i64.wrap (p0.h * 6364136223846793005)) + 1442695040888963407)) 33) (shrI .i64 (IntKind.i64.wrap ((IntKind.i64.wrap (p0.h * 6364136223846793005)) + 1442695040888963407)) 45)) 255) + (IntKind.i64.wrap ((nth p0b p0.i).toNat : Int)))) 255) else (andI .i64 (xorI .i64 (shrI .i64 (IntKind.i64.wrap ((IntKind.i64.wrap (p0.h * 6364136223846793005)) + 1442695040888963407)) 33) (shrI .i64 (IntKind.i64.wrap ((IntKind.i64.wrap (p0.h * 6364136223846793005)) + 1442695040888963407)) 45)) 255))))], [(0, .var [.sl 1 p0b.length, .v (.int .i64 ((bif (decide ((p0.i : Int) < (p0b.length : Int))) then (p0.i + 1) else p0.i : Nat) : Int)), .v (.int .i64 (IntKind.i64.wrap ((IntKind.i64.wrap (p0.h * 6364136223846793005)) + 1442695040888963407)))] 183), (0, .pin (p 0)), (1, .ros UInt8 instDatUInt8 p0b), (1, .pin (p 1))]⟩ ?_ ?_
  · refine cd (fun h1 => ?_) (fun h1 => ?_)
    ·
      refine ad 1 ?_
      refine dr 15 fun _ _ _ _ _ hb => ?_
      refine tk [0, 1, 2, 3, 4, 5, 6, 7, 8] ?_
      have hg2 := good_nth (k := p0.i) hg_p0b om
      refine tx 9 (dx (xs := p0b) p0.i om) ?_
      refine tk [10, 11, 12, 13, 14] ?_
      refine dn hb ?_
      refine ad 7 ?_
      rw [wrapN (i := p0.i) (by first | omega | exact om)]
      refine ad 4 ?_
      exact Run.at [0, 1] [1, 4, 2, 3] (by first | exact su | (rw [h1]; exact su)) (by decide)
    ·
      refine ad 1 ?_
      exact Run.at [0, 1] [0, 3, 1, 2] (by first | exact su | (rw [h1]; exact su)) (by decide)
  refine ad 5 ?_
  exact rzM (rs := [.tmp 2]) [0, 1] [0, 1, 3] (hg1 := (bifI (andI_in _ _) (andI_in _ _))) (hG1 := congrArg (fun x => (I64 x.1 : Prop)) hM) (congrArg (fun x => ([(0, .var [.sl 1 p0b.length, .v (.int .i64 (x.2.i : Int)), .v (.int .i64 x.2.h)] 183)] : List (Nat × En))) hM) (congrArg (fun x => ([.v (.int .i64 x.1)] : List V)) hM)
theorem and255 (x : Int) : 0 ≤ andI .i64 x 255 ∧ andI .i64 x 255 ≤ 255 := by
  unfold andI
  have h : (BitVec.ofInt 64 x &&& BitVec.ofInt 64 255).toNat ≤ 255 := by
    rw [BitVec.toNat_and]
    exact Nat.le_trans Nat.and_le_right (by decide)
  show 0 ≤ IntKind.i64.wrap ((BitVec.ofInt 64 x &&& BitVec.ofInt 64 255).toNat : Int) ∧ _
  rw [show IntKind.bits .i64 = 64 from rfl, IntWalk.i64_in _ (by omega)]
  omega
theorem byte_in (b : List UInt8) (c : Cur) : 0 ≤ (spec_l01Byte b c).1 ∧ (spec_l01Byte b c).1 ≤ 255 := by
  unfold spec_l01Byte
  cases decide ((c.i : Int) < (b.length : Int))
  · exact and255 _
  · exact and255 _

/- F101 loop.example/g00974/spec.l01Below -/
def spec_l01Below (p0b : List (UInt8)) (p0 : Cur) (p1 : Int) : Int × Cur := bif decide (p1 ≤ 0) then (0, p0) else (bif decide (p1 ≤ 256) then (Int.tmod ((spec_l01Byte p0b p0).1) p1, ((spec_l01Byte p0b p0).2)) else (Int.tmod (IntKind.i64.wrap ((IntKind.i64.wrap ((IntKind.i64.wrap ((IntKind.i64.wrap (((spec_l01Byte p0b p0).1) * 16777216)) + (IntKind.i64.wrap (((spec_l01Byte p0b ((spec_l01Byte p0b p0).2)).1) * 65536)))) + (IntKind.i64.wrap (((spec_l01Byte p0b ((spec_l01Byte p0b ((spec_l01Byte p0b p0).2)).2)).1) * 256)))) + ((spec_l01Byte p0b ((spec_l01Byte p0b ((spec_l01Byte p0b ((spec_l01Byte p0b p0).2)).2)).2)).1))) p1, ((spec_l01Byte p0b ((spec_l01Byte p0b ((spec_l01Byte p0b ((spec_l01Byte p0b p0).2)).2)).2)).2)))
theorem c_spec_l01Below (p0b : List (UInt8)) (p0 : Cur) (p1 : Int) : CTMs 101 2 2 [(0, .var [.sl 1 p0b.length, .v (.int .i64 (p0.i : Int)), .v (.int .i64 p0.h)] 183)] [(1, .ros UInt8 instDatUInt8 p0b)] [.pt 0 0, .v (.int .i64 p1)] [(0, .var [.sl 1 p0b.length, .v (.int .i64 (((spec_l01Below p0b p0 p1).2).i : Int)), .v (.int .i64 (((spec_l01Below p0b p0 p1).2).h))] 183)] 0 [.v (.int .i64 ((spec_l01Below p0b p0 p1).1))] (I64 ((spec_l01Below p0b p0 p1).1)) := by
  refine enM Tryz.func101 Tryz.ntmps101 fun S w p hG hb hg => ?_
  refine Run.cg (σ' := ⟨37, 2, [(0, .pt 0 0), (1, .v (.int .i64 p1))], [(0, .var [.sl 1 p0b.length, .v (.int .i64 (p0.i : Int)), .v (.int .i64 p0.h)] 183), (1, .ros UInt8 instDatUInt8 p0b), (0, .pin (p 0)), (1, .pin (p 1))]⟩) rfl ?_
  refine gd 1 fun hg_p0b => ?_
  have hl_p0b : p0b.length ≤ 9223372036854775807 := hg_p0b.1
  have hM := spec_l01Below.eq_1 p0b p0 p1
  refine ad 10 ?_
  refine cd (fun h1 => ?_) (fun h1 => ?_)
  ·
    have hM := hM.trans (bt h1)
    refine ad 4 ?_
    exact rzM (rs := [.tmp 4]) [0, 1] [0, 2, 3] (hg1 := (gi 0)) (hG1 := congrArg (fun x => (I64 x.1 : Prop)) hM) (congrArg (fun x => ([(0, .var [.sl 1 p0b.length, .v (.int .i64 (x.2.i : Int)), .v (.int .i64 x.2.h)] 183)] : List (Nat × En))) hM) (congrArg (fun x => ([.v (.int .i64 x.1)] : List V)) hM)
  ·
    have hM := hM.trans (bf h1)
    refine ad 7 ?_
    refine cd (fun h2 => ?_) (fun h2 => ?_)
    ·
      have hM := hM.trans (bt h2)
      refine ad 3 ?_
      refine og (cm [0, 1] [0, 1] [0] [1] [1, 2, 3] (c_spec_l01Byte p0b p0) fok161) fun hg3 => ?_
      refine ad 1 ?_
      refine op (rm (hj := om)) ?_
      refine ad 2 ?_
      exact rzM (rs := [.tmp 4]) [0, 1] [0, 2, 3] (hg1 := (I64_tmod (y := p1) hg3)) (hG1 := congrArg (fun x => (I64 x.1 : Prop)) hM) (congrArg (fun x => ([(0, .var [.sl 1 p0b.length, .v (.int .i64 (x.2.i : Int)), .v (.int .i64 x.2.h)] 183)] : List (Nat × En))) hM) (congrArg (fun x => ([.v (.int .i64 x.1)] : List V)) hM)
    ·
      have hM := hM.trans (bf h2)
      refine ad 4 ?_
      refine og (cm [0, 1] [0, 1] [0] [1] [1, 2, 3] (c_spec_l01Byte p0b p0) fok161) fun hg4 => ?_
      refine ad 5 ?_
      refine og (cm [0, 1] [0, 1] [0] [1] [1, 2, 3] (c_spec_l01Byte p0b ((spec_l01Byte p0b p0).2)) fok161) fun hg5 => ?_
      refine ad 5 ?_
      refine og (cm [0, 1] [0, 1] [0] [1] [1, 2, 3] (c_spec_l01Byte p0b ((spec_l01Byte p0b ((spec_l01Byte p0b p0).2)).2)) fok161) fun hg6 => ?_
      refine ad 5 ?_
      refine og (cm [0, 1] [0, 1] [0] [1] [1, 2, 3] (c_spec_l01Byte p0b ((spec_l01Byte p0b ((spec_l01Byte p0b ((spec_l01Byte p0b p0).2)).2)).2)) fok161) fun hg7 => ?_
      refine ad 15 ?_
      refine op (rm (hj := om)) ?_
      refine ad 2 ?_
      exact rzM (rs := [.tmp 4]) [0, 1] [0, 2, 3] (hg1 := (I64_tmod (y := p1) (I64_wrap _))) (hG1 := congrArg (fun x => (I64 x.1 : Prop)) hM) (congrArg (fun x => ([(0, .var [.sl 1 p0b.length, .v (.int .i64 (x.2.i : Int)), .v (.int .i64 x.2.h)] 183)] : List (Nat × En))) hM) (congrArg (fun x => ([.v (.int .i64 x.1)] : List V)) hM)
theorem below_lt (b : List UInt8) (c : Cur) {n : Nat} (h0 : 0 < n) (h : n ≤ 256) : 0 ≤ (spec_l01Below b c (n : Int)).1 ∧ (spec_l01Below b c (n : Int)).1 < (n : Int) := by
  unfold spec_l01Below
  rw [decide_eq_false (show ¬ (n : Int) ≤ 0 by omega), decide_eq_true (show (n : Int) ≤ 256 by omega)]
  have h1 := byte_in b c
  refine ⟨Int.tmod_nonneg _ h1.1, ?_⟩
  exact Int.tmod_lt_of_pos _ (by omega)
theorem below_lti (b : List UInt8) (c : Cur) {n : Int} (h0 : 0 < n) (h : n ≤ 256) : 0 ≤ (spec_l01Below b c n).1 ∧ (spec_l01Below b c n).1 < n := by
  have := below_lt b c (n := n.toNat) (by omega) (by omega)
  rw [Int.toNat_of_nonneg (by omega)] at this
  exact this

end Go.Proofs.YtnjidaonbcbphaaGreatDoor.Fw
/-
  What is drawn, and the words that a line is parted into. No condition.
-/
namespace Go.Proofs.YtnjidaonbcbphaaGreatDoor.Fw
open Go.RowKit
set_option linter.unusedVariables false
set_option linter.unusedSimpArgs false
set_option maxRecDepth 100000
/-! ## What is drawn -/
theorem fieldsGo_small : ∀ (l cur : List UInt8), ∀ w ∈ Lib.fieldsGo cur l, w.length ≤ cur.length + l.length
  | [], cur, w, h => by
    rw [Lib.fieldsGo] at h
    split at h
    · cases h
    · rw [List.mem_singleton] at h
      subst h
      exact Nat.le_add_right _ _
  | b :: l, cur, w, h => by
    rw [List.length_cons]
    cases hb : Lib.isSp b with
    | false =>
      rw [Lib.fieldsGo_more cur b l hb] at h
      have := fieldsGo_small l _ w h
      rw [List.length_append, List.length_singleton] at this
      omega
    | true =>
      cases cur with
      | nil =>
        rw [Lib.fieldsGo_sp b l hb] at h
        have := fieldsGo_small l _ w h
        rw [List.length_nil] at this ⊢
        omega
      | cons a r =>
        rw [Lib.fieldsGo_end _ b l hb (by simp)] at h
        rcases List.mem_cons.1 h with rfl | h
        · omega
        · have := fieldsGo_small l _ w h
          rw [List.length_nil] at this
          omega
theorem parts_mem {x w : ByteArray} (h : w ∈ (impl_PartsOf x).1) : w.size ≤ 600 := by
  have h1 : x.size ≤ 600 := by
    refine Classical.byContradiction fun hn => ?_
    unfold impl_PartsOf at h
    rw [decide_eq_true (show (x.size : Int) > 600 by omega)] at h
    cases h
  have h2 : w ∈ fieldsS x := by
    cases hb : (impl_PartsOf x).2 with
    | false =>
      rw [PartsOf_twin] at hb h
      rw [parts_false hb] at h
      cases h
    | true =>
      by_cases hall : ∀ j, j < x.size → 32 ≤ (byteAt x j).toNat ∧ (byteAt x j).toNat ≤ 126
      · have e : impl_PartsOf x = finW (fieldsS x) := by
          unfold impl_PartsOf
          rw [decide_eq_false (show ¬ (x.size : Int) > 600 by omega)]
          exact impl_parts_good x hall _ _ (by omega)
        rw [e] at h hb
        unfold finW at h hb
        cases hc : decide (((fieldsS x).length : Int) > 12) with
        | true =>
          rw [hc] at hb
          cases hb
        | false =>
          rw [hc] at h
          exact h
      · obtain ⟨j, hj⟩ := Classical.not_forall.1 hall
        obtain ⟨hj1, hj2⟩ := Classical.not_imp.1 hj
        unfold impl_PartsOf at h
        rw [decide_eq_false (show ¬ (x.size : Int) > 600 by omega)] at h
        have h' : w ∈ (impl_PartsOf_l1 x (x.size - 0) 0).1 := h
        rw [impl_parts_bad x hj1 hj2 _ _ (by omega) (Nat.zero_le _)] at h'
        cases h'
  rw [fieldsS_toBA] at h2
  obtain ⟨l, hl, rfl⟩ := List.mem_map.1 h2
  have := fieldsGo_small _ _ l hl
  rw [sbytes_length, List.length_nil] at this
  show l.toArray.size ≤ 600
  rw [List.size_toArray]
  omega
theorem parts_small (x : ByteArray) (k : Nat) : (nth (impl_PartsOf x).1 k).size ≤ 281474976710656 := by
  rcases Nat.lt_or_ge k (impl_PartsOf x).1.length with hk | hk
  · have e : nth (impl_PartsOf x).1 k = (impl_PartsOf x).1[k] := by simp [nth, List.getD_eq_getElem?_getD, hk]
    rw [e]
    have := parts_mem (List.getElem_mem hk)
    omega
  · unfold nth
    rw [List.getD_eq_getElem?_getD, List.getElem?_eq_none hk]
    exact Nat.zero_le _
theorem good_Call {k x y : Int} {a b e : ByteArray} (h1 : I64 k) (h2 : a.size ≤ maxLen) (h3 : b.size ≤ maxLen) (h4 : I64 x) (h5 : I64 y) (h6 : e.size ≤ maxLen) : Dat.good (Call.mk k a b x y e) := ⟨h1, h2, h3, h4, h5, h6⟩
end Go.Proofs.YtnjidaonbcbphaaGreatDoor.Fw

/- Contracts: each call returns what the model says. By program (wip/am/gen2.py). -/
namespace Go.Proofs.YtnjidaonbcbphaaGreatDoor.Fw
open Go.RowKit
set_option linter.unusedVariables false
set_option maxRecDepth 100000

/- F102 loop.example/g00974/spec.l38Join -/
def spec_l38Join_l1 (p0 : List ByteArray) : Nat → ByteArray → Nat → ByteArray
  | 0, v3, i => v3
  | n + 1, v3, i => spec_l38Join_l1 p0 n ((bif (decide ((i : Int) > 0)) then (v3 ++ ⟨#[32]⟩) else v3) ++ (nth p0 i)) (i + 1)
def spec_l38Join (p0 : List ByteArray) : ByteArray := spec_l38Join_l1 p0 (p0.length - 0) ⟨#[]⟩ 0
theorem c_spec_l38Join (p0 : List ByteArray) (hj : p0.length ≤ 12 ∧ ∀ k, (nth p0 k).size ≤ 600) : CTs 102 [.o (.sl ByteArray instDatByteArray p0)] [Re.c (.string (spec_l38Join p0))] := by
  refine en Tryz.func102 Tryz.ntmps102 fun w hG hgd => ?_
  obtain ⟨hg_p0, _⟩ := hgd
  have hl_p0 : p0.length ≤ 9223372036854775807 := hg_p0.1
  have hM := spec_l38Join.eq_1 p0
  refine ad 14 ?_
  refine Run.loopM (ι := ByteArray × Nat) (fun s => spec_l38Join_l1 p0 (p0.length - s.2) s.1 s.2) (fun s => ⟨22, 1, [(0, .sl 0 p0.length), (3, .v (.string s.1)), (4, .v (.int .i64 (s.2 : Int)))], [(0, .ros ByteArray instDatByteArray p0)]⟩) (fun s => s.2 ≤ p0.length ∧ s.1.size ≤ 601 * s.2) (fun s => p0.length - s.2) (⟨#[]⟩, 0) [0] [0] hM (by exact ⟨by (try dsimp only); omega, Nat.zero_le _⟩) su (by decide) ?_
  rintro ⟨v3, i⟩ hv hE
  try dsimp only at hE
  obtain ⟨hi, hv0⟩ := hv
  try dsimp only at hi hv0
  refine ad 8 ?_
  refine cd (fun h1 => ?_) (fun h1 => ?_)
  ·
    have h1l : i < p0.length := by have := of_decide_eq_true h1; omega
    have hM := hE.trans ((congrArg (fun n => spec_l38Join_l1 p0 n v3 i) (show p0.length - i = (p0.length - (i + 1)) + 1 by omega)).trans (spec_l38Join_l1.eq_2 _ _ _ _))
    have hji := hj.2 i
    have hjl := hj.1
    refine ad 9 ?_
    refine Run.mid ⟨22, 1, [(0, .sl 0 p0.length), (3, .v (.string (bif (decide ((i : Int) > 0)) then (v3 ++ ⟨#[32]⟩) else v3))), (4, .v (.int .i64 (i : Int)))], [(0, .ros ByteArray instDatByteArray p0)]⟩ ?_ ?_
    · refine cd (fun h2 => ?_) (fun h2 => ?_)
      ·
        refine ad 2 ?_
        refine op (ca (hs := (by first | exact szt | ((try simp only [Bool.cond_eq_ite]); (repeat' split); all_goals ((try simp only [ByteArray.size_append, bts, List.size_toArray, List.length_cons, List.length_nil]); omega))))) ?_
        refine ad 2 ?_
        exact Run.at [0] [0] (by first | exact su | (rw [h2]; exact su)) (by decide)
      ·
        refine ad 1 ?_
        exact Run.at [0] [0] (by first | exact su | (rw [h2]; exact su)) (by decide)
    refine ad 4 ?_
    have hg4 := good_nth (k := i) hg_p0 om
    refine op (ix (xs := p0) i om) ?_
    refine ad 1 ?_
    refine op (ca (hs := (by first | exact szt | ((try simp only [Bool.cond_eq_ite]); (repeat' split); all_goals ((try simp only [ByteArray.size_append, bts, List.size_toArray, List.length_cons, List.length_nil]); omega))))) ?_
    refine ad 6 ?_
    rw [wrapN (i := i) (by first | omega | exact om)]
    refine ad 2 ?_
    exact Run.again ((bif (decide ((i : Int) > 0)) then (v3 ++ ⟨#[32]⟩) else v3) ++ (nth p0 i), (i + 1)) [0] [1] ⟨by exact ⟨by (try dsimp only); omega, by (try dsimp only); (try simp only [Bool.cond_eq_ite]); (repeat' split); all_goals ((try simp only [ByteArray.size_append, bts, List.size_toArray, List.length_cons, List.length_nil]); omega)⟩, hM⟩ rfl (by show _ - _ < _ - _; (try dsimp only); omega) su (by decide)
  ·
    have h1l : ¬ (i < p0.length) := by have := of_decide_eq_false h1; omega
    have hM := hE.trans ((congrArg (fun n => spec_l38Join_l1 p0 n v3 i) (show p0.length - i = 0 by omega)).trans (spec_l38Join_l1.eq_1 _ _ _))
    refine ad 6 ?_
    exact rz (rs := [.tmp 2]) (congrArg (fun x => [Re.c (.string x)]) hM)

end Go.Proofs.YtnjidaonbcbphaaGreatDoor.Fw
/-
  An action line is its words; the end of a reading. No condition.
-/
namespace Go.Proofs.YtnjidaonbcbphaaGreatDoor.Fw
open Go.RowKit
set_option linter.unusedVariables false
set_option linter.unusedSimpArgs false
set_option maxRecDepth 100000
/-! ## Lines and their words -/
def putW (v w : ByteArray) : ByteArray := (v ++ (⟨#[32]⟩ : ByteArray)) ++ w
def joinB : List ByteArray → ByteArray
  | [] => ⟨#[]⟩
  | w :: r => r.foldl putW w
theorem foldl_putW : ∀ (r : List ByteArray) (x u : ByteArray), x ++ r.foldl putW u = r.foldl putW (x ++ u)
  | [], x, u => rfl
  | w :: r, x, u => by
    rw [List.foldl_cons, List.foldl_cons, foldl_putW r]
    unfold putW
    simp only [ByteArray.append_assoc]
theorem joinB_app {ws us : List ByteArray} (h1 : ws ≠ []) (h2 : us ≠ []) : joinB (ws ++ us) = putW (joinB ws) (joinB us) := by
  cases ws with
  | nil => exact absurd rfl h1
  | cons w r =>
    cases us with
    | nil => exact absurd rfl h2
    | cons u s =>
      show (r ++ u :: s).foldl putW w = putW (r.foldl putW w) (s.foldl putW u)
      rw [List.foldl_append, List.foldl_cons]
      show s.foldl putW ((r.foldl putW w ++ (⟨#[32]⟩ : ByteArray)) ++ u) = (r.foldl putW w ++ (⟨#[32]⟩ : ByteArray)) ++ s.foldl putW u
      rw [foldl_putW]
def cleans (ws : List ByteArray) : Prop := ∀ w ∈ ws, clean (sbytes w)
theorem Wd.foldl {c : Call} : ∀ (r : List ByteArray) {v : ByteArray} {ws : List ByteArray}, Wd c v ws → cleans r → Wd c (r.foldl putW v) (ws ++ r)
  | [], v, ws, h, _ => by rw [List.append_nil]; exact h
  | w :: r, v, ws, h, hc => by
    have := Wd.foldl r (h.add (hc w (List.mem_cons_self))) (fun x hx => hc x (List.mem_cons_of_mem _ hx))
    rw [List.append_assoc] at this
    exact this
theorem joinB_wd (c : Call) {ws : List ByteArray} (h : cleans ws) : Wd c (joinB ws) ws := by
  cases ws with
  | nil => exact ⟨rfl, fun b hb => by cases hb⟩
  | cons w r =>
    have hw := h w (List.mem_cons_self)
    have h0 : Wd c w [w] := by
      refine ⟨?_, fun b hb => ?_⟩
      · rw [fieldsS_toBA, fieldsGo_clean _ _ hw.2 (by simpa using hw.1)]
        rfl
      · have := hw.2 b hb
        omega
    exact h0.foldl r fun x hx => h x (List.mem_cons_of_mem _ hx)
theorem joinB_inj {ws us : List ByteArray} (h1 : cleans ws) (h2 : cleans us) (h : joinB ws = joinB us) : ws = us := by
  rw [← (joinB_wd C0 h1).f, ← (joinB_wd C0 h2).f, h]
theorem parts_join {ws : List ByteArray} (h : cleans ws) (hs : (joinB ws).size ≤ 600) (hl : ws.length ≤ 12) : impl_PartsOf (joinB ws) = (ws, true) := by
  rw [parts_of hs (joinB_wd C0 h).o, (joinB_wd C0 h).f]
  unfold finW
  rw [decide_eq_false (show ¬ (ws.length : Int) > 12 by omega)]
  rfl
theorem empty_app (x : ByteArray) : (⟨#[]⟩ : ByteArray) ++ x = x := ByteArray.empty_append
theorem Join_l1 (ps : List ByteArray) : ∀ n i v, 1 ≤ i → i + n = ps.length → spec_l38Join_l1 ps n v i = (ps.drop i).foldl putW v := by
  intro n
  induction n with
  | zero =>
    intro i v _ h
    rw [List.drop_eq_nil_of_le (by omega)]
    rfl
  | succ n ih =>
    intro i v h1 h
    have hi : i < ps.length := by omega
    have e : nth ps i = ps[i] := by simp [nth, List.getD_eq_getElem?_getD, hi]
    rw [spec_l38Join_l1, decide_eq_true (show (i : Int) > 0 by omega), ih (i + 1) _ (by omega) (by omega), List.drop_eq_getElem_cons hi, e]
    rfl
theorem Join_is (ps : List ByteArray) : spec_l38Join ps = joinB ps := by
  cases ps with
  | nil => rfl
  | cons w r =>
    unfold spec_l38Join
    rw [List.length_cons, show r.length + 1 - 0 = r.length + 1 from rfl, spec_l38Join_l1, Join_l1 _ _ _ _ (by omega) (by rw [List.length_cons]; omega)]
    show r.foldl putW ((⟨#[]⟩ : ByteArray) ++ w) = r.foldl putW w
    rw [empty_app]
/-! ## A call's line is its words -/
theorem line_join {c : Call} (hk : 1 ≤ c.Kind ∧ c.Kind ≤ 22) (hx : c.Text.size ≤ 64) (hA : spec_l38Fits c.A = true) (hB : spec_l38Fits c.B = true) :
    ∀ n i v, i + n = (spec_l38Uses c.Kind).size → spec_CallLine_l1 c n v i = ⟨#[]⟩ ∨ (spec_CallLine_l1 c n v i = (lw c i n).foldl putW v ∧ cleans (lw c i n) ∧ (spec_CallLine_l1 c n v i).size ≤ v.size + 129 * n) := by
  have hu : ∀ i, i < (spec_l38Uses c.Kind).size → useB (byteAt (spec_l38Uses c.Kind) i) = true := fun i hi => by
    obtain ⟨m, hm⟩ := of22 hk
    rw [hm] at hi ⊢
    have h3 := spec_l38Uses_size ((m.val : Int) + 1)
    exact useB_22 m ⟨i, by omega⟩ hi
  intro n
  induction n with
  | zero => intro i v h; exact .inr ⟨rfl, (fun w hw => by cases hw), Nat.le_add_right _ _⟩
  | succ n ih =>
    intro i v h
    have go : ∀ w : ByteArray, clean (sbytes w) → w.size ≤ 128 → ftx c (byteAt (spec_l38Uses c.Kind) i) = w → spec_CallLine_l1 c (n + 1) v i = spec_CallLine_l1 c n ((v ++ (⟨#[32]⟩ : ByteArray)) ++ w) (i + 1) →
        spec_CallLine_l1 c (n + 1) v i = ⟨#[]⟩ ∨ (spec_CallLine_l1 c (n + 1) v i = (lw c i (n + 1)).foldl putW v ∧ cleans (lw c i (n + 1)) ∧ (spec_CallLine_l1 c (n + 1) v i).size ≤ v.size + 129 * (n + 1)) := fun w h1 h2 h3 h4 => by
      rw [h4]
      have el : lw c i (n + 1) = w :: lw c (i + 1) n := by
        unfold lw
        rw [List.range'_succ, List.map_cons, h3]
      rcases ih (i + 1) ((v ++ (⟨#[32]⟩ : ByteArray)) ++ w) (by omega) with e | ⟨e1, e2, e3⟩
      · exact .inl e
      · refine .inr ⟨?_, ?_, ?_⟩
        · rw [el]
          exact e1
        · rw [el]
          intro x hx
          rcases List.mem_cons.1 hx with rfl | hx
          · exact h1
          · exact e2 x hx
        · rw [sp_size] at e3
          omega
    have hi := hu i (by omega)
    rw [spec_CallLine_l1] at *
    have hgo := go
    revert hgo
    generalize hf : byteAt (spec_l38Uses c.Kind) i = u at hi ⊢
    intro hgo
    simp only [useB, Bool.or_eq_true, beq_iff_eq] at hi
    rcases hi with (((rfl | rfl) | rfl) | rfl) | rfl
    · rw [show ((UInt8.toNat 110 : Nat) : Int) = 110 from rfl] at *
      cases hn : spec_NameOk c.Name with
      | false => exact .inl rfl
      | true =>
        rw [hn] at hgo
        exact hgo c.Name (NameOk_clean hn).1 (by have := (NameOk_clean hn).2; omega) rfl rfl
    · rw [show ((UInt8.toNat 116 : Nat) : Int) = 116 from rfl] at *
      cases hn : spec_NameOk c.To with
      | false => exact .inl rfl
      | true =>
        rw [hn] at hgo
        exact hgo c.To (NameOk_clean hn).1 (by have := (NameOk_clean hn).2; omega) rfl rfl
    · exact hgo (spec_Decimal c.A) (dec_clean hA).1 (by have := (dec_clean hA).2; omega) rfl rfl
    · exact hgo (spec_Decimal c.B) (dec_clean hB).1 (by have := (dec_clean hB).2; omega) rfl rfl
    · exact hgo (hexText c.Text) (hexText_clean hx).1 (hexText_clean hx).2 rfl rfl
def cw (c : Call) : List ByteArray := spec_CallName c.Kind :: lw c 0 (spec_l38Uses c.Kind).size
theorem cw_len (c : Call) : 1 ≤ (cw c).length ∧ (cw c).length ≤ 4 := by
  have hu := spec_l38Uses_size c.Kind
  unfold cw lw
  rw [List.length_cons, List.length_map, List.length_range']
  omega
theorem CallLine_join {c : Call} (h : spec_CallLine c ≠ ⟨#[]⟩) : spec_CallLine c = joinB (cw c) ∧ cleans (cw c) ∧ (spec_CallLine c).size ≤ 397 := by
  obtain ⟨hk, _, hok, ht, hA, hB⟩ := CallLine_words c h
  obtain ⟨_, _, _, hx⟩ := spec_CallOk_t hok
  have e : spec_CallLine c = spec_CallLine_l1 c ((spec_l38Uses c.Kind).size - 0) (spec_CallName c.Kind) 0 := by
    unfold spec_CallLine
    rw [hok, ht, decide_eq_true rfl, hA, hB]
    rfl
  rw [e] at h ⊢
  have hn := spec_CallName_size c.Kind
  have hu := spec_l38Uses_size c.Kind
  rcases line_join hk hx hA hB ((spec_l38Uses c.Kind).size - 0) 0 (spec_CallName c.Kind) (by omega) with h' | ⟨h1, h2, h3⟩
  · exact absurd h' h
  · refine ⟨h1, fun w hw => ?_, by omega⟩
    rcases List.mem_cons.1 hw with rfl | hw
    · exact name_clean hk
    · exact h2 w hw
/-! ## An action's line is its words -/
theorem of12 {k : Int} (h : 1 ≤ k ∧ k ≤ 12) : ∃ n : Fin 12, k = (n.val : Int) + 1 := ⟨⟨(k - 1).toNat, by omega⟩, by show k = (((k - 1).toNat : Nat) : Int) + 1; omega⟩
theorem acleanB_12 : ∀ n : Fin 12, (sbytes (spec_ActName ((n.val : Int) + 1))).all (fun b => Nat.ble 33 b.toNat && Nat.ble b.toNat 126) = true ∧ (sbytes (spec_ActName ((n.val : Int) + 1))).isEmpty = false := by decide +kernel
theorem aname_clean {k : Int} (h : 1 ≤ k ∧ k ≤ 12) : clean (sbytes (spec_ActName k)) := by
  obtain ⟨n, rfl⟩ := of12 h
  exact clean_of (acleanB_12 n).1 (acleanB_12 n).2
def aw (a : Deed) : List ByteArray := bif (decide (a.Kind = 8)) || ((decide (a.Kind = 9)) || (decide (a.Kind = 10))) then [spec_ActName a.Kind] else (bif (decide (a.Kind = 2)) || (decide (a.Kind = 7)) then spec_ActName a.Kind :: spec_Decimal a.N :: cw a.Call else (bif decide (a.Kind = 4) then [spec_ActName a.Kind, spec_Decimal a.N, spec_Decimal a.M] else [spec_ActName a.Kind, spec_Decimal a.N]))
theorem ActLine_join' {a : Deed} (h : spec_ActLine a ≠ ⟨#[]⟩) : spec_ActLine a = joinB (aw a) ∧ cleans (aw a) ∧ (spec_ActLine a).size ≤ 597 ∧ (aw a).length ≤ 12 ∧ aw a ≠ [] ∧ spec_l38Told a = a := by
  cases hb : (((!(spec_ActOk a)) || (!(decide ((spec_l38Told a) = a)))) || (!(spec_l38Fits a.N))) || (!(spec_l38Fits a.M)) with
  | true =>
    unfold spec_ActLine at h
    rw [hb] at h
    exact absurd rfl h
  | false =>
    unfold spec_ActLine at h ⊢
    rw [hb] at h ⊢
    simp only [Bool.or_eq_false_iff, Bool.not_eq_false', decide_eq_true_eq] at hb
    obtain ⟨⟨⟨hok, ht⟩, hN⟩, hM⟩ := hb
    have hk := spec_ActOk_t hok
    have c0 := aname_clean hk
    have c1 := dec_clean hN
    have c2 := dec_clean hM
    have s0 := spec_ActName_size a.Kind
    rw [cond_false] at h ⊢
    unfold aw
    cases e1 : (decide (a.Kind = 8)) || ((decide (a.Kind = 9)) || (decide (a.Kind = 10))) with
    | true =>
      refine ⟨rfl, fun w hw => ?_, by show (spec_ActName a.Kind).size ≤ 597; omega, by show ([_] : List ByteArray).length ≤ 12; simp, by simp, ht⟩
      rw [List.mem_singleton.1 hw]
      exact c0
    | false =>
      rw [e1, cond_false] at h
      rw [cond_false, cond_false]
      cases e2 : (decide (a.Kind = 2)) || (decide (a.Kind = 7)) with
      | true =>
        rw [e2, cond_true] at h
        rw [cond_true, cond_true]
        cases e3 : decide ((spec_CallLine a.Call) = ⟨#[]⟩) with
        | true =>
          rw [e3] at h
          exact absurd rfl h
        | false =>
          obtain ⟨j1, j2, j3⟩ := CallLine_join (of_decide_eq_false e3)
          have hl := cw_len a.Call
          refine ⟨?_, fun w hw => ?_, ?_, by rw [List.length_cons, List.length_cons]; omega, by simp, ht⟩
          · show (putW (putW (spec_ActName a.Kind) (spec_Decimal a.N)) (spec_CallLine a.Call)) = joinB ([spec_ActName a.Kind, spec_Decimal a.N] ++ cw a.Call)
            rw [joinB_app (by simp) (by intro e; rw [e] at hl; simp at hl), j1]
            rfl
          · rcases List.mem_cons.1 hw with rfl | hw
            · exact c0
            · rcases List.mem_cons.1 hw with rfl | hw
              · exact c1.1
              · exact j2 w hw
          · have h1 := c1.2
            show (putW (putW (spec_ActName a.Kind) (spec_Decimal a.N)) (spec_CallLine a.Call)).size ≤ 597
            unfold putW
            rw [sp_size, sp_size]
            omega
      | false =>
        rw [cond_false, cond_false]
        cases e3 : decide (a.Kind = 4) with
        | true =>
          refine ⟨rfl, fun w hw => ?_, ?_, by show ([_, _, _] : List ByteArray).length ≤ 12; simp, by simp, ht⟩
          · rcases List.mem_cons.1 hw with rfl | hw
            · exact c0
            · rcases List.mem_cons.1 hw with rfl | hw
              · exact c1.1
              · rw [List.mem_singleton.1 hw]
                exact c2.1
          · have h1 := c1.2
            have h2 := c2.2
            show (putW (putW (spec_ActName a.Kind) (spec_Decimal a.N)) (spec_Decimal a.M)).size ≤ 597
            unfold putW
            rw [sp_size, sp_size]
            omega
        | false =>
          refine ⟨rfl, fun w hw => ?_, ?_, by show ([_, _] : List ByteArray).length ≤ 12; simp, by simp, ht⟩
          · rcases List.mem_cons.1 hw with rfl | hw
            · exact c0
            · rw [List.mem_singleton.1 hw]
              exact c1.1
          · have h1 := c1.2
            show (putW (spec_ActName a.Kind) (spec_Decimal a.N)).size ≤ 597
            unfold putW
            rw [sp_size]
            omega
theorem ActLine_join {a : Deed} (h : spec_ActLine a ≠ ⟨#[]⟩) : spec_ActLine a = joinB (aw a) ∧ cleans (aw a) ∧ (spec_ActLine a).size ≤ 600 ∧ (aw a).length ≤ 12 ∧ aw a ≠ [] ∧ spec_l38Told a = a :=
  let ⟨x1, x2, x3, x4⟩ := ActLine_join' h
  ⟨x1, x2, Nat.le_trans x3 (by decide), x4⟩
/-! ## The end of a reading -/
theorem same_nth {a b : List ByteArray} (hl : a.length = b.length) (h : ∀ j, j < a.length → nth a j = nth b j) : a = b := by
  apply List.ext_getElem hl
  intro j h1 h2
  have := h j h1
  simpa [nth, List.getD_eq_getElem?_getD, h1, h2] using this
theorem Equal_is (a b : List ByteArray) : slices_Equal_string a b = decide (a = b) := by
  have key : a.length = b.length → ∀ n i, i + n = a.length → slices_Equal_string_l1 a b n i = true → ∀ j, i ≤ j → j < a.length → nth a j = nth b j := by
    intro hl n
    induction n with
    | zero => intro i h _ j h1 h2; omega
    | succ n ih =>
      intro i h ht j h1 h2
      rw [slices_Equal_string_l1] at ht
      by_cases e : nth a i = nth b i
      · rw [decide_eq_true e] at ht
        by_cases ej : i = j
        · subst ej
          exact e
        · exact ih (i + 1) (by omega) ht j (by omega) h2
      · rw [decide_eq_false e] at ht
        cases ht
  by_cases e : a = b
  · subst e
    rw [same_refl, decide_eq_true rfl]
  · rw [decide_eq_false e]
    cases hs : slices_Equal_string a b with
    | false => rfl
    | true =>
      refine absurd ?_ e
      unfold slices_Equal_string at hs
      by_cases hl : a.length = b.length
      · rw [decide_eq_true (show (a.length : Int) = (b.length : Int) by omega)] at hs
        exact same_nth hl fun j hj => key hl (a.length - 0) 0 (by omega) hs j (Nat.zero_le _) hj
      · rw [decide_eq_false (show ¬ (a.length : Int) = (b.length : Int) by omega)] at hs
        cases hs
def D0 : Deed := Deed.mk 0 0 0 (Call.mk 0 ⟨#[]⟩ ⟨#[]⟩ 0 0 ⟨#[]⟩)
def finAI (ps : List ByteArray) (a : Deed) : Deed × Bool := bif !(slices_Equal_string ((impl_PartsOf (impl_ActLine a)).1) ps) then (D0, false) else (a, true)
def finAS (ps : List ByteArray) (a : Deed) : Deed × Bool := bif (decide ((spec_ActLine a) = ⟨#[]⟩)) || (!decide ((spec_ActLine a) = (spec_l38Join ps))) then (D0, false) else (a, true)
theorem finAS_is {ps : List ByteArray} {a : Deed} (hc : cleans ps) : finAS ps a = bif decide (spec_ActLine a ≠ ⟨#[]⟩ ∧ aw a = ps) then (a, true) else (D0, false) := by
  unfold finAS
  by_cases h : spec_ActLine a = ⟨#[]⟩
  · rw [decide_eq_true h, decide_eq_false (fun e : spec_ActLine a ≠ ⟨#[]⟩ ∧ aw a = ps => e.1 h)]
    rfl
  · rw [decide_eq_false h]
    obtain ⟨j1, j2, _⟩ := ActLine_join h
    by_cases e : aw a = ps
    · rw [decide_eq_true (⟨h, e⟩ : spec_ActLine a ≠ ⟨#[]⟩ ∧ aw a = ps), decide_eq_true (show spec_ActLine a = spec_l38Join ps by rw [j1, e, Join_is])]
      rfl
    · rw [decide_eq_false (fun h2 : spec_ActLine a ≠ ⟨#[]⟩ ∧ aw a = ps => e h2.2), decide_eq_false (fun h2 : spec_ActLine a = spec_l38Join ps => e (joinB_inj j2 hc (by rw [← j1, h2, Join_is])))]
      rfl
theorem finAI_is {ps : List ByteArray} {a : Deed} (hg : Dat.good a) (hp : ps ≠ []) : finAI ps a = bif decide (spec_ActLine a ≠ ⟨#[]⟩ ∧ aw a = ps) then (a, true) else (D0, false) := by
  unfold finAI
  rw [ActLine_twin hg, Equal_is]
  by_cases h : spec_ActLine a = ⟨#[]⟩
  · rw [h, decide_eq_false (fun e : (impl_PartsOf ⟨#[]⟩).1 = ps => hp e.symm), decide_eq_false (fun e : (⟨#[]⟩ : ByteArray) ≠ ⟨#[]⟩ ∧ aw a = ps => e.1 rfl)]
    rfl
  · obtain ⟨j1, j2, j3, j4, _⟩ := ActLine_join h
    have e : impl_PartsOf (spec_ActLine a) = (aw a, true) := by
      rw [j1] at j3 ⊢
      exact parts_join j2 j3 j4
    rw [e]
    by_cases e2 : aw a = ps
    · rw [decide_eq_true (⟨h, e2⟩ : spec_ActLine a ≠ ⟨#[]⟩ ∧ aw a = ps), decide_eq_true e2]
      rfl
    · rw [decide_eq_false (fun h2 : spec_ActLine a ≠ ⟨#[]⟩ ∧ aw a = ps => e2 h2.2), decide_eq_false e2]
      rfl
theorem fin_no {ps : List ByteArray} {a : Deed} (hc : cleans ps) (h : spec_ActLine a ≠ ⟨#[]⟩ → aw a ≠ ps) : finAS ps a = (D0, false) := by
  rw [finAS_is hc, decide_eq_false (fun e => h e.1 e.2)]
  rfl
/-! ## Words of a line that is read -/
theorem fieldsGo_cleans : ∀ (l cur : List UInt8), (∀ b ∈ l, 32 ≤ b.toNat ∧ b.toNat ≤ 126) → (∀ b ∈ cur, 33 ≤ b.toNat ∧ b.toNat ≤ 126) → ∀ w ∈ Lib.fieldsGo cur l, clean w
  | [], cur, _, hc, w, hw => by
    rw [Lib.fieldsGo] at hw
    split at hw
    · cases hw
    · rename_i h
      rw [List.mem_singleton] at hw
      subst hw
      exact ⟨by intro e; rw [e] at h; exact h rfl, hc⟩
  | b :: l, cur, hl, hc, w, hw => by
    have hb := hl b (List.mem_cons_self)
    have hl' : ∀ x ∈ l, 32 ≤ x.toNat ∧ x.toNat ≤ 126 := fun x hx => hl x (List.mem_cons_of_mem _ hx)
    cases hs : Lib.isSp b with
    | false =>
      rw [Lib.fieldsGo_more cur b l hs] at hw
      refine fieldsGo_cleans l _ hl' (fun x hx => ?_) w hw
      rcases List.mem_append.1 hx with hx | hx
      · exact hc x hx
      · rw [List.mem_singleton.1 hx]
        rw [isSp_in hb.1 hb.2] at hs
        have := of_decide_eq_false hs
        omega
    | true =>
      cases cur with
      | nil =>
        rw [Lib.fieldsGo_sp b l hs] at hw
        exact fieldsGo_cleans l [] hl' (fun x hx => by cases hx) w hw
      | cons a r =>
        rw [Lib.fieldsGo_end _ b l hs (by simp)] at hw
        rcases List.mem_cons.1 hw with rfl | hw
        · exact ⟨by simp, hc⟩
        · exact fieldsGo_cleans l [] hl' (fun x hx => by cases hx) w hw
theorem parts_facts (x : ByteArray) : cleans (impl_PartsOf x).1 ∧ (impl_PartsOf x).1.length ≤ 12 := by
  cases hb : (impl_PartsOf x).2 with
  | false =>
    have e : (impl_PartsOf x).1 = [] := by
      rw [PartsOf_twin] at hb ⊢
      exact parts_false hb
    rw [e]
    exact ⟨fun w hw => (by cases hw), Nat.zero_le _⟩
  | true =>
    have hs : x.size ≤ 600 := by
      refine Classical.byContradiction fun hn => ?_
      unfold impl_PartsOf at hb
      rw [decide_eq_true (show (x.size : Int) > 600 by omega)] at hb
      cases hb
    have hall : ∀ j, j < x.size → 32 ≤ (byteAt x j).toNat ∧ (byteAt x j).toNat ≤ 126 := by
      refine Classical.byContradiction fun hn => ?_
      obtain ⟨j, hj⟩ := Classical.not_forall.1 hn
      obtain ⟨hj1, hj2⟩ := Classical.not_imp.1 hj
      unfold impl_PartsOf at hb
      rw [decide_eq_false (show ¬ (x.size : Int) > 600 by omega)] at hb
      have hb' : (impl_PartsOf_l1 x (x.size - 0) 0).2 = true := hb
      rw [impl_parts_bad x hj1 hj2 _ _ (by omega) (Nat.zero_le _)] at hb'
      cases hb'
    have e : impl_PartsOf x = finW (fieldsS x) := by
      unfold impl_PartsOf
      rw [decide_eq_false (show ¬ (x.size : Int) > 600 by omega)]
      exact impl_parts_good x hall _ _ (by omega)
    rw [e] at hb ⊢
    unfold finW at hb ⊢
    cases hc : decide (((fieldsS x).length : Int) > 12) with
    | true =>
      rw [hc] at hb
      cases hb
    | false =>
      have := of_decide_eq_false hc
      refine ⟨fun w hw => ?_, by show (fieldsS x).length ≤ 12; omega⟩
      have hw' : w ∈ fieldsS x := hw
      rw [fieldsS_toBA] at hw'
      obtain ⟨l, hl, rfl⟩ := List.mem_map.1 hw'
      exact fieldsGo_cleans _ [] (fun b hb => by obtain ⟨j, hj, rfl⟩ := mem_at hb; exact hall j hj) (fun b hb => by cases hb) l hl
/-! ## What is read of a call is good -/
def small (p : List ByteArray) : Prop := p.length ≤ 1048576 ∧ ∀ k, (nth p k).size ≤ 281474976710656
theorem small_good {p : List ByteArray} (h : small p) : Dat.good p := by
  refine ⟨by have := h.1; omega, fun x hx => ?_⟩
  obtain ⟨j, hj, rfl⟩ := List.getElem_of_mem hx
  have := h.2 j
  have e : nth p j = p[j] := by simp [nth, List.getD_eq_getElem?_getD, hj]
  rw [e] at this
  show p[j].size ≤ maxLen
  unfold maxLen
  omega
theorem parts_smalls (x : ByteArray) : small (impl_PartsOf x).1 := ⟨by have := (parts_facts x).2; omega, parts_small x⟩
theorem cutL_drop (p : List ByteArray) (l : Nat) : cutL p l p.length = p.drop l := by
  unfold cutL
  simp
theorem small_drop {p : List ByteArray} (h : small p) (l : Nat) : small (cutL p l p.length) := by
  rw [cutL_drop]
  refine ⟨by rw [List.length_drop]; have := h.1; omega, fun k => ?_⟩
  have : nth (p.drop l) k = nth p (l + k) := by simp [nth, List.getD_eq_getElem?_getD]
  rw [this]
  exact h.2 _
theorem small_bif {b : Bool} {x y : List ByteArray} (h1 : small x) (h2 : small y) : small (bif b then x else y) := by cases b <;> assumption
theorem good_C00 : Dat.good (Call.mk 0 ⟨#[]⟩ ⟨#[]⟩ 0 0 ⟨#[]⟩) := good_Call (gi 0) (gs ⟨#[]⟩) (gs ⟨#[]⟩) (gi 0) (gi 0) (gs ⟨#[]⟩)
theorem line_good {c : Call} (h : spec_CallLine c ≠ ⟨#[]⟩) : Dat.good c := by
  obtain ⟨hk, _, hok, _, hA, hB⟩ := CallLine_words c h
  obtain ⟨_, h1, h2, h3⟩ := spec_CallOk_t hok
  obtain ⟨a, ha, ha2⟩ := fits_nat hA
  obtain ⟨b, hb, hb2⟩ := fits_nat hB
  obtain ⟨K, N, T, A, B, X⟩ := c
  simp only at hk h1 h2 h3 ha hb
  exact good_Call (by unfold I64; omega) (by unfold maxLen; omega) (by unfold maxLen; omega) (by unfold I64; omega) (by unfold I64; omega) (by unfold maxLen; omega)
theorem finRC_good {p : List ByteArray} {c : Call} (hp : p.length ≠ 0) : Dat.good (finRC p c).1 := by
  unfold finRC
  cases hb : (!((spec_PartsOf (spec_CallLine c)).2)) || (!(spec_l03Same ((spec_PartsOf (spec_CallLine c)).1) p)) with
  | true => exact good_C00
  | false =>
    refine line_good (c := c) fun e => ?_
    rw [e, same_len (a := (spec_PartsOf ⟨#[]⟩).1) (b := p) (fun h => hp h.symm)] at hb
    simp at hb
theorem spec_ReadCall_good (p : List ByteArray) : Dat.good (spec_ReadCall p).1 := by
  unfold spec_ReadCall
  by_cases h0 : p.length = 0
  · rw [decide_eq_true (show (p.length : Int) = 0 by omega)]
    exact good_C00
  · rw [decide_eq_false (show ¬ (p.length : Int) = 0 by omega), spec_l1_kind, spec_l1_zero]
    obtain ⟨x, hx⟩ := spec_l2_any p (kindL (nth p 0) (23 - 1) 0 1) (1 + (23 - 1)) (kC p (kindL (nth p 0) (23 - 1) 0 1)) ((spec_l38Uses (kindL (nth p 0) (23 - 1) 0 1)).size - 0) ⟨#[]⟩ ⟨#[]⟩ 0 0 ⟨#[]⟩ 0
    rw [hx]
    exact finRC_good h0
theorem impl_ReadCall_good (p : List ByteArray) (h : small p := by assumption) : Dat.good (impl_ReadCall p).1 := by
  rw [ReadCall_twin (small_good h) h.1]
  exact spec_ReadCall_good p
theorem spec_ActLine_size {a : Deed} : (spec_ActLine a).size ≤ 600 := by
  by_cases h : spec_ActLine a = ⟨#[]⟩
  · rw [h]
    exact Nat.zero_le _
  · exact (ActLine_join h).2.2.1
theorem impl_ActLine_size {a : Deed} (hg : Dat.good a) : (impl_ActLine a).size ≤ 600 := by
  rw [ActLine_twin hg]
  exact spec_ActLine_size
theorem sparts12 (x : ByteArray) : (spec_PartsOf x).1.length ≤ 12 ∧ ∀ k, (nth (spec_PartsOf x).1 k).size ≤ 600 := by
  rw [← PartsOf_twin]
  refine ⟨(parts_facts x).2, fun k => ?_⟩
  rcases Nat.lt_or_ge k (impl_PartsOf x).1.length with hk | hk
  · have e : nth (impl_PartsOf x).1 k = (impl_PartsOf x).1[k] := by simp [nth, List.getD_eq_getElem?_getD, hk]
    rw [e]
    exact parts_mem (List.getElem_mem hk)
  · unfold nth
    rw [List.getD_eq_getElem?_getD, List.getElem?_eq_none hk]
    exact Nat.zero_le _
theorem good_parts {c : Call} (h : Dat.good c) : I64 c.Kind ∧ c.Name.size ≤ maxLen ∧ c.To.size ≤ maxLen ∧ I64 c.A ∧ I64 c.B ∧ c.Text.size ≤ maxLen := h
theorem impl_ReadCall_gs (p : List ByteArray) (h : small p := by assumption) : I64 (impl_ReadCall p).1.Kind ∧ (impl_ReadCall p).1.Name.size ≤ maxLen ∧ (impl_ReadCall p).1.To.size ≤ maxLen ∧ I64 (impl_ReadCall p).1.A ∧ I64 (impl_ReadCall p).1.B ∧ (impl_ReadCall p).1.Text.size ≤ maxLen := good_parts (impl_ReadCall_good p h)
theorem spec_ReadCall_gs (p : List ByteArray) : I64 (spec_ReadCall p).1.Kind ∧ (spec_ReadCall p).1.Name.size ≤ maxLen ∧ (spec_ReadCall p).1.To.size ≤ maxLen ∧ I64 (spec_ReadCall p).1.A ∧ I64 (spec_ReadCall p).1.B ∧ (spec_ReadCall p).1.Text.size ≤ maxLen := good_parts (spec_ReadCall_good p)

end Go.Proofs.YtnjidaonbcbphaaGreatDoor.Fw

/- Contracts: each call returns what the model says. By program (wip/am/gen2.py). -/
namespace Go.Proofs.YtnjidaonbcbphaaGreatDoor.Fw
open Go.RowKit
set_option linter.unusedVariables false
set_option maxRecDepth 100000
set_option maxHeartbeats 2000000

theorem fok23 : FnOk Tryz.prog 23 := ⟨_, Tryz.func23, rfl, by kernel_rfl⟩
theorem fok28 : FnOk Tryz.prog 28 := ⟨_, Tryz.func28, rfl, by kernel_rfl⟩
theorem fok29 : FnOk Tryz.prog 29 := ⟨_, Tryz.func29, rfl, by kernel_rfl⟩
theorem fok34 : FnOk Tryz.prog 34 := ⟨_, Tryz.func34, rfl, by kernel_rfl⟩
theorem fok102 : FnOk Tryz.prog 102 := ⟨_, Tryz.func102, rfl, by kernel_rfl⟩
/- F24 loop.example/g00974/impl.ReadAct -/
def impl_ReadAct_l1 (p0 : ByteArray) : Nat → Int → Int → Int → ByteArray → ByteArray → Int → Int → ByteArray → Nat → (List ByteArray) → Deed × Bool
  | 0, c2_1, c2_2, c2_3, c2_4, c2_5, c2_6, c2_7, c2_8, i, v7 => bif !(slices_Equal_string ((impl_PartsOf (impl_ActLine (Deed.mk (IntKind.i64.wrap (1 + (slices_Index_string gl0 (nth ((impl_PartsOf p0).1) 0)))) c2_1 c2_2 (Call.mk c2_3 c2_4 c2_5 c2_6 c2_7 c2_8)))).1) ((impl_PartsOf p0).1)) then ((Deed.mk 0 0 0 (Call.mk 0 ⟨#[]⟩ ⟨#[]⟩ 0 0 ⟨#[]⟩)), false) else ((Deed.mk (IntKind.i64.wrap (1 + (slices_Index_string gl0 (nth ((impl_PartsOf p0).1) 0)))) c2_1 c2_2 (Call.mk c2_3 c2_4 c2_5 c2_6 c2_7 c2_8)), true)
  | n + 1, c2_1, c2_2, c2_3, c2_4, c2_5, c2_6, c2_7, c2_8, i, v7 => bif decide ((v7.length : Int) = 0) then ((Deed.mk 0 0 0 (Call.mk 0 ⟨#[]⟩ ⟨#[]⟩ 0 0 ⟨#[]⟩)), false) else (impl_ReadAct_l1 p0 n (bif (decide (((byteAt (impl_actFields (IntKind.i64.wrap (1 + (slices_Index_string gl0 (nth ((impl_PartsOf p0).1) 0))))) i).toNat : Int) = 78)) then ((impl_ReadDecimal (nth v7 0)).1) else c2_1) (bif (decide (((byteAt (impl_actFields (IntKind.i64.wrap (1 + (slices_Index_string gl0 (nth ((impl_PartsOf p0).1) 0))))) i).toNat : Int) = 78)) then c2_2 else (bif (decide (((byteAt (impl_actFields (IntKind.i64.wrap (1 + (slices_Index_string gl0 (nth ((impl_PartsOf p0).1) 0))))) i).toNat : Int) = 77)) then ((impl_ReadDecimal (nth v7 0)).1) else c2_2)) (bif (decide (((byteAt (impl_actFields (IntKind.i64.wrap (1 + (slices_Index_string gl0 (nth ((impl_PartsOf p0).1) 0))))) i).toNat : Int) = 78)) then c2_3 else (bif (decide (((byteAt (impl_actFields (IntKind.i64.wrap (1 + (slices_Index_string gl0 (nth ((impl_PartsOf p0).1) 0))))) i).toNat : Int) = 77)) then c2_3 else (bif (decide (((byteAt (impl_actFields (IntKind.i64.wrap (1 + (slices_Index_string gl0 (nth ((impl_PartsOf p0).1) 0))))) i).toNat : Int) = 67)) then ((impl_ReadCall v7).1.Kind) else c2_3))) (bif (decide (((byteAt (impl_actFields (IntKind.i64.wrap (1 + (slices_Index_string gl0 (nth ((impl_PartsOf p0).1) 0))))) i).toNat : Int) = 78)) then c2_4 else (bif (decide (((byteAt (impl_actFields (IntKind.i64.wrap (1 + (slices_Index_string gl0 (nth ((impl_PartsOf p0).1) 0))))) i).toNat : Int) = 77)) then c2_4 else (bif (decide (((byteAt (impl_actFields (IntKind.i64.wrap (1 + (slices_Index_string gl0 (nth ((impl_PartsOf p0).1) 0))))) i).toNat : Int) = 67)) then ((impl_ReadCall v7).1.Name) else c2_4))) (bif (decide (((byteAt (impl_actFields (IntKind.i64.wrap (1 + (slices_Index_string gl0 (nth ((impl_PartsOf p0).1) 0))))) i).toNat : Int) = 78)) then c2_5 else (bif (decide (((byteAt (impl_actFields (IntKind.i64.wrap (1 + (slices_Index_string gl0 (nth ((impl_PartsOf p0).1) 0))))) i).toNat : Int) = 77)) then c2_5 else (bif (decide (((byteAt (impl_actFields (IntKind.i64.wrap (1 + (slices_Index_string gl0 (nth ((impl_PartsOf p0).1) 0))))) i).toNat : Int) = 67)) then ((impl_ReadCall v7).1.To) else c2_5))) (bif (decide (((byteAt (impl_actFields (IntKind.i64.wrap (1 + (slices_Index_string gl0 (nth ((impl_PartsOf p0).1) 0))))) i).toNat : Int) = 78)) then c2_6 else (bif (decide (((byteAt (impl_actFields (IntKind.i64.wrap (1 + (slices_Index_string gl0 (nth ((impl_PartsOf p0).1) 0))))) i).toNat : Int) = 77)) then c2_6 else (bif (decide (((byteAt (impl_actFields (IntKind.i64.wrap (1 + (slices_Index_string gl0 (nth ((impl_PartsOf p0).1) 0))))) i).toNat : Int) = 67)) then ((impl_ReadCall v7).1.A) else c2_6))) (bif (decide (((byteAt (impl_actFields (IntKind.i64.wrap (1 + (slices_Index_string gl0 (nth ((impl_PartsOf p0).1) 0))))) i).toNat : Int) = 78)) then c2_7 else (bif (decide (((byteAt (impl_actFields (IntKind.i64.wrap (1 + (slices_Index_string gl0 (nth ((impl_PartsOf p0).1) 0))))) i).toNat : Int) = 77)) then c2_7 else (bif (decide (((byteAt (impl_actFields (IntKind.i64.wrap (1 + (slices_Index_string gl0 (nth ((impl_PartsOf p0).1) 0))))) i).toNat : Int) = 67)) then ((impl_ReadCall v7).1.B) else c2_7))) (bif (decide (((byteAt (impl_actFields (IntKind.i64.wrap (1 + (slices_Index_string gl0 (nth ((impl_PartsOf p0).1) 0))))) i).toNat : Int) = 78)) then c2_8 else (bif (decide (((byteAt (impl_actFields (IntKind.i64.wrap (1 + (slices_Index_string gl0 (nth ((impl_PartsOf p0).1) 0))))) i).toNat : Int) = 77)) then c2_8 else (bif (decide (((byteAt (impl_actFields (IntKind.i64.wrap (1 + (slices_Index_string gl0 (nth ((impl_PartsOf p0).1) 0))))) i).toNat : Int) = 67)) then ((impl_ReadCall v7).1.Text) else c2_8))) (i + 1) (bif (decide (((byteAt (impl_actFields (IntKind.i64.wrap (1 + (slices_Index_string gl0 (nth ((impl_PartsOf p0).1) 0))))) i).toNat : Int) = 78)) then (cutL v7 1 v7.length) else (bif (decide (((byteAt (impl_actFields (IntKind.i64.wrap (1 + (slices_Index_string gl0 (nth ((impl_PartsOf p0).1) 0))))) i).toNat : Int) = 77)) then (cutL v7 1 v7.length) else v7)))
def impl_ReadAct (p0 : ByteArray) : Deed × Bool := bif (!((impl_PartsOf p0).2)) || (decide ((((impl_PartsOf p0).1).length : Int) = 0)) then ((Deed.mk 0 0 0 (Call.mk 0 ⟨#[]⟩ ⟨#[]⟩ 0 0 ⟨#[]⟩)), false) else (impl_ReadAct_l1 p0 (((impl_actFields (IntKind.i64.wrap (1 + (slices_Index_string gl0 (nth ((impl_PartsOf p0).1) 0))))).size) - 0) 0 0 0 ⟨#[]⟩ ⟨#[]⟩ 0 0 ⟨#[]⟩ 0 (cutL ((impl_PartsOf p0).1) 1 (((impl_PartsOf p0).1).length)))
theorem c_impl_ReadAct (p0 : ByteArray) (hz_p0 : p0.size ≤ 9223372036854775807) : CTs 24 [.o (.c (.string p0))] [Re.st Deed _ inferInstance ((impl_ReadAct p0).1), Re.c (.bool ((impl_ReadAct p0).2))] := by
  refine en Tryz.func24 Tryz.ntmps24 fun w hG hgd => ?_
  have hM := impl_ReadAct.eq_1 p0
  refine ad 8 ?_
  refine og (clg (c_impl_PartsOf p0 hz_p0) fok33) fun hgq => ?_
  obtain ⟨hg1, _⟩ := hgq
  refine ad 12 ?_
  refine ag 4 ?_
  refine ad 1 ?_
  refine cd (fun h2 => ?_) (fun h2 => ?_)
  ·
    have hM := hM.trans (bt h2)
    refine ad 6 ?_
    have hg3 : Dat.good (Deed.mk 0 0 0 (Call.mk 0 ⟨#[]⟩ ⟨#[]⟩ 0 0 ⟨#[]⟩) : Deed) := ⟨(gi 0), (gi 0), (gi 0), (good_Call (gi 0) (gs ⟨#[]⟩) (gs ⟨#[]⟩) (gi 0) (gi 0) (gs ⟨#[]⟩))⟩
    exact rz (rs := [.cell 2 56, .tmp 3]) (congrArg (fun x => [Re.st Deed _ inferInstance x.1, Re.c (.bool x.2)]) hM)
  ·
    have hM := hM.trans (bf h2)
    refine ad 2 ?_
    refine fz 1 ?_
    refine Run.mid ⟨90, 3, [(2, .pt 0 0), (4, .sl 1 (((impl_PartsOf p0).1).length)), (6, .pt 2 0)], [(0, .var [.v (.int .i64 0), .v (.int .i64 0), .v (.int .i64 0), .v (.int .i64 0), .v (.string ⟨#[]⟩), .v (.string ⟨#[]⟩), .v (.int .i64 0), .v (.int .i64 0), .v (.string ⟨#[]⟩)] 56), (1, .ros ByteArray instDatByteArray ((impl_PartsOf p0).1)), (2, .var [.v (.int .i64 (IntKind.i64.wrap (1 + (slices_Index_string gl0 (nth ((impl_PartsOf p0).1) 0))))), .v (.int .i64 0), .v (.int .i64 0), .v (.int .i64 0), .v (.string ⟨#[]⟩), .v (.string ⟨#[]⟩), .v (.int .i64 0), .v (.int .i64 0), .v (.string ⟨#[]⟩)] 56)]⟩ ?_ ?_
    ·
      refine dr 9 fun _ _ _ _ _ hb => ?_
      refine tk [1] ?_
      have hg4 := good_nth (k := 0) hg1 om
      refine tx 2 (dx (xs := (impl_PartsOf p0).1) 0 om) ?_
      refine tk [3] ?_
      refine o2 0 7 ?_ ?_
      ·
        refine on1 0 [2, 3] (gsl (e := 9) gl0 Gl0) ?_
        refine o2 4 7 ?_ ?_
        ·
          refine on1 4 [2, 3] (cl (c_slices_Index_string gl0 (nth ((impl_PartsOf p0).1) 0)) fok84) ?_
          refine tk [5, 6] ?_
          refine on 7 [3, 4] (OpS.st rfl) ?_
          refine on 8 [3, 4] (OpS.st rfl) ?_
          refine dn hb ?_
          exact Run.at [0, 1, 4] [4, 3, 0] su (by decide)
        ·
          refine on1 7 [3, 4] (OpS.st rfl) ?_
          refine on 4 [3, 4] (cl (c_slices_Index_string gl0 (nth ((impl_PartsOf p0).1) 0)) fok84) ?_
          refine tk [5, 6] ?_
          refine on 8 [3, 4] (OpS.st rfl) ?_
          refine dn hb ?_
          exact Run.at [0, 1, 4] [4, 3, 0] su (by decide)
      ·
        refine on1 7 [2, 3] (OpS.st rfl) ?_
        refine on 0 [3, 4] (gsl (e := 9) gl0 Gl0) ?_
        refine on 4 [3, 4] (cl (c_slices_Index_string gl0 (nth ((impl_PartsOf p0).1) 0)) fok84) ?_
        refine tk [5, 6] ?_
        refine on 8 [3, 4] (OpS.st rfl) ?_
        refine dn hb ?_
        exact Run.at [0, 1, 3] [4, 3, 1] su (by decide)
    refine ad 3 ?_
    refine op (pa 1 (((impl_PartsOf p0).1).length) (hh := rfl)) ?_
    refine ad 7 ?_
    refine op (cl (c_impl_actFields (IntKind.i64.wrap (1 + (slices_Index_string gl0 (nth ((impl_PartsOf p0).1) 0))))) fok81) ?_
    refine op (rg) ?_
    refine ad 2 ?_
    refine Run.loopM (ι := Int × Int × Int × ByteArray × ByteArray × Int × Int × ByteArray × Nat × (List ByteArray)) (fun s => impl_ReadAct_l1 p0 (((impl_actFields (IntKind.i64.wrap (1 + (slices_Index_string gl0 (nth ((impl_PartsOf p0).1) 0))))).size) - s.2.2.2.2.2.2.2.2.1) s.1 s.2.1 s.2.2.1 s.2.2.2.1 s.2.2.2.2.1 s.2.2.2.2.2.1 s.2.2.2.2.2.2.1 s.2.2.2.2.2.2.2.1 s.2.2.2.2.2.2.2.2.1 s.2.2.2.2.2.2.2.2.2) (fun s => ⟨90, 5, [(2, .pt 0 0), (4, .sl 1 (((impl_PartsOf p0).1).length)), (6, .pt 2 0), (7, .sl 4 s.2.2.2.2.2.2.2.2.2.length), (37, .pt 3 0)], [(0, .var [.v (.int .i64 0), .v (.int .i64 0), .v (.int .i64 0), .v (.int .i64 0), .v (.string ⟨#[]⟩), .v (.string ⟨#[]⟩), .v (.int .i64 0), .v (.int .i64 0), .v (.string ⟨#[]⟩)] 56), (1, .ros ByteArray instDatByteArray ((impl_PartsOf p0).1)), (2, .var [.v (.int .i64 (IntKind.i64.wrap (1 + (slices_Index_string gl0 (nth ((impl_PartsOf p0).1) 0))))), .v (.int .i64 s.1), .v (.int .i64 s.2.1), .v (.int .i64 s.2.2.1), .v (.string s.2.2.2.1), .v (.string s.2.2.2.2.1), .v (.int .i64 s.2.2.2.2.2.1), .v (.int .i64 s.2.2.2.2.2.2.1), .v (.string s.2.2.2.2.2.2.2.1)] 56), (3, .itr (impl_actFields (IntKind.i64.wrap (1 + (slices_Index_string gl0 (nth ((impl_PartsOf p0).1) 0))))) s.2.2.2.2.2.2.2.2.1), (4, .ros ByteArray instDatByteArray s.2.2.2.2.2.2.2.2.2)]⟩) (fun s => s.2.2.2.2.2.2.2.2.1 ≤ (impl_actFields (IntKind.i64.wrap (1 + (slices_Index_string gl0 (nth ((impl_PartsOf p0).1) 0))))).size ∧ small s.2.2.2.2.2.2.2.2.2 ∧ I64 s.1 ∧ I64 s.2.1 ∧ I64 s.2.2.1 ∧ s.2.2.2.1.size ≤ maxLen ∧ s.2.2.2.2.1.size ≤ maxLen ∧ I64 s.2.2.2.2.2.1 ∧ I64 s.2.2.2.2.2.2.1 ∧ s.2.2.2.2.2.2.2.1.size ≤ maxLen) (fun s => ((impl_actFields (IntKind.i64.wrap (1 + (slices_Index_string gl0 (nth ((impl_PartsOf p0).1) 0))))).size) - s.2.2.2.2.2.2.2.2.1) (0, 0, 0, ⟨#[]⟩, ⟨#[]⟩, 0, 0, ⟨#[]⟩, 0, (cutL ((impl_PartsOf p0).1) 1 (((impl_PartsOf p0).1).length))) [0, 1, 2, 4, 3] [2, 3, 4, 0, 1] hM (by exact ⟨by (try dsimp only); first | omega | exact trivial, by exact small_drop (parts_smalls _) 1, (gi 0), (gi 0), (gi 0), (gs ⟨#[]⟩), (gs ⟨#[]⟩), (gi 0), (gi 0), (gs ⟨#[]⟩)⟩) su (by decide) ?_
    rintro ⟨c2_1, c2_2, c2_3, c2_4, c2_5, c2_6, c2_7, c2_8, i, v7⟩ hv hE
    try dsimp only at hE
    obtain ⟨hi, hv0, hg_c2_1, hg_c2_2, hg_c2_3, hg_c2_4, hg_c2_5, hg_c2_6, hg_c2_7, hg_c2_8⟩ := hv
    try dsimp only at hi hv0 hg_c2_1 hg_c2_2 hg_c2_3 hg_c2_4 hg_c2_5 hg_c2_6 hg_c2_7 hg_c2_8
    refine ad 2 ?_
    refine nx (fun h5 => ?_) (fun h5 => ?_) (asc_impl_actFields (IntKind.i64.wrap (1 + (slices_Index_string gl0 (nth ((impl_PartsOf p0).1) 0)))))
    ·
      have hM := hE.trans ((congrArg (fun n => impl_ReadAct_l1 p0 n c2_1 c2_2 c2_3 c2_4 c2_5 c2_6 c2_7 c2_8 i v7) (show ((impl_actFields (IntKind.i64.wrap (1 + (slices_Index_string gl0 (nth ((impl_PartsOf p0).1) 0))))).size) - i = (((impl_actFields (IntKind.i64.wrap (1 + (slices_Index_string gl0 (nth ((impl_PartsOf p0).1) 0))))).size) - (i + 1)) + 1 by omega)).trans (impl_ReadAct_l1.eq_2 _ _ _ _ _ _ _ _ _ _ _ _))
      have hr0 := hv0.2 0
      have hq7 := hv0.2
      refine ad 18 ?_
      refine cd (fun h6 => ?_) (fun h6 => ?_)
      ·
        have hM := hM.trans (bt h6)
        refine ad 6 ?_
        have hg7 : Dat.good (Deed.mk 0 0 0 (Call.mk 0 ⟨#[]⟩ ⟨#[]⟩ 0 0 ⟨#[]⟩) : Deed) := ⟨(gi 0), (gi 0), (gi 0), (good_Call (gi 0) (gs ⟨#[]⟩) (gs ⟨#[]⟩) (gi 0) (gi 0) (gs ⟨#[]⟩))⟩
        exact rz (rs := [.cell 2 56, .tmp 3]) (congrArg (fun x => [Re.st Deed _ inferInstance x.1, Re.c (.bool x.2)]) hM)
      ·
        have hM := hM.trans (bf h6)
        refine ad 11 ?_
        refine Run.mid ⟨90, 5, [(2, .pt 0 0), (4, .sl 1 (((impl_PartsOf p0).1).length)), (6, .pt 2 0), (7, .sl 3 ((bif (decide (((byteAt (impl_actFields (IntKind.i64.wrap (1 + (slices_Index_string gl0 (nth ((impl_PartsOf p0).1) 0))))) i).toNat : Int) = 78)) then (cutL v7 1 v7.length) else (bif (decide (((byteAt (impl_actFields (IntKind.i64.wrap (1 + (slices_Index_string gl0 (nth ((impl_PartsOf p0).1) 0))))) i).toNat : Int) = 77)) then (cutL v7 1 v7.length) else v7)).length)), (37, .pt 4 0)], [(0, .var [.v (.int .i64 0), .v (.int .i64 0), .v (.int .i64 0), .v (.int .i64 0), .v (.string ⟨#[]⟩), .v (.string ⟨#[]⟩), .v (.int .i64 0), .v (.int .i64 0), .v (.string ⟨#[]⟩)] 56), (1, .ros ByteArray instDatByteArray ((impl_PartsOf p0).1)), (2, .var [.v (.int .i64 (IntKind.i64.wrap (1 + (slices_Index_string gl0 (nth ((impl_PartsOf p0).1) 0))))), .v (.int .i64 (bif (decide (((byteAt (impl_actFields (IntKind.i64.wrap (1 + (slices_Index_string gl0 (nth ((impl_PartsOf p0).1) 0))))) i).toNat : Int) = 78)) then ((impl_ReadDecimal (nth v7 0)).1) else c2_1)), .v (.int .i64 (bif (decide (((byteAt (impl_actFields (IntKind.i64.wrap (1 + (slices_Index_string gl0 (nth ((impl_PartsOf p0).1) 0))))) i).toNat : Int) = 78)) then c2_2 else (bif (decide (((byteAt (impl_actFields (IntKind.i64.wrap (1 + (slices_Index_string gl0 (nth ((impl_PartsOf p0).1) 0))))) i).toNat : Int) = 77)) then ((impl_ReadDecimal (nth v7 0)).1) else c2_2))), .v (.int .i64 (bif (decide (((byteAt (impl_actFields (IntKind.i64.wrap (1 + (slices_Index_string gl0 (nth ((impl_PartsOf p0).1) 0))))) i).toNat : Int) = 78)) then c2_3 else (bif (decide (((byteAt (impl_actFields (IntKind.i64.wrap (1 + (slices_Index_string gl0 (nth ((impl_PartsOf p0).1) 0))))) i).toNat : Int) = 77)) then c2_3 else (bif (decide (((byteAt (impl_actFields (IntKind.i64.wrap (1 + (slices_Index_string gl0 (nth ((impl_PartsOf p0).1) 0))))) i).toNat : Int) = 67)) then ((impl_ReadCall v7).1.Kind) else c2_3)))), .v (.string (bif (decide (((byteAt (impl_actFields (IntKind.i64.wrap (1 + (slices_Index_string gl0 (nth ((impl_PartsOf p0).1) 0))))) i).toNat : Int) = 78)) then c2_4 else (bif (decide (((byteAt (impl_actFields (IntKind.i64.wrap (1 + (slices_Index_string gl0 (nth ((impl_PartsOf p0).1) 0))))) i).toNat : Int) = 77)) then c2_4 else (bif (decide (((byteAt (impl_actFields (IntKind.i64.wrap (1 + (slices_Index_string gl0 (nth ((impl_PartsOf p0).1) 0))))) i).toNat : Int) = 67)) then ((impl_ReadCall v7).1.Name) else c2_4)))), .v (.string (bif (decide (((byteAt (impl_actFields (IntKind.i64.wrap (1 + (slices_Index_string gl0 (nth ((impl_PartsOf p0).1) 0))))) i).toNat : Int) = 78)) then c2_5 else (bif (decide (((byteAt (impl_actFields (IntKind.i64.wrap (1 + (slices_Index_string gl0 (nth ((impl_PartsOf p0).1) 0))))) i).toNat : Int) = 77)) then c2_5 else (bif (decide (((byteAt (impl_actFields (IntKind.i64.wrap (1 + (slices_Index_string gl0 (nth ((impl_PartsOf p0).1) 0))))) i).toNat : Int) = 67)) then ((impl_ReadCall v7).1.To) else c2_5)))), .v (.int .i64 (bif (decide (((byteAt (impl_actFields (IntKind.i64.wrap (1 + (slices_Index_string gl0 (nth ((impl_PartsOf p0).1) 0))))) i).toNat : Int) = 78)) then c2_6 else (bif (decide (((byteAt (impl_actFields (IntKind.i64.wrap (1 + (slices_Index_string gl0 (nth ((impl_PartsOf p0).1) 0))))) i).toNat : Int) = 77)) then c2_6 else (bif (decide (((byteAt (impl_actFields (IntKind.i64.wrap (1 + (slices_Index_string gl0 (nth ((impl_PartsOf p0).1) 0))))) i).toNat : Int) = 67)) then ((impl_ReadCall v7).1.A) else c2_6)))), .v (.int .i64 (bif (decide (((byteAt (impl_actFields (IntKind.i64.wrap (1 + (slices_Index_string gl0 (nth ((impl_PartsOf p0).1) 0))))) i).toNat : Int) = 78)) then c2_7 else (bif (decide (((byteAt (impl_actFields (IntKind.i64.wrap (1 + (slices_Index_string gl0 (nth ((impl_PartsOf p0).1) 0))))) i).toNat : Int) = 77)) then c2_7 else (bif (decide (((byteAt (impl_actFields (IntKind.i64.wrap (1 + (slices_Index_string gl0 (nth ((impl_PartsOf p0).1) 0))))) i).toNat : Int) = 67)) then ((impl_ReadCall v7).1.B) else c2_7)))), .v (.string (bif (decide (((byteAt (impl_actFields (IntKind.i64.wrap (1 + (slices_Index_string gl0 (nth ((impl_PartsOf p0).1) 0))))) i).toNat : Int) = 78)) then c2_8 else (bif (decide (((byteAt (impl_actFields (IntKind.i64.wrap (1 + (slices_Index_string gl0 (nth ((impl_PartsOf p0).1) 0))))) i).toNat : Int) = 77)) then c2_8 else (bif (decide (((byteAt (impl_actFields (IntKind.i64.wrap (1 + (slices_Index_string gl0 (nth ((impl_PartsOf p0).1) 0))))) i).toNat : Int) = 67)) then ((impl_ReadCall v7).1.Text) else c2_8))))] 56), (3, .ros ByteArray instDatByteArray (bif (decide (((byteAt (impl_actFields (IntKind.i64.wrap (1 + (slices_Index_string gl0 (nth ((impl_PartsOf p0).1) 0))))) i).toNat : Int) = 78)) then (cutL v7 1 v7.length) else (bif (decide (((byteAt (impl_actFields (IntKind.i64.wrap (1 + (slices_Index_string gl0 (nth ((impl_PartsOf p0).1) 0))))) i).toNat : Int) = 77)) then (cutL v7 1 v7.length) else v7))), (4, .itr (impl_actFields (IntKind.i64.wrap (1 + (slices_Index_string gl0 (nth ((impl_PartsOf p0).1) 0))))) (i + 1))]⟩ ?_ ?_
        · refine cd (fun h8 => ?_) (fun h8 => ?_)
          ·
            refine ad 3 ?_
            refine op (ix (xs := v7) 0 om) ?_
            refine ad 1 ?_
            refine op (cl (c_impl_ReadDecimal (nth v7 0) (by first | assumption | exact om)) fok85) ?_
            refine ad 8 ?_
            refine op (pa 1 v7.length (hh := rfl)) ?_
            refine ad 2 ?_
            exact Run.at [0, 1, 2, 6, 3] [2, 3, 4, 0, 5] (by first | exact su | (rw [h8]; exact su)) (by decide)
          ·
            refine ad 5 ?_
            refine Run.mid ⟨90, 5, [(2, .pt 0 0), (4, .sl 1 (((impl_PartsOf p0).1).length)), (6, .pt 2 0), (7, .sl 3 ((bif (decide (((byteAt (impl_actFields (IntKind.i64.wrap (1 + (slices_Index_string gl0 (nth ((impl_PartsOf p0).1) 0))))) i).toNat : Int) = 77)) then (cutL v7 1 v7.length) else v7).length)), (37, .pt 4 0)], [(0, .var [.v (.int .i64 0), .v (.int .i64 0), .v (.int .i64 0), .v (.int .i64 0), .v (.string ⟨#[]⟩), .v (.string ⟨#[]⟩), .v (.int .i64 0), .v (.int .i64 0), .v (.string ⟨#[]⟩)] 56), (1, .ros ByteArray instDatByteArray ((impl_PartsOf p0).1)), (2, .var [.v (.int .i64 (IntKind.i64.wrap (1 + (slices_Index_string gl0 (nth ((impl_PartsOf p0).1) 0))))), .v (.int .i64 c2_1), .v (.int .i64 (bif (decide (((byteAt (impl_actFields (IntKind.i64.wrap (1 + (slices_Index_string gl0 (nth ((impl_PartsOf p0).1) 0))))) i).toNat : Int) = 77)) then ((impl_ReadDecimal (nth v7 0)).1) else c2_2)), .v (.int .i64 (bif (decide (((byteAt (impl_actFields (IntKind.i64.wrap (1 + (slices_Index_string gl0 (nth ((impl_PartsOf p0).1) 0))))) i).toNat : Int) = 77)) then c2_3 else (bif (decide (((byteAt (impl_actFields (IntKind.i64.wrap (1 + (slices_Index_string gl0 (nth ((impl_PartsOf p0).1) 0))))) i).toNat : Int) = 67)) then ((impl_ReadCall v7).1.Kind) else c2_3))), .v (.string (bif (decide (((byteAt (impl_actFields (IntKind.i64.wrap (1 + (slices_Index_string gl0 (nth ((impl_PartsOf p0).1) 0))))) i).toNat : Int) = 77)) then c2_4 else (bif (decide (((byteAt (impl_actFields (IntKind.i64.wrap (1 + (slices_Index_string gl0 (nth ((impl_PartsOf p0).1) 0))))) i).toNat : Int) = 67)) then ((impl_ReadCall v7).1.Name) else c2_4))), .v (.string (bif (decide (((byteAt (impl_actFields (IntKind.i64.wrap (1 + (slices_Index_string gl0 (nth ((impl_PartsOf p0).1) 0))))) i).toNat : Int) = 77)) then c2_5 else (bif (decide (((byteAt (impl_actFields (IntKind.i64.wrap (1 + (slices_Index_string gl0 (nth ((impl_PartsOf p0).1) 0))))) i).toNat : Int) = 67)) then ((impl_ReadCall v7).1.To) else c2_5))), .v (.int .i64 (bif (decide (((byteAt (impl_actFields (IntKind.i64.wrap (1 + (slices_Index_string gl0 (nth ((impl_PartsOf p0).1) 0))))) i).toNat : Int) = 77)) then c2_6 else (bif (decide (((byteAt (impl_actFields (IntKind.i64.wrap (1 + (slices_Index_string gl0 (nth ((impl_PartsOf p0).1) 0))))) i).toNat : Int) = 67)) then ((impl_ReadCall v7).1.A) else c2_6))), .v (.int .i64 (bif (decide (((byteAt (impl_actFields (IntKind.i64.wrap (1 + (slices_Index_string gl0 (nth ((impl_PartsOf p0).1) 0))))) i).toNat : Int) = 77)) then c2_7 else (bif (decide (((byteAt (impl_actFields (IntKind.i64.wrap (1 + (slices_Index_string gl0 (nth ((impl_PartsOf p0).1) 0))))) i).toNat : Int) = 67)) then ((impl_ReadCall v7).1.B) else c2_7))), .v (.string (bif (decide (((byteAt (impl_actFields (IntKind.i64.wrap (1 + (slices_Index_string gl0 (nth ((impl_PartsOf p0).1) 0))))) i).toNat : Int) = 77)) then c2_8 else (bif (decide (((byteAt (impl_actFields (IntKind.i64.wrap (1 + (slices_Index_string gl0 (nth ((impl_PartsOf p0).1) 0))))) i).toNat : Int) = 67)) then ((impl_ReadCall v7).1.Text) else c2_8)))] 56), (3, .ros ByteArray instDatByteArray (bif (decide (((byteAt (impl_actFields (IntKind.i64.wrap (1 + (slices_Index_string gl0 (nth ((impl_PartsOf p0).1) 0))))) i).toNat : Int) = 77)) then (cutL v7 1 v7.length) else v7)), (4, .itr (impl_actFields (IntKind.i64.wrap (1 + (slices_Index_string gl0 (nth ((impl_PartsOf p0).1) 0))))) (i + 1))]⟩ ?_ ?_
            · refine cd (fun h10 => ?_) (fun h10 => ?_)
              ·
                refine ad 3 ?_
                refine op (ix (xs := v7) 0 om) ?_
                refine ad 1 ?_
                refine op (cl (c_impl_ReadDecimal (nth v7 0) (by first | assumption | exact om)) fok85) ?_
                refine ad 8 ?_
                refine op (pa 1 v7.length (hh := rfl)) ?_
                refine ad 2 ?_
                exact Run.at [0, 1, 2, 6, 3] [2, 3, 4, 0, 5] (by first | exact su | (rw [h10]; exact su)) (by decide)
              ·
                refine ad 5 ?_
                refine Run.mid ⟨90, 5, [(2, .pt 0 0), (4, .sl 1 (((impl_PartsOf p0).1).length)), (6, .pt 2 0), (7, .sl 3 v7.length), (37, .pt 4 0)], [(0, .var [.v (.int .i64 0), .v (.int .i64 0), .v (.int .i64 0), .v (.int .i64 0), .v (.string ⟨#[]⟩), .v (.string ⟨#[]⟩), .v (.int .i64 0), .v (.int .i64 0), .v (.string ⟨#[]⟩)] 56), (1, .ros ByteArray instDatByteArray ((impl_PartsOf p0).1)), (2, .var [.v (.int .i64 (IntKind.i64.wrap (1 + (slices_Index_string gl0 (nth ((impl_PartsOf p0).1) 0))))), .v (.int .i64 c2_1), .v (.int .i64 c2_2), .v (.int .i64 (bif (decide (((byteAt (impl_actFields (IntKind.i64.wrap (1 + (slices_Index_string gl0 (nth ((impl_PartsOf p0).1) 0))))) i).toNat : Int) = 67)) then ((impl_ReadCall v7).1.Kind) else c2_3)), .v (.string (bif (decide (((byteAt (impl_actFields (IntKind.i64.wrap (1 + (slices_Index_string gl0 (nth ((impl_PartsOf p0).1) 0))))) i).toNat : Int) = 67)) then ((impl_ReadCall v7).1.Name) else c2_4)), .v (.string (bif (decide (((byteAt (impl_actFields (IntKind.i64.wrap (1 + (slices_Index_string gl0 (nth ((impl_PartsOf p0).1) 0))))) i).toNat : Int) = 67)) then ((impl_ReadCall v7).1.To) else c2_5)), .v (.int .i64 (bif (decide (((byteAt (impl_actFields (IntKind.i64.wrap (1 + (slices_Index_string gl0 (nth ((impl_PartsOf p0).1) 0))))) i).toNat : Int) = 67)) then ((impl_ReadCall v7).1.A) else c2_6)), .v (.int .i64 (bif (decide (((byteAt (impl_actFields (IntKind.i64.wrap (1 + (slices_Index_string gl0 (nth ((impl_PartsOf p0).1) 0))))) i).toNat : Int) = 67)) then ((impl_ReadCall v7).1.B) else c2_7)), .v (.string (bif (decide (((byteAt (impl_actFields (IntKind.i64.wrap (1 + (slices_Index_string gl0 (nth ((impl_PartsOf p0).1) 0))))) i).toNat : Int) = 67)) then ((impl_ReadCall v7).1.Text) else c2_8))] 56), (3, .ros ByteArray instDatByteArray v7), (4, .itr (impl_actFields (IntKind.i64.wrap (1 + (slices_Index_string gl0 (nth ((impl_PartsOf p0).1) 0))))) (i + 1))]⟩ ?_ ?_
                · refine cd (fun h12 => ?_) (fun h12 => ?_)
                  ·
                    refine ad 2 ?_
                    refine og (clg (c_impl_ReadCall v7 (by first | exact parts_small _ | assumption)) fok28) fun hgq => ?_
                    obtain ⟨hg13, _⟩ := hgq
                    refine ad 6 ?_
                    exact Run.at [0, 1, 2, 4, 3] [0, 1, 2, 4, 3] (by first | exact su | (rw [h12]; exact su)) (by decide)
                  ·
                    refine ad 1 ?_
                    exact Run.at [0, 1, 2, 4, 3] [0, 1, 2, 4, 3] (by first | exact su | (rw [h12]; exact su)) (by decide)
                exact Run.at [0, 1, 2, 3, 4] [0, 1, 2, 3, 4] (by first | exact su | (rw [h10]; exact su)) (by decide)
            exact Run.at [0, 1, 2, 3, 4] [0, 1, 2, 3, 4] (by first | exact su | (rw [h8]; exact su)) (by decide)
        refine ad 2 ?_
        exact Run.again (bif (decide (((byteAt (impl_actFields (IntKind.i64.wrap (1 + (slices_Index_string gl0 (nth ((impl_PartsOf p0).1) 0))))) i).toNat : Int) = 78)) then ((impl_ReadDecimal (nth v7 0)).1) else c2_1, bif (decide (((byteAt (impl_actFields (IntKind.i64.wrap (1 + (slices_Index_string gl0 (nth ((impl_PartsOf p0).1) 0))))) i).toNat : Int) = 78)) then c2_2 else (bif (decide (((byteAt (impl_actFields (IntKind.i64.wrap (1 + (slices_Index_string gl0 (nth ((impl_PartsOf p0).1) 0))))) i).toNat : Int) = 77)) then ((impl_ReadDecimal (nth v7 0)).1) else c2_2), bif (decide (((byteAt (impl_actFields (IntKind.i64.wrap (1 + (slices_Index_string gl0 (nth ((impl_PartsOf p0).1) 0))))) i).toNat : Int) = 78)) then c2_3 else (bif (decide (((byteAt (impl_actFields (IntKind.i64.wrap (1 + (slices_Index_string gl0 (nth ((impl_PartsOf p0).1) 0))))) i).toNat : Int) = 77)) then c2_3 else (bif (decide (((byteAt (impl_actFields (IntKind.i64.wrap (1 + (slices_Index_string gl0 (nth ((impl_PartsOf p0).1) 0))))) i).toNat : Int) = 67)) then ((impl_ReadCall v7).1.Kind) else c2_3)), bif (decide (((byteAt (impl_actFields (IntKind.i64.wrap (1 + (slices_Index_string gl0 (nth ((impl_PartsOf p0).1) 0))))) i).toNat : Int) = 78)) then c2_4 else (bif (decide (((byteAt (impl_actFields (IntKind.i64.wrap (1 + (slices_Index_string gl0 (nth ((impl_PartsOf p0).1) 0))))) i).toNat : Int) = 77)) then c2_4 else (bif (decide (((byteAt (impl_actFields (IntKind.i64.wrap (1 + (slices_Index_string gl0 (nth ((impl_PartsOf p0).1) 0))))) i).toNat : Int) = 67)) then ((impl_ReadCall v7).1.Name) else c2_4)), bif (decide (((byteAt (impl_actFields (IntKind.i64.wrap (1 + (slices_Index_string gl0 (nth ((impl_PartsOf p0).1) 0))))) i).toNat : Int) = 78)) then c2_5 else (bif (decide (((byteAt (impl_actFields (IntKind.i64.wrap (1 + (slices_Index_string gl0 (nth ((impl_PartsOf p0).1) 0))))) i).toNat : Int) = 77)) then c2_5 else (bif (decide (((byteAt (impl_actFields (IntKind.i64.wrap (1 + (slices_Index_string gl0 (nth ((impl_PartsOf p0).1) 0))))) i).toNat : Int) = 67)) then ((impl_ReadCall v7).1.To) else c2_5)), bif (decide (((byteAt (impl_actFields (IntKind.i64.wrap (1 + (slices_Index_string gl0 (nth ((impl_PartsOf p0).1) 0))))) i).toNat : Int) = 78)) then c2_6 else (bif (decide (((byteAt (impl_actFields (IntKind.i64.wrap (1 + (slices_Index_string gl0 (nth ((impl_PartsOf p0).1) 0))))) i).toNat : Int) = 77)) then c2_6 else (bif (decide (((byteAt (impl_actFields (IntKind.i64.wrap (1 + (slices_Index_string gl0 (nth ((impl_PartsOf p0).1) 0))))) i).toNat : Int) = 67)) then ((impl_ReadCall v7).1.A) else c2_6)), bif (decide (((byteAt (impl_actFields (IntKind.i64.wrap (1 + (slices_Index_string gl0 (nth ((impl_PartsOf p0).1) 0))))) i).toNat : Int) = 78)) then c2_7 else (bif (decide (((byteAt (impl_actFields (IntKind.i64.wrap (1 + (slices_Index_string gl0 (nth ((impl_PartsOf p0).1) 0))))) i).toNat : Int) = 77)) then c2_7 else (bif (decide (((byteAt (impl_actFields (IntKind.i64.wrap (1 + (slices_Index_string gl0 (nth ((impl_PartsOf p0).1) 0))))) i).toNat : Int) = 67)) then ((impl_ReadCall v7).1.B) else c2_7)), bif (decide (((byteAt (impl_actFields (IntKind.i64.wrap (1 + (slices_Index_string gl0 (nth ((impl_PartsOf p0).1) 0))))) i).toNat : Int) = 78)) then c2_8 else (bif (decide (((byteAt (impl_actFields (IntKind.i64.wrap (1 + (slices_Index_string gl0 (nth ((impl_PartsOf p0).1) 0))))) i).toNat : Int) = 77)) then c2_8 else (bif (decide (((byteAt (impl_actFields (IntKind.i64.wrap (1 + (slices_Index_string gl0 (nth ((impl_PartsOf p0).1) 0))))) i).toNat : Int) = 67)) then ((impl_ReadCall v7).1.Text) else c2_8)), (i + 1), bif (decide (((byteAt (impl_actFields (IntKind.i64.wrap (1 + (slices_Index_string gl0 (nth ((impl_PartsOf p0).1) 0))))) i).toNat : Int) = 78)) then (cutL v7 1 v7.length) else (bif (decide (((byteAt (impl_actFields (IntKind.i64.wrap (1 + (slices_Index_string gl0 (nth ((impl_PartsOf p0).1) 0))))) i).toNat : Int) = 77)) then (cutL v7 1 v7.length) else v7)) [0, 1, 2, 4, 3] [0, 1, 2, 4, 3] ⟨by exact ⟨by (try dsimp only); first | omega | exact trivial, by exact small_bif (small_drop (by assumption) 1) (small_bif (small_drop (by assumption) 1) (by assumption)), (bifI (impl_ReadDecimal_I64 _) hg_c2_1), (bifI hg_c2_2 (bifI (impl_ReadDecimal_I64 _) hg_c2_2)), (bifI hg_c2_3 (bifI hg_c2_3 (bifI (impl_ReadCall_gs v7).1 hg_c2_3))), (bifS hg_c2_4 (bifS hg_c2_4 (bifS (impl_ReadCall_gs v7).2.1 hg_c2_4))), (bifS hg_c2_5 (bifS hg_c2_5 (bifS (impl_ReadCall_gs v7).2.2.1 hg_c2_5))), (bifI hg_c2_6 (bifI hg_c2_6 (bifI (impl_ReadCall_gs v7).2.2.2.1 hg_c2_6))), (bifI hg_c2_7 (bifI hg_c2_7 (bifI (impl_ReadCall_gs v7).2.2.2.2.1 hg_c2_7))), (bifS hg_c2_8 (bifS hg_c2_8 (bifS (impl_ReadCall_gs v7).2.2.2.2.2 hg_c2_8)))⟩, hM⟩ rfl (by show _ - _ < _ - _; (try dsimp only); omega) su (by decide)
    ·
      have hM := hE.trans ((congrArg (fun n => impl_ReadAct_l1 p0 n c2_1 c2_2 c2_3 c2_4 c2_5 c2_6 c2_7 c2_8 i v7) (show ((impl_actFields (IntKind.i64.wrap (1 + (slices_Index_string gl0 (nth ((impl_PartsOf p0).1) 0))))).size) - i = 0 by omega)).trans (impl_ReadAct_l1.eq_1 _ _ _ _ _ _ _ _ _ _ _))
      refine ad 8 ?_
      have hg14 : Dat.good (Deed.mk (IntKind.i64.wrap (1 + (slices_Index_string gl0 (nth ((impl_PartsOf p0).1) 0)))) c2_1 c2_2 (Call.mk c2_3 c2_4 c2_5 c2_6 c2_7 c2_8) : Deed) := ⟨(I64_wrap _), hg_c2_1, hg_c2_2, (good_Call hg_c2_3 hg_c2_4 hg_c2_5 hg_c2_6 hg_c2_7 hg_c2_8)⟩
      have hs15 := impl_ActLine_size (a := (Deed.mk (IntKind.i64.wrap (1 + (slices_Index_string gl0 (nth ((impl_PartsOf p0).1) 0)))) c2_1 c2_2 (Call.mk c2_3 c2_4 c2_5 c2_6 c2_7 c2_8))) (by assumption)
      refine op (cl (c_impl_ActLine (Deed.mk (IntKind.i64.wrap (1 + (slices_Index_string gl0 (nth ((impl_PartsOf p0).1) 0)))) c2_1 c2_2 (Call.mk c2_3 c2_4 c2_5 c2_6 c2_7 c2_8))) fok23) ?_
      refine og (clg (c_impl_PartsOf (impl_ActLine (Deed.mk (IntKind.i64.wrap (1 + (slices_Index_string gl0 (nth ((impl_PartsOf p0).1) 0)))) c2_1 c2_2 (Call.mk c2_3 c2_4 c2_5 c2_6 c2_7 c2_8))) szt) fok33) fun hgq => ?_
      obtain ⟨hg16, _⟩ := hgq
      refine ad 11 ?_
      refine op (cl (c_slices_Equal_string ((impl_PartsOf (impl_ActLine (Deed.mk (IntKind.i64.wrap (1 + (slices_Index_string gl0 (nth ((impl_PartsOf p0).1) 0)))) c2_1 c2_2 (Call.mk c2_3 c2_4 c2_5 c2_6 c2_7 c2_8)))).1) ((impl_PartsOf p0).1)) fok77) ?_
      refine ad 2 ?_
      refine cd (fun h17 => ?_) (fun h17 => ?_)
      ·
        have hM := hM.trans (bt h17)
        refine ad 6 ?_
        have hg18 : Dat.good (Deed.mk 0 0 0 (Call.mk 0 ⟨#[]⟩ ⟨#[]⟩ 0 0 ⟨#[]⟩) : Deed) := ⟨(gi 0), (gi 0), (gi 0), (good_Call (gi 0) (gs ⟨#[]⟩) (gs ⟨#[]⟩) (gi 0) (gi 0) (gs ⟨#[]⟩))⟩
        exact rz (rs := [.cell 2 56, .tmp 3]) (congrArg (fun x => [Re.st Deed _ inferInstance x.1, Re.c (.bool x.2)]) hM)
      ·
        have hM := hM.trans (bf h17)
        refine ad 7 ?_
        exact rz (rs := [.cell 2 56, .tmp 3]) (congrArg (fun x => [Re.st Deed _ inferInstance x.1, Re.c (.bool x.2)]) hM)

/- F31 loop.example/g00974/spec.ReadAct -/
def spec_ReadAct_l1 (p0 : ByteArray) : Nat → Int → Nat → Deed × Bool
  | 0, c2_0, i => bif (decide ((spec_ActLine (Deed.mk c2_0 (spec_l38Num ((spec_PartsOf p0).1) 1) (bif ((decide (c2_0 = 2)) || (decide (c2_0 = 7))) then 0 else (bif (decide (c2_0 = 4)) then (spec_l38Num ((spec_PartsOf p0).1) 2) else 0)) (Call.mk (bif ((decide (c2_0 = 2)) || (decide (c2_0 = 7))) then (bif (decide ((((spec_PartsOf p0).1).length : Int) > 2)) then ((spec_ReadCall (cutL ((spec_PartsOf p0).1) 2 (((spec_PartsOf p0).1).length))).1.Kind) else 0) else 0) (bif ((decide (c2_0 = 2)) || (decide (c2_0 = 7))) then (bif (decide ((((spec_PartsOf p0).1).length : Int) > 2)) then ((spec_ReadCall (cutL ((spec_PartsOf p0).1) 2 (((spec_PartsOf p0).1).length))).1.Name) else ⟨#[]⟩) else ⟨#[]⟩) (bif ((decide (c2_0 = 2)) || (decide (c2_0 = 7))) then (bif (decide ((((spec_PartsOf p0).1).length : Int) > 2)) then ((spec_ReadCall (cutL ((spec_PartsOf p0).1) 2 (((spec_PartsOf p0).1).length))).1.To) else ⟨#[]⟩) else ⟨#[]⟩) (bif ((decide (c2_0 = 2)) || (decide (c2_0 = 7))) then (bif (decide ((((spec_PartsOf p0).1).length : Int) > 2)) then ((spec_ReadCall (cutL ((spec_PartsOf p0).1) 2 (((spec_PartsOf p0).1).length))).1.A) else 0) else 0) (bif ((decide (c2_0 = 2)) || (decide (c2_0 = 7))) then (bif (decide ((((spec_PartsOf p0).1).length : Int) > 2)) then ((spec_ReadCall (cutL ((spec_PartsOf p0).1) 2 (((spec_PartsOf p0).1).length))).1.B) else 0) else 0) (bif ((decide (c2_0 = 2)) || (decide (c2_0 = 7))) then (bif (decide ((((spec_PartsOf p0).1).length : Int) > 2)) then ((spec_ReadCall (cutL ((spec_PartsOf p0).1) 2 (((spec_PartsOf p0).1).length))).1.Text) else ⟨#[]⟩) else ⟨#[]⟩)))) = ⟨#[]⟩)) || (!decide ((spec_ActLine (Deed.mk c2_0 (spec_l38Num ((spec_PartsOf p0).1) 1) (bif ((decide (c2_0 = 2)) || (decide (c2_0 = 7))) then 0 else (bif (decide (c2_0 = 4)) then (spec_l38Num ((spec_PartsOf p0).1) 2) else 0)) (Call.mk (bif ((decide (c2_0 = 2)) || (decide (c2_0 = 7))) then (bif (decide ((((spec_PartsOf p0).1).length : Int) > 2)) then ((spec_ReadCall (cutL ((spec_PartsOf p0).1) 2 (((spec_PartsOf p0).1).length))).1.Kind) else 0) else 0) (bif ((decide (c2_0 = 2)) || (decide (c2_0 = 7))) then (bif (decide ((((spec_PartsOf p0).1).length : Int) > 2)) then ((spec_ReadCall (cutL ((spec_PartsOf p0).1) 2 (((spec_PartsOf p0).1).length))).1.Name) else ⟨#[]⟩) else ⟨#[]⟩) (bif ((decide (c2_0 = 2)) || (decide (c2_0 = 7))) then (bif (decide ((((spec_PartsOf p0).1).length : Int) > 2)) then ((spec_ReadCall (cutL ((spec_PartsOf p0).1) 2 (((spec_PartsOf p0).1).length))).1.To) else ⟨#[]⟩) else ⟨#[]⟩) (bif ((decide (c2_0 = 2)) || (decide (c2_0 = 7))) then (bif (decide ((((spec_PartsOf p0).1).length : Int) > 2)) then ((spec_ReadCall (cutL ((spec_PartsOf p0).1) 2 (((spec_PartsOf p0).1).length))).1.A) else 0) else 0) (bif ((decide (c2_0 = 2)) || (decide (c2_0 = 7))) then (bif (decide ((((spec_PartsOf p0).1).length : Int) > 2)) then ((spec_ReadCall (cutL ((spec_PartsOf p0).1) 2 (((spec_PartsOf p0).1).length))).1.B) else 0) else 0) (bif ((decide (c2_0 = 2)) || (decide (c2_0 = 7))) then (bif (decide ((((spec_PartsOf p0).1).length : Int) > 2)) then ((spec_ReadCall (cutL ((spec_PartsOf p0).1) 2 (((spec_PartsOf p0).1).length))).1.Text) else ⟨#[]⟩) else ⟨#[]⟩)))) = (spec_l38Join ((spec_PartsOf p0).1)))) then ((Deed.mk 0 0 0 (Call.mk 0 ⟨#[]⟩ ⟨#[]⟩ 0 0 ⟨#[]⟩)), false) else ((Deed.mk c2_0 (spec_l38Num ((spec_PartsOf p0).1) 1) (bif ((decide (c2_0 = 2)) || (decide (c2_0 = 7))) then 0 else (bif (decide (c2_0 = 4)) then (spec_l38Num ((spec_PartsOf p0).1) 2) else 0)) (Call.mk (bif ((decide (c2_0 = 2)) || (decide (c2_0 = 7))) then (bif (decide ((((spec_PartsOf p0).1).length : Int) > 2)) then ((spec_ReadCall (cutL ((spec_PartsOf p0).1) 2 (((spec_PartsOf p0).1).length))).1.Kind) else 0) else 0) (bif ((decide (c2_0 = 2)) || (decide (c2_0 = 7))) then (bif (decide ((((spec_PartsOf p0).1).length : Int) > 2)) then ((spec_ReadCall (cutL ((spec_PartsOf p0).1) 2 (((spec_PartsOf p0).1).length))).1.Name) else ⟨#[]⟩) else ⟨#[]⟩) (bif ((decide (c2_0 = 2)) || (decide (c2_0 = 7))) then (bif (decide ((((spec_PartsOf p0).1).length : Int) > 2)) then ((spec_ReadCall (cutL ((spec_PartsOf p0).1) 2 (((spec_PartsOf p0).1).length))).1.To) else ⟨#[]⟩) else ⟨#[]⟩) (bif ((decide (c2_0 = 2)) || (decide (c2_0 = 7))) then (bif (decide ((((spec_PartsOf p0).1).length : Int) > 2)) then ((spec_ReadCall (cutL ((spec_PartsOf p0).1) 2 (((spec_PartsOf p0).1).length))).1.A) else 0) else 0) (bif ((decide (c2_0 = 2)) || (decide (c2_0 = 7))) then (bif (decide ((((spec_PartsOf p0).1).length : Int) > 2)) then ((spec_ReadCall (cutL ((spec_PartsOf p0).1) 2 (((spec_PartsOf p0).1).length))).1.B) else 0) else 0) (bif ((decide (c2_0 = 2)) || (decide (c2_0 = 7))) then (bif (decide ((((spec_PartsOf p0).1).length : Int) > 2)) then ((spec_ReadCall (cutL ((spec_PartsOf p0).1) 2 (((spec_PartsOf p0).1).length))).1.Text) else ⟨#[]⟩) else ⟨#[]⟩))), true)
  | n + 1, c2_0, i => spec_ReadAct_l1 p0 n (bif (decide ((spec_ActName (i : Int)) = (nth ((spec_PartsOf p0).1) 0))) then (i : Int) else c2_0) (i + 1)
def spec_ReadAct (p0 : ByteArray) : Deed × Bool := bif (!((spec_PartsOf p0).2)) || (decide ((((spec_PartsOf p0).1).length : Int) = 0)) then ((Deed.mk 0 0 0 (Call.mk 0 ⟨#[]⟩ ⟨#[]⟩ 0 0 ⟨#[]⟩)), false) else (spec_ReadAct_l1 p0 (13 - 1) 0 1)
theorem c_spec_ReadAct (p0 : ByteArray) : CTs 31 [.o (.c (.string p0))] [Re.st Deed _ inferInstance ((spec_ReadAct p0).1), Re.c (.bool ((spec_ReadAct p0).2))] := by
  refine en Tryz.func31 Tryz.ntmps31 fun w hG hgd => ?_
  have hM := spec_ReadAct.eq_1 p0
  refine ad 8 ?_
  refine og (clg (c_spec_PartsOf p0) fok93) fun hgq => ?_
  obtain ⟨hg1, _⟩ := hgq
  refine ad 12 ?_
  refine ag 4 ?_
  refine ad 1 ?_
  refine cd (fun h2 => ?_) (fun h2 => ?_)
  ·
    have hM := hM.trans (bt h2)
    refine ad 6 ?_
    have hg3 : Dat.good (Deed.mk 0 0 0 (Call.mk 0 ⟨#[]⟩ ⟨#[]⟩ 0 0 ⟨#[]⟩) : Deed) := ⟨(gi 0), (gi 0), (gi 0), (good_Call (gi 0) (gs ⟨#[]⟩) (gs ⟨#[]⟩) (gi 0) (gi 0) (gs ⟨#[]⟩))⟩
    exact rz (rs := [.cell 2 56, .tmp 3]) (congrArg (fun x => [Re.st Deed _ inferInstance x.1, Re.c (.bool x.2)]) hM)
  ·
    have hM := hM.trans (bf h2)
    refine ad 4 ?_
    refine op (cl (c_spec_l38Num ((spec_PartsOf p0).1) 1 (by omega)) fok99) ?_
    refine ad 10 ?_
    refine fz 1 ?_
    refine Run.loopM (ι := Int × Nat) (fun s => spec_ReadAct_l1 p0 (13 - s.2) s.1 s.2) (fun s => ⟨69, 3, [(2, .pt 0 0), (4, .sl 1 (((spec_PartsOf p0).1).length)), (6, .pt 2 0), (7, .v (.int .i64 (s.2 : Int)))], [(0, .var [.v (.int .i64 0), .v (.int .i64 0), .v (.int .i64 0), .v (.int .i64 0), .v (.string ⟨#[]⟩), .v (.string ⟨#[]⟩), .v (.int .i64 0), .v (.int .i64 0), .v (.string ⟨#[]⟩)] 56), (1, .ros ByteArray instDatByteArray ((spec_PartsOf p0).1)), (2, .var [.v (.int .i64 s.1), .v (.int .i64 (spec_l38Num ((spec_PartsOf p0).1) 1)), .v (.int .i64 0), .v (.int .i64 0), .v (.string ⟨#[]⟩), .v (.string ⟨#[]⟩), .v (.int .i64 0), .v (.int .i64 0), .v (.string ⟨#[]⟩)] 56)]⟩) (fun s => s.2 ≤ 13 ∧ I64 s.1) (fun s => 13 - s.2) (0, 1) [0, 1, 2] [2, 1, 0] hM (by exact ⟨by (try dsimp only); first | omega | exact trivial, (gi 0)⟩) su (by decide) ?_
    rintro ⟨c2_0, i⟩ hv hE
    try dsimp only at hE
    obtain ⟨hi, hg_c2_0⟩ := hv
    try dsimp only at hi hg_c2_0
    refine ad 6 ?_
    refine cd (fun h4 => ?_) (fun h4 => ?_)
    ·
      have h4l : i < 13 := by have := of_decide_eq_true h4; omega
      have hM := hE.trans ((congrArg (fun n => spec_ReadAct_l1 p0 n c2_0 i) (show 13 - i = (13 - (i + 1)) + 1 by omega)).trans (spec_ReadAct_l1.eq_2 _ _ _ _))
      refine ad 4 ?_
      refine dr 6 fun _ _ _ _ _ hb => ?_
      refine tk [0, 2] ?_
      have hg5 := good_nth (k := 0) hg1 om
      refine tx 3 (dx (xs := (spec_PartsOf p0).1) 0 om) ?_
      refine tk [4] ?_
      refine on 1 [1, 2, 3] (cl (c_spec_ActName (i : Int)) fok37) ?_
      refine tk [5] ?_
      refine dn hb ?_
      refine Run.mid ⟨69, 3, [(2, .pt 0 0), (4, .sl 1 (((spec_PartsOf p0).1).length)), (6, .pt 2 0), (7, .v (.int .i64 (i : Int)))], [(0, .var [.v (.int .i64 0), .v (.int .i64 0), .v (.int .i64 0), .v (.int .i64 0), .v (.string ⟨#[]⟩), .v (.string ⟨#[]⟩), .v (.int .i64 0), .v (.int .i64 0), .v (.string ⟨#[]⟩)] 56), (1, .ros ByteArray instDatByteArray ((spec_PartsOf p0).1)), (2, .var [.v (.int .i64 (bif (decide ((spec_ActName (i : Int)) = (nth ((spec_PartsOf p0).1) 0))) then (i : Int) else c2_0)), .v (.int .i64 (spec_l38Num ((spec_PartsOf p0).1) 1)), .v (.int .i64 0), .v (.int .i64 0), .v (.string ⟨#[]⟩), .v (.string ⟨#[]⟩), .v (.int .i64 0), .v (.int .i64 0), .v (.string ⟨#[]⟩)] 56)]⟩ ?_ ?_
      · refine cd (fun h6 => ?_) (fun h6 => ?_)
        ·
          refine ad 5 ?_
          exact Run.at [0, 1, 2] [1, 2, 3] (by first | exact su | (rw [h6]; exact su)) (by decide)
        ·
          refine ad 1 ?_
          exact Run.at [0, 1, 2] [1, 2, 3] (by first | exact su | (rw [h6]; exact su)) (by decide)
      refine ad 4 ?_
      rw [wrapN (i := i) (by first | omega | exact om)]
      refine ad 2 ?_
      exact Run.again (bif (decide ((spec_ActName (i : Int)) = (nth ((spec_PartsOf p0).1) 0))) then (i : Int) else c2_0, (i + 1)) [0, 1, 2] [0, 1, 2] ⟨by exact ⟨by (try dsimp only); first | omega | exact trivial, (bifI (gn i (by omega)) hg_c2_0)⟩, hM⟩ rfl (by show _ - _ < _ - _; (try dsimp only); omega) su (by decide)
    ·
      have h4l : ¬ (i < 13) := by have := of_decide_eq_false h4; omega
      have hM := hE.trans ((congrArg (fun n => spec_ReadAct_l1 p0 n c2_0 i) (show 13 - i = 0 by omega)).trans (spec_ReadAct_l1.eq_1 _ _ _))
      refine ad 14 ?_
      refine Run.mid ⟨69, 3, [(2, .pt 0 0), (4, .sl 1 (((spec_PartsOf p0).1).length)), (6, .pt 2 0), (38, .v (.int .i64 c2_0)), (39, .v (.bool ((decide (c2_0 = 2)) || (decide (c2_0 = 7)))))], [(0, .var [.v (.int .i64 0), .v (.int .i64 0), .v (.int .i64 0), .v (.int .i64 0), .v (.string ⟨#[]⟩), .v (.string ⟨#[]⟩), .v (.int .i64 0), .v (.int .i64 0), .v (.string ⟨#[]⟩)] 56), (1, .ros ByteArray instDatByteArray ((spec_PartsOf p0).1)), (2, .var [.v (.int .i64 c2_0), .v (.int .i64 (spec_l38Num ((spec_PartsOf p0).1) 1)), .v (.int .i64 0), .v (.int .i64 0), .v (.string ⟨#[]⟩), .v (.string ⟨#[]⟩), .v (.int .i64 0), .v (.int .i64 0), .v (.string ⟨#[]⟩)] 56)]⟩ ?_ ?_
      · refine cd (fun h7 => ?_) (fun h7 => ?_)
        ·
          refine ad 1 ?_
          exact Run.at [0, 1, 2] [0, 1, 2] (by first | exact su | (rw [h7]; exact su)) (by decide)
        ·
          refine ad 4 ?_
          exact Run.at [0, 1, 2] [0, 1, 2] (by first | exact su | (rw [h7]; exact su)) (by decide)
      refine Run.mid ⟨69, 3, [(2, .pt 0 0), (4, .sl 1 (((spec_PartsOf p0).1).length)), (6, .pt 2 0)], [(0, .var [.v (.int .i64 0), .v (.int .i64 0), .v (.int .i64 0), .v (.int .i64 0), .v (.string ⟨#[]⟩), .v (.string ⟨#[]⟩), .v (.int .i64 0), .v (.int .i64 0), .v (.string ⟨#[]⟩)] 56), (1, .ros ByteArray instDatByteArray ((spec_PartsOf p0).1)), (2, .var [.v (.int .i64 c2_0), .v (.int .i64 (spec_l38Num ((spec_PartsOf p0).1) 1)), .v (.int .i64 (bif ((decide (c2_0 = 2)) || (decide (c2_0 = 7))) then 0 else (bif (decide (c2_0 = 4)) then (spec_l38Num ((spec_PartsOf p0).1) 2) else 0))), .v (.int .i64 (bif ((decide (c2_0 = 2)) || (decide (c2_0 = 7))) then (bif (decide ((((spec_PartsOf p0).1).length : Int) > 2)) then ((spec_ReadCall (cutL ((spec_PartsOf p0).1) 2 (((spec_PartsOf p0).1).length))).1.Kind) else 0) else 0)), .v (.string (bif ((decide (c2_0 = 2)) || (decide (c2_0 = 7))) then (bif (decide ((((spec_PartsOf p0).1).length : Int) > 2)) then ((spec_ReadCall (cutL ((spec_PartsOf p0).1) 2 (((spec_PartsOf p0).1).length))).1.Name) else ⟨#[]⟩) else ⟨#[]⟩)), .v (.string (bif ((decide (c2_0 = 2)) || (decide (c2_0 = 7))) then (bif (decide ((((spec_PartsOf p0).1).length : Int) > 2)) then ((spec_ReadCall (cutL ((spec_PartsOf p0).1) 2 (((spec_PartsOf p0).1).length))).1.To) else ⟨#[]⟩) else ⟨#[]⟩)), .v (.int .i64 (bif ((decide (c2_0 = 2)) || (decide (c2_0 = 7))) then (bif (decide ((((spec_PartsOf p0).1).length : Int) > 2)) then ((spec_ReadCall (cutL ((spec_PartsOf p0).1) 2 (((spec_PartsOf p0).1).length))).1.A) else 0) else 0)), .v (.int .i64 (bif ((decide (c2_0 = 2)) || (decide (c2_0 = 7))) then (bif (decide ((((spec_PartsOf p0).1).length : Int) > 2)) then ((spec_ReadCall (cutL ((spec_PartsOf p0).1) 2 (((spec_PartsOf p0).1).length))).1.B) else 0) else 0)), .v (.string (bif ((decide (c2_0 = 2)) || (decide (c2_0 = 7))) then (bif (decide ((((spec_PartsOf p0).1).length : Int) > 2)) then ((spec_ReadCall (cutL ((spec_PartsOf p0).1) 2 (((spec_PartsOf p0).1).length))).1.Text) else ⟨#[]⟩) else ⟨#[]⟩))] 56)]⟩ ?_ ?_
      · refine cd (fun h8 => ?_) (fun h8 => ?_)
        ·
          refine ad 6 ?_
          refine Run.mid ⟨69, 3, [(2, .pt 0 0), (4, .sl 1 (((spec_PartsOf p0).1).length)), (6, .pt 2 0)], [(0, .var [.v (.int .i64 0), .v (.int .i64 0), .v (.int .i64 0), .v (.int .i64 0), .v (.string ⟨#[]⟩), .v (.string ⟨#[]⟩), .v (.int .i64 0), .v (.int .i64 0), .v (.string ⟨#[]⟩)] 56), (1, .ros ByteArray instDatByteArray ((spec_PartsOf p0).1)), (2, .var [.v (.int .i64 c2_0), .v (.int .i64 (spec_l38Num ((spec_PartsOf p0).1) 1)), .v (.int .i64 0), .v (.int .i64 (bif (decide ((((spec_PartsOf p0).1).length : Int) > 2)) then ((spec_ReadCall (cutL ((spec_PartsOf p0).1) 2 (((spec_PartsOf p0).1).length))).1.Kind) else 0)), .v (.string (bif (decide ((((spec_PartsOf p0).1).length : Int) > 2)) then ((spec_ReadCall (cutL ((spec_PartsOf p0).1) 2 (((spec_PartsOf p0).1).length))).1.Name) else ⟨#[]⟩)), .v (.string (bif (decide ((((spec_PartsOf p0).1).length : Int) > 2)) then ((spec_ReadCall (cutL ((spec_PartsOf p0).1) 2 (((spec_PartsOf p0).1).length))).1.To) else ⟨#[]⟩)), .v (.int .i64 (bif (decide ((((spec_PartsOf p0).1).length : Int) > 2)) then ((spec_ReadCall (cutL ((spec_PartsOf p0).1) 2 (((spec_PartsOf p0).1).length))).1.A) else 0)), .v (.int .i64 (bif (decide ((((spec_PartsOf p0).1).length : Int) > 2)) then ((spec_ReadCall (cutL ((spec_PartsOf p0).1) 2 (((spec_PartsOf p0).1).length))).1.B) else 0)), .v (.string (bif (decide ((((spec_PartsOf p0).1).length : Int) > 2)) then ((spec_ReadCall (cutL ((spec_PartsOf p0).1) 2 (((spec_PartsOf p0).1).length))).1.Text) else ⟨#[]⟩))] 56)]⟩ ?_ ?_
          · refine cd (fun h9 => ?_) (fun h9 => ?_)
            ·
              refine ad 2 ?_
              refine op (pa 2 (((spec_PartsOf p0).1).length) (hh := rfl)) ?_
              refine og (clg (c_spec_ReadCall (cutL ((spec_PartsOf p0).1) 2 (((spec_PartsOf p0).1).length))) fok29) fun hgq => ?_
              obtain ⟨hg10, _⟩ := hgq
              refine ad 6 ?_
              exact Run.at [0, 1, 2] [1, 2, 3] (by first | exact su | (rw [h9]; exact su)) (by decide)
            ·
              refine ad 1 ?_
              exact Run.at [0, 1, 2] [0, 1, 2] (by first | exact su | (rw [h9]; exact su)) (by decide)
          exact Run.at [0, 1, 2] [0, 1, 2] (by first | exact su | (rw [h8]; exact su)) (by decide)
        ·
          refine ad 5 ?_
          refine Run.mid ⟨69, 3, [(2, .pt 0 0), (4, .sl 1 (((spec_PartsOf p0).1).length)), (6, .pt 2 0)], [(0, .var [.v (.int .i64 0), .v (.int .i64 0), .v (.int .i64 0), .v (.int .i64 0), .v (.string ⟨#[]⟩), .v (.string ⟨#[]⟩), .v (.int .i64 0), .v (.int .i64 0), .v (.string ⟨#[]⟩)] 56), (1, .ros ByteArray instDatByteArray ((spec_PartsOf p0).1)), (2, .var [.v (.int .i64 c2_0), .v (.int .i64 (spec_l38Num ((spec_PartsOf p0).1) 1)), .v (.int .i64 (bif (decide (c2_0 = 4)) then (spec_l38Num ((spec_PartsOf p0).1) 2) else 0)), .v (.int .i64 0), .v (.string ⟨#[]⟩), .v (.string ⟨#[]⟩), .v (.int .i64 0), .v (.int .i64 0), .v (.string ⟨#[]⟩)] 56)]⟩ ?_ ?_
          · refine cd (fun h11 => ?_) (fun h11 => ?_)
            ·
              refine ad 2 ?_
              refine op (cl (c_spec_l38Num ((spec_PartsOf p0).1) 2 (by omega)) fok99) ?_
              refine ad 3 ?_
              exact Run.at [0, 1, 2] [0, 1, 2] (by first | exact su | (rw [h11]; exact su)) (by decide)
            ·
              refine ad 1 ?_
              exact Run.at [0, 1, 2] [0, 1, 2] (by first | exact su | (rw [h11]; exact su)) (by decide)
          exact Run.at [0, 1, 2] [0, 1, 2] (by first | exact su | (rw [h8]; exact su)) (by decide)
      refine ad 4 ?_
      have hg12 : Dat.good (Deed.mk c2_0 (spec_l38Num ((spec_PartsOf p0).1) 1) (bif ((decide (c2_0 = 2)) || (decide (c2_0 = 7))) then 0 else (bif (decide (c2_0 = 4)) then (spec_l38Num ((spec_PartsOf p0).1) 2) else 0)) (Call.mk (bif ((decide (c2_0 = 2)) || (decide (c2_0 = 7))) then (bif (decide ((((spec_PartsOf p0).1).length : Int) > 2)) then ((spec_ReadCall (cutL ((spec_PartsOf p0).1) 2 (((spec_PartsOf p0).1).length))).1.Kind) else 0) else 0) (bif ((decide (c2_0 = 2)) || (decide (c2_0 = 7))) then (bif (decide ((((spec_PartsOf p0).1).length : Int) > 2)) then ((spec_ReadCall (cutL ((spec_PartsOf p0).1) 2 (((spec_PartsOf p0).1).length))).1.Name) else ⟨#[]⟩) else ⟨#[]⟩) (bif ((decide (c2_0 = 2)) || (decide (c2_0 = 7))) then (bif (decide ((((spec_PartsOf p0).1).length : Int) > 2)) then ((spec_ReadCall (cutL ((spec_PartsOf p0).1) 2 (((spec_PartsOf p0).1).length))).1.To) else ⟨#[]⟩) else ⟨#[]⟩) (bif ((decide (c2_0 = 2)) || (decide (c2_0 = 7))) then (bif (decide ((((spec_PartsOf p0).1).length : Int) > 2)) then ((spec_ReadCall (cutL ((spec_PartsOf p0).1) 2 (((spec_PartsOf p0).1).length))).1.A) else 0) else 0) (bif ((decide (c2_0 = 2)) || (decide (c2_0 = 7))) then (bif (decide ((((spec_PartsOf p0).1).length : Int) > 2)) then ((spec_ReadCall (cutL ((spec_PartsOf p0).1) 2 (((spec_PartsOf p0).1).length))).1.B) else 0) else 0) (bif ((decide (c2_0 = 2)) || (decide (c2_0 = 7))) then (bif (decide ((((spec_PartsOf p0).1).length : Int) > 2)) then ((spec_ReadCall (cutL ((spec_PartsOf p0).1) 2 (((spec_PartsOf p0).1).length))).1.Text) else ⟨#[]⟩) else ⟨#[]⟩)) : Deed) := ⟨hg_c2_0, (spec_l38Num_I64 _ _), (bifI (gi 0) (bifI (spec_l38Num_I64 _ _) (gi 0))), (good_Call (bifI (bifI (spec_ReadCall_gs (cutL ((spec_PartsOf p0).1) 2 (((spec_PartsOf p0).1).length))).1 (gi 0)) (gi 0)) (bifS (bifS (spec_ReadCall_gs (cutL ((spec_PartsOf p0).1) 2 (((spec_PartsOf p0).1).length))).2.1 (gs ⟨#[]⟩)) (gs ⟨#[]⟩)) (bifS (bifS (spec_ReadCall_gs (cutL ((spec_PartsOf p0).1) 2 (((spec_PartsOf p0).1).length))).2.2.1 (gs ⟨#[]⟩)) (gs ⟨#[]⟩)) (bifI (bifI (spec_ReadCall_gs (cutL ((spec_PartsOf p0).1) 2 (((spec_PartsOf p0).1).length))).2.2.2.1 (gi 0)) (gi 0)) (bifI (bifI (spec_ReadCall_gs (cutL ((spec_PartsOf p0).1) 2 (((spec_PartsOf p0).1).length))).2.2.2.2.1 (gi 0)) (gi 0)) (bifS (bifS (spec_ReadCall_gs (cutL ((spec_PartsOf p0).1) 2 (((spec_PartsOf p0).1).length))).2.2.2.2.2 (gs ⟨#[]⟩)) (gs ⟨#[]⟩)))⟩
      have hs13 := spec_ActLine_size (a := (Deed.mk c2_0 (spec_l38Num ((spec_PartsOf p0).1) 1) (bif ((decide (c2_0 = 2)) || (decide (c2_0 = 7))) then 0 else (bif (decide (c2_0 = 4)) then (spec_l38Num ((spec_PartsOf p0).1) 2) else 0)) (Call.mk (bif ((decide (c2_0 = 2)) || (decide (c2_0 = 7))) then (bif (decide ((((spec_PartsOf p0).1).length : Int) > 2)) then ((spec_ReadCall (cutL ((spec_PartsOf p0).1) 2 (((spec_PartsOf p0).1).length))).1.Kind) else 0) else 0) (bif ((decide (c2_0 = 2)) || (decide (c2_0 = 7))) then (bif (decide ((((spec_PartsOf p0).1).length : Int) > 2)) then ((spec_ReadCall (cutL ((spec_PartsOf p0).1) 2 (((spec_PartsOf p0).1).length))).1.Name) else ⟨#[]⟩) else ⟨#[]⟩) (bif ((decide (c2_0 = 2)) || (decide (c2_0 = 7))) then (bif (decide ((((spec_PartsOf p0).1).length : Int) > 2)) then ((spec_ReadCall (cutL ((spec_PartsOf p0).1) 2 (((spec_PartsOf p0).1).length))).1.To) else ⟨#[]⟩) else ⟨#[]⟩) (bif ((decide (c2_0 = 2)) || (decide (c2_0 = 7))) then (bif (decide ((((spec_PartsOf p0).1).length : Int) > 2)) then ((spec_ReadCall (cutL ((spec_PartsOf p0).1) 2 (((spec_PartsOf p0).1).length))).1.A) else 0) else 0) (bif ((decide (c2_0 = 2)) || (decide (c2_0 = 7))) then (bif (decide ((((spec_PartsOf p0).1).length : Int) > 2)) then ((spec_ReadCall (cutL ((spec_PartsOf p0).1) 2 (((spec_PartsOf p0).1).length))).1.B) else 0) else 0) (bif ((decide (c2_0 = 2)) || (decide (c2_0 = 7))) then (bif (decide ((((spec_PartsOf p0).1).length : Int) > 2)) then ((spec_ReadCall (cutL ((spec_PartsOf p0).1) 2 (((spec_PartsOf p0).1).length))).1.Text) else ⟨#[]⟩) else ⟨#[]⟩))))
      refine op (cl (c_spec_ActLine (Deed.mk c2_0 (spec_l38Num ((spec_PartsOf p0).1) 1) (bif ((decide (c2_0 = 2)) || (decide (c2_0 = 7))) then 0 else (bif (decide (c2_0 = 4)) then (spec_l38Num ((spec_PartsOf p0).1) 2) else 0)) (Call.mk (bif ((decide (c2_0 = 2)) || (decide (c2_0 = 7))) then (bif (decide ((((spec_PartsOf p0).1).length : Int) > 2)) then ((spec_ReadCall (cutL ((spec_PartsOf p0).1) 2 (((spec_PartsOf p0).1).length))).1.Kind) else 0) else 0) (bif ((decide (c2_0 = 2)) || (decide (c2_0 = 7))) then (bif (decide ((((spec_PartsOf p0).1).length : Int) > 2)) then ((spec_ReadCall (cutL ((spec_PartsOf p0).1) 2 (((spec_PartsOf p0).1).length))).1.Name) else ⟨#[]⟩) else ⟨#[]⟩) (bif ((decide (c2_0 = 2)) || (decide (c2_0 = 7))) then (bif (decide ((((spec_PartsOf p0).1).length : Int) > 2)) then ((spec_ReadCall (cutL ((spec_PartsOf p0).1) 2 (((spec_PartsOf p0).1).length))).1.To) else ⟨#[]⟩) else ⟨#[]⟩) (bif ((decide (c2_0 = 2)) || (decide (c2_0 = 7))) then (bif (decide ((((spec_PartsOf p0).1).length : Int) > 2)) then ((spec_ReadCall (cutL ((spec_PartsOf p0).1) 2 (((spec_PartsOf p0).1).length))).1.A) else 0) else 0) (bif ((decide (c2_0 = 2)) || (decide (c2_0 = 7))) then (bif (decide ((((spec_PartsOf p0).1).length : Int) > 2)) then ((spec_ReadCall (cutL ((spec_PartsOf p0).1) 2 (((spec_PartsOf p0).1).length))).1.B) else 0) else 0) (bif ((decide (c2_0 = 2)) || (decide (c2_0 = 7))) then (bif (decide ((((spec_PartsOf p0).1).length : Int) > 2)) then ((spec_ReadCall (cutL ((spec_PartsOf p0).1) 2 (((spec_PartsOf p0).1).length))).1.Text) else ⟨#[]⟩) else ⟨#[]⟩)))) fok34) ?_
      refine ad 8 ?_
      refine ag 2 ?_
      refine op (cG (hct := fun hB => (c_spec_l38Join ((spec_PartsOf p0).1) (sparts12 _))) (hfn := fok102)) ?_
      refine ag 2 ?_
      refine ad 1 ?_
      refine cd (fun h14 => ?_) (fun h14 => ?_)
      ·
        have hM := hM.trans (bt h14)
        refine ad 6 ?_
        have hg15 : Dat.good (Deed.mk 0 0 0 (Call.mk 0 ⟨#[]⟩ ⟨#[]⟩ 0 0 ⟨#[]⟩) : Deed) := ⟨(gi 0), (gi 0), (gi 0), (good_Call (gi 0) (gs ⟨#[]⟩) (gs ⟨#[]⟩) (gi 0) (gi 0) (gs ⟨#[]⟩))⟩
        exact rz (rs := [.cell 2 56, .tmp 3]) (congrArg (fun x => [Re.st Deed _ inferInstance x.1, Re.c (.bool x.2)]) hM)
      ·
        have hM := hM.trans (bf h14)
        refine ad 7 ?_
        exact rz (rs := [.cell 2 56, .tmp 3]) (congrArg (fun x => [Re.st Deed _ inferInstance x.1, Re.c (.bool x.2)]) hM)

/- F114 loop.example/g00974/laws.eqAct -/
end Go.Proofs.YtnjidaonbcbphaaGreatDoor.Fw
/-
  The reference and the program read the same action off a line. No condition.
-/
namespace Go.Proofs.YtnjidaonbcbphaaGreatDoor.Fw
open Go.RowKit
set_option linter.unusedVariables false
set_option linter.unusedSimpArgs false
set_option maxRecDepth 100000
/-! ## An action, read -/
theorem index_notG (xs : List ByteArray) (w : ByteArray) : ∀ n i, (∀ j, i ≤ j → j < i + n → w ≠ nth xs j) → slices_Index_string_l1 xs w n i = -1 := by
  intro n
  induction n with
  | zero => intro i _; rfl
  | succ n ih =>
    intro i h
    rw [slices_Index_string_l1, decide_eq_false (h i (Nat.le_refl _) (by omega)), ih (i + 1) (fun j h1 h2 => h j (by omega) (by omega))]
    rfl
def kindA (w : ByteArray) : Nat → Int → Nat → Int
  | 0, c, _ => c
  | n + 1, c, i => kindA w n (bif (decide ((spec_ActName (i : Int)) = w)) then (i : Int) else c) (i + 1)
theorem kindA_not (w : ByteArray) (h : ∀ j : Nat, 1 ≤ j → j ≤ 12 → spec_ActName (j : Int) ≠ w) : ∀ n i c, 1 ≤ i → i + n ≤ 13 → kindA w n c i = c := by
  intro n
  induction n with
  | zero => intro i c _ _; rfl
  | succ n ih =>
    intro i c h1 h2
    rw [kindA, decide_eq_false (h i h1 (by omega)), ih (i + 1) _ (by omega) (by omega)]
    rfl
theorem anames_12 : ∀ n : Fin 12, spec_ActName ((n.val : Int) + 1) = nth gl0 n.val := by decide +kernel
theorem kindA_12 : ∀ n : Fin 12, kindA (nth gl0 n.val) 12 0 1 = (n.val : Int) + 1 ∧ IntKind.i64.wrap (1 + slices_Index_string gl0 (nth gl0 n.val)) = (n.val : Int) + 1 := by decide +kernel
theorem kindA_twin (w : ByteArray) : kindA w 12 0 1 = IntKind.i64.wrap (1 + slices_Index_string gl0 w) ∧ 0 ≤ kindA w 12 0 1 ∧ kindA w 12 0 1 ≤ 12 := by
  by_cases h : ∃ n : Fin 12, nth gl0 n.val = w
  · obtain ⟨n, rfl⟩ := h
    rw [(kindA_12 n).1, (kindA_12 n).2]
    have := n.isLt
    exact ⟨rfl, by omega, by omega⟩
  · have h' : ∀ j, j < 12 → nth gl0 j ≠ w := fun j hj e => h ⟨⟨j, hj⟩, e⟩
    rw [kindA_not w (fun j h1 h2 => ?_) 12 1 0 (Nat.le_refl _) (Nat.le_refl _)]
    · have : slices_Index_string gl0 w = -1 := index_notG gl0 w _ 0 fun j _ hj => (h' j (by rw [Nat.zero_add] at hj; exact hj)).symm
      rw [this]
      exact ⟨rfl, by omega, by omega⟩
    · have := anames_12 ⟨j - 1, by omega⟩
      rw [show (((⟨j - 1, by omega⟩ : Fin 12).val : Nat) : Int) + 1 = (j : Int) by show ((j - 1 : Nat) : Int) + 1 = _; omega] at this
      rw [this]
      exact h' _ (by show j - 1 < 12; omega)
theorem spec_act_kind (p0 : ByteArray) : ∀ n c i, spec_ReadAct_l1 p0 n c i = spec_ReadAct_l1 p0 0 (kindA (nth (spec_PartsOf p0).1 0) n c i) (i + n) := by
  intro n
  induction n with
  | zero => intro c i; rfl
  | succ n ih =>
    intro c i
    show spec_ReadAct_l1 p0 n (bif (decide ((spec_ActName (i : Int)) = (nth (spec_PartsOf p0).1 0))) then (i : Int) else c) (i + 1) = _
    rw [ih, show i + 1 + n = i + (n + 1) by omega]
    rfl
/-- What the reference takes the words for. -/
def sC (ps : List ByteArray) : Call := (spec_ReadCall (cutL ps 2 ps.length)).1
def sA (ps : List ByteArray) (K : Int) : Deed := Deed.mk K (spec_l38Num ps 1) (bif ((decide (K = 2)) || (decide (K = 7))) then 0 else (bif (decide (K = 4)) then (spec_l38Num ps 2) else 0))
  (Call.mk (bif ((decide (K = 2)) || (decide (K = 7))) then (bif (decide ((ps.length : Int) > 2)) then (sC ps).Kind else 0) else 0) (bif ((decide (K = 2)) || (decide (K = 7))) then (bif (decide ((ps.length : Int) > 2)) then (sC ps).Name else ⟨#[]⟩) else ⟨#[]⟩) (bif ((decide (K = 2)) || (decide (K = 7))) then (bif (decide ((ps.length : Int) > 2)) then (sC ps).To else ⟨#[]⟩) else ⟨#[]⟩) (bif ((decide (K = 2)) || (decide (K = 7))) then (bif (decide ((ps.length : Int) > 2)) then (sC ps).A else 0) else 0) (bif ((decide (K = 2)) || (decide (K = 7))) then (bif (decide ((ps.length : Int) > 2)) then (sC ps).B else 0) else 0) (bif ((decide (K = 2)) || (decide (K = 7))) then (bif (decide ((ps.length : Int) > 2)) then (sC ps).Text else ⟨#[]⟩) else ⟨#[]⟩))
theorem spec_act_fin (p0 : ByteArray) (K : Int) (i : Nat) : spec_ReadAct_l1 p0 0 K i = finAS (spec_PartsOf p0).1 (sA (spec_PartsOf p0).1 K) := rfl
abbrev XA (p0 : ByteArray) : Int := IntKind.i64.wrap (1 + (slices_Index_string gl0 (nth ((impl_PartsOf p0).1) 0)))
theorem st_N (p0 : ByteArray) {n i : Nat} {c1 c2 c3 c6 c7 : Int} {c4 c5 c8 : ByteArray} {v : List ByteArray} (hf : byteAt (impl_actFields (XA p0)) i = 78) : impl_ReadAct_l1 p0 (n + 1) c1 c2 c3 c4 c5 c6 c7 c8 i v = bif decide ((v.length : Int) = 0) then (D0, false) else impl_ReadAct_l1 p0 n (impl_ReadDecimal (nth v 0)).1 c2 c3 c4 c5 c6 c7 c8 (i + 1) (cutL v 1 v.length) := by
  rw [impl_ReadAct_l1, hf]
  rfl
theorem st_M (p0 : ByteArray) {n i : Nat} {c1 c2 c3 c6 c7 : Int} {c4 c5 c8 : ByteArray} {v : List ByteArray} (hf : byteAt (impl_actFields (XA p0)) i = 77) : impl_ReadAct_l1 p0 (n + 1) c1 c2 c3 c4 c5 c6 c7 c8 i v = bif decide ((v.length : Int) = 0) then (D0, false) else impl_ReadAct_l1 p0 n c1 (impl_ReadDecimal (nth v 0)).1 c3 c4 c5 c6 c7 c8 (i + 1) (cutL v 1 v.length) := by
  rw [impl_ReadAct_l1, hf]
  rfl
theorem st_C (p0 : ByteArray) {n i : Nat} {c1 c2 c3 c6 c7 : Int} {c4 c5 c8 : ByteArray} {v : List ByteArray} (hf : byteAt (impl_actFields (XA p0)) i = 67) : impl_ReadAct_l1 p0 (n + 1) c1 c2 c3 c4 c5 c6 c7 c8 i v = bif decide ((v.length : Int) = 0) then (D0, false) else impl_ReadAct_l1 p0 n c1 c2 (impl_ReadCall v).1.Kind (impl_ReadCall v).1.Name (impl_ReadCall v).1.To (impl_ReadCall v).1.A (impl_ReadCall v).1.B (impl_ReadCall v).1.Text (i + 1) v := by
  rw [impl_ReadAct_l1, hf]
  rfl
theorem st_0 (p0 : ByteArray) {i : Nat} {c1 c2 c3 c6 c7 : Int} {c4 c5 c8 : ByteArray} {v : List ByteArray} : impl_ReadAct_l1 p0 0 c1 c2 c3 c4 c5 c6 c7 c8 i v = finAI (impl_PartsOf p0).1 (Deed.mk (XA p0) c1 c2 (Call.mk c3 c4 c5 c6 c7 c8)) := rfl
def Z : Call := Call.mk 0 ⟨#[]⟩ ⟨#[]⟩ 0 0 ⟨#[]⟩
theorem good_Z : Dat.good Z := good_C00
theorem good_Deed {k n m : Int} {c : Call} (h1 : I64 k) (h2 : I64 n) (h3 : I64 m) (h4 : Dat.good c) : Dat.good (Deed.mk k n m c) := ⟨h1, h2, h3, h4⟩
/-- What the program takes the words for. -/
def rdI (w0 : ByteArray) (r : List ByteArray) (K : Int) : Deed × Bool :=
  bif (decide (K = 1)) || ((decide (K = 3)) || ((decide (K = 5)) || ((decide (K = 6)) || ((decide (K = 11)) || (decide (K = 12)))))) then (bif decide ((r.length : Int) = 0) then (D0, false) else finAI (w0 :: r) (Deed.mk K (impl_ReadDecimal (nth r 0)).1 0 Z))
  else (bif decide (K = 4) then (bif decide ((r.length : Int) = 0) then (D0, false) else bif decide (((r.drop 1).length : Int) = 0) then (D0, false) else finAI (w0 :: r) (Deed.mk K (impl_ReadDecimal (nth r 0)).1 (impl_ReadDecimal (nth (r.drop 1) 0)).1 Z))
  else (bif (decide (K = 2)) || (decide (K = 7)) then (bif decide ((r.length : Int) = 0) then (D0, false) else bif decide (((r.drop 1).length : Int) = 0) then (D0, false) else finAI (w0 :: r) (Deed.mk K (impl_ReadDecimal (nth r 0)).1 0 (impl_ReadCall (r.drop 1)).1))
  else finAI (w0 :: r) (Deed.mk K 0 0 Z)))
theorem impl_act_is {p0 w0 : ByteArray} {r : List ByteArray} {K : Int} (hp : (impl_PartsOf p0).1 = w0 :: r) (hK : XA p0 = K) : impl_ReadAct_l1 p0 ((impl_actFields (XA p0)).size - 0) 0 0 0 ⟨#[]⟩ ⟨#[]⟩ 0 0 ⟨#[]⟩ 0 (cutL (impl_PartsOf p0).1 1 (impl_PartsOf p0).1.length) = rdI w0 r K := by
  rw [cutL_drop]
  rw [show (impl_PartsOf p0).1.drop 1 = r by rw [hp]; rfl]
  unfold rdI
  cases e1 : (decide (K = 1)) || ((decide (K = 3)) || ((decide (K = 5)) || ((decide (K = 6)) || ((decide (K = 11)) || (decide (K = 12)))))) with
  | true =>
    have hf : impl_actFields (XA p0) = ⟨#[78]⟩ := by
      unfold impl_actFields
      rw [hK, e1]
      rfl
    rw [hf, show (⟨#[78]⟩ : ByteArray).size - 0 = 0 + 1 from rfl, st_N p0 (by rw [hf]; rfl), st_0, hp, hK]
    rfl
  | false =>
    cases e2 : decide (K = 4) with
    | true =>
      have hf : impl_actFields (XA p0) = ⟨#[78, 77]⟩ := by
        unfold impl_actFields
        rw [hK, e1, e2]
        rfl
      rw [hf, show (⟨#[78, 77]⟩ : ByteArray).size - 0 = 0 + 1 + 1 from rfl, st_N p0 (by rw [hf]; rfl), st_M p0 (by rw [hf]; rfl), st_0, hp, hK, cutL_drop]
      rfl
    | false =>
      cases e3 : (decide (K = 2)) || (decide (K = 7)) with
      | true =>
        have hf : impl_actFields (XA p0) = ⟨#[78, 67]⟩ := by
          unfold impl_actFields
          rw [hK, e1, e2, e3]
          rfl
        rw [hf, show (⟨#[78, 67]⟩ : ByteArray).size - 0 = 0 + 1 + 1 from rfl, st_N p0 (by rw [hf]; rfl), st_C p0 (by rw [hf]; rfl), st_0, hp, hK, cutL_drop]
        rfl
      | false =>
        have hf : impl_actFields (XA p0) = ⟨#[]⟩ := by
          unfold impl_actFields
          rw [hK, e1, e2, e3]
          rfl
        rw [hf, show (⟨#[]⟩ : ByteArray).size - 0 = 0 from rfl, st_0, hp, hK]
        rfl
theorem num_out {ps : List ByteArray} {i : Nat} (h : ps.length ≤ i) : spec_l38Num ps (i : Int) = 0 := by
  unfold spec_l38Num
  rw [decide_eq_true (show (i : Int) ≥ (ps.length : Int) by omega)]
  rfl
theorem nth_cons (w0 : ByteArray) (r : List ByteArray) (k : Nat) : nth (w0 :: r) (k + 1) = nth r k := by simp [nth, List.getD_eq_getElem?_getD]
theorem nth_drop1 (r : List ByteArray) (k : Nat) : nth (r.drop 1) k = nth r (1 + k) := by simp [nth, List.getD_eq_getElem?_getD, Nat.add_comm]
theorem len_no {ps : List ByteArray} {a : Deed} (hc : cleans ps) (h : (aw a).length ≠ ps.length) : finAS ps a = (D0, false) := fin_no hc fun _ e => h (congrArg List.length e)
theorem fin_same {ps : List ByteArray} {a : Deed} (hc : cleans ps) (hg : Dat.good a) (hp : ps ≠ []) : finAI ps a = finAS ps a := by rw [finAS_is hc, finAI_is hg hp]
theorem act_N {w0 : ByteArray} {r : List ByteArray} {K : Int} (hc : cleans (w0 :: r)) (hk : I64 K) (ha : ∀ N, aw (Deed.mk K N 0 Z) = [spec_ActName K, spec_Decimal N]) :
    (bif decide ((r.length : Int) = 0) then (D0, false) else finAI (w0 :: r) (Deed.mk K (impl_ReadDecimal (nth r 0)).1 0 Z)) = finAS (w0 :: r) (Deed.mk K (spec_l38Num (w0 :: r) 1) 0 Z) := by
  by_cases h : r.length = 0
  · rw [decide_eq_true (show (r.length : Int) = 0 by omega), len_no hc (by rw [ha, List.length_cons]; simp [h])]
    rfl
  · have e : spec_l38Num (w0 :: r) 1 = (impl_ReadDecimal (nth r 0)).1 := by
      have := num_in (p0 := w0 :: r) (i := 1) (by rw [List.length_cons]; omega)
      rw [show ((1 : Nat) : Int) = 1 from rfl] at this
      rw [this, nth_cons, ReadDecimal_twin]
    rw [decide_eq_false (show ¬ (r.length : Int) = 0 by omega), e]
    exact fin_same hc (good_Deed hk (impl_ReadDecimal_I64 _) (gi 0) good_Z) (by simp)
theorem act_M {w0 : ByteArray} {r : List ByteArray} (hc : cleans (w0 :: r)) :
    (bif decide ((r.length : Int) = 0) then (D0, false) else bif decide (((r.drop 1).length : Int) = 0) then (D0, false) else finAI (w0 :: r) (Deed.mk 4 (impl_ReadDecimal (nth r 0)).1 (impl_ReadDecimal (nth (r.drop 1) 0)).1 Z)) = finAS (w0 :: r) (Deed.mk 4 (spec_l38Num (w0 :: r) 1) (spec_l38Num (w0 :: r) 2) Z) := by
  have ha : ∀ N M, aw (Deed.mk 4 N M Z) = [spec_ActName 4, spec_Decimal N, spec_Decimal M] := fun _ _ => rfl
  by_cases h : r.length ≤ 1
  · rw [len_no hc (by rw [ha, List.length_cons]; simp; omega)]
    by_cases h0 : r.length = 0
    · rw [decide_eq_true (show (r.length : Int) = 0 by omega)]
      rfl
    · rw [decide_eq_false (show ¬ (r.length : Int) = 0 by omega), decide_eq_true (show (((r.drop 1).length : Nat) : Int) = 0 by rw [List.length_drop]; omega)]
      rfl
  · have e1 : spec_l38Num (w0 :: r) 1 = (impl_ReadDecimal (nth r 0)).1 := by
      have := num_in (p0 := w0 :: r) (i := 1) (by rw [List.length_cons]; omega)
      rw [show ((1 : Nat) : Int) = 1 from rfl] at this
      rw [this, nth_cons, ReadDecimal_twin]
    have e2 : spec_l38Num (w0 :: r) 2 = (impl_ReadDecimal (nth (r.drop 1) 0)).1 := by
      have := num_in (p0 := w0 :: r) (i := 2) (by rw [List.length_cons]; omega)
      rw [show ((2 : Nat) : Int) = 2 from rfl] at this
      rw [this, nth_cons, ReadDecimal_twin, nth_drop1]
    rw [decide_eq_false (show ¬ (r.length : Int) = 0 by omega), decide_eq_false (show ¬ (((r.drop 1).length : Nat) : Int) = 0 by rw [List.length_drop]; omega), e1, e2]
    exact fin_same hc (good_Deed (gi 4) (impl_ReadDecimal_I64 _) (impl_ReadDecimal_I64 _) good_Z) (by simp)
theorem act_C {w0 : ByteArray} {r : List ByteArray} {K : Int} (hc : cleans (w0 :: r)) (hs : small (w0 :: r)) (hk : I64 K) (ha : ∀ N c, aw (Deed.mk K N 0 c) = spec_ActName K :: spec_Decimal N :: cw c) (c : Call) (hcc : 2 < (w0 :: r).length → c = sC (w0 :: r)) :
    (bif decide ((r.length : Int) = 0) then (D0, false) else bif decide (((r.drop 1).length : Int) = 0) then (D0, false) else finAI (w0 :: r) (Deed.mk K (impl_ReadDecimal (nth r 0)).1 0 (impl_ReadCall (r.drop 1)).1)) = finAS (w0 :: r) (Deed.mk K (spec_l38Num (w0 :: r) 1) 0 c) := by
  by_cases h : r.length ≤ 1
  · have hl := cw_len c
    rw [len_no hc (by rw [ha, List.length_cons, List.length_cons, List.length_cons]; omega)]
    by_cases h0 : r.length = 0
    · rw [decide_eq_true (show (r.length : Int) = 0 by omega)]
      rfl
    · rw [decide_eq_false (show ¬ (r.length : Int) = 0 by omega), decide_eq_true (show (((r.drop 1).length : Nat) : Int) = 0 by rw [List.length_drop]; omega)]
      rfl
  · have e1 : spec_l38Num (w0 :: r) 1 = (impl_ReadDecimal (nth r 0)).1 := by
      have := num_in (p0 := w0 :: r) (i := 1) (by rw [List.length_cons]; omega)
      rw [show ((1 : Nat) : Int) = 1 from rfl] at this
      rw [this, nth_cons, ReadDecimal_twin]
    have hs2 : small (r.drop 1) := by
      have := small_drop hs 2
      rw [cutL_drop] at this
      exact this
    have e2 : c = (impl_ReadCall (r.drop 1)).1 := by
      rw [hcc (by rw [List.length_cons]; omega), ReadCall_twin (small_good hs2) hs2.1]
      unfold sC
      rw [cutL_drop]
      rfl
    rw [decide_eq_false (show ¬ (r.length : Int) = 0 by omega), decide_eq_false (show ¬ (((r.drop 1).length : Nat) : Int) = 0 by rw [List.length_drop]; omega), e1, e2]
    exact fin_same hc (good_Deed hk (impl_ReadDecimal_I64 _) (gi 0) (impl_ReadCall_good _ hs2)) (by simp)
theorem act_0 {w0 : ByteArray} {r : List ByteArray} {K : Int} (hc : cleans (w0 :: r)) (hk : I64 K) (ha : ∀ N, aw (Deed.mk K N 0 Z) = [spec_ActName K]) (ht : ∀ N, (spec_l38Told (Deed.mk K N 0 Z)).N = 0) : finAI (w0 :: r) (Deed.mk K 0 0 Z) = finAS (w0 :: r) (Deed.mk K (spec_l38Num (w0 :: r) 1) 0 Z) := by
  by_cases h : spec_l38Num (w0 :: r) 1 = 0
  · rw [h]
    exact fin_same hc (good_Deed hk (gi 0) (gi 0) good_Z) (by simp)
  · rw [fin_no hc fun h1 _ => ?_]
    · rw [finAI_is (good_Deed hk (gi 0) (gi 0) good_Z) (by simp), decide_eq_false fun e => ?_]
      · rfl
      · refine h ?_
        have hl := congrArg List.length e.2
        rw [ha] at hl
        have := num_out (ps := w0 :: r) (i := 1) (by rw [← hl]; exact Nat.le_refl _)
        exact this
    · have := (ActLine_join h1).2.2.2.2.2
      exact h (by rw [← ht (spec_l38Num (w0 :: r) 1), this])
theorem act_none {w0 : ByteArray} {r : List ByteArray} (hc : cleans (w0 :: r)) : finAI (w0 :: r) (Deed.mk 0 0 0 Z) = finAS (w0 :: r) (Deed.mk 0 (spec_l38Num (w0 :: r) 1) 0 Z) := by
  have h : ∀ N, spec_ActLine (Deed.mk 0 N 0 Z) = ⟨#[]⟩ := fun N => rfl
  rw [fin_no hc fun h1 _ => h1 (h _), finAI_is (good_Deed (gi 0) (gi 0) (gi 0) good_Z) (by simp), decide_eq_false fun e => e.1 (h 0)]
  rfl
theorem act_fin {w0 : ByteArray} {r : List ByteArray} {K : Int} (hk : 0 ≤ K ∧ K ≤ 12) (hc : cleans (w0 :: r)) (hs : small (w0 :: r)) : rdI w0 r K = finAS (w0 :: r) (sA (w0 :: r) K) := by
  have hcall : ∀ ps : List ByteArray, 2 < ps.length → Call.mk (bif (decide ((ps.length : Int) > 2)) then (sC ps).Kind else 0) (bif (decide ((ps.length : Int) > 2)) then (sC ps).Name else ⟨#[]⟩) (bif (decide ((ps.length : Int) > 2)) then (sC ps).To else ⟨#[]⟩) (bif (decide ((ps.length : Int) > 2)) then (sC ps).A else 0) (bif (decide ((ps.length : Int) > 2)) then (sC ps).B else 0) (bif (decide ((ps.length : Int) > 2)) then (sC ps).Text else ⟨#[]⟩) = sC ps := fun ps h => by
    rw [decide_eq_true (show (ps.length : Int) > 2 by omega)]
    rfl
  rcases (show K = 0 ∨ K = 1 ∨ K = 2 ∨ K = 3 ∨ K = 4 ∨ K = 5 ∨ K = 6 ∨ K = 7 ∨ K = 8 ∨ K = 9 ∨ K = 10 ∨ K = 11 ∨ K = 12 by omega) with rfl | rfl | rfl | rfl | rfl | rfl | rfl | rfl | rfl | rfl | rfl | rfl | rfl
  · exact act_none hc
  · exact act_N hc (gi 1) (fun _ => rfl)
  · exact act_C hc hs (gi 2) (fun _ _ => rfl) _ (hcall _)
  · exact act_N hc (gi 3) (fun _ => rfl)
  · exact act_M hc
  · exact act_N hc (gi 5) (fun _ => rfl)
  · exact act_N hc (gi 6) (fun _ => rfl)
  · exact act_C hc hs (gi 7) (fun _ _ => rfl) _ (hcall _)
  · exact act_0 hc (gi 8) (fun _ => rfl) (fun _ => rfl)
  · exact act_0 hc (gi 9) (fun _ => rfl) (fun _ => rfl)
  · exact act_0 hc (gi 10) (fun _ => rfl) (fun _ => rfl)
  · exact act_N hc (gi 11) (fun _ => rfl)
  · exact act_N hc (gi 12) (fun _ => rfl)
theorem ReadAct_twin (p0 : ByteArray) : impl_ReadAct p0 = spec_ReadAct p0 := by
  have ht : (spec_PartsOf p0) = (impl_PartsOf p0) := (PartsOf_twin p0).symm
  unfold impl_ReadAct spec_ReadAct
  rw [ht]
  cases hb : (!((impl_PartsOf p0).2)) || (decide (((impl_PartsOf p0).1.length : Int) = 0)) with
  | true => rfl
  | false =>
    have h0 := of_decide_eq_false (Bool.or_eq_false_iff.1 hb).2
    obtain ⟨w0, r, hp⟩ : ∃ w0 r, (impl_PartsOf p0).1 = w0 :: r := by
      cases h : (impl_PartsOf p0).1 with
      | nil => rw [h] at h0; exact absurd rfl h0
      | cons a b => exact ⟨a, b, rfl⟩
    obtain ⟨k1, k2⟩ := kindA_twin (nth (impl_PartsOf p0).1 0)
    rw [cond_false, cond_false, impl_act_is hp rfl, spec_act_kind, spec_act_fin, ht, show 13 - 1 = 12 from rfl, k1]
    rw [k1] at k2
    rw [hp] at k2 ⊢
    show rdI w0 r (IntKind.i64.wrap (1 + (slices_Index_string gl0 (nth ((impl_PartsOf p0).1) 0)))) = _
    rw [hp]
    have hc := (parts_facts p0).1
    have hs := parts_smalls p0
    rw [hp] at hc hs
    exact act_fin k2 hc hs

end Go.Proofs.YtnjidaonbcbphaaGreatDoor.Fw

/-
  A call and an action come back from their lines. No condition.
-/
namespace Go.Proofs.YtnjidaonbcbphaaGreatDoor.Fw
open Go.RowKit
set_option linter.unusedVariables false
set_option linter.unusedSimpArgs false
set_option maxRecDepth 100000
/-! ## An action comes back from its line -/
theorem fieldsGo_tail : ∀ (l cur : List UInt8), Lib.fieldsGo cur (l ++ [32]) = Lib.fieldsGo cur l
  | [], cur => by
    cases cur with
    | nil => rw [List.nil_append, Lib.fieldsGo_sp 32 [] (by decide)]
    | cons a r => rw [List.nil_append, Lib.fieldsGo_end (a :: r) 32 [] (by decide) (by simp)]; rfl
  | b :: l, cur => by
    rw [List.cons_append]
    cases hb : Lib.isSp b with
    | false => rw [Lib.fieldsGo_more cur b _ hb, Lib.fieldsGo_more cur b _ hb, fieldsGo_tail l _]
    | true =>
      cases cur with
      | nil => rw [Lib.fieldsGo_sp b _ hb, Lib.fieldsGo_sp b _ hb, fieldsGo_tail l _]
      | cons a r => rw [Lib.fieldsGo_end _ b _ hb (by simp), Lib.fieldsGo_end _ b _ hb (by simp), fieldsGo_tail l _]
def padB (s : ByteArray) : ByteArray := ((⟨#[32, 32]⟩ : ByteArray) ++ s) ++ (⟨#[32]⟩ : ByteArray)
theorem padB_list (s : ByteArray) : sbytes (padB s) = 32 :: 32 :: (sbytes s ++ [32]) := by
  unfold padB
  rw [sbytes_app, sbytes_app]
  rfl
theorem padB_size (s : ByteArray) : (padB s).size = s.size + 3 := by
  unfold padB
  rw [ByteArray.size_append, ByteArray.size_append]
  show 2 + s.size + 1 = _
  omega
theorem padB_fields (s : ByteArray) : fieldsS (padB s) = fieldsS s := by
  rw [fieldsS_toBA, fieldsS_toBA, padB_list, Lib.fieldsGo_sp 32 _ (by decide), Lib.fieldsGo_sp 32 _ (by decide), fieldsGo_tail]
theorem padB_ok {s : ByteArray} (h : okB (sbytes s)) : okB (sbytes (padB s)) := by
  rw [padB_list]
  intro b hb
  rcases List.mem_cons.1 hb with rfl | hb
  · decide
  · rcases List.mem_cons.1 hb with rfl | hb
    · decide
    · rcases List.mem_append.1 hb with hb | hb
      · exact h b hb
      · rw [List.mem_singleton.1 hb]; decide
theorem ActLine_parts {a : Deed} (h : spec_ActLine a ≠ ⟨#[]⟩) : spec_PartsOf (padB (spec_ActLine a)) = (aw a, true) := by
  obtain ⟨hj, hc, hs, hl, _, _⟩ := ActLine_join' h
  rw [← PartsOf_twin, hj]
  have hw := joinB_wd C0 hc
  rw [hj] at hs
  rw [parts_of (by rw [padB_size]; omega) (padB_ok hw.o), padB_fields, hw.f]
  unfold finW
  rw [decide_eq_false (show ¬ ((aw a).length : Int) > 12 by omega)]
  rfl
theorem ActLine_ok {a : Deed} (h : spec_ActLine a ≠ ⟨#[]⟩) : (1 ≤ a.Kind ∧ a.Kind ≤ 12) ∧ spec_l38Fits a.N = true ∧ spec_l38Fits a.M = true ∧ (a.Kind = 2 ∨ a.Kind = 7 → spec_CallLine a.Call ≠ ⟨#[]⟩) := by
  cases hb : (((!(spec_ActOk a)) || (!(decide ((spec_l38Told a) = a)))) || (!(spec_l38Fits a.N))) || (!(spec_l38Fits a.M)) with
  | true =>
    unfold spec_ActLine at h
    rw [hb] at h
    exact absurd rfl h
  | false =>
    unfold spec_ActLine at h
    rw [hb] at h
    simp only [Bool.or_eq_false_iff, Bool.not_eq_false', decide_eq_true_eq] at hb
    obtain ⟨⟨⟨hok, ht⟩, hN⟩, hM⟩ := hb
    refine ⟨spec_ActOk_t hok, hN, hM, fun hk e => h ?_⟩
    rcases hk with hk | hk <;> rw [hk, e] <;> rfl
theorem call_back {c : Call} (h : spec_CallLine c ≠ ⟨#[]⟩) : spec_ReadCall (cw c) = (c, true) := by
  have hg := line_good h
  have e : (impl_PartsOf (impl_CallLine c)).1 = cw c := by
    rw [CallLine_twin hg, PartsOf_twin, (CallLine_words c h).2.1]
    rfl
  have h1 := (ReadBack hg h).2.1
  have hs := parts_smalls (impl_CallLine c)
  rw [e] at h1 hs
  rw [← ReadCall_twin (small_good hs) hs.1, h1]
theorem num_back {ps : List ByteArray} {i : Nat} {N : Int} (hN : spec_l38Fits N = true) (hi : i < ps.length) (h : nth ps i = spec_Decimal N) : spec_l38Num ps (i : Int) = N := by
  rw [num_in hi, h, ← ReadDecimal_twin]
  exact ReadDecimal_back hN
theorem kind_back {k : Int} (h : 1 ≤ k ∧ k ≤ 12) : kindA (spec_ActName k) 12 0 1 = k := by
  obtain ⟨n, rfl⟩ := of12 h
  rw [anames_12 n]
  exact (kindA_12 n).1
theorem a_N {K N M : Int} {C : Call} (hN : spec_l38Fits N = true) (ht : spec_l38Told (Deed.mk K N M C) = Deed.mk K N M C) (h1 : spec_l38Told (Deed.mk K N M C) = Deed.mk K N 0 Z) (haw : aw (Deed.mk K N M C) = [spec_ActName K, spec_Decimal N]) (hsA : ∀ ps, sA ps K = Deed.mk K (spec_l38Num ps 1) 0 Z) : sA (aw (Deed.mk K N M C)) K = Deed.mk K N M C := by
  have n1 : spec_l38Num [spec_ActName K, spec_Decimal N] 1 = N := num_back (i := 1) hN (by simp) rfl
  rw [haw, hsA, n1]
  exact h1.symm.trans ht
theorem a_M {N M : Int} {C : Call} (hN : spec_l38Fits N = true) (hM : spec_l38Fits M = true) (ht : spec_l38Told (Deed.mk 4 N M C) = Deed.mk 4 N M C) : sA (aw (Deed.mk 4 N M C)) 4 = Deed.mk 4 N M C := by
  have h1 : spec_l38Told (Deed.mk 4 N M C) = Deed.mk 4 N M Z := rfl
  have h2 : aw (Deed.mk 4 N M C) = [spec_ActName 4, spec_Decimal N, spec_Decimal M] := rfl
  have h3 : ∀ ps, sA ps 4 = Deed.mk 4 (spec_l38Num ps 1) (spec_l38Num ps 2) Z := fun _ => rfl
  have n1 : spec_l38Num [spec_ActName 4, spec_Decimal N, spec_Decimal M] 1 = N := num_back (i := 1) hN (by simp) rfl
  have n2 : spec_l38Num [spec_ActName 4, spec_Decimal N, spec_Decimal M] 2 = M := num_back (i := 2) hM (by simp) rfl
  rw [h3, h2, n1, n2]
  exact h1.symm.trans ht
theorem a_0 {K N M : Int} {C : Call} (ht : spec_l38Told (Deed.mk K N M C) = Deed.mk K N M C) (h1 : spec_l38Told (Deed.mk K N M C) = Deed.mk K 0 0 Z) (haw : aw (Deed.mk K N M C) = [spec_ActName K]) (hsA : ∀ ps, sA ps K = Deed.mk K (spec_l38Num ps 1) 0 Z) : sA (aw (Deed.mk K N M C)) K = Deed.mk K N M C := by
  rw [haw, hsA]
  exact (show Deed.mk K (spec_l38Num [spec_ActName K] 1) 0 Z = Deed.mk K 0 0 Z from rfl).trans (h1.symm.trans ht)
theorem a_C {K N M : Int} {C : Call} (hN : spec_l38Fits N = true) (ht : spec_l38Told (Deed.mk K N M C) = Deed.mk K N M C) (h1 : spec_l38Told (Deed.mk K N M C) = Deed.mk K N 0 C) (haw : aw (Deed.mk K N M C) = spec_ActName K :: spec_Decimal N :: cw C) (hC : spec_CallLine C ≠ ⟨#[]⟩) (hsA : ∀ ps : List ByteArray, 2 < ps.length → sA ps K = Deed.mk K (spec_l38Num ps 1) 0 (sC ps)) : sA (aw (Deed.mk K N M C)) K = Deed.mk K N M C := by
  have hl := cw_len C
  have hlen : 2 < (spec_ActName K :: spec_Decimal N :: cw C).length := by rw [List.length_cons, List.length_cons]; omega
  have n1 : spec_l38Num (spec_ActName K :: spec_Decimal N :: cw C) 1 = N := num_back (i := 1) hN (by omega) rfl
  have n2 : sC (spec_ActName K :: spec_Decimal N :: cw C) = C := by
    unfold sC
    rw [cutL_drop]
    show (spec_ReadCall (cw C)).1 = C
    rw [call_back hC]
  rw [haw, hsA _ hlen, n1, n2]
  exact h1.symm.trans ht
theorem sA_C {K : Int} {ps : List ByteArray} (h : 2 < ps.length) (hs : sA ps K = Deed.mk K (spec_l38Num ps 1) 0 (Call.mk (bif (decide ((ps.length : Int) > 2)) then (sC ps).Kind else 0) (bif (decide ((ps.length : Int) > 2)) then (sC ps).Name else ⟨#[]⟩) (bif (decide ((ps.length : Int) > 2)) then (sC ps).To else ⟨#[]⟩) (bif (decide ((ps.length : Int) > 2)) then (sC ps).A else 0) (bif (decide ((ps.length : Int) > 2)) then (sC ps).B else 0) (bif (decide ((ps.length : Int) > 2)) then (sC ps).Text else ⟨#[]⟩))) : sA ps K = Deed.mk K (spec_l38Num ps 1) 0 (sC ps) := by
  rw [hs, decide_eq_true (show (ps.length : Int) > 2 by omega)]
  rfl
theorem ActBack {a : Deed} (h : spec_ActLine a ≠ ⟨#[]⟩) {x : ByteArray} (hp : spec_PartsOf x = (aw a, true)) : spec_ReadAct x = (a, true) := by
  obtain ⟨hj, hc, hs, hl, hne, ht⟩ := ActLine_join h
  obtain ⟨hk, hN, hM, hC⟩ := ActLine_ok h
  have h0 : nth (aw a) 0 = spec_ActName a.Kind := by
    unfold aw
    cases (decide (a.Kind = 8)) || ((decide (a.Kind = 9)) || (decide (a.Kind = 10))) <;> cases (decide (a.Kind = 2)) || (decide (a.Kind = 7)) <;> cases decide (a.Kind = 4) <;> rfl
  have hl0 : (aw a).length ≠ 0 := fun e => hne (List.length_eq_zero_iff.1 e)
  have e : sA (aw a) a.Kind = a := by
    obtain ⟨K, N, M, C⟩ := a
    simp only at hk hN hM hC
    rcases (show K = 1 ∨ K = 2 ∨ K = 3 ∨ K = 4 ∨ K = 5 ∨ K = 6 ∨ K = 7 ∨ K = 8 ∨ K = 9 ∨ K = 10 ∨ K = 11 ∨ K = 12 by omega) with rfl | rfl | rfl | rfl | rfl | rfl | rfl | rfl | rfl | rfl | rfl | rfl
    · exact a_N hN ht rfl rfl (fun _ => rfl)
    · exact a_C hN ht rfl rfl (hC (.inl rfl)) (fun _ h => sA_C h rfl)
    · exact a_N hN ht rfl rfl (fun _ => rfl)
    · exact a_M hN hM ht
    · exact a_N hN ht rfl rfl (fun _ => rfl)
    · exact a_N hN ht rfl rfl (fun _ => rfl)
    · exact a_C hN ht rfl rfl (hC (.inr rfl)) (fun _ h => sA_C h rfl)
    · exact a_0 ht rfl rfl (fun _ => rfl)
    · exact a_0 ht rfl rfl (fun _ => rfl)
    · exact a_0 ht rfl rfl (fun _ => rfl)
    · exact a_N hN ht rfl rfl (fun _ => rfl)
    · exact a_N hN ht rfl rfl (fun _ => rfl)
  unfold spec_ReadAct
  rw [hp, decide_eq_false (show ¬ ((aw a).length : Int) = 0 by omega)]
  show spec_ReadAct_l1 x 12 0 1 = _
  rw [spec_act_kind, spec_act_fin, hp, h0, kind_back hk, e, finAS_is hc, decide_eq_true ⟨h, rfl⟩]
  rfl
theorem ActName_all (k : Int) : impl_ActName k = spec_ActName k := by
  by_cases h : 1 ≤ k ∧ k ≤ 12
  · obtain ⟨n, rfl⟩ := of12 h
    exact ActName_12 n
  · have h1 : impl_within k 1 12 = false := by
      cases hb : impl_within k 1 12 with
      | false => rfl
      | true => exact absurd (impl_within_t hb) h
    have h2 : spec_l01In k 1 12 = false := h1
    unfold impl_ActName spec_ActName
    rw [h1, h2]
    rfl
theorem ReadCall_empty : (impl_ReadCall (impl_PartsOf ⟨#[]⟩).1).2 = false := by kernel_rfl
theorem ReadAct_empty : (spec_ReadAct (((⟨#[32, 32]⟩ : ByteArray) ++ (⟨#[]⟩ : ByteArray)) ++ (⟨#[32]⟩ : ByteArray))).2 = false := by kernel_rfl

end Go.Proofs.YtnjidaonbcbphaaGreatDoor.Fw

/-
  The abstract machine: a field of an element of an own row is stored. No condition: every lemma is general in the program.
-/
namespace Go.Proofs.YtnjidaonbcbphaaGreatDoor.Fw
open Go.RowKit
set_option linter.unusedVariables false
set_option maxRecDepth 100000
def Fk.same {α : Type} (x y : α) : Fk α → Prop
  | .int g => g y = g x
  | .byte g => g y = g x
  | .bool g => g y = g x
  | .str g => g y = g x
  | .sl _ _ g => g y = g x
section
variable {α : Type} {x y : α} {u : Value} {w : World}
end
section
variable {c : Cx} {σ : St} {all : Array Oper} {ty : TypeId} {pos : String} {after : Array Edge} {d : Nat}
end
end Go.Proofs.YtnjidaonbcbphaaGreatDoor.Fw

/-
  The steps of the later kinds. No condition.
-/
namespace Go.Proofs.YtnjidaonbcbphaaGreatDoor.Fw
open Go.RowKit
set_option linter.unusedVariables false
set_option maxRecDepth 100000
section
variable {fn : Func} {Bz : Bs} {S1 : Nat → Prop} {w1 : World} {hk1 : Keep Bz.S0 Bz.w w1} {hs1 : ∀ b, Bz.S0 b → S1 b} {hd1 : ∀ b, S1 b → b < w1.heap.size} {res : List Re} {k : List It} {σ σ' : St} {all : Array Oper} {ty : TypeId} {pos : String} {after : Array Edge} {d : Nat}
theorem adL {id : Nat} {ops ops' : Array Oper} {l : List Oper} (h : Run (cx fn Bz S1 w1 hk1 hs1 hd1) res σ (.ops l ops' :: k)) (ho : ops = ops' := by dsimp only [List.append]) (hl : ops'.toList = l := by dsimp only [List.toList_toArray]) : Run (cx fn Bz S1 w1 hk1 hs1 hd1) res σ (.code (.region id ops false) :: k) := by
  subst ho
  subst hl
  exact Run.advN 1 rfl h
end
theorem lt_toN {i : Nat} {x : Int} (h : (i : Int) < x) : i < x.toNat := by omega
theorem nlt_toN {i : Nat} {x : Int} (h : ¬ (i : Int) < x) : ¬ i < x.toNat := by omega
theorem sub_S {i n : Nat} (h : i < n) : n - i = (n - (i + 1)) + 1 := by omega
theorem sub_Z {i n : Nat} (h : ¬ i < n) : n - i = 0 := by omega
end Go.Proofs.YtnjidaonbcbphaaGreatDoor.Fw
