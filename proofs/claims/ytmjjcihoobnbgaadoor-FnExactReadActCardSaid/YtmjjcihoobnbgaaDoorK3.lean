/- Contracts: each call returns what the model says. By program (wip/am/gen2.py). -/
import Derived.Test.YtmjjcihoobnbgaaDoorPR
namespace Go.Proofs.YtmjjcihoobnbgaaDoor.Fw
open Go.RowKit
set_option linter.unusedVariables false
set_option maxRecDepth 100000

theorem fok12 : FnOk Tryd.prog 12 := ⟨_, Tryd.func12, rfl, by kernel_rfl⟩
theorem fok13 : FnOk Tryd.prog 13 := ⟨_, Tryd.func13, rfl, by kernel_rfl⟩
theorem fok58 : FnOk Tryd.prog 58 := ⟨_, Tryd.func58, rfl, by kernel_rfl⟩
theorem fok59 : FnOk Tryd.prog 59 := ⟨_, Tryd.func59, rfl, by kernel_rfl⟩
theorem fok60 : FnOk Tryd.prog 60 := ⟨_, Tryd.func60, rfl, by kernel_rfl⟩
theorem fok62 : FnOk Tryd.prog 62 := ⟨_, Tryd.func62, rfl, by kernel_rfl⟩
theorem eqt38 : ∀ (d : Nat) (x y : Deed) (w : World), (Op.equalIn (d + 10) 38 (.agg [.int .i64 x.Kind, .int .i64 x.N, .int .i64 x.M, .int .i64 x.Call.Kind, .string x.Call.Name, .string x.Call.To, .int .i64 x.Call.A, .int .i64 x.Call.B, .string x.Call.Text].toArray) (.agg [.int .i64 y.Kind, .int .i64 y.N, .int .i64 y.M, .int .i64 y.Call.Kind, .string y.Call.Name, .string y.Call.To, .int .i64 y.Call.A, .int .i64 y.Call.B, .string y.Call.Text].toArray)).run Tryd.prog w = .ok (decide (x = y)) w := by
  intro d x y w
  have u3 := Tryd.underlying3
  have a3 := Tryd.isAgg3
  have z3 := Tryd.sizeOf3
  have u9 := Tryd.underlying9
  have a9 := Tryd.isAgg9
  have z9 := Tryd.sizeOf9
  have u28 := Tryd.underlying28
  have a28 := Tryd.isAgg28
  have z28 := Tryd.sizeOf28
  have hS : Tryd.prog.underlying 38 = some (.struct (Tryd.prog.fieldsOf 38)) := by kernel_rfl
  have hp : Tryd.prog.stoodInHeld 38 = false := by kernel_rfl
  rw [run_equalIn_agg w (d + 9) 38 _ _ hS hp]
  simp only [Program.fieldsOf, Tryd.underlying38]
  obtain ⟨z1, z2, z3, ⟨z4, z5, z6, z7, z8, z9⟩⟩ := x
  obtain ⟨z10, z11, z12, ⟨z13, z14, z15, z16, z17, z18⟩⟩ := y
  go_simp
  simp only [bt_inj]
  repeat' split
  all_goals simp_all
theorem eqp38 (x y : Deed) : eqP Tryd.prog 38 [.int .i64 x.Kind, .int .i64 x.N, .int .i64 x.M, .int .i64 x.Call.Kind, .string x.Call.Name, .string x.Call.To, .int .i64 x.Call.A, .int .i64 x.Call.B, .string x.Call.Text] [.int .i64 y.Kind, .int .i64 y.N, .int .i64 y.M, .int .i64 y.Call.Kind, .string y.Call.Name, .string y.Call.To, .int .i64 y.Call.A, .int .i64 y.Call.B, .string y.Call.Text] (decide (x = y)) := ⟨by kernel_rfl, fun w => eqt38 9990 x y w⟩
/- F60 loop.example/g00974/impl.actFields -/
def impl_actFields (p0 : Int) : ByteArray := bif (decide (p0 = 1)) || ((decide (p0 = 3)) || ((decide (p0 = 5)) || ((decide (p0 = 6)) || ((decide (p0 = 11)) || (decide (p0 = 12)))))) then ⟨#[78]⟩ else (bif decide (p0 = 4) then ⟨#[78, 77]⟩ else (bif (decide (p0 = 2)) || (decide (p0 = 7)) then ⟨#[78, 67]⟩ else ⟨#[]⟩))
theorem c_impl_actFields (p0 : Int) : CTs 60 [.o (.c (.int .i64 p0))] [Re.c (.string (impl_actFields p0))] := by
  refine en Tryd.func60 Tryd.ntmps60 fun w hG hgd => ?_
  have hM := impl_actFields.eq_1 p0
  refine ad 16 ?_
  refine Run.mid ⟨16, 0, [(3, .v (.int .i64 p0)), (4, .v (.bool ((decide (p0 = 1)) || ((decide (p0 = 3)) || ((decide (p0 = 5)) || ((decide (p0 = 6)) || ((decide (p0 = 11)) || (decide (p0 = 12)))))))))], []⟩ ?_ ?_
  · refine cd (fun h1 => ?_) (fun h1 => ?_)
    ·
      refine ad 1 ?_
      exact Run.at [] [] (by first | exact su | (rw [h1]; exact su)) (by decide)
    ·
      refine ad 5 ?_
      refine Run.mid ⟨16, 0, [(3, .v (.int .i64 p0)), (4, .v (.bool ((decide (p0 = 3)) || ((decide (p0 = 5)) || ((decide (p0 = 6)) || ((decide (p0 = 11)) || (decide (p0 = 12))))))))], []⟩ ?_ ?_
      · refine cd (fun h2 => ?_) (fun h2 => ?_)
        ·
          refine ad 1 ?_
          exact Run.at [] [] (by first | exact su | (rw [h2]; exact su)) (by decide)
        ·
          refine ad 5 ?_
          refine Run.mid ⟨16, 0, [(3, .v (.int .i64 p0)), (4, .v (.bool ((decide (p0 = 5)) || ((decide (p0 = 6)) || ((decide (p0 = 11)) || (decide (p0 = 12)))))))], []⟩ ?_ ?_
          · refine cd (fun h3 => ?_) (fun h3 => ?_)
            ·
              refine ad 1 ?_
              exact Run.at [] [] (by first | exact su | (rw [h3]; exact su)) (by decide)
            ·
              refine ad 5 ?_
              refine Run.mid ⟨16, 0, [(3, .v (.int .i64 p0)), (4, .v (.bool ((decide (p0 = 6)) || ((decide (p0 = 11)) || (decide (p0 = 12))))))], []⟩ ?_ ?_
              · refine cd (fun h4 => ?_) (fun h4 => ?_)
                ·
                  refine ad 1 ?_
                  exact Run.at [] [] (by first | exact su | (rw [h4]; exact su)) (by decide)
                ·
                  refine ad 5 ?_
                  refine Run.mid ⟨16, 0, [(3, .v (.int .i64 p0)), (4, .v (.bool ((decide (p0 = 11)) || (decide (p0 = 12)))))], []⟩ ?_ ?_
                  · refine cd (fun h5 => ?_) (fun h5 => ?_)
                    ·
                      refine ad 1 ?_
                      exact Run.at [] [] (by first | exact su | (rw [h5]; exact su)) (by decide)
                    ·
                      refine ad 4 ?_
                      exact Run.at [] [] (by first | exact su | (rw [h5]; exact su)) (by decide)
                  exact Run.at [] [] (by first | exact su | (rw [h4]; exact su)) (by decide)
              exact Run.at [] [] (by first | exact su | (rw [h3]; exact su)) (by decide)
          exact Run.at [] [] (by first | exact su | (rw [h2]; exact su)) (by decide)
      exact Run.at [] [] (by first | exact su | (rw [h1]; exact su)) (by decide)
  refine cd (fun h6 => ?_) (fun h6 => ?_)
  ·
    have hM := hM.trans (bt h6)
    refine ad 4 ?_
    exact rz (rs := [.tmp 2]) (congrArg (fun x => [Re.c (.string x)]) hM)
  ·
    have hM := hM.trans (bf h6)
    refine ad 5 ?_
    refine cd (fun h7 => ?_) (fun h7 => ?_)
    ·
      have hM := hM.trans (bt h7)
      refine ad 4 ?_
      exact rz (rs := [.tmp 2]) (congrArg (fun x => [Re.c (.string x)]) hM)
    ·
      have hM := hM.trans (bf h7)
      refine ad 6 ?_
      refine Run.mid ⟨16, 0, [(13, .v (.bool ((decide (p0 = 2)) || (decide (p0 = 7)))))], []⟩ ?_ ?_
      · refine cd (fun h8 => ?_) (fun h8 => ?_)
        ·
          refine ad 1 ?_
          exact Run.at [] [] (by first | exact su | (rw [h8]; exact su)) (by decide)
        ·
          refine ad 4 ?_
          exact Run.at [] [] (by first | exact su | (rw [h8]; exact su)) (by decide)
      refine cd (fun h9 => ?_) (fun h9 => ?_)
      ·
        have hM := hM.trans (bt h9)
        refine ad 4 ?_
        exact rz (rs := [.tmp 2]) (congrArg (fun x => [Re.c (.string x)]) hM)
      ·
        have hM := hM.trans (bf h9)
        refine ad 6 ?_
        exact rz (rs := [.tmp 2]) (congrArg (fun x => [Re.c (.string x)]) hM)
theorem asc_impl_actFields (p0 : Int) : ascii (impl_actFields p0) := by
  unfold impl_actFields
  repeat' (first | refine asc_bif ?_ ?_ | exact ascii_of (by decide +kernel))
theorem impl_actFields_size (p0 : Int) : (impl_actFields p0).size ≤ 2 := by
  unfold impl_actFields
  repeat' (first | refine szb ?_ ?_ | exact Nat.le_of_ble_eq_true rfl)

/- F62 loop.example/g00974/impl.ActOk -/
def impl_ActOk (p0 : Deed) : Bool := (impl_within p0.Kind 1 12)
theorem c_impl_ActOk (p0 : Deed) : CTs 62 [.o (.st Deed _ inferInstance p0)] [Re.c (.bool (impl_ActOk p0))] := by
  refine en Tryd.func62 Tryd.ntmps62 fun w hG hgd => ?_
  obtain ⟨hg_p0, _⟩ := hgd
  have hM := impl_ActOk.eq_1 p0
  refine ad 9 ?_
  refine op (cl (k_impl_within p0.Kind 1 12) fok45) ?_
  refine ad 2 ?_
  exact rz (rs := [.tmp 2]) (congrArg (fun x => [Re.c (.bool x)]) hM)
theorem impl_ActOk_t {p0 : Deed} (h : impl_ActOk p0 = true) : 1 ≤ p0.Kind ∧ p0.Kind ≤ 12 := impl_within_t h

/- F58 loop.example/g00974/spec.ActOk -/
def spec_ActOk (p0 : Deed) : Bool := (spec_l01In p0.Kind 1 12)
theorem c_spec_ActOk (p0 : Deed) : CTs 58 [.o (.st Deed _ inferInstance p0)] [Re.c (.bool (spec_ActOk p0))] := by
  refine en Tryd.func58 Tryd.ntmps58 fun w hG hgd => ?_
  obtain ⟨hg_p0, _⟩ := hgd
  have hM := spec_ActOk.eq_1 p0
  refine ad 9 ?_
  refine op (cl (k_spec_l01In p0.Kind 1 12) fok46) ?_
  refine ad 2 ?_
  exact rz (rs := [.tmp 2]) (congrArg (fun x => [Re.c (.bool x)]) hM)
theorem spec_ActOk_t {p0 : Deed} (h : spec_ActOk p0 = true) : 1 ≤ p0.Kind ∧ p0.Kind ≤ 12 := spec_l01In_t h

/- F12 loop.example/g00974/impl.ActName -/
def impl_ActName (p0 : Int) : ByteArray := bif !(impl_within p0 1 12) then ⟨#[63]⟩ else (nth gl0 ((IntKind.i64.wrap (p0 - 1)).toNat))
theorem c_impl_ActName (p0 : Int) : CTs 12 [.o (.c (.int .i64 p0))] [Re.c (.string (impl_ActName p0))] := by
  refine en Tryd.func12 Tryd.ntmps12 fun w hG hgd => ?_
  have hM := impl_ActName.eq_1 p0
  refine ad 8 ?_
  refine op (cl (k_impl_within p0 1 12) fok45) ?_
  refine ad 2 ?_
  refine cd (fun h1 => ?_) (fun h1 => ?_)
  ·
    have hM := hM.trans (bt h1)
    refine ad 4 ?_
    exact rz (rs := [.tmp 2]) (congrArg (fun x => [Re.c (.string x)]) hM)
  ·
    have hM := hM.trans (bf h1)
    have th1 := impl_within_t (by simpa using h1)
    refine ad 5 ?_
    refine op (gx (len := 12) (e := 9) Value.string gl0 ((IntKind.i64.wrap (p0 - 1)).toNat) Gl0 (show ((IntKind.i64.wrap (p0 - 1)).toNat) < 12 from om) (hi := om)) ?_
    refine ad 3 ?_
    exact rz (rs := [.tmp 2]) (congrArg (fun x => [Re.c (.string x)]) hM)
theorem impl_ActName_size (p0 : Int) : (impl_ActName p0).size ≤ 10 := by
  unfold impl_ActName
  exact szb (Nat.le_of_ble_eq_true rfl) (nth_szs (by decide) _)

/- F13 loop.example/g00974/spec.ActName -/
def spec_ActName (p0 : Int) : ByteArray := bif !(spec_l01In p0 1 12) then ⟨#[63]⟩ else (nth ([⟨#[]⟩, ⟨#[98, 101, 103, 105, 110]⟩, ⟨#[97, 115, 107]⟩, ⟨#[109, 97, 114, 107]⟩, ⟨#[98, 97, 99, 107]⟩, ⟨#[100, 114, 111, 112]⟩, ⟨#[99, 111, 109, 109, 105, 116]⟩, ⟨#[112, 108, 97, 105, 110]⟩, ⟨#[102, 108, 117, 115, 104]⟩, ⟨#[102, 111, 108, 100]⟩, ⟨#[102, 111, 108, 100, 101, 100]⟩, ⟨#[102, 97, 108, 108]⟩, ⟨#[114, 101, 116, 114, 121]⟩] : List ByteArray) p0.toNat)
theorem c_spec_ActName (p0 : Int) : CTs 13 [.o (.c (.int .i64 p0))] [Re.c (.string (spec_ActName p0))] := by
  refine en Tryd.func13 Tryd.ntmps13 fun w hG hgd => ?_
  have hM := spec_ActName.eq_1 p0
  refine ad 8 ?_
  refine op (cl (k_spec_l01In p0 1 12) fok46) ?_
  refine ad 2 ?_
  refine cd (fun h1 => ?_) (fun h1 => ?_)
  ·
    have hM := hM.trans (bt h1)
    refine ad 4 ?_
    exact rz (rs := [.tmp 2]) (congrArg (fun x => [Re.c (.string x)]) hM)
  ·
    have hM := hM.trans (bf h1)
    have th1 := spec_l01In_t (by simpa using h1)
    refine ad 5 ?_
    refine li 0 (d := instDatByteArray) ([⟨#[]⟩, ⟨#[98, 101, 103, 105, 110]⟩, ⟨#[97, 115, 107]⟩, ⟨#[109, 97, 114, 107]⟩, ⟨#[98, 97, 99, 107]⟩, ⟨#[100, 114, 111, 112]⟩, ⟨#[99, 111, 109, 109, 105, 116]⟩, ⟨#[112, 108, 97, 105, 110]⟩, ⟨#[102, 108, 117, 115, 104]⟩, ⟨#[102, 111, 108, 100]⟩, ⟨#[102, 111, 108, 100, 101, 100]⟩, ⟨#[102, 97, 108, 108]⟩, ⟨#[114, 101, 116, 114, 121]⟩] : List ByteArray) ?_
    refine fz 0 ?_
    refine op (ix (xs := ([⟨#[]⟩, ⟨#[98, 101, 103, 105, 110]⟩, ⟨#[97, 115, 107]⟩, ⟨#[109, 97, 114, 107]⟩, ⟨#[98, 97, 99, 107]⟩, ⟨#[100, 114, 111, 112]⟩, ⟨#[99, 111, 109, 109, 105, 116]⟩, ⟨#[112, 108, 97, 105, 110]⟩, ⟨#[102, 108, 117, 115, 104]⟩, ⟨#[102, 111, 108, 100]⟩, ⟨#[102, 111, 108, 100, 101, 100]⟩, ⟨#[102, 97, 108, 108]⟩, ⟨#[114, 101, 116, 114, 121]⟩] : List ByteArray)) p0.toNat (show p0.toNat < 13 from om) (hi := om)) ?_
    refine ad 3 ?_
    exact rz (rs := [.tmp 2]) (congrArg (fun x => [Re.c (.string x)]) hM)
theorem spec_ActName_size (p0 : Int) : (spec_ActName p0).size ≤ 10 := by
  unfold spec_ActName
  exact szb (Nat.le_of_ble_eq_true rfl) (nth_szs (by decide) _)

/- F59 loop.example/g00974/spec.l38Told -/
def spec_l38Told (p0 : Deed) : Deed := bif (decide (p0.Kind = 8)) || ((decide (p0.Kind = 9)) || (decide (p0.Kind = 10))) then (Deed.mk p0.Kind 0 0 (Call.mk 0 ⟨#[]⟩ ⟨#[]⟩ 0 0 ⟨#[]⟩)) else (Deed.mk p0.Kind p0.N (bif ((decide (p0.Kind = 2)) || (decide (p0.Kind = 7))) then 0 else (bif (decide (p0.Kind = 4)) then p0.M else 0)) (Call.mk (bif ((decide (p0.Kind = 2)) || (decide (p0.Kind = 7))) then p0.Call.Kind else 0) (bif ((decide (p0.Kind = 2)) || (decide (p0.Kind = 7))) then p0.Call.Name else ⟨#[]⟩) (bif ((decide (p0.Kind = 2)) || (decide (p0.Kind = 7))) then p0.Call.To else ⟨#[]⟩) (bif ((decide (p0.Kind = 2)) || (decide (p0.Kind = 7))) then p0.Call.A else 0) (bif ((decide (p0.Kind = 2)) || (decide (p0.Kind = 7))) then p0.Call.B else 0) (bif ((decide (p0.Kind = 2)) || (decide (p0.Kind = 7))) then p0.Call.Text else ⟨#[]⟩)))
theorem c_spec_l38Told (p0 : Deed) : CTs 59 [.o (.st Deed _ inferInstance p0)] [Re.st Deed _ inferInstance (spec_l38Told p0)] := by
  refine en Tryd.func59 Tryd.ntmps59 fun w hG hgd => ?_
  obtain ⟨hg_p0, _⟩ := hgd
  have hM := spec_l38Told.eq_1 p0
  refine ad 26 ?_
  refine Run.mid ⟨29, 3, [(1, .pt 0 0), (2, .pt 1 0), (3, .pt 2 0), (8, .v (.int .i64 p0.Kind)), (9, .v (.bool ((decide (p0.Kind = 8)) || ((decide (p0.Kind = 9)) || (decide (p0.Kind = 10))))))], [(0, .var [.v (.int .i64 p0.Kind), .v (.int .i64 p0.N), .v (.int .i64 p0.M), .v (.int .i64 p0.Call.Kind), .v (.string p0.Call.Name), .v (.string p0.Call.To), .v (.int .i64 p0.Call.A), .v (.int .i64 p0.Call.B), .v (.string p0.Call.Text)] 38), (1, .var [.v (.int .i64 0), .v (.int .i64 0), .v (.int .i64 0), .v (.int .i64 0), .v (.string ⟨#[]⟩), .v (.string ⟨#[]⟩), .v (.int .i64 0), .v (.int .i64 0), .v (.string ⟨#[]⟩)] 38), (2, .var [.v (.int .i64 p0.Kind), .v (.int .i64 0), .v (.int .i64 0), .v (.int .i64 0), .v (.string ⟨#[]⟩), .v (.string ⟨#[]⟩), .v (.int .i64 0), .v (.int .i64 0), .v (.string ⟨#[]⟩)] 38)]⟩ ?_ ?_
  · refine cd (fun h1 => ?_) (fun h1 => ?_)
    ·
      refine ad 1 ?_
      exact Run.at [0, 1, 2] [2, 1, 0] (by first | exact su | (rw [h1]; exact su)) (by decide)
    ·
      refine ad 5 ?_
      refine Run.mid ⟨29, 3, [(1, .pt 0 0), (2, .pt 1 0), (3, .pt 2 0), (8, .v (.int .i64 p0.Kind)), (9, .v (.bool ((decide (p0.Kind = 9)) || (decide (p0.Kind = 10)))))], [(0, .var [.v (.int .i64 p0.Kind), .v (.int .i64 p0.N), .v (.int .i64 p0.M), .v (.int .i64 p0.Call.Kind), .v (.string p0.Call.Name), .v (.string p0.Call.To), .v (.int .i64 p0.Call.A), .v (.int .i64 p0.Call.B), .v (.string p0.Call.Text)] 38), (1, .var [.v (.int .i64 0), .v (.int .i64 0), .v (.int .i64 0), .v (.int .i64 0), .v (.string ⟨#[]⟩), .v (.string ⟨#[]⟩), .v (.int .i64 0), .v (.int .i64 0), .v (.string ⟨#[]⟩)] 38), (2, .var [.v (.int .i64 p0.Kind), .v (.int .i64 0), .v (.int .i64 0), .v (.int .i64 0), .v (.string ⟨#[]⟩), .v (.string ⟨#[]⟩), .v (.int .i64 0), .v (.int .i64 0), .v (.string ⟨#[]⟩)] 38)]⟩ ?_ ?_
      · refine cd (fun h2 => ?_) (fun h2 => ?_)
        ·
          refine ad 1 ?_
          exact Run.at [0, 1, 2] [2, 1, 0] (by first | exact su | (rw [h2]; exact su)) (by decide)
        ·
          refine ad 4 ?_
          exact Run.at [0, 1, 2] [2, 1, 0] (by first | exact su | (rw [h2]; exact su)) (by decide)
      exact Run.at [0, 1, 2] [0, 1, 2] (by first | exact su | (rw [h1]; exact su)) (by decide)
  refine cd (fun h3 => ?_) (fun h3 => ?_)
  ·
    have hM := hM.trans (bt h3)
    refine ad 5 ?_
    have hg4 : Dat.good (Deed.mk p0.Kind 0 0 (Call.mk 0 ⟨#[]⟩ ⟨#[]⟩ 0 0 ⟨#[]⟩) : Deed) := ⟨hg_p0.1, (gi 0), (gi 0), ⟨(gi 0), (gs ⟨#[]⟩), (gs ⟨#[]⟩), (gi 0), (gi 0), (gs ⟨#[]⟩)⟩⟩
    exact rz (rs := [.cell 2 38]) (congrArg (fun x => [Re.st Deed _ inferInstance x]) hM)
  ·
    have hM := hM.trans (bf h3)
    refine ad 6 ?_
    refine Run.mid ⟨29, 3, [(1, .pt 0 0), (2, .pt 1 0), (3, .pt 2 0), (8, .v (.int .i64 p0.Kind)), (14, .v (.bool ((decide (p0.Kind = 2)) || (decide (p0.Kind = 7)))))], [(0, .var [.v (.int .i64 p0.Kind), .v (.int .i64 p0.N), .v (.int .i64 p0.M), .v (.int .i64 p0.Call.Kind), .v (.string p0.Call.Name), .v (.string p0.Call.To), .v (.int .i64 p0.Call.A), .v (.int .i64 p0.Call.B), .v (.string p0.Call.Text)] 38), (1, .var [.v (.int .i64 0), .v (.int .i64 0), .v (.int .i64 0), .v (.int .i64 0), .v (.string ⟨#[]⟩), .v (.string ⟨#[]⟩), .v (.int .i64 0), .v (.int .i64 0), .v (.string ⟨#[]⟩)] 38), (2, .var [.v (.int .i64 p0.Kind), .v (.int .i64 0), .v (.int .i64 0), .v (.int .i64 0), .v (.string ⟨#[]⟩), .v (.string ⟨#[]⟩), .v (.int .i64 0), .v (.int .i64 0), .v (.string ⟨#[]⟩)] 38)]⟩ ?_ ?_
    · refine cd (fun h5 => ?_) (fun h5 => ?_)
      ·
        refine ad 1 ?_
        exact Run.at [0, 1, 2] [0, 1, 2] (by first | exact su | (rw [h5]; exact su)) (by decide)
      ·
        refine ad 4 ?_
        exact Run.at [0, 1, 2] [0, 1, 2] (by first | exact su | (rw [h5]; exact su)) (by decide)
    refine Run.mid ⟨29, 3, [(1, .pt 0 0), (2, .pt 1 0), (3, .pt 2 0)], [(0, .var [.v (.int .i64 p0.Kind), .v (.int .i64 p0.N), .v (.int .i64 p0.M), .v (.int .i64 p0.Call.Kind), .v (.string p0.Call.Name), .v (.string p0.Call.To), .v (.int .i64 p0.Call.A), .v (.int .i64 p0.Call.B), .v (.string p0.Call.Text)] 38), (1, .var [.v (.int .i64 0), .v (.int .i64 0), .v (.int .i64 0), .v (.int .i64 0), .v (.string ⟨#[]⟩), .v (.string ⟨#[]⟩), .v (.int .i64 0), .v (.int .i64 0), .v (.string ⟨#[]⟩)] 38), (2, .var [.v (.int .i64 p0.Kind), .v (.int .i64 0), .v (.int .i64 (bif ((decide (p0.Kind = 2)) || (decide (p0.Kind = 7))) then 0 else (bif (decide (p0.Kind = 4)) then p0.M else 0))), .v (.int .i64 (bif ((decide (p0.Kind = 2)) || (decide (p0.Kind = 7))) then p0.Call.Kind else 0)), .v (.string (bif ((decide (p0.Kind = 2)) || (decide (p0.Kind = 7))) then p0.Call.Name else ⟨#[]⟩)), .v (.string (bif ((decide (p0.Kind = 2)) || (decide (p0.Kind = 7))) then p0.Call.To else ⟨#[]⟩)), .v (.int .i64 (bif ((decide (p0.Kind = 2)) || (decide (p0.Kind = 7))) then p0.Call.A else 0)), .v (.int .i64 (bif ((decide (p0.Kind = 2)) || (decide (p0.Kind = 7))) then p0.Call.B else 0)), .v (.string (bif ((decide (p0.Kind = 2)) || (decide (p0.Kind = 7))) then p0.Call.Text else ⟨#[]⟩))] 38)]⟩ ?_ ?_
    · refine cd (fun h6 => ?_) (fun h6 => ?_)
      ·
        refine ad 6 ?_
        exact Run.at [0, 1, 2] [0, 1, 2] (by first | exact su | (rw [h6]; exact su)) (by decide)
      ·
        refine ad 5 ?_
        refine Run.mid ⟨29, 3, [(1, .pt 0 0), (2, .pt 1 0), (3, .pt 2 0)], [(0, .var [.v (.int .i64 p0.Kind), .v (.int .i64 p0.N), .v (.int .i64 p0.M), .v (.int .i64 p0.Call.Kind), .v (.string p0.Call.Name), .v (.string p0.Call.To), .v (.int .i64 p0.Call.A), .v (.int .i64 p0.Call.B), .v (.string p0.Call.Text)] 38), (1, .var [.v (.int .i64 0), .v (.int .i64 0), .v (.int .i64 0), .v (.int .i64 0), .v (.string ⟨#[]⟩), .v (.string ⟨#[]⟩), .v (.int .i64 0), .v (.int .i64 0), .v (.string ⟨#[]⟩)] 38), (2, .var [.v (.int .i64 p0.Kind), .v (.int .i64 0), .v (.int .i64 (bif (decide (p0.Kind = 4)) then p0.M else 0)), .v (.int .i64 0), .v (.string ⟨#[]⟩), .v (.string ⟨#[]⟩), .v (.int .i64 0), .v (.int .i64 0), .v (.string ⟨#[]⟩)] 38)]⟩ ?_ ?_
        · refine cd (fun h7 => ?_) (fun h7 => ?_)
          ·
            refine ad 6 ?_
            exact Run.at [0, 1, 2] [0, 1, 2] (by first | exact su | (rw [h7]; exact su)) (by decide)
          ·
            refine ad 1 ?_
            exact Run.at [0, 1, 2] [0, 1, 2] (by first | exact su | (rw [h7]; exact su)) (by decide)
        exact Run.at [0, 1, 2] [0, 1, 2] (by first | exact su | (rw [h6]; exact su)) (by decide)
    refine ad 13 ?_
    have hg8 : Dat.good (Deed.mk p0.Kind p0.N (bif ((decide (p0.Kind = 2)) || (decide (p0.Kind = 7))) then 0 else (bif (decide (p0.Kind = 4)) then p0.M else 0)) (Call.mk (bif ((decide (p0.Kind = 2)) || (decide (p0.Kind = 7))) then p0.Call.Kind else 0) (bif ((decide (p0.Kind = 2)) || (decide (p0.Kind = 7))) then p0.Call.Name else ⟨#[]⟩) (bif ((decide (p0.Kind = 2)) || (decide (p0.Kind = 7))) then p0.Call.To else ⟨#[]⟩) (bif ((decide (p0.Kind = 2)) || (decide (p0.Kind = 7))) then p0.Call.A else 0) (bif ((decide (p0.Kind = 2)) || (decide (p0.Kind = 7))) then p0.Call.B else 0) (bif ((decide (p0.Kind = 2)) || (decide (p0.Kind = 7))) then p0.Call.Text else ⟨#[]⟩)) : Deed) := ⟨hg_p0.1, hg_p0.2.1, (bifI (gi 0) (bifI hg_p0.2.2.1 (gi 0))), ⟨(bifI hg_p0.2.2.2.1 (gi 0)), (bifS hg_p0.2.2.2.2.1 (gs ⟨#[]⟩)), (bifS hg_p0.2.2.2.2.2.1 (gs ⟨#[]⟩)), (bifI hg_p0.2.2.2.2.2.2.1 (gi 0)), (bifI hg_p0.2.2.2.2.2.2.2.1 (gi 0)), (bifS hg_p0.2.2.2.2.2.2.2.2 (gs ⟨#[]⟩))⟩⟩
    exact rz (rs := [.cell 2 38]) (congrArg (fun x => [Re.st Deed _ inferInstance x]) hM)

/- F21 loop.example/g00974/impl.ActLine -/
def impl_ActLine_l1 (p0 : Deed) : Nat → Int → Int → Int → ByteArray → ByteArray → Int → Int → ByteArray → Nat → ByteArray → ByteArray
  | 0, c1_1, c1_2, c1_3, c1_4, c1_5, c1_6, c1_7, c1_8, i, v4 => bif (((!(impl_ActOk p0)) || (!(decide (p0 = (Deed.mk p0.Kind c1_1 c1_2 (Call.mk c1_3 c1_4 c1_5 c1_6 c1_7 c1_8)))))) || (!(impl_within p0.N 0 1000000000))) || (!(impl_within p0.M 0 1000000000)) then ⟨#[]⟩ else v4
  | n + 1, c1_1, c1_2, c1_3, c1_4, c1_5, c1_6, c1_7, c1_8, i, v4 => bif decide (((byteAt (impl_actFields p0.Kind) i).toNat : Int) = 78) then (impl_ActLine_l1 p0 n p0.N c1_2 c1_3 c1_4 c1_5 c1_6 c1_7 c1_8 (i + 1) (v4 ++ (⟨#[32]⟩ ++ (impl_Decimal p0.N)))) else (bif decide (((byteAt (impl_actFields p0.Kind) i).toNat : Int) = 77) then (impl_ActLine_l1 p0 n c1_1 p0.M c1_3 c1_4 c1_5 c1_6 c1_7 c1_8 (i + 1) (v4 ++ (⟨#[32]⟩ ++ (impl_Decimal p0.M)))) else (bif decide (((byteAt (impl_actFields p0.Kind) i).toNat : Int) = 67) then (bif decide ((impl_CallLine p0.Call) = ⟨#[]⟩) then ⟨#[]⟩ else (impl_ActLine_l1 p0 n c1_1 c1_2 p0.Call.Kind p0.Call.Name p0.Call.To p0.Call.A p0.Call.B p0.Call.Text (i + 1) (v4 ++ (⟨#[32]⟩ ++ (impl_CallLine p0.Call))))) else (impl_ActLine_l1 p0 n c1_1 c1_2 c1_3 c1_4 c1_5 c1_6 c1_7 c1_8 (i + 1) v4)))
def impl_ActLine (p0 : Deed) : ByteArray := impl_ActLine_l1 p0 (((impl_actFields p0.Kind).size) - 0) 0 0 0 ⟨#[]⟩ ⟨#[]⟩ 0 0 ⟨#[]⟩ 0 (impl_ActName p0.Kind)
theorem c_impl_ActLine (p0 : Deed) : CTs 21 [.o (.st Deed _ inferInstance p0)] [Re.c (.string (impl_ActLine p0))] := by
  refine en Tryd.func21 Tryd.ntmps21 fun w hG hgd => ?_
  obtain ⟨hg_p0, _⟩ := hgd
  have hM := impl_ActLine.eq_1 p0
  refine ad 17 ?_
  refine op (cl (c_impl_ActName p0.Kind) fok12) ?_
  refine ad 7 ?_
  refine op (cl (c_impl_actFields p0.Kind) fok60) ?_
  refine op (rg) ?_
  refine ad 2 ?_
  have hda : (impl_Decimal p0.N).size ≤ 20 := impl_Decimal_size hg_p0.2.1
  have hdb : (impl_Decimal p0.M).size ≤ 20 := impl_Decimal_size hg_p0.2.2.1
  have hdc : (impl_CallLine p0.Call).size ≤ 610 := impl_CallLine_size hg_p0.2.2.2
  have han := impl_ActName_size p0.Kind
  have hfs := impl_actFields_size p0.Kind
  refine Run.loopM (ι := Int × Int × Int × ByteArray × ByteArray × Int × Int × ByteArray × Nat × ByteArray) (fun s => impl_ActLine_l1 p0 (((impl_actFields p0.Kind).size) - s.2.2.2.2.2.2.2.2.1) s.1 s.2.1 s.2.2.1 s.2.2.2.1 s.2.2.2.2.1 s.2.2.2.2.2.1 s.2.2.2.2.2.2.1 s.2.2.2.2.2.2.2.1 s.2.2.2.2.2.2.2.2.1 s.2.2.2.2.2.2.2.2.2) (fun s => ⟨79, 3, [(1, .pt 0 0), (3, .pt 1 0), (4, .v (.string s.2.2.2.2.2.2.2.2.2)), (17, .pt 2 0)], [(0, .var [.v (.int .i64 p0.Kind), .v (.int .i64 p0.N), .v (.int .i64 p0.M), .v (.int .i64 p0.Call.Kind), .v (.string p0.Call.Name), .v (.string p0.Call.To), .v (.int .i64 p0.Call.A), .v (.int .i64 p0.Call.B), .v (.string p0.Call.Text)] 38), (1, .var [.v (.int .i64 p0.Kind), .v (.int .i64 s.1), .v (.int .i64 s.2.1), .v (.int .i64 s.2.2.1), .v (.string s.2.2.2.1), .v (.string s.2.2.2.2.1), .v (.int .i64 s.2.2.2.2.2.1), .v (.int .i64 s.2.2.2.2.2.2.1), .v (.string s.2.2.2.2.2.2.2.1)] 38), (2, .itr (impl_actFields p0.Kind) s.2.2.2.2.2.2.2.2.1)]⟩) (fun s => s.2.2.2.2.2.2.2.2.1 ≤ (impl_actFields p0.Kind).size ∧ s.2.2.2.2.2.2.2.2.2.size ≤ 10 + 700 * s.2.2.2.2.2.2.2.2.1 ∧ I64 s.1 ∧ I64 s.2.1 ∧ I64 s.2.2.1 ∧ s.2.2.2.1.size ≤ maxLen ∧ s.2.2.2.2.1.size ≤ maxLen ∧ I64 s.2.2.2.2.2.1 ∧ I64 s.2.2.2.2.2.2.1 ∧ s.2.2.2.2.2.2.2.1.size ≤ maxLen) (fun s => ((impl_actFields p0.Kind).size) - s.2.2.2.2.2.2.2.2.1) (0, 0, 0, ⟨#[]⟩, ⟨#[]⟩, 0, 0, ⟨#[]⟩, 0, (impl_ActName p0.Kind)) [0, 1, 2] [2, 1, 0] hM (by exact ⟨by (try dsimp only); first | omega | exact trivial, by (dsimp only; omega), (gi 0), (gi 0), (gi 0), (gs ⟨#[]⟩), (gs ⟨#[]⟩), (gi 0), (gi 0), (gs ⟨#[]⟩)⟩) su (by decide) ?_
  rintro ⟨c1_1, c1_2, c1_3, c1_4, c1_5, c1_6, c1_7, c1_8, i, v4⟩ hv hE
  try dsimp only at hE
  obtain ⟨hi, hv0, hg_c1_1, hg_c1_2, hg_c1_3, hg_c1_4, hg_c1_5, hg_c1_6, hg_c1_7, hg_c1_8⟩ := hv
  try dsimp only at hi hv0 hg_c1_1 hg_c1_2 hg_c1_3 hg_c1_4 hg_c1_5 hg_c1_6 hg_c1_7 hg_c1_8
  refine ad 2 ?_
  refine nx (fun h1 => ?_) (fun h1 => ?_) (asc_impl_actFields p0.Kind)
  ·
    have hM := hE.trans ((congrArg (fun n => impl_ActLine_l1 p0 n c1_1 c1_2 c1_3 c1_4 c1_5 c1_6 c1_7 c1_8 i v4) (show ((impl_actFields p0.Kind).size) - i = (((impl_actFields p0.Kind).size) - (i + 1)) + 1 by omega)).trans (impl_ActLine_l1.eq_2 _ _ _ _ _ _ _ _ _ _ _ _))
    refine ad 21 ?_
    refine cd (fun h2 => ?_) (fun h2 => ?_)
    ·
      have hM := hM.trans (bt h2)
      refine ad 11 ?_
      have hs3 := impl_Decimal_size (p0 := p0.N) hg_p0.2.1
      refine op (cl (k_impl_Decimal p0.N hg_p0.2.1) fok61) ?_
      refine op (ca (hs := szt)) ?_
      refine op (ca (hs := szt)) ?_
      refine ad 4 ?_
      exact Run.again (p0.N, c1_2, c1_3, c1_4, c1_5, c1_6, c1_7, c1_8, (i + 1), v4 ++ (⟨#[32]⟩ ++ (impl_Decimal p0.N))) [0, 1, 2] [0, 1, 2] ⟨by exact ⟨by (try dsimp only); first | omega | exact trivial, by (dsimp only; (try simp only [Bool.cond_eq_ite]); (repeat' split); all_goals ((try simp only [ByteArray.size_append, bts, List.size_toArray, List.length_cons, List.length_nil]); omega)), hg_p0.2.1, hg_c1_2, hg_c1_3, hg_c1_4, hg_c1_5, hg_c1_6, hg_c1_7, hg_c1_8⟩, hM⟩ rfl (by show _ - _ < _ - _; (try dsimp only); omega) su (by decide)
    ·
      have hM := hM.trans (bf h2)
      refine ad 5 ?_
      refine cd (fun h4 => ?_) (fun h4 => ?_)
      ·
        have hM := hM.trans (bt h4)
        refine ad 11 ?_
        have hs5 := impl_Decimal_size (p0 := p0.M) hg_p0.2.2.1
        refine op (cl (k_impl_Decimal p0.M hg_p0.2.2.1) fok61) ?_
        refine op (ca (hs := szt)) ?_
        refine op (ca (hs := szt)) ?_
        refine ad 4 ?_
        exact Run.again (c1_1, p0.M, c1_3, c1_4, c1_5, c1_6, c1_7, c1_8, (i + 1), v4 ++ (⟨#[32]⟩ ++ (impl_Decimal p0.M))) [0, 1, 2] [0, 1, 2] ⟨by exact ⟨by (try dsimp only); first | omega | exact trivial, by (dsimp only; (try simp only [Bool.cond_eq_ite]); (repeat' split); all_goals ((try simp only [ByteArray.size_append, bts, List.size_toArray, List.length_cons, List.length_nil]); omega)), hg_c1_1, hg_p0.2.2.1, hg_c1_3, hg_c1_4, hg_c1_5, hg_c1_6, hg_c1_7, hg_c1_8⟩, hM⟩ rfl (by show _ - _ < _ - _; (try dsimp only); omega) su (by decide)
      ·
        have hM := hM.trans (bf h4)
        refine ad 5 ?_
        refine cd (fun h6 => ?_) (fun h6 => ?_)
        ·
          have hM := hM.trans (bt h6)
          refine ad 11 ?_
          have hg7 : Dat.good (p0.Call : Call) := hg_p0.2.2.2
          have hs8 := impl_CallLine_size (p0 := p0.Call) (by assumption)
          refine op (cl (c_impl_CallLine p0.Call) fok14) ?_
          refine ad 8 ?_
          refine cd (fun h9 => ?_) (fun h9 => ?_)
          ·
            have hM := hM.trans (bt h9)
            refine ad 4 ?_
            exact rz (rs := [.tmp 2]) (congrArg (fun x => [Re.c (.string x)]) hM)
          ·
            have hM := hM.trans (bf h9)
            refine ad 4 ?_
            refine op (ca (hs := szt)) ?_
            refine op (ca (hs := szt)) ?_
            refine ad 4 ?_
            exact Run.again (c1_1, c1_2, p0.Call.Kind, p0.Call.Name, p0.Call.To, p0.Call.A, p0.Call.B, p0.Call.Text, (i + 1), v4 ++ (⟨#[32]⟩ ++ (impl_CallLine p0.Call))) [0, 1, 2] [0, 1, 2] ⟨by exact ⟨by (try dsimp only); first | omega | exact trivial, by (dsimp only; (try simp only [Bool.cond_eq_ite]); (repeat' split); all_goals ((try simp only [ByteArray.size_append, bts, List.size_toArray, List.length_cons, List.length_nil]); omega)), hg_c1_1, hg_c1_2, hg7.1, hg7.2.1, hg7.2.2.1, hg7.2.2.2.1, hg7.2.2.2.2.1, hg7.2.2.2.2.2⟩, hM⟩ rfl (by show _ - _ < _ - _; (try dsimp only); omega) su (by decide)
        ·
          have hM := hM.trans (bf h6)
          refine ad 3 ?_
          exact Run.again (c1_1, c1_2, c1_3, c1_4, c1_5, c1_6, c1_7, c1_8, (i + 1), v4) [0, 1, 2] [0, 1, 2] ⟨by exact ⟨by (try dsimp only); first | omega | exact trivial, by (dsimp only; (try simp only [Bool.cond_eq_ite]); (repeat' split); all_goals ((try simp only [ByteArray.size_append, bts, List.size_toArray, List.length_cons, List.length_nil]); omega)), hg_c1_1, hg_c1_2, hg_c1_3, hg_c1_4, hg_c1_5, hg_c1_6, hg_c1_7, hg_c1_8⟩, hM⟩ rfl (by show _ - _ < _ - _; (try dsimp only); omega) su (by decide)
  ·
    have hM := hE.trans ((congrArg (fun n => impl_ActLine_l1 p0 n c1_1 c1_2 c1_3 c1_4 c1_5 c1_6 c1_7 c1_8 i v4) (show ((impl_actFields p0.Kind).size) - i = 0 by omega)).trans (impl_ActLine_l1.eq_1 _ _ _ _ _ _ _ _ _ _ _))
    refine ad 9 ?_
    refine op (cl (c_impl_ActOk p0) fok62) ?_
    refine ad 2 ?_
    refine ag 2 ?_
    refine op (qg (fun _ => (eqp38 p0 (Deed.mk p0.Kind c1_1 c1_2 (Call.mk c1_3 c1_4 c1_5 c1_6 c1_7 c1_8))))) ?_
    refine ag 1 ?_
    refine ad 1 ?_
    refine ag 2 ?_
    refine op (cG (hct := fun hB => (k_impl_within p0.N 0 1000000000)) (hfn := fok45)) ?_
    refine ag 2 ?_
    refine ad 1 ?_
    refine ag 2 ?_
    refine op (cG (hct := fun hB => (k_impl_within p0.M 0 1000000000)) (hfn := fok45)) ?_
    refine ag 2 ?_
    refine ad 1 ?_
    refine cd (fun h10 => ?_) (fun h10 => ?_)
    ·
      have hM := hM.trans (bt h10)
      refine ad 4 ?_
      exact rz (rs := [.tmp 2]) (congrArg (fun x => [Re.c (.string x)]) hM)
    ·
      have hM := hM.trans (bf h10)
      have th10_0 := impl_ActOk_t (by have hq := (Bool.or_eq_false_iff.1 (Bool.or_eq_false_iff.1 (Bool.or_eq_false_iff.1 h10).1).1).1; simpa using hq)
      have th10_2 := impl_within_t (by have hq := (Bool.or_eq_false_iff.1 (Bool.or_eq_false_iff.1 h10).1).2; simpa using hq)
      have th10_3 := impl_within_t (by have hq := (Bool.or_eq_false_iff.1 h10).2; simpa using hq)
      refine ad 6 ?_
      exact rz (rs := [.tmp 2]) (congrArg (fun x => [Re.c (.string x)]) hM)

/- F19 loop.example/g00974/spec.ActLine -/
def spec_ActLine (p0 : Deed) : ByteArray := bif (((!(spec_ActOk p0)) || (!(decide ((spec_l38Told p0) = p0)))) || (!(spec_l38Fits p0.N))) || (!(spec_l38Fits p0.M)) then ⟨#[]⟩ else (bif (decide (p0.Kind = 8)) || ((decide (p0.Kind = 9)) || (decide (p0.Kind = 10))) then (spec_ActName p0.Kind) else (bif (decide (p0.Kind = 2)) || (decide (p0.Kind = 7)) then (bif decide ((spec_CallLine p0.Call) = ⟨#[]⟩) then ⟨#[]⟩ else (((((spec_ActName p0.Kind) ++ ⟨#[32]⟩) ++ (spec_Decimal p0.N)) ++ ⟨#[32]⟩) ++ (spec_CallLine p0.Call))) else (bif decide (p0.Kind = 4) then (((((spec_ActName p0.Kind) ++ ⟨#[32]⟩) ++ (spec_Decimal p0.N)) ++ ⟨#[32]⟩) ++ (spec_Decimal p0.M)) else (((spec_ActName p0.Kind) ++ ⟨#[32]⟩) ++ (spec_Decimal p0.N)))))
theorem c_spec_ActLine (p0 : Deed) : CTs 19 [.o (.st Deed _ inferInstance p0)] [Re.c (.string (spec_ActLine p0))] := by
  refine en Tryd.func19 Tryd.ntmps19 fun w hG hgd => ?_
  obtain ⟨hg_p0, _⟩ := hgd
  have hM := spec_ActLine.eq_1 p0
  have hda : (spec_Decimal p0.N).size ≤ 20 := spec_Decimal_size hg_p0.2.1
  have hdb : (spec_Decimal p0.M).size ≤ 20 := spec_Decimal_size hg_p0.2.2.1
  have hdc : (spec_CallLine p0.Call).size ≤ 610 := spec_CallLine_size hg_p0.2.2.2
  have han := spec_ActName_size p0.Kind
  refine ad 7 ?_
  refine dr 21 fun _ _ _ _ _ hb => ?_
  refine tk [0] ?_
  refine on 1 [0] (cl (c_spec_ActOk p0) fok58) ?_
  refine tk [2, 3, 4, 6] ?_
  refine on 5 [0] (cGs (hct := fun hB => (c_spec_l38Told p0)) (hfn := fok59)) ?_
  refine on 7 [0] (qg (fun _ => (eqp38 (spec_l38Told p0) p0))) ?_
  refine tk [8, 9, 10, 11] ?_
  refine on 12 [0] (cG (hct := fun hB => (c_spec_l38Fits p0.N)) (hfn := fok52)) ?_
  refine tk [13, 14, 15, 16, 17] ?_
  refine on 18 [0] (cG (hct := fun hB => (c_spec_l38Fits p0.M)) (hfn := fok52)) ?_
  refine tk [19, 20] ?_
  refine dn hb ?_
  refine cd (fun h1 => ?_) (fun h1 => ?_)
  ·
    have hM := hM.trans (bt h1)
    refine ad 4 ?_
    exact rz (rs := [.tmp 2]) (congrArg (fun x => [Re.c (.string x)]) hM)
  ·
    have hM := hM.trans (bf h1)
    have th1_0 := spec_ActOk_t (by have hq := (Bool.or_eq_false_iff.1 (Bool.or_eq_false_iff.1 (Bool.or_eq_false_iff.1 h1).1).1).1; simpa using hq)
    refine ad 5 ?_
    refine op (cl (c_spec_ActName p0.Kind) fok13) ?_
    refine ad 15 ?_
    refine Run.mid ⟨72, 1, [(1, .pt 0 0), (3, .v (.string (spec_ActName p0.Kind))), (30, .v (.int .i64 p0.Kind)), (31, .v (.bool ((decide (p0.Kind = 8)) || ((decide (p0.Kind = 9)) || (decide (p0.Kind = 10))))))], [(0, .var [.v (.int .i64 p0.Kind), .v (.int .i64 p0.N), .v (.int .i64 p0.M), .v (.int .i64 p0.Call.Kind), .v (.string p0.Call.Name), .v (.string p0.Call.To), .v (.int .i64 p0.Call.A), .v (.int .i64 p0.Call.B), .v (.string p0.Call.Text)] 38)]⟩ ?_ ?_
    · refine cd (fun h2 => ?_) (fun h2 => ?_)
      ·
        refine ad 1 ?_
        exact Run.at [0] [0] (by first | exact su | (rw [h2]; exact su)) (by decide)
      ·
        refine ad 5 ?_
        refine Run.mid ⟨72, 1, [(1, .pt 0 0), (3, .v (.string (spec_ActName p0.Kind))), (30, .v (.int .i64 p0.Kind)), (31, .v (.bool ((decide (p0.Kind = 9)) || (decide (p0.Kind = 10)))))], [(0, .var [.v (.int .i64 p0.Kind), .v (.int .i64 p0.N), .v (.int .i64 p0.M), .v (.int .i64 p0.Call.Kind), .v (.string p0.Call.Name), .v (.string p0.Call.To), .v (.int .i64 p0.Call.A), .v (.int .i64 p0.Call.B), .v (.string p0.Call.Text)] 38)]⟩ ?_ ?_
        · refine cd (fun h3 => ?_) (fun h3 => ?_)
          ·
            refine ad 1 ?_
            exact Run.at [0] [0] (by first | exact su | (rw [h3]; exact su)) (by decide)
          ·
            refine ad 4 ?_
            exact Run.at [0] [0] (by first | exact su | (rw [h3]; exact su)) (by decide)
        exact Run.at [0] [0] (by first | exact su | (rw [h2]; exact su)) (by decide)
    refine cd (fun h4 => ?_) (fun h4 => ?_)
    ·
      have hM := hM.trans (bt h4)
      refine ad 5 ?_
      exact rz (rs := [.tmp 2]) (congrArg (fun x => [Re.c (.string x)]) hM)
    ·
      have hM := hM.trans (bf h4)
      refine ad 6 ?_
      refine Run.mid ⟨72, 1, [(1, .pt 0 0), (3, .v (.string (spec_ActName p0.Kind))), (30, .v (.int .i64 p0.Kind)), (36, .v (.bool ((decide (p0.Kind = 2)) || (decide (p0.Kind = 7)))))], [(0, .var [.v (.int .i64 p0.Kind), .v (.int .i64 p0.N), .v (.int .i64 p0.M), .v (.int .i64 p0.Call.Kind), .v (.string p0.Call.Name), .v (.string p0.Call.To), .v (.int .i64 p0.Call.A), .v (.int .i64 p0.Call.B), .v (.string p0.Call.Text)] 38)]⟩ ?_ ?_
      · refine cd (fun h5 => ?_) (fun h5 => ?_)
        ·
          refine ad 1 ?_
          exact Run.at [0] [0] (by first | exact su | (rw [h5]; exact su)) (by decide)
        ·
          refine ad 4 ?_
          exact Run.at [0] [0] (by first | exact su | (rw [h5]; exact su)) (by decide)
      refine cd (fun h6 => ?_) (fun h6 => ?_)
      ·
        have hM := hM.trans (bt h6)
        refine ad 4 ?_
        have hg7 : Dat.good (p0.Call : Call) := hg_p0.2.2.2
        have hs8 := spec_CallLine_size (p0 := p0.Call) (by assumption)
        refine op (cl (c_spec_CallLine p0.Call) fok16) ?_
        refine ad 8 ?_
        refine cd (fun h9 => ?_) (fun h9 => ?_)
        ·
          have hM := hM.trans (bt h9)
          refine ad 4 ?_
          exact rz (rs := [.tmp 2]) (congrArg (fun x => [Re.c (.string x)]) hM)
        ·
          have hM := hM.trans (bf h9)
          refine ad 4 ?_
          refine op (ca (hs := szt)) ?_
          refine ad 2 ?_
          have hs10 := spec_Decimal_size (p0 := p0.N) hg_p0.2.1
          refine op (cl (k_spec_Decimal p0.N hg_p0.2.1) fok56) ?_
          refine op (ca (hs := szt)) ?_
          refine op (ca (hs := szt)) ?_
          refine ad 1 ?_
          refine op (ca (hs := szt)) ?_
          refine ad 2 ?_
          exact rz (rs := [.tmp 2]) (congrArg (fun x => [Re.c (.string x)]) hM)
      ·
        have hM := hM.trans (bf h6)
        refine ad 5 ?_
        refine cd (fun h11 => ?_) (fun h11 => ?_)
        ·
          have hM := hM.trans (bt h11)
          refine ad 1 ?_
          refine dr 12 fun _ _ _ _ _ hb => ?_
          refine tk [0] ?_
          refine tx 1 (tca (hs := szt)) ?_
          refine tk [2, 3, 7, 8] ?_
          have hs12 := spec_Decimal_size (p0 := p0.N) hg_p0.2.1
          refine on 4 [0] (cl (k_spec_Decimal p0.N hg_p0.2.1) fok56) ?_
          refine tx 5 (tca (hs := szt)) ?_
          refine tx 6 (tca (hs := szt)) ?_
          have hs13 := spec_Decimal_size (p0 := p0.M) hg_p0.2.2.1
          refine on 9 [0] (cl (k_spec_Decimal p0.M hg_p0.2.2.1) fok56) ?_
          refine tx 10 (tca (hs := szt)) ?_
          refine tk [11] ?_
          refine dn hb ?_
          exact rz (rs := [.tmp 2]) (congrArg (fun x => [Re.c (.string x)]) hM)
        ·
          have hM := hM.trans (bf h11)
          refine ad 5 ?_
          refine op (ca (hs := szt)) ?_
          refine ad 2 ?_
          have hs14 := spec_Decimal_size (p0 := p0.N) hg_p0.2.1
          refine op (cl (k_spec_Decimal p0.N hg_p0.2.1) fok56) ?_
          refine op (ca (hs := szt)) ?_
          refine ad 2 ?_
          exact rz (rs := [.tmp 2]) (congrArg (fun x => [Re.c (.string x)]) hM)

end Go.Proofs.YtmjjcihoobnbgaaDoor.Fw