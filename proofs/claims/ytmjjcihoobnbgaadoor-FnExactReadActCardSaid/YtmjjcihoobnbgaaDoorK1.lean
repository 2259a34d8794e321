/- Contracts: each call returns what the model says. By program (wip/am/gen2.py). -/
import Derived.Test.YtmjjcihoobnbgaaDoorB2
namespace Go.Proofs.YtmjjcihoobnbgaaDoor.Fw
open Go.RowKit
set_option linter.unusedVariables false
set_option maxRecDepth 100000

theorem fok45 : FnOk Tryd.prog 45 := ⟨_, Tryd.func45, rfl, by kernel_rfl⟩
theorem fok46 : FnOk Tryd.prog 46 := ⟨_, Tryd.func46, rfl, by kernel_rfl⟩
theorem fok48 : FnOk Tryd.prog 48 := ⟨_, Tryd.func48, rfl, by kernel_rfl⟩
theorem fok85 : FnOk Tryd.prog 85 := ⟨_, Tryd.func85, rfl, by kernel_rfl⟩
theorem fok106 : FnOk Tryd.prog 106 := ⟨_, Tryd.func106, rfl, by kernel_rfl⟩
theorem fok116 : FnOk Tryd.prog 116 := ⟨_, Tryd.func116, rfl, by kernel_rfl⟩
/- F48 loop.example/g00974/impl.fieldsOf -/
def impl_fieldsOf (p0 : Int) : ByteArray := bif (decide (p0 = 1)) || (decide (p0 = 3)) then ⟨#[78]⟩ else (bif (decide (p0 = 2)) || (decide (p0 = 4)) then ⟨#[78, 84]⟩ else (bif decide (p0 = 6) then ⟨#[78, 65, 66]⟩ else (bif decide (p0 = 7) then ⟨#[78, 65, 88]⟩ else (bif decide (p0 = 8) then ⟨#[78, 65]⟩ else (bif (decide (p0 = 10)) || (decide (p0 = 20)) then ⟨#[65, 88]⟩ else (bif (decide (p0 = 11)) || ((decide (p0 = 13)) || ((decide (p0 = 14)) || ((decide (p0 = 18)) || ((decide (p0 = 19)) || (decide (p0 = 21)))))) then ⟨#[65]⟩ else (bif decide (p0 = 16) then ⟨#[65, 66]⟩ else (bif decide (p0 = 22) then ⟨#[88]⟩ else ⟨#[]⟩))))))))
theorem c_impl_fieldsOf (p0 : Int) : CTs 48 [.o (.c (.int .i64 p0))] [Re.c (.string (impl_fieldsOf p0))] := by
  refine en Tryd.func48 Tryd.ntmps48 fun w hG hgd => ?_
  have hM := impl_fieldsOf.eq_1 p0
  refine ad 16 ?_
  refine Run.mid ⟨30, 0, [(3, .v (.int .i64 p0)), (4, .v (.bool ((decide (p0 = 1)) || (decide (p0 = 3)))))], []⟩ ?_ ?_
  · refine cd (fun h1 => ?_) (fun h1 => ?_)
    ·
      refine ad 1 ?_
      exact Run.at [] [] (by first | exact su | (rw [h1]; exact su)) (by decide)
    ·
      refine ad 4 ?_
      exact Run.at [] [] (by first | exact su | (rw [h1]; exact su)) (by decide)
  refine cd (fun h2 => ?_) (fun h2 => ?_)
  ·
    have hM := hM.trans (bt h2)
    refine ad 4 ?_
    exact rz (rs := [.tmp 2]) (congrArg (fun x => [Re.c (.string x)]) hM)
  ·
    have hM := hM.trans (bf h2)
    refine ad 6 ?_
    refine Run.mid ⟨30, 0, [(3, .v (.int .i64 p0)), (7, .v (.bool ((decide (p0 = 2)) || (decide (p0 = 4)))))], []⟩ ?_ ?_
    · refine cd (fun h3 => ?_) (fun h3 => ?_)
      ·
        refine ad 1 ?_
        exact Run.at [] [] (by first | exact su | (rw [h3]; exact su)) (by decide)
      ·
        refine ad 4 ?_
        exact Run.at [] [] (by first | exact su | (rw [h3]; exact su)) (by decide)
    refine cd (fun h4 => ?_) (fun h4 => ?_)
    ·
      have hM := hM.trans (bt h4)
      refine ad 4 ?_
      exact rz (rs := [.tmp 2]) (congrArg (fun x => [Re.c (.string x)]) hM)
    ·
      have hM := hM.trans (bf h4)
      refine ad 5 ?_
      refine cd (fun h5 => ?_) (fun h5 => ?_)
      ·
        have hM := hM.trans (bt h5)
        refine ad 4 ?_
        exact rz (rs := [.tmp 2]) (congrArg (fun x => [Re.c (.string x)]) hM)
      ·
        have hM := hM.trans (bf h5)
        refine ad 5 ?_
        refine cd (fun h6 => ?_) (fun h6 => ?_)
        ·
          have hM := hM.trans (bt h6)
          refine ad 4 ?_
          exact rz (rs := [.tmp 2]) (congrArg (fun x => [Re.c (.string x)]) hM)
        ·
          have hM := hM.trans (bf h6)
          refine ad 5 ?_
          refine cd (fun h7 => ?_) (fun h7 => ?_)
          ·
            have hM := hM.trans (bt h7)
            refine ad 4 ?_
            exact rz (rs := [.tmp 2]) (congrArg (fun x => [Re.c (.string x)]) hM)
          ·
            have hM := hM.trans (bf h7)
            refine ad 6 ?_
            refine Run.mid ⟨30, 0, [(3, .v (.int .i64 p0)), (16, .v (.bool ((decide (p0 = 10)) || (decide (p0 = 20)))))], []⟩ ?_ ?_
            · refine cd (fun h8 => ?_) (fun h8 => ?_)
              ·
                refine ad 1 ?_
                exact Run.at [] [] (by first | exact su | (rw [h8]; exact su)) (by decide)
              ·
                refine ad 4 ?_
                exact Run.at [] [] (by first | exact su | (rw [h8]; exact su)) (by decide)
            refine cd (fun h9 => ?_) (fun h9 => ?_)
            ·
              have hM := hM.trans (bt h9)
              refine ad 4 ?_
              exact rz (rs := [.tmp 2]) (congrArg (fun x => [Re.c (.string x)]) hM)
            ·
              have hM := hM.trans (bf h9)
              refine ad 6 ?_
              refine Run.mid ⟨30, 0, [(3, .v (.int .i64 p0)), (19, .v (.bool ((decide (p0 = 11)) || ((decide (p0 = 13)) || ((decide (p0 = 14)) || ((decide (p0 = 18)) || ((decide (p0 = 19)) || (decide (p0 = 21)))))))))], []⟩ ?_ ?_
              · refine cd (fun h10 => ?_) (fun h10 => ?_)
                ·
                  refine ad 1 ?_
                  exact Run.at [] [] (by first | exact su | (rw [h10]; exact su)) (by decide)
                ·
                  refine ad 5 ?_
                  refine Run.mid ⟨30, 0, [(3, .v (.int .i64 p0)), (19, .v (.bool ((decide (p0 = 13)) || ((decide (p0 = 14)) || ((decide (p0 = 18)) || ((decide (p0 = 19)) || (decide (p0 = 21))))))))], []⟩ ?_ ?_
                  · refine cd (fun h11 => ?_) (fun h11 => ?_)
                    ·
                      refine ad 1 ?_
                      exact Run.at [] [] (by first | exact su | (rw [h11]; exact su)) (by decide)
                    ·
                      refine ad 5 ?_
                      refine Run.mid ⟨30, 0, [(3, .v (.int .i64 p0)), (19, .v (.bool ((decide (p0 = 14)) || ((decide (p0 = 18)) || ((decide (p0 = 19)) || (decide (p0 = 21)))))))], []⟩ ?_ ?_
                      · refine cd (fun h12 => ?_) (fun h12 => ?_)
                        ·
                          refine ad 1 ?_
                          exact Run.at [] [] (by first | exact su | (rw [h12]; exact su)) (by decide)
                        ·
                          refine ad 5 ?_
                          refine Run.mid ⟨30, 0, [(3, .v (.int .i64 p0)), (19, .v (.bool ((decide (p0 = 18)) || ((decide (p0 = 19)) || (decide (p0 = 21))))))], []⟩ ?_ ?_
                          · refine cd (fun h13 => ?_) (fun h13 => ?_)
                            ·
                              refine ad 1 ?_
                              exact Run.at [] [] (by first | exact su | (rw [h13]; exact su)) (by decide)
                            ·
                              refine ad 5 ?_
                              refine Run.mid ⟨30, 0, [(3, .v (.int .i64 p0)), (19, .v (.bool ((decide (p0 = 19)) || (decide (p0 = 21)))))], []⟩ ?_ ?_
                              · refine cd (fun h14 => ?_) (fun h14 => ?_)
                                ·
                                  refine ad 1 ?_
                                  exact Run.at [] [] (by first | exact su | (rw [h14]; exact su)) (by decide)
                                ·
                                  refine ad 4 ?_
                                  exact Run.at [] [] (by first | exact su | (rw [h14]; exact su)) (by decide)
                              exact Run.at [] [] (by first | exact su | (rw [h13]; exact su)) (by decide)
                          exact Run.at [] [] (by first | exact su | (rw [h12]; exact su)) (by decide)
                      exact Run.at [] [] (by first | exact su | (rw [h11]; exact su)) (by decide)
                  exact Run.at [] [] (by first | exact su | (rw [h10]; exact su)) (by decide)
              refine cd (fun h15 => ?_) (fun h15 => ?_)
              ·
                have hM := hM.trans (bt h15)
                refine ad 4 ?_
                exact rz (rs := [.tmp 2]) (congrArg (fun x => [Re.c (.string x)]) hM)
              ·
                have hM := hM.trans (bf h15)
                refine ad 5 ?_
                refine cd (fun h16 => ?_) (fun h16 => ?_)
                ·
                  have hM := hM.trans (bt h16)
                  refine ad 4 ?_
                  exact rz (rs := [.tmp 2]) (congrArg (fun x => [Re.c (.string x)]) hM)
                ·
                  have hM := hM.trans (bf h16)
                  refine ad 5 ?_
                  refine cd (fun h17 => ?_) (fun h17 => ?_)
                  ·
                    have hM := hM.trans (bt h17)
                    refine ad 4 ?_
                    exact rz (rs := [.tmp 2]) (congrArg (fun x => [Re.c (.string x)]) hM)
                  ·
                    have hM := hM.trans (bf h17)
                    refine ad 6 ?_
                    exact rz (rs := [.tmp 2]) (congrArg (fun x => [Re.c (.string x)]) hM)
theorem asc_impl_fieldsOf (p0 : Int) : ascii (impl_fieldsOf p0) := by
  unfold impl_fieldsOf
  repeat' (first | refine asc_bif ?_ ?_ | exact ascii_of (by decide +kernel))
theorem szb {b : Bool} {x y : ByteArray} {n : Nat} (hx : x.size ≤ n) (hy : y.size ≤ n) : (bif b then x else y).size ≤ n := by cases b <;> assumption
theorem impl_fieldsOf_size (p0 : Int) : (impl_fieldsOf p0).size ≤ 3 := by
  unfold impl_fieldsOf
  repeat' (first | refine szb ?_ ?_ | exact Nat.le_of_ble_eq_true rfl)

/- F54 loop.example/g00974/spec.l38Uses -/
def spec_l38Uses (p0 : Int) : ByteArray := bif (decide (p0 = 1)) || (decide (p0 = 3)) then ⟨#[110]⟩ else (bif (decide (p0 = 2)) || (decide (p0 = 4)) then ⟨#[110, 116]⟩ else (bif decide (p0 = 6) then ⟨#[110, 97, 98]⟩ else (bif decide (p0 = 7) then ⟨#[110, 97, 120]⟩ else (bif decide (p0 = 8) then ⟨#[110, 97]⟩ else (bif (decide (p0 = 10)) || (decide (p0 = 20)) then ⟨#[97, 120]⟩ else (bif (decide (p0 = 11)) || ((decide (p0 = 13)) || ((decide (p0 = 14)) || ((decide (p0 = 18)) || ((decide (p0 = 19)) || (decide (p0 = 21)))))) then ⟨#[97]⟩ else (bif decide (p0 = 16) then ⟨#[97, 98]⟩ else (bif decide (p0 = 22) then ⟨#[120]⟩ else ⟨#[]⟩))))))))
theorem c_spec_l38Uses (p0 : Int) : CTs 54 [.o (.c (.int .i64 p0))] [Re.c (.string (spec_l38Uses p0))] := by
  refine en Tryd.func54 Tryd.ntmps54 fun w hG hgd => ?_
  have hM := spec_l38Uses.eq_1 p0
  refine ad 16 ?_
  refine Run.mid ⟨30, 0, [(3, .v (.int .i64 p0)), (4, .v (.bool ((decide (p0 = 1)) || (decide (p0 = 3)))))], []⟩ ?_ ?_
  · refine cd (fun h1 => ?_) (fun h1 => ?_)
    ·
      refine ad 1 ?_
      exact Run.at [] [] (by first | exact su | (rw [h1]; exact su)) (by decide)
    ·
      refine ad 4 ?_
      exact Run.at [] [] (by first | exact su | (rw [h1]; exact su)) (by decide)
  refine cd (fun h2 => ?_) (fun h2 => ?_)
  ·
    have hM := hM.trans (bt h2)
    refine ad 4 ?_
    exact rz (rs := [.tmp 2]) (congrArg (fun x => [Re.c (.string x)]) hM)
  ·
    have hM := hM.trans (bf h2)
    refine ad 6 ?_
    refine Run.mid ⟨30, 0, [(3, .v (.int .i64 p0)), (7, .v (.bool ((decide (p0 = 2)) || (decide (p0 = 4)))))], []⟩ ?_ ?_
    · refine cd (fun h3 => ?_) (fun h3 => ?_)
      ·
        refine ad 1 ?_
        exact Run.at [] [] (by first | exact su | (rw [h3]; exact su)) (by decide)
      ·
        refine ad 4 ?_
        exact Run.at [] [] (by first | exact su | (rw [h3]; exact su)) (by decide)
    refine cd (fun h4 => ?_) (fun h4 => ?_)
    ·
      have hM := hM.trans (bt h4)
      refine ad 4 ?_
      exact rz (rs := [.tmp 2]) (congrArg (fun x => [Re.c (.string x)]) hM)
    ·
      have hM := hM.trans (bf h4)
      refine ad 5 ?_
      refine cd (fun h5 => ?_) (fun h5 => ?_)
      ·
        have hM := hM.trans (bt h5)
        refine ad 4 ?_
        exact rz (rs := [.tmp 2]) (congrArg (fun x => [Re.c (.string x)]) hM)
      ·
        have hM := hM.trans (bf h5)
        refine ad 5 ?_
        refine cd (fun h6 => ?_) (fun h6 => ?_)
        ·
          have hM := hM.trans (bt h6)
          refine ad 4 ?_
          exact rz (rs := [.tmp 2]) (congrArg (fun x => [Re.c (.string x)]) hM)
        ·
          have hM := hM.trans (bf h6)
          refine ad 5 ?_
          refine cd (fun h7 => ?_) (fun h7 => ?_)
          ·
            have hM := hM.trans (bt h7)
            refine ad 4 ?_
            exact rz (rs := [.tmp 2]) (congrArg (fun x => [Re.c (.string x)]) hM)
          ·
            have hM := hM.trans (bf h7)
            refine ad 6 ?_
            refine Run.mid ⟨30, 0, [(3, .v (.int .i64 p0)), (16, .v (.bool ((decide (p0 = 10)) || (decide (p0 = 20)))))], []⟩ ?_ ?_
            · refine cd (fun h8 => ?_) (fun h8 => ?_)
              ·
                refine ad 1 ?_
                exact Run.at [] [] (by first | exact su | (rw [h8]; exact su)) (by decide)
              ·
                refine ad 4 ?_
                exact Run.at [] [] (by first | exact su | (rw [h8]; exact su)) (by decide)
            refine cd (fun h9 => ?_) (fun h9 => ?_)
            ·
              have hM := hM.trans (bt h9)
              refine ad 4 ?_
              exact rz (rs := [.tmp 2]) (congrArg (fun x => [Re.c (.string x)]) hM)
            ·
              have hM := hM.trans (bf h9)
              refine ad 6 ?_
              refine Run.mid ⟨30, 0, [(3, .v (.int .i64 p0)), (19, .v (.bool ((decide (p0 = 11)) || ((decide (p0 = 13)) || ((decide (p0 = 14)) || ((decide (p0 = 18)) || ((decide (p0 = 19)) || (decide (p0 = 21)))))))))], []⟩ ?_ ?_
              · refine cd (fun h10 => ?_) (fun h10 => ?_)
                ·
                  refine ad 1 ?_
                  exact Run.at [] [] (by first | exact su | (rw [h10]; exact su)) (by decide)
                ·
                  refine ad 5 ?_
                  refine Run.mid ⟨30, 0, [(3, .v (.int .i64 p0)), (19, .v (.bool ((decide (p0 = 13)) || ((decide (p0 = 14)) || ((decide (p0 = 18)) || ((decide (p0 = 19)) || (decide (p0 = 21))))))))], []⟩ ?_ ?_
                  · refine cd (fun h11 => ?_) (fun h11 => ?_)
                    ·
                      refine ad 1 ?_
                      exact Run.at [] [] (by first | exact su | (rw [h11]; exact su)) (by decide)
                    ·
                      refine ad 5 ?_
                      refine Run.mid ⟨30, 0, [(3, .v (.int .i64 p0)), (19, .v (.bool ((decide (p0 = 14)) || ((decide (p0 = 18)) || ((decide (p0 = 19)) || (decide (p0 = 21)))))))], []⟩ ?_ ?_
                      · refine cd (fun h12 => ?_) (fun h12 => ?_)
                        ·
                          refine ad 1 ?_
                          exact Run.at [] [] (by first | exact su | (rw [h12]; exact su)) (by decide)
                        ·
                          refine ad 5 ?_
                          refine Run.mid ⟨30, 0, [(3, .v (.int .i64 p0)), (19, .v (.bool ((decide (p0 = 18)) || ((decide (p0 = 19)) || (decide (p0 = 21))))))], []⟩ ?_ ?_
                          · refine cd (fun h13 => ?_) (fun h13 => ?_)
                            ·
                              refine ad 1 ?_
                              exact Run.at [] [] (by first | exact su | (rw [h13]; exact su)) (by decide)
                            ·
                              refine ad 5 ?_
                              refine Run.mid ⟨30, 0, [(3, .v (.int .i64 p0)), (19, .v (.bool ((decide (p0 = 19)) || (decide (p0 = 21)))))], []⟩ ?_ ?_
                              · refine cd (fun h14 => ?_) (fun h14 => ?_)
                                ·
                                  refine ad 1 ?_
                                  exact Run.at [] [] (by first | exact su | (rw [h14]; exact su)) (by decide)
                                ·
                                  refine ad 4 ?_
                                  exact Run.at [] [] (by first | exact su | (rw [h14]; exact su)) (by decide)
                              exact Run.at [] [] (by first | exact su | (rw [h13]; exact su)) (by decide)
                          exact Run.at [] [] (by first | exact su | (rw [h12]; exact su)) (by decide)
                      exact Run.at [] [] (by first | exact su | (rw [h11]; exact su)) (by decide)
                  exact Run.at [] [] (by first | exact su | (rw [h10]; exact su)) (by decide)
              refine cd (fun h15 => ?_) (fun h15 => ?_)
              ·
                have hM := hM.trans (bt h15)
                refine ad 4 ?_
                exact rz (rs := [.tmp 2]) (congrArg (fun x => [Re.c (.string x)]) hM)
              ·
                have hM := hM.trans (bf h15)
                refine ad 5 ?_
                refine cd (fun h16 => ?_) (fun h16 => ?_)
                ·
                  have hM := hM.trans (bt h16)
                  refine ad 4 ?_
                  exact rz (rs := [.tmp 2]) (congrArg (fun x => [Re.c (.string x)]) hM)
                ·
                  have hM := hM.trans (bf h16)
                  refine ad 5 ?_
                  refine cd (fun h17 => ?_) (fun h17 => ?_)
                  ·
                    have hM := hM.trans (bt h17)
                    refine ad 4 ?_
                    exact rz (rs := [.tmp 2]) (congrArg (fun x => [Re.c (.string x)]) hM)
                  ·
                    have hM := hM.trans (bf h17)
                    refine ad 6 ?_
                    exact rz (rs := [.tmp 2]) (congrArg (fun x => [Re.c (.string x)]) hM)
theorem spec_l38Uses_size (p0 : Int) : (spec_l38Uses p0).size ≤ 3 := by
  unfold spec_l38Uses
  repeat' (first | refine szb ?_ ?_ | exact Nat.le_of_ble_eq_true rfl)

/- F47 loop.example/g00974/impl.CallOk -/
def impl_CallOk (p0 : Call) : Bool := (((impl_within p0.Kind 1 22) && (decide ((p0.Name.size : Int) ≤ 20))) && (decide ((p0.To.size : Int) ≤ 20))) && (decide ((p0.Text.size : Int) ≤ 64))
theorem c_impl_CallOk (p0 : Call) : CTs 47 [.o (.st Call _ inferInstance p0)] [Re.c (.bool (impl_CallOk p0))] := by
  refine en Tryd.func47 Tryd.ntmps47 fun w hG hgd => ?_
  obtain ⟨hg_p0, _⟩ := hgd
  have hM := impl_CallOk.eq_1 p0
  refine ad 9 ?_
  refine op (cl (k_impl_within p0.Kind 1 22) fok45) ?_
  refine ad 1 ?_
  refine ag 5 ?_
  refine ad 1 ?_
  refine ag 5 ?_
  refine ad 1 ?_
  refine ag 5 ?_
  refine ad 2 ?_
  exact rz (rs := [.tmp 2]) (congrArg (fun x => [Re.c (.bool x)]) hM)
theorem impl_CallOk_t {p0 : Call} (h : impl_CallOk p0 = true) : (1 ≤ p0.Kind ∧ p0.Kind ≤ 22) ∧ p0.Name.size ≤ 20 ∧ p0.To.size ≤ 20 ∧ p0.Text.size ≤ 64 := by
  unfold impl_CallOk at h
  simp only [Bool.and_eq_true, decide_eq_true_eq] at h
  obtain ⟨⟨⟨h1, h2⟩, h3⟩, h4⟩ := h
  exact ⟨impl_within_t h1, by omega, by omega, by omega⟩

/- F50 loop.example/g00974/spec.CallOk -/
def spec_CallOk (p0 : Call) : Bool := (((spec_l01In p0.Kind 1 22) && (decide ((p0.Name.size : Int) ≤ 20))) && (decide ((p0.To.size : Int) ≤ 20))) && (decide ((p0.Text.size : Int) ≤ 64))
theorem c_spec_CallOk (p0 : Call) : CTs 50 [.o (.st Call _ inferInstance p0)] [Re.c (.bool (spec_CallOk p0))] := by
  refine en Tryd.func50 Tryd.ntmps50 fun w hG hgd => ?_
  obtain ⟨hg_p0, _⟩ := hgd
  have hM := spec_CallOk.eq_1 p0
  refine ad 9 ?_
  refine op (cl (k_spec_l01In p0.Kind 1 22) fok46) ?_
  refine ad 1 ?_
  refine ag 5 ?_
  refine ad 1 ?_
  refine ag 5 ?_
  refine ad 1 ?_
  refine ag 5 ?_
  refine ad 2 ?_
  exact rz (rs := [.tmp 2]) (congrArg (fun x => [Re.c (.bool x)]) hM)
theorem spec_CallOk_t {p0 : Call} (h : spec_CallOk p0 = true) : (1 ≤ p0.Kind ∧ p0.Kind ≤ 22) ∧ p0.Name.size ≤ 20 ∧ p0.To.size ≤ 20 ∧ p0.Text.size ≤ 64 := by
  unfold spec_CallOk at h
  simp only [Bool.and_eq_true, decide_eq_true_eq] at h
  obtain ⟨⟨⟨h1, h2⟩, h3⟩, h4⟩ := h
  exact ⟨spec_l01In_t h1, by omega, by omega, by omega⟩

/- F35 loop.example/g00974/impl.CallName -/
def impl_CallName (p0 : Int) : ByteArray := bif !(impl_within p0 1 22) then ⟨#[63]⟩ else (nth gl1 ((IntKind.i64.wrap (p0 - 1)).toNat))
theorem c_impl_CallName (p0 : Int) : CTs 35 [.o (.c (.int .i64 p0))] [Re.c (.string (impl_CallName p0))] := by
  refine en Tryd.func35 Tryd.ntmps35 fun w hG hgd => ?_
  have hM := impl_CallName.eq_1 p0
  refine ad 8 ?_
  refine op (cl (k_impl_within p0 1 22) fok45) ?_
  refine ad 2 ?_
  refine cd (fun h1 => ?_) (fun h1 => ?_)
  ·
    have hM := hM.trans (bt h1)
    refine ad 4 ?_
    exact rz (rs := [.tmp 2]) (congrArg (fun x => [Re.c (.string x)]) hM)
  ·
    have hM := hM.trans (bf h1)
    have th1 := impl_within_t (by simpa using h1)
    refine ad 5 ?_
    refine op (gx (len := 22) (e := 9) Value.string gl1 ((IntKind.i64.wrap (p0 - 1)).toNat) Gl1 (show ((IntKind.i64.wrap (p0 - 1)).toNat) < 22 from om) (hi := om)) ?_
    refine ad 3 ?_
    exact rz (rs := [.tmp 2]) (congrArg (fun x => [Re.c (.string x)]) hM)
theorem nth_szs {xs : List ByteArray} {n : Nat} (h : xs.all (fun s => Nat.ble s.size n) = true) (k : Nat) : (nth xs k).size ≤ n := nth_size h k
theorem impl_CallName_size (p0 : Int) : (impl_CallName p0).size ≤ 10 := by
  unfold impl_CallName
  exact szb (Nat.le_of_ble_eq_true rfl) (nth_szs (by decide) _)

/- F53 loop.example/g00974/spec.CallName -/
def spec_CallName (p0 : Int) : ByteArray := bif !(spec_l01In p0 1 22) then ⟨#[63]⟩ else (nth ([⟨#[]⟩, ⟨#[109, 97, 107, 101]⟩, ⟨#[108, 105, 110, 107]⟩, ⟨#[117, 110, 108, 105, 110, 107]⟩, ⟨#[114, 101, 110, 97, 109, 101]⟩, ⟨#[110, 97, 109, 101, 115]⟩, ⟨#[114, 101, 97, 100]⟩, ⟨#[119, 114, 105, 116, 101]⟩, ⟨#[99, 117, 116]⟩, ⟨#[112, 105, 112, 101]⟩, ⟨#[112, 117, 116]⟩, ⟨#[116, 97, 107, 101]⟩, ⟨#[115, 112, 97, 119, 110]⟩, ⟨#[101, 110, 100]⟩, ⟨#[114, 101, 97, 112]⟩, ⟨#[107, 105, 100, 115]⟩, ⟨#[115, 101, 110, 100]⟩, ⟨#[115, 105, 103, 110, 97, 108]⟩, ⟨#[116, 105, 109, 101, 114]⟩, ⟨#[116, 105, 99, 107]⟩, ⟨#[115, 116, 111, 114, 101]⟩, ⟨#[108, 111, 97, 100]⟩, ⟨#[111, 117, 116]⟩] : List ByteArray) p0.toNat)
theorem c_spec_CallName (p0 : Int) : CTs 53 [.o (.c (.int .i64 p0))] [Re.c (.string (spec_CallName p0))] := by
  refine en Tryd.func53 Tryd.ntmps53 fun w hG hgd => ?_
  have hM := spec_CallName.eq_1 p0
  refine ad 8 ?_
  refine op (cl (k_spec_l01In p0 1 22) fok46) ?_
  refine ad 2 ?_
  refine cd (fun h1 => ?_) (fun h1 => ?_)
  ·
    have hM := hM.trans (bt h1)
    refine ad 4 ?_
    exact rz (rs := [.tmp 2]) (congrArg (fun x => [Re.c (.string x)]) hM)
  ·
    have hM := hM.trans (bf h1)
    have th1 := spec_l01In_t (by simpa using h1)
    refine ad 5 ?_
    refine li 0 (d := instDatByteArray) ([⟨#[]⟩, ⟨#[109, 97, 107, 101]⟩, ⟨#[108, 105, 110, 107]⟩, ⟨#[117, 110, 108, 105, 110, 107]⟩, ⟨#[114, 101, 110, 97, 109, 101]⟩, ⟨#[110, 97, 109, 101, 115]⟩, ⟨#[114, 101, 97, 100]⟩, ⟨#[119, 114, 105, 116, 101]⟩, ⟨#[99, 117, 116]⟩, ⟨#[112, 105, 112, 101]⟩, ⟨#[112, 117, 116]⟩, ⟨#[116, 97, 107, 101]⟩, ⟨#[115, 112, 97, 119, 110]⟩, ⟨#[101, 110, 100]⟩, ⟨#[114, 101, 97, 112]⟩, ⟨#[107, 105, 100, 115]⟩, ⟨#[115, 101, 110, 100]⟩, ⟨#[115, 105, 103, 110, 97, 108]⟩, ⟨#[116, 105, 109, 101, 114]⟩, ⟨#[116, 105, 99, 107]⟩, ⟨#[115, 116, 111, 114, 101]⟩, ⟨#[108, 111, 97, 100]⟩, ⟨#[111, 117, 116]⟩] : List ByteArray) ?_
    refine fz 0 ?_
    refine op (ix (xs := ([⟨#[]⟩, ⟨#[109, 97, 107, 101]⟩, ⟨#[108, 105, 110, 107]⟩, ⟨#[117, 110, 108, 105, 110, 107]⟩, ⟨#[114, 101, 110, 97, 109, 101]⟩, ⟨#[110, 97, 109, 101, 115]⟩, ⟨#[114, 101, 97, 100]⟩, ⟨#[119, 114, 105, 116, 101]⟩, ⟨#[99, 117, 116]⟩, ⟨#[112, 105, 112, 101]⟩, ⟨#[112, 117, 116]⟩, ⟨#[116, 97, 107, 101]⟩, ⟨#[115, 112, 97, 119, 110]⟩, ⟨#[101, 110, 100]⟩, ⟨#[114, 101, 97, 112]⟩, ⟨#[107, 105, 100, 115]⟩, ⟨#[115, 101, 110, 100]⟩, ⟨#[115, 105, 103, 110, 97, 108]⟩, ⟨#[116, 105, 109, 101, 114]⟩, ⟨#[116, 105, 99, 107]⟩, ⟨#[115, 116, 111, 114, 101]⟩, ⟨#[108, 111, 97, 100]⟩, ⟨#[111, 117, 116]⟩] : List ByteArray)) p0.toNat (show p0.toNat < 23 from om) (hi := om)) ?_
    refine ad 3 ?_
    exact rz (rs := [.tmp 2]) (congrArg (fun x => [Re.c (.string x)]) hM)
theorem spec_CallName_size (p0 : Int) : (spec_CallName p0).size ≤ 10 := by
  unfold spec_CallName
  exact szb (Nat.le_of_ble_eq_true rfl) (nth_szs (by decide) _)

/- F32 loop.example/g00974/impl.Told -/
def impl_Told_l1 (p0 : Call) : Nat → ByteArray → ByteArray → Int → Int → ByteArray → Nat → Call
  | 0, c2_1, c2_2, c2_3, c2_4, c2_5, i => (Call.mk p0.Kind c2_1 c2_2 c2_3 c2_4 c2_5)
  | n + 1, c2_1, c2_2, c2_3, c2_4, c2_5, i => impl_Told_l1 p0 n (bif (decide (((byteAt (impl_fieldsOf p0.Kind) i).toNat : Int) = 78)) then p0.Name else c2_1) (bif (decide (((byteAt (impl_fieldsOf p0.Kind) i).toNat : Int) = 78)) then c2_2 else (bif (decide (((byteAt (impl_fieldsOf p0.Kind) i).toNat : Int) = 84)) then p0.To else c2_2)) (bif (decide (((byteAt (impl_fieldsOf p0.Kind) i).toNat : Int) = 78)) then c2_3 else (bif (decide (((byteAt (impl_fieldsOf p0.Kind) i).toNat : Int) = 84)) then c2_3 else (bif (decide (((byteAt (impl_fieldsOf p0.Kind) i).toNat : Int) = 65)) then p0.A else c2_3))) (bif (decide (((byteAt (impl_fieldsOf p0.Kind) i).toNat : Int) = 78)) then c2_4 else (bif (decide (((byteAt (impl_fieldsOf p0.Kind) i).toNat : Int) = 84)) then c2_4 else (bif (decide (((byteAt (impl_fieldsOf p0.Kind) i).toNat : Int) = 65)) then c2_4 else (bif (decide (((byteAt (impl_fieldsOf p0.Kind) i).toNat : Int) = 66)) then p0.B else c2_4)))) (bif (decide (((byteAt (impl_fieldsOf p0.Kind) i).toNat : Int) = 78)) then c2_5 else (bif (decide (((byteAt (impl_fieldsOf p0.Kind) i).toNat : Int) = 84)) then c2_5 else (bif (decide (((byteAt (impl_fieldsOf p0.Kind) i).toNat : Int) = 65)) then c2_5 else (bif (decide (((byteAt (impl_fieldsOf p0.Kind) i).toNat : Int) = 66)) then c2_5 else (bif (decide (((byteAt (impl_fieldsOf p0.Kind) i).toNat : Int) = 88)) then p0.Text else c2_5))))) (i + 1)
def impl_Told (p0 : Call) : Call := impl_Told_l1 p0 (((impl_fieldsOf p0.Kind).size) - 0) ⟨#[]⟩ ⟨#[]⟩ 0 0 ⟨#[]⟩ 0
theorem c_impl_Told (p0 : Call) : CTs 32 [.o (.st Call _ inferInstance p0)] [Re.st Call _ inferInstance (impl_Told p0)] := by
  refine en Tryd.func32 Tryd.ntmps32 fun w hG hgd => ?_
  obtain ⟨hg_p0, _⟩ := hgd
  have hM := impl_Told.eq_1 p0
  refine ad 18 ?_
  refine op (cl (c_impl_fieldsOf p0.Kind) fok48) ?_
  refine op (rg) ?_
  refine ad 2 ?_
  refine Run.loopM (ι := ByteArray × ByteArray × Int × Int × ByteArray × Nat) (fun s => impl_Told_l1 p0 (((impl_fieldsOf p0.Kind).size) - s.2.2.2.2.2) s.1 s.2.1 s.2.2.1 s.2.2.2.1 s.2.2.2.2.1 s.2.2.2.2.2) (fun s => ⟨43, 4, [(1, .pt 0 0), (2, .pt 1 0), (3, .pt 2 0), (12, .pt 3 0)], [(0, .var [.v (.int .i64 p0.Kind), .v (.string p0.Name), .v (.string p0.To), .v (.int .i64 p0.A), .v (.int .i64 p0.B), .v (.string p0.Text)] 28), (1, .var [.v (.int .i64 0), .v (.string ⟨#[]⟩), .v (.string ⟨#[]⟩), .v (.int .i64 0), .v (.int .i64 0), .v (.string ⟨#[]⟩)] 28), (2, .var [.v (.int .i64 p0.Kind), .v (.string s.1), .v (.string s.2.1), .v (.int .i64 s.2.2.1), .v (.int .i64 s.2.2.2.1), .v (.string s.2.2.2.2.1)] 28), (3, .itr (impl_fieldsOf p0.Kind) s.2.2.2.2.2)]⟩) (fun s => s.2.2.2.2.2 ≤ (impl_fieldsOf p0.Kind).size ∧ s.1.size ≤ maxLen ∧ s.2.1.size ≤ maxLen ∧ I64 s.2.2.1 ∧ I64 s.2.2.2.1 ∧ s.2.2.2.2.1.size ≤ maxLen) (fun s => ((impl_fieldsOf p0.Kind).size) - s.2.2.2.2.2) (⟨#[]⟩, ⟨#[]⟩, 0, 0, ⟨#[]⟩, 0) [0, 1, 2, 3] [3, 2, 1, 0] hM (by exact ⟨by (try dsimp only); first | omega | exact trivial, (gs ⟨#[]⟩), (gs ⟨#[]⟩), (gi 0), (gi 0), (gs ⟨#[]⟩)⟩) su (by decide) ?_
  rintro ⟨c2_1, c2_2, c2_3, c2_4, c2_5, i⟩ hv hE
  try dsimp only at hE
  obtain ⟨hi, hg_c2_1, hg_c2_2, hg_c2_3, hg_c2_4, hg_c2_5⟩ := hv
  try dsimp only at hi hg_c2_1 hg_c2_2 hg_c2_3 hg_c2_4 hg_c2_5
  refine ad 2 ?_
  refine nx (fun h1 => ?_) (fun h1 => ?_) (asc_impl_fieldsOf p0.Kind)
  ·
    have hM := hE.trans ((congrArg (fun n => impl_Told_l1 p0 n c2_1 c2_2 c2_3 c2_4 c2_5 i) (show ((impl_fieldsOf p0.Kind).size) - i = (((impl_fieldsOf p0.Kind).size) - (i + 1)) + 1 by omega)).trans (impl_Told_l1.eq_2 _ _ _ _ _ _ _ _))
    refine ad 21 ?_
    refine Run.mid ⟨43, 4, [(1, .pt 0 0), (2, .pt 1 0), (3, .pt 2 0), (12, .pt 3 0)], [(0, .var [.v (.int .i64 p0.Kind), .v (.string p0.Name), .v (.string p0.To), .v (.int .i64 p0.A), .v (.int .i64 p0.B), .v (.string p0.Text)] 28), (1, .var [.v (.int .i64 0), .v (.string ⟨#[]⟩), .v (.string ⟨#[]⟩), .v (.int .i64 0), .v (.int .i64 0), .v (.string ⟨#[]⟩)] 28), (2, .var [.v (.int .i64 p0.Kind), .v (.string (bif (decide (((byteAt (impl_fieldsOf p0.Kind) i).toNat : Int) = 78)) then p0.Name else c2_1)), .v (.string (bif (decide (((byteAt (impl_fieldsOf p0.Kind) i).toNat : Int) = 78)) then c2_2 else (bif (decide (((byteAt (impl_fieldsOf p0.Kind) i).toNat : Int) = 84)) then p0.To else c2_2))), .v (.int .i64 (bif (decide (((byteAt (impl_fieldsOf p0.Kind) i).toNat : Int) = 78)) then c2_3 else (bif (decide (((byteAt (impl_fieldsOf p0.Kind) i).toNat : Int) = 84)) then c2_3 else (bif (decide (((byteAt (impl_fieldsOf p0.Kind) i).toNat : Int) = 65)) then p0.A else c2_3)))), .v (.int .i64 (bif (decide (((byteAt (impl_fieldsOf p0.Kind) i).toNat : Int) = 78)) then c2_4 else (bif (decide (((byteAt (impl_fieldsOf p0.Kind) i).toNat : Int) = 84)) then c2_4 else (bif (decide (((byteAt (impl_fieldsOf p0.Kind) i).toNat : Int) = 65)) then c2_4 else (bif (decide (((byteAt (impl_fieldsOf p0.Kind) i).toNat : Int) = 66)) then p0.B else c2_4))))), .v (.string (bif (decide (((byteAt (impl_fieldsOf p0.Kind) i).toNat : Int) = 78)) then c2_5 else (bif (decide (((byteAt (impl_fieldsOf p0.Kind) i).toNat : Int) = 84)) then c2_5 else (bif (decide (((byteAt (impl_fieldsOf p0.Kind) i).toNat : Int) = 65)) then c2_5 else (bif (decide (((byteAt (impl_fieldsOf p0.Kind) i).toNat : Int) = 66)) then c2_5 else (bif (decide (((byteAt (impl_fieldsOf p0.Kind) i).toNat : Int) = 88)) then p0.Text else c2_5))))))] 28), (3, .itr (impl_fieldsOf p0.Kind) (i + 1))]⟩ ?_ ?_
    · refine cd (fun h2 => ?_) (fun h2 => ?_)
      ·
        refine ad 6 ?_
        exact Run.at [0, 1, 2, 3] [0, 1, 2, 3] (by first | exact su | (rw [h2]; exact su)) (by decide)
      ·
        refine ad 5 ?_
        refine Run.mid ⟨43, 4, [(1, .pt 0 0), (2, .pt 1 0), (3, .pt 2 0), (12, .pt 3 0)], [(0, .var [.v (.int .i64 p0.Kind), .v (.string p0.Name), .v (.string p0.To), .v (.int .i64 p0.A), .v (.int .i64 p0.B), .v (.string p0.Text)] 28), (1, .var [.v (.int .i64 0), .v (.string ⟨#[]⟩), .v (.string ⟨#[]⟩), .v (.int .i64 0), .v (.int .i64 0), .v (.string ⟨#[]⟩)] 28), (2, .var [.v (.int .i64 p0.Kind), .v (.string c2_1), .v (.string (bif (decide (((byteAt (impl_fieldsOf p0.Kind) i).toNat : Int) = 84)) then p0.To else c2_2)), .v (.int .i64 (bif (decide (((byteAt (impl_fieldsOf p0.Kind) i).toNat : Int) = 84)) then c2_3 else (bif (decide (((byteAt (impl_fieldsOf p0.Kind) i).toNat : Int) = 65)) then p0.A else c2_3))), .v (.int .i64 (bif (decide (((byteAt (impl_fieldsOf p0.Kind) i).toNat : Int) = 84)) then c2_4 else (bif (decide (((byteAt (impl_fieldsOf p0.Kind) i).toNat : Int) = 65)) then c2_4 else (bif (decide (((byteAt (impl_fieldsOf p0.Kind) i).toNat : Int) = 66)) then p0.B else c2_4)))), .v (.string (bif (decide (((byteAt (impl_fieldsOf p0.Kind) i).toNat : Int) = 84)) then c2_5 else (bif (decide (((byteAt (impl_fieldsOf p0.Kind) i).toNat : Int) = 65)) then c2_5 else (bif (decide (((byteAt (impl_fieldsOf p0.Kind) i).toNat : Int) = 66)) then c2_5 else (bif (decide (((byteAt (impl_fieldsOf p0.Kind) i).toNat : Int) = 88)) then p0.Text else c2_5)))))] 28), (3, .itr (impl_fieldsOf p0.Kind) (i + 1))]⟩ ?_ ?_
        · refine cd (fun h3 => ?_) (fun h3 => ?_)
          ·
            refine ad 6 ?_
            exact Run.at [0, 1, 2, 3] [0, 1, 2, 3] (by first | exact su | (rw [h3]; exact su)) (by decide)
          ·
            refine ad 5 ?_
            refine Run.mid ⟨43, 4, [(1, .pt 0 0), (2, .pt 1 0), (3, .pt 2 0), (12, .pt 3 0)], [(0, .var [.v (.int .i64 p0.Kind), .v (.string p0.Name), .v (.string p0.To), .v (.int .i64 p0.A), .v (.int .i64 p0.B), .v (.string p0.Text)] 28), (1, .var [.v (.int .i64 0), .v (.string ⟨#[]⟩), .v (.string ⟨#[]⟩), .v (.int .i64 0), .v (.int .i64 0), .v (.string ⟨#[]⟩)] 28), (2, .var [.v (.int .i64 p0.Kind), .v (.string c2_1), .v (.string c2_2), .v (.int .i64 (bif (decide (((byteAt (impl_fieldsOf p0.Kind) i).toNat : Int) = 65)) then p0.A else c2_3)), .v (.int .i64 (bif (decide (((byteAt (impl_fieldsOf p0.Kind) i).toNat : Int) = 65)) then c2_4 else (bif (decide (((byteAt (impl_fieldsOf p0.Kind) i).toNat : Int) = 66)) then p0.B else c2_4))), .v (.string (bif (decide (((byteAt (impl_fieldsOf p0.Kind) i).toNat : Int) = 65)) then c2_5 else (bif (decide (((byteAt (impl_fieldsOf p0.Kind) i).toNat : Int) = 66)) then c2_5 else (bif (decide (((byteAt (impl_fieldsOf p0.Kind) i).toNat : Int) = 88)) then p0.Text else c2_5))))] 28), (3, .itr (impl_fieldsOf p0.Kind) (i + 1))]⟩ ?_ ?_
            · refine cd (fun h4 => ?_) (fun h4 => ?_)
              ·
                refine ad 6 ?_
                exact Run.at [0, 1, 2, 3] [0, 1, 2, 3] (by first | exact su | (rw [h4]; exact su)) (by decide)
              ·
                refine ad 5 ?_
                refine Run.mid ⟨43, 4, [(1, .pt 0 0), (2, .pt 1 0), (3, .pt 2 0), (12, .pt 3 0)], [(0, .var [.v (.int .i64 p0.Kind), .v (.string p0.Name), .v (.string p0.To), .v (.int .i64 p0.A), .v (.int .i64 p0.B), .v (.string p0.Text)] 28), (1, .var [.v (.int .i64 0), .v (.string ⟨#[]⟩), .v (.string ⟨#[]⟩), .v (.int .i64 0), .v (.int .i64 0), .v (.string ⟨#[]⟩)] 28), (2, .var [.v (.int .i64 p0.Kind), .v (.string c2_1), .v (.string c2_2), .v (.int .i64 c2_3), .v (.int .i64 (bif (decide (((byteAt (impl_fieldsOf p0.Kind) i).toNat : Int) = 66)) then p0.B else c2_4)), .v (.string (bif (decide (((byteAt (impl_fieldsOf p0.Kind) i).toNat : Int) = 66)) then c2_5 else (bif (decide (((byteAt (impl_fieldsOf p0.Kind) i).toNat : Int) = 88)) then p0.Text else c2_5)))] 28), (3, .itr (impl_fieldsOf p0.Kind) (i + 1))]⟩ ?_ ?_
                · refine cd (fun h5 => ?_) (fun h5 => ?_)
                  ·
                    refine ad 6 ?_
                    exact Run.at [0, 1, 2, 3] [0, 1, 2, 3] (by first | exact su | (rw [h5]; exact su)) (by decide)
                  ·
                    refine ad 5 ?_
                    refine Run.mid ⟨43, 4, [(1, .pt 0 0), (2, .pt 1 0), (3, .pt 2 0), (12, .pt 3 0)], [(0, .var [.v (.int .i64 p0.Kind), .v (.string p0.Name), .v (.string p0.To), .v (.int .i64 p0.A), .v (.int .i64 p0.B), .v (.string p0.Text)] 28), (1, .var [.v (.int .i64 0), .v (.string ⟨#[]⟩), .v (.string ⟨#[]⟩), .v (.int .i64 0), .v (.int .i64 0), .v (.string ⟨#[]⟩)] 28), (2, .var [.v (.int .i64 p0.Kind), .v (.string c2_1), .v (.string c2_2), .v (.int .i64 c2_3), .v (.int .i64 c2_4), .v (.string (bif (decide (((byteAt (impl_fieldsOf p0.Kind) i).toNat : Int) = 88)) then p0.Text else c2_5))] 28), (3, .itr (impl_fieldsOf p0.Kind) (i + 1))]⟩ ?_ ?_
                    · refine cd (fun h6 => ?_) (fun h6 => ?_)
                      ·
                        refine ad 6 ?_
                        exact Run.at [0, 1, 2, 3] [0, 1, 2, 3] (by first | exact su | (rw [h6]; exact su)) (by decide)
                      ·
                        refine ad 1 ?_
                        exact Run.at [0, 1, 2, 3] [0, 1, 2, 3] (by first | exact su | (rw [h6]; exact su)) (by decide)
                    exact Run.at [0, 1, 2, 3] [0, 1, 2, 3] (by first | exact su | (rw [h5]; exact su)) (by decide)
                exact Run.at [0, 1, 2, 3] [0, 1, 2, 3] (by first | exact su | (rw [h4]; exact su)) (by decide)
            exact Run.at [0, 1, 2, 3] [0, 1, 2, 3] (by first | exact su | (rw [h3]; exact su)) (by decide)
        exact Run.at [0, 1, 2, 3] [0, 1, 2, 3] (by first | exact su | (rw [h2]; exact su)) (by decide)
    refine ad 2 ?_
    exact Run.again (bif (decide (((byteAt (impl_fieldsOf p0.Kind) i).toNat : Int) = 78)) then p0.Name else c2_1, bif (decide (((byteAt (impl_fieldsOf p0.Kind) i).toNat : Int) = 78)) then c2_2 else (bif (decide (((byteAt (impl_fieldsOf p0.Kind) i).toNat : Int) = 84)) then p0.To else c2_2), bif (decide (((byteAt (impl_fieldsOf p0.Kind) i).toNat : Int) = 78)) then c2_3 else (bif (decide (((byteAt (impl_fieldsOf p0.Kind) i).toNat : Int) = 84)) then c2_3 else (bif (decide (((byteAt (impl_fieldsOf p0.Kind) i).toNat : Int) = 65)) then p0.A else c2_3)), bif (decide (((byteAt (impl_fieldsOf p0.Kind) i).toNat : Int) = 78)) then c2_4 else (bif (decide (((byteAt (impl_fieldsOf p0.Kind) i).toNat : Int) = 84)) then c2_4 else (bif (decide (((byteAt (impl_fieldsOf p0.Kind) i).toNat : Int) = 65)) then c2_4 else (bif (decide (((byteAt (impl_fieldsOf p0.Kind) i).toNat : Int) = 66)) then p0.B else c2_4))), bif (decide (((byteAt (impl_fieldsOf p0.Kind) i).toNat : Int) = 78)) then c2_5 else (bif (decide (((byteAt (impl_fieldsOf p0.Kind) i).toNat : Int) = 84)) then c2_5 else (bif (decide (((byteAt (impl_fieldsOf p0.Kind) i).toNat : Int) = 65)) then c2_5 else (bif (decide (((byteAt (impl_fieldsOf p0.Kind) i).toNat : Int) = 66)) then c2_5 else (bif (decide (((byteAt (impl_fieldsOf p0.Kind) i).toNat : Int) = 88)) then p0.Text else c2_5)))), (i + 1)) [0, 1, 2, 3] [0, 1, 2, 3] ⟨by exact ⟨by (try dsimp only); first | omega | exact trivial, (bifS hg_p0.2.1 hg_c2_1), (bifS hg_c2_2 (bifS hg_p0.2.2.1 hg_c2_2)), (bifI hg_c2_3 (bifI hg_c2_3 (bifI hg_p0.2.2.2.1 hg_c2_3))), (bifI hg_c2_4 (bifI hg_c2_4 (bifI hg_c2_4 (bifI hg_p0.2.2.2.2.1 hg_c2_4)))), (bifS hg_c2_5 (bifS hg_c2_5 (bifS hg_c2_5 (bifS hg_c2_5 (bifS hg_p0.2.2.2.2.2 hg_c2_5)))))⟩, hM⟩ rfl (by show _ - _ < _ - _; (try dsimp only); omega) su (by decide)
  ·
    have hM := hE.trans ((congrArg (fun n => impl_Told_l1 p0 n c2_1 c2_2 c2_3 c2_4 c2_5 i) (show ((impl_fieldsOf p0.Kind).size) - i = 0 by omega)).trans (impl_Told_l1.eq_1 _ _ _ _ _ _ _))
    refine ad 10 ?_
    have hg7 : Dat.good (Call.mk p0.Kind c2_1 c2_2 c2_3 c2_4 c2_5 : Call) := ⟨hg_p0.1, hg_c2_1, hg_c2_2, hg_c2_3, hg_c2_4, hg_c2_5⟩
    exact rz (rs := [.cell 2 28]) (congrArg (fun x => [Re.st Call _ inferInstance x]) hM)

/- F51 loop.example/g00974/spec.Told -/
def spec_Told (p0 : Call) : Call := (Call.mk p0.Kind (bif ((decide (p0.Kind = 1)) || ((decide (p0.Kind = 3)) || ((decide (p0.Kind = 2)) || ((decide (p0.Kind = 4)) || ((decide (p0.Kind = 6)) || ((decide (p0.Kind = 7)) || (decide (p0.Kind = 8)))))))) then p0.Name else ⟨#[]⟩) (bif ((decide (p0.Kind = 2)) || (decide (p0.Kind = 4))) then p0.To else ⟨#[]⟩) (bif ((decide (p0.Kind = 2)) || (decide (p0.Kind = 4))) then 0 else (bif ((decide (p0.Kind = 6)) || (decide (p0.Kind = 16))) then p0.A else (bif ((decide (p0.Kind = 8)) || ((decide (p0.Kind = 11)) || ((decide (p0.Kind = 13)) || ((decide (p0.Kind = 14)) || ((decide (p0.Kind = 18)) || ((decide (p0.Kind = 19)) || (decide (p0.Kind = 21)))))))) then p0.A else (bif ((decide (p0.Kind = 7)) || ((decide (p0.Kind = 10)) || (decide (p0.Kind = 20)))) then p0.A else 0)))) (bif ((decide (p0.Kind = 2)) || (decide (p0.Kind = 4))) then 0 else (bif ((decide (p0.Kind = 6)) || (decide (p0.Kind = 16))) then p0.B else 0)) (bif ((decide (p0.Kind = 2)) || (decide (p0.Kind = 4))) then ⟨#[]⟩ else (bif ((decide (p0.Kind = 6)) || (decide (p0.Kind = 16))) then ⟨#[]⟩ else (bif ((decide (p0.Kind = 8)) || ((decide (p0.Kind = 11)) || ((decide (p0.Kind = 13)) || ((decide (p0.Kind = 14)) || ((decide (p0.Kind = 18)) || ((decide (p0.Kind = 19)) || (decide (p0.Kind = 21)))))))) then ⟨#[]⟩ else (bif ((decide (p0.Kind = 7)) || ((decide (p0.Kind = 10)) || (decide (p0.Kind = 20)))) then p0.Text else (bif (decide (p0.Kind = 22)) then p0.Text else ⟨#[]⟩))))))
theorem c_spec_Told (p0 : Call) : CTs 51 [.o (.st Call _ inferInstance p0)] [Re.st Call _ inferInstance (spec_Told p0)] := by
  refine en Tryd.func51 Tryd.ntmps51 fun w hG hgd => ?_
  obtain ⟨hg_p0, _⟩ := hgd
  have hM := spec_Told.eq_1 p0
  refine ad 26 ?_
  refine Run.mid ⟨64, 3, [(1, .pt 0 0), (2, .pt 1 0), (3, .pt 2 0), (9, .v (.bool ((decide (p0.Kind = 1)) || ((decide (p0.Kind = 3)) || ((decide (p0.Kind = 2)) || ((decide (p0.Kind = 4)) || ((decide (p0.Kind = 6)) || ((decide (p0.Kind = 7)) || (decide (p0.Kind = 8))))))))))], [(0, .var [.v (.int .i64 p0.Kind), .v (.string p0.Name), .v (.string p0.To), .v (.int .i64 p0.A), .v (.int .i64 p0.B), .v (.string p0.Text)] 28), (1, .var [.v (.int .i64 0), .v (.string ⟨#[]⟩), .v (.string ⟨#[]⟩), .v (.int .i64 0), .v (.int .i64 0), .v (.string ⟨#[]⟩)] 28), (2, .var [.v (.int .i64 p0.Kind), .v (.string ⟨#[]⟩), .v (.string ⟨#[]⟩), .v (.int .i64 0), .v (.int .i64 0), .v (.string ⟨#[]⟩)] 28)]⟩ ?_ ?_
  · refine cd (fun h1 => ?_) (fun h1 => ?_)
    ·
      refine ad 1 ?_
      exact Run.at [0, 1, 2] [2, 1, 0] (by first | exact su | (rw [h1]; exact su)) (by decide)
    ·
      refine ad 5 ?_
      refine Run.mid ⟨64, 3, [(1, .pt 0 0), (2, .pt 1 0), (3, .pt 2 0), (9, .v (.bool ((decide (p0.Kind = 3)) || ((decide (p0.Kind = 2)) || ((decide (p0.Kind = 4)) || ((decide (p0.Kind = 6)) || ((decide (p0.Kind = 7)) || (decide (p0.Kind = 8)))))))))], [(0, .var [.v (.int .i64 p0.Kind), .v (.string p0.Name), .v (.string p0.To), .v (.int .i64 p0.A), .v (.int .i64 p0.B), .v (.string p0.Text)] 28), (1, .var [.v (.int .i64 0), .v (.string ⟨#[]⟩), .v (.string ⟨#[]⟩), .v (.int .i64 0), .v (.int .i64 0), .v (.string ⟨#[]⟩)] 28), (2, .var [.v (.int .i64 p0.Kind), .v (.string ⟨#[]⟩), .v (.string ⟨#[]⟩), .v (.int .i64 0), .v (.int .i64 0), .v (.string ⟨#[]⟩)] 28)]⟩ ?_ ?_
      · refine cd (fun h2 => ?_) (fun h2 => ?_)
        ·
          refine ad 1 ?_
          exact Run.at [0, 1, 2] [2, 1, 0] (by first | exact su | (rw [h2]; exact su)) (by decide)
        ·
          refine ad 5 ?_
          refine Run.mid ⟨64, 3, [(1, .pt 0 0), (2, .pt 1 0), (3, .pt 2 0), (9, .v (.bool ((decide (p0.Kind = 2)) || ((decide (p0.Kind = 4)) || ((decide (p0.Kind = 6)) || ((decide (p0.Kind = 7)) || (decide (p0.Kind = 8))))))))], [(0, .var [.v (.int .i64 p0.Kind), .v (.string p0.Name), .v (.string p0.To), .v (.int .i64 p0.A), .v (.int .i64 p0.B), .v (.string p0.Text)] 28), (1, .var [.v (.int .i64 0), .v (.string ⟨#[]⟩), .v (.string ⟨#[]⟩), .v (.int .i64 0), .v (.int .i64 0), .v (.string ⟨#[]⟩)] 28), (2, .var [.v (.int .i64 p0.Kind), .v (.string ⟨#[]⟩), .v (.string ⟨#[]⟩), .v (.int .i64 0), .v (.int .i64 0), .v (.string ⟨#[]⟩)] 28)]⟩ ?_ ?_
          · refine cd (fun h3 => ?_) (fun h3 => ?_)
            ·
              refine ad 1 ?_
              exact Run.at [0, 1, 2] [2, 1, 0] (by first | exact su | (rw [h3]; exact su)) (by decide)
            ·
              refine ad 5 ?_
              refine Run.mid ⟨64, 3, [(1, .pt 0 0), (2, .pt 1 0), (3, .pt 2 0), (9, .v (.bool ((decide (p0.Kind = 4)) || ((decide (p0.Kind = 6)) || ((decide (p0.Kind = 7)) || (decide (p0.Kind = 8)))))))], [(0, .var [.v (.int .i64 p0.Kind), .v (.string p0.Name), .v (.string p0.To), .v (.int .i64 p0.A), .v (.int .i64 p0.B), .v (.string p0.Text)] 28), (1, .var [.v (.int .i64 0), .v (.string ⟨#[]⟩), .v (.string ⟨#[]⟩), .v (.int .i64 0), .v (.int .i64 0), .v (.string ⟨#[]⟩)] 28), (2, .var [.v (.int .i64 p0.Kind), .v (.string ⟨#[]⟩), .v (.string ⟨#[]⟩), .v (.int .i64 0), .v (.int .i64 0), .v (.string ⟨#[]⟩)] 28)]⟩ ?_ ?_
              · refine cd (fun h4 => ?_) (fun h4 => ?_)
                ·
                  refine ad 1 ?_
                  exact Run.at [0, 1, 2] [2, 1, 0] (by first | exact su | (rw [h4]; exact su)) (by decide)
                ·
                  refine ad 5 ?_
                  refine Run.mid ⟨64, 3, [(1, .pt 0 0), (2, .pt 1 0), (3, .pt 2 0), (9, .v (.bool ((decide (p0.Kind = 6)) || ((decide (p0.Kind = 7)) || (decide (p0.Kind = 8))))))], [(0, .var [.v (.int .i64 p0.Kind), .v (.string p0.Name), .v (.string p0.To), .v (.int .i64 p0.A), .v (.int .i64 p0.B), .v (.string p0.Text)] 28), (1, .var [.v (.int .i64 0), .v (.string ⟨#[]⟩), .v (.string ⟨#[]⟩), .v (.int .i64 0), .v (.int .i64 0), .v (.string ⟨#[]⟩)] 28), (2, .var [.v (.int .i64 p0.Kind), .v (.string ⟨#[]⟩), .v (.string ⟨#[]⟩), .v (.int .i64 0), .v (.int .i64 0), .v (.string ⟨#[]⟩)] 28)]⟩ ?_ ?_
                  · refine cd (fun h5 => ?_) (fun h5 => ?_)
                    ·
                      refine ad 1 ?_
                      exact Run.at [0, 1, 2] [2, 1, 0] (by first | exact su | (rw [h5]; exact su)) (by decide)
                    ·
                      refine ad 5 ?_
                      refine Run.mid ⟨64, 3, [(1, .pt 0 0), (2, .pt 1 0), (3, .pt 2 0), (9, .v (.bool ((decide (p0.Kind = 7)) || (decide (p0.Kind = 8)))))], [(0, .var [.v (.int .i64 p0.Kind), .v (.string p0.Name), .v (.string p0.To), .v (.int .i64 p0.A), .v (.int .i64 p0.B), .v (.string p0.Text)] 28), (1, .var [.v (.int .i64 0), .v (.string ⟨#[]⟩), .v (.string ⟨#[]⟩), .v (.int .i64 0), .v (.int .i64 0), .v (.string ⟨#[]⟩)] 28), (2, .var [.v (.int .i64 p0.Kind), .v (.string ⟨#[]⟩), .v (.string ⟨#[]⟩), .v (.int .i64 0), .v (.int .i64 0), .v (.string ⟨#[]⟩)] 28)]⟩ ?_ ?_
                      · refine cd (fun h6 => ?_) (fun h6 => ?_)
                        ·
                          refine ad 1 ?_
                          exact Run.at [0, 1, 2] [2, 1, 0] (by first | exact su | (rw [h6]; exact su)) (by decide)
                        ·
                          refine ad 4 ?_
                          exact Run.at [0, 1, 2] [2, 1, 0] (by first | exact su | (rw [h6]; exact su)) (by decide)
                      exact Run.at [0, 1, 2] [0, 1, 2] (by first | exact su | (rw [h5]; exact su)) (by decide)
                  exact Run.at [0, 1, 2] [0, 1, 2] (by first | exact su | (rw [h4]; exact su)) (by decide)
              exact Run.at [0, 1, 2] [0, 1, 2] (by first | exact su | (rw [h3]; exact su)) (by decide)
          exact Run.at [0, 1, 2] [0, 1, 2] (by first | exact su | (rw [h2]; exact su)) (by decide)
      exact Run.at [0, 1, 2] [0, 1, 2] (by first | exact su | (rw [h1]; exact su)) (by decide)
  refine Run.mid ⟨64, 3, [(1, .pt 0 0), (2, .pt 1 0), (3, .pt 2 0)], [(0, .var [.v (.int .i64 p0.Kind), .v (.string p0.Name), .v (.string p0.To), .v (.int .i64 p0.A), .v (.int .i64 p0.B), .v (.string p0.Text)] 28), (1, .var [.v (.int .i64 0), .v (.string ⟨#[]⟩), .v (.string ⟨#[]⟩), .v (.int .i64 0), .v (.int .i64 0), .v (.string ⟨#[]⟩)] 28), (2, .var [.v (.int .i64 p0.Kind), .v (.string (bif ((decide (p0.Kind = 1)) || ((decide (p0.Kind = 3)) || ((decide (p0.Kind = 2)) || ((decide (p0.Kind = 4)) || ((decide (p0.Kind = 6)) || ((decide (p0.Kind = 7)) || (decide (p0.Kind = 8)))))))) then p0.Name else ⟨#[]⟩)), .v (.string ⟨#[]⟩), .v (.int .i64 0), .v (.int .i64 0), .v (.string ⟨#[]⟩)] 28)]⟩ ?_ ?_
  · refine cd (fun h7 => ?_) (fun h7 => ?_)
    ·
      refine ad 6 ?_
      exact Run.at [0, 1, 2] [0, 1, 2] (by first | exact su | (rw [h7]; exact su)) (by decide)
    ·
      refine ad 1 ?_
      exact Run.at [0, 1, 2] [0, 1, 2] (by first | exact su | (rw [h7]; exact su)) (by decide)
  refine ad 14 ?_
  refine Run.mid ⟨64, 3, [(1, .pt 0 0), (2, .pt 1 0), (3, .pt 2 0), (21, .v (.int .i64 p0.Kind)), (22, .v (.bool ((decide (p0.Kind = 2)) || (decide (p0.Kind = 4)))))], [(0, .var [.v (.int .i64 p0.Kind), .v (.string p0.Name), .v (.string p0.To), .v (.int .i64 p0.A), .v (.int .i64 p0.B), .v (.string p0.Text)] 28), (1, .var [.v (.int .i64 0), .v (.string ⟨#[]⟩), .v (.string ⟨#[]⟩), .v (.int .i64 0), .v (.int .i64 0), .v (.string ⟨#[]⟩)] 28), (2, .var [.v (.int .i64 p0.Kind), .v (.string (bif ((decide (p0.Kind = 1)) || ((decide (p0.Kind = 3)) || ((decide (p0.Kind = 2)) || ((decide (p0.Kind = 4)) || ((decide (p0.Kind = 6)) || ((decide (p0.Kind = 7)) || (decide (p0.Kind = 8)))))))) then p0.Name else ⟨#[]⟩)), .v (.string ⟨#[]⟩), .v (.int .i64 0), .v (.int .i64 0), .v (.string ⟨#[]⟩)] 28)]⟩ ?_ ?_
  · refine cd (fun h8 => ?_) (fun h8 => ?_)
    ·
      refine ad 1 ?_
      exact Run.at [0, 1, 2] [0, 1, 2] (by first | exact su | (rw [h8]; exact su)) (by decide)
    ·
      refine ad 4 ?_
      exact Run.at [0, 1, 2] [0, 1, 2] (by first | exact su | (rw [h8]; exact su)) (by decide)
  refine Run.mid ⟨64, 2, [(2, .pt 0 0), (3, .pt 1 0)], [(0, .var [.v (.int .i64 0), .v (.string ⟨#[]⟩), .v (.string ⟨#[]⟩), .v (.int .i64 0), .v (.int .i64 0), .v (.string ⟨#[]⟩)] 28), (1, .var [.v (.int .i64 p0.Kind), .v (.string (bif ((decide (p0.Kind = 1)) || ((decide (p0.Kind = 3)) || ((decide (p0.Kind = 2)) || ((decide (p0.Kind = 4)) || ((decide (p0.Kind = 6)) || ((decide (p0.Kind = 7)) || (decide (p0.Kind = 8)))))))) then p0.Name else ⟨#[]⟩)), .v (.string (bif ((decide (p0.Kind = 2)) || (decide (p0.Kind = 4))) then p0.To else ⟨#[]⟩)), .v (.int .i64 (bif ((decide (p0.Kind = 2)) || (decide (p0.Kind = 4))) then 0 else (bif ((decide (p0.Kind = 6)) || (decide (p0.Kind = 16))) then p0.A else (bif ((decide (p0.Kind = 8)) || ((decide (p0.Kind = 11)) || ((decide (p0.Kind = 13)) || ((decide (p0.Kind = 14)) || ((decide (p0.Kind = 18)) || ((decide (p0.Kind = 19)) || (decide (p0.Kind = 21)))))))) then p0.A else (bif ((decide (p0.Kind = 7)) || ((decide (p0.Kind = 10)) || (decide (p0.Kind = 20)))) then p0.A else 0))))), .v (.int .i64 (bif ((decide (p0.Kind = 2)) || (decide (p0.Kind = 4))) then 0 else (bif ((decide (p0.Kind = 6)) || (decide (p0.Kind = 16))) then p0.B else 0))), .v (.string (bif ((decide (p0.Kind = 2)) || (decide (p0.Kind = 4))) then ⟨#[]⟩ else (bif ((decide (p0.Kind = 6)) || (decide (p0.Kind = 16))) then ⟨#[]⟩ else (bif ((decide (p0.Kind = 8)) || ((decide (p0.Kind = 11)) || ((decide (p0.Kind = 13)) || ((decide (p0.Kind = 14)) || ((decide (p0.Kind = 18)) || ((decide (p0.Kind = 19)) || (decide (p0.Kind = 21)))))))) then ⟨#[]⟩ else (bif ((decide (p0.Kind = 7)) || ((decide (p0.Kind = 10)) || (decide (p0.Kind = 20)))) then p0.Text else (bif (decide (p0.Kind = 22)) then p0.Text else ⟨#[]⟩))))))] 28)]⟩ ?_ ?_
  · refine cd (fun h9 => ?_) (fun h9 => ?_)
    ·
      refine ad 6 ?_
      exact Run.at [1, 2] [1, 2] (by first | exact su | (rw [h9]; exact su)) (by decide)
    ·
      refine ad 6 ?_
      refine Run.mid ⟨64, 3, [(1, .pt 0 0), (2, .pt 1 0), (3, .pt 2 0), (21, .v (.int .i64 p0.Kind)), (28, .v (.bool ((decide (p0.Kind = 6)) || (decide (p0.Kind = 16)))))], [(0, .var [.v (.int .i64 p0.Kind), .v (.string p0.Name), .v (.string p0.To), .v (.int .i64 p0.A), .v (.int .i64 p0.B), .v (.string p0.Text)] 28), (1, .var [.v (.int .i64 0), .v (.string ⟨#[]⟩), .v (.string ⟨#[]⟩), .v (.int .i64 0), .v (.int .i64 0), .v (.string ⟨#[]⟩)] 28), (2, .var [.v (.int .i64 p0.Kind), .v (.string (bif ((decide (p0.Kind = 1)) || ((decide (p0.Kind = 3)) || ((decide (p0.Kind = 2)) || ((decide (p0.Kind = 4)) || ((decide (p0.Kind = 6)) || ((decide (p0.Kind = 7)) || (decide (p0.Kind = 8)))))))) then p0.Name else ⟨#[]⟩)), .v (.string ⟨#[]⟩), .v (.int .i64 0), .v (.int .i64 0), .v (.string ⟨#[]⟩)] 28)]⟩ ?_ ?_
      · refine cd (fun h10 => ?_) (fun h10 => ?_)
        ·
          refine ad 1 ?_
          exact Run.at [0, 1, 2] [0, 1, 2] (by first | exact su | (rw [h10]; exact su)) (by decide)
        ·
          refine ad 4 ?_
          exact Run.at [0, 1, 2] [0, 1, 2] (by first | exact su | (rw [h10]; exact su)) (by decide)
      refine Run.mid ⟨64, 2, [(2, .pt 0 0), (3, .pt 1 0)], [(0, .var [.v (.int .i64 0), .v (.string ⟨#[]⟩), .v (.string ⟨#[]⟩), .v (.int .i64 0), .v (.int .i64 0), .v (.string ⟨#[]⟩)] 28), (1, .var [.v (.int .i64 p0.Kind), .v (.string (bif ((decide (p0.Kind = 1)) || ((decide (p0.Kind = 3)) || ((decide (p0.Kind = 2)) || ((decide (p0.Kind = 4)) || ((decide (p0.Kind = 6)) || ((decide (p0.Kind = 7)) || (decide (p0.Kind = 8)))))))) then p0.Name else ⟨#[]⟩)), .v (.string ⟨#[]⟩), .v (.int .i64 (bif ((decide (p0.Kind = 6)) || (decide (p0.Kind = 16))) then p0.A else (bif ((decide (p0.Kind = 8)) || ((decide (p0.Kind = 11)) || ((decide (p0.Kind = 13)) || ((decide (p0.Kind = 14)) || ((decide (p0.Kind = 18)) || ((decide (p0.Kind = 19)) || (decide (p0.Kind = 21)))))))) then p0.A else (bif ((decide (p0.Kind = 7)) || ((decide (p0.Kind = 10)) || (decide (p0.Kind = 20)))) then p0.A else 0)))), .v (.int .i64 (bif ((decide (p0.Kind = 6)) || (decide (p0.Kind = 16))) then p0.B else 0)), .v (.string (bif ((decide (p0.Kind = 6)) || (decide (p0.Kind = 16))) then ⟨#[]⟩ else (bif ((decide (p0.Kind = 8)) || ((decide (p0.Kind = 11)) || ((decide (p0.Kind = 13)) || ((decide (p0.Kind = 14)) || ((decide (p0.Kind = 18)) || ((decide (p0.Kind = 19)) || (decide (p0.Kind = 21)))))))) then ⟨#[]⟩ else (bif ((decide (p0.Kind = 7)) || ((decide (p0.Kind = 10)) || (decide (p0.Kind = 20)))) then p0.Text else (bif (decide (p0.Kind = 22)) then p0.Text else ⟨#[]⟩)))))] 28)]⟩ ?_ ?_
      · refine cd (fun h11 => ?_) (fun h11 => ?_)
        ·
          refine ad 13 ?_
          exact Run.at [1, 2] [1, 2] (by first | exact su | (rw [h11]; exact su)) (by decide)
        ·
          refine ad 6 ?_
          refine Run.mid ⟨64, 3, [(1, .pt 0 0), (2, .pt 1 0), (3, .pt 2 0), (21, .v (.int .i64 p0.Kind)), (37, .v (.bool ((decide (p0.Kind = 8)) || ((decide (p0.Kind = 11)) || ((decide (p0.Kind = 13)) || ((decide (p0.Kind = 14)) || ((decide (p0.Kind = 18)) || ((decide (p0.Kind = 19)) || (decide (p0.Kind = 21))))))))))], [(0, .var [.v (.int .i64 p0.Kind), .v (.string p0.Name), .v (.string p0.To), .v (.int .i64 p0.A), .v (.int .i64 p0.B), .v (.string p0.Text)] 28), (1, .var [.v (.int .i64 0), .v (.string ⟨#[]⟩), .v (.string ⟨#[]⟩), .v (.int .i64 0), .v (.int .i64 0), .v (.string ⟨#[]⟩)] 28), (2, .var [.v (.int .i64 p0.Kind), .v (.string (bif ((decide (p0.Kind = 1)) || ((decide (p0.Kind = 3)) || ((decide (p0.Kind = 2)) || ((decide (p0.Kind = 4)) || ((decide (p0.Kind = 6)) || ((decide (p0.Kind = 7)) || (decide (p0.Kind = 8)))))))) then p0.Name else ⟨#[]⟩)), .v (.string ⟨#[]⟩), .v (.int .i64 0), .v (.int .i64 0), .v (.string ⟨#[]⟩)] 28)]⟩ ?_ ?_
          · refine cd (fun h12 => ?_) (fun h12 => ?_)
            ·
              refine ad 1 ?_
              exact Run.at [0, 1, 2] [0, 1, 2] (by first | exact su | (rw [h12]; exact su)) (by decide)
            ·
              refine ad 5 ?_
              refine Run.mid ⟨64, 3, [(1, .pt 0 0), (2, .pt 1 0), (3, .pt 2 0), (21, .v (.int .i64 p0.Kind)), (37, .v (.bool ((decide (p0.Kind = 11)) || ((decide (p0.Kind = 13)) || ((decide (p0.Kind = 14)) || ((decide (p0.Kind = 18)) || ((decide (p0.Kind = 19)) || (decide (p0.Kind = 21)))))))))], [(0, .var [.v (.int .i64 p0.Kind), .v (.string p0.Name), .v (.string p0.To), .v (.int .i64 p0.A), .v (.int .i64 p0.B), .v (.string p0.Text)] 28), (1, .var [.v (.int .i64 0), .v (.string ⟨#[]⟩), .v (.string ⟨#[]⟩), .v (.int .i64 0), .v (.int .i64 0), .v (.string ⟨#[]⟩)] 28), (2, .var [.v (.int .i64 p0.Kind), .v (.string (bif ((decide (p0.Kind = 1)) || ((decide (p0.Kind = 3)) || ((decide (p0.Kind = 2)) || ((decide (p0.Kind = 4)) || ((decide (p0.Kind = 6)) || ((decide (p0.Kind = 7)) || (decide (p0.Kind = 8)))))))) then p0.Name else ⟨#[]⟩)), .v (.string ⟨#[]⟩), .v (.int .i64 0), .v (.int .i64 0), .v (.string ⟨#[]⟩)] 28)]⟩ ?_ ?_
              · refine cd (fun h13 => ?_) (fun h13 => ?_)
                ·
                  refine ad 1 ?_
                  exact Run.at [0, 1, 2] [0, 1, 2] (by first | exact su | (rw [h13]; exact su)) (by decide)
                ·
                  refine ad 5 ?_
                  refine Run.mid ⟨64, 3, [(1, .pt 0 0), (2, .pt 1 0), (3, .pt 2 0), (21, .v (.int .i64 p0.Kind)), (37, .v (.bool ((decide (p0.Kind = 13)) || ((decide (p0.Kind = 14)) || ((decide (p0.Kind = 18)) || ((decide (p0.Kind = 19)) || (decide (p0.Kind = 21))))))))], [(0, .var [.v (.int .i64 p0.Kind), .v (.string p0.Name), .v (.string p0.To), .v (.int .i64 p0.A), .v (.int .i64 p0.B), .v (.string p0.Text)] 28), (1, .var [.v (.int .i64 0), .v (.string ⟨#[]⟩), .v (.string ⟨#[]⟩), .v (.int .i64 0), .v (.int .i64 0), .v (.string ⟨#[]⟩)] 28), (2, .var [.v (.int .i64 p0.Kind), .v (.string (bif ((decide (p0.Kind = 1)) || ((decide (p0.Kind = 3)) || ((decide (p0.Kind = 2)) || ((decide (p0.Kind = 4)) || ((decide (p0.Kind = 6)) || ((decide (p0.Kind = 7)) || (decide (p0.Kind = 8)))))))) then p0.Name else ⟨#[]⟩)), .v (.string ⟨#[]⟩), .v (.int .i64 0), .v (.int .i64 0), .v (.string ⟨#[]⟩)] 28)]⟩ ?_ ?_
                  · refine cd (fun h14 => ?_) (fun h14 => ?_)
                    ·
                      refine ad 1 ?_
                      exact Run.at [0, 1, 2] [0, 1, 2] (by first | exact su | (rw [h14]; exact su)) (by decide)
                    ·
                      refine ad 5 ?_
                      refine Run.mid ⟨64, 3, [(1, .pt 0 0), (2, .pt 1 0), (3, .pt 2 0), (21, .v (.int .i64 p0.Kind)), (37, .v (.bool ((decide (p0.Kind = 14)) || ((decide (p0.Kind = 18)) || ((decide (p0.Kind = 19)) || (decide (p0.Kind = 21)))))))], [(0, .var [.v (.int .i64 p0.Kind), .v (.string p0.Name), .v (.string p0.To), .v (.int .i64 p0.A), .v (.int .i64 p0.B), .v (.string p0.Text)] 28), (1, .var [.v (.int .i64 0), .v (.string ⟨#[]⟩), .v (.string ⟨#[]⟩), .v (.int .i64 0), .v (.int .i64 0), .v (.string ⟨#[]⟩)] 28), (2, .var [.v (.int .i64 p0.Kind), .v (.string (bif ((decide (p0.Kind = 1)) || ((decide (p0.Kind = 3)) || ((decide (p0.Kind = 2)) || ((decide (p0.Kind = 4)) || ((decide (p0.Kind = 6)) || ((decide (p0.Kind = 7)) || (decide (p0.Kind = 8)))))))) then p0.Name else ⟨#[]⟩)), .v (.string ⟨#[]⟩), .v (.int .i64 0), .v (.int .i64 0), .v (.string ⟨#[]⟩)] 28)]⟩ ?_ ?_
                      · refine cd (fun h15 => ?_) (fun h15 => ?_)
                        ·
                          refine ad 1 ?_
                          exact Run.at [0, 1, 2] [0, 1, 2] (by first | exact su | (rw [h15]; exact su)) (by decide)
                        ·
                          refine ad 5 ?_
                          refine Run.mid ⟨64, 3, [(1, .pt 0 0), (2, .pt 1 0), (3, .pt 2 0), (21, .v (.int .i64 p0.Kind)), (37, .v (.bool ((decide (p0.Kind = 18)) || ((decide (p0.Kind = 19)) || (decide (p0.Kind = 21))))))], [(0, .var [.v (.int .i64 p0.Kind), .v (.string p0.Name), .v (.string p0.To), .v (.int .i64 p0.A), .v (.int .i64 p0.B), .v (.string p0.Text)] 28), (1, .var [.v (.int .i64 0), .v (.string ⟨#[]⟩), .v (.string ⟨#[]⟩), .v (.int .i64 0), .v (.int .i64 0), .v (.string ⟨#[]⟩)] 28), (2, .var [.v (.int .i64 p0.Kind), .v (.string (bif ((decide (p0.Kind = 1)) || ((decide (p0.Kind = 3)) || ((decide (p0.Kind = 2)) || ((decide (p0.Kind = 4)) || ((decide (p0.Kind = 6)) || ((decide (p0.Kind = 7)) || (decide (p0.Kind = 8)))))))) then p0.Name else ⟨#[]⟩)), .v (.string ⟨#[]⟩), .v (.int .i64 0), .v (.int .i64 0), .v (.string ⟨#[]⟩)] 28)]⟩ ?_ ?_
                          · refine cd (fun h16 => ?_) (fun h16 => ?_)
                            ·
                              refine ad 1 ?_
                              exact Run.at [0, 1, 2] [0, 1, 2] (by first | exact su | (rw [h16]; exact su)) (by decide)
                            ·
                              refine ad 5 ?_
                              refine Run.mid ⟨64, 3, [(1, .pt 0 0), (2, .pt 1 0), (3, .pt 2 0), (21, .v (.int .i64 p0.Kind)), (37, .v (.bool ((decide (p0.Kind = 19)) || (decide (p0.Kind = 21)))))], [(0, .var [.v (.int .i64 p0.Kind), .v (.string p0.Name), .v (.string p0.To), .v (.int .i64 p0.A), .v (.int .i64 p0.B), .v (.string p0.Text)] 28), (1, .var [.v (.int .i64 0), .v (.string ⟨#[]⟩), .v (.string ⟨#[]⟩), .v (.int .i64 0), .v (.int .i64 0), .v (.string ⟨#[]⟩)] 28), (2, .var [.v (.int .i64 p0.Kind), .v (.string (bif ((decide (p0.Kind = 1)) || ((decide (p0.Kind = 3)) || ((decide (p0.Kind = 2)) || ((decide (p0.Kind = 4)) || ((decide (p0.Kind = 6)) || ((decide (p0.Kind = 7)) || (decide (p0.Kind = 8)))))))) then p0.Name else ⟨#[]⟩)), .v (.string ⟨#[]⟩), .v (.int .i64 0), .v (.int .i64 0), .v (.string ⟨#[]⟩)] 28)]⟩ ?_ ?_
                              · refine cd (fun h17 => ?_) (fun h17 => ?_)
                                ·
                                  refine ad 1 ?_
                                  exact Run.at [0, 1, 2] [0, 1, 2] (by first | exact su | (rw [h17]; exact su)) (by decide)
                                ·
                                  refine ad 4 ?_
                                  exact Run.at [0, 1, 2] [0, 1, 2] (by first | exact su | (rw [h17]; exact su)) (by decide)
                              exact Run.at [0, 1, 2] [0, 1, 2] (by first | exact su | (rw [h16]; exact su)) (by decide)
                          exact Run.at [0, 1, 2] [0, 1, 2] (by first | exact su | (rw [h15]; exact su)) (by decide)
                      exact Run.at [0, 1, 2] [0, 1, 2] (by first | exact su | (rw [h14]; exact su)) (by decide)
                  exact Run.at [0, 1, 2] [0, 1, 2] (by first | exact su | (rw [h13]; exact su)) (by decide)
              exact Run.at [0, 1, 2] [0, 1, 2] (by first | exact su | (rw [h12]; exact su)) (by decide)
          refine Run.mid ⟨64, 2, [(2, .pt 0 0), (3, .pt 1 0)], [(0, .var [.v (.int .i64 0), .v (.string ⟨#[]⟩), .v (.string ⟨#[]⟩), .v (.int .i64 0), .v (.int .i64 0), .v (.string ⟨#[]⟩)] 28), (1, .var [.v (.int .i64 p0.Kind), .v (.string (bif ((decide (p0.Kind = 1)) || ((decide (p0.Kind = 3)) || ((decide (p0.Kind = 2)) || ((decide (p0.Kind = 4)) || ((decide (p0.Kind = 6)) || ((decide (p0.Kind = 7)) || (decide (p0.Kind = 8)))))))) then p0.Name else ⟨#[]⟩)), .v (.string ⟨#[]⟩), .v (.int .i64 (bif ((decide (p0.Kind = 8)) || ((decide (p0.Kind = 11)) || ((decide (p0.Kind = 13)) || ((decide (p0.Kind = 14)) || ((decide (p0.Kind = 18)) || ((decide (p0.Kind = 19)) || (decide (p0.Kind = 21)))))))) then p0.A else (bif ((decide (p0.Kind = 7)) || ((decide (p0.Kind = 10)) || (decide (p0.Kind = 20)))) then p0.A else 0))), .v (.int .i64 0), .v (.string (bif ((decide (p0.Kind = 8)) || ((decide (p0.Kind = 11)) || ((decide (p0.Kind = 13)) || ((decide (p0.Kind = 14)) || ((decide (p0.Kind = 18)) || ((decide (p0.Kind = 19)) || (decide (p0.Kind = 21)))))))) then ⟨#[]⟩ else (bif ((decide (p0.Kind = 7)) || ((decide (p0.Kind = 10)) || (decide (p0.Kind = 20)))) then p0.Text else (bif (decide (p0.Kind = 22)) then p0.Text else ⟨#[]⟩))))] 28)]⟩ ?_ ?_
          · refine cd (fun h18 => ?_) (fun h18 => ?_)
            ·
              refine ad 6 ?_
              exact Run.at [1, 2] [1, 2] (by first | exact su | (rw [h18]; exact su)) (by decide)
            ·
              refine ad 6 ?_
              refine Run.mid ⟨64, 3, [(1, .pt 0 0), (2, .pt 1 0), (3, .pt 2 0), (21, .v (.int .i64 p0.Kind)), (48, .v (.bool ((decide (p0.Kind = 7)) || ((decide (p0.Kind = 10)) || (decide (p0.Kind = 20))))))], [(0, .var [.v (.int .i64 p0.Kind), .v (.string p0.Name), .v (.string p0.To), .v (.int .i64 p0.A), .v (.int .i64 p0.B), .v (.string p0.Text)] 28), (1, .var [.v (.int .i64 0), .v (.string ⟨#[]⟩), .v (.string ⟨#[]⟩), .v (.int .i64 0), .v (.int .i64 0), .v (.string ⟨#[]⟩)] 28), (2, .var [.v (.int .i64 p0.Kind), .v (.string (bif ((decide (p0.Kind = 1)) || ((decide (p0.Kind = 3)) || ((decide (p0.Kind = 2)) || ((decide (p0.Kind = 4)) || ((decide (p0.Kind = 6)) || ((decide (p0.Kind = 7)) || (decide (p0.Kind = 8)))))))) then p0.Name else ⟨#[]⟩)), .v (.string ⟨#[]⟩), .v (.int .i64 0), .v (.int .i64 0), .v (.string ⟨#[]⟩)] 28)]⟩ ?_ ?_
              · refine cd (fun h19 => ?_) (fun h19 => ?_)
                ·
                  refine ad 1 ?_
                  exact Run.at [0, 1, 2] [0, 1, 2] (by first | exact su | (rw [h19]; exact su)) (by decide)
                ·
                  refine ad 5 ?_
                  refine Run.mid ⟨64, 3, [(1, .pt 0 0), (2, .pt 1 0), (3, .pt 2 0), (21, .v (.int .i64 p0.Kind)), (48, .v (.bool ((decide (p0.Kind = 10)) || (decide (p0.Kind = 20)))))], [(0, .var [.v (.int .i64 p0.Kind), .v (.string p0.Name), .v (.string p0.To), .v (.int .i64 p0.A), .v (.int .i64 p0.B), .v (.string p0.Text)] 28), (1, .var [.v (.int .i64 0), .v (.string ⟨#[]⟩), .v (.string ⟨#[]⟩), .v (.int .i64 0), .v (.int .i64 0), .v (.string ⟨#[]⟩)] 28), (2, .var [.v (.int .i64 p0.Kind), .v (.string (bif ((decide (p0.Kind = 1)) || ((decide (p0.Kind = 3)) || ((decide (p0.Kind = 2)) || ((decide (p0.Kind = 4)) || ((decide (p0.Kind = 6)) || ((decide (p0.Kind = 7)) || (decide (p0.Kind = 8)))))))) then p0.Name else ⟨#[]⟩)), .v (.string ⟨#[]⟩), .v (.int .i64 0), .v (.int .i64 0), .v (.string ⟨#[]⟩)] 28)]⟩ ?_ ?_
                  · refine cd (fun h20 => ?_) (fun h20 => ?_)
                    ·
                      refine ad 1 ?_
                      exact Run.at [0, 1, 2] [0, 1, 2] (by first | exact su | (rw [h20]; exact su)) (by decide)
                    ·
                      refine ad 4 ?_
                      exact Run.at [0, 1, 2] [0, 1, 2] (by first | exact su | (rw [h20]; exact su)) (by decide)
                  exact Run.at [0, 1, 2] [0, 1, 2] (by first | exact su | (rw [h19]; exact su)) (by decide)
              refine Run.mid ⟨64, 2, [(2, .pt 0 0), (3, .pt 1 0)], [(0, .var [.v (.int .i64 0), .v (.string ⟨#[]⟩), .v (.string ⟨#[]⟩), .v (.int .i64 0), .v (.int .i64 0), .v (.string ⟨#[]⟩)] 28), (1, .var [.v (.int .i64 p0.Kind), .v (.string (bif ((decide (p0.Kind = 1)) || ((decide (p0.Kind = 3)) || ((decide (p0.Kind = 2)) || ((decide (p0.Kind = 4)) || ((decide (p0.Kind = 6)) || ((decide (p0.Kind = 7)) || (decide (p0.Kind = 8)))))))) then p0.Name else ⟨#[]⟩)), .v (.string ⟨#[]⟩), .v (.int .i64 (bif ((decide (p0.Kind = 7)) || ((decide (p0.Kind = 10)) || (decide (p0.Kind = 20)))) then p0.A else 0)), .v (.int .i64 0), .v (.string (bif ((decide (p0.Kind = 7)) || ((decide (p0.Kind = 10)) || (decide (p0.Kind = 20)))) then p0.Text else (bif (decide (p0.Kind = 22)) then p0.Text else ⟨#[]⟩)))] 28)]⟩ ?_ ?_
              · refine cd (fun h21 => ?_) (fun h21 => ?_)
                ·
                  refine ad 13 ?_
                  exact Run.at [1, 2] [1, 2] (by first | exact su | (rw [h21]; exact su)) (by decide)
                ·
                  refine ad 5 ?_
                  refine Run.mid ⟨64, 2, [(2, .pt 0 0), (3, .pt 1 0)], [(0, .var [.v (.int .i64 0), .v (.string ⟨#[]⟩), .v (.string ⟨#[]⟩), .v (.int .i64 0), .v (.int .i64 0), .v (.string ⟨#[]⟩)] 28), (1, .var [.v (.int .i64 p0.Kind), .v (.string (bif ((decide (p0.Kind = 1)) || ((decide (p0.Kind = 3)) || ((decide (p0.Kind = 2)) || ((decide (p0.Kind = 4)) || ((decide (p0.Kind = 6)) || ((decide (p0.Kind = 7)) || (decide (p0.Kind = 8)))))))) then p0.Name else ⟨#[]⟩)), .v (.string ⟨#[]⟩), .v (.int .i64 0), .v (.int .i64 0), .v (.string (bif (decide (p0.Kind = 22)) then p0.Text else ⟨#[]⟩))] 28)]⟩ ?_ ?_
                  · refine cd (fun h22 => ?_) (fun h22 => ?_)
                    ·
                      refine ad 6 ?_
                      exact Run.at [1, 2] [1, 2] (by first | exact su | (rw [h22]; exact su)) (by decide)
                    ·
                      refine ad 1 ?_
                      exact Run.at [1, 2] [1, 2] (by first | exact su | (rw [h22]; exact su)) (by decide)
                  exact Run.at [0, 1] [0, 1] (by first | exact su | (rw [h21]; exact su)) (by decide)
              exact Run.at [0, 1] [0, 1] (by first | exact su | (rw [h18]; exact su)) (by decide)
          exact Run.at [0, 1] [0, 1] (by first | exact su | (rw [h11]; exact su)) (by decide)
      exact Run.at [0, 1] [0, 1] (by first | exact su | (rw [h9]; exact su)) (by decide)
  refine ad 6 ?_
  have hg23 : Dat.good (Call.mk p0.Kind (bif ((decide (p0.Kind = 1)) || ((decide (p0.Kind = 3)) || ((decide (p0.Kind = 2)) || ((decide (p0.Kind = 4)) || ((decide (p0.Kind = 6)) || ((decide (p0.Kind = 7)) || (decide (p0.Kind = 8)))))))) then p0.Name else ⟨#[]⟩) (bif ((decide (p0.Kind = 2)) || (decide (p0.Kind = 4))) then p0.To else ⟨#[]⟩) (bif ((decide (p0.Kind = 2)) || (decide (p0.Kind = 4))) then 0 else (bif ((decide (p0.Kind = 6)) || (decide (p0.Kind = 16))) then p0.A else (bif ((decide (p0.Kind = 8)) || ((decide (p0.Kind = 11)) || ((decide (p0.Kind = 13)) || ((decide (p0.Kind = 14)) || ((decide (p0.Kind = 18)) || ((decide (p0.Kind = 19)) || (decide (p0.Kind = 21)))))))) then p0.A else (bif ((decide (p0.Kind = 7)) || ((decide (p0.Kind = 10)) || (decide (p0.Kind = 20)))) then p0.A else 0)))) (bif ((decide (p0.Kind = 2)) || (decide (p0.Kind = 4))) then 0 else (bif ((decide (p0.Kind = 6)) || (decide (p0.Kind = 16))) then p0.B else 0)) (bif ((decide (p0.Kind = 2)) || (decide (p0.Kind = 4))) then ⟨#[]⟩ else (bif ((decide (p0.Kind = 6)) || (decide (p0.Kind = 16))) then ⟨#[]⟩ else (bif ((decide (p0.Kind = 8)) || ((decide (p0.Kind = 11)) || ((decide (p0.Kind = 13)) || ((decide (p0.Kind = 14)) || ((decide (p0.Kind = 18)) || ((decide (p0.Kind = 19)) || (decide (p0.Kind = 21)))))))) then ⟨#[]⟩ else (bif ((decide (p0.Kind = 7)) || ((decide (p0.Kind = 10)) || (decide (p0.Kind = 20)))) then p0.Text else (bif (decide (p0.Kind = 22)) then p0.Text else ⟨#[]⟩))))) : Call) := ⟨hg_p0.1, (bifS hg_p0.2.1 (gs ⟨#[]⟩)), (bifS hg_p0.2.2.1 (gs ⟨#[]⟩)), (bifI (gi 0) (bifI hg_p0.2.2.2.1 (bifI hg_p0.2.2.2.1 (bifI hg_p0.2.2.2.1 (gi 0))))), (bifI (gi 0) (bifI hg_p0.2.2.2.2.1 (gi 0))), (bifS (gs ⟨#[]⟩) (bifS (gs ⟨#[]⟩) (bifS (gs ⟨#[]⟩) (bifS hg_p0.2.2.2.2.2 (bifS hg_p0.2.2.2.2.2 (gs ⟨#[]⟩))))))⟩
  exact rz (rs := [.cell 2 28]) (congrArg (fun x => [Re.st Call _ inferInstance x]) hM)

/- F83 loop.example/g00974/impl.NameOk -/
def impl_NameOk_l1 (p0 : ByteArray) : Nat → Nat → Bool
  | 0, i => (impl_within (p0.size : Int) 1 12)
  | n + 1, i => bif (((!((decide (((byteAt p0 i).toNat : Int) ≥ 97)) && (decide (((byteAt p0 i).toNat : Int) ≤ 122)))) && (!((decide (((byteAt p0 i).toNat : Int) ≥ 48)) && (decide (((byteAt p0 i).toNat : Int) ≤ 57))))) && (!decide (((byteAt p0 i).toNat : Int) = 46))) && (!decide (((byteAt p0 i).toNat : Int) = 45)) then false else (impl_NameOk_l1 p0 n (i + 1))
def impl_NameOk (p0 : ByteArray) : Bool := impl_NameOk_l1 p0 (p0.size - 0) 0
theorem c_impl_NameOk (p0 : ByteArray) (hz_p0 : p0.size ≤ 9223372036854775807) : CTs 83 [.o (.c (.string p0))] [Re.c (.bool (impl_NameOk p0))] := by
  refine en Tryd.func83 Tryd.ntmps83 fun w hG hgd => ?_
  have hM := impl_NameOk.eq_1 p0
  refine ad 12 ?_
  refine Run.loopM (ι := Nat) (fun s => impl_NameOk_l1 p0 (p0.size - s) s) (fun s => ⟨41, 0, [(0, .v (.string p0)), (6, .v (.int .i64 (p0.size : Int))), (7, .v (.int .i64 (s : Int)))], []⟩) (fun s => s ≤ p0.size) (fun s => p0.size - s) 0 [] [] hM (by first | exact ⟨by omega, by simp⟩ | omega | simp | (dsimp only; omega)) su (by decide) ?_
  rintro i hv hE
  try dsimp only at hE
  have hi := hv
  try dsimp only at hi
  refine ad 5 ?_
  refine cd (fun h1 => ?_) (fun h1 => ?_)
  ·
    have h1l : i < p0.size := by have := of_decide_eq_true h1; omega
    have hM := hE.trans ((congrArg (fun n => impl_NameOk_l1 p0 n i) (show p0.size - i = (p0.size - (i + 1)) + 1 by omega)).trans (impl_NameOk_l1.eq_2 _ _ _))
    refine ad 12 ?_
    refine op (sx (s := p0) i om) ?_
    refine ad 7 ?_
    refine ag 3 ?_
    refine ad 2 ?_
    refine ag 8 ?_
    refine ad 1 ?_
    refine ag 3 ?_
    refine ad 1 ?_
    refine ag 3 ?_
    refine ad 1 ?_
    refine cd (fun h2 => ?_) (fun h2 => ?_)
    ·
      have hM := hM.trans (bt h2)
      refine ad 4 ?_
      exact rz (rs := [.tmp 2]) (congrArg (fun x => [Re.c (.bool x)]) hM)
    ·
      have hM := hM.trans (bf h2)
      refine ad 4 ?_
      rw [wrapN (i := i) (by first | omega | exact om)]
      refine ad 2 ?_
      exact Run.again (i + 1) [] [] ⟨by first | omega | exact trivial | (dsimp only; omega) | (refine ⟨by omega, ?_⟩; simp_all; try omega), hM⟩ rfl (by show _ - _ < _ - _; (try dsimp only); omega) su (by decide)
  ·
    have h1l : ¬ (i < p0.size) := by have := of_decide_eq_false h1; omega
    have hM := hE.trans ((congrArg (fun n => impl_NameOk_l1 p0 n i) (show p0.size - i = 0 by omega)).trans (impl_NameOk_l1.eq_1 _ _))
    refine ad 5 ?_
    refine op (cl (k_impl_within (p0.size : Int) 1 12) fok45) ?_
    refine ad 2 ?_
    exact rz (rs := [.tmp 2]) (congrArg (fun x => [Re.c (.bool x)]) hM)

/- F55 loop.example/g00974/spec.NameOk -/
def spec_NameOk_l1 (p0 : ByteArray) : Nat → Nat → Bool
  | 0, i => (spec_l01In (p0.size : Int) 1 12)
  | n + 1, i => bif (((!(spec_l01In (IntKind.i64.wrap ((byteAt p0 i).toNat : Int)) 97 122)) && (!(spec_l01In (IntKind.i64.wrap ((byteAt p0 i).toNat : Int)) 48 57))) && (!decide (((byteAt p0 i).toNat : Int) = 46))) && (!decide (((byteAt p0 i).toNat : Int) = 45)) then false else (spec_NameOk_l1 p0 n (i + 1))
def spec_NameOk (p0 : ByteArray) : Bool := spec_NameOk_l1 p0 (p0.size - 0) 0
theorem c_spec_NameOk (p0 : ByteArray) (hz_p0 : p0.size ≤ 9223372036854775807) : CTs 55 [.o (.c (.string p0))] [Re.c (.bool (spec_NameOk p0))] := by
  refine en Tryd.func55 Tryd.ntmps55 fun w hG hgd => ?_
  have hM := spec_NameOk.eq_1 p0
  refine ad 10 ?_
  refine Run.loopM (ι := Nat) (fun s => spec_NameOk_l1 p0 (p0.size - s) s) (fun s => ⟨35, 0, [(0, .v (.string p0)), (3, .v (.int .i64 (s : Int)))], []⟩) (fun s => s ≤ p0.size) (fun s => p0.size - s) 0 [] [] hM (by first | exact ⟨by omega, by simp⟩ | omega | simp | (dsimp only; omega)) su (by decide) ?_
  rintro i hv hE
  try dsimp only at hE
  have hi := hv
  try dsimp only at hi
  refine ad 8 ?_
  refine cd (fun h1 => ?_) (fun h1 => ?_)
  ·
    have h1l : i < p0.size := by have := of_decide_eq_true h1; omega
    have hM := hE.trans ((congrArg (fun n => spec_NameOk_l1 p0 n i) (show p0.size - i = (p0.size - (i + 1)) + 1 by omega)).trans (spec_NameOk_l1.eq_2 _ _ _))
    refine ad 7 ?_
    refine op (sx (s := p0) i om) ?_
    refine ad 6 ?_
    refine op (cl (k_spec_l01In (IntKind.i64.wrap ((byteAt p0 i).toNat : Int)) 97 122) fok46) ?_
    refine ad 2 ?_
    refine ag 2 ?_
    refine op (cG (hct := fun hB => (k_spec_l01In (IntKind.i64.wrap ((byteAt p0 i).toNat : Int)) 48 57)) (hfn := fok46)) ?_
    refine ag 2 ?_
    refine ad 1 ?_
    refine ag 3 ?_
    refine ad 1 ?_
    refine ag 3 ?_
    refine ad 1 ?_
    refine cd (fun h2 => ?_) (fun h2 => ?_)
    ·
      have hM := hM.trans (bt h2)
      refine ad 4 ?_
      exact rz (rs := [.tmp 2]) (congrArg (fun x => [Re.c (.bool x)]) hM)
    ·
      have hM := hM.trans (bf h2)
      refine ad 5 ?_
      rw [wrapN (i := i) (by first | omega | exact om)]
      refine ad 2 ?_
      exact Run.again (i + 1) [] [] ⟨by first | omega | exact trivial | (dsimp only; omega) | (refine ⟨by omega, ?_⟩; simp_all; try omega), hM⟩ rfl (by show _ - _ < _ - _; (try dsimp only); omega) su (by decide)
  ·
    have h1l : ¬ (i < p0.size) := by have := of_decide_eq_false h1; omega
    have hM := hE.trans ((congrArg (fun n => spec_NameOk_l1 p0 n i) (show p0.size - i = 0 by omega)).trans (spec_NameOk_l1.eq_1 _ _))
    refine ad 5 ?_
    refine op (cl (k_spec_l01In (p0.size : Int) 1 12) fok46) ?_
    refine ad 2 ?_
    exact rz (rs := [.tmp 2]) (congrArg (fun x => [Re.c (.bool x)]) hM)

/- F106 loop.example/g00974/impl.Hex -/
def impl_Hex (p0 : ByteArray) : ByteArray × Bool := bif decide ((p0.size : Int) > 20000) then (⟨#[]⟩, false) else ((hexEnc (sbytes p0)), true)
theorem c_impl_Hex (p0 : ByteArray) (hz_p0 : p0.size ≤ 9223372036854775807) : CTs 106 [.o (.c (.string p0))] [Re.c (.string ((impl_Hex p0).1)), Re.c (.bool ((impl_Hex p0).2))] := by
  refine en Tryd.func106 Tryd.ntmps106 fun w hG hgd => ?_
  have hM := impl_Hex.eq_1 p0
  refine ad 12 ?_
  refine cd (fun h1 => ?_) (fun h1 => ?_)
  ·
    have hM := hM.trans (bt h1)
    refine ad 5 ?_
    exact rz (rs := [.tmp 2, .tmp 3]) (congrArg (fun x => [Re.c (.string x.1), Re.c (.bool x.2)]) hM)
  ·
    have hM := hM.trans (bf h1)
    refine ad 4 ?_
    refine op (tb (hs := hz_p0)) ?_
    refine op (cl (k_hexEncA (sbytes p0) (by first | (rw [sbytes_length]; exact om) | (simp at hB; omega))) fok116) ?_
    refine ad 3 ?_
    exact rz (rs := [.tmp 2, .tmp 3]) (congrArg (fun x => [Re.c (.string x.1), Re.c (.bool x.2)]) hM)

/- F84 loop.example/g00974/impl.hexOf -/
def impl_hexOf (p0 : ByteArray) : ByteArray := (impl_Hex p0).1
theorem c_impl_hexOf (p0 : ByteArray) (hz_p0 : p0.size ≤ 9223372036854775807) : CTs 84 [.o (.c (.string p0))] [Re.c (.string (impl_hexOf p0))] := by
  refine en Tryd.func84 Tryd.ntmps84 fun w hG hgd => ?_
  have hM := impl_hexOf.eq_1 p0
  refine ad 7 ?_
  refine op (cl (c_impl_Hex p0 hz_p0) fok106) ?_
  refine ad 11 ?_
  exact rz (rs := [.tmp 2]) (congrArg (fun x => [Re.c (.string x)]) hM)
theorem impl_hexOf_size {p0 : ByteArray} (h : p0.size ≤ 64) : (impl_hexOf p0).size ≤ 128 := by
  unfold impl_hexOf impl_Hex
  have hc : ¬ (p0.size : Int) > 20000 := by omega
  simp only [hc, decide_false, cond_false]
  show ((Lib.Hx.encode (sbytes p0)).toArray).size ≤ 128
  rw [List.size_toArray, Lib.Hx.encode_length, sbytes_length]
  omega

/- F57 loop.example/g00974/spec.Hex -/
def spec_Hex_l1 (p0 : ByteArray) : Nat → (List UInt8) → Nat → ByteArray × Bool
  | 0, v4, i => (bstr v4, true)
  | n + 1, v4, i => spec_Hex_l1 p0 n (v4 ++ [fig (IntKind.i64.wrap (Int.tdiv (IntKind.i64.wrap ((byteAt p0 i).toNat : Int)) 16)), fig (Int.tmod (IntKind.i64.wrap ((byteAt p0 i).toNat : Int)) 16)]) (i + 1)
def spec_Hex (p0 : ByteArray) : ByteArray × Bool := bif decide ((p0.size : Int) > 20000) then (⟨#[]⟩, false) else (spec_Hex_l1 p0 (p0.size - 0) ([] : List UInt8) 0)
theorem c_spec_Hex (p0 : ByteArray) (hz_p0 : p0.size ≤ 9223372036854775807) : CTs 57 [.o (.c (.string p0))] [Re.c (.string ((spec_Hex p0).1)), Re.c (.bool ((spec_Hex p0).2))] := by
  refine en Tryd.func57 Tryd.ntmps57 fun w hG hgd => ?_
  have hM := spec_Hex.eq_1 p0
  refine ad 12 ?_
  refine cd (fun h1 => ?_) (fun h1 => ?_)
  ·
    have hM := hM.trans (bt h1)
    refine ad 5 ?_
    exact rz (rs := [.tmp 2, .tmp 3]) (congrArg (fun x => [Re.c (.string x.1), Re.c (.bool x.2)]) hM)
  ·
    have hM := hM.trans (bf h1)
    refine ad 3 ?_
    refine op (l0) ?_
    refine ad 8 ?_
    refine li 0 (d := instDatUInt8) ([] : List UInt8) ?_
    refine Run.loopM (ι := (List UInt8) × Nat) (fun s => spec_Hex_l1 p0 (p0.size - s.2) s.1 s.2) (fun s => ⟨33, 1, [(0, .v (.string p0)), (4, .sl 0 s.1.length), (5, .v (.int .i64 (s.2 : Int)))], [(0, .own UInt8 instDatUInt8 s.1)]⟩) (fun s => s.2 ≤ p0.size ∧ s.1.length = 2 * s.2) (fun s => p0.size - s.2) (([] : List UInt8), 0) [0] [0] hM (by dsimp only; exact ⟨by omega, rfl⟩) su (by decide) ?_
    rintro ⟨v4, i⟩ hv hE
    try dsimp only at hE
    obtain ⟨hi, hv0⟩ := hv
    try dsimp only at hi hv0
    refine ad 8 ?_
    refine cd (fun h2 => ?_) (fun h2 => ?_)
    ·
      have h2l : i < p0.size := by have := of_decide_eq_true h2; omega
      have hM := hE.trans ((congrArg (fun n => spec_Hex_l1 p0 n v4 i) (show p0.size - i = (p0.size - (i + 1)) + 1 by omega)).trans (spec_Hex_l1.eq_2 _ _ _ _))
      refine ad 3 ?_
      refine ds 16 [] fun _ _ _ _ _ hb => ?_
      refine tk [0, 1, 2] ?_
      refine tx 3 (tsx (s := p0) i om) ?_
      refine tk [4] ?_
      refine tx 5 (tqo) ?_
      refine tk [7, 8] ?_
      refine tx 9 (tsx (s := p0) i om) ?_
      refine tk [10] ?_
      refine tx 11 (trm) ?_
      refine on 6 [] (cl (k_spec_l01Figure (IntKind.i64.wrap (Int.tdiv (IntKind.i64.wrap ((byteAt p0 i).toNat : Int)) 16))) fok85) ?_
      refine on 12 [] (cl (k_spec_l01Figure (Int.tmod (IntKind.i64.wrap ((byteAt p0 i).toNat : Int)) 16)) fok85) ?_
      refine on 13 [] (OpS.st rfl) ?_
      refine on 14 [] (ap [fig (IntKind.i64.wrap (Int.tdiv (IntKind.i64.wrap ((byteAt p0 i).toNat : Int)) 16)), fig (Int.tmod (IntKind.i64.wrap ((byteAt p0 i).toNat : Int)) 16)] (hg := gdt) (hb := by simp only [List.length_cons, List.length_nil]; first | omega | exact om)) ?_
      refine tk [15] ?_
      refine dn hb ?_
      refine ad 4 ?_
      rw [wrapN (i := i) (by first | omega | exact om)]
      refine ad 2 ?_
      exact Run.again ((v4 ++ [fig (IntKind.i64.wrap (Int.tdiv (IntKind.i64.wrap ((byteAt p0 i).toNat : Int)) 16)), fig (Int.tmod (IntKind.i64.wrap ((byteAt p0 i).toNat : Int)) 16)]), (i + 1)) [2] [1] ⟨by dsimp only; exact ⟨by omega, by simp only [List.length_append, List.length_cons, List.length_nil]; omega⟩, hM⟩ rfl (by show _ - _ < _ - _; (try dsimp only); omega) su (by decide)
    ·
      have h2l : ¬ (i < p0.size) := by have := of_decide_eq_false h2; omega
      have hM := hE.trans ((congrArg (fun n => spec_Hex_l1 p0 n v4 i) (show p0.size - i = 0 by omega)).trans (spec_Hex_l1.eq_1 _ _ _))
      refine ad 4 ?_
      refine op (ts v4) ?_
      refine ad 3 ?_
      exact rz (rs := [.tmp 2, .tmp 3]) (congrArg (fun x => [Re.c (.string x.1), Re.c (.bool x.2)]) hM)

/- F52 loop.example/g00974/spec.l38Fits -/
def spec_l38Fits (p0 : Int) : Bool := (spec_l01In p0 0 1000000000)
theorem c_spec_l38Fits (p0 : Int) : CTs 52 [.o (.c (.int .i64 p0))] [Re.c (.bool (spec_l38Fits p0))] := by
  refine en Tryd.func52 Tryd.ntmps52 fun w hG hgd => ?_
  have hM := spec_l38Fits.eq_1 p0
  refine ad 7 ?_
  refine op (cl (k_spec_l01In p0 0 1000000000) fok46) ?_
  refine ad 2 ?_
  exact rz (rs := [.tmp 2]) (congrArg (fun x => [Re.c (.bool x)]) hM)

end Go.Proofs.YtmjjcihoobnbgaaDoor.Fw