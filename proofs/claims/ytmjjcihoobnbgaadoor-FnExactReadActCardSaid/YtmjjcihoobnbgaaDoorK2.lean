/- Contracts: each call returns what the model says. By program (wip/am/gen2.py). -/
import Derived.Test.YtmjjcihoobnbgaaDoorPH
namespace Go.Proofs.YtmjjcihoobnbgaaDoor.Fw
open Go.RowKit
set_option linter.unusedVariables false
set_option maxRecDepth 100000

theorem fok32 : FnOk Tryd.prog 32 := ⟨_, Tryd.func32, rfl, by kernel_rfl⟩
theorem fok35 : FnOk Tryd.prog 35 := ⟨_, Tryd.func35, rfl, by kernel_rfl⟩
theorem fok47 : FnOk Tryd.prog 47 := ⟨_, Tryd.func47, rfl, by kernel_rfl⟩
theorem fok49 : FnOk Tryd.prog 49 := ⟨_, Tryd.func49, rfl, by kernel_rfl⟩
theorem fok50 : FnOk Tryd.prog 50 := ⟨_, Tryd.func50, rfl, by kernel_rfl⟩
theorem fok51 : FnOk Tryd.prog 51 := ⟨_, Tryd.func51, rfl, by kernel_rfl⟩
theorem fok52 : FnOk Tryd.prog 52 := ⟨_, Tryd.func52, rfl, by kernel_rfl⟩
theorem fok53 : FnOk Tryd.prog 53 := ⟨_, Tryd.func53, rfl, by kernel_rfl⟩
theorem fok54 : FnOk Tryd.prog 54 := ⟨_, Tryd.func54, rfl, by kernel_rfl⟩
theorem fok55 : FnOk Tryd.prog 55 := ⟨_, Tryd.func55, rfl, by kernel_rfl⟩
theorem fok56 : FnOk Tryd.prog 56 := ⟨_, Tryd.func56, rfl, by kernel_rfl⟩
theorem fok57 : FnOk Tryd.prog 57 := ⟨_, Tryd.func57, rfl, by kernel_rfl⟩
theorem fok61 : FnOk Tryd.prog 61 := ⟨_, Tryd.func61, rfl, by kernel_rfl⟩
theorem fok83 : FnOk Tryd.prog 83 := ⟨_, Tryd.func83, rfl, by kernel_rfl⟩
theorem fok84 : FnOk Tryd.prog 84 := ⟨_, Tryd.func84, rfl, by kernel_rfl⟩
theorem eqt28 : ∀ (d : Nat) (x y : Call) (w : World), (Op.equalIn (d + 10) 28 (.agg [.int .i64 x.Kind, .string x.Name, .string x.To, .int .i64 x.A, .int .i64 x.B, .string x.Text].toArray) (.agg [.int .i64 y.Kind, .string y.Name, .string y.To, .int .i64 y.A, .int .i64 y.B, .string y.Text].toArray)).run Tryd.prog w = .ok (decide (x = y)) w := by
  intro d x y w
  have u3 := Tryd.underlying3
  have a3 := Tryd.isAgg3
  have z3 := Tryd.sizeOf3
  have u9 := Tryd.underlying9
  have a9 := Tryd.isAgg9
  have z9 := Tryd.sizeOf9
  have hS : Tryd.prog.underlying 28 = some (.struct (Tryd.prog.fieldsOf 28)) := by kernel_rfl
  have hp : Tryd.prog.stoodInHeld 28 = false := by kernel_rfl
  rw [run_equalIn_agg w (d + 9) 28 _ _ hS hp]
  simp only [Program.fieldsOf, Tryd.underlying28]
  obtain ⟨z1, z2, z3, z4, z5, z6⟩ := x
  obtain ⟨z7, z8, z9, z10, z11, z12⟩ := y
  go_simp
  simp only [bt_inj]
  repeat' split
  all_goals simp_all
theorem eqp28 (x y : Call) : eqP Tryd.prog 28 [.int .i64 x.Kind, .string x.Name, .string x.To, .int .i64 x.A, .int .i64 x.B, .string x.Text] [.int .i64 y.Kind, .string y.Name, .string y.To, .int .i64 y.A, .int .i64 y.B, .string y.Text] (decide (x = y)) := ⟨by kernel_rfl, fun w => eqt28 9990 x y w⟩
/- F49 (loop.example/g00974/impl.Call).fieldText -/
def impl_Call_fieldText (p0 : Call) (p1 : Int) : ByteArray × Bool := bif decide (p1 = 78) then (p0.Name, (impl_NameOk p0.Name)) else (bif decide (p1 = 84) then (p0.To, (impl_NameOk p0.To)) else (bif decide (p1 = 65) then ((impl_Decimal p0.A), (impl_within p0.A 0 1000000000)) else (bif decide (p1 = 66) then ((impl_Decimal p0.B), (impl_within p0.B 0 1000000000)) else (bif decide (p0.Text = ⟨#[]⟩) then (⟨#[45]⟩, true) else ((impl_hexOf p0.Text), true)))))
theorem c_impl_Call_fieldText (p0 : Call) (p1 : Int) : CTs 49 [.o (.st Call _ inferInstance p0), .o (.c (.int .i32 p1))] [Re.c (.string ((impl_Call_fieldText p0 p1).1)), Re.c (.bool ((impl_Call_fieldText p0 p1).2))] := by
  refine en Tryd.func49 Tryd.ntmps49 fun w hG hgd => ?_
  obtain ⟨hg_p0, _⟩ := hgd
  have hM := impl_Call_fieldText.eq_1 p0 p1
  refine ad 17 ?_
  refine cd (fun h1 => ?_) (fun h1 => ?_)
  ·
    have hM := hM.trans (bt h1)
    refine ad 1 ?_
    refine dr 7 fun _ _ _ _ _ hb => ?_
    refine tk [0, 1, 2, 3] ?_
    refine on 4 [0] (cl (c_impl_NameOk p0.Name hg_p0.2.1) fok83) ?_
    refine tk [5, 6] ?_
    refine dn hb ?_
    exact rz (rs := [.tmp 4, .tmp 5]) (congrArg (fun x => [Re.c (.string x.1), Re.c (.bool x.2)]) hM)
  ·
    have hM := hM.trans (bf h1)
    refine ad 5 ?_
    refine cd (fun h2 => ?_) (fun h2 => ?_)
    ·
      have hM := hM.trans (bt h2)
      refine ad 1 ?_
      refine dr 7 fun _ _ _ _ _ hb => ?_
      refine tk [0, 1, 2, 3] ?_
      refine on 4 [0] (cl (c_impl_NameOk p0.To hg_p0.2.2.1) fok83) ?_
      refine tk [5, 6] ?_
      refine dn hb ?_
      exact rz (rs := [.tmp 4, .tmp 5]) (congrArg (fun x => [Re.c (.string x.1), Re.c (.bool x.2)]) hM)
    ·
      have hM := hM.trans (bf h2)
      refine ad 5 ?_
      refine cd (fun h3 => ?_) (fun h3 => ?_)
      ·
        have hM := hM.trans (bt h3)
        refine ad 1 ?_
        refine dr 8 fun _ _ _ _ _ hb => ?_
        refine tk [0, 1, 3, 4] ?_
        have hs4 := impl_Decimal_size (p0 := p0.A) hg_p0.2.2.2.1
        refine on 2 [0] (cl (k_impl_Decimal p0.A hg_p0.2.2.2.1) fok61) ?_
        refine on 5 [0] (cl (k_impl_within p0.A 0 1000000000) fok45) ?_
        refine tk [6, 7] ?_
        refine dn hb ?_
        exact rz (rs := [.tmp 4, .tmp 5]) (congrArg (fun x => [Re.c (.string x.1), Re.c (.bool x.2)]) hM)
      ·
        have hM := hM.trans (bf h3)
        refine ad 5 ?_
        refine cd (fun h5 => ?_) (fun h5 => ?_)
        ·
          have hM := hM.trans (bt h5)
          refine ad 1 ?_
          refine dr 8 fun _ _ _ _ _ hb => ?_
          refine tk [0, 1, 3, 4] ?_
          have hs6 := impl_Decimal_size (p0 := p0.B) hg_p0.2.2.2.2.1
          refine on 2 [0] (cl (k_impl_Decimal p0.B hg_p0.2.2.2.2.1) fok61) ?_
          refine on 5 [0] (cl (k_impl_within p0.B 0 1000000000) fok45) ?_
          refine tk [6, 7] ?_
          refine dn hb ?_
          exact rz (rs := [.tmp 4, .tmp 5]) (congrArg (fun x => [Re.c (.string x.1), Re.c (.bool x.2)]) hM)
        ·
          have hM := hM.trans (bf h5)
          refine ad 9 ?_
          refine cd (fun h7 => ?_) (fun h7 => ?_)
          ·
            have hM := hM.trans (bt h7)
            refine ad 5 ?_
            exact rz (rs := [.tmp 4, .tmp 5]) (congrArg (fun x => [Re.c (.string x.1), Re.c (.bool x.2)]) hM)
          ·
            have hM := hM.trans (bf h7)
            refine ad 5 ?_
            refine op (cl (c_impl_hexOf p0.Text hg_p0.2.2.2.2.2) fok84) ?_
            refine ad 3 ?_
            exact rz (rs := [.tmp 4, .tmp 5]) (congrArg (fun x => [Re.c (.string x.1), Re.c (.bool x.2)]) hM)
theorem szp {b : Bool} {x y : ByteArray × Bool} {n : Nat} (hx : x.1.size ≤ n) (hy : y.1.size ≤ n) : (bif b then x else y).1.size ≤ n := by cases b <;> assumption
theorem impl_Call_fieldText_size {p0 : Call} {p1 : Int} (hg : Dat.good p0) (h1 : p0.Name.size ≤ 20) (h2 : p0.To.size ≤ 20) (h3 : p0.Text.size ≤ 64) : (impl_Call_fieldText p0 p1).1.size ≤ 128 := by
  have a1 : (impl_Decimal p0.A).size ≤ 20 := impl_Decimal_size hg.2.2.2.1
  have a2 : (impl_Decimal p0.B).size ≤ 20 := impl_Decimal_size hg.2.2.2.2.1
  have a3 := impl_hexOf_size h3
  unfold impl_Call_fieldText
  have hz1 : (⟨#[45]⟩ : ByteArray).size ≤ 128 := Nat.le_of_ble_eq_true rfl
  have hz2 : p0.Name.size ≤ 128 := by omega
  have hz3 : p0.To.size ≤ 128 := by omega
  have hz4 : (impl_Decimal p0.A).size ≤ 128 := by omega
  have hz5 : (impl_Decimal p0.B).size ≤ 128 := by omega
  exact szp hz2 (szp hz3 (szp hz4 (szp hz5 (szp hz1 a3))))

/- F14 loop.example/g00974/impl.CallLine -/
def impl_CallLine_l1 (p0 : Call) : Nat → Nat → ByteArray → ByteArray
  | 0, i, v3 => v3
  | n + 1, i, v3 => bif !((impl_Call_fieldText p0 ((byteAt (impl_fieldsOf p0.Kind) i).toNat : Int)).2) then ⟨#[]⟩ else (impl_CallLine_l1 p0 n (i + 1) (v3 ++ (⟨#[32]⟩ ++ ((impl_Call_fieldText p0 ((byteAt (impl_fieldsOf p0.Kind) i).toNat : Int)).1))))
def impl_CallLine (p0 : Call) : ByteArray := bif (!(impl_CallOk p0)) || (!(decide (p0 = (impl_Told p0)))) then ⟨#[]⟩ else (impl_CallLine_l1 p0 (((impl_fieldsOf p0.Kind).size) - 0) 0 (impl_CallName p0.Kind))
theorem c_impl_CallLine (p0 : Call) : CTs 14 [.o (.st Call _ inferInstance p0)] [Re.c (.string (impl_CallLine p0))] := by
  refine en Tryd.func14 Tryd.ntmps14 fun w hG hgd => ?_
  obtain ⟨hg_p0, _⟩ := hgd
  have hM := impl_CallLine.eq_1 p0
  refine ad 7 ?_
  refine dr 9 fun _ _ _ _ _ hb => ?_
  refine tk [0] ?_
  refine on 1 [0] (cl (c_impl_CallOk p0) fok47) ?_
  refine tk [2, 3, 4, 5] ?_
  refine on 6 [0] (cGs (hct := fun hB => (c_impl_Told p0)) (hfn := fok32)) ?_
  refine on 7 [0] (qg (fun _ => (eqp28 p0 (impl_Told p0)))) ?_
  refine tk [8] ?_
  refine dn hb ?_
  refine cd (fun h1 => ?_) (fun h1 => ?_)
  ·
    have hM := hM.trans (bt h1)
    refine ad 4 ?_
    exact rz (rs := [.tmp 2]) (congrArg (fun x => [Re.c (.string x)]) hM)
  ·
    have hM := hM.trans (bf h1)
    have th1_0 := impl_CallOk_t (by have hq := (Bool.or_eq_false_iff.1 h1).1; simpa using hq)
    refine ad 5 ?_
    refine op (cl (c_impl_CallName p0.Kind) fok35) ?_
    refine ad 7 ?_
    refine op (cl (c_impl_fieldsOf p0.Kind) fok48) ?_
    refine op (rg) ?_
    refine ad 2 ?_
    have hfs := impl_fieldsOf_size p0.Kind
    have hcn := impl_CallName_size p0.Kind
    refine Run.loopM (ι := Nat × ByteArray) (fun s => impl_CallLine_l1 p0 (((impl_fieldsOf p0.Kind).size) - s.1) s.1 s.2) (fun s => ⟨40, 2, [(1, .pt 0 0), (3, .v (.string s.2)), (23, .pt 1 0)], [(0, .var [.v (.int .i64 p0.Kind), .v (.string p0.Name), .v (.string p0.To), .v (.int .i64 p0.A), .v (.int .i64 p0.B), .v (.string p0.Text)] 28), (1, .itr (impl_fieldsOf p0.Kind) s.1)]⟩) (fun s => s.1 ≤ (impl_fieldsOf p0.Kind).size ∧ s.2.size ≤ 10 + 200 * s.1) (fun s => ((impl_fieldsOf p0.Kind).size) - s.1) (0, (impl_CallName p0.Kind)) [0, 1] [1, 0] hM (by dsimp only; exact ⟨by omega, by omega⟩) su (by decide) ?_
    rintro ⟨i, v3⟩ hv hE
    try dsimp only at hE
    obtain ⟨hi, hv0⟩ := hv
    try dsimp only at hi hv0
    refine ad 2 ?_
    refine nx (fun h2 => ?_) (fun h2 => ?_) (asc_impl_fieldsOf p0.Kind)
    ·
      have hM := hE.trans ((congrArg (fun n => impl_CallLine_l1 p0 n i v3) (show ((impl_fieldsOf p0.Kind).size) - i = (((impl_fieldsOf p0.Kind).size) - (i + 1)) + 1 by omega)).trans (impl_CallLine_l1.eq_2 _ _ _ _))
      refine ad 15 ?_
      have hs3 := impl_Call_fieldText_size (p0 := p0) (p1 := ((byteAt (impl_fieldsOf p0.Kind) i).toNat : Int)) (by assumption) (by omega) (by omega) (by omega)
      refine op (cl (c_impl_Call_fieldText p0 ((byteAt (impl_fieldsOf p0.Kind) i).toNat : Int)) fok49) ?_
      refine ad 12 ?_
      refine cd (fun h4 => ?_) (fun h4 => ?_)
      ·
        have hM := hM.trans (bt h4)
        refine ad 4 ?_
        exact rz (rs := [.tmp 2]) (congrArg (fun x => [Re.c (.string x)]) hM)
      ·
        have hM := hM.trans (bf h4)
        refine ad 4 ?_
        refine op (ca (hs := szt)) ?_
        refine op (ca (hs := szt)) ?_
        refine ad 3 ?_
        exact Run.again ((i + 1), v3 ++ (⟨#[32]⟩ ++ ((impl_Call_fieldText p0 ((byteAt (impl_fieldsOf p0.Kind) i).toNat : Int)).1))) [0, 1] [0, 1] ⟨by exact ⟨by omega, by dsimp only; (try simp only [Bool.cond_eq_ite]); (repeat' split); all_goals ((try simp only [ByteArray.size_append, bts, List.size_toArray, List.length_cons, List.length_nil]); omega)⟩, hM⟩ rfl (by show _ - _ < _ - _; (try dsimp only); omega) su (by decide)
    ·
      have hM := hE.trans ((congrArg (fun n => impl_CallLine_l1 p0 n i v3) (show ((impl_fieldsOf p0.Kind).size) - i = 0 by omega)).trans (impl_CallLine_l1.eq_1 _ _ _))
      refine ad 10 ?_
      exact rz (rs := [.tmp 2]) (congrArg (fun x => [Re.c (.string x)]) hM)

/- F16 loop.example/g00974/spec.CallLine -/
def spec_CallLine_l1 (p0 : Call) : Nat → ByteArray → Nat → ByteArray
  | 0, v3, i => v3
  | n + 1, v3, i => bif decide (((byteAt (spec_l38Uses p0.Kind) i).toNat : Int) = 110) then (bif !(spec_NameOk p0.Name) then ⟨#[]⟩ else (spec_CallLine_l1 p0 n ((v3 ++ ⟨#[32]⟩) ++ p0.Name) (i + 1))) else (bif decide (((byteAt (spec_l38Uses p0.Kind) i).toNat : Int) = 116) then (bif !(spec_NameOk p0.To) then ⟨#[]⟩ else (spec_CallLine_l1 p0 n ((v3 ++ ⟨#[32]⟩) ++ p0.To) (i + 1))) else (spec_CallLine_l1 p0 n (bif (decide (((byteAt (spec_l38Uses p0.Kind) i).toNat : Int) = 97)) then ((v3 ++ ⟨#[32]⟩) ++ (spec_Decimal p0.A)) else (bif (decide (((byteAt (spec_l38Uses p0.Kind) i).toNat : Int) = 98)) then ((v3 ++ ⟨#[32]⟩) ++ (spec_Decimal p0.B)) else ((v3 ++ ⟨#[32]⟩) ++ (bif (decide (((spec_Hex p0.Text).1) = ⟨#[]⟩)) then ⟨#[45]⟩ else ((spec_Hex p0.Text).1))))) (i + 1)))
def spec_CallLine (p0 : Call) : ByteArray := bif (((!(spec_CallOk p0)) || (!(decide ((spec_Told p0) = p0)))) || (!(spec_l38Fits p0.A))) || (!(spec_l38Fits p0.B)) then ⟨#[]⟩ else (spec_CallLine_l1 p0 (((spec_l38Uses p0.Kind).size) - 0) (spec_CallName p0.Kind) 0)
theorem c_spec_CallLine (p0 : Call) : CTs 16 [.o (.st Call _ inferInstance p0)] [Re.c (.string (spec_CallLine p0))] := by
  refine en Tryd.func16 Tryd.ntmps16 fun w hG hgd => ?_
  obtain ⟨hg_p0, _⟩ := hgd
  have hM := spec_CallLine.eq_1 p0
  refine ad 7 ?_
  refine dr 21 fun _ _ _ _ _ hb => ?_
  refine tk [0] ?_
  refine on 1 [0] (cl (c_spec_CallOk p0) fok50) ?_
  refine tk [2, 3, 4, 6] ?_
  refine on 5 [0] (cGs (hct := fun hB => (c_spec_Told p0)) (hfn := fok51)) ?_
  refine on 7 [0] (qg (fun _ => (eqp28 (spec_Told p0) p0))) ?_
  refine tk [8, 9, 10, 11] ?_
  refine on 12 [0] (cG (hct := fun hB => (c_spec_l38Fits p0.A)) (hfn := fok52)) ?_
  refine tk [13, 14, 15, 16, 17] ?_
  refine on 18 [0] (cG (hct := fun hB => (c_spec_l38Fits p0.B)) (hfn := fok52)) ?_
  refine tk [19, 20] ?_
  refine dn hb ?_
  refine cd (fun h1 => ?_) (fun h1 => ?_)
  ·
    have hM := hM.trans (bt h1)
    refine ad 4 ?_
    exact rz (rs := [.tmp 2]) (congrArg (fun x => [Re.c (.string x)]) hM)
  ·
    have hM := hM.trans (bf h1)
    have th1_0 := spec_CallOk_t (by have hq := (Bool.or_eq_false_iff.1 (Bool.or_eq_false_iff.1 (Bool.or_eq_false_iff.1 h1).1).1).1; simpa using hq)
    refine ad 5 ?_
    refine op (cl (c_spec_CallName p0.Kind) fok53) ?_
    refine ad 6 ?_
    refine op (cl (c_spec_l38Uses p0.Kind) fok54) ?_
    refine ad 8 ?_
    have hfs := spec_l38Uses_size p0.Kind
    have hcn := spec_CallName_size p0.Kind
    have hda : (spec_Decimal p0.A).size ≤ 20 := spec_Decimal_size hg_p0.2.2.2.1
    have hdb : (spec_Decimal p0.B).size ≤ 20 := spec_Decimal_size hg_p0.2.2.2.2.1
    have hhx : (spec_Hex p0.Text).1.size ≤ 128 := spec_Hex_size (by omega)
    have hz2 : (spec_l38Uses p0.Kind).size ≤ 9223372036854775807 := szt
    refine Run.loopM (ι := ByteArray × Nat) (fun s => spec_CallLine_l1 p0 (((spec_l38Uses p0.Kind).size) - s.2) s.1 s.2) (fun s => ⟨95, 1, [(1, .pt 0 0), (3, .v (.string s.1)), (4, .v (.string (spec_l38Uses p0.Kind))), (5, .v (.int .i64 (s.2 : Int)))], [(0, .var [.v (.int .i64 p0.Kind), .v (.string p0.Name), .v (.string p0.To), .v (.int .i64 p0.A), .v (.int .i64 p0.B), .v (.string p0.Text)] 28)]⟩) (fun s => s.2 ≤ (spec_l38Uses p0.Kind).size ∧ s.1.size ≤ 10 + 200 * s.2) (fun s => ((spec_l38Uses p0.Kind).size) - s.2) ((spec_CallName p0.Kind), 0) [0] [0] hM (by dsimp only; exact ⟨by omega, by omega⟩) su (by decide) ?_
    rintro ⟨v3, i⟩ hv hE
    try dsimp only at hE
    obtain ⟨hi, hv0⟩ := hv
    try dsimp only at hi hv0
    refine ad 8 ?_
    refine cd (fun h3 => ?_) (fun h3 => ?_)
    ·
      have h3l : i < (spec_l38Uses p0.Kind).size := by have := of_decide_eq_true h3; omega
      have hM := hE.trans ((congrArg (fun n => spec_CallLine_l1 p0 n v3 i) (show ((spec_l38Uses p0.Kind).size) - i = (((spec_l38Uses p0.Kind).size) - (i + 1)) + 1 by omega)).trans (spec_CallLine_l1.eq_2 _ _ _ _))
      refine ad 7 ?_
      refine op (sx (s := (spec_l38Uses p0.Kind)) i om) ?_
      refine ad 7 ?_
      refine cd (fun h4 => ?_) (fun h4 => ?_)
      ·
        have hM := hM.trans (bt h4)
        refine ad 5 ?_
        refine op (cl (c_spec_NameOk p0.Name hg_p0.2.1) fok55) ?_
        refine ad 2 ?_
        refine cd (fun h5 => ?_) (fun h5 => ?_)
        ·
          have hM := hM.trans (bt h5)
          refine ad 4 ?_
          exact rz (rs := [.tmp 2]) (congrArg (fun x => [Re.c (.string x)]) hM)
        ·
          have hM := hM.trans (bf h5)
          refine ad 3 ?_
          refine op (ca (hs := (by first | exact szt | ((try simp only [Bool.cond_eq_ite]); (repeat' split); all_goals ((try simp only [ByteArray.size_append, bts, List.size_toArray, List.length_cons, List.length_nil]); omega))))) ?_
          refine ad 2 ?_
          refine op (ca (hs := (by first | exact szt | ((try simp only [Bool.cond_eq_ite]); (repeat' split); all_goals ((try simp only [ByteArray.size_append, bts, List.size_toArray, List.length_cons, List.length_nil]); omega))))) ?_
          refine ad 7 ?_
          rw [wrapN (i := i) (by first | omega | exact om)]
          refine ad 2 ?_
          exact Run.again ((v3 ++ ⟨#[32]⟩) ++ p0.Name, (i + 1)) [0] [0] ⟨by exact ⟨by omega, by dsimp only; (try simp only [Bool.cond_eq_ite]); (repeat' split); all_goals ((try simp only [ByteArray.size_append, bts, List.size_toArray, List.length_cons, List.length_nil]); omega)⟩, hM⟩ rfl (by show _ - _ < _ - _; (try dsimp only); omega) su (by decide)
      ·
        have hM := hM.trans (bf h4)
        refine ad 5 ?_
        refine cd (fun h6 => ?_) (fun h6 => ?_)
        ·
          have hM := hM.trans (bt h6)
          refine ad 5 ?_
          refine op (cl (c_spec_NameOk p0.To hg_p0.2.2.1) fok55) ?_
          refine ad 2 ?_
          refine cd (fun h7 => ?_) (fun h7 => ?_)
          ·
            have hM := hM.trans (bt h7)
            refine ad 4 ?_
            exact rz (rs := [.tmp 2]) (congrArg (fun x => [Re.c (.string x)]) hM)
          ·
            have hM := hM.trans (bf h7)
            refine ad 3 ?_
            refine op (ca (hs := (by first | exact szt | ((try simp only [Bool.cond_eq_ite]); (repeat' split); all_goals ((try simp only [ByteArray.size_append, bts, List.size_toArray, List.length_cons, List.length_nil]); omega))))) ?_
            refine ad 2 ?_
            refine op (ca (hs := (by first | exact szt | ((try simp only [Bool.cond_eq_ite]); (repeat' split); all_goals ((try simp only [ByteArray.size_append, bts, List.size_toArray, List.length_cons, List.length_nil]); omega))))) ?_
            refine ad 7 ?_
            rw [wrapN (i := i) (by first | omega | exact om)]
            refine ad 2 ?_
            exact Run.again ((v3 ++ ⟨#[32]⟩) ++ p0.To, (i + 1)) [0] [0] ⟨by exact ⟨by omega, by dsimp only; (try simp only [Bool.cond_eq_ite]); (repeat' split); all_goals ((try simp only [ByteArray.size_append, bts, List.size_toArray, List.length_cons, List.length_nil]); omega)⟩, hM⟩ rfl (by show _ - _ < _ - _; (try dsimp only); omega) su (by decide)
        ·
          have hM := hM.trans (bf h6)
          refine ad 5 ?_
          refine Run.mid ⟨95, 1, [(1, .pt 0 0), (3, .v (.string (bif (decide (((byteAt (spec_l38Uses p0.Kind) i).toNat : Int) = 97)) then ((v3 ++ ⟨#[32]⟩) ++ (spec_Decimal p0.A)) else (bif (decide (((byteAt (spec_l38Uses p0.Kind) i).toNat : Int) = 98)) then ((v3 ++ ⟨#[32]⟩) ++ (spec_Decimal p0.B)) else ((v3 ++ ⟨#[32]⟩) ++ (bif (decide (((spec_Hex p0.Text).1) = ⟨#[]⟩)) then ⟨#[45]⟩ else ((spec_Hex p0.Text).1))))))), (4, .v (.string (spec_l38Uses p0.Kind))), (5, .v (.int .i64 (i : Int)))], [(0, .var [.v (.int .i64 p0.Kind), .v (.string p0.Name), .v (.string p0.To), .v (.int .i64 p0.A), .v (.int .i64 p0.B), .v (.string p0.Text)] 28)]⟩ ?_ ?_
          · refine cd (fun h8 => ?_) (fun h8 => ?_)
            ·
              refine ad 2 ?_
              refine op (ca (hs := (by first | exact szt | ((try simp only [Bool.cond_eq_ite]); (repeat' split); all_goals ((try simp only [ByteArray.size_append, bts, List.size_toArray, List.length_cons, List.length_nil]); omega))))) ?_
              refine ad 2 ?_
              have hs9 := spec_Decimal_size (p0 := p0.A) hg_p0.2.2.2.1
              refine op (cl (k_spec_Decimal p0.A hg_p0.2.2.2.1) fok56) ?_
              refine op (ca (hs := (by first | exact szt | ((try simp only [Bool.cond_eq_ite]); (repeat' split); all_goals ((try simp only [ByteArray.size_append, bts, List.size_toArray, List.length_cons, List.length_nil]); omega))))) ?_
              refine ad 2 ?_
              exact Run.at [0] [0] (by first | exact su | (rw [h8]; exact su)) (by decide)
            ·
              refine ad 5 ?_
              refine Run.mid ⟨95, 1, [(1, .pt 0 0), (3, .v (.string (bif (decide (((byteAt (spec_l38Uses p0.Kind) i).toNat : Int) = 98)) then ((v3 ++ ⟨#[32]⟩) ++ (spec_Decimal p0.B)) else ((v3 ++ ⟨#[32]⟩) ++ (bif (decide (((spec_Hex p0.Text).1) = ⟨#[]⟩)) then ⟨#[45]⟩ else ((spec_Hex p0.Text).1)))))), (4, .v (.string (spec_l38Uses p0.Kind))), (5, .v (.int .i64 (i : Int)))], [(0, .var [.v (.int .i64 p0.Kind), .v (.string p0.Name), .v (.string p0.To), .v (.int .i64 p0.A), .v (.int .i64 p0.B), .v (.string p0.Text)] 28)]⟩ ?_ ?_
              · refine cd (fun h10 => ?_) (fun h10 => ?_)
                ·
                  refine ad 2 ?_
                  refine op (ca (hs := (by first | exact szt | ((try simp only [Bool.cond_eq_ite]); (repeat' split); all_goals ((try simp only [ByteArray.size_append, bts, List.size_toArray, List.length_cons, List.length_nil]); omega))))) ?_
                  refine ad 2 ?_
                  have hs11 := spec_Decimal_size (p0 := p0.B) hg_p0.2.2.2.2.1
                  refine op (cl (k_spec_Decimal p0.B hg_p0.2.2.2.2.1) fok56) ?_
                  refine op (ca (hs := (by first | exact szt | ((try simp only [Bool.cond_eq_ite]); (repeat' split); all_goals ((try simp only [ByteArray.size_append, bts, List.size_toArray, List.length_cons, List.length_nil]); omega))))) ?_
                  refine ad 2 ?_
                  exact Run.at [0] [0] (by first | exact su | (rw [h10]; exact su)) (by decide)
                ·
                  refine ad 4 ?_
                  have hs12 := spec_Hex_size (p0 := p0.Text) (by omega)
                  refine op (cl (c_spec_Hex p0.Text hg_p0.2.2.2.2.2) fok57) ?_
                  refine ad 12 ?_
                  refine Run.mid ⟨95, 1, [(1, .pt 0 0), (3, .v (.string v3)), (4, .v (.string (spec_l38Uses p0.Kind))), (5, .v (.int .i64 (i : Int))), (6, .v (.string (bif (decide (((spec_Hex p0.Text).1) = ⟨#[]⟩)) then ⟨#[45]⟩ else ((spec_Hex p0.Text).1))))], [(0, .var [.v (.int .i64 p0.Kind), .v (.string p0.Name), .v (.string p0.To), .v (.int .i64 p0.A), .v (.int .i64 p0.B), .v (.string p0.Text)] 28)]⟩ ?_ ?_
                  · refine cd (fun h13 => ?_) (fun h13 => ?_)
                    ·
                      refine ad 3 ?_
                      exact Run.at [0] [0] (by first | exact su | (rw [h13]; exact su)) (by decide)
                    ·
                      refine ad 1 ?_
                      exact Run.at [0] [0] (by first | exact su | (rw [h13]; exact su)) (by decide)
                  refine ad 2 ?_
                  refine op (ca (hs := (by first | exact szt | ((try simp only [Bool.cond_eq_ite]); (repeat' split); all_goals ((try simp only [ByteArray.size_append, bts, List.size_toArray, List.length_cons, List.length_nil]); omega))))) ?_
                  refine ad 1 ?_
                  refine op (ca (hs := (by first | exact szt | ((try simp only [Bool.cond_eq_ite]); (repeat' split); all_goals ((try simp only [ByteArray.size_append, bts, List.size_toArray, List.length_cons, List.length_nil]); omega))))) ?_
                  refine ad 2 ?_
                  exact Run.at [0] [0] (by first | exact su | (rw [h10]; exact su)) (by decide)
              exact Run.at [0] [0] (by first | exact su | (rw [h8]; exact su)) (by decide)
          refine ad 5 ?_
          rw [wrapN (i := i) (by first | omega | exact om)]
          refine ad 2 ?_
          exact Run.again (bif (decide (((byteAt (spec_l38Uses p0.Kind) i).toNat : Int) = 97)) then ((v3 ++ ⟨#[32]⟩) ++ (spec_Decimal p0.A)) else (bif (decide (((byteAt (spec_l38Uses p0.Kind) i).toNat : Int) = 98)) then ((v3 ++ ⟨#[32]⟩) ++ (spec_Decimal p0.B)) else ((v3 ++ ⟨#[32]⟩) ++ (bif (decide (((spec_Hex p0.Text).1) = ⟨#[]⟩)) then ⟨#[45]⟩ else ((spec_Hex p0.Text).1)))), (i + 1)) [0] [0] ⟨by exact ⟨by omega, by dsimp only; (try simp only [Bool.cond_eq_ite]); (repeat' split); all_goals ((try simp only [ByteArray.size_append, bts, List.size_toArray, List.length_cons, List.length_nil]); omega)⟩, hM⟩ rfl (by show _ - _ < _ - _; (try dsimp only); omega) su (by decide)
    ·
      have h3l : ¬ (i < (spec_l38Uses p0.Kind).size) := by have := of_decide_eq_false h3; omega
      have hM := hE.trans ((congrArg (fun n => spec_CallLine_l1 p0 n v3 i) (show ((spec_l38Uses p0.Kind).size) - i = 0 by omega)).trans (spec_CallLine_l1.eq_1 _ _ _))
      refine ad 6 ?_
      exact rz (rs := [.tmp 2]) (congrArg (fun x => [Re.c (.string x)]) hM)

end Go.Proofs.YtmjjcihoobnbgaaDoor.Fw