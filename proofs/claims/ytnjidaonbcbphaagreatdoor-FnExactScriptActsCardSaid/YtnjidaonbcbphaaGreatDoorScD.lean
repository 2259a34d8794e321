/-
  The texts PH, K2, PC, R1, B3, R2, PR, K3, PA, KC, PW, R0, PJ of this proof, one behind the other: what each proves stands at its head. No condition.
-/
import Derived.Lib.ShelfFacts
import Derived.Test.YtnjidaonbcbphaaGreatDoorScA
import Derived.Test.YtnjidaonbcbphaaGreatDoorScB
import Derived.Test.YtnjidaonbcbphaaGreatDoorScC
/-
  Hexadecimal texts: the reference and the program say the same. No condition.
-/
namespace Go.Proofs.YtnjidaonbcbphaaGreatDoor.Fw
open Go.RowKit
set_option linter.unusedVariables false
set_option linter.unusedSimpArgs false
set_option maxRecDepth 100000
theorem fig_digits : ∀ n : Fin 256, fig (IntKind.i64.wrap (Int.tdiv (IntKind.i64.wrap ((n.val : Nat) : Int)) 16)) = Lib.Hx.digit (n.val / 16) ∧ fig (Int.tmod (IntKind.i64.wrap ((n.val : Nat) : Int)) 16) = Lib.Hx.digit (n.val % 16) := by decide +kernel
theorem fig_byte (b : UInt8) : fig (IntKind.i64.wrap (Int.tdiv (IntKind.i64.wrap (b.toNat : Int)) 16)) = Lib.Hx.digit (b.toNat / 16) ∧ fig (Int.tmod (IntKind.i64.wrap (b.toNat : Int)) 16) = Lib.Hx.digit (b.toNat % 16) := fig_digits ⟨b.toNat, b.toNat_lt⟩
theorem sbytes_at {s : ByteArray} {i : Nat} (h : i < (sbytes s).length) : (sbytes s)[i] = byteAt s i := by
  have h' : i < s.data.size := by rw [sbytes_length] at h; exact h
  unfold byteAt
  rw [Array.getD_eq_getD_getElem?, Array.getElem?_eq_getElem h']
  simp [sbytes]
theorem spec_Hex_l1_is (p0 : ByteArray) : ∀ n i v, n = p0.size - i → spec_Hex_l1 p0 n v i = (bstr (v ++ Lib.Hx.encode ((sbytes p0).drop i)), true) := by
  intro n
  induction n with
  | zero =>
    intro i v h
    rw [List.drop_eq_nil_of_le (by rw [sbytes_length]; omega)]
    show (bstr v, true) = _
    rw [show Lib.Hx.encode [] = [] from rfl, List.append_nil]
  | succ n ih =>
    intro i v h
    have hi : i < (sbytes p0).length := by rw [sbytes_length]; omega
    rw [spec_Hex_l1, ih _ _ (by omega), List.drop_eq_getElem_cons hi, Lib.Hx.encode_cons, sbytes_at hi, (fig_byte _).1, (fig_byte _).2, List.append_assoc]
    rfl
theorem spec_Hex_is {p0 : ByteArray} (h : p0.size ≤ 20000) : (spec_Hex p0).1 = hexEnc (sbytes p0) := by
  unfold spec_Hex
  have hc : ¬ (p0.size : Int) > 20000 := by omega
  simp only [hc, decide_false, cond_false]
  rw [spec_Hex_l1_is p0 _ _ _ rfl]
  rfl
theorem impl_hexOf_is {p0 : ByteArray} (h : p0.size ≤ 20000) : impl_hexOf p0 = hexEnc (sbytes p0) := by
  unfold impl_hexOf impl_Hex
  have hc : ¬ (p0.size : Int) > 20000 := by omega
  simp only [hc, decide_false, cond_false]
theorem hexEnc_size (xs : List UInt8) : (hexEnc xs).size = 2 * xs.length := by
  show ((Lib.Hx.encode xs).toArray).size = _
  rw [List.size_toArray, Lib.Hx.encode_length]
theorem spec_Hex_size {p0 : ByteArray} (h : p0.size ≤ 64) : (spec_Hex p0).1.size ≤ 128 := by
  rw [spec_Hex_is (by omega), hexEnc_size, sbytes_length]
  omega

end Go.Proofs.YtnjidaonbcbphaaGreatDoor.Fw

/- Contracts: each call returns what the model says. By program (wip/am/gen2.py). -/
namespace Go.Proofs.YtnjidaonbcbphaaGreatDoor.Fw
open Go.RowKit
set_option linter.unusedVariables false
set_option maxRecDepth 100000

theorem fok48 : FnOk Tryz.prog 48 := ⟨_, Tryz.func48, rfl, by kernel_rfl⟩
theorem fok51 : FnOk Tryz.prog 51 := ⟨_, Tryz.func51, rfl, by kernel_rfl⟩
theorem fok58 : FnOk Tryz.prog 58 := ⟨_, Tryz.func58, rfl, by kernel_rfl⟩
theorem fok87 : FnOk Tryz.prog 87 := ⟨_, Tryz.func87, rfl, by kernel_rfl⟩
theorem fok88 : FnOk Tryz.prog 88 := ⟨_, Tryz.func88, rfl, by kernel_rfl⟩
theorem fok89 : FnOk Tryz.prog 89 := ⟨_, Tryz.func89, rfl, by kernel_rfl⟩
theorem fok91 : FnOk Tryz.prog 91 := ⟨_, Tryz.func91, rfl, by kernel_rfl⟩
theorem fok97 : FnOk Tryz.prog 97 := ⟨_, Tryz.func97, rfl, by kernel_rfl⟩
theorem fok98 : FnOk Tryz.prog 98 := ⟨_, Tryz.func98, rfl, by kernel_rfl⟩
theorem fok106 : FnOk Tryz.prog 106 := ⟨_, Tryz.func106, rfl, by kernel_rfl⟩
theorem fok107 : FnOk Tryz.prog 107 := ⟨_, Tryz.func107, rfl, by kernel_rfl⟩
theorem fok108 : FnOk Tryz.prog 108 := ⟨_, Tryz.func108, rfl, by kernel_rfl⟩
theorem fok109 : FnOk Tryz.prog 109 := ⟨_, Tryz.func109, rfl, by kernel_rfl⟩
theorem fok155 : FnOk Tryz.prog 155 := ⟨_, Tryz.func155, rfl, by kernel_rfl⟩
theorem fok156 : FnOk Tryz.prog 156 := ⟨_, Tryz.func156, rfl, by kernel_rfl⟩
theorem eqt54 : ∀ (d : Nat) (x y : Call) (w : World), (Op.equalIn (d + 10) 54 (.agg [.int .i64 x.Kind, .string x.Name, .string x.To, .int .i64 x.A, .int .i64 x.B, .string x.Text].toArray) (.agg [.int .i64 y.Kind, .string y.Name, .string y.To, .int .i64 y.A, .int .i64 y.B, .string y.Text].toArray)).run Tryz.prog w = .ok (decide (x = y)) w := by
  intro d x y w
  have u3 := Tryz.underlying3
  have a3 := Tryz.isAgg3
  have z3 := Tryz.sizeOf3
  have u9 := Tryz.underlying9
  have a9 := Tryz.isAgg9
  have z9 := Tryz.sizeOf9
  have hS : Tryz.prog.underlying 54 = some (.struct (Tryz.prog.fieldsOf 54)) := by kernel_rfl
  have hp : Tryz.prog.stoodInHeld 54 = false := by kernel_rfl
  rw [run_equalIn_agg w (d + 9) 54 _ _ hS hp]
  simp only [Program.fieldsOf, Tryz.underlying54]
  obtain ⟨z1, z2, z3, z4, z5, z6⟩ := x
  obtain ⟨z7, z8, z9, z10, z11, z12⟩ := y
  go_simp
  simp only [bt_inj]
  repeat' split
  all_goals simp_all
theorem eqp54 (x y : Call) : eqP Tryz.prog 54 [.int .i64 x.Kind, .string x.Name, .string x.To, .int .i64 x.A, .int .i64 x.B, .string x.Text] [.int .i64 y.Kind, .string y.Name, .string y.To, .int .i64 y.A, .int .i64 y.B, .string y.Text] (decide (x = y)) := ⟨by kernel_rfl, fun w => eqt54 9990 x y w⟩
/- F91 (loop.example/g00974/impl.Call).fieldText -/
def impl_Call_fieldText (p0 : Call) (p1 : Int) : ByteArray × Bool := bif decide (p1 = 78) then (p0.Name, (impl_NameOk p0.Name)) else (bif decide (p1 = 84) then (p0.To, (impl_NameOk p0.To)) else (bif decide (p1 = 65) then ((impl_Decimal p0.A), (impl_within p0.A 0 1000000000)) else (bif decide (p1 = 66) then ((impl_Decimal p0.B), (impl_within p0.B 0 1000000000)) else (bif decide (p0.Text = ⟨#[]⟩) then (⟨#[45]⟩, true) else ((impl_hexOf p0.Text), true)))))
theorem c_impl_Call_fieldText (p0 : Call) (p1 : Int) : CTs 91 [.o (.st Call _ inferInstance p0), .o (.c (.int .i32 p1))] [Re.c (.string ((impl_Call_fieldText p0 p1).1)), Re.c (.bool ((impl_Call_fieldText p0 p1).2))] := by
  refine en Tryz.func91 Tryz.ntmps91 fun w hG hgd => ?_
  obtain ⟨hg_p0, _⟩ := hgd
  have hM := impl_Call_fieldText.eq_1 p0 p1
  refine ad 17 ?_
  refine cd (fun h1 => ?_) (fun h1 => ?_)
  ·
    have hM := hM.trans (bt h1)
    refine ad 1 ?_
    refine dr 7 fun _ _ _ _ _ hb => ?_
    refine tk [0, 1, 2, 3] ?_
    refine on 4 [0] (cl (c_impl_NameOk p0.Name hg_p0.2.1) fok155) ?_
    refine tk [5, 6] ?_
    refine dn hb ?_
    exact rz (rs := [.tmp 4, .tmp 5]) (congrArg (fun x => [Re.c (.string x.1), Re.c (.bool x.2)]) hM)
  ·
    have hM := hM.trans (bf h1)
    refine ad 5 ?_
    refine cd (fun h2 => ?_) (fun h2 => ?_)
    ·
      have hM := hM.trans (bt h2)
      refine ad 1 ?_
      refine dr 7 fun _ _ _ _ _ hb => ?_
      refine tk [0, 1, 2, 3] ?_
      refine on 4 [0] (cl (c_impl_NameOk p0.To hg_p0.2.2.1) fok155) ?_
      refine tk [5, 6] ?_
      refine dn hb ?_
      exact rz (rs := [.tmp 4, .tmp 5]) (congrArg (fun x => [Re.c (.string x.1), Re.c (.bool x.2)]) hM)
    ·
      have hM := hM.trans (bf h2)
      refine ad 5 ?_
      refine cd (fun h3 => ?_) (fun h3 => ?_)
      ·
        have hM := hM.trans (bt h3)
        refine ad 1 ?_
        refine dr 8 fun _ _ _ _ _ hb => ?_
        refine tk [0, 1, 3, 4] ?_
        have hs4 := impl_Decimal_size (p0 := p0.A) hg_p0.2.2.2.1
        refine on 2 [0] (cl (k_impl_Decimal p0.A hg_p0.2.2.2.1) fok58) ?_
        refine on 5 [0] (cl (k_impl_within p0.A 0 1000000000) fok83) ?_
        refine tk [6, 7] ?_
        refine dn hb ?_
        exact rz (rs := [.tmp 4, .tmp 5]) (congrArg (fun x => [Re.c (.string x.1), Re.c (.bool x.2)]) hM)
      ·
        have hM := hM.trans (bf h3)
        refine ad 5 ?_
        refine cd (fun h5 => ?_) (fun h5 => ?_)
        ·
          have hM := hM.trans (bt h5)
          refine ad 1 ?_
          refine dr 8 fun _ _ _ _ _ hb => ?_
          refine tk [0, 1, 3, 4] ?_
          have hs6 := impl_Decimal_size (p0 := p0.B) hg_p0.2.2.2.2.1
          refine on 2 [0] (cl (k_impl_Decimal p0.B hg_p0.2.2.2.2.1) fok58) ?_
          refine on 5 [0] (cl (k_impl_within p0.B 0 1000000000) fok83) ?_
          refine tk [6, 7] ?_
          refine dn hb ?_
          exact rz (rs := [.tmp 4, .tmp 5]) (congrArg (fun x => [Re.c (.string x.1), Re.c (.bool x.2)]) hM)
        ·
          have hM := hM.trans (bf h5)
          refine ad 9 ?_
          refine cd (fun h7 => ?_) (fun h7 => ?_)
          ·
            have hM := hM.trans (bt h7)
            refine ad 5 ?_
            exact rz (rs := [.tmp 4, .tmp 5]) (congrArg (fun x => [Re.c (.string x.1), Re.c (.bool x.2)]) hM)
          ·
            have hM := hM.trans (bf h7)
            refine ad 5 ?_
            refine op (cl (c_impl_hexOf p0.Text hg_p0.2.2.2.2.2) fok156) ?_
            refine ad 3 ?_
            exact rz (rs := [.tmp 4, .tmp 5]) (congrArg (fun x => [Re.c (.string x.1), Re.c (.bool x.2)]) hM)
theorem szp {b : Bool} {x y : ByteArray × Bool} {n : Nat} (hx : x.1.size ≤ n) (hy : y.1.size ≤ n) : (bif b then x else y).1.size ≤ n := by cases b <;> assumption
theorem impl_Call_fieldText_size {p0 : Call} {p1 : Int} (hg : Dat.good p0) (h1 : p0.Name.size ≤ 20) (h2 : p0.To.size ≤ 20) (h3 : p0.Text.size ≤ 64) : (impl_Call_fieldText p0 p1).1.size ≤ 128 := by
  have a1 : (impl_Decimal p0.A).size ≤ 20 := impl_Decimal_size hg.2.2.2.1
  have a2 : (impl_Decimal p0.B).size ≤ 20 := impl_Decimal_size hg.2.2.2.2.1
  have a3 := impl_hexOf_size h3
  unfold impl_Call_fieldText
  have hz1 : (⟨#[45]⟩ : ByteArray).size ≤ 128 := Nat.le_of_ble_eq_true rfl
  have hz2 : p0.Name.size ≤ 128 := by omega
  have hz3 : p0.To.size ≤ 128 := by omega
  have hz4 : (impl_Decimal p0.A).size ≤ 128 := by omega
  have hz5 : (impl_Decimal p0.B).size ≤ 128 := by omega
  exact szp hz2 (szp hz3 (szp hz4 (szp hz5 (szp hz1 a3))))

/- F26 loop.example/g00974/impl.CallLine -/
def impl_CallLine_l1 (p0 : Call) : Nat → Nat → ByteArray → ByteArray
  | 0, i, v3 => v3
  | n + 1, i, v3 => bif !((impl_Call_fieldText p0 ((byteAt (impl_fieldsOf p0.Kind) i).toNat : Int)).2) then ⟨#[]⟩ else (impl_CallLine_l1 p0 n (i + 1) (v3 ++ (⟨#[32]⟩ ++ ((impl_Call_fieldText p0 ((byteAt (impl_fieldsOf p0.Kind) i).toNat : Int)).1))))
def impl_CallLine (p0 : Call) : ByteArray := bif (!(impl_CallOk p0)) || (!(decide (p0 = (impl_Told p0)))) then ⟨#[]⟩ else (impl_CallLine_l1 p0 (((impl_fieldsOf p0.Kind).size) - 0) 0 (impl_CallName p0.Kind))
theorem c_impl_CallLine (p0 : Call) : CTs 26 [.o (.st Call _ inferInstance p0)] [Re.c (.string (impl_CallLine p0))] := by
  refine en Tryz.func26 Tryz.ntmps26 fun w hG hgd => ?_
  obtain ⟨hg_p0, _⟩ := hgd
  have hM := impl_CallLine.eq_1 p0
  refine ad 7 ?_
  refine dr 9 fun _ _ _ _ _ hb => ?_
  refine tk [0] ?_
  refine on 1 [0] (cl (c_impl_CallOk p0) fok87) ?_
  refine tk [2, 3, 4, 5] ?_
  refine on 6 [0] (cGs (hct := fun hB => (c_impl_Told p0)) (hfn := fok88)) ?_
  refine on 7 [0] (qg (fun _ => (eqp54 p0 (impl_Told p0)))) ?_
  refine tk [8] ?_
  refine dn hb ?_
  refine cd (fun h1 => ?_) (fun h1 => ?_)
  ·
    have hM := hM.trans (bt h1)
    refine ad 4 ?_
    exact rz (rs := [.tmp 2]) (congrArg (fun x => [Re.c (.string x)]) hM)
  ·
    have hM := hM.trans (bf h1)
    have th1_0 := impl_CallOk_t (by have hq := (Bool.or_eq_false_iff.1 h1).1; simpa using hq)
    refine ad 5 ?_
    refine op (cl (c_impl_CallName p0.Kind) fok89) ?_
    refine ad 7 ?_
    refine op (cl (c_impl_fieldsOf p0.Kind) fok90) ?_
    refine op (rg) ?_
    refine ad 2 ?_
    have hfs := impl_fieldsOf_size p0.Kind
    have hcn := impl_CallName_size p0.Kind
    refine Run.loopM (ι := Nat × ByteArray) (fun s => impl_CallLine_l1 p0 (((impl_fieldsOf p0.Kind).size) - s.1) s.1 s.2) (fun s => ⟨40, 2, [(1, .pt 0 0), (3, .v (.string s.2)), (23, .pt 1 0)], [(0, .var [.v (.int .i64 p0.Kind), .v (.string p0.Name), .v (.string p0.To), .v (.int .i64 p0.A), .v (.int .i64 p0.B), .v (.string p0.Text)] 54), (1, .itr (impl_fieldsOf p0.Kind) s.1)]⟩) (fun s => s.1 ≤ (impl_fieldsOf p0.Kind).size ∧ s.2.size ≤ 10 + 200 * s.1) (fun s => ((impl_fieldsOf p0.Kind).size) - s.1) (0, (impl_CallName p0.Kind)) [0, 1] [1, 0] hM (by dsimp only; exact ⟨by omega, by omega⟩) su (by decide) ?_
    rintro ⟨i, v3⟩ hv hE
    try dsimp only at hE
    obtain ⟨hi, hv0⟩ := hv
    try dsimp only at hi hv0
    refine ad 2 ?_
    refine nx (fun h2 => ?_) (fun h2 => ?_) (asc_impl_fieldsOf p0.Kind)
    ·
      have hM := hE.trans ((congrArg (fun n => impl_CallLine_l1 p0 n i v3) (show ((impl_fieldsOf p0.Kind).size) - i = (((impl_fieldsOf p0.Kind).size) - (i + 1)) + 1 by omega)).trans (impl_CallLine_l1.eq_2 _ _ _ _))
      refine ad 15 ?_
      have hs3 := impl_Call_fieldText_size (p0 := p0) (p1 := ((byteAt (impl_fieldsOf p0.Kind) i).toNat : Int)) (by assumption) (by omega) (by omega) (by omega)
      refine op (cl (c_impl_Call_fieldText p0 ((byteAt (impl_fieldsOf p0.Kind) i).toNat : Int)) fok91) ?_
      refine ad 12 ?_
      refine cd (fun h4 => ?_) (fun h4 => ?_)
      ·
        have hM := hM.trans (bt h4)
        refine ad 4 ?_
        exact rz (rs := [.tmp 2]) (congrArg (fun x => [Re.c (.string x)]) hM)
      ·
        have hM := hM.trans (bf h4)
        refine ad 4 ?_
        refine op (ca (hs := szt)) ?_
        refine op (ca (hs := szt)) ?_
        refine ad 3 ?_
        exact Run.again ((i + 1), v3 ++ (⟨#[32]⟩ ++ ((impl_Call_fieldText p0 ((byteAt (impl_fieldsOf p0.Kind) i).toNat : Int)).1))) [0, 1] [0, 1] ⟨by exact ⟨by omega, by dsimp only; (try simp only [Bool.cond_eq_ite]); (repeat' split); all_goals ((try simp only [ByteArray.size_append, bts, List.size_toArray, List.length_cons, List.length_nil]); omega)⟩, hM⟩ rfl (by show _ - _ < _ - _; (try dsimp only); omega) su (by decide)
    ·
      have hM := hE.trans ((congrArg (fun n => impl_CallLine_l1 p0 n i v3) (show ((impl_fieldsOf p0.Kind).size) - i = 0 by omega)).trans (impl_CallLine_l1.eq_1 _ _ _))
      refine ad 10 ?_
      exact rz (rs := [.tmp 2]) (congrArg (fun x => [Re.c (.string x)]) hM)

/- F35 loop.example/g00974/spec.CallLine -/
def spec_CallLine_l1 (p0 : Call) : Nat → ByteArray → Nat → ByteArray
  | 0, v3, i => v3
  | n + 1, v3, i => bif decide (((byteAt (spec_l38Uses p0.Kind) i).toNat : Int) = 110) then (bif !(spec_NameOk p0.Name) then ⟨#[]⟩ else (spec_CallLine_l1 p0 n ((v3 ++ ⟨#[32]⟩) ++ p0.Name) (i + 1))) else (bif decide (((byteAt (spec_l38Uses p0.Kind) i).toNat : Int) = 116) then (bif !(spec_NameOk p0.To) then ⟨#[]⟩ else (spec_CallLine_l1 p0 n ((v3 ++ ⟨#[32]⟩) ++ p0.To) (i + 1))) else (spec_CallLine_l1 p0 n (bif (decide (((byteAt (spec_l38Uses p0.Kind) i).toNat : Int) = 97)) then ((v3 ++ ⟨#[32]⟩) ++ (spec_Decimal p0.A)) else (bif (decide (((byteAt (spec_l38Uses p0.Kind) i).toNat : Int) = 98)) then ((v3 ++ ⟨#[32]⟩) ++ (spec_Decimal p0.B)) else ((v3 ++ ⟨#[32]⟩) ++ (bif (decide (((spec_Hex p0.Text).1) = ⟨#[]⟩)) then ⟨#[45]⟩ else ((spec_Hex p0.Text).1))))) (i + 1)))
def spec_CallLine (p0 : Call) : ByteArray := bif (((!(spec_CallOk p0)) || (!(decide ((spec_Told p0) = p0)))) || (!(spec_l38Fits p0.A))) || (!(spec_l38Fits p0.B)) then ⟨#[]⟩ else (spec_CallLine_l1 p0 (((spec_l38Uses p0.Kind).size) - 0) (spec_CallName p0.Kind) 0)
theorem c_spec_CallLine (p0 : Call) : CTs 35 [.o (.st Call _ inferInstance p0)] [Re.c (.string (spec_CallLine p0))] := by
  refine en Tryz.func35 Tryz.ntmps35 fun w hG hgd => ?_
  obtain ⟨hg_p0, _⟩ := hgd
  have hM := spec_CallLine.eq_1 p0
  refine ad 7 ?_
  refine dr 21 fun _ _ _ _ _ hb => ?_
  refine tk [0] ?_
  refine on 1 [0] (cl (c_spec_CallOk p0) fok107) ?_
  refine tk [2, 3, 4, 6] ?_
  refine on 5 [0] (cGs (hct := fun hB => (c_spec_Told p0)) (hfn := fok108)) ?_
  refine on 7 [0] (qg (fun _ => (eqp54 (spec_Told p0) p0))) ?_
  refine tk [8, 9, 10, 11] ?_
  refine on 12 [0] (cG (hct := fun hB => (c_spec_l38Fits p0.A)) (hfn := fok106)) ?_
  refine tk [13, 14, 15, 16, 17] ?_
  refine on 18 [0] (cG (hct := fun hB => (c_spec_l38Fits p0.B)) (hfn := fok106)) ?_
  refine tk [19, 20] ?_
  refine dn hb ?_
  refine cd (fun h1 => ?_) (fun h1 => ?_)
  ·
    have hM := hM.trans (bt h1)
    refine ad 4 ?_
    exact rz (rs := [.tmp 2]) (congrArg (fun x => [Re.c (.string x)]) hM)
  ·
    have hM := hM.trans (bf h1)
    have th1_0 := spec_CallOk_t (by have hq := (Bool.or_eq_false_iff.1 (Bool.or_eq_false_iff.1 (Bool.or_eq_false_iff.1 h1).1).1).1; simpa using hq)
    refine ad 5 ?_
    refine op (cl (c_spec_CallName p0.Kind) fok97) ?_
    refine ad 6 ?_
    refine op (cl (c_spec_l38Uses p0.Kind) fok98) ?_
    refine ad 8 ?_
    have hfs := spec_l38Uses_size p0.Kind
    have hcn := spec_CallName_size p0.Kind
    have hda : (spec_Decimal p0.A).size ≤ 20 := spec_Decimal_size hg_p0.2.2.2.1
    have hdb : (spec_Decimal p0.B).size ≤ 20 := spec_Decimal_size hg_p0.2.2.2.2.1
    have hhx : (spec_Hex p0.Text).1.size ≤ 128 := spec_Hex_size (by omega)
    have hz2 : (spec_l38Uses p0.Kind).size ≤ 9223372036854775807 := szt
    refine Run.loopM (ι := ByteArray × Nat) (fun s => spec_CallLine_l1 p0 (((spec_l38Uses p0.Kind).size) - s.2) s.1 s.2) (fun s => ⟨95, 1, [(1, .pt 0 0), (3, .v (.string s.1)), (4, .v (.string (spec_l38Uses p0.Kind))), (5, .v (.int .i64 (s.2 : Int)))], [(0, .var [.v (.int .i64 p0.Kind), .v (.string p0.Name), .v (.string p0.To), .v (.int .i64 p0.A), .v (.int .i64 p0.B), .v (.string p0.Text)] 54)]⟩) (fun s => s.2 ≤ (spec_l38Uses p0.Kind).size ∧ s.1.size ≤ 10 + 200 * s.2) (fun s => ((spec_l38Uses p0.Kind).size) - s.2) ((spec_CallName p0.Kind), 0) [0] [0] hM (by dsimp only; exact ⟨by omega, by omega⟩) su (by decide) ?_
    rintro ⟨v3, i⟩ hv hE
    try dsimp only at hE
    obtain ⟨hi, hv0⟩ := hv
    try dsimp only at hi hv0
    refine ad 8 ?_
    refine cd (fun h3 => ?_) (fun h3 => ?_)
    ·
      have h3l : i < (spec_l38Uses p0.Kind).size := by have := of_decide_eq_true h3; omega
      have hM := hE.trans ((congrArg (fun n => spec_CallLine_l1 p0 n v3 i) (show ((spec_l38Uses p0.Kind).size) - i = (((spec_l38Uses p0.Kind).size) - (i + 1)) + 1 by omega)).trans (spec_CallLine_l1.eq_2 _ _ _ _))
      refine ad 7 ?_
      refine op (sx (s := (spec_l38Uses p0.Kind)) i om) ?_
      refine ad 7 ?_
      refine cd (fun h4 => ?_) (fun h4 => ?_)
      ·
        have hM := hM.trans (bt h4)
        refine ad 5 ?_
        refine op (cl (c_spec_NameOk p0.Name hg_p0.2.1) fok109) ?_
        refine ad 2 ?_
        refine cd (fun h5 => ?_) (fun h5 => ?_)
        ·
          have hM := hM.trans (bt h5)
          refine ad 4 ?_
          exact rz (rs := [.tmp 2]) (congrArg (fun x => [Re.c (.string x)]) hM)
        ·
          have hM := hM.trans (bf h5)
          refine ad 3 ?_
          refine op (ca (hs := (by first | exact szt | ((try simp only [Bool.cond_eq_ite]); (repeat' split); all_goals ((try simp only [ByteArray.size_append, bts, List.size_toArray, List.length_cons, List.length_nil]); omega))))) ?_
          refine ad 2 ?_
          refine op (ca (hs := (by first | exact szt | ((try simp only [Bool.cond_eq_ite]); (repeat' split); all_goals ((try simp only [ByteArray.size_append, bts, List.size_toArray, List.length_cons, List.length_nil]); omega))))) ?_
          refine ad 7 ?_
          rw [wrapN (i := i) (by first | omega | exact om)]
          refine ad 2 ?_
          exact Run.again ((v3 ++ ⟨#[32]⟩) ++ p0.Name, (i + 1)) [0] [0] ⟨by exact ⟨by omega, by dsimp only; (try simp only [Bool.cond_eq_ite]); (repeat' split); all_goals ((try simp only [ByteArray.size_append, bts, List.size_toArray, List.length_cons, List.length_nil]); omega)⟩, hM⟩ rfl (by show _ - _ < _ - _; (try dsimp only); omega) su (by decide)
      ·
        have hM := hM.trans (bf h4)
        refine ad 5 ?_
        refine cd (fun h6 => ?_) (fun h6 => ?_)
        ·
          have hM := hM.trans (bt h6)
          refine ad 5 ?_
          refine op (cl (c_spec_NameOk p0.To hg_p0.2.2.1) fok109) ?_
          refine ad 2 ?_
          refine cd (fun h7 => ?_) (fun h7 => ?_)
          ·
            have hM := hM.trans (bt h7)
            refine ad 4 ?_
            exact rz (rs := [.tmp 2]) (congrArg (fun x => [Re.c (.string x)]) hM)
          ·
            have hM := hM.trans (bf h7)
            refine ad 3 ?_
            refine op (ca (hs := (by first | exact szt | ((try simp only [Bool.cond_eq_ite]); (repeat' split); all_goals ((try simp only [ByteArray.size_append, bts, List.size_toArray, List.length_cons, List.length_nil]); omega))))) ?_
            refine ad 2 ?_
            refine op (ca (hs := (by first | exact szt | ((try simp only [Bool.cond_eq_ite]); (repeat' split); all_goals ((try simp only [ByteArray.size_append, bts, List.size_toArray, List.length_cons, List.length_nil]); omega))))) ?_
            refine ad 7 ?_
            rw [wrapN (i := i) (by first | omega | exact om)]
            refine ad 2 ?_
            exact Run.again ((v3 ++ ⟨#[32]⟩) ++ p0.To, (i + 1)) [0] [0] ⟨by exact ⟨by omega, by dsimp only; (try simp only [Bool.cond_eq_ite]); (repeat' split); all_goals ((try simp only [ByteArray.size_append, bts, List.size_toArray, List.length_cons, List.length_nil]); omega)⟩, hM⟩ rfl (by show _ - _ < _ - _; (try dsimp only); omega) su (by decide)
        ·
          have hM := hM.trans (bf h6)
          refine ad 5 ?_
          refine Run.mid ⟨95, 1, [(1, .pt 0 0), (3, .v (.string (bif (decide (((byteAt (spec_l38Uses p0.Kind) i).toNat : Int) = 97)) then ((v3 ++ ⟨#[32]⟩) ++ (spec_Decimal p0.A)) else (bif (decide (((byteAt (spec_l38Uses p0.Kind) i).toNat : Int) = 98)) then ((v3 ++ ⟨#[32]⟩) ++ (spec_Decimal p0.B)) else ((v3 ++ ⟨#[32]⟩) ++ (bif (decide (((spec_Hex p0.Text).1) = ⟨#[]⟩)) then ⟨#[45]⟩ else ((spec_Hex p0.Text).1))))))), (4, .v (.string (spec_l38Uses p0.Kind))), (5, .v (.int .i64 (i : Int)))], [(0, .var [.v (.int .i64 p0.Kind), .v (.string p0.Name), .v (.string p0.To), .v (.int .i64 p0.A), .v (.int .i64 p0.B), .v (.string p0.Text)] 54)]⟩ ?_ ?_
          · refine cd (fun h8 => ?_) (fun h8 => ?_)
            ·
              refine ad 2 ?_
              refine op (ca (hs := (by first | exact szt | ((try simp only [Bool.cond_eq_ite]); (repeat' split); all_goals ((try simp only [ByteArray.size_append, bts, List.size_toArray, List.length_cons, List.length_nil]); omega))))) ?_
              refine ad 2 ?_
              have hs9 := spec_Decimal_size (p0 := p0.A) hg_p0.2.2.2.1
              refine op (cl (k_spec_Decimal p0.A hg_p0.2.2.2.1) fok48) ?_
              refine op (ca (hs := (by first | exact szt | ((try simp only [Bool.cond_eq_ite]); (repeat' split); all_goals ((try simp only [ByteArray.size_append, bts, List.size_toArray, List.length_cons, List.length_nil]); omega))))) ?_
              refine ad 2 ?_
              exact Run.at [0] [0] (by first | exact su | (rw [h8]; exact su)) (by decide)
            ·
              refine ad 5 ?_
              refine Run.mid ⟨95, 1, [(1, .pt 0 0), (3, .v (.string (bif (decide (((byteAt (spec_l38Uses p0.Kind) i).toNat : Int) = 98)) then ((v3 ++ ⟨#[32]⟩) ++ (spec_Decimal p0.B)) else ((v3 ++ ⟨#[32]⟩) ++ (bif (decide (((spec_Hex p0.Text).1) = ⟨#[]⟩)) then ⟨#[45]⟩ else ((spec_Hex p0.Text).1)))))), (4, .v (.string (spec_l38Uses p0.Kind))), (5, .v (.int .i64 (i : Int)))], [(0, .var [.v (.int .i64 p0.Kind), .v (.string p0.Name), .v (.string p0.To), .v (.int .i64 p0.A), .v (.int .i64 p0.B), .v (.string p0.Text)] 54)]⟩ ?_ ?_
              · refine cd (fun h10 => ?_) (fun h10 => ?_)
                ·
                  refine ad 2 ?_
                  refine op (ca (hs := (by first | exact szt | ((try simp only [Bool.cond_eq_ite]); (repeat' split); all_goals ((try simp only [ByteArray.size_append, bts, List.size_toArray, List.length_cons, List.length_nil]); omega))))) ?_
                  refine ad 2 ?_
                  have hs11 := spec_Decimal_size (p0 := p0.B) hg_p0.2.2.2.2.1
                  refine op (cl (k_spec_Decimal p0.B hg_p0.2.2.2.2.1) fok48) ?_
                  refine op (ca (hs := (by first | exact szt | ((try simp only [Bool.cond_eq_ite]); (repeat' split); all_goals ((try simp only [ByteArray.size_append, bts, List.size_toArray, List.length_cons, List.length_nil]); omega))))) ?_
                  refine ad 2 ?_
                  exact Run.at [0] [0] (by first | exact su | (rw [h10]; exact su)) (by decide)
                ·
                  refine ad 4 ?_
                  have hs12 := spec_Hex_size (p0 := p0.Text) (by omega)
                  refine op (cl (c_spec_Hex p0.Text hg_p0.2.2.2.2.2) fok51) ?_
                  refine ad 12 ?_
                  refine Run.mid ⟨95, 1, [(1, .pt 0 0), (3, .v (.string v3)), (4, .v (.string (spec_l38Uses p0.Kind))), (5, .v (.int .i64 (i : Int))), (6, .v (.string (bif (decide (((spec_Hex p0.Text).1) = ⟨#[]⟩)) then ⟨#[45]⟩ else ((spec_Hex p0.Text).1))))], [(0, .var [.v (.int .i64 p0.Kind), .v (.string p0.Name), .v (.string p0.To), .v (.int .i64 p0.A), .v (.int .i64 p0.B), .v (.string p0.Text)] 54)]⟩ ?_ ?_
                  · refine cd (fun h13 => ?_) (fun h13 => ?_)
                    ·
                      refine ad 3 ?_
                      exact Run.at [0] [0] (by first | exact su | (rw [h13]; exact su)) (by decide)
                    ·
                      refine ad 1 ?_
                      exact Run.at [0] [0] (by first | exact su | (rw [h13]; exact su)) (by decide)
                  refine ad 2 ?_
                  refine op (ca (hs := (by first | exact szt | ((try simp only [Bool.cond_eq_ite]); (repeat' split); all_goals ((try simp only [ByteArray.size_append, bts, List.size_toArray, List.length_cons, List.length_nil]); omega))))) ?_
                  refine ad 1 ?_
                  refine op (ca (hs := (by first | exact szt | ((try simp only [Bool.cond_eq_ite]); (repeat' split); all_goals ((try simp only [ByteArray.size_append, bts, List.size_toArray, List.length_cons, List.length_nil]); omega))))) ?_
                  refine ad 2 ?_
                  exact Run.at [0] [0] (by first | exact su | (rw [h10]; exact su)) (by decide)
              exact Run.at [0] [0] (by first | exact su | (rw [h8]; exact su)) (by decide)
          refine ad 5 ?_
          rw [wrapN (i := i) (by first | omega | exact om)]
          refine ad 2 ?_
          exact Run.again (bif (decide (((byteAt (spec_l38Uses p0.Kind) i).toNat : Int) = 97)) then ((v3 ++ ⟨#[32]⟩) ++ (spec_Decimal p0.A)) else (bif (decide (((byteAt (spec_l38Uses p0.Kind) i).toNat : Int) = 98)) then ((v3 ++ ⟨#[32]⟩) ++ (spec_Decimal p0.B)) else ((v3 ++ ⟨#[32]⟩) ++ (bif (decide (((spec_Hex p0.Text).1) = ⟨#[]⟩)) then ⟨#[45]⟩ else ((spec_Hex p0.Text).1)))), (i + 1)) [0] [0] ⟨by exact ⟨by omega, by dsimp only; (try simp only [Bool.cond_eq_ite]); (repeat' split); all_goals ((try simp only [ByteArray.size_append, bts, List.size_toArray, List.length_cons, List.length_nil]); omega)⟩, hM⟩ rfl (by show _ - _ < _ - _; (try dsimp only); omega) su (by decide)
    ·
      have h3l : ¬ (i < (spec_l38Uses p0.Kind).size) := by have := of_decide_eq_false h3; omega
      have hM := hE.trans ((congrArg (fun n => spec_CallLine_l1 p0 n v3 i) (show ((spec_l38Uses p0.Kind).size) - i = 0 by omega)).trans (spec_CallLine_l1.eq_1 _ _ _))
      refine ad 6 ?_
      exact rz (rs := [.tmp 2]) (congrArg (fun x => [Re.c (.string x)]) hM)

end Go.Proofs.YtnjidaonbcbphaaGreatDoor.Fw
/-
  The reference and the program say the same of a call, and write the same line for it. No condition.
-/
namespace Go.Proofs.YtnjidaonbcbphaaGreatDoor.Fw
open Go.RowKit
set_option linter.unusedVariables false
set_option linter.unusedSimpArgs false
set_option maxRecDepth 100000
theorem CallOk_twin (p0 : Call) : impl_CallOk p0 = spec_CallOk p0 := rfl
theorem within_wi (a b c : Int) : impl_within a b c = spec_l01In a b c := rfl
theorem of22 {k : Int} (h : 1 ≤ k ∧ k ≤ 22) : ∃ n : Fin 22, k = (n.val : Int) + 1 := ⟨⟨(k - 1).toNat, by omega⟩, by show k = (((k - 1).toNat : Nat) : Int) + 1; omega⟩
theorem CallName_22 : ∀ n : Fin 22, impl_CallName ((n.val : Int) + 1) = spec_CallName ((n.val : Int) + 1) := by decide +kernel
theorem CallName_in {k : Int} (h : 1 ≤ k ∧ k ≤ 22) : impl_CallName k = spec_CallName k := by
  obtain ⟨n, rfl⟩ := of22 h
  exact CallName_22 n
theorem Told_22 (N T X : ByteArray) (A B : Int) : ∀ n : Fin 22, impl_Told ⟨(n.val : Int) + 1, N, T, A, B, X⟩ = spec_Told ⟨(n.val : Int) + 1, N, T, A, B, X⟩
  | ⟨0, _⟩ => by kernel_rfl
  | ⟨1, _⟩ => by kernel_rfl
  | ⟨2, _⟩ => by kernel_rfl
  | ⟨3, _⟩ => by kernel_rfl
  | ⟨4, _⟩ => by kernel_rfl
  | ⟨5, _⟩ => by kernel_rfl
  | ⟨6, _⟩ => by kernel_rfl
  | ⟨7, _⟩ => by kernel_rfl
  | ⟨8, _⟩ => by kernel_rfl
  | ⟨9, _⟩ => by kernel_rfl
  | ⟨10, _⟩ => by kernel_rfl
  | ⟨11, _⟩ => by kernel_rfl
  | ⟨12, _⟩ => by kernel_rfl
  | ⟨13, _⟩ => by kernel_rfl
  | ⟨14, _⟩ => by kernel_rfl
  | ⟨15, _⟩ => by kernel_rfl
  | ⟨16, _⟩ => by kernel_rfl
  | ⟨17, _⟩ => by kernel_rfl
  | ⟨18, _⟩ => by kernel_rfl
  | ⟨19, _⟩ => by kernel_rfl
  | ⟨20, _⟩ => by kernel_rfl
  | ⟨21, _⟩ => by kernel_rfl
  | ⟨n + 22, h⟩ => by omega
theorem Told_in {p0 : Call} (h : 1 ≤ p0.Kind ∧ p0.Kind ≤ 22) : impl_Told p0 = spec_Told p0 := by
  obtain ⟨K, N, T, A, B, X⟩ := p0
  obtain ⟨n, rfl⟩ := of22 h
  exact Told_22 N T X A B n
theorem ByteArray_ge {b : UInt8} : ((b.toNat : Nat) : Int) = IntKind.i64.wrap (b.toNat : Int) := by
  have := b.toNat_lt
  rw [IntKind.wrap_i64]
  omega
theorem NameOk_l1_twin (p0 : ByteArray) : ∀ n i, impl_NameOk_l1 p0 n i = spec_NameOk_l1 p0 n i := by
  intro n
  induction n with
  | zero => intro i; rfl
  | succ n ih =>
    intro i
    rw [impl_NameOk_l1, spec_NameOk_l1, ih, ← ByteArray_ge]
    rfl
theorem NameOk_twin (p0 : ByteArray) : impl_NameOk p0 = spec_NameOk p0 := NameOk_l1_twin p0 _ _
def relB (f u : UInt8) : Bool := (f == 78 && u == 110) || (f == 84 && u == 116) || (f == 65 && u == 97) || (f == 66 && u == 98) || (f == 88 && u == 120)
theorem uses_22 : ∀ n : Fin 22, (impl_fieldsOf ((n.val : Int) + 1)).size = (spec_l38Uses ((n.val : Int) + 1)).size ∧ ∀ i : Fin 3, i.val < (spec_l38Uses ((n.val : Int) + 1)).size → relB (byteAt (impl_fieldsOf ((n.val : Int) + 1)) i.val) (byteAt (spec_l38Uses ((n.val : Int) + 1)) i.val) = true := by decide +kernel
theorem told_A (N T X : ByteArray) (A B : Int) : ∀ n : Fin 22, (∃ j, j < (impl_fieldsOf ((n.val : Int) + 1)).size ∧ byteAt (impl_fieldsOf ((n.val : Int) + 1)) j = 65) ∨ (spec_Told ⟨(n.val : Int) + 1, N, T, A, B, X⟩).A = 0
  | ⟨0, _⟩ => .inr (by kernel_rfl)
  | ⟨1, _⟩ => .inr (by kernel_rfl)
  | ⟨2, _⟩ => .inr (by kernel_rfl)
  | ⟨3, _⟩ => .inr (by kernel_rfl)
  | ⟨4, _⟩ => .inr (by kernel_rfl)
  | ⟨5, _⟩ => .inl ⟨1, show 1 < (impl_fieldsOf 6).size ∧ byteAt (impl_fieldsOf 6) 1 = 65 from by decide +kernel⟩
  | ⟨6, _⟩ => .inl ⟨1, show 1 < (impl_fieldsOf 7).size ∧ byteAt (impl_fieldsOf 7) 1 = 65 from by decide +kernel⟩
  | ⟨7, _⟩ => .inl ⟨1, show 1 < (impl_fieldsOf 8).size ∧ byteAt (impl_fieldsOf 8) 1 = 65 from by decide +kernel⟩
  | ⟨8, _⟩ => .inr (by kernel_rfl)
  | ⟨9, _⟩ => .inl ⟨0, show 0 < (impl_fieldsOf 10).size ∧ byteAt (impl_fieldsOf 10) 0 = 65 from by decide +kernel⟩
  | ⟨10, _⟩ => .inl ⟨0, show 0 < (impl_fieldsOf 11).size ∧ byteAt (impl_fieldsOf 11) 0 = 65 from by decide +kernel⟩
  | ⟨11, _⟩ => .inr (by kernel_rfl)
  | ⟨12, _⟩ => .inl ⟨0, show 0 < (impl_fieldsOf 13).size ∧ byteAt (impl_fieldsOf 13) 0 = 65 from by decide +kernel⟩
  | ⟨13, _⟩ => .inl ⟨0, show 0 < (impl_fieldsOf 14).size ∧ byteAt (impl_fieldsOf 14) 0 = 65 from by decide +kernel⟩
  | ⟨14, _⟩ => .inr (by kernel_rfl)
  | ⟨15, _⟩ => .inl ⟨0, show 0 < (impl_fieldsOf 16).size ∧ byteAt (impl_fieldsOf 16) 0 = 65 from by decide +kernel⟩
  | ⟨16, _⟩ => .inr (by kernel_rfl)
  | ⟨17, _⟩ => .inl ⟨0, show 0 < (impl_fieldsOf 18).size ∧ byteAt (impl_fieldsOf 18) 0 = 65 from by decide +kernel⟩
  | ⟨18, _⟩ => .inl ⟨0, show 0 < (impl_fieldsOf 19).size ∧ byteAt (impl_fieldsOf 19) 0 = 65 from by decide +kernel⟩
  | ⟨19, _⟩ => .inl ⟨0, show 0 < (impl_fieldsOf 20).size ∧ byteAt (impl_fieldsOf 20) 0 = 65 from by decide +kernel⟩
  | ⟨20, _⟩ => .inl ⟨0, show 0 < (impl_fieldsOf 21).size ∧ byteAt (impl_fieldsOf 21) 0 = 65 from by decide +kernel⟩
  | ⟨21, _⟩ => .inr (by kernel_rfl)
  | ⟨n + 22, h⟩ => by omega
theorem told_B (N T X : ByteArray) (A B : Int) : ∀ n : Fin 22, (∃ j, j < (impl_fieldsOf ((n.val : Int) + 1)).size ∧ byteAt (impl_fieldsOf ((n.val : Int) + 1)) j = 66) ∨ (spec_Told ⟨(n.val : Int) + 1, N, T, A, B, X⟩).B = 0
  | ⟨0, _⟩ => .inr (by kernel_rfl)
  | ⟨1, _⟩ => .inr (by kernel_rfl)
  | ⟨2, _⟩ => .inr (by kernel_rfl)
  | ⟨3, _⟩ => .inr (by kernel_rfl)
  | ⟨4, _⟩ => .inr (by kernel_rfl)
  | ⟨5, _⟩ => .inl ⟨2, show 2 < (impl_fieldsOf 6).size ∧ byteAt (impl_fieldsOf 6) 2 = 66 from by decide +kernel⟩
  | ⟨6, _⟩ => .inr (by kernel_rfl)
  | ⟨7, _⟩ => .inr (by kernel_rfl)
  | ⟨8, _⟩ => .inr (by kernel_rfl)
  | ⟨9, _⟩ => .inr (by kernel_rfl)
  | ⟨10, _⟩ => .inr (by kernel_rfl)
  | ⟨11, _⟩ => .inr (by kernel_rfl)
  | ⟨12, _⟩ => .inr (by kernel_rfl)
  | ⟨13, _⟩ => .inr (by kernel_rfl)
  | ⟨14, _⟩ => .inr (by kernel_rfl)
  | ⟨15, _⟩ => .inl ⟨1, show 1 < (impl_fieldsOf 16).size ∧ byteAt (impl_fieldsOf 16) 1 = 66 from by decide +kernel⟩
  | ⟨16, _⟩ => .inr (by kernel_rfl)
  | ⟨17, _⟩ => .inr (by kernel_rfl)
  | ⟨18, _⟩ => .inr (by kernel_rfl)
  | ⟨19, _⟩ => .inr (by kernel_rfl)
  | ⟨20, _⟩ => .inr (by kernel_rfl)
  | ⟨21, _⟩ => .inr (by kernel_rfl)
  | ⟨n + 22, h⟩ => by omega
theorem fT_A (p0 : Call) : impl_Call_fieldText p0 65 = (impl_Decimal p0.A, impl_within p0.A 0 1000000000) := rfl
theorem fT_B (p0 : Call) : impl_Call_fieldText p0 66 = (impl_Decimal p0.B, impl_within p0.B 0 1000000000) := rfl
theorem fT_N (p0 : Call) : impl_Call_fieldText p0 78 = (p0.Name, impl_NameOk p0.Name) := rfl
theorem fT_T (p0 : Call) : impl_Call_fieldText p0 84 = (p0.To, impl_NameOk p0.To) := rfl
theorem fT_X (p0 : Call) : impl_Call_fieldText p0 88 = bif decide (p0.Text = ⟨#[]⟩) then (⟨#[45]⟩, true) else (impl_hexOf p0.Text, true) := rfl
theorem line_no (p0 : Call) (c : UInt8) (hc : (impl_Call_fieldText p0 (c.toNat : Int)).2 = false) : ∀ n i v, i + n = (impl_fieldsOf p0.Kind).size → (∃ j, i ≤ j ∧ j < (impl_fieldsOf p0.Kind).size ∧ byteAt (impl_fieldsOf p0.Kind) j = c) → impl_CallLine_l1 p0 n i v = ⟨#[]⟩ := by
  intro n
  induction n with
  | zero => rintro i v h ⟨j, h1, h2, _⟩; omega
  | succ n ih =>
    rintro i v h ⟨j, h1, h2, h3⟩
    rw [impl_CallLine_l1]
    by_cases e : i = j
    · subst e
      rw [h3, hc]
      rfl
    · rw [ih (i + 1) _ (by omega) ⟨j, by omega, h2, h3⟩]
      cases (!(impl_Call_fieldText p0 ((byteAt (impl_fieldsOf p0.Kind) i).toNat : Int)).2) <;> rfl
theorem hex_text {p0 : ByteArray} (h : p0.size ≤ 64) : (bif decide (p0 = ⟨#[]⟩) then ((⟨#[45]⟩, true) : ByteArray × Bool) else (impl_hexOf p0, true)) = ((bif decide ((spec_Hex p0).1 = ⟨#[]⟩) then ⟨#[45]⟩ else (spec_Hex p0).1), true) := by
  rw [impl_hexOf_is (by omega), spec_Hex_is (by omega)]
  by_cases e : p0 = ⟨#[]⟩
  · subst e
    rfl
  · have hz : p0.size ≠ 0 := size_ne e
    have h2 : hexEnc (sbytes p0) ≠ ⟨#[]⟩ := fun e2 => by
      have := hexEnc_size (sbytes p0)
      rw [e2, sbytes_length] at this
      have h0 : (⟨#[]⟩ : ByteArray).size = 0 := rfl
      omega
    simp only [e, h2, decide_false, cond_false]
theorem line_twin {p0 : Call} (hk : 1 ≤ p0.Kind ∧ p0.Kind ≤ 22) (hx : p0.Text.size ≤ 64) (hg : Dat.good p0) (hA : spec_l01In p0.A 0 1000000000 = true) (hB : spec_l01In p0.B 0 1000000000 = true) :
    ∀ n i v, i + n = (spec_l38Uses p0.Kind).size → impl_CallLine_l1 p0 n i v = spec_CallLine_l1 p0 n v i := by
  have hr : ∀ i, i < (spec_l38Uses p0.Kind).size → relB (byteAt (impl_fieldsOf p0.Kind) i) (byteAt (spec_l38Uses p0.Kind) i) = true := fun i hi => by
    obtain ⟨m, hm⟩ := of22 hk
    rw [hm] at hi ⊢
    have h3 := spec_l38Uses_size ((m.val : Int) + 1)
    exact (uses_22 m).2 ⟨i, by omega⟩ hi
  have ha : impl_Decimal p0.A = spec_Decimal p0.A := (Decimal_twin hg.2.2.2.1).symm
  have hb : impl_Decimal p0.B = spec_Decimal p0.B := (Decimal_twin hg.2.2.2.2.1).symm
  intro n
  induction n with
  | zero => intro i v _; rfl
  | succ n ih =>
    intro i v h
    rw [impl_CallLine_l1, spec_CallLine_l1]
    have hi := hr i (by omega)
    generalize byteAt (impl_fieldsOf p0.Kind) i = f at hi ⊢
    generalize byteAt (spec_l38Uses p0.Kind) i = u at hi ⊢
    simp only [relB, Bool.or_eq_true, Bool.and_eq_true, beq_iff_eq] at hi
    rcases hi with (((⟨rfl, rfl⟩ | ⟨rfl, rfl⟩) | ⟨rfl, rfl⟩) | ⟨rfl, rfl⟩) | ⟨rfl, rfl⟩
    · rw [show ((UInt8.toNat 78 : Nat) : Int) = 78 from rfl, fT_N, NameOk_twin, show ((UInt8.toNat 110 : Nat) : Int) = 110 from rfl, ih _ _ (by omega), bt_assoc]
      rfl
    · rw [show ((UInt8.toNat 84 : Nat) : Int) = 84 from rfl, fT_T, NameOk_twin, show ((UInt8.toNat 116 : Nat) : Int) = 116 from rfl, ih _ _ (by omega), bt_assoc]
      rfl
    · rw [show ((UInt8.toNat 65 : Nat) : Int) = 65 from rfl, fT_A, within_wi, hA, show ((UInt8.toNat 97 : Nat) : Int) = 97 from rfl, ih _ _ (by omega), bt_assoc, ha]
      rfl
    · rw [show ((UInt8.toNat 66 : Nat) : Int) = 66 from rfl, fT_B, within_wi, hB, show ((UInt8.toNat 98 : Nat) : Int) = 98 from rfl, ih _ _ (by omega), bt_assoc, hb]
      rfl
    · rw [show ((UInt8.toNat 88 : Nat) : Int) = 88 from rfl, fT_X, hex_text hx, show ((UInt8.toNat 120 : Nat) : Int) = 120 from rfl, ih _ _ (by omega), bt_assoc]
      rfl
theorem CallLine_twin {p0 : Call} (hg : Dat.good p0) : impl_CallLine p0 = spec_CallLine p0 := by
  unfold impl_CallLine spec_CallLine
  rw [CallOk_twin]
  cases hok : spec_CallOk p0 with
  | false => rfl
  | true =>
    obtain ⟨hk, h1, h2, h3⟩ := spec_CallOk_t hok
    rw [Told_in hk, CallName_in hk]
    by_cases ht : p0 = spec_Told p0
    · have hsz : (impl_fieldsOf p0.Kind).size = (spec_l38Uses p0.Kind).size := by
        obtain ⟨m, hm⟩ := of22 hk
        rw [hm]
        exact (uses_22 m).1
      simp only [decide_eq_true ht, decide_eq_true ht.symm, Bool.not_true, Bool.or_false, Bool.false_or, cond_false, Nat.sub_zero]
      have eA : ∃ m : Fin 22, p0 = ⟨(m.val : Int) + 1, p0.Name, p0.To, p0.A, p0.B, p0.Text⟩ := by
        obtain ⟨K, N, T, A, B, X⟩ := p0
        obtain ⟨n, rfl⟩ := of22 hk
        exact ⟨n, rfl⟩
      obtain ⟨m, hm⟩ := eA
      cases hA : spec_l38Fits p0.A with
      | false =>
        have hA' : impl_within p0.A 0 1000000000 = false := hA
        refine line_no p0 65 (by show (impl_Call_fieldText p0 65).2 = false; rw [fT_A]; exact hA') _ _ _ (by omega) ?_
        rcases told_A p0.Name p0.To p0.Text p0.A p0.B m with ⟨j, hj1, hj2⟩ | h0
        · rw [hm]
          exact ⟨j, Nat.zero_le _, hj1, hj2⟩
        · rw [← hm, ← ht] at h0
          rw [h0] at hA
          cases hA
      | true =>
        cases hB : spec_l38Fits p0.B with
        | false =>
          have hB' : impl_within p0.B 0 1000000000 = false := hB
          refine line_no p0 66 (by show (impl_Call_fieldText p0 66).2 = false; rw [fT_B]; exact hB') _ _ _ (by omega) ?_
          rcases told_B p0.Name p0.To p0.Text p0.A p0.B m with ⟨j, hj1, hj2⟩ | h0
          · rw [hm]
            exact ⟨j, Nat.zero_le _, hj1, hj2⟩
          · rw [← hm, ← ht] at h0
            rw [h0] at hB
            cases hB
        | true =>
          rw [hsz]
          exact line_twin hk h3 hg hA hB _ _ _ (by omega)
    · simp only [decide_eq_false ht, decide_eq_false (fun e : spec_Told p0 = p0 => ht e.symm), Bool.not_true, Bool.not_false, Bool.or_true, Bool.true_or, Bool.false_or, cond_true]
theorem impl_CallLine_l1_size {p0 : Call} (hg : Dat.good p0) (h1 : p0.Name.size ≤ 20) (h2 : p0.To.size ≤ 20) (h3 : p0.Text.size ≤ 64) : ∀ n i v, v.size ≤ 10 + 200 * i → (impl_CallLine_l1 p0 n i v).size ≤ 10 + 200 * (i + n) := by
  intro n
  induction n with
  | zero => intro i v h; exact h
  | succ n ih =>
    intro i v h
    rw [impl_CallLine_l1]
    have hf := impl_Call_fieldText_size (p0 := p0) (p1 := ((byteAt (impl_fieldsOf p0.Kind) i).toNat : Int)) hg h1 h2 h3
    refine szb ?_ ?_
    · exact Nat.le_trans (Nat.le_of_ble_eq_true rfl : (⟨#[]⟩ : ByteArray).size ≤ 10) (by omega)
    · have := ih (i + 1) (v ++ (⟨#[32]⟩ ++ (impl_Call_fieldText p0 ((byteAt (impl_fieldsOf p0.Kind) i).toNat : Int)).1)) (by
        simp only [ByteArray.size_append, bts, List.size_toArray, List.length_cons, List.length_nil]
        omega)
      omega
theorem impl_CallLine_size {p0 : Call} (hg : Dat.good p0) : (impl_CallLine p0).size ≤ 610 := by
  unfold impl_CallLine
  cases hb : (!(impl_CallOk p0)) || (!(decide (p0 = (impl_Told p0)))) with
  | true => exact Nat.le_of_ble_eq_true rfl
  | false =>
    have hok : impl_CallOk p0 = true := by
      have := (Bool.or_eq_false_iff.1 hb).1
      simpa using this
    obtain ⟨_, h1, h2, h3⟩ := impl_CallOk_t hok
    have hn := impl_CallName_size p0.Kind
    have hf := impl_fieldsOf_size p0.Kind
    have := impl_CallLine_l1_size hg h1 h2 h3 ((impl_fieldsOf p0.Kind).size - 0) 0 (impl_CallName p0.Kind) (by omega)
    show (impl_CallLine_l1 p0 ((impl_fieldsOf p0.Kind).size - 0) 0 (impl_CallName p0.Kind)).size ≤ 610
    omega
theorem spec_CallLine_size {p0 : Call} (hg : Dat.good p0) : (spec_CallLine p0).size ≤ 610 := by
  rw [← CallLine_twin hg]
  exact impl_CallLine_size hg

end Go.Proofs.YtnjidaonbcbphaaGreatDoor.Fw

/- Contracts: each call returns what the model says. By program (wip/am/gen2.py). -/
namespace Go.Proofs.YtnjidaonbcbphaaGreatDoor.Fw
open Go.RowKit
set_option linter.unusedVariables false
set_option maxRecDepth 100000

theorem fok152 : FnOk Tryz.prog 152 := ⟨_, Tryz.func152, rfl, by kernel_rfl⟩
theorem fok159 : FnOk Tryz.prog 159 := ⟨_, Tryz.func159, rfl, by kernel_rfl⟩
theorem fok160 : FnOk Tryz.prog 160 := ⟨_, Tryz.func160, rfl, by kernel_rfl⟩
theorem fok195 : FnOk Tryz.prog 195 := ⟨_, Tryz.func195, rfl, by kernel_rfl⟩
/- F85 loop.example/g00974/impl.ReadDecimal -/
def impl_ReadDecimal (p0 : ByteArray) : Int × Bool := bif ((!((atoi p0).2)) || (!(impl_within ((atoi p0).1) 0 1000000000))) || (!decide ((impl_Decimal ((atoi p0).1)) = p0)) then (0, false) else ((atoi p0).1, true)
theorem c_impl_ReadDecimal (p0 : ByteArray) (hq : p0.size ≤ 281474976710656) : CTs 85 [.o (.c (.string p0))] [Re.c (.int .i64 ((impl_ReadDecimal p0).1)), Re.c (.bool ((impl_ReadDecimal p0).2))] := by
  refine en Tryz.func85 Tryz.ntmps85 fun w hG hgd => ?_
  have hM := impl_ReadDecimal.eq_1 p0
  refine ad 8 ?_
  refine ce (k_atoi p0 (by first | assumption | exact om)) fok152 fun u1 hu1 => ?_
  refine ad 10 ?_
  refine op (er hu1) ?_
  refine ad 1 ?_
  refine ag 1 ?_
  refine op (cG (hct := fun hB => (k_impl_within ((atoi p0).1) 0 1000000000)) (hfn := fok83)) ?_
  refine ag 2 ?_
  refine ad 1 ?_
  refine ag 1 ?_
  refine op (cG (hct := fun hB => (k_impl_Decimal ((atoi p0).1) (atoi_I64 _))) (hfn := fok58)) ?_
  refine ag 3 ?_
  refine ad 1 ?_
  refine cd (fun h2 => ?_) (fun h2 => ?_)
  ·
    have hM := hM.trans (bt h2)
    refine ad 5 ?_
    exact rz (rs := [.tmp 2, .tmp 3]) (congrArg (fun x => [Re.c (.int .i64 x.1), Re.c (.bool x.2)]) hM)
  ·
    have hM := hM.trans (bf h2)
    have th2_1 := impl_within_t (by have hq := (Bool.or_eq_false_iff.1 (Bool.or_eq_false_iff.1 h2).1).2; simpa using hq)
    refine ad 7 ?_
    exact rz (rs := [.tmp 2, .tmp 3]) (congrArg (fun x => [Re.c (.int .i64 x.1), Re.c (.bool x.2)]) hM)
theorem impl_ReadDecimal_I64 (p0 : ByteArray) : I64 (impl_ReadDecimal p0).1 := by
  unfold impl_ReadDecimal
  cases (((!((atoi p0).2)) || (!(impl_within ((atoi p0).1) 0 1000000000))) || (!decide ((impl_Decimal ((atoi p0).1)) = p0)))
  · exact atoi_I64 p0
  · exact gi 0

/- F159 loop.example/g00974/spec.ReadDecimal -/
def spec_ReadDecimal_l1 (p0 : ByteArray) : Nat → Int → Nat → Int × Bool
  | 0, v4, i => bif (decide (v4 > 1000000000)) || (!decide ((spec_Decimal v4) = p0)) then (0, false) else (v4, true)
  | n + 1, v4, i => bif (decide (((byteAt p0 i).toNat : Int) < 48)) || (decide (((byteAt p0 i).toNat : Int) > 57)) then (0, false) else (spec_ReadDecimal_l1 p0 n (IntKind.i64.wrap ((IntKind.i64.wrap ((IntKind.i64.wrap (10 * v4)) + (IntKind.i64.wrap ((byteAt p0 i).toNat : Int)))) - 48)) (i + 1))
def spec_ReadDecimal (p0 : ByteArray) : Int × Bool := bif decide ((p0.size : Int) > 10) then (0, false) else (spec_ReadDecimal_l1 p0 (p0.size - 0) 0 0)
theorem c_spec_ReadDecimal (p0 : ByteArray) (hz_p0 : p0.size ≤ 9223372036854775807) : CTs 159 [.o (.c (.string p0))] [Re.c (.int .i64 ((spec_ReadDecimal p0).1)), Re.c (.bool ((spec_ReadDecimal p0).2))] := by
  refine en Tryz.func159 Tryz.ntmps159 fun w hG hgd => ?_
  have hM := spec_ReadDecimal.eq_1 p0
  refine ad 12 ?_
  refine cd (fun h1 => ?_) (fun h1 => ?_)
  ·
    have hM := hM.trans (bt h1)
    refine ad 5 ?_
    exact rz (rs := [.tmp 2, .tmp 3]) (congrArg (fun x => [Re.c (.int .i64 x.1), Re.c (.bool x.2)]) hM)
  ·
    have hM := hM.trans (bf h1)
    refine ad 11 ?_
    refine Run.loopM (ι := Int × Nat) (fun s => spec_ReadDecimal_l1 p0 (p0.size - s.2) s.1 s.2) (fun s => ⟨42, 0, [(0, .v (.string p0)), (4, .v (.int .i64 s.1)), (5, .v (.int .i64 (s.2 : Int)))], []⟩) (fun s => s.2 ≤ p0.size ∧ I64 s.1) (fun s => p0.size - s.2) (0, 0) [] [] hM (by exact ⟨by (try dsimp only); first | omega | exact trivial, (gi 0)⟩) su (by decide) ?_
    rintro ⟨v4, i⟩ hv hE
    try dsimp only at hE
    obtain ⟨hi, hg_v4⟩ := hv
    try dsimp only at hi hg_v4
    refine ad 8 ?_
    refine cd (fun h2 => ?_) (fun h2 => ?_)
    ·
      have h2l : i < p0.size := by have := of_decide_eq_true h2; omega
      have hM := hE.trans ((congrArg (fun n => spec_ReadDecimal_l1 p0 n v4 i) (show p0.size - i = (p0.size - (i + 1)) + 1 by omega)).trans (spec_ReadDecimal_l1.eq_2 _ _ _ _))
      refine ad 8 ?_
      refine op (sx (s := p0) i om) ?_
      refine ad 2 ?_
      refine ag 2 ?_
      refine op (sG (s := p0) i (hk := fun hB => by (try simp at hB); omega)) ?_
      refine ag 2 ?_
      refine ad 1 ?_
      refine cd (fun h3 => ?_) (fun h3 => ?_)
      ·
        have hM := hM.trans (bt h3)
        refine ad 5 ?_
        exact rz (rs := [.tmp 2, .tmp 3]) (congrArg (fun x => [Re.c (.int .i64 x.1), Re.c (.bool x.2)]) hM)
      ·
        have hM := hM.trans (bf h3)
        refine ad 6 ?_
        refine op (sx (s := p0) i om) ?_
        refine ad 9 ?_
        rw [wrapN (i := i) (by first | omega | exact om)]
        refine ad 2 ?_
        exact Run.again (IntKind.i64.wrap ((IntKind.i64.wrap ((IntKind.i64.wrap (10 * v4)) + (IntKind.i64.wrap ((byteAt p0 i).toNat : Int)))) - 48), (i + 1)) [] [] ⟨by exact ⟨by (try dsimp only); first | omega | exact trivial, (I64_wrap _)⟩, hM⟩ rfl (by show _ - _ < _ - _; (try dsimp only); omega) su (by decide)
    ·
      have h2l : ¬ (i < p0.size) := by have := of_decide_eq_false h2; omega
      have hM := hE.trans ((congrArg (fun n => spec_ReadDecimal_l1 p0 n v4 i) (show p0.size - i = 0 by omega)).trans (spec_ReadDecimal_l1.eq_1 _ _ _))
      refine ad 7 ?_
      refine ag 1 ?_
      refine op (cG (hct := fun hB => (k_spec_Decimal v4 hg_v4)) (hfn := fok48)) ?_
      refine ag 3 ?_
      refine ad 1 ?_
      refine cd (fun h4 => ?_) (fun h4 => ?_)
      ·
        have hM := hM.trans (bt h4)
        refine ad 5 ?_
        exact rz (rs := [.tmp 2, .tmp 3]) (congrArg (fun x => [Re.c (.int .i64 x.1), Re.c (.bool x.2)]) hM)
      ·
        have hM := hM.trans (bf h4)
        refine ad 7 ?_
        exact rz (rs := [.tmp 2, .tmp 3]) (congrArg (fun x => [Re.c (.int .i64 x.1), Re.c (.bool x.2)]) hM)
theorem spec_ReadDecimal_l1_I64 (p0 : ByteArray) : ∀ n v i, I64 v → I64 (spec_ReadDecimal_l1 p0 n v i).1 := by
  intro n
  induction n with
  | zero =>
    intro v i h
    rw [spec_ReadDecimal_l1]
    cases ((decide (v > 1000000000)) || (!decide ((spec_Decimal v) = p0)))
    · exact h
    · exact gi 0
  | succ n ih =>
    intro v i h
    rw [spec_ReadDecimal_l1]
    cases ((decide (((byteAt p0 i).toNat : Int) < 48)) || (decide (((byteAt p0 i).toNat : Int) > 57)))
    · exact ih _ _ (I64_wrap _)
    · exact gi 0
theorem spec_ReadDecimal_I64 (p0 : ByteArray) : I64 (spec_ReadDecimal p0).1 := by
  unfold spec_ReadDecimal
  cases (decide ((p0.size : Int) > 10))
  · exact spec_ReadDecimal_l1_I64 p0 _ _ _ (gi 0)
  · exact gi 0

/- F158 loop.example/g00974/impl.Unhex -/
def impl_Unhex (p0 : ByteArray) : ByteArray × Bool := bif ((!((decodeS p0).2)) || (decide ((((decodeS p0).1).length : Int) > 20000))) || (!decide ((hexEnc ((decodeS p0).1)) = p0)) then (⟨#[]⟩, false) else (bstr ((decodeS p0).1), true)
theorem c_impl_Unhex (p0 : ByteArray) (hq : p0.size ≤ 281474976710656) : CTs 158 [.o (.c (.string p0))] [Re.c (.string ((impl_Unhex p0).1)), Re.c (.bool ((impl_Unhex p0).2))] := by
  refine en Tryz.func158 Tryz.ntmps158 fun w hG hgd => ?_
  have hM := impl_Unhex.eq_1 p0
  refine ad 8 ?_
  refine ce (k_decode p0 (by first | assumption | exact om)) fok195 fun u1 hu1 => ?_
  refine ad 10 ?_
  refine op (er hu1) ?_
  refine ad 1 ?_
  refine ag 4 ?_
  refine ad 1 ?_
  refine ag 1 ?_
  refine op (cG (hct := fun hB => (k_hexEncA ((decodeS p0).1) (by first | (rw [sbytes_length]; exact om) | (simp at hB; omega)))) (hfn := fok132)) ?_
  refine ag 3 ?_
  refine ad 1 ?_
  refine cd (fun h2 => ?_) (fun h2 => ?_)
  ·
    have hM := hM.trans (bt h2)
    refine ad 5 ?_
    exact rz (rs := [.tmp 2, .tmp 3]) (congrArg (fun x => [Re.c (.string x.1), Re.c (.bool x.2)]) hM)
  ·
    have hM := hM.trans (bf h2)
    refine ad 4 ?_
    refine op (ts ((decodeS p0).1)) ?_
    refine ad 3 ?_
    exact rz (rs := [.tmp 2, .tmp 3]) (congrArg (fun x => [Re.c (.string x.1), Re.c (.bool x.2)]) hM)
theorem impl_Unhex_good (p0 : ByteArray) : (impl_Unhex p0).1.size ≤ maxLen := by
  unfold impl_Unhex
  cases hc : (((!((decodeS p0).2)) || (decide ((((decodeS p0).1).length : Int) > 20000))) || (!decide ((hexEnc ((decodeS p0).1)) = p0))) with
  | true => exact Nat.zero_le _
  | false =>
    have h1 := (Bool.or_eq_false_iff.1 (Bool.or_eq_false_iff.1 hc).1).2
    have h2 : (decodeS p0).1.length ≤ 20000 := by simp at h1; omega
    show ((decodeS p0).1.toArray).size ≤ maxLen
    rw [List.size_toArray]
    unfold maxLen
    omega

/- F160 loop.example/g00974/spec.l01Value -/
def spec_l01Value (p0 : UInt8) : Int := bif (decide ((p0.toNat : Int) ≥ 48)) && (decide ((p0.toNat : Int) ≤ 57)) then (IntKind.i64.wrap ((IntKind.i64.wrap (p0.toNat : Int)) - 48)) else (bif (decide ((p0.toNat : Int) ≥ 97)) && (decide ((p0.toNat : Int) ≤ 102)) then (IntKind.i64.wrap ((IntKind.i64.wrap ((IntKind.i64.wrap (p0.toNat : Int)) - 97)) + 10)) else (-1))
theorem c_spec_l01Value (p0 : UInt8) : CTs 160 [.o (.c (.int .u8 p0.toNat))] [Re.c (.int .i64 (spec_l01Value p0))] := by
  refine en Tryz.func160 Tryz.ntmps160 fun w hG hgd => ?_
  have hM := spec_l01Value.eq_1 p0
  refine ad 10 ?_
  refine ag 3 ?_
  refine ad 1 ?_
  refine cd (fun h1 => ?_) (fun h1 => ?_)
  ·
    have hM := hM.trans (bt h1)
    refine ad 7 ?_
    exact rz (rs := [.tmp 2]) (congrArg (fun x => [Re.c (.int .i64 x)]) hM)
  ·
    have hM := hM.trans (bf h1)
    refine ad 7 ?_
    refine ag 3 ?_
    refine ad 1 ?_
    refine cd (fun h2 => ?_) (fun h2 => ?_)
    ·
      have hM := hM.trans (bt h2)
      refine ad 8 ?_
      exact rz (rs := [.tmp 2]) (congrArg (fun x => [Re.c (.int .i64 x)]) hM)
    ·
      have hM := hM.trans (bf h2)
      refine ad 5 ?_
      exact rz (rs := [.tmp 2]) (congrArg (fun x => [Re.c (.int .i64 x)]) hM)

/- F100 loop.example/g00974/spec.Unhex -/
def spec_Unhex_l1 (p0 : ByteArray) (k_1 : (List UInt8) → (ByteArray × Bool)) : Nat → (List UInt8) → Nat → ByteArray × Bool
  | 0, v4_1, i_1 => k_1 v4_1
  | n_1 + 1, v4_1, i_1 => bif decide ((i_1 : Int) < (p0.size : Int)) then (bif (decide ((spec_l01Value (byteAt p0 i_1)) < 0)) || (decide ((spec_l01Value (byteAt p0 (i_1 + 1))) < 0)) then (⟨#[]⟩, false) else (spec_Unhex_l1 p0 k_1 n_1 (v4_1 ++ [u8of (IntKind.i64.wrap ((IntKind.i64.wrap (16 * (spec_l01Value (byteAt p0 i_1)))) + (spec_l01Value (byteAt p0 (i_1 + 1)))))]) (i_1 + 2))) else (k_1 v4_1)
theorem spec_Unhex_l1_x (p0 : ByteArray) (k_1 : (List UInt8) → (ByteArray × Bool)) (fu : Nat) (v4_1 : List UInt8) (i_1 : Nat) (h : (decide ((i_1 : Int) < (p0.size : Int))) = false) : spec_Unhex_l1 p0 k_1 fu v4_1 i_1 = k_1 v4_1 := by
  cases fu with
  | zero => rfl
  | succ n => exact (bf h)
def spec_Unhex (p0 : ByteArray) : ByteArray × Bool := bif (decide ((p0.size : Int) > 40000)) || (!decide ((Int.tmod (p0.size : Int) 2) = 0)) then (⟨#[]⟩, false) else (spec_Unhex_l1 p0 (fun e => (bstr e, true)) (p0.size - 0) ([] : List UInt8) 0)
theorem c_spec_Unhex (p0 : ByteArray) : CTs 100 [.o (.c (.string p0))] [Re.c (.string ((spec_Unhex p0).1)), Re.c (.bool ((spec_Unhex p0).2))] := by
  refine en Tryz.func100 Tryz.ntmps100 fun w hG hgd => ?_
  have hM := spec_Unhex.eq_1 p0
  refine ad 12 ?_
  refine ag 2 ?_
  refine op (rG) ?_
  refine ag 2 ?_
  refine ad 1 ?_
  refine cd (fun h1 => ?_) (fun h1 => ?_)
  ·
    have hM := hM.trans (bt h1)
    refine ad 5 ?_
    exact rz (rs := [.tmp 2, .tmp 3]) (congrArg (fun x => [Re.c (.string x.1), Re.c (.bool x.2)]) hM)
  ·
    have hM := hM.trans (bf h1)
    refine ad 3 ?_
    refine op (l0) ?_
    refine ad 8 ?_
    have he : p0.size % 2 = 0 := even_of (Bool.or_eq_false_iff.1 h1).2
    have hsz : p0.size ≤ 40000 := by have := (Bool.or_eq_false_iff.1 h1).1; simp at this; omega
    refine li 0 (d := instDatUInt8) ([] : List UInt8) ?_
    refine Run.loopkM (ι := Nat × (List UInt8) × Nat) (κ := (List UInt8)) (fun k s => spec_Unhex_l1 p0 k s.1 s.2.1 s.2.2) (fun s => ⟨49, 1, [(0, .v (.string p0)), (4, .sl 0 s.2.1.length), (5, .v (.int .i64 (s.2.2 : Int)))], [(0, .own UInt8 instDatUInt8 s.2.1)]⟩) (fun s => p0.size - s.2.2 ≤ s.1 ∧ s.2.2 % 2 = 0 ∧ s.2.2 ≤ p0.size ∧ s.2.1.length ≤ s.2.2) (fun s => s.1) (fun e => ⟨49, 1, [(4, .sl 0 e.length)], [(0, .own UInt8 instDatUInt8 e)]⟩) (fun e => True) (p0.size - 0, ([] : List UInt8), 0) [0] [0] hM (by refine ⟨by (try dsimp only); omega, rfl, by (try dsimp only); omega, by simp⟩) su (by decide) ?_ ?_
    ·
      rintro ev4_1 hv hM
      try dsimp only at hM hv ⊢
      refine ad 3 ?_
      refine op (ts ev4_1) ?_
      refine ad 3 ?_
      exact rz (rs := [.tmp 2, .tmp 3]) (congrArg (fun x => [Re.c (.string x.1), Re.c (.bool x.2)]) hM)
    ·
      intro k_1 hk_1
      rintro ⟨fu_1, v4_1, i_1⟩ hv_1 hE
      try dsimp only at hE
      obtain ⟨hi_1, hv_1_0, hv_1_1, hv_1_2⟩ := hv_1
      try dsimp only at hi_1 hv_1_0 hv_1_1 hv_1_2
      refine ad 8 ?_
      refine cd (fun h2 => ?_) (fun h2 => ?_)
      ·
        obtain ⟨n_1, rfl⟩ : ∃ n, fu_1 = n + 1 := ⟨fu_1 - 1, by have := h2; have := om (p := 0 < p0.size - i_1); omega⟩
        have hM := hE.trans ((spec_Unhex_l1.eq_2 _ _ _ _ _).trans (bt h2))
        refine ad 7 ?_
        refine op (sx (s := p0) i_1 om) ?_
        refine op (cl (c_spec_l01Value (byteAt p0 i_1)) fok160) ?_
        refine ad 7 ?_
        rw [wrapN (i := i_1) (by first | omega | exact om)]
        refine op (sx (s := p0) (i_1 + 1) om) ?_
        refine op (cl (c_spec_l01Value (byteAt p0 (i_1 + 1))) fok160) ?_
        refine ad 8 ?_
        refine ag 3 ?_
        refine ad 1 ?_
        refine cd (fun h3 => ?_) (fun h3 => ?_)
        ·
          have hM := hM.trans (bt h3)
          refine ad 5 ?_
          exact rz (rs := [.tmp 2, .tmp 3]) (congrArg (fun x => [Re.c (.string x.1), Re.c (.bool x.2)]) hM)
        ·
          have hM := hM.trans (bf h3)
          refine ad 9 ?_
          refine op (ap [u8of (IntKind.i64.wrap ((IntKind.i64.wrap (16 * (spec_l01Value (byteAt p0 i_1)))) + (spec_l01Value (byteAt p0 (i_1 + 1)))))] (hg := gdt) (hb := by simp only [List.length_cons, List.length_nil]; first | omega | exact om)) ?_
          refine ad 6 ?_
          rw [wrapN2 (i := i_1) (by first | omega | exact om)]
          refine ad 2 ?_
          exact Run.again (n_1, (v4_1 ++ [u8of (IntKind.i64.wrap ((IntKind.i64.wrap (16 * (spec_l01Value (byteAt p0 i_1)))) + (spec_l01Value (byteAt p0 (i_1 + 1)))))]), (i_1 + 2)) [2] [1] ⟨by refine ⟨by (try dsimp only); omega, by (try dsimp only); omega, by (try dsimp only); first | omega | exact om, by simp only [List.length_append, List.length_cons, List.length_nil]; omega⟩, hM⟩ rfl (by exact Nat.lt_succ_self _) su (by decide)
      ·
        have hM := hE.trans (spec_Unhex_l1_x p0 k_1 fu_1 v4_1 i_1 h2)
        refine ad 1 ?_
        exact Run.exitkM hk_1 v4_1 [0] [0] hM (by trivial) su (by decide)
theorem spec_Unhex_l1_len (p0 : ByteArray) : ∀ fu v i, ((spec_Unhex_l1 p0 (fun e => (bstr e, true)) fu v i).1).size ≤ v.length + fu := by
  intro fu
  induction fu with
  | zero =>
    intro v i
    show (v.toArray).size ≤ _
    rw [List.size_toArray]
    omega
  | succ n ih =>
    intro v i
    rw [spec_Unhex_l1]
    cases (decide ((i : Int) < (p0.size : Int)))
    · show (v.toArray).size ≤ _
      rw [List.size_toArray]
      omega
    · show (bif _ then _ else _ : ByteArray × Bool).1.size ≤ _
      cases (decide ((spec_l01Value (byteAt p0 i)) < 0)) || (decide ((spec_l01Value (byteAt p0 (i + 1))) < 0))
      · refine Nat.le_trans (ih _ _) ?_
        simp only [List.length_append, List.length_cons, List.length_nil]
        omega
      · exact Nat.zero_le _
theorem spec_Unhex_good (p0 : ByteArray) : (spec_Unhex p0).1.size ≤ maxLen := by
  unfold spec_Unhex
  cases hc : (decide ((p0.size : Int) > 40000)) || (!decide (Int.tmod (p0.size : Int) 2 = 0)) with
  | true => exact Nat.zero_le _
  | false =>
    have h1 := (Bool.or_eq_false_iff.1 hc).1
    have h2 : p0.size ≤ 40000 := by simp at h1; omega
    have := spec_Unhex_l1_len p0 (p0.size - 0) [] 0
    rw [List.length_nil] at this
    show ((spec_Unhex_l1 p0 (fun e => (bstr e, true)) (p0.size - 0) [] 0).1).size ≤ maxLen
    unfold maxLen
    omega

/- F99 loop.example/g00974/spec.l38Num -/
def spec_l38Num (p0 : List ByteArray) (p1 : Int) : Int := bif decide (p1 ≥ (p0.length : Int)) then 0 else ((spec_ReadDecimal (nth p0 p1.toNat)).1)
theorem c_spec_l38Num (p0 : List ByteArray) (p1 : Int) (h0 : 0 ≤ p1) : CTs 99 [.o (.sl ByteArray instDatByteArray p0), .o (.c (.int .i64 p1))] [Re.c (.int .i64 (spec_l38Num p0 p1))] := by
  refine en Tryz.func99 Tryz.ntmps99 fun w hG hgd => ?_
  obtain ⟨hg_p0, _⟩ := hgd
  have hl_p0 : p0.length ≤ 9223372036854775807 := hg_p0.1
  have hM := spec_l38Num.eq_1 p0 p1
  refine ad 12 ?_
  refine cd (fun h1 => ?_) (fun h1 => ?_)
  ·
    have hM := hM.trans (bt h1)
    refine ad 4 ?_
    exact rz (rs := [.tmp 4]) (congrArg (fun x => [Re.c (.int .i64 x)]) hM)
  ·
    have hM := hM.trans (bf h1)
    refine ad 5 ?_
    have hg3 := good_nth (k := p1.toNat) hg_p0 om
    refine op (ix (xs := p0) p1.toNat om (hi := om)) ?_
    refine ad 1 ?_
    refine op (cl (c_spec_ReadDecimal (nth p0 p1.toNat) hg3) fok159) ?_
    refine ad 11 ?_
    exact rz (rs := [.tmp 4]) (congrArg (fun x => [Re.c (.int .i64 x)]) hM)
theorem spec_l38Num_I64 (p0 : List ByteArray) (p1 : Int) : I64 (spec_l38Num p0 p1) := by
  unfold spec_l38Num
  cases (decide (p1 ≥ (p0.length : Int)))
  · exact spec_ReadDecimal_I64 _
  · exact gi 0

/- F93 loop.example/g00974/spec.PartsOf -/
def spec_PartsOf_l1 (p0 : ByteArray) : Nat → (List ByteArray) → Int → Nat → (List ByteArray) × Bool
  | 0, v4, v5, i => bif decide ((v4.length : Int) > 12) then (([] : List ByteArray), false) else (v4, true)
  | n + 1, v4, v5, i => bif (decide ((i : Int) < (p0.size : Int))) && ((decide (((byteAt p0 i).toNat : Int) < 32)) || (decide (((byteAt p0 i).toNat : Int) > 126))) then (([] : List ByteArray), false) else (bif (decide ((i : Int) < (p0.size : Int))) && (!decide (((byteAt p0 i).toNat : Int) = 32)) then (spec_PartsOf_l1 p0 n v4 v5 (i + 1)) else (spec_PartsOf_l1 p0 n (bif (decide (v5 < (i : Int))) then (v4 ++ [cutS p0 v5.toNat i]) else v4) ((i + 1 : Nat) : Int) (i + 1)))
def spec_PartsOf (p0 : ByteArray) : (List ByteArray) × Bool := bif decide ((p0.size : Int) > 600) then (([] : List ByteArray), false) else (spec_PartsOf_l1 p0 ((p0.size + 1) - 0) ([] : List ByteArray) 0 0)
theorem c_spec_PartsOf (p0 : ByteArray) : CTs 93 [.o (.c (.string p0))] [Re.sl ByteArray instDatByteArray ((spec_PartsOf p0).1), Re.c (.bool ((spec_PartsOf p0).2))] := by
  refine en Tryz.func93 Tryz.ntmps93 fun w hG hgd => ?_
  have hM := spec_PartsOf.eq_1 p0
  refine ad 7 ?_
  refine op (l0) ?_
  refine ad 9 ?_
  refine cd (fun h1 => ?_) (fun h1 => ?_)
  ·
    have hM := hM.trans (bt h1)
    refine ad 6 ?_
    refine li 0 (d := instDatByteArray) ([] : List ByteArray) ?_
    exact rz (rs := [.tmp 2, .tmp 3]) (congrArg (fun x => [Re.sl ByteArray instDatByteArray x.1, Re.c (.bool x.2)]) hM)
  ·
    have hM := hM.trans (bf h1)
    refine ad 11 ?_
    have hsz : p0.size ≤ 600 := by have := h1; simp at this; omega
    refine li 0 (d := instDatByteArray) ([] : List ByteArray) ?_
    refine Run.loopM (ι := (List ByteArray) × Int × Nat) (fun s => spec_PartsOf_l1 p0 ((p0.size + 1) - s.2.2) s.1 s.2.1 s.2.2) (fun s => ⟨62, 1, [(0, .v (.string p0)), (4, .sl 0 s.1.length), (5, .v (.int .i64 s.2.1)), (6, .v (.int .i64 (s.2.2 : Int)))], [(0, .own ByteArray instDatByteArray s.1)]⟩) (fun s => s.2.2 ≤ (p0.size + 1) ∧ 0 ≤ s.2.1 ∧ s.2.1 ≤ s.2.2 ∧ s.1.length ≤ s.2.2) (fun s => (p0.size + 1) - s.2.2) (([] : List ByteArray), 0, 0) [0] [0] hM (by refine ⟨by (try dsimp only); omega, by (try dsimp only); omega, by (try dsimp only); omega, by simp⟩) su (by decide) ?_
    rintro ⟨v4, v5, i⟩ hv hE
    try dsimp only at hE
    obtain ⟨hi, hv0, hv1, hv2⟩ := hv
    try dsimp only at hi hv0 hv1 hv2
    refine ad 8 ?_
    refine cd (fun h2 => ?_) (fun h2 => ?_)
    ·
      have h2l : i < (p0.size + 1) := by have := of_decide_eq_true h2; omega
      have hM := hE.trans ((congrArg (fun n => spec_PartsOf_l1 p0 n v4 v5 i) (show (p0.size + 1) - i = ((p0.size + 1) - (i + 1)) + 1 by omega)).trans (spec_PartsOf_l1.eq_2 _ _ _ _ _))
      refine ad 11 ?_
      refine ag 2 ?_
      refine op (sG (s := p0) i (hk := fun hB => by (try simp at hB); omega)) ?_
      refine ag 4 ?_
      refine op (sG (s := p0) i (hk := fun hB => by (try simp at hB); omega)) ?_
      refine ag 3 ?_
      refine ad 1 ?_
      refine cd (fun h3 => ?_) (fun h3 => ?_)
      ·
        have hM := hM.trans (bt h3)
        refine ad 2 ?_
        refine op (l0) ?_
        refine ad 3 ?_
        refine li 1 (d := instDatByteArray) ([] : List ByteArray) ?_
        exact rz (rs := [.tmp 2, .tmp 3]) (congrArg (fun x => [Re.sl ByteArray instDatByteArray x.1, Re.c (.bool x.2)]) hM)
      ·
        have hM := hM.trans (bf h3)
        refine ad 9 ?_
        refine ag 2 ?_
        refine op (sG (s := p0) i (hk := fun hB => by (try simp at hB); omega)) ?_
        refine ag 2 ?_
        refine ad 1 ?_
        refine cd (fun h4 => ?_) (fun h4 => ?_)
        ·
          have hM := hM.trans (bt h4)
          refine ad 4 ?_
          rw [wrapN (i := i) (by first | omega | exact om)]
          refine ad 2 ?_
          exact Run.again (v4, v5, (i + 1)) [0] [0] ⟨by refine ⟨by (try dsimp only); omega, by (try dsimp only); omega, by (try dsimp only); omega, ?_⟩ <;> (try dsimp only) <;> first | omega | (rw [Bool.cond_eq_ite]; split <;> (try simp only [List.length_append, List.length_cons, List.length_nil]) <;> omega), hM⟩ rfl (by show _ - _ < _ - _; (try dsimp only); omega) su (by decide)
        ·
          have hM := hM.trans (bf h4)
          refine ad 8 ?_
          refine Run.mid ⟨62, 1, [(0, .v (.string p0)), (4, .sl 0 ((bif (decide (v5 < (i : Int))) then (v4 ++ [cutS p0 v5.toNat i]) else v4).length)), (6, .v (.int .i64 (i : Int)))], [(0, .own ByteArray instDatByteArray (bif (decide (v5 < (i : Int))) then (v4 ++ [cutS p0 v5.toNat i]) else v4))]⟩ ?_ ?_
          · refine cd (fun h5 => ?_) (fun h5 => ?_)
            ·
              refine ad 5 ?_
              refine op (cu v5.toNat i) ?_
              refine ad 1 ?_
              have hg6 : Dat.good (cutS p0 v5.toNat i) := cutS_good (by first | assumption | exact om)
              refine op (ap [cutS p0 v5.toNat i] (hg := gdt) (hb := by simp only [List.length_cons, List.length_nil]; first | omega | exact om)) ?_
              refine ad 2 ?_
              exact Run.at [2] [1] (by first | exact su | (rw [h5]; exact su)) (by decide)
            ·
              refine ad 1 ?_
              exact Run.at [0] [0] (by first | exact su | (rw [h5]; exact su)) (by decide)
          refine ad 3 ?_
          rw [wrapN (i := i) (by first | omega | exact om)]
          refine ad 6 ?_
          rw [wrapN (i := i) (by first | omega | exact om)]
          refine ad 2 ?_
          exact Run.again (bif (decide (v5 < (i : Int))) then (v4 ++ [cutS p0 v5.toNat i]) else v4, ((i + 1 : Nat) : Int), (i + 1)) [0] [0] ⟨by refine ⟨by (try dsimp only); omega, by (try dsimp only); omega, by (try dsimp only); omega, ?_⟩ <;> (try dsimp only) <;> first | omega | (rw [Bool.cond_eq_ite]; split <;> (try simp only [List.length_append, List.length_cons, List.length_nil]) <;> omega), hM⟩ rfl (by show _ - _ < _ - _; (try dsimp only); omega) su (by decide)
    ·
      have h2l : ¬ (i < (p0.size + 1)) := by have := of_decide_eq_false h2; omega
      have hM := hE.trans ((congrArg (fun n => spec_PartsOf_l1 p0 n v4 v5 i) (show (p0.size + 1) - i = 0 by omega)).trans (spec_PartsOf_l1.eq_1 _ _ _ _))
      refine ad 8 ?_
      refine cd (fun h7 => ?_) (fun h7 => ?_)
      ·
        have hM := hM.trans (bt h7)
        refine ad 2 ?_
        refine op (l0) ?_
        refine ad 3 ?_
        refine li 1 (d := instDatByteArray) ([] : List ByteArray) ?_
        exact rz (rs := [.tmp 2, .tmp 3]) (congrArg (fun x => [Re.sl ByteArray instDatByteArray x.1, Re.c (.bool x.2)]) hM)
      ·
        have hM := hM.trans (bf h7)
        refine ad 7 ?_
        exact rz (rs := [.tmp 2, .tmp 3]) (congrArg (fun x => [Re.sl ByteArray instDatByteArray x.1, Re.c (.bool x.2)]) hM)

/- F84 slices.Index[[]string,string] -/
def slices_Index_string_l1 (p0 : List ByteArray) (p1 : ByteArray) : Nat → Nat → Int
  | 0, i => (-1)
  | n + 1, i => bif decide (p1 = (nth p0 i)) then (i : Int) else (slices_Index_string_l1 p0 p1 n (i + 1))
def slices_Index_string (p0 : List ByteArray) (p1 : ByteArray) : Int := slices_Index_string_l1 p0 p1 (p0.length - 0) 0
theorem c_slices_Index_string (p0 : List ByteArray) (p1 : ByteArray) : CTs 84 [.o (.sl ByteArray instDatByteArray p0), .o (.c (.string p1))] [Re.c (.int .i64 (slices_Index_string p0 p1))] := by
  refine en Tryz.func84 Tryz.ntmps84 fun w hG hgd => ?_
  obtain ⟨hg_p0, _⟩ := hgd
  have hl_p0 : p0.length ≤ 9223372036854775807 := hg_p0.1
  have hM := slices_Index_string.eq_1 p0 p1
  refine ad 12 ?_
  refine Run.loopM (ι := Nat) (fun s => slices_Index_string_l1 p0 p1 (p0.length - s) s) (fun s => ⟨19, 1, [(0, .sl 0 p0.length), (1, .v (.string p1)), (7, .v (.int .i64 (p0.length : Int))), (8, .v (.int .i64 (s : Int)))], [(0, .ros ByteArray instDatByteArray p0)]⟩) (fun s => s ≤ p0.length) (fun s => p0.length - s) 0 [0] [0] hM (by first | exact ⟨by omega, by simp⟩ | omega | simp | (dsimp only; omega)) su (by decide) ?_
  rintro i hv hE
  try dsimp only at hE
  have hi := hv
  try dsimp only at hi
  refine ad 5 ?_
  refine cd (fun h1 => ?_) (fun h1 => ?_)
  ·
    have h1l : i < p0.length := by have := of_decide_eq_true h1; omega
    have hM := hE.trans ((congrArg (fun n => slices_Index_string_l1 p0 p1 n i) (show p0.length - i = (p0.length - (i + 1)) + 1 by omega)).trans (slices_Index_string_l1.eq_2 _ _ _ _))
    refine ad 13 ?_
    have hg3 := good_nth (k := i) hg_p0 om
    refine op (ix (xs := p0) i om) ?_
    refine ad 3 ?_
    refine cd (fun h4 => ?_) (fun h4 => ?_)
    ·
      have hM := hM.trans (bt h4)
      refine ad 5 ?_
      exact rz (rs := [.tmp 4]) (congrArg (fun x => [Re.c (.int .i64 x)]) hM)
    ·
      have hM := hM.trans (bf h4)
      refine ad 4 ?_
      rw [wrapN (i := i) (by first | omega | exact om)]
      refine ad 2 ?_
      exact Run.again (i + 1) [0] [1] ⟨by first | omega | exact trivial | (dsimp only; omega) | (refine ⟨by omega, ?_⟩; simp_all; try omega), hM⟩ rfl (by show _ - _ < _ - _; (try dsimp only); omega) su (by decide)
  ·
    have h1l : ¬ (i < p0.length) := by have := of_decide_eq_false h1; omega
    have hM := hE.trans ((congrArg (fun n => slices_Index_string_l1 p0 p1 n i) (show p0.length - i = 0 by omega)).trans (slices_Index_string_l1.eq_1 _ _ _))
    refine ad 5 ?_
    exact rz (rs := [.tmp 4]) (congrArg (fun x => [Re.c (.int .i64 x)]) hM)

/- F77 slices.Equal[[]string,string] -/
def slices_Equal_string_l1 (p0 : List ByteArray) (p1 : List ByteArray) : Nat → Nat → Bool
  | 0, i => true
  | n + 1, i => bif !decide ((nth p0 i) = (nth p1 i)) then false else (slices_Equal_string_l1 p0 p1 n (i + 1))
def slices_Equal_string (p0 : List ByteArray) (p1 : List ByteArray) : Bool := bif !decide ((p0.length : Int) = (p1.length : Int)) then false else (slices_Equal_string_l1 p0 p1 (p0.length - 0) 0)
theorem c_slices_Equal_string (p0 : List ByteArray) (p1 : List ByteArray) : CTs 77 [.o (.sl ByteArray instDatByteArray p0), .o (.sl ByteArray instDatByteArray p1)] [Re.c (.bool (slices_Equal_string p0 p1))] := by
  refine en Tryz.func77 Tryz.ntmps77 fun w hG hgd => ?_
  obtain ⟨hg_p0, hg_p1, _⟩ := hgd
  have hl_p0 : p0.length ≤ 9223372036854775807 := hg_p0.1
  have hl_p1 : p1.length ≤ 9223372036854775807 := hg_p1.1
  have hM := slices_Equal_string.eq_1 p0 p1
  refine ad 13 ?_
  refine cd (fun h1 => ?_) (fun h1 => ?_)
  ·
    have hM := hM.trans (bt h1)
    refine ad 4 ?_
    exact rz (rs := [.tmp 4]) (congrArg (fun x => [Re.c (.bool x)]) hM)
  ·
    have hM := hM.trans (bf h1)
    refine ad 9 ?_
    refine Run.loopM (ι := Nat) (fun s => slices_Equal_string_l1 p0 p1 (p0.length - s) s) (fun s => ⟨26, 2, [(0, .sl 0 p0.length), (1, .sl 1 p1.length), (12, .v (.int .i64 (p0.length : Int))), (13, .v (.int .i64 (s : Int)))], [(0, .ros ByteArray instDatByteArray p0), (1, .ros ByteArray instDatByteArray p1)]⟩) (fun s => s ≤ p0.length) (fun s => p0.length - s) 0 [0, 1] [0, 1] hM (by first | exact ⟨by omega, by simp⟩ | omega | simp | (dsimp only; omega)) su (by decide) ?_
    rintro i hv hE
    try dsimp only at hE
    have hi := hv
    try dsimp only at hi
    refine ad 5 ?_
    refine cd (fun h2 => ?_) (fun h2 => ?_)
    ·
      have h2l : i < p0.length := by have := of_decide_eq_true h2; omega
      have hM := hE.trans ((congrArg (fun n => slices_Equal_string_l1 p0 p1 n i) (show p0.length - i = (p0.length - (i + 1)) + 1 by omega)).trans (slices_Equal_string_l1.eq_2 _ _ _ _))
      refine ad 9 ?_
      refine dr 9 fun _ _ _ _ _ hb => ?_
      refine tk [0, 1] ?_
      have hg3 := good_nth (k := i) hg_p0 om
      refine tx 2 (dx (xs := p0) i om) ?_
      refine tk [3, 4, 5] ?_
      have hg4 := good_nth (k := i) hg_p1 om
      refine tx 6 (dx (xs := p1) i om) ?_
      refine tk [7, 8] ?_
      refine dn hb ?_
      refine cd (fun h5 => ?_) (fun h5 => ?_)
      ·
        have hM := hM.trans (bt h5)
        refine ad 4 ?_
        exact rz (rs := [.tmp 4]) (congrArg (fun x => [Re.c (.bool x)]) hM)
      ·
        have hM := hM.trans (bf h5)
        refine ad 4 ?_
        rw [wrapN (i := i) (by first | omega | exact om)]
        refine ad 2 ?_
        exact Run.again (i + 1) [0, 1] [2, 3] ⟨by first | omega | exact trivial | (dsimp only; omega) | (refine ⟨by omega, ?_⟩; simp_all; try omega), hM⟩ rfl (by show _ - _ < _ - _; (try dsimp only); omega) su (by decide)
    ·
      have h2l : ¬ (i < p0.length) := by have := of_decide_eq_false h2; omega
      have hM := hE.trans ((congrArg (fun n => slices_Equal_string_l1 p0 p1 n i) (show p0.length - i = 0 by omega)).trans (slices_Equal_string_l1.eq_1 _ _ _))
      refine ad 5 ?_
      exact rz (rs := [.tmp 4]) (congrArg (fun x => [Re.c (.bool x)]) hM)

/- F75 loop.example/g00974/spec.l03Same -/
def spec_l03Same_l1 (p0 : List ByteArray) (p1 : List ByteArray) : Nat → Nat → Bool
  | 0, i => true
  | n + 1, i => bif !decide ((nth p0 i) = (nth p1 i)) then false else (spec_l03Same_l1 p0 p1 n (i + 1))
def spec_l03Same (p0 : List ByteArray) (p1 : List ByteArray) : Bool := bif !decide ((p0.length : Int) = (p1.length : Int)) then false else (spec_l03Same_l1 p0 p1 (p0.length - 0) 0)
theorem c_spec_l03Same (p0 : List ByteArray) (p1 : List ByteArray) : CTs 75 [.o (.sl ByteArray instDatByteArray p0), .o (.sl ByteArray instDatByteArray p1)] [Re.c (.bool (spec_l03Same p0 p1))] := by
  refine en Tryz.func75 Tryz.ntmps75 fun w hG hgd => ?_
  obtain ⟨hg_p0, hg_p1, _⟩ := hgd
  have hl_p0 : p0.length ≤ 9223372036854775807 := hg_p0.1
  have hl_p1 : p1.length ≤ 9223372036854775807 := hg_p1.1
  have hM := spec_l03Same.eq_1 p0 p1
  refine ad 13 ?_
  refine cd (fun h1 => ?_) (fun h1 => ?_)
  ·
    have hM := hM.trans (bt h1)
    refine ad 4 ?_
    exact rz (rs := [.tmp 4]) (congrArg (fun x => [Re.c (.bool x)]) hM)
  ·
    have hM := hM.trans (bf h1)
    refine ad 7 ?_
    refine Run.loopM (ι := Nat) (fun s => spec_l03Same_l1 p0 p1 (p0.length - s) s) (fun s => ⟨26, 2, [(0, .sl 0 p0.length), (1, .sl 1 p1.length), (5, .v (.int .i64 (s : Int)))], [(0, .ros ByteArray instDatByteArray p0), (1, .ros ByteArray instDatByteArray p1)]⟩) (fun s => s ≤ p0.length) (fun s => p0.length - s) 0 [0, 1] [0, 1] hM (by first | exact ⟨by omega, by simp⟩ | omega | simp | (dsimp only; omega)) su (by decide) ?_
    rintro i hv hE
    try dsimp only at hE
    have hi := hv
    try dsimp only at hi
    refine ad 8 ?_
    refine cd (fun h2 => ?_) (fun h2 => ?_)
    ·
      have h2l : i < p0.length := by have := of_decide_eq_true h2; omega
      have hM := hE.trans ((congrArg (fun n => spec_l03Same_l1 p0 p1 n i) (show p0.length - i = (p0.length - (i + 1)) + 1 by omega)).trans (spec_l03Same_l1.eq_2 _ _ _ _))
      refine ad 4 ?_
      refine dr 9 fun _ _ _ _ _ hb => ?_
      refine tk [0, 1] ?_
      have hg3 := good_nth (k := i) hg_p0 om
      refine tx 2 (dx (xs := p0) i om) ?_
      refine tk [3, 4, 5] ?_
      have hg4 := good_nth (k := i) hg_p1 om
      refine tx 6 (dx (xs := p1) i om) ?_
      refine tk [7, 8] ?_
      refine dn hb ?_
      refine cd (fun h5 => ?_) (fun h5 => ?_)
      ·
        have hM := hM.trans (bt h5)
        refine ad 4 ?_
        exact rz (rs := [.tmp 4]) (congrArg (fun x => [Re.c (.bool x)]) hM)
      ·
        have hM := hM.trans (bf h5)
        refine ad 5 ?_
        rw [wrapN (i := i) (by first | omega | exact om)]
        refine ad 2 ?_
        exact Run.again (i + 1) [0, 1] [2, 3] ⟨by first | omega | exact trivial | (dsimp only; omega) | (refine ⟨by omega, ?_⟩; simp_all; try omega), hM⟩ rfl (by show _ - _ < _ - _; (try dsimp only); omega) su (by decide)
    ·
      have h2l : ¬ (i < p0.length) := by have := of_decide_eq_false h2; omega
      have hM := hE.trans ((congrArg (fun n => spec_l03Same_l1 p0 p1 n i) (show p0.length - i = 0 by omega)).trans (spec_l03Same_l1.eq_1 _ _ _))
      refine ad 5 ?_
      exact rz (rs := [.tmp 4]) (congrArg (fun x => [Re.c (.bool x)]) hM)

end Go.Proofs.YtnjidaonbcbphaaGreatDoor.Fw
/-
  The contract of the library's word splitting, for the abstract machine. No condition.
-/
namespace Go.Proofs.YtnjidaonbcbphaaGreatDoor.Fw
open Go.RowKit
set_option linter.unusedVariables false
set_option maxRecDepth 100000

theorem parts_inv {p0 : ByteArray} {i : Nat} (hi : i < p0.size) (hv : ∀ j, j < i → 32 ≤ (byteAt p0 j).toNat ∧ (byteAt p0 j).toNat ≤ 126) (h : ((decide (((byteAt p0 i).toNat : Int) < 32)) || (decide (((byteAt p0 i).toNat : Int) > 126))) = false) :
    i + 1 ≤ p0.size ∧ ∀ j, j < i + 1 → 32 ≤ (byteAt p0 j).toNat ∧ (byteAt p0 j).toNat ≤ 126 := by
  refine ⟨hi, fun j hj => ?_⟩
  rcases Nat.lt_or_ge j i with h1 | h1
  · exact hv j h1
  · obtain rfl : j = i := by omega
    obtain ⟨h2, h3⟩ := Bool.or_eq_false_iff.1 h
    have h2' := of_decide_eq_false h2
    have h3' := of_decide_eq_false h3
    omega
theorem len_of {a : ByteArray} {n : Nat} (h1 : decide ((n : Int) = 0) = false) (h2 : (!decide ((a.size : Int) = IntKind.i64.wrap ((n : Int) - 1))) = false) (hn : n ≤ 9223372036854775807) : a.size + 1 = n := by
  have h1' := of_decide_eq_false h1
  have h2' : (a.size : Int) = IntKind.i64.wrap ((n : Int) - 1) := by simpa using h2
  rw [IntWalk.i64_in _ (by omega)] at h2'
  omega
theorem lt_wrap {i n : Nat} (h : decide (IntKind.i64.wrap ((i : Int) + 1) < (n : Int)) = true) (hi : i ≤ 1000) : i + 1 < n := by
  have h' := of_decide_eq_true h
  rw [IntWalk.i64_in _ (by omega)] at h'
  omega
theorem fieldsGo_le : ∀ (l cur : List UInt8), (Lib.fieldsGo cur l).length ≤ l.length + 1 ∧ ∀ x ∈ Lib.fieldsGo cur l, x.length ≤ cur.length + l.length
  | [], cur => by
    cases cur with
    | nil => exact ⟨by simp [Lib.fieldsGo], fun x hx => by simp [Lib.fieldsGo] at hx⟩
    | cons a r => exact ⟨by simp [Lib.fieldsGo], fun x hx => by simp [Lib.fieldsGo] at hx; subst hx; simp⟩
  | b :: l, cur => by
    rw [Lib.fieldsGo]
    split
    · have ih := fieldsGo_le l []
      split
      · refine ⟨by simp only [List.length_cons]; omega, fun x hx => ?_⟩
        have := ih.2 x hx
        simp only [List.length_nil, List.length_cons] at *
        omega
      · refine ⟨by simp only [List.length_cons]; omega, fun x hx => ?_⟩
        rcases List.mem_cons.1 hx with rfl | hx
        · simp
        · have := ih.2 x hx
          simp only [List.length_nil, List.length_cons] at *
          omega
    · have ih := fieldsGo_le l (cur ++ [b])
      refine ⟨by simp only [List.length_cons]; omega, fun x hx => ?_⟩
      have := ih.2 x hx
      simp only [List.length_append, List.length_cons, List.length_nil] at *
      omega
def fieldsS (s : ByteArray) : List ByteArray := (Lib.fields s.data.toList).map fun l => ⟨l.toArray⟩
theorem fieldsS_len (s : ByteArray) : (fieldsS s).length ≤ s.size + 1 := by
  unfold fieldsS
  rw [List.length_map]
  have := (fieldsGo_le s.data.toList []).1
  rw [Array.length_toList] at this
  exact this
theorem fieldsS_sizes (s : ByteArray) : ∀ x ∈ fieldsS s, x.size ≤ s.size := fun x hx => by
  obtain ⟨l, hl, rfl⟩ := List.mem_map.1 hx
  have := (fieldsGo_le s.data.toList []).2 l hl
  rw [Array.length_toList, List.length_nil, Nat.zero_add] at this
  show l.toArray.size ≤ _
  rw [List.size_toArray]
  exact this
theorem gl2_tab : gl2 = Lib.asciiSpaceTab.map (fun x => x) := by decide
theorem k_fields (p0 : ByteArray) (hs : p0.size ≤ 600) (ha : ∀ j, j < p0.size → 32 ≤ (byteAt p0 j).toNat ∧ (byteAt p0 j).toNat ≤ 126) : CTs 103 [.o (.c (.string p0))] [.sl ByteArray instDatByteArray (fieldsS p0)] := fun w vs hG hA => by
  obtain rfl := argsC (us := [.string p0]) hA
  have ht : Lib.TabIs Tryz.prog w "strings.asciiSpace" .u8 Lib.asciiSpaceTab := by
    have h2 := Gl2 w hG
    rw [gl2_tab, List.map_id'] at h2
    exact h2.var (by kernel_rfl)
  refine (Tryz.strings_Fields p0 w (by omega) (fun j b hb => ?_) ht).mono fun e w2 hr => ?_
  · have hj := (List.getElem?_eq_some_iff.1 hb).1
    rw [Array.length_toList] at hj
    have := (ha j hj).2
    have e : byteAt p0 j = b := by
      unfold byteAt
      rw [Array.getElem?_toList] at hb
      rw [Array.getD_eq_getD_getElem?, hb]
      rfl
    rw [e] at this
    omega
  · obtain ⟨rfl, rfl⟩ := hr
    have hl := fieldsS_len p0
    have hn : (Lib.fields p0.data.toList).length = (fieldsS p0).length := by unfold fieldsS; rw [List.length_map]
    have hk : Below w.heap.size w (w.alloc (.cells ((Lib.fields p0.data.toList).map fun l => Value.string ⟨l.toArray⟩).toArray 9)) := (Below.refl _ w).alloc (Nat.le_refl _) _
    have hrow : (w.alloc (.cells ((Lib.fields p0.data.toList).map fun l => Value.string ⟨l.toArray⟩).toArray 9)).ownsRow w.heap.size 9 1 (.slice (some ⟨w.heap.size, 0, none⟩) (fieldsS p0).length (fieldsS p0).length) (fieldsS p0).length ((fieldsS p0).map Value.string) := by
      refine ⟨by rw [List.length_map, Nat.mul_one], .inr ⟨w.heap.size, (fieldsS p0).length, _, rfl, Nat.le_refl _, Array.getElem?_push_size, Nat.le_refl _, by unfold maxLen; omega, ?_, ?_⟩⟩
      · rw [List.size_toArray, List.length_map, Nat.mul_one]
        exact hn
      · rw [Nat.mul_one, List.take_of_length_le (by simp [hn])]
        simp [fieldsS]
    obtain ⟨F, h1, h2, h3⟩ := slo_row (α := ByteArray) (mk := Value.string) rfl (fun x hx => ⟨⟨rfl, by have := fieldsS_sizes p0 x hx; show x.size ≤ maxLen; unfold maxLen; omega⟩, rfl⟩) hrow rfl
    rw [hn]
    refine ⟨_, rfl, Keep.of_below hk fun _ h => h, [_], F ++ [], rfl, ⟨F, [], rfl, h1, rfl⟩, by rw [List.append_nil]; exact h2, fun b hb => ?_⟩
    rw [List.append_nil] at hb
    have := h3 b hb
    show ¬ b < w.heap.size
    omega
end Go.Proofs.YtnjidaonbcbphaaGreatDoor.Fw

/- Contracts: each call returns what the model says. By program (wip/am/gen2.py). -/
namespace Go.Proofs.YtnjidaonbcbphaaGreatDoor.Fw
open Go.RowKit
set_option linter.unusedVariables false
set_option maxRecDepth 100000

theorem fok26 : FnOk Tryz.prog 26 := ⟨_, Tryz.func26, rfl, by kernel_rfl⟩
theorem fok33 : FnOk Tryz.prog 33 := ⟨_, Tryz.func33, rfl, by kernel_rfl⟩
theorem fok35 : FnOk Tryz.prog 35 := ⟨_, Tryz.func35, rfl, by kernel_rfl⟩
theorem fok75 : FnOk Tryz.prog 75 := ⟨_, Tryz.func75, rfl, by kernel_rfl⟩
theorem fok77 : FnOk Tryz.prog 77 := ⟨_, Tryz.func77, rfl, by kernel_rfl⟩
theorem fok84 : FnOk Tryz.prog 84 := ⟨_, Tryz.func84, rfl, by kernel_rfl⟩
theorem fok85 : FnOk Tryz.prog 85 := ⟨_, Tryz.func85, rfl, by kernel_rfl⟩
theorem fok93 : FnOk Tryz.prog 93 := ⟨_, Tryz.func93, rfl, by kernel_rfl⟩
theorem fok96 : FnOk Tryz.prog 96 := ⟨_, Tryz.func96, rfl, by kernel_rfl⟩
theorem fok99 : FnOk Tryz.prog 99 := ⟨_, Tryz.func99, rfl, by kernel_rfl⟩
theorem fok100 : FnOk Tryz.prog 100 := ⟨_, Tryz.func100, rfl, by kernel_rfl⟩
theorem fok103 : FnOk Tryz.prog 103 := ⟨_, Tryz.func103, rfl, by kernel_rfl⟩
theorem fok158 : FnOk Tryz.prog 158 := ⟨_, Tryz.func158, rfl, by kernel_rfl⟩
/- F33 loop.example/g00974/impl.PartsOf -/
def impl_PartsOf_l1 (p0 : ByteArray) : Nat → Nat → (List ByteArray) × Bool
  | 0, i => bif decide (((fieldsS p0).length : Int) > 12) then ([], false) else ((fieldsS p0), true)
  | n + 1, i => bif (decide (((byteAt p0 i).toNat : Int) < 32)) || (decide (((byteAt p0 i).toNat : Int) > 126)) then ([], false) else (impl_PartsOf_l1 p0 n (i + 1))
def impl_PartsOf (p0 : ByteArray) : (List ByteArray) × Bool := bif decide ((p0.size : Int) > 600) then ([], false) else (impl_PartsOf_l1 p0 (p0.size - 0) 0)
theorem c_impl_PartsOf (p0 : ByteArray) (hz_p0 : p0.size ≤ 9223372036854775807) : CTs 33 [.o (.c (.string p0))] [Re.sl ByteArray instDatByteArray ((impl_PartsOf p0).1), Re.c (.bool ((impl_PartsOf p0).2))] := by
  refine en Tryz.func33 Tryz.ntmps33 fun w hG hgd => ?_
  have hM := impl_PartsOf.eq_1 p0
  refine ad 12 ?_
  refine cd (fun h1 => ?_) (fun h1 => ?_)
  ·
    have hM := hM.trans (bt h1)
    refine ad 5 ?_
    exact rz (rs := [.tmp 2, .tmp 3]) (congrArg (fun x => [Re.sl ByteArray instDatByteArray x.1, Re.c (.bool x.2)]) hM)
  ·
    have hM := hM.trans (bf h1)
    refine ad 9 ?_
    have hsz : p0.size ≤ 600 := by have := h1; simp at this; omega
    refine Run.loopM (ι := Nat) (fun s => impl_PartsOf_l1 p0 (p0.size - s) s) (fun s => ⟨31, 0, [(0, .v (.string p0)), (10, .v (.int .i64 (p0.size : Int))), (11, .v (.int .i64 (s : Int)))], []⟩) (fun s => s ≤ p0.size ∧ ∀ j, j < s → 32 ≤ (byteAt p0 j).toNat ∧ (byteAt p0 j).toNat ≤ 126) (fun s => p0.size - s) 0 [] [] hM (by exact ⟨by (try dsimp only); omega, fun j hj => by omega⟩) su (by decide) ?_
    rintro i hv hE
    try dsimp only at hE
    obtain ⟨hi, hv0⟩ := hv
    try dsimp only at hi hv0
    refine ad 5 ?_
    refine cd (fun h2 => ?_) (fun h2 => ?_)
    ·
      have h2l : i < p0.size := by have := of_decide_eq_true h2; omega
      have hM := hE.trans ((congrArg (fun n => impl_PartsOf_l1 p0 n i) (show p0.size - i = (p0.size - (i + 1)) + 1 by omega)).trans (impl_PartsOf_l1.eq_2 _ _ _))
      refine ad 12 ?_
      refine op (sx (s := p0) i om) ?_
      refine ad 2 ?_
      refine ag 2 ?_
      refine op (sG (s := p0) i (hk := fun hB => by (try simp at hB); omega)) ?_
      refine ag 2 ?_
      refine ad 1 ?_
      refine cd (fun h3 => ?_) (fun h3 => ?_)
      ·
        have hM := hM.trans (bt h3)
        refine ad 5 ?_
        exact rz (rs := [.tmp 2, .tmp 3]) (congrArg (fun x => [Re.sl ByteArray instDatByteArray x.1, Re.c (.bool x.2)]) hM)
      ·
        have hM := hM.trans (bf h3)
        refine ad 4 ?_
        rw [wrapN (i := i) (by first | omega | exact om)]
        refine ad 2 ?_
        exact Run.again (i + 1) [] [] ⟨by exact parts_inv (by omega) hv0 (by assumption), hM⟩ rfl (by show _ - _ < _ - _; (try dsimp only); omega) su (by decide)
    ·
      have h2l : ¬ (i < p0.size) := by have := of_decide_eq_false h2; omega
      have hM := hE.trans ((congrArg (fun n => impl_PartsOf_l1 p0 n i) (show p0.size - i = 0 by omega)).trans (impl_PartsOf_l1.eq_1 _ _))
      refine ad 4 ?_
      refine og (clg (k_fields p0 (by first | assumption | exact om) (fun j hj => hv0 j (by omega))) fok103) fun hgq => ?_
      obtain ⟨hg4, _⟩ := hgq
      refine ad 9 ?_
      refine cd (fun h5 => ?_) (fun h5 => ?_)
      ·
        have hM := hM.trans (bt h5)
        refine ad 5 ?_
        exact rz (rs := [.tmp 2, .tmp 3]) (congrArg (fun x => [Re.sl ByteArray instDatByteArray x.1, Re.c (.bool x.2)]) hM)
      ·
        have hM := hM.trans (bf h5)
        refine ad 7 ?_
        exact rz (rs := [.tmp 2, .tmp 3]) (congrArg (fun x => [Re.sl ByteArray instDatByteArray x.1, Re.c (.bool x.2)]) hM)

/- F96 (*loop.example/g00974/impl.Call).setField -/
def impl_Call_setField (p0 : Call) (p1 : Int) (p2 : ByteArray) : Call := (Call.mk p0.Kind (bif (decide (p1 = 78)) then p2 else p0.Name) (bif (decide (p1 = 78)) then p0.To else (bif (decide (p1 = 84)) then p2 else p0.To)) (bif (decide (p1 = 78)) then p0.A else (bif (decide (p1 = 84)) then p0.A else (bif (decide (p1 = 65)) then ((impl_ReadDecimal p2).1) else p0.A))) (bif (decide (p1 = 78)) then p0.B else (bif (decide (p1 = 84)) then p0.B else (bif (decide (p1 = 65)) then p0.B else (bif (decide (p1 = 66)) then ((impl_ReadDecimal p2).1) else p0.B)))) (bif (decide (p1 = 78)) then p0.Text else (bif (decide (p1 = 84)) then p0.Text else (bif (decide (p1 = 65)) then p0.Text else (bif (decide (p1 = 66)) then p0.Text else (bif (decide (p1 = 88)) then ((impl_Unhex p2).1) else p0.Text))))))
theorem c_impl_Call_setField (p0 : Call) (p1 : Int) (p2 : ByteArray) (hq : p2.size ≤ 281474976710656) : CTMs 96 1 1 [(0, .var [.v (.int .i64 p0.Kind), .v (.string p0.Name), .v (.string p0.To), .v (.int .i64 p0.A), .v (.int .i64 p0.B), .v (.string p0.Text)] 54)] [] [.pt 0 0, .v (.int .i32 p1), .v (.string p2)] [(0, .var [.v (.int .i64 ((impl_Call_setField p0 p1 p2).Kind)), .v (.string ((impl_Call_setField p0 p1 p2).Name)), .v (.string ((impl_Call_setField p0 p1 p2).To)), .v (.int .i64 ((impl_Call_setField p0 p1 p2).A)), .v (.int .i64 ((impl_Call_setField p0 p1 p2).B)), .v (.string ((impl_Call_setField p0 p1 p2).Text))] 54)] 0 [] True := by
  refine enM Tryz.func96 Tryz.ntmps96 fun S w p hG hb hg => ?_
  refine Run.cg (σ' := ⟨49, 1, [(0, .pt 0 0), (1, .v (.int .i32 p1)), (2, .v (.string p2))], [(0, .var [.v (.int .i64 p0.Kind), .v (.string p0.Name), .v (.string p0.To), .v (.int .i64 p0.A), .v (.int .i64 p0.B), .v (.string p0.Text)] 54), (0, .pin (p 0))]⟩) rfl ?_
  have hM := impl_Call_setField.eq_1 p0 p1 p2
  refine ad 10 ?_
  refine Run.mid ⟨49, 1, [(0, .pt 0 0)], [(0, .var [.v (.int .i64 p0.Kind), .v (.string (bif (decide (p1 = 78)) then p2 else p0.Name)), .v (.string (bif (decide (p1 = 78)) then p0.To else (bif (decide (p1 = 84)) then p2 else p0.To))), .v (.int .i64 (bif (decide (p1 = 78)) then p0.A else (bif (decide (p1 = 84)) then p0.A else (bif (decide (p1 = 65)) then ((impl_ReadDecimal p2).1) else p0.A)))), .v (.int .i64 (bif (decide (p1 = 78)) then p0.B else (bif (decide (p1 = 84)) then p0.B else (bif (decide (p1 = 65)) then p0.B else (bif (decide (p1 = 66)) then ((impl_ReadDecimal p2).1) else p0.B))))), .v (.string (bif (decide (p1 = 78)) then p0.Text else (bif (decide (p1 = 84)) then p0.Text else (bif (decide (p1 = 65)) then p0.Text else (bif (decide (p1 = 66)) then p0.Text else (bif (decide (p1 = 88)) then ((impl_Unhex p2).1) else p0.Text))))))] 54), (0, .pin (p 0))]⟩ ?_ ?_
  · refine cd (fun h1 => ?_) (fun h1 => ?_)
    ·
      refine ad 7 ?_
      exact Run.at [0] [0, 1] (by first | exact su | (rw [h1]; exact su)) (by decide)
    ·
      refine ad 5 ?_
      refine Run.mid ⟨49, 1, [(0, .pt 0 0)], [(0, .var [.v (.int .i64 p0.Kind), .v (.string p0.Name), .v (.string (bif (decide (p1 = 84)) then p2 else p0.To)), .v (.int .i64 (bif (decide (p1 = 84)) then p0.A else (bif (decide (p1 = 65)) then ((impl_ReadDecimal p2).1) else p0.A))), .v (.int .i64 (bif (decide (p1 = 84)) then p0.B else (bif (decide (p1 = 65)) then p0.B else (bif (decide (p1 = 66)) then ((impl_ReadDecimal p2).1) else p0.B)))), .v (.string (bif (decide (p1 = 84)) then p0.Text else (bif (decide (p1 = 65)) then p0.Text else (bif (decide (p1 = 66)) then p0.Text else (bif (decide (p1 = 88)) then ((impl_Unhex p2).1) else p0.Text)))))] 54), (0, .pin (p 0))]⟩ ?_ ?_
      · refine cd (fun h2 => ?_) (fun h2 => ?_)
        ·
          refine ad 7 ?_
          exact Run.at [0] [0, 1] (by first | exact su | (rw [h2]; exact su)) (by decide)
        ·
          refine ad 5 ?_
          refine Run.mid ⟨49, 1, [(0, .pt 0 0)], [(0, .var [.v (.int .i64 p0.Kind), .v (.string p0.Name), .v (.string p0.To), .v (.int .i64 (bif (decide (p1 = 65)) then ((impl_ReadDecimal p2).1) else p0.A)), .v (.int .i64 (bif (decide (p1 = 65)) then p0.B else (bif (decide (p1 = 66)) then ((impl_ReadDecimal p2).1) else p0.B))), .v (.string (bif (decide (p1 = 65)) then p0.Text else (bif (decide (p1 = 66)) then p0.Text else (bif (decide (p1 = 88)) then ((impl_Unhex p2).1) else p0.Text))))] 54), (0, .pin (p 0))]⟩ ?_ ?_
          · refine cd (fun h3 => ?_) (fun h3 => ?_)
            ·
              refine ad 3 ?_
              refine op (cl (c_impl_ReadDecimal p2 (by first | assumption | exact om)) fok85) ?_
              refine ad 7 ?_
              exact Run.at [0] [0, 1] (by first | exact su | (rw [h3]; exact su)) (by decide)
            ·
              refine ad 5 ?_
              refine Run.mid ⟨49, 1, [(0, .pt 0 0)], [(0, .var [.v (.int .i64 p0.Kind), .v (.string p0.Name), .v (.string p0.To), .v (.int .i64 p0.A), .v (.int .i64 (bif (decide (p1 = 66)) then ((impl_ReadDecimal p2).1) else p0.B)), .v (.string (bif (decide (p1 = 66)) then p0.Text else (bif (decide (p1 = 88)) then ((impl_Unhex p2).1) else p0.Text)))] 54), (0, .pin (p 0))]⟩ ?_ ?_
              · refine cd (fun h4 => ?_) (fun h4 => ?_)
                ·
                  refine ad 3 ?_
                  refine op (cl (c_impl_ReadDecimal p2 (by first | assumption | exact om)) fok85) ?_
                  refine ad 7 ?_
                  exact Run.at [0] [0, 1] (by first | exact su | (rw [h4]; exact su)) (by decide)
                ·
                  refine ad 5 ?_
                  refine Run.mid ⟨49, 1, [(0, .pt 0 0)], [(0, .var [.v (.int .i64 p0.Kind), .v (.string p0.Name), .v (.string p0.To), .v (.int .i64 p0.A), .v (.int .i64 p0.B), .v (.string (bif (decide (p1 = 88)) then ((impl_Unhex p2).1) else p0.Text))] 54), (0, .pin (p 0))]⟩ ?_ ?_
                  · refine cd (fun h5 => ?_) (fun h5 => ?_)
                    ·
                      refine ad 3 ?_
                      refine op (cl (c_impl_Unhex p2 (by first | assumption | exact om)) fok158) ?_
                      refine ad 7 ?_
                      exact Run.at [0] [0, 1] (by first | exact su | (rw [h5]; exact su)) (by decide)
                    ·
                      refine ad 1 ?_
                      exact Run.at [0] [0, 1] (by first | exact su | (rw [h5]; exact su)) (by decide)
                  exact Run.at [0] [0, 1] (by first | exact su | (rw [h4]; exact su)) (by decide)
              exact Run.at [0] [0, 1] (by first | exact su | (rw [h3]; exact su)) (by decide)
          exact Run.at [0] [0, 1] (by first | exact su | (rw [h2]; exact su)) (by decide)
      exact Run.at [0] [0, 1] (by first | exact su | (rw [h1]; exact su)) (by decide)
  refine ad 1 ?_
  exact rzE (rs := []) [0] [0, 1] (hg1 := trivial) (hG1 := congrArg (fun x => (True : Prop)) hM) (congrArg (fun x => ([(0, .var [.v (.int .i64 x.Kind), .v (.string x.Name), .v (.string x.To), .v (.int .i64 x.A), .v (.int .i64 x.B), .v (.string x.Text)] 54)] : List (Nat × En))) hM) (congrArg (fun x => ([] : List V)) hM)
theorem impl_Call_setField_good {p0 : Call} {p1 : Int} {p2 : ByteArray} (hg : Dat.good p0) (hw : p2.size ≤ maxLen) : Dat.good (impl_Call_setField p0 p1 p2) := by
  obtain ⟨g1, g2, g3, g4, g5, g6⟩ := hg
  have h1 := impl_ReadDecimal_I64 p2
  have h2 := impl_Unhex_good p2
  exact ⟨g1, bifS hw g2, bifS g3 (bifS hw g3), bifI g4 (bifI g4 (bifI h1 g4)), bifI g5 (bifI g5 (bifI g5 (bifI h1 g5))), bifS g6 (bifS g6 (bifS g6 (bifS g6 (bifS h2 g6))))⟩

/- F28 loop.example/g00974/impl.ReadCall -/
def impl_ReadCall_l1 (p0 : List ByteArray) : Nat → Int → ByteArray → ByteArray → Int → Int → ByteArray → Nat → Call × Bool
  | 0, c2_0, c2_1, c2_2, c2_3, c2_4, c2_5, i => bif !(slices_Equal_string ((impl_PartsOf (impl_CallLine (Call.mk c2_0 c2_1 c2_2 c2_3 c2_4 c2_5))).1) p0) then ((Call.mk 0 ⟨#[]⟩ ⟨#[]⟩ 0 0 ⟨#[]⟩), false) else ((Call.mk c2_0 c2_1 c2_2 c2_3 c2_4 c2_5), true)
  | n + 1, c2_0, c2_1, c2_2, c2_3, c2_4, c2_5, i => impl_ReadCall_l1 p0 n ((impl_Call_setField (Call.mk c2_0 c2_1 c2_2 c2_3 c2_4 c2_5) ((byteAt (impl_fieldsOf (IntKind.i64.wrap (1 + (slices_Index_string gl1 (nth p0 0))))) i).toNat : Int) (nth p0 (i + 1))).Kind) ((impl_Call_setField (Call.mk c2_0 c2_1 c2_2 c2_3 c2_4 c2_5) ((byteAt (impl_fieldsOf (IntKind.i64.wrap (1 + (slices_Index_string gl1 (nth p0 0))))) i).toNat : Int) (nth p0 (i + 1))).Name) ((impl_Call_setField (Call.mk c2_0 c2_1 c2_2 c2_3 c2_4 c2_5) ((byteAt (impl_fieldsOf (IntKind.i64.wrap (1 + (slices_Index_string gl1 (nth p0 0))))) i).toNat : Int) (nth p0 (i + 1))).To) ((impl_Call_setField (Call.mk c2_0 c2_1 c2_2 c2_3 c2_4 c2_5) ((byteAt (impl_fieldsOf (IntKind.i64.wrap (1 + (slices_Index_string gl1 (nth p0 0))))) i).toNat : Int) (nth p0 (i + 1))).A) ((impl_Call_setField (Call.mk c2_0 c2_1 c2_2 c2_3 c2_4 c2_5) ((byteAt (impl_fieldsOf (IntKind.i64.wrap (1 + (slices_Index_string gl1 (nth p0 0))))) i).toNat : Int) (nth p0 (i + 1))).B) ((impl_Call_setField (Call.mk c2_0 c2_1 c2_2 c2_3 c2_4 c2_5) ((byteAt (impl_fieldsOf (IntKind.i64.wrap (1 + (slices_Index_string gl1 (nth p0 0))))) i).toNat : Int) (nth p0 (i + 1))).Text) (i + 1)
def impl_ReadCall (p0 : List ByteArray) : Call × Bool := bif decide ((p0.length : Int) = 0) then ((Call.mk 0 ⟨#[]⟩ ⟨#[]⟩ 0 0 ⟨#[]⟩), false) else (bif !decide (((impl_fieldsOf (IntKind.i64.wrap (1 + (slices_Index_string gl1 (nth p0 0))))).size : Int) = (IntKind.i64.wrap ((p0.length : Int) - 1))) then ((Call.mk 0 ⟨#[]⟩ ⟨#[]⟩ 0 0 ⟨#[]⟩), false) else (impl_ReadCall_l1 p0 (((impl_fieldsOf (IntKind.i64.wrap (1 + (slices_Index_string gl1 (nth p0 0))))).size) - 0) (IntKind.i64.wrap (1 + (slices_Index_string gl1 (nth p0 0)))) ⟨#[]⟩ ⟨#[]⟩ 0 0 ⟨#[]⟩ 0))
theorem c_impl_ReadCall (p0 : List ByteArray) (hq : ∀ k, (nth p0 k).size ≤ 281474976710656) : CTs 28 [.o (.sl ByteArray instDatByteArray p0)] [Re.st Call _ inferInstance ((impl_ReadCall p0).1), Re.c (.bool ((impl_ReadCall p0).2))] := by
  refine en Tryz.func28 Tryz.ntmps28 fun w hG hgd => ?_
  obtain ⟨hg_p0, _⟩ := hgd
  have hl_p0 : p0.length ≤ 9223372036854775807 := hg_p0.1
  have hM := impl_ReadCall.eq_1 p0
  refine ad 12 ?_
  refine cd (fun h1 => ?_) (fun h1 => ?_)
  ·
    have hM := hM.trans (bt h1)
    refine ad 6 ?_
    have hg2 : Dat.good (Call.mk 0 ⟨#[]⟩ ⟨#[]⟩ 0 0 ⟨#[]⟩ : Call) := ⟨(gi 0), (gs ⟨#[]⟩), (gs ⟨#[]⟩), (gi 0), (gi 0), (gs ⟨#[]⟩)⟩
    exact rz (rs := [.cell 2 54, .tmp 3]) (congrArg (fun x => [Re.st Call _ inferInstance x.1, Re.c (.bool x.2)]) hM)
  ·
    have hM := hM.trans (bf h1)
    refine ad 2 ?_
    refine Run.mid ⟨56, 3, [(0, .sl 0 p0.length), (2, .pt 1 0), (4, .pt 2 0)], [(0, .ros ByteArray instDatByteArray p0), (1, .var [.v (.int .i64 0), .v (.string ⟨#[]⟩), .v (.string ⟨#[]⟩), .v (.int .i64 0), .v (.int .i64 0), .v (.string ⟨#[]⟩)] 54), (2, .var [.v (.int .i64 (IntKind.i64.wrap (1 + (slices_Index_string gl1 (nth p0 0))))), .v (.string ⟨#[]⟩), .v (.string ⟨#[]⟩), .v (.int .i64 0), .v (.int .i64 0), .v (.string ⟨#[]⟩)] 54)]⟩ ?_ ?_
    ·
      refine dr 9 fun _ _ _ _ _ hb => ?_
      refine tk [1] ?_
      have hg3 := good_nth (k := 0) hg_p0 om
      refine tx 2 (dx (xs := p0) 0 om) ?_
      refine tk [3] ?_
      refine o2 0 7 ?_ ?_
      ·
        refine on1 0 [2, 3] (gsl (e := 9) gl1 Gl1) ?_
        refine o2 4 7 ?_ ?_
        ·
          refine on1 4 [2, 3] (cl (c_slices_Index_string gl1 (nth p0 0)) fok84) ?_
          refine tk [5, 6] ?_
          refine on 7 [3, 4] (OpS.st rfl) ?_
          refine on 8 [3, 4] (OpS.st rfl) ?_
          refine dn hb ?_
          exact Run.at [0, 1, 4] [4, 3, 0] su (by decide)
        ·
          refine on1 7 [3, 4] (OpS.st rfl) ?_
          refine on 4 [3, 4] (cl (c_slices_Index_string gl1 (nth p0 0)) fok84) ?_
          refine tk [5, 6] ?_
          refine on 8 [3, 4] (OpS.st rfl) ?_
          refine dn hb ?_
          exact Run.at [0, 1, 4] [4, 3, 0] su (by decide)
      ·
        refine on1 7 [2, 3] (OpS.st rfl) ?_
        refine on 0 [3, 4] (gsl (e := 9) gl1 Gl1) ?_
        refine on 4 [3, 4] (cl (c_slices_Index_string gl1 (nth p0 0)) fok84) ?_
        refine tk [5, 6] ?_
        refine on 8 [3, 4] (OpS.st rfl) ?_
        refine dn hb ?_
        exact Run.at [0, 1, 3] [4, 3, 1] su (by decide)
    refine ad 4 ?_
    refine op (cl (c_impl_fieldsOf (IntKind.i64.wrap (1 + (slices_Index_string gl1 (nth p0 0))))) fok90) ?_
    refine ad 12 ?_
    refine cd (fun h4 => ?_) (fun h4 => ?_)
    ·
      have hM := hM.trans (bt h4)
      refine ad 6 ?_
      have hg5 : Dat.good (Call.mk 0 ⟨#[]⟩ ⟨#[]⟩ 0 0 ⟨#[]⟩ : Call) := ⟨(gi 0), (gs ⟨#[]⟩), (gs ⟨#[]⟩), (gi 0), (gi 0), (gs ⟨#[]⟩)⟩
      exact rz (rs := [.cell 2 54, .tmp 3]) (congrArg (fun x => [Re.st Call _ inferInstance x.1, Re.c (.bool x.2)]) hM)
    ·
      have hM := hM.trans (bf h4)
      refine ad 5 ?_
      refine op (rg) ?_
      refine ad 2 ?_
      have hlen := len_of (n := p0.length) (a := (impl_fieldsOf (IntKind.i64.wrap (1 + (slices_Index_string gl1 (nth p0 0)))))) (by assumption) (by assumption) hl_p0
      have hfs := impl_fieldsOf_size (IntKind.i64.wrap (1 + (slices_Index_string gl1 (nth p0 0))))
      refine Run.loopM (ι := Int × ByteArray × ByteArray × Int × Int × ByteArray × Nat) (fun s => impl_ReadCall_l1 p0 (((impl_fieldsOf (IntKind.i64.wrap (1 + (slices_Index_string gl1 (nth p0 0))))).size) - s.2.2.2.2.2.2) s.1 s.2.1 s.2.2.1 s.2.2.2.1 s.2.2.2.2.1 s.2.2.2.2.2.1 s.2.2.2.2.2.2) (fun s => ⟨56, 4, [(0, .sl 0 p0.length), (2, .pt 1 0), (4, .pt 2 0), (32, .pt 3 0)], [(0, .ros ByteArray instDatByteArray p0), (1, .var [.v (.int .i64 0), .v (.string ⟨#[]⟩), .v (.string ⟨#[]⟩), .v (.int .i64 0), .v (.int .i64 0), .v (.string ⟨#[]⟩)] 54), (2, .var [.v (.int .i64 s.1), .v (.string s.2.1), .v (.string s.2.2.1), .v (.int .i64 s.2.2.2.1), .v (.int .i64 s.2.2.2.2.1), .v (.string s.2.2.2.2.2.1)] 54), (3, .itr (impl_fieldsOf (IntKind.i64.wrap (1 + (slices_Index_string gl1 (nth p0 0))))) s.2.2.2.2.2.2)]⟩) (fun s => s.2.2.2.2.2.2 ≤ (impl_fieldsOf (IntKind.i64.wrap (1 + (slices_Index_string gl1 (nth p0 0))))).size ∧ I64 s.1 ∧ s.2.1.size ≤ maxLen ∧ s.2.2.1.size ≤ maxLen ∧ I64 s.2.2.2.1 ∧ I64 s.2.2.2.2.1 ∧ s.2.2.2.2.2.1.size ≤ maxLen) (fun s => ((impl_fieldsOf (IntKind.i64.wrap (1 + (slices_Index_string gl1 (nth p0 0))))).size) - s.2.2.2.2.2.2) (IntKind.i64.wrap (1 + (slices_Index_string gl1 (nth p0 0))), ⟨#[]⟩, ⟨#[]⟩, 0, 0, ⟨#[]⟩, 0) [0, 1, 2, 3] [1, 2, 3, 0] hM (by exact ⟨by (try dsimp only); first | omega | exact trivial, (I64_wrap _), (gs ⟨#[]⟩), (gs ⟨#[]⟩), (gi 0), (gi 0), (gs ⟨#[]⟩)⟩) su (by decide) ?_
      rintro ⟨c2_0, c2_1, c2_2, c2_3, c2_4, c2_5, i⟩ hv hE
      try dsimp only at hE
      obtain ⟨hi, hg_c2_0, hg_c2_1, hg_c2_2, hg_c2_3, hg_c2_4, hg_c2_5⟩ := hv
      try dsimp only at hi hg_c2_0 hg_c2_1 hg_c2_2 hg_c2_3 hg_c2_4 hg_c2_5
      refine ad 2 ?_
      refine nx (fun h6 => ?_) (fun h6 => ?_) (asc_impl_fieldsOf (IntKind.i64.wrap (1 + (slices_Index_string gl1 (nth p0 0)))))
      ·
        have hM := hE.trans ((congrArg (fun n => impl_ReadCall_l1 p0 n c2_0 c2_1 c2_2 c2_3 c2_4 c2_5 i) (show ((impl_fieldsOf (IntKind.i64.wrap (1 + (slices_Index_string gl1 (nth p0 0))))).size) - i = (((impl_fieldsOf (IntKind.i64.wrap (1 + (slices_Index_string gl1 (nth p0 0))))).size) - (i + 1)) + 1 by omega)).trans (impl_ReadCall_l1.eq_2 _ _ _ _ _ _ _ _ _))
        refine ad 18 ?_
        rw [wrapN (i := i) (by first | omega | exact om)]
        have hg8 := good_nth (k := (i + 1)) hg_p0 om
        refine op (ix (xs := p0) (i + 1) om) ?_
        refine ad 1 ?_
        have hg9 : Dat.good ((impl_Call_setField (Call.mk c2_0 c2_1 c2_2 c2_3 c2_4 c2_5) ((byteAt (impl_fieldsOf (IntKind.i64.wrap (1 + (slices_Index_string gl1 (nth p0 0))))) i).toNat : Int) (nth p0 (i + 1))) : Call) := impl_Call_setField_good ⟨hg_c2_0, hg_c2_1, hg_c2_2, hg_c2_3, hg_c2_4, hg_c2_5⟩ hg8
        refine og (cm [2] [2] [3] [] [0, 1, 2, 4] (c_impl_Call_setField (Call.mk c2_0 c2_1 c2_2 c2_3 c2_4 c2_5) ((byteAt (impl_fieldsOf (IntKind.i64.wrap (1 + (slices_Index_string gl1 (nth p0 0))))) i).toNat : Int) (nth p0 (i + 1)) (by first | assumption | exact hq _ | exact om)) fok96) fun _ => ?_
        refine ad 2 ?_
        exact Run.again ((impl_Call_setField (Call.mk c2_0 c2_1 c2_2 c2_3 c2_4 c2_5) ((byteAt (impl_fieldsOf (IntKind.i64.wrap (1 + (slices_Index_string gl1 (nth p0 0))))) i).toNat : Int) (nth p0 (i + 1))).Kind, (impl_Call_setField (Call.mk c2_0 c2_1 c2_2 c2_3 c2_4 c2_5) ((byteAt (impl_fieldsOf (IntKind.i64.wrap (1 + (slices_Index_string gl1 (nth p0 0))))) i).toNat : Int) (nth p0 (i + 1))).Name, (impl_Call_setField (Call.mk c2_0 c2_1 c2_2 c2_3 c2_4 c2_5) ((byteAt (impl_fieldsOf (IntKind.i64.wrap (1 + (slices_Index_string gl1 (nth p0 0))))) i).toNat : Int) (nth p0 (i + 1))).To, (impl_Call_setField (Call.mk c2_0 c2_1 c2_2 c2_3 c2_4 c2_5) ((byteAt (impl_fieldsOf (IntKind.i64.wrap (1 + (slices_Index_string gl1 (nth p0 0))))) i).toNat : Int) (nth p0 (i + 1))).A, (impl_Call_setField (Call.mk c2_0 c2_1 c2_2 c2_3 c2_4 c2_5) ((byteAt (impl_fieldsOf (IntKind.i64.wrap (1 + (slices_Index_string gl1 (nth p0 0))))) i).toNat : Int) (nth p0 (i + 1))).B, (impl_Call_setField (Call.mk c2_0 c2_1 c2_2 c2_3 c2_4 c2_5) ((byteAt (impl_fieldsOf (IntKind.i64.wrap (1 + (slices_Index_string gl1 (nth p0 0))))) i).toNat : Int) (nth p0 (i + 1))).Text, (i + 1)) [0, 1, 2, 3] [2, 3, 0, 4] ⟨by exact ⟨by (try dsimp only); first | omega | exact trivial, hg9.1, hg9.2.1, hg9.2.2.1, hg9.2.2.2.1, hg9.2.2.2.2.1, hg9.2.2.2.2.2⟩, hM⟩ rfl (by show _ - _ < _ - _; (try dsimp only); omega) su (by decide)
      ·
        have hM := hE.trans ((congrArg (fun n => impl_ReadCall_l1 p0 n c2_0 c2_1 c2_2 c2_3 c2_4 c2_5 i) (show ((impl_fieldsOf (IntKind.i64.wrap (1 + (slices_Index_string gl1 (nth p0 0))))).size) - i = 0 by omega)).trans (impl_ReadCall_l1.eq_1 _ _ _ _ _ _ _ _))
        refine ad 8 ?_
        have hg10 : Dat.good (Call.mk c2_0 c2_1 c2_2 c2_3 c2_4 c2_5 : Call) := ⟨hg_c2_0, hg_c2_1, hg_c2_2, hg_c2_3, hg_c2_4, hg_c2_5⟩
        have hs11 := impl_CallLine_size (p0 := (Call.mk c2_0 c2_1 c2_2 c2_3 c2_4 c2_5)) (by assumption)
        refine op (cl (c_impl_CallLine (Call.mk c2_0 c2_1 c2_2 c2_3 c2_4 c2_5)) fok26) ?_
        refine og (clg (c_impl_PartsOf (impl_CallLine (Call.mk c2_0 c2_1 c2_2 c2_3 c2_4 c2_5)) szt) fok33) fun hgq => ?_
        obtain ⟨hg12, _⟩ := hgq
        refine ad 11 ?_
        refine op (cl (c_slices_Equal_string ((impl_PartsOf (impl_CallLine (Call.mk c2_0 c2_1 c2_2 c2_3 c2_4 c2_5))).1) p0) fok77) ?_
        refine ad 2 ?_
        refine cd (fun h13 => ?_) (fun h13 => ?_)
        ·
          have hM := hM.trans (bt h13)
          refine ad 6 ?_
          have hg14 : Dat.good (Call.mk 0 ⟨#[]⟩ ⟨#[]⟩ 0 0 ⟨#[]⟩ : Call) := ⟨(gi 0), (gs ⟨#[]⟩), (gs ⟨#[]⟩), (gi 0), (gi 0), (gs ⟨#[]⟩)⟩
          exact rz (rs := [.cell 2 54, .tmp 3]) (congrArg (fun x => [Re.st Call _ inferInstance x.1, Re.c (.bool x.2)]) hM)
        ·
          have hM := hM.trans (bf h13)
          refine ad 7 ?_
          exact rz (rs := [.cell 2 54, .tmp 3]) (congrArg (fun x => [Re.st Call _ inferInstance x.1, Re.c (.bool x.2)]) hM)

/- F29 loop.example/g00974/spec.ReadCall -/
def spec_ReadCall_l2 (p0 : List ByteArray) (c2_0 : Int) (i : Nat) (k_2 : (ByteArray × ByteArray × Int × Int × ByteArray) → (Call × Bool)) : Nat → ByteArray → ByteArray → Int → Int → ByteArray → Nat → Call × Bool
  | 0, c2_1_2, c2_2_2, c2_3_2, c2_4_2, c2_5_2, i_2 => k_2 (c2_1_2, c2_2_2, c2_3_2, c2_4_2, c2_5_2)
  | n_2 + 1, c2_1_2, c2_2_2, c2_3_2, c2_4_2, c2_5_2, i_2 => bif (decide ((i_2 : Int) < ((spec_l38Uses c2_0).size : Int))) && (decide ((IntKind.i64.wrap ((i_2 : Int) + 1)) < (p0.length : Int))) then (spec_ReadCall_l2 p0 c2_0 i k_2 n_2 (bif (decide (((byteAt (spec_l38Uses c2_0) i_2).toNat : Int) = 110)) then (nth p0 (i_2 + 1)) else c2_1_2) (bif (decide (((byteAt (spec_l38Uses c2_0) i_2).toNat : Int) = 110)) then c2_2_2 else (bif (decide (((byteAt (spec_l38Uses c2_0) i_2).toNat : Int) = 116)) then (nth p0 (i_2 + 1)) else c2_2_2)) (bif (decide (((byteAt (spec_l38Uses c2_0) i_2).toNat : Int) = 110)) then c2_3_2 else (bif (decide (((byteAt (spec_l38Uses c2_0) i_2).toNat : Int) = 116)) then c2_3_2 else (bif (decide (((byteAt (spec_l38Uses c2_0) i_2).toNat : Int) = 97)) then (spec_l38Num p0 ((i_2 + 1 : Nat) : Int)) else c2_3_2))) (bif (decide (((byteAt (spec_l38Uses c2_0) i_2).toNat : Int) = 110)) then c2_4_2 else (bif (decide (((byteAt (spec_l38Uses c2_0) i_2).toNat : Int) = 116)) then c2_4_2 else (bif (decide (((byteAt (spec_l38Uses c2_0) i_2).toNat : Int) = 97)) then c2_4_2 else (bif (decide (((byteAt (spec_l38Uses c2_0) i_2).toNat : Int) = 98)) then (spec_l38Num p0 ((i_2 + 1 : Nat) : Int)) else c2_4_2)))) (bif (decide (((byteAt (spec_l38Uses c2_0) i_2).toNat : Int) = 110)) then c2_5_2 else (bif (decide (((byteAt (spec_l38Uses c2_0) i_2).toNat : Int) = 116)) then c2_5_2 else (bif (decide (((byteAt (spec_l38Uses c2_0) i_2).toNat : Int) = 97)) then c2_5_2 else (bif (decide (((byteAt (spec_l38Uses c2_0) i_2).toNat : Int) = 98)) then c2_5_2 else ((spec_Unhex (nth p0 (i_2 + 1))).1))))) (i_2 + 1)) else (k_2 (c2_1_2, c2_2_2, c2_3_2, c2_4_2, c2_5_2))
theorem spec_ReadCall_l2_x (p0 : List ByteArray) (c2_0 : Int) (i : Nat) (k_2 : (ByteArray × ByteArray × Int × Int × ByteArray) → (Call × Bool)) (fu : Nat) (c2_1_2 : ByteArray) (c2_2_2 : ByteArray) (c2_3_2 : Int) (c2_4_2 : Int) (c2_5_2 : ByteArray) (i_2 : Nat) (h : ((decide ((i_2 : Int) < ((spec_l38Uses c2_0).size : Int))) && (decide ((IntKind.i64.wrap ((i_2 : Int) + 1)) < (p0.length : Int)))) = false) : spec_ReadCall_l2 p0 c2_0 i k_2 fu c2_1_2 c2_2_2 c2_3_2 c2_4_2 c2_5_2 i_2 = k_2 (c2_1_2, c2_2_2, c2_3_2, c2_4_2, c2_5_2) := by
  cases fu with
  | zero => rfl
  | succ n => exact (bf h)
def spec_ReadCall_l1 (p0 : List ByteArray) : Nat → Int → Nat → Call × Bool
  | 0, c2_0, i => spec_ReadCall_l2 p0 c2_0 i (fun e => bif (!((spec_PartsOf (spec_CallLine (Call.mk c2_0 e.1 e.2.1 e.2.2.1 e.2.2.2.1 e.2.2.2.2))).2)) || (!(spec_l03Same ((spec_PartsOf (spec_CallLine (Call.mk c2_0 e.1 e.2.1 e.2.2.1 e.2.2.2.1 e.2.2.2.2))).1) p0)) then ((Call.mk 0 ⟨#[]⟩ ⟨#[]⟩ 0 0 ⟨#[]⟩), false) else ((Call.mk c2_0 e.1 e.2.1 e.2.2.1 e.2.2.2.1 e.2.2.2.2), true)) (((spec_l38Uses c2_0).size) - 0) ⟨#[]⟩ ⟨#[]⟩ 0 0 ⟨#[]⟩ 0
  | n + 1, c2_0, i => spec_ReadCall_l1 p0 n (bif (decide ((spec_CallName (i : Int)) = (nth p0 0))) then (i : Int) else c2_0) (i + 1)
def spec_ReadCall (p0 : List ByteArray) : Call × Bool := bif decide ((p0.length : Int) = 0) then ((Call.mk 0 ⟨#[]⟩ ⟨#[]⟩ 0 0 ⟨#[]⟩), false) else (spec_ReadCall_l1 p0 (23 - 1) 0 1)
theorem c_spec_ReadCall (p0 : List ByteArray) : CTs 29 [.o (.sl ByteArray instDatByteArray p0)] [Re.st Call _ inferInstance ((spec_ReadCall p0).1), Re.c (.bool ((spec_ReadCall p0).2))] := by
  refine en Tryz.func29 Tryz.ntmps29 fun w hG hgd => ?_
  obtain ⟨hg_p0, _⟩ := hgd
  have hl_p0 : p0.length ≤ 9223372036854775807 := hg_p0.1
  have hM := spec_ReadCall.eq_1 p0
  refine ad 12 ?_
  refine cd (fun h1 => ?_) (fun h1 => ?_)
  ·
    have hM := hM.trans (bt h1)
    refine ad 6 ?_
    have hg2 : Dat.good (Call.mk 0 ⟨#[]⟩ ⟨#[]⟩ 0 0 ⟨#[]⟩ : Call) := ⟨(gi 0), (gs ⟨#[]⟩), (gs ⟨#[]⟩), (gi 0), (gi 0), (gs ⟨#[]⟩)⟩
    exact rz (rs := [.cell 2 54, .tmp 3]) (congrArg (fun x => [Re.st Call _ inferInstance x.1, Re.c (.bool x.2)]) hM)
  ·
    have hM := hM.trans (bf h1)
    refine ad 13 ?_
    refine Run.loopM (ι := Int × Nat) (fun s => spec_ReadCall_l1 p0 (23 - s.2) s.1 s.2) (fun s => ⟨102, 3, [(0, .sl 0 p0.length), (2, .pt 1 0), (4, .pt 2 0), (5, .v (.int .i64 (s.2 : Int)))], [(0, .ros ByteArray instDatByteArray p0), (1, .var [.v (.int .i64 0), .v (.string ⟨#[]⟩), .v (.string ⟨#[]⟩), .v (.int .i64 0), .v (.int .i64 0), .v (.string ⟨#[]⟩)] 54), (2, .var [.v (.int .i64 s.1), .v (.string ⟨#[]⟩), .v (.string ⟨#[]⟩), .v (.int .i64 0), .v (.int .i64 0), .v (.string ⟨#[]⟩)] 54)]⟩) (fun s => s.2 ≤ 23 ∧ I64 s.1) (fun s => 23 - s.2) (0, 1) [0, 1, 2] [2, 1, 0] hM (by exact ⟨by (try dsimp only); first | omega | exact trivial, (gi 0)⟩) su (by decide) ?_
    rintro ⟨c2_0, i⟩ hv hE
    try dsimp only at hE
    obtain ⟨hi, hg_c2_0⟩ := hv
    try dsimp only at hi hg_c2_0
    refine ad 6 ?_
    refine cd (fun h3 => ?_) (fun h3 => ?_)
    ·
      have h3l : i < 23 := by have := of_decide_eq_true h3; omega
      have hM := hE.trans ((congrArg (fun n => spec_ReadCall_l1 p0 n c2_0 i) (show 23 - i = (23 - (i + 1)) + 1 by omega)).trans (spec_ReadCall_l1.eq_2 _ _ _ _))
      refine ad 4 ?_
      refine dr 6 fun _ _ _ _ _ hb => ?_
      refine tk [0, 2] ?_
      have hg4 := good_nth (k := 0) hg_p0 om
      refine tx 3 (dx (xs := p0) 0 om) ?_
      refine tk [4] ?_
      refine on 1 [1, 2, 3] (cl (c_spec_CallName (i : Int)) fok97) ?_
      refine tk [5] ?_
      refine dn hb ?_
      refine Run.mid ⟨102, 3, [(0, .sl 0 p0.length), (2, .pt 1 0), (4, .pt 2 0), (5, .v (.int .i64 (i : Int)))], [(0, .ros ByteArray instDatByteArray p0), (1, .var [.v (.int .i64 0), .v (.string ⟨#[]⟩), .v (.string ⟨#[]⟩), .v (.int .i64 0), .v (.int .i64 0), .v (.string ⟨#[]⟩)] 54), (2, .var [.v (.int .i64 (bif (decide ((spec_CallName (i : Int)) = (nth p0 0))) then (i : Int) else c2_0)), .v (.string ⟨#[]⟩), .v (.string ⟨#[]⟩), .v (.int .i64 0), .v (.int .i64 0), .v (.string ⟨#[]⟩)] 54)]⟩ ?_ ?_
      · refine cd (fun h5 => ?_) (fun h5 => ?_)
        ·
          refine ad 5 ?_
          exact Run.at [0, 1, 2] [1, 2, 3] (by first | exact su | (rw [h5]; exact su)) (by decide)
        ·
          refine ad 1 ?_
          exact Run.at [0, 1, 2] [1, 2, 3] (by first | exact su | (rw [h5]; exact su)) (by decide)
      refine ad 4 ?_
      rw [wrapN (i := i) (by first | omega | exact om)]
      refine ad 2 ?_
      exact Run.again (bif (decide ((spec_CallName (i : Int)) = (nth p0 0))) then (i : Int) else c2_0, (i + 1)) [0, 1, 2] [0, 1, 2] ⟨by exact ⟨by (try dsimp only); first | omega | exact trivial, (bifI (gn i (by omega)) hg_c2_0)⟩, hM⟩ rfl (by show _ - _ < _ - _; (try dsimp only); omega) su (by decide)
    ·
      have h3l : ¬ (i < 23) := by have := of_decide_eq_false h3; omega
      have hM := hE.trans ((congrArg (fun n => spec_ReadCall_l1 p0 n c2_0 i) (show 23 - i = 0 by omega)).trans (spec_ReadCall_l1.eq_1 _ _ _))
      refine ad 5 ?_
      refine op (cl (c_spec_l38Uses c2_0) fok98) ?_
      refine ad 8 ?_
      have hfs := spec_l38Uses_size c2_0
      have hz6 : (spec_l38Uses c2_0).size ≤ 9223372036854775807 := szt
      refine Run.loopkM (ι := Nat × ByteArray × ByteArray × Int × Int × ByteArray × Nat) (κ := ByteArray × ByteArray × Int × Int × ByteArray) (fun k s => spec_ReadCall_l2 p0 c2_0 i k s.1 s.2.1 s.2.2.1 s.2.2.2.1 s.2.2.2.2.1 s.2.2.2.2.2.1 s.2.2.2.2.2.2) (fun s => ⟨102, 3, [(0, .sl 0 p0.length), (2, .pt 1 0), (4, .pt 2 0), (6, .v (.string (spec_l38Uses c2_0))), (7, .v (.int .i64 (s.2.2.2.2.2.2 : Int)))], [(0, .ros ByteArray instDatByteArray p0), (1, .var [.v (.int .i64 0), .v (.string ⟨#[]⟩), .v (.string ⟨#[]⟩), .v (.int .i64 0), .v (.int .i64 0), .v (.string ⟨#[]⟩)] 54), (2, .var [.v (.int .i64 c2_0), .v (.string s.2.1), .v (.string s.2.2.1), .v (.int .i64 s.2.2.2.1), .v (.int .i64 s.2.2.2.2.1), .v (.string s.2.2.2.2.2.1)] 54)]⟩) (fun s => ((spec_l38Uses c2_0).size) - s.2.2.2.2.2.2 ≤ s.1 ∧ s.2.1.size ≤ maxLen ∧ s.2.2.1.size ≤ maxLen ∧ I64 s.2.2.2.1 ∧ I64 s.2.2.2.2.1 ∧ s.2.2.2.2.2.1.size ≤ maxLen) (fun s => s.1) (fun e => ⟨102, 3, [(0, .sl 0 p0.length), (2, .pt 1 0), (4, .pt 2 0)], [(0, .ros ByteArray instDatByteArray p0), (1, .var [.v (.int .i64 0), .v (.string ⟨#[]⟩), .v (.string ⟨#[]⟩), .v (.int .i64 0), .v (.int .i64 0), .v (.string ⟨#[]⟩)] 54), (2, .var [.v (.int .i64 c2_0), .v (.string e.1), .v (.string e.2.1), .v (.int .i64 e.2.2.1), .v (.int .i64 e.2.2.2.1), .v (.string e.2.2.2.2)] 54)]⟩) (fun e => True ∧ e.1.size ≤ maxLen ∧ e.2.1.size ≤ maxLen ∧ I64 e.2.2.1 ∧ I64 e.2.2.2.1 ∧ e.2.2.2.2.size ≤ maxLen) (((spec_l38Uses c2_0).size) - 0, ⟨#[]⟩, ⟨#[]⟩, 0, 0, ⟨#[]⟩, 0) [0, 1, 2] [0, 1, 2] hM (by exact ⟨by (try dsimp only); first | omega | exact trivial, (gs ⟨#[]⟩), (gs ⟨#[]⟩), (gi 0), (gi 0), (gs ⟨#[]⟩)⟩) su (by decide) ?_ ?_
      ·
        rintro ⟨ec2_1_2, ec2_2_2, ec2_3_2, ec2_4_2, ec2_5_2⟩ hv hM
        try dsimp only at hM hv ⊢
        obtain ⟨hk0, hg_ec2_1_2, hg_ec2_2_2, hg_ec2_3_2, hg_ec2_4_2, hg_ec2_5_2⟩ := hv
        refine ad 3 ?_
        have hg7 : Dat.good (Call.mk c2_0 ec2_1_2 ec2_2_2 ec2_3_2 ec2_4_2 ec2_5_2 : Call) := ⟨hg_c2_0, hg_ec2_1_2, hg_ec2_2_2, hg_ec2_3_2, hg_ec2_4_2, hg_ec2_5_2⟩
        have hs8 := spec_CallLine_size (p0 := (Call.mk c2_0 ec2_1_2 ec2_2_2 ec2_3_2 ec2_4_2 ec2_5_2)) (by assumption)
        refine op (cl (c_spec_CallLine (Call.mk c2_0 ec2_1_2 ec2_2_2 ec2_3_2 ec2_4_2 ec2_5_2)) fok35) ?_
        refine og (clg (c_spec_PartsOf (spec_CallLine (Call.mk c2_0 ec2_1_2 ec2_2_2 ec2_3_2 ec2_4_2 ec2_5_2))) fok93) fun hgq => ?_
        obtain ⟨hg9, _⟩ := hgq
        refine ad 12 ?_
        refine ag 2 ?_
        refine op (cG (hct := fun hB => (c_spec_l03Same ((spec_PartsOf (spec_CallLine (Call.mk c2_0 ec2_1_2 ec2_2_2 ec2_3_2 ec2_4_2 ec2_5_2))).1) p0)) (hfn := fok75)) ?_
        refine ag 2 ?_
        refine ad 1 ?_
        refine cd (fun h10 => ?_) (fun h10 => ?_)
        ·
          have hM := hM.trans (bt h10)
          refine ad 6 ?_
          have hg11 : Dat.good (Call.mk 0 ⟨#[]⟩ ⟨#[]⟩ 0 0 ⟨#[]⟩ : Call) := ⟨(gi 0), (gs ⟨#[]⟩), (gs ⟨#[]⟩), (gi 0), (gi 0), (gs ⟨#[]⟩)⟩
          exact rz (rs := [.cell 2 54, .tmp 3]) (congrArg (fun x => [Re.st Call _ inferInstance x.1, Re.c (.bool x.2)]) hM)
        ·
          have hM := hM.trans (bf h10)
          refine ad 7 ?_
          exact rz (rs := [.cell 2 54, .tmp 3]) (congrArg (fun x => [Re.st Call _ inferInstance x.1, Re.c (.bool x.2)]) hM)
      ·
        intro k_2 hk_2
        rintro ⟨fu_2, c2_1_2, c2_2_2, c2_3_2, c2_4_2, c2_5_2, i_2⟩ hv_2 hE
        try dsimp only at hE
        obtain ⟨hi_2, hg_c2_1_2, hg_c2_2_2, hg_c2_3_2, hg_c2_4_2, hg_c2_5_2⟩ := hv_2
        try dsimp only at hi_2 hg_c2_1_2 hg_c2_2_2 hg_c2_3_2 hg_c2_4_2 hg_c2_5_2
        refine ad 8 ?_
        refine ag 6 ?_
        refine ad 1 ?_
        refine cd (fun h12 => ?_) (fun h12 => ?_)
        ·
          obtain ⟨n_2, rfl⟩ : ∃ n, fu_2 = n + 1 := ⟨fu_2 - 1, by have := h12; have := om (p := 0 < ((spec_l38Uses c2_0).size) - i_2); omega⟩
          have hM := hE.trans ((spec_ReadCall_l2.eq_2 _ _ _ _ _ _ _ _ _ _ _).trans (bt h12))
          have hl1 := of_decide_eq_true (Bool.and_eq_true_iff.1 h12).1
          have hlt := lt_wrap (Bool.and_eq_true_iff.1 h12).2 (by omega)
          refine ad 7 ?_
          refine op (sx (s := (spec_l38Uses c2_0)) i_2 om) ?_
          refine ad 7 ?_
          refine Run.mid ⟨102, 3, [(0, .sl 0 p0.length), (2, .pt 1 0), (4, .pt 2 0), (6, .v (.string (spec_l38Uses c2_0))), (7, .v (.int .i64 (i_2 : Int)))], [(0, .ros ByteArray instDatByteArray p0), (1, .var [.v (.int .i64 0), .v (.string ⟨#[]⟩), .v (.string ⟨#[]⟩), .v (.int .i64 0), .v (.int .i64 0), .v (.string ⟨#[]⟩)] 54), (2, .var [.v (.int .i64 c2_0), .v (.string (bif (decide (((byteAt (spec_l38Uses c2_0) i_2).toNat : Int) = 110)) then (nth p0 (i_2 + 1)) else c2_1_2)), .v (.string (bif (decide (((byteAt (spec_l38Uses c2_0) i_2).toNat : Int) = 110)) then c2_2_2 else (bif (decide (((byteAt (spec_l38Uses c2_0) i_2).toNat : Int) = 116)) then (nth p0 (i_2 + 1)) else c2_2_2))), .v (.int .i64 (bif (decide (((byteAt (spec_l38Uses c2_0) i_2).toNat : Int) = 110)) then c2_3_2 else (bif (decide (((byteAt (spec_l38Uses c2_0) i_2).toNat : Int) = 116)) then c2_3_2 else (bif (decide (((byteAt (spec_l38Uses c2_0) i_2).toNat : Int) = 97)) then (spec_l38Num p0 ((i_2 + 1 : Nat) : Int)) else c2_3_2)))), .v (.int .i64 (bif (decide (((byteAt (spec_l38Uses c2_0) i_2).toNat : Int) = 110)) then c2_4_2 else (bif (decide (((byteAt (spec_l38Uses c2_0) i_2).toNat : Int) = 116)) then c2_4_2 else (bif (decide (((byteAt (spec_l38Uses c2_0) i_2).toNat : Int) = 97)) then c2_4_2 else (bif (decide (((byteAt (spec_l38Uses c2_0) i_2).toNat : Int) = 98)) then (spec_l38Num p0 ((i_2 + 1 : Nat) : Int)) else c2_4_2))))), .v (.string (bif (decide (((byteAt (spec_l38Uses c2_0) i_2).toNat : Int) = 110)) then c2_5_2 else (bif (decide (((byteAt (spec_l38Uses c2_0) i_2).toNat : Int) = 116)) then c2_5_2 else (bif (decide (((byteAt (spec_l38Uses c2_0) i_2).toNat : Int) = 97)) then c2_5_2 else (bif (decide (((byteAt (spec_l38Uses c2_0) i_2).toNat : Int) = 98)) then c2_5_2 else ((spec_Unhex (nth p0 (i_2 + 1))).1))))))] 54)]⟩ ?_ ?_
          · refine cd (fun h13 => ?_) (fun h13 => ?_)
            ·
              refine ad 4 ?_
              rw [wrapN (i := i_2) (by first | omega | exact om)]
              have hg15 := good_nth (k := (i_2 + 1)) hg_p0 om
              refine op (ix (xs := p0) (i_2 + 1) om) ?_
              refine ad 4 ?_
              exact Run.at [0, 1, 2] [1, 2, 3] (by first | exact su | (rw [h13]; exact su)) (by decide)
            ·
              refine ad 5 ?_
              refine Run.mid ⟨102, 3, [(0, .sl 0 p0.length), (2, .pt 1 0), (4, .pt 2 0), (6, .v (.string (spec_l38Uses c2_0))), (7, .v (.int .i64 (i_2 : Int)))], [(0, .ros ByteArray instDatByteArray p0), (1, .var [.v (.int .i64 0), .v (.string ⟨#[]⟩), .v (.string ⟨#[]⟩), .v (.int .i64 0), .v (.int .i64 0), .v (.string ⟨#[]⟩)] 54), (2, .var [.v (.int .i64 c2_0), .v (.string c2_1_2), .v (.string (bif (decide (((byteAt (spec_l38Uses c2_0) i_2).toNat : Int) = 116)) then (nth p0 (i_2 + 1)) else c2_2_2)), .v (.int .i64 (bif (decide (((byteAt (spec_l38Uses c2_0) i_2).toNat : Int) = 116)) then c2_3_2 else (bif (decide (((byteAt (spec_l38Uses c2_0) i_2).toNat : Int) = 97)) then (spec_l38Num p0 ((i_2 + 1 : Nat) : Int)) else c2_3_2))), .v (.int .i64 (bif (decide (((byteAt (spec_l38Uses c2_0) i_2).toNat : Int) = 116)) then c2_4_2 else (bif (decide (((byteAt (spec_l38Uses c2_0) i_2).toNat : Int) = 97)) then c2_4_2 else (bif (decide (((byteAt (spec_l38Uses c2_0) i_2).toNat : Int) = 98)) then (spec_l38Num p0 ((i_2 + 1 : Nat) : Int)) else c2_4_2)))), .v (.string (bif (decide (((byteAt (spec_l38Uses c2_0) i_2).toNat : Int) = 116)) then c2_5_2 else (bif (decide (((byteAt (spec_l38Uses c2_0) i_2).toNat : Int) = 97)) then c2_5_2 else (bif (decide (((byteAt (spec_l38Uses c2_0) i_2).toNat : Int) = 98)) then c2_5_2 else ((spec_Unhex (nth p0 (i_2 + 1))).1)))))] 54)]⟩ ?_ ?_
              · refine cd (fun h16 => ?_) (fun h16 => ?_)
                ·
                  refine ad 4 ?_
                  rw [wrapN (i := i_2) (by first | omega | exact om)]
                  have hg18 := good_nth (k := (i_2 + 1)) hg_p0 om
                  refine op (ix (xs := p0) (i_2 + 1) om) ?_
                  refine ad 4 ?_
                  exact Run.at [0, 1, 2] [1, 2, 3] (by first | exact su | (rw [h16]; exact su)) (by decide)
                ·
                  refine ad 5 ?_
                  refine Run.mid ⟨102, 3, [(0, .sl 0 p0.length), (2, .pt 1 0), (4, .pt 2 0), (6, .v (.string (spec_l38Uses c2_0))), (7, .v (.int .i64 (i_2 : Int)))], [(0, .ros ByteArray instDatByteArray p0), (1, .var [.v (.int .i64 0), .v (.string ⟨#[]⟩), .v (.string ⟨#[]⟩), .v (.int .i64 0), .v (.int .i64 0), .v (.string ⟨#[]⟩)] 54), (2, .var [.v (.int .i64 c2_0), .v (.string c2_1_2), .v (.string c2_2_2), .v (.int .i64 (bif (decide (((byteAt (spec_l38Uses c2_0) i_2).toNat : Int) = 97)) then (spec_l38Num p0 ((i_2 + 1 : Nat) : Int)) else c2_3_2)), .v (.int .i64 (bif (decide (((byteAt (spec_l38Uses c2_0) i_2).toNat : Int) = 97)) then c2_4_2 else (bif (decide (((byteAt (spec_l38Uses c2_0) i_2).toNat : Int) = 98)) then (spec_l38Num p0 ((i_2 + 1 : Nat) : Int)) else c2_4_2))), .v (.string (bif (decide (((byteAt (spec_l38Uses c2_0) i_2).toNat : Int) = 97)) then c2_5_2 else (bif (decide (((byteAt (spec_l38Uses c2_0) i_2).toNat : Int) = 98)) then c2_5_2 else ((spec_Unhex (nth p0 (i_2 + 1))).1))))] 54)]⟩ ?_ ?_
                  · refine cd (fun h19 => ?_) (fun h19 => ?_)
                    ·
                      refine ad 4 ?_
                      rw [wrapN (i := i_2) (by first | omega | exact om)]
                      refine op (cl (c_spec_l38Num p0 ((i_2 + 1 : Nat) : Int) (by omega)) fok99) ?_
                      refine ad 3 ?_
                      exact Run.at [0, 1, 2] [0, 1, 2] (by first | exact su | (rw [h19]; exact su)) (by decide)
                    ·
                      refine ad 5 ?_
                      refine Run.mid ⟨102, 3, [(0, .sl 0 p0.length), (2, .pt 1 0), (4, .pt 2 0), (6, .v (.string (spec_l38Uses c2_0))), (7, .v (.int .i64 (i_2 : Int)))], [(0, .ros ByteArray instDatByteArray p0), (1, .var [.v (.int .i64 0), .v (.string ⟨#[]⟩), .v (.string ⟨#[]⟩), .v (.int .i64 0), .v (.int .i64 0), .v (.string ⟨#[]⟩)] 54), (2, .var [.v (.int .i64 c2_0), .v (.string c2_1_2), .v (.string c2_2_2), .v (.int .i64 c2_3_2), .v (.int .i64 (bif (decide (((byteAt (spec_l38Uses c2_0) i_2).toNat : Int) = 98)) then (spec_l38Num p0 ((i_2 + 1 : Nat) : Int)) else c2_4_2)), .v (.string (bif (decide (((byteAt (spec_l38Uses c2_0) i_2).toNat : Int) = 98)) then c2_5_2 else ((spec_Unhex (nth p0 (i_2 + 1))).1)))] 54)]⟩ ?_ ?_
                      · refine cd (fun h20 => ?_) (fun h20 => ?_)
                        ·
                          refine ad 4 ?_
                          rw [wrapN (i := i_2) (by first | omega | exact om)]
                          refine op (cl (c_spec_l38Num p0 ((i_2 + 1 : Nat) : Int) (by omega)) fok99) ?_
                          refine ad 3 ?_
                          exact Run.at [0, 1, 2] [0, 1, 2] (by first | exact su | (rw [h20]; exact su)) (by decide)
                        ·
                          refine ad 4 ?_
                          rw [wrapN (i := i_2) (by first | omega | exact om)]
                          have hg22 := good_nth (k := (i_2 + 1)) hg_p0 om
                          refine op (ix (xs := p0) (i_2 + 1) om) ?_
                          refine ad 1 ?_
                          refine op (cl (c_spec_Unhex (nth p0 (i_2 + 1))) fok100) ?_
                          refine ad 6 ?_
                          exact Run.at [0, 1, 2] [1, 2, 3] (by first | exact su | (rw [h20]; exact su)) (by decide)
                      exact Run.at [0, 1, 2] [0, 1, 2] (by first | exact su | (rw [h19]; exact su)) (by decide)
                  exact Run.at [0, 1, 2] [0, 1, 2] (by first | exact su | (rw [h16]; exact su)) (by decide)
              exact Run.at [0, 1, 2] [0, 1, 2] (by first | exact su | (rw [h13]; exact su)) (by decide)
          refine ad 5 ?_
          rw [wrapN (i := i_2) (by first | omega | exact om)]
          refine ad 2 ?_
          exact Run.again (n_2, bif (decide (((byteAt (spec_l38Uses c2_0) i_2).toNat : Int) = 110)) then (nth p0 (i_2 + 1)) else c2_1_2, bif (decide (((byteAt (spec_l38Uses c2_0) i_2).toNat : Int) = 110)) then c2_2_2 else (bif (decide (((byteAt (spec_l38Uses c2_0) i_2).toNat : Int) = 116)) then (nth p0 (i_2 + 1)) else c2_2_2), bif (decide (((byteAt (spec_l38Uses c2_0) i_2).toNat : Int) = 110)) then c2_3_2 else (bif (decide (((byteAt (spec_l38Uses c2_0) i_2).toNat : Int) = 116)) then c2_3_2 else (bif (decide (((byteAt (spec_l38Uses c2_0) i_2).toNat : Int) = 97)) then (spec_l38Num p0 ((i_2 + 1 : Nat) : Int)) else c2_3_2)), bif (decide (((byteAt (spec_l38Uses c2_0) i_2).toNat : Int) = 110)) then c2_4_2 else (bif (decide (((byteAt (spec_l38Uses c2_0) i_2).toNat : Int) = 116)) then c2_4_2 else (bif (decide (((byteAt (spec_l38Uses c2_0) i_2).toNat : Int) = 97)) then c2_4_2 else (bif (decide (((byteAt (spec_l38Uses c2_0) i_2).toNat : Int) = 98)) then (spec_l38Num p0 ((i_2 + 1 : Nat) : Int)) else c2_4_2))), bif (decide (((byteAt (spec_l38Uses c2_0) i_2).toNat : Int) = 110)) then c2_5_2 else (bif (decide (((byteAt (spec_l38Uses c2_0) i_2).toNat : Int) = 116)) then c2_5_2 else (bif (decide (((byteAt (spec_l38Uses c2_0) i_2).toNat : Int) = 97)) then c2_5_2 else (bif (decide (((byteAt (spec_l38Uses c2_0) i_2).toNat : Int) = 98)) then c2_5_2 else ((spec_Unhex (nth p0 (i_2 + 1))).1)))), (i_2 + 1)) [0, 1, 2] [0, 1, 2] ⟨by exact ⟨by (try dsimp only); first | omega | exact trivial, (bifS (good_nths hg_p0 _) hg_c2_1_2), (bifS hg_c2_2_2 (bifS (good_nths hg_p0 _) hg_c2_2_2)), (bifI hg_c2_3_2 (bifI hg_c2_3_2 (bifI (spec_l38Num_I64 _ _) hg_c2_3_2))), (bifI hg_c2_4_2 (bifI hg_c2_4_2 (bifI hg_c2_4_2 (bifI (spec_l38Num_I64 _ _) hg_c2_4_2)))), (bifS hg_c2_5_2 (bifS hg_c2_5_2 (bifS hg_c2_5_2 (bifS hg_c2_5_2 (spec_Unhex_good _)))))⟩, hM⟩ rfl (by exact Nat.lt_succ_self _) su (by decide)
        ·
          have hM := hE.trans (spec_ReadCall_l2_x p0 c2_0 i k_2 fu_2 c2_1_2 c2_2_2 c2_3_2 c2_4_2 c2_5_2 i_2 h12)
          refine ad 1 ?_
          exact Run.exitkM hk_2 (c2_1_2, c2_2_2, c2_3_2, c2_4_2, c2_5_2) [0, 1, 2] [0, 1, 2] hM (by exact ⟨by trivial, hg_c2_1_2, hg_c2_2_2, hg_c2_3_2, hg_c2_4_2, hg_c2_5_2⟩) su (by decide)

/- F47 loop.example/g00974/laws.szStringS -/
/- F56 loop.example/g00974/laws.toStringS -/
/- F12 loop.example/g00974/laws.eqStringS -/
/- F166 loop.example/g00974/laws.eqCall -/
def laws_eqCall (p0 : Call) (p1 : Call) : Bool := bif !decide (p0.Kind = p1.Kind) then false else (bif !decide (p0.Name = p1.Name) then false else (bif !decide (p0.To = p1.To) then false else (bif !decide (p0.A = p1.A) then false else (bif !decide (p0.B = p1.B) then false else (bif !decide (p0.Text = p1.Text) then false else true)))))
theorem c_laws_eqCall (p0 : Call) (p1 : Call) : CTs 166 [.o (.st Call _ inferInstance p0), .o (.st Call _ inferInstance p1)] [Re.c (.bool (laws_eqCall p0 p1))] := by
  refine en Tryz.func166 Tryz.ntmps166 fun w hG hgd => ?_
  obtain ⟨hg_p0, hg_p1, _⟩ := hgd
  have hM := laws_eqCall.eq_1 p0 p1
  refine ad 15 ?_
  refine cd (fun h1 => ?_) (fun h1 => ?_)
  ·
    have hM := hM.trans (bt h1)
    refine ad 4 ?_
    exact rz (rs := [.tmp 4]) (congrArg (fun x => [Re.c (.bool x)]) hM)
  ·
    have hM := hM.trans (bf h1)
    refine ad 10 ?_
    refine cd (fun h2 => ?_) (fun h2 => ?_)
    ·
      have hM := hM.trans (bt h2)
      refine ad 4 ?_
      exact rz (rs := [.tmp 4]) (congrArg (fun x => [Re.c (.bool x)]) hM)
    ·
      have hM := hM.trans (bf h2)
      refine ad 10 ?_
      refine cd (fun h3 => ?_) (fun h3 => ?_)
      ·
        have hM := hM.trans (bt h3)
        refine ad 4 ?_
        exact rz (rs := [.tmp 4]) (congrArg (fun x => [Re.c (.bool x)]) hM)
      ·
        have hM := hM.trans (bf h3)
        refine ad 10 ?_
        refine cd (fun h4 => ?_) (fun h4 => ?_)
        ·
          have hM := hM.trans (bt h4)
          refine ad 4 ?_
          exact rz (rs := [.tmp 4]) (congrArg (fun x => [Re.c (.bool x)]) hM)
        ·
          have hM := hM.trans (bf h4)
          refine ad 10 ?_
          refine cd (fun h5 => ?_) (fun h5 => ?_)
          ·
            have hM := hM.trans (bt h5)
            refine ad 4 ?_
            exact rz (rs := [.tmp 4]) (congrArg (fun x => [Re.c (.bool x)]) hM)
          ·
            have hM := hM.trans (bf h5)
            refine ad 10 ?_
            refine cd (fun h6 => ?_) (fun h6 => ?_)
            ·
              have hM := hM.trans (bt h6)
              refine ad 4 ?_
              exact rz (rs := [.tmp 4]) (congrArg (fun x => [Re.c (.bool x)]) hM)
            ·
              have hM := hM.trans (bf h6)
              refine ad 5 ?_
              exact rz (rs := [.tmp 4]) (congrArg (fun x => [Re.c (.bool x)]) hM)

end Go.Proofs.YtnjidaonbcbphaaGreatDoor.Fw
/-
  The reference and the program read the same words, numbers, bytes and calls; a call comes back from its line. No condition.
-/
namespace Go.Proofs.YtnjidaonbcbphaaGreatDoor.Fw
open Go.RowKit
set_option linter.unusedVariables false
set_option linter.unusedSimpArgs false
set_option maxRecDepth 100000
/-! ## Words of a line -/
def toBA (l : List UInt8) : ByteArray := ⟨l.toArray⟩
def finW (o : List ByteArray) : List ByteArray × Bool := bif decide ((o.length : Int) > 12) then (([] : List ByteArray), false) else (o, true)
theorem cutS_list (p0 : ByteArray) (b i : Nat) : cutS p0 b i = toBA (((sbytes p0).take i).drop b) := by
  unfold cutS toBA sbytes
  apply ByteArray.ext
  rw [ByteArray.data_extract]
  apply Array.ext'
  rw [Array.toList_extract, List.extract_eq_take_drop, List.drop_take]
theorem drop_at (p0 : ByteArray) {i : Nat} (hi : i < p0.size) : (sbytes p0).drop i = byteAt p0 i :: (sbytes p0).drop (i + 1) := by
  have h : i < (sbytes p0).length := by rw [sbytes_length]; exact hi
  rw [List.drop_eq_getElem_cons h, sbytes_at h]
theorem take_at (p0 : ByteArray) {b i : Nat} (hb : b ≤ i) (hi : i < p0.size) : ((sbytes p0).take (i + 1)).drop b = ((sbytes p0).take i).drop b ++ [byteAt p0 i] := by
  have h : i < (sbytes p0).length := by rw [sbytes_length]; exact hi
  rw [List.take_succ_eq_append_getElem h, List.drop_append_of_le_length (by rw [List.length_take]; omega), sbytes_at h]
theorem isSp_in {c : UInt8} (h1 : 32 ≤ c.toNat) (h2 : c.toNat ≤ 126) : Lib.isSp c = decide (c.toNat = 32) := by
  have key : ∀ n : Fin 256, 32 ≤ n.val → n.val ≤ 126 → Lib.isSp (UInt8.ofNat n.val) = decide (n.val = 32) := by decide +kernel
  have := key ⟨c.toNat, c.toNat_lt⟩ h1 h2
  simpa using this
theorem spec_parts_good (p0 : ByteArray) (hall : ∀ j, j < p0.size → 32 ≤ (byteAt p0 j).toNat ∧ (byteAt p0 j).toNat ≤ 126) : ∀ n i (out : List ByteArray) (b : Nat), i + (n + 1) = p0.size + 1 → b ≤ i →
    spec_PartsOf_l1 p0 (n + 1) out (b : Int) i = finW (out ++ (Lib.fieldsGo (((sbytes p0).take i).drop b) ((sbytes p0).drop i)).map toBA) := by
  intro n
  induction n with
  | zero =>
    intro i out b hi hb
    obtain rfl : i = p0.size := by omega
    have hc : decide ((p0.size : Int) < (p0.size : Int)) = false := decide_eq_false (by omega)
    have hl : (sbytes p0).length = p0.size := sbytes_length p0
    have e1 : (sbytes p0).drop p0.size = [] := List.drop_eq_nil_of_le (by omega)
    rw [spec_PartsOf_l1, hc, e1, Lib.fieldsGo]
    simp only [Bool.false_and, cond_false]
    rw [spec_PartsOf_l1]
    by_cases hbs : b < p0.size
    · have he : (((sbytes p0).take p0.size).drop b).isEmpty = false := by
        rw [List.isEmpty_eq_false_iff]
        intro e
        have := congrArg List.length e
        rw [List.length_drop, List.length_take, hl, List.length_nil] at this
        omega
      rw [decide_eq_true (show (b : Int) < (p0.size : Int) by omega), he]
      simp only [cond_true, Bool.false_eq_true, if_false, List.map_cons, List.map_nil]
      rw [show ((b : Int)).toNat = b from rfl, cutS_list]
      rfl
    · have he : (((sbytes p0).take p0.size).drop b).isEmpty = true := by
        rw [List.isEmpty_iff]
        exact List.drop_eq_nil_of_le (by rw [List.length_take, hl]; omega)
      rw [decide_eq_false (show ¬ (b : Int) < (p0.size : Int) by omega), he]
      simp only [cond_false, if_true, List.map_nil, List.append_nil]
      rfl
  | succ n ih =>
    intro i out b hi hb
    have hlt : i < p0.size := by omega
    obtain ⟨h1, h2⟩ := hall i hlt
    rw [spec_PartsOf_l1, decide_eq_true (show (i : Int) < (p0.size : Int) by omega), decide_eq_false (show ¬ ((byteAt p0 i).toNat : Int) < 32 by omega), decide_eq_false (show ¬ ((byteAt p0 i).toNat : Int) > 126 by omega), drop_at p0 hlt, Lib.fieldsGo, isSp_in h1 h2]
    simp only [Bool.true_and, Bool.or_self, cond_false]
    by_cases hc : (byteAt p0 i).toNat = 32
    · rw [decide_eq_true (show ((byteAt p0 i).toNat : Int) = 32 by omega), decide_eq_true hc]
      simp only [Bool.not_true, cond_false, if_true]
      rw [ih (i + 1) _ (i + 1) (by omega) (Nat.le_refl _)]
      have e0 : ((sbytes p0).take (i + 1)).drop (i + 1) = [] := List.drop_eq_nil_of_le (by rw [List.length_take]; omega)
      rw [e0]
      have hl : (sbytes p0).length = p0.size := sbytes_length p0
      by_cases hbs : b < i
      · have he : (((sbytes p0).take i).drop b).isEmpty = false := by
          rw [List.isEmpty_eq_false_iff]
          intro e
          have := congrArg List.length e
          rw [List.length_drop, List.length_take, hl, List.length_nil] at this
          omega
        rw [decide_eq_true (show (b : Int) < (i : Int) by omega), he]
        simp only [cond_true, Bool.false_eq_true, if_false, List.map_cons, List.append_assoc, List.cons_append, List.nil_append]
        rw [show ((b : Int)).toNat = b from rfl, cutS_list]
      · have he : (((sbytes p0).take i).drop b).isEmpty = true := by
          rw [List.isEmpty_iff]
          exact List.drop_eq_nil_of_le (by rw [List.length_take]; omega)
        rw [decide_eq_false (show ¬ (b : Int) < (i : Int) by omega), he]
        simp only [cond_false, if_true]
    · rw [decide_eq_false (show ¬ ((byteAt p0 i).toNat : Int) = 32 by omega), decide_eq_false hc]
      simp only [Bool.not_false, cond_true, Bool.false_eq_true, if_false]
      rw [ih (i + 1) _ b (by omega) (by omega), take_at p0 hb hlt]
theorem spec_parts_bad (p0 : ByteArray) {j : Nat} (hj : j < p0.size) (hbad : ¬ (32 ≤ (byteAt p0 j).toNat ∧ (byteAt p0 j).toNat ≤ 126)) : ∀ n i (out : List ByteArray) (b : Int), i + n = p0.size + 1 → i ≤ j → spec_PartsOf_l1 p0 n out b i = ([], false) := by
  intro n
  induction n with
  | zero => intro i _ _ h1 h2; omega
  | succ n ih =>
    intro i out b h1 h2
    have hlt : i < p0.size := by omega
    rw [spec_PartsOf_l1, decide_eq_true (show (i : Int) < (p0.size : Int) by omega)]
    by_cases hb : 32 ≤ (byteAt p0 i).toNat ∧ (byteAt p0 i).toNat ≤ 126
    · have hne : i ≠ j := fun e => by subst e; exact hbad hb
      rw [decide_eq_false (show ¬ ((byteAt p0 i).toNat : Int) < 32 by omega), decide_eq_false (show ¬ ((byteAt p0 i).toNat : Int) > 126 by omega)]
      simp only [Bool.true_and, Bool.or_self, cond_false]
      cases (!decide (((byteAt p0 i).toNat : Int) = 32)) with
      | true => exact ih (i + 1) _ _ (by omega) (by omega)
      | false => exact ih (i + 1) _ _ (by omega) (by omega)
    · have : ((decide (((byteAt p0 i).toNat : Int) < 32)) || (decide (((byteAt p0 i).toNat : Int) > 126))) = true := by
        rcases Nat.lt_or_ge (byteAt p0 i).toNat 32 with h | h
        · rw [decide_eq_true (show ((byteAt p0 i).toNat : Int) < 32 by omega)]
          rfl
        · rw [decide_eq_true (show ((byteAt p0 i).toNat : Int) > 126 by omega), Bool.or_true]
      rw [this]
      rfl
theorem impl_parts_good (p0 : ByteArray) (hall : ∀ j, j < p0.size → 32 ≤ (byteAt p0 j).toNat ∧ (byteAt p0 j).toNat ≤ 126) : ∀ n i, i + n = p0.size → impl_PartsOf_l1 p0 n i = finW (fieldsS p0) := by
  intro n
  induction n with
  | zero => intro i _; rfl
  | succ n ih =>
    intro i h
    obtain ⟨h1, h2⟩ := hall i (by omega)
    rw [impl_PartsOf_l1, decide_eq_false (show ¬ ((byteAt p0 i).toNat : Int) < 32 by omega), decide_eq_false (show ¬ ((byteAt p0 i).toNat : Int) > 126 by omega)]
    exact ih (i + 1) (by omega)
theorem impl_parts_bad (p0 : ByteArray) {j : Nat} (hj : j < p0.size) (hbad : ¬ (32 ≤ (byteAt p0 j).toNat ∧ (byteAt p0 j).toNat ≤ 126)) : ∀ n i, i + n = p0.size → i ≤ j → impl_PartsOf_l1 p0 n i = ([], false) := by
  intro n
  induction n with
  | zero => intro i h1 h2; omega
  | succ n ih =>
    intro i h1 h2
    rw [impl_PartsOf_l1]
    by_cases hb : 32 ≤ (byteAt p0 i).toNat ∧ (byteAt p0 i).toNat ≤ 126
    · have hne : i ≠ j := fun e => by subst e; exact hbad hb
      rw [decide_eq_false (show ¬ ((byteAt p0 i).toNat : Int) < 32 by omega), decide_eq_false (show ¬ ((byteAt p0 i).toNat : Int) > 126 by omega)]
      exact ih (i + 1) (by omega) (by omega)
    · have : ((decide (((byteAt p0 i).toNat : Int) < 32)) || (decide (((byteAt p0 i).toNat : Int) > 126))) = true := by
        rcases Nat.lt_or_ge (byteAt p0 i).toNat 32 with h | h
        · rw [decide_eq_true (show ((byteAt p0 i).toNat : Int) < 32 by omega)]
          rfl
        · rw [decide_eq_true (show ((byteAt p0 i).toNat : Int) > 126 by omega), Bool.or_true]
      rw [this]
      rfl
theorem fieldsS_toBA (p0 : ByteArray) : fieldsS p0 = (Lib.fieldsGo [] (sbytes p0)).map toBA := rfl
theorem PartsOf_twin (p0 : ByteArray) : impl_PartsOf p0 = spec_PartsOf p0 := by
  unfold impl_PartsOf spec_PartsOf
  cases hs : decide ((p0.size : Int) > 600) with
  | true => rfl
  | false =>
    show impl_PartsOf_l1 p0 (p0.size - 0) 0 = spec_PartsOf_l1 p0 ((p0.size + 1) - 0) [] 0 0
    by_cases hall : ∀ j, j < p0.size → 32 ≤ (byteAt p0 j).toNat ∧ (byteAt p0 j).toNat ≤ 126
    · rw [impl_parts_good p0 hall _ _ (by omega), show p0.size + 1 - 0 = p0.size + 1 from rfl]
      have := spec_parts_good p0 hall p0.size 0 [] 0 (by omega) (Nat.le_refl _)
      rw [show ((0 : Nat) : Int) = 0 from rfl] at this
      rw [this, fieldsS_toBA]
      rfl
    · obtain ⟨j, hj⟩ := Classical.not_forall.1 hall
      obtain ⟨hj1, hj2⟩ := Classical.not_imp.1 hj
      rw [impl_parts_bad p0 hj1 hj2 _ _ (by omega) (Nat.zero_le _), spec_parts_bad p0 hj1 hj2 _ _ _ _ (by omega) (Nat.zero_le _)]

/-! ## Numbers -/
theorem decFrom_app : ∀ (l m : List UInt8) (a : Nat), Lib.decFrom a (l ++ m) = (Lib.decFrom a l).bind fun n => Lib.decFrom n m
  | [], m, a => by simp [Lib.decFrom]
  | b :: l, m, a => by
    simp only [List.cons_append, Lib.decFrom]
    cases Lib.digitVal b with
    | none => rfl
    | some d => exact decFrom_app l m _
theorem digitVal_digit {d : Nat} (h : d < 10) : Lib.digitVal (UInt8.ofNat (48 + d)) = some d := by
  have key : ∀ n : Fin 10, Lib.digitVal (UInt8.ofNat (48 + n.val)) = some n.val := by decide +kernel
  exact key ⟨d, h⟩
theorem decFrom_digits : ∀ u : Nat, Lib.decFrom 0 (Lib.decDigits u) = some u := by
  intro u
  induction u using Nat.strongRecOn with
  | _ u ih =>
    rw [Lib.decDigits]
    split
    · rename_i h
      simp only [Lib.decFrom, digitVal_digit h]
      simp
    · rename_i h
      rw [decFrom_app, ih (u / 10) (by omega)]
      simp only [Option.bind_some, Lib.decFrom, digitVal_digit (show u % 10 < 10 by omega)]
      congr 1
      omega
theorem nDigits_lt : ∀ (k u : Nat), u < 10 ^ (k + 1) → Lib.nDigits u ≤ k + 1 := by
  intro k
  induction k with
  | zero => intro u h; rw [Lib.nDigits_small (by omega)]; omega
  | succ k ih =>
    intro u h
    by_cases h10 : u < 10
    · rw [Lib.nDigits_small h10]; omega
    · rw [Lib.nDigits_big h10]
      have := ih (u / 10) (by rw [Nat.pow_succ] at h; omega)
      omega
theorem dec_list (u : Nat) : sbytes (impl_Decimal (u : Int)) = Lib.decDigits u := by
  show ((Lib.itoa (u : Int)).toArray).toList = _
  rw [List.toList_toArray, Lib.itoa_nonneg]
theorem dec_size {u : Nat} (h : u ≤ 1000000000) : (impl_Decimal (u : Int)).size ≤ 10 := by
  rw [← sbytes_length, dec_list, Lib.decDigits_length]
  exact nDigits_lt 9 u (by omega)
theorem byteAt_cons (p0 : ByteArray) {i : Nat} (hi : i < p0.size) : (sbytes p0).drop i = byteAt p0 i :: (sbytes p0).drop (i + 1) := drop_at p0 hi
def finD (p0 : ByteArray) (m : Nat) : Int × Bool := bif (decide ((m : Int) > 1000000000)) || (!decide ((impl_Decimal (m : Int)) = p0)) then (0, false) else ((m : Int), true)
theorem spec_dec_l1 (p0 : ByteArray) (hs : p0.size ≤ 10) : ∀ n i (v : Nat), i + n = p0.size → v < 10 ^ i → spec_ReadDecimal_l1 p0 n (v : Int) i = match Lib.decFrom v ((sbytes p0).drop i) with
    | some m => finD p0 m
    | none => (0, false) := by
  intro n
  induction n with
  | zero =>
    intro i v h hv
    have hp : 10 ^ i ≤ 10 ^ 10 := Nat.pow_le_pow_right (by omega) (by omega)
    rw [List.drop_eq_nil_of_le (by rw [sbytes_length]; omega)]
    show spec_ReadDecimal_l1 p0 0 (v : Int) i = finD p0 v
    rw [spec_ReadDecimal_l1, Decimal_twin (p0 := (v : Int)) (by unfold I64; omega)]
    rfl
  | succ n ih =>
    intro i v h hv
    have hlt : i < p0.size := by omega
    have hp : 10 ^ i ≤ 10 ^ 9 := Nat.pow_le_pow_right (by omega) (by omega)
    rw [spec_ReadDecimal_l1, byteAt_cons p0 hlt, Lib.decFrom]
    have hb := (byteAt p0 i).toNat_lt
    by_cases hd : 48 ≤ (byteAt p0 i).toNat ∧ (byteAt p0 i).toNat ≤ 57
    · rw [decide_eq_false (show ¬ ((byteAt p0 i).toNat : Int) < 48 by omega), decide_eq_false (show ¬ ((byteAt p0 i).toNat : Int) > 57 by omega)]
      have hdv : Lib.digitVal (byteAt p0 i) = some ((byteAt p0 i).toNat - 48) := by
        have key : ∀ k : Fin 256, 48 ≤ k.val → k.val ≤ 57 → Lib.digitVal (UInt8.ofNat k.val) = some (k.val - 48) := by decide +kernel
        have := key ⟨(byteAt p0 i).toNat, hb⟩ hd.1 hd.2
        simpa using this
      rw [hdv]
      simp only [Bool.or_self, cond_false]
      rw [IntWalk.i64_in (10 * (v : Int)) (by omega), IntWalk.i64_in ((byteAt p0 i).toNat : Int) (by omega), IntWalk.i64_in (10 * (v : Int) + ((byteAt p0 i).toNat : Int)) (by omega), IntWalk.i64_in (10 * (v : Int) + ((byteAt p0 i).toNat : Int) - 48) (by omega)]
      have e : (10 * (v : Int) + ((byteAt p0 i).toNat : Int) - 48) = ((v * 10 + ((byteAt p0 i).toNat - 48) : Nat) : Int) := by omega
      rw [e]
      exact ih (i + 1) _ (by omega) (by rw [Nat.pow_succ]; omega)
    · have hdv : Lib.digitVal (byteAt p0 i) = none := by
        have key : ∀ k : Fin 256, ¬ (48 ≤ k.val ∧ k.val ≤ 57) → Lib.digitVal (UInt8.ofNat k.val) = none := by decide +kernel
        have := key ⟨(byteAt p0 i).toNat, hb⟩ hd
        simpa using this
      rw [hdv]
      have : ((decide (((byteAt p0 i).toNat : Int) < 48)) || (decide (((byteAt p0 i).toNat : Int) > 57))) = true := by
        rcases Nat.lt_or_ge (byteAt p0 i).toNat 48 with h1 | h1
        · rw [decide_eq_true (show ((byteAt p0 i).toNat : Int) < 48 by omega)]
          rfl
        · rw [decide_eq_true (show ((byteAt p0 i).toNat : Int) > 57 by omega), Bool.or_true]
      rw [this]
      rfl
theorem spec_dec (p0 : ByteArray) (hs : p0.size ≤ 10) : spec_ReadDecimal p0 = match Lib.decFrom 0 (sbytes p0) with
    | some m => finD p0 m
    | none => (0, false) := by
  unfold spec_ReadDecimal
  rw [decide_eq_false (show ¬ (p0.size : Int) > 10 by omega)]
  exact spec_dec_l1 p0 hs (p0.size - 0) 0 0 (by omega) (by decide)
/-- What the program's reading says, told of a number that stands there. -/
def finI (p0 : ByteArray) (n : Int) : Int × Bool := bif (!(impl_within n 0 1000000000)) || (!decide ((impl_Decimal n) = p0)) then (0, false) else (n, true)
theorem impl_dec (p0 : ByteArray) : impl_ReadDecimal p0 = bif (atoi p0).2 then finI p0 (atoi p0).1 else (0, false) := by
  unfold impl_ReadDecimal finI
  cases (atoi p0).2 with
  | true => simp only [Bool.not_true, Bool.false_or, cond_true]
  | false => simp only [Bool.not_false, Bool.true_or, cond_true, cond_false]
theorem finI_nat (p0 : ByteArray) (m : Nat) : finI p0 (m : Int) = finD p0 m := by
  unfold finI finD
  by_cases h : m ≤ 1000000000
  · have h1 : impl_within (m : Int) 0 1000000000 = true := by
      unfold impl_within
      simp
      omega
    rw [h1, decide_eq_false (show ¬ (m : Int) > 1000000000 by omega)]
    rfl
  · have h1 : impl_within (m : Int) 0 1000000000 = false := by
      cases hw : impl_within (m : Int) 0 1000000000 with
      | false => rfl
      | true => exact absurd (impl_within_t hw) (by omega)
    rw [h1, decide_eq_true (show (m : Int) > 1000000000 by omega)]
    rfl
theorem finI_bad (p0 : ByteArray) (n : Int) (h : ∀ m : Nat, m ≤ 1000000000 → impl_Decimal (m : Int) ≠ p0) : finI p0 n = (0, false) := by
  unfold finI
  cases hw : impl_within n 0 1000000000 with
  | false => rfl
  | true =>
    have hb := impl_within_t hw
    obtain ⟨m, rfl⟩ : ∃ m : Nat, n = (m : Int) := ⟨n.toNat, by omega⟩
    rw [decide_eq_false (h m (by omega))]
    rfl
theorem ReadDecimal_twin (p0 : ByteArray) : impl_ReadDecimal p0 = spec_ReadDecimal p0 := by
  rw [impl_dec]
  by_cases hs : p0.size ≤ 10
  · rw [spec_dec p0 hs]
    have hl : (sbytes p0).length ≤ 18 := by rw [sbytes_length]; omega
    have ha : Lib.atoiAll p0.data.toList = Lib.NumEnd.ofOption (Lib.atoi p0.data.toList) := Lib.atoiAll_short _ hl
    have hno : Lib.decFrom 0 (sbytes p0) = none → ∀ m : Nat, m ≤ 1000000000 → impl_Decimal (m : Int) ≠ p0 := fun hn m _ e => by
      rw [← e, dec_list, decFrom_digits] at hn
      cases hn
    unfold atoi
    rw [ha]
    show (bif (match Lib.NumEnd.ofOption (Lib.atoi (sbytes p0)) with | .ok v => (v, true) | .range => (Lib.atoiSat p0.data.toList, false) | _ => (0, false)).2 then finI p0 (match Lib.NumEnd.ofOption (Lib.atoi (sbytes p0)) with | .ok v => (v, true) | .range => (Lib.atoiSat p0.data.toList, false) | _ => (0, false)).1 else (0, false)) = _
    cases hc : sbytes p0 with
    | nil =>
      show (0, false) = finD p0 0
      have : impl_Decimal ((0 : Nat) : Int) ≠ p0 := fun e => by
        rw [← e, dec_list, Lib.decDigits_one (by omega)] at hc
        cases hc
      unfold finD
      rw [decide_eq_false this]
      rfl
    | cons b r =>
      rw [hc] at hno
      by_cases h45 : b = 45
      · subst h45
        have hn : Lib.decFrom 0 (45 :: r) = none := rfl
        rw [hn]
        have hf := fun n => finI_bad p0 n (hno hn)
        simp only [hf]
        exact Bool.cond_self _ _
      · by_cases h43 : b = 43
        · subst h43
          have hn : Lib.decFrom 0 (43 :: r) = none := rfl
          rw [hn]
          have hf := fun n => finI_bad p0 n (hno hn)
          simp only [hf]
          exact Bool.cond_self _ _
        · have e : Lib.atoi (b :: r) = (Lib.decFrom 0 (b :: r)).map fun (m : Nat) => (m : Int) := by
            show (if (b == 45) = true then (Lib.decNat r).map (fun (m : Nat) => -(m : Int)) else if (b == 43) = true then (Lib.decNat r).map (fun (m : Nat) => (m : Int)) else (Lib.decNat (b :: r)).map (fun (m : Nat) => (m : Int))) = _
            rw [if_neg (by simpa using h45), if_neg (by simpa using h43)]
            rfl
          rw [e]
          cases Lib.decFrom 0 (b :: r) with
          | none => rfl
          | some m => exact finI_nat p0 m
  · have hsp : spec_ReadDecimal p0 = (0, false) := by
      unfold spec_ReadDecimal
      rw [decide_eq_true (show (p0.size : Int) > 10 by omega)]
      rfl
    rw [hsp]
    have hf := fun n => finI_bad p0 n fun m hm e => hs (by rw [← e]; exact dec_size hm)
    rw [hf]
    exact Bool.cond_self _ _

/-! ## Hexadecimal texts, read -/
theorem val_digit {d : Nat} (h : d < 16) : spec_l01Value (Lib.Hx.digit d) = (d : Int) := by
  have key : ∀ n : Fin 16, spec_l01Value (Lib.Hx.digit n.val) = (n.val : Int) := by decide +kernel
  exact key ⟨d, h⟩
theorem val_back (b : UInt8) (h : 0 ≤ spec_l01Value b) : (spec_l01Value b).toNat < 16 ∧ Lib.Hx.digit (spec_l01Value b).toNat = b := by
  have key : ∀ n : Fin 256, 0 ≤ spec_l01Value (UInt8.ofNat n.val) → (spec_l01Value (UInt8.ofNat n.val)).toNat < 16 ∧ Lib.Hx.digit (spec_l01Value (UInt8.ofNat n.val)).toNat = UInt8.ofNat n.val := by decide +kernel
  have e : UInt8.ofNat b.toNat = b := by simp
  have := key ⟨b.toNat, b.toNat_lt⟩
  simp only [e] at this
  exact this h
theorem byte_of {h l : Nat} (hh : h < 16) (hl : l < 16) : u8of (IntKind.i64.wrap ((IntKind.i64.wrap (16 * (h : Int))) + (l : Int))) = UInt8.ofNat (16 * h + l) := by
  have key : ∀ a b : Fin 16, u8of (IntKind.i64.wrap ((IntKind.i64.wrap (16 * (a.val : Int))) + (b.val : Int))) = UInt8.ofNat (16 * a.val + b.val) := by decide +kernel
  exact key ⟨h, hh⟩ ⟨l, hl⟩
theorem sbytes_hexEnc (xs : List UInt8) : sbytes (hexEnc xs) = Lib.Hx.encode xs := by
  show ((Lib.Hx.encode xs).toArray).toList = _
  rw [List.toList_toArray]
def kU (e : List UInt8) : ByteArray × Bool := (bstr e, true)
theorem unhex_good (p0 : ByteArray) : ∀ (raw : List UInt8) (i : Nat) (v : List UInt8) (fu : Nat), i + 2 * raw.length = p0.size → raw.length ≤ fu → (sbytes p0).drop i = Lib.Hx.encode raw → spec_Unhex_l1 p0 kU fu v i = (bstr (v ++ raw), true) := by
  intro raw
  induction raw with
  | nil =>
    intro i v fu h1 h2 h3
    have hi : decide ((i : Int) < (p0.size : Int)) = false := decide_eq_false (by simp only [List.length_nil] at h1; omega)
    rw [List.append_nil]
    cases fu with
    | zero => rfl
    | succ n => rw [spec_Unhex_l1, hi]; rfl
  | cons x r ih =>
    intro i v fu h1 h2 h3
    rw [List.length_cons] at h1 h2
    obtain ⟨f, rfl⟩ : ∃ f, fu = f + 1 := ⟨fu - 1, by omega⟩
    have hl1 : i < p0.size := by omega
    have hl2 : i + 1 < p0.size := by omega
    rw [drop_at p0 hl1, drop_at p0 hl2, Lib.Hx.encode_cons] at h3
    injection h3 with e1 h3
    injection h3 with e2 e3
    have hx := x.toNat_lt
    rw [spec_Unhex_l1, decide_eq_true (show (i : Int) < (p0.size : Int) by omega), e1, e2, val_digit (by omega), val_digit (by omega), decide_eq_false (show ¬ ((x.toNat / 16 : Nat) : Int) < 0 by omega), decide_eq_false (show ¬ ((x.toNat % 16 : Nat) : Int) < 0 by omega), byte_of (by omega) (by omega), show 16 * (x.toNat / 16) + x.toNat % 16 = x.toNat by omega]
    simp only [Bool.or_self, cond_true, cond_false]
    rw [ih (i + 2) _ f (by omega) (by omega) e3, show UInt8.ofNat x.toNat = x by simp, List.append_assoc]
    rfl
theorem unhex_back (p0 : ByteArray) (he : p0.size % 2 = 0) : ∀ (fu i : Nat) (v : List UInt8), i % 2 = 0 → i ≤ p0.size → p0.size - i ≤ fu →
    spec_Unhex_l1 p0 kU fu v i = (⟨#[]⟩, false) ∨ ∃ raw : List UInt8, (sbytes p0).drop i = Lib.Hx.encode raw ∧ i + 2 * raw.length = p0.size := by
  intro fu
  induction fu with
  | zero =>
    intro i v h1 h2 h3
    exact .inr ⟨[], List.drop_eq_nil_of_le (by rw [sbytes_length]; omega), by simp only [List.length_nil]; omega⟩
  | succ f ih =>
    intro i v h1 h2 h3
    by_cases hi : i < p0.size
    · have hl2 : i + 1 < p0.size := by omega
      rw [spec_Unhex_l1, decide_eq_true (show (i : Int) < (p0.size : Int) by omega)]
      by_cases hv : spec_l01Value (byteAt p0 i) < 0
      · rw [decide_eq_true hv]
        exact .inl rfl
      · by_cases hw : spec_l01Value (byteAt p0 (i + 1)) < 0
        · rw [decide_eq_true hw, Bool.or_true]
          exact .inl rfl
        · rw [decide_eq_false hv, decide_eq_false hw]
          simp only [Bool.or_self, cond_true, cond_false]
          obtain ⟨a1, a2⟩ := val_back (byteAt p0 i) (by omega)
          obtain ⟨b1, b2⟩ := val_back (byteAt p0 (i + 1)) (by omega)
          rcases ih (i + 2) (v ++ [u8of (IntKind.i64.wrap ((IntKind.i64.wrap (16 * (spec_l01Value (byteAt p0 i)))) + (spec_l01Value (byteAt p0 (i + 1)))))]) (by omega) (by omega) (by omega) with h | ⟨raw, hr, hs⟩
          · exact .inl h
          · refine .inr ⟨UInt8.ofNat (16 * (spec_l01Value (byteAt p0 i)).toNat + (spec_l01Value (byteAt p0 (i + 1))).toNat) :: raw, ?_, by rw [List.length_cons]; omega⟩
            have ex : (UInt8.ofNat (16 * (spec_l01Value (byteAt p0 i)).toNat + (spec_l01Value (byteAt p0 (i + 1))).toNat)).toNat = 16 * (spec_l01Value (byteAt p0 i)).toNat + (spec_l01Value (byteAt p0 (i + 1))).toNat := by
              have h := UInt8.toNat_ofNat' (n := 16 * (spec_l01Value (byteAt p0 i)).toNat + (spec_l01Value (byteAt p0 (i + 1))).toNat)
              rw [h]
              omega
            rw [drop_at p0 hi, drop_at p0 hl2, Lib.Hx.encode_cons, ex, hr]
            rw [show (16 * (spec_l01Value (byteAt p0 i)).toNat + (spec_l01Value (byteAt p0 (i + 1))).toNat) / 16 = (spec_l01Value (byteAt p0 i)).toNat by omega, show (16 * (spec_l01Value (byteAt p0 i)).toNat + (spec_l01Value (byteAt p0 (i + 1))).toNat) % 16 = (spec_l01Value (byteAt p0 (i + 1))).toNat by omega, a2, b2]
    · exact .inr ⟨[], List.drop_eq_nil_of_le (by rw [sbytes_length]; omega), by simp only [List.length_nil]; omega⟩
theorem decodeS_enc (raw : List UInt8) : decodeS (hexEnc raw) = (raw, true) := by
  unfold decodeS
  rw [show (hexEnc raw).data.toList = Lib.Hx.encode raw from sbytes_hexEnc raw, Lib.Hx.decode_encode]
theorem impl_unhex_good (raw : List UInt8) (h : raw.length ≤ 20000) : impl_Unhex (hexEnc raw) = (bstr raw, true) := by
  unfold impl_Unhex
  rw [decodeS_enc, decide_eq_false (show ¬ (((raw, true) : List UInt8 × Bool).1.length : Int) > 20000 by show ¬ (raw.length : Int) > 20000; omega), decide_eq_true (show hexEnc ((raw, true) : List UInt8 × Bool).1 = hexEnc raw from rfl)]
  rfl
theorem impl_unhex_bad (p0 : ByteArray) (h : ∀ raw : List UInt8, raw.length ≤ 20000 → hexEnc raw ≠ p0) : impl_Unhex p0 = (⟨#[]⟩, false) := by
  unfold impl_Unhex
  by_cases hl : (decodeS p0).1.length ≤ 20000
  · rw [decide_eq_false (h _ hl), Bool.not_false, Bool.or_true]
    rfl
  · rw [decide_eq_true (show ((decodeS p0).1.length : Int) > 20000 by omega), Bool.or_true, Bool.true_or]
    rfl
theorem hexEnc_of {p0 : ByteArray} {raw : List UInt8} (h : sbytes p0 = Lib.Hx.encode raw) : hexEnc raw = p0 := by
  unfold hexEnc
  rw [← h]
  rfl
theorem Unhex_twin (p0 : ByteArray) : impl_Unhex p0 = spec_Unhex p0 := by
  unfold spec_Unhex
  cases hc : (decide ((p0.size : Int) > 40000)) || (!decide ((Int.tmod (p0.size : Int) 2) = 0)) with
  | true =>
    rw [impl_unhex_bad p0 fun raw hl e => ?_]
    · rfl
    · have hs : p0.size = 2 * raw.length := by rw [← e, hexEnc_size]
      rw [decide_eq_false (show ¬ (p0.size : Int) > 40000 by omega)] at hc
      have ht : Int.tmod (p0.size : Int) 2 = 0 := by
        rw [hs]
        show (((2 * raw.length) % 2 : Nat) : Int) = 0
        omega
      rw [decide_eq_true ht] at hc
      cases hc
  | false =>
    have h1 : p0.size ≤ 40000 := by
      have := (Bool.or_eq_false_iff.1 hc).1
      simp at this
      omega
    have he := even_of (Bool.or_eq_false_iff.1 hc).2
    show impl_Unhex p0 = spec_Unhex_l1 p0 kU (p0.size - 0) [] 0
    rcases unhex_back p0 he (p0.size - 0) 0 [] rfl (Nat.zero_le _) (Nat.le_refl _) with h | ⟨raw, hr, hs⟩
    · rw [h]
      refine impl_unhex_bad p0 fun raw hl e => ?_
      have hs : p0.size = 2 * raw.length := by rw [← e, hexEnc_size]
      have := unhex_good p0 raw 0 [] (p0.size - 0) (by omega) (by omega) (by rw [List.drop_zero, ← e, sbytes_hexEnc])
      rw [h] at this
      cases this
    · rw [List.drop_zero] at hr
      have e := hexEnc_of hr
      rw [unhex_good p0 raw 0 [] (p0.size - 0) (by omega) (by omega) (by rw [List.drop_zero]; exact hr), List.nil_append]
      conv => lhs; rw [← e]
      exact impl_unhex_good raw (by omega)

/-! ## Words of a call's line -/
def clean (l : List UInt8) : Prop := l ≠ [] ∧ ∀ b ∈ l, 33 ≤ b.toNat ∧ b.toNat ≤ 126
theorem clean_sp {b : UInt8} (h : 33 ≤ b.toNat ∧ b.toNat ≤ 126) : Lib.isSp b = false := by
  rw [isSp_in (by omega) (by omega)]
  exact decide_eq_false (by omega)
theorem fieldsGo_clean : ∀ (m cur : List UInt8), (∀ b ∈ m, 33 ≤ b.toNat ∧ b.toNat ≤ 126) → cur ++ m ≠ [] → Lib.fieldsGo cur m = [cur ++ m]
  | [], cur, _, hne => by
    rw [List.append_nil] at hne ⊢
    cases cur with
    | nil => exact absurd rfl hne
    | cons _ _ => rfl
  | b :: m, cur, h, _ => by
    rw [Lib.fieldsGo_more cur b m (clean_sp (h b (List.mem_cons_self))), fieldsGo_clean m (cur ++ [b]) (fun c hc => h c (List.mem_cons_of_mem _ hc)) (by simp)]
    simp
theorem fieldsGo_app : ∀ (l cur m : List UInt8), clean m → Lib.fieldsGo cur (l ++ 32 :: m) = Lib.fieldsGo cur l ++ [m]
  | [], cur, m, hm => by
    have e := fieldsGo_clean m [] hm.2 (by simpa using hm.1)
    rw [List.nil_append] at e
    cases cur with
    | nil =>
      show Lib.fieldsGo [] (32 :: m) = [] ++ [m]
      rw [Lib.fieldsGo_sp 32 m (by decide), e]
      rfl
    | cons a r =>
      show Lib.fieldsGo (a :: r) (32 :: m) = [a :: r] ++ [m]
      rw [Lib.fieldsGo_end (a :: r) 32 m (by decide) (by simp), e]
      rfl
  | b :: l, cur, m, hm => by
    show Lib.fieldsGo cur (b :: (l ++ 32 :: m)) = Lib.fieldsGo cur (b :: l) ++ [m]
    cases hb : Lib.isSp b with
    | false => rw [Lib.fieldsGo_more cur b _ hb, Lib.fieldsGo_more cur b _ hb, fieldsGo_app l _ m hm]
    | true =>
      cases cur with
      | nil => rw [Lib.fieldsGo_sp b _ hb, Lib.fieldsGo_sp b _ hb, fieldsGo_app l _ m hm]
      | cons a r => rw [Lib.fieldsGo_end _ b _ hb (by simp), Lib.fieldsGo_end _ b _ hb (by simp), fieldsGo_app l _ m hm, List.cons_append]
theorem sbytes_app (a b : ByteArray) : sbytes (a ++ b) = sbytes a ++ sbytes b := by
  unfold sbytes
  rw [ByteArray.data_append, Array.toList_append]
/-- What a line's word tells, by its letter. -/
def hexText (p0 : ByteArray) : ByteArray := bif decide ((spec_Hex p0).1 = ⟨#[]⟩) then ⟨#[45]⟩ else (spec_Hex p0).1
def ftx (c : Call) (u : UInt8) : ByteArray := bif u == 110 then c.Name else bif u == 116 then c.To else bif u == 97 then spec_Decimal c.A else bif u == 98 then spec_Decimal c.B else hexText c.Text
def useB (u : UInt8) : Bool := u == 110 || u == 116 || u == 97 || u == 98 || u == 120
theorem useB_22 : ∀ n : Fin 22, ∀ i : Fin 3, i.val < (spec_l38Uses ((n.val : Int) + 1)).size → useB (byteAt (spec_l38Uses ((n.val : Int) + 1)) i.val) = true := by decide +kernel
theorem names_22 : ∀ n : Fin 22, spec_CallName ((n.val : Int) + 1) = nth gl1 n.val := by decide +kernel
theorem cleanB_22 : ∀ n : Fin 22, (sbytes (spec_CallName ((n.val : Int) + 1))).all (fun b => Nat.ble 33 b.toNat && Nat.ble b.toNat 126) = true ∧ (sbytes (spec_CallName ((n.val : Int) + 1))).isEmpty = false := by decide +kernel
theorem clean_of {l : List UInt8} (h : l.all (fun b => Nat.ble 33 b.toNat && Nat.ble b.toNat 126) = true) (h2 : l.isEmpty = false) : clean l := by
  refine ⟨fun e => (by rw [e] at h2; cases h2), fun b hb => ?_⟩
  have := List.all_eq_true.1 h b hb
  rw [Bool.and_eq_true] at this
  exact ⟨Nat.le_of_ble_eq_true this.1, Nat.le_of_ble_eq_true this.2⟩
theorem name_clean {k : Int} (h : 1 ≤ k ∧ k ≤ 22) : clean (sbytes (spec_CallName k)) := by
  obtain ⟨n, rfl⟩ := of22 h
  exact clean_of (cleanB_22 n).1 (cleanB_22 n).2
theorem mem_at {p0 : ByteArray} {b : UInt8} (h : b ∈ sbytes p0) : ∃ j, j < p0.size ∧ byteAt p0 j = b := by
  obtain ⟨j, hj, rfl⟩ := List.getElem_of_mem h
  exact ⟨j, by rw [sbytes_length] at hj; exact hj, (sbytes_at hj).symm⟩
def nbad (b : UInt8) : Bool := (((!(spec_l01In (IntKind.i64.wrap (b.toNat : Int)) 97 122)) && (!(spec_l01In (IntKind.i64.wrap (b.toNat : Int)) 48 57))) && (!decide ((b.toNat : Int) = 46))) && (!decide ((b.toNat : Int) = 45))
theorem nbad_not {b : UInt8} (h : nbad b = false) : 33 ≤ b.toNat ∧ b.toNat ≤ 126 := by
  have key : ∀ n : Fin 256, nbad (UInt8.ofNat n.val) = false → 33 ≤ (UInt8.ofNat n.val).toNat ∧ (UInt8.ofNat n.val).toNat ≤ 126 := by decide +kernel
  have e : UInt8.ofNat b.toNat = b := by simp
  have := key ⟨b.toNat, b.toNat_lt⟩
  simp only [e] at this
  exact this h
theorem NameOk_l1_t (p0 : ByteArray) : ∀ n i, i + n = p0.size → spec_NameOk_l1 p0 n i = true → (1 ≤ p0.size ∧ p0.size ≤ 12) ∧ ∀ j, i ≤ j → j < p0.size → 33 ≤ (byteAt p0 j).toNat ∧ (byteAt p0 j).toNat ≤ 126 := by
  intro n
  induction n with
  | zero =>
    intro i h h1
    have := spec_l01In_t (a := (p0.size : Int)) (b := 1) (c := 12) h1
    exact ⟨by omega, fun j _ _ => by omega⟩
  | succ n ih =>
    intro i h h1
    rw [spec_NameOk_l1] at h1
    cases hb : nbad (byteAt p0 i) with
    | true =>
      unfold nbad at hb
      rw [hb] at h1
      cases h1
    | false =>
      have hb' := hb
      unfold nbad at hb'
      rw [hb'] at h1
      obtain ⟨h2, h3⟩ := ih (i + 1) (by omega) h1
      refine ⟨h2, fun j h4 h5 => ?_⟩
      by_cases e : i = j
      · subst e
        exact nbad_not hb
      · exact h3 j (by omega) h5
theorem NameOk_clean {p0 : ByteArray} (h : spec_NameOk p0 = true) : clean (sbytes p0) ∧ p0.size ≤ 12 := by
  obtain ⟨h1, h2⟩ := NameOk_l1_t p0 _ _ (by omega) h
  refine ⟨⟨fun e => ?_, fun b hb => ?_⟩, h1.2⟩
  · have := congrArg List.length e
    rw [sbytes_length, List.length_nil] at this
    omega
  · obtain ⟨j, hj, rfl⟩ := mem_at hb
    exact h2 j (Nat.zero_le _) hj
theorem decDigits_dig : ∀ u : Nat, ∀ b ∈ Lib.decDigits u, 48 ≤ b.toNat ∧ b.toNat ≤ 57 := by
  intro u
  induction u using Nat.strongRecOn with
  | _ u ih =>
    have dg : ∀ d : Nat, d < 10 → 48 ≤ (UInt8.ofNat (48 + d)).toNat ∧ (UInt8.ofNat (48 + d)).toNat ≤ 57 := fun d hd => by
      have key : ∀ n : Fin 10, 48 ≤ (UInt8.ofNat (48 + n.val)).toNat ∧ (UInt8.ofNat (48 + n.val)).toNat ≤ 57 := by decide +kernel
      exact key ⟨d, hd⟩
    intro b hb
    rw [Lib.decDigits] at hb
    split at hb
    · rename_i h
      rw [List.mem_singleton] at hb
      subst hb
      exact dg u h
    · rw [List.mem_append, List.mem_singleton] at hb
      rcases hb with hb | hb
      · exact ih (u / 10) (by omega) b hb
      · subst hb
        exact dg (u % 10) (by omega)
theorem fits_nat {a : Int} (h : spec_l38Fits a = true) : ∃ u : Nat, a = (u : Int) ∧ u ≤ 1000000000 := by
  have := spec_l01In_t (a := a) (b := 0) (c := 1000000000) h
  exact ⟨a.toNat, by omega, by omega⟩
theorem dec_clean {a : Int} (h : spec_l38Fits a = true) : clean (sbytes (spec_Decimal a)) ∧ (spec_Decimal a).size ≤ 10 := by
  obtain ⟨u, rfl, hu⟩ := fits_nat h
  rw [Decimal_twin (by unfold I64; omega)]
  refine ⟨?_, dec_size hu⟩
  rw [dec_list]
  refine ⟨fun e => ?_, fun b hb => ?_⟩
  · have := congrArg List.length e
    rw [Lib.decDigits_length, List.length_nil] at this
    have h2 := Lib.nDigits_pos u
    omega
  · have := decDigits_dig u b hb
    omega
theorem encode_dig : ∀ (l : List UInt8), ∀ b ∈ Lib.Hx.encode l, 33 ≤ b.toNat ∧ b.toNat ≤ 126
  | [], b, hb => by cases hb
  | x :: l, b, hb => by
    have dg : ∀ d : Nat, d < 16 → 33 ≤ (Lib.Hx.digit d).toNat ∧ (Lib.Hx.digit d).toNat ≤ 126 := fun d hd => by
      have key : ∀ n : Fin 16, 33 ≤ (Lib.Hx.digit n.val).toNat ∧ (Lib.Hx.digit n.val).toNat ≤ 126 := by decide +kernel
      exact key ⟨d, hd⟩
    have hx := x.toNat_lt
    rw [Lib.Hx.encode_cons] at hb
    rcases List.mem_cons.1 hb with rfl | hb
    · exact dg _ (by omega)
    · rcases List.mem_cons.1 hb with rfl | hb
      · exact dg _ (by omega)
      · exact encode_dig l b hb
theorem hexText_clean {p0 : ByteArray} (h : p0.size ≤ 64) : clean (sbytes (hexText p0)) ∧ (hexText p0).size ≤ 128 := by
  unfold hexText
  by_cases e : (spec_Hex p0).1 = ⟨#[]⟩
  · rw [decide_eq_true e]
    have hd : clean (sbytes (⟨#[45]⟩ : ByteArray)) := clean_of (by decide +kernel) (by decide +kernel)
    exact ⟨hd, Nat.le_of_ble_eq_true rfl⟩
  · rw [decide_eq_false e]
    refine ⟨⟨fun e2 => e (congrArg toBA (show sbytes (spec_Hex p0).1 = [] from e2)), fun b hb => ?_⟩, spec_Hex_size h⟩
    show _ ≤ _ ∧ _
    have hb' : b ∈ sbytes (spec_Hex p0).1 := hb
    rw [spec_Hex_is (by omega), sbytes_hexEnc] at hb'
    exact encode_dig _ b hb'
def okB (l : List UInt8) : Prop := ∀ b ∈ l, 32 ≤ b.toNat ∧ b.toNat ≤ 126
theorem okB_app {v w : List UInt8} (h : okB v) (hw : clean w) : okB (v ++ 32 :: w) := fun b hb => by
  rcases List.mem_append.1 hb with hb | hb
  · exact h b hb
  · rcases List.mem_cons.1 hb with rfl | hb
    · decide
    · have := hw.2 b hb
      omega
theorem sp_list (v w : ByteArray) : sbytes ((v ++ (⟨#[32]⟩ : ByteArray)) ++ w) = sbytes v ++ 32 :: sbytes w := by
  rw [sbytes_app, sbytes_app, List.append_assoc]
  rfl
def lw (c : Call) (i n : Nat) : List ByteArray := (List.range' i n).map fun j => ftx c (byteAt (spec_l38Uses c.Kind) j)
structure Wd (c : Call) (v : ByteArray) (ws : List ByteArray) : Prop where
  f : fieldsS v = ws
  o : okB (sbytes v)
theorem Wd.add {c : Call} {v w : ByteArray} {ws : List ByteArray} (h : Wd c v ws) (hw : clean (sbytes w)) : Wd c ((v ++ (⟨#[32]⟩ : ByteArray)) ++ w) (ws ++ [w]) := by
  refine ⟨?_, ?_⟩
  · rw [fieldsS_toBA, sp_list, fieldsGo_app _ _ _ hw, List.map_append, ← fieldsS_toBA, h.f]
    rfl
  · rw [sp_list]
    exact okB_app h.o hw
theorem sp_size (v w : ByteArray) : ((v ++ (⟨#[32]⟩ : ByteArray)) ++ w).size = v.size + 1 + w.size := by
  rw [← sbytes_length, sp_list, List.length_append, List.length_cons, sbytes_length, sbytes_length]
  omega
theorem line_words {c : Call} (hk : 1 ≤ c.Kind ∧ c.Kind ≤ 22) (hx : c.Text.size ≤ 64) (hA : spec_l38Fits c.A = true) (hB : spec_l38Fits c.B = true) :
    ∀ n i v ws, i + n = (spec_l38Uses c.Kind).size → Wd c v ws → spec_CallLine_l1 c n v i = ⟨#[]⟩ ∨ (Wd c (spec_CallLine_l1 c n v i) (ws ++ lw c i n) ∧ (spec_CallLine_l1 c n v i).size ≤ v.size + 129 * n) := by
  have hu : ∀ i, i < (spec_l38Uses c.Kind).size → useB (byteAt (spec_l38Uses c.Kind) i) = true := fun i hi => by
    obtain ⟨m, hm⟩ := of22 hk
    rw [hm] at hi ⊢
    have h3 := spec_l38Uses_size ((m.val : Int) + 1)
    exact useB_22 m ⟨i, by omega⟩ hi
  intro n
  induction n with
  | zero =>
    intro i v ws h hw
    refine .inr ⟨?_, Nat.le_add_right _ _⟩
    show Wd c v (ws ++ [])
    rw [List.append_nil]
    exact hw
  | succ n ih =>
    intro i v ws h hw
    have go : ∀ w : ByteArray, clean (sbytes w) → w.size ≤ 128 → ftx c (byteAt (spec_l38Uses c.Kind) i) = w → spec_CallLine_l1 c (n + 1) v i = spec_CallLine_l1 c n ((v ++ (⟨#[32]⟩ : ByteArray)) ++ w) (i + 1) →
        spec_CallLine_l1 c (n + 1) v i = ⟨#[]⟩ ∨ (Wd c (spec_CallLine_l1 c (n + 1) v i) (ws ++ lw c i (n + 1)) ∧ (spec_CallLine_l1 c (n + 1) v i).size ≤ v.size + 129 * (n + 1)) := fun w h1 h2 h3 h4 => by
      rw [h4]
      rcases ih (i + 1) _ (ws ++ [w]) (by omega) (hw.add h1) with e | ⟨e1, e2⟩
      · exact .inl e
      · refine .inr ⟨?_, ?_⟩
        · have : lw c i (n + 1) = w :: lw c (i + 1) n := by
            unfold lw
            rw [List.range'_succ, List.map_cons, h3]
          rw [this]
          rw [List.append_assoc] at e1
          exact e1
        · rw [sp_size] at e2
          omega
    have hi := hu i (by omega)
    rw [spec_CallLine_l1] at *
    have hgo := go
    revert hgo
    generalize hf : byteAt (spec_l38Uses c.Kind) i = u at hi ⊢
    intro hgo
    simp only [useB, Bool.or_eq_true, beq_iff_eq] at hi
    rcases hi with (((rfl | rfl) | rfl) | rfl) | rfl
    · rw [show ((UInt8.toNat 110 : Nat) : Int) = 110 from rfl] at *
      cases hn : spec_NameOk c.Name with
      | false => exact .inl rfl
      | true => 
        rw [hn] at hgo
        exact hgo c.Name (NameOk_clean hn).1 (by have := (NameOk_clean hn).2; omega) rfl rfl
    · rw [show ((UInt8.toNat 116 : Nat) : Int) = 116 from rfl] at *
      cases hn : spec_NameOk c.To with
      | false => exact .inl rfl
      | true => 
        rw [hn] at hgo
        exact hgo c.To (NameOk_clean hn).1 (by have := (NameOk_clean hn).2; omega) rfl rfl
    · exact hgo (spec_Decimal c.A) (dec_clean hA).1 (by have := (dec_clean hA).2; omega) rfl rfl
    · exact hgo (spec_Decimal c.B) (dec_clean hB).1 (by have := (dec_clean hB).2; omega) rfl rfl
    · exact hgo (hexText c.Text) (hexText_clean hx).1 (hexText_clean hx).2 rfl rfl
theorem parts_of {p0 : ByteArray} (h1 : p0.size ≤ 600) (h2 : okB (sbytes p0)) : impl_PartsOf p0 = finW (fieldsS p0) := by
  unfold impl_PartsOf
  rw [decide_eq_false (show ¬ (p0.size : Int) > 600 by omega)]
  exact impl_parts_good p0 (fun j hj => h2 _ (by
    have hj' : j < (sbytes p0).length := by rw [sbytes_length]; exact hj
    rw [← sbytes_at hj']
    exact List.getElem_mem hj')) _ _ (by omega)
theorem CallLine_words (c : Call) (h : spec_CallLine c ≠ ⟨#[]⟩) : (1 ≤ c.Kind ∧ c.Kind ≤ 22) ∧ spec_PartsOf (spec_CallLine c) = (spec_CallName c.Kind :: lw c 0 (spec_l38Uses c.Kind).size, true) ∧ spec_CallOk c = true ∧ spec_Told c = c ∧ spec_l38Fits c.A = true ∧ spec_l38Fits c.B = true := by
  cases hb : (((!(spec_CallOk c)) || (!(decide ((spec_Told c) = c)))) || (!(spec_l38Fits c.A))) || (!(spec_l38Fits c.B)) with
  | true =>
    unfold spec_CallLine at h
    rw [hb] at h
    exact absurd rfl h
  | false =>
    have e : spec_CallLine c = spec_CallLine_l1 c ((spec_l38Uses c.Kind).size - 0) (spec_CallName c.Kind) 0 := by
      unfold spec_CallLine
      rw [hb]
      rfl
    simp only [Bool.or_eq_false_iff, Bool.not_eq_false', decide_eq_true_eq] at hb
    obtain ⟨⟨⟨hok, ht⟩, hA⟩, hB⟩ := hb
    obtain ⟨hk, h1, h2, h3⟩ := spec_CallOk_t hok
    refine ⟨hk, ?_, hok, ht, hA, hB⟩
    have hcl := name_clean hk
    have hw0 : Wd c (spec_CallName c.Kind) [spec_CallName c.Kind] := by
      refine ⟨?_, fun b hb => ?_⟩
      · rw [fieldsS_toBA, fieldsGo_clean _ _ hcl.2 (by simpa using hcl.1)]
        rfl
      · have := hcl.2 b hb
        omega
    rw [e] at h ⊢
    have hn := spec_CallName_size c.Kind
    have hu := spec_l38Uses_size c.Kind
    rcases line_words hk h3 hA hB ((spec_l38Uses c.Kind).size - 0) 0 _ _ (by omega) hw0 with h' | ⟨h', h''⟩
    · exact absurd h' h
    · rw [← PartsOf_twin, parts_of (by omega) h'.o, h'.f]
      unfold finW
      rw [decide_eq_false (by
        show ¬ ((([spec_CallName c.Kind] ++ lw c 0 ((spec_l38Uses c.Kind).size - 0)).length : Nat) : Int) > 12
        unfold lw
        rw [List.length_append, List.length_map, List.length_range', List.length_singleton]
        omega)]
      rfl
theorem CallLine_count (c : Call) : (spec_PartsOf (spec_CallLine c)).1 = [] ∨ (spec_PartsOf (spec_CallLine c)).1.length = (spec_l38Uses c.Kind).size + 1 := by
  by_cases h : spec_CallLine c = ⟨#[]⟩
  · rw [h]
    exact .inl rfl
  · rw [(CallLine_words c h).2.1]
    refine .inr ?_
    show (spec_CallName c.Kind :: lw c 0 (spec_l38Uses c.Kind).size).length = _
    unfold lw
    rw [List.length_cons, List.length_map, List.length_range']
/-! ## A call, read -/
theorem index_not (w : ByteArray) : ∀ n i, (∀ j, i ≤ j → j < i + n → w ≠ nth gl1 j) → slices_Index_string_l1 gl1 w n i = -1 := by
  intro n
  induction n with
  | zero => intro i _; rfl
  | succ n ih =>
    intro i h
    rw [slices_Index_string_l1, decide_eq_false (h i (Nat.le_refl _) (by omega)), ih (i + 1) (fun j h1 h2 => h j (by omega) (by omega))]
    rfl
def kindL (w : ByteArray) : Nat → Int → Nat → Int
  | 0, c, _ => c
  | n + 1, c, i => kindL w n (bif (decide ((spec_CallName (i : Int)) = w)) then (i : Int) else c) (i + 1)
theorem kindL_not (w : ByteArray) (h : ∀ j : Nat, 1 ≤ j → j ≤ 22 → spec_CallName (j : Int) ≠ w) : ∀ n i c, 1 ≤ i → i + n ≤ 23 → kindL w n c i = c := by
  intro n
  induction n with
  | zero => intro i c _ _; rfl
  | succ n ih =>
    intro i c h1 h2
    rw [kindL, decide_eq_false (h i h1 (by omega)), ih (i + 1) _ (by omega) (by omega)]
    rfl
theorem kind_22 : ∀ n : Fin 22, kindL (nth gl1 n.val) 22 0 1 = (n.val : Int) + 1 ∧ IntKind.i64.wrap (1 + slices_Index_string gl1 (nth gl1 n.val)) = (n.val : Int) + 1 := by decide +kernel
theorem kind_twin (w : ByteArray) : kindL w 22 0 1 = IntKind.i64.wrap (1 + slices_Index_string gl1 w) ∧ 0 ≤ kindL w 22 0 1 ∧ kindL w 22 0 1 ≤ 22 := by
  by_cases h : ∃ n : Fin 22, nth gl1 n.val = w
  · obtain ⟨n, rfl⟩ := h
    rw [(kind_22 n).1, (kind_22 n).2]
    have := n.isLt
    exact ⟨rfl, by omega, by omega⟩
  · have h' : ∀ j, j < 22 → nth gl1 j ≠ w := fun j hj e => h ⟨⟨j, hj⟩, e⟩
    rw [kindL_not w (fun j h1 h2 => ?_) 22 1 0 (Nat.le_refl _) (Nat.le_refl _)]
    · have : slices_Index_string gl1 w = -1 := index_not w _ 0 fun j _ hj => (h' j (by rw [Nat.zero_add] at hj; exact hj)).symm
      rw [this]
      exact ⟨rfl, by omega, by omega⟩
    · have := names_22 ⟨j - 1, by omega⟩
      rw [show (((⟨j - 1, by omega⟩ : Fin 22).val : Nat) : Int) + 1 = (j : Int) by show ((j - 1 : Nat) : Int) + 1 = _; omega] at this
      rw [this]
      exact h' _ (by show j - 1 < 22; omega)
theorem spec_l1_kind (p0 : List ByteArray) : ∀ n c i, spec_ReadCall_l1 p0 n c i = spec_ReadCall_l1 p0 0 (kindL (nth p0 0) n c i) (i + n) := by
  intro n
  induction n with
  | zero => intro c i; rfl
  | succ n ih =>
    intro c i
    show spec_ReadCall_l1 p0 n (bif (decide ((spec_CallName (i : Int)) = (nth p0 0))) then (i : Int) else c) (i + 1) = _
    rw [ih, show i + 1 + n = i + (n + 1) by omega]
    rfl
def C0 : Call := Call.mk 0 ⟨#[]⟩ ⟨#[]⟩ 0 0 ⟨#[]⟩
def finRC (p0 : List ByteArray) (c : Call) : Call × Bool := bif (!((spec_PartsOf (spec_CallLine c)).2)) || (!(spec_l03Same ((spec_PartsOf (spec_CallLine c)).1) p0)) then (C0, false) else (c, true)
def kC (p0 : List ByteArray) (K : Int) (e : ByteArray × ByteArray × Int × Int × ByteArray) : Call × Bool := finRC p0 (Call.mk K e.1 e.2.1 e.2.2.1 e.2.2.2.1 e.2.2.2.2)
theorem spec_l1_zero (p0 : List ByteArray) (K : Int) (i : Nat) : spec_ReadCall_l1 p0 0 K i = spec_ReadCall_l2 p0 K i (kC p0 K) ((spec_l38Uses K).size - 0) ⟨#[]⟩ ⟨#[]⟩ 0 0 ⟨#[]⟩ 0 := rfl
theorem spec_l2_any (p0 : List ByteArray) (K : Int) (i0 : Nat) (k : (ByteArray × ByteArray × Int × Int × ByteArray) → Call × Bool) : ∀ n a b c d e i, ∃ x, spec_ReadCall_l2 p0 K i0 k n a b c d e i = k x := by
  intro n
  induction n with
  | zero => intro a b c d e i; exact ⟨_, rfl⟩
  | succ n ih =>
    intro a b c d e i
    rw [spec_ReadCall_l2]
    cases (decide ((i : Int) < ((spec_l38Uses K).size : Int))) && (decide ((IntKind.i64.wrap ((i : Int) + 1)) < (p0.length : Int))) with
    | true => exact ih _ _ _ _ _ _
    | false => exact ⟨_, rfl⟩
theorem same_len {a b : List ByteArray} (h : a.length ≠ b.length) : spec_l03Same a b = false := by
  unfold spec_l03Same
  rw [decide_eq_false (show ¬ (a.length : Int) = (b.length : Int) by omega)]
  rfl
theorem finC_len {p0 : List ByteArray} {c : Call} (hp : p0.length ≠ 0) (h : p0.length ≠ (spec_l38Uses c.Kind).size + 1) : finRC p0 c = (C0, false) := by
  unfold finRC
  rw [same_len (a := (spec_PartsOf (spec_CallLine c)).1) (b := p0) ?_]
  · rw [Bool.not_false, Bool.or_true]
    rfl
  · rcases CallLine_count c with e | e
    · rw [e]
      exact fun e2 => hp e2.symm
    · rw [e]
      exact fun e2 => h e2.symm
theorem Equal_twin (a b : List ByteArray) : slices_Equal_string a b = spec_l03Same a b := by
  have key : ∀ n i, slices_Equal_string_l1 a b n i = spec_l03Same_l1 a b n i := by
    intro n
    induction n with
    | zero => intro i; rfl
    | succ n ih => intro i; rw [slices_Equal_string_l1, spec_l03Same_l1, ih]
  unfold slices_Equal_string spec_l03Same
  rw [key]
theorem parts_false {x : ByteArray} (h : (spec_PartsOf x).2 = false) : (spec_PartsOf x).1 = [] := by
  rw [← PartsOf_twin] at h ⊢
  by_cases h1 : x.size ≤ 600
  · by_cases h2 : okB (sbytes x)
    · rw [parts_of h1 h2] at h ⊢
      unfold finW at h ⊢
      cases hc : decide (((fieldsS x).length : Int) > 12) with
      | true => rfl
      | false =>
        rw [hc] at h
        cases h
    · have : ∃ j, j < x.size ∧ ¬ (32 ≤ (byteAt x j).toNat ∧ (byteAt x j).toNat ≤ 126) := by
        refine Classical.byContradiction fun hn => h2 fun b hb => ?_
        obtain ⟨j, hj, rfl⟩ := mem_at hb
        exact Classical.byContradiction fun hh => hn ⟨j, hj, hh⟩
      obtain ⟨j, hj, hbad⟩ := this
      unfold impl_PartsOf
      rw [decide_eq_false (show ¬ (x.size : Int) > 600 by omega)]
      show (impl_PartsOf_l1 x (x.size - 0) 0).1 = []
      rw [impl_parts_bad x hj hbad _ _ (by omega) (Nat.zero_le _)]
  · unfold impl_PartsOf
    rw [decide_eq_true (show (x.size : Int) > 600 by omega)]
    rfl
theorem fin_twin {p0 : List ByteArray} {c : Call} (hg : Dat.good c) (hp : p0.length ≠ 0) : (bif !(slices_Equal_string ((impl_PartsOf (impl_CallLine c)).1) p0) then (C0, false) else (c, true)) = finRC p0 c := by
  unfold finRC
  rw [CallLine_twin hg, PartsOf_twin, Equal_twin]
  cases h : (spec_PartsOf (spec_CallLine c)).2 with
  | true => rfl
  | false =>
    rw [parts_false h, same_len (a := []) (b := p0) (fun e => hp e.symm)]
    rfl
theorem set_N (c : Call) (w : ByteArray) : impl_Call_setField c 78 w = ⟨c.Kind, w, c.To, c.A, c.B, c.Text⟩ := rfl
theorem set_T (c : Call) (w : ByteArray) : impl_Call_setField c 84 w = ⟨c.Kind, c.Name, w, c.A, c.B, c.Text⟩ := rfl
theorem set_A (c : Call) (w : ByteArray) : impl_Call_setField c 65 w = ⟨c.Kind, c.Name, c.To, (impl_ReadDecimal w).1, c.B, c.Text⟩ := rfl
theorem set_B (c : Call) (w : ByteArray) : impl_Call_setField c 66 w = ⟨c.Kind, c.Name, c.To, c.A, (impl_ReadDecimal w).1, c.Text⟩ := rfl
theorem set_X (c : Call) (w : ByteArray) : impl_Call_setField c 88 w = ⟨c.Kind, c.Name, c.To, c.A, c.B, (impl_Unhex w).1⟩ := rfl
theorem num_in {p0 : List ByteArray} {i : Nat} (h : i < p0.length) : spec_l38Num p0 (i : Int) = (spec_ReadDecimal (nth p0 i)).1 := by
  unfold spec_l38Num
  rw [decide_eq_false (show ¬ (i : Int) ≥ (p0.length : Int) by omega)]
  rfl
theorem uses_K {K : Int} (h : 0 ≤ K ∧ K ≤ 22) : (impl_fieldsOf K).size = (spec_l38Uses K).size ∧ ∀ i, i < (spec_l38Uses K).size → relB (byteAt (impl_fieldsOf K) i) (byteAt (spec_l38Uses K) i) = true := by
  rcases Int.lt_or_le 0 K with h1 | h1
  · obtain ⟨m, hm⟩ := of22 (k := K) (by omega)
    rw [hm]
    refine ⟨(uses_22 m).1, fun i hi => ?_⟩
    have h3 := spec_l38Uses_size ((m.val : Int) + 1)
    exact (uses_22 m).2 ⟨i, by omega⟩ hi
  · obtain rfl : K = 0 := by omega
    have hz : (spec_l38Uses 0).size = 0 := by decide +kernel
    exact ⟨by rw [hz]; decide +kernel, fun i hi => by omega⟩
theorem read_twin {p0 : List ByteArray} {K : Int} (hK : IntKind.i64.wrap (1 + slices_Index_string gl1 (nth p0 0)) = K) (hk : 0 ≤ K ∧ K ≤ 22) (hg : Dat.good p0) (hlen : p0.length = (spec_l38Uses K).size + 1) (i0 : Nat) :
    ∀ n i a b c d e, i + n = (spec_l38Uses K).size → Dat.good (Call.mk K a b c d e) → impl_ReadCall_l1 p0 n K a b c d e i = spec_ReadCall_l2 p0 K i0 (kC p0 K) n a b c d e i := by
  have hu := spec_l38Uses_size K
  intro n
  induction n with
  | zero =>
    intro i a b c d e _ hgc
    exact fin_twin hgc (by omega)
  | succ n ih =>
    intro i a b c d e h hgc
    have hgs := fun f : Int => impl_Call_setField_good (p0 := Call.mk K a b c d e) (p1 := f) (p2 := nth p0 (i + 1)) hgc (good_nths hg (i + 1))
    have hi := (uses_K hk).2 i (by omega)
    rw [impl_ReadCall_l1, spec_ReadCall_l2, hK, IntWalk.i64_in ((i : Int) + 1) (by omega), decide_eq_true (show (i : Int) < ((spec_l38Uses K).size : Int) by omega), decide_eq_true (show (i : Int) + 1 < (p0.length : Int) by omega), num_in (show i + 1 < p0.length by omega)]
    generalize byteAt (impl_fieldsOf K) i = f at hi ⊢
    generalize byteAt (spec_l38Uses K) i = u at hi ⊢
    simp only [relB, Bool.or_eq_true, Bool.and_eq_true, beq_iff_eq] at hi
    rcases hi with (((⟨rfl, rfl⟩ | ⟨rfl, rfl⟩) | ⟨rfl, rfl⟩) | ⟨rfl, rfl⟩) | ⟨rfl, rfl⟩
    · have := hgs 78
      rw [set_N] at this
      exact ih (i + 1) _ _ _ _ _ (by omega) this
    · have := hgs 84
      rw [set_T] at this
      exact ih (i + 1) _ _ _ _ _ (by omega) this
    · have := hgs 65
      rw [set_A] at this
      rw [show ((UInt8.toNat 65 : Nat) : Int) = 65 from rfl, set_A, ← ReadDecimal_twin]
      exact ih (i + 1) _ _ _ _ _ (by omega) this
    · have := hgs 66
      rw [set_B] at this
      rw [show ((UInt8.toNat 66 : Nat) : Int) = 66 from rfl, set_B, ← ReadDecimal_twin]
      exact ih (i + 1) _ _ _ _ _ (by omega) this
    · have := hgs 88
      rw [set_X] at this
      rw [show ((UInt8.toNat 88 : Nat) : Int) = 88 from rfl, set_X, ← Unhex_twin]
      exact ih (i + 1) _ _ _ _ _ (by omega) this
theorem good_C0 {K : Int} (hk : 0 ≤ K ∧ K ≤ 22) : Dat.good (Call.mk K ⟨#[]⟩ ⟨#[]⟩ 0 0 ⟨#[]⟩) := ⟨by unfold Dat.good; simp [instDatInt]; unfold I64; omega, Nat.zero_le _, Nat.zero_le _, gi 0, gi 0, Nat.zero_le _⟩
theorem ReadCall_twin {p0 : List ByteArray} (hg : Dat.good p0) (hl : p0.length ≤ 1048576) : impl_ReadCall p0 = spec_ReadCall p0 := by
  unfold impl_ReadCall spec_ReadCall
  by_cases h0 : p0.length = 0
  · rw [decide_eq_true (show (p0.length : Int) = 0 by omega)]
    rfl
  · rw [decide_eq_false (show ¬ (p0.length : Int) = 0 by omega), spec_l1_kind, spec_l1_zero]
    obtain ⟨hk1, hk2⟩ := kind_twin (nth p0 0)
    rw [show 23 - 1 = 22 from rfl, ← hk1]
    simp only [cond_false]
    generalize kindL (nth p0 0) 22 0 1 = K at hk1 hk2 ⊢
    rw [(uses_K hk2).1, IntWalk.i64_in ((p0.length : Int) - 1) (by omega)]
    by_cases hlen : p0.length = (spec_l38Uses K).size + 1
    · rw [decide_eq_true (show ((spec_l38Uses K).size : Int) = (p0.length : Int) - 1 by omega)]
      exact read_twin hk1.symm hk2 hg hlen _ _ _ _ _ _ _ _ (by omega) (good_C0 hk2)
    · rw [decide_eq_false (show ¬ ((spec_l38Uses K).size : Int) = (p0.length : Int) - 1 by omega)]
      obtain ⟨x, hx⟩ := spec_l2_any p0 K (1 + 22) (kC p0 K) ((spec_l38Uses K).size - 0) ⟨#[]⟩ ⟨#[]⟩ 0 0 ⟨#[]⟩ 0
      rw [hx]
      unfold kC
      rw [finC_len h0 hlen]
      rfl

/-! ## A call comes back from its line -/
/-- A field of what is being read: as it was told, or its letter has not come yet. -/
def fo {α : Type} (c : Call) (x y z : α) (u : UInt8) (i : Nat) : Prop := x = y ∨ (x = z ∧ ∀ j, j < i → byteAt (spec_l38Uses c.Kind) j ≠ u)
theorem fo.keep {α : Type} {c : Call} {x y z : α} {u : UInt8} {i : Nat} (h : fo c x y z u i) (hi : byteAt (spec_l38Uses c.Kind) i ≠ u) : fo c x y z u (i + 1) := by
  rcases h with h | ⟨h1, h2⟩
  · exact .inl h
  · refine .inr ⟨h1, fun j hj => ?_⟩
    by_cases e : j = i
    · rw [e]
      exact hi
    · exact h2 j (by omega)
structure Rd (c d : Call) (i : Nat) : Prop where
  k : d.Kind = c.Kind
  n : fo c d.Name c.Name ⟨#[]⟩ 110 i
  t : fo c d.To c.To ⟨#[]⟩ 116 i
  a : fo c d.A c.A 0 97 i
  b : fo c d.B c.B 0 98 i
  x : fo c d.Text c.Text ⟨#[]⟩ 120 i
theorem same_refl (ws : List ByteArray) : slices_Equal_string ws ws = true := by
  have key : ∀ n i, slices_Equal_string_l1 ws ws n i = true := by
    intro n
    induction n with
    | zero => intro i; rfl
    | succ n ih =>
      intro i
      rw [slices_Equal_string_l1, decide_eq_true rfl, ih]
      rfl
  unfold slices_Equal_string
  rw [decide_eq_true rfl]
  exact key _ _
/-! ## A line is told -/
def cxy (k A B : Int) : Call := Call.mk k ⟨#[120]⟩ ⟨#[121]⟩ A B ⟨#[97, 98]⟩
def named (k A B : Int) (i : Nat) : Bool := (bif byteAt (spec_l38Uses k) i == 110 then spec_NameOk (spec_Told (cxy k A B)).Name else true) && (bif byteAt (spec_l38Uses k) i == 116 then spec_NameOk (spec_Told (cxy k A B)).To else true)
end Go.Proofs.YtnjidaonbcbphaaGreatDoor.Fw

/- Contracts: each call returns what the model says. By program (wip/am/gen2.py). -/
namespace Go.Proofs.YtnjidaonbcbphaaGreatDoor.Fw
open Go.RowKit
set_option linter.unusedVariables false
set_option maxRecDepth 100000

theorem fok36 : FnOk Tryz.prog 36 := ⟨_, Tryz.func36, rfl, by kernel_rfl⟩
theorem fok37 : FnOk Tryz.prog 37 := ⟨_, Tryz.func37, rfl, by kernel_rfl⟩
theorem fok81 : FnOk Tryz.prog 81 := ⟨_, Tryz.func81, rfl, by kernel_rfl⟩
theorem fok82 : FnOk Tryz.prog 82 := ⟨_, Tryz.func82, rfl, by kernel_rfl⟩
theorem fok104 : FnOk Tryz.prog 104 := ⟨_, Tryz.func104, rfl, by kernel_rfl⟩
theorem fok105 : FnOk Tryz.prog 105 := ⟨_, Tryz.func105, rfl, by kernel_rfl⟩
theorem eqt56 : ∀ (d : Nat) (x y : Deed) (w : World), (Op.equalIn (d + 10) 56 (.agg [.int .i64 x.Kind, .int .i64 x.N, .int .i64 x.M, .int .i64 x.Call.Kind, .string x.Call.Name, .string x.Call.To, .int .i64 x.Call.A, .int .i64 x.Call.B, .string x.Call.Text].toArray) (.agg [.int .i64 y.Kind, .int .i64 y.N, .int .i64 y.M, .int .i64 y.Call.Kind, .string y.Call.Name, .string y.Call.To, .int .i64 y.Call.A, .int .i64 y.Call.B, .string y.Call.Text].toArray)).run Tryz.prog w = .ok (decide (x = y)) w := by
  intro d x y w
  have u3 := Tryz.underlying3
  have a3 := Tryz.isAgg3
  have z3 := Tryz.sizeOf3
  have u9 := Tryz.underlying9
  have a9 := Tryz.isAgg9
  have z9 := Tryz.sizeOf9
  have u54 := Tryz.underlying54
  have a54 := Tryz.isAgg54
  have z54 := Tryz.sizeOf54
  have hS : Tryz.prog.underlying 56 = some (.struct (Tryz.prog.fieldsOf 56)) := by kernel_rfl
  have hp : Tryz.prog.stoodInHeld 56 = false := by kernel_rfl
  rw [run_equalIn_agg w (d + 9) 56 _ _ hS hp]
  simp only [Program.fieldsOf, Tryz.underlying56]
  obtain ⟨z1, z2, z3, ⟨z4, z5, z6, z7, z8, z9⟩⟩ := x
  obtain ⟨z10, z11, z12, ⟨z13, z14, z15, z16, z17, z18⟩⟩ := y
  go_simp
  simp only [bt_inj]
  repeat' split
  all_goals simp_all
theorem eqp56 (x y : Deed) : eqP Tryz.prog 56 [.int .i64 x.Kind, .int .i64 x.N, .int .i64 x.M, .int .i64 x.Call.Kind, .string x.Call.Name, .string x.Call.To, .int .i64 x.Call.A, .int .i64 x.Call.B, .string x.Call.Text] [.int .i64 y.Kind, .int .i64 y.N, .int .i64 y.M, .int .i64 y.Call.Kind, .string y.Call.Name, .string y.Call.To, .int .i64 y.Call.A, .int .i64 y.Call.B, .string y.Call.Text] (decide (x = y)) := ⟨by kernel_rfl, fun w => eqt56 9990 x y w⟩
/- F81 loop.example/g00974/impl.actFields -/
def impl_actFields (p0 : Int) : ByteArray := bif (decide (p0 = 1)) || ((decide (p0 = 3)) || ((decide (p0 = 5)) || ((decide (p0 = 6)) || ((decide (p0 = 11)) || (decide (p0 = 12)))))) then ⟨#[78]⟩ else (bif decide (p0 = 4) then ⟨#[78, 77]⟩ else (bif (decide (p0 = 2)) || (decide (p0 = 7)) then ⟨#[78, 67]⟩ else ⟨#[]⟩))
theorem c_impl_actFields (p0 : Int) : CTs 81 [.o (.c (.int .i64 p0))] [Re.c (.string (impl_actFields p0))] := by
  refine en Tryz.func81 Tryz.ntmps81 fun w hG hgd => ?_
  have hM := impl_actFields.eq_1 p0
  refine ad 16 ?_
  refine Run.mid ⟨16, 0, [(3, .v (.int .i64 p0)), (4, .v (.bool ((decide (p0 = 1)) || ((decide (p0 = 3)) || ((decide (p0 = 5)) || ((decide (p0 = 6)) || ((decide (p0 = 11)) || (decide (p0 = 12)))))))))], []⟩ ?_ ?_
  · refine cd (fun h1 => ?_) (fun h1 => ?_)
    ·
      refine ad 1 ?_
      exact Run.at [] [] (by first | exact su | (rw [h1]; exact su)) (by decide)
    ·
      refine ad 5 ?_
      refine Run.mid ⟨16, 0, [(3, .v (.int .i64 p0)), (4, .v (.bool ((decide (p0 = 3)) || ((decide (p0 = 5)) || ((decide (p0 = 6)) || ((decide (p0 = 11)) || (decide (p0 = 12))))))))], []⟩ ?_ ?_
      · refine cd (fun h2 => ?_) (fun h2 => ?_)
        ·
          refine ad 1 ?_
          exact Run.at [] [] (by first | exact su | (rw [h2]; exact su)) (by decide)
        ·
          refine ad 5 ?_
          refine Run.mid ⟨16, 0, [(3, .v (.int .i64 p0)), (4, .v (.bool ((decide (p0 = 5)) || ((decide (p0 = 6)) || ((decide (p0 = 11)) || (decide (p0 = 12)))))))], []⟩ ?_ ?_
          · refine cd (fun h3 => ?_) (fun h3 => ?_)
            ·
              refine ad 1 ?_
              exact Run.at [] [] (by first | exact su | (rw [h3]; exact su)) (by decide)
            ·
              refine ad 5 ?_
              refine Run.mid ⟨16, 0, [(3, .v (.int .i64 p0)), (4, .v (.bool ((decide (p0 = 6)) || ((decide (p0 = 11)) || (decide (p0 = 12))))))], []⟩ ?_ ?_
              · refine cd (fun h4 => ?_) (fun h4 => ?_)
                ·
                  refine ad 1 ?_
                  exact Run.at [] [] (by first | exact su | (rw [h4]; exact su)) (by decide)
                ·
                  refine ad 5 ?_
                  refine Run.mid ⟨16, 0, [(3, .v (.int .i64 p0)), (4, .v (.bool ((decide (p0 = 11)) || (decide (p0 = 12)))))], []⟩ ?_ ?_
                  · refine cd (fun h5 => ?_) (fun h5 => ?_)
                    ·
                      refine ad 1 ?_
                      exact Run.at [] [] (by first | exact su | (rw [h5]; exact su)) (by decide)
                    ·
                      refine ad 4 ?_
                      exact Run.at [] [] (by first | exact su | (rw [h5]; exact su)) (by decide)
                  exact Run.at [] [] (by first | exact su | (rw [h4]; exact su)) (by decide)
              exact Run.at [] [] (by first | exact su | (rw [h3]; exact su)) (by decide)
          exact Run.at [] [] (by first | exact su | (rw [h2]; exact su)) (by decide)
      exact Run.at [] [] (by first | exact su | (rw [h1]; exact su)) (by decide)
  refine cd (fun h6 => ?_) (fun h6 => ?_)
  ·
    have hM := hM.trans (bt h6)
    refine ad 4 ?_
    exact rz (rs := [.tmp 2]) (congrArg (fun x => [Re.c (.string x)]) hM)
  ·
    have hM := hM.trans (bf h6)
    refine ad 5 ?_
    refine cd (fun h7 => ?_) (fun h7 => ?_)
    ·
      have hM := hM.trans (bt h7)
      refine ad 4 ?_
      exact rz (rs := [.tmp 2]) (congrArg (fun x => [Re.c (.string x)]) hM)
    ·
      have hM := hM.trans (bf h7)
      refine ad 6 ?_
      refine Run.mid ⟨16, 0, [(13, .v (.bool ((decide (p0 = 2)) || (decide (p0 = 7)))))], []⟩ ?_ ?_
      · refine cd (fun h8 => ?_) (fun h8 => ?_)
        ·
          refine ad 1 ?_
          exact Run.at [] [] (by first | exact su | (rw [h8]; exact su)) (by decide)
        ·
          refine ad 4 ?_
          exact Run.at [] [] (by first | exact su | (rw [h8]; exact su)) (by decide)
      refine cd (fun h9 => ?_) (fun h9 => ?_)
      ·
        have hM := hM.trans (bt h9)
        refine ad 4 ?_
        exact rz (rs := [.tmp 2]) (congrArg (fun x => [Re.c (.string x)]) hM)
      ·
        have hM := hM.trans (bf h9)
        refine ad 6 ?_
        exact rz (rs := [.tmp 2]) (congrArg (fun x => [Re.c (.string x)]) hM)
theorem asc_impl_actFields (p0 : Int) : ascii (impl_actFields p0) := by
  unfold impl_actFields
  repeat' (first | refine asc_bif ?_ ?_ | exact ascii_of (by decide +kernel))
theorem impl_actFields_size (p0 : Int) : (impl_actFields p0).size ≤ 2 := by
  unfold impl_actFields
  repeat' (first | refine szb ?_ ?_ | exact Nat.le_of_ble_eq_true rfl)

/- F82 loop.example/g00974/impl.ActOk -/
def impl_ActOk (p0 : Deed) : Bool := (impl_within p0.Kind 1 12)
theorem c_impl_ActOk (p0 : Deed) : CTs 82 [.o (.st Deed _ inferInstance p0)] [Re.c (.bool (impl_ActOk p0))] := by
  refine en Tryz.func82 Tryz.ntmps82 fun w hG hgd => ?_
  obtain ⟨hg_p0, _⟩ := hgd
  have hM := impl_ActOk.eq_1 p0
  refine ad 9 ?_
  refine op (cl (k_impl_within p0.Kind 1 12) fok83) ?_
  refine ad 2 ?_
  exact rz (rs := [.tmp 2]) (congrArg (fun x => [Re.c (.bool x)]) hM)
theorem impl_ActOk_t {p0 : Deed} (h : impl_ActOk p0 = true) : 1 ≤ p0.Kind ∧ p0.Kind ≤ 12 := impl_within_t h

/- F104 loop.example/g00974/spec.ActOk -/
def spec_ActOk (p0 : Deed) : Bool := (spec_l01In p0.Kind 1 12)
theorem c_spec_ActOk (p0 : Deed) : CTs 104 [.o (.st Deed _ inferInstance p0)] [Re.c (.bool (spec_ActOk p0))] := by
  refine en Tryz.func104 Tryz.ntmps104 fun w hG hgd => ?_
  obtain ⟨hg_p0, _⟩ := hgd
  have hM := spec_ActOk.eq_1 p0
  refine ad 9 ?_
  refine op (cl (k_spec_l01In p0.Kind 1 12) fok110) ?_
  refine ad 2 ?_
  exact rz (rs := [.tmp 2]) (congrArg (fun x => [Re.c (.bool x)]) hM)
theorem spec_ActOk_t {p0 : Deed} (h : spec_ActOk p0 = true) : 1 ≤ p0.Kind ∧ p0.Kind ≤ 12 := spec_l01In_t h

/- F36 loop.example/g00974/impl.ActName -/
def impl_ActName (p0 : Int) : ByteArray := bif !(impl_within p0 1 12) then ⟨#[63]⟩ else (nth gl0 ((IntKind.i64.wrap (p0 - 1)).toNat))
theorem c_impl_ActName (p0 : Int) : CTs 36 [.o (.c (.int .i64 p0))] [Re.c (.string (impl_ActName p0))] := by
  refine en Tryz.func36 Tryz.ntmps36 fun w hG hgd => ?_
  have hM := impl_ActName.eq_1 p0
  refine ad 8 ?_
  refine op (cl (k_impl_within p0 1 12) fok83) ?_
  refine ad 2 ?_
  refine cd (fun h1 => ?_) (fun h1 => ?_)
  ·
    have hM := hM.trans (bt h1)
    refine ad 4 ?_
    exact rz (rs := [.tmp 2]) (congrArg (fun x => [Re.c (.string x)]) hM)
  ·
    have hM := hM.trans (bf h1)
    have th1 := impl_within_t (by simpa using h1)
    refine ad 5 ?_
    refine op (gx (len := 12) (e := 9) Value.string gl0 ((IntKind.i64.wrap (p0 - 1)).toNat) Gl0 (show ((IntKind.i64.wrap (p0 - 1)).toNat) < 12 from om) (hi := om)) ?_
    refine ad 3 ?_
    exact rz (rs := [.tmp 2]) (congrArg (fun x => [Re.c (.string x)]) hM)
theorem impl_ActName_size (p0 : Int) : (impl_ActName p0).size ≤ 10 := by
  unfold impl_ActName
  exact szb (Nat.le_of_ble_eq_true rfl) (nth_szs (by decide) _)

/- F37 loop.example/g00974/spec.ActName -/
def spec_ActName (p0 : Int) : ByteArray := bif !(spec_l01In p0 1 12) then ⟨#[63]⟩ else (nth ([⟨#[]⟩, ⟨#[98, 101, 103, 105, 110]⟩, ⟨#[97, 115, 107]⟩, ⟨#[109, 97, 114, 107]⟩, ⟨#[98, 97, 99, 107]⟩, ⟨#[100, 114, 111, 112]⟩, ⟨#[99, 111, 109, 109, 105, 116]⟩, ⟨#[112, 108, 97, 105, 110]⟩, ⟨#[102, 108, 117, 115, 104]⟩, ⟨#[102, 111, 108, 100]⟩, ⟨#[102, 111, 108, 100, 101, 100]⟩, ⟨#[102, 97, 108, 108]⟩, ⟨#[114, 101, 116, 114, 121]⟩] : List ByteArray) p0.toNat)
theorem c_spec_ActName (p0 : Int) : CTs 37 [.o (.c (.int .i64 p0))] [Re.c (.string (spec_ActName p0))] := by
  refine en Tryz.func37 Tryz.ntmps37 fun w hG hgd => ?_
  have hM := spec_ActName.eq_1 p0
  refine ad 8 ?_
  refine op (cl (k_spec_l01In p0 1 12) fok110) ?_
  refine ad 2 ?_
  refine cd (fun h1 => ?_) (fun h1 => ?_)
  ·
    have hM := hM.trans (bt h1)
    refine ad 4 ?_
    exact rz (rs := [.tmp 2]) (congrArg (fun x => [Re.c (.string x)]) hM)
  ·
    have hM := hM.trans (bf h1)
    have th1 := spec_l01In_t (by simpa using h1)
    refine ad 5 ?_
    refine li 0 (d := instDatByteArray) ([⟨#[]⟩, ⟨#[98, 101, 103, 105, 110]⟩, ⟨#[97, 115, 107]⟩, ⟨#[109, 97, 114, 107]⟩, ⟨#[98, 97, 99, 107]⟩, ⟨#[100, 114, 111, 112]⟩, ⟨#[99, 111, 109, 109, 105, 116]⟩, ⟨#[112, 108, 97, 105, 110]⟩, ⟨#[102, 108, 117, 115, 104]⟩, ⟨#[102, 111, 108, 100]⟩, ⟨#[102, 111, 108, 100, 101, 100]⟩, ⟨#[102, 97, 108, 108]⟩, ⟨#[114, 101, 116, 114, 121]⟩] : List ByteArray) ?_
    refine fz 0 ?_
    refine op (ix (xs := ([⟨#[]⟩, ⟨#[98, 101, 103, 105, 110]⟩, ⟨#[97, 115, 107]⟩, ⟨#[109, 97, 114, 107]⟩, ⟨#[98, 97, 99, 107]⟩, ⟨#[100, 114, 111, 112]⟩, ⟨#[99, 111, 109, 109, 105, 116]⟩, ⟨#[112, 108, 97, 105, 110]⟩, ⟨#[102, 108, 117, 115, 104]⟩, ⟨#[102, 111, 108, 100]⟩, ⟨#[102, 111, 108, 100, 101, 100]⟩, ⟨#[102, 97, 108, 108]⟩, ⟨#[114, 101, 116, 114, 121]⟩] : List ByteArray)) p0.toNat (show p0.toNat < 13 from om) (hi := om)) ?_
    refine ad 3 ?_
    exact rz (rs := [.tmp 2]) (congrArg (fun x => [Re.c (.string x)]) hM)
theorem spec_ActName_size (p0 : Int) : (spec_ActName p0).size ≤ 10 := by
  unfold spec_ActName
  exact szb (Nat.le_of_ble_eq_true rfl) (nth_szs (by decide) _)

/- F105 loop.example/g00974/spec.l38Told -/
def spec_l38Told (p0 : Deed) : Deed := bif (decide (p0.Kind = 8)) || ((decide (p0.Kind = 9)) || (decide (p0.Kind = 10))) then (Deed.mk p0.Kind 0 0 (Call.mk 0 ⟨#[]⟩ ⟨#[]⟩ 0 0 ⟨#[]⟩)) else (Deed.mk p0.Kind p0.N (bif ((decide (p0.Kind = 2)) || (decide (p0.Kind = 7))) then 0 else (bif (decide (p0.Kind = 4)) then p0.M else 0)) (Call.mk (bif ((decide (p0.Kind = 2)) || (decide (p0.Kind = 7))) then p0.Call.Kind else 0) (bif ((decide (p0.Kind = 2)) || (decide (p0.Kind = 7))) then p0.Call.Name else ⟨#[]⟩) (bif ((decide (p0.Kind = 2)) || (decide (p0.Kind = 7))) then p0.Call.To else ⟨#[]⟩) (bif ((decide (p0.Kind = 2)) || (decide (p0.Kind = 7))) then p0.Call.A else 0) (bif ((decide (p0.Kind = 2)) || (decide (p0.Kind = 7))) then p0.Call.B else 0) (bif ((decide (p0.Kind = 2)) || (decide (p0.Kind = 7))) then p0.Call.Text else ⟨#[]⟩)))
theorem c_spec_l38Told (p0 : Deed) : CTs 105 [.o (.st Deed _ inferInstance p0)] [Re.st Deed _ inferInstance (spec_l38Told p0)] := by
  refine en Tryz.func105 Tryz.ntmps105 fun w hG hgd => ?_
  obtain ⟨hg_p0, _⟩ := hgd
  have hM := spec_l38Told.eq_1 p0
  refine ad 26 ?_
  refine Run.mid ⟨29, 3, [(1, .pt 0 0), (2, .pt 1 0), (3, .pt 2 0), (8, .v (.int .i64 p0.Kind)), (9, .v (.bool ((decide (p0.Kind = 8)) || ((decide (p0.Kind = 9)) || (decide (p0.Kind = 10))))))], [(0, .var [.v (.int .i64 p0.Kind), .v (.int .i64 p0.N), .v (.int .i64 p0.M), .v (.int .i64 p0.Call.Kind), .v (.string p0.Call.Name), .v (.string p0.Call.To), .v (.int .i64 p0.Call.A), .v (.int .i64 p0.Call.B), .v (.string p0.Call.Text)] 56), (1, .var [.v (.int .i64 0), .v (.int .i64 0), .v (.int .i64 0), .v (.int .i64 0), .v (.string ⟨#[]⟩), .v (.string ⟨#[]⟩), .v (.int .i64 0), .v (.int .i64 0), .v (.string ⟨#[]⟩)] 56), (2, .var [.v (.int .i64 p0.Kind), .v (.int .i64 0), .v (.int .i64 0), .v (.int .i64 0), .v (.string ⟨#[]⟩), .v (.string ⟨#[]⟩), .v (.int .i64 0), .v (.int .i64 0), .v (.string ⟨#[]⟩)] 56)]⟩ ?_ ?_
  · refine cd (fun h1 => ?_) (fun h1 => ?_)
    ·
      refine ad 1 ?_
      exact Run.at [0, 1, 2] [2, 1, 0] (by first | exact su | (rw [h1]; exact su)) (by decide)
    ·
      refine ad 5 ?_
      refine Run.mid ⟨29, 3, [(1, .pt 0 0), (2, .pt 1 0), (3, .pt 2 0), (8, .v (.int .i64 p0.Kind)), (9, .v (.bool ((decide (p0.Kind = 9)) || (decide (p0.Kind = 10)))))], [(0, .var [.v (.int .i64 p0.Kind), .v (.int .i64 p0.N), .v (.int .i64 p0.M), .v (.int .i64 p0.Call.Kind), .v (.string p0.Call.Name), .v (.string p0.Call.To), .v (.int .i64 p0.Call.A), .v (.int .i64 p0.Call.B), .v (.string p0.Call.Text)] 56), (1, .var [.v (.int .i64 0), .v (.int .i64 0), .v (.int .i64 0), .v (.int .i64 0), .v (.string ⟨#[]⟩), .v (.string ⟨#[]⟩), .v (.int .i64 0), .v (.int .i64 0), .v (.string ⟨#[]⟩)] 56), (2, .var [.v (.int .i64 p0.Kind), .v (.int .i64 0), .v (.int .i64 0), .v (.int .i64 0), .v (.string ⟨#[]⟩), .v (.string ⟨#[]⟩), .v (.int .i64 0), .v (.int .i64 0), .v (.string ⟨#[]⟩)] 56)]⟩ ?_ ?_
      · refine cd (fun h2 => ?_) (fun h2 => ?_)
        ·
          refine ad 1 ?_
          exact Run.at [0, 1, 2] [2, 1, 0] (by first | exact su | (rw [h2]; exact su)) (by decide)
        ·
          refine ad 4 ?_
          exact Run.at [0, 1, 2] [2, 1, 0] (by first | exact su | (rw [h2]; exact su)) (by decide)
      exact Run.at [0, 1, 2] [0, 1, 2] (by first | exact su | (rw [h1]; exact su)) (by decide)
  refine cd (fun h3 => ?_) (fun h3 => ?_)
  ·
    have hM := hM.trans (bt h3)
    refine ad 5 ?_
    have hg4 : Dat.good (Deed.mk p0.Kind 0 0 (Call.mk 0 ⟨#[]⟩ ⟨#[]⟩ 0 0 ⟨#[]⟩) : Deed) := ⟨hg_p0.1, (gi 0), (gi 0), ⟨(gi 0), (gs ⟨#[]⟩), (gs ⟨#[]⟩), (gi 0), (gi 0), (gs ⟨#[]⟩)⟩⟩
    exact rz (rs := [.cell 2 56]) (congrArg (fun x => [Re.st Deed _ inferInstance x]) hM)
  ·
    have hM := hM.trans (bf h3)
    refine ad 6 ?_
    refine Run.mid ⟨29, 3, [(1, .pt 0 0), (2, .pt 1 0), (3, .pt 2 0), (8, .v (.int .i64 p0.Kind)), (14, .v (.bool ((decide (p0.Kind = 2)) || (decide (p0.Kind = 7)))))], [(0, .var [.v (.int .i64 p0.Kind), .v (.int .i64 p0.N), .v (.int .i64 p0.M), .v (.int .i64 p0.Call.Kind), .v (.string p0.Call.Name), .v (.string p0.Call.To), .v (.int .i64 p0.Call.A), .v (.int .i64 p0.Call.B), .v (.string p0.Call.Text)] 56), (1, .var [.v (.int .i64 0), .v (.int .i64 0), .v (.int .i64 0), .v (.int .i64 0), .v (.string ⟨#[]⟩), .v (.string ⟨#[]⟩), .v (.int .i64 0), .v (.int .i64 0), .v (.string ⟨#[]⟩)] 56), (2, .var [.v (.int .i64 p0.Kind), .v (.int .i64 0), .v (.int .i64 0), .v (.int .i64 0), .v (.string ⟨#[]⟩), .v (.string ⟨#[]⟩), .v (.int .i64 0), .v (.int .i64 0), .v (.string ⟨#[]⟩)] 56)]⟩ ?_ ?_
    · refine cd (fun h5 => ?_) (fun h5 => ?_)
      ·
        refine ad 1 ?_
        exact Run.at [0, 1, 2] [0, 1, 2] (by first | exact su | (rw [h5]; exact su)) (by decide)
      ·
        refine ad 4 ?_
        exact Run.at [0, 1, 2] [0, 1, 2] (by first | exact su | (rw [h5]; exact su)) (by decide)
    refine Run.mid ⟨29, 3, [(1, .pt 0 0), (2, .pt 1 0), (3, .pt 2 0)], [(0, .var [.v (.int .i64 p0.Kind), .v (.int .i64 p0.N), .v (.int .i64 p0.M), .v (.int .i64 p0.Call.Kind), .v (.string p0.Call.Name), .v (.string p0.Call.To), .v (.int .i64 p0.Call.A), .v (.int .i64 p0.Call.B), .v (.string p0.Call.Text)] 56), (1, .var [.v (.int .i64 0), .v (.int .i64 0), .v (.int .i64 0), .v (.int .i64 0), .v (.string ⟨#[]⟩), .v (.string ⟨#[]⟩), .v (.int .i64 0), .v (.int .i64 0), .v (.string ⟨#[]⟩)] 56), (2, .var [.v (.int .i64 p0.Kind), .v (.int .i64 0), .v (.int .i64 (bif ((decide (p0.Kind = 2)) || (decide (p0.Kind = 7))) then 0 else (bif (decide (p0.Kind = 4)) then p0.M else 0))), .v (.int .i64 (bif ((decide (p0.Kind = 2)) || (decide (p0.Kind = 7))) then p0.Call.Kind else 0)), .v (.string (bif ((decide (p0.Kind = 2)) || (decide (p0.Kind = 7))) then p0.Call.Name else ⟨#[]⟩)), .v (.string (bif ((decide (p0.Kind = 2)) || (decide (p0.Kind = 7))) then p0.Call.To else ⟨#[]⟩)), .v (.int .i64 (bif ((decide (p0.Kind = 2)) || (decide (p0.Kind = 7))) then p0.Call.A else 0)), .v (.int .i64 (bif ((decide (p0.Kind = 2)) || (decide (p0.Kind = 7))) then p0.Call.B else 0)), .v (.string (bif ((decide (p0.Kind = 2)) || (decide (p0.Kind = 7))) then p0.Call.Text else ⟨#[]⟩))] 56)]⟩ ?_ ?_
    · refine cd (fun h6 => ?_) (fun h6 => ?_)
      ·
        refine ad 6 ?_
        exact Run.at [0, 1, 2] [0, 1, 2] (by first | exact su | (rw [h6]; exact su)) (by decide)
      ·
        refine ad 5 ?_
        refine Run.mid ⟨29, 3, [(1, .pt 0 0), (2, .pt 1 0), (3, .pt 2 0)], [(0, .var [.v (.int .i64 p0.Kind), .v (.int .i64 p0.N), .v (.int .i64 p0.M), .v (.int .i64 p0.Call.Kind), .v (.string p0.Call.Name), .v (.string p0.Call.To), .v (.int .i64 p0.Call.A), .v (.int .i64 p0.Call.B), .v (.string p0.Call.Text)] 56), (1, .var [.v (.int .i64 0), .v (.int .i64 0), .v (.int .i64 0), .v (.int .i64 0), .v (.string ⟨#[]⟩), .v (.string ⟨#[]⟩), .v (.int .i64 0), .v (.int .i64 0), .v (.string ⟨#[]⟩)] 56), (2, .var [.v (.int .i64 p0.Kind), .v (.int .i64 0), .v (.int .i64 (bif (decide (p0.Kind = 4)) then p0.M else 0)), .v (.int .i64 0), .v (.string ⟨#[]⟩), .v (.string ⟨#[]⟩), .v (.int .i64 0), .v (.int .i64 0), .v (.string ⟨#[]⟩)] 56)]⟩ ?_ ?_
        · refine cd (fun h7 => ?_) (fun h7 => ?_)
          ·
            refine ad 6 ?_
            exact Run.at [0, 1, 2] [0, 1, 2] (by first | exact su | (rw [h7]; exact su)) (by decide)
          ·
            refine ad 1 ?_
            exact Run.at [0, 1, 2] [0, 1, 2] (by first | exact su | (rw [h7]; exact su)) (by decide)
        exact Run.at [0, 1, 2] [0, 1, 2] (by first | exact su | (rw [h6]; exact su)) (by decide)
    refine ad 13 ?_
    have hg8 : Dat.good (Deed.mk p0.Kind p0.N (bif ((decide (p0.Kind = 2)) || (decide (p0.Kind = 7))) then 0 else (bif (decide (p0.Kind = 4)) then p0.M else 0)) (Call.mk (bif ((decide (p0.Kind = 2)) || (decide (p0.Kind = 7))) then p0.Call.Kind else 0) (bif ((decide (p0.Kind = 2)) || (decide (p0.Kind = 7))) then p0.Call.Name else ⟨#[]⟩) (bif ((decide (p0.Kind = 2)) || (decide (p0.Kind = 7))) then p0.Call.To else ⟨#[]⟩) (bif ((decide (p0.Kind = 2)) || (decide (p0.Kind = 7))) then p0.Call.A else 0) (bif ((decide (p0.Kind = 2)) || (decide (p0.Kind = 7))) then p0.Call.B else 0) (bif ((decide (p0.Kind = 2)) || (decide (p0.Kind = 7))) then p0.Call.Text else ⟨#[]⟩)) : Deed) := ⟨hg_p0.1, hg_p0.2.1, (bifI (gi 0) (bifI hg_p0.2.2.1 (gi 0))), ⟨(bifI hg_p0.2.2.2.1 (gi 0)), (bifS hg_p0.2.2.2.2.1 (gs ⟨#[]⟩)), (bifS hg_p0.2.2.2.2.2.1 (gs ⟨#[]⟩)), (bifI hg_p0.2.2.2.2.2.2.1 (gi 0)), (bifI hg_p0.2.2.2.2.2.2.2.1 (gi 0)), (bifS hg_p0.2.2.2.2.2.2.2.2 (gs ⟨#[]⟩))⟩⟩
    exact rz (rs := [.cell 2 56]) (congrArg (fun x => [Re.st Deed _ inferInstance x]) hM)

/- F23 loop.example/g00974/impl.ActLine -/
def impl_ActLine_l1 (p0 : Deed) : Nat → Int → Int → Int → ByteArray → ByteArray → Int → Int → ByteArray → Nat → ByteArray → ByteArray
  | 0, c1_1, c1_2, c1_3, c1_4, c1_5, c1_6, c1_7, c1_8, i, v4 => bif (((!(impl_ActOk p0)) || (!(decide (p0 = (Deed.mk p0.Kind c1_1 c1_2 (Call.mk c1_3 c1_4 c1_5 c1_6 c1_7 c1_8)))))) || (!(impl_within p0.N 0 1000000000))) || (!(impl_within p0.M 0 1000000000)) then ⟨#[]⟩ else v4
  | n + 1, c1_1, c1_2, c1_3, c1_4, c1_5, c1_6, c1_7, c1_8, i, v4 => bif decide (((byteAt (impl_actFields p0.Kind) i).toNat : Int) = 78) then (impl_ActLine_l1 p0 n p0.N c1_2 c1_3 c1_4 c1_5 c1_6 c1_7 c1_8 (i + 1) (v4 ++ (⟨#[32]⟩ ++ (impl_Decimal p0.N)))) else (bif decide (((byteAt (impl_actFields p0.Kind) i).toNat : Int) = 77) then (impl_ActLine_l1 p0 n c1_1 p0.M c1_3 c1_4 c1_5 c1_6 c1_7 c1_8 (i + 1) (v4 ++ (⟨#[32]⟩ ++ (impl_Decimal p0.M)))) else (bif decide (((byteAt (impl_actFields p0.Kind) i).toNat : Int) = 67) then (bif decide ((impl_CallLine p0.Call) = ⟨#[]⟩) then ⟨#[]⟩ else (impl_ActLine_l1 p0 n c1_1 c1_2 p0.Call.Kind p0.Call.Name p0.Call.To p0.Call.A p0.Call.B p0.Call.Text (i + 1) (v4 ++ (⟨#[32]⟩ ++ (impl_CallLine p0.Call))))) else (impl_ActLine_l1 p0 n c1_1 c1_2 c1_3 c1_4 c1_5 c1_6 c1_7 c1_8 (i + 1) v4)))
def impl_ActLine (p0 : Deed) : ByteArray := impl_ActLine_l1 p0 (((impl_actFields p0.Kind).size) - 0) 0 0 0 ⟨#[]⟩ ⟨#[]⟩ 0 0 ⟨#[]⟩ 0 (impl_ActName p0.Kind)
theorem c_impl_ActLine (p0 : Deed) : CTs 23 [.o (.st Deed _ inferInstance p0)] [Re.c (.string (impl_ActLine p0))] := by
  refine en Tryz.func23 Tryz.ntmps23 fun w hG hgd => ?_
  obtain ⟨hg_p0, _⟩ := hgd
  have hM := impl_ActLine.eq_1 p0
  refine ad 17 ?_
  refine op (cl (c_impl_ActName p0.Kind) fok36) ?_
  refine ad 7 ?_
  refine op (cl (c_impl_actFields p0.Kind) fok81) ?_
  refine op (rg) ?_
  refine ad 2 ?_
  have hda : (impl_Decimal p0.N).size ≤ 20 := impl_Decimal_size hg_p0.2.1
  have hdb : (impl_Decimal p0.M).size ≤ 20 := impl_Decimal_size hg_p0.2.2.1
  have hdc : (impl_CallLine p0.Call).size ≤ 610 := impl_CallLine_size hg_p0.2.2.2
  have han := impl_ActName_size p0.Kind
  have hfs := impl_actFields_size p0.Kind
  refine Run.loopM (ι := Int × Int × Int × ByteArray × ByteArray × Int × Int × ByteArray × Nat × ByteArray) (fun s => impl_ActLine_l1 p0 (((impl_actFields p0.Kind).size) - s.2.2.2.2.2.2.2.2.1) s.1 s.2.1 s.2.2.1 s.2.2.2.1 s.2.2.2.2.1 s.2.2.2.2.2.1 s.2.2.2.2.2.2.1 s.2.2.2.2.2.2.2.1 s.2.2.2.2.2.2.2.2.1 s.2.2.2.2.2.2.2.2.2) (fun s => ⟨79, 3, [(1, .pt 0 0), (3, .pt 1 0), (4, .v (.string s.2.2.2.2.2.2.2.2.2)), (17, .pt 2 0)], [(0, .var [.v (.int .i64 p0.Kind), .v (.int .i64 p0.N), .v (.int .i64 p0.M), .v (.int .i64 p0.Call.Kind), .v (.string p0.Call.Name), .v (.string p0.Call.To), .v (.int .i64 p0.Call.A), .v (.int .i64 p0.Call.B), .v (.string p0.Call.Text)] 56), (1, .var [.v (.int .i64 p0.Kind), .v (.int .i64 s.1), .v (.int .i64 s.2.1), .v (.int .i64 s.2.2.1), .v (.string s.2.2.2.1), .v (.string s.2.2.2.2.1), .v (.int .i64 s.2.2.2.2.2.1), .v (.int .i64 s.2.2.2.2.2.2.1), .v (.string s.2.2.2.2.2.2.2.1)] 56), (2, .itr (impl_actFields p0.Kind) s.2.2.2.2.2.2.2.2.1)]⟩) (fun s => s.2.2.2.2.2.2.2.2.1 ≤ (impl_actFields p0.Kind).size ∧ s.2.2.2.2.2.2.2.2.2.size ≤ 10 + 700 * s.2.2.2.2.2.2.2.2.1 ∧ I64 s.1 ∧ I64 s.2.1 ∧ I64 s.2.2.1 ∧ s.2.2.2.1.size ≤ maxLen ∧ s.2.2.2.2.1.size ≤ maxLen ∧ I64 s.2.2.2.2.2.1 ∧ I64 s.2.2.2.2.2.2.1 ∧ s.2.2.2.2.2.2.2.1.size ≤ maxLen) (fun s => ((impl_actFields p0.Kind).size) - s.2.2.2.2.2.2.2.2.1) (0, 0, 0, ⟨#[]⟩, ⟨#[]⟩, 0, 0, ⟨#[]⟩, 0, (impl_ActName p0.Kind)) [0, 1, 2] [2, 1, 0] hM (by exact ⟨by (try dsimp only); first | omega | exact trivial, by (dsimp only; omega), (gi 0), (gi 0), (gi 0), (gs ⟨#[]⟩), (gs ⟨#[]⟩), (gi 0), (gi 0), (gs ⟨#[]⟩)⟩) su (by decide) ?_
  rintro ⟨c1_1, c1_2, c1_3, c1_4, c1_5, c1_6, c1_7, c1_8, i, v4⟩ hv hE
  try dsimp only at hE
  obtain ⟨hi, hv0, hg_c1_1, hg_c1_2, hg_c1_3, hg_c1_4, hg_c1_5, hg_c1_6, hg_c1_7, hg_c1_8⟩ := hv
  try dsimp only at hi hv0 hg_c1_1 hg_c1_2 hg_c1_3 hg_c1_4 hg_c1_5 hg_c1_6 hg_c1_7 hg_c1_8
  refine ad 2 ?_
  refine nx (fun h1 => ?_) (fun h1 => ?_) (asc_impl_actFields p0.Kind)
  ·
    have hM := hE.trans ((congrArg (fun n => impl_ActLine_l1 p0 n c1_1 c1_2 c1_3 c1_4 c1_5 c1_6 c1_7 c1_8 i v4) (show ((impl_actFields p0.Kind).size) - i = (((impl_actFields p0.Kind).size) - (i + 1)) + 1 by omega)).trans (impl_ActLine_l1.eq_2 _ _ _ _ _ _ _ _ _ _ _ _))
    refine ad 21 ?_
    refine cd (fun h2 => ?_) (fun h2 => ?_)
    ·
      have hM := hM.trans (bt h2)
      refine ad 11 ?_
      have hs3 := impl_Decimal_size (p0 := p0.N) hg_p0.2.1
      refine op (cl (k_impl_Decimal p0.N hg_p0.2.1) fok58) ?_
      refine op (ca (hs := szt)) ?_
      refine op (ca (hs := szt)) ?_
      refine ad 4 ?_
      exact Run.again (p0.N, c1_2, c1_3, c1_4, c1_5, c1_6, c1_7, c1_8, (i + 1), v4 ++ (⟨#[32]⟩ ++ (impl_Decimal p0.N))) [0, 1, 2] [0, 1, 2] ⟨by exact ⟨by (try dsimp only); first | omega | exact trivial, by (dsimp only; (try simp only [Bool.cond_eq_ite]); (repeat' split); all_goals ((try simp only [ByteArray.size_append, bts, List.size_toArray, List.length_cons, List.length_nil]); omega)), hg_p0.2.1, hg_c1_2, hg_c1_3, hg_c1_4, hg_c1_5, hg_c1_6, hg_c1_7, hg_c1_8⟩, hM⟩ rfl (by show _ - _ < _ - _; (try dsimp only); omega) su (by decide)
    ·
      have hM := hM.trans (bf h2)
      refine ad 5 ?_
      refine cd (fun h4 => ?_) (fun h4 => ?_)
      ·
        have hM := hM.trans (bt h4)
        refine ad 11 ?_
        have hs5 := impl_Decimal_size (p0 := p0.M) hg_p0.2.2.1
        refine op (cl (k_impl_Decimal p0.M hg_p0.2.2.1) fok58) ?_
        refine op (ca (hs := szt)) ?_
        refine op (ca (hs := szt)) ?_
        refine ad 4 ?_
        exact Run.again (c1_1, p0.M, c1_3, c1_4, c1_5, c1_6, c1_7, c1_8, (i + 1), v4 ++ (⟨#[32]⟩ ++ (impl_Decimal p0.M))) [0, 1, 2] [0, 1, 2] ⟨by exact ⟨by (try dsimp only); first | omega | exact trivial, by (dsimp only; (try simp only [Bool.cond_eq_ite]); (repeat' split); all_goals ((try simp only [ByteArray.size_append, bts, List.size_toArray, List.length_cons, List.length_nil]); omega)), hg_c1_1, hg_p0.2.2.1, hg_c1_3, hg_c1_4, hg_c1_5, hg_c1_6, hg_c1_7, hg_c1_8⟩, hM⟩ rfl (by show _ - _ < _ - _; (try dsimp only); omega) su (by decide)
      ·
        have hM := hM.trans (bf h4)
        refine ad 5 ?_
        refine cd (fun h6 => ?_) (fun h6 => ?_)
        ·
          have hM := hM.trans (bt h6)
          refine ad 11 ?_
          have hg7 : Dat.good (p0.Call : Call) := hg_p0.2.2.2
          have hs8 := impl_CallLine_size (p0 := p0.Call) (by assumption)
          refine op (cl (c_impl_CallLine p0.Call) fok26) ?_
          refine ad 8 ?_
          refine cd (fun h9 => ?_) (fun h9 => ?_)
          ·
            have hM := hM.trans (bt h9)
            refine ad 4 ?_
            exact rz (rs := [.tmp 2]) (congrArg (fun x => [Re.c (.string x)]) hM)
          ·
            have hM := hM.trans (bf h9)
            refine ad 4 ?_
            refine op (ca (hs := szt)) ?_
            refine op (ca (hs := szt)) ?_
            refine ad 4 ?_
            exact Run.again (c1_1, c1_2, p0.Call.Kind, p0.Call.Name, p0.Call.To, p0.Call.A, p0.Call.B, p0.Call.Text, (i + 1), v4 ++ (⟨#[32]⟩ ++ (impl_CallLine p0.Call))) [0, 1, 2] [0, 1, 2] ⟨by exact ⟨by (try dsimp only); first | omega | exact trivial, by (dsimp only; (try simp only [Bool.cond_eq_ite]); (repeat' split); all_goals ((try simp only [ByteArray.size_append, bts, List.size_toArray, List.length_cons, List.length_nil]); omega)), hg_c1_1, hg_c1_2, hg7.1, hg7.2.1, hg7.2.2.1, hg7.2.2.2.1, hg7.2.2.2.2.1, hg7.2.2.2.2.2⟩, hM⟩ rfl (by show _ - _ < _ - _; (try dsimp only); omega) su (by decide)
        ·
          have hM := hM.trans (bf h6)
          refine ad 3 ?_
          exact Run.again (c1_1, c1_2, c1_3, c1_4, c1_5, c1_6, c1_7, c1_8, (i + 1), v4) [0, 1, 2] [0, 1, 2] ⟨by exact ⟨by (try dsimp only); first | omega | exact trivial, by (dsimp only; (try simp only [Bool.cond_eq_ite]); (repeat' split); all_goals ((try simp only [ByteArray.size_append, bts, List.size_toArray, List.length_cons, List.length_nil]); omega)), hg_c1_1, hg_c1_2, hg_c1_3, hg_c1_4, hg_c1_5, hg_c1_6, hg_c1_7, hg_c1_8⟩, hM⟩ rfl (by show _ - _ < _ - _; (try dsimp only); omega) su (by decide)
  ·
    have hM := hE.trans ((congrArg (fun n => impl_ActLine_l1 p0 n c1_1 c1_2 c1_3 c1_4 c1_5 c1_6 c1_7 c1_8 i v4) (show ((impl_actFields p0.Kind).size) - i = 0 by omega)).trans (impl_ActLine_l1.eq_1 _ _ _ _ _ _ _ _ _ _ _))
    refine ad 9 ?_
    refine op (cl (c_impl_ActOk p0) fok82) ?_
    refine ad 2 ?_
    refine ag 2 ?_
    refine op (qg (fun _ => (eqp56 p0 (Deed.mk p0.Kind c1_1 c1_2 (Call.mk c1_3 c1_4 c1_5 c1_6 c1_7 c1_8))))) ?_
    refine ag 1 ?_
    refine ad 1 ?_
    refine ag 2 ?_
    refine op (cG (hct := fun hB => (k_impl_within p0.N 0 1000000000)) (hfn := fok83)) ?_
    refine ag 2 ?_
    refine ad 1 ?_
    refine ag 2 ?_
    refine op (cG (hct := fun hB => (k_impl_within p0.M 0 1000000000)) (hfn := fok83)) ?_
    refine ag 2 ?_
    refine ad 1 ?_
    refine cd (fun h10 => ?_) (fun h10 => ?_)
    ·
      have hM := hM.trans (bt h10)
      refine ad 4 ?_
      exact rz (rs := [.tmp 2]) (congrArg (fun x => [Re.c (.string x)]) hM)
    ·
      have hM := hM.trans (bf h10)
      have th10_0 := impl_ActOk_t (by have hq := (Bool.or_eq_false_iff.1 (Bool.or_eq_false_iff.1 (Bool.or_eq_false_iff.1 h10).1).1).1; simpa using hq)
      have th10_2 := impl_within_t (by have hq := (Bool.or_eq_false_iff.1 (Bool.or_eq_false_iff.1 h10).1).2; simpa using hq)
      have th10_3 := impl_within_t (by have hq := (Bool.or_eq_false_iff.1 h10).2; simpa using hq)
      refine ad 6 ?_
      exact rz (rs := [.tmp 2]) (congrArg (fun x => [Re.c (.string x)]) hM)

/- F34 loop.example/g00974/spec.ActLine -/
def spec_ActLine (p0 : Deed) : ByteArray := bif (((!(spec_ActOk p0)) || (!(decide ((spec_l38Told p0) = p0)))) || (!(spec_l38Fits p0.N))) || (!(spec_l38Fits p0.M)) then ⟨#[]⟩ else (bif (decide (p0.Kind = 8)) || ((decide (p0.Kind = 9)) || (decide (p0.Kind = 10))) then (spec_ActName p0.Kind) else (bif (decide (p0.Kind = 2)) || (decide (p0.Kind = 7)) then (bif decide ((spec_CallLine p0.Call) = ⟨#[]⟩) then ⟨#[]⟩ else (((((spec_ActName p0.Kind) ++ ⟨#[32]⟩) ++ (spec_Decimal p0.N)) ++ ⟨#[32]⟩) ++ (spec_CallLine p0.Call))) else (bif decide (p0.Kind = 4) then (((((spec_ActName p0.Kind) ++ ⟨#[32]⟩) ++ (spec_Decimal p0.N)) ++ ⟨#[32]⟩) ++ (spec_Decimal p0.M)) else (((spec_ActName p0.Kind) ++ ⟨#[32]⟩) ++ (spec_Decimal p0.N)))))
theorem c_spec_ActLine (p0 : Deed) : CTs 34 [.o (.st Deed _ inferInstance p0)] [Re.c (.string (spec_ActLine p0))] := by
  refine en Tryz.func34 Tryz.ntmps34 fun w hG hgd => ?_
  obtain ⟨hg_p0, _⟩ := hgd
  have hM := spec_ActLine.eq_1 p0
  have hda : (spec_Decimal p0.N).size ≤ 20 := spec_Decimal_size hg_p0.2.1
  have hdb : (spec_Decimal p0.M).size ≤ 20 := spec_Decimal_size hg_p0.2.2.1
  have hdc : (spec_CallLine p0.Call).size ≤ 610 := spec_CallLine_size hg_p0.2.2.2
  have han := spec_ActName_size p0.Kind
  refine ad 7 ?_
  refine dr 21 fun _ _ _ _ _ hb => ?_
  refine tk [0] ?_
  refine on 1 [0] (cl (c_spec_ActOk p0) fok104) ?_
  refine tk [2, 3, 4, 6] ?_
  refine on 5 [0] (cGs (hct := fun hB => (c_spec_l38Told p0)) (hfn := fok105)) ?_
  refine on 7 [0] (qg (fun _ => (eqp56 (spec_l38Told p0) p0))) ?_
  refine tk [8, 9, 10, 11] ?_
  refine on 12 [0] (cG (hct := fun hB => (c_spec_l38Fits p0.N)) (hfn := fok106)) ?_
  refine tk [13, 14, 15, 16, 17] ?_
  refine on 18 [0] (cG (hct := fun hB => (c_spec_l38Fits p0.M)) (hfn := fok106)) ?_
  refine tk [19, 20] ?_
  refine dn hb ?_
  refine cd (fun h1 => ?_) (fun h1 => ?_)
  ·
    have hM := hM.trans (bt h1)
    refine ad 4 ?_
    exact rz (rs := [.tmp 2]) (congrArg (fun x => [Re.c (.string x)]) hM)
  ·
    have hM := hM.trans (bf h1)
    have th1_0 := spec_ActOk_t (by have hq := (Bool.or_eq_false_iff.1 (Bool.or_eq_false_iff.1 (Bool.or_eq_false_iff.1 h1).1).1).1; simpa using hq)
    refine ad 5 ?_
    refine op (cl (c_spec_ActName p0.Kind) fok37) ?_
    refine ad 15 ?_
    refine Run.mid ⟨72, 1, [(1, .pt 0 0), (3, .v (.string (spec_ActName p0.Kind))), (30, .v (.int .i64 p0.Kind)), (31, .v (.bool ((decide (p0.Kind = 8)) || ((decide (p0.Kind = 9)) || (decide (p0.Kind = 10))))))], [(0, .var [.v (.int .i64 p0.Kind), .v (.int .i64 p0.N), .v (.int .i64 p0.M), .v (.int .i64 p0.Call.Kind), .v (.string p0.Call.Name), .v (.string p0.Call.To), .v (.int .i64 p0.Call.A), .v (.int .i64 p0.Call.B), .v (.string p0.Call.Text)] 56)]⟩ ?_ ?_
    · refine cd (fun h2 => ?_) (fun h2 => ?_)
      ·
        refine ad 1 ?_
        exact Run.at [0] [0] (by first | exact su | (rw [h2]; exact su)) (by decide)
      ·
        refine ad 5 ?_
        refine Run.mid ⟨72, 1, [(1, .pt 0 0), (3, .v (.string (spec_ActName p0.Kind))), (30, .v (.int .i64 p0.Kind)), (31, .v (.bool ((decide (p0.Kind = 9)) || (decide (p0.Kind = 10)))))], [(0, .var [.v (.int .i64 p0.Kind), .v (.int .i64 p0.N), .v (.int .i64 p0.M), .v (.int .i64 p0.Call.Kind), .v (.string p0.Call.Name), .v (.string p0.Call.To), .v (.int .i64 p0.Call.A), .v (.int .i64 p0.Call.B), .v (.string p0.Call.Text)] 56)]⟩ ?_ ?_
        · refine cd (fun h3 => ?_) (fun h3 => ?_)
          ·
            refine ad 1 ?_
            exact Run.at [0] [0] (by first | exact su | (rw [h3]; exact su)) (by decide)
          ·
            refine ad 4 ?_
            exact Run.at [0] [0] (by first | exact su | (rw [h3]; exact su)) (by decide)
        exact Run.at [0] [0] (by first | exact su | (rw [h2]; exact su)) (by decide)
    refine cd (fun h4 => ?_) (fun h4 => ?_)
    ·
      have hM := hM.trans (bt h4)
      refine ad 5 ?_
      exact rz (rs := [.tmp 2]) (congrArg (fun x => [Re.c (.string x)]) hM)
    ·
      have hM := hM.trans (bf h4)
      refine ad 6 ?_
      refine Run.mid ⟨72, 1, [(1, .pt 0 0), (3, .v (.string (spec_ActName p0.Kind))), (30, .v (.int .i64 p0.Kind)), (36, .v (.bool ((decide (p0.Kind = 2)) || (decide (p0.Kind = 7)))))], [(0, .var [.v (.int .i64 p0.Kind), .v (.int .i64 p0.N), .v (.int .i64 p0.M), .v (.int .i64 p0.Call.Kind), .v (.string p0.Call.Name), .v (.string p0.Call.To), .v (.int .i64 p0.Call.A), .v (.int .i64 p0.Call.B), .v (.string p0.Call.Text)] 56)]⟩ ?_ ?_
      · refine cd (fun h5 => ?_) (fun h5 => ?_)
        ·
          refine ad 1 ?_
          exact Run.at [0] [0] (by first | exact su | (rw [h5]; exact su)) (by decide)
        ·
          refine ad 4 ?_
          exact Run.at [0] [0] (by first | exact su | (rw [h5]; exact su)) (by decide)
      refine cd (fun h6 => ?_) (fun h6 => ?_)
      ·
        have hM := hM.trans (bt h6)
        refine ad 4 ?_
        have hg7 : Dat.good (p0.Call : Call) := hg_p0.2.2.2
        have hs8 := spec_CallLine_size (p0 := p0.Call) (by assumption)
        refine op (cl (c_spec_CallLine p0.Call) fok35) ?_
        refine ad 8 ?_
        refine cd (fun h9 => ?_) (fun h9 => ?_)
        ·
          have hM := hM.trans (bt h9)
          refine ad 4 ?_
          exact rz (rs := [.tmp 2]) (congrArg (fun x => [Re.c (.string x)]) hM)
        ·
          have hM := hM.trans (bf h9)
          refine ad 4 ?_
          refine op (ca (hs := szt)) ?_
          refine ad 2 ?_
          have hs10 := spec_Decimal_size (p0 := p0.N) hg_p0.2.1
          refine op (cl (k_spec_Decimal p0.N hg_p0.2.1) fok48) ?_
          refine op (ca (hs := szt)) ?_
          refine op (ca (hs := szt)) ?_
          refine ad 1 ?_
          refine op (ca (hs := szt)) ?_
          refine ad 2 ?_
          exact rz (rs := [.tmp 2]) (congrArg (fun x => [Re.c (.string x)]) hM)
      ·
        have hM := hM.trans (bf h6)
        refine ad 5 ?_
        refine cd (fun h11 => ?_) (fun h11 => ?_)
        ·
          have hM := hM.trans (bt h11)
          refine ad 1 ?_
          refine dr 12 fun _ _ _ _ _ hb => ?_
          refine tk [0] ?_
          refine tx 1 (tca (hs := szt)) ?_
          refine tk [2, 3, 7, 8] ?_
          have hs12 := spec_Decimal_size (p0 := p0.N) hg_p0.2.1
          refine on 4 [0] (cl (k_spec_Decimal p0.N hg_p0.2.1) fok48) ?_
          refine tx 5 (tca (hs := szt)) ?_
          refine tx 6 (tca (hs := szt)) ?_
          have hs13 := spec_Decimal_size (p0 := p0.M) hg_p0.2.2.1
          refine on 9 [0] (cl (k_spec_Decimal p0.M hg_p0.2.2.1) fok48) ?_
          refine tx 10 (tca (hs := szt)) ?_
          refine tk [11] ?_
          refine dn hb ?_
          exact rz (rs := [.tmp 2]) (congrArg (fun x => [Re.c (.string x)]) hM)
        ·
          have hM := hM.trans (bf h11)
          refine ad 5 ?_
          refine op (ca (hs := szt)) ?_
          refine ad 2 ?_
          have hs14 := spec_Decimal_size (p0 := p0.N) hg_p0.2.1
          refine op (cl (k_spec_Decimal p0.N hg_p0.2.1) fok48) ?_
          refine op (ca (hs := szt)) ?_
          refine ad 2 ?_
          exact rz (rs := [.tmp 2]) (congrArg (fun x => [Re.c (.string x)]) hM)

end Go.Proofs.YtnjidaonbcbphaaGreatDoor.Fw
/-
  The reference and the program write the same line for an action. No condition.
-/
namespace Go.Proofs.YtnjidaonbcbphaaGreatDoor.Fw
open Go.RowKit
set_option linter.unusedVariables false
set_option linter.unusedSimpArgs false
set_option maxRecDepth 100000
theorem bif_swap {α : Type} (a b : Bool) (e x : α) : (bif a then e else (bif b then e else x)) = (bif b then e else (bif a then e else x)) := by cases a <;> cases b <;> rfl
theorem ActName_12 : ∀ n : Fin 12, impl_ActName ((n.val : Int) + 1) = spec_ActName ((n.val : Int) + 1) := by decide +kernel
theorem dec_comm {α : Type} [DecidableEq α] (a b : α) : decide (a = b) = decide (b = a) := by
  by_cases h : a = b
  · subst h; rfl
  · rw [decide_eq_false h, decide_eq_false (fun e => h e.symm)]
theorem ActLine_12 (N M : Int) (C : Call) (hN : I64 N) (hM : I64 M) (hC : Dat.good C) : ∀ n : Fin 12, impl_ActLine ⟨(n.val : Int) + 1, N, M, C⟩ = spec_ActLine ⟨(n.val : Int) + 1, N, M, C⟩
  | ⟨0, _⟩ => by
    have hL : impl_ActLine (⟨1, N, M, C⟩ : Deed) = (bif (((!(impl_ActOk (⟨1, N, M, C⟩ : Deed))) || (!(decide ((⟨1, N, M, C⟩ : Deed) = Deed.mk 1 N 0 (Call.mk 0 ⟨#[]⟩ ⟨#[]⟩ 0 0 ⟨#[]⟩))))) || (!(impl_within N 0 1000000000))) || (!(impl_within M 0 1000000000)) then ⟨#[]⟩ else (impl_ActName 1 ++ (⟨#[32]⟩ ++ impl_Decimal N))) := by kernel_rfl
    have hR : spec_ActLine (⟨1, N, M, C⟩ : Deed) = (bif (((!(spec_ActOk (⟨1, N, M, C⟩ : Deed))) || (!(decide (Deed.mk 1 N 0 (Call.mk 0 ⟨#[]⟩ ⟨#[]⟩ 0 0 ⟨#[]⟩) = (⟨1, N, M, C⟩ : Deed))))) || (!(spec_l38Fits N))) || (!(spec_l38Fits M)) then ⟨#[]⟩ else ((spec_ActName 1 ++ ⟨#[32]⟩) ++ spec_Decimal N)) := by kernel_rfl
    refine hL.trans (Eq.trans ?_ hR.symm)
    rw [show impl_ActName 1 = spec_ActName 1 from ActName_12 ⟨0, by decide⟩, dec_comm (Deed.mk 1 N 0 (Call.mk 0 ⟨#[]⟩ ⟨#[]⟩ 0 0 ⟨#[]⟩)) (⟨1, N, M, C⟩ : Deed)]
    rw [← Decimal_twin hN, bt_assoc]
    rfl
  | ⟨1, _⟩ => by
    have hL : impl_ActLine (⟨2, N, M, C⟩ : Deed) = (bif decide (impl_CallLine C = ⟨#[]⟩) then ⟨#[]⟩ else (bif (((!(impl_ActOk (⟨2, N, M, C⟩ : Deed))) || (!(decide ((⟨2, N, M, C⟩ : Deed) = Deed.mk 2 N 0 C)))) || (!(impl_within N 0 1000000000))) || (!(impl_within M 0 1000000000)) then ⟨#[]⟩ else ((impl_ActName 2 ++ (⟨#[32]⟩ ++ impl_Decimal N)) ++ (⟨#[32]⟩ ++ impl_CallLine C)))) := by kernel_rfl
    have hR : spec_ActLine (⟨2, N, M, C⟩ : Deed) = (bif (((!(spec_ActOk (⟨2, N, M, C⟩ : Deed))) || (!(decide (Deed.mk 2 N 0 C = (⟨2, N, M, C⟩ : Deed))))) || (!(spec_l38Fits N))) || (!(spec_l38Fits M)) then ⟨#[]⟩ else (bif decide (spec_CallLine C = ⟨#[]⟩) then ⟨#[]⟩ else ((((spec_ActName 2 ++ ⟨#[32]⟩) ++ spec_Decimal N) ++ ⟨#[32]⟩) ++ spec_CallLine C))) := by kernel_rfl
    refine hL.trans (Eq.trans ?_ hR.symm)
    rw [show impl_ActName 2 = spec_ActName 2 from ActName_12 ⟨1, by decide⟩, dec_comm (Deed.mk 2 N 0 C) (⟨2, N, M, C⟩ : Deed)]
    rw [CallLine_twin hC, ← Decimal_twin hN, bt_assoc, bt_assoc]
    show (bif decide (spec_CallLine C = (⟨#[]⟩ : ByteArray)) then (⟨#[]⟩ : ByteArray) else (bif _ then (⟨#[]⟩ : ByteArray) else _)) = (bif _ then (⟨#[]⟩ : ByteArray) else (bif decide (spec_CallLine C = (⟨#[]⟩ : ByteArray)) then (⟨#[]⟩ : ByteArray) else _))
    exact bif_swap _ _ _ _
  | ⟨2, _⟩ => by
    have hL : impl_ActLine (⟨3, N, M, C⟩ : Deed) = (bif (((!(impl_ActOk (⟨3, N, M, C⟩ : Deed))) || (!(decide ((⟨3, N, M, C⟩ : Deed) = Deed.mk 3 N 0 (Call.mk 0 ⟨#[]⟩ ⟨#[]⟩ 0 0 ⟨#[]⟩))))) || (!(impl_within N 0 1000000000))) || (!(impl_within M 0 1000000000)) then ⟨#[]⟩ else (impl_ActName 3 ++ (⟨#[32]⟩ ++ impl_Decimal N))) := by kernel_rfl
    have hR : spec_ActLine (⟨3, N, M, C⟩ : Deed) = (bif (((!(spec_ActOk (⟨3, N, M, C⟩ : Deed))) || (!(decide (Deed.mk 3 N 0 (Call.mk 0 ⟨#[]⟩ ⟨#[]⟩ 0 0 ⟨#[]⟩) = (⟨3, N, M, C⟩ : Deed))))) || (!(spec_l38Fits N))) || (!(spec_l38Fits M)) then ⟨#[]⟩ else ((spec_ActName 3 ++ ⟨#[32]⟩) ++ spec_Decimal N)) := by kernel_rfl
    refine hL.trans (Eq.trans ?_ hR.symm)
    rw [show impl_ActName 3 = spec_ActName 3 from ActName_12 ⟨2, by decide⟩, dec_comm (Deed.mk 3 N 0 (Call.mk 0 ⟨#[]⟩ ⟨#[]⟩ 0 0 ⟨#[]⟩)) (⟨3, N, M, C⟩ : Deed)]
    rw [← Decimal_twin hN, bt_assoc]
    rfl
  | ⟨3, _⟩ => by
    have hL : impl_ActLine (⟨4, N, M, C⟩ : Deed) = (bif (((!(impl_ActOk (⟨4, N, M, C⟩ : Deed))) || (!(decide ((⟨4, N, M, C⟩ : Deed) = Deed.mk 4 N M (Call.mk 0 ⟨#[]⟩ ⟨#[]⟩ 0 0 ⟨#[]⟩))))) || (!(impl_within N 0 1000000000))) || (!(impl_within M 0 1000000000)) then ⟨#[]⟩ else ((impl_ActName 4 ++ (⟨#[32]⟩ ++ impl_Decimal N)) ++ (⟨#[32]⟩ ++ impl_Decimal M))) := by kernel_rfl
    have hR : spec_ActLine (⟨4, N, M, C⟩ : Deed) = (bif (((!(spec_ActOk (⟨4, N, M, C⟩ : Deed))) || (!(decide (Deed.mk 4 N M (Call.mk 0 ⟨#[]⟩ ⟨#[]⟩ 0 0 ⟨#[]⟩) = (⟨4, N, M, C⟩ : Deed))))) || (!(spec_l38Fits N))) || (!(spec_l38Fits M)) then ⟨#[]⟩ else ((((spec_ActName 4 ++ ⟨#[32]⟩) ++ spec_Decimal N) ++ ⟨#[32]⟩) ++ spec_Decimal M)) := by kernel_rfl
    refine hL.trans (Eq.trans ?_ hR.symm)
    rw [show impl_ActName 4 = spec_ActName 4 from ActName_12 ⟨3, by decide⟩, dec_comm (Deed.mk 4 N M (Call.mk 0 ⟨#[]⟩ ⟨#[]⟩ 0 0 ⟨#[]⟩)) (⟨4, N, M, C⟩ : Deed)]
    rw [← Decimal_twin hN, ← Decimal_twin hM, bt_assoc, bt_assoc]
    rfl
  | ⟨4, _⟩ => by
    have hL : impl_ActLine (⟨5, N, M, C⟩ : Deed) = (bif (((!(impl_ActOk (⟨5, N, M, C⟩ : Deed))) || (!(decide ((⟨5, N, M, C⟩ : Deed) = Deed.mk 5 N 0 (Call.mk 0 ⟨#[]⟩ ⟨#[]⟩ 0 0 ⟨#[]⟩))))) || (!(impl_within N 0 1000000000))) || (!(impl_within M 0 1000000000)) then ⟨#[]⟩ else (impl_ActName 5 ++ (⟨#[32]⟩ ++ impl_Decimal N))) := by kernel_rfl
    have hR : spec_ActLine (⟨5, N, M, C⟩ : Deed) = (bif (((!(spec_ActOk (⟨5, N, M, C⟩ : Deed))) || (!(decide (Deed.mk 5 N 0 (Call.mk 0 ⟨#[]⟩ ⟨#[]⟩ 0 0 ⟨#[]⟩) = (⟨5, N, M, C⟩ : Deed))))) || (!(spec_l38Fits N))) || (!(spec_l38Fits M)) then ⟨#[]⟩ else ((spec_ActName 5 ++ ⟨#[32]⟩) ++ spec_Decimal N)) := by kernel_rfl
    refine hL.trans (Eq.trans ?_ hR.symm)
    rw [show impl_ActName 5 = spec_ActName 5 from ActName_12 ⟨4, by decide⟩, dec_comm (Deed.mk 5 N 0 (Call.mk 0 ⟨#[]⟩ ⟨#[]⟩ 0 0 ⟨#[]⟩)) (⟨5, N, M, C⟩ : Deed)]
    rw [← Decimal_twin hN, bt_assoc]
    rfl
  | ⟨5, _⟩ => by
    have hL : impl_ActLine (⟨6, N, M, C⟩ : Deed) = (bif (((!(impl_ActOk (⟨6, N, M, C⟩ : Deed))) || (!(decide ((⟨6, N, M, C⟩ : Deed) = Deed.mk 6 N 0 (Call.mk 0 ⟨#[]⟩ ⟨#[]⟩ 0 0 ⟨#[]⟩))))) || (!(impl_within N 0 1000000000))) || (!(impl_within M 0 1000000000)) then ⟨#[]⟩ else (impl_ActName 6 ++ (⟨#[32]⟩ ++ impl_Decimal N))) := by kernel_rfl
    have hR : spec_ActLine (⟨6, N, M, C⟩ : Deed) = (bif (((!(spec_ActOk (⟨6, N, M, C⟩ : Deed))) || (!(decide (Deed.mk 6 N 0 (Call.mk 0 ⟨#[]⟩ ⟨#[]⟩ 0 0 ⟨#[]⟩) = (⟨6, N, M, C⟩ : Deed))))) || (!(spec_l38Fits N))) || (!(spec_l38Fits M)) then ⟨#[]⟩ else ((spec_ActName 6 ++ ⟨#[32]⟩) ++ spec_Decimal N)) := by kernel_rfl
    refine hL.trans (Eq.trans ?_ hR.symm)
    rw [show impl_ActName 6 = spec_ActName 6 from ActName_12 ⟨5, by decide⟩, dec_comm (Deed.mk 6 N 0 (Call.mk 0 ⟨#[]⟩ ⟨#[]⟩ 0 0 ⟨#[]⟩)) (⟨6, N, M, C⟩ : Deed)]
    rw [← Decimal_twin hN, bt_assoc]
    rfl
  | ⟨6, _⟩ => by
    have hL : impl_ActLine (⟨7, N, M, C⟩ : Deed) = (bif decide (impl_CallLine C = ⟨#[]⟩) then ⟨#[]⟩ else (bif (((!(impl_ActOk (⟨7, N, M, C⟩ : Deed))) || (!(decide ((⟨7, N, M, C⟩ : Deed) = Deed.mk 7 N 0 C)))) || (!(impl_within N 0 1000000000))) || (!(impl_within M 0 1000000000)) then ⟨#[]⟩ else ((impl_ActName 7 ++ (⟨#[32]⟩ ++ impl_Decimal N)) ++ (⟨#[32]⟩ ++ impl_CallLine C)))) := by kernel_rfl
    have hR : spec_ActLine (⟨7, N, M, C⟩ : Deed) = (bif (((!(spec_ActOk (⟨7, N, M, C⟩ : Deed))) || (!(decide (Deed.mk 7 N 0 C = (⟨7, N, M, C⟩ : Deed))))) || (!(spec_l38Fits N))) || (!(spec_l38Fits M)) then ⟨#[]⟩ else (bif decide (spec_CallLine C = ⟨#[]⟩) then ⟨#[]⟩ else ((((spec_ActName 7 ++ ⟨#[32]⟩) ++ spec_Decimal N) ++ ⟨#[32]⟩) ++ spec_CallLine C))) := by kernel_rfl
    refine hL.trans (Eq.trans ?_ hR.symm)
    rw [show impl_ActName 7 = spec_ActName 7 from ActName_12 ⟨6, by decide⟩, dec_comm (Deed.mk 7 N 0 C) (⟨7, N, M, C⟩ : Deed)]
    rw [CallLine_twin hC, ← Decimal_twin hN, bt_assoc, bt_assoc]
    show (bif decide (spec_CallLine C = (⟨#[]⟩ : ByteArray)) then (⟨#[]⟩ : ByteArray) else (bif _ then (⟨#[]⟩ : ByteArray) else _)) = (bif _ then (⟨#[]⟩ : ByteArray) else (bif decide (spec_CallLine C = (⟨#[]⟩ : ByteArray)) then (⟨#[]⟩ : ByteArray) else _))
    exact bif_swap _ _ _ _
  | ⟨7, _⟩ => by
    have hL : impl_ActLine (⟨8, N, M, C⟩ : Deed) = (bif (((!(impl_ActOk (⟨8, N, M, C⟩ : Deed))) || (!(decide ((⟨8, N, M, C⟩ : Deed) = Deed.mk 8 0 0 (Call.mk 0 ⟨#[]⟩ ⟨#[]⟩ 0 0 ⟨#[]⟩))))) || (!(impl_within N 0 1000000000))) || (!(impl_within M 0 1000000000)) then ⟨#[]⟩ else impl_ActName 8) := by kernel_rfl
    have hR : spec_ActLine (⟨8, N, M, C⟩ : Deed) = (bif (((!(spec_ActOk (⟨8, N, M, C⟩ : Deed))) || (!(decide (Deed.mk 8 0 0 (Call.mk 0 ⟨#[]⟩ ⟨#[]⟩ 0 0 ⟨#[]⟩) = (⟨8, N, M, C⟩ : Deed))))) || (!(spec_l38Fits N))) || (!(spec_l38Fits M)) then ⟨#[]⟩ else spec_ActName 8) := by kernel_rfl
    refine hL.trans (Eq.trans ?_ hR.symm)
    rw [show impl_ActName 8 = spec_ActName 8 from ActName_12 ⟨7, by decide⟩, dec_comm (Deed.mk 8 0 0 (Call.mk 0 ⟨#[]⟩ ⟨#[]⟩ 0 0 ⟨#[]⟩)) (⟨8, N, M, C⟩ : Deed)]
    rfl
  | ⟨8, _⟩ => by
    have hL : impl_ActLine (⟨9, N, M, C⟩ : Deed) = (bif (((!(impl_ActOk (⟨9, N, M, C⟩ : Deed))) || (!(decide ((⟨9, N, M, C⟩ : Deed) = Deed.mk 9 0 0 (Call.mk 0 ⟨#[]⟩ ⟨#[]⟩ 0 0 ⟨#[]⟩))))) || (!(impl_within N 0 1000000000))) || (!(impl_within M 0 1000000000)) then ⟨#[]⟩ else impl_ActName 9) := by kernel_rfl
    have hR : spec_ActLine (⟨9, N, M, C⟩ : Deed) = (bif (((!(spec_ActOk (⟨9, N, M, C⟩ : Deed))) || (!(decide (Deed.mk 9 0 0 (Call.mk 0 ⟨#[]⟩ ⟨#[]⟩ 0 0 ⟨#[]⟩) = (⟨9, N, M, C⟩ : Deed))))) || (!(spec_l38Fits N))) || (!(spec_l38Fits M)) then ⟨#[]⟩ else spec_ActName 9) := by kernel_rfl
    refine hL.trans (Eq.trans ?_ hR.symm)
    rw [show impl_ActName 9 = spec_ActName 9 from ActName_12 ⟨8, by decide⟩, dec_comm (Deed.mk 9 0 0 (Call.mk 0 ⟨#[]⟩ ⟨#[]⟩ 0 0 ⟨#[]⟩)) (⟨9, N, M, C⟩ : Deed)]
    rfl
  | ⟨9, _⟩ => by
    have hL : impl_ActLine (⟨10, N, M, C⟩ : Deed) = (bif (((!(impl_ActOk (⟨10, N, M, C⟩ : Deed))) || (!(decide ((⟨10, N, M, C⟩ : Deed) = Deed.mk 10 0 0 (Call.mk 0 ⟨#[]⟩ ⟨#[]⟩ 0 0 ⟨#[]⟩))))) || (!(impl_within N 0 1000000000))) || (!(impl_within M 0 1000000000)) then ⟨#[]⟩ else impl_ActName 10) := by kernel_rfl
    have hR : spec_ActLine (⟨10, N, M, C⟩ : Deed) = (bif (((!(spec_ActOk (⟨10, N, M, C⟩ : Deed))) || (!(decide (Deed.mk 10 0 0 (Call.mk 0 ⟨#[]⟩ ⟨#[]⟩ 0 0 ⟨#[]⟩) = (⟨10, N, M, C⟩ : Deed))))) || (!(spec_l38Fits N))) || (!(spec_l38Fits M)) then ⟨#[]⟩ else spec_ActName 10) := by kernel_rfl
    refine hL.trans (Eq.trans ?_ hR.symm)
    rw [show impl_ActName 10 = spec_ActName 10 from ActName_12 ⟨9, by decide⟩, dec_comm (Deed.mk 10 0 0 (Call.mk 0 ⟨#[]⟩ ⟨#[]⟩ 0 0 ⟨#[]⟩)) (⟨10, N, M, C⟩ : Deed)]
    rfl
  | ⟨10, _⟩ => by
    have hL : impl_ActLine (⟨11, N, M, C⟩ : Deed) = (bif (((!(impl_ActOk (⟨11, N, M, C⟩ : Deed))) || (!(decide ((⟨11, N, M, C⟩ : Deed) = Deed.mk 11 N 0 (Call.mk 0 ⟨#[]⟩ ⟨#[]⟩ 0 0 ⟨#[]⟩))))) || (!(impl_within N 0 1000000000))) || (!(impl_within M 0 1000000000)) then ⟨#[]⟩ else (impl_ActName 11 ++ (⟨#[32]⟩ ++ impl_Decimal N))) := by kernel_rfl
    have hR : spec_ActLine (⟨11, N, M, C⟩ : Deed) = (bif (((!(spec_ActOk (⟨11, N, M, C⟩ : Deed))) || (!(decide (Deed.mk 11 N 0 (Call.mk 0 ⟨#[]⟩ ⟨#[]⟩ 0 0 ⟨#[]⟩) = (⟨11, N, M, C⟩ : Deed))))) || (!(spec_l38Fits N))) || (!(spec_l38Fits M)) then ⟨#[]⟩ else ((spec_ActName 11 ++ ⟨#[32]⟩) ++ spec_Decimal N)) := by kernel_rfl
    refine hL.trans (Eq.trans ?_ hR.symm)
    rw [show impl_ActName 11 = spec_ActName 11 from ActName_12 ⟨10, by decide⟩, dec_comm (Deed.mk 11 N 0 (Call.mk 0 ⟨#[]⟩ ⟨#[]⟩ 0 0 ⟨#[]⟩)) (⟨11, N, M, C⟩ : Deed)]
    rw [← Decimal_twin hN, bt_assoc]
    rfl
  | ⟨11, _⟩ => by
    have hL : impl_ActLine (⟨12, N, M, C⟩ : Deed) = (bif (((!(impl_ActOk (⟨12, N, M, C⟩ : Deed))) || (!(decide ((⟨12, N, M, C⟩ : Deed) = Deed.mk 12 N 0 (Call.mk 0 ⟨#[]⟩ ⟨#[]⟩ 0 0 ⟨#[]⟩))))) || (!(impl_within N 0 1000000000))) || (!(impl_within M 0 1000000000)) then ⟨#[]⟩ else (impl_ActName 12 ++ (⟨#[32]⟩ ++ impl_Decimal N))) := by kernel_rfl
    have hR : spec_ActLine (⟨12, N, M, C⟩ : Deed) = (bif (((!(spec_ActOk (⟨12, N, M, C⟩ : Deed))) || (!(decide (Deed.mk 12 N 0 (Call.mk 0 ⟨#[]⟩ ⟨#[]⟩ 0 0 ⟨#[]⟩) = (⟨12, N, M, C⟩ : Deed))))) || (!(spec_l38Fits N))) || (!(spec_l38Fits M)) then ⟨#[]⟩ else ((spec_ActName 12 ++ ⟨#[32]⟩) ++ spec_Decimal N)) := by kernel_rfl
    refine hL.trans (Eq.trans ?_ hR.symm)
    rw [show impl_ActName 12 = spec_ActName 12 from ActName_12 ⟨11, by decide⟩, dec_comm (Deed.mk 12 N 0 (Call.mk 0 ⟨#[]⟩ ⟨#[]⟩ 0 0 ⟨#[]⟩)) (⟨12, N, M, C⟩ : Deed)]
    rw [← Decimal_twin hN, bt_assoc]
    rfl
  | ⟨n + 12, h⟩ => by omega
theorem actFields_out {k : Int} (h : ¬ (1 ≤ k ∧ k ≤ 12)) : impl_actFields k = ⟨#[]⟩ := by
  unfold impl_actFields
  simp only [show (decide (k = 1)) = false by simp; omega, show (decide (k = 2)) = false by simp; omega, show (decide (k = 3)) = false by simp; omega, show (decide (k = 4)) = false by simp; omega, show (decide (k = 5)) = false by simp; omega, show (decide (k = 6)) = false by simp; omega, show (decide (k = 7)) = false by simp; omega, show (decide (k = 11)) = false by simp; omega, show (decide (k = 12)) = false by simp; omega, Bool.or_false, cond_false]
theorem ActLine_twin {p0 : Deed} (hg : Dat.good p0) : impl_ActLine p0 = spec_ActLine p0 := by
  by_cases hk : 1 ≤ p0.Kind ∧ p0.Kind ≤ 12
  · obtain ⟨K, N, M, C⟩ := p0
    obtain ⟨n, hn⟩ : ∃ n : Fin 12, K = (n.val : Int) + 1 := ⟨⟨(K - 1).toNat, by have := hk.1; have := hk.2; simp only at *; omega⟩, by have := hk.1; show K = (((K - 1).toNat : Nat) : Int) + 1; simp only at *; omega⟩
    subst hn
    exact ActLine_12 N M C hg.2.1 hg.2.2.1 hg.2.2.2 n
  · have hok : impl_ActOk p0 = false := by
      cases h : impl_ActOk p0 with
      | false => rfl
      | true => exact absurd (impl_ActOk_t h) hk
    have hok2 : spec_ActOk p0 = false := hok
    unfold impl_ActLine spec_ActLine
    rw [actFields_out hk]
    show (bif (((!(impl_ActOk p0)) || _) || _) || _ then _ else _) = _
    simp only [hok, hok2, Bool.not_false, Bool.true_or, cond_true]

end Go.Proofs.YtnjidaonbcbphaaGreatDoor.Fw

/-
  What a cursor over drawn bytes is. No condition.
-/
namespace Go.Proofs.YtnjidaonbcbphaaGreatDoor.Fw
open Go.RowKit
set_option linter.unusedVariables false
set_option linter.unusedSimpArgs false
set_option maxRecDepth 100000
structure Cur where
  i : Nat
  h : Int
end Go.Proofs.YtnjidaonbcbphaaGreatDoor.Fw

/-
  What is drawn, and the words that a line is parted into. No condition.
-/
namespace Go.Proofs.YtnjidaonbcbphaaGreatDoor.Fw
open Go.RowKit
set_option linter.unusedVariables false
set_option linter.unusedSimpArgs false
set_option maxRecDepth 100000
/-! ## What is drawn -/
theorem fieldsGo_small : ∀ (l cur : List UInt8), ∀ w ∈ Lib.fieldsGo cur l, w.length ≤ cur.length + l.length
  | [], cur, w, h => by
    rw [Lib.fieldsGo] at h
    split at h
    · cases h
    · rw [List.mem_singleton] at h
      subst h
      exact Nat.le_add_right _ _
  | b :: l, cur, w, h => by
    rw [List.length_cons]
    cases hb : Lib.isSp b with
    | false =>
      rw [Lib.fieldsGo_more cur b l hb] at h
      have := fieldsGo_small l _ w h
      rw [List.length_append, List.length_singleton] at this
      omega
    | true =>
      cases cur with
      | nil =>
        rw [Lib.fieldsGo_sp b l hb] at h
        have := fieldsGo_small l _ w h
        rw [List.length_nil] at this ⊢
        omega
      | cons a r =>
        rw [Lib.fieldsGo_end _ b l hb (by simp)] at h
        rcases List.mem_cons.1 h with rfl | h
        · omega
        · have := fieldsGo_small l _ w h
          rw [List.length_nil] at this
          omega
theorem parts_mem {x w : ByteArray} (h : w ∈ (impl_PartsOf x).1) : w.size ≤ 600 := by
  have h1 : x.size ≤ 600 := by
    refine Classical.byContradiction fun hn => ?_
    unfold impl_PartsOf at h
    rw [decide_eq_true (show (x.size : Int) > 600 by omega)] at h
    cases h
  have h2 : w ∈ fieldsS x := by
    cases hb : (impl_PartsOf x).2 with
    | false =>
      rw [PartsOf_twin] at hb h
      rw [parts_false hb] at h
      cases h
    | true =>
      by_cases hall : ∀ j, j < x.size → 32 ≤ (byteAt x j).toNat ∧ (byteAt x j).toNat ≤ 126
      · have e : impl_PartsOf x = finW (fieldsS x) := by
          unfold impl_PartsOf
          rw [decide_eq_false (show ¬ (x.size : Int) > 600 by omega)]
          exact impl_parts_good x hall _ _ (by omega)
        rw [e] at h hb
        unfold finW at h hb
        cases hc : decide (((fieldsS x).length : Int) > 12) with
        | true =>
          rw [hc] at hb
          cases hb
        | false =>
          rw [hc] at h
          exact h
      · obtain ⟨j, hj⟩ := Classical.not_forall.1 hall
        obtain ⟨hj1, hj2⟩ := Classical.not_imp.1 hj
        unfold impl_PartsOf at h
        rw [decide_eq_false (show ¬ (x.size : Int) > 600 by omega)] at h
        have h' : w ∈ (impl_PartsOf_l1 x (x.size - 0) 0).1 := h
        rw [impl_parts_bad x hj1 hj2 _ _ (by omega) (Nat.zero_le _)] at h'
        cases h'
  rw [fieldsS_toBA] at h2
  obtain ⟨l, hl, rfl⟩ := List.mem_map.1 h2
  have := fieldsGo_small _ _ l hl
  rw [sbytes_length, List.length_nil] at this
  show l.toArray.size ≤ 600
  rw [List.size_toArray]
  omega
theorem parts_small (x : ByteArray) (k : Nat) : (nth (impl_PartsOf x).1 k).size ≤ 281474976710656 := by
  rcases Nat.lt_or_ge k (impl_PartsOf x).1.length with hk | hk
  · have e : nth (impl_PartsOf x).1 k = (impl_PartsOf x).1[k] := by simp [nth, List.getD_eq_getElem?_getD, hk]
    rw [e]
    have := parts_mem (List.getElem_mem hk)
    omega
  · unfold nth
    rw [List.getD_eq_getElem?_getD, List.getElem?_eq_none hk]
    exact Nat.zero_le _
theorem good_Call {k x y : Int} {a b e : ByteArray} (h1 : I64 k) (h2 : a.size ≤ maxLen) (h3 : b.size ≤ maxLen) (h4 : I64 x) (h5 : I64 y) (h6 : e.size ≤ maxLen) : Dat.good (Call.mk k a b x y e) := ⟨h1, h2, h3, h4, h5, h6⟩
end Go.Proofs.YtnjidaonbcbphaaGreatDoor.Fw

/- Contracts: each call returns what the model says. By program (wip/am/gen2.py). -/
namespace Go.Proofs.YtnjidaonbcbphaaGreatDoor.Fw
open Go.RowKit
set_option linter.unusedVariables false
set_option maxRecDepth 100000

/- F102 loop.example/g00974/spec.l38Join -/
def spec_l38Join_l1 (p0 : List ByteArray) : Nat → ByteArray → Nat → ByteArray
  | 0, v3, i => v3
  | n + 1, v3, i => spec_l38Join_l1 p0 n ((bif (decide ((i : Int) > 0)) then (v3 ++ ⟨#[32]⟩) else v3) ++ (nth p0 i)) (i + 1)
def spec_l38Join (p0 : List ByteArray) : ByteArray := spec_l38Join_l1 p0 (p0.length - 0) ⟨#[]⟩ 0
theorem c_spec_l38Join (p0 : List ByteArray) (hj : p0.length ≤ 12 ∧ ∀ k, (nth p0 k).size ≤ 600) : CTs 102 [.o (.sl ByteArray instDatByteArray p0)] [Re.c (.string (spec_l38Join p0))] := by
  refine en Tryz.func102 Tryz.ntmps102 fun w hG hgd => ?_
  obtain ⟨hg_p0, _⟩ := hgd
  have hl_p0 : p0.length ≤ 9223372036854775807 := hg_p0.1
  have hM := spec_l38Join.eq_1 p0
  refine ad 14 ?_
  refine Run.loopM (ι := ByteArray × Nat) (fun s => spec_l38Join_l1 p0 (p0.length - s.2) s.1 s.2) (fun s => ⟨22, 1, [(0, .sl 0 p0.length), (3, .v (.string s.1)), (4, .v (.int .i64 (s.2 : Int)))], [(0, .ros ByteArray instDatByteArray p0)]⟩) (fun s => s.2 ≤ p0.length ∧ s.1.size ≤ 601 * s.2) (fun s => p0.length - s.2) (⟨#[]⟩, 0) [0] [0] hM (by exact ⟨by (try dsimp only); omega, Nat.zero_le _⟩) su (by decide) ?_
  rintro ⟨v3, i⟩ hv hE
  try dsimp only at hE
  obtain ⟨hi, hv0⟩ := hv
  try dsimp only at hi hv0
  refine ad 8 ?_
  refine cd (fun h1 => ?_) (fun h1 => ?_)
  ·
    have h1l : i < p0.length := by have := of_decide_eq_true h1; omega
    have hM := hE.trans ((congrArg (fun n => spec_l38Join_l1 p0 n v3 i) (show p0.length - i = (p0.length - (i + 1)) + 1 by omega)).trans (spec_l38Join_l1.eq_2 _ _ _ _))
    have hji := hj.2 i
    have hjl := hj.1
    refine ad 9 ?_
    refine Run.mid ⟨22, 1, [(0, .sl 0 p0.length), (3, .v (.string (bif (decide ((i : Int) > 0)) then (v3 ++ ⟨#[32]⟩) else v3))), (4, .v (.int .i64 (i : Int)))], [(0, .ros ByteArray instDatByteArray p0)]⟩ ?_ ?_
    · refine cd (fun h2 => ?_) (fun h2 => ?_)
      ·
        refine ad 2 ?_
        refine op (ca (hs := (by first | exact szt | ((try simp only [Bool.cond_eq_ite]); (repeat' split); all_goals ((try simp only [ByteArray.size_append, bts, List.size_toArray, List.length_cons, List.length_nil]); omega))))) ?_
        refine ad 2 ?_
        exact Run.at [0] [0] (by first | exact su | (rw [h2]; exact su)) (by decide)
      ·
        refine ad 1 ?_
        exact Run.at [0] [0] (by first | exact su | (rw [h2]; exact su)) (by decide)
    refine ad 4 ?_
    have hg4 := good_nth (k := i) hg_p0 om
    refine op (ix (xs := p0) i om) ?_
    refine ad 1 ?_
    refine op (ca (hs := (by first | exact szt | ((try simp only [Bool.cond_eq_ite]); (repeat' split); all_goals ((try simp only [ByteArray.size_append, bts, List.size_toArray, List.length_cons, List.length_nil]); omega))))) ?_
    refine ad 6 ?_
    rw [wrapN (i := i) (by first | omega | exact om)]
    refine ad 2 ?_
    exact Run.again ((bif (decide ((i : Int) > 0)) then (v3 ++ ⟨#[32]⟩) else v3) ++ (nth p0 i), (i + 1)) [0] [1] ⟨by exact ⟨by (try dsimp only); omega, by (try dsimp only); (try simp only [Bool.cond_eq_ite]); (repeat' split); all_goals ((try simp only [ByteArray.size_append, bts, List.size_toArray, List.length_cons, List.length_nil]); omega)⟩, hM⟩ rfl (by show _ - _ < _ - _; (try dsimp only); omega) su (by decide)
  ·
    have h1l : ¬ (i < p0.length) := by have := of_decide_eq_false h1; omega
    have hM := hE.trans ((congrArg (fun n => spec_l38Join_l1 p0 n v3 i) (show p0.length - i = 0 by omega)).trans (spec_l38Join_l1.eq_1 _ _ _))
    refine ad 6 ?_
    exact rz (rs := [.tmp 2]) (congrArg (fun x => [Re.c (.string x)]) hM)

end Go.Proofs.YtnjidaonbcbphaaGreatDoor.Fw
/-
  An action line is its words; the end of a reading. No condition.
-/
namespace Go.Proofs.YtnjidaonbcbphaaGreatDoor.Fw
open Go.RowKit
set_option linter.unusedVariables false
set_option linter.unusedSimpArgs false
set_option maxRecDepth 100000
/-! ## Lines and their words -/
def putW (v w : ByteArray) : ByteArray := (v ++ (⟨#[32]⟩ : ByteArray)) ++ w
def joinB : List ByteArray → ByteArray
  | [] => ⟨#[]⟩
  | w :: r => r.foldl putW w
theorem foldl_putW : ∀ (r : List ByteArray) (x u : ByteArray), x ++ r.foldl putW u = r.foldl putW (x ++ u)
  | [], x, u => rfl
  | w :: r, x, u => by
    rw [List.foldl_cons, List.foldl_cons, foldl_putW r]
    unfold putW
    simp only [ByteArray.append_assoc]
theorem joinB_app {ws us : List ByteArray} (h1 : ws ≠ []) (h2 : us ≠ []) : joinB (ws ++ us) = putW (joinB ws) (joinB us) := by
  cases ws with
  | nil => exact absurd rfl h1
  | cons w r =>
    cases us with
    | nil => exact absurd rfl h2
    | cons u s =>
      show (r ++ u :: s).foldl putW w = putW (r.foldl putW w) (s.foldl putW u)
      rw [List.foldl_append, List.foldl_cons]
      show s.foldl putW ((r.foldl putW w ++ (⟨#[32]⟩ : ByteArray)) ++ u) = (r.foldl putW w ++ (⟨#[32]⟩ : ByteArray)) ++ s.foldl putW u
      rw [foldl_putW]
def cleans (ws : List ByteArray) : Prop := ∀ w ∈ ws, clean (sbytes w)
theorem Wd.foldl {c : Call} : ∀ (r : List ByteArray) {v : ByteArray} {ws : List ByteArray}, Wd c v ws → cleans r → Wd c (r.foldl putW v) (ws ++ r)
  | [], v, ws, h, _ => by rw [List.append_nil]; exact h
  | w :: r, v, ws, h, hc => by
    have := Wd.foldl r (h.add (hc w (List.mem_cons_self))) (fun x hx => hc x (List.mem_cons_of_mem _ hx))
    rw [List.append_assoc] at this
    exact this
theorem joinB_wd (c : Call) {ws : List ByteArray} (h : cleans ws) : Wd c (joinB ws) ws := by
  cases ws with
  | nil => exact ⟨rfl, fun b hb => by cases hb⟩
  | cons w r =>
    have hw := h w (List.mem_cons_self)
    have h0 : Wd c w [w] := by
      refine ⟨?_, fun b hb => ?_⟩
      · rw [fieldsS_toBA, fieldsGo_clean _ _ hw.2 (by simpa using hw.1)]
        rfl
      · have := hw.2 b hb
        omega
    exact h0.foldl r fun x hx => h x (List.mem_cons_of_mem _ hx)
theorem joinB_inj {ws us : List ByteArray} (h1 : cleans ws) (h2 : cleans us) (h : joinB ws = joinB us) : ws = us := by
  rw [← (joinB_wd C0 h1).f, ← (joinB_wd C0 h2).f, h]
theorem parts_join {ws : List ByteArray} (h : cleans ws) (hs : (joinB ws).size ≤ 600) (hl : ws.length ≤ 12) : impl_PartsOf (joinB ws) = (ws, true) := by
  rw [parts_of hs (joinB_wd C0 h).o, (joinB_wd C0 h).f]
  unfold finW
  rw [decide_eq_false (show ¬ (ws.length : Int) > 12 by omega)]
  rfl
theorem empty_app (x : ByteArray) : (⟨#[]⟩ : ByteArray) ++ x = x := ByteArray.empty_append
theorem Join_l1 (ps : List ByteArray) : ∀ n i v, 1 ≤ i → i + n = ps.length → spec_l38Join_l1 ps n v i = (ps.drop i).foldl putW v := by
  intro n
  induction n with
  | zero =>
    intro i v _ h
    rw [List.drop_eq_nil_of_le (by omega)]
    rfl
  | succ n ih =>
    intro i v h1 h
    have hi : i < ps.length := by omega
    have e : nth ps i = ps[i] := by simp [nth, List.getD_eq_getElem?_getD, hi]
    rw [spec_l38Join_l1, decide_eq_true (show (i : Int) > 0 by omega), ih (i + 1) _ (by omega) (by omega), List.drop_eq_getElem_cons hi, e]
    rfl
theorem Join_is (ps : List ByteArray) : spec_l38Join ps = joinB ps := by
  cases ps with
  | nil => rfl
  | cons w r =>
    unfold spec_l38Join
    rw [List.length_cons, show r.length + 1 - 0 = r.length + 1 from rfl, spec_l38Join_l1, Join_l1 _ _ _ _ (by omega) (by rw [List.length_cons]; omega)]
    show r.foldl putW ((⟨#[]⟩ : ByteArray) ++ w) = r.foldl putW w
    rw [empty_app]
/-! ## A call's line is its words -/
theorem line_join {c : Call} (hk : 1 ≤ c.Kind ∧ c.Kind ≤ 22) (hx : c.Text.size ≤ 64) (hA : spec_l38Fits c.A = true) (hB : spec_l38Fits c.B = true) :
    ∀ n i v, i + n = (spec_l38Uses c.Kind).size → spec_CallLine_l1 c n v i = ⟨#[]⟩ ∨ (spec_CallLine_l1 c n v i = (lw c i n).foldl putW v ∧ cleans (lw c i n) ∧ (spec_CallLine_l1 c n v i).size ≤ v.size + 129 * n) := by
  have hu : ∀ i, i < (spec_l38Uses c.Kind).size → useB (byteAt (spec_l38Uses c.Kind) i) = true := fun i hi => by
    obtain ⟨m, hm⟩ := of22 hk
    rw [hm] at hi ⊢
    have h3 := spec_l38Uses_size ((m.val : Int) + 1)
    exact useB_22 m ⟨i, by omega⟩ hi
  intro n
  induction n with
  | zero => intro i v h; exact .inr ⟨rfl, (fun w hw => by cases hw), Nat.le_add_right _ _⟩
  | succ n ih =>
    intro i v h
    have go : ∀ w : ByteArray, clean (sbytes w) → w.size ≤ 128 → ftx c (byteAt (spec_l38Uses c.Kind) i) = w → spec_CallLine_l1 c (n + 1) v i = spec_CallLine_l1 c n ((v ++ (⟨#[32]⟩ : ByteArray)) ++ w) (i + 1) →
        spec_CallLine_l1 c (n + 1) v i = ⟨#[]⟩ ∨ (spec_CallLine_l1 c (n + 1) v i = (lw c i (n + 1)).foldl putW v ∧ cleans (lw c i (n + 1)) ∧ (spec_CallLine_l1 c (n + 1) v i).size ≤ v.size + 129 * (n + 1)) := fun w h1 h2 h3 h4 => by
      rw [h4]
      have el : lw c i (n + 1) = w :: lw c (i + 1) n := by
        unfold lw
        rw [List.range'_succ, List.map_cons, h3]
      rcases ih (i + 1) ((v ++ (⟨#[32]⟩ : ByteArray)) ++ w) (by omega) with e | ⟨e1, e2, e3⟩
      · exact .inl e
      · refine .inr ⟨?_, ?_, ?_⟩
        · rw [el]
          exact e1
        · rw [el]
          intro x hx
          rcases List.mem_cons.1 hx with rfl | hx
          · exact h1
          · exact e2 x hx
        · rw [sp_size] at e3
          omega
    have hi := hu i (by omega)
    rw [spec_CallLine_l1] at *
    have hgo := go
    revert hgo
    generalize hf : byteAt (spec_l38Uses c.Kind) i = u at hi ⊢
    intro hgo
    simp only [useB, Bool.or_eq_true, beq_iff_eq] at hi
    rcases hi with (((rfl | rfl) | rfl) | rfl) | rfl
    · rw [show ((UInt8.toNat 110 : Nat) : Int) = 110 from rfl] at *
      cases hn : spec_NameOk c.Name with
      | false => exact .inl rfl
      | true =>
        rw [hn] at hgo
        exact hgo c.Name (NameOk_clean hn).1 (by have := (NameOk_clean hn).2; omega) rfl rfl
    · rw [show ((UInt8.toNat 116 : Nat) : Int) = 116 from rfl] at *
      cases hn : spec_NameOk c.To with
      | false => exact .inl rfl
      | true =>
        rw [hn] at hgo
        exact hgo c.To (NameOk_clean hn).1 (by have := (NameOk_clean hn).2; omega) rfl rfl
    · exact hgo (spec_Decimal c.A) (dec_clean hA).1 (by have := (dec_clean hA).2; omega) rfl rfl
    · exact hgo (spec_Decimal c.B) (dec_clean hB).1 (by have := (dec_clean hB).2; omega) rfl rfl
    · exact hgo (hexText c.Text) (hexText_clean hx).1 (hexText_clean hx).2 rfl rfl
def cw (c : Call) : List ByteArray := spec_CallName c.Kind :: lw c 0 (spec_l38Uses c.Kind).size
theorem cw_len (c : Call) : 1 ≤ (cw c).length ∧ (cw c).length ≤ 4 := by
  have hu := spec_l38Uses_size c.Kind
  unfold cw lw
  rw [List.length_cons, List.length_map, List.length_range']
  omega
theorem CallLine_join {c : Call} (h : spec_CallLine c ≠ ⟨#[]⟩) : spec_CallLine c = joinB (cw c) ∧ cleans (cw c) ∧ (spec_CallLine c).size ≤ 397 := by
  obtain ⟨hk, _, hok, ht, hA, hB⟩ := CallLine_words c h
  obtain ⟨_, _, _, hx⟩ := spec_CallOk_t hok
  have e : spec_CallLine c = spec_CallLine_l1 c ((spec_l38Uses c.Kind).size - 0) (spec_CallName c.Kind) 0 := by
    unfold spec_CallLine
    rw [hok, ht, decide_eq_true rfl, hA, hB]
    rfl
  rw [e] at h ⊢
  have hn := spec_CallName_size c.Kind
  have hu := spec_l38Uses_size c.Kind
  rcases line_join hk hx hA hB ((spec_l38Uses c.Kind).size - 0) 0 (spec_CallName c.Kind) (by omega) with h' | ⟨h1, h2, h3⟩
  · exact absurd h' h
  · refine ⟨h1, fun w hw => ?_, by omega⟩
    rcases List.mem_cons.1 hw with rfl | hw
    · exact name_clean hk
    · exact h2 w hw
/-! ## An action's line is its words -/
theorem of12 {k : Int} (h : 1 ≤ k ∧ k ≤ 12) : ∃ n : Fin 12, k = (n.val : Int) + 1 := ⟨⟨(k - 1).toNat, by omega⟩, by show k = (((k - 1).toNat : Nat) : Int) + 1; omega⟩
theorem acleanB_12 : ∀ n : Fin 12, (sbytes (spec_ActName ((n.val : Int) + 1))).all (fun b => Nat.ble 33 b.toNat && Nat.ble b.toNat 126) = true ∧ (sbytes (spec_ActName ((n.val : Int) + 1))).isEmpty = false := by decide +kernel
theorem aname_clean {k : Int} (h : 1 ≤ k ∧ k ≤ 12) : clean (sbytes (spec_ActName k)) := by
  obtain ⟨n, rfl⟩ := of12 h
  exact clean_of (acleanB_12 n).1 (acleanB_12 n).2
def aw (a : Deed) : List ByteArray := bif (decide (a.Kind = 8)) || ((decide (a.Kind = 9)) || (decide (a.Kind = 10))) then [spec_ActName a.Kind] else (bif (decide (a.Kind = 2)) || (decide (a.Kind = 7)) then spec_ActName a.Kind :: spec_Decimal a.N :: cw a.Call else (bif decide (a.Kind = 4) then [spec_ActName a.Kind, spec_Decimal a.N, spec_Decimal a.M] else [spec_ActName a.Kind, spec_Decimal a.N]))
theorem ActLine_join' {a : Deed} (h : spec_ActLine a ≠ ⟨#[]⟩) : spec_ActLine a = joinB (aw a) ∧ cleans (aw a) ∧ (spec_ActLine a).size ≤ 597 ∧ (aw a).length ≤ 12 ∧ aw a ≠ [] ∧ spec_l38Told a = a := by
  cases hb : (((!(spec_ActOk a)) || (!(decide ((spec_l38Told a) = a)))) || (!(spec_l38Fits a.N))) || (!(spec_l38Fits a.M)) with
  | true =>
    unfold spec_ActLine at h
    rw [hb] at h
    exact absurd rfl h
  | false =>
    unfold spec_ActLine at h ⊢
    rw [hb] at h ⊢
    simp only [Bool.or_eq_false_iff, Bool.not_eq_false', decide_eq_true_eq] at hb
    obtain ⟨⟨⟨hok, ht⟩, hN⟩, hM⟩ := hb
    have hk := spec_ActOk_t hok
    have c0 := aname_clean hk
    have c1 := dec_clean hN
    have c2 := dec_clean hM
    have s0 := spec_ActName_size a.Kind
    rw [cond_false] at h ⊢
    unfold aw
    cases e1 : (decide (a.Kind = 8)) || ((decide (a.Kind = 9)) || (decide (a.Kind = 10))) with
    | true =>
      refine ⟨rfl, fun w hw => ?_, by show (spec_ActName a.Kind).size ≤ 597; omega, by show ([_] : List ByteArray).length ≤ 12; simp, by simp, ht⟩
      rw [List.mem_singleton.1 hw]
      exact c0
    | false =>
      rw [e1, cond_false] at h
      rw [cond_false, cond_false]
      cases e2 : (decide (a.Kind = 2)) || (decide (a.Kind = 7)) with
      | true =>
        rw [e2, cond_true] at h
        rw [cond_true, cond_true]
        cases e3 : decide ((spec_CallLine a.Call) = ⟨#[]⟩) with
        | true =>
          rw [e3] at h
          exact absurd rfl h
        | false =>
          obtain ⟨j1, j2, j3⟩ := CallLine_join (of_decide_eq_false e3)
          have hl := cw_len a.Call
          refine ⟨?_, fun w hw => ?_, ?_, by rw [List.length_cons, List.length_cons]; omega, by simp, ht⟩
          · show (putW (putW (spec_ActName a.Kind) (spec_Decimal a.N)) (spec_CallLine a.Call)) = joinB ([spec_ActName a.Kind, spec_Decimal a.N] ++ cw a.Call)
            rw [joinB_app (by simp) (by intro e; rw [e] at hl; simp at hl), j1]
            rfl
          · rcases List.mem_cons.1 hw with rfl | hw
            · exact c0
            · rcases List.mem_cons.1 hw with rfl | hw
              · exact c1.1
              · exact j2 w hw
          · have h1 := c1.2
            show (putW (putW (spec_ActName a.Kind) (spec_Decimal a.N)) (spec_CallLine a.Call)).size ≤ 597
            unfold putW
            rw [sp_size, sp_size]
            omega
      | false =>
        rw [cond_false, cond_false]
        cases e3 : decide (a.Kind = 4) with
        | true =>
          refine ⟨rfl, fun w hw => ?_, ?_, by show ([_, _, _] : List ByteArray).length ≤ 12; simp, by simp, ht⟩
          · rcases List.mem_cons.1 hw with rfl | hw
            · exact c0
            · rcases List.mem_cons.1 hw with rfl | hw
              · exact c1.1
              · rw [List.mem_singleton.1 hw]
                exact c2.1
          · have h1 := c1.2
            have h2 := c2.2
            show (putW (putW (spec_ActName a.Kind) (spec_Decimal a.N)) (spec_Decimal a.M)).size ≤ 597
            unfold putW
            rw [sp_size, sp_size]
            omega
        | false =>
          refine ⟨rfl, fun w hw => ?_, ?_, by show ([_, _] : List ByteArray).length ≤ 12; simp, by simp, ht⟩
          · rcases List.mem_cons.1 hw with rfl | hw
            · exact c0
            · rw [List.mem_singleton.1 hw]
              exact c1.1
          · have h1 := c1.2
            show (putW (spec_ActName a.Kind) (spec_Decimal a.N)).size ≤ 597
            unfold putW
            rw [sp_size]
            omega
theorem ActLine_join {a : Deed} (h : spec_ActLine a ≠ ⟨#[]⟩) : spec_ActLine a = joinB (aw a) ∧ cleans (aw a) ∧ (spec_ActLine a).size ≤ 600 ∧ (aw a).length ≤ 12 ∧ aw a ≠ [] ∧ spec_l38Told a = a :=
  let ⟨x1, x2, x3, x4⟩ := ActLine_join' h
  ⟨x1, x2, Nat.le_trans x3 (by decide), x4⟩
/-! ## The end of a reading -/
theorem same_nth {a b : List ByteArray} (hl : a.length = b.length) (h : ∀ j, j < a.length → nth a j = nth b j) : a = b := by
  apply List.ext_getElem hl
  intro j h1 h2
  have := h j h1
  simpa [nth, List.getD_eq_getElem?_getD, h1, h2] using this
theorem Equal_is (a b : List ByteArray) : slices_Equal_string a b = decide (a = b) := by
  have key : a.length = b.length → ∀ n i, i + n = a.length → slices_Equal_string_l1 a b n i = true → ∀ j, i ≤ j → j < a.length → nth a j = nth b j := by
    intro hl n
    induction n with
    | zero => intro i h _ j h1 h2; omega
    | succ n ih =>
      intro i h ht j h1 h2
      rw [slices_Equal_string_l1] at ht
      by_cases e : nth a i = nth b i
      · rw [decide_eq_true e] at ht
        by_cases ej : i = j
        · subst ej
          exact e
        · exact ih (i + 1) (by omega) ht j (by omega) h2
      · rw [decide_eq_false e] at ht
        cases ht
  by_cases e : a = b
  · subst e
    rw [same_refl, decide_eq_true rfl]
  · rw [decide_eq_false e]
    cases hs : slices_Equal_string a b with
    | false => rfl
    | true =>
      refine absurd ?_ e
      unfold slices_Equal_string at hs
      by_cases hl : a.length = b.length
      · rw [decide_eq_true (show (a.length : Int) = (b.length : Int) by omega)] at hs
        exact same_nth hl fun j hj => key hl (a.length - 0) 0 (by omega) hs j (Nat.zero_le _) hj
      · rw [decide_eq_false (show ¬ (a.length : Int) = (b.length : Int) by omega)] at hs
        cases hs
def D0 : Deed := Deed.mk 0 0 0 (Call.mk 0 ⟨#[]⟩ ⟨#[]⟩ 0 0 ⟨#[]⟩)
def finAI (ps : List ByteArray) (a : Deed) : Deed × Bool := bif !(slices_Equal_string ((impl_PartsOf (impl_ActLine a)).1) ps) then (D0, false) else (a, true)
def finAS (ps : List ByteArray) (a : Deed) : Deed × Bool := bif (decide ((spec_ActLine a) = ⟨#[]⟩)) || (!decide ((spec_ActLine a) = (spec_l38Join ps))) then (D0, false) else (a, true)
theorem finAS_is {ps : List ByteArray} {a : Deed} (hc : cleans ps) : finAS ps a = bif decide (spec_ActLine a ≠ ⟨#[]⟩ ∧ aw a = ps) then (a, true) else (D0, false) := by
  unfold finAS
  by_cases h : spec_ActLine a = ⟨#[]⟩
  · rw [decide_eq_true h, decide_eq_false (fun e : spec_ActLine a ≠ ⟨#[]⟩ ∧ aw a = ps => e.1 h)]
    rfl
  · rw [decide_eq_false h]
    obtain ⟨j1, j2, _⟩ := ActLine_join h
    by_cases e : aw a = ps
    · rw [decide_eq_true (⟨h, e⟩ : spec_ActLine a ≠ ⟨#[]⟩ ∧ aw a = ps), decide_eq_true (show spec_ActLine a = spec_l38Join ps by rw [j1, e, Join_is])]
      rfl
    · rw [decide_eq_false (fun h2 : spec_ActLine a ≠ ⟨#[]⟩ ∧ aw a = ps => e h2.2), decide_eq_false (fun h2 : spec_ActLine a = spec_l38Join ps => e (joinB_inj j2 hc (by rw [← j1, h2, Join_is])))]
      rfl
theorem finAI_is {ps : List ByteArray} {a : Deed} (hg : Dat.good a) (hp : ps ≠ []) : finAI ps a = bif decide (spec_ActLine a ≠ ⟨#[]⟩ ∧ aw a = ps) then (a, true) else (D0, false) := by
  unfold finAI
  rw [ActLine_twin hg, Equal_is]
  by_cases h : spec_ActLine a = ⟨#[]⟩
  · rw [h, decide_eq_false (fun e : (impl_PartsOf ⟨#[]⟩).1 = ps => hp e.symm), decide_eq_false (fun e : (⟨#[]⟩ : ByteArray) ≠ ⟨#[]⟩ ∧ aw a = ps => e.1 rfl)]
    rfl
  · obtain ⟨j1, j2, j3, j4, _⟩ := ActLine_join h
    have e : impl_PartsOf (spec_ActLine a) = (aw a, true) := by
      rw [j1] at j3 ⊢
      exact parts_join j2 j3 j4
    rw [e]
    by_cases e2 : aw a = ps
    · rw [decide_eq_true (⟨h, e2⟩ : spec_ActLine a ≠ ⟨#[]⟩ ∧ aw a = ps), decide_eq_true e2]
      rfl
    · rw [decide_eq_false (fun h2 : spec_ActLine a ≠ ⟨#[]⟩ ∧ aw a = ps => e2 h2.2), decide_eq_false e2]
      rfl
theorem fin_no {ps : List ByteArray} {a : Deed} (hc : cleans ps) (h : spec_ActLine a ≠ ⟨#[]⟩ → aw a ≠ ps) : finAS ps a = (D0, false) := by
  rw [finAS_is hc, decide_eq_false (fun e => h e.1 e.2)]
  rfl
/-! ## Words of a line that is read -/
theorem fieldsGo_cleans : ∀ (l cur : List UInt8), (∀ b ∈ l, 32 ≤ b.toNat ∧ b.toNat ≤ 126) → (∀ b ∈ cur, 33 ≤ b.toNat ∧ b.toNat ≤ 126) → ∀ w ∈ Lib.fieldsGo cur l, clean w
  | [], cur, _, hc, w, hw => by
    rw [Lib.fieldsGo] at hw
    split at hw
    · cases hw
    · rename_i h
      rw [List.mem_singleton] at hw
      subst hw
      exact ⟨by intro e; rw [e] at h; exact h rfl, hc⟩
  | b :: l, cur, hl, hc, w, hw => by
    have hb := hl b (List.mem_cons_self)
    have hl' : ∀ x ∈ l, 32 ≤ x.toNat ∧ x.toNat ≤ 126 := fun x hx => hl x (List.mem_cons_of_mem _ hx)
    cases hs : Lib.isSp b with
    | false =>
      rw [Lib.fieldsGo_more cur b l hs] at hw
      refine fieldsGo_cleans l _ hl' (fun x hx => ?_) w hw
      rcases List.mem_append.1 hx with hx | hx
      · exact hc x hx
      · rw [List.mem_singleton.1 hx]
        rw [isSp_in hb.1 hb.2] at hs
        have := of_decide_eq_false hs
        omega
    | true =>
      cases cur with
      | nil =>
        rw [Lib.fieldsGo_sp b l hs] at hw
        exact fieldsGo_cleans l [] hl' (fun x hx => by cases hx) w hw
      | cons a r =>
        rw [Lib.fieldsGo_end _ b l hs (by simp)] at hw
        rcases List.mem_cons.1 hw with rfl | hw
        · exact ⟨by simp, hc⟩
        · exact fieldsGo_cleans l [] hl' (fun x hx => by cases hx) w hw
theorem parts_facts (x : ByteArray) : cleans (impl_PartsOf x).1 ∧ (impl_PartsOf x).1.length ≤ 12 := by
  cases hb : (impl_PartsOf x).2 with
  | false =>
    have e : (impl_PartsOf x).1 = [] := by
      rw [PartsOf_twin] at hb ⊢
      exact parts_false hb
    rw [e]
    exact ⟨fun w hw => (by cases hw), Nat.zero_le _⟩
  | true =>
    have hs : x.size ≤ 600 := by
      refine Classical.byContradiction fun hn => ?_
      unfold impl_PartsOf at hb
      rw [decide_eq_true (show (x.size : Int) > 600 by omega)] at hb
      cases hb
    have hall : ∀ j, j < x.size → 32 ≤ (byteAt x j).toNat ∧ (byteAt x j).toNat ≤ 126 := by
      refine Classical.byContradiction fun hn => ?_
      obtain ⟨j, hj⟩ := Classical.not_forall.1 hn
      obtain ⟨hj1, hj2⟩ := Classical.not_imp.1 hj
      unfold impl_PartsOf at hb
      rw [decide_eq_false (show ¬ (x.size : Int) > 600 by omega)] at hb
      have hb' : (impl_PartsOf_l1 x (x.size - 0) 0).2 = true := hb
      rw [impl_parts_bad x hj1 hj2 _ _ (by omega) (Nat.zero_le _)] at hb'
      cases hb'
    have e : impl_PartsOf x = finW (fieldsS x) := by
      unfold impl_PartsOf
      rw [decide_eq_false (show ¬ (x.size : Int) > 600 by omega)]
      exact impl_parts_good x hall _ _ (by omega)
    rw [e] at hb ⊢
    unfold finW at hb ⊢
    cases hc : decide (((fieldsS x).length : Int) > 12) with
    | true =>
      rw [hc] at hb
      cases hb
    | false =>
      have := of_decide_eq_false hc
      refine ⟨fun w hw => ?_, by show (fieldsS x).length ≤ 12; omega⟩
      have hw' : w ∈ fieldsS x := hw
      rw [fieldsS_toBA] at hw'
      obtain ⟨l, hl, rfl⟩ := List.mem_map.1 hw'
      exact fieldsGo_cleans _ [] (fun b hb => by obtain ⟨j, hj, rfl⟩ := mem_at hb; exact hall j hj) (fun b hb => by cases hb) l hl
/-! ## What is read of a call is good -/
def small (p : List ByteArray) : Prop := p.length ≤ 1048576 ∧ ∀ k, (nth p k).size ≤ 281474976710656
theorem small_good {p : List ByteArray} (h : small p) : Dat.good p := by
  refine ⟨by have := h.1; omega, fun x hx => ?_⟩
  obtain ⟨j, hj, rfl⟩ := List.getElem_of_mem hx
  have := h.2 j
  have e : nth p j = p[j] := by simp [nth, List.getD_eq_getElem?_getD, hj]
  rw [e] at this
  show p[j].size ≤ maxLen
  unfold maxLen
  omega
theorem parts_smalls (x : ByteArray) : small (impl_PartsOf x).1 := ⟨by have := (parts_facts x).2; omega, parts_small x⟩
theorem cutL_drop (p : List ByteArray) (l : Nat) : cutL p l p.length = p.drop l := by
  unfold cutL
  simp
theorem small_drop {p : List ByteArray} (h : small p) (l : Nat) : small (cutL p l p.length) := by
  rw [cutL_drop]
  refine ⟨by rw [List.length_drop]; have := h.1; omega, fun k => ?_⟩
  have : nth (p.drop l) k = nth p (l + k) := by simp [nth, List.getD_eq_getElem?_getD]
  rw [this]
  exact h.2 _
theorem small_bif {b : Bool} {x y : List ByteArray} (h1 : small x) (h2 : small y) : small (bif b then x else y) := by cases b <;> assumption
theorem good_C00 : Dat.good (Call.mk 0 ⟨#[]⟩ ⟨#[]⟩ 0 0 ⟨#[]⟩) := good_Call (gi 0) (gs ⟨#[]⟩) (gs ⟨#[]⟩) (gi 0) (gi 0) (gs ⟨#[]⟩)
theorem line_good {c : Call} (h : spec_CallLine c ≠ ⟨#[]⟩) : Dat.good c := by
  obtain ⟨hk, _, hok, _, hA, hB⟩ := CallLine_words c h
  obtain ⟨_, h1, h2, h3⟩ := spec_CallOk_t hok
  obtain ⟨a, ha, ha2⟩ := fits_nat hA
  obtain ⟨b, hb, hb2⟩ := fits_nat hB
  obtain ⟨K, N, T, A, B, X⟩ := c
  simp only at hk h1 h2 h3 ha hb
  exact good_Call (by unfold I64; omega) (by unfold maxLen; omega) (by unfold maxLen; omega) (by unfold I64; omega) (by unfold I64; omega) (by unfold maxLen; omega)
theorem finRC_good {p : List ByteArray} {c : Call} (hp : p.length ≠ 0) : Dat.good (finRC p c).1 := by
  unfold finRC
  cases hb : (!((spec_PartsOf (spec_CallLine c)).2)) || (!(spec_l03Same ((spec_PartsOf (spec_CallLine c)).1) p)) with
  | true => exact good_C00
  | false =>
    refine line_good (c := c) fun e => ?_
    rw [e, same_len (a := (spec_PartsOf ⟨#[]⟩).1) (b := p) (fun h => hp h.symm)] at hb
    simp at hb
theorem spec_ReadCall_good (p : List ByteArray) : Dat.good (spec_ReadCall p).1 := by
  unfold spec_ReadCall
  by_cases h0 : p.length = 0
  · rw [decide_eq_true (show (p.length : Int) = 0 by omega)]
    exact good_C00
  · rw [decide_eq_false (show ¬ (p.length : Int) = 0 by omega), spec_l1_kind, spec_l1_zero]
    obtain ⟨x, hx⟩ := spec_l2_any p (kindL (nth p 0) (23 - 1) 0 1) (1 + (23 - 1)) (kC p (kindL (nth p 0) (23 - 1) 0 1)) ((spec_l38Uses (kindL (nth p 0) (23 - 1) 0 1)).size - 0) ⟨#[]⟩ ⟨#[]⟩ 0 0 ⟨#[]⟩ 0
    rw [hx]
    exact finRC_good h0
theorem impl_ReadCall_good (p : List ByteArray) (h : small p := by assumption) : Dat.good (impl_ReadCall p).1 := by
  rw [ReadCall_twin (small_good h) h.1]
  exact spec_ReadCall_good p
theorem spec_ActLine_size {a : Deed} : (spec_ActLine a).size ≤ 600 := by
  by_cases h : spec_ActLine a = ⟨#[]⟩
  · rw [h]
    exact Nat.zero_le _
  · exact (ActLine_join h).2.2.1
theorem impl_ActLine_size {a : Deed} (hg : Dat.good a) : (impl_ActLine a).size ≤ 600 := by
  rw [ActLine_twin hg]
  exact spec_ActLine_size
theorem sparts12 (x : ByteArray) : (spec_PartsOf x).1.length ≤ 12 ∧ ∀ k, (nth (spec_PartsOf x).1 k).size ≤ 600 := by
  rw [← PartsOf_twin]
  refine ⟨(parts_facts x).2, fun k => ?_⟩
  rcases Nat.lt_or_ge k (impl_PartsOf x).1.length with hk | hk
  · have e : nth (impl_PartsOf x).1 k = (impl_PartsOf x).1[k] := by simp [nth, List.getD_eq_getElem?_getD, hk]
    rw [e]
    exact parts_mem (List.getElem_mem hk)
  · unfold nth
    rw [List.getD_eq_getElem?_getD, List.getElem?_eq_none hk]
    exact Nat.zero_le _
theorem good_parts {c : Call} (h : Dat.good c) : I64 c.Kind ∧ c.Name.size ≤ maxLen ∧ c.To.size ≤ maxLen ∧ I64 c.A ∧ I64 c.B ∧ c.Text.size ≤ maxLen := h
theorem impl_ReadCall_gs (p : List ByteArray) (h : small p := by assumption) : I64 (impl_ReadCall p).1.Kind ∧ (impl_ReadCall p).1.Name.size ≤ maxLen ∧ (impl_ReadCall p).1.To.size ≤ maxLen ∧ I64 (impl_ReadCall p).1.A ∧ I64 (impl_ReadCall p).1.B ∧ (impl_ReadCall p).1.Text.size ≤ maxLen := good_parts (impl_ReadCall_good p h)
theorem spec_ReadCall_gs (p : List ByteArray) : I64 (spec_ReadCall p).1.Kind ∧ (spec_ReadCall p).1.Name.size ≤ maxLen ∧ (spec_ReadCall p).1.To.size ≤ maxLen ∧ I64 (spec_ReadCall p).1.A ∧ I64 (spec_ReadCall p).1.B ∧ (spec_ReadCall p).1.Text.size ≤ maxLen := good_parts (spec_ReadCall_good p)

end Go.Proofs.YtnjidaonbcbphaaGreatDoor.Fw
