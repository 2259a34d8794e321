/-
  The texts KE, PM, W3, GEi of this proof, one behind the other: what each proves stands at its head. No condition.
-/
import Derived.Test.YtnjidaonbcbphaaGreatDoorLbA
import Derived.Test.YtnjidaonbcbphaaGreatDoorLbB
import Derived.Test.YtnjidaonbcbphaaGreatDoorLbC
import Derived.Test.YtnjidaonbcbphaaGreatDoorLbD
import Derived.Test.YtnjidaonbcbphaaGreatDoorLbE
/- Contracts: each call returns what the model says. By program (wip/am/gen2.py). -/
namespace Go.Proofs.YtnjidaonbcbphaaGreatDoor.Fw
open Go.RowKit
set_option linter.unusedVariables false
set_option maxRecDepth 100000

theorem fok79 : FnOk Tryz.prog 79 := ⟨_, Tryz.func79, rfl, by kernel_rfl⟩
theorem fok80 : FnOk Tryz.prog 80 := ⟨_, Tryz.func80, rfl, by kernel_rfl⟩
theorem fok86 : FnOk Tryz.prog 86 := ⟨_, Tryz.func86, rfl, by kernel_rfl⟩
theorem fok92 : FnOk Tryz.prog 92 := ⟨_, Tryz.func92, rfl, by kernel_rfl⟩
theorem fok94 : FnOk Tryz.prog 94 := ⟨_, Tryz.func94, rfl, by kernel_rfl⟩
theorem fok95 : FnOk Tryz.prog 95 := ⟨_, Tryz.func95, rfl, by kernel_rfl⟩
theorem fok101 : FnOk Tryz.prog 101 := ⟨_, Tryz.func101, rfl, by kernel_rfl⟩
theorem fok151 : FnOk Tryz.prog 151 := ⟨_, Tryz.func151, rfl, by kernel_rfl⟩
theorem fok153 : FnOk Tryz.prog 153 := ⟨_, Tryz.func153, rfl, by kernel_rfl⟩
theorem fok154 : FnOk Tryz.prog 154 := ⟨_, Tryz.func154, rfl, by kernel_rfl⟩
theorem fok157 : FnOk Tryz.prog 157 := ⟨_, Tryz.func157, rfl, by kernel_rfl⟩
theorem fok192 : FnOk Tryz.prog 192 := ⟨_, Tryz.func192, rfl, by kernel_rfl⟩
/- F92 loop.example/g00974/spec.l01Once -/
def spec_l01Once (p0b : List (UInt8)) (p0 : Cur) (p1 : Int) : Bool × Cur := (decide (((spec_l01Below p0b p0 p1).1) = 0), ((spec_l01Below p0b p0 p1).2))
theorem c_spec_l01Once (p0b : List (UInt8)) (p0 : Cur) (p1 : Int) : CTMs 92 2 2 [(0, .var [.sl 1 p0b.length, .v (.int .i64 (p0.i : Int)), .v (.int .i64 p0.h)] 183)] [(1, .ros UInt8 instDatUInt8 p0b)] [.pt 0 0, .v (.int .i64 p1)] [(0, .var [.sl 1 p0b.length, .v (.int .i64 (((spec_l01Once p0b p0 p1).2).i : Int)), .v (.int .i64 (((spec_l01Once p0b p0 p1).2).h))] 183)] 0 [.v (.bool ((spec_l01Once p0b p0 p1).1))] True := by
  refine enM Tryz.func92 Tryz.ntmps92 fun S w p hG hb hg => ?_
  refine Run.cg (σ' := ⟨9, 2, [(0, .pt 0 0), (1, .v (.int .i64 p1))], [(0, .var [.sl 1 p0b.length, .v (.int .i64 (p0.i : Int)), .v (.int .i64 p0.h)] 183), (1, .ros UInt8 instDatUInt8 p0b), (0, .pin (p 0)), (1, .pin (p 1))]⟩) rfl ?_
  refine gd 1 fun hg_p0b => ?_
  have hl_p0b : p0b.length ≤ 9223372036854775807 := hg_p0b.1
  have hM := spec_l01Once.eq_1 p0b p0 p1
  refine ad 8 ?_
  refine og (cm [0, 1] [0, 1] [0] [1] [1, 2, 3] (c_spec_l01Below p0b p0 p1) fok101) fun hg1 => ?_
  refine ad 3 ?_
  exact rzM (rs := [.tmp 4]) [0, 1] [0, 2, 3] (hg1 := trivial) (hG1 := congrArg (fun x => (True : Prop)) hM) (congrArg (fun x => ([(0, .var [.sl 1 p0b.length, .v (.int .i64 (x.2.i : Int)), .v (.int .i64 x.2.h)] 183)] : List (Nat × En))) hM) (congrArg (fun x => ([.v (.bool x.1)] : List V)) hM)

/- F94 loop.example/g00974/spec.l01Pick -/
def spec_l01Pick (p0b : List (UInt8)) (p0 : Cur) (p1 : List ByteArray) : ByteArray × Cur := ((nth p1 (((spec_l01Below p0b p0 (p1.length : Int)).1).toNat)), ((spec_l01Below p0b p0 (p1.length : Int)).2))
theorem c_spec_l01Pick (p0b : List (UInt8)) (p0 : Cur) (p1 : List ByteArray) (h0 : 0 < p1.length) (h1 : p1.length ≤ 256) : CTMs 94 2 3 [(0, .var [.sl 1 p0b.length, .v (.int .i64 (p0.i : Int)), .v (.int .i64 p0.h)] 183)] [(1, .ros UInt8 instDatUInt8 p0b), (2, .ros ByteArray instDatByteArray p1)] [.pt 0 0, .sl 2 p1.length] [(0, .var [.sl 1 p0b.length, .v (.int .i64 (((spec_l01Pick p0b p0 p1).2).i : Int)), .v (.int .i64 (((spec_l01Pick p0b p0 p1).2).h))] 183)] 0 [.v (.string ((spec_l01Pick p0b p0 p1).1))] (((spec_l01Pick p0b p0 p1).1).size ≤ maxLen) := by
  refine enM Tryz.func94 Tryz.ntmps94 fun S w p hG hb hg => ?_
  refine Run.cg (σ' := ⟨12, 3, [(0, .pt 0 0), (1, .sl 2 p1.length)], [(0, .var [.sl 1 p0b.length, .v (.int .i64 (p0.i : Int)), .v (.int .i64 p0.h)] 183), (1, .ros UInt8 instDatUInt8 p0b), (2, .ros ByteArray instDatByteArray p1), (0, .pin (p 0)), (1, .pin (p 1))]⟩) rfl ?_
  refine gd 1 fun hg_p0b => ?_
  have hl_p0b : p0b.length ≤ 9223372036854775807 := hg_p0b.1
  refine gd 2 fun hg_p1 => ?_
  have hl_p1 : p1.length ≤ 9223372036854775807 := hg_p1.1
  have hM := spec_l01Pick.eq_1 p0b p0 p1
  have hb := below_lt p0b p0 h0 h1
  refine ad 10 ?_
  refine og (cm [0, 1] [0, 1] [0] [1] [1, 2, 3, 4] (c_spec_l01Below p0b p0 (p1.length : Int)) fok101) fun hg1 => ?_
  have hg3 := good_nth (k := (((spec_l01Below p0b p0 (p1.length : Int)).1).toNat)) hg_p1 om
  refine op (ix (xs := p1) (((spec_l01Below p0b p0 (p1.length : Int)).1).toNat) om (hi := om)) ?_
  refine ad 3 ?_
  exact rzM (rs := [.tmp 4]) [0, 1] [1, 4, 5] (hg1 := hg3) (hG1 := congrArg (fun x => (x.1.size ≤ maxLen : Prop)) hM) (congrArg (fun x => ([(0, .var [.sl 1 p0b.length, .v (.int .i64 (x.2.i : Int)), .v (.int .i64 x.2.h)] 183)] : List (Nat × En))) hM) (congrArg (fun x => ([.v (.string x.1)] : List V)) hM)
theorem pick_size (b : List UInt8) (c : Cur) (l : List ByteArray) (h : ∀ x ∈ l, x.size ≤ maxLen) : (spec_l01Pick b c l).1.size ≤ maxLen := by
  show (nth l _).size ≤ maxLen
  unfold nth
  rw [List.getD_eq_getElem?_getD]
  cases hx : l[((spec_l01Below b c (l.length : Int)).1).toNat]? with
  | none => exact Nat.zero_le _
  | some x => exact h x (List.mem_of_getElem? hx)
theorem pick_le {b : List UInt8} {c : Cur} {l : List ByteArray} {n : Nat} (h : l.all (fun s => Nat.ble s.size n) = true) : (spec_l01Pick b c l).1.size ≤ n := nth_size h _

/- F153 loop.example/g00974/spec.l01PickInt -/
def spec_l01PickInt (p0b : List (UInt8)) (p0 : Cur) (p1 : List Int) : Int × Cur := ((nth p1 (((spec_l01Below p0b p0 (p1.length : Int)).1).toNat)), ((spec_l01Below p0b p0 (p1.length : Int)).2))
theorem c_spec_l01PickInt (p0b : List (UInt8)) (p0 : Cur) (p1 : List Int) (h0 : 0 < p1.length) (h1 : p1.length ≤ 256) : CTMs 153 2 3 [(0, .var [.sl 1 p0b.length, .v (.int .i64 (p0.i : Int)), .v (.int .i64 p0.h)] 183)] [(1, .ros UInt8 instDatUInt8 p0b), (2, .ros Int instDatInt p1)] [.pt 0 0, .sl 2 p1.length] [(0, .var [.sl 1 p0b.length, .v (.int .i64 (((spec_l01PickInt p0b p0 p1).2).i : Int)), .v (.int .i64 (((spec_l01PickInt p0b p0 p1).2).h))] 183)] 0 [.v (.int .i64 ((spec_l01PickInt p0b p0 p1).1))] (I64 ((spec_l01PickInt p0b p0 p1).1)) := by
  refine enM Tryz.func153 Tryz.ntmps153 fun S w p hG hb hg => ?_
  refine Run.cg (σ' := ⟨12, 3, [(0, .pt 0 0), (1, .sl 2 p1.length)], [(0, .var [.sl 1 p0b.length, .v (.int .i64 (p0.i : Int)), .v (.int .i64 p0.h)] 183), (1, .ros UInt8 instDatUInt8 p0b), (2, .ros Int instDatInt p1), (0, .pin (p 0)), (1, .pin (p 1))]⟩) rfl ?_
  refine gd 1 fun hg_p0b => ?_
  have hl_p0b : p0b.length ≤ 9223372036854775807 := hg_p0b.1
  refine gd 2 fun hg_p1 => ?_
  have hl_p1 : p1.length ≤ 9223372036854775807 := hg_p1.1
  have hM := spec_l01PickInt.eq_1 p0b p0 p1
  have hb := below_lt p0b p0 h0 h1
  refine ad 10 ?_
  refine og (cm [0, 1] [0, 1] [0] [1] [1, 2, 3, 4] (c_spec_l01Below p0b p0 (p1.length : Int)) fok101) fun hg1 => ?_
  have hg3 := good_nth (k := (((spec_l01Below p0b p0 (p1.length : Int)).1).toNat)) hg_p1 om
  refine op (ix (xs := p1) (((spec_l01Below p0b p0 (p1.length : Int)).1).toNat) om (hi := om)) ?_
  refine ad 3 ?_
  exact rzM (rs := [.tmp 4]) [0, 1] [1, 4, 5] (hg1 := hg3) (hG1 := congrArg (fun x => (I64 x.1 : Prop)) hM) (congrArg (fun x => ([(0, .var [.sl 1 p0b.length, .v (.int .i64 (x.2.i : Int)), .v (.int .i64 x.2.h)] 183)] : List (Nat × En))) hM) (congrArg (fun x => ([.v (.int .i64 x.1)] : List V)) hM)
theorem pickInt_I64 (b : List UInt8) (c : Cur) (l : List Int) (h : l.all (fun x => decide (-9223372036854775808 ≤ x) && decide (x ≤ 9223372036854775807)) = true) : I64 (spec_l01PickInt b c l).1 := by
  show I64 (nth l _)
  unfold nth
  rw [List.getD_eq_getElem?_getD]
  cases hx : l[((spec_l01Below b c (l.length : Int)).1).toNat]? with
  | none => exact gi 0
  | some x =>
    have := List.all_eq_true.1 h x (List.mem_of_getElem? hx)
    simp only [Bool.and_eq_true, decide_eq_true_eq] at this
    exact ⟨this.1, this.2⟩

/- F157 loop.example/g00974/spec.l01Text -/
def spec_l01Text_l1 (p0b : List (UInt8)) (p0 : Cur) (p1 : Int) : Nat → Nat → Int → (List UInt8) → Nat → ByteArray × Cur
  | 0, c0_1, c0_2, v5, i => (bstr v5, (Cur.mk c0_1 c0_2))
  | n + 1, c0_1, c0_2, v5, i => spec_l01Text_l1 p0b p0 p1 n (((spec_l01Byte p0b (Cur.mk c0_1 c0_2)).2).i) (((spec_l01Byte p0b (Cur.mk c0_1 c0_2)).2).h) (v5 ++ [u8of ((spec_l01Byte p0b (Cur.mk c0_1 c0_2)).1)]) (i + 1)
def spec_l01Text (p0b : List (UInt8)) (p0 : Cur) (p1 : Int) : ByteArray × Cur := spec_l01Text_l1 p0b p0 p1 (((bif (decide (p1 > 5000)) then 5000 else p1).toNat) - 0) p0.i p0.h ([] : List UInt8) 0
theorem c_spec_l01Text (p0b : List (UInt8)) (p0 : Cur) (p1 : Int) : CTMs 157 2 2 [(0, .var [.sl 1 p0b.length, .v (.int .i64 (p0.i : Int)), .v (.int .i64 p0.h)] 183)] [(1, .ros UInt8 instDatUInt8 p0b)] [.pt 0 0, .v (.int .i64 p1)] [(0, .var [.sl 1 p0b.length, .v (.int .i64 (((spec_l01Text p0b p0 p1).2).i : Int)), .v (.int .i64 (((spec_l01Text p0b p0 p1).2).h))] 183)] 0 [.v (.string ((spec_l01Text p0b p0 p1).1))] (((spec_l01Text p0b p0 p1).1).size ≤ maxLen) := by
  refine enM Tryz.func157 Tryz.ntmps157 fun S w p hG hb hg => ?_
  refine Run.cg (σ' := ⟨23, 2, [(0, .pt 0 0), (1, .v (.int .i64 p1))], [(0, .var [.sl 1 p0b.length, .v (.int .i64 (p0.i : Int)), .v (.int .i64 p0.h)] 183), (1, .ros UInt8 instDatUInt8 p0b), (0, .pin (p 0)), (1, .pin (p 1))]⟩) rfl ?_
  refine gd 1 fun hg_p0b => ?_
  have hl_p0b : p0b.length ≤ 9223372036854775807 := hg_p0b.1
  have hM := spec_l01Text.eq_1 p0b p0 p1
  refine ad 10 ?_
  refine Run.mid ⟨23, 2, [(0, .pt 0 0), (1, .v (.int .i64 (bif (decide (p1 > 5000)) then 5000 else p1)))], [(0, .var [.sl 1 p0b.length, .v (.int .i64 (p0.i : Int)), .v (.int .i64 p0.h)] 183), (0, .pin (p 0)), (1, .ros UInt8 instDatUInt8 p0b), (1, .pin (p 1))]⟩ ?_ ?_
  · refine cd (fun h1 => ?_) (fun h1 => ?_)
    ·
      refine ad 3 ?_
      exact Run.at [0, 1] [0, 2, 1, 3] (by first | exact su | (rw [h1]; exact su)) (by decide)
    ·
      refine ad 1 ?_
      exact Run.at [0, 1] [0, 2, 1, 3] (by first | exact su | (rw [h1]; exact su)) (by decide)
  refine ad 2 ?_
  refine op (l0) ?_
  refine ad 8 ?_
  have hb5 : (bif (decide (p1 > 5000)) then (5000 : Int) else p1).toNat ≤ 5000 := by cases hq : decide (p1 > 5000) with | true => exact Nat.le_refl 5000 | false => (have := of_decide_eq_false hq; show p1.toNat ≤ 5000; omega)
  refine li 2 (d := instDatUInt8) ([] : List UInt8) ?_
  refine Run.loopM (ι := Nat × Int × (List UInt8) × Nat) (fun s => spec_l01Text_l1 p0b p0 p1 (((bif (decide (p1 > 5000)) then 5000 else p1).toNat) - s.2.2.2) s.1 s.2.1 s.2.2.1 s.2.2.2) (fun s => ⟨23, 3, [(0, .pt 0 0), (1, .v (.int .i64 (bif (decide (p1 > 5000)) then 5000 else p1))), (5, .sl 2 s.2.2.1.length), (6, .v (.int .i64 (s.2.2.2 : Int)))], [(0, .var [.sl 1 p0b.length, .v (.int .i64 (s.1 : Int)), .v (.int .i64 s.2.1)] 183), (1, .ros UInt8 instDatUInt8 p0b), (1, .pin (p 1)), (0, .pin (p 0)), (2, .own UInt8 instDatUInt8 s.2.2.1)]⟩) (fun s => s.2.2.2 ≤ (bif (decide (p1 > 5000)) then 5000 else p1).toNat ∧ s.2.2.1.length ≤ s.2.2.2) (fun s => ((bif (decide (p1 > 5000)) then 5000 else p1).toNat) - s.2.2.2) (p0.i, p0.h, ([] : List UInt8), 0) [0, 1, 2] [1, 3, 4, 2, 0] hM (by exact ⟨Nat.zero_le _, Nat.le_refl _⟩) su (by decide) ?_
  rintro ⟨c0_1, c0_2, v5, i⟩ hv hE
  try dsimp only at hE
  obtain ⟨hi, hv0⟩ := hv
  have hi : i ≤ (bif (decide (p1 > 5000)) then 5000 else p1).toNat := hi
  have hv0 : v5.length ≤ i := hv0
  refine ad 7 ?_
  refine cd (fun h2 => ?_) (fun h2 => ?_)
  ·
    have h2l : i < (bif (decide (p1 > 5000)) then 5000 else p1).toNat := lt_toN (of_decide_eq_true h2)
    have hM := hE.trans ((congrArg (fun n => spec_l01Text_l1 p0b p0 p1 n c0_1 c0_2 v5 i) (show ((bif (decide (p1 > 5000)) then 5000 else p1).toNat) - i = (((bif (decide (p1 > 5000)) then 5000 else p1).toNat) - (i + 1)) + 1 from sub_S h2l)).trans (spec_l01Text_l1.eq_2 _ _ _ _ _ _ _ _))
    refine ad 6 ?_
    refine og (cm [0, 1] [0, 1] [0] [1] [1, 2, 3, 4] (c_spec_l01Byte p0b (Cur.mk c0_1 c0_2)) fok161) fun hg3 => ?_
    refine ad 2 ?_
    refine op (ap [u8of ((spec_l01Byte p0b (Cur.mk c0_1 c0_2)).1)] (hg := gdt) (hb := by simp only [List.length_cons, List.length_nil]; first | omega | exact om)) ?_
    refine ad 6 ?_
    rw [wrapN (i := i) (by first | omega | exact om)]
    refine ad 2 ?_
    exact Run.again (((spec_l01Byte p0b (Cur.mk c0_1 c0_2)).2).i, ((spec_l01Byte p0b (Cur.mk c0_1 c0_2)).2).h, (v5 ++ [u8of ((spec_l01Byte p0b (Cur.mk c0_1 c0_2)).1)]), (i + 1)) [0, 1, 4] [1, 2, 3, 4, 5] ⟨by exact ⟨h2l, by show (v5 ++ [_]).length ≤ i + 1; rw [List.length_append]; exact Nat.succ_le_succ hv0⟩, hM⟩ rfl (by exact Nat.sub_lt_sub_left h2l (Nat.lt_succ_self _)) su (by decide)
  ·
    have h2l : ¬ (i < (bif (decide (p1 > 5000)) then 5000 else p1).toNat) := nlt_toN (of_decide_eq_false h2)
    have hM := hE.trans ((congrArg (fun n => spec_l01Text_l1 p0b p0 p1 n c0_1 c0_2 v5 i) (show ((bif (decide (p1 > 5000)) then 5000 else p1).toNat) - i = 0 from sub_Z h2l)).trans (spec_l01Text_l1.eq_1 _ _ _ _ _ _ _))
    refine ad 4 ?_
    refine op (ts v5) ?_
    refine ad 2 ?_
    exact rzM (rs := [.tmp 4]) [0, 1] [0, 3, 2] (hg1 := (by unfold maxLen; show (List.toArray _).size ≤ _; rw [List.size_toArray]; exact Nat.le_trans hv0 (Nat.le_trans hi (Nat.le_trans hb5 (by decide))))) (hG1 := congrArg (fun x => (x.1.size ≤ maxLen : Prop)) hM) (congrArg (fun x => ([(0, .var [.sl 1 p0b.length, .v (.int .i64 (x.2.i : Int)), .v (.int .i64 x.2.h)] 183)] : List (Nat × En))) hM) (congrArg (fun x => ([.v (.string x.1)] : List V)) hM)

/- F154 loop.example/g00974/spec.l01Long -/
def spec_l01Long_l1 (p0 : Int) (p1 : UInt8) : Nat → (List UInt8) → Nat → ByteArray
  | 0, w0, i => bstr w0
  | n + 1, w0, i => spec_l01Long_l1 p0 p1 n (w0.set i p1) (i + 1)
def spec_l01Long (p0 : Int) (p1 : UInt8) : ByteArray := spec_l01Long_l1 p0 p1 (p0.toNat - 0) (List.replicate p0.toNat (0 : UInt8)) 0
theorem c_spec_l01Long (p0 : Int) (p1 : UInt8) (h0 : 0 ≤ p0 ∧ p0 ≤ 100000) : CTs 154 [.o (.c (.int .i64 p0)), .o (.c (.int .u8 p1.toNat))] [Re.c (.string (spec_l01Long p0 p1))] := by
  refine en Tryz.func154 Tryz.ntmps154 fun w hG hgd => ?_
  have hM := spec_l01Long.eq_1 p0 p1
  refine ad 7 ?_
  refine op (ma p0.toNat (0 : UInt8) (hi := om) (hj := om)) ?_
  refine ad 8 ?_
  refine Run.loopM (ι := (List UInt8) × Nat) (fun s => spec_l01Long_l1 p0 p1 (p0.toNat - s.2) s.1 s.2) (fun s => ⟨20, 1, [(0, .v (.int .i64 p0)), (1, .v (.int .u8 (p1.toNat : Int))), (5, .sl 0 s.1.length), (6, .v (.int .i64 (s.2 : Int)))], [(0, .own UInt8 instDatUInt8 s.1)]⟩) (fun s => s.2 ≤ p0.toNat ∧ s.1.length = p0.toNat) (fun s => p0.toNat - s.2) ((List.replicate p0.toNat (0 : UInt8)), 0) [0] [0] hM (by first | exact ⟨by omega, by simp⟩ | omega | simp | (dsimp only; omega)) su (by decide) ?_
  rintro ⟨w0, i⟩ hv hE
  try dsimp only at hE
  obtain ⟨hi, hv0⟩ := hv
  try dsimp only at hi hv0
  refine ad 7 ?_
  refine cd (fun h1 => ?_) (fun h1 => ?_)
  ·
    have h1l : i < p0.toNat := by have := of_decide_eq_true h1; omega
    have hM := hE.trans ((congrArg (fun n => spec_l01Long_l1 p0 p1 n w0 i) (show p0.toNat - i = (p0.toNat - (i + 1)) + 1 by omega)).trans (spec_l01Long_l1.eq_2 _ _ _ _ _))
    refine ad 7 ?_
    refine op (oi (xs := w0) i om) ?_
    refine op (se (xs := w0) i p1 trivial om) ?_
    refine ad 5 ?_
    rw [wrapN (i := i) (by first | omega | exact om)]
    refine ad 2 ?_
    exact Run.again ((w0.set i p1), (i + 1)) [1] [0] ⟨by first | omega | exact trivial | (dsimp only; omega) | (refine ⟨by omega, ?_⟩; simp_all; try omega), hM⟩ rfl (by show _ - _ < _ - _; (try dsimp only); omega) su (by decide)
  ·
    have h1l : ¬ (i < p0.toNat) := by have := of_decide_eq_false h1; omega
    have hM := hE.trans ((congrArg (fun n => spec_l01Long_l1 p0 p1 n w0 i) (show p0.toNat - i = 0 by omega)).trans (spec_l01Long_l1.eq_1 _ _ _ _))
    refine ad 4 ?_
    refine op (ts w0) ?_
    refine ad 2 ?_
    exact rz (rs := [.tmp 4]) (congrArg (fun x => [Re.c (.string x)]) hM)
theorem spec_l01Long_l1_len (p0 : Int) (p1 : UInt8) : ∀ n w i, (spec_l01Long_l1 p0 p1 n w i).size = w.length := by
  intro n
  induction n with
  | zero => intro w i; exact List.size_toArray
  | succ n ih => intro w i; rw [spec_l01Long_l1, ih, List.length_set]
theorem spec_l01Long_size (p0 : Int) (p1 : UInt8) (h : p0 ≤ 100000) : (spec_l01Long p0 p1).size ≤ maxLen := by
  unfold spec_l01Long maxLen
  rw [spec_l01Long_l1_len, List.length_replicate]
  omega

/- F95 loop.example/g00974/spec.l13Call -/
def spec_l13Call (p0b : List (UInt8)) (p0 : Cur) : Call × Cur := ((spec_Told (Call.mk ((spec_l01PickInt p0b p0 ([1, 1, 2, 3, 4, 5, 6, 6, 7, 7, 8, 9, 10, 10, 11, 11, 12, 13, 14, 15, 16, 17, 18, 19, 20, 21, 22, 22] : List Int)).1) ((spec_l01Pick p0b ((spec_l01PickInt p0b p0 ([1, 1, 2, 3, 4, 5, 6, 6, 7, 7, 8, 9, 10, 10, 11, 11, 12, 13, 14, 15, 16, 17, 18, 19, 20, 21, 22, 22] : List Int)).2) ([⟨#[120]⟩, ⟨#[121]⟩, ⟨#[108, 111, 103]⟩] : List ByteArray)).1) ((spec_l01Pick p0b ((spec_l01Pick p0b ((spec_l01PickInt p0b p0 ([1, 1, 2, 3, 4, 5, 6, 6, 7, 7, 8, 9, 10, 10, 11, 11, 12, 13, 14, 15, 16, 17, 18, 19, 20, 21, 22, 22] : List Int)).2) ([⟨#[120]⟩, ⟨#[121]⟩, ⟨#[108, 111, 103]⟩] : List ByteArray)).2) ([⟨#[120]⟩, ⟨#[121]⟩, ⟨#[122]⟩] : List ByteArray)).1) (bif (decide (((spec_l01PickInt p0b p0 ([1, 1, 2, 3, 4, 5, 6, 6, 7, 7, 8, 9, 10, 10, 11, 11, 12, 13, 14, 15, 16, 17, 18, 19, 20, 21, 22, 22] : List Int)).1) = 6)) then ((spec_l01Below p0b ((spec_l01Text p0b ((spec_l01Below p0b ((spec_l01Below p0b ((spec_l01Below p0b ((spec_l01Pick p0b ((spec_l01Pick p0b ((spec_l01PickInt p0b p0 ([1, 1, 2, 3, 4, 5, 6, 6, 7, 7, 8, 9, 10, 10, 11, 11, 12, 13, 14, 15, 16, 17, 18, 19, 20, 21, 22, 22] : List Int)).2) ([⟨#[120]⟩, ⟨#[121]⟩, ⟨#[108, 111, 103]⟩] : List ByteArray)).2) ([⟨#[120]⟩, ⟨#[121]⟩, ⟨#[122]⟩] : List ByteArray)).2) 4).2) 12).2) 12).2) ((spec_l01Below p0b ((spec_l01Below p0b ((spec_l01Below p0b ((spec_l01Pick p0b ((spec_l01Pick p0b ((spec_l01PickInt p0b p0 ([1, 1, 2, 3, 4, 5, 6, 6, 7, 7, 8, 9, 10, 10, 11, 11, 12, 13, 14, 15, 16, 17, 18, 19, 20, 21, 22, 22] : List Int)).2) ([⟨#[120]⟩, ⟨#[121]⟩, ⟨#[108, 111, 103]⟩] : List ByteArray)).2) ([⟨#[120]⟩, ⟨#[121]⟩, ⟨#[122]⟩] : List ByteArray)).2) 4).2) 12).2) 12).1)).2) 12).1) else ((spec_l01Below p0b ((spec_l01Pick p0b ((spec_l01Pick p0b ((spec_l01PickInt p0b p0 ([1, 1, 2, 3, 4, 5, 6, 6, 7, 7, 8, 9, 10, 10, 11, 11, 12, 13, 14, 15, 16, 17, 18, 19, 20, 21, 22, 22] : List Int)).2) ([⟨#[120]⟩, ⟨#[121]⟩, ⟨#[108, 111, 103]⟩] : List ByteArray)).2) ([⟨#[120]⟩, ⟨#[121]⟩, ⟨#[122]⟩] : List ByteArray)).2) 4).1)) (IntKind.i64.wrap (1 + ((spec_l01Below p0b ((spec_l01Below p0b ((spec_l01Pick p0b ((spec_l01Pick p0b ((spec_l01PickInt p0b p0 ([1, 1, 2, 3, 4, 5, 6, 6, 7, 7, 8, 9, 10, 10, 11, 11, 12, 13, 14, 15, 16, 17, 18, 19, 20, 21, 22, 22] : List Int)).2) ([⟨#[120]⟩, ⟨#[121]⟩, ⟨#[108, 111, 103]⟩] : List ByteArray)).2) ([⟨#[120]⟩, ⟨#[121]⟩, ⟨#[122]⟩] : List ByteArray)).2) 4).2) 12).1))) ((spec_l01Text p0b ((spec_l01Below p0b ((spec_l01Below p0b ((spec_l01Below p0b ((spec_l01Pick p0b ((spec_l01Pick p0b ((spec_l01PickInt p0b p0 ([1, 1, 2, 3, 4, 5, 6, 6, 7, 7, 8, 9, 10, 10, 11, 11, 12, 13, 14, 15, 16, 17, 18, 19, 20, 21, 22, 22] : List Int)).2) ([⟨#[120]⟩, ⟨#[121]⟩, ⟨#[108, 111, 103]⟩] : List ByteArray)).2) ([⟨#[120]⟩, ⟨#[121]⟩, ⟨#[122]⟩] : List ByteArray)).2) 4).2) 12).2) 12).2) ((spec_l01Below p0b ((spec_l01Below p0b ((spec_l01Below p0b ((spec_l01Pick p0b ((spec_l01Pick p0b ((spec_l01PickInt p0b p0 ([1, 1, 2, 3, 4, 5, 6, 6, 7, 7, 8, 9, 10, 10, 11, 11, 12, 13, 14, 15, 16, 17, 18, 19, 20, 21, 22, 22] : List Int)).2) ([⟨#[120]⟩, ⟨#[121]⟩, ⟨#[108, 111, 103]⟩] : List ByteArray)).2) ([⟨#[120]⟩, ⟨#[121]⟩, ⟨#[122]⟩] : List ByteArray)).2) 4).2) 12).2) 12).1)).1))), (Cur.mk (bif (decide (((spec_l01PickInt p0b p0 ([1, 1, 2, 3, 4, 5, 6, 6, 7, 7, 8, 9, 10, 10, 11, 11, 12, 13, 14, 15, 16, 17, 18, 19, 20, 21, 22, 22] : List Int)).1) = 6)) then (((spec_l01Below p0b ((spec_l01Text p0b ((spec_l01Below p0b ((spec_l01Below p0b ((spec_l01Below p0b ((spec_l01Pick p0b ((spec_l01Pick p0b ((spec_l01PickInt p0b p0 ([1, 1, 2, 3, 4, 5, 6, 6, 7, 7, 8, 9, 10, 10, 11, 11, 12, 13, 14, 15, 16, 17, 18, 19, 20, 21, 22, 22] : List Int)).2) ([⟨#[120]⟩, ⟨#[121]⟩, ⟨#[108, 111, 103]⟩] : List ByteArray)).2) ([⟨#[120]⟩, ⟨#[121]⟩, ⟨#[122]⟩] : List ByteArray)).2) 4).2) 12).2) 12).2) ((spec_l01Below p0b ((spec_l01Below p0b ((spec_l01Below p0b ((spec_l01Pick p0b ((spec_l01Pick p0b ((spec_l01PickInt p0b p0 ([1, 1, 2, 3, 4, 5, 6, 6, 7, 7, 8, 9, 10, 10, 11, 11, 12, 13, 14, 15, 16, 17, 18, 19, 20, 21, 22, 22] : List Int)).2) ([⟨#[120]⟩, ⟨#[121]⟩, ⟨#[108, 111, 103]⟩] : List ByteArray)).2) ([⟨#[120]⟩, ⟨#[121]⟩, ⟨#[122]⟩] : List ByteArray)).2) 4).2) 12).2) 12).1)).2) 12).2).i) else (((spec_l01Text p0b ((spec_l01Below p0b ((spec_l01Below p0b ((spec_l01Below p0b ((spec_l01Pick p0b ((spec_l01Pick p0b ((spec_l01PickInt p0b p0 ([1, 1, 2, 3, 4, 5, 6, 6, 7, 7, 8, 9, 10, 10, 11, 11, 12, 13, 14, 15, 16, 17, 18, 19, 20, 21, 22, 22] : List Int)).2) ([⟨#[120]⟩, ⟨#[121]⟩, ⟨#[108, 111, 103]⟩] : List ByteArray)).2) ([⟨#[120]⟩, ⟨#[121]⟩, ⟨#[122]⟩] : List ByteArray)).2) 4).2) 12).2) 12).2) ((spec_l01Below p0b ((spec_l01Below p0b ((spec_l01Below p0b ((spec_l01Pick p0b ((spec_l01Pick p0b ((spec_l01PickInt p0b p0 ([1, 1, 2, 3, 4, 5, 6, 6, 7, 7, 8, 9, 10, 10, 11, 11, 12, 13, 14, 15, 16, 17, 18, 19, 20, 21, 22, 22] : List Int)).2) ([⟨#[120]⟩, ⟨#[121]⟩, ⟨#[108, 111, 103]⟩] : List ByteArray)).2) ([⟨#[120]⟩, ⟨#[121]⟩, ⟨#[122]⟩] : List ByteArray)).2) 4).2) 12).2) 12).1)).2).i)) (bif (decide (((spec_l01PickInt p0b p0 ([1, 1, 2, 3, 4, 5, 6, 6, 7, 7, 8, 9, 10, 10, 11, 11, 12, 13, 14, 15, 16, 17, 18, 19, 20, 21, 22, 22] : List Int)).1) = 6)) then (((spec_l01Below p0b ((spec_l01Text p0b ((spec_l01Below p0b ((spec_l01Below p0b ((spec_l01Below p0b ((spec_l01Pick p0b ((spec_l01Pick p0b ((spec_l01PickInt p0b p0 ([1, 1, 2, 3, 4, 5, 6, 6, 7, 7, 8, 9, 10, 10, 11, 11, 12, 13, 14, 15, 16, 17, 18, 19, 20, 21, 22, 22] : List Int)).2) ([⟨#[120]⟩, ⟨#[121]⟩, ⟨#[108, 111, 103]⟩] : List ByteArray)).2) ([⟨#[120]⟩, ⟨#[121]⟩, ⟨#[122]⟩] : List ByteArray)).2) 4).2) 12).2) 12).2) ((spec_l01Below p0b ((spec_l01Below p0b ((spec_l01Below p0b ((spec_l01Pick p0b ((spec_l01Pick p0b ((spec_l01PickInt p0b p0 ([1, 1, 2, 3, 4, 5, 6, 6, 7, 7, 8, 9, 10, 10, 11, 11, 12, 13, 14, 15, 16, 17, 18, 19, 20, 21, 22, 22] : List Int)).2) ([⟨#[120]⟩, ⟨#[121]⟩, ⟨#[108, 111, 103]⟩] : List ByteArray)).2) ([⟨#[120]⟩, ⟨#[121]⟩, ⟨#[122]⟩] : List ByteArray)).2) 4).2) 12).2) 12).1)).2) 12).2).h) else (((spec_l01Text p0b ((spec_l01Below p0b ((spec_l01Below p0b ((spec_l01Below p0b ((spec_l01Pick p0b ((spec_l01Pick p0b ((spec_l01PickInt p0b p0 ([1, 1, 2, 3, 4, 5, 6, 6, 7, 7, 8, 9, 10, 10, 11, 11, 12, 13, 14, 15, 16, 17, 18, 19, 20, 21, 22, 22] : List Int)).2) ([⟨#[120]⟩, ⟨#[121]⟩, ⟨#[108, 111, 103]⟩] : List ByteArray)).2) ([⟨#[120]⟩, ⟨#[121]⟩, ⟨#[122]⟩] : List ByteArray)).2) 4).2) 12).2) 12).2) ((spec_l01Below p0b ((spec_l01Below p0b ((spec_l01Below p0b ((spec_l01Pick p0b ((spec_l01Pick p0b ((spec_l01PickInt p0b p0 ([1, 1, 2, 3, 4, 5, 6, 6, 7, 7, 8, 9, 10, 10, 11, 11, 12, 13, 14, 15, 16, 17, 18, 19, 20, 21, 22, 22] : List Int)).2) ([⟨#[120]⟩, ⟨#[121]⟩, ⟨#[108, 111, 103]⟩] : List ByteArray)).2) ([⟨#[120]⟩, ⟨#[121]⟩, ⟨#[122]⟩] : List ByteArray)).2) 4).2) 12).2) 12).1)).2).h))))
theorem c_spec_l13Call (p0b : List (UInt8)) (p0 : Cur) : CTMs 95 2 2 [(0, .var [.sl 1 p0b.length, .v (.int .i64 (p0.i : Int)), .v (.int .i64 p0.h)] 183)] [(1, .ros UInt8 instDatUInt8 p0b)] [.pt 0 0] [(0, .var [.sl 1 p0b.length, .v (.int .i64 (((spec_l13Call p0b p0).2).i : Int)), .v (.int .i64 (((spec_l13Call p0b p0).2).h))] 183)] 0 [.ag [.v (.int .i64 ((spec_l13Call p0b p0).1.Kind)), .v (.string ((spec_l13Call p0b p0).1.Name)), .v (.string ((spec_l13Call p0b p0).1.To)), .v (.int .i64 ((spec_l13Call p0b p0).1.A)), .v (.int .i64 ((spec_l13Call p0b p0).1.B)), .v (.string ((spec_l13Call p0b p0).1.Text))]] (Dat.good ((spec_l13Call p0b p0).1 : Call)) := by
  refine enM Tryz.func95 Tryz.ntmps95 fun S w p hG hb hg => ?_
  refine Run.cg (σ' := ⟨36, 2, [(0, .pt 0 0)], [(0, .var [.sl 1 p0b.length, .v (.int .i64 (p0.i : Int)), .v (.int .i64 p0.h)] 183), (1, .ros UInt8 instDatUInt8 p0b), (0, .pin (p 0)), (1, .pin (p 1))]⟩) rfl ?_
  refine gd 1 fun hg_p0b => ?_
  have hl_p0b : p0b.length ≤ 9223372036854775807 := hg_p0b.1
  have hM := spec_l13Call.eq_1 p0b p0
  refine ad 8 ?_
  refine li 3 (d := instDatInt) ([1, 1, 2, 3, 4, 5, 6, 6, 7, 7, 8, 9, 10, 10, 11, 11, 12, 13, 14, 15, 16, 17, 18, 19, 20, 21, 22, 22] : List Int) ?_
  refine og (cm [0, 1, 3] [0, 1] [2] [3, 0] [0, 1, 3, 4, 5] (c_spec_l01PickInt p0b p0 ([1, 1, 2, 3, 4, 5, 6, 6, 7, 7, 8, 9, 10, 10, 11, 11, 12, 13, 14, 15, 16, 17, 18, 19, 20, 21, 22, 22] : List Int) (by decide) (by decide)) fok153) fun hg1 => ?_
  refine ad 8 ?_
  refine li 5 (d := instDatByteArray) ([⟨#[120]⟩, ⟨#[121]⟩, ⟨#[108, 111, 103]⟩] : List ByteArray) ?_
  have hs2 := pick_le (b := p0b) (c := ((spec_l01PickInt p0b p0 ([1, 1, 2, 3, 4, 5, 6, 6, 7, 7, 8, 9, 10, 10, 11, 11, 12, 13, 14, 15, 16, 17, 18, 19, 20, 21, 22, 22] : List Int)).2)) (l := ([⟨#[120]⟩, ⟨#[121]⟩, ⟨#[108, 111, 103]⟩] : List ByteArray)) (n := 200) (by decide)
  refine og (cm [0, 1, 5] [0, 1] [2] [5, 0] [0, 1, 3, 4, 5, 6, 7] (c_spec_l01Pick p0b ((spec_l01PickInt p0b p0 ([1, 1, 2, 3, 4, 5, 6, 6, 7, 7, 8, 9, 10, 10, 11, 11, 12, 13, 14, 15, 16, 17, 18, 19, 20, 21, 22, 22] : List Int)).2) ([⟨#[120]⟩, ⟨#[121]⟩, ⟨#[108, 111, 103]⟩] : List ByteArray) (by decide) (by decide)) fok94) fun hg3 => ?_
  refine ad 7 ?_
  refine li 6 (d := instDatByteArray) ([⟨#[120]⟩, ⟨#[121]⟩, ⟨#[122]⟩] : List ByteArray) ?_
  have hs4 := pick_le (b := p0b) (c := ((spec_l01Pick p0b ((spec_l01PickInt p0b p0 ([1, 1, 2, 3, 4, 5, 6, 6, 7, 7, 8, 9, 10, 10, 11, 11, 12, 13, 14, 15, 16, 17, 18, 19, 20, 21, 22, 22] : List Int)).2) ([⟨#[120]⟩, ⟨#[121]⟩, ⟨#[108, 111, 103]⟩] : List ByteArray)).2)) (l := ([⟨#[120]⟩, ⟨#[121]⟩, ⟨#[122]⟩] : List ByteArray)) (n := 200) (by decide)
  refine og (cm [0, 1, 6] [0, 1] [1] [6, 0] [0, 2, 3, 4, 5, 6, 7, 8] (c_spec_l01Pick p0b ((spec_l01Pick p0b ((spec_l01PickInt p0b p0 ([1, 1, 2, 3, 4, 5, 6, 6, 7, 7, 8, 9, 10, 10, 11, 11, 12, 13, 14, 15, 16, 17, 18, 19, 20, 21, 22, 22] : List Int)).2) ([⟨#[120]⟩, ⟨#[121]⟩, ⟨#[108, 111, 103]⟩] : List ByteArray)).2) ([⟨#[120]⟩, ⟨#[121]⟩, ⟨#[122]⟩] : List ByteArray) (by decide) (by decide)) fok94) fun hg5 => ?_
  refine ad 6 ?_
  have hs6 := below_lti p0b ((spec_l01Pick p0b ((spec_l01Pick p0b ((spec_l01PickInt p0b p0 ([1, 1, 2, 3, 4, 5, 6, 6, 7, 7, 8, 9, 10, 10, 11, 11, 12, 13, 14, 15, 16, 17, 18, 19, 20, 21, 22, 22] : List Int)).2) ([⟨#[120]⟩, ⟨#[121]⟩, ⟨#[108, 111, 103]⟩] : List ByteArray)).2) ([⟨#[120]⟩, ⟨#[121]⟩, ⟨#[122]⟩] : List ByteArray)).2) (n := 4) (by decide) (by decide)
  refine og (cm [0, 1] [0, 1] [0] [6] [1, 2, 3, 4, 5, 6, 7, 8] (c_spec_l01Below p0b ((spec_l01Pick p0b ((spec_l01Pick p0b ((spec_l01PickInt p0b p0 ([1, 1, 2, 3, 4, 5, 6, 6, 7, 7, 8, 9, 10, 10, 11, 11, 12, 13, 14, 15, 16, 17, 18, 19, 20, 21, 22, 22] : List Int)).2) ([⟨#[120]⟩, ⟨#[121]⟩, ⟨#[108, 111, 103]⟩] : List ByteArray)).2) ([⟨#[120]⟩, ⟨#[121]⟩, ⟨#[122]⟩] : List ByteArray)).2) 4) fok101) fun hg7 => ?_
  refine ad 6 ?_
  have hs8 := below_lti p0b ((spec_l01Below p0b ((spec_l01Pick p0b ((spec_l01Pick p0b ((spec_l01PickInt p0b p0 ([1, 1, 2, 3, 4, 5, 6, 6, 7, 7, 8, 9, 10, 10, 11, 11, 12, 13, 14, 15, 16, 17, 18, 19, 20, 21, 22, 22] : List Int)).2) ([⟨#[120]⟩, ⟨#[121]⟩, ⟨#[108, 111, 103]⟩] : List ByteArray)).2) ([⟨#[120]⟩, ⟨#[121]⟩, ⟨#[122]⟩] : List ByteArray)).2) 4).2) (n := 12) (by decide) (by decide)
  refine og (cm [0, 1] [0, 1] [0] [6] [1, 2, 3, 4, 5, 6, 7, 8] (c_spec_l01Below p0b ((spec_l01Below p0b ((spec_l01Pick p0b ((spec_l01Pick p0b ((spec_l01PickInt p0b p0 ([1, 1, 2, 3, 4, 5, 6, 6, 7, 7, 8, 9, 10, 10, 11, 11, 12, 13, 14, 15, 16, 17, 18, 19, 20, 21, 22, 22] : List Int)).2) ([⟨#[120]⟩, ⟨#[121]⟩, ⟨#[108, 111, 103]⟩] : List ByteArray)).2) ([⟨#[120]⟩, ⟨#[121]⟩, ⟨#[122]⟩] : List ByteArray)).2) 4).2) 12) fok101) fun hg9 => ?_
  refine ad 8 ?_
  have hs10 := below_lti p0b ((spec_l01Below p0b ((spec_l01Below p0b ((spec_l01Pick p0b ((spec_l01Pick p0b ((spec_l01PickInt p0b p0 ([1, 1, 2, 3, 4, 5, 6, 6, 7, 7, 8, 9, 10, 10, 11, 11, 12, 13, 14, 15, 16, 17, 18, 19, 20, 21, 22, 22] : List Int)).2) ([⟨#[120]⟩, ⟨#[121]⟩, ⟨#[108, 111, 103]⟩] : List ByteArray)).2) ([⟨#[120]⟩, ⟨#[121]⟩, ⟨#[122]⟩] : List ByteArray)).2) 4).2) 12).2) (n := 12) (by decide) (by decide)
  refine og (cm [0, 1] [0, 1] [0] [6] [1, 2, 3, 4, 5, 6, 7, 8] (c_spec_l01Below p0b ((spec_l01Below p0b ((spec_l01Below p0b ((spec_l01Pick p0b ((spec_l01Pick p0b ((spec_l01PickInt p0b p0 ([1, 1, 2, 3, 4, 5, 6, 6, 7, 7, 8, 9, 10, 10, 11, 11, 12, 13, 14, 15, 16, 17, 18, 19, 20, 21, 22, 22] : List Int)).2) ([⟨#[120]⟩, ⟨#[121]⟩, ⟨#[108, 111, 103]⟩] : List ByteArray)).2) ([⟨#[120]⟩, ⟨#[121]⟩, ⟨#[122]⟩] : List ByteArray)).2) 4).2) 12).2) 12) fok101) fun hg11 => ?_
  refine og (cm [0, 1] [0, 1] [0] [6] [1, 2, 3, 4, 5, 6, 7, 8] (c_spec_l01Text p0b ((spec_l01Below p0b ((spec_l01Below p0b ((spec_l01Below p0b ((spec_l01Pick p0b ((spec_l01Pick p0b ((spec_l01PickInt p0b p0 ([1, 1, 2, 3, 4, 5, 6, 6, 7, 7, 8, 9, 10, 10, 11, 11, 12, 13, 14, 15, 16, 17, 18, 19, 20, 21, 22, 22] : List Int)).2) ([⟨#[120]⟩, ⟨#[121]⟩, ⟨#[108, 111, 103]⟩] : List ByteArray)).2) ([⟨#[120]⟩, ⟨#[121]⟩, ⟨#[122]⟩] : List ByteArray)).2) 4).2) 12).2) 12).2) ((spec_l01Below p0b ((spec_l01Below p0b ((spec_l01Below p0b ((spec_l01Pick p0b ((spec_l01Pick p0b ((spec_l01PickInt p0b p0 ([1, 1, 2, 3, 4, 5, 6, 6, 7, 7, 8, 9, 10, 10, 11, 11, 12, 13, 14, 15, 16, 17, 18, 19, 20, 21, 22, 22] : List Int)).2) ([⟨#[120]⟩, ⟨#[121]⟩, ⟨#[108, 111, 103]⟩] : List ByteArray)).2) ([⟨#[120]⟩, ⟨#[121]⟩, ⟨#[122]⟩] : List ByteArray)).2) 4).2) 12).2) 12).1)) fok157) fun hg12 => ?_
  refine ad 10 ?_
  refine Run.midP ⟨36, 4, [(0, .pt 0 0), (2, .pt 2 0), (3, .pt 3 0)], [(0, .var [.sl 1 p0b.length, .v (.int .i64 ((bif (decide (((spec_l01PickInt p0b p0 ([1, 1, 2, 3, 4, 5, 6, 6, 7, 7, 8, 9, 10, 10, 11, 11, 12, 13, 14, 15, 16, 17, 18, 19, 20, 21, 22, 22] : List Int)).1) = 6)) then (((spec_l01Below p0b ((spec_l01Text p0b ((spec_l01Below p0b ((spec_l01Below p0b ((spec_l01Below p0b ((spec_l01Pick p0b ((spec_l01Pick p0b ((spec_l01PickInt p0b p0 ([1, 1, 2, 3, 4, 5, 6, 6, 7, 7, 8, 9, 10, 10, 11, 11, 12, 13, 14, 15, 16, 17, 18, 19, 20, 21, 22, 22] : List Int)).2) ([⟨#[120]⟩, ⟨#[121]⟩, ⟨#[108, 111, 103]⟩] : List ByteArray)).2) ([⟨#[120]⟩, ⟨#[121]⟩, ⟨#[122]⟩] : List ByteArray)).2) 4).2) 12).2) 12).2) ((spec_l01Below p0b ((spec_l01Below p0b ((spec_l01Below p0b ((spec_l01Pick p0b ((spec_l01Pick p0b ((spec_l01PickInt p0b p0 ([1, 1, 2, 3, 4, 5, 6, 6, 7, 7, 8, 9, 10, 10, 11, 11, 12, 13, 14, 15, 16, 17, 18, 19, 20, 21, 22, 22] : List Int)).2) ([⟨#[120]⟩, ⟨#[121]⟩, ⟨#[108, 111, 103]⟩] : List ByteArray)).2) ([⟨#[120]⟩, ⟨#[121]⟩, ⟨#[122]⟩] : List ByteArray)).2) 4).2) 12).2) 12).1)).2) 12).2).i) else (((spec_l01Text p0b ((spec_l01Below p0b ((spec_l01Below p0b ((spec_l01Below p0b ((spec_l01Pick p0b ((spec_l01Pick p0b ((spec_l01PickInt p0b p0 ([1, 1, 2, 3, 4, 5, 6, 6, 7, 7, 8, 9, 10, 10, 11, 11, 12, 13, 14, 15, 16, 17, 18, 19, 20, 21, 22, 22] : List Int)).2) ([⟨#[120]⟩, ⟨#[121]⟩, ⟨#[108, 111, 103]⟩] : List ByteArray)).2) ([⟨#[120]⟩, ⟨#[121]⟩, ⟨#[122]⟩] : List ByteArray)).2) 4).2) 12).2) 12).2) ((spec_l01Below p0b ((spec_l01Below p0b ((spec_l01Below p0b ((spec_l01Pick p0b ((spec_l01Pick p0b ((spec_l01PickInt p0b p0 ([1, 1, 2, 3, 4, 5, 6, 6, 7, 7, 8, 9, 10, 10, 11, 11, 12, 13, 14, 15, 16, 17, 18, 19, 20, 21, 22, 22] : List Int)).2) ([⟨#[120]⟩, ⟨#[121]⟩, ⟨#[108, 111, 103]⟩] : List ByteArray)).2) ([⟨#[120]⟩, ⟨#[121]⟩, ⟨#[122]⟩] : List ByteArray)).2) 4).2) 12).2) 12).1)).2).i) : Nat) : Int)), .v (.int .i64 (bif (decide (((spec_l01PickInt p0b p0 ([1, 1, 2, 3, 4, 5, 6, 6, 7, 7, 8, 9, 10, 10, 11, 11, 12, 13, 14, 15, 16, 17, 18, 19, 20, 21, 22, 22] : List Int)).1) = 6)) then (((spec_l01Below p0b ((spec_l01Text p0b ((spec_l01Below p0b ((spec_l01Below p0b ((spec_l01Below p0b ((spec_l01Pick p0b ((spec_l01Pick p0b ((spec_l01PickInt p0b p0 ([1, 1, 2, 3, 4, 5, 6, 6, 7, 7, 8, 9, 10, 10, 11, 11, 12, 13, 14, 15, 16, 17, 18, 19, 20, 21, 22, 22] : List Int)).2) ([⟨#[120]⟩, ⟨#[121]⟩, ⟨#[108, 111, 103]⟩] : List ByteArray)).2) ([⟨#[120]⟩, ⟨#[121]⟩, ⟨#[122]⟩] : List ByteArray)).2) 4).2) 12).2) 12).2) ((spec_l01Below p0b ((spec_l01Below p0b ((spec_l01Below p0b ((spec_l01Pick p0b ((spec_l01Pick p0b ((spec_l01PickInt p0b p0 ([1, 1, 2, 3, 4, 5, 6, 6, 7, 7, 8, 9, 10, 10, 11, 11, 12, 13, 14, 15, 16, 17, 18, 19, 20, 21, 22, 22] : List Int)).2) ([⟨#[120]⟩, ⟨#[121]⟩, ⟨#[108, 111, 103]⟩] : List ByteArray)).2) ([⟨#[120]⟩, ⟨#[121]⟩, ⟨#[122]⟩] : List ByteArray)).2) 4).2) 12).2) 12).1)).2) 12).2).h) else (((spec_l01Text p0b ((spec_l01Below p0b ((spec_l01Below p0b ((spec_l01Below p0b ((spec_l01Pick p0b ((spec_l01Pick p0b ((spec_l01PickInt p0b p0 ([1, 1, 2, 3, 4, 5, 6, 6, 7, 7, 8, 9, 10, 10, 11, 11, 12, 13, 14, 15, 16, 17, 18, 19, 20, 21, 22, 22] : List Int)).2) ([⟨#[120]⟩, ⟨#[121]⟩, ⟨#[108, 111, 103]⟩] : List ByteArray)).2) ([⟨#[120]⟩, ⟨#[121]⟩, ⟨#[122]⟩] : List ByteArray)).2) 4).2) 12).2) 12).2) ((spec_l01Below p0b ((spec_l01Below p0b ((spec_l01Below p0b ((spec_l01Pick p0b ((spec_l01Pick p0b ((spec_l01PickInt p0b p0 ([1, 1, 2, 3, 4, 5, 6, 6, 7, 7, 8, 9, 10, 10, 11, 11, 12, 13, 14, 15, 16, 17, 18, 19, 20, 21, 22, 22] : List Int)).2) ([⟨#[120]⟩, ⟨#[121]⟩, ⟨#[108, 111, 103]⟩] : List ByteArray)).2) ([⟨#[120]⟩, ⟨#[121]⟩, ⟨#[122]⟩] : List ByteArray)).2) 4).2) 12).2) 12).1)).2).h)))] 183), (0, .pin (p 0)), (1, .ros UInt8 instDatUInt8 p0b), (1, .pin (p 1)), (2, .var [.v (.int .i64 0), .v (.string ⟨#[]⟩), .v (.string ⟨#[]⟩), .v (.int .i64 0), .v (.int .i64 0), .v (.string ⟨#[]⟩)] 54), (3, .var [.v (.int .i64 ((spec_l01PickInt p0b p0 ([1, 1, 2, 3, 4, 5, 6, 6, 7, 7, 8, 9, 10, 10, 11, 11, 12, 13, 14, 15, 16, 17, 18, 19, 20, 21, 22, 22] : List Int)).1)), .v (.string ((spec_l01Pick p0b ((spec_l01PickInt p0b p0 ([1, 1, 2, 3, 4, 5, 6, 6, 7, 7, 8, 9, 10, 10, 11, 11, 12, 13, 14, 15, 16, 17, 18, 19, 20, 21, 22, 22] : List Int)).2) ([⟨#[120]⟩, ⟨#[121]⟩, ⟨#[108, 111, 103]⟩] : List ByteArray)).1)), .v (.string ((spec_l01Pick p0b ((spec_l01Pick p0b ((spec_l01PickInt p0b p0 ([1, 1, 2, 3, 4, 5, 6, 6, 7, 7, 8, 9, 10, 10, 11, 11, 12, 13, 14, 15, 16, 17, 18, 19, 20, 21, 22, 22] : List Int)).2) ([⟨#[120]⟩, ⟨#[121]⟩, ⟨#[108, 111, 103]⟩] : List ByteArray)).2) ([⟨#[120]⟩, ⟨#[121]⟩, ⟨#[122]⟩] : List ByteArray)).1)), .v (.int .i64 (bif (decide (((spec_l01PickInt p0b p0 ([1, 1, 2, 3, 4, 5, 6, 6, 7, 7, 8, 9, 10, 10, 11, 11, 12, 13, 14, 15, 16, 17, 18, 19, 20, 21, 22, 22] : List Int)).1) = 6)) then ((spec_l01Below p0b ((spec_l01Text p0b ((spec_l01Below p0b ((spec_l01Below p0b ((spec_l01Below p0b ((spec_l01Pick p0b ((spec_l01Pick p0b ((spec_l01PickInt p0b p0 ([1, 1, 2, 3, 4, 5, 6, 6, 7, 7, 8, 9, 10, 10, 11, 11, 12, 13, 14, 15, 16, 17, 18, 19, 20, 21, 22, 22] : List Int)).2) ([⟨#[120]⟩, ⟨#[121]⟩, ⟨#[108, 111, 103]⟩] : List ByteArray)).2) ([⟨#[120]⟩, ⟨#[121]⟩, ⟨#[122]⟩] : List ByteArray)).2) 4).2) 12).2) 12).2) ((spec_l01Below p0b ((spec_l01Below p0b ((spec_l01Below p0b ((spec_l01Pick p0b ((spec_l01Pick p0b ((spec_l01PickInt p0b p0 ([1, 1, 2, 3, 4, 5, 6, 6, 7, 7, 8, 9, 10, 10, 11, 11, 12, 13, 14, 15, 16, 17, 18, 19, 20, 21, 22, 22] : List Int)).2) ([⟨#[120]⟩, ⟨#[121]⟩, ⟨#[108, 111, 103]⟩] : List ByteArray)).2) ([⟨#[120]⟩, ⟨#[121]⟩, ⟨#[122]⟩] : List ByteArray)).2) 4).2) 12).2) 12).1)).2) 12).1) else ((spec_l01Below p0b ((spec_l01Pick p0b ((spec_l01Pick p0b ((spec_l01PickInt p0b p0 ([1, 1, 2, 3, 4, 5, 6, 6, 7, 7, 8, 9, 10, 10, 11, 11, 12, 13, 14, 15, 16, 17, 18, 19, 20, 21, 22, 22] : List Int)).2) ([⟨#[120]⟩, ⟨#[121]⟩, ⟨#[108, 111, 103]⟩] : List ByteArray)).2) ([⟨#[120]⟩, ⟨#[121]⟩, ⟨#[122]⟩] : List ByteArray)).2) 4).1))), .v (.int .i64 (IntKind.i64.wrap (1 + ((spec_l01Below p0b ((spec_l01Below p0b ((spec_l01Pick p0b ((spec_l01Pick p0b ((spec_l01PickInt p0b p0 ([1, 1, 2, 3, 4, 5, 6, 6, 7, 7, 8, 9, 10, 10, 11, 11, 12, 13, 14, 15, 16, 17, 18, 19, 20, 21, 22, 22] : List Int)).2) ([⟨#[120]⟩, ⟨#[121]⟩, ⟨#[108, 111, 103]⟩] : List ByteArray)).2) ([⟨#[120]⟩, ⟨#[121]⟩, ⟨#[122]⟩] : List ByteArray)).2) 4).2) 12).1)))), .v (.string ((spec_l01Text p0b ((spec_l01Below p0b ((spec_l01Below p0b ((spec_l01Below p0b ((spec_l01Pick p0b ((spec_l01Pick p0b ((spec_l01PickInt p0b p0 ([1, 1, 2, 3, 4, 5, 6, 6, 7, 7, 8, 9, 10, 10, 11, 11, 12, 13, 14, 15, 16, 17, 18, 19, 20, 21, 22, 22] : List Int)).2) ([⟨#[120]⟩, ⟨#[121]⟩, ⟨#[108, 111, 103]⟩] : List ByteArray)).2) ([⟨#[120]⟩, ⟨#[121]⟩, ⟨#[122]⟩] : List ByteArray)).2) 4).2) 12).2) 12).2) ((spec_l01Below p0b ((spec_l01Below p0b ((spec_l01Below p0b ((spec_l01Pick p0b ((spec_l01Pick p0b ((spec_l01PickInt p0b p0 ([1, 1, 2, 3, 4, 5, 6, 6, 7, 7, 8, 9, 10, 10, 11, 11, 12, 13, 14, 15, 16, 17, 18, 19, 20, 21, 22, 22] : List Int)).2) ([⟨#[120]⟩, ⟨#[121]⟩, ⟨#[108, 111, 103]⟩] : List ByteArray)).2) ([⟨#[120]⟩, ⟨#[121]⟩, ⟨#[122]⟩] : List ByteArray)).2) 4).2) 12).2) 12).1)).1))] 54)]⟩ (I64 (bif (decide (((spec_l01PickInt p0b p0 ([1, 1, 2, 3, 4, 5, 6, 6, 7, 7, 8, 9, 10, 10, 11, 11, 12, 13, 14, 15, 16, 17, 18, 19, 20, 21, 22, 22] : List Int)).1) = 6)) then ((spec_l01Below p0b ((spec_l01Text p0b ((spec_l01Below p0b ((spec_l01Below p0b ((spec_l01Below p0b ((spec_l01Pick p0b ((spec_l01Pick p0b ((spec_l01PickInt p0b p0 ([1, 1, 2, 3, 4, 5, 6, 6, 7, 7, 8, 9, 10, 10, 11, 11, 12, 13, 14, 15, 16, 17, 18, 19, 20, 21, 22, 22] : List Int)).2) ([⟨#[120]⟩, ⟨#[121]⟩, ⟨#[108, 111, 103]⟩] : List ByteArray)).2) ([⟨#[120]⟩, ⟨#[121]⟩, ⟨#[122]⟩] : List ByteArray)).2) 4).2) 12).2) 12).2) ((spec_l01Below p0b ((spec_l01Below p0b ((spec_l01Below p0b ((spec_l01Pick p0b ((spec_l01Pick p0b ((spec_l01PickInt p0b p0 ([1, 1, 2, 3, 4, 5, 6, 6, 7, 7, 8, 9, 10, 10, 11, 11, 12, 13, 14, 15, 16, 17, 18, 19, 20, 21, 22, 22] : List Int)).2) ([⟨#[120]⟩, ⟨#[121]⟩, ⟨#[108, 111, 103]⟩] : List ByteArray)).2) ([⟨#[120]⟩, ⟨#[121]⟩, ⟨#[122]⟩] : List ByteArray)).2) 4).2) 12).2) 12).1)).2) 12).1) else ((spec_l01Below p0b ((spec_l01Pick p0b ((spec_l01Pick p0b ((spec_l01PickInt p0b p0 ([1, 1, 2, 3, 4, 5, 6, 6, 7, 7, 8, 9, 10, 10, 11, 11, 12, 13, 14, 15, 16, 17, 18, 19, 20, 21, 22, 22] : List Int)).2) ([⟨#[120]⟩, ⟨#[121]⟩, ⟨#[108, 111, 103]⟩] : List ByteArray)).2) ([⟨#[120]⟩, ⟨#[121]⟩, ⟨#[122]⟩] : List ByteArray)).2) 4).1))) ?_ ?_
  · refine cd (fun h13 => ?_) (fun h13 => ?_)
    ·
      refine ad 2 ?_
      have hs14 := below_lti p0b ((spec_l01Text p0b ((spec_l01Below p0b ((spec_l01Below p0b ((spec_l01Below p0b ((spec_l01Pick p0b ((spec_l01Pick p0b ((spec_l01PickInt p0b p0 ([1, 1, 2, 3, 4, 5, 6, 6, 7, 7, 8, 9, 10, 10, 11, 11, 12, 13, 14, 15, 16, 17, 18, 19, 20, 21, 22, 22] : List Int)).2) ([⟨#[120]⟩, ⟨#[121]⟩, ⟨#[108, 111, 103]⟩] : List ByteArray)).2) ([⟨#[120]⟩, ⟨#[121]⟩, ⟨#[122]⟩] : List ByteArray)).2) 4).2) 12).2) 12).2) ((spec_l01Below p0b ((spec_l01Below p0b ((spec_l01Below p0b ((spec_l01Pick p0b ((spec_l01Pick p0b ((spec_l01PickInt p0b p0 ([1, 1, 2, 3, 4, 5, 6, 6, 7, 7, 8, 9, 10, 10, 11, 11, 12, 13, 14, 15, 16, 17, 18, 19, 20, 21, 22, 22] : List Int)).2) ([⟨#[120]⟩, ⟨#[121]⟩, ⟨#[108, 111, 103]⟩] : List ByteArray)).2) ([⟨#[120]⟩, ⟨#[121]⟩, ⟨#[122]⟩] : List ByteArray)).2) 4).2) 12).2) 12).1)).2) (n := 12) (by decide) (by decide)
      refine og (cm [0, 1] [0, 1] [0] [6] [1, 2, 3, 4, 5, 6, 7, 8] (c_spec_l01Below p0b ((spec_l01Text p0b ((spec_l01Below p0b ((spec_l01Below p0b ((spec_l01Below p0b ((spec_l01Pick p0b ((spec_l01Pick p0b ((spec_l01PickInt p0b p0 ([1, 1, 2, 3, 4, 5, 6, 6, 7, 7, 8, 9, 10, 10, 11, 11, 12, 13, 14, 15, 16, 17, 18, 19, 20, 21, 22, 22] : List Int)).2) ([⟨#[120]⟩, ⟨#[121]⟩, ⟨#[108, 111, 103]⟩] : List ByteArray)).2) ([⟨#[120]⟩, ⟨#[121]⟩, ⟨#[122]⟩] : List ByteArray)).2) 4).2) 12).2) 12).2) ((spec_l01Below p0b ((spec_l01Below p0b ((spec_l01Below p0b ((spec_l01Pick p0b ((spec_l01Pick p0b ((spec_l01PickInt p0b p0 ([1, 1, 2, 3, 4, 5, 6, 6, 7, 7, 8, 9, 10, 10, 11, 11, 12, 13, 14, 15, 16, 17, 18, 19, 20, 21, 22, 22] : List Int)).2) ([⟨#[120]⟩, ⟨#[121]⟩, ⟨#[108, 111, 103]⟩] : List ByteArray)).2) ([⟨#[120]⟩, ⟨#[121]⟩, ⟨#[122]⟩] : List ByteArray)).2) 4).2) 12).2) 12).1)).2) 12) fok101) fun hg15 => ?_
      refine ad 3 ?_
      exact Run.atP (bIt h13 hg15) [0, 1, 2, 4] [0, 7, 6, 8, 5, 3] (by first | exact su | (rw [h13]; exact su)) (by decide)
    ·
      refine ad 1 ?_
      exact Run.atP (bIf h13 hg7) [0, 1, 2, 4] [0, 7, 6, 8, 5, 3] (by first | exact su | (rw [h13]; exact su)) (by decide)
  intro hg16
  refine ad 3 ?_
  have hg17 : Dat.good (Call.mk ((spec_l01PickInt p0b p0 ([1, 1, 2, 3, 4, 5, 6, 6, 7, 7, 8, 9, 10, 10, 11, 11, 12, 13, 14, 15, 16, 17, 18, 19, 20, 21, 22, 22] : List Int)).1) ((spec_l01Pick p0b ((spec_l01PickInt p0b p0 ([1, 1, 2, 3, 4, 5, 6, 6, 7, 7, 8, 9, 10, 10, 11, 11, 12, 13, 14, 15, 16, 17, 18, 19, 20, 21, 22, 22] : List Int)).2) ([⟨#[120]⟩, ⟨#[121]⟩, ⟨#[108, 111, 103]⟩] : List ByteArray)).1) ((spec_l01Pick p0b ((spec_l01Pick p0b ((spec_l01PickInt p0b p0 ([1, 1, 2, 3, 4, 5, 6, 6, 7, 7, 8, 9, 10, 10, 11, 11, 12, 13, 14, 15, 16, 17, 18, 19, 20, 21, 22, 22] : List Int)).2) ([⟨#[120]⟩, ⟨#[121]⟩, ⟨#[108, 111, 103]⟩] : List ByteArray)).2) ([⟨#[120]⟩, ⟨#[121]⟩, ⟨#[122]⟩] : List ByteArray)).1) (bif (decide (((spec_l01PickInt p0b p0 ([1, 1, 2, 3, 4, 5, 6, 6, 7, 7, 8, 9, 10, 10, 11, 11, 12, 13, 14, 15, 16, 17, 18, 19, 20, 21, 22, 22] : List Int)).1) = 6)) then ((spec_l01Below p0b ((spec_l01Text p0b ((spec_l01Below p0b ((spec_l01Below p0b ((spec_l01Below p0b ((spec_l01Pick p0b ((spec_l01Pick p0b ((spec_l01PickInt p0b p0 ([1, 1, 2, 3, 4, 5, 6, 6, 7, 7, 8, 9, 10, 10, 11, 11, 12, 13, 14, 15, 16, 17, 18, 19, 20, 21, 22, 22] : List Int)).2) ([⟨#[120]⟩, ⟨#[121]⟩, ⟨#[108, 111, 103]⟩] : List ByteArray)).2) ([⟨#[120]⟩, ⟨#[121]⟩, ⟨#[122]⟩] : List ByteArray)).2) 4).2) 12).2) 12).2) ((spec_l01Below p0b ((spec_l01Below p0b ((spec_l01Below p0b ((spec_l01Pick p0b ((spec_l01Pick p0b ((spec_l01PickInt p0b p0 ([1, 1, 2, 3, 4, 5, 6, 6, 7, 7, 8, 9, 10, 10, 11, 11, 12, 13, 14, 15, 16, 17, 18, 19, 20, 21, 22, 22] : List Int)).2) ([⟨#[120]⟩, ⟨#[121]⟩, ⟨#[108, 111, 103]⟩] : List ByteArray)).2) ([⟨#[120]⟩, ⟨#[121]⟩, ⟨#[122]⟩] : List ByteArray)).2) 4).2) 12).2) 12).1)).2) 12).1) else ((spec_l01Below p0b ((spec_l01Pick p0b ((spec_l01Pick p0b ((spec_l01PickInt p0b p0 ([1, 1, 2, 3, 4, 5, 6, 6, 7, 7, 8, 9, 10, 10, 11, 11, 12, 13, 14, 15, 16, 17, 18, 19, 20, 21, 22, 22] : List Int)).2) ([⟨#[120]⟩, ⟨#[121]⟩, ⟨#[108, 111, 103]⟩] : List ByteArray)).2) ([⟨#[120]⟩, ⟨#[121]⟩, ⟨#[122]⟩] : List ByteArray)).2) 4).1)) (IntKind.i64.wrap (1 + ((spec_l01Below p0b ((spec_l01Below p0b ((spec_l01Pick p0b ((spec_l01Pick p0b ((spec_l01PickInt p0b p0 ([1, 1, 2, 3, 4, 5, 6, 6, 7, 7, 8, 9, 10, 10, 11, 11, 12, 13, 14, 15, 16, 17, 18, 19, 20, 21, 22, 22] : List Int)).2) ([⟨#[120]⟩, ⟨#[121]⟩, ⟨#[108, 111, 103]⟩] : List ByteArray)).2) ([⟨#[120]⟩, ⟨#[121]⟩, ⟨#[122]⟩] : List ByteArray)).2) 4).2) 12).1))) ((spec_l01Text p0b ((spec_l01Below p0b ((spec_l01Below p0b ((spec_l01Below p0b ((spec_l01Pick p0b ((spec_l01Pick p0b ((spec_l01PickInt p0b p0 ([1, 1, 2, 3, 4, 5, 6, 6, 7, 7, 8, 9, 10, 10, 11, 11, 12, 13, 14, 15, 16, 17, 18, 19, 20, 21, 22, 22] : List Int)).2) ([⟨#[120]⟩, ⟨#[121]⟩, ⟨#[108, 111, 103]⟩] : List ByteArray)).2) ([⟨#[120]⟩, ⟨#[121]⟩, ⟨#[122]⟩] : List ByteArray)).2) 4).2) 12).2) 12).2) ((spec_l01Below p0b ((spec_l01Below p0b ((spec_l01Below p0b ((spec_l01Pick p0b ((spec_l01Pick p0b ((spec_l01PickInt p0b p0 ([1, 1, 2, 3, 4, 5, 6, 6, 7, 7, 8, 9, 10, 10, 11, 11, 12, 13, 14, 15, 16, 17, 18, 19, 20, 21, 22, 22] : List Int)).2) ([⟨#[120]⟩, ⟨#[121]⟩, ⟨#[108, 111, 103]⟩] : List ByteArray)).2) ([⟨#[120]⟩, ⟨#[121]⟩, ⟨#[122]⟩] : List ByteArray)).2) 4).2) 12).2) 12).1)).1) : Call) := (good_Call hg1 hg3 hg5 hg16 (I64_wrap _) hg12)
  refine og (clg (c_spec_Told (Call.mk ((spec_l01PickInt p0b p0 ([1, 1, 2, 3, 4, 5, 6, 6, 7, 7, 8, 9, 10, 10, 11, 11, 12, 13, 14, 15, 16, 17, 18, 19, 20, 21, 22, 22] : List Int)).1) ((spec_l01Pick p0b ((spec_l01PickInt p0b p0 ([1, 1, 2, 3, 4, 5, 6, 6, 7, 7, 8, 9, 10, 10, 11, 11, 12, 13, 14, 15, 16, 17, 18, 19, 20, 21, 22, 22] : List Int)).2) ([⟨#[120]⟩, ⟨#[121]⟩, ⟨#[108, 111, 103]⟩] : List ByteArray)).1) ((spec_l01Pick p0b ((spec_l01Pick p0b ((spec_l01PickInt p0b p0 ([1, 1, 2, 3, 4, 5, 6, 6, 7, 7, 8, 9, 10, 10, 11, 11, 12, 13, 14, 15, 16, 17, 18, 19, 20, 21, 22, 22] : List Int)).2) ([⟨#[120]⟩, ⟨#[121]⟩, ⟨#[108, 111, 103]⟩] : List ByteArray)).2) ([⟨#[120]⟩, ⟨#[121]⟩, ⟨#[122]⟩] : List ByteArray)).1) (bif (decide (((spec_l01PickInt p0b p0 ([1, 1, 2, 3, 4, 5, 6, 6, 7, 7, 8, 9, 10, 10, 11, 11, 12, 13, 14, 15, 16, 17, 18, 19, 20, 21, 22, 22] : List Int)).1) = 6)) then ((spec_l01Below p0b ((spec_l01Text p0b ((spec_l01Below p0b ((spec_l01Below p0b ((spec_l01Below p0b ((spec_l01Pick p0b ((spec_l01Pick p0b ((spec_l01PickInt p0b p0 ([1, 1, 2, 3, 4, 5, 6, 6, 7, 7, 8, 9, 10, 10, 11, 11, 12, 13, 14, 15, 16, 17, 18, 19, 20, 21, 22, 22] : List Int)).2) ([⟨#[120]⟩, ⟨#[121]⟩, ⟨#[108, 111, 103]⟩] : List ByteArray)).2) ([⟨#[120]⟩, ⟨#[121]⟩, ⟨#[122]⟩] : List ByteArray)).2) 4).2) 12).2) 12).2) ((spec_l01Below p0b ((spec_l01Below p0b ((spec_l01Below p0b ((spec_l01Pick p0b ((spec_l01Pick p0b ((spec_l01PickInt p0b p0 ([1, 1, 2, 3, 4, 5, 6, 6, 7, 7, 8, 9, 10, 10, 11, 11, 12, 13, 14, 15, 16, 17, 18, 19, 20, 21, 22, 22] : List Int)).2) ([⟨#[120]⟩, ⟨#[121]⟩, ⟨#[108, 111, 103]⟩] : List ByteArray)).2) ([⟨#[120]⟩, ⟨#[121]⟩, ⟨#[122]⟩] : List ByteArray)).2) 4).2) 12).2) 12).1)).2) 12).1) else ((spec_l01Below p0b ((spec_l01Pick p0b ((spec_l01Pick p0b ((spec_l01PickInt p0b p0 ([1, 1, 2, 3, 4, 5, 6, 6, 7, 7, 8, 9, 10, 10, 11, 11, 12, 13, 14, 15, 16, 17, 18, 19, 20, 21, 22, 22] : List Int)).2) ([⟨#[120]⟩, ⟨#[121]⟩, ⟨#[108, 111, 103]⟩] : List ByteArray)).2) ([⟨#[120]⟩, ⟨#[121]⟩, ⟨#[122]⟩] : List ByteArray)).2) 4).1)) (IntKind.i64.wrap (1 + ((spec_l01Below p0b ((spec_l01Below p0b ((spec_l01Pick p0b ((spec_l01Pick p0b ((spec_l01PickInt p0b p0 ([1, 1, 2, 3, 4, 5, 6, 6, 7, 7, 8, 9, 10, 10, 11, 11, 12, 13, 14, 15, 16, 17, 18, 19, 20, 21, 22, 22] : List Int)).2) ([⟨#[120]⟩, ⟨#[121]⟩, ⟨#[108, 111, 103]⟩] : List ByteArray)).2) ([⟨#[120]⟩, ⟨#[121]⟩, ⟨#[122]⟩] : List ByteArray)).2) 4).2) 12).1))) ((spec_l01Text p0b ((spec_l01Below p0b ((spec_l01Below p0b ((spec_l01Below p0b ((spec_l01Pick p0b ((spec_l01Pick p0b ((spec_l01PickInt p0b p0 ([1, 1, 2, 3, 4, 5, 6, 6, 7, 7, 8, 9, 10, 10, 11, 11, 12, 13, 14, 15, 16, 17, 18, 19, 20, 21, 22, 22] : List Int)).2) ([⟨#[120]⟩, ⟨#[121]⟩, ⟨#[108, 111, 103]⟩] : List ByteArray)).2) ([⟨#[120]⟩, ⟨#[121]⟩, ⟨#[122]⟩] : List ByteArray)).2) 4).2) 12).2) 12).2) ((spec_l01Below p0b ((spec_l01Below p0b ((spec_l01Below p0b ((spec_l01Pick p0b ((spec_l01Pick p0b ((spec_l01PickInt p0b p0 ([1, 1, 2, 3, 4, 5, 6, 6, 7, 7, 8, 9, 10, 10, 11, 11, 12, 13, 14, 15, 16, 17, 18, 19, 20, 21, 22, 22] : List Int)).2) ([⟨#[120]⟩, ⟨#[121]⟩, ⟨#[108, 111, 103]⟩] : List ByteArray)).2) ([⟨#[120]⟩, ⟨#[121]⟩, ⟨#[122]⟩] : List ByteArray)).2) 4).2) 12).2) 12).1)).1))) fok108) fun hgq => ?_
  obtain ⟨hg18, _⟩ := hgq
  refine ad 2 ?_
  exact rzM (rs := [.cell 2 54]) [0, 1] [0, 1, 3] (hg1 := hg18) (hG1 := congrArg (fun x => (Dat.good (x.1 : Call) : Prop)) hM) (congrArg (fun x => ([(0, .var [.sl 1 p0b.length, .v (.int .i64 (x.2.i : Int)), .v (.int .i64 x.2.h)] 183)] : List (Nat × En))) hM) (congrArg (fun x => ([.ag [.v (.int .i64 x.1.Kind), .v (.string x.1.Name), .v (.string x.1.To), .v (.int .i64 x.1.A), .v (.int .i64 x.1.B), .v (.string x.1.Text)]] : List V)) hM)

/- F86 loop.example/g00974/spec.l13Any -/
def spec_l13Any (p0b : List (UInt8)) (p0 : Cur) : Call × Cur := ((Call.mk (bif (decide (((spec_l01Below p0b ((spec_l13Call p0b p0).2) 12).1) = 0)) then ((spec_l01PickInt p0b ((spec_l01Below p0b ((spec_l13Call p0b p0).2) 12).2) ([0, 23, (-1), 5] : List Int)).1) else ((spec_l13Call p0b p0).1.Kind)) (bif (decide (((spec_l01Below p0b ((spec_l13Call p0b p0).2) 12).1) = 0)) then ((spec_l13Call p0b p0).1.Name) else (bif (decide (((spec_l01Below p0b ((spec_l13Call p0b p0).2) 12).1) = 1)) then ((spec_l01Pick p0b ((spec_l01Below p0b ((spec_l13Call p0b p0).2) 12).2) ([⟨#[]⟩, ⟨#[65]⟩, (spec_l01Long 21 (97 : UInt8))] : List ByteArray)).1) else ((spec_l13Call p0b p0).1.Name))) ((spec_l13Call p0b p0).1.To) (bif (decide (((spec_l01Below p0b ((spec_l13Call p0b p0).2) 12).1) = 0)) then ((spec_l13Call p0b p0).1.A) else (bif (decide (((spec_l01Below p0b ((spec_l13Call p0b p0).2) 12).1) = 1)) then ((spec_l13Call p0b p0).1.A) else (bif (decide (((spec_l01Below p0b ((spec_l13Call p0b p0).2) 12).1) = 2)) then ((spec_l01PickInt p0b ((spec_l01Below p0b ((spec_l13Call p0b p0).2) 12).2) ([(-1), 99, 9223372036854775807, (-9223372036854775808)] : List Int)).1) else ((spec_l13Call p0b p0).1.A)))) (bif (decide (((spec_l01Below p0b ((spec_l13Call p0b p0).2) 12).1) = 0)) then ((spec_l13Call p0b p0).1.B) else (bif (decide (((spec_l01Below p0b ((spec_l13Call p0b p0).2) 12).1) = 1)) then ((spec_l13Call p0b p0).1.B) else (bif (decide (((spec_l01Below p0b ((spec_l13Call p0b p0).2) 12).1) = 2)) then ((spec_l13Call p0b p0).1.B) else (bif (decide (((spec_l01Below p0b ((spec_l13Call p0b p0).2) 12).1) = 3)) then ((spec_l13Call p0b p0).1.B) else (bif (decide (((spec_l01Below p0b ((spec_l13Call p0b p0).2) 12).1) = 4)) then ((spec_l01PickInt p0b ((spec_l01Below p0b ((spec_l13Call p0b p0).2) 12).2) ([0, (-1), 9223372036854775807] : List Int)).1) else ((spec_l13Call p0b p0).1.B)))))) (bif (decide (((spec_l01Below p0b ((spec_l13Call p0b p0).2) 12).1) = 0)) then ((spec_l13Call p0b p0).1.Text) else (bif (decide (((spec_l01Below p0b ((spec_l13Call p0b p0).2) 12).1) = 1)) then ((spec_l13Call p0b p0).1.Text) else (bif (decide (((spec_l01Below p0b ((spec_l13Call p0b p0).2) 12).1) = 2)) then ((spec_l13Call p0b p0).1.Text) else (bif (decide (((spec_l01Below p0b ((spec_l13Call p0b p0).2) 12).1) = 3)) then (spec_l01Long (IntKind.i64.wrap (20 + ((spec_l01Below p0b ((spec_l01Below p0b ((spec_l13Call p0b p0).2) 12).2) 46).1))) (5 : UInt8)) else ((spec_l13Call p0b p0).1.Text)))))), (Cur.mk (bif (decide (((spec_l01Below p0b ((spec_l13Call p0b p0).2) 12).1) = 0)) then (((spec_l01PickInt p0b ((spec_l01Below p0b ((spec_l13Call p0b p0).2) 12).2) ([0, 23, (-1), 5] : List Int)).2).i) else (bif (decide (((spec_l01Below p0b ((spec_l13Call p0b p0).2) 12).1) = 1)) then (((spec_l01Pick p0b ((spec_l01Below p0b ((spec_l13Call p0b p0).2) 12).2) ([⟨#[]⟩, ⟨#[65]⟩, (spec_l01Long 21 (97 : UInt8))] : List ByteArray)).2).i) else (bif (decide (((spec_l01Below p0b ((spec_l13Call p0b p0).2) 12).1) = 2)) then (((spec_l01PickInt p0b ((spec_l01Below p0b ((spec_l13Call p0b p0).2) 12).2) ([(-1), 99, 9223372036854775807, (-9223372036854775808)] : List Int)).2).i) else (bif (decide (((spec_l01Below p0b ((spec_l13Call p0b p0).2) 12).1) = 3)) then (((spec_l01Below p0b ((spec_l01Below p0b ((spec_l13Call p0b p0).2) 12).2) 46).2).i) else (bif (decide (((spec_l01Below p0b ((spec_l13Call p0b p0).2) 12).1) = 4)) then (((spec_l01PickInt p0b ((spec_l01Below p0b ((spec_l13Call p0b p0).2) 12).2) ([0, (-1), 9223372036854775807] : List Int)).2).i) else (((spec_l01Below p0b ((spec_l13Call p0b p0).2) 12).2).i)))))) (bif (decide (((spec_l01Below p0b ((spec_l13Call p0b p0).2) 12).1) = 0)) then (((spec_l01PickInt p0b ((spec_l01Below p0b ((spec_l13Call p0b p0).2) 12).2) ([0, 23, (-1), 5] : List Int)).2).h) else (bif (decide (((spec_l01Below p0b ((spec_l13Call p0b p0).2) 12).1) = 1)) then (((spec_l01Pick p0b ((spec_l01Below p0b ((spec_l13Call p0b p0).2) 12).2) ([⟨#[]⟩, ⟨#[65]⟩, (spec_l01Long 21 (97 : UInt8))] : List ByteArray)).2).h) else (bif (decide (((spec_l01Below p0b ((spec_l13Call p0b p0).2) 12).1) = 2)) then (((spec_l01PickInt p0b ((spec_l01Below p0b ((spec_l13Call p0b p0).2) 12).2) ([(-1), 99, 9223372036854775807, (-9223372036854775808)] : List Int)).2).h) else (bif (decide (((spec_l01Below p0b ((spec_l13Call p0b p0).2) 12).1) = 3)) then (((spec_l01Below p0b ((spec_l01Below p0b ((spec_l13Call p0b p0).2) 12).2) 46).2).h) else (bif (decide (((spec_l01Below p0b ((spec_l13Call p0b p0).2) 12).1) = 4)) then (((spec_l01PickInt p0b ((spec_l01Below p0b ((spec_l13Call p0b p0).2) 12).2) ([0, (-1), 9223372036854775807] : List Int)).2).h) else (((spec_l01Below p0b ((spec_l13Call p0b p0).2) 12).2).h))))))))
theorem c_spec_l13Any (p0b : List (UInt8)) (p0 : Cur) : CTMs 86 2 2 [(0, .var [.sl 1 p0b.length, .v (.int .i64 (p0.i : Int)), .v (.int .i64 p0.h)] 183)] [(1, .ros UInt8 instDatUInt8 p0b)] [.pt 0 0] [(0, .var [.sl 1 p0b.length, .v (.int .i64 (((spec_l13Any p0b p0).2).i : Int)), .v (.int .i64 (((spec_l13Any p0b p0).2).h))] 183)] 0 [.ag [.v (.int .i64 ((spec_l13Any p0b p0).1.Kind)), .v (.string ((spec_l13Any p0b p0).1.Name)), .v (.string ((spec_l13Any p0b p0).1.To)), .v (.int .i64 ((spec_l13Any p0b p0).1.A)), .v (.int .i64 ((spec_l13Any p0b p0).1.B)), .v (.string ((spec_l13Any p0b p0).1.Text))]] (Dat.good ((spec_l13Any p0b p0).1 : Call)) := by
  refine enM Tryz.func86 Tryz.ntmps86 fun S w p hG hb hg => ?_
  refine Run.cg (σ' := ⟨41, 2, [(0, .pt 0 0)], [(0, .var [.sl 1 p0b.length, .v (.int .i64 (p0.i : Int)), .v (.int .i64 p0.h)] 183), (1, .ros UInt8 instDatUInt8 p0b), (0, .pin (p 0)), (1, .pin (p 1))]⟩) rfl ?_
  refine gd 1 fun hg_p0b => ?_
  have hl_p0b : p0b.length ≤ 9223372036854775807 := hg_p0b.1
  have hM := spec_l13Any.eq_1 p0b p0
  refine ad 7 ?_
  refine og (cm [0, 1] [0, 1] [1] [2] [0, 2, 3, 4] (c_spec_l13Call p0b p0) fok95) fun hg1 => ?_
  refine ad 7 ?_
  have hs2 := below_lti p0b ((spec_l13Call p0b p0).2) (n := 12) (by decide) (by decide)
  refine og (cm [0, 1] [0, 1] [1] [3] [0, 2, 3, 4, 5] (c_spec_l01Below p0b ((spec_l13Call p0b p0).2) 12) fok101) fun hg3 => ?_
  refine ad 7 ?_
  refine Run.midP ⟨41, 4, [(0, .pt 0 0), (2, .pt 2 0), (3, .pt 3 0)], [(0, .var [.sl 1 p0b.length, .v (.int .i64 ((bif (decide (((spec_l01Below p0b ((spec_l13Call p0b p0).2) 12).1) = 0)) then (((spec_l01PickInt p0b ((spec_l01Below p0b ((spec_l13Call p0b p0).2) 12).2) ([0, 23, (-1), 5] : List Int)).2).i) else (bif (decide (((spec_l01Below p0b ((spec_l13Call p0b p0).2) 12).1) = 1)) then (((spec_l01Pick p0b ((spec_l01Below p0b ((spec_l13Call p0b p0).2) 12).2) ([⟨#[]⟩, ⟨#[65]⟩, (spec_l01Long 21 (97 : UInt8))] : List ByteArray)).2).i) else (bif (decide (((spec_l01Below p0b ((spec_l13Call p0b p0).2) 12).1) = 2)) then (((spec_l01PickInt p0b ((spec_l01Below p0b ((spec_l13Call p0b p0).2) 12).2) ([(-1), 99, 9223372036854775807, (-9223372036854775808)] : List Int)).2).i) else (bif (decide (((spec_l01Below p0b ((spec_l13Call p0b p0).2) 12).1) = 3)) then (((spec_l01Below p0b ((spec_l01Below p0b ((spec_l13Call p0b p0).2) 12).2) 46).2).i) else (bif (decide (((spec_l01Below p0b ((spec_l13Call p0b p0).2) 12).1) = 4)) then (((spec_l01PickInt p0b ((spec_l01Below p0b ((spec_l13Call p0b p0).2) 12).2) ([0, (-1), 9223372036854775807] : List Int)).2).i) else (((spec_l01Below p0b ((spec_l13Call p0b p0).2) 12).2).i))))) : Nat) : Int)), .v (.int .i64 (bif (decide (((spec_l01Below p0b ((spec_l13Call p0b p0).2) 12).1) = 0)) then (((spec_l01PickInt p0b ((spec_l01Below p0b ((spec_l13Call p0b p0).2) 12).2) ([0, 23, (-1), 5] : List Int)).2).h) else (bif (decide (((spec_l01Below p0b ((spec_l13Call p0b p0).2) 12).1) = 1)) then (((spec_l01Pick p0b ((spec_l01Below p0b ((spec_l13Call p0b p0).2) 12).2) ([⟨#[]⟩, ⟨#[65]⟩, (spec_l01Long 21 (97 : UInt8))] : List ByteArray)).2).h) else (bif (decide (((spec_l01Below p0b ((spec_l13Call p0b p0).2) 12).1) = 2)) then (((spec_l01PickInt p0b ((spec_l01Below p0b ((spec_l13Call p0b p0).2) 12).2) ([(-1), 99, 9223372036854775807, (-9223372036854775808)] : List Int)).2).h) else (bif (decide (((spec_l01Below p0b ((spec_l13Call p0b p0).2) 12).1) = 3)) then (((spec_l01Below p0b ((spec_l01Below p0b ((spec_l13Call p0b p0).2) 12).2) 46).2).h) else (bif (decide (((spec_l01Below p0b ((spec_l13Call p0b p0).2) 12).1) = 4)) then (((spec_l01PickInt p0b ((spec_l01Below p0b ((spec_l13Call p0b p0).2) 12).2) ([0, (-1), 9223372036854775807] : List Int)).2).h) else (((spec_l01Below p0b ((spec_l13Call p0b p0).2) 12).2).h)))))))] 183), (0, .pin (p 0)), (1, .ros UInt8 instDatUInt8 p0b), (1, .pin (p 1)), (2, .var [.v (.int .i64 0), .v (.string ⟨#[]⟩), .v (.string ⟨#[]⟩), .v (.int .i64 0), .v (.int .i64 0), .v (.string ⟨#[]⟩)] 54), (3, .var [.v (.int .i64 (bif (decide (((spec_l01Below p0b ((spec_l13Call p0b p0).2) 12).1) = 0)) then ((spec_l01PickInt p0b ((spec_l01Below p0b ((spec_l13Call p0b p0).2) 12).2) ([0, 23, (-1), 5] : List Int)).1) else ((spec_l13Call p0b p0).1.Kind))), .v (.string (bif (decide (((spec_l01Below p0b ((spec_l13Call p0b p0).2) 12).1) = 0)) then ((spec_l13Call p0b p0).1.Name) else (bif (decide (((spec_l01Below p0b ((spec_l13Call p0b p0).2) 12).1) = 1)) then ((spec_l01Pick p0b ((spec_l01Below p0b ((spec_l13Call p0b p0).2) 12).2) ([⟨#[]⟩, ⟨#[65]⟩, (spec_l01Long 21 (97 : UInt8))] : List ByteArray)).1) else ((spec_l13Call p0b p0).1.Name)))), .v (.string ((spec_l13Call p0b p0).1.To)), .v (.int .i64 (bif (decide (((spec_l01Below p0b ((spec_l13Call p0b p0).2) 12).1) = 0)) then ((spec_l13Call p0b p0).1.A) else (bif (decide (((spec_l01Below p0b ((spec_l13Call p0b p0).2) 12).1) = 1)) then ((spec_l13Call p0b p0).1.A) else (bif (decide (((spec_l01Below p0b ((spec_l13Call p0b p0).2) 12).1) = 2)) then ((spec_l01PickInt p0b ((spec_l01Below p0b ((spec_l13Call p0b p0).2) 12).2) ([(-1), 99, 9223372036854775807, (-9223372036854775808)] : List Int)).1) else ((spec_l13Call p0b p0).1.A))))), .v (.int .i64 (bif (decide (((spec_l01Below p0b ((spec_l13Call p0b p0).2) 12).1) = 0)) then ((spec_l13Call p0b p0).1.B) else (bif (decide (((spec_l01Below p0b ((spec_l13Call p0b p0).2) 12).1) = 1)) then ((spec_l13Call p0b p0).1.B) else (bif (decide (((spec_l01Below p0b ((spec_l13Call p0b p0).2) 12).1) = 2)) then ((spec_l13Call p0b p0).1.B) else (bif (decide (((spec_l01Below p0b ((spec_l13Call p0b p0).2) 12).1) = 3)) then ((spec_l13Call p0b p0).1.B) else (bif (decide (((spec_l01Below p0b ((spec_l13Call p0b p0).2) 12).1) = 4)) then ((spec_l01PickInt p0b ((spec_l01Below p0b ((spec_l13Call p0b p0).2) 12).2) ([0, (-1), 9223372036854775807] : List Int)).1) else ((spec_l13Call p0b p0).1.B))))))), .v (.string (bif (decide (((spec_l01Below p0b ((spec_l13Call p0b p0).2) 12).1) = 0)) then ((spec_l13Call p0b p0).1.Text) else (bif (decide (((spec_l01Below p0b ((spec_l13Call p0b p0).2) 12).1) = 1)) then ((spec_l13Call p0b p0).1.Text) else (bif (decide (((spec_l01Below p0b ((spec_l13Call p0b p0).2) 12).1) = 2)) then ((spec_l13Call p0b p0).1.Text) else (bif (decide (((spec_l01Below p0b ((spec_l13Call p0b p0).2) 12).1) = 3)) then (spec_l01Long (IntKind.i64.wrap (20 + ((spec_l01Below p0b ((spec_l01Below p0b ((spec_l13Call p0b p0).2) 12).2) 46).1))) (5 : UInt8)) else ((spec_l13Call p0b p0).1.Text))))))] 54)]⟩ ((bif (decide (((spec_l01Below p0b ((spec_l13Call p0b p0).2) 12).1) = 0)) then ((spec_l13Call p0b p0).1.Text) else (bif (decide (((spec_l01Below p0b ((spec_l13Call p0b p0).2) 12).1) = 1)) then ((spec_l13Call p0b p0).1.Text) else (bif (decide (((spec_l01Below p0b ((spec_l13Call p0b p0).2) 12).1) = 2)) then ((spec_l13Call p0b p0).1.Text) else (bif (decide (((spec_l01Below p0b ((spec_l13Call p0b p0).2) 12).1) = 3)) then (spec_l01Long (IntKind.i64.wrap (20 + ((spec_l01Below p0b ((spec_l01Below p0b ((spec_l13Call p0b p0).2) 12).2) 46).1))) (5 : UInt8)) else ((spec_l13Call p0b p0).1.Text))))).size ≤ maxLen) ?_ ?_
  · refine cd (fun h4 => ?_) (fun h4 => ?_)
    ·
      refine ad 3 ?_
      refine li 4 (d := instDatInt) ([0, 23, (-1), 5] : List Int) ?_
      refine og (cm [0, 1, 4] [0, 1] [1] [4, 0] [0, 2, 3, 4, 5, 6] (c_spec_l01PickInt p0b ((spec_l01Below p0b ((spec_l13Call p0b p0).2) 12).2) ([0, 23, (-1), 5] : List Int) (by decide) (by decide)) fok153) fun hg5 => ?_
      refine ad 3 ?_
      exact Run.atP (bSt h4 hg1.2.2.2.2.2) [0, 1, 2, 3] [0, 5, 4, 6, 3, 2] (by first | exact su | (rw [h4]; exact su)) (by decide)
    ·
      refine ad 5 ?_
      refine Run.midP ⟨41, 4, [(0, .pt 0 0), (2, .pt 2 0), (3, .pt 3 0)], [(0, .var [.sl 1 p0b.length, .v (.int .i64 ((bif (decide (((spec_l01Below p0b ((spec_l13Call p0b p0).2) 12).1) = 1)) then (((spec_l01Pick p0b ((spec_l01Below p0b ((spec_l13Call p0b p0).2) 12).2) ([⟨#[]⟩, ⟨#[65]⟩, (spec_l01Long 21 (97 : UInt8))] : List ByteArray)).2).i) else (bif (decide (((spec_l01Below p0b ((spec_l13Call p0b p0).2) 12).1) = 2)) then (((spec_l01PickInt p0b ((spec_l01Below p0b ((spec_l13Call p0b p0).2) 12).2) ([(-1), 99, 9223372036854775807, (-9223372036854775808)] : List Int)).2).i) else (bif (decide (((spec_l01Below p0b ((spec_l13Call p0b p0).2) 12).1) = 3)) then (((spec_l01Below p0b ((spec_l01Below p0b ((spec_l13Call p0b p0).2) 12).2) 46).2).i) else (bif (decide (((spec_l01Below p0b ((spec_l13Call p0b p0).2) 12).1) = 4)) then (((spec_l01PickInt p0b ((spec_l01Below p0b ((spec_l13Call p0b p0).2) 12).2) ([0, (-1), 9223372036854775807] : List Int)).2).i) else (((spec_l01Below p0b ((spec_l13Call p0b p0).2) 12).2).i)))) : Nat) : Int)), .v (.int .i64 (bif (decide (((spec_l01Below p0b ((spec_l13Call p0b p0).2) 12).1) = 1)) then (((spec_l01Pick p0b ((spec_l01Below p0b ((spec_l13Call p0b p0).2) 12).2) ([⟨#[]⟩, ⟨#[65]⟩, (spec_l01Long 21 (97 : UInt8))] : List ByteArray)).2).h) else (bif (decide (((spec_l01Below p0b ((spec_l13Call p0b p0).2) 12).1) = 2)) then (((spec_l01PickInt p0b ((spec_l01Below p0b ((spec_l13Call p0b p0).2) 12).2) ([(-1), 99, 9223372036854775807, (-9223372036854775808)] : List Int)).2).h) else (bif (decide (((spec_l01Below p0b ((spec_l13Call p0b p0).2) 12).1) = 3)) then (((spec_l01Below p0b ((spec_l01Below p0b ((spec_l13Call p0b p0).2) 12).2) 46).2).h) else (bif (decide (((spec_l01Below p0b ((spec_l13Call p0b p0).2) 12).1) = 4)) then (((spec_l01PickInt p0b ((spec_l01Below p0b ((spec_l13Call p0b p0).2) 12).2) ([0, (-1), 9223372036854775807] : List Int)).2).h) else (((spec_l01Below p0b ((spec_l13Call p0b p0).2) 12).2).h))))))] 183), (0, .pin (p 0)), (1, .ros UInt8 instDatUInt8 p0b), (1, .pin (p 1)), (2, .var [.v (.int .i64 0), .v (.string ⟨#[]⟩), .v (.string ⟨#[]⟩), .v (.int .i64 0), .v (.int .i64 0), .v (.string ⟨#[]⟩)] 54), (3, .var [.v (.int .i64 ((spec_l13Call p0b p0).1.Kind)), .v (.string (bif (decide (((spec_l01Below p0b ((spec_l13Call p0b p0).2) 12).1) = 1)) then ((spec_l01Pick p0b ((spec_l01Below p0b ((spec_l13Call p0b p0).2) 12).2) ([⟨#[]⟩, ⟨#[65]⟩, (spec_l01Long 21 (97 : UInt8))] : List ByteArray)).1) else ((spec_l13Call p0b p0).1.Name))), .v (.string ((spec_l13Call p0b p0).1.To)), .v (.int .i64 (bif (decide (((spec_l01Below p0b ((spec_l13Call p0b p0).2) 12).1) = 1)) then ((spec_l13Call p0b p0).1.A) else (bif (decide (((spec_l01Below p0b ((spec_l13Call p0b p0).2) 12).1) = 2)) then ((spec_l01PickInt p0b ((spec_l01Below p0b ((spec_l13Call p0b p0).2) 12).2) ([(-1), 99, 9223372036854775807, (-9223372036854775808)] : List Int)).1) else ((spec_l13Call p0b p0).1.A)))), .v (.int .i64 (bif (decide (((spec_l01Below p0b ((spec_l13Call p0b p0).2) 12).1) = 1)) then ((spec_l13Call p0b p0).1.B) else (bif (decide (((spec_l01Below p0b ((spec_l13Call p0b p0).2) 12).1) = 2)) then ((spec_l13Call p0b p0).1.B) else (bif (decide (((spec_l01Below p0b ((spec_l13Call p0b p0).2) 12).1) = 3)) then ((spec_l13Call p0b p0).1.B) else (bif (decide (((spec_l01Below p0b ((spec_l13Call p0b p0).2) 12).1) = 4)) then ((spec_l01PickInt p0b ((spec_l01Below p0b ((spec_l13Call p0b p0).2) 12).2) ([0, (-1), 9223372036854775807] : List Int)).1) else ((spec_l13Call p0b p0).1.B)))))), .v (.string (bif (decide (((spec_l01Below p0b ((spec_l13Call p0b p0).2) 12).1) = 1)) then ((spec_l13Call p0b p0).1.Text) else (bif (decide (((spec_l01Below p0b ((spec_l13Call p0b p0).2) 12).1) = 2)) then ((spec_l13Call p0b p0).1.Text) else (bif (decide (((spec_l01Below p0b ((spec_l13Call p0b p0).2) 12).1) = 3)) then (spec_l01Long (IntKind.i64.wrap (20 + ((spec_l01Below p0b ((spec_l01Below p0b ((spec_l13Call p0b p0).2) 12).2) 46).1))) (5 : UInt8)) else ((spec_l13Call p0b p0).1.Text)))))] 54)]⟩ ((bif (decide (((spec_l01Below p0b ((spec_l13Call p0b p0).2) 12).1) = 1)) then ((spec_l13Call p0b p0).1.Text) else (bif (decide (((spec_l01Below p0b ((spec_l13Call p0b p0).2) 12).1) = 2)) then ((spec_l13Call p0b p0).1.Text) else (bif (decide (((spec_l01Below p0b ((spec_l13Call p0b p0).2) 12).1) = 3)) then (spec_l01Long (IntKind.i64.wrap (20 + ((spec_l01Below p0b ((spec_l01Below p0b ((spec_l13Call p0b p0).2) 12).2) 46).1))) (5 : UInt8)) else ((spec_l13Call p0b p0).1.Text)))).size ≤ maxLen) ?_ ?_
      · refine cd (fun h6 => ?_) (fun h6 => ?_)
        ·
          refine ad 2 ?_
          refine op (cl (c_spec_l01Long 21 (97 : UInt8) (by first | decide | exact om)) fok154) ?_
          refine ad 1 ?_
          refine li 4 (d := instDatByteArray) ([⟨#[]⟩, ⟨#[65]⟩, (spec_l01Long 21 (97 : UInt8))] : List ByteArray) ?_
          refine og (cm [0, 1, 4] [0, 1] [1] [4, 0] [0, 2, 3, 4, 5, 6] (c_spec_l01Pick p0b ((spec_l01Below p0b ((spec_l13Call p0b p0).2) 12).2) ([⟨#[]⟩, ⟨#[65]⟩, (spec_l01Long 21 (97 : UInt8))] : List ByteArray) (by decide) (by decide)) fok94) fun hg7 => ?_
          refine ad 3 ?_
          exact Run.atP (bSt h6 hg1.2.2.2.2.2) [0, 1, 2, 3] [0, 5, 4, 6, 3, 2] (by first | exact su | (rw [h6]; exact su)) (by decide)
        ·
          refine ad 5 ?_
          refine Run.midP ⟨41, 4, [(0, .pt 0 0), (2, .pt 2 0), (3, .pt 3 0)], [(0, .var [.sl 1 p0b.length, .v (.int .i64 ((bif (decide (((spec_l01Below p0b ((spec_l13Call p0b p0).2) 12).1) = 2)) then (((spec_l01PickInt p0b ((spec_l01Below p0b ((spec_l13Call p0b p0).2) 12).2) ([(-1), 99, 9223372036854775807, (-9223372036854775808)] : List Int)).2).i) else (bif (decide (((spec_l01Below p0b ((spec_l13Call p0b p0).2) 12).1) = 3)) then (((spec_l01Below p0b ((spec_l01Below p0b ((spec_l13Call p0b p0).2) 12).2) 46).2).i) else (bif (decide (((spec_l01Below p0b ((spec_l13Call p0b p0).2) 12).1) = 4)) then (((spec_l01PickInt p0b ((spec_l01Below p0b ((spec_l13Call p0b p0).2) 12).2) ([0, (-1), 9223372036854775807] : List Int)).2).i) else (((spec_l01Below p0b ((spec_l13Call p0b p0).2) 12).2).i))) : Nat) : Int)), .v (.int .i64 (bif (decide (((spec_l01Below p0b ((spec_l13Call p0b p0).2) 12).1) = 2)) then (((spec_l01PickInt p0b ((spec_l01Below p0b ((spec_l13Call p0b p0).2) 12).2) ([(-1), 99, 9223372036854775807, (-9223372036854775808)] : List Int)).2).h) else (bif (decide (((spec_l01Below p0b ((spec_l13Call p0b p0).2) 12).1) = 3)) then (((spec_l01Below p0b ((spec_l01Below p0b ((spec_l13Call p0b p0).2) 12).2) 46).2).h) else (bif (decide (((spec_l01Below p0b ((spec_l13Call p0b p0).2) 12).1) = 4)) then (((spec_l01PickInt p0b ((spec_l01Below p0b ((spec_l13Call p0b p0).2) 12).2) ([0, (-1), 9223372036854775807] : List Int)).2).h) else (((spec_l01Below p0b ((spec_l13Call p0b p0).2) 12).2).h)))))] 183), (0, .pin (p 0)), (1, .ros UInt8 instDatUInt8 p0b), (1, .pin (p 1)), (2, .var [.v (.int .i64 0), .v (.string ⟨#[]⟩), .v (.string ⟨#[]⟩), .v (.int .i64 0), .v (.int .i64 0), .v (.string ⟨#[]⟩)] 54), (3, .var [.v (.int .i64 ((spec_l13Call p0b p0).1.Kind)), .v (.string ((spec_l13Call p0b p0).1.Name)), .v (.string ((spec_l13Call p0b p0).1.To)), .v (.int .i64 (bif (decide (((spec_l01Below p0b ((spec_l13Call p0b p0).2) 12).1) = 2)) then ((spec_l01PickInt p0b ((spec_l01Below p0b ((spec_l13Call p0b p0).2) 12).2) ([(-1), 99, 9223372036854775807, (-9223372036854775808)] : List Int)).1) else ((spec_l13Call p0b p0).1.A))), .v (.int .i64 (bif (decide (((spec_l01Below p0b ((spec_l13Call p0b p0).2) 12).1) = 2)) then ((spec_l13Call p0b p0).1.B) else (bif (decide (((spec_l01Below p0b ((spec_l13Call p0b p0).2) 12).1) = 3)) then ((spec_l13Call p0b p0).1.B) else (bif (decide (((spec_l01Below p0b ((spec_l13Call p0b p0).2) 12).1) = 4)) then ((spec_l01PickInt p0b ((spec_l01Below p0b ((spec_l13Call p0b p0).2) 12).2) ([0, (-1), 9223372036854775807] : List Int)).1) else ((spec_l13Call p0b p0).1.B))))), .v (.string (bif (decide (((spec_l01Below p0b ((spec_l13Call p0b p0).2) 12).1) = 2)) then ((spec_l13Call p0b p0).1.Text) else (bif (decide (((spec_l01Below p0b ((spec_l13Call p0b p0).2) 12).1) = 3)) then (spec_l01Long (IntKind.i64.wrap (20 + ((spec_l01Below p0b ((spec_l01Below p0b ((spec_l13Call p0b p0).2) 12).2) 46).1))) (5 : UInt8)) else ((spec_l13Call p0b p0).1.Text))))] 54)]⟩ ((bif (decide (((spec_l01Below p0b ((spec_l13Call p0b p0).2) 12).1) = 2)) then ((spec_l13Call p0b p0).1.Text) else (bif (decide (((spec_l01Below p0b ((spec_l13Call p0b p0).2) 12).1) = 3)) then (spec_l01Long (IntKind.i64.wrap (20 + ((spec_l01Below p0b ((spec_l01Below p0b ((spec_l13Call p0b p0).2) 12).2) 46).1))) (5 : UInt8)) else ((spec_l13Call p0b p0).1.Text))).size ≤ maxLen) ?_ ?_
          · refine cd (fun h8 => ?_) (fun h8 => ?_)
            ·
              refine ad 3 ?_
              refine li 4 (d := instDatInt) ([(-1), 99, 9223372036854775807, (-9223372036854775808)] : List Int) ?_
              refine og (cm [0, 1, 4] [0, 1] [1] [4, 0] [0, 2, 3, 4, 5, 6] (c_spec_l01PickInt p0b ((spec_l01Below p0b ((spec_l13Call p0b p0).2) 12).2) ([(-1), 99, 9223372036854775807, (-9223372036854775808)] : List Int) (by decide) (by decide)) fok153) fun hg9 => ?_
              refine ad 3 ?_
              exact Run.atP (bSt h8 hg1.2.2.2.2.2) [0, 1, 2, 3] [0, 5, 4, 6, 3, 2] (by first | exact su | (rw [h8]; exact su)) (by decide)
            ·
              refine ad 5 ?_
              refine Run.midP ⟨41, 4, [(0, .pt 0 0), (2, .pt 2 0), (3, .pt 3 0)], [(0, .var [.sl 1 p0b.length, .v (.int .i64 ((bif (decide (((spec_l01Below p0b ((spec_l13Call p0b p0).2) 12).1) = 3)) then (((spec_l01Below p0b ((spec_l01Below p0b ((spec_l13Call p0b p0).2) 12).2) 46).2).i) else (bif (decide (((spec_l01Below p0b ((spec_l13Call p0b p0).2) 12).1) = 4)) then (((spec_l01PickInt p0b ((spec_l01Below p0b ((spec_l13Call p0b p0).2) 12).2) ([0, (-1), 9223372036854775807] : List Int)).2).i) else (((spec_l01Below p0b ((spec_l13Call p0b p0).2) 12).2).i)) : Nat) : Int)), .v (.int .i64 (bif (decide (((spec_l01Below p0b ((spec_l13Call p0b p0).2) 12).1) = 3)) then (((spec_l01Below p0b ((spec_l01Below p0b ((spec_l13Call p0b p0).2) 12).2) 46).2).h) else (bif (decide (((spec_l01Below p0b ((spec_l13Call p0b p0).2) 12).1) = 4)) then (((spec_l01PickInt p0b ((spec_l01Below p0b ((spec_l13Call p0b p0).2) 12).2) ([0, (-1), 9223372036854775807] : List Int)).2).h) else (((spec_l01Below p0b ((spec_l13Call p0b p0).2) 12).2).h))))] 183), (0, .pin (p 0)), (1, .ros UInt8 instDatUInt8 p0b), (1, .pin (p 1)), (2, .var [.v (.int .i64 0), .v (.string ⟨#[]⟩), .v (.string ⟨#[]⟩), .v (.int .i64 0), .v (.int .i64 0), .v (.string ⟨#[]⟩)] 54), (3, .var [.v (.int .i64 ((spec_l13Call p0b p0).1.Kind)), .v (.string ((spec_l13Call p0b p0).1.Name)), .v (.string ((spec_l13Call p0b p0).1.To)), .v (.int .i64 ((spec_l13Call p0b p0).1.A)), .v (.int .i64 (bif (decide (((spec_l01Below p0b ((spec_l13Call p0b p0).2) 12).1) = 3)) then ((spec_l13Call p0b p0).1.B) else (bif (decide (((spec_l01Below p0b ((spec_l13Call p0b p0).2) 12).1) = 4)) then ((spec_l01PickInt p0b ((spec_l01Below p0b ((spec_l13Call p0b p0).2) 12).2) ([0, (-1), 9223372036854775807] : List Int)).1) else ((spec_l13Call p0b p0).1.B)))), .v (.string (bif (decide (((spec_l01Below p0b ((spec_l13Call p0b p0).2) 12).1) = 3)) then (spec_l01Long (IntKind.i64.wrap (20 + ((spec_l01Below p0b ((spec_l01Below p0b ((spec_l13Call p0b p0).2) 12).2) 46).1))) (5 : UInt8)) else ((spec_l13Call p0b p0).1.Text)))] 54)]⟩ ((bif (decide (((spec_l01Below p0b ((spec_l13Call p0b p0).2) 12).1) = 3)) then (spec_l01Long (IntKind.i64.wrap (20 + ((spec_l01Below p0b ((spec_l01Below p0b ((spec_l13Call p0b p0).2) 12).2) 46).1))) (5 : UInt8)) else ((spec_l13Call p0b p0).1.Text)).size ≤ maxLen) ?_ ?_
              · refine cd (fun h10 => ?_) (fun h10 => ?_)
                ·
                  refine ad 2 ?_
                  have hs11 := below_lti p0b ((spec_l01Below p0b ((spec_l13Call p0b p0).2) 12).2) (n := 46) (by decide) (by decide)
                  refine og (cm [0, 1] [0, 1] [0] [3] [1, 2, 3, 4, 5] (c_spec_l01Below p0b ((spec_l01Below p0b ((spec_l13Call p0b p0).2) 12).2) 46) fok101) fun hg12 => ?_
                  refine ad 1 ?_
                  refine op (cl (c_spec_l01Long (IntKind.i64.wrap (20 + ((spec_l01Below p0b ((spec_l01Below p0b ((spec_l13Call p0b p0).2) 12).2) 46).1))) (5 : UInt8) (by first | decide | exact om)) fok154) ?_
                  refine ad 3 ?_
                  exact Run.atP (bSt h10 (spec_l01Long_size (IntKind.i64.wrap (20 + ((spec_l01Below p0b ((spec_l01Below p0b ((spec_l13Call p0b p0).2) 12).2) 46).1))) (5 : UInt8) (by first | decide | exact om))) [0, 1, 2, 3] [0, 4, 3, 5, 2, 1] (by first | exact su | (rw [h10]; exact su)) (by decide)
                ·
                  refine ad 5 ?_
                  refine Run.mid ⟨41, 4, [(0, .pt 0 0), (2, .pt 2 0), (3, .pt 3 0)], [(0, .var [.sl 1 p0b.length, .v (.int .i64 ((bif (decide (((spec_l01Below p0b ((spec_l13Call p0b p0).2) 12).1) = 4)) then (((spec_l01PickInt p0b ((spec_l01Below p0b ((spec_l13Call p0b p0).2) 12).2) ([0, (-1), 9223372036854775807] : List Int)).2).i) else (((spec_l01Below p0b ((spec_l13Call p0b p0).2) 12).2).i) : Nat) : Int)), .v (.int .i64 (bif (decide (((spec_l01Below p0b ((spec_l13Call p0b p0).2) 12).1) = 4)) then (((spec_l01PickInt p0b ((spec_l01Below p0b ((spec_l13Call p0b p0).2) 12).2) ([0, (-1), 9223372036854775807] : List Int)).2).h) else (((spec_l01Below p0b ((spec_l13Call p0b p0).2) 12).2).h)))] 183), (0, .pin (p 0)), (1, .ros UInt8 instDatUInt8 p0b), (1, .pin (p 1)), (2, .var [.v (.int .i64 0), .v (.string ⟨#[]⟩), .v (.string ⟨#[]⟩), .v (.int .i64 0), .v (.int .i64 0), .v (.string ⟨#[]⟩)] 54), (3, .var [.v (.int .i64 ((spec_l13Call p0b p0).1.Kind)), .v (.string ((spec_l13Call p0b p0).1.Name)), .v (.string ((spec_l13Call p0b p0).1.To)), .v (.int .i64 ((spec_l13Call p0b p0).1.A)), .v (.int .i64 (bif (decide (((spec_l01Below p0b ((spec_l13Call p0b p0).2) 12).1) = 4)) then ((spec_l01PickInt p0b ((spec_l01Below p0b ((spec_l13Call p0b p0).2) 12).2) ([0, (-1), 9223372036854775807] : List Int)).1) else ((spec_l13Call p0b p0).1.B))), .v (.string ((spec_l13Call p0b p0).1.Text))] 54)]⟩ ?_ ?_
                  · refine cd (fun h13 => ?_) (fun h13 => ?_)
                    ·
                      refine ad 3 ?_
                      refine li 4 (d := instDatInt) ([0, (-1), 9223372036854775807] : List Int) ?_
                      refine og (cm [0, 1, 4] [0, 1] [1] [4, 0] [0, 2, 3, 4, 5, 6] (c_spec_l01PickInt p0b ((spec_l01Below p0b ((spec_l13Call p0b p0).2) 12).2) ([0, (-1), 9223372036854775807] : List Int) (by decide) (by decide)) fok153) fun hg14 => ?_
                      refine ad 3 ?_
                      exact Run.at [0, 1, 2, 3] [0, 5, 4, 6, 3, 2] (by first | exact su | (rw [h13]; exact su)) (by decide)
                    ·
                      refine ad 1 ?_
                      exact Run.at [0, 1, 2, 3] [0, 4, 3, 5, 2, 1] (by first | exact su | (rw [h13]; exact su)) (by decide)
                  exact Run.atP (bSf h10 hg1.2.2.2.2.2) [0, 1, 2, 3] [0, 1, 2, 3, 4, 5] (by first | exact su | (rw [h10]; exact su)) (by decide)
              intro hg15
              exact Run.atP (bSf h8 hg15) [0, 1, 2, 3] [0, 1, 2, 3, 4, 5] (by first | exact su | (rw [h8]; exact su)) (by decide)
          intro hg16
          exact Run.atP (bSf h6 hg16) [0, 1, 2, 3] [0, 1, 2, 3, 4, 5] (by first | exact su | (rw [h6]; exact su)) (by decide)
      intro hg17
      exact Run.atP (bSf h4 hg17) [0, 1, 2, 3] [0, 1, 2, 3, 4, 5] (by first | exact su | (rw [h4]; exact su)) (by decide)
  intro hg18
  refine ad 6 ?_
  exact rzM (rs := [.cell 2 54]) [0, 1] [0, 1, 3] (hg1 := (good_Call (bifI (pickInt_I64 p0b ((spec_l01Below p0b ((spec_l13Call p0b p0).2) 12).2) ([0, 23, (-1), 5] : List Int) (by decide)) hg1.1) (bifS hg1.2.1 (bifS (pick_size p0b ((spec_l01Below p0b ((spec_l13Call p0b p0).2) 12).2) ([⟨#[]⟩, ⟨#[65]⟩, (spec_l01Long 21 (97 : UInt8))] : List ByteArray) (by intro x hx; simp only [List.mem_cons, List.not_mem_nil, or_false] at hx; rcases hx with rfl | rfl | rfl <;> first | exact gs _ | exact spec_l01Long_size _ _ (by decide))) hg1.2.1)) hg1.2.2.1 (bifI hg1.2.2.2.1 (bifI hg1.2.2.2.1 (bifI (pickInt_I64 p0b ((spec_l01Below p0b ((spec_l13Call p0b p0).2) 12).2) ([(-1), 99, 9223372036854775807, (-9223372036854775808)] : List Int) (by decide)) hg1.2.2.2.1))) (bifI hg1.2.2.2.2.1 (bifI hg1.2.2.2.2.1 (bifI hg1.2.2.2.2.1 (bifI hg1.2.2.2.2.1 (bifI (pickInt_I64 p0b ((spec_l01Below p0b ((spec_l13Call p0b p0).2) 12).2) ([0, (-1), 9223372036854775807] : List Int) (by decide)) hg1.2.2.2.2.1))))) hg18)) (hG1 := congrArg (fun x => (Dat.good (x.1 : Call) : Prop)) hM) (congrArg (fun x => ([(0, .var [.sl 1 p0b.length, .v (.int .i64 (x.2.i : Int)), .v (.int .i64 x.2.h)] 183)] : List (Nat × En))) hM) (congrArg (fun x => ([.ag [.v (.int .i64 x.1.Kind), .v (.string x.1.Name), .v (.string x.1.To), .v (.int .i64 x.1.A), .v (.int .i64 x.1.B), .v (.string x.1.Text)]] : List V)) hM)

/- F192 loop.example/g00974/spec.l31Act -/
def spec_l31Act (p0b : List (UInt8)) (p0 : Cur) : Deed × Cur := bif (decide (((spec_l01Below p0b ((spec_l01Below p0b p0 4).2) 24).1) = 0)) || ((decide (((spec_l01Below p0b ((spec_l01Below p0b p0 4).2) 24).1) = 1)) || (decide (((spec_l01Below p0b ((spec_l01Below p0b p0 4).2) 24).1) = 2))) then ((Deed.mk 1 (IntKind.i64.wrap (1 + ((spec_l01Below p0b ((spec_l01Below p0b ((spec_l01Below p0b p0 4).2) 24).2) 3).1))) 0 (Call.mk 0 ⟨#[]⟩ ⟨#[]⟩ 0 0 ⟨#[]⟩)), ((spec_l01Below p0b ((spec_l01Below p0b ((spec_l01Below p0b p0 4).2) 24).2) 3).2)) else (bif decide (((spec_l01Below p0b ((spec_l01Below p0b p0 4).2) 24).1) = 3) then ((Deed.mk 3 (IntKind.i64.wrap (1 + ((spec_l01Below p0b p0 4).1))) 0 (Call.mk 0 ⟨#[]⟩ ⟨#[]⟩ 0 0 ⟨#[]⟩)), ((spec_l01Below p0b ((spec_l01Below p0b p0 4).2) 24).2)) else (bif decide (((spec_l01Below p0b ((spec_l01Below p0b p0 4).2) 24).1) = 4) then ((Deed.mk 4 (IntKind.i64.wrap (1 + ((spec_l01Below p0b p0 4).1))) 1 (Call.mk 0 ⟨#[]⟩ ⟨#[]⟩ 0 0 ⟨#[]⟩)), ((spec_l01Below p0b ((spec_l01Below p0b p0 4).2) 24).2)) else (bif decide (((spec_l01Below p0b ((spec_l01Below p0b p0 4).2) 24).1) = 5) then ((Deed.mk 5 (IntKind.i64.wrap (1 + ((spec_l01Below p0b p0 4).1))) 0 (Call.mk 0 ⟨#[]⟩ ⟨#[]⟩ 0 0 ⟨#[]⟩)), ((spec_l01Below p0b ((spec_l01Below p0b p0 4).2) 24).2)) else (bif (decide (((spec_l01Below p0b ((spec_l01Below p0b p0 4).2) 24).1) = 6)) || ((decide (((spec_l01Below p0b ((spec_l01Below p0b p0 4).2) 24).1) = 7)) || (decide (((spec_l01Below p0b ((spec_l01Below p0b p0 4).2) 24).1) = 8))) then ((Deed.mk 6 (IntKind.i64.wrap (1 + ((spec_l01Below p0b p0 4).1))) 0 (Call.mk 0 ⟨#[]⟩ ⟨#[]⟩ 0 0 ⟨#[]⟩)), ((spec_l01Below p0b ((spec_l01Below p0b p0 4).2) 24).2)) else (bif (decide (((spec_l01Below p0b ((spec_l01Below p0b p0 4).2) 24).1) = 9)) || (decide (((spec_l01Below p0b ((spec_l01Below p0b p0 4).2) 24).1) = 10)) then ((Deed.mk 7 (IntKind.i64.wrap (1 + ((spec_l01Below p0b ((spec_l01Below p0b ((spec_l01Below p0b p0 4).2) 24).2) 2).1))) 0 ((spec_l13Call p0b ((spec_l01Below p0b ((spec_l01Below p0b ((spec_l01Below p0b p0 4).2) 24).2) 2).2)).1)), ((spec_l13Call p0b ((spec_l01Below p0b ((spec_l01Below p0b ((spec_l01Below p0b p0 4).2) 24).2) 2).2)).2)) else (bif decide (((spec_l01Below p0b ((spec_l01Below p0b p0 4).2) 24).1) = 11) then ((Deed.mk 8 0 0 (Call.mk 0 ⟨#[]⟩ ⟨#[]⟩ 0 0 ⟨#[]⟩)), ((spec_l01Below p0b ((spec_l01Below p0b p0 4).2) 24).2)) else (bif decide (((spec_l01Below p0b ((spec_l01Below p0b p0 4).2) 24).1) = 12) then ((Deed.mk 9 0 0 (Call.mk 0 ⟨#[]⟩ ⟨#[]⟩ 0 0 ⟨#[]⟩)), ((spec_l01Below p0b ((spec_l01Below p0b p0 4).2) 24).2)) else (bif decide (((spec_l01Below p0b ((spec_l01Below p0b p0 4).2) 24).1) = 13) then ((Deed.mk 10 0 0 (Call.mk 0 ⟨#[]⟩ ⟨#[]⟩ 0 0 ⟨#[]⟩)), ((spec_l01Below p0b ((spec_l01Below p0b p0 4).2) 24).2)) else (bif decide (((spec_l01Below p0b ((spec_l01Below p0b p0 4).2) 24).1) = 14) then ((Deed.mk 11 ((spec_l01PickInt p0b ((spec_l01Below p0b ((spec_l01Below p0b p0 4).2) 24).2) ([0, 20, 100, 100000] : List Int)).1) 0 (Call.mk 0 ⟨#[]⟩ ⟨#[]⟩ 0 0 ⟨#[]⟩)), ((spec_l01PickInt p0b ((spec_l01Below p0b ((spec_l01Below p0b p0 4).2) 24).2) ([0, 20, 100, 100000] : List Int)).2)) else (bif decide (((spec_l01Below p0b ((spec_l01Below p0b p0 4).2) 24).1) = 15) then ((Deed.mk 12 (IntKind.i64.wrap (1 + ((spec_l01Below p0b p0 4).1))) 0 (Call.mk 0 ⟨#[]⟩ ⟨#[]⟩ 0 0 ⟨#[]⟩)), ((spec_l01Below p0b ((spec_l01Below p0b p0 4).2) 24).2)) else ((Deed.mk 2 (IntKind.i64.wrap (1 + ((spec_l01Below p0b p0 4).1))) 0 ((spec_l13Call p0b ((spec_l01Below p0b ((spec_l01Below p0b p0 4).2) 24).2)).1)), ((spec_l13Call p0b ((spec_l01Below p0b ((spec_l01Below p0b p0 4).2) 24).2)).2))))))))))))
theorem c_spec_l31Act (p0b : List (UInt8)) (p0 : Cur) : CTMs 192 2 2 [(0, .var [.sl 1 p0b.length, .v (.int .i64 (p0.i : Int)), .v (.int .i64 p0.h)] 183)] [(1, .ros UInt8 instDatUInt8 p0b)] [.pt 0 0] [(0, .var [.sl 1 p0b.length, .v (.int .i64 (((spec_l31Act p0b p0).2).i : Int)), .v (.int .i64 (((spec_l31Act p0b p0).2).h))] 183)] 0 [.ag [.v (.int .i64 ((spec_l31Act p0b p0).1.Kind)), .v (.int .i64 ((spec_l31Act p0b p0).1.N)), .v (.int .i64 ((spec_l31Act p0b p0).1.M)), .v (.int .i64 ((spec_l31Act p0b p0).1.Call.Kind)), .v (.string ((spec_l31Act p0b p0).1.Call.Name)), .v (.string ((spec_l31Act p0b p0).1.Call.To)), .v (.int .i64 ((spec_l31Act p0b p0).1.Call.A)), .v (.int .i64 ((spec_l31Act p0b p0).1.Call.B)), .v (.string ((spec_l31Act p0b p0).1.Call.Text))]] (Dat.good ((spec_l31Act p0b p0).1 : Deed)) := by
  refine enM Tryz.func192 Tryz.ntmps192 fun S w p hG hb hg => ?_
  refine Run.cg (σ' := ⟨67, 2, [(0, .pt 0 0)], [(0, .var [.sl 1 p0b.length, .v (.int .i64 (p0.i : Int)), .v (.int .i64 p0.h)] 183), (1, .ros UInt8 instDatUInt8 p0b), (0, .pin (p 0)), (1, .pin (p 1))]⟩) rfl ?_
  refine gd 1 fun hg_p0b => ?_
  have hl_p0b : p0b.length ≤ 9223372036854775807 := hg_p0b.1
  have hM := spec_l31Act.eq_1 p0b p0
  refine ad 7 ?_
  have hs1 := below_lti p0b p0 (n := 4) (by decide) (by decide)
  refine og (cm [0, 1] [0, 1] [1] [2] [0, 2, 3, 4] (c_spec_l01Below p0b p0 4) fok101) fun hg2 => ?_
  refine ad 7 ?_
  have hs3 := below_lti p0b ((spec_l01Below p0b p0 4).2) (n := 24) (by decide) (by decide)
  refine og (cm [0, 1] [0, 1] [0] [2] [1, 2, 3, 4] (c_spec_l01Below p0b ((spec_l01Below p0b p0 4).2) 24) fok101) fun hg4 => ?_
  refine ad 8 ?_
  refine Run.mid ⟨67, 3, [(0, .pt 0 0), (2, .pt 2 0), (3, .v (.int .i64 (IntKind.i64.wrap (1 + ((spec_l01Below p0b p0 4).1))))), (8, .v (.int .i64 ((spec_l01Below p0b ((spec_l01Below p0b p0 4).2) 24).1))), (9, .v (.bool ((decide (((spec_l01Below p0b ((spec_l01Below p0b p0 4).2) 24).1) = 0)) || ((decide (((spec_l01Below p0b ((spec_l01Below p0b p0 4).2) 24).1) = 1)) || (decide (((spec_l01Below p0b ((spec_l01Below p0b p0 4).2) 24).1) = 2))))))], [(0, .var [.sl 1 p0b.length, .v (.int .i64 (((spec_l01Below p0b ((spec_l01Below p0b p0 4).2) 24).2).i : Int)), .v (.int .i64 (((spec_l01Below p0b ((spec_l01Below p0b p0 4).2) 24).2).h))] 183), (0, .pin (p 0)), (1, .ros UInt8 instDatUInt8 p0b), (1, .pin (p 1)), (2, .var [.v (.int .i64 0), .v (.int .i64 0), .v (.int .i64 0), .v (.int .i64 0), .v (.string ⟨#[]⟩), .v (.string ⟨#[]⟩), .v (.int .i64 0), .v (.int .i64 0), .v (.string ⟨#[]⟩)] 56)]⟩ ?_ ?_
  · refine cd (fun h5 => ?_) (fun h5 => ?_)
    ·
      refine ad 1 ?_
      exact Run.at [0, 1, 2] [0, 3, 2, 4, 1] (by first | exact su | (rw [h5]; exact su)) (by decide)
    ·
      refine ad 5 ?_
      refine Run.mid ⟨67, 3, [(0, .pt 0 0), (2, .pt 2 0), (3, .v (.int .i64 (IntKind.i64.wrap (1 + ((spec_l01Below p0b p0 4).1))))), (8, .v (.int .i64 ((spec_l01Below p0b ((spec_l01Below p0b p0 4).2) 24).1))), (9, .v (.bool ((decide (((spec_l01Below p0b ((spec_l01Below p0b p0 4).2) 24).1) = 1)) || (decide (((spec_l01Below p0b ((spec_l01Below p0b p0 4).2) 24).1) = 2)))))], [(0, .var [.sl 1 p0b.length, .v (.int .i64 (((spec_l01Below p0b ((spec_l01Below p0b p0 4).2) 24).2).i : Int)), .v (.int .i64 (((spec_l01Below p0b ((spec_l01Below p0b p0 4).2) 24).2).h))] 183), (0, .pin (p 0)), (1, .ros UInt8 instDatUInt8 p0b), (1, .pin (p 1)), (2, .var [.v (.int .i64 0), .v (.int .i64 0), .v (.int .i64 0), .v (.int .i64 0), .v (.string ⟨#[]⟩), .v (.string ⟨#[]⟩), .v (.int .i64 0), .v (.int .i64 0), .v (.string ⟨#[]⟩)] 56)]⟩ ?_ ?_
      · refine cd (fun h6 => ?_) (fun h6 => ?_)
        ·
          refine ad 1 ?_
          exact Run.at [0, 1, 2] [0, 3, 2, 4, 1] (by first | exact su | (rw [h6]; exact su)) (by decide)
        ·
          refine ad 4 ?_
          exact Run.at [0, 1, 2] [0, 3, 2, 4, 1] (by first | exact su | (rw [h6]; exact su)) (by decide)
      exact Run.at [0, 1, 2] [0, 1, 2, 3, 4] (by first | exact su | (rw [h5]; exact su)) (by decide)
  refine cd (fun h7 => ?_) (fun h7 => ?_)
  ·
    have hM := hM.trans (bt h7)
    refine ad 3 ?_
    have hs8 := below_lti p0b ((spec_l01Below p0b ((spec_l01Below p0b p0 4).2) 24).2) (n := 3) (by decide) (by decide)
    refine og (cm [0, 1] [0, 1] [0] [2] [1, 2, 3, 4] (c_spec_l01Below p0b ((spec_l01Below p0b ((spec_l01Below p0b p0 4).2) 24).2) 3) fok101) fun hg9 => ?_
    refine ad 4 ?_
    exact rzM (rs := [.cell 2 56]) [0, 1] [0, 1, 3] (hg1 := ⟨(gi 1), (I64_wrap _), (gi 0), (good_Call (gi 0) (gs ⟨#[]⟩) (gs ⟨#[]⟩) (gi 0) (gi 0) (gs ⟨#[]⟩))⟩) (hG1 := congrArg (fun x => (Dat.good (x.1 : Deed) : Prop)) hM) (congrArg (fun x => ([(0, .var [.sl 1 p0b.length, .v (.int .i64 (x.2.i : Int)), .v (.int .i64 x.2.h)] 183)] : List (Nat × En))) hM) (congrArg (fun x => ([.ag [.v (.int .i64 x.1.Kind), .v (.int .i64 x.1.N), .v (.int .i64 x.1.M), .v (.int .i64 x.1.Call.Kind), .v (.string x.1.Call.Name), .v (.string x.1.Call.To), .v (.int .i64 x.1.Call.A), .v (.int .i64 x.1.Call.B), .v (.string x.1.Call.Text)]] : List V)) hM)
  ·
    have hM := hM.trans (bf h7)
    refine ad 5 ?_
    refine cd (fun h10 => ?_) (fun h10 => ?_)
    ·
      have hM := hM.trans (bt h10)
      refine ad 6 ?_
      exact rzM (rs := [.cell 2 56]) [0, 1] [0, 1, 3] (hg1 := ⟨(gi 3), (I64_wrap _), (gi 0), (good_Call (gi 0) (gs ⟨#[]⟩) (gs ⟨#[]⟩) (gi 0) (gi 0) (gs ⟨#[]⟩))⟩) (hG1 := congrArg (fun x => (Dat.good (x.1 : Deed) : Prop)) hM) (congrArg (fun x => ([(0, .var [.sl 1 p0b.length, .v (.int .i64 (x.2.i : Int)), .v (.int .i64 x.2.h)] 183)] : List (Nat × En))) hM) (congrArg (fun x => ([.ag [.v (.int .i64 x.1.Kind), .v (.int .i64 x.1.N), .v (.int .i64 x.1.M), .v (.int .i64 x.1.Call.Kind), .v (.string x.1.Call.Name), .v (.string x.1.Call.To), .v (.int .i64 x.1.Call.A), .v (.int .i64 x.1.Call.B), .v (.string x.1.Call.Text)]] : List V)) hM)
    ·
      have hM := hM.trans (bf h10)
      refine ad 5 ?_
      refine cd (fun h11 => ?_) (fun h11 => ?_)
      ·
        have hM := hM.trans (bt h11)
        refine ad 6 ?_
        exact rzM (rs := [.cell 2 56]) [0, 1] [0, 1, 3] (hg1 := ⟨(gi 4), (I64_wrap _), (gi 1), (good_Call (gi 0) (gs ⟨#[]⟩) (gs ⟨#[]⟩) (gi 0) (gi 0) (gs ⟨#[]⟩))⟩) (hG1 := congrArg (fun x => (Dat.good (x.1 : Deed) : Prop)) hM) (congrArg (fun x => ([(0, .var [.sl 1 p0b.length, .v (.int .i64 (x.2.i : Int)), .v (.int .i64 x.2.h)] 183)] : List (Nat × En))) hM) (congrArg (fun x => ([.ag [.v (.int .i64 x.1.Kind), .v (.int .i64 x.1.N), .v (.int .i64 x.1.M), .v (.int .i64 x.1.Call.Kind), .v (.string x.1.Call.Name), .v (.string x.1.Call.To), .v (.int .i64 x.1.Call.A), .v (.int .i64 x.1.Call.B), .v (.string x.1.Call.Text)]] : List V)) hM)
      ·
        have hM := hM.trans (bf h11)
        refine ad 5 ?_
        refine cd (fun h12 => ?_) (fun h12 => ?_)
        ·
          have hM := hM.trans (bt h12)
          refine ad 6 ?_
          exact rzM (rs := [.cell 2 56]) [0, 1] [0, 1, 3] (hg1 := ⟨(gi 5), (I64_wrap _), (gi 0), (good_Call (gi 0) (gs ⟨#[]⟩) (gs ⟨#[]⟩) (gi 0) (gi 0) (gs ⟨#[]⟩))⟩) (hG1 := congrArg (fun x => (Dat.good (x.1 : Deed) : Prop)) hM) (congrArg (fun x => ([(0, .var [.sl 1 p0b.length, .v (.int .i64 (x.2.i : Int)), .v (.int .i64 x.2.h)] 183)] : List (Nat × En))) hM) (congrArg (fun x => ([.ag [.v (.int .i64 x.1.Kind), .v (.int .i64 x.1.N), .v (.int .i64 x.1.M), .v (.int .i64 x.1.Call.Kind), .v (.string x.1.Call.Name), .v (.string x.1.Call.To), .v (.int .i64 x.1.Call.A), .v (.int .i64 x.1.Call.B), .v (.string x.1.Call.Text)]] : List V)) hM)
        ·
          have hM := hM.trans (bf h12)
          refine ad 6 ?_
          refine Run.mid ⟨67, 3, [(0, .pt 0 0), (2, .pt 2 0), (3, .v (.int .i64 (IntKind.i64.wrap (1 + ((spec_l01Below p0b p0 4).1))))), (8, .v (.int .i64 ((spec_l01Below p0b ((spec_l01Below p0b p0 4).2) 24).1))), (29, .v (.bool ((decide (((spec_l01Below p0b ((spec_l01Below p0b p0 4).2) 24).1) = 6)) || ((decide (((spec_l01Below p0b ((spec_l01Below p0b p0 4).2) 24).1) = 7)) || (decide (((spec_l01Below p0b ((spec_l01Below p0b p0 4).2) 24).1) = 8))))))], [(0, .var [.sl 1 p0b.length, .v (.int .i64 (((spec_l01Below p0b ((spec_l01Below p0b p0 4).2) 24).2).i : Int)), .v (.int .i64 (((spec_l01Below p0b ((spec_l01Below p0b p0 4).2) 24).2).h))] 183), (0, .pin (p 0)), (1, .ros UInt8 instDatUInt8 p0b), (1, .pin (p 1)), (2, .var [.v (.int .i64 0), .v (.int .i64 0), .v (.int .i64 0), .v (.int .i64 0), .v (.string ⟨#[]⟩), .v (.string ⟨#[]⟩), .v (.int .i64 0), .v (.int .i64 0), .v (.string ⟨#[]⟩)] 56)]⟩ ?_ ?_
          · refine cd (fun h13 => ?_) (fun h13 => ?_)
            ·
              refine ad 1 ?_
              exact Run.at [0, 1, 2] [0, 1, 2, 3, 4] (by first | exact su | (rw [h13]; exact su)) (by decide)
            ·
              refine ad 5 ?_
              refine Run.mid ⟨67, 3, [(0, .pt 0 0), (2, .pt 2 0), (3, .v (.int .i64 (IntKind.i64.wrap (1 + ((spec_l01Below p0b p0 4).1))))), (8, .v (.int .i64 ((spec_l01Below p0b ((spec_l01Below p0b p0 4).2) 24).1))), (29, .v (.bool ((decide (((spec_l01Below p0b ((spec_l01Below p0b p0 4).2) 24).1) = 7)) || (decide (((spec_l01Below p0b ((spec_l01Below p0b p0 4).2) 24).1) = 8)))))], [(0, .var [.sl 1 p0b.length, .v (.int .i64 (((spec_l01Below p0b ((spec_l01Below p0b p0 4).2) 24).2).i : Int)), .v (.int .i64 (((spec_l01Below p0b ((spec_l01Below p0b p0 4).2) 24).2).h))] 183), (0, .pin (p 0)), (1, .ros UInt8 instDatUInt8 p0b), (1, .pin (p 1)), (2, .var [.v (.int .i64 0), .v (.int .i64 0), .v (.int .i64 0), .v (.int .i64 0), .v (.string ⟨#[]⟩), .v (.string ⟨#[]⟩), .v (.int .i64 0), .v (.int .i64 0), .v (.string ⟨#[]⟩)] 56)]⟩ ?_ ?_
              · refine cd (fun h14 => ?_) (fun h14 => ?_)
                ·
                  refine ad 1 ?_
                  exact Run.at [0, 1, 2] [0, 1, 2, 3, 4] (by first | exact su | (rw [h14]; exact su)) (by decide)
                ·
                  refine ad 4 ?_
                  exact Run.at [0, 1, 2] [0, 1, 2, 3, 4] (by first | exact su | (rw [h14]; exact su)) (by decide)
              exact Run.at [0, 1, 2] [0, 1, 2, 3, 4] (by first | exact su | (rw [h13]; exact su)) (by decide)
          refine cd (fun h15 => ?_) (fun h15 => ?_)
          ·
            have hM := hM.trans (bt h15)
            refine ad 6 ?_
            exact rzM (rs := [.cell 2 56]) [0, 1] [0, 1, 3] (hg1 := ⟨(gi 6), (I64_wrap _), (gi 0), (good_Call (gi 0) (gs ⟨#[]⟩) (gs ⟨#[]⟩) (gi 0) (gi 0) (gs ⟨#[]⟩))⟩) (hG1 := congrArg (fun x => (Dat.good (x.1 : Deed) : Prop)) hM) (congrArg (fun x => ([(0, .var [.sl 1 p0b.length, .v (.int .i64 (x.2.i : Int)), .v (.int .i64 x.2.h)] 183)] : List (Nat × En))) hM) (congrArg (fun x => ([.ag [.v (.int .i64 x.1.Kind), .v (.int .i64 x.1.N), .v (.int .i64 x.1.M), .v (.int .i64 x.1.Call.Kind), .v (.string x.1.Call.Name), .v (.string x.1.Call.To), .v (.int .i64 x.1.Call.A), .v (.int .i64 x.1.Call.B), .v (.string x.1.Call.Text)]] : List V)) hM)
          ·
            have hM := hM.trans (bf h15)
            refine ad 6 ?_
            refine Run.mid ⟨67, 3, [(0, .pt 0 0), (2, .pt 2 0), (3, .v (.int .i64 (IntKind.i64.wrap (1 + ((spec_l01Below p0b p0 4).1))))), (8, .v (.int .i64 ((spec_l01Below p0b ((spec_l01Below p0b p0 4).2) 24).1))), (35, .v (.bool ((decide (((spec_l01Below p0b ((spec_l01Below p0b p0 4).2) 24).1) = 9)) || (decide (((spec_l01Below p0b ((spec_l01Below p0b p0 4).2) 24).1) = 10)))))], [(0, .var [.sl 1 p0b.length, .v (.int .i64 (((spec_l01Below p0b ((spec_l01Below p0b p0 4).2) 24).2).i : Int)), .v (.int .i64 (((spec_l01Below p0b ((spec_l01Below p0b p0 4).2) 24).2).h))] 183), (0, .pin (p 0)), (1, .ros UInt8 instDatUInt8 p0b), (1, .pin (p 1)), (2, .var [.v (.int .i64 0), .v (.int .i64 0), .v (.int .i64 0), .v (.int .i64 0), .v (.string ⟨#[]⟩), .v (.string ⟨#[]⟩), .v (.int .i64 0), .v (.int .i64 0), .v (.string ⟨#[]⟩)] 56)]⟩ ?_ ?_
            · refine cd (fun h16 => ?_) (fun h16 => ?_)
              ·
                refine ad 1 ?_
                exact Run.at [0, 1, 2] [0, 1, 2, 3, 4] (by first | exact su | (rw [h16]; exact su)) (by decide)
              ·
                refine ad 4 ?_
                exact Run.at [0, 1, 2] [0, 1, 2, 3, 4] (by first | exact su | (rw [h16]; exact su)) (by decide)
            refine cd (fun h17 => ?_) (fun h17 => ?_)
            ·
              have hM := hM.trans (bt h17)
              refine ad 3 ?_
              have hs18 := below_lti p0b ((spec_l01Below p0b ((spec_l01Below p0b p0 4).2) 24).2) (n := 2) (by decide) (by decide)
              refine og (cm [0, 1] [0, 1] [0] [2] [1, 2, 3, 4] (c_spec_l01Below p0b ((spec_l01Below p0b ((spec_l01Below p0b p0 4).2) 24).2) 2) fok101) fun hg19 => ?_
              refine ad 2 ?_
              refine og (cm [0, 1] [0, 1] [0] [2] [1, 2, 3, 4] (c_spec_l13Call p0b ((spec_l01Below p0b ((spec_l01Below p0b ((spec_l01Below p0b p0 4).2) 24).2) 2).2)) fok95) fun hg20 => ?_
              refine ad 3 ?_
              exact rzM (rs := [.cell 2 56]) [0, 1] [0, 1, 3] (hg1 := ⟨(gi 7), (I64_wrap _), (gi 0), hg20⟩) (hG1 := congrArg (fun x => (Dat.good (x.1 : Deed) : Prop)) hM) (congrArg (fun x => ([(0, .var [.sl 1 p0b.length, .v (.int .i64 (x.2.i : Int)), .v (.int .i64 x.2.h)] 183)] : List (Nat × En))) hM) (congrArg (fun x => ([.ag [.v (.int .i64 x.1.Kind), .v (.int .i64 x.1.N), .v (.int .i64 x.1.M), .v (.int .i64 x.1.Call.Kind), .v (.string x.1.Call.Name), .v (.string x.1.Call.To), .v (.int .i64 x.1.Call.A), .v (.int .i64 x.1.Call.B), .v (.string x.1.Call.Text)]] : List V)) hM)
            ·
              have hM := hM.trans (bf h17)
              refine ad 5 ?_
              refine cd (fun h21 => ?_) (fun h21 => ?_)
              ·
                have hM := hM.trans (bt h21)
                refine ad 5 ?_
                exact rzM (rs := [.cell 2 56]) [0, 1] [0, 1, 3] (hg1 := ⟨(gi 8), (gi 0), (gi 0), (good_Call (gi 0) (gs ⟨#[]⟩) (gs ⟨#[]⟩) (gi 0) (gi 0) (gs ⟨#[]⟩))⟩) (hG1 := congrArg (fun x => (Dat.good (x.1 : Deed) : Prop)) hM) (congrArg (fun x => ([(0, .var [.sl 1 p0b.length, .v (.int .i64 (x.2.i : Int)), .v (.int .i64 x.2.h)] 183)] : List (Nat × En))) hM) (congrArg (fun x => ([.ag [.v (.int .i64 x.1.Kind), .v (.int .i64 x.1.N), .v (.int .i64 x.1.M), .v (.int .i64 x.1.Call.Kind), .v (.string x.1.Call.Name), .v (.string x.1.Call.To), .v (.int .i64 x.1.Call.A), .v (.int .i64 x.1.Call.B), .v (.string x.1.Call.Text)]] : List V)) hM)
              ·
                have hM := hM.trans (bf h21)
                refine ad 5 ?_
                refine cd (fun h22 => ?_) (fun h22 => ?_)
                ·
                  have hM := hM.trans (bt h22)
                  refine ad 5 ?_
                  exact rzM (rs := [.cell 2 56]) [0, 1] [0, 1, 3] (hg1 := ⟨(gi 9), (gi 0), (gi 0), (good_Call (gi 0) (gs ⟨#[]⟩) (gs ⟨#[]⟩) (gi 0) (gi 0) (gs ⟨#[]⟩))⟩) (hG1 := congrArg (fun x => (Dat.good (x.1 : Deed) : Prop)) hM) (congrArg (fun x => ([(0, .var [.sl 1 p0b.length, .v (.int .i64 (x.2.i : Int)), .v (.int .i64 x.2.h)] 183)] : List (Nat × En))) hM) (congrArg (fun x => ([.ag [.v (.int .i64 x.1.Kind), .v (.int .i64 x.1.N), .v (.int .i64 x.1.M), .v (.int .i64 x.1.Call.Kind), .v (.string x.1.Call.Name), .v (.string x.1.Call.To), .v (.int .i64 x.1.Call.A), .v (.int .i64 x.1.Call.B), .v (.string x.1.Call.Text)]] : List V)) hM)
                ·
                  have hM := hM.trans (bf h22)
                  refine ad 5 ?_
                  refine cd (fun h23 => ?_) (fun h23 => ?_)
                  ·
                    have hM := hM.trans (bt h23)
                    refine ad 5 ?_
                    exact rzM (rs := [.cell 2 56]) [0, 1] [0, 1, 3] (hg1 := ⟨(gi 10), (gi 0), (gi 0), (good_Call (gi 0) (gs ⟨#[]⟩) (gs ⟨#[]⟩) (gi 0) (gi 0) (gs ⟨#[]⟩))⟩) (hG1 := congrArg (fun x => (Dat.good (x.1 : Deed) : Prop)) hM) (congrArg (fun x => ([(0, .var [.sl 1 p0b.length, .v (.int .i64 (x.2.i : Int)), .v (.int .i64 x.2.h)] 183)] : List (Nat × En))) hM) (congrArg (fun x => ([.ag [.v (.int .i64 x.1.Kind), .v (.int .i64 x.1.N), .v (.int .i64 x.1.M), .v (.int .i64 x.1.Call.Kind), .v (.string x.1.Call.Name), .v (.string x.1.Call.To), .v (.int .i64 x.1.Call.A), .v (.int .i64 x.1.Call.B), .v (.string x.1.Call.Text)]] : List V)) hM)
                  ·
                    have hM := hM.trans (bf h23)
                    refine ad 5 ?_
                    refine cd (fun h24 => ?_) (fun h24 => ?_)
                    ·
                      have hM := hM.trans (bt h24)
                      refine ad 4 ?_
                      refine li 3 (d := instDatInt) ([0, 20, 100, 100000] : List Int) ?_
                      refine og (cm [0, 1, 3] [0, 1] [1] [3, 0] [0, 2, 3, 4, 5] (c_spec_l01PickInt p0b ((spec_l01Below p0b ((spec_l01Below p0b p0 4).2) 24).2) ([0, 20, 100, 100000] : List Int) (by decide) (by decide)) fok153) fun hg25 => ?_
                      refine ad 3 ?_
                      exact rzM (rs := [.cell 2 56]) [0, 1] [0, 2, 4] (hg1 := ⟨(gi 11), hg25, (gi 0), (good_Call (gi 0) (gs ⟨#[]⟩) (gs ⟨#[]⟩) (gi 0) (gi 0) (gs ⟨#[]⟩))⟩) (hG1 := congrArg (fun x => (Dat.good (x.1 : Deed) : Prop)) hM) (congrArg (fun x => ([(0, .var [.sl 1 p0b.length, .v (.int .i64 (x.2.i : Int)), .v (.int .i64 x.2.h)] 183)] : List (Nat × En))) hM) (congrArg (fun x => ([.ag [.v (.int .i64 x.1.Kind), .v (.int .i64 x.1.N), .v (.int .i64 x.1.M), .v (.int .i64 x.1.Call.Kind), .v (.string x.1.Call.Name), .v (.string x.1.Call.To), .v (.int .i64 x.1.Call.A), .v (.int .i64 x.1.Call.B), .v (.string x.1.Call.Text)]] : List V)) hM)
                    ·
                      have hM := hM.trans (bf h24)
                      refine ad 5 ?_
                      refine cd (fun h26 => ?_) (fun h26 => ?_)
                      ·
                        have hM := hM.trans (bt h26)
                        refine ad 6 ?_
                        exact rzM (rs := [.cell 2 56]) [0, 1] [0, 1, 3] (hg1 := ⟨(gi 12), (I64_wrap _), (gi 0), (good_Call (gi 0) (gs ⟨#[]⟩) (gs ⟨#[]⟩) (gi 0) (gi 0) (gs ⟨#[]⟩))⟩) (hG1 := congrArg (fun x => (Dat.good (x.1 : Deed) : Prop)) hM) (congrArg (fun x => ([(0, .var [.sl 1 p0b.length, .v (.int .i64 (x.2.i : Int)), .v (.int .i64 x.2.h)] 183)] : List (Nat × En))) hM) (congrArg (fun x => ([.ag [.v (.int .i64 x.1.Kind), .v (.int .i64 x.1.N), .v (.int .i64 x.1.M), .v (.int .i64 x.1.Call.Kind), .v (.string x.1.Call.Name), .v (.string x.1.Call.To), .v (.int .i64 x.1.Call.A), .v (.int .i64 x.1.Call.B), .v (.string x.1.Call.Text)]] : List V)) hM)
                      ·
                        have hM := hM.trans (bf h26)
                        refine ad 6 ?_
                        refine og (cm [0, 1] [0, 1] [0] [2] [1, 2, 3, 4] (c_spec_l13Call p0b ((spec_l01Below p0b ((spec_l01Below p0b p0 4).2) 24).2)) fok95) fun hg27 => ?_
                        refine ad 3 ?_
                        exact rzM (rs := [.cell 2 56]) [0, 1] [0, 1, 3] (hg1 := ⟨(gi 2), (I64_wrap _), (gi 0), hg27⟩) (hG1 := congrArg (fun x => (Dat.good (x.1 : Deed) : Prop)) hM) (congrArg (fun x => ([(0, .var [.sl 1 p0b.length, .v (.int .i64 (x.2.i : Int)), .v (.int .i64 x.2.h)] 183)] : List (Nat × En))) hM) (congrArg (fun x => ([.ag [.v (.int .i64 x.1.Kind), .v (.int .i64 x.1.N), .v (.int .i64 x.1.M), .v (.int .i64 x.1.Call.Kind), .v (.string x.1.Call.Name), .v (.string x.1.Call.To), .v (.int .i64 x.1.Call.A), .v (.int .i64 x.1.Call.B), .v (.string x.1.Call.Text)]] : List V)) hM)

/- F151 loop.example/g00974/spec.l31AnyAct -/
def spec_l31AnyAct (p0b : List (UInt8)) (p0 : Cur) : Deed × Cur := ((Deed.mk (bif (decide (((spec_l01Below p0b ((spec_l31Act p0b p0).2) 10).1) = 0)) then (IntKind.i64.wrap (((spec_l01Below p0b ((spec_l01Below p0b ((spec_l31Act p0b p0).2) 10).2) 15).1) - 1)) else ((spec_l31Act p0b p0).1.Kind)) (bif (decide (((spec_l01Below p0b ((spec_l31Act p0b p0).2) 10).1) = 0)) then ((spec_l31Act p0b p0).1.N) else (bif (decide (((spec_l01Below p0b ((spec_l31Act p0b p0).2) 10).1) = 1)) then ((spec_l01PickInt p0b ((spec_l01Below p0b ((spec_l31Act p0b p0).2) 10).2) ([(-1), 0, 9, 9223372036854775807, (-9223372036854775808)] : List Int)).1) else ((spec_l31Act p0b p0).1.N))) ((spec_l31Act p0b p0).1.M) (Call.mk (bif (decide (((spec_l01Below p0b ((spec_l31Act p0b p0).2) 10).1) = 0)) then ((spec_l31Act p0b p0).1.Call.Kind) else (bif (decide (((spec_l01Below p0b ((spec_l31Act p0b p0).2) 10).1) = 1)) then ((spec_l31Act p0b p0).1.Call.Kind) else (bif (decide (((spec_l01Below p0b ((spec_l31Act p0b p0).2) 10).1) = 2)) then ((spec_l13Any p0b ((spec_l01Below p0b ((spec_l31Act p0b p0).2) 10).2)).1.Kind) else ((spec_l31Act p0b p0).1.Call.Kind)))) (bif (decide (((spec_l01Below p0b ((spec_l31Act p0b p0).2) 10).1) = 0)) then ((spec_l31Act p0b p0).1.Call.Name) else (bif (decide (((spec_l01Below p0b ((spec_l31Act p0b p0).2) 10).1) = 1)) then ((spec_l31Act p0b p0).1.Call.Name) else (bif (decide (((spec_l01Below p0b ((spec_l31Act p0b p0).2) 10).1) = 2)) then ((spec_l13Any p0b ((spec_l01Below p0b ((spec_l31Act p0b p0).2) 10).2)).1.Name) else ((spec_l31Act p0b p0).1.Call.Name)))) (bif (decide (((spec_l01Below p0b ((spec_l31Act p0b p0).2) 10).1) = 0)) then ((spec_l31Act p0b p0).1.Call.To) else (bif (decide (((spec_l01Below p0b ((spec_l31Act p0b p0).2) 10).1) = 1)) then ((spec_l31Act p0b p0).1.Call.To) else (bif (decide (((spec_l01Below p0b ((spec_l31Act p0b p0).2) 10).1) = 2)) then ((spec_l13Any p0b ((spec_l01Below p0b ((spec_l31Act p0b p0).2) 10).2)).1.To) else ((spec_l31Act p0b p0).1.Call.To)))) (bif (decide (((spec_l01Below p0b ((spec_l31Act p0b p0).2) 10).1) = 0)) then ((spec_l31Act p0b p0).1.Call.A) else (bif (decide (((spec_l01Below p0b ((spec_l31Act p0b p0).2) 10).1) = 1)) then ((spec_l31Act p0b p0).1.Call.A) else (bif (decide (((spec_l01Below p0b ((spec_l31Act p0b p0).2) 10).1) = 2)) then ((spec_l13Any p0b ((spec_l01Below p0b ((spec_l31Act p0b p0).2) 10).2)).1.A) else ((spec_l31Act p0b p0).1.Call.A)))) (bif (decide (((spec_l01Below p0b ((spec_l31Act p0b p0).2) 10).1) = 0)) then ((spec_l31Act p0b p0).1.Call.B) else (bif (decide (((spec_l01Below p0b ((spec_l31Act p0b p0).2) 10).1) = 1)) then ((spec_l31Act p0b p0).1.Call.B) else (bif (decide (((spec_l01Below p0b ((spec_l31Act p0b p0).2) 10).1) = 2)) then ((spec_l13Any p0b ((spec_l01Below p0b ((spec_l31Act p0b p0).2) 10).2)).1.B) else ((spec_l31Act p0b p0).1.Call.B)))) (bif (decide (((spec_l01Below p0b ((spec_l31Act p0b p0).2) 10).1) = 0)) then ((spec_l31Act p0b p0).1.Call.Text) else (bif (decide (((spec_l01Below p0b ((spec_l31Act p0b p0).2) 10).1) = 1)) then ((spec_l31Act p0b p0).1.Call.Text) else (bif (decide (((spec_l01Below p0b ((spec_l31Act p0b p0).2) 10).1) = 2)) then ((spec_l13Any p0b ((spec_l01Below p0b ((spec_l31Act p0b p0).2) 10).2)).1.Text) else ((spec_l31Act p0b p0).1.Call.Text)))))), (Cur.mk (bif (decide (((spec_l01Below p0b ((spec_l31Act p0b p0).2) 10).1) = 0)) then (((spec_l01Below p0b ((spec_l01Below p0b ((spec_l31Act p0b p0).2) 10).2) 15).2).i) else (bif (decide (((spec_l01Below p0b ((spec_l31Act p0b p0).2) 10).1) = 1)) then (((spec_l01PickInt p0b ((spec_l01Below p0b ((spec_l31Act p0b p0).2) 10).2) ([(-1), 0, 9, 9223372036854775807, (-9223372036854775808)] : List Int)).2).i) else (bif (decide (((spec_l01Below p0b ((spec_l31Act p0b p0).2) 10).1) = 2)) then (((spec_l13Any p0b ((spec_l01Below p0b ((spec_l31Act p0b p0).2) 10).2)).2).i) else (((spec_l01Below p0b ((spec_l31Act p0b p0).2) 10).2).i)))) (bif (decide (((spec_l01Below p0b ((spec_l31Act p0b p0).2) 10).1) = 0)) then (((spec_l01Below p0b ((spec_l01Below p0b ((spec_l31Act p0b p0).2) 10).2) 15).2).h) else (bif (decide (((spec_l01Below p0b ((spec_l31Act p0b p0).2) 10).1) = 1)) then (((spec_l01PickInt p0b ((spec_l01Below p0b ((spec_l31Act p0b p0).2) 10).2) ([(-1), 0, 9, 9223372036854775807, (-9223372036854775808)] : List Int)).2).h) else (bif (decide (((spec_l01Below p0b ((spec_l31Act p0b p0).2) 10).1) = 2)) then (((spec_l13Any p0b ((spec_l01Below p0b ((spec_l31Act p0b p0).2) 10).2)).2).h) else (((spec_l01Below p0b ((spec_l31Act p0b p0).2) 10).2).h))))))
theorem c_spec_l31AnyAct (p0b : List (UInt8)) (p0 : Cur) : CTMs 151 2 2 [(0, .var [.sl 1 p0b.length, .v (.int .i64 (p0.i : Int)), .v (.int .i64 p0.h)] 183)] [(1, .ros UInt8 instDatUInt8 p0b)] [.pt 0 0] [(0, .var [.sl 1 p0b.length, .v (.int .i64 (((spec_l31AnyAct p0b p0).2).i : Int)), .v (.int .i64 (((spec_l31AnyAct p0b p0).2).h))] 183)] 0 [.ag [.v (.int .i64 ((spec_l31AnyAct p0b p0).1.Kind)), .v (.int .i64 ((spec_l31AnyAct p0b p0).1.N)), .v (.int .i64 ((spec_l31AnyAct p0b p0).1.M)), .v (.int .i64 ((spec_l31AnyAct p0b p0).1.Call.Kind)), .v (.string ((spec_l31AnyAct p0b p0).1.Call.Name)), .v (.string ((spec_l31AnyAct p0b p0).1.Call.To)), .v (.int .i64 ((spec_l31AnyAct p0b p0).1.Call.A)), .v (.int .i64 ((spec_l31AnyAct p0b p0).1.Call.B)), .v (.string ((spec_l31AnyAct p0b p0).1.Call.Text))]] (Dat.good ((spec_l31AnyAct p0b p0).1 : Deed)) := by
  refine enM Tryz.func151 Tryz.ntmps151 fun S w p hG hb hg => ?_
  refine Run.cg (σ' := ⟨26, 2, [(0, .pt 0 0)], [(0, .var [.sl 1 p0b.length, .v (.int .i64 (p0.i : Int)), .v (.int .i64 p0.h)] 183), (1, .ros UInt8 instDatUInt8 p0b), (0, .pin (p 0)), (1, .pin (p 1))]⟩) rfl ?_
  refine gd 1 fun hg_p0b => ?_
  have hl_p0b : p0b.length ≤ 9223372036854775807 := hg_p0b.1
  have hM := spec_l31AnyAct.eq_1 p0b p0
  refine ad 7 ?_
  refine og (cm [0, 1] [0, 1] [1] [2] [0, 2, 3, 4] (c_spec_l31Act p0b p0) fok192) fun hg1 => ?_
  refine ad 7 ?_
  have hs2 := below_lti p0b ((spec_l31Act p0b p0).2) (n := 10) (by decide) (by decide)
  refine og (cm [0, 1] [0, 1] [1] [3] [0, 2, 3, 4, 5] (c_spec_l01Below p0b ((spec_l31Act p0b p0).2) 10) fok101) fun hg3 => ?_
  refine ad 7 ?_
  refine Run.midP ⟨26, 4, [(0, .pt 0 0), (2, .pt 2 0), (3, .pt 3 0)], [(0, .var [.sl 1 p0b.length, .v (.int .i64 ((bif (decide (((spec_l01Below p0b ((spec_l31Act p0b p0).2) 10).1) = 0)) then (((spec_l01Below p0b ((spec_l01Below p0b ((spec_l31Act p0b p0).2) 10).2) 15).2).i) else (bif (decide (((spec_l01Below p0b ((spec_l31Act p0b p0).2) 10).1) = 1)) then (((spec_l01PickInt p0b ((spec_l01Below p0b ((spec_l31Act p0b p0).2) 10).2) ([(-1), 0, 9, 9223372036854775807, (-9223372036854775808)] : List Int)).2).i) else (bif (decide (((spec_l01Below p0b ((spec_l31Act p0b p0).2) 10).1) = 2)) then (((spec_l13Any p0b ((spec_l01Below p0b ((spec_l31Act p0b p0).2) 10).2)).2).i) else (((spec_l01Below p0b ((spec_l31Act p0b p0).2) 10).2).i))) : Nat) : Int)), .v (.int .i64 (bif (decide (((spec_l01Below p0b ((spec_l31Act p0b p0).2) 10).1) = 0)) then (((spec_l01Below p0b ((spec_l01Below p0b ((spec_l31Act p0b p0).2) 10).2) 15).2).h) else (bif (decide (((spec_l01Below p0b ((spec_l31Act p0b p0).2) 10).1) = 1)) then (((spec_l01PickInt p0b ((spec_l01Below p0b ((spec_l31Act p0b p0).2) 10).2) ([(-1), 0, 9, 9223372036854775807, (-9223372036854775808)] : List Int)).2).h) else (bif (decide (((spec_l01Below p0b ((spec_l31Act p0b p0).2) 10).1) = 2)) then (((spec_l13Any p0b ((spec_l01Below p0b ((spec_l31Act p0b p0).2) 10).2)).2).h) else (((spec_l01Below p0b ((spec_l31Act p0b p0).2) 10).2).h)))))] 183), (0, .pin (p 0)), (1, .ros UInt8 instDatUInt8 p0b), (1, .pin (p 1)), (2, .var [.v (.int .i64 0), .v (.int .i64 0), .v (.int .i64 0), .v (.int .i64 0), .v (.string ⟨#[]⟩), .v (.string ⟨#[]⟩), .v (.int .i64 0), .v (.int .i64 0), .v (.string ⟨#[]⟩)] 56), (3, .var [.v (.int .i64 (bif (decide (((spec_l01Below p0b ((spec_l31Act p0b p0).2) 10).1) = 0)) then (IntKind.i64.wrap (((spec_l01Below p0b ((spec_l01Below p0b ((spec_l31Act p0b p0).2) 10).2) 15).1) - 1)) else ((spec_l31Act p0b p0).1.Kind))), .v (.int .i64 (bif (decide (((spec_l01Below p0b ((spec_l31Act p0b p0).2) 10).1) = 0)) then ((spec_l31Act p0b p0).1.N) else (bif (decide (((spec_l01Below p0b ((spec_l31Act p0b p0).2) 10).1) = 1)) then ((spec_l01PickInt p0b ((spec_l01Below p0b ((spec_l31Act p0b p0).2) 10).2) ([(-1), 0, 9, 9223372036854775807, (-9223372036854775808)] : List Int)).1) else ((spec_l31Act p0b p0).1.N)))), .v (.int .i64 ((spec_l31Act p0b p0).1.M)), .v (.int .i64 (bif (decide (((spec_l01Below p0b ((spec_l31Act p0b p0).2) 10).1) = 0)) then ((spec_l31Act p0b p0).1.Call.Kind) else (bif (decide (((spec_l01Below p0b ((spec_l31Act p0b p0).2) 10).1) = 1)) then ((spec_l31Act p0b p0).1.Call.Kind) else (bif (decide (((spec_l01Below p0b ((spec_l31Act p0b p0).2) 10).1) = 2)) then ((spec_l13Any p0b ((spec_l01Below p0b ((spec_l31Act p0b p0).2) 10).2)).1.Kind) else ((spec_l31Act p0b p0).1.Call.Kind))))), .v (.string (bif (decide (((spec_l01Below p0b ((spec_l31Act p0b p0).2) 10).1) = 0)) then ((spec_l31Act p0b p0).1.Call.Name) else (bif (decide (((spec_l01Below p0b ((spec_l31Act p0b p0).2) 10).1) = 1)) then ((spec_l31Act p0b p0).1.Call.Name) else (bif (decide (((spec_l01Below p0b ((spec_l31Act p0b p0).2) 10).1) = 2)) then ((spec_l13Any p0b ((spec_l01Below p0b ((spec_l31Act p0b p0).2) 10).2)).1.Name) else ((spec_l31Act p0b p0).1.Call.Name))))), .v (.string (bif (decide (((spec_l01Below p0b ((spec_l31Act p0b p0).2) 10).1) = 0)) then ((spec_l31Act p0b p0).1.Call.To) else (bif (decide (((spec_l01Below p0b ((spec_l31Act p0b p0).2) 10).1) = 1)) then ((spec_l31Act p0b p0).1.Call.To) else (bif (decide (((spec_l01Below p0b ((spec_l31Act p0b p0).2) 10).1) = 2)) then ((spec_l13Any p0b ((spec_l01Below p0b ((spec_l31Act p0b p0).2) 10).2)).1.To) else ((spec_l31Act p0b p0).1.Call.To))))), .v (.int .i64 (bif (decide (((spec_l01Below p0b ((spec_l31Act p0b p0).2) 10).1) = 0)) then ((spec_l31Act p0b p0).1.Call.A) else (bif (decide (((spec_l01Below p0b ((spec_l31Act p0b p0).2) 10).1) = 1)) then ((spec_l31Act p0b p0).1.Call.A) else (bif (decide (((spec_l01Below p0b ((spec_l31Act p0b p0).2) 10).1) = 2)) then ((spec_l13Any p0b ((spec_l01Below p0b ((spec_l31Act p0b p0).2) 10).2)).1.A) else ((spec_l31Act p0b p0).1.Call.A))))), .v (.int .i64 (bif (decide (((spec_l01Below p0b ((spec_l31Act p0b p0).2) 10).1) = 0)) then ((spec_l31Act p0b p0).1.Call.B) else (bif (decide (((spec_l01Below p0b ((spec_l31Act p0b p0).2) 10).1) = 1)) then ((spec_l31Act p0b p0).1.Call.B) else (bif (decide (((spec_l01Below p0b ((spec_l31Act p0b p0).2) 10).1) = 2)) then ((spec_l13Any p0b ((spec_l01Below p0b ((spec_l31Act p0b p0).2) 10).2)).1.B) else ((spec_l31Act p0b p0).1.Call.B))))), .v (.string (bif (decide (((spec_l01Below p0b ((spec_l31Act p0b p0).2) 10).1) = 0)) then ((spec_l31Act p0b p0).1.Call.Text) else (bif (decide (((spec_l01Below p0b ((spec_l31Act p0b p0).2) 10).1) = 1)) then ((spec_l31Act p0b p0).1.Call.Text) else (bif (decide (((spec_l01Below p0b ((spec_l31Act p0b p0).2) 10).1) = 2)) then ((spec_l13Any p0b ((spec_l01Below p0b ((spec_l31Act p0b p0).2) 10).2)).1.Text) else ((spec_l31Act p0b p0).1.Call.Text)))))] 56)]⟩ (I64 (bif (decide (((spec_l01Below p0b ((spec_l31Act p0b p0).2) 10).1) = 0)) then ((spec_l31Act p0b p0).1.Call.Kind) else (bif (decide (((spec_l01Below p0b ((spec_l31Act p0b p0).2) 10).1) = 1)) then ((spec_l31Act p0b p0).1.Call.Kind) else (bif (decide (((spec_l01Below p0b ((spec_l31Act p0b p0).2) 10).1) = 2)) then ((spec_l13Any p0b ((spec_l01Below p0b ((spec_l31Act p0b p0).2) 10).2)).1.Kind) else ((spec_l31Act p0b p0).1.Call.Kind)))) ∧ (bif (decide (((spec_l01Below p0b ((spec_l31Act p0b p0).2) 10).1) = 0)) then ((spec_l31Act p0b p0).1.Call.Name) else (bif (decide (((spec_l01Below p0b ((spec_l31Act p0b p0).2) 10).1) = 1)) then ((spec_l31Act p0b p0).1.Call.Name) else (bif (decide (((spec_l01Below p0b ((spec_l31Act p0b p0).2) 10).1) = 2)) then ((spec_l13Any p0b ((spec_l01Below p0b ((spec_l31Act p0b p0).2) 10).2)).1.Name) else ((spec_l31Act p0b p0).1.Call.Name)))).size ≤ maxLen ∧ (bif (decide (((spec_l01Below p0b ((spec_l31Act p0b p0).2) 10).1) = 0)) then ((spec_l31Act p0b p0).1.Call.To) else (bif (decide (((spec_l01Below p0b ((spec_l31Act p0b p0).2) 10).1) = 1)) then ((spec_l31Act p0b p0).1.Call.To) else (bif (decide (((spec_l01Below p0b ((spec_l31Act p0b p0).2) 10).1) = 2)) then ((spec_l13Any p0b ((spec_l01Below p0b ((spec_l31Act p0b p0).2) 10).2)).1.To) else ((spec_l31Act p0b p0).1.Call.To)))).size ≤ maxLen ∧ I64 (bif (decide (((spec_l01Below p0b ((spec_l31Act p0b p0).2) 10).1) = 0)) then ((spec_l31Act p0b p0).1.Call.A) else (bif (decide (((spec_l01Below p0b ((spec_l31Act p0b p0).2) 10).1) = 1)) then ((spec_l31Act p0b p0).1.Call.A) else (bif (decide (((spec_l01Below p0b ((spec_l31Act p0b p0).2) 10).1) = 2)) then ((spec_l13Any p0b ((spec_l01Below p0b ((spec_l31Act p0b p0).2) 10).2)).1.A) else ((spec_l31Act p0b p0).1.Call.A)))) ∧ I64 (bif (decide (((spec_l01Below p0b ((spec_l31Act p0b p0).2) 10).1) = 0)) then ((spec_l31Act p0b p0).1.Call.B) else (bif (decide (((spec_l01Below p0b ((spec_l31Act p0b p0).2) 10).1) = 1)) then ((spec_l31Act p0b p0).1.Call.B) else (bif (decide (((spec_l01Below p0b ((spec_l31Act p0b p0).2) 10).1) = 2)) then ((spec_l13Any p0b ((spec_l01Below p0b ((spec_l31Act p0b p0).2) 10).2)).1.B) else ((spec_l31Act p0b p0).1.Call.B)))) ∧ (bif (decide (((spec_l01Below p0b ((spec_l31Act p0b p0).2) 10).1) = 0)) then ((spec_l31Act p0b p0).1.Call.Text) else (bif (decide (((spec_l01Below p0b ((spec_l31Act p0b p0).2) 10).1) = 1)) then ((spec_l31Act p0b p0).1.Call.Text) else (bif (decide (((spec_l01Below p0b ((spec_l31Act p0b p0).2) 10).1) = 2)) then ((spec_l13Any p0b ((spec_l01Below p0b ((spec_l31Act p0b p0).2) 10).2)).1.Text) else ((spec_l31Act p0b p0).1.Call.Text)))).size ≤ maxLen) ?_ ?_
  · refine cd (fun h4 => ?_) (fun h4 => ?_)
    ·
      refine ad 2 ?_
      have hs5 := below_lti p0b ((spec_l01Below p0b ((spec_l31Act p0b p0).2) 10).2) (n := 15) (by decide) (by decide)
      refine og (cm [0, 1] [0, 1] [0] [3] [1, 2, 3, 4, 5] (c_spec_l01Below p0b ((spec_l01Below p0b ((spec_l31Act p0b p0).2) 10).2) 15) fok101) fun hg6 => ?_
      refine ad 4 ?_
      exact Run.atP ⟨(bIt h4 hg1.2.2.2.1), (bSt h4 hg1.2.2.2.2.1), (bSt h4 hg1.2.2.2.2.2.1), (bIt h4 hg1.2.2.2.2.2.2.1), (bIt h4 hg1.2.2.2.2.2.2.2.1), (bSt h4 hg1.2.2.2.2.2.2.2.2)⟩ [0, 1, 2, 3] [0, 4, 3, 5, 2, 1] (by first | exact su | (rw [h4]; exact su)) (by decide)
    ·
      refine ad 5 ?_
      refine Run.midP ⟨26, 4, [(0, .pt 0 0), (2, .pt 2 0), (3, .pt 3 0)], [(0, .var [.sl 1 p0b.length, .v (.int .i64 ((bif (decide (((spec_l01Below p0b ((spec_l31Act p0b p0).2) 10).1) = 1)) then (((spec_l01PickInt p0b ((spec_l01Below p0b ((spec_l31Act p0b p0).2) 10).2) ([(-1), 0, 9, 9223372036854775807, (-9223372036854775808)] : List Int)).2).i) else (bif (decide (((spec_l01Below p0b ((spec_l31Act p0b p0).2) 10).1) = 2)) then (((spec_l13Any p0b ((spec_l01Below p0b ((spec_l31Act p0b p0).2) 10).2)).2).i) else (((spec_l01Below p0b ((spec_l31Act p0b p0).2) 10).2).i)) : Nat) : Int)), .v (.int .i64 (bif (decide (((spec_l01Below p0b ((spec_l31Act p0b p0).2) 10).1) = 1)) then (((spec_l01PickInt p0b ((spec_l01Below p0b ((spec_l31Act p0b p0).2) 10).2) ([(-1), 0, 9, 9223372036854775807, (-9223372036854775808)] : List Int)).2).h) else (bif (decide (((spec_l01Below p0b ((spec_l31Act p0b p0).2) 10).1) = 2)) then (((spec_l13Any p0b ((spec_l01Below p0b ((spec_l31Act p0b p0).2) 10).2)).2).h) else (((spec_l01Below p0b ((spec_l31Act p0b p0).2) 10).2).h))))] 183), (0, .pin (p 0)), (1, .ros UInt8 instDatUInt8 p0b), (1, .pin (p 1)), (2, .var [.v (.int .i64 0), .v (.int .i64 0), .v (.int .i64 0), .v (.int .i64 0), .v (.string ⟨#[]⟩), .v (.string ⟨#[]⟩), .v (.int .i64 0), .v (.int .i64 0), .v (.string ⟨#[]⟩)] 56), (3, .var [.v (.int .i64 ((spec_l31Act p0b p0).1.Kind)), .v (.int .i64 (bif (decide (((spec_l01Below p0b ((spec_l31Act p0b p0).2) 10).1) = 1)) then ((spec_l01PickInt p0b ((spec_l01Below p0b ((spec_l31Act p0b p0).2) 10).2) ([(-1), 0, 9, 9223372036854775807, (-9223372036854775808)] : List Int)).1) else ((spec_l31Act p0b p0).1.N))), .v (.int .i64 ((spec_l31Act p0b p0).1.M)), .v (.int .i64 (bif (decide (((spec_l01Below p0b ((spec_l31Act p0b p0).2) 10).1) = 1)) then ((spec_l31Act p0b p0).1.Call.Kind) else (bif (decide (((spec_l01Below p0b ((spec_l31Act p0b p0).2) 10).1) = 2)) then ((spec_l13Any p0b ((spec_l01Below p0b ((spec_l31Act p0b p0).2) 10).2)).1.Kind) else ((spec_l31Act p0b p0).1.Call.Kind)))), .v (.string (bif (decide (((spec_l01Below p0b ((spec_l31Act p0b p0).2) 10).1) = 1)) then ((spec_l31Act p0b p0).1.Call.Name) else (bif (decide (((spec_l01Below p0b ((spec_l31Act p0b p0).2) 10).1) = 2)) then ((spec_l13Any p0b ((spec_l01Below p0b ((spec_l31Act p0b p0).2) 10).2)).1.Name) else ((spec_l31Act p0b p0).1.Call.Name)))), .v (.string (bif (decide (((spec_l01Below p0b ((spec_l31Act p0b p0).2) 10).1) = 1)) then ((spec_l31Act p0b p0).1.Call.To) else (bif (decide (((spec_l01Below p0b ((spec_l31Act p0b p0).2) 10).1) = 2)) then ((spec_l13Any p0b ((spec_l01Below p0b ((spec_l31Act p0b p0).2) 10).2)).1.To) else ((spec_l31Act p0b p0).1.Call.To)))), .v (.int .i64 (bif (decide (((spec_l01Below p0b ((spec_l31Act p0b p0).2) 10).1) = 1)) then ((spec_l31Act p0b p0).1.Call.A) else (bif (decide (((spec_l01Below p0b ((spec_l31Act p0b p0).2) 10).1) = 2)) then ((spec_l13Any p0b ((spec_l01Below p0b ((spec_l31Act p0b p0).2) 10).2)).1.A) else ((spec_l31Act p0b p0).1.Call.A)))), .v (.int .i64 (bif (decide (((spec_l01Below p0b ((spec_l31Act p0b p0).2) 10).1) = 1)) then ((spec_l31Act p0b p0).1.Call.B) else (bif (decide (((spec_l01Below p0b ((spec_l31Act p0b p0).2) 10).1) = 2)) then ((spec_l13Any p0b ((spec_l01Below p0b ((spec_l31Act p0b p0).2) 10).2)).1.B) else ((spec_l31Act p0b p0).1.Call.B)))), .v (.string (bif (decide (((spec_l01Below p0b ((spec_l31Act p0b p0).2) 10).1) = 1)) then ((spec_l31Act p0b p0).1.Call.Text) else (bif (decide (((spec_l01Below p0b ((spec_l31Act p0b p0).2) 10).1) = 2)) then ((spec_l13Any p0b ((spec_l01Below p0b ((spec_l31Act p0b p0).2) 10).2)).1.Text) else ((spec_l31Act p0b p0).1.Call.Text))))] 56)]⟩ (I64 (bif (decide (((spec_l01Below p0b ((spec_l31Act p0b p0).2) 10).1) = 1)) then ((spec_l31Act p0b p0).1.Call.Kind) else (bif (decide (((spec_l01Below p0b ((spec_l31Act p0b p0).2) 10).1) = 2)) then ((spec_l13Any p0b ((spec_l01Below p0b ((spec_l31Act p0b p0).2) 10).2)).1.Kind) else ((spec_l31Act p0b p0).1.Call.Kind))) ∧ (bif (decide (((spec_l01Below p0b ((spec_l31Act p0b p0).2) 10).1) = 1)) then ((spec_l31Act p0b p0).1.Call.Name) else (bif (decide (((spec_l01Below p0b ((spec_l31Act p0b p0).2) 10).1) = 2)) then ((spec_l13Any p0b ((spec_l01Below p0b ((spec_l31Act p0b p0).2) 10).2)).1.Name) else ((spec_l31Act p0b p0).1.Call.Name))).size ≤ maxLen ∧ (bif (decide (((spec_l01Below p0b ((spec_l31Act p0b p0).2) 10).1) = 1)) then ((spec_l31Act p0b p0).1.Call.To) else (bif (decide (((spec_l01Below p0b ((spec_l31Act p0b p0).2) 10).1) = 2)) then ((spec_l13Any p0b ((spec_l01Below p0b ((spec_l31Act p0b p0).2) 10).2)).1.To) else ((spec_l31Act p0b p0).1.Call.To))).size ≤ maxLen ∧ I64 (bif (decide (((spec_l01Below p0b ((spec_l31Act p0b p0).2) 10).1) = 1)) then ((spec_l31Act p0b p0).1.Call.A) else (bif (decide (((spec_l01Below p0b ((spec_l31Act p0b p0).2) 10).1) = 2)) then ((spec_l13Any p0b ((spec_l01Below p0b ((spec_l31Act p0b p0).2) 10).2)).1.A) else ((spec_l31Act p0b p0).1.Call.A))) ∧ I64 (bif (decide (((spec_l01Below p0b ((spec_l31Act p0b p0).2) 10).1) = 1)) then ((spec_l31Act p0b p0).1.Call.B) else (bif (decide (((spec_l01Below p0b ((spec_l31Act p0b p0).2) 10).1) = 2)) then ((spec_l13Any p0b ((spec_l01Below p0b ((spec_l31Act p0b p0).2) 10).2)).1.B) else ((spec_l31Act p0b p0).1.Call.B))) ∧ (bif (decide (((spec_l01Below p0b ((spec_l31Act p0b p0).2) 10).1) = 1)) then ((spec_l31Act p0b p0).1.Call.Text) else (bif (decide (((spec_l01Below p0b ((spec_l31Act p0b p0).2) 10).1) = 2)) then ((spec_l13Any p0b ((spec_l01Below p0b ((spec_l31Act p0b p0).2) 10).2)).1.Text) else ((spec_l31Act p0b p0).1.Call.Text))).size ≤ maxLen) ?_ ?_
      · refine cd (fun h7 => ?_) (fun h7 => ?_)
        ·
          refine ad 3 ?_
          refine li 4 (d := instDatInt) ([(-1), 0, 9, 9223372036854775807, (-9223372036854775808)] : List Int) ?_
          refine og (cm [0, 1, 4] [0, 1] [1] [4, 0] [0, 2, 3, 4, 5, 6] (c_spec_l01PickInt p0b ((spec_l01Below p0b ((spec_l31Act p0b p0).2) 10).2) ([(-1), 0, 9, 9223372036854775807, (-9223372036854775808)] : List Int) (by decide) (by decide)) fok153) fun hg8 => ?_
          refine ad 3 ?_
          exact Run.atP ⟨(bIt h7 hg1.2.2.2.1), (bSt h7 hg1.2.2.2.2.1), (bSt h7 hg1.2.2.2.2.2.1), (bIt h7 hg1.2.2.2.2.2.2.1), (bIt h7 hg1.2.2.2.2.2.2.2.1), (bSt h7 hg1.2.2.2.2.2.2.2.2)⟩ [0, 1, 2, 3] [0, 5, 4, 6, 3, 2] (by first | exact su | (rw [h7]; exact su)) (by decide)
        ·
          refine ad 5 ?_
          refine Run.midP ⟨26, 4, [(0, .pt 0 0), (2, .pt 2 0), (3, .pt 3 0)], [(0, .var [.sl 1 p0b.length, .v (.int .i64 ((bif (decide (((spec_l01Below p0b ((spec_l31Act p0b p0).2) 10).1) = 2)) then (((spec_l13Any p0b ((spec_l01Below p0b ((spec_l31Act p0b p0).2) 10).2)).2).i) else (((spec_l01Below p0b ((spec_l31Act p0b p0).2) 10).2).i) : Nat) : Int)), .v (.int .i64 (bif (decide (((spec_l01Below p0b ((spec_l31Act p0b p0).2) 10).1) = 2)) then (((spec_l13Any p0b ((spec_l01Below p0b ((spec_l31Act p0b p0).2) 10).2)).2).h) else (((spec_l01Below p0b ((spec_l31Act p0b p0).2) 10).2).h)))] 183), (0, .pin (p 0)), (1, .ros UInt8 instDatUInt8 p0b), (1, .pin (p 1)), (2, .var [.v (.int .i64 0), .v (.int .i64 0), .v (.int .i64 0), .v (.int .i64 0), .v (.string ⟨#[]⟩), .v (.string ⟨#[]⟩), .v (.int .i64 0), .v (.int .i64 0), .v (.string ⟨#[]⟩)] 56), (3, .var [.v (.int .i64 ((spec_l31Act p0b p0).1.Kind)), .v (.int .i64 ((spec_l31Act p0b p0).1.N)), .v (.int .i64 ((spec_l31Act p0b p0).1.M)), .v (.int .i64 (bif (decide (((spec_l01Below p0b ((spec_l31Act p0b p0).2) 10).1) = 2)) then ((spec_l13Any p0b ((spec_l01Below p0b ((spec_l31Act p0b p0).2) 10).2)).1.Kind) else ((spec_l31Act p0b p0).1.Call.Kind))), .v (.string (bif (decide (((spec_l01Below p0b ((spec_l31Act p0b p0).2) 10).1) = 2)) then ((spec_l13Any p0b ((spec_l01Below p0b ((spec_l31Act p0b p0).2) 10).2)).1.Name) else ((spec_l31Act p0b p0).1.Call.Name))), .v (.string (bif (decide (((spec_l01Below p0b ((spec_l31Act p0b p0).2) 10).1) = 2)) then ((spec_l13Any p0b ((spec_l01Below p0b ((spec_l31Act p0b p0).2) 10).2)).1.To) else ((spec_l31Act p0b p0).1.Call.To))), .v (.int .i64 (bif (decide (((spec_l01Below p0b ((spec_l31Act p0b p0).2) 10).1) = 2)) then ((spec_l13Any p0b ((spec_l01Below p0b ((spec_l31Act p0b p0).2) 10).2)).1.A) else ((spec_l31Act p0b p0).1.Call.A))), .v (.int .i64 (bif (decide (((spec_l01Below p0b ((spec_l31Act p0b p0).2) 10).1) = 2)) then ((spec_l13Any p0b ((spec_l01Below p0b ((spec_l31Act p0b p0).2) 10).2)).1.B) else ((spec_l31Act p0b p0).1.Call.B))), .v (.string (bif (decide (((spec_l01Below p0b ((spec_l31Act p0b p0).2) 10).1) = 2)) then ((spec_l13Any p0b ((spec_l01Below p0b ((spec_l31Act p0b p0).2) 10).2)).1.Text) else ((spec_l31Act p0b p0).1.Call.Text)))] 56)]⟩ (I64 (bif (decide (((spec_l01Below p0b ((spec_l31Act p0b p0).2) 10).1) = 2)) then ((spec_l13Any p0b ((spec_l01Below p0b ((spec_l31Act p0b p0).2) 10).2)).1.Kind) else ((spec_l31Act p0b p0).1.Call.Kind)) ∧ (bif (decide (((spec_l01Below p0b ((spec_l31Act p0b p0).2) 10).1) = 2)) then ((spec_l13Any p0b ((spec_l01Below p0b ((spec_l31Act p0b p0).2) 10).2)).1.Name) else ((spec_l31Act p0b p0).1.Call.Name)).size ≤ maxLen ∧ (bif (decide (((spec_l01Below p0b ((spec_l31Act p0b p0).2) 10).1) = 2)) then ((spec_l13Any p0b ((spec_l01Below p0b ((spec_l31Act p0b p0).2) 10).2)).1.To) else ((spec_l31Act p0b p0).1.Call.To)).size ≤ maxLen ∧ I64 (bif (decide (((spec_l01Below p0b ((spec_l31Act p0b p0).2) 10).1) = 2)) then ((spec_l13Any p0b ((spec_l01Below p0b ((spec_l31Act p0b p0).2) 10).2)).1.A) else ((spec_l31Act p0b p0).1.Call.A)) ∧ I64 (bif (decide (((spec_l01Below p0b ((spec_l31Act p0b p0).2) 10).1) = 2)) then ((spec_l13Any p0b ((spec_l01Below p0b ((spec_l31Act p0b p0).2) 10).2)).1.B) else ((spec_l31Act p0b p0).1.Call.B)) ∧ (bif (decide (((spec_l01Below p0b ((spec_l31Act p0b p0).2) 10).1) = 2)) then ((spec_l13Any p0b ((spec_l01Below p0b ((spec_l31Act p0b p0).2) 10).2)).1.Text) else ((spec_l31Act p0b p0).1.Call.Text)).size ≤ maxLen) ?_ ?_
          · refine cd (fun h9 => ?_) (fun h9 => ?_)
            ·
              refine ad 2 ?_
              refine og (cm [0, 1] [0, 1] [0] [3] [1, 2, 3, 4, 5] (c_spec_l13Any p0b ((spec_l01Below p0b ((spec_l31Act p0b p0).2) 10).2)) fok86) fun hg10 => ?_
              refine ad 3 ?_
              exact Run.atP ⟨(bIt h9 hg10.1), (bSt h9 hg10.2.1), (bSt h9 hg10.2.2.1), (bIt h9 hg10.2.2.2.1), (bIt h9 hg10.2.2.2.2.1), (bSt h9 hg10.2.2.2.2.2)⟩ [0, 1, 2, 3] [0, 4, 3, 5, 2, 1] (by first | exact su | (rw [h9]; exact su)) (by decide)
            ·
              refine ad 1 ?_
              exact Run.atP ⟨(bIf h9 hg1.2.2.2.1), (bSf h9 hg1.2.2.2.2.1), (bSf h9 hg1.2.2.2.2.2.1), (bIf h9 hg1.2.2.2.2.2.2.1), (bIf h9 hg1.2.2.2.2.2.2.2.1), (bSf h9 hg1.2.2.2.2.2.2.2.2)⟩ [0, 1, 2, 3] [0, 4, 3, 5, 2, 1] (by first | exact su | (rw [h9]; exact su)) (by decide)
          rintro ⟨hg11, hg12, hg13, hg14, hg15, hg16⟩
          exact Run.atP ⟨(bIf h7 hg11), (bSf h7 hg12), (bSf h7 hg13), (bIf h7 hg14), (bIf h7 hg15), (bSf h7 hg16)⟩ [0, 1, 2, 3] [0, 1, 2, 3, 4, 5] (by first | exact su | (rw [h7]; exact su)) (by decide)
      rintro ⟨hg17, hg18, hg19, hg20, hg21, hg22⟩
      exact Run.atP ⟨(bIf h4 hg17), (bSf h4 hg18), (bSf h4 hg19), (bIf h4 hg20), (bIf h4 hg21), (bSf h4 hg22)⟩ [0, 1, 2, 3] [0, 1, 2, 3, 4, 5] (by first | exact su | (rw [h4]; exact su)) (by decide)
  rintro ⟨hg23, hg24, hg25, hg26, hg27, hg28⟩
  refine ad 6 ?_
  exact rzM (rs := [.cell 2 56]) [0, 1] [0, 1, 3] (hg1 := ⟨(bifI (I64_wrap _) hg1.1), (bifI hg1.2.1 (bifI (pickInt_I64 p0b ((spec_l01Below p0b ((spec_l31Act p0b p0).2) 10).2) ([(-1), 0, 9, 9223372036854775807, (-9223372036854775808)] : List Int) (by decide)) hg1.2.1)), hg1.2.2.1, (good_Call hg23 hg24 hg25 hg26 hg27 hg28)⟩) (hG1 := congrArg (fun x => (Dat.good (x.1 : Deed) : Prop)) hM) (congrArg (fun x => ([(0, .var [.sl 1 p0b.length, .v (.int .i64 (x.2.i : Int)), .v (.int .i64 x.2.h)] 183)] : List (Nat × En))) hM) (congrArg (fun x => ([.ag [.v (.int .i64 x.1.Kind), .v (.int .i64 x.1.N), .v (.int .i64 x.1.M), .v (.int .i64 x.1.Call.Kind), .v (.string x.1.Call.Name), .v (.string x.1.Call.To), .v (.int .i64 x.1.Call.A), .v (.int .i64 x.1.Call.B), .v (.string x.1.Call.Text)]] : List V)) hM)

/- F79 loop.example/g00974/spec.l38Act -/
def spec_l38Act (p0b : List (UInt8)) (p0 : Cur) : Deed × Cur := bif (spec_l01Once p0b ((spec_l31AnyAct p0b p0).2) 4).1 then ((spec_l31AnyAct p0b p0).1, ((spec_l01Once p0b ((spec_l31AnyAct p0b p0).2) 4).2)) else ((Deed.mk ((spec_l38Told ((spec_l31AnyAct p0b p0).1)).Kind) ((spec_l38Told ((spec_l31AnyAct p0b p0).1)).N) ((spec_l38Told ((spec_l31AnyAct p0b p0).1)).M) (spec_Told ((spec_l38Told ((spec_l31AnyAct p0b p0).1)).Call))), ((spec_l01Once p0b ((spec_l31AnyAct p0b p0).2) 4).2))
theorem c_spec_l38Act (p0b : List (UInt8)) (p0 : Cur) : CTMs 79 2 2 [(0, .var [.sl 1 p0b.length, .v (.int .i64 (p0.i : Int)), .v (.int .i64 p0.h)] 183)] [(1, .ros UInt8 instDatUInt8 p0b)] [.pt 0 0] [(0, .var [.sl 1 p0b.length, .v (.int .i64 (((spec_l38Act p0b p0).2).i : Int)), .v (.int .i64 (((spec_l38Act p0b p0).2).h))] 183)] 0 [.ag [.v (.int .i64 ((spec_l38Act p0b p0).1.Kind)), .v (.int .i64 ((spec_l38Act p0b p0).1.N)), .v (.int .i64 ((spec_l38Act p0b p0).1.M)), .v (.int .i64 ((spec_l38Act p0b p0).1.Call.Kind)), .v (.string ((spec_l38Act p0b p0).1.Call.Name)), .v (.string ((spec_l38Act p0b p0).1.Call.To)), .v (.int .i64 ((spec_l38Act p0b p0).1.Call.A)), .v (.int .i64 ((spec_l38Act p0b p0).1.Call.B)), .v (.string ((spec_l38Act p0b p0).1.Call.Text))]] (Dat.good ((spec_l38Act p0b p0).1 : Deed)) := by
  refine enM Tryz.func79 Tryz.ntmps79 fun S w p hG hb hg => ?_
  refine Run.cg (σ' := ⟨16, 2, [(0, .pt 0 0)], [(0, .var [.sl 1 p0b.length, .v (.int .i64 (p0.i : Int)), .v (.int .i64 p0.h)] 183), (1, .ros UInt8 instDatUInt8 p0b), (0, .pin (p 0)), (1, .pin (p 1))]⟩) rfl ?_
  refine gd 1 fun hg_p0b => ?_
  have hl_p0b : p0b.length ≤ 9223372036854775807 := hg_p0b.1
  have hM := spec_l38Act.eq_1 p0b p0
  refine ad 7 ?_
  refine og (cm [0, 1] [0, 1] [1] [2] [0, 2, 3, 4] (c_spec_l31AnyAct p0b p0) fok151) fun hg1 => ?_
  refine ad 7 ?_
  refine og (cm [0, 1] [0, 1] [1] [3] [0, 2, 3, 4, 5] (c_spec_l01Once p0b ((spec_l31AnyAct p0b p0).2) 4) fok92) fun _ => ?_
  refine ad 1 ?_
  refine cd (fun h2 => ?_) (fun h2 => ?_)
  ·
    have hM := hM.trans (bt h2)
    refine ad 5 ?_
    exact rzM (rs := [.cell 2 56]) [0, 1] [0, 4, 5] (hg1 := hg1) (hG1 := congrArg (fun x => (Dat.good (x.1 : Deed) : Prop)) hM) (congrArg (fun x => ([(0, .var [.sl 1 p0b.length, .v (.int .i64 (x.2.i : Int)), .v (.int .i64 x.2.h)] 183)] : List (Nat × En))) hM) (congrArg (fun x => ([.ag [.v (.int .i64 x.1.Kind), .v (.int .i64 x.1.N), .v (.int .i64 x.1.M), .v (.int .i64 x.1.Call.Kind), .v (.string x.1.Call.Name), .v (.string x.1.Call.To), .v (.int .i64 x.1.Call.A), .v (.int .i64 x.1.Call.B), .v (.string x.1.Call.Text)]] : List V)) hM)
  ·
    have hM := hM.trans (bf h2)
    refine ad 4 ?_
    refine og (clg (c_spec_l38Told ((spec_l31AnyAct p0b p0).1)) fok105) fun hgq => ?_
    obtain ⟨hg3, _⟩ := hgq
    refine ad 6 ?_
    have hg4 : Dat.good ((spec_l38Told ((spec_l31AnyAct p0b p0).1)).Call : Call) := hg3.2.2.2
    refine og (clg (c_spec_Told ((spec_l38Told ((spec_l31AnyAct p0b p0).1)).Call)) fok108) fun hgq => ?_
    obtain ⟨hg5, _⟩ := hgq
    refine ad 8 ?_
    exact rzM (rs := [.cell 2 56]) [0, 1] [0, 4, 5] (hg1 := ⟨hg3.1, hg3.2.1, hg3.2.2.1, hg5⟩) (hG1 := congrArg (fun x => (Dat.good (x.1 : Deed) : Prop)) hM) (congrArg (fun x => ([(0, .var [.sl 1 p0b.length, .v (.int .i64 (x.2.i : Int)), .v (.int .i64 x.2.h)] 183)] : List (Nat × En))) hM) (congrArg (fun x => ([.ag [.v (.int .i64 x.1.Kind), .v (.int .i64 x.1.N), .v (.int .i64 x.1.M), .v (.int .i64 x.1.Call.Kind), .v (.string x.1.Call.Name), .v (.string x.1.Call.To), .v (.int .i64 x.1.Call.A), .v (.int .i64 x.1.Call.B), .v (.string x.1.Call.Text)]] : List V)) hM)

/- F22 loop.example/g00974/spec.DrawActLine -/
def spec_DrawActLine (p0 : List (UInt8)) : Deed := (spec_l38Act p0 (spec_l01New p0)).1
theorem c_spec_DrawActLine (p0 : List (UInt8)) : CTs 22 [.o (.sl UInt8 instDatUInt8 p0)] [Re.st Deed _ inferInstance (spec_DrawActLine p0)] := by
  refine en Tryz.func22 Tryz.ntmps22 fun w hG hgd => ?_
  obtain ⟨hg_p0, _⟩ := hgd
  have hl_p0 : p0.length ≤ 9223372036854775807 := hg_p0.1
  have hM := spec_DrawActLine.eq_1 p0
  refine ad 7 ?_
  refine og (cm [0] [0] [] [1] [0, 1] (c_spec_l01New p0) fok80) fun _ => ?_
  refine og (cm [2, 0] [2, 0] [0] [2] [1, 2] (c_spec_l38Act p0 (spec_l01New p0)) fok79) fun hg1 => ?_
  refine ad 2 ?_
  exact rz (rs := [.cell 2 56]) (congrArg (fun x => [Re.st Deed _ inferInstance x]) hM)

/- F25 loop.example/g00974/spec.DrawCallLine -/
def spec_DrawCallLine (p0 : List (UInt8)) : Call := (spec_l13Any p0 (spec_l01New p0)).1
theorem c_spec_DrawCallLine (p0 : List (UInt8)) : CTs 25 [.o (.sl UInt8 instDatUInt8 p0)] [Re.st Call _ inferInstance (spec_DrawCallLine p0)] := by
  refine en Tryz.func25 Tryz.ntmps25 fun w hG hgd => ?_
  obtain ⟨hg_p0, _⟩ := hgd
  have hl_p0 : p0.length ≤ 9223372036854775807 := hg_p0.1
  have hM := spec_DrawCallLine.eq_1 p0
  refine ad 7 ?_
  refine og (cm [0] [0] [] [1] [0, 1] (c_spec_l01New p0) fok80) fun _ => ?_
  refine og (cm [2, 0] [2, 0] [0] [2] [1, 2] (c_spec_l13Any p0 (spec_l01New p0)) fok86) fun hg1 => ?_
  refine ad 2 ?_
  exact rz (rs := [.cell 2 54]) (congrArg (fun x => [Re.st Call _ inferInstance x]) hM)

/- F27 loop.example/g00974/spec.DrawReadCall -/
def spec_DrawReadCall (p0 : List (UInt8)) : (List ByteArray) := bif (spec_l01Once p0 (spec_l01New p0) 4).1 then ((spec_PartsOf ((spec_l01Pick p0 ((spec_l01Once p0 (spec_l01New p0) 4).2) ([⟨#[]⟩, ⟨#[109, 97, 107, 101]⟩, ⟨#[109, 97, 107, 101, 32, 120]⟩, ⟨#[109, 97, 107, 101, 32, 65]⟩, ⟨#[114, 101, 97, 100, 32, 120, 32, 49]⟩, ⟨#[114, 101, 97, 100, 32, 120, 32, 49, 32, 50]⟩, ⟨#[119, 114, 105, 116, 101, 32, 120, 32, 48, 32, 45]⟩, ⟨#[112, 117, 116, 32, 49, 32, 54]⟩, ⟨#[110, 97, 109, 101, 115, 32, 49]⟩, ⟨#[119, 97, 108, 107]⟩, ⟨#[111, 117, 116, 32, 54, 97]⟩, ⟨#[101, 110, 100, 32, 48, 49]⟩] : List ByteArray)).1)).1) else ((spec_PartsOf (spec_CallLine ((spec_l13Call p0 ((spec_l01Once p0 (spec_l01New p0) 4).2)).1))).1)
theorem c_spec_DrawReadCall (p0 : List (UInt8)) : CTs 27 [.o (.sl UInt8 instDatUInt8 p0)] [Re.sl ByteArray instDatByteArray (spec_DrawReadCall p0)] := by
  refine en Tryz.func27 Tryz.ntmps27 fun w hG hgd => ?_
  obtain ⟨hg_p0, _⟩ := hgd
  have hl_p0 : p0.length ≤ 9223372036854775807 := hg_p0.1
  have hM := spec_DrawReadCall.eq_1 p0
  refine ad 7 ?_
  refine og (cm [0] [0] [] [0] [0] (c_spec_l01New p0) fok80) fun _ => ?_
  refine ad 6 ?_
  refine og (cm [1, 0] [1, 0] [0] [1] [1] (c_spec_l01Once p0 (spec_l01New p0) 4) fok92) fun _ => ?_
  refine ad 1 ?_
  refine cd (fun h1 => ?_) (fun h1 => ?_)
  ·
    have hM := hM.trans (bt h1)
    refine ad 4 ?_
    refine li 2 (d := instDatByteArray) ([⟨#[]⟩, ⟨#[109, 97, 107, 101]⟩, ⟨#[109, 97, 107, 101, 32, 120]⟩, ⟨#[109, 97, 107, 101, 32, 65]⟩, ⟨#[114, 101, 97, 100, 32, 120, 32, 49]⟩, ⟨#[114, 101, 97, 100, 32, 120, 32, 49, 32, 50]⟩, ⟨#[119, 114, 105, 116, 101, 32, 120, 32, 48, 32, 45]⟩, ⟨#[112, 117, 116, 32, 49, 32, 54]⟩, ⟨#[110, 97, 109, 101, 115, 32, 49]⟩, ⟨#[119, 97, 108, 107]⟩, ⟨#[111, 117, 116, 32, 54, 97]⟩, ⟨#[101, 110, 100, 32, 48, 49]⟩] : List ByteArray) ?_
    have hs2 := pick_le (b := p0) (c := ((spec_l01Once p0 (spec_l01New p0) 4).2)) (l := ([⟨#[]⟩, ⟨#[109, 97, 107, 101]⟩, ⟨#[109, 97, 107, 101, 32, 120]⟩, ⟨#[109, 97, 107, 101, 32, 65]⟩, ⟨#[114, 101, 97, 100, 32, 120, 32, 49]⟩, ⟨#[114, 101, 97, 100, 32, 120, 32, 49, 32, 50]⟩, ⟨#[119, 114, 105, 116, 101, 32, 120, 32, 48, 32, 45]⟩, ⟨#[112, 117, 116, 32, 49, 32, 54]⟩, ⟨#[110, 97, 109, 101, 115, 32, 49]⟩, ⟨#[119, 97, 108, 107]⟩, ⟨#[111, 117, 116, 32, 54, 97]⟩, ⟨#[101, 110, 100, 32, 48, 49]⟩] : List ByteArray)) (n := 200) (by decide)
    refine og (cm [1, 0, 2] [1, 0] [1] [2, 0] [0, 2] (c_spec_l01Pick p0 ((spec_l01Once p0 (spec_l01New p0) 4).2) ([⟨#[]⟩, ⟨#[109, 97, 107, 101]⟩, ⟨#[109, 97, 107, 101, 32, 120]⟩, ⟨#[109, 97, 107, 101, 32, 65]⟩, ⟨#[114, 101, 97, 100, 32, 120, 32, 49]⟩, ⟨#[114, 101, 97, 100, 32, 120, 32, 49, 32, 50]⟩, ⟨#[119, 114, 105, 116, 101, 32, 120, 32, 48, 32, 45]⟩, ⟨#[112, 117, 116, 32, 49, 32, 54]⟩, ⟨#[110, 97, 109, 101, 115, 32, 49]⟩, ⟨#[119, 97, 108, 107]⟩, ⟨#[111, 117, 116, 32, 54, 97]⟩, ⟨#[101, 110, 100, 32, 48, 49]⟩] : List ByteArray) (by decide) (by decide)) fok94) fun hg3 => ?_
    refine og (clg (c_spec_PartsOf ((spec_l01Pick p0 ((spec_l01Once p0 (spec_l01New p0) 4).2) ([⟨#[]⟩, ⟨#[109, 97, 107, 101]⟩, ⟨#[109, 97, 107, 101, 32, 120]⟩, ⟨#[109, 97, 107, 101, 32, 65]⟩, ⟨#[114, 101, 97, 100, 32, 120, 32, 49]⟩, ⟨#[114, 101, 97, 100, 32, 120, 32, 49, 32, 50]⟩, ⟨#[119, 114, 105, 116, 101, 32, 120, 32, 48, 32, 45]⟩, ⟨#[112, 117, 116, 32, 49, 32, 54]⟩, ⟨#[110, 97, 109, 101, 115, 32, 49]⟩, ⟨#[119, 97, 108, 107]⟩, ⟨#[111, 117, 116, 32, 54, 97]⟩, ⟨#[101, 110, 100, 32, 48, 49]⟩] : List ByteArray)).1)) fok93) fun hgq => ?_
    obtain ⟨hg4, _⟩ := hgq
    refine ad 11 ?_
    exact rz (rs := [.tmp 2]) (congrArg (fun x => [Re.sl ByteArray instDatByteArray x]) hM)
  ·
    have hM := hM.trans (bf h1)
    refine ad 4 ?_
    refine og (cm [1, 0] [1, 0] [0] [1] [1] (c_spec_l13Call p0 ((spec_l01Once p0 (spec_l01New p0) 4).2)) fok95) fun hg5 => ?_
    have hs6 := spec_CallLine_size (p0 := ((spec_l13Call p0 ((spec_l01Once p0 (spec_l01New p0) 4).2)).1)) (by assumption)
    refine op (cl (c_spec_CallLine ((spec_l13Call p0 ((spec_l01Once p0 (spec_l01New p0) 4).2)).1)) fok35) ?_
    refine og (clg (c_spec_PartsOf (spec_CallLine ((spec_l13Call p0 ((spec_l01Once p0 (spec_l01New p0) 4).2)).1))) fok93) fun hgq => ?_
    obtain ⟨hg7, _⟩ := hgq
    refine ad 11 ?_
    exact rz (rs := [.tmp 2]) (congrArg (fun x => [Re.sl ByteArray instDatByteArray x]) hM)

/- F30 loop.example/g00974/spec.DrawReadAct -/
def spec_DrawReadAct (p0 : List (UInt8)) : ByteArray := bif decide (((spec_l01Below p0 ((spec_l38Act p0 (spec_l01New p0)).2) 6).1) = 0) then ((⟨#[32, 32]⟩ ++ (spec_ActLine ((spec_l38Act p0 (spec_l01New p0)).1))) ++ ⟨#[32, 32]⟩) else (bif decide (((spec_l01Below p0 ((spec_l38Act p0 (spec_l01New p0)).2) 6).1) = 1) then ((spec_ActLine ((spec_l38Act p0 (spec_l01New p0)).1)) ++ ((spec_l01Pick p0 ((spec_l01Below p0 ((spec_l38Act p0 (spec_l01New p0)).2) 6).2) ([⟨#[32, 49]⟩, ⟨#[120]⟩, ⟨#[32, 45]⟩] : List ByteArray)).1)) else (bif decide (((spec_l01Below p0 ((spec_l38Act p0 (spec_l01New p0)).2) 6).1) = 2) then ((spec_l01Pick p0 ((spec_l01Below p0 ((spec_l38Act p0 (spec_l01New p0)).2) 6).2) ([⟨#[]⟩, ⟨#[98, 101, 103, 105, 110]⟩, ⟨#[98, 101, 103, 105, 110, 32, 49]⟩, ⟨#[98, 97, 99, 107, 32, 49, 32, 49]⟩, ⟨#[102, 108, 117, 115, 104, 32, 49]⟩, ⟨#[97, 115, 107, 32, 49]⟩, ⟨#[97, 115, 107, 32, 49, 32, 109, 97, 107, 101, 32, 120]⟩, ⟨#[112, 108, 97, 105, 110, 32, 49, 32, 110, 97, 109, 101, 115]⟩, ⟨#[102, 97, 108, 108, 32, 48, 49]⟩, ⟨#[119, 97, 108, 107]⟩, ⟨#[35, 32, 102, 111, 108, 100]⟩] : List ByteArray)).1) else (spec_ActLine ((spec_l38Act p0 (spec_l01New p0)).1))))
theorem c_spec_DrawReadAct (p0 : List (UInt8)) : CTs 30 [.o (.sl UInt8 instDatUInt8 p0)] [Re.c (.string (spec_DrawReadAct p0))] := by
  refine en Tryz.func30 Tryz.ntmps30 fun w hG hgd => ?_
  obtain ⟨hg_p0, _⟩ := hgd
  have hl_p0 : p0.length ≤ 9223372036854775807 := hg_p0.1
  have hM := spec_DrawReadAct.eq_1 p0
  refine ad 7 ?_
  refine og (cm [0] [0] [] [0] [0] (c_spec_l01New p0) fok80) fun _ => ?_
  refine ad 5 ?_
  refine og (cm [1, 0] [1, 0] [0] [1] [1] (c_spec_l38Act p0 (spec_l01New p0)) fok79) fun hg1 => ?_
  have hs2 := spec_ActLine_size (a := ((spec_l38Act p0 (spec_l01New p0)).1))
  refine op (cl (c_spec_ActLine ((spec_l38Act p0 (spec_l01New p0)).1)) fok34) ?_
  refine ad 6 ?_
  have hs3 := below_lti p0 ((spec_l38Act p0 (spec_l01New p0)).2) (n := 6) (by decide) (by decide)
  refine og (cm [1, 0] [1, 0] [0] [1] [1] (c_spec_l01Below p0 ((spec_l38Act p0 (spec_l01New p0)).2) 6) fok101) fun hg4 => ?_
  refine ad 7 ?_
  refine cd (fun h5 => ?_) (fun h5 => ?_)
  ·
    have hM := hM.trans (bt h5)
    refine ad 3 ?_
    refine op (ca (hs := szt)) ?_
    refine op (ca (hs := szt)) ?_
    refine ad 2 ?_
    exact rz (rs := [.tmp 2]) (congrArg (fun x => [Re.c (.string x)]) hM)
  ·
    have hM := hM.trans (bf h5)
    refine ad 5 ?_
    refine cd (fun h6 => ?_) (fun h6 => ?_)
    ·
      have hM := hM.trans (bt h6)
      refine ad 5 ?_
      refine li 2 (d := instDatByteArray) ([⟨#[32, 49]⟩, ⟨#[120]⟩, ⟨#[32, 45]⟩] : List ByteArray) ?_
      have hs7 := pick_le (b := p0) (c := ((spec_l01Below p0 ((spec_l38Act p0 (spec_l01New p0)).2) 6).2)) (l := ([⟨#[32, 49]⟩, ⟨#[120]⟩, ⟨#[32, 45]⟩] : List ByteArray)) (n := 200) (by decide)
      refine og (cm [1, 0, 2] [1, 0] [1] [2, 0] [0, 2] (c_spec_l01Pick p0 ((spec_l01Below p0 ((spec_l38Act p0 (spec_l01New p0)).2) 6).2) ([⟨#[32, 49]⟩, ⟨#[120]⟩, ⟨#[32, 45]⟩] : List ByteArray) (by decide) (by decide)) fok94) fun hg8 => ?_
      refine op (ca (hs := szt)) ?_
      refine ad 2 ?_
      exact rz (rs := [.tmp 2]) (congrArg (fun x => [Re.c (.string x)]) hM)
    ·
      have hM := hM.trans (bf h6)
      refine ad 5 ?_
      refine cd (fun h9 => ?_) (fun h9 => ?_)
      ·
        have hM := hM.trans (bt h9)
        refine ad 4 ?_
        refine li 2 (d := instDatByteArray) ([⟨#[]⟩, ⟨#[98, 101, 103, 105, 110]⟩, ⟨#[98, 101, 103, 105, 110, 32, 49]⟩, ⟨#[98, 97, 99, 107, 32, 49, 32, 49]⟩, ⟨#[102, 108, 117, 115, 104, 32, 49]⟩, ⟨#[97, 115, 107, 32, 49]⟩, ⟨#[97, 115, 107, 32, 49, 32, 109, 97, 107, 101, 32, 120]⟩, ⟨#[112, 108, 97, 105, 110, 32, 49, 32, 110, 97, 109, 101, 115]⟩, ⟨#[102, 97, 108, 108, 32, 48, 49]⟩, ⟨#[119, 97, 108, 107]⟩, ⟨#[35, 32, 102, 111, 108, 100]⟩] : List ByteArray) ?_
        have hs10 := pick_le (b := p0) (c := ((spec_l01Below p0 ((spec_l38Act p0 (spec_l01New p0)).2) 6).2)) (l := ([⟨#[]⟩, ⟨#[98, 101, 103, 105, 110]⟩, ⟨#[98, 101, 103, 105, 110, 32, 49]⟩, ⟨#[98, 97, 99, 107, 32, 49, 32, 49]⟩, ⟨#[102, 108, 117, 115, 104, 32, 49]⟩, ⟨#[97, 115, 107, 32, 49]⟩, ⟨#[97, 115, 107, 32, 49, 32, 109, 97, 107, 101, 32, 120]⟩, ⟨#[112, 108, 97, 105, 110, 32, 49, 32, 110, 97, 109, 101, 115]⟩, ⟨#[102, 97, 108, 108, 32, 48, 49]⟩, ⟨#[119, 97, 108, 107]⟩, ⟨#[35, 32, 102, 111, 108, 100]⟩] : List ByteArray)) (n := 200) (by decide)
        refine og (cm [1, 0, 2] [1, 0] [1] [2, 0] [0, 2] (c_spec_l01Pick p0 ((spec_l01Below p0 ((spec_l38Act p0 (spec_l01New p0)).2) 6).2) ([⟨#[]⟩, ⟨#[98, 101, 103, 105, 110]⟩, ⟨#[98, 101, 103, 105, 110, 32, 49]⟩, ⟨#[98, 97, 99, 107, 32, 49, 32, 49]⟩, ⟨#[102, 108, 117, 115, 104, 32, 49]⟩, ⟨#[97, 115, 107, 32, 49]⟩, ⟨#[97, 115, 107, 32, 49, 32, 109, 97, 107, 101, 32, 120]⟩, ⟨#[112, 108, 97, 105, 110, 32, 49, 32, 110, 97, 109, 101, 115]⟩, ⟨#[102, 97, 108, 108, 32, 48, 49]⟩, ⟨#[119, 97, 108, 107]⟩, ⟨#[35, 32, 102, 111, 108, 100]⟩] : List ByteArray) (by decide) (by decide)) fok94) fun hg11 => ?_
        refine ad 2 ?_
        exact rz (rs := [.tmp 2]) (congrArg (fun x => [Re.c (.string x)]) hM)
      ·
        have hM := hM.trans (bf h9)
        refine ad 7 ?_
        exact rz (rs := [.tmp 2]) (congrArg (fun x => [Re.c (.string x)]) hM)

/- F32 loop.example/g00974/spec.DrawActName -/
def spec_DrawActName (p0 : List (UInt8)) : Int := IntKind.i64.wrap (((spec_l01Below p0 (spec_l01New p0) 15).1) - 1)
theorem c_spec_DrawActName (p0 : List (UInt8)) : CTs 32 [.o (.sl UInt8 instDatUInt8 p0)] [Re.c (.int .i64 (spec_DrawActName p0))] := by
  refine en Tryz.func32 Tryz.ntmps32 fun w hG hgd => ?_
  obtain ⟨hg_p0, _⟩ := hgd
  have hl_p0 : p0.length ≤ 9223372036854775807 := hg_p0.1
  have hM := spec_DrawActName.eq_1 p0
  refine ad 7 ?_
  refine og (cm [0] [0] [] [0] [0] (c_spec_l01New p0) fok80) fun _ => ?_
  have hs1 := below_lti p0 (spec_l01New p0) (n := 15) (by decide) (by decide)
  refine og (cm [1, 0] [1, 0] [0] [1] [1] (c_spec_l01Below p0 (spec_l01New p0) 15) fok101) fun hg2 => ?_
  refine ad 3 ?_
  exact rz (rs := [.tmp 2]) (congrArg (fun x => [Re.c (.int .i64 x)]) hM)

end Go.Proofs.YtnjidaonbcbphaaGreatDoor.Fw
/-
  What is drawn is small. No condition.
-/
namespace Go.Proofs.YtnjidaonbcbphaaGreatDoor.Fw
open Go.RowKit
set_option linter.unusedVariables false
set_option linter.unusedSimpArgs false
set_option maxRecDepth 100000
theorem DrawReadCall_small (b : List UInt8) : (spec_DrawReadCall b).length ≤ 12 ∧ ∀ k, (nth (spec_DrawReadCall b) k).size ≤ 600 := by
  unfold spec_DrawReadCall
  cases (spec_l01Once b (spec_l01New b) 4).1 <;> exact sparts12 _
/-- A contract's results are good, wherever the call can be made. -/
theorem CT.gds {P : Program} {G : World → Prop} {f : FuncId} {args : List Arg} {res : List Re} (h : CT P G f args res) {w : World} {vs : List Value} (hG : G w) (hA : ArgsR w vs args) : ResGd res := by
  obtain ⟨e, w', fr, hR, _⟩ := h w vs hG hA []
  obtain ⟨v, _, _, us, F, _, hl, _⟩ := hR
  exact resGd hl

theorem szb2 {b : Bool} {x y : ByteArray} {n : Nat} (hx : x.size ≤ n) (hy : y.size ≤ n) : (bif b then x else y).size ≤ n := by cases b <;> assumption
theorem DrawReadAct_size (b : List UInt8) : (spec_DrawReadAct b).size ≤ 1000 := by
  unfold spec_DrawReadAct
  have h1 := spec_ActLine_size (a := (spec_l38Act b (spec_l01New b)).1)
  have h2 : (spec_l01Pick b ((spec_l01Below b ((spec_l38Act b (spec_l01New b)).2) 6).2) ([⟨#[32, 49]⟩, ⟨#[120]⟩, ⟨#[32, 45]⟩] : List ByteArray)).1.size ≤ 200 := pick_le (by decide)
  refine szb2 ?_ (szb2 ?_ (szb2 ?_ ?_))
  · rw [ByteArray.size_append, ByteArray.size_append]
    show 2 + _ + 2 ≤ 1000
    omega
  · rw [ByteArray.size_append]
    omega
  · exact Nat.le_trans (pick_le (n := 200) (by decide)) (by decide)
  · omega

end Go.Proofs.YtnjidaonbcbphaaGreatDoor.Fw

/- Contracts: each call returns what the model says. By program (wip/am/gen2.py). -/
namespace Go.Proofs.YtnjidaonbcbphaaGreatDoor.Fw
open Go.RowKit
set_option linter.unusedVariables false
set_option maxRecDepth 100000
set_option maxHeartbeats 8000000

theorem fok21 : FnOk Tryz.prog 21 := ⟨_, Tryz.func21, rfl, by kernel_rfl⟩
theorem fok22 : FnOk Tryz.prog 22 := ⟨_, Tryz.func22, rfl, by kernel_rfl⟩
theorem fok24 : FnOk Tryz.prog 24 := ⟨_, Tryz.func24, rfl, by kernel_rfl⟩
theorem fok25 : FnOk Tryz.prog 25 := ⟨_, Tryz.func25, rfl, by kernel_rfl⟩
theorem fok27 : FnOk Tryz.prog 27 := ⟨_, Tryz.func27, rfl, by kernel_rfl⟩
theorem fok30 : FnOk Tryz.prog 30 := ⟨_, Tryz.func30, rfl, by kernel_rfl⟩
theorem fok31 : FnOk Tryz.prog 31 := ⟨_, Tryz.func31, rfl, by kernel_rfl⟩
theorem fok32 : FnOk Tryz.prog 32 := ⟨_, Tryz.func32, rfl, by kernel_rfl⟩
/- F21 loop.example/g00974/laws.big -/
def laws_big (p0 : List (UInt8)) : Bool := decide ((p0.length : Int) > 1048576)
theorem c_laws_big (p0 : List (UInt8)) : CTs 21 [.o (.sl UInt8 instDatUInt8 p0)] [Re.c (.bool (laws_big p0))] := by
  refine en Tryz.func21 Tryz.ntmps21 fun w hG hgd => ?_
  obtain ⟨hg_p0, _⟩ := hgd
  have hl_p0 : p0.length ≤ 9223372036854775807 := hg_p0.1
  have hM := laws_big.eq_1 p0
  refine ad 11 ?_
  exact rz (rs := [.tmp 2]) (congrArg (fun x => [Re.c (.bool x)]) hM)

/- F6 loop.example/g00974/laws.FnLinesBack -/
def laws_FnLinesBack (p0 : List (UInt8)) : Bool := bif laws_big p0 then true else ((((((((((((decide ((impl_ActLine (spec_DrawActLine p0)) = (spec_ActLine (spec_DrawActLine p0)))) && (decide (((impl_ReadAct ((⟨#[32, 32]⟩ ++ (impl_ActLine (spec_DrawActLine p0))) ++ ⟨#[32]⟩)).2) = (!decide ((impl_ActLine (spec_DrawActLine p0)) = ⟨#[]⟩))))) && ((!((impl_ReadAct ((⟨#[32, 32]⟩ ++ (impl_ActLine (spec_DrawActLine p0))) ++ ⟨#[32]⟩)).2)) || (decide (((impl_ReadAct ((⟨#[32, 32]⟩ ++ (impl_ActLine (spec_DrawActLine p0))) ++ ⟨#[32]⟩)).1) = (spec_DrawActLine p0))))) && (decide ((impl_CallLine (spec_DrawCallLine p0)) = (spec_CallLine (spec_DrawCallLine p0))))) && (decide (((impl_ReadCall ((impl_PartsOf (impl_CallLine (spec_DrawCallLine p0))).1)).2) = (!decide ((impl_CallLine (spec_DrawCallLine p0)) = ⟨#[]⟩))))) && ((!((impl_ReadCall ((impl_PartsOf (impl_CallLine (spec_DrawCallLine p0))).1)).2)) || (decide (((impl_ReadCall ((impl_PartsOf (impl_CallLine (spec_DrawCallLine p0))).1)).1) = (spec_DrawCallLine p0))))) && (decide (((impl_ReadCall (spec_DrawReadCall p0)).2) = ((spec_ReadCall (spec_DrawReadCall p0)).2)))) && (decide (((impl_ReadCall (spec_DrawReadCall p0)).1) = ((spec_ReadCall (spec_DrawReadCall p0)).1)))) && (decide (((impl_ReadAct (spec_DrawReadAct p0)).2) = ((spec_ReadAct (spec_DrawReadAct p0)).2)))) && (decide (((impl_ReadAct (spec_DrawReadAct p0)).1) = ((spec_ReadAct (spec_DrawReadAct p0)).1)))) && (decide ((impl_ActName (spec_DrawActName p0)) = (spec_ActName (spec_DrawActName p0))))) && (decide ((impl_ActLine (Deed.mk 9 0 0 (Call.mk 0 ⟨#[]⟩ ⟨#[]⟩ 0 0 ⟨#[]⟩))) = ⟨#[102, 111, 108, 100]⟩)))
theorem c_laws_FnLinesBack (p0 : List (UInt8)) : CTs 6 [.o (.sl UInt8 instDatUInt8 p0)] [Re.c (.bool (laws_FnLinesBack p0))] := by
  refine en Tryz.func6 Tryz.ntmps6 fun w hG hgd => ?_
  obtain ⟨hg_p0, _⟩ := hgd
  have hl_p0 : p0.length ≤ 9223372036854775807 := hg_p0.1
  have hM := laws_FnLinesBack.eq_1 p0
  have hra : (spec_DrawReadAct p0).size ≤ 9223372036854775807 := Nat.le_trans (DrawReadAct_size p0) (by decide)
  have hds := DrawReadCall_small p0
  have hdq : ∀ k, (nth (spec_DrawReadCall p0) k).size ≤ 281474976710656 := fun k => by have := hds.2 k; omega
  refine ad 8 ?_
  refine op (cl (c_laws_big p0) fok21) ?_
  refine ad 1 ?_
  refine cd (fun h1 => ?_) (fun h1 => ?_)
  ·
    have hM := hM.trans (bt h1)
    refine ad 4 ?_
    exact rz (rs := [.tmp 2]) (congrArg (fun x => [Re.c (.bool x)]) hM)
  ·
    have hM := hM.trans (bf h1)
    refine ad 4 ?_
    refine og (clg (c_spec_DrawActLine p0) fok22) fun hgq => ?_
    obtain ⟨hg2, _⟩ := hgq
    refine ad 6 ?_
    have hs3 := impl_ActLine_size (a := (spec_DrawActLine p0)) (by assumption)
    refine op (cl (c_impl_ActLine (spec_DrawActLine p0)) fok23) ?_
    refine ad 5 ?_
    refine op (ca (hs := szt)) ?_
    refine op (ca (hs := szt)) ?_
    refine og (clg (c_impl_ReadAct ((⟨#[32, 32]⟩ ++ (impl_ActLine (spec_DrawActLine p0))) ++ ⟨#[32]⟩) szt) fok24) fun hgq => ?_
    obtain ⟨hg4, _⟩ := hgq
    refine ad 10 ?_
    refine og (clg (c_spec_DrawCallLine p0) fok25) fun hgq => ?_
    obtain ⟨hg5, _⟩ := hgq
    refine ad 6 ?_
    have hs6 := impl_CallLine_size (p0 := (spec_DrawCallLine p0)) (by assumption)
    refine op (cl (c_impl_CallLine (spec_DrawCallLine p0)) fok26) ?_
    refine ad 5 ?_
    refine og (clg (c_spec_DrawReadCall p0) fok27) fun hgq => ?_
    obtain ⟨hg7, _⟩ := hgq
    refine ad 5 ?_
    refine og (clg (c_impl_ReadCall (spec_DrawReadCall p0) (by first | exact parts_small _ | assumption)) fok28) fun hgq => ?_
    obtain ⟨hg8, _⟩ := hgq
    refine ad 10 ?_
    refine og (clg (c_spec_ReadCall (spec_DrawReadCall p0)) fok29) fun hgq => ?_
    obtain ⟨hg9, _⟩ := hgq
    refine ad 10 ?_
    refine op (cl (c_spec_DrawReadAct p0) fok30) ?_
    refine ad 5 ?_
    refine og (clg (c_impl_ReadAct (spec_DrawReadAct p0) szt) fok24) fun hgq => ?_
    obtain ⟨hg10, _⟩ := hgq
    refine ad 10 ?_
    refine og (clg (c_spec_ReadAct (spec_DrawReadAct p0)) fok31) fun hgq => ?_
    obtain ⟨hg11, _⟩ := hgq
    refine ad 10 ?_
    refine op (cl (c_spec_DrawActName p0) fok32) ?_
    refine ad 5 ?_
    refine og (clg (c_impl_PartsOf (impl_CallLine (spec_DrawCallLine p0)) szt) fok33) fun hgq => ?_
    obtain ⟨hg12, _⟩ := hgq
    refine ad 9 ?_
    refine og (clg (c_impl_ReadCall ((impl_PartsOf (impl_CallLine (spec_DrawCallLine p0))).1) (by first | exact parts_small _ | assumption)) fok28) fun hgq => ?_
    obtain ⟨hg13, _⟩ := hgq
    refine ad 8 ?_
    refine adL ?_
    refine ad 2 ?_
    have hs14 := spec_ActLine_size (a := (spec_DrawActLine p0))
    refine op (cl (c_spec_ActLine (spec_DrawActLine p0)) fok34) ?_
    refine ad 2 ?_
    refine ag 5 ?_
    refine ad 1 ?_
    refine ag 5 ?_
    refine op (qg (fun _ => (eqp56 ((impl_ReadAct ((⟨#[32, 32]⟩ ++ (impl_ActLine (spec_DrawActLine p0))) ++ ⟨#[32]⟩)).1) (spec_DrawActLine p0)))) ?_
    refine ag 2 ?_
    refine ad 1 ?_
    refine ag 2 ?_
    refine op (cG (hct := fun hB => (c_spec_CallLine (spec_DrawCallLine p0))) (hfn := fok35)) ?_
    refine ag 2 ?_
    refine ad 1 ?_
    refine ag 5 ?_
    refine ad 1 ?_
    refine ag 5 ?_
    refine op (qg (fun _ => (eqp54 ((impl_ReadCall ((impl_PartsOf (impl_CallLine (spec_DrawCallLine p0))).1)).1) (spec_DrawCallLine p0)))) ?_
    refine ag 2 ?_
    refine ad 1 ?_
    refine ag 4 ?_
    refine ad 1 ?_
    refine ag 2 ?_
    refine op (qg (fun _ => (eqp54 ((impl_ReadCall (spec_DrawReadCall p0)).1) ((spec_ReadCall (spec_DrawReadCall p0)).1)))) ?_
    refine ag 1 ?_
    refine ad 1 ?_
    refine ag 4 ?_
    refine ad 1 ?_
    refine ag 2 ?_
    refine op (qg (fun _ => (eqp56 ((impl_ReadAct (spec_DrawReadAct p0)).1) ((spec_ReadAct (spec_DrawReadAct p0)).1)))) ?_
    refine ag 1 ?_
    refine ad 1 ?_
    refine ag 1 ?_
    refine op (cG (hct := fun hB => (c_impl_ActName (spec_DrawActName p0))) (hfn := fok36)) ?_
    refine ag 1 ?_
    refine op (cG (hct := fun hB => (c_spec_ActName (spec_DrawActName p0))) (hfn := fok37)) ?_
    refine ag 2 ?_
    refine ad 1 ?_
    refine ag 1 ?_
    have hg15 : Dat.good (Deed.mk 9 0 0 (Call.mk 0 ⟨#[]⟩ ⟨#[]⟩ 0 0 ⟨#[]⟩) : Deed) := ⟨(gi 9), (gi 0), (gi 0), (good_Call (gi 0) (gs ⟨#[]⟩) (gs ⟨#[]⟩) (gi 0) (gi 0) (gs ⟨#[]⟩))⟩
    refine op (cG (hct := fun hB => (c_impl_ActLine (Deed.mk 9 0 0 (Call.mk 0 ⟨#[]⟩ ⟨#[]⟩ 0 0 ⟨#[]⟩)))) (hfn := fok23)) ?_
    refine ag 2 ?_
    refine ad 2 ?_
    exact rz (rs := [.tmp 2]) (congrArg (fun x => [Re.c (.bool x)]) hM)

end Go.Proofs.YtnjidaonbcbphaaGreatDoor.Fw
/-
  A package variable that is laid as an error holds one. No condition.
-/
namespace Go.Proofs.YtnjidaonbcbphaaGreatDoor.Fw
open Go.RowKit
set_option linter.unusedVariables false
theorem GE_iface {P : Program} {W : World} {H : Type} {enc : TypeId × Value → H} {sp : Nat → Bool} {b : Bool} {fuel t g : Nat} {x : List MemPlace} {cs : Array Value} {nm nm2 : String} {d : DataW H} {ms : Array (String × TypeId)}
    (hg : P.globalNamed nm = some g) (hu : P.underlying t = some (.interface ms)) (hv : W.var? P nm = some cs) (hd : DataW.trod enc P W 0 sp b fuel t cs.toList = some (.iface nm2 d, x)) : GE g W := by
  have key : ∃ u v, cs.toList = [.iface u v] := by
    cases fuel with
    | zero => simp [DataW.trod] at hd
    | succ n =>
      generalize cs.toList = l at hd ⊢
      rcases l with _ | ⟨c, _ | ⟨c2, r⟩⟩
      · simp [DataW.trod, hu] at hd
      · cases c <;> first | exact ⟨_, _, rfl⟩ | simp [DataW.trod, hu] at hd
      · simp [DataW.trod, hu] at hd
  obtain ⟨u, v, e⟩ := key
  obtain ⟨T, fr, h⟩ := var_gv hg hv e
  refine ⟨u, v, ?_⟩
  simp [World.cell?, h]
end Go.Proofs.YtnjidaonbcbphaaGreatDoor.Fw
