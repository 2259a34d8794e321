/-
  The texts KT, KR, KX, KS, QT, Q1, Q2, Q3, Q4, Q5, Q6, Q7, Q8, Q9 of this proof, one behind the other: what each proves stands at its head. No condition.
-/
import Derived.Test.YtdghkmbppfmifaaGreatDoorProg
import Derived.KernelRfl
import Derived.Lib.ItoaLen
import Derived.Lib.Join
import Derived.Test.YtdghkmbppfmifaaGreatDoorLEA
import Derived.Test.YtdghkmbppfmifaaGreatDoorLEB
namespace Go.Proofs.YtdghkmbppfmifaaGreatDoor.Fw
open Go.RowKit
set_option linter.unusedVariables false
set_option maxRecDepth 100000
def lkT : List (Nat × TI) → Nat → TI
  | [], _ => .no
  | (k, i) :: r, t => bif Nat.beq k t then i else lkT r t
theorem lkT_ok {P : Program} : ∀ {l : List (Nat × TI)}, (l.all fun p => p.2.chk P p.1) = true → ∀ t, (lkT l t).chk P t = true
  | [], _, _ => rfl
  | (k, i) :: r, h, t => by
    simp only [List.all_cons, Bool.and_eq_true] at h
    simp only [lkT]
    cases e : Nat.beq k t with
    | true => obtain rfl := Nat.eq_of_beq_eq_true e; exact h.1
    | false => exact lkT_ok h.2 t
def lkZ : List (Nat × Value) → Nat → Option Value
  | [], _ => none
  | (k, i) :: r, t => bif Nat.beq k t then some i else lkZ r t
def ZOk (P : Program) : List (Nat × Value) → Prop
  | [] => True
  | p :: r => (∀ w, (zeroValue p.1).run P w = .ok p.2 w) ∧ ZOk P r
theorem lkZ_ok {P : Program} : ∀ {l : List (Nat × Value)}, ZOk P l → ∀ t z, lkZ l t = some z → ∀ w, (zeroValue t).run P w = .ok z w
  | [], _, _, _, h => by cases h
  | (k, i) :: r, h, t, z, hz => by
    simp only [lkZ] at hz
    cases e : Nat.beq k t with
    | true => obtain rfl := Nat.eq_of_beq_eq_true e; rw [e] at hz; cases hz; exact h.1
    | false => rw [e] at hz; exact lkZ_ok h.2 t z hz
def tiL : List (Nat × TI) := [(3, .int .i64),
  (4, .bool),
  (5, .int .u8),
  (9, .str),
  (22, .sl 5 1 1),
  (24, .sl 152 2 32),
  (25, .sl 45 10 160),
  (26, .sl 201 3 40),
  (28, .st 2 [(0, 1), (1, 1)]),
  (30, .st 3 [(0, 1), (1, 2)]),
  (31, .sl 51 8 96),
  (32, .sl 9 1 16),
  (34, .st 11 [(0, 1), (1, 1), (2, 3), (5, 1), (6, 1), (7, 1), (8, 1), (9, 1), (10, 1)]),
  (39, .sl 119 6 72),
  (40, .sl 170 3 32),
  (42, .st 2 [(0, 1), (1, 1)]),
  (43, .sl 3 1 8),
  (45, .st 10 [(0, 1), (1, 1), (2, 1), (3, 1), (4, 1), (5, 1), (6, 2), (8, 1), (9, 1)]),
  (49, .sl 184 7 80),
  (51, .st 8 [(0, 1), (1, 1), (2, 1), (3, 1), (4, 1), (5, 1), (6, 1), (7, 1)]),
  (72, .one),
  (103, .sl 121 9 96),
  (106, .st 3 [(0, 1), (1, 1), (2, 1)]),
  (109, .st 2 [(0, 1), (1, 1)]),
  (119, .st 6 [(0, 1), (1, 1), (2, 1), (3, 1), (4, 1), (5, 1)]),
  (121, .st 9 [(0, 1), (1, 1), (2, 1), (3, 6)]),
  (152, .st 2 [(0, 1), (1, 1)]),
  (160, .st 3 [(0, 1), (1, 2)]),
  (170, .st 3 [(0, 1), (1, 1), (2, 1)]),
  (184, .st 7 [(0, 1), (1, 6)]),
  (201, .st 3 [(0, 1), (1, 1), (2, 1)]),
  (354, .sl 24 1 24)]
def ti (t : Nat) : TI := lkT tiL t
theorem tiok : ∀ t, (ti t).chk Tryz.prog t = true := lkT_ok (by kernel_rfl)
def zrL : List (Nat × Value) := [(3, Value.int IntKind.i64 0),
  (4, Value.bool false),
  (5, Value.int IntKind.u8 0),
  (9, Value.string { data := #[] }),
  (22, Value.slice none 0 0),
  (24, Value.slice none 0 0),
  (25, Value.slice none 0 0),
  (26, Value.slice none 0 0),
  (28, Value.agg #[Value.string { data := #[] }, Value.int IntKind.i64 0]),
  (30, Value.agg #[Value.slice none 0 0, Value.string { data := #[] }, Value.int IntKind.i64 0]),
  (31, Value.slice none 0 0),
  (32, Value.slice none 0 0),
  (34, Value.agg #[Value.slice none 0 0, Value.slice none 0 0, Value.slice none 0 0, Value.string { data := #[] }, Value.int IntKind.i64 0, Value.int IntKind.i64 0, Value.int IntKind.i64 0, Value.int IntKind.i64 0, Value.slice none 0 0, Value.slice none 0 0, Value.bool false]),
  (39, Value.slice none 0 0),
  (40, Value.slice none 0 0),
  (42, Value.agg #[Value.slice none 0 0, Value.slice none 0 0]),
  (43, Value.slice none 0 0),
  (45, Value.agg #[Value.int IntKind.i64 0, Value.int IntKind.i64 0, Value.int IntKind.i64 0, Value.int IntKind.i64 0, Value.slice none 0 0, Value.slice none 0 0, Value.slice none 0 0, Value.slice none 0 0, Value.slice none 0 0, Value.int IntKind.i64 0]),
  (49, Value.slice none 0 0),
  (51, Value.agg #[Value.int IntKind.i64 0, Value.int IntKind.i64 0, Value.int IntKind.i64 0, Value.slice none 0 0, Value.slice none 0 0, Value.int IntKind.i64 0, Value.int IntKind.i64 0, Value.bool false]),
  (72, Value.pointer none),
  (75, Value.agg #[Value.string { data := #[] }, Value.string { data := #[] }, Value.string { data := #[] }]),
  (83, Value.agg #[Value.string { data := #[] }, Value.string { data := #[] }]),
  (103, Value.slice none 0 0),
  (106, Value.agg #[Value.slice none 0 0, Value.int IntKind.i64 0, Value.int IntKind.i64 0]),
  (109, Value.agg #[Value.pointer none, Value.slice none 0 0]),
  (119, Value.agg #[Value.int IntKind.i64 0, Value.string { data := #[] }, Value.string { data := #[] }, Value.int IntKind.i64 0, Value.int IntKind.i64 0, Value.string { data := #[] }]),
  (121, Value.agg #[Value.int IntKind.i64 0, Value.int IntKind.i64 0, Value.int IntKind.i64 0, Value.int IntKind.i64 0, Value.string { data := #[] }, Value.string { data := #[] }, Value.int IntKind.i64 0, Value.int IntKind.i64 0, Value.string { data := #[] }]),
  (152, Value.agg #[Value.string { data := #[] }, Value.string { data := #[] }]),
  (160, Value.agg #[Value.slice none 0 0, Value.slice none 0 0, Value.slice none 0 0]),
  (170, Value.agg #[Value.int IntKind.i64 0, Value.int IntKind.i64 0, Value.string { data := #[] }]),
  (184, Value.agg #[Value.int IntKind.i64 0, Value.int IntKind.i64 0, Value.string { data := #[] }, Value.string { data := #[] }, Value.int IntKind.i64 0, Value.int IntKind.i64 0, Value.string { data := #[] }]),
  (201, Value.agg #[Value.int IntKind.i64 0, Value.slice none 0 0, Value.bool false]),
  (354, Value.slice none 0 0)]
def ftL : List (Nat × Nat × Nat) := [(30, 1, 28)]
def lkFt : List (Nat × Nat × Nat) → Nat → Nat → Option Nat
  | [], _, _ => none
  | (t, i, f) :: r, t' , i' => bif Nat.beq t t' && Nat.beq i i' then some f else lkFt r t' i'
def arL : List (Nat × Nat) := [(75, 3), (83, 2)]
def lkAr : List (Nat × Nat) → Nat → Option Nat
  | [], _ => none
  | (t, n) :: r, t' => bif Nat.beq t t' then some n else lkAr r t'
def zr : Ri.Zr := ⟨lkZ zrL, lkFt ftL, lkAr arL⟩
theorem arok : ∀ t n, zr.ar t = some n → ∃ e, chkArr Tryz.prog t n e = true := by
  intro t n h
  simp only [zr, arL, lkAr] at h
  cases e0 : Nat.beq 75 t with
  | true =>
    obtain rfl := Nat.eq_of_beq_eq_true e0
    cases h
    exact ⟨9, by kernel_rfl⟩
  | false =>
  rw [e0] at h
  simp only [cond_false] at h
  cases e1 : Nat.beq 83 t with
  | true =>
    obtain rfl := Nat.eq_of_beq_eq_true e1
    cases h
    exact ⟨9, by kernel_rfl⟩
  | false =>
  rw [e1] at h
  simp only [cond_false] at h
  cases h
theorem zok : ∀ t z, zr t = some z → ∀ w, (zeroValue t).run Tryz.prog w = .ok z w := lkZ_ok ⟨Tryz.zeroValue3, Tryz.zeroValue4, Tryz.zeroValue5, Tryz.zeroValue9, Tryz.zeroValue22, Tryz.zeroValue24, Tryz.zeroValue25, Tryz.zeroValue26, Tryz.zeroValue28, Tryz.zeroValue30, Tryz.zeroValue31, Tryz.zeroValue32, Tryz.zeroValue34, Tryz.zeroValue39, Tryz.zeroValue40, Tryz.zeroValue42, Tryz.zeroValue43, Tryz.zeroValue45, Tryz.zeroValue49, Tryz.zeroValue51, Tryz.zeroValue72, Tryz.zeroValue75, Tryz.zeroValue83, Tryz.zeroValue103, Tryz.zeroValue106, Tryz.zeroValue109, Tryz.zeroValue119, Tryz.zeroValue121, Tryz.zeroValue152, Tryz.zeroValue160, Tryz.zeroValue170, Tryz.zeroValue184, Tryz.zeroValue201, Tryz.zeroValue354, trivial⟩
theorem ftok : ∀ t i f, zr.ft t i = some f → ∃ off sz, chkFieldT Tryz.prog t i off f sz = true := by
  intro t i f h
  simp only [zr, ftL, lkFt] at h
  cases e0 : (Nat.beq 30 t && Nat.beq 1 i) with
  | true =>
    simp only [Bool.and_eq_true] at e0
    obtain ⟨e, e'⟩ := e0
    obtain rfl := Nat.eq_of_beq_eq_true e
    obtain rfl := Nat.eq_of_beq_eq_true e'
    cases h
    exact ⟨1, 2, by kernel_rfl⟩
  | false =>
  rw [e0] at h
  simp only [cond_false] at h
  cases h
end Go.Proofs.YtdghkmbppfmifaaGreatDoor.Fw

namespace Go.Proofs.YtdghkmbppfmifaaGreatDoor.Ri
open Go.Proofs.YtdghkmbppfmifaaGreatDoor.Fw
set_option linter.unusedVariables false
set_option maxRecDepth 100000
structure L01Cur where
  b : List UInt8
  i : Int
  h : Int
  deriving Inhabited
instance : Dat L01Cur := Dat.pull fun x => (x.b, x.i, x.h)
instance : Str L01Cur where
  fk := [.sl UInt8 instDatUInt8 (fun x => x.b), .int (fun x => x.i), .int (fun x => x.h)]
  op h := pull_op (fun x : L01Cur => (x.b, x.i, x.h)) h
  cl h := pull_cl (fun x : L01Cur => (x.b, x.i, x.h)) h
  oop h := pull_oop (fun x : L01Cur => (x.b, x.i, x.h)) h
  omk h := pull_omk (fun x : L01Cur => (x.b, x.i, x.h)) h
  gd h := pull_gd (fun x : L01Cur => (x.b, x.i, x.h)) h
noncomputable def tys : List (Nat × Ty) := [(3, ⟨Int, inferInstance, inferInstance⟩), (4, ⟨Bool, inferInstance, inferInstance⟩), (5, ⟨UInt8, inferInstance, inferInstance⟩), (9, ⟨ByteArray, inferInstance, inferInstance⟩), (22, ⟨List UInt8, inferInstance, inferInstance⟩), (24, ⟨List Fw.Cell, inferInstance, inferInstance⟩), (25, ⟨List Fw.Tx, inferInstance, inferInstance⟩), (26, ⟨List Fw.Slot, inferInstance, inferInstance⟩), (28, ⟨Fw.Journal, inferInstance, inferInstance⟩), (30, ⟨Fw.Disk, inferInstance, inferInstance⟩), (31, ⟨List Fw.Entry, inferInstance, inferInstance⟩), (32, ⟨List ByteArray, inferInstance, inferInstance⟩), (34, ⟨Fw.Kernel, inferInstance, inferInstance⟩), (39, ⟨List Fw.Call, inferInstance, inferInstance⟩), (40, ⟨List Fw.Answer, inferInstance, inferInstance⟩), (42, ⟨Fw.Touch, inferInstance, inferInstance⟩), (43, ⟨List Int, inferInstance, inferInstance⟩), (45, ⟨Fw.Tx, inferInstance, inferInstance⟩), (49, ⟨List Fw.Step, inferInstance, inferInstance⟩), (51, ⟨Fw.Entry, inferInstance, inferInstance⟩), (103, ⟨List Fw.Deed, inferInstance, inferInstance⟩), (106, ⟨L01Cur, inferInstance, inferInstance⟩), (119, ⟨Fw.Call, inferInstance, inferInstance⟩), (121, ⟨Fw.Deed, inferInstance, inferInstance⟩), (126, ⟨List (List ByteArray), inferInstance, inferInstance⟩), (152, ⟨Fw.Cell, inferInstance, inferInstance⟩), (160, ⟨Fw.Mach, inferInstance, inferInstance⟩), (170, ⟨Fw.Answer, inferInstance, inferInstance⟩), (184, ⟨Fw.Step, inferInstance, inferInstance⟩), (201, ⟨Fw.Slot, inferInstance, inferInstance⟩), (354, ⟨List (List Fw.Cell), inferInstance, inferInstance⟩)]
noncomputable def τ0 : Tab := tabOf tys
noncomputable def to3 : TyO τ0 3 where
  fs := [.int]
  to := fun (x : Int) => (x, ())
  of := fun h => (h.1 : Int)
  back h := rfl
  op {S w us x} h := Str.op (α := Int) h
  cl {S w us x} h := Str.cl (α := Int) h
noncomputable def to4 : TyO τ0 4 where
  fs := [.bool]
  to := fun (x : Bool) => (x, ())
  of := fun h => (h.1 : Bool)
  back h := rfl
  op {S w us x} h := Str.op (α := Bool) h
  cl {S w us x} h := Str.cl (α := Bool) h
noncomputable def to5 : TyO τ0 5 where
  fs := [.byte]
  to := fun (x : UInt8) => (x, ())
  of := fun h => (h.1 : UInt8)
  back h := rfl
  op {S w us x} h := Str.op (α := UInt8) h
  cl {S w us x} h := Str.cl (α := UInt8) h
  bt := some (fun x => x, fun x => x)
  bl p h := by
    cases h
    exact ⟨rfl, fun S w us x h => by
      obtain ⟨v, r, rfl, hv, rfl⟩ := (inferInstance : Str UInt8).op h
      rw [hv]; rfl, fun S w x => (inferInstance : Str UInt8).cl ⟨_, _, rfl, rfl, rfl⟩⟩
noncomputable def to9 : TyO τ0 9 where
  fs := [.str]
  to := fun (x : ByteArray) => (x, ())
  of := fun h => (h.1 : ByteArray)
  back h := rfl
  op {S w us x} h := Str.op (α := ByteArray) h
  cl {S w us x} h := Str.cl (α := ByteArray) h
noncomputable def to22 : TyO τ0 22 where
  fs := [.sl 5]
  to := fun (x : List UInt8) => (x, ())
  of := fun h => (h.1 : List UInt8)
  back h := rfl
  op {S w us x} h := Str.op (α := List UInt8) h
  cl {S w us x} h := Str.cl (α := List UInt8) h
noncomputable def to24 : TyO τ0 24 where
  fs := [.sl 152]
  to := fun (x : List Fw.Cell) => (x, ())
  of := fun h => (h.1 : List Fw.Cell)
  back h := rfl
  op {S w us x} h := Str.op (α := List Fw.Cell) h
  cl {S w us x} h := Str.cl (α := List Fw.Cell) h
noncomputable def to25 : TyO τ0 25 where
  fs := [.sl 45]
  to := fun (x : List Fw.Tx) => (x, ())
  of := fun h => (h.1 : List Fw.Tx)
  back h := rfl
  op {S w us x} h := Str.op (α := List Fw.Tx) h
  cl {S w us x} h := Str.cl (α := List Fw.Tx) h
noncomputable def to26 : TyO τ0 26 where
  fs := [.sl 201]
  to := fun (x : List Fw.Slot) => (x, ())
  of := fun h => (h.1 : List Fw.Slot)
  back h := rfl
  op {S w us x} h := Str.op (α := List Fw.Slot) h
  cl {S w us x} h := Str.cl (α := List Fw.Slot) h
noncomputable def to28 : TyO τ0 28 where
  fs := [.str, .int]
  to := fun (x : Fw.Journal) => (x.Text, x.Sure, ())
  of := fun h => (⟨h.1, h.2.1⟩ : Fw.Journal)
  back h := rfl
  op {S w us x} h := Str.op (α := Fw.Journal) h
  cl {S w us x} h := Str.cl (α := Fw.Journal) h
noncomputable def to30 : TyO τ0 30 where
  fs := [.sl 201, .str, .int]
  to := fun (x : Fw.Disk) => (x.Slots, x.Journal.Text, x.Journal.Sure, ())
  of := fun h => (⟨h.1, ⟨h.2.1, h.2.2.1⟩⟩ : Fw.Disk)
  back h := rfl
  op {S w us x} h := Str.op (α := Fw.Disk) h
  cl {S w us x} h := Str.cl (α := Fw.Disk) h
noncomputable def to31 : TyO τ0 31 where
  fs := [.sl 51]
  to := fun (x : List Fw.Entry) => (x, ())
  of := fun h => (h.1 : List Fw.Entry)
  back h := rfl
  op {S w us x} h := Str.op (α := List Fw.Entry) h
  cl {S w us x} h := Str.cl (α := List Fw.Entry) h
noncomputable def to32 : TyO τ0 32 where
  fs := [.sl 9]
  to := fun (x : List ByteArray) => (x, ())
  of := fun h => (h.1 : List ByteArray)
  back h := rfl
  op {S w us x} h := Str.op (α := List ByteArray) h
  cl {S w us x} h := Str.cl (α := List ByteArray) h
noncomputable def to34 : TyO τ0 34 where
  fs := [.sl 152, .sl 45, .sl 201, .str, .int, .int, .int, .int, .sl 51, .sl 9, .bool]
  to := fun (x : Fw.Kernel) => (x.Store, x.Txs, x.Disk.Slots, x.Disk.Journal.Text, x.Disk.Journal.Sure, x.Seq, x.Next, x.Time, x.History, x.Seen, x.Room, ())
  of := fun h => (⟨h.1, h.2.1, ⟨h.2.2.1, ⟨h.2.2.2.1, h.2.2.2.2.1⟩⟩, h.2.2.2.2.2.1, h.2.2.2.2.2.2.1, h.2.2.2.2.2.2.2.1, h.2.2.2.2.2.2.2.2.1, h.2.2.2.2.2.2.2.2.2.1, h.2.2.2.2.2.2.2.2.2.2.1⟩ : Fw.Kernel)
  back h := rfl
  op {S w us x} h := Str.op (α := Fw.Kernel) h
  cl {S w us x} h := Str.cl (α := Fw.Kernel) h
noncomputable def to39 : TyO τ0 39 where
  fs := [.sl 119]
  to := fun (x : List Fw.Call) => (x, ())
  of := fun h => (h.1 : List Fw.Call)
  back h := rfl
  op {S w us x} h := Str.op (α := List Fw.Call) h
  cl {S w us x} h := Str.cl (α := List Fw.Call) h
noncomputable def to40 : TyO τ0 40 where
  fs := [.sl 170]
  to := fun (x : List Fw.Answer) => (x, ())
  of := fun h => (h.1 : List Fw.Answer)
  back h := rfl
  op {S w us x} h := Str.op (α := List Fw.Answer) h
  cl {S w us x} h := Str.cl (α := List Fw.Answer) h
noncomputable def to42 : TyO τ0 42 where
  fs := [.sl 9, .sl 9]
  to := fun (x : Fw.Touch) => (x.Reads, x.Writes, ())
  of := fun h => (⟨h.1, h.2.1⟩ : Fw.Touch)
  back h := rfl
  op {S w us x} h := Str.op (α := Fw.Touch) h
  cl {S w us x} h := Str.cl (α := Fw.Touch) h
noncomputable def to43 : TyO τ0 43 where
  fs := [.sl 3]
  to := fun (x : List Int) => (x, ())
  of := fun h => (h.1 : List Int)
  back h := rfl
  op {S w us x} h := Str.op (α := List Int) h
  cl {S w us x} h := Str.cl (α := List Int) h
noncomputable def to45 : TyO τ0 45 where
  fs := [.int, .int, .int, .int, .sl 119, .sl 170, .sl 9, .sl 9, .sl 3, .int]
  to := fun (x : Fw.Tx) => (x.Id, x.Age, x.Proc, x.Began, x.Calls, x.Answers, x.Touch.Reads, x.Touch.Writes, x.Marks, x.State, ())
  of := fun h => (⟨h.1, h.2.1, h.2.2.1, h.2.2.2.1, h.2.2.2.2.1, h.2.2.2.2.2.1, ⟨h.2.2.2.2.2.2.1, h.2.2.2.2.2.2.2.1⟩, h.2.2.2.2.2.2.2.2.1, h.2.2.2.2.2.2.2.2.2.1⟩ : Fw.Tx)
  back h := rfl
  op {S w us x} h := Str.op (α := Fw.Tx) h
  cl {S w us x} h := Str.cl (α := Fw.Tx) h
noncomputable def to49 : TyO τ0 49 where
  fs := [.sl 184]
  to := fun (x : List Fw.Step) => (x, ())
  of := fun h => (h.1 : List Fw.Step)
  back h := rfl
  op {S w us x} h := Str.op (α := List Fw.Step) h
  cl {S w us x} h := Str.cl (α := List Fw.Step) h
noncomputable def to51 : TyO τ0 51 where
  fs := [.int, .int, .int, .sl 184, .sl 170, .int, .int, .bool]
  to := fun (x : Fw.Entry) => (x.Seq, x.Kind, x.Tx, x.Steps, x.Answers, x.Began, x.Ended, x.Laid, ())
  of := fun h => (⟨h.1, h.2.1, h.2.2.1, h.2.2.2.1, h.2.2.2.2.1, h.2.2.2.2.2.1, h.2.2.2.2.2.2.1, h.2.2.2.2.2.2.2.1⟩ : Fw.Entry)
  back h := rfl
  op {S w us x} h := Str.op (α := Fw.Entry) h
  cl {S w us x} h := Str.cl (α := Fw.Entry) h
noncomputable def to103 : TyO τ0 103 where
  fs := [.sl 121]
  to := fun (x : List Fw.Deed) => (x, ())
  of := fun h => (h.1 : List Fw.Deed)
  back h := rfl
  op {S w us x} h := Str.op (α := List Fw.Deed) h
  cl {S w us x} h := Str.cl (α := List Fw.Deed) h
noncomputable def to106 : TyO τ0 106 where
  fs := [.sl 5, .int, .int]
  to := fun (x : L01Cur) => (x.b, x.i, x.h, ())
  of := fun h => (⟨h.1, h.2.1, h.2.2.1⟩ : L01Cur)
  back h := rfl
  op {S w us x} h := Str.op (α := L01Cur) h
  cl {S w us x} h := Str.cl (α := L01Cur) h
noncomputable def to119 : TyO τ0 119 where
  fs := [.int, .str, .str, .int, .int, .str]
  to := fun (x : Fw.Call) => (x.Kind, x.Name, x.To, x.A, x.B, x.Text, ())
  of := fun h => (⟨h.1, h.2.1, h.2.2.1, h.2.2.2.1, h.2.2.2.2.1, h.2.2.2.2.2.1⟩ : Fw.Call)
  back h := rfl
  op {S w us x} h := Str.op (α := Fw.Call) h
  cl {S w us x} h := Str.cl (α := Fw.Call) h
noncomputable def to121 : TyO τ0 121 where
  fs := [.int, .int, .int, .int, .str, .str, .int, .int, .str]
  to := fun (x : Fw.Deed) => (x.Kind, x.N, x.M, x.Call.Kind, x.Call.Name, x.Call.To, x.Call.A, x.Call.B, x.Call.Text, ())
  of := fun h => (⟨h.1, h.2.1, h.2.2.1, ⟨h.2.2.2.1, h.2.2.2.2.1, h.2.2.2.2.2.1, h.2.2.2.2.2.2.1, h.2.2.2.2.2.2.2.1, h.2.2.2.2.2.2.2.2.1⟩⟩ : Fw.Deed)
  back h := rfl
  op {S w us x} h := Str.op (α := Fw.Deed) h
  cl {S w us x} h := Str.cl (α := Fw.Deed) h
noncomputable def to126 : TyO τ0 126 where
  fs := [.sl 32]
  to := fun (x : List (List ByteArray)) => (x, ())
  of := fun h => (h.1 : List (List ByteArray))
  back h := rfl
  op {S w us x} h := Str.op (α := List (List ByteArray)) h
  cl {S w us x} h := Str.cl (α := List (List ByteArray)) h
noncomputable def to152 : TyO τ0 152 where
  fs := [.str, .str]
  to := fun (x : Fw.Cell) => (x.Key, x.Val, ())
  of := fun h => (⟨h.1, h.2.1⟩ : Fw.Cell)
  back h := rfl
  op {S w us x} h := Str.op (α := Fw.Cell) h
  cl {S w us x} h := Str.cl (α := Fw.Cell) h
noncomputable def to160 : TyO τ0 160 where
  fs := [.sl 152, .sl 9, .sl 9]
  to := fun (x : Fw.Mach) => (x.Store, x.Touch.Reads, x.Touch.Writes, ())
  of := fun h => (⟨h.1, ⟨h.2.1, h.2.2.1⟩⟩ : Fw.Mach)
  back h := rfl
  op {S w us x} h := Str.op (α := Fw.Mach) h
  cl {S w us x} h := Str.cl (α := Fw.Mach) h
noncomputable def to170 : TyO τ0 170 where
  fs := [.int, .int, .str]
  to := fun (x : Fw.Answer) => (x.Code, x.N, x.Text, ())
  of := fun h => (⟨h.1, h.2.1, h.2.2.1⟩ : Fw.Answer)
  back h := rfl
  op {S w us x} h := Str.op (α := Fw.Answer) h
  cl {S w us x} h := Str.cl (α := Fw.Answer) h
noncomputable def to184 : TyO τ0 184 where
  fs := [.int, .int, .str, .str, .int, .int, .str]
  to := fun (x : Fw.Step) => (x.Proc, x.Call.Kind, x.Call.Name, x.Call.To, x.Call.A, x.Call.B, x.Call.Text, ())
  of := fun h => (⟨h.1, ⟨h.2.1, h.2.2.1, h.2.2.2.1, h.2.2.2.2.1, h.2.2.2.2.2.1, h.2.2.2.2.2.2.1⟩⟩ : Fw.Step)
  back h := rfl
  op {S w us x} h := Str.op (α := Fw.Step) h
  cl {S w us x} h := Str.cl (α := Fw.Step) h
noncomputable def to201 : TyO τ0 201 where
  fs := [.int, .sl 152, .bool]
  to := fun (x : Fw.Slot) => (x.Seq, x.Cells, x.Whole, ())
  of := fun h => (⟨h.1, h.2.1, h.2.2.1⟩ : Fw.Slot)
  back h := rfl
  op {S w us x} h := Str.op (α := Fw.Slot) h
  cl {S w us x} h := Str.cl (α := Fw.Slot) h
noncomputable def to354 : TyO τ0 354 where
  fs := [.sl 24]
  to := fun (x : List (List Fw.Cell)) => (x, ())
  of := fun h => (h.1 : List (List Fw.Cell))
  back h := rfl
  op {S w us x} h := Str.op (α := List (List Fw.Cell)) h
  cl {S w us x} h := Str.cl (α := List (List Fw.Cell)) h
noncomputable def toL : List (Σ t, TyO τ0 t) := [⟨3, to3⟩, ⟨4, to4⟩, ⟨5, to5⟩, ⟨9, to9⟩, ⟨22, to22⟩, ⟨24, to24⟩, ⟨25, to25⟩, ⟨26, to26⟩, ⟨28, to28⟩, ⟨30, to30⟩, ⟨31, to31⟩, ⟨32, to32⟩, ⟨34, to34⟩, ⟨39, to39⟩, ⟨40, to40⟩, ⟨42, to42⟩, ⟨43, to43⟩, ⟨45, to45⟩, ⟨49, to49⟩, ⟨51, to51⟩, ⟨103, to103⟩, ⟨106, to106⟩, ⟨119, to119⟩, ⟨121, to121⟩, ⟨126, to126⟩, ⟨152, to152⟩, ⟨160, to160⟩, ⟨170, to170⟩, ⟨184, to184⟩, ⟨201, to201⟩, ⟨354, to354⟩]
theorem toL_keys : toL.map (·.1) = tys.map (·.1) := rfl
noncomputable def O0 : Opn τ0 := opnOf fun t => lkO toL t fun h => tyMiss (lkTy_miss fun k hk => by
  rw [← toL_keys] at hk
  obtain ⟨x, hx, rfl⟩ := List.mem_map.1 hk
  exact h x hx)
theorem O0_fit : MkFit O0 := opnOf_fit _
end Go.Proofs.YtdghkmbppfmifaaGreatDoor.Ri

namespace Go.Proofs.YtdghkmbppfmifaaGreatDoor.Ri
open Go.Proofs.YtdghkmbppfmifaaGreatDoor.Fw
def itoaS (n : Int) : ByteArray := ⟨(Lib.itoa (IntKind.wrap .i64 n)).toArray⟩
def joinS (xs : List ByteArray) (s : ByteArray) : ByteArray := ⟨(Lib.join (xs.map (·.data.toList)) s.data.toList).toArray⟩
def itoaX (x : Int × Unit) : Option (ByteArray × Unit) := some (itoaS x.1, ())
def joinX (x : List ByteArray × ByteArray × Unit) : Option (ByteArray × Unit) := bif Nat.ble (joinS x.1 x.2.1).size 140737488355328 && Nat.ble x.1.length 140737488355328 then some (joinS x.1 x.2.1, ()) else none
end Go.Proofs.YtdghkmbppfmifaaGreatDoor.Ri

namespace Go.Proofs.YtdghkmbppfmifaaGreatDoor.Ri
open Go.Proofs.YtdghkmbppfmifaaGreatDoor.Fw
set_option maxRecDepth 100000
def annL : List (Nat × Nat × List Nat × List (Nat × Nat)) → Nat → Nat → Option An
  | [], _, _ => none
  | (f', p', l, n) :: r, f, p => bif Nat.beq f' f && Nat.beq p' p then some ⟨l, n⟩ else annL r f p
def sgL : List (Nat × Sig) → Nat → Sig
  | [], _ => ⟨[], []⟩
  | (k, x) :: r, t => bif Nat.beq k t then x else sgL r t
def vrL : List (Nat × Nat × Nat) → Nat → Nat → Nat
  | [], _, f => f
  | (a, b, v) :: r, g, f => bif Nat.beq a g && Nat.beq b f then v else vrL r g f
def lkN : List (Nat × Nat) → Nat → Nat
  | [], _ => 0
  | (a, v) :: r, i => bif Nat.beq a i then v else lkN r i
def hdL : List (Nat × Nat × List (Nat × Nat)) → Nat → Nat → Nat → Nat
  | [], _, _, _ => 0
  | (f, d, l) :: r, g, i, k => bif Nat.beq f g && Nat.beq d i then lkN l k else hdL r g i k
def bs0 (f : Nat) : Nat := f % 1000
def ocL : List (Nat × List Nat) → Nat → Nat → Bool
  | [], _, _ => false
  | (f, l) :: r, g, d => bif Nat.beq f g then memN d l else ocL r g d
def sgT : List (Nat × Sig) := [(3, ⟨[(22, .ro)], [(4, .own)]⟩),
  (6, ⟨[(22, .ro)], [(4, .own)]⟩),
  (7, ⟨[(22, .ro)], [(34, .ro)]⟩),
  (8, ⟨[(25, .ro)], [(32, .own)]⟩),
  (9, ⟨[(31, .ro)], [(32, .own)]⟩),
  (10, ⟨[(3, .ro)], [(9, .own)]⟩),
  (11, ⟨[(45, .ro)], [(9, .own)]⟩),
  (21, ⟨[(51, .ro)], [(9, .own)]⟩),
  (30, ⟨[(106, .pb)], [(34, .ro)]⟩),
  (31, ⟨[(22, .ro)], [(106, .nv)]⟩),
  (32, ⟨[(3, .ro)], [(9, .own)]⟩),
  (33, ⟨[(3, .ro), (3, .ro), (3, .ro)], [(4, .own)]⟩),
  (34, ⟨[(32, .ro), (9, .ro)], [(9, .own)]⟩),
  (41, ⟨[(3, .ro)], [(9, .own)]⟩),
  (42, ⟨[(9, .ro)], [(9, .own), (4, .own)]⟩),
  (62, ⟨[(103, .ro)], [(34, .ro), (40, .ro)]⟩),
  (63, ⟨[(106, .pb), (3, .ro)], [(103, .own)]⟩),
  (68, ⟨[], [(103, .own)]⟩),
  (69, ⟨[(106, .pb), (3, .ro)], [(3, .own)]⟩),
  (70, ⟨[(106, .pb)], [(121, .own)]⟩),
  (71, ⟨[(106, .pb), (3, .ro)], [(4, .own)]⟩),
  (72, ⟨[(106, .pb), (3, .ro)], [(9, .own)]⟩),
  (73, ⟨[(24, .ro), (9, .ro), (9, .ro)], [(24, .own)]⟩),
  (76, ⟨[(106, .pb), (43, .ro)], [(3, .own)]⟩),
  (79, ⟨[(3, .ro)], [(5, .own)]⟩),
  (85, ⟨[(24, .ro), (49, .ro)], [(24, .own), (40, .own), (42, .own)]⟩),
  (86, ⟨[(45, .ro)], [(49, .own)]⟩),
  (105, ⟨[], [(34, .ro)]⟩),
  (106, ⟨[(34, .ro), (121, .ro)], [(34, .ro), (170, .ro)]⟩),
  (110, ⟨[(106, .pb)], [(3, .own)]⟩),
  (111, ⟨[(106, .pb)], [(119, .own)]⟩),
  (112, ⟨[(9, .ro)], [(4, .own)]⟩),
  (116, ⟨[(32, .ro), (9, .ro)], [(32, .own)]⟩),
  (126, ⟨[(24, .ro), (3, .ro), (119, .ro)], [(24, .own), (170, .own), (42, .own)]⟩),
  (127, ⟨[(42, .ro), (42, .ro)], [(42, .own)]⟩),
  (146, ⟨[], [(24, .own)]⟩),
  (147, ⟨[(24, .ro)], [(30, .own)]⟩),
  (148, ⟨[(121, .ro)], [(4, .own)]⟩),
  (149, ⟨[(34, .ro)], [(34, .own)]⟩),
  (150, ⟨[(34, .ro)], [(34, .ro)]⟩),
  (151, ⟨[(34, .ro), (3, .ro), (119, .ro)], [(34, .ro), (170, .ro)]⟩),
  (152, ⟨[(34, .ro), (3, .ro), (119, .ro)], [(34, .ro), (170, .ro)]⟩),
  (153, ⟨[(34, .ro)], [(34, .ro)]⟩),
  (154, ⟨[(34, .ro)], [(34, .ro), (4, .ro)]⟩),
  (155, ⟨[(4, .ro), (3, .ro)], [(170, .own)]⟩),
  (156, ⟨[(34, .ro)], [(34, .ro), (4, .ro)]⟩),
  (157, ⟨[(34, .ro), (3, .ro)], [(34, .ro)]⟩),
  (158, ⟨[(34, .ro), (121, .ro)], [(34, .ro), (170, .ro)]⟩),
  (165, ⟨[(106, .pb), (32, .ro)], [(9, .own)]⟩),
  (166, ⟨[(119, .ro)], [(119, .own)]⟩),
  (167, ⟨[(3, .ro), (3, .ro), (3, .ro)], [(4, .own)]⟩),
  (169, ⟨[(32, .ro), (9, .ro)], [(32, .ro)]⟩),
  (174, ⟨[(160, .own), (3, .ro), (119, .ro)], [(160, .own), (170, .own)]⟩),
  (175, ⟨[(24, .ro)], [(160, .own)]⟩),
  (208, ⟨[(160, .own), (3, .ro)], [(160, .own), (3, .own), (3, .own)]⟩),
  (209, ⟨[(25, .ro)], [(25, .own)]⟩),
  (210, ⟨[(30, .ro)], [(30, .own)]⟩),
  (211, ⟨[(51, .ro)], [(51, .own)]⟩),
  (212, ⟨[(34, .ro)], [(4, .own)]⟩),
  (213, ⟨[(34, .ro), (3, .ro)], [(3, .own)]⟩),
  (214, ⟨[(25, .ro), (45, .ro), (42, .ro)], [(43, .own), (4, .own)]⟩),
  (215, ⟨[(24, .ro), (45, .ro), (119, .ro)], [(42, .own)]⟩),
  (216, ⟨[(25, .ro), (43, .ro)], [(25, .own)]⟩),
  (217, ⟨[(24, .ro), (45, .ro), (119, .ro)], [(45, .own), (170, .own)]⟩),
  (218, ⟨[(24, .ro), (45, .ro)], [(3, .own)]⟩),
  (219, ⟨[(25, .ro), (42, .ro), (3, .ro)], [(43, .own)]⟩),
  (220, ⟨[(24, .ro), (24, .ro)], [(24, .own)]⟩),
  (221, ⟨[(28, .ro), (25, .ro), (3, .ro)], [(4, .own)]⟩),
  (222, ⟨[(24, .ro)], [(3, .own)]⟩),
  (223, ⟨[(34, .ro), (24, .ro)], [(34, .own), (4, .own)]⟩),
  (224, ⟨[(28, .ro)], [(28, .own)]⟩),
  (225, ⟨[(24, .ro)], [(32, .own)]⟩),
  (226, ⟨[(30, .ro)], [(30, .own), (4, .own)]⟩),
  (227, ⟨[(30, .ro)], [(30, .own), (4, .own)]⟩),
  (228, ⟨[(30, .ro)], [(30, .own)]⟩),
  (229, ⟨[(30, .ro)], [(30, .own)]⟩),
  (230, ⟨[(30, .ro), (3, .ro)], [(30, .own)]⟩),
  (231, ⟨[(30, .ro)], [(24, .own), (3, .own)]⟩),
  (232, ⟨[(25, .ro)], [(43, .own)]⟩),
  (233, ⟨[(34, .ro), (3, .ro), (3, .ro)], [(34, .ro), (3, .ro), (3, .ro)]⟩),
  (234, ⟨[(34, .ro), (3, .ro)], [(34, .ro), (3, .ro), (3, .ro)]⟩),
  (235, ⟨[(34, .ro), (3, .ro)], [(34, .ro), (3, .ro)]⟩),
  (236, ⟨[(34, .ro), (3, .ro), (3, .ro)], [(34, .ro), (4, .ro)]⟩),
  (237, ⟨[(34, .ro), (3, .ro)], [(34, .ro), (4, .ro)]⟩),
  (238, ⟨[(34, .ro), (3, .ro)], [(34, .ro), (3, .ro)]⟩),
  (244, ⟨[(160, .own), (3, .ro)], [(160, .own), (3, .own)]⟩),
  (245, ⟨[(119, .ro)], [(4, .own)]⟩),
  (246, ⟨[(160, .own), (9, .ro)], [(160, .own), (3, .own), (3, .own)]⟩),
  (247, ⟨[(160, .own), (9, .ro), (9, .ro)], [(160, .own), (3, .own)]⟩),
  (248, ⟨[(160, .own), (9, .ro)], [(160, .own), (3, .own)]⟩),
  (249, ⟨[(160, .own), (9, .ro), (9, .ro)], [(160, .own), (3, .own)]⟩),
  (250, ⟨[(160, .own)], [(160, .own), (170, .own)]⟩),
  (251, ⟨[(160, .own), (119, .ro)], [(160, .own), (170, .own)]⟩),
  (252, ⟨[(160, .own)], [(160, .own), (3, .own), (3, .own)]⟩),
  (253, ⟨[(160, .own), (3, .ro), (9, .ro)], [(160, .own), (3, .own)]⟩),
  (254, ⟨[(160, .own), (3, .ro)], [(160, .own), (9, .own), (3, .own)]⟩),
  (255, ⟨[(160, .own), (3, .ro), (3, .ro)], [(160, .own), (3, .own)]⟩),
  (256, ⟨[(160, .own), (3, .ro)], [(160, .own), (3, .own), (3, .own)]⟩),
  (257, ⟨[(160, .own), (3, .ro), (3, .ro)], [(160, .own), (3, .own)]⟩),
  (258, ⟨[(160, .own), (3, .ro)], [(160, .own), (3, .own), (3, .own)]⟩),
  (259, ⟨[(160, .own), (3, .ro), (3, .ro), (9, .ro)], [(160, .own), (3, .own)]⟩),
  (260, ⟨[(160, .own), (3, .ro), (3, .ro)], [(160, .own), (9, .own), (3, .own)]⟩),
  (261, ⟨[(160, .own), (9, .ro)], [(160, .own), (3, .own)]⟩),
  (262, ⟨[(160, .own), (3, .ro), (119, .ro)], [(160, .own), (170, .own)]⟩),
  (287, ⟨[(160, .own), (9, .ro)], [(160, .own), (3, .own)]⟩),
  (288, ⟨[(160, .own), (9, .ro)], [(160, .own), (3, .own)]⟩),
  (289, ⟨[(160, .own), (9, .ro), (3, .ro)], [(160, .own)]⟩),
  (290, ⟨[(3, .ro), (9, .ro)], [(9, .own)]⟩),
  (291, ⟨[(45, .ro)], [(45, .own)]⟩),
  (292, ⟨[(25, .ro), (3, .ro)], [(3, .own)]⟩),
  (293, ⟨[(24, .ro)], [(4, .own)]⟩),
  (294, ⟨[(30, .ro)], [(4, .own)]⟩),
  (295, ⟨[(25, .ro)], [(4, .own)]⟩),
  (296, ⟨[(25, .ro), (43, .ro), (45, .ro)], [(4, .own)]⟩),
  (297, ⟨[(24, .ro), (45, .ro)], [(24, .own)]⟩),
  (298, ⟨[(43, .ro), (3, .ro)], [(4, .own)]⟩),
  (299, ⟨[(42, .ro), (42, .ro)], [(4, .own)]⟩),
  (300, ⟨[(24, .ro), (24, .ro)], [(32, .ro)]⟩),
  (301, ⟨[(24, .ro), (9, .ro)], [(9, .own)]⟩),
  (302, ⟨[(28, .ro), (3, .ro)], [(4, .own)]⟩),
  (303, ⟨[(3, .ro), (3, .ro), (3, .ro)], [(3, .own)]⟩),
  (304, ⟨[(25, .ro)], [(3, .own)]⟩),
  (305, ⟨[(3, .ro), (24, .ro)], [(9, .own)]⟩),
  (306, ⟨[(28, .ro), (9, .ro)], [(28, .own), (4, .own)]⟩),
  (307, ⟨[(28, .ro)], [(4, .own)]⟩),
  (308, ⟨[(9, .ro)], [(3, .own)]⟩),
  (309, ⟨[(9, .ro), (3, .ro), (9, .ro)], [(9, .own)]⟩),
  (310, ⟨[(9, .ro)], [(9, .own), (4, .own)]⟩),
  (311, ⟨[(30, .ro)], [(3, .own)]⟩),
  (312, ⟨[(30, .ro)], [(3, .own)]⟩),
  (313, ⟨[(9, .ro)], [(32, .own)]⟩),
  (314, ⟨[(9, .ro)], [(3, .own), (24, .own), (4, .own)]⟩),
  (315, ⟨[(9, .ro), (3, .ro)], [(354, .own), (3, .own)]⟩),
  (316, ⟨[(28, .ro), (3, .ro)], [(28, .own)]⟩),
  (317, ⟨[(24, .ro), (24, .ro)], [(24, .own)]⟩),
  (318, ⟨[(25, .ro)], [(4, .own)]⟩),
  (319, ⟨[(25, .ro)], [(3, .own)]⟩),
  (320, ⟨[(3, .ro), (3, .ro), (3, .ro)], [(45, .own)]⟩),
  (321, ⟨[(34, .ro), (3, .ro)], [(45, .own), (4, .own)]⟩),
  (322, ⟨[(45, .ro)], [(45, .own), (3, .own)]⟩),
  (323, ⟨[(45, .ro), (3, .ro)], [(45, .ro), (4, .ro)]⟩),
  (324, ⟨[(24, .ro), (45, .ro)], [(24, .own)]⟩),
  (327, ⟨[(9, .ro)], [(4, .own)]⟩),
  (328, ⟨[(160, .own), (9, .ro)], [(160, .own), (3, .own)]⟩),
  (329, ⟨[(160, .own), (9, .ro), (9, .ro)], [(160, .own)]⟩),
  (330, ⟨[(160, .own), (9, .ro)], [(160, .own)]⟩),
  (331, ⟨[(160, .own)], [(160, .own), (32, .own)]⟩),
  (332, ⟨[(160, .own), (3, .ro), (3, .ro), (3, .ro)], [(160, .own), (9, .own)]⟩),
  (333, ⟨[(160, .own), (3, .ro), (3, .ro), (9, .ro)], [(160, .own), (3, .own)]⟩),
  (334, ⟨[(160, .own), (3, .ro), (3, .ro)], [(160, .own), (3, .own)]⟩),
  (335, ⟨[(3, .ro), (9, .ro)], [(9, .own)]⟩),
  (336, ⟨[(160, .own), (3, .ro)], [(160, .own), (4, .own)]⟩),
  (337, ⟨[(3, .ro), (3, .ro)], [(9, .own)]⟩),
  (338, ⟨[(160, .own), (9, .ro)], [(160, .own), (9, .own)]⟩),
  (339, ⟨[(3, .ro), (9, .ro)], [(9, .own)]⟩),
  (340, ⟨[(3, .ro), (3, .ro)], [(9, .own)]⟩),
  (341, ⟨[(160, .own), (9, .ro)], [(160, .own), (32, .own)]⟩),
  (342, ⟨[(3, .ro)], [(9, .own)]⟩),
  (343, ⟨[(160, .own), (3, .ro), (3, .ro)], [(160, .own)]⟩),
  (344, ⟨[(160, .own), (3, .ro), (3, .ro)], [(160, .own), (3, .own)]⟩),
  (345, ⟨[(160, .own), (3, .ro)], [(160, .own)]⟩),
  (346, ⟨[(160, .own), (3, .ro), (3, .ro)], [(160, .own), (3, .own), (3, .own)]⟩),
  (347, ⟨[(160, .own), (3, .ro)], [(160, .own), (43, .own)]⟩),
  (358, ⟨[(45, .ro), (45, .ro)], [(4, .own)]⟩),
  (359, ⟨[(32, .ro), (32, .ro)], [(4, .own)]⟩),
  (360, ⟨[(9, .ro)], [(3, .own)]⟩),
  (361, ⟨[(9, .ro)], [(3, .own), (4, .own)]⟩),
  (362, ⟨[(5, .ro)], [(3, .own)]⟩),
  (363, ⟨[(9, .ro), (5, .ro)], [(32, .own)]⟩),
  (364, ⟨[(24, .ro), (24, .ro), (42, .ro)], [(24, .own)]⟩),
  (365, ⟨[(160, .own), (3, .ro)], [(160, .own), (3, .own)]⟩),
  (366, ⟨[(160, .own), (3, .ro), (3, .ro)], [(160, .own), (9, .own)]⟩),
  (367, ⟨[(160, .own), (3, .ro), (3, .ro), (9, .ro)], [(160, .own)]⟩),
  (368, ⟨[(3, .ro), (3, .ro)], [(9, .own)]⟩),
  (369, ⟨[(24, .ro), (9, .ro)], [(32, .own)]⟩),
  (384, ⟨[(9, .ro), (9, .ro)], [(4, .own)]⟩),
  (385, ⟨[(9, .ro), (9, .ro)], [(4, .own)]⟩),
  (396, ⟨[(9, .ro)], [(9, .own), (4, .own)]⟩),
  (397, ⟨[(9, .ro), (9, .ro)], [(4, .own)]⟩),
  (1229, ⟨[(30, .ro)], [(30, .fl)]⟩)]
def anT : List (Nat × Nat × List Nat × List (Nat × Nat)) := [(3, 127, [3, 4, 5], []),
  (3, 1012, [3, 4, 5, 6], []),
  (8, 15, [3], []),
  (8, 116, [3, 6, 7, 8], []),
  (9, 15, [3], []),
  (9, 116, [3, 6, 7, 8], []),
  (11, 15, [1, 3], []),
  (21, 15, [1, 3], []),
  (21, 63, [4], []),
  (31, 15, [0, 3], []),
  (31, 116, [0, 3, 4], []),
  (41, 63, [3, 4], []),
  (41, 248, [0, 3, 4], []),
  (41, 3979, [0, 3, 4, 5], []),
  (42, 31, [4], []),
  (42, 244, [0, 4, 5], []),
  (62, 31, [2, 4, 5], []),
  (62, 244, [0, 2, 4, 5, 6], []),
  (63, 15, [0, 1, 5], []),
  (63, 31, [0, 5], []),
  (63, 244, [0, 1, 5, 6], []),
  (70, 117, [0, 2, 3, 8, 9], []),
  (70, 30207, [0, 2, 3, 8, 29], []),
  (70, 120831, [0, 2, 3, 8, 35], []),
  (72, 7, [0, 1], []),
  (72, 31, [0, 5], []),
  (72, 244, [0, 1, 5, 6], []),
  (73, 63, [1, 2, 7, 8], []),
  (73, 127, [7], []),
  (73, 500, [0, 1, 2, 7, 8, 9], []),
  (73, 2003, [0, 1, 2, 7, 8, 9], []),
  (73, 8009, [0, 1, 2, 7, 8, 9], []),
  (85, 63, [0, 6, 7, 8], []),
  (85, 500, [0, 1, 6, 7, 8, 9], []),
  (86, 15, [3], []),
  (86, 116, [1, 3, 4], []),
  (110, 31, [0, 3], []),
  (111, 511, [0, 2, 3], []),
  (112, 7, [0], []),
  (112, 52, [0, 3], []),
  (127, 15, [3, 4, 5], []),
  (127, 31, [4, 5], []),
  (127, 116, [3, 4, 5, 6], []),
  (127, 244, [3, 4, 5, 7], []),
  (149, 127, [1, 2, 3], []),
  (149, 1012, [1, 2, 3, 4], []),
  (157, 255, [2, 4], []),
  (157, 2036, [2, 4, 5], []),
  (158, 31, [2, 4, 5, 6], []),
  (166, 15, [1, 2, 3], []),
  (166, 31, [2, 3], []),
  (166, 117, [1, 2, 3, 9], []),
  (166, 245, [1, 2, 3, 21, 22], []),
  (166, 983, [1, 2, 3, 21, 28], []),
  (166, 3935, [1, 2, 3, 21, 37], []),
  (166, 15743, [1, 2, 3, 21, 48], []),
  (169, 15, [0, 1, 5], []),
  (169, 56, [0, 1, 5], []),
  (174, 127, [3, 6, 7, 9], []),
  (174, 1038335, [1, 3, 5, 6, 7, 9, 27, 86], []),
  (209, 15, [3], []),
  (209, 116, [0, 3, 4], []),
  (210, 15, [2, 3], []),
  (210, 116, [1, 2, 3, 4], []),
  (212, 7, [1], []),
  (212, 52, [1, 3], []),
  (213, 7, [], []),
  (213, 52, [1, 2, 5], []),
  (216, 15, [5], []),
  (216, 116, [1, 5, 6], []),
  (216, 467, [1, 5, 6], []),
  (219, 15, [7], []),
  (219, 116, [0, 2, 4, 7, 8], []),
  (219, 467, [0, 2, 4, 7, 8], []),
  (220, 31, [5], []),
  (220, 244, [1, 5, 6, 7], []),
  (224, 7, [1, 2], []),
  (225, 31, [3], []),
  (225, 244, [0, 3, 4, 5], []),
  (225, 15655, [0, 3, 4, 5, 7], []),
  (228, 255, [1, 2, 5], []),
  (228, 2036, [1, 2, 3, 4, 5, 6], []),
  (230, 63, [2, 4], []),
  (230, 500, [2, 4, 5], []),
  (230, 2003, [2, 4, 5], []),
  (231, 127, [4, 5, 6], []),
  (231, 1012, [4, 5, 6, 8], []),
  (232, 15, [3], []),
  (232, 116, [0, 3, 4], []),
  (232, 467, [0, 3, 4], []),
  (233, 31, [1, 2, 3, 6], []),
  (233, 63, [1, 2, 3, 6], []),
  (233, 244, [1, 2, 3, 6, 9], []),
  (249, 255, [1, 2, 3, 6, 8], []),
  (250, 31, [1, 2, 3, 5], []),
  (250, 244, [1, 2, 3, 4, 5, 6], []),
  (251, 63, [2, 4, 5, 7], []),
  (254, 1023, [1, 2, 4, 8, 11], []),
  (258, 511, [2, 4, 9], []),
  (258, 4084, [1, 2, 4, 7, 8, 9, 10], []),
  (258, 16339, [1, 2, 4, 7, 8, 9, 10], []),
  (260, 63, [3, 6, 10], []),
  (262, 15, [3, 6, 7, 8], []),
  (262, 120828, [3, 6, 7, 8, 9, 10], []),
  (292, 7, [], []),
  (292, 52, [0, 1, 5], []),
  (293, 7, [0], []),
  (293, 52, [0, 3], []),
  (294, 7, [1], []),
  (294, 52, [1, 3], []),
  (295, 7, [], []),
  (295, 52, [0, 3], []),
  (295, 211, [0, 3], []),
  (295, 3364, [0, 3, 4], []),
  (296, 7, [], []),
  (296, 52, [0, 1, 5, 7], []),
  (298, 7, [], []),
  (298, 52, [0, 1, 5], []),
  (300, 15, [5], []),
  (300, 116, [0, 1, 5, 6], []),
  (300, 467, [0, 1, 5, 6], []),
  (300, 3731, [0, 1, 5, 6, 7], []),
  (301, 7, [], []),
  (301, 52, [0, 1, 5], []),
  (305, 31, [5], []),
  (305, 244, [1, 5, 6], []),
  (310, 31, [4], []),
  (310, 244, [0, 4, 5], []),
  (311, 15, [3], []),
  (311, 116, [1, 3, 4], []),
  (311, 467, [1, 3, 4], []),
  (313, 31, [3], []),
  (313, 244, [0, 3, 4, 5], []),
  (313, 979, [0, 3, 4, 5], []),
  (314, 255, [0, 5, 7, 8, 9], []),
  (314, 2036, [0, 5, 6, 7, 8, 9, 10], []),
  (315, 127, [6, 8], []),
  (315, 1012, [1, 6, 7, 8, 9], []),
  (315, 64807, [1, 6, 7, 8, 9], []),
  (317, 15, [0], []),
  (317, 116, [0, 1, 5], []),
  (319, 15, [3], []),
  (319, 116, [0, 3, 4], []),
  (319, 467, [0, 3, 4], []),
  (327, 7, [0], []),
  (327, 52, [0, 3], []),
  (330, 15, [2, 4], []),
  (330, 116, [2, 4, 5, 6], []),
  (331, 31, [1, 2, 5], []),
  (331, 244, [1, 2, 4, 5, 6], []),
  (332, 63, [1, 2, 4, 8, 11], []),
  (332, 255, [4, 8, 12], []),
  (332, 2036, [1, 2, 4, 8, 11, 12, 13], []),
  (332, 8147, [1, 2, 4, 8, 11, 12, 13], []),
  (332, 521372, [1, 2, 4, 8, 11, 12, 13, 14, 15], []),
  (332, 2085491, [1, 2, 4, 8, 11, 12, 13, 14, 15], []),
  (333, 127, [1, 4, 8, 10, 11], []),
  (333, 255, [4, 8], []),
  (333, 1012, [1, 2, 3, 4, 8, 10, 11, 12], []),
  (333, 4051, [1, 2, 3, 4, 8, 10, 11, 12], []),
  (333, 129615, [1, 2, 3, 4, 8, 10, 11, 12, 14], []),
  (333, 1036916, [1, 2, 3, 4, 8, 10, 11, 12, 14, 15], []),
  (333, 4147667, [1, 2, 3, 4, 8, 10, 11, 12, 14, 15], []),
  (333, 66362663, [1, 2, 3, 4, 8, 10, 11, 12, 14, 15, 16], []),
  (333, 265450648, [1, 2, 3, 4, 8, 10, 11, 12, 14, 15, 16], []),
  (334, 63, [1, 2, 3, 6, 8, 9], []),
  (334, 127, [1, 2, 3, 6], []),
  (334, 504, [1, 2, 3, 6, 8, 9], []),
  (343, 15, [3, 6], []),
  (343, 116, [1, 2, 3, 6, 7, 8], []),
  (347, 31, [2, 4, 7], []),
  (347, 244, [1, 2, 4, 6, 7, 8], []),
  (347, 979, [1, 2, 4, 6, 7, 8], []),
  (359, 7, [], []),
  (359, 52, [0, 1, 5], []),
  (359, 211, [0, 1, 5], []),
  (359, 3364, [0, 1, 5, 6], []),
  (360, 15, [3], []),
  (360, 116, [0, 3, 4], []),
  (361, 31, [0, 4], []),
  (361, 244, [0, 4, 5], []),
  (363, 31, [5], []),
  (363, 244, [0, 1, 5, 6, 7], []),
  (363, 979, [0, 1, 5, 6, 7], []),
  (364, 15, [7], []),
  (364, 116, [1, 5, 7, 8], []),
  (369, 15, [5], []),
  (369, 116, [0, 1, 5, 6], []),
  (369, 467, [0, 1, 5, 6], [])]
def isx0 (f : Nat) : Bool := Nat.beq f 32 || Nat.beq f 34
noncomputable def xt0 : ∀ f, HL τ0 ((sgL sgT f).ps.map (·.1)) → Option (HL τ0 ((sgL sgT f).outs.map (·.1)))
  | 32 => itoaX
  | 34 => joinX
  | _ => fun _ => none
noncomputable def Z0 : Lw τ0 := ⟨O0, ti, zr, sgL sgT, fun f => annL anT (bs0 f), fun f => ocL [] (bs0 f), fun f => hdL [(151, 17, [(1, 4294967296)]), (126, 2, [(4, 4294967296)]), (152, 16, [(1, 4294967296)]), (217, 10, [(1, 4294967296)]), (322, 5, [(2, 65536), (3, 65536)]), (332, 19, [(2, 16)]), (174, 43, [(1, 16)]), (251, 11, [(1, 16)]), (250, 7, [(1, 16)]), (262, 19, [(1, 16)]), (158, 17, [(1, 2)])] (bs0 f), fun f => vrL [(226, 229, 1229)] (bs0 f), bs0, isx0, xt0⟩
noncomputable def F0 : Nat → Option Fx := fun f => fxOf Tryz.prog (bs0 f)
end Go.Proofs.YtdghkmbppfmifaaGreatDoor.Ri

namespace Go.Proofs.YtdghkmbppfmifaaGreatDoor.Ri
open Go.Proofs.YtdghkmbppfmifaaGreatDoor.Fw
open Go.RowKit
set_option linter.unusedVariables false
set_option maxRecDepth 100000
def gd {α : Type} (c : Bool) (k : Option α) : Option α := bif c then k else none
def ng {α : Type} (c : Bool) (k : Option α) : Option α := bif c then none else k
def tx (l : List UInt8) : ByteArray := ⟨l.toArray⟩
noncomputable def Dn (f : Nat) (x : InT τ0 (Z0.sg f)) : Option (OutT τ0 (Z0.sg f)) := Den Z0 F0 f x
noncomputable def Ln (f p : Nat) (s : Sx τ0 × Nat) : Option (OutT τ0 (Z0.sg f)) := Run Z0 F0 f p s.1 s.2
noncomputable def DE (f : Nat) (x : InT τ0 (Z0.sg f)) : Option (OutT τ0 (Z0.sg f)) := begF Z0 F0 (fun f p σ nx => runF Z0 F0 (Den Z0 F0) (Run Z0 F0) f p σ nx) f x
noncomputable def LE (f p : Nat) (s : Sx τ0 × Nat) : Option (OutT τ0 (Z0.sg f)) := runF Z0 F0 (Den Z0 F0) (Run Z0 F0) f p s.1 s.2
theorem Dn_eq (f : Nat) (x : InT τ0 (Z0.sg f)) : Dn f x = DE f x := Den_eq Z0 F0 f x
theorem Ln_eq (f p : Nat) (s : Sx τ0 × Nat) : Ln f p s = LE f p s := Run_eq' Z0 F0 f p s.1 s.2
noncomputable def D5 (x0 : (List UInt8)) : Option (Bool × Unit) := Dn 6 (x0, ())
noncomputable def D21 (x0 : (List UInt8)) : Option (Fw.Kernel × Unit) := Dn 7 (x0, ())
noncomputable def D23 (x0 : Int) (x1 : Int) (x2 : Int) : Option (Bool × Unit) := Dn 33 (x0, x1, x2, ())
noncomputable def D25 (x0 : (List UInt8)) : Option (L01Cur × Unit) := Dn 31 (x0, ())
noncomputable def D26 (x0 : L01Cur) (x1 : Int) : Option (Int × L01Cur × Unit) := Dn 69 (x0, x1, ())
noncomputable def D27 (x0 : Int) (x1 : Int) (x2 : Int) : Option (Bool × Unit) := Dn 167 (x0, x1, x2, ())
noncomputable def D28 (x0 : L01Cur) : Option (Fw.Kernel × L01Cur × Unit) := Dn 30 (x0, ())
noncomputable def D29 (x0 : L01Cur) (x1 : Int) : Option (Bool × L01Cur × Unit) := Dn 71 (x0, x1, ())
noncomputable def D30 (x0 : L01Cur) : Option (Int × L01Cur × Unit) := Dn 110 (x0, ())
noncomputable def D31 (x0 : (List Fw.Deed)) : Option (Fw.Kernel × (List Fw.Answer) × Unit) := Dn 62 (x0, ())
noncomputable def D32 (x0 : L01Cur) (x1 : Int) : Option ((List Fw.Deed) × L01Cur × Unit) := Dn 63 (x0, x1, ())
noncomputable def D33  : Option (Fw.Kernel × Unit) := Dn 105 (())
noncomputable def D34 (x0 : Fw.Kernel) (x1 : Fw.Deed) : Option (Fw.Kernel × Fw.Answer × Unit) := Dn 106 (x0, x1, ())
noncomputable def D35  : Option ((List Fw.Deed) × Unit) := Dn 68 (())
noncomputable def D36 (x0 : L01Cur) : Option (Fw.Deed × L01Cur × Unit) := Dn 70 (x0, ())
noncomputable def D37  : Option ((List Fw.Cell) × Unit) := Dn 146 (())
noncomputable def D38 (x0 : (List Fw.Cell)) : Option (Fw.Disk × Unit) := Dn 147 (x0, ())
noncomputable def D39 (x0 : Fw.Deed) : Option (Bool × Unit) := Dn 148 (x0, ())
noncomputable def D40 (x0 : Fw.Kernel) : Option (Fw.Kernel × Unit) := Dn 149 (x0, ())
noncomputable def D41 (x0 : Fw.Kernel) : Option (Fw.Kernel × Unit) := Dn 150 (x0, ())
noncomputable def D42 (x0 : Fw.Kernel) (x1 : Int) (x2 : Fw.Call) : Option (Fw.Kernel × Fw.Answer × Unit) := Dn 151 (x0, x1, x2, ())
noncomputable def D43 (x0 : Fw.Kernel) (x1 : Int) (x2 : Fw.Call) : Option (Fw.Kernel × Fw.Answer × Unit) := Dn 152 (x0, x1, x2, ())
noncomputable def D44 (x0 : Fw.Kernel) : Option (Fw.Kernel × Unit) := Dn 153 (x0, ())
noncomputable def D45 (x0 : Fw.Kernel) : Option (Fw.Kernel × Bool × Unit) := Dn 154 (x0, ())
noncomputable def D46 (x0 : Bool) (x1 : Int) : Option (Fw.Answer × Unit) := Dn 155 (x0, x1, ())
noncomputable def D47 (x0 : Fw.Kernel) : Option (Fw.Kernel × Bool × Unit) := Dn 156 (x0, ())
noncomputable def D48 (x0 : Fw.Kernel) (x1 : Int) : Option (Fw.Kernel × Unit) := Dn 157 (x0, x1, ())
noncomputable def D49 (x0 : Fw.Kernel) (x1 : Fw.Deed) : Option (Fw.Kernel × Fw.Answer × Unit) := Dn 158 (x0, x1, ())
noncomputable def D50 (x0 : L01Cur) : Option (Fw.Call × L01Cur × Unit) := Dn 111 (x0, ())
noncomputable def D51 (x0 : L01Cur) (x1 : (List Int)) : Option (Int × L01Cur × Unit) := Dn 76 (x0, x1, ())
noncomputable def D52 (x0 : Fw.Mach) (x1 : Int) : Option (Fw.Mach × Int × Int × Unit) := Dn 208 (x0, x1, ())
noncomputable def D53 (x0 : (List Fw.Cell)) : Option (Fw.Mach × Unit) := Dn 175 (x0, ())
noncomputable def D54 (x0 : (List Fw.Tx)) : Option ((List Fw.Tx) × Unit) := Dn 209 (x0, ())
noncomputable def D55 (x0 : Fw.Disk) : Option (Fw.Disk × Unit) := Dn 210 (x0, ())
noncomputable def D56 (x0 : Fw.Entry) : Option (Fw.Entry × Unit) := Dn 211 (x0, ())
noncomputable def D57 (x0 : Fw.Kernel) : Option (Bool × Unit) := Dn 212 (x0, ())
noncomputable def D58 (x0 : Fw.Kernel) (x1 : Int) : Option (Int × Unit) := Dn 213 (x0, x1, ())
noncomputable def D59 (x0 : (List Fw.Tx)) (x1 : Fw.Tx) (x2 : Fw.Touch) : Option ((List Int) × Bool × Unit) := Dn 214 (x0, x1, x2, ())
noncomputable def D60 (x0 : (List Fw.Cell)) (x1 : Fw.Tx) (x2 : Fw.Call) : Option (Fw.Touch × Unit) := Dn 215 (x0, x1, x2, ())
noncomputable def D61 (x0 : (List Fw.Tx)) (x1 : (List Int)) : Option ((List Fw.Tx) × Unit) := Dn 216 (x0, x1, ())
noncomputable def D62 (x0 : (List Fw.Cell)) (x1 : Fw.Tx) (x2 : Fw.Call) : Option (Fw.Tx × Fw.Answer × Unit) := Dn 217 (x0, x1, x2, ())
noncomputable def D63 (x0 : (List Fw.Cell)) (x1 : Fw.Tx) : Option (Int × Unit) := Dn 218 (x0, x1, ())
noncomputable def D64 (x0 : (List Fw.Cell)) (x1 : Int) (x2 : Fw.Call) : Option ((List Fw.Cell) × Fw.Answer × Fw.Touch × Unit) := Dn 126 (x0, x1, x2, ())
noncomputable def D65 (x0 : (List Fw.Tx)) (x1 : Fw.Touch) (x2 : Int) : Option ((List Int) × Unit) := Dn 219 (x0, x1, x2, ())
noncomputable def D66 (x0 : (List Fw.Cell)) (x1 : (List Fw.Cell)) : Option ((List Fw.Cell) × Unit) := Dn 220 (x0, x1, ())
noncomputable def D67 (x0 : Fw.Journal) (x1 : (List Fw.Tx)) (x2 : Int) : Option (Bool × Unit) := Dn 221 (x0, x1, x2, ())
noncomputable def D68 (x0 : (List Fw.Cell)) : Option (Int × Unit) := Dn 222 (x0, ())
noncomputable def D69 (x0 : Fw.Kernel) (x1 : (List Fw.Cell)) : Option (Fw.Kernel × Bool × Unit) := Dn 223 (x0, x1, ())
noncomputable def D70 (x0 : Fw.Journal) : Option (Fw.Journal × Unit) := Dn 224 (x0, ())
noncomputable def D71 (x0 : (List Fw.Cell)) : Option ((List ByteArray) × Unit) := Dn 225 (x0, ())
noncomputable def D72 (x0 : Fw.Disk) : Option (Fw.Disk × Bool × Unit) := Dn 226 (x0, ())
noncomputable def D73 (x0 : Fw.Disk) : Option (Fw.Disk × Bool × Unit) := Dn 227 (x0, ())
noncomputable def D74 (x0 : Fw.Disk) : Option (Fw.Disk × Unit) := Dn 228 (x0, ())
noncomputable def D75 (x0 : Fw.Disk) : Option (Fw.Disk × Unit) := Dn 229 (x0, ())
noncomputable def D76 (x0 : Fw.Disk) (x1 : Int) : Option (Fw.Disk × Unit) := Dn 230 (x0, x1, ())
noncomputable def D77 (x0 : Fw.Disk) : Option ((List Fw.Cell) × Int × Unit) := Dn 231 (x0, ())
noncomputable def D78 (x0 : (List Fw.Tx)) : Option ((List Int) × Unit) := Dn 232 (x0, ())
noncomputable def D79 (x0 : Fw.Kernel) (x1 : Int) (x2 : Int) : Option (Fw.Kernel × Int × Int × Unit) := Dn 233 (x0, x1, x2, ())
noncomputable def D80 (x0 : Fw.Kernel) (x1 : Int) : Option (Fw.Kernel × Int × Int × Unit) := Dn 234 (x0, x1, ())
noncomputable def D81 (x0 : Fw.Kernel) (x1 : Int) : Option (Fw.Kernel × Int × Unit) := Dn 235 (x0, x1, ())
noncomputable def D82 (x0 : Fw.Kernel) (x1 : Int) (x2 : Int) : Option (Fw.Kernel × Bool × Unit) := Dn 236 (x0, x1, x2, ())
noncomputable def D83 (x0 : Fw.Kernel) (x1 : Int) : Option (Fw.Kernel × Bool × Unit) := Dn 237 (x0, x1, ())
noncomputable def D84 (x0 : Fw.Kernel) (x1 : Int) : Option (Fw.Kernel × Int × Unit) := Dn 238 (x0, x1, ())
noncomputable def D85 (x0 : L01Cur) (x1 : (List ByteArray)) : Option (ByteArray × L01Cur × Unit) := Dn 165 (x0, x1, ())
noncomputable def D86 (x0 : L01Cur) (x1 : Int) : Option (ByteArray × L01Cur × Unit) := Dn 72 (x0, x1, ())
noncomputable def D87 (x0 : Fw.Call) : Option (Fw.Call × Unit) := Dn 166 (x0, ())
noncomputable def D88 (x0 : Fw.Mach) (x1 : ByteArray) : Option (Fw.Mach × Int × Unit) := Dn 287 (x0, x1, ())
noncomputable def D89 (x0 : Fw.Mach) (x1 : ByteArray) : Option (Fw.Mach × Int × Unit) := Dn 288 (x0, x1, ())
noncomputable def D90 (x0 : Fw.Mach) (x1 : ByteArray) (x2 : Int) : Option (Fw.Mach × Unit) := Dn 289 (x0, x1, x2, ())
noncomputable def D91 (x0 : Int) (x1 : ByteArray) : Option (ByteArray × Unit) := Dn 290 (x0, x1, ())
noncomputable def D92 (x0 : Fw.Tx) : Option (Fw.Tx × Unit) := Dn 291 (x0, ())
noncomputable def D93 (x0 : (List Fw.Tx)) (x1 : Int) : Option (Int × Unit) := Dn 292 (x0, x1, ())
noncomputable def D94 (x0 : (List Fw.Cell)) : Option (Bool × Unit) := Dn 293 (x0, ())
noncomputable def D95 (x0 : Fw.Disk) : Option (Bool × Unit) := Dn 294 (x0, ())
noncomputable def D96 (x0 : (List Fw.Tx)) : Option (Bool × Unit) := Dn 295 (x0, ())
noncomputable def D97 (x0 : (List Fw.Tx)) (x1 : (List Int)) (x2 : Fw.Tx) : Option (Bool × Unit) := Dn 296 (x0, x1, x2, ())
noncomputable def D98 (x0 : (List Fw.Cell)) (x1 : Fw.Tx) : Option ((List Fw.Cell) × Unit) := Dn 297 (x0, x1, ())
noncomputable def D99 (x0 : (List Int)) (x1 : Int) : Option (Bool × Unit) := Dn 298 (x0, x1, ())
noncomputable def D100 (x0 : Fw.Touch) (x1 : Fw.Touch) : Option (Fw.Touch × Unit) := Dn 127 (x0, x1, ())
noncomputable def D101 (x0 : Fw.Mach) (x1 : Int) (x2 : Fw.Call) : Option (Fw.Mach × Fw.Answer × Unit) := Dn 174 (x0, x1, x2, ())
noncomputable def D102 (x0 : Fw.Touch) (x1 : Fw.Touch) : Option (Bool × Unit) := Dn 299 (x0, x1, ())
noncomputable def D103 (x0 : (List Fw.Cell)) (x1 : (List Fw.Cell)) : Option ((List ByteArray) × Unit) := Dn 300 (x0, x1, ())
noncomputable def D104 (x0 : (List Fw.Cell)) (x1 : ByteArray) : Option (ByteArray × Unit) := Dn 301 (x0, x1, ())
noncomputable def D105 (x0 : Fw.Journal) (x1 : Int) : Option (Bool × Unit) := Dn 302 (x0, x1, ())
noncomputable def D106 (x0 : Int) (x1 : Int) (x2 : Int) : Option (Int × Unit) := Dn 303 (x0, x1, x2, ())
noncomputable def D107 (x0 : (List Fw.Tx)) : Option (Int × Unit) := Dn 304 (x0, ())
noncomputable def D108 (x0 : Int) (x1 : (List Fw.Cell)) : Option (ByteArray × Unit) := Dn 305 (x0, x1, ())
noncomputable def D109 (x0 : Fw.Journal) (x1 : ByteArray) : Option (Fw.Journal × Bool × Unit) := Dn 306 (x0, x1, ())
noncomputable def D110 (x0 : Fw.Journal) : Option (Bool × Unit) := Dn 307 (x0, ())
noncomputable def D111 (x0 : ByteArray) : Option (Int × Unit) := Dn 308 (x0, ())
noncomputable def D112 (x0 : ByteArray) (x1 : Int) (x2 : ByteArray) : Option (ByteArray × Unit) := Dn 309 (x0, x1, x2, ())
noncomputable def D113 (x0 : ByteArray) : Option (ByteArray × Bool × Unit) := Dn 310 (x0, ())
noncomputable def D114 (x0 : Fw.Disk) : Option (Int × Unit) := Dn 311 (x0, ())
noncomputable def D115 (x0 : Fw.Disk) : Option (Int × Unit) := Dn 312 (x0, ())
noncomputable def D116 (x0 : ByteArray) : Option ((List ByteArray) × Unit) := Dn 313 (x0, ())
noncomputable def D117 (x0 : ByteArray) : Option (Int × (List Fw.Cell) × Bool × Unit) := Dn 314 (x0, ())
noncomputable def D118 (x0 : ByteArray) (x1 : Int) : Option ((List (List Fw.Cell)) × Int × Unit) := Dn 315 (x0, x1, ())
noncomputable def D119 (x0 : Fw.Journal) (x1 : Int) : Option (Fw.Journal × Unit) := Dn 316 (x0, x1, ())
noncomputable def D120 (x0 : (List Fw.Cell)) (x1 : (List Fw.Cell)) : Option ((List Fw.Cell) × Unit) := Dn 317 (x0, x1, ())
noncomputable def D121 (x0 : (List Fw.Tx)) : Option (Bool × Unit) := Dn 318 (x0, ())
noncomputable def D122 (x0 : Int) : Option (ByteArray × Unit) := Dn 41 (x0, ())
noncomputable def D123 (x0 : (List Fw.Tx)) : Option (Int × Unit) := Dn 319 (x0, ())
noncomputable def D124 (x0 : Int) (x1 : Int) (x2 : Int) : Option (Fw.Tx × Unit) := Dn 320 (x0, x1, x2, ())
noncomputable def D125 (x0 : Fw.Kernel) (x1 : Int) : Option (Fw.Tx × Bool × Unit) := Dn 321 (x0, x1, ())
noncomputable def D126 (x0 : Fw.Tx) : Option (Fw.Tx × Int × Unit) := Dn 322 (x0, ())
noncomputable def D127 (x0 : Fw.Tx) (x1 : Int) : Option (Fw.Tx × Bool × Unit) := Dn 323 (x0, x1, ())
noncomputable def D128 (x0 : (List Fw.Cell)) (x1 : Fw.Tx) : Option ((List Fw.Cell) × Unit) := Dn 324 (x0, x1, ())
noncomputable def D129 (x0 : Fw.Tx) : Option ((List Fw.Step) × Unit) := Dn 86 (x0, ())
noncomputable def D130 (x0 : Fw.Mach) (x1 : ByteArray) : Option (Fw.Mach × ByteArray × Unit) := Dn 338 (x0, x1, ())
noncomputable def D131 (x0 : Fw.Mach) (x1 : ByteArray) (x2 : ByteArray) : Option (Fw.Mach × Unit) := Dn 329 (x0, x1, x2, ())
noncomputable def D132 (x0 : ByteArray) : Option (Bool × Unit) := Dn 112 (x0, ())
noncomputable def D133 (x0 : Fw.Tx) (x1 : Fw.Tx) : Option (Bool × Unit) := Dn 358 (x0, x1, ())
noncomputable def D134 (x0 : (List Fw.Cell)) (x1 : (List Fw.Step)) : Option ((List Fw.Cell) × (List Fw.Answer) × Fw.Touch × Unit) := Dn 85 (x0, x1, ())
noncomputable def D135 (x0 : (List ByteArray)) (x1 : ByteArray) : Option ((List ByteArray) × Unit) := Dn 116 (x0, x1, ())
noncomputable def D136 (x0 : Fw.Mach) (x1 : Int) : Option (Fw.Mach × Int × Unit) := Dn 244 (x0, x1, ())
noncomputable def D137 (x0 : Fw.Call) : Option (Bool × Unit) := Dn 245 (x0, ())
noncomputable def D138 (x0 : Fw.Mach) (x1 : ByteArray) : Option (Fw.Mach × Int × Int × Unit) := Dn 246 (x0, x1, ())
noncomputable def D139 (x0 : Fw.Mach) (x1 : ByteArray) (x2 : ByteArray) : Option (Fw.Mach × Int × Unit) := Dn 247 (x0, x1, x2, ())
noncomputable def D140 (x0 : Fw.Mach) (x1 : ByteArray) : Option (Fw.Mach × Int × Unit) := Dn 248 (x0, x1, ())
noncomputable def D141 (x0 : Fw.Mach) (x1 : ByteArray) (x2 : ByteArray) : Option (Fw.Mach × Int × Unit) := Dn 249 (x0, x1, x2, ())
noncomputable def D142 (x0 : Fw.Mach) : Option (Fw.Mach × Fw.Answer × Unit) := Dn 250 (x0, ())
noncomputable def D143 (x0 : Fw.Mach) (x1 : Fw.Call) : Option (Fw.Mach × Fw.Answer × Unit) := Dn 251 (x0, x1, ())
noncomputable def D144 (x0 : Fw.Mach) : Option (Fw.Mach × Int × Int × Unit) := Dn 252 (x0, ())
noncomputable def D145 (x0 : Fw.Mach) (x1 : Int) (x2 : ByteArray) : Option (Fw.Mach × Int × Unit) := Dn 253 (x0, x1, x2, ())
noncomputable def D146 (x0 : Fw.Mach) (x1 : Int) : Option (Fw.Mach × ByteArray × Int × Unit) := Dn 254 (x0, x1, ())
noncomputable def D147 (x0 : Fw.Mach) (x1 : Int) (x2 : Int) : Option (Fw.Mach × Int × Unit) := Dn 255 (x0, x1, x2, ())
noncomputable def D148 (x0 : Fw.Mach) (x1 : Int) : Option (Fw.Mach × Int × Int × Unit) := Dn 256 (x0, x1, ())
noncomputable def D149 (x0 : Fw.Mach) (x1 : Int) (x2 : Int) : Option (Fw.Mach × Int × Unit) := Dn 257 (x0, x1, x2, ())
noncomputable def D150 (x0 : Fw.Mach) (x1 : Int) : Option (Fw.Mach × Int × Int × Unit) := Dn 258 (x0, x1, ())
noncomputable def D151 (x0 : Fw.Mach) (x1 : Int) (x2 : Int) (x3 : ByteArray) : Option (Fw.Mach × Int × Unit) := Dn 259 (x0, x1, x2, x3, ())
noncomputable def D152 (x0 : Fw.Mach) (x1 : Int) (x2 : Int) : Option (Fw.Mach × ByteArray × Int × Unit) := Dn 260 (x0, x1, x2, ())
noncomputable def D153 (x0 : Fw.Mach) (x1 : ByteArray) : Option (Fw.Mach × Int × Unit) := Dn 261 (x0, x1, ())
noncomputable def D154 (x0 : Fw.Mach) (x1 : Int) (x2 : Fw.Call) : Option (Fw.Mach × Fw.Answer × Unit) := Dn 262 (x0, x1, x2, ())
noncomputable def D155 (x0 : (List ByteArray)) (x1 : (List ByteArray)) : Option (Bool × Unit) := Dn 359 (x0, x1, ())
noncomputable def D156 (x0 : (List ByteArray)) (x1 : ByteArray) : Option ((List ByteArray) × Unit) := Dn 169 (x0, x1, ())
noncomputable def D157 (x0 : ByteArray) : Option (ByteArray × Bool × Unit) := Dn 42 (x0, ())
noncomputable def D158 (x0 : ByteArray) : Option (Int × Unit) := Dn 360 (x0, ())
noncomputable def D159 (x0 : ByteArray) : Option (Int × Bool × Unit) := Dn 361 (x0, ())
noncomputable def D160 (x0 : UInt8) : Option (Int × Unit) := Dn 362 (x0, ())
noncomputable def D161 (x0 : ByteArray) (x1 : UInt8) : Option ((List ByteArray) × Unit) := Dn 363 (x0, x1, ())
noncomputable def D162 (x0 : (List Fw.Cell)) (x1 : ByteArray) (x2 : ByteArray) : Option ((List Fw.Cell) × Unit) := Dn 73 (x0, x1, x2, ())
noncomputable def D163 (x0 : Int) : Option (UInt8 × Unit) := Dn 79 (x0, ())
noncomputable def D164 (x0 : (List Fw.Cell)) (x1 : (List Fw.Cell)) (x2 : Fw.Touch) : Option ((List Fw.Cell) × Unit) := Dn 364 (x0, x1, x2, ())
noncomputable def D165 (x0 : ByteArray) : Option (Bool × Unit) := Dn 327 (x0, ())
noncomputable def D166 (x0 : Fw.Mach) (x1 : ByteArray) : Option (Fw.Mach × Int × Unit) := Dn 328 (x0, x1, ())
noncomputable def D167 (x0 : Fw.Mach) (x1 : ByteArray) : Option (Fw.Mach × Unit) := Dn 330 (x0, x1, ())
noncomputable def D168 (x0 : Fw.Mach) : Option (Fw.Mach × (List ByteArray) × Unit) := Dn 331 (x0, ())
noncomputable def D169 (x0 : Fw.Mach) (x1 : Int) (x2 : Int) (x3 : Int) : Option (Fw.Mach × ByteArray × Unit) := Dn 332 (x0, x1, x2, x3, ())
noncomputable def D170 (x0 : Fw.Mach) (x1 : Int) (x2 : Int) (x3 : ByteArray) : Option (Fw.Mach × Int × Unit) := Dn 333 (x0, x1, x2, x3, ())
noncomputable def D171 (x0 : Fw.Mach) (x1 : Int) (x2 : Int) : Option (Fw.Mach × Int × Unit) := Dn 334 (x0, x1, x2, ())
noncomputable def D172 (x0 : Int) (x1 : ByteArray) : Option (ByteArray × Unit) := Dn 335 (x0, x1, ())
noncomputable def D173 (x0 : Fw.Mach) (x1 : Int) : Option (Fw.Mach × Bool × Unit) := Dn 336 (x0, x1, ())
noncomputable def D174 (x0 : Int) (x1 : Int) : Option (ByteArray × Unit) := Dn 337 (x0, x1, ())
noncomputable def D175 (x0 : Int) (x1 : ByteArray) : Option (ByteArray × Unit) := Dn 339 (x0, x1, ())
noncomputable def D176 (x0 : Int) (x1 : Int) : Option (ByteArray × Unit) := Dn 340 (x0, x1, ())
noncomputable def D177 (x0 : Fw.Mach) (x1 : ByteArray) : Option (Fw.Mach × (List ByteArray) × Unit) := Dn 341 (x0, x1, ())
noncomputable def D178 (x0 : Int) : Option (ByteArray × Unit) := Dn 342 (x0, ())
noncomputable def D179 (x0 : Fw.Mach) (x1 : Int) (x2 : Int) : Option (Fw.Mach × Unit) := Dn 343 (x0, x1, x2, ())
noncomputable def D180 (x0 : Fw.Mach) (x1 : Int) (x2 : Int) : Option (Fw.Mach × Int × Unit) := Dn 344 (x0, x1, x2, ())
noncomputable def D181 (x0 : Fw.Mach) (x1 : Int) : Option (Fw.Mach × Unit) := Dn 345 (x0, x1, ())
noncomputable def D182 (x0 : Fw.Mach) (x1 : Int) (x2 : Int) : Option (Fw.Mach × Int × Int × Unit) := Dn 346 (x0, x1, x2, ())
noncomputable def D183 (x0 : Fw.Mach) (x1 : Int) : Option (Fw.Mach × (List Int) × Unit) := Dn 347 (x0, x1, ())
noncomputable def D184 (x0 : ByteArray) (x1 : ByteArray) : Option (Bool × Unit) := Dn 384 (x0, x1, ())
noncomputable def D185 (x0 : Fw.Mach) (x1 : Int) : Option (Fw.Mach × Int × Unit) := Dn 365 (x0, x1, ())
noncomputable def D186 (x0 : Fw.Mach) (x1 : Int) (x2 : Int) : Option (Fw.Mach × ByteArray × Unit) := Dn 366 (x0, x1, x2, ())
noncomputable def D187 (x0 : Fw.Mach) (x1 : Int) (x2 : Int) (x3 : ByteArray) : Option (Fw.Mach × Unit) := Dn 367 (x0, x1, x2, x3, ())
noncomputable def D188 (x0 : Int) (x1 : Int) : Option (ByteArray × Unit) := Dn 368 (x0, x1, ())
noncomputable def D189 (x0 : (List Fw.Cell)) (x1 : ByteArray) : Option ((List ByteArray) × Unit) := Dn 369 (x0, x1, ())
noncomputable def D190 (x0 : ByteArray) : Option (ByteArray × Bool × Unit) := Dn 396 (x0, ())
noncomputable def D191 (x0 : ByteArray) (x1 : ByteArray) : Option (Bool × Unit) := Dn 385 (x0, x1, ())
noncomputable def D192 (x0 : ByteArray) (x1 : ByteArray) : Option (Bool × Unit) := Dn 397 (x0, x1, ())
noncomputable def D1075 (x0 : Fw.Disk) : Option (Fw.Disk × Unit) := Dn 1229 (x0, ())
noncomputable def D2003 (x0 : (List UInt8)) : Option (Bool × Unit) := Dn 3 (x0, ())
noncomputable def D2008 (x0 : (List Fw.Tx)) : Option ((List ByteArray) × Unit) := Dn 8 (x0, ())
noncomputable def D2009 (x0 : (List Fw.Entry)) : Option ((List ByteArray) × Unit) := Dn 9 (x0, ())
noncomputable def D2010 (x0 : Int) : Option (ByteArray × Unit) := Dn 10 (x0, ())
noncomputable def D2011 (x0 : Fw.Tx) : Option (ByteArray × Unit) := Dn 11 (x0, ())
noncomputable def D2021 (x0 : Fw.Entry) : Option (ByteArray × Unit) := Dn 21 (x0, ())
noncomputable def D2032 (x0 : Int) : Option (ByteArray × Unit) := Dn 32 (x0, ())
noncomputable def D2034 (x0 : (List ByteArray)) (x1 : ByteArray) : Option (ByteArray × Unit) := Dn 34 (x0, x1, ())
end Go.Proofs.YtdghkmbppfmifaaGreatDoor.Ri

namespace Go.Proofs.YtdghkmbppfmifaaGreatDoor.Ri
open Go.Proofs.YtdghkmbppfmifaaGreatDoor.Fw
open Go.RowKit
set_option linter.unusedVariables false
set_option maxRecDepth 100000
theorem E5 (x0 : List UInt8) : D5 x0 = (some ((decide ((x0.length : Int) > 1048576)), ())) := (Dn_eq _ _).trans (by kernel_rfl)
theorem E21 (x0 : List UInt8) : D21 x0 = ((D25 x0).bind fun y0 => (D28 y0.1).bind fun y1 => some (y1.1, ())) := (Dn_eq _ _).trans (by kernel_rfl)
theorem E23 (x0 : Int) (x1 : Int) (x2 : Int) : D23 x0 x1 x2 = (some (((decide (x0 ≥ x1)) && (decide (x0 ≤ x2))), ())) := (Dn_eq _ _).trans (by kernel_rfl)
noncomputable def L25_116 (s0 : List UInt8) (s3 : Int) (s4 : Int) : Option (L01Cur × Unit) := Ln 31 116 (⟨32, [(0, .ok (.ro 5 s0)), (3, .ok (.v (.int .i64 s3))), (4, .ok (.v (.int .i64 s4)))], []⟩, 0)
noncomputable def L25_15 (s0 : List UInt8) (s3 : Int) : Option (L01Cur × Unit) := Ln 31 15 (⟨32, [(0, .ok (.ro 5 s0)), (3, .ok (.v (.int .i64 s3)))], []⟩, 0)
theorem E25 (x0 : List UInt8) : D25 x0 = (L25_116 x0 (IntKind.wrap .i64 (94701 + (x0.length : Int))) 0) := (Dn_eq _ _).trans (by kernel_rfl)
theorem P25_116 (s0 : List UInt8) (s3 : Int) (s4 : Int) : L25_116 s0 s3 s4 = (bif ((decide (s4 < (s0.length : Int))) && (decide (s4 < 4000))) then (gd ((decide (0 ≤ s4)) && (decide (s4 < (s0.length : Int)))) <| L25_116 s0 (andI .i64 (IntKind.wrap .i64 ((IntKind.wrap .i64 ((IntKind.wrap .i64 (s3 * 131)) + (IntKind.wrap .i64 ((nth s0 s4.toNat).toNat : Int)))) + 7)) 1073741823) (IntKind.wrap .i64 (s4 + 1))) else L25_15 s0 s3) := (Ln_eq _ _ _).trans (by kernel_rfl)
theorem P25_15 (s0 : List UInt8) (s3 : Int) : L25_15 s0 s3 = (some ((⟨s0, 0, s3⟩ : L01Cur), ())) := (Ln_eq _ _ _).trans (by kernel_rfl)
theorem E26 (x0 : L01Cur) (x1 : Int) : D26 x0 x1 = (bif (decide (x1 ≤ 0)) then (some (0, (x0, ()))) else bif (decide (x1 ≤ 256)) then ((D30 x0).bind fun y4 => gd (!(decide (x1 = 0))) <| some ((Int.tmod y4.1 x1), (y4.2.1, ()))) else (D30 x0).bind fun y0 => (D30 y0.2.1).bind fun y1 => (D30 y1.2.1).bind fun y2 => (D30 y2.2.1).bind fun y3 => gd (!(decide (x1 = 0))) <| some ((Int.tmod (IntKind.wrap .i64 ((IntKind.wrap .i64 ((IntKind.wrap .i64 ((IntKind.wrap .i64 (y0.1 * 16777216)) + (IntKind.wrap .i64 (y1.1 * 65536)))) + (IntKind.wrap .i64 (y2.1 * 256)))) + y3.1)) x1), (y3.2.1, ()))) := (Dn_eq _ _).trans (by kernel_rfl)
theorem E27 (x0 : Int) (x1 : Int) (x2 : Int) : D27 x0 x1 x2 = (some (((decide (x0 ≥ x1)) && (decide (x0 ≤ x2))), ())) := (Dn_eq _ _).trans (by kernel_rfl)
theorem E28 (x0 : L01Cur) : D28 x0 = ((D32 x0 16).bind fun y0 => (D31 y0.1).bind fun y1 => some (y1.1, (y0.2.1, ()))) := (Dn_eq _ _).trans (by kernel_rfl)
theorem E29 (x0 : L01Cur) (x1 : Int) : D29 x0 x1 = ((D26 x0 x1).bind fun y0 => some ((decide (y0.1 = 0)), (y0.2.1, ()))) := (Dn_eq _ _).trans (by kernel_rfl)
noncomputable def L30_31 (s3 : Int) (e0_0 : List UInt8) (e0_1 : Int) (e0_2 : Int) : Option (Int × L01Cur × Unit) := Ln 110 31 (⟨58, [(0, .ok (.pt 0 0)), (3, .ok (.v (.int .i64 s3)))], [(0, .var [.ro 5 e0_0, .v (.int .i64 e0_1), .v (.int .i64 e0_2)] 106)]⟩, 1)
theorem E30 (x0 : L01Cur) : D30 x0 = (bif (decide (x0.i < (x0.b.length : Int))) then (gd ((decide (0 ≤ x0.i)) && (decide (x0.i < (x0.b.length : Int)))) <| L30_31 (andI .i64 (IntKind.wrap .i64 ((andI .i64 (xorI .i64 (shrI .i64 (IntKind.wrap .i64 ((IntKind.wrap .i64 (x0.h * 6364136223846793005)) + 1442695040888963407)) 33) (shrI .i64 (IntKind.wrap .i64 ((IntKind.wrap .i64 (x0.h * 6364136223846793005)) + 1442695040888963407)) 45)) 255) + (IntKind.wrap .i64 ((nth x0.b x0.i.toNat).toNat : Int)))) 255) x0.b (IntKind.wrap .i64 (x0.i + 1)) (IntKind.wrap .i64 ((IntKind.wrap .i64 (x0.h * 6364136223846793005)) + 1442695040888963407))) else L30_31 (andI .i64 (xorI .i64 (shrI .i64 (IntKind.wrap .i64 ((IntKind.wrap .i64 (x0.h * 6364136223846793005)) + 1442695040888963407)) 33) (shrI .i64 (IntKind.wrap .i64 ((IntKind.wrap .i64 (x0.h * 6364136223846793005)) + 1442695040888963407)) 45)) 255) x0.b x0.i (IntKind.wrap .i64 ((IntKind.wrap .i64 (x0.h * 6364136223846793005)) + 1442695040888963407))) := (Dn_eq _ _).trans (by kernel_rfl)
theorem P30_31 (s3 : Int) (e0_0 : List UInt8) (e0_1 : Int) (e0_2 : Int) : L30_31 s3 e0_0 e0_1 e0_2 = (some (s3, ((⟨e0_0, e0_1, e0_2⟩ : L01Cur), ()))) := (Ln_eq _ _ _).trans (by kernel_rfl)
noncomputable def L31_244 (s0 : List Fw.Deed) (s6 : Int) (e0_3 : ByteArray) (e0_4 : Int) (e0_5 : Int) (e0_6 : Int) (e0_7 : Int) (e0_10 : Bool) (e1_0 : List Fw.Cell) (e1_1 : List Fw.Tx) (e1_2 : List Fw.Slot) (e1_3 : ByteArray) (e1_4 : Int) (e1_5 : Int) (e1_6 : Int) (e1_7 : Int) (e1_8 : List Fw.Entry) (e1_9 : List ByteArray) (e1_10 : Bool) (e2 : List Fw.Answer) : Option (Fw.Kernel × (List Fw.Answer) × Unit) := Ln 62 244 (⟨36, [(0, .ok (.ro 121 s0)), (2, .ok (.pt 0 0)), (4, .ok (.pt 1 0)), (5, .ok (.sl 2)), (6, .ok (.v (.int .i64 s6)))], [(0, .var [.v (.slice none 0 0), .v (.slice none 0 0), .v (.slice none 0 0), .v (.string e0_3), .v (.int .i64 e0_4), .v (.int .i64 e0_5), .v (.int .i64 e0_6), .v (.int .i64 e0_7), .v (.slice none 0 0), .v (.slice none 0 0), .v (.bool e0_10)] 34), (1, .var [.ro 152 e1_0, .ro 45 e1_1, .ro 201 e1_2, .v (.string e1_3), .v (.int .i64 e1_4), .v (.int .i64 e1_5), .v (.int .i64 e1_6), .v (.int .i64 e1_7), .ro 51 e1_8, .ro 9 e1_9, .v (.bool e1_10)] 34), (2, .own 170 e2)]⟩, 3)
noncomputable def L31_31 (e0_3 : ByteArray) (e0_4 : Int) (e0_5 : Int) (e0_6 : Int) (e0_7 : Int) (e0_10 : Bool) (e1_0 : List Fw.Cell) (e1_1 : List Fw.Tx) (e1_2 : List Fw.Slot) (e1_3 : ByteArray) (e1_4 : Int) (e1_5 : Int) (e1_6 : Int) (e1_7 : Int) (e1_8 : List Fw.Entry) (e1_9 : List ByteArray) (e1_10 : Bool) (e2 : List Fw.Answer) : Option (Fw.Kernel × (List Fw.Answer) × Unit) := Ln 62 31 (⟨36, [(2, .ok (.pt 0 0)), (4, .ok (.pt 1 0)), (5, .ok (.sl 2))], [(0, .var [.v (.slice none 0 0), .v (.slice none 0 0), .v (.slice none 0 0), .v (.string e0_3), .v (.int .i64 e0_4), .v (.int .i64 e0_5), .v (.int .i64 e0_6), .v (.int .i64 e0_7), .v (.slice none 0 0), .v (.slice none 0 0), .v (.bool e0_10)] 34), (1, .var [.ro 152 e1_0, .ro 45 e1_1, .ro 201 e1_2, .v (.string e1_3), .v (.int .i64 e1_4), .v (.int .i64 e1_5), .v (.int .i64 e1_6), .v (.int .i64 e1_7), .ro 51 e1_8, .ro 9 e1_9, .v (.bool e1_10)] 34), (2, .own 170 e2)]⟩, 3)
theorem E31 (x0 : List Fw.Deed) : D31 x0 = ((D33).bind fun y0 => L31_244 x0 0 (tx []) 0 0 0 0 false y0.1.Store y0.1.Txs y0.1.Disk.Slots y0.1.Disk.Journal.Text y0.1.Disk.Journal.Sure y0.1.Seq y0.1.Next y0.1.Time y0.1.History y0.1.Seen y0.1.Room []) := (Dn_eq _ _).trans (by kernel_rfl)
theorem P31_244 (s0 : List Fw.Deed) (s6 : Int) (e0_3 : ByteArray) (e0_4 : Int) (e0_5 : Int) (e0_6 : Int) (e0_7 : Int) (e0_10 : Bool) (e1_0 : List Fw.Cell) (e1_1 : List Fw.Tx) (e1_2 : List Fw.Slot) (e1_3 : ByteArray) (e1_4 : Int) (e1_5 : Int) (e1_6 : Int) (e1_7 : Int) (e1_8 : List Fw.Entry) (e1_9 : List ByteArray) (e1_10 : Bool) (e2 : List Fw.Answer) : L31_244 s0 s6 e0_3 e0_4 e0_5 e0_6 e0_7 e0_10 e1_0 e1_1 e1_2 e1_3 e1_4 e1_5 e1_6 e1_7 e1_8 e1_9 e1_10 e2 = (bif ((decide (s6 < (s0.length : Int))) && (decide (s6 < 60))) then (gd ((decide (0 ≤ s6)) && (decide (s6 < (s0.length : Int)))) <| (D34 (⟨e1_0, e1_1, (⟨e1_2, (⟨e1_3, e1_4⟩ : Fw.Journal)⟩ : Fw.Disk), e1_5, e1_6, e1_7, e1_8, e1_9, e1_10⟩ : Fw.Kernel) (nth s0 s6.toNat)).bind fun y0 => gd ((decide (((e2.length + 1) * 32) ≤ 140737488355328)) && (decide ((e2.length + 1) ≤ 9223372036854775807))) <| L31_244 s0 (IntKind.wrap .i64 (s6 + 1)) e0_3 e0_4 e0_5 e0_6 e0_7 e0_10 y0.1.Store y0.1.Txs y0.1.Disk.Slots y0.1.Disk.Journal.Text y0.1.Disk.Journal.Sure y0.1.Seq y0.1.Next y0.1.Time y0.1.History y0.1.Seen y0.1.Room (e2 ++ [y0.2.1])) else L31_31 e0_3 e0_4 e0_5 e0_6 e0_7 e0_10 e1_0 e1_1 e1_2 e1_3 e1_4 e1_5 e1_6 e1_7 e1_8 e1_9 e1_10 e2) := (Ln_eq _ _ _).trans (by kernel_rfl)
theorem P31_31 (e0_3 : ByteArray) (e0_4 : Int) (e0_5 : Int) (e0_6 : Int) (e0_7 : Int) (e0_10 : Bool) (e1_0 : List Fw.Cell) (e1_1 : List Fw.Tx) (e1_2 : List Fw.Slot) (e1_3 : ByteArray) (e1_4 : Int) (e1_5 : Int) (e1_6 : Int) (e1_7 : Int) (e1_8 : List Fw.Entry) (e1_9 : List ByteArray) (e1_10 : Bool) (e2 : List Fw.Answer) : L31_31 e0_3 e0_4 e0_5 e0_6 e0_7 e0_10 e1_0 e1_1 e1_2 e1_3 e1_4 e1_5 e1_6 e1_7 e1_8 e1_9 e1_10 e2 = (some ((⟨e1_0, e1_1, (⟨e1_2, (⟨e1_3, e1_4⟩ : Fw.Journal)⟩ : Fw.Disk), e1_5, e1_6, e1_7, e1_8, e1_9, e1_10⟩ : Fw.Kernel), (e2, ()))) := (Ln_eq _ _ _).trans (by kernel_rfl)
noncomputable def L32_15 (s1 : Int) (e0_0 : List UInt8) (e0_1 : Int) (e0_2 : Int) (e1 : List Fw.Deed) : Option ((List Fw.Deed) × L01Cur × Unit) := Ln 63 15 (⟨26, [(0, .ok (.pt 0 0)), (1, .ok (.v (.int .i64 s1))), (5, .ok (.sl 1))], [(0, .var [.ro 5 e0_0, .v (.int .i64 e0_1), .v (.int .i64 e0_2)] 106), (1, .own 121 e1)]⟩, 2)
noncomputable def L32_244 (s1 : Int) (s6 : Int) (e0_0 : List UInt8) (e0_1 : Int) (e0_2 : Int) (e1 : List Fw.Deed) : Option ((List Fw.Deed) × L01Cur × Unit) := Ln 63 244 (⟨26, [(0, .ok (.pt 0 0)), (1, .ok (.v (.int .i64 s1))), (5, .ok (.sl 1)), (6, .ok (.v (.int .i64 s6)))], [(0, .var [.ro 5 e0_0, .v (.int .i64 e0_1), .v (.int .i64 e0_2)] 106), (1, .own 121 e1)]⟩, 2)
noncomputable def L32_31 (e0_0 : List UInt8) (e0_1 : Int) (e0_2 : Int) (e1 : List Fw.Deed) : Option ((List Fw.Deed) × L01Cur × Unit) := Ln 63 31 (⟨26, [(0, .ok (.pt 0 0)), (5, .ok (.sl 1))], [(0, .var [.ro 5 e0_0, .v (.int .i64 e0_1), .v (.int .i64 e0_2)] 106), (1, .own 121 e1)]⟩, 2)
theorem E32 (x0 : L01Cur) (x1 : Int) : D32 x0 x1 = ((D29 x0 6).bind fun y0 => bif (!y0.1) then ((D35).bind fun y1 => L32_15 x1 y0.2.1.b y0.2.1.i y0.2.1.h y1.1) else L32_15 x1 y0.2.1.b y0.2.1.i y0.2.1.h []) := (Dn_eq _ _).trans (by kernel_rfl)
theorem P32_15 (s1 : Int) (e0_0 : List UInt8) (e0_1 : Int) (e0_2 : Int) (e1 : List Fw.Deed) : L32_15 s1 e0_0 e0_1 e0_2 e1 = (L32_244 s1 0 e0_0 e0_1 e0_2 e1) := (Ln_eq _ _ _).trans (by kernel_rfl)
theorem P32_244 (s1 : Int) (s6 : Int) (e0_0 : List UInt8) (e0_1 : Int) (e0_2 : Int) (e1 : List Fw.Deed) : L32_244 s1 s6 e0_0 e0_1 e0_2 e1 = ((D26 (⟨e0_0, e0_1, e0_2⟩ : L01Cur) (IntKind.wrap .i64 (s1 + 1))).bind fun y0 => bif (decide (s6 < y0.1)) then ((D36 y0.2.1).bind fun y1 => gd ((decide (((e1.length + 1) * 96) ≤ 140737488355328)) && (decide ((e1.length + 1) ≤ 9223372036854775807))) <| L32_244 s1 (IntKind.wrap .i64 (s6 + 1)) y1.2.1.b y1.2.1.i y1.2.1.h (e1 ++ [y1.1])) else L32_31 y0.2.1.b y0.2.1.i y0.2.1.h e1) := (Ln_eq _ _ _).trans (by kernel_rfl)
theorem P32_31 (e0_0 : List UInt8) (e0_1 : Int) (e0_2 : Int) (e1 : List Fw.Deed) : L32_31 e0_0 e0_1 e0_2 e1 = (some (e1, ((⟨e0_0, e0_1, e0_2⟩ : L01Cur), ()))) := (Ln_eq _ _ _).trans (by kernel_rfl)
theorem E33  : D33 = ((D37).bind fun y0 => (D38 y0.1).bind fun y1 => some ((⟨y0.1, [], y1.1, 0, 1, 0, [], [], true⟩ : Fw.Kernel), ())) := (Dn_eq _ _).trans (by kernel_rfl)
theorem E34 (x0 : Fw.Kernel) (x1 : Fw.Deed) : D34 x0 x1 = ((D39 x1).bind fun y0 => bif (!y0.1) then ((D40 x0).bind fun y11 => some (y11.1, ((⟨4, 0, (tx [])⟩ : Fw.Answer), ()))) else (D41 x0).bind fun y1 => bif (decide (x1.Kind = 2)) then ((D42 y1.1 x1.N x1.Call).bind fun y10 => some (y10.1, (y10.2.1, ()))) else bif (decide (x1.Kind = 7)) then ((D43 y1.1 x1.N x1.Call).bind fun y9 => some (y9.1, (y9.2.1, ()))) else bif (decide (x1.Kind = 8)) then ((D44 y1.1).bind fun y8 => some (y8.1, ((⟨0, 0, (tx [])⟩ : Fw.Answer), ()))) else bif (decide (x1.Kind = 9)) then ((D45 y1.1).bind fun y6 => (D46 y6.2.1 5).bind fun y7 => some (y6.1, (y7.1, ()))) else bif (decide (x1.Kind = 10)) then ((D47 y1.1).bind fun y4 => (D46 y4.2.1 5).bind fun y5 => some (y4.1, (y5.1, ()))) else bif (decide (x1.Kind = 11)) then ((D48 y1.1 x1.N).bind fun y3 => some (y3.1, ((⟨0, 0, (tx [])⟩ : Fw.Answer), ()))) else (D49 y1.1 x1).bind fun y2 => some (y2.1, (y2.2.1, ()))) := (Dn_eq _ _).trans (by kernel_rfl)
theorem E35  : D35 = (some ([(⟨7, 1, 0, (⟨12, (tx []), (tx []), 0, 0, (tx [])⟩ : Fw.Call)⟩ : Fw.Deed), (⟨7, 1, 0, (⟨12, (tx []), (tx []), 0, 0, (tx [])⟩ : Fw.Call)⟩ : Fw.Deed), (⟨7, 1, 0, (⟨1, (tx [120]), (tx []), 0, 0, (tx [])⟩ : Fw.Call)⟩ : Fw.Deed), (⟨7, 1, 0, (⟨9, (tx []), (tx []), 0, 0, (tx [])⟩ : Fw.Call)⟩ : Fw.Deed), (⟨1, 1, 0, (⟨0, (tx []), (tx []), 0, 0, (tx [])⟩ : Fw.Call)⟩ : Fw.Deed), (⟨1, 2, 0, (⟨0, (tx []), (tx []), 0, 0, (tx [])⟩ : Fw.Call)⟩ : Fw.Deed)], ())) := (Dn_eq _ _).trans (by kernel_rfl)
noncomputable def L36_117 (s3 : Int) (s8 : Int) (s9 : Bool) (e0_0 : List UInt8) (e0_1 : Int) (e0_2 : Int) (e1_0 : Int) (e1_1 : Int) (e1_2 : Int) (e1_3 : Int) (e1_4 : ByteArray) (e1_5 : ByteArray) (e1_6 : Int) (e1_7 : Int) (e1_8 : ByteArray) : Option (Fw.Deed × L01Cur × Unit) := Ln 70 117 (⟨67, [(0, .ok (.pt 0 0)), (2, .ok (.pt 1 0)), (3, .ok (.v (.int .i64 s3))), (8, .ok (.v (.int .i64 s8))), (9, .ok (.v (.bool s9)))], [(0, .var [.ro 5 e0_0, .v (.int .i64 e0_1), .v (.int .i64 e0_2)] 106), (1, .var [.v (.int .i64 e1_0), .v (.int .i64 e1_1), .v (.int .i64 e1_2), .v (.int .i64 e1_3), .v (.string e1_4), .v (.string e1_5), .v (.int .i64 e1_6), .v (.int .i64 e1_7), .v (.string e1_8)] 121)]⟩, 2)
noncomputable def L36_30207 (s3 : Int) (s8 : Int) (s29 : Bool) (e0_0 : List UInt8) (e0_1 : Int) (e0_2 : Int) (e1_0 : Int) (e1_1 : Int) (e1_2 : Int) (e1_3 : Int) (e1_4 : ByteArray) (e1_5 : ByteArray) (e1_6 : Int) (e1_7 : Int) (e1_8 : ByteArray) : Option (Fw.Deed × L01Cur × Unit) := Ln 70 30207 (⟨67, [(0, .ok (.pt 0 0)), (2, .ok (.pt 1 0)), (3, .ok (.v (.int .i64 s3))), (8, .ok (.v (.int .i64 s8))), (29, .ok (.v (.bool s29)))], [(0, .var [.ro 5 e0_0, .v (.int .i64 e0_1), .v (.int .i64 e0_2)] 106), (1, .var [.v (.int .i64 e1_0), .v (.int .i64 e1_1), .v (.int .i64 e1_2), .v (.int .i64 e1_3), .v (.string e1_4), .v (.string e1_5), .v (.int .i64 e1_6), .v (.int .i64 e1_7), .v (.string e1_8)] 121)]⟩, 2)
noncomputable def L36_120831 (s3 : Int) (s8 : Int) (s35 : Bool) (e0_0 : List UInt8) (e0_1 : Int) (e0_2 : Int) (e1_0 : Int) (e1_1 : Int) (e1_2 : Int) (e1_3 : Int) (e1_4 : ByteArray) (e1_5 : ByteArray) (e1_6 : Int) (e1_7 : Int) (e1_8 : ByteArray) : Option (Fw.Deed × L01Cur × Unit) := Ln 70 120831 (⟨67, [(0, .ok (.pt 0 0)), (2, .ok (.pt 1 0)), (3, .ok (.v (.int .i64 s3))), (8, .ok (.v (.int .i64 s8))), (35, .ok (.v (.bool s35)))], [(0, .var [.ro 5 e0_0, .v (.int .i64 e0_1), .v (.int .i64 e0_2)] 106), (1, .var [.v (.int .i64 e1_0), .v (.int .i64 e1_1), .v (.int .i64 e1_2), .v (.int .i64 e1_3), .v (.string e1_4), .v (.string e1_5), .v (.int .i64 e1_6), .v (.int .i64 e1_7), .v (.string e1_8)] 121)]⟩, 2)
theorem E36 (x0 : L01Cur) : D36 x0 = ((D26 x0 4).bind fun y0 => (D26 y0.2.1 24).bind fun y1 => bif (decide (y1.1 = 0)) then (L36_117 (IntKind.wrap .i64 (1 + y0.1)) y1.1 (decide (y1.1 = 0)) y1.2.1.b y1.2.1.i y1.2.1.h 0 0 0 0 (tx []) (tx []) 0 0 (tx [])) else bif (decide (y1.1 = 1)) then (L36_117 (IntKind.wrap .i64 (1 + y0.1)) y1.1 (decide (y1.1 = 1)) y1.2.1.b y1.2.1.i y1.2.1.h 0 0 0 0 (tx []) (tx []) 0 0 (tx [])) else L36_117 (IntKind.wrap .i64 (1 + y0.1)) y1.1 (decide (y1.1 = 2)) y1.2.1.b y1.2.1.i y1.2.1.h 0 0 0 0 (tx []) (tx []) 0 0 (tx [])) := (Dn_eq _ _).trans (by kernel_rfl)
theorem P36_117 (s3 : Int) (s8 : Int) (s9 : Bool) (e0_0 : List UInt8) (e0_1 : Int) (e0_2 : Int) (e1_0 : Int) (e1_1 : Int) (e1_2 : Int) (e1_3 : Int) (e1_4 : ByteArray) (e1_5 : ByteArray) (e1_6 : Int) (e1_7 : Int) (e1_8 : ByteArray) : L36_117 s3 s8 s9 e0_0 e0_1 e0_2 e1_0 e1_1 e1_2 e1_3 e1_4 e1_5 e1_6 e1_7 e1_8 = (bif s9 then ((D26 (⟨e0_0, e0_1, e0_2⟩ : L01Cur) 3).bind fun y0 => some ((⟨1, (IntKind.wrap .i64 (1 + y0.1)), 0, (⟨0, (tx []), (tx []), 0, 0, (tx [])⟩ : Fw.Call)⟩ : Fw.Deed), (y0.2.1, ()))) else bif (decide (s8 = 3)) then (some ((⟨3, s3, 0, (⟨0, (tx []), (tx []), 0, 0, (tx [])⟩ : Fw.Call)⟩ : Fw.Deed), ((⟨e0_0, e0_1, e0_2⟩ : L01Cur), ()))) else bif (decide (s8 = 4)) then (some ((⟨4, s3, 1, (⟨0, (tx []), (tx []), 0, 0, (tx [])⟩ : Fw.Call)⟩ : Fw.Deed), ((⟨e0_0, e0_1, e0_2⟩ : L01Cur), ()))) else bif (decide (s8 = 5)) then (some ((⟨5, s3, 0, (⟨0, (tx []), (tx []), 0, 0, (tx [])⟩ : Fw.Call)⟩ : Fw.Deed), ((⟨e0_0, e0_1, e0_2⟩ : L01Cur), ()))) else bif (decide (s8 = 6)) then (L36_30207 s3 s8 (decide (s8 = 6)) e0_0 e0_1 e0_2 e1_0 e1_1 e1_2 e1_3 e1_4 e1_5 e1_6 e1_7 e1_8) else bif (decide (s8 = 7)) then (L36_30207 s3 s8 (decide (s8 = 7)) e0_0 e0_1 e0_2 e1_0 e1_1 e1_2 e1_3 e1_4 e1_5 e1_6 e1_7 e1_8) else L36_30207 s3 s8 (decide (s8 = 8)) e0_0 e0_1 e0_2 e1_0 e1_1 e1_2 e1_3 e1_4 e1_5 e1_6 e1_7 e1_8) := (Ln_eq _ _ _).trans (by kernel_rfl)
theorem P36_30207 (s3 : Int) (s8 : Int) (s29 : Bool) (e0_0 : List UInt8) (e0_1 : Int) (e0_2 : Int) (e1_0 : Int) (e1_1 : Int) (e1_2 : Int) (e1_3 : Int) (e1_4 : ByteArray) (e1_5 : ByteArray) (e1_6 : Int) (e1_7 : Int) (e1_8 : ByteArray) : L36_30207 s3 s8 s29 e0_0 e0_1 e0_2 e1_0 e1_1 e1_2 e1_3 e1_4 e1_5 e1_6 e1_7 e1_8 = (bif s29 then (some ((⟨6, s3, 0, (⟨0, (tx []), (tx []), 0, 0, (tx [])⟩ : Fw.Call)⟩ : Fw.Deed), ((⟨e0_0, e0_1, e0_2⟩ : L01Cur), ()))) else bif (decide (s8 = 9)) then (L36_120831 s3 s8 (decide (s8 = 9)) e0_0 e0_1 e0_2 e1_0 e1_1 e1_2 e1_3 e1_4 e1_5 e1_6 e1_7 e1_8) else L36_120831 s3 s8 (decide (s8 = 10)) e0_0 e0_1 e0_2 e1_0 e1_1 e1_2 e1_3 e1_4 e1_5 e1_6 e1_7 e1_8) := (Ln_eq _ _ _).trans (by kernel_rfl)
theorem P36_120831 (s3 : Int) (s8 : Int) (s35 : Bool) (e0_0 : List UInt8) (e0_1 : Int) (e0_2 : Int) (e1_0 : Int) (e1_1 : Int) (e1_2 : Int) (e1_3 : Int) (e1_4 : ByteArray) (e1_5 : ByteArray) (e1_6 : Int) (e1_7 : Int) (e1_8 : ByteArray) : L36_120831 s3 s8 s35 e0_0 e0_1 e0_2 e1_0 e1_1 e1_2 e1_3 e1_4 e1_5 e1_6 e1_7 e1_8 = (bif s35 then ((D26 (⟨e0_0, e0_1, e0_2⟩ : L01Cur) 2).bind fun y2 => (D50 y2.2.1).bind fun y3 => some ((⟨7, (IntKind.wrap .i64 (1 + y2.1)), 0, y3.1⟩ : Fw.Deed), (y3.2.1, ()))) else bif (decide (s8 = 11)) then (some ((⟨8, 0, 0, (⟨0, (tx []), (tx []), 0, 0, (tx [])⟩ : Fw.Call)⟩ : Fw.Deed), ((⟨e0_0, e0_1, e0_2⟩ : L01Cur), ()))) else bif (decide (s8 = 12)) then (some ((⟨9, 0, 0, (⟨0, (tx []), (tx []), 0, 0, (tx [])⟩ : Fw.Call)⟩ : Fw.Deed), ((⟨e0_0, e0_1, e0_2⟩ : L01Cur), ()))) else bif (decide (s8 = 13)) then (some ((⟨10, 0, 0, (⟨0, (tx []), (tx []), 0, 0, (tx [])⟩ : Fw.Call)⟩ : Fw.Deed), ((⟨e0_0, e0_1, e0_2⟩ : L01Cur), ()))) else bif (decide (s8 = 14)) then ((D51 (⟨e0_0, e0_1, e0_2⟩ : L01Cur) [0, 20, 100, 100000]).bind fun y1 => some ((⟨11, y1.1, 0, (⟨0, (tx []), (tx []), 0, 0, (tx [])⟩ : Fw.Call)⟩ : Fw.Deed), (y1.2.1, ()))) else bif (decide (s8 = 15)) then (some ((⟨12, s3, 0, (⟨0, (tx []), (tx []), 0, 0, (tx [])⟩ : Fw.Call)⟩ : Fw.Deed), ((⟨e0_0, e0_1, e0_2⟩ : L01Cur), ()))) else (D50 (⟨e0_0, e0_1, e0_2⟩ : L01Cur)).bind fun y0 => some ((⟨2, s3, 0, y0.1⟩ : Fw.Deed), (y0.2.1, ()))) := (Ln_eq _ _ _).trans (by kernel_rfl)
theorem E37  : D37 = ((D53 []).bind fun y0 => (D52 y0.1 0).bind fun y1 => some (y1.1.Store, ())) := (Dn_eq _ _).trans (by kernel_rfl)
theorem E38 (x0 : List Fw.Cell) : D38 x0 = (gd ((decide (((0 + x0.length) * 32) ≤ 140737488355328)) && (decide ((0 + x0.length) ≤ 9223372036854775807))) <| some ((⟨[(⟨0, ([] ++ x0), true⟩ : Fw.Slot), (⟨0, [], false⟩ : Fw.Slot)], (⟨(tx []), 0⟩ : Fw.Journal)⟩ : Fw.Disk), ())) := (Dn_eq _ _).trans (by kernel_rfl)
theorem E39 (x0 : Fw.Deed) : D39 x0 = ((D27 x0.Kind 1 12).bind fun y0 => some (y0.1, ())) := (Dn_eq _ _).trans (by kernel_rfl)
noncomputable def L40_1012 (s4 : Int) (e0_3 : ByteArray) (e0_4 : Int) (e0_5 : Int) (e0_6 : Int) (e0_7 : Int) (e0_8 : List Fw.Entry) (e0_9 : List ByteArray) (e0_10 : Bool) (e1 : List Fw.Cell) (e2 : List Fw.Tx) (e3 : List Fw.Slot) (e4_3 : ByteArray) (e4_4 : Int) (e4_5 : Int) (e4_6 : Int) (e4_7 : Int) (e4_10 : Bool) (e5 : List Fw.Entry) : Option (Fw.Kernel × Unit) := Ln 149 1012 (⟨43, [(1, .ok (.pt 0 0)), (2, .ok (.pt 4 0)), (3, .ok (.sl 5)), (4, .ok (.v (.int .i64 s4)))], [(0, .var [.sl 1, .sl 2, .sl 3, .v (.string e0_3), .v (.int .i64 e0_4), .v (.int .i64 e0_5), .v (.int .i64 e0_6), .v (.int .i64 e0_7), .ro 51 e0_8, .ro 9 e0_9, .v (.bool e0_10)] 34), (1, .own 152 e1), (2, .own 45 e2), (3, .own 201 e3), (4, .var [.v (.slice none 0 0), .v (.slice none 0 0), .v (.slice none 0 0), .v (.string e4_3), .v (.int .i64 e4_4), .v (.int .i64 e4_5), .v (.int .i64 e4_6), .v (.int .i64 e4_7), .v (.slice none 0 0), .v (.slice none 0 0), .v (.bool e4_10)] 34), (5, .own 51 e5)]⟩, 6)
noncomputable def L40_127 (e0_3 : ByteArray) (e0_4 : Int) (e0_5 : Int) (e0_6 : Int) (e0_7 : Int) (e0_8 : List Fw.Entry) (e0_9 : List ByteArray) (e0_10 : Bool) (e1 : List Fw.Cell) (e2 : List Fw.Tx) (e3 : List Fw.Slot) (e4_3 : ByteArray) (e4_4 : Int) (e4_5 : Int) (e4_6 : Int) (e4_7 : Int) (e4_10 : Bool) (e5 : List Fw.Entry) : Option (Fw.Kernel × Unit) := Ln 149 127 (⟨43, [(1, .ok (.pt 0 0)), (2, .ok (.pt 4 0)), (3, .ok (.sl 5))], [(0, .var [.sl 1, .sl 2, .sl 3, .v (.string e0_3), .v (.int .i64 e0_4), .v (.int .i64 e0_5), .v (.int .i64 e0_6), .v (.int .i64 e0_7), .ro 51 e0_8, .ro 9 e0_9, .v (.bool e0_10)] 34), (1, .own 152 e1), (2, .own 45 e2), (3, .own 201 e3), (4, .var [.v (.slice none 0 0), .v (.slice none 0 0), .v (.slice none 0 0), .v (.string e4_3), .v (.int .i64 e4_4), .v (.int .i64 e4_5), .v (.int .i64 e4_6), .v (.int .i64 e4_7), .v (.slice none 0 0), .v (.slice none 0 0), .v (.bool e4_10)] 34), (5, .own 51 e5)]⟩, 6)
theorem E40 (x0 : Fw.Kernel) : D40 x0 = (gd ((decide (((0 + x0.Store.length) * 32) ≤ 140737488355328)) && (decide ((0 + x0.Store.length) ≤ 9223372036854775807))) <| (D54 x0.Txs).bind fun y0 => (D55 x0.Disk).bind fun y1 => L40_1012 0 y1.1.Journal.Text y1.1.Journal.Sure x0.Seq x0.Next x0.Time x0.History x0.Seen x0.Room ([] ++ x0.Store) y0.1 y1.1.Slots (tx []) 0 0 0 0 false []) := (Dn_eq _ _).trans (by kernel_rfl)
theorem P40_1012 (s4 : Int) (e0_3 : ByteArray) (e0_4 : Int) (e0_5 : Int) (e0_6 : Int) (e0_7 : Int) (e0_8 : List Fw.Entry) (e0_9 : List ByteArray) (e0_10 : Bool) (e1 : List Fw.Cell) (e2 : List Fw.Tx) (e3 : List Fw.Slot) (e4_3 : ByteArray) (e4_4 : Int) (e4_5 : Int) (e4_6 : Int) (e4_7 : Int) (e4_10 : Bool) (e5 : List Fw.Entry) : L40_1012 s4 e0_3 e0_4 e0_5 e0_6 e0_7 e0_8 e0_9 e0_10 e1 e2 e3 e4_3 e4_4 e4_5 e4_6 e4_7 e4_10 e5 = (bif (decide (s4 < (e0_8.length : Int))) then (gd ((decide (0 ≤ s4)) && (decide (s4 < (e0_8.length : Int)))) <| (D56 (nth e0_8 s4.toNat)).bind fun y0 => gd ((decide (((e5.length + 1) * 96) ≤ 140737488355328)) && (decide ((e5.length + 1) ≤ 9223372036854775807))) <| L40_1012 (IntKind.wrap .i64 (s4 + 1)) e0_3 e0_4 e0_5 e0_6 e0_7 e0_8 e0_9 e0_10 e1 e2 e3 e4_3 e4_4 e4_5 e4_6 e4_7 e4_10 (e5 ++ [y0.1])) else L40_127 e0_3 e0_4 e0_5 e0_6 e0_7 e0_8 e0_9 e0_10 e1 e2 e3 e4_3 e4_4 e4_5 e4_6 e4_7 e4_10 e5) := (Ln_eq _ _ _).trans (by kernel_rfl)
theorem P40_127 (e0_3 : ByteArray) (e0_4 : Int) (e0_5 : Int) (e0_6 : Int) (e0_7 : Int) (e0_8 : List Fw.Entry) (e0_9 : List ByteArray) (e0_10 : Bool) (e1 : List Fw.Cell) (e2 : List Fw.Tx) (e3 : List Fw.Slot) (e4_3 : ByteArray) (e4_4 : Int) (e4_5 : Int) (e4_6 : Int) (e4_7 : Int) (e4_10 : Bool) (e5 : List Fw.Entry) : L40_127 e0_3 e0_4 e0_5 e0_6 e0_7 e0_8 e0_9 e0_10 e1 e2 e3 e4_3 e4_4 e4_5 e4_6 e4_7 e4_10 e5 = (gd ((decide (((0 + e0_9.length) * 16) ≤ 140737488355328)) && (decide ((0 + e0_9.length) ≤ 9223372036854775807))) <| some ((⟨e1, e2, (⟨e3, (⟨e0_3, e0_4⟩ : Fw.Journal)⟩ : Fw.Disk), e0_5, e0_6, e0_7, e5, ([] ++ e0_9), e0_10⟩ : Fw.Kernel), ())) := (Ln_eq _ _ _).trans (by kernel_rfl)
theorem E41 (x0 : Fw.Kernel) : D41 x0 = ((D40 x0).bind fun y0 => some ({ y0.1 with Time := (IntKind.wrap .i64 (y0.1.Time + 1)) }, ())) := (Dn_eq _ _).trans (by kernel_rfl)
theorem E42 (x0 : Fw.Kernel) (x1 : Int) (x2 : Fw.Call) : D42 x0 x1 x2 = ((D40 x0).bind fun y0 => (D57 y0.1).bind fun y1 => bif (!y1.1) then (some (y0.1, ((⟨4, 0, (tx [])⟩ : Fw.Answer), ()))) else (D58 y0.1 x1).bind fun y2 => bif (decide (y2.1 < 0)) then (some (y0.1, ((⟨21, 0, (tx [])⟩ : Fw.Answer), ()))) else gd ((decide (0 ≤ y2.1)) && (decide (y2.1 < (y0.1.Txs.length : Int)))) <| bif (decide (((nth y0.1.Txs y2.1.toNat).Calls.length : Int) ≥ 12)) then (some (y0.1, ((⟨3, 0, (tx [])⟩ : Fw.Answer), ()))) else gd ((decide (0 ≤ y2.1)) && (decide (y2.1 < (y0.1.Txs.length : Int)))) <| gd ((decide (0 ≤ y2.1)) && (decide (y2.1 < (y0.1.Txs.length : Int)))) <| (D60 y0.1.Store (nth y0.1.Txs y2.1.toNat) x2).bind fun y3 => (D59 y0.1.Txs (nth y0.1.Txs y2.1.toNat) y3.1).bind fun y4 => bif (!y4.2.1) then (some (y0.1, ((⟨20, 0, (tx [])⟩ : Fw.Answer), ()))) else (D61 y0.1.Txs y4.1).bind fun y5 => gd ((decide (0 ≤ y2.1)) && (decide (y2.1 < (y5.1.length : Int)))) <| (D62 y0.1.Store (nth y5.1 y2.1.toNat) x2).bind fun y6 => (D63 y0.1.Store y6.1).bind fun y7 => (D27 y7.1 1 4000).bind fun y8 => bif (!y8.1) then (some ({ y0.1 with Txs := y5.1 }, ((⟨3, 0, (tx [])⟩ : Fw.Answer), ()))) else gd ((decide (0 ≤ y2.1)) && (decide (y2.1 < (y5.1.length : Int)))) <| some ({ y0.1 with Txs := (y5.1.set y2.1.toNat y6.1) }, (y6.2.1, ()))) := (Dn_eq _ _).trans (by kernel_rfl)
end Go.Proofs.YtdghkmbppfmifaaGreatDoor.Ri

namespace Go.Proofs.YtdghkmbppfmifaaGreatDoor.Ri
open Go.Proofs.YtdghkmbppfmifaaGreatDoor.Fw
open Go.RowKit
set_option linter.unusedVariables false
set_option maxRecDepth 100000
theorem E43 (x0 : Fw.Kernel) (x1 : Int) (x2 : Fw.Call) : D43 x0 x1 x2 = ((D40 x0).bind fun y0 => (D57 y0.1).bind fun y1 => bif (!y1.1) then (some (y0.1, ((⟨4, 0, (tx [])⟩ : Fw.Answer), ()))) else (D64 y0.1.Store x1 x2).bind fun y2 => (D40 y0.1).bind fun y3 => (D65 y3.1.Txs y2.2.2.1 0).bind fun y4 => (D61 y3.1.Txs y4.1).bind fun y5 => (D66 y0.1.Store y2.1).bind fun y6 => bif (decide ((y6.1.length : Int) > 0)) then ((D68 y6.1).bind fun y8 => (D67 y3.1.Disk.Journal y5.1 y8.1).bind fun y9 => bif (!y9.1) then (some (y0.1, ((⟨3, 0, (tx [])⟩ : Fw.Answer), ()))) else (D69 { y3.1 with Txs := y5.1 } y6.1).bind fun y10 => bif (!y10.2.1) then (some (y0.1, ((⟨3, 0, (tx [])⟩ : Fw.Answer), ()))) else gd ((decide (((y10.1.History.length + 1) * 96) ≤ 140737488355328)) && (decide ((y10.1.History.length + 1) ≤ 9223372036854775807))) <| some ({ y10.1 with Store := y2.1, Time := (IntKind.wrap .i64 (y10.1.Time + 1)), History := (y10.1.History ++ [(⟨y10.1.Seq, 1, 0, [(⟨x1, x2⟩ : Fw.Step)], [y2.2.1], (IntKind.wrap .i64 (y10.1.Time + 1)), (IntKind.wrap .i64 (y10.1.Time + 1)), (decide ((y6.1.length : Int) > 0))⟩ : Fw.Entry)]) }, (y2.2.1, ()))) else (D69 { y3.1 with Txs := y5.1 } y6.1).bind fun y7 => bif (!y7.2.1) then (some (y0.1, ((⟨3, 0, (tx [])⟩ : Fw.Answer), ()))) else gd ((decide (((y7.1.History.length + 1) * 96) ≤ 140737488355328)) && (decide ((y7.1.History.length + 1) ≤ 9223372036854775807))) <| some ({ y7.1 with Store := y2.1, Time := (IntKind.wrap .i64 (y7.1.Time + 1)), History := (y7.1.History ++ [(⟨y7.1.Seq, 1, 0, [(⟨x1, x2⟩ : Fw.Step)], [y2.2.1], (IntKind.wrap .i64 (y7.1.Time + 1)), (IntKind.wrap .i64 (y7.1.Time + 1)), (decide ((y6.1.length : Int) > 0))⟩ : Fw.Entry)]) }, (y2.2.1, ()))) := (Dn_eq _ _).trans (by kernel_rfl)
theorem E44 (x0 : Fw.Kernel) : D44 x0 = ((D40 x0).bind fun y0 => (D57 y0.1).bind fun y1 => bif (!y1.1) then (some (y0.1, ())) else (D70 y0.1.Disk.Journal).bind fun y2 => (D71 y0.1.Store).bind fun y3 => some ({ y0.1 with Disk := (⟨y0.1.Disk.Slots, y2.1⟩ : Fw.Disk), Seen := y3.1 }, ())) := (Dn_eq _ _).trans (by kernel_rfl)
theorem E45 (x0 : Fw.Kernel) : D45 x0 = ((D40 x0).bind fun y0 => (D57 y0.1).bind fun y1 => bif (!y1.1) then (some (y0.1, (false, ()))) else (D72 y0.1.Disk).bind fun y2 => some ({ y0.1 with Disk := y2.1 }, (y2.2.1, ()))) := (Dn_eq _ _).trans (by kernel_rfl)
theorem E46 (x0 : Bool) (x1 : Int) : D46 x0 x1 = (bif x0 then (some ((⟨0, 0, (tx [])⟩ : Fw.Answer), ())) else some ((⟨x1, 0, (tx [])⟩ : Fw.Answer), ())) := (Dn_eq _ _).trans (by kernel_rfl)
theorem E47 (x0 : Fw.Kernel) : D47 x0 = ((D40 x0).bind fun y0 => (D57 y0.1).bind fun y1 => bif (!y1.1) then (some (y0.1, (false, ()))) else (D73 y0.1.Disk).bind fun y2 => bif (!y2.2.1) then (some (y0.1, (false, ()))) else (D74 y2.1).bind fun y3 => some ({ y0.1 with Disk := y3.1 }, (true, ()))) := (Dn_eq _ _).trans (by kernel_rfl)
noncomputable def L48_2036 (s5 : Int) (e0_3 : ByteArray) (e0_4 : Int) (e0_5 : Int) (e0_6 : Int) (e0_7 : Int) (e0_10 : Bool) (e1 : List Fw.Cell) (e2 : List Fw.Tx) (e3 : List Fw.Slot) (e4 : List Fw.Entry) (e5 : List ByteArray) (e6_3 : ByteArray) (e6_4 : Int) (e6_5 : Int) (e6_6 : Int) (e6_7 : Int) (e6_10 : Bool) : Option (Fw.Kernel × Unit) := Ln 157 2036 (⟨63, [(2, .ok (.pt 0 0)), (4, .ok (.pt 6 0)), (5, .ok (.v (.int .i64 s5)))], [(0, .var [.sl 1, .sl 2, .sl 3, .v (.string e0_3), .v (.int .i64 e0_4), .v (.int .i64 e0_5), .v (.int .i64 e0_6), .v (.int .i64 e0_7), .sl 4, .sl 5, .v (.bool e0_10)] 34), (1, .own 152 e1), (2, .own 45 e2), (3, .own 201 e3), (4, .own 51 e4), (5, .own 9 e5), (6, .var [.v (.slice none 0 0), .v (.slice none 0 0), .v (.slice none 0 0), .v (.string e6_3), .v (.int .i64 e6_4), .v (.int .i64 e6_5), .v (.int .i64 e6_6), .v (.int .i64 e6_7), .v (.slice none 0 0), .v (.slice none 0 0), .v (.bool e6_10)] 34)]⟩, 7)
noncomputable def L48_255 (e0_3 : ByteArray) (e0_4 : Int) (e0_5 : Int) (e0_6 : Int) (e0_7 : Int) (e0_10 : Bool) (e1 : List Fw.Cell) (e2 : List Fw.Tx) (e3 : List Fw.Slot) (e4 : List Fw.Entry) (e5 : List ByteArray) (e6_3 : ByteArray) (e6_4 : Int) (e6_5 : Int) (e6_6 : Int) (e6_7 : Int) (e6_10 : Bool) : Option (Fw.Kernel × Unit) := Ln 157 255 (⟨63, [(2, .ok (.pt 0 0)), (4, .ok (.pt 6 0))], [(0, .var [.sl 1, .sl 2, .sl 3, .v (.string e0_3), .v (.int .i64 e0_4), .v (.int .i64 e0_5), .v (.int .i64 e0_6), .v (.int .i64 e0_7), .sl 4, .sl 5, .v (.bool e0_10)] 34), (1, .own 152 e1), (2, .own 45 e2), (3, .own 201 e3), (4, .own 51 e4), (5, .own 9 e5), (6, .var [.v (.slice none 0 0), .v (.slice none 0 0), .v (.slice none 0 0), .v (.string e6_3), .v (.int .i64 e6_4), .v (.int .i64 e6_5), .v (.int .i64 e6_6), .v (.int .i64 e6_7), .v (.slice none 0 0), .v (.slice none 0 0), .v (.bool e6_10)] 34)]⟩, 7)
noncomputable def L48_255b (e0_3 : ByteArray) (e0_4 : Int) (e0_5 : Int) (e0_6 : Int) (e0_7 : Int) (e0_8 : List Fw.Entry) (e0_10 : Bool) (e1 : List Fw.Cell) (e2 : List Fw.Tx) (e3 : List Fw.Slot) (e4 : List ByteArray) (e5_3 : ByteArray) (e5_4 : Int) (e5_5 : Int) (e5_6 : Int) (e5_7 : Int) (e5_10 : Bool) : Option (Fw.Kernel × Unit) := Ln 157 255 (⟨63, [(2, .ok (.pt 0 0)), (4, .ok (.pt 5 0))], [(0, .var [.sl 1, .sl 2, .sl 3, .v (.string e0_3), .v (.int .i64 e0_4), .v (.int .i64 e0_5), .v (.int .i64 e0_6), .v (.int .i64 e0_7), .ro 51 e0_8, .sl 4, .v (.bool e0_10)] 34), (1, .own 152 e1), (2, .own 45 e2), (3, .own 201 e3), (4, .own 9 e4), (5, .var [.v (.slice none 0 0), .v (.slice none 0 0), .v (.slice none 0 0), .v (.string e5_3), .v (.int .i64 e5_4), .v (.int .i64 e5_5), .v (.int .i64 e5_6), .v (.int .i64 e5_7), .v (.slice none 0 0), .v (.slice none 0 0), .v (.bool e5_10)] 34)]⟩, 6)
theorem E48 (x0 : Fw.Kernel) (x1 : Int) : D48 x0 x1 = ((D40 x0).bind fun y0 => (D57 y0.1).bind fun y1 => bif (!y1.1) then (some (y0.1, ())) else (D76 y0.1.Disk x1).bind fun y2 => (D75 y2.1).bind fun y3 => (D77 y3.1).bind fun y4 => (D78 y0.1.Txs).bind fun y5 => (D61 y0.1.Txs y5.1).bind fun y6 => L48_2036 0 y3.1.Journal.Text y3.1.Journal.Sure y4.2.1 y0.1.Next y0.1.Time y0.1.Room y4.1 y6.1 y3.1.Slots y0.1.History y0.1.Seen (tx []) 0 0 0 0 false) := (Dn_eq _ _).trans (by kernel_rfl)
theorem P48_2036 (s5 : Int) (e0_3 : ByteArray) (e0_4 : Int) (e0_5 : Int) (e0_6 : Int) (e0_7 : Int) (e0_10 : Bool) (e1 : List Fw.Cell) (e2 : List Fw.Tx) (e3 : List Fw.Slot) (e4 : List Fw.Entry) (e5 : List ByteArray) (e6_3 : ByteArray) (e6_4 : Int) (e6_5 : Int) (e6_6 : Int) (e6_7 : Int) (e6_10 : Bool) : L48_2036 s5 e0_3 e0_4 e0_5 e0_6 e0_7 e0_10 e1 e2 e3 e4 e5 e6_3 e6_4 e6_5 e6_6 e6_7 e6_10 = (bif (decide (s5 < (e4.length : Int))) then (gd ((decide (0 ≤ s5)) && (decide (s5 < (e4.length : Int)))) <| gd (((decide (0 ≤ s5)) && (decide (s5 < (e4.length : Int)))) || (!(nth e4 s5.toNat).Laid)) <| bif ((nth e4 s5.toNat).Laid && (decide ((nth e4 s5.toNat).Seq > e0_5))) then (gd ((decide (0 ≤ 0)) && ((decide (0 ≤ s5)) && (decide (s5 ≤ (e4.length : Int))))) <| L48_255b e0_3 e0_4 e0_5 e0_6 e0_7 (cutL e4 (0 : Int).toNat s5.toNat) e0_10 e1 e2 e3 e5 e6_3 e6_4 e6_5 e6_6 e6_7 e6_10) else L48_2036 (IntKind.wrap .i64 (s5 + 1)) e0_3 e0_4 e0_5 e0_6 e0_7 e0_10 e1 e2 e3 e4 e5 e6_3 e6_4 e6_5 e6_6 e6_7 e6_10) else L48_255 e0_3 e0_4 e0_5 e0_6 e0_7 e0_10 e1 e2 e3 e4 e5 e6_3 e6_4 e6_5 e6_6 e6_7 e6_10) := (Ln_eq _ _ _).trans (by kernel_rfl)
theorem P48_255 (e0_3 : ByteArray) (e0_4 : Int) (e0_5 : Int) (e0_6 : Int) (e0_7 : Int) (e0_10 : Bool) (e1 : List Fw.Cell) (e2 : List Fw.Tx) (e3 : List Fw.Slot) (e4 : List Fw.Entry) (e5 : List ByteArray) (e6_3 : ByteArray) (e6_4 : Int) (e6_5 : Int) (e6_6 : Int) (e6_7 : Int) (e6_10 : Bool) : L48_255 e0_3 e0_4 e0_5 e0_6 e0_7 e0_10 e1 e2 e3 e4 e5 e6_3 e6_4 e6_5 e6_6 e6_7 e6_10 = (some ((⟨e1, e2, (⟨e3, (⟨e0_3, e0_4⟩ : Fw.Journal)⟩ : Fw.Disk), e0_5, e0_6, e0_7, e4, e5, e0_10⟩ : Fw.Kernel), ())) := (Ln_eq _ _ _).trans (by kernel_rfl)
theorem P48_255b (e0_3 : ByteArray) (e0_4 : Int) (e0_5 : Int) (e0_6 : Int) (e0_7 : Int) (e0_8 : List Fw.Entry) (e0_10 : Bool) (e1 : List Fw.Cell) (e2 : List Fw.Tx) (e3 : List Fw.Slot) (e4 : List ByteArray) (e5_3 : ByteArray) (e5_4 : Int) (e5_5 : Int) (e5_6 : Int) (e5_7 : Int) (e5_10 : Bool) : L48_255b e0_3 e0_4 e0_5 e0_6 e0_7 e0_8 e0_10 e1 e2 e3 e4 e5_3 e5_4 e5_5 e5_6 e5_7 e5_10 = (some ((⟨e1, e2, (⟨e3, (⟨e0_3, e0_4⟩ : Fw.Journal)⟩ : Fw.Disk), e0_5, e0_6, e0_7, e0_8, e4, e0_10⟩ : Fw.Kernel), ())) := (Ln_eq _ _ _).trans (by kernel_rfl)
noncomputable def L49_31 (e0_0 : List Fw.Cell) (e0_1 : List Fw.Tx) (e0_2 : List Fw.Slot) (e0_3 : ByteArray) (e0_4 : Int) (e0_5 : Int) (e0_6 : Int) (e0_7 : Int) (e0_8 : List Fw.Entry) (e0_9 : List ByteArray) (e0_10 : Bool) (e1_3 : ByteArray) (e1_4 : Int) (e1_5 : Int) (e1_6 : Int) (e1_7 : Int) (e1_10 : Bool) (e2_0 : Int) (e2_1 : Int) (e2_2 : ByteArray) (e3_0 : Int) (e3_1 : Int) (e3_2 : ByteArray) : Option (Fw.Kernel × Fw.Answer × Unit) := Ln 158 31 (⟨79, [(2, .ok (.pt 0 0)), (4, .ok (.pt 1 0)), (5, .ok (.pt 2 0)), (6, .ok (.pt 3 0))], [(0, .var [.ro 152 e0_0, .ro 45 e0_1, .ro 201 e0_2, .v (.string e0_3), .v (.int .i64 e0_4), .v (.int .i64 e0_5), .v (.int .i64 e0_6), .v (.int .i64 e0_7), .ro 51 e0_8, .ro 9 e0_9, .v (.bool e0_10)] 34), (1, .var [.v (.slice none 0 0), .v (.slice none 0 0), .v (.slice none 0 0), .v (.string e1_3), .v (.int .i64 e1_4), .v (.int .i64 e1_5), .v (.int .i64 e1_6), .v (.int .i64 e1_7), .v (.slice none 0 0), .v (.slice none 0 0), .v (.bool e1_10)] 34), (2, .var [.v (.int .i64 e2_0), .v (.int .i64 e2_1), .v (.string e2_2)] 170), (3, .var [.v (.int .i64 e3_0), .v (.int .i64 e3_1), .v (.string e3_2)] 170)]⟩, 4)
theorem E49 (x0 : Fw.Kernel) (x1 : Fw.Deed) : D49 x0 x1 = (bif (decide (x1.Kind = 1)) then ((D79 x0 x1.N 0).bind fun y7 => L49_31 y7.1.Store y7.1.Txs y7.1.Disk.Slots y7.1.Disk.Journal.Text y7.1.Disk.Journal.Sure y7.1.Seq y7.1.Next y7.1.Time y7.1.History y7.1.Seen y7.1.Room (tx []) 0 0 0 0 false 0 0 (tx []) y7.2.2.1 y7.2.1 (tx [])) else bif (decide (x1.Kind = 12)) then ((D80 x0 x1.N).bind fun y6 => L49_31 y6.1.Store y6.1.Txs y6.1.Disk.Slots y6.1.Disk.Journal.Text y6.1.Disk.Journal.Sure y6.1.Seq y6.1.Next y6.1.Time y6.1.History y6.1.Seen y6.1.Room (tx []) 0 0 0 0 false 0 0 (tx []) y6.2.2.1 y6.2.1 (tx [])) else bif (decide (x1.Kind = 3)) then ((D81 x0 x1.N).bind fun y5 => L49_31 y5.1.Store y5.1.Txs y5.1.Disk.Slots y5.1.Disk.Journal.Text y5.1.Disk.Journal.Sure y5.1.Seq y5.1.Next y5.1.Time y5.1.History y5.1.Seen y5.1.Room (tx []) 0 0 0 0 false 0 0 (tx []) 0 y5.2.1 (tx [])) else bif (decide (x1.Kind = 4)) then ((D82 x0 x1.N x1.M).bind fun y3 => (D46 y3.2.1 21).bind fun y4 => L49_31 y3.1.Store y3.1.Txs y3.1.Disk.Slots y3.1.Disk.Journal.Text y3.1.Disk.Journal.Sure y3.1.Seq y3.1.Next y3.1.Time y3.1.History y3.1.Seen y3.1.Room (tx []) 0 0 0 0 false 0 0 (tx []) y4.1.Code y4.1.N y4.1.Text) else bif (decide (x1.Kind = 5)) then ((D83 x0 x1.N).bind fun y1 => (D46 y1.2.1 21).bind fun y2 => L49_31 y1.1.Store y1.1.Txs y1.1.Disk.Slots y1.1.Disk.Journal.Text y1.1.Disk.Journal.Sure y1.1.Seq y1.1.Next y1.1.Time y1.1.History y1.1.Seen y1.1.Room (tx []) 0 0 0 0 false 0 0 (tx []) y2.1.Code y2.1.N y2.1.Text) else (D84 x0 x1.N).bind fun y0 => L49_31 y0.1.Store y0.1.Txs y0.1.Disk.Slots y0.1.Disk.Journal.Text y0.1.Disk.Journal.Sure y0.1.Seq y0.1.Next y0.1.Time y0.1.History y0.1.Seen y0.1.Room (tx []) 0 0 0 0 false 0 0 (tx []) y0.2.1 0 (tx [])) := (Dn_eq _ _).trans (by kernel_rfl)
theorem P49_31 (e0_0 : List Fw.Cell) (e0_1 : List Fw.Tx) (e0_2 : List Fw.Slot) (e0_3 : ByteArray) (e0_4 : Int) (e0_5 : Int) (e0_6 : Int) (e0_7 : Int) (e0_8 : List Fw.Entry) (e0_9 : List ByteArray) (e0_10 : Bool) (e1_3 : ByteArray) (e1_4 : Int) (e1_5 : Int) (e1_6 : Int) (e1_7 : Int) (e1_10 : Bool) (e2_0 : Int) (e2_1 : Int) (e2_2 : ByteArray) (e3_0 : Int) (e3_1 : Int) (e3_2 : ByteArray) : L49_31 e0_0 e0_1 e0_2 e0_3 e0_4 e0_5 e0_6 e0_7 e0_8 e0_9 e0_10 e1_3 e1_4 e1_5 e1_6 e1_7 e1_10 e2_0 e2_1 e2_2 e3_0 e3_1 e3_2 = (some ((⟨e0_0, e0_1, (⟨e0_2, (⟨e0_3, e0_4⟩ : Fw.Journal)⟩ : Fw.Disk), e0_5, e0_6, e0_7, e0_8, e0_9, e0_10⟩ : Fw.Kernel), ((⟨e3_0, e3_1, e3_2⟩ : Fw.Answer), ()))) := (Ln_eq _ _ _).trans (by kernel_rfl)
noncomputable def L50_511 (e0_0 : List UInt8) (e0_1 : Int) (e0_2 : Int) (e1_0 : Int) (e1_1 : ByteArray) (e1_2 : ByteArray) (e1_3 : Int) (e1_4 : Int) (e1_5 : ByteArray) (e2_0 : Int) (e2_1 : ByteArray) (e2_2 : ByteArray) (e2_3 : Int) (e2_4 : Int) (e2_5 : ByteArray) : Option (Fw.Call × L01Cur × Unit) := Ln 111 511 (⟨36, [(0, .ok (.pt 0 0)), (2, .ok (.pt 1 0)), (3, .ok (.pt 2 0))], [(0, .var [.ro 5 e0_0, .v (.int .i64 e0_1), .v (.int .i64 e0_2)] 106), (1, .var [.v (.int .i64 e1_0), .v (.string e1_1), .v (.string e1_2), .v (.int .i64 e1_3), .v (.int .i64 e1_4), .v (.string e1_5)] 119), (2, .var [.v (.int .i64 e2_0), .v (.string e2_1), .v (.string e2_2), .v (.int .i64 e2_3), .v (.int .i64 e2_4), .v (.string e2_5)] 119)]⟩, 3)
theorem E50 (x0 : L01Cur) : D50 x0 = ((D51 x0 [1, 1, 2, 3, 4, 5, 6, 6, 7, 7, 8, 9, 10, 10, 11, 11, 12, 13, 14, 15, 16, 17, 18, 19, 20, 21, 22, 22]).bind fun y0 => (D85 y0.2.1 [(tx [120]), (tx [121]), (tx [108, 111, 103])]).bind fun y1 => (D85 y1.2.1 [(tx [120]), (tx [121]), (tx [122])]).bind fun y2 => (D26 y2.2.1 4).bind fun y3 => (D26 y3.2.1 12).bind fun y4 => (D26 y4.2.1 12).bind fun y5 => (D86 y5.2.1 y5.1).bind fun y6 => bif (decide (y0.1 = 6)) then ((D26 y6.2.1 12).bind fun y7 => L50_511 y7.2.1.b y7.2.1.i y7.2.1.h 0 (tx []) (tx []) 0 0 (tx []) y0.1 y1.1 y2.1 y7.1 (IntKind.wrap .i64 (1 + y4.1)) y6.1) else L50_511 y6.2.1.b y6.2.1.i y6.2.1.h 0 (tx []) (tx []) 0 0 (tx []) y0.1 y1.1 y2.1 y3.1 (IntKind.wrap .i64 (1 + y4.1)) y6.1) := (Dn_eq _ _).trans (by kernel_rfl)
theorem P50_511 (e0_0 : List UInt8) (e0_1 : Int) (e0_2 : Int) (e1_0 : Int) (e1_1 : ByteArray) (e1_2 : ByteArray) (e1_3 : Int) (e1_4 : Int) (e1_5 : ByteArray) (e2_0 : Int) (e2_1 : ByteArray) (e2_2 : ByteArray) (e2_3 : Int) (e2_4 : Int) (e2_5 : ByteArray) : L50_511 e0_0 e0_1 e0_2 e1_0 e1_1 e1_2 e1_3 e1_4 e1_5 e2_0 e2_1 e2_2 e2_3 e2_4 e2_5 = ((D87 (⟨e2_0, e2_1, e2_2, e2_3, e2_4, e2_5⟩ : Fw.Call)).bind fun y0 => some (y0.1, ((⟨e0_0, e0_1, e0_2⟩ : L01Cur), ()))) := (Ln_eq _ _ _).trans (by kernel_rfl)
theorem E51 (x0 : L01Cur) (x1 : List Int) : D51 x0 x1 = ((D26 x0 (x1.length : Int)).bind fun y0 => gd ((decide (0 ≤ y0.1)) && (decide (y0.1 < (x1.length : Int)))) <| some ((nth x1 y0.1.toNat), (y0.2.1, ()))) := (Dn_eq _ _).trans (by kernel_rfl)
theorem E52 (x0 : Fw.Mach) (x1 : Int) : D52 x0 x1 = ((D88 x0 (tx [99, 47, 112, 114, 111, 99])).bind fun y0 => bif (decide (y0.2.1 ≥ 12)) then (some (y0.1, (0, (3, ())))) else (D89 y0.1 (tx [99, 47, 112, 114, 111, 99])).bind fun y1 => (D91 y1.2.1 (tx [47, 115])).bind fun y2 => (D90 y1.1 y2.1 1).bind fun y3 => (D91 y1.2.1 (tx [47, 112])).bind fun y4 => (D90 y3.1 y4.1 x1).bind fun y5 => some (y5.1, (y1.2.1, (0, ())))) := (Dn_eq _ _).trans (by kernel_rfl)
theorem E53 (x0 : List Fw.Cell) : D53 x0 = (gd ((decide (((0 + x0.length) * 32) ≤ 140737488355328)) && (decide ((0 + x0.length) ≤ 9223372036854775807))) <| some ((⟨([] ++ x0), (⟨[], []⟩ : Fw.Touch)⟩ : Fw.Mach), ())) := (Dn_eq _ _).trans (by kernel_rfl)
noncomputable def L54_116 (s0 : List Fw.Tx) (s4 : Int) (e0 : List Fw.Tx) : Option ((List Fw.Tx) × Unit) := Ln 209 116 (⟨21, [(0, .ok (.ro 45 s0)), (3, .ok (.sl 0)), (4, .ok (.v (.int .i64 s4)))], [(0, .own 45 e0)]⟩, 1)
noncomputable def L54_15 (e0 : List Fw.Tx) : Option ((List Fw.Tx) × Unit) := Ln 209 15 (⟨21, [(3, .ok (.sl 0))], [(0, .own 45 e0)]⟩, 1)
theorem E54 (x0 : List Fw.Tx) : D54 x0 = (L54_116 x0 0 []) := (Dn_eq _ _).trans (by kernel_rfl)
theorem P54_116 (s0 : List Fw.Tx) (s4 : Int) (e0 : List Fw.Tx) : L54_116 s0 s4 e0 = (bif (decide (s4 < (s0.length : Int))) then (gd ((decide (0 ≤ s4)) && (decide (s4 < (s0.length : Int)))) <| (D92 (nth s0 s4.toNat)).bind fun y0 => gd ((decide (((e0.length + 1) * 160) ≤ 140737488355328)) && (decide ((e0.length + 1) ≤ 9223372036854775807))) <| L54_116 s0 (IntKind.wrap .i64 (s4 + 1)) (e0 ++ [y0.1])) else L54_15 e0) := (Ln_eq _ _ _).trans (by kernel_rfl)
theorem P54_15 (e0 : List Fw.Tx) : L54_15 e0 = (some (e0, ())) := (Ln_eq _ _ _).trans (by kernel_rfl)
noncomputable def L55_116 (s4 : Int) (e0_0 : List Fw.Slot) (e0_1 : ByteArray) (e0_2 : Int) (e1_1 : ByteArray) (e1_2 : Int) (e2_1 : ByteArray) (e2_2 : Int) : Option (Fw.Disk × Unit) := Ln 210 116 (⟨33, [(1, .ok (.pt 0 0)), (2, .ok (.pt 1 0)), (3, .ok (.pt 2 0)), (4, .ok (.v (.int .i64 s4)))], [(0, .var [.ro 201 e0_0, .v (.string e0_1), .v (.int .i64 e0_2)] 30), (1, .var [.v (.slice none 0 0), .v (.string e1_1), .v (.int .i64 e1_2)] 30), (2, .var [.v (.slice none 0 0), .v (.string e2_1), .v (.int .i64 e2_2)] 30)]⟩, 3)
noncomputable def L55_15 (e0_1 : ByteArray) (e0_2 : Int) (e1_1 : ByteArray) (e1_2 : Int) : Option (Fw.Disk × Unit) := Ln 210 15 (⟨33, [(2, .ok (.pt 0 0)), (3, .ok (.pt 1 0))], [(0, .var [.v (.slice none 0 0), .v (.string e0_1), .v (.int .i64 e0_2)] 30), (1, .var [.v (.slice none 0 0), .v (.string e1_1), .v (.int .i64 e1_2)] 30)]⟩, 2)
noncomputable def L55_116b (s4 : Int) (e0_0 : List Fw.Slot) (e0_1 : ByteArray) (e0_2 : Int) (e1_1 : ByteArray) (e1_2 : Int) (e2_1 : ByteArray) (e2_2 : Int) (e3 : List Fw.Slot) : Option (Fw.Disk × Unit) := Ln 210 116 (⟨33, [(1, .ok (.pt 0 0)), (2, .ok (.pt 1 0)), (3, .ok (.pt 2 0)), (4, .ok (.v (.int .i64 s4)))], [(0, .var [.ro 201 e0_0, .v (.string e0_1), .v (.int .i64 e0_2)] 30), (1, .var [.v (.slice none 0 0), .v (.string e1_1), .v (.int .i64 e1_2)] 30), (2, .var [.sl 3, .v (.string e2_1), .v (.int .i64 e2_2)] 30), (3, .own 201 e3)]⟩, 4)
noncomputable def L55_15b (e0_1 : ByteArray) (e0_2 : Int) (e1_1 : ByteArray) (e1_2 : Int) (e2 : List Fw.Slot) : Option (Fw.Disk × Unit) := Ln 210 15 (⟨33, [(2, .ok (.pt 0 0)), (3, .ok (.pt 1 0))], [(0, .var [.v (.slice none 0 0), .v (.string e0_1), .v (.int .i64 e0_2)] 30), (1, .var [.sl 2, .v (.string e1_1), .v (.int .i64 e1_2)] 30), (2, .own 201 e2)]⟩, 3)
theorem E55 (x0 : Fw.Disk) : D55 x0 = (L55_116 0 x0.Slots x0.Journal.Text x0.Journal.Sure (tx []) 0 x0.Journal.Text x0.Journal.Sure) := (Dn_eq _ _).trans (by kernel_rfl)
theorem P55_116 (s4 : Int) (e0_0 : List Fw.Slot) (e0_1 : ByteArray) (e0_2 : Int) (e1_1 : ByteArray) (e1_2 : Int) (e2_1 : ByteArray) (e2_2 : Int) : L55_116 s4 e0_0 e0_1 e0_2 e1_1 e1_2 e2_1 e2_2 = (bif (decide (s4 < (e0_0.length : Int))) then (gd ((decide (0 ≤ s4)) && (decide (s4 < (e0_0.length : Int)))) <| gd ((decide (((0 + (nth e0_0 s4.toNat).Cells.length) * 32) ≤ 140737488355328)) && (decide ((0 + (nth e0_0 s4.toNat).Cells.length) ≤ 9223372036854775807))) <| gd ((decide ((1 * 40) ≤ 140737488355328)) && (decide (1 ≤ 9223372036854775807))) <| L55_116b (IntKind.wrap .i64 (s4 + 1)) e0_0 e0_1 e0_2 e1_1 e1_2 e2_1 e2_2 [{ (nth e0_0 s4.toNat) with Cells := ([] ++ (nth e0_0 s4.toNat).Cells) }]) else L55_15 e1_1 e1_2 e2_1 e2_2) := (Ln_eq _ _ _).trans (by kernel_rfl)
theorem P55_15 (e0_1 : ByteArray) (e0_2 : Int) (e1_1 : ByteArray) (e1_2 : Int) : L55_15 e0_1 e0_2 e1_1 e1_2 = (some ((⟨[], (⟨e1_1, e1_2⟩ : Fw.Journal)⟩ : Fw.Disk), ())) := (Ln_eq _ _ _).trans (by kernel_rfl)
theorem P55_116b (s4 : Int) (e0_0 : List Fw.Slot) (e0_1 : ByteArray) (e0_2 : Int) (e1_1 : ByteArray) (e1_2 : Int) (e2_1 : ByteArray) (e2_2 : Int) (e3 : List Fw.Slot) : L55_116b s4 e0_0 e0_1 e0_2 e1_1 e1_2 e2_1 e2_2 e3 = (bif (decide (s4 < (e0_0.length : Int))) then (gd ((decide (0 ≤ s4)) && (decide (s4 < (e0_0.length : Int)))) <| gd ((decide (((0 + (nth e0_0 s4.toNat).Cells.length) * 32) ≤ 140737488355328)) && (decide ((0 + (nth e0_0 s4.toNat).Cells.length) ≤ 9223372036854775807))) <| gd ((decide (((e3.length + 1) * 40) ≤ 140737488355328)) && (decide ((e3.length + 1) ≤ 9223372036854775807))) <| L55_116b (IntKind.wrap .i64 (s4 + 1)) e0_0 e0_1 e0_2 e1_1 e1_2 e2_1 e2_2 (e3 ++ [{ (nth e0_0 s4.toNat) with Cells := ([] ++ (nth e0_0 s4.toNat).Cells) }])) else L55_15b e1_1 e1_2 e2_1 e2_2 e3) := (Ln_eq _ _ _).trans (by kernel_rfl)
theorem P55_15b (e0_1 : ByteArray) (e0_2 : Int) (e1_1 : ByteArray) (e1_2 : Int) (e2 : List Fw.Slot) : L55_15b e0_1 e0_2 e1_1 e1_2 e2 = (some ((⟨e2, (⟨e1_1, e1_2⟩ : Fw.Journal)⟩ : Fw.Disk), ())) := (Ln_eq _ _ _).trans (by kernel_rfl)
theorem E56 (x0 : Fw.Entry) : D56 x0 = (gd ((decide (((0 + x0.Steps.length) * 80) ≤ 140737488355328)) && (decide ((0 + x0.Steps.length) ≤ 9223372036854775807))) <| gd ((decide (((0 + x0.Answers.length) * 32) ≤ 140737488355328)) && (decide ((0 + x0.Answers.length) ≤ 9223372036854775807))) <| some ({ x0 with Steps := ([] ++ x0.Steps), Answers := ([] ++ x0.Answers) }, ())) := (Dn_eq _ _).trans (by kernel_rfl)
noncomputable def L57_52 (s3 : Int) (e0_0 : List Fw.Cell) (e0_1 : List Fw.Tx) (e0_2 : List Fw.Slot) (e0_3 : ByteArray) (e0_4 : Int) (e0_5 : Int) (e0_6 : Int) (e0_7 : Int) (e0_8 : List Fw.Entry) (e0_9 : List ByteArray) (e0_10 : Bool) : Option (Bool × Unit) := Ln 212 52 (⟨51, [(1, .ok (.pt 0 0)), (3, .ok (.v (.int .i64 s3)))], [(0, .var [.ro 152 e0_0, .ro 45 e0_1, .ro 201 e0_2, .v (.string e0_3), .v (.int .i64 e0_4), .v (.int .i64 e0_5), .v (.int .i64 e0_6), .v (.int .i64 e0_7), .ro 51 e0_8, .ro 9 e0_9, .v (.bool e0_10)] 34)]⟩, 1)
noncomputable def L57_7 (e0_0 : List Fw.Cell) (e0_1 : List Fw.Tx) (e0_2 : List Fw.Slot) (e0_3 : ByteArray) (e0_4 : Int) (e0_5 : Int) (e0_6 : Int) (e0_7 : Int) (e0_8 : List Fw.Entry) (e0_9 : List ByteArray) (e0_10 : Bool) : Option (Bool × Unit) := Ln 212 7 (⟨51, [(1, .ok (.pt 0 0))], [(0, .var [.ro 152 e0_0, .ro 45 e0_1, .ro 201 e0_2, .v (.string e0_3), .v (.int .i64 e0_4), .v (.int .i64 e0_5), .v (.int .i64 e0_6), .v (.int .i64 e0_7), .ro 51 e0_8, .ro 9 e0_9, .v (.bool e0_10)] 34)]⟩, 1)
theorem E57 (x0 : Fw.Kernel) : D57 x0 = (L57_52 0 x0.Store x0.Txs x0.Disk.Slots x0.Disk.Journal.Text x0.Disk.Journal.Sure x0.Seq x0.Next x0.Time x0.History x0.Seen x0.Room) := (Dn_eq _ _).trans (by kernel_rfl)
theorem P57_52 (s3 : Int) (e0_0 : List Fw.Cell) (e0_1 : List Fw.Tx) (e0_2 : List Fw.Slot) (e0_3 : ByteArray) (e0_4 : Int) (e0_5 : Int) (e0_6 : Int) (e0_7 : Int) (e0_8 : List Fw.Entry) (e0_9 : List ByteArray) (e0_10 : Bool) : L57_52 s3 e0_0 e0_1 e0_2 e0_3 e0_4 e0_5 e0_6 e0_7 e0_8 e0_9 e0_10 = (bif (decide (s3 < (e0_1.length : Int))) then (gd ((decide (0 ≤ s3)) && (decide (s3 < (e0_1.length : Int)))) <| gd (((decide (0 ≤ s3)) && (decide (s3 < (e0_1.length : Int)))) || (!(!(decide ((nth e0_1 s3.toNat).Id ≥ e0_6))))) <| bif (!(decide ((nth e0_1 s3.toNat).Id ≥ e0_6))) then ((D93 e0_1 (nth e0_1 s3.toNat).Id).bind fun y0 => bif (!(decide (y0.1 = s3))) then (some (false, ())) else L57_52 (IntKind.wrap .i64 (s3 + 1)) e0_0 e0_1 e0_2 e0_3 e0_4 e0_5 e0_6 e0_7 e0_8 e0_9 e0_10) else some (false, ())) else L57_7 e0_0 e0_1 e0_2 e0_3 e0_4 e0_5 e0_6 e0_7 e0_8 e0_9 e0_10) := (Ln_eq _ _ _).trans (by kernel_rfl)
theorem P57_7 (e0_0 : List Fw.Cell) (e0_1 : List Fw.Tx) (e0_2 : List Fw.Slot) (e0_3 : ByteArray) (e0_4 : Int) (e0_5 : Int) (e0_6 : Int) (e0_7 : Int) (e0_8 : List Fw.Entry) (e0_9 : List ByteArray) (e0_10 : Bool) : L57_7 e0_0 e0_1 e0_2 e0_3 e0_4 e0_5 e0_6 e0_7 e0_8 e0_9 e0_10 = ((D94 e0_0).bind fun y0 => bif y0.1 then ((D95 (⟨e0_2, (⟨e0_3, e0_4⟩ : Fw.Journal)⟩ : Fw.Disk)).bind fun y1 => bif y1.1 then ((D27 e0_5 0 99000).bind fun y2 => bif y2.1 then ((D96 e0_1).bind fun y3 => some (y3.1, ())) else some (false, ())) else some (false, ())) else some (false, ())) := (Ln_eq _ _ _).trans (by kernel_rfl)
noncomputable def L58_52 (s1 : Int) (s5 : Int) (e0_0 : List Fw.Cell) (e0_1 : List Fw.Tx) (e0_2 : List Fw.Slot) (e0_3 : ByteArray) (e0_4 : Int) (e0_5 : Int) (e0_6 : Int) (e0_7 : Int) (e0_8 : List Fw.Entry) (e0_9 : List ByteArray) (e0_10 : Bool) : Option (Int × Unit) := Ln 213 52 (⟨31, [(1, .ok (.v (.int .i64 s1))), (2, .ok (.pt 0 0)), (5, .ok (.v (.int .i64 s5)))], [(0, .var [.ro 152 e0_0, .ro 45 e0_1, .ro 201 e0_2, .v (.string e0_3), .v (.int .i64 e0_4), .v (.int .i64 e0_5), .v (.int .i64 e0_6), .v (.int .i64 e0_7), .ro 51 e0_8, .ro 9 e0_9, .v (.bool e0_10)] 34)]⟩, 1)
noncomputable def L58_7  : Option (Int × Unit) := Ln 213 7 (⟨31, [], []⟩, 0)
theorem E58 (x0 : Fw.Kernel) (x1 : Int) : D58 x0 x1 = (L58_52 x1 0 x0.Store x0.Txs x0.Disk.Slots x0.Disk.Journal.Text x0.Disk.Journal.Sure x0.Seq x0.Next x0.Time x0.History x0.Seen x0.Room) := (Dn_eq _ _).trans (by kernel_rfl)
theorem P58_52 (s1 : Int) (s5 : Int) (e0_0 : List Fw.Cell) (e0_1 : List Fw.Tx) (e0_2 : List Fw.Slot) (e0_3 : ByteArray) (e0_4 : Int) (e0_5 : Int) (e0_6 : Int) (e0_7 : Int) (e0_8 : List Fw.Entry) (e0_9 : List ByteArray) (e0_10 : Bool) : L58_52 s1 s5 e0_0 e0_1 e0_2 e0_3 e0_4 e0_5 e0_6 e0_7 e0_8 e0_9 e0_10 = (bif (decide (s5 < (e0_1.length : Int))) then (gd ((decide (0 ≤ s5)) && (decide (s5 < (e0_1.length : Int)))) <| gd (((decide (0 ≤ s5)) && (decide (s5 < (e0_1.length : Int)))) || (!(decide ((nth e0_1 s5.toNat).Id = s1)))) <| bif ((decide ((nth e0_1 s5.toNat).Id = s1)) && (decide ((nth e0_1 s5.toNat).State = 1))) then (some (s5, ())) else L58_52 s1 (IntKind.wrap .i64 (s5 + 1)) e0_0 e0_1 e0_2 e0_3 e0_4 e0_5 e0_6 e0_7 e0_8 e0_9 e0_10) else L58_7) := (Ln_eq _ _ _).trans (by kernel_rfl)
theorem P58_7  : L58_7 = (some ((-1), ())) := (Ln_eq _ _ _).trans (by kernel_rfl)
end Go.Proofs.YtdghkmbppfmifaaGreatDoor.Ri

namespace Go.Proofs.YtdghkmbppfmifaaGreatDoor.Ri
open Go.Proofs.YtdghkmbppfmifaaGreatDoor.Fw
open Go.RowKit
set_option linter.unusedVariables false
set_option maxRecDepth 100000
theorem E59 (x0 : List Fw.Tx) (x1 : Fw.Tx) (x2 : Fw.Touch) : D59 x0 x1 x2 = ((D65 x0 x2 x1.Id).bind fun y0 => (D97 x0 y0.1 x1).bind fun y1 => bif (!y1.1) then (some ([], (false, ()))) else some (y0.1, (true, ()))) := (Dn_eq _ _).trans (by kernel_rfl)
theorem E60 (x0 : List Fw.Cell) (x1 : Fw.Tx) (x2 : Fw.Call) : D60 x0 x1 x2 = ((D98 x0 x1).bind fun y0 => (D64 y0.1 x1.Proc x2).bind fun y1 => some (y1.2.2.1, ())) := (Dn_eq _ _).trans (by kernel_rfl)
noncomputable def L61_116 (s1 : List Int) (s6 : Int) (e0 : List Fw.Tx) : Option ((List Fw.Tx) × Unit) := Ln 216 116 (⟨35, [(1, .ok (.ro 3 s1)), (5, .ok (.sl 0)), (6, .ok (.v (.int .i64 s6)))], [(0, .own 45 e0)]⟩, 1)
noncomputable def L61_15 (e0 : List Fw.Tx) : Option ((List Fw.Tx) × Unit) := Ln 216 15 (⟨35, [(5, .ok (.sl 0))], [(0, .own 45 e0)]⟩, 1)
noncomputable def L61_467 (s1 : List Int) (s6 : Int) (e0 : List Fw.Tx) : Option ((List Fw.Tx) × Unit) := Ln 216 467 (⟨35, [(1, .ok (.ro 3 s1)), (5, .ok (.sl 0)), (6, .ok (.v (.int .i64 s6)))], [(0, .own 45 e0)]⟩, 1)
theorem E61 (x0 : List Fw.Tx) (x1 : List Int) : D61 x0 x1 = ((D54 x0).bind fun y0 => L61_116 x1 0 y0.1) := (Dn_eq _ _).trans (by kernel_rfl)
theorem P61_116 (s1 : List Int) (s6 : Int) (e0 : List Fw.Tx) : L61_116 s1 s6 e0 = (bif (decide (s6 < (e0.length : Int))) then (gd ((decide (0 ≤ s6)) && (decide (s6 < (e0.length : Int)))) <| gd (((decide (0 ≤ s6)) && (decide (s6 < (e0.length : Int)))) || (!(decide ((nth e0 s6.toNat).State = 1)))) <| bif (decide ((nth e0 s6.toNat).State = 1)) then ((D99 s1 (nth e0 s6.toNat).Id).bind fun y0 => bif y0.1 then (gd ((decide (0 ≤ s6)) && (decide (s6 < (e0.length : Int)))) <| L61_467 s1 s6 (e0.set s6.toNat { (nth e0 s6.toNat) with State := 3 })) else L61_467 s1 s6 e0) else L61_467 s1 s6 e0) else L61_15 e0) := (Ln_eq _ _ _).trans (by kernel_rfl)
theorem P61_15 (e0 : List Fw.Tx) : L61_15 e0 = (some (e0, ())) := (Ln_eq _ _ _).trans (by kernel_rfl)
theorem P61_467 (s1 : List Int) (s6 : Int) (e0 : List Fw.Tx) : L61_467 s1 s6 e0 = (L61_116 s1 (IntKind.wrap .i64 (s6 + 1)) e0) := (Ln_eq _ _ _).trans (by kernel_rfl)
theorem E62 (x0 : List Fw.Cell) (x1 : Fw.Tx) (x2 : Fw.Call) : D62 x0 x1 x2 = ((D92 x1).bind fun y0 => bif (!(decide (y0.1.State = 1))) then (some (y0.1, ((⟨2, 0, (tx [])⟩ : Fw.Answer), ()))) else bif (decide ((y0.1.Calls.length : Int) ≥ 12)) then (some (y0.1, ((⟨3, 0, (tx [])⟩ : Fw.Answer), ()))) else (D98 x0 y0.1).bind fun y1 => (D64 y1.1 y0.1.Proc x2).bind fun y2 => gd ((decide (((y0.1.Calls.length + 1) * 72) ≤ 140737488355328)) && (decide ((y0.1.Calls.length + 1) ≤ 9223372036854775807))) <| gd ((decide (((y0.1.Answers.length + 1) * 32) ≤ 140737488355328)) && (decide ((y0.1.Answers.length + 1) ≤ 9223372036854775807))) <| (D100 y0.1.Touch y2.2.2.1).bind fun y3 => some ({ y0.1 with Calls := (y0.1.Calls ++ [x2]), Answers := (y0.1.Answers ++ [y2.2.1]), Touch := y3.1 }, (y2.2.1, ()))) := (Dn_eq _ _).trans (by kernel_rfl)
theorem E63 (x0 : List Fw.Cell) (x1 : Fw.Tx) : D63 x0 x1 = ((D98 x0 x1).bind fun y0 => (D66 x0 y0.1).bind fun y1 => (D68 y1.1).bind fun y2 => some (y2.1, ())) := (Dn_eq _ _).trans (by kernel_rfl)
theorem E64 (x0 : List Fw.Cell) (x1 : Int) (x2 : Fw.Call) : D64 x0 x1 x2 = ((D53 x0).bind fun y0 => (D101 y0.1 x1 x2).bind fun y1 => some (y1.1.Store, (y1.2.1, (y1.1.Touch, ())))) := (Dn_eq _ _).trans (by kernel_rfl)
noncomputable def L65_116 (s0 : List Fw.Tx) (s2 : Int) (s8 : Int) (e0_0 : List ByteArray) (e0_1 : List ByteArray) (e1 : List Int) : Option ((List Int) × Unit) := Ln 219 116 (⟨49, [(0, .ok (.ro 45 s0)), (2, .ok (.v (.int .i64 s2))), (4, .ok (.pt 0 0)), (7, .ok (.sl 1)), (8, .ok (.v (.int .i64 s8)))], [(0, .var [.ro 9 e0_0, .ro 9 e0_1] 42), (1, .own 3 e1)]⟩, 2)
noncomputable def L65_15 (e0 : List Int) : Option ((List Int) × Unit) := Ln 219 15 (⟨49, [(7, .ok (.sl 0))], [(0, .own 3 e0)]⟩, 1)
noncomputable def L65_467 (s0 : List Fw.Tx) (s2 : Int) (s8 : Int) (e0_0 : List ByteArray) (e0_1 : List ByteArray) (e1 : List Int) : Option ((List Int) × Unit) := Ln 219 467 (⟨49, [(0, .ok (.ro 45 s0)), (2, .ok (.v (.int .i64 s2))), (4, .ok (.pt 0 0)), (7, .ok (.sl 1)), (8, .ok (.v (.int .i64 s8)))], [(0, .var [.ro 9 e0_0, .ro 9 e0_1] 42), (1, .own 3 e1)]⟩, 2)
theorem E65 (x0 : List Fw.Tx) (x1 : Fw.Touch) (x2 : Int) : D65 x0 x1 x2 = (L65_116 x0 x2 0 x1.Reads x1.Writes []) := (Dn_eq _ _).trans (by kernel_rfl)
theorem P65_116 (s0 : List Fw.Tx) (s2 : Int) (s8 : Int) (e0_0 : List ByteArray) (e0_1 : List ByteArray) (e1 : List Int) : L65_116 s0 s2 s8 e0_0 e0_1 e1 = (bif (decide (s8 < (s0.length : Int))) then (gd ((decide (0 ≤ s8)) && (decide (s8 < (s0.length : Int)))) <| gd (((decide (0 ≤ s8)) && (decide (s8 < (s0.length : Int)))) || (!(decide ((nth s0 s8.toNat).State = 1)))) <| gd (((decide (0 ≤ s8)) && (decide (s8 < (s0.length : Int)))) || (!((decide ((nth s0 s8.toNat).State = 1)) && (!(decide ((nth s0 s8.toNat).Id = s2)))))) <| bif ((decide ((nth s0 s8.toNat).State = 1)) && (!(decide ((nth s0 s8.toNat).Id = s2)))) then ((D102 (nth s0 s8.toNat).Touch (⟨e0_0, e0_1⟩ : Fw.Touch)).bind fun y0 => bif y0.1 then (gd ((decide (0 ≤ s8)) && (decide (s8 < (s0.length : Int)))) <| gd ((decide (((e1.length + 1) * 8) ≤ 140737488355328)) && (decide ((e1.length + 1) ≤ 9223372036854775807))) <| L65_467 s0 s2 s8 e0_0 e0_1 (e1 ++ [(nth s0 s8.toNat).Id])) else L65_467 s0 s2 s8 e0_0 e0_1 e1) else L65_467 s0 s2 s8 e0_0 e0_1 e1) else L65_15 e1) := (Ln_eq _ _ _).trans (by kernel_rfl)
theorem P65_15 (e0 : List Int) : L65_15 e0 = (some (e0, ())) := (Ln_eq _ _ _).trans (by kernel_rfl)
theorem P65_467 (s0 : List Fw.Tx) (s2 : Int) (s8 : Int) (e0_0 : List ByteArray) (e0_1 : List ByteArray) (e1 : List Int) : L65_467 s0 s2 s8 e0_0 e0_1 e1 = (L65_116 s0 s2 (IntKind.wrap .i64 (s8 + 1)) e0_0 e0_1 e1) := (Ln_eq _ _ _).trans (by kernel_rfl)
noncomputable def L66_244 (s1 : List Fw.Cell) (s6 : List ByteArray) (s7 : Int) (e0 : List Fw.Cell) : Option ((List Fw.Cell) × Unit) := Ln 220 244 (⟨33, [(1, .ok (.ro 152 s1)), (5, .ok (.sl 0)), (6, .ok (.ro 9 s6)), (7, .ok (.v (.int .i64 s7)))], [(0, .own 152 e0)]⟩, 1)
noncomputable def L66_31 (e0 : List Fw.Cell) : Option ((List Fw.Cell) × Unit) := Ln 220 31 (⟨33, [(5, .ok (.sl 0))], [(0, .own 152 e0)]⟩, 1)
theorem E66 (x0 : List Fw.Cell) (x1 : List Fw.Cell) : D66 x0 x1 = ((D103 x0 x1).bind fun y0 => L66_244 x1 y0.1 0 []) := (Dn_eq _ _).trans (by kernel_rfl)
theorem P66_244 (s1 : List Fw.Cell) (s6 : List ByteArray) (s7 : Int) (e0 : List Fw.Cell) : L66_244 s1 s6 s7 e0 = (bif (decide (s7 < (s6.length : Int))) then (gd ((decide (0 ≤ s7)) && (decide (s7 < (s6.length : Int)))) <| gd ((decide (0 ≤ s7)) && (decide (s7 < (s6.length : Int)))) <| (D104 s1 (nth s6 s7.toNat)).bind fun y0 => gd ((decide (((e0.length + 1) * 32) ≤ 140737488355328)) && (decide ((e0.length + 1) ≤ 9223372036854775807))) <| L66_244 s1 s6 (IntKind.wrap .i64 (s7 + 1)) (e0 ++ [(⟨(nth s6 s7.toNat), y0.1⟩ : Fw.Cell)])) else L66_31 e0) := (Ln_eq _ _ _).trans (by kernel_rfl)
theorem P66_31 (e0 : List Fw.Cell) : L66_31 e0 = (some (e0, ())) := (Ln_eq _ _ _).trans (by kernel_rfl)
theorem E67 (x0 : Fw.Journal) (x1 : List Fw.Tx) (x2 : Int) : D67 x0 x1 x2 = ((D106 x2 0 20000).bind fun y0 => (D107 x1).bind fun y1 => (D105 x0 (IntKind.wrap .i64 (y0.1 + y1.1))).bind fun y2 => some (y2.1, ())) := (Dn_eq _ _).trans (by kernel_rfl)
theorem E68 (x0 : List Fw.Cell) : D68 x0 = ((D108 100000 x0).bind fun y0 => some ((y0.1.size : Int), ())) := (Dn_eq _ _).trans (by kernel_rfl)
theorem E69 (x0 : Fw.Kernel) (x1 : List Fw.Cell) : D69 x0 x1 = ((D40 x0).bind fun y0 => bif (decide ((x1.length : Int) = 0)) then (some (y0.1, (true, ()))) else (D108 (IntKind.wrap .i64 (y0.1.Seq + 1)) x1).bind fun y1 => bif ((decide (y0.1.Seq ≥ 99000)) || (decide (y1.1 = (tx [])))) then (some (y0.1, (false, ()))) else (D109 y0.1.Disk.Journal y1.1).bind fun y2 => bif (!y2.2.1) then (some (y0.1, (false, ()))) else some ({ y0.1 with Disk := (⟨y0.1.Disk.Slots, y2.1⟩ : Fw.Disk), Seq := (IntKind.wrap .i64 (y0.1.Seq + 1)) }, (true, ()))) := (Dn_eq _ _).trans (by kernel_rfl)
noncomputable def L70_7 (e0_0 : ByteArray) (e0_1 : Int) (e1_0 : ByteArray) (e1_1 : Int) : Option (Fw.Journal × Unit) := Ln 224 7 (⟨10, [(1, .ok (.pt 0 0)), (2, .ok (.pt 1 0))], [(0, .var [.v (.string e0_0), .v (.int .i64 e0_1)] 28), (1, .var [.v (.string e1_0), .v (.int .i64 e1_1)] 28)]⟩, 2)
theorem E70 (x0 : Fw.Journal) : D70 x0 = ((D110 x0).bind fun y0 => bif y0.1 then (L70_7 x0.Text (x0.Text.size : Int) (tx []) 0) else L70_7 x0.Text x0.Sure (tx []) 0) := (Dn_eq _ _).trans (by kernel_rfl)
theorem P70_7 (e0_0 : ByteArray) (e0_1 : Int) (e1_0 : ByteArray) (e1_1 : Int) : L70_7 e0_0 e0_1 e1_0 e1_1 = (some ((⟨e0_0, e0_1⟩ : Fw.Journal), ())) := (Ln_eq _ _ _).trans (by kernel_rfl)
noncomputable def L71_244 (s0 : List Fw.Cell) (s4 : Int) (s5 : Int) (e0 : List ByteArray) : Option ((List ByteArray) × Unit) := Ln 225 244 (⟨40, [(0, .ok (.ro 152 s0)), (3, .ok (.sl 0)), (4, .ok (.v (.int .i64 s4))), (5, .ok (.v (.int .i64 s5)))], [(0, .own 9 e0)]⟩, 1)
noncomputable def L71_31 (e0 : List ByteArray) : Option ((List ByteArray) × Unit) := Ln 225 31 (⟨40, [(3, .ok (.sl 0))], [(0, .own 9 e0)]⟩, 1)
noncomputable def L71_15655 (s0 : List Fw.Cell) (s4 : Int) (s5 : Int) (s7 : ByteArray) (e0 : List ByteArray) : Option ((List ByteArray) × Unit) := Ln 225 15655 (⟨40, [(0, .ok (.ro 152 s0)), (3, .ok (.sl 0)), (4, .ok (.v (.int .i64 s4))), (5, .ok (.v (.int .i64 s5))), (7, .ok (.v (.string s7)))], [(0, .own 9 e0)]⟩, 1)
theorem E71 (x0 : List Fw.Cell) : D71 x0 = ((D104 x0 (tx [100, 47, 110])).bind fun y0 => (D111 y0.1).bind fun y1 => (D106 y1.1 0 40).bind fun y2 => L71_244 x0 y2.1 1 []) := (Dn_eq _ _).trans (by kernel_rfl)
theorem P71_244 (s0 : List Fw.Cell) (s4 : Int) (s5 : Int) (e0 : List ByteArray) : L71_244 s0 s4 s5 e0 = (bif (decide (s5 ≤ s4)) then ((D112 (tx [100, 47]) s5 (tx [])).bind fun y0 => (D104 s0 y0.1).bind fun y1 => gd (((decide (0 ≤ 0)) && (decide (0 < (y1.1.size : Int)))) || (!(!(decide (y1.1 = (tx [])))))) <| bif ((!(decide (y1.1 = (tx [])))) && (decide (((byteAt y1.1 (0 : Int).toNat).toNat : Int) = 45))) then (gd ((decide (0 ≤ 1)) && ((decide (1 ≤ (y1.1.size : Int))) && (decide ((y1.1.size : Int) ≤ (y1.1.size : Int))))) <| (D113 (cutS y1.1 (1 : Int).toNat (y1.1.size : Int).toNat)).bind fun y2 => L71_15655 s0 s4 s5 y2.1 e0) else L71_15655 s0 s4 s5 (tx []) e0) else L71_31 e0) := (Ln_eq _ _ _).trans (by kernel_rfl)
theorem P71_31 (e0 : List ByteArray) : L71_31 e0 = (some (e0, ())) := (Ln_eq _ _ _).trans (by kernel_rfl)
theorem P71_15655 (s0 : List Fw.Cell) (s4 : Int) (s5 : Int) (s7 : ByteArray) (e0 : List ByteArray) : L71_15655 s0 s4 s5 s7 e0 = (gd ((decide (((e0.length + 1) * 16) ≤ 140737488355328)) && (decide ((e0.length + 1) ≤ 9223372036854775807))) <| L71_244 s0 s4 (IntKind.wrap .i64 (s5 + 1)) (e0 ++ [s7])) := (Ln_eq _ _ _).trans (by kernel_rfl)
theorem E72 (x0 : Fw.Disk) : D72 x0 = ((D55 x0).bind fun y0 => (D77 y0.1).bind fun y1 => (D95 y0.1).bind fun y2 => bif (!((!y2.1) || (decide (y1.2.1 > 99999)))) then ((D114 y0.1).bind fun y3 => gd (((decide (0 ≤ y3.1)) && (decide (y3.1 < (y0.1.Slots.length : Int)))) && true) <| bif (decide (y1.2.1 = (nth y0.1.Slots y3.1.toNat).Seq)) then (some (y0.1, (false, ()))) else (D1075 y0.1).bind fun y4 => (D115 (⟨y0.1.Slots, y4.1.Journal⟩ : Fw.Disk)).bind fun y5 => gd ((decide (0 ≤ y5.1)) && (decide (y5.1 < (y0.1.Slots.length : Int)))) <| some ((⟨(y0.1.Slots.set y5.1.toNat (⟨y1.2.1, y1.1, false⟩ : Fw.Slot)), y4.1.Journal⟩ : Fw.Disk), (true, ()))) else some (y0.1, (false, ()))) := (Dn_eq _ _).trans (by kernel_rfl)
theorem E73 (x0 : Fw.Disk) : D73 x0 = ((D55 x0).bind fun y0 => (D95 y0.1).bind fun y1 => bif (!y1.1) then (some (y0.1, (false, ()))) else (D115 y0.1).bind fun y2 => gd ((decide (0 ≤ y2.1)) && (decide (y2.1 < (y0.1.Slots.length : Int)))) <| gd (((decide (0 ≤ (IntKind.wrap .i64 (1 - y2.1)))) && (decide ((IntKind.wrap .i64 (1 - y2.1)) < (y0.1.Slots.length : Int)))) || (!(!(nth y0.1.Slots y2.1.toNat).Whole))) <| bif (!((nth y0.1.Slots y2.1.toNat).Whole || (decide ((nth y0.1.Slots y2.1.toNat).Seq ≤ (nth y0.1.Slots (IntKind.wrap .i64 (1 - y2.1)).toNat).Seq)))) then ((D94 (nth y0.1.Slots y2.1.toNat).Cells).bind fun y3 => bif (!(!y3.1)) then ((D27 (nth y0.1.Slots y2.1.toNat).Seq 0 99999).bind fun y4 => bif (!y4.1) then (some (y0.1, (false, ()))) else gd ((decide (0 ≤ y2.1)) && (decide (y2.1 < (y0.1.Slots.length : Int)))) <| some ((⟨(y0.1.Slots.set y2.1.toNat { (nth y0.1.Slots y2.1.toNat) with Whole := true }), y0.1.Journal⟩ : Fw.Disk), (true, ()))) else some (y0.1, (false, ()))) else some (y0.1, (false, ()))) := (Dn_eq _ _).trans (by kernel_rfl)
noncomputable def L74_2036 (s3 : Int) (s5 : Int) (s6 : Int) (e0_1 : ByteArray) (e0_2 : Int) (e1 : List Fw.Slot) (e2_1 : ByteArray) (e2_2 : Int) (e3 : List ByteArray) : Option (Fw.Disk × Unit) := Ln 228 2036 (⟨76, [(1, .ok (.pt 0 0)), (2, .ok (.pt 2 0)), (3, .ok (.v (.int .i64 s3))), (4, .ok (.sl 3)), (5, .ok (.v (.int .i64 s5))), (6, .ok (.v (.int .i64 s6)))], [(0, .var [.sl 1, .v (.string e0_1), .v (.int .i64 e0_2)] 30), (1, .own 201 e1), (2, .var [.v (.slice none 0 0), .v (.string e2_1), .v (.int .i64 e2_2)] 30), (3, .own 9 e3)]⟩, 4)
noncomputable def L74_255 (s5 : Int) (e0_1 : ByteArray) (e0_2 : Int) (e1 : List Fw.Slot) (e2_1 : ByteArray) (e2_2 : Int) : Option (Fw.Disk × Unit) := Ln 228 255 (⟨76, [(1, .ok (.pt 0 0)), (2, .ok (.pt 2 0)), (5, .ok (.v (.int .i64 s5)))], [(0, .var [.sl 1, .v (.string e0_1), .v (.int .i64 e0_2)] 30), (1, .own 201 e1), (2, .var [.v (.slice none 0 0), .v (.string e2_1), .v (.int .i64 e2_2)] 30)]⟩, 3)
theorem E74 (x0 : Fw.Disk) : D74 x0 = ((D55 x0).bind fun y0 => (D95 y0.1).bind fun y1 => bif (!y1.1) then (some (y0.1, ())) else (D114 y0.1).bind fun y2 => gd ((decide (0 ≤ y2.1)) && (decide (y2.1 < (y0.1.Slots.length : Int)))) <| (D116 y0.1.Journal.Text).bind fun y3 => L74_2036 (nth y0.1.Slots y2.1.toNat).Seq 0 0 y0.1.Journal.Text y0.1.Journal.Sure y0.1.Slots (tx []) 0 y3.1) := (Dn_eq _ _).trans (by kernel_rfl)
theorem P74_2036 (s3 : Int) (s5 : Int) (s6 : Int) (e0_1 : ByteArray) (e0_2 : Int) (e1 : List Fw.Slot) (e2_1 : ByteArray) (e2_2 : Int) (e3 : List ByteArray) : L74_2036 s3 s5 s6 e0_1 e0_2 e1 e2_1 e2_2 e3 = (bif (decide (s6 < (e3.length : Int))) then (gd ((decide (0 ≤ s6)) && (decide (s6 < (e3.length : Int)))) <| (D117 (nth e3 s6.toNat)).bind fun y0 => bif ((!y0.2.2.1) || (decide (y0.1 > s3))) then (L74_255 s5 e0_1 e0_2 e1 e2_1 e2_2) else gd ((decide (0 ≤ s6)) && (decide (s6 < (e3.length : Int)))) <| L74_2036 s3 (IntKind.wrap .i64 (s5 + ((nth e3 s6.toNat).size : Int))) (IntKind.wrap .i64 (s6 + 1)) e0_1 e0_2 e1 e2_1 e2_2 e3) else L74_255 s5 e0_1 e0_2 e1 e2_1 e2_2) := (Ln_eq _ _ _).trans (by kernel_rfl)
theorem P74_255 (s5 : Int) (e0_1 : ByteArray) (e0_2 : Int) (e1 : List Fw.Slot) (e2_1 : ByteArray) (e2_2 : Int) : L74_255 s5 e0_1 e0_2 e1 e2_1 e2_2 = (gd ((decide (0 ≤ s5)) && ((decide (s5 ≤ (e0_1.size : Int))) && (decide ((e0_1.size : Int) ≤ (e0_1.size : Int))))) <| (D106 (IntKind.wrap .i64 (e0_2 - s5)) 0 ((cutS e0_1 s5.toNat (e0_1.size : Int).toNat).size : Int)).bind fun y0 => some ((⟨e1, (⟨(cutS e0_1 s5.toNat (e0_1.size : Int).toNat), y0.1⟩ : Fw.Journal)⟩ : Fw.Disk), ())) := (Ln_eq _ _ _).trans (by kernel_rfl)
theorem E75 (x0 : Fw.Disk) : D75 x0 = ((D55 x0).bind fun y0 => (D95 y0.1).bind fun y1 => bif (!y1.1) then (some (y0.1, ())) else (D114 y0.1).bind fun y2 => gd ((decide (0 ≤ y2.1)) && (decide (y2.1 < (y0.1.Slots.length : Int)))) <| (D118 y0.1.Journal.Text (IntKind.wrap .i64 ((nth y0.1.Slots y2.1.toNat).Seq + 1))).bind fun y3 => gd ((decide (0 ≤ 0)) && ((decide (0 ≤ y3.2.1)) && (decide (y3.2.1 ≤ (y0.1.Journal.Text.size : Int))))) <| some ((⟨y0.1.Slots, (⟨(cutS y0.1.Journal.Text (0 : Int).toNat y3.2.1.toNat), y3.2.1⟩ : Fw.Journal)⟩ : Fw.Disk), ())) := (Dn_eq _ _).trans (by kernel_rfl)
noncomputable def L76_500 (s5 : Int) (e0_1 : ByteArray) (e0_2 : Int) (e1 : List Fw.Slot) (e2_1 : ByteArray) (e2_2 : Int) : Option (Fw.Disk × Unit) := Ln 230 500 (⟨37, [(2, .ok (.pt 0 0)), (4, .ok (.pt 2 0)), (5, .ok (.v (.int .i64 s5)))], [(0, .var [.sl 1, .v (.string e0_1), .v (.int .i64 e0_2)] 30), (1, .own 201 e1), (2, .var [.v (.slice none 0 0), .v (.string e2_1), .v (.int .i64 e2_2)] 30)]⟩, 3)
noncomputable def L76_63 (e0_1 : ByteArray) (e0_2 : Int) (e1 : List Fw.Slot) (e2_1 : ByteArray) (e2_2 : Int) : Option (Fw.Disk × Unit) := Ln 230 63 (⟨37, [(2, .ok (.pt 0 0)), (4, .ok (.pt 2 0))], [(0, .var [.sl 1, .v (.string e0_1), .v (.int .i64 e0_2)] 30), (1, .own 201 e1), (2, .var [.v (.slice none 0 0), .v (.string e2_1), .v (.int .i64 e2_2)] 30)]⟩, 3)
noncomputable def L76_2003 (s5 : Int) (e0_1 : ByteArray) (e0_2 : Int) (e1 : List Fw.Slot) (e2_1 : ByteArray) (e2_2 : Int) : Option (Fw.Disk × Unit) := Ln 230 2003 (⟨37, [(2, .ok (.pt 0 0)), (4, .ok (.pt 2 0)), (5, .ok (.v (.int .i64 s5)))], [(0, .var [.sl 1, .v (.string e0_1), .v (.int .i64 e0_2)] 30), (1, .own 201 e1), (2, .var [.v (.slice none 0 0), .v (.string e2_1), .v (.int .i64 e2_2)] 30)]⟩, 3)
theorem E76 (x0 : Fw.Disk) (x1 : Int) : D76 x0 x1 = ((D55 x0).bind fun y0 => (D95 y0.1).bind fun y1 => bif (!y1.1) then (some (y0.1, ())) else (D119 y0.1.Journal x1).bind fun y2 => L76_500 0 y2.1.Text y2.1.Sure y0.1.Slots (tx []) 0) := (Dn_eq _ _).trans (by kernel_rfl)
theorem P76_500 (s5 : Int) (e0_1 : ByteArray) (e0_2 : Int) (e1 : List Fw.Slot) (e2_1 : ByteArray) (e2_2 : Int) : L76_500 s5 e0_1 e0_2 e1 e2_1 e2_2 = (bif (decide (s5 < (e1.length : Int))) then (gd ((decide (0 ≤ s5)) && (decide (s5 < (e1.length : Int)))) <| bif (!(nth e1 s5.toNat).Whole) then (gd ((decide (0 ≤ s5)) && (decide (s5 < (e1.length : Int)))) <| L76_2003 s5 e0_1 e0_2 (e1.set s5.toNat (⟨0, [], false⟩ : Fw.Slot)) e2_1 e2_2) else L76_2003 s5 e0_1 e0_2 e1 e2_1 e2_2) else L76_63 e0_1 e0_2 e1 e2_1 e2_2) := (Ln_eq _ _ _).trans (by kernel_rfl)
theorem P76_63 (e0_1 : ByteArray) (e0_2 : Int) (e1 : List Fw.Slot) (e2_1 : ByteArray) (e2_2 : Int) : L76_63 e0_1 e0_2 e1 e2_1 e2_2 = (some ((⟨e1, (⟨e0_1, e0_2⟩ : Fw.Journal)⟩ : Fw.Disk), ())) := (Ln_eq _ _ _).trans (by kernel_rfl)
theorem P76_2003 (s5 : Int) (e0_1 : ByteArray) (e0_2 : Int) (e1 : List Fw.Slot) (e2_1 : ByteArray) (e2_2 : Int) : L76_2003 s5 e0_1 e0_2 e1 e2_1 e2_2 = (L76_500 (IntKind.wrap .i64 (s5 + 1)) e0_1 e0_2 e1 e2_1 e2_2) := (Ln_eq _ _ _).trans (by kernel_rfl)
noncomputable def L77_1012 (s8 : Int) (e0_0 : Int) (e0_1 : List Fw.Cell) (e0_2 : Bool) (e1 : List Fw.Cell) (e2 : List (List Fw.Cell)) : Option ((List Fw.Cell) × Int × Unit) := Ln 231 1012 (⟨51, [(4, .ok (.pt 0 0)), (5, .ok (.sl 1)), (6, .ok (.sl 2)), (8, .ok (.v (.int .i64 s8)))], [(0, .var [.v (.int .i64 e0_0), .ro 152 e0_1, .v (.bool e0_2)] 201), (1, .own 152 e1), (2, .own 24 e2)]⟩, 3)
noncomputable def L77_127 (e0_0 : Int) (e0_1 : List Fw.Cell) (e0_2 : Bool) (e1 : List Fw.Cell) (e2 : List (List Fw.Cell)) : Option ((List Fw.Cell) × Int × Unit) := Ln 231 127 (⟨51, [(4, .ok (.pt 0 0)), (5, .ok (.sl 1)), (6, .ok (.sl 2))], [(0, .var [.v (.int .i64 e0_0), .ro 152 e0_1, .v (.bool e0_2)] 201), (1, .own 152 e1), (2, .own 24 e2)]⟩, 3)
theorem E77 (x0 : Fw.Disk) : D77 x0 = ((D95 x0).bind fun y0 => bif (!y0.1) then (some ([], (0, ()))) else (D114 x0).bind fun y1 => gd ((decide (0 ≤ y1.1)) && (decide (y1.1 < (x0.Slots.length : Int)))) <| gd ((decide (((0 + (nth x0.Slots y1.1.toNat).Cells.length) * 32) ≤ 140737488355328)) && (decide ((0 + (nth x0.Slots y1.1.toNat).Cells.length) ≤ 9223372036854775807))) <| (D118 x0.Journal.Text (IntKind.wrap .i64 ((nth x0.Slots y1.1.toNat).Seq + 1))).bind fun y2 => L77_1012 0 (nth x0.Slots y1.1.toNat).Seq (nth x0.Slots y1.1.toNat).Cells (nth x0.Slots y1.1.toNat).Whole ([] ++ (nth x0.Slots y1.1.toNat).Cells) y2.1) := (Dn_eq _ _).trans (by kernel_rfl)
theorem P77_1012 (s8 : Int) (e0_0 : Int) (e0_1 : List Fw.Cell) (e0_2 : Bool) (e1 : List Fw.Cell) (e2 : List (List Fw.Cell)) : L77_1012 s8 e0_0 e0_1 e0_2 e1 e2 = (bif (decide (s8 < (e2.length : Int))) then (gd ((decide (0 ≤ s8)) && (decide (s8 < (e2.length : Int)))) <| (D120 e1 (nth e2 s8.toNat)).bind fun y0 => L77_1012 (IntKind.wrap .i64 (s8 + 1)) e0_0 e0_1 e0_2 y0.1 e2) else L77_127 e0_0 e0_1 e0_2 e1 e2) := (Ln_eq _ _ _).trans (by kernel_rfl)
theorem P77_127 (e0_0 : Int) (e0_1 : List Fw.Cell) (e0_2 : Bool) (e1 : List Fw.Cell) (e2 : List (List Fw.Cell)) : L77_127 e0_0 e0_1 e0_2 e1 e2 = (some (e1, ((IntKind.wrap .i64 (e0_0 + (e2.length : Int))), ()))) := (Ln_eq _ _ _).trans (by kernel_rfl)
noncomputable def L78_116 (s0 : List Fw.Tx) (s4 : Int) (e0 : List Int) : Option ((List Int) × Unit) := Ln 232 116 (⟨27, [(0, .ok (.ro 45 s0)), (3, .ok (.sl 0)), (4, .ok (.v (.int .i64 s4)))], [(0, .own 3 e0)]⟩, 1)
noncomputable def L78_15 (e0 : List Int) : Option ((List Int) × Unit) := Ln 232 15 (⟨27, [(3, .ok (.sl 0))], [(0, .own 3 e0)]⟩, 1)
noncomputable def L78_467 (s0 : List Fw.Tx) (s4 : Int) (e0 : List Int) : Option ((List Int) × Unit) := Ln 232 467 (⟨27, [(0, .ok (.ro 45 s0)), (3, .ok (.sl 0)), (4, .ok (.v (.int .i64 s4)))], [(0, .own 3 e0)]⟩, 1)
theorem E78 (x0 : List Fw.Tx) : D78 x0 = (L78_116 x0 0 []) := (Dn_eq _ _).trans (by kernel_rfl)
theorem P78_116 (s0 : List Fw.Tx) (s4 : Int) (e0 : List Int) : L78_116 s0 s4 e0 = (bif (decide (s4 < (s0.length : Int))) then (gd ((decide (0 ≤ s4)) && (decide (s4 < (s0.length : Int)))) <| bif (decide ((nth s0 s4.toNat).State = 1)) then (gd ((decide (0 ≤ s4)) && (decide (s4 < (s0.length : Int)))) <| gd ((decide (((e0.length + 1) * 8) ≤ 140737488355328)) && (decide ((e0.length + 1) ≤ 9223372036854775807))) <| L78_467 s0 s4 (e0 ++ [(nth s0 s4.toNat).Id])) else L78_467 s0 s4 e0) else L78_15 e0) := (Ln_eq _ _ _).trans (by kernel_rfl)
theorem P78_15 (e0 : List Int) : L78_15 e0 = (some (e0, ())) := (Ln_eq _ _ _).trans (by kernel_rfl)
theorem P78_467 (s0 : List Fw.Tx) (s4 : Int) (e0 : List Int) : L78_467 s0 s4 e0 = (L78_116 s0 (IntKind.wrap .i64 (s4 + 1)) e0) := (Ln_eq _ _ _).trans (by kernel_rfl)
end Go.Proofs.YtdghkmbppfmifaaGreatDoor.Ri

namespace Go.Proofs.YtdghkmbppfmifaaGreatDoor.Ri
open Go.Proofs.YtdghkmbppfmifaaGreatDoor.Fw
open Go.RowKit
set_option linter.unusedVariables false
set_option maxRecDepth 100000
noncomputable def L79_244 (s1 : Int) (s2 : Int) (s9 : Int) (e0_3 : ByteArray) (e0_4 : Int) (e0_5 : Int) (e0_6 : Int) (e0_7 : Int) (e0_10 : Bool) (e1 : List Fw.Cell) (e2 : List Fw.Tx) (e3 : List Fw.Slot) (e4 : List Fw.Entry) (e5 : List ByteArray) (e6_3 : ByteArray) (e6_4 : Int) (e6_5 : Int) (e6_6 : Int) (e6_7 : Int) (e6_10 : Bool) : Option (Fw.Kernel × Int × Int × Unit) := Ln 233 244 (⟨98, [(1, .ok (.v (.int .i64 s1))), (2, .ok (.v (.int .i64 s2))), (3, .ok (.pt 0 0)), (6, .ok (.pt 6 0)), (9, .ok (.v (.int .i64 s9)))], [(0, .var [.sl 1, .sl 2, .sl 3, .v (.string e0_3), .v (.int .i64 e0_4), .v (.int .i64 e0_5), .v (.int .i64 e0_6), .v (.int .i64 e0_7), .sl 4, .sl 5, .v (.bool e0_10)] 34), (1, .own 152 e1), (2, .own 45 e2), (3, .own 201 e3), (4, .own 51 e4), (5, .own 9 e5), (6, .var [.v (.slice none 0 0), .v (.slice none 0 0), .v (.slice none 0 0), .v (.string e6_3), .v (.int .i64 e6_4), .v (.int .i64 e6_5), .v (.int .i64 e6_6), .v (.int .i64 e6_7), .v (.slice none 0 0), .v (.slice none 0 0), .v (.bool e6_10)] 34)]⟩, 7)
noncomputable def L79_31 (s1 : Int) (s2 : Int) (e0_3 : ByteArray) (e0_4 : Int) (e0_5 : Int) (e0_6 : Int) (e0_7 : Int) (e0_10 : Bool) (e1 : List Fw.Cell) (e2 : List Fw.Tx) (e3 : List Fw.Slot) (e4 : List Fw.Entry) (e5 : List ByteArray) (e6_3 : ByteArray) (e6_4 : Int) (e6_5 : Int) (e6_6 : Int) (e6_7 : Int) (e6_10 : Bool) : Option (Fw.Kernel × Int × Int × Unit) := Ln 233 31 (⟨98, [(1, .ok (.v (.int .i64 s1))), (2, .ok (.v (.int .i64 s2))), (3, .ok (.pt 0 0)), (6, .ok (.pt 6 0))], [(0, .var [.sl 1, .sl 2, .sl 3, .v (.string e0_3), .v (.int .i64 e0_4), .v (.int .i64 e0_5), .v (.int .i64 e0_6), .v (.int .i64 e0_7), .sl 4, .sl 5, .v (.bool e0_10)] 34), (1, .own 152 e1), (2, .own 45 e2), (3, .own 201 e3), (4, .own 51 e4), (5, .own 9 e5), (6, .var [.v (.slice none 0 0), .v (.slice none 0 0), .v (.slice none 0 0), .v (.string e6_3), .v (.int .i64 e6_4), .v (.int .i64 e6_5), .v (.int .i64 e6_6), .v (.int .i64 e6_7), .v (.slice none 0 0), .v (.slice none 0 0), .v (.bool e6_10)] 34)]⟩, 7)
noncomputable def L79_63 (s1 : Int) (s2 : Int) (e0_3 : ByteArray) (e0_4 : Int) (e0_5 : Int) (e0_6 : Int) (e0_7 : Int) (e0_10 : Bool) (e1 : List Fw.Cell) (e2 : List Fw.Tx) (e3 : List Fw.Slot) (e4 : List Fw.Entry) (e5 : List ByteArray) (e6_3 : ByteArray) (e6_4 : Int) (e6_5 : Int) (e6_6 : Int) (e6_7 : Int) (e6_10 : Bool) : Option (Fw.Kernel × Int × Int × Unit) := Ln 233 63 (⟨98, [(1, .ok (.v (.int .i64 s1))), (2, .ok (.v (.int .i64 s2))), (3, .ok (.pt 0 0)), (6, .ok (.pt 6 0))], [(0, .var [.sl 1, .sl 2, .sl 3, .v (.string e0_3), .v (.int .i64 e0_4), .v (.int .i64 e0_5), .v (.int .i64 e0_6), .v (.int .i64 e0_7), .sl 4, .sl 5, .v (.bool e0_10)] 34), (1, .own 152 e1), (2, .own 45 e2), (3, .own 201 e3), (4, .own 51 e4), (5, .own 9 e5), (6, .var [.v (.slice none 0 0), .v (.slice none 0 0), .v (.slice none 0 0), .v (.string e6_3), .v (.int .i64 e6_4), .v (.int .i64 e6_5), .v (.int .i64 e6_6), .v (.int .i64 e6_7), .v (.slice none 0 0), .v (.slice none 0 0), .v (.bool e6_10)] 34)]⟩, 7)
theorem E79 (x0 : Fw.Kernel) (x1 : Int) (x2 : Int) : D79 x0 x1 x2 = ((D40 x0).bind fun y0 => (D57 y0.1).bind fun y1 => bif ((!y1.1) || (decide (x2 < 0))) then (some (y0.1, (0, (4, ())))) else (D121 y0.1.Txs).bind fun y2 => bif (!(!y2.1)) then ((D67 y0.1.Disk.Journal y0.1.Txs 4000).bind fun y3 => bif (!y3.1) then (some (y0.1, (0, (3, ())))) else (D112 (tx [114, 47]) x1 (tx [47, 115])).bind fun y4 => (D104 y0.1.Store y4.1).bind fun y5 => (D122 1).bind fun y6 => bif (!(decide (y5.1 = y6.1))) then (some (y0.1, (0, (2, ())))) else L79_244 x1 x2 0 y0.1.Disk.Journal.Text y0.1.Disk.Journal.Sure y0.1.Seq y0.1.Next y0.1.Time y0.1.Room y0.1.Store y0.1.Txs y0.1.Disk.Slots y0.1.History y0.1.Seen (tx []) 0 0 0 0 false) else some (y0.1, (0, (3, ())))) := (Dn_eq _ _).trans (by kernel_rfl)
theorem P79_244 (s1 : Int) (s2 : Int) (s9 : Int) (e0_3 : ByteArray) (e0_4 : Int) (e0_5 : Int) (e0_6 : Int) (e0_7 : Int) (e0_10 : Bool) (e1 : List Fw.Cell) (e2 : List Fw.Tx) (e3 : List Fw.Slot) (e4 : List Fw.Entry) (e5 : List ByteArray) (e6_3 : ByteArray) (e6_4 : Int) (e6_5 : Int) (e6_6 : Int) (e6_7 : Int) (e6_10 : Bool) : L79_244 s1 s2 s9 e0_3 e0_4 e0_5 e0_6 e0_7 e0_10 e1 e2 e3 e4 e5 e6_3 e6_4 e6_5 e6_6 e6_7 e6_10 = (bif (decide (s9 < (e2.length : Int))) then (gd ((decide (0 ≤ s9)) && (decide (s9 < (e2.length : Int)))) <| gd (((decide (0 ≤ s9)) && (decide (s9 < (e2.length : Int)))) || (!(decide ((nth e2 s9.toNat).State = 1)))) <| bif ((decide ((nth e2 s9.toNat).State = 1)) && (decide ((nth e2 s9.toNat).Proc = s1))) then (some ((⟨e1, e2, (⟨e3, (⟨e0_3, e0_4⟩ : Fw.Journal)⟩ : Fw.Disk), e0_5, e0_6, e0_7, e4, e5, e0_10⟩ : Fw.Kernel), (0, (1, ())))) else L79_244 s1 s2 (IntKind.wrap .i64 (s9 + 1)) e0_3 e0_4 e0_5 e0_6 e0_7 e0_10 e1 e2 e3 e4 e5 e6_3 e6_4 e6_5 e6_6 e6_7 e6_10) else L79_31 s1 s2 e0_3 e0_4 e0_5 e0_6 e0_7 e0_10 e1 e2 e3 e4 e5 e6_3 e6_4 e6_5 e6_6 e6_7 e6_10) := (Ln_eq _ _ _).trans (by kernel_rfl)
theorem P79_31 (s1 : Int) (s2 : Int) (e0_3 : ByteArray) (e0_4 : Int) (e0_5 : Int) (e0_6 : Int) (e0_7 : Int) (e0_10 : Bool) (e1 : List Fw.Cell) (e2 : List Fw.Tx) (e3 : List Fw.Slot) (e4 : List Fw.Entry) (e5 : List ByteArray) (e6_3 : ByteArray) (e6_4 : Int) (e6_5 : Int) (e6_6 : Int) (e6_7 : Int) (e6_10 : Bool) : L79_31 s1 s2 e0_3 e0_4 e0_5 e0_6 e0_7 e0_10 e1 e2 e3 e4 e5 e6_3 e6_4 e6_5 e6_6 e6_7 e6_10 = (bif (decide (s2 = 0)) then ((D123 e2).bind fun y0 => L79_63 s1 y0.1 e0_3 e0_4 e0_5 e0_6 e0_7 e0_10 e1 e2 e3 e4 e5 e6_3 e6_4 e6_5 e6_6 e6_7 e6_10) else L79_63 s1 s2 e0_3 e0_4 e0_5 e0_6 e0_7 e0_10 e1 e2 e3 e4 e5 e6_3 e6_4 e6_5 e6_6 e6_7 e6_10) := (Ln_eq _ _ _).trans (by kernel_rfl)
theorem P79_63 (s1 : Int) (s2 : Int) (e0_3 : ByteArray) (e0_4 : Int) (e0_5 : Int) (e0_6 : Int) (e0_7 : Int) (e0_10 : Bool) (e1 : List Fw.Cell) (e2 : List Fw.Tx) (e3 : List Fw.Slot) (e4 : List Fw.Entry) (e5 : List ByteArray) (e6_3 : ByteArray) (e6_4 : Int) (e6_5 : Int) (e6_6 : Int) (e6_7 : Int) (e6_10 : Bool) : L79_63 s1 s2 e0_3 e0_4 e0_5 e0_6 e0_7 e0_10 e1 e2 e3 e4 e5 e6_3 e6_4 e6_5 e6_6 e6_7 e6_10 = ((D124 e0_6 s2 s1).bind fun y0 => gd ((decide (((e2.length + 1) * 160) ≤ 140737488355328)) && (decide ((e2.length + 1) ≤ 9223372036854775807))) <| some ((⟨e1, (e2 ++ [{ y0.1 with Began := e0_7 }]), (⟨e3, (⟨e0_3, e0_4⟩ : Fw.Journal)⟩ : Fw.Disk), e0_5, (IntKind.wrap .i64 (e0_6 + 1)), e0_7, e4, e5, e0_10⟩ : Fw.Kernel), (e0_6, (0, ())))) := (Ln_eq _ _ _).trans (by kernel_rfl)
theorem E80 (x0 : Fw.Kernel) (x1 : Int) : D80 x0 x1 = ((D125 x0 x1).bind fun y0 => bif ((!y0.2.1) || (!(decide (y0.1.State = 3)))) then ((D40 x0).bind fun y2 => some (y2.1, (0, (21, ())))) else (D79 x0 y0.1.Proc y0.1.Age).bind fun y1 => some (y1.1, (y1.2.1, (y1.2.2.1, ())))) := (Dn_eq _ _).trans (by kernel_rfl)
theorem E81 (x0 : Fw.Kernel) (x1 : Int) : D81 x0 x1 = ((D40 x0).bind fun y0 => (D93 y0.1.Txs x1).bind fun y1 => (D57 y0.1).bind fun y2 => bif ((!y2.1) || (decide (y1.1 < 0))) then (some (y0.1, (0, ()))) else gd ((decide (0 ≤ y1.1)) && (decide (y1.1 < (y0.1.Txs.length : Int)))) <| (D126 (nth y0.1.Txs y1.1.toNat)).bind fun y3 => gd ((decide (0 ≤ y1.1)) && (decide (y1.1 < (y0.1.Txs.length : Int)))) <| some ({ y0.1 with Txs := (y0.1.Txs.set y1.1.toNat y3.1) }, (y3.2.1, ()))) := (Dn_eq _ _).trans (by kernel_rfl)
theorem E82 (x0 : Fw.Kernel) (x1 : Int) (x2 : Int) : D82 x0 x1 x2 = ((D40 x0).bind fun y0 => (D93 y0.1.Txs x1).bind fun y1 => (D57 y0.1).bind fun y2 => bif ((!y2.1) || (decide (y1.1 < 0))) then (some (y0.1, (false, ()))) else gd ((decide (0 ≤ y1.1)) && (decide (y1.1 < (y0.1.Txs.length : Int)))) <| (D127 (nth y0.1.Txs y1.1.toNat) x2).bind fun y3 => gd ((decide (0 ≤ y1.1)) && (decide (y1.1 < (y0.1.Txs.length : Int)))) <| some ({ y0.1 with Txs := (y0.1.Txs.set y1.1.toNat y3.1) }, (y3.2.1, ()))) := (Dn_eq _ _).trans (by kernel_rfl)
theorem E83 (x0 : Fw.Kernel) (x1 : Int) : D83 x0 x1 = ((D40 x0).bind fun y0 => (D58 y0.1 x1).bind fun y1 => (D57 y0.1).bind fun y2 => bif ((!y2.1) || (decide (y1.1 < 0))) then (some (y0.1, (false, ()))) else gd ((decide (0 ≤ y1.1)) && (decide (y1.1 < (y0.1.Txs.length : Int)))) <| some ({ y0.1 with Txs := (y0.1.Txs.set y1.1.toNat { (nth y0.1.Txs y1.1.toNat) with State := 3 }) }, (true, ()))) := (Dn_eq _ _).trans (by kernel_rfl)
theorem E84 (x0 : Fw.Kernel) (x1 : Int) : D84 x0 x1 = ((D40 x0).bind fun y0 => (D57 y0.1).bind fun y1 => bif (!y1.1) then (some (y0.1, (4, ()))) else (D58 y0.1 x1).bind fun y2 => bif (decide (y2.1 < 0)) then (some (y0.1, (21, ()))) else gd ((decide (0 ≤ y2.1)) && (decide (y2.1 < (y0.1.Txs.length : Int)))) <| (D128 y0.1.Store (nth y0.1.Txs y2.1.toNat)).bind fun y3 => (D66 y0.1.Store y3.1).bind fun y4 => (D69 y0.1 y4.1).bind fun y5 => bif (!y5.2.1) then (some (y0.1, (3, ()))) else gd ((decide (0 ≤ y2.1)) && (decide (y2.1 < (y5.1.Txs.length : Int)))) <| (D129 (nth y0.1.Txs y2.1.toNat)).bind fun y6 => gd ((decide (((0 + (nth y0.1.Txs y2.1.toNat).Answers.length) * 32) ≤ 140737488355328)) && (decide ((0 + (nth y0.1.Txs y2.1.toNat).Answers.length) ≤ 9223372036854775807))) <| gd ((decide (((y5.1.History.length + 1) * 96) ≤ 140737488355328)) && (decide ((y5.1.History.length + 1) ≤ 9223372036854775807))) <| some ({ y5.1 with Store := y3.1, Txs := (y5.1.Txs.set y2.1.toNat { (nth y5.1.Txs y2.1.toNat) with State := 2 }), Time := (IntKind.wrap .i64 (y5.1.Time + 1)), History := (y5.1.History ++ [(⟨y5.1.Seq, 2, x1, y6.1, ([] ++ (nth y0.1.Txs y2.1.toNat).Answers), (nth y0.1.Txs y2.1.toNat).Began, (IntKind.wrap .i64 (y5.1.Time + 1)), (decide ((y4.1.length : Int) > 0))⟩ : Fw.Entry)]) }, (0, ()))) := (Dn_eq _ _).trans (by kernel_rfl)
theorem E85 (x0 : L01Cur) (x1 : List ByteArray) : D85 x0 x1 = ((D26 x0 (x1.length : Int)).bind fun y0 => gd ((decide (0 ≤ y0.1)) && (decide (y0.1 < (x1.length : Int)))) <| some ((nth x1 y0.1.toNat), (y0.2.1, ()))) := (Dn_eq _ _).trans (by kernel_rfl)
noncomputable def L86_7 (s1 : Int) (e0_0 : List UInt8) (e0_1 : Int) (e0_2 : Int) : Option (ByteArray × L01Cur × Unit) := Ln 72 7 (⟨23, [(0, .ok (.pt 0 0)), (1, .ok (.v (.int .i64 s1)))], [(0, .var [.ro 5 e0_0, .v (.int .i64 e0_1), .v (.int .i64 e0_2)] 106)]⟩, 1)
noncomputable def L86_244 (s1 : Int) (s6 : Int) (e0_0 : List UInt8) (e0_1 : Int) (e0_2 : Int) (e1 : List UInt8) : Option (ByteArray × L01Cur × Unit) := Ln 72 244 (⟨23, [(0, .ok (.pt 0 0)), (1, .ok (.v (.int .i64 s1))), (5, .ok (.sl 1)), (6, .ok (.v (.int .i64 s6)))], [(0, .var [.ro 5 e0_0, .v (.int .i64 e0_1), .v (.int .i64 e0_2)] 106), (1, .own 5 e1)]⟩, 2)
noncomputable def L86_31 (e0_0 : List UInt8) (e0_1 : Int) (e0_2 : Int) (e1 : List UInt8) : Option (ByteArray × L01Cur × Unit) := Ln 72 31 (⟨23, [(0, .ok (.pt 0 0)), (5, .ok (.sl 1))], [(0, .var [.ro 5 e0_0, .v (.int .i64 e0_1), .v (.int .i64 e0_2)] 106), (1, .own 5 e1)]⟩, 2)
theorem E86 (x0 : L01Cur) (x1 : Int) : D86 x0 x1 = (bif (decide (x1 > 5000)) then (L86_7 5000 x0.b x0.i x0.h) else L86_7 x1 x0.b x0.i x0.h) := (Dn_eq _ _).trans (by kernel_rfl)
theorem P86_7 (s1 : Int) (e0_0 : List UInt8) (e0_1 : Int) (e0_2 : Int) : L86_7 s1 e0_0 e0_1 e0_2 = (L86_244 s1 0 e0_0 e0_1 e0_2 []) := (Ln_eq _ _ _).trans (by kernel_rfl)
theorem P86_244 (s1 : Int) (s6 : Int) (e0_0 : List UInt8) (e0_1 : Int) (e0_2 : Int) (e1 : List UInt8) : L86_244 s1 s6 e0_0 e0_1 e0_2 e1 = (bif (decide (s6 < s1)) then ((D30 (⟨e0_0, e0_1, e0_2⟩ : L01Cur)).bind fun y0 => gd ((decide (((e1.length + 1) * 1) ≤ 140737488355328)) && (decide ((e1.length + 1) ≤ 9223372036854775807))) <| L86_244 s1 (IntKind.wrap .i64 (s6 + 1)) y0.2.1.b y0.2.1.i y0.2.1.h (e1 ++ [(u8of (IntKind.wrap .u8 y0.1))])) else L86_31 e0_0 e0_1 e0_2 e1) := (Ln_eq _ _ _).trans (by kernel_rfl)
theorem P86_31 (e0_0 : List UInt8) (e0_1 : Int) (e0_2 : Int) (e1 : List UInt8) : L86_31 e0_0 e0_1 e0_2 e1 = (some ((bstr (e1.map fun x => x)), ((⟨e0_0, e0_1, e0_2⟩ : L01Cur), ()))) := (Ln_eq _ _ _).trans (by kernel_rfl)
end Go.Proofs.YtdghkmbppfmifaaGreatDoor.Ri

namespace Go.Proofs.YtdghkmbppfmifaaGreatDoor.Ri
open Go.Proofs.YtdghkmbppfmifaaGreatDoor.Fw
open Go.RowKit
set_option linter.unusedVariables false
set_option maxRecDepth 100000
noncomputable def L87_117 (s9 : Bool) (e0_0 : Int) (e0_1 : ByteArray) (e0_2 : ByteArray) (e0_3 : Int) (e0_4 : Int) (e0_5 : ByteArray) (e1_0 : Int) (e1_1 : ByteArray) (e1_2 : ByteArray) (e1_3 : Int) (e1_4 : Int) (e1_5 : ByteArray) (e2_0 : Int) (e2_1 : ByteArray) (e2_2 : ByteArray) (e2_3 : Int) (e2_4 : Int) (e2_5 : ByteArray) : Option (Fw.Call × Unit) := Ln 166 117 (⟨64, [(1, .ok (.pt 0 0)), (2, .ok (.pt 1 0)), (3, .ok (.pt 2 0)), (9, .ok (.v (.bool s9)))], [(0, .var [.v (.int .i64 e0_0), .v (.string e0_1), .v (.string e0_2), .v (.int .i64 e0_3), .v (.int .i64 e0_4), .v (.string e0_5)] 119), (1, .var [.v (.int .i64 e1_0), .v (.string e1_1), .v (.string e1_2), .v (.int .i64 e1_3), .v (.int .i64 e1_4), .v (.string e1_5)] 119), (2, .var [.v (.int .i64 e2_0), .v (.string e2_1), .v (.string e2_2), .v (.int .i64 e2_3), .v (.int .i64 e2_4), .v (.string e2_5)] 119)]⟩, 3)
noncomputable def L87_15 (e0_0 : Int) (e0_1 : ByteArray) (e0_2 : ByteArray) (e0_3 : Int) (e0_4 : Int) (e0_5 : ByteArray) (e1_0 : Int) (e1_1 : ByteArray) (e1_2 : ByteArray) (e1_3 : Int) (e1_4 : Int) (e1_5 : ByteArray) (e2_0 : Int) (e2_1 : ByteArray) (e2_2 : ByteArray) (e2_3 : Int) (e2_4 : Int) (e2_5 : ByteArray) : Option (Fw.Call × Unit) := Ln 166 15 (⟨64, [(1, .ok (.pt 0 0)), (2, .ok (.pt 1 0)), (3, .ok (.pt 2 0))], [(0, .var [.v (.int .i64 e0_0), .v (.string e0_1), .v (.string e0_2), .v (.int .i64 e0_3), .v (.int .i64 e0_4), .v (.string e0_5)] 119), (1, .var [.v (.int .i64 e1_0), .v (.string e1_1), .v (.string e1_2), .v (.int .i64 e1_3), .v (.int .i64 e1_4), .v (.string e1_5)] 119), (2, .var [.v (.int .i64 e2_0), .v (.string e2_1), .v (.string e2_2), .v (.int .i64 e2_3), .v (.int .i64 e2_4), .v (.string e2_5)] 119)]⟩, 3)
noncomputable def L87_245 (s21 : Int) (s22 : Bool) (e0_0 : Int) (e0_1 : ByteArray) (e0_2 : ByteArray) (e0_3 : Int) (e0_4 : Int) (e0_5 : ByteArray) (e1_0 : Int) (e1_1 : ByteArray) (e1_2 : ByteArray) (e1_3 : Int) (e1_4 : Int) (e1_5 : ByteArray) (e2_0 : Int) (e2_1 : ByteArray) (e2_2 : ByteArray) (e2_3 : Int) (e2_4 : Int) (e2_5 : ByteArray) : Option (Fw.Call × Unit) := Ln 166 245 (⟨64, [(1, .ok (.pt 0 0)), (2, .ok (.pt 1 0)), (3, .ok (.pt 2 0)), (21, .ok (.v (.int .i64 s21))), (22, .ok (.v (.bool s22)))], [(0, .var [.v (.int .i64 e0_0), .v (.string e0_1), .v (.string e0_2), .v (.int .i64 e0_3), .v (.int .i64 e0_4), .v (.string e0_5)] 119), (1, .var [.v (.int .i64 e1_0), .v (.string e1_1), .v (.string e1_2), .v (.int .i64 e1_3), .v (.int .i64 e1_4), .v (.string e1_5)] 119), (2, .var [.v (.int .i64 e2_0), .v (.string e2_1), .v (.string e2_2), .v (.int .i64 e2_3), .v (.int .i64 e2_4), .v (.string e2_5)] 119)]⟩, 3)
noncomputable def L87_983 (s21 : Int) (s28 : Bool) (e0_0 : Int) (e0_1 : ByteArray) (e0_2 : ByteArray) (e0_3 : Int) (e0_4 : Int) (e0_5 : ByteArray) (e1_0 : Int) (e1_1 : ByteArray) (e1_2 : ByteArray) (e1_3 : Int) (e1_4 : Int) (e1_5 : ByteArray) (e2_0 : Int) (e2_1 : ByteArray) (e2_2 : ByteArray) (e2_3 : Int) (e2_4 : Int) (e2_5 : ByteArray) : Option (Fw.Call × Unit) := Ln 166 983 (⟨64, [(1, .ok (.pt 0 0)), (2, .ok (.pt 1 0)), (3, .ok (.pt 2 0)), (21, .ok (.v (.int .i64 s21))), (28, .ok (.v (.bool s28)))], [(0, .var [.v (.int .i64 e0_0), .v (.string e0_1), .v (.string e0_2), .v (.int .i64 e0_3), .v (.int .i64 e0_4), .v (.string e0_5)] 119), (1, .var [.v (.int .i64 e1_0), .v (.string e1_1), .v (.string e1_2), .v (.int .i64 e1_3), .v (.int .i64 e1_4), .v (.string e1_5)] 119), (2, .var [.v (.int .i64 e2_0), .v (.string e2_1), .v (.string e2_2), .v (.int .i64 e2_3), .v (.int .i64 e2_4), .v (.string e2_5)] 119)]⟩, 3)
noncomputable def L87_31 (e0_0 : Int) (e0_1 : ByteArray) (e0_2 : ByteArray) (e0_3 : Int) (e0_4 : Int) (e0_5 : ByteArray) (e1_0 : Int) (e1_1 : ByteArray) (e1_2 : ByteArray) (e1_3 : Int) (e1_4 : Int) (e1_5 : ByteArray) : Option (Fw.Call × Unit) := Ln 166 31 (⟨64, [(2, .ok (.pt 0 0)), (3, .ok (.pt 1 0))], [(0, .var [.v (.int .i64 e0_0), .v (.string e0_1), .v (.string e0_2), .v (.int .i64 e0_3), .v (.int .i64 e0_4), .v (.string e0_5)] 119), (1, .var [.v (.int .i64 e1_0), .v (.string e1_1), .v (.string e1_2), .v (.int .i64 e1_3), .v (.int .i64 e1_4), .v (.string e1_5)] 119)]⟩, 2)
noncomputable def L87_3935 (s21 : Int) (s37 : Bool) (e0_0 : Int) (e0_1 : ByteArray) (e0_2 : ByteArray) (e0_3 : Int) (e0_4 : Int) (e0_5 : ByteArray) (e1_0 : Int) (e1_1 : ByteArray) (e1_2 : ByteArray) (e1_3 : Int) (e1_4 : Int) (e1_5 : ByteArray) (e2_0 : Int) (e2_1 : ByteArray) (e2_2 : ByteArray) (e2_3 : Int) (e2_4 : Int) (e2_5 : ByteArray) : Option (Fw.Call × Unit) := Ln 166 3935 (⟨64, [(1, .ok (.pt 0 0)), (2, .ok (.pt 1 0)), (3, .ok (.pt 2 0)), (21, .ok (.v (.int .i64 s21))), (37, .ok (.v (.bool s37)))], [(0, .var [.v (.int .i64 e0_0), .v (.string e0_1), .v (.string e0_2), .v (.int .i64 e0_3), .v (.int .i64 e0_4), .v (.string e0_5)] 119), (1, .var [.v (.int .i64 e1_0), .v (.string e1_1), .v (.string e1_2), .v (.int .i64 e1_3), .v (.int .i64 e1_4), .v (.string e1_5)] 119), (2, .var [.v (.int .i64 e2_0), .v (.string e2_1), .v (.string e2_2), .v (.int .i64 e2_3), .v (.int .i64 e2_4), .v (.string e2_5)] 119)]⟩, 3)
noncomputable def L87_15743 (s21 : Int) (s48 : Bool) (e0_0 : Int) (e0_1 : ByteArray) (e0_2 : ByteArray) (e0_3 : Int) (e0_4 : Int) (e0_5 : ByteArray) (e1_0 : Int) (e1_1 : ByteArray) (e1_2 : ByteArray) (e1_3 : Int) (e1_4 : Int) (e1_5 : ByteArray) (e2_0 : Int) (e2_1 : ByteArray) (e2_2 : ByteArray) (e2_3 : Int) (e2_4 : Int) (e2_5 : ByteArray) : Option (Fw.Call × Unit) := Ln 166 15743 (⟨64, [(1, .ok (.pt 0 0)), (2, .ok (.pt 1 0)), (3, .ok (.pt 2 0)), (21, .ok (.v (.int .i64 s21))), (48, .ok (.v (.bool s48)))], [(0, .var [.v (.int .i64 e0_0), .v (.string e0_1), .v (.string e0_2), .v (.int .i64 e0_3), .v (.int .i64 e0_4), .v (.string e0_5)] 119), (1, .var [.v (.int .i64 e1_0), .v (.string e1_1), .v (.string e1_2), .v (.int .i64 e1_3), .v (.int .i64 e1_4), .v (.string e1_5)] 119), (2, .var [.v (.int .i64 e2_0), .v (.string e2_1), .v (.string e2_2), .v (.int .i64 e2_3), .v (.int .i64 e2_4), .v (.string e2_5)] 119)]⟩, 3)
theorem E87 (x0 : Fw.Call) : D87 x0 = (bif (decide (x0.Kind = 1)) then (L87_117 (decide (x0.Kind = 1)) x0.Kind x0.Name x0.To x0.A x0.B x0.Text 0 (tx []) (tx []) 0 0 (tx []) x0.Kind (tx []) (tx []) 0 0 (tx [])) else bif (decide (x0.Kind = 3)) then (L87_117 (decide (x0.Kind = 3)) x0.Kind x0.Name x0.To x0.A x0.B x0.Text 0 (tx []) (tx []) 0 0 (tx []) x0.Kind (tx []) (tx []) 0 0 (tx [])) else bif (decide (x0.Kind = 2)) then (L87_117 (decide (x0.Kind = 2)) x0.Kind x0.Name x0.To x0.A x0.B x0.Text 0 (tx []) (tx []) 0 0 (tx []) x0.Kind (tx []) (tx []) 0 0 (tx [])) else bif (decide (x0.Kind = 4)) then (L87_117 (decide (x0.Kind = 4)) x0.Kind x0.Name x0.To x0.A x0.B x0.Text 0 (tx []) (tx []) 0 0 (tx []) x0.Kind (tx []) (tx []) 0 0 (tx [])) else bif (decide (x0.Kind = 6)) then (L87_117 (decide (x0.Kind = 6)) x0.Kind x0.Name x0.To x0.A x0.B x0.Text 0 (tx []) (tx []) 0 0 (tx []) x0.Kind (tx []) (tx []) 0 0 (tx [])) else bif (decide (x0.Kind = 7)) then (L87_117 (decide (x0.Kind = 7)) x0.Kind x0.Name x0.To x0.A x0.B x0.Text 0 (tx []) (tx []) 0 0 (tx []) x0.Kind (tx []) (tx []) 0 0 (tx [])) else L87_117 (decide (x0.Kind = 8)) x0.Kind x0.Name x0.To x0.A x0.B x0.Text 0 (tx []) (tx []) 0 0 (tx []) x0.Kind (tx []) (tx []) 0 0 (tx [])) := (Dn_eq _ _).trans (by kernel_rfl)
theorem P87_117 (s9 : Bool) (e0_0 : Int) (e0_1 : ByteArray) (e0_2 : ByteArray) (e0_3 : Int) (e0_4 : Int) (e0_5 : ByteArray) (e1_0 : Int) (e1_1 : ByteArray) (e1_2 : ByteArray) (e1_3 : Int) (e1_4 : Int) (e1_5 : ByteArray) (e2_0 : Int) (e2_1 : ByteArray) (e2_2 : ByteArray) (e2_3 : Int) (e2_4 : Int) (e2_5 : ByteArray) : L87_117 s9 e0_0 e0_1 e0_2 e0_3 e0_4 e0_5 e1_0 e1_1 e1_2 e1_3 e1_4 e1_5 e2_0 e2_1 e2_2 e2_3 e2_4 e2_5 = (bif s9 then (L87_15 e0_0 e0_1 e0_2 e0_3 e0_4 e0_5 e1_0 e1_1 e1_2 e1_3 e1_4 e1_5 e2_0 e0_1 e2_2 e2_3 e2_4 e2_5) else L87_15 e0_0 e0_1 e0_2 e0_3 e0_4 e0_5 e1_0 e1_1 e1_2 e1_3 e1_4 e1_5 e2_0 e2_1 e2_2 e2_3 e2_4 e2_5) := (Ln_eq _ _ _).trans (by kernel_rfl)
theorem P87_15 (e0_0 : Int) (e0_1 : ByteArray) (e0_2 : ByteArray) (e0_3 : Int) (e0_4 : Int) (e0_5 : ByteArray) (e1_0 : Int) (e1_1 : ByteArray) (e1_2 : ByteArray) (e1_3 : Int) (e1_4 : Int) (e1_5 : ByteArray) (e2_0 : Int) (e2_1 : ByteArray) (e2_2 : ByteArray) (e2_3 : Int) (e2_4 : Int) (e2_5 : ByteArray) : L87_15 e0_0 e0_1 e0_2 e0_3 e0_4 e0_5 e1_0 e1_1 e1_2 e1_3 e1_4 e1_5 e2_0 e2_1 e2_2 e2_3 e2_4 e2_5 = (bif (decide (e0_0 = 2)) then (L87_245 e0_0 (decide (e0_0 = 2)) e0_0 e0_1 e0_2 e0_3 e0_4 e0_5 e1_0 e1_1 e1_2 e1_3 e1_4 e1_5 e2_0 e2_1 e2_2 e2_3 e2_4 e2_5) else L87_245 e0_0 (decide (e0_0 = 4)) e0_0 e0_1 e0_2 e0_3 e0_4 e0_5 e1_0 e1_1 e1_2 e1_3 e1_4 e1_5 e2_0 e2_1 e2_2 e2_3 e2_4 e2_5) := (Ln_eq _ _ _).trans (by kernel_rfl)
theorem P87_245 (s21 : Int) (s22 : Bool) (e0_0 : Int) (e0_1 : ByteArray) (e0_2 : ByteArray) (e0_3 : Int) (e0_4 : Int) (e0_5 : ByteArray) (e1_0 : Int) (e1_1 : ByteArray) (e1_2 : ByteArray) (e1_3 : Int) (e1_4 : Int) (e1_5 : ByteArray) (e2_0 : Int) (e2_1 : ByteArray) (e2_2 : ByteArray) (e2_3 : Int) (e2_4 : Int) (e2_5 : ByteArray) : L87_245 s21 s22 e0_0 e0_1 e0_2 e0_3 e0_4 e0_5 e1_0 e1_1 e1_2 e1_3 e1_4 e1_5 e2_0 e2_1 e2_2 e2_3 e2_4 e2_5 = (bif s22 then (L87_31 e1_0 e1_1 e1_2 e1_3 e1_4 e1_5 e2_0 e2_1 e0_2 e2_3 e2_4 e2_5) else bif (decide (s21 = 6)) then (L87_983 s21 (decide (s21 = 6)) e0_0 e0_1 e0_2 e0_3 e0_4 e0_5 e1_0 e1_1 e1_2 e1_3 e1_4 e1_5 e2_0 e2_1 e2_2 e2_3 e2_4 e2_5) else L87_983 s21 (decide (s21 = 16)) e0_0 e0_1 e0_2 e0_3 e0_4 e0_5 e1_0 e1_1 e1_2 e1_3 e1_4 e1_5 e2_0 e2_1 e2_2 e2_3 e2_4 e2_5) := (Ln_eq _ _ _).trans (by kernel_rfl)
theorem P87_983 (s21 : Int) (s28 : Bool) (e0_0 : Int) (e0_1 : ByteArray) (e0_2 : ByteArray) (e0_3 : Int) (e0_4 : Int) (e0_5 : ByteArray) (e1_0 : Int) (e1_1 : ByteArray) (e1_2 : ByteArray) (e1_3 : Int) (e1_4 : Int) (e1_5 : ByteArray) (e2_0 : Int) (e2_1 : ByteArray) (e2_2 : ByteArray) (e2_3 : Int) (e2_4 : Int) (e2_5 : ByteArray) : L87_983 s21 s28 e0_0 e0_1 e0_2 e0_3 e0_4 e0_5 e1_0 e1_1 e1_2 e1_3 e1_4 e1_5 e2_0 e2_1 e2_2 e2_3 e2_4 e2_5 = (bif s28 then (L87_31 e1_0 e1_1 e1_2 e1_3 e1_4 e1_5 e2_0 e2_1 e2_2 e0_3 e0_4 e2_5) else bif (decide (s21 = 8)) then (L87_3935 s21 (decide (s21 = 8)) e0_0 e0_1 e0_2 e0_3 e0_4 e0_5 e1_0 e1_1 e1_2 e1_3 e1_4 e1_5 e2_0 e2_1 e2_2 e2_3 e2_4 e2_5) else bif (decide (s21 = 11)) then (L87_3935 s21 (decide (s21 = 11)) e0_0 e0_1 e0_2 e0_3 e0_4 e0_5 e1_0 e1_1 e1_2 e1_3 e1_4 e1_5 e2_0 e2_1 e2_2 e2_3 e2_4 e2_5) else bif (decide (s21 = 13)) then (L87_3935 s21 (decide (s21 = 13)) e0_0 e0_1 e0_2 e0_3 e0_4 e0_5 e1_0 e1_1 e1_2 e1_3 e1_4 e1_5 e2_0 e2_1 e2_2 e2_3 e2_4 e2_5) else bif (decide (s21 = 14)) then (L87_3935 s21 (decide (s21 = 14)) e0_0 e0_1 e0_2 e0_3 e0_4 e0_5 e1_0 e1_1 e1_2 e1_3 e1_4 e1_5 e2_0 e2_1 e2_2 e2_3 e2_4 e2_5) else bif (decide (s21 = 18)) then (L87_3935 s21 (decide (s21 = 18)) e0_0 e0_1 e0_2 e0_3 e0_4 e0_5 e1_0 e1_1 e1_2 e1_3 e1_4 e1_5 e2_0 e2_1 e2_2 e2_3 e2_4 e2_5) else bif (decide (s21 = 19)) then (L87_3935 s21 (decide (s21 = 19)) e0_0 e0_1 e0_2 e0_3 e0_4 e0_5 e1_0 e1_1 e1_2 e1_3 e1_4 e1_5 e2_0 e2_1 e2_2 e2_3 e2_4 e2_5) else L87_3935 s21 (decide (s21 = 21)) e0_0 e0_1 e0_2 e0_3 e0_4 e0_5 e1_0 e1_1 e1_2 e1_3 e1_4 e1_5 e2_0 e2_1 e2_2 e2_3 e2_4 e2_5) := (Ln_eq _ _ _).trans (by kernel_rfl)
theorem P87_31 (e0_0 : Int) (e0_1 : ByteArray) (e0_2 : ByteArray) (e0_3 : Int) (e0_4 : Int) (e0_5 : ByteArray) (e1_0 : Int) (e1_1 : ByteArray) (e1_2 : ByteArray) (e1_3 : Int) (e1_4 : Int) (e1_5 : ByteArray) : L87_31 e0_0 e0_1 e0_2 e0_3 e0_4 e0_5 e1_0 e1_1 e1_2 e1_3 e1_4 e1_5 = (some ((⟨e1_0, e1_1, e1_2, e1_3, e1_4, e1_5⟩ : Fw.Call), ())) := (Ln_eq _ _ _).trans (by kernel_rfl)
theorem P87_3935 (s21 : Int) (s37 : Bool) (e0_0 : Int) (e0_1 : ByteArray) (e0_2 : ByteArray) (e0_3 : Int) (e0_4 : Int) (e0_5 : ByteArray) (e1_0 : Int) (e1_1 : ByteArray) (e1_2 : ByteArray) (e1_3 : Int) (e1_4 : Int) (e1_5 : ByteArray) (e2_0 : Int) (e2_1 : ByteArray) (e2_2 : ByteArray) (e2_3 : Int) (e2_4 : Int) (e2_5 : ByteArray) : L87_3935 s21 s37 e0_0 e0_1 e0_2 e0_3 e0_4 e0_5 e1_0 e1_1 e1_2 e1_3 e1_4 e1_5 e2_0 e2_1 e2_2 e2_3 e2_4 e2_5 = (bif s37 then (L87_31 e1_0 e1_1 e1_2 e1_3 e1_4 e1_5 e2_0 e2_1 e2_2 e0_3 e2_4 e2_5) else bif (decide (s21 = 7)) then (L87_15743 s21 (decide (s21 = 7)) e0_0 e0_1 e0_2 e0_3 e0_4 e0_5 e1_0 e1_1 e1_2 e1_3 e1_4 e1_5 e2_0 e2_1 e2_2 e2_3 e2_4 e2_5) else bif (decide (s21 = 10)) then (L87_15743 s21 (decide (s21 = 10)) e0_0 e0_1 e0_2 e0_3 e0_4 e0_5 e1_0 e1_1 e1_2 e1_3 e1_4 e1_5 e2_0 e2_1 e2_2 e2_3 e2_4 e2_5) else L87_15743 s21 (decide (s21 = 20)) e0_0 e0_1 e0_2 e0_3 e0_4 e0_5 e1_0 e1_1 e1_2 e1_3 e1_4 e1_5 e2_0 e2_1 e2_2 e2_3 e2_4 e2_5) := (Ln_eq _ _ _).trans (by kernel_rfl)
theorem P87_15743 (s21 : Int) (s48 : Bool) (e0_0 : Int) (e0_1 : ByteArray) (e0_2 : ByteArray) (e0_3 : Int) (e0_4 : Int) (e0_5 : ByteArray) (e1_0 : Int) (e1_1 : ByteArray) (e1_2 : ByteArray) (e1_3 : Int) (e1_4 : Int) (e1_5 : ByteArray) (e2_0 : Int) (e2_1 : ByteArray) (e2_2 : ByteArray) (e2_3 : Int) (e2_4 : Int) (e2_5 : ByteArray) : L87_15743 s21 s48 e0_0 e0_1 e0_2 e0_3 e0_4 e0_5 e1_0 e1_1 e1_2 e1_3 e1_4 e1_5 e2_0 e2_1 e2_2 e2_3 e2_4 e2_5 = (bif s48 then (L87_31 e1_0 e1_1 e1_2 e1_3 e1_4 e1_5 e2_0 e2_1 e2_2 e0_3 e2_4 e0_5) else bif (decide (s21 = 22)) then (L87_31 e1_0 e1_1 e1_2 e1_3 e1_4 e1_5 e2_0 e2_1 e2_2 e2_3 e2_4 e0_5) else L87_31 e1_0 e1_1 e1_2 e1_3 e1_4 e1_5 e2_0 e2_1 e2_2 e2_3 e2_4 e2_5) := (Ln_eq _ _ _).trans (by kernel_rfl)
theorem E88 (x0 : Fw.Mach) (x1 : ByteArray) : D88 x0 x1 = ((D130 x0 x1).bind fun y0 => (D111 y0.2.1).bind fun y1 => some (y0.1, (y1.1, ()))) := (Dn_eq _ _).trans (by kernel_rfl)
theorem E89 (x0 : Fw.Mach) (x1 : ByteArray) : D89 x0 x1 = ((D130 x0 x1).bind fun y0 => (D111 y0.2.1).bind fun y1 => bif (decide ((IntKind.wrap .i64 (y1.1 + 1)) > 999)) then (some (y0.1, (0, ()))) else (D122 (IntKind.wrap .i64 (y1.1 + 1))).bind fun y2 => (D131 y0.1 x1 y2.1).bind fun y3 => some (y3.1, ((IntKind.wrap .i64 (y1.1 + 1)), ()))) := (Dn_eq _ _).trans (by kernel_rfl)
theorem E90 (x0 : Fw.Mach) (x1 : ByteArray) (x2 : Int) : D90 x0 x1 x2 = ((D27 x2 1 999).bind fun y0 => bif (!y0.1) then ((D131 x0 x1 (tx [])).bind fun y3 => some (y3.1, ())) else (D122 x2).bind fun y1 => (D131 x0 x1 y1.1).bind fun y2 => some (y2.1, ())) := (Dn_eq _ _).trans (by kernel_rfl)
theorem E91 (x0 : Int) (x1 : ByteArray) : D91 x0 x1 = ((D112 (tx [114, 47]) x0 x1).bind fun y0 => some (y0.1, ())) := (Dn_eq _ _).trans (by kernel_rfl)
theorem E92 (x0 : Fw.Tx) : D92 x0 = (gd ((decide (((0 + x0.Calls.length) * 72) ≤ 140737488355328)) && (decide ((0 + x0.Calls.length) ≤ 9223372036854775807))) <| gd ((decide (((0 + x0.Answers.length) * 32) ≤ 140737488355328)) && (decide ((0 + x0.Answers.length) ≤ 9223372036854775807))) <| gd ((decide (((0 + x0.Touch.Reads.length) * 16) ≤ 140737488355328)) && (decide ((0 + x0.Touch.Reads.length) ≤ 9223372036854775807))) <| gd ((decide (((0 + x0.Touch.Writes.length) * 16) ≤ 140737488355328)) && (decide ((0 + x0.Touch.Writes.length) ≤ 9223372036854775807))) <| gd ((decide (((0 + x0.Marks.length) * 8) ≤ 140737488355328)) && (decide ((0 + x0.Marks.length) ≤ 9223372036854775807))) <| some ({ x0 with Calls := ([] ++ x0.Calls), Answers := ([] ++ x0.Answers), Touch := (⟨([] ++ x0.Touch.Reads), ([] ++ x0.Touch.Writes)⟩ : Fw.Touch), Marks := ([] ++ x0.Marks) }, ())) := (Dn_eq _ _).trans (by kernel_rfl)
noncomputable def L93_52 (s0 : List Fw.Tx) (s1 : Int) (s5 : Int) : Option (Int × Unit) := Ln 292 52 (⟨20, [(0, .ok (.ro 45 s0)), (1, .ok (.v (.int .i64 s1))), (5, .ok (.v (.int .i64 s5)))], []⟩, 0)
noncomputable def L93_7  : Option (Int × Unit) := Ln 292 7 (⟨20, [], []⟩, 0)
theorem E93 (x0 : List Fw.Tx) (x1 : Int) : D93 x0 x1 = (L93_52 x0 x1 0) := (Dn_eq _ _).trans (by kernel_rfl)
theorem P93_52 (s0 : List Fw.Tx) (s1 : Int) (s5 : Int) : L93_52 s0 s1 s5 = (bif (decide (s5 < (s0.length : Int))) then (gd ((decide (0 ≤ s5)) && (decide (s5 < (s0.length : Int)))) <| bif (decide ((nth s0 s5.toNat).Id = s1)) then (some (s5, ())) else L93_52 s0 s1 (IntKind.wrap .i64 (s5 + 1))) else L93_7) := (Ln_eq _ _ _).trans (by kernel_rfl)
theorem P93_7  : L93_7 = (some ((-1), ())) := (Ln_eq _ _ _).trans (by kernel_rfl)
noncomputable def L94_52 (s0 : List Fw.Cell) (s3 : Int) : Option (Bool × Unit) := Ln 293 52 (⟨48, [(0, .ok (.ro 152 s0)), (3, .ok (.v (.int .i64 s3)))], []⟩, 0)
noncomputable def L94_7 (s0 : List Fw.Cell) : Option (Bool × Unit) := Ln 293 7 (⟨48, [(0, .ok (.ro 152 s0))], []⟩, 0)
theorem E94 (x0 : List Fw.Cell) : D94 x0 = (L94_52 x0 0) := (Dn_eq _ _).trans (by kernel_rfl)
theorem P94_52 (s0 : List Fw.Cell) (s3 : Int) : L94_52 s0 s3 = (bif (decide (s3 < (s0.length : Int))) then (gd ((decide (0 ≤ s3)) && (decide (s3 < (s0.length : Int)))) <| (D132 (nth s0 s3.toNat).Key).bind fun y0 => gd (((decide (0 ≤ s3)) && (decide (s3 < (s0.length : Int)))) || (!(!(!y0.1)))) <| bif (!(!y0.1)) then ((D27 ((nth s0 s3.toNat).Val.size : Int) 1 60).bind fun y1 => gd (((decide (0 ≤ (IntKind.wrap .i64 (s3 - 1)))) && (decide ((IntKind.wrap .i64 (s3 - 1)) < (s0.length : Int)))) || (!((!(!y1.1)) && (decide (s3 > 0))))) <| gd (((decide (0 ≤ s3)) && (decide (s3 < (s0.length : Int)))) || (!((!(!y1.1)) && (decide (s3 > 0))))) <| bif ((!y1.1) || ((decide (s3 > 0)) && (!(ltB (nth s0 (IntKind.wrap .i64 (s3 - 1)).toNat).Key (nth s0 s3.toNat).Key)))) then (some (false, ())) else L94_52 s0 (IntKind.wrap .i64 (s3 + 1))) else gd (((decide (0 ≤ (IntKind.wrap .i64 (s3 - 1)))) && (decide ((IntKind.wrap .i64 (s3 - 1)) < (s0.length : Int)))) || true) <| gd (((decide (0 ≤ s3)) && (decide (s3 < (s0.length : Int)))) || true) <| some (false, ())) else L94_7 s0) := (Ln_eq _ _ _).trans (by kernel_rfl)
theorem P94_7 (s0 : List Fw.Cell) : L94_7 s0 = (some ((decide ((s0.length : Int) ≤ 900)), ())) := (Ln_eq _ _ _).trans (by kernel_rfl)
noncomputable def L95_52 (s3 : Int) (e0_0 : List Fw.Slot) (e0_1 : ByteArray) (e0_2 : Int) : Option (Bool × Unit) := Ln 294 52 (⟨45, [(1, .ok (.pt 0 0)), (3, .ok (.v (.int .i64 s3)))], [(0, .var [.ro 201 e0_0, .v (.string e0_1), .v (.int .i64 e0_2)] 30)]⟩, 1)
noncomputable def L95_7 (e0_0 : List Fw.Slot) (e0_1 : ByteArray) (e0_2 : Int) : Option (Bool × Unit) := Ln 294 7 (⟨45, [(1, .ok (.pt 0 0))], [(0, .var [.ro 201 e0_0, .v (.string e0_1), .v (.int .i64 e0_2)] 30)]⟩, 1)
theorem E95 (x0 : Fw.Disk) : D95 x0 = (L95_52 0 x0.Slots x0.Journal.Text x0.Journal.Sure) := (Dn_eq _ _).trans (by kernel_rfl)
theorem P95_52 (s3 : Int) (e0_0 : List Fw.Slot) (e0_1 : ByteArray) (e0_2 : Int) : L95_52 s3 e0_0 e0_1 e0_2 = (bif (decide (s3 < (e0_0.length : Int))) then (gd ((decide (0 ≤ s3)) && (decide (s3 < (e0_0.length : Int)))) <| bif (nth e0_0 s3.toNat).Whole then ((D27 (nth e0_0 s3.toNat).Seq 0 99999).bind fun y0 => bif (!(!y0.1)) then ((D94 (nth e0_0 s3.toNat).Cells).bind fun y1 => bif ((!y0.1) || (!y1.1)) then (some (false, ())) else L95_52 (IntKind.wrap .i64 (s3 + 1)) e0_0 e0_1 e0_2) else ng (!(!y0.1)) <| gd ((!y0.1) && true) <| some (false, ())) else L95_52 (IntKind.wrap .i64 (s3 + 1)) e0_0 e0_1 e0_2) else L95_7 e0_0 e0_1 e0_2) := (Ln_eq _ _ _).trans (by kernel_rfl)
theorem P95_7 (e0_0 : List Fw.Slot) (e0_1 : ByteArray) (e0_2 : Int) : L95_7 e0_0 e0_1 e0_2 = (bif (decide ((e0_0.length : Int) = 2)) then ((D114 (⟨e0_0, (⟨e0_1, e0_2⟩ : Fw.Journal)⟩ : Fw.Disk)).bind fun y0 => bif (decide (y0.1 ≥ 0)) then ((D110 (⟨e0_1, e0_2⟩ : Fw.Journal)).bind fun y1 => some (y1.1, ())) else some (false, ())) else some (false, ())) := (Ln_eq _ _ _).trans (by kernel_rfl)
noncomputable def L96_52 (s0 : List Fw.Tx) (s3 : Int) : Option (Bool × Unit) := Ln 295 52 (⟨43, [(0, .ok (.ro 45 s0)), (3, .ok (.v (.int .i64 s3)))], []⟩, 0)
noncomputable def L96_7  : Option (Bool × Unit) := Ln 295 7 (⟨43, [], []⟩, 0)
noncomputable def L96_3364 (s0 : List Fw.Tx) (s3 : Int) (s4 : Int) : Option (Bool × Unit) := Ln 295 3364 (⟨43, [(0, .ok (.ro 45 s0)), (3, .ok (.v (.int .i64 s3))), (4, .ok (.v (.int .i64 s4)))], []⟩, 0)
noncomputable def L96_211 (s0 : List Fw.Tx) (s3 : Int) : Option (Bool × Unit) := Ln 295 211 (⟨43, [(0, .ok (.ro 45 s0)), (3, .ok (.v (.int .i64 s3)))], []⟩, 0)
theorem E96 (x0 : List Fw.Tx) : D96 x0 = (L96_52 x0 0) := (Dn_eq _ _).trans (by kernel_rfl)
theorem P96_52 (s0 : List Fw.Tx) (s3 : Int) : L96_52 s0 s3 = (bif (decide (s3 < (s0.length : Int))) then (L96_3364 s0 s3 0) else L96_7) := (Ln_eq _ _ _).trans (by kernel_rfl)
theorem P96_7  : L96_7 = (some (true, ())) := (Ln_eq _ _ _).trans (by kernel_rfl)
theorem P96_3364 (s0 : List Fw.Tx) (s3 : Int) (s4 : Int) : L96_3364 s0 s3 s4 = (bif (decide (s4 < s3)) then (gd ((decide (0 ≤ s3)) && (decide (s3 < (s0.length : Int)))) <| gd (((decide (0 ≤ s4)) && (decide (s4 < (s0.length : Int)))) || (!(decide ((nth s0 s3.toNat).State = 1)))) <| gd (((decide (0 ≤ s3)) && (decide (s3 < (s0.length : Int)))) || (!((decide ((nth s0 s3.toNat).State = 1)) && (decide ((nth s0 s4.toNat).State = 1))))) <| gd (((decide (0 ≤ s4)) && (decide (s4 < (s0.length : Int)))) || (!((decide ((nth s0 s3.toNat).State = 1)) && (decide ((nth s0 s4.toNat).State = 1))))) <| bif ((decide ((nth s0 s3.toNat).State = 1)) && (decide ((nth s0 s4.toNat).State = 1))) then ((D102 (nth s0 s3.toNat).Touch (nth s0 s4.toNat).Touch).bind fun y0 => bif y0.1 then (some (false, ())) else L96_3364 s0 s3 (IntKind.wrap .i64 (s4 + 1))) else L96_3364 s0 s3 (IntKind.wrap .i64 (s4 + 1))) else L96_211 s0 s3) := (Ln_eq _ _ _).trans (by kernel_rfl)
theorem P96_211 (s0 : List Fw.Tx) (s3 : Int) : L96_211 s0 s3 = (L96_52 s0 (IntKind.wrap .i64 (s3 + 1))) := (Ln_eq _ _ _).trans (by kernel_rfl)
noncomputable def L97_52 (s0 : List Fw.Tx) (s1 : List Int) (s7 : Int) (e0_0 : Int) (e0_1 : Int) (e0_2 : Int) (e0_3 : Int) (e0_4 : List Fw.Call) (e0_5 : List Fw.Answer) (e0_6 : List ByteArray) (e0_7 : List ByteArray) (e0_8 : List Int) (e0_9 : Int) : Option (Bool × Unit) := Ln 296 52 (⟨30, [(0, .ok (.ro 45 s0)), (1, .ok (.ro 3 s1)), (5, .ok (.pt 0 0)), (7, .ok (.v (.int .i64 s7)))], [(0, .var [.v (.int .i64 e0_0), .v (.int .i64 e0_1), .v (.int .i64 e0_2), .v (.int .i64 e0_3), .ro 119 e0_4, .ro 170 e0_5, .ro 9 e0_6, .ro 9 e0_7, .ro 3 e0_8, .v (.int .i64 e0_9)] 45)]⟩, 1)
noncomputable def L97_7  : Option (Bool × Unit) := Ln 296 7 (⟨30, [], []⟩, 0)
theorem E97 (x0 : List Fw.Tx) (x1 : List Int) (x2 : Fw.Tx) : D97 x0 x1 x2 = (L97_52 x0 x1 0 x2.Id x2.Age x2.Proc x2.Began x2.Calls x2.Answers x2.Touch.Reads x2.Touch.Writes x2.Marks x2.State) := (Dn_eq _ _).trans (by kernel_rfl)
theorem P97_52 (s0 : List Fw.Tx) (s1 : List Int) (s7 : Int) (e0_0 : Int) (e0_1 : Int) (e0_2 : Int) (e0_3 : Int) (e0_4 : List Fw.Call) (e0_5 : List Fw.Answer) (e0_6 : List ByteArray) (e0_7 : List ByteArray) (e0_8 : List Int) (e0_9 : Int) : L97_52 s0 s1 s7 e0_0 e0_1 e0_2 e0_3 e0_4 e0_5 e0_6 e0_7 e0_8 e0_9 = (bif (decide (s7 < (s0.length : Int))) then (gd ((decide (0 ≤ s7)) && (decide (s7 < (s0.length : Int)))) <| (D99 s1 (nth s0 s7.toNat).Id).bind fun y0 => gd (((decide (0 ≤ s7)) && (decide (s7 < (s0.length : Int)))) || (!y0.1)) <| bif y0.1 then ((D133 (⟨e0_0, e0_1, e0_2, e0_3, e0_4, e0_5, (⟨e0_6, e0_7⟩ : Fw.Touch), e0_8, e0_9⟩ : Fw.Tx) (nth s0 s7.toNat)).bind fun y1 => bif (!y1.1) then (some (false, ())) else L97_52 s0 s1 (IntKind.wrap .i64 (s7 + 1)) e0_0 e0_1 e0_2 e0_3 e0_4 e0_5 e0_6 e0_7 e0_8 e0_9) else L97_52 s0 s1 (IntKind.wrap .i64 (s7 + 1)) e0_0 e0_1 e0_2 e0_3 e0_4 e0_5 e0_6 e0_7 e0_8 e0_9) else L97_7) := (Ln_eq _ _ _).trans (by kernel_rfl)
theorem P97_7  : L97_7 = (some (true, ())) := (Ln_eq _ _ _).trans (by kernel_rfl)
theorem E98 (x0 : List Fw.Cell) (x1 : Fw.Tx) : D98 x0 x1 = ((D129 x1).bind fun y0 => (D134 x0 y0.1).bind fun y1 => some (y1.1, ())) := (Dn_eq _ _).trans (by kernel_rfl)
noncomputable def L99_52 (s0 : List Int) (s1 : Int) (s5 : Int) : Option (Bool × Unit) := Ln 298 52 (⟨18, [(0, .ok (.ro 3 s0)), (1, .ok (.v (.int .i64 s1))), (5, .ok (.v (.int .i64 s5)))], []⟩, 0)
noncomputable def L99_7  : Option (Bool × Unit) := Ln 298 7 (⟨18, [], []⟩, 0)
theorem E99 (x0 : List Int) (x1 : Int) : D99 x0 x1 = (L99_52 x0 x1 0) := (Dn_eq _ _).trans (by kernel_rfl)
theorem P99_52 (s0 : List Int) (s1 : Int) (s5 : Int) : L99_52 s0 s1 s5 = (bif (decide (s5 < (s0.length : Int))) then (gd ((decide (0 ≤ s5)) && (decide (s5 < (s0.length : Int)))) <| bif (decide ((nth s0 s5.toNat) = s1)) then (some (true, ())) else L99_52 s0 s1 (IntKind.wrap .i64 (s5 + 1))) else L99_7) := (Ln_eq _ _ _).trans (by kernel_rfl)
theorem P99_7  : L99_7 = (some (false, ())) := (Ln_eq _ _ _).trans (by kernel_rfl)
end Go.Proofs.YtdghkmbppfmifaaGreatDoor.Ri

namespace Go.Proofs.YtdghkmbppfmifaaGreatDoor.Ri
open Go.Proofs.YtdghkmbppfmifaaGreatDoor.Fw
open Go.RowKit
set_option linter.unusedVariables false
set_option maxRecDepth 100000
noncomputable def L100_116 (s6 : Int) (e0_0 : List ByteArray) (e0_1 : List ByteArray) (e3 : List ByteArray) (e4 : List ByteArray) : Option (Fw.Touch × Unit) := Ln 127 116 (⟨50, [(3, .ok (.pt 0 0)), (4, .ok (.pt 1 0)), (5, .ok (.pt 2 0)), (6, .ok (.v (.int .i64 s6)))], [(0, .var [.ro 9 e0_0, .ro 9 e0_1] 42), (1, .var [.v (.slice none 0 0), .v (.slice none 0 0)] 42), (2, .var [.sl 3, .sl 4] 42), (3, .own 9 e3), (4, .own 9 e4)]⟩, 5)
noncomputable def L100_15 (e0_0 : List ByteArray) (e0_1 : List ByteArray) (e3 : List ByteArray) (e4 : List ByteArray) : Option (Fw.Touch × Unit) := Ln 127 15 (⟨50, [(3, .ok (.pt 0 0)), (4, .ok (.pt 1 0)), (5, .ok (.pt 2 0))], [(0, .var [.ro 9 e0_0, .ro 9 e0_1] 42), (1, .var [.v (.slice none 0 0), .v (.slice none 0 0)] 42), (2, .var [.sl 3, .sl 4] 42), (3, .own 9 e3), (4, .own 9 e4)]⟩, 5)
noncomputable def L100_244 (s7 : Int) (e0_0 : List ByteArray) (e0_1 : List ByteArray) (e3 : List ByteArray) (e4 : List ByteArray) : Option (Fw.Touch × Unit) := Ln 127 244 (⟨50, [(3, .ok (.pt 0 0)), (4, .ok (.pt 1 0)), (5, .ok (.pt 2 0)), (7, .ok (.v (.int .i64 s7)))], [(0, .var [.ro 9 e0_0, .ro 9 e0_1] 42), (1, .var [.v (.slice none 0 0), .v (.slice none 0 0)] 42), (2, .var [.sl 3, .sl 4] 42), (3, .own 9 e3), (4, .own 9 e4)]⟩, 5)
noncomputable def L100_31 (e2 : List ByteArray) (e3 : List ByteArray) : Option (Fw.Touch × Unit) := Ln 127 31 (⟨50, [(4, .ok (.pt 0 0)), (5, .ok (.pt 1 0))], [(0, .var [.v (.slice none 0 0), .v (.slice none 0 0)] 42), (1, .var [.sl 2, .sl 3] 42), (2, .own 9 e2), (3, .own 9 e3)]⟩, 4)
theorem E100 (x0 : Fw.Touch) (x1 : Fw.Touch) : D100 x0 x1 = (gd ((decide (((0 + x0.Reads.length) * 16) ≤ 140737488355328)) && (decide ((0 + x0.Reads.length) ≤ 9223372036854775807))) <| gd ((decide (((0 + x0.Writes.length) * 16) ≤ 140737488355328)) && (decide ((0 + x0.Writes.length) ≤ 9223372036854775807))) <| L100_116 0 x1.Reads x1.Writes ([] ++ x0.Reads) ([] ++ x0.Writes)) := (Dn_eq _ _).trans (by kernel_rfl)
theorem P100_116 (s6 : Int) (e0_0 : List ByteArray) (e0_1 : List ByteArray) (e3 : List ByteArray) (e4 : List ByteArray) : L100_116 s6 e0_0 e0_1 e3 e4 = (bif (decide (s6 < (e0_0.length : Int))) then (gd ((decide (0 ≤ s6)) && (decide (s6 < (e0_0.length : Int)))) <| (D135 e3 (nth e0_0 s6.toNat)).bind fun y0 => L100_116 (IntKind.wrap .i64 (s6 + 1)) e0_0 e0_1 y0.1 e4) else L100_15 e0_0 e0_1 e3 e4) := (Ln_eq _ _ _).trans (by kernel_rfl)
theorem P100_15 (e0_0 : List ByteArray) (e0_1 : List ByteArray) (e3 : List ByteArray) (e4 : List ByteArray) : L100_15 e0_0 e0_1 e3 e4 = (L100_244 0 e0_0 e0_1 e3 e4) := (Ln_eq _ _ _).trans (by kernel_rfl)
theorem P100_244 (s7 : Int) (e0_0 : List ByteArray) (e0_1 : List ByteArray) (e3 : List ByteArray) (e4 : List ByteArray) : L100_244 s7 e0_0 e0_1 e3 e4 = (bif (decide (s7 < (e0_1.length : Int))) then (gd ((decide (0 ≤ s7)) && (decide (s7 < (e0_1.length : Int)))) <| (D135 e4 (nth e0_1 s7.toNat)).bind fun y0 => L100_244 (IntKind.wrap .i64 (s7 + 1)) e0_0 e0_1 e3 y0.1) else L100_31 e3 e4) := (Ln_eq _ _ _).trans (by kernel_rfl)
theorem P100_31 (e2 : List ByteArray) (e3 : List ByteArray) : L100_31 e2 e3 = (some ((⟨e2, e3⟩ : Fw.Touch), ())) := (Ln_eq _ _ _).trans (by kernel_rfl)
noncomputable def L101_1038335 (s1 : Int) (s27 : Int) (s86 : Bool) (e1 : List Fw.Cell) (e2 : List ByteArray) (e3 : List ByteArray) (e4_0 : Int) (e4_1 : ByteArray) (e4_2 : ByteArray) (e4_3 : Int) (e4_4 : Int) (e4_5 : ByteArray) (e6_0 : Int) (e6_1 : Int) (e6_2 : ByteArray) (e7_0 : Int) (e7_1 : Int) (e7_2 : ByteArray) : Option (Fw.Mach × Fw.Answer × Unit) := Ln 174 1038335 (⟨213, [(1, .ok (.v (.int .i64 s1))), (3, .ok (.pt 0 0)), (5, .ok (.pt 4 0)), (6, .ok (.pt 5 0)), (7, .ok (.pt 6 0)), (9, .ok (.pt 7 0)), (27, .ok (.v (.int .i64 s27))), (86, .ok (.v (.bool s86)))], [(0, .var [.sl 1, .sl 2, .sl 3] 160), (1, .own 152 e1), (2, .own 9 e2), (3, .own 9 e3), (4, .var [.v (.int .i64 e4_0), .v (.string e4_1), .v (.string e4_2), .v (.int .i64 e4_3), .v (.int .i64 e4_4), .v (.string e4_5)] 119), (5, .var [.v (.slice none 0 0), .v (.slice none 0 0), .v (.slice none 0 0)] 160), (6, .var [.v (.int .i64 e6_0), .v (.int .i64 e6_1), .v (.string e6_2)] 170), (7, .var [.v (.int .i64 e7_0), .v (.int .i64 e7_1), .v (.string e7_2)] 170)]⟩, 8)
noncomputable def L101_127 (e1 : List Fw.Cell) (e2 : List ByteArray) (e3 : List ByteArray) (e5_0 : Int) (e5_1 : Int) (e5_2 : ByteArray) (e6_0 : Int) (e6_1 : Int) (e6_2 : ByteArray) : Option (Fw.Mach × Fw.Answer × Unit) := Ln 174 127 (⟨213, [(3, .ok (.pt 0 0)), (6, .ok (.pt 4 0)), (7, .ok (.pt 5 0)), (9, .ok (.pt 6 0))], [(0, .var [.sl 1, .sl 2, .sl 3] 160), (1, .own 152 e1), (2, .own 9 e2), (3, .own 9 e3), (4, .var [.v (.slice none 0 0), .v (.slice none 0 0), .v (.slice none 0 0)] 160), (5, .var [.v (.int .i64 e5_0), .v (.int .i64 e5_1), .v (.string e5_2)] 170), (6, .var [.v (.int .i64 e6_0), .v (.int .i64 e6_1), .v (.string e6_2)] 170)]⟩, 7)
theorem E101 (x0 : Fw.Mach) (x1 : Int) (x2 : Fw.Call) : D101 x0 x1 x2 = ((D136 x0 x1).bind fun y0 => bif (!(decide (y0.2.1 = 1))) then (some (y0.1, ((⟨2, 0, (tx [])⟩ : Fw.Answer), ()))) else (D137 x2).bind fun y1 => bif (!y1.1) then (some (y0.1, ((⟨4, 0, (tx [])⟩ : Fw.Answer), ()))) else bif (decide (x2.Kind = 1)) then ((D138 y0.1 x2.Name).bind fun y6 => L101_127 y6.1.Store y6.1.Touch.Reads y6.1.Touch.Writes 0 0 (tx []) y6.2.2.1 y6.2.1 (tx [])) else bif (decide (x2.Kind = 2)) then ((D139 y0.1 x2.Name x2.To).bind fun y5 => L101_127 y5.1.Store y5.1.Touch.Reads y5.1.Touch.Writes 0 0 (tx []) y5.2.1 0 (tx [])) else bif (decide (x2.Kind = 3)) then ((D140 y0.1 x2.Name).bind fun y4 => L101_127 y4.1.Store y4.1.Touch.Reads y4.1.Touch.Writes 0 0 (tx []) y4.2.1 0 (tx [])) else bif (decide (x2.Kind = 4)) then ((D141 y0.1 x2.Name x2.To).bind fun y3 => L101_127 y3.1.Store y3.1.Touch.Reads y3.1.Touch.Writes 0 0 (tx []) y3.2.1 0 (tx [])) else bif (decide (x2.Kind = 5)) then ((D142 y0.1).bind fun y2 => some (y2.1, (y2.2.1, ()))) else bif (decide (x2.Kind = 6)) then (L101_1038335 x1 x2.Kind (decide (x2.Kind = 6)) y0.1.Store y0.1.Touch.Reads y0.1.Touch.Writes x2.Kind x2.Name x2.To x2.A x2.B x2.Text 0 0 (tx []) 0 0 (tx [])) else bif (decide (x2.Kind = 7)) then (L101_1038335 x1 x2.Kind (decide (x2.Kind = 7)) y0.1.Store y0.1.Touch.Reads y0.1.Touch.Writes x2.Kind x2.Name x2.To x2.A x2.B x2.Text 0 0 (tx []) 0 0 (tx [])) else L101_1038335 x1 x2.Kind (decide (x2.Kind = 8)) y0.1.Store y0.1.Touch.Reads y0.1.Touch.Writes x2.Kind x2.Name x2.To x2.A x2.B x2.Text 0 0 (tx []) 0 0 (tx [])) := (Dn_eq _ _).trans (by kernel_rfl)
theorem P101_1038335 (s1 : Int) (s27 : Int) (s86 : Bool) (e1 : List Fw.Cell) (e2 : List ByteArray) (e3 : List ByteArray) (e4_0 : Int) (e4_1 : ByteArray) (e4_2 : ByteArray) (e4_3 : Int) (e4_4 : Int) (e4_5 : ByteArray) (e6_0 : Int) (e6_1 : Int) (e6_2 : ByteArray) (e7_0 : Int) (e7_1 : Int) (e7_2 : ByteArray) : L101_1038335 s1 s27 s86 e1 e2 e3 e4_0 e4_1 e4_2 e4_3 e4_4 e4_5 e6_0 e6_1 e6_2 e7_0 e7_1 e7_2 = (bif s86 then ((D143 (⟨e1, (⟨e2, e3⟩ : Fw.Touch)⟩ : Fw.Mach) (⟨e4_0, e4_1, e4_2, e4_3, e4_4, e4_5⟩ : Fw.Call)).bind fun y11 => some (y11.1, (y11.2.1, ()))) else bif (decide (s27 = 9)) then ((D144 (⟨e1, (⟨e2, e3⟩ : Fw.Touch)⟩ : Fw.Mach)).bind fun y10 => L101_127 y10.1.Store y10.1.Touch.Reads y10.1.Touch.Writes e6_0 e6_1 e6_2 y10.2.2.1 y10.2.1 e7_2) else bif (decide (s27 = 10)) then ((D145 (⟨e1, (⟨e2, e3⟩ : Fw.Touch)⟩ : Fw.Mach) e4_3 e4_5).bind fun y9 => L101_127 y9.1.Store y9.1.Touch.Reads y9.1.Touch.Writes e6_0 e6_1 e6_2 y9.2.1 e7_1 e7_2) else bif (decide (s27 = 11)) then ((D146 (⟨e1, (⟨e2, e3⟩ : Fw.Touch)⟩ : Fw.Mach) e4_3).bind fun y8 => L101_127 y8.1.Store y8.1.Touch.Reads y8.1.Touch.Writes e6_0 e6_1 e6_2 y8.2.2.1 e7_1 y8.2.1) else bif (decide (s27 = 16)) then ((D147 (⟨e1, (⟨e2, e3⟩ : Fw.Touch)⟩ : Fw.Mach) e4_3 e4_4).bind fun y7 => L101_127 y7.1.Store y7.1.Touch.Reads y7.1.Touch.Writes e6_0 e6_1 e6_2 y7.2.1 e7_1 e7_2) else bif (decide (s27 = 17)) then ((D148 (⟨e1, (⟨e2, e3⟩ : Fw.Touch)⟩ : Fw.Mach) s1).bind fun y6 => L101_127 y6.1.Store y6.1.Touch.Reads y6.1.Touch.Writes e6_0 e6_1 e6_2 y6.2.2.1 y6.2.1 e7_2) else bif (decide (s27 = 18)) then ((D149 (⟨e1, (⟨e2, e3⟩ : Fw.Touch)⟩ : Fw.Mach) s1 e4_3).bind fun y5 => L101_127 y5.1.Store y5.1.Touch.Reads y5.1.Touch.Writes e6_0 e6_1 e6_2 y5.2.1 e7_1 e7_2) else bif (decide (s27 = 19)) then ((D150 (⟨e1, (⟨e2, e3⟩ : Fw.Touch)⟩ : Fw.Mach) e4_3).bind fun y4 => L101_127 y4.1.Store y4.1.Touch.Reads y4.1.Touch.Writes e6_0 e6_1 e6_2 y4.2.2.1 y4.2.1 e7_2) else bif (decide (s27 = 20)) then ((D151 (⟨e1, (⟨e2, e3⟩ : Fw.Touch)⟩ : Fw.Mach) s1 e4_3 e4_5).bind fun y3 => L101_127 y3.1.Store y3.1.Touch.Reads y3.1.Touch.Writes e6_0 e6_1 e6_2 y3.2.1 e7_1 e7_2) else bif (decide (s27 = 21)) then ((D152 (⟨e1, (⟨e2, e3⟩ : Fw.Touch)⟩ : Fw.Mach) s1 e4_3).bind fun y2 => L101_127 y2.1.Store y2.1.Touch.Reads y2.1.Touch.Writes e6_0 e6_1 e6_2 y2.2.2.1 e7_1 y2.2.1) else bif (decide (s27 = 22)) then ((D153 (⟨e1, (⟨e2, e3⟩ : Fw.Touch)⟩ : Fw.Mach) e4_5).bind fun y1 => L101_127 y1.1.Store y1.1.Touch.Reads y1.1.Touch.Writes e6_0 e6_1 e6_2 y1.2.1 e7_1 e7_2) else (D154 (⟨e1, (⟨e2, e3⟩ : Fw.Touch)⟩ : Fw.Mach) s1 (⟨e4_0, e4_1, e4_2, e4_3, e4_4, e4_5⟩ : Fw.Call)).bind fun y0 => some (y0.1, (y0.2.1, ()))) := (Ln_eq _ _ _).trans (by kernel_rfl)
theorem P101_127 (e1 : List Fw.Cell) (e2 : List ByteArray) (e3 : List ByteArray) (e5_0 : Int) (e5_1 : Int) (e5_2 : ByteArray) (e6_0 : Int) (e6_1 : Int) (e6_2 : ByteArray) : L101_127 e1 e2 e3 e5_0 e5_1 e5_2 e6_0 e6_1 e6_2 = (some ((⟨e1, (⟨e2, e3⟩ : Fw.Touch)⟩ : Fw.Mach), ((⟨e6_0, e6_1, e6_2⟩ : Fw.Answer), ()))) := (Ln_eq _ _ _).trans (by kernel_rfl)
theorem E102 (x0 : Fw.Touch) (x1 : Fw.Touch) : D102 x0 x1 = ((D155 x0.Writes x1.Reads).bind fun y0 => bif (!y0.1) then ((D155 x0.Writes x1.Writes).bind fun y1 => bif (!y1.1) then ((D155 x0.Reads x1.Writes).bind fun y2 => some (y2.1, ())) else some (true, ())) else some (true, ())) := (Dn_eq _ _).trans (by kernel_rfl)
noncomputable def L103_116 (s0 : List Fw.Cell) (s1 : List Fw.Cell) (s6 : Int) (e0 : List ByteArray) : Option ((List ByteArray) × Unit) := Ln 300 116 (⟨46, [(0, .ok (.ro 152 s0)), (1, .ok (.ro 152 s1)), (5, .ok (.sl 0)), (6, .ok (.v (.int .i64 s6)))], [(0, .own 9 e0)]⟩, 1)
noncomputable def L103_15 (e0 : List ByteArray) : Option ((List ByteArray) × Unit) := Ln 300 15 (⟨46, [(5, .ok (.sl 0))], [(0, .own 9 e0)]⟩, 1)
noncomputable def L103_3731 (s0 : List Fw.Cell) (s1 : List Fw.Cell) (s6 : Int) (s7 : ByteArray) (e0 : List ByteArray) : Option ((List ByteArray) × Unit) := Ln 300 3731 (⟨46, [(0, .ok (.ro 152 s0)), (1, .ok (.ro 152 s1)), (5, .ok (.sl 0)), (6, .ok (.v (.int .i64 s6))), (7, .ok (.v (.string s7)))], [(0, .own 9 e0)]⟩, 1)
noncomputable def L103_467 (s0 : List Fw.Cell) (s1 : List Fw.Cell) (s6 : Int) (e0 : List ByteArray) : Option ((List ByteArray) × Unit) := Ln 300 467 (⟨46, [(0, .ok (.ro 152 s0)), (1, .ok (.ro 152 s1)), (5, .ok (.sl 0)), (6, .ok (.v (.int .i64 s6)))], [(0, .own 9 e0)]⟩, 1)
noncomputable def L103_467b (s0 : List Fw.Cell) (s1 : List Fw.Cell) (s5 : List ByteArray) (s6 : Int) : Option ((List ByteArray) × Unit) := Ln 300 467 (⟨46, [(0, .ok (.ro 152 s0)), (1, .ok (.ro 152 s1)), (5, .ok (.ro 9 s5)), (6, .ok (.v (.int .i64 s6)))], []⟩, 0)
noncomputable def L103_116b (s0 : List Fw.Cell) (s1 : List Fw.Cell) (s5 : List ByteArray) (s6 : Int) : Option ((List ByteArray) × Unit) := Ln 300 116 (⟨46, [(0, .ok (.ro 152 s0)), (1, .ok (.ro 152 s1)), (5, .ok (.ro 9 s5)), (6, .ok (.v (.int .i64 s6)))], []⟩, 0)
noncomputable def L103_15b (s5 : List ByteArray) : Option ((List ByteArray) × Unit) := Ln 300 15 (⟨46, [(5, .ok (.ro 9 s5))], []⟩, 0)
noncomputable def L103_3731b (s0 : List Fw.Cell) (s1 : List Fw.Cell) (s5 : List ByteArray) (s6 : Int) (s7 : ByteArray) : Option ((List ByteArray) × Unit) := Ln 300 3731 (⟨46, [(0, .ok (.ro 152 s0)), (1, .ok (.ro 152 s1)), (5, .ok (.ro 9 s5)), (6, .ok (.v (.int .i64 s6))), (7, .ok (.v (.string s7)))], []⟩, 0)
theorem E103 (x0 : List Fw.Cell) (x1 : List Fw.Cell) : D103 x0 x1 = (L103_116 x0 x1 0 []) := (Dn_eq _ _).trans (by kernel_rfl)
theorem P103_116 (s0 : List Fw.Cell) (s1 : List Fw.Cell) (s6 : Int) (e0 : List ByteArray) : L103_116 s0 s1 s6 e0 = (bif (decide (s6 < (IntKind.wrap .i64 ((s0.length : Int) + (s1.length : Int))))) then (bif (decide (s6 < (s0.length : Int))) then (gd ((decide (0 ≤ s6)) && (decide (s6 < (s0.length : Int)))) <| L103_3731 s0 s1 s6 (nth s0 s6.toNat).Key e0) else gd ((decide (0 ≤ (IntKind.wrap .i64 (s6 - (s0.length : Int))))) && (decide ((IntKind.wrap .i64 (s6 - (s0.length : Int))) < (s1.length : Int)))) <| L103_3731 s0 s1 s6 (nth s1 (IntKind.wrap .i64 (s6 - (s0.length : Int))).toNat).Key e0) else L103_15 e0) := (Ln_eq _ _ _).trans (by kernel_rfl)
theorem P103_15 (e0 : List ByteArray) : L103_15 e0 = (some (e0, ())) := (Ln_eq _ _ _).trans (by kernel_rfl)
theorem P103_3731 (s0 : List Fw.Cell) (s1 : List Fw.Cell) (s6 : Int) (s7 : ByteArray) (e0 : List ByteArray) : L103_3731 s0 s1 s6 s7 e0 = ((D104 s0 s7).bind fun y0 => (D104 s1 s7).bind fun y1 => bif (!(decide (y0.1 = y1.1))) then ((D156 e0 s7).bind fun y2 => L103_467b s0 s1 y2.1 s6) else L103_467 s0 s1 s6 e0) := (Ln_eq _ _ _).trans (by kernel_rfl)
theorem P103_467 (s0 : List Fw.Cell) (s1 : List Fw.Cell) (s6 : Int) (e0 : List ByteArray) : L103_467 s0 s1 s6 e0 = (L103_116 s0 s1 (IntKind.wrap .i64 (s6 + 1)) e0) := (Ln_eq _ _ _).trans (by kernel_rfl)
theorem P103_467b (s0 : List Fw.Cell) (s1 : List Fw.Cell) (s5 : List ByteArray) (s6 : Int) : L103_467b s0 s1 s5 s6 = (L103_116b s0 s1 s5 (IntKind.wrap .i64 (s6 + 1))) := (Ln_eq _ _ _).trans (by kernel_rfl)
theorem P103_116b (s0 : List Fw.Cell) (s1 : List Fw.Cell) (s5 : List ByteArray) (s6 : Int) : L103_116b s0 s1 s5 s6 = (bif (decide (s6 < (IntKind.wrap .i64 ((s0.length : Int) + (s1.length : Int))))) then (bif (decide (s6 < (s0.length : Int))) then (gd ((decide (0 ≤ s6)) && (decide (s6 < (s0.length : Int)))) <| L103_3731b s0 s1 s5 s6 (nth s0 s6.toNat).Key) else gd ((decide (0 ≤ (IntKind.wrap .i64 (s6 - (s0.length : Int))))) && (decide ((IntKind.wrap .i64 (s6 - (s0.length : Int))) < (s1.length : Int)))) <| L103_3731b s0 s1 s5 s6 (nth s1 (IntKind.wrap .i64 (s6 - (s0.length : Int))).toNat).Key) else L103_15b s5) := (Ln_eq _ _ _).trans (by kernel_rfl)
theorem P103_15b (s5 : List ByteArray) : L103_15b s5 = (some (s5, ())) := (Ln_eq _ _ _).trans (by kernel_rfl)
theorem P103_3731b (s0 : List Fw.Cell) (s1 : List Fw.Cell) (s5 : List ByteArray) (s6 : Int) (s7 : ByteArray) : L103_3731b s0 s1 s5 s6 s7 = ((D104 s0 s7).bind fun y0 => (D104 s1 s7).bind fun y1 => bif (!(decide (y0.1 = y1.1))) then ((D156 s5 s7).bind fun y2 => L103_467b s0 s1 y2.1 s6) else L103_467b s0 s1 s5 s6) := (Ln_eq _ _ _).trans (by kernel_rfl)
noncomputable def L104_52 (s0 : List Fw.Cell) (s1 : ByteArray) (s5 : Int) : Option (ByteArray × Unit) := Ln 301 52 (⟨24, [(0, .ok (.ro 152 s0)), (1, .ok (.v (.string s1))), (5, .ok (.v (.int .i64 s5)))], []⟩, 0)
noncomputable def L104_7  : Option (ByteArray × Unit) := Ln 301 7 (⟨24, [], []⟩, 0)
theorem E104 (x0 : List Fw.Cell) (x1 : ByteArray) : D104 x0 x1 = (L104_52 x0 x1 0) := (Dn_eq _ _).trans (by kernel_rfl)
theorem P104_52 (s0 : List Fw.Cell) (s1 : ByteArray) (s5 : Int) : L104_52 s0 s1 s5 = (bif (decide (s5 < (s0.length : Int))) then (gd ((decide (0 ≤ s5)) && (decide (s5 < (s0.length : Int)))) <| bif (decide ((nth s0 s5.toNat).Key = s1)) then (gd ((decide (0 ≤ s5)) && (decide (s5 < (s0.length : Int)))) <| some ((nth s0 s5.toNat).Val, ())) else L104_52 s0 s1 (IntKind.wrap .i64 (s5 + 1))) else L104_7) := (Ln_eq _ _ _).trans (by kernel_rfl)
theorem P104_7  : L104_7 = (some ((tx []), ())) := (Ln_eq _ _ _).trans (by kernel_rfl)
theorem E105 (x0 : Fw.Journal) (x1 : Int) : D105 x0 x1 = ((D110 x0).bind fun y0 => some (((y0.1 && (decide (x1 ≥ 0))) && (decide (x1 ≤ (IntKind.wrap .i64 (20000 - (x0.Text.size : Int)))))), ())) := (Dn_eq _ _).trans (by kernel_rfl)
theorem E106 (x0 : Int) (x1 : Int) (x2 : Int) : D106 x0 x1 x2 = (bif ((decide (x2 < x1)) || (decide (x0 < x1))) then (some (x1, ())) else bif (decide (x0 > x2)) then (some (x2, ())) else some (x0, ())) := (Dn_eq _ _).trans (by kernel_rfl)
theorem E107 (x0 : List Fw.Tx) : D107 x0 = ((D78 x0).bind fun y0 => some ((IntKind.wrap .i64 (4000 * (y0.1.length : Int))), ())) := (Dn_eq _ _).trans (by kernel_rfl)
noncomputable def L108_244 (s1 : List Fw.Cell) (s6 : Int) (e0 : List UInt8) : Option (ByteArray × Unit) := Ln 305 244 (⟨85, [(1, .ok (.ro 152 s1)), (5, .ok (.sl 0)), (6, .ok (.v (.int .i64 s6)))], [(0, .own 5 e0)]⟩, 1)
noncomputable def L108_31 (e0 : List UInt8) : Option (ByteArray × Unit) := Ln 305 31 (⟨85, [(5, .ok (.sl 0))], [(0, .own 5 e0)]⟩, 1)
theorem E108 (x0 : Int) (x1 : List Fw.Cell) : D108 x0 x1 = ((D27 x0 1 100000).bind fun y0 => bif (!y0.1) then (some ((tx []), ())) else (D122 x0).bind fun y1 => L108_244 x1 0 ((sbytes y1.1).map fun x => x)) := (Dn_eq _ _).trans (by kernel_rfl)
theorem P108_244 (s1 : List Fw.Cell) (s6 : Int) (e0 : List UInt8) : L108_244 s1 s6 e0 = (bif (decide (s6 < (s1.length : Int))) then (gd ((decide (0 ≤ s6)) && (decide (s6 < (s1.length : Int)))) <| (D132 (nth s1 s6.toNat).Key).bind fun y0 => gd (((decide (0 ≤ s6)) && (decide (s6 < (s1.length : Int)))) || (!(!(!y0.1)))) <| bif (((!y0.1) || (decide (((nth s1 s6.toNat).Val.size : Int) > 60))) || (decide ((e0.length : Int) > 4000))) then (some ((tx []), ())) else gd ((decide (0 ≤ s6)) && (decide (s6 < (s1.length : Int)))) <| (D157 (nth s1 s6.toNat).Key).bind fun y1 => gd ((decide (0 ≤ s6)) && (decide (s6 < (s1.length : Int)))) <| (D157 (nth s1 s6.toNat).Val).bind fun y2 => gd ((decide (((e0.length + 1) * 1) ≤ 140737488355328)) && (decide ((e0.length + 1) ≤ 9223372036854775807))) <| gd ((decide ((((e0 ++ [(u8of 32)]).length + y1.1.size) * 1) ≤ 140737488355328)) && (decide (((e0 ++ [(u8of 32)]).length + y1.1.size) ≤ 9223372036854775807))) <| gd ((decide (((((e0 ++ [(u8of 32)]) ++ ((sbytes y1.1).map fun x => x)).length + 1) * 1) ≤ 140737488355328)) && (decide ((((e0 ++ [(u8of 32)]) ++ ((sbytes y1.1).map fun x => x)).length + 1) ≤ 9223372036854775807))) <| gd ((decide ((((((e0 ++ [(u8of 32)]) ++ ((sbytes y1.1).map fun x => x)) ++ [(u8of 61)]).length + y2.1.size) * 1) ≤ 140737488355328)) && (decide (((((e0 ++ [(u8of 32)]) ++ ((sbytes y1.1).map fun x => x)) ++ [(u8of 61)]).length + y2.1.size) ≤ 9223372036854775807))) <| L108_244 s1 (IntKind.wrap .i64 (s6 + 1)) ((((e0 ++ [(u8of 32)]) ++ ((sbytes y1.1).map fun x => x)) ++ [(u8of 61)]) ++ ((sbytes y2.1).map fun x => x))) else L108_31 e0) := (Ln_eq _ _ _).trans (by kernel_rfl)
theorem P108_31 (e0 : List UInt8) : L108_31 e0 = (gd (decide (((bstr (e0.map fun x => x)).size + (tx [32, 35]).size) ≤ 9223372036854775807)) <| (D158 (bstr (e0.map fun x => x))).bind fun y0 => (D122 y0.1).bind fun y1 => gd (decide ((((bstr (e0.map fun x => x)) ++ (tx [32, 35])).size + y1.1.size) ≤ 9223372036854775807)) <| gd (decide (((((bstr (e0.map fun x => x)) ++ (tx [32, 35])) ++ y1.1).size + (tx [10]).size) ≤ 9223372036854775807)) <| bif (decide ((((((bstr (e0.map fun x => x)) ++ (tx [32, 35])) ++ y1.1) ++ (tx [10])).size : Int) > 4000)) then (some ((tx []), ())) else some (((((bstr (e0.map fun x => x)) ++ (tx [32, 35])) ++ y1.1) ++ (tx [10])), ())) := (Ln_eq _ _ _).trans (by kernel_rfl)
theorem E109 (x0 : Fw.Journal) (x1 : ByteArray) : D109 x0 x1 = ((D110 x0).bind fun y0 => bif ((!y0.1) || (decide ((x1.size : Int) > (IntKind.wrap .i64 (20000 - (x0.Text.size : Int)))))) then (some (x0, (false, ()))) else gd (decide ((x0.Text.size + x1.size) ≤ 9223372036854775807)) <| some ((⟨(x0.Text ++ x1), x0.Sure⟩ : Fw.Journal), (true, ()))) := (Dn_eq _ _).trans (by kernel_rfl)
theorem E110 (x0 : Fw.Journal) : D110 x0 = (bif (decide ((x0.Text.size : Int) ≤ 20000)) then ((D27 x0.Sure 0 (x0.Text.size : Int)).bind fun y0 => some (y0.1, ())) else some (false, ())) := (Dn_eq _ _).trans (by kernel_rfl)
theorem E111 (x0 : ByteArray) : D111 x0 = ((D159 x0).bind fun y0 => bif ((!y0.2.1) || (decide (y0.1 > 999))) then (some (0, ())) else some (y0.1, ())) := (Dn_eq _ _).trans (by kernel_rfl)
theorem E112 (x0 : ByteArray) (x1 : Int) (x2 : ByteArray) : D112 x0 x1 x2 = ((D122 x1).bind fun y0 => gd (decide ((x0.size + y0.1.size) ≤ 9223372036854775807)) <| gd (decide (((x0 ++ y0.1).size + x2.size) ≤ 9223372036854775807)) <| some (((x0 ++ y0.1) ++ x2), ())) := (Dn_eq _ _).trans (by kernel_rfl)
noncomputable def L113_244 (s0 : ByteArray) (s5 : Int) (e0 : List UInt8) : Option (ByteArray × Bool × Unit) := Ln 310 244 (⟨49, [(0, .ok (.v (.string s0))), (4, .ok (.sl 0)), (5, .ok (.v (.int .i64 s5)))], [(0, .own 5 e0)]⟩, 1)
noncomputable def L113_31 (e0 : List UInt8) : Option (ByteArray × Bool × Unit) := Ln 310 31 (⟨49, [(4, .ok (.sl 0))], [(0, .own 5 e0)]⟩, 1)
theorem E113 (x0 : ByteArray) : D113 x0 = (gd ((!(decide (2 = 0))) || (!(!(decide ((x0.size : Int) > 40000))))) <| bif ((decide ((x0.size : Int) > 40000)) || (!(decide ((Int.tmod (x0.size : Int) 2) = 0)))) then (some ((tx []), (false, ()))) else L113_244 x0 0 []) := (Dn_eq _ _).trans (by kernel_rfl)
theorem P113_244 (s0 : ByteArray) (s5 : Int) (e0 : List UInt8) : L113_244 s0 s5 e0 = (bif (decide (s5 < (s0.size : Int))) then (gd ((decide (0 ≤ s5)) && (decide (s5 < (s0.size : Int)))) <| (D160 (u8of ((byteAt s0 s5.toNat).toNat : Int))).bind fun y0 => gd ((decide (0 ≤ (IntKind.wrap .i64 (s5 + 1)))) && (decide ((IntKind.wrap .i64 (s5 + 1)) < (s0.size : Int)))) <| (D160 (u8of ((byteAt s0 (IntKind.wrap .i64 (s5 + 1)).toNat).toNat : Int))).bind fun y1 => bif ((decide (y0.1 < 0)) || (decide (y1.1 < 0))) then (some ((tx []), (false, ()))) else gd ((decide (((e0.length + 1) * 1) ≤ 140737488355328)) && (decide ((e0.length + 1) ≤ 9223372036854775807))) <| L113_244 s0 (IntKind.wrap .i64 (s5 + 2)) (e0 ++ [(u8of (IntKind.wrap .u8 (IntKind.wrap .i64 ((IntKind.wrap .i64 (16 * y0.1)) + y1.1))))])) else L113_31 e0) := (Ln_eq _ _ _).trans (by kernel_rfl)
theorem P113_31 (e0 : List UInt8) : L113_31 e0 = (some ((bstr (e0.map fun x => x)), (true, ()))) := (Ln_eq _ _ _).trans (by kernel_rfl)
noncomputable def L114_116 (s3 : Int) (s4 : Int) (e0_0 : List Fw.Slot) (e0_1 : ByteArray) (e0_2 : Int) : Option (Int × Unit) := Ln 311 116 (⟨39, [(1, .ok (.pt 0 0)), (3, .ok (.v (.int .i64 s3))), (4, .ok (.v (.int .i64 s4)))], [(0, .var [.ro 201 e0_0, .v (.string e0_1), .v (.int .i64 e0_2)] 30)]⟩, 1)
noncomputable def L114_15 (s3 : Int) : Option (Int × Unit) := Ln 311 15 (⟨39, [(3, .ok (.v (.int .i64 s3)))], []⟩, 0)
noncomputable def L114_467 (s3 : Int) (s4 : Int) (e0_0 : List Fw.Slot) (e0_1 : ByteArray) (e0_2 : Int) : Option (Int × Unit) := Ln 311 467 (⟨39, [(1, .ok (.pt 0 0)), (3, .ok (.v (.int .i64 s3))), (4, .ok (.v (.int .i64 s4)))], [(0, .var [.ro 201 e0_0, .v (.string e0_1), .v (.int .i64 e0_2)] 30)]⟩, 1)
theorem E114 (x0 : Fw.Disk) : D114 x0 = (L114_116 (-1) 0 x0.Slots x0.Journal.Text x0.Journal.Sure) := (Dn_eq _ _).trans (by kernel_rfl)
theorem P114_116 (s3 : Int) (s4 : Int) (e0_0 : List Fw.Slot) (e0_1 : ByteArray) (e0_2 : Int) : L114_116 s3 s4 e0_0 e0_1 e0_2 = (bif (decide (s4 < (e0_0.length : Int))) then (gd ((decide (0 ≤ s4)) && (decide (s4 < (e0_0.length : Int)))) <| gd (((decide (0 ≤ s4)) && (decide (s4 < (e0_0.length : Int)))) || (!((nth e0_0 s4.toNat).Whole && (!(decide (s3 < 0)))))) <| gd (((decide (0 ≤ s3)) && (decide (s3 < (e0_0.length : Int)))) || (!((nth e0_0 s4.toNat).Whole && (!(decide (s3 < 0)))))) <| bif ((nth e0_0 s4.toNat).Whole && ((decide (s3 < 0)) || (decide ((nth e0_0 s4.toNat).Seq > (nth e0_0 s3.toNat).Seq)))) then (L114_467 s4 s4 e0_0 e0_1 e0_2) else L114_467 s3 s4 e0_0 e0_1 e0_2) else L114_15 s3) := (Ln_eq _ _ _).trans (by kernel_rfl)
theorem P114_15 (s3 : Int) : L114_15 s3 = (some (s3, ())) := (Ln_eq _ _ _).trans (by kernel_rfl)
theorem P114_467 (s3 : Int) (s4 : Int) (e0_0 : List Fw.Slot) (e0_1 : ByteArray) (e0_2 : Int) : L114_467 s3 s4 e0_0 e0_1 e0_2 = (L114_116 s3 (IntKind.wrap .i64 (s4 + 1)) e0_0 e0_1 e0_2) := (Ln_eq _ _ _).trans (by kernel_rfl)
theorem E115 (x0 : Fw.Disk) : D115 x0 = ((D114 x0).bind fun y0 => some ((IntKind.wrap .i64 (1 - y0.1)), ())) := (Dn_eq _ _).trans (by kernel_rfl)
end Go.Proofs.YtdghkmbppfmifaaGreatDoor.Ri

namespace Go.Proofs.YtdghkmbppfmifaaGreatDoor.Ri
open Go.Proofs.YtdghkmbppfmifaaGreatDoor.Fw
open Go.RowKit
set_option linter.unusedVariables false
set_option maxRecDepth 100000
noncomputable def L116_244 (s0 : ByteArray) (s4 : Int) (s5 : Int) (e0 : List ByteArray) : Option ((List ByteArray) × Unit) := Ln 313 244 (⟨28, [(0, .ok (.v (.string s0))), (3, .ok (.sl 0)), (4, .ok (.v (.int .i64 s4))), (5, .ok (.v (.int .i64 s5)))], [(0, .own 9 e0)]⟩, 1)
noncomputable def L116_31 (e0 : List ByteArray) : Option ((List ByteArray) × Unit) := Ln 313 31 (⟨28, [(3, .ok (.sl 0))], [(0, .own 9 e0)]⟩, 1)
noncomputable def L116_979 (s0 : ByteArray) (s4 : Int) (s5 : Int) (e0 : List ByteArray) : Option ((List ByteArray) × Unit) := Ln 313 979 (⟨28, [(0, .ok (.v (.string s0))), (3, .ok (.sl 0)), (4, .ok (.v (.int .i64 s4))), (5, .ok (.v (.int .i64 s5)))], [(0, .own 9 e0)]⟩, 1)
theorem E116 (x0 : ByteArray) : D116 x0 = (L116_244 x0 0 0 []) := (Dn_eq _ _).trans (by kernel_rfl)
theorem P116_244 (s0 : ByteArray) (s4 : Int) (s5 : Int) (e0 : List ByteArray) : L116_244 s0 s4 s5 e0 = (bif (decide (s5 < (s0.size : Int))) then (gd ((decide (0 ≤ s5)) && (decide (s5 < (s0.size : Int)))) <| bif (decide (((byteAt s0 s5.toNat).toNat : Int) = 10)) then (gd ((decide (0 ≤ s4)) && ((decide (s4 ≤ (IntKind.wrap .i64 (s5 + 1)))) && (decide ((IntKind.wrap .i64 (s5 + 1)) ≤ (s0.size : Int))))) <| gd ((decide (((e0.length + 1) * 16) ≤ 140737488355328)) && (decide ((e0.length + 1) ≤ 9223372036854775807))) <| L116_979 s0 (IntKind.wrap .i64 (s5 + 1)) s5 (e0 ++ [(cutS s0 s4.toNat (IntKind.wrap .i64 (s5 + 1)).toNat)])) else L116_979 s0 s4 s5 e0) else L116_31 e0) := (Ln_eq _ _ _).trans (by kernel_rfl)
theorem P116_31 (e0 : List ByteArray) : L116_31 e0 = (some (e0, ())) := (Ln_eq _ _ _).trans (by kernel_rfl)
theorem P116_979 (s0 : ByteArray) (s4 : Int) (s5 : Int) (e0 : List ByteArray) : L116_979 s0 s4 s5 e0 = (L116_244 s0 s4 (IntKind.wrap .i64 (s5 + 1)) e0) := (Ln_eq _ _ _).trans (by kernel_rfl)
noncomputable def L117_2036 (s0 : ByteArray) (s7 : Int) (s8 : Bool) (s10 : Int) (e0 : List Fw.Cell) (e1 : List ByteArray) (e2 : List Fw.Cell) : Option (Int × (List Fw.Cell) × Bool × Unit) := Ln 314 2036 (⟨85, [(0, .ok (.v (.string s0))), (5, .ok (.sl 0)), (6, .ok (.sl 1)), (7, .ok (.v (.int .i64 s7))), (8, .ok (.v (.bool s8))), (9, .ok (.sl 2)), (10, .ok (.v (.int .i64 s10)))], [(0, .own 152 e0), (1, .own 9 e1), (2, .own 152 e2)]⟩, 3)
noncomputable def L117_255 (s0 : ByteArray) (s7 : Int) (s8 : Bool) (e0 : List Fw.Cell) (e1 : List Fw.Cell) : Option (Int × (List Fw.Cell) × Bool × Unit) := Ln 314 255 (⟨85, [(0, .ok (.v (.string s0))), (5, .ok (.sl 0)), (7, .ok (.v (.int .i64 s7))), (8, .ok (.v (.bool s8))), (9, .ok (.sl 1))], [(0, .own 152 e0), (1, .own 152 e1)]⟩, 2)
theorem E117 (x0 : ByteArray) : D117 x0 = (bif (decide ((x0.size : Int) > 4000)) then (some (0, ([], (false, ())))) else (D161 x0 (u8of 32)).bind fun y0 => gd ((decide (0 ≤ 0)) && (decide (0 < (y0.1.length : Int)))) <| (D159 (nth y0.1 (0 : Int).toNat)).bind fun y1 => L117_2036 x0 y1.1 y1.2.1 1 [] y0.1 []) := (Dn_eq _ _).trans (by kernel_rfl)
theorem P117_2036 (s0 : ByteArray) (s7 : Int) (s8 : Bool) (s10 : Int) (e0 : List Fw.Cell) (e1 : List ByteArray) (e2 : List Fw.Cell) : L117_2036 s0 s7 s8 s10 e0 e1 e2 = (bif (decide (s10 < (IntKind.wrap .i64 ((e1.length : Int) - 1)))) then (gd ((decide (0 ≤ s10)) && (decide (s10 < (e1.length : Int)))) <| (D161 (nth e1 s10.toNat) (u8of 61)).bind fun y0 => bif (!(decide ((y0.1.length : Int) = 2))) then (some (0, (e0, (false, ())))) else gd ((decide (0 ≤ 0)) && (decide (0 < (y0.1.length : Int)))) <| (D113 (nth y0.1 (0 : Int).toNat)).bind fun y1 => gd ((decide (0 ≤ 1)) && (decide (1 < (y0.1.length : Int)))) <| (D113 (nth y0.1 (1 : Int).toNat)).bind fun y2 => gd ((decide (((e2.length + 1) * 32) ≤ 140737488355328)) && (decide ((e2.length + 1) ≤ 9223372036854775807))) <| L117_2036 s0 s7 s8 (IntKind.wrap .i64 (s10 + 1)) e0 e1 (e2 ++ [(⟨y1.1, y2.1⟩ : Fw.Cell)])) else L117_255 s0 s7 s8 e0 e2) := (Ln_eq _ _ _).trans (by kernel_rfl)
theorem P117_255 (s0 : ByteArray) (s7 : Int) (s8 : Bool) (e0 : List Fw.Cell) (e1 : List Fw.Cell) : L117_255 s0 s7 s8 e0 e1 = ((D108 s7 e1).bind fun y0 => bif (((!s8) || (decide (y0.1 = (tx [])))) || (!(decide (y0.1 = s0)))) then (some (0, (e0, (false, ())))) else some (s7, (e1, (true, ())))) := (Ln_eq _ _ _).trans (by kernel_rfl)
noncomputable def L118_1012 (s1 : Int) (s8 : Int) (s9 : Int) (e0 : List (List Fw.Cell)) (e1 : List ByteArray) : Option ((List (List Fw.Cell)) × Int × Unit) := Ln 315 1012 (⟨74, [(1, .ok (.v (.int .i64 s1))), (6, .ok (.sl 0)), (7, .ok (.sl 1)), (8, .ok (.v (.int .i64 s8))), (9, .ok (.v (.int .i64 s9)))], [(0, .own 24 e0), (1, .own 9 e1)]⟩, 2)
noncomputable def L118_127 (s8 : Int) (e0 : List (List Fw.Cell)) : Option ((List (List Fw.Cell)) × Int × Unit) := Ln 315 127 (⟨74, [(6, .ok (.sl 0)), (8, .ok (.v (.int .i64 s8)))], [(0, .own 24 e0)]⟩, 1)
noncomputable def L118_64807 (s1 : Int) (s8 : Int) (s9 : Int) (e0 : List (List Fw.Cell)) (e1 : List ByteArray) : Option ((List (List Fw.Cell)) × Int × Unit) := Ln 315 64807 (⟨74, [(1, .ok (.v (.int .i64 s1))), (6, .ok (.sl 0)), (7, .ok (.sl 1)), (8, .ok (.v (.int .i64 s8))), (9, .ok (.v (.int .i64 s9)))], [(0, .own 24 e0), (1, .own 9 e1)]⟩, 2)
theorem E118 (x0 : ByteArray) (x1 : Int) : D118 x0 x1 = ((D27 x1 1 100000).bind fun y0 => bif (!y0.1) then (some ([], (0, ()))) else (D116 x0).bind fun y1 => L118_1012 x1 0 0 [] y1.1) := (Dn_eq _ _).trans (by kernel_rfl)
theorem P118_1012 (s1 : Int) (s8 : Int) (s9 : Int) (e0 : List (List Fw.Cell)) (e1 : List ByteArray) : L118_1012 s1 s8 s9 e0 e1 = (bif (decide (s9 < (e1.length : Int))) then (gd ((decide (0 ≤ s9)) && (decide (s9 < (e1.length : Int)))) <| (D117 (nth e1 s9.toNat)).bind fun y0 => bif ((!y0.2.2.1) || ((!(decide (y0.1 = (IntKind.wrap .i64 (s1 + (e0.length : Int)))))) && ((decide ((e0.length : Int) > 0)) || (decide (y0.1 > s1))))) then (L118_127 s8 e0) else bif (decide (y0.1 = (IntKind.wrap .i64 (s1 + (e0.length : Int))))) then (gd ((decide (((e0.length + 1) * 24) ≤ 140737488355328)) && (decide ((e0.length + 1) ≤ 9223372036854775807))) <| L118_64807 s1 s8 s9 (e0 ++ [y0.2.1]) e1) else L118_64807 s1 s8 s9 e0 e1) else L118_127 s8 e0) := (Ln_eq _ _ _).trans (by kernel_rfl)
theorem P118_127 (s8 : Int) (e0 : List (List Fw.Cell)) : L118_127 s8 e0 = (some (e0, (s8, ()))) := (Ln_eq _ _ _).trans (by kernel_rfl)
theorem P118_64807 (s1 : Int) (s8 : Int) (s9 : Int) (e0 : List (List Fw.Cell)) (e1 : List ByteArray) : L118_64807 s1 s8 s9 e0 e1 = (gd ((decide (0 ≤ s9)) && (decide (s9 < (e1.length : Int)))) <| L118_1012 s1 (IntKind.wrap .i64 (s8 + ((nth e1 s9.toNat).size : Int))) (IntKind.wrap .i64 (s9 + 1)) e0 e1) := (Ln_eq _ _ _).trans (by kernel_rfl)
theorem E119 (x0 : Fw.Journal) (x1 : Int) : D119 x0 x1 = ((D110 x0).bind fun y0 => bif (!y0.1) then (some (x0, ())) else (D106 x1 0 (IntKind.wrap .i64 ((x0.Text.size : Int) - x0.Sure))).bind fun y1 => gd ((decide (0 ≤ 0)) && ((decide (0 ≤ (IntKind.wrap .i64 (x0.Sure + y1.1)))) && (decide ((IntKind.wrap .i64 (x0.Sure + y1.1)) ≤ (x0.Text.size : Int))))) <| some ((⟨(cutS x0.Text (0 : Int).toNat (IntKind.wrap .i64 (x0.Sure + y1.1)).toNat), ((cutS x0.Text (0 : Int).toNat (IntKind.wrap .i64 (x0.Sure + y1.1)).toNat).size : Int)⟩ : Fw.Journal), ())) := (Dn_eq _ _).trans (by kernel_rfl)
noncomputable def L120_116 (s1 : List Fw.Cell) (s5 : Int) (e0 : List Fw.Cell) : Option ((List Fw.Cell) × Unit) := Ln 317 116 (⟨28, [(0, .ok (.sl 0)), (1, .ok (.ro 152 s1)), (5, .ok (.v (.int .i64 s5)))], [(0, .own 152 e0)]⟩, 1)
noncomputable def L120_15 (e0 : List Fw.Cell) : Option ((List Fw.Cell) × Unit) := Ln 317 15 (⟨28, [(0, .ok (.sl 0))], [(0, .own 152 e0)]⟩, 1)
theorem E120 (x0 : List Fw.Cell) (x1 : List Fw.Cell) : D120 x0 x1 = (gd ((decide (((0 + x0.length) * 32) ≤ 140737488355328)) && (decide ((0 + x0.length) ≤ 9223372036854775807))) <| L120_116 x1 0 ([] ++ x0)) := (Dn_eq _ _).trans (by kernel_rfl)
theorem P120_116 (s1 : List Fw.Cell) (s5 : Int) (e0 : List Fw.Cell) : L120_116 s1 s5 e0 = (bif (decide (s5 < (s1.length : Int))) then (gd ((decide (0 ≤ s5)) && (decide (s5 < (s1.length : Int)))) <| gd ((decide (0 ≤ s5)) && (decide (s5 < (s1.length : Int)))) <| (D162 e0 (nth s1 s5.toNat).Key (nth s1 s5.toNat).Val).bind fun y0 => L120_116 s1 (IntKind.wrap .i64 (s5 + 1)) y0.1) else L120_15 e0) := (Ln_eq _ _ _).trans (by kernel_rfl)
theorem P120_15 (e0 : List Fw.Cell) : L120_15 e0 = (some (e0, ())) := (Ln_eq _ _ _).trans (by kernel_rfl)
theorem E121 (x0 : List Fw.Tx) : D121 x0 = ((D78 x0).bind fun y0 => some ((decide ((y0.1.length : Int) < 4)), ())) := (Dn_eq _ _).trans (by kernel_rfl)
noncomputable def L122_248 (s0 : Int) (s3 : Bool) (s4 : ByteArray) : Option (ByteArray × Unit) := Ln 41 248 (⟨30, [(0, .ok (.v (.int .i64 s0))), (3, .ok (.v (.bool s3))), (4, .ok (.v (.string s4)))], []⟩, 0)
noncomputable def L122_63 (s3 : Bool) (s4 : ByteArray) : Option (ByteArray × Unit) := Ln 41 63 (⟨30, [(3, .ok (.v (.bool s3))), (4, .ok (.v (.string s4)))], []⟩, 0)
noncomputable def L122_3979 (s0 : Int) (s3 : Bool) (s4 : ByteArray) (s5 : Int) : Option (ByteArray × Unit) := Ln 41 3979 (⟨30, [(0, .ok (.v (.int .i64 s0))), (3, .ok (.v (.bool s3))), (4, .ok (.v (.string s4))), (5, .ok (.v (.int .i64 s5)))], []⟩, 0)
theorem E122 (x0 : Int) : D122 x0 = (bif (decide (x0 = 0)) then (some ((tx [48]), ())) else L122_248 x0 (decide (x0 < 0)) (tx [])) := (Dn_eq _ _).trans (by kernel_rfl)
theorem P122_248 (s0 : Int) (s3 : Bool) (s4 : ByteArray) : L122_248 s0 s3 s4 = (bif (!(decide (s0 = 0))) then (gd (!(decide (10 = 0))) <| bif (decide ((Int.tmod s0 10) < 0)) then (L122_3979 s0 s3 s4 (IntKind.wrap .i64 (-(Int.tmod s0 10)))) else L122_3979 s0 s3 s4 (Int.tmod s0 10)) else L122_63 s3 s4) := (Ln_eq _ _ _).trans (by kernel_rfl)
theorem P122_63 (s3 : Bool) (s4 : ByteArray) : L122_63 s3 s4 = (bif s3 then (gd (decide (((tx [45]).size + s4.size) ≤ 9223372036854775807)) <| some (((tx [45]) ++ s4), ())) else some (s4, ())) := (Ln_eq _ _ _).trans (by kernel_rfl)
theorem P122_3979 (s0 : Int) (s3 : Bool) (s4 : ByteArray) (s5 : Int) : L122_3979 s0 s3 s4 s5 = ((D163 s5).bind fun y0 => gd (decide (((bstr ([(u8of (y0.1.toNat : Int))].map fun x => x)).size + s4.size) ≤ 9223372036854775807)) <| gd (!(decide (10 = 0))) <| L122_248 (IntKind.wrap .i64 (Int.tdiv s0 10)) s3 ((bstr ([(u8of (y0.1.toNat : Int))].map fun x => x)) ++ s4)) := (Ln_eq _ _ _).trans (by kernel_rfl)
noncomputable def L123_116 (s0 : List Fw.Tx) (s3 : Int) (s4 : Int) : Option (Int × Unit) := Ln 319 116 (⟨25, [(0, .ok (.ro 45 s0)), (3, .ok (.v (.int .i64 s3))), (4, .ok (.v (.int .i64 s4)))], []⟩, 0)
noncomputable def L123_15 (s3 : Int) : Option (Int × Unit) := Ln 319 15 (⟨25, [(3, .ok (.v (.int .i64 s3)))], []⟩, 0)
noncomputable def L123_467 (s0 : List Fw.Tx) (s3 : Int) (s4 : Int) : Option (Int × Unit) := Ln 319 467 (⟨25, [(0, .ok (.ro 45 s0)), (3, .ok (.v (.int .i64 s3))), (4, .ok (.v (.int .i64 s4)))], []⟩, 0)
theorem E123 (x0 : List Fw.Tx) : D123 x0 = (L123_116 x0 0 0) := (Dn_eq _ _).trans (by kernel_rfl)
theorem P123_116 (s0 : List Fw.Tx) (s3 : Int) (s4 : Int) : L123_116 s0 s3 s4 = (bif (decide (s4 < (s0.length : Int))) then (gd ((decide (0 ≤ s4)) && (decide (s4 < (s0.length : Int)))) <| bif (decide ((nth s0 s4.toNat).Age > s3)) then (gd ((decide (0 ≤ s4)) && (decide (s4 < (s0.length : Int)))) <| L123_467 s0 (nth s0 s4.toNat).Age s4) else L123_467 s0 s3 s4) else L123_15 s3) := (Ln_eq _ _ _).trans (by kernel_rfl)
theorem P123_15 (s3 : Int) : L123_15 s3 = (some ((IntKind.wrap .i64 (s3 + 1)), ())) := (Ln_eq _ _ _).trans (by kernel_rfl)
theorem P123_467 (s0 : List Fw.Tx) (s3 : Int) (s4 : Int) : L123_467 s0 s3 s4 = (L123_116 s0 s3 (IntKind.wrap .i64 (s4 + 1))) := (Ln_eq _ _ _).trans (by kernel_rfl)
theorem E124 (x0 : Int) (x1 : Int) (x2 : Int) : D124 x0 x1 x2 = (some ((⟨x0, x1, x2, 0, [], [], (⟨[], []⟩ : Fw.Touch), [], 1⟩ : Fw.Tx), ())) := (Dn_eq _ _).trans (by kernel_rfl)
theorem E125 (x0 : Fw.Kernel) (x1 : Int) : D125 x0 x1 = ((D93 x0.Txs x1).bind fun y0 => bif (decide (y0.1 < 0)) then (some ((⟨0, 0, 0, 0, [], [], (⟨[], []⟩ : Fw.Touch), [], 0⟩ : Fw.Tx), (false, ()))) else gd ((decide (0 ≤ y0.1)) && (decide (y0.1 < (x0.Txs.length : Int)))) <| (D92 (nth x0.Txs y0.1.toNat)).bind fun y1 => some (y1.1, (true, ()))) := (Dn_eq _ _).trans (by kernel_rfl)
theorem E126 (x0 : Fw.Tx) : D126 x0 = ((D92 x0).bind fun y0 => bif ((!(decide (y0.1.State = 1))) || (decide ((y0.1.Marks.length : Int) ≥ 4))) then (some (y0.1, (0, ()))) else gd ((decide (((y0.1.Marks.length + 1) * 8) ≤ 140737488355328)) && (decide ((y0.1.Marks.length + 1) ≤ 9223372036854775807))) <| some ({ y0.1 with Marks := (y0.1.Marks ++ [(y0.1.Calls.length : Int)]) }, (((y0.1.Marks ++ [(y0.1.Calls.length : Int)]).length : Int), ()))) := (Dn_eq _ _).trans (by kernel_rfl)
theorem E127 (x0 : Fw.Tx) (x1 : Int) : D127 x0 x1 = ((D92 x0).bind fun y0 => bif (!(!(decide (y0.1.State = 1)))) then ((D27 x1 1 (y0.1.Marks.length : Int)).bind fun y1 => bif (!y1.1) then (some (y0.1, (false, ()))) else gd ((decide (0 ≤ (IntKind.wrap .i64 (x1 - 1)))) && (decide ((IntKind.wrap .i64 (x1 - 1)) < (y0.1.Marks.length : Int)))) <| (D106 (nth y0.1.Marks (IntKind.wrap .i64 (x1 - 1)).toNat) 0 (y0.1.Calls.length : Int)).bind fun y2 => gd ((decide (0 ≤ 0)) && ((decide (0 ≤ y2.1)) && (decide (y2.1 ≤ (y0.1.Calls.length : Int))))) <| (D106 (nth y0.1.Marks (IntKind.wrap .i64 (x1 - 1)).toNat) 0 (y0.1.Answers.length : Int)).bind fun y3 => gd ((decide (0 ≤ 0)) && ((decide (0 ≤ y3.1)) && (decide (y3.1 ≤ (y0.1.Answers.length : Int))))) <| gd ((decide (0 ≤ 0)) && ((decide (0 ≤ (IntKind.wrap .i64 (x1 - 1)))) && (decide ((IntKind.wrap .i64 (x1 - 1)) ≤ (y0.1.Marks.length : Int))))) <| some ({ y0.1 with Calls := (cutL y0.1.Calls (0 : Int).toNat y2.1.toNat), Answers := (cutL y0.1.Answers (0 : Int).toNat y3.1.toNat), Marks := (cutL y0.1.Marks (0 : Int).toNat (IntKind.wrap .i64 (x1 - 1)).toNat) }, (true, ()))) else some (y0.1, (false, ()))) := (Dn_eq _ _).trans (by kernel_rfl)
theorem E128 (x0 : List Fw.Cell) (x1 : Fw.Tx) : D128 x0 x1 = ((D98 x0 x1).bind fun y0 => (D164 x0 y0.1 x1.Touch).bind fun y1 => some (y1.1, ())) := (Dn_eq _ _).trans (by kernel_rfl)
noncomputable def L129_116 (s4 : Int) (e0_0 : Int) (e0_1 : Int) (e0_2 : Int) (e0_3 : Int) (e0_4 : List Fw.Call) (e0_5 : List Fw.Answer) (e0_6 : List ByteArray) (e0_7 : List ByteArray) (e0_8 : List Int) (e0_9 : Int) (e1 : List Fw.Step) : Option ((List Fw.Step) × Unit) := Ln 86 116 (⟨25, [(1, .ok (.pt 0 0)), (3, .ok (.sl 1)), (4, .ok (.v (.int .i64 s4)))], [(0, .var [.v (.int .i64 e0_0), .v (.int .i64 e0_1), .v (.int .i64 e0_2), .v (.int .i64 e0_3), .ro 119 e0_4, .ro 170 e0_5, .ro 9 e0_6, .ro 9 e0_7, .ro 3 e0_8, .v (.int .i64 e0_9)] 45), (1, .own 184 e1)]⟩, 2)
noncomputable def L129_15 (e0 : List Fw.Step) : Option ((List Fw.Step) × Unit) := Ln 86 15 (⟨25, [(3, .ok (.sl 0))], [(0, .own 184 e0)]⟩, 1)
theorem E129 (x0 : Fw.Tx) : D129 x0 = (L129_116 0 x0.Id x0.Age x0.Proc x0.Began x0.Calls x0.Answers x0.Touch.Reads x0.Touch.Writes x0.Marks x0.State []) := (Dn_eq _ _).trans (by kernel_rfl)
theorem P129_116 (s4 : Int) (e0_0 : Int) (e0_1 : Int) (e0_2 : Int) (e0_3 : Int) (e0_4 : List Fw.Call) (e0_5 : List Fw.Answer) (e0_6 : List ByteArray) (e0_7 : List ByteArray) (e0_8 : List Int) (e0_9 : Int) (e1 : List Fw.Step) : L129_116 s4 e0_0 e0_1 e0_2 e0_3 e0_4 e0_5 e0_6 e0_7 e0_8 e0_9 e1 = (bif (decide (s4 < (e0_4.length : Int))) then (gd ((decide (0 ≤ s4)) && (decide (s4 < (e0_4.length : Int)))) <| gd ((decide (((e1.length + 1) * 80) ≤ 140737488355328)) && (decide ((e1.length + 1) ≤ 9223372036854775807))) <| L129_116 (IntKind.wrap .i64 (s4 + 1)) e0_0 e0_1 e0_2 e0_3 e0_4 e0_5 e0_6 e0_7 e0_8 e0_9 (e1 ++ [(⟨e0_2, (nth e0_4 s4.toNat)⟩ : Fw.Step)])) else L129_15 e1) := (Ln_eq _ _ _).trans (by kernel_rfl)
theorem P129_15 (e0 : List Fw.Step) : L129_15 e0 = (some (e0, ())) := (Ln_eq _ _ _).trans (by kernel_rfl)
theorem E130 (x0 : Fw.Mach) (x1 : ByteArray) : D130 x0 x1 = ((D135 x0.Touch.Reads x1).bind fun y0 => (D104 x0.Store x1).bind fun y1 => some ((⟨x0.Store, (⟨y0.1, x0.Touch.Writes⟩ : Fw.Touch)⟩ : Fw.Mach), (y1.1, ()))) := (Dn_eq _ _).trans (by kernel_rfl)
theorem E131 (x0 : Fw.Mach) (x1 : ByteArray) (x2 : ByteArray) : D131 x0 x1 x2 = ((D135 x0.Touch.Writes x1).bind fun y0 => (D162 x0.Store x1 x2).bind fun y1 => some ((⟨y1.1, (⟨x0.Touch.Reads, y0.1⟩ : Fw.Touch)⟩ : Fw.Mach), ())) := (Dn_eq _ _).trans (by kernel_rfl)
noncomputable def L132_52 (s0 : ByteArray) (s3 : Int) : Option (Bool × Unit) := Ln 112 52 (⟨25, [(0, .ok (.v (.string s0))), (3, .ok (.v (.int .i64 s3)))], []⟩, 0)
noncomputable def L132_7 (s0 : ByteArray) : Option (Bool × Unit) := Ln 112 7 (⟨25, [(0, .ok (.v (.string s0)))], []⟩, 0)
theorem E132 (x0 : ByteArray) : D132 x0 = (L132_52 x0 0) := (Dn_eq _ _).trans (by kernel_rfl)
theorem P132_52 (s0 : ByteArray) (s3 : Int) : L132_52 s0 s3 = (bif (decide (s3 < (s0.size : Int))) then (gd ((decide (0 ≤ s3)) && (decide (s3 < (s0.size : Int)))) <| (D27 (IntKind.wrap .i64 ((byteAt s0 s3.toNat).toNat : Int)) 33 126).bind fun y0 => gd (((decide (0 ≤ s3)) && (decide (s3 < (s0.size : Int)))) || (!(!(!y0.1)))) <| bif ((!y0.1) || (decide (((byteAt s0 s3.toNat).toNat : Int) = 42))) then (some (false, ())) else L132_52 s0 (IntKind.wrap .i64 (s3 + 1))) else L132_7 s0) := (Ln_eq _ _ _).trans (by kernel_rfl)
theorem P132_7 (s0 : ByteArray) : L132_7 s0 = ((D27 (s0.size : Int) 1 40).bind fun y0 => some (y0.1, ())) := (Ln_eq _ _ _).trans (by kernel_rfl)
theorem E133 (x0 : Fw.Tx) (x1 : Fw.Tx) : D133 x0 x1 = (some (((decide (x0.Age < x1.Age)) || ((decide (x0.Age = x1.Age)) && (decide (x0.Id < x1.Id)))), ())) := (Dn_eq _ _).trans (by kernel_rfl)
noncomputable def L134_500 (s1 : List Fw.Step) (s9 : Int) (e0 : List Fw.Cell) (e2 : List Fw.Answer) : Option ((List Fw.Cell) × (List Fw.Answer) × Fw.Touch × Unit) := Ln 85 500 (⟨51, [(0, .ok (.sl 0)), (1, .ok (.ro 184 s1)), (6, .ok (.pt 1 0)), (7, .ok (.sl 2)), (8, .ok (.pt 3 0)), (9, .ok (.v (.int .i64 s9)))], [(0, .own 152 e0), (1, .var [.v (.slice none 0 0), .v (.slice none 0 0)] 42), (2, .own 170 e2), (3, .var [.v (.slice none 0 0), .v (.slice none 0 0)] 42)]⟩, 4)
noncomputable def L134_63 (e0 : List Fw.Cell) (e2 : List Fw.Answer) : Option ((List Fw.Cell) × (List Fw.Answer) × Fw.Touch × Unit) := Ln 85 63 (⟨51, [(0, .ok (.sl 0)), (6, .ok (.pt 1 0)), (7, .ok (.sl 2)), (8, .ok (.pt 3 0))], [(0, .own 152 e0), (1, .var [.v (.slice none 0 0), .v (.slice none 0 0)] 42), (2, .own 170 e2), (3, .var [.v (.slice none 0 0), .v (.slice none 0 0)] 42)]⟩, 4)
noncomputable def L134_500b (s1 : List Fw.Step) (s9 : Int) (e0 : List Fw.Cell) (e2 : List Fw.Answer) (e4 : List ByteArray) (e5 : List ByteArray) : Option ((List Fw.Cell) × (List Fw.Answer) × Fw.Touch × Unit) := Ln 85 500 (⟨51, [(0, .ok (.sl 0)), (1, .ok (.ro 184 s1)), (6, .ok (.pt 1 0)), (7, .ok (.sl 2)), (8, .ok (.pt 3 0)), (9, .ok (.v (.int .i64 s9)))], [(0, .own 152 e0), (1, .var [.v (.slice none 0 0), .v (.slice none 0 0)] 42), (2, .own 170 e2), (3, .var [.sl 4, .sl 5] 42), (4, .own 9 e4), (5, .own 9 e5)]⟩, 6)
noncomputable def L134_63b (e0 : List Fw.Cell) (e2 : List Fw.Answer) (e4 : List ByteArray) (e5 : List ByteArray) : Option ((List Fw.Cell) × (List Fw.Answer) × Fw.Touch × Unit) := Ln 85 63 (⟨51, [(0, .ok (.sl 0)), (6, .ok (.pt 1 0)), (7, .ok (.sl 2)), (8, .ok (.pt 3 0))], [(0, .own 152 e0), (1, .var [.v (.slice none 0 0), .v (.slice none 0 0)] 42), (2, .own 170 e2), (3, .var [.sl 4, .sl 5] 42), (4, .own 9 e4), (5, .own 9 e5)]⟩, 6)
theorem E134 (x0 : List Fw.Cell) (x1 : List Fw.Step) : D134 x0 x1 = (gd ((decide (((0 + x0.length) * 32) ≤ 140737488355328)) && (decide ((0 + x0.length) ≤ 9223372036854775807))) <| L134_500 x1 0 ([] ++ x0) []) := (Dn_eq _ _).trans (by kernel_rfl)
theorem P134_500 (s1 : List Fw.Step) (s9 : Int) (e0 : List Fw.Cell) (e2 : List Fw.Answer) : L134_500 s1 s9 e0 e2 = (bif (decide (s9 < (s1.length : Int))) then (gd ((decide (0 ≤ s9)) && (decide (s9 < (s1.length : Int)))) <| gd ((decide (0 ≤ s9)) && (decide (s9 < (s1.length : Int)))) <| (D64 e0 (nth s1 s9.toNat).Proc (nth s1 s9.toNat).Call).bind fun y0 => gd ((decide (((e2.length + 1) * 32) ≤ 140737488355328)) && (decide ((e2.length + 1) ≤ 9223372036854775807))) <| (D100 (⟨[], []⟩ : Fw.Touch) y0.2.2.1).bind fun y1 => L134_500b s1 (IntKind.wrap .i64 (s9 + 1)) y0.1 (e2 ++ [y0.2.1]) y1.1.Reads y1.1.Writes) else L134_63 e0 e2) := (Ln_eq _ _ _).trans (by kernel_rfl)
theorem P134_63 (e0 : List Fw.Cell) (e2 : List Fw.Answer) : L134_63 e0 e2 = (some (e0, (e2, ((⟨[], []⟩ : Fw.Touch), ())))) := (Ln_eq _ _ _).trans (by kernel_rfl)
theorem P134_500b (s1 : List Fw.Step) (s9 : Int) (e0 : List Fw.Cell) (e2 : List Fw.Answer) (e4 : List ByteArray) (e5 : List ByteArray) : L134_500b s1 s9 e0 e2 e4 e5 = (bif (decide (s9 < (s1.length : Int))) then (gd ((decide (0 ≤ s9)) && (decide (s9 < (s1.length : Int)))) <| gd ((decide (0 ≤ s9)) && (decide (s9 < (s1.length : Int)))) <| (D64 e0 (nth s1 s9.toNat).Proc (nth s1 s9.toNat).Call).bind fun y0 => gd ((decide (((e2.length + 1) * 32) ≤ 140737488355328)) && (decide ((e2.length + 1) ≤ 9223372036854775807))) <| (D100 (⟨e4, e5⟩ : Fw.Touch) y0.2.2.1).bind fun y1 => L134_500b s1 (IntKind.wrap .i64 (s9 + 1)) y0.1 (e2 ++ [y0.2.1]) y1.1.Reads y1.1.Writes) else L134_63b e0 e2 e4 e5) := (Ln_eq _ _ _).trans (by kernel_rfl)
theorem P134_63b (e0 : List Fw.Cell) (e2 : List Fw.Answer) (e4 : List ByteArray) (e5 : List ByteArray) : L134_63b e0 e2 e4 e5 = (some (e0, (e2, ((⟨e4, e5⟩ : Fw.Touch), ())))) := (Ln_eq _ _ _).trans (by kernel_rfl)
theorem E135 (x0 : List ByteArray) (x1 : ByteArray) : D135 x0 x1 = ((D156 x0 x1).bind fun y0 => gd ((decide (((0 + y0.1.length) * 16) ≤ 140737488355328)) && (decide ((0 + y0.1.length) ≤ 9223372036854775807))) <| some (([] ++ y0.1), ())) := (Dn_eq _ _).trans (by kernel_rfl)
theorem E136 (x0 : Fw.Mach) (x1 : Int) : D136 x0 x1 = ((D91 x1 (tx [47, 115])).bind fun y0 => (D88 x0 y0.1).bind fun y1 => some (y1.1, (y1.2.1, ()))) := (Dn_eq _ _).trans (by kernel_rfl)
theorem E137 (x0 : Fw.Call) : D137 x0 = ((D27 x0.Kind 1 22).bind fun y0 => some ((((y0.1 && (decide ((x0.Name.size : Int) ≤ 20))) && (decide ((x0.To.size : Int) ≤ 20))) && (decide ((x0.Text.size : Int) ≤ 64))), ())) := (Dn_eq _ _).trans (by kernel_rfl)
theorem E138 (x0 : Fw.Mach) (x1 : ByteArray) : D138 x0 x1 = ((D165 x1).bind fun y0 => bif (!y0.1) then (some (x0, (0, (4, ())))) else (D166 x0 x1).bind fun y1 => bif (!(decide (y1.2.1 = 0))) then (some (y1.1, (0, (1, ())))) else (D88 y1.1 (tx [99, 47, 102, 105, 108, 101])).bind fun y2 => bif (decide (y2.2.1 ≥ 20)) then (some (y2.1, (0, (3, ())))) else (D89 y2.1 (tx [99, 47, 102, 105, 108, 101])).bind fun y3 => gd (decide (((tx [110, 47]).size + x1.size) ≤ 9223372036854775807)) <| (D90 y3.1 ((tx [110, 47]) ++ x1) y3.2.1).bind fun y4 => (D112 (tx [105, 47]) y3.2.1 (tx [47, 108])).bind fun y5 => (D90 y4.1 y5.1 1).bind fun y6 => some (y6.1, (y3.2.1, (0, ())))) := (Dn_eq _ _).trans (by kernel_rfl)
theorem E139 (x0 : Fw.Mach) (x1 : ByteArray) (x2 : ByteArray) : D139 x0 x1 x2 = ((D165 x1).bind fun y0 => bif (!(!y0.1)) then ((D165 x2).bind fun y1 => bif (!y1.1) then (some (x0, (4, ()))) else (D166 x0 x1).bind fun y2 => bif (decide (y2.2.1 = 0)) then (some (y2.1, (2, ()))) else (D166 y2.1 x2).bind fun y3 => bif (!(decide (y3.2.1 = 0))) then (some (y3.1, (1, ()))) else (D112 (tx [105, 47]) y2.2.1 (tx [47, 108])).bind fun y4 => (D88 y3.1 y4.1).bind fun y5 => bif (decide (y5.2.1 ≥ 4)) then (some (y5.1, (3, ()))) else gd (decide (((tx [110, 47]).size + x2.size) ≤ 9223372036854775807)) <| (D90 y5.1 ((tx [110, 47]) ++ x2) y2.2.1).bind fun y6 => (D112 (tx [105, 47]) y2.2.1 (tx [47, 108])).bind fun y7 => (D90 y6.1 y7.1 (IntKind.wrap .i64 (y5.2.1 + 1))).bind fun y8 => some (y8.1, (0, ()))) else some (x0, (4, ()))) := (Dn_eq _ _).trans (by kernel_rfl)
theorem E140 (x0 : Fw.Mach) (x1 : ByteArray) : D140 x0 x1 = ((D165 x1).bind fun y0 => bif (!y0.1) then (some (x0, (4, ()))) else (D166 x0 x1).bind fun y1 => bif (decide (y1.2.1 = 0)) then (some (y1.1, (2, ()))) else gd (decide (((tx [110, 47]).size + x1.size) ≤ 9223372036854775807)) <| (D131 y1.1 ((tx [110, 47]) ++ x1) (tx [])).bind fun y2 => (D112 (tx [105, 47]) y1.2.1 (tx [47, 108])).bind fun y3 => (D88 y2.1 y3.1).bind fun y4 => bif (decide (y4.2.1 > 1)) then ((D112 (tx [105, 47]) y1.2.1 (tx [47, 108])).bind fun y7 => (D90 y4.1 y7.1 (IntKind.wrap .i64 (y4.2.1 - 1))).bind fun y8 => some (y8.1, (0, ()))) else (D112 (tx [105, 47]) y1.2.1 (tx [47])).bind fun y5 => (D167 y4.1 y5.1).bind fun y6 => some (y6.1, (0, ()))) := (Dn_eq _ _).trans (by kernel_rfl)
end Go.Proofs.YtdghkmbppfmifaaGreatDoor.Ri

namespace Go.Proofs.YtdghkmbppfmifaaGreatDoor.Ri
open Go.Proofs.YtdghkmbppfmifaaGreatDoor.Fw
open Go.RowKit
set_option linter.unusedVariables false
set_option maxRecDepth 100000
noncomputable def L141_255 (s1 : ByteArray) (s2 : ByteArray) (s8 : Int) (e1 : List Fw.Cell) (e2 : List ByteArray) (e3 : List ByteArray) : Option (Fw.Mach × Int × Unit) := Ln 249 255 (⟨55, [(1, .ok (.v (.string s1))), (2, .ok (.v (.string s2))), (3, .ok (.pt 0 0)), (6, .ok (.pt 4 0)), (8, .ok (.v (.int .i64 s8)))], [(0, .var [.sl 1, .sl 2, .sl 3] 160), (1, .own 152 e1), (2, .own 9 e2), (3, .own 9 e3), (4, .var [.v (.slice none 0 0), .v (.slice none 0 0), .v (.slice none 0 0)] 160)]⟩, 5)
theorem E141 (x0 : Fw.Mach) (x1 : ByteArray) (x2 : ByteArray) : D141 x0 x1 x2 = ((D165 x1).bind fun y0 => bif (!(!y0.1)) then ((D165 x2).bind fun y1 => bif (!y1.1) then (some (x0, (4, ()))) else (D166 x0 x1).bind fun y2 => bif (decide (y2.2.1 = 0)) then (some (y2.1, (2, ()))) else (D166 y2.1 x2).bind fun y3 => bif (decide (y3.2.1 = y2.2.1)) then (some (y3.1, (0, ()))) else bif (!(decide (y3.2.1 = 0))) then ((D140 y3.1 x2).bind fun y4 => L141_255 x1 x2 y2.2.1 y4.1.Store y4.1.Touch.Reads y4.1.Touch.Writes) else L141_255 x1 x2 y2.2.1 y3.1.Store y3.1.Touch.Reads y3.1.Touch.Writes) else some (x0, (4, ()))) := (Dn_eq _ _).trans (by kernel_rfl)
theorem P141_255 (s1 : ByteArray) (s2 : ByteArray) (s8 : Int) (e1 : List Fw.Cell) (e2 : List ByteArray) (e3 : List ByteArray) : L141_255 s1 s2 s8 e1 e2 e3 = (gd (decide (((tx [110, 47]).size + s2.size) ≤ 9223372036854775807)) <| (D90 (⟨e1, (⟨e2, e3⟩ : Fw.Touch)⟩ : Fw.Mach) ((tx [110, 47]) ++ s2) s8).bind fun y0 => gd (decide (((tx [110, 47]).size + s1.size) ≤ 9223372036854775807)) <| (D131 y0.1 ((tx [110, 47]) ++ s1) (tx [])).bind fun y1 => some (y1.1, (0, ()))) := (Ln_eq _ _ _).trans (by kernel_rfl)
noncomputable def L142_244 (s6 : Int) (e1 : List Fw.Cell) (e2 : List ByteArray) (e3 : List ByteArray) (e5_0 : Int) (e5_1 : Int) (e5_2 : ByteArray) (e6 : List ByteArray) (e7_0 : Int) (e7_1 : Int) (e7_2 : ByteArray) : Option (Fw.Mach × Fw.Answer × Unit) := Ln 250 244 (⟨30, [(1, .ok (.pt 0 0)), (2, .ok (.pt 4 0)), (3, .ok (.pt 5 0)), (4, .ok (.sl 6)), (5, .ok (.pt 7 0)), (6, .ok (.v (.int .i64 s6)))], [(0, .var [.sl 1, .sl 2, .sl 3] 160), (1, .own 152 e1), (2, .own 9 e2), (3, .own 9 e3), (4, .var [.v (.slice none 0 0), .v (.slice none 0 0), .v (.slice none 0 0)] 160), (5, .var [.v (.int .i64 e5_0), .v (.int .i64 e5_1), .v (.string e5_2)] 170), (6, .own 9 e6), (7, .var [.v (.int .i64 e7_0), .v (.int .i64 e7_1), .v (.string e7_2)] 170)]⟩, 8)
noncomputable def L142_31 (e1 : List Fw.Cell) (e2 : List ByteArray) (e3 : List ByteArray) (e5_0 : Int) (e5_1 : Int) (e5_2 : ByteArray) (e6_0 : Int) (e6_1 : Int) (e6_2 : ByteArray) : Option (Fw.Mach × Fw.Answer × Unit) := Ln 250 31 (⟨30, [(1, .ok (.pt 0 0)), (2, .ok (.pt 4 0)), (3, .ok (.pt 5 0)), (5, .ok (.pt 6 0))], [(0, .var [.sl 1, .sl 2, .sl 3] 160), (1, .own 152 e1), (2, .own 9 e2), (3, .own 9 e3), (4, .var [.v (.slice none 0 0), .v (.slice none 0 0), .v (.slice none 0 0)] 160), (5, .var [.v (.int .i64 e5_0), .v (.int .i64 e5_1), .v (.string e5_2)] 170), (6, .var [.v (.int .i64 e6_0), .v (.int .i64 e6_1), .v (.string e6_2)] 170)]⟩, 7)
theorem E142 (x0 : Fw.Mach) : D142 x0 = ((D168 x0).bind fun y0 => L142_244 0 y0.1.Store y0.1.Touch.Reads y0.1.Touch.Writes 0 0 (tx []) y0.2.1 0 0 (tx [])) := (Dn_eq _ _).trans (by kernel_rfl)
theorem P142_244 (s6 : Int) (e1 : List Fw.Cell) (e2 : List ByteArray) (e3 : List ByteArray) (e5_0 : Int) (e5_1 : Int) (e5_2 : ByteArray) (e6 : List ByteArray) (e7_0 : Int) (e7_1 : Int) (e7_2 : ByteArray) : L142_244 s6 e1 e2 e3 e5_0 e5_1 e5_2 e6 e7_0 e7_1 e7_2 = (bif (decide (s6 < (e6.length : Int))) then (gd ((decide (0 ≤ s6)) && (decide (s6 < (e6.length : Int)))) <| gd (decide ((e7_2.size + (nth e6 s6.toNat).size) ≤ 9223372036854775807)) <| gd (decide (((e7_2 ++ (nth e6 s6.toNat)).size + (tx [32]).size) ≤ 9223372036854775807)) <| L142_244 (IntKind.wrap .i64 (s6 + 1)) e1 e2 e3 e5_0 e5_1 e5_2 e6 e7_0 e7_1 ((e7_2 ++ (nth e6 s6.toNat)) ++ (tx [32]))) else L142_31 e1 e2 e3 e5_0 e5_1 e5_2 e7_0 e7_1 e7_2) := (Ln_eq _ _ _).trans (by kernel_rfl)
theorem P142_31 (e1 : List Fw.Cell) (e2 : List ByteArray) (e3 : List ByteArray) (e5_0 : Int) (e5_1 : Int) (e5_2 : ByteArray) (e6_0 : Int) (e6_1 : Int) (e6_2 : ByteArray) : L142_31 e1 e2 e3 e5_0 e5_1 e5_2 e6_0 e6_1 e6_2 = (some ((⟨e1, (⟨e2, e3⟩ : Fw.Touch)⟩ : Fw.Mach), ((⟨e6_0, e6_1, e6_2⟩ : Fw.Answer), ()))) := (Ln_eq _ _ _).trans (by kernel_rfl)
noncomputable def L143_63 (e1 : List Fw.Cell) (e2 : List ByteArray) (e3 : List ByteArray) (e5_0 : Int) (e5_1 : Int) (e5_2 : ByteArray) (e6_0 : Int) (e6_1 : Int) (e6_2 : ByteArray) : Option (Fw.Mach × Fw.Answer × Unit) := Ln 251 63 (⟨59, [(2, .ok (.pt 0 0)), (4, .ok (.pt 4 0)), (5, .ok (.pt 5 0)), (7, .ok (.pt 6 0))], [(0, .var [.sl 1, .sl 2, .sl 3] 160), (1, .own 152 e1), (2, .own 9 e2), (3, .own 9 e3), (4, .var [.v (.slice none 0 0), .v (.slice none 0 0), .v (.slice none 0 0)] 160), (5, .var [.v (.int .i64 e5_0), .v (.int .i64 e5_1), .v (.string e5_2)] 170), (6, .var [.v (.int .i64 e6_0), .v (.int .i64 e6_1), .v (.string e6_2)] 170)]⟩, 7)
theorem E143 (x0 : Fw.Mach) (x1 : Fw.Call) : D143 x0 x1 = ((D166 x0 x1.Name).bind fun y0 => bif (decide (y0.2.1 = 0)) then (some (y0.1, ((⟨2, 0, (tx [])⟩ : Fw.Answer), ()))) else bif (decide (x1.Kind = 6)) then ((D169 y0.1 y0.2.1 x1.A x1.B).bind fun y3 => L143_63 y3.1.Store y3.1.Touch.Reads y3.1.Touch.Writes 0 0 (tx []) 0 0 y3.2.1) else bif (decide (x1.Kind = 7)) then ((D170 y0.1 y0.2.1 x1.A x1.Text).bind fun y2 => L143_63 y2.1.Store y2.1.Touch.Reads y2.1.Touch.Writes 0 0 (tx []) y2.2.1 0 (tx [])) else (D171 y0.1 y0.2.1 x1.A).bind fun y1 => L143_63 y1.1.Store y1.1.Touch.Reads y1.1.Touch.Writes 0 0 (tx []) y1.2.1 0 (tx [])) := (Dn_eq _ _).trans (by kernel_rfl)
theorem P143_63 (e1 : List Fw.Cell) (e2 : List ByteArray) (e3 : List ByteArray) (e5_0 : Int) (e5_1 : Int) (e5_2 : ByteArray) (e6_0 : Int) (e6_1 : Int) (e6_2 : ByteArray) : L143_63 e1 e2 e3 e5_0 e5_1 e5_2 e6_0 e6_1 e6_2 = (some ((⟨e1, (⟨e2, e3⟩ : Fw.Touch)⟩ : Fw.Mach), ((⟨e6_0, e6_1, e6_2⟩ : Fw.Answer), ()))) := (Ln_eq _ _ _).trans (by kernel_rfl)
theorem E144 (x0 : Fw.Mach) : D144 x0 = ((D88 x0 (tx [99, 47, 112, 105, 112, 101])).bind fun y0 => bif (decide (y0.2.1 ≥ 8)) then (some (y0.1, (0, (3, ())))) else (D89 y0.1 (tx [99, 47, 112, 105, 112, 101])).bind fun y1 => (D172 y1.2.1 (tx [47, 111])).bind fun y2 => (D90 y1.1 y2.1 1).bind fun y3 => some (y3.1, (y1.2.1, (0, ())))) := (Dn_eq _ _).trans (by kernel_rfl)
theorem E145 (x0 : Fw.Mach) (x1 : Int) (x2 : ByteArray) : D145 x0 x1 x2 = ((D173 x0 x1).bind fun y0 => bif (!y0.2.1) then (some (y0.1, (2, ()))) else bif (decide ((x2.size : Int) > 20)) then (some (y0.1, (4, ()))) else (D172 x1 (tx [47, 116])).bind fun y1 => (D88 y0.1 y1.1).bind fun y2 => (D172 x1 (tx [47, 104])).bind fun y3 => (D88 y2.1 y3.1).bind fun y4 => bif (decide ((IntKind.wrap .i64 (y2.2.1 - y4.2.1)) ≥ 4)) then (some (y4.1, (5, ()))) else bif (decide (y2.2.1 ≥ 999)) then (some (y4.1, (3, ()))) else (D157 x2).bind fun y5 => (D172 x1 (tx [47, 116])).bind fun y6 => (D90 y4.1 y6.1 (IntKind.wrap .i64 (y2.2.1 + 1))).bind fun y7 => (D174 x1 (IntKind.wrap .i64 (y2.2.1 + 1))).bind fun y8 => gd (decide (((tx [45]).size + y5.1.size) ≤ 9223372036854775807)) <| (D131 y7.1 y8.1 ((tx [45]) ++ y5.1)).bind fun y9 => some (y9.1, (0, ()))) := (Dn_eq _ _).trans (by kernel_rfl)
noncomputable def L146_1023 (s1 : Int) (s8 : Int) (s11 : ByteArray) (e1 : List Fw.Cell) (e2 : List ByteArray) (e3 : List ByteArray) : Option (Fw.Mach × ByteArray × Int × Unit) := Ln 254 1023 (⟨74, [(1, .ok (.v (.int .i64 s1))), (2, .ok (.pt 0 0)), (4, .ok (.pt 4 0)), (8, .ok (.v (.int .i64 s8))), (11, .ok (.v (.string s11)))], [(0, .var [.sl 1, .sl 2, .sl 3] 160), (1, .own 152 e1), (2, .own 9 e2), (3, .own 9 e3), (4, .var [.v (.slice none 0 0), .v (.slice none 0 0), .v (.slice none 0 0)] 160)]⟩, 5)
theorem E146 (x0 : Fw.Mach) (x1 : Int) : D146 x0 x1 = ((D173 x0 x1).bind fun y0 => bif (!y0.2.1) then (some (y0.1, ((tx []), (2, ())))) else (D172 x1 (tx [47, 104])).bind fun y1 => (D88 y0.1 y1.1).bind fun y2 => (D172 x1 (tx [47, 116])).bind fun y3 => (D88 y2.1 y3.1).bind fun y4 => bif (decide (y2.2.1 = y4.2.1)) then (some (y4.1, ((tx []), (5, ())))) else (D174 x1 (IntKind.wrap .i64 (y2.2.1 + 1))).bind fun y5 => (D130 y4.1 y5.1).bind fun y6 => gd (((decide (0 ≤ 0)) && (decide (0 < (y6.2.1.size : Int)))) || (!(!(decide (y6.2.1 = (tx [])))))) <| bif ((!(decide (y6.2.1 = (tx [])))) && (decide (((byteAt y6.2.1 (0 : Int).toNat).toNat : Int) = 45))) then (gd ((decide (0 ≤ 1)) && ((decide (1 ≤ (y6.2.1.size : Int))) && (decide ((y6.2.1.size : Int) ≤ (y6.2.1.size : Int))))) <| (D113 (cutS y6.2.1 (1 : Int).toNat (y6.2.1.size : Int).toNat)).bind fun y7 => L146_1023 x1 y2.2.1 y7.1 y6.1.Store y6.1.Touch.Reads y6.1.Touch.Writes) else L146_1023 x1 y2.2.1 (tx []) y6.1.Store y6.1.Touch.Reads y6.1.Touch.Writes) := (Dn_eq _ _).trans (by kernel_rfl)
theorem P146_1023 (s1 : Int) (s8 : Int) (s11 : ByteArray) (e1 : List Fw.Cell) (e2 : List ByteArray) (e3 : List ByteArray) : L146_1023 s1 s8 s11 e1 e2 e3 = ((D174 s1 (IntKind.wrap .i64 (s8 + 1))).bind fun y0 => (D131 (⟨e1, (⟨e2, e3⟩ : Fw.Touch)⟩ : Fw.Mach) y0.1 (tx [])).bind fun y1 => (D172 s1 (tx [47, 104])).bind fun y2 => (D90 y1.1 y2.1 (IntKind.wrap .i64 (s8 + 1))).bind fun y3 => some (y3.1, (s11, (0, ())))) := (Ln_eq _ _ _).trans (by kernel_rfl)
theorem E147 (x0 : Fw.Mach) (x1 : Int) (x2 : Int) : D147 x0 x1 x2 = ((D136 x0 x1).bind fun y0 => bif (!(decide (y0.2.1 = 1))) then (some (y0.1, (2, ()))) else (D27 x2 1 31).bind fun y1 => bif (!y1.1) then (some (y0.1, (4, ()))) else (D175 x1 (tx [47, 116])).bind fun y2 => (D88 y0.1 y2.1).bind fun y3 => (D175 x1 (tx [47, 104])).bind fun y4 => (D88 y3.1 y4.1).bind fun y5 => bif (decide ((IntKind.wrap .i64 (y3.2.1 - y5.2.1)) ≥ 4)) then (some (y5.1, (5, ()))) else bif (decide (y3.2.1 ≥ 999)) then (some (y5.1, (3, ()))) else (D175 x1 (tx [47, 116])).bind fun y6 => (D90 y5.1 y6.1 (IntKind.wrap .i64 (y3.2.1 + 1))).bind fun y7 => (D176 x1 (IntKind.wrap .i64 (y3.2.1 + 1))).bind fun y8 => (D90 y7.1 y8.1 x2).bind fun y9 => some (y9.1, (0, ()))) := (Dn_eq _ _).trans (by kernel_rfl)
theorem E148 (x0 : Fw.Mach) (x1 : Int) : D148 x0 x1 = ((D175 x1 (tx [47, 104])).bind fun y0 => (D88 x0 y0.1).bind fun y1 => (D175 x1 (tx [47, 116])).bind fun y2 => (D88 y1.1 y2.1).bind fun y3 => bif (decide (y1.2.1 = y3.2.1)) then (some (y3.1, (0, (5, ())))) else (D176 x1 (IntKind.wrap .i64 (y1.2.1 + 1))).bind fun y4 => (D88 y3.1 y4.1).bind fun y5 => (D176 x1 (IntKind.wrap .i64 (y1.2.1 + 1))).bind fun y6 => (D131 y5.1 y6.1 (tx [])).bind fun y7 => (D175 x1 (tx [47, 104])).bind fun y8 => (D90 y7.1 y8.1 (IntKind.wrap .i64 (y1.2.1 + 1))).bind fun y9 => some (y9.1, (y5.2.1, (0, ())))) := (Dn_eq _ _).trans (by kernel_rfl)
theorem E149 (x0 : Fw.Mach) (x1 : Int) (x2 : Int) : D149 x0 x1 x2 = ((D27 x2 0 999).bind fun y0 => bif (!y0.1) then (some (x0, (4, ()))) else (D112 (tx [116, 47]) x1 (tx [])).bind fun y1 => (D90 x0 y1.1 x2).bind fun y2 => some (y2.1, (0, ()))) := (Dn_eq _ _).trans (by kernel_rfl)
noncomputable def L150_4084 (s1 : Int) (s7 : Int) (s9 : Int) (s10 : Int) (e1 : List Fw.Cell) (e2 : List ByteArray) (e3 : List ByteArray) (e5 : List ByteArray) : Option (Fw.Mach × Int × Int × Unit) := Ln 258 4084 (⟨76, [(1, .ok (.v (.int .i64 s1))), (2, .ok (.pt 0 0)), (4, .ok (.pt 4 0)), (7, .ok (.v (.int .i64 s7))), (8, .ok (.sl 5)), (9, .ok (.v (.int .i64 s9))), (10, .ok (.v (.int .i64 s10)))], [(0, .var [.sl 1, .sl 2, .sl 3] 160), (1, .own 152 e1), (2, .own 9 e2), (3, .own 9 e3), (4, .var [.v (.slice none 0 0), .v (.slice none 0 0), .v (.slice none 0 0)] 160), (5, .own 9 e5)]⟩, 6)
noncomputable def L150_511 (s9 : Int) (e1 : List Fw.Cell) (e2 : List ByteArray) (e3 : List ByteArray) : Option (Fw.Mach × Int × Int × Unit) := Ln 258 511 (⟨76, [(2, .ok (.pt 0 0)), (4, .ok (.pt 4 0)), (9, .ok (.v (.int .i64 s9)))], [(0, .var [.sl 1, .sl 2, .sl 3] 160), (1, .own 152 e1), (2, .own 9 e2), (3, .own 9 e3), (4, .var [.v (.slice none 0 0), .v (.slice none 0 0), .v (.slice none 0 0)] 160)]⟩, 5)
noncomputable def L150_16339 (s1 : Int) (s7 : Int) (s9 : Int) (s10 : Int) (e1 : List Fw.Cell) (e2 : List ByteArray) (e3 : List ByteArray) (e5 : List ByteArray) : Option (Fw.Mach × Int × Int × Unit) := Ln 258 16339 (⟨76, [(1, .ok (.v (.int .i64 s1))), (2, .ok (.pt 0 0)), (4, .ok (.pt 4 0)), (7, .ok (.v (.int .i64 s7))), (8, .ok (.sl 5)), (9, .ok (.v (.int .i64 s9))), (10, .ok (.v (.int .i64 s10)))], [(0, .var [.sl 1, .sl 2, .sl 3] 160), (1, .own 152 e1), (2, .own 9 e2), (3, .own 9 e3), (4, .var [.v (.slice none 0 0), .v (.slice none 0 0), .v (.slice none 0 0)] 160), (5, .own 9 e5)]⟩, 6)
theorem E150 (x0 : Fw.Mach) (x1 : Int) : D150 x0 x1 = (bif (decide (x1 < 1)) then (some (x0, (0, (4, ())))) else (D88 x0 (tx [99, 47, 99, 108, 111, 99, 107])).bind fun y0 => bif (decide (x1 > (IntKind.wrap .i64 (999 - y0.2.1)))) then (some (y0.1, (0, (3, ())))) else (D90 y0.1 (tx [99, 47, 99, 108, 111, 99, 107]) (IntKind.wrap .i64 (y0.2.1 + x1))).bind fun y1 => (D177 y1.1 (tx [116, 47])).bind fun y2 => L150_4084 x1 y0.2.1 0 0 y2.1.Store y2.1.Touch.Reads y2.1.Touch.Writes y2.2.1) := (Dn_eq _ _).trans (by kernel_rfl)
theorem P150_4084 (s1 : Int) (s7 : Int) (s9 : Int) (s10 : Int) (e1 : List Fw.Cell) (e2 : List ByteArray) (e3 : List ByteArray) (e5 : List ByteArray) : L150_4084 s1 s7 s9 s10 e1 e2 e3 e5 = (bif (decide (s10 < (e5.length : Int))) then (gd ((decide (0 ≤ s10)) && (decide (s10 < (e5.length : Int)))) <| (D88 (⟨e1, (⟨e2, e3⟩ : Fw.Touch)⟩ : Fw.Mach) (nth e5 s10.toNat)).bind fun y0 => bif (decide (y0.2.1 ≤ (IntKind.wrap .i64 (s7 + s1)))) then (gd ((decide (0 ≤ s10)) && (decide (s10 < (e5.length : Int)))) <| (D131 y0.1 (nth e5 s10.toNat) (tx [])).bind fun y1 => gd ((decide (0 ≤ s10)) && (decide (s10 < (e5.length : Int)))) <| gd ((decide (0 ≤ 2)) && ((decide (2 ≤ ((nth e5 s10.toNat).size : Int))) && (decide (((nth e5 s10.toNat).size : Int) ≤ ((nth e5 s10.toNat).size : Int))))) <| (D111 (cutS (nth e5 s10.toNat) (2 : Int).toNat ((nth e5 s10.toNat).size : Int).toNat)).bind fun y2 => (D147 y1.1 y2.1 14).bind fun y3 => L150_16339 s1 s7 (IntKind.wrap .i64 (s9 + 1)) s10 y3.1.Store y3.1.Touch.Reads y3.1.Touch.Writes e5) else L150_16339 s1 s7 s9 s10 y0.1.Store y0.1.Touch.Reads y0.1.Touch.Writes e5) else L150_511 s9 e1 e2 e3) := (Ln_eq _ _ _).trans (by kernel_rfl)
theorem P150_511 (s9 : Int) (e1 : List Fw.Cell) (e2 : List ByteArray) (e3 : List ByteArray) : L150_511 s9 e1 e2 e3 = (some ((⟨e1, (⟨e2, e3⟩ : Fw.Touch)⟩ : Fw.Mach), (s9, (0, ())))) := (Ln_eq _ _ _).trans (by kernel_rfl)
theorem P150_16339 (s1 : Int) (s7 : Int) (s9 : Int) (s10 : Int) (e1 : List Fw.Cell) (e2 : List ByteArray) (e3 : List ByteArray) (e5 : List ByteArray) : L150_16339 s1 s7 s9 s10 e1 e2 e3 e5 = (L150_4084 s1 s7 s9 (IntKind.wrap .i64 (s10 + 1)) e1 e2 e3 e5) := (Ln_eq _ _ _).trans (by kernel_rfl)
theorem E151 (x0 : Fw.Mach) (x1 : Int) (x2 : Int) (x3 : ByteArray) : D151 x0 x1 x2 x3 = ((D27 x2 0 3).bind fun y0 => bif ((!y0.1) || (decide ((x3.size : Int) > 20))) then (some (x0, (4, ()))) else bif (decide (x3 = (tx []))) then ((D178 x1).bind fun y5 => (D112 y5.1 x2 (tx [])).bind fun y6 => (D131 x0 y6.1 (tx [])).bind fun y7 => some (y7.1, (0, ()))) else (D157 x3).bind fun y1 => (D178 x1).bind fun y2 => (D112 y2.1 x2 (tx [])).bind fun y3 => gd (decide (((tx [45]).size + y1.1.size) ≤ 9223372036854775807)) <| (D131 x0 y3.1 ((tx [45]) ++ y1.1)).bind fun y4 => some (y4.1, (0, ()))) := (Dn_eq _ _).trans (by kernel_rfl)
noncomputable def L152_63 (s10 : ByteArray) (e1 : List Fw.Cell) (e2 : List ByteArray) (e3 : List ByteArray) : Option (Fw.Mach × ByteArray × Int × Unit) := Ln 260 63 (⟨39, [(3, .ok (.pt 0 0)), (6, .ok (.pt 4 0)), (10, .ok (.v (.string s10)))], [(0, .var [.sl 1, .sl 2, .sl 3] 160), (1, .own 152 e1), (2, .own 9 e2), (3, .own 9 e3), (4, .var [.v (.slice none 0 0), .v (.slice none 0 0), .v (.slice none 0 0)] 160)]⟩, 5)
theorem E152 (x0 : Fw.Mach) (x1 : Int) (x2 : Int) : D152 x0 x1 x2 = ((D27 x2 0 3).bind fun y0 => bif (!y0.1) then (some (x0, ((tx []), (4, ())))) else (D178 x1).bind fun y1 => (D112 y1.1 x2 (tx [])).bind fun y2 => (D130 x0 y2.1).bind fun y3 => gd (((decide (0 ≤ 0)) && (decide (0 < (y3.2.1.size : Int)))) || (!(!(decide (y3.2.1 = (tx [])))))) <| bif ((!(decide (y3.2.1 = (tx [])))) && (decide (((byteAt y3.2.1 (0 : Int).toNat).toNat : Int) = 45))) then (gd ((decide (0 ≤ 1)) && ((decide (1 ≤ (y3.2.1.size : Int))) && (decide ((y3.2.1.size : Int) ≤ (y3.2.1.size : Int))))) <| (D113 (cutS y3.2.1 (1 : Int).toNat (y3.2.1.size : Int).toNat)).bind fun y4 => L152_63 y4.1 y3.1.Store y3.1.Touch.Reads y3.1.Touch.Writes) else L152_63 (tx []) y3.1.Store y3.1.Touch.Reads y3.1.Touch.Writes) := (Dn_eq _ _).trans (by kernel_rfl)
theorem P152_63 (s10 : ByteArray) (e1 : List Fw.Cell) (e2 : List ByteArray) (e3 : List ByteArray) : L152_63 s10 e1 e2 e3 = (some ((⟨e1, (⟨e2, e3⟩ : Fw.Touch)⟩ : Fw.Mach), (s10, (0, ())))) := (Ln_eq _ _ _).trans (by kernel_rfl)
theorem E153 (x0 : Fw.Mach) (x1 : ByteArray) : D153 x0 x1 = (bif ((decide (x1 = (tx []))) || (decide ((x1.size : Int) > 20))) then (some (x0, (4, ()))) else (D88 x0 (tx [100, 47, 110])).bind fun y0 => bif (decide (y0.2.1 ≥ 40)) then (some (y0.1, (3, ()))) else (D157 x1).bind fun y1 => (D90 y0.1 (tx [100, 47, 110]) (IntKind.wrap .i64 (y0.2.1 + 1))).bind fun y2 => (D112 (tx [100, 47]) (IntKind.wrap .i64 (y0.2.1 + 1)) (tx [])).bind fun y3 => gd (decide (((tx [45]).size + y1.1.size) ≤ 9223372036854775807)) <| (D131 y2.1 y3.1 ((tx [45]) ++ y1.1)).bind fun y4 => some (y4.1, (0, ()))) := (Dn_eq _ _).trans (by kernel_rfl)
noncomputable def L154_120828 (s10 : Int) (e1 : List Fw.Cell) (e2 : List ByteArray) (e3 : List ByteArray) (e5_0 : Int) (e5_1 : Int) (e5_2 : ByteArray) (e6_0 : Int) (e6_1 : Int) (e6_2 : ByteArray) (e7 : List Int) : Option (Fw.Mach × Fw.Answer × Unit) := Ln 262 120828 (⟨88, [(3, .ok (.pt 0 0)), (6, .ok (.pt 4 0)), (7, .ok (.pt 5 0)), (8, .ok (.pt 6 0)), (9, .ok (.sl 7)), (10, .ok (.v (.int .i64 s10)))], [(0, .var [.sl 1, .sl 2, .sl 3] 160), (1, .own 152 e1), (2, .own 9 e2), (3, .own 9 e3), (4, .var [.v (.slice none 0 0), .v (.slice none 0 0), .v (.slice none 0 0)] 160), (5, .var [.v (.int .i64 e5_0), .v (.int .i64 e5_1), .v (.string e5_2)] 170), (6, .var [.v (.int .i64 e6_0), .v (.int .i64 e6_1), .v (.string e6_2)] 170), (7, .own 3 e7)]⟩, 8)
noncomputable def L154_15 (e1 : List Fw.Cell) (e2 : List ByteArray) (e3 : List ByteArray) (e5_0 : Int) (e5_1 : Int) (e5_2 : ByteArray) (e6_0 : Int) (e6_1 : Int) (e6_2 : ByteArray) : Option (Fw.Mach × Fw.Answer × Unit) := Ln 262 15 (⟨88, [(3, .ok (.pt 0 0)), (6, .ok (.pt 4 0)), (7, .ok (.pt 5 0)), (8, .ok (.pt 6 0))], [(0, .var [.sl 1, .sl 2, .sl 3] 160), (1, .own 152 e1), (2, .own 9 e2), (3, .own 9 e3), (4, .var [.v (.slice none 0 0), .v (.slice none 0 0), .v (.slice none 0 0)] 160), (5, .var [.v (.int .i64 e5_0), .v (.int .i64 e5_1), .v (.string e5_2)] 170), (6, .var [.v (.int .i64 e6_0), .v (.int .i64 e6_1), .v (.string e6_2)] 170)]⟩, 7)
theorem E154 (x0 : Fw.Mach) (x1 : Int) (x2 : Fw.Call) : D154 x0 x1 x2 = (bif (decide (x2.Kind = 12)) then ((D52 x0 x1).bind fun y4 => bif (decide (y4.2.2.1 = 0)) then ((D179 y4.1 x1 y4.2.1).bind fun y5 => L154_15 y5.1.Store y5.1.Touch.Reads y5.1.Touch.Writes 0 0 (tx []) y4.2.2.1 y4.2.1 (tx [])) else L154_15 y4.1.Store y4.1.Touch.Reads y4.1.Touch.Writes 0 0 (tx []) y4.2.2.1 y4.2.1 (tx [])) else bif (decide (x2.Kind = 13)) then ((D180 x0 x1 x2.A).bind fun y2 => bif (decide (y2.2.1 = 0)) then ((D181 y2.1 x1).bind fun y3 => L154_15 y3.1.Store y3.1.Touch.Reads y3.1.Touch.Writes 0 0 (tx []) y2.2.1 0 (tx [])) else L154_15 y2.1.Store y2.1.Touch.Reads y2.1.Touch.Writes 0 0 (tx []) y2.2.1 0 (tx [])) else bif (decide (x2.Kind = 14)) then ((D182 x0 x1 x2.A).bind fun y1 => L154_15 y1.1.Store y1.1.Touch.Reads y1.1.Touch.Writes 0 0 (tx []) y1.2.2.1 y1.2.1 (tx [])) else (D183 x0 x1).bind fun y0 => L154_120828 0 y0.1.Store y0.1.Touch.Reads y0.1.Touch.Writes 0 0 (tx []) 0 0 (tx []) y0.2.1) := (Dn_eq _ _).trans (by kernel_rfl)
theorem P154_120828 (s10 : Int) (e1 : List Fw.Cell) (e2 : List ByteArray) (e3 : List ByteArray) (e5_0 : Int) (e5_1 : Int) (e5_2 : ByteArray) (e6_0 : Int) (e6_1 : Int) (e6_2 : ByteArray) (e7 : List Int) : L154_120828 s10 e1 e2 e3 e5_0 e5_1 e5_2 e6_0 e6_1 e6_2 e7 = (bif (decide (s10 < (e7.length : Int))) then (gd ((decide (0 ≤ s10)) && (decide (s10 < (e7.length : Int)))) <| (D122 (nth e7 s10.toNat)).bind fun y0 => gd (decide ((e6_2.size + y0.1.size) ≤ 9223372036854775807)) <| gd (decide (((e6_2 ++ y0.1).size + (tx [32]).size) ≤ 9223372036854775807)) <| L154_120828 (IntKind.wrap .i64 (s10 + 1)) e1 e2 e3 e5_0 e5_1 e5_2 e6_0 e6_1 ((e6_2 ++ y0.1) ++ (tx [32])) e7) else L154_15 e1 e2 e3 e5_0 e5_1 e5_2 e6_0 e6_1 e6_2) := (Ln_eq _ _ _).trans (by kernel_rfl)
theorem P154_15 (e1 : List Fw.Cell) (e2 : List ByteArray) (e3 : List ByteArray) (e5_0 : Int) (e5_1 : Int) (e5_2 : ByteArray) (e6_0 : Int) (e6_1 : Int) (e6_2 : ByteArray) : L154_15 e1 e2 e3 e5_0 e5_1 e5_2 e6_0 e6_1 e6_2 = (some ((⟨e1, (⟨e2, e3⟩ : Fw.Touch)⟩ : Fw.Mach), ((⟨e6_0, e6_1, e6_2⟩ : Fw.Answer), ()))) := (Ln_eq _ _ _).trans (by kernel_rfl)
noncomputable def L155_52 (s0 : List ByteArray) (s1 : List ByteArray) (s5 : Int) : Option (Bool × Unit) := Ln 359 52 (⟨28, [(0, .ok (.ro 9 s0)), (1, .ok (.ro 9 s1)), (5, .ok (.v (.int .i64 s5)))], []⟩, 0)
noncomputable def L155_7  : Option (Bool × Unit) := Ln 359 7 (⟨28, [], []⟩, 0)
noncomputable def L155_3364 (s0 : List ByteArray) (s1 : List ByteArray) (s5 : Int) (s6 : Int) : Option (Bool × Unit) := Ln 359 3364 (⟨28, [(0, .ok (.ro 9 s0)), (1, .ok (.ro 9 s1)), (5, .ok (.v (.int .i64 s5))), (6, .ok (.v (.int .i64 s6)))], []⟩, 0)
noncomputable def L155_211 (s0 : List ByteArray) (s1 : List ByteArray) (s5 : Int) : Option (Bool × Unit) := Ln 359 211 (⟨28, [(0, .ok (.ro 9 s0)), (1, .ok (.ro 9 s1)), (5, .ok (.v (.int .i64 s5)))], []⟩, 0)
theorem E155 (x0 : List ByteArray) (x1 : List ByteArray) : D155 x0 x1 = (L155_52 x0 x1 0) := (Dn_eq _ _).trans (by kernel_rfl)
theorem P155_52 (s0 : List ByteArray) (s1 : List ByteArray) (s5 : Int) : L155_52 s0 s1 s5 = (bif (decide (s5 < (s0.length : Int))) then (L155_3364 s0 s1 s5 0) else L155_7) := (Ln_eq _ _ _).trans (by kernel_rfl)
theorem P155_7  : L155_7 = (some (false, ())) := (Ln_eq _ _ _).trans (by kernel_rfl)
theorem P155_3364 (s0 : List ByteArray) (s1 : List ByteArray) (s5 : Int) (s6 : Int) : L155_3364 s0 s1 s5 s6 = (bif (decide (s6 < (s1.length : Int))) then (gd ((decide (0 ≤ s5)) && (decide (s5 < (s0.length : Int)))) <| gd ((decide (0 ≤ s6)) && (decide (s6 < (s1.length : Int)))) <| (D184 (nth s0 s5.toNat) (nth s1 s6.toNat)).bind fun y0 => bif y0.1 then (some (true, ())) else L155_3364 s0 s1 s5 (IntKind.wrap .i64 (s6 + 1))) else L155_211 s0 s1 s5) := (Ln_eq _ _ _).trans (by kernel_rfl)
theorem P155_211 (s0 : List ByteArray) (s1 : List ByteArray) (s5 : Int) : L155_211 s0 s1 s5 = (L155_52 s0 s1 (IntKind.wrap .i64 (s5 + 1))) := (Ln_eq _ _ _).trans (by kernel_rfl)
end Go.Proofs.YtdghkmbppfmifaaGreatDoor.Ri

namespace Go.Proofs.YtdghkmbppfmifaaGreatDoor.Ri
open Go.Proofs.YtdghkmbppfmifaaGreatDoor.Fw
open Go.RowKit
set_option linter.unusedVariables false
set_option maxRecDepth 100000
noncomputable def L156_56 (s0 : List ByteArray) (s1 : ByteArray) (s5 : Int) : Option ((List ByteArray) × Unit) := Ln 169 56 (⟨47, [(0, .ok (.ro 9 s0)), (1, .ok (.v (.string s1))), (5, .ok (.v (.int .i64 s5)))], []⟩, 0)
noncomputable def L156_15 (s0 : List ByteArray) (s1 : ByteArray) (s5 : Int) : Option ((List ByteArray) × Unit) := Ln 169 15 (⟨47, [(0, .ok (.ro 9 s0)), (1, .ok (.v (.string s1))), (5, .ok (.v (.int .i64 s5)))], []⟩, 0)
theorem E156 (x0 : List ByteArray) (x1 : ByteArray) : D156 x0 x1 = (L156_56 x0 x1 0) := (Dn_eq _ _).trans (by kernel_rfl)
theorem P156_56 (s0 : List ByteArray) (s1 : ByteArray) (s5 : Int) : L156_56 s0 s1 s5 = (gd (((decide (0 ≤ s5)) && (decide (s5 < (s0.length : Int)))) || (!(decide (s5 < (s0.length : Int))))) <| bif ((decide (s5 < (s0.length : Int))) && (ltB (nth s0 s5.toNat) s1)) then (L156_56 s0 s1 (IntKind.wrap .i64 (s5 + 1))) else L156_15 s0 s1 s5) := (Ln_eq _ _ _).trans (by kernel_rfl)
theorem P156_15 (s0 : List ByteArray) (s1 : ByteArray) (s5 : Int) : L156_15 s0 s1 s5 = (gd (((decide (0 ≤ s5)) && (decide (s5 < (s0.length : Int)))) || (!(decide (s5 < (s0.length : Int))))) <| bif ((decide (s5 < (s0.length : Int))) && (decide ((nth s0 s5.toNat) = s1))) then (some (s0, ())) else gd ((decide (0 ≤ 0)) && ((decide (0 ≤ s5)) && (decide (s5 ≤ (s0.length : Int))))) <| gd ((decide (((0 + (cutL s0 (0 : Int).toNat s5.toNat).length) * 16) ≤ 140737488355328)) && (decide ((0 + (cutL s0 (0 : Int).toNat s5.toNat).length) ≤ 9223372036854775807))) <| gd ((decide (((([] ++ (cutL s0 (0 : Int).toNat s5.toNat)).length + 1) * 16) ≤ 140737488355328)) && (decide ((([] ++ (cutL s0 (0 : Int).toNat s5.toNat)).length + 1) ≤ 9223372036854775807))) <| gd ((decide (0 ≤ s5)) && ((decide (s5 ≤ (s0.length : Int))) && (decide ((s0.length : Int) ≤ (s0.length : Int))))) <| gd ((decide ((((([] ++ (cutL s0 (0 : Int).toNat s5.toNat)) ++ [s1]).length + (cutL s0 s5.toNat (s0.length : Int).toNat).length) * 16) ≤ 140737488355328)) && (decide (((([] ++ (cutL s0 (0 : Int).toNat s5.toNat)) ++ [s1]).length + (cutL s0 s5.toNat (s0.length : Int).toNat).length) ≤ 9223372036854775807))) <| some (((([] ++ (cutL s0 (0 : Int).toNat s5.toNat)) ++ [s1]) ++ (cutL s0 s5.toNat (s0.length : Int).toNat)), ())) := (Ln_eq _ _ _).trans (by kernel_rfl)
noncomputable def L157_244 (s0 : ByteArray) (s5 : Int) (e0 : List UInt8) : Option (ByteArray × Bool × Unit) := Ln 42 244 (⟨33, [(0, .ok (.v (.string s0))), (4, .ok (.sl 0)), (5, .ok (.v (.int .i64 s5)))], [(0, .own 5 e0)]⟩, 1)
noncomputable def L157_31 (e0 : List UInt8) : Option (ByteArray × Bool × Unit) := Ln 42 31 (⟨33, [(4, .ok (.sl 0))], [(0, .own 5 e0)]⟩, 1)
theorem E157 (x0 : ByteArray) : D157 x0 = (bif (decide ((x0.size : Int) > 20000)) then (some ((tx []), (false, ()))) else L157_244 x0 0 []) := (Dn_eq _ _).trans (by kernel_rfl)
theorem P157_244 (s0 : ByteArray) (s5 : Int) (e0 : List UInt8) : L157_244 s0 s5 e0 = (bif (decide (s5 < (s0.size : Int))) then (gd ((decide (0 ≤ s5)) && (decide (s5 < (s0.size : Int)))) <| gd (!(decide (16 = 0))) <| (D163 (IntKind.wrap .i64 (Int.tdiv (IntKind.wrap .i64 ((byteAt s0 s5.toNat).toNat : Int)) 16))).bind fun y0 => gd ((decide (0 ≤ s5)) && (decide (s5 < (s0.size : Int)))) <| gd (!(decide (16 = 0))) <| (D163 (Int.tmod (IntKind.wrap .i64 ((byteAt s0 s5.toNat).toNat : Int)) 16)).bind fun y1 => gd ((decide (((e0.length + 2) * 1) ≤ 140737488355328)) && (decide ((e0.length + 2) ≤ 9223372036854775807))) <| L157_244 s0 (IntKind.wrap .i64 (s5 + 1)) (e0 ++ [(u8of (y0.1.toNat : Int)), (u8of (y1.1.toNat : Int))])) else L157_31 e0) := (Ln_eq _ _ _).trans (by kernel_rfl)
theorem P157_31 (e0 : List UInt8) : L157_31 e0 = (some ((bstr (e0.map fun x => x)), (true, ()))) := (Ln_eq _ _ _).trans (by kernel_rfl)
noncomputable def L158_116 (s0 : ByteArray) (s3 : Int) (s4 : Int) : Option (Int × Unit) := Ln 360 116 (⟨20, [(0, .ok (.v (.string s0))), (3, .ok (.v (.int .i64 s3))), (4, .ok (.v (.int .i64 s4)))], []⟩, 0)
noncomputable def L158_15 (s3 : Int) : Option (Int × Unit) := Ln 360 15 (⟨20, [(3, .ok (.v (.int .i64 s3)))], []⟩, 0)
theorem E158 (x0 : ByteArray) : D158 x0 = (L158_116 x0 7 0) := (Dn_eq _ _).trans (by kernel_rfl)
theorem P158_116 (s0 : ByteArray) (s3 : Int) (s4 : Int) : L158_116 s0 s3 s4 = (bif (decide (s4 < (s0.size : Int))) then (gd ((decide (0 ≤ s4)) && (decide (s4 < (s0.size : Int)))) <| gd (!(decide (9973 = 0))) <| L158_116 s0 (Int.tmod (IntKind.wrap .i64 ((IntKind.wrap .i64 (31 * s3)) + (IntKind.wrap .i64 ((byteAt s0 s4.toNat).toNat : Int)))) 9973) (IntKind.wrap .i64 (s4 + 1))) else L158_15 s3) := (Ln_eq _ _ _).trans (by kernel_rfl)
theorem P158_15 (s3 : Int) : L158_15 s3 = (some (s3, ())) := (Ln_eq _ _ _).trans (by kernel_rfl)
noncomputable def L159_244 (s0 : ByteArray) (s4 : Int) (s5 : Int) : Option (Int × Bool × Unit) := Ln 361 244 (⟨42, [(0, .ok (.v (.string s0))), (4, .ok (.v (.int .i64 s4))), (5, .ok (.v (.int .i64 s5)))], []⟩, 0)
noncomputable def L159_31 (s0 : ByteArray) (s4 : Int) : Option (Int × Bool × Unit) := Ln 361 31 (⟨42, [(0, .ok (.v (.string s0))), (4, .ok (.v (.int .i64 s4)))], []⟩, 0)
theorem E159 (x0 : ByteArray) : D159 x0 = (bif (decide ((x0.size : Int) > 10)) then (some (0, (false, ()))) else L159_244 x0 0 0) := (Dn_eq _ _).trans (by kernel_rfl)
theorem P159_244 (s0 : ByteArray) (s4 : Int) (s5 : Int) : L159_244 s0 s4 s5 = (bif (decide (s5 < (s0.size : Int))) then (gd ((decide (0 ≤ s5)) && (decide (s5 < (s0.size : Int)))) <| gd (((decide (0 ≤ s5)) && (decide (s5 < (s0.size : Int)))) || (!(!(decide (((byteAt s0 s5.toNat).toNat : Int) < 48))))) <| bif ((decide (((byteAt s0 s5.toNat).toNat : Int) < 48)) || (decide (((byteAt s0 s5.toNat).toNat : Int) > 57))) then (some (0, (false, ()))) else gd ((decide (0 ≤ s5)) && (decide (s5 < (s0.size : Int)))) <| L159_244 s0 (IntKind.wrap .i64 ((IntKind.wrap .i64 ((IntKind.wrap .i64 (10 * s4)) + (IntKind.wrap .i64 ((byteAt s0 s5.toNat).toNat : Int)))) - 48)) (IntKind.wrap .i64 (s5 + 1))) else L159_31 s0 s4) := (Ln_eq _ _ _).trans (by kernel_rfl)
theorem P159_31 (s0 : ByteArray) (s4 : Int) : L159_31 s0 s4 = (bif (!(decide (s4 > 1000000000))) then ((D122 s4).bind fun y0 => bif (!(decide (y0.1 = s0))) then (some (0, (false, ()))) else some (s4, (true, ()))) else some (0, (false, ()))) := (Ln_eq _ _ _).trans (by kernel_rfl)
theorem E160 (x0 : UInt8) : D160 x0 = (bif ((decide ((x0.toNat : Int) ≥ 48)) && (decide ((x0.toNat : Int) ≤ 57))) then (some ((IntKind.wrap .i64 ((IntKind.wrap .i64 (x0.toNat : Int)) - 48)), ())) else bif ((decide ((x0.toNat : Int) ≥ 97)) && (decide ((x0.toNat : Int) ≤ 102))) then (some ((IntKind.wrap .i64 ((IntKind.wrap .i64 ((IntKind.wrap .i64 (x0.toNat : Int)) - 97)) + 10)), ())) else some ((-1), ())) := (Dn_eq _ _).trans (by kernel_rfl)
noncomputable def L161_244 (s0 : ByteArray) (s1 : Int) (s6 : Int) (s7 : Int) (e0 : List ByteArray) : Option ((List ByteArray) × Unit) := Ln 363 244 (⟨36, [(0, .ok (.v (.string s0))), (1, .ok (.v (.int .u8 s1))), (5, .ok (.sl 0)), (6, .ok (.v (.int .i64 s6))), (7, .ok (.v (.int .i64 s7)))], [(0, .own 9 e0)]⟩, 1)
noncomputable def L161_31 (e0 : List ByteArray) : Option ((List ByteArray) × Unit) := Ln 363 31 (⟨36, [(5, .ok (.sl 0))], [(0, .own 9 e0)]⟩, 1)
noncomputable def L161_979 (s0 : ByteArray) (s1 : Int) (s6 : Int) (s7 : Int) (e0 : List ByteArray) : Option ((List ByteArray) × Unit) := Ln 363 979 (⟨36, [(0, .ok (.v (.string s0))), (1, .ok (.v (.int .u8 s1))), (5, .ok (.sl 0)), (6, .ok (.v (.int .i64 s6))), (7, .ok (.v (.int .i64 s7)))], [(0, .own 9 e0)]⟩, 1)
theorem E161 (x0 : ByteArray) (x1 : UInt8) : D161 x0 x1 = (L161_244 x0 (x1.toNat : Int) 0 0 []) := (Dn_eq _ _).trans (by kernel_rfl)
theorem P161_244 (s0 : ByteArray) (s1 : Int) (s6 : Int) (s7 : Int) (e0 : List ByteArray) : L161_244 s0 s1 s6 s7 e0 = (bif (decide (s7 ≤ (s0.size : Int))) then (gd (((decide (0 ≤ s7)) && (decide (s7 < (s0.size : Int)))) || (!(!(decide (s7 = (s0.size : Int)))))) <| bif ((decide (s7 = (s0.size : Int))) || (decide (((byteAt s0 s7.toNat).toNat : Int) = s1))) then (gd ((decide (0 ≤ s6)) && ((decide (s6 ≤ s7)) && (decide (s7 ≤ (s0.size : Int))))) <| gd ((decide (((e0.length + 1) * 16) ≤ 140737488355328)) && (decide ((e0.length + 1) ≤ 9223372036854775807))) <| L161_979 s0 s1 (IntKind.wrap .i64 (s7 + 1)) s7 (e0 ++ [(cutS s0 s6.toNat s7.toNat)])) else L161_979 s0 s1 s6 s7 e0) else L161_31 e0) := (Ln_eq _ _ _).trans (by kernel_rfl)
theorem P161_31 (e0 : List ByteArray) : L161_31 e0 = (some (e0, ())) := (Ln_eq _ _ _).trans (by kernel_rfl)
theorem P161_979 (s0 : ByteArray) (s1 : Int) (s6 : Int) (s7 : Int) (e0 : List ByteArray) : L161_979 s0 s1 s6 s7 e0 = (L161_244 s0 s1 s6 (IntKind.wrap .i64 (s7 + 1)) e0) := (Ln_eq _ _ _).trans (by kernel_rfl)
noncomputable def L162_500 (s0 : List Fw.Cell) (s1 : ByteArray) (s2 : ByteArray) (s8 : Bool) (s9 : Int) (e0 : List Fw.Cell) : Option ((List Fw.Cell) × Unit) := Ln 73 500 (⟨70, [(0, .ok (.ro 152 s0)), (1, .ok (.v (.string s1))), (2, .ok (.v (.string s2))), (7, .ok (.sl 0)), (8, .ok (.v (.bool s8))), (9, .ok (.v (.int .i64 s9)))], [(0, .own 152 e0)]⟩, 1)
noncomputable def L162_63 (s1 : ByteArray) (s2 : ByteArray) (s8 : Bool) (e0 : List Fw.Cell) : Option ((List Fw.Cell) × Unit) := Ln 73 63 (⟨70, [(1, .ok (.v (.string s1))), (2, .ok (.v (.string s2))), (7, .ok (.sl 0)), (8, .ok (.v (.bool s8)))], [(0, .own 152 e0)]⟩, 1)
noncomputable def L162_8009 (s0 : List Fw.Cell) (s1 : ByteArray) (s2 : ByteArray) (s8 : Bool) (s9 : Int) (e0 : List Fw.Cell) : Option ((List Fw.Cell) × Unit) := Ln 73 8009 (⟨70, [(0, .ok (.ro 152 s0)), (1, .ok (.v (.string s1))), (2, .ok (.v (.string s2))), (7, .ok (.sl 0)), (8, .ok (.v (.bool s8))), (9, .ok (.v (.int .i64 s9)))], [(0, .own 152 e0)]⟩, 1)
noncomputable def L162_127 (e0 : List Fw.Cell) : Option ((List Fw.Cell) × Unit) := Ln 73 127 (⟨70, [(7, .ok (.sl 0))], [(0, .own 152 e0)]⟩, 1)
noncomputable def L162_2003 (s0 : List Fw.Cell) (s1 : ByteArray) (s2 : ByteArray) (s8 : Bool) (s9 : Int) (e0 : List Fw.Cell) : Option ((List Fw.Cell) × Unit) := Ln 73 2003 (⟨70, [(0, .ok (.ro 152 s0)), (1, .ok (.v (.string s1))), (2, .ok (.v (.string s2))), (7, .ok (.sl 0)), (8, .ok (.v (.bool s8))), (9, .ok (.v (.int .i64 s9)))], [(0, .own 152 e0)]⟩, 1)
theorem E162 (x0 : List Fw.Cell) (x1 : ByteArray) (x2 : ByteArray) : D162 x0 x1 x2 = ((D132 x1).bind fun y0 => bif ((!y0.1) || (decide ((x2.size : Int) > 60))) then (gd ((decide (((0 + x0.length) * 32) ≤ 140737488355328)) && (decide ((0 + x0.length) ≤ 9223372036854775807))) <| some (([] ++ x0), ())) else L162_500 x0 x1 x2 (decide (x2 = (tx []))) 0 []) := (Dn_eq _ _).trans (by kernel_rfl)
theorem P162_500 (s0 : List Fw.Cell) (s1 : ByteArray) (s2 : ByteArray) (s8 : Bool) (s9 : Int) (e0 : List Fw.Cell) : L162_500 s0 s1 s2 s8 s9 e0 = (bif (decide (s9 < (s0.length : Int))) then (gd (((decide (0 ≤ s9)) && (decide (s9 < (s0.length : Int)))) || (!(!s8))) <| bif ((!s8) && (!((ltB (nth s0 s9.toNat).Key s1) || (decide ((nth s0 s9.toNat).Key = s1))))) then (gd ((decide (((e0.length + 1) * 32) ≤ 140737488355328)) && (decide ((e0.length + 1) ≤ 9223372036854775807))) <| L162_8009 s0 s1 s2 true s9 (e0 ++ [(⟨s1, s2⟩ : Fw.Cell)])) else L162_8009 s0 s1 s2 s8 s9 e0) else L162_63 s1 s2 s8 e0) := (Ln_eq _ _ _).trans (by kernel_rfl)
theorem P162_63 (s1 : ByteArray) (s2 : ByteArray) (s8 : Bool) (e0 : List Fw.Cell) : L162_63 s1 s2 s8 e0 = (bif (!s8) then (gd ((decide (((e0.length + 1) * 32) ≤ 140737488355328)) && (decide ((e0.length + 1) ≤ 9223372036854775807))) <| L162_127 (e0 ++ [(⟨s1, s2⟩ : Fw.Cell)])) else L162_127 e0) := (Ln_eq _ _ _).trans (by kernel_rfl)
theorem P162_8009 (s0 : List Fw.Cell) (s1 : ByteArray) (s2 : ByteArray) (s8 : Bool) (s9 : Int) (e0 : List Fw.Cell) : L162_8009 s0 s1 s2 s8 s9 e0 = (gd ((decide (0 ≤ s9)) && (decide (s9 < (s0.length : Int)))) <| bif (!(decide ((nth s0 s9.toNat).Key = s1))) then (gd ((decide (0 ≤ s9)) && (decide (s9 < (s0.length : Int)))) <| gd ((decide (((e0.length + 1) * 32) ≤ 140737488355328)) && (decide ((e0.length + 1) ≤ 9223372036854775807))) <| L162_2003 s0 s1 s2 s8 s9 (e0 ++ [(nth s0 s9.toNat)])) else L162_2003 s0 s1 s2 s8 s9 e0) := (Ln_eq _ _ _).trans (by kernel_rfl)
theorem P162_127 (e0 : List Fw.Cell) : L162_127 e0 = (some (e0, ())) := (Ln_eq _ _ _).trans (by kernel_rfl)
theorem P162_2003 (s0 : List Fw.Cell) (s1 : ByteArray) (s2 : ByteArray) (s8 : Bool) (s9 : Int) (e0 : List Fw.Cell) : L162_2003 s0 s1 s2 s8 s9 e0 = (L162_500 s0 s1 s2 s8 (IntKind.wrap .i64 (s9 + 1)) e0) := (Ln_eq _ _ _).trans (by kernel_rfl)
theorem E163 (x0 : Int) : D163 x0 = (bif (decide (x0 < 10)) then (some ((u8of (IntKind.wrap .u8 (IntKind.wrap .i64 (48 + x0)))), ())) else some ((u8of (IntKind.wrap .u8 (IntKind.wrap .i64 ((IntKind.wrap .i64 (97 + x0)) - 10)))), ())) := (Dn_eq _ _).trans (by kernel_rfl)
noncomputable def L164_116 (s1 : List Fw.Cell) (s8 : Int) (e0_0 : List ByteArray) (e0_1 : List ByteArray) (e1 : List Fw.Cell) : Option ((List Fw.Cell) × Unit) := Ln 364 116 (⟨34, [(1, .ok (.ro 152 s1)), (5, .ok (.pt 0 0)), (7, .ok (.sl 1)), (8, .ok (.v (.int .i64 s8)))], [(0, .var [.ro 9 e0_0, .ro 9 e0_1] 42), (1, .own 152 e1)]⟩, 2)
noncomputable def L164_15 (e0 : List Fw.Cell) : Option ((List Fw.Cell) × Unit) := Ln 364 15 (⟨34, [(7, .ok (.sl 0))], [(0, .own 152 e0)]⟩, 1)
theorem E164 (x0 : List Fw.Cell) (x1 : List Fw.Cell) (x2 : Fw.Touch) : D164 x0 x1 x2 = (gd ((decide (((0 + x0.length) * 32) ≤ 140737488355328)) && (decide ((0 + x0.length) ≤ 9223372036854775807))) <| L164_116 x1 0 x2.Reads x2.Writes ([] ++ x0)) := (Dn_eq _ _).trans (by kernel_rfl)
theorem P164_116 (s1 : List Fw.Cell) (s8 : Int) (e0_0 : List ByteArray) (e0_1 : List ByteArray) (e1 : List Fw.Cell) : L164_116 s1 s8 e0_0 e0_1 e1 = (bif (decide (s8 < (e0_1.length : Int))) then (gd ((decide (0 ≤ s8)) && (decide (s8 < (e0_1.length : Int)))) <| gd ((decide (0 ≤ s8)) && (decide (s8 < (e0_1.length : Int)))) <| (D104 s1 (nth e0_1 s8.toNat)).bind fun y0 => (D162 e1 (nth e0_1 s8.toNat) y0.1).bind fun y1 => L164_116 s1 (IntKind.wrap .i64 (s8 + 1)) e0_0 e0_1 y1.1) else L164_15 e1) := (Ln_eq _ _ _).trans (by kernel_rfl)
theorem P164_15 (e0 : List Fw.Cell) : L164_15 e0 = (some (e0, ())) := (Ln_eq _ _ _).trans (by kernel_rfl)
noncomputable def L165_52 (s0 : ByteArray) (s3 : Int) : Option (Bool × Unit) := Ln 327 52 (⟨35, [(0, .ok (.v (.string s0))), (3, .ok (.v (.int .i64 s3)))], []⟩, 0)
noncomputable def L165_7 (s0 : ByteArray) : Option (Bool × Unit) := Ln 327 7 (⟨35, [(0, .ok (.v (.string s0)))], []⟩, 0)
theorem E165 (x0 : ByteArray) : D165 x0 = (L165_52 x0 0) := (Dn_eq _ _).trans (by kernel_rfl)
theorem P165_52 (s0 : ByteArray) (s3 : Int) : L165_52 s0 s3 = (bif (decide (s3 < (s0.size : Int))) then (gd ((decide (0 ≤ s3)) && (decide (s3 < (s0.size : Int)))) <| (D27 (IntKind.wrap .i64 ((byteAt s0 s3.toNat).toNat : Int)) 97 122).bind fun y0 => bif (!y0.1) then ((D27 (IntKind.wrap .i64 ((byteAt s0 s3.toNat).toNat : Int)) 48 57).bind fun y1 => bif (((!y1.1) && (!(decide (((byteAt s0 s3.toNat).toNat : Int) = 46)))) && (!(decide (((byteAt s0 s3.toNat).toNat : Int) = 45)))) then (some (false, ())) else L165_52 s0 (IntKind.wrap .i64 (s3 + 1))) else L165_52 s0 (IntKind.wrap .i64 (s3 + 1))) else L165_7 s0) := (Ln_eq _ _ _).trans (by kernel_rfl)
theorem P165_7 (s0 : ByteArray) : L165_7 s0 = ((D27 (s0.size : Int) 1 12).bind fun y0 => some (y0.1, ())) := (Ln_eq _ _ _).trans (by kernel_rfl)
theorem E166 (x0 : Fw.Mach) (x1 : ByteArray) : D166 x0 x1 = ((D165 x1).bind fun y0 => bif (!y0.1) then (some (x0, (0, ()))) else gd (decide (((tx [110, 47]).size + x1.size) ≤ 9223372036854775807)) <| (D88 x0 ((tx [110, 47]) ++ x1)).bind fun y1 => some (y1.1, (y1.2.1, ()))) := (Dn_eq _ _).trans (by kernel_rfl)
noncomputable def L167_116 (s6 : Int) (e1 : List Fw.Cell) (e2 : List ByteArray) (e3 : List ByteArray) (e5 : List ByteArray) : Option (Fw.Mach × Unit) := Ln 330 116 (⟨26, [(2, .ok (.pt 0 0)), (4, .ok (.pt 4 0)), (5, .ok (.sl 5)), (6, .ok (.v (.int .i64 s6)))], [(0, .var [.sl 1, .sl 2, .sl 3] 160), (1, .own 152 e1), (2, .own 9 e2), (3, .own 9 e3), (4, .var [.v (.slice none 0 0), .v (.slice none 0 0), .v (.slice none 0 0)] 160), (5, .own 9 e5)]⟩, 6)
noncomputable def L167_15 (e1 : List Fw.Cell) (e2 : List ByteArray) (e3 : List ByteArray) : Option (Fw.Mach × Unit) := Ln 330 15 (⟨26, [(2, .ok (.pt 0 0)), (4, .ok (.pt 4 0))], [(0, .var [.sl 1, .sl 2, .sl 3] 160), (1, .own 152 e1), (2, .own 9 e2), (3, .own 9 e3), (4, .var [.v (.slice none 0 0), .v (.slice none 0 0), .v (.slice none 0 0)] 160)]⟩, 5)
theorem E167 (x0 : Fw.Mach) (x1 : ByteArray) : D167 x0 x1 = ((D177 x0 x1).bind fun y0 => L167_116 0 y0.1.Store y0.1.Touch.Reads y0.1.Touch.Writes y0.2.1) := (Dn_eq _ _).trans (by kernel_rfl)
theorem P167_116 (s6 : Int) (e1 : List Fw.Cell) (e2 : List ByteArray) (e3 : List ByteArray) (e5 : List ByteArray) : L167_116 s6 e1 e2 e3 e5 = (bif (decide (s6 < (e5.length : Int))) then (gd ((decide (0 ≤ s6)) && (decide (s6 < (e5.length : Int)))) <| (D131 (⟨e1, (⟨e2, e3⟩ : Fw.Touch)⟩ : Fw.Mach) (nth e5 s6.toNat) (tx [])).bind fun y0 => L167_116 (IntKind.wrap .i64 (s6 + 1)) y0.1.Store y0.1.Touch.Reads y0.1.Touch.Writes e5) else L167_15 e1 e2 e3) := (Ln_eq _ _ _).trans (by kernel_rfl)
theorem P167_15 (e1 : List Fw.Cell) (e2 : List ByteArray) (e3 : List ByteArray) : L167_15 e1 e2 e3 = (some ((⟨e1, (⟨e2, e3⟩ : Fw.Touch)⟩ : Fw.Mach), ())) := (Ln_eq _ _ _).trans (by kernel_rfl)
noncomputable def L168_244 (s6 : Int) (e1 : List Fw.Cell) (e2 : List ByteArray) (e3 : List ByteArray) (e5 : List ByteArray) (e6 : List ByteArray) : Option (Fw.Mach × (List ByteArray) × Unit) := Ln 331 244 (⟨29, [(1, .ok (.pt 0 0)), (2, .ok (.pt 4 0)), (4, .ok (.sl 5)), (5, .ok (.sl 6)), (6, .ok (.v (.int .i64 s6)))], [(0, .var [.sl 1, .sl 2, .sl 3] 160), (1, .own 152 e1), (2, .own 9 e2), (3, .own 9 e3), (4, .var [.v (.slice none 0 0), .v (.slice none 0 0), .v (.slice none 0 0)] 160), (5, .own 9 e5), (6, .own 9 e6)]⟩, 7)
noncomputable def L168_31 (e1 : List Fw.Cell) (e2 : List ByteArray) (e3 : List ByteArray) (e5 : List ByteArray) : Option (Fw.Mach × (List ByteArray) × Unit) := Ln 331 31 (⟨29, [(1, .ok (.pt 0 0)), (2, .ok (.pt 4 0)), (5, .ok (.sl 5))], [(0, .var [.sl 1, .sl 2, .sl 3] 160), (1, .own 152 e1), (2, .own 9 e2), (3, .own 9 e3), (4, .var [.v (.slice none 0 0), .v (.slice none 0 0), .v (.slice none 0 0)] 160), (5, .own 9 e5)]⟩, 6)
theorem E168 (x0 : Fw.Mach) : D168 x0 = ((D177 x0 (tx [110, 47])).bind fun y0 => L168_244 0 y0.1.Store y0.1.Touch.Reads y0.1.Touch.Writes y0.2.1 []) := (Dn_eq _ _).trans (by kernel_rfl)
theorem P168_244 (s6 : Int) (e1 : List Fw.Cell) (e2 : List ByteArray) (e3 : List ByteArray) (e5 : List ByteArray) (e6 : List ByteArray) : L168_244 s6 e1 e2 e3 e5 e6 = (bif (decide (s6 < (e5.length : Int))) then (gd ((decide (0 ≤ s6)) && (decide (s6 < (e5.length : Int)))) <| gd ((decide (0 ≤ 2)) && ((decide (2 ≤ ((nth e5 s6.toNat).size : Int))) && (decide (((nth e5 s6.toNat).size : Int) ≤ ((nth e5 s6.toNat).size : Int))))) <| gd ((decide (((e6.length + 1) * 16) ≤ 140737488355328)) && (decide ((e6.length + 1) ≤ 9223372036854775807))) <| L168_244 (IntKind.wrap .i64 (s6 + 1)) e1 e2 e3 e5 (e6 ++ [(cutS (nth e5 s6.toNat) (2 : Int).toNat ((nth e5 s6.toNat).size : Int).toNat)])) else L168_31 e1 e2 e3 e6) := (Ln_eq _ _ _).trans (by kernel_rfl)
theorem P168_31 (e1 : List Fw.Cell) (e2 : List ByteArray) (e3 : List ByteArray) (e5 : List ByteArray) : L168_31 e1 e2 e3 e5 = (some ((⟨e1, (⟨e2, e3⟩ : Fw.Touch)⟩ : Fw.Mach), (e5, ()))) := (Ln_eq _ _ _).trans (by kernel_rfl)
end Go.Proofs.YtdghkmbppfmifaaGreatDoor.Ri
