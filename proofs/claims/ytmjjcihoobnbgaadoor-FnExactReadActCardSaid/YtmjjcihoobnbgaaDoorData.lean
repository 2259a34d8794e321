/-
  The program's data as Lean data, and how each struct reads off cells. No condition. By program (wip/gen/structs.py).
-/
import Derived.Test.YtmjjcihoobnbgaaDoorFw
namespace Go.Proofs.YtmjjcihoobnbgaaDoor.Fw

structure Cell where
  Key : ByteArray
  Val : ByteArray
  deriving Inhabited, DecidableEq
instance : Dat Cell := Dat.pull fun x => (x.Key, x.Val)
theorem Cell_open {B : Nat → Prop} {w : World} {cs : List Value} {x : Cell} (h : Dat.rd B w cs x) : cs = [.string x.Key, .string x.Val] ∧ x.Key.size ≤ maxLen ∧ x.Val.size ≤ maxLen ∧ True := by
  obtain ⟨c0, d0, rfl, ⟨rfl, h_Key⟩, ⟨rfl, h_Val⟩⟩ := h
  exact ⟨rfl, h_Key, h_Val, trivial⟩
theorem Cell_mk {B : Nat → Prop} {w : World} {x : Cell}  (h0 : x.Key.size ≤ maxLen) (h1 : x.Val.size ≤ maxLen) : Dat.rd B w [.string x.Key, .string x.Val] x := by
  exact ⟨[.string x.Key], _, rfl, ⟨rfl, h0⟩, ⟨rfl, h1⟩⟩
theorem Cell_own {w : World} {x : Cell}  (h0 : x.Key.size ≤ maxLen) (h1 : x.Val.size ≤ maxLen) : Dat.own w [.string x.Key, .string x.Val] x [] := by
  exact ⟨[.string x.Key], _, [], _, rfl, rfl, ⟨⟨rfl, h0⟩, rfl⟩, ⟨⟨rfl, h1⟩, rfl⟩⟩

theorem Cell_oopen {w : World} {cs : List Value} {x : Cell} {F : List Nat} (h : Dat.own w cs x F) : cs = [.string x.Key, .string x.Val] ∧ F = [] ∧ x.Key.size ≤ maxLen ∧ x.Val.size ≤ maxLen ∧ True := by
  obtain ⟨c0, d0, G0, H0, rfl, rfl, ⟨⟨rfl, h_Key⟩, rfl⟩, ⟨⟨rfl, h_Val⟩, rfl⟩⟩ := h
  exact ⟨rfl, (by first | rfl | simp), h_Key, h_Val, trivial⟩

structure Touch where
  Reads : List ByteArray
  Writes : List ByteArray
  deriving Inhabited, DecidableEq
instance : Dat Touch := Dat.pull fun x => (x.Reads, x.Writes)
theorem Touch_open {B : Nat → Prop} {w : World} {cs : List Value} {x : Touch} (h : Dat.rd B w cs x) : ∃ v_Reads v_Writes : Value, cs = [v_Reads, v_Writes] ∧ SlR B w v_Reads x.Reads ∧ SlR B w v_Writes x.Writes ∧ True := by
  obtain ⟨c0, d0, rfl, ⟨v_Reads, rfl, h_Reads⟩, ⟨v_Writes, rfl, h_Writes⟩⟩ := h
  exact ⟨v_Reads, v_Writes, rfl, h_Reads, h_Writes, trivial⟩
theorem Touch_mk {B : Nat → Prop} {w : World} {x : Touch} {v_Reads : Value} {v_Writes : Value} (h0 : SlR B w v_Reads x.Reads) (h1 : SlR B w v_Writes x.Writes) : Dat.rd B w [v_Reads, v_Writes] x := by
  exact ⟨[v_Reads], _, rfl, ⟨_, rfl, h0⟩, ⟨_, rfl, h1⟩⟩
theorem Touch_own {w : World} {x : Touch} {v_Reads : Value} {F_Reads : List Nat} {v_Writes : Value} {F_Writes : List Nat} (h0 : SlO w v_Reads x.Reads F_Reads) (h1 : SlO w v_Writes x.Writes F_Writes) : Dat.own w [v_Reads, v_Writes] x (F_Reads ++ F_Writes) := by
  exact ⟨[v_Reads], _, F_Reads, _, rfl, rfl, ⟨_, rfl, h0⟩, ⟨_, rfl, h1⟩⟩

theorem Touch_oopen {w : World} {cs : List Value} {x : Touch} {F : List Nat} (h : Dat.own w cs x F) : ∃ (v_Reads : Value) (F_Reads : List Nat) (v_Writes : Value) (F_Writes : List Nat), cs = [v_Reads, v_Writes] ∧ F = (F_Reads ++ F_Writes) ∧ SlO w v_Reads x.Reads F_Reads ∧ SlO w v_Writes x.Writes F_Writes ∧ True := by
  obtain ⟨c0, d0, G0, H0, rfl, rfl, ⟨v_Reads, rfl, h_Reads⟩, ⟨v_Writes, rfl, h_Writes⟩⟩ := h
  exact ⟨v_Reads, G0, v_Writes, H0, rfl, (by first | rfl | simp), h_Reads, h_Writes, trivial⟩

structure Mach where
  Store : List Cell
  Touch : Touch
  deriving Inhabited, DecidableEq
instance : Dat Mach := Dat.pull fun x => (x.Store, x.Touch)
theorem Mach_open {B : Nat → Prop} {w : World} {cs : List Value} {x : Mach} (h : Dat.rd B w cs x) : ∃ v_Store v_Touch_Reads v_Touch_Writes : Value, cs = [v_Store, v_Touch_Reads, v_Touch_Writes] ∧ SlR B w v_Store x.Store ∧ SlR B w v_Touch_Reads x.Touch.Reads ∧ SlR B w v_Touch_Writes x.Touch.Writes ∧ True := by
  obtain ⟨c0, d0, rfl, ⟨v_Store, rfl, h_Store⟩, h_Touch⟩ := h
  obtain ⟨v_Touch_Reads, v_Touch_Writes, rfl, h_v_Touch_Reads, h_v_Touch_Writes, _⟩ := Touch_open h_Touch
  exact ⟨v_Store, v_Touch_Reads, v_Touch_Writes, rfl, h_Store, h_v_Touch_Reads, h_v_Touch_Writes, trivial⟩
theorem Mach_mk {B : Nat → Prop} {w : World} {x : Mach} {v_Store : Value} {v_Touch_Reads : Value} {v_Touch_Writes : Value} (h0 : SlR B w v_Store x.Store) (h1 : SlR B w v_Touch_Reads x.Touch.Reads) (h2 : SlR B w v_Touch_Writes x.Touch.Writes) : Dat.rd B w [v_Store, v_Touch_Reads, v_Touch_Writes] x := by
  exact ⟨[v_Store], _, rfl, ⟨_, rfl, h0⟩, (Touch_mk h1 h2)⟩
theorem Mach_own {w : World} {x : Mach} {v_Store : Value} {F_Store : List Nat} {v_Touch_Reads : Value} {F_Touch_Reads : List Nat} {v_Touch_Writes : Value} {F_Touch_Writes : List Nat} (h0 : SlO w v_Store x.Store F_Store) (h1 : SlO w v_Touch_Reads x.Touch.Reads F_Touch_Reads) (h2 : SlO w v_Touch_Writes x.Touch.Writes F_Touch_Writes) : Dat.own w [v_Store, v_Touch_Reads, v_Touch_Writes] x (F_Store ++ (F_Touch_Reads ++ F_Touch_Writes)) := by
  exact ⟨[v_Store], _, F_Store, _, rfl, rfl, ⟨_, rfl, h0⟩, (Touch_own h1 h2)⟩

theorem Mach_oopen {w : World} {cs : List Value} {x : Mach} {F : List Nat} (h : Dat.own w cs x F) : ∃ (v_Store : Value) (F_Store : List Nat) (v_Touch_Reads : Value) (F_Touch_Reads : List Nat) (v_Touch_Writes : Value) (F_Touch_Writes : List Nat), cs = [v_Store, v_Touch_Reads, v_Touch_Writes] ∧ F = (F_Store ++ (F_Touch_Reads ++ F_Touch_Writes)) ∧ SlO w v_Store x.Store F_Store ∧ SlO w v_Touch_Reads x.Touch.Reads F_Touch_Reads ∧ SlO w v_Touch_Writes x.Touch.Writes F_Touch_Writes ∧ True := by
  obtain ⟨c0, d0, G0, H0, rfl, rfl, ⟨v_Store, rfl, h_Store⟩, o_Touch⟩ := h
  obtain ⟨v_Touch_Reads, F_Touch_Reads, v_Touch_Writes, F_Touch_Writes, rfl, rfl, h_v_Touch_Reads, h_v_Touch_Writes, _⟩ := Touch_oopen o_Touch
  exact ⟨v_Store, G0, v_Touch_Reads, F_Touch_Reads, v_Touch_Writes, F_Touch_Writes, rfl, (by first | rfl | simp), h_Store, h_v_Touch_Reads, h_v_Touch_Writes, trivial⟩

structure Call where
  Kind : Int
  Name : ByteArray
  To : ByteArray
  A : Int
  B : Int
  Text : ByteArray
  deriving Inhabited, DecidableEq
instance : Dat Call := Dat.pull fun x => (x.Kind, x.Name, x.To, x.A, x.B, x.Text)
theorem Call_open {B : Nat → Prop} {w : World} {cs : List Value} {x : Call} (h : Dat.rd B w cs x) : cs = [.int .i64 x.Kind, .string x.Name, .string x.To, .int .i64 x.A, .int .i64 x.B, .string x.Text] ∧ I64 x.Kind ∧ x.Name.size ≤ maxLen ∧ x.To.size ≤ maxLen ∧ I64 x.A ∧ I64 x.B ∧ x.Text.size ≤ maxLen ∧ True := by
  obtain ⟨c0, d0, rfl, ⟨rfl, h_Kind⟩, ⟨c1, d1, rfl, ⟨rfl, h_Name⟩, ⟨c2, d2, rfl, ⟨rfl, h_To⟩, ⟨c3, d3, rfl, ⟨rfl, h_A⟩, ⟨c4, d4, rfl, ⟨rfl, h_B⟩, ⟨rfl, h_Text⟩⟩⟩⟩⟩⟩ := h
  exact ⟨rfl, h_Kind, h_Name, h_To, h_A, h_B, h_Text, trivial⟩
theorem Call_mk {B : Nat → Prop} {w : World} {x : Call}  (h0 : I64 x.Kind) (h1 : x.Name.size ≤ maxLen) (h2 : x.To.size ≤ maxLen) (h3 : I64 x.A) (h4 : I64 x.B) (h5 : x.Text.size ≤ maxLen) : Dat.rd B w [.int .i64 x.Kind, .string x.Name, .string x.To, .int .i64 x.A, .int .i64 x.B, .string x.Text] x := by
  exact ⟨[.int .i64 x.Kind], _, rfl, ⟨rfl, h0⟩, ⟨[.string x.Name], _, rfl, ⟨rfl, h1⟩, ⟨[.string x.To], _, rfl, ⟨rfl, h2⟩, ⟨[.int .i64 x.A], _, rfl, ⟨rfl, h3⟩, ⟨[.int .i64 x.B], _, rfl, ⟨rfl, h4⟩, ⟨rfl, h5⟩⟩⟩⟩⟩⟩
theorem Call_own {w : World} {x : Call}  (h0 : I64 x.Kind) (h1 : x.Name.size ≤ maxLen) (h2 : x.To.size ≤ maxLen) (h3 : I64 x.A) (h4 : I64 x.B) (h5 : x.Text.size ≤ maxLen) : Dat.own w [.int .i64 x.Kind, .string x.Name, .string x.To, .int .i64 x.A, .int .i64 x.B, .string x.Text] x [] := by
  exact ⟨[.int .i64 x.Kind], _, [], _, rfl, rfl, ⟨⟨rfl, h0⟩, rfl⟩, ⟨[.string x.Name], _, [], _, rfl, rfl, ⟨⟨rfl, h1⟩, rfl⟩, ⟨[.string x.To], _, [], _, rfl, rfl, ⟨⟨rfl, h2⟩, rfl⟩, ⟨[.int .i64 x.A], _, [], _, rfl, rfl, ⟨⟨rfl, h3⟩, rfl⟩, ⟨[.int .i64 x.B], _, [], _, rfl, rfl, ⟨⟨rfl, h4⟩, rfl⟩, ⟨⟨rfl, h5⟩, rfl⟩⟩⟩⟩⟩⟩

theorem Call_oopen {w : World} {cs : List Value} {x : Call} {F : List Nat} (h : Dat.own w cs x F) : cs = [.int .i64 x.Kind, .string x.Name, .string x.To, .int .i64 x.A, .int .i64 x.B, .string x.Text] ∧ F = [] ∧ I64 x.Kind ∧ x.Name.size ≤ maxLen ∧ x.To.size ≤ maxLen ∧ I64 x.A ∧ I64 x.B ∧ x.Text.size ≤ maxLen ∧ True := by
  obtain ⟨c0, d0, G0, H0, rfl, rfl, ⟨⟨rfl, h_Kind⟩, rfl⟩, ⟨c1, d1, G1, H1, rfl, rfl, ⟨⟨rfl, h_Name⟩, rfl⟩, ⟨c2, d2, G2, H2, rfl, rfl, ⟨⟨rfl, h_To⟩, rfl⟩, ⟨c3, d3, G3, H3, rfl, rfl, ⟨⟨rfl, h_A⟩, rfl⟩, ⟨c4, d4, G4, H4, rfl, rfl, ⟨⟨rfl, h_B⟩, rfl⟩, ⟨⟨rfl, h_Text⟩, rfl⟩⟩⟩⟩⟩⟩ := h
  exact ⟨rfl, (by first | rfl | simp), h_Kind, h_Name, h_To, h_A, h_B, h_Text, trivial⟩

structure Answer where
  Code : Int
  N : Int
  Text : ByteArray
  deriving Inhabited, DecidableEq
instance : Dat Answer := Dat.pull fun x => (x.Code, x.N, x.Text)
theorem Answer_open {B : Nat → Prop} {w : World} {cs : List Value} {x : Answer} (h : Dat.rd B w cs x) : cs = [.int .i64 x.Code, .int .i64 x.N, .string x.Text] ∧ I64 x.Code ∧ I64 x.N ∧ x.Text.size ≤ maxLen ∧ True := by
  obtain ⟨c0, d0, rfl, ⟨rfl, h_Code⟩, ⟨c1, d1, rfl, ⟨rfl, h_N⟩, ⟨rfl, h_Text⟩⟩⟩ := h
  exact ⟨rfl, h_Code, h_N, h_Text, trivial⟩
theorem Answer_mk {B : Nat → Prop} {w : World} {x : Answer}  (h0 : I64 x.Code) (h1 : I64 x.N) (h2 : x.Text.size ≤ maxLen) : Dat.rd B w [.int .i64 x.Code, .int .i64 x.N, .string x.Text] x := by
  exact ⟨[.int .i64 x.Code], _, rfl, ⟨rfl, h0⟩, ⟨[.int .i64 x.N], _, rfl, ⟨rfl, h1⟩, ⟨rfl, h2⟩⟩⟩
theorem Answer_own {w : World} {x : Answer}  (h0 : I64 x.Code) (h1 : I64 x.N) (h2 : x.Text.size ≤ maxLen) : Dat.own w [.int .i64 x.Code, .int .i64 x.N, .string x.Text] x [] := by
  exact ⟨[.int .i64 x.Code], _, [], _, rfl, rfl, ⟨⟨rfl, h0⟩, rfl⟩, ⟨[.int .i64 x.N], _, [], _, rfl, rfl, ⟨⟨rfl, h1⟩, rfl⟩, ⟨⟨rfl, h2⟩, rfl⟩⟩⟩

theorem Answer_oopen {w : World} {cs : List Value} {x : Answer} {F : List Nat} (h : Dat.own w cs x F) : cs = [.int .i64 x.Code, .int .i64 x.N, .string x.Text] ∧ F = [] ∧ I64 x.Code ∧ I64 x.N ∧ x.Text.size ≤ maxLen ∧ True := by
  obtain ⟨c0, d0, G0, H0, rfl, rfl, ⟨⟨rfl, h_Code⟩, rfl⟩, ⟨c1, d1, G1, H1, rfl, rfl, ⟨⟨rfl, h_N⟩, rfl⟩, ⟨⟨rfl, h_Text⟩, rfl⟩⟩⟩ := h
  exact ⟨rfl, (by first | rfl | simp), h_Code, h_N, h_Text, trivial⟩

structure Step where
  Proc : Int
  Call : Call
  deriving Inhabited, DecidableEq
instance : Dat Step := Dat.pull fun x => (x.Proc, x.Call)
theorem Step_open {B : Nat → Prop} {w : World} {cs : List Value} {x : Step} (h : Dat.rd B w cs x) : cs = [.int .i64 x.Proc, .int .i64 x.Call.Kind, .string x.Call.Name, .string x.Call.To, .int .i64 x.Call.A, .int .i64 x.Call.B, .string x.Call.Text] ∧ I64 x.Proc ∧ I64 x.Call.Kind ∧ x.Call.Name.size ≤ maxLen ∧ x.Call.To.size ≤ maxLen ∧ I64 x.Call.A ∧ I64 x.Call.B ∧ x.Call.Text.size ≤ maxLen ∧ True := by
  obtain ⟨c0, d0, rfl, ⟨rfl, h_Proc⟩, h_Call⟩ := h
  obtain ⟨rfl, h_v_Call_Kind, h_v_Call_Name, h_v_Call_To, h_v_Call_A, h_v_Call_B, h_v_Call_Text, _⟩ := Call_open h_Call
  exact ⟨rfl, h_Proc, h_v_Call_Kind, h_v_Call_Name, h_v_Call_To, h_v_Call_A, h_v_Call_B, h_v_Call_Text, trivial⟩
theorem Step_mk {B : Nat → Prop} {w : World} {x : Step}  (h0 : I64 x.Proc) (h1 : I64 x.Call.Kind) (h2 : x.Call.Name.size ≤ maxLen) (h3 : x.Call.To.size ≤ maxLen) (h4 : I64 x.Call.A) (h5 : I64 x.Call.B) (h6 : x.Call.Text.size ≤ maxLen) : Dat.rd B w [.int .i64 x.Proc, .int .i64 x.Call.Kind, .string x.Call.Name, .string x.Call.To, .int .i64 x.Call.A, .int .i64 x.Call.B, .string x.Call.Text] x := by
  exact ⟨[.int .i64 x.Proc], _, rfl, ⟨rfl, h0⟩, (Call_mk h1 h2 h3 h4 h5 h6)⟩
theorem Step_own {w : World} {x : Step}  (h0 : I64 x.Proc) (h1 : I64 x.Call.Kind) (h2 : x.Call.Name.size ≤ maxLen) (h3 : x.Call.To.size ≤ maxLen) (h4 : I64 x.Call.A) (h5 : I64 x.Call.B) (h6 : x.Call.Text.size ≤ maxLen) : Dat.own w [.int .i64 x.Proc, .int .i64 x.Call.Kind, .string x.Call.Name, .string x.Call.To, .int .i64 x.Call.A, .int .i64 x.Call.B, .string x.Call.Text] x [] := by
  exact ⟨[.int .i64 x.Proc], _, [], _, rfl, rfl, ⟨⟨rfl, h0⟩, rfl⟩, (Call_own h1 h2 h3 h4 h5 h6)⟩

theorem Step_oopen {w : World} {cs : List Value} {x : Step} {F : List Nat} (h : Dat.own w cs x F) : cs = [.int .i64 x.Proc, .int .i64 x.Call.Kind, .string x.Call.Name, .string x.Call.To, .int .i64 x.Call.A, .int .i64 x.Call.B, .string x.Call.Text] ∧ F = [] ∧ I64 x.Proc ∧ I64 x.Call.Kind ∧ x.Call.Name.size ≤ maxLen ∧ x.Call.To.size ≤ maxLen ∧ I64 x.Call.A ∧ I64 x.Call.B ∧ x.Call.Text.size ≤ maxLen ∧ True := by
  obtain ⟨c0, d0, G0, H0, rfl, rfl, ⟨⟨rfl, h_Proc⟩, rfl⟩, o_Call⟩ := h
  obtain ⟨rfl, rfl, h_v_Call_Kind, h_v_Call_Name, h_v_Call_To, h_v_Call_A, h_v_Call_B, h_v_Call_Text, _⟩ := Call_oopen o_Call
  exact ⟨rfl, (by first | rfl | simp), h_Proc, h_v_Call_Kind, h_v_Call_Name, h_v_Call_To, h_v_Call_A, h_v_Call_B, h_v_Call_Text, trivial⟩

structure Tx where
  Id : Int
  Age : Int
  Proc : Int
  Began : Int
  Calls : List Call
  Answers : List Answer
  Touch : Touch
  Marks : List Int
  State : Int
  deriving Inhabited, DecidableEq
instance : Dat Tx := Dat.pull fun x => (x.Id, x.Age, x.Proc, x.Began, x.Calls, x.Answers, x.Touch, x.Marks, x.State)
theorem Tx_open {B : Nat → Prop} {w : World} {cs : List Value} {x : Tx} (h : Dat.rd B w cs x) : ∃ v_Calls v_Answers v_Touch_Reads v_Touch_Writes v_Marks : Value, cs = [.int .i64 x.Id, .int .i64 x.Age, .int .i64 x.Proc, .int .i64 x.Began, v_Calls, v_Answers, v_Touch_Reads, v_Touch_Writes, v_Marks, .int .i64 x.State] ∧ I64 x.Id ∧ I64 x.Age ∧ I64 x.Proc ∧ I64 x.Began ∧ SlR B w v_Calls x.Calls ∧ SlR B w v_Answers x.Answers ∧ SlR B w v_Touch_Reads x.Touch.Reads ∧ SlR B w v_Touch_Writes x.Touch.Writes ∧ SlR B w v_Marks x.Marks ∧ I64 x.State ∧ True := by
  obtain ⟨c0, d0, rfl, ⟨rfl, h_Id⟩, ⟨c1, d1, rfl, ⟨rfl, h_Age⟩, ⟨c2, d2, rfl, ⟨rfl, h_Proc⟩, ⟨c3, d3, rfl, ⟨rfl, h_Began⟩, ⟨c4, d4, rfl, ⟨v_Calls, rfl, h_Calls⟩, ⟨c5, d5, rfl, ⟨v_Answers, rfl, h_Answers⟩, ⟨c6, d6, rfl, h_Touch, ⟨c7, d7, rfl, ⟨v_Marks, rfl, h_Marks⟩, ⟨rfl, h_State⟩⟩⟩⟩⟩⟩⟩⟩⟩ := h
  obtain ⟨v_Touch_Reads, v_Touch_Writes, rfl, h_v_Touch_Reads, h_v_Touch_Writes, _⟩ := Touch_open h_Touch
  exact ⟨v_Calls, v_Answers, v_Touch_Reads, v_Touch_Writes, v_Marks, rfl, h_Id, h_Age, h_Proc, h_Began, h_Calls, h_Answers, h_v_Touch_Reads, h_v_Touch_Writes, h_Marks, h_State, trivial⟩
theorem Tx_mk {B : Nat → Prop} {w : World} {x : Tx} {v_Calls : Value} {v_Answers : Value} {v_Touch_Reads : Value} {v_Touch_Writes : Value} {v_Marks : Value} (h0 : I64 x.Id) (h1 : I64 x.Age) (h2 : I64 x.Proc) (h3 : I64 x.Began) (h4 : SlR B w v_Calls x.Calls) (h5 : SlR B w v_Answers x.Answers) (h6 : SlR B w v_Touch_Reads x.Touch.Reads) (h7 : SlR B w v_Touch_Writes x.Touch.Writes) (h8 : SlR B w v_Marks x.Marks) (h9 : I64 x.State) : Dat.rd B w [.int .i64 x.Id, .int .i64 x.Age, .int .i64 x.Proc, .int .i64 x.Began, v_Calls, v_Answers, v_Touch_Reads, v_Touch_Writes, v_Marks, .int .i64 x.State] x := by
  exact ⟨[.int .i64 x.Id], _, rfl, ⟨rfl, h0⟩, ⟨[.int .i64 x.Age], _, rfl, ⟨rfl, h1⟩, ⟨[.int .i64 x.Proc], _, rfl, ⟨rfl, h2⟩, ⟨[.int .i64 x.Began], _, rfl, ⟨rfl, h3⟩, ⟨[v_Calls], _, rfl, ⟨_, rfl, h4⟩, ⟨[v_Answers], _, rfl, ⟨_, rfl, h5⟩, ⟨[v_Touch_Reads, v_Touch_Writes], _, rfl, (Touch_mk h6 h7), ⟨[v_Marks], _, rfl, ⟨_, rfl, h8⟩, ⟨rfl, h9⟩⟩⟩⟩⟩⟩⟩⟩⟩
theorem Tx_own {w : World} {x : Tx} {v_Calls : Value} {F_Calls : List Nat} {v_Answers : Value} {F_Answers : List Nat} {v_Touch_Reads : Value} {F_Touch_Reads : List Nat} {v_Touch_Writes : Value} {F_Touch_Writes : List Nat} {v_Marks : Value} {F_Marks : List Nat} (h0 : I64 x.Id) (h1 : I64 x.Age) (h2 : I64 x.Proc) (h3 : I64 x.Began) (h4 : SlO w v_Calls x.Calls F_Calls) (h5 : SlO w v_Answers x.Answers F_Answers) (h6 : SlO w v_Touch_Reads x.Touch.Reads F_Touch_Reads) (h7 : SlO w v_Touch_Writes x.Touch.Writes F_Touch_Writes) (h8 : SlO w v_Marks x.Marks F_Marks) (h9 : I64 x.State) : Dat.own w [.int .i64 x.Id, .int .i64 x.Age, .int .i64 x.Proc, .int .i64 x.Began, v_Calls, v_Answers, v_Touch_Reads, v_Touch_Writes, v_Marks, .int .i64 x.State] x (F_Calls ++ (F_Answers ++ ((F_Touch_Reads ++ F_Touch_Writes) ++ (F_Marks ++ [])))) := by
  exact ⟨[.int .i64 x.Id], _, [], _, rfl, rfl, ⟨⟨rfl, h0⟩, rfl⟩, ⟨[.int .i64 x.Age], _, [], _, rfl, rfl, ⟨⟨rfl, h1⟩, rfl⟩, ⟨[.int .i64 x.Proc], _, [], _, rfl, rfl, ⟨⟨rfl, h2⟩, rfl⟩, ⟨[.int .i64 x.Began], _, [], _, rfl, rfl, ⟨⟨rfl, h3⟩, rfl⟩, ⟨[v_Calls], _, F_Calls, _, rfl, rfl, ⟨_, rfl, h4⟩, ⟨[v_Answers], _, F_Answers, _, rfl, rfl, ⟨_, rfl, h5⟩, ⟨[v_Touch_Reads, v_Touch_Writes], _, (F_Touch_Reads ++ F_Touch_Writes), _, rfl, rfl, (Touch_own h6 h7), ⟨[v_Marks], _, F_Marks, _, rfl, rfl, ⟨_, rfl, h8⟩, ⟨⟨rfl, h9⟩, rfl⟩⟩⟩⟩⟩⟩⟩⟩⟩

theorem Tx_oopen {w : World} {cs : List Value} {x : Tx} {F : List Nat} (h : Dat.own w cs x F) : ∃ (v_Calls : Value) (F_Calls : List Nat) (v_Answers : Value) (F_Answers : List Nat) (v_Touch_Reads : Value) (F_Touch_Reads : List Nat) (v_Touch_Writes : Value) (F_Touch_Writes : List Nat) (v_Marks : Value) (F_Marks : List Nat), cs = [.int .i64 x.Id, .int .i64 x.Age, .int .i64 x.Proc, .int .i64 x.Began, v_Calls, v_Answers, v_Touch_Reads, v_Touch_Writes, v_Marks, .int .i64 x.State] ∧ F = (F_Calls ++ (F_Answers ++ ((F_Touch_Reads ++ F_Touch_Writes) ++ (F_Marks ++ [])))) ∧ I64 x.Id ∧ I64 x.Age ∧ I64 x.Proc ∧ I64 x.Began ∧ SlO w v_Calls x.Calls F_Calls ∧ SlO w v_Answers x.Answers F_Answers ∧ SlO w v_Touch_Reads x.Touch.Reads F_Touch_Reads ∧ SlO w v_Touch_Writes x.Touch.Writes F_Touch_Writes ∧ SlO w v_Marks x.Marks F_Marks ∧ I64 x.State ∧ True := by
  obtain ⟨c0, d0, G0, H0, rfl, rfl, ⟨⟨rfl, h_Id⟩, rfl⟩, ⟨c1, d1, G1, H1, rfl, rfl, ⟨⟨rfl, h_Age⟩, rfl⟩, ⟨c2, d2, G2, H2, rfl, rfl, ⟨⟨rfl, h_Proc⟩, rfl⟩, ⟨c3, d3, G3, H3, rfl, rfl, ⟨⟨rfl, h_Began⟩, rfl⟩, ⟨c4, d4, G4, H4, rfl, rfl, ⟨v_Calls, rfl, h_Calls⟩, ⟨c5, d5, G5, H5, rfl, rfl, ⟨v_Answers, rfl, h_Answers⟩, ⟨c6, d6, G6, H6, rfl, rfl, o_Touch, ⟨c7, d7, G7, H7, rfl, rfl, ⟨v_Marks, rfl, h_Marks⟩, ⟨⟨rfl, h_State⟩, rfl⟩⟩⟩⟩⟩⟩⟩⟩⟩ := h
  obtain ⟨v_Touch_Reads, F_Touch_Reads, v_Touch_Writes, F_Touch_Writes, rfl, rfl, h_v_Touch_Reads, h_v_Touch_Writes, _⟩ := Touch_oopen o_Touch
  exact ⟨v_Calls, G4, v_Answers, G5, v_Touch_Reads, F_Touch_Reads, v_Touch_Writes, F_Touch_Writes, v_Marks, G7, rfl, (by first | rfl | simp), h_Id, h_Age, h_Proc, h_Began, h_Calls, h_Answers, h_v_Touch_Reads, h_v_Touch_Writes, h_Marks, h_State, trivial⟩

structure Journal where
  Text : ByteArray
  Sure : Int
  deriving Inhabited, DecidableEq
instance : Dat Journal := Dat.pull fun x => (x.Text, x.Sure)
theorem Journal_open {B : Nat → Prop} {w : World} {cs : List Value} {x : Journal} (h : Dat.rd B w cs x) : cs = [.string x.Text, .int .i64 x.Sure] ∧ x.Text.size ≤ maxLen ∧ I64 x.Sure ∧ True := by
  obtain ⟨c0, d0, rfl, ⟨rfl, h_Text⟩, ⟨rfl, h_Sure⟩⟩ := h
  exact ⟨rfl, h_Text, h_Sure, trivial⟩
theorem Journal_mk {B : Nat → Prop} {w : World} {x : Journal}  (h0 : x.Text.size ≤ maxLen) (h1 : I64 x.Sure) : Dat.rd B w [.string x.Text, .int .i64 x.Sure] x := by
  exact ⟨[.string x.Text], _, rfl, ⟨rfl, h0⟩, ⟨rfl, h1⟩⟩
theorem Journal_own {w : World} {x : Journal}  (h0 : x.Text.size ≤ maxLen) (h1 : I64 x.Sure) : Dat.own w [.string x.Text, .int .i64 x.Sure] x [] := by
  exact ⟨[.string x.Text], _, [], _, rfl, rfl, ⟨⟨rfl, h0⟩, rfl⟩, ⟨⟨rfl, h1⟩, rfl⟩⟩

theorem Journal_oopen {w : World} {cs : List Value} {x : Journal} {F : List Nat} (h : Dat.own w cs x F) : cs = [.string x.Text, .int .i64 x.Sure] ∧ F = [] ∧ x.Text.size ≤ maxLen ∧ I64 x.Sure ∧ True := by
  obtain ⟨c0, d0, G0, H0, rfl, rfl, ⟨⟨rfl, h_Text⟩, rfl⟩, ⟨⟨rfl, h_Sure⟩, rfl⟩⟩ := h
  exact ⟨rfl, (by first | rfl | simp), h_Text, h_Sure, trivial⟩

structure Slot where
  Seq : Int
  Cells : List Cell
  Whole : Bool
  deriving Inhabited, DecidableEq
instance : Dat Slot := Dat.pull fun x => (x.Seq, x.Cells, x.Whole)
theorem Slot_open {B : Nat → Prop} {w : World} {cs : List Value} {x : Slot} (h : Dat.rd B w cs x) : ∃ v_Cells : Value, cs = [.int .i64 x.Seq, v_Cells, .bool x.Whole] ∧ I64 x.Seq ∧ SlR B w v_Cells x.Cells ∧ True := by
  obtain ⟨c0, d0, rfl, ⟨rfl, h_Seq⟩, ⟨c1, d1, rfl, ⟨v_Cells, rfl, h_Cells⟩, ⟨rfl, h_Whole⟩⟩⟩ := h
  exact ⟨v_Cells, rfl, h_Seq, h_Cells, trivial⟩
theorem Slot_mk {B : Nat → Prop} {w : World} {x : Slot} {v_Cells : Value} (h0 : I64 x.Seq) (h1 : SlR B w v_Cells x.Cells) : Dat.rd B w [.int .i64 x.Seq, v_Cells, .bool x.Whole] x := by
  exact ⟨[.int .i64 x.Seq], _, rfl, ⟨rfl, h0⟩, ⟨[v_Cells], _, rfl, ⟨_, rfl, h1⟩, ⟨rfl, trivial⟩⟩⟩
theorem Slot_own {w : World} {x : Slot} {v_Cells : Value} {F_Cells : List Nat} (h0 : I64 x.Seq) (h1 : SlO w v_Cells x.Cells F_Cells) : Dat.own w [.int .i64 x.Seq, v_Cells, .bool x.Whole] x (F_Cells ++ []) := by
  exact ⟨[.int .i64 x.Seq], _, [], _, rfl, rfl, ⟨⟨rfl, h0⟩, rfl⟩, ⟨[v_Cells], _, F_Cells, _, rfl, rfl, ⟨_, rfl, h1⟩, ⟨⟨rfl, trivial⟩, rfl⟩⟩⟩

theorem Slot_oopen {w : World} {cs : List Value} {x : Slot} {F : List Nat} (h : Dat.own w cs x F) : ∃ (v_Cells : Value) (F_Cells : List Nat), cs = [.int .i64 x.Seq, v_Cells, .bool x.Whole] ∧ F = (F_Cells ++ []) ∧ I64 x.Seq ∧ SlO w v_Cells x.Cells F_Cells ∧ True := by
  obtain ⟨c0, d0, G0, H0, rfl, rfl, ⟨⟨rfl, h_Seq⟩, rfl⟩, ⟨c1, d1, G1, H1, rfl, rfl, ⟨v_Cells, rfl, h_Cells⟩, ⟨⟨rfl, h_Whole⟩, rfl⟩⟩⟩ := h
  exact ⟨v_Cells, G1, rfl, (by first | rfl | simp), h_Seq, h_Cells, trivial⟩

structure Disk where
  Slots : List Slot
  Journal : Journal
  deriving Inhabited, DecidableEq
instance : Dat Disk := Dat.pull fun x => (x.Slots, x.Journal)
theorem Disk_open {B : Nat → Prop} {w : World} {cs : List Value} {x : Disk} (h : Dat.rd B w cs x) : ∃ v_Slots : Value, cs = [v_Slots, .string x.Journal.Text, .int .i64 x.Journal.Sure] ∧ SlR B w v_Slots x.Slots ∧ x.Journal.Text.size ≤ maxLen ∧ I64 x.Journal.Sure ∧ True := by
  obtain ⟨c0, d0, rfl, ⟨v_Slots, rfl, h_Slots⟩, h_Journal⟩ := h
  obtain ⟨rfl, h_v_Journal_Text, h_v_Journal_Sure, _⟩ := Journal_open h_Journal
  exact ⟨v_Slots, rfl, h_Slots, h_v_Journal_Text, h_v_Journal_Sure, trivial⟩
theorem Disk_mk {B : Nat → Prop} {w : World} {x : Disk} {v_Slots : Value} (h0 : SlR B w v_Slots x.Slots) (h1 : x.Journal.Text.size ≤ maxLen) (h2 : I64 x.Journal.Sure) : Dat.rd B w [v_Slots, .string x.Journal.Text, .int .i64 x.Journal.Sure] x := by
  exact ⟨[v_Slots], _, rfl, ⟨_, rfl, h0⟩, (Journal_mk h1 h2)⟩
theorem Disk_own {w : World} {x : Disk} {v_Slots : Value} {F_Slots : List Nat} (h0 : SlO w v_Slots x.Slots F_Slots) (h1 : x.Journal.Text.size ≤ maxLen) (h2 : I64 x.Journal.Sure) : Dat.own w [v_Slots, .string x.Journal.Text, .int .i64 x.Journal.Sure] x (F_Slots ++ []) := by
  exact ⟨[v_Slots], _, F_Slots, _, rfl, rfl, ⟨_, rfl, h0⟩, (Journal_own h1 h2)⟩

theorem Disk_oopen {w : World} {cs : List Value} {x : Disk} {F : List Nat} (h : Dat.own w cs x F) : ∃ (v_Slots : Value) (F_Slots : List Nat), cs = [v_Slots, .string x.Journal.Text, .int .i64 x.Journal.Sure] ∧ F = (F_Slots ++ []) ∧ SlO w v_Slots x.Slots F_Slots ∧ x.Journal.Text.size ≤ maxLen ∧ I64 x.Journal.Sure ∧ True := by
  obtain ⟨c0, d0, G0, H0, rfl, rfl, ⟨v_Slots, rfl, h_Slots⟩, o_Journal⟩ := h
  obtain ⟨rfl, rfl, h_v_Journal_Text, h_v_Journal_Sure, _⟩ := Journal_oopen o_Journal
  exact ⟨v_Slots, G0, rfl, (by first | rfl | simp), h_Slots, h_v_Journal_Text, h_v_Journal_Sure, trivial⟩

structure Entry where
  Seq : Int
  Kind : Int
  Tx : Int
  Steps : List Step
  Answers : List Answer
  Began : Int
  Ended : Int
  Laid : Bool
  deriving Inhabited, DecidableEq
instance : Dat Entry := Dat.pull fun x => (x.Seq, x.Kind, x.Tx, x.Steps, x.Answers, x.Began, x.Ended, x.Laid)
theorem Entry_open {B : Nat → Prop} {w : World} {cs : List Value} {x : Entry} (h : Dat.rd B w cs x) : ∃ v_Steps v_Answers : Value, cs = [.int .i64 x.Seq, .int .i64 x.Kind, .int .i64 x.Tx, v_Steps, v_Answers, .int .i64 x.Began, .int .i64 x.Ended, .bool x.Laid] ∧ I64 x.Seq ∧ I64 x.Kind ∧ I64 x.Tx ∧ SlR B w v_Steps x.Steps ∧ SlR B w v_Answers x.Answers ∧ I64 x.Began ∧ I64 x.Ended ∧ True := by
  obtain ⟨c0, d0, rfl, ⟨rfl, h_Seq⟩, ⟨c1, d1, rfl, ⟨rfl, h_Kind⟩, ⟨c2, d2, rfl, ⟨rfl, h_Tx⟩, ⟨c3, d3, rfl, ⟨v_Steps, rfl, h_Steps⟩, ⟨c4, d4, rfl, ⟨v_Answers, rfl, h_Answers⟩, ⟨c5, d5, rfl, ⟨rfl, h_Began⟩, ⟨c6, d6, rfl, ⟨rfl, h_Ended⟩, ⟨rfl, h_Laid⟩⟩⟩⟩⟩⟩⟩⟩ := h
  exact ⟨v_Steps, v_Answers, rfl, h_Seq, h_Kind, h_Tx, h_Steps, h_Answers, h_Began, h_Ended, trivial⟩
theorem Entry_mk {B : Nat → Prop} {w : World} {x : Entry} {v_Steps : Value} {v_Answers : Value} (h0 : I64 x.Seq) (h1 : I64 x.Kind) (h2 : I64 x.Tx) (h3 : SlR B w v_Steps x.Steps) (h4 : SlR B w v_Answers x.Answers) (h5 : I64 x.Began) (h6 : I64 x.Ended) : Dat.rd B w [.int .i64 x.Seq, .int .i64 x.Kind, .int .i64 x.Tx, v_Steps, v_Answers, .int .i64 x.Began, .int .i64 x.Ended, .bool x.Laid] x := by
  exact ⟨[.int .i64 x.Seq], _, rfl, ⟨rfl, h0⟩, ⟨[.int .i64 x.Kind], _, rfl, ⟨rfl, h1⟩, ⟨[.int .i64 x.Tx], _, rfl, ⟨rfl, h2⟩, ⟨[v_Steps], _, rfl, ⟨_, rfl, h3⟩, ⟨[v_Answers], _, rfl, ⟨_, rfl, h4⟩, ⟨[.int .i64 x.Began], _, rfl, ⟨rfl, h5⟩, ⟨[.int .i64 x.Ended], _, rfl, ⟨rfl, h6⟩, ⟨rfl, trivial⟩⟩⟩⟩⟩⟩⟩⟩
theorem Entry_own {w : World} {x : Entry} {v_Steps : Value} {F_Steps : List Nat} {v_Answers : Value} {F_Answers : List Nat} (h0 : I64 x.Seq) (h1 : I64 x.Kind) (h2 : I64 x.Tx) (h3 : SlO w v_Steps x.Steps F_Steps) (h4 : SlO w v_Answers x.Answers F_Answers) (h5 : I64 x.Began) (h6 : I64 x.Ended) : Dat.own w [.int .i64 x.Seq, .int .i64 x.Kind, .int .i64 x.Tx, v_Steps, v_Answers, .int .i64 x.Began, .int .i64 x.Ended, .bool x.Laid] x (F_Steps ++ (F_Answers ++ [])) := by
  exact ⟨[.int .i64 x.Seq], _, [], _, rfl, rfl, ⟨⟨rfl, h0⟩, rfl⟩, ⟨[.int .i64 x.Kind], _, [], _, rfl, rfl, ⟨⟨rfl, h1⟩, rfl⟩, ⟨[.int .i64 x.Tx], _, [], _, rfl, rfl, ⟨⟨rfl, h2⟩, rfl⟩, ⟨[v_Steps], _, F_Steps, _, rfl, rfl, ⟨_, rfl, h3⟩, ⟨[v_Answers], _, F_Answers, _, rfl, rfl, ⟨_, rfl, h4⟩, ⟨[.int .i64 x.Began], _, [], _, rfl, rfl, ⟨⟨rfl, h5⟩, rfl⟩, ⟨[.int .i64 x.Ended], _, [], _, rfl, rfl, ⟨⟨rfl, h6⟩, rfl⟩, ⟨⟨rfl, trivial⟩, rfl⟩⟩⟩⟩⟩⟩⟩⟩

theorem Entry_oopen {w : World} {cs : List Value} {x : Entry} {F : List Nat} (h : Dat.own w cs x F) : ∃ (v_Steps : Value) (F_Steps : List Nat) (v_Answers : Value) (F_Answers : List Nat), cs = [.int .i64 x.Seq, .int .i64 x.Kind, .int .i64 x.Tx, v_Steps, v_Answers, .int .i64 x.Began, .int .i64 x.Ended, .bool x.Laid] ∧ F = (F_Steps ++ (F_Answers ++ [])) ∧ I64 x.Seq ∧ I64 x.Kind ∧ I64 x.Tx ∧ SlO w v_Steps x.Steps F_Steps ∧ SlO w v_Answers x.Answers F_Answers ∧ I64 x.Began ∧ I64 x.Ended ∧ True := by
  obtain ⟨c0, d0, G0, H0, rfl, rfl, ⟨⟨rfl, h_Seq⟩, rfl⟩, ⟨c1, d1, G1, H1, rfl, rfl, ⟨⟨rfl, h_Kind⟩, rfl⟩, ⟨c2, d2, G2, H2, rfl, rfl, ⟨⟨rfl, h_Tx⟩, rfl⟩, ⟨c3, d3, G3, H3, rfl, rfl, ⟨v_Steps, rfl, h_Steps⟩, ⟨c4, d4, G4, H4, rfl, rfl, ⟨v_Answers, rfl, h_Answers⟩, ⟨c5, d5, G5, H5, rfl, rfl, ⟨⟨rfl, h_Began⟩, rfl⟩, ⟨c6, d6, G6, H6, rfl, rfl, ⟨⟨rfl, h_Ended⟩, rfl⟩, ⟨⟨rfl, h_Laid⟩, rfl⟩⟩⟩⟩⟩⟩⟩⟩ := h
  exact ⟨v_Steps, G3, v_Answers, G4, rfl, (by first | rfl | simp), h_Seq, h_Kind, h_Tx, h_Steps, h_Answers, h_Began, h_Ended, trivial⟩

structure Kernel where
  Store : List Cell
  Txs : List Tx
  Disk : Disk
  Seq : Int
  Next : Int
  Time : Int
  History : List Entry
  Seen : List ByteArray
  Room : Bool
  deriving Inhabited, DecidableEq
instance : Dat Kernel := Dat.pull fun x => (x.Store, x.Txs, x.Disk, x.Seq, x.Next, x.Time, x.History, x.Seen, x.Room)
theorem Kernel_open {B : Nat → Prop} {w : World} {cs : List Value} {x : Kernel} (h : Dat.rd B w cs x) : ∃ v_Store v_Txs v_Disk_Slots v_History v_Seen : Value, cs = [v_Store, v_Txs, v_Disk_Slots, .string x.Disk.Journal.Text, .int .i64 x.Disk.Journal.Sure, .int .i64 x.Seq, .int .i64 x.Next, .int .i64 x.Time, v_History, v_Seen, .bool x.Room] ∧ SlR B w v_Store x.Store ∧ SlR B w v_Txs x.Txs ∧ SlR B w v_Disk_Slots x.Disk.Slots ∧ x.Disk.Journal.Text.size ≤ maxLen ∧ I64 x.Disk.Journal.Sure ∧ I64 x.Seq ∧ I64 x.Next ∧ I64 x.Time ∧ SlR B w v_History x.History ∧ SlR B w v_Seen x.Seen ∧ True := by
  obtain ⟨c0, d0, rfl, ⟨v_Store, rfl, h_Store⟩, ⟨c1, d1, rfl, ⟨v_Txs, rfl, h_Txs⟩, ⟨c2, d2, rfl, h_Disk, ⟨c3, d3, rfl, ⟨rfl, h_Seq⟩, ⟨c4, d4, rfl, ⟨rfl, h_Next⟩, ⟨c5, d5, rfl, ⟨rfl, h_Time⟩, ⟨c6, d6, rfl, ⟨v_History, rfl, h_History⟩, ⟨c7, d7, rfl, ⟨v_Seen, rfl, h_Seen⟩, ⟨rfl, h_Room⟩⟩⟩⟩⟩⟩⟩⟩⟩ := h
  obtain ⟨v_Disk_Slots, rfl, h_v_Disk_Slots, h_v_Disk_Journal_Text, h_v_Disk_Journal_Sure, _⟩ := Disk_open h_Disk
  exact ⟨v_Store, v_Txs, v_Disk_Slots, v_History, v_Seen, rfl, h_Store, h_Txs, h_v_Disk_Slots, h_v_Disk_Journal_Text, h_v_Disk_Journal_Sure, h_Seq, h_Next, h_Time, h_History, h_Seen, trivial⟩
theorem Kernel_mk {B : Nat → Prop} {w : World} {x : Kernel} {v_Store : Value} {v_Txs : Value} {v_Disk_Slots : Value} {v_History : Value} {v_Seen : Value} (h0 : SlR B w v_Store x.Store) (h1 : SlR B w v_Txs x.Txs) (h2 : SlR B w v_Disk_Slots x.Disk.Slots) (h3 : x.Disk.Journal.Text.size ≤ maxLen) (h4 : I64 x.Disk.Journal.Sure) (h5 : I64 x.Seq) (h6 : I64 x.Next) (h7 : I64 x.Time) (h8 : SlR B w v_History x.History) (h9 : SlR B w v_Seen x.Seen) : Dat.rd B w [v_Store, v_Txs, v_Disk_Slots, .string x.Disk.Journal.Text, .int .i64 x.Disk.Journal.Sure, .int .i64 x.Seq, .int .i64 x.Next, .int .i64 x.Time, v_History, v_Seen, .bool x.Room] x := by
  exact ⟨[v_Store], _, rfl, ⟨_, rfl, h0⟩, ⟨[v_Txs], _, rfl, ⟨_, rfl, h1⟩, ⟨[v_Disk_Slots, .string x.Disk.Journal.Text, .int .i64 x.Disk.Journal.Sure], _, rfl, (Disk_mk h2 h3 h4), ⟨[.int .i64 x.Seq], _, rfl, ⟨rfl, h5⟩, ⟨[.int .i64 x.Next], _, rfl, ⟨rfl, h6⟩, ⟨[.int .i64 x.Time], _, rfl, ⟨rfl, h7⟩, ⟨[v_History], _, rfl, ⟨_, rfl, h8⟩, ⟨[v_Seen], _, rfl, ⟨_, rfl, h9⟩, ⟨rfl, trivial⟩⟩⟩⟩⟩⟩⟩⟩⟩
theorem Kernel_own {w : World} {x : Kernel} {v_Store : Value} {F_Store : List Nat} {v_Txs : Value} {F_Txs : List Nat} {v_Disk_Slots : Value} {F_Disk_Slots : List Nat} {v_History : Value} {F_History : List Nat} {v_Seen : Value} {F_Seen : List Nat} (h0 : SlO w v_Store x.Store F_Store) (h1 : SlO w v_Txs x.Txs F_Txs) (h2 : SlO w v_Disk_Slots x.Disk.Slots F_Disk_Slots) (h3 : x.Disk.Journal.Text.size ≤ maxLen) (h4 : I64 x.Disk.Journal.Sure) (h5 : I64 x.Seq) (h6 : I64 x.Next) (h7 : I64 x.Time) (h8 : SlO w v_History x.History F_History) (h9 : SlO w v_Seen x.Seen F_Seen) : Dat.own w [v_Store, v_Txs, v_Disk_Slots, .string x.Disk.Journal.Text, .int .i64 x.Disk.Journal.Sure, .int .i64 x.Seq, .int .i64 x.Next, .int .i64 x.Time, v_History, v_Seen, .bool x.Room] x (F_Store ++ (F_Txs ++ ((F_Disk_Slots ++ []) ++ (F_History ++ (F_Seen ++ []))))) := by
  exact ⟨[v_Store], _, F_Store, _, rfl, rfl, ⟨_, rfl, h0⟩, ⟨[v_Txs], _, F_Txs, _, rfl, rfl, ⟨_, rfl, h1⟩, ⟨[v_Disk_Slots, .string x.Disk.Journal.Text, .int .i64 x.Disk.Journal.Sure], _, (F_Disk_Slots ++ []), _, rfl, rfl, (Disk_own h2 h3 h4), ⟨[.int .i64 x.Seq], _, [], _, rfl, rfl, ⟨⟨rfl, h5⟩, rfl⟩, ⟨[.int .i64 x.Next], _, [], _, rfl, rfl, ⟨⟨rfl, h6⟩, rfl⟩, ⟨[.int .i64 x.Time], _, [], _, rfl, rfl, ⟨⟨rfl, h7⟩, rfl⟩, ⟨[v_History], _, F_History, _, rfl, rfl, ⟨_, rfl, h8⟩, ⟨[v_Seen], _, F_Seen, _, rfl, rfl, ⟨_, rfl, h9⟩, ⟨⟨rfl, trivial⟩, rfl⟩⟩⟩⟩⟩⟩⟩⟩⟩

theorem Kernel_oopen {w : World} {cs : List Value} {x : Kernel} {F : List Nat} (h : Dat.own w cs x F) : ∃ (v_Store : Value) (F_Store : List Nat) (v_Txs : Value) (F_Txs : List Nat) (v_Disk_Slots : Value) (F_Disk_Slots : List Nat) (v_History : Value) (F_History : List Nat) (v_Seen : Value) (F_Seen : List Nat), cs = [v_Store, v_Txs, v_Disk_Slots, .string x.Disk.Journal.Text, .int .i64 x.Disk.Journal.Sure, .int .i64 x.Seq, .int .i64 x.Next, .int .i64 x.Time, v_History, v_Seen, .bool x.Room] ∧ F = (F_Store ++ (F_Txs ++ ((F_Disk_Slots ++ []) ++ (F_History ++ (F_Seen ++ []))))) ∧ SlO w v_Store x.Store F_Store ∧ SlO w v_Txs x.Txs F_Txs ∧ SlO w v_Disk_Slots x.Disk.Slots F_Disk_Slots ∧ x.Disk.Journal.Text.size ≤ maxLen ∧ I64 x.Disk.Journal.Sure ∧ I64 x.Seq ∧ I64 x.Next ∧ I64 x.Time ∧ SlO w v_History x.History F_History ∧ SlO w v_Seen x.Seen F_Seen ∧ True := by
  obtain ⟨c0, d0, G0, H0, rfl, rfl, ⟨v_Store, rfl, h_Store⟩, ⟨c1, d1, G1, H1, rfl, rfl, ⟨v_Txs, rfl, h_Txs⟩, ⟨c2, d2, G2, H2, rfl, rfl, o_Disk, ⟨c3, d3, G3, H3, rfl, rfl, ⟨⟨rfl, h_Seq⟩, rfl⟩, ⟨c4, d4, G4, H4, rfl, rfl, ⟨⟨rfl, h_Next⟩, rfl⟩, ⟨c5, d5, G5, H5, rfl, rfl, ⟨⟨rfl, h_Time⟩, rfl⟩, ⟨c6, d6, G6, H6, rfl, rfl, ⟨v_History, rfl, h_History⟩, ⟨c7, d7, G7, H7, rfl, rfl, ⟨v_Seen, rfl, h_Seen⟩, ⟨⟨rfl, h_Room⟩, rfl⟩⟩⟩⟩⟩⟩⟩⟩⟩ := h
  obtain ⟨v_Disk_Slots, F_Disk_Slots, rfl, rfl, h_v_Disk_Slots, h_v_Disk_Journal_Text, h_v_Disk_Journal_Sure, _⟩ := Disk_oopen o_Disk
  exact ⟨v_Store, G0, v_Txs, G1, v_Disk_Slots, F_Disk_Slots, v_History, G6, v_Seen, G7, rfl, (by first | rfl | simp), h_Store, h_Txs, h_v_Disk_Slots, h_v_Disk_Journal_Text, h_v_Disk_Journal_Sure, h_Seq, h_Next, h_Time, h_History, h_Seen, trivial⟩

structure Deed where
  Kind : Int
  N : Int
  M : Int
  Call : Call
  deriving Inhabited, DecidableEq
instance : Dat Deed := Dat.pull fun x => (x.Kind, x.N, x.M, x.Call)
theorem Deed_open {B : Nat → Prop} {w : World} {cs : List Value} {x : Deed} (h : Dat.rd B w cs x) : cs = [.int .i64 x.Kind, .int .i64 x.N, .int .i64 x.M, .int .i64 x.Call.Kind, .string x.Call.Name, .string x.Call.To, .int .i64 x.Call.A, .int .i64 x.Call.B, .string x.Call.Text] ∧ I64 x.Kind ∧ I64 x.N ∧ I64 x.M ∧ I64 x.Call.Kind ∧ x.Call.Name.size ≤ maxLen ∧ x.Call.To.size ≤ maxLen ∧ I64 x.Call.A ∧ I64 x.Call.B ∧ x.Call.Text.size ≤ maxLen ∧ True := by
  obtain ⟨c0, d0, rfl, ⟨rfl, h_Kind⟩, ⟨c1, d1, rfl, ⟨rfl, h_N⟩, ⟨c2, d2, rfl, ⟨rfl, h_M⟩, h_Call⟩⟩⟩ := h
  obtain ⟨rfl, h_v_Call_Kind, h_v_Call_Name, h_v_Call_To, h_v_Call_A, h_v_Call_B, h_v_Call_Text, _⟩ := Call_open h_Call
  exact ⟨rfl, h_Kind, h_N, h_M, h_v_Call_Kind, h_v_Call_Name, h_v_Call_To, h_v_Call_A, h_v_Call_B, h_v_Call_Text, trivial⟩
theorem Deed_mk {B : Nat → Prop} {w : World} {x : Deed}  (h0 : I64 x.Kind) (h1 : I64 x.N) (h2 : I64 x.M) (h3 : I64 x.Call.Kind) (h4 : x.Call.Name.size ≤ maxLen) (h5 : x.Call.To.size ≤ maxLen) (h6 : I64 x.Call.A) (h7 : I64 x.Call.B) (h8 : x.Call.Text.size ≤ maxLen) : Dat.rd B w [.int .i64 x.Kind, .int .i64 x.N, .int .i64 x.M, .int .i64 x.Call.Kind, .string x.Call.Name, .string x.Call.To, .int .i64 x.Call.A, .int .i64 x.Call.B, .string x.Call.Text] x := by
  exact ⟨[.int .i64 x.Kind], _, rfl, ⟨rfl, h0⟩, ⟨[.int .i64 x.N], _, rfl, ⟨rfl, h1⟩, ⟨[.int .i64 x.M], _, rfl, ⟨rfl, h2⟩, (Call_mk h3 h4 h5 h6 h7 h8)⟩⟩⟩
theorem Deed_own {w : World} {x : Deed}  (h0 : I64 x.Kind) (h1 : I64 x.N) (h2 : I64 x.M) (h3 : I64 x.Call.Kind) (h4 : x.Call.Name.size ≤ maxLen) (h5 : x.Call.To.size ≤ maxLen) (h6 : I64 x.Call.A) (h7 : I64 x.Call.B) (h8 : x.Call.Text.size ≤ maxLen) : Dat.own w [.int .i64 x.Kind, .int .i64 x.N, .int .i64 x.M, .int .i64 x.Call.Kind, .string x.Call.Name, .string x.Call.To, .int .i64 x.Call.A, .int .i64 x.Call.B, .string x.Call.Text] x [] := by
  exact ⟨[.int .i64 x.Kind], _, [], _, rfl, rfl, ⟨⟨rfl, h0⟩, rfl⟩, ⟨[.int .i64 x.N], _, [], _, rfl, rfl, ⟨⟨rfl, h1⟩, rfl⟩, ⟨[.int .i64 x.M], _, [], _, rfl, rfl, ⟨⟨rfl, h2⟩, rfl⟩, (Call_own h3 h4 h5 h6 h7 h8)⟩⟩⟩

theorem Deed_oopen {w : World} {cs : List Value} {x : Deed} {F : List Nat} (h : Dat.own w cs x F) : cs = [.int .i64 x.Kind, .int .i64 x.N, .int .i64 x.M, .int .i64 x.Call.Kind, .string x.Call.Name, .string x.Call.To, .int .i64 x.Call.A, .int .i64 x.Call.B, .string x.Call.Text] ∧ F = [] ∧ I64 x.Kind ∧ I64 x.N ∧ I64 x.M ∧ I64 x.Call.Kind ∧ x.Call.Name.size ≤ maxLen ∧ x.Call.To.size ≤ maxLen ∧ I64 x.Call.A ∧ I64 x.Call.B ∧ x.Call.Text.size ≤ maxLen ∧ True := by
  obtain ⟨c0, d0, G0, H0, rfl, rfl, ⟨⟨rfl, h_Kind⟩, rfl⟩, ⟨c1, d1, G1, H1, rfl, rfl, ⟨⟨rfl, h_N⟩, rfl⟩, ⟨c2, d2, G2, H2, rfl, rfl, ⟨⟨rfl, h_M⟩, rfl⟩, o_Call⟩⟩⟩ := h
  obtain ⟨rfl, rfl, h_v_Call_Kind, h_v_Call_Name, h_v_Call_To, h_v_Call_A, h_v_Call_B, h_v_Call_Text, _⟩ := Call_oopen o_Call
  exact ⟨rfl, (by first | rfl | simp), h_Kind, h_N, h_M, h_v_Call_Kind, h_v_Call_Name, h_v_Call_To, h_v_Call_A, h_v_Call_B, h_v_Call_Text, trivial⟩

end Go.Proofs.YtmjjcihoobnbgaaDoor.Fw
