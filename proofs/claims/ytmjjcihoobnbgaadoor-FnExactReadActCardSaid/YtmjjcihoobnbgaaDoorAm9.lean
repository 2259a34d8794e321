/-
  Structs told by their fields. No condition.
-/
import Derived.Test.YtmjjcihoobnbgaaDoorAm16
namespace Go.Proofs.YtmjjcihoobnbgaaDoor.Fw
open Go.RowKit
set_option linter.unusedVariables false

def Fk.pull {σ τ : Type} (f : σ → τ) : Fk τ → Fk σ
  | .int g => .int fun x => g (f x)
  | .byte g => .byte fun x => g (f x)
  | .bool g => .bool fun x => g (f x)
  | .str g => .str fun x => g (f x)
  | .sl β d g => .sl β d fun x => g (f x)
theorem RdL_pull {σ τ : Type} (f : σ → τ) {S : Nat → Prop} {w : World} {x : σ} : ∀ {fk : List (Fk τ)} {cs : List Value}, RdL S w x (fk.map (Fk.pull f)) cs ↔ RdL S w (f x) fk cs
  | [], _ => Iff.rfl
  | g :: fs, cs => by
    have key : ∀ v, (Fk.pull f g).rd S w x v ↔ g.rd S w (f x) v := fun v => by cases g <;> exact Iff.rfl
    constructor
    · rintro ⟨v, r, rfl, h1, h2⟩; exact ⟨v, r, rfl, (key v).1 h1, (RdL_pull f).1 h2⟩
    · rintro ⟨v, r, rfl, h1, h2⟩; exact ⟨v, r, rfl, (key v).2 h1, (RdL_pull f).2 h2⟩
theorem OwL_pull {σ τ : Type} (f : σ → τ) {w : World} {x : σ} : ∀ {fk : List (Fk τ)} {cs : List Value} {F : List Nat}, OwL w x (fk.map (Fk.pull f)) cs F ↔ OwL w (f x) fk cs F
  | [], _, _ => Iff.rfl
  | g :: fs, cs, F => by
    have key : ∀ v G, (Fk.pull f g).own w x v G ↔ g.own w (f x) v G := fun v G => by cases g <;> exact Iff.rfl
    constructor
    · rintro ⟨v, r, G, H, rfl, rfl, h1, h2⟩; exact ⟨v, r, G, H, rfl, rfl, (key v G).1 h1, (OwL_pull f).1 h2⟩
    · rintro ⟨v, r, G, H, rfl, rfl, h1, h2⟩; exact ⟨v, r, G, H, rfl, rfl, (key v G).2 h1, (OwL_pull f).2 h2⟩
theorem GdL_pull {σ τ : Type} (f : σ → τ) {x : σ} : ∀ {fk : List (Fk τ)}, GdL (f x) fk → GdL x (fk.map (Fk.pull f))
  | [], h => h
  | g :: fs, h => ⟨by cases g <;> exact h.1, GdL_pull f h.2⟩
theorem RdL_app {α : Type} {S : Nat → Prop} {w : World} {x : α} : ∀ {f g : List (Fk α)} {cs : List Value}, RdL S w x (f ++ g) cs ↔ ∃ c d, cs = c ++ d ∧ RdL S w x f c ∧ RdL S w x g d
  | [], g, cs => ⟨fun h => ⟨[], cs, rfl, rfl, h⟩, fun ⟨c, d, e, h1, h2⟩ => by cases h1; rw [e]; exact h2⟩
  | a :: f, g, cs => by
    constructor
    · rintro ⟨v, r, rfl, h1, h2⟩
      obtain ⟨c, d, rfl, h3, h4⟩ := RdL_app.1 h2
      exact ⟨v :: c, d, rfl, ⟨v, c, rfl, h1, h3⟩, h4⟩
    · rintro ⟨c, d, rfl, ⟨v, r, rfl, h1, h2⟩, h4⟩
      exact ⟨v, r ++ d, rfl, h1, RdL_app.2 ⟨r, d, rfl, h2, h4⟩⟩
theorem OwL_app {α : Type} {w : World} {x : α} : ∀ {f g : List (Fk α)} {cs : List Value} {F : List Nat}, OwL w x (f ++ g) cs F ↔ ∃ c d G H, cs = c ++ d ∧ F = G ++ H ∧ OwL w x f c G ∧ OwL w x g d H
  | [], g, cs, F => ⟨fun h => ⟨[], cs, [], F, rfl, rfl, ⟨rfl, rfl⟩, h⟩, fun ⟨c, d, G, H, e, e2, ⟨h1, h1'⟩, h2⟩ => by subst h1; subst h1'; rw [e, e2]; exact h2⟩
  | a :: f, g, cs, F => by
    constructor
    · rintro ⟨v, r, G, H, rfl, rfl, h1, h2⟩
      obtain ⟨c, d, G', H', rfl, rfl, h3, h4⟩ := OwL_app.1 h2
      exact ⟨v :: c, d, G ++ G', H', rfl, by rw [List.append_assoc], ⟨v, c, G, G', rfl, rfl, h1, h3⟩, h4⟩
    · rintro ⟨c, d, G, H, rfl, rfl, ⟨v, r, G', H', rfl, rfl, h1, h2⟩, h4⟩
      exact ⟨v, r ++ d, G', H' ++ H, rfl, by rw [List.append_assoc], h1, OwL_app.2 ⟨r, d, H', H, rfl, rfl, h2, h4⟩⟩
theorem GdL_app {α : Type} {x : α} : ∀ {f g : List (Fk α)}, GdL x f → GdL x g → GdL x (f ++ g)
  | [], _, _, h => h
  | _ :: _, _, h, h' => ⟨h.1, GdL_app h.2 h'⟩

instance : Str Bool where
  fk := [.bool id]
  op h := ⟨_, [], h.1, rfl, rfl⟩
  cl h := by obtain ⟨v, r, rfl, rfl, rfl⟩ := h; exact ⟨rfl, trivial⟩
  oop h := ⟨_, [], [], [], h.1.1, by rw [h.2]; rfl, ⟨rfl, rfl⟩, rfl, rfl⟩
  omk h := by obtain ⟨v, r, G, H, rfl, rfl, ⟨rfl, rfl⟩, rfl, rfl⟩ := h; exact ⟨⟨rfl, trivial⟩, rfl⟩
  gd h := ⟨trivial, trivial⟩
instance {α β : Type} [Dat α] [Dat β] [Str α] [Str β] : Str (α × β) where
  fk := (Str.fk (α := α)).map (Fk.pull Prod.fst) ++ (Str.fk (α := β)).map (Fk.pull Prod.snd)
  op h := by
    obtain ⟨c, d, rfl, h1, h2⟩ := h
    exact RdL_app.2 ⟨c, d, rfl, (RdL_pull _).2 (Str.op h1), (RdL_pull _).2 (Str.op h2)⟩
  cl h := by
    obtain ⟨c, d, rfl, h1, h2⟩ := RdL_app.1 h
    exact ⟨c, d, rfl, Str.cl ((RdL_pull _).1 h1), Str.cl ((RdL_pull _).1 h2)⟩
  oop h := by
    obtain ⟨c, d, G, H, rfl, rfl, h1, h2⟩ := h
    exact OwL_app.2 ⟨c, d, G, H, rfl, rfl, (OwL_pull _).2 (Str.oop h1), (OwL_pull _).2 (Str.oop h2)⟩
  omk h := by
    obtain ⟨c, d, G, H, rfl, rfl, h1, h2⟩ := OwL_app.1 h
    exact ⟨c, d, G, H, rfl, rfl, Str.omk ((OwL_pull _).1 h1), Str.omk ((OwL_pull _).1 h2)⟩
  gd h := GdL_app (GdL_pull Prod.fst (Str.gd h.1)) (GdL_pull Prod.snd (Str.gd h.2))

/-- A struct that is told as a tuple of its fields. -/
theorem pull_op {σ τ : Type} [d : Dat τ] [s : Str τ] (f : σ → τ) {S : Nat → Prop} {w : World} {cs : List Value} {x : σ} (h : @Dat.rd σ (Dat.pull f) S w cs x) : RdL S w x (s.fk.map (Fk.pull f)) cs := (RdL_pull f).2 (s.op h)
theorem pull_cl {σ τ : Type} [d : Dat τ] [s : Str τ] (f : σ → τ) {S : Nat → Prop} {w : World} {cs : List Value} {x : σ} (h : RdL S w x (s.fk.map (Fk.pull f)) cs) : @Dat.rd σ (Dat.pull f) S w cs x := s.cl ((RdL_pull f).1 h)
theorem pull_oop {σ τ : Type} [d : Dat τ] [s : Str τ] (f : σ → τ) {w : World} {cs : List Value} {x : σ} {F : List Nat} (h : @Dat.own σ (Dat.pull f) w cs x F) : OwL w x (s.fk.map (Fk.pull f)) cs F := (OwL_pull f).2 (s.oop h)
theorem pull_omk {σ τ : Type} [d : Dat τ] [s : Str τ] (f : σ → τ) {w : World} {cs : List Value} {x : σ} {F : List Nat} (h : OwL w x (s.fk.map (Fk.pull f)) cs F) : @Dat.own σ (Dat.pull f) w cs x F := s.omk ((OwL_pull f).1 h)
theorem pull_gd {σ τ : Type} [d : Dat τ] [s : Str τ] (f : σ → τ) {x : σ} (h : @Dat.good σ (Dat.pull f) x) : GdL x (s.fk.map (Fk.pull f)) := GdL_pull f (s.gd h)

instance : Str Cell where
  fk := [.str (fun x => x.Key), .str (fun x => x.Val)]
  op h := pull_op (fun x : Cell => (x.Key, x.Val)) h
  cl h := pull_cl (fun x : Cell => (x.Key, x.Val)) h
  oop h := pull_oop (fun x : Cell => (x.Key, x.Val)) h
  omk h := pull_omk (fun x : Cell => (x.Key, x.Val)) h
  gd h := pull_gd (fun x : Cell => (x.Key, x.Val)) h
instance : Str Touch where
  fk := [.sl ByteArray instDatByteArray (fun x => x.Reads), .sl ByteArray instDatByteArray (fun x => x.Writes)]
  op h := pull_op (fun x : Touch => (x.Reads, x.Writes)) h
  cl h := pull_cl (fun x : Touch => (x.Reads, x.Writes)) h
  oop h := pull_oop (fun x : Touch => (x.Reads, x.Writes)) h
  omk h := pull_omk (fun x : Touch => (x.Reads, x.Writes)) h
  gd h := pull_gd (fun x : Touch => (x.Reads, x.Writes)) h
instance : Str Mach where
  fk := [.sl Cell instDatCell (fun x => x.Store), .sl ByteArray instDatByteArray (fun x => x.Touch.Reads), .sl ByteArray instDatByteArray (fun x => x.Touch.Writes)]
  op h := pull_op (fun x : Mach => (x.Store, x.Touch)) h
  cl h := pull_cl (fun x : Mach => (x.Store, x.Touch)) h
  oop h := pull_oop (fun x : Mach => (x.Store, x.Touch)) h
  omk h := pull_omk (fun x : Mach => (x.Store, x.Touch)) h
  gd h := pull_gd (fun x : Mach => (x.Store, x.Touch)) h
instance : Str Call where
  fk := [.int (fun x => x.Kind), .str (fun x => x.Name), .str (fun x => x.To), .int (fun x => x.A), .int (fun x => x.B), .str (fun x => x.Text)]
  op h := pull_op (fun x : Call => (x.Kind, x.Name, x.To, x.A, x.B, x.Text)) h
  cl h := pull_cl (fun x : Call => (x.Kind, x.Name, x.To, x.A, x.B, x.Text)) h
  oop h := pull_oop (fun x : Call => (x.Kind, x.Name, x.To, x.A, x.B, x.Text)) h
  omk h := pull_omk (fun x : Call => (x.Kind, x.Name, x.To, x.A, x.B, x.Text)) h
  gd h := pull_gd (fun x : Call => (x.Kind, x.Name, x.To, x.A, x.B, x.Text)) h
instance : Str Answer where
  fk := [.int (fun x => x.Code), .int (fun x => x.N), .str (fun x => x.Text)]
  op h := pull_op (fun x : Answer => (x.Code, x.N, x.Text)) h
  cl h := pull_cl (fun x : Answer => (x.Code, x.N, x.Text)) h
  oop h := pull_oop (fun x : Answer => (x.Code, x.N, x.Text)) h
  omk h := pull_omk (fun x : Answer => (x.Code, x.N, x.Text)) h
  gd h := pull_gd (fun x : Answer => (x.Code, x.N, x.Text)) h
instance : Str Step where
  fk := [.int (fun x => x.Proc), .int (fun x => x.Call.Kind), .str (fun x => x.Call.Name), .str (fun x => x.Call.To), .int (fun x => x.Call.A), .int (fun x => x.Call.B), .str (fun x => x.Call.Text)]
  op h := pull_op (fun x : Step => (x.Proc, x.Call)) h
  cl h := pull_cl (fun x : Step => (x.Proc, x.Call)) h
  oop h := pull_oop (fun x : Step => (x.Proc, x.Call)) h
  omk h := pull_omk (fun x : Step => (x.Proc, x.Call)) h
  gd h := pull_gd (fun x : Step => (x.Proc, x.Call)) h
instance : Str Tx where
  fk := [.int (fun x => x.Id), .int (fun x => x.Age), .int (fun x => x.Proc), .int (fun x => x.Began), .sl Call instDatCall (fun x => x.Calls), .sl Answer instDatAnswer (fun x => x.Answers), .sl ByteArray instDatByteArray (fun x => x.Touch.Reads), .sl ByteArray instDatByteArray (fun x => x.Touch.Writes), .sl Int instDatInt (fun x => x.Marks), .int (fun x => x.State)]
  op h := pull_op (fun x : Tx => (x.Id, x.Age, x.Proc, x.Began, x.Calls, x.Answers, x.Touch, x.Marks, x.State)) h
  cl h := pull_cl (fun x : Tx => (x.Id, x.Age, x.Proc, x.Began, x.Calls, x.Answers, x.Touch, x.Marks, x.State)) h
  oop h := pull_oop (fun x : Tx => (x.Id, x.Age, x.Proc, x.Began, x.Calls, x.Answers, x.Touch, x.Marks, x.State)) h
  omk h := pull_omk (fun x : Tx => (x.Id, x.Age, x.Proc, x.Began, x.Calls, x.Answers, x.Touch, x.Marks, x.State)) h
  gd h := pull_gd (fun x : Tx => (x.Id, x.Age, x.Proc, x.Began, x.Calls, x.Answers, x.Touch, x.Marks, x.State)) h
instance : Str Journal where
  fk := [.str (fun x => x.Text), .int (fun x => x.Sure)]
  op h := pull_op (fun x : Journal => (x.Text, x.Sure)) h
  cl h := pull_cl (fun x : Journal => (x.Text, x.Sure)) h
  oop h := pull_oop (fun x : Journal => (x.Text, x.Sure)) h
  omk h := pull_omk (fun x : Journal => (x.Text, x.Sure)) h
  gd h := pull_gd (fun x : Journal => (x.Text, x.Sure)) h
instance : Str Slot where
  fk := [.int (fun x => x.Seq), .sl Cell instDatCell (fun x => x.Cells), .bool (fun x => x.Whole)]
  op h := pull_op (fun x : Slot => (x.Seq, x.Cells, x.Whole)) h
  cl h := pull_cl (fun x : Slot => (x.Seq, x.Cells, x.Whole)) h
  oop h := pull_oop (fun x : Slot => (x.Seq, x.Cells, x.Whole)) h
  omk h := pull_omk (fun x : Slot => (x.Seq, x.Cells, x.Whole)) h
  gd h := pull_gd (fun x : Slot => (x.Seq, x.Cells, x.Whole)) h
instance : Str Disk where
  fk := [.sl Slot instDatSlot (fun x => x.Slots), .str (fun x => x.Journal.Text), .int (fun x => x.Journal.Sure)]
  op h := pull_op (fun x : Disk => (x.Slots, x.Journal)) h
  cl h := pull_cl (fun x : Disk => (x.Slots, x.Journal)) h
  oop h := pull_oop (fun x : Disk => (x.Slots, x.Journal)) h
  omk h := pull_omk (fun x : Disk => (x.Slots, x.Journal)) h
  gd h := pull_gd (fun x : Disk => (x.Slots, x.Journal)) h
instance : Str Entry where
  fk := [.int (fun x => x.Seq), .int (fun x => x.Kind), .int (fun x => x.Tx), .sl Step instDatStep (fun x => x.Steps), .sl Answer instDatAnswer (fun x => x.Answers), .int (fun x => x.Began), .int (fun x => x.Ended), .bool (fun x => x.Laid)]
  op h := pull_op (fun x : Entry => (x.Seq, x.Kind, x.Tx, x.Steps, x.Answers, x.Began, x.Ended, x.Laid)) h
  cl h := pull_cl (fun x : Entry => (x.Seq, x.Kind, x.Tx, x.Steps, x.Answers, x.Began, x.Ended, x.Laid)) h
  oop h := pull_oop (fun x : Entry => (x.Seq, x.Kind, x.Tx, x.Steps, x.Answers, x.Began, x.Ended, x.Laid)) h
  omk h := pull_omk (fun x : Entry => (x.Seq, x.Kind, x.Tx, x.Steps, x.Answers, x.Began, x.Ended, x.Laid)) h
  gd h := pull_gd (fun x : Entry => (x.Seq, x.Kind, x.Tx, x.Steps, x.Answers, x.Began, x.Ended, x.Laid)) h
instance : Str Kernel where
  fk := [.sl Cell instDatCell (fun x => x.Store), .sl Tx instDatTx (fun x => x.Txs), .sl Slot instDatSlot (fun x => x.Disk.Slots), .str (fun x => x.Disk.Journal.Text), .int (fun x => x.Disk.Journal.Sure), .int (fun x => x.Seq), .int (fun x => x.Next), .int (fun x => x.Time), .sl Entry instDatEntry (fun x => x.History), .sl ByteArray instDatByteArray (fun x => x.Seen), .bool (fun x => x.Room)]
  op h := pull_op (fun x : Kernel => (x.Store, x.Txs, x.Disk, x.Seq, x.Next, x.Time, x.History, x.Seen, x.Room)) h
  cl h := pull_cl (fun x : Kernel => (x.Store, x.Txs, x.Disk, x.Seq, x.Next, x.Time, x.History, x.Seen, x.Room)) h
  oop h := pull_oop (fun x : Kernel => (x.Store, x.Txs, x.Disk, x.Seq, x.Next, x.Time, x.History, x.Seen, x.Room)) h
  omk h := pull_omk (fun x : Kernel => (x.Store, x.Txs, x.Disk, x.Seq, x.Next, x.Time, x.History, x.Seen, x.Room)) h
  gd h := pull_gd (fun x : Kernel => (x.Store, x.Txs, x.Disk, x.Seq, x.Next, x.Time, x.History, x.Seen, x.Room)) h
instance : Str Deed where
  fk := [.int (fun x => x.Kind), .int (fun x => x.N), .int (fun x => x.M), .int (fun x => x.Call.Kind), .str (fun x => x.Call.Name), .str (fun x => x.Call.To), .int (fun x => x.Call.A), .int (fun x => x.Call.B), .str (fun x => x.Call.Text)]
  op h := pull_op (fun x : Deed => (x.Kind, x.N, x.M, x.Call)) h
  cl h := pull_cl (fun x : Deed => (x.Kind, x.N, x.M, x.Call)) h
  oop h := pull_oop (fun x : Deed => (x.Kind, x.N, x.M, x.Call)) h
  omk h := pull_omk (fun x : Deed => (x.Kind, x.N, x.M, x.Call)) h
  gd h := pull_gd (fun x : Deed => (x.Kind, x.N, x.M, x.Call)) h
end Go.Proofs.YtmjjcihoobnbgaaDoor.Fw
