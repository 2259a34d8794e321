/-
  The texts Q10, Q11, RiW, W1, W2, W3, W4, W5, W6, W7, W8, W9, W10, W11, W12, W13, W14, W15, W16, W17, W18, W19, W20, W21, W22, W23, W24, W25, W26 of this proof, one behind the other: what each proves stands at its head. No condition.
-/
import Derived.Test.YtdghkmbppfmifaaGreatDoorLEA
import Derived.Test.YtdghkmbppfmifaaGreatDoorLEB
import Derived.Test.YtdghkmbppfmifaaGreatDoorLEC
namespace Go.Proofs.YtdghkmbppfmifaaGreatDoor.Ri
open Go.Proofs.YtdghkmbppfmifaaGreatDoor.Fw
open Go.RowKit
set_option linter.unusedVariables false
set_option maxRecDepth 100000
noncomputable def L169_63 (s1 : Int) (s2 : Int) (s11 : Int) (e1 : List Fw.Cell) (e2 : List ByteArray) (e3 : List ByteArray) : Option (Fw.Mach × ByteArray × Unit) := Ln 332 63 (⟨91, [(1, .ok (.v (.int .i64 s1))), (2, .ok (.v (.int .i64 s2))), (4, .ok (.pt 0 0)), (8, .ok (.pt 4 0)), (11, .ok (.v (.int .i64 s11)))], [(0, .var [.sl 1, .sl 2, .sl 3] 160), (1, .own 152 e1), (2, .own 9 e2), (3, .own 9 e3), (4, .var [.v (.slice none 0 0), .v (.slice none 0 0), .v (.slice none 0 0)] 160)]⟩, 5)
noncomputable def L169_2036 (s1 : Int) (s2 : Int) (s11 : Int) (s13 : Int) (e1 : List Fw.Cell) (e2 : List ByteArray) (e3 : List ByteArray) (e5 : List UInt8) : Option (Fw.Mach × ByteArray × Unit) := Ln 332 2036 (⟨91, [(1, .ok (.v (.int .i64 s1))), (2, .ok (.v (.int .i64 s2))), (4, .ok (.pt 0 0)), (8, .ok (.pt 4 0)), (11, .ok (.v (.int .i64 s11))), (12, .ok (.sl 5)), (13, .ok (.v (.int .i64 s13)))], [(0, .var [.sl 1, .sl 2, .sl 3] 160), (1, .own 152 e1), (2, .own 9 e2), (3, .own 9 e3), (4, .var [.v (.slice none 0 0), .v (.slice none 0 0), .v (.slice none 0 0)] 160), (5, .own 5 e5)]⟩, 6)
noncomputable def L169_255 (e1 : List Fw.Cell) (e2 : List ByteArray) (e3 : List ByteArray) (e5 : List UInt8) : Option (Fw.Mach × ByteArray × Unit) := Ln 332 255 (⟨91, [(4, .ok (.pt 0 0)), (8, .ok (.pt 4 0)), (12, .ok (.sl 5))], [(0, .var [.sl 1, .sl 2, .sl 3] 160), (1, .own 152 e1), (2, .own 9 e2), (3, .own 9 e3), (4, .var [.v (.slice none 0 0), .v (.slice none 0 0), .v (.slice none 0 0)] 160), (5, .own 5 e5)]⟩, 6)
noncomputable def L169_521372 (s1 : Int) (s2 : Int) (s11 : Int) (s13 : Int) (s14 : ByteArray) (s15 : Int) (e1 : List Fw.Cell) (e2 : List ByteArray) (e3 : List ByteArray) (e5 : List UInt8) : Option (Fw.Mach × ByteArray × Unit) := Ln 332 521372 (⟨91, [(1, .ok (.v (.int .i64 s1))), (2, .ok (.v (.int .i64 s2))), (4, .ok (.pt 0 0)), (8, .ok (.pt 4 0)), (11, .ok (.v (.int .i64 s11))), (12, .ok (.sl 5)), (13, .ok (.v (.int .i64 s13))), (14, .ok (.v (.string s14))), (15, .ok (.v (.int .i64 s15)))], [(0, .var [.sl 1, .sl 2, .sl 3] 160), (1, .own 152 e1), (2, .own 9 e2), (3, .own 9 e3), (4, .var [.v (.slice none 0 0), .v (.slice none 0 0), .v (.slice none 0 0)] 160), (5, .own 5 e5)]⟩, 6)
noncomputable def L169_8147 (s1 : Int) (s2 : Int) (s11 : Int) (s13 : Int) (e1 : List Fw.Cell) (e2 : List ByteArray) (e3 : List ByteArray) (e5 : List UInt8) : Option (Fw.Mach × ByteArray × Unit) := Ln 332 8147 (⟨91, [(1, .ok (.v (.int .i64 s1))), (2, .ok (.v (.int .i64 s2))), (4, .ok (.pt 0 0)), (8, .ok (.pt 4 0)), (11, .ok (.v (.int .i64 s11))), (12, .ok (.sl 5)), (13, .ok (.v (.int .i64 s13)))], [(0, .var [.sl 1, .sl 2, .sl 3] 160), (1, .own 152 e1), (2, .own 9 e2), (3, .own 9 e3), (4, .var [.v (.slice none 0 0), .v (.slice none 0 0), .v (.slice none 0 0)] 160), (5, .own 5 e5)]⟩, 6)
noncomputable def L169_2085491 (s1 : Int) (s2 : Int) (s11 : Int) (s13 : Int) (s14 : ByteArray) (s15 : Int) (e1 : List Fw.Cell) (e2 : List ByteArray) (e3 : List ByteArray) (e5 : List UInt8) : Option (Fw.Mach × ByteArray × Unit) := Ln 332 2085491 (⟨91, [(1, .ok (.v (.int .i64 s1))), (2, .ok (.v (.int .i64 s2))), (4, .ok (.pt 0 0)), (8, .ok (.pt 4 0)), (11, .ok (.v (.int .i64 s11))), (12, .ok (.sl 5)), (13, .ok (.v (.int .i64 s13))), (14, .ok (.v (.string s14))), (15, .ok (.v (.int .i64 s15)))], [(0, .var [.sl 1, .sl 2, .sl 3] 160), (1, .own 152 e1), (2, .own 9 e2), (3, .own 9 e3), (4, .var [.v (.slice none 0 0), .v (.slice none 0 0), .v (.slice none 0 0)] 160), (5, .own 5 e5)]⟩, 6)
theorem E169 (x0 : Fw.Mach) (x1 : Int) (x2 : Int) (x3 : Int) : D169 x0 x1 x2 x3 = ((D185 x0 x1).bind fun y0 => bif (((decide (x2 < 0)) || (decide (x3 < 1))) || (decide (x2 ≥ y0.2.1))) then (some (y0.1, ((tx []), ()))) else bif (decide (x3 < (IntKind.wrap .i64 (y0.2.1 - x2)))) then (L169_63 x1 x2 (IntKind.wrap .i64 (x2 + x3)) y0.1.Store y0.1.Touch.Reads y0.1.Touch.Writes) else L169_63 x1 x2 y0.2.1 y0.1.Store y0.1.Touch.Reads y0.1.Touch.Writes) := (Dn_eq _ _).trans (by kernel_rfl)
theorem P169_63 (s1 : Int) (s2 : Int) (s11 : Int) (e1 : List Fw.Cell) (e2 : List ByteArray) (e3 : List ByteArray) : L169_63 s1 s2 s11 e1 e2 e3 = (gd (!(decide (8 = 0))) <| L169_2036 s1 s2 s11 (IntKind.wrap .i64 (Int.tdiv s2 8)) e1 e2 e3 []) := (Ln_eq _ _ _).trans (by kernel_rfl)
theorem P169_2036 (s1 : Int) (s2 : Int) (s11 : Int) (s13 : Int) (e1 : List Fw.Cell) (e2 : List ByteArray) (e3 : List ByteArray) (e5 : List UInt8) : L169_2036 s1 s2 s11 s13 e1 e2 e3 e5 = (bif (decide ((IntKind.wrap .i64 (s13 * 8)) < s11)) then ((D186 (⟨e1, (⟨e2, e3⟩ : Fw.Touch)⟩ : Fw.Mach) s1 s13).bind fun y0 => L169_521372 s1 s2 s11 s13 y0.2.1 0 y0.1.Store y0.1.Touch.Reads y0.1.Touch.Writes e5) else L169_255 e1 e2 e3 e5) := (Ln_eq _ _ _).trans (by kernel_rfl)
theorem P169_255 (e1 : List Fw.Cell) (e2 : List ByteArray) (e3 : List ByteArray) (e5 : List UInt8) : L169_255 e1 e2 e3 e5 = (some ((⟨e1, (⟨e2, e3⟩ : Fw.Touch)⟩ : Fw.Mach), ((bstr (e5.map fun x => x)), ()))) := (Ln_eq _ _ _).trans (by kernel_rfl)
theorem P169_521372 (s1 : Int) (s2 : Int) (s11 : Int) (s13 : Int) (s14 : ByteArray) (s15 : Int) (e1 : List Fw.Cell) (e2 : List ByteArray) (e3 : List ByteArray) (e5 : List UInt8) : L169_521372 s1 s2 s11 s13 s14 s15 e1 e2 e3 e5 = (bif ((decide (s15 < (s14.size : Int))) && (decide (s15 < 8))) then (bif ((decide ((IntKind.wrap .i64 ((IntKind.wrap .i64 (s13 * 8)) + s15)) ≥ s2)) && (decide ((IntKind.wrap .i64 ((IntKind.wrap .i64 (s13 * 8)) + s15)) < s11))) then (gd ((decide (0 ≤ s15)) && (decide (s15 < (s14.size : Int)))) <| gd ((decide (((e5.length + 1) * 1) ≤ 140737488355328)) && (decide ((e5.length + 1) ≤ 9223372036854775807))) <| L169_2085491 s1 s2 s11 s13 s14 s15 e1 e2 e3 (e5 ++ [(u8of ((byteAt s14 s15.toNat).toNat : Int))])) else L169_2085491 s1 s2 s11 s13 s14 s15 e1 e2 e3 e5) else L169_8147 s1 s2 s11 s13 e1 e2 e3 e5) := (Ln_eq _ _ _).trans (by kernel_rfl)
theorem P169_8147 (s1 : Int) (s2 : Int) (s11 : Int) (s13 : Int) (e1 : List Fw.Cell) (e2 : List ByteArray) (e3 : List ByteArray) (e5 : List UInt8) : L169_8147 s1 s2 s11 s13 e1 e2 e3 e5 = (L169_2036 s1 s2 s11 (IntKind.wrap .i64 (s13 + 1)) e1 e2 e3 e5) := (Ln_eq _ _ _).trans (by kernel_rfl)
theorem P169_2085491 (s1 : Int) (s2 : Int) (s11 : Int) (s13 : Int) (s14 : ByteArray) (s15 : Int) (e1 : List Fw.Cell) (e2 : List ByteArray) (e3 : List ByteArray) (e5 : List UInt8) : L169_2085491 s1 s2 s11 s13 s14 s15 e1 e2 e3 e5 = (L169_521372 s1 s2 s11 s13 s14 (IntKind.wrap .i64 (s15 + 1)) e1 e2 e3 e5) := (Ln_eq _ _ _).trans (by kernel_rfl)
noncomputable def L170_1012 (s1 : Int) (s2 : Int) (s3 : ByteArray) (s10 : Int) (s11 : Int) (s12 : Int) (e1 : List Fw.Cell) (e2 : List ByteArray) (e3 : List ByteArray) : Option (Fw.Mach × Int × Unit) := Ln 333 1012 (⟨102, [(1, .ok (.v (.int .i64 s1))), (2, .ok (.v (.int .i64 s2))), (3, .ok (.v (.string s3))), (4, .ok (.pt 0 0)), (8, .ok (.pt 4 0)), (10, .ok (.v (.int .i64 s10))), (11, .ok (.v (.int .i64 s11))), (12, .ok (.v (.int .i64 s12)))], [(0, .var [.sl 1, .sl 2, .sl 3] 160), (1, .own 152 e1), (2, .own 9 e2), (3, .own 9 e3), (4, .var [.v (.slice none 0 0), .v (.slice none 0 0), .v (.slice none 0 0)] 160)]⟩, 5)
noncomputable def L170_127 (s1 : Int) (s10 : Int) (s11 : Int) (e1 : List Fw.Cell) (e2 : List ByteArray) (e3 : List ByteArray) : Option (Fw.Mach × Int × Unit) := Ln 333 127 (⟨102, [(1, .ok (.v (.int .i64 s1))), (4, .ok (.pt 0 0)), (8, .ok (.pt 4 0)), (10, .ok (.v (.int .i64 s10))), (11, .ok (.v (.int .i64 s11)))], [(0, .var [.sl 1, .sl 2, .sl 3] 160), (1, .own 152 e1), (2, .own 9 e2), (3, .own 9 e3), (4, .var [.v (.slice none 0 0), .v (.slice none 0 0), .v (.slice none 0 0)] 160)]⟩, 5)
noncomputable def L170_1036916 (s1 : Int) (s2 : Int) (s3 : ByteArray) (s10 : Int) (s11 : Int) (s12 : Int) (s15 : Int) (e1 : List Fw.Cell) (e2 : List ByteArray) (e3 : List ByteArray) (e5 : List UInt8) : Option (Fw.Mach × Int × Unit) := Ln 333 1036916 (⟨102, [(1, .ok (.v (.int .i64 s1))), (2, .ok (.v (.int .i64 s2))), (3, .ok (.v (.string s3))), (4, .ok (.pt 0 0)), (8, .ok (.pt 4 0)), (10, .ok (.v (.int .i64 s10))), (11, .ok (.v (.int .i64 s11))), (12, .ok (.v (.int .i64 s12))), (14, .ok (.sl 5)), (15, .ok (.v (.int .i64 s15)))], [(0, .var [.sl 1, .sl 2, .sl 3] 160), (1, .own 152 e1), (2, .own 9 e2), (3, .own 9 e3), (4, .var [.v (.slice none 0 0), .v (.slice none 0 0), .v (.slice none 0 0)] 160), (5, .own 5 e5)]⟩, 6)
noncomputable def L170_255 (e1 : List Fw.Cell) (e2 : List ByteArray) (e3 : List ByteArray) : Option (Fw.Mach × Int × Unit) := Ln 333 255 (⟨102, [(4, .ok (.pt 0 0)), (8, .ok (.pt 4 0))], [(0, .var [.sl 1, .sl 2, .sl 3] 160), (1, .own 152 e1), (2, .own 9 e2), (3, .own 9 e3), (4, .var [.v (.slice none 0 0), .v (.slice none 0 0), .v (.slice none 0 0)] 160)]⟩, 5)
noncomputable def L170_129615 (s1 : Int) (s2 : Int) (s3 : ByteArray) (s10 : Int) (s11 : Int) (s12 : Int) (e1 : List Fw.Cell) (e2 : List ByteArray) (e3 : List ByteArray) (e5 : List UInt8) : Option (Fw.Mach × Int × Unit) := Ln 333 129615 (⟨102, [(1, .ok (.v (.int .i64 s1))), (2, .ok (.v (.int .i64 s2))), (3, .ok (.v (.string s3))), (4, .ok (.pt 0 0)), (8, .ok (.pt 4 0)), (10, .ok (.v (.int .i64 s10))), (11, .ok (.v (.int .i64 s11))), (12, .ok (.v (.int .i64 s12))), (14, .ok (.sl 5))], [(0, .var [.sl 1, .sl 2, .sl 3] 160), (1, .own 152 e1), (2, .own 9 e2), (3, .own 9 e3), (4, .var [.v (.slice none 0 0), .v (.slice none 0 0), .v (.slice none 0 0)] 160), (5, .own 5 e5)]⟩, 6)
noncomputable def L170_265450648 (s1 : Int) (s2 : Int) (s3 : ByteArray) (s10 : Int) (s11 : Int) (s12 : Int) (s15 : Int) (s16 : Int) (e1 : List Fw.Cell) (e2 : List ByteArray) (e3 : List ByteArray) (e5 : List UInt8) : Option (Fw.Mach × Int × Unit) := Ln 333 265450648 (⟨102, [(1, .ok (.v (.int .i64 s1))), (2, .ok (.v (.int .i64 s2))), (3, .ok (.v (.string s3))), (4, .ok (.pt 0 0)), (8, .ok (.pt 4 0)), (10, .ok (.v (.int .i64 s10))), (11, .ok (.v (.int .i64 s11))), (12, .ok (.v (.int .i64 s12))), (14, .ok (.sl 5)), (15, .ok (.v (.int .i64 s15))), (16, .ok (.v (.int .i64 s16)))], [(0, .var [.sl 1, .sl 2, .sl 3] 160), (1, .own 152 e1), (2, .own 9 e2), (3, .own 9 e3), (4, .var [.v (.slice none 0 0), .v (.slice none 0 0), .v (.slice none 0 0)] 160), (5, .own 5 e5)]⟩, 6)
noncomputable def L170_4147667 (s1 : Int) (s2 : Int) (s3 : ByteArray) (s10 : Int) (s11 : Int) (s12 : Int) (s15 : Int) (e1 : List Fw.Cell) (e2 : List ByteArray) (e3 : List ByteArray) (e5 : List UInt8) : Option (Fw.Mach × Int × Unit) := Ln 333 4147667 (⟨102, [(1, .ok (.v (.int .i64 s1))), (2, .ok (.v (.int .i64 s2))), (3, .ok (.v (.string s3))), (4, .ok (.pt 0 0)), (8, .ok (.pt 4 0)), (10, .ok (.v (.int .i64 s10))), (11, .ok (.v (.int .i64 s11))), (12, .ok (.v (.int .i64 s12))), (14, .ok (.sl 5)), (15, .ok (.v (.int .i64 s15)))], [(0, .var [.sl 1, .sl 2, .sl 3] 160), (1, .own 152 e1), (2, .own 9 e2), (3, .own 9 e3), (4, .var [.v (.slice none 0 0), .v (.slice none 0 0), .v (.slice none 0 0)] 160), (5, .own 5 e5)]⟩, 6)
noncomputable def L170_4051 (s1 : Int) (s2 : Int) (s3 : ByteArray) (s10 : Int) (s11 : Int) (s12 : Int) (e1 : List Fw.Cell) (e2 : List ByteArray) (e3 : List ByteArray) : Option (Fw.Mach × Int × Unit) := Ln 333 4051 (⟨102, [(1, .ok (.v (.int .i64 s1))), (2, .ok (.v (.int .i64 s2))), (3, .ok (.v (.string s3))), (4, .ok (.pt 0 0)), (8, .ok (.pt 4 0)), (10, .ok (.v (.int .i64 s10))), (11, .ok (.v (.int .i64 s11))), (12, .ok (.v (.int .i64 s12)))], [(0, .var [.sl 1, .sl 2, .sl 3] 160), (1, .own 152 e1), (2, .own 9 e2), (3, .own 9 e3), (4, .var [.v (.slice none 0 0), .v (.slice none 0 0), .v (.slice none 0 0)] 160)]⟩, 5)
noncomputable def L170_66362663 (s1 : Int) (s2 : Int) (s3 : ByteArray) (s10 : Int) (s11 : Int) (s12 : Int) (s15 : Int) (s16 : Int) (e1 : List Fw.Cell) (e2 : List ByteArray) (e3 : List ByteArray) (e5 : List UInt8) : Option (Fw.Mach × Int × Unit) := Ln 333 66362663 (⟨102, [(1, .ok (.v (.int .i64 s1))), (2, .ok (.v (.int .i64 s2))), (3, .ok (.v (.string s3))), (4, .ok (.pt 0 0)), (8, .ok (.pt 4 0)), (10, .ok (.v (.int .i64 s10))), (11, .ok (.v (.int .i64 s11))), (12, .ok (.v (.int .i64 s12))), (14, .ok (.sl 5)), (15, .ok (.v (.int .i64 s15))), (16, .ok (.v (.int .i64 s16)))], [(0, .var [.sl 1, .sl 2, .sl 3] 160), (1, .own 152 e1), (2, .own 9 e2), (3, .own 9 e3), (4, .var [.v (.slice none 0 0), .v (.slice none 0 0), .v (.slice none 0 0)] 160), (5, .own 5 e5)]⟩, 6)
theorem E170 (x0 : Fw.Mach) (x1 : Int) (x2 : Int) (x3 : ByteArray) : D170 x0 x1 x2 x3 = ((D185 x0 x1).bind fun y0 => (D27 x2 0 y0.2.1).bind fun y1 => bif ((!y1.1) || (decide (x3 = (tx [])))) then (some (y0.1, (4, ()))) else bif (decide ((IntKind.wrap .i64 (x2 + (x3.size : Int))) > 64)) then (some (y0.1, (3, ()))) else gd (!(decide (8 = 0))) <| L170_1012 x1 x2 x3 y0.2.1 (IntKind.wrap .i64 (x2 + (x3.size : Int))) (IntKind.wrap .i64 (Int.tdiv x2 8)) y0.1.Store y0.1.Touch.Reads y0.1.Touch.Writes) := (Dn_eq _ _).trans (by kernel_rfl)
theorem P170_1012 (s1 : Int) (s2 : Int) (s3 : ByteArray) (s10 : Int) (s11 : Int) (s12 : Int) (e1 : List Fw.Cell) (e2 : List ByteArray) (e3 : List ByteArray) : L170_1012 s1 s2 s3 s10 s11 s12 e1 e2 e3 = (bif (decide ((IntKind.wrap .i64 (s12 * 8)) < s11)) then ((D186 (⟨e1, (⟨e2, e3⟩ : Fw.Touch)⟩ : Fw.Mach) s1 s12).bind fun y0 => L170_1036916 s1 s2 s3 s10 s11 s12 0 y0.1.Store y0.1.Touch.Reads y0.1.Touch.Writes ((sbytes y0.2.1).map fun x => x)) else L170_127 s1 s10 s11 e1 e2 e3) := (Ln_eq _ _ _).trans (by kernel_rfl)
theorem P170_127 (s1 : Int) (s10 : Int) (s11 : Int) (e1 : List Fw.Cell) (e2 : List ByteArray) (e3 : List ByteArray) : L170_127 s1 s10 s11 e1 e2 e3 = (bif (decide (s11 > s10)) then ((D112 (tx [105, 47]) s1 (tx [47, 115])).bind fun y0 => (D90 (⟨e1, (⟨e2, e3⟩ : Fw.Touch)⟩ : Fw.Mach) y0.1 s11).bind fun y1 => L170_255 y1.1.Store y1.1.Touch.Reads y1.1.Touch.Writes) else L170_255 e1 e2 e3) := (Ln_eq _ _ _).trans (by kernel_rfl)
theorem P170_1036916 (s1 : Int) (s2 : Int) (s3 : ByteArray) (s10 : Int) (s11 : Int) (s12 : Int) (s15 : Int) (e1 : List Fw.Cell) (e2 : List ByteArray) (e3 : List ByteArray) (e5 : List UInt8) : L170_1036916 s1 s2 s3 s10 s11 s12 s15 e1 e2 e3 e5 = (bif (decide (s15 < 8)) then (bif ((decide ((IntKind.wrap .i64 ((IntKind.wrap .i64 (s12 * 8)) + s15)) < s2)) || (decide ((IntKind.wrap .i64 ((IntKind.wrap .i64 (s12 * 8)) + s15)) ≥ s11))) then (L170_4147667 s1 s2 s3 s10 s11 s12 s15 e1 e2 e3 e5) else L170_265450648 s1 s2 s3 s10 s11 s12 s15 (IntKind.wrap .i64 ((IntKind.wrap .i64 (s12 * 8)) + s15)) e1 e2 e3 e5) else L170_129615 s1 s2 s3 s10 s11 s12 e1 e2 e3 e5) := (Ln_eq _ _ _).trans (by kernel_rfl)
theorem P170_255 (e1 : List Fw.Cell) (e2 : List ByteArray) (e3 : List ByteArray) : L170_255 e1 e2 e3 = (some ((⟨e1, (⟨e2, e3⟩ : Fw.Touch)⟩ : Fw.Mach), (0, ()))) := (Ln_eq _ _ _).trans (by kernel_rfl)
theorem P170_129615 (s1 : Int) (s2 : Int) (s3 : ByteArray) (s10 : Int) (s11 : Int) (s12 : Int) (e1 : List Fw.Cell) (e2 : List ByteArray) (e3 : List ByteArray) (e5 : List UInt8) : L170_129615 s1 s2 s3 s10 s11 s12 e1 e2 e3 e5 = ((D187 (⟨e1, (⟨e2, e3⟩ : Fw.Touch)⟩ : Fw.Mach) s1 s12 (bstr (e5.map fun x => x))).bind fun y0 => L170_4051 s1 s2 s3 s10 s11 s12 y0.1.Store y0.1.Touch.Reads y0.1.Touch.Writes) := (Ln_eq _ _ _).trans (by kernel_rfl)
theorem P170_265450648 (s1 : Int) (s2 : Int) (s3 : ByteArray) (s10 : Int) (s11 : Int) (s12 : Int) (s15 : Int) (s16 : Int) (e1 : List Fw.Cell) (e2 : List ByteArray) (e3 : List ByteArray) (e5 : List UInt8) : L170_265450648 s1 s2 s3 s10 s11 s12 s15 s16 e1 e2 e3 e5 = (bif (decide ((e5.length : Int) ≤ s15)) then (gd ((decide (((e5.length + 1) * 1) ≤ 140737488355328)) && (decide ((e5.length + 1) ≤ 9223372036854775807))) <| L170_265450648 s1 s2 s3 s10 s11 s12 s15 s16 e1 e2 e3 (e5 ++ [(u8of 0)])) else L170_66362663 s1 s2 s3 s10 s11 s12 s15 s16 e1 e2 e3 e5) := (Ln_eq _ _ _).trans (by kernel_rfl)
theorem P170_4147667 (s1 : Int) (s2 : Int) (s3 : ByteArray) (s10 : Int) (s11 : Int) (s12 : Int) (s15 : Int) (e1 : List Fw.Cell) (e2 : List ByteArray) (e3 : List ByteArray) (e5 : List UInt8) : L170_4147667 s1 s2 s3 s10 s11 s12 s15 e1 e2 e3 e5 = (L170_1036916 s1 s2 s3 s10 s11 s12 (IntKind.wrap .i64 (s15 + 1)) e1 e2 e3 e5) := (Ln_eq _ _ _).trans (by kernel_rfl)
theorem P170_4051 (s1 : Int) (s2 : Int) (s3 : ByteArray) (s10 : Int) (s11 : Int) (s12 : Int) (e1 : List Fw.Cell) (e2 : List ByteArray) (e3 : List ByteArray) : L170_4051 s1 s2 s3 s10 s11 s12 e1 e2 e3 = (L170_1012 s1 s2 s3 s10 s11 (IntKind.wrap .i64 (s12 + 1)) e1 e2 e3) := (Ln_eq _ _ _).trans (by kernel_rfl)
theorem P170_66362663 (s1 : Int) (s2 : Int) (s3 : ByteArray) (s10 : Int) (s11 : Int) (s12 : Int) (s15 : Int) (s16 : Int) (e1 : List Fw.Cell) (e2 : List ByteArray) (e3 : List ByteArray) (e5 : List UInt8) : L170_66362663 s1 s2 s3 s10 s11 s12 s15 s16 e1 e2 e3 e5 = (gd ((decide (0 ≤ (IntKind.wrap .i64 (s16 - s2)))) && (decide ((IntKind.wrap .i64 (s16 - s2)) < (s3.size : Int)))) <| gd ((decide (0 ≤ s15)) && (decide (s15 < (e5.length : Int)))) <| L170_4147667 s1 s2 s3 s10 s11 s12 s15 e1 e2 e3 (e5.set s15.toNat (u8of ((byteAt s3 (IntKind.wrap .i64 (s16 - s2)).toNat).toNat : Int)))) := (Ln_eq _ _ _).trans (by kernel_rfl)
noncomputable def L171_63 (s1 : Int) (s2 : Int) (s8 : Int) (s9 : Int) (e1 : List Fw.Cell) (e2 : List ByteArray) (e3 : List ByteArray) : Option (Fw.Mach × Int × Unit) := Ln 334 63 (⟨63, [(1, .ok (.v (.int .i64 s1))), (2, .ok (.v (.int .i64 s2))), (3, .ok (.pt 0 0)), (6, .ok (.pt 4 0)), (8, .ok (.v (.int .i64 s8))), (9, .ok (.v (.int .i64 s9)))], [(0, .var [.sl 1, .sl 2, .sl 3] 160), (1, .own 152 e1), (2, .own 9 e2), (3, .own 9 e3), (4, .var [.v (.slice none 0 0), .v (.slice none 0 0), .v (.slice none 0 0)] 160)]⟩, 5)
noncomputable def L171_504 (s1 : Int) (s2 : Int) (s8 : Int) (s9 : Int) (e1 : List Fw.Cell) (e2 : List ByteArray) (e3 : List ByteArray) : Option (Fw.Mach × Int × Unit) := Ln 334 504 (⟨63, [(1, .ok (.v (.int .i64 s1))), (2, .ok (.v (.int .i64 s2))), (3, .ok (.pt 0 0)), (6, .ok (.pt 4 0)), (8, .ok (.v (.int .i64 s8))), (9, .ok (.v (.int .i64 s9)))], [(0, .var [.sl 1, .sl 2, .sl 3] 160), (1, .own 152 e1), (2, .own 9 e2), (3, .own 9 e3), (4, .var [.v (.slice none 0 0), .v (.slice none 0 0), .v (.slice none 0 0)] 160)]⟩, 5)
noncomputable def L171_127 (s1 : Int) (s2 : Int) (e1 : List Fw.Cell) (e2 : List ByteArray) (e3 : List ByteArray) : Option (Fw.Mach × Int × Unit) := Ln 334 127 (⟨63, [(1, .ok (.v (.int .i64 s1))), (2, .ok (.v (.int .i64 s2))), (3, .ok (.pt 0 0)), (6, .ok (.pt 4 0))], [(0, .var [.sl 1, .sl 2, .sl 3] 160), (1, .own 152 e1), (2, .own 9 e2), (3, .own 9 e3), (4, .var [.v (.slice none 0 0), .v (.slice none 0 0), .v (.slice none 0 0)] 160)]⟩, 5)
theorem E171 (x0 : Fw.Mach) (x1 : Int) (x2 : Int) : D171 x0 x1 x2 = ((D185 x0 x1).bind fun y0 => (D27 x2 0 y0.2.1).bind fun y1 => bif (!y1.1) then (some (y0.1, (4, ()))) else gd (!(decide (8 = 0))) <| gd (!(decide (8 = 0))) <| bif (decide ((Int.tmod x2 8) > 0)) then ((D186 y0.1 x1 (IntKind.wrap .i64 (Int.tdiv x2 8))).bind fun y2 => gd (!(decide (8 = 0))) <| (D106 (Int.tmod x2 8) 0 (y2.2.1.size : Int)).bind fun y3 => gd ((decide (0 ≤ 0)) && ((decide (0 ≤ y3.1)) && (decide (y3.1 ≤ (y2.2.1.size : Int))))) <| (D187 y2.1 x1 (IntKind.wrap .i64 (Int.tdiv x2 8)) (cutS y2.2.1 (0 : Int).toNat y3.1.toNat)).bind fun y4 => L171_63 x1 x2 y0.2.1 (IntKind.wrap .i64 ((IntKind.wrap .i64 (Int.tdiv x2 8)) + 1)) y4.1.Store y4.1.Touch.Reads y4.1.Touch.Writes) else L171_63 x1 x2 y0.2.1 (IntKind.wrap .i64 (Int.tdiv x2 8)) y0.1.Store y0.1.Touch.Reads y0.1.Touch.Writes) := (Dn_eq _ _).trans (by kernel_rfl)
theorem P171_63 (s1 : Int) (s2 : Int) (s8 : Int) (s9 : Int) (e1 : List Fw.Cell) (e2 : List ByteArray) (e3 : List ByteArray) : L171_63 s1 s2 s8 s9 e1 e2 e3 = (L171_504 s1 s2 s8 s9 e1 e2 e3) := (Ln_eq _ _ _).trans (by kernel_rfl)
theorem P171_504 (s1 : Int) (s2 : Int) (s8 : Int) (s9 : Int) (e1 : List Fw.Cell) (e2 : List ByteArray) (e3 : List ByteArray) : L171_504 s1 s2 s8 s9 e1 e2 e3 = (bif (decide ((IntKind.wrap .i64 (s9 * 8)) < s8)) then ((D188 s1 s9).bind fun y0 => (D131 (⟨e1, (⟨e2, e3⟩ : Fw.Touch)⟩ : Fw.Mach) y0.1 (tx [])).bind fun y1 => L171_504 s1 s2 s8 (IntKind.wrap .i64 (s9 + 1)) y1.1.Store y1.1.Touch.Reads y1.1.Touch.Writes) else L171_127 s1 s2 e1 e2 e3) := (Ln_eq _ _ _).trans (by kernel_rfl)
theorem P171_127 (s1 : Int) (s2 : Int) (e1 : List Fw.Cell) (e2 : List ByteArray) (e3 : List ByteArray) : L171_127 s1 s2 e1 e2 e3 = ((D112 (tx [105, 47]) s1 (tx [47, 115])).bind fun y0 => (D90 (⟨e1, (⟨e2, e3⟩ : Fw.Touch)⟩ : Fw.Mach) y0.1 s2).bind fun y1 => some (y1.1, (0, ()))) := (Ln_eq _ _ _).trans (by kernel_rfl)
theorem E172 (x0 : Int) (x1 : ByteArray) : D172 x0 x1 = ((D112 (tx [112, 47]) x0 x1).bind fun y0 => some (y0.1, ())) := (Dn_eq _ _).trans (by kernel_rfl)
theorem E173 (x0 : Fw.Mach) (x1 : Int) : D173 x0 x1 = ((D172 x1 (tx [47, 111])).bind fun y0 => (D88 x0 y0.1).bind fun y1 => some (y1.1, ((decide (y1.2.1 = 1)), ()))) := (Dn_eq _ _).trans (by kernel_rfl)
theorem E174 (x0 : Int) (x1 : Int) : D174 x0 x1 = ((D172 x0 (tx [47, 113, 47])).bind fun y0 => (D112 y0.1 x1 (tx [])).bind fun y1 => some (y1.1, ())) := (Dn_eq _ _).trans (by kernel_rfl)
theorem E175 (x0 : Int) (x1 : ByteArray) : D175 x0 x1 = ((D112 (tx [103, 47]) x0 x1).bind fun y0 => some (y0.1, ())) := (Dn_eq _ _).trans (by kernel_rfl)
theorem E176 (x0 : Int) (x1 : Int) : D176 x0 x1 = ((D175 x0 (tx [47, 113, 47])).bind fun y0 => (D112 y0.1 x1 (tx [])).bind fun y1 => some (y1.1, ())) := (Dn_eq _ _).trans (by kernel_rfl)
theorem E177 (x0 : Fw.Mach) (x1 : ByteArray) : D177 x0 x1 = (gd (decide ((x1.size + (tx [42]).size) ≤ 9223372036854775807)) <| (D135 x0.Touch.Reads (x1 ++ (tx [42]))).bind fun y0 => (D189 x0.Store x1).bind fun y1 => some ((⟨x0.Store, (⟨y0.1, x0.Touch.Writes⟩ : Fw.Touch)⟩ : Fw.Mach), (y1.1, ()))) := (Dn_eq _ _).trans (by kernel_rfl)
theorem E178 (x0 : Int) : D178 x0 = ((D112 (tx [109, 47]) x0 (tx [47])).bind fun y0 => some (y0.1, ())) := (Dn_eq _ _).trans (by kernel_rfl)
noncomputable def L179_116 (s1 : Int) (s2 : Int) (s8 : Int) (e1 : List Fw.Cell) (e2 : List ByteArray) (e3 : List ByteArray) (e5 : List ByteArray) : Option (Fw.Mach × Unit) := Ln 343 116 (⟨47, [(1, .ok (.v (.int .i64 s1))), (2, .ok (.v (.int .i64 s2))), (3, .ok (.pt 0 0)), (6, .ok (.pt 4 0)), (7, .ok (.sl 5)), (8, .ok (.v (.int .i64 s8)))], [(0, .var [.sl 1, .sl 2, .sl 3] 160), (1, .own 152 e1), (2, .own 9 e2), (3, .own 9 e3), (4, .var [.v (.slice none 0 0), .v (.slice none 0 0), .v (.slice none 0 0)] 160), (5, .own 9 e5)]⟩, 6)
noncomputable def L179_15 (e1 : List Fw.Cell) (e2 : List ByteArray) (e3 : List ByteArray) : Option (Fw.Mach × Unit) := Ln 343 15 (⟨47, [(3, .ok (.pt 0 0)), (6, .ok (.pt 4 0))], [(0, .var [.sl 1, .sl 2, .sl 3] 160), (1, .own 152 e1), (2, .own 9 e2), (3, .own 9 e3), (4, .var [.v (.slice none 0 0), .v (.slice none 0 0), .v (.slice none 0 0)] 160)]⟩, 5)
theorem E179 (x0 : Fw.Mach) (x1 : Int) (x2 : Int) : D179 x0 x1 x2 = ((D178 x1).bind fun y0 => (D177 x0 y0.1).bind fun y1 => L179_116 x1 x2 0 y1.1.Store y1.1.Touch.Reads y1.1.Touch.Writes y1.2.1) := (Dn_eq _ _).trans (by kernel_rfl)
theorem P179_116 (s1 : Int) (s2 : Int) (s8 : Int) (e1 : List Fw.Cell) (e2 : List ByteArray) (e3 : List ByteArray) (e5 : List ByteArray) : L179_116 s1 s2 s8 e1 e2 e3 e5 = (bif (decide (s8 < (e5.length : Int))) then (gd ((decide (0 ≤ s8)) && (decide (s8 < (e5.length : Int)))) <| (D130 (⟨e1, (⟨e2, e3⟩ : Fw.Touch)⟩ : Fw.Mach) (nth e5 s8.toNat)).bind fun y0 => (D178 s2).bind fun y1 => gd ((decide (0 ≤ s8)) && (decide (s8 < (e5.length : Int)))) <| (D178 s1).bind fun y2 => gd ((decide (0 ≤ (y2.1.size : Int))) && ((decide ((y2.1.size : Int) ≤ ((nth e5 s8.toNat).size : Int))) && (decide (((nth e5 s8.toNat).size : Int) ≤ ((nth e5 s8.toNat).size : Int))))) <| gd (decide ((y1.1.size + (cutS (nth e5 s8.toNat) (y2.1.size : Int).toNat ((nth e5 s8.toNat).size : Int).toNat).size) ≤ 9223372036854775807)) <| (D131 y0.1 (y1.1 ++ (cutS (nth e5 s8.toNat) (y2.1.size : Int).toNat ((nth e5 s8.toNat).size : Int).toNat)) y0.2.1).bind fun y3 => L179_116 s1 s2 (IntKind.wrap .i64 (s8 + 1)) y3.1.Store y3.1.Touch.Reads y3.1.Touch.Writes e5) else L179_15 e1 e2 e3) := (Ln_eq _ _ _).trans (by kernel_rfl)
theorem P179_15 (e1 : List Fw.Cell) (e2 : List ByteArray) (e3 : List ByteArray) : L179_15 e1 e2 e3 = (some ((⟨e1, (⟨e2, e3⟩ : Fw.Touch)⟩ : Fw.Mach), ())) := (Ln_eq _ _ _).trans (by kernel_rfl)
theorem E180 (x0 : Fw.Mach) (x1 : Int) (x2 : Int) : D180 x0 x1 x2 = ((D136 x0 x1).bind fun y0 => bif (!(decide (y0.2.1 = 1))) then (some (y0.1, (2, ()))) else (D27 x2 0 100).bind fun y1 => bif (!y1.1) then (some (y0.1, (4, ()))) else (D91 x1 (tx [47, 115])).bind fun y2 => (D90 y0.1 y2.1 2).bind fun y3 => (D91 x1 (tx [47, 120])).bind fun y4 => (D90 y3.1 y4.1 (IntKind.wrap .i64 (x2 + 1))).bind fun y5 => some (y5.1, (0, ()))) := (Dn_eq _ _).trans (by kernel_rfl)
theorem E181 (x0 : Fw.Mach) (x1 : Int) : D181 x0 x1 = ((D178 x1).bind fun y0 => (D167 x0 y0.1).bind fun y1 => some (y1.1, ())) := (Dn_eq _ _).trans (by kernel_rfl)
end Go.Proofs.YtdghkmbppfmifaaGreatDoor.Ri

namespace Go.Proofs.YtdghkmbppfmifaaGreatDoor.Ri
open Go.Proofs.YtdghkmbppfmifaaGreatDoor.Fw
open Go.RowKit
set_option linter.unusedVariables false
set_option maxRecDepth 100000
theorem E182 (x0 : Fw.Mach) (x1 : Int) (x2 : Int) : D182 x0 x1 x2 = ((D91 x2 (tx [47, 112])).bind fun y0 => (D88 x0 y0.1).bind fun y1 => bif ((decide (y1.2.1 = 0)) || (!(decide (y1.2.1 = x1)))) then (some (y1.1, (0, (2, ())))) else (D136 y1.1 x2).bind fun y2 => bif (decide (y2.2.1 = 1)) then (some (y2.1, (0, (5, ())))) else bif (!(decide (y2.2.1 = 2))) then (some (y2.1, (0, (2, ())))) else (D91 x2 (tx [47, 120])).bind fun y3 => (D88 y2.1 y3.1).bind fun y4 => (D91 x2 (tx [47])).bind fun y5 => (D167 y4.1 y5.1).bind fun y6 => some (y6.1, ((IntKind.wrap .i64 (y4.2.1 - 1)), (0, ())))) := (Dn_eq _ _).trans (by kernel_rfl)
noncomputable def L183_244 (s1 : Int) (s8 : Int) (e1 : List Fw.Cell) (e2 : List ByteArray) (e3 : List ByteArray) (e5 : List ByteArray) (e6 : List Int) : Option (Fw.Mach × (List Int) × Unit) := Ln 347 244 (⟨58, [(1, .ok (.v (.int .i64 s1))), (2, .ok (.pt 0 0)), (4, .ok (.pt 4 0)), (6, .ok (.sl 5)), (7, .ok (.sl 6)), (8, .ok (.v (.int .i64 s8)))], [(0, .var [.sl 1, .sl 2, .sl 3] 160), (1, .own 152 e1), (2, .own 9 e2), (3, .own 9 e3), (4, .var [.v (.slice none 0 0), .v (.slice none 0 0), .v (.slice none 0 0)] 160), (5, .own 9 e5), (6, .own 3 e6)]⟩, 7)
noncomputable def L183_31 (e1 : List Fw.Cell) (e2 : List ByteArray) (e3 : List ByteArray) (e5 : List Int) : Option (Fw.Mach × (List Int) × Unit) := Ln 347 31 (⟨58, [(2, .ok (.pt 0 0)), (4, .ok (.pt 4 0)), (7, .ok (.sl 5))], [(0, .var [.sl 1, .sl 2, .sl 3] 160), (1, .own 152 e1), (2, .own 9 e2), (3, .own 9 e3), (4, .var [.v (.slice none 0 0), .v (.slice none 0 0), .v (.slice none 0 0)] 160), (5, .own 3 e5)]⟩, 6)
noncomputable def L183_979 (s1 : Int) (s8 : Int) (e1 : List Fw.Cell) (e2 : List ByteArray) (e3 : List ByteArray) (e5 : List ByteArray) (e6 : List Int) : Option (Fw.Mach × (List Int) × Unit) := Ln 347 979 (⟨58, [(1, .ok (.v (.int .i64 s1))), (2, .ok (.pt 0 0)), (4, .ok (.pt 4 0)), (6, .ok (.sl 5)), (7, .ok (.sl 6)), (8, .ok (.v (.int .i64 s8)))], [(0, .var [.sl 1, .sl 2, .sl 3] 160), (1, .own 152 e1), (2, .own 9 e2), (3, .own 9 e3), (4, .var [.v (.slice none 0 0), .v (.slice none 0 0), .v (.slice none 0 0)] 160), (5, .own 9 e5), (6, .own 3 e6)]⟩, 7)
theorem E183 (x0 : Fw.Mach) (x1 : Int) : D183 x0 x1 = ((D177 x0 (tx [114, 47])).bind fun y0 => L183_244 x1 0 y0.1.Store y0.1.Touch.Reads y0.1.Touch.Writes y0.2.1 []) := (Dn_eq _ _).trans (by kernel_rfl)
theorem P183_244 (s1 : Int) (s8 : Int) (e1 : List Fw.Cell) (e2 : List ByteArray) (e3 : List ByteArray) (e5 : List ByteArray) (e6 : List Int) : L183_244 s1 s8 e1 e2 e3 e5 e6 = (bif (decide (s8 < (e5.length : Int))) then (gd ((decide (0 ≤ s8)) && (decide (s8 < (e5.length : Int)))) <| gd (((decide (0 ≤ (IntKind.wrap .i64 (((nth e5 s8.toNat).size : Int) - 2)))) && ((decide ((IntKind.wrap .i64 (((nth e5 s8.toNat).size : Int) - 2)) ≤ ((nth e5 s8.toNat).size : Int))) && (decide (((nth e5 s8.toNat).size : Int) ≤ ((nth e5 s8.toNat).size : Int))))) || (!(!(decide (((nth e5 s8.toNat).size : Int) < 5))))) <| bif ((decide (((nth e5 s8.toNat).size : Int) < 5)) || (!(decide ((cutS (nth e5 s8.toNat) (IntKind.wrap .i64 (((nth e5 s8.toNat).size : Int) - 2)).toNat ((nth e5 s8.toNat).size : Int).toNat) = (tx [47, 112]))))) then (L183_979 s1 s8 e1 e2 e3 e5 e6) else (D88 (⟨e1, (⟨e2, e3⟩ : Fw.Touch)⟩ : Fw.Mach) (nth e5 s8.toNat)).bind fun y0 => bif (decide (y0.2.1 = s1)) then (gd ((decide (0 ≤ 2)) && ((decide (2 ≤ (IntKind.wrap .i64 (((nth e5 s8.toNat).size : Int) - 2)))) && (decide ((IntKind.wrap .i64 (((nth e5 s8.toNat).size : Int) - 2)) ≤ ((nth e5 s8.toNat).size : Int))))) <| (D111 (cutS (nth e5 s8.toNat) (2 : Int).toNat (IntKind.wrap .i64 (((nth e5 s8.toNat).size : Int) - 2)).toNat)).bind fun y1 => gd ((decide (((e6.length + 1) * 8) ≤ 140737488355328)) && (decide ((e6.length + 1) ≤ 9223372036854775807))) <| L183_979 s1 s8 y0.1.Store y0.1.Touch.Reads y0.1.Touch.Writes e5 (e6 ++ [y1.1])) else L183_979 s1 s8 y0.1.Store y0.1.Touch.Reads y0.1.Touch.Writes e5 e6) else L183_31 e1 e2 e3 e6) := (Ln_eq _ _ _).trans (by kernel_rfl)
theorem P183_31 (e1 : List Fw.Cell) (e2 : List ByteArray) (e3 : List ByteArray) (e5 : List Int) : L183_31 e1 e2 e3 e5 = (some ((⟨e1, (⟨e2, e3⟩ : Fw.Touch)⟩ : Fw.Mach), (e5, ()))) := (Ln_eq _ _ _).trans (by kernel_rfl)
theorem P183_979 (s1 : Int) (s8 : Int) (e1 : List Fw.Cell) (e2 : List ByteArray) (e3 : List ByteArray) (e5 : List ByteArray) (e6 : List Int) : L183_979 s1 s8 e1 e2 e3 e5 e6 = (L183_244 s1 (IntKind.wrap .i64 (s8 + 1)) e1 e2 e3 e5 e6) := (Ln_eq _ _ _).trans (by kernel_rfl)
theorem E184 (x0 : ByteArray) (x1 : ByteArray) : D184 x0 x1 = ((D190 x0).bind fun y0 => (D190 x1).bind fun y1 => bif (y0.2.1 && y1.2.1) then ((D191 y0.1 y1.1).bind fun y4 => bif (!y4.1) then ((D191 y1.1 y0.1).bind fun y5 => some (y5.1, ())) else some (true, ())) else bif y0.2.1 then ((D191 x1 y0.1).bind fun y3 => some (y3.1, ())) else (D192 x1 x0).bind fun y2 => some (y2.1, ())) := (Dn_eq _ _).trans (by kernel_rfl)
theorem E185 (x0 : Fw.Mach) (x1 : Int) : D185 x0 x1 = ((D112 (tx [105, 47]) x1 (tx [47, 115])).bind fun y0 => (D88 x0 y0.1).bind fun y1 => some (y1.1, (y1.2.1, ()))) := (Dn_eq _ _).trans (by kernel_rfl)
theorem E186 (x0 : Fw.Mach) (x1 : Int) (x2 : Int) : D186 x0 x1 x2 = ((D188 x1 x2).bind fun y0 => (D130 x0 y0.1).bind fun y1 => (D113 y1.2.1).bind fun y2 => bif (!y2.2.1) then (some (y1.1, ((tx []), ()))) else some (y1.1, (y2.1, ()))) := (Dn_eq _ _).trans (by kernel_rfl)
theorem E187 (x0 : Fw.Mach) (x1 : Int) (x2 : Int) (x3 : ByteArray) : D187 x0 x1 x2 x3 = ((D157 x3).bind fun y0 => (D188 x1 x2).bind fun y1 => (D131 x0 y1.1 y0.1).bind fun y2 => some (y2.1, ())) := (Dn_eq _ _).trans (by kernel_rfl)
theorem E188 (x0 : Int) (x1 : Int) : D188 x0 x1 = ((D112 (tx [105, 47]) x0 (tx [47, 98, 47])).bind fun y0 => (D112 y0.1 x1 (tx [])).bind fun y1 => some (y1.1, ())) := (Dn_eq _ _).trans (by kernel_rfl)
noncomputable def L189_116 (s0 : List Fw.Cell) (s1 : ByteArray) (s6 : Int) (e0 : List ByteArray) : Option ((List ByteArray) × Unit) := Ln 369 116 (⟨30, [(0, .ok (.ro 152 s0)), (1, .ok (.v (.string s1))), (5, .ok (.sl 0)), (6, .ok (.v (.int .i64 s6)))], [(0, .own 9 e0)]⟩, 1)
noncomputable def L189_15 (e0 : List ByteArray) : Option ((List ByteArray) × Unit) := Ln 369 15 (⟨30, [(5, .ok (.sl 0))], [(0, .own 9 e0)]⟩, 1)
noncomputable def L189_467 (s0 : List Fw.Cell) (s1 : ByteArray) (s6 : Int) (e0 : List ByteArray) : Option ((List ByteArray) × Unit) := Ln 369 467 (⟨30, [(0, .ok (.ro 152 s0)), (1, .ok (.v (.string s1))), (5, .ok (.sl 0)), (6, .ok (.v (.int .i64 s6)))], [(0, .own 9 e0)]⟩, 1)
theorem E189 (x0 : List Fw.Cell) (x1 : ByteArray) : D189 x0 x1 = (L189_116 x0 x1 0 []) := (Dn_eq _ _).trans (by kernel_rfl)
theorem P189_116 (s0 : List Fw.Cell) (s1 : ByteArray) (s6 : Int) (e0 : List ByteArray) : L189_116 s0 s1 s6 e0 = (bif (decide (s6 < (s0.length : Int))) then (gd ((decide (0 ≤ s6)) && (decide (s6 < (s0.length : Int)))) <| (D191 (nth s0 s6.toNat).Key s1).bind fun y0 => bif y0.1 then (gd ((decide (0 ≤ s6)) && (decide (s6 < (s0.length : Int)))) <| gd ((decide (((e0.length + 1) * 16) ≤ 140737488355328)) && (decide ((e0.length + 1) ≤ 9223372036854775807))) <| L189_467 s0 s1 s6 (e0 ++ [(nth s0 s6.toNat).Key])) else L189_467 s0 s1 s6 e0) else L189_15 e0) := (Ln_eq _ _ _).trans (by kernel_rfl)
theorem P189_15 (e0 : List ByteArray) : L189_15 e0 = (some (e0, ())) := (Ln_eq _ _ _).trans (by kernel_rfl)
theorem P189_467 (s0 : List Fw.Cell) (s1 : ByteArray) (s6 : Int) (e0 : List ByteArray) : L189_467 s0 s1 s6 e0 = (L189_116 s0 s1 (IntKind.wrap .i64 (s6 + 1)) e0) := (Ln_eq _ _ _).trans (by kernel_rfl)
theorem E190 (x0 : ByteArray) : D190 x0 = (gd (((decide (0 ≤ (IntKind.wrap .i64 ((x0.size : Int) - 1)))) && (decide ((IntKind.wrap .i64 ((x0.size : Int) - 1)) < (x0.size : Int)))) || (!(decide ((x0.size : Int) > 0)))) <| bif ((decide ((x0.size : Int) > 0)) && (decide (((byteAt x0 (IntKind.wrap .i64 ((x0.size : Int) - 1)).toNat).toNat : Int) = 42))) then (gd ((decide (0 ≤ 0)) && ((decide (0 ≤ (IntKind.wrap .i64 ((x0.size : Int) - 1)))) && (decide ((IntKind.wrap .i64 ((x0.size : Int) - 1)) ≤ (x0.size : Int))))) <| some ((cutS x0 (0 : Int).toNat (IntKind.wrap .i64 ((x0.size : Int) - 1)).toNat), (true, ()))) else some (x0, (false, ()))) := (Dn_eq _ _).trans (by kernel_rfl)
theorem E191 (x0 : ByteArray) (x1 : ByteArray) : D191 x0 x1 = (gd (((decide (0 ≤ 0)) && ((decide (0 ≤ (x1.size : Int))) && (decide ((x1.size : Int) ≤ (x0.size : Int))))) || (!(decide ((x0.size : Int) ≥ (x1.size : Int))))) <| some (((decide ((x0.size : Int) ≥ (x1.size : Int))) && (decide ((cutS x0 (0 : Int).toNat (x1.size : Int).toNat) = x1))), ())) := (Dn_eq _ _).trans (by kernel_rfl)
theorem E192 (x0 : ByteArray) (x1 : ByteArray) : D192 x0 x1 = ((D190 x0).bind fun y0 => bif y0.2.1 then ((D191 x1 y0.1).bind fun y1 => some (y1.1, ())) else some ((decide (x0 = x1)), ())) := (Dn_eq _ _).trans (by kernel_rfl)
theorem E1075 (x0 : Fw.Disk) : D1075 x0 = ((D55 x0).bind fun y0 => (D95 y0.1).bind fun y1 => bif (!y1.1) then (some (y0.1, ())) else (D114 y0.1).bind fun y2 => gd ((decide (0 ≤ y2.1)) && (decide (y2.1 < (y0.1.Slots.length : Int)))) <| (D118 y0.1.Journal.Text (IntKind.wrap .i64 ((nth y0.1.Slots y2.1.toNat).Seq + 1))).bind fun y3 => gd ((decide (0 ≤ 0)) && ((decide (0 ≤ y3.2.1)) && (decide (y3.2.1 ≤ (y0.1.Journal.Text.size : Int))))) <| some ((⟨y0.1.Slots, (⟨(cutS y0.1.Journal.Text (0 : Int).toNat y3.2.1.toNat), y3.2.1⟩ : Fw.Journal)⟩ : Fw.Disk), ())) := (Dn_eq _ _).trans (by kernel_rfl)
noncomputable def L2003_1012 (s6 : Int) (e0_0 : List Fw.Cell) (e0_1 : List Fw.Tx) (e0_2 : List Fw.Slot) (e0_3 : ByteArray) (e0_4 : Int) (e0_5 : Int) (e0_6 : Int) (e0_7 : Int) (e0_8 : List Fw.Entry) (e0_9 : List ByteArray) (e0_10 : Bool) (e1 : List ByteArray) (e2 : List ByteArray) : Option (Bool × Unit) := Ln 3 1012 (⟨97, [(3, .ok (.pt 0 0)), (4, .ok (.sl 1)), (5, .ok (.sl 2)), (6, .ok (.v (.int .i64 s6)))], [(0, .var [.ro 152 e0_0, .ro 45 e0_1, .ro 201 e0_2, .v (.string e0_3), .v (.int .i64 e0_4), .v (.int .i64 e0_5), .v (.int .i64 e0_6), .v (.int .i64 e0_7), .ro 51 e0_8, .ro 9 e0_9, .v (.bool e0_10)] 34), (1, .own 9 e1), (2, .own 9 e2)]⟩, 3)
noncomputable def L2003_127 (e0_0 : List Fw.Cell) (e0_1 : List Fw.Tx) (e0_2 : List Fw.Slot) (e0_3 : ByteArray) (e0_4 : Int) (e0_5 : Int) (e0_6 : Int) (e0_7 : Int) (e0_8 : List Fw.Entry) (e0_9 : List ByteArray) (e0_10 : Bool) (e1 : List ByteArray) (e2 : List ByteArray) : Option (Bool × Unit) := Ln 3 127 (⟨97, [(3, .ok (.pt 0 0)), (4, .ok (.sl 1)), (5, .ok (.sl 2))], [(0, .var [.ro 152 e0_0, .ro 45 e0_1, .ro 201 e0_2, .v (.string e0_3), .v (.int .i64 e0_4), .v (.int .i64 e0_5), .v (.int .i64 e0_6), .v (.int .i64 e0_7), .ro 51 e0_8, .ro 9 e0_9, .v (.bool e0_10)] 34), (1, .own 9 e1), (2, .own 9 e2)]⟩, 3)
theorem E2003 (x0 : List UInt8) : D2003 x0 = ((D5 x0).bind fun y0 => bif y0.1 then (some (true, ())) else (D21 x0).bind fun y1 => (D2008 y1.1.Txs).bind fun y2 => (D2009 y1.1.History).bind fun y3 => L2003_1012 0 y1.1.Store y1.1.Txs y1.1.Disk.Slots y1.1.Disk.Journal.Text y1.1.Disk.Journal.Sure y1.1.Seq y1.1.Next y1.1.Time y1.1.History y1.1.Seen y1.1.Room y2.1 y3.1) := (Dn_eq _ _).trans (by kernel_rfl)
theorem P2003_1012 (s6 : Int) (e0_0 : List Fw.Cell) (e0_1 : List Fw.Tx) (e0_2 : List Fw.Slot) (e0_3 : ByteArray) (e0_4 : Int) (e0_5 : Int) (e0_6 : Int) (e0_7 : Int) (e0_8 : List Fw.Entry) (e0_9 : List ByteArray) (e0_10 : Bool) (e1 : List ByteArray) (e2 : List ByteArray) : L2003_1012 s6 e0_0 e0_1 e0_2 e0_3 e0_4 e0_5 e0_6 e0_7 e0_8 e0_9 e0_10 e1 e2 = (bif ((decide (s6 < (e1.length : Int))) && (decide ((e1.length : Int) = (e0_1.length : Int)))) then (gd ((decide (0 ≤ s6)) && (decide (s6 < (e0_1.length : Int)))) <| (D2010 ((nth e0_1 s6.toNat).Calls.length : Int)).bind fun y0 => gd ((decide (0 ≤ s6)) && (decide (s6 < (e1.length : Int)))) <| gd (((decide (0 ≤ s6)) && (decide (s6 < (e1.length : Int)))) || (!(!(decide (((nth e1 s6.toNat).size : Int) < (y0.1.size : Int)))))) <| gd (((decide (0 ≤ s6)) && (decide (s6 < (e1.length : Int)))) || (!(!(decide (((nth e1 s6.toNat).size : Int) < (y0.1.size : Int)))))) <| gd (((decide (0 ≤ (IntKind.wrap .i64 (((nth e1 s6.toNat).size : Int) - (y0.1.size : Int))))) && ((decide ((IntKind.wrap .i64 (((nth e1 s6.toNat).size : Int) - (y0.1.size : Int))) ≤ ((nth e1 s6.toNat).size : Int))) && (decide (((nth e1 s6.toNat).size : Int) ≤ ((nth e1 s6.toNat).size : Int))))) || (!(!(decide (((nth e1 s6.toNat).size : Int) < (y0.1.size : Int)))))) <| gd (((decide (0 ≤ s6)) && (decide (s6 < (e1.length : Int)))) || (!(!((decide (((nth e1 s6.toNat).size : Int) < (y0.1.size : Int))) || (!(decide ((cutS (nth e1 s6.toNat) (IntKind.wrap .i64 (((nth e1 s6.toNat).size : Int) - (y0.1.size : Int))).toNat ((nth e1 s6.toNat).size : Int).toNat) = y0.1))))))) <| gd (((decide (0 ≤ s6)) && (decide (s6 < (e0_1.length : Int)))) || (!(!((decide (((nth e1 s6.toNat).size : Int) < (y0.1.size : Int))) || (!(decide ((cutS (nth e1 s6.toNat) (IntKind.wrap .i64 (((nth e1 s6.toNat).size : Int) - (y0.1.size : Int))).toNat ((nth e1 s6.toNat).size : Int).toNat) = y0.1))))))) <| bif (!((decide (((nth e1 s6.toNat).size : Int) < (y0.1.size : Int))) || (!(decide ((cutS (nth e1 s6.toNat) (IntKind.wrap .i64 (((nth e1 s6.toNat).size : Int) - (y0.1.size : Int))).toNat ((nth e1 s6.toNat).size : Int).toNat) = y0.1))))) then ((D2011 (nth e0_1 s6.toNat)).bind fun y1 => bif (!(decide ((nth e1 s6.toNat) = y1.1))) then (some (false, ())) else L2003_1012 (IntKind.wrap .i64 (s6 + 1)) e0_0 e0_1 e0_2 e0_3 e0_4 e0_5 e0_6 e0_7 e0_8 e0_9 e0_10 e1 e2) else some (false, ())) else L2003_127 e0_0 e0_1 e0_2 e0_3 e0_4 e0_5 e0_6 e0_7 e0_8 e0_9 e0_10 e1 e2) := (Ln_eq _ _ _).trans (by kernel_rfl)
theorem P2003_127 (e0_0 : List Fw.Cell) (e0_1 : List Fw.Tx) (e0_2 : List Fw.Slot) (e0_3 : ByteArray) (e0_4 : Int) (e0_5 : Int) (e0_6 : Int) (e0_7 : Int) (e0_8 : List Fw.Entry) (e0_9 : List ByteArray) (e0_10 : Bool) (e1 : List ByteArray) (e2 : List ByteArray) : L2003_127 e0_0 e0_1 e0_2 e0_3 e0_4 e0_5 e0_6 e0_7 e0_8 e0_9 e0_10 e1 e2 = (bif ((decide ((e1.length : Int) = (e0_1.length : Int))) && (decide ((e2.length : Int) = (e0_8.length : Int)))) then ((D2011 (⟨1, 2, 3, 0, [], [], (⟨[], []⟩ : Fw.Touch), [], 1⟩ : Fw.Tx)).bind fun y0 => some ((decide (y0.1 = (tx [49, 32, 50, 32, 51, 32, 108, 105, 118, 101, 32, 48]))), ())) else some (false, ())) := (Ln_eq _ _ _).trans (by kernel_rfl)
noncomputable def L2008_116 (s6 : List Fw.Tx) (s7 : Int) (s8 : Int) : Option ((List ByteArray) × Unit) := Ln 8 116 (⟨19, [(3, .ok (.v (.slice none 0 0))), (6, .ok (.ro 45 s6)), (7, .ok (.v (.int .i64 s7))), (8, .ok (.v (.int .i64 s8)))], []⟩, 0)
noncomputable def L2008_15  : Option ((List ByteArray) × Unit) := Ln 8 15 (⟨19, [(3, .ok (.v (.slice none 0 0)))], []⟩, 0)
noncomputable def L2008_116b (s6 : List Fw.Tx) (s7 : Int) (s8 : Int) (e0 : List ByteArray) : Option ((List ByteArray) × Unit) := Ln 8 116 (⟨19, [(3, .ok (.sl 0)), (6, .ok (.ro 45 s6)), (7, .ok (.v (.int .i64 s7))), (8, .ok (.v (.int .i64 s8)))], [(0, .own 9 e0)]⟩, 1)
noncomputable def L2008_15b (e0 : List ByteArray) : Option ((List ByteArray) × Unit) := Ln 8 15 (⟨19, [(3, .ok (.sl 0))], [(0, .own 9 e0)]⟩, 1)
theorem E2008 (x0 : List Fw.Tx) : D2008 x0 = (L2008_116 x0 (x0.length : Int) 0) := (Dn_eq _ _).trans (by kernel_rfl)
theorem P2008_116 (s6 : List Fw.Tx) (s7 : Int) (s8 : Int) : L2008_116 s6 s7 s8 = (bif (decide (s8 < s7)) then (gd ((decide (0 ≤ s8)) && (decide (s8 < (s6.length : Int)))) <| (D2011 (nth s6 s8.toNat)).bind fun y0 => gd ((decide ((1 * 16) ≤ 140737488355328)) && (decide (1 ≤ 9223372036854775807))) <| L2008_116b s6 s7 (IntKind.wrap .i64 (s8 + 1)) [y0.1]) else L2008_15) := (Ln_eq _ _ _).trans (by kernel_rfl)
theorem P2008_15  : L2008_15 = (some ([], ())) := (Ln_eq _ _ _).trans (by kernel_rfl)
theorem P2008_116b (s6 : List Fw.Tx) (s7 : Int) (s8 : Int) (e0 : List ByteArray) : L2008_116b s6 s7 s8 e0 = (bif (decide (s8 < s7)) then (gd ((decide (0 ≤ s8)) && (decide (s8 < (s6.length : Int)))) <| (D2011 (nth s6 s8.toNat)).bind fun y0 => gd ((decide (((e0.length + 1) * 16) ≤ 140737488355328)) && (decide ((e0.length + 1) ≤ 9223372036854775807))) <| L2008_116b s6 s7 (IntKind.wrap .i64 (s8 + 1)) (e0 ++ [y0.1])) else L2008_15b e0) := (Ln_eq _ _ _).trans (by kernel_rfl)
theorem P2008_15b (e0 : List ByteArray) : L2008_15b e0 = (some (e0, ())) := (Ln_eq _ _ _).trans (by kernel_rfl)
noncomputable def L2009_116 (s6 : List Fw.Entry) (s7 : Int) (s8 : Int) : Option ((List ByteArray) × Unit) := Ln 9 116 (⟨19, [(3, .ok (.v (.slice none 0 0))), (6, .ok (.ro 51 s6)), (7, .ok (.v (.int .i64 s7))), (8, .ok (.v (.int .i64 s8)))], []⟩, 0)
noncomputable def L2009_15  : Option ((List ByteArray) × Unit) := Ln 9 15 (⟨19, [(3, .ok (.v (.slice none 0 0)))], []⟩, 0)
noncomputable def L2009_116b (s6 : List Fw.Entry) (s7 : Int) (s8 : Int) (e0 : List ByteArray) : Option ((List ByteArray) × Unit) := Ln 9 116 (⟨19, [(3, .ok (.sl 0)), (6, .ok (.ro 51 s6)), (7, .ok (.v (.int .i64 s7))), (8, .ok (.v (.int .i64 s8)))], [(0, .own 9 e0)]⟩, 1)
noncomputable def L2009_15b (e0 : List ByteArray) : Option ((List ByteArray) × Unit) := Ln 9 15 (⟨19, [(3, .ok (.sl 0))], [(0, .own 9 e0)]⟩, 1)
theorem E2009 (x0 : List Fw.Entry) : D2009 x0 = (L2009_116 x0 (x0.length : Int) 0) := (Dn_eq _ _).trans (by kernel_rfl)
theorem P2009_116 (s6 : List Fw.Entry) (s7 : Int) (s8 : Int) : L2009_116 s6 s7 s8 = (bif (decide (s8 < s7)) then (gd ((decide (0 ≤ s8)) && (decide (s8 < (s6.length : Int)))) <| (D2021 (nth s6 s8.toNat)).bind fun y0 => gd ((decide ((1 * 16) ≤ 140737488355328)) && (decide (1 ≤ 9223372036854775807))) <| L2009_116b s6 s7 (IntKind.wrap .i64 (s8 + 1)) [y0.1]) else L2009_15) := (Ln_eq _ _ _).trans (by kernel_rfl)
theorem P2009_15  : L2009_15 = (some ([], ())) := (Ln_eq _ _ _).trans (by kernel_rfl)
theorem P2009_116b (s6 : List Fw.Entry) (s7 : Int) (s8 : Int) (e0 : List ByteArray) : L2009_116b s6 s7 s8 e0 = (bif (decide (s8 < s7)) then (gd ((decide (0 ≤ s8)) && (decide (s8 < (s6.length : Int)))) <| (D2021 (nth s6 s8.toNat)).bind fun y0 => gd ((decide (((e0.length + 1) * 16) ≤ 140737488355328)) && (decide ((e0.length + 1) ≤ 9223372036854775807))) <| L2009_116b s6 s7 (IntKind.wrap .i64 (s8 + 1)) (e0 ++ [y0.1])) else L2009_15b e0) := (Ln_eq _ _ _).trans (by kernel_rfl)
theorem P2009_15b (e0 : List ByteArray) : L2009_15b e0 = (some (e0, ())) := (Ln_eq _ _ _).trans (by kernel_rfl)
theorem E2010 (x0 : Int) : D2010 x0 = ((D2032 x0).bind fun y0 => some (y0.1, ())) := (Dn_eq _ _).trans (by kernel_rfl)
noncomputable def L2011_15 (s3 : ByteArray) (e0_0 : Int) (e0_1 : Int) (e0_2 : Int) (e0_3 : Int) (e0_4 : List Fw.Call) (e0_5 : List Fw.Answer) (e0_6 : List ByteArray) (e0_7 : List ByteArray) (e0_8 : List Int) (e0_9 : Int) : Option (ByteArray × Unit) := Ln 11 15 (⟨28, [(1, .ok (.pt 0 0)), (3, .ok (.v (.string s3)))], [(0, .var [.v (.int .i64 e0_0), .v (.int .i64 e0_1), .v (.int .i64 e0_2), .v (.int .i64 e0_3), .ro 119 e0_4, .ro 170 e0_5, .ro 9 e0_6, .ro 9 e0_7, .ro 3 e0_8, .v (.int .i64 e0_9)] 45)]⟩, 1)
theorem E2011 (x0 : Fw.Tx) : D2011 x0 = ((D23 x0.State 1 3).bind fun y0 => bif y0.1 then (gd ((decide (0 ≤ (IntKind.wrap .i64 (x0.State - 1)))) && (decide ((IntKind.wrap .i64 (x0.State - 1)) < (3 : Int)))) <| L2011_15 (nth [(tx [108, 105, 118, 101]), (tx [119, 104, 111, 108, 101]), (tx [100, 114, 111, 112, 112, 101, 100])] (IntKind.wrap .i64 (x0.State - 1)).toNat) x0.Id x0.Age x0.Proc x0.Began x0.Calls x0.Answers x0.Touch.Reads x0.Touch.Writes x0.Marks x0.State) else L2011_15 (tx [63]) x0.Id x0.Age x0.Proc x0.Began x0.Calls x0.Answers x0.Touch.Reads x0.Touch.Writes x0.Marks x0.State) := (Dn_eq _ _).trans (by kernel_rfl)
theorem P2011_15 (s3 : ByteArray) (e0_0 : Int) (e0_1 : Int) (e0_2 : Int) (e0_3 : Int) (e0_4 : List Fw.Call) (e0_5 : List Fw.Answer) (e0_6 : List ByteArray) (e0_7 : List ByteArray) (e0_8 : List Int) (e0_9 : Int) : L2011_15 s3 e0_0 e0_1 e0_2 e0_3 e0_4 e0_5 e0_6 e0_7 e0_8 e0_9 = ((D2010 e0_0).bind fun y0 => (D2010 e0_1).bind fun y1 => (D2010 e0_2).bind fun y2 => (D2010 (e0_4.length : Int)).bind fun y3 => (D2034 [y0.1, y1.1, y2.1, s3, y3.1] (tx [32])).bind fun y4 => some (y4.1, ())) := (Ln_eq _ _ _).trans (by kernel_rfl)
noncomputable def L2021_15 (s3 : ByteArray) (e0_0 : Int) (e0_1 : Int) (e0_2 : Int) (e0_3 : List Fw.Step) (e0_4 : List Fw.Answer) (e0_5 : Int) (e0_6 : Int) (e0_7 : Bool) : Option (ByteArray × Unit) := Ln 21 15 (⟨30, [(1, .ok (.pt 0 0)), (3, .ok (.v (.string s3)))], [(0, .var [.v (.int .i64 e0_0), .v (.int .i64 e0_1), .v (.int .i64 e0_2), .ro 184 e0_3, .ro 170 e0_4, .v (.int .i64 e0_5), .v (.int .i64 e0_6), .v (.bool e0_7)] 51)]⟩, 1)
noncomputable def L2021_63 (s4 : ByteArray) : Option (ByteArray × Unit) := Ln 21 63 (⟨30, [(4, .ok (.v (.string s4)))], []⟩, 0)
theorem E2021 (x0 : Fw.Entry) : D2021 x0 = ((D23 x0.Kind 1 2).bind fun y0 => bif y0.1 then (gd ((decide (0 ≤ (IntKind.wrap .i64 (x0.Kind - 1)))) && (decide ((IntKind.wrap .i64 (x0.Kind - 1)) < (2 : Int)))) <| L2021_15 (nth [(tx [112, 108, 97, 105, 110]), (tx [119, 104, 111, 108, 101])] (IntKind.wrap .i64 (x0.Kind - 1)).toNat) x0.Seq x0.Kind x0.Tx x0.Steps x0.Answers x0.Began x0.Ended x0.Laid) else L2021_15 (tx [63]) x0.Seq x0.Kind x0.Tx x0.Steps x0.Answers x0.Began x0.Ended x0.Laid) := (Dn_eq _ _).trans (by kernel_rfl)
theorem P2021_15 (s3 : ByteArray) (e0_0 : Int) (e0_1 : Int) (e0_2 : Int) (e0_3 : List Fw.Step) (e0_4 : List Fw.Answer) (e0_5 : Int) (e0_6 : Int) (e0_7 : Bool) : L2021_15 s3 e0_0 e0_1 e0_2 e0_3 e0_4 e0_5 e0_6 e0_7 = ((D2010 e0_0).bind fun y0 => gd (decide ((y0.1.size + (tx [32]).size) ≤ 9223372036854775807)) <| gd (decide (((y0.1 ++ (tx [32])).size + s3.size) ≤ 9223372036854775807)) <| gd (decide ((((y0.1 ++ (tx [32])) ++ s3).size + (tx [32]).size) ≤ 9223372036854775807)) <| (D2010 (e0_3.length : Int)).bind fun y1 => gd (decide (((((y0.1 ++ (tx [32])) ++ s3) ++ (tx [32])).size + y1.1.size) ≤ 9223372036854775807)) <| bif e0_7 then (gd (decide ((((((y0.1 ++ (tx [32])) ++ s3) ++ (tx [32])) ++ y1.1).size + (tx [32, 42]).size) ≤ 9223372036854775807)) <| L2021_63 (((((y0.1 ++ (tx [32])) ++ s3) ++ (tx [32])) ++ y1.1) ++ (tx [32, 42]))) else L2021_63 ((((y0.1 ++ (tx [32])) ++ s3) ++ (tx [32])) ++ y1.1)) := (Ln_eq _ _ _).trans (by kernel_rfl)
theorem P2021_63 (s4 : ByteArray) : L2021_63 s4 = (some (s4, ())) := (Ln_eq _ _ _).trans (by kernel_rfl)
theorem E2032 (x0 : Int) : D2032 x0 = (itoaX (x0, ())) := (Dn_eq _ _).trans (by kernel_rfl)
theorem E2034 (x0 : List ByteArray) (x1 : ByteArray) : D2034 x0 x1 = (joinX (x0, x1, ())) := (Dn_eq _ _).trans (by kernel_rfl)
end Go.Proofs.YtdghkmbppfmifaaGreatDoor.Ri

namespace Go.Proofs.YtdghkmbppfmifaaGreatDoor.Ri
open Go.Proofs.YtdghkmbppfmifaaGreatDoor.Fw
set_option linter.unusedVariables false
def Wp {α : Type} (o : Option α) (P : α → Prop) : Prop := ∃ y, o = some y ∧ P y
section
variable {α β : Type} {P Q : α → Prop}
theorem Wp.mono {o : Option α} (h : Wp o Q) (hq : ∀ y, Q y → P y) : Wp o P := let ⟨y, h1, h2⟩ := h; ⟨y, h1, hq y h2⟩
theorem w_some {y : α} (h : P y) : Wp (some y) P := ⟨y, rfl, h⟩
theorem w_gd {c : Bool} {k : Option α} (hc : c = true) (h : Wp k P) : Wp (gd c k) P := by subst hc; exact h
theorem w_ng {c : Bool} {k : Option α} (hc : c = false) (h : Wp k P) : Wp (ng c k) P := by subst hc; exact h
theorem w_if {c : Bool} {a b : Option α} (h1 : c = true → Wp a P) (h2 : c = false → Wp b P) : Wp (bif c then a else b) P := by
  cases c
  · exact h2 rfl
  · exact h1 rfl
theorem w_bd {o : Option β} {k : β → Option α} {Q : β → Prop} (h : Wp o Q) (hk : ∀ y, Q y → Wp (k y) P) : Wp (o.bind k) P := by
  obtain ⟨y, h1, h2⟩ := h
  rw [h1]
  exact hk y h2
theorem w_eq {a b : Option α} (e : a = b) (h : Wp b P) : Wp a P := e ▸ h
theorem w_be {o : Option β} {k : β → Option α} {y : β} (h : o = some y) (hk : Wp (k y) P) : Wp (o.bind k) P := by rw [h]; exact hk
end
class BP (c : Bool) (P : outParam Prop) : Prop where
  iff : c = true ↔ P
instance bp_dec (p : Prop) [Decidable p] : BP (decide p) p := ⟨decide_eq_true_iff⟩
instance bp_and {a b : Bool} {P Q : Prop} [h : BP a P] [h' : BP b Q] : BP (a && b) (P ∧ Q) := ⟨by rw [Bool.and_eq_true, h.iff, h'.iff]⟩
instance bp_or {a b : Bool} {P Q : Prop} [h : BP a P] [h' : BP b Q] : BP (a || b) (P ∨ Q) := ⟨by rw [Bool.or_eq_true, h.iff, h'.iff]⟩
instance bp_not {a : Bool} {P : Prop} [h : BP a P] : BP (!a) (¬P) := ⟨by rw [← h.iff]; cases a <;> decide⟩
instance (priority := low) bp_any (c : Bool) : BP c (c = true) := ⟨Iff.rfl⟩
section
variable {α β : Type} {P : α → Prop} {a b : Option α} {c : Bool} {C : Prop}
theorem w_ip [h : BP c C] (h1 : C → Wp a P) (h2 : ¬C → Wp b P) : Wp (bif c then a else b) P := w_if (fun e => h1 (h.iff.1 e)) fun e => h2 fun x => by rw [h.iff.2 x] at e; cases e
theorem w_gp [h : BP c C] (h1 : C) (h2 : Wp a P) : Wp (gd c a) P := w_gd (h.iff.2 h1) h2
theorem w_np [h : BP c C] (h1 : ¬C) (h2 : Wp a P) : Wp (ng c a) P := w_ng (Bool.eq_false_iff.2 fun e => h1 (h.iff.1 e)) h2
end
theorem i64_id {n : Int} (h : -9223372036854775808 ≤ n) (h' : n ≤ 9223372036854775807) : IntKind.i64.wrap n = n := wrap_id (by simp [loK, hiK, IntKind.bits, IntKind.signed]; omega)
end Go.Proofs.YtdghkmbppfmifaaGreatDoor.Ri

namespace Go.Proofs.YtdghkmbppfmifaaGreatDoor.Ri
open Go.Proofs.YtdghkmbppfmifaaGreatDoor.Fw
set_option linter.unusedVariables false
set_option linter.unusedSimpArgs false
set_option maxRecDepth 100000
def Cu (c : L01Cur) : Prop := 0 ≤ c.i ∧ c.b.length ≤ 1048576
theorem tm_ok {a b : Int} (h : 0 ≤ a) (hb : 0 < b) : 0 ≤ Int.tmod a b ∧ Int.tmod a b < b := ⟨Int.tmod_nonneg _ h, Int.tmod_lt_of_pos _ hb⟩
theorem an255 (x : Int) : 0 ≤ andI .i64 x 255 ∧ andI .i64 x 255 ≤ 255 := by
  unfold andI
  have h : (BitVec.ofInt IntKind.i64.bits x &&& BitVec.ofInt IntKind.i64.bits 255).toNat ≤ 255 := by
    rw [BitVec.toNat_and]
    exact Nat.le_trans Nat.and_le_right (by decide)
  rw [i64_id (by omega) (by omega)]
  omega
theorem nth_mem {α : Type} [Inhabited α] {l : List α} {i : Nat} (h : i < l.length) : nth l i ∈ l := by
  have : nth l i = l[i] := by unfold nth; simp [h]
  rw [this]
  exact List.getElem_mem h
theorem bstr_size (l : List UInt8) : (bstr l).size = l.length := rfl
theorem o_xeu2yj {p : Prop} (h : p := by first | assumption | omega | grind [i64_id, Cu]) : p := h
theorem o_2bms2j {p : Prop} (h : p := by (try dsimp only); exact ⟨(an255 _).1, (an255 _).2, by grind [i64_id, Cu]⟩) : p := h
theorem o_k2o0ol {p : Prop} (h : p := by (try dsimp only); first | (refine ⟨(tm_ok ?_ ?_).1, fun _ => (tm_ok ?_ ?_).2, ?_⟩ <;> first | assumption | grind [i64_id]) | (refine ⟨?_, ?_, ?_⟩ <;> grind)) : p := h
theorem o_sosl6g {p : Prop} (h : p := by (try dsimp only); first | assumption | omega | grind [i64_id]) : p := h
theorem o_i2nx0w {p : Prop} (h : p := by first | assumption | omega | grind [i64_id]) : p := h
theorem o_6gebge {p : Prop} (h : p := by (try dsimp only); exact ⟨nth_mem (by grind), by assumption⟩) : p := h
theorem o_4d3dp7 {p : Prop} (h : p := by (try dsimp only); first | assumption | omega | grind [i64_id, Cu]) : p := h
theorem o_a0t8l5 {p : Prop} (h : p := by first | assumption | omega | grind [i64_id, bstr_size]) : p := h
theorem o_rnjmbu {p : Prop} (h : p := by (try dsimp only); first | assumption | omega | grind [i64_id, bstr_size]) : p := h
theorem c30 {x0 : L01Cur} (p0 : Cu x0) : Wp (D30 x0) fun y => 0 ≤ y.1 ∧ y.1 ≤ 255 ∧ Cu y.2.1 := by
  rw [E30]
  exact w_ip (fun h1 => w_gp o_xeu2yj (w_eq (P30_31 _ _ _ _) (w_some o_2bms2j))) (fun h1 => w_eq (P30_31 _ _ _ _) (w_some o_2bms2j))
theorem c26 {x0 : L01Cur} {x1 : Int} (p0 : Cu x0) : Wp (D26 x0 x1) fun y => 0 ≤ y.1 ∧ (0 < x1 → y.1 < x1) ∧ Cu y.2.1 := by
  rw [E26]
  exact w_ip (fun h1 => w_some o_k2o0ol) (fun h1 => w_ip (fun h2 => w_bd (c30 o_xeu2yj) (fun y4 ⟨q3_0, q3_1, q3_2⟩ => w_gp o_xeu2yj (w_some o_k2o0ol))) (fun h2 => w_bd (c30 o_xeu2yj) (fun y0 ⟨q4_0, q4_1, q4_2⟩ => w_bd (c30 o_xeu2yj) (fun y1 ⟨q5_0, q5_1, q5_2⟩ => w_bd (c30 o_xeu2yj) (fun y2 ⟨q6_0, q6_1, q6_2⟩ => w_bd (c30 o_xeu2yj) (fun y3 ⟨q7_0, q7_1, q7_2⟩ => w_gp o_xeu2yj (w_some o_k2o0ol)))))))
theorem c29 {x0 : L01Cur} {x1 : Int} (p0 : Cu x0) : Wp (D29 x0 x1) fun y => Cu y.2.1 := by
  rw [E29]
  exact w_bd (c26 o_xeu2yj) (fun y0 ⟨q1_0, q1_1, q1_2⟩ => w_some o_sosl6g)
theorem c51 {x0 : L01Cur} {x1 : List Int} (p0 : Cu x0) (p1 : 0 < x1.length) : Wp (D51 x0 x1) fun y => y.1 ∈ x1 ∧ Cu y.2.1 := by
  rw [E51]
  exact w_bd (c26 o_xeu2yj) (fun y0 ⟨q1_0, q1_1, q1_2⟩ => w_gp o_i2nx0w (w_some o_6gebge))
theorem c85 {x0 : L01Cur} {x1 : List ByteArray} (p0 : Cu x0) (p1 : 0 < x1.length) : Wp (D85 x0 x1) fun y => y.1 ∈ x1 ∧ Cu y.2.1 := by
  rw [E85]
  exact w_bd (c26 o_xeu2yj) (fun y0 ⟨q1_0, q1_1, q1_2⟩ => w_gp o_i2nx0w (w_some o_6gebge))
theorem w25_116 (N : Nat) : ∀ {s0 : List UInt8} {s3 : Int} {s4 : Int} (p0 : 0 ≤ s4) (p1 : s0.length ≤ 1048576) (hN : s0.length - s4 ≤ (N : Int)), Wp (L25_116 s0 s3 s4) fun y => Cu y.1 := by
  induction N using Nat.strongRecOn with
  | ind N ih =>
    intro s0 s3 s4 p0 p1 hN
    rw [P25_116]
    exact w_ip (fun h1 => w_gp o_xeu2yj (ih (N - 1) o_xeu2yj o_xeu2yj o_xeu2yj o_i2nx0w)) (fun h1 => w_eq (P25_15 _ _) (w_some o_4d3dp7))
theorem c25 {x0 : List UInt8} (p0 : x0.length ≤ 1048576) : Wp (D25 x0) fun y => Cu y.1 := by
  rw [E25]
  exact (w25_116 _ o_xeu2yj o_xeu2yj (Int.self_le_toNat _)).mono (fun y q1 => o_4d3dp7)
theorem w86_244 (N : Nat) : ∀ {s1 : Int} {s6 : Int} {e0_0 : List UInt8} {e0_1 : Int} {e0_2 : Int} {e1 : List UInt8} (p0 : 0 ≤ s6) (p1 : s1 ≤ 5000) (p2 : Cu ⟨e0_0, e0_1, e0_2⟩) (p3 : (e1.length : Int) ≤ s6) (p4 : e1.length ≤ 5000) (hN : s1 - s6 ≤ (N : Int)), Wp (L86_244 s1 s6 e0_0 e0_1 e0_2 e1) fun y => y.1.size ≤ 5000 ∧ Cu y.2.1 := by
  induction N using Nat.strongRecOn with
  | ind N ih =>
    intro s1 s6 e0_0 e0_1 e0_2 e1 p0 p1 p2 p3 p4 hN
    rw [P86_244]
    exact w_ip (fun h1 => w_bd (c30 o_a0t8l5) (fun y0 ⟨q2_0, q2_1, q2_2⟩ => w_gp o_a0t8l5 (ih (N - 1) o_a0t8l5 o_a0t8l5 o_a0t8l5 o_a0t8l5 o_a0t8l5 o_a0t8l5 o_i2nx0w))) (fun h1 => w_eq (P86_31 _ _ _ _) (w_some o_rnjmbu))
theorem c86 {x0 : L01Cur} {x1 : Int} (p0 : Cu x0) : Wp (D86 x0 x1) fun y => y.1.size ≤ 5000 ∧ Cu y.2.1 := by
  rw [E86]
  exact w_ip (fun h1 => w_eq (P86_7 _ _ _ _) ((w86_244 _ o_a0t8l5 o_a0t8l5 o_a0t8l5 o_a0t8l5 o_a0t8l5 (Int.self_le_toNat _)).mono (fun y ⟨q2_0, q2_1⟩ => o_sosl6g))) (fun h1 => w_eq (P86_7 _ _ _ _) ((w86_244 _ o_a0t8l5 o_a0t8l5 o_a0t8l5 o_a0t8l5 o_a0t8l5 (Int.self_le_toNat _)).mono (fun y ⟨q3_0, q3_1⟩ => o_sosl6g)))
end Go.Proofs.YtdghkmbppfmifaaGreatDoor.Ri

namespace Go.Proofs.YtdghkmbppfmifaaGreatDoor.Ri
open Go.Proofs.YtdghkmbppfmifaaGreatDoor.Fw
set_option linter.unusedVariables false
set_option linter.unusedSimpArgs false
set_option maxRecDepth 100000
def KZ (s : List Fw.Cell) : Prop := ∀ c ∈ s, c.Key.size ≤ 40 ∧ c.Val.size ≤ 60
def TZ (s : List ByteArray) : Prop := ∀ z ∈ s, z.size ≤ 4096
theorem KZ.nil : KZ [] := fun c h => by cases h
theorem TZ.nil : TZ [] := fun c h => by cases h
theorem KZ.app {a b : List Fw.Cell} (ha : KZ a) (hb : KZ b) : KZ (a ++ b) := fun c h => (List.mem_append.1 h).elim (ha c) (hb c)
theorem TZ.app {a b : List ByteArray} (ha : TZ a) (hb : TZ b) : TZ (a ++ b) := fun c h => (List.mem_append.1 h).elim (ha c) (hb c)
theorem KZ.one {c : Fw.Cell} (h1 : c.Key.size ≤ 40) (h2 : c.Val.size ≤ 60) : KZ [c] := fun d h => by rw [List.mem_singleton.1 h]; exact ⟨h1, h2⟩
theorem TZ.one {c : ByteArray} (h1 : c.size ≤ 4096) : TZ [c] := fun d h => by rw [List.mem_singleton.1 h]; exact h1
theorem KZ.nth {s : List Fw.Cell} (h : KZ s) {i : Nat} (hi : i < s.length) : (nth s i).Key.size ≤ 40 ∧ (nth s i).Val.size ≤ 60 := h _ (nth_mem hi)
theorem TZ.nth {s : List ByteArray} (h : TZ s) {i : Nat} (hi : i < s.length) : (nth s i).size ≤ 4096 := h _ (nth_mem hi)
theorem cutL_len {α : Type} (l : List α) (i j : Nat) : (cutL l i j).length = min j l.length - i := by unfold cutL; rw [List.length_drop, List.length_take]
theorem TZ.cut {s : List ByteArray} (h : TZ s) (i j : Nat) : TZ (cutL s i j) := fun z hz => h z (List.mem_of_mem_take (List.mem_of_mem_drop (by unfold cutL at hz; exact hz)))
theorem cutS_len (s : ByteArray) (i j : Nat) : (cutS s i j).size ≤ s.size := by unfold cutS; rw [ByteArray.size_extract]; omega
structure MB (s t : Nat) (m : Fw.Mach) : Prop where
  s : m.Store.length ≤ s
  r : m.Touch.Reads.length ≤ t
  w : m.Touch.Writes.length ≤ t
  k : KZ m.Store
  tr : TZ m.Touch.Reads
  tw : TZ m.Touch.Writes
theorem MB.le {s t s' t' : Nat} {m : Fw.Mach} (h : MB s t m) (hs : s ≤ s') (ht : t ≤ t') : MB s' t' m := ⟨Nat.le_trans h.s hs, Nat.le_trans h.r ht, Nat.le_trans h.w ht, h.k, h.tr, h.tw⟩
theorem sbytes_len (x : ByteArray) : (sbytes x).length = x.size := Array.length_toList
theorem c163 {x0 : Int} : Wp (D163 x0) fun _ => True := by rw [E163]; exact w_if (fun _ => w_some trivial) fun _ => w_some trivial
theorem w122 : ∀ (N : Nat) (s0 : Int) (s3 : Bool) (s4 : ByteArray), s0.natAbs < 10 ^ N → s4.size + N ≤ 19 → Wp (L122_248 s0 s3 s4) fun y => y.1.size ≤ 20
  | N, s0, s3, s4, h1, h3 => by
    rw [P122_248]
    refine w_if (fun h => ?_) fun h => ?_
    · cases N with
      | zero => exfalso; simp at h h1; omega
      | succ N =>
        have step : ∀ s5, Wp (L122_3979 s0 s3 s4 s5) fun y => y.1.size ≤ 20 := fun s5 => by
          rw [P122_3979]
          have e1 : ∀ z : ByteArray, (bstr ([(u8of z.size)].map fun x => x)).size = 1 := fun _ => rfl
          have hp : (10 : Nat) ^ N ≤ 10 ^ 18 := Nat.pow_le_pow_right (by decide) (by omega)
          have hd : (Int.tdiv s0 10).natAbs < 10 ^ N := by
            rw [Int.natAbs_tdiv]
            rw [Nat.pow_succ] at h1
            show s0.natAbs / 10 < _
            omega
          refine w_bd c163 fun y _ => ?_
          have e2 : (bstr ([(u8of (y.1.toNat : Int))].map fun x => x)).size = 1 := rfl
          refine w_gd (by rw [e2]; simp; omega) (w_gd rfl ?_)
          rw [i64_id (by omega) (by omega)]
          exact w122 N _ _ _ hd (by rw [ByteArray.size_append, e2]; omega)
        exact w_gd rfl (w_if (fun _ => step _) fun _ => step _)
    · rw [P122_63]
      have e3 : (tx [45]).size = 1 := rfl
      exact w_if (fun _ => w_gd (by rw [e3]; simp; omega) (w_some (by show (_ ++ _ : ByteArray).size ≤ 20; rw [ByteArray.size_append, e3]; omega))) fun _ => w_some (by show s4.size ≤ 20; omega)
theorem c122 {x0 : Int} (p0 : -9223372036854775808 ≤ x0) (p1 : x0 ≤ 9223372036854775807) : Wp (D122 x0) fun y => y.1.size ≤ 20 := by
  rw [E122]
  exact w_if (fun _ => w_some (by decide)) fun _ => w122 19 _ _ _ (by omega) (by decide)
theorem w159 : ∀ (N : Nat) (s0 : ByteArray) (s4 s5 : Int), 0 ≤ s5 → s0.size - s5 ≤ N → s0.size ≤ 10 → 0 ≤ s4 → (s4 + 1) * 10 ^ N ≤ 10000000000 → Wp (L159_244 s0 s4 s5) fun y => 0 ≤ y.1 ∧ y.1 ≤ 1000000000
  | N, s0, s4, s5, h1, h2, h3, h4, h5 => by
    rw [P159_244]
    refine w_if (fun h => ?_) fun h => ?_
    · have hlt := of_decide_eq_true h
      cases N with
      | zero => exfalso; omega
      | succ N =>
        have hb := UInt8.toNat_lt (byteAt s0 s5.toNat)
        have hP : (1 : Int) ≤ 10 ^ N := Int.pow_pos (by decide)
        rw [Int.pow_succ] at h5
        have h6 : (s4 + 1) * 10 ≤ (s4 + 1) * (10 ^ N * 10) := Int.mul_le_mul_of_nonneg_left (by omega) (by omega)
        refine w_gd (by grind) (w_gd (by grind) (w_if (fun _ => w_some (by decide)) fun hc => w_gd (by grind) ?_))
        simp only [Bool.or_eq_false_iff, decide_eq_false_iff_not] at hc
        rw [i64_id (n := ((byteAt s0 s5.toNat).toNat : Int)) (by omega) (by omega), i64_id (n := 10 * s4) (by omega) (by omega), i64_id (n := 10 * s4 + _) (by omega) (by omega), i64_id (n := 10 * s4 + _ - 48) (by omega) (by omega), i64_id (n := s5 + 1) (by omega) (by omega)]
        refine w159 N _ _ _ (by omega) (by omega) h3 (by omega) (Int.le_trans (Int.mul_le_mul_of_nonneg_right (b := (s4 + 1) * 10) (by omega) (by omega)) ?_)
        rw [Int.mul_assoc, Int.mul_comm 10]
        exact h5
    · rw [P159_31]
      refine w_if (fun hc => ?_) fun _ => w_some (by decide)
      have : s4 ≤ 1000000000 := by simpa using hc
      exact w_bd (c122 (by omega) (by omega)) fun y _ => w_if (fun _ => w_some (by decide)) fun _ => w_some ⟨h4, this⟩
theorem c159 {x0 : ByteArray} : Wp (D159 x0) fun y => 0 ≤ y.1 ∧ y.1 ≤ 1000000000 := by
  rw [E159]
  refine w_if (fun _ => w_some (by decide)) fun h => ?_
  have h' : x0.size ≤ 10 := by simp at h; omega
  have : (10 : Int) ^ x0.size ≤ 10 ^ 10 := by
    have := Nat.pow_le_pow_right (n := 10) (by decide) h'
    exact_mod_cast this
  exact w159 x0.size _ _ _ (by decide) (by omega) h' (by decide) (by omega)
theorem tx_size (l : List UInt8) : (tx l).size = l.length := rfl
theorem MB.s' {s t b : Nat} {m : Fw.Mach} (h : MB s t m) (hb : s ≤ b) : m.Store.length ≤ b := Nat.le_trans h.s hb
theorem MB.r' {s t b : Nat} {m : Fw.Mach} (h : MB s t m) (hb : t ≤ b) : m.Touch.Reads.length ≤ b := Nat.le_trans h.r hb
theorem MB.w' {s t b : Nat} {m : Fw.Mach} (h : MB s t m) (hb : t ≤ b) : m.Touch.Writes.length ≤ b := Nat.le_trans h.w hb
theorem tx0 (x : ByteArray) : x = tx [] ↔ x.size = 0 := ⟨fun h => by rw [h]; rfl, fun h => ByteArray.ext (Array.eq_empty_of_size_eq_zero h)⟩
instance (priority := high) bp_tx0 (x : ByteArray) : BP (decide (x = tx [])) (x.size = 0) := ⟨by rw [decide_eq_true_iff, tx0]⟩
theorem ob {p : Prop} (h : p := by first | assumption | omega | exact MB.s' (by assumption) (by omega) | exact MB.r' (by assumption) (by omega) | exact MB.w' (by assumption) (by omega) | exact MB.k (by assumption) | exact MB.tr (by assumption) | exact MB.tw (by assumption) | exact MB.le (by assumption) (by first | omega | (simp (disch := omega) only [i64_id]; omega)) (by first | omega | (simp (disch := omega) only [i64_id]; omega)) | exact KZ.nil | exact TZ.nil | (simp (disch := omega) only [i64_id, List.length_append, List.length_cons, List.length_nil, List.length_map, List.length_set, ByteArray.size_append, tx_size, bstr_size, sbytes_len, cutL_len, ↓Bool.and_eq_true, ↓Bool.or_eq_true, ↓decide_eq_true_eq]; omega) | grind [i64_id, tx_size]) : p := h
theorem o_gqc377 {p : Prop} (h : p := by first | assumption | omega | grind [ByteArray.size_append]) : p := h
theorem o_ccfd3o {p : Prop} (h : p := by (try dsimp only); first | assumption | omega | grind [ByteArray.size_append]) : p := h
theorem o_goutno {p : Prop} (h : p := by grind) : p := h
theorem o_vgicgg {p : Prop} (h : p := by (try dsimp only); intro h; grind) : p := h
theorem o_d1jrzo {p : Prop} (h : p := by (try dsimp only); grind) : p := h
theorem o_143swz {p : Prop} (h : p := by (try dsimp only); first | exact (KZ.nth (by assumption) (by grind)).2 | decide) : p := h
theorem o_xhj4ix {p : Prop} (h : p := by first | assumption | omega | grind [i64_id, KZ, nth_mem]) : p := h
theorem o_iw6qzh {p : Prop} (h : p := by (try dsimp only); first | assumption | omega | grind [i64_id, KZ, nth_mem]) : p := h
theorem o_q8wltm {p : Prop} (h : p := by first | assumption | omega | grind) : p := h
theorem o_sd45xp {p : Prop} (h : p := by (try dsimp only); first | assumption | omega | grind) : p := h
theorem o_lualy7 {p : Prop} (h : p := by first | assumption | omega | (simp only [List.length_append, List.length_nil, List.length_cons, cutL_len, Bool.and_eq_true, Bool.or_eq_true, decide_eq_true_eq, Bool.not_eq_true', Bool.and_eq_false_iff, decide_eq_false_iff_not]; omega) | grind [i64_id, cutL_len]) : p := h
theorem o_t0c8lk {p : Prop} (h : p := by (try dsimp only); first | exact ⟨by omega, by assumption⟩ | exact ⟨by simp only [List.length_append, List.length_nil, List.length_cons, cutL_len]; omega, TZ.app (TZ.app (TZ.app TZ.nil (TZ.cut (by assumption) _ _)) (TZ.one (by assumption))) (TZ.cut (by assumption) _ _)⟩) : p := h
theorem o_vvj4d5 {p : Prop} (h : p := by first | assumption | omega | grind [List.nil_append]) : p := h
theorem o_5bwhwq {p : Prop} (h : p := by (try dsimp only); first | assumption | omega | grind [List.nil_append]) : p := h
theorem o_6as3xi {p : Prop} (h : p := by first | assumption | omega | (exact KZ.app (by assumption) (KZ.one (by assumption) (by assumption))) | (exact KZ.app (by assumption) (KZ.one (KZ.nth (by assumption) (by grind)).1 (KZ.nth (by assumption) (by grind)).2)) | (exact KZ.app (KZ.app (by assumption) (KZ.one (by assumption) (by assumption))) (KZ.one (KZ.nth (by assumption) (by grind)).1 (KZ.nth (by assumption) (by grind)).2)) | (simp only [List.length_append, List.length_nil, List.length_cons, Bool.and_eq_true, decide_eq_true_eq]; omega) | grind [i64_id]) : p := h
theorem o_7980f3 {p : Prop} (h : p := by (try dsimp only); first | exact ⟨by grind, by assumption⟩ | exact ⟨by grind, KZ.app (by assumption) (KZ.one (by assumption) (by assumption))⟩) : p := h
theorem o_gk4l6k {p : Prop} (h : p := by first | assumption | omega | exact KZ.nil | grind) : p := h
theorem o_lfffx2 {p : Prop} (h : p := by (try dsimp only); first | exact ⟨ob, ob⟩ | exact ⟨by grind, by simpa using (by assumption : KZ x0)⟩) : p := h
theorem o_27xrlb {p : Prop} (h : p := by (try dsimp only); exact ⟨⟨p0.s, by have := p0.r; dsimp only; omega, Nat.le_succ_of_le p0.w, p0.k, by assumption, p0.tw⟩, by assumption⟩) : p := h
theorem o_cye367 {p : Prop} (h : p := by (try dsimp only); exact ⟨by have := p0.s; dsimp only; omega, Nat.le_succ_of_le p0.r, by have := p0.w; dsimp only; omega, by assumption, p0.tr, by assumption⟩) : p := h
theorem o_bzd54e {p : Prop} (h : p := by (try dsimp only); exact ⟨⟨p0.s, by have := p0.r; dsimp only; omega, Nat.le_succ_of_le p0.w, p0.k, by assumption, p0.tw⟩, by have := p0.s; omega, by assumption⟩) : p := h
theorem c27 {x0 : Int} {x1 : Int} {x2 : Int} : D27 x0 x1 x2 = some (decide (x0 ≥ x1) && decide (x0 ≤ x2), ()) := by
  exact E27 _ _ _
theorem c160 {x0 : UInt8} : Wp (D160 x0) fun y => True := by
  rw [E160]
  exact w_ip (fun h1 => w_some trivial) (fun h1 => w_ip (fun h2 => w_some trivial) (fun h2 => w_some trivial))
theorem c111 {x0 : ByteArray} : Wp (D111 x0) fun y => 0 ≤ y.1 ∧ y.1 ≤ 999 := by
  rw [E111]
  exact w_bd (c159) (fun y0 ⟨q1_0, q1_1⟩ => w_ip (fun h2 => w_some ⟨ob, ob⟩) (fun h2 => w_some ⟨ob, ob⟩))
theorem c112 {x0 : ByteArray} {x1 : Int} {x2 : ByteArray} (p0 : x0.size ≤ 1000) (p1 : x2.size ≤ 1000) (p2 : -9223372036854775808 ≤ x1) (p3 : x1 ≤ 9223372036854775807) : Wp (D112 x0 x1 x2) fun y => y.1.size ≤ x0.size + x2.size + 20 := by
  rw [E112]
  exact w_bd (c122 o_gqc377 o_gqc377) (fun y0 q1 => w_gp o_gqc377 (w_gp o_gqc377 (w_some o_ccfd3o)))
theorem c191 {x0 : ByteArray} {x1 : ByteArray} : Wp (D191 x0 x1) fun y => (y.1 = true → x1.size ≤ x0.size) := by
  rw [E191]
  exact w_gp o_goutno (w_some o_vgicgg)
theorem w132_52 (N : Nat) : ∀ {s0 : ByteArray} {s3 : Int} (p0 : 0 ≤ s3) (p1 : s0.size ≤ 4611686018427387904) (hN : s0.size - s3 ≤ (N : Int)), Wp (L132_52 s0 s3) fun y => (y.1 = true → s0.size ≤ 40) := by
  induction N using Nat.strongRecOn with
  | ind N ih =>
    intro s0 s3 p0 p1 hN
    rw [P132_52]
    exact w_ip (fun h1 => w_gp ob (w_be (c27) (by (try dsimp only); exact (w_gp ob (w_ip (fun h3 => w_some o_d1jrzo) (fun h3 => ih (N - 1) ob ob ob ob)))))) (fun h1 => w_eq (P132_7 _) (w_be (c27) (by (try dsimp only); exact (w_some o_d1jrzo))))
theorem c132 {x0 : ByteArray} (p0 : x0.size ≤ 4611686018427387904) : Wp (D132 x0) fun y => (y.1 = true → x0.size ≤ 40) := by
  rw [E132]
  exact (w132_52 _ ob ob (Int.self_le_toNat _)).mono (fun y q1 => ob)
theorem w165_52 (N : Nat) : ∀ {s0 : ByteArray} {s3 : Int} (p0 : 0 ≤ s3) (p1 : s0.size ≤ 4611686018427387904) (hN : s0.size - s3 ≤ (N : Int)), Wp (L165_52 s0 s3) fun y => (y.1 = true → s0.size ≤ 12) := by
  induction N using Nat.strongRecOn with
  | ind N ih =>
    intro s0 s3 p0 p1 hN
    rw [P165_52]
    exact w_ip (fun h1 => w_gp ob (w_be (c27) (by (try dsimp only); exact (w_ip (fun h3 => w_be (c27) (by (try dsimp only); exact (w_ip (fun h5 => w_some o_d1jrzo) (fun h5 => ih (N - 1) ob ob ob ob)))) (fun h3 => ih (N - 1) ob ob ob ob))))) (fun h1 => w_eq (P165_7 _) (w_be (c27) (by (try dsimp only); exact (w_some o_d1jrzo))))
theorem c165 {x0 : ByteArray} (p0 : x0.size ≤ 4611686018427387904) : Wp (D165 x0) fun y => (y.1 = true → x0.size ≤ 12) := by
  rw [E165]
  exact (w165_52 _ ob ob (Int.self_le_toNat _)).mono (fun y q1 => ob)
theorem w104_52 (N : Nat) : ∀ {s0 : List Fw.Cell} {s1 : ByteArray} {s5 : Int} (p0 : 0 ≤ s5) (p1 : s0.length ≤ 1099511627776) (p2 : KZ s0) (hN : s0.length - s5 ≤ (N : Int)), Wp (L104_52 s0 s1 s5) fun y => y.1.size ≤ 60 := by
  induction N using Nat.strongRecOn with
  | ind N ih =>
    intro s0 s1 s5 p0 p1 p2 hN
    rw [P104_52]
    exact w_ip (fun h1 => w_gp ob (w_ip (fun h2 => w_gp ob (w_some o_143swz)) (fun h2 => ih (N - 1) ob ob ob ob ob))) (fun h1 => w_eq (P104_7) (w_some o_143swz))
theorem c104 {x0 : List Fw.Cell} {x1 : ByteArray} (p0 : x0.length ≤ 1099511627776) (p1 : KZ x0) : Wp (D104 x0 x1) fun y => y.1.size ≤ 60 := by
  rw [E104]
  exact (w104_52 _ ob ob ob (Int.self_le_toNat _)).mono (fun y q1 => ob)
theorem w189_116 (N : Nat) : ∀ {s0 : List Fw.Cell} {s1 : ByteArray} {s6 : Int} {e0 : List ByteArray} (p0 : 0 ≤ s6) (p1 : s0.length ≤ 1099511627776) (p2 : KZ s0) (p3 : e0.length ≤ s6.toNat) (p4 : e0.length ≤ s0.length) (p5 : (∀ z ∈ e0, s1.size ≤ z.size ∧ z.size ≤ 40)) (hN : s0.length - s6 ≤ (N : Int)), Wp (L189_116 s0 s1 s6 e0) fun y => y.1.length ≤ s0.length ∧ (∀ z ∈ y.1, s1.size ≤ z.size ∧ z.size ≤ 40) := by
  induction N using Nat.strongRecOn with
  | ind N ih =>
    intro s0 s1 s6 e0 p0 p1 p2 p3 p4 p5 hN
    rw [P189_116]
    exact w_ip (fun h1 => w_gp o_xhj4ix (w_bd (c191) (fun y0 q2 => w_ip (fun h3 => w_gp o_xhj4ix (w_gp o_xhj4ix (w_eq (P189_467 _ _ _ _) (ih (N - 1) o_xhj4ix o_xhj4ix o_xhj4ix o_xhj4ix o_xhj4ix o_xhj4ix o_xhj4ix ob)))) (fun h3 => w_eq (P189_467 _ _ _ _) (ih (N - 1) o_xhj4ix o_xhj4ix o_xhj4ix o_xhj4ix o_xhj4ix o_xhj4ix o_xhj4ix ob))))) (fun h1 => w_eq (P189_15 _) (w_some o_iw6qzh))
theorem c189 {x0 : List Fw.Cell} {x1 : ByteArray} (p0 : x0.length ≤ 1099511627776) (p1 : KZ x0) : Wp (D189 x0 x1) fun y => y.1.length ≤ x0.length ∧ (∀ z ∈ y.1, x1.size ≤ z.size ∧ z.size ≤ 40) := by
  rw [E189]
  exact (w189_116 _ o_q8wltm o_q8wltm o_q8wltm o_q8wltm o_q8wltm o_q8wltm (Int.self_le_toNat _)).mono (fun y ⟨q1_0, q1_1⟩ => o_sd45xp)
theorem w156_56 (N : Nat) : ∀ {s0 : List ByteArray} {s1 : ByteArray} {s5 : Int} (p0 : 0 ≤ s5) (p1 : s5 ≤ s0.length) (p2 : s0.length ≤ 1099511627776) (p3 : TZ s0) (p4 : s1.size ≤ 4096) (hN : s0.length - s5 ≤ (N : Int)), Wp (L156_56 s0 s1 s5) fun y => y.1.length ≤ s0.length + 1 ∧ TZ y.1 := by
  induction N using Nat.strongRecOn with
  | ind N ih =>
    intro s0 s1 s5 p0 p1 p2 p3 p4 hN
    rw [P156_56]
    exact w_gp o_lualy7 (w_ip (fun h1 => ih (N - 1) o_lualy7 o_lualy7 o_lualy7 o_lualy7 o_lualy7 o_lualy7 ob) (fun h1 => w_eq (P156_15 _ _ _) (w_gp o_lualy7 (w_ip (fun h2 => w_some o_t0c8lk) (fun h2 => w_gp o_lualy7 (w_gp o_lualy7 (w_gp o_lualy7 (w_gp o_lualy7 (w_gp o_lualy7 (w_some o_t0c8lk))))))))))
theorem c156 {x0 : List ByteArray} {x1 : ByteArray} (p0 : x0.length ≤ 1099511627776) (p1 : TZ x0) (p2 : x1.size ≤ 4096) : Wp (D156 x0 x1) fun y => y.1.length ≤ x0.length + 1 ∧ TZ y.1 := by
  rw [E156]
  exact (w156_56 _ ob ob ob ob ob (Int.self_le_toNat _)).mono (fun y ⟨q1_0, q1_1⟩ => ⟨ob, ob⟩)
theorem c135 {x0 : List ByteArray} {x1 : ByteArray} (p0 : x0.length ≤ 1099511627776) (p1 : TZ x0) (p2 : x1.size ≤ 4096) : Wp (D135 x0 x1) fun y => y.1.length ≤ x0.length + 1 ∧ TZ y.1 := by
  rw [E135]
  exact w_bd (c156 o_vvj4d5 o_vvj4d5 o_vvj4d5) (fun y0 ⟨q1_0, q1_1⟩ => w_gp o_vvj4d5 (w_some o_5bwhwq))
theorem w162_500 (N : Nat) : ∀ {s0 : List Fw.Cell} {s1 : ByteArray} {s2 : ByteArray} {s8 : Bool} {s9 : Int} {e0 : List Fw.Cell} (p0 : 0 ≤ s9) (p1 : s0.length ≤ 1099511627776) (p2 : KZ s0) (p3 : s1.size ≤ 40) (p4 : s2.size ≤ 60) (p5 : (e0.length : Int) ≤ s9 + 1) (p6 : (s8 = false → (e0.length : Int) ≤ s9)) (p7 : KZ e0) (p8 : e0.length ≤ s0.length + 1) (p9 : (s8 = false → e0.length ≤ s0.length)) (hN : s0.length - s9 ≤ (N : Int)), Wp (L162_500 s0 s1 s2 s8 s9 e0) fun y => y.1.length ≤ s0.length + 1 ∧ KZ y.1 := by
  induction N using Nat.strongRecOn with
  | ind N ih =>
    intro s0 s1 s2 s8 s9 e0 p0 p1 p2 p3 p4 p5 p6 p7 p8 p9 hN
    rw [P162_500]
    exact w_ip (fun h1 => w_gp o_6as3xi (w_ip (fun h2 => w_gp o_6as3xi (w_eq (P162_8009 _ _ _ _ _ _) (w_gp o_6as3xi (w_ip (fun h3 => w_gp o_6as3xi (w_gp o_6as3xi (w_eq (P162_2003 _ _ _ _ _ _) (ih (N - 1) o_6as3xi o_6as3xi o_6as3xi o_6as3xi o_6as3xi o_6as3xi o_6as3xi o_6as3xi o_6as3xi o_6as3xi o_6as3xi ob)))) (fun h3 => w_eq (P162_2003 _ _ _ _ _ _) (ih (N - 1) o_6as3xi o_6as3xi o_6as3xi o_6as3xi o_6as3xi o_6as3xi o_6as3xi o_6as3xi o_6as3xi o_6as3xi o_6as3xi ob)))))) (fun h2 => w_eq (P162_8009 _ _ _ _ _ _) (w_gp o_6as3xi (w_ip (fun h4 => w_gp o_6as3xi (w_gp o_6as3xi (w_eq (P162_2003 _ _ _ _ _ _) (ih (N - 1) o_6as3xi o_6as3xi o_6as3xi o_6as3xi o_6as3xi o_6as3xi o_6as3xi o_6as3xi o_6as3xi o_6as3xi o_6as3xi ob)))) (fun h4 => w_eq (P162_2003 _ _ _ _ _ _) (ih (N - 1) o_6as3xi o_6as3xi o_6as3xi o_6as3xi o_6as3xi o_6as3xi o_6as3xi o_6as3xi o_6as3xi o_6as3xi o_6as3xi ob))))))) (fun h1 => w_eq (P162_63 _ _ _ _) (w_ip (fun h5 => w_gp o_6as3xi (w_eq (P162_127 _) (w_some o_7980f3))) (fun h5 => w_eq (P162_127 _) (w_some o_7980f3))))
theorem c162 {x0 : List Fw.Cell} {x1 : ByteArray} {x2 : ByteArray} (p0 : x0.length ≤ 1099511627776) (p1 : KZ x0) (p2 : x1.size ≤ 4611686018427387904) : Wp (D162 x0 x1 x2) fun y => y.1.length ≤ x0.length + 1 ∧ KZ y.1 := by
  rw [E162]
  exact w_bd (c132 o_gk4l6k) (fun y0 q1 => w_ip (fun h2 => w_gp o_gk4l6k (w_some o_lfffx2)) (fun h2 => (w162_500 _ o_gk4l6k o_gk4l6k o_gk4l6k o_gk4l6k o_gk4l6k o_gk4l6k o_gk4l6k o_gk4l6k o_gk4l6k o_gk4l6k (Int.self_le_toNat _)).mono (fun y ⟨q3_0, q3_1⟩ => o_lfffx2)))
theorem c130{s t : Nat} {x0 : Fw.Mach} {x1 : ByteArray} (p0 : MB s t x0) (p1 : s ≤ 1099511627000) (p2 : t ≤ 1099511627000) (p3 : x1.size ≤ 4000) : Wp (D130 x0 x1) fun y => MB s (t + 1) y.1 ∧ y.2.1.size ≤ 60 := by
  rw [E130]
  exact w_bd (c135 ob ob ob) (fun y0 ⟨q1_0, q1_1⟩ => w_bd (c104 ob ob) (fun y1 q2 => w_some o_27xrlb))
theorem c131{s t : Nat} {x0 : Fw.Mach} {x1 : ByteArray} {x2 : ByteArray} (p0 : MB s t x0) (p1 : s ≤ 1099511627000) (p2 : t ≤ 1099511627000) (p3 : x1.size ≤ 4000) : Wp (D131 x0 x1 x2) fun y => MB (s + 1) (t + 1) y.1 := by
  rw [E131]
  exact w_bd (c135 ob ob ob) (fun y0 ⟨q1_0, q1_1⟩ => w_bd (c162 ob ob ob) (fun y1 ⟨q2_0, q2_1⟩ => w_some o_cye367))
theorem c177{s t : Nat} {x0 : Fw.Mach} {x1 : ByteArray} (p0 : MB s t x0) (p1 : s ≤ 1099511627000) (p2 : t ≤ 1099511627000) (p3 : x1.size ≤ 4000) : Wp (D177 x0 x1) fun y => MB s (t + 1) y.1 ∧ y.2.1.length ≤ s ∧ (∀ z ∈ y.2.1, x1.size ≤ z.size ∧ z.size ≤ 40) := by
  rw [E177]
  exact w_gp ob (w_bd (c135 ob ob ob) (fun y0 ⟨q1_0, q1_1⟩ => w_bd (c189 ob ob) (fun y1 ⟨q2_0, q2_1⟩ => w_some o_bzd54e)))
end Go.Proofs.YtdghkmbppfmifaaGreatDoor.Ri

namespace Go.Proofs.YtdghkmbppfmifaaGreatDoor.Ri
open Go.Proofs.YtdghkmbppfmifaaGreatDoor.Fw
set_option linter.unusedVariables false
set_option linter.unusedSimpArgs false
set_option maxRecDepth 100000
def SI (l : List Int) : Prop := ∀ z ∈ l, z.natAbs ≤ 1000
theorem SI.nil : SI [] := fun c h => by cases h
theorem SI.app {l : List Int} {z : Int} (h : SI l) (hz : z.natAbs ≤ 1000) : SI (l ++ [z]) := fun c hc => (List.mem_append.1 hc).elim (h c) fun e => by rw [List.mem_singleton.1 e]; exact hz
theorem SI.nth {l : List Int} (h : SI l) {i : Nat} (hi : i < l.length) : (nth l i).natAbs ≤ 1000 := h _ (nth_mem hi)
def US (p : Nat) (l : List ByteArray) : Prop := ∀ z ∈ l, p ≤ z.size ∧ z.size ≤ 40
theorem US.nth {p : Nat} {l : List ByteArray} (h : US p l) {i : Nat} (hi : i < l.length) : p ≤ (nth l i).size ∧ (nth l i).size ≤ 40 := h _ (nth_mem hi)
def U4 (l : List ByteArray) : Prop := ∀ z ∈ l, z.size ≤ 40
theorem U4.nil : U4 [] := fun c h => by cases h
theorem U4.app {l : List ByteArray} {z : ByteArray} (h : U4 l) (hz : z.size ≤ 40) : U4 (l ++ [z]) := fun c hc => (List.mem_append.1 hc).elim (h c) fun e => by rw [List.mem_singleton.1 e]; exact hz
theorem U4.nth {l : List ByteArray} (h : U4 l) {i : Nat} (hi : i < l.length) : (nth l i).size ≤ 40 := h _ (nth_mem hi)
theorem Wp.self {α : Type} {o : Option α} {P : α → Prop} (h : Wp o P) : Wp o fun y => P y ∧ o = some y := let ⟨y, h1, h2⟩ := h; ⟨y, h1, h2, h1⟩
theorem US.zero {p : Nat} {l : List ByteArray} (h : ∀ z ∈ l, p ≤ z.size ∧ z.size ≤ 40) : US 0 l := fun z hz => ⟨Nat.zero_le _, (h z hz).2⟩
theorem ob3 {p : Prop} (h : p := by first | exact ob | exact (US.nth (by assumption) (by omega)).1 | exact Nat.le_trans (US.nth (by assumption) (by omega)).2 (by decide) | exact Nat.le_trans (cutS_len _ _ _) (Nat.le_trans (US.nth (by assumption) (by omega)).2 (by decide)) | exact SI.nil | exact U4.nil) : p := h
theorem o_v2nazj {p : Prop} (h : p := by (try dsimp only); (rw [bstr_size, List.length_map]; omega)) : p := h
theorem o_opk28x {p : Prop} (h : p := by (try dsimp only); first | exact ob | (rw [bstr_size, List.length_map]; omega)) : p := h
theorem o_nx82l {p : Prop} (h : p := by first | exact ob | (left; decide) | (have hh := Int.tmod_eq_emod_of_nonneg (a := (x0.size : Int)) (b := 2) (by omega); omega)) : p := h
theorem o_qfcnc {p : Prop} (h : p := by (try dsimp only); first | exact ob | (left; decide) | (have hh := Int.tmod_eq_emod_of_nonneg (a := (x0.size : Int)) (b := 2) (by omega); omega)) : p := h
theorem o_8j6555 {p : Prop} (h : p := by (try dsimp only); (intro _; omega)) : p := h
theorem o_8j82mm {p : Prop} (h : p := by first | exact ob | exact US.zero (by assumption)) : p := h
theorem o_6rsq4e {p : Prop} (h : p := by first | exact ob3 | exact ⟨by decide, by have := (US.nth (p := 2) (by assumption) (i := s6.toNat) (by omega)).1; omega, by omega⟩ | exact U4.app (by assumption) (Nat.le_trans (cutS_len _ _ _) (US.nth (by assumption) (by omega)).2)) : p := h
theorem o_i8umkb {p : Prop} (h : p := by (try dsimp only); exact ⟨ob, ob, ob⟩) : p := h
theorem o_to2ogy {p : Prop} (h : p := by first | exact ob3 | (have hh := U4.nth (by assumption) (i := s6.toNat) (by omega : _ < e6.length); exact ob)) : p := h
theorem w157_244 (N : Nat) : ∀ {s0 : ByteArray} {s5 : Int} {e0 : List UInt8} (p0 : 0 ≤ s5) (p1 : s5 ≤ s0.size) (p2 : s0.size ≤ 20000) (p3 : (e0.length : Int) ≤ 2 * s5) (hN : s0.size - s5 ≤ (N : Int)), Wp (L157_244 s0 s5 e0) fun y => y.1.size ≤ 2 * s0.size := by
  induction N using Nat.strongRecOn with
  | ind N ih =>
    intro s0 s5 e0 p0 p1 p2 p3 hN
    rw [P157_244]
    exact w_ip (fun h1 => w_gp ob (w_gp ob (w_bd (c163) (fun y0 _ => w_gp ob (w_gp ob (w_bd (c163) (fun y1 _ => w_gp ob (ih (N - 1) ob ob ob ob ob ob)))))))) (fun h1 => w_eq (P157_31 _) (w_some o_v2nazj))
theorem c157 {x0 : ByteArray} : Wp (D157 x0) fun y => y.1.size ≤ 2 * x0.size := by
  rw [E157]
  exact w_ip (fun h1 => w_some ob) (fun h1 => (w157_244 _ ob ob ob ob (Int.self_le_toNat _)).mono (fun y q2 => ob))
theorem w113_244 (N : Nat) : ∀ {s0 : ByteArray} {s5 : Int} {e0 : List UInt8} (p0 : 0 ≤ s5) (p1 : s5 ≤ s0.size) (p2 : s5 % 2 = 0) (p3 : (s0.size : Int) % 2 = 0) (p4 : s0.size ≤ 40000) (p5 : (e0.length : Int) ≤ s5) (hN : s0.size - s5 ≤ (N : Int)), Wp (L113_244 s0 s5 e0) fun y => y.1.size ≤ s0.size := by
  induction N using Nat.strongRecOn with
  | ind N ih =>
    intro s0 s5 e0 p0 p1 p2 p3 p4 p5 hN
    rw [P113_244]
    exact w_ip (fun h1 => w_gp ob (w_bd (c160) (fun y0 _ => w_gp ob (w_bd (c160) (fun y1 _ => w_ip (fun h4 => w_some o_opk28x) (fun h4 => w_gp ob (ih (N - 1) ob ob ob ob ob ob ob ob))))))) (fun h1 => w_eq (P113_31 _) (w_some o_opk28x))
theorem c113 {x0 : ByteArray} : Wp (D113 x0) fun y => y.1.size ≤ x0.size := by
  rw [E113]
  exact w_gp o_nx82l (w_ip (fun h1 => w_some o_qfcnc) (fun h1 => (w113_244 _ o_nx82l o_nx82l o_nx82l o_nx82l o_nx82l o_nx82l (Int.self_le_toNat _)).mono (fun y q2 => o_qfcnc)))
theorem c106 {x0 : Int} {x1 : Int} {x2 : Int} : Wp (D106 x0 x1 x2) fun y => (x1 ≤ x2 → x1 ≤ y.1 ∧ y.1 ≤ x2) := by
  rw [E106]
  exact w_ip (fun h1 => w_some o_8j6555) (fun h1 => w_ip (fun h2 => w_some o_8j6555) (fun h2 => w_some o_8j6555))
theorem c88{s t : Nat} {x0 : Fw.Mach} {x1 : ByteArray} (p0 : MB s t x0) (p1 : s ≤ 1099511627000) (p2 : t ≤ 1099511627000) (p3 : x1.size ≤ 4000) : Wp (D88 x0 x1) fun y => MB (s) (t + 1) y.1 ∧ 0 ≤ y.2.1 ∧ y.2.1 ≤ 999 := by
  rw [E88]
  exact w_bd (c130 (s := s) (t := t) ob ob ob ob) (fun y0 ⟨q1_0, q1_1⟩ => w_bd (c111) (fun y1 ⟨q2_0, q2_1⟩ => w_some ⟨ob, ob, ob⟩))
theorem c89{s t : Nat} {x0 : Fw.Mach} {x1 : ByteArray} (p0 : MB s t x0) (p1 : s ≤ 1099511626000) (p2 : t ≤ 1099511626000) (p3 : x1.size ≤ 4000) : Wp (D89 x0 x1) fun y => MB (s + 1) (t + 2) y.1 ∧ 0 ≤ y.2.1 ∧ y.2.1 ≤ 999 := by
  rw [E89]
  exact w_bd (c130 (s := s) (t := t) ob ob ob ob) (fun y0 ⟨q1_0, q1_1⟩ => w_bd (c111) (fun y1 ⟨q2_0, q2_1⟩ => w_ip (fun h3 => by (try simp (disch := omega) only [i64_id] at h3); exact w_some ⟨ob, ob, ob⟩) (fun h3 => by (try simp (disch := omega) only [i64_id] at h3); exact w_bd (c122 ob ob) (fun y2 q4 => w_bd (c131 (s := (s)) (t := ((t) + 1)) ob ob ob ob) (fun y3 q5 => w_some ⟨ob, ob, ob⟩)))))
theorem c90{s t : Nat} {x0 : Fw.Mach} {x1 : ByteArray} {x2 : Int} (p0 : MB s t x0) (p1 : s ≤ 1099511627000) (p2 : t ≤ 1099511627000) (p3 : x1.size ≤ 4000) : Wp (D90 x0 x1 x2) fun y => MB (s + 1) (t + 1) y.1 := by
  rw [E90]
  exact w_be (c27) (by (try dsimp only); exact (w_ip (fun h2 => w_bd (c131 (s := s) (t := t) ob ob ob ob) (fun y3 q3 => w_some ob)) (fun h2 => w_bd (c122 ob ob) (fun y1 q4 => w_bd (c131 (s := s) (t := t) ob ob ob ob) (fun y2 q5 => w_some ob)))))
theorem c91 {x0 : Int} {x1 : ByteArray} (p0 : x0.natAbs ≤ 4000000000) (p1 : x1.size ≤ 900) : Wp (D91 x0 x1) fun y => y.1.size ≤ x1.size + 22 := by
  rw [E91]
  exact w_bd (c112 ob ob ob ob) (fun y0 q1 => w_some ob)
theorem c172 {x0 : Int} {x1 : ByteArray} (p0 : x0.natAbs ≤ 4000000000) (p1 : x1.size ≤ 900) : Wp (D172 x0 x1) fun y => y.1.size ≤ x1.size + 22 := by
  rw [E172]
  exact w_bd (c112 ob ob ob ob) (fun y0 q1 => w_some ob)
theorem c175 {x0 : Int} {x1 : ByteArray} (p0 : x0.natAbs ≤ 4000000000) (p1 : x1.size ≤ 900) : Wp (D175 x0 x1) fun y => y.1.size ≤ x1.size + 22 := by
  rw [E175]
  exact w_bd (c112 ob ob ob ob) (fun y0 q1 => w_some ob)
theorem c178 {x0 : Int} (p0 : x0.natAbs ≤ 4000000000) : Wp (D178 x0) fun y => y.1.size ≤ 23 := by
  rw [E178]
  exact w_bd (c112 ob ob ob ob) (fun y0 q1 => w_some ob)
theorem c174 {x0 : Int} {x1 : Int} (p0 : x0.natAbs ≤ 4000000000) (p1 : x1.natAbs ≤ 4000000000) : Wp (D174 x0 x1) fun y => y.1.size ≤ 50 := by
  rw [E174]
  exact w_bd (c172 ob ob) (fun y0 q1 => w_bd (c112 ob ob ob ob) (fun y1 q2 => w_some ob))
theorem c176 {x0 : Int} {x1 : Int} (p0 : x0.natAbs ≤ 4000000000) (p1 : x1.natAbs ≤ 4000000000) : Wp (D176 x0 x1) fun y => y.1.size ≤ 50 := by
  rw [E176]
  exact w_bd (c175 ob ob) (fun y0 q1 => w_bd (c112 ob ob ob ob) (fun y1 q2 => w_some ob))
theorem c188 {x0 : Int} {x1 : Int} (p0 : x0.natAbs ≤ 4000000000) (p1 : x1.natAbs ≤ 4000000000) : Wp (D188 x0 x1) fun y => y.1.size ≤ 50 := by
  rw [E188]
  exact w_bd (c112 ob ob ob ob) (fun y0 q1 => w_bd (c112 ob ob ob ob) (fun y1 q2 => w_some ob))
theorem c166{s t : Nat} {x0 : Fw.Mach} {x1 : ByteArray} (p0 : MB s t x0) (p1 : s ≤ 1099511626000) (p2 : t ≤ 1099511626000) (p3 : x1.size ≤ 900) : Wp (D166 x0 x1) fun y => MB (s) (t + 1) y.1 ∧ 0 ≤ y.2.1 ∧ y.2.1 ≤ 999 := by
  rw [E166]
  exact w_bd (c165 ob) (fun y0 q1 => w_ip (fun h2 => w_some ⟨ob, ob, ob⟩) (fun h2 => w_gp ob (w_bd (c88 (s := s) (t := t) ob ob ob ob) (fun y1 ⟨q3_0, q3_1, q3_2⟩ => w_some ⟨ob, ob, ob⟩))))
theorem c138{s t : Nat} {x0 : Fw.Mach} {x1 : ByteArray} (p0 : MB s t x0) (p1 : s ≤ 100000000000) (p2 : t ≤ 100000000000) (p3 : x1.size ≤ 900) : Wp (D138 x0 x1) fun y => MB (s + 3) (t + 8) y.1 := by
  rw [E138]
  exact w_bd (c165 ob) (fun y0 q1 => w_ip (fun h2 => w_some ob) (fun h2 => w_bd (c166 (s := s) (t := t) ob ob ob ob) (fun y1 ⟨q3_0, q3_1, q3_2⟩ => w_ip (fun h4 => w_some ob) (fun h4 => w_bd (c88 (s := ((s))) (t := ((t) + 1)) ob ob ob ob) (fun y2 ⟨q5_0, q5_1, q5_2⟩ => w_ip (fun h6 => w_some ob) (fun h6 => w_bd (c89 (s := ((((s))))) (t := ((((t) + 1)) + 1)) ob ob ob ob) (fun y3 ⟨q7_0, q7_1, q7_2⟩ => w_gp ob (w_bd (c90 (s := ((((((s))))) + 1)) (t := ((((((t) + 1)) + 1)) + 2)) ob ob ob ob) (fun y4 q8 => w_bd (c112 ob ob ob ob) (fun y5 q9 => w_bd (c90 (s := ((((((((s))))) + 1)) + 1)) (t := ((((((((t) + 1)) + 1)) + 2)) + 1)) ob ob ob ob) (fun y6 q10 => w_some ob)))))))))))
theorem c139{s t : Nat} {x0 : Fw.Mach} {x1 : ByteArray} {x2 : ByteArray} (p0 : MB s t x0) (p1 : s ≤ 100000000000) (p2 : t ≤ 100000000000) (p3 : x1.size ≤ 900) (p4 : x2.size ≤ 900) : Wp (D139 x0 x1 x2) fun y => MB (s + 2) (t + 8) y.1 := by
  rw [E139]
  exact w_bd (c165 ob) (fun y0 q1 => w_ip (fun h2 => w_bd (c165 ob) (fun y1 q3 => w_ip (fun h4 => w_some ob) (fun h4 => w_bd (c166 (s := s) (t := t) ob ob ob ob) (fun y2 ⟨q5_0, q5_1, q5_2⟩ => w_ip (fun h6 => w_some ob) (fun h6 => w_bd (c166 (s := ((s))) (t := ((t) + 1)) ob ob ob ob) (fun y3 ⟨q7_0, q7_1, q7_2⟩ => w_ip (fun h8 => w_some ob) (fun h8 => w_bd (c112 ob ob ob ob) (fun y4 q9 => w_bd (c88 (s := ((((s))))) (t := ((((t) + 1)) + 1)) ob ob ob ob) (fun y5 ⟨q10_0, q10_1, q10_2⟩ => w_ip (fun h11 => w_some ob) (fun h11 => w_gp ob (w_bd (c90 (s := ((((((s))))))) (t := ((((((t) + 1)) + 1)) + 1)) ob ob ob ob) (fun y6 q12 => w_bd (c112 ob ob ob ob) (fun y7 q13 => w_bd (c90 (s := ((((((((s))))))) + 1)) (t := ((((((((t) + 1)) + 1)) + 1)) + 1)) ob ob ob ob) (fun y8 q14 => w_some ob)))))))))))))) (fun h2 => w_some ob))
theorem w167_116{s t : Nat} (N : Nat) : ∀ {s6 : Int} {e1 : List Fw.Cell} {e2 : List ByteArray} {e3 : List ByteArray} {e5 : List ByteArray} (p0 : 0 ≤ s6) (p1 : s6 ≤ e5.length) (p2 : MB (s + s6.toNat) (t + s6.toNat) ⟨e1, ⟨e2, e3⟩⟩) (p3 : s + e5.length ≤ 1099511627000) (p4 : t + e5.length ≤ 1099511627000) (p5 : US 0 e5) (hN : e5.length - s6 ≤ (N : Int)), Wp (L167_116 s6 e1 e2 e3 e5) fun y => MB (s + e5.length) (t + e5.length) y.1 := by
  induction N using Nat.strongRecOn with
  | ind N ih =>
    intro s6 e1 e2 e3 e5 p0 p1 p2 p3 p4 p5 hN
    rw [P167_116]
    exact w_ip (fun h1 => w_gp ob3 (w_bd (c131 (s := (s + s6.toNat)) (t := (t + s6.toNat)) ob3 ob3 ob3 ob3) (fun y0 q2 => ih (N - 1) ob3 ob3 ob3 ob3 ob3 ob3 ob3 ob))) (fun h1 => w_eq (P167_15 _ _ _) (w_some ob))
theorem c167{s t : Nat} {x0 : Fw.Mach} {x1 : ByteArray} (p0 : MB s t x0) (p1 : s ≤ 400000000000) (p2 : t ≤ 400000000000) (p3 : x1.size ≤ 900) : Wp (D167 x0 x1) fun y => MB (2 * s) (s + t + 1) y.1 := by
  rw [E167]
  exact w_bd (c177 (s := s) (t := t) o_8j82mm o_8j82mm o_8j82mm o_8j82mm) (fun y0 ⟨q1_0, q1_1, q1_2⟩ => (w167_116 (s := s) (t := t + 1) _ o_8j82mm o_8j82mm o_8j82mm o_8j82mm o_8j82mm o_8j82mm (Int.self_le_toNat _)).mono (fun y q2 => ob))
theorem c140{s t : Nat} {x0 : Fw.Mach} {x1 : ByteArray} (p0 : MB s t x0) (p1 : s ≤ 300000000000) (p2 : t ≤ 300000000000) (p3 : x1.size ≤ 900) : Wp (D140 x0 x1) fun y => MB (2 * s + 10) (s + t + 10) y.1 := by
  rw [E140]
  exact w_bd (c165 ob) (fun y0 q1 => w_ip (fun h2 => w_some ob) (fun h2 => w_bd (c166 (s := s) (t := t) ob ob ob ob) (fun y1 ⟨q3_0, q3_1, q3_2⟩ => w_ip (fun h4 => w_some ob) (fun h4 => w_gp ob (w_bd (c131 (s := ((s))) (t := ((t) + 1)) ob ob ob ob) (fun y2 q5 => w_bd (c112 ob ob ob ob) (fun y3 q6 => w_bd (c88 (s := ((((s))) + 1)) (t := ((((t) + 1)) + 1)) ob ob ob ob) (fun y4 ⟨q7_0, q7_1, q7_2⟩ => w_ip (fun h8 => w_bd (c112 ob ob ob ob) (fun y7 q9 => w_bd (c90 (s := ((((((s))) + 1)))) (t := ((((((t) + 1)) + 1)) + 1)) ob ob ob ob) (fun y8 q10 => w_some ob))) (fun h8 => w_bd (c112 ob ob ob ob) (fun y5 q11 => w_bd (c167 (s := ((((((s))) + 1)))) (t := ((((((t) + 1)) + 1)) + 1)) ob ob ob ob) (fun y6 q12 => w_some ob)))))))))))
theorem w141_255{s t : Nat} {s1 : ByteArray} {s2 : ByteArray} {s8 : Int} {e1 : List Fw.Cell} {e2 : List ByteArray} {e3 : List ByteArray} (p0 : MB s t ⟨e1, ⟨e2, e3⟩⟩) (p1 : s ≤ 1099511626000) (p2 : t ≤ 1099511626000) (p3 : s8.natAbs ≤ 4000000000) (p4 : s1.size ≤ 900) (p5 : s2.size ≤ 900) : Wp (L141_255 s1 s2 s8 e1 e2 e3) fun y => MB (s + 2) (t + 2) y.1 := by
  rw [P141_255]
  exact w_gp ob (w_bd (c90 (s := s) (t := t) ob ob ob ob) (fun y0 q1 => w_gp ob (w_bd (c131 (s := ((s) + 1)) (t := ((t) + 1)) ob ob ob ob) (fun y1 q2 => w_some ob))))
theorem c141{s t : Nat} {x0 : Fw.Mach} {x1 : ByteArray} {x2 : ByteArray} (p0 : MB s t x0) (p1 : s ≤ 100000000000) (p2 : t ≤ 100000000000) (p3 : x1.size ≤ 900) (p4 : x2.size ≤ 900) : Wp (D141 x0 x1 x2) fun y => MB (2 * s + 20) (s + t + 20) y.1 := by
  rw [E141]
  exact w_bd (c165 ob) (fun y0 q1 => w_ip (fun h2 => w_bd (c165 ob) (fun y1 q3 => w_ip (fun h4 => w_some ob) (fun h4 => w_bd (c166 (s := s) (t := t) ob ob ob ob) (fun y2 ⟨q5_0, q5_1, q5_2⟩ => w_ip (fun h6 => w_some ob) (fun h6 => w_bd (c166 (s := ((s))) (t := ((t) + 1)) ob ob ob ob) (fun y3 ⟨q7_0, q7_1, q7_2⟩ => w_ip (fun h8 => w_some ob) (fun h8 => w_ip (fun h9 => w_bd (c140 (s := ((((s))))) (t := ((((t) + 1)) + 1)) ob ob ob ob) (fun y4 q10 => (w141_255 (s := (2 * (((((s))))) + 10)) (t := ((((((s))))) + (((((t) + 1)) + 1)) + 10)) ob ob ob ob ob ob).mono (fun y q11 => ob))) (fun h9 => (w141_255 (s := ((((s))))) (t := ((((t) + 1)) + 1)) ob ob ob ob ob ob).mono (fun y q12 => ob))))))))) (fun h2 => w_some ob))
theorem w168_244{s t : Nat} (N : Nat) : ∀ {s6 : Int} {e1 : List Fw.Cell} {e2 : List ByteArray} {e3 : List ByteArray} {e5 : List ByteArray} {e6 : List ByteArray} (p0 : 0 ≤ s6) (p1 : s6 ≤ e5.length) (p2 : MB s t ⟨e1, ⟨e2, e3⟩⟩) (p3 : e5.length ≤ 1099511627000) (p4 : US 2 e5) (p5 : (e6.length : Int) ≤ s6) (p6 : U4 e6) (hN : e5.length - s6 ≤ (N : Int)), Wp (L168_244 s6 e1 e2 e3 e5 e6) fun y => MB (s) (t) y.1 ∧ y.2.1.length ≤ e5.length ∧ U4 y.2.1 := by
  induction N using Nat.strongRecOn with
  | ind N ih =>
    intro s6 e1 e2 e3 e5 e6 p0 p1 p2 p3 p4 p5 p6 hN
    rw [P168_244]
    exact w_ip (fun h1 => w_gp o_6rsq4e (w_gp o_6rsq4e (w_gp o_6rsq4e (ih (N - 1) o_6rsq4e o_6rsq4e o_6rsq4e o_6rsq4e o_6rsq4e o_6rsq4e o_6rsq4e o_6rsq4e ob)))) (fun h1 => w_eq (P168_31 _ _ _ _) (w_some o_i8umkb))
theorem c168{s t : Nat} {x0 : Fw.Mach} (p0 : MB s t x0) (p1 : s ≤ 100000000000) (p2 : t ≤ 100000000000) : Wp (D168 x0) fun y => MB (s) (t + 1) y.1 ∧ y.2.1.length ≤ s ∧ U4 y.2.1 := by
  rw [E168]
  exact w_bd (c177 (s := s) (t := t) ob3 ob3 ob3 ob3) (fun y0 ⟨q1_0, q1_1, q1_2⟩ => (w168_244 (s := (s)) (t := ((t) + 1)) _ ob3 ob3 ob3 ob3 ob3 ob3 ob3 (Int.self_le_toNat _)).mono (fun y ⟨q2_0, q2_1, q2_2⟩ => ⟨ob, ob, ob⟩))
theorem w142_244{s t : Nat} (N : Nat) : ∀ {s6 : Int} {e1 : List Fw.Cell} {e2 : List ByteArray} {e3 : List ByteArray} {e5_0 : Int} {e5_1 : Int} {e5_2 : ByteArray} {e6 : List ByteArray} {e7_0 : Int} {e7_1 : Int} {e7_2 : ByteArray} (p0 : 0 ≤ s6) (p1 : s6 ≤ e6.length) (p2 : MB s t ⟨e1, ⟨e2, e3⟩⟩) (p3 : e6.length ≤ 1099511627000) (p4 : U4 e6) (p5 : (e7_2.size : Int) ≤ 41 * s6) (hN : e6.length - s6 ≤ (N : Int)), Wp (L142_244 s6 e1 e2 e3 e5_0 e5_1 e5_2 e6 e7_0 e7_1 e7_2) fun y => MB (s) (t) y.1 ∧ y.2.1.Text.size ≤ 41 * e6.length := by
  induction N using Nat.strongRecOn with
  | ind N ih =>
    intro s6 e1 e2 e3 e5_0 e5_1 e5_2 e6 e7_0 e7_1 e7_2 p0 p1 p2 p3 p4 p5 hN
    rw [P142_244]
    exact w_ip (fun h1 => w_gp o_to2ogy (w_gp o_to2ogy (w_gp o_to2ogy (ih (N - 1) o_to2ogy o_to2ogy o_to2ogy o_to2ogy o_to2ogy o_to2ogy o_to2ogy ob)))) (fun h1 => w_eq (P142_31 _ _ _ _ _ _ _ _ _) (w_some ⟨ob, ob⟩))
theorem c142{s t : Nat} {x0 : Fw.Mach} (p0 : MB s t x0) (p1 : s ≤ 100000000000) (p2 : t ≤ 100000000000) : Wp (D142 x0) fun y => MB (s) (t + 1) y.1 ∧ y.2.1.Text.size ≤ 41 * s := by
  rw [E142]
  exact w_bd (c168 (s := s) (t := t) ob3 ob3 ob3) (fun y0 ⟨q1_0, q1_1, q1_2⟩ => (w142_244 (s := ((s))) (t := ((t) + 1)) _ ob3 ob3 ob3 ob3 ob3 ob3 (Int.self_le_toNat _)).mono (fun y ⟨q2_0, q2_1⟩ => ⟨ob, ob⟩))
end Go.Proofs.YtdghkmbppfmifaaGreatDoor.Ri

namespace Go.Proofs.YtdghkmbppfmifaaGreatDoor.Ri
open Go.Proofs.YtdghkmbppfmifaaGreatDoor.Fw
set_option linter.unusedVariables false
set_option linter.unusedSimpArgs false
set_option maxRecDepth 100000
theorem le_cut {n i j b : Nat} {x : ByteArray} (h : n ≤ (cutS x i j).size) (hx : x.size ≤ b) : n ≤ b := Nat.le_trans h (Nat.le_trans (cutS_len _ _ _) hx)
theorem o_ji6z1a {p : Prop} (h : p := by (try dsimp only); exact ⟨ob, by rw [bstr_size, List.length_map]; omega⟩) : p := h
theorem o_sue2xs {p : Prop} (h : p := by first | exact ob | (have hh := td8 (by assumption) (by assumption : s2 ≤ 999); rw [i64_id (by omega) (by omega)]; first | omega | exact MB.le (by assumption) (by omega) (by omega)) | decide) : p := h
theorem o_j3ni9n {p : Prop} (h : p := by first | exact ob | (have hh := td8 (x := x2) (by omega) (by omega); have hm := tm8 (x := x2) (by omega); exact ob)) : p := h
theorem o_z3o8zo {p : Prop} (h : p := by (try dsimp only); first | exact ob | (have hh := td8 (x := x2) (by omega) (by omega); have hm := tm8 (x := x2) (by omega); exact ob)) : p := h
theorem o_o7dy8u {p : Prop} (h : p := by first | exact ob | exact le_cut (by assumption) (by omega)) : p := h
theorem c185{s t : Nat} {x0 : Fw.Mach} {x1 : Int} (p0 : MB s t x0) (p1 : s ≤ 1099511627000) (p2 : t ≤ 1099511627000) (p3 : x1.natAbs ≤ 4000000000) : Wp (D185 x0 x1) fun y => MB (s) (t + 1) y.1 ∧ 0 ≤ y.2.1 ∧ y.2.1 ≤ 999 := by
  rw [E185]
  exact w_bd (c112 ob ob ob ob) (fun y0 q1 => w_bd (c88 (s := s) (t := t) ob ob ob ob) (fun y1 ⟨q2_0, q2_1, q2_2⟩ => w_some ⟨ob, ob, ob⟩))
theorem c186{s t : Nat} {x0 : Fw.Mach} {x1 : Int} {x2 : Int} (p0 : MB s t x0) (p1 : s ≤ 1099511627000) (p2 : t ≤ 1099511627000) (p3 : x1.natAbs ≤ 4000000000) (p4 : x2.natAbs ≤ 4000000000) : Wp (D186 x0 x1 x2) fun y => MB (s) (t + 1) y.1 ∧ y.2.1.size ≤ 60 := by
  rw [E186]
  exact w_bd (c188 ob ob) (fun y0 q1 => w_bd (c130 (s := s) (t := t) ob ob ob ob) (fun y1 ⟨q2_0, q2_1⟩ => w_bd (c113) (fun y2 q3 => w_ip (fun h4 => w_some ⟨ob, ob⟩) (fun h4 => w_some ⟨ob, ob⟩))))
theorem c187{s t : Nat} {x0 : Fw.Mach} {x1 : Int} {x2 : Int} {x3 : ByteArray} (p0 : MB s t x0) (p1 : s ≤ 1099511627000) (p2 : t ≤ 1099511627000) (p3 : x1.natAbs ≤ 4000000000) (p4 : x2.natAbs ≤ 4000000000) : Wp (D187 x0 x1 x2 x3) fun y => MB (s + 1) (t + 1) y.1 := by
  rw [E187]
  exact w_bd (c157) (fun y0 q1 => w_bd (c188 ob ob) (fun y1 q2 => w_bd (c131 (s := s) (t := t) ob ob ob ob) (fun y2 q3 => w_some ob)))
theorem w169_521372 (N : Nat) : ∀ {s1 : Int} {s2 : Int} {s11 : Int} {s13 : Int} {s14 : ByteArray} {s15 : Int} {e1 : List Fw.Cell} {e2 : List ByteArray} {e3 : List ByteArray} {e5 : List UInt8} {Q : Fw.Mach × ByteArray × Unit → Prop} (p0 : 0 ≤ s15) (p1 : s15 ≤ 8) (p2 : 0 ≤ s13) (p3 : s13 ≤ 200) (p4 : (e5.length : Int) ≤ 8 * s13 + s15) (hN : 8 - s15 ≤ (N : Int)) (hk : ∀ {e5 : List UInt8}, (e5.length : Int) ≤ 8 * s13 + 8 → Wp (L169_8147 s1 s2 s11 s13 e1 e2 e3 e5) Q), Wp (L169_521372 s1 s2 s11 s13 s14 s15 e1 e2 e3 e5) Q := by
  induction N using Nat.strongRecOn with
  | ind N ih =>
    intro s1 s2 s11 s13 s14 s15 e1 e2 e3 e5 Q p0 p1 p2 p3 p4 hN hk
    rw [P169_521372]
    exact w_ip (fun h1 => w_ip (fun h2 => by (try simp (disch := omega) only [i64_id] at h2); exact w_gp ob (w_gp ob (w_eq (P169_2085491 _ _ _ _ _ _ _ _ _ _) (ih (N - 1) ob ob ob ob ob ob ob hk)))) (fun h2 => by (try simp (disch := omega) only [i64_id] at h2); exact w_eq (P169_2085491 _ _ _ _ _ _ _ _ _ _) (ih (N - 1) ob ob ob ob ob ob ob hk))) (fun h1 => hk ob)
theorem w169_2036{s t : Nat} (N : Nat) : ∀ {s1 : Int} {s2 : Int} {s11 : Int} {s13 : Int} {e1 : List Fw.Cell} {e2 : List ByteArray} {e3 : List ByteArray} {e5 : List UInt8} (p0 : 0 ≤ s13) (p1 : s13 ≤ 130) (p2 : s11 ≤ 999) (p3 : (e5.length : Int) ≤ 8 * s13) (p4 : MB s (t + s13.toNat) ⟨e1, ⟨e2, e3⟩⟩) (p5 : s ≤ 1000000000000) (p6 : t ≤ 1000000000000) (p7 : s1.natAbs ≤ 4000000000) (hN : s11 - 8 * s13 ≤ (N : Int)), Wp (L169_2036 s1 s2 s11 s13 e1 e2 e3 e5) fun y => MB (s) (t + 130) y.1 ∧ y.2.1.size ≤ 2000 := by
  induction N using Nat.strongRecOn with
  | ind N ih =>
    intro s1 s2 s11 s13 e1 e2 e3 e5 p0 p1 p2 p3 p4 p5 p6 p7 hN
    rw [P169_2036]
    exact w_ip (fun h1 => by (try simp (disch := omega) only [i64_id] at h1); exact w_bd (c186 (s := s) (t := (t + s13.toNat)) ob ob ob ob ob) (fun y0 ⟨q2_0, q2_1⟩ => w169_521372 _ ob ob ob ob ob (Int.self_le_toNat _) (fun {e5_3} k3_0 => w_eq (P169_8147 _ _ _ _ _ _ _ _) (ih (N - 1) ob ob ob ob ob ob ob ob ob ob)))) (fun h1 => by (try simp (disch := omega) only [i64_id] at h1); exact w_eq (P169_255 _ _ _ _) (w_some o_ji6z1a))
theorem w169_63{s t : Nat} {s1 : Int} {s2 : Int} {s11 : Int} {e1 : List Fw.Cell} {e2 : List ByteArray} {e3 : List ByteArray} (p0 : 0 ≤ s2) (p1 : s2 ≤ 999) (p2 : s11 ≤ 999) (p3 : MB s t ⟨e1, ⟨e2, e3⟩⟩) (p4 : s ≤ 1000000000000) (p5 : t ≤ 1000000000000) (p6 : s1.natAbs ≤ 4000000000) : Wp (L169_63 s1 s2 s11 e1 e2 e3) fun y => MB (s) (t + 130) y.1 ∧ y.2.1.size ≤ 2000 := by
  rw [P169_63]
  exact w_gp o_sue2xs ((w169_2036 (s := s) (t := t) _ o_sue2xs o_sue2xs o_sue2xs o_sue2xs o_sue2xs o_sue2xs o_sue2xs o_sue2xs (Int.self_le_toNat _)).mono (fun y ⟨q1_0, q1_1⟩ => ⟨ob, ob⟩))
theorem c169{s t : Nat} {x0 : Fw.Mach} {x1 : Int} {x2 : Int} {x3 : Int} (p0 : MB s t x0) (p1 : s ≤ 100000000000) (p2 : t ≤ 100000000000) (p3 : x1.natAbs ≤ 4000000000) (p4 : x2.natAbs ≤ 9223372036854775807) (p5 : x3.natAbs ≤ 9223372036854775807) : Wp (D169 x0 x1 x2 x3) fun y => MB (s) (t + 131) y.1 ∧ y.2.1.size ≤ 2000 := by
  rw [E169]
  exact w_bd (c185 (s := s) (t := t) ob ob ob ob) (fun y0 ⟨q1_0, q1_1, q1_2⟩ => w_ip (fun h2 => w_some ⟨ob, ob⟩) (fun h2 => w_ip (fun h3 => by (try simp (disch := omega) only [i64_id] at h3); exact (w169_63 (s := ((s))) (t := ((t) + 1)) ob ob ob ob ob ob ob).mono (fun y ⟨q4_0, q4_1⟩ => ⟨ob, ob⟩)) (fun h3 => by (try simp (disch := omega) only [i64_id] at h3); exact (w169_63 (s := ((s))) (t := ((t) + 1)) ob ob ob ob ob ob ob).mono (fun y ⟨q5_0, q5_1⟩ => ⟨ob, ob⟩))))
theorem w170_265450648 (N : Nat) : ∀ {s1 : Int} {s2 : Int} {s3 : ByteArray} {s10 : Int} {s11 : Int} {s12 : Int} {s15 : Int} {s16 : Int} {e1 : List Fw.Cell} {e2 : List ByteArray} {e3 : List ByteArray} {e5 : List UInt8} {Q : Fw.Mach × Int × Unit → Prop} (p0 : e5.length ≤ 64) (p1 : 0 ≤ s15) (p2 : s15 ≤ 8) (hN : s15 + 1 - e5.length ≤ (N : Int)) (hk : ∀ {e5 : List UInt8}, s15 < e5.length → e5.length ≤ 64 → Wp (L170_66362663 s1 s2 s3 s10 s11 s12 s15 s16 e1 e2 e3 e5) Q), Wp (L170_265450648 s1 s2 s3 s10 s11 s12 s15 s16 e1 e2 e3 e5) Q := by
  induction N using Nat.strongRecOn with
  | ind N ih =>
    intro s1 s2 s3 s10 s11 s12 s15 s16 e1 e2 e3 e5 Q p0 p1 p2 hN hk
    rw [P170_265450648]
    exact w_ip (fun h1 => w_gp ob (ih (N - 1) ob ob ob ob ob hk)) (fun h1 => hk ob ob)
theorem w170_1036916 (N : Nat) : ∀ {s1 : Int} {s2 : Int} {s3 : ByteArray} {s10 : Int} {s11 : Int} {s12 : Int} {s15 : Int} {e1 : List Fw.Cell} {e2 : List ByteArray} {e3 : List ByteArray} {e5 : List UInt8} {Q : Fw.Mach × Int × Unit → Prop} (p0 : e5.length ≤ 64) (p1 : 0 ≤ s15) (p2 : s15 ≤ 8) (p3 : 0 ≤ s12) (p4 : s12 ≤ 20) (p5 : 0 ≤ s2) (p6 : s2 ≤ 999) (p7 : s11 = s2 + s3.size) (p8 : s11 ≤ 64) (hN : 8 - s15 ≤ (N : Int)) (hk : ∀ {e5 : List UInt8}, e5.length ≤ 64 → Wp (L170_129615 s1 s2 s3 s10 s11 s12 e1 e2 e3 e5) Q), Wp (L170_1036916 s1 s2 s3 s10 s11 s12 s15 e1 e2 e3 e5) Q := by
  induction N using Nat.strongRecOn with
  | ind N ih =>
    intro s1 s2 s3 s10 s11 s12 s15 e1 e2 e3 e5 Q p0 p1 p2 p3 p4 p5 p6 p7 p8 hN hk
    rw [P170_1036916]
    exact w_ip (fun h1 => w_ip (fun h2 => by (try simp (disch := omega) only [i64_id] at h2); exact w_eq (P170_4147667 _ _ _ _ _ _ _ _ _ _ _) (ih (N - 1) ob ob ob ob ob ob ob ob ob ob ob hk)) (fun h2 => by (try simp (disch := omega) only [i64_id] at h2); exact w170_265450648 _ ob ob ob (Int.self_le_toNat _) (fun {e5_4} k4_0 k4_1 => w_eq (P170_66362663 _ _ _ _ _ _ _ _ _ _ _ _) (w_gp ob (w_gp ob (w_eq (P170_4147667 _ _ _ _ _ _ _ _ _ _ _) (ih (N - 1) ob ob ob ob ob ob ob ob ob ob ob hk))))))) (fun h1 => hk ob)
theorem w170_1012{s t : Nat} (N : Nat) : ∀ {s1 : Int} {s2 : Int} {s3 : ByteArray} {s10 : Int} {s11 : Int} {s12 : Int} {e1 : List Fw.Cell} {e2 : List ByteArray} {e3 : List ByteArray} (p0 : 0 ≤ s12) (p1 : s12 ≤ 8) (p2 : 0 ≤ s2) (p3 : s2 ≤ 999) (p4 : s11 = s2 + s3.size) (p5 : s11 ≤ 64) (p6 : MB (s + s12.toNat) (t + 2 * s12.toNat) ⟨e1, ⟨e2, e3⟩⟩) (p7 : s ≤ 1000000000000) (p8 : t ≤ 1000000000000) (p9 : s1.natAbs ≤ 4000000000) (hN : s11 - 8 * s12 ≤ (N : Int)), Wp (L170_1012 s1 s2 s3 s10 s11 s12 e1 e2 e3) fun y => MB (s + 11) (t + 22) y.1 := by
  induction N using Nat.strongRecOn with
  | ind N ih =>
    intro s1 s2 s3 s10 s11 s12 e1 e2 e3 p0 p1 p2 p3 p4 p5 p6 p7 p8 p9 hN
    rw [P170_1012]
    exact w_ip (fun h1 => by (try simp (disch := omega) only [i64_id] at h1); exact w_bd (c186 (s := (s + s12.toNat)) (t := (t + 2 * s12.toNat)) ob ob ob ob ob) (fun y0 ⟨q2_0, q2_1⟩ => w170_1036916 _ ob ob ob ob ob ob ob ob ob (Int.self_le_toNat _) (fun {e5_3} k3_0 => w_eq (P170_129615 _ _ _ _ _ _ _ _ _ _) (w_bd (c187 (s := (((s + s12.toNat)))) (t := (((t + 2 * s12.toNat)) + 1)) ob ob ob ob ob) (fun y0 q4 => w_eq (P170_4051 _ _ _ _ _ _ _ _ _) (ih (N - 1) ob ob ob ob ob ob ob ob ob ob ob ob)))))) (fun h1 => by (try simp (disch := omega) only [i64_id] at h1); exact w_eq (P170_127 _ _ _ _ _ _) (w_ip (fun h5 => w_bd (c112 ob ob ob ob) (fun y0 q6 => w_bd (c90 (s := (s + s12.toNat)) (t := (t + 2 * s12.toNat)) ob ob ob ob) (fun y1 q7 => w_eq (P170_255 _ _ _) (w_some ob)))) (fun h5 => w_eq (P170_255 _ _ _) (w_some ob))))
theorem c170{s t : Nat} {x0 : Fw.Mach} {x1 : Int} {x2 : Int} {x3 : ByteArray} (p0 : MB s t x0) (p1 : s ≤ 100000000000) (p2 : t ≤ 100000000000) (p3 : x1.natAbs ≤ 4000000000) (p4 : x2.natAbs ≤ 9223372036854775807) (p5 : x3.size ≤ 1000) : Wp (D170 x0 x1 x2 x3) fun y => MB (s + 12) (t + 24) y.1 := by
  rw [E170]
  exact w_bd (c185 (s := s) (t := t) ob ob ob ob) (fun y0 ⟨q1_0, q1_1, q1_2⟩ => w_be (c27) (by (try dsimp only); exact (w_ip (fun h3 => w_some ob) (fun h3 => w_ip (fun h4 => by (try simp (disch := omega) only [i64_id] at h4); exact w_some ob) (fun h4 => by (try simp (disch := omega) only [i64_id] at h4); exact w_gp ob ((w170_1012 (s := ((s))) (t := ((t) + 1)) _ ob ob ob ob ob ob ob ob ob ob (Int.self_le_toNat _)).mono (fun y q5 => ob)))))))
theorem w171_504{s t : Nat} (N : Nat) : ∀ {s1 : Int} {s2 : Int} {s8 : Int} {s9 : Int} {e1 : List Fw.Cell} {e2 : List ByteArray} {e3 : List ByteArray} (p0 : 0 ≤ s9) (p1 : s9 ≤ 130) (p2 : s8 ≤ 999) (p3 : MB (s + s9.toNat) (t + s9.toNat) ⟨e1, ⟨e2, e3⟩⟩) (p4 : s ≤ 1000000000000) (p5 : t ≤ 1000000000000) (p6 : s1.natAbs ≤ 4000000000) (p7 : s2.natAbs ≤ 4000000000) (hN : s8 - 8 * s9 ≤ (N : Int)), Wp (L171_504 s1 s2 s8 s9 e1 e2 e3) fun y => MB (s + 140) (t + 140) y.1 := by
  induction N using Nat.strongRecOn with
  | ind N ih =>
    intro s1 s2 s8 s9 e1 e2 e3 p0 p1 p2 p3 p4 p5 p6 p7 hN
    rw [P171_504]
    exact w_ip (fun h1 => by (try simp (disch := omega) only [i64_id] at h1); exact w_bd (c188 ob ob) (fun y0 q2 => w_bd (c131 (s := (s + s9.toNat)) (t := (t + s9.toNat)) ob ob ob ob) (fun y1 q3 => ih (N - 1) ob ob ob ob ob ob ob ob ob ob))) (fun h1 => by (try simp (disch := omega) only [i64_id] at h1); exact w_eq (P171_127 _ _ _ _ _) (w_bd (c112 ob ob ob ob) (fun y0 q4 => w_bd (c90 (s := (s + s9.toNat)) (t := (t + s9.toNat)) ob ob ob ob) (fun y1 q5 => w_some ob))))
theorem c171{s t : Nat} {x0 : Fw.Mach} {x1 : Int} {x2 : Int} (p0 : MB s t x0) (p1 : s ≤ 100000000000) (p2 : t ≤ 100000000000) (p3 : x1.natAbs ≤ 4000000000) (p4 : x2.natAbs ≤ 9223372036854775807) : Wp (D171 x0 x1 x2) fun y => MB (s + 142) (t + 143) y.1 := by
  rw [E171]
  exact w_bd (c185 (s := s) (t := t) o_j3ni9n o_j3ni9n o_j3ni9n o_j3ni9n) (fun y0 ⟨q1_0, q1_1, q1_2⟩ => w_be (c27) (by (try dsimp only); exact (w_ip (fun h3 => w_some o_z3o8zo) (fun h3 => w_gp o_j3ni9n (w_gp o_j3ni9n (w_ip (fun h4 => w_bd (c186 (s := ((s))) (t := ((t) + 1)) o_j3ni9n o_j3ni9n o_j3ni9n o_j3ni9n o_j3ni9n) (fun y2 ⟨q5_0, q5_1⟩ => w_gp o_j3ni9n (w_bd (c106) (fun y3 q6 => w_gp o_j3ni9n (w_bd (c187 (s := ((((s))))) (t := ((((t) + 1)) + 1)) o_j3ni9n o_j3ni9n o_j3ni9n o_j3ni9n o_j3ni9n) (fun y4 q7 => w_eq (P171_63 _ _ _ _ _ _ _) ((w171_504 (s := ((((((s))))) + 1)) (t := ((((((t) + 1)) + 1)) + 1)) _ o_j3ni9n o_j3ni9n o_j3ni9n o_j3ni9n o_j3ni9n o_j3ni9n o_j3ni9n o_j3ni9n (Int.self_le_toNat _)).mono (fun y q8 => o_z3o8zo)))))))) (fun h4 => w_eq (P171_63 _ _ _ _ _ _ _) ((w171_504 (s := ((s))) (t := ((t) + 1)) _ o_j3ni9n o_j3ni9n o_j3ni9n o_j3ni9n o_j3ni9n o_j3ni9n o_j3ni9n o_j3ni9n (Int.self_le_toNat _)).mono (fun y q9 => o_z3o8zo)))))))))
theorem c144{s t : Nat} {x0 : Fw.Mach} (p0 : MB s t x0) (p1 : s ≤ 100000000000) (p2 : t ≤ 100000000000) : Wp (D144 x0) fun y => MB (s + 2) (t + 4) y.1 := by
  rw [E144]
  exact w_bd (c88 (s := s) (t := t) ob ob ob ob) (fun y0 ⟨q1_0, q1_1, q1_2⟩ => w_ip (fun h2 => w_some ob) (fun h2 => w_bd (c89 (s := ((s))) (t := ((t) + 1)) ob ob ob ob) (fun y1 ⟨q3_0, q3_1, q3_2⟩ => w_bd (c172 ob ob) (fun y2 q4 => w_bd (c90 (s := ((((s))) + 1)) (t := ((((t) + 1)) + 2)) ob ob ob ob) (fun y3 q5 => w_some ob)))))
theorem c173{s t : Nat} {x0 : Fw.Mach} {x1 : Int} (p0 : MB s t x0) (p1 : s ≤ 1099511627000) (p2 : t ≤ 1099511627000) (p3 : x1.natAbs ≤ 4000000000) : Wp (D173 x0 x1) fun y => MB (s) (t + 1) y.1 := by
  rw [E173]
  exact w_bd (c172 ob ob) (fun y0 q1 => w_bd (c88 (s := s) (t := t) ob ob ob ob) (fun y1 ⟨q2_0, q2_1, q2_2⟩ => w_some ob))
theorem c145{s t : Nat} {x0 : Fw.Mach} {x1 : Int} {x2 : ByteArray} (p0 : MB s t x0) (p1 : s ≤ 100000000000) (p2 : t ≤ 100000000000) (p3 : x1.natAbs ≤ 4000000000) : Wp (D145 x0 x1 x2) fun y => MB (s + 2) (t + 5) y.1 := by
  rw [E145]
  exact w_bd (c173 (s := s) (t := t) ob ob ob ob) (fun y0 q1 => w_ip (fun h2 => w_some ob) (fun h2 => w_ip (fun h3 => w_some ob) (fun h3 => w_bd (c172 ob ob) (fun y1 q4 => w_bd (c88 (s := ((s))) (t := ((t) + 1)) ob ob ob ob) (fun y2 ⟨q5_0, q5_1, q5_2⟩ => w_bd (c172 ob ob) (fun y3 q6 => w_bd (c88 (s := ((((s))))) (t := ((((t) + 1)) + 1)) ob ob ob ob) (fun y4 ⟨q7_0, q7_1, q7_2⟩ => w_ip (fun h8 => by (try simp (disch := omega) only [i64_id] at h8); exact w_some ob) (fun h8 => by (try simp (disch := omega) only [i64_id] at h8); exact w_ip (fun h9 => w_some ob) (fun h9 => w_bd (c157) (fun y5 q10 => w_bd (c172 ob ob) (fun y6 q11 => w_bd (c90 (s := ((((((s))))))) (t := ((((((t) + 1)) + 1)) + 1)) ob ob ob ob) (fun y7 q12 => w_bd (c174 ob ob) (fun y8 q13 => w_gp ob (w_bd (c131 (s := ((((((((s))))))) + 1)) (t := ((((((((t) + 1)) + 1)) + 1)) + 1)) ob ob ob ob) (fun y9 q14 => w_some ob)))))))))))))))
theorem w146_1023{s t : Nat} {s1 : Int} {s8 : Int} {s11 : ByteArray} {e1 : List Fw.Cell} {e2 : List ByteArray} {e3 : List ByteArray} (p0 : MB s t ⟨e1, ⟨e2, e3⟩⟩) (p1 : s ≤ 1000000000000) (p2 : t ≤ 1000000000000) (p3 : s1.natAbs ≤ 4000000000) (p4 : 0 ≤ s8) (p5 : s8 ≤ 999) (p6 : s11.size ≤ 60) : Wp (L146_1023 s1 s8 s11 e1 e2 e3) fun y => MB (s + 2) (t + 2) y.1 ∧ y.2.1.size ≤ 60 := by
  rw [P146_1023]
  exact w_bd (c174 ob ob) (fun y0 q1 => w_bd (c131 (s := s) (t := t) ob ob ob ob) (fun y1 q2 => w_bd (c172 ob ob) (fun y2 q3 => w_bd (c90 (s := ((s) + 1)) (t := ((t) + 1)) ob ob ob ob) (fun y3 q4 => w_some ⟨ob, ob⟩))))
theorem c146{s t : Nat} {x0 : Fw.Mach} {x1 : Int} (p0 : MB s t x0) (p1 : s ≤ 100000000000) (p2 : t ≤ 100000000000) (p3 : x1.natAbs ≤ 4000000000) : Wp (D146 x0 x1) fun y => MB (s + 2) (t + 6) y.1 ∧ y.2.1.size ≤ 60 := by
  rw [E146]
  exact w_bd (c173 (s := s) (t := t) o_o7dy8u o_o7dy8u o_o7dy8u o_o7dy8u) (fun y0 q1 => w_ip (fun h2 => w_some ⟨ob, ob⟩) (fun h2 => w_bd (c172 o_o7dy8u o_o7dy8u) (fun y1 q3 => w_bd (c88 (s := ((s))) (t := ((t) + 1)) o_o7dy8u o_o7dy8u o_o7dy8u o_o7dy8u) (fun y2 ⟨q4_0, q4_1, q4_2⟩ => w_bd (c172 o_o7dy8u o_o7dy8u) (fun y3 q5 => w_bd (c88 (s := ((((s))))) (t := ((((t) + 1)) + 1)) o_o7dy8u o_o7dy8u o_o7dy8u o_o7dy8u) (fun y4 ⟨q6_0, q6_1, q6_2⟩ => w_ip (fun h7 => w_some ⟨ob, ob⟩) (fun h7 => w_bd (c174 o_o7dy8u o_o7dy8u) (fun y5 q8 => w_bd (c130 (s := ((((((s))))))) (t := ((((((t) + 1)) + 1)) + 1)) o_o7dy8u o_o7dy8u o_o7dy8u o_o7dy8u) (fun y6 ⟨q9_0, q9_1⟩ => w_gp o_o7dy8u (w_ip (fun h10 => w_gp o_o7dy8u (w_bd (c113) (fun y7 q11 => (w146_1023 (s := (((((((s)))))))) (t := ((((((((t) + 1)) + 1)) + 1)) + 1)) o_o7dy8u o_o7dy8u o_o7dy8u o_o7dy8u o_o7dy8u o_o7dy8u o_o7dy8u).mono (fun y ⟨q12_0, q12_1⟩ => ⟨ob, ob⟩)))) (fun h10 => (w146_1023 (s := (((((((s)))))))) (t := ((((((((t) + 1)) + 1)) + 1)) + 1)) o_o7dy8u o_o7dy8u o_o7dy8u o_o7dy8u o_o7dy8u o_o7dy8u o_o7dy8u).mono (fun y ⟨q13_0, q13_1⟩ => ⟨ob, ob⟩))))))))))))
end Go.Proofs.YtdghkmbppfmifaaGreatDoor.Ri

namespace Go.Proofs.YtdghkmbppfmifaaGreatDoor.Ri
open Go.Proofs.YtdghkmbppfmifaaGreatDoor.Fw
set_option linter.unusedVariables false
set_option linter.unusedSimpArgs false
set_option maxRecDepth 100000
def HdOk (s : Int) (l : List ByteArray) : Prop := ∀ y, D178 s = some y → US y.1.size l
theorem c178s {x0 : Int} (p0 : x0.natAbs ≤ 4000000000) : Wp (D178 x0) fun y => y.1.size ≤ 23 ∧ D178 x0 = some y := (c178 p0).self
theorem HdOk.of {s : Int} {l : List ByteArray} {y : ByteArray × Unit} (h : D178 s = some y) (hl : ∀ z ∈ l, y.1.size ≤ z.size ∧ z.size ≤ 40) : HdOk s l := fun y' h' => by rw [h] at h'; cases h'; exact hl
theorem HdOk.nth {s : Int} {l : List ByteArray} (h : HdOk s l) {y : ByteArray × Unit} (hy : D178 s = some y) {i : Nat} (hi : i < l.length) : y.1.size ≤ (nth l i).size ∧ (nth l i).size ≤ 40 := (h y hy).nth hi
theorem ob5 {p : Prop} (h : p := by first | exact ob3 | exact HdOk.of (by assumption) (by assumption) | exact US.zero (by assumption) | exact le_cut (by assumption) (by omega)) : p := h
theorem o_d07sp9 {p : Prop} (h : p := by first | exact ob5 | (have hh := (US.nth (p := 2) (by assumption) (i := s8.toNat) (by omega)); exact ob5) | exact SI.app (by assumption) (by omega)) : p := h
theorem o_icazvg {p : Prop} (h : p := by first | exact ob5 | (have hh := (US.nth (p := 2) (by assumption) (i := s10.toNat) (by omega)); exact ob5)) : p := h
theorem o_r2r4x2 {p : Prop} (h : p := by first | assumption | omega | (have hh := HdOk.nth (by assumption : HdOk s1 e5) (by assumption : D178 s1 = some y2) (i := s8.toNat) (by omega); omega) | (have hu := (US.nth (by assumption : US 0 e5) (i := s8.toNat) (by omega)).2; have hc := cutS_len (nth e5 s8.toNat) (y2.1.size : Int).toNat ((nth e5 s8.toNat).size : Int).toNat; first | omega | (rw [ByteArray.size_append]; omega)) | exact ob5) : p := h
theorem c52{s t : Nat} {x0 : Fw.Mach} {x1 : Int} (p0 : MB s t x0) (p1 : s ≤ 100000000000) (p2 : t ≤ 100000000000) (p3 : x1.natAbs ≤ 4000000000) : Wp (D52 x0 x1) fun y => MB (s + 3) (t + 5) y.1 ∧ 0 ≤ y.2.1 ∧ y.2.1 ≤ 999 := by
  rw [E52]
  exact w_bd (c88 (s := s) (t := t) ob5 ob5 ob5 ob5) (fun y0 ⟨q1_0, q1_1, q1_2⟩ => w_ip (fun h2 => w_some ⟨ob5, ob5, ob5⟩) (fun h2 => w_bd (c89 (s := ((s))) (t := ((t) + 1)) ob5 ob5 ob5 ob5) (fun y1 ⟨q3_0, q3_1, q3_2⟩ => w_bd (c91 ob5 ob5) (fun y2 q4 => w_bd (c90 (s := ((((s))) + 1)) (t := ((((t) + 1)) + 2)) ob5 ob5 ob5 ob5) (fun y3 q5 => w_bd (c91 ob5 ob5) (fun y4 q6 => w_bd (c90 (s := ((((((s))) + 1)) + 1)) (t := ((((((t) + 1)) + 2)) + 1)) ob5 ob5 ob5 ob5) (fun y5 q7 => w_some ⟨ob5, ob5, ob5⟩)))))))
theorem c136{s t : Nat} {x0 : Fw.Mach} {x1 : Int} (p0 : MB s t x0) (p1 : s ≤ 1099511627000) (p2 : t ≤ 1099511627000) (p3 : x1.natAbs ≤ 4000000000) : Wp (D136 x0 x1) fun y => MB (s) (t + 1) y.1 ∧ 0 ≤ y.2.1 ∧ y.2.1 ≤ 999 := by
  rw [E136]
  exact w_bd (c91 ob5 ob5) (fun y0 q1 => w_bd (c88 (s := s) (t := t) ob5 ob5 ob5 ob5) (fun y1 ⟨q2_0, q2_1, q2_2⟩ => w_some ⟨ob5, ob5, ob5⟩))
theorem c180{s t : Nat} {x0 : Fw.Mach} {x1 : Int} {x2 : Int} (p0 : MB s t x0) (p1 : s ≤ 100000000000) (p2 : t ≤ 100000000000) (p3 : x1.natAbs ≤ 4000000000) : Wp (D180 x0 x1 x2) fun y => MB (s + 2) (t + 3) y.1 := by
  rw [E180]
  exact w_bd (c136 (s := s) (t := t) ob5 ob5 ob5 ob5) (fun y0 ⟨q1_0, q1_1, q1_2⟩ => w_ip (fun h2 => w_some ob5) (fun h2 => w_be (c27) (by (try dsimp only); exact (w_ip (fun h4 => w_some ob5) (fun h4 => w_bd (c91 ob5 ob5) (fun y2 q5 => w_bd (c90 (s := ((s))) (t := ((t) + 1)) ob5 ob5 ob5 ob5) (fun y3 q6 => w_bd (c91 ob5 ob5) (fun y4 q7 => w_bd (c90 (s := ((((s))) + 1)) (t := ((((t) + 1)) + 1)) ob5 ob5 ob5 ob5) (fun y5 q8 => w_some ob5)))))))))
theorem c182{s t : Nat} {x0 : Fw.Mach} {x1 : Int} {x2 : Int} (p0 : MB s t x0) (p1 : s ≤ 100000000000) (p2 : t ≤ 100000000000) (p3 : x1.natAbs ≤ 4000000000) (p4 : x2.natAbs ≤ 4000000000) : Wp (D182 x0 x1 x2) fun y => MB (2 * s) (s + t + 4) y.1 := by
  rw [E182]
  exact w_bd (c91 ob5 ob5) (fun y0 q1 => w_bd (c88 (s := s) (t := t) ob5 ob5 ob5 ob5) (fun y1 ⟨q2_0, q2_1, q2_2⟩ => w_ip (fun h3 => w_some ob5) (fun h3 => w_bd (c136 (s := ((s))) (t := ((t) + 1)) ob5 ob5 ob5 ob5) (fun y2 ⟨q4_0, q4_1, q4_2⟩ => w_ip (fun h5 => w_some ob5) (fun h5 => w_ip (fun h6 => w_some ob5) (fun h6 => w_bd (c91 ob5 ob5) (fun y3 q7 => w_bd (c88 (s := ((((s))))) (t := ((((t) + 1)) + 1)) ob5 ob5 ob5 ob5) (fun y4 ⟨q8_0, q8_1, q8_2⟩ => w_bd (c91 ob5 ob5) (fun y5 q9 => w_bd (c167 (s := ((((((s))))))) (t := ((((((t) + 1)) + 1)) + 1)) ob5 ob5 ob5 ob5) (fun y6 q10 => w_some ob5))))))))))
theorem w183_244{s t : Nat} (N : Nat) : ∀ {s1 : Int} {s8 : Int} {e1 : List Fw.Cell} {e2 : List ByteArray} {e3 : List ByteArray} {e5 : List ByteArray} {e6 : List Int} (p0 : 0 ≤ s8) (p1 : s8 ≤ e5.length) (p2 : MB s (t + s8.toNat) ⟨e1, ⟨e2, e3⟩⟩) (p3 : e5.length ≤ s) (p4 : s ≤ 1000000000000) (p5 : t ≤ 99000000000) (p6 : US 2 e5) (p7 : (e6.length : Int) ≤ s8) (p8 : SI e6) (hN : e5.length - s8 ≤ (N : Int)), Wp (L183_244 s1 s8 e1 e2 e3 e5 e6) fun y => MB (s) (t + e5.length) y.1 ∧ y.2.1.length ≤ e5.length ∧ SI y.2.1 := by
  induction N using Nat.strongRecOn with
  | ind N ih =>
    intro s1 s8 e1 e2 e3 e5 e6 p0 p1 p2 p3 p4 p5 p6 p7 p8 hN
    rw [P183_244]
    exact w_ip (fun h1 => w_gp o_d07sp9 (w_gp o_d07sp9 (w_ip (fun h2 => by (try simp (disch := omega) only [i64_id] at h2); exact w_eq (P183_979 _ _ _ _ _ _ _) (ih (N - 1) o_d07sp9 o_d07sp9 o_d07sp9 o_d07sp9 o_d07sp9 o_d07sp9 o_d07sp9 o_d07sp9 o_d07sp9 o_d07sp9 ob5)) (fun h2 => by (try simp (disch := omega) only [i64_id] at h2); exact w_bd (c88 (s := s) (t := (t + s8.toNat)) o_d07sp9 o_d07sp9 o_d07sp9 o_d07sp9) (fun y0 ⟨q3_0, q3_1, q3_2⟩ => w_ip (fun h4 => w_gp o_d07sp9 (w_bd (c111) (fun y1 ⟨q5_0, q5_1⟩ => w_gp o_d07sp9 (w_eq (P183_979 _ _ _ _ _ _ _) (ih (N - 1) o_d07sp9 o_d07sp9 o_d07sp9 o_d07sp9 o_d07sp9 o_d07sp9 o_d07sp9 o_d07sp9 o_d07sp9 o_d07sp9 ob5))))) (fun h4 => w_eq (P183_979 _ _ _ _ _ _ _) (ih (N - 1) o_d07sp9 o_d07sp9 o_d07sp9 o_d07sp9 o_d07sp9 o_d07sp9 o_d07sp9 o_d07sp9 o_d07sp9 o_d07sp9 ob5))))))) (fun h1 => w_eq (P183_31 _ _ _ _) (w_some o_i8umkb))
theorem c183{s t : Nat} {x0 : Fw.Mach} {x1 : Int} (p0 : MB s t x0) (p1 : s ≤ 100000000000) (p2 : t ≤ 98000000000) : Wp (D183 x0 x1) fun y => MB (s) (s + t + 1) y.1 ∧ y.2.1.length ≤ s ∧ SI y.2.1 := by
  rw [E183]
  exact w_bd (c177 (s := s) (t := t) ob5 ob5 ob5 ob5) (fun y0 ⟨q1_0, q1_1, q1_2⟩ => (w183_244 (s := (s)) (t := ((t) + 1)) _ ob5 ob5 ob5 ob5 ob5 ob5 ob5 ob5 ob5 (Int.self_le_toNat _)).mono (fun y ⟨q2_0, q2_1, q2_2⟩ => ⟨ob, ob, ob⟩))
theorem c147{s t : Nat} {x0 : Fw.Mach} {x1 : Int} {x2 : Int} (p0 : MB s t x0) (p1 : s ≤ 1000000000000) (p2 : t ≤ 1000000000000) (p3 : x1.natAbs ≤ 4000000000) : Wp (D147 x0 x1 x2) fun y => MB (s + 2) (t + 5) y.1 := by
  rw [E147]
  exact w_bd (c136 (s := s) (t := t) ob5 ob5 ob5 ob5) (fun y0 ⟨q1_0, q1_1, q1_2⟩ => w_ip (fun h2 => w_some ob5) (fun h2 => w_be (c27) (by (try dsimp only); exact (w_ip (fun h4 => w_some ob5) (fun h4 => w_bd (c175 ob5 ob5) (fun y2 q5 => w_bd (c88 (s := ((s))) (t := ((t) + 1)) ob5 ob5 ob5 ob5) (fun y3 ⟨q6_0, q6_1, q6_2⟩ => w_bd (c175 ob5 ob5) (fun y4 q7 => w_bd (c88 (s := ((((s))))) (t := ((((t) + 1)) + 1)) ob5 ob5 ob5 ob5) (fun y5 ⟨q8_0, q8_1, q8_2⟩ => w_ip (fun h9 => by (try simp (disch := omega) only [i64_id] at h9); exact w_some ob5) (fun h9 => by (try simp (disch := omega) only [i64_id] at h9); exact w_ip (fun h10 => w_some ob5) (fun h10 => w_bd (c175 ob5 ob5) (fun y6 q11 => w_bd (c90 (s := ((((((s))))))) (t := ((((((t) + 1)) + 1)) + 1)) ob5 ob5 ob5 ob5) (fun y7 q12 => w_bd (c176 ob5 ob5) (fun y8 q13 => w_bd (c90 (s := ((((((((s))))))) + 1)) (t := ((((((((t) + 1)) + 1)) + 1)) + 1)) ob5 ob5 ob5 ob5) (fun y9 q14 => w_some ob5)))))))))))))))
theorem c148{s t : Nat} {x0 : Fw.Mach} {x1 : Int} (p0 : MB s t x0) (p1 : s ≤ 100000000000) (p2 : t ≤ 100000000000) (p3 : x1.natAbs ≤ 4000000000) : Wp (D148 x0 x1) fun y => MB (s + 2) (t + 5) y.1 := by
  rw [E148]
  exact w_bd (c175 ob5 ob5) (fun y0 q1 => w_bd (c88 (s := s) (t := t) ob5 ob5 ob5 ob5) (fun y1 ⟨q2_0, q2_1, q2_2⟩ => w_bd (c175 ob5 ob5) (fun y2 q3 => w_bd (c88 (s := ((s))) (t := ((t) + 1)) ob5 ob5 ob5 ob5) (fun y3 ⟨q4_0, q4_1, q4_2⟩ => w_ip (fun h5 => w_some ob5) (fun h5 => w_bd (c176 ob5 ob5) (fun y4 q6 => w_bd (c88 (s := ((((s))))) (t := ((((t) + 1)) + 1)) ob5 ob5 ob5 ob5) (fun y5 ⟨q7_0, q7_1, q7_2⟩ => w_bd (c176 ob5 ob5) (fun y6 q8 => w_bd (c131 (s := ((((((s))))))) (t := ((((((t) + 1)) + 1)) + 1)) ob5 ob5 ob5 ob5) (fun y7 q9 => w_bd (c175 ob5 ob5) (fun y8 q10 => w_bd (c90 (s := ((((((((s))))))) + 1)) (t := ((((((((t) + 1)) + 1)) + 1)) + 1)) ob5 ob5 ob5 ob5) (fun y9 q11 => w_some ob5)))))))))))
theorem c149{s t : Nat} {x0 : Fw.Mach} {x1 : Int} {x2 : Int} (p0 : MB s t x0) (p1 : s ≤ 100000000000) (p2 : t ≤ 100000000000) (p3 : x1.natAbs ≤ 4000000000) : Wp (D149 x0 x1 x2) fun y => MB (s + 1) (t + 1) y.1 := by
  rw [E149]
  exact w_be (c27) (by (try dsimp only); exact (w_ip (fun h2 => w_some ob5) (fun h2 => w_bd (c112 ob5 ob5 ob5 ob5) (fun y1 q3 => w_bd (c90 (s := s) (t := t) ob5 ob5 ob5 ob5) (fun y2 q4 => w_some ob5)))))
theorem w150_4084{s t : Nat} (N : Nat) : ∀ {s1 : Int} {s7 : Int} {s9 : Int} {s10 : Int} {e1 : List Fw.Cell} {e2 : List ByteArray} {e3 : List ByteArray} {e5 : List ByteArray} (p0 : 0 ≤ s10) (p1 : s10 ≤ e5.length) (p2 : MB (s + 3 * s10.toNat) (t + 7 * s10.toNat) ⟨e1, ⟨e2, e3⟩⟩) (p3 : s + 3 * e5.length ≤ 900000000000) (p4 : t + 7 * e5.length ≤ 900000000000) (p5 : US 2 e5) (p6 : s1.natAbs ≤ 9223372036854775807) (p7 : 0 ≤ s7) (p8 : s7 ≤ 999) (hN : e5.length - s10 ≤ (N : Int)), Wp (L150_4084 s1 s7 s9 s10 e1 e2 e3 e5) fun y => MB (s + 3 * e5.length) (t + 7 * e5.length) y.1 := by
  induction N using Nat.strongRecOn with
  | ind N ih =>
    intro s1 s7 s9 s10 e1 e2 e3 e5 p0 p1 p2 p3 p4 p5 p6 p7 p8 hN
    rw [P150_4084]
    exact w_ip (fun h1 => w_gp o_icazvg (w_bd (c88 (s := (s + 3 * s10.toNat)) (t := (t + 7 * s10.toNat)) o_icazvg o_icazvg o_icazvg o_icazvg) (fun y0 ⟨q2_0, q2_1, q2_2⟩ => w_ip (fun h3 => by (try simp (disch := omega) only [i64_id] at h3); exact w_gp o_icazvg (w_bd (c131 (s := (((s + 3 * s10.toNat)))) (t := (((t + 7 * s10.toNat)) + 1)) o_icazvg o_icazvg o_icazvg o_icazvg) (fun y1 q4 => w_gp o_icazvg (w_gp o_icazvg (w_bd (c111) (fun y2 ⟨q5_0, q5_1⟩ => w_bd (c147 (s := (((((s + 3 * s10.toNat)))) + 1)) (t := (((((t + 7 * s10.toNat)) + 1)) + 1)) o_icazvg o_icazvg o_icazvg o_icazvg) (fun y3 q6 => w_eq (P150_16339 _ _ _ _ _ _ _ _) (ih (N - 1) o_icazvg o_icazvg o_icazvg o_icazvg o_icazvg o_icazvg o_icazvg o_icazvg o_icazvg o_icazvg ob5)))))))) (fun h3 => by (try simp (disch := omega) only [i64_id] at h3); exact w_eq (P150_16339 _ _ _ _ _ _ _ _) (ih (N - 1) o_icazvg o_icazvg o_icazvg o_icazvg o_icazvg o_icazvg o_icazvg o_icazvg o_icazvg o_icazvg ob5))))) (fun h1 => w_eq (P150_511 _ _ _ _) (w_some ob))
theorem c150{s t : Nat} {x0 : Fw.Mach} {x1 : Int} (p0 : MB s t x0) (p1 : s ≤ 100000000000) (p2 : t ≤ 100000000000) (p3 : x1.natAbs ≤ 9223372036854775807) : Wp (D150 x0 x1) fun y => MB (4 * s + 10) (7 * s + t + 20) y.1 := by
  rw [E150]
  exact w_ip (fun h1 => w_some ob) (fun h1 => w_bd (c88 (s := s) (t := t) ob5 ob5 ob5 ob5) (fun y0 ⟨q2_0, q2_1, q2_2⟩ => w_ip (fun h3 => by (try simp (disch := omega) only [i64_id] at h3); exact w_some ob) (fun h3 => by (try simp (disch := omega) only [i64_id] at h3); exact w_bd (c90 (s := ((s))) (t := ((t) + 1)) ob5 ob5 ob5 ob5) (fun y1 q4 => w_bd (c177 (s := ((((s))) + 1)) (t := ((((t) + 1)) + 1)) ob5 ob5 ob5 ob5) (fun y2 ⟨q5_0, q5_1, q5_2⟩ => (w150_4084 (s := (((((s))) + 1))) (t := ((((((t) + 1)) + 1)) + 1)) _ ob5 ob5 ob5 ob5 ob5 ob5 ob5 ob5 ob5 (Int.self_le_toNat _)).mono (fun y q6 => ob))))))
theorem c151{s t : Nat} {x0 : Fw.Mach} {x1 : Int} {x2 : Int} {x3 : ByteArray} (p0 : MB s t x0) (p1 : s ≤ 100000000000) (p2 : t ≤ 100000000000) (p3 : x1.natAbs ≤ 4000000000) (p4 : x2.natAbs ≤ 9223372036854775807) : Wp (D151 x0 x1 x2 x3) fun y => MB (s + 1) (t + 1) y.1 := by
  rw [E151]
  exact w_be (c27) (by (try dsimp only); exact (w_ip (fun h2 => w_some ob5) (fun h2 => w_ip (fun h3 => w_bd (c178s ob5) (fun y5 ⟨q4_0, q4_1⟩ => w_bd (c112 ob5 ob5 ob5 ob5) (fun y6 q5 => w_bd (c131 (s := s) (t := t) ob5 ob5 ob5 ob5) (fun y7 q6 => w_some ob5)))) (fun h3 => w_bd (c157) (fun y1 q7 => w_bd (c178s ob5) (fun y2 ⟨q8_0, q8_1⟩ => w_bd (c112 ob5 ob5 ob5 ob5) (fun y3 q9 => w_gp ob5 (w_bd (c131 (s := s) (t := t) ob5 ob5 ob5 ob5) (fun y4 q10 => w_some ob5)))))))))
theorem c152{s t : Nat} {x0 : Fw.Mach} {x1 : Int} {x2 : Int} (p0 : MB s t x0) (p1 : s ≤ 100000000000) (p2 : t ≤ 100000000000) (p3 : x1.natAbs ≤ 4000000000) (p4 : x2.natAbs ≤ 9223372036854775807) : Wp (D152 x0 x1 x2) fun y => MB (s) (t + 1) y.1 ∧ y.2.1.size ≤ 60 := by
  rw [E152]
  exact w_be (c27) (by (try dsimp only); exact (w_ip (fun h2 => w_some ⟨ob5, ob5⟩) (fun h2 => w_bd (c178s ob5) (fun y1 ⟨q3_0, q3_1⟩ => w_bd (c112 ob5 ob5 ob5 ob5) (fun y2 q4 => w_bd (c130 (s := s) (t := t) ob5 ob5 ob5 ob5) (fun y3 ⟨q5_0, q5_1⟩ => w_gp ob5 (w_ip (fun h6 => w_gp ob5 (w_bd (c113) (fun y4 q7 => w_eq (P152_63 _ _ _ _) (w_some ⟨ob5, ob5⟩)))) (fun h6 => w_eq (P152_63 _ _ _ _) (w_some ⟨ob5, ob5⟩)))))))))
theorem w179_116{s t : Nat} (N : Nat) : ∀ {s1 : Int} {s2 : Int} {s8 : Int} {e1 : List Fw.Cell} {e2 : List ByteArray} {e3 : List ByteArray} {e5 : List ByteArray} (p0 : 0 ≤ s8) (p1 : s8 ≤ e5.length) (p2 : MB (s + s8.toNat) (t + 2 * s8.toNat) ⟨e1, ⟨e2, e3⟩⟩) (p3 : s + e5.length ≤ 900000000000) (p4 : t + 2 * e5.length ≤ 900000000000) (p5 : HdOk s1 e5) (p6 : US 0 e5) (p7 : s1.natAbs ≤ 4000000000) (p8 : s2.natAbs ≤ 4000000000) (hN : e5.length - s8 ≤ (N : Int)), Wp (L179_116 s1 s2 s8 e1 e2 e3 e5) fun y => MB (s + e5.length) (t + 2 * e5.length) y.1 := by
  induction N using Nat.strongRecOn with
  | ind N ih =>
    intro s1 s2 s8 e1 e2 e3 e5 p0 p1 p2 p3 p4 p5 p6 p7 p8 hN
    rw [P179_116]
    exact w_ip (fun h1 => w_gp o_r2r4x2 (w_bd (c130 (s := (s + s8.toNat)) (t := (t + 2 * s8.toNat)) o_r2r4x2 o_r2r4x2 o_r2r4x2 o_r2r4x2) (fun y0 ⟨q2_0, q2_1⟩ => w_bd (c178s o_r2r4x2) (fun y1 ⟨q3_0, q3_1⟩ => w_gp o_r2r4x2 (w_bd (c178s o_r2r4x2) (fun y2 ⟨q4_0, q4_1⟩ => w_gp o_r2r4x2 (w_gp o_r2r4x2 (w_bd (c131 (s := ((s + s8.toNat))) (t := (((t + 2 * s8.toNat)) + 1)) o_r2r4x2 o_r2r4x2 o_r2r4x2 o_r2r4x2) (fun y3 q5 => ih (N - 1) o_r2r4x2 o_r2r4x2 o_r2r4x2 o_r2r4x2 o_r2r4x2 o_r2r4x2 o_r2r4x2 o_r2r4x2 o_r2r4x2 o_r2r4x2 ob5))))))))) (fun h1 => w_eq (P179_15 _ _ _) (w_some ob))
theorem c179{s t : Nat} {x0 : Fw.Mach} {x1 : Int} {x2 : Int} (p0 : MB s t x0) (p1 : s ≤ 100000001000) (p2 : t ≤ 100000001000) (p3 : x1.natAbs ≤ 4000000000) (p4 : x2.natAbs ≤ 4000000000) : Wp (D179 x0 x1 x2) fun y => MB (2 * s) (2 * s + t + 1) y.1 := by
  rw [E179]
  exact w_bd (c178s ob5) (fun y0 ⟨q1_0, q1_1⟩ => w_bd (c177 (s := s) (t := t) ob5 ob5 ob5 ob5) (fun y1 ⟨q2_0, q2_1, q2_2⟩ => (w179_116 (s := (s)) (t := ((t) + 1)) _ ob5 ob5 ob5 ob5 ob5 ob5 ob5 ob5 ob5 (Int.self_le_toNat _)).mono (fun y q3 => ob)))
theorem c181{s t : Nat} {x0 : Fw.Mach} {x1 : Int} (p0 : MB s t x0) (p1 : s ≤ 100000001000) (p2 : t ≤ 100000001000) (p3 : x1.natAbs ≤ 4000000000) : Wp (D181 x0 x1) fun y => MB (2 * s) (s + t + 1) y.1 := by
  rw [E181]
  exact w_bd (c178s ob5) (fun y0 ⟨q1_0, q1_1⟩ => w_bd (c167 (s := s) (t := t) ob5 ob5 ob5 ob5) (fun y1 q2 => w_some ob5))
theorem c153{s t : Nat} {x0 : Fw.Mach} {x1 : ByteArray} (p0 : MB s t x0) (p1 : s ≤ 100000000000) (p2 : t ≤ 100000000000) : Wp (D153 x0 x1) fun y => MB (s + 2) (t + 3) y.1 := by
  rw [E153]
  exact w_ip (fun h1 => w_some ob5) (fun h1 => w_bd (c88 (s := s) (t := t) ob5 ob5 ob5 ob5) (fun y0 ⟨q2_0, q2_1, q2_2⟩ => w_ip (fun h3 => w_some ob5) (fun h3 => w_bd (c157) (fun y1 q4 => w_bd (c90 (s := ((s))) (t := ((t) + 1)) ob5 ob5 ob5 ob5) (fun y2 q5 => w_bd (c112 ob5 ob5 ob5 ob5) (fun y3 q6 => w_gp ob5 (w_bd (c131 (s := ((((s))) + 1)) (t := ((((t) + 1)) + 1)) ob5 ob5 ob5 ob5) (fun y4 q7 => w_some ob5))))))))
end Go.Proofs.YtdghkmbppfmifaaGreatDoor.Ri

namespace Go.Proofs.YtdghkmbppfmifaaGreatDoor.Ri
open Go.Proofs.YtdghkmbppfmifaaGreatDoor.Fw
set_option linter.unusedVariables false
set_option linter.unusedSimpArgs false
set_option maxRecDepth 100000
def StepsI (l : List Fw.Step) : Prop := ∀ z ∈ l, z.Proc.natAbs ≤ 4000000000 ∧ z.Call.A.natAbs ≤ 4000000000 ∧ z.Call.B.natAbs ≤ 4000000000
theorem StepsI.nth {l : List Fw.Step} (h : StepsI l) {i : Nat} (hi : i < l.length) : (nth l i).Proc.natAbs ≤ 4000000000 ∧ (nth l i).Call.A.natAbs ≤ 4000000000 ∧ (nth l i).Call.B.natAbs ≤ 4000000000 := h _ (nth_mem hi)
def gr : Nat → Nat
  | 0 => 900
  | n + 1 => 4 * gr n + 200
theorem gr_le {n : Nat} (h : n ≤ 12) : gr n ≤ 17000000000 := by
  have : ∀ n ≤ 12, gr n ≤ 17000000000 := by decide
  exact this n h
theorem gr_le' {n : Nat} (h : n ≤ 11) : gr n ≤ 4100000000 := by
  have : ∀ n ≤ 11, gr n ≤ 4100000000 := by decide
  exact this n h
theorem gr_ge : ∀ n, 900 ≤ gr n
  | 0 => Nat.le_refl _
  | n + 1 => by have := gr_ge n; show 900 ≤ 4 * gr n + 200; omega
theorem gr_s {i : Int} (h : 0 ≤ i) (h' : i ≤ 11) : gr (IntKind.wrap .i64 (i + 1)).toNat = 4 * gr i.toNat + 200 := by
  rw [i64_id (by omega) (by omega)]
  obtain ⟨n, rfl⟩ := Int.eq_ofNat_of_zero_le h
  rfl
theorem w01 : IntKind.wrap .i64 (0 + 1) = 1 := by decide
structure TB (t : Nat) (x : Fw.Touch) : Prop where
  r : x.Reads.length ≤ t
  w : x.Writes.length ≤ t
  tr : TZ x.Reads
  tw : TZ x.Writes
theorem TB.le {t t' : Nat} {x : Fw.Touch} (h : TB t x) (ht : t ≤ t') : TB t' x := ⟨Nat.le_trans h.r ht, Nat.le_trans h.w ht, h.tr, h.tw⟩
theorem TB.r' {t b : Nat} {x : Fw.Touch} (h : TB t x) (hb : t ≤ b) : x.Reads.length ≤ b := Nat.le_trans h.r hb
theorem TB.w' {t b : Nat} {x : Fw.Touch} (h : TB t x) (hb : t ≤ b) : x.Writes.length ≤ b := Nat.le_trans h.w hb
theorem TB.nil : TB 0 ⟨[], []⟩ := ⟨Nat.le_refl _, Nat.le_refl _, TZ.nil, TZ.nil⟩
theorem ob6 {p : Prop} (h : p := by first | assumption | omega | exact TB.r' (by assumption) (by omega) | exact TB.w' (by assumption) (by omega) | exact TB.tr (by assumption) | exact TB.tw (by assumption) | exact TZ.nth (by assumption) (by omega) | exact TB.le (by assumption) (by omega) | exact TZ.nil' (by assumption) | exact KZ.nil' (by assumption) | exact (StepsI.nth (by assumption) (by omega)).1 | exact (StepsI.nth (by assumption) (by omega)).2.1 | exact (StepsI.nth (by assumption) (by omega)).2.2 | exact ob5) : p := h
theorem o_lif8eq {p : Prop} (h : p := by first | assumption | omega | (have hh := SI.nth (by assumption) (i := s10.toNat) (by omega); omega) | exact ob5) : p := h
theorem o_bvd90o {p : Prop} (h : p := by (try dsimp only); (intro hh; simp only [Bool.and_eq_true, decide_eq_true_eq] at hh; omega)) : p := h
theorem o_ycyoj3 {p : Prop} (h : p := by first | exact ob | (simp; omega)) : p := h
theorem o_5o8yrd {p : Prop} (h : p := by (try dsimp only); exact ⟨p0, Nat.le_refl _, Nat.le_refl _, p2, TZ.nil, TZ.nil⟩) : p := h
theorem o_v2c1ly {p : Prop} (h : p := by (try dsimp only); exact ⟨ob, MB.k (by assumption), ⟨ob, ob, ob, ob⟩⟩) : p := h
theorem o_us5nqo {p : Prop} (h : p := by (try dsimp only); exact ⟨by dsimp only; omega, by dsimp only; omega, by assumption, by assumption⟩) : p := h
theorem o_vozaey {p : Prop} (h : p := by first | assumption | omega | (have hg := gr_le' (n := s9.toNat) (by omega); first | omega | (rw [gr_s (by omega) (by omega)]; omega) | exact ⟨by dsimp only; omega, by dsimp only; omega, by assumption, by assumption⟩ | (have hr := TB.r (by assumption : TB _ y1.1); have hw := TB.w (by assumption : TB _ y1.1); simp (disch := omega) only [i64_id]; omega)) | exact ob6) : p := h
theorem o_fbrui1 {p : Prop} (h : p := by (try dsimp only); exact ⟨by have e : s9.toNat = s1.length := (by omega); rw [← e]; exact p5, by assumption, by omega, ⟨by dsimp only; omega, by dsimp only; omega, by assumption, by assumption⟩⟩) : p := h
theorem o_l0zptx {p : Prop} (h : p := by first | assumption | omega | exact TB.nil | exact KZ.nil' (by assumption) | (rw [w01]; first | omega | exact Nat.le_trans (by assumption) (by decide) | (simp only [List.length_append, List.length_cons, List.length_nil]; omega) | (have hr := TB.r (by assumption : TB _ y1.1); have hw := TB.w (by assumption : TB _ y1.1); omega)) | exact ob6) : p := h
theorem o_4un106 {p : Prop} (h : p := by (try dsimp only); first | exact ⟨by assumption, by assumption, by assumption, by assumption⟩ | exact ⟨Nat.le_trans p0 (gr_ge _), by assumption, by decide, TB.le TB.nil (by omega)⟩) : p := h
theorem c143{s t : Nat} {x0 : Fw.Mach} {x1 : Fw.Call} (p0 : MB s t x0) (p1 : s ≤ 100000000000) (p2 : t ≤ 90000000000) (p3 : x1.Name.size ≤ 900) (p4 : x1.Text.size ≤ 1000) (p5 : x1.A.natAbs ≤ 4000000000) (p6 : x1.B.natAbs ≤ 4000000000) : Wp (D143 x0 x1) fun y => MB (s + 150) (t + 200) y.1 := by
  rw [E143]
  exact w_bd (c166 (s := s) (t := t) ob5 ob5 ob5 ob5) (fun y0 ⟨q1_0, q1_1, q1_2⟩ => w_ip (fun h2 => w_some ob5) (fun h2 => w_ip (fun h3 => w_bd (c169 (s := ((s))) (t := ((t) + 1)) ob5 ob5 ob5 ob5 ob5 ob5) (fun y3 ⟨q4_0, q4_1⟩ => w_eq (P143_63 _ _ _ _ _ _ _ _ _) (w_some ob5))) (fun h3 => w_ip (fun h5 => w_bd (c170 (s := ((s))) (t := ((t) + 1)) ob5 ob5 ob5 ob5 ob5 ob5) (fun y2 q6 => w_eq (P143_63 _ _ _ _ _ _ _ _ _) (w_some ob5))) (fun h5 => w_bd (c171 (s := ((s))) (t := ((t) + 1)) ob5 ob5 ob5 ob5 ob5) (fun y1 q7 => w_eq (P143_63 _ _ _ _ _ _ _ _ _) (w_some ob5))))))
theorem w154_15{s t : Nat} {e1 : List Fw.Cell} {e2 : List ByteArray} {e3 : List ByteArray} {e5_0 : Int} {e5_1 : Int} {e5_2 : ByteArray} {e6_0 : Int} {e6_1 : Int} {e6_2 : ByteArray} (p0 : MB s t ⟨e1, ⟨e2, e3⟩⟩) : Wp (L154_15 e1 e2 e3 e5_0 e5_1 e5_2 e6_0 e6_1 e6_2) fun y => MB (s) (t) y.1 := by
  rw [P154_15]
  exact w_some ob5
theorem w154_120828{s t : Nat} (N : Nat) : ∀ {s10 : Int} {e1 : List Fw.Cell} {e2 : List ByteArray} {e3 : List ByteArray} {e5_0 : Int} {e5_1 : Int} {e5_2 : ByteArray} {e6_0 : Int} {e6_1 : Int} {e6_2 : ByteArray} {e7 : List Int} (p0 : 0 ≤ s10) (p1 : s10 ≤ e7.length) (p2 : MB s t ⟨e1, ⟨e2, e3⟩⟩) (p3 : e7.length ≤ 100000000000) (p4 : SI e7) (p5 : (e6_2.size : Int) ≤ 21 * s10) (hN : e7.length - s10 ≤ (N : Int)), Wp (L154_120828 s10 e1 e2 e3 e5_0 e5_1 e5_2 e6_0 e6_1 e6_2 e7) fun y => MB (s) (t) y.1 := by
  induction N using Nat.strongRecOn with
  | ind N ih =>
    intro s10 e1 e2 e3 e5_0 e5_1 e5_2 e6_0 e6_1 e6_2 e7 p0 p1 p2 p3 p4 p5 hN
    rw [P154_120828]
    exact w_ip (fun h1 => w_gp o_lif8eq (w_bd (c122 o_lif8eq o_lif8eq) (fun y0 q2 => w_gp o_lif8eq (w_gp o_lif8eq (ih (N - 1) o_lif8eq o_lif8eq o_lif8eq o_lif8eq o_lif8eq o_lif8eq o_lif8eq ob5))))) (fun h1 => (w154_15 (s := s) (t := t) o_lif8eq).mono (fun y q3 => ob))
theorem c154{s t : Nat} {x0 : Fw.Mach} {x1 : Int} {x2 : Fw.Call} (p0 : MB s t x0) (p1 : s ≤ 100000000000) (p2 : t ≤ 90000000000) (p3 : x1.natAbs ≤ 4000000000) (p4 : x2.A.natAbs ≤ 4000000000) : Wp (D154 x0 x1 x2) fun y => MB (2 * s + 50) (2 * s + t + 100) y.1 := by
  rw [E154]
  exact w_ip (fun h1 => w_bd (c52 (s := s) (t := t) ob5 ob5 ob5 ob5) (fun y4 ⟨q2_0, q2_1, q2_2⟩ => w_ip (fun h3 => w_bd (c179 (s := ((s) + 3)) (t := ((t) + 5)) ob5 ob5 ob5 ob5 ob5) (fun y5 q4 => (w154_15 (s := (2 * (((s) + 3)))) (t := (2 * (((s) + 3)) + (((t) + 5)) + 1)) ob5).mono (fun y q5 => ob5))) (fun h3 => (w154_15 (s := ((s) + 3)) (t := ((t) + 5)) ob5).mono (fun y q6 => ob5)))) (fun h1 => w_ip (fun h7 => w_bd (c180 (s := s) (t := t) ob5 ob5 ob5 ob5) (fun y2 q8 => w_ip (fun h9 => w_bd (c181 (s := ((s) + 2)) (t := ((t) + 3)) ob5 ob5 ob5 ob5) (fun y3 q10 => (w154_15 (s := (2 * (((s) + 2)))) (t := ((((s) + 2)) + (((t) + 3)) + 1)) ob5).mono (fun y q11 => ob5))) (fun h9 => (w154_15 (s := ((s) + 2)) (t := ((t) + 3)) ob5).mono (fun y q12 => ob5)))) (fun h7 => w_ip (fun h13 => w_bd (c182 (s := s) (t := t) ob5 ob5 ob5 ob5 ob5) (fun y1 q14 => (w154_15 (s := (2 * (s))) (t := ((s) + (t) + 4)) ob5).mono (fun y q15 => ob5))) (fun h13 => w_bd (c183 (s := s) (t := t) ob5 ob5 ob5) (fun y0 ⟨q16_0, q16_1, q16_2⟩ => (w154_120828 (s := ((s))) (t := ((s) + (t) + 1)) _ ob5 ob5 ob5 ob5 ob5 ob5 (Int.self_le_toNat _)).mono (fun y q17 => ob5)))))
theorem c137 {x0 : Fw.Call} : Wp (D137 x0) fun y => (y.1 = true → x0.Name.size ≤ 20 ∧ x0.To.size ≤ 20 ∧ x0.Text.size ≤ 64) := by
  rw [E137]
  exact w_be (c27) (by (try dsimp only); exact (w_some o_bvd90o))
theorem w101_127{s t : Nat} {e1 : List Fw.Cell} {e2 : List ByteArray} {e3 : List ByteArray} {e5_0 : Int} {e5_1 : Int} {e5_2 : ByteArray} {e6_0 : Int} {e6_1 : Int} {e6_2 : ByteArray} (p0 : MB s t ⟨e1, ⟨e2, e3⟩⟩) : Wp (L101_127 e1 e2 e3 e5_0 e5_1 e5_2 e6_0 e6_1 e6_2) fun y => MB (s) (t) y.1 := by
  rw [P101_127]
  exact w_some ob5
theorem w101_1038335{s t : Nat} {s1 : Int} {s27 : Int} {s86 : Bool} {e1 : List Fw.Cell} {e2 : List ByteArray} {e3 : List ByteArray} {e4_0 : Int} {e4_1 : ByteArray} {e4_2 : ByteArray} {e4_3 : Int} {e4_4 : Int} {e4_5 : ByteArray} {e6_0 : Int} {e6_1 : Int} {e6_2 : ByteArray} {e7_0 : Int} {e7_1 : Int} {e7_2 : ByteArray} (p0 : MB s t ⟨e1, ⟨e2, e3⟩⟩) (p1 : s ≤ 90000000000) (p2 : t ≤ 80000000000) (p3 : s1.natAbs ≤ 4000000000) (p4 : e4_1.size ≤ 20) (p5 : e4_2.size ≤ 20) (p6 : e4_5.size ≤ 64) (p7 : e4_3.natAbs ≤ 4000000000) (p8 : e4_4.natAbs ≤ 4000000000) : Wp (L101_1038335 s1 s27 s86 e1 e2 e3 e4_0 e4_1 e4_2 e4_3 e4_4 e4_5 e6_0 e6_1 e6_2 e7_0 e7_1 e7_2) fun y => MB (4 * s + 200) (7 * s + t + 290) y.1 := by
  rw [P101_1038335]
  exact w_ip (fun h1 => w_bd (c143 (s := s) (t := t) ob5 ob5 ob5 ob5 ob5 ob5 ob5) (fun y11 q2 => w_some ob5)) (fun h1 => w_ip (fun h3 => w_bd (c144 (s := s) (t := t) ob5 ob5 ob5) (fun y10 q4 => (w101_127 (s := ((s) + 2)) (t := ((t) + 4)) ob5).mono (fun y q5 => ob5))) (fun h3 => w_ip (fun h6 => w_bd (c145 (s := s) (t := t) ob5 ob5 ob5 ob5) (fun y9 q7 => (w101_127 (s := ((s) + 2)) (t := ((t) + 5)) ob5).mono (fun y q8 => ob5))) (fun h6 => w_ip (fun h9 => w_bd (c146 (s := s) (t := t) ob5 ob5 ob5 ob5) (fun y8 ⟨q10_0, q10_1⟩ => (w101_127 (s := ((s) + 2)) (t := ((t) + 6)) ob5).mono (fun y q11 => ob5))) (fun h9 => w_ip (fun h12 => w_bd (c147 (s := s) (t := t) ob5 ob5 ob5 ob5) (fun y7 q13 => (w101_127 (s := ((s) + 2)) (t := ((t) + 5)) ob5).mono (fun y q14 => ob5))) (fun h12 => w_ip (fun h15 => w_bd (c148 (s := s) (t := t) ob5 ob5 ob5 ob5) (fun y6 q16 => (w101_127 (s := ((s) + 2)) (t := ((t) + 5)) ob5).mono (fun y q17 => ob5))) (fun h15 => w_ip (fun h18 => w_bd (c149 (s := s) (t := t) ob5 ob5 ob5 ob5) (fun y5 q19 => (w101_127 (s := ((s) + 1)) (t := ((t) + 1)) ob5).mono (fun y q20 => ob5))) (fun h18 => w_ip (fun h21 => w_bd (c150 (s := s) (t := t) ob5 ob5 ob5 ob5) (fun y4 q22 => (w101_127 (s := (4 * (s) + 10)) (t := (7 * (s) + (t) + 20)) ob5).mono (fun y q23 => ob5))) (fun h21 => w_ip (fun h24 => w_bd (c151 (s := s) (t := t) ob5 ob5 ob5 ob5 ob5) (fun y3 q25 => (w101_127 (s := ((s) + 1)) (t := ((t) + 1)) ob5).mono (fun y q26 => ob5))) (fun h24 => w_ip (fun h27 => w_bd (c152 (s := s) (t := t) ob5 ob5 ob5 ob5 ob5) (fun y2 ⟨q28_0, q28_1⟩ => (w101_127 (s := ((s))) (t := ((t) + 1)) ob5).mono (fun y q29 => ob5))) (fun h27 => w_ip (fun h30 => w_bd (c153 (s := s) (t := t) ob5 ob5 ob5) (fun y1 q31 => (w101_127 (s := ((s) + 2)) (t := ((t) + 3)) ob5).mono (fun y q32 => ob5))) (fun h30 => w_bd (c154 (s := s) (t := t) ob5 ob5 ob5 ob5 ob5) (fun y0 q33 => w_some ob5))))))))))))
theorem c101{s t : Nat} {x0 : Fw.Mach} {x1 : Int} {x2 : Fw.Call} (p0 : MB s t x0) (p1 : s ≤ 90000000000) (p2 : t ≤ 1000) (p3 : x1.natAbs ≤ 4000000000) (p4 : x2.A.natAbs ≤ 4000000000) (p5 : x2.B.natAbs ≤ 4000000000) : Wp (D101 x0 x1 x2) fun y => MB (4 * s + 200) (7 * s + t + 300) y.1 := by
  rw [E101]
  exact w_bd (c136 (s := s) (t := t) ob5 ob5 ob5 ob5) (fun y0 ⟨q1_0, q1_1, q1_2⟩ => w_ip (fun h2 => w_some ob5) (fun h2 => w_bd (c137) (fun y1 q3 => w_ip (fun h4 => w_some ob5) (fun h4 => w_ip (fun h5 => w_bd (c138 (s := ((s))) (t := ((t) + 1)) ob5 ob5 ob5 ob5) (fun y6 q6 => (w101_127 (s := ((((s))) + 3)) (t := ((((t) + 1)) + 8)) ob5).mono (fun y q7 => ob5))) (fun h5 => w_ip (fun h8 => w_bd (c139 (s := ((s))) (t := ((t) + 1)) ob5 ob5 ob5 ob5 ob5) (fun y5 q9 => (w101_127 (s := ((((s))) + 2)) (t := ((((t) + 1)) + 8)) ob5).mono (fun y q10 => ob5))) (fun h8 => w_ip (fun h11 => w_bd (c140 (s := ((s))) (t := ((t) + 1)) ob5 ob5 ob5 ob5) (fun y4 q12 => (w101_127 (s := (2 * (((s))) + 10)) (t := ((((s))) + (((t) + 1)) + 10)) ob5).mono (fun y q13 => ob5))) (fun h11 => w_ip (fun h14 => w_bd (c141 (s := ((s))) (t := ((t) + 1)) ob5 ob5 ob5 ob5 ob5) (fun y3 q15 => (w101_127 (s := (2 * (((s))) + 20)) (t := ((((s))) + (((t) + 1)) + 20)) ob5).mono (fun y q16 => ob5))) (fun h14 => w_ip (fun h17 => w_bd (c142 (s := ((s))) (t := ((t) + 1)) ob5 ob5 ob5) (fun y2 ⟨q18_0, q18_1⟩ => w_some ob5)) (fun h17 => w_ip (fun h19 => (w101_1038335 (s := ((s))) (t := ((t) + 1)) ob5 ob5 ob5 ob5 ob5 ob5 ob5 ob5 ob5).mono (fun y q20 => ob5)) (fun h19 => w_ip (fun h21 => (w101_1038335 (s := ((s))) (t := ((t) + 1)) ob5 ob5 ob5 ob5 ob5 ob5 ob5 ob5 ob5).mono (fun y q22 => ob5)) (fun h21 => (w101_1038335 (s := ((s))) (t := ((t) + 1)) ob5 ob5 ob5 ob5 ob5 ob5 ob5 ob5 ob5).mono (fun y q23 => ob5))))))))))))
theorem c53{s : Nat} {x0 : List Fw.Cell} (p0 : x0.length ≤ s) (p1 : s ≤ 100000000000) (p2 : KZ x0) : Wp (D53 x0) fun y => MB s 0 y.1 := by
  rw [E53]
  exact w_gp o_ycyoj3 (w_some o_5o8yrd)
theorem c64{s : Nat} {x0 : List Fw.Cell} {x1 : Int} {x2 : Fw.Call} (p0 : x0.length ≤ s) (p1 : s ≤ 90000000000) (p2 : KZ x0) (p3 : x1.natAbs ≤ 4000000000) (p4 : x2.A.natAbs ≤ 4000000000) (p5 : x2.B.natAbs ≤ 4000000000) : Wp (D64 x0 x1 x2) fun y => y.1.length ≤ 4 * s + 200 ∧ KZ y.1 ∧ TB (7 * s + 300) y.2.2.1 := by
  rw [E64]
  exact w_bd (c53 (s := s) ob5 ob5 ob5) (fun y0 q1 => w_bd (c101 (s := (s)) (t := 0) ob5 ob5 ob5 ob5 ob5 ob5) (fun y1 q2 => w_some o_v2c1ly))
theorem w100_244{a b : Nat} (N : Nat) : ∀ {s7 : Int} {e0_0 : List ByteArray} {e0_1 : List ByteArray} {e3 : List ByteArray} {e4 : List ByteArray} (p0 : 0 ≤ s7) (p1 : s7 ≤ e0_1.length) (p2 : TZ e0_1) (p3 : TZ e3) (p4 : TZ e4) (p5 : e3.length ≤ a + b) (p6 : (e4.length : Int) ≤ a + s7) (p7 : e0_1.length ≤ b) (p8 : a + b ≤ 1000000000000) (hN : e0_1.length - s7 ≤ (N : Int)), Wp (L100_244 s7 e0_0 e0_1 e3 e4) fun y => TB (a + b) y.1 := by
  induction N using Nat.strongRecOn with
  | ind N ih =>
    intro s7 e0_0 e0_1 e3 e4 p0 p1 p2 p3 p4 p5 p6 p7 p8 hN
    rw [P100_244]
    exact w_ip (fun h1 => w_gp ob6 (w_bd (c135 ob6 ob6 ob6) (fun y0 ⟨q2_0, q2_1⟩ => ih (N - 1) ob6 ob6 ob6 ob6 ob6 ob6 ob6 ob6 ob6 ob6 ob5))) (fun h1 => w_eq (P100_31 _ _) (w_some o_us5nqo))
theorem w100_116{a b : Nat} (N : Nat) : ∀ {s6 : Int} {e0_0 : List ByteArray} {e0_1 : List ByteArray} {e3 : List ByteArray} {e4 : List ByteArray} (p0 : 0 ≤ s6) (p1 : s6 ≤ e0_0.length) (p2 : TZ e0_0) (p3 : TZ e0_1) (p4 : TZ e3) (p5 : TZ e4) (p6 : (e3.length : Int) ≤ a + s6) (p7 : e4.length ≤ a) (p8 : e0_0.length ≤ b) (p9 : e0_1.length ≤ b) (p10 : a + b ≤ 1000000000000) (hN : e0_0.length - s6 ≤ (N : Int)), Wp (L100_116 s6 e0_0 e0_1 e3 e4) fun y => TB (a + b) y.1 := by
  induction N using Nat.strongRecOn with
  | ind N ih =>
    intro s6 e0_0 e0_1 e3 e4 p0 p1 p2 p3 p4 p5 p6 p7 p8 p9 p10 hN
    rw [P100_116]
    exact w_ip (fun h1 => w_gp ob6 (w_bd (c135 ob6 ob6 ob6) (fun y0 ⟨q2_0, q2_1⟩ => ih (N - 1) ob6 ob6 ob6 ob6 ob6 ob6 ob6 ob6 ob6 ob6 ob6 ob6 ob5))) (fun h1 => w_eq (P100_15 _ _ _ _) ((w100_244 (a := a) (b := b) _ ob6 ob6 ob6 ob6 ob6 ob6 ob6 ob6 ob6 (Int.self_le_toNat _)).mono (fun y q3 => ob6)))
theorem c100{a b : Nat} {x0 : Fw.Touch} {x1 : Fw.Touch} (p0 : TB a x0) (p1 : TB b x1) (p2 : a + b ≤ 1000000000000) : Wp (D100 x0 x1) fun y => TB (a + b) y.1 := by
  rw [E100]
  have hr := p0.r
  have hw := p0.w
  have hr1 := p1.r
  have hw1 := p1.w
  exact w_gp ob6 (w_gp ob6 ((w100_116 (a := a) (b := b) _ ob6 ob6 ob6 ob6 ob6 ob6 ob6 ob6 ob6 ob6 ob6 (Int.self_le_toNat _)).mono (fun y q1 => ob6)))
theorem w134_500b (N : Nat) : ∀ {s1 : List Fw.Step} {s9 : Int} {e0 : List Fw.Cell} {e2 : List Fw.Answer} {e4 : List ByteArray} {e5 : List ByteArray} (p0 : 0 ≤ s9) (p1 : s9 ≤ s1.length) (p2 : s1.length ≤ 12) (p3 : StepsI s1) (p4 : KZ e0) (p5 : e0.length ≤ gr s9.toNat) (p6 : e2.length ≤ s9) (p7 : (e4.length : Int) ≤ s9 * 60000000000) (p8 : (e5.length : Int) ≤ s9 * 60000000000) (p9 : TZ e4) (p10 : TZ e5) (hN : s1.length - s9 ≤ (N : Int)), Wp (L134_500b s1 s9 e0 e2 e4 e5) fun y => y.1.length ≤ gr s1.length ∧ KZ y.1 ∧ y.2.1.length ≤ 12 ∧ TB 720000000000 y.2.2.1 := by
  induction N using Nat.strongRecOn with
  | ind N ih =>
    intro s1 s9 e0 e2 e4 e5 p0 p1 p2 p3 p4 p5 p6 p7 p8 p9 p10 hN
    rw [P134_500b]
    exact w_ip (fun h1 => w_gp o_vozaey (w_gp o_vozaey (w_bd (c64 (s := gr s9.toNat) o_vozaey o_vozaey o_vozaey o_vozaey o_vozaey o_vozaey) (fun y0 ⟨q2_0, q2_1, q2_2⟩ => w_gp o_vozaey (w_bd (c100 (a := (s9 * 60000000000).toNat) (b := 7 * gr s9.toNat + 300) o_vozaey o_vozaey o_vozaey) (fun y1 q3 => ih (N - 1) o_vozaey o_vozaey o_vozaey o_vozaey o_vozaey o_vozaey o_vozaey o_vozaey o_vozaey o_vozaey o_vozaey o_vozaey ob5)))))) (fun h1 => w_eq (P134_63b _ _ _ _) (w_some o_fbrui1))
theorem c134 {x0 : List Fw.Cell} {x1 : List Fw.Step} (p0 : x0.length ≤ 900) (p1 : KZ x0) (p2 : x1.length ≤ 12) (p3 : StepsI x1) : Wp (D134 x0 x1) fun y => y.1.length ≤ gr x1.length ∧ KZ y.1 ∧ y.2.1.length ≤ 12 ∧ TB 720000000000 y.2.2.1 := by
  rw [E134]
  exact w_gp o_l0zptx (w_eq (P134_500 _ _ _ _) (w_ip (fun h1 => w_gp o_l0zptx (w_gp o_l0zptx (w_bd (c64 (s := 900) o_l0zptx o_l0zptx o_l0zptx o_l0zptx o_l0zptx o_l0zptx) (fun y0 ⟨q2_0, q2_1, q2_2⟩ => w_gp o_l0zptx (w_bd (c100 (a := 0) (b := 7 * 900 + 300) o_l0zptx o_l0zptx o_l0zptx) (fun y1 q3 => (w134_500b _ o_l0zptx o_l0zptx o_l0zptx o_l0zptx o_l0zptx o_l0zptx o_l0zptx o_l0zptx o_l0zptx o_l0zptx o_l0zptx (Int.self_le_toNat _)).mono (fun y ⟨q4_0, q4_1, q4_2, q4_3⟩ => o_4un106))))))) (fun h1 => w_eq (P134_63 _ _) (w_some o_4un106))))
end Go.Proofs.YtdghkmbppfmifaaGreatDoor.Ri

namespace Go.Proofs.YtdghkmbppfmifaaGreatDoor.Ri
open Go.Proofs.YtdghkmbppfmifaaGreatDoor.Fw
set_option linter.unusedVariables false
set_option linter.unusedSimpArgs false
set_option maxRecDepth 100000
def CallsI (l : List Fw.Call) : Prop := ∀ z ∈ l, z.A.natAbs ≤ 4000000000 ∧ z.B.natAbs ≤ 4000000000
theorem CallsI.nth {l : List Fw.Call} (h : CallsI l) {i : Nat} (hi : i < l.length) : (nth l i).A.natAbs ≤ 4000000000 ∧ (nth l i).B.natAbs ≤ 4000000000 := h _ (nth_mem hi)
theorem CallsI.nil : CallsI [] := fun c h => by cases h
theorem CallsI.app {l : List Fw.Call} {z : Fw.Call} (h : CallsI l) (hz : z.A.natAbs ≤ 4000000000 ∧ z.B.natAbs ≤ 4000000000) : CallsI (l ++ [z]) := fun c hc => (List.mem_append.1 hc).elim (h c) fun e => by rw [List.mem_singleton.1 e]; exact hz
theorem CallsI.cut {l : List Fw.Call} (h : CallsI l) (i j : Nat) : CallsI (cutL l i j) := fun z hz => h z (List.mem_of_mem_take (List.mem_of_mem_drop (by unfold cutL at hz; exact hz)))
theorem StepsI.nil : StepsI [] := fun c h => by cases h
theorem StepsI.app {l : List Fw.Step} {p : Int} {c : Fw.Call} (h : StepsI l) (hp : p.natAbs ≤ 4000000000) (hc : c.A.natAbs ≤ 4000000000 ∧ c.B.natAbs ≤ 4000000000) : StepsI (l ++ [⟨p, c⟩]) := fun z hz => (List.mem_append.1 hz).elim (h z) fun e => by rw [List.mem_singleton.1 e]; exact ⟨hp, hc⟩
structure XB (t : Nat) (x : Fw.Tx) : Prop where
  c : x.Calls.length ≤ 12
  ci : CallsI x.Calls
  a : x.Answers.length ≤ t
  t : TB t x.Touch
  m : x.Marks.length ≤ 4
  p : x.Proc.natAbs ≤ 4000000000
theorem XB.le {t t' : Nat} {x : Fw.Tx} (h : XB t x) (ht : t ≤ t') : XB t' x := ⟨h.c, h.ci, Nat.le_trans h.a ht, h.t.le ht, h.m, h.p⟩
def XL (t : Nat) (l : List Fw.Tx) : Prop := ∀ x ∈ l, XB t x
theorem XL.nth {t : Nat} {l : List Fw.Tx} (h : XL t l) {i : Nat} (hi : i < l.length) : XB t (nth l i) := h _ (nth_mem hi)
theorem XL.nil {t : Nat} : XL t [] := fun c h => by cases h
theorem XL.app {t : Nat} {l : List Fw.Tx} {x : Fw.Tx} (h : XL t l) (hx : XB t x) : XL t (l ++ [x]) := fun z hz => (List.mem_append.1 hz).elim (h z) fun e => by rw [List.mem_singleton.1 e]; exact hx
theorem XL.set {t : Nat} {l : List Fw.Tx} {x : Fw.Tx} (h : XL t l) (i : Nat) (hx : XB t x) : XL t (l.set i x) := fun z hz => (List.mem_or_eq_of_mem_set hz).elim (h z) fun e => e ▸ hx
theorem XL.le {t t' : Nat} {l : List Fw.Tx} (h : XL t l) (ht : t ≤ t') : XL t' l := fun x hx => (h x hx).le ht
theorem wp_eq {α : Type} {o : Option α} {a : α} (h : Wp o fun y => y = a) : o = some a := by obtain ⟨y, h1, h2⟩ := h; rw [h1, h2]
theorem take_nth {α : Type} [Inhabited α] {l : List α} {i : Int} (h : 0 ≤ i) (h' : i < l.length) (hl : l.length ≤ 1000000000000) : l.take i.toNat ++ [nth l i.toNat] = l.take (IntKind.wrap .i64 (i + 1)).toNat := by
  rw [i64_id (by omega) (by omega)]
  have e : (i + 1).toNat = i.toNat + 1 := by omega
  rw [e, List.take_succ_eq_append_getElem (by omega)]
  congr 2
  unfold nth
  simp [show i.toNat < l.length by omega]
theorem ob7 {p : Prop} (h : p := by first | assumption | omega | exact XL.nth (by assumption) (by omega) | exact XB.t (by assumption) | exact XB.ci (by assumption) | exact XB.p (by assumption) | exact XB.c (by assumption) | exact XB.t (XL.nth (by assumption) (by omega)) | exact CallsI.nil | exact StepsI.nil | exact XL.nil | exact StepsI.app (by assumption) (by assumption) (CallsI.nth (by assumption) (by omega)) | exact ob6) : p := h
theorem o_mwn5ay {p : Prop} (h : p := by (try dsimp only); exact ⟨by omega, by assumption⟩) : p := h
theorem o_i1xe1x {p : Prop} (h : p := by first | assumption | omega | exact XL.nth (by assumption) (by omega) | (rw [‹e0 = _›]; exact take_nth (by omega) (by omega) (by omega)) | (rw [‹e0 = _›, List.length_take]; omega) | exact ob7) : p := h
theorem o_yxrcpw {p : Prop} (h : p := by (try dsimp only); (rw [‹e0 = _›, List.take_of_length_le (by omega)])) : p := h
theorem o_7ir3o4 {p : Prop} (h : p := by first | exact ob7 | rfl) : p := h
theorem o_21uf74 {p : Prop} (h : p := by (try dsimp only); assumption) : p := h
theorem o_qnxfq8 {p : Prop} (h : p := by first | assumption | omega | (by_cases hx : x0.size = 0; · right; omega; · left; simp (disch := omega) only [i64_id]; omega) | exact ob7) : p := h
theorem o_pdmme1 {p : Prop} (h : p := by first | assumption | omega | exact Nat.le_trans (TZ.nth (by assumption) (by omega)) (by decide) | exact ob7) : p := h
theorem o_uyuqfu {p : Prop} (h : p := by (try dsimp only); exact p7 _) : p := h
theorem o_9u344y {p : Prop} (h : p := by first | assumption | omega | exact fun _ => trivial | exact ob7) : p := h
theorem o_ohxime {p : Prop} (h : p := by first | assumption | omega | exact XB.t (XL.nth (by assumption) (by omega)) | (left; omega) | exact ob7) : p := h
theorem o_kk7ib5 {p : Prop} (h : p := by first | assumption | omega | (left; omega) | exact ob7) : p := h
theorem o_97boal {p : Prop} (h : p := by first | assumption | omega | exact ob7) : p := h
theorem o_132t73 {p : Prop} (h : p := by (try dsimp only); exact ⟨by rw [← q1_0]; assumption, by assumption⟩) : p := h
theorem o_6udrrx {p : Prop} (h : p := by first | assumption | omega | exact Nat.le_trans (by assumption) (gr_le' (by omega)) | exact ob7) : p := h
theorem o_1jn3ff {p : Prop} (h : p := by (try dsimp only); first | exact p2.le (by omega) | exact ⟨by simp only [List.length_append, List.length_cons, List.length_nil]; omega, CallsI.app (by assumption) ⟨by assumption, by assumption⟩, by simp only [List.length_append, List.length_cons, List.length_nil]; omega, by assumption, by assumption, by assumption⟩) : p := h
theorem w129_116 (N : Nat) : ∀ {s4 : Int} {e0_0 : Int} {e0_1 : Int} {e0_2 : Int} {e0_3 : Int} {e0_4 : List Fw.Call} {e0_5 : List Fw.Answer} {e0_6 : List ByteArray} {e0_7 : List ByteArray} {e0_8 : List Int} {e0_9 : Int} {e1 : List Fw.Step} (p0 : 0 ≤ s4) (p1 : s4 ≤ e0_4.length) (p2 : e0_4.length ≤ 12) (p3 : CallsI e0_4) (p4 : e0_2.natAbs ≤ 4000000000) (p5 : (e1.length : Int) = s4) (p6 : StepsI e1) (hN : e0_4.length - s4 ≤ (N : Int)), Wp (L129_116 s4 e0_0 e0_1 e0_2 e0_3 e0_4 e0_5 e0_6 e0_7 e0_8 e0_9 e1) fun y => y.1.length = e0_4.length ∧ StepsI y.1 := by
  induction N using Nat.strongRecOn with
  | ind N ih =>
    intro s4 e0_0 e0_1 e0_2 e0_3 e0_4 e0_5 e0_6 e0_7 e0_8 e0_9 e1 p0 p1 p2 p3 p4 p5 p6 hN
    rw [P129_116]
    exact w_ip (fun h1 => w_gp ob7 (w_gp ob7 (ih (N - 1) ob7 ob7 ob7 ob7 ob7 ob7 ob7 ob7 ob7))) (fun h1 => w_eq (P129_15 _) (w_some o_mwn5ay))
theorem c129 {x0 : Fw.Tx} (p0 : x0.Calls.length ≤ 12) (p1 : CallsI x0.Calls) (p2 : x0.Proc.natAbs ≤ 4000000000) : Wp (D129 x0) fun y => y.1.length = x0.Calls.length ∧ StepsI y.1 := by
  rw [E129]
  exact (w129_116 _ ob7 ob7 ob7 ob7 ob7 ob7 ob7 (Int.self_le_toNat _)).mono (fun y ⟨q1_0, q1_1⟩ => ⟨ob7, ob7⟩)
theorem c92{t : Nat} {x0 : Fw.Tx} (p0 : XB t x0) (p1 : t ≤ 1000000000000) : D92 x0 = some (x0, ()) := by
  have h1 := p0.c
  have h2 := p0.a
  have h3 := p0.t.r
  have h4 := p0.t.w
  have h5 := p0.m
  exact wp_eq (by rw [E92]; exact w_gp ob (w_gp ob (w_gp ob (w_gp ob (w_gp ob (w_some rfl))))))
theorem w54_116{t : Nat} (N : Nat) : ∀ {s0 : List Fw.Tx} {s4 : Int} {e0 : List Fw.Tx} (p0 : 0 ≤ s4) (p1 : s4 ≤ s0.length) (p2 : s0.length ≤ 1000) (p3 : XL t s0) (p4 : t ≤ 1000000000000) (p5 : e0 = s0.take s4.toNat) (hN : s0.length - s4 ≤ (N : Int)), Wp (L54_116 s0 s4 e0) fun y => y = (s0, ()) := by
  induction N using Nat.strongRecOn with
  | ind N ih =>
    intro s0 s4 e0 p0 p1 p2 p3 p4 p5 hN
    rw [P54_116]
    exact w_ip (fun h1 => w_gp o_i1xe1x (w_be (c92 (t := t) o_i1xe1x o_i1xe1x) (by (try dsimp only); exact (w_gp o_i1xe1x (ih (N - 1) o_i1xe1x o_i1xe1x o_i1xe1x o_i1xe1x o_i1xe1x o_i1xe1x o_i1xe1x ob7))))) (fun h1 => w_eq (P54_15 _) (w_some o_yxrcpw))
theorem c54w{t : Nat} {x0 : List Fw.Tx} (p0 : x0.length ≤ 1000) (p1 : XL t x0) (p2 : t ≤ 1000000000000) : Wp (D54 x0) fun y => y = (x0, ()) := by
  rw [E54]
  exact (w54_116 (t := t) _ o_7ir3o4 o_7ir3o4 o_7ir3o4 o_7ir3o4 o_7ir3o4 o_7ir3o4 (Int.self_le_toNat _)).mono (fun y q1 => o_21uf74)
theorem c54{t : Nat} {x0 : List Fw.Tx} (p0 : x0.length ≤ 1000) (p1 : XL t x0) (p2 : t ≤ 1000000000000) : D54 x0 = some (x0, ()) := wp_eq (c54w (t := t) p0 p1 p2)
theorem w93_52 (N : Nat) : ∀ {s0 : List Fw.Tx} {s1 : Int} {s5 : Int} (p0 : 0 ≤ s5) (p1 : s5 ≤ s0.length) (p2 : s0.length ≤ 1000) (hN : s0.length - s5 ≤ (N : Int)), Wp (L93_52 s0 s1 s5) fun y => -1 ≤ y.1 ∧ y.1 < s0.length := by
  induction N using Nat.strongRecOn with
  | ind N ih =>
    intro s0 s1 s5 p0 p1 p2 hN
    rw [P93_52]
    exact w_ip (fun h1 => w_gp ob7 (w_ip (fun h2 => w_some ⟨ob7, ob7⟩) (fun h2 => ih (N - 1) ob7 ob7 ob7 ob7 ob7))) (fun h1 => w_eq (P93_7) (w_some ⟨ob7, ob7⟩))
theorem c93 {x0 : List Fw.Tx} {x1 : Int} (p0 : x0.length ≤ 1000) : Wp (D93 x0 x1) fun y => -1 ≤ y.1 ∧ y.1 < x0.length := by
  rw [E93]
  exact (w93_52 _ ob7 ob7 ob7 (Int.self_le_toNat _)).mono (fun y ⟨q1_0, q1_1⟩ => ⟨ob7, ob7⟩)
theorem w99_52 (N : Nat) : ∀ {s0 : List Int} {s1 : Int} {s5 : Int} (p0 : 0 ≤ s5) (p1 : s5 ≤ s0.length) (p2 : s0.length ≤ 1000) (hN : s0.length - s5 ≤ (N : Int)), Wp (L99_52 s0 s1 s5) fun y => True := by
  induction N using Nat.strongRecOn with
  | ind N ih =>
    intro s0 s1 s5 p0 p1 p2 hN
    rw [P99_52]
    exact w_ip (fun h1 => w_gp ob7 (w_ip (fun h2 => w_some trivial) (fun h2 => ih (N - 1) ob7 ob7 ob7 ob7 ob7))) (fun h1 => w_eq (P99_7) (w_some trivial))
theorem c99 {x0 : List Int} {x1 : Int} (p0 : x0.length ≤ 1000) : Wp (D99 x0 x1) fun y => True := by
  rw [E99]
  exact (w99_52 _ ob7 ob7 ob7 (Int.self_le_toNat _))
theorem c133 {x0 : Fw.Tx} {x1 : Fw.Tx} : Wp (D133 x0 x1) fun y => True := by
  rw [E133]
  exact w_some trivial
theorem c190 {x0 : ByteArray} (p0 : x0.size ≤ 1000000) : Wp (D190 x0) fun y => True := by
  rw [E190]
  exact w_gp o_qnxfq8 (w_ip (fun h1 => by (try simp (disch := omega) only [i64_id] at h1); exact w_gp o_qnxfq8 (w_some trivial)) (fun h1 => by (try simp (disch := omega) only [i64_id] at h1); exact w_some trivial))
theorem c192 {x0 : ByteArray} {x1 : ByteArray} (p0 : x0.size ≤ 1000000) : Wp (D192 x0 x1) fun y => True := by
  rw [E192]
  exact w_bd (c190 ob7) (fun y0 _ => w_ip (fun h2 => w_bd (c191) (fun y1 q3 => w_some trivial)) (fun h2 => w_some trivial))
theorem c184 {x0 : ByteArray} {x1 : ByteArray} (p0 : x0.size ≤ 1000000) (p1 : x1.size ≤ 1000000) : Wp (D184 x0 x1) fun y => True := by
  rw [E184]
  exact w_bd (c190 ob7) (fun y0 _ => w_bd (c190 ob7) (fun y1 _ => w_ip (fun h3 => w_bd (c191) (fun y4 q4 => w_ip (fun h5 => w_bd (c191) (fun y5 q6 => w_some trivial)) (fun h5 => w_some trivial))) (fun h3 => w_ip (fun h7 => w_bd (c191) (fun y3 q8 => w_some trivial)) (fun h7 => w_bd (c192 ob7) (fun y2 _ => w_some trivial)))))
theorem w155_3364 (N : Nat) : ∀ {s0 : List ByteArray} {s1 : List ByteArray} {s5 : Int} {s6 : Int} {Q : Bool × Unit → Prop} (p0 : 0 ≤ s5) (p1 : s5 < s0.length) (p2 : 0 ≤ s6) (p3 : s6 ≤ s1.length) (p4 : s1.length ≤ 1000000000000) (p5 : TZ s0) (p6 : TZ s1) (p7 : (∀ b, Q (b, ()))) (hN : s1.length - s6 ≤ (N : Int)) (hk : Wp (L155_211 s0 s1 s5) Q), Wp (L155_3364 s0 s1 s5 s6) Q := by
  induction N using Nat.strongRecOn with
  | ind N ih =>
    intro s0 s1 s5 s6 Q p0 p1 p2 p3 p4 p5 p6 p7 hN hk
    rw [P155_3364]
    exact w_ip (fun h1 => w_gp o_pdmme1 (w_gp o_pdmme1 (w_bd (c184 o_pdmme1 o_pdmme1) (fun y0 _ => w_ip (fun h3 => w_some o_uyuqfu) (fun h3 => ih (N - 1) o_pdmme1 o_pdmme1 o_pdmme1 o_pdmme1 o_pdmme1 o_pdmme1 o_pdmme1 o_pdmme1 o_pdmme1 ob7 hk))))) (fun h1 => hk )
theorem w155_52 (N : Nat) : ∀ {s0 : List ByteArray} {s1 : List ByteArray} {s5 : Int} (p0 : 0 ≤ s5) (p1 : s5 ≤ s0.length) (p2 : s0.length ≤ 1000000000000) (p3 : s1.length ≤ 1000000000000) (p4 : TZ s0) (p5 : TZ s1) (hN : s0.length - s5 ≤ (N : Int)), Wp (L155_52 s0 s1 s5) fun y => True := by
  induction N using Nat.strongRecOn with
  | ind N ih =>
    intro s0 s1 s5 p0 p1 p2 p3 p4 p5 hN
    rw [P155_52]
    exact w_ip (fun h1 => w155_3364 _ o_9u344y o_9u344y o_9u344y o_9u344y o_9u344y o_9u344y o_9u344y o_9u344y (Int.self_le_toNat _) (w_eq (P155_211 _ _ _) (ih (N - 1) o_9u344y o_9u344y o_9u344y o_9u344y o_9u344y o_9u344y o_9u344y ob7))) (fun h1 => w_eq (P155_7) (w_some trivial))
theorem c155 {x0 : List ByteArray} {x1 : List ByteArray} (p0 : x0.length ≤ 1000000000000) (p1 : x1.length ≤ 1000000000000) (p2 : TZ x0) (p3 : TZ x1) : Wp (D155 x0 x1) fun y => True := by
  rw [E155]
  exact (w155_52 _ ob7 ob7 ob7 ob7 ob7 ob7 (Int.self_le_toNat _))
theorem c102{a b : Nat} {x0 : Fw.Touch} {x1 : Fw.Touch} (p0 : TB a x0) (p1 : TB b x1) (p2 : a ≤ 1000000000000) (p3 : b ≤ 1000000000000) : Wp (D102 x0 x1) fun y => True := by
  rw [E102]
  exact w_bd (c155 ob7 ob7 ob7 ob7) (fun y0 _ => w_ip (fun h2 => w_bd (c155 ob7 ob7 ob7 ob7) (fun y1 _ => w_ip (fun h4 => w_bd (c155 ob7 ob7 ob7 ob7) (fun y2 _ => w_some trivial)) (fun h4 => w_some trivial))) (fun h2 => w_some trivial))
theorem w96_3364{t : Nat} (N : Nat) : ∀ {s0 : List Fw.Tx} {s3 : Int} {s4 : Int} {Q : Bool × Unit → Prop} (p0 : 0 ≤ s3) (p1 : s3 < s0.length) (p2 : 0 ≤ s4) (p3 : s4 ≤ s3) (p4 : s0.length ≤ 1000) (p5 : XL t s0) (p6 : t ≤ 1000000000000) (p7 : (∀ b, Q (b, ()))) (hN : s3 - s4 ≤ (N : Int)) (hk : Wp (L96_211 s0 s3) Q), Wp (L96_3364 s0 s3 s4) Q := by
  induction N using Nat.strongRecOn with
  | ind N ih =>
    intro s0 s3 s4 Q p0 p1 p2 p3 p4 p5 p6 p7 hN hk
    rw [P96_3364]
    exact w_ip (fun h1 => w_gp o_ohxime (w_gp o_ohxime (w_gp o_ohxime (w_gp o_ohxime (w_ip (fun h2 => w_bd (c102 (a := t) (b := t) o_ohxime o_ohxime o_ohxime o_ohxime) (fun y0 _ => w_ip (fun h4 => w_some o_uyuqfu) (fun h4 => ih (N - 1) o_ohxime o_ohxime o_ohxime o_ohxime o_ohxime o_ohxime o_ohxime o_ohxime o_ohxime ob7 hk))) (fun h2 => ih (N - 1) o_ohxime o_ohxime o_ohxime o_ohxime o_ohxime o_ohxime o_ohxime o_ohxime o_ohxime ob7 hk)))))) (fun h1 => hk )
theorem w96_52{t : Nat} (N : Nat) : ∀ {s0 : List Fw.Tx} {s3 : Int} (p0 : 0 ≤ s3) (p1 : s3 ≤ s0.length) (p2 : s0.length ≤ 1000) (p3 : XL t s0) (p4 : t ≤ 1000000000000) (hN : s0.length - s3 ≤ (N : Int)), Wp (L96_52 s0 s3) fun y => True := by
  induction N using Nat.strongRecOn with
  | ind N ih =>
    intro s0 s3 p0 p1 p2 p3 p4 hN
    rw [P96_52]
    exact w_ip (fun h1 => w96_3364 (t := t) _ o_9u344y o_9u344y o_9u344y o_9u344y o_9u344y o_9u344y o_9u344y o_9u344y (Int.self_le_toNat _) (w_eq (P96_211 _ _) (ih (N - 1) o_9u344y o_9u344y o_9u344y o_9u344y o_9u344y o_9u344y ob7))) (fun h1 => w_eq (P96_7) (w_some trivial))
theorem c96{t : Nat} {x0 : List Fw.Tx} (p0 : x0.length ≤ 1000) (p1 : XL t x0) (p2 : t ≤ 1000000000000) : Wp (D96 x0) fun y => True := by
  rw [E96]
  exact (w96_52 (t := t) _ ob7 ob7 ob7 ob7 ob7 (Int.self_le_toNat _))
theorem w97_52 (N : Nat) : ∀ {s0 : List Fw.Tx} {s1 : List Int} {s7 : Int} {e0_0 : Int} {e0_1 : Int} {e0_2 : Int} {e0_3 : Int} {e0_4 : List Fw.Call} {e0_5 : List Fw.Answer} {e0_6 : List ByteArray} {e0_7 : List ByteArray} {e0_8 : List Int} {e0_9 : Int} (p0 : 0 ≤ s7) (p1 : s7 ≤ s0.length) (p2 : s0.length ≤ 1000) (p3 : s1.length ≤ 1000) (hN : s0.length - s7 ≤ (N : Int)), Wp (L97_52 s0 s1 s7 e0_0 e0_1 e0_2 e0_3 e0_4 e0_5 e0_6 e0_7 e0_8 e0_9) fun y => True := by
  induction N using Nat.strongRecOn with
  | ind N ih =>
    intro s0 s1 s7 e0_0 e0_1 e0_2 e0_3 e0_4 e0_5 e0_6 e0_7 e0_8 e0_9 p0 p1 p2 p3 hN
    rw [P97_52]
    exact w_ip (fun h1 => w_gp o_kk7ib5 (w_bd (c99 o_kk7ib5) (fun y0 _ => w_gp o_kk7ib5 (w_ip (fun h3 => w_bd (c133) (fun y1 _ => w_ip (fun h5 => w_some trivial) (fun h5 => ih (N - 1) o_kk7ib5 o_kk7ib5 o_kk7ib5 o_kk7ib5 o_kk7ib5 ob7))) (fun h3 => ih (N - 1) o_kk7ib5 o_kk7ib5 o_kk7ib5 o_kk7ib5 o_kk7ib5 ob7))))) (fun h1 => w_eq (P97_7) (w_some trivial))
theorem c97 {x0 : List Fw.Tx} {x1 : List Int} {x2 : Fw.Tx} (p0 : x0.length ≤ 1000) (p1 : x1.length ≤ 1000) : Wp (D97 x0 x1 x2) fun y => True := by
  rw [E97]
  exact (w97_52 _ ob7 ob7 ob7 ob7 (Int.self_le_toNat _))
theorem c98 {x0 : List Fw.Cell} {x1 : Fw.Tx} (p0 : x0.length ≤ 900) (p1 : KZ x0) (p2 : x1.Calls.length ≤ 12) (p3 : CallsI x1.Calls) (p4 : x1.Proc.natAbs ≤ 4000000000) : Wp (D98 x0 x1) fun y => y.1.length ≤ gr x1.Calls.length ∧ KZ y.1 := by
  rw [E98]
  exact w_bd (c129 o_97boal o_97boal o_97boal) (fun y0 ⟨q1_0, q1_1⟩ => w_bd (c134 o_97boal o_97boal o_97boal o_97boal) (fun y1 ⟨q2_0, q2_1, q2_2, q2_3⟩ => w_some o_132t73))
theorem w123_116 (N : Nat) : ∀ {s0 : List Fw.Tx} {s3 : Int} {s4 : Int} (p0 : 0 ≤ s4) (p1 : s4 ≤ s0.length) (p2 : s0.length ≤ 1000) (hN : s0.length - s4 ≤ (N : Int)), Wp (L123_116 s0 s3 s4) fun y => True := by
  induction N using Nat.strongRecOn with
  | ind N ih =>
    intro s0 s3 s4 p0 p1 p2 hN
    rw [P123_116]
    exact w_ip (fun h1 => w_gp ob7 (w_ip (fun h2 => w_gp ob7 (w_eq (P123_467 _ _ _) (ih (N - 1) ob7 ob7 ob7 ob7 ob7))) (fun h2 => w_eq (P123_467 _ _ _) (ih (N - 1) ob7 ob7 ob7 ob7 ob7)))) (fun h1 => w_eq (P123_15 _) (w_some trivial))
theorem c123 {x0 : List Fw.Tx} (p0 : x0.length ≤ 1000) : Wp (D123 x0) fun y => True := by
  rw [E123]
  exact (w123_116 _ ob7 ob7 ob7 (Int.self_le_toNat _))
theorem c124 {x0 : Int} {x1 : Int} {x2 : Int} : D124 x0 x1 x2 = some ((⟨x0, x1, x2, 0, [], [], (⟨[], []⟩ : Fw.Touch), [], 1⟩ : Fw.Tx), ()) := by
  exact E124 _ _ _
theorem c60 {x0 : List Fw.Cell} {x1 : Fw.Tx} {x2 : Fw.Call} (p0 : x0.length ≤ 900) (p1 : KZ x0) (p2 : x1.Calls.length ≤ 11) (p3 : CallsI x1.Calls) (p4 : x1.Proc.natAbs ≤ 4000000000) (p5 : x2.A.natAbs ≤ 4000000000) (p6 : x2.B.natAbs ≤ 4000000000) : Wp (D60 x0 x1 x2) fun y => TB 28700000300 y.1 := by
  rw [E60]
  exact w_bd (c98 o_6udrrx o_6udrrx o_6udrrx o_6udrrx o_6udrrx) (fun y0 ⟨q1_0, q1_1⟩ => w_bd (c64 (s := 4100000000) o_6udrrx o_6udrrx o_6udrrx o_6udrrx o_6udrrx o_6udrrx) (fun y1 ⟨q2_0, q2_1, q2_2⟩ => w_some o_21uf74))
theorem c62{t : Nat} {x0 : List Fw.Cell} {x1 : Fw.Tx} {x2 : Fw.Call} (p0 : x0.length ≤ 900) (p1 : KZ x0) (p2 : XB t x1) (p3 : t ≤ 900000000000) (p4 : x2.A.natAbs ≤ 4000000000) (p5 : x2.B.natAbs ≤ 4000000000) : Wp (D62 x0 x1 x2) fun y => XB (t + 28700000300) y.1 := by
  rw [E62]
  have h1 := p2.c
  have h2 := p2.a
  have h3 := p2.t
  have h4 := p2.ci
  have h5 := p2.p
  have h6 := p2.m
  exact w_be (c92 (t := t) o_6udrrx o_6udrrx) (by (try dsimp only); exact (w_ip (fun h2 => w_some o_1jn3ff) (fun h2 => w_ip (fun h3 => w_some o_1jn3ff) (fun h3 => w_bd (c98 o_6udrrx o_6udrrx o_6udrrx o_6udrrx o_6udrrx) (fun y1 ⟨q4_0, q4_1⟩ => w_bd (c64 (s := 4100000000) o_6udrrx o_6udrrx o_6udrrx o_6udrrx o_6udrrx o_6udrrx) (fun y2 ⟨q5_0, q5_1, q5_2⟩ => w_gp o_6udrrx (w_gp o_6udrrx (w_bd (c100 (a := t) (b := 28700000300) o_6udrrx o_6udrrx o_6udrrx) (fun y3 q6 => w_some o_1jn3ff)))))))))
end Go.Proofs.YtdghkmbppfmifaaGreatDoor.Ri

namespace Go.Proofs.YtdghkmbppfmifaaGreatDoor.Ri
open Go.Proofs.YtdghkmbppfmifaaGreatDoor.Fw
set_option linter.unusedVariables false
set_option linter.unusedSimpArgs false
set_option maxRecDepth 100000
def SlL (l : List Fw.Slot) : Prop := ∀ x ∈ l, x.Cells.length ≤ 20000000000 ∧ KZ x.Cells
theorem SlL.nth {l : List Fw.Slot} (h : SlL l) {i : Nat} (hi : i < l.length) : (nth l i).Cells.length ≤ 20000000000 ∧ KZ (nth l i).Cells := h _ (nth_mem hi)
def EnL (l : List Fw.Entry) : Prop := ∀ x ∈ l, x.Steps.length ≤ 1000 ∧ x.Answers.length ≤ 1000000000000
theorem EnL.nth {l : List Fw.Entry} (h : EnL l) {i : Nat} (hi : i < l.length) : (nth l i).Steps.length ≤ 1000 ∧ (nth l i).Answers.length ≤ 1000000000000 := h _ (nth_mem hi)
structure KB (n t : Nat) (k : Fw.Kernel) : Prop where
  s : k.Store.length ≤ 1000000000000
  kz : KZ k.Store
  x : XL t k.Txs
  xn : k.Txs.length ≤ n
  d : SlL k.Disk.Slots
  dn : k.Disk.Slots.length ≤ 10
  h : EnL k.History
  hn : k.History.length ≤ n
  se : k.Seen.length ≤ 50 * n
  j : k.Disk.Journal.Text.size ≤ 1000000
theorem ob8 {p : Prop} (h : p := by first | assumption | omega | exact (SlL.nth (by assumption) (by omega)).1 | exact (SlL.nth (by assumption) (by omega)).2 | exact (EnL.nth (by assumption) (by omega)).1 | exact (EnL.nth (by assumption) (by omega)).2 | exact ob7) : p := h
theorem o_7i91ue {p : Prop} (h : p := by first | assumption | omega | rfl | (rw [p4]; exact take_nth (by omega) (by omega) (by omega)) | (rw [p4, List.length_take]; omega) | (have hs := (SlL.nth p3 (i := s4.toNat) (by omega)).1; omega) | exact ob8) : p := h
theorem o_h0g7hs {p : Prop} (h : p := by (try dsimp only); (rw [p4, List.take_of_length_le (by omega)])) : p := h
theorem o_babl4 {p : Prop} (h : p := by first | assumption | omega | (subst p0; have hs := SlL.nth (by assumption) (i := (0 : Int).toNat) (by omega); exact ob) | (subst p0; exact (by have h := take_nth (l := e0_0) (i := 0) (by omega) (by omega) (by omega); exact h)) | (simp (disch := omega) only [i64_id]; omega) | exact ob8) : p := h
theorem o_6g2dr8 {p : Prop} (h : p := by (try dsimp only); first | assumption | (have : e0_0 = [] := List.eq_nil_of_length_eq_zero (by omega); subst this; rfl)) : p := h
theorem o_oz8rej {p : Prop} (h : p := by first | rfl | exact ob8) : p := h
theorem o_bd89lu {p : Prop} (h : p := by (try dsimp only); rfl) : p := h
theorem o_7hwl9m {p : Prop} (h : p := by (try dsimp only); (rw [p4, List.take_of_length_le (by omega)]; rfl)) : p := h
theorem w55_116b (N : Nat) : ∀ {s4 : Int} {e0_0 : List Fw.Slot} {e0_1 : ByteArray} {e0_2 : Int} {e1_1 : ByteArray} {e1_2 : Int} {e2_1 : ByteArray} {e2_2 : Int} {e3 : List Fw.Slot} (p0 : 0 ≤ s4) (p1 : s4 ≤ e0_0.length) (p2 : e0_0.length ≤ 1000) (p3 : SlL e0_0) (p4 : e3 = e0_0.take s4.toNat) (hN : e0_0.length - s4 ≤ (N : Int)), Wp (L55_116b s4 e0_0 e0_1 e0_2 e1_1 e1_2 e2_1 e2_2 e3) fun y => y = (⟨e0_0, ⟨e2_1, e2_2⟩⟩, ()) := by
  induction N using Nat.strongRecOn with
  | ind N ih =>
    intro s4 e0_0 e0_1 e0_2 e1_1 e1_2 e2_1 e2_2 e3 p0 p1 p2 p3 p4 hN
    rw [P55_116b]
    exact w_ip (fun h1 => w_gp o_7i91ue (w_gp o_7i91ue (w_gp o_7i91ue (ih (N - 1) o_7i91ue o_7i91ue o_7i91ue o_7i91ue o_7i91ue o_7i91ue ob8)))) (fun h1 => w_eq (P55_15b _ _ _ _ _) (w_some o_h0g7hs))
theorem w55_116 {s4 : Int} {e0_0 : List Fw.Slot} {e0_1 : ByteArray} {e0_2 : Int} {e1_1 : ByteArray} {e1_2 : Int} {e2_1 : ByteArray} {e2_2 : Int} (p0 : s4 = 0) (p1 : e0_0.length ≤ 1000) (p2 : SlL e0_0) : Wp (L55_116 s4 e0_0 e0_1 e0_2 e1_1 e1_2 e2_1 e2_2) fun y => y = (⟨e0_0, ⟨e2_1, e2_2⟩⟩, ()) := by
  rw [P55_116]
  exact w_ip (fun h1 => w_gp o_babl4 (w_gp o_babl4 (w_gp o_babl4 ((w55_116b _ o_babl4 o_babl4 o_babl4 o_babl4 o_babl4 (Int.self_le_toNat _)).mono (fun y q2 => o_6g2dr8))))) (fun h1 => w_eq (P55_15 _ _ _ _) (w_some o_6g2dr8))
theorem c55w {x0 : Fw.Disk} (p0 : x0.Slots.length ≤ 1000) (p1 : SlL x0.Slots) : Wp (D55 x0) fun y => y = (x0, ()) := by
  rw [E55]
  exact (w55_116 o_oz8rej o_oz8rej o_oz8rej).mono (fun y q1 => o_21uf74)
theorem c55 {x0 : Fw.Disk} (p0 : x0.Slots.length ≤ 1000) (p1 : SlL x0.Slots) : D55 x0 = some (x0, ()) := wp_eq (c55w p0 p1)
theorem c56w {x0 : Fw.Entry} (p0 : x0.Steps.length ≤ 1000) (p1 : x0.Answers.length ≤ 1000000000000) : Wp (D56 x0) fun y => y = (x0, ()) := by
  rw [E56]
  exact w_gp ob8 (w_gp ob8 (w_some o_bd89lu))
theorem c56 {x0 : Fw.Entry} (p0 : x0.Steps.length ≤ 1000) (p1 : x0.Answers.length ≤ 1000000000000) : D56 x0 = some (x0, ()) := wp_eq (c56w p0 p1)
theorem w40_1012 (N : Nat) : ∀ {s4 : Int} {e0_3 : ByteArray} {e0_4 : Int} {e0_5 : Int} {e0_6 : Int} {e0_7 : Int} {e0_8 : List Fw.Entry} {e0_9 : List ByteArray} {e0_10 : Bool} {e1 : List Fw.Cell} {e2 : List Fw.Tx} {e3 : List Fw.Slot} {e4_3 : ByteArray} {e4_4 : Int} {e4_5 : Int} {e4_6 : Int} {e4_7 : Int} {e4_10 : Bool} {e5 : List Fw.Entry} (p0 : 0 ≤ s4) (p1 : s4 ≤ e0_8.length) (p2 : e0_8.length ≤ 1000) (p3 : EnL e0_8) (p4 : e5 = e0_8.take s4.toNat) (p5 : e0_9.length ≤ 100000) (hN : e0_8.length - s4 ≤ (N : Int)), Wp (L40_1012 s4 e0_3 e0_4 e0_5 e0_6 e0_7 e0_8 e0_9 e0_10 e1 e2 e3 e4_3 e4_4 e4_5 e4_6 e4_7 e4_10 e5) fun y => y = (⟨e1, e2, ⟨e3, ⟨e0_3, e0_4⟩⟩, e0_5, e0_6, e0_7, e0_8, e0_9, e0_10⟩, ()) := by
  induction N using Nat.strongRecOn with
  | ind N ih =>
    intro s4 e0_3 e0_4 e0_5 e0_6 e0_7 e0_8 e0_9 e0_10 e1 e2 e3 e4_3 e4_4 e4_5 e4_6 e4_7 e4_10 e5 p0 p1 p2 p3 p4 p5 hN
    rw [P40_1012]
    exact w_ip (fun h1 => w_gp o_7i91ue (w_be (c56 o_7i91ue o_7i91ue) (by (try dsimp only); exact (w_gp o_7i91ue (ih (N - 1) o_7i91ue o_7i91ue o_7i91ue o_7i91ue o_7i91ue o_7i91ue o_7i91ue ob8))))) (fun h1 => w_eq (P40_127 _ _ _ _ _ _ _ _ _ _ _ _ _ _ _ _ _ _) (w_gp o_7i91ue (w_some o_7hwl9m)))
theorem c40w{n t : Nat} {x0 : Fw.Kernel} (p0 : KB n t x0) (p1 : n ≤ 1000) (p2 : t ≤ 1000000000000) : Wp (D40 x0) fun y => y = (x0, ()) := by
  rw [E40]
  have h1 := p0.s
  have h2 := p0.xn
  have h3 := p0.x
  have h4 := p0.d
  have h5 := p0.dn
  have h6 := p0.h
  have h7 := p0.hn
  have h8 := p0.se
  exact w_gp o_oz8rej (w_be (c54 (t := t) o_oz8rej o_oz8rej o_oz8rej) (by (try dsimp only); exact (w_be (c55 o_oz8rej o_oz8rej) (by (try dsimp only); exact ((w40_1012 _ o_oz8rej o_oz8rej o_oz8rej o_oz8rej o_oz8rej o_oz8rej (Int.self_le_toNat _)).mono (fun y q3 => o_21uf74))))))
theorem c40{n t : Nat} {x0 : Fw.Kernel} (p0 : KB n t x0) (p1 : n ≤ 1000) (p2 : t ≤ 1000000000000) : D40 x0 = some (x0, ()) := wp_eq (c40w (n := n) (t := t) p0 p1 p2)
end Go.Proofs.YtdghkmbppfmifaaGreatDoor.Ri

namespace Go.Proofs.YtdghkmbppfmifaaGreatDoor.Ri
open Go.Proofs.YtdghkmbppfmifaaGreatDoor.Fw
set_option linter.unusedVariables false
set_option linter.unusedSimpArgs false
set_option maxRecDepth 100000
theorem tmod_nn {a : Int} (h : 0 ≤ a) : 0 ≤ Int.tmod a 9973 ∧ Int.tmod a 9973 ≤ 9972 := by rw [Int.tmod_eq_emod_of_nonneg h]; omega
theorem o_6nfyne {p : Prop} (h : p := by first | assumption | omega | (left; omega) | (by_cases h0 : s3 < 0; · right; omega; · left; omega) | exact ob8) : p := h
theorem o_5l61yq {p : Prop} (h : p := by first | assumption | omega | exact Nat.le_trans (KZ.nth (by assumption) (by omega)).1 (by decide) | (left; omega) | (by_cases h0 : s3 > 0; · left; simp (disch := omega) only [i64_id]; omega; · right; exact fun hc => h0 hc.2) | exact Or.inr rfl | exact Or.inr trivial | exact ob8) : p := h
theorem o_ylx8wr {p : Prop} (h : p := by (try dsimp only); (intro hh; simp at hh; try omega)) : p := h
theorem o_fkvnv1 {p : Prop} (h : p := by first | assumption | omega | exact Nat.le_trans (SlL.nth (by assumption) (by omega)).1 (by decide) | exact (SlL.nth (by assumption) (by omega)).2 | exact ob8) : p := h
theorem o_d8k93l {p : Prop} (h : p := by (try dsimp only); (intro hh; first | exact q1 (by assumption) | (simp at hh))) : p := h
theorem o_19c9i0 {p : Prop} (h : p := by first | assumption | omega | (left; omega) | exact ob8) : p := h
theorem o_eicvzg {p : Prop} (h : p := by (try dsimp only); first | assumption | (intro hh; simp at hh)) : p := h
theorem o_7jho4l {p : Prop} (h : p := by first | assumption | omega | (left; omega) | exact XL.set (by assumption) _ (by have hx := XL.nth (t := t) (by assumption) (i := s6.toNat) (by omega : _ < e0.length); exact ⟨hx.c, hx.ci, hx.a, hx.t, hx.m, hx.p⟩) | (rw [List.length_set]; omega) | exact ob8) : p := h
theorem o_6mduzb {p : Prop} (h : p := by (try dsimp only); exact ⟨by assumption, by assumption⟩) : p := h
theorem o_8xn3wy {p : Prop} (h : p := by first | assumption | omega | (left; omega) | exact XB.t (XL.nth (by assumption) (by omega)) | exact ob8) : p := h
theorem o_1oka0v {p : Prop} (h : p := by (try dsimp only); first | assumption | omega | (left; omega) | exact XB.t (XL.nth (by assumption) (by omega)) | exact ob8) : p := h
theorem o_30h85o {p : Prop} (h : p := by first | assumption | omega | exact Nat.zero_le _ | exact ob8) : p := h
theorem o_z1u0iw {p : Prop} (h : p := by (try dsimp only); first | assumption | omega | exact Nat.zero_le _ | exact ob8) : p := h
theorem w78_116 (N : Nat) : ∀ {s0 : List Fw.Tx} {s4 : Int} {e0 : List Int} (p0 : 0 ≤ s4) (p1 : s4 ≤ s0.length) (p2 : s0.length ≤ 1000) (p3 : (e0.length : Int) ≤ s4) (hN : s0.length - s4 ≤ (N : Int)), Wp (L78_116 s0 s4 e0) fun y => y.1.length ≤ s0.length := by
  induction N using Nat.strongRecOn with
  | ind N ih =>
    intro s0 s4 e0 p0 p1 p2 p3 hN
    rw [P78_116]
    exact w_ip (fun h1 => w_gp ob8 (w_ip (fun h2 => w_gp ob8 (w_gp ob8 (w_eq (P78_467 _ _ _) (ih (N - 1) ob8 ob8 ob8 ob8 ob8 ob8)))) (fun h2 => w_eq (P78_467 _ _ _) (ih (N - 1) ob8 ob8 ob8 ob8 ob8 ob8)))) (fun h1 => w_eq (P78_15 _) (w_some ob8))
theorem c78 {x0 : List Fw.Tx} (p0 : x0.length ≤ 1000) : Wp (D78 x0) fun y => y.1.length ≤ x0.length := by
  rw [E78]
  exact (w78_116 _ ob8 ob8 ob8 ob8 (Int.self_le_toNat _)).mono (fun y q1 => ob8)
theorem c121 {x0 : List Fw.Tx} (p0 : x0.length ≤ 1000) : Wp (D121 x0) fun y => True := by
  rw [E121]
  exact w_bd (c78 ob8) (fun y0 q1 => w_some trivial)
theorem c107 {x0 : List Fw.Tx} (p0 : x0.length ≤ 1000) : Wp (D107 x0) fun y => True := by
  rw [E107]
  exact w_bd (c78 ob8) (fun y0 q1 => w_some trivial)
theorem c110 {x0 : Fw.Journal} : Wp (D110 x0) fun y => True := by
  rw [E110]
  exact w_ip (fun h1 => w_be (c27) (by (try dsimp only); exact (w_some trivial))) (fun h1 => w_some trivial)
theorem c105 {x0 : Fw.Journal} {x1 : Int} : Wp (D105 x0 x1) fun y => True := by
  rw [E105]
  exact w_bd (c110) (fun y0 _ => w_some trivial)
theorem c67 {x0 : Fw.Journal} {x1 : List Fw.Tx} {x2 : Int} (p0 : x1.length ≤ 1000) : Wp (D67 x0 x1 x2) fun y => True := by
  rw [E67]
  exact w_bd (c106) (fun y0 q1 => w_bd (c107 ob8) (fun y1 _ => w_bd (c105) (fun y2 _ => w_some trivial)))
theorem w114_116 (N : Nat) : ∀ {s3 : Int} {s4 : Int} {e0_0 : List Fw.Slot} {e0_1 : ByteArray} {e0_2 : Int} (p0 : 0 ≤ s4) (p1 : s4 ≤ e0_0.length) (p2 : e0_0.length ≤ 1000) (p3 : -1 ≤ s3) (p4 : s3 < e0_0.length) (hN : e0_0.length - s4 ≤ (N : Int)), Wp (L114_116 s3 s4 e0_0 e0_1 e0_2) fun y => -1 ≤ y.1 ∧ y.1 < e0_0.length := by
  induction N using Nat.strongRecOn with
  | ind N ih =>
    intro s3 s4 e0_0 e0_1 e0_2 p0 p1 p2 p3 p4 hN
    rw [P114_116]
    exact w_ip (fun h1 => w_gp o_6nfyne (w_gp o_6nfyne (w_gp o_6nfyne (w_ip (fun h2 => w_eq (P114_467 _ _ _ _ _) (ih (N - 1) o_6nfyne o_6nfyne o_6nfyne o_6nfyne o_6nfyne o_6nfyne ob8)) (fun h2 => w_eq (P114_467 _ _ _ _ _) (ih (N - 1) o_6nfyne o_6nfyne o_6nfyne o_6nfyne o_6nfyne o_6nfyne ob8)))))) (fun h1 => w_eq (P114_15 _) (w_some ⟨ob8, ob8⟩))
theorem c114 {x0 : Fw.Disk} (p0 : x0.Slots.length ≤ 1000) : Wp (D114 x0) fun y => -1 ≤ y.1 ∧ y.1 < x0.Slots.length := by
  rw [E114]
  exact (w114_116 _ ob8 ob8 ob8 ob8 ob8 (Int.self_le_toNat _)).mono (fun y ⟨q1_0, q1_1⟩ => ⟨ob8, ob8⟩)
theorem w94_52 (N : Nat) : ∀ {s0 : List Fw.Cell} {s3 : Int} (p0 : 0 ≤ s3) (p1 : s3 ≤ s0.length) (p2 : s0.length ≤ 1000000000000) (p3 : KZ s0) (hN : s0.length - s3 ≤ (N : Int)), Wp (L94_52 s0 s3) fun y => (y.1 = true → s0.length ≤ 900) := by
  induction N using Nat.strongRecOn with
  | ind N ih =>
    intro s0 s3 p0 p1 p2 p3 hN
    rw [P94_52]
    exact w_ip (fun h1 => w_gp o_5l61yq (w_bd (c132 o_5l61yq) (fun y0 q2 => w_gp o_5l61yq (w_ip (fun h3 => w_be (c27) (by (try dsimp only); exact (w_gp o_5l61yq (w_gp o_5l61yq (w_ip (fun h5 => by (try simp (disch := omega) only [i64_id] at h5); exact w_some o_ylx8wr) (fun h5 => by (try simp (disch := omega) only [i64_id] at h5); exact ih (N - 1) o_5l61yq o_5l61yq o_5l61yq o_5l61yq o_5l61yq ob8)))))) (fun h3 => w_gp o_5l61yq (w_gp o_5l61yq (w_some o_ylx8wr))))))) (fun h1 => w_eq (P94_7 _) (w_some o_ylx8wr))
theorem c94 {x0 : List Fw.Cell} (p0 : x0.length ≤ 1000000000000) (p1 : KZ x0) : Wp (D94 x0) fun y => (y.1 = true → x0.length ≤ 900) := by
  rw [E94]
  exact (w94_52 _ ob8 ob8 ob8 ob8 (Int.self_le_toNat _)).mono (fun y q1 => o_21uf74)
theorem w95_52 (N : Nat) : ∀ {s3 : Int} {e0_0 : List Fw.Slot} {e0_1 : ByteArray} {e0_2 : Int} (p0 : 0 ≤ s3) (p1 : s3 ≤ e0_0.length) (p2 : e0_0.length ≤ 1000) (p3 : SlL e0_0) (hN : e0_0.length - s3 ≤ (N : Int)), Wp (L95_52 s3 e0_0 e0_1 e0_2) fun y => True := by
  induction N using Nat.strongRecOn with
  | ind N ih =>
    intro s3 e0_0 e0_1 e0_2 p0 p1 p2 p3 hN
    rw [P95_52]
    exact w_ip (fun h1 => w_gp o_fkvnv1 (w_ip (fun h2 => w_be (c27) (by (try dsimp only); exact (w_ip (fun h4 => w_bd (c94 o_fkvnv1 o_fkvnv1) (fun y1 q5 => w_ip (fun h6 => w_some trivial) (fun h6 => ih (N - 1) o_fkvnv1 o_fkvnv1 o_fkvnv1 o_fkvnv1 o_fkvnv1 ob8))) (fun h4 => w_np o_fkvnv1 (w_gp o_fkvnv1 (w_some trivial)))))) (fun h2 => ih (N - 1) o_fkvnv1 o_fkvnv1 o_fkvnv1 o_fkvnv1 o_fkvnv1 ob8))) (fun h1 => w_eq (P95_7 _ _ _) (w_ip (fun h7 => w_bd (c114 o_fkvnv1) (fun y0 ⟨q8_0, q8_1⟩ => w_ip (fun h9 => w_bd (c110) (fun y1 _ => w_some trivial)) (fun h9 => w_some trivial))) (fun h7 => w_some trivial)))
theorem c95 {x0 : Fw.Disk} (p0 : x0.Slots.length ≤ 1000) (p1 : SlL x0.Slots) : Wp (D95 x0) fun y => True := by
  rw [E95]
  exact (w95_52 _ ob8 ob8 ob8 ob8 (Int.self_le_toNat _))
theorem w57_7{t : Nat} {e0_0 : List Fw.Cell} {e0_1 : List Fw.Tx} {e0_2 : List Fw.Slot} {e0_3 : ByteArray} {e0_4 : Int} {e0_5 : Int} {e0_6 : Int} {e0_7 : Int} {e0_8 : List Fw.Entry} {e0_9 : List ByteArray} {e0_10 : Bool} (p0 : e0_0.length ≤ 1000000000000) (p1 : KZ e0_0) (p2 : e0_2.length ≤ 1000) (p3 : SlL e0_2) (p4 : e0_1.length ≤ 1000) (p5 : XL t e0_1) (p6 : t ≤ 1000000000000) : Wp (L57_7 e0_0 e0_1 e0_2 e0_3 e0_4 e0_5 e0_6 e0_7 e0_8 e0_9 e0_10) fun y => (y.1 = true → e0_0.length ≤ 900) := by
  rw [P57_7]
  exact w_bd (c94 ob8 ob8) (fun y0 q1 => w_ip (fun h2 => w_bd (c95 ob8 ob8) (fun y1 _ => w_ip (fun h4 => w_be (c27) (by (try dsimp only); exact (w_ip (fun h6 => w_bd (c96 (t := t) ob8 ob8 ob8) (fun y3 _ => w_some o_d8k93l)) (fun h6 => w_some o_d8k93l)))) (fun h4 => w_some o_d8k93l))) (fun h2 => w_some o_d8k93l))
theorem w57_52{t : Nat} (N : Nat) : ∀ {s3 : Int} {e0_0 : List Fw.Cell} {e0_1 : List Fw.Tx} {e0_2 : List Fw.Slot} {e0_3 : ByteArray} {e0_4 : Int} {e0_5 : Int} {e0_6 : Int} {e0_7 : Int} {e0_8 : List Fw.Entry} {e0_9 : List ByteArray} {e0_10 : Bool} (p0 : 0 ≤ s3) (p1 : s3 ≤ e0_1.length) (p2 : e0_0.length ≤ 1000000000000) (p3 : KZ e0_0) (p4 : e0_2.length ≤ 1000) (p5 : SlL e0_2) (p6 : e0_1.length ≤ 1000) (p7 : XL t e0_1) (p8 : t ≤ 1000000000000) (hN : e0_1.length - s3 ≤ (N : Int)), Wp (L57_52 s3 e0_0 e0_1 e0_2 e0_3 e0_4 e0_5 e0_6 e0_7 e0_8 e0_9 e0_10) fun y => (y.1 = true → e0_0.length ≤ 900) := by
  induction N using Nat.strongRecOn with
  | ind N ih =>
    intro s3 e0_0 e0_1 e0_2 e0_3 e0_4 e0_5 e0_6 e0_7 e0_8 e0_9 e0_10 p0 p1 p2 p3 p4 p5 p6 p7 p8 hN
    rw [P57_52]
    exact w_ip (fun h1 => w_gp o_19c9i0 (w_gp o_19c9i0 (w_ip (fun h2 => w_bd (c93 o_19c9i0) (fun y0 ⟨q3_0, q3_1⟩ => w_ip (fun h4 => w_some o_eicvzg) (fun h4 => ih (N - 1) o_19c9i0 o_19c9i0 o_19c9i0 o_19c9i0 o_19c9i0 o_19c9i0 o_19c9i0 o_19c9i0 o_19c9i0 o_19c9i0 ob8))) (fun h2 => w_some o_eicvzg)))) (fun h1 => (w57_7 (t := t) o_19c9i0 o_19c9i0 o_19c9i0 o_19c9i0 o_19c9i0 o_19c9i0 o_19c9i0).mono (fun y q5 => o_eicvzg))
theorem c57{n t : Nat} {x0 : Fw.Kernel} (p0 : KB n t x0) (p1 : n ≤ 1000) (p2 : t ≤ 1000000000000) : Wp (D57 x0) fun y => (y.1 = true → x0.Store.length ≤ 900) := by
  rw [E57]
  have h1 := p0.s
  have h2 := p0.kz
  have h3 := p0.x
  have h4 := p0.xn
  have h5 := p0.d
  have h6 := p0.dn
  exact (w57_52 (t := t) _ ob8 ob8 ob8 ob8 ob8 ob8 ob8 ob8 ob8 (Int.self_le_toNat _)).mono (fun y q1 => o_21uf74)
theorem w58_52 (N : Nat) : ∀ {s1 : Int} {s5 : Int} {e0_0 : List Fw.Cell} {e0_1 : List Fw.Tx} {e0_2 : List Fw.Slot} {e0_3 : ByteArray} {e0_4 : Int} {e0_5 : Int} {e0_6 : Int} {e0_7 : Int} {e0_8 : List Fw.Entry} {e0_9 : List ByteArray} {e0_10 : Bool} (p0 : 0 ≤ s5) (p1 : s5 ≤ e0_1.length) (p2 : e0_1.length ≤ 1000) (hN : e0_1.length - s5 ≤ (N : Int)), Wp (L58_52 s1 s5 e0_0 e0_1 e0_2 e0_3 e0_4 e0_5 e0_6 e0_7 e0_8 e0_9 e0_10) fun y => -1 ≤ y.1 ∧ y.1 < e0_1.length := by
  induction N using Nat.strongRecOn with
  | ind N ih =>
    intro s1 s5 e0_0 e0_1 e0_2 e0_3 e0_4 e0_5 e0_6 e0_7 e0_8 e0_9 e0_10 p0 p1 p2 hN
    rw [P58_52]
    exact w_ip (fun h1 => w_gp o_19c9i0 (w_gp o_19c9i0 (w_ip (fun h2 => w_some ⟨ob8, ob8⟩) (fun h2 => ih (N - 1) o_19c9i0 o_19c9i0 o_19c9i0 o_19c9i0 ob8)))) (fun h1 => w_eq (P58_7) (w_some ⟨ob8, ob8⟩))
theorem c58 {x0 : Fw.Kernel} {x1 : Int} (p0 : x0.Txs.length ≤ 1000) : Wp (D58 x0 x1) fun y => -1 ≤ y.1 ∧ y.1 < x0.Txs.length := by
  rw [E58]
  exact (w58_52 _ ob8 ob8 ob8 (Int.self_le_toNat _)).mono (fun y ⟨q1_0, q1_1⟩ => ⟨ob8, ob8⟩)
theorem w61_116{t m : Nat} (N : Nat) : ∀ {s1 : List Int} {s6 : Int} {e0 : List Fw.Tx} (p0 : 0 ≤ s6) (p1 : s6 ≤ m) (p2 : e0.length = m) (p3 : m ≤ 1000) (p4 : s1.length ≤ 1000) (p5 : XL t e0) (hN : m - s6 ≤ (N : Int)), Wp (L61_116 s1 s6 e0) fun y => y.1.length = m ∧ XL t y.1 := by
  induction N using Nat.strongRecOn with
  | ind N ih =>
    intro s1 s6 e0 p0 p1 p2 p3 p4 p5 hN
    rw [P61_116]
    exact w_ip (fun h1 => w_gp o_7jho4l (w_gp o_7jho4l (w_ip (fun h2 => w_bd (c99 o_7jho4l) (fun y0 _ => w_ip (fun h4 => w_gp o_7jho4l (w_eq (P61_467 _ _ _) (ih (N - 1) o_7jho4l o_7jho4l o_7jho4l o_7jho4l o_7jho4l o_7jho4l o_7jho4l ob8))) (fun h4 => w_eq (P61_467 _ _ _) (ih (N - 1) o_7jho4l o_7jho4l o_7jho4l o_7jho4l o_7jho4l o_7jho4l o_7jho4l ob8)))) (fun h2 => w_eq (P61_467 _ _ _) (ih (N - 1) o_7jho4l o_7jho4l o_7jho4l o_7jho4l o_7jho4l o_7jho4l o_7jho4l ob8))))) (fun h1 => w_eq (P61_15 _) (w_some o_mwn5ay))
theorem c61{t : Nat} {x0 : List Fw.Tx} {x1 : List Int} (p0 : x0.length ≤ 1000) (p1 : XL t x0) (p2 : t ≤ 1000000000000) (p3 : x1.length ≤ 1000) : Wp (D61 x0 x1) fun y => y.1.length = x0.length ∧ XL t y.1 := by
  rw [E61]
  exact w_be (c54 (t := t) ob8 ob8 ob8) (by (try dsimp only); exact ((w61_116 (t := t) (m := x0.length) _ ob8 ob8 ob8 ob8 ob8 ob8 (Int.self_le_toNat _)).mono (fun y ⟨q2_0, q2_1⟩ => o_6mduzb)))
theorem w65_116{t b : Nat} (N : Nat) : ∀ {s0 : List Fw.Tx} {s2 : Int} {s8 : Int} {e0_0 : List ByteArray} {e0_1 : List ByteArray} {e1 : List Int} (p0 : 0 ≤ s8) (p1 : s8 ≤ s0.length) (p2 : s0.length ≤ 1000) (p3 : XL t s0) (p4 : t ≤ 1000000000000) (p5 : b ≤ 1000000000000) (p6 : TB b ⟨e0_0, e0_1⟩) (p7 : (e1.length : Int) ≤ s8) (hN : s0.length - s8 ≤ (N : Int)), Wp (L65_116 s0 s2 s8 e0_0 e0_1 e1) fun y => y.1.length ≤ s0.length := by
  induction N using Nat.strongRecOn with
  | ind N ih =>
    intro s0 s2 s8 e0_0 e0_1 e1 p0 p1 p2 p3 p4 p5 p6 p7 hN
    rw [P65_116]
    exact w_ip (fun h1 => w_gp o_8xn3wy (w_gp o_8xn3wy (w_gp o_8xn3wy (w_ip (fun h2 => w_bd (c102 (a := t) (b := b) o_8xn3wy o_8xn3wy o_8xn3wy o_8xn3wy) (fun y0 _ => w_ip (fun h4 => w_gp o_8xn3wy (w_gp o_8xn3wy (w_eq (P65_467 _ _ _ _ _ _) (ih (N - 1) o_8xn3wy o_8xn3wy o_8xn3wy o_8xn3wy o_8xn3wy o_8xn3wy o_8xn3wy o_8xn3wy o_8xn3wy ob8)))) (fun h4 => w_eq (P65_467 _ _ _ _ _ _) (ih (N - 1) o_8xn3wy o_8xn3wy o_8xn3wy o_8xn3wy o_8xn3wy o_8xn3wy o_8xn3wy o_8xn3wy o_8xn3wy ob8)))) (fun h2 => w_eq (P65_467 _ _ _ _ _ _) (ih (N - 1) o_8xn3wy o_8xn3wy o_8xn3wy o_8xn3wy o_8xn3wy o_8xn3wy o_8xn3wy o_8xn3wy o_8xn3wy ob8)))))) (fun h1 => w_eq (P65_15 _) (w_some o_1oka0v))
theorem c65{t b : Nat} {x0 : List Fw.Tx} {x1 : Fw.Touch} {x2 : Int} (p0 : x0.length ≤ 1000) (p1 : XL t x0) (p2 : t ≤ 1000000000000) (p3 : b ≤ 1000000000000) (p4 : TB b x1) : Wp (D65 x0 x1 x2) fun y => y.1.length ≤ x0.length := by
  rw [E65]
  exact (w65_116 (t := t) (b := b) _ ob8 ob8 ob8 ob8 ob8 ob8 ob8 ob8 (Int.self_le_toNat _)).mono (fun y q1 => ob8)
theorem c59{t b : Nat} {x0 : List Fw.Tx} {x1 : Fw.Tx} {x2 : Fw.Touch} (p0 : x0.length ≤ 1000) (p1 : XL t x0) (p2 : t ≤ 1000000000000) (p3 : b ≤ 1000000000000) (p4 : TB b x2) : Wp (D59 x0 x1 x2) fun y => y.1.length ≤ x0.length := by
  rw [E59]
  exact w_bd (c65 (t := t) (b := b) o_30h85o o_30h85o o_30h85o o_30h85o o_30h85o) (fun y0 q1 => w_bd (c97 o_30h85o o_30h85o) (fun y1 _ => w_ip (fun h3 => w_some o_z1u0iw) (fun h3 => w_some o_z1u0iw)))
end Go.Proofs.YtdghkmbppfmifaaGreatDoor.Ri

namespace Go.Proofs.YtdghkmbppfmifaaGreatDoor.Ri
open Go.Proofs.YtdghkmbppfmifaaGreatDoor.Fw
set_option linter.unusedVariables false
set_option linter.unusedSimpArgs false
set_option maxRecDepth 100000
theorem U4.cutA {l : List ByteArray} {z : ByteArray} (i j i' j' : Nat) (h : U4 l) (hz : z.size ≤ 40) : U4 ((([] ++ cutL l i j) ++ [z]) ++ cutL l i' j') := fun c hc => by
  rcases List.mem_append.1 hc with h1 | h1
  · rcases List.mem_append.1 h1 with h2 | h2
    · exact h c (List.mem_of_mem_take (List.mem_of_mem_drop (by unfold cutL at h2; exact h2)))
    · rw [List.mem_singleton.1 h2]; exact hz
  · exact h c (List.mem_of_mem_take (List.mem_of_mem_drop (by unfold cutL at h1; exact h1)))
theorem o_z9ch2l {p : Prop} (h : p := by first | assumption | omega | (have hb := UInt8.toNat_lt (byteAt s0 s4.toNat); simp (disch := omega) only [i64_id]; first | exact (tmod_nn (by omega)).1 | exact (tmod_nn (by omega)).2) | exact ob8) : p := h
theorem o_djjzak {p : Prop} (h : p := by first | assumption | omega | (rw [bstr_size, List.length_map]; omega) | exact ob8) : p := h
theorem o_fgw5ap {p : Prop} (h : p := by (try dsimp only); first | decide | omega | exact ob8) : p := h
theorem o_fct5i8 {p : Prop} (h : p := by first | assumption | omega | (have hk := KZ.nth (by assumption) (i := s6.toNat) (by omega : _ < s1.length); first | omega | (simp only [List.length_append, List.length_cons, List.length_nil, List.length_map, sbytes_len, ↓Bool.and_eq_true, ↓decide_eq_true_eq]; omega)) | (left; omega) | exact ob8) : p := h
theorem o_9qey1w {p : Prop} (h : p := by (try dsimp only); first | decide | exact ob8) : p := h
theorem o_mnct55 {p : Prop} (h : p := by first | assumption | omega | (rw [List.length_map, sbytes_len]; omega) | exact ob8) : p := h
theorem o_3ng6n5 {p : Prop} (h : p := by (try dsimp only); exact ⟨by omega, by omega⟩) : p := h
theorem o_xodm6 {p : Prop} (h : p := by (try dsimp only); first | assumption | (rw [ByteArray.size_append]; omega)) : p := h
theorem o_bdcswi {p : Prop} (h : p := by (try dsimp only); first | assumption | exact ⟨p0.c, p0.ci, p0.a, p0.t, by simp only [List.length_append, List.length_cons, List.length_nil]; omega, p0.p⟩) : p := h
theorem o_v2brq6 {p : Prop} (h : p := by first | assumption | omega | (simp (disch := omega) only [i64_id]; omega) | exact ob8) : p := h
theorem o_3aixp7 {p : Prop} (h : p := by (try dsimp only); first | assumption | exact ⟨by simp only [cutL_len]; omega, p0.ci.cut _ _, by simp only [cutL_len]; omega, p0.t, by simp only [cutL_len]; omega, p0.p⟩) : p := h
theorem o_c0p386 {p : Prop} (h : p := by first | assumption | omega | exact Nat.le_trans (TZ.nth (by assumption) (by omega)) (by decide) | exact ob8) : p := h
theorem o_e86t6y {p : Prop} (h : p := by first | assumption | omega | exact Nat.le_trans (by assumption) (Nat.le_trans (gr_le (by omega)) (by decide)) | exact ob8) : p := h
theorem w158_116 (N : Nat) : ∀ {s0 : ByteArray} {s3 : Int} {s4 : Int} (p0 : 0 ≤ s4) (p1 : s4 ≤ s0.size) (p2 : s0.size ≤ 1000000000) (p3 : 0 ≤ s3) (p4 : s3 ≤ 9972) (hN : s0.size - s4 ≤ (N : Int)), Wp (L158_116 s0 s3 s4) fun y => 0 ≤ y.1 ∧ y.1 ≤ 9972 := by
  induction N using Nat.strongRecOn with
  | ind N ih =>
    intro s0 s3 s4 p0 p1 p2 p3 p4 hN
    rw [P158_116]
    exact w_ip (fun h1 => w_gp o_z9ch2l (w_gp o_z9ch2l (ih (N - 1) o_z9ch2l o_z9ch2l o_z9ch2l o_z9ch2l o_z9ch2l o_z9ch2l ob8))) (fun h1 => w_eq (P158_15 _) (w_some ⟨ob8, ob8⟩))
theorem c158 {x0 : ByteArray} (p0 : x0.size ≤ 1000000000) : Wp (D158 x0) fun y => 0 ≤ y.1 ∧ y.1 ≤ 9972 := by
  rw [E158]
  exact (w158_116 _ ob8 ob8 ob8 ob8 ob8 (Int.self_le_toNat _)).mono (fun y ⟨q1_0, q1_1⟩ => ⟨ob8, ob8⟩)
theorem w108_31 {e0 : List UInt8} (p0 : e0.length ≤ 5000) : Wp (L108_31 e0) fun y => y.1.size ≤ 4000 := by
  rw [P108_31]
  exact w_gp o_djjzak (w_bd (c158 o_djjzak) (fun y0 ⟨q1_0, q1_1⟩ => w_bd (c122 o_djjzak o_djjzak) (fun y1 q2 => w_gp o_djjzak (w_gp o_djjzak (w_ip (fun h3 => w_some o_fgw5ap) (fun h3 => w_some o_fgw5ap))))))
theorem w108_244 (N : Nat) : ∀ {s1 : List Fw.Cell} {s6 : Int} {e0 : List UInt8} (p0 : 0 ≤ s6) (p1 : s6 ≤ s1.length) (p2 : s1.length ≤ 3000000000000) (p3 : KZ s1) (p4 : e0.length ≤ 5000) (hN : s1.length - s6 ≤ (N : Int)), Wp (L108_244 s1 s6 e0) fun y => y.1.size ≤ 4000 := by
  induction N using Nat.strongRecOn with
  | ind N ih =>
    intro s1 s6 e0 p0 p1 p2 p3 p4 hN
    rw [P108_244]
    exact w_ip (fun h1 => w_gp o_fct5i8 (w_bd (c132 o_fct5i8) (fun y0 q2 => w_gp o_fct5i8 (w_ip (fun h3 => w_some o_9qey1w) (fun h3 => w_gp o_fct5i8 (w_bd (c157) (fun y1 q4 => w_gp o_fct5i8 (w_bd (c157) (fun y2 q5 => w_gp o_fct5i8 (w_gp o_fct5i8 (w_gp o_fct5i8 (w_gp o_fct5i8 (ih (N - 1) o_fct5i8 o_fct5i8 o_fct5i8 o_fct5i8 o_fct5i8 o_fct5i8 ob8))))))))))))) (fun h1 => (w108_31 o_fct5i8).mono (fun y q6 => o_9qey1w))
theorem c108 {x0 : Int} {x1 : List Fw.Cell} (p0 : x1.length ≤ 3000000000000) (p1 : KZ x1) : Wp (D108 x0 x1) fun y => y.1.size ≤ 4000 := by
  rw [E108]
  exact w_be (c27) (by (try dsimp only); exact (w_ip (fun h2 => w_some o_9qey1w) (fun h2 => w_bd (c122 o_mnct55 o_mnct55) (fun y1 q3 => (w108_244 _ o_mnct55 o_mnct55 o_mnct55 o_mnct55 o_mnct55 (Int.self_le_toNat _)).mono (fun y q4 => o_9qey1w)))))
theorem c68 {x0 : List Fw.Cell} (p0 : x0.length ≤ 3000000000000) (p1 : KZ x0) : Wp (D68 x0) fun y => 0 ≤ y.1 ∧ y.1 ≤ 4000 := by
  rw [E68]
  exact w_bd (c108 ob8 ob8) (fun y0 q1 => w_some o_3ng6n5)
theorem c109 {x0 : Fw.Journal} {x1 : ByteArray} (p0 : x1.size ≤ 4000) (p1 : x0.Text.size ≤ 1000000) : Wp (D109 x0 x1) fun y => y.1.Text.size ≤ 1000000 := by
  rw [E109]
  exact w_bd (c110) (fun y0 _ => w_ip (fun h2 => by (try simp (disch := omega) only [i64_id] at h2); exact w_some o_xodm6) (fun h2 => by (try simp (disch := omega) only [i64_id] at h2); exact w_gp ob8 (w_some o_xodm6)))
theorem c126{t : Nat} {x0 : Fw.Tx} (p0 : XB t x0) (p1 : t ≤ 1000000000000) : Wp (D126 x0) fun y => XB t y.1 := by
  rw [E126]
  have h1 := p0.m
  exact w_be (c92 (t := t) ob8 ob8) (by (try dsimp only); exact (w_ip (fun h2 => w_some o_bdcswi) (fun h2 => w_gp ob8 (w_some o_bdcswi))))
theorem c127{t : Nat} {x0 : Fw.Tx} {x1 : Int} (p0 : XB t x0) (p1 : t ≤ 1000000000000) : Wp (D127 x0 x1) fun y => XB t y.1 := by
  rw [E127]
  have h1 := p0.m
  have h2 := p0.c
  have h3 := p0.a
  exact w_be (c92 (t := t) o_v2brq6 o_v2brq6) (by (try dsimp only); exact (w_ip (fun h2 => w_be (c27) (by (try dsimp only); exact (w_ip (fun h4 => w_some o_3aixp7) (fun h4 => w_gp o_v2brq6 (w_bd (c106) (fun y2 q5 => w_gp o_v2brq6 (w_bd (c106) (fun y3 q6 => w_gp o_v2brq6 (w_gp o_v2brq6 (w_some o_3aixp7)))))))))) (fun h2 => w_some o_3aixp7)))
theorem w164_116{a : Nat} (N : Nat) : ∀ {s1 : List Fw.Cell} {s8 : Int} {e0_0 : List ByteArray} {e0_1 : List ByteArray} {e1 : List Fw.Cell} (p0 : 0 ≤ s8) (p1 : s8 ≤ e0_1.length) (p2 : e0_1.length ≤ 1000000000000) (p3 : TZ e0_1) (p4 : KZ s1) (p5 : s1.length ≤ 1000000000000) (p6 : KZ e1) (p7 : (e1.length : Int) ≤ a + s8) (p8 : a ≤ 1000) (hN : e0_1.length - s8 ≤ (N : Int)), Wp (L164_116 s1 s8 e0_0 e0_1 e1) fun y => y.1.length ≤ a + e0_1.length ∧ KZ y.1 := by
  induction N using Nat.strongRecOn with
  | ind N ih =>
    intro s1 s8 e0_0 e0_1 e1 p0 p1 p2 p3 p4 p5 p6 p7 p8 hN
    rw [P164_116]
    exact w_ip (fun h1 => w_gp o_c0p386 (w_gp o_c0p386 (w_bd (c104 o_c0p386 o_c0p386) (fun y0 q2 => w_bd (c162 o_c0p386 o_c0p386 o_c0p386) (fun y1 ⟨q3_0, q3_1⟩ => ih (N - 1) o_c0p386 o_c0p386 o_c0p386 o_c0p386 o_c0p386 o_c0p386 o_c0p386 o_c0p386 o_c0p386 o_c0p386 ob8))))) (fun h1 => w_eq (P164_15 _) (w_some o_mwn5ay))
theorem c164 {x0 : List Fw.Cell} {x1 : List Fw.Cell} {x2 : Fw.Touch} (p0 : x0.length ≤ 900) (p1 : KZ x0) (p2 : x1.length ≤ 1000000000000) (p3 : KZ x1) (p4 : x2.Writes.length ≤ 1000000000000) (p5 : TZ x2.Writes) : Wp (D164 x0 x1 x2) fun y => y.1.length ≤ 900 + x2.Writes.length ∧ KZ y.1 := by
  rw [E164]
  exact w_gp ob8 ((w164_116 (a := 900) _ ob8 ob8 ob8 ob8 ob8 ob8 ob8 ob8 ob8 (Int.self_le_toNat _)).mono (fun y ⟨q1_0, q1_1⟩ => o_mwn5ay))
theorem c128{t : Nat} {x0 : List Fw.Cell} {x1 : Fw.Tx} (p0 : x0.length ≤ 900) (p1 : KZ x0) (p2 : XB t x1) (p3 : t ≤ 900000000000) : Wp (D128 x0 x1) fun y => y.1.length ≤ 900 + t ∧ KZ y.1 := by
  rw [E128]
  have h1 := p2.c
  have h2 := p2.ci
  have h3 := p2.t.w
  have h4 := p2.t.tw
  have h5 := p2.p
  exact w_bd (c98 o_e86t6y o_e86t6y o_e86t6y o_e86t6y o_e86t6y) (fun y0 ⟨q1_0, q1_1⟩ => w_bd (c164 o_e86t6y o_e86t6y o_e86t6y o_e86t6y o_e86t6y o_e86t6y) (fun y1 ⟨q2_0, q2_1⟩ => w_some o_mwn5ay))
end Go.Proofs.YtdghkmbppfmifaaGreatDoor.Ri

namespace Go.Proofs.YtdghkmbppfmifaaGreatDoor.Ri
open Go.Proofs.YtdghkmbppfmifaaGreatDoor.Fw
set_option linter.unusedVariables false
set_option linter.unusedSimpArgs false
set_option maxRecDepth 100000
def RcL (l : List (List Fw.Cell)) : Prop := ∀ r ∈ l, r.length ≤ 5000 ∧ KZ r
theorem RcL.nth {l : List (List Fw.Cell)} (h : RcL l) {i : Nat} (hi : i < l.length) : (nth l i).length ≤ 5000 ∧ KZ (nth l i) := h _ (nth_mem hi)
theorem KZ.app1 {l : List Fw.Cell} {k v : ByteArray} (h : KZ l) (hk : k.size ≤ 40) (hv : v.size ≤ 60) : KZ (l ++ [⟨k, v⟩]) := KZ.app h (KZ.one hk hv)
theorem o_bj1cat {p : Prop} (h : p := by (try dsimp only); all_goals rfl) : p := h
theorem o_dxcu8n {p : Prop} (h : p := by first | assumption | omega | (simp only [List.length_append, List.length_cons, List.length_nil]; simp (disch := omega) only [i64_id]; omega) | exact ob8) : p := h
theorem o_rcke8k {p : Prop} (h : p := by (try dsimp only); omega) : p := h
theorem o_hc24hn {p : Prop} (h : p := by first | assumption | omega | exact Nat.le_trans (KZ.nth (by assumption) (by omega)).1 (by decide) | exact ob8) : p := h
theorem o_wlgf2a {p : Prop} (h : p := by first | assumption | omega | (by_cases h0 : s7 = s0.size; · right; exact fun hc => hc h0; · left; omega) | exact TZ.app (by assumption) (TZ.one (Nat.le_trans (cutS_len _ _ _) (by omega))) | (intro _; simp) | (intro hc; simp (disch := omega) only [i64_id] at hc; omega) | exact ob8) : p := h
theorem o_4sugk1 {p : Prop} (h : p := by (try dsimp only); exact ⟨by omega, by omega, by assumption⟩) : p := h
theorem o_dd67r4 {p : Prop} (h : p := by first | assumption | omega | (intro hc; omega) | exact TZ.nil | exact ob8) : p := h
theorem o_1e4nup {p : Prop} (h : p := by (try dsimp only); first | exact ⟨by assumption, rfl, rfl⟩ | exact ⟨⟨p0.s, p0.kz, p0.x, p0.xn, p0.d, p0.dn, p0.h, p0.hn, p0.se, by assumption⟩, rfl, rfl⟩) : p := h
theorem o_o93afa {p : Prop} (h : p := by (try dsimp only); exact ⟨p0.s, p0.kz, p0.x, p0.xn, p0.d, p0.dn, p0.h, p0.hn, p0.se, p0.j⟩) : p := h
theorem o_05rf6p {p : Prop} (h : p := by first | assumption | omega | exact ob8) : p := h
theorem o_lgeqen {p : Prop} (h : p := by (try dsimp only); first | assumption | exact ⟨p0.s, p0.kz, XL.set p0.x _ (by assumption), by rw [List.length_set]; exact p0.xn, p0.d, p0.dn, p0.h, p0.hn, p0.se, p0.j⟩) : p := h
theorem o_ctp2g4 {p : Prop} (h : p := by (try dsimp only); first | assumption | exact ⟨p0.s, p0.kz, XL.set p0.x _ (by have hx := XL.nth p0.x (i := y1.1.toNat) (by omega); exact ⟨hx.c, hx.ci, hx.a, hx.t, hx.m, hx.p⟩), by rw [List.length_set]; exact p0.xn, p0.d, p0.dn, p0.h, p0.hn, p0.se, p0.j⟩) : p := h
theorem o_qbkzjb {p : Prop} (h : p := by (try dsimp only); first | assumption | exact ⟨p0.s, p0.kz, p0.x, p0.xn, p0.d, p0.dn, p0.h, p0.hn, by dsimp only; omega, Nat.le_trans (Nat.le_of_eq (congrArg ByteArray.size (by assumption))) p0.j⟩) : p := h
theorem c70 {x0 : Fw.Journal} : Wp (D70 x0) fun y => y.1.Text = x0.Text := by
  rw [E70]
  exact w_bd (c110) (fun y0 _ => w_ip (fun h2 => w_eq (P70_7 _ _ _ _) (w_some o_bj1cat)) (fun h2 => w_eq (P70_7 _ _ _ _) (w_some o_bj1cat)))
theorem w71_244 (N : Nat) : ∀ {s0 : List Fw.Cell} {s4 : Int} {s5 : Int} {e0 : List ByteArray} (p0 : 0 ≤ s5) (p1 : s5 ≤ s4 + 1) (p2 : s4 ≤ 40) (p3 : s0.length ≤ 1000000000000) (p4 : KZ s0) (p5 : (e0.length : Int) + 1 ≤ s5) (hN : s4 + 1 - s5 ≤ (N : Int)), Wp (L71_244 s0 s4 s5 e0) fun y => y.1.length ≤ 50 := by
  induction N using Nat.strongRecOn with
  | ind N ih =>
    intro s0 s4 s5 e0 p0 p1 p2 p3 p4 p5 hN
    rw [P71_244]
    exact w_ip (fun h1 => w_bd (c112 o_dxcu8n o_dxcu8n o_dxcu8n o_dxcu8n) (fun y0 q2 => w_bd (c104 o_dxcu8n o_dxcu8n) (fun y1 q3 => w_gp o_dxcu8n (w_ip (fun h4 => w_gp o_dxcu8n (w_bd (c113) (fun y2 q5 => w_eq (P71_15655 _ _ _ _ _) (w_gp o_dxcu8n (ih (N - 1) o_dxcu8n o_dxcu8n o_dxcu8n o_dxcu8n o_dxcu8n o_dxcu8n o_dxcu8n ob8))))) (fun h4 => w_eq (P71_15655 _ _ _ _ _) (w_gp o_dxcu8n (ih (N - 1) o_dxcu8n o_dxcu8n o_dxcu8n o_dxcu8n o_dxcu8n o_dxcu8n o_dxcu8n ob8))))))) (fun h1 => w_eq (P71_31 _) (w_some o_rcke8k))
theorem c71 {x0 : List Fw.Cell} (p0 : x0.length ≤ 1000000000000) (p1 : KZ x0) : Wp (D71 x0) fun y => y.1.length ≤ 50 := by
  rw [E71]
  exact w_bd (c104 ob8 ob8) (fun y0 q1 => w_bd (c111) (fun y1 ⟨q2_0, q2_1⟩ => w_bd (c106) (fun y2 q3 => (w71_244 _ ob8 ob8 ob8 ob8 ob8 ob8 (Int.self_le_toNat _)).mono (fun y q4 => o_21uf74))))
theorem w120_116{a : Nat} (N : Nat) : ∀ {s1 : List Fw.Cell} {s5 : Int} {e0 : List Fw.Cell} (p0 : 0 ≤ s5) (p1 : s5 ≤ s1.length) (p2 : s1.length ≤ 1000000000) (p3 : KZ s1) (p4 : KZ e0) (p5 : (e0.length : Int) ≤ a + s5) (p6 : a ≤ 1000000000000) (hN : s1.length - s5 ≤ (N : Int)), Wp (L120_116 s1 s5 e0) fun y => y.1.length ≤ a + s1.length ∧ KZ y.1 := by
  induction N using Nat.strongRecOn with
  | ind N ih =>
    intro s1 s5 e0 p0 p1 p2 p3 p4 p5 p6 hN
    rw [P120_116]
    exact w_ip (fun h1 => w_gp o_hc24hn (w_gp o_hc24hn (w_bd (c162 o_hc24hn o_hc24hn o_hc24hn) (fun y0 ⟨q2_0, q2_1⟩ => ih (N - 1) o_hc24hn o_hc24hn o_hc24hn o_hc24hn o_hc24hn o_hc24hn o_hc24hn o_hc24hn ob8)))) (fun h1 => w_eq (P120_15 _) (w_some o_mwn5ay))
theorem c120{a : Nat} {x0 : List Fw.Cell} {x1 : List Fw.Cell} (p0 : x0.length ≤ a) (p1 : a ≤ 1000000000000) (p2 : KZ x0) (p3 : x1.length ≤ 1000000000) (p4 : KZ x1) : Wp (D120 x0 x1) fun y => y.1.length ≤ a + x1.length ∧ KZ y.1 := by
  rw [E120]
  exact w_gp ob8 ((w120_116 (a := a) _ ob8 ob8 ob8 ob8 ob8 ob8 ob8 (Int.self_le_toNat _)).mono (fun y ⟨q1_0, q1_1⟩ => o_mwn5ay))
theorem w161_244 (N : Nat) : ∀ {s0 : ByteArray} {s1 : Int} {s6 : Int} {s7 : Int} {e0 : List ByteArray} (p0 : 0 ≤ s7) (p1 : s7 ≤ s0.size + 1) (p2 : 0 ≤ s6) (p3 : s6 ≤ s7) (p4 : s0.size ≤ 1000000) (p5 : (e0.length : Int) ≤ s7) (p6 : (s7 = s0.size + 1 → 0 < e0.length)) (p7 : TZ e0) (p8 : s0.size ≤ 4096) (hN : s0.size + 1 - s7 ≤ (N : Int)), Wp (L161_244 s0 s1 s6 s7 e0) fun y => 0 < y.1.length ∧ y.1.length ≤ s0.size + 1 ∧ TZ y.1 := by
  induction N using Nat.strongRecOn with
  | ind N ih =>
    intro s0 s1 s6 s7 e0 p0 p1 p2 p3 p4 p5 p6 p7 p8 hN
    rw [P161_244]
    exact w_ip (fun h1 => w_gp o_wlgf2a (w_ip (fun h2 => w_gp o_wlgf2a (w_gp o_wlgf2a (w_eq (P161_979 _ _ _ _ _) (ih (N - 1) o_wlgf2a o_wlgf2a o_wlgf2a o_wlgf2a o_wlgf2a o_wlgf2a o_wlgf2a o_wlgf2a o_wlgf2a o_wlgf2a ob8)))) (fun h2 => w_eq (P161_979 _ _ _ _ _) (ih (N - 1) o_wlgf2a o_wlgf2a o_wlgf2a o_wlgf2a o_wlgf2a o_wlgf2a o_wlgf2a o_wlgf2a o_wlgf2a o_wlgf2a ob8)))) (fun h1 => w_eq (P161_31 _) (w_some o_4sugk1))
theorem c161 {x0 : ByteArray} {x1 : UInt8} (p0 : x0.size ≤ 4096) : Wp (D161 x0 x1) fun y => 0 < y.1.length ∧ y.1.length ≤ x0.size + 1 ∧ TZ y.1 := by
  rw [E161]
  exact (w161_244 _ o_dd67r4 o_dd67r4 o_dd67r4 o_dd67r4 o_dd67r4 o_dd67r4 o_dd67r4 o_dd67r4 o_dd67r4 (Int.self_le_toNat _)).mono (fun y ⟨q1_0, q1_1, q1_2⟩ => o_4sugk1)
theorem c69{n t : Nat} {x0 : Fw.Kernel} {x1 : List Fw.Cell} (p0 : KB n t x0) (p1 : n ≤ 1000) (p2 : t ≤ 1000000000000) (p3 : x1.length ≤ 3000000000000) (p4 : KZ x1) : Wp (D69 x0 x1) fun y => KB n t y.1 ∧ y.1.Txs.length = x0.Txs.length ∧ y.1.History.length = x0.History.length := by
  rw [E69]
  have h1 := p0.j
  exact w_be (c40 (n := n) (t := t) ob8 ob8 ob8) (by (try dsimp only); exact (w_ip (fun h2 => w_some o_1e4nup) (fun h2 => w_bd (c108 ob8 ob8) (fun y1 q3 => w_ip (fun h4 => w_some o_1e4nup) (fun h4 => w_bd (c109 ob8 ob8) (fun y2 q5 => w_ip (fun h6 => w_some o_1e4nup) (fun h6 => w_some o_1e4nup)))))))
theorem c41{n t : Nat} {x0 : Fw.Kernel} (p0 : KB n t x0) (p1 : n ≤ 1000) (p2 : t ≤ 1000000000000) : Wp (D41 x0) fun y => KB n t y.1 := by
  rw [E41]
  exact w_be (c40 (n := n) (t := t) ob8 ob8 ob8) (by (try dsimp only); exact (w_some o_o93afa))
theorem c81{n t : Nat} {x0 : Fw.Kernel} {x1 : Int} (p0 : KB n t x0) (p1 : n ≤ 1000) (p2 : t ≤ 1000000000000) : Wp (D81 x0 x1) fun y => KB n t y.1 := by
  rw [E81]
  have h1 := p0.xn
  have h2 := p0.x
  exact w_be (c40 (n := n) (t := t) o_05rf6p o_05rf6p o_05rf6p) (by (try dsimp only); exact (w_bd (c93 o_05rf6p) (fun y1 ⟨q2_0, q2_1⟩ => w_bd (c57 (n := n) (t := t) o_05rf6p o_05rf6p o_05rf6p) (fun y2 q3 => w_ip (fun h4 => w_some o_lgeqen) (fun h4 => w_gp o_05rf6p (w_bd (c126 (t := t) o_05rf6p o_05rf6p) (fun y3 q5 => w_gp o_05rf6p (w_some o_lgeqen))))))))
theorem c82{n t : Nat} {x0 : Fw.Kernel} {x1 : Int} {x2 : Int} (p0 : KB n t x0) (p1 : n ≤ 1000) (p2 : t ≤ 1000000000000) : Wp (D82 x0 x1 x2) fun y => KB n t y.1 := by
  rw [E82]
  have h1 := p0.xn
  have h2 := p0.x
  exact w_be (c40 (n := n) (t := t) o_05rf6p o_05rf6p o_05rf6p) (by (try dsimp only); exact (w_bd (c93 o_05rf6p) (fun y1 ⟨q2_0, q2_1⟩ => w_bd (c57 (n := n) (t := t) o_05rf6p o_05rf6p o_05rf6p) (fun y2 q3 => w_ip (fun h4 => w_some o_lgeqen) (fun h4 => w_gp o_05rf6p (w_bd (c127 (t := t) o_05rf6p o_05rf6p) (fun y3 q5 => w_gp o_05rf6p (w_some o_lgeqen))))))))
theorem c83{n t : Nat} {x0 : Fw.Kernel} {x1 : Int} (p0 : KB n t x0) (p1 : n ≤ 1000) (p2 : t ≤ 1000000000000) : Wp (D83 x0 x1) fun y => KB n t y.1 := by
  rw [E83]
  have h1 := p0.xn
  have h2 := p0.x
  exact w_be (c40 (n := n) (t := t) o_05rf6p o_05rf6p o_05rf6p) (by (try dsimp only); exact (w_bd (c58 o_05rf6p) (fun y1 ⟨q2_0, q2_1⟩ => w_bd (c57 (n := n) (t := t) o_05rf6p o_05rf6p o_05rf6p) (fun y2 q3 => w_ip (fun h4 => w_some o_ctp2g4) (fun h4 => w_gp o_05rf6p (w_some o_ctp2g4))))))
theorem c44{n t : Nat} {x0 : Fw.Kernel} (p0 : KB n t x0) (p1 : n ≤ 1000) (p2 : t ≤ 1000000000000) (p3 : 1 ≤ n) : Wp (D44 x0) fun y => KB n t y.1 := by
  rw [E44]
  have h1 := p0.s
  have h2 := p0.kz
  exact w_be (c40 (n := n) (t := t) o_05rf6p o_05rf6p o_05rf6p) (by (try dsimp only); exact (w_bd (c57 (n := n) (t := t) o_05rf6p o_05rf6p o_05rf6p) (fun y1 q2 => w_ip (fun h3 => w_some o_qbkzjb) (fun h3 => w_bd (c70) (fun y2 q4 => w_bd (c71 o_05rf6p o_05rf6p) (fun y3 q5 => w_some o_qbkzjb))))))
end Go.Proofs.YtdghkmbppfmifaaGreatDoor.Ri

namespace Go.Proofs.YtdghkmbppfmifaaGreatDoor.Ri
open Go.Proofs.YtdghkmbppfmifaaGreatDoor.Fw
set_option linter.unusedVariables false
set_option linter.unusedSimpArgs false
set_option maxRecDepth 100000
theorem EnL.app {l : List Fw.Entry} {e : Fw.Entry} (h : EnL l) (h1 : e.Steps.length ≤ 1000) (h2 : e.Answers.length ≤ 1000000000000) : EnL (l ++ [e]) := fun z hz => (List.mem_append.1 hz).elim (h z) fun x => by rw [List.mem_singleton.1 x]; exact ⟨h1, h2⟩
theorem XB.st {t : Nat} {x : Fw.Tx} (h : XB t x) (s : Int) : XB t { x with State := s } := ⟨h.c, h.ci, h.a, h.t, h.m, h.p⟩
theorem ob12 {p : Prop} (h : p := by first | assumption | omega | exact (KZ.nth (by assumption) (by omega)).1 | exact (KZ.nth (by assumption) (by simp (disch := omega) only [i64_id]; omega)).1 | exact Nat.le_trans (KZ.nth (by assumption) (by omega)).1 (by decide) | exact U4.nth (by assumption) (by omega) | exact U4.nil | exact KZ.app1 (by assumption) (U4.nth (by assumption) (by omega)) (by assumption) | (simp (disch := omega) only [i64_id]; omega) | exact ob8) : p := h
theorem o_mbmzy9 {p : Prop} (h : p := by (try dsimp only); first | exact ⟨by omega, by assumption⟩ | exact ⟨by simp only [List.length_append, List.length_nil, List.length_cons, cutL_len]; omega, U4.cutA _ _ _ _ (by assumption) (by assumption)⟩) : p := h
theorem o_w5g9ug {p : Prop} (h : p := by first | assumption | omega | exact Nat.le_trans (by assumption) (Nat.le_trans (gr_le (by omega)) (by decide)) | exact Nat.le_trans (by assumption) (by have hg := gr_le (n := x1.Calls.length) (by omega); omega) | exact ob12) : p := h
theorem o_qwdqdd {p : Prop} (h : p := by first | assumption | omega | exact XL.nth (by assumption) (by omega) | exact (XL.nth (by assumption : XL t x0.Txs) (i := y2.1.toNat) (by omega)).ci | exact (XL.nth (by assumption : XL t x0.Txs) (i := y2.1.toNat) (by omega)).c | exact (XL.nth (by assumption : XL t x0.Txs) (i := y2.1.toNat) (by omega)).p | (have ha := (XL.nth (by assumption : XL t x0.Txs) (i := y2.1.toNat) (by omega)).a; omega) | exact ob12) : p := h
theorem o_g653pb {p : Prop} (h : p := by (try dsimp only); first | exact ⟨p0.s, p0.kz, p0.x, Nat.le_succ_of_le p0.xn, p0.d, p0.dn, p0.h, Nat.le_succ_of_le p0.hn, Nat.le_trans p0.se (by omega), p0.j⟩ | exact ⟨by dsimp only; omega, by assumption, XL.set q8_0.x _ (XB.st (XL.nth q8_0.x (by omega)) 2), by rw [List.length_set]; exact Nat.le_succ_of_le q8_0.xn, q8_0.d, q8_0.dn, EnL.app q8_0.h (by have hc := (XL.nth h2 (i := y2.1.toNat) (by omega)).c; dsimp only; omega) (by have ha := (XL.nth h2 (i := y2.1.toNat) (by omega)).a; dsimp only [List.nil_append]; omega), by rw [List.length_append]; have hh := q8_0.hn; exact Nat.succ_le_succ hh, Nat.le_trans q8_0.se (by omega), q8_0.j⟩) : p := h
theorem o_v363xx {p : Prop} (h : p := by first | assumption | omega | exact XL.nth (by assumption) (by omega) | exact (XL.nth (by assumption : XL t x0.Txs) (i := y2.1.toNat) (by omega)).ci | exact (XL.nth (by assumption : XL t x0.Txs) (i := y2.1.toNat) (by omega)).c | exact (XL.nth (by assumption : XL t x0.Txs) (i := y2.1.toNat) (by omega)).p | exact ob12) : p := h
theorem o_frhb0k {p : Prop} (h : p := by (try dsimp only); first | exact ⟨p0.s, p0.kz, p0.x.le (by omega), Nat.le_succ_of_le p0.xn, p0.d, p0.dn, p0.h, Nat.le_succ_of_le p0.hn, Nat.le_trans p0.se (by omega), p0.j⟩ | exact ⟨p0.s, p0.kz, XL.le (by assumption) (by omega), by dsimp only; omega, p0.d, p0.dn, p0.h, Nat.le_succ_of_le p0.hn, Nat.le_trans p0.se (by omega), p0.j⟩ | exact ⟨p0.s, p0.kz, XL.set (XL.le (by assumption) (by omega)) _ (by assumption), by rw [List.length_set]; omega, p0.d, p0.dn, p0.h, Nat.le_succ_of_le p0.hn, Nat.le_trans p0.se (by omega), p0.j⟩) : p := h
theorem o_inccrn {p : Prop} (h : p := by first | assumption | omega | exact XL.nth (by assumption) (by omega) | exact ob12) : p := h
theorem o_57g74l {p : Prop} (h : p := by (try dsimp only); first | decide | exact (XL.nth (by assumption : XL t x0.Txs) (i := y0.1.toNat) (by omega)).p) : p := h
theorem w156u (N : Nat) : ∀ {s0 : List ByteArray} {s1 : ByteArray} {s5 : Int} (p0 : 0 ≤ s5) (p1 : s5 ≤ s0.length) (p2 : s0.length ≤ 3000000000000) (p3 : U4 s0) (p4 : s1.size ≤ 40) (hN : s0.length - s5 ≤ (N : Int)), Wp (L156_56 s0 s1 s5) fun y => y.1.length ≤ s0.length + 1 ∧ U4 y.1 := by
  induction N using Nat.strongRecOn with
  | ind N ih =>
    intro s0 s1 s5 p0 p1 p2 p3 p4 hN
    rw [P156_56]
    exact w_gp o_lualy7 (w_ip (fun h1 => ih (N - 1) o_lualy7 o_lualy7 o_lualy7 o_lualy7 o_lualy7 o_lualy7 ob12) (fun h1 => w_eq (P156_15 _ _ _) (w_gp o_lualy7 (w_ip (fun h2 => w_some o_mbmzy9) (fun h2 => w_gp o_lualy7 (w_gp o_lualy7 (w_gp o_lualy7 (w_gp o_lualy7 (w_gp o_lualy7 (w_some o_mbmzy9))))))))))
theorem c156u {x0 : List ByteArray} {x1 : ByteArray} (p0 : x0.length ≤ 3000000000000) (p1 : U4 x0) (p2 : x1.size ≤ 40) : Wp (D156 x0 x1) fun y => y.1.length ≤ x0.length + 1 ∧ U4 y.1 := by
  rw [E156]
  exact (w156u _ ob12 ob12 ob12 ob12 ob12 (Int.self_le_toNat _)).mono (fun y ⟨q1_0, q1_1⟩ => o_6mduzb)
theorem w103_116b (N : Nat) : ∀ {s0 : List Fw.Cell} {s1 : List Fw.Cell} {s5 : List ByteArray} {s6 : Int} (p0 : 0 ≤ s6) (p1 : s6 ≤ s0.length + s1.length) (p2 : s0.length ≤ 1000) (p3 : s1.length ≤ 1000000001000) (p4 : KZ s0) (p5 : KZ s1) (p6 : (s5.length : Int) ≤ s6) (p7 : U4 s5) (hN : s0.length + s1.length - s6 ≤ (N : Int)), Wp (L103_116b s0 s1 s5 s6) fun y => y.1.length ≤ s0.length + s1.length ∧ U4 y.1 := by
  induction N using Nat.strongRecOn with
  | ind N ih =>
    intro s0 s1 s5 s6 p0 p1 p2 p3 p4 p5 p6 p7 hN
    rw [P103_116b]
    exact w_ip (fun h1 => by (try simp (disch := omega) only [i64_id] at h1); exact w_ip (fun h2 => w_gp ob12 (w_eq (P103_3731b _ _ _ _ _) (w_bd (c104 ob12 ob12) (fun y0 q3 => w_bd (c104 ob12 ob12) (fun y1 q4 => w_ip (fun h5 => w_bd (c156u ob12 ob12 ob12) (fun y2 ⟨q6_0, q6_1⟩ => w_eq (P103_467b _ _ _ _) (ih (N - 1) ob12 ob12 ob12 ob12 ob12 ob12 ob12 ob12 ob12 ob12))) (fun h5 => w_eq (P103_467b _ _ _ _) (ih (N - 1) ob12 ob12 ob12 ob12 ob12 ob12 ob12 ob12 ob12 ob12))))))) (fun h2 => w_gp ob12 (w_eq (P103_3731b _ _ _ _ _) (w_bd (c104 ob12 ob12) (fun y0 q7 => w_bd (c104 ob12 ob12) (fun y1 q8 => w_ip (fun h9 => w_bd (c156u ob12 ob12 ob12) (fun y2 ⟨q10_0, q10_1⟩ => w_eq (P103_467b _ _ _ _) (ih (N - 1) ob12 ob12 ob12 ob12 ob12 ob12 ob12 ob12 ob12 ob12))) (fun h9 => w_eq (P103_467b _ _ _ _) (ih (N - 1) ob12 ob12 ob12 ob12 ob12 ob12 ob12 ob12 ob12 ob12)))))))) (fun h1 => by (try simp (disch := omega) only [i64_id] at h1); exact w_eq (P103_15b _) (w_some o_mwn5ay))
theorem w103_116 (N : Nat) : ∀ {s0 : List Fw.Cell} {s1 : List Fw.Cell} {s6 : Int} {e0 : List ByteArray} (p0 : 0 ≤ s6) (p1 : s6 ≤ s0.length + s1.length) (p2 : s0.length ≤ 1000) (p3 : s1.length ≤ 1000000001000) (p4 : KZ s0) (p5 : KZ s1) (p6 : (e0.length : Int) ≤ s6) (p7 : U4 e0) (hN : s0.length + s1.length - s6 ≤ (N : Int)), Wp (L103_116 s0 s1 s6 e0) fun y => y.1.length ≤ s0.length + s1.length ∧ U4 y.1 := by
  induction N using Nat.strongRecOn with
  | ind N ih =>
    intro s0 s1 s6 e0 p0 p1 p2 p3 p4 p5 p6 p7 hN
    rw [P103_116]
    exact w_ip (fun h1 => by (try simp (disch := omega) only [i64_id] at h1); exact w_ip (fun h2 => w_gp ob12 (w_eq (P103_3731 _ _ _ _ _) (w_bd (c104 ob12 ob12) (fun y0 q3 => w_bd (c104 ob12 ob12) (fun y1 q4 => w_ip (fun h5 => w_bd (c156u ob12 ob12 ob12) (fun y2 ⟨q6_0, q6_1⟩ => w_eq (P103_467b _ _ _ _) ((w103_116b _ ob12 ob12 ob12 ob12 ob12 ob12 ob12 ob12 (Int.self_le_toNat _)).mono (fun y ⟨q7_0, q7_1⟩ => o_mwn5ay)))) (fun h5 => w_eq (P103_467 _ _ _ _) (ih (N - 1) ob12 ob12 ob12 ob12 ob12 ob12 ob12 ob12 ob12 ob12))))))) (fun h2 => w_gp ob12 (w_eq (P103_3731 _ _ _ _ _) (w_bd (c104 ob12 ob12) (fun y0 q8 => w_bd (c104 ob12 ob12) (fun y1 q9 => w_ip (fun h10 => w_bd (c156u ob12 ob12 ob12) (fun y2 ⟨q11_0, q11_1⟩ => w_eq (P103_467b _ _ _ _) ((w103_116b _ ob12 ob12 ob12 ob12 ob12 ob12 ob12 ob12 (Int.self_le_toNat _)).mono (fun y ⟨q12_0, q12_1⟩ => o_mwn5ay)))) (fun h10 => w_eq (P103_467 _ _ _ _) (ih (N - 1) ob12 ob12 ob12 ob12 ob12 ob12 ob12 ob12 ob12 ob12)))))))) (fun h1 => by (try simp (disch := omega) only [i64_id] at h1); exact w_eq (P103_15 _) (w_some o_mwn5ay))
theorem c103 {x0 : List Fw.Cell} {x1 : List Fw.Cell} (p0 : x0.length ≤ 1000) (p1 : x1.length ≤ 1000000001000) (p2 : KZ x0) (p3 : KZ x1) : Wp (D103 x0 x1) fun y => y.1.length ≤ x0.length + x1.length ∧ U4 y.1 := by
  rw [E103]
  exact (w103_116 _ ob12 ob12 ob12 ob12 ob12 ob12 ob12 ob12 (Int.self_le_toNat _)).mono (fun y ⟨q1_0, q1_1⟩ => o_mwn5ay)
theorem w66_244 (N : Nat) : ∀ {s1 : List Fw.Cell} {s6 : List ByteArray} {s7 : Int} {e0 : List Fw.Cell} (p0 : 0 ≤ s7) (p1 : s7 ≤ s6.length) (p2 : s6.length ≤ 2000000000000) (p3 : U4 s6) (p4 : s1.length ≤ 1000000001000) (p5 : KZ s1) (p6 : (e0.length : Int) ≤ s7) (p7 : KZ e0) (hN : s6.length - s7 ≤ (N : Int)), Wp (L66_244 s1 s6 s7 e0) fun y => y.1.length ≤ s6.length ∧ KZ y.1 := by
  induction N using Nat.strongRecOn with
  | ind N ih =>
    intro s1 s6 s7 e0 p0 p1 p2 p3 p4 p5 p6 p7 hN
    rw [P66_244]
    exact w_ip (fun h1 => w_gp ob12 (w_gp ob12 (w_bd (c104 ob12 ob12) (fun y0 q2 => w_gp ob12 (ih (N - 1) ob12 ob12 ob12 ob12 ob12 ob12 ob12 ob12 ob12 ob12))))) (fun h1 => w_eq (P66_31 _) (w_some o_mwn5ay))
theorem c66 {x0 : List Fw.Cell} {x1 : List Fw.Cell} (p0 : x0.length ≤ 1000) (p1 : x1.length ≤ 1000000001000) (p2 : KZ x0) (p3 : KZ x1) : Wp (D66 x0 x1) fun y => y.1.length ≤ x0.length + x1.length ∧ KZ y.1 := by
  rw [E66]
  exact w_bd (c103 ob12 ob12 ob12 ob12) (fun y0 ⟨q1_0, q1_1⟩ => (w66_244 _ ob12 ob12 ob12 ob12 ob12 ob12 ob12 ob12 (Int.self_le_toNat _)).mono (fun y ⟨q2_0, q2_1⟩ => o_mwn5ay))
theorem c63{t : Nat} {x0 : List Fw.Cell} {x1 : Fw.Tx} (p0 : x0.length ≤ 900) (p1 : KZ x0) (p2 : XB t x1) : Wp (D63 x0 x1) fun y => True := by
  rw [E63]
  have h1 := p2.c
  have h2 := p2.ci
  have h3 := p2.p
  exact w_bd (c98 o_w5g9ug o_w5g9ug o_w5g9ug o_w5g9ug o_w5g9ug) (fun y0 ⟨q1_0, q1_1⟩ => w_bd (c66 o_w5g9ug o_w5g9ug o_w5g9ug o_w5g9ug) (fun y1 ⟨q2_0, q2_1⟩ => w_bd (c68 o_w5g9ug o_w5g9ug) (fun y2 ⟨q3_0, q3_1⟩ => w_some trivial)))
theorem c84{n t : Nat} {x0 : Fw.Kernel} {x1 : Int} (p0 : KB n t x0) (p1 : n ≤ 900) (p2 : t ≤ 800000000000) : Wp (D84 x0 x1) fun y => KB (n + 1) t y.1 := by
  rw [E84]
  have h1 := p0.xn
  have h2 := p0.x
  have h3 := p0.kz
  have h4 := p0.hn
  have h5 := p0.h
  exact w_be (c40 (n := n) (t := t) o_qwdqdd o_qwdqdd o_qwdqdd) (by (try dsimp only); exact (w_bd (c57 (n := n) (t := t) o_qwdqdd o_qwdqdd o_qwdqdd) (fun y1 q2 => w_ip (fun h3 => w_some o_g653pb) (fun h3 => w_bd (c58 o_qwdqdd) (fun y2 ⟨q4_0, q4_1⟩ => w_ip (fun h5 => w_some o_g653pb) (fun h5 => w_gp o_qwdqdd (w_bd (c128 (t := t) o_qwdqdd o_qwdqdd o_qwdqdd o_qwdqdd) (fun y3 ⟨q6_0, q6_1⟩ => w_bd (c66 o_qwdqdd o_qwdqdd o_qwdqdd o_qwdqdd) (fun y4 ⟨q7_0, q7_1⟩ => w_bd (c69 (n := n) (t := t) o_qwdqdd o_qwdqdd o_qwdqdd o_qwdqdd o_qwdqdd) (fun y5 ⟨q8_0, q8_1, q8_2⟩ => w_ip (fun h9 => w_some o_g653pb) (fun h9 => w_gp o_qwdqdd (w_bd (c129 o_qwdqdd o_qwdqdd o_qwdqdd) (fun y6 ⟨q10_0, q10_1⟩ => w_gp o_qwdqdd (w_gp o_qwdqdd (w_some o_g653pb)))))))))))))))
theorem c42{n t : Nat} {x0 : Fw.Kernel} {x1 : Int} {x2 : Fw.Call} (p0 : KB n t x0) (p1 : n ≤ 900) (p2 : t ≤ 800000000000) (p3 : x2.A.natAbs ≤ 4000000000) (p4 : x2.B.natAbs ≤ 4000000000) : Wp (D42 x0 x1 x2) fun y => KB (n + 1) (t + 28700000300) y.1 := by
  rw [E42]
  have h1 := p0.xn
  have h2 := p0.x
  have h3 := p0.kz
  have h4 := p0.hn
  have h5 := p0.h
  exact w_be (c40 (n := n) (t := t) o_v363xx o_v363xx o_v363xx) (by (try dsimp only); exact (w_bd (c57 (n := n) (t := t) o_v363xx o_v363xx o_v363xx) (fun y1 q2 => w_ip (fun h3 => w_some o_frhb0k) (fun h3 => w_bd (c58 o_v363xx) (fun y2 ⟨q4_0, q4_1⟩ => w_ip (fun h5 => w_some o_frhb0k) (fun h5 => w_gp o_v363xx (w_ip (fun h6 => w_some o_frhb0k) (fun h6 => w_gp o_v363xx (w_gp o_v363xx (w_bd (c60 o_v363xx o_v363xx o_v363xx o_v363xx o_v363xx o_v363xx o_v363xx) (fun y3 q7 => w_bd (c59 (t := t) (b := 28700000300) o_v363xx o_v363xx o_v363xx o_v363xx o_v363xx) (fun y4 q8 => w_ip (fun h9 => w_some o_frhb0k) (fun h9 => w_bd (c61 (t := t) o_v363xx o_v363xx o_v363xx o_v363xx) (fun y5 ⟨q10_0, q10_1⟩ => w_gp o_v363xx (w_bd (c62 (t := t) o_v363xx o_v363xx o_v363xx o_v363xx o_v363xx o_v363xx) (fun y6 q11 => w_bd (c63 (t := t + 28700000300) o_v363xx o_v363xx o_v363xx) (fun y7 _ => w_be (c27) (by (try dsimp only); exact (w_ip (fun h14 => w_some o_frhb0k) (fun h14 => w_gp o_v363xx (w_some o_frhb0k)))))))))))))))))))))
theorem c125{t : Nat} {x0 : Fw.Kernel} {x1 : Int} (p0 : x0.Txs.length ≤ 1000) (p1 : XL t x0.Txs) (p2 : t ≤ 1000000000000) : Wp (D125 x0 x1) fun y => y.1.Proc.natAbs ≤ 4000000000 := by
  rw [E125]
  exact w_bd (c93 o_inccrn) (fun y0 ⟨q1_0, q1_1⟩ => w_ip (fun h2 => w_some o_57g74l) (fun h2 => w_gp o_inccrn (w_be (c92 (t := t) o_inccrn o_inccrn) (by (try dsimp only); exact (w_some o_57g74l)))))
end Go.Proofs.YtdghkmbppfmifaaGreatDoor.Ri

namespace Go.Proofs.YtdghkmbppfmifaaGreatDoor.Ri
open Go.Proofs.YtdghkmbppfmifaaGreatDoor.Fw
set_option linter.unusedVariables false
set_option linter.unusedSimpArgs false
set_option maxRecDepth 100000
theorem KB.up {n t : Nat} {k : Fw.Kernel} (p0 : KB n t k) : KB (n + 1) t k := ⟨p0.s, p0.kz, p0.x, Nat.le_succ_of_le p0.xn, p0.d, p0.dn, p0.h, Nat.le_succ_of_le p0.hn, Nat.le_trans p0.se (by omega), p0.j⟩
theorem KB.txs {n t : Nat} {k : Fw.Kernel} {l : List Fw.Tx} (p0 : KB n t k) (hl : XL t l) (hn : l.length ≤ n) : KB n t { k with Txs := l } := ⟨p0.s, p0.kz, hl, hn, p0.d, p0.dn, p0.h, p0.hn, p0.se, p0.j⟩
theorem KB.put {n t : Nat} {k : Fw.Kernel} {s : List Fw.Cell} {tm : Int} {e : Fw.Entry} (p0 : KB n t k) (hs : s.length ≤ 1000000000000) (hz : KZ s) (h1 : e.Steps.length ≤ 1000) (h2 : e.Answers.length ≤ 1000000000000) : KB (n + 1) t { k with Store := s, Time := tm, History := k.History ++ [e] } :=
  ⟨hs, hz, p0.x, Nat.le_succ_of_le p0.xn, p0.d, p0.dn, EnL.app p0.h h1 h2, by rw [List.length_append]; exact Nat.succ_le_succ p0.hn, Nat.le_trans p0.se (by omega), p0.j⟩
theorem XB.new {t : Nat} (a b c d : Int) (s : Int) (hc : c.natAbs ≤ 4000000000) : XB t ⟨a, b, c, d, [], [], ⟨[], []⟩, [], s⟩ := ⟨Nat.zero_le _, CallsI.nil, Nat.zero_le _, ⟨Nat.zero_le _, Nat.zero_le _, TZ.nil, TZ.nil⟩, Nat.zero_le _, hc⟩
theorem o_3nl2r2 {p : Prop} (h : p := by first | assumption | omega | exact KB.txs p0 (by assumption) (by omega) | exact ob12) : p := h
theorem o_d4y67v {p : Prop} (h : p := by (try dsimp only); first | exact KB.up p0 | exact KB.put (by assumption) (by omega) (by assumption) (by decide) (by decide) | exact KB.put (by assumption) (by omega) (by assumption) (Nat.le_of_ble_eq_true rfl) (Nat.le_of_ble_eq_true rfl)) : p := h
theorem o_1wu6bc {p : Prop} (h : p := by (try dsimp only); exact ⟨p0.s, p0.kz, XL.app p0.x (XB.new _ _ _ _ _ (by assumption)), by dsimp only; rw [List.length_append]; exact Nat.succ_le_succ h1, p0.d, p0.dn, p0.h, Nat.le_succ_of_le p0.hn, Nat.le_trans p0.se (by omega), p0.j⟩) : p := h
theorem o_rqp0xk {p : Prop} (h : p := by first | assumption | omega | (left; omega) | exact ob12) : p := h
theorem o_chj5xw {p : Prop} (h : p := by (try dsimp only); first | assumption | exact KB.up (by assumption)) : p := h
theorem o_eej6a {p : Prop} (h : p := by first | assumption | omega | (simp only [tx_size, List.length_cons, List.length_nil]; omega) | exact ob12) : p := h
theorem o_2o45dp {p : Prop} (h : p := by (try dsimp only); first | assumption | exact KB.up p0) : p := h
theorem o_cmi1rw {p : Prop} (h : p := by first | assumption | omega | exact ob12) : p := h
theorem c43{n t : Nat} {x0 : Fw.Kernel} {x1 : Int} {x2 : Fw.Call} (p0 : KB n t x0) (p1 : n ≤ 900) (p2 : t ≤ 800000000000) (p3 : x1.natAbs ≤ 4000000000) (p4 : x2.A.natAbs ≤ 4000000000) (p5 : x2.B.natAbs ≤ 4000000000) : Wp (D43 x0 x1 x2) fun y => KB (n + 1) t y.1 := by
  rw [E43]
  have h1 := p0.xn
  have h2 := p0.x
  have h3 := p0.kz
  have h4 := p0.hn
  have h5 := p0.h
  exact w_be (c40 (n := n) (t := t) o_3nl2r2 o_3nl2r2 o_3nl2r2) (by (try dsimp only); exact (w_bd (c57 (n := n) (t := t) o_3nl2r2 o_3nl2r2 o_3nl2r2) (fun y1 q2 => w_ip (fun h3 => w_some o_d4y67v) (fun h3 => w_bd (c64 (s := 900) o_3nl2r2 o_3nl2r2 o_3nl2r2 o_3nl2r2 o_3nl2r2 o_3nl2r2) (fun y2 ⟨q4_0, q4_1, q4_2⟩ => w_be (c40 (n := n) (t := t) o_3nl2r2 o_3nl2r2 o_3nl2r2) (by (try dsimp only); exact (w_bd (c65 (t := t) (b := 6600) o_3nl2r2 o_3nl2r2 o_3nl2r2 o_3nl2r2 o_3nl2r2) (fun y4 q6 => w_bd (c61 (t := t) o_3nl2r2 o_3nl2r2 o_3nl2r2 o_3nl2r2) (fun y5 ⟨q7_0, q7_1⟩ => w_bd (c66 o_3nl2r2 o_3nl2r2 o_3nl2r2 o_3nl2r2) (fun y6 ⟨q8_0, q8_1⟩ => w_ip (fun h9 => w_bd (c68 o_3nl2r2 o_3nl2r2) (fun y8 ⟨q10_0, q10_1⟩ => w_bd (c67 o_3nl2r2) (fun y9 _ => w_ip (fun h12 => w_some o_d4y67v) (fun h12 => w_bd (c69 (n := n) (t := t) o_3nl2r2 o_3nl2r2 o_3nl2r2 o_3nl2r2 o_3nl2r2) (fun y10 ⟨q13_0, q13_1, q13_2⟩ => w_ip (fun h14 => w_some o_d4y67v) (fun h14 => w_gp o_3nl2r2 (w_some o_d4y67v))))))) (fun h9 => w_bd (c69 (n := n) (t := t) o_3nl2r2 o_3nl2r2 o_3nl2r2 o_3nl2r2 o_3nl2r2) (fun y7 ⟨q15_0, q15_1, q15_2⟩ => w_ip (fun h16 => w_some o_d4y67v) (fun h16 => w_gp o_3nl2r2 (w_some o_d4y67v))))))))))))))
theorem w79_63{n t : Nat} {s1 : Int} {s2 : Int} {e0_3 : ByteArray} {e0_4 : Int} {e0_5 : Int} {e0_6 : Int} {e0_7 : Int} {e0_10 : Bool} {e1 : List Fw.Cell} {e2 : List Fw.Tx} {e3 : List Fw.Slot} {e4 : List Fw.Entry} {e5 : List ByteArray} {e6_3 : ByteArray} {e6_4 : Int} {e6_5 : Int} {e6_6 : Int} {e6_7 : Int} {e6_10 : Bool} (p0 : KB n t ⟨e1, e2, ⟨e3, ⟨e0_3, e0_4⟩⟩, e0_5, e0_6, e0_7, e4, e5, e0_10⟩) (p1 : n ≤ 900) (p2 : s1.natAbs ≤ 4000000000) : Wp (L79_63 s1 s2 e0_3 e0_4 e0_5 e0_6 e0_7 e0_10 e1 e2 e3 e4 e5 e6_3 e6_4 e6_5 e6_6 e6_7 e6_10) fun y => KB (n + 1) t y.1 := by
  rw [P79_63]
  have h1 : e2.length ≤ n := p0.xn
  exact w_be (c124) (by (try dsimp only); exact (w_gp ob12 (w_some o_1wu6bc)))
theorem w79_31{n t : Nat} {s1 : Int} {s2 : Int} {e0_3 : ByteArray} {e0_4 : Int} {e0_5 : Int} {e0_6 : Int} {e0_7 : Int} {e0_10 : Bool} {e1 : List Fw.Cell} {e2 : List Fw.Tx} {e3 : List Fw.Slot} {e4 : List Fw.Entry} {e5 : List ByteArray} {e6_3 : ByteArray} {e6_4 : Int} {e6_5 : Int} {e6_6 : Int} {e6_7 : Int} {e6_10 : Bool} (p0 : KB n t ⟨e1, e2, ⟨e3, ⟨e0_3, e0_4⟩⟩, e0_5, e0_6, e0_7, e4, e5, e0_10⟩) (p1 : n ≤ 900) (p2 : s1.natAbs ≤ 4000000000) (p3 : e2.length ≤ 1000) : Wp (L79_31 s1 s2 e0_3 e0_4 e0_5 e0_6 e0_7 e0_10 e1 e2 e3 e4 e5 e6_3 e6_4 e6_5 e6_6 e6_7 e6_10) fun y => KB (n + 1) t y.1 := by
  rw [P79_31]
  exact w_ip (fun h1 => w_bd (c123 ob12) (fun y0 _ => (w79_63 (n := n) (t := t) ob12 ob12 ob12).mono (fun y q3 => o_21uf74))) (fun h1 => (w79_63 (n := n) (t := t) ob12 ob12 ob12).mono (fun y q4 => o_21uf74))
theorem w79_244{n t : Nat} (N : Nat) : ∀ {s1 : Int} {s2 : Int} {s9 : Int} {e0_3 : ByteArray} {e0_4 : Int} {e0_5 : Int} {e0_6 : Int} {e0_7 : Int} {e0_10 : Bool} {e1 : List Fw.Cell} {e2 : List Fw.Tx} {e3 : List Fw.Slot} {e4 : List Fw.Entry} {e5 : List ByteArray} {e6_3 : ByteArray} {e6_4 : Int} {e6_5 : Int} {e6_6 : Int} {e6_7 : Int} {e6_10 : Bool} (p0 : 0 ≤ s9) (p1 : s9 ≤ e2.length) (p2 : KB n t ⟨e1, e2, ⟨e3, ⟨e0_3, e0_4⟩⟩, e0_5, e0_6, e0_7, e4, e5, e0_10⟩) (p3 : n ≤ 900) (p4 : s1.natAbs ≤ 4000000000) (p5 : e2.length ≤ 1000) (hN : e2.length - s9 ≤ (N : Int)), Wp (L79_244 s1 s2 s9 e0_3 e0_4 e0_5 e0_6 e0_7 e0_10 e1 e2 e3 e4 e5 e6_3 e6_4 e6_5 e6_6 e6_7 e6_10) fun y => KB (n + 1) t y.1 := by
  induction N using Nat.strongRecOn with
  | ind N ih =>
    intro s1 s2 s9 e0_3 e0_4 e0_5 e0_6 e0_7 e0_10 e1 e2 e3 e4 e5 e6_3 e6_4 e6_5 e6_6 e6_7 e6_10 p0 p1 p2 p3 p4 p5 hN
    rw [P79_244]
    exact w_ip (fun h1 => w_gp o_rqp0xk (w_gp o_rqp0xk (w_ip (fun h2 => w_some o_chj5xw) (fun h2 => ih (N - 1) o_rqp0xk o_rqp0xk o_rqp0xk o_rqp0xk o_rqp0xk o_rqp0xk o_rqp0xk ob12)))) (fun h1 => (w79_31 (n := n) (t := t) o_rqp0xk o_rqp0xk o_rqp0xk o_rqp0xk).mono (fun y q3 => o_chj5xw))
theorem c79{n t : Nat} {x0 : Fw.Kernel} {x1 : Int} {x2 : Int} (p0 : KB n t x0) (p1 : n ≤ 900) (p2 : t ≤ 800000000000) (p3 : x1.natAbs ≤ 4000000000) : Wp (D79 x0 x1 x2) fun y => KB (n + 1) t y.1 := by
  rw [E79]
  have h1 := p0.xn
  have h2 := p0.x
  have h3 := p0.kz
  have h4 := p0.hn
  have h5 := p0.h
  have h6 := p0.s
  exact w_be (c40 (n := n) (t := t) o_eej6a o_eej6a o_eej6a) (by (try dsimp only); exact (w_bd (c57 (n := n) (t := t) o_eej6a o_eej6a o_eej6a) (fun y1 q2 => w_ip (fun h3 => w_some o_2o45dp) (fun h3 => w_bd (c121 o_eej6a) (fun y2 _ => w_ip (fun h5 => w_bd (c67 o_eej6a) (fun y3 _ => w_ip (fun h7 => w_some o_2o45dp) (fun h7 => w_bd (c112 o_eej6a o_eej6a o_eej6a o_eej6a) (fun y4 q8 => w_bd (c104 o_eej6a o_eej6a) (fun y5 q9 => w_bd (c122 o_eej6a o_eej6a) (fun y6 q10 => w_ip (fun h11 => w_some o_2o45dp) (fun h11 => (w79_244 (n := n) (t := t) _ o_eej6a o_eej6a o_eej6a o_eej6a o_eej6a o_eej6a (Int.self_le_toNat _)).mono (fun y q12 => o_2o45dp)))))))) (fun h5 => w_some o_2o45dp))))))
theorem c80{n t : Nat} {x0 : Fw.Kernel} {x1 : Int} (p0 : KB n t x0) (p1 : n ≤ 900) (p2 : t ≤ 800000000000) : Wp (D80 x0 x1) fun y => KB (n + 1) t y.1 := by
  rw [E80]
  have h1 := p0.xn
  have h2 := p0.x
  have h3 := p0.kz
  have h4 := p0.hn
  have h5 := p0.h
  exact w_bd (c125 (t := t) o_cmi1rw o_cmi1rw o_cmi1rw) (fun y0 q1 => w_ip (fun h2 => w_be (c40 (n := n) (t := t) o_cmi1rw o_cmi1rw o_cmi1rw) (by (try dsimp only); exact (w_some o_2o45dp))) (fun h2 => w_bd (c79 (n := n) (t := t) o_cmi1rw o_cmi1rw o_cmi1rw o_cmi1rw) (fun y1 q4 => w_some o_2o45dp)))
end Go.Proofs.YtdghkmbppfmifaaGreatDoor.Ri

namespace Go.Proofs.YtdghkmbppfmifaaGreatDoor.Ri
open Go.Proofs.YtdghkmbppfmifaaGreatDoor.Fw
set_option linter.unusedVariables false
set_option linter.unusedSimpArgs false
set_option maxRecDepth 100000
def JnOk (j : Fw.Journal) : Prop := j.Text.size ≤ 20000 ∧ 0 ≤ j.Sure ∧ j.Sure ≤ j.Text.size
def DkOk (x : Fw.Disk) : Prop := x.Slots.length = 2 ∧ JnOk x.Journal ∧ ∀ z, D114 x = some z → 0 ≤ z.1
theorem c114s {x0 : Fw.Disk} (p0 : x0.Slots.length ≤ 1000) : Wp (D114 x0) fun y => -1 ≤ y.1 ∧ y.1 < x0.Slots.length ∧ D114 x0 = some y := (c114 p0).self.mono fun y h => ⟨h.1.1, h.1.2, h.2⟩
theorem DkOk.best {x : Fw.Disk} (h : DkOk x) {z : Int × Unit} (hz : D114 x = some z) : 0 ≤ z.1 := h.2.2 z hz
theorem o_evrvmf {p : Prop} (h : p := by (try dsimp only); (intro hh; first | (simp at hh; exact ⟨by omega, by omega, by omega⟩) | simp at hh)) : p := h
theorem o_noitie {p : Prop} (h : p := by first | assumption | omega | exact Nat.le_trans (SlL.nth (by assumption) (by omega)).1 (by decide) | exact (SlL.nth (by assumption) (by omega)).2 | exact ob12) : p := h
theorem o_7qd4bg {p : Prop} (h : p := by (try dsimp only); (intro hh; first | (simp at hh; done) | exact ⟨by dsimp only; omega, (‹_ = true → JnOk _›) hh, fun z hz => by have e := Option.some.inj (q8_2.symm.trans hz); rw [← e]; exact h9⟩)) : p := h
theorem o_m0fnwx {p : Prop} (h : p := by (try dsimp only); first | assumption | exact Nat.le_trans (cutS_len _ _ _) (by assumption)) : p := h
theorem o_8esc20 {p : Prop} (h : p := by first | assumption | omega | (have hj := q1 (Classical.not_not.1 h2); obtain ⟨g1, g2, g3⟩ := hj; simp (disch := omega) only [i64_id] at q3; have hq := q3 (by omega); first | omega | (simp (disch := omega) only [i64_id]; omega)) | exact ob12) : p := h
theorem c110t {x0 : Fw.Journal} : Wp (D110 x0) fun y => (y.1 = true → JnOk x0) := by
  rw [E110]
  exact w_ip (fun h1 => w_be (c27) (by (try dsimp only); exact (w_some o_evrvmf))) (fun h1 => w_some o_evrvmf)
theorem w95t (N : Nat) : ∀ {s3 : Int} {e0_0 : List Fw.Slot} {e0_1 : ByteArray} {e0_2 : Int} (p0 : 0 ≤ s3) (p1 : s3 ≤ e0_0.length) (p2 : e0_0.length ≤ 1000) (p3 : SlL e0_0) (hN : e0_0.length - s3 ≤ (N : Int)), Wp (L95_52 s3 e0_0 e0_1 e0_2) fun y => (y.1 = true → DkOk ⟨e0_0, ⟨e0_1, e0_2⟩⟩) := by
  induction N using Nat.strongRecOn with
  | ind N ih =>
    intro s3 e0_0 e0_1 e0_2 p0 p1 p2 p3 hN
    rw [P95_52]
    exact w_ip (fun h1 => w_gp o_noitie (w_ip (fun h2 => w_be (c27) (by (try dsimp only); exact (w_ip (fun h4 => w_bd (c94 o_noitie o_noitie) (fun y1 q5 => w_ip (fun h6 => w_some o_7qd4bg) (fun h6 => ih (N - 1) o_noitie o_noitie o_noitie o_noitie o_noitie ob12))) (fun h4 => w_np o_noitie (w_gp o_noitie (w_some o_7qd4bg)))))) (fun h2 => ih (N - 1) o_noitie o_noitie o_noitie o_noitie o_noitie ob12))) (fun h1 => w_eq (P95_7 _ _ _) (w_ip (fun h7 => w_bd (c114s o_noitie) (fun y0 ⟨q8_0, q8_1, q8_2⟩ => w_ip (fun h9 => w_bd (c110t) (fun y1 q10 => w_some o_7qd4bg)) (fun h9 => w_some o_7qd4bg))) (fun h7 => w_some o_7qd4bg)))
theorem c95t {x0 : Fw.Disk} (p0 : x0.Slots.length ≤ 1000) (p1 : SlL x0.Slots) : Wp (D95 x0) fun y => (y.1 = true → DkOk x0) := by
  rw [E95]
  exact (w95t _ ob12 ob12 ob12 ob12 (Int.self_le_toNat _)).mono (fun y q1 => o_21uf74)
theorem c119 {x0 : Fw.Journal} {x1 : Int} (p0 : x0.Text.size ≤ 1000000) : Wp (D119 x0 x1) fun y => y.1.Text.size ≤ 1000000 := by
  rw [E119]
  exact w_bd (c110t) (fun y0 q1 => w_ip (fun h2 => w_some o_m0fnwx) (fun h2 => w_bd (c106) (fun y1 q3 => w_gp o_8esc20 (w_some o_m0fnwx))))
end Go.Proofs.YtdghkmbppfmifaaGreatDoor.Ri

namespace Go.Proofs.YtdghkmbppfmifaaGreatDoor.Ri
open Go.Proofs.YtdghkmbppfmifaaGreatDoor.Fw
set_option linter.unusedVariables false
set_option linter.unusedSimpArgs false
set_option maxRecDepth 100000
def szs : List ByteArray → Nat
  | [] => 0
  | a :: l => a.size + szs l
theorem szs_app (a b : List ByteArray) : szs (a ++ b) = szs a + szs b := by
  induction a with
  | nil => simp [szs]
  | cons x a ih => simp only [List.cons_append, szs, ih]; omega
theorem szs_take (l : List ByteArray) (i : Nat) : szs (l.take i) ≤ szs l := by
  have h := szs_app (l.take i) (l.drop i)
  rw [List.take_append_drop] at h
  omega
theorem szs_nth {l : List ByteArray} {i : Nat} (h : i < l.length) : szs (l.take (i + 1)) = szs (l.take i) + (nth l i).size := by
  rw [List.take_succ_eq_append_getElem h, szs_app]
  have e : nth l i = l[i] := by unfold nth; simp [h]
  rw [e]
  rfl
theorem cutS_size (s : ByteArray) (i j : Nat) : (cutS s i j).size = min j s.size - i := by unfold cutS; rw [ByteArray.size_extract]
theorem szs_one (a : ByteArray) : szs [a] = a.size := rfl
theorem o_l9vu2y {p : Prop} (h : p := by first | assumption | omega | (rw [szs_app, szs_one, cutS_size]; simp (disch := omega) only [i64_id]; omega) | exact ob12) : p := h
theorem o_ok3k2u {p : Prop} (h : p := by first | assumption | omega | rfl | exact ob12) : p := h
theorem w116_244 (N : Nat) : ∀ {s0 : ByteArray} {s4 : Int} {s5 : Int} {e0 : List ByteArray} (p0 : 0 ≤ s4) (p1 : s4 ≤ s5) (p2 : s5 ≤ s0.size) (p3 : s0.size ≤ 1000000) (p4 : (szs e0 : Int) = s4) (p5 : (e0.length : Int) ≤ s5) (hN : s0.size - s5 ≤ (N : Int)), Wp (L116_244 s0 s4 s5 e0) fun y => szs y.1 ≤ s0.size ∧ y.1.length ≤ s0.size := by
  induction N using Nat.strongRecOn with
  | ind N ih =>
    intro s0 s4 s5 e0 p0 p1 p2 p3 p4 p5 hN
    rw [P116_244]
    exact w_ip (fun h1 => w_gp o_l9vu2y (w_ip (fun h2 => w_gp o_l9vu2y (w_gp o_l9vu2y (w_eq (P116_979 _ _ _ _) (ih (N - 1) o_l9vu2y o_l9vu2y o_l9vu2y o_l9vu2y o_l9vu2y o_l9vu2y o_l9vu2y ob12)))) (fun h2 => w_eq (P116_979 _ _ _ _) (ih (N - 1) o_l9vu2y o_l9vu2y o_l9vu2y o_l9vu2y o_l9vu2y o_l9vu2y o_l9vu2y ob12)))) (fun h1 => w_eq (P116_31 _) (w_some o_3ng6n5))
theorem c116 {x0 : ByteArray} (p0 : x0.size ≤ 1000000) : Wp (D116 x0) fun y => szs y.1 ≤ x0.size ∧ y.1.length ≤ x0.size := by
  rw [E116]
  exact (w116_244 _ o_ok3k2u o_ok3k2u o_ok3k2u o_ok3k2u o_ok3k2u o_ok3k2u (Int.self_le_toNat _)).mono (fun y ⟨q1_0, q1_1⟩ => o_6mduzb)
end Go.Proofs.YtdghkmbppfmifaaGreatDoor.Ri

namespace Go.Proofs.YtdghkmbppfmifaaGreatDoor.Ri
open Go.Proofs.YtdghkmbppfmifaaGreatDoor.Fw
set_option linter.unusedVariables false
set_option linter.unusedSimpArgs false
set_option maxRecDepth 100000
def KW (l : List Fw.Cell) : Prop := ∀ c ∈ l, c.Key.size ≤ 5000 ∧ c.Val.size ≤ 5000
theorem KW.nil : KW [] := fun c h => by cases h
theorem KW.nth {l : List Fw.Cell} (h : KW l) {i : Nat} (hi : i < l.length) : (nth l i).Key.size ≤ 5000 ∧ (nth l i).Val.size ≤ 5000 := h _ (nth_mem hi)
theorem KW.app1 {l : List Fw.Cell} {k v : ByteArray} (h : KW l) (hk : k.size ≤ 5000) (hv : v.size ≤ 5000) : KW (l ++ [⟨k, v⟩]) := fun c hc => (List.mem_append.1 hc).elim (h c) fun e => by rw [List.mem_singleton.1 e]; exact ⟨hk, hv⟩
def KT (l : List Fw.Cell) (i : Int) : Prop := ∀ j : Nat, (j : Int) < i → (nth l j).Key.size ≤ 40 ∧ (nth l j).Val.size ≤ 60
theorem KT.z (l : List Fw.Cell) : KT l 0 := fun j h => by omega
theorem KT.step {l : List Fw.Cell} {i : Int} (h : KT l i) (h0 : 0 ≤ i) (h1 : i ≤ 5000000000000) (hk : (nth l i.toNat).Key.size ≤ 40) (hv : (nth l i.toNat).Val.size ≤ 60) : KT l (IntKind.wrap .i64 (i + 1)) := fun j hj => by
  rw [i64_id (by omega) (by omega)] at hj
  by_cases e : (j : Int) = i
  · have : j = i.toNat := by omega
    rw [this]; exact ⟨hk, hv⟩
  · exact h j (by omega)
theorem KT.all {l : List Fw.Cell} {i : Int} (h : KT l i) (hi : l.length ≤ i) : KZ l := fun c hc => by
  obtain ⟨j, hj, e⟩ := List.getElem_of_mem hc
  have h' := h j (by omega)
  have e' : nth l j = l[j] := by unfold Fw.nth; simp [hj]
  rw [e', e] at h'
  exact h'
theorem o_kwuj4a {p : Prop} (h : p := by first | assumption | omega | (have hk := KW.nth (by assumption) (i := s6.toNat) (by omega : _ < s1.length); first | omega | (simp only [List.length_append, List.length_cons, List.length_nil, List.length_map, sbytes_len, ↓Bool.and_eq_true, ↓decide_eq_true_eq]; omega)) | (have hk1 := q2 (Classical.not_not.1 fun hc => h3 (Or.inl (Or.inl hc))); simp only [List.length_append, List.length_cons, List.length_nil, List.length_map, sbytes_len]; omega) | (left; omega) | exact KT.step (by assumption) (by omega) (by omega) (q2 (Classical.not_not.1 fun hc => h3 (Or.inl (Or.inl hc)))) (by omega) | exact ob12) : p := h
theorem o_n75nr7 {p : Prop} (h : p := by (try dsimp only); first | exact ⟨by decide, fun h => absurd rfl h⟩ | exact ⟨by assumption, fun _ => KT.all (by assumption) (by omega)⟩) : p := h
theorem o_uvrgf6 {p : Prop} (h : p := by (try dsimp only); first | exact ⟨by decide, fun h => absurd rfl h⟩ | exact ⟨by assumption, by assumption⟩) : p := h
theorem o_zu2bwc {p : Prop} (h : p := by first | assumption | omega | (rw [List.length_map, sbytes_len]; omega) | exact KT.z _ | exact ob12) : p := h
theorem o_oyhnzf {p : Prop} (h : p := by first | assumption | omega | exact TZ.nth (by assumption) (by omega) | exact KW.app1 (by assumption) (Nat.le_trans q4 (Nat.le_trans (TZ.nth q2_2 (by omega)) (by decide))) (Nat.le_trans q5 (Nat.le_trans (TZ.nth q2_2 (by omega)) (by decide))) | exact ob12) : p := h
theorem o_ebf3xf {p : Prop} (h : p := by (try dsimp only); first | exact ⟨by omega, by assumption⟩ | exact ⟨by omega, (‹¬ _ = 0 → KZ e2›) (fun hc => (‹¬(_ ∨ _)›) (Or.inl (Or.inr hc)))⟩) : p := h
theorem o_2zxzfp {p : Prop} (h : p := by (try dsimp only); first | exact ⟨by assumption, by assumption⟩ | exact ⟨by decide, KZ.nil⟩) : p := h
theorem o_lea5fx {p : Prop} (h : p := by first | assumption | omega | exact KZ.nil | exact KW.nil | exact ob12) : p := h
theorem w108k (N : Nat) : ∀ {s1 : List Fw.Cell} {s6 : Int} {e0 : List UInt8} (p0 : 0 ≤ s6) (p1 : s6 ≤ s1.length) (p2 : s1.length ≤ 3000000000000) (p3 : KW s1) (p4 : e0.length ≤ 5000) (p5 : KT s1 s6) (hN : s1.length - s6 ≤ (N : Int)), Wp (L108_244 s1 s6 e0) fun y => y.1.size ≤ 4000 ∧ (¬ y.1.size = 0 → KZ s1) := by
  induction N using Nat.strongRecOn with
  | ind N ih =>
    intro s1 s6 e0 p0 p1 p2 p3 p4 p5 hN
    rw [P108_244]
    exact w_ip (fun h1 => w_gp o_kwuj4a (w_bd (c132 o_kwuj4a) (fun y0 q2 => w_gp o_kwuj4a (w_ip (fun h3 => w_some o_n75nr7) (fun h3 => w_gp o_kwuj4a (w_bd (c157) (fun y1 q4 => w_gp o_kwuj4a (w_bd (c157) (fun y2 q5 => w_gp o_kwuj4a (w_gp o_kwuj4a (w_gp o_kwuj4a (w_gp o_kwuj4a (ih (N - 1) o_kwuj4a o_kwuj4a o_kwuj4a o_kwuj4a o_kwuj4a o_kwuj4a o_kwuj4a ob12))))))))))))) (fun h1 => (w108_31 o_kwuj4a).mono (fun y q6 => o_n75nr7))
theorem c108k {x0 : Int} {x1 : List Fw.Cell} (p0 : x1.length ≤ 3000000000000) (p1 : KW x1) : Wp (D108 x0 x1) fun y => y.1.size ≤ 4000 ∧ (¬ y.1.size = 0 → KZ x1) := by
  rw [E108]
  exact w_be (c27) (by (try dsimp only); exact (w_ip (fun h2 => w_some o_uvrgf6) (fun h2 => w_bd (c122 o_zu2bwc o_zu2bwc) (fun y1 q3 => (w108k _ o_zu2bwc o_zu2bwc o_zu2bwc o_zu2bwc o_zu2bwc o_zu2bwc (Int.self_le_toNat _)).mono (fun y ⟨q4_0, q4_1⟩ => o_uvrgf6)))))
theorem w117_2036 (N : Nat) : ∀ {s0 : ByteArray} {s7 : Int} {s8 : Bool} {s10 : Int} {e0 : List Fw.Cell} {e1 : List ByteArray} {e2 : List Fw.Cell} (p0 : 0 ≤ s10) (p1 : s10 ≤ e1.length) (p2 : e1.length ≤ 5000) (p3 : TZ e1) (p4 : s0.size ≤ 4000) (p5 : (e2.length : Int) ≤ s10) (p6 : KW e2) (p7 : e0.length ≤ 4000) (p8 : KZ e0) (p9 : 0 < s10) (hN : e1.length - s10 ≤ (N : Int)), Wp (L117_2036 s0 s7 s8 s10 e0 e1 e2) fun y => y.2.1.length ≤ 5000 ∧ KZ y.2.1 := by
  induction N using Nat.strongRecOn with
  | ind N ih =>
    intro s0 s7 s8 s10 e0 e1 e2 p0 p1 p2 p3 p4 p5 p6 p7 p8 p9 hN
    rw [P117_2036]
    exact w_ip (fun h1 => by (try simp (disch := omega) only [i64_id] at h1); exact w_gp o_oyhnzf (w_bd (c161 o_oyhnzf) (fun y0 ⟨q2_0, q2_1, q2_2⟩ => w_ip (fun h3 => w_some o_ebf3xf) (fun h3 => w_gp o_oyhnzf (w_bd (c113) (fun y1 q4 => w_gp o_oyhnzf (w_bd (c113) (fun y2 q5 => w_gp o_oyhnzf (ih (N - 1) o_oyhnzf o_oyhnzf o_oyhnzf o_oyhnzf o_oyhnzf o_oyhnzf o_oyhnzf o_oyhnzf o_oyhnzf o_oyhnzf o_oyhnzf ob12))))))))) (fun h1 => by (try simp (disch := omega) only [i64_id] at h1); exact w_eq (P117_255 _ _ _ _ _) (w_bd (c108k o_oyhnzf o_oyhnzf) (fun y0 ⟨q6_0, q6_1⟩ => w_ip (fun h7 => w_some o_ebf3xf) (fun h7 => w_some o_ebf3xf))))
theorem c117 {x0 : ByteArray} : Wp (D117 x0) fun y => y.2.1.length ≤ 5000 ∧ KZ y.2.1 := by
  rw [E117]
  exact w_ip (fun h1 => w_some o_2zxzfp) (fun h1 => w_bd (c161 o_lea5fx) (fun y0 ⟨q2_0, q2_1, q2_2⟩ => w_gp o_lea5fx (w_bd (c159) (fun y1 ⟨q3_0, q3_1⟩ => (w117_2036 _ o_lea5fx o_lea5fx o_lea5fx o_lea5fx o_lea5fx o_lea5fx o_lea5fx o_lea5fx o_lea5fx o_lea5fx (Int.self_le_toNat _)).mono (fun y ⟨q4_0, q4_1⟩ => o_2zxzfp)))))
end Go.Proofs.YtdghkmbppfmifaaGreatDoor.Ri

namespace Go.Proofs.YtdghkmbppfmifaaGreatDoor.Ri
open Go.Proofs.YtdghkmbppfmifaaGreatDoor.Fw
set_option linter.unusedVariables false
set_option linter.unusedSimpArgs false
set_option maxRecDepth 100000
theorem RcL.nil : RcL [] := fun c h => by cases h
theorem RcL.app1 {l : List (List Fw.Cell)} {r : List Fw.Cell} (h : RcL l) (h1 : r.length ≤ 5000) (h2 : KZ r) : RcL (l ++ [r]) := fun c hc => (List.mem_append.1 hc).elim (h c) fun e => by rw [List.mem_singleton.1 e]; exact ⟨h1, h2⟩
theorem szs_step {l : List ByteArray} {i : Int} (h : 0 ≤ i) (h' : i < l.length) : szs (l.take (i + 1).toNat) = szs (l.take i.toNat) + (nth l i.toNat).size := by
  have e : (i + 1).toNat = i.toNat + 1 := by omega
  rw [e, szs_nth (by omega)]
theorem o_ezwuv2 {p : Prop} (h : p := by first | assumption | omega | (have hz := szs_step p0 (by omega : s9 < e1.length); have hl := szs_take e1 (s9 + 1).toNat; simp (disch := omega) only [i64_id]; omega) | exact RcL.app1 (by assumption) (by assumption) (by assumption) | exact ob12) : p := h
theorem o_bwywxi {p : Prop} (h : p := by (try dsimp only); (have hl := szs_take e1 s9.toNat; exact ⟨by omega, by assumption, by omega, by omega⟩)) : p := h
theorem o_rly3uo {p : Prop} (h : p := by (try dsimp only); first | exact ⟨by decide, RcL.nil, by decide, by omega⟩ | exact ⟨by omega, by assumption, by assumption, by omega⟩) : p := h
theorem o_0u4mvf {p : Prop} (h : p := by first | assumption | omega | rfl | exact RcL.nil | exact ob12) : p := h
theorem w118_1012 (N : Nat) : ∀ {s1 : Int} {s8 : Int} {s9 : Int} {e0 : List (List Fw.Cell)} {e1 : List ByteArray} (p0 : 0 ≤ s9) (p1 : s9 ≤ e1.length) (p2 : e1.length ≤ 1000000) (p3 : szs e1 ≤ 1000000) (p4 : s8 = szs (e1.take s9.toNat)) (p5 : (e0.length : Int) ≤ s9) (p6 : RcL e0) (hN : e1.length - s9 ≤ (N : Int)), Wp (L118_1012 s1 s8 s9 e0 e1) fun y => y.1.length ≤ e1.length ∧ RcL y.1 ∧ 0 ≤ y.2.1 ∧ y.2.1 ≤ szs e1 := by
  induction N using Nat.strongRecOn with
  | ind N ih =>
    intro s1 s8 s9 e0 e1 p0 p1 p2 p3 p4 p5 p6 hN
    rw [P118_1012]
    exact w_ip (fun h1 => w_gp o_ezwuv2 (w_bd (c117) (fun y0 ⟨q2_0, q2_1⟩ => w_ip (fun h3 => by (try simp (disch := omega) only [i64_id] at h3); exact w_eq (P118_127 _ _) (w_some o_bwywxi)) (fun h3 => by (try simp (disch := omega) only [i64_id] at h3); exact w_ip (fun h4 => by (try simp (disch := omega) only [i64_id] at h4); exact w_gp o_ezwuv2 (w_eq (P118_64807 _ _ _ _ _) (w_gp o_ezwuv2 (ih (N - 1) o_ezwuv2 o_ezwuv2 o_ezwuv2 o_ezwuv2 o_ezwuv2 o_ezwuv2 o_ezwuv2 o_ezwuv2 ob12)))) (fun h4 => by (try simp (disch := omega) only [i64_id] at h4); exact w_eq (P118_64807 _ _ _ _ _) (w_gp o_ezwuv2 (ih (N - 1) o_ezwuv2 o_ezwuv2 o_ezwuv2 o_ezwuv2 o_ezwuv2 o_ezwuv2 o_ezwuv2 o_ezwuv2 ob12))))))) (fun h1 => w_eq (P118_127 _ _) (w_some o_bwywxi))
theorem c118 {x0 : ByteArray} {x1 : Int} (p0 : x0.size ≤ 1000000) : Wp (D118 x0 x1) fun y => y.1.length ≤ 1000000 ∧ RcL y.1 ∧ 0 ≤ y.2.1 ∧ y.2.1 ≤ x0.size := by
  rw [E118]
  exact w_be (c27) (by (try dsimp only); exact (w_ip (fun h2 => w_some o_rly3uo) (fun h2 => w_bd (c116 o_0u4mvf) (fun y1 ⟨q3_0, q3_1⟩ => (w118_1012 _ o_0u4mvf o_0u4mvf o_0u4mvf o_0u4mvf o_0u4mvf o_0u4mvf o_0u4mvf (Int.self_le_toNat _)).mono (fun y ⟨q4_0, q4_1, q4_2, q4_3⟩ => o_rly3uo)))))
end Go.Proofs.YtdghkmbppfmifaaGreatDoor.Ri

namespace Go.Proofs.YtdghkmbppfmifaaGreatDoor.Ri
open Go.Proofs.YtdghkmbppfmifaaGreatDoor.Fw
set_option linter.unusedVariables false
set_option linter.unusedSimpArgs false
set_option maxRecDepth 100000
theorem o_uvq1zc {p : Prop} (h : p := by first | assumption | omega | exact ⟨DkOk.best ((‹_ = true → DkOk _›) (Classical.not_not.1 ‹¬¬_ = true›)) (by assumption), by omega⟩ | exact ob12) : p := h
theorem o_8tv105 {p : Prop} (h : p := by (try dsimp only); first | exact ⟨p0, p1, p2⟩ | exact ⟨p0, p1, Nat.le_trans (cutS_len _ _ _) p2⟩) : p := h
theorem o_gomh7l {p : Prop} (h : p := by first | assumption | omega | exact (RcL.nth (by assumption) (by omega)).2 | exact Nat.le_trans (RcL.nth (by assumption) (by omega)).1 (by decide) | (have hr := (RcL.nth (by assumption : RcL e2) (i := s8.toNat) (by omega)).1; simp (disch := omega) only [i64_id]; omega) | exact ob12) : p := h
theorem c75 {x0 : Fw.Disk} (p0 : x0.Slots.length ≤ 10) (p1 : SlL x0.Slots) (p2 : x0.Journal.Text.size ≤ 1000000) : Wp (D75 x0) fun y => y.1.Slots.length ≤ 10 ∧ SlL y.1.Slots ∧ y.1.Journal.Text.size ≤ 1000000 := by
  rw [E75]
  exact w_be (c55 o_uvq1zc o_uvq1zc) (by (try dsimp only); exact (w_bd (c95t o_uvq1zc o_uvq1zc) (fun y1 q2 => w_ip (fun h3 => w_some o_8tv105) (fun h3 => w_bd (c114s o_uvq1zc) (fun y2 ⟨q4_0, q4_1, q4_2⟩ => w_gp o_uvq1zc (w_bd (c118 o_uvq1zc) (fun y3 ⟨q5_0, q5_1, q5_2, q5_3⟩ => w_gp o_uvq1zc (w_some o_8tv105))))))))
theorem c1075 {x0 : Fw.Disk} (p0 : x0.Slots.length ≤ 10) (p1 : SlL x0.Slots) (p2 : x0.Journal.Text.size ≤ 1000000) : Wp (D1075 x0) fun y => y.1.Slots.length ≤ 10 ∧ SlL y.1.Slots ∧ y.1.Journal.Text.size ≤ 1000000 := by
  rw [E1075]
  exact w_be (c55 o_uvq1zc o_uvq1zc) (by (try dsimp only); exact (w_bd (c95t o_uvq1zc o_uvq1zc) (fun y1 q2 => w_ip (fun h3 => w_some o_8tv105) (fun h3 => w_bd (c114s o_uvq1zc) (fun y2 ⟨q4_0, q4_1, q4_2⟩ => w_gp o_uvq1zc (w_bd (c118 o_uvq1zc) (fun y3 ⟨q5_0, q5_1, q5_2, q5_3⟩ => w_gp o_uvq1zc (w_some o_8tv105))))))))
theorem w77_1012{a : Nat} (N : Nat) : ∀ {s8 : Int} {e0_0 : Int} {e0_1 : List Fw.Cell} {e0_2 : Bool} {e1 : List Fw.Cell} {e2 : List (List Fw.Cell)} (p0 : 0 ≤ s8) (p1 : s8 ≤ e2.length) (p2 : e2.length ≤ 1000000) (p3 : RcL e2) (p4 : (e1.length : Int) ≤ a + 5000 * s8) (p5 : a ≤ 20000000000) (p6 : KZ e1) (hN : e2.length - s8 ≤ (N : Int)), Wp (L77_1012 s8 e0_0 e0_1 e0_2 e1 e2) fun y => y.1.length ≤ a + 5000 * e2.length ∧ KZ y.1 := by
  induction N using Nat.strongRecOn with
  | ind N ih =>
    intro s8 e0_0 e0_1 e0_2 e1 e2 p0 p1 p2 p3 p4 p5 p6 hN
    rw [P77_1012]
    exact w_ip (fun h1 => w_gp o_gomh7l (w_bd (c120 (a := a + 5000 * s8.toNat) o_gomh7l o_gomh7l o_gomh7l o_gomh7l o_gomh7l) (fun y0 ⟨q2_0, q2_1⟩ => ih (N - 1) o_gomh7l o_gomh7l o_gomh7l o_gomh7l o_gomh7l o_gomh7l o_gomh7l o_gomh7l ob12))) (fun h1 => w_eq (P77_127 _ _ _ _ _) (w_some o_mwn5ay))
end Go.Proofs.YtdghkmbppfmifaaGreatDoor.Ri

namespace Go.Proofs.YtdghkmbppfmifaaGreatDoor.Ri
open Go.Proofs.YtdghkmbppfmifaaGreatDoor.Fw
set_option linter.unusedVariables false
set_option linter.unusedSimpArgs false
set_option maxRecDepth 100000
theorem SlL.set {l : List Fw.Slot} {x : Fw.Slot} (h : SlL l) (i : Nat) (h1 : x.Cells.length ≤ 20000000000) (h2 : KZ x.Cells) : SlL (l.set i x) := fun z hz => (List.mem_or_eq_of_mem_set hz).elim (h z) fun e => e ▸ ⟨h1, h2⟩
theorem o_rfn78i {p : Prop} (h : p := by first | assumption | omega | exact SlL.set (by assumption) _ (Nat.zero_le _) KZ.nil | (rw [List.length_set]; omega) | exact ob12) : p := h
theorem o_ykg2ll {p : Prop} (h : p := by (try dsimp only); exact ⟨by first | omega | (dsimp only; omega), by assumption, by assumption⟩) : p := h
theorem o_l05xah {p : Prop} (h : p := by (try dsimp only); first | exact ⟨p0, p1, p2⟩ | exact ⟨by assumption, by assumption, by assumption⟩) : p := h
theorem o_gpqmlj {p : Prop} (h : p := by first | assumption | omega | (have hz := szs_step p0 (by omega : s6 < e3.length); have hl := szs_take e3 (s6 + 1).toNat; simp (disch := omega) only [i64_id]; omega) | (have hl := szs_take e3 s6.toNat; omega) | exact ob12) : p := h
theorem o_9qvn99 {p : Prop} (h : p := by (try dsimp only); exact ⟨by assumption, by assumption, Nat.le_trans (cutS_len _ _ _) (by assumption)⟩) : p := h
theorem o_jun2o {p : Prop} (h : p := by first | assumption | omega | rfl | exact ⟨DkOk.best ((‹_ = true → DkOk _›) (Classical.not_not.1 ‹¬¬_ = true›)) (by assumption), by omega⟩ | exact ob12) : p := h
theorem w76_500{m : Nat} (N : Nat) : ∀ {s5 : Int} {e0_1 : ByteArray} {e0_2 : Int} {e1 : List Fw.Slot} {e2_1 : ByteArray} {e2_2 : Int} (p0 : 0 ≤ s5) (p1 : s5 ≤ m) (p2 : e1.length = m) (p3 : m ≤ 10) (p4 : SlL e1) (p5 : e0_1.size ≤ 1000000) (hN : m - s5 ≤ (N : Int)), Wp (L76_500 s5 e0_1 e0_2 e1 e2_1 e2_2) fun y => y.1.Slots.length ≤ 10 ∧ SlL y.1.Slots ∧ y.1.Journal.Text.size ≤ 1000000 := by
  induction N using Nat.strongRecOn with
  | ind N ih =>
    intro s5 e0_1 e0_2 e1 e2_1 e2_2 p0 p1 p2 p3 p4 p5 hN
    rw [P76_500]
    exact w_ip (fun h1 => w_gp o_rfn78i (w_ip (fun h2 => w_gp o_rfn78i (w_eq (P76_2003 _ _ _ _ _ _) (ih (N - 1) o_rfn78i o_rfn78i o_rfn78i o_rfn78i o_rfn78i o_rfn78i o_rfn78i ob12))) (fun h2 => w_eq (P76_2003 _ _ _ _ _ _) (ih (N - 1) o_rfn78i o_rfn78i o_rfn78i o_rfn78i o_rfn78i o_rfn78i o_rfn78i ob12)))) (fun h1 => w_eq (P76_63 _ _ _ _ _) (w_some o_ykg2ll))
theorem c76 {x0 : Fw.Disk} {x1 : Int} (p0 : x0.Slots.length ≤ 10) (p1 : SlL x0.Slots) (p2 : x0.Journal.Text.size ≤ 1000000) : Wp (D76 x0 x1) fun y => y.1.Slots.length ≤ 10 ∧ SlL y.1.Slots ∧ y.1.Journal.Text.size ≤ 1000000 := by
  rw [E76]
  exact w_be (c55 ob12 ob12) (by (try dsimp only); exact (w_bd (c95t ob12 ob12) (fun y1 q2 => w_ip (fun h3 => w_some o_l05xah) (fun h3 => w_bd (c119 ob12) (fun y2 q4 => (w76_500 (m := x0.Slots.length) _ ob12 ob12 ob12 ob12 ob12 ob12 (Int.self_le_toNat _)).mono (fun y ⟨q5_0, q5_1, q5_2⟩ => o_l05xah))))))
theorem w74_2036 (N : Nat) : ∀ {s3 : Int} {s5 : Int} {s6 : Int} {e0_1 : ByteArray} {e0_2 : Int} {e1 : List Fw.Slot} {e2_1 : ByteArray} {e2_2 : Int} {e3 : List ByteArray} (p0 : 0 ≤ s6) (p1 : s6 ≤ e3.length) (p2 : e3.length ≤ 1000000) (p3 : s5 = szs (e3.take s6.toNat)) (p4 : szs e3 ≤ e0_1.size) (p5 : e0_1.size ≤ 1000000) (p6 : e1.length ≤ 10) (p7 : SlL e1) (hN : e3.length - s6 ≤ (N : Int)), Wp (L74_2036 s3 s5 s6 e0_1 e0_2 e1 e2_1 e2_2 e3) fun y => y.1.Slots.length ≤ 10 ∧ SlL y.1.Slots ∧ y.1.Journal.Text.size ≤ 1000000 := by
  induction N using Nat.strongRecOn with
  | ind N ih =>
    intro s3 s5 s6 e0_1 e0_2 e1 e2_1 e2_2 e3 p0 p1 p2 p3 p4 p5 p6 p7 hN
    rw [P74_2036]
    exact w_ip (fun h1 => w_gp o_gpqmlj (w_bd (c117) (fun y0 ⟨q2_0, q2_1⟩ => w_ip (fun h3 => w_eq (P74_255 _ _ _ _ _ _) (w_gp o_gpqmlj (w_bd (c106) (fun y0 q4 => w_some o_9qvn99)))) (fun h3 => w_gp o_gpqmlj (ih (N - 1) o_gpqmlj o_gpqmlj o_gpqmlj o_gpqmlj o_gpqmlj o_gpqmlj o_gpqmlj o_gpqmlj o_gpqmlj ob12))))) (fun h1 => w_eq (P74_255 _ _ _ _ _ _) (w_gp o_gpqmlj (w_bd (c106) (fun y0 q5 => w_some o_9qvn99))))
theorem c74 {x0 : Fw.Disk} (p0 : x0.Slots.length ≤ 10) (p1 : SlL x0.Slots) (p2 : x0.Journal.Text.size ≤ 1000000) : Wp (D74 x0) fun y => y.1.Slots.length ≤ 10 ∧ SlL y.1.Slots ∧ y.1.Journal.Text.size ≤ 1000000 := by
  rw [E74]
  exact w_be (c55 o_jun2o o_jun2o) (by (try dsimp only); exact (w_bd (c95t o_jun2o o_jun2o) (fun y1 q2 => w_ip (fun h3 => w_some o_l05xah) (fun h3 => w_bd (c114s o_jun2o) (fun y2 ⟨q4_0, q4_1, q4_2⟩ => w_gp o_jun2o (w_bd (c116 o_jun2o) (fun y3 ⟨q5_0, q5_1⟩ => (w74_2036 _ o_jun2o o_jun2o o_jun2o o_jun2o o_jun2o o_jun2o o_jun2o o_jun2o (Int.self_le_toNat _)).mono (fun y ⟨q6_0, q6_1, q6_2⟩ => o_l05xah))))))))
end Go.Proofs.YtdghkmbppfmifaaGreatDoor.Ri

namespace Go.Proofs.YtdghkmbppfmifaaGreatDoor.Ri
open Go.Proofs.YtdghkmbppfmifaaGreatDoor.Fw
set_option linter.unusedVariables false
set_option linter.unusedSimpArgs false
set_option maxRecDepth 100000
theorem o_tvrrnu {p : Prop} (h : p := by (try dsimp only); (have g2 := p0.best (by assumption); simp (disch := omega) only [i64_id]; omega)) : p := h
theorem o_wbnj75 {p : Prop} (h : p := by first | assumption | omega | exact (‹_ = true → DkOk _›) (Classical.not_not.1 ‹¬¬_ = true›) | (have g1 := ((‹_ = true → DkOk _›) (Classical.not_not.1 ‹¬¬_ = true›)).1; first | omega | (left; simp (disch := omega) only [i64_id]; omega) | exact (SlL.nth p1 (by omega)).2 | exact Nat.le_trans (SlL.nth p1 (by omega)).1 (by decide)) | exact ob12) : p := h
theorem o_xlxwz {p : Prop} (h : p := by (try dsimp only); first | exact ⟨p0, p1, p2⟩ | (have g1 := ((‹_ = true → DkOk _›) (Classical.not_not.1 ‹¬¬_ = true›)).1; exact ⟨by rw [List.length_set]; exact p0, SlL.set p1 _ (SlL.nth p1 (by omega)).1 (SlL.nth p1 (by omega)).2, p2⟩)) : p := h
theorem o_a7f4oy {p : Prop} (h : p := by (try dsimp only); first | assumption | exact ⟨p0.s, p0.kz, p0.x, p0.xn, by assumption, by assumption, p0.h, p0.hn, p0.se, by assumption⟩) : p := h
theorem c115d {x0 : Fw.Disk} (p0 : DkOk x0) : Wp (D115 x0) fun y => 0 ≤ y.1 ∧ y.1 ≤ 1 := by
  rw [E115]
  have g1 := p0.1
  exact w_bd (c114s ob12) (fun y0 ⟨q1_0, q1_1, q1_2⟩ => w_some o_tvrrnu)
theorem c73 {x0 : Fw.Disk} (p0 : x0.Slots.length ≤ 10) (p1 : SlL x0.Slots) (p2 : x0.Journal.Text.size ≤ 1000000) : Wp (D73 x0) fun y => y.1.Slots.length ≤ 10 ∧ SlL y.1.Slots ∧ y.1.Journal.Text.size ≤ 1000000 := by
  rw [E73]
  exact w_be (c55 o_wbnj75 o_wbnj75) (by (try dsimp only); exact (w_bd (c95t o_wbnj75 o_wbnj75) (fun y1 q2 => w_ip (fun h3 => w_some o_xlxwz) (fun h3 => w_bd (c115d o_wbnj75) (fun y2 ⟨q4_0, q4_1⟩ => w_gp o_wbnj75 (w_gp o_wbnj75 (w_ip (fun h5 => by (try simp (disch := omega) only [i64_id] at h5); exact w_bd (c94 o_wbnj75 o_wbnj75) (fun y3 q6 => w_ip (fun h7 => w_be (c27) (by (try dsimp only); exact (w_ip (fun h9 => w_some o_xlxwz) (fun h9 => w_gp o_wbnj75 (w_some o_xlxwz))))) (fun h7 => w_some o_xlxwz))) (fun h5 => by (try simp (disch := omega) only [i64_id] at h5); exact w_some o_xlxwz))))))))
theorem c47{n t : Nat} {x0 : Fw.Kernel} (p0 : KB n t x0) (p1 : n ≤ 900) (p2 : t ≤ 800000000000) : Wp (D47 x0) fun y => KB n t y.1 := by
  rw [E47]
  have h1 := p0.d
  have h2 := p0.dn
  have h3 := p0.j
  exact w_be (c40 (n := n) (t := t) o_cmi1rw o_cmi1rw o_cmi1rw) (by (try dsimp only); exact (w_bd (c57 (n := n) (t := t) o_cmi1rw o_cmi1rw o_cmi1rw) (fun y1 q2 => w_ip (fun h3 => w_some o_a7f4oy) (fun h3 => w_bd (c73 o_cmi1rw o_cmi1rw o_cmi1rw) (fun y2 ⟨q4_0, q4_1, q4_2⟩ => w_ip (fun h5 => w_some o_a7f4oy) (fun h5 => w_bd (c74 o_cmi1rw o_cmi1rw o_cmi1rw) (fun y3 ⟨q6_0, q6_1, q6_2⟩ => w_some o_a7f4oy)))))))
end Go.Proofs.YtdghkmbppfmifaaGreatDoor.Ri

namespace Go.Proofs.YtdghkmbppfmifaaGreatDoor.Ri
open Go.Proofs.YtdghkmbppfmifaaGreatDoor.Fw
set_option linter.unusedVariables false
set_option linter.unusedSimpArgs false
set_option maxRecDepth 100000
def WhL (l : List Fw.Slot) (i : Int) : Prop := ∀ j : Nat, (j : Int) < i → j < l.length → (nth l j).Whole = true → (nth l j).Cells.length ≤ 900
theorem WhL.z (l : List Fw.Slot) : WhL l 0 := fun j h => by omega
theorem WhL.step {l : List Fw.Slot} {i : Int} (h : WhL l i) (h0 : 0 ≤ i) (h1 : i ≤ 5000000000000) (hk : (nth l i.toNat).Whole = true → (nth l i.toNat).Cells.length ≤ 900) : WhL l (IntKind.wrap .i64 (i + 1)) := fun j hj => by
  rw [i64_id (by omega) (by omega)] at hj
  by_cases e : (j : Int) = i
  · have : j = i.toNat := by omega
    rw [this]; exact fun _ => hk
  · exact h j (by omega)
theorem WhL.at {l : List Fw.Slot} {i : Int} (h : WhL l i) (hi : l.length ≤ i) {j : Nat} (hj : j < l.length) (hw : (nth l j).Whole = true) : (nth l j).Cells.length ≤ 900 := h j (by omega) hj hw
theorem o_5hoioz {p : Prop} (h : p := by (try dsimp only); first | exact ⟨Nat.zero_le _, RcL.nil, by decide, by omega⟩ | exact ⟨by omega, by assumption, by assumption, by omega⟩) : p := h
theorem o_8yz48g {p : Prop} (h : p := by first | assumption | omega | (left; omega) | (by_cases h0 : s3 < 0; · right; omega; · left; omega) | exact fun _ => (‹_ ∧ _›).1 | exact ob8) : p := h
theorem o_6plzut {p : Prop} (h : p := by first | assumption | omega | (intro hh; omega) | exact ob12) : p := h
theorem o_9z4hkk {p : Prop} (h : p := by first | assumption | omega | exact Nat.le_trans (SlL.nth (by assumption) (by omega)).1 (by decide) | exact (SlL.nth (by assumption) (by omega)).2 | exact WhL.step (by assumption) (by omega) (by omega) (fun _ => (‹_ = true → _ ≤ 900›) (Classical.not_not.1 fun hc => (‹¬(_ ∨ _)›) (Or.inr hc))) | exact WhL.step (by assumption) (by omega) (by omega) (fun hc => absurd hc (by assumption)) | exact ob12) : p := h
theorem o_kgt19x {p : Prop} (h : p := by (try dsimp only); (intro hh; first | (simp at hh; done) | exact fun j hj => (‹WhL e0_0 s3›) j (by omega))) : p := h
theorem o_jrzc5s {p : Prop} (h : p := by first | assumption | omega | exact WhL.z _ | exact ob12) : p := h
theorem c118s {x0 : ByteArray} {x1 : Int} (p0 : x0.size ≤ 1000000) : Wp (D118 x0 x1) fun y => y.1.length ≤ x0.size ∧ RcL y.1 ∧ 0 ≤ y.2.1 ∧ y.2.1 ≤ x0.size := by
  rw [E118]
  exact w_be (c27) (by (try dsimp only); exact (w_ip (fun h2 => w_some o_5hoioz) (fun h2 => w_bd (c116 o_0u4mvf) (fun y1 ⟨q3_0, q3_1⟩ => (w118_1012 _ o_0u4mvf o_0u4mvf o_0u4mvf o_0u4mvf o_0u4mvf o_0u4mvf o_0u4mvf (Int.self_le_toNat _)).mono (fun y ⟨q4_0, q4_1, q4_2, q4_3⟩ => o_5hoioz)))))
theorem w114w (N : Nat) : ∀ {s3 : Int} {s4 : Int} {e0_0 : List Fw.Slot} {e0_1 : ByteArray} {e0_2 : Int} (p0 : 0 ≤ s4) (p1 : s4 ≤ e0_0.length) (p2 : e0_0.length ≤ 1000) (p3 : -1 ≤ s3) (p4 : s3 < e0_0.length) (p5 : (0 ≤ s3 → (nth e0_0 s3.toNat).Whole = true)) (hN : e0_0.length - s4 ≤ (N : Int)), Wp (L114_116 s3 s4 e0_0 e0_1 e0_2) fun y => (0 ≤ y.1 → (nth e0_0 y.1.toNat).Whole = true) := by
  induction N using Nat.strongRecOn with
  | ind N ih =>
    intro s3 s4 e0_0 e0_1 e0_2 p0 p1 p2 p3 p4 p5 hN
    rw [P114_116]
    exact w_ip (fun h1 => w_gp o_8yz48g (w_gp o_8yz48g (w_gp o_8yz48g (w_ip (fun h2 => w_eq (P114_467 _ _ _ _ _) (ih (N - 1) o_8yz48g o_8yz48g o_8yz48g o_8yz48g o_8yz48g o_8yz48g o_8yz48g ob12)) (fun h2 => w_eq (P114_467 _ _ _ _ _) (ih (N - 1) o_8yz48g o_8yz48g o_8yz48g o_8yz48g o_8yz48g o_8yz48g o_8yz48g ob12)))))) (fun h1 => w_eq (P114_15 _) (w_some o_21uf74))
theorem c114w {x0 : Fw.Disk} (p0 : x0.Slots.length ≤ 1000) : Wp (D114 x0) fun y => (0 ≤ y.1 → (nth x0.Slots y.1.toNat).Whole = true) := by
  rw [E114]
  exact (w114w _ o_6plzut o_6plzut o_6plzut o_6plzut o_6plzut o_6plzut (Int.self_le_toNat _)).mono (fun y q1 => o_21uf74)
theorem w95w (N : Nat) : ∀ {s3 : Int} {e0_0 : List Fw.Slot} {e0_1 : ByteArray} {e0_2 : Int} (p0 : 0 ≤ s3) (p1 : s3 ≤ e0_0.length) (p2 : e0_0.length ≤ 1000) (p3 : SlL e0_0) (p4 : WhL e0_0 s3) (hN : e0_0.length - s3 ≤ (N : Int)), Wp (L95_52 s3 e0_0 e0_1 e0_2) fun y => (y.1 = true → WhL e0_0 e0_0.length) := by
  induction N using Nat.strongRecOn with
  | ind N ih =>
    intro s3 e0_0 e0_1 e0_2 p0 p1 p2 p3 p4 hN
    rw [P95_52]
    exact w_ip (fun h1 => w_gp o_9z4hkk (w_ip (fun h2 => w_be (c27) (by (try dsimp only); exact (w_ip (fun h4 => w_bd (c94 o_9z4hkk o_9z4hkk) (fun y1 q5 => w_ip (fun h6 => w_some o_kgt19x) (fun h6 => ih (N - 1) o_9z4hkk o_9z4hkk o_9z4hkk o_9z4hkk o_9z4hkk o_9z4hkk ob12))) (fun h4 => w_np o_9z4hkk (w_gp o_9z4hkk (w_some o_kgt19x)))))) (fun h2 => ih (N - 1) o_9z4hkk o_9z4hkk o_9z4hkk o_9z4hkk o_9z4hkk o_9z4hkk ob12))) (fun h1 => w_eq (P95_7 _ _ _) (w_ip (fun h7 => w_bd (c114w o_9z4hkk) (fun y0 q8 => w_ip (fun h9 => w_bd (c110t) (fun y1 q10 => w_some o_kgt19x)) (fun h9 => w_some o_kgt19x))) (fun h7 => w_some o_kgt19x)))
theorem c95w {x0 : Fw.Disk} (p0 : x0.Slots.length ≤ 1000) (p1 : SlL x0.Slots) : Wp (D95 x0) fun y => (y.1 = true → WhL x0.Slots x0.Slots.length) := by
  rw [E95]
  exact (w95w _ o_jrzc5s o_jrzc5s o_jrzc5s o_jrzc5s o_jrzc5s (Int.self_le_toNat _)).mono (fun y q1 => o_21uf74)
end Go.Proofs.YtdghkmbppfmifaaGreatDoor.Ri

namespace Go.Proofs.YtdghkmbppfmifaaGreatDoor.Ri
open Go.Proofs.YtdghkmbppfmifaaGreatDoor.Fw
set_option linter.unusedVariables false
set_option linter.unusedSimpArgs false
set_option maxRecDepth 100000
theorem wp_and {α : Type} {o : Option α} {P Q : α → Prop} (h : Wp o P) (h' : Wp o Q) : Wp o fun y => P y ∧ Q y := by
  obtain ⟨y, e, p⟩ := h
  obtain ⟨z, e', q⟩ := h'
  rw [e] at e'
  cases e'
  exact ⟨y, e, p, q⟩
theorem c95d {x0 : Fw.Disk} (p0 : x0.Slots.length ≤ 1000) (p1 : SlL x0.Slots) : Wp (D95 x0) fun y => (y.1 = true → DkOk x0) ∧ (y.1 = true → WhL x0.Slots x0.Slots.length) := wp_and (c95t p0 p1) (c95w p0 p1)
theorem c114d {x0 : Fw.Disk} (p0 : x0.Slots.length ≤ 1000) : Wp (D114 x0) fun y => (-1 ≤ y.1 ∧ y.1 < x0.Slots.length ∧ D114 x0 = some y) ∧ (0 ≤ y.1 → (nth x0.Slots y.1.toNat).Whole = true) := wp_and (c114s p0) (c114w p0)
def HasW (l : List Fw.Slot) (i : Int) : Prop := ∃ j : Nat, i ≤ j ∧ j < l.length ∧ (nth l j).Whole = true
theorem hw1 {l : List Fw.Slot} {s3 s4 : Int} {X : Prop} (h : 0 ≤ s3 ∨ HasW l s4) (h0 : 0 ≤ s4) (h1 : s4 ≤ 100000) (hn : ¬((nth l s4.toNat).Whole = true ∧ (s3 < 0 ∨ X))) : 0 ≤ s3 ∨ HasW l (IntKind.wrap .i64 (s4 + 1)) := by
  rcases h with h | ⟨j, h2, h3, h4⟩
  · exact Or.inl h
  · by_cases hs : 0 ≤ s3
    · exact Or.inl hs
    · refine Or.inr ⟨j, ?_, h3, h4⟩
      rw [i64_id (by omega) (by omega)]
      by_cases e : (j : Int) = s4
      · have : s4.toNat = j := by omega
        rw [this] at hn
        exact absurd ⟨h4, Or.inl (by omega)⟩ hn
      · omega
theorem hw2 {l : List Fw.Slot} {s3 s4 : Int} (h : 0 ≤ s3 ∨ HasW l s4) (h0 : (l.length : Int) ≤ s4) : 0 ≤ s3 := by
  rcases h with h | ⟨j, h2, h3, h4⟩
  · exact h
  · omega
theorem o_i1wh5c {p : Prop} (h : p := by first | assumption | omega | (have g := ((‹_ = true → DkOk _›) (Classical.not_not.1 ‹¬¬_ = true›)).best (‹_ ∧ _ ∧ D114 x0 = some y1›).2.2; omega) | (have g := ((‹_ = true → DkOk _›) (Classical.not_not.1 ‹¬¬_ = true›)).best (‹_ ∧ _ ∧ D114 x0 = some y1›).2.2; have gg := (‹_ ∧ _ ∧ D114 x0 = some y1›).2.1; have hs := SlL.nth p1 (i := y1.1.toNat) (by omega); have hw := ((‹_ = true → WhL _ _›) (Classical.not_not.1 ‹¬¬_ = true›)).at (Int.le_refl _) (j := y1.1.toNat) (by omega) ((‹0 ≤ y1.1 → _›) g); have hs1 := hs.1; first | exact hs.2 | omega | (simp only [List.nil_append]; first | exact hs.2 | omega)) | exact ob12) : p := h
theorem o_p12n3k {p : Prop} (h : p := by (try dsimp only); first | exact ⟨by decide, KZ.nil⟩ | (have gj := ((‹_ = true → DkOk _›) (Classical.not_not.1 ‹¬¬_ = true›)).2.1.1; exact ⟨by omega, by assumption⟩)) : p := h
theorem c77d {x0 : Fw.Disk} (p0 : x0.Slots.length ≤ 10) (p1 : SlL x0.Slots) (p2 : x0.Journal.Text.size ≤ 1000000) : Wp (D77 x0) fun y => y.1.length ≤ 200000000 ∧ KZ y.1 := by
  rw [E77]
  exact w_bd (c95d o_i1wh5c o_i1wh5c) (fun y0 ⟨q1_0, q1_1⟩ => w_ip (fun h2 => w_some o_p12n3k) (fun h2 => w_bd (c114d o_i1wh5c) (fun y1 ⟨q3_0, q3_1⟩ => w_gp o_i1wh5c (w_gp o_i1wh5c (w_bd (c118s o_i1wh5c) (fun y2 ⟨q4_0, q4_1, q4_2, q4_3⟩ => (w77_1012 (a := 900) _ o_i1wh5c o_i1wh5c o_i1wh5c o_i1wh5c o_i1wh5c o_i1wh5c o_i1wh5c (Int.self_le_toNat _)).mono (fun y ⟨q5_0, q5_1⟩ => o_p12n3k)))))))
end Go.Proofs.YtdghkmbppfmifaaGreatDoor.Ri

namespace Go.Proofs.YtdghkmbppfmifaaGreatDoor.Ri
open Go.Proofs.YtdghkmbppfmifaaGreatDoor.Fw
set_option linter.unusedVariables false
set_option linter.unusedSimpArgs false
set_option maxRecDepth 100000
theorem o_qkf84d {p : Prop} (h : p := by first | assumption | omega | exact Or.inl (by omega) | exact hw1 p5 p0 (by omega) (by assumption) | (left; omega) | (by_cases h0 : s3 < 0; · right; omega; · left; omega) | exact ob8) : p := h
theorem o_yh49f9 {p : Prop} (h : p := by (try dsimp only); exact ⟨hw2 p5 (by omega), by omega⟩) : p := h
theorem o_oj8fuc {p : Prop} (h : p := by first | assumption | omega | exact Or.inr (by assumption) | exact ob12) : p := h
theorem o_l7aqg6 {p : Prop} (h : p := by (try dsimp only); (simp (disch := omega) only [i64_id]; omega)) : p := h
theorem w114p (N : Nat) : ∀ {s3 : Int} {s4 : Int} {e0_0 : List Fw.Slot} {e0_1 : ByteArray} {e0_2 : Int} (p0 : 0 ≤ s4) (p1 : s4 ≤ e0_0.length) (p2 : e0_0.length ≤ 1000) (p3 : -1 ≤ s3) (p4 : s3 < e0_0.length) (p5 : (0 ≤ s3 ∨ HasW e0_0 s4)) (hN : e0_0.length - s4 ≤ (N : Int)), Wp (L114_116 s3 s4 e0_0 e0_1 e0_2) fun y => 0 ≤ y.1 ∧ y.1 < e0_0.length := by
  induction N using Nat.strongRecOn with
  | ind N ih =>
    intro s3 s4 e0_0 e0_1 e0_2 p0 p1 p2 p3 p4 p5 hN
    rw [P114_116]
    exact w_ip (fun h1 => w_gp o_qkf84d (w_gp o_qkf84d (w_gp o_qkf84d (w_ip (fun h2 => w_eq (P114_467 _ _ _ _ _) (ih (N - 1) o_qkf84d o_qkf84d o_qkf84d o_qkf84d o_qkf84d o_qkf84d o_qkf84d ob12)) (fun h2 => w_eq (P114_467 _ _ _ _ _) (ih (N - 1) o_qkf84d o_qkf84d o_qkf84d o_qkf84d o_qkf84d o_qkf84d o_qkf84d ob12)))))) (fun h1 => w_eq (P114_15 _) (w_some o_yh49f9))
theorem c114p {x0 : Fw.Disk} (p0 : x0.Slots.length ≤ 1000) (p1 : HasW x0.Slots 0) : Wp (D114 x0) fun y => 0 ≤ y.1 ∧ y.1 < x0.Slots.length := by
  rw [E114]
  exact (w114p _ o_oj8fuc o_oj8fuc o_oj8fuc o_oj8fuc o_oj8fuc o_oj8fuc (Int.self_le_toNat _)).mono (fun y ⟨q1_0, q1_1⟩ => o_6mduzb)
theorem c115p {x0 : Fw.Disk} (p0 : x0.Slots.length = 2) (p1 : HasW x0.Slots 0) : Wp (D115 x0) fun y => 0 ≤ y.1 ∧ y.1 ≤ 1 := by
  rw [E115]
  exact w_bd (c114p ob12 ob12) (fun y0 ⟨q1_0, q1_1⟩ => w_some o_l7aqg6)
end Go.Proofs.YtdghkmbppfmifaaGreatDoor.Ri

namespace Go.Proofs.YtdghkmbppfmifaaGreatDoor.Ri
open Go.Proofs.YtdghkmbppfmifaaGreatDoor.Fw
set_option linter.unusedVariables false
set_option linter.unusedSimpArgs false
set_option maxRecDepth 100000
theorem EnL.cut {l : List Fw.Entry} (h : EnL l) (i j : Nat) : EnL (cutL l i j) := fun z hz => h z (List.mem_of_mem_take (List.mem_of_mem_drop (by unfold cutL at hz; exact hz)))
theorem KB.le {n t n' t' : Nat} {k : Fw.Kernel} (p0 : KB n t k) (hn : n ≤ n') (ht : t ≤ t') : KB n' t' k := ⟨p0.s, p0.kz, p0.x.le ht, Nat.le_trans p0.xn hn, p0.d, p0.dn, p0.h, Nat.le_trans p0.hn hn, Nat.le_trans p0.se (by omega), p0.j⟩
theorem o_jlhoih {p : Prop} (h : p := by first | assumption | omega | (have g := q3_0 (Classical.not_not.1 fun hc => h4 (Or.inl hc)); have g0 := g.best q5_0.2.2; have g1 := q5_1 g0; have g2 := g.1; first | omega | exact ⟨⟨by omega, by omega⟩, rfl⟩ | exact ⟨y3.1.toNat, by omega, by dsimp only; omega, g1⟩) | exact ob12) : p := h
theorem o_026i3u {p : Prop} (h : p := by (try dsimp only); first | exact ⟨p0, p1, p2⟩ | exact ⟨by rw [List.length_set]; exact p0, SlL.set p1 _ (by dsimp only; omega) (by assumption), by assumption⟩) : p := h
theorem o_flxsju {p : Prop} (h : p := by (try dsimp only); first | assumption | exact ⟨p3.s, p3.kz, p3.x, p3.xn, p3.d, p3.dn, p3.h.cut _ _, by have := p3.hn; dsimp only at this ⊢; rw [cutL_len]; omega, p3.se, p3.j⟩) : p := h
theorem o_ma1q7e {p : Prop} (h : p := by first | assumption | omega | exact ⟨by dsimp only; omega, by assumption, by assumption, by dsimp only; omega, by assumption, by assumption, p0.h, p0.hn, p0.se, by assumption⟩ | exact ob12) : p := h
theorem c72 {x0 : Fw.Disk} (p0 : x0.Slots.length ≤ 10) (p1 : SlL x0.Slots) (p2 : x0.Journal.Text.size ≤ 1000000) : Wp (D72 x0) fun y => y.1.Slots.length ≤ 10 ∧ SlL y.1.Slots ∧ y.1.Journal.Text.size ≤ 1000000 := by
  rw [E72]
  exact w_be (c55 o_jlhoih o_jlhoih) (by (try dsimp only); exact (w_bd (c77d o_jlhoih o_jlhoih o_jlhoih) (fun y1 ⟨q2_0, q2_1⟩ => w_bd (c95d o_jlhoih o_jlhoih) (fun y2 ⟨q3_0, q3_1⟩ => w_ip (fun h4 => w_bd (c114d o_jlhoih) (fun y3 ⟨q5_0, q5_1⟩ => w_gp o_jlhoih (w_ip (fun h6 => w_some o_026i3u) (fun h6 => w_bd (c1075 o_jlhoih o_jlhoih o_jlhoih) (fun y4 ⟨q7_0, q7_1, q7_2⟩ => w_bd (c115p o_jlhoih o_jlhoih) (fun y5 ⟨q8_0, q8_1⟩ => w_gp o_jlhoih (w_some o_026i3u))))))) (fun h4 => w_some o_026i3u)))))
theorem c45{n t : Nat} {x0 : Fw.Kernel} (p0 : KB n t x0) (p1 : n ≤ 900) (p2 : t ≤ 800000000000) : Wp (D45 x0) fun y => KB n t y.1 := by
  rw [E45]
  have h1 := p0.d
  have h2 := p0.dn
  have h3 := p0.j
  exact w_be (c40 (n := n) (t := t) o_cmi1rw o_cmi1rw o_cmi1rw) (by (try dsimp only); exact (w_bd (c57 (n := n) (t := t) o_cmi1rw o_cmi1rw o_cmi1rw) (fun y1 q2 => w_ip (fun h3 => w_some o_a7f4oy) (fun h3 => w_bd (c72 o_cmi1rw o_cmi1rw o_cmi1rw) (fun y2 ⟨q4_0, q4_1, q4_2⟩ => w_some o_a7f4oy)))))
theorem w48_2036{n t : Nat} (N : Nat) : ∀ {s5 : Int} {e0_3 : ByteArray} {e0_4 : Int} {e0_5 : Int} {e0_6 : Int} {e0_7 : Int} {e0_10 : Bool} {e1 : List Fw.Cell} {e2 : List Fw.Tx} {e3 : List Fw.Slot} {e4 : List Fw.Entry} {e5 : List ByteArray} {e6_3 : ByteArray} {e6_4 : Int} {e6_5 : Int} {e6_6 : Int} {e6_7 : Int} {e6_10 : Bool} (p0 : 0 ≤ s5) (p1 : s5 ≤ e4.length) (p2 : e4.length ≤ 1000) (p3 : KB n t ⟨e1, e2, ⟨e3, ⟨e0_3, e0_4⟩⟩, e0_5, e0_6, e0_7, e4, e5, e0_10⟩) (hN : e4.length - s5 ≤ (N : Int)), Wp (L48_2036 s5 e0_3 e0_4 e0_5 e0_6 e0_7 e0_10 e1 e2 e3 e4 e5 e6_3 e6_4 e6_5 e6_6 e6_7 e6_10) fun y => KB n t y.1 := by
  induction N using Nat.strongRecOn with
  | ind N ih =>
    intro s5 e0_3 e0_4 e0_5 e0_6 e0_7 e0_10 e1 e2 e3 e4 e5 e6_3 e6_4 e6_5 e6_6 e6_7 e6_10 p0 p1 p2 p3 hN
    rw [P48_2036]
    exact w_ip (fun h1 => w_gp o_rqp0xk (w_gp o_rqp0xk (w_ip (fun h2 => w_gp o_rqp0xk (w_eq (P48_255b _ _ _ _ _ _ _ _ _ _ _ _ _ _ _ _ _) (w_some o_flxsju))) (fun h2 => ih (N - 1) o_rqp0xk o_rqp0xk o_rqp0xk o_rqp0xk o_rqp0xk ob12)))) (fun h1 => w_eq (P48_255 _ _ _ _ _ _ _ _ _ _ _ _ _ _ _ _ _) (w_some o_flxsju))
theorem c48{n t : Nat} {x0 : Fw.Kernel} {x1 : Int} (p0 : KB n t x0) (p1 : n ≤ 900) (p2 : t ≤ 800000000000) : Wp (D48 x0 x1) fun y => KB n t y.1 := by
  rw [E48]
  have h1 := p0.d
  have h2 := p0.dn
  have h3 := p0.j
  have h4 := p0.x
  have h5 := p0.xn
  have h6 := p0.hn
  exact w_be (c40 (n := n) (t := t) o_ma1q7e o_ma1q7e o_ma1q7e) (by (try dsimp only); exact (w_bd (c57 (n := n) (t := t) o_ma1q7e o_ma1q7e o_ma1q7e) (fun y1 q2 => w_ip (fun h3 => w_some o_21uf74) (fun h3 => w_bd (c76 o_ma1q7e o_ma1q7e o_ma1q7e) (fun y2 ⟨q4_0, q4_1, q4_2⟩ => w_bd (c75 o_ma1q7e o_ma1q7e o_ma1q7e) (fun y3 ⟨q5_0, q5_1, q5_2⟩ => w_bd (c77d o_ma1q7e o_ma1q7e o_ma1q7e) (fun y4 ⟨q6_0, q6_1⟩ => w_bd (c78 o_ma1q7e) (fun y5 q7 => w_bd (c61 (t := t) o_ma1q7e o_ma1q7e o_ma1q7e o_ma1q7e) (fun y6 ⟨q8_0, q8_1⟩ => (w48_2036 (n := n) (t := t) _ o_ma1q7e o_ma1q7e o_ma1q7e o_ma1q7e (Int.self_le_toNat _)).mono (fun y q9 => o_21uf74))))))))))
end Go.Proofs.YtdghkmbppfmifaaGreatDoor.Ri

namespace Go.Proofs.YtdghkmbppfmifaaGreatDoor.Ri
open Go.Proofs.YtdghkmbppfmifaaGreatDoor.Fw
set_option linter.unusedVariables false
set_option linter.unusedSimpArgs false
set_option maxRecDepth 100000
def DeB (a : Fw.Deed) : Prop := a.N.natAbs ≤ 4000000000 ∧ a.Call.A.natAbs ≤ 4000000000 ∧ a.Call.B.natAbs ≤ 4000000000
def DeL (l : List Fw.Deed) : Prop := ∀ a ∈ l, DeB a
theorem DeL.nil : DeL [] := fun a h => by cases h
theorem DeL.nth {l : List Fw.Deed} (h : DeL l) {i : Nat} (hi : i < l.length) : DeB (nth l i) := h _ (nth_mem hi)
theorem DeL.app1 {l : List Fw.Deed} {r : Fw.Deed} (h : DeL l) (h1 : DeB r) : DeL (l ++ [r]) := fun c hc => (List.mem_append.1 hc).elim (h c) fun e => by rw [List.mem_singleton.1 e]; exact h1
theorem o_z6zxwo {p : Prop} (h : p := by first | assumption | omega | exact ⟨d1, d2, d3⟩ | exact ob12) : p := h
theorem o_4zqd5g {p : Prop} (h : p := by (try dsimp only); first | assumption | exact KB.le (by assumption) (by omega) (by omega)) : p := h
theorem o_uj1vnk {p : Prop} (h : p := by (try dsimp only); exact ⟨fun z hz => by (rcases List.mem_cons.1 hz with e | hz; · rw [e]; exact ⟨by dsimp only [List.nil_append]; omega, by dsimp only [List.nil_append]; assumption⟩); rw [List.mem_singleton.1 hz]; exact ⟨Nat.zero_le _, KZ.nil⟩, Nat.le_of_ble_eq_true rfl, by decide⟩) : p := h
theorem c46 {x0 : Bool} {x1 : Int} : Wp (D46 x0 x1) fun y => True := by
  rw [E46]
  exact w_ip (fun h1 => w_some trivial) (fun h1 => w_some trivial)
theorem c39 {x0 : Fw.Deed} : Wp (D39 x0) fun y => True := by
  rw [E39]
  exact w_be (c27) (by (try dsimp only); exact (w_some trivial))
theorem c49{n t : Nat} {x0 : Fw.Kernel} {x1 : Fw.Deed} (p0 : KB n t x0) (p1 : n ≤ 900) (p2 : t ≤ 800000000000) (p3 : DeB x1) : Wp (D49 x0 x1) fun y => KB (n + 1) t y.1 := by
  rw [E49]
  obtain ⟨d1, d2, d3⟩ := p3
  exact w_ip (fun h1 => w_bd (c79 (n := n) (t := t) o_cmi1rw o_cmi1rw o_cmi1rw o_cmi1rw) (fun y7 q2 => w_eq (P49_31 _ _ _ _ _ _ _ _ _ _ _ _ _ _ _ _ _ _ _ _ _ _ _) (w_some o_chj5xw))) (fun h1 => w_ip (fun h3 => w_bd (c80 (n := n) (t := t) o_cmi1rw o_cmi1rw o_cmi1rw) (fun y6 q4 => w_eq (P49_31 _ _ _ _ _ _ _ _ _ _ _ _ _ _ _ _ _ _ _ _ _ _ _) (w_some o_chj5xw))) (fun h3 => w_ip (fun h5 => w_bd (c81 (n := n) (t := t) o_cmi1rw o_cmi1rw o_cmi1rw) (fun y5 q6 => w_eq (P49_31 _ _ _ _ _ _ _ _ _ _ _ _ _ _ _ _ _ _ _ _ _ _ _) (w_some o_chj5xw))) (fun h5 => w_ip (fun h7 => w_bd (c82 (n := n) (t := t) o_cmi1rw o_cmi1rw o_cmi1rw) (fun y3 q8 => w_bd (c46) (fun y4 _ => w_eq (P49_31 _ _ _ _ _ _ _ _ _ _ _ _ _ _ _ _ _ _ _ _ _ _ _) (w_some o_chj5xw)))) (fun h7 => w_ip (fun h10 => w_bd (c83 (n := n) (t := t) o_cmi1rw o_cmi1rw o_cmi1rw) (fun y1 q11 => w_bd (c46) (fun y2 _ => w_eq (P49_31 _ _ _ _ _ _ _ _ _ _ _ _ _ _ _ _ _ _ _ _ _ _ _) (w_some o_chj5xw)))) (fun h10 => w_bd (c84 (n := n) (t := t) o_cmi1rw o_cmi1rw o_cmi1rw) (fun y0 q13 => w_eq (P49_31 _ _ _ _ _ _ _ _ _ _ _ _ _ _ _ _ _ _ _ _ _ _ _) (w_some o_chj5xw)))))))
theorem c34{n t : Nat} {x0 : Fw.Kernel} {x1 : Fw.Deed} (p0 : 1 ≤ n) (p1 : KB n t x0) (p2 : n ≤ 900) (p3 : t ≤ 800000000000) (p4 : DeB x1) : Wp (D34 x0 x1) fun y => KB (n + 1) (t + 28700000300) y.1 := by
  rw [E34]
  obtain ⟨d1, d2, d3⟩ := p4
  exact w_bd (c39) (fun y0 _ => w_ip (fun h2 => w_be (c40 (n := n) (t := t) o_z6zxwo o_z6zxwo o_z6zxwo) (by (try dsimp only); exact (w_some o_4zqd5g))) (fun h2 => w_bd (c41 (n := n) (t := t) o_z6zxwo o_z6zxwo o_z6zxwo) (fun y1 q4 => w_ip (fun h5 => w_bd (c42 (n := n) (t := t) o_z6zxwo o_z6zxwo o_z6zxwo o_z6zxwo o_z6zxwo) (fun y10 q6 => w_some o_4zqd5g)) (fun h5 => w_ip (fun h7 => w_bd (c43 (n := n) (t := t) o_z6zxwo o_z6zxwo o_z6zxwo o_z6zxwo o_z6zxwo o_z6zxwo) (fun y9 q8 => w_some o_4zqd5g)) (fun h7 => w_ip (fun h9 => w_bd (c44 (n := n) (t := t) o_z6zxwo o_z6zxwo o_z6zxwo o_z6zxwo) (fun y8 q10 => w_some o_4zqd5g)) (fun h9 => w_ip (fun h11 => w_bd (c45 (n := n) (t := t) o_z6zxwo o_z6zxwo o_z6zxwo) (fun y6 q12 => w_bd (c46) (fun y7 _ => w_some o_4zqd5g))) (fun h11 => w_ip (fun h14 => w_bd (c47 (n := n) (t := t) o_z6zxwo o_z6zxwo o_z6zxwo) (fun y4 q15 => w_bd (c46) (fun y5 _ => w_some o_4zqd5g))) (fun h14 => w_ip (fun h17 => w_bd (c48 (n := n) (t := t) o_z6zxwo o_z6zxwo o_z6zxwo) (fun y3 q18 => w_some o_4zqd5g)) (fun h17 => w_bd (c49 (n := n) (t := t) o_z6zxwo o_z6zxwo o_z6zxwo o_z6zxwo) (fun y2 q19 => w_some o_4zqd5g))))))))))
theorem c38 {x0 : List Fw.Cell} (p0 : x0.length ≤ 900) (p1 : KZ x0) : Wp (D38 x0) fun y => SlL y.1.Slots ∧ y.1.Slots.length ≤ 10 ∧ y.1.Journal.Text.size ≤ 1000000 := by
  rw [E38]
  exact w_gp ob12 (w_some o_uj1vnk)
end Go.Proofs.YtdghkmbppfmifaaGreatDoor.Ri

namespace Go.Proofs.YtdghkmbppfmifaaGreatDoor.Ri
open Go.Proofs.YtdghkmbppfmifaaGreatDoor.Fw
set_option linter.unusedVariables false
set_option linter.unusedSimpArgs false
set_option maxRecDepth 100000
theorem EnL.nil : EnL [] := fun c h => by cases h
theorem o_a09bxs {p : Prop} (h : p := by first | assumption | omega | exact KZ.nil | exact ob12) : p := h
theorem o_cfh7g8 {p : Prop} (h : p := by (try dsimp only); exact ⟨by have := (‹MB _ _ _›).s; omega, (‹MB _ _ _›).k⟩) : p := h
theorem o_nm2wjk {p : Prop} (h : p := by (try dsimp only); exact ⟨by dsimp only; omega, by assumption, XL.nil, Nat.zero_le _, by assumption, by assumption, EnL.nil, Nat.zero_le _, Nat.zero_le _, by assumption⟩) : p := h
theorem o_3pc74c {p : Prop} (h : p := by first | assumption | omega | exact DeL.nth (by assumption) (by omega) | exact KB.le (by assumption) (by simp (disch := omega) only [i64_id]; omega) (by simp (disch := omega) only [i64_id]; omega) | exact ob12) : p := h
theorem o_jv6wps {p : Prop} (h : p := by (try dsimp only); exact ⟨KB.le (by assumption) (by omega) (by omega), by omega⟩) : p := h
theorem c37 : Wp (D37) fun y => y.1.length ≤ 10 ∧ KZ y.1 := by
  rw [E37]
  exact w_bd (c53 (s := 0) o_a09bxs o_a09bxs o_a09bxs) (fun y0 q1 => w_bd (c52 (s := 0) (t := 0) o_a09bxs o_a09bxs o_a09bxs o_a09bxs) (fun y1 ⟨q2_0, q2_1, q2_2⟩ => w_some o_cfh7g8))
theorem c33 : Wp (D33) fun y => KB 1 0 y.1 := by
  rw [E33]
  exact w_bd (c37) (fun y0 ⟨q1_0, q1_1⟩ => w_bd (c38 ob12 ob12) (fun y1 ⟨q2_0, q2_1, q2_2⟩ => w_some o_nm2wjk))
theorem w31_244 (N : Nat) : ∀ {s0 : List Fw.Deed} {s6 : Int} {e0_3 : ByteArray} {e0_4 : Int} {e0_5 : Int} {e0_6 : Int} {e0_7 : Int} {e0_10 : Bool} {e1_0 : List Fw.Cell} {e1_1 : List Fw.Tx} {e1_2 : List Fw.Slot} {e1_3 : ByteArray} {e1_4 : Int} {e1_5 : Int} {e1_6 : Int} {e1_7 : Int} {e1_8 : List Fw.Entry} {e1_9 : List ByteArray} {e1_10 : Bool} {e2 : List Fw.Answer} (p0 : 0 ≤ s6) (p1 : s6 ≤ s0.length) (p2 : s0.length ≤ 26) (p3 : DeL s0) (p4 : (e2.length : Int) = s6) (p5 : KB (s6.toNat + 1) (28700000300 * s6.toNat) ⟨e1_0, e1_1, ⟨e1_2, ⟨e1_3, e1_4⟩⟩, e1_5, e1_6, e1_7, e1_8, e1_9, e1_10⟩) (hN : s0.length - s6 ≤ (N : Int)), Wp (L31_244 s0 s6 e0_3 e0_4 e0_5 e0_6 e0_7 e0_10 e1_0 e1_1 e1_2 e1_3 e1_4 e1_5 e1_6 e1_7 e1_8 e1_9 e1_10 e2) fun y => KB 27 746200007800 y.1 ∧ y.2.1.length ≤ 26 := by
  induction N using Nat.strongRecOn with
  | ind N ih =>
    intro s0 s6 e0_3 e0_4 e0_5 e0_6 e0_7 e0_10 e1_0 e1_1 e1_2 e1_3 e1_4 e1_5 e1_6 e1_7 e1_8 e1_9 e1_10 e2 p0 p1 p2 p3 p4 p5 hN
    rw [P31_244]
    exact w_ip (fun h1 => w_gp o_3pc74c (w_bd (c34 (n := s6.toNat + 1) (t := 28700000300 * s6.toNat) o_3pc74c o_3pc74c o_3pc74c o_3pc74c o_3pc74c) (fun y0 q2 => w_gp o_3pc74c (ih (N - 1) o_3pc74c o_3pc74c o_3pc74c o_3pc74c o_3pc74c o_3pc74c o_3pc74c ob12)))) (fun h1 => w_eq (P31_31 _ _ _ _ _ _ _ _ _ _ _ _ _ _ _ _ _ _) (w_some o_jv6wps))
theorem c31 {x0 : List Fw.Deed} (p0 : x0.length ≤ 26) (p1 : DeL x0) : Wp (D31 x0) fun y => KB 27 746200007800 y.1 ∧ y.2.1.length ≤ 26 := by
  rw [E31]
  exact w_bd (c33) (fun y0 q1 => (w31_244 _ o_ok3k2u o_ok3k2u o_ok3k2u o_ok3k2u o_ok3k2u o_ok3k2u (Int.self_le_toNat _)).mono (fun y ⟨q2_0, q2_1⟩ => o_6mduzb))
end Go.Proofs.YtdghkmbppfmifaaGreatDoor.Ri
