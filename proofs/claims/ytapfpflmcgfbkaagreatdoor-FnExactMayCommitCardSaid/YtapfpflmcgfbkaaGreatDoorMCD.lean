/-
  The texts Q7, Q8, Q9, Q10, Q11, Q12, Q13, RiW, TP, TQ, TR, TS, TU, TV, Shelf, RIc of this proof, one behind the other: what each proves stands at its head. No condition.
-/
import Derived.Lib.ShelfFacts
import Derived.Lib.AtoiTie
import Derived.Shelf.LaysM
import Derived.Shelf.Strconv.Itoa3
import Derived.Shelf.LaysC
import Derived.Shelf.Strconv.AtoiAll
import Derived.Ground.Names2Prog
import Derived.Ground.SlgnProg
import Derived.Ground.PaProg
import Derived.Shelf.Hex.DecodeOwns
import Derived.Shelf.Hex.More
import Derived.Test.YtapfpflmcgfbkaaGreatDoorProg
import Derived.Lib.Overlaps
import Derived.Lib.AppendZerosOnto
import Derived.Shelf.RegionOpenPlain
import Derived.WalkKit
import Derived.Lib.SliceRun
import Derived.Laws.Externs
import Derived.Laws.IdiomCopy
import Derived.KernelRfl
import Derived.Test.YtapfpflmcgfbkaaGreatDoorMCA
import Derived.Test.YtapfpflmcgfbkaaGreatDoorMCB
import Derived.Test.YtapfpflmcgfbkaaGreatDoorMCC
namespace Go.Proofs.YtapfpflmcgfbkaaGreatDoor.Ri
open Go.Proofs.YtapfpflmcgfbkaaGreatDoor.Fw
open Go.RowKit
set_option linter.unusedVariables false
set_option maxRecDepth 100000
noncomputable def L2144_116 (s1:List Fw.Cell) (s11:Int) (s12:Int) (e0:List ByteArray):Option ((List Fw.Cell)×Unit):=Ln 47 116 (⟨26,[(1,.ok (.ro 97 s1)),(5,.ok (.v (.slice none 0 0))),(10,.ok (.sl 0)),(11,.ok (.v (.int .i64 s11))),(12,.ok (.v (.int .i64 s12)))],[(0,.own 9 e0)]⟩,1)
noncomputable def L2144_15  : Option ((List Fw.Cell)×Unit):=Ln 47 15 (⟨26,[(5,.ok (.v (.slice none 0 0)))],[]⟩,0)
noncomputable def L2144_116b (s1:List Fw.Cell) (s11:Int) (s12:Int) (e0:List Fw.Cell) (e1:List ByteArray):Option ((List Fw.Cell)×Unit):=Ln 47 116 (⟨26,[(1,.ok (.ro 97 s1)),(5,.ok (.sl 0)),(10,.ok (.sl 1)),(11,.ok (.v (.int .i64 s11))),(12,.ok (.v (.int .i64 s12)))],[(0,.own 97 e0),(1,.own 9 e1)]⟩,2)
noncomputable def L2144_15b (e0:List Fw.Cell):Option ((List Fw.Cell)×Unit):=Ln 47 15 (⟨26,[(5,.ok (.sl 0))],[(0,.own 97 e0)]⟩,1)
theorem E2144 (x0:List Fw.Cell) (x1:List Fw.Cell):D2144 x0 x1=((D2258 x0 x1).bind fun y0=>L2144_116 x1 (y0.1.length:Int) 0 y0.1):=(Dn_eq _ _).trans (by kernel_rfl)
theorem P2144_116 (s1:List Fw.Cell) (s11:Int) (s12:Int) (e0:List ByteArray):L2144_116 s1 s11 s12 e0=(bif (decide (s12<s11)) then(gd ((decide (0≤s12))&&(decide (s12<(e0.length:Int)))) <| (D2078 s1 (nth e0 s12.toNat)).bind fun y0=>gd ((decide ((1*32)≤140737488355328))&&(decide (1≤9223372036854775807))) <| L2144_116b s1 s11 (IntKind.wrap .i64 (s12+1)) [(⟨(nth e0 s12.toNat),y0.1⟩:Fw.Cell)] e0) else L2144_15):=(Ln_eq _ _ _).trans (by kernel_rfl)
theorem P2144_15  : L2144_15=(some ([],())):=(Ln_eq _ _ _).trans (by kernel_rfl)
theorem P2144_116b (s1:List Fw.Cell) (s11:Int) (s12:Int) (e0:List Fw.Cell) (e1:List ByteArray):L2144_116b s1 s11 s12 e0 e1=(bif (decide (s12<s11)) then(gd ((decide (0≤s12))&&(decide (s12<(e1.length:Int)))) <| (D2078 s1 (nth e1 s12.toNat)).bind fun y0=>gd ((decide (((e0.length+1)*32)≤140737488355328))&&(decide ((e0.length+1)≤9223372036854775807))) <| L2144_116b s1 s11 (IntKind.wrap .i64 (s12+1)) (e0++[(⟨(nth e1 s12.toNat),y0.1⟩:Fw.Cell)]) e1) else L2144_15b e0):=(Ln_eq _ _ _).trans (by kernel_rfl)
theorem P2144_15b (e0:List Fw.Cell):L2144_15b e0=(some (e0,())):=(Ln_eq _ _ _).trans (by kernel_rfl)
theorem E2161 (x0:List Fw.Tx) (x1:Int):D2161 x0 x1=((D2183 x0 x1).bind fun y0=>some (y0.1,())):=(Dn_eq _ _).trans (by kernel_rfl)
theorem E2162 (x0:Fw.Tx):D2162 x0=((D2290 x0.Calls).bind fun y0=>(D2166 x0.Answers).bind fun y1=>(D2291 x0.Marks).bind fun y2=>(D2292 x0.Touch).bind fun y3=>some ({ x0 with Calls:=y0.1,Answers:=y1.1,Touch:=y3.1,Marks:=y2.1 },())):=(Dn_eq _ _).trans (by kernel_rfl)
theorem E2163 (x0:List Fw.Cell) (x1:Fw.Tx):D2163 x0 x1=((D2188 x0 x1).bind fun y0=>(D2293 x0 y0.1 x1.Touch).bind fun y1=>some (y1.1,())):=(Dn_eq _ _).trans (by kernel_rfl)
theorem E2164 (x0:Fw.Kernel) (x1:List Fw.Cell):D2164 x0 x1=(bif (decide ((x1.length:Int)=0)) then(some (true,(x0,()))) else(D2143 (IntKind.wrap .i64 (x0.Seq+1)) x1).bind fun y0=>bif ((decide (x0.Seq≥99000))||(decide (y0.1=(tx [])))) then(some (false,(x0,()))) else(D2294 x0.Disk.Journal y0.1).bind fun y1=>bif (!y1.2.1) then(some (false,(x0,()))) else some (true,({ x0 with Disk:=(⟨x0.Disk.Slots,y1.1⟩:Fw.Disk),Seq:=(IntKind.wrap .i64 (x0.Seq+1)) },()))):=(Dn_eq _ _).trans (by kernel_rfl)
noncomputable def L2165_116 (s7:List Fw.Call) (s8:Int) (s9:Int) (e0_0:Int) (e0_1:Int) (e0_2:Int) (e0_3:Int) (e0_4:List Fw.Call) (e0_5:List Fw.Answer) (e0_6:List ByteArray) (e0_7:List ByteArray) (e0_8:List Int) (e0_9:Int):Option ((List Fw.Step)×Unit):=Ln 49 116 (⟨22,[(1,.ok (.pt 0 0)),(3,.ok (.v (.slice none 0 0))),(7,.ok (.ro 136 s7)),(8,.ok (.v (.int .i64 s8))),(9,.ok (.v (.int .i64 s9)))],[(0,.var [.v (.int .i64 e0_0),.v (.int .i64 e0_1),.v (.int .i64 e0_2),.v (.int .i64 e0_3),.ro 136 e0_4,.ro 108 e0_5,.ro 9 e0_6,.ro 9 e0_7,.ro 3 e0_8,.v (.int .i64 e0_9)] 88)]⟩,1)
noncomputable def L2165_15  : Option ((List Fw.Step)×Unit):=Ln 49 15 (⟨22,[(3,.ok (.v (.slice none 0 0)))],[]⟩,0)
noncomputable def L2165_116b (s7:List Fw.Call) (s8:Int) (s9:Int) (e0_0:Int) (e0_1:Int) (e0_2:Int) (e0_3:Int) (e0_4:List Fw.Call) (e0_5:List Fw.Answer) (e0_6:List ByteArray) (e0_7:List ByteArray) (e0_8:List Int) (e0_9:Int) (e1:List Fw.Step):Option ((List Fw.Step)×Unit):=Ln 49 116 (⟨22,[(1,.ok (.pt 0 0)),(3,.ok (.sl 1)),(7,.ok (.ro 136 s7)),(8,.ok (.v (.int .i64 s8))),(9,.ok (.v (.int .i64 s9)))],[(0,.var [.v (.int .i64 e0_0),.v (.int .i64 e0_1),.v (.int .i64 e0_2),.v (.int .i64 e0_3),.ro 136 e0_4,.ro 108 e0_5,.ro 9 e0_6,.ro 9 e0_7,.ro 3 e0_8,.v (.int .i64 e0_9)] 88),(1,.own 138 e1)]⟩,2)
noncomputable def L2165_15b (e0:List Fw.Step):Option ((List Fw.Step)×Unit):=Ln 49 15 (⟨22,[(3,.ok (.sl 0))],[(0,.own 138 e0)]⟩,1)
theorem E2165 (x0:Fw.Tx):D2165 x0=(L2165_116 x0.Calls (x0.Calls.length:Int) 0 x0.Id x0.Age x0.Proc x0.Began x0.Calls x0.Answers x0.Touch.Reads x0.Touch.Writes x0.Marks x0.State):=(Dn_eq _ _).trans (by kernel_rfl)
theorem P2165_116 (s7:List Fw.Call) (s8:Int) (s9:Int) (e0_0:Int) (e0_1:Int) (e0_2:Int) (e0_3:Int) (e0_4:List Fw.Call) (e0_5:List Fw.Answer) (e0_6:List ByteArray) (e0_7:List ByteArray) (e0_8:List Int) (e0_9:Int):L2165_116 s7 s8 s9 e0_0 e0_1 e0_2 e0_3 e0_4 e0_5 e0_6 e0_7 e0_8 e0_9=(bif (decide (s9<s8)) then(gd ((decide (0≤s9))&&(decide (s9<(s7.length:Int)))) <| gd ((decide ((1*80)≤140737488355328))&&(decide (1≤9223372036854775807))) <| L2165_116b s7 s8 (IntKind.wrap .i64 (s9+1)) e0_0 e0_1 e0_2 e0_3 e0_4 e0_5 e0_6 e0_7 e0_8 e0_9 [(⟨e0_2,(nth s7 s9.toNat)⟩:Fw.Step)]) else L2165_15):=(Ln_eq _ _ _).trans (by kernel_rfl)
theorem P2165_15  : L2165_15=(some ([],())):=(Ln_eq _ _ _).trans (by kernel_rfl)
theorem P2165_116b (s7:List Fw.Call) (s8:Int) (s9:Int) (e0_0:Int) (e0_1:Int) (e0_2:Int) (e0_3:Int) (e0_4:List Fw.Call) (e0_5:List Fw.Answer) (e0_6:List ByteArray) (e0_7:List ByteArray) (e0_8:List Int) (e0_9:Int) (e1:List Fw.Step):L2165_116b s7 s8 s9 e0_0 e0_1 e0_2 e0_3 e0_4 e0_5 e0_6 e0_7 e0_8 e0_9 e1=(bif (decide (s9<s8)) then(gd ((decide (0≤s9))&&(decide (s9<(s7.length:Int)))) <| gd ((decide (((e1.length+1)*80)≤140737488355328))&&(decide ((e1.length+1)≤9223372036854775807))) <| L2165_116b s7 s8 (IntKind.wrap .i64 (s9+1)) e0_0 e0_1 e0_2 e0_3 e0_4 e0_5 e0_6 e0_7 e0_8 e0_9 (e1++[(⟨e0_2,(nth s7 s9.toNat)⟩:Fw.Step)])) else L2165_15b e1):=(Ln_eq _ _ _).trans (by kernel_rfl)
theorem P2165_15b (e0:List Fw.Step):L2165_15b e0=(some (e0,())):=(Ln_eq _ _ _).trans (by kernel_rfl)
theorem E2166 (x0:List Fw.Answer):D2166 x0=(cloneX (x0,())):=(Dn_eq _ _).trans (by kernel_rfl)
theorem E2167 (x0:Fw.Mach) (x1:Int):D2167 x0 x1=((D2295 x0 (tx [99,47,112,114,111,99])).bind fun y0=>bif (decide (y0.1≥12)) then(some (0,(3,(y0.2.1,())))) else(D2296 y0.2.1 (tx [99,47,112,114,111,99])).bind fun y1=>(D2079 y1.1 (tx [47,115])).bind fun y2=>(D2297 y1.2.1 y2.1 1).bind fun y3=>(D2079 y1.1 (tx [47,112])).bind fun y4=>(D2297 y3.1 y4.1 x1).bind fun y5=>some (y1.1,(0,(y5.1,())))):=(Dn_eq _ _).trans (by kernel_rfl)
theorem E2168 (x0:List Fw.Cell):D2168 x0=(cloneX (x0,())):=(Dn_eq _ _).trans (by kernel_rfl)
noncomputable def L2171_116 (s6:List Fw.Tx) (s7:Int) (s8:Int):Option ((List Fw.Tx)×Unit):=Ln 83 116 (⟨19,[(3,.ok (.v (.slice none 0 0))),(6,.ok (.ro 88 s6)),(7,.ok (.v (.int .i64 s7))),(8,.ok (.v (.int .i64 s8)))],[]⟩,0)
noncomputable def L2171_15  : Option ((List Fw.Tx)×Unit):=Ln 83 15 (⟨19,[(3,.ok (.v (.slice none 0 0)))],[]⟩,0)
noncomputable def L2171_116b (s6:List Fw.Tx) (s7:Int) (s8:Int) (e0:List Fw.Tx):Option ((List Fw.Tx)×Unit):=Ln 83 116 (⟨19,[(3,.ok (.sl 0)),(6,.ok (.ro 88 s6)),(7,.ok (.v (.int .i64 s7))),(8,.ok (.v (.int .i64 s8)))],[(0,.own 88 e0)]⟩,1)
noncomputable def L2171_15b (e0:List Fw.Tx):Option ((List Fw.Tx)×Unit):=Ln 83 15 (⟨19,[(3,.ok (.sl 0))],[(0,.own 88 e0)]⟩,1)
theorem E2171 (x0:List Fw.Tx):D2171 x0=(L2171_116 x0 (x0.length:Int) 0):=(Dn_eq _ _).trans (by kernel_rfl)
theorem P2171_116 (s6:List Fw.Tx) (s7:Int) (s8:Int):L2171_116 s6 s7 s8=(bif (decide (s8<s7)) then(gd ((decide (0≤s8))&&(decide (s8<(s6.length:Int)))) <| (D2162 (nth s6 s8.toNat)).bind fun y0=>gd ((decide ((1*160)≤140737488355328))&&(decide (1≤9223372036854775807))) <| L2171_116b s6 s7 (IntKind.wrap .i64 (s8+1)) [y0.1]) else L2171_15):=(Ln_eq _ _ _).trans (by kernel_rfl)
theorem P2171_15  : L2171_15=(some ([],())):=(Ln_eq _ _ _).trans (by kernel_rfl)
theorem P2171_116b (s6:List Fw.Tx) (s7:Int) (s8:Int) (e0:List Fw.Tx):L2171_116b s6 s7 s8 e0=(bif (decide (s8<s7)) then(gd ((decide (0≤s8))&&(decide (s8<(s6.length:Int)))) <| (D2162 (nth s6 s8.toNat)).bind fun y0=>gd ((decide (((e0.length+1)*160)≤140737488355328))&&(decide ((e0.length+1)≤9223372036854775807))) <| L2171_116b s6 s7 (IntKind.wrap .i64 (s8+1)) (e0++[y0.1])) else L2171_15b e0):=(Ln_eq _ _ _).trans (by kernel_rfl)
theorem P2171_15b (e0:List Fw.Tx):L2171_15b e0=(some (e0,())):=(Ln_eq _ _ _).trans (by kernel_rfl)
noncomputable def L2172_116 (s13:Int) (s14:Int) (e0_1:ByteArray) (e0_2:Int) (e1_1:ByteArray) (e1_2:Int) (e2:List Fw.Slot):Option (Fw.Disk×Unit):=Ln 84 116 (⟨31,[(2,.ok (.pt 0 0)),(3,.ok (.pt 1 0)),(13,.ok (.v (.int .i64 s13))),(14,.ok (.v (.int .i64 s14)))],[(0,.var [.v (.slice none 0 0),.v (.string e0_1),.v (.int .i64 e0_2)] 40),(1,.var [.sl 2,.v (.string e1_1),.v (.int .i64 e1_2)] 40),(2,.own 144 e2)]⟩,3)
noncomputable def L2172_15 (e0_1:ByteArray) (e0_2:Int) (e1_1:ByteArray) (e1_2:Int) (e2:List Fw.Slot):Option (Fw.Disk×Unit):=Ln 84 15 (⟨31,[(2,.ok (.pt 0 0)),(3,.ok (.pt 1 0))],[(0,.var [.v (.slice none 0 0),.v (.string e0_1),.v (.int .i64 e0_2)] 40),(1,.var [.sl 2,.v (.string e1_1),.v (.int .i64 e1_2)] 40),(2,.own 144 e2)]⟩,3)
theorem E2172 (x0:Fw.Disk):D2172 x0=((D2301 x0.Slots).bind fun y0=>L2172_116 (y0.1.length:Int) 0 (tx []) 0 x0.Journal.Text x0.Journal.Sure y0.1):=(Dn_eq _ _).trans (by kernel_rfl)
theorem P2172_116 (s13:Int) (s14:Int) (e0_1:ByteArray) (e0_2:Int) (e1_1:ByteArray) (e1_2:Int) (e2:List Fw.Slot):L2172_116 s13 s14 e0_1 e0_2 e1_1 e1_2 e2=(bif (decide (s14<s13)) then(gd ((decide (0≤s14))&&(decide (s14<(e2.length:Int)))) <| (D2168 (nth e2 s14.toNat).Cells).bind fun y0=>gd ((decide (0≤s14))&&(decide (s14<(e2.length:Int)))) <| L2172_116 s13 (IntKind.wrap .i64 (s14+1)) e0_1 e0_2 e1_1 e1_2 (e2.set s14.toNat { (nth e2 s14.toNat) with Cells:=y0.1 })) else L2172_15 e0_1 e0_2 e1_1 e1_2 e2):=(Ln_eq _ _ _).trans (by kernel_rfl)
theorem P2172_15 (e0_1:ByteArray) (e0_2:Int) (e1_1:ByteArray) (e1_2:Int) (e2:List Fw.Slot):L2172_15 e0_1 e0_2 e1_1 e1_2 e2=(some ((⟨e2,(⟨e1_1,e1_2⟩:Fw.Journal)⟩:Fw.Disk),())):=(Ln_eq _ _ _).trans (by kernel_rfl)
theorem E2173 (x0:List ByteArray):D2173 x0=(cloneX (x0,())):=(Dn_eq _ _).trans (by kernel_rfl)
noncomputable def L2174_52 (s0:List Fw.Cell) (s5:List Fw.Cell) (s6:Int) (s7:Int):Option (Bool×Unit):=Ln 87 52 (⟨42,[(0,.ok (.ro 97 s0)),(5,.ok (.ro 97 s5)),(6,.ok (.v (.int .i64 s6))),(7,.ok (.v (.int .i64 s7)))],[]⟩,0)
noncomputable def L2174_7 (s0:List Fw.Cell):Option (Bool×Unit):=Ln 87 7 (⟨42,[(0,.ok (.ro 97 s0))],[]⟩,0)
theorem E2174 (x0:List Fw.Cell):D2174 x0=(L2174_52 x0 x0 (x0.length:Int) 0):=(Dn_eq _ _).trans (by kernel_rfl)
theorem P2174_52 (s0:List Fw.Cell) (s5:List Fw.Cell) (s6:Int) (s7:Int):L2174_52 s0 s5 s6 s7=(bif (decide (s7<s6)) then(gd ((decide (0≤s7))&&(decide (s7<(s5.length:Int)))) <| (D2254 (nth s5 s7.toNat).Key).bind fun y0=>bif (!(!y0.1)) then((D2090 ((nth s5 s7.toNat).Val.size:Int) 1 60).bind fun y1=>gd (((decide (0≤(IntKind.wrap .i64 (s7 - 1))))&&(decide ((IntKind.wrap .i64 (s7 - 1))<(s0.length:Int))))||(!((!(!y1.1))&&(decide (s7>0))))) <| bif ((!y1.1)||((decide (s7>0))&&((ltB (nth s5 s7.toNat).Key (nth s0 (IntKind.wrap .i64 (s7 - 1)).toNat).Key)||(decide ((nth s5 s7.toNat).Key=(nth s0 (IntKind.wrap .i64 (s7 - 1)).toNat).Key))))) then(some (false,())) else L2174_52 s0 s5 s6 (IntKind.wrap .i64 (s7+1))) else gd (((decide (0≤(IntKind.wrap .i64 (s7 - 1))))&&(decide ((IntKind.wrap .i64 (s7 - 1))<(s0.length:Int))))||true) <| some (false,())) else L2174_7 s0):=(Ln_eq _ _ _).trans (by kernel_rfl)
theorem P2174_7 (s0:List Fw.Cell):L2174_7 s0=(some ((decide ((s0.length:Int)≤900)),())):=(Ln_eq _ _ _).trans (by kernel_rfl)
noncomputable def L2175_116 (s26:List Fw.Slot) (s27:Int) (s28:Int) (e0_0:List Fw.Slot) (e0_1:ByteArray) (e0_2:Int):Option (Bool×Unit):=Ln 88 116 (⟨50,[(1,.ok (.pt 0 0)),(26,.ok (.ro 144 s26)),(27,.ok (.v (.int .i64 s27))),(28,.ok (.v (.int .i64 s28)))],[(0,.var [.ro 144 e0_0,.v (.string e0_1),.v (.int .i64 e0_2)] 40)]⟩,1)
noncomputable def L2175_15 (e0_0:List Fw.Slot) (e0_1:ByteArray) (e0_2:Int):Option (Bool×Unit):=Ln 88 15 (⟨50,[(1,.ok (.pt 0 0))],[(0,.var [.ro 144 e0_0,.v (.string e0_1),.v (.int .i64 e0_2)] 40)]⟩,1)
theorem E2175 (x0:Fw.Disk):D2175 x0=(gd (((decide (0≤0))&&(decide (0<(x0.Slots.length:Int))))||(!(!(!(decide ((x0.Slots.length:Int)=2)))))) <| gd (((decide (0≤1))&&(decide (1<(x0.Slots.length:Int))))||(!((!(!(decide ((x0.Slots.length:Int)=2))))&&(!(nth x0.Slots (0:Int).toNat).Whole)))) <| bif ((!(decide ((x0.Slots.length:Int)=2)))||((!(nth x0.Slots (0:Int).toNat).Whole)&&(!(nth x0.Slots (1:Int).toNat).Whole))) then(some (false,())) else L2175_116 x0.Slots (x0.Slots.length:Int) 0 x0.Slots x0.Journal.Text x0.Journal.Sure):=(Dn_eq _ _).trans (by kernel_rfl)
theorem P2175_116 (s26:List Fw.Slot) (s27:Int) (s28:Int) (e0_0:List Fw.Slot) (e0_1:ByteArray) (e0_2:Int):L2175_116 s26 s27 s28 e0_0 e0_1 e0_2=(bif (decide (s28<s27)) then(gd ((decide (0≤s28))&&(decide (s28<(s26.length:Int)))) <| bif (nth s26 s28.toNat).Whole then((D2090 (nth s26 s28.toNat).Seq 0 99999).bind fun y0=>bif (!(!y0.1)) then((D2174 (nth s26 s28.toNat).Cells).bind fun y1=>bif ((!y0.1)||(!y1.1)) then(some (false,())) else L2175_116 s26 s27 (IntKind.wrap .i64 (s28+1)) e0_0 e0_1 e0_2) else ng (!(!y0.1)) <| gd ((!y0.1)&&true) <| some (false,())) else L2175_116 s26 s27 (IntKind.wrap .i64 (s28+1)) e0_0 e0_1 e0_2) else L2175_15 e0_0 e0_1 e0_2):=(Ln_eq _ _ _).trans (by kernel_rfl)
theorem P2175_15 (e0_0:List Fw.Slot) (e0_1:ByteArray) (e0_2:Int):L2175_15 e0_0 e0_1 e0_2=((D2192 (⟨e0_1,e0_2⟩:Fw.Journal)).bind fun y0=>some (y0.1,())):=(Ln_eq _ _ _).trans (by kernel_rfl)
noncomputable def L2176_52 (s0:List Fw.Tx) (s7:List Fw.Tx) (s8:Int) (s9:Int):Option (Bool×Unit):=Ln 91 52 (⟨39,[(0,.ok (.ro 88 s0)),(7,.ok (.ro 88 s7)),(8,.ok (.v (.int .i64 s8))),(9,.ok (.v (.int .i64 s9)))],[]⟩,0)
noncomputable def L2176_7  : Option (Bool×Unit):=Ln 91 7 (⟨39,[],[]⟩,0)
noncomputable def L2176_13516 (s0:List Fw.Tx) (s7:List Fw.Tx) (s8:Int) (s9:Int) (s16:List Fw.Tx) (s17:Int) (s18:Int) (e0_0:Int) (e0_1:Int) (e0_2:Int) (e0_3:Int) (e0_4:List Fw.Call) (e0_5:List Fw.Answer) (e0_6:List ByteArray) (e0_7:List ByteArray) (e0_8:List Int) (e0_9:Int):Option (Bool×Unit):=Ln 91 13516 (⟨39,[(0,.ok (.ro 88 s0)),(4,.ok (.pt 0 0)),(7,.ok (.ro 88 s7)),(8,.ok (.v (.int .i64 s8))),(9,.ok (.v (.int .i64 s9))),(16,.ok (.ro 88 s16)),(17,.ok (.v (.int .i64 s17))),(18,.ok (.v (.int .i64 s18)))],[(0,.var [.v (.int .i64 e0_0),.v (.int .i64 e0_1),.v (.int .i64 e0_2),.v (.int .i64 e0_3),.ro 136 e0_4,.ro 108 e0_5,.ro 9 e0_6,.ro 9 e0_7,.ro 3 e0_8,.v (.int .i64 e0_9)] 88)]⟩,1)
noncomputable def L2176_423 (s0:List Fw.Tx) (s7:List Fw.Tx) (s8:Int) (s9:Int):Option (Bool×Unit):=Ln 91 423 (⟨39,[(0,.ok (.ro 88 s0)),(7,.ok (.ro 88 s7)),(8,.ok (.v (.int .i64 s8))),(9,.ok (.v (.int .i64 s9)))],[]⟩,0)
theorem E2176 (x0:List Fw.Tx):D2176 x0=(L2176_52 x0 x0 (x0.length:Int) 0):=(Dn_eq _ _).trans (by kernel_rfl)
theorem P2176_52 (s0:List Fw.Tx) (s7:List Fw.Tx) (s8:Int) (s9:Int):L2176_52 s0 s7 s8 s9=(bif (decide (s9<s8)) then(gd ((decide (0≤s9))&&(decide (s9<(s7.length:Int)))) <| gd ((decide (0≤0))&&((decide (0≤s9))&&(decide (s9≤(s0.length:Int))))) <| L2176_13516 s0 s7 s8 s9 (cutL s0 (0:Int).toNat s9.toNat) ((cutL s0 (0:Int).toNat s9.toNat).length:Int) 0 (nth s7 s9.toNat).Id (nth s7 s9.toNat).Age (nth s7 s9.toNat).Proc (nth s7 s9.toNat).Began (nth s7 s9.toNat).Calls (nth s7 s9.toNat).Answers (nth s7 s9.toNat).Touch.Reads (nth s7 s9.toNat).Touch.Writes (nth s7 s9.toNat).Marks (nth s7 s9.toNat).State) else L2176_7):=(Ln_eq _ _ _).trans (by kernel_rfl)
theorem P2176_7  : L2176_7=(some (true,())):=(Ln_eq _ _ _).trans (by kernel_rfl)
theorem P2176_13516 (s0:List Fw.Tx) (s7:List Fw.Tx) (s8:Int) (s9:Int) (s16:List Fw.Tx) (s17:Int) (s18:Int) (e0_0:Int) (e0_1:Int) (e0_2:Int) (e0_3:Int) (e0_4:List Fw.Call) (e0_5:List Fw.Answer) (e0_6:List ByteArray) (e0_7:List ByteArray) (e0_8:List Int) (e0_9:Int):L2176_13516 s0 s7 s8 s9 s16 s17 s18 e0_0 e0_1 e0_2 e0_3 e0_4 e0_5 e0_6 e0_7 e0_8 e0_9=(bif (decide (s18<s17)) then(gd ((decide (0≤s18))&&(decide (s18<(s16.length:Int)))) <| bif ((decide (e0_9=1))&&(decide ((nth s16 s18.toNat).State=1))) then((D2302 (⟨e0_6,e0_7⟩:Fw.Touch) (nth s16 s18.toNat).Touch).bind fun y0=>bif y0.1 then(some (false,())) else L2176_13516 s0 s7 s8 s9 s16 s17 (IntKind.wrap .i64 (s18+1)) e0_0 e0_1 e0_2 e0_3 e0_4 e0_5 e0_6 e0_7 e0_8 e0_9) else L2176_13516 s0 s7 s8 s9 s16 s17 (IntKind.wrap .i64 (s18+1)) e0_0 e0_1 e0_2 e0_3 e0_4 e0_5 e0_6 e0_7 e0_8 e0_9) else L2176_423 s0 s7 s8 s9):=(Ln_eq _ _ _).trans (by kernel_rfl)
theorem P2176_423 (s0:List Fw.Tx) (s7:List Fw.Tx) (s8:Int) (s9:Int):L2176_423 s0 s7 s8 s9=(L2176_52 s0 s7 s8 (IntKind.wrap .i64 (s9+1))):=(Ln_eq _ _ _).trans (by kernel_rfl)
theorem E2180 (x0:List Fw.Cell) (x1:ByteArray):D2180 x0 x1=((D2303 x0 x1).bind fun y0=>some (y0.1,())):=(Dn_eq _ _).trans (by kernel_rfl)
theorem E2181 (x0:ByteArray) (x1:Int) (x2:ByteArray):D2181 x0 x1 x2=((D2080 x1).bind fun y0=>gd (decide ((x0.size+y0.1.size)≤9223372036854775807)) <| gd (decide (((x0++y0.1).size+x2.size)≤9223372036854775807)) <| some (((x0++y0.1)++x2),())):=(Dn_eq _ _).trans (by kernel_rfl)
theorem E2182 (x0:Int):D2182 x0=(itoaX (x0,())):=(Dn_eq _ _).trans (by kernel_rfl)
noncomputable def L2183_52 (s0:List Fw.Tx) (s1_0:Int) (s7:Int) (s8:Int):Option (Int×Unit):=Ln 92 52 (⟨19,[(0,.ok (.ro 88 s0)),(1,.ok (.fn 129 [.pe 3 s1_0 0])),(7,.ok (.v (.int .i64 s7))),(8,.ok (.v (.int .i64 s8)))],[]⟩,0)
noncomputable def L2183_7  : Option (Int×Unit):=Ln 92 7 (⟨19,[],[]⟩,0)
theorem E2183 (x0:List Fw.Tx) (x1:Int):D2183 x0 x1=(L2183_52 x0 x1 (x0.length:Int) 0):=(Dn_eq _ _).trans (by kernel_rfl)
theorem P2183_52 (s0:List Fw.Tx) (s1_0:Int) (s7:Int) (s8:Int):L2183_52 s0 s1_0 s7 s8=(bif (decide (s8<s7)) then(gd ((decide (0≤s8))&&(decide (s8<(s0.length:Int)))) <| (D2289 (nth s0 s8.toNat) s1_0).bind fun y0=>bif y0.1 then(some (s8,())) else L2183_52 s0 s1_0 s7 (IntKind.wrap .i64 (s8+1))) else L2183_7):=(Ln_eq _ _ _).trans (by kernel_rfl)
theorem P2183_7  : L2183_7=(some ((-1),())):=(Ln_eq _ _ _).trans (by kernel_rfl)
theorem E2184 (x0:Fw.Tx) (x1:Int):D2184 x0 x1=(some (((decide (x0.Id=x1))&&(decide (x0.State=1))),())):=(Dn_eq _ _).trans (by kernel_rfl)
theorem E2188 (x0:List Fw.Cell) (x1:Fw.Tx):D2188 x0 x1=((D2165 x1).bind fun y0=>(D2099 x0 y0.1).bind fun y1=>some (y1.1,())):=(Dn_eq _ _).trans (by kernel_rfl)
theorem E2192 (x0:Fw.Journal):D2192 x0=(bif (decide ((x0.Text.size:Int)≤20000)) then((D2090 x0.Sure 0 (x0.Text.size:Int)).bind fun y0=>some (y0.1,())) else some (false,())):=(Dn_eq _ _).trans (by kernel_rfl)
theorem E2194 (x0:ByteArray):D2194 x0=((D2312 x0 (tx [45])).bind fun y0=>bif (!y0.2.1) then(some ((tx []),())) else(D2313 y0.1).bind fun y1=>some (y1.1,())):=(Dn_eq _ _).trans (by kernel_rfl)
theorem E2202 (x0:List Fw.Cell):D2202 x0=((D2168 x0).bind fun y0=>some ((⟨y0.1,(⟨[],[]⟩:Fw.Touch)⟩:Fw.Mach),())):=(Dn_eq _ _).trans (by kernel_rfl)
noncomputable def L2203_116 (s8:List Fw.Step) (s9:Int) (s10:Int) (e1:List Fw.Cell) (e2:List ByteArray) (e3:List ByteArray):Option ((List Fw.Answer)×Fw.Mach×Unit):=Ln 160 116 (⟨25,[(0,.ok (.pt 0 0)),(5,.ok (.v (.slice none 0 0))),(8,.ok (.ro 138 s8)),(9,.ok (.v (.int .i64 s9))),(10,.ok (.v (.int .i64 s10)))],[(0,.var [.sl 1,.sl 2,.sl 3] 219),(1,.own 97 e1),(2,.own 9 e2),(3,.own 9 e3)]⟩,4)
noncomputable def L2203_15 (e1:List Fw.Cell) (e2:List ByteArray) (e3:List ByteArray):Option ((List Fw.Answer)×Fw.Mach×Unit):=Ln 160 15 (⟨25,[(0,.ok (.pt 0 0)),(5,.ok (.v (.slice none 0 0)))],[(0,.var [.sl 1,.sl 2,.sl 3] 219),(1,.own 97 e1),(2,.own 9 e2),(3,.own 9 e3)]⟩,4)
noncomputable def L2203_116b (s8:List Fw.Step) (s9:Int) (s10:Int) (e1:List Fw.Cell) (e2:List ByteArray) (e3:List ByteArray) (e4:List Fw.Answer):Option ((List Fw.Answer)×Fw.Mach×Unit):=Ln 160 116 (⟨25,[(0,.ok (.pt 0 0)),(5,.ok (.sl 4)),(8,.ok (.ro 138 s8)),(9,.ok (.v (.int .i64 s9))),(10,.ok (.v (.int .i64 s10)))],[(0,.var [.sl 1,.sl 2,.sl 3] 219),(1,.own 97 e1),(2,.own 9 e2),(3,.own 9 e3),(4,.own 108 e4)]⟩,5)
noncomputable def L2203_15b (e1:List Fw.Cell) (e2:List ByteArray) (e3:List ByteArray) (e4:List Fw.Answer):Option ((List Fw.Answer)×Fw.Mach×Unit):=Ln 160 15 (⟨25,[(0,.ok (.pt 0 0)),(5,.ok (.sl 4))],[(0,.var [.sl 1,.sl 2,.sl 3] 219),(1,.own 97 e1),(2,.own 9 e2),(3,.own 9 e3),(4,.own 108 e4)]⟩,5)
theorem E2203 (x0:Fw.Mach) (x1:List Fw.Step):D2203 x0 x1=(L2203_116 x1 (x1.length:Int) 0 x0.Store x0.Touch.Reads x0.Touch.Writes):=(Dn_eq _ _).trans (by kernel_rfl)
theorem P2203_116 (s8:List Fw.Step) (s9:Int) (s10:Int) (e1:List Fw.Cell) (e2:List ByteArray) (e3:List ByteArray):L2203_116 s8 s9 s10 e1 e2 e3=(bif (decide (s10<s9)) then(gd ((decide (0≤s10))&&(decide (s10<(s8.length:Int)))) <| (D2308 (⟨e1,(⟨e2,e3⟩:Fw.Touch)⟩:Fw.Mach) (nth s8 s10.toNat).Proc (nth s8 s10.toNat).Call).bind fun y0=>gd ((decide ((1*32)≤140737488355328))&&(decide (1≤9223372036854775807))) <| L2203_116b s8 s9 (IntKind.wrap .i64 (s10+1)) y0.2.1.Store y0.2.1.Touch.Reads y0.2.1.Touch.Writes [y0.1]) else L2203_15 e1 e2 e3):=(Ln_eq _ _ _).trans (by kernel_rfl)
theorem P2203_15 (e1:List Fw.Cell) (e2:List ByteArray) (e3:List ByteArray):L2203_15 e1 e2 e3=(some ([],((⟨e1,(⟨e2,e3⟩:Fw.Touch)⟩:Fw.Mach),()))):=(Ln_eq _ _ _).trans (by kernel_rfl)
theorem P2203_116b (s8:List Fw.Step) (s9:Int) (s10:Int) (e1:List Fw.Cell) (e2:List ByteArray) (e3:List ByteArray) (e4:List Fw.Answer):L2203_116b s8 s9 s10 e1 e2 e3 e4=(bif (decide (s10<s9)) then(gd ((decide (0≤s10))&&(decide (s10<(s8.length:Int)))) <| (D2308 (⟨e1,(⟨e2,e3⟩:Fw.Touch)⟩:Fw.Mach) (nth s8 s10.toNat).Proc (nth s8 s10.toNat).Call).bind fun y0=>gd ((decide (((e4.length+1)*32)≤140737488355328))&&(decide ((e4.length+1)≤9223372036854775807))) <| L2203_116b s8 s9 (IntKind.wrap .i64 (s10+1)) y0.2.1.Store y0.2.1.Touch.Reads y0.2.1.Touch.Writes (e4++[y0.1])) else L2203_15b e1 e2 e3 e4):=(Ln_eq _ _ _).trans (by kernel_rfl)
theorem P2203_15b (e1:List Fw.Cell) (e2:List ByteArray) (e3:List ByteArray) (e4:List Fw.Answer):L2203_15b e1 e2 e3 e4=(some (e4,((⟨e1,(⟨e2,e3⟩:Fw.Touch)⟩:Fw.Mach),()))):=(Ln_eq _ _ _).trans (by kernel_rfl)
theorem E2213 (x0:List UInt8):D2213 x0=(hexX (x0,())):=(Dn_eq _ _).trans (by kernel_rfl)
theorem E2224 (x0:List Fw.Entry):D2224 x0=(cloneX (x0,())):=(Dn_eq _ _).trans (by kernel_rfl)
theorem E2225 (x0:List Fw.Step):D2225 x0=(cloneX (x0,())):=(Dn_eq _ _).trans (by kernel_rfl)
end Go.Proofs.YtapfpflmcgfbkaaGreatDoor.Ri

namespace Go.Proofs.YtapfpflmcgfbkaaGreatDoor.Ri
open Go.Proofs.YtapfpflmcgfbkaaGreatDoor.Fw
open Go.RowKit
set_option linter.unusedVariables false
set_option maxRecDepth 100000
noncomputable def L2254_52 (s0:ByteArray) (s5:Int) (s6:Int):Option (Bool×Unit):=Ln 127 52 (⟨29,[(0,.ok (.v (.string s0))),(5,.ok (.v (.int .i64 s5))),(6,.ok (.v (.int .i64 s6)))],[]⟩,0)
noncomputable def L2254_7 (s0:ByteArray):Option (Bool×Unit):=Ln 127 7 (⟨29,[(0,.ok (.v (.string s0)))],[]⟩,0)
theorem E2254 (x0:ByteArray):D2254 x0=(L2254_52 x0 (x0.size:Int) 0):=(Dn_eq _ _).trans (by kernel_rfl)
theorem P2254_52 (s0:ByteArray) (s5:Int) (s6:Int):L2254_52 s0 s5 s6=(bif (decide (s6<s5)) then(gd ((decide (0≤s6))&&(decide (s6<(s0.size:Int)))) <| gd (((decide (0≤s6))&&(decide (s6<(s0.size:Int))))||(!(!(decide (((byteAt s0 s6.toNat).toNat:Int)<33))))) <| gd (((decide (0≤s6))&&(decide (s6<(s0.size:Int))))||(!(!((decide (((byteAt s0 s6.toNat).toNat:Int)<33))||(decide (((byteAt s0 s6.toNat).toNat:Int)>126)))))) <| bif (((decide (((byteAt s0 s6.toNat).toNat:Int)<33))||(decide (((byteAt s0 s6.toNat).toNat:Int)>126)))||(decide (((byteAt s0 s6.toNat).toNat:Int)=42))) then(some (false,())) else L2254_52 s0 s5 (IntKind.wrap .i64 (s6+1))) else L2254_7 s0):=(Ln_eq _ _ _).trans (by kernel_rfl)
theorem P2254_7 (s0:ByteArray):L2254_7 s0=((D2090 (s0.size:Int) 1 40).bind fun y0=>some (y0.1,())):=(Ln_eq _ _ _).trans (by kernel_rfl)
theorem E2256 (x0:ByteArray):D2256 x0=((D2106 x0).bind fun y0=>some (y0.1,())):=(Dn_eq _ _).trans (by kernel_rfl)
theorem E2258 (x0:List Fw.Cell) (x1:List Fw.Cell):D2258 x0 x1=(diffX (x0,x1,())):=(Dn_eq _ _).trans (by kernel_rfl)
theorem E2289 (x0:Fw.Tx) (x1:Int):D2289 x0 x1=(some ((decide (x0.Id=x1)),())):=(Dn_eq _ _).trans (by kernel_rfl)
theorem E2290 (x0:List Fw.Call):D2290 x0=(cloneX (x0,())):=(Dn_eq _ _).trans (by kernel_rfl)
theorem E2291 (x0:List Int):D2291 x0=(cloneX (x0,())):=(Dn_eq _ _).trans (by kernel_rfl)
theorem E2292 (x0:Fw.Touch):D2292 x0=((D2173 x0.Reads).bind fun y0=>(D2173 x0.Writes).bind fun y1=>some ((⟨y0.1,y1.1⟩:Fw.Touch),())):=(Dn_eq _ _).trans (by kernel_rfl)
noncomputable def L2293_116 (s1:List Fw.Cell) (s13:List ByteArray) (s14:Int) (s15:Int) (e0:List Fw.Cell):Option ((List Fw.Cell)×Unit):=Ln 94 116 (⟨27,[(1,.ok (.ro 97 s1)),(7,.ok (.sl 0)),(13,.ok (.ro 9 s13)),(14,.ok (.v (.int .i64 s14))),(15,.ok (.v (.int .i64 s15)))],[(0,.own 97 e0)]⟩,1)
noncomputable def L2293_15 (e0:List Fw.Cell):Option ((List Fw.Cell)×Unit):=Ln 94 15 (⟨27,[(7,.ok (.sl 0))],[(0,.own 97 e0)]⟩,1)
theorem E2293 (x0:List Fw.Cell) (x1:List Fw.Cell) (x2:Fw.Touch):D2293 x0 x1 x2=((D2168 x0).bind fun y0=>L2293_116 x1 x2.Writes (x2.Writes.length:Int) 0 y0.1):=(Dn_eq _ _).trans (by kernel_rfl)
theorem P2293_116 (s1:List Fw.Cell) (s13:List ByteArray) (s14:Int) (s15:Int) (e0:List Fw.Cell):L2293_116 s1 s13 s14 s15 e0=(bif (decide (s15<s14)) then(gd ((decide (0≤s15))&&(decide (s15<(s13.length:Int)))) <| (D2078 s1 (nth s13 s15.toNat)).bind fun y0=>(D2319 e0 (nth s13 s15.toNat) y0.1).bind fun y1=>L2293_116 s1 s13 s14 (IntKind.wrap .i64 (s15+1)) y1.1) else L2293_15 e0):=(Ln_eq _ _ _).trans (by kernel_rfl)
theorem P2293_15 (e0:List Fw.Cell):L2293_15 e0=(some (e0,())):=(Ln_eq _ _ _).trans (by kernel_rfl)
theorem E2294 (x0:Fw.Journal) (x1:ByteArray):D2294 x0 x1=((D2192 x0).bind fun y0=>bif ((!y0.1)||(decide ((IntKind.wrap .i64 ((x0.Text.size:Int)+(x1.size:Int)))>20000))) then(some (x0,(false,()))) else gd (decide ((x0.Text.size+x1.size)≤9223372036854775807)) <| some ((⟨(x0.Text++x1),x0.Sure⟩:Fw.Journal),(true,()))):=(Dn_eq _ _).trans (by kernel_rfl)
theorem E2295 (x0:Fw.Mach) (x1:ByteArray):D2295 x0 x1=((D2387 x0 x1).bind fun y0=>(D2311 y0.1).bind fun y1=>some (y1.1,(y0.2.1,()))):=(Dn_eq _ _).trans (by kernel_rfl)
theorem E2296 (x0:Fw.Mach) (x1:ByteArray):D2296 x0 x1=((D2295 x0 x1).bind fun y0=>bif (decide ((IntKind.wrap .i64 (y0.1+1))>999)) then(some (0,(y0.2.1,()))) else(D2297 y0.2.1 x1 (IntKind.wrap .i64 (y0.1+1))).bind fun y1=>some ((IntKind.wrap .i64 (y0.1+1)),(y1.1,()))):=(Dn_eq _ _).trans (by kernel_rfl)
noncomputable def L2297_7 (s1:ByteArray) (s6:ByteArray) (e1:List Fw.Cell) (e2:List ByteArray) (e3:List ByteArray):Option (Fw.Mach×Unit):=Ln 286 7 (⟨15,[(0,.ok (.pt 0 0)),(1,.ok (.v (.string s1))),(6,.ok (.v (.string s6)))],[(0,.var [.sl 1,.sl 2,.sl 3] 219),(1,.own 97 e1),(2,.own 9 e2),(3,.own 9 e3)]⟩,4)
theorem E2297 (x0:Fw.Mach) (x1:ByteArray) (x2:Int):D2297 x0 x1 x2=((D2090 x2 1 999).bind fun y0=>bif y0.1 then((D2080 x2).bind fun y1=>L2297_7 x1 y1.1 x0.Store x0.Touch.Reads x0.Touch.Writes) else L2297_7 x1 (tx []) x0.Store x0.Touch.Reads x0.Touch.Writes):=(Dn_eq _ _).trans (by kernel_rfl)
theorem P2297_7 (s1:ByteArray) (s6:ByteArray) (e1:List Fw.Cell) (e2:List ByteArray) (e3:List ByteArray):L2297_7 s1 s6 e1 e2 e3=((D2388 (⟨e1,(⟨e2,e3⟩:Fw.Touch)⟩:Fw.Mach) s1 s6).bind fun y0=>some (y0.1,())):=(Ln_eq _ _ _).trans (by kernel_rfl)
theorem E2301 (x0:List Fw.Slot):D2301 x0=(cloneX (x0,())):=(Dn_eq _ _).trans (by kernel_rfl)
theorem E2302 (x0:Fw.Touch) (x1:Fw.Touch):D2302 x0 x1=((D2392 x0.Writes x1.Reads).bind fun y0=>bif (!y0.1) then((D2392 x0.Writes x1.Writes).bind fun y1=>bif (!y1.1) then((D2392 x1.Writes x0.Reads).bind fun y2=>some (y2.1,())) else some (true,())) else some (true,())):=(Dn_eq _ _).trans (by kernel_rfl)
noncomputable def L2303_52 (s0:List Fw.Cell) (s1_0:ByteArray) (s7:Int) (s8:Int):Option (Int×Unit):=Ln 156 52 (⟨19,[(0,.ok (.ro 97 s0)),(1,.ok (.fn 164 [.pe 9 s1_0 0])),(7,.ok (.v (.int .i64 s7))),(8,.ok (.v (.int .i64 s8)))],[]⟩,0)
noncomputable def L2303_7  : Option (Int×Unit):=Ln 156 7 (⟨19,[],[]⟩,0)
theorem E2303 (x0:List Fw.Cell) (x1:ByteArray):D2303 x0 x1=(L2303_52 x0 x1 (x0.length:Int) 0):=(Dn_eq _ _).trans (by kernel_rfl)
theorem P2303_52 (s0:List Fw.Cell) (s1_0:ByteArray) (s7:Int) (s8:Int):L2303_52 s0 s1_0 s7 s8=(bif (decide (s8<s7)) then(gd ((decide (0≤s8))&&(decide (s8<(s0.length:Int)))) <| (D2304 (nth s0 s8.toNat) s1_0).bind fun y0=>bif y0.1 then(some (s8,())) else L2303_52 s0 s1_0 s7 (IntKind.wrap .i64 (s8+1))) else L2303_7):=(Ln_eq _ _ _).trans (by kernel_rfl)
theorem P2303_7  : L2303_7=(some ((-1),())):=(Ln_eq _ _ _).trans (by kernel_rfl)
theorem E2304 (x0:Fw.Cell) (x1:ByteArray):D2304 x0 x1=(some ((decide (x0.Key=x1)),())):=(Dn_eq _ _).trans (by kernel_rfl)
noncomputable def L2308_251903 (s1:Int) (s24:Int) (s77:Bool) (e1:List Fw.Cell) (e2:List ByteArray) (e3:List ByteArray) (e4_0:Int) (e4_1:ByteArray) (e4_2:ByteArray) (e4_3:Int) (e4_4:Int) (e4_5:ByteArray) (e5_0:Int) (e5_1:Int) (e5_2:ByteArray) (e6_0:Int) (e6_1:Int) (e6_2:ByteArray):Option (Fw.Answer×Fw.Mach×Unit):=Ln 177 251903 (⟨243,[(0,.ok (.pt 0 0)),(1,.ok (.v (.int .i64 s1))),(5,.ok (.pt 4 0)),(6,.ok (.pt 5 0)),(7,.ok (.pt 6 0)),(24,.ok (.v (.int .i64 s24))),(77,.ok (.v (.bool s77)))],[(0,.var [.sl 1,.sl 2,.sl 3] 219),(1,.own 97 e1),(2,.own 9 e2),(3,.own 9 e3),(4,.var [.v (.int .i64 e4_0),.v (.string e4_1),.v (.string e4_2),.v (.int .i64 e4_3),.v (.int .i64 e4_4),.v (.string e4_5)] 136),(5,.var [.v (.int .i64 e5_0),.v (.int .i64 e5_1),.v (.string e5_2)] 108),(6,.var [.v (.int .i64 e6_0),.v (.int .i64 e6_1),.v (.string e6_2)] 108)]⟩,7)
noncomputable def L2308_1007604 (s65:Int) (s66:Int) (e1:List Fw.Cell) (e2:List ByteArray) (e3:List ByteArray) (e4_0:Int) (e4_1:Int) (e4_2:ByteArray) (e5_0:Int) (e5_1:Int) (e5_2:ByteArray) (e6:List ByteArray):Option (Fw.Answer×Fw.Mach×Unit):=Ln 177 1007604 (⟨243,[(0,.ok (.pt 0 0)),(6,.ok (.pt 4 0)),(7,.ok (.pt 5 0)),(64,.ok (.sl 6)),(65,.ok (.v (.int .i64 s65))),(66,.ok (.v (.int .i64 s66)))],[(0,.var [.sl 1,.sl 2,.sl 3] 219),(1,.own 97 e1),(2,.own 9 e2),(3,.own 9 e3),(4,.var [.v (.int .i64 e4_0),.v (.int .i64 e4_1),.v (.string e4_2)] 108),(5,.var [.v (.int .i64 e5_0),.v (.int .i64 e5_1),.v (.string e5_2)] 108),(6,.own 9 e6)]⟩,7)
noncomputable def L2308_31 (e1:List Fw.Cell) (e2:List ByteArray) (e3:List ByteArray) (e4_0:Int) (e4_1:Int) (e4_2:ByteArray) (e5_0:Int) (e5_1:Int) (e5_2:ByteArray):Option (Fw.Answer×Fw.Mach×Unit):=Ln 177 31 (⟨243,[(0,.ok (.pt 0 0)),(6,.ok (.pt 4 0)),(7,.ok (.pt 5 0))],[(0,.var [.sl 1,.sl 2,.sl 3] 219),(1,.own 97 e1),(2,.own 9 e2),(3,.own 9 e3),(4,.var [.v (.int .i64 e4_0),.v (.int .i64 e4_1),.v (.string e4_2)] 108),(5,.var [.v (.int .i64 e5_0),.v (.int .i64 e5_1),.v (.string e5_2)] 108)]⟩,6)
noncomputable def L2308_66035122164 (s162:Int) (s163:Int) (e1:List Fw.Cell) (e2:List ByteArray) (e3:List ByteArray) (e4_0:Int) (e4_1:Int) (e4_2:ByteArray) (e5_0:Int) (e5_1:Int) (e5_2:ByteArray) (e6:List Int):Option (Fw.Answer×Fw.Mach×Unit):=Ln 177 66035122164 (⟨243,[(0,.ok (.pt 0 0)),(6,.ok (.pt 4 0)),(7,.ok (.pt 5 0)),(161,.ok (.sl 6)),(162,.ok (.v (.int .i64 s162))),(163,.ok (.v (.int .i64 s163)))],[(0,.var [.sl 1,.sl 2,.sl 3] 219),(1,.own 97 e1),(2,.own 9 e2),(3,.own 9 e3),(4,.var [.v (.int .i64 e4_0),.v (.int .i64 e4_1),.v (.string e4_2)] 108),(5,.var [.v (.int .i64 e5_0),.v (.int .i64 e5_1),.v (.string e5_2)] 108),(6,.own 3 e6)]⟩,7)
theorem E2308 (x0:Fw.Mach) (x1:Int) (x2:Fw.Call):D2308 x0 x1 x2=((D2394 x0 x1).bind fun y0=>bif (!(decide (y0.1=1))) then(some ((⟨2,0,(tx [])⟩:Fw.Answer),(y0.2.1,()))) else(D2395 x2).bind fun y1=>bif (!y1.1) then(some ((⟨4,0,(tx [])⟩:Fw.Answer),(y0.2.1,()))) else bif (decide (x2.Kind=1)) then((D2396 y0.2.1 x2.Name).bind fun y6=>L2308_31 y6.2.2.1.Store y6.2.2.1.Touch.Reads y6.2.2.1.Touch.Writes 0 0 (tx []) y6.2.1 y6.1 (tx [])) else bif (decide (x2.Kind=2)) then((D2397 y0.2.1 x2.Name x2.To).bind fun y5=>L2308_31 y5.2.1.Store y5.2.1.Touch.Reads y5.2.1.Touch.Writes 0 0 (tx []) y5.1 0 (tx [])) else bif (decide (x2.Kind=3)) then((D2398 y0.2.1 x2.Name).bind fun y4=>L2308_31 y4.2.1.Store y4.2.1.Touch.Reads y4.2.1.Touch.Writes 0 0 (tx []) y4.1 0 (tx [])) else bif (decide (x2.Kind=4)) then((D2399 y0.2.1 x2.Name x2.To).bind fun y3=>L2308_31 y3.2.1.Store y3.2.1.Touch.Reads y3.2.1.Touch.Writes 0 0 (tx []) y3.1 0 (tx [])) else bif (decide (x2.Kind=5)) then((D2400 y0.2.1).bind fun y2=>L2308_1007604 (y2.1.length:Int) 0 y2.2.1.Store y2.2.1.Touch.Reads y2.2.1.Touch.Writes 0 0 (tx []) 0 0 (tx []) y2.1) else bif (decide (x2.Kind=6)) then(L2308_251903 x1 x2.Kind (decide (x2.Kind=6)) y0.2.1.Store y0.2.1.Touch.Reads y0.2.1.Touch.Writes x2.Kind x2.Name x2.To x2.A x2.B x2.Text 0 0 (tx []) 0 0 (tx [])) else bif (decide (x2.Kind=7)) then(L2308_251903 x1 x2.Kind (decide (x2.Kind=7)) y0.2.1.Store y0.2.1.Touch.Reads y0.2.1.Touch.Writes x2.Kind x2.Name x2.To x2.A x2.B x2.Text 0 0 (tx []) 0 0 (tx [])) else L2308_251903 x1 x2.Kind (decide (x2.Kind=8)) y0.2.1.Store y0.2.1.Touch.Reads y0.2.1.Touch.Writes x2.Kind x2.Name x2.To x2.A x2.B x2.Text 0 0 (tx []) 0 0 (tx [])):=(Dn_eq _ _).trans (by kernel_rfl)
theorem P2308_251903 (s1:Int) (s24:Int) (s77:Bool) (e1:List Fw.Cell) (e2:List ByteArray) (e3:List ByteArray) (e4_0:Int) (e4_1:ByteArray) (e4_2:ByteArray) (e4_3:Int) (e4_4:Int) (e4_5:ByteArray) (e5_0:Int) (e5_1:Int) (e5_2:ByteArray) (e6_0:Int) (e6_1:Int) (e6_2:ByteArray):L2308_251903 s1 s24 s77 e1 e2 e3 e4_0 e4_1 e4_2 e4_3 e4_4 e4_5 e5_0 e5_1 e5_2 e6_0 e6_1 e6_2=(bif s77 then((D2401 (⟨e1,(⟨e2,e3⟩:Fw.Touch)⟩:Fw.Mach) (⟨e4_0,e4_1,e4_2,e4_3,e4_4,e4_5⟩:Fw.Call)).bind fun y16=>some (y16.1,(y16.2.1,()))) else bif (decide (s24=9)) then((D2402 (⟨e1,(⟨e2,e3⟩:Fw.Touch)⟩:Fw.Mach)).bind fun y15=>L2308_31 y15.2.2.1.Store y15.2.2.1.Touch.Reads y15.2.2.1.Touch.Writes e5_0 e5_1 e5_2 y15.2.1 y15.1 e6_2) else bif (decide (s24=10)) then((D2403 (⟨e1,(⟨e2,e3⟩:Fw.Touch)⟩:Fw.Mach) e4_3 e4_5).bind fun y14=>L2308_31 y14.2.1.Store y14.2.1.Touch.Reads y14.2.1.Touch.Writes e5_0 e5_1 e5_2 y14.1 e6_1 e6_2) else bif (decide (s24=11)) then((D2404 (⟨e1,(⟨e2,e3⟩:Fw.Touch)⟩:Fw.Mach) e4_3).bind fun y13=>L2308_31 y13.2.2.1.Store y13.2.2.1.Touch.Reads y13.2.2.1.Touch.Writes e5_0 e5_1 e5_2 y13.2.1 e6_1 y13.1) else bif (decide (s24=12)) then((D2167 (⟨e1,(⟨e2,e3⟩:Fw.Touch)⟩:Fw.Mach) s1).bind fun y11=>bif (decide (y11.2.1=0)) then((D2405 y11.2.2.1 s1 y11.1).bind fun y12=>L2308_31 y12.1.Store y12.1.Touch.Reads y12.1.Touch.Writes e5_0 e5_1 e5_2 y11.2.1 y11.1 e6_2) else L2308_31 y11.2.2.1.Store y11.2.2.1.Touch.Reads y11.2.2.1.Touch.Writes e5_0 e5_1 e5_2 y11.2.1 y11.1 e6_2) else bif (decide (s24=13)) then((D2406 (⟨e1,(⟨e2,e3⟩:Fw.Touch)⟩:Fw.Mach) s1 e4_3).bind fun y9=>bif (decide (y9.1=0)) then((D2407 y9.2.1 s1).bind fun y10=>L2308_31 y10.1.Store y10.1.Touch.Reads y10.1.Touch.Writes e5_0 e5_1 e5_2 y9.1 e6_1 e6_2) else L2308_31 y9.2.1.Store y9.2.1.Touch.Reads y9.2.1.Touch.Writes e5_0 e5_1 e5_2 y9.1 e6_1 e6_2) else bif (decide (s24=14)) then((D2408 (⟨e1,(⟨e2,e3⟩:Fw.Touch)⟩:Fw.Mach) s1 e4_3).bind fun y8=>L2308_31 y8.2.2.1.Store y8.2.2.1.Touch.Reads y8.2.2.1.Touch.Writes e5_0 e5_1 e5_2 y8.2.1 y8.1 e6_2) else bif (decide (s24=15)) then((D2409 (⟨e1,(⟨e2,e3⟩:Fw.Touch)⟩:Fw.Mach) s1).bind fun y7=>L2308_66035122164 (y7.1.length:Int) 0 y7.2.1.Store y7.2.1.Touch.Reads y7.2.1.Touch.Writes e5_0 e5_1 e5_2 e6_0 e6_1 e6_2 y7.1) else bif (decide (s24=16)) then((D2410 (⟨e1,(⟨e2,e3⟩:Fw.Touch)⟩:Fw.Mach) e4_3 e4_4).bind fun y6=>L2308_31 y6.2.1.Store y6.2.1.Touch.Reads y6.2.1.Touch.Writes e5_0 e5_1 e5_2 y6.1 e6_1 e6_2) else bif (decide (s24=17)) then((D2411 (⟨e1,(⟨e2,e3⟩:Fw.Touch)⟩:Fw.Mach) s1).bind fun y5=>L2308_31 y5.2.2.1.Store y5.2.2.1.Touch.Reads y5.2.2.1.Touch.Writes e5_0 e5_1 e5_2 y5.2.1 y5.1 e6_2) else bif (decide (s24=18)) then((D2412 (⟨e1,(⟨e2,e3⟩:Fw.Touch)⟩:Fw.Mach) s1 e4_3).bind fun y4=>L2308_31 y4.2.1.Store y4.2.1.Touch.Reads y4.2.1.Touch.Writes e5_0 e5_1 e5_2 y4.1 e6_1 e6_2) else bif (decide (s24=19)) then((D2413 (⟨e1,(⟨e2,e3⟩:Fw.Touch)⟩:Fw.Mach) e4_3).bind fun y3=>L2308_31 y3.2.2.1.Store y3.2.2.1.Touch.Reads y3.2.2.1.Touch.Writes e5_0 e5_1 e5_2 y3.2.1 y3.1 e6_2) else bif (decide (s24=20)) then((D2414 (⟨e1,(⟨e2,e3⟩:Fw.Touch)⟩:Fw.Mach) s1 e4_3 e4_5).bind fun y2=>L2308_31 y2.2.1.Store y2.2.1.Touch.Reads y2.2.1.Touch.Writes e5_0 e5_1 e5_2 y2.1 e6_1 e6_2) else bif (decide (s24=21)) then((D2415 (⟨e1,(⟨e2,e3⟩:Fw.Touch)⟩:Fw.Mach) s1 e4_3).bind fun y1=>L2308_31 y1.2.2.1.Store y1.2.2.1.Touch.Reads y1.2.2.1.Touch.Writes e5_0 e5_1 e5_2 y1.2.1 e6_1 y1.1) else bif (decide (s24=22)) then((D2416 (⟨e1,(⟨e2,e3⟩:Fw.Touch)⟩:Fw.Mach) e4_5).bind fun y0=>L2308_31 y0.2.1.Store y0.2.1.Touch.Reads y0.2.1.Touch.Writes e5_0 e5_1 e5_2 y0.1 e6_1 e6_2) else L2308_31 e1 e2 e3 e5_0 e5_1 e5_2 e6_0 e6_1 e6_2):=(Ln_eq _ _ _).trans (by kernel_rfl)
theorem P2308_1007604 (s65:Int) (s66:Int) (e1:List Fw.Cell) (e2:List ByteArray) (e3:List ByteArray) (e4_0:Int) (e4_1:Int) (e4_2:ByteArray) (e5_0:Int) (e5_1:Int) (e5_2:ByteArray) (e6:List ByteArray):L2308_1007604 s65 s66 e1 e2 e3 e4_0 e4_1 e4_2 e5_0 e5_1 e5_2 e6=(bif (decide (s66<s65)) then(gd ((decide (0≤s66))&&(decide (s66<(e6.length:Int)))) <| gd (decide (((nth e6 s66.toNat).size+(tx [32]).size)≤9223372036854775807)) <| gd (decide ((e5_2.size+((nth e6 s66.toNat)++(tx [32])).size)≤9223372036854775807)) <| L2308_1007604 s65 (IntKind.wrap .i64 (s66+1)) e1 e2 e3 e4_0 e4_1 e4_2 e5_0 e5_1 (e5_2++((nth e6 s66.toNat)++(tx [32]))) e6) else L2308_31 e1 e2 e3 e4_0 e4_1 e4_2 e5_0 e5_1 e5_2):=(Ln_eq _ _ _).trans (by kernel_rfl)
theorem P2308_31 (e1:List Fw.Cell) (e2:List ByteArray) (e3:List ByteArray) (e4_0:Int) (e4_1:Int) (e4_2:ByteArray) (e5_0:Int) (e5_1:Int) (e5_2:ByteArray):L2308_31 e1 e2 e3 e4_0 e4_1 e4_2 e5_0 e5_1 e5_2=(some ((⟨e5_0,e5_1,e5_2⟩:Fw.Answer),((⟨e1,(⟨e2,e3⟩:Fw.Touch)⟩:Fw.Mach),()))):=(Ln_eq _ _ _).trans (by kernel_rfl)
theorem P2308_66035122164 (s162:Int) (s163:Int) (e1:List Fw.Cell) (e2:List ByteArray) (e3:List ByteArray) (e4_0:Int) (e4_1:Int) (e4_2:ByteArray) (e5_0:Int) (e5_1:Int) (e5_2:ByteArray) (e6:List Int):L2308_66035122164 s162 s163 e1 e2 e3 e4_0 e4_1 e4_2 e5_0 e5_1 e5_2 e6=(bif (decide (s163<s162)) then(gd ((decide (0≤s163))&&(decide (s163<(e6.length:Int)))) <| (D2080 (nth e6 s163.toNat)).bind fun y0=>gd (decide ((y0.1.size+(tx [32]).size)≤9223372036854775807)) <| gd (decide ((e5_2.size+(y0.1++(tx [32])).size)≤9223372036854775807)) <| L2308_66035122164 s162 (IntKind.wrap .i64 (s163+1)) e1 e2 e3 e4_0 e4_1 e4_2 e5_0 e5_1 (e5_2++(y0.1++(tx [32]))) e6) else L2308_31 e1 e2 e3 e4_0 e4_1 e4_2 e5_0 e5_1 e5_2):=(Ln_eq _ _ _).trans (by kernel_rfl)
theorem E2310 (x0:List ByteArray) (x1:ByteArray):D2310 x0 x1=((D2417 x0 x1).bind fun y0=>bif (decide (y0.1<0)) then(gd ((decide (((x0.length+1)*16)≤140737488355328))&&(decide ((x0.length+1)≤9223372036854775807))) <| some ((x0++[x1]),())) else gd ((decide (0≤y0.1))&&(decide (y0.1<(x0.length:Int)))) <| bif (decide ((nth x0 y0.1.toNat)=x1)) then(some (x0,())) else(D2419 x0 y0.1 [x1]).bind fun y1=>some (y1.1,())):=(Dn_eq _ _).trans (by kernel_rfl)
theorem E2311 (x0:ByteArray):D2311 x0=((D2420 x0).bind fun y0=>bif (decide (y0.1>999)) then(some (0,())) else some (y0.1,())):=(Dn_eq _ _).trans (by kernel_rfl)
theorem E2312 (x0:ByteArray) (x1:ByteArray):D2312 x0 x1=((D5245 x0 x1).bind fun y0=>some (y0.1,(y0.2.1,()))):=(Dn_eq _ _).trans (by kernel_rfl)
theorem E2313 (x0:ByteArray):D2313 x0=(unhexX (x0,())):=(Dn_eq _ _).trans (by kernel_rfl)
noncomputable def L2319_127 (s2:ByteArray) (s4:ByteArray) (s7:Int) (e0:List Fw.Cell):Option ((List Fw.Cell)×Unit):=Ln 131 127 (⟨37,[(0,.ok (.sl 0)),(2,.ok (.v (.string s2))),(4,.ok (.pe 9 s4 0)),(7,.ok (.v (.int .i64 s7)))],[(0,.own 97 e0)]⟩,1)
theorem E2319 (x0:List Fw.Cell) (x1:ByteArray) (x2:ByteArray):D2319 x0 x1 x2=((D2254 x1).bind fun y0=>bif ((!y0.1)||(decide ((x2.size:Int)>60))) then(some (x0,())) else(D2425 x0 x1).bind fun y1=>bif (decide (x2=(tx []))) then(some (y1.1,())) else(D3303 y1.1 x1).bind fun y2=>bif (decide (y2.1<0)) then(L2319_127 x2 x1 (y1.1.length:Int) y1.1) else L2319_127 x2 x1 y2.1 y1.1):=(Dn_eq _ _).trans (by kernel_rfl)
theorem P2319_127 (s2:ByteArray) (s4:ByteArray) (s7:Int) (e0:List Fw.Cell):L2319_127 s2 s4 s7 e0=((D2428 e0 s7 [(⟨s4,s2⟩:Fw.Cell)]).bind fun y0=>some (y0.1,())):=(Ln_eq _ _ _).trans (by kernel_rfl)
theorem E2344 (x0:List ByteArray) (x1:ByteArray):D2344 x0 x1=((D4417 x0 x1).bind fun y0=>some ((decide (y0.1≥0)),())):=(Dn_eq _ _).trans (by kernel_rfl)
theorem E2387 (x0:Fw.Mach) (x1:ByteArray):D2387 x0 x1=((D2310 x0.Touch.Reads x1).bind fun y0=>(D2078 x0.Store x1).bind fun y1=>some (y1.1,((⟨x0.Store,(⟨y0.1,x0.Touch.Writes⟩:Fw.Touch)⟩:Fw.Mach),()))):=(Dn_eq _ _).trans (by kernel_rfl)
theorem E2388 (x0:Fw.Mach) (x1:ByteArray) (x2:ByteArray):D2388 x0 x1 x2=((D2310 x0.Touch.Writes x1).bind fun y0=>(D2319 x0.Store x1 x2).bind fun y1=>some ((⟨y1.1,(⟨x0.Touch.Reads,y0.1⟩:Fw.Touch)⟩:Fw.Mach),())):=(Dn_eq _ _).trans (by kernel_rfl)
noncomputable def L2392_52 (s1:List ByteArray) (s7:List ByteArray) (s8:Int) (s9:Int):Option (Bool×Unit):=Ln 153 52 (⟨17,[(1,.ok (.ro 9 s1)),(7,.ok (.ro 9 s7)),(8,.ok (.v (.int .i64 s8))),(9,.ok (.v (.int .i64 s9)))],[]⟩,0)
noncomputable def L2392_7  : Option (Bool×Unit):=Ln 153 7 (⟨17,[],[]⟩,0)
theorem E2392 (x0:List ByteArray) (x1:List ByteArray):D2392 x0 x1=(L2392_52 x1 x0 (x0.length:Int) 0):=(Dn_eq _ _).trans (by kernel_rfl)
theorem P2392_52 (s1:List ByteArray) (s7:List ByteArray) (s8:Int) (s9:Int):L2392_52 s1 s7 s8 s9=(bif (decide (s9<s8)) then(gd ((decide (0≤s9))&&(decide (s9<(s7.length:Int)))) <| (D2344 s1 (nth s7 s9.toNat)).bind fun y0=>bif y0.1 then(some (true,())) else L2392_52 s1 s7 s8 (IntKind.wrap .i64 (s9+1))) else L2392_7):=(Ln_eq _ _ _).trans (by kernel_rfl)
theorem P2392_7  : L2392_7=(some (false,())):=(Ln_eq _ _ _).trans (by kernel_rfl)
theorem E2394 (x0:Fw.Mach) (x1:Int):D2394 x0 x1=((D2079 x1 (tx [47,115])).bind fun y0=>(D2295 x0 y0.1).bind fun y1=>some (y1.1,(y1.2.1,()))):=(Dn_eq _ _).trans (by kernel_rfl)
theorem E2395 (x0:Fw.Call):D2395 x0=((D2090 x0.Kind 1 22).bind fun y0=>some ((((y0.1&&(decide ((x0.Name.size:Int)≤20)))&&(decide ((x0.To.size:Int)≤20)))&&(decide ((x0.Text.size:Int)≤64))),())):=(Dn_eq _ _).trans (by kernel_rfl)
theorem E2396 (x0:Fw.Mach) (x1:ByteArray):D2396 x0 x1=((D2486 x1).bind fun y0=>bif (!y0.1) then(some (0,(4,(x0,())))) else(D2487 x0 x1).bind fun y1=>bif (!(decide (y1.1=0))) then(some (0,(1,(y1.2.1,())))) else(D2295 y1.2.1 (tx [99,47,102,105,108,101])).bind fun y2=>bif (decide (y2.1≥20)) then(some (0,(3,(y2.2.1,())))) else(D2296 y2.2.1 (tx [99,47,102,105,108,101])).bind fun y3=>(D2488 x1).bind fun y4=>(D2297 y3.2.1 y4.1 y3.1).bind fun y5=>(D2489 y3.1).bind fun y6=>(D2297 y5.1 y6.1 1).bind fun y7=>some (y3.1,(0,(y7.1,())))):=(Dn_eq _ _).trans (by kernel_rfl)
theorem E2397 (x0:Fw.Mach) (x1:ByteArray) (x2:ByteArray):D2397 x0 x1 x2=((D2486 x1).bind fun y0=>bif (!(!y0.1)) then((D2486 x2).bind fun y1=>bif (!y1.1) then(some (4,(x0,()))) else(D2487 x0 x1).bind fun y2=>bif (decide (y2.1=0)) then(some (2,(y2.2.1,()))) else(D2487 y2.2.1 x2).bind fun y3=>bif (!(decide (y3.1=0))) then(some (1,(y3.2.1,()))) else(D2489 y2.1).bind fun y4=>(D2295 y3.2.1 y4.1).bind fun y5=>bif (decide (y5.1≥4)) then(some (3,(y5.2.1,()))) else(D2488 x2).bind fun y6=>(D2297 y5.2.1 y6.1 y2.1).bind fun y7=>(D2489 y2.1).bind fun y8=>(D2297 y7.1 y8.1 (IntKind.wrap .i64 (y5.1+1))).bind fun y9=>some (0,(y9.1,()))) else some (4,(x0,()))):=(Dn_eq _ _).trans (by kernel_rfl)
noncomputable def L2398_127 (e1:List Fw.Cell) (e2:List ByteArray) (e3:List ByteArray):Option (Int×Fw.Mach×Unit):=Ln 215 127 (⟨35,[(0,.ok (.pt 0 0))],[(0,.var [.sl 1,.sl 2,.sl 3] 219),(1,.own 97 e1),(2,.own 9 e2),(3,.own 9 e3)]⟩,4)
theorem E2398 (x0:Fw.Mach) (x1:ByteArray):D2398 x0 x1=((D2486 x1).bind fun y0=>bif (!y0.1) then(some (4,(x0,()))) else(D2487 x0 x1).bind fun y1=>bif (decide (y1.1=0)) then(some (2,(y1.2.1,()))) else(D2488 x1).bind fun y2=>(D2388 y1.2.1 y2.1 (tx [])).bind fun y3=>(D2489 y1.1).bind fun y4=>(D2295 y3.1 y4.1).bind fun y5=>bif (decide (y5.1>1)) then((D2489 y1.1).bind fun y8=>(D2297 y5.2.1 y8.1 (IntKind.wrap .i64 (y5.1 - 1))).bind fun y9=>L2398_127 y9.1.Store y9.1.Touch.Reads y9.1.Touch.Writes) else(D2181 (tx [105,47]) y1.1 (tx [47])).bind fun y6=>(D2490 y5.2.1 y6.1).bind fun y7=>L2398_127 y7.1.Store y7.1.Touch.Reads y7.1.Touch.Writes):=(Dn_eq _ _).trans (by kernel_rfl)
theorem P2398_127 (e1:List Fw.Cell) (e2:List ByteArray) (e3:List ByteArray):L2398_127 e1 e2 e3=(some (0,((⟨e1,(⟨e2,e3⟩:Fw.Touch)⟩:Fw.Mach),()))):=(Ln_eq _ _ _).trans (by kernel_rfl)
end Go.Proofs.YtapfpflmcgfbkaaGreatDoor.Ri

namespace Go.Proofs.YtapfpflmcgfbkaaGreatDoor.Ri
open Go.Proofs.YtapfpflmcgfbkaaGreatDoor.Fw
open Go.RowKit
set_option linter.unusedVariables false
set_option maxRecDepth 100000
noncomputable def L2399_63 (s1:ByteArray) (s2:ByteArray) (s7:Int) (e1:List Fw.Cell) (e2:List ByteArray) (e3:List ByteArray):Option (Int×Fw.Mach×Unit):=Ln 216 63 (⟨44,[(0,.ok (.pt 0 0)),(1,.ok (.v (.string s1))),(2,.ok (.v (.string s2))),(7,.ok (.v (.int .i64 s7)))],[(0,.var [.sl 1,.sl 2,.sl 3] 219),(1,.own 97 e1),(2,.own 9 e2),(3,.own 9 e3)]⟩,4)
theorem E2399 (x0:Fw.Mach) (x1:ByteArray) (x2:ByteArray):D2399 x0 x1 x2=((D2486 x1).bind fun y0=>bif (!(!y0.1)) then((D2486 x2).bind fun y1=>bif (!y1.1) then(some (4,(x0,()))) else(D2487 x0 x1).bind fun y2=>bif (decide (y2.1=0)) then(some (2,(y2.2.1,()))) else(D2487 y2.2.1 x2).bind fun y3=>bif (decide (y3.1=y2.1)) then(some (0,(y3.2.1,()))) else bif (!(decide (y3.1=0))) then((D2398 y3.2.1 x2).bind fun y4=>L2399_63 x1 x2 y2.1 y4.2.1.Store y4.2.1.Touch.Reads y4.2.1.Touch.Writes) else L2399_63 x1 x2 y2.1 y3.2.1.Store y3.2.1.Touch.Reads y3.2.1.Touch.Writes) else some (4,(x0,()))):=(Dn_eq _ _).trans (by kernel_rfl)
theorem P2399_63 (s1:ByteArray) (s2:ByteArray) (s7:Int) (e1:List Fw.Cell) (e2:List ByteArray) (e3:List ByteArray):L2399_63 s1 s2 s7 e1 e2 e3=((D2488 s2).bind fun y0=>(D2297 (⟨e1,(⟨e2,e3⟩:Fw.Touch)⟩:Fw.Mach) y0.1 s7).bind fun y1=>(D2488 s1).bind fun y2=>(D2388 y1.1 y2.1 (tx [])).bind fun y3=>some (0,(y3.1,()))):=(Ln_eq _ _ _).trans (by kernel_rfl)
noncomputable def L2400_116 (s8:Int) (s9:Int) (e1:List Fw.Cell) (e2:List ByteArray) (e3:List ByteArray) (e4:List ByteArray):Option ((List ByteArray)×Fw.Mach×Unit):=Ln 217 116 (⟨20,[(0,.ok (.pt 0 0)),(3,.ok (.v (.slice none 0 0))),(7,.ok (.sl 4)),(8,.ok (.v (.int .i64 s8))),(9,.ok (.v (.int .i64 s9)))],[(0,.var [.sl 1,.sl 2,.sl 3] 219),(1,.own 97 e1),(2,.own 9 e2),(3,.own 9 e3),(4,.own 9 e4)]⟩,5)
noncomputable def L2400_15 (e1:List Fw.Cell) (e2:List ByteArray) (e3:List ByteArray):Option ((List ByteArray)×Fw.Mach×Unit):=Ln 217 15 (⟨20,[(0,.ok (.pt 0 0)),(3,.ok (.v (.slice none 0 0)))],[(0,.var [.sl 1,.sl 2,.sl 3] 219),(1,.own 97 e1),(2,.own 9 e2),(3,.own 9 e3)]⟩,4)
noncomputable def L2400_116b (s8:Int) (s9:Int) (e1:List Fw.Cell) (e2:List ByteArray) (e3:List ByteArray) (e4:List ByteArray) (e5:List ByteArray):Option ((List ByteArray)×Fw.Mach×Unit):=Ln 217 116 (⟨20,[(0,.ok (.pt 0 0)),(3,.ok (.sl 4)),(7,.ok (.sl 5)),(8,.ok (.v (.int .i64 s8))),(9,.ok (.v (.int .i64 s9)))],[(0,.var [.sl 1,.sl 2,.sl 3] 219),(1,.own 97 e1),(2,.own 9 e2),(3,.own 9 e3),(4,.own 9 e4),(5,.own 9 e5)]⟩,6)
noncomputable def L2400_15b (e1:List Fw.Cell) (e2:List ByteArray) (e3:List ByteArray) (e4:List ByteArray):Option ((List ByteArray)×Fw.Mach×Unit):=Ln 217 15 (⟨20,[(0,.ok (.pt 0 0)),(3,.ok (.sl 4))],[(0,.var [.sl 1,.sl 2,.sl 3] 219),(1,.own 97 e1),(2,.own 9 e2),(3,.own 9 e3),(4,.own 9 e4)]⟩,5)
theorem E2400 (x0:Fw.Mach):D2400 x0=((D2491 x0 (tx [110,47])).bind fun y0=>L2400_116 (y0.1.length:Int) 0 y0.2.1.Store y0.2.1.Touch.Reads y0.2.1.Touch.Writes y0.1):=(Dn_eq _ _).trans (by kernel_rfl)
theorem P2400_116 (s8:Int) (s9:Int) (e1:List Fw.Cell) (e2:List ByteArray) (e3:List ByteArray) (e4:List ByteArray):L2400_116 s8 s9 e1 e2 e3 e4=(bif (decide (s9<s8)) then(gd ((decide (0≤s9))&&(decide (s9<(e4.length:Int)))) <| gd ((decide (0≤2))&&((decide (2≤((nth e4 s9.toNat).size:Int)))&&(decide (((nth e4 s9.toNat).size:Int)≤((nth e4 s9.toNat).size:Int))))) <| gd ((decide ((1*16)≤140737488355328))&&(decide (1≤9223372036854775807))) <| L2400_116b s8 (IntKind.wrap .i64 (s9+1)) e1 e2 e3 [(cutS (nth e4 s9.toNat) (2:Int).toNat ((nth e4 s9.toNat).size:Int).toNat)] e4) else L2400_15 e1 e2 e3):=(Ln_eq _ _ _).trans (by kernel_rfl)
theorem P2400_15 (e1:List Fw.Cell) (e2:List ByteArray) (e3:List ByteArray):L2400_15 e1 e2 e3=(some ([],((⟨e1,(⟨e2,e3⟩:Fw.Touch)⟩:Fw.Mach),()))):=(Ln_eq _ _ _).trans (by kernel_rfl)
theorem P2400_116b (s8:Int) (s9:Int) (e1:List Fw.Cell) (e2:List ByteArray) (e3:List ByteArray) (e4:List ByteArray) (e5:List ByteArray):L2400_116b s8 s9 e1 e2 e3 e4 e5=(bif (decide (s9<s8)) then(gd ((decide (0≤s9))&&(decide (s9<(e5.length:Int)))) <| gd ((decide (0≤2))&&((decide (2≤((nth e5 s9.toNat).size:Int)))&&(decide (((nth e5 s9.toNat).size:Int)≤((nth e5 s9.toNat).size:Int))))) <| gd ((decide (((e4.length+1)*16)≤140737488355328))&&(decide ((e4.length+1)≤9223372036854775807))) <| L2400_116b s8 (IntKind.wrap .i64 (s9+1)) e1 e2 e3 (e4++[(cutS (nth e5 s9.toNat) (2:Int).toNat ((nth e5 s9.toNat).size:Int).toNat)]) e5) else L2400_15b e1 e2 e3 e4):=(Ln_eq _ _ _).trans (by kernel_rfl)
theorem P2400_15b (e1:List Fw.Cell) (e2:List ByteArray) (e3:List ByteArray) (e4:List ByteArray):L2400_15b e1 e2 e3 e4=(some (e4,((⟨e1,(⟨e2,e3⟩:Fw.Touch)⟩:Fw.Mach),()))):=(Ln_eq _ _ _).trans (by kernel_rfl)
theorem E2401 (x0:Fw.Mach) (x1:Fw.Call):D2401 x0 x1=((D2487 x0 x1.Name).bind fun y0=>bif (decide (y0.1=0)) then(some ((⟨2,0,(tx [])⟩:Fw.Answer),(y0.2.1,()))) else bif (decide (x1.Kind=6)) then((D2492 y0.2.1 y0.1 x1.A x1.B).bind fun y3=>some ((⟨0,0,y3.1⟩:Fw.Answer),(y3.2.1,()))) else bif (decide (x1.Kind=7)) then((D2493 y0.2.1 y0.1 x1.A x1.Text).bind fun y2=>some ((⟨y2.1,0,(tx [])⟩:Fw.Answer),(y2.2.1,()))) else(D2494 y0.2.1 y0.1 x1.A).bind fun y1=>some ((⟨y1.1,0,(tx [])⟩:Fw.Answer),(y1.2.1,()))):=(Dn_eq _ _).trans (by kernel_rfl)
theorem E2402 (x0:Fw.Mach):D2402 x0=((D2295 x0 (tx [99,47,112,105,112,101])).bind fun y0=>bif (decide (y0.1≥8)) then(some (0,(3,(y0.2.1,())))) else(D2296 y0.2.1 (tx [99,47,112,105,112,101])).bind fun y1=>(D2495 y1.1 (tx [47,111])).bind fun y2=>(D2297 y1.2.1 y2.1 1).bind fun y3=>some (y1.1,(0,(y3.1,())))):=(Dn_eq _ _).trans (by kernel_rfl)
theorem E2403 (x0:Fw.Mach) (x1:Int) (x2:ByteArray):D2403 x0 x1 x2=((D2496 x0 x1).bind fun y0=>bif (!y0.1) then(some (2,(y0.2.1,()))) else bif (decide ((x2.size:Int)>20)) then(some (4,(y0.2.1,()))) else(D2495 x1 (tx [47,116])).bind fun y1=>(D2295 y0.2.1 y1.1).bind fun y2=>(D2495 x1 (tx [47,104])).bind fun y3=>(D2295 y2.2.1 y3.1).bind fun y4=>bif (decide ((IntKind.wrap .i64 (y2.1 - y4.1))≥4)) then(some (5,(y4.2.1,()))) else bif (decide (y2.1≥999)) then(some (3,(y4.2.1,()))) else(D2495 x1 (tx [47,116])).bind fun y5=>(D2297 y4.2.1 y5.1 (IntKind.wrap .i64 (y2.1+1))).bind fun y6=>(D2495 x1 (tx [47,113,47])).bind fun y7=>(D2181 y7.1 (IntKind.wrap .i64 (y2.1+1)) (tx [])).bind fun y8=>(D2256 x2).bind fun y9=>gd (decide (((tx [45]).size+y9.1.size)≤9223372036854775807)) <| (D2388 y6.1 y8.1 ((tx [45])++y9.1)).bind fun y10=>some (0,(y10.1,()))):=(Dn_eq _ _).trans (by kernel_rfl)
theorem E2404 (x0:Fw.Mach) (x1:Int):D2404 x0 x1=((D2496 x0 x1).bind fun y0=>bif (!y0.1) then(some ((tx []),(2,(y0.2.1,())))) else(D2495 x1 (tx [47,104])).bind fun y1=>(D2295 y0.2.1 y1.1).bind fun y2=>(D2495 x1 (tx [47,116])).bind fun y3=>(D2295 y2.2.1 y3.1).bind fun y4=>bif (decide (y4.1=y2.1)) then(some ((tx []),(5,(y4.2.1,())))) else(D2495 x1 (tx [47,113,47])).bind fun y5=>(D2181 y5.1 (IntKind.wrap .i64 (y2.1+1)) (tx [])).bind fun y6=>(D2497 y4.2.1 y6.1).bind fun y7=>(D2388 y7.2.1 y6.1 (tx [])).bind fun y8=>(D2495 x1 (tx [47,104])).bind fun y9=>(D2297 y8.1 y9.1 (IntKind.wrap .i64 (y2.1+1))).bind fun y10=>some (y7.1,(0,(y10.1,())))):=(Dn_eq _ _).trans (by kernel_rfl)
noncomputable def L2405_12 (s1:Int) (s2:Int) (s12:Int) (s13:Int) (e1:List Fw.Cell) (e2:List ByteArray) (e3:List ByteArray) (e4:List ByteArray):Option (Fw.Mach×Unit):=Ln 223 12 (⟨31,[(0,.ok (.pt 0 0)),(1,.ok (.v (.int .i64 s1))),(2,.ok (.v (.int .i64 s2))),(11,.ok (.sl 4)),(12,.ok (.v (.int .i64 s12))),(13,.ok (.v (.int .i64 s13)))],[(0,.var [.sl 1,.sl 2,.sl 3] 219),(1,.own 97 e1),(2,.own 9 e2),(3,.own 9 e3),(4,.own 9 e4)]⟩,5)
theorem E2405 (x0:Fw.Mach) (x1:Int) (x2:Int):D2405 x0 x1 x2=((D2498 x1).bind fun y0=>(D2491 x0 y0.1).bind fun y1=>L2405_12 x1 x2 (y1.1.length:Int) 0 y1.2.1.Store y1.2.1.Touch.Reads y1.2.1.Touch.Writes y1.1):=(Dn_eq _ _).trans (by kernel_rfl)
theorem P2405_12 (s1:Int) (s2:Int) (s12:Int) (s13:Int) (e1:List Fw.Cell) (e2:List ByteArray) (e3:List ByteArray) (e4:List ByteArray):L2405_12 s1 s2 s12 s13 e1 e2 e3 e4=(bif (decide (s13<s12)) then(gd ((decide (0≤s13))&&(decide (s13<(e4.length:Int)))) <| (D2498 s2).bind fun y0=>(D2498 s1).bind fun y1=>gd ((decide (0≤(y1.1.size:Int)))&&((decide ((y1.1.size:Int)≤((nth e4 s13.toNat).size:Int)))&&(decide (((nth e4 s13.toNat).size:Int)≤((nth e4 s13.toNat).size:Int))))) <| gd (decide ((y0.1.size+(cutS (nth e4 s13.toNat) (y1.1.size:Int).toNat ((nth e4 s13.toNat).size:Int).toNat).size)≤9223372036854775807)) <| (D2387 (⟨e1,(⟨e2,e3⟩:Fw.Touch)⟩:Fw.Mach) (nth e4 s13.toNat)).bind fun y2=>(D2388 y2.2.1 (y0.1++(cutS (nth e4 s13.toNat) (y1.1.size:Int).toNat ((nth e4 s13.toNat).size:Int).toNat)) y2.1).bind fun y3=>L2405_12 s1 s2 s12 (IntKind.wrap .i64 (s13+1)) y3.1.Store y3.1.Touch.Reads y3.1.Touch.Writes e4) else some ((⟨e1,(⟨e2,e3⟩:Fw.Touch)⟩:Fw.Mach),())):=(Ln_eq _ _ _).trans (by kernel_rfl)
theorem E2406 (x0:Fw.Mach) (x1:Int) (x2:Int):D2406 x0 x1 x2=((D2394 x0 x1).bind fun y0=>bif (!(decide (y0.1=1))) then(some (2,(y0.2.1,()))) else(D2090 x2 0 100).bind fun y1=>bif (!y1.1) then(some (4,(y0.2.1,()))) else(D2079 x1 (tx [47,115])).bind fun y2=>(D2297 y0.2.1 y2.1 2).bind fun y3=>(D2079 x1 (tx [47,120])).bind fun y4=>(D2297 y3.1 y4.1 (IntKind.wrap .i64 (x2+1))).bind fun y5=>some (0,(y5.1,()))):=(Dn_eq _ _).trans (by kernel_rfl)
theorem E2407 (x0:Fw.Mach) (x1:Int):D2407 x0 x1=((D2498 x1).bind fun y0=>(D2490 x0 y0.1).bind fun y1=>some (y1.1,())):=(Dn_eq _ _).trans (by kernel_rfl)
theorem E2408 (x0:Fw.Mach) (x1:Int) (x2:Int):D2408 x0 x1 x2=((D2079 x2 (tx [47,112])).bind fun y0=>(D2295 x0 y0.1).bind fun y1=>bif ((decide (y1.1=0))||(!(decide (y1.1=x1)))) then(some (0,(2,(y1.2.1,())))) else(D2394 y1.2.1 x2).bind fun y2=>bif (decide (y2.1=1)) then(some (0,(5,(y2.2.1,())))) else bif (decide (y2.1=2)) then((D2079 x2 (tx [47,120])).bind fun y3=>(D2295 y2.2.1 y3.1).bind fun y4=>(D2079 x2 (tx [47])).bind fun y5=>(D2490 y4.2.1 y5.1).bind fun y6=>some ((IntKind.wrap .i64 (y4.1 - 1)),(0,(y6.1,())))) else some (0,(2,(y2.2.1,())))):=(Dn_eq _ _).trans (by kernel_rfl)
noncomputable def L2409_116 (s1:Int) (s12:Int) (s13:Int) (e1:List Fw.Cell) (e2:List ByteArray) (e3:List ByteArray) (e4:List ByteArray):Option ((List Int)×Fw.Mach×Unit):=Ln 227 116 (⟨43,[(0,.ok (.pt 0 0)),(1,.ok (.v (.int .i64 s1))),(5,.ok (.v (.slice none 0 0))),(11,.ok (.sl 4)),(12,.ok (.v (.int .i64 s12))),(13,.ok (.v (.int .i64 s13)))],[(0,.var [.sl 1,.sl 2,.sl 3] 219),(1,.own 97 e1),(2,.own 9 e2),(3,.own 9 e3),(4,.own 9 e4)]⟩,5)
noncomputable def L2409_15 (e1:List Fw.Cell) (e2:List ByteArray) (e3:List ByteArray):Option ((List Int)×Fw.Mach×Unit):=Ln 227 15 (⟨43,[(0,.ok (.pt 0 0)),(5,.ok (.v (.slice none 0 0)))],[(0,.var [.sl 1,.sl 2,.sl 3] 219),(1,.own 97 e1),(2,.own 9 e2),(3,.own 9 e3)]⟩,4)
noncomputable def L2409_935 (s1:Int) (s12:Int) (s13:Int) (e1:List Fw.Cell) (e2:List ByteArray) (e3:List ByteArray) (e4:List ByteArray):Option ((List Int)×Fw.Mach×Unit):=Ln 227 935 (⟨43,[(0,.ok (.pt 0 0)),(1,.ok (.v (.int .i64 s1))),(5,.ok (.v (.slice none 0 0))),(11,.ok (.sl 4)),(12,.ok (.v (.int .i64 s12))),(13,.ok (.v (.int .i64 s13)))],[(0,.var [.sl 1,.sl 2,.sl 3] 219),(1,.own 97 e1),(2,.own 9 e2),(3,.own 9 e3),(4,.own 9 e4)]⟩,5)
noncomputable def L2409_935b (s1:Int) (s12:Int) (s13:Int) (e1:List Fw.Cell) (e2:List ByteArray) (e3:List ByteArray) (e4:List Int) (e5:List ByteArray):Option ((List Int)×Fw.Mach×Unit):=Ln 227 935 (⟨43,[(0,.ok (.pt 0 0)),(1,.ok (.v (.int .i64 s1))),(5,.ok (.sl 4)),(11,.ok (.sl 5)),(12,.ok (.v (.int .i64 s12))),(13,.ok (.v (.int .i64 s13)))],[(0,.var [.sl 1,.sl 2,.sl 3] 219),(1,.own 97 e1),(2,.own 9 e2),(3,.own 9 e3),(4,.own 3 e4),(5,.own 9 e5)]⟩,6)
noncomputable def L2409_116b (s1:Int) (s12:Int) (s13:Int) (e1:List Fw.Cell) (e2:List ByteArray) (e3:List ByteArray) (e4:List Int) (e5:List ByteArray):Option ((List Int)×Fw.Mach×Unit):=Ln 227 116 (⟨43,[(0,.ok (.pt 0 0)),(1,.ok (.v (.int .i64 s1))),(5,.ok (.sl 4)),(11,.ok (.sl 5)),(12,.ok (.v (.int .i64 s12))),(13,.ok (.v (.int .i64 s13)))],[(0,.var [.sl 1,.sl 2,.sl 3] 219),(1,.own 97 e1),(2,.own 9 e2),(3,.own 9 e3),(4,.own 3 e4),(5,.own 9 e5)]⟩,6)
noncomputable def L2409_15b (e1:List Fw.Cell) (e2:List ByteArray) (e3:List ByteArray) (e4:List Int):Option ((List Int)×Fw.Mach×Unit):=Ln 227 15 (⟨43,[(0,.ok (.pt 0 0)),(5,.ok (.sl 4))],[(0,.var [.sl 1,.sl 2,.sl 3] 219),(1,.own 97 e1),(2,.own 9 e2),(3,.own 9 e3),(4,.own 3 e4)]⟩,5)
theorem E2409 (x0:Fw.Mach) (x1:Int):D2409 x0 x1=((D2491 x0 (tx [114,47])).bind fun y0=>L2409_116 x1 (y0.1.length:Int) 0 y0.2.1.Store y0.2.1.Touch.Reads y0.2.1.Touch.Writes y0.1):=(Dn_eq _ _).trans (by kernel_rfl)
theorem P2409_116 (s1:Int) (s12:Int) (s13:Int) (e1:List Fw.Cell) (e2:List ByteArray) (e3:List ByteArray) (e4:List ByteArray):L2409_116 s1 s12 s13 e1 e2 e3 e4=(bif (decide (s13<s12)) then(gd ((decide (0≤s13))&&(decide (s13<(e4.length:Int)))) <| (D2499 (nth e4 s13.toNat) (tx [47,112])).bind fun y0=>bif ((decide (((nth e4 s13.toNat).size:Int)≥5))&&y0.2.1) then((D2295 (⟨e1,(⟨e2,e3⟩:Fw.Touch)⟩:Fw.Mach) (nth e4 s13.toNat)).bind fun y1=>bif (decide (y1.1=s1)) then(gd ((decide (0≤2))&&((decide (2≤(y0.1.size:Int)))&&(decide ((y0.1.size:Int)≤(y0.1.size:Int))))) <| (D2311 (cutS y0.1 (2:Int).toNat (y0.1.size:Int).toNat)).bind fun y2=>gd ((decide ((1*8)≤140737488355328))&&(decide (1≤9223372036854775807))) <| L2409_935b s1 s12 s13 y1.2.1.Store y1.2.1.Touch.Reads y1.2.1.Touch.Writes [y2.1] e4) else L2409_935 s1 s12 s13 y1.2.1.Store y1.2.1.Touch.Reads y1.2.1.Touch.Writes e4) else L2409_935 s1 s12 s13 e1 e2 e3 e4) else L2409_15 e1 e2 e3):=(Ln_eq _ _ _).trans (by kernel_rfl)
theorem P2409_15 (e1:List Fw.Cell) (e2:List ByteArray) (e3:List ByteArray):L2409_15 e1 e2 e3=(some ([],((⟨e1,(⟨e2,e3⟩:Fw.Touch)⟩:Fw.Mach),()))):=(Ln_eq _ _ _).trans (by kernel_rfl)
theorem P2409_935 (s1:Int) (s12:Int) (s13:Int) (e1:List Fw.Cell) (e2:List ByteArray) (e3:List ByteArray) (e4:List ByteArray):L2409_935 s1 s12 s13 e1 e2 e3 e4=(L2409_116 s1 s12 (IntKind.wrap .i64 (s13+1)) e1 e2 e3 e4):=(Ln_eq _ _ _).trans (by kernel_rfl)
theorem P2409_935b (s1:Int) (s12:Int) (s13:Int) (e1:List Fw.Cell) (e2:List ByteArray) (e3:List ByteArray) (e4:List Int) (e5:List ByteArray):L2409_935b s1 s12 s13 e1 e2 e3 e4 e5=(L2409_116b s1 s12 (IntKind.wrap .i64 (s13+1)) e1 e2 e3 e4 e5):=(Ln_eq _ _ _).trans (by kernel_rfl)
theorem P2409_116b (s1:Int) (s12:Int) (s13:Int) (e1:List Fw.Cell) (e2:List ByteArray) (e3:List ByteArray) (e4:List Int) (e5:List ByteArray):L2409_116b s1 s12 s13 e1 e2 e3 e4 e5=(bif (decide (s13<s12)) then(gd ((decide (0≤s13))&&(decide (s13<(e5.length:Int)))) <| (D2499 (nth e5 s13.toNat) (tx [47,112])).bind fun y0=>bif ((decide (((nth e5 s13.toNat).size:Int)≥5))&&y0.2.1) then((D2295 (⟨e1,(⟨e2,e3⟩:Fw.Touch)⟩:Fw.Mach) (nth e5 s13.toNat)).bind fun y1=>bif (decide (y1.1=s1)) then(gd ((decide (0≤2))&&((decide (2≤(y0.1.size:Int)))&&(decide ((y0.1.size:Int)≤(y0.1.size:Int))))) <| (D2311 (cutS y0.1 (2:Int).toNat (y0.1.size:Int).toNat)).bind fun y2=>gd ((decide (((e4.length+1)*8)≤140737488355328))&&(decide ((e4.length+1)≤9223372036854775807))) <| L2409_935b s1 s12 s13 y1.2.1.Store y1.2.1.Touch.Reads y1.2.1.Touch.Writes (e4++[y2.1]) e5) else L2409_935b s1 s12 s13 y1.2.1.Store y1.2.1.Touch.Reads y1.2.1.Touch.Writes e4 e5) else L2409_935b s1 s12 s13 e1 e2 e3 e4 e5) else L2409_15b e1 e2 e3 e4):=(Ln_eq _ _ _).trans (by kernel_rfl)
theorem P2409_15b (e1:List Fw.Cell) (e2:List ByteArray) (e3:List ByteArray) (e4:List Int):L2409_15b e1 e2 e3 e4=(some (e4,((⟨e1,(⟨e2,e3⟩:Fw.Touch)⟩:Fw.Mach),()))):=(Ln_eq _ _ _).trans (by kernel_rfl)
theorem E2410 (x0:Fw.Mach) (x1:Int) (x2:Int):D2410 x0 x1 x2=((D2394 x0 x1).bind fun y0=>bif (!(decide (y0.1=1))) then(some (2,(y0.2.1,()))) else(D2090 x2 1 31).bind fun y1=>bif (!y1.1) then(some (4,(y0.2.1,()))) else(D2500 x1 (tx [47,116])).bind fun y2=>(D2295 y0.2.1 y2.1).bind fun y3=>(D2500 x1 (tx [47,104])).bind fun y4=>(D2295 y3.2.1 y4.1).bind fun y5=>bif (decide ((IntKind.wrap .i64 (y3.1 - y5.1))≥4)) then(some (5,(y5.2.1,()))) else bif (decide (y3.1≥999)) then(some (3,(y5.2.1,()))) else(D2500 x1 (tx [47,116])).bind fun y6=>(D2297 y5.2.1 y6.1 (IntKind.wrap .i64 (y3.1+1))).bind fun y7=>(D2500 x1 (tx [47,113,47])).bind fun y8=>(D2181 y8.1 (IntKind.wrap .i64 (y3.1+1)) (tx [])).bind fun y9=>(D2297 y7.1 y9.1 x2).bind fun y10=>some (0,(y10.1,()))):=(Dn_eq _ _).trans (by kernel_rfl)
theorem E2411 (x0:Fw.Mach) (x1:Int):D2411 x0 x1=((D2500 x1 (tx [47,104])).bind fun y0=>(D2295 x0 y0.1).bind fun y1=>(D2500 x1 (tx [47,116])).bind fun y2=>(D2295 y1.2.1 y2.1).bind fun y3=>bif (decide (y3.1=y1.1)) then(some (0,(5,(y3.2.1,())))) else(D2500 x1 (tx [47,113,47])).bind fun y4=>(D2181 y4.1 (IntKind.wrap .i64 (y1.1+1)) (tx [])).bind fun y5=>(D2295 y3.2.1 y5.1).bind fun y6=>(D2388 y6.2.1 y5.1 (tx [])).bind fun y7=>(D2500 x1 (tx [47,104])).bind fun y8=>(D2297 y7.1 y8.1 (IntKind.wrap .i64 (y1.1+1))).bind fun y9=>some (y6.1,(0,(y9.1,())))):=(Dn_eq _ _).trans (by kernel_rfl)
theorem E2412 (x0:Fw.Mach) (x1:Int) (x2:Int):D2412 x0 x1 x2=((D2090 x2 0 999).bind fun y0=>bif (!y0.1) then(some (4,(x0,()))) else(D2181 (tx [116,47]) x1 (tx [])).bind fun y1=>(D2297 x0 y1.1 x2).bind fun y2=>some (0,(y2.1,()))):=(Dn_eq _ _).trans (by kernel_rfl)
noncomputable def L2413_4084 (s6:Int) (s7:Int) (s26:Int) (s27:Int) (e1:List Fw.Cell) (e2:List ByteArray) (e3:List ByteArray) (e4:List ByteArray):Option (Int×Int×Fw.Mach×Unit):=Ln 231 4084 (⟨48,[(0,.ok (.pt 0 0)),(6,.ok (.v (.int .i64 s6))),(7,.ok (.v (.int .i64 s7))),(25,.ok (.sl 4)),(26,.ok (.v (.int .i64 s26))),(27,.ok (.v (.int .i64 s27)))],[(0,.var [.sl 1,.sl 2,.sl 3] 219),(1,.own 97 e1),(2,.own 9 e2),(3,.own 9 e3),(4,.own 9 e4)]⟩,5)
noncomputable def L2413_511 (s7:Int) (e1:List Fw.Cell) (e2:List ByteArray) (e3:List ByteArray):Option (Int×Int×Fw.Mach×Unit):=Ln 231 511 (⟨48,[(0,.ok (.pt 0 0)),(7,.ok (.v (.int .i64 s7)))],[(0,.var [.sl 1,.sl 2,.sl 3] 219),(1,.own 97 e1),(2,.own 9 e2),(3,.own 9 e3)]⟩,4)
noncomputable def L2413_32679 (s6:Int) (s7:Int) (s26:Int) (s27:Int) (e1:List Fw.Cell) (e2:List ByteArray) (e3:List ByteArray) (e4:List ByteArray):Option (Int×Int×Fw.Mach×Unit):=Ln 231 32679 (⟨48,[(0,.ok (.pt 0 0)),(6,.ok (.v (.int .i64 s6))),(7,.ok (.v (.int .i64 s7))),(25,.ok (.sl 4)),(26,.ok (.v (.int .i64 s26))),(27,.ok (.v (.int .i64 s27)))],[(0,.var [.sl 1,.sl 2,.sl 3] 219),(1,.own 97 e1),(2,.own 9 e2),(3,.own 9 e3),(4,.own 9 e4)]⟩,5)
theorem E2413 (x0:Fw.Mach) (x1:Int):D2413 x0 x1=(bif (decide (x1<1)) then(some (0,(4,(x0,())))) else(D2295 x0 (tx [99,47,99,108,111,99,107])).bind fun y0=>bif (decide (x1>(IntKind.wrap .i64 (999 - y0.1)))) then(some (0,(3,(y0.2.1,())))) else(D2297 y0.2.1 (tx [99,47,99,108,111,99,107]) (IntKind.wrap .i64 (y0.1+x1))).bind fun y1=>(D2491 y1.1 (tx [116,47])).bind fun y2=>L2413_4084 (IntKind.wrap .i64 (y0.1+x1)) 0 (y2.1.length:Int) 0 y2.2.1.Store y2.2.1.Touch.Reads y2.2.1.Touch.Writes y2.1):=(Dn_eq _ _).trans (by kernel_rfl)
theorem P2413_4084 (s6:Int) (s7:Int) (s26:Int) (s27:Int) (e1:List Fw.Cell) (e2:List ByteArray) (e3:List ByteArray) (e4:List ByteArray):L2413_4084 s6 s7 s26 s27 e1 e2 e3 e4=(bif (decide (s27<s26)) then(gd ((decide (0≤s27))&&(decide (s27<(e4.length:Int)))) <| (D2295 (⟨e1,(⟨e2,e3⟩:Fw.Touch)⟩:Fw.Mach) (nth e4 s27.toNat)).bind fun y0=>bif (decide (y0.1>s6)) then(L2413_32679 s6 s7 s26 s27 y0.2.1.Store y0.2.1.Touch.Reads y0.2.1.Touch.Writes e4) else(D2388 y0.2.1 (nth e4 s27.toNat) (tx [])).bind fun y1=>gd ((decide (0≤2))&&((decide (2≤((nth e4 s27.toNat).size:Int)))&&(decide (((nth e4 s27.toNat).size:Int)≤((nth e4 s27.toNat).size:Int))))) <| (D2311 (cutS (nth e4 s27.toNat) (2:Int).toNat ((nth e4 s27.toNat).size:Int).toNat)).bind fun y2=>(D2410 y1.1 y2.1 14).bind fun y3=>L2413_32679 s6 (IntKind.wrap .i64 (s7+1)) s26 s27 y3.2.1.Store y3.2.1.Touch.Reads y3.2.1.Touch.Writes e4) else L2413_511 s7 e1 e2 e3):=(Ln_eq _ _ _).trans (by kernel_rfl)
theorem P2413_511 (s7:Int) (e1:List Fw.Cell) (e2:List ByteArray) (e3:List ByteArray):L2413_511 s7 e1 e2 e3=(some (s7,(0,((⟨e1,(⟨e2,e3⟩:Fw.Touch)⟩:Fw.Mach),())))):=(Ln_eq _ _ _).trans (by kernel_rfl)
theorem P2413_32679 (s6:Int) (s7:Int) (s26:Int) (s27:Int) (e1:List Fw.Cell) (e2:List ByteArray) (e3:List ByteArray) (e4:List ByteArray):L2413_32679 s6 s7 s26 s27 e1 e2 e3 e4=(L2413_4084 s6 s7 s26 (IntKind.wrap .i64 (s27+1)) e1 e2 e3 e4):=(Ln_eq _ _ _).trans (by kernel_rfl)
noncomputable def L2414_31 (s1:Int) (s2:Int) (s9:ByteArray) (e1:List Fw.Cell) (e2:List ByteArray) (e3:List ByteArray):Option (Int×Fw.Mach×Unit):=Ln 232 31 (⟨30,[(0,.ok (.pt 0 0)),(1,.ok (.v (.int .i64 s1))),(2,.ok (.v (.int .i64 s2))),(9,.ok (.v (.string s9)))],[(0,.var [.sl 1,.sl 2,.sl 3] 219),(1,.own 97 e1),(2,.own 9 e2),(3,.own 9 e3)]⟩,4)
theorem E2414 (x0:Fw.Mach) (x1:Int) (x2:Int) (x3:ByteArray):D2414 x0 x1 x2 x3=((D2090 x2 0 3).bind fun y0=>bif ((!y0.1)||(decide ((x3.size:Int)>20))) then(some (4,(x0,()))) else bif (!(decide (x3=(tx [])))) then((D2256 x3).bind fun y1=>gd (decide (((tx [45]).size+y1.1.size)≤9223372036854775807)) <| L2414_31 x1 x2 ((tx [45])++y1.1) x0.Store x0.Touch.Reads x0.Touch.Writes) else L2414_31 x1 x2 (tx []) x0.Store x0.Touch.Reads x0.Touch.Writes):=(Dn_eq _ _).trans (by kernel_rfl)
theorem P2414_31 (s1:Int) (s2:Int) (s9:ByteArray) (e1:List Fw.Cell) (e2:List ByteArray) (e3:List ByteArray):L2414_31 s1 s2 s9 e1 e2 e3=((D2498 s1).bind fun y0=>(D2181 y0.1 s2 (tx [])).bind fun y1=>(D2388 (⟨e1,(⟨e2,e3⟩:Fw.Touch)⟩:Fw.Mach) y1.1 s9).bind fun y2=>some (0,(y2.1,()))):=(Ln_eq _ _ _).trans (by kernel_rfl)
theorem E2415 (x0:Fw.Mach) (x1:Int) (x2:Int):D2415 x0 x1 x2=((D2090 x2 0 3).bind fun y0=>bif (!y0.1) then(some ((tx []),(4,(x0,())))) else(D2498 x1).bind fun y1=>(D2181 y1.1 x2 (tx [])).bind fun y2=>(D2497 x0 y2.1).bind fun y3=>some (y3.1,(0,(y3.2.1,())))):=(Dn_eq _ _).trans (by kernel_rfl)
theorem E2416 (x0:Fw.Mach) (x1:ByteArray):D2416 x0 x1=((D2090 (x1.size:Int) 1 20).bind fun y0=>bif (!y0.1) then(some (4,(x0,()))) else(D2295 x0 (tx [100,47,110])).bind fun y1=>bif (decide (y1.1≥40)) then(some (3,(y1.2.1,()))) else(D2297 y1.2.1 (tx [100,47,110]) (IntKind.wrap .i64 (y1.1+1))).bind fun y2=>(D2181 (tx [100,47]) (IntKind.wrap .i64 (y1.1+1)) (tx [])).bind fun y3=>(D2256 x1).bind fun y4=>gd (decide (((tx [45]).size+y4.1.size)≤9223372036854775807)) <| (D2388 y2.1 y3.1 ((tx [45])++y4.1)).bind fun y5=>some (0,(y5.1,()))):=(Dn_eq _ _).trans (by kernel_rfl)
end Go.Proofs.YtapfpflmcgfbkaaGreatDoor.Ri

namespace Go.Proofs.YtapfpflmcgfbkaaGreatDoor.Ri
open Go.Proofs.YtapfpflmcgfbkaaGreatDoor.Fw
open Go.RowKit
set_option linter.unusedVariables false
set_option maxRecDepth 100000
noncomputable def L2417_52 (s0:List ByteArray) (s1_0:ByteArray) (s7:Int) (s8:Int):Option (Int×Unit):=Ln 206 52 (⟨19,[(0,.ok (.ro 9 s0)),(1,.ok (.fn 334 [.pe 9 s1_0 0])),(7,.ok (.v (.int .i64 s7))),(8,.ok (.v (.int .i64 s8)))],[]⟩,0)
noncomputable def L2417_7  : Option (Int×Unit):=Ln 206 7 (⟨19,[],[]⟩,0)
theorem E2417 (x0:List ByteArray) (x1:ByteArray):D2417 x0 x1=(L2417_52 x0 x1 (x0.length:Int) 0):=(Dn_eq _ _).trans (by kernel_rfl)
theorem P2417_52 (s0:List ByteArray) (s1_0:ByteArray) (s7:Int) (s8:Int):L2417_52 s0 s1_0 s7 s8=(bif (decide (s8<s7)) then(gd ((decide (0≤s8))&&(decide (s8<(s0.length:Int)))) <| (D2418 (nth s0 s8.toNat) s1_0).bind fun y0=>bif y0.1 then(some (s8,())) else L2417_52 s0 s1_0 s7 (IntKind.wrap .i64 (s8+1))) else L2417_7):=(Ln_eq _ _ _).trans (by kernel_rfl)
theorem P2417_7  : L2417_7=(some ((-1),())):=(Ln_eq _ _ _).trans (by kernel_rfl)
theorem E2418 (x0:ByteArray) (x1:ByteArray):D2418 x0 x1=(some ((!(ltB x0 x1)),())):=(Dn_eq _ _).trans (by kernel_rfl)
theorem E2419 (x0:List ByteArray) (x1:Int) (x2:List ByteArray):D2419 x0 x1 x2=(insX (x0,(x1,(x2,())))):=(Dn_eq _ _).trans (by kernel_rfl)
theorem E2420 (x0:ByteArray):D2420 x0=(readX (x0,())):=(Dn_eq _ _).trans (by kernel_rfl)
noncomputable def L2425_244 (s1_0:ByteArray) (s5:Int) (s6:Int) (e0:List Fw.Cell):Option ((List Fw.Cell)×Unit):=Ln 154 244 (⟨42,[(0,.ok (.sl 0)),(1,.ok (.fn 155 [.pe 9 s1_0 0])),(5,.ok (.v (.int .i64 s5))),(6,.ok (.v (.int .i64 s6)))],[(0,.own 97 e0)]⟩,1)
noncomputable def L2425_31 (s5:Int) (e0:List Fw.Cell):Option ((List Fw.Cell)×Unit):=Ln 154 31 (⟨42,[(0,.ok (.sl 0)),(5,.ok (.v (.int .i64 s5)))],[(0,.own 97 e0)]⟩,1)
noncomputable def L2425_979 (s1_0:ByteArray) (s5:Int) (s6:Int) (e0:List Fw.Cell):Option ((List Fw.Cell)×Unit):=Ln 154 979 (⟨42,[(0,.ok (.sl 0)),(1,.ok (.fn 155 [.pe 9 s1_0 0])),(5,.ok (.v (.int .i64 s5))),(6,.ok (.v (.int .i64 s6)))],[(0,.own 97 e0)]⟩,1)
theorem E2425 (x0:List Fw.Cell) (x1:ByteArray):D2425 x0 x1=((D4303 x0 x1).bind fun y0=>bif (decide (y0.1=(-1))) then(some (x0,())) else L2425_244 x1 y0.1 (IntKind.wrap .i64 (y0.1+1)) x0):=(Dn_eq _ _).trans (by kernel_rfl)
theorem P2425_244 (s1_0:ByteArray) (s5:Int) (s6:Int) (e0:List Fw.Cell):L2425_244 s1_0 s5 s6 e0=(bif (decide (s6<(e0.length:Int))) then(gd ((decide (0≤s6))&&(decide (s6<(e0.length:Int)))) <| (D2426 (nth e0 s6.toNat) s1_0).bind fun y0=>bif (!y0.1) then(gd ((decide (0≤s5))&&(decide (s5<(e0.length:Int)))) <| L2425_979 s1_0 (IntKind.wrap .i64 (s5+1)) s6 (e0.set s5.toNat (nth e0 s6.toNat))) else L2425_979 s1_0 s5 s6 e0) else L2425_31 s5 e0):=(Ln_eq _ _ _).trans (by kernel_rfl)
theorem P2425_31 (s5:Int) (e0:List Fw.Cell):L2425_31 s5 e0=(gd ((decide (0≤s5))&&(decide (s5≤(e0.length:Int)))) <| gd ((decide (0≤s5))&&(decide (s5≤(((cutL e0 0 s5.toNat)++(List.replicate (e0.length - s5.toNat) (⟨(tx []),(tx [])⟩:Fw.Cell))).length:Int)))) <| some ((((cutL e0 0 s5.toNat)++(List.replicate (e0.length - s5.toNat) (⟨(tx []),(tx [])⟩:Fw.Cell))).take s5.toNat),())):=(Ln_eq _ _ _).trans (by kernel_rfl)
theorem P2425_979 (s1_0:ByteArray) (s5:Int) (s6:Int) (e0:List Fw.Cell):L2425_979 s1_0 s5 s6 e0=(L2425_244 s1_0 s5 (IntKind.wrap .i64 (s6+1)) e0):=(Ln_eq _ _ _).trans (by kernel_rfl)
theorem E2426 (x0:Fw.Cell) (x1:ByteArray):D2426 x0 x1=(some ((decide (x0.Key=x1)),())):=(Dn_eq _ _).trans (by kernel_rfl)
theorem E2427 (x0:Fw.Cell) (x1:ByteArray):D2427 x0 x1=(some ((!((ltB x0.Key x1)||(decide (x0.Key=x1)))),())):=(Dn_eq _ _).trans (by kernel_rfl)
theorem E2428 (x0:List Fw.Cell) (x1:Int) (x2:List Fw.Cell):D2428 x0 x1 x2=(insX (x0,(x1,(x2,())))):=(Dn_eq _ _).trans (by kernel_rfl)
theorem E2480 (x0:ByteArray) (x1:ByteArray):D2480 x0 x1=((D2481 x1 x0).bind fun y0=>some (y0.1,())):=(Dn_eq _ _).trans (by kernel_rfl)
theorem E2481 (x0:ByteArray) (x1:ByteArray):D2481 x0 x1=((D2499 x0 (tx [42])).bind fun y0=>(D2499 x1 (tx [42])).bind fun y1=>bif (y0.2.1&&y1.2.1) then((D2547 y0.1 y1.1).bind fun y4=>bif (!y4.1) then((D2547 y1.1 y0.1).bind fun y5=>some (y5.1,())) else some (true,())) else bif y0.2.1 then((D2548 x0 x1).bind fun y3=>some (y3.1,())) else(D2548 x1 x0).bind fun y2=>some (y2.1,())):=(Dn_eq _ _).trans (by kernel_rfl)
noncomputable def L2486_52 (s0:ByteArray) (s6:Int) (s7:Int):Option (Bool×Unit):=Ln 283 52 (⟨41,[(0,.ok (.v (.string s0))),(6,.ok (.v (.int .i64 s6))),(7,.ok (.v (.int .i64 s7)))],[]⟩,0)
noncomputable def L2486_7 (s0:ByteArray):Option (Bool×Unit):=Ln 283 7 (⟨41,[(0,.ok (.v (.string s0)))],[]⟩,0)
theorem E2486 (x0:ByteArray):D2486 x0=(L2486_52 x0 (x0.size:Int) 0):=(Dn_eq _ _).trans (by kernel_rfl)
theorem P2486_52 (s0:ByteArray) (s6:Int) (s7:Int):L2486_52 s0 s6 s7=(bif (decide (s7<s6)) then(gd ((decide (0≤s7))&&(decide (s7<(s0.size:Int)))) <| bif ((((!((decide (((byteAt s0 s7.toNat).toNat:Int)≥97))&&(decide (((byteAt s0 s7.toNat).toNat:Int)≤122))))&&(!((decide (((byteAt s0 s7.toNat).toNat:Int)≥48))&&(decide (((byteAt s0 s7.toNat).toNat:Int)≤57)))))&&(!(decide (((byteAt s0 s7.toNat).toNat:Int)=46))))&&(!(decide (((byteAt s0 s7.toNat).toNat:Int)=45)))) then(some (false,())) else L2486_52 s0 s6 (IntKind.wrap .i64 (s7+1))) else L2486_7 s0):=(Ln_eq _ _ _).trans (by kernel_rfl)
theorem P2486_7 (s0:ByteArray):L2486_7 s0=((D2090 (s0.size:Int) 1 12).bind fun y0=>some (y0.1,())):=(Ln_eq _ _ _).trans (by kernel_rfl)
theorem E2487 (x0:Fw.Mach) (x1:ByteArray):D2487 x0 x1=((D2486 x1).bind fun y0=>bif (!y0.1) then(some (0,(x0,()))) else(D2488 x1).bind fun y1=>(D2295 x0 y1.1).bind fun y2=>some (y2.1,(y2.2.1,()))):=(Dn_eq _ _).trans (by kernel_rfl)
theorem E2488 (x0:ByteArray):D2488 x0=(gd (decide (((tx [110,47]).size+x0.size)≤9223372036854775807)) <| some (((tx [110,47])++x0),())):=(Dn_eq _ _).trans (by kernel_rfl)
theorem E2489 (x0:Int):D2489 x0=((D2181 (tx [105,47]) x0 (tx [47,108])).bind fun y0=>some (y0.1,())):=(Dn_eq _ _).trans (by kernel_rfl)
noncomputable def L2490_12 (s9:Int) (s10:Int) (e1:List Fw.Cell) (e2:List ByteArray) (e3:List ByteArray) (e4:List ByteArray):Option (Fw.Mach×Unit):=Ln 290 12 (⟨18,[(0,.ok (.pt 0 0)),(8,.ok (.sl 4)),(9,.ok (.v (.int .i64 s9))),(10,.ok (.v (.int .i64 s10)))],[(0,.var [.sl 1,.sl 2,.sl 3] 219),(1,.own 97 e1),(2,.own 9 e2),(3,.own 9 e3),(4,.own 9 e4)]⟩,5)
theorem E2490 (x0:Fw.Mach) (x1:ByteArray):D2490 x0 x1=((D2491 x0 x1).bind fun y0=>L2490_12 (y0.1.length:Int) 0 y0.2.1.Store y0.2.1.Touch.Reads y0.2.1.Touch.Writes y0.1):=(Dn_eq _ _).trans (by kernel_rfl)
theorem P2490_12 (s9:Int) (s10:Int) (e1:List Fw.Cell) (e2:List ByteArray) (e3:List ByteArray) (e4:List ByteArray):L2490_12 s9 s10 e1 e2 e3 e4=(bif (decide (s10<s9)) then(gd ((decide (0≤s10))&&(decide (s10<(e4.length:Int)))) <| (D2388 (⟨e1,(⟨e2,e3⟩:Fw.Touch)⟩:Fw.Mach) (nth e4 s10.toNat) (tx [])).bind fun y0=>L2490_12 s9 (IntKind.wrap .i64 (s10+1)) y0.1.Store y0.1.Touch.Reads y0.1.Touch.Writes e4) else some ((⟨e1,(⟨e2,e3⟩:Fw.Touch)⟩:Fw.Mach),())):=(Ln_eq _ _ _).trans (by kernel_rfl)
theorem E2491 (x0:Fw.Mach) (x1:ByteArray):D2491 x0 x1=(gd (decide ((x1.size+(tx [42]).size)≤9223372036854775807)) <| (D2310 x0.Touch.Reads (x1++(tx [42]))).bind fun y0=>(D2554 x0.Store x1).bind fun y1=>some (y1.1,((⟨x0.Store,(⟨y0.1,x0.Touch.Writes⟩:Fw.Touch)⟩:Fw.Mach),()))):=(Dn_eq _ _).trans (by kernel_rfl)
noncomputable def L2492_1012 (s1:Int) (s2:Int) (s10:Int) (s11:ByteArray) (s12:Int) (e1:List Fw.Cell) (e2:List ByteArray) (e3:List ByteArray):Option (ByteArray×Fw.Mach×Unit):=Ln 293 1012 (⟨72,[(0,.ok (.pt 0 0)),(1,.ok (.v (.int .i64 s1))),(2,.ok (.v (.int .i64 s2))),(10,.ok (.v (.int .i64 s10))),(11,.ok (.v (.string s11))),(12,.ok (.v (.int .i64 s12)))],[(0,.var [.sl 1,.sl 2,.sl 3] 219),(1,.own 97 e1),(2,.own 9 e2),(3,.own 9 e3)]⟩,4)
noncomputable def L2492_127 (s11:ByteArray) (e1:List Fw.Cell) (e2:List ByteArray) (e3:List ByteArray):Option (ByteArray×Fw.Mach×Unit):=Ln 293 127 (⟨72,[(0,.ok (.pt 0 0)),(11,.ok (.v (.string s11)))],[(0,.var [.sl 1,.sl 2,.sl 3] 219),(1,.own 97 e1),(2,.own 9 e2),(3,.own 9 e3)]⟩,4)
noncomputable def L2492_4051 (s1:Int) (s2:Int) (s10:Int) (s11:ByteArray) (s12:Int) (e1:List Fw.Cell) (e2:List ByteArray) (e3:List ByteArray):Option (ByteArray×Fw.Mach×Unit):=Ln 293 4051 (⟨72,[(0,.ok (.pt 0 0)),(1,.ok (.v (.int .i64 s1))),(2,.ok (.v (.int .i64 s2))),(10,.ok (.v (.int .i64 s10))),(11,.ok (.v (.string s11))),(12,.ok (.v (.int .i64 s12)))],[(0,.var [.sl 1,.sl 2,.sl 3] 219),(1,.own 97 e1),(2,.own 9 e2),(3,.own 9 e3)]⟩,4)
theorem E2492 (x0:Fw.Mach) (x1:Int) (x2:Int) (x3:Int):D2492 x0 x1 x2 x3=((D2555 x1).bind fun y0=>(D2295 x0 y0.1).bind fun y1=>bif (((decide (x2<0))||(decide (x3<1)))||(decide (x2≥y1.1))) then(some ((tx []),(y1.2.1,()))) else gd (!(decide (8=0))) <| L2492_1012 x1 x2 (IntKind.wrap .i64 (x2+(min x3 (IntKind.wrap .i64 (y1.1 - x2))))) (tx []) (IntKind.wrap .i64 (Int.tdiv x2 8)) y1.2.1.Store y1.2.1.Touch.Reads y1.2.1.Touch.Writes):=(Dn_eq _ _).trans (by kernel_rfl)
theorem P2492_1012 (s1:Int) (s2:Int) (s10:Int) (s11:ByteArray) (s12:Int) (e1:List Fw.Cell) (e2:List ByteArray) (e3:List ByteArray):L2492_1012 s1 s2 s10 s11 s12 e1 e2 e3=(bif (decide ((IntKind.wrap .i64 (s12*8))<s10)) then((D2556 (⟨e1,(⟨e2,e3⟩:Fw.Touch)⟩:Fw.Mach) s1 s12).bind fun y0=>bif (decide ((max (IntKind.wrap .i64 (s2 - (IntKind.wrap .i64 (s12*8)))) 0)<(min (min (IntKind.wrap .i64 (s10 - (IntKind.wrap .i64 (s12*8)))) 8) (y0.1.size:Int)))) then(gd ((decide (0≤(max (IntKind.wrap .i64 (s2 - (IntKind.wrap .i64 (s12*8)))) 0)))&&((decide ((max (IntKind.wrap .i64 (s2 - (IntKind.wrap .i64 (s12*8)))) 0)≤(min (min (IntKind.wrap .i64 (s10 - (IntKind.wrap .i64 (s12*8)))) 8) (y0.1.size:Int))))&&(decide ((min (min (IntKind.wrap .i64 (s10 - (IntKind.wrap .i64 (s12*8)))) 8) (y0.1.size:Int))≤(y0.1.size:Int))))) <| gd (decide ((s11.size+(cutS y0.1 (max (IntKind.wrap .i64 (s2 - (IntKind.wrap .i64 (s12*8)))) 0).toNat (min (min (IntKind.wrap .i64 (s10 - (IntKind.wrap .i64 (s12*8)))) 8) (y0.1.size:Int)).toNat).size)≤9223372036854775807)) <| L2492_4051 s1 s2 s10 (s11++(cutS y0.1 (max (IntKind.wrap .i64 (s2 - (IntKind.wrap .i64 (s12*8)))) 0).toNat (min (min (IntKind.wrap .i64 (s10 - (IntKind.wrap .i64 (s12*8)))) 8) (y0.1.size:Int)).toNat)) s12 y0.2.1.Store y0.2.1.Touch.Reads y0.2.1.Touch.Writes) else L2492_4051 s1 s2 s10 s11 s12 y0.2.1.Store y0.2.1.Touch.Reads y0.2.1.Touch.Writes) else L2492_127 s11 e1 e2 e3):=(Ln_eq _ _ _).trans (by kernel_rfl)
theorem P2492_127 (s11:ByteArray) (e1:List Fw.Cell) (e2:List ByteArray) (e3:List ByteArray):L2492_127 s11 e1 e2 e3=(some (s11,((⟨e1,(⟨e2,e3⟩:Fw.Touch)⟩:Fw.Mach),()))):=(Ln_eq _ _ _).trans (by kernel_rfl)
theorem P2492_4051 (s1:Int) (s2:Int) (s10:Int) (s11:ByteArray) (s12:Int) (e1:List Fw.Cell) (e2:List ByteArray) (e3:List ByteArray):L2492_4051 s1 s2 s10 s11 s12 e1 e2 e3=(L2492_1012 s1 s2 s10 s11 (IntKind.wrap .i64 (s12+1)) e1 e2 e3):=(Ln_eq _ _ _).trans (by kernel_rfl)
noncomputable def L2493_1012 (s1:Int) (s2:Int) (s3:ByteArray) (s9:Int) (s10:Int) (s11:Int) (e1:List Fw.Cell) (e2:List ByteArray) (e3:List ByteArray):Option (Int×Fw.Mach×Unit):=Ln 294 1012 (⟨94,[(0,.ok (.pt 0 0)),(1,.ok (.v (.int .i64 s1))),(2,.ok (.v (.int .i64 s2))),(3,.ok (.v (.string s3))),(9,.ok (.v (.int .i64 s9))),(10,.ok (.v (.int .i64 s10))),(11,.ok (.v (.int .i64 s11)))],[(0,.var [.sl 1,.sl 2,.sl 3] 219),(1,.own 97 e1),(2,.own 9 e2),(3,.own 9 e3)]⟩,4)
noncomputable def L2493_127 (s1:Int) (s9:Int) (s10:Int) (e1:List Fw.Cell) (e2:List ByteArray) (e3:List ByteArray):Option (Int×Fw.Mach×Unit):=Ln 294 127 (⟨94,[(0,.ok (.pt 0 0)),(1,.ok (.v (.int .i64 s1))),(9,.ok (.v (.int .i64 s9))),(10,.ok (.v (.int .i64 s10)))],[(0,.var [.sl 1,.sl 2,.sl 3] 219),(1,.own 97 e1),(2,.own 9 e2),(3,.own 9 e3)]⟩,4)
noncomputable def L2493_518452 (s1:Int) (s2:Int) (s3:ByteArray) (s9:Int) (s10:Int) (s11:Int) (s13:Int) (s14:Int) (e1:List Fw.Cell) (e2:List ByteArray) (e3:List ByteArray) (e4:List UInt8):Option (Int×Fw.Mach×Unit):=Ln 294 518452 (⟨94,[(0,.ok (.pt 0 0)),(1,.ok (.v (.int .i64 s1))),(2,.ok (.v (.int .i64 s2))),(3,.ok (.v (.string s3))),(9,.ok (.v (.int .i64 s9))),(10,.ok (.v (.int .i64 s10))),(11,.ok (.v (.int .i64 s11))),(12,.ok (.sl 4)),(13,.ok (.v (.int .i64 s13))),(14,.ok (.v (.int .i64 s14)))],[(0,.var [.sl 1,.sl 2,.sl 3] 219),(1,.own 97 e1),(2,.own 9 e2),(3,.own 9 e3),(4,.own 5 e4)]⟩,5)
noncomputable def L2493_255 (e1:List Fw.Cell) (e2:List ByteArray) (e3:List ByteArray):Option (Int×Fw.Mach×Unit):=Ln 294 255 (⟨94,[(0,.ok (.pt 0 0))],[(0,.var [.sl 1,.sl 2,.sl 3] 219),(1,.own 97 e1),(2,.own 9 e2),(3,.own 9 e3)]⟩,4)
noncomputable def L2493_64807 (s1:Int) (s2:Int) (s3:ByteArray) (s9:Int) (s10:Int) (s11:Int) (e1:List Fw.Cell) (e2:List ByteArray) (e3:List ByteArray) (e4:List UInt8):Option (Int×Fw.Mach×Unit):=Ln 294 64807 (⟨94,[(0,.ok (.pt 0 0)),(1,.ok (.v (.int .i64 s1))),(2,.ok (.v (.int .i64 s2))),(3,.ok (.v (.string s3))),(9,.ok (.v (.int .i64 s9))),(10,.ok (.v (.int .i64 s10))),(11,.ok (.v (.int .i64 s11))),(12,.ok (.sl 4))],[(0,.var [.sl 1,.sl 2,.sl 3] 219),(1,.own 97 e1),(2,.own 9 e2),(3,.own 9 e3),(4,.own 5 e4)]⟩,5)
noncomputable def L2493_33180960 (s1:Int) (s2:Int) (s3:ByteArray) (s9:Int) (s10:Int) (s11:Int) (s13:Int) (s14:Int) (e1:List Fw.Cell) (e2:List ByteArray) (e3:List ByteArray) (e4:List UInt8):Option (Int×Fw.Mach×Unit):=Ln 294 33180960 (⟨94,[(0,.ok (.pt 0 0)),(1,.ok (.v (.int .i64 s1))),(2,.ok (.v (.int .i64 s2))),(3,.ok (.v (.string s3))),(9,.ok (.v (.int .i64 s9))),(10,.ok (.v (.int .i64 s10))),(11,.ok (.v (.int .i64 s11))),(12,.ok (.sl 4)),(13,.ok (.v (.int .i64 s13))),(14,.ok (.v (.int .i64 s14)))],[(0,.var [.sl 1,.sl 2,.sl 3] 219),(1,.own 97 e1),(2,.own 9 e2),(3,.own 9 e3),(4,.own 5 e4)]⟩,5)
noncomputable def L2493_4051 (s1:Int) (s2:Int) (s3:ByteArray) (s9:Int) (s10:Int) (s11:Int) (e1:List Fw.Cell) (e2:List ByteArray) (e3:List ByteArray):Option (Int×Fw.Mach×Unit):=Ln 294 4051 (⟨94,[(0,.ok (.pt 0 0)),(1,.ok (.v (.int .i64 s1))),(2,.ok (.v (.int .i64 s2))),(3,.ok (.v (.string s3))),(9,.ok (.v (.int .i64 s9))),(10,.ok (.v (.int .i64 s10))),(11,.ok (.v (.int .i64 s11)))],[(0,.var [.sl 1,.sl 2,.sl 3] 219),(1,.own 97 e1),(2,.own 9 e2),(3,.own 9 e3)]⟩,4)
noncomputable def L2493_8295241 (s1:Int) (s2:Int) (s3:ByteArray) (s9:Int) (s10:Int) (s11:Int) (s13:Int) (s14:Int) (e1:List Fw.Cell) (e2:List ByteArray) (e3:List ByteArray) (e4:List UInt8):Option (Int×Fw.Mach×Unit):=Ln 294 8295241 (⟨94,[(0,.ok (.pt 0 0)),(1,.ok (.v (.int .i64 s1))),(2,.ok (.v (.int .i64 s2))),(3,.ok (.v (.string s3))),(9,.ok (.v (.int .i64 s9))),(10,.ok (.v (.int .i64 s10))),(11,.ok (.v (.int .i64 s11))),(12,.ok (.sl 4)),(13,.ok (.v (.int .i64 s13))),(14,.ok (.v (.int .i64 s14)))],[(0,.var [.sl 1,.sl 2,.sl 3] 219),(1,.own 97 e1),(2,.own 9 e2),(3,.own 9 e3),(4,.own 5 e4)]⟩,5)
noncomputable def L2493_2073811 (s1:Int) (s2:Int) (s3:ByteArray) (s9:Int) (s10:Int) (s11:Int) (s13:Int) (s14:Int) (e1:List Fw.Cell) (e2:List ByteArray) (e3:List ByteArray) (e4:List UInt8):Option (Int×Fw.Mach×Unit):=Ln 294 2073811 (⟨94,[(0,.ok (.pt 0 0)),(1,.ok (.v (.int .i64 s1))),(2,.ok (.v (.int .i64 s2))),(3,.ok (.v (.string s3))),(9,.ok (.v (.int .i64 s9))),(10,.ok (.v (.int .i64 s10))),(11,.ok (.v (.int .i64 s11))),(12,.ok (.sl 4)),(13,.ok (.v (.int .i64 s13))),(14,.ok (.v (.int .i64 s14)))],[(0,.var [.sl 1,.sl 2,.sl 3] 219),(1,.own 97 e1),(2,.own 9 e2),(3,.own 9 e3),(4,.own 5 e4)]⟩,5)
theorem E2493 (x0:Fw.Mach) (x1:Int) (x2:Int) (x3:ByteArray):D2493 x0 x1 x2 x3=((D2555 x1).bind fun y0=>(D2295 x0 y0.1).bind fun y1=>(D2090 x2 0 y1.1).bind fun y2=>bif ((!y2.1)||(decide (x3=(tx [])))) then(some (4,(y1.2.1,()))) else bif (decide ((IntKind.wrap .i64 (x2+(x3.size:Int)))>64)) then(some (3,(y1.2.1,()))) else gd (!(decide (8=0))) <| L2493_1012 x1 x2 x3 y1.1 (IntKind.wrap .i64 (x2+(x3.size:Int))) (IntKind.wrap .i64 (Int.tdiv x2 8)) y1.2.1.Store y1.2.1.Touch.Reads y1.2.1.Touch.Writes):=(Dn_eq _ _).trans (by kernel_rfl)
theorem P2493_1012 (s1:Int) (s2:Int) (s3:ByteArray) (s9:Int) (s10:Int) (s11:Int) (e1:List Fw.Cell) (e2:List ByteArray) (e3:List ByteArray):L2493_1012 s1 s2 s3 s9 s10 s11 e1 e2 e3=(bif (decide ((IntKind.wrap .i64 (s11*8))<s10)) then((D2556 (⟨e1,(⟨e2,e3⟩:Fw.Touch)⟩:Fw.Mach) s1 s11).bind fun y0=>L2493_518452 s1 s2 s3 s9 s10 s11 (IntKind.wrap .i64 (s11*8)) (max s2 (IntKind.wrap .i64 (s11*8))) y0.2.1.Store y0.2.1.Touch.Reads y0.2.1.Touch.Writes ((sbytes y0.1).map fun x=>x)) else L2493_127 s1 s9 s10 e1 e2 e3):=(Ln_eq _ _ _).trans (by kernel_rfl)
theorem P2493_127 (s1:Int) (s9:Int) (s10:Int) (e1:List Fw.Cell) (e2:List ByteArray) (e3:List ByteArray):L2493_127 s1 s9 s10 e1 e2 e3=(bif (decide (s10>s9)) then((D2555 s1).bind fun y0=>(D2297 (⟨e1,(⟨e2,e3⟩:Fw.Touch)⟩:Fw.Mach) y0.1 s10).bind fun y1=>L2493_255 y1.1.Store y1.1.Touch.Reads y1.1.Touch.Writes) else L2493_255 e1 e2 e3):=(Ln_eq _ _ _).trans (by kernel_rfl)
theorem P2493_518452 (s1:Int) (s2:Int) (s3:ByteArray) (s9:Int) (s10:Int) (s11:Int) (s13:Int) (s14:Int) (e1:List Fw.Cell) (e2:List ByteArray) (e3:List ByteArray) (e4:List UInt8):L2493_518452 s1 s2 s3 s9 s10 s11 s13 s14 e1 e2 e3 e4=(bif (decide (s14<(min s10 (IntKind.wrap .i64 (s13+8))))) then(L2493_33180960 s1 s2 s3 s9 s10 s11 s13 s14 e1 e2 e3 e4) else L2493_64807 s1 s2 s3 s9 s10 s11 e1 e2 e3 e4):=(Ln_eq _ _ _).trans (by kernel_rfl)
theorem P2493_255 (e1:List Fw.Cell) (e2:List ByteArray) (e3:List ByteArray):L2493_255 e1 e2 e3=(some (0,((⟨e1,(⟨e2,e3⟩:Fw.Touch)⟩:Fw.Mach),()))):=(Ln_eq _ _ _).trans (by kernel_rfl)
theorem P2493_64807 (s1:Int) (s2:Int) (s3:ByteArray) (s9:Int) (s10:Int) (s11:Int) (e1:List Fw.Cell) (e2:List ByteArray) (e3:List ByteArray) (e4:List UInt8):L2493_64807 s1 s2 s3 s9 s10 s11 e1 e2 e3 e4=((D2557 s1 s11).bind fun y0=>(D2256 (bstr (e4.map fun x=>x))).bind fun y1=>(D2388 (⟨e1,(⟨e2,e3⟩:Fw.Touch)⟩:Fw.Mach) y0.1 y1.1).bind fun y2=>L2493_4051 s1 s2 s3 s9 s10 s11 y2.1.Store y2.1.Touch.Reads y2.1.Touch.Writes):=(Ln_eq _ _ _).trans (by kernel_rfl)
theorem P2493_33180960 (s1:Int) (s2:Int) (s3:ByteArray) (s9:Int) (s10:Int) (s11:Int) (s13:Int) (s14:Int) (e1:List Fw.Cell) (e2:List ByteArray) (e3:List ByteArray) (e4:List UInt8):L2493_33180960 s1 s2 s3 s9 s10 s11 s13 s14 e1 e2 e3 e4=(bif (decide ((e4.length:Int)≤(IntKind.wrap .i64 (s14 - s13)))) then(gd ((decide (((e4.length+1)*1)≤140737488355328))&&(decide ((e4.length+1)≤9223372036854775807))) <| L2493_33180960 s1 s2 s3 s9 s10 s11 s13 s14 e1 e2 e3 (e4++[(u8of 0)])) else L2493_8295241 s1 s2 s3 s9 s10 s11 s13 s14 e1 e2 e3 e4):=(Ln_eq _ _ _).trans (by kernel_rfl)
theorem P2493_4051 (s1:Int) (s2:Int) (s3:ByteArray) (s9:Int) (s10:Int) (s11:Int) (e1:List Fw.Cell) (e2:List ByteArray) (e3:List ByteArray):L2493_4051 s1 s2 s3 s9 s10 s11 e1 e2 e3=(L2493_1012 s1 s2 s3 s9 s10 (IntKind.wrap .i64 (s11+1)) e1 e2 e3):=(Ln_eq _ _ _).trans (by kernel_rfl)
theorem P2493_8295241 (s1:Int) (s2:Int) (s3:ByteArray) (s9:Int) (s10:Int) (s11:Int) (s13:Int) (s14:Int) (e1:List Fw.Cell) (e2:List ByteArray) (e3:List ByteArray) (e4:List UInt8):L2493_8295241 s1 s2 s3 s9 s10 s11 s13 s14 e1 e2 e3 e4=(gd ((decide (0≤(IntKind.wrap .i64 (s14 - s2))))&&(decide ((IntKind.wrap .i64 (s14 - s2))<(s3.size:Int)))) <| gd ((decide (0≤(IntKind.wrap .i64 (s14 - s13))))&&(decide ((IntKind.wrap .i64 (s14 - s13))<(e4.length:Int)))) <| L2493_2073811 s1 s2 s3 s9 s10 s11 s13 s14 e1 e2 e3 (e4.set (IntKind.wrap .i64 (s14 - s13)).toNat (u8of ((byteAt s3 (IntKind.wrap .i64 (s14 - s2)).toNat).toNat:Int)))):=(Ln_eq _ _ _).trans (by kernel_rfl)
theorem P2493_2073811 (s1:Int) (s2:Int) (s3:ByteArray) (s9:Int) (s10:Int) (s11:Int) (s13:Int) (s14:Int) (e1:List Fw.Cell) (e2:List ByteArray) (e3:List ByteArray) (e4:List UInt8):L2493_2073811 s1 s2 s3 s9 s10 s11 s13 s14 e1 e2 e3 e4=(L2493_518452 s1 s2 s3 s9 s10 s11 s13 (IntKind.wrap .i64 (s14+1)) e1 e2 e3 e4):=(Ln_eq _ _ _).trans (by kernel_rfl)
noncomputable def L2494_63 (s1:Int) (s2:Int) (s7:Int) (s8:Int) (e1:List Fw.Cell) (e2:List ByteArray) (e3:List ByteArray):Option (Int×Fw.Mach×Unit):=Ln 295 63 (⟨58,[(0,.ok (.pt 0 0)),(1,.ok (.v (.int .i64 s1))),(2,.ok (.v (.int .i64 s2))),(7,.ok (.v (.int .i64 s7))),(8,.ok (.v (.int .i64 s8)))],[(0,.var [.sl 1,.sl 2,.sl 3] 219),(1,.own 97 e1),(2,.own 9 e2),(3,.own 9 e3)]⟩,4)
noncomputable def L2494_504 (s1:Int) (s2:Int) (s7:Int) (s8:Int) (e1:List Fw.Cell) (e2:List ByteArray) (e3:List ByteArray):Option (Int×Fw.Mach×Unit):=Ln 295 504 (⟨58,[(0,.ok (.pt 0 0)),(1,.ok (.v (.int .i64 s1))),(2,.ok (.v (.int .i64 s2))),(7,.ok (.v (.int .i64 s7))),(8,.ok (.v (.int .i64 s8)))],[(0,.var [.sl 1,.sl 2,.sl 3] 219),(1,.own 97 e1),(2,.own 9 e2),(3,.own 9 e3)]⟩,4)
noncomputable def L2494_127 (s1:Int) (s2:Int) (e1:List Fw.Cell) (e2:List ByteArray) (e3:List ByteArray):Option (Int×Fw.Mach×Unit):=Ln 295 127 (⟨58,[(0,.ok (.pt 0 0)),(1,.ok (.v (.int .i64 s1))),(2,.ok (.v (.int .i64 s2)))],[(0,.var [.sl 1,.sl 2,.sl 3] 219),(1,.own 97 e1),(2,.own 9 e2),(3,.own 9 e3)]⟩,4)
theorem E2494 (x0:Fw.Mach) (x1:Int) (x2:Int):D2494 x0 x1 x2=((D2555 x1).bind fun y0=>(D2295 x0 y0.1).bind fun y1=>(D2090 x2 0 y1.1).bind fun y2=>bif (!y2.1) then(some (4,(y1.2.1,()))) else gd (!(decide (8=0))) <| gd (!(decide (8=0))) <| bif (decide ((Int.tmod x2 8)>0)) then((D2556 y1.2.1 x1 (IntKind.wrap .i64 (Int.tdiv x2 8))).bind fun y3=>(D2557 x1 (IntKind.wrap .i64 (Int.tdiv x2 8))).bind fun y4=>gd (!(decide (8=0))) <| gd ((decide (0≤0))&&((decide (0≤(min (Int.tmod x2 8) (y3.1.size:Int))))&&(decide ((min (Int.tmod x2 8) (y3.1.size:Int))≤(y3.1.size:Int))))) <| (D2256 (cutS y3.1 (0:Int).toNat (min (Int.tmod x2 8) (y3.1.size:Int)).toNat)).bind fun y5=>(D2388 y3.2.1 y4.1 y5.1).bind fun y6=>L2494_63 x1 x2 y1.1 (IntKind.wrap .i64 ((IntKind.wrap .i64 (Int.tdiv x2 8))+1)) y6.1.Store y6.1.Touch.Reads y6.1.Touch.Writes) else L2494_63 x1 x2 y1.1 (IntKind.wrap .i64 (Int.tdiv x2 8)) y1.2.1.Store y1.2.1.Touch.Reads y1.2.1.Touch.Writes):=(Dn_eq _ _).trans (by kernel_rfl)
theorem P2494_63 (s1:Int) (s2:Int) (s7:Int) (s8:Int) (e1:List Fw.Cell) (e2:List ByteArray) (e3:List ByteArray):L2494_63 s1 s2 s7 s8 e1 e2 e3=(L2494_504 s1 s2 s7 s8 e1 e2 e3):=(Ln_eq _ _ _).trans (by kernel_rfl)
theorem P2494_504 (s1:Int) (s2:Int) (s7:Int) (s8:Int) (e1:List Fw.Cell) (e2:List ByteArray) (e3:List ByteArray):L2494_504 s1 s2 s7 s8 e1 e2 e3=(bif (decide ((IntKind.wrap .i64 (s8*8))<s7)) then((D2557 s1 s8).bind fun y0=>(D2388 (⟨e1,(⟨e2,e3⟩:Fw.Touch)⟩:Fw.Mach) y0.1 (tx [])).bind fun y1=>L2494_504 s1 s2 s7 (IntKind.wrap .i64 (s8+1)) y1.1.Store y1.1.Touch.Reads y1.1.Touch.Writes) else L2494_127 s1 s2 e1 e2 e3):=(Ln_eq _ _ _).trans (by kernel_rfl)
theorem P2494_127 (s1:Int) (s2:Int) (e1:List Fw.Cell) (e2:List ByteArray) (e3:List ByteArray):L2494_127 s1 s2 e1 e2 e3=((D2555 s1).bind fun y0=>(D2297 (⟨e1,(⟨e2,e3⟩:Fw.Touch)⟩:Fw.Mach) y0.1 s2).bind fun y1=>some (0,(y1.1,()))):=(Ln_eq _ _ _).trans (by kernel_rfl)
theorem E2495 (x0:Int) (x1:ByteArray):D2495 x0 x1=((D2181 (tx [112,47]) x0 x1).bind fun y0=>some (y0.1,())):=(Dn_eq _ _).trans (by kernel_rfl)
end Go.Proofs.YtapfpflmcgfbkaaGreatDoor.Ri

namespace Go.Proofs.YtapfpflmcgfbkaaGreatDoor.Ri
open Go.Proofs.YtapfpflmcgfbkaaGreatDoor.Fw
open Go.RowKit
set_option linter.unusedVariables false
set_option maxRecDepth 100000
theorem E2496 (x0:Fw.Mach) (x1:Int):D2496 x0 x1=((D2495 x1 (tx [47,111])).bind fun y0=>(D2295 x0 y0.1).bind fun y1=>some ((decide (y1.1=1)),(y1.2.1,()))):=(Dn_eq _ _).trans (by kernel_rfl)
theorem E2497 (x0:Fw.Mach) (x1:ByteArray):D2497 x0 x1=((D2387 x0 x1).bind fun y0=>(D2194 y0.1).bind fun y1=>some (y1.1,(y0.2.1,()))):=(Dn_eq _ _).trans (by kernel_rfl)
theorem E2498 (x0:Int):D2498 x0=((D2181 (tx [109,47]) x0 (tx [47])).bind fun y0=>some (y0.1,())):=(Dn_eq _ _).trans (by kernel_rfl)
theorem E2499 (x0:ByteArray) (x1:ByteArray):D2499 x0 x1=((D5205 x0 x1).bind fun y0=>some (y0.1,(y0.2.1,()))):=(Dn_eq _ _).trans (by kernel_rfl)
theorem E2500 (x0:Int) (x1:ByteArray):D2500 x0 x1=((D2181 (tx [103,47]) x0 x1).bind fun y0=>some (y0.1,())):=(Dn_eq _ _).trans (by kernel_rfl)
theorem E2547 (x0:ByteArray) (x1:ByteArray):D2547 x0 x1=((D5241 x0 x1).bind fun y0=>some (y0.1,())):=(Dn_eq _ _).trans (by kernel_rfl)
theorem E2548 (x0:ByteArray) (x1:ByteArray):D2548 x0 x1=((D2499 x0 (tx [42])).bind fun y0=>bif y0.2.1 then((D2547 x1 y0.1).bind fun y1=>some (y1.1,())) else some ((decide (x0=x1)),())):=(Dn_eq _ _).trans (by kernel_rfl)
noncomputable def L2554_116 (s1:ByteArray) (s8:List Fw.Cell) (s9:Int) (s10:Int):Option ((List ByteArray)×Unit):=Ln 323 116 (⟨25,[(1,.ok (.v (.string s1))),(5,.ok (.v (.slice none 0 0))),(8,.ok (.ro 97 s8)),(9,.ok (.v (.int .i64 s9))),(10,.ok (.v (.int .i64 s10)))],[]⟩,0)
noncomputable def L2554_15  : Option ((List ByteArray)×Unit):=Ln 323 15 (⟨25,[(5,.ok (.v (.slice none 0 0)))],[]⟩,0)
noncomputable def L2554_935 (s1:ByteArray) (s8:List Fw.Cell) (s9:Int) (s10:Int):Option ((List ByteArray)×Unit):=Ln 323 935 (⟨25,[(1,.ok (.v (.string s1))),(5,.ok (.v (.slice none 0 0))),(8,.ok (.ro 97 s8)),(9,.ok (.v (.int .i64 s9))),(10,.ok (.v (.int .i64 s10)))],[]⟩,0)
noncomputable def L2554_935b (s1:ByteArray) (s8:List Fw.Cell) (s9:Int) (s10:Int) (e0:List ByteArray):Option ((List ByteArray)×Unit):=Ln 323 935 (⟨25,[(1,.ok (.v (.string s1))),(5,.ok (.sl 0)),(8,.ok (.ro 97 s8)),(9,.ok (.v (.int .i64 s9))),(10,.ok (.v (.int .i64 s10)))],[(0,.own 9 e0)]⟩,1)
noncomputable def L2554_116b (s1:ByteArray) (s8:List Fw.Cell) (s9:Int) (s10:Int) (e0:List ByteArray):Option ((List ByteArray)×Unit):=Ln 323 116 (⟨25,[(1,.ok (.v (.string s1))),(5,.ok (.sl 0)),(8,.ok (.ro 97 s8)),(9,.ok (.v (.int .i64 s9))),(10,.ok (.v (.int .i64 s10)))],[(0,.own 9 e0)]⟩,1)
noncomputable def L2554_15b (e0:List ByteArray):Option ((List ByteArray)×Unit):=Ln 323 15 (⟨25,[(5,.ok (.sl 0))],[(0,.own 9 e0)]⟩,1)
theorem E2554 (x0:List Fw.Cell) (x1:ByteArray):D2554 x0 x1=(L2554_116 x1 x0 (x0.length:Int) 0):=(Dn_eq _ _).trans (by kernel_rfl)
theorem P2554_116 (s1:ByteArray) (s8:List Fw.Cell) (s9:Int) (s10:Int):L2554_116 s1 s8 s9 s10=(bif (decide (s10<s9)) then(gd ((decide (0≤s10))&&(decide (s10<(s8.length:Int)))) <| (D2547 (nth s8 s10.toNat).Key s1).bind fun y0=>bif y0.1 then(gd ((decide ((1*16)≤140737488355328))&&(decide (1≤9223372036854775807))) <| L2554_935b s1 s8 s9 s10 [(nth s8 s10.toNat).Key]) else L2554_935 s1 s8 s9 s10) else L2554_15):=(Ln_eq _ _ _).trans (by kernel_rfl)
theorem P2554_15  : L2554_15=(some ([],())):=(Ln_eq _ _ _).trans (by kernel_rfl)
theorem P2554_935 (s1:ByteArray) (s8:List Fw.Cell) (s9:Int) (s10:Int):L2554_935 s1 s8 s9 s10=(L2554_116 s1 s8 s9 (IntKind.wrap .i64 (s10+1))):=(Ln_eq _ _ _).trans (by kernel_rfl)
theorem P2554_935b (s1:ByteArray) (s8:List Fw.Cell) (s9:Int) (s10:Int) (e0:List ByteArray):L2554_935b s1 s8 s9 s10 e0=(L2554_116b s1 s8 s9 (IntKind.wrap .i64 (s10+1)) e0):=(Ln_eq _ _ _).trans (by kernel_rfl)
theorem P2554_116b (s1:ByteArray) (s8:List Fw.Cell) (s9:Int) (s10:Int) (e0:List ByteArray):L2554_116b s1 s8 s9 s10 e0=(bif (decide (s10<s9)) then(gd ((decide (0≤s10))&&(decide (s10<(s8.length:Int)))) <| (D2547 (nth s8 s10.toNat).Key s1).bind fun y0=>bif y0.1 then(gd ((decide (((e0.length+1)*16)≤140737488355328))&&(decide ((e0.length+1)≤9223372036854775807))) <| L2554_935b s1 s8 s9 s10 (e0++[(nth s8 s10.toNat).Key])) else L2554_935b s1 s8 s9 s10 e0) else L2554_15b e0):=(Ln_eq _ _ _).trans (by kernel_rfl)
theorem P2554_15b (e0:List ByteArray):L2554_15b e0=(some (e0,())):=(Ln_eq _ _ _).trans (by kernel_rfl)
theorem E2555 (x0:Int):D2555 x0=((D2181 (tx [105,47]) x0 (tx [47,115])).bind fun y0=>some (y0.1,())):=(Dn_eq _ _).trans (by kernel_rfl)
theorem E2556 (x0:Fw.Mach) (x1:Int) (x2:Int):D2556 x0 x1 x2=((D2557 x1 x2).bind fun y0=>(D2387 x0 y0.1).bind fun y1=>(D2313 y1.1).bind fun y2=>some (y2.1,(y1.2.1,()))):=(Dn_eq _ _).trans (by kernel_rfl)
theorem E2557 (x0:Int) (x1:Int):D2557 x0 x1=((D2181 (tx [105,47]) x0 (tx [47,98,47])).bind fun y0=>(D2181 y0.1 x1 (tx [])).bind fun y1=>some (y1.1,())):=(Dn_eq _ _).trans (by kernel_rfl)
noncomputable def L3183_52 (s0:List Fw.Tx) (s1_0:Int) (s7:Int) (s8:Int):Option (Int×Unit):=Ln 1092 52 (⟨19,[(0,.ok (.ro 88 s0)),(1,.ok (.fn 93 [.pe 3 s1_0 0])),(7,.ok (.v (.int .i64 s7))),(8,.ok (.v (.int .i64 s8)))],[]⟩,0)
noncomputable def L3183_7  : Option (Int×Unit):=Ln 1092 7 (⟨19,[],[]⟩,0)
theorem E3183 (x0:List Fw.Tx) (x1:Int):D3183 x0 x1=(L3183_52 x0 x1 (x0.length:Int) 0):=(Dn_eq _ _).trans (by kernel_rfl)
theorem P3183_52 (s0:List Fw.Tx) (s1_0:Int) (s7:Int) (s8:Int):L3183_52 s0 s1_0 s7 s8=(bif (decide (s8<s7)) then(gd ((decide (0≤s8))&&(decide (s8<(s0.length:Int)))) <| (D2184 (nth s0 s8.toNat) s1_0).bind fun y0=>bif y0.1 then(some (s8,())) else L3183_52 s0 s1_0 s7 (IntKind.wrap .i64 (s8+1))) else L3183_7):=(Ln_eq _ _ _).trans (by kernel_rfl)
theorem P3183_7  : L3183_7=(some ((-1),())):=(Ln_eq _ _ _).trans (by kernel_rfl)
noncomputable def L3303_52 (s0:List Fw.Cell) (s1_0:ByteArray) (s7:Int) (s8:Int):Option (Int×Unit):=Ln 1156 52 (⟨19,[(0,.ok (.ro 97 s0)),(1,.ok (.fn 157 [.pe 9 s1_0 0])),(7,.ok (.v (.int .i64 s7))),(8,.ok (.v (.int .i64 s8)))],[]⟩,0)
noncomputable def L3303_7  : Option (Int×Unit):=Ln 1156 7 (⟨19,[],[]⟩,0)
theorem E3303 (x0:List Fw.Cell) (x1:ByteArray):D3303 x0 x1=(L3303_52 x0 x1 (x0.length:Int) 0):=(Dn_eq _ _).trans (by kernel_rfl)
theorem P3303_52 (s0:List Fw.Cell) (s1_0:ByteArray) (s7:Int) (s8:Int):L3303_52 s0 s1_0 s7 s8=(bif (decide (s8<s7)) then(gd ((decide (0≤s8))&&(decide (s8<(s0.length:Int)))) <| (D2427 (nth s0 s8.toNat) s1_0).bind fun y0=>bif y0.1 then(some (s8,())) else L3303_52 s0 s1_0 s7 (IntKind.wrap .i64 (s8+1))) else L3303_7):=(Ln_eq _ _ _).trans (by kernel_rfl)
theorem P3303_7  : L3303_7=(some ((-1),())):=(Ln_eq _ _ _).trans (by kernel_rfl)
noncomputable def L4303_52 (s0:List Fw.Cell) (s1_0:ByteArray) (s7:Int) (s8:Int):Option (Int×Unit):=Ln 2156 52 (⟨19,[(0,.ok (.ro 97 s0)),(1,.ok (.fn 155 [.pe 9 s1_0 0])),(7,.ok (.v (.int .i64 s7))),(8,.ok (.v (.int .i64 s8)))],[]⟩,0)
noncomputable def L4303_7  : Option (Int×Unit):=Ln 2156 7 (⟨19,[],[]⟩,0)
theorem E4303 (x0:List Fw.Cell) (x1:ByteArray):D4303 x0 x1=(L4303_52 x0 x1 (x0.length:Int) 0):=(Dn_eq _ _).trans (by kernel_rfl)
theorem P4303_52 (s0:List Fw.Cell) (s1_0:ByteArray) (s7:Int) (s8:Int):L4303_52 s0 s1_0 s7 s8=(bif (decide (s8<s7)) then(gd ((decide (0≤s8))&&(decide (s8<(s0.length:Int)))) <| (D2426 (nth s0 s8.toNat) s1_0).bind fun y0=>bif y0.1 then(some (s8,())) else L4303_52 s0 s1_0 s7 (IntKind.wrap .i64 (s8+1))) else L4303_7):=(Ln_eq _ _ _).trans (by kernel_rfl)
theorem P4303_7  : L4303_7=(some ((-1),())):=(Ln_eq _ _ _).trans (by kernel_rfl)
noncomputable def L4417_52 (s0:List ByteArray) (s1_0:ByteArray) (s7:Int) (s8:Int):Option (Int×Unit):=Ln 2206 52 (⟨19,[(0,.ok (.ro 9 s0)),(1,.ok (.fn 173 [.pe 9 s1_0 0])),(7,.ok (.v (.int .i64 s7))),(8,.ok (.v (.int .i64 s8)))],[]⟩,0)
noncomputable def L4417_7  : Option (Int×Unit):=Ln 2206 7 (⟨19,[],[]⟩,0)
theorem E4417 (x0:List ByteArray) (x1:ByteArray):D4417 x0 x1=(L4417_52 x0 x1 (x0.length:Int) 0):=(Dn_eq _ _).trans (by kernel_rfl)
theorem P4417_52 (s0:List ByteArray) (s1_0:ByteArray) (s7:Int) (s8:Int):L4417_52 s0 s1_0 s7 s8=(bif (decide (s8<s7)) then(gd ((decide (0≤s8))&&(decide (s8<(s0.length:Int)))) <| (D2480 (nth s0 s8.toNat) s1_0).bind fun y0=>bif y0.1 then(some (s8,())) else L4417_52 s0 s1_0 s7 (IntKind.wrap .i64 (s8+1))) else L4417_7):=(Ln_eq _ _ _).trans (by kernel_rfl)
theorem P4417_7  : L4417_7=(some ((-1),())):=(Ln_eq _ _ _).trans (by kernel_rfl)
theorem E5004 (x0:Fw.Kernel) (x1:Int):D5004 x0 x1=((D5009 x0.Store x1).bind fun y0=>bif (decide (y0.1<0)) then(some ((-1),())) else(D5010 x0.Txs y0.1).bind fun y1=>bif (decide (y1.1<0)) then(some ((-1),())) else(D5011 x0.Disk y1.1).bind fun y2=>bif (decide (y2.1<0)) then(some ((-1),())) else(D5012 x0.History y2.1).bind fun y3=>bif (decide (y3.1<0)) then(some ((-1),())) else(D5013 x0.Seen y3.1).bind fun y4=>bif (decide (y4.1<0)) then(some ((-1),())) else some (y4.1,())):=(Dn_eq _ _).trans (by kernel_rfl)
theorem E5006 (x0:Fw.Kernel):D5006 x0=((D5015 x0.Store).bind fun y0=>(D5016 x0.Txs).bind fun y1=>(D5017 x0.Disk).bind fun y2=>(D5018 x0.History).bind fun y3=>(D5019 x0.Seen).bind fun y4=>some ((⟨y0.1,y1.1,y2.1,x0.Seq,x0.Next,x0.Time,y3.1,y4.1,x0.Room⟩:Fw.Kernel),())):=(Dn_eq _ _).trans (by kernel_rfl)
theorem E5008 (x0:Fw.Kernel) (x1:Fw.Kernel):D5008 x0 x1=((D5023 x0.Store x1.Store).bind fun y0=>bif (!y0.1) then(some (false,())) else(D5024 x0.Txs x1.Txs).bind fun y1=>bif (!y1.1) then(some (false,())) else(D5025 x0.Disk x1.Disk).bind fun y2=>bif (!y2.1) then(some (false,())) else bif (!(decide (x0.Seq=x1.Seq))) then(some (false,())) else bif (!(decide (x0.Next=x1.Next))) then(some (false,())) else bif (!(decide (x0.Time=x1.Time))) then(some (false,())) else(D5026 x0.History x1.History).bind fun y3=>bif (!y3.1) then(some (false,())) else(D5027 x0.Seen x1.Seen).bind fun y4=>bif (!y4.1) then(some (false,())) else bif (!(decide (x0.Room=x1.Room))) then(some (false,())) else some (true,())):=(Dn_eq _ _).trans (by kernel_rfl)
noncomputable def L5009_244 (s0:List Fw.Cell) (s1:Int) (s5:Int):Option (Int×Unit):=Ln 9 244 (⟨27,[(0,.ok (.ro 66 s0)),(1,.ok (.v (.int .i64 s1))),(5,.ok (.v (.int .i64 s5)))],[]⟩,0)
noncomputable def L5009_31 (s1:Int):Option (Int×Unit):=Ln 9 31 (⟨27,[(1,.ok (.v (.int .i64 s1)))],[]⟩,0)
theorem E5009 (x0:List Fw.Cell) (x1:Int):D5009 x0 x1=(bif (decide ((IntKind.wrap .i64 (x1 - (x0.length:Int)))<0)) then(some ((-1),())) else L5009_244 x0 (IntKind.wrap .i64 (x1 - (x0.length:Int))) 0):=(Dn_eq _ _).trans (by kernel_rfl)
theorem P5009_244 (s0:List Fw.Cell) (s1:Int) (s5:Int):L5009_244 s0 s1 s5=(bif (decide (s5<(s0.length:Int))) then(gd ((decide (0≤s5))&&(decide (s5<(s0.length:Int)))) <| (D5028 (nth s0 s5.toNat) s1).bind fun y0=>bif (decide (y0.1<0)) then(some ((-1),())) else L5009_244 s0 y0.1 (IntKind.wrap .i64 (s5+1))) else L5009_31 s1):=(Ln_eq _ _ _).trans (by kernel_rfl)
theorem P5009_31 (s1:Int):L5009_31 s1=(some (s1,())):=(Ln_eq _ _ _).trans (by kernel_rfl)
noncomputable def L5010_244 (s0:List Fw.Tx) (s1:Int) (s5:Int):Option (Int×Unit):=Ln 10 244 (⟨27,[(0,.ok (.ro 74 s0)),(1,.ok (.v (.int .i64 s1))),(5,.ok (.v (.int .i64 s5)))],[]⟩,0)
noncomputable def L5010_31 (s1:Int):Option (Int×Unit):=Ln 10 31 (⟨27,[(1,.ok (.v (.int .i64 s1)))],[]⟩,0)
theorem E5010 (x0:List Fw.Tx) (x1:Int):D5010 x0 x1=(bif (decide ((IntKind.wrap .i64 (x1 - (x0.length:Int)))<0)) then(some ((-1),())) else L5010_244 x0 (IntKind.wrap .i64 (x1 - (x0.length:Int))) 0):=(Dn_eq _ _).trans (by kernel_rfl)
theorem P5010_244 (s0:List Fw.Tx) (s1:Int) (s5:Int):L5010_244 s0 s1 s5=(bif (decide (s5<(s0.length:Int))) then(gd ((decide (0≤s5))&&(decide (s5<(s0.length:Int)))) <| (D5029 (nth s0 s5.toNat) s1).bind fun y0=>bif (decide (y0.1<0)) then(some ((-1),())) else L5010_244 s0 y0.1 (IntKind.wrap .i64 (s5+1))) else L5010_31 s1):=(Ln_eq _ _ _).trans (by kernel_rfl)
theorem P5010_31 (s1:Int):L5010_31 s1=(some (s1,())):=(Ln_eq _ _ _).trans (by kernel_rfl)
theorem E5011 (x0:Fw.Disk) (x1:Int):D5011 x0 x1=((D5030 x0.Slots x1).bind fun y0=>bif (decide (y0.1<0)) then(some ((-1),())) else(D5031 x0.Journal y0.1).bind fun y1=>bif (decide (y1.1<0)) then(some ((-1),())) else some (y1.1,())):=(Dn_eq _ _).trans (by kernel_rfl)
noncomputable def L5012_244 (s0:List Fw.Entry) (s1:Int) (s5:Int):Option (Int×Unit):=Ln 12 244 (⟨27,[(0,.ok (.ro 80 s0)),(1,.ok (.v (.int .i64 s1))),(5,.ok (.v (.int .i64 s5)))],[]⟩,0)
noncomputable def L5012_31 (s1:Int):Option (Int×Unit):=Ln 12 31 (⟨27,[(1,.ok (.v (.int .i64 s1)))],[]⟩,0)
theorem E5012 (x0:List Fw.Entry) (x1:Int):D5012 x0 x1=(bif (decide ((IntKind.wrap .i64 (x1 - (x0.length:Int)))<0)) then(some ((-1),())) else L5012_244 x0 (IntKind.wrap .i64 (x1 - (x0.length:Int))) 0):=(Dn_eq _ _).trans (by kernel_rfl)
theorem P5012_244 (s0:List Fw.Entry) (s1:Int) (s5:Int):L5012_244 s0 s1 s5=(bif (decide (s5<(s0.length:Int))) then(gd ((decide (0≤s5))&&(decide (s5<(s0.length:Int)))) <| (D5032 (nth s0 s5.toNat) s1).bind fun y0=>bif (decide (y0.1<0)) then(some ((-1),())) else L5012_244 s0 y0.1 (IntKind.wrap .i64 (s5+1))) else L5012_31 s1):=(Ln_eq _ _ _).trans (by kernel_rfl)
theorem P5012_31 (s1:Int):L5012_31 s1=(some (s1,())):=(Ln_eq _ _ _).trans (by kernel_rfl)
noncomputable def L5013_244 (s0:List ByteArray) (s1:Int) (s5:Int):Option (Int×Unit):=Ln 13 244 (⟨28,[(0,.ok (.ro 9 s0)),(1,.ok (.v (.int .i64 s1))),(5,.ok (.v (.int .i64 s5)))],[]⟩,0)
noncomputable def L5013_31 (s1:Int):Option (Int×Unit):=Ln 13 31 (⟨28,[(1,.ok (.v (.int .i64 s1)))],[]⟩,0)
theorem E5013 (x0:List ByteArray) (x1:Int):D5013 x0 x1=(bif (decide ((IntKind.wrap .i64 (x1 - (x0.length:Int)))<0)) then(some ((-1),())) else L5013_244 x0 (IntKind.wrap .i64 (x1 - (x0.length:Int))) 0):=(Dn_eq _ _).trans (by kernel_rfl)
theorem P5013_244 (s0:List ByteArray) (s1:Int) (s5:Int):L5013_244 s0 s1 s5=(bif (decide (s5<(s0.length:Int))) then(gd ((decide (0≤s5))&&(decide (s5<(s0.length:Int)))) <| bif (decide ((IntKind.wrap .i64 (s1 - ((nth s0 s5.toNat).size:Int)))<0)) then(some ((-1),())) else L5013_244 s0 (IntKind.wrap .i64 (s1 - ((nth s0 s5.toNat).size:Int))) (IntKind.wrap .i64 (s5+1))) else L5013_31 s1):=(Ln_eq _ _ _).trans (by kernel_rfl)
theorem P5013_31 (s1:Int):L5013_31 s1=(some (s1,())):=(Ln_eq _ _ _).trans (by kernel_rfl)
noncomputable def L5015_116 (s0:List Fw.Cell) (s4:Int) (e0:List Fw.Cell):Option ((List Fw.Cell)×Unit):=Ln 15 116 (⟨23,[(0,.ok (.ro 66 s0)),(3,.ok (.sl 0)),(4,.ok (.v (.int .i64 s4)))],[(0,.own 97 e0)]⟩,1)
noncomputable def L5015_15 (e0:List Fw.Cell):Option ((List Fw.Cell)×Unit):=Ln 15 15 (⟨23,[(3,.ok (.sl 0))],[(0,.own 97 e0)]⟩,1)
theorem E5015 (x0:List Fw.Cell):D5015 x0=(gd ((decide ((x0.length:Int)=(x0.length:Int)))&&((decide (0≤(x0.length:Int)))&&(decide (((32:Int)*(x0.length:Int))≤281474976710656)))) <| L5015_116 x0 0 (List.replicate (x0.length:Int).toNat (⟨(tx []),(tx [])⟩:Fw.Cell))):=(Dn_eq _ _).trans (by kernel_rfl)
theorem P5015_116 (s0:List Fw.Cell) (s4:Int) (e0:List Fw.Cell):L5015_116 s0 s4 e0=(bif (decide (s4<(s0.length:Int))) then(gd ((decide (0≤s4))&&(decide (s4<(s0.length:Int)))) <| (D5037 (nth s0 s4.toNat)).bind fun y0=>gd ((decide (0≤s4))&&(decide (s4<(e0.length:Int)))) <| L5015_116 s0 (IntKind.wrap .i64 (s4+1)) (e0.set s4.toNat y0.1)) else L5015_15 e0):=(Ln_eq _ _ _).trans (by kernel_rfl)
theorem P5015_15 (e0:List Fw.Cell):L5015_15 e0=(some (e0,())):=(Ln_eq _ _ _).trans (by kernel_rfl)
noncomputable def L5016_116 (s0:List Fw.Tx) (s4:Int) (e0:List Fw.Tx):Option ((List Fw.Tx)×Unit):=Ln 16 116 (⟨23,[(0,.ok (.ro 74 s0)),(3,.ok (.sl 0)),(4,.ok (.v (.int .i64 s4)))],[(0,.own 88 e0)]⟩,1)
noncomputable def L5016_15 (e0:List Fw.Tx):Option ((List Fw.Tx)×Unit):=Ln 16 15 (⟨23,[(3,.ok (.sl 0))],[(0,.own 88 e0)]⟩,1)
theorem E5016 (x0:List Fw.Tx):D5016 x0=(gd ((decide ((x0.length:Int)=(x0.length:Int)))&&((decide (0≤(x0.length:Int)))&&(decide (((160:Int)*(x0.length:Int))≤281474976710656)))) <| L5016_116 x0 0 (List.replicate (x0.length:Int).toNat (⟨0,0,0,0,[],[],(⟨[],[]⟩:Fw.Touch),[],0⟩:Fw.Tx))):=(Dn_eq _ _).trans (by kernel_rfl)
theorem P5016_116 (s0:List Fw.Tx) (s4:Int) (e0:List Fw.Tx):L5016_116 s0 s4 e0=(bif (decide (s4<(s0.length:Int))) then(gd ((decide (0≤s4))&&(decide (s4<(s0.length:Int)))) <| (D5038 (nth s0 s4.toNat)).bind fun y0=>gd ((decide (0≤s4))&&(decide (s4<(e0.length:Int)))) <| L5016_116 s0 (IntKind.wrap .i64 (s4+1)) (e0.set s4.toNat y0.1)) else L5016_15 e0):=(Ln_eq _ _ _).trans (by kernel_rfl)
theorem P5016_15 (e0:List Fw.Tx):L5016_15 e0=(some (e0,())):=(Ln_eq _ _ _).trans (by kernel_rfl)
theorem E5017 (x0:Fw.Disk):D5017 x0=((D5039 x0.Slots).bind fun y0=>(D5040 x0.Journal).bind fun y1=>some ((⟨y0.1,y1.1⟩:Fw.Disk),())):=(Dn_eq _ _).trans (by kernel_rfl)
noncomputable def L5018_116 (s0:List Fw.Entry) (s4:Int) (e0:List Fw.Entry):Option ((List Fw.Entry)×Unit):=Ln 18 116 (⟨23,[(0,.ok (.ro 80 s0)),(3,.ok (.sl 0)),(4,.ok (.v (.int .i64 s4)))],[(0,.own 96 e0)]⟩,1)
noncomputable def L5018_15 (e0:List Fw.Entry):Option ((List Fw.Entry)×Unit):=Ln 18 15 (⟨23,[(3,.ok (.sl 0))],[(0,.own 96 e0)]⟩,1)
theorem E5018 (x0:List Fw.Entry):D5018 x0=(gd ((decide ((x0.length:Int)=(x0.length:Int)))&&((decide (0≤(x0.length:Int)))&&(decide (((96:Int)*(x0.length:Int))≤281474976710656)))) <| L5018_116 x0 0 (List.replicate (x0.length:Int).toNat (⟨0,0,0,[],[],0,0,false⟩:Fw.Entry))):=(Dn_eq _ _).trans (by kernel_rfl)
theorem P5018_116 (s0:List Fw.Entry) (s4:Int) (e0:List Fw.Entry):L5018_116 s0 s4 e0=(bif (decide (s4<(s0.length:Int))) then(gd ((decide (0≤s4))&&(decide (s4<(s0.length:Int)))) <| (D5041 (nth s0 s4.toNat)).bind fun y0=>gd ((decide (0≤s4))&&(decide (s4<(e0.length:Int)))) <| L5018_116 s0 (IntKind.wrap .i64 (s4+1)) (e0.set s4.toNat y0.1)) else L5018_15 e0):=(Ln_eq _ _ _).trans (by kernel_rfl)
theorem P5018_15 (e0:List Fw.Entry):L5018_15 e0=(some (e0,())):=(Ln_eq _ _ _).trans (by kernel_rfl)
noncomputable def L5019_116 (s0:List ByteArray) (s4:Int) (e0:List ByteArray):Option ((List ByteArray)×Unit):=Ln 19 116 (⟨22,[(0,.ok (.ro 9 s0)),(3,.ok (.sl 0)),(4,.ok (.v (.int .i64 s4)))],[(0,.own 9 e0)]⟩,1)
noncomputable def L5019_15 (e0:List ByteArray):Option ((List ByteArray)×Unit):=Ln 19 15 (⟨22,[(3,.ok (.sl 0))],[(0,.own 9 e0)]⟩,1)
theorem E5019 (x0:List ByteArray):D5019 x0=(gd ((decide ((x0.length:Int)=(x0.length:Int)))&&((decide (0≤(x0.length:Int)))&&(decide (((16:Int)*(x0.length:Int))≤281474976710656)))) <| L5019_116 x0 0 (List.replicate (x0.length:Int).toNat (tx []))):=(Dn_eq _ _).trans (by kernel_rfl)
theorem P5019_116 (s0:List ByteArray) (s4:Int) (e0:List ByteArray):L5019_116 s0 s4 e0=(bif (decide (s4<(s0.length:Int))) then(gd ((decide (0≤s4))&&(decide (s4<(s0.length:Int)))) <| gd ((decide (0≤s4))&&(decide (s4<(e0.length:Int)))) <| L5019_116 s0 (IntKind.wrap .i64 (s4+1)) (e0.set s4.toNat (nth s0 s4.toNat))) else L5019_15 e0):=(Ln_eq _ _ _).trans (by kernel_rfl)
theorem P5019_15 (e0:List ByteArray):L5019_15 e0=(some (e0,())):=(Ln_eq _ _ _).trans (by kernel_rfl)
noncomputable def L5023_116 (s0:List Fw.Cell) (s1:List Fw.Cell) (s5:Int):Option (Bool×Unit):=Ln 21 116 (⟨27,[(0,.ok (.ro 97 s0)),(1,.ok (.ro 97 s1)),(5,.ok (.v (.int .i64 s5)))],[]⟩,0)
noncomputable def L5023_15  : Option (Bool×Unit):=Ln 21 15 (⟨27,[],[]⟩,0)
theorem E5023 (x0:List Fw.Cell) (x1:List Fw.Cell):D5023 x0 x1=(bif (!(decide ((x0.length:Int)=(x1.length:Int)))) then(some (false,())) else L5023_116 x0 x1 0):=(Dn_eq _ _).trans (by kernel_rfl)
theorem P5023_116 (s0:List Fw.Cell) (s1:List Fw.Cell) (s5:Int):L5023_116 s0 s1 s5=(bif (decide (s5<(s0.length:Int))) then(gd ((decide (0≤s5))&&(decide (s5<(s0.length:Int)))) <| gd ((decide (0≤s5))&&(decide (s5<(s1.length:Int)))) <| (D5048 (nth s0 s5.toNat) (nth s1 s5.toNat)).bind fun y0=>bif (!y0.1) then(some (false,())) else L5023_116 s0 s1 (IntKind.wrap .i64 (s5+1))) else L5023_15):=(Ln_eq _ _ _).trans (by kernel_rfl)
theorem P5023_15  : L5023_15=(some (true,())):=(Ln_eq _ _ _).trans (by kernel_rfl)
noncomputable def L5024_116 (s0:List Fw.Tx) (s1:List Fw.Tx) (s5:Int):Option (Bool×Unit):=Ln 22 116 (⟨27,[(0,.ok (.ro 88 s0)),(1,.ok (.ro 88 s1)),(5,.ok (.v (.int .i64 s5)))],[]⟩,0)
noncomputable def L5024_15  : Option (Bool×Unit):=Ln 22 15 (⟨27,[],[]⟩,0)
theorem E5024 (x0:List Fw.Tx) (x1:List Fw.Tx):D5024 x0 x1=(bif (!(decide ((x0.length:Int)=(x1.length:Int)))) then(some (false,())) else L5024_116 x0 x1 0):=(Dn_eq _ _).trans (by kernel_rfl)
theorem P5024_116 (s0:List Fw.Tx) (s1:List Fw.Tx) (s5:Int):L5024_116 s0 s1 s5=(bif (decide (s5<(s0.length:Int))) then(gd ((decide (0≤s5))&&(decide (s5<(s0.length:Int)))) <| gd ((decide (0≤s5))&&(decide (s5<(s1.length:Int)))) <| (D5049 (nth s0 s5.toNat) (nth s1 s5.toNat)).bind fun y0=>bif (!y0.1) then(some (false,())) else L5024_116 s0 s1 (IntKind.wrap .i64 (s5+1))) else L5024_15):=(Ln_eq _ _ _).trans (by kernel_rfl)
theorem P5024_15  : L5024_15=(some (true,())):=(Ln_eq _ _ _).trans (by kernel_rfl)
theorem E5025 (x0:Fw.Disk) (x1:Fw.Disk):D5025 x0 x1=((D5050 x0.Slots x1.Slots).bind fun y0=>bif (!y0.1) then(some (false,())) else(D5051 x0.Journal x1.Journal).bind fun y1=>bif (!y1.1) then(some (false,())) else some (true,())):=(Dn_eq _ _).trans (by kernel_rfl)
noncomputable def L5026_116 (s0:List Fw.Entry) (s1:List Fw.Entry) (s5:Int):Option (Bool×Unit):=Ln 24 116 (⟨27,[(0,.ok (.ro 96 s0)),(1,.ok (.ro 96 s1)),(5,.ok (.v (.int .i64 s5)))],[]⟩,0)
noncomputable def L5026_15  : Option (Bool×Unit):=Ln 24 15 (⟨27,[],[]⟩,0)
theorem E5026 (x0:List Fw.Entry) (x1:List Fw.Entry):D5026 x0 x1=(bif (!(decide ((x0.length:Int)=(x1.length:Int)))) then(some (false,())) else L5026_116 x0 x1 0):=(Dn_eq _ _).trans (by kernel_rfl)
theorem P5026_116 (s0:List Fw.Entry) (s1:List Fw.Entry) (s5:Int):L5026_116 s0 s1 s5=(bif (decide (s5<(s0.length:Int))) then(gd ((decide (0≤s5))&&(decide (s5<(s0.length:Int)))) <| gd ((decide (0≤s5))&&(decide (s5<(s1.length:Int)))) <| (D5052 (nth s0 s5.toNat) (nth s1 s5.toNat)).bind fun y0=>bif (!y0.1) then(some (false,())) else L5026_116 s0 s1 (IntKind.wrap .i64 (s5+1))) else L5026_15):=(Ln_eq _ _ _).trans (by kernel_rfl)
theorem P5026_15  : L5026_15=(some (true,())):=(Ln_eq _ _ _).trans (by kernel_rfl)
noncomputable def L5027_116 (s0:List ByteArray) (s1:List ByteArray) (s5:Int):Option (Bool×Unit):=Ln 25 116 (⟨26,[(0,.ok (.ro 9 s0)),(1,.ok (.ro 9 s1)),(5,.ok (.v (.int .i64 s5)))],[]⟩,0)
noncomputable def L5027_15  : Option (Bool×Unit):=Ln 25 15 (⟨26,[],[]⟩,0)
theorem E5027 (x0:List ByteArray) (x1:List ByteArray):D5027 x0 x1=(bif (!(decide ((x0.length:Int)=(x1.length:Int)))) then(some (false,())) else L5027_116 x0 x1 0):=(Dn_eq _ _).trans (by kernel_rfl)
theorem P5027_116 (s0:List ByteArray) (s1:List ByteArray) (s5:Int):L5027_116 s0 s1 s5=(bif (decide (s5<(s0.length:Int))) then(gd ((decide (0≤s5))&&(decide (s5<(s0.length:Int)))) <| gd ((decide (0≤s5))&&(decide (s5<(s1.length:Int)))) <| bif (!(decide ((nth s0 s5.toNat)=(nth s1 s5.toNat)))) then(some (false,())) else L5027_116 s0 s1 (IntKind.wrap .i64 (s5+1))) else L5027_15):=(Ln_eq _ _ _).trans (by kernel_rfl)
theorem P5027_15  : L5027_15=(some (true,())):=(Ln_eq _ _ _).trans (by kernel_rfl)
end Go.Proofs.YtapfpflmcgfbkaaGreatDoor.Ri

namespace Go.Proofs.YtapfpflmcgfbkaaGreatDoor.Ri
open Go.Proofs.YtapfpflmcgfbkaaGreatDoor.Fw
open Go.RowKit
set_option linter.unusedVariables false
set_option maxRecDepth 100000
theorem E5028 (x0:Fw.Cell) (x1:Int):D5028 x0 x1=(bif (decide ((IntKind.wrap .i64 (x1 - (x0.Key.size:Int)))<0)) then(some ((-1),())) else bif (decide ((IntKind.wrap .i64 ((IntKind.wrap .i64 (x1 - (x0.Key.size:Int))) - (x0.Val.size:Int)))<0)) then(some ((-1),())) else some ((IntKind.wrap .i64 ((IntKind.wrap .i64 (x1 - (x0.Key.size:Int))) - (x0.Val.size:Int))),())):=(Dn_eq _ _).trans (by kernel_rfl)
theorem E5029 (x0:Fw.Tx) (x1:Int):D5029 x0 x1=((D5053 x0.Calls x1).bind fun y0=>bif (decide (y0.1<0)) then(some ((-1),())) else(D5054 x0.Answers y0.1).bind fun y1=>bif (decide (y1.1<0)) then(some ((-1),())) else(D5055 x0.Touch y1.1).bind fun y2=>bif (decide (y2.1<0)) then(some ((-1),())) else(D5056 x0.Marks y2.1).bind fun y3=>bif (decide (y3.1<0)) then(some ((-1),())) else some (y3.1,())):=(Dn_eq _ _).trans (by kernel_rfl)
noncomputable def L5030_244 (s0:List Fw.Slot) (s1:Int) (s5:Int):Option (Int×Unit):=Ln 28 244 (⟨27,[(0,.ok (.ro 120 s0)),(1,.ok (.v (.int .i64 s1))),(5,.ok (.v (.int .i64 s5)))],[]⟩,0)
noncomputable def L5030_31 (s1:Int):Option (Int×Unit):=Ln 28 31 (⟨27,[(1,.ok (.v (.int .i64 s1)))],[]⟩,0)
theorem E5030 (x0:List Fw.Slot) (x1:Int):D5030 x0 x1=(bif (decide ((IntKind.wrap .i64 (x1 - (x0.length:Int)))<0)) then(some ((-1),())) else L5030_244 x0 (IntKind.wrap .i64 (x1 - (x0.length:Int))) 0):=(Dn_eq _ _).trans (by kernel_rfl)
theorem P5030_244 (s0:List Fw.Slot) (s1:Int) (s5:Int):L5030_244 s0 s1 s5=(bif (decide (s5<(s0.length:Int))) then(gd ((decide (0≤s5))&&(decide (s5<(s0.length:Int)))) <| (D5057 (nth s0 s5.toNat) s1).bind fun y0=>bif (decide (y0.1<0)) then(some ((-1),())) else L5030_244 s0 y0.1 (IntKind.wrap .i64 (s5+1))) else L5030_31 s1):=(Ln_eq _ _ _).trans (by kernel_rfl)
theorem P5030_31 (s1:Int):L5030_31 s1=(some (s1,())):=(Ln_eq _ _ _).trans (by kernel_rfl)
theorem E5031 (x0:Fw.Journal) (x1:Int):D5031 x0 x1=(bif (decide ((IntKind.wrap .i64 (x1 - (x0.Text.size:Int)))<0)) then(some ((-1),())) else some ((IntKind.wrap .i64 (x1 - (x0.Text.size:Int))),())):=(Dn_eq _ _).trans (by kernel_rfl)
theorem E5032 (x0:Fw.Entry) (x1:Int):D5032 x0 x1=((D5058 x0.Steps x1).bind fun y0=>bif (decide (y0.1<0)) then(some ((-1),())) else(D5054 x0.Answers y0.1).bind fun y1=>bif (decide (y1.1<0)) then(some ((-1),())) else some (y1.1,())):=(Dn_eq _ _).trans (by kernel_rfl)
theorem E5037 (x0:Fw.Cell):D5037 x0=(some (x0,())):=(Dn_eq _ _).trans (by kernel_rfl)
theorem E5038 (x0:Fw.Tx):D5038 x0=((D5061 x0.Calls).bind fun y0=>(D5062 x0.Answers).bind fun y1=>(D5063 x0.Touch).bind fun y2=>(D5064 x0.Marks).bind fun y3=>some ({ x0 with Calls:=y0.1,Answers:=y1.1,Touch:=y2.1,Marks:=y3.1 },())):=(Dn_eq _ _).trans (by kernel_rfl)
noncomputable def L5039_116 (s0:List Fw.Slot) (s4:Int) (e0:List Fw.Slot):Option ((List Fw.Slot)×Unit):=Ln 40 116 (⟨23,[(0,.ok (.ro 120 s0)),(3,.ok (.sl 0)),(4,.ok (.v (.int .i64 s4)))],[(0,.own 144 e0)]⟩,1)
noncomputable def L5039_15 (e0:List Fw.Slot):Option ((List Fw.Slot)×Unit):=Ln 40 15 (⟨23,[(3,.ok (.sl 0))],[(0,.own 144 e0)]⟩,1)
theorem E5039 (x0:List Fw.Slot):D5039 x0=(gd ((decide ((x0.length:Int)=(x0.length:Int)))&&((decide (0≤(x0.length:Int)))&&(decide (((40:Int)*(x0.length:Int))≤281474976710656)))) <| L5039_116 x0 0 (List.replicate (x0.length:Int).toNat (⟨0,[],false⟩:Fw.Slot))):=(Dn_eq _ _).trans (by kernel_rfl)
theorem P5039_116 (s0:List Fw.Slot) (s4:Int) (e0:List Fw.Slot):L5039_116 s0 s4 e0=(bif (decide (s4<(s0.length:Int))) then(gd ((decide (0≤s4))&&(decide (s4<(s0.length:Int)))) <| (D5065 (nth s0 s4.toNat)).bind fun y0=>gd ((decide (0≤s4))&&(decide (s4<(e0.length:Int)))) <| L5039_116 s0 (IntKind.wrap .i64 (s4+1)) (e0.set s4.toNat y0.1)) else L5039_15 e0):=(Ln_eq _ _ _).trans (by kernel_rfl)
theorem P5039_15 (e0:List Fw.Slot):L5039_15 e0=(some (e0,())):=(Ln_eq _ _ _).trans (by kernel_rfl)
theorem E5040 (x0:Fw.Journal):D5040 x0=(some (x0,())):=(Dn_eq _ _).trans (by kernel_rfl)
theorem E5041 (x0:Fw.Entry):D5041 x0=((D5066 x0.Steps).bind fun y0=>(D5062 x0.Answers).bind fun y1=>some ({ x0 with Steps:=y0.1,Answers:=y1.1 },())):=(Dn_eq _ _).trans (by kernel_rfl)
theorem E5048 (x0:Fw.Cell) (x1:Fw.Cell):D5048 x0 x1=(bif (!(decide (x0.Key=x1.Key))) then(some (false,())) else bif (!(decide (x0.Val=x1.Val))) then(some (false,())) else some (true,())):=(Dn_eq _ _).trans (by kernel_rfl)
theorem E5049 (x0:Fw.Tx) (x1:Fw.Tx):D5049 x0 x1=(bif (!(decide (x0.Id=x1.Id))) then(some (false,())) else bif (!(decide (x0.Age=x1.Age))) then(some (false,())) else bif (!(decide (x0.Proc=x1.Proc))) then(some (false,())) else bif (!(decide (x0.Began=x1.Began))) then(some (false,())) else(D5073 x0.Calls x1.Calls).bind fun y0=>bif (!y0.1) then(some (false,())) else(D5074 x0.Answers x1.Answers).bind fun y1=>bif (!y1.1) then(some (false,())) else(D5075 x0.Touch x1.Touch).bind fun y2=>bif (!y2.1) then(some (false,())) else(D5076 x0.Marks x1.Marks).bind fun y3=>bif (!y3.1) then(some (false,())) else bif (!(decide (x0.State=x1.State))) then(some (false,())) else some (true,())):=(Dn_eq _ _).trans (by kernel_rfl)
noncomputable def L5050_116 (s0:List Fw.Slot) (s1:List Fw.Slot) (s5:Int):Option (Bool×Unit):=Ln 53 116 (⟨27,[(0,.ok (.ro 144 s0)),(1,.ok (.ro 144 s1)),(5,.ok (.v (.int .i64 s5)))],[]⟩,0)
noncomputable def L5050_15  : Option (Bool×Unit):=Ln 53 15 (⟨27,[],[]⟩,0)
theorem E5050 (x0:List Fw.Slot) (x1:List Fw.Slot):D5050 x0 x1=(bif (!(decide ((x0.length:Int)=(x1.length:Int)))) then(some (false,())) else L5050_116 x0 x1 0):=(Dn_eq _ _).trans (by kernel_rfl)
theorem P5050_116 (s0:List Fw.Slot) (s1:List Fw.Slot) (s5:Int):L5050_116 s0 s1 s5=(bif (decide (s5<(s0.length:Int))) then(gd ((decide (0≤s5))&&(decide (s5<(s0.length:Int)))) <| gd ((decide (0≤s5))&&(decide (s5<(s1.length:Int)))) <| (D5077 (nth s0 s5.toNat) (nth s1 s5.toNat)).bind fun y0=>bif (!y0.1) then(some (false,())) else L5050_116 s0 s1 (IntKind.wrap .i64 (s5+1))) else L5050_15):=(Ln_eq _ _ _).trans (by kernel_rfl)
theorem P5050_15  : L5050_15=(some (true,())):=(Ln_eq _ _ _).trans (by kernel_rfl)
theorem E5051 (x0:Fw.Journal) (x1:Fw.Journal):D5051 x0 x1=(bif (!(decide (x0.Text=x1.Text))) then(some (false,())) else bif (!(decide (x0.Sure=x1.Sure))) then(some (false,())) else some (true,())):=(Dn_eq _ _).trans (by kernel_rfl)
theorem E5052 (x0:Fw.Entry) (x1:Fw.Entry):D5052 x0 x1=(bif (!(decide (x0.Seq=x1.Seq))) then(some (false,())) else bif (!(decide (x0.Kind=x1.Kind))) then(some (false,())) else bif (!(decide (x0.Tx=x1.Tx))) then(some (false,())) else(D5078 x0.Steps x1.Steps).bind fun y0=>bif (!y0.1) then(some (false,())) else(D5074 x0.Answers x1.Answers).bind fun y1=>bif (!y1.1) then(some (false,())) else bif (!(decide (x0.Began=x1.Began))) then(some (false,())) else bif (!(decide (x0.Ended=x1.Ended))) then(some (false,())) else bif (!(decide (x0.Laid=x1.Laid))) then(some (false,())) else some (true,())):=(Dn_eq _ _).trans (by kernel_rfl)
noncomputable def L5053_244 (s0:List Fw.Call) (s1:Int) (s5:Int):Option (Int×Unit):=Ln 56 244 (⟨27,[(0,.ok (.ro 160 s0)),(1,.ok (.v (.int .i64 s1))),(5,.ok (.v (.int .i64 s5)))],[]⟩,0)
noncomputable def L5053_31 (s1:Int):Option (Int×Unit):=Ln 56 31 (⟨27,[(1,.ok (.v (.int .i64 s1)))],[]⟩,0)
theorem E5053 (x0:List Fw.Call) (x1:Int):D5053 x0 x1=(bif (decide ((IntKind.wrap .i64 (x1 - (x0.length:Int)))<0)) then(some ((-1),())) else L5053_244 x0 (IntKind.wrap .i64 (x1 - (x0.length:Int))) 0):=(Dn_eq _ _).trans (by kernel_rfl)
theorem P5053_244 (s0:List Fw.Call) (s1:Int) (s5:Int):L5053_244 s0 s1 s5=(bif (decide (s5<(s0.length:Int))) then(gd ((decide (0≤s5))&&(decide (s5<(s0.length:Int)))) <| (D5079 (nth s0 s5.toNat) s1).bind fun y0=>bif (decide (y0.1<0)) then(some ((-1),())) else L5053_244 s0 y0.1 (IntKind.wrap .i64 (s5+1))) else L5053_31 s1):=(Ln_eq _ _ _).trans (by kernel_rfl)
theorem P5053_31 (s1:Int):L5053_31 s1=(some (s1,())):=(Ln_eq _ _ _).trans (by kernel_rfl)
noncomputable def L5054_244 (s0:List Fw.Answer) (s1:Int) (s5:Int):Option (Int×Unit):=Ln 57 244 (⟨27,[(0,.ok (.ro 162 s0)),(1,.ok (.v (.int .i64 s1))),(5,.ok (.v (.int .i64 s5)))],[]⟩,0)
noncomputable def L5054_31 (s1:Int):Option (Int×Unit):=Ln 57 31 (⟨27,[(1,.ok (.v (.int .i64 s1)))],[]⟩,0)
theorem E5054 (x0:List Fw.Answer) (x1:Int):D5054 x0 x1=(bif (decide ((IntKind.wrap .i64 (x1 - (x0.length:Int)))<0)) then(some ((-1),())) else L5054_244 x0 (IntKind.wrap .i64 (x1 - (x0.length:Int))) 0):=(Dn_eq _ _).trans (by kernel_rfl)
theorem P5054_244 (s0:List Fw.Answer) (s1:Int) (s5:Int):L5054_244 s0 s1 s5=(bif (decide (s5<(s0.length:Int))) then(gd ((decide (0≤s5))&&(decide (s5<(s0.length:Int)))) <| (D5080 (nth s0 s5.toNat) s1).bind fun y0=>bif (decide (y0.1<0)) then(some ((-1),())) else L5054_244 s0 y0.1 (IntKind.wrap .i64 (s5+1))) else L5054_31 s1):=(Ln_eq _ _ _).trans (by kernel_rfl)
theorem P5054_31 (s1:Int):L5054_31 s1=(some (s1,())):=(Ln_eq _ _ _).trans (by kernel_rfl)
theorem E5055 (x0:Fw.Touch) (x1:Int):D5055 x0 x1=((D5013 x0.Reads x1).bind fun y0=>bif (decide (y0.1<0)) then(some ((-1),())) else(D5013 x0.Writes y0.1).bind fun y1=>bif (decide (y1.1<0)) then(some ((-1),())) else some (y1.1,())):=(Dn_eq _ _).trans (by kernel_rfl)
theorem E5056 (x0:List Int) (x1:Int):D5056 x0 x1=(bif (decide ((IntKind.wrap .i64 (x1 - (x0.length:Int)))<0)) then(some ((-1),())) else some ((IntKind.wrap .i64 (x1 - (x0.length:Int))),())):=(Dn_eq _ _).trans (by kernel_rfl)
theorem E5057 (x0:Fw.Slot) (x1:Int):D5057 x0 x1=((D5009 x0.Cells x1).bind fun y0=>bif (decide (y0.1<0)) then(some ((-1),())) else some (y0.1,())):=(Dn_eq _ _).trans (by kernel_rfl)
noncomputable def L5058_244 (s0:List Fw.Step) (s1:Int) (s5:Int):Option (Int×Unit):=Ln 61 244 (⟨27,[(0,.ok (.ro 165 s0)),(1,.ok (.v (.int .i64 s1))),(5,.ok (.v (.int .i64 s5)))],[]⟩,0)
noncomputable def L5058_31 (s1:Int):Option (Int×Unit):=Ln 61 31 (⟨27,[(1,.ok (.v (.int .i64 s1)))],[]⟩,0)
theorem E5058 (x0:List Fw.Step) (x1:Int):D5058 x0 x1=(bif (decide ((IntKind.wrap .i64 (x1 - (x0.length:Int)))<0)) then(some ((-1),())) else L5058_244 x0 (IntKind.wrap .i64 (x1 - (x0.length:Int))) 0):=(Dn_eq _ _).trans (by kernel_rfl)
theorem P5058_244 (s0:List Fw.Step) (s1:Int) (s5:Int):L5058_244 s0 s1 s5=(bif (decide (s5<(s0.length:Int))) then(gd ((decide (0≤s5))&&(decide (s5<(s0.length:Int)))) <| (D5081 (nth s0 s5.toNat) s1).bind fun y0=>bif (decide (y0.1<0)) then(some ((-1),())) else L5058_244 s0 y0.1 (IntKind.wrap .i64 (s5+1))) else L5058_31 s1):=(Ln_eq _ _ _).trans (by kernel_rfl)
theorem P5058_31 (s1:Int):L5058_31 s1=(some (s1,())):=(Ln_eq _ _ _).trans (by kernel_rfl)
noncomputable def L5061_116 (s0:List Fw.Call) (s4:Int) (e0:List Fw.Call):Option ((List Fw.Call)×Unit):=Ln 76 116 (⟨23,[(0,.ok (.ro 160 s0)),(3,.ok (.sl 0)),(4,.ok (.v (.int .i64 s4)))],[(0,.own 136 e0)]⟩,1)
noncomputable def L5061_15 (e0:List Fw.Call):Option ((List Fw.Call)×Unit):=Ln 76 15 (⟨23,[(3,.ok (.sl 0))],[(0,.own 136 e0)]⟩,1)
theorem E5061 (x0:List Fw.Call):D5061 x0=(gd ((decide ((x0.length:Int)=(x0.length:Int)))&&((decide (0≤(x0.length:Int)))&&(decide (((72:Int)*(x0.length:Int))≤281474976710656)))) <| L5061_116 x0 0 (List.replicate (x0.length:Int).toNat (⟨0,(tx []),(tx []),0,0,(tx [])⟩:Fw.Call))):=(Dn_eq _ _).trans (by kernel_rfl)
theorem P5061_116 (s0:List Fw.Call) (s4:Int) (e0:List Fw.Call):L5061_116 s0 s4 e0=(bif (decide (s4<(s0.length:Int))) then(gd ((decide (0≤s4))&&(decide (s4<(s0.length:Int)))) <| (D5085 (nth s0 s4.toNat)).bind fun y0=>gd ((decide (0≤s4))&&(decide (s4<(e0.length:Int)))) <| L5061_116 s0 (IntKind.wrap .i64 (s4+1)) (e0.set s4.toNat y0.1)) else L5061_15 e0):=(Ln_eq _ _ _).trans (by kernel_rfl)
theorem P5061_15 (e0:List Fw.Call):L5061_15 e0=(some (e0,())):=(Ln_eq _ _ _).trans (by kernel_rfl)
noncomputable def L5062_116 (s0:List Fw.Answer) (s4:Int) (e0:List Fw.Answer):Option ((List Fw.Answer)×Unit):=Ln 77 116 (⟨23,[(0,.ok (.ro 162 s0)),(3,.ok (.sl 0)),(4,.ok (.v (.int .i64 s4)))],[(0,.own 108 e0)]⟩,1)
noncomputable def L5062_15 (e0:List Fw.Answer):Option ((List Fw.Answer)×Unit):=Ln 77 15 (⟨23,[(3,.ok (.sl 0))],[(0,.own 108 e0)]⟩,1)
theorem E5062 (x0:List Fw.Answer):D5062 x0=(gd ((decide ((x0.length:Int)=(x0.length:Int)))&&((decide (0≤(x0.length:Int)))&&(decide (((32:Int)*(x0.length:Int))≤281474976710656)))) <| L5062_116 x0 0 (List.replicate (x0.length:Int).toNat (⟨0,0,(tx [])⟩:Fw.Answer))):=(Dn_eq _ _).trans (by kernel_rfl)
theorem P5062_116 (s0:List Fw.Answer) (s4:Int) (e0:List Fw.Answer):L5062_116 s0 s4 e0=(bif (decide (s4<(s0.length:Int))) then(gd ((decide (0≤s4))&&(decide (s4<(s0.length:Int)))) <| (D5086 (nth s0 s4.toNat)).bind fun y0=>gd ((decide (0≤s4))&&(decide (s4<(e0.length:Int)))) <| L5062_116 s0 (IntKind.wrap .i64 (s4+1)) (e0.set s4.toNat y0.1)) else L5062_15 e0):=(Ln_eq _ _ _).trans (by kernel_rfl)
theorem P5062_15 (e0:List Fw.Answer):L5062_15 e0=(some (e0,())):=(Ln_eq _ _ _).trans (by kernel_rfl)
theorem E5063 (x0:Fw.Touch):D5063 x0=((D5019 x0.Reads).bind fun y0=>(D5019 x0.Writes).bind fun y1=>some ((⟨y0.1,y1.1⟩:Fw.Touch),())):=(Dn_eq _ _).trans (by kernel_rfl)
noncomputable def L5064_116 (s0:List Int) (s4:Int) (e0:List Int):Option ((List Int)×Unit):=Ln 79 116 (⟨22,[(0,.ok (.ro 3 s0)),(3,.ok (.sl 0)),(4,.ok (.v (.int .i64 s4)))],[(0,.own 3 e0)]⟩,1)
noncomputable def L5064_15 (e0:List Int):Option ((List Int)×Unit):=Ln 79 15 (⟨22,[(3,.ok (.sl 0))],[(0,.own 3 e0)]⟩,1)
theorem E5064 (x0:List Int):D5064 x0=(gd ((decide ((x0.length:Int)=(x0.length:Int)))&&((decide (0≤(x0.length:Int)))&&(decide (((8:Int)*(x0.length:Int))≤281474976710656)))) <| L5064_116 x0 0 (List.replicate (x0.length:Int).toNat 0)):=(Dn_eq _ _).trans (by kernel_rfl)
theorem P5064_116 (s0:List Int) (s4:Int) (e0:List Int):L5064_116 s0 s4 e0=(bif (decide (s4<(s0.length:Int))) then(gd ((decide (0≤s4))&&(decide (s4<(s0.length:Int)))) <| gd ((decide (0≤s4))&&(decide (s4<(e0.length:Int)))) <| L5064_116 s0 (IntKind.wrap .i64 (s4+1)) (e0.set s4.toNat (nth s0 s4.toNat))) else L5064_15 e0):=(Ln_eq _ _ _).trans (by kernel_rfl)
theorem P5064_15 (e0:List Int):L5064_15 e0=(some (e0,())):=(Ln_eq _ _ _).trans (by kernel_rfl)
theorem E5065 (x0:Fw.Slot):D5065 x0=((D5015 x0.Cells).bind fun y0=>some ({ x0 with Cells:=y0.1 },())):=(Dn_eq _ _).trans (by kernel_rfl)
noncomputable def L5066_116 (s0:List Fw.Step) (s4:Int) (e0:List Fw.Step):Option ((List Fw.Step)×Unit):=Ln 81 116 (⟨23,[(0,.ok (.ro 165 s0)),(3,.ok (.sl 0)),(4,.ok (.v (.int .i64 s4)))],[(0,.own 138 e0)]⟩,1)
noncomputable def L5066_15 (e0:List Fw.Step):Option ((List Fw.Step)×Unit):=Ln 81 15 (⟨23,[(3,.ok (.sl 0))],[(0,.own 138 e0)]⟩,1)
theorem E5066 (x0:List Fw.Step):D5066 x0=(gd ((decide ((x0.length:Int)=(x0.length:Int)))&&((decide (0≤(x0.length:Int)))&&(decide (((80:Int)*(x0.length:Int))≤281474976710656)))) <| L5066_116 x0 0 (List.replicate (x0.length:Int).toNat (⟨0,(⟨0,(tx []),(tx []),0,0,(tx [])⟩:Fw.Call)⟩:Fw.Step))):=(Dn_eq _ _).trans (by kernel_rfl)
theorem P5066_116 (s0:List Fw.Step) (s4:Int) (e0:List Fw.Step):L5066_116 s0 s4 e0=(bif (decide (s4<(s0.length:Int))) then(gd ((decide (0≤s4))&&(decide (s4<(s0.length:Int)))) <| (D5087 (nth s0 s4.toNat)).bind fun y0=>gd ((decide (0≤s4))&&(decide (s4<(e0.length:Int)))) <| L5066_116 s0 (IntKind.wrap .i64 (s4+1)) (e0.set s4.toNat y0.1)) else L5066_15 e0):=(Ln_eq _ _ _).trans (by kernel_rfl)
theorem P5066_15 (e0:List Fw.Step):L5066_15 e0=(some (e0,())):=(Ln_eq _ _ _).trans (by kernel_rfl)
noncomputable def L5073_116 (s0:List Fw.Call) (s1:List Fw.Call) (s5:Int):Option (Bool×Unit):=Ln 100 116 (⟨27,[(0,.ok (.ro 136 s0)),(1,.ok (.ro 136 s1)),(5,.ok (.v (.int .i64 s5)))],[]⟩,0)
noncomputable def L5073_15  : Option (Bool×Unit):=Ln 100 15 (⟨27,[],[]⟩,0)
theorem E5073 (x0:List Fw.Call) (x1:List Fw.Call):D5073 x0 x1=(bif (!(decide ((x0.length:Int)=(x1.length:Int)))) then(some (false,())) else L5073_116 x0 x1 0):=(Dn_eq _ _).trans (by kernel_rfl)
theorem P5073_116 (s0:List Fw.Call) (s1:List Fw.Call) (s5:Int):L5073_116 s0 s1 s5=(bif (decide (s5<(s0.length:Int))) then(gd ((decide (0≤s5))&&(decide (s5<(s0.length:Int)))) <| gd ((decide (0≤s5))&&(decide (s5<(s1.length:Int)))) <| (D5115 (nth s0 s5.toNat) (nth s1 s5.toNat)).bind fun y0=>bif (!y0.1) then(some (false,())) else L5073_116 s0 s1 (IntKind.wrap .i64 (s5+1))) else L5073_15):=(Ln_eq _ _ _).trans (by kernel_rfl)
theorem P5073_15  : L5073_15=(some (true,())):=(Ln_eq _ _ _).trans (by kernel_rfl)
noncomputable def L5074_116 (s0:List Fw.Answer) (s1:List Fw.Answer) (s5:Int):Option (Bool×Unit):=Ln 101 116 (⟨27,[(0,.ok (.ro 108 s0)),(1,.ok (.ro 108 s1)),(5,.ok (.v (.int .i64 s5)))],[]⟩,0)
noncomputable def L5074_15  : Option (Bool×Unit):=Ln 101 15 (⟨27,[],[]⟩,0)
theorem E5074 (x0:List Fw.Answer) (x1:List Fw.Answer):D5074 x0 x1=(bif (!(decide ((x0.length:Int)=(x1.length:Int)))) then(some (false,())) else L5074_116 x0 x1 0):=(Dn_eq _ _).trans (by kernel_rfl)
theorem P5074_116 (s0:List Fw.Answer) (s1:List Fw.Answer) (s5:Int):L5074_116 s0 s1 s5=(bif (decide (s5<(s0.length:Int))) then(gd ((decide (0≤s5))&&(decide (s5<(s0.length:Int)))) <| gd ((decide (0≤s5))&&(decide (s5<(s1.length:Int)))) <| (D5116 (nth s0 s5.toNat) (nth s1 s5.toNat)).bind fun y0=>bif (!y0.1) then(some (false,())) else L5074_116 s0 s1 (IntKind.wrap .i64 (s5+1))) else L5074_15):=(Ln_eq _ _ _).trans (by kernel_rfl)
theorem P5074_15  : L5074_15=(some (true,())):=(Ln_eq _ _ _).trans (by kernel_rfl)
theorem E5075 (x0:Fw.Touch) (x1:Fw.Touch):D5075 x0 x1=((D5027 x0.Reads x1.Reads).bind fun y0=>bif (!y0.1) then(some (false,())) else(D5027 x0.Writes x1.Writes).bind fun y1=>bif (!y1.1) then(some (false,())) else some (true,())):=(Dn_eq _ _).trans (by kernel_rfl)
noncomputable def L5076_116 (s0:List Int) (s1:List Int) (s5:Int):Option (Bool×Unit):=Ln 103 116 (⟨26,[(0,.ok (.ro 3 s0)),(1,.ok (.ro 3 s1)),(5,.ok (.v (.int .i64 s5)))],[]⟩,0)
noncomputable def L5076_15  : Option (Bool×Unit):=Ln 103 15 (⟨26,[],[]⟩,0)
theorem E5076 (x0:List Int) (x1:List Int):D5076 x0 x1=(bif (!(decide ((x0.length:Int)=(x1.length:Int)))) then(some (false,())) else L5076_116 x0 x1 0):=(Dn_eq _ _).trans (by kernel_rfl)
theorem P5076_116 (s0:List Int) (s1:List Int) (s5:Int):L5076_116 s0 s1 s5=(bif (decide (s5<(s0.length:Int))) then(gd ((decide (0≤s5))&&(decide (s5<(s0.length:Int)))) <| gd ((decide (0≤s5))&&(decide (s5<(s1.length:Int)))) <| bif (!(decide ((nth s0 s5.toNat)=(nth s1 s5.toNat)))) then(some (false,())) else L5076_116 s0 s1 (IntKind.wrap .i64 (s5+1))) else L5076_15):=(Ln_eq _ _ _).trans (by kernel_rfl)
theorem P5076_15  : L5076_15=(some (true,())):=(Ln_eq _ _ _).trans (by kernel_rfl)
theorem E5077 (x0:Fw.Slot) (x1:Fw.Slot):D5077 x0 x1=(bif (!(decide (x0.Seq=x1.Seq))) then(some (false,())) else(D5023 x0.Cells x1.Cells).bind fun y0=>bif (!y0.1) then(some (false,())) else bif (!(decide (x0.Whole=x1.Whole))) then(some (false,())) else some (true,())):=(Dn_eq _ _).trans (by kernel_rfl)
noncomputable def L5078_116 (s0:List Fw.Step) (s1:List Fw.Step) (s5:Int):Option (Bool×Unit):=Ln 105 116 (⟨27,[(0,.ok (.ro 138 s0)),(1,.ok (.ro 138 s1)),(5,.ok (.v (.int .i64 s5)))],[]⟩,0)
noncomputable def L5078_15  : Option (Bool×Unit):=Ln 105 15 (⟨27,[],[]⟩,0)
theorem E5078 (x0:List Fw.Step) (x1:List Fw.Step):D5078 x0 x1=(bif (!(decide ((x0.length:Int)=(x1.length:Int)))) then(some (false,())) else L5078_116 x0 x1 0):=(Dn_eq _ _).trans (by kernel_rfl)
theorem P5078_116 (s0:List Fw.Step) (s1:List Fw.Step) (s5:Int):L5078_116 s0 s1 s5=(bif (decide (s5<(s0.length:Int))) then(gd ((decide (0≤s5))&&(decide (s5<(s0.length:Int)))) <| gd ((decide (0≤s5))&&(decide (s5<(s1.length:Int)))) <| (D5117 (nth s0 s5.toNat) (nth s1 s5.toNat)).bind fun y0=>bif (!y0.1) then(some (false,())) else L5078_116 s0 s1 (IntKind.wrap .i64 (s5+1))) else L5078_15):=(Ln_eq _ _ _).trans (by kernel_rfl)
theorem P5078_15  : L5078_15=(some (true,())):=(Ln_eq _ _ _).trans (by kernel_rfl)
theorem E5079 (x0:Fw.Call) (x1:Int):D5079 x0 x1=(bif (decide ((IntKind.wrap .i64 (x1 - (x0.Name.size:Int)))<0)) then(some ((-1),())) else bif (decide ((IntKind.wrap .i64 ((IntKind.wrap .i64 (x1 - (x0.Name.size:Int))) - (x0.To.size:Int)))<0)) then(some ((-1),())) else bif (decide ((IntKind.wrap .i64 ((IntKind.wrap .i64 ((IntKind.wrap .i64 (x1 - (x0.Name.size:Int))) - (x0.To.size:Int))) - (x0.Text.size:Int)))<0)) then(some ((-1),())) else some ((IntKind.wrap .i64 ((IntKind.wrap .i64 ((IntKind.wrap .i64 (x1 - (x0.Name.size:Int))) - (x0.To.size:Int))) - (x0.Text.size:Int))),())):=(Dn_eq _ _).trans (by kernel_rfl)
theorem E5080 (x0:Fw.Answer) (x1:Int):D5080 x0 x1=(bif (decide ((IntKind.wrap .i64 (x1 - (x0.Text.size:Int)))<0)) then(some ((-1),())) else some ((IntKind.wrap .i64 (x1 - (x0.Text.size:Int))),())):=(Dn_eq _ _).trans (by kernel_rfl)
theorem E5081 (x0:Fw.Step) (x1:Int):D5081 x0 x1=((D5079 x0.Call x1).bind fun y0=>bif (decide (y0.1<0)) then(some ((-1),())) else some (y0.1,())):=(Dn_eq _ _).trans (by kernel_rfl)
theorem E5085 (x0:Fw.Call):D5085 x0=(some (x0,())):=(Dn_eq _ _).trans (by kernel_rfl)
theorem E5086 (x0:Fw.Answer):D5086 x0=(some (x0,())):=(Dn_eq _ _).trans (by kernel_rfl)
theorem E5087 (x0:Fw.Step):D5087 x0=((D5085 x0.Call).bind fun y0=>some ((⟨x0.Proc,y0.1⟩:Fw.Step),())):=(Dn_eq _ _).trans (by kernel_rfl)
theorem E5115 (x0:Fw.Call) (x1:Fw.Call):D5115 x0 x1=(bif (!(decide (x0.Kind=x1.Kind))) then(some (false,())) else bif (!(decide (x0.Name=x1.Name))) then(some (false,())) else bif (!(decide (x0.To=x1.To))) then(some (false,())) else bif (!(decide (x0.A=x1.A))) then(some (false,())) else bif (!(decide (x0.B=x1.B))) then(some (false,())) else bif (!(decide (x0.Text=x1.Text))) then(some (false,())) else some (true,())):=(Dn_eq _ _).trans (by kernel_rfl)
theorem E5116 (x0:Fw.Answer) (x1:Fw.Answer):D5116 x0 x1=(bif (!(decide (x0.Code=x1.Code))) then(some (false,())) else bif (!(decide (x0.N=x1.N))) then(some (false,())) else bif (!(decide (x0.Text=x1.Text))) then(some (false,())) else some (true,())):=(Dn_eq _ _).trans (by kernel_rfl)
theorem E5117 (x0:Fw.Step) (x1:Fw.Step):D5117 x0 x1=(bif (!(decide (x0.Proc=x1.Proc))) then(some (false,())) else(D5115 x0.Call x1.Call).bind fun y0=>bif (!y0.1) then(some (false,())) else some (true,())):=(Dn_eq _ _).trans (by kernel_rfl)
theorem E5205 (x0:ByteArray) (x1:ByteArray):D5205 x0 x1=((D5232 x0 x1).bind fun y0=>bif (!y0.1) then(some (x0,(false,()))) else gd ((decide (0≤0))&&((decide (0≤(IntKind.wrap .i64 ((x0.size:Int) - (x1.size:Int)))))&&(decide ((IntKind.wrap .i64 ((x0.size:Int) - (x1.size:Int)))≤(x0.size:Int))))) <| some ((cutS x0 (0:Int).toNat (IntKind.wrap .i64 ((x0.size:Int) - (x1.size:Int))).toNat),(true,()))):=(Dn_eq _ _).trans (by kernel_rfl)
end Go.Proofs.YtapfpflmcgfbkaaGreatDoor.Ri

namespace Go.Proofs.YtapfpflmcgfbkaaGreatDoor.Ri
open Go.Proofs.YtapfpflmcgfbkaaGreatDoor.Fw
open Go.RowKit
set_option linter.unusedVariables false
set_option maxRecDepth 100000
theorem E5232 (x0:ByteArray) (x1:ByteArray):D5232 x0 x1=(gd (((decide (0≤(IntKind.wrap .i64 ((x0.size:Int) - (x1.size:Int)))))&&((decide ((IntKind.wrap .i64 ((x0.size:Int) - (x1.size:Int)))≤(x0.size:Int)))&&(decide ((x0.size:Int)≤(x0.size:Int)))))||(!(decide ((x0.size:Int)≥(x1.size:Int))))) <| some (((decide ((x0.size:Int)≥(x1.size:Int)))&&(decide ((cutS x0 (IntKind.wrap .i64 ((x0.size:Int) - (x1.size:Int))).toNat (x0.size:Int).toNat)=x1))),())):=(Dn_eq _ _).trans (by kernel_rfl)
theorem E5241 (x0:ByteArray) (x1:ByteArray):D5241 x0 x1=(gd (((decide (0≤0))&&((decide (0≤(x1.size:Int)))&&(decide ((x1.size:Int)≤(x0.size:Int)))))||(!(decide ((x0.size:Int)≥(x1.size:Int))))) <| some (((decide ((x0.size:Int)≥(x1.size:Int)))&&(decide ((cutS x0 (0:Int).toNat (x1.size:Int).toNat)=x1))),())):=(Dn_eq _ _).trans (by kernel_rfl)
theorem E5245 (x0:ByteArray) (x1:ByteArray):D5245 x0 x1=((D5241 x0 x1).bind fun y0=>bif (!y0.1) then(some (x0,(false,()))) else gd ((decide (0≤(x1.size:Int)))&&((decide ((x1.size:Int)≤(x0.size:Int)))&&(decide ((x0.size:Int)≤(x0.size:Int))))) <| some ((cutS x0 (x1.size:Int).toNat (x0.size:Int).toNat),(true,()))):=(Dn_eq _ _).trans (by kernel_rfl)
theorem E7003 (x0:Fw.Kernel) (x1:Int):D7003 x0 x1=((D5004 x0 1048576).bind fun y0=>bif (decide (y0.1<0)) then(some (true,())) else(D5006 x0).bind fun y1=>(D2057 y1.1 x1).bind fun y2=>(D5006 x0).bind fun y3=>(D2058 y3.1 x1).bind fun y4=>bif (!(decide (y4.1=y2.1))) then(some (false,())) else(D5006 x0).bind fun y5=>(D5008 y3.1 y5.1).bind fun y6=>bif (!y6.1) then(some (false,())) else some (true,())):=(Dn_eq _ _).trans (by kernel_rfl)
end Go.Proofs.YtapfpflmcgfbkaaGreatDoor.Ri

namespace Go.Proofs.YtapfpflmcgfbkaaGreatDoor.Ri
open Go.Proofs.YtapfpflmcgfbkaaGreatDoor.Fw
set_option linter.unusedVariables false
section
variable {α β:Type} {P Q:α→Prop}
end
class BP (c:Bool) (P:outParam Prop):Prop where
 iff:c=true↔P
instance bp_dec (p:Prop) [Decidable p]:BP (decide p) p:=⟨decide_eq_true_iff⟩
instance bp_and {a b:Bool} {P Q:Prop} [h:BP a P] [h':BP b Q]:BP (a&&b) (P∧Q):=⟨by rw[Bool.and_eq_true,h.iff,h'.iff]⟩
instance bp_or {a b:Bool} {P Q:Prop} [h:BP a P] [h':BP b Q]:BP (a||b) (P∨Q):=⟨by rw[Bool.or_eq_true,h.iff,h'.iff]⟩
instance bp_not {a:Bool} {P:Prop} [h:BP a P]:BP (!a) (¬P):=⟨by rw[←h.iff];cases a<;>decide⟩
instance (priority:=low) bp_any (c:Bool):BP c (c=true):=⟨Iff.rfl⟩
section
variable {α β:Type} {P:α→Prop} {a b:Option α} {c:Bool} {C:Prop}
end
theorem i64_id {n:Int} (h: -9223372036854775808≤n) (h':n≤9223372036854775807):IntKind.i64.wrap n=n:=wrap_id (by simp[loK,hiK,IntKind.bits,IntKind.signed];omega)
end Go.Proofs.YtapfpflmcgfbkaaGreatDoor.Ri

namespace Go.Proofs.YtapfpflmcgfbkaaGreatDoor.Ri
open Go.Proofs.YtapfpflmcgfbkaaGreatDoor.Fw
set_option linter.unusedVariables false
set_option linter.unusedSimpArgs false
theorem bl_irr: ∀ x:List UInt8,Op.bytesLess x x=false
 | []=>rfl
 | a :: x => by
  have h: ¬ a<a:=by rw[UInt8.lt_iff_toNat_lt];omega
  rw[Op.bytesLess,bl_irr x];simp[h]
theorem bl_tri: ∀ x y:List UInt8,Op.bytesLess x y=false→x≠y→Op.bytesLess y x=true
 | [],[],_,h=>absurd rfl h
 | [],b::y,h,_=>by simp[Op.bytesLess] at h
 | a::x,[],_,_=>rfl
 | a :: x, b :: y, h, hn => by
  simp only[Op.bytesLess,Bool.or_eq_false_iff,Bool.and_eq_false_iff,decide_eq_false_iff_not,beq_eq_false_iff_ne] at h
  simp only[Op.bytesLess,Bool.or_eq_true,Bool.and_eq_true,decide_eq_true_eq,beq_iff_eq]
  by_cases hab:a=b
  ·subst hab
   have h1:Op.bytesLess x y=false:=h.2.resolve_left fun c=>c rfl
   exact .inr ⟨rfl,bl_tri x y h1 fun e=>hn (by rw[e])⟩
  ·refine .inl ?_
   have:=h.1
   rw[UInt8.lt_iff_toNat_lt] at this ⊢
   have:a.toNat≠b.toNat:=fun e=>hab (UInt8.toNat_inj.1 e)
   omega
theorem bl_tr: ∀ x y z:List UInt8,Op.bytesLess x y=true→Op.bytesLess y z=true→Op.bytesLess x z=true
 | _,_,[],_,h=>by simp[Op.bytesLess] at h
 | _,[],_::_,h,_=>by simp[Op.bytesLess] at h
 | [],_::_,_::_,_,_=>rfl
 | a :: x, b :: y, c :: z, h, h' => by
  simp only[Op.bytesLess,Bool.or_eq_true,Bool.and_eq_true,decide_eq_true_eq,beq_iff_eq] at h h' ⊢
  rw[UInt8.lt_iff_toNat_lt] at h h' ⊢
  rcases h with h | ⟨rfl,h⟩<;>rcases h' with h' | ⟨rfl,h'⟩
  ·left;omega
  ·left;exact h
  ·left;exact h'
  ·right;exact⟨rfl,bl_tr x y z h h'⟩
theorem ba_toList_inj {x y:ByteArray} (h:x.toList=y.toList):x=y:=by
 rw[Lib.toList_data,Lib.toList_data] at h
 exact ByteArray.ext (Array.toList_inj.1 h)
theorem lt_irr (x:ByteArray):ltB x x=false:=bl_irr _
theorem lt_tri {x y:ByteArray} (h:ltB x y=false) (hn:x≠y):ltB y x=true:=bl_tri _ _ h fun e=>hn (ba_toList_inj e)
theorem lt_tr {x y z:ByteArray} (h:ltB x y=true) (h':ltB y z=true):ltB x z=true:=bl_tr _ _ _ h h'
def getK (s : List Fw.Cell) (k : ByteArray) : ByteArray := match s.find? fun c => decide (c.Key = k) with
 | some c=>c.Val
 | none=>tx []
def isK (k:ByteArray) (c:Fw.Cell):Bool:=decide (c.Key=k)
def delK (s:List Fw.Cell) (k:ByteArray):List Fw.Cell:=s.filter fun c=>!isK k c
def gtB (a b:ByteArray):Bool:=!(ltB a b||decide (a=b))
def insK:List Fw.Cell→Fw.Cell→List Fw.Cell
 | [],c=>[c]
 | e::d,c=>bif gtB e.Key c.Key then c::e::d else e::insK d c
def putC (s:List Fw.Cell) (k v:ByteArray):List Fw.Cell:=
 bif !keyOkL k.data.toList||decide ((v.size:Int)>60) then s else bif decide (v=tx []) then delK s k else insK (delK s k) ⟨k,v⟩
def addS:List ByteArray→ByteArray→List ByteArray
 | [],x=>[x]
 | y::l,x=>bif ltB y x then y::addS l x else bif decide (y=x) then y::l else x::y::l
def begB (s p:ByteArray):Bool:=decide ((s.size:Int)≥(p.size:Int))&&decide (cutS s 0 p.size=p)
def underK (s:List Fw.Cell) (p:ByteArray):List ByteArray:=(s.filter fun c=>begB c.Key p).map (·.Key)
def kn (h:ByteArray) (n:Int) (t:ByteArray):ByteArray:=(h++itoaS n)++t
theorem insK_perm (c:Fw.Cell): ∀ d:List Fw.Cell,(insK d c).Perm (c::d)
 | []=> .refl _
 | e :: d => by
  unfold insK
  cases gtB e.Key c.Key with
  | true=>exact .refl _
  | false=>exact((insK_perm c d).cons e).trans (.swap _ _ _)
theorem insK_len (c:Fw.Cell) (d:List Fw.Cell):(insK d c).length=d.length+1:=(insK_perm c d).length_eq
theorem delK_len (s:List Fw.Cell) (k:ByteArray):(delK s k).length≤s.length:=List.length_filter_le _ _
theorem putC_len (s:List Fw.Cell) (k v:ByteArray):(putC s k v).length≤s.length+1:=by
 unfold putC
 have:=delK_len s k
 cases !keyOkL k.data.toList||decide ((v.size:Int)>60) with
 | true=>rw[cond_true];omega
 | false =>
  rw[cond_false]
  cases decide (v=tx []) with
  | true=>rw[cond_true];omega
  | false=>rw[cond_false,insK_len];omega
theorem addS_mem {x z:ByteArray}: ∀ {l:List ByteArray},z∈addS l x→z=x∨z∈l
 | [],h=> .inl (List.mem_singleton.1 h)
 | y :: l, h => by
  unfold addS at h
  cases h1:ltB y x with
  | true =>
   rw[h1,cond_true] at h
   rcases List.mem_cons.1 h with h | h
   ·exact .inr (h▸List.mem_cons_self)
   ·exact(addS_mem h).imp id fun h=>List.mem_cons_of_mem _ h
  | false =>
   rw[h1,cond_false] at h
   cases h2:decide (y=x) with
   | true=>rw[h2,cond_true] at h;exact .inr h
   | false=>rw[h2,cond_false] at h;exact List.mem_cons.1 h
theorem addS_len (x:ByteArray): ∀ l:List ByteArray,(addS l x).length≤l.length+1
 | []=>Nat.le_refl _
 | y :: l => by
  unfold addS
  cases ltB y x with
  | true=>rw[cond_true,List.length_cons];have:=addS_len x l;rw[List.length_cons];omega
  | false =>
   rw[cond_false]
   cases decide (y=x) with
   | true=>rw[cond_true];omega
   | false=>rw[cond_false];exact Nat.le_refl _
def Srt (l:List ByteArray):Prop:=l.Pairwise fun a b=>ltB a b=true
theorem Srt.add (x:ByteArray): ∀ {l:List ByteArray},Srt l→Srt (addS l x)
 | [],_=>List.pairwise_singleton _ _
 | y :: l, h => by
  obtain⟨h1,h2⟩:=List.pairwise_cons.1 h
  unfold addS
  cases h3:ltB y x with
  | true =>
   rw[cond_true]
   refine List.pairwise_cons.2 ⟨fun z hz=>?_,Srt.add x h2⟩
   rcases addS_mem hz with rfl | hz
   ·exact h3
   ·exact h1 _ hz
  | false =>
   rw[cond_false]
   cases h4:decide (y=x) with
   | true=>rw[cond_true];exact h
   | false =>
    rw[cond_false]
    have h5:=lt_tri h3 (of_decide_eq_false h4)
    refine List.pairwise_cons.2 ⟨fun z hz=>?_,h⟩
    rcases List.mem_cons.1 hz with rfl | hz
    ·exact h5
    ·exact lt_tr h5 (h1 _ hz)
theorem Srt.nd {l:List ByteArray} (h:Srt l):l.Nodup:=h.imp fun {a b} hab e=>by subst e;rw[lt_irr] at hab;cases hab
theorem nd_len {α:Type} [DecidableEq α]: ∀ {l m:List α},l.Nodup→(∀ x∈l,x∈m)→l.length≤m.length
 | [],_,_,_=>Nat.zero_le _
 | x :: l, m, h, hm => by
  obtain⟨h1,h2⟩:=List.nodup_cons.1 h
  have hx:=hm x List.mem_cons_self
  have:l.length≤(m.erase x).length:=nd_len h2 fun y hy=>(List.mem_erase_of_ne (fun(e:y=x)=>h1 (by rw[←e];exact hy))).2 (hm y (List.mem_cons_of_mem _ hy))
  rw[List.length_erase_of_mem hx] at this
  have:=List.length_pos_of_mem hx
  rw[List.length_cons]
  omega
structure StI (P:ByteArray→Prop) (a:Nat) (s:List Fw.Cell):Prop where
 dec: ∃ A B:List ByteArray,(s.map (·.Key)).Perm (A++B)∧A.length≤a∧B.Nodup∧ ∀ x∈B,P x
 mem: ∀ c∈s,P c.Key∧c.Val.size≤1048576
structure SpI (P:ByteArray→Prop) (l:List ByteArray):Prop where
 srt:Srt l
 mem: ∀ x∈l,P x
theorem SpI.nil {P:ByteArray→Prop}:SpI P []:=⟨List.Pairwise.nil,fun x h=>by cases h⟩
theorem SpI.add {P:ByteArray→Prop} {l:List ByteArray} {x:ByteArray} (h:SpI P l) (hx:P x):SpI P (addS l x):=
 ⟨h.srt.add x,fun z hz=>(addS_mem hz).elim (fun e=>e▸hx) (h.mem z)⟩
theorem keys_del (s : List Fw.Cell) (k : ByteArray) : (delK s k).map (·.Key) = (s.map (·.Key)).filter fun x => !decide (x = k) := by
 unfold delK
 rw[List.filter_map]
 rfl
theorem StI.del {P:ByteArray→Prop} {a:Nat} {s:List Fw.Cell} {k:ByteArray} (h:StI P a s): ∃ A B:List ByteArray,((delK s k).map (·.Key)).Perm (A++B)∧A.length≤a∧B.Nodup∧(∀ x∈B,P x)∧k ∉ B:=by
 obtain⟨A,B,h1,h2,h3,h4⟩:=h.dec
 refine⟨A.filter fun x=>!decide (x=k),B.filter fun x=>!decide (x=k),?_,Nat.le_trans (List.length_filter_le _ _) h2,h3.filter _,fun x hx=>h4 x (List.mem_filter.1 hx).1,fun hk=>?_⟩
 ·rw[keys_del,←List.filter_append]
  exact h1.filter _
 ·have:=(List.mem_filter.1 hk).2
  simp at this
theorem StI.put {P:ByteArray→Prop} {a:Nat} {s:List Fw.Cell} {k v:ByteArray} (h:StI P a s) (hk:P k):StI P a (putC s k v):=by
 obtain⟨A,B,h1,h2,h3,h4,h5⟩:=h.del (k:=k)
 have hm: ∀ c∈delK s k,P c.Key∧c.Val.size≤1048576:=fun c hc=>h.mem c (List.mem_filter.1 hc).1
 unfold putC
 cases hg:!keyOkL k.data.toList||decide ((v.size:Int)>60) with
 | true=>exact h
 | false =>
  rw[cond_false]
  cases decide (v=tx []) with
  | true=>exact⟨⟨A,B,h1,h2,h3,h4⟩,hm⟩
  | false =>
   rw[cond_false]
   refine⟨⟨A,k::B,?_,h2,List.nodup_cons.2 ⟨h5,h3⟩,fun x hx=>(List.mem_cons.1 hx).elim (fun e=>e▸hk) (h4 x)⟩,fun c hc=>?_⟩
   ·exact(((insK_perm ⟨k,v⟩ (delK s k)).map (·.Key)).trans (show(((⟨k,v⟩:Fw.Cell)::delK s k).map (·.Key)).Perm (k::(A++B)) from h1.cons k)).trans List.perm_middle.symm
   ·rcases List.mem_cons.1 ((insK_perm _ _).mem_iff.1 hc) with rfl | hc
    ·refine⟨hk,?_⟩
     have:=(Bool.or_eq_false_iff.1 hg).2
     have:=of_decide_eq_false this
     show v.size≤_
     omega
    ·exact hm c hc
theorem StI.get {P:ByteArray→Prop} {a:Nat} {s:List Fw.Cell} (h:StI P a s) (k:ByteArray):(getK s k).size≤1048576:=by
 unfold getK
 split
 next c hc=>exact(h.mem c (List.mem_of_find?_eq_some hc)).2
 next=>exact Nat.zero_le _
theorem StI.under {P : ByteArray → Prop} {a : Nat} {s : List Fw.Cell} (h : StI P a s) (p : ByteArray) : ∀ z ∈ underK s p, P z ∧ begB z p = true := fun z hz => by
 obtain⟨c,hc,rfl⟩:=List.mem_map.1 hz
 exact⟨(h.mem c (List.mem_filter.1 hc).1).1,(List.mem_filter.1 hc).2⟩
theorem underK_len (s:List Fw.Cell) (p:ByteArray):(underK s p).length≤s.length:=by
 unfold underK
 rw[List.length_map]
 exact List.length_filter_le _ _
theorem begB_size {s p:ByteArray} (h:begB s p=true):p.size≤s.size:=by
 have:=of_decide_eq_true (Bool.and_eq_true_iff.1 h).1
 omega
end Go.Proofs.YtapfpflmcgfbkaaGreatDoor.Ri

namespace Go.Proofs.YtapfpflmcgfbkaaGreatDoor.Ri
open Go.Proofs.YtapfpflmcgfbkaaGreatDoor.Fw
set_option linter.unusedVariables false
set_option linter.unusedSimpArgs false
set_option maxRecDepth 100000
theorem sbytes_lenE (x:ByteArray):(sbytes x).length=x.size:=Array.length_toList
theorem sbytes_atE {s:ByteArray} {i:Nat} (h:i<(sbytes s).length):(sbytes s)[i]=byteAt s i:=by
 have h':i<s.data.size:=by rw[sbytes_lenE] at h;exact h
 unfold byteAt
 rw[Array.getD_eq_getD_getElem?,Array.getElem?_eq_getElem h']
 simp[sbytes]
theorem drop_atE (p0:ByteArray) {i:Nat} (hi:i<p0.size):(sbytes p0).drop i=byteAt p0 i::(sbytes p0).drop (i+1):=by
 have h:i<(sbytes p0).length:=by rw[sbytes_lenE];exact hi
 rw[List.drop_eq_getElem_cons h,sbytes_atE h]
theorem bstr_sbytes (x:ByteArray):bstr (sbytes x)=x:=ByteArray.ext (Array.toArray_toList)
theorem sbytes_bstr (l:List UInt8):sbytes (bstr l)=l:=List.toList_toArray
theorem sbytes_app (a b:ByteArray):sbytes (a++b)=sbytes a++sbytes b:=by
 show(a++b).data.toList=_
 rw[ByteArray.data_append,Array.toList_append]
 rfl
theorem sbytes_inj {a b:ByteArray} (h:sbytes a=sbytes b):a=b:=by rw[←bstr_sbytes a,h,bstr_sbytes]
theorem bstr_size (l:List UInt8):(bstr l).size=l.length:=by rw[←sbytes_lenE,sbytes_bstr]
theorem u8of_nat (b:UInt8):u8of (b.toNat:Int)=b:=by
 show UInt8.ofNat ((b.toNat:Nat):Int).toNat=b
 rw[Int.toNat_natCast,UInt8.ofNat_toNat]
theorem e163 : ∀ x : Fin 16, D163 (x.val : Int) = some (Lib.Hx.digit x.val, ()) := fun x => by
 rw[E163]
 revert x
 decide +kernel
theorem itoaS_list {n:Int} (h: -9223372036854775808≤n) (h':n≤9223372036854775807):sbytes (itoaS n)=Lib.itoa n:=by
 unfold itoaS
 rw[i64_id h h',itoaL_eq (by omega)]
 exact List.toList_toArray
theorem dig48: ∀ x:Fin 10,Lib.Hx.digit x.val=UInt8.ofNat (48+x.val):=by decide +kernel
def figsL (u:Nat):List UInt8:=if u=0 then[] else Lib.decDigits u
theorem figsL_step {u:Nat} (h:u≠0):figsL (u / 10)++[UInt8.ofNat (48+u % 10)]=figsL u:=by
 unfold figsL
 rw[if_neg h]
 by_cases h9:u<10
 ·rw[if_pos (by omega),Lib.decDigits,dif_pos h9,Nat.mod_eq_of_lt h9]
  rfl
 ·rw[if_neg (by omega),Lib.decDigits.eq_def u,dif_neg h9]
theorem bstr_app (a b:List UInt8):bstr a++bstr b=bstr (a++b):=sbytes_inj (by rw[sbytes_app,sbytes_bstr,sbytes_bstr,sbytes_bstr])
theorem w122 (neg:Bool): ∀ (N:Nat) (s:Int) (o:List UInt8),s.natAbs<10 ^ N→N≤19→o.length+N≤19→L122_248 s neg (bstr o)=some (bstr ((bif neg then[45] else[])++(figsL s.natAbs++o)),())
 | N, s, o, h1, hN, h3 => by
  rw[P122_248]
  have hp:(10:Nat) ^ N≤10 ^ 19:=Nat.pow_le_pow_right (by decide) hN
  by_cases h0:s=0
  ·subst h0
   rw[decide_eq_true rfl,Bool.not_true,cond_false,P122_63]
   have e:figsL (Int.natAbs 0)=[]:=rfl
   rw[e,List.nil_append]
   cases neg with
   | false=>rfl
   | true =>
    rw[cond_true,cond_true]
    have:decide ((tx [45]).size+(bstr o).size≤9223372036854775807)=true:=decide_eq_true (by rw[bstr_size];show 1+_≤_;omega)
    rw[this]
    show some (bstr [45]++bstr o,())=_
    rw[bstr_app]
  ·cases N with
   | zero=>exfalso;simp at h1;omega
   | succ N =>
    rw[decide_eq_false h0,Bool.not_false,cond_true]
    have hd:(Int.tdiv s 10).natAbs=s.natAbs / 10:=by rw[Int.natAbs_tdiv];rfl
    have hm:(Int.tmod s 10).natAbs=s.natAbs % 10:=by rw[Int.natAbs_tmod];rfl
    rw[Nat.pow_succ] at h1
    have step : ∀ x : Fin 10, x.val = s.natAbs % 10 → L122_3979 s neg (bstr o) (x.val : Int) = some (bstr ((bif neg then [45] else []) ++ (figsL s.natAbs ++ o)), ()) := fun x hx => by
     have hxl:=x.isLt
     rw[P122_3979,e163 ⟨x.val,by omega⟩,Option.bind_some]
     have e1:(bstr ([(u8of (((Lib.Hx.digit x.val,()):UInt8×Unit).1.toNat:Int))].map fun x=>x))=bstr [UInt8.ofNat (48+s.natAbs % 10)]:=by
      rw[dig48 x,hx]
      show bstr [UInt8.ofNat (((UInt8.ofNat (48+s.natAbs % 10)).toNat:Nat):Int).toNat]=_
      rw[Int.toNat_natCast,UInt8.ofNat_toNat]
     rw[e1,bstr_app]
     have:decide ((bstr [UInt8.ofNat (48+s.natAbs % 10)]).size+(bstr o).size≤9223372036854775807)=true:=decide_eq_true (by rw[bstr_size,bstr_size,List.length_singleton];omega)
     rw[this]
     show L122_248 (IntKind.wrap .i64 (Int.tdiv s 10)) neg _=_
     rw[i64_id (by omega) (by omega),w122 neg N (Int.tdiv s 10) _ (by rw[hd];omega) (by omega) (by rw[List.length_append,List.length_singleton];omega),hd]
     congr 4
     rw[←List.append_assoc,figsL_step (by omega)]
    show(bif decide (Int.tmod s 10<0) then L122_3979 s neg (bstr o) (IntKind.wrap .i64 (-(Int.tmod s 10))) else L122_3979 s neg (bstr o) (Int.tmod s 10))=_
    have hlt:s.natAbs % 10<10:=Nat.mod_lt _ (by decide)
    by_cases hs:Int.tmod s 10<0
    ·rw[decide_eq_true hs,cond_true,i64_id (by omega) (by omega),show -(Int.tmod s 10)=((s.natAbs % 10:Nat):Int) by omega]
     exact step ⟨_,hlt⟩ rfl
    ·rw[decide_eq_false hs,cond_false,show Int.tmod s 10=((s.natAbs % 10:Nat):Int) by omega]
     exact step ⟨_,hlt⟩ rfl
theorem e122 {n:Int} (h: -9223372036854775808≤n) (h':n≤9223372036854775807):D122 n=some (itoaS n,()):=by
 rw[E122]
 by_cases h0:n=0
 ·subst h0
  rfl
 ·rw[decide_eq_false h0,cond_false]
  show L122_248 n (decide (n<0)) (bstr [])=_
  rw[w122 _ 19 n [] (by omega) (by decide) (by decide)]
  congr 2
  apply sbytes_inj
  rw[sbytes_bstr,itoaS_list h h',List.append_nil]
  unfold figsL Lib.itoa
  rw[if_neg (by omega)]
  by_cases hn:n<0
  ·rw[decide_eq_true hn,cond_true,if_pos hn];rfl
  ·rw[decide_eq_false hn,cond_false,if_neg hn,show n.toNat=n.natAbs by omega];rfl
theorem e2080 (n:Int):D2080 n=some (itoaS n,()):=by rw[E2080,E2182];rfl
theorem itoaS_size {n:Int} (h: -9223372036854775808≤n) (h':n≤9223372036854775807):(itoaS n).size≤20:=by
 rw[←sbytes_lenE,itoaS_list h h']
 unfold Lib.itoa
 have hd: ∀ k u:Nat,u<10 ^ (k+1)→(Lib.decDigits u).length≤k+1:=by
  intro k
  induction k with
  | zero=>intro u hu;rw[Lib.decDigits,dif_pos (by simpa using hu)];exact Nat.le_refl _
  | succ k ih =>
   intro u hu
   rw[Lib.decDigits]
   split
   ·exact Nat.succ_le_succ (Nat.zero_le _)
   ·rw[List.length_append,List.length_singleton]
    have:=ih (u / 10) (by rw[Nat.pow_succ] at hu;omega)
    omega
 split
 ·rw[List.length_cons]
  have:=hd 18 n.natAbs (by show _<10000000000000000000;omega)
  omega
 ·have:=hd 18 n.toNat (by show _<10000000000000000000;omega)
  omega
theorem e112 {h t:ByteArray} {n:Int} (h1: -9223372036854775808≤n) (h2:n≤9223372036854775807) (hh:h.size≤1000) (ht:t.size≤1000):D112 h n t=some (kn h n t,()):=by
 have hs:=itoaS_size h1 h2
 rw[E112,e122 h1 h2,Option.bind_some]
 have g1:decide (h.size+((itoaS n,()):ByteArray×Unit).1.size≤9223372036854775807)=true:=decide_eq_true (by show _+(itoaS n).size≤_;omega)
 have g2:decide ((h++((itoaS n,()):ByteArray×Unit).1).size+t.size≤9223372036854775807)=true:=decide_eq_true (by rw[ByteArray.size_append];show _+(itoaS n).size+_≤_;omega)
 rw[g1,g2]
 rfl
theorem e2181 {h t:ByteArray} {n:Int} (h1: -9223372036854775808≤n) (h2:n≤9223372036854775807) (hh:h.size≤1000) (ht:t.size≤1000):D2181 h n t=some (kn h n t,()):=by
 have hs:=itoaS_size h1 h2
 rw[E2181,e2080,Option.bind_some]
 have g1:decide (h.size+((itoaS n,()):ByteArray×Unit).1.size≤9223372036854775807)=true:=decide_eq_true (by show _+(itoaS n).size≤_;omega)
 have g2:decide ((h++((itoaS n,()):ByteArray×Unit).1).size+t.size≤9223372036854775807)=true:=decide_eq_true (by rw[ByteArray.size_append];show _+(itoaS n).size+_≤_;omega)
 rw[g1,g2]
 rfl
theorem kn_size {h t:ByteArray} {n:Int} (h1: -9223372036854775808≤n) (h2:n≤9223372036854775807):(kn h n t).size≤h.size+t.size+20:=by
 unfold kn
 rw[ByteArray.size_append,ByteArray.size_append]
 have:=itoaS_size h1 h2
 omega
theorem fig_dig: ∀ n:Fin 256,IntKind.i64.wrap (Int.tdiv (IntKind.i64.wrap ((n.val:Nat):Int)) 16)=((n.val / 16:Nat):Int)∧Int.tmod (IntKind.i64.wrap ((n.val:Nat):Int)) 16=((n.val % 16:Nat):Int):=by decide +kernel
theorem w157 (s:ByteArray) (hs:s.size≤20000): ∀ (n i:Nat) (e:List UInt8),n=s.size - i→e.length≤2*i→i≤s.size→L157_244 s (i:Int) e=some (bstr (e++Lib.Hx.encode ((sbytes s).drop i)),(true,()))
 | n, i, e, hn, he, hi => by
  rw[P157_244]
  by_cases hlt:i<s.size
  ·have h1:decide ((i:Int)<(s.size:Int))=true:=decide_eq_true (by omega)
   have h2:decide (0≤(i:Int))=true:=decide_eq_true (by omega)
   have h3:(decide ((e.length+2)*1≤140737488355328)&&decide (e.length+2≤9223372036854775807))=true:=by rw[decide_eq_true (by omega),decide_eq_true (by omega)];rfl
   have hb:=(byteAt s i).toNat_lt
   obtain⟨f1,f2⟩:=fig_dig ⟨(byteAt s i).toNat,hb⟩
   have d1:=e163 ⟨(byteAt s i).toNat / 16,by omega⟩
   have d2:=e163 ⟨(byteAt s i).toNat % 16,by omega⟩
   simp only at f1 f2 d1 d2
   simp only[h1,h2,h3,cond_true,gd,Bool.and_self,Int.toNat_natCast,f1,f2,d1,d2,Option.bind_some,show(!decide ((16:Int)=0))=true from rfl]
   rw[i64_id (by omega) (by omega),show((i:Int)+1)=((i+1:Nat):Int) from rfl,w157 s hs (s.size - (i+1)) (i+1) _ rfl (by rw[List.length_append];show _+2≤_;omega) (by omega),drop_atE s hlt,Lib.Hx.encode_cons]
   rw[u8of_nat,u8of_nat,List.append_assoc]
   rfl
  ·have h1:decide ((i:Int)<(s.size:Int))=false:=decide_eq_false (by omega)
   rw[h1,cond_false,P157_31,List.drop_eq_nil_of_le (by rw[sbytes_lenE];omega)]
   show some (bstr (e.map fun x=>x),_)=some (bstr (e++[]),_)
   rw[List.append_nil,List.map_id']
def hexP (s:ByteArray):ByteArray×Bool×Unit:=bif decide ((s.size:Int)>20000) then(tx [],(false,())) else(hexS (sbytes s),(true,()))
theorem hexS_size (l:List UInt8):(hexS l).size=2*l.length:=by
 show((Lib.Hx.encode l).toArray).size=_
 rw[List.size_toArray,Lib.Hx.encode_length]
theorem hexP_size (s:ByteArray):(hexP s).1.size≤40000:=by
 unfold hexP
 cases h:decide ((s.size:Int)>20000) with
 | true=>exact Nat.zero_le _
 | false =>
  have:=of_decide_eq_false h
  rw[cond_false,hexS_size,sbytes_lenE]
  omega
theorem e157 (s:ByteArray):D157 s=some (hexP s):=by
 rw[E157]
 unfold hexP
 cases h:decide ((s.size:Int)>20000) with
 | true=>rfl
 | false =>
  have:=of_decide_eq_false h
  rw[cond_false,cond_false]
  refine(w157 s (by omega) _ 0 [] rfl (Nat.zero_le _) (Nat.zero_le _)).trans ?_
  rw[List.drop_zero]
  rfl
theorem e2106 (s:ByteArray):D2106 s=some (hexP s):=by
 rw[E2106]
 unfold hexP
 cases h:decide ((s.size:Int)>20000) with
 | true=>rfl
 | false =>
  have:=of_decide_eq_false h
  rw[cond_false,cond_false,E2213,List.map_id']
  show(hexX (sbytes s,())).bind _=_
  unfold hexX
  rw[show Nat.ble (2*((sbytes s,()):List UInt8×Unit).1.length) 281474976710656=true from Nat.ble_eq_true_of_le (by show 2*(sbytes s).length≤_;rw[sbytes_lenE];omega)]
  rfl
theorem e2256 (s:ByteArray):D2256 s=some ((hexP s).1,()):=by
 rw[E2256,e2106]
 rfl
end Go.Proofs.YtapfpflmcgfbkaaGreatDoor.Ri

namespace Go.Proofs.YtapfpflmcgfbkaaGreatDoor.Ri
open Go.Proofs.YtapfpflmcgfbkaaGreatDoor.Fw
set_option linter.unusedVariables false
set_option linter.unusedSimpArgs false
set_option maxRecDepth 100000
theorem decFrom_app : ∀ (l m : List UInt8) (a : Nat), Lib.decFrom a (l ++ m) = (Lib.decFrom a l).bind fun n => Lib.decFrom n m
 | [],m,a=>by simp[Lib.decFrom]
 | b :: l, m, a => by
  simp only[List.cons_append,Lib.decFrom]
  cases Lib.digitVal b with
  | none=>rfl
  | some d=>exact decFrom_app l m _
theorem digitVal_digit {d:Nat} (h:d<10):Lib.digitVal (UInt8.ofNat (48+d))=some d:=by
 have key: ∀ n:Fin 10,Lib.digitVal (UInt8.ofNat (48+n.val))=some n.val:=by decide +kernel
 exact key ⟨d,h⟩
theorem decFrom_digits: ∀ u:Nat,Lib.decFrom 0 (Lib.decDigits u)=some u:=by
 intro u
 induction u using Nat.strongRecOn with
 | _ u ih =>
  rw[Lib.decDigits]
  split
  ·rename_i h
   simp only[Lib.decFrom,digitVal_digit h]
   simp
  ·rename_i h
   rw[decFrom_app,ih (u / 10) (by omega)]
   simp only[Option.bind_some,Lib.decFrom,digitVal_digit (show u % 10<10 by omega)]
   congr 1
   omega
theorem decDigits_ne (u:Nat):Lib.decDigits u≠[]:=by
 rw[Lib.decDigits]
 split
 ·exact List.cons_ne_nil _ _
 ·simp
theorem decDigits_len {u:Nat} (h:u≤1000000000):(Lib.decDigits u).length≤10:=by
 have hd: ∀ k u:Nat,u<10 ^ (k+1)→(Lib.decDigits u).length≤k+1:=by
  intro k
  induction k with
  | zero=>intro u hu;rw[Lib.decDigits,dif_pos (by simpa using hu)];exact Nat.le_refl _
  | succ k ih =>
   intro u hu
   rw[Lib.decDigits]
   split
   ·exact Nat.succ_le_succ (Nat.zero_le _)
   ·rw[List.length_append,List.length_singleton]
    have:=ih (u / 10) (by rw[Nat.pow_succ] at hu;omega)
    omega
 exact hd 9 u (by omega)
theorem itoaL_nat (m:Nat) (h:m≤1000000000):itoaL (m:Int)=Lib.decDigits m:=by
 rw[itoaL_eq (by omega)]
 unfold Lib.itoa
 rw[if_neg (by omega),Int.toNat_natCast]
def readP (x:ByteArray):Int×Bool×Unit:=readM (sbytes x)
theorem readM_yes {m:Nat} (h:m≤1000000000):readM (Lib.decDigits m)=((m:Int),true,()):=by
 have ha:=Lib.atoiAll_short (Lib.decDigits m) (by have:=decDigits_len h;omega)
 have e:Lib.atoi (Lib.decDigits m)=some (m:Int):=by
  have hd:=decFrom_digits m
  cases hc:Lib.decDigits m with
  | nil=>exact absurd hc (decDigits_ne m)
  | cons b r =>
   rw[hc] at hd
   have h45:(b==45)=false:=by
    cases hb:b==45 with
    | false=>rfl
    | true=>rw[eq_of_beq hb] at hd;cases hd
   have h43:(b==43)=false:=by
    cases hb:b==43 with
    | false=>rfl
    | true=>rw[eq_of_beq hb] at hd;cases hd
   show(if(b==45)=true then(Lib.decNat r).map (fun(m:Nat)=> -(m:Int)) else if(b==43)=true then(Lib.decNat r).map (fun(m:Nat)=>(m:Int)) else(Lib.decNat (b::r)).map (fun(m:Nat)=>(m:Int)))=_
   rw[h45,h43]
   show(Lib.decFrom 0 (b::r)).map (fun(m:Nat)=>(m:Int))=_
   rw[hd]
   rfl
 unfold readM
 rw[ha,e]
 show(bif (decide (0≤(m:Int))&&decide ((m:Int)≤1000000000))&&decide (itoaL (m:Int)=Lib.decDigits m) then((m:Int),true,()) else(0,false,()))=_
 rw[decide_eq_true (by omega),decide_eq_true (by omega),decide_eq_true (itoaL_nat m h)]
 rfl
theorem readM_no {l:List UInt8} (h: ∀ m:Nat,m≤1000000000→Lib.decDigits m≠l):readM l=(0,false,()):=by
 unfold readM
 split
 next v hv=>
  cases hc:(decide (0≤v)&&decide (v≤1000000000))&&decide (itoaL v=l) with
  | false=>rfl
  | true =>
   simp only[Bool.and_eq_true,decide_eq_true_eq] at hc
   obtain⟨⟨h0,h1⟩,h2⟩:=hc
   obtain⟨m,rfl⟩:=Int.eq_ofNat_of_zero_le h0
   exact absurd ((itoaL_nat m (by omega)).symm.trans h2) (h m (by omega))
 next=>rfl
theorem readM_cases (l:List UInt8):(∃ m:Nat,m≤1000000000∧l=Lib.decDigits m∧readM l=((m:Int),true,()))∨((∀ m:Nat,m≤1000000000→Lib.decDigits m≠l)∧readM l=(0,false,())):=by
 by_cases h: ∃ m:Nat,m≤1000000000∧Lib.decDigits m=l
 ·obtain⟨m,h1,rfl⟩:=h
  exact .inl ⟨m,h1,rfl,readM_yes h1⟩
 ·have h' : ∀ m : Nat, m ≤ 1000000000 → Lib.decDigits m ≠ l := fun m h1 h2 => h ⟨m, h1, h2⟩
  exact .inr ⟨h',readM_no h'⟩
theorem readP_in (x:ByteArray):0≤(readP x).1∧(readP x).1≤1000000000:=by
 unfold readP
 rcases readM_cases (sbytes x) with ⟨m,h1,_,h2⟩ | ⟨_,h2⟩
 ·rw[h2];exact⟨by show(0:Int)≤(m:Int);omega,by show(m:Int)≤_;omega⟩
 ·rw[h2];exact⟨Int.le_refl _,by decide⟩
theorem e2420 {x:ByteArray} (h:x.size≤281474976710656):D2420 x=some (readP x):=by
 rw[E2420]
 unfold readX
 rw[show Nat.ble ((x,()):ByteArray×Unit).1.size 281474976710656=true from Nat.ble_eq_true_of_le h]
 rfl
theorem dig_val: ∀ k:Fin 256,(Lib.digitVal (UInt8.ofNat k.val)=bif decide (48≤k.val)&&decide (k.val≤57) then some (k.val - 48) else none):=by decide +kernel
theorem digitVal_eq (b : UInt8) : Lib.digitVal b = bif decide (48 ≤ b.toNat) && decide (b.toNat ≤ 57) then some (b.toNat - 48) else none := by
 have:=dig_val ⟨b.toNat,b.toNat_lt⟩
 rw[UInt8.ofNat_toNat] at this
 exact this
theorem itoaS_nat {m:Nat} (h:m≤1000000000):sbytes (itoaS (m:Int))=Lib.decDigits m:=by
 rw[itoaS_list (by omega) (by omega)]
 unfold Lib.itoa
 rw[if_neg (by omega),Int.toNat_natCast]
theorem w159 (s:ByteArray) (hs:s.size≤10): ∀ (n i v:Nat),i+n=s.size→v<10 ^ i→L159_244 s (v:Int) (i:Int)=match Lib.decFrom v ((sbytes s).drop i) with
  | some m=>some (bif (decide (m≤1000000000))&&decide (Lib.decDigits m=sbytes s) then((m:Int),true,()) else(0,false,()))
  | none=>some (0,false,())
 | 0, i, v, h, hv => by
  have hp:10 ^ i≤10 ^ 10:=Nat.pow_le_pow_right (by omega) (by omega)
  rw[List.drop_eq_nil_of_le (by rw[sbytes_lenE];omega),P159_244,decide_eq_false (show ¬ ((i:Int)<(s.size:Int)) by omega),cond_false,P159_31]
  show _=some (bif (decide (v≤1000000000))&&decide (Lib.decDigits v=sbytes s) then((v:Int),true,()) else(0,false,()))
  by_cases h9:v≤1000000000
  ·rw[decide_eq_false (show ¬ ((v:Int)>1000000000) by omega),decide_eq_true h9,Bool.not_false,cond_true,e122 (by omega) (by omega),Option.bind_some]
   have:decide (((itoaS (v:Int),()):ByteArray×Unit).1=s)=decide (Lib.decDigits v=sbytes s):=by
    rw[←itoaS_nat h9]
    exact decide_eq_decide.2 ⟨fun e=>by rw[←e],fun e=>sbytes_inj e⟩
   rw[this]
   cases decide (Lib.decDigits v=sbytes s)<;>rfl
  ·rw[decide_eq_true (show((v:Int)>1000000000) by omega),decide_eq_false h9]
   rfl
 | n + 1, i, v, h, hv => by
  have hlt:i<s.size:=by omega
  have hp:10 ^ i≤10 ^ 9:=Nat.pow_le_pow_right (by omega) (by omega)
  have hb:=(byteAt s i).toNat_lt
  have h1:decide ((i:Int)<(s.size:Int))=true:=decide_eq_true (by omega)
  have h2:decide (0≤(i:Int))=true:=decide_eq_true (by omega)
  rw[drop_atE s hlt,Lib.decFrom,digitVal_eq,P159_244]
  simp only[h1,h2,cond_true,Bool.and_self,Bool.true_or,gd,Int.toNat_natCast]
  by_cases hd:48≤(byteAt s i).toNat∧(byteAt s i).toNat≤57
  ·rw[decide_eq_false (show ¬ ((byteAt s i).toNat:Int)<48 by omega),decide_eq_false (show ¬ ((byteAt s i).toNat:Int)>57 by omega),decide_eq_true hd.1,decide_eq_true hd.2]
   simp only[Bool.or_self,cond_false,Bool.and_self,cond_true]
   rw[i64_id (n:=(10*(v:Int))) (by omega) (by omega),i64_id (n:=((byteAt s i).toNat:Int)) (by omega) (by omega),i64_id (n:=(10*(v:Int)+((byteAt s i).toNat:Int))) (by omega) (by omega),i64_id (n:=(10*(v:Int)+((byteAt s i).toNat:Int) - 48)) (by omega) (by omega),i64_id (n:=(i:Int)+1) (by omega) (by omega)]
   have e:(10*(v:Int)+((byteAt s i).toNat:Int) - 48)=((v*10+((byteAt s i).toNat - 48):Nat):Int):=by omega
   rw[e]
   exact w159 s hs n (i+1) _ (by omega) (by rw[Nat.pow_succ];omega)
  ·have:(decide (((byteAt s i).toNat:Int)<48)||decide (((byteAt s i).toNat:Int)>57))=true:=by
    rw[Bool.or_eq_true,decide_eq_true_eq,decide_eq_true_eq];omega
   have h3:(decide (48≤(byteAt s i).toNat)&&decide ((byteAt s i).toNat≤57))=false:=by
    rw[Bool.and_eq_false_iff,decide_eq_false_iff_not,decide_eq_false_iff_not];omega
   rw[this,h3]
   rfl
theorem e159 (x:ByteArray):D159 x=some (readP x):=by
 rw[E159]
 unfold readP
 by_cases hs:x.size≤10
 ·rw[decide_eq_false (show ¬ ((x.size:Int)>10) by omega),cond_false]
  refine(w159 x hs x.size 0 0 (by omega) (by decide)).trans ?_
  rw[List.drop_zero]
  rcases readM_cases (sbytes x) with ⟨m,h1,h2,h3⟩ | ⟨h1,h3⟩
  ·rw[h3,h2,decFrom_digits]
   show some (bif decide (m≤1000000000)&&decide (Lib.decDigits m=Lib.decDigits m) then _ else _)=_
   rw[decide_eq_true h1,decide_eq_true rfl]
   rfl
  ·rw[h3]
   cases Lib.decFrom 0 (sbytes x) with
   | none=>rfl
   | some m =>
    show some (bif decide (m≤1000000000)&&decide (Lib.decDigits m=sbytes x) then _ else _)=_
    by_cases h9:m≤1000000000
    ·rw[decide_eq_false (h1 m h9),Bool.and_false];rfl
    ·rw[decide_eq_false h9];rfl
 ·rw[decide_eq_true (show((x.size:Int)>10) by omega),cond_true]
  rw[readM_no fun m hm e=>hs (by rw[←sbytes_lenE,←e];exact decDigits_len hm)]
def numP (x:ByteArray):Int:=bif decide ((readP x).1>999) then 0 else(readP x).1
theorem numP_in (x:ByteArray):0≤numP x∧numP x≤999:=by
 unfold numP
 have:=readP_in x
 by_cases h:(readP x).1>999
 ·rw[decide_eq_true h];exact⟨Int.le_refl _,by show(0:Int)≤999;decide⟩
 ·rw[decide_eq_false h,cond_false];omega
theorem e111 (x:ByteArray):D111 x=some (numP x,()):=by
 rw[E111,e159,Option.bind_some]
 unfold numP
 have h0 : (readP x).2.1 = false → (readP x).1 = 0 := fun h => by
  unfold readP at h ⊢
  rcases readM_cases (sbytes x) with ⟨m,_,_,h2⟩ | ⟨_,h2⟩
  ·rw[h2] at h;cases h
  ·rw[h2]
 cases hb:(readP x).2.1 with
 | true =>
  rw[Bool.not_true,Bool.false_or]
  cases decide ((readP x).1>999)<;>rfl
 | false=>rw[h0 hb];rfl
theorem e2311 {x:ByteArray} (h:x.size≤281474976710656):D2311 x=some (numP x,()):=by
 rw[E2311,e2420 h,Option.bind_some]
 unfold numP
 cases decide ((readP x).1>999)<;>rfl
def unhexP (x:ByteArray):ByteArray×Bool×Unit:=match unhexL (sbytes x) with
 | some r=>bif Nat.ble r.length 20000 then(⟨r.toArray⟩,true,()) else(⟨#[]⟩,false,())
 | none=>(⟨#[]⟩,false,())
theorem unhexP_size (x:ByteArray):(unhexP x).1.size≤20000:=by
 unfold unhexP
 split
 next r _=>
  cases h:Nat.ble r.length 20000 with
  | true=>exact Nat.le_of_ble_eq_true h
  | false=>exact Nat.zero_le _
 next=>exact Nat.zero_le _
theorem e2313 {x:ByteArray} (h:x.size≤281474976710656):D2313 x=some (unhexP x):=by
 rw[E2313]
 unfold unhexX
 rw[show Nat.ble ((x,()):ByteArray×Unit).1.size 281474976710656=true from Nat.ble_eq_true_of_le h]
 rfl
theorem unhexL_len: ∀ (l r:List UInt8),unhexL l=some r→l.length=2*r.length
 | [], r, h => by
  obtain rfl:=Option.some.inj h
  rfl
 | [a],r,h=>by cases h
 | a :: b :: l, r, h => by
  unfold unhexL at h
  split at h
  next x y z h1 h2 h3=>
   obtain rfl:=Option.some.inj h
   have:=unhexL_len l z h3
   rw[List.length_cons,List.length_cons,List.length_cons]
   omega
  next=>cases h
def valI (b:UInt8):Int:=match hexV b with
 | some x=>(x:Int)
 | none=> -1
theorem e160f : ∀ k : Fin 256, D160 (UInt8.ofNat k.val) = some (valI (UInt8.ofNat k.val), ()) := fun k => by
 rw[E160]
 revert k
 decide +kernel
theorem e160 (b:UInt8):D160 b=some (valI b,()):=by
 have:=e160f ⟨b.toNat,b.toNat_lt⟩
 rw[UInt8.ofNat_toNat] at this
 exact this
theorem hexV_ltf: ∀ k:Fin 256,(match hexV (UInt8.ofNat k.val) with | some x=>Nat.blt x 16 | none=>true)=true:=by decide +kernel
theorem hexV_lt {b:UInt8} {x:Nat} (h:hexV b=some x):x<16:=by
 have:=hexV_ltf ⟨b.toNat,b.toNat_lt⟩
 rw[UInt8.ofNat_toNat,h] at this
 simpa [Nat.blt_eq] using this
theorem byte_of {h l:Nat} (hh:h<16) (hl:l<16):u8of (IntKind.wrap .u8 (IntKind.wrap .i64 ((IntKind.wrap .i64 (16*(h:Int)))+(l:Int))))=UInt8.ofNat (16*h+l):=by
 have key: ∀ a b:Fin 16,u8of (IntKind.wrap .u8 (IntKind.wrap .i64 ((IntKind.wrap .i64 (16*(a.val:Int)))+(b.val:Int))))=UInt8.ofNat (16*a.val+b.val):=by decide +kernel
 exact key ⟨h,hh⟩ ⟨l,hl⟩
theorem w113 (s:ByteArray) (hs:s.size≤40000): ∀ (n i:Nat) (e:List UInt8),i+2*n=s.size→e.length≤i→L113_244 s (i:Int) e=match unhexL ((sbytes s).drop i) with
  | some r=>some (⟨(e++r).toArray⟩,true,())
  | none=>some (⟨#[]⟩,false,())
 | 0, i, e, h, he => by
  rw[List.drop_eq_nil_of_le (by rw[sbytes_lenE];omega),P113_244,decide_eq_false (show ¬ ((i:Int)<(s.size:Int)) by omega),cond_false,P113_31]
  show some (bstr (e.map fun x=>x),_)=some (⟨(e++[]).toArray⟩,_)
  rw[List.append_nil,List.map_id']
  rfl
 | n + 1, i, e, h, he => by
  have hl1:i<s.size:=by omega
  have hl2:i+1<s.size:=by omega
  have h1:decide ((i:Int)<(s.size:Int))=true:=decide_eq_true (by omega)
  have h2:decide (0≤(i:Int))=true:=decide_eq_true (by omega)
  have e1:IntKind.wrap .i64 ((i:Int)+1)=((i+1:Nat):Int):=by rw[i64_id (by omega) (by omega)];rfl
  have e2:IntKind.wrap .i64 ((i:Int)+2)=((i+2:Nat):Int):=by rw[i64_id (by omega) (by omega)];rfl
  have h3:decide (((i+1:Nat):Int)<(s.size:Int))=true:=decide_eq_true (by omega)
  have h4:decide (0≤((i+1:Nat):Int))=true:=decide_eq_true (by omega)
  have h5:(decide ((e.length+1)*1≤140737488355328)&&decide (e.length+1≤9223372036854775807))=true:=by rw[decide_eq_true (by omega),decide_eq_true (by omega)];rfl
  rw[drop_atE s hl1,drop_atE s hl2,P113_244]
  simp only[h1,h2,h3,h4,h5,e1,e2,cond_true,Bool.and_self,gd,Int.toNat_natCast,u8of_nat,e160,Option.bind_some]
  unfold unhexL valI
  cases hx:hexV (byteAt s i) with
  | none=>rfl
  | some x =>
   cases hy:hexV (byteAt s (i+1)) with
   | none =>
    show(bif decide ((x:Int)<0)||true then _ else _)=_
    rw[Bool.or_true]
    rfl
   | some y =>
    have hx':=hexV_lt hx
    have hy':=hexV_lt hy
    show(bif decide ((x:Int)<0)||decide ((y:Int)<0) then _ else L113_244 s ((i+2:Nat):Int) (e++[u8of (IntKind.wrap .u8 (IntKind.wrap .i64 ((IntKind.wrap .i64 (16*(x:Int)))+(y:Int))))]))=_
    rw[decide_eq_false (by omega),decide_eq_false (by omega),byte_of hx' hy',Bool.or_self,cond_false,w113 s hs n (i+2) _ (by omega) (by rw[List.length_append,List.length_singleton];omega)]
    cases unhexL ((sbytes s).drop (i+1+1)) with
    | none=>rfl
    | some z =>
     show some ((⟨((e++[_])++z).toArray⟩:ByteArray),true,())=some ((⟨(e++_::z).toArray⟩:ByteArray),true,())
     rw[List.append_assoc]
     rfl
theorem tmod2 (n:Nat):(decide (Int.tmod (n:Int) 2=0))=decide (n % 2=0):=by
 have:Int.tmod (n:Int) 2=((n % 2:Nat):Int):=rfl
 rw[this]
 exact decide_eq_decide.2 (by omega)
theorem e113 (x:ByteArray):D113 x=some (unhexP x):=by
 rw[E113]
 show(bif decide ((x.size:Int)>40000)||!decide (Int.tmod (x.size:Int) 2=0) then _ else _)=_
 rw[tmod2]
 unfold unhexP
 cases hc:decide ((x.size:Int)>40000)||!decide (x.size % 2=0) with
 | true =>
  rw[cond_true]
  cases hu:unhexL (sbytes x) with
  | none=>rfl
  | some r =>
   have hl:=unhexL_len _ _ hu
   rw[sbytes_lenE] at hl
   have:Nat.ble r.length 20000=false:=by
    cases hb:Nat.ble r.length 20000 with
    | false=>rfl
    | true =>
     have hb:=Nat.le_of_ble_eq_true hb
     rw[Bool.or_eq_true,decide_eq_true_eq,Bool.not_eq_true',decide_eq_false_iff_not] at hc
     omega
   show _=some (bif Nat.ble r.length 20000 then _ else _)
   rw[this]
   rfl
 | false =>
  rw[Bool.or_eq_false_iff,decide_eq_false_iff_not,Bool.not_eq_false',decide_eq_true_eq] at hc
  rw[cond_false]
  refine(w113 x (by omega) (x.size / 2) 0 [] (by omega) (Nat.le_refl _)).trans ?_
  rw[List.drop_zero]
  cases hu:unhexL (sbytes x) with
  | none=>rfl
  | some r =>
   have hl:=unhexL_len _ _ hu
   rw[sbytes_lenE] at hl
   show _=some (bif Nat.ble r.length 20000 then _ else _)
   rw[Nat.ble_eq_true_of_le (by omega)]
   rfl
end Go.Proofs.YtapfpflmcgfbkaaGreatDoor.Ri

namespace Go.Proofs.YtapfpflmcgfbkaaGreatDoor.Ri
open Go.Proofs.YtapfpflmcgfbkaaGreatDoor.Fw
set_option linter.unusedVariables false
set_option linter.unusedSimpArgs false
set_option maxRecDepth 100000
theorem nth_getE {α:Type} [Inhabited α] {l:List α} {i:Nat} (h:i<l.length):nth l i=l[i]:=by unfold nth;rw[List.getD_eq_getElem?_getD,List.getElem?_eq_getElem h];rfl
def idxI {α:Type} (p:α→Bool) (l:List α) (i:Nat):Int:=match (l.drop i).findIdx? p with
 | some j=>((i+j:Nat):Int)
 | none=> -1
theorem idxI_yes {α:Type} [Inhabited α] {p:α→Bool} {l:List α} {i:Nat} (h:i<l.length) (hp:p (nth l i)=true):idxI p l i=i:=by
 unfold idxI
 rw[nth_getE h] at hp
 rw[List.drop_eq_getElem_cons h,List.findIdx?_cons,hp]
 simp
theorem idxI_no {α:Type} [Inhabited α] {p:α→Bool} {l:List α} {i:Nat} (h:i<l.length) (hp:p (nth l i)=false):idxI p l i=idxI p l (i+1):=by
 unfold idxI
 rw[nth_getE h] at hp
 rw[List.drop_eq_getElem_cons h,List.findIdx?_cons,hp]
 cases hq:(l.drop (i+1)).findIdx? p with
 | none=>simp
 | some j=>simp;omega
theorem idxI_end {α:Type} {p:α→Bool} {l:List α} {i:Nat} (h:l.length≤i):idxI p l i= -1:=by
 unfold idxI
 rw[List.drop_eq_nil_of_le h]
 rfl
theorem scan {α:Type} [Inhabited α] {L:Int→Option (Int×Unit)} {p:α→Bool} {l:List α} (hl:l.length≤4611686018427387904)
  (h: ∀ i:Nat,L i=bif decide ((i:Int)<(l.length:Int)) then(gd (decide (0≤(i:Int))&&decide ((i:Int)<(l.length:Int))) <| bif p (nth l i) then some ((i:Int),()) else L (IntKind.wrap .i64 ((i:Int)+1))) else some (-1,())):
  ∀ (k i:Nat),l.length - i=k→L i=some (idxI p l i,())
 | k, i, hk => by
  rw[h]
  by_cases hi:i<l.length
  ·have h1:decide ((i:Int)<(l.length:Int))=true:=decide_eq_true (by omega)
   have h2:decide (0≤(i:Int))=true:=decide_eq_true (by omega)
   rw[h1,cond_true,h2]
   show(bif p (nth l i) then some ((i:Int),()) else L (IntKind.wrap .i64 ((i:Int)+1)))=_
   cases hp:p (nth l i) with
   | true=>rw[cond_true,idxI_yes hi hp]
   | false =>
    rw[cond_false,i64_id (by omega) (by omega),idxI_no hi hp]
    exact scan hl h (l.length - (i+1)) (i+1) rfl
  ·have h1:decide ((i:Int)<(l.length:Int))=false:=decide_eq_false (by omega)
   rw[h1,cond_false,idxI_end (by omega)]
termination_by k=>k
decreasing_by omega
theorem t2303 {s:List Fw.Cell} {k:ByteArray} (hl:s.length≤4611686018427387904):D2303 s k=some (idxI (fun c=>decide (c.Key=k)) s 0,()):=by
 rw[E2303]
 exact scan (L:=fun i=>L2303_52 s k (s.length:Int) i) hl (fun i=>by rw[P2303_52,P2303_7];simp only[E2304,Option.bind_some];rfl) _ 0 rfl
theorem t4303 {s:List Fw.Cell} {k:ByteArray} (hl:s.length≤4611686018427387904):D4303 s k=some (idxI (fun c=>decide (c.Key=k)) s 0,()):=by
 rw[E4303]
 exact scan (L:=fun i=>L4303_52 s k (s.length:Int) i) hl (fun i=>by rw[P4303_52,P4303_7];simp only[E2426,Option.bind_some];rfl) _ 0 rfl
theorem t3303 {s:List Fw.Cell} {k:ByteArray} (hl:s.length≤4611686018427387904):D3303 s k=some (idxI (fun c=>!(ltB c.Key k||decide (c.Key=k))) s 0,()):=by
 rw[E3303]
 exact scan (L:=fun i=>L3303_52 s k (s.length:Int) i) hl (fun i=>by rw[P3303_52,P3303_7];simp only[E2427,Option.bind_some];rfl) _ 0 rfl
theorem t2417 {s:List ByteArray} {k:ByteArray} (hl:s.length≤4611686018427387904):D2417 s k=some (idxI (fun c=>!ltB c k) s 0,()):=by
 rw[E2417]
 exact scan (L:=fun i=>L2417_52 s k (s.length:Int) i) hl (fun i=>by rw[P2417_52,P2417_7];simp only[E2418,Option.bind_some];rfl) _ 0 rfl
theorem take_nthE {α:Type} [Inhabited α] {l:List α} {k:Nat} (h:k<l.length):l.take (k+1)=l.take k++[nth l k]:=by
 rw[nth_getE h,List.take_succ_eq_append_getElem h]
theorem w2425 {k:ByteArray} {s:List Fw.Cell} (hs:s.length≤1099511627776): ∀ (n i j:Nat) (e:List Fw.Cell),s.length - j=n→j≤s.length→i≤j→e.length=s.length→e.take i=delK (s.take j) k→e.drop j=s.drop j→
  L2425_244 k (i:Int) (j:Int) e=some (delK s k,())
 | n, i, j, e, hn, hj, hij, hl, ht, hd => by
  rw[P2425_244]
  by_cases hlt:j<s.length
  ·have h1:decide ((j:Int)<(e.length:Int))=true:=decide_eq_true (by omega)
   have h2:decide (0≤(j:Int))=true:=decide_eq_true (by omega)
   have h3:(decide (0≤(i:Int))&&decide ((i:Int)<(e.length:Int)))=true:=by rw[decide_eq_true (by omega),decide_eq_true (by omega)];rfl
   have hx:nth e j=nth s j:=by
    rw[nth_getE (by omega),nth_getE hlt]
    have:=congrArg (fun l=>l[0]?) hd
    simp only[List.getElem?_drop,Nat.add_zero] at this
    rw[List.getElem?_eq_getElem (by omega),List.getElem?_eq_getElem hlt] at this
    exact Option.some.inj this
   have ej:IntKind.wrap .i64 ((j:Int)+1)=((j+1:Nat):Int):=by rw[i64_id (by omega) (by omega)];rfl
   have ei:IntKind.wrap .i64 ((i:Int)+1)=((i+1:Nat):Int):=by rw[i64_id (by omega) (by omega)];rfl
   have hdt:delK (s.take (j+1)) k=delK (s.take j) k++(if isK k (nth s j) then[] else[nth s j]):=by
    unfold delK
    rw[take_nthE hlt,List.filter_append]
    congr 1
    cases hq:isK k (nth s j)<;>simp[hq]
   have hd1 : ∀ (e' : List Fw.Cell), e'.drop (j + 1) = e.drop (j + 1) → e'.drop (j + 1) = s.drop (j + 1) := fun e' h => by
    have:=congrArg (List.drop 1) hd
    rw[List.drop_drop,List.drop_drop] at this
    rw[h]
    exact this
   simp only[h1,cond_true,h2,gd,Bool.and_self,Int.toNat_natCast,E2426,Option.bind_some,hx,h3]
   have hq0:decide ((nth s j).Key=k)=isK k (nth s j):=rfl
   rw[hq0]
   cases hq:isK k (nth s j) with
   | true =>
    simp only[Bool.not_true,cond_false]
    rw[P2425_979,ej]
    exact w2425 hs (s.length - (j+1)) i (j+1) e rfl (by omega) (by omega) hl (by rw[hdt,hq,ht];simp) (hd1 e rfl)
   | false =>
    simp only[Bool.not_false,cond_true]
    rw[P2425_979,ej,ei]
    refine w2425 hs (s.length - (j+1)) (i+1) (j+1) (e.set i (nth s j)) rfl (by omega) (by omega) (by rw[List.length_set];exact hl) ?_ (hd1 _ ?_)
    ·rw[hdt,hq,←ht,take_nthE (by rw[List.length_set];omega),List.take_set_of_le (Nat.le_refl _),nth_getE (by rw[List.length_set];omega)]
     simp
    ·rw[List.drop_set_of_lt (by omega)]
  ·have h1:decide ((j:Int)<(e.length:Int))=false:=decide_eq_false (by omega)
   obtain rfl:j=s.length:=by omega
   rw[h1,cond_false,P2425_31]
   rw[List.take_length] at ht
   have hlen:(e.take i).length=i:=by rw[List.length_take];omega
   have hc:cutL e 0 i=e.take i:=by unfold cutL;rw[List.drop_zero]
   have g1:decide (0≤(i:Int))=true:=decide_eq_true (by omega)
   have g2:decide ((i:Int)≤(e.length:Int))=true:=decide_eq_true (by omega)
   have g3:decide ((i:Int)≤(((e.take i)++List.replicate (e.length - i) (⟨(tx []),(tx [])⟩:Fw.Cell)).length:Int))=true:=decide_eq_true (by rw[List.length_append,hlen];omega)
   simp only[Int.toNat_natCast,hc,g1,g2,g3,gd,Bool.and_self,cond_true]
   rw[List.take_append_of_le_length (by omega),List.take_of_length_le (by omega),ht]
termination_by n=>n
decreasing_by all_goals omega
theorem t2425 {k:ByteArray} {s:List Fw.Cell} (hs:s.length≤1099511627776):D2425 s k=some (delK s k,()):=by
 rw[E2425,t4303 (by omega),Option.bind_some]
 unfold idxI
 rw[List.drop_zero]
 cases hf:s.findIdx? (fun c=>decide (c.Key=k)) with
 | none =>
  rw[List.findIdx?_eq_none_iff] at hf
  have : delK s k = s := List.filter_eq_self.2 fun c hc => by
   have:=hf c hc
   unfold isK
   rw[this];rfl
  rw[this]
  rfl
 | some j =>
  obtain⟨hj,h1,h2⟩:=List.findIdx?_eq_some_iff_getElem.1 hf
  have e1:decide ((((0+j:Nat):Int))= -1)=false:=decide_eq_false (by omega)
  have e2:IntKind.wrap .i64 (((0+j:Nat):Int)+1)=((j+1:Nat):Int):=by rw[i64_id (by omega) (by omega)];omega
  show(bif decide ((((0+j:Nat):Int))= -1) then _ else _)=_
  rw[e1,cond_false,e2]
  show L2425_244 k ((0+j:Nat):Int) ((j+1:Nat):Int) s=_
  rw[Nat.zero_add]
  refine w2425 hs (s.length - (j+1)) j (j+1) s rfl (by omega) (by omega) rfl ?_ rfl
  unfold delK
  rw[take_nthE hj,List.filter_append,nth_getE hj]
  have hz:List.filter (fun c=>!isK k c) [s[j]]=[]:=by
   have:isK k s[j]=true:=h1
   simp[this]
  rw[hz,List.append_nil,List.filter_eq_self.2]
  intro c hc
  obtain⟨i,hi,rfl⟩:=List.mem_take_iff_getElem.1 hc
  have:=h2 i (by omega)
  unfold isK
  simpa using this
theorem findIdx_find {α:Type} [Inhabited α] {p:α→Bool}: ∀ {l:List α} {j:Nat},l.findIdx? p=some j→l.find? p=some (nth l j)
 | [],_,h=>by cases h
 | a :: l, j, h => by
  rw[List.findIdx?_cons] at h
  cases hp:p a with
  | true =>
   rw[hp] at h
   obtain rfl:=Option.some.inj h
   rw[List.find?_cons_of_pos hp]
   rfl
  | false =>
   rw[hp] at h
   obtain⟨i,hi,rfl⟩:=Option.map_eq_some_iff.1 h
   rw[List.find?_cons_of_neg (by simp[hp]),findIdx_find hi]
   rfl
theorem t2180 {s:List Fw.Cell} {k:ByteArray} (hs:s.length≤1099511627776):D2180 s k=some (idxI (fun c=>decide (c.Key=k)) s 0,()):=by
 rw[E2180,t2303 (by omega),Option.bind_some]
theorem t2078 {s:List Fw.Cell} {k:ByteArray} (hs:s.length≤1099511627776):D2078 s k=some (getK s k,()):=by
 rw[E2078,t2180 hs,Option.bind_some]
 unfold idxI getK
 rw[List.drop_zero]
 cases hf:s.findIdx? (fun c=>decide (c.Key=k)) with
 | none =>
  have:s.find? (fun c=>decide (c.Key=k))=none:=by
   rw[List.findIdx?_eq_none_iff] at hf
   rw[List.find?_eq_none]
   intro c hc
   rw[hf c hc]
   simp
  rw[this]
  rfl
 | some j =>
  obtain⟨hj,_,_⟩:=List.findIdx?_eq_some_iff_getElem.1 hf
  rw[findIdx_find hf]
  have g1:decide (((0+j:Nat):Int)≥0)=true:=decide_eq_true (by omega)
  have g2:decide ((0:Int)≤((0+j:Nat):Int))=true:=decide_eq_true (by omega)
  have g3:decide (((0+j:Nat):Int)<(s.length:Int))=true:=decide_eq_true (by omega)
  show(bif decide (((0+j:Nat):Int)≥0) then gd (decide ((0:Int)≤((0+j:Nat):Int))&&decide (((0+j:Nat):Int)<(s.length:Int))) (some ((nth s (0+j)).Val,())) else _)=_
  rw[g1,g3,Nat.zero_add]
  rfl
def okB (b:UInt8):Bool:=(Nat.ble 33 b.toNat&&Nat.ble b.toNat 126)&&!Nat.beq b.toNat 42
theorem okB_f: ∀ k:Fin 256,(((decide (((k.val:Nat):Int)<33))||(decide (((k.val:Nat):Int)>126)))||(decide (((k.val:Nat):Int)=42)))=!okB (UInt8.ofNat k.val)∧((!(decide ((IntKind.wrap .i64 ((k.val:Nat):Int))≥33)&&decide ((IntKind.wrap .i64 ((k.val:Nat):Int))≤126)))||(decide (((k.val:Nat):Int)=42)))=!okB (UInt8.ofNat k.val):=by decide +kernel
theorem okB_eq (b:UInt8):(((decide ((b.toNat:Int)<33))||(decide ((b.toNat:Int)>126)))||(decide ((b.toNat:Int)=42)))=!okB b∧((!(decide ((IntKind.wrap .i64 (b.toNat:Int))≥33)&&decide ((IntKind.wrap .i64 (b.toNat:Int))≤126)))||(decide ((b.toNat:Int)=42)))=!okB b:=by
 have:=okB_f ⟨b.toNat,b.toNat_lt⟩
 rw[UInt8.ofNat_toNat] at this
 exact this
def klenB (x:ByteArray):Bool:=Nat.ble 1 (sbytes x).length&&Nat.ble (sbytes x).length 40
theorem klenB_eq (x:ByteArray):(decide ((x.size:Int)≥1)&&decide ((x.size:Int)≤40))=klenB x:=by
 unfold klenB
 rw[sbytes_lenE]
 rw[Bool.eq_iff_iff,Bool.and_eq_true,Bool.and_eq_true,decide_eq_true_eq,decide_eq_true_eq,Nat.ble_eq,Nat.ble_eq]
 omega
theorem w132 (s:ByteArray) (hs:s.size≤4611686018427387904): ∀ (n i:Nat),i+n=s.size→L132_52 s (i:Int)=some (((sbytes s).drop i).all okB&&klenB s,())
 | 0, i, h => by
  rw[P132_52,decide_eq_false (show ¬ ((i:Int)<(s.size:Int)) by omega),cond_false,P132_7,E27,List.drop_eq_nil_of_le (by rw[sbytes_lenE];omega)]
  show some (_,())=some (true&&klenB s,())
  rw[klenB_eq,Bool.true_and]
 | n + 1, i, h => by
  have h1:decide ((i:Int)<(s.size:Int))=true:=decide_eq_true (by omega)
  have h2:decide (0≤(i:Int))=true:=decide_eq_true (by omega)
  rw[P132_52]
  simp only[h1,h2,cond_true,Bool.and_self,Bool.true_or,gd,Int.toNat_natCast,E27,Option.bind_some]
  rw[(okB_eq _).2,drop_atE s (by omega),List.all_cons]
  cases okB (byteAt s i) with
  | false=>rfl
  | true =>
   rw[i64_id (by omega) (by omega),Bool.not_true,cond_false,Bool.true_and]
   exact w132 s hs n (i+1) (by omega)
theorem e132 {x:ByteArray} (h:x.size≤4611686018427387904):D132 x=some (keyOkL x.data.toList,()):=by
 rw[E132]
 exact w132 x h x.size 0 (by omega)
theorem w2254 (s:ByteArray) (hs:s.size≤4611686018427387904): ∀ (n i:Nat),i+n=s.size→L2254_52 s (s.size:Int) (i:Int)=some (((sbytes s).drop i).all okB&&klenB s,())
 | 0, i, h => by
  rw[P2254_52,decide_eq_false (show ¬ ((i:Int)<(s.size:Int)) by omega),cond_false,P2254_7,E2090,List.drop_eq_nil_of_le (by rw[sbytes_lenE];omega)]
  show some (_,())=some (true&&klenB s,())
  rw[klenB_eq,Bool.true_and]
 | n + 1, i, h => by
  have h1:decide ((i:Int)<(s.size:Int))=true:=decide_eq_true (by omega)
  have h2:decide (0≤(i:Int))=true:=decide_eq_true (by omega)
  rw[P2254_52]
  simp only[h1,h2,cond_true,Bool.and_self,Bool.true_or,gd,Int.toNat_natCast]
  rw[(okB_eq _).1,drop_atE s (by omega),List.all_cons]
  cases okB (byteAt s i) with
  | false=>rfl
  | true =>
   rw[i64_id (by omega) (by omega),Bool.not_true,cond_false,Bool.true_and]
   exact w2254 s hs n (i+1) (by omega)
theorem e2254 {x:ByteArray} (h:x.size≤4611686018427387904):D2254 x=some (keyOkL x.data.toList,()):=by
 rw[E2254]
 exact w2254 x h x.size 0 (by omega)
theorem beg_gd (x y:ByteArray):(((decide (0≤(0:Int)))&&((decide (0≤(y.size:Int)))&&(decide ((y.size:Int)≤(x.size:Int)))))||(!(decide ((x.size:Int)≥(y.size:Int)))))=true:=by
 rw[decide_eq_true (by omega),decide_eq_true (show 0≤(y.size:Int) by omega)]
 by_cases h:(y.size:Int)≤(x.size:Int)
 ·rw[decide_eq_true h];rfl
 ·rw[decide_eq_false (show ¬ (x.size:Int)≥(y.size:Int) from h),Bool.not_false,Bool.or_true]
theorem e191 (x y:ByteArray):D191 x y=some (begB x y,()):=by
 rw[E191]
 exact congrArg (fun b=>bif b then some (begB x y,()) else none) (beg_gd x y)
theorem e5241 (x y:ByteArray):D5241 x y=some (begB x y,()):=by
 rw[E5241]
 exact congrArg (fun b=>bif b then some (begB x y,()) else none) (beg_gd x y)
theorem e2547 (x y:ByteArray):D2547 x y=some (begB x y,()):=by rw[E2547,e5241];rfl
theorem e2312 (x y:ByteArray):D2312 x y=some (bif begB x y then(cutS x y.size x.size,(true,())) else(x,(false,()))):=by
 rw[E2312,E5245,e5241,Option.bind_some]
 cases h:begB x y with
 | false=>rfl
 | true =>
  have hs:=begB_size h
  have g:(decide (0≤(y.size:Int))&&((decide ((y.size:Int)≤(x.size:Int)))&&(decide ((x.size:Int)≤(x.size:Int)))))=true:=by
   rw[decide_eq_true (show 0≤(y.size:Int) by omega),decide_eq_true (show(y.size:Int)≤(x.size:Int) by omega),decide_eq_true (show(x.size:Int)≤(x.size:Int) by omega)];rfl
  simp only[Bool.not_true,cond_false,cond_true,gd,g,Int.toNat_natCast,Option.bind_some]
theorem getK_cons {s : List Fw.Cell} {k : ByteArray} {i : Nat} (h : i < s.length) : getK (s.drop i) k = bif decide ((nth s i).Key = k) then (nth s i).Val else getK (s.drop (i + 1)) k := by
 rw[nth_getE h,List.drop_eq_getElem_cons h]
 unfold getK
 rw[List.find?_cons]
 cases decide (s[i].Key=k)<;>rfl
theorem w104 (s:List Fw.Cell) (k:ByteArray) (hs:s.length≤1099511627776): ∀ (n i:Nat),i+n=s.length→L104_52 s k (i:Int)=some (getK (s.drop i) k,())
 | 0, i, h => by
  rw[P104_52,decide_eq_false (show ¬ ((i:Int)<(s.length:Int)) by omega),cond_false,P104_7,List.drop_eq_nil_of_le (by omega)]
  rfl
 | n + 1, i, h => by
  have h1:decide ((i:Int)<(s.length:Int))=true:=decide_eq_true (by omega)
  have h2:decide (0≤(i:Int))=true:=decide_eq_true (by omega)
  rw[P104_52,getK_cons (by omega)]
  simp only[h1,h2,cond_true,Bool.and_self,gd,Int.toNat_natCast]
  cases decide ((nth s i).Key=k) with
  | true=>rfl
  | false =>
   rw[cond_false,cond_false,i64_id (by omega) (by omega)]
   exact w104 s k hs n (i+1) (by omega)
theorem e104 {s:List Fw.Cell} {k:ByteArray} (hs:s.length≤1099511627776):D104 s k=some (getK s k,()):=by
 rw[E104]
 exact w104 s k hs s.length 0 (by omega)
theorem underK_cons {s:List Fw.Cell} {p:ByteArray} {i:Nat} (h:i<s.length):underK (s.drop i) p=(bif begB (nth s i).Key p then[(nth s i).Key] else[])++underK (s.drop (i+1)) p:=by
 rw[nth_getE h,List.drop_eq_getElem_cons h]
 unfold underK
 rw[List.filter_cons]
 cases begB s[i].Key p<;>rfl
theorem w189 (s:List Fw.Cell) (p:ByteArray) (hs:s.length≤1099511627776): ∀ (n i:Nat) (e:List ByteArray),i+n=s.length→e.length≤i→L189_116 s p (i:Int) e=some (e++underK (s.drop i) p,())
 | 0, i, e, h, he => by
  rw[P189_116,decide_eq_false (show ¬ ((i:Int)<(s.length:Int)) by omega),cond_false,P189_15,List.drop_eq_nil_of_le (by omega)]
  show _=some (e++[],())
  rw[List.append_nil]
 | n + 1, i, e, h, he => by
  have h1:decide ((i:Int)<(s.length:Int))=true:=decide_eq_true (by omega)
  have h2:decide (0≤(i:Int))=true:=decide_eq_true (by omega)
  have h3:(decide ((e.length+1)*16≤140737488355328)&&decide (e.length+1≤9223372036854775807))=true:=by rw[decide_eq_true (by omega),decide_eq_true (by omega)];rfl
  rw[P189_116,underK_cons (by omega)]
  simp only[h1,h2,h3,cond_true,Bool.and_self,gd,Int.toNat_natCast,e191,Option.bind_some,P189_467]
  rw[i64_id (by omega) (by omega)]
  cases begB (nth s i).Key p with
  | true =>
   rw[cond_true,cond_true,←List.append_assoc]
   exact w189 s p hs n (i+1) _ (by omega) (by rw[List.length_append,List.length_singleton];omega)
  | false =>
   rw[cond_false,cond_false,List.nil_append]
   exact w189 s p hs n (i+1) _ (by omega) (by omega)
theorem e189 {s:List Fw.Cell} {p:ByteArray} (hs:s.length≤1099511627776):D189 s p=some (underK s p,()):=by
 rw[E189]
 exact w189 s p hs s.length 0 [] (by omega) (Nat.zero_le _)
theorem w2554b (s:List Fw.Cell) (p:ByteArray) (hs:s.length≤1099511627776): ∀ (n i:Nat) (e:List ByteArray),i+n=s.length→e.length≤i→L2554_116b p s (s.length:Int) (i:Int) e=some (e++underK (s.drop i) p,())
 | 0, i, e, h, he => by
  rw[P2554_116b,decide_eq_false (show ¬ ((i:Int)<(s.length:Int)) by omega),cond_false,P2554_15b,List.drop_eq_nil_of_le (by omega)]
  show _=some (e++[],())
  rw[List.append_nil]
 | n + 1, i, e, h, he => by
  have h1:decide ((i:Int)<(s.length:Int))=true:=decide_eq_true (by omega)
  have h2:decide (0≤(i:Int))=true:=decide_eq_true (by omega)
  have h3:(decide ((e.length+1)*16≤140737488355328)&&decide (e.length+1≤9223372036854775807))=true:=by rw[decide_eq_true (by omega),decide_eq_true (by omega)];rfl
  rw[P2554_116b,underK_cons (by omega)]
  simp only[h1,h2,h3,cond_true,Bool.and_self,gd,Int.toNat_natCast,e2547,Option.bind_some,P2554_935b]
  rw[i64_id (by omega) (by omega)]
  cases begB (nth s i).Key p with
  | true =>
   rw[cond_true,cond_true,←List.append_assoc]
   exact w2554b s p hs n (i+1) _ (by omega) (by rw[List.length_append,List.length_singleton];omega)
  | false =>
   rw[cond_false,cond_false,List.nil_append]
   exact w2554b s p hs n (i+1) _ (by omega) (by omega)
theorem w2554 (s:List Fw.Cell) (p:ByteArray) (hs:s.length≤1099511627776): ∀ (n i:Nat),i+n=s.length→L2554_116 p s (s.length:Int) (i:Int)=some (underK (s.drop i) p,())
 | 0, i, h => by
  rw[P2554_116,decide_eq_false (show ¬ ((i:Int)<(s.length:Int)) by omega),cond_false,P2554_15,List.drop_eq_nil_of_le (by omega)]
  rfl
 | n + 1, i, h => by
  have h1:decide ((i:Int)<(s.length:Int))=true:=decide_eq_true (by omega)
  have h2:decide (0≤(i:Int))=true:=decide_eq_true (by omega)
  rw[P2554_116,underK_cons (by omega)]
  simp only[h1,h2,cond_true,Bool.and_self,gd,Int.toNat_natCast,e2547,Option.bind_some,P2554_935b,P2554_935]
  rw[i64_id (by omega) (by omega)]
  cases begB (nth s i).Key p with
  | true=>exact w2554b s p hs n (i+1) [(nth s i).Key] (by omega) (by show 1≤_;omega)
  | false=>exact w2554 s p hs n (i+1) (by omega)
theorem e2554 {s:List Fw.Cell} {p:ByteArray} (hs:s.length≤1099511627776):D2554 s p=some (underK s p,()):=by
 rw[E2554]
 exact w2554 s p hs s.length 0 (by omega)
theorem insK_at (c : Fw.Cell) : ∀ d : List Fw.Cell, insK d c = match d.findIdx? fun e => gtB e.Key c.Key with
  | some j=>d.take j++[c]++d.drop j
  | none=>d++[c]
 | []=>rfl
 | e :: d => by
  rw[List.findIdx?_cons]
  unfold insK
  cases h:gtB e.Key c.Key with
  | true=>rfl
  | false =>
   rw[cond_false,insK_at c d]
   cases d.findIdx? fun e=>gtB e.Key c.Key<;>rfl
theorem addS_at (x : ByteArray) : ∀ l : List ByteArray, addS l x = match l.findIdx? fun c => !ltB c x with
  | some j=>bif decide (nth l j=x) then l else l.take j++[x]++l.drop j
  | none=>l++[x]
 | []=>rfl
 | y :: l => by
  rw[List.findIdx?_cons]
  unfold addS
  cases h:ltB y x with
  | true =>
   rw[cond_true,addS_at x l]
   cases l.findIdx? fun c=>!ltB c x with
   | none=>rfl
   | some j =>
    show(y::bif decide (nth l j=x) then l else _)=bif decide (nth l j=x) then y::l else _
    cases decide (nth l j=x)<;>rfl
  | false=>rfl
theorem e2428 {d:List Fw.Cell} {j:Nat} {c:Fw.Cell} (hj:j≤d.length) (hd:d.length≤1099511627776):D2428 d (j:Int) [c]=some (d.take j++[c]++d.drop j,()):=by
 rw[E2428]
 unfold insX
 show(bif (decide (0≤(j:Int))&&decide ((j:Int)≤(d.length:Int)))&&(Nat.ble d.length 1099511627776&&true) then some (d.take (j:Int).toNat++[c]++d.drop (j:Int).toNat,()) else none)=_
 rw[decide_eq_true (by omega),decide_eq_true (by omega),Nat.ble_eq_true_of_le hd,Int.toNat_natCast]
 rfl
theorem e2419 {d:List ByteArray} {j:Nat} {c:ByteArray} (hj:j≤d.length) (hd:d.length≤1099511627776):D2419 d (j:Int) [c]=some (d.take j++[c]++d.drop j,()):=by
 rw[E2419]
 unfold insX
 show(bif (decide (0≤(j:Int))&&decide ((j:Int)≤(d.length:Int)))&&(Nat.ble d.length 1099511627776&&true) then some (d.take (j:Int).toNat++[c]++d.drop (j:Int).toNat,()) else none)=_
 rw[decide_eq_true (by omega),decide_eq_true (by omega),Nat.ble_eq_true_of_le hd,Int.toNat_natCast]
 rfl
theorem e2319 {s:List Fw.Cell} {k v:ByteArray} (hs:s.length≤1099511627776) (hk:k.size≤4611686018427387904):D2319 s k v=some (putC s k v,()):=by
 rw[E2319,e2254 hk,Option.bind_some]
 unfold putC
 cases h:!keyOkL k.data.toList||decide ((v.size:Int)>60) with
 | true=>simp only[cond_true]
 | false =>
  have hl:=delK_len s k
  simp only[cond_false,t2425 hs,Option.bind_some]
  cases decide (v=tx []) with
  | true=>rfl
  | false =>
   rw[cond_false,cond_false,t3303 (by omega),Option.bind_some,insK_at]
   unfold idxI
   rw[List.drop_zero]
   show _=some ((match (delK s k).findIdx? fun e=>!(ltB e.Key k||decide (e.Key=k)) with | some j=>_ | none=>_),())
   cases hf:(delK s k).findIdx? fun e=>!(ltB e.Key k||decide (e.Key=k)) with
   | none =>
    show L2319_127 v k ((delK s k).length:Int) (delK s k)=_
    rw[P2319_127,e2428 (Nat.le_refl _) (by omega),List.take_length,List.drop_length,List.append_nil]
    rfl
   | some j =>
    obtain⟨hj,_,_⟩:=List.findIdx?_eq_some_iff_getElem.1 hf
    show(bif decide (((0+j:Nat):Int)<0) then _ else L2319_127 v k ((0+j:Nat):Int) (delK s k))=_
    rw[decide_eq_false (by omega),cond_false,P2319_127,Nat.zero_add,e2428 (by omega) (by omega)]
    rfl
def putR (k v:ByteArray) (done:Bool) (l:List Fw.Cell):List Fw.Cell:=bif done then delK l k else insK (delK l k) ⟨k,v⟩
theorem delK_cons {s:List Fw.Cell} {k:ByteArray} {i:Nat} (h:i<s.length):delK (s.drop i) k=(bif decide ((nth s i).Key=k) then[] else[nth s i])++delK (s.drop (i+1)) k:=by
 rw[nth_getE h,List.drop_eq_getElem_cons h]
 unfold delK
 rw[List.filter_cons]
 unfold isK
 cases decide (s[i].Key=k)<;>rfl
def b01 (d:Bool):Nat:=bif d then 1 else 0
theorem b01_le (d:Bool):b01 d≤1:=by cases d<;>decide
theorem w162 (s:List Fw.Cell) (k v:ByteArray) (hs:s.length≤1099511627776): ∀ (n i:Nat) (done:Bool) (e:List Fw.Cell),i+n=s.length→e.length≤i+b01 done→L162_500 s k v done (i:Int) e=some (e++putR k v done (s.drop i),())
 | 0, i, done, e, h, he => by
  have hb:=b01_le done
  have h3:(decide ((e.length+1)*32≤140737488355328)&&decide (e.length+1≤9223372036854775807))=true:=by rw[decide_eq_true (by omega),decide_eq_true (by omega)];rfl
  rw[P162_500,decide_eq_false (show ¬ ((i:Int)<(s.length:Int)) by omega),cond_false,P162_63,List.drop_eq_nil_of_le (by omega)]
  simp only[h3,gd,cond_true,P162_127]
  cases done with
  | true=>show some (e,())=some (e++[],());rw[List.append_nil]
  | false=>rfl
 | n + 1, i, done, e, h, he => by
  have hb:=b01_le done
  have h1:decide ((i:Int)<(s.length:Int))=true:=decide_eq_true (by omega)
  have h2:decide (0≤(i:Int))=true:=decide_eq_true (by omega)
  have hg: ∀ m,m≤s.length+2→(decide ((m+1)*32≤140737488355328)&&decide (m+1≤9223372036854775807))=true:=fun m hm=>by rw[decide_eq_true (by omega),decide_eq_true (by omega)];rfl
  have hg1:=hg e.length (by omega)
  have step : ∀ (d : Bool) (e' : List Fw.Cell), e'.length ≤ i + b01 d → L162_8009 s k v d (i : Int) e' = some ((e' ++ bif decide ((nth s i).Key = k) then [] else [nth s i]) ++ putR k v d (s.drop (i + 1)), ()) := fun d e' h5 => by
   have hb':=b01_le d
   have hg2:=hg e'.length (by omega)
   rw[P162_8009]
   simp only[h1,h2,cond_true,Bool.and_self,gd,Int.toNat_natCast,hg2,P162_2003]
   rw[i64_id (by omega) (by omega)]
   cases decide ((nth s i).Key=k) with
   | true =>
    rw[cond_true,List.append_nil]
    exact w162 s k v hs n (i+1) d e' (by omega) (by omega)
   | false =>
    rw[cond_false]
    exact w162 s k v hs n (i+1) d _ (by omega) (by rw[List.length_append,List.length_singleton];omega)
  rw[P162_500]
  simp only[h1,h2,cond_true,Bool.and_self,Bool.true_or,gd,Int.toNat_natCast,hg1]
  have hgt:(!((ltB (nth s i).Key k)||(decide ((nth s i).Key=k))))=gtB (nth s i).Key k:=rfl
  rw[hgt]
  cases done with
  | true =>
   rw[Bool.not_true,Bool.false_and,cond_false,step true e he]
   unfold putR
   rw[cond_true,cond_true,delK_cons (i:=i) (by omega),List.append_assoc]
  | false =>
   have he0:e.length≤i:=he
   rw[Bool.not_false,Bool.true_and]
   unfold putR
   rw[cond_false,delK_cons (i:=i) (by omega)]
   cases hc:gtB (nth s i).Key k with
   | true =>
    have hne:decide ((nth s i).Key=k)=false:=by
     unfold gtB at hc
     rw[Bool.not_eq_true',Bool.or_eq_false_iff] at hc
     exact hc.2
    rw[cond_true,step true _ (by rw[List.length_append,List.length_singleton];show _≤i+1;omega),hne,cond_false]
    show some (((e++[⟨k,v⟩])++[nth s i])++delK (s.drop (i+1)) k,())=some (e++insK (nth s i::delK (s.drop (i+1)) k) ⟨k,v⟩,())
    unfold insK
    rw[show gtB (nth s i).Key (⟨k,v⟩:Fw.Cell).Key=true from hc,cond_true,List.append_assoc,List.append_assoc]
    rfl
   | false =>
    rw[cond_false,step false e he]
    unfold putR
    rw[cond_false]
    cases decide ((nth s i).Key=k) with
    | true=>rw[cond_true,List.append_nil,List.nil_append]
    | false =>
     rw[cond_false]
     show some ((e++[nth s i])++insK (delK (s.drop (i+1)) k) ⟨k,v⟩,())=some (e++insK (nth s i::delK (s.drop (i+1)) k) ⟨k,v⟩,())
     conv=>rhs;unfold insK
     rw[show gtB (nth s i).Key (⟨k,v⟩:Fw.Cell).Key=false from hc,cond_false,List.append_assoc]
     rfl
theorem e162 {s:List Fw.Cell} {k v:ByteArray} (hs:s.length≤1099511627776) (hk:k.size≤4611686018427387904):D162 s k v=some (putC s k v,()):=by
 rw[E162,e132 hk,Option.bind_some]
 unfold putC
 cases h:!keyOkL k.data.toList||decide ((v.size:Int)>60) with
 | true =>
  have h3:(decide ((0+s.length)*32≤140737488355328)&&decide (0+s.length≤9223372036854775807))=true:=by rw[decide_eq_true (by omega),decide_eq_true (by omega)];rfl
  simp only[h,cond_true,h3,gd]
  rfl
 | false =>
  simp only[h,cond_false]
  exact w162 s k v hs s.length 0 (decide (v=tx [])) [] (by omega) (Nat.zero_le _)
theorem addS_cons {l : List ByteArray} {x : ByteArray} {i : Nat} (h : i < l.length) : addS (l.drop i) x = bif ltB (nth l i) x then nth l i :: addS (l.drop (i + 1)) x else bif decide (nth l i = x) then l.drop i else x :: l.drop i := by
 rw[nth_getE h,List.drop_eq_getElem_cons h]
 rfl
theorem w156 (l:List ByteArray) (x:ByteArray) (hl:l.length≤1099511627776): ∀ (n i:Nat),i+n=l.length→L156_56 l x (i:Int)=some (l.take i++addS (l.drop i) x,())
 | n, i, h => by
  have hi:i≤l.length:=by omega
  have e1:cutL l 0 i=l.take i:=by unfold cutL;rw[List.drop_zero]
  have e2:cutL l i l.length=l.drop i:=by unfold cutL;rw[List.take_length]
  have n1:(l.take i).length=i:=by rw[List.length_take];omega
  have n2:(l.drop i).length=l.length - i:=List.length_drop
  have q0:decide (0≤(i:Int))=true:=decide_eq_true (by omega)
  have q1:decide ((i:Int)≤(l.length:Int))=true:=decide_eq_true (by omega)
  have q2:(decide ((0+(l.take i).length)*16≤140737488355328)&&decide (0+(l.take i).length≤9223372036854775807))=true:=by rw[n1,decide_eq_true (by omega),decide_eq_true (by omega)];rfl
  have q3:(decide ((([]++l.take i).length+1)*16≤140737488355328)&&decide (([]++l.take i).length+1≤9223372036854775807))=true:=by rw[List.nil_append,n1,decide_eq_true (by omega),decide_eq_true (by omega)];rfl
  have q4:(decide (((([]++l.take i)++[x]).length+(l.drop i).length)*16≤140737488355328)&&decide ((([]++l.take i)++[x]).length+(l.drop i).length≤9223372036854775807))=true:=by rw[List.nil_append,List.length_append,n1,n2,List.length_singleton,decide_eq_true (by omega),decide_eq_true (by omega)];rfl
  have q5:decide ((l.length:Int)≤(l.length:Int))=true:=decide_eq_true (by omega)
  have fin:gd ((decide (0≤(0:Int)))&&((decide (0≤(i:Int)))&&(decide ((i:Int)≤(l.length:Int))))) (gd (decide ((0+(cutL l (0:Int).toNat (i:Int).toNat).length)*16≤140737488355328)&&decide (0+(cutL l (0:Int).toNat (i:Int).toNat).length≤9223372036854775807)) (gd (decide ((([]++(cutL l (0:Int).toNat (i:Int).toNat)).length+1)*16≤140737488355328)&&decide (([]++(cutL l (0:Int).toNat (i:Int).toNat)).length+1≤9223372036854775807)) (gd ((decide (0≤(i:Int)))&&((decide ((i:Int)≤(l.length:Int)))&&(decide ((l.length:Int)≤(l.length:Int))))) (gd (decide (((([]++(cutL l (0:Int).toNat (i:Int).toNat))++[x]).length+(cutL l (i:Int).toNat (l.length:Int).toNat).length)*16≤140737488355328)&&decide ((([]++(cutL l (0:Int).toNat (i:Int).toNat))++[x]).length+(cutL l (i:Int).toNat (l.length:Int).toNat).length≤9223372036854775807)) (some ((([]++(cutL l (0:Int).toNat (i:Int).toNat))++[x])++(cutL l (i:Int).toNat (l.length:Int).toNat),()))))))=some (l.take i++x::l.drop i,()):=by
   have z:decide (0≤(0:Int))=true:=rfl
   have z0:(0:Int).toNat=0:=rfl
   simp only[Int.toNat_natCast,z0,e1,e2,z,q0,q1,q2,q3,q4,q5,Bool.and_self,gd,cond_true]
   rw[List.nil_append,List.append_assoc]
   rfl
  rw[P156_56]
  by_cases hlt:i<l.length
  ·have h1:decide ((i:Int)<(l.length:Int))=true:=decide_eq_true (by omega)
   rw[addS_cons hlt]
   simp only[h1,q0,cond_true,Bool.and_self,Bool.true_and,Bool.true_or,gd,Int.toNat_natCast]
   cases hc:ltB (nth l i) x with
   | true =>
    rw[cond_true,cond_true,i64_id (by omega) (by omega)]
    refine(w156 l x hl (l.length - (i+1)) (i+1) (by omega)).trans ?_
    rw[take_nthE hlt,List.append_assoc]
    rfl
   | false =>
    rw[cond_false,cond_false,P156_15]
    simp only[h1,q0,cond_true,Bool.and_self,Bool.true_and,Bool.true_or,gd,Int.toNat_natCast]
    cases decide (nth l i=x) with
    | true=>rw[cond_true,cond_true,List.take_append_drop]
    | false =>
     rw[cond_false,cond_false]
     have:=fin
     simp only[gd,Int.toNat_natCast] at this
     exact this
  ·have h1:decide ((i:Int)<(l.length:Int))=false:=decide_eq_false (by omega)
   rw[h1,Bool.false_and,cond_false,P156_15,h1,Bool.false_and,cond_false,Bool.not_false,Bool.or_true]
   obtain rfl:i=l.length:=by omega
   refine fin.trans ?_
   rw[List.drop_length]
   rfl
termination_by n=>n
decreasing_by omega
theorem e135 {l:List ByteArray} {x:ByteArray} (hl:l.length≤1099511627000):D135 l x=some (addS l x,()):=by
 rw[E135,E156]
 have:=w156 l x (by omega) l.length 0 (by omega)
 rw[show L156_56 l x 0=some (addS l x,()) from this,Option.bind_some]
 have hn:=addS_len x l
 show gd (decide ((0+(addS l x).length)*16≤140737488355328)&&decide (0+(addS l x).length≤9223372036854775807)) _=_
 rw[decide_eq_true (by omega),decide_eq_true (by omega)]
 rfl
theorem e2310 {l:List ByteArray} {x:ByteArray} (hl:l.length≤1099511627000):D2310 l x=some (addS l x,()):=by
 rw[E2310,t2417 (by omega),Option.bind_some,addS_at]
 unfold idxI
 rw[List.drop_zero]
 cases hf:l.findIdx? fun c=>!ltB c x with
 | none =>
  show gd (decide ((l.length+1)*16≤140737488355328)&&decide (l.length+1≤9223372036854775807)) _=_
  rw[decide_eq_true (by omega),decide_eq_true (by omega)]
  rfl
 | some j =>
  obtain⟨hj,_,_⟩:=List.findIdx?_eq_some_iff_getElem.1 hf
  show(bif decide (((0+j:Nat):Int)<0) then _ else gd (decide (0≤((0+j:Nat):Int))&&decide (((0+j:Nat):Int)<(l.length:Int))) (bif decide (nth l ((0+j:Nat):Int).toNat=x) then some (l,()) else(D2419 l ((0+j:Nat):Int) [x]).bind fun y1=>some (y1.1,())))=_
  rw[decide_eq_false (by omega),cond_false,decide_eq_true (by omega),decide_eq_true (by omega),Int.toNat_natCast,Nat.zero_add,e2419 (by omega) (by omega)]
  show(bif decide (nth l j=x) then _ else _)=some (bif decide (nth l j=x) then _ else _,())
  cases decide (nth l j=x)<;>rfl
end Go.Proofs.YtapfpflmcgfbkaaGreatDoor.Ri

namespace Go.Proofs.YtapfpflmcgfbkaaGreatDoor.Ri
open Go.Proofs.YtapfpflmcgfbkaaGreatDoor.Fw
set_option linter.unusedVariables false
set_option linter.unusedSimpArgs false
set_option maxRecDepth 100000
theorem addS_iff {x z:ByteArray}: ∀ {l:List ByteArray},z∈addS l x↔z=x∨z∈l
 | []=>by show z∈[x]↔_;simp
 | y :: l => by
  unfold addS
  cases h1:ltB y x with
  | true=>rw[cond_true,List.mem_cons,addS_iff,List.mem_cons];constructor<;>(rintro (h | h | h)<;>simp[h])
  | false =>
   rw[cond_false]
   cases h2:decide (y=x) with
   | true =>
    have e:=of_decide_eq_true h2
    subst e
    rw[cond_true,List.mem_cons];constructor
    ·intro h;exact .inr h
    ·rintro (h | h)
     ·exact .inl h
     ·exact h
   | false=>rw[cond_false,List.mem_cons]
theorem lt_asym {x y:ByteArray} (h:ltB x y=true) (h':ltB y x=true):False:=by
 have:=lt_tr h h'
 rw[lt_irr] at this
 cases this
theorem Srt.ext: ∀ {l m:List ByteArray},Srt l→Srt m→(∀ z,z∈l↔z∈m)→l=m
 | [],[],_,_,_=>rfl
 | [],y::m,_,_,h=>by have:=(h y).2 List.mem_cons_self;cases this
 | x::l,[],_,_,h=>by have:=(h x).1 List.mem_cons_self;cases this
 | x :: l, y :: m, hl, hm, h => by
  obtain⟨l1,l2⟩:=List.pairwise_cons.1 hl
  obtain⟨m1,m2⟩:=List.pairwise_cons.1 hm
  have e:x=y:=by
   rcases List.mem_cons.1 ((h x).1 List.mem_cons_self) with e | e
   ·exact e
   ·rcases List.mem_cons.1 ((h y).2 List.mem_cons_self) with e' | e'
    ·exact e'.symm
    ·exact(lt_asym (m1 _ e) (l1 _ e')).elim
  subst e
  have : l = m := Srt.ext l2 m2 fun z => by
   constructor
   ·intro hz
    rcases List.mem_cons.1 ((h z).1 (List.mem_cons_of_mem _ hz)) with e | e
    ·subst e;have:=l1 _ hz;rw[lt_irr] at this;cases this
    ·exact e
   ·intro hz
    rcases List.mem_cons.1 ((h z).2 (List.mem_cons_of_mem _ hz)) with e | e
    ·subst e;have:=m1 _ hz;rw[lt_irr] at this;cases this
    ·exact e
  rw[this]
def uni (a b:List ByteArray):List ByteArray:=b.foldl addS a
theorem uni_iff {z:ByteArray}: ∀ {b a:List ByteArray},z∈uni a b↔z∈a∨z∈b
 | [],a=>by show z∈a↔_;simp
 | x :: b, a => by
  show z∈uni (addS a x) b↔_
  rw[uni_iff,addS_iff,List.mem_cons]
  constructor<;>(intro h;rcases h with h | h<;>first | simp[h] | (rcases h with h | h<;>simp[h]))
theorem Srt.uni: ∀ {b a:List ByteArray},Srt a→Srt (uni a b)
 | [],_,h=>h
 | x::b,_,h=>Srt.uni (b:=b) (h.add x)
theorem uni_add {a b:List ByteArray} {x:ByteArray} (ha:Srt a) (hb:Srt b):addS (uni a b) x=uni a (addS b x):=
 Srt.ext (ha.uni.add x) ha.uni fun z => by
  rw[addS_iff,uni_iff,uni_iff,addS_iff]
  constructor<;>(rintro (h | h | h)<;>simp[h])
theorem SpI.uni {P:ByteArray→Prop} {a b:List ByteArray} (ha:SpI P a) (hb:SpI P b):SpI P (uni a b):=⟨ha.srt.uni,fun z hz=>(uni_iff.1 hz).elim (ha.mem z) (hb.mem z)⟩
def up (T:Fw.Touch) (m:Fw.Mach):Fw.Mach:=⟨m.Store,⟨Ri.uni T.Reads m.Touch.Reads,Ri.uni T.Writes m.Touch.Writes⟩⟩
structure INV (P:ByteArray→Prop) (a:Nat) (m:Fw.Mach):Prop where
 st:StI P a m.Store
 rd:SpI P m.Touch.Reads
 wr:SpI P m.Touch.Writes
def I6 (n:Int):Prop:= -9223372036854775808≤n∧n≤9223372036854775807
structure NF (P:ByteArray→Prop) (i:Int):Prop where
 l:P (kn (tx [105,47]) i (tx [47,108]))
 s:P (kn (tx [105,47]) i (tx [47,115]))
 w:P (kn (tx [105,47]) i (tx [47])++tx [42])
 b: ∀ k:Int,0≤k→k≤200→P (kn (kn (tx [105,47]) i (tx [47,98,47])) k (tx []))
structure ND (P:ByteArray→Prop) (i:Int):Prop where
 po:P (kn (tx [112,47]) i (tx [47,111]))
 pt:P (kn (tx [112,47]) i (tx [47,116]))
 ph:P (kn (tx [112,47]) i (tx [47,104]))
 pq: ∀ k:Int,0≤k→k≤1000→P (kn (kn (tx [112,47]) i (tx [47,113,47])) k (tx []))
 rs:P (kn (tx [114,47]) i (tx [47,115]))
 rp:P (kn (tx [114,47]) i (tx [47,112]))
 rx:P (kn (tx [114,47]) i (tx [47,120]))
 rw:P (kn (tx [114,47]) i (tx [47])++tx [42])
 gt:P (kn (tx [103,47]) i (tx [47,116]))
 gh:P (kn (tx [103,47]) i (tx [47,104]))
 gq: ∀ k:Int,0≤k→k≤1000→P (kn (kn (tx [103,47]) i (tx [47,113,47])) k (tx []))
 t:P (kn (tx [116,47]) i (tx []))
 mw:P (kn (tx [109,47]) i (tx [47])++tx [42])
 mp: ∀ k:Int,0≤k→k≤3→P (kn (kn (tx [109,47]) i (tx [47])) k (tx []))
structure Nms (P:ByteArray→Prop) (a:Nat) (T:Fw.Touch):Prop where
 tr:SpI P T.Reads
 tw':SpI P T.Writes
 card: ∀ l:List ByteArray,l.Nodup→(∀ x∈l,P x)→a+l.length≤1000000000000
 siz: ∀ x,P x→x.size≤2097152
 f: ∀ i:Int,0≤i→i≤999→NF P i
 d: ∀ i:Int,0≤i→i≤999→ND P i
 cf:P (tx [99,47,102,105,108,101])
 cp:P (tx [99,47,112,105,112,101])
 cr:P (tx [99,47,112,114,111,99])
 cc:P (tx [99,47,99,108,111,99,107])
 dn:P (tx [100,47,110])
 nw:P (tx [110,47]++tx [42])
 rw:P (tx [114,47]++tx [42])
 tw:P (tx [116,47]++tx [42])
 dk: ∀ k:Int,0≤k→k≤1000→P (kn (tx [100,47]) k (tx []))
 fork: ∀ (z:ByteArray) (f t:Int),P z→I6 f→begB z (kn (tx [109,47]) f (tx [47]))=true→0≤t→t≤999→P (kn (tx [109,47]) t (tx [47])++cutS z (kn (tx [109,47]) f (tx [47])).size z.size)
section
variable {P:ByteArray→Prop} {a:Nat} {T:Fw.Touch} {m:Fw.Mach}
theorem INV.sl (h:INV P a m) (hN:Nms P a T):m.Store.length≤1000000000000:=by
 obtain⟨A,B,h1,h2,h3,h4⟩:=h.st.dec
 have:=h1.length_eq
 rw[List.length_map,List.length_append] at this
 have:=hN.card B h3 h4
 omega
theorem SpI.len {l:List ByteArray} (h:SpI P l) (hN:Nms P a T):l.length≤1000000000000:=by
 have:=hN.card l h.srt.nd h.mem
 omega
def mLook (m:Fw.Mach) (k:ByteArray):Fw.Mach:=⟨m.Store,⟨addS m.Touch.Reads k,m.Touch.Writes⟩⟩
def mLay (m:Fw.Mach) (k v:ByteArray):Fw.Mach:=⟨putC m.Store k v,⟨m.Touch.Reads,addS m.Touch.Writes k⟩⟩
theorem up_look {T:Fw.Touch} (hN:Nms P a T) (h:INV P a m) {k:ByteArray}:mLook (up T m) k=up T (mLook m k):=by
 unfold mLook up
 rw[uni_add hN.tr.srt h.rd.srt]
theorem up_lay {T:Fw.Touch} (hN:Nms P a T) (h:INV P a m) {k v:ByteArray}:mLay (up T m) k v=up T (mLay m k v):=by
 unfold mLay up
 rw[uni_add hN.tw'.srt h.wr.srt]
theorem INV.up {T:Fw.Touch} (hN:Nms P a T) (h:INV P a m):INV P a (Ri.up T m):=⟨h.st,hN.tr.uni h.rd,hN.tw'.uni h.wr⟩
theorem INV.look (h:INV P a m) {k:ByteArray} (hk:P k):INV P a (mLook m k):=⟨h.st,h.rd.add hk,h.wr⟩
theorem INV.lay (h:INV P a m) {k v:ByteArray} (hk:P k):INV P a (mLay m k v):=⟨h.st.put hk,h.rd,h.wr.add hk⟩
end
def Tw {α β:Type} (S:Option α) (I:Option β) (Q:α→β→Prop):Prop:= ∃ x y,S=some x∧I=some y∧Q x y
section
variable {α β γ δ:Type} {Q:α→β→Prop} {S:Option α} {I:Option β}
theorem tsm {x:α} {y:β} (h:Q x y):Tw (some x) (some y) Q:=⟨x,y,rfl,rfl,h⟩
theorem tgl {c:Bool} (hc:c=true) (h:Tw S I Q):Tw (gd c S) I Q:=by subst hc;exact h
theorem tgr {c:Bool} (hc:c=true) (h:Tw S I Q):Tw S (gd c I) Q:=by subst hc;exact h
theorem tbl {o:Option γ} {f:γ→Option α} {y:γ} (e:o=some y) (h:Tw (f y) I Q):Tw (o.bind f) I Q:=by rw[e];exact h
theorem tbr {o:Option γ} {f:γ→Option β} {y:γ} (e:o=some y) (h:Tw S (f y) Q):Tw S (o.bind f) Q:=by rw[e];exact h
theorem tel {S':Option α} (e:S=S') (h:Tw S' I Q):Tw S I Q:=e▸h
theorem ter {I':Option β} (e:I=I') (h:Tw S I' Q):Tw S I Q:=e▸h
theorem tif {c:Bool} {S':Option α} {I':Option β} (h1:c=true→Tw S I Q) (h2:c=false→Tw S' I' Q):Tw (bif c then S else S') (bif c then I else I') Q:=by
 cases c
 ·exact h2 rfl
 ·exact h1 rfl
theorem tbd {o:Option γ} {f:γ→Option α} {o':Option δ} {g:δ→Option β} {R:γ→δ→Prop} (h:Tw o o' R) (hk: ∀ x y,R x y→Tw (f x) (g y) Q):Tw (o.bind f) (o'.bind g) Q:=by
 obtain⟨x,y,rfl,rfl,h3⟩:=h
 exact hk x y h3
end
section
variable {α β γ δ ρ σ:Type} {P:ByteArray→Prop} {a:Nat} {T:Fw.Touch}
def T0 (P:ByteArray→Prop) (a:Nat) (T:Fw.Touch) (S I:Option (Fw.Mach×Unit)):Prop:=Tw S I fun y z=>z=(up T y.1,())∧INV P a y.1
def T1 (P:ByteArray→Prop) (a:Nat) (T:Fw.Touch) (Q:ρ→Prop) (S:Option (Fw.Mach×ρ×Unit)) (I:Option (ρ×Fw.Mach×Unit)):Prop:=Tw S I fun y z=>z=(y.2.1,up T y.1,())∧INV P a y.1∧Q y.2.1
def T2 (P:ByteArray→Prop) (a:Nat) (T:Fw.Touch) (Q:ρ→σ→Prop) (S:Option (Fw.Mach×ρ×σ×Unit)) (I:Option (ρ×σ×Fw.Mach×Unit)):Prop:=Tw S I fun y z=>z=(y.2.1,y.2.2.1,up T y.1,())∧INV P a y.1∧Q y.2.1 y.2.2.1
variable {Q:α→β→Prop}
theorem b0 {S I:Option (Fw.Mach×Unit)} {f:Fw.Mach×Unit→Option α} {g:Fw.Mach×Unit→Option β} (h:T0 P a T S I) (hk: ∀ m,INV P a m→Tw (f (m,())) (g (up T m,())) Q):Tw (S.bind f) (I.bind g) Q:=
 tbd h fun x y ⟨e,hi⟩=>by subst e;exact hk _ hi
theorem b1 {R:ρ→Prop} {S:Option (Fw.Mach×ρ×Unit)} {I:Option (ρ×Fw.Mach×Unit)} {f:Fw.Mach×ρ×Unit→Option α} {g:ρ×Fw.Mach×Unit→Option β} (h:T1 P a T R S I) (hk: ∀ m r,INV P a m→R r→Tw (f (m,r,())) (g (r,up T m,())) Q):Tw (S.bind f) (I.bind g) Q:=
 tbd h fun x y ⟨e,hi,hr⟩=>by subst e;exact hk _ _ hi hr
theorem b2 {R:ρ→σ→Prop} {S:Option (Fw.Mach×ρ×σ×Unit)} {I:Option (ρ×σ×Fw.Mach×Unit)} {f:Fw.Mach×ρ×σ×Unit→Option α} {g:ρ×σ×Fw.Mach×Unit→Option β} (h:T2 P a T R S I) (hk: ∀ m r s,INV P a m→R r s→Tw (f (m,r,s,())) (g (r,s,up T m,())) Q):Tw (S.bind f) (I.bind g) Q:=
 tbd h fun x y ⟨e,hi,hr⟩=>by subst e;exact hk _ _ _ hi hr
theorem r0 {m:Fw.Mach} (h:INV P a m):T0 P a T (some (m,())) (some (up T m,())):=tsm ⟨rfl,h⟩
theorem r1 {R:ρ→Prop} {m:Fw.Mach} {r:ρ} (h:INV P a m) (hr:R r):T1 P a T R (some (m,r,())) (some (r,up T m,())):=tsm ⟨rfl,h,hr⟩
theorem r2 {R:ρ→σ→Prop} {m:Fw.Mach} {r:ρ} {s:σ} (h:INV P a m) (hr:R r s):T2 P a T R (some (m,r,s,())) (some (r,s,up T m,())):=tsm ⟨rfl,h,hr⟩
end
def TT {ρ:Type}:ρ→Prop:=fun _=>True
def C9 (r:Int):Prop:=0≤r∧r≤999
theorem C9.i6 {r:Int} (h:C9 r):I6 r:=by unfold C9 at h;unfold I6;omega
section
variable {P:ByteArray→Prop} {a:Nat} {T:Fw.Touch} {m:Fw.Mach} (hN:Nms P a T) (h:INV P a m)
include hN h
theorem e130 {k:ByteArray} (hk:P k):D130 m k=some (mLook m k,(getK m.Store k,())):=by
 have h1:=h.sl hN
 have h2:=h.rd.len hN
 rw[E130,e135 (by omega),e104 (by omega)]
 rfl
theorem e2387 {k:ByteArray} (hk:P k):D2387 (up T m) k=some (getK m.Store k,(up T (mLook m k),())):=by
 have h1:=h.sl hN
 have h2:=(h.up hN).rd.len hN
 rw[←up_look hN h,E2387,e2310 (by omega),t2078 (show(up T m).Store.length≤_ by show m.Store.length≤_;omega)]
 rfl
theorem e131 {k v:ByteArray} (hk:P k):D131 m k v=some (mLay m k v,()):=by
 have h1:=h.sl hN
 have h2:=h.wr.len hN
 have h3:=hN.siz k hk
 rw[E131,e135 (by omega),e162 (by omega) (by omega)]
 rfl
theorem e2388 {k v:ByteArray} (hk:P k):D2388 (up T m) k v=some (up T (mLay m k v),()):=by
 have h1:=h.sl hN
 have h2:=(h.up hN).wr.len hN
 have h3:=hN.siz k hk
 rw[←up_lay hN h,E2388,e2310 (by omega),e2319 (show(up T m).Store.length≤_ by show m.Store.length≤_;omega) (by omega)]
 rfl
theorem t131 {k v:ByteArray} (hk:P k):T0 P a T (D131 m k v) (D2388 (up T m) k v):=⟨_,_,e131 hN h hk,e2388 hN h hk,rfl,h.lay hk⟩
theorem t130 {k:ByteArray} (hk:P k):T1 P a T (fun r:ByteArray=>r.size≤1048576) (D130 m k) (D2387 (up T m) k):=⟨_,_,e130 hN h hk,e2387 hN h hk,rfl,h.look hk,h.st.get k⟩
theorem t177 {p:ByteArray} (hk:P (p++tx [42])) (hp:p.size≤1000):T1 P a T (fun l:List ByteArray=>l.length≤1000000000000∧ ∀ z∈l,P z∧begB z p=true) (D177 m p) (D2491 (up T m) p):=by
 have h1:=h.sl hN
 have h2:=h.rd.len hN
 have g:decide (p.size+(tx [42]).size≤9223372036854775807)=true:=decide_eq_true (by show _+1≤_;omega)
 refine⟨(mLook m (p++tx [42]),underK m.Store p,()),_,?_,?_,rfl,h.look hk,?_,h.st.under p⟩
 ·rw[E177,g,e135 (by omega),e189 (by omega)];rfl
 ·have h4:=(h.up hN).rd.len hN
  rw[←up_look hN h,E2491,g]
  show(D2310 (up T m).Touch.Reads (p++tx [42])).bind _=_
  rw[e2310 (by omega),Option.bind_some,e2554 (show(up T m).Store.length≤_ by show m.Store.length≤_;omega)]
  rfl
 ·have:=underK_len m.Store p
  show(underK m.Store p).length≤_
  omega
theorem e88 {k:ByteArray} (hk:P k):D88 m k=some (mLook m k,(numP (getK m.Store k),())):=by
 rw[E88,e130 hN h hk,Option.bind_some,e111]
 rfl
theorem e2295 {k:ByteArray} (hk:P k):D2295 (up T m) k=some (numP (getK m.Store k),(up T (mLook m k),())):=by
 have h3:=h.st.get k
 rw[E2295,e2387 hN h hk,Option.bind_some,e2311 (by show(getK m.Store k).size≤_;omega)]
 rfl
theorem t88 {k:ByteArray} (hk:P k):T1 P a T C9 (D88 m k) (D2295 (up T m) k):=⟨_,_,e88 hN h hk,e2295 hN h hk,rfl,h.look hk,numP_in _⟩
theorem t90 {k:ByteArray} {n:Int} (hk:P k) (hn:I6 n):T0 P a T (D90 m k n) (D2297 (up T m) k n):=by
 unfold T0
 rw[E90,E2297,E27,E2090]
 refine tbl rfl (tbr rfl ?_)
 show Tw (bif !(decide (n≥1)&&decide (n≤999)) then _ else _) (bif decide (n≥1)&&decide (n≤999) then _ else _) _
 cases decide (n≥1)&&decide (n≤999) with
 | false =>
  rw[Bool.not_false,cond_true,cond_false,P2297_7]
  exact b0 (t131 hN h hk) fun m1 h1=>r0 h1
 | true =>
  rw[Bool.not_true,cond_false,cond_true]
  refine tbl (e122 hn.1 hn.2) (tbr (e2080 n) ?_)
  rw[P2297_7]
  exact b0 (t131 hN h hk) fun m1 h1=>r0 h1
theorem e2297 {k:ByteArray} {n:Int} (hk:P k) (h1:1≤n) (h2:n≤999):D2297 (up T m) k n=some (up T (mLay m k (itoaS n)),()):=by
 rw[E2297,E2090,Option.bind_some]
 show(bif decide (n≥1)&&decide (n≤999) then _ else _)=_
 rw[decide_eq_true h1,decide_eq_true h2,e2080]
 show L2297_7 k (itoaS n) (up T m).Store (up T m).Touch.Reads (up T m).Touch.Writes=_
 rw[P2297_7]
 show((D2388 (up T m) k (itoaS n)).bind fun y=>some (y.1,()))=_
 rw[e2388 hN h hk]
 rfl
theorem t89 {k:ByteArray} (hk:P k):T1 P a T C9 (D89 m k) (D2296 (up T m) k):=by
 unfold T1
 rw[E89,E2296]
 refine tbl (e130 hN h hk) (tbl (e111 _) (tbr (e2295 hN h hk) ?_))
 have hr:=numP_in (getK m.Store k)
 have e1:IntKind.wrap .i64 (numP (getK m.Store k)+1)=numP (getK m.Store k)+1:=i64_id (by omega) (by omega)
 show Tw (bif decide (IntKind.wrap .i64 (numP (getK m.Store k)+1)>999) then _ else(D122 (IntKind.wrap .i64 (numP (getK m.Store k)+1))).bind fun y2=>(D131 (mLook m k) k y2.1).bind fun y3=>some (y3.1,(IntKind.wrap .i64 (numP (getK m.Store k)+1),()))) (bif decide (IntKind.wrap .i64 (numP (getK m.Store k)+1)>999) then _ else(D2297 (up T (mLook m k)) k (IntKind.wrap .i64 (numP (getK m.Store k)+1))).bind fun y1=>some (IntKind.wrap .i64 (numP (getK m.Store k)+1),(y1.1,()))) _
 rw[e1]
 refine tif (fun _=>r1 (h.look hk) ⟨Int.le_refl _,by decide⟩) fun hc=>?_
 have hc:=of_decide_eq_false hc
 refine tbl (e122 (by omega) (by omega)) (tbl (e131 hN (h.look hk) hk) (tbr (e2297 hN (h.look hk) hk (by omega) (by omega)) ?_))
 exact r1 ((h.look hk).lay hk) ⟨by omega,by omega⟩
end
end Go.Proofs.YtapfpflmcgfbkaaGreatDoor.Ri

namespace Go.Proofs.YtapfpflmcgfbkaaGreatDoor.Ri
open Go.Proofs.YtapfpflmcgfbkaaGreatDoor.Fw
set_option linter.unusedVariables false
set_option linter.unusedSimpArgs false
set_option linter.unusedSectionVars false
set_option maxRecDepth 100000
theorem nth_memE {α:Type} [Inhabited α] {l:List α} {i:Nat} (h:i<l.length):nth l i∈l:=by rw[nth_getE h];exact List.getElem_mem h
def C9a (i:Int) (_:Int):Prop:=C9 i
theorem c90:C9 0:=⟨Int.le_refl _,by decide⟩
theorem c90a {c:Int}:C9a 0 c:=c90
theorem cutS_len (s:ByteArray) (i j:Nat):(cutS s i j).size≤s.size:=by unfold cutS;rw[ByteArray.size_extract];omega
section
variable {n k:Int} {t:ByteArray} (h:I6 n)
include h
theorem e172 (ht:t.size≤1000):D172 n t=some (kn (tx [112,47]) n t,()):=by rw[E172,e112 h.1 h.2 (by decide) ht];rfl
theorem e2495 (ht:t.size≤1000):D2495 n t=some (kn (tx [112,47]) n t,()):=by rw[E2495,e2181 h.1 h.2 (by decide) ht];rfl
theorem e91 (ht:t.size≤1000):D91 n t=some (kn (tx [114,47]) n t,()):=by rw[E91,e112 h.1 h.2 (by decide) ht];rfl
theorem e2079 (ht:t.size≤1000):D2079 n t=some (kn (tx [114,47]) n t,()):=by rw[E2079,e2181 h.1 h.2 (by decide) ht];rfl
theorem e175 (ht:t.size≤1000):D175 n t=some (kn (tx [103,47]) n t,()):=by rw[E175,e112 h.1 h.2 (by decide) ht];rfl
theorem e2500 (ht:t.size≤1000):D2500 n t=some (kn (tx [103,47]) n t,()):=by rw[E2500,e2181 h.1 h.2 (by decide) ht];rfl
theorem e178:D178 n=some (kn (tx [109,47]) n (tx [47]),()):=by rw[E178,e112 h.1 h.2 (by decide) (by decide)];rfl
theorem e2498:D2498 n=some (kn (tx [109,47]) n (tx [47]),()):=by rw[E2498,e2181 h.1 h.2 (by decide) (by decide)];rfl
theorem e2489:D2489 n=some (kn (tx [105,47]) n (tx [47,108]),()):=by rw[E2489,e2181 h.1 h.2 (by decide) (by decide)];rfl
theorem e2555:D2555 n=some (kn (tx [105,47]) n (tx [47,115]),()):=by rw[E2555,e2181 h.1 h.2 (by decide) (by decide)];rfl
theorem kn_le {x:ByteArray} (hx:x.size≤100) (ht:t.size≤100):(kn x n t).size≤1000:=by
 have:=kn_size (h:=x) (t:=t) h.1 h.2
 omega
variable (hk:I6 k)
include hk
theorem e112q:D112 (kn (tx [112,47]) n (tx [47,113,47])) k (tx [])=some (kn (kn (tx [112,47]) n (tx [47,113,47])) k (tx []),()):=e112 hk.1 hk.2 (kn_le h (by decide) (by decide)) (by decide)
theorem e2181q:D2181 (kn (tx [112,47]) n (tx [47,113,47])) k (tx [])=some (kn (kn (tx [112,47]) n (tx [47,113,47])) k (tx []),()):=e2181 hk.1 hk.2 (kn_le h (by decide) (by decide)) (by decide)
theorem e174:D174 n k=some (kn (kn (tx [112,47]) n (tx [47,113,47])) k (tx []),()):=by rw[E174,e172 h (by decide),Option.bind_some,e112q h hk];rfl
theorem e2181g:D2181 (kn (tx [103,47]) n (tx [47,113,47])) k (tx [])=some (kn (kn (tx [103,47]) n (tx [47,113,47])) k (tx []),()):=e2181 hk.1 hk.2 (kn_le h (by decide) (by decide)) (by decide)
theorem e176:D176 n k=some (kn (kn (tx [103,47]) n (tx [47,113,47])) k (tx []),()):=by rw[E176,e175 h (by decide),Option.bind_some,e112 hk.1 hk.2 (kn_le h (by decide) (by decide)) (by decide)];rfl
theorem e112m:D112 (kn (tx [109,47]) n (tx [47])) k (tx [])=some (kn (kn (tx [109,47]) n (tx [47])) k (tx []),()):=e112 hk.1 hk.2 (kn_le h (by decide) (by decide)) (by decide)
theorem e2181m:D2181 (kn (tx [109,47]) n (tx [47])) k (tx [])=some (kn (kn (tx [109,47]) n (tx [47])) k (tx []),()):=e2181 hk.1 hk.2 (kn_le h (by decide) (by decide)) (by decide)
theorem e188:D188 n k=some (kn (kn (tx [105,47]) n (tx [47,98,47])) k (tx []),()):=by rw[E188,e112 h.1 h.2 (by decide) (by decide),Option.bind_some,e112 hk.1 hk.2 (kn_le h (by decide) (by decide)) (by decide)];rfl
theorem e2557:D2557 n k=some (kn (kn (tx [105,47]) n (tx [47,98,47])) k (tx []),()):=by rw[E2557,e2181 h.1 h.2 (by decide) (by decide),Option.bind_some,e2181 hk.1 hk.2 (kn_le h (by decide) (by decide)) (by decide)];rfl
end
theorem i6_wrap (n:Int):I6 (IntKind.wrap .i64 n):=by
 exact I64_wrap n
def nmB (b:UInt8):Bool:=!((((!((decide (((b.toNat:Nat):Int)≥97))&&(decide (((b.toNat:Nat):Int)≤122))))&&(!((decide (((b.toNat:Nat):Int)≥48))&&(decide (((b.toNat:Nat):Int)≤57)))))&&(!(decide (((b.toNat:Nat):Int)=46))))&&(!(decide (((b.toNat:Nat):Int)=45))))
def nlB (x:ByteArray):Bool:=decide ((x.size:Int)≥1)&&decide ((x.size:Int)≤12)
def nameB (x:ByteArray):Bool:=(sbytes x).all nmB&&nlB x
theorem wr8 (b:UInt8):IntKind.wrap .i64 (b.toNat:Int)=(b.toNat:Int):=by
 have:=b.toNat_lt
 exact i64_id (by omega) (by omega)
theorem w165 (s:ByteArray) (hs:s.size≤4611686018427387904): ∀ (n i:Nat),i+n=s.size→L165_52 s (i:Int)=some (((sbytes s).drop i).all nmB&&nlB s,())
 | 0, i, h => by
  rw[P165_52,decide_eq_false (show ¬ ((i:Int)<(s.size:Int)) by omega),cond_false,P165_7,E27,List.drop_eq_nil_of_le (by rw[sbytes_lenE];omega)]
  rfl
 | n + 1, i, h => by
  have h1:decide ((i:Int)<(s.size:Int))=true:=decide_eq_true (by omega)
  have h2:decide (0≤(i:Int))=true:=decide_eq_true (by omega)
  have ih:=w165 s hs n (i+1) (by omega)
  rw[P165_52]
  simp only[h1,h2,cond_true,Bool.and_self,gd,Int.toNat_natCast,E27,Option.bind_some,wr8]
  rw[drop_atE s (by omega),List.all_cons,i64_id (n:=(i:Int)+1) (by omega) (by omega)]
  unfold nmB
  cases(decide (((byteAt s i).toNat:Int)≥97))&&(decide (((byteAt s i).toNat:Int)≤122)) with
  | true =>
   simp only[Bool.not_true,cond_false,Bool.false_and,Bool.not_false,Bool.true_and]
   exact ih
  | false =>
   simp only[Bool.not_false,cond_true,Bool.true_and]
   cases((!((decide (((byteAt s i).toNat:Int)≥48))&&(decide (((byteAt s i).toNat:Int)≤57))))&&(!(decide (((byteAt s i).toNat:Int)=46))))&&(!(decide (((byteAt s i).toNat:Int)=45))) with
   | true=>rfl
   | false =>
    simp only[cond_false,Bool.not_false,Bool.true_and]
    exact ih
theorem e165 {x:ByteArray} (h:x.size≤4611686018427387904):D165 x=some (nameB x,()):=by
 rw[E165]
 exact w165 x h x.size 0 (by omega)
theorem w2486 (s:ByteArray) (hs:s.size≤4611686018427387904): ∀ (n i:Nat),i+n=s.size→L2486_52 s (s.size:Int) (i:Int)=some (((sbytes s).drop i).all nmB&&nlB s,())
 | 0, i, h => by
  rw[P2486_52,decide_eq_false (show ¬ ((i:Int)<(s.size:Int)) by omega),cond_false,P2486_7,E2090,List.drop_eq_nil_of_le (by rw[sbytes_lenE];omega)]
  rfl
 | n + 1, i, h => by
  have h1:decide ((i:Int)<(s.size:Int))=true:=decide_eq_true (by omega)
  have h2:decide (0≤(i:Int))=true:=decide_eq_true (by omega)
  have ih:=w2486 s hs n (i+1) (by omega)
  rw[P2486_52]
  simp only[h1,h2,cond_true,Bool.and_self,gd,Int.toNat_natCast]
  rw[drop_atE s (by omega),List.all_cons,i64_id (n:=(i:Int)+1) (by omega) (by omega)]
  unfold nmB
  cases(((!((decide (((byteAt s i).toNat:Int)≥97))&&(decide (((byteAt s i).toNat:Int)≤122))))&&(!((decide (((byteAt s i).toNat:Int)≥48))&&(decide (((byteAt s i).toNat:Int)≤57)))))&&(!(decide (((byteAt s i).toNat:Int)=46))))&&(!(decide (((byteAt s i).toNat:Int)=45))) with
  | true=>rfl
  | false =>
   simp only[cond_false,Bool.not_false,Bool.true_and]
   exact ih
theorem e2486 {x:ByteArray} (h:x.size≤4611686018427387904):D2486 x=some (nameB x,()):=by
 rw[E2486]
 exact w2486 x h x.size 0 (by omega)
def NN (P:ByteArray→Prop) (n:ByteArray):Prop:=n.size≤2097152∧(nameB n=true→P (tx [110,47]++n))
theorem g2 {x:ByteArray} (h:x.size≤2097152):decide ((tx [110,47]).size+x.size≤9223372036854775807)=true:=decide_eq_true (by show 2+_≤_;omega)
theorem e2488 {x:ByteArray} (h:x.size≤2097152):D2488 x=some (tx [110,47]++x,()):=by rw[E2488,g2 h];rfl
section
variable {P:ByteArray→Prop} {a:Nat} {T:Fw.Touch} {m:Fw.Mach} (hN:Nms P a T) (h:INV P a m)
include hN h
theorem t166 {n:ByteArray} (hn:NN P n):T1 P a T C9 (D166 m n) (D2487 (up T m) n):=by
 have hs:=hn.1
 unfold T1
 rw[E166,E2487]
 refine tbl (e165 (by omega)) (tbr (e2486 (by omega)) (tif (fun _=>r1 h ⟨Int.le_refl _,by decide⟩) fun hc=>?_))
 have hc:nameB n=true:=by simpa using hc
 refine tgl (g2 hs) (tbr (e2488 hs) (b1 (t88 hN h (hn.2 hc)) fun m1 r h1 hr=>r1 h1 hr))
theorem t138 {n:ByteArray} (hn:NN P n):T2 P a T C9a (D138 m n) (D2396 (up T m) n):=by
 have hs:=hn.1
 unfold T2
 rw[E138,E2396]
 refine tbl (e165 (by omega)) (tbr (e2486 (by omega)) (tif (fun _=>r2 h c90a) fun hc=>?_))
 have hc:nameB n=true:=by simpa using hc
 refine b1 (t166 hN h hn) fun m1 i h1 _=>tif (fun _=>r2 h1 c90a) fun _=>?_
 refine b1 (t88 hN h1 hN.cf) fun m2 c h2 _=>tif (fun _=>r2 h2 c90a) fun _=>?_
 refine b1 (t89 hN h2 hN.cf) fun m3 i h3 hi=>tgl (g2 hs) (tbr (e2488 hs) ?_)
 refine b0 (t90 hN h3 (hn.2 hc) hi.i6) fun m4 h4=>?_
 refine tbl (e112 hi.i6.1 hi.i6.2 (by decide) (by decide)) (tbr (e2489 hi.i6) ?_)
 exact b0 (t90 hN h4 (hN.f i hi.1 hi.2).l ⟨by decide,by decide⟩) fun m5 h5=>r2 h5 hi
theorem t139 {n t:ByteArray} (hn:NN P n) (ht:NN P t):T1 P a T (TT:Int→Prop) (D139 m n t) (D2397 (up T m) n t):=by
 have hs:=hn.1
 have hs':=ht.1
 unfold T1
 rw[E139,E2397]
 refine tbl (e165 (by omega)) (tbr (e2486 (by omega)) (tif (fun hc=>?_) fun _=>r1 h trivial))
 refine tbl (e165 (by omega)) (tbr (e2486 (by omega)) (tif (fun _=>r1 h trivial) fun hc'=>?_))
 have hc':nameB t=true:=by simpa using hc'
 refine b1 (t166 hN h hn) fun m1 i h1 hi=>tif (fun _=>r1 h1 trivial) fun _=>?_
 refine b1 (t166 hN h1 ht) fun m2 o h2 _=>tif (fun _=>r1 h2 trivial) fun _=>?_
 refine tbl (e112 hi.i6.1 hi.i6.2 (by decide) (by decide)) (tbr (e2489 hi.i6) ?_)
 refine b1 (t88 hN h2 (hN.f i hi.1 hi.2).l) fun m3 c h3 _=>tif (fun _=>r1 h3 trivial) fun _=>?_
 refine tgl (g2 hs') (tbr (e2488 hs') ?_)
 refine b0 (t90 hN h3 (ht.2 hc') hi.i6) fun m4 h4=>?_
 refine tbl (e112 hi.i6.1 hi.i6.2 (by decide) (by decide)) (tbr (e2489 hi.i6) ?_)
 exact b0 (t90 hN h4 (hN.f i hi.1 hi.2).l (i6_wrap _)) fun m5 h5=>r1 h5 trivial
theorem w167 {l:List ByteArray} (hl:l.length≤1000000000000) (hp: ∀ z∈l,P z): ∀ (n i:Nat) (m:Fw.Mach),i+n=l.length→INV P a m→T0 P a T (L167_116 (i:Int) m.Store m.Touch.Reads m.Touch.Writes l) (L2490_12 (l.length:Int) (i:Int) (up T m).Store (up T m).Touch.Reads (up T m).Touch.Writes l)
 | 0, i, m, hn, hm => by
  rw[P167_116,P2490_12,decide_eq_false (show ¬ ((i:Int)<(l.length:Int)) by omega),cond_false,cond_false,P167_15]
  exact r0 hm
 | n + 1, i, m, hn, hm => by
  have h1:decide ((i:Int)<(l.length:Int))=true:=decide_eq_true (by omega)
  have h2:decide (0≤(i:Int))=true:=decide_eq_true (by omega)
  rw[P167_116,P2490_12]
  simp only[h1,h2,cond_true,Bool.and_self,gd,Int.toNat_natCast]
  refine b0 (t131 hN hm (hp _ (nth_memE (by omega)))) fun m1 hm1=>?_
  rw[i64_id (by omega) (by omega)]
  exact w167 hl hp n (i+1) m1 (by omega) hm1
theorem t167 {p:ByteArray} (hk:P (p++tx [42])) (hp:p.size≤1000):T0 P a T (D167 m p) (D2490 (up T m) p):=by
 unfold T0
 rw[E167,E2490]
 exact b1 (t177 hN h hk hp) fun m1 l h1 hl=>w167 hN h hl.1 (fun z hz=>(hl.2 z hz).1) l.length 0 m1 (by omega) h1
theorem t140 {n:ByteArray} (hn:NN P n):T1 P a T (TT:Int→Prop) (D140 m n) (D2398 (up T m) n):=by
 have hs:=hn.1
 unfold T1
 rw[E140,E2398]
 refine tbl (e165 (by omega)) (tbr (e2486 (by omega)) (tif (fun _=>r1 h trivial) fun hc=>?_))
 have hc:nameB n=true:=by simpa using hc
 refine b1 (t166 hN h hn) fun m1 i h1 hi=>tif (fun _=>r1 h1 trivial) fun _=>?_
 refine tgl (g2 hs) (tbr (e2488 hs) (b0 (t131 hN h1 (hn.2 hc)) fun m2 h2=>?_))
 refine tbl (e112 hi.i6.1 hi.i6.2 (by decide) (by decide)) (tbr (e2489 hi.i6) ?_)
 refine b1 (t88 hN h2 (hN.f i hi.1 hi.2).l) fun m3 c h3 _=>tif (fun _=>?_) fun _=>?_
 ·refine tbl (e112 hi.i6.1 hi.i6.2 (by decide) (by decide)) (tbr (e2489 hi.i6) ?_)
  exact b0 (t90 hN h3 (hN.f i hi.1 hi.2).l (i6_wrap _)) fun m4 h4=>ter (P2398_127 _ _ _) (r1 h4 trivial)
 ·refine tbl (e112 hi.i6.1 hi.i6.2 (by decide) (by decide)) (tbr (e2181 hi.i6.1 hi.i6.2 (by decide) (by decide)) ?_)
  exact b0 (t167 hN h3 (hN.f i hi.1 hi.2).w (kn_le hi.i6 (by decide) (by decide))) fun m4 h4=>ter (P2398_127 _ _ _) (r1 h4 trivial)
theorem t141 {n t:ByteArray} (hn:NN P n) (ht:NN P t):T1 P a T (TT:Int→Prop) (D141 m n t) (D2399 (up T m) n t):=by
 have hs:=hn.1
 have hs':=ht.1
 unfold T1
 rw[E141,E2399]
 refine tbl (e165 (by omega)) (tbr (e2486 (by omega)) (tif (fun hc=>?_) fun _=>r1 h trivial))
 have hc:nameB n=true:=by simpa using hc
 refine tbl (e165 (by omega)) (tbr (e2486 (by omega)) (tif (fun _=>r1 h trivial) fun hc'=>?_))
 have hc':nameB t=true:=by simpa using hc'
 refine b1 (t166 hN h hn) fun m1 i h1 hi=>tif (fun _=>r1 h1 trivial) fun _=>?_
 have fin : ∀ m, INV P a m → T1 P a T (TT : Int → Prop) (L141_255 n t i m.Store m.Touch.Reads m.Touch.Writes) (L2399_63 n t i (up T m).Store (up T m).Touch.Reads (up T m).Touch.Writes) := fun m hm => by
  rw[P141_255,P2399_63]
  refine tgl (g2 hs') (tbr (e2488 hs') (b0 (t90 hN hm (ht.2 hc') hi.i6) fun m1 hm1=>?_))
  exact tgl (g2 hs) (tbr (e2488 hs) (b0 (t131 hN hm1 (hn.2 hc)) fun m2 hm2=>r1 hm2 trivial))
 refine b1 (t166 hN h1 ht) fun m2 o h2 _=>tif (fun _=>r1 h2 trivial) fun _=>tif (fun _=>?_) fun _=>fin m2 h2
 exact b1 (t140 hN h2 ht) fun m3 _ h3 _=>fin m3 h3
def NL (l:List ByteArray):Prop:=l.length≤1000000000000∧ ∀ z∈l,z.size≤2097152
end
section
variable {P:ByteArray→Prop} {a:Nat} {T:Fw.Touch} {m:Fw.Mach} (hN:Nms P a T) (h:INV P a m)
include hN h
theorem w168 {l:List ByteArray} (hl:l.length≤1000000000000) (hp: ∀ z∈l,P z∧begB z (tx [110,47])=true): ∀ (n i:Nat) (o:List ByteArray),i+n=l.length→o.length≤i→(∀ z∈o,z.size≤2097152)→T1 P a T NL (L168_244 (i:Int) m.Store m.Touch.Reads m.Touch.Writes l o) (L2400_116b (l.length:Int) (i:Int) (up T m).Store (up T m).Touch.Reads (up T m).Touch.Writes o l)
 | 0, i, o, hn, ho, hz => by
  rw[P168_244,P2400_116b,decide_eq_false (show ¬ ((i:Int)<(l.length:Int)) by omega),cond_false,cond_false,P168_31,P2400_15b]
  exact r1 h ⟨by omega,hz⟩
 | n + 1, i, o, hn, ho, hz => by
  have h1:decide ((i:Int)<(l.length:Int))=true:=decide_eq_true (by omega)
  have h2:decide (0≤(i:Int))=true:=decide_eq_true (by omega)
  obtain⟨hp1,hp2⟩:=hp _ (nth_memE (show i<l.length by omega))
  have hz1:=begB_size hp2
  have hz1:2≤(nth l i).size:=hz1
  have hz2:=hN.siz _ hp1
  have h3:(decide (0≤(2:Int))&&(decide ((2:Int)≤((nth l i).size:Int))&&decide (((nth l i).size:Int)≤((nth l i).size:Int))))=true:=by rw[decide_eq_true (by omega),decide_eq_true (by omega),decide_eq_true (by omega)];rfl
  have h4:(decide ((o.length+1)*16≤140737488355328)&&decide (o.length+1≤9223372036854775807))=true:=by rw[decide_eq_true (by omega),decide_eq_true (by omega)];rfl
  rw[P168_244,P2400_116b]
  simp only[h1,h2,cond_true,Bool.and_self,Int.toNat_natCast,h4]
  refine tgl rfl (tgl h3 (tgl rfl (tgr rfl (tgr h3 (tgr rfl ?_)))))
  rw[i64_id (by omega) (by omega)]
  refine w168 hl hp n (i+1) _ (by omega) (by rw[List.length_append,List.length_singleton];omega) fun z hm=>?_
  rcases List.mem_append.1 hm with hm | hm
  ·exact hz z hm
  ·rw[List.mem_singleton.1 hm]
   exact Nat.le_trans (cutS_len _ _ _) hz2
theorem w168a {l:List ByteArray} (hl:l.length≤1000000000000) (hp: ∀ z∈l,P z∧begB z (tx [110,47])=true):T1 P a T NL (L168_244 0 m.Store m.Touch.Reads m.Touch.Writes l []) (L2400_116 (l.length:Int) 0 (up T m).Store (up T m).Touch.Reads (up T m).Touch.Writes l):=by
 cases hc:l with
 | nil =>
  rw[P168_244,P2400_116]
  exact tel (P168_31 _ _ _ _) (ter (P2400_15 _ _ _) (r1 h ⟨Nat.zero_le _,fun z hz=>by cases hz⟩))
 | cons z0 l0 =>
  rw[←hc]
  have hlen:l.length=l0.length+1:=by rw[hc];rfl
  have h1:decide ((0:Int)<(l.length:Int))=true:=decide_eq_true (by omega)
  obtain⟨hp1,hp2⟩:=hp _ (nth_memE (show 0<l.length by omega))
  have hz1:=begB_size hp2
  have hz1:2≤(nth l 0).size:=hz1
  have hz2:=hN.siz _ hp1
  have h3:(decide (0≤(2:Int))&&(decide ((2:Int)≤((nth l 0).size:Int))&&decide (((nth l 0).size:Int)≤((nth l 0).size:Int))))=true:=by rw[decide_eq_true (by omega),decide_eq_true (by omega),decide_eq_true (by omega)];rfl
  rw[P168_244,P2400_116]
  simp only[h1,cond_true,Bool.and_self]
  refine tgl rfl (tgl h3 (tgl rfl (tgr rfl (tgr h3 (tgr rfl ?_)))))
  refine w168 hN h hl hp (l.length - 1) 1 _ (by omega) (by show 1≤1;omega) fun z hm=>?_
  rw[List.mem_singleton.1 hm]
  exact Nat.le_trans (cutS_len _ _ _) hz2
theorem t168:T1 P a T NL (D168 m) (D2400 (up T m)):=by
 unfold T1
 rw[E168,E2400]
 exact b1 (t177 hN h hN.nw (by decide)) fun m1 l h1 hl=>w168a hN h1 hl.1 hl.2
end
end Go.Proofs.YtapfpflmcgfbkaaGreatDoor.Ri

namespace Go.Proofs
open Go.Shelf
def Tryz.laysM171_ren:Go.Shelf.Ren:=⟨fun | 171=>166 | 243=>182 | 246=>246 | 283=>309 | 284=>310 | 285=>311 | 286=>312 | 129=>245 | 317=>330 | 318=>331 | 319=>332 | 320=>333 | 337=>339 | 338=>340 | n=>n,fun | 3=>3 | 9=>9 | 2=>2 | 4=>4 | 171=>320 | 0=>0 | 53=>285 | 37=>174 | 5=>5 | 173=>322 | 212=>333 | 51=>283 | 20=>20 | 213=>334 | 46=>234 | 232=>340 | 233=>341 | n=>n,fun | 17=>0 | 18=>1 | 19=>2 | n=>n⟩
theorem Tryz.laysM171:Go.Proofs.LaysM.n171 Tryz.prog Tryz.laysM171_ren:={
 mixed:=by kernel_rfl
 f129:=Tryz.func245.trans (congrArg some (by kernel_rfl))
 f171:=Tryz.func166.trans (congrArg some (by kernel_rfl))
 f243:=Tryz.func182.trans (congrArg some (by kernel_rfl))
 f246:=Tryz.func246.trans (congrArg some (by kernel_rfl))
 f283:=Tryz.func309.trans (congrArg some (by kernel_rfl))
 f284:=Tryz.func310.trans (congrArg some (by kernel_rfl))
 f285:=Tryz.func311.trans (congrArg some (by kernel_rfl))
 f286:=Tryz.func312.trans (congrArg some (by kernel_rfl))
 f317:=Tryz.func330.trans (congrArg some (by kernel_rfl))
 f318:=Tryz.func331.trans (congrArg some (by kernel_rfl))
 f319:=Tryz.func332.trans (congrArg some (by kernel_rfl))
 f320:=Tryz.func333.trans (congrArg some (by kernel_rfl))
 f337:=Tryz.func339.trans (congrArg some (by kernel_rfl))
 f338:=Tryz.func340.trans (congrArg some (by kernel_rfl))
 t0:=Tryz.underlying0
 a0:=Tryz.isAgg0
 z0:=Tryz.sizeOf0
 v0:=Tryz.zeroValue0
 t2:=Tryz.underlying2
 a2:=Tryz.isAgg2
 z2:=Tryz.sizeOf2
 v2:=Tryz.zeroValue2
 t3:=Tryz.underlying3
 a3:=Tryz.isAgg3
 z3:=Tryz.sizeOf3
 v3:=Tryz.zeroValue3
 t4:=Tryz.underlying4
 a4:=Tryz.isAgg4
 z4:=Tryz.sizeOf4
 v4:=Tryz.zeroValue4
 t5:=Tryz.underlying5
 a5:=Tryz.isAgg5
 z5:=Tryz.sizeOf5
 v5:=Tryz.zeroValue5
 t9:=Tryz.underlying9
 a9:=Tryz.isAgg9
 z9:=Tryz.sizeOf9
 v9:=Tryz.zeroValue9
 t20:=Tryz.underlying20
 a20:=Tryz.isAgg20
 z20:=Tryz.sizeOf20
 v20:=Tryz.zeroValue20
 t37:=Tryz.underlying174
 a37:=Tryz.isAgg174
 z37:=Tryz.sizeOf174
 v37:=Tryz.zeroValue174
 t46:=Tryz.underlying234
 a46:=Tryz.isAgg234
 z46:=Tryz.sizeOf234
 v46:=Tryz.zeroValue234
 t51:=Tryz.underlying283
 a51:=Tryz.isAgg283
 z51:=Tryz.sizeOf283
 v51:=Tryz.zeroValue283
 t53:=Tryz.underlying285
 a53:=Tryz.isAgg285
 z53:=Tryz.sizeOf285
 v53:=Tryz.zeroValue285
 t171:=Tryz.underlying320
 a171:=Tryz.isAgg320
 z171:=Tryz.sizeOf320
 v171:=Tryz.zeroValue320
 t173:=Tryz.underlying322
 a173:=Tryz.isAgg322
 z173:=Tryz.sizeOf322
 v173:=Tryz.zeroValue322
 t212:=Tryz.underlying333
 a212:=Tryz.isAgg333
 z212:=Tryz.sizeOf333
 v212:=Tryz.zeroValue333
 t213:=Tryz.underlying334
 a213:=Tryz.isAgg334
 z213:=Tryz.sizeOf334
 t232:=Tryz.underlying340
 a232:=Tryz.isAgg340
 z232:=Tryz.sizeOf340
 v232:=Tryz.zeroValue340
 t233:=Tryz.underlying341
 a233:=Tryz.isAgg341
 z233:=Tryz.sizeOf341
 v233:=Tryz.zeroValue341
 g17:=by kernel_rfl
 g18:=by kernel_rfl
 g19:=by kernel_rfl
 i0:=by kernel_rfl
 i2:=by kernel_rfl
 i3:=by kernel_rfl
 i4:=by kernel_rfl
 i5:=by kernel_rfl
 i9:=by kernel_rfl
 i20:=by kernel_rfl
 i37:=by kernel_rfl
 i46:=by kernel_rfl
 i51:=by kernel_rfl
 i53:=by kernel_rfl
 i171:=by kernel_rfl
 i173:=by kernel_rfl
 i212:=by kernel_rfl
 i232:=by kernel_rfl
 i233:=by kernel_rfl
 m17:=by kernel_rfl
 m18:=by kernel_rfl
 m19:=by kernel_rfl }
open Go.RowKit Go.Sort Go.Lib in
theorem Tryz.strconv_Itoa (n:Int) (h0: -9223372036854775808≤n) (h1:n≤9223372036854775807) (w:World) (htab:Lib.TabIs Tryz.prog w "internal/strconv.uint64pow10" .u64 Lib.pow10Tab):
  Calls Tryz.prog 166 #[.int .i64 n] w fun e w'=>e= .returned (.string ⟨(Lib.itoa n).toArray⟩)∧ ∃ k os,w'=grow (w.drewN k) os:=Any.strconv_Itoa Tryz.laysM171 n h0 h1 w htab
def Tryz.laysC172_ren:Go.Shelf.Ren:=⟨fun | 172=>338 | 244=>345 | 245=>346 | 247=>350 | 279=>351 | 280=>352 | 281=>353 | 282=>354 | 287=>356 | 316=>357 | 171=>166 | 205=>358 | 321=>359 | 322=>360 | 243=>182 | 246=>246 | 283=>309 | 284=>310 | 285=>311 | 286=>312 | 129=>245 | 317=>330 | 318=>331 | 319=>332 | 320=>333 | 337=>339 | 338=>340 | n=>n,fun | 9=>9 | 3=>3 | 75=>199 | 76=>200 | 4=>4 | 5=>5 | 167=>343 | 37=>174 | 0=>0 | 85=>344 | 2=>2 | 168=>346 | 53=>285 | 175=>350 | 46=>234 | 210=>353 | 127=>223 | 145=>358 | 143=>356 | 21=>21 | 171=>320 | 173=>322 | 212=>333 | 51=>283 | 20=>20 | 213=>334 | 232=>340 | 233=>341 | 80=>204 | n=>n,fun | 15=>4 | 16=>5 | 17=>0 | 18=>1 | 19=>2 | n=>n⟩
theorem Tryz.laysC172:Go.Proofs.LaysC.n172 Tryz.prog Tryz.laysC172_ren:={
 mixed:=by kernel_rfl
 f129:=Tryz.func245.trans (congrArg some (by kernel_rfl))
 f171:=Tryz.func166.trans (congrArg some (by kernel_rfl))
 f172:=Tryz.func338.trans (congrArg some (by kernel_rfl))
 f205:=Tryz.func358.trans (congrArg some (by kernel_rfl))
 f243:=Tryz.func182.trans (congrArg some (by kernel_rfl))
 f244:=Tryz.func345.trans (congrArg some (by kernel_rfl))
 f245:=Tryz.func346.trans (congrArg some (by kernel_rfl))
 f246:=Tryz.func246.trans (congrArg some (by kernel_rfl))
 f247:=Tryz.func350.trans (congrArg some (by kernel_rfl))
 f279:=Tryz.func351.trans (congrArg some (by kernel_rfl))
 f280:=Tryz.func352.trans (congrArg some (by kernel_rfl))
 f281:=Tryz.func353.trans (congrArg some (by kernel_rfl))
 f282:=Tryz.func354.trans (congrArg some (by kernel_rfl))
 f283:=Tryz.func309.trans (congrArg some (by kernel_rfl))
 f284:=Tryz.func310.trans (congrArg some (by kernel_rfl))
 f285:=Tryz.func311.trans (congrArg some (by kernel_rfl))
 f286:=Tryz.func312.trans (congrArg some (by kernel_rfl))
 f287:=Tryz.func356.trans (congrArg some (by kernel_rfl))
 f316:=Tryz.func357.trans (congrArg some (by kernel_rfl))
 f317:=Tryz.func330.trans (congrArg some (by kernel_rfl))
 f318:=Tryz.func331.trans (congrArg some (by kernel_rfl))
 f319:=Tryz.func332.trans (congrArg some (by kernel_rfl))
 f320:=Tryz.func333.trans (congrArg some (by kernel_rfl))
 f321:=Tryz.func359.trans (congrArg some (by kernel_rfl))
 f322:=Tryz.func360.trans (congrArg some (by kernel_rfl))
 f337:=Tryz.func339.trans (congrArg some (by kernel_rfl))
 f338:=Tryz.func340.trans (congrArg some (by kernel_rfl))
 t0:=Tryz.underlying0
 a0:=Tryz.isAgg0
 z0:=Tryz.sizeOf0
 v0:=Tryz.zeroValue0
 t2:=Tryz.underlying2
 a2:=Tryz.isAgg2
 z2:=Tryz.sizeOf2
 v2:=Tryz.zeroValue2
 t3:=Tryz.underlying3
 a3:=Tryz.isAgg3
 z3:=Tryz.sizeOf3
 v3:=Tryz.zeroValue3
 t4:=Tryz.underlying4
 a4:=Tryz.isAgg4
 z4:=Tryz.sizeOf4
 v4:=Tryz.zeroValue4
 t5:=Tryz.underlying5
 a5:=Tryz.isAgg5
 z5:=Tryz.sizeOf5
 v5:=Tryz.zeroValue5
 t9:=Tryz.underlying9
 a9:=Tryz.isAgg9
 z9:=Tryz.sizeOf9
 v9:=Tryz.zeroValue9
 t20:=Tryz.underlying20
 a20:=Tryz.isAgg20
 z20:=Tryz.sizeOf20
 v20:=Tryz.zeroValue20
 t21:=Tryz.underlying21
 a21:=Tryz.isAgg21
 z21:=Tryz.sizeOf21
 v21:=Tryz.zeroValue21
 t37:=Tryz.underlying174
 a37:=Tryz.isAgg174
 z37:=Tryz.sizeOf174
 v37:=Tryz.zeroValue174
 t46:=Tryz.underlying234
 a46:=Tryz.isAgg234
 z46:=Tryz.sizeOf234
 v46:=Tryz.zeroValue234
 t51:=Tryz.underlying283
 a51:=Tryz.isAgg283
 z51:=Tryz.sizeOf283
 v51:=Tryz.zeroValue283
 t53:=Tryz.underlying285
 a53:=Tryz.isAgg285
 z53:=Tryz.sizeOf285
 v53:=Tryz.zeroValue285
 t75:=Tryz.underlying199
 a75:=Tryz.isAgg199
 z75:=Tryz.sizeOf199
 v75:=Tryz.zeroValue199
 t76:=Tryz.underlying200
 a76:=Tryz.isAgg200
 z76:=Tryz.sizeOf200
 v76:=Tryz.zeroValue200
 t85:=Tryz.underlying344
 a85:=Tryz.isAgg344
 z85:=Tryz.sizeOf344
 v85:=Tryz.zeroValue344
 t127:=Tryz.underlying223
 a127:=Tryz.isAgg223
 z127:=Tryz.sizeOf223
 v127:=Tryz.zeroValue223
 t143:=Tryz.underlying356
 a143:=Tryz.isAgg356
 z143:=Tryz.sizeOf356
 v143:=Tryz.zeroValue356
 t145:=Tryz.underlying358
 a145:=Tryz.isAgg358
 z145:=Tryz.sizeOf358
 v145:=Tryz.zeroValue358
 t167:=Tryz.underlying343
 a167:=Tryz.isAgg343
 z167:=Tryz.sizeOf343
 v167:=Tryz.zeroValue343
 t168:=Tryz.underlying346
 a168:=Tryz.isAgg346
 z168:=Tryz.sizeOf346
 v168:=Tryz.zeroValue346
 t171:=Tryz.underlying320
 a171:=Tryz.isAgg320
 z171:=Tryz.sizeOf320
 v171:=Tryz.zeroValue320
 t173:=Tryz.underlying322
 a173:=Tryz.isAgg322
 z173:=Tryz.sizeOf322
 v173:=Tryz.zeroValue322
 t175:=Tryz.underlying350
 a175:=Tryz.isAgg350
 z175:=Tryz.sizeOf350
 v175:=Tryz.zeroValue350
 t210:=Tryz.underlying353
 a210:=Tryz.isAgg353
 z210:=Tryz.sizeOf353
 v210:=Tryz.zeroValue353
 t212:=Tryz.underlying333
 a212:=Tryz.isAgg333
 z212:=Tryz.sizeOf333
 v212:=Tryz.zeroValue333
 t213:=Tryz.underlying334
 a213:=Tryz.isAgg334
 z213:=Tryz.sizeOf334
 t232:=Tryz.underlying340
 a232:=Tryz.isAgg340
 z232:=Tryz.sizeOf340
 v232:=Tryz.zeroValue340
 t233:=Tryz.underlying341
 a233:=Tryz.isAgg341
 z233:=Tryz.sizeOf341
 v233:=Tryz.zeroValue341
 g15:=by kernel_rfl
 g16:=by kernel_rfl
 g17:=by kernel_rfl
 g18:=by kernel_rfl
 g19:=by kernel_rfl
 t80:=Tryz.underlying204
 a80:=Tryz.isAgg204
 z80:=Tryz.sizeOf204
 v80:=Tryz.zeroValue204
 i0:=by kernel_rfl
 i2:=by kernel_rfl
 i3:=by kernel_rfl
 i4:=by kernel_rfl
 i5:=by kernel_rfl
 i9:=by kernel_rfl
 i20:=by kernel_rfl
 i21:=by kernel_rfl
 i37:=by kernel_rfl
 i46:=by kernel_rfl
 i51:=by kernel_rfl
 i53:=by kernel_rfl
 i75:=by kernel_rfl
 i76:=by kernel_rfl
 i80:=by kernel_rfl
 i85:=by kernel_rfl
 i127:=by kernel_rfl
 i143:=by kernel_rfl
 i145:=by kernel_rfl
 i167:=by kernel_rfl
 i168:=by kernel_rfl
 i171:=by kernel_rfl
 i173:=by kernel_rfl
 i175:=by kernel_rfl
 i210:=by kernel_rfl
 i212:=by kernel_rfl
 i232:=by kernel_rfl
 i233:=by kernel_rfl
 m15:=by kernel_rfl
 m16:=by kernel_rfl
 m17:=by kernel_rfl
 m18:=by kernel_rfl
 m19:=by kernel_rfl
 c0:=by kernel_rfl
 c2:=by kernel_rfl
 c3:=by kernel_rfl
 c4:=by kernel_rfl
 c5:=by kernel_rfl
 c9:=by kernel_rfl
 c20:=by kernel_rfl
 c21:=by kernel_rfl
 c37:=by kernel_rfl
 c46:=by kernel_rfl
 c51:=by kernel_rfl
 c53:=by kernel_rfl
 c75:=by kernel_rfl
 c76:=by kernel_rfl
 c80:=by kernel_rfl
 c85:=by kernel_rfl
 c127:=by kernel_rfl
 c143:=by kernel_rfl
 c145:=by kernel_rfl
 c167:=by kernel_rfl
 c168:=by kernel_rfl
 c171:=by kernel_rfl
 c173:=by kernel_rfl
 c175:=by kernel_rfl
 c210:=by kernel_rfl
 c212:=by kernel_rfl
 c213:=by kernel_rfl
 c232:=by kernel_rfl
 c233:=by kernel_rfl }
open Go.RowKit in
theorem Tryz.strconv_Atoi_ok (s:ByteArray) (hmax:s.size≤9223372036854775806) (v:Int) (h:Lib.atoiAll s.data.toList= .ok v) (w:World):
  Calls Tryz.prog 338 #[.string s] w fun e w'=>e= .returned (.tuple #[.int .i64 v,.nilIface])∧(w'=w ∨ ∃ t,w'=Lib.bytesWorld w 5 t):=Any.strconv_Atoi_ok Tryz.laysC172 s hmax v h w
open Go.RowKit in
theorem Tryz.strconv_Atoi_syntax (s:ByteArray) (hlim:s.size≤281474976710656) (h:Lib.atoiAll s.data.toList=Lib.atoiAll []) (ev:Value) (w:World) (hv:w.cell? ⟨4,0,none⟩=some ev) (hev:ev= .nilIface ∨ ∃ te pe,ev= .iface te pe):
  Calls Tryz.prog 338 #[.string s] w fun e w'=> ∃ N,e= .returned (.tuple #[.int .i64 (0),.iface 346 (.pointer (some ⟨N,0,none⟩))])∧w.heap.size≤N∧w'.heap[N]?=some (.cells #[.string ⟨#[65,116,111,105]⟩,.string s,ev] 353 (0,0))∧Below w.heap.size w w':=Any.strconv_Atoi_syntax Tryz.laysC172 s hlim (h.trans (by decide +kernel)) ev w hv hev
open Go.RowKit in
theorem Tryz.strconv_Atoi_range (s:ByteArray) (hlim:s.size≤281474976710656) (h:Lib.atoiAll s.data.toList= .range) (ev:Value) (w:World) (hv:w.cell? ⟨5,0,none⟩=some ev) (hev:ev= .nilIface ∨ ∃ te pe,ev= .iface te pe):
  Calls Tryz.prog 338 #[.string s] w fun e w'=> ∃ N,e= .returned (.tuple #[.int .i64 (Lib.atoiSat s.data.toList),.iface 346 (.pointer (some ⟨N,0,none⟩))])∧w.heap.size≤N∧w'.heap[N]?=some (.cells #[.string ⟨#[65,116,111,105]⟩,.string s,ev] 353 (0,0))∧Below w.heap.size w w':=Any.strconv_Atoi_range Tryz.laysC172 s hlim (h.trans (by decide +kernel)) ev w hv hev
def Tryz.laysPa41_ren:Go.Shelf.Ren:=⟨fun | 41=>247 | n=>n,fun | 3=>3 | n=>n,fun | n=>n⟩
theorem Tryz.laysPa41:Go.Proofs.Lays.p41 Tryz.prog Tryz.laysPa41_ren:={
 mixed:=by kernel_rfl
 f41:=Tryz.func247.trans (congrArg some (by kernel_rfl))
 t3:=Tryz.underlying3
 a3:=Tryz.isAgg3
 z3:=Tryz.sizeOf3
 v3:=Tryz.zeroValue3 }
open Go.RowKit Go.Lib in
theorem Tryz.hex_EncodedLen (n:Int) (h0:0≤n) (h1:n<4611686018427387904) (w:World):
  Calls Tryz.prog 247 #[.int .i64 n] w fun e w'=>e= .returned (.int .i64 (n*2))∧w'=w:=Any.hex_EncodedLen Tryz.laysPa41 n h0 h1 w
def Tryz.laysPah39_ren:Go.Shelf.Ren:=⟨fun | 39=>183 | 41=>247 | 40=>248 | n=>n,fun | 30=>174 | 9=>9 | 3=>3 | 0=>0 | 5=>5 | 46=>234 | n=>n,fun | n=>n⟩
theorem Tryz.laysPah39:Go.Proofs.Lays.ph39 Tryz.prog Tryz.laysPah39_ren:={
 mixed:=by kernel_rfl
 f39:=Tryz.func183.trans (congrArg some (by kernel_rfl))
 f40:=Tryz.func248.trans (congrArg some (by kernel_rfl))
 f41:=Tryz.func247.trans (congrArg some (by kernel_rfl))
 t0:=Tryz.underlying0
 a0:=Tryz.isAgg0
 z0:=Tryz.sizeOf0
 v0:=Tryz.zeroValue0
 t3:=Tryz.underlying3
 a3:=Tryz.isAgg3
 z3:=Tryz.sizeOf3
 v3:=Tryz.zeroValue3
 t5:=Tryz.underlying5
 a5:=Tryz.isAgg5
 z5:=Tryz.sizeOf5
 v5:=Tryz.zeroValue5
 t9:=Tryz.underlying9
 a9:=Tryz.isAgg9
 z9:=Tryz.sizeOf9
 v9:=Tryz.zeroValue9
 t30:=Tryz.underlying174
 a30:=Tryz.isAgg174
 z30:=Tryz.sizeOf174
 v30:=Tryz.zeroValue174
 t46:=Tryz.underlying234
 a46:=Tryz.isAgg234
 z46:=Tryz.sizeOf234
 v46:=Tryz.zeroValue234
 info5:=by kernel_rfl }
def Tryz.laysPah43_ren:Go.Shelf.Ren:=⟨fun | 43=>343 | 42=>348 | 44=>349 | n=>n,fun | 9=>9 | 30=>174 | 35=>199 | 3=>3 | 38=>200 | 4=>4 | 0=>0 | 5=>5 | 47=>349 | 46=>234 | 45=>204 | n=>n,fun | 0=>3 | n=>n⟩
theorem Tryz.laysPah43:Go.Proofs.Lays.ph43 Tryz.prog Tryz.laysPah43_ren:={
 mixed:=by kernel_rfl
 f42:=Tryz.func348.trans (congrArg some (by kernel_rfl))
 f43:=Tryz.func343.trans (congrArg some (by kernel_rfl))
 f44:=Tryz.func349.trans (congrArg some (by kernel_rfl))
 t0:=Tryz.underlying0
 a0:=Tryz.isAgg0
 z0:=Tryz.sizeOf0
 v0:=Tryz.zeroValue0
 t3:=Tryz.underlying3
 a3:=Tryz.isAgg3
 z3:=Tryz.sizeOf3
 v3:=Tryz.zeroValue3
 t4:=Tryz.underlying4
 a4:=Tryz.isAgg4
 z4:=Tryz.sizeOf4
 v4:=Tryz.zeroValue4
 t5:=Tryz.underlying5
 a5:=Tryz.isAgg5
 z5:=Tryz.sizeOf5
 v5:=Tryz.zeroValue5
 t9:=Tryz.underlying9
 a9:=Tryz.isAgg9
 z9:=Tryz.sizeOf9
 v9:=Tryz.zeroValue9
 t30:=Tryz.underlying174
 a30:=Tryz.isAgg174
 z30:=Tryz.sizeOf174
 v30:=Tryz.zeroValue174
 t35:=Tryz.underlying199
 a35:=Tryz.isAgg199
 z35:=Tryz.sizeOf199
 v35:=Tryz.zeroValue199
 t38:=Tryz.underlying200
 a38:=Tryz.isAgg200
 z38:=Tryz.sizeOf200
 v38:=Tryz.zeroValue200
 t45:=Tryz.underlying204
 a45:=Tryz.isAgg204
 z45:=Tryz.sizeOf204
 v45:=Tryz.zeroValue204
 t46:=Tryz.underlying234
 a46:=Tryz.isAgg234
 z46:=Tryz.sizeOf234
 v46:=Tryz.zeroValue234
 t47:=Tryz.underlying349
 a47:=Tryz.isAgg349
 z47:=Tryz.sizeOf349
 v47:=Tryz.zeroValue349
 g0:=by kernel_rfl
 info5:=by kernel_rfl }
open Go.RowKit Go.Lib in
theorem Tryz.hex_DecodeString_owns (s:ByteArray) (w:World) (ev:Value) (hE:w.cell? ⟨3,0,none⟩=some ev) (hbig:s.size≤281474976710656):
  Calls Tryz.prog 343 #[.string s] w fun e w' => ∃ v, e = .returned (.tuple #[v, Hx.errVal 349 ev (Hx.decode s.data.toList).2]) ∧
   w'.ownsRow w.heap.size 5 1 v (Hx.decode s.data.toList).1.length ((Hx.decode s.data.toList).1.map fun b=>Value.int .u8 (b.toNat:Int))∧Below w.heap.size w w':=Any.hex_DecodeString_owns Tryz.laysPah43 s w ev hE hbig
open Go.RowKit Go.Lib in
theorem Tryz.hex_EncodeToString_bytes (bs os cs:Nat) (l:List UInt8) (w:World) (hsrc: ∀ i (h:i<l.length),w.cell? ⟨bs,os+i,none⟩=some (.int .u8 ((l[i]'h).toNat:Int))) (hb:bs<w.heap.size) (hbig:2*l.length≤281474976710656):
  Calls Tryz.prog 183 #[.slice (some ⟨bs,os,none⟩) l.length cs] w fun e w'=>e= .returned (.string ⟨(Hx.encode l).toArray⟩)∧Below w.heap.size w w':=Any.hex_EncodeToString_bytes Tryz.laysPah39 bs os cs l w hsrc hb hbig
end Go.Proofs

namespace Go.Proofs.YtapfpflmcgfbkaaGreatDoor.Fw
open Go.RowKit Go.Shelf
set_option linter.unusedVariables false
theorem step_cpy {P:Program} {ops:Array Oper} {o:Oper} {a:Act} {w:World} {K:Act→World→Prop} {Q:Exit→Act→World→Prop} {E:Prop}
    (hg:o.guard=none) (d x:Operand) (dT sT:TypeId) (hop:o.op=Op.call { callee:=Callee.builtin Builtin.copy,args:= #[d,x],argTypes:= #[dT,sT] })
    (v u:Value) (hd:a.eval d=v) (hx:a.eval x=u) {v':Value} {w':World} (hr:(Builtin.copy_ #[dT,sT] o.type #[v,u]).run P w= .ok v' w') (hK:K (a.put o.dst v') w'):
    if Region.wanted o (yielded ops a.tmps)=true then Oper.wp P o a w K Q else E:=by
  have hw:Region.wanted o (yielded ops a.tmps)=true:=by simp[Region.wanted,hg]
  rw[if_pos hw]
  unfold Oper.wp
  simp[execOp,hop,resolve,invoke,builtin,hd,hx,hr,Result.andThen]
  exact hK
theorem hchCell:chkSlice Tryz.prog 35 97 2 32=true:=by kernel_rfl
theorem src_own {w:World} {g:Nat} {arr:Array Value} {T:TypeId} (hg:w.heap[g]?=some (.cells arr T (0,0))) (o n:Nat): ∀ j u,((arr.toList.drop o).take n)[j]?=some u→w.cell? ((⟨g,o,none⟩:Addr).add j)=some u:=by
 have hrow:CellsAt w ⟨g,0,none⟩ arr.toList:=CellsAt.row (by simpa using hg)
 have hp:=hrow.part (off:=o) (n:=n) rfl
 rw[addr_row] at hp
 exact hp
section
variable {xs:List Cell} {c0:Cell} {w:World} {F:List Nat} {g2 cap2:Nat} {arr2:Array Value} {T2:TypeId}
set_option maxHeartbeats 4000000 in
set_option maxRecDepth 100000 in
theorem ins_end {v:Value} (hbig:xs.length≤1099511627776) (hv:SlO w v xs F) (hF:F.Nodup) (hg2:w.heap[g2]?=some (.cells arr2 T2 (0,0))) (hs2:2≤arr2.size) (hel:FlE arr2.toList [c0]) (h1: ∀ u∈Fw.cut 2 arr2.toList 0,u.oneCell'=true):
  Calls Tryz.prog 158 #[v,.int .i64 xs.length,.slice (some ⟨g2,0,none⟩) 1 cap2] w (InsQ (xs++[c0]) F w):=by
 have hl2:(Fw.cut 2 arr2.toList 0).length=[c0].length*Dat.sz Cell:=by
  unfold Fw.cut
  rw[List.length_take,List.length_drop,Array.length_toList]
  show min 2 _=2
  omega
 have hsrc:Src w (.slice (some ⟨g2,0,none⟩) 1 cap2) 1 (Fw.cut 2 arr2.toList 0):=⟨_,_,rfl,fun j u hj=>⟨_,rfl,src_own hg2 _ _ j u hj⟩⟩
 have hy:Elems w (Fw.cut 2 arr2.toList 0) [c0] [[]]:=by
  refine⟨rfl,fun i x hi=>?_⟩
  cases i with
  | succ i=>simp at hi
  | zero =>
   cases hi
   refine⟨[],rfl,?_⟩
   have:=hel 0 c0 rfl w
   rw[show Fw.cut (Dat.sz Cell) (Fw.cut 2 arr2.toList 0) 0=Fw.cut 2 arr2.toList 0 by unfold Fw.cut;rw[Nat.zero_mul,Nat.zero_mul,List.drop_zero,List.drop_zero,List.take_take];rfl]
   exact this
 obtain⟨v',w',F',hrun,r1,r2,r3,r4,r5,r6,r7,r8⟩:=run_app (P:=Tryz.prog) (ty:=35) hchCell rfl Tryz.zeroValue97 rfl hv hF hsrc hl2 h1 hy List.nodup_nil (fun b hb=>by cases hb) (by simp only[List.length_cons,List.length_nil];omega) (by simp only[List.length_cons,List.length_nil];unfold maxLen;omega)
 have key : Calls Tryz.prog 158 #[v, .int .i64 xs.length, .slice (some ⟨g2, 0, none⟩) 1 cap2] w fun e w2 => e = .returned v' ∧ w2 = w' := by
  have mixed:Tryz.prog.follows .mixedOrders=true:=by kernel_rfl
  have t35:=Tryz.underlying35;have a35:=Tryz.isAgg35;have z35:=Tryz.sizeOf35;have v35:=Tryz.zeroValue35;have u35:=run_underlying t35
  have t114:=Tryz.underlying97;have a114:=Tryz.isAgg97;have z114:=Tryz.sizeOf97;have v114:=Tryz.zeroValue97;have u114:=run_underlying t114
  have t3:=Tryz.underlying3;have a3:=Tryz.isAgg3;have z3:=Tryz.sizeOf3;have v3:=Tryz.zeroValue3;have u3:=run_underlying t3
  rcases hv.form with ⟨A,cap,rfl,hle⟩
  have hcap:=(SlR_cap (hv.rd (B:=fun _=>True) fun _ _=>trivial)).1
  go_enter Tryz.func158,Tryz.ntmps158
  go_wp2_with (at_builtin;refine Lib.wpList_append_run _ rfl _ _ _ _ rfl _ _ rfl rfl _ _ hrun ?_)
  all_goals (go_ret;exact⟨rfl,rfl⟩)
 refine key.mono fun e w2 h=>?_
 obtain⟨rfl,rfl⟩:=h
 refine⟨v',F',rfl,r1,r2,r3,r4,r5,r6,r7,fun b hb=>?_⟩
 rcases r8 b hb with h | h | h
 ·exact .inl h
 ·cases h
 ·exact .inr h
set_option maxHeartbeats 4000000 in
set_option maxRecDepth 100000 in
theorem ins_room {n k c g:Nat} {arr:Array Value} {T:TypeId} (hbig:n≤1099511627776) (hk:k<n) (hroom:n+1≤c) (hcm:c≤maxLen) (hg:w.heap[g]?=some (.cells arr T (0,0))) (hsz:c*2≤arr.size) (h1: ∀ u∈arr.toList.take (n*2),u.oneCell'=true) (hg2:w.heap[g2]?=some (.cells arr2 T2 (0,0))) (hs2:2≤arr2.size) (h12: ∀ u∈Fw.cut 2 arr2.toList 0,u.oneCell'=true) (hne:g2≠g):
  Calls Tryz.prog 158 #[.slice (some ⟨g,0,none⟩) n c,.int .i64 k,.slice (some ⟨g2,0,none⟩) 1 cap2] w fun e w'=>e= .returned (.slice (some ⟨g,0,none⟩) (n+1) c)∧ ∃ arr',w'.heap[g]?=some (.cells arr' T (0,0))∧arr'.size=arr.size∧(∀ i,i<n+1→Fw.cut 2 arr'.toList i=if i<k then Fw.cut 2 arr.toList i else if i=k then Fw.cut 2 arr2.toList 0 else Fw.cut 2 arr.toList (i - 1))∧w'.os=w.os∧w'.tape=w.tape∧w'.output=w.output∧w.heap.size≤w'.heap.size∧(∀ b,b≠g→w'.heap[b]?=w.heap[b]?):=by
 have mixed:Tryz.prog.follows .mixedOrders=true:=by kernel_rfl
 have t35:=Tryz.underlying35;have a35:=Tryz.isAgg35;have z35:=Tryz.sizeOf35;have v35:=Tryz.zeroValue35;have u35:=run_underlying t35
 have t114:=Tryz.underlying97;have a114:=Tryz.isAgg97;have z114:=Tryz.sizeOf97;have v114:=Tryz.zeroValue97;have u114:=run_underlying t114
 have t3:=Tryz.underlying3;have a3:=Tryz.isAgg3;have z3:=Tryz.sizeOf3;have v3:=Tryz.zeroValue3;have u3:=run_underlying t3
 have hz2: ¬ ((k:Int)=(n:Int)):=by omega
 have hz3: ¬ ((c:Int)<(n:Int)+1):=by omega
 have hw0:IntKind.i64.wrap ((n:Int)+1)=(n:Int)+1:=by rw[IntKind.wrap_i64];omega
 have hw1:IntKind.i64.wrap ((k:Int)+1)=(k:Int)+1:=by rw[IntKind.wrap_i64];omega
 have hb1:(0:Int)≤(k:Int)+1:=by omega
 have htn:((k:Int)+1).toNat=k+1:=by omega
 have htn2:((n:Int)+1).toNat=n+1:=by omega
 have hb2: ¬ (c=k+1):=by omega
 have hb4: ¬ (c=k):=by omega
 have hb3:(k:Int)≤(n:Int)+1:=by omega
 have hkn:k≤n:=by omega
 have hln:(n:Int)+1≤(c:Int):=by omega
 have hal:arr.toList.length=arr.size:=Array.length_toList
 have ha2:arr2.toList.length=arr2.size:=Array.length_toList
 have hov : ∀ lb cb, (callFunc 175 #[.slice (some ⟨g2, 0, none⟩) 1 cap2, .slice (some ⟨g, (k + 1) * 2, none⟩) lb cb]).run Tryz.prog w = .ok (.value (.bool false)) w := fun lb cb => by
  rw[run_callFunc_extern Tryz.func175 (by kernel_rfl) (by kernel_rfl) (by kernel_rfl) (e:=Extern.SlicesOverlaps.overlaps #[35,35] #[4]) (by kernel_rfl),
   Lib.run_overlaps_apart w 35 4 97 t35 2 z114 ⟨g2,0,none⟩ ⟨g,(k+1)*2,none⟩ 1 cap2 lb cb hne T2 T arr2.size arr.size (by simp[World.shape?,hg2]) (by simp[World.shape?,hg]) (by omega) (by simp[World.frozen?,hg2]) (by simp[World.frozen?,hg2])]
  rfl
 obtain⟨mid,hmid⟩: ∃ mid,mid=midC 2 k (n - k) arr.toList:=⟨_,rfl⟩
 have hml:mid.length=(n - k)*2:=by rw[hmid];exact midC_len (by omega)
 obtain⟨arr1,harr1⟩: ∃ arr1:Array Value,arr1=(arr.toList.take ((k+1)*2)++mid++arr.toList.drop ((k+1)*2+(n - k)*2)).toArray:=⟨_,rfl⟩
 have hz1:arr1.size=arr.size:=by
  rw[harr1]
  simp only[List.size_toArray,List.length_append,List.length_take,List.length_drop,hml]
  omega
 have hal1:arr1.toList.length=arr1.size:=Array.length_toList
 obtain⟨ec,hec⟩: ∃ ec,ec=Fw.cut 2 arr2.toList 0:=⟨_,rfl⟩
 have hel:ec.length=1*2:=by rw[hec];unfold Fw.cut;rw[List.length_take,List.length_drop,ha2];omega
 obtain⟨arr3,harr3⟩: ∃ arr3:Array Value,arr3=(arr1.toList.take (k*2)++ec++arr1.toList.drop (k*2+1*2)).toArray:=⟨_,rfl⟩
 have hz4:arr3.size=arr.size:=by
  rw[harr3]
  simp only[List.size_toArray,List.length_append,List.length_take,List.length_drop,hel]
  omega
 have hm1: ∀ u∈mid,u.oneCell'=true:=fun u hu=>by rw[hmid] at hu;exact h1 u (midC_mem hkn hu)
 have hc1: ∀ u∈ec,u.oneCell'=true:=fun u hu=>by rw[hec] at hu;exact h12 u hu
 have hcp1 : ∀ (W : World), W.heap = w.heap → ∀ ty dc sc, (Builtin.copy_ #[35, 35] ty #[.slice (some ⟨g, (k + 1) * 2, none⟩) (n - k) dc, .slice (some ⟨g, k * 2, none⟩) (n + 1 - k) sc]).run Tryz.prog W = .ok (goInt (n - k : Nat)) (W.setRow g arr1) := fun W hW ty dc sc => by
  have hgW:W.heap[g]?=some (.cells arr T (0,0)):=by rw[hW];exact hg
  rw[harr1]
  exact run_cpy hchCell (S:=⟨g,k*2,none⟩) (m:=n - k) (by simp only[Nat.min_def];split<;>omega) hml (by rw[hmid];exact src_own hgW _ _) hgW (by omega) hm1
 have hcp2 : ∀ (W : World), W.heap[g]? = some (.cells arr1 T (0, 0)) → W.heap[g2]? = some (.cells arr2 T2 (0, 0)) → ∀ ty dc, (Builtin.copy_ #[35, 35] ty #[.slice (some ⟨g, k * 2, none⟩) (n + 1 - k) dc, .slice (some ⟨g2, 0, none⟩) 1 cap2]).run Tryz.prog W = .ok (goInt (1 : Nat)) (W.setRow g arr3) := fun W hW1 hW2 ty dc => by
  rw[harr3]
  exact run_cpy hchCell (S:=⟨g2,0,none⟩) (m:=1) (by simp only[Nat.min_def];split<;>omega) hel (by rw[hec];unfold Fw.cut;rw[Nat.zero_mul];exact src_own hW2 _ _) hW1 (by omega) hc1
 have hrow1: ∀ (W:World),W.heap=w.heap→(W.setRow g arr1).heap[g]?=some (.cells arr1 T (0,0)):=fun W hW=>setRow_heap W g arr arr1 T (0,0) (by rw[hW];exact hg)
 have hrow2: ∀ (W:World),W.heap=w.heap→(W.setRow g arr1).heap[g2]?=some (.cells arr2 T2 (0,0)):=fun W hW=>(setRow_other W g g2 _ hne).trans (by rw[hW];exact hg2)
 have hfin : ∀ i, i < n + 1 → Fw.cut 2 arr3.toList i = if i < k then Fw.cut 2 arr.toList i else if i = k then Fw.cut 2 arr2.toList 0 else Fw.cut 2 arr.toList (i - 1) := fun i hi => by
  rw[harr3,show(arr1.toList.take (k*2)++ec++arr1.toList.drop (k*2+1*2)).toArray.toList=_ from rfl,cut_mid hel (by omega)]
  by_cases h3:i<k
  ·rw[if_pos h3,if_pos h3,harr1,show(arr.toList.take ((k+1)*2)++mid++arr.toList.drop ((k+1)*2+(n - k)*2)).toArray.toList=_ from rfl,cut_mid hml (by omega),if_pos (by omega)]
  ·rw[if_neg h3,if_neg h3]
   by_cases h4:i=k
   ·rw[if_pos (by omega),if_pos h4,h4,Nat.sub_self,hec]
    unfold Fw.cut
    rw[Nat.zero_mul,List.drop_zero,List.drop_zero,List.take_take,Nat.min_self]
   ·rw[if_neg (by omega),if_neg h4,harr1,show(arr.toList.take ((k+1)*2)++mid++arr.toList.drop ((k+1)*2+(n - k)*2)).toArray.toList=_ from rfl,cut_mid hml (by omega),if_neg (by omega),if_pos (by omega),hmid,midC_cut (by omega),show k+(i - (k+1))=i - 1 by omega]
 clear harr1 harr3 hmid hec hml hel hal ha2 hal1 hm1 hc1
 go_enter Tryz.func158,Tryz.ntmps158
 go_wp2_with (simp only[hov])
 go_region_law_o (refine step_cpy rfl _ _ 35 35 rfl (.slice (some ⟨g,(k+1)*2,none⟩) (n - k) (c - (k+1))) (.slice (some ⟨g,k*2,none⟩) (n+1 - k) (c - k)) (by simp[Act.eval,Act.put]) (by simp[Act.eval,Act.put]) (hcp1 w.drew rfl 3 (c - (k+1)) (c - k)) ?_)
 go_wp2
 rw[hcp2 (w.drew.setRow g arr1) (hrow1 w.drew rfl) (hrow2 w.drew rfl) 3 (c - k)]
 simp only[Result.andThen]
 rw[Oper.upon_value]
 go_wp2
 go_ret
 exact⟨rfl,arr3,setRow_heap _ g arr1 arr3 T (0,0) (hrow1 w.drew rfl),hz4,hfin,rfl,rfl,rfl,by simp,fun b hb=>(setRow_other _ g b _ hb).trans (setRow_other _ g b _ hb)⟩
set_option maxHeartbeats 4000000 in
set_option maxRecDepth 100000 in
theorem ins_grow {n k g:Nat} {arr:Array Value} {T:TypeId} (hbig:n≤1099511627776) (hk:k<n) (hg:w.heap[g]?=some (.cells arr T (0,0))) (hsz:n*2≤arr.size) (h1: ∀ u∈arr.toList.take (n*2),u.oneCell'=true) (hg2:w.heap[g2]?=some (.cells arr2 T2 (0,0))) (hs2:2≤arr2.size) (h12: ∀ u∈Fw.cut 2 arr2.toList 0,u.oneCell'=true):
  Calls Tryz.prog 158 #[.slice (some ⟨g,0,none⟩) n n,.int .i64 k,.slice (some ⟨g2,0,none⟩) 1 cap2] w fun e w'=> ∃ G arr',e= .returned (.slice (some ⟨w.heap.size,0,none⟩) (n+1) G)∧n+1≤G∧G≤maxLen∧w'.heap[w.heap.size]?=some (.cells arr' 97 (0,0))∧arr'.size=G*2∧(∀ i,i<n+1→Fw.cut 2 arr'.toList i=if i<k then Fw.cut 2 arr.toList i else if i=k then Fw.cut 2 arr2.toList 0 else Fw.cut 2 arr.toList (i - 1))∧w'.os=w.os∧w'.tape=w.tape∧w'.output=w.output∧w.heap.size≤w'.heap.size∧(∀ b,b<w.heap.size→w'.heap[b]?=w.heap[b]?):=by
 have mixed:Tryz.prog.follows .mixedOrders=true:=by kernel_rfl
 have t35:=Tryz.underlying35;have a35:=Tryz.isAgg35;have z35:=Tryz.sizeOf35;have v35:=Tryz.zeroValue35;have u35:=run_underlying t35
 have t114:=Tryz.underlying97;have a114:=Tryz.isAgg97;have z114:=Tryz.sizeOf97;have v114:=Tryz.zeroValue97;have u114:=run_underlying t114
 have t3:=Tryz.underlying3;have a3:=Tryz.isAgg3;have z3:=Tryz.sizeOf3;have v3:=Tryz.zeroValue3;have u3:=run_underlying t3
 have hkn:k≤n:=by omega
 obtain⟨hu,i0,hi0,his,hib⟩:=chkSlice_spec hchCell
 have hz0:i0.zero=some (.agg #[.string ⟨#[]⟩,.string ⟨#[]⟩]):=by
  have:=v114 w
  simp only[zeroValue,Sem.run_bind,typeInfo,run_program,hi0,Sem.run_pure,Result.andThen_ok] at this
  cases hzz:i0.zero with
  | none=>rw[hzz] at this;simp at this
  | some z'=>rw[hzz] at this;simp at this;rw[this]
 have hal:arr.toList.length=arr.size:=Array.length_toList
 have ha2:arr2.toList.length=arr2.size:=Array.length_toList
 have hgw:g<w.heap.size:=(Array.getElem?_eq_some_iff.1 hg).1
 have hgw2:g2<w.heap.size:=(Array.getElem?_eq_some_iff.1 hg2).1
 obtain⟨G,hG⟩: ∃ G,G=grownCap w (n+1) n 97:=⟨_,rfl⟩
 have hGn:n+1≤G:=by rw[hG];exact grownCap_ge w _ _ _
 have hGm:G≤maxLen:=by rw[hG];exact grownCap_le_maxLen w _ _ _ (by unfold maxLen;omega)
 obtain⟨olds,holds⟩: ∃ olds,olds=(arr.toList.drop (0*2)).take (k*2):=⟨_,rfl⟩
 have hol:olds.length=k*2:=by rw[holds,List.length_take,List.length_drop];omega
 obtain⟨ROW,hROW⟩: ∃ ROW:Array Value,ROW=olds.toArray++Builtin.zeroCells ((.agg #[.string ⟨#[]⟩,.string ⟨#[]⟩]):Value).cells (n+1 - k)++Builtin.zeroCells ((.agg #[.string ⟨#[]⟩,.string ⟨#[]⟩]):Value).cells (G - (n+1)):=⟨_,rfl⟩
 have hzc:((.agg #[.string ⟨#[]⟩,.string ⟨#[]⟩]):Value).cells.size=2:=rfl
 have hRs:ROW.size=G*2:=by
  rw[hROW]
  simp only[Array.size_append,List.size_toArray,size_zeroCells,hzc,hol]
  omega
 have hRl:ROW.toList.length=ROW.size:=Array.length_toList
 have hRc : ∀ i, i < k → Fw.cut 2 ROW.toList i = Fw.cut 2 arr.toList i := fun i hi => by
  rw[hROW,Array.toList_append,Array.toList_append,List.append_assoc,cut_append_left (n:=k) hol hi,holds,Nat.zero_mul,List.drop_zero,cut_take hi]
 have hold:(Builtin.firstCells i0.size k (.slice (some ⟨g,0,none⟩) k n)).run Tryz.prog w.drew= .ok olds.toArray w.drew:=by
  rw[his]
  exact run_firstCells_some w.drew 2 k ⟨g,0,none⟩ k n olds hol (by rw[holds,Nat.zero_mul];exact src_own (w:=w.drew) hg _ _)
 have hik:k+(n+1 - k)=n+1:=by omega
 have hkk:(n:Int)+1 - (k:Int)=((n+1 - k:Nat):Int):=by omega
 have hrz : ∀ ty, (Builtin.append_ #[35, 3] ty #[.slice (some ⟨g, 0, none⟩) k n, .int .i64 ((n : Int) + 1 - (k : Int))]).run Tryz.prog w = .ok (.slice (some ⟨w.heap.size, 0, none⟩) (n + 1) G) (w.drew.alloc (.cells ROW 97)) := fun ty => by
  have h:=Lib.run_append_grow_zeros w 35 3 ty 97 i0 (.agg #[.string ⟨#[]⟩,.string ⟨#[]⟩]) .i64 .i64 t35 t3 hi0 hz0 (some ⟨g,0,none⟩) k n olds hold (n+1 - k) (by omega) (by omega) (by omega) (by omega) (by rw[hib];omega) (by rw[hib,hik];exact growslice_fits (by omega) (by omega))
  rw[hik,←hG,←hROW] at h
  rw[hkk]
  exact h
 obtain⟨mid,hmid⟩: ∃ mid,mid=midC 2 k (n - k) arr.toList:=⟨_,rfl⟩
 have hml:mid.length=(n - k)*2:=by rw[hmid];exact midC_len (by omega)
 obtain⟨ec,hec⟩: ∃ ec,ec=Fw.cut 2 arr2.toList 0:=⟨_,rfl⟩
 have hel:ec.length=1*2:=by rw[hec];unfold Fw.cut;rw[List.length_take,List.length_drop,ha2];omega
 obtain⟨arr1,harr1⟩: ∃ arr1:Array Value,arr1=(ROW.toList.take (k*2)++ec++ROW.toList.drop (k*2+1*2)).toArray:=⟨_,rfl⟩
 have hz1:arr1.size=ROW.size:=by
  rw[harr1]
  simp only[List.size_toArray,List.length_append,List.length_take,List.length_drop,hel]
  omega
 have hal1:arr1.toList.length=arr1.size:=Array.length_toList
 obtain⟨arr3,harr3⟩: ∃ arr3:Array Value,arr3=(arr1.toList.take ((k+1)*2)++mid++arr1.toList.drop ((k+1)*2+(n - k)*2)).toArray:=⟨_,rfl⟩
 have hz4:arr3.size=G*2:=by
  rw[harr3]
  simp only[List.size_toArray,List.length_append,List.length_take,List.length_drop,hml]
  omega
 have hm1: ∀ u∈mid,u.oneCell'=true:=fun u hu=>by rw[hmid] at hu;exact h1 u (midC_mem hkn hu)
 have hc1: ∀ u∈ec,u.oneCell'=true:=fun u hu=>by rw[hec] at hu;exact h12 u hu
 have hcp1 : ∀ (W : World), W.heap[w.heap.size]? = some (.cells ROW 97 (0, 0)) → W.heap[g2]? = some (.cells arr2 T2 (0, 0)) → ∀ ty dc, (Builtin.copy_ #[35, 35] ty #[.slice (some ⟨w.heap.size, k * 2, none⟩) (n + 1 - k) dc, .slice (some ⟨g2, 0, none⟩) 1 cap2]).run Tryz.prog W = .ok (goInt (1 : Nat)) (W.setRow w.heap.size arr1) := fun W hW1 hW2 ty dc => by
  rw[harr1]
  exact run_cpy hchCell (S:=⟨g2,0,none⟩) (m:=1) (by simp only[Nat.min_def];split<;>omega) hel (by rw[hec];unfold Fw.cut;rw[Nat.zero_mul];exact src_own hW2 _ _) hW1 (by omega) hc1
 have hcp2 : ∀ (W : World), W.heap[w.heap.size]? = some (.cells arr1 97 (0, 0)) → W.heap[g]? = some (.cells arr T (0, 0)) → ∀ ty dc sc, (Builtin.copy_ #[35, 35] ty #[.slice (some ⟨w.heap.size, (k + 1) * 2, none⟩) (n - k) dc, .slice (some ⟨g, k * 2, none⟩) (n - k) sc]).run Tryz.prog W = .ok (goInt (n - k : Nat)) (W.setRow w.heap.size arr3) := fun W hW1 hW2 ty dc sc => by
  rw[harr3]
  exact run_cpy hchCell (S:=⟨g,k*2,none⟩) (m:=n - k) (Nat.min_self _) hml (by rw[hmid];exact src_own hW2 _ _) hW1 (by omega) hm1
 have hfin : ∀ i, i < n + 1 → Fw.cut 2 arr3.toList i = if i < k then Fw.cut 2 arr.toList i else if i = k then Fw.cut 2 arr2.toList 0 else Fw.cut 2 arr.toList (i - 1) := fun i hi => by
  rw[harr3,show(arr1.toList.take ((k+1)*2)++mid++arr1.toList.drop ((k+1)*2+(n - k)*2)).toArray.toList=_ from rfl,cut_mid hml (by omega)]
  by_cases h3:i<k+1
  ·rw[if_pos h3,harr1,show(ROW.toList.take (k*2)++ec++ROW.toList.drop (k*2+1*2)).toArray.toList=_ from rfl,cut_mid hel (by omega)]
   by_cases h4:i<k
   ·rw[if_pos h4,if_pos h4,hRc i h4]
   ·rw[if_neg h4,if_neg h4,if_pos (by omega),if_pos (by omega),show i - k=0 by omega,hec]
    unfold Fw.cut
    rw[Nat.zero_mul,List.drop_zero,List.drop_zero,List.take_take,Nat.min_self]
  ·rw[if_neg h3,if_pos (by omega),if_neg (by omega),if_neg (by omega),hmid,midC_cut (by omega),show k+(i - (k+1))=i - 1 by omega]
 have hn1: ∀ (W:World),W.heap=(w.drew.alloc (.cells ROW 97)).heap→W.heap[w.heap.size]?=some (.cells ROW 97 (0,0)):=fun W hW=>by rw[hW];exact heap_alloc_new w.drew _
 have ho1: ∀ (W:World),W.heap=(w.drew.alloc (.cells ROW 97)).heap→ ∀ b,b<w.heap.size→W.heap[b]?=w.heap[b]?:=fun W hW b hb=>by rw[hW];exact heap_alloc_old w.drew _ hb
 have hn2: ∀ (W:World),W.heap=((w.drew.alloc (.cells ROW 97)).setRow w.heap.size arr1).heap→W.heap[w.heap.size]?=some (.cells arr1 97 (0,0)):=fun W hW=>by rw[hW];exact setRow_heap _ _ ROW arr1 _ (0,0) (heap_alloc_new w.drew _)
 have ho2: ∀ (W:World),W.heap=((w.drew.alloc (.cells ROW 97)).setRow w.heap.size arr1).heap→ ∀ b,b<w.heap.size→W.heap[b]?=w.heap[b]?:=fun W hW b hb=>by rw[hW,setRow_other _ _ b _ (by omega)];exact heap_alloc_old w.drew _ hb
 clear harr1 harr3 hmid hec hml hel hal ha2 hal1 hm1 hc1 hROW hRs hRl hRc hold holds hol hG hkk hik
 have hz2: ¬ ((k:Int)=(n:Int)):=by omega
 have hz3:(n:Int)<(n:Int)+1:=by omega
 have hw0:IntKind.i64.wrap ((n:Int)+1)=(n:Int)+1:=by rw[IntKind.wrap_i64];omega
 have hw1:IntKind.i64.wrap ((k:Int)+1)=(k:Int)+1:=by rw[IntKind.wrap_i64];omega
 have hw2:IntKind.i64.wrap ((n:Int)+1 - (k:Int))=(n:Int)+1 - (k:Int):=by rw[IntKind.wrap_i64];omega
 have hb1:(0:Int)≤(k:Int)+1:=by omega
 have htn:((k:Int)+1).toNat=k+1:=by omega
 have hb2: ¬ (G=k+1):=by omega
 have hb3:(k:Int)≤(n:Int)+1:=by omega
 have hb4: ¬ (G=k):=by omega
 have hb5: ¬ (n=k):=by omega
 go_enter Tryz.func158,Tryz.ntmps158
 go_wp2_with (at_builtin;refine Lib.wpList_append_run _ rfl _ _ _ _ rfl _ _ rfl rfl _ _ (hrz _) ?_)
 rw[hcp1 (w.alloc (.cells ROW 97)).drew (hn1 _ rfl) ((ho1 _ rfl g2 hgw2).trans hg2) 3 (G - k)]
 simp only[Result.andThen]
 rw[Oper.upon_value]
 go_wp2
 go_region_law_o (refine step_cpy rfl _ _ 35 35 rfl (.slice (some ⟨w.heap.size,(k+1)*2,none⟩) (n - k) (G - (k+1))) (.slice (some ⟨g,k*2,none⟩) (n - k) (n - k)) (by simp[Act.eval,Act.put]) (by simp[Act.eval,Act.put]) (hcp2 ((w.alloc (.cells ROW 97)).drew.setRow w.heap.size arr1).drew (hn2 _ rfl) ((ho2 _ rfl g hgw).trans hg) 3 (G - (k+1)) (n - k)) ?_)
 go_wp2
 go_ret
 refine⟨G,arr3,rfl,hGn,hGm,setRow_heap _ _ arr1 arr3 _ (0,0) (hn2 _ rfl),hz4,hfin,rfl,rfl,rfl,?_,fun b hb=>(setRow_other _ _ b _ (by omega)).trans (ho2 _ rfl b hb)⟩
 simp
theorem ins_all (k:Nat) (hk:k≤xs.length) (hbig:xs.length≤1099511627776) {v v2:Value} {F2:List Nat} (hv:SlO w v xs F) (hF:F.Nodup) (hv2:SlO w v2 [c0] F2) (hdj: ∀ b∈F2,b ∉ F):
  Calls Tryz.prog 158 #[v,.int .i64 k,v2] w (InsQ (insL xs k c0) F w):=by
 have hfl:flats (Str.fk (α:=Cell))=true:=rfl
 rcases hv2.fl inferInstance hfl with ⟨_,e2⟩ | ⟨g2,cap2,arr2,T2,e1,e2,e3,e4,e5,e6,e7⟩
 ·cases e2
 subst e1
 have hs2:2≤arr2.size:=by
  have:1≤cap2:=e3
  have:=Nat.mul_le_mul_right (Dat.sz Cell) this
  exact Nat.le_trans this e5
 have h12: ∀ u∈Fw.cut 2 arr2.toList 0,u.oneCell'=true:=fun u hu=>e7.one w u (by unfold Fw.cut at hu;rwa [Nat.zero_mul,List.drop_zero] at hu)
 by_cases hkn:k=xs.length
 ·subst hkn
  have h:=ins_end hbig hv hF e2 hs2 e7 h12 (cap2:=cap2)
  unfold insL
  rw[List.take_length,List.drop_length]
  exact h
 have hk':k<xs.length:=by omega
 have hc0: ∀ w,Dat.own w (Fw.cut 2 arr2.toList 0) c0 []:=fun w=>e7 0 c0 rfl w
 rcases hv.fl inferInstance hfl with ⟨_,q2⟩ | ⟨g,cap,arr,T,q1,q2,q3,q4,q5,q6,q7⟩
 ·rw[q2] at hk';simp at hk'
 subst q1
 have hlt:=hv.lt
 have h1:=q7.one w
 have hne:g2≠g:=fun e=>hdj g2 e6 (by rw[e];exact q6)
 by_cases hroom:xs.length+1≤cap
 ·refine (ins_room hbig hk' hroom q4 q2 q5 h1 e2 hs2 h12 hne (cap2 := cap2)).mono fun e w' hq => ?_
  obtain⟨rfl,arr',r1,r2,r3,r4,r5,r6,r7,r8⟩:=hq
  refine⟨_,[g],rfl,(q7.ins hk hc0 r3).slo r1 (insL_length hk).symm hroom q4 (by rw[r2];exact q5),by simp,r4,r5,r6,r7,fun b _ hb=>r8 b fun e=>hb (by rw[e];exact q6),fun b hb=> .inl (by rw[List.mem_singleton.1 hb];exact q6)⟩
 ·obtain rfl : cap = xs.length := by omega
  refine(ins_grow hbig hk' q2 q5 h1 e2 hs2 h12 (cap2:=cap2)).mono fun e w' hq=>?_
  obtain⟨G,arr',rfl,r0,r0',r1,r2,r3,r4,r5,r6,r7,r8⟩:=hq
  exact⟨_,[w.heap.size],rfl,(q7.ins hk hc0 r3).slo r1 (insL_length hk).symm r0 r0' (by rw[r2];exact Nat.le_refl _),by simp,r4,r5,r6,r7,fun b hb _=>r8 b hb,fun b hb=> .inr (by rw[List.mem_singleton.1 hb];exact Nat.le_refl _)⟩
end
end Go.Proofs.YtapfpflmcgfbkaaGreatDoor.Fw
