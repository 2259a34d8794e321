/-
  What all walks of this program share: its types, its zero values, and the steps. No condition. By program (wip/am/sy.py).
-/
import Derived.Test.YtmjjcihoobnbgaaDoorAm9
import Derived.Test.YtmjjcihoobnbgaaDoorProg
import Derived.KernelRfl
import Derived.Test.YtmjjcihoobnbgaaDoorG
namespace Go.Proofs.YtmjjcihoobnbgaaDoor.Fw
open Go.RowKit
set_option linter.unusedVariables false
set_option maxRecDepth 100000

def lkT : List (Nat × TI) → Nat → TI
  | [], _ => .no
  | (k, i) :: r, t => bif Nat.beq k t then i else lkT r t
theorem lkT_ok {P : Program} : ∀ {l : List (Nat × TI)}, (l.all fun p => p.2.chk P p.1) = true → ∀ t, (lkT l t).chk P t = true
  | [], _, _ => rfl
  | (k, i) :: r, h, t => by
    simp only [List.all_cons, Bool.and_eq_true] at h
    simp only [lkT]
    cases e : Nat.beq k t with
    | true => obtain rfl := Nat.eq_of_beq_eq_true e; exact h.1
    | false => exact lkT_ok h.2 t
def lkZ : List (Nat × Value) → Nat → Option Value
  | [], _ => none
  | (k, i) :: r, t => bif Nat.beq k t then some i else lkZ r t
def ZOk (P : Program) : List (Nat × Value) → Prop
  | [] => True
  | p :: r => (∀ w, (zeroValue p.1).run P w = .ok p.2 w) ∧ ZOk P r
theorem lkZ_ok {P : Program} : ∀ {l : List (Nat × Value)}, ZOk P l → ∀ t z, lkZ l t = some z → ∀ w, (zeroValue t).run P w = .ok z w
  | [], _, _, _, h => by cases h
  | (k, i) :: r, h, t, z, hz => by
    simp only [lkZ] at hz
    cases e : Nat.beq k t with
    | true => obtain rfl := Nat.eq_of_beq_eq_true e; rw [e] at hz; cases hz; exact h.1
    | false => rw [e] at hz; exact lkZ_ok h.2 t z hz
def tiL : List (Nat × TI) := [(1, .one),
  (2, .int .i64),
  (3, .int .i64),
  (4, .bool),
  (5, .int .u8),
  (6, .int .u8),
  (7, .st 4 [(0, 1), (1, 1), (2, 1), (3, 1)]),
  (8, .st 4 [(0, 1), (1, 1), (2, 1), (3, 1)]),
  (9, .str),
  (10, .str),
  (11, .str),
  (12, .int .u64),
  (13, .st 2 [(0, 1), (1, 1)]),
  (14, .st 2 [(0, 1), (1, 1)]),
  (15, .one),
  (16, .one),
  (17, .one),
  (18, .st 1 [(0, 1)]),
  (19, .st 1 [(0, 1)]),
  (21, .int .i32),
  (22, .sl 5 1 1),
  (23, .one),
  (24, .one),
  (25, .one),
  (26, .one),
  (27, .st 6 [(0, 1), (1, 1), (2, 1), (3, 1), (4, 1), (5, 1)]),
  (28, .st 6 [(0, 1), (1, 1), (2, 1), (3, 1), (4, 1), (5, 1)]),
  (29, .st 6 [(0, 1), (1, 1), (2, 1), (3, 1), (4, 1), (5, 1)]),
  (30, .one),
  (31, .one),
  (32, .one),
  (33, .st 9 [(0, 1), (1, 1), (2, 1), (3, 6)]),
  (34, .st 9 [(0, 1), (1, 1), (2, 1), (3, 6)]),
  (35, .one),
  (36, .one),
  (37, .st 9 [(0, 1), (1, 1), (2, 1), (3, 6)]),
  (38, .st 9 [(0, 1), (1, 1), (2, 1), (3, 6)]),
  (39, .one),
  (40, .one),
  (41, .sl 84 10 160),
  (42, .one),
  (43, .sl 9 1 16),
  (44, .one),
  (45, .sl 90 10 160),
  (46, .one),
  (47, .one),
  (48, .one),
  (49, .one),
  (50, .one),
  (51, .one),
  (52, .sl 3 1 8),
  (53, .one),
  (54, .one),
  (56, .one),
  (58, .one),
  (59, .one),
  (60, .one),
  (61, .one),
  (63, .one),
  (64, .one),
  (65, .one),
  (66, .one),
  (67, .one),
  (68, .one),
  (69, .one),
  (71, .one),
  (73, .one),
  (74, .one),
  (75, .one),
  (76, .one),
  (77, .one),
  (78, .one),
  (79, .sl 29 6 72),
  (80, .sl 134 3 32),
  (81, .st 2 [(0, 1), (1, 1)]),
  (82, .st 2 [(0, 1), (1, 1)]),
  (83, .st 10 [(0, 1), (1, 1), (2, 1), (3, 1), (4, 1), (5, 1), (6, 2), (8, 1), (9, 1)]),
  (84, .st 10 [(0, 1), (1, 1), (2, 1), (3, 1), (4, 1), (5, 1), (6, 2), (8, 1), (9, 1)]),
  (85, .one),
  (86, .sl 28 6 72),
  (87, .sl 122 3 32),
  (88, .st 2 [(0, 1), (1, 1)]),
  (89, .st 10 [(0, 1), (1, 1), (2, 1), (3, 1), (4, 1), (5, 1), (6, 2), (8, 1), (9, 1)]),
  (90, .st 10 [(0, 1), (1, 1), (2, 1), (3, 1), (4, 1), (5, 1), (6, 2), (8, 1), (9, 1)]),
  (91, .one),
  (92, .one),
  (93, .one),
  (94, .one),
  (95, .one),
  (96, .one),
  (97, .one),
  (99, .one),
  (100, .one),
  (102, .one),
  (103, .one),
  (104, .st 3 [(0, 1), (1, 1), (2, 1)]),
  (105, .st 3 [(0, 1), (1, 1), (2, 1)]),
  (106, .one),
  (107, .one),
  (108, .one),
  (109, .one),
  (110, .one),
  (111, .one),
  (112, .one),
  (113, .one),
  (114, .one),
  (116, .one),
  (117, .one),
  (118, .one),
  (119, .one),
  (120, .one),
  (121, .st 3 [(0, 1), (1, 1), (2, 1)]),
  (122, .st 3 [(0, 1), (1, 1), (2, 1)]),
  (124, .one),
  (125, .one),
  (126, .one),
  (127, .one),
  (131, .one),
  (132, .int .u64),
  (133, .one),
  (134, .st 3 [(0, 1), (1, 1), (2, 1)]),
  (135, .one),
  (136, .one),
  (137, .st 2 [(0, 1), (1, 1)]),
  (138, .st 2 [(0, 1), (1, 1)]),
  (139, .one),
  (140, .one),
  (141, .one),
  (142, .sl 144 2 16),
  (143, .st 2 [(0, 1), (1, 1)]),
  (144, .st 2 [(0, 1), (1, 1)]),
  (145, .int .u32),
  (146, .one),
  (147, .one),
  (149, .one),
  (150, .one),
  (151, .one),
  (152, .one),
  (153, .one),
  (154, .sl 160 3 6),
  (155, .sl 163 3 12),
  (156, .st 3 [(0, 1), (1, 1), (2, 1)]),
  (157, .st 3 [(0, 1), (1, 1), (2, 1)]),
  (159, .st 3 [(0, 1), (1, 1), (2, 1)]),
  (160, .st 3 [(0, 1), (1, 1), (2, 1)]),
  (161, .one),
  (162, .st 3 [(0, 1), (1, 1), (2, 1)]),
  (163, .st 3 [(0, 1), (1, 1), (2, 1)]),
  (164, .one),
  (165, .one),
  (166, .one),
  (167, .one),
  (168, .int .i64),
  (170, .one),
  (171, .one),
  (175, .int .u64),
  (183, .one),
  (184, .one),
  (185, .int .u8),
  (189, .st 3 [(0, 1), (1, 1), (2, 1)]),
  (196, .one),
  (198, .st 1 [(0, 1)])]
def ti (t : Nat) : TI := lkT tiL t
theorem tiok : ∀ t, (ti t).chk Tryd.prog t = true := lkT_ok (by kernel_rfl)
def zrL : List (Nat × Value) := [(1, Value.nilFunc),
  (2, Value.int IntKind.i64 0),
  (3, Value.int IntKind.i64 0),
  (4, Value.bool false),
  (5, Value.int IntKind.u8 0),
  (6, Value.int IntKind.u8 0),
  (7, Value.agg #[Value.int IntKind.i64 0, Value.int IntKind.i64 0, Value.bool false, Value.int IntKind.u8 0]),
  (8, Value.agg #[Value.int IntKind.i64 0, Value.int IntKind.i64 0, Value.bool false, Value.int IntKind.u8 0]),
  (9, Value.string { data := #[] }),
  (10, Value.string { data := #[] }),
  (11, Value.string { data := #[] }),
  (12, Value.int IntKind.u64 0),
  (13, Value.agg #[Value.string { data := #[] }, Value.int IntKind.u64 0]),
  (14, Value.agg #[Value.string { data := #[] }, Value.int IntKind.u64 0]),
  (15, Value.pointer none),
  (16, Value.pointer none),
  (17, Value.pointer none),
  (18, Value.agg #[Value.pointer none]),
  (19, Value.agg #[Value.pointer none]),
  (21, Value.int IntKind.i32 0),
  (22, Value.slice none 0 0),
  (23, Value.nilFunc),
  (24, Value.nilFunc),
  (25, Value.nilFunc),
  (26, Value.nilFunc),
  (27, Value.agg #[Value.int IntKind.i64 0, Value.string { data := #[] }, Value.string { data := #[] }, Value.int IntKind.i64 0, Value.int IntKind.i64 0, Value.string { data := #[] }]),
  (28, Value.agg #[Value.int IntKind.i64 0, Value.string { data := #[] }, Value.string { data := #[] }, Value.int IntKind.i64 0, Value.int IntKind.i64 0, Value.string { data := #[] }]),
  (29, Value.agg #[Value.int IntKind.i64 0, Value.string { data := #[] }, Value.string { data := #[] }, Value.int IntKind.i64 0, Value.int IntKind.i64 0, Value.string { data := #[] }]),
  (30, Value.nilFunc),
  (31, Value.nilFunc),
  (32, Value.nilFunc),
  (33, Value.agg #[Value.int IntKind.i64 0, Value.int IntKind.i64 0, Value.int IntKind.i64 0, Value.int IntKind.i64 0, Value.string { data := #[] }, Value.string { data := #[] }, Value.int IntKind.i64 0, Value.int IntKind.i64 0, Value.string { data := #[] }]),
  (34, Value.agg #[Value.int IntKind.i64 0, Value.int IntKind.i64 0, Value.int IntKind.i64 0, Value.int IntKind.i64 0, Value.string { data := #[] }, Value.string { data := #[] }, Value.int IntKind.i64 0, Value.int IntKind.i64 0, Value.string { data := #[] }]),
  (35, Value.nilFunc),
  (36, Value.nilFunc),
  (37, Value.agg #[Value.int IntKind.i64 0, Value.int IntKind.i64 0, Value.int IntKind.i64 0, Value.int IntKind.i64 0, Value.string { data := #[] }, Value.string { data := #[] }, Value.int IntKind.i64 0, Value.int IntKind.i64 0, Value.string { data := #[] }]),
  (38, Value.agg #[Value.int IntKind.i64 0, Value.int IntKind.i64 0, Value.int IntKind.i64 0, Value.int IntKind.i64 0, Value.string { data := #[] }, Value.string { data := #[] }, Value.int IntKind.i64 0, Value.int IntKind.i64 0, Value.string { data := #[] }]),
  (39, Value.nilFunc),
  (40, Value.nilFunc),
  (41, Value.slice none 0 0),
  (42, Value.nilFunc),
  (43, Value.slice none 0 0),
  (44, Value.nilFunc),
  (45, Value.slice none 0 0),
  (46, Value.nilFunc),
  (47, Value.nilFunc),
  (48, Value.nilFunc),
  (49, Value.nilFunc),
  (50, Value.nilFunc),
  (51, Value.nilFunc),
  (52, Value.slice none 0 0),
  (53, Value.nilFunc),
  (54, Value.nilFunc),
  (56, Value.nilFunc),
  (58, Value.nilFunc),
  (59, Value.nilFunc),
  (60, Value.nilFunc),
  (61, Value.nilFunc),
  (63, Value.nilFunc),
  (64, Value.nilFunc),
  (65, Value.nilFunc),
  (66, Value.nilFunc),
  (67, Value.pointer none),
  (68, Value.nilFunc),
  (69, Value.nilFunc),
  (71, Value.nilFunc),
  (73, Value.nilFunc),
  (74, Value.nilFunc),
  (75, Value.nilFunc),
  (76, Value.nilFunc),
  (77, Value.nilFunc),
  (78, Value.nilFunc),
  (79, Value.slice none 0 0),
  (80, Value.slice none 0 0),
  (81, Value.agg #[Value.slice none 0 0, Value.slice none 0 0]),
  (82, Value.agg #[Value.slice none 0 0, Value.slice none 0 0]),
  (83, Value.agg #[Value.int IntKind.i64 0, Value.int IntKind.i64 0, Value.int IntKind.i64 0, Value.int IntKind.i64 0, Value.slice none 0 0, Value.slice none 0 0, Value.slice none 0 0, Value.slice none 0 0, Value.slice none 0 0, Value.int IntKind.i64 0]),
  (84, Value.agg #[Value.int IntKind.i64 0, Value.int IntKind.i64 0, Value.int IntKind.i64 0, Value.int IntKind.i64 0, Value.slice none 0 0, Value.slice none 0 0, Value.slice none 0 0, Value.slice none 0 0, Value.slice none 0 0, Value.int IntKind.i64 0]),
  (85, Value.nilFunc),
  (86, Value.slice none 0 0),
  (87, Value.slice none 0 0),
  (88, Value.agg #[Value.slice none 0 0, Value.slice none 0 0]),
  (89, Value.agg #[Value.int IntKind.i64 0, Value.int IntKind.i64 0, Value.int IntKind.i64 0, Value.int IntKind.i64 0, Value.slice none 0 0, Value.slice none 0 0, Value.slice none 0 0, Value.slice none 0 0, Value.slice none 0 0, Value.int IntKind.i64 0]),
  (90, Value.agg #[Value.int IntKind.i64 0, Value.int IntKind.i64 0, Value.int IntKind.i64 0, Value.int IntKind.i64 0, Value.slice none 0 0, Value.slice none 0 0, Value.slice none 0 0, Value.slice none 0 0, Value.slice none 0 0, Value.int IntKind.i64 0]),
  (91, Value.nilFunc),
  (92, Value.nilFunc),
  (93, Value.nilFunc),
  (94, Value.nilFunc),
  (95, Value.nilFunc),
  (96, Value.nilFunc),
  (97, Value.nilFunc),
  (99, Value.nilFunc),
  (100, Value.nilFunc),
  (102, Value.nilFunc),
  (103, Value.nilFunc),
  (104, Value.agg #[Value.slice none 0 0, Value.int IntKind.i64 0, Value.int IntKind.i64 0]),
  (105, Value.agg #[Value.slice none 0 0, Value.int IntKind.i64 0, Value.int IntKind.i64 0]),
  (106, Value.nilFunc),
  (107, Value.nilFunc),
  (108, Value.nilFunc),
  (109, Value.nilFunc),
  (110, Value.nilFunc),
  (111, Value.nilFunc),
  (112, Value.nilFunc),
  (113, Value.nilFunc),
  (114, Value.nilFunc),
  (116, Value.nilFunc),
  (117, Value.nilFunc),
  (118, Value.nilFunc),
  (119, Value.nilFunc),
  (120, Value.nilFunc),
  (121, Value.agg #[Value.int IntKind.i64 0, Value.int IntKind.i64 0, Value.string { data := #[] }]),
  (122, Value.agg #[Value.int IntKind.i64 0, Value.int IntKind.i64 0, Value.string { data := #[] }]),
  (124, Value.nilFunc),
  (125, Value.nilFunc),
  (126, Value.pointer none),
  (127, Value.nilFunc),
  (131, Value.nilFunc),
  (132, Value.int IntKind.u64 0),
  (133, Value.nilFunc),
  (134, Value.agg #[Value.int IntKind.i64 0, Value.int IntKind.i64 0, Value.string { data := #[] }]),
  (135, Value.nilFunc),
  (136, Value.pointer none),
  (137, Value.agg #[Value.pointer none, Value.slice none 0 0]),
  (138, Value.agg #[Value.pointer none, Value.slice none 0 0]),
  (139, Value.nilFunc),
  (140, Value.nilFunc),
  (141, Value.nilFunc),
  (142, Value.slice none 0 0),
  (143, Value.agg #[Value.int IntKind.i64 0, Value.int IntKind.i64 0]),
  (144, Value.agg #[Value.int IntKind.i64 0, Value.int IntKind.i64 0]),
  (145, Value.int IntKind.u32 0),
  (146, Value.nilFunc),
  (147, Value.pointer none),
  (149, Value.nilFunc),
  (150, Value.nilFunc),
  (151, Value.nilFunc),
  (152, Value.nilFunc),
  (153, Value.pointer none),
  (154, Value.slice none 0 0),
  (155, Value.slice none 0 0),
  (156, Value.agg #[Value.slice none 0 0, Value.slice none 0 0, Value.int IntKind.i64 0]),
  (157, Value.agg #[Value.slice none 0 0, Value.slice none 0 0, Value.int IntKind.i64 0]),
  (159, Value.agg #[Value.int IntKind.u16 0, Value.int IntKind.u16 0, Value.int IntKind.u16 0]),
  (160, Value.agg #[Value.int IntKind.u16 0, Value.int IntKind.u16 0, Value.int IntKind.u16 0]),
  (161, Value.nilFunc),
  (162, Value.agg #[Value.int IntKind.u32 0, Value.int IntKind.u32 0, Value.int IntKind.u32 0]),
  (163, Value.agg #[Value.int IntKind.u32 0, Value.int IntKind.u32 0, Value.int IntKind.u32 0]),
  (164, Value.nilFunc),
  (165, Value.nilFunc),
  (166, Value.nilFunc),
  (167, Value.nilFunc),
  (168, Value.int IntKind.i64 0),
  (170, Value.nilFunc),
  (171, Value.pointer none),
  (175, Value.int IntKind.u64 0),
  (183, Value.pointer none),
  (184, Value.pointer none),
  (185, Value.int IntKind.u8 0),
  (196, Value.pointer none),
  (198, Value.agg #[Value.string { data := #[] }])]
def zr (t : Nat) : Option Value := lkZ zrL t
theorem zok : ∀ t z, zr t = some z → ∀ w, (zeroValue t).run Tryd.prog w = .ok z w := lkZ_ok ⟨Tryd.zeroValue1, Tryd.zeroValue2, Tryd.zeroValue3, Tryd.zeroValue4, Tryd.zeroValue5, Tryd.zeroValue6, Tryd.zeroValue7, Tryd.zeroValue8, Tryd.zeroValue9, Tryd.zeroValue10, Tryd.zeroValue11, Tryd.zeroValue12, Tryd.zeroValue13, Tryd.zeroValue14, Tryd.zeroValue15, Tryd.zeroValue16, Tryd.zeroValue17, Tryd.zeroValue18, Tryd.zeroValue19, Tryd.zeroValue21, Tryd.zeroValue22, Tryd.zeroValue23, Tryd.zeroValue24, Tryd.zeroValue25, Tryd.zeroValue26, Tryd.zeroValue27, Tryd.zeroValue28, Tryd.zeroValue29, Tryd.zeroValue30, Tryd.zeroValue31, Tryd.zeroValue32, Tryd.zeroValue33, Tryd.zeroValue34, Tryd.zeroValue35, Tryd.zeroValue36, Tryd.zeroValue37, Tryd.zeroValue38, Tryd.zeroValue39, Tryd.zeroValue40, Tryd.zeroValue41, Tryd.zeroValue42, Tryd.zeroValue43, Tryd.zeroValue44, Tryd.zeroValue45, Tryd.zeroValue46, Tryd.zeroValue47, Tryd.zeroValue48, Tryd.zeroValue49, Tryd.zeroValue50, Tryd.zeroValue51, Tryd.zeroValue52, Tryd.zeroValue53, Tryd.zeroValue54, Tryd.zeroValue56, Tryd.zeroValue58, Tryd.zeroValue59, Tryd.zeroValue60, Tryd.zeroValue61, Tryd.zeroValue63, Tryd.zeroValue64, Tryd.zeroValue65, Tryd.zeroValue66, Tryd.zeroValue67, Tryd.zeroValue68, Tryd.zeroValue69, Tryd.zeroValue71, Tryd.zeroValue73, Tryd.zeroValue74, Tryd.zeroValue75, Tryd.zeroValue76, Tryd.zeroValue77, Tryd.zeroValue78, Tryd.zeroValue79, Tryd.zeroValue80, Tryd.zeroValue81, Tryd.zeroValue82, Tryd.zeroValue83, Tryd.zeroValue84, Tryd.zeroValue85, Tryd.zeroValue86, Tryd.zeroValue87, Tryd.zeroValue88, Tryd.zeroValue89, Tryd.zeroValue90, Tryd.zeroValue91, Tryd.zeroValue92, Tryd.zeroValue93, Tryd.zeroValue94, Tryd.zeroValue95, Tryd.zeroValue96, Tryd.zeroValue97, Tryd.zeroValue99, Tryd.zeroValue100, Tryd.zeroValue102, Tryd.zeroValue103, Tryd.zeroValue104, Tryd.zeroValue105, Tryd.zeroValue106, Tryd.zeroValue107, Tryd.zeroValue108, Tryd.zeroValue109, Tryd.zeroValue110, Tryd.zeroValue111, Tryd.zeroValue112, Tryd.zeroValue113, Tryd.zeroValue114, Tryd.zeroValue116, Tryd.zeroValue117, Tryd.zeroValue118, Tryd.zeroValue119, Tryd.zeroValue120, Tryd.zeroValue121, Tryd.zeroValue122, Tryd.zeroValue124, Tryd.zeroValue125, Tryd.zeroValue126, Tryd.zeroValue127, Tryd.zeroValue131, Tryd.zeroValue132, Tryd.zeroValue133, Tryd.zeroValue134, Tryd.zeroValue135, Tryd.zeroValue136, Tryd.zeroValue137, Tryd.zeroValue138, Tryd.zeroValue139, Tryd.zeroValue140, Tryd.zeroValue141, Tryd.zeroValue142, Tryd.zeroValue143, Tryd.zeroValue144, Tryd.zeroValue145, Tryd.zeroValue146, Tryd.zeroValue147, Tryd.zeroValue149, Tryd.zeroValue150, Tryd.zeroValue151, Tryd.zeroValue152, Tryd.zeroValue153, Tryd.zeroValue154, Tryd.zeroValue155, Tryd.zeroValue156, Tryd.zeroValue157, Tryd.zeroValue159, Tryd.zeroValue160, Tryd.zeroValue161, Tryd.zeroValue162, Tryd.zeroValue163, Tryd.zeroValue164, Tryd.zeroValue165, Tryd.zeroValue166, Tryd.zeroValue167, Tryd.zeroValue168, Tryd.zeroValue170, Tryd.zeroValue171, Tryd.zeroValue175, Tryd.zeroValue183, Tryd.zeroValue184, Tryd.zeroValue185, Tryd.zeroValue196, Tryd.zeroValue198, trivial⟩
theorem ti_1 : ti 1 = .one := rfl
theorem ti_2 : ti 2 = .int .i64 := rfl
theorem ti_3 : ti 3 = .int .i64 := rfl
theorem ti_4 : ti 4 = .bool := rfl
theorem ti_5 : ti 5 = .int .u8 := rfl
theorem ti_6 : ti 6 = .int .u8 := rfl
theorem ti_7 : ti 7 = .st 4 [(0, 1), (1, 1), (2, 1), (3, 1)] := rfl
theorem ti_8 : ti 8 = .st 4 [(0, 1), (1, 1), (2, 1), (3, 1)] := rfl
theorem ti_9 : ti 9 = .str := rfl
theorem ti_10 : ti 10 = .str := rfl
theorem ti_11 : ti 11 = .str := rfl
theorem ti_12 : ti 12 = .int .u64 := rfl
theorem ti_13 : ti 13 = .st 2 [(0, 1), (1, 1)] := rfl
theorem ti_14 : ti 14 = .st 2 [(0, 1), (1, 1)] := rfl
theorem ti_15 : ti 15 = .one := rfl
theorem ti_16 : ti 16 = .one := rfl
theorem ti_17 : ti 17 = .one := rfl
theorem ti_18 : ti 18 = .st 1 [(0, 1)] := rfl
theorem ti_19 : ti 19 = .st 1 [(0, 1)] := rfl
theorem ti_21 : ti 21 = .int .i32 := rfl
theorem ti_22 : ti 22 = .sl 5 1 1 := rfl
theorem ti_23 : ti 23 = .one := rfl
theorem ti_24 : ti 24 = .one := rfl
theorem ti_25 : ti 25 = .one := rfl
theorem ti_26 : ti 26 = .one := rfl
theorem ti_27 : ti 27 = .st 6 [(0, 1), (1, 1), (2, 1), (3, 1), (4, 1), (5, 1)] := rfl
theorem ti_28 : ti 28 = .st 6 [(0, 1), (1, 1), (2, 1), (3, 1), (4, 1), (5, 1)] := rfl
theorem ti_29 : ti 29 = .st 6 [(0, 1), (1, 1), (2, 1), (3, 1), (4, 1), (5, 1)] := rfl
theorem ti_30 : ti 30 = .one := rfl
theorem ti_31 : ti 31 = .one := rfl
theorem ti_32 : ti 32 = .one := rfl
theorem ti_33 : ti 33 = .st 9 [(0, 1), (1, 1), (2, 1), (3, 6)] := rfl
theorem ti_34 : ti 34 = .st 9 [(0, 1), (1, 1), (2, 1), (3, 6)] := rfl
theorem ti_35 : ti 35 = .one := rfl
theorem ti_36 : ti 36 = .one := rfl
theorem ti_37 : ti 37 = .st 9 [(0, 1), (1, 1), (2, 1), (3, 6)] := rfl
theorem ti_38 : ti 38 = .st 9 [(0, 1), (1, 1), (2, 1), (3, 6)] := rfl
theorem ti_39 : ti 39 = .one := rfl
theorem ti_40 : ti 40 = .one := rfl
theorem ti_41 : ti 41 = .sl 84 10 160 := rfl
theorem ti_42 : ti 42 = .one := rfl
theorem ti_43 : ti 43 = .sl 9 1 16 := rfl
theorem ti_44 : ti 44 = .one := rfl
theorem ti_45 : ti 45 = .sl 90 10 160 := rfl
theorem ti_46 : ti 46 = .one := rfl
theorem ti_47 : ti 47 = .one := rfl
theorem ti_48 : ti 48 = .one := rfl
theorem ti_49 : ti 49 = .one := rfl
theorem ti_50 : ti 50 = .one := rfl
theorem ti_51 : ti 51 = .one := rfl
theorem ti_52 : ti 52 = .sl 3 1 8 := rfl
theorem ti_53 : ti 53 = .one := rfl
theorem ti_54 : ti 54 = .one := rfl
theorem ti_56 : ti 56 = .one := rfl
theorem ti_58 : ti 58 = .one := rfl
theorem ti_59 : ti 59 = .one := rfl
theorem ti_60 : ti 60 = .one := rfl
theorem ti_61 : ti 61 = .one := rfl
theorem ti_63 : ti 63 = .one := rfl
theorem ti_64 : ti 64 = .one := rfl
theorem ti_65 : ti 65 = .one := rfl
theorem ti_66 : ti 66 = .one := rfl
theorem ti_67 : ti 67 = .one := rfl
theorem ti_68 : ti 68 = .one := rfl
theorem ti_69 : ti 69 = .one := rfl
theorem ti_71 : ti 71 = .one := rfl
theorem ti_73 : ti 73 = .one := rfl
theorem ti_74 : ti 74 = .one := rfl
theorem ti_75 : ti 75 = .one := rfl
theorem ti_76 : ti 76 = .one := rfl
theorem ti_77 : ti 77 = .one := rfl
theorem ti_78 : ti 78 = .one := rfl
theorem ti_79 : ti 79 = .sl 29 6 72 := rfl
theorem ti_80 : ti 80 = .sl 134 3 32 := rfl
theorem ti_81 : ti 81 = .st 2 [(0, 1), (1, 1)] := rfl
theorem ti_82 : ti 82 = .st 2 [(0, 1), (1, 1)] := rfl
theorem ti_83 : ti 83 = .st 10 [(0, 1), (1, 1), (2, 1), (3, 1), (4, 1), (5, 1), (6, 2), (8, 1), (9, 1)] := rfl
theorem ti_84 : ti 84 = .st 10 [(0, 1), (1, 1), (2, 1), (3, 1), (4, 1), (5, 1), (6, 2), (8, 1), (9, 1)] := rfl
theorem ti_85 : ti 85 = .one := rfl
theorem ti_86 : ti 86 = .sl 28 6 72 := rfl
theorem ti_87 : ti 87 = .sl 122 3 32 := rfl
theorem ti_88 : ti 88 = .st 2 [(0, 1), (1, 1)] := rfl
theorem ti_89 : ti 89 = .st 10 [(0, 1), (1, 1), (2, 1), (3, 1), (4, 1), (5, 1), (6, 2), (8, 1), (9, 1)] := rfl
theorem ti_90 : ti 90 = .st 10 [(0, 1), (1, 1), (2, 1), (3, 1), (4, 1), (5, 1), (6, 2), (8, 1), (9, 1)] := rfl
theorem ti_91 : ti 91 = .one := rfl
theorem ti_92 : ti 92 = .one := rfl
theorem ti_93 : ti 93 = .one := rfl
theorem ti_94 : ti 94 = .one := rfl
theorem ti_95 : ti 95 = .one := rfl
theorem ti_96 : ti 96 = .one := rfl
theorem ti_97 : ti 97 = .one := rfl
theorem ti_99 : ti 99 = .one := rfl
theorem ti_100 : ti 100 = .one := rfl
theorem ti_102 : ti 102 = .one := rfl
theorem ti_103 : ti 103 = .one := rfl
theorem ti_104 : ti 104 = .st 3 [(0, 1), (1, 1), (2, 1)] := rfl
theorem ti_105 : ti 105 = .st 3 [(0, 1), (1, 1), (2, 1)] := rfl
theorem ti_106 : ti 106 = .one := rfl
theorem ti_107 : ti 107 = .one := rfl
theorem ti_108 : ti 108 = .one := rfl
theorem ti_109 : ti 109 = .one := rfl
theorem ti_110 : ti 110 = .one := rfl
theorem ti_111 : ti 111 = .one := rfl
theorem ti_112 : ti 112 = .one := rfl
theorem ti_113 : ti 113 = .one := rfl
theorem ti_114 : ti 114 = .one := rfl
theorem ti_116 : ti 116 = .one := rfl
theorem ti_117 : ti 117 = .one := rfl
theorem ti_118 : ti 118 = .one := rfl
theorem ti_119 : ti 119 = .one := rfl
theorem ti_120 : ti 120 = .one := rfl
theorem ti_121 : ti 121 = .st 3 [(0, 1), (1, 1), (2, 1)] := rfl
theorem ti_122 : ti 122 = .st 3 [(0, 1), (1, 1), (2, 1)] := rfl
theorem ti_124 : ti 124 = .one := rfl
theorem ti_125 : ti 125 = .one := rfl
theorem ti_126 : ti 126 = .one := rfl
theorem ti_127 : ti 127 = .one := rfl
theorem ti_131 : ti 131 = .one := rfl
theorem ti_132 : ti 132 = .int .u64 := rfl
theorem ti_133 : ti 133 = .one := rfl
theorem ti_134 : ti 134 = .st 3 [(0, 1), (1, 1), (2, 1)] := rfl
theorem ti_135 : ti 135 = .one := rfl
theorem ti_136 : ti 136 = .one := rfl
theorem ti_137 : ti 137 = .st 2 [(0, 1), (1, 1)] := rfl
theorem ti_138 : ti 138 = .st 2 [(0, 1), (1, 1)] := rfl
theorem ti_139 : ti 139 = .one := rfl
theorem ti_140 : ti 140 = .one := rfl
theorem ti_141 : ti 141 = .one := rfl
theorem ti_142 : ti 142 = .sl 144 2 16 := rfl
theorem ti_143 : ti 143 = .st 2 [(0, 1), (1, 1)] := rfl
theorem ti_144 : ti 144 = .st 2 [(0, 1), (1, 1)] := rfl
theorem ti_145 : ti 145 = .int .u32 := rfl
theorem ti_146 : ti 146 = .one := rfl
theorem ti_147 : ti 147 = .one := rfl
theorem ti_149 : ti 149 = .one := rfl
theorem ti_150 : ti 150 = .one := rfl
theorem ti_151 : ti 151 = .one := rfl
theorem ti_152 : ti 152 = .one := rfl
theorem ti_153 : ti 153 = .one := rfl
theorem ti_154 : ti 154 = .sl 160 3 6 := rfl
theorem ti_155 : ti 155 = .sl 163 3 12 := rfl
theorem ti_156 : ti 156 = .st 3 [(0, 1), (1, 1), (2, 1)] := rfl
theorem ti_157 : ti 157 = .st 3 [(0, 1), (1, 1), (2, 1)] := rfl
theorem ti_159 : ti 159 = .st 3 [(0, 1), (1, 1), (2, 1)] := rfl
theorem ti_160 : ti 160 = .st 3 [(0, 1), (1, 1), (2, 1)] := rfl
theorem ti_161 : ti 161 = .one := rfl
theorem ti_162 : ti 162 = .st 3 [(0, 1), (1, 1), (2, 1)] := rfl
theorem ti_163 : ti 163 = .st 3 [(0, 1), (1, 1), (2, 1)] := rfl
theorem ti_164 : ti 164 = .one := rfl
theorem ti_165 : ti 165 = .one := rfl
theorem ti_166 : ti 166 = .one := rfl
theorem ti_167 : ti 167 = .one := rfl
theorem ti_168 : ti 168 = .int .i64 := rfl
theorem ti_170 : ti 170 = .one := rfl
theorem ti_171 : ti 171 = .one := rfl
theorem ti_175 : ti 175 = .int .u64 := rfl
theorem ti_183 : ti 183 = .one := rfl
theorem ti_184 : ti 184 = .one := rfl
theorem ti_185 : ti 185 = .int .u8 := rfl
theorem ti_189 : ti 189 = .st 3 [(0, 1), (1, 1), (2, 1)] := rfl
theorem ti_196 : ti 196 = .one := rfl
theorem ti_198 : ti 198 = .st 1 [(0, 1)] := rfl
theorem zr_1 : zr 1 = some (Value.nilFunc) := rfl
theorem zr_2 : zr 2 = some (Value.int IntKind.i64 0) := rfl
theorem zr_3 : zr 3 = some (Value.int IntKind.i64 0) := rfl
theorem zr_4 : zr 4 = some (Value.bool false) := rfl
theorem zr_5 : zr 5 = some (Value.int IntKind.u8 0) := rfl
theorem zr_6 : zr 6 = some (Value.int IntKind.u8 0) := rfl
theorem zr_7 : zr 7 = some (Value.agg #[Value.int IntKind.i64 0, Value.int IntKind.i64 0, Value.bool false, Value.int IntKind.u8 0]) := rfl
theorem zr_8 : zr 8 = some (Value.agg #[Value.int IntKind.i64 0, Value.int IntKind.i64 0, Value.bool false, Value.int IntKind.u8 0]) := rfl
theorem zr_9 : zr 9 = some (Value.string { data := #[] }) := rfl
theorem zr_10 : zr 10 = some (Value.string { data := #[] }) := rfl
theorem zr_11 : zr 11 = some (Value.string { data := #[] }) := rfl
theorem zr_12 : zr 12 = some (Value.int IntKind.u64 0) := rfl
theorem zr_13 : zr 13 = some (Value.agg #[Value.string { data := #[] }, Value.int IntKind.u64 0]) := rfl
theorem zr_14 : zr 14 = some (Value.agg #[Value.string { data := #[] }, Value.int IntKind.u64 0]) := rfl
theorem zr_15 : zr 15 = some (Value.pointer none) := rfl
theorem zr_16 : zr 16 = some (Value.pointer none) := rfl
theorem zr_17 : zr 17 = some (Value.pointer none) := rfl
theorem zr_18 : zr 18 = some (Value.agg #[Value.pointer none]) := rfl
theorem zr_19 : zr 19 = some (Value.agg #[Value.pointer none]) := rfl
theorem zr_21 : zr 21 = some (Value.int IntKind.i32 0) := rfl
theorem zr_22 : zr 22 = some (Value.slice none 0 0) := rfl
theorem zr_23 : zr 23 = some (Value.nilFunc) := rfl
theorem zr_24 : zr 24 = some (Value.nilFunc) := rfl
theorem zr_25 : zr 25 = some (Value.nilFunc) := rfl
theorem zr_26 : zr 26 = some (Value.nilFunc) := rfl
theorem zr_27 : zr 27 = some (Value.agg #[Value.int IntKind.i64 0, Value.string { data := #[] }, Value.string { data := #[] }, Value.int IntKind.i64 0, Value.int IntKind.i64 0, Value.string { data := #[] }]) := rfl
theorem zr_28 : zr 28 = some (Value.agg #[Value.int IntKind.i64 0, Value.string { data := #[] }, Value.string { data := #[] }, Value.int IntKind.i64 0, Value.int IntKind.i64 0, Value.string { data := #[] }]) := rfl
theorem zr_29 : zr 29 = some (Value.agg #[Value.int IntKind.i64 0, Value.string { data := #[] }, Value.string { data := #[] }, Value.int IntKind.i64 0, Value.int IntKind.i64 0, Value.string { data := #[] }]) := rfl
theorem zr_30 : zr 30 = some (Value.nilFunc) := rfl
theorem zr_31 : zr 31 = some (Value.nilFunc) := rfl
theorem zr_32 : zr 32 = some (Value.nilFunc) := rfl
theorem zr_33 : zr 33 = some (Value.agg #[Value.int IntKind.i64 0, Value.int IntKind.i64 0, Value.int IntKind.i64 0, Value.int IntKind.i64 0, Value.string { data := #[] }, Value.string { data := #[] }, Value.int IntKind.i64 0, Value.int IntKind.i64 0, Value.string { data := #[] }]) := rfl
theorem zr_34 : zr 34 = some (Value.agg #[Value.int IntKind.i64 0, Value.int IntKind.i64 0, Value.int IntKind.i64 0, Value.int IntKind.i64 0, Value.string { data := #[] }, Value.string { data := #[] }, Value.int IntKind.i64 0, Value.int IntKind.i64 0, Value.string { data := #[] }]) := rfl
theorem zr_35 : zr 35 = some (Value.nilFunc) := rfl
theorem zr_36 : zr 36 = some (Value.nilFunc) := rfl
theorem zr_37 : zr 37 = some (Value.agg #[Value.int IntKind.i64 0, Value.int IntKind.i64 0, Value.int IntKind.i64 0, Value.int IntKind.i64 0, Value.string { data := #[] }, Value.string { data := #[] }, Value.int IntKind.i64 0, Value.int IntKind.i64 0, Value.string { data := #[] }]) := rfl
theorem zr_38 : zr 38 = some (Value.agg #[Value.int IntKind.i64 0, Value.int IntKind.i64 0, Value.int IntKind.i64 0, Value.int IntKind.i64 0, Value.string { data := #[] }, Value.string { data := #[] }, Value.int IntKind.i64 0, Value.int IntKind.i64 0, Value.string { data := #[] }]) := rfl
theorem zr_39 : zr 39 = some (Value.nilFunc) := rfl
theorem zr_40 : zr 40 = some (Value.nilFunc) := rfl
theorem zr_41 : zr 41 = some (Value.slice none 0 0) := rfl
theorem zr_42 : zr 42 = some (Value.nilFunc) := rfl
theorem zr_43 : zr 43 = some (Value.slice none 0 0) := rfl
theorem zr_44 : zr 44 = some (Value.nilFunc) := rfl
theorem zr_45 : zr 45 = some (Value.slice none 0 0) := rfl
theorem zr_46 : zr 46 = some (Value.nilFunc) := rfl
theorem zr_47 : zr 47 = some (Value.nilFunc) := rfl
theorem zr_48 : zr 48 = some (Value.nilFunc) := rfl
theorem zr_49 : zr 49 = some (Value.nilFunc) := rfl
theorem zr_50 : zr 50 = some (Value.nilFunc) := rfl
theorem zr_51 : zr 51 = some (Value.nilFunc) := rfl
theorem zr_52 : zr 52 = some (Value.slice none 0 0) := rfl
theorem zr_53 : zr 53 = some (Value.nilFunc) := rfl
theorem zr_54 : zr 54 = some (Value.nilFunc) := rfl
theorem zr_56 : zr 56 = some (Value.nilFunc) := rfl
theorem zr_58 : zr 58 = some (Value.nilFunc) := rfl
theorem zr_59 : zr 59 = some (Value.nilFunc) := rfl
theorem zr_60 : zr 60 = some (Value.nilFunc) := rfl
theorem zr_61 : zr 61 = some (Value.nilFunc) := rfl
theorem zr_63 : zr 63 = some (Value.nilFunc) := rfl
theorem zr_64 : zr 64 = some (Value.nilFunc) := rfl
theorem zr_65 : zr 65 = some (Value.nilFunc) := rfl
theorem zr_66 : zr 66 = some (Value.nilFunc) := rfl
theorem zr_67 : zr 67 = some (Value.pointer none) := rfl
theorem zr_68 : zr 68 = some (Value.nilFunc) := rfl
theorem zr_69 : zr 69 = some (Value.nilFunc) := rfl
theorem zr_71 : zr 71 = some (Value.nilFunc) := rfl
theorem zr_73 : zr 73 = some (Value.nilFunc) := rfl
theorem zr_74 : zr 74 = some (Value.nilFunc) := rfl
theorem zr_75 : zr 75 = some (Value.nilFunc) := rfl
theorem zr_76 : zr 76 = some (Value.nilFunc) := rfl
theorem zr_77 : zr 77 = some (Value.nilFunc) := rfl
theorem zr_78 : zr 78 = some (Value.nilFunc) := rfl
theorem zr_79 : zr 79 = some (Value.slice none 0 0) := rfl
theorem zr_80 : zr 80 = some (Value.slice none 0 0) := rfl
theorem zr_81 : zr 81 = some (Value.agg #[Value.slice none 0 0, Value.slice none 0 0]) := rfl
theorem zr_82 : zr 82 = some (Value.agg #[Value.slice none 0 0, Value.slice none 0 0]) := rfl
theorem zr_83 : zr 83 = some (Value.agg #[Value.int IntKind.i64 0, Value.int IntKind.i64 0, Value.int IntKind.i64 0, Value.int IntKind.i64 0, Value.slice none 0 0, Value.slice none 0 0, Value.slice none 0 0, Value.slice none 0 0, Value.slice none 0 0, Value.int IntKind.i64 0]) := rfl
theorem zr_84 : zr 84 = some (Value.agg #[Value.int IntKind.i64 0, Value.int IntKind.i64 0, Value.int IntKind.i64 0, Value.int IntKind.i64 0, Value.slice none 0 0, Value.slice none 0 0, Value.slice none 0 0, Value.slice none 0 0, Value.slice none 0 0, Value.int IntKind.i64 0]) := rfl
theorem zr_85 : zr 85 = some (Value.nilFunc) := rfl
theorem zr_86 : zr 86 = some (Value.slice none 0 0) := rfl
theorem zr_87 : zr 87 = some (Value.slice none 0 0) := rfl
theorem zr_88 : zr 88 = some (Value.agg #[Value.slice none 0 0, Value.slice none 0 0]) := rfl
theorem zr_89 : zr 89 = some (Value.agg #[Value.int IntKind.i64 0, Value.int IntKind.i64 0, Value.int IntKind.i64 0, Value.int IntKind.i64 0, Value.slice none 0 0, Value.slice none 0 0, Value.slice none 0 0, Value.slice none 0 0, Value.slice none 0 0, Value.int IntKind.i64 0]) := rfl
theorem zr_90 : zr 90 = some (Value.agg #[Value.int IntKind.i64 0, Value.int IntKind.i64 0, Value.int IntKind.i64 0, Value.int IntKind.i64 0, Value.slice none 0 0, Value.slice none 0 0, Value.slice none 0 0, Value.slice none 0 0, Value.slice none 0 0, Value.int IntKind.i64 0]) := rfl
theorem zr_91 : zr 91 = some (Value.nilFunc) := rfl
theorem zr_92 : zr 92 = some (Value.nilFunc) := rfl
theorem zr_93 : zr 93 = some (Value.nilFunc) := rfl
theorem zr_94 : zr 94 = some (Value.nilFunc) := rfl
theorem zr_95 : zr 95 = some (Value.nilFunc) := rfl
theorem zr_96 : zr 96 = some (Value.nilFunc) := rfl
theorem zr_97 : zr 97 = some (Value.nilFunc) := rfl
theorem zr_99 : zr 99 = some (Value.nilFunc) := rfl
theorem zr_100 : zr 100 = some (Value.nilFunc) := rfl
theorem zr_102 : zr 102 = some (Value.nilFunc) := rfl
theorem zr_103 : zr 103 = some (Value.nilFunc) := rfl
theorem zr_104 : zr 104 = some (Value.agg #[Value.slice none 0 0, Value.int IntKind.i64 0, Value.int IntKind.i64 0]) := rfl
theorem zr_105 : zr 105 = some (Value.agg #[Value.slice none 0 0, Value.int IntKind.i64 0, Value.int IntKind.i64 0]) := rfl
theorem zr_106 : zr 106 = some (Value.nilFunc) := rfl
theorem zr_107 : zr 107 = some (Value.nilFunc) := rfl
theorem zr_108 : zr 108 = some (Value.nilFunc) := rfl
theorem zr_109 : zr 109 = some (Value.nilFunc) := rfl
theorem zr_110 : zr 110 = some (Value.nilFunc) := rfl
theorem zr_111 : zr 111 = some (Value.nilFunc) := rfl
theorem zr_112 : zr 112 = some (Value.nilFunc) := rfl
theorem zr_113 : zr 113 = some (Value.nilFunc) := rfl
theorem zr_114 : zr 114 = some (Value.nilFunc) := rfl
theorem zr_116 : zr 116 = some (Value.nilFunc) := rfl
theorem zr_117 : zr 117 = some (Value.nilFunc) := rfl
theorem zr_118 : zr 118 = some (Value.nilFunc) := rfl
theorem zr_119 : zr 119 = some (Value.nilFunc) := rfl
theorem zr_120 : zr 120 = some (Value.nilFunc) := rfl
theorem zr_121 : zr 121 = some (Value.agg #[Value.int IntKind.i64 0, Value.int IntKind.i64 0, Value.string { data := #[] }]) := rfl
theorem zr_122 : zr 122 = some (Value.agg #[Value.int IntKind.i64 0, Value.int IntKind.i64 0, Value.string { data := #[] }]) := rfl
theorem zr_124 : zr 124 = some (Value.nilFunc) := rfl
theorem zr_125 : zr 125 = some (Value.nilFunc) := rfl
theorem zr_126 : zr 126 = some (Value.pointer none) := rfl
theorem zr_127 : zr 127 = some (Value.nilFunc) := rfl
theorem zr_131 : zr 131 = some (Value.nilFunc) := rfl
theorem zr_132 : zr 132 = some (Value.int IntKind.u64 0) := rfl
theorem zr_133 : zr 133 = some (Value.nilFunc) := rfl
theorem zr_134 : zr 134 = some (Value.agg #[Value.int IntKind.i64 0, Value.int IntKind.i64 0, Value.string { data := #[] }]) := rfl
theorem zr_135 : zr 135 = some (Value.nilFunc) := rfl
theorem zr_136 : zr 136 = some (Value.pointer none) := rfl
theorem zr_137 : zr 137 = some (Value.agg #[Value.pointer none, Value.slice none 0 0]) := rfl
theorem zr_138 : zr 138 = some (Value.agg #[Value.pointer none, Value.slice none 0 0]) := rfl
theorem zr_139 : zr 139 = some (Value.nilFunc) := rfl
theorem zr_140 : zr 140 = some (Value.nilFunc) := rfl
theorem zr_141 : zr 141 = some (Value.nilFunc) := rfl
theorem zr_142 : zr 142 = some (Value.slice none 0 0) := rfl
theorem zr_143 : zr 143 = some (Value.agg #[Value.int IntKind.i64 0, Value.int IntKind.i64 0]) := rfl
theorem zr_144 : zr 144 = some (Value.agg #[Value.int IntKind.i64 0, Value.int IntKind.i64 0]) := rfl
theorem zr_145 : zr 145 = some (Value.int IntKind.u32 0) := rfl
theorem zr_146 : zr 146 = some (Value.nilFunc) := rfl
theorem zr_147 : zr 147 = some (Value.pointer none) := rfl
theorem zr_149 : zr 149 = some (Value.nilFunc) := rfl
theorem zr_150 : zr 150 = some (Value.nilFunc) := rfl
theorem zr_151 : zr 151 = some (Value.nilFunc) := rfl
theorem zr_152 : zr 152 = some (Value.nilFunc) := rfl
theorem zr_153 : zr 153 = some (Value.pointer none) := rfl
theorem zr_154 : zr 154 = some (Value.slice none 0 0) := rfl
theorem zr_155 : zr 155 = some (Value.slice none 0 0) := rfl
theorem zr_156 : zr 156 = some (Value.agg #[Value.slice none 0 0, Value.slice none 0 0, Value.int IntKind.i64 0]) := rfl
theorem zr_157 : zr 157 = some (Value.agg #[Value.slice none 0 0, Value.slice none 0 0, Value.int IntKind.i64 0]) := rfl
theorem zr_159 : zr 159 = some (Value.agg #[Value.int IntKind.u16 0, Value.int IntKind.u16 0, Value.int IntKind.u16 0]) := rfl
theorem zr_160 : zr 160 = some (Value.agg #[Value.int IntKind.u16 0, Value.int IntKind.u16 0, Value.int IntKind.u16 0]) := rfl
theorem zr_161 : zr 161 = some (Value.nilFunc) := rfl
theorem zr_162 : zr 162 = some (Value.agg #[Value.int IntKind.u32 0, Value.int IntKind.u32 0, Value.int IntKind.u32 0]) := rfl
theorem zr_163 : zr 163 = some (Value.agg #[Value.int IntKind.u32 0, Value.int IntKind.u32 0, Value.int IntKind.u32 0]) := rfl
theorem zr_164 : zr 164 = some (Value.nilFunc) := rfl
theorem zr_165 : zr 165 = some (Value.nilFunc) := rfl
theorem zr_166 : zr 166 = some (Value.nilFunc) := rfl
theorem zr_167 : zr 167 = some (Value.nilFunc) := rfl
theorem zr_168 : zr 168 = some (Value.int IntKind.i64 0) := rfl
theorem zr_170 : zr 170 = some (Value.nilFunc) := rfl
theorem zr_171 : zr 171 = some (Value.pointer none) := rfl
theorem zr_175 : zr 175 = some (Value.int IntKind.u64 0) := rfl
theorem zr_183 : zr 183 = some (Value.pointer none) := rfl
theorem zr_184 : zr 184 = some (Value.pointer none) := rfl
theorem zr_185 : zr 185 = some (Value.int IntKind.u8 0) := rfl
theorem zr_196 : zr 196 = some (Value.pointer none) := rfl
theorem zr_198 : zr 198 = some (Value.agg #[Value.string { data := #[] }]) := rfl
def Gw (w : World) : Prop := GV 0 (gl0.map Value.string) w ∧ GV 1 (gl1.map Value.string) w ∧ GV 2 (gl2.map (Value.int .u8)) w ∧ GV 7 (gl7.map (Value.int .u64)) w ∧ GE 4 w ∧ GE 5 w ∧ GE 6 w
theorem GV.keep {g : Nat} {cs : List Value} {w w' : World} (h : GV g cs w) (hk : Keep (Old w) w w') : GV g cs w' := by
  have hl := h.lt
  obtain ⟨T, fr, h⟩ := h
  exact ⟨T, fr, (hk.block g hl).trans h⟩
theorem Gstab : ∀ w w', Gw w → Keep (Old w) w w' → Gw w' := fun _ _ h hk => ⟨h.1.keep hk, h.2.1.keep hk, h.2.2.1.keep hk, h.2.2.2.1.keep hk, h.2.2.2.2.1.keep hk, h.2.2.2.2.2.1.keep hk, h.2.2.2.2.2.2.keep hk⟩
def gls : List Nat := [0, 1, 2, 7, 4, 5, 6]
theorem Gin (w : World) (h : Gw w) : ∀ g ∈ gls, Old w g := fun g hg => by
  simp only [gls, List.mem_cons, List.not_mem_nil, or_false] at hg
  rcases hg with rfl | rfl | rfl | rfl | rfl | rfl | rfl
  · exact h.1.lt
  · exact h.2.1.lt
  · exact h.2.2.1.lt
  · exact h.2.2.2.1.lt
  · exact h.2.2.2.2.1.lt
  · exact h.2.2.2.2.2.1.lt
  · exact h.2.2.2.2.2.2.lt
theorem Gl0 : ∀ w, Gw w → GV 0 (gl0.map Value.string) w := fun _ h => h.1
theorem Gl1 : ∀ w, Gw w → GV 1 (gl1.map Value.string) w := fun _ h => h.2.1
theorem Gl2 : ∀ w, Gw w → GV 2 (gl2.map (Value.int .u8)) w := fun _ h => h.2.2.1
theorem Gl7 : ∀ w, Gw w → GV 7 (gl7.map (Value.int .u64)) w := fun _ h => h.2.2.2.1
theorem Gl4 : ∀ w, Gw w → GE 4 w := fun _ h => h.2.2.2.2.1
theorem Gl5 : ∀ w, Gw w → GE 5 w := fun _ h => h.2.2.2.2.2.1
theorem Gl6 : ∀ w, Gw w → GE 6 w := fun _ h => h.2.2.2.2.2.2

theorem sysok : SysOk Tryd.prog ti zr Gw := ⟨tiok, zok, Gstab⟩
theorem mixed : Tryd.prog.follows .mixedOrders = true := by kernel_rfl
/-- Where a walk begins: what stands, and what is to be shown at the end. -/
structure Bs where
  S0 : Nat → Prop
  w : World
  gok : ∀ w', Keep S0 w w' → Gw w'
  base : ∀ b, S0 b → b < w.heap.size
  gin : ∀ g ∈ gls, S0 g
  Q : (World → Value → Prop) → World → Value → Prop
@[reducible] def Bs.old (w : World) (hG : Gw w) : Bs := ⟨Old w, w, fun w' hk => Gstab w w' hG hk, fun _ h => h, Gin w hG, fun R => R⟩
@[reducible] def Bs.mut (S : Nat → Prop) (w : World) (hG : ∀ w', Keep S w w' → Gw w') (hb : ∀ b, S b → b < w.heap.size) (hg : ∀ g ∈ gls, S g) (p : Nat → Loc) (mk : Nat) (E1 : List (Nat × En)) (nn : Nat) (r : List V) (G0 : Prop) : Bs := ⟨S, w, hG, hb, hg, fun _ => MQ S w p mk E1 nn r G0⟩
@[reducible] noncomputable def cx (fn : Func) (Bz : Bs) (S1 : Nat → Prop) (w1 : World) (hk1 : Keep Bz.S0 Bz.w w1) (hs1 : ∀ b, Bz.S0 b → S1 b) (hd1 : ∀ b, S1 b → b < w1.heap.size) : Cx := ⟨Tryd.prog, fn, ti, zr, Gw, S1, w1, tiok, zok, fun w' hk => Bz.gok w' (hk1.trans (hk.mono hs1)), hd1, Bz.Q⟩
abbrev CTEs (f : FuncId) (args : List Arg) (res : Value → List Re) (ok : Bool) : Prop := CTE Tryd.prog Gw f args res ok
abbrev CTMs (f : FuncId) (mk m0 : Nat) (E0 F0 : List (Nat × En)) (args : List V) (E1 : List (Nat × En)) (nn : Nat) (r : List V) (G0 : Prop) : Prop := CTM Tryd.prog Gw gls f mk m0 E0 F0 args E1 nn r G0
abbrev CTs (f : FuncId) (args : List Arg) (res : List Re) : Prop := CT Tryd.prog Gw f args res
theorem om {p : Prop} (h : p := by first | omega | (simp only [Bool.not_eq_eq_eq_not, Bool.not_true, Bool.not_false, decide_eq_true_eq, decide_eq_false_iff_not, Bool.not_eq_true', Bool.not_eq_false', Bool.or_eq_false_iff, Bool.or_eq_true, Bool.and_eq_true, Decidable.not_not] at *; omega) | ((repeat rw [IntWalk.i64_in _ (by omega)]); omega)) : p := h
section
variable {fn : Func} {Bz : Bs} {S1 : Nat → Prop} {w1 : World} {hk1 : Keep Bz.S0 Bz.w w1} {hs1 : ∀ b, Bz.S0 b → S1 b} {hd1 : ∀ b, S1 b → b < w1.heap.size} {res : List Re} {σ σ' : St} {k k' : List It}
/-- The machine goes on by itself, n steps. -/
theorem ad (n : Nat) (h : Run (cx fn Bz S1 w1 hk1 hs1 hd1) res σ' k') (hs : advN ti zr n (some (σ, k)) = some (σ', k') := by dsimp only [ncV, szA, cvV, rnR, rnE, V.rn, rnL, En.rn, dropE, memN, afterStE, an, stK, cdK, opK, gdK, nvK, cellsO, zcells, blK, bsK, stW, stV, ptK, litD, litC, pkV, wrV, binV, unV, ldV, faW, faV, agO, blV, exV, mfV, lenV, caV, fillT, fillS, stO', sdV, cons2, grdO, gBV, gPw, gPk, gGo, gK, gK1, gK2, tkK, tk1, rvsV, rvV, Nat.reduceAdd, Nat.reduceSub, Nat.reduceMul, advN, adv1, stO, litV, fillV, splice, pv, ev, evs, lk, lkE, setE, putE, put, cond, ldC, ldE, nthN, tuAt, bin, bi, bs, bb, ikq, TI.cells, V.cells, V.one, oneL, toBlk, grd, nthO, beqB, gB, wnt, gOp, adG, adG1, pickV, sideP, evG, V.side, V.strip, afterCall, afterIdx, afterApp, afterApp0, packV, bindRs, bindR, bindGs, bindG, bindAs, bindA, ini, slotsV, opn, nsl, adD, setAll, Str.fk, ti_1, ti_2, ti_3, ti_4, ti_5, ti_6, ti_7, ti_8, ti_9, ti_10, ti_11, ti_12, ti_13, ti_14, ti_15, ti_16, ti_17, ti_18, ti_19, ti_21, ti_22, ti_23, ti_24, ti_25, ti_26, ti_27, ti_28, ti_29, ti_30, ti_31, ti_32, ti_33, ti_34, ti_35, ti_36, ti_37, ti_38, ti_39, ti_40, ti_41, ti_42, ti_43, ti_44, ti_45, ti_46, ti_47, ti_48, ti_49, ti_50, ti_51, ti_52, ti_53, ti_54, ti_56, ti_58, ti_59, ti_60, ti_61, ti_63, ti_64, ti_65, ti_66, ti_67, ti_68, ti_69, ti_71, ti_73, ti_74, ti_75, ti_76, ti_77, ti_78, ti_79, ti_80, ti_81, ti_82, ti_83, ti_84, ti_85, ti_86, ti_87, ti_88, ti_89, ti_90, ti_91, ti_92, ti_93, ti_94, ti_95, ti_96, ti_97, ti_99, ti_100, ti_102, ti_103, ti_104, ti_105, ti_106, ti_107, ti_108, ti_109, ti_110, ti_111, ti_112, ti_113, ti_114, ti_116, ti_117, ti_118, ti_119, ti_120, ti_121, ti_122, ti_124, ti_125, ti_126, ti_127, ti_131, ti_132, ti_133, ti_134, ti_135, ti_136, ti_137, ti_138, ti_139, ti_140, ti_141, ti_142, ti_143, ti_144, ti_145, ti_146, ti_147, ti_149, ti_150, ti_151, ti_152, ti_153, ti_154, ti_155, ti_156, ti_157, ti_159, ti_160, ti_161, ti_162, ti_163, ti_164, ti_165, ti_166, ti_167, ti_168, ti_170, ti_171, ti_175, ti_183, ti_184, ti_185, ti_189, ti_196, ti_198, zr_1, zr_2, zr_3, zr_4, zr_5, zr_6, zr_7, zr_8, zr_9, zr_10, zr_11, zr_12, zr_13, zr_14, zr_15, zr_16, zr_17, zr_18, zr_19, zr_21, zr_22, zr_23, zr_24, zr_25, zr_26, zr_27, zr_28, zr_29, zr_30, zr_31, zr_32, zr_33, zr_34, zr_35, zr_36, zr_37, zr_38, zr_39, zr_40, zr_41, zr_42, zr_43, zr_44, zr_45, zr_46, zr_47, zr_48, zr_49, zr_50, zr_51, zr_52, zr_53, zr_54, zr_56, zr_58, zr_59, zr_60, zr_61, zr_63, zr_64, zr_65, zr_66, zr_67, zr_68, zr_69, zr_71, zr_73, zr_74, zr_75, zr_76, zr_77, zr_78, zr_79, zr_80, zr_81, zr_82, zr_83, zr_84, zr_85, zr_86, zr_87, zr_88, zr_89, zr_90, zr_91, zr_92, zr_93, zr_94, zr_95, zr_96, zr_97, zr_99, zr_100, zr_102, zr_103, zr_104, zr_105, zr_106, zr_107, zr_108, zr_109, zr_110, zr_111, zr_112, zr_113, zr_114, zr_116, zr_117, zr_118, zr_119, zr_120, zr_121, zr_122, zr_124, zr_125, zr_126, zr_127, zr_131, zr_132, zr_133, zr_134, zr_135, zr_136, zr_137, zr_138, zr_139, zr_140, zr_141, zr_142, zr_143, zr_144, zr_145, zr_146, zr_147, zr_149, zr_150, zr_151, zr_152, zr_153, zr_154, zr_155, zr_156, zr_157, zr_159, zr_160, zr_161, zr_162, zr_163, zr_164, zr_165, zr_166, zr_167, zr_168, zr_170, zr_171, zr_175, zr_183, zr_184, zr_185, zr_196, zr_198, Nat.blt, Nat.succ_eq_add_one, Nat.ble, Nat.beq, Nat.pred, Nat.add_zero, Nat.zero_add, Nat.add_eq, List.toList_toArray, List.length, List.length_cons, List.length_nil, List.take, List.drop, List.append_nil, List.nil_append, List.cons_append, List.map, List.take_succ_cons, List.take_zero, List.take_nil, List.drop_succ_cons, List.drop_zero, List.drop_nil, List.size_toArray, List.getD, id, Op.operands, Call.operands, Value.cells, Array.size_empty]) : Run (cx fn Bz S1 w1 hk1 hs1 hd1) res σ k := Run.advN n hs h
/-- .. under truths that are not known. -/
theorem ag (n : Nat) {l l' : List Oper} {all : Array Oper} {q : Prop} (h : Run (cx fn Bz S1 w1 hk1 hs1 hd1) res σ' (.ops l' all :: k)) (hs : adG ti zr all n (some (σ, l, True)) = some (σ', l', q) := by dsimp only [ncV, szA, cvV, rnR, rnE, V.rn, rnL, En.rn, dropE, memN, afterStE, an, stK, cdK, opK, gdK, nvK, cellsO, zcells, blK, bsK, stW, stV, ptK, litD, litC, pkV, wrV, binV, unV, ldV, faW, faV, agO, blV, exV, mfV, lenV, caV, fillT, fillS, stO', sdV, cons2, grdO, gBV, gPw, gPk, gGo, gK, gK1, gK2, tkK, tk1, rvsV, rvV, Nat.reduceAdd, Nat.reduceSub, Nat.reduceMul, advN, adv1, stO, litV, fillV, splice, pv, ev, evs, lk, lkE, setE, putE, put, cond, ldC, ldE, nthN, tuAt, bin, bi, bs, bb, ikq, TI.cells, V.cells, V.one, oneL, toBlk, grd, nthO, beqB, gB, wnt, gOp, adG, adG1, pickV, sideP, evG, V.side, V.strip, afterCall, afterIdx, afterApp, afterApp0, packV, bindRs, bindR, bindGs, bindG, bindAs, bindA, ini, slotsV, opn, nsl, adD, setAll, Str.fk, ti_1, ti_2, ti_3, ti_4, ti_5, ti_6, ti_7, ti_8, ti_9, ti_10, ti_11, ti_12, ti_13, ti_14, ti_15, ti_16, ti_17, ti_18, ti_19, ti_21, ti_22, ti_23, ti_24, ti_25, ti_26, ti_27, ti_28, ti_29, ti_30, ti_31, ti_32, ti_33, ti_34, ti_35, ti_36, ti_37, ti_38, ti_39, ti_40, ti_41, ti_42, ti_43, ti_44, ti_45, ti_46, ti_47, ti_48, ti_49, ti_50, ti_51, ti_52, ti_53, ti_54, ti_56, ti_58, ti_59, ti_60, ti_61, ti_63, ti_64, ti_65, ti_66, ti_67, ti_68, ti_69, ti_71, ti_73, ti_74, ti_75, ti_76, ti_77, ti_78, ti_79, ti_80, ti_81, ti_82, ti_83, ti_84, ti_85, ti_86, ti_87, ti_88, ti_89, ti_90, ti_91, ti_92, ti_93, ti_94, ti_95, ti_96, ti_97, ti_99, ti_100, ti_102, ti_103, ti_104, ti_105, ti_106, ti_107, ti_108, ti_109, ti_110, ti_111, ti_112, ti_113, ti_114, ti_116, ti_117, ti_118, ti_119, ti_120, ti_121, ti_122, ti_124, ti_125, ti_126, ti_127, ti_131, ti_132, ti_133, ti_134, ti_135, ti_136, ti_137, ti_138, ti_139, ti_140, ti_141, ti_142, ti_143, ti_144, ti_145, ti_146, ti_147, ti_149, ti_150, ti_151, ti_152, ti_153, ti_154, ti_155, ti_156, ti_157, ti_159, ti_160, ti_161, ti_162, ti_163, ti_164, ti_165, ti_166, ti_167, ti_168, ti_170, ti_171, ti_175, ti_183, ti_184, ti_185, ti_189, ti_196, ti_198, zr_1, zr_2, zr_3, zr_4, zr_5, zr_6, zr_7, zr_8, zr_9, zr_10, zr_11, zr_12, zr_13, zr_14, zr_15, zr_16, zr_17, zr_18, zr_19, zr_21, zr_22, zr_23, zr_24, zr_25, zr_26, zr_27, zr_28, zr_29, zr_30, zr_31, zr_32, zr_33, zr_34, zr_35, zr_36, zr_37, zr_38, zr_39, zr_40, zr_41, zr_42, zr_43, zr_44, zr_45, zr_46, zr_47, zr_48, zr_49, zr_50, zr_51, zr_52, zr_53, zr_54, zr_56, zr_58, zr_59, zr_60, zr_61, zr_63, zr_64, zr_65, zr_66, zr_67, zr_68, zr_69, zr_71, zr_73, zr_74, zr_75, zr_76, zr_77, zr_78, zr_79, zr_80, zr_81, zr_82, zr_83, zr_84, zr_85, zr_86, zr_87, zr_88, zr_89, zr_90, zr_91, zr_92, zr_93, zr_94, zr_95, zr_96, zr_97, zr_99, zr_100, zr_102, zr_103, zr_104, zr_105, zr_106, zr_107, zr_108, zr_109, zr_110, zr_111, zr_112, zr_113, zr_114, zr_116, zr_117, zr_118, zr_119, zr_120, zr_121, zr_122, zr_124, zr_125, zr_126, zr_127, zr_131, zr_132, zr_133, zr_134, zr_135, zr_136, zr_137, zr_138, zr_139, zr_140, zr_141, zr_142, zr_143, zr_144, zr_145, zr_146, zr_147, zr_149, zr_150, zr_151, zr_152, zr_153, zr_154, zr_155, zr_156, zr_157, zr_159, zr_160, zr_161, zr_162, zr_163, zr_164, zr_165, zr_166, zr_167, zr_168, zr_170, zr_171, zr_175, zr_183, zr_184, zr_185, zr_196, zr_198, Nat.blt, Nat.succ_eq_add_one, Nat.ble, Nat.beq, Nat.pred, Nat.add_zero, Nat.zero_add, Nat.add_eq, List.toList_toArray, List.length, List.length_cons, List.length_nil, List.take, List.drop, List.append_nil, List.nil_append, List.cons_append, List.map, List.take_succ_cons, List.take_zero, List.take_nil, List.drop_succ_cons, List.drop_zero, List.drop_nil, List.size_toArray, List.getD, id, Op.operands, Call.operands, Value.cells, Array.size_empty]) (hq : q := by (repeat' apply And.intro) <;> first | exact trivial | exact fun h => h | exact fun h => (Bool.and_eq_true_iff.1 h).1 | exact fun h => (Bool.and_eq_true_iff.1 h).2 | exact fun h => (Bool.and_eq_true_iff.1 (Bool.and_eq_true_iff.1 h).1).1 | (intro h; simp_all)) : Run (cx fn Bz S1 w1 hk1 hs1 hd1) res σ (.ops l all :: k) := Run.adG n hs hq h
theorem cd {x : Operand} {y z : Code} {b : Bool} (ht : b = true → Run (cx fn Bz S1 w1 hk1 hs1 hd1) res σ (.code y :: k)) (hf : b = false → Run (cx fn Bz S1 w1 hk1 hs1 hd1) res σ (.code z :: k)) (hx : ev σ.ρ x = some (.v (.bool b)) := by dsimp only [ev, evs, evsG, cons2, lk, lkE, cond, Nat.beq, evG, stO', V.strip, grd, grdO, nthO, gB, gBV, Nat.pred, wnt, List.toList_toArray, List.cons_append, List.nil_append, List.append_nil]) : Run (cx fn Bz S1 w1 hk1 hs1 hd1) res σ (.code (.cond x y z) :: k) := Run.cond hx ht hf
theorem op {o : Oper} {r : List Oper} {all : Array Oper} {σ1 : St} (ho : OpS (cx fn Bz S1 w1 hk1 hs1 hd1) σ all o σ1) (h : Run (cx fn Bz S1 w1 hk1 hs1 hd1) res σ' (.ops r all :: k)) (hs : σ1 = σ' := by dsimp only [afterCall, afterM, afterAppN, setV, fwE, En.fw, V.fw, fwL, nthG, pickE, consO, nthE, Nat.pred, afterIdx, afterIdxM, afterRos, afterStE, rnR, rnE, V.rn, rnL, En.rn, dropE, memN, V.names.namesL, V.names, afterApp, afterApp0, put, putE, setE, packV, bindRs, bindR, opn, nsl, id, cond, Nat.beq, Nat.reduceAdd, Nat.add_zero, Nat.zero_add, List.cons_append, List.nil_append, List.append_nil, List.append, List.length_cons, List.length_nil, Str.fk]) : Run (cx fn Bz S1 w1 hk1 hs1 hd1) res σ (.ops (o :: r) all :: k) := Run.op ho (by rw [hs]; exact h)
theorem og {o : Oper} {r : List Oper} {all : Array Oper} {σ1 : St} {G H : Prop} (ho : OpSg (cx fn Bz S1 w1 hk1 hs1 hd1) σ all o σ1 G) (h : H → Run (cx fn Bz S1 w1 hk1 hs1 hd1) res σ' (.ops r all :: k)) (hs : σ1 = σ' := by dsimp only [afterCall, afterM, afterAppN, setV, fwE, En.fw, V.fw, fwL, nthG, pickE, consO, nthE, Nat.pred, afterIdx, afterIdxM, afterRos, afterStE, rnR, rnE, V.rn, rnL, En.rn, dropE, memN, V.names.namesL, V.names, afterApp, afterApp0, put, putE, setE, packV, bindRs, bindR, opn, nsl, id, cond, Nat.beq, Nat.reduceAdd, Nat.add_zero, Nat.zero_add, List.cons_append, List.nil_append, List.append_nil, List.append, List.length_cons, List.length_nil, Str.fk]) (hh : G = H := by first | dsimp only [ResGd] | rfl) : Run (cx fn Bz S1 w1 hk1 hs1 hd1) res σ (.ops (o :: r) all :: k) := Run.opg ho (by rw [hs, hh]; exact h)
theorem fz (r : Nat) {α : Type} {d : Dat α} {xs : List α} {E' : List (Nat × En)} (h : Run (cx fn Bz S1 w1 hk1 hs1 hd1) res ⟨σ.n, σ.m, σ.ρ, E'⟩ k) (he : lkE σ.E r = some (.own α d xs) := by dsimp only [ev, evs, evsG, cons2, lk, lkE, cond, Nat.beq, evG, stO', V.strip, grd, grdO, nthO, gB, gBV, Nat.pred, wnt, List.toList_toArray, List.cons_append, List.nil_append, List.append_nil]) (hs : putE r (r, .ros α d xs) σ.E = E' := by dsimp only [afterCall, afterM, afterAppN, setV, fwE, En.fw, V.fw, fwL, nthG, pickE, consO, nthE, Nat.pred, afterIdx, afterIdxM, afterRos, afterStE, rnR, rnE, V.rn, rnL, En.rn, dropE, memN, V.names.namesL, V.names, afterApp, afterApp0, put, putE, setE, packV, bindRs, bindR, opn, nsl, id, cond, Nat.beq, Nat.reduceAdd, Nat.add_zero, Nat.zero_add, List.cons_append, List.nil_append, List.append_nil, List.append, List.length_cons, List.length_nil, Str.fk]) : Run (cx fn Bz S1 w1 hk1 hs1 hd1) res σ k := Run.freeze r he (by rw [hs]; exact h)
theorem nA (t j : Nat) (α : Type) (d : Dat α) {cs : List V} {σ' : St} (h : Run (cx fn Bz S1 w1 hk1 hs1 hd1) res σ' k) (hl : lk σ.ρ t = some (.ag cs) := by dsimp only [ev, evs, evsG, cons2, lk, lkE, cond, Nat.beq, evG, stO', V.strip, grd, grdO, nthO, gB, gBV, Nat.pred, wnt, List.toList_toArray, List.cons_append, List.nil_append, List.append_nil]) (hj : nthV cs j = some (.v (.slice none 0 0)) := by rfl) (hs : (⟨σ.n, σ.m + 1, (t, .ag (setV (.sl σ.m 0) cs j)) :: σ.ρ, (σ.m, .own α d []) :: σ.E⟩ : St) = σ' := by dsimp only [afterCall, afterM, afterAppN, setV, fwE, En.fw, V.fw, fwL, nthG, pickE, consO, nthE, Nat.pred, afterIdx, afterIdxM, afterRos, afterStE, rnR, rnE, V.rn, rnL, En.rn, dropE, memN, V.names.namesL, V.names, afterApp, afterApp0, put, putE, setE, packV, bindRs, bindR, opn, nsl, id, cond, Nat.beq, Nat.reduceAdd, Nat.add_zero, Nat.zero_add, List.cons_append, List.nil_append, List.append_nil, List.append, List.length_cons, List.length_nil, Str.fk]) : Run (cx fn Bz S1 w1 hk1 hs1 hd1) res σ k := Run.nilA t j hl hj (by rw [hs]; exact h)
theorem nC (r j : Nat) (α : Type) (d : Dat α) {cs : List V} {T : TypeId} {σ' : St} (h : Run (cx fn Bz S1 w1 hk1 hs1 hd1) res σ' k) (hl : lkE σ.E r = some (.var cs T) := by dsimp only [ev, evs, evsG, cons2, lk, lkE, cond, Nat.beq, evG, stO', V.strip, grd, grdO, nthO, gB, gBV, Nat.pred, wnt, List.toList_toArray, List.cons_append, List.nil_append, List.append_nil]) (hj : nthV cs j = some (.v (.slice none 0 0)) := by rfl) (hs : (⟨σ.n, σ.m + 1, σ.ρ, (σ.m, .own α d []) :: putE r (r, .var (setV (.sl σ.m 0) cs j) T) σ.E⟩ : St) = σ' := by dsimp only [afterCall, afterM, afterAppN, setV, fwE, En.fw, V.fw, fwL, nthG, pickE, consO, nthE, Nat.pred, afterIdx, afterIdxM, afterRos, afterStE, rnR, rnE, V.rn, rnL, En.rn, dropE, memN, V.names.namesL, V.names, afterApp, afterApp0, put, putE, setE, packV, bindRs, bindR, opn, nsl, id, cond, Nat.beq, Nat.reduceAdd, Nat.add_zero, Nat.zero_add, List.cons_append, List.nil_append, List.append_nil, List.append, List.length_cons, List.length_nil, Str.fk]) : Run (cx fn Bz S1 w1 hk1 hs1 hd1) res σ k := Run.nilC r j hl hj (by rw [hs]; exact h)
theorem gd (r : Nat) {α : Type} {d : Dat α} {xs : List α} (h : (@instDatList α d).good xs → Run (cx fn Bz S1 w1 hk1 hs1 hd1) res σ k) (hp : payE σ.E r = some ⟨α, d, xs⟩ := by rfl) : Run (cx fn Bz S1 w1 hk1 hs1 hd1) res σ k := Run.gd r hp h
theorem li (r : Nat) {α : Type} {d : Dat α} [s : @Str α d] (ys : List α) {cs : List V} {T n : Nat} {E' : List (Nat × En)} (h : Run (cx fn Bz S1 w1 hk1 hs1 hd1) res ⟨σ.n, σ.m, σ.ρ, E'⟩ k) (he : lkE σ.E r = some (.lit cs T n) := by dsimp only [ev, evs, evsG, cons2, lk, lkE, cond, Nat.beq, evG, stO', V.strip, grd, grdO, nthO, gB, gBV, Nat.pred, wnt, List.toList_toArray, List.cons_append, List.nil_append, List.append_nil]) (ho : ElOk σ.E (Dat.sz α) d s.fk ys cs := by dsimp only [ElOk, SlOwn, payOE, En.payO, lkE, cond, Nat.beq, FkO, agC, List.map, Str.fk, id, List.take, List.drop, List.take_succ_cons, List.drop_succ_cons, List.take_zero, List.drop_zero]; repeat' (first | assumption | exact gi _ | exact gs _ | rfl | exact trivial | apply And.intro | omega)) (hl : ys.length = n := by rfl) (hm : Nat.ble n 1000 = true := by rfl) (hn : V.names.namesL cs = [] := by rfl) (hs : putE r (r, .own α d ys) σ.E = E' := by dsimp only [afterCall, afterM, afterAppN, setV, fwE, En.fw, V.fw, fwL, nthG, pickE, consO, nthE, Nat.pred, afterIdx, afterIdxM, afterRos, afterStE, rnR, rnE, V.rn, rnL, En.rn, dropE, memN, V.names.namesL, V.names, afterApp, afterApp0, put, putE, setE, packV, bindRs, bindR, opn, nsl, id, cond, Nat.beq, Nat.reduceAdd, Nat.add_zero, Nat.zero_add, List.cons_append, List.nil_append, List.append_nil, List.append, List.length_cons, List.length_nil, Str.fk]) : Run (cx fn Bz S1 w1 hk1 hs1 hd1) res σ k := Run.lit r ys he hl hm hn ho (by rw [hs]; exact h)
theorem dr {id : Nat} {ops : Array Oper} (n : Nat) {σ' : St} (h : ∀ S2 w2 hk2 hs2 hd2, (∀ θ σ a w', R (cx fn Bz S2 w2 hk2 hs2 hd2) θ σ a w' → R (cx fn Bz S1 w1 hk1 hs1 hd1) θ σ a w') → RunD (cx fn Bz S2 w2 hk2 hs2 hd2) (kQ (cx fn Bz S1 w1 hk1 hs1 hd1) res k .normal) σ'.E σ'.m ops n [] (Array.replicate n false) σ') (hs : σ = σ' := by dsimp only) (hn : ops.size = n := by rfl) : Run (cx fn Bz S1 w1 hk1 hs1 hd1) res σ (.code (.region id ops true) :: k) := by
  subst hs
  exact Run.draw n mixed hn fun S w2 hk hs hd => h S w2 (hk1.trans ((show Keep S1 w1 w2 from hk).mono hs1)) (fun b hb => hs b (hs1 b hb)) hd (fun _ _ _ _ h => R.unbase (hk := hk) (hs := hs) (hd := hd) h)
theorem ds {id : Nat} {ops : Array Oper} (n : Nat) (is0 : List Nat) {E0 : List (Nat × En)} {σ' : St} (h : ∀ S2 w2 hk2 hs2 hd2, (∀ θ σ a w', R (cx fn Bz S2 w2 hk2 hs2 hd2) θ σ a w' → R (cx fn Bz S1 w1 hk1 hs1 hd1) θ σ a w') → RunD (cx fn Bz S2 w2 hk2 hs2 hd2) (kQ (cx fn Bz S1 w1 hk1 hs1 hd1) res k .normal) E0 σ'.m ops n [] (Array.replicate n false) σ') (hs : σ = σ' := by dsimp only) (hE : pk is0 σ.E = E0 := by dsimp only [pk, pkc, nthE, cond, Nat.beq, Nat.pred]) (hp : is0.map (nthE σ.E) = E0.map some := by rfl) (hd0 : is0.Nodup := by decide) (hn : ops.size = n := by rfl) : Run (cx fn Bz S1 w1 hk1 hs1 hd1) res σ (.code (.region id ops true) :: k) := by
  subst hs
  exact Run.drawS n is0 E0 hp hd0 mixed hn fun S w2 hk hs hd => h S w2 (hk1.trans ((show Keep S1 w1 w2 from hk).mono hs1)) (fun b hb => hs b (hs1 b hb)) hd (fun _ _ _ _ h => R.unbase (hk := hk) (hs := hs) (hd := hd) h)
end
section
variable {fn : Func} {Bz : Bs} {S1 : Nat → Prop} {w1 : World} {hk1 : Keep Bz.S0 Bz.w w1} {hs1 : ∀ b, Bz.S0 b → S1 b} {hd1 : ∀ b, S1 b → b < w1.heap.size} {K : Act → World → Prop} {E0 M : List (Nat × En)} {m0 : Nat} {ops : Array Oper} {σ σ' σ1 : St} {listed : Array Bool}
theorem tk (is : List Nat) {n n' : Nat} {q : Prop} (h : RunD (cx fn Bz S1 w1 hk1 hs1 hd1) K E0 m0 ops n M (setAll listed is) σ') (hn : n' = n + is.length := by rfl) (hb : okD ops listed is = true := by kernel_rfl) (hs : adD ti zr ops (M ++ E0) is (some (σ, True)) = some (σ', q) := by dsimp only [ncV, szA, cvV, rnR, rnE, V.rn, rnL, En.rn, dropE, memN, afterStE, an, stK, cdK, opK, gdK, nvK, cellsO, zcells, blK, bsK, stW, stV, ptK, litD, litC, pkV, wrV, binV, unV, ldV, faW, faV, agO, blV, exV, mfV, lenV, caV, fillT, fillS, stO', sdV, cons2, grdO, gBV, gPw, gPk, gGo, gK, gK1, gK2, tkK, tk1, rvsV, rvV, Nat.reduceAdd, Nat.reduceSub, Nat.reduceMul, advN, adv1, stO, litV, fillV, splice, pv, ev, evs, lk, lkE, setE, putE, put, cond, ldC, ldE, nthN, tuAt, bin, bi, bs, bb, ikq, TI.cells, V.cells, V.one, oneL, toBlk, grd, nthO, beqB, gB, wnt, gOp, adG, adG1, pickV, sideP, evG, V.side, V.strip, afterCall, afterIdx, afterApp, afterApp0, packV, bindRs, bindR, bindGs, bindG, bindAs, bindA, ini, slotsV, opn, nsl, adD, setAll, Str.fk, ti_1, ti_2, ti_3, ti_4, ti_5, ti_6, ti_7, ti_8, ti_9, ti_10, ti_11, ti_12, ti_13, ti_14, ti_15, ti_16, ti_17, ti_18, ti_19, ti_21, ti_22, ti_23, ti_24, ti_25, ti_26, ti_27, ti_28, ti_29, ti_30, ti_31, ti_32, ti_33, ti_34, ti_35, ti_36, ti_37, ti_38, ti_39, ti_40, ti_41, ti_42, ti_43, ti_44, ti_45, ti_46, ti_47, ti_48, ti_49, ti_50, ti_51, ti_52, ti_53, ti_54, ti_56, ti_58, ti_59, ti_60, ti_61, ti_63, ti_64, ti_65, ti_66, ti_67, ti_68, ti_69, ti_71, ti_73, ti_74, ti_75, ti_76, ti_77, ti_78, ti_79, ti_80, ti_81, ti_82, ti_83, ti_84, ti_85, ti_86, ti_87, ti_88, ti_89, ti_90, ti_91, ti_92, ti_93, ti_94, ti_95, ti_96, ti_97, ti_99, ti_100, ti_102, ti_103, ti_104, ti_105, ti_106, ti_107, ti_108, ti_109, ti_110, ti_111, ti_112, ti_113, ti_114, ti_116, ti_117, ti_118, ti_119, ti_120, ti_121, ti_122, ti_124, ti_125, ti_126, ti_127, ti_131, ti_132, ti_133, ti_134, ti_135, ti_136, ti_137, ti_138, ti_139, ti_140, ti_141, ti_142, ti_143, ti_144, ti_145, ti_146, ti_147, ti_149, ti_150, ti_151, ti_152, ti_153, ti_154, ti_155, ti_156, ti_157, ti_159, ti_160, ti_161, ti_162, ti_163, ti_164, ti_165, ti_166, ti_167, ti_168, ti_170, ti_171, ti_175, ti_183, ti_184, ti_185, ti_189, ti_196, ti_198, zr_1, zr_2, zr_3, zr_4, zr_5, zr_6, zr_7, zr_8, zr_9, zr_10, zr_11, zr_12, zr_13, zr_14, zr_15, zr_16, zr_17, zr_18, zr_19, zr_21, zr_22, zr_23, zr_24, zr_25, zr_26, zr_27, zr_28, zr_29, zr_30, zr_31, zr_32, zr_33, zr_34, zr_35, zr_36, zr_37, zr_38, zr_39, zr_40, zr_41, zr_42, zr_43, zr_44, zr_45, zr_46, zr_47, zr_48, zr_49, zr_50, zr_51, zr_52, zr_53, zr_54, zr_56, zr_58, zr_59, zr_60, zr_61, zr_63, zr_64, zr_65, zr_66, zr_67, zr_68, zr_69, zr_71, zr_73, zr_74, zr_75, zr_76, zr_77, zr_78, zr_79, zr_80, zr_81, zr_82, zr_83, zr_84, zr_85, zr_86, zr_87, zr_88, zr_89, zr_90, zr_91, zr_92, zr_93, zr_94, zr_95, zr_96, zr_97, zr_99, zr_100, zr_102, zr_103, zr_104, zr_105, zr_106, zr_107, zr_108, zr_109, zr_110, zr_111, zr_112, zr_113, zr_114, zr_116, zr_117, zr_118, zr_119, zr_120, zr_121, zr_122, zr_124, zr_125, zr_126, zr_127, zr_131, zr_132, zr_133, zr_134, zr_135, zr_136, zr_137, zr_138, zr_139, zr_140, zr_141, zr_142, zr_143, zr_144, zr_145, zr_146, zr_147, zr_149, zr_150, zr_151, zr_152, zr_153, zr_154, zr_155, zr_156, zr_157, zr_159, zr_160, zr_161, zr_162, zr_163, zr_164, zr_165, zr_166, zr_167, zr_168, zr_170, zr_171, zr_175, zr_183, zr_184, zr_185, zr_196, zr_198, Nat.blt, Nat.succ_eq_add_one, Nat.ble, Nat.beq, Nat.pred, Nat.add_zero, Nat.zero_add, Nat.add_eq, List.toList_toArray, List.length, List.length_cons, List.length_nil, List.take, List.drop, List.append_nil, List.nil_append, List.cons_append, List.map, List.take_succ_cons, List.take_zero, List.take_nil, List.drop_succ_cons, List.drop_zero, List.drop_nil, List.size_toArray, List.getD, id, Op.operands, Call.operands, Value.cells, Array.size_empty]) (hq : q := by (repeat' apply And.intro) <;> first | exact trivial | exact fun h => h | exact fun h => (Bool.and_eq_true_iff.1 h).1 | exact fun h => (Bool.and_eq_true_iff.1 h).2 | exact fun h => (Bool.and_eq_true_iff.1 (Bool.and_eq_true_iff.1 h).1).1 | (intro h; simp_all)) : RunD (cx fn Bz S1 w1 hk1 hs1 hd1) K E0 m0 ops n' M listed σ := by subst hn; exact RunD.takes is hb hs hq h
theorem on (i : Nat) (is : List Nat) {n n' : Nat} (ho : OpS (cx fn Bz S1 w1 hk1 hs1 hd1) σ ops (opAt ops.toList i) σ1) (h : RunD (cx fn Bz S1 w1 hk1 hs1 hd1) K E0 m0 ops n M (listed.setIfInBounds i true) σ') (hn : n' = n + 1 := by rfl) (hi : nthO ops.toList i = some (opAt ops.toList i) := by rfl) (hs : σ1 = σ' := by dsimp only [afterCall, afterM, afterAppN, setV, fwE, En.fw, V.fw, fwL, nthG, pickE, consO, nthE, Nat.pred, afterIdx, afterIdxM, afterRos, afterStE, rnR, rnE, V.rn, rnL, En.rn, dropE, memN, V.names.namesL, V.names, afterApp, afterApp0, put, putE, setE, packV, bindRs, bindR, opn, nsl, id, cond, Nat.beq, Nat.reduceAdd, Nat.add_zero, Nat.zero_add, List.cons_append, List.nil_append, List.append_nil, List.append, List.length_cons, List.length_nil, Str.fk]) (hp : is.map (nthE σ'.E) = E0.map some := by rfl) (hr : Region.ready .any ops listed = [i] := by kernel_rfl) (hd : is.Nodup := by decide) : RunD (cx fn Bz S1 w1 hk1 hs1 hd1) K E0 m0 ops n' M listed σ := by subst hs; subst hn; exact RunD.only i is hr hi ho hp hd h
theorem ong (i : Nat) (is : List Nat) {n n' : Nat} {G H : Prop} (ho : OpSg (cx fn Bz S1 w1 hk1 hs1 hd1) σ ops (opAt ops.toList i) σ1 G) (h : H → RunD (cx fn Bz S1 w1 hk1 hs1 hd1) K E0 m0 ops n M (listed.setIfInBounds i true) σ') (hn : n' = n + 1 := by rfl) (hi : nthO ops.toList i = some (opAt ops.toList i) := by rfl) (hs : σ1 = σ' := by dsimp only [afterCall, afterM, afterAppN, setV, fwE, En.fw, V.fw, fwL, nthG, pickE, consO, nthE, Nat.pred, afterIdx, afterIdxM, afterRos, afterStE, rnR, rnE, V.rn, rnL, En.rn, dropE, memN, V.names.namesL, V.names, afterApp, afterApp0, put, putE, setE, packV, bindRs, bindR, opn, nsl, id, cond, Nat.beq, Nat.reduceAdd, Nat.add_zero, Nat.zero_add, List.cons_append, List.nil_append, List.append_nil, List.append, List.length_cons, List.length_nil, Str.fk]) (hh : G = H := by first | dsimp only [ResGd] | rfl) (hp : is.map (nthE σ'.E) = E0.map some := by rfl) (hr : Region.ready .any ops listed = [i] := by kernel_rfl) (hd : is.Nodup := by decide) : RunD (cx fn Bz S1 w1 hk1 hs1 hd1) K E0 m0 ops n' M listed σ := by subst hs; subst hn; subst hh; exact RunD.onlyg i is hr hi ho hp hd h
theorem o2 (i j : Nat) {n n' : Nat} (h1 : RunD1 (cx fn Bz S1 w1 hk1 hs1 hd1) K E0 m0 ops n M listed σ i) (h2 : RunD1 (cx fn Bz S1 w1 hk1 hs1 hd1) K E0 m0 ops n M listed σ j) (hn : n' = n + 1 := by rfl) (hr : Region.ready .any ops listed = [i, j] := by kernel_rfl) : RunD (cx fn Bz S1 w1 hk1 hs1 hd1) K E0 m0 ops n' M listed σ := by
  subst hn
  refine RunD.alts hr (by simp) fun k hk => ?_
  rcases List.mem_cons.1 hk with rfl | hk
  · exact h1
  · obtain rfl := List.mem_singleton.1 hk
    exact h2
theorem on1 (i : Nat) (is : List Nat) {n : Nat} (ho : OpS (cx fn Bz S1 w1 hk1 hs1 hd1) σ ops (opAt ops.toList i) σ1) (h : RunD (cx fn Bz S1 w1 hk1 hs1 hd1) K E0 m0 ops n M (listed.setIfInBounds i true) σ') (hi : nthO ops.toList i = some (opAt ops.toList i) := by rfl) (hs : σ1 = σ' := by dsimp only [afterCall, afterM, afterAppN, setV, fwE, En.fw, V.fw, fwL, nthG, pickE, consO, nthE, Nat.pred, afterIdx, afterIdxM, afterRos, afterStE, rnR, rnE, V.rn, rnL, En.rn, dropE, memN, V.names.namesL, V.names, afterApp, afterApp0, put, putE, setE, packV, bindRs, bindR, opn, nsl, id, cond, Nat.beq, Nat.reduceAdd, Nat.add_zero, Nat.zero_add, List.cons_append, List.nil_append, List.append_nil, List.append, List.length_cons, List.length_nil, Str.fk]) (hp : is.map (nthE σ'.E) = E0.map some := by rfl) (hd : is.Nodup := by decide) : RunD1 (cx fn Bz S1 w1 hk1 hs1 hd1) K E0 m0 ops n M listed σ i := by subst hs; exact RunD1.ofg i is hi ho.g hp hd fun _ => h
theorem ong1 (i : Nat) (is : List Nat) {n : Nat} {G H : Prop} (ho : OpSg (cx fn Bz S1 w1 hk1 hs1 hd1) σ ops (opAt ops.toList i) σ1 G) (h : H → RunD (cx fn Bz S1 w1 hk1 hs1 hd1) K E0 m0 ops n M (listed.setIfInBounds i true) σ') (hi : nthO ops.toList i = some (opAt ops.toList i) := by rfl) (hs : σ1 = σ' := by dsimp only [afterCall, afterM, afterAppN, setV, fwE, En.fw, V.fw, fwL, nthG, pickE, consO, nthE, Nat.pred, afterIdx, afterIdxM, afterRos, afterStE, rnR, rnE, V.rn, rnL, En.rn, dropE, memN, V.names.namesL, V.names, afterApp, afterApp0, put, putE, setE, packV, bindRs, bindR, opn, nsl, id, cond, Nat.beq, Nat.reduceAdd, Nat.add_zero, Nat.zero_add, List.cons_append, List.nil_append, List.append_nil, List.append, List.length_cons, List.length_nil, Str.fk]) (hh : G = H := by first | dsimp only [ResGd] | rfl) (hp : is.map (nthE σ'.E) = E0.map some := by rfl) (hd : is.Nodup := by decide) : RunD1 (cx fn Bz S1 w1 hk1 hs1 hd1) K E0 m0 ops n M listed σ i := by subst hs; subst hh; exact RunD1.ofg i is hi ho hp hd h
theorem tx {n n' : Nat} {M1 M' : List (Nat × En)} (j : Nat) (ht : TkS (cx fn Bz S1 w1 hk1 hs1 hd1) E0 M σ ops listed j σ1 M1) (h : RunD (cx fn Bz S1 w1 hk1 hs1 hd1) K E0 m0 ops n M' (listed.setIfInBounds j true) σ') (hn : n' = n + 1 := by rfl) (hs : σ1 = σ' := by dsimp only [afterCall, afterM, afterAppN, setV, fwE, En.fw, V.fw, fwL, nthG, pickE, consO, nthE, Nat.pred, afterIdx, afterIdxM, afterRos, afterStE, rnR, rnE, V.rn, rnL, En.rn, dropE, memN, V.names.namesL, V.names, afterApp, afterApp0, put, putE, setE, packV, bindRs, bindR, opn, nsl, id, cond, Nat.beq, Nat.reduceAdd, Nat.add_zero, Nat.zero_add, List.cons_append, List.nil_append, List.append_nil, List.append, List.length_cons, List.length_nil, Str.fk]) (hM : M1 = M' := by dsimp only [afterCall, afterM, afterAppN, setV, fwE, En.fw, V.fw, fwL, nthG, pickE, consO, nthE, Nat.pred, afterIdx, afterIdxM, afterRos, afterStE, rnR, rnE, V.rn, rnL, En.rn, dropE, memN, V.names.namesL, V.names, afterApp, afterApp0, put, putE, setE, packV, bindRs, bindR, opn, nsl, id, cond, Nat.beq, Nat.reduceAdd, Nat.add_zero, Nat.zero_add, List.cons_append, List.nil_append, List.append_nil, List.append, List.length_cons, List.length_nil, Str.fk]) : RunD (cx fn Bz S1 w1 hk1 hs1 hd1) K E0 m0 ops n' M listed σ := by subst hs; subst hn; subst hM; exact ht _ _ _ h
theorem dx {α : Type} {dα : Dat α} [s : Str α] [Inhabited α] {t e by' r len d : Nat} {x y : Operand} {ty : TypeId} {pos : String} {after : Array Edge} {i : Int} {xs : List α} {j : Nat} (k : Nat) (hk : k < xs.length) (hi' : nthO ops.toList j = some ⟨some d, .indexAddr t x y, ty, pos, after, none⟩ := by rfl) (hB : takeB ops listed j = true := by kernel_rfl) (hx : ev σ.ρ x = some (.sl r len) := by dsimp only [ev, evs, evsG, cons2, lk, lkE, cond, Nat.beq, evG, stO', V.strip, grd, grdO, nthO, gB, gBV, Nat.pred, wnt, List.toList_toArray, List.cons_append, List.nil_append, List.append_nil]) (hy : ev σ.ρ y = some (.v (.int .i64 i)) := by dsimp only [ev, evs, evsG, cons2, lk, lkE, cond, Nat.beq, evG, stO', V.strip, grd, grdO, nthO, gB, gBV, Nat.pred, wnt, List.toList_toArray, List.cons_append, List.nil_append, List.append_nil]) (hp : lkE (M ++ E0) r = some (.ros α dα xs) := by dsimp only [ev, evs, evsG, cons2, lk, lkE, cond, Nat.beq, evG, stO', V.strip, grd, grdO, nthO, gB, gBV, Nat.pred, wnt, List.toList_toArray, List.cons_append, List.nil_append, List.append_nil]) (hl : len = xs.length := by first | rfl | simp only [List.length_set]) (hi : i = k := by rfl) (ht : ti t = .sl e (Dat.sz α) by' := by rfl) (hd : Nat.blt d σ.n = true := by rfl) : TkS (cx fn Bz S1 w1 hk1 hs1 hd1) E0 M σ ops listed j (afterIdx σ d (nth xs k) s.fk) (afterIdxM σ (nth xs k) s.fk M) := TkS.idx j k hk hi' hB hx hy hp hl hi ht hd
theorem tsx {t d : Nat} {x y : Operand} {i : Int} {s : ByteArray} {ty : TypeId} {pos : String} {after : Array Edge} {j : Nat} (k : Nat) (hk : k < s.size) (hi' : nthO ops.toList j = some ⟨some d, .index t x y, ty, pos, after, none⟩ := by rfl) (hB : takeB ops listed j = true := by kernel_rfl) (hx : ev σ.ρ x = some (.v (.string s)) := by dsimp only [ev, evs, evsG, cons2, lk, lkE, cond, Nat.beq, evG, stO', V.strip, grd, grdO, nthO, gB, gBV, Nat.pred, wnt, List.toList_toArray, List.cons_append, List.nil_append, List.append_nil]) (hy : ev σ.ρ y = some (.v (.int .i64 i)) := by dsimp only [ev, evs, evsG, cons2, lk, lkE, cond, Nat.beq, evG, stO', V.strip, grd, grdO, nthO, gB, gBV, Nat.pred, wnt, List.toList_toArray, List.cons_append, List.nil_append, List.append_nil]) (hi : i = k := by rfl) (ht : ti t = .str := by rfl) (hd : Nat.blt d σ.n = true := by rfl) : TkS (cx fn Bz S1 w1 hk1 hs1 hd1) E0 M σ ops listed j (put d (.v (.int .u8 (byteAt s k).toNat)) σ) M := TkS.sidx j k hk hi' hB hx hy ht hi hd
theorem tqo {t t' d : Nat} {x y : Operand} {k : IntKind} {i i2 : Int} {ty : TypeId} {pos : String} {after : Array Edge} {j : Nat} (hi' : nthO ops.toList j = some ⟨some d, .binOp .quo t x y t', ty, pos, after, none⟩ := by rfl) (hB : takeB ops listed j = true := by kernel_rfl) (hx : ev σ.ρ x = some (.v (.int k i)) := by dsimp only [ev, evs, evsG, cons2, lk, lkE, cond, Nat.beq, evG, stO', V.strip, grd, grdO, nthO, gB, gBV, Nat.pred, wnt, List.toList_toArray, List.cons_append, List.nil_append, List.append_nil]) (hy : ev σ.ρ y = some (.v (.int k i2)) := by dsimp only [ev, evs, evsG, cons2, lk, lkE, cond, Nat.beq, evG, stO', V.strip, grd, grdO, nthO, gB, gBV, Nat.pred, wnt, List.toList_toArray, List.cons_append, List.nil_append, List.append_nil]) (hj : i2 ≠ 0 := by decide) (hd : Nat.blt d σ.n = true := by rfl) : TkS (cx fn Bz S1 w1 hk1 hs1 hd1) E0 M σ ops listed j (put d (.v (.int k (k.wrap (i.tdiv i2)))) σ) M := TkS.quo j hj hi' hB hx hy hd
theorem trm {t t' d : Nat} {x y : Operand} {k : IntKind} {i i2 : Int} {ty : TypeId} {pos : String} {after : Array Edge} {j : Nat} (hi' : nthO ops.toList j = some ⟨some d, .binOp .rem t x y t', ty, pos, after, none⟩ := by rfl) (hB : takeB ops listed j = true := by kernel_rfl) (hx : ev σ.ρ x = some (.v (.int k i)) := by dsimp only [ev, evs, evsG, cons2, lk, lkE, cond, Nat.beq, evG, stO', V.strip, grd, grdO, nthO, gB, gBV, Nat.pred, wnt, List.toList_toArray, List.cons_append, List.nil_append, List.append_nil]) (hy : ev σ.ρ y = some (.v (.int k i2)) := by dsimp only [ev, evs, evsG, cons2, lk, lkE, cond, Nat.beq, evG, stO', V.strip, grd, grdO, nthO, gB, gBV, Nat.pred, wnt, List.toList_toArray, List.cons_append, List.nil_append, List.append_nil]) (hj : i2 ≠ 0 := by decide) (hd : Nat.blt d σ.n = true := by rfl) : TkS (cx fn Bz S1 w1 hk1 hs1 hd1) E0 M σ ops listed j (put d (.v (.int k (i.tmod i2))) σ) M := TkS.rem j hj hi' hB hx hy hd
theorem tca {t t' d : Nat} {x y : Operand} {p q : ByteArray} {ty : TypeId} {pos : String} {after : Array Edge} {j : Nat} (hi' : nthO ops.toList j = some ⟨some d, .binOp .add t x y t', ty, pos, after, none⟩ := by rfl) (hB : takeB ops listed j = true := by kernel_rfl) (hx : ev σ.ρ x = some (.v (.string p)) := by dsimp only [ev, evs, evsG, cons2, lk, lkE, cond, Nat.beq, evG, stO', V.strip, grd, grdO, nthO, gB, gBV, Nat.pred, wnt, List.toList_toArray, List.cons_append, List.nil_append, List.append_nil]) (hy : ev σ.ρ y = some (.v (.string q)) := by dsimp only [ev, evs, evsG, cons2, lk, lkE, cond, Nat.beq, evG, stO', V.strip, grd, grdO, nthO, gB, gBV, Nat.pred, wnt, List.toList_toArray, List.cons_append, List.nil_append, List.append_nil]) (hd : Nat.blt d σ.n = true := by rfl) (hs : p.size + q.size ≤ 9223372036854775807) : TkS (cx fn Bz S1 w1 hk1 hs1 hd1) E0 M σ ops listed j (put d (.v (.string (p ++ q))) σ) M := TkS.cat j hs hi' hB hx hy hd
theorem dn {res : List Re} {k : List It} {S2 : Nat → Prop} {w2 : World} {hk2 : Keep Bz.S0 Bz.w w2} {hs2 : ∀ b, Bz.S0 b → S2 b} {hd2 : ∀ b, S2 b → b < w2.heap.size} (hb : ∀ θ σ a w', R (cx fn Bz S2 w2 hk2 hs2 hd2) θ σ a w' → R (cx fn Bz S1 w1 hk1 hs1 hd1) θ σ a w') (h : Run (cx fn Bz S1 w1 hk1 hs1 hd1) res σ k) (hr : Region.ready .any ops listed = [] := by kernel_rfl) : RunD (cx fn Bz S2 w2 hk2 hs2 hd2) (kQ (cx fn Bz S1 w1 hk1 hs1 hd1) res k .normal) E0 m0 ops 0 M listed σ := fun θ0 η a w _ hR _ _ _ => h_end hr (h _ a w (hb _ _ _ _ hR))
end
section
variable {fn : Func} {Bz : Bs} {S1 : Nat → Prop} {w1 : World} {hk1 : Keep Bz.S0 Bz.w w1} {hs1 : ∀ b, Bz.S0 b → S1 b} {hd1 : ∀ b, S1 b → b < w1.heap.size} {σ : St} {all : Array Oper} {ty : TypeId} {pos : String} {after : Array Edge} {d : Nat}
theorem cl {res : List Re} {f : FuncId} {x : Operand} {cs : List V} {xs : Array Operand} {ts : Array TypeId} {args : List Arg} {vs : List V} (hct : CTs f args res) (hfn : FnOk Tryd.prog f) (hx : ev σ.ρ x = some (.fn f cs) := by dsimp only [ev, evs, evsG, cons2, lk, lkE, cond, Nat.beq, evG, stO', V.strip, grd, grdO, nthO, gB, gBV, Nat.pred, wnt, List.toList_toArray, List.cons_append, List.nil_append, List.append_nil]) (hev : evs σ.ρ xs.toList = some vs := by dsimp only [ev, evs, evsG, cons2, lk, lkE, cond, Nat.beq, evG, stO', V.strip, grd, grdO, nthO, gB, gBV, Nat.pred, wnt, List.toList_toArray, List.cons_append, List.nil_append, List.append_nil]) (hargs : ArgsOk σ.E (vs ++ cs) args := by dsimp only [lk, lkE, cond, Nat.beq, List.cons_append, List.nil_append, List.append_nil, ArgsOk, AsOk, Arg.ok, Ar0.ok, SlOk, payE, En.pay, FkV, agC, cellsAt, En.cells, List.map, Str.fk, id]; repeat' (first | assumption | rfl | exact trivial | apply And.intro | omega)) (hd : Nat.blt d σ.n = true := by rfl) :
    OpS (cx fn Bz S1 w1 hk1 hs1 hd1) σ all ⟨some d, .call { callee := .value x, args := xs, argTypes := ts }, ty, pos, after, none⟩ (afterCall σ d res) := OpS.call hct hfn hx hev hargs hd
theorem clg {res : List Re} {f : FuncId} {x : Operand} {cs : List V} {xs : Array Operand} {ts : Array TypeId} {args : List Arg} {vs : List V} (hct : CTs f args res) (hfn : FnOk Tryd.prog f) (hx : ev σ.ρ x = some (.fn f cs) := by dsimp only [ev, evs, evsG, cons2, lk, lkE, cond, Nat.beq, evG, stO', V.strip, grd, grdO, nthO, gB, gBV, Nat.pred, wnt, List.toList_toArray, List.cons_append, List.nil_append, List.append_nil]) (hev : evs σ.ρ xs.toList = some vs := by dsimp only [ev, evs, evsG, cons2, lk, lkE, cond, Nat.beq, evG, stO', V.strip, grd, grdO, nthO, gB, gBV, Nat.pred, wnt, List.toList_toArray, List.cons_append, List.nil_append, List.append_nil]) (hargs : ArgsOk σ.E (vs ++ cs) args := by dsimp only [lk, lkE, cond, Nat.beq, List.cons_append, List.nil_append, List.append_nil, ArgsOk, AsOk, Arg.ok, Ar0.ok, SlOk, payE, En.pay, FkV, agC, cellsAt, En.cells, List.map, Str.fk, id]; repeat' (first | assumption | rfl | exact trivial | apply And.intro | omega)) (hd : Nat.blt d σ.n = true := by rfl) :
    OpSg (cx fn Bz S1 w1 hk1 hs1 hd1) σ all ⟨some d, .call { callee := .value x, args := xs, argTypes := ts }, ty, pos, after, none⟩ (afterCall σ d res) (ResGd res) := OpSg.call hct hfn hx hev hargs hd
theorem cG {u : Value} {f : FuncId} {x : Operand} {cs : List V} {xs : Array Operand} {ts : Array TypeId} {args : List Arg} {vs : List V} {j : Nat} {want B : Bool} (hB : gB σ.ρ all j want = some B := by dsimp only [ev, evs, evsG, cons2, lk, lkE, cond, Nat.beq, evG, stO', V.strip, grd, grdO, nthO, gB, gBV, Nat.pred, wnt, List.toList_toArray, List.cons_append, List.nil_append, List.append_nil]) (hx : ev σ.ρ x = some (.fn f cs) := by dsimp only [ev, evs, evsG, cons2, lk, lkE, cond, Nat.beq, evG, stO', V.strip, grd, grdO, nthO, gB, gBV, Nat.pred, wnt, List.toList_toArray, List.cons_append, List.nil_append, List.append_nil]) (hvs' : evsG σ.ρ xs.toList = some vs := by dsimp only [ev, evs, evsG, cons2, lk, lkE, cond, Nat.beq, evG, stO', V.strip, grd, grdO, nthO, gB, gBV, Nat.pred, wnt, List.toList_toArray, List.cons_append, List.nil_append, List.append_nil]) (hct : B = true → CTs f args [.c u]) (hfn : FnOk Tryd.prog f) (hside : B = true → sideP B True σ.ρ xs.toList := by intro h; first | exact trivial | (dsimp only [sideP, sdV, ev, lk, cond, Nat.beq, V.side, List.toList_toArray]; (repeat' apply And.intro) <;> first | exact trivial | exact h | exact fun h => h | exact (Bool.and_eq_true_iff.1 h).1 | exact (Bool.and_eq_true_iff.1 h).2 | exact fun h => (Bool.and_eq_true_iff.1 h).1 | exact fun h => (Bool.and_eq_true_iff.1 h).2 | exact fun h => (Bool.and_eq_true_iff.1 (Bool.and_eq_true_iff.1 h).1).1 | (intro h; simp_all))) (hargs : B = true → ArgsOk σ.E (vs ++ cs) args := by intro h; dsimp only [lk, lkE, cond, Nat.beq, List.cons_append, List.nil_append, List.append_nil, ArgsOk, AsOk, Arg.ok, Ar0.ok, SlOk, payE, En.pay, FkV, agC, cellsAt, En.cells, List.map, Str.fk, id]; repeat' (first | assumption | rfl | exact trivial | apply And.intro | omega)) (hd : Nat.blt d σ.n = true := by rfl) :
    OpS (cx fn Bz S1 w1 hk1 hs1 hd1) σ all ⟨some d, .call { callee := .value x, args := xs, argTypes := ts }, ty, pos, after, some (j, want)⟩ (put d (.gd B (.v u)) σ) := have hvs := evsG_spec hvs'
    OpS.callG hB hct hfn hx (fun y hy => by
      have : evG σ.ρ y ∈ xs.toList.map (evG σ.ρ) := List.mem_map.2 ⟨y, hy, rfl⟩
      rw [hvs] at this
      obtain ⟨v, _, hv⟩ := List.mem_map.1 this
      rw [← hv]; rfl) hvs hside hargs hd
theorem cGs {α : Type} {dα : Dat α} {s : @Str α dα} {u : α} {cv : List V} {f : FuncId} {x : Operand} {cs : List V} {xs : Array Operand} {ts : Array TypeId} {args : List Arg} {vs : List V} {j : Nat} {want B : Bool} (hB : gB σ.ρ all j want = some B := by dsimp only [ev, evs, evsG, cons2, lk, lkE, cond, Nat.beq, evG, stO', V.strip, grd, grdO, nthO, gB, gBV, Nat.pred, wnt, List.toList_toArray, List.cons_append, List.nil_append, List.append_nil]) (hx : ev σ.ρ x = some (.fn f cs) := by dsimp only [ev, evs, evsG, cons2, lk, lkE, cond, Nat.beq, evG, stO', V.strip, grd, grdO, nthO, gB, gBV, Nat.pred, wnt, List.toList_toArray, List.cons_append, List.nil_append, List.append_nil]) (hvs' : evsG σ.ρ xs.toList = some vs := by dsimp only [ev, evs, evsG, cons2, lk, lkE, cond, Nat.beq, evG, stO', V.strip, grd, grdO, nthO, gB, gBV, Nat.pred, wnt, List.toList_toArray, List.cons_append, List.nil_append, List.append_nil]) (hct : B = true → CTs f args [.st α dα s u]) (hfn : FnOk Tryd.prog f) (hfl : flatV u s.fk = some cv := by rfl) (hside : B = true → sideP B True σ.ρ xs.toList := by intro h; first | exact trivial | (dsimp only [sideP, sdV, ev, lk, cond, Nat.beq, V.side, List.toList_toArray]; (repeat' apply And.intro) <;> first | exact trivial | exact h | exact fun h => h | exact (Bool.and_eq_true_iff.1 h).1 | exact (Bool.and_eq_true_iff.1 h).2 | exact fun h => (Bool.and_eq_true_iff.1 h).1 | exact fun h => (Bool.and_eq_true_iff.1 h).2 | exact fun h => (Bool.and_eq_true_iff.1 (Bool.and_eq_true_iff.1 h).1).1 | (intro h; simp_all))) (hargs : B = true → ArgsOk σ.E (vs ++ cs) args := by intro h; dsimp only [lk, lkE, cond, Nat.beq, List.cons_append, List.nil_append, List.append_nil, ArgsOk, AsOk, Arg.ok, Ar0.ok, SlOk, payE, En.pay, FkV, agC, cellsAt, En.cells, List.map, Str.fk, id]; repeat' (first | assumption | rfl | exact trivial | apply And.intro | omega)) (hd : Nat.blt d σ.n = true := by rfl) :
    OpS (cx fn Bz S1 w1 hk1 hs1 hd1) σ all ⟨some d, .call { callee := .value x, args := xs, argTypes := ts }, ty, pos, after, some (j, want)⟩ (put d (.gd B (.ag cv)) σ) := OpS.callGs hB hct hfl hfn hx (evsG_spec hvs') hside hargs hd
theorem qe {op : BinOp} {t t' : Nat} {x y : Operand} {vx vy : List V} {cx' cy : List Value} {r b : Bool} (he : eqP Tryd.prog t cx' cy r) (hx : ev σ.ρ x = some (.ag vx) := by dsimp only [ev, evs, evsG, cons2, lk, lkE, cond, Nat.beq, evG, stO', V.strip, grd, grdO, nthO, gB, gBV, Nat.pred, wnt, List.toList_toArray, List.cons_append, List.nil_append, List.append_nil]) (hy : ev σ.ρ y = some (.ag vy) := by dsimp only [ev, evs, evsG, cons2, lk, lkE, cond, Nat.beq, evG, stO', V.strip, grd, grdO, nthO, gB, gBV, Nat.pred, wnt, List.toList_toArray, List.cons_append, List.nil_append, List.append_nil]) (hcx : plainL vx = some cx' := by rfl) (hcy : plainL vy = some cy := by rfl) (ho : op = .eql ∨ op = .neq := by first | exact .inl rfl | exact .inr rfl) (hb : (match op with | .eql => r | _ => !r) = b := by dsimp only) (hd : Nat.blt d σ.n = true := by rfl) :
    OpS (cx fn Bz S1 w1 hk1 hs1 hd1) σ all ⟨some d, .binOp op t x y t', ty, pos, after, none⟩ (put d (.v (.bool b)) σ) := by rw [← hb]; exact OpS.eqs hx hy hcx hcy he ho hd
theorem qg {op : BinOp} {t t' : Nat} {x y : Operand} {vx vy : List V} {cx' cy : List Value} {r b : Bool} {j : Nat} {want B : Bool} (he : B = true → eqP Tryd.prog t cx' cy r) (hB : gB σ.ρ all j want = some B := by dsimp only [ev, evs, evsG, cons2, lk, lkE, cond, Nat.beq, evG, stO', V.strip, grd, grdO, nthO, gB, gBV, Nat.pred, wnt, List.toList_toArray, List.cons_append, List.nil_append, List.append_nil]) (hx : evG σ.ρ x = some (.ag vx) := by dsimp only [ev, evs, evsG, cons2, lk, lkE, cond, Nat.beq, evG, stO', V.strip, grd, grdO, nthO, gB, gBV, Nat.pred, wnt, List.toList_toArray, List.cons_append, List.nil_append, List.append_nil]) (hy : evG σ.ρ y = some (.ag vy) := by dsimp only [ev, evs, evsG, cons2, lk, lkE, cond, Nat.beq, evG, stO', V.strip, grd, grdO, nthO, gB, gBV, Nat.pred, wnt, List.toList_toArray, List.cons_append, List.nil_append, List.append_nil]) (hside : B = true → sideP B True σ.ρ [x, y] := by intro h; first | exact trivial | (dsimp only [sideP, sdV, ev, lk, cond, Nat.beq, V.side, List.toList_toArray]; (repeat' apply And.intro) <;> first | exact trivial | exact h | exact fun h => h | exact (Bool.and_eq_true_iff.1 h).1 | exact (Bool.and_eq_true_iff.1 h).2 | exact fun h => (Bool.and_eq_true_iff.1 h).1 | exact fun h => (Bool.and_eq_true_iff.1 h).2 | exact fun h => (Bool.and_eq_true_iff.1 (Bool.and_eq_true_iff.1 h).1).1 | (intro h; simp_all))) (hcx : plainL vx = some cx' := by rfl) (hcy : plainL vy = some cy := by rfl) (ho : op = .eql ∨ op = .neq := by first | exact .inl rfl | exact .inr rfl) (hb : (match op with | .eql => r | _ => !r) = b := by dsimp only) (hd : Nat.blt d σ.n = true := by rfl) :
    OpS (cx fn Bz S1 w1 hk1 hs1 hd1) σ all ⟨some d, .binOp op t x y t', ty, pos, after, some (j, want)⟩ (put d (.gd B (.v (.bool b))) σ) := by rw [← hb]; exact OpS.eqsG hB hx hy hside hcx hcy he ho hd
theorem sG {t : Nat} {x y : Operand} {i : Int} {s : ByteArray} {j : Nat} {want B : Bool} (k : Nat) (hB : gB σ.ρ all j want = some B := by dsimp only [ev, evs, evsG, cons2, lk, lkE, cond, Nat.beq, evG, stO', V.strip, grd, grdO, nthO, gB, gBV, Nat.pred, wnt, List.toList_toArray, List.cons_append, List.nil_append, List.append_nil]) (hx : evG σ.ρ x = some (.v (.string s)) := by dsimp only [ev, evs, evsG, cons2, lk, lkE, cond, Nat.beq, evG, stO', V.strip, grd, grdO, nthO, gB, gBV, Nat.pred, wnt, List.toList_toArray, List.cons_append, List.nil_append, List.append_nil]) (hy : evG σ.ρ y = some (.v (.int .i64 i)) := by dsimp only [ev, evs, evsG, cons2, lk, lkE, cond, Nat.beq, evG, stO', V.strip, grd, grdO, nthO, gB, gBV, Nat.pred, wnt, List.toList_toArray, List.cons_append, List.nil_append, List.append_nil]) (hk : B = true → k < s.size) (hi : B = true → i = k := by intro _; rfl) (hside : B = true → sideP B True σ.ρ [x, y] := by intro h; first | exact trivial | (dsimp only [sideP, sdV, ev, lk, cond, Nat.beq, V.side, List.toList_toArray]; (repeat' apply And.intro) <;> first | exact trivial | exact h | exact fun h => h | exact (Bool.and_eq_true_iff.1 h).1 | exact (Bool.and_eq_true_iff.1 h).2 | exact fun h => (Bool.and_eq_true_iff.1 h).1 | exact fun h => (Bool.and_eq_true_iff.1 h).2 | exact fun h => (Bool.and_eq_true_iff.1 (Bool.and_eq_true_iff.1 h).1).1 | (intro h; simp_all))) (ht : ti t = .str := by rfl) (hd : Nat.blt d σ.n = true := by rfl) :
    OpS (cx fn Bz S1 w1 hk1 hs1 hd1) σ all ⟨some d, .index t x y, ty, pos, after, some (j, want)⟩ (put d (.gd B (.v (.int .u8 (byteAt s k).toNat))) σ) := OpS.sidxG hB hx hy hside ht hi hk hd
theorem cm {fid : FuncId} {mk m0 nn : Nat} {E0 F0 E1 : List (Nat × En)} {args r : List V} (f fk is js rest : List Nat) {x : Operand} {cs : List V} {xs : Array Operand} {ts : Array TypeId} {vs : List V} {G0 : Prop} (hct : CTMs fid mk m0 E0 F0 args E1 nn r G0) (hfn : FnOk Tryd.prog fid) (hx : ev σ.ρ x = some (.fn fid cs) := by dsimp only [ev, evs, evsG, cons2, lk, lkE, cond, Nat.beq, evG, stO', V.strip, grd, grdO, nthO, gB, gBV, Nat.pred, wnt, List.toList_toArray, List.cons_append, List.nil_append, List.append_nil]) (hev : evs σ.ρ xs.toList = some vs := by dsimp only [ev, evs, evsG, cons2, lk, lkE, cond, Nat.beq, evG, stO', V.strip, grd, grdO, nthO, gB, gBV, Nat.pred, wnt, List.toList_toArray, List.cons_append, List.nil_append, List.append_nil]) (hva : renL f args = some (vs ++ cs) := by rfl) (hfm : Nat.beq f.length m0 = true := by rfl) (hfk : f.take mk = fk := by rfl) (hE0 : SubE f σ.E is E0 := by first | exact trivial | (dsimp only [SubE, V.ren, renL, En.ren, nthE, nthF, lk, cond, Nat.beq, Nat.pred, List.length, List.length_nil, Nat.reduceAdd, List.getElem?_cons_zero, List.getElem?_cons_succ, pinsF, borL, borN, List.cons_append, List.nil_append, List.append_nil]; (repeat' apply And.intro) <;> first | rfl | exact trivial)) (hF0 : SubE f (borL σ.E) js F0 := by first | exact trivial | (dsimp only [SubE, V.ren, renL, En.ren, nthE, nthF, lk, cond, Nat.beq, Nat.pred, List.length, List.length_nil, Nat.reduceAdd, List.getElem?_cons_zero, List.getElem?_cons_succ, pinsF, borL, borN, List.cons_append, List.nil_append, List.append_nil]; (repeat' apply And.intro) <;> first | rfl | exact trivial)) (hFs : isFs F0 = true := by rfl) (hdj : djB is js = true := by rfl) (hnd : (is ++ rest).Nodup := by decide) (hrest : rest.map (nthE σ.E) = (pickE σ.E rest).map some := by rfl) (hd : Nat.blt d σ.n = true := by rfl) (hlt : allLt σ.m f = true := by rfl) (hmk : Nat.ble mk m0 = true := by rfl) (hE1 : isCks E1 = true := by rfl) :
    OpSg (cx fn Bz S1 w1 hk1 hs1 hd1) σ all ⟨some d, .call { callee := .value x, args := xs, argTypes := ts }, ty, pos, after, none⟩ (afterM σ d fk E1 nn r rest) G0 := OpS.callM hct hfn (fun g hg => hs1 g (Bz.gin g hg)) f fk is js rest hx hev hva hfm hfk hE0 hF0 hFs hdj hnd hrest hd hlt hmk hE1
theorem ce {res : List Re} {k : List It} {r : List Oper} {res2 : Value → List Re} {ok : Bool} {f : FuncId} {x : Operand} {cs : List V} {xs : Array Operand} {ts : Array TypeId} {args : List Arg} {vs : List V} (hct : CTEs f args res2 ok) (hfn : FnOk Tryd.prog f) {σ' : Value → St} (h : ∀ u, ErrIs ok u → Run (cx fn Bz S1 w1 hk1 hs1 hd1) res (σ' u) (.ops r all :: k)) (hx : ev σ.ρ x = some (.fn f cs) := by dsimp only [ev, evs, evsG, cons2, lk, lkE, cond, Nat.beq, evG, stO', V.strip, grd, grdO, nthO, gB, gBV, Nat.pred, wnt, List.toList_toArray, List.cons_append, List.nil_append, List.append_nil]) (hev : evs σ.ρ xs.toList = some vs := by dsimp only [ev, evs, evsG, cons2, lk, lkE, cond, Nat.beq, evG, stO', V.strip, grd, grdO, nthO, gB, gBV, Nat.pred, wnt, List.toList_toArray, List.cons_append, List.nil_append, List.append_nil]) (hargs : ArgsOk σ.E (vs ++ cs) args := by dsimp only [lk, lkE, cond, Nat.beq, List.cons_append, List.nil_append, List.append_nil, ArgsOk, AsOk, Arg.ok, Ar0.ok, SlOk, payE, En.pay, FkV, agC, cellsAt, En.cells, List.map, Str.fk, id]; repeat' (first | assumption | rfl | exact trivial | apply And.intro | omega)) (hd : Nat.blt d σ.n = true := by rfl) (hs : ∀ u, afterCall σ d (res2 u) = σ' u := by intro u; dsimp only [afterCall, afterM, afterAppN, setV, fwE, En.fw, V.fw, fwL, nthG, pickE, consO, nthE, Nat.pred, afterIdx, afterIdxM, afterRos, afterStE, rnR, rnE, V.rn, rnL, En.rn, dropE, memN, V.names.namesL, V.names, afterApp, afterApp0, put, putE, setE, packV, bindRs, bindR, opn, nsl, id, cond, Nat.beq, Nat.reduceAdd, Nat.add_zero, Nat.zero_add, List.cons_append, List.nil_append, List.append_nil, List.append, List.length_cons, List.length_nil, Str.fk]) :
    Run (cx fn Bz S1 w1 hk1 hs1 hd1) res σ (.ops (⟨some d, .call { callee := .value x, args := xs, argTypes := ts }, ty, pos, after, none⟩ :: r) all :: k) := Run.callE hct hfn hx hev hargs hd (fun u hu => by rw [hs u]; exact h u hu)
theorem er {t t' : Nat} {x : Operand} {u : Value} {ok : Bool} (hu : ErrIs ok u) (hx : ev σ.ρ x = some (.v u) := by dsimp only [ev, evs, evsG, cons2, lk, lkE, cond, Nat.beq, evG, stO', V.strip, grd, grdO, nthO, gB, gBV, Nat.pred, wnt, List.toList_toArray, List.cons_append, List.nil_append, List.append_nil]) (ht : Tryd.prog.underlying t = some (.interface (Tryd.prog.methodsAt t)) := by kernel_rfl) (hd : Nat.blt d σ.n = true := by rfl) :
    OpS (cx fn Bz S1 w1 hk1 hs1 hd1) σ all ⟨some d, .binOp .neq t x (.const .nilIface) t', ty, pos, after, none⟩ (put d (.v (.bool (!ok))) σ) := OpS.errne hx hu ht hd
theorem rG {t t' : Nat} {x y : Operand} {k : IntKind} {i i2 : Int} {j : Nat} {want B : Bool} (hB : gB σ.ρ all j want = some B := by dsimp only [ev, evs, evsG, cons2, lk, lkE, cond, Nat.beq, evG, stO', V.strip, grd, grdO, nthO, gB, gBV, Nat.pred, wnt, List.toList_toArray, List.cons_append, List.nil_append, List.append_nil]) (hx : evG σ.ρ x = some (.v (.int k i)) := by dsimp only [ev, evs, evsG, cons2, lk, lkE, cond, Nat.beq, evG, stO', V.strip, grd, grdO, nthO, gB, gBV, Nat.pred, wnt, List.toList_toArray, List.cons_append, List.nil_append, List.append_nil]) (hy : evG σ.ρ y = some (.v (.int k i2)) := by dsimp only [ev, evs, evsG, cons2, lk, lkE, cond, Nat.beq, evG, stO', V.strip, grd, grdO, nthO, gB, gBV, Nat.pred, wnt, List.toList_toArray, List.cons_append, List.nil_append, List.append_nil]) (hside : B = true → sideP B True σ.ρ [x, y] := by intro h; first | exact trivial | (dsimp only [sideP, sdV, ev, lk, cond, Nat.beq, V.side, List.toList_toArray]; (repeat' apply And.intro) <;> first | exact trivial | exact h | exact fun h => h | (intro h; simp_all))) (hj : B = true → i2 ≠ 0 := by intro _; decide) (hd : Nat.blt d σ.n = true := by rfl) :
    OpS (cx fn Bz S1 w1 hk1 hs1 hd1) σ all ⟨some d, .binOp .rem t x y t', ty, pos, after, some (j, want)⟩ (put d (.gd B (.v (.int k (i.tmod i2)))) σ) := OpS.remG hB hx hy hside hj hd
theorem sr {t t' : Nat} {x y : Operand} {k q : IntKind} {i j : Int} (hx : ev σ.ρ x = some (.v (.int k i)) := by dsimp only [ev, evs, evsG, cons2, lk, lkE, cond, Nat.beq, evG, stO', V.strip, grd, grdO, nthO, gB, gBV, Nat.pred, wnt, List.toList_toArray, List.cons_append, List.nil_append, List.append_nil]) (hy : ev σ.ρ y = some (.v (.int q j)) := by dsimp only [ev, evs, evsG, cons2, lk, lkE, cond, Nat.beq, evG, stO', V.strip, grd, grdO, nthO, gB, gBV, Nat.pred, wnt, List.toList_toArray, List.cons_append, List.nil_append, List.append_nil]) (hd : Nat.blt d σ.n = true := by rfl) (hj : 0 ≤ j := by decide) :
    OpS (cx fn Bz S1 w1 hk1 hs1 hd1) σ all ⟨some d, .binOp .shr t x y t', ty, pos, after, none⟩ (put d (.v (.int k (shrI k i j))) σ) := OpS.shr hx hy hd hj
theorem sL {t t' : Nat} {x y : Operand} {k q : IntKind} {i j : Int} (hx : ev σ.ρ x = some (.v (.int k i)) := by dsimp only [ev, evs, evsG, cons2, lk, lkE, cond, Nat.beq, evG, stO', V.strip, grd, grdO, nthO, gB, gBV, Nat.pred, wnt, List.toList_toArray, List.cons_append, List.nil_append, List.append_nil]) (hy : ev σ.ρ y = some (.v (.int q j)) := by dsimp only [ev, evs, evsG, cons2, lk, lkE, cond, Nat.beq, evG, stO', V.strip, grd, grdO, nthO, gB, gBV, Nat.pred, wnt, List.toList_toArray, List.cons_append, List.nil_append, List.append_nil]) (hd : Nat.blt d σ.n = true := by rfl) (hj : 0 ≤ j := by decide) :
    OpS (cx fn Bz S1 w1 hk1 hs1 hd1) σ all ⟨some d, .binOp .shl t x y t', ty, pos, after, none⟩ (put d (.v (.int k (shlI k i j))) σ) := OpS.shl hx hy hd hj
theorem ix {α : Type} {dα : Dat α} [s : Str α] [Inhabited α] {t e by' r len : Nat} {x y : Operand} {i : Int} {xs : List α} (k : Nat) (hk : k < xs.length) (hx : ev σ.ρ x = some (.sl r len) := by dsimp only [ev, evs, evsG, cons2, lk, lkE, cond, Nat.beq, evG, stO', V.strip, grd, grdO, nthO, gB, gBV, Nat.pred, wnt, List.toList_toArray, List.cons_append, List.nil_append, List.append_nil]) (hy : ev σ.ρ y = some (.v (.int .i64 i)) := by dsimp only [ev, evs, evsG, cons2, lk, lkE, cond, Nat.beq, evG, stO', V.strip, grd, grdO, nthO, gB, gBV, Nat.pred, wnt, List.toList_toArray, List.cons_append, List.nil_append, List.append_nil]) (hp : lkE σ.E r = some (.ros α dα xs) := by dsimp only [ev, evs, evsG, cons2, lk, lkE, cond, Nat.beq, evG, stO', V.strip, grd, grdO, nthO, gB, gBV, Nat.pred, wnt, List.toList_toArray, List.cons_append, List.nil_append, List.append_nil]) (hl : len = xs.length := by first | rfl | simp only [List.length_set]) (hi : i = k := by rfl) (ht : ti t = .sl e (Dat.sz α) by' := by rfl) (hd : Nat.blt d σ.n = true := by rfl) :
    OpS (cx fn Bz S1 w1 hk1 hs1 hd1) σ all ⟨some d, .indexAddr t x y, ty, pos, after, none⟩ (afterIdx σ d (nth xs k) s.fk) := OpS.index hx hy hp hl ht hd hi hk
theorem sx {t : Nat} {x y : Operand} {i : Int} {s : ByteArray} (k : Nat) (hk : k < s.size) (hx : ev σ.ρ x = some (.v (.string s)) := by dsimp only [ev, evs, evsG, cons2, lk, lkE, cond, Nat.beq, evG, stO', V.strip, grd, grdO, nthO, gB, gBV, Nat.pred, wnt, List.toList_toArray, List.cons_append, List.nil_append, List.append_nil]) (hy : ev σ.ρ y = some (.v (.int .i64 i)) := by dsimp only [ev, evs, evsG, cons2, lk, lkE, cond, Nat.beq, evG, stO', V.strip, grd, grdO, nthO, gB, gBV, Nat.pred, wnt, List.toList_toArray, List.cons_append, List.nil_append, List.append_nil]) (hi : i = k := by rfl) (ht : ti t = .str := by rfl) (hd : Nat.blt d σ.n = true := by rfl) :
    OpS (cx fn Bz S1 w1 hk1 hs1 hd1) σ all ⟨some d, .index t x y, ty, pos, after, none⟩ (put d (.v (.int .u8 (byteAt s k).toNat)) σ) := OpS.sidx hx hy ht hd hi hk
theorem ca {t t' : Nat} {x y : Operand} {p q : ByteArray} (hx : ev σ.ρ x = some (.v (.string p)) := by dsimp only [ev, evs, evsG, cons2, lk, lkE, cond, Nat.beq, evG, stO', V.strip, grd, grdO, nthO, gB, gBV, Nat.pred, wnt, List.toList_toArray, List.cons_append, List.nil_append, List.append_nil]) (hy : ev σ.ρ y = some (.v (.string q)) := by dsimp only [ev, evs, evsG, cons2, lk, lkE, cond, Nat.beq, evG, stO', V.strip, grd, grdO, nthO, gB, gBV, Nat.pred, wnt, List.toList_toArray, List.cons_append, List.nil_append, List.append_nil]) (hd : Nat.blt d σ.n = true := by rfl) (hs : p.size + q.size ≤ 9223372036854775807) :
    OpS (cx fn Bz S1 w1 hk1 hs1 hd1) σ all ⟨some d, .binOp .add t x y t', ty, pos, after, none⟩ (put d (.v (.string (p ++ q))) σ) := OpS.cat hx hy hd hs
theorem ap {α : Type} {dα : Dat α} [s : @Str α dα] {t e by' r q n len T : Nat} {x y : Operand} {z : Value} {xs : List α} (ys : List α) {cs : List V} (hx : ev σ.ρ x = some (.sl r len) := by dsimp only [ev, evs, evsG, cons2, lk, lkE, cond, Nat.beq, evG, stO', V.strip, grd, grdO, nthO, gB, gBV, Nat.pred, wnt, List.toList_toArray, List.cons_append, List.nil_append, List.append_nil]) (hr : lkE σ.E r = some (.own α dα xs) := by dsimp only [ev, evs, evsG, cons2, lk, lkE, cond, Nat.beq, evG, stO', V.strip, grd, grdO, nthO, gB, gBV, Nat.pred, wnt, List.toList_toArray, List.cons_append, List.nil_append, List.append_nil]) (hy : ev σ.ρ y = some (.sl q n) := by dsimp only [ev, evs, evsG, cons2, lk, lkE, cond, Nat.beq, evG, stO', V.strip, grd, grdO, nthO, gB, gBV, Nat.pred, wnt, List.toList_toArray, List.cons_append, List.nil_append, List.append_nil]) (hq : lkE σ.E q = some (.lit cs T n) := by dsimp only [ev, evs, evsG, cons2, lk, lkE, cond, Nat.beq, evG, stO', V.strip, grd, grdO, nthO, gB, gBV, Nat.pred, wnt, List.toList_toArray, List.cons_append, List.nil_append, List.append_nil]) (ht : ti t = .sl e (Dat.sz α) by' := by rfl) (hz : zr e = some z := by rfl) (hm : xs.length + ys.length ≤ 9223372036854775807 := by first | omega | (simp only [List.length_cons, List.length_nil]; first | omega | exact om) | exact om) (hl : len = xs.length := by first | rfl | simp only [List.length_set])
    (hzs : z.cells.size = Dat.sz α := by rfl) (hd : Nat.blt d σ.n = true := by rfl) (hyl : ys.length = n := by rfl) (hnm : V.names.namesL cs = [] := by rfl) (h1 : oneL cs = true := by rfl) (hg : ElOk σ.E (Dat.sz α) dα s.fk ys cs) (hb : (xs.length + ys.length) * by' ≤ 140737488355328) :
    OpS (cx fn Bz S1 w1 hk1 hs1 hd1) σ all ⟨some d, .call { callee := .builtin .append, args := #[x, y], argTypes := #[t, t] }, ty, pos, after, none⟩ (afterApp σ d r dα (xs ++ ys)) := OpS.app hx hr hl hy hq ht hz hzs hd hyl hnm hg h1 hb hm
theorem a0 {α : Type} {dα : Dat α} [s : @Str α dα] {t e by' q n T : Nat} {x y : Operand} {z : Value} (ys : List α) {cs : List V} (hx : ev σ.ρ x = some (.v (.slice none 0 0)) := by dsimp only [ev, evs, evsG, cons2, lk, lkE, cond, Nat.beq, evG, stO', V.strip, grd, grdO, nthO, gB, gBV, Nat.pred, wnt, List.toList_toArray, List.cons_append, List.nil_append, List.append_nil]) (hy : ev σ.ρ y = some (.sl q n) := by dsimp only [ev, evs, evsG, cons2, lk, lkE, cond, Nat.beq, evG, stO', V.strip, grd, grdO, nthO, gB, gBV, Nat.pred, wnt, List.toList_toArray, List.cons_append, List.nil_append, List.append_nil]) (hq : lkE σ.E q = some (.lit cs T n) := by dsimp only [ev, evs, evsG, cons2, lk, lkE, cond, Nat.beq, evG, stO', V.strip, grd, grdO, nthO, gB, gBV, Nat.pred, wnt, List.toList_toArray, List.cons_append, List.nil_append, List.append_nil]) (ht : ti t = .sl e (Dat.sz α) by' := by rfl) (hz : zr e = some z := by rfl) (hm : ys.length ≤ 9223372036854775807 := by first | omega | (simp only [List.length_cons, List.length_nil]; first | omega | exact om) | exact om)
    (hzs : z.cells.size = Dat.sz α := by rfl) (hd : Nat.blt d σ.n = true := by rfl) (hyl : ys.length = n := by rfl) (hnm : V.names.namesL cs = [] := by rfl) (h1 : oneL cs = true := by rfl) (hg : ElOk σ.E (Dat.sz α) dα s.fk ys cs) (hb : ys.length * by' ≤ 140737488355328) :
    OpS (cx fn Bz S1 w1 hk1 hs1 hd1) σ all ⟨some d, .call { callee := .builtin .append, args := #[x, y], argTypes := #[t, t] }, ty, pos, after, none⟩ (afterApp0 σ d dα ys) := OpS.app0 hx hy hq ht hz hzs hd hyl hnm hg h1 hb hm
theorem aS {α : Type} {dα : Dat α} [s : @Str α dα] {t e by' : Nat} {x y : Operand} {z : Value} (xs ys : List α) (rs : List Nat) {vx vy : V} (hb : (xs.length + ys.length) * by' ≤ 140737488355328) (hm : xs.length + ys.length ≤ 9223372036854775807) (hx : ev σ.ρ x = some vx := by dsimp only [ev, evs, evsG, cons2, lk, lkE, cond, Nat.beq, evG, stO', V.strip, grd, grdO, nthO, gB, gBV, Nat.pred, wnt, List.toList_toArray, List.cons_append, List.nil_append, List.append_nil]) (hy : ev σ.ρ y = some vy := by dsimp only [ev, evs, evsG, cons2, lk, lkE, cond, Nat.beq, evG, stO', V.strip, grd, grdO, nthO, gB, gBV, Nat.pred, wnt, List.toList_toArray, List.cons_append, List.nil_append, List.append_nil]) (hr : XRow σ.E α dα xs rs vx := by dsimp only [XRow, payOE, En.payO, lkE, cond, Nat.beq]; repeat' (first | rfl | exact trivial | apply And.intro)) (hq : SlOk σ.E α dα ys vy := by dsimp only [SlOk, payE, En.pay, lkE, cond, Nat.beq]; repeat' (first | rfl | exact trivial | apply And.intro)) (ht : ti t = .sl e (Dat.sz α) by' := by rfl) (hz : zr e = some z := by rfl) (hfl : flats s.fk = true := by rfl)
    (hzs : z.cells.size = Dat.sz α := by rfl) (hd : Nat.blt d σ.n = true := by rfl) :
    OpS (cx fn Bz S1 w1 hk1 hs1 hd1) σ all ⟨some d, .call { callee := .builtin .append, args := #[x, y], argTypes := #[t, t] }, ty, pos, after, none⟩ (afterAppN σ d dα (xs ++ ys) rs) := OpS.appS hx hr hy hq hfl ht hz hzs hd hb hm
theorem aN {α : Type} {dα : Dat α} [s : @Str α dα] {t e by' q T : Nat} {x y : Operand} {z : Value} (xs : List α) (y0 : α) (rs : List Nat) {vx : V} {cs : List V} (hg : Dat.good y0) (hb : (xs.length + 1) * by' ≤ 140737488355328) (hm : xs.length + 1 ≤ 9223372036854775807) (hx : ev σ.ρ x = some vx := by dsimp only [ev, evs, evsG, cons2, lk, lkE, cond, Nat.beq, evG, stO', V.strip, grd, grdO, nthO, gB, gBV, Nat.pred, wnt, List.toList_toArray, List.cons_append, List.nil_append, List.append_nil]) (hy : ev σ.ρ y = some (.sl q 1) := by dsimp only [ev, evs, evsG, cons2, lk, lkE, cond, Nat.beq, evG, stO', V.strip, grd, grdO, nthO, gB, gBV, Nat.pred, wnt, List.toList_toArray, List.cons_append, List.nil_append, List.append_nil]) (hq : lkE σ.E q = some (.lit cs T 1) := by dsimp only [ev, evs, evsG, cons2, lk, lkE, cond, Nat.beq, evG, stO', V.strip, grd, grdO, nthO, gB, gBV, Nat.pred, wnt, List.toList_toArray, List.cons_append, List.nil_append, List.append_nil]) (hr : XRow σ.E α dα xs rs vx := by dsimp only [XRow, payOE, En.payO, lkE, cond, Nat.beq]; repeat' (first | rfl | exact trivial | apply And.intro)) (ht : ti t = .sl e (Dat.sz α) by' := by rfl) (hz : zr e = some z := by rfl)
    (hzs : z.cells.size = Dat.sz α := by rfl) (hd : Nat.blt d σ.n = true := by rfl) (hf : FkO σ.E y0 s.fk cs := by dsimp only [SlOwn, payOE, En.payO, lkE, cond, Nat.beq, FkO, Str.fk, id]; repeat' (first | assumption | rfl | exact trivial | apply And.intro | omega)) (h1 : oneL cs = true := by rfl) (hn : (rs ++ V.names.namesL cs).Nodup := by dsimp only [V.names.namesL, V.names, List.append_nil, List.nil_append, List.cons_append]; decide) :
    OpS (cx fn Bz S1 w1 hk1 hs1 hd1) σ all ⟨some d, .call { callee := .builtin .append, args := #[x, y], argTypes := #[t, t] }, ty, pos, after, none⟩ (afterAppN σ d dα (xs ++ [y0]) (rs ++ V.names.namesL cs)) := OpS.appN y0 hx hr hy hq ht hz hzs hd hg hf h1 hn hb hm
theorem ma {α : Type} {dα : Dat α} [s : @Str α dα] {t e by' : Nat} {x y : Operand} {z : Value} {i j : Int} (m : Nat) (z0 : α) (hx : ev σ.ρ x = some (.v (.int .i64 i)) := by dsimp only [ev, evs, evsG, cons2, lk, lkE, cond, Nat.beq, evG, stO', V.strip, grd, grdO, nthO, gB, gBV, Nat.pred, wnt, List.toList_toArray, List.cons_append, List.nil_append, List.append_nil]) (hy : ev σ.ρ y = some (.v (.int .i64 j)) := by dsimp only [ev, evs, evsG, cons2, lk, lkE, cond, Nat.beq, evG, stO', V.strip, grd, grdO, nthO, gB, gBV, Nat.pred, wnt, List.toList_toArray, List.cons_append, List.nil_append, List.append_nil]) (ht : ti t = .sl e (Dat.sz α) by' := by rfl) (hz : zr e = some z := by rfl) (hm : m ≤ 9223372036854775807 := by omega) (hb : by' * m ≤ 281474976710656 := by omega) (hi : i = m := by rfl) (hj : j = m := by rfl) (hzs : z.cells.size = Dat.sz α := by rfl) (ho : ElOk σ.E (Dat.sz α) dα s.fk [z0] (z.cells.toList.map V.v) := by dsimp only [Value.cells, List.toList_toArray, List.map]; dsimp only [ElOk, SlOwn, payOE, En.payO, lkE, cond, Nat.beq, FkO, agC, List.map, Str.fk, id, List.take, List.drop, List.take_succ_cons, List.drop_succ_cons, List.take_zero, List.drop_zero]; repeat' (first | assumption | rfl | exact trivial | apply And.intro | exact gi _ | exact gs _ | omega)) (hd : Nat.blt d σ.n = true := by rfl) :
    OpS (cx fn Bz S1 w1 hk1 hs1 hd1) σ all ⟨some d, .makeSlice t x y, ty, pos, after, none⟩ (afterApp0 σ d dα (List.replicate m z0)) := OpS.make m z0 hx hy hi hj ht hz hzs ho hb hm hd
theorem l0 {t e sz by' : Nat} (ht : ti t = .sl e sz by' := by rfl) (hd : Nat.blt d σ.n = true := by rfl) : OpS (cx fn Bz S1 w1 hk1 hs1 hd1) σ all ⟨some d, .buildSlice t 0 #[], ty, pos, after, none⟩ ⟨σ.n, σ.m + 1, (d, .sl σ.m 0) :: σ.ρ, (σ.m, .lit [] e 0) :: σ.E⟩ := OpS.lit0 ht hd
theorem rg {t : Nat} {x : Operand} {s : ByteArray} (hx : ev σ.ρ x = some (.v (.string s)) := by dsimp only [ev, evs, evsG, cons2, lk, lkE, cond, Nat.beq, evG, stO', V.strip, grd, grdO, nthO, gB, gBV, Nat.pred, wnt, List.toList_toArray, List.cons_append, List.nil_append, List.append_nil]) (ht : ti t = .str := by rfl) (hd : Nat.blt d σ.n = true := by rfl) :
    OpS (cx fn Bz S1 w1 hk1 hs1 hd1) σ all ⟨some d, .range t x, ty, pos, after, none⟩ ⟨σ.n, σ.m + 1, (d, .pt σ.m 0) :: σ.ρ, (σ.m, .itr s 0) :: σ.E⟩ := OpS.range hx ht hd
theorem nx {res : List Re} {k : List It} {rest : List Oper} {x : Operand} {r : Nat} {s : ByteArray} {p : Nat} {σ1 σ2 : St} (h1 : p < s.size → Run (cx fn Bz S1 w1 hk1 hs1 hd1) res σ1 (.ops rest all :: k)) (h2 : ¬ p < s.size → Run (cx fn Bz S1 w1 hk1 hs1 hd1) res σ2 (.ops rest all :: k)) (ha : ascii s) (hx : ev σ.ρ x = some (.pt r 0) := by dsimp only [ev, evs, evsG, cons2, lk, lkE, cond, Nat.beq, evG, stO', V.strip, grd, grdO, nthO, gB, gBV, Nat.pred, wnt, List.toList_toArray, List.cons_append, List.nil_append, List.append_nil]) (he : lkE σ.E r = some (.itr s p) := by dsimp only [ev, evs, evsG, cons2, lk, lkE, cond, Nat.beq, evG, stO', V.strip, grd, grdO, nthO, gB, gBV, Nat.pred, wnt, List.toList_toArray, List.cons_append, List.nil_append, List.append_nil])
    (e1 : (⟨σ.n, σ.m, (d, .tu [.v (.bool true), .v (.int .i64 p), .v (.int .i32 (byteAt s p).toNat)]) :: σ.ρ, putE r (r, .itr s (p + 1)) σ.E⟩ : St) = σ1 := by dsimp only [afterCall, afterM, afterAppN, setV, fwE, En.fw, V.fw, fwL, nthG, pickE, consO, nthE, Nat.pred, afterIdx, afterIdxM, afterRos, afterStE, rnR, rnE, V.rn, rnL, En.rn, dropE, memN, V.names.namesL, V.names, afterApp, afterApp0, put, putE, setE, packV, bindRs, bindR, opn, nsl, id, cond, Nat.beq, Nat.reduceAdd, Nat.add_zero, Nat.zero_add, List.cons_append, List.nil_append, List.append_nil, List.append, List.length_cons, List.length_nil, Str.fk]) (e2 : (⟨σ.n, σ.m, (d, .tu [.v (.bool false)]) :: σ.ρ, σ.E⟩ : St) = σ2 := by dsimp only [afterCall, afterM, afterAppN, setV, fwE, En.fw, V.fw, fwL, nthG, pickE, consO, nthE, Nat.pred, afterIdx, afterIdxM, afterRos, afterStE, rnR, rnE, V.rn, rnL, En.rn, dropE, memN, V.names.namesL, V.names, afterApp, afterApp0, put, putE, setE, packV, bindRs, bindR, opn, nsl, id, cond, Nat.beq, Nat.reduceAdd, Nat.add_zero, Nat.zero_add, List.cons_append, List.nil_append, List.append_nil, List.append, List.length_cons, List.length_nil, Str.fk]) (hd : Nat.blt d σ.n = true := by rfl) :
    Run (cx fn Bz S1 w1 hk1 hs1 hd1) res σ (.ops (⟨some d, .next x true, ty, pos, after, none⟩ :: rest) all :: k) := Run.next hx he ha hd (by rw [e1]; exact h1) (by rw [e2]; exact h2)
theorem ts {t u e by' : Nat} {x : Operand} {v : V} (xs : List UInt8) (hx : ev σ.ρ x = some v := by dsimp only [ev, evs, evsG, cons2, lk, lkE, cond, Nat.beq, evG, stO', V.strip, grd, grdO, nthO, gB, gBV, Nat.pred, wnt, List.toList_toArray, List.cons_append, List.nil_append, List.append_nil]) (hs : SlOk σ.E UInt8 instDatUInt8 xs v := by dsimp only [SlOk, payE, En.pay, lkE, cond, Nat.beq]; first | exact ⟨rfl, rfl⟩ | exact ⟨by exact om, rfl⟩) (ht : ti t = .sl e 1 by' := by rfl) (he : ti e = .int .u8 := by rfl) (hu : ti u = .str := by rfl) (hd : Nat.blt d σ.n = true := by rfl) :
    OpS (cx fn Bz S1 w1 hk1 hs1 hd1) σ all ⟨some d, .convert t u x, ty, pos, after, none⟩ (put d (.v (.string (bstr xs))) σ) := OpS.toStr xs hx hs ht he hu hd
theorem tb {t u e by' : Nat} {x : Operand} {s : ByteArray} (hx : ev σ.ρ x = some (.v (.string s)) := by dsimp only [ev, evs, evsG, cons2, lk, lkE, cond, Nat.beq, evG, stO', V.strip, grd, grdO, nthO, gB, gBV, Nat.pred, wnt, List.toList_toArray, List.cons_append, List.nil_append, List.append_nil]) (ht : ti u = .sl e 1 by' := by rfl) (he : ti e = .int .u8 := by rfl) (hu : ti t = .str := by rfl) (hd : Nat.blt d σ.n = true := by rfl) (hs : s.size ≤ maxLen) :
    OpS (cx fn Bz S1 w1 hk1 hs1 hd1) σ all ⟨some d, .convert t u x, ty, pos, after, none⟩ (afterRos σ d instDatUInt8 (sbytes s)) := OpS.toBytes hx hs ht he hu hd
theorem cu {t : Nat} {x : Operand} {lo hi : Option Operand} {s : ByteArray} (l h : Nat) (hx : ev σ.ρ x = some (.v (.string s)) := by dsimp only [ev, evs, evsG, cons2, lk, lkE, cond, Nat.beq, evG, stO', V.strip, grd, grdO, nthO, gB, gBV, Nat.pred, wnt, List.toList_toArray, List.cons_append, List.nil_append, List.append_nil]) (hl : bnd σ.ρ 0 l lo := by dsimp only [bnd, ev, lk, cond, Nat.beq]; first | rfl | exact ⟨_, rfl, rfl⟩ | exact ⟨_, rfl, by exact om⟩) (hh : bnd σ.ρ s.size h hi := by dsimp only [bnd, ev, lk, cond, Nat.beq]; first | rfl | exact ⟨_, rfl, rfl⟩ | exact ⟨_, rfl, by exact om⟩) (ht : ti t = .str := by rfl) (hd : Nat.blt d σ.n = true := by rfl) (h1 : l ≤ h := by exact om) (h2 : h ≤ s.size := by exact om) :
    OpS (cx fn Bz S1 w1 hk1 hs1 hd1) σ all ⟨some d, .slice t x lo hi none, ty, pos, after, none⟩ (put d (.v (.string (cutS s l h))) σ) := OpS.cut l h hx hl hh h1 h2 ht hd
theorem pa {α : Type} {dα : Dat α} {t e by' r len : Nat} {x : Operand} {lo hi : Option Operand} {xs : List α} (l h : Nat) (hx : ev σ.ρ x = some (.sl r len) := by dsimp only [ev, evs, evsG, cons2, lk, lkE, cond, Nat.beq, evG, stO', V.strip, grd, grdO, nthO, gB, gBV, Nat.pred, wnt, List.toList_toArray, List.cons_append, List.nil_append, List.append_nil]) (hp : lkE σ.E r = some (.ros α dα xs) := by dsimp only [ev, evs, evsG, cons2, lk, lkE, cond, Nat.beq, evG, stO', V.strip, grd, grdO, nthO, gB, gBV, Nat.pred, wnt, List.toList_toArray, List.cons_append, List.nil_append, List.append_nil]) (hlen : len = xs.length := by rfl) (hl : bnd σ.ρ 0 l lo := by dsimp only [bnd, ev, lk, cond, Nat.beq]; first | rfl | exact ⟨_, rfl, rfl⟩ | exact ⟨_, rfl, by exact om⟩) (hh : bnd σ.ρ xs.length h hi := by dsimp only [bnd, ev, lk, cond, Nat.beq]; first | rfl | exact ⟨_, rfl, rfl⟩ | exact ⟨_, rfl, by exact om⟩) (ht : ti t = .sl e (Dat.sz α) by' := by rfl) (hd : Nat.blt d σ.n = true := by rfl) (h1 : l ≤ h := by exact om) (h2 : h ≤ xs.length := by exact om) :
    OpS (cx fn Bz S1 w1 hk1 hs1 hd1) σ all ⟨some d, .slice t x lo hi none, ty, pos, after, none⟩ (afterRos σ d dα (cutL xs l h)) := OpS.part l h hx hp hlen hl hh h1 h2 ht hd
theorem gx {t len e g : Nat} {x y : Operand} {i : Int} {α : Type} [Inhabited α] (mk : α → Value) (xs : List α) (k : Nat) (hGV : ∀ w, Gw w → GV g (xs.map mk) w) (hk : k < xs.length) (hgl : g ∈ gls := by decide) (hx : ev σ.ρ x = some (.v (.pointer (some ⟨g, 0, none⟩))) := by dsimp only [ev, evs, evsG, cons2, lk, lkE, cond, Nat.beq, evG, stO', V.strip, grd, grdO, nthO, gB, gBV, Nat.pred, wnt, List.toList_toArray, List.cons_append, List.nil_append, List.append_nil]) (hy : ev σ.ρ y = some (.v (.int .i64 i)) := by dsimp only [ev, evs, evsG, cons2, lk, lkE, cond, Nat.beq, evG, stO', V.strip, grd, grdO, nthO, gB, gBV, Nat.pred, wnt, List.toList_toArray, List.cons_append, List.nil_append, List.append_nil]) (hi : i = k := by rfl) (hlen : xs.length = len := by rfl) (ht : chkArr Tryd.prog t len e = true := by kernel_rfl) (hd : Nat.blt d σ.n = true := by rfl) :
    OpS (cx fn Bz S1 w1 hk1 hs1 hd1) σ all ⟨some d, .indexAddr t x y, ty, pos, after, none⟩ ⟨σ.n, σ.m + 1, (d, .pt σ.m 0) :: σ.ρ, (σ.m, .roc [.v (mk (nth xs k))]) :: σ.E⟩ := OpS.gidx mk xs hGV (fun _ _ => hs1 _ (Bz.gin g hgl)) hx hy hi hk hlen ht hd
theorem gsl {t len e g : Nat} {x : Operand} (xs : List ByteArray) (hGV : ∀ w, Gw w → GV g (xs.map Value.string) w) (hgl : g ∈ gls := by decide) (hx : ev σ.ρ x = some (.v (.pointer (some ⟨g, 0, none⟩))) := by dsimp only [ev, evs, evsG, cons2, lk, lkE, cond, Nat.beq, evG, stO', V.strip, grd, grdO, nthO, gB, gBV, Nat.pred, wnt, List.toList_toArray, List.cons_append, List.nil_append, List.append_nil]) (ht : chkArr Tryd.prog t len e = true := by kernel_rfl) (hlen : xs.length = len := by rfl) (hm : Nat.ble len 1000000 = true := by rfl) (hgd : xs.all (fun s => Nat.ble s.size 1000) = true := by decide) (hd : Nat.blt d σ.n = true := by rfl) :
    OpS (cx fn Bz S1 w1 hk1 hs1 hd1) σ all ⟨some d, .slice t x none none none, ty, pos, after, none⟩ (afterRos σ d instDatByteArray xs) := OpS.gslice Value.string xs hGV (hs1 g (Bz.gin g hgl)) hx ht hlen rfl (Nat.le_of_ble_eq_true hm) (fun S w y hy => ⟨rfl, by have := Nat.le_of_ble_eq_true (List.all_eq_true.1 hgd y hy); show y.size ≤ maxLen; unfold maxLen; omega⟩) hd
theorem qo {t t' : Nat} {x y : Operand} {k : IntKind} {i j : Int} (hx : ev σ.ρ x = some (.v (.int k i)) := by dsimp only [ev, evs, evsG, cons2, lk, lkE, cond, Nat.beq, evG, stO', V.strip, grd, grdO, nthO, gB, gBV, Nat.pred, wnt, List.toList_toArray, List.cons_append, List.nil_append, List.append_nil]) (hy : ev σ.ρ y = some (.v (.int k j)) := by dsimp only [ev, evs, evsG, cons2, lk, lkE, cond, Nat.beq, evG, stO', V.strip, grd, grdO, nthO, gB, gBV, Nat.pred, wnt, List.toList_toArray, List.cons_append, List.nil_append, List.append_nil]) (hd : Nat.blt d σ.n = true := by rfl) (hj : j ≠ 0 := by decide) :
    OpS (cx fn Bz S1 w1 hk1 hs1 hd1) σ all ⟨some d, .binOp .quo t x y t', ty, pos, after, none⟩ (put d (.v (.int k (k.wrap (i.tdiv j)))) σ) := OpS.quo hx hy hd hj
theorem rm {t t' : Nat} {x y : Operand} {k : IntKind} {i j : Int} (hx : ev σ.ρ x = some (.v (.int k i)) := by dsimp only [ev, evs, evsG, cons2, lk, lkE, cond, Nat.beq, evG, stO', V.strip, grd, grdO, nthO, gB, gBV, Nat.pred, wnt, List.toList_toArray, List.cons_append, List.nil_append, List.append_nil]) (hy : ev σ.ρ y = some (.v (.int k j)) := by dsimp only [ev, evs, evsG, cons2, lk, lkE, cond, Nat.beq, evG, stO', V.strip, grd, grdO, nthO, gB, gBV, Nat.pred, wnt, List.toList_toArray, List.cons_append, List.nil_append, List.append_nil]) (hd : Nat.blt d σ.n = true := by rfl) (hj : j ≠ 0 := by decide) :
    OpS (cx fn Bz S1 w1 hk1 hs1 hd1) σ all ⟨some d, .binOp .rem t x y t', ty, pos, after, none⟩ (put d (.v (.int k (i.tmod j))) σ) := OpS.rem hx hy hd hj
theorem oi {α : Type} {dα : Dat α} {t e by' r len : Nat} {x y : Operand} {i : Int} {xs : List α} (k : Nat) (hk : k < xs.length) (hx : ev σ.ρ x = some (.sl r len) := by dsimp only [ev, evs, evsG, cons2, lk, lkE, cond, Nat.beq, evG, stO', V.strip, grd, grdO, nthO, gB, gBV, Nat.pred, wnt, List.toList_toArray, List.cons_append, List.nil_append, List.append_nil]) (hy : ev σ.ρ y = some (.v (.int .i64 i)) := by dsimp only [ev, evs, evsG, cons2, lk, lkE, cond, Nat.beq, evG, stO', V.strip, grd, grdO, nthO, gB, gBV, Nat.pred, wnt, List.toList_toArray, List.cons_append, List.nil_append, List.append_nil]) (hp : lkE σ.E r = some (.own α dα xs) := by dsimp only [ev, evs, evsG, cons2, lk, lkE, cond, Nat.beq, evG, stO', V.strip, grd, grdO, nthO, gB, gBV, Nat.pred, wnt, List.toList_toArray, List.cons_append, List.nil_append, List.append_nil]) (hl : len = xs.length := by first | rfl | simp only [List.length_set]) (hi : i = k := by rfl) (ht : ti t = .sl e (Dat.sz α) by' := by rfl) (hd : Nat.blt d σ.n = true := by rfl) :
    OpS (cx fn Bz S1 w1 hk1 hs1 hd1) σ all ⟨some d, .indexAddr t x y, ty, pos, after, none⟩ (put d (.pt r (k * Dat.sz α)) σ) := OpS.oidx k hk hx hy hp hl hi ht hd
theorem se {α : Type} {dα : Dat α} [s : @Str α dα] {t : Nat} {x v : Operand} {r off : Nat} {xs : List α} {vv : V} {cs : List V} (k : Nat) (y : α) (hg : Dat.good y) (hk : k < xs.length) (hx : ev σ.ρ x = some (.pt r off) := by dsimp only [ev, evs, evsG, cons2, lk, lkE, cond, Nat.beq, evG, stO', V.strip, grd, grdO, nthO, gB, gBV, Nat.pred, wnt, List.toList_toArray, List.cons_append, List.nil_append, List.append_nil]) (hr : lkE σ.E r = some (.own α dα xs) := by dsimp only [ev, evs, evsG, cons2, lk, lkE, cond, Nat.beq, evG, stO', V.strip, grd, grdO, nthO, gB, gBV, Nat.pred, wnt, List.toList_toArray, List.cons_append, List.nil_append, List.append_nil]) (hoff : off = k * Dat.sz α := by rfl)
    (hv : ev σ.ρ v = some vv := by dsimp only [ev, evs, evsG, cons2, lk, lkE, cond, Nat.beq, evG, stO', V.strip, grd, grdO, nthO, gB, gBV, Nat.pred, wnt, List.toList_toArray, List.cons_append, List.nil_append, List.append_nil]) (hvc : vv.cells = some cs := by rfl) (ht : (ti t).cells = some (Dat.sz α) := by rfl) (hf : FkO σ.E y s.fk cs := by dsimp only [SlOwn, payOE, En.payO, lkE, cond, Nat.beq, FkO, Str.fk, id]; repeat' (first | assumption | rfl | exact trivial | apply And.intro | omega)) (h1 : oneL cs = true := by rfl) (hn : (r :: V.names.namesL cs).Nodup := by dsimp only [V.names.namesL, V.names, List.append_nil, List.nil_append, List.cons_append]; decide) :
    OpS (cx fn Bz S1 w1 hk1 hs1 hd1) σ all ⟨none, .store t x v, ty, pos, after, none⟩ (afterStE σ r dα (xs.set k y) (V.names.namesL cs)) := OpS.stE k y hx hoff hr hk hv hvc ht hg hf h1 hn
end
section
variable {fn : Func} {Bz : Bs} {S1 : Nat → Prop} {w1 : World} {hk1 : Keep Bz.S0 Bz.w w1} {hs1 : ∀ b, Bz.S0 b → S1 b} {hd1 : ∀ b, S1 b → b < w1.heap.size} {res : List Re} {σ : St} {k : List It}
theorem rz {w : World} {hG : Gw w} {hk1 : Keep (Old w) w w1} {hs1 : ∀ b, Old w b → S1 b} {rs : List ResultVar} {vs : List V} {res' : List Re} (hq : res = res') (hr : (cx fn (Bs.old w hG) S1 w1 hk1 hs1 hd1).fn.results.toList = rs := by rfl) (hl : Nat.ble rs.length 4 = true := by rfl) (hv : rvsV ti σ.ρ σ.E rs = some vs := by dsimp only [ti_1, ti_2, ti_3, ti_4, ti_5, ti_6, ti_7, ti_8, ti_9, ti_10, ti_11, ti_12, ti_13, ti_14, ti_15, ti_16, ti_17, ti_18, ti_19, ti_21, ti_22, ti_23, ti_24, ti_25, ti_26, ti_27, ti_28, ti_29, ti_30, ti_31, ti_32, ti_33, ti_34, ti_35, ti_36, ti_37, ti_38, ti_39, ti_40, ti_41, ti_42, ti_43, ti_44, ti_45, ti_46, ti_47, ti_48, ti_49, ti_50, ti_51, ti_52, ti_53, ti_54, ti_56, ti_58, ti_59, ti_60, ti_61, ti_63, ti_64, ti_65, ti_66, ti_67, ti_68, ti_69, ti_71, ti_73, ti_74, ti_75, ti_76, ti_77, ti_78, ti_79, ti_80, ti_81, ti_82, ti_83, ti_84, ti_85, ti_86, ti_87, ti_88, ti_89, ti_90, ti_91, ti_92, ti_93, ti_94, ti_95, ti_96, ti_97, ti_99, ti_100, ti_102, ti_103, ti_104, ti_105, ti_106, ti_107, ti_108, ti_109, ti_110, ti_111, ti_112, ti_113, ti_114, ti_116, ti_117, ti_118, ti_119, ti_120, ti_121, ti_122, ti_124, ti_125, ti_126, ti_127, ti_131, ti_132, ti_133, ti_134, ti_135, ti_136, ti_137, ti_138, ti_139, ti_140, ti_141, ti_142, ti_143, ti_144, ti_145, ti_146, ti_147, ti_149, ti_150, ti_151, ti_152, ti_153, ti_154, ti_155, ti_156, ti_157, ti_159, ti_160, ti_161, ti_162, ti_163, ti_164, ti_165, ti_166, ti_167, ti_168, ti_170, ti_171, ti_175, ti_183, ti_184, ti_185, ti_189, ti_196, ti_198, rvsV, rvV, ldV, ldE, ldC, tuAt, lkE, cons2, lk, cond, Nat.beq, Nat.pred, Nat.ble, List.length, List.length_cons, List.length_nil, List.take, List.drop, List.take_succ_cons, List.drop_zero, List.take_zero, Nat.reduceAdd]) (hn : (namesR vs res').Nodup := by dsimp only [namesR, agC, V.names.namesL, List.append_nil, List.nil_append, List.cons_append, List.map]; decide) (ho : ResOk σ.E vs res' := by dsimp only [ResOk, Re.ok, SlOwn, payOE, En.payO, lkE, cond, Nat.beq, FkO, agC, List.map, Str.fk, id]; repeat' (first | assumption | rfl | exact trivial | apply And.intro | omega)) : Run (cx fn (Bs.old w hG) S1 w1 hk1 hs1 hd1) res σ (.code .ret :: k) := Run.ret hr hl hv (by rw [hq]; exact ho) (by rw [hq]; exact hn) (fun _ _ h => h)
end
theorem bt {α : Type} {b : Bool} {x y : α} (h : b = true) : (bif b then x else y) = x := by rw [h]; rfl
theorem bf {α : Type} {b : Bool} {x y : α} (h : b = false) : (bif b then x else y) = y := by rw [h]; rfl
theorem su {f is : List Nat} {σ σ2 : St} (h : Sub f is σ σ2 := by dsimp only [Sub, SubR, SubE, V.ren, renL, En.ren, nthE, nthF, lk, cond, Nat.beq, Nat.pred, List.length, List.length_nil, Nat.reduceAdd, List.getElem?_cons_zero, List.getElem?_cons_succ]; (repeat' apply And.intro) <;> first | rfl | exact trivial | (rw [List.length_set])) : Sub f is σ σ2 := h
theorem gdt {p : Prop} (h : p := by dsimp only [ElOk, SlOwn, payOE, En.payO, lkE, cond, Nat.beq, FkO, agC, List.map, Str.fk, id, List.take, List.drop, List.take_succ_cons, List.drop_succ_cons, List.take_zero, List.drop_zero]; repeat' (first | assumption | rfl | exact trivial | apply And.intro | omega)) : p := h
theorem bifI {b : Bool} {x y : Int} (hx : I64 x) (hy : I64 y) : I64 (bif b then x else y) := by cases b <;> assumption
theorem bifS {b : Bool} {x y : ByteArray} (hx : x.size ≤ maxLen) (hy : y.size ≤ maxLen) : (bif b then x else y).size ≤ maxLen := by cases b <;> assumption
theorem bifD {α : Type} [Dat α] {b : Bool} {x y : α} (hx : Dat.good x) (hy : Dat.good y) : Dat.good (bif b then x else y) := by cases b <;> assumption
theorem bts (a : Array UInt8) : (⟨a⟩ : ByteArray).size = a.size := rfl
theorem szt {p : Prop} (h : p := by first | assumption | omega | (simp only [ByteArray.size_append, bts, List.size_toArray, List.length_cons, List.length_nil]; omega)) : p := h
theorem en {f : FuncId} {fn : Func} {code : Code} {n : Nat} {args : List Arg} {res : List Re} {σ : St} {H : Prop} (hf : Tryd.prog.funcs[f]? = some fn) (hn : fn.ntmps = n) (h : ∀ w (hG : Gw w), H → Run (cx fn (Bs.old w hG) (Old w) w (Keep.refl _ _) (fun _ h => h) (fun _ h => h)) res σ [.code code]) (hb : fn.body = some code := by rfl) (hl : Nat.ble args.length n = true := by rfl) (hi : ini n args = σ := by dsimp only [ncV, szA, cvV, rnR, rnE, V.rn, rnL, En.rn, dropE, memN, afterStE, an, stK, cdK, opK, gdK, nvK, cellsO, zcells, blK, bsK, stW, stV, ptK, litD, litC, pkV, wrV, binV, unV, ldV, faW, faV, agO, blV, exV, mfV, lenV, caV, fillT, fillS, stO', sdV, cons2, grdO, gBV, gPw, gPk, gGo, gK, gK1, gK2, tkK, tk1, rvsV, rvV, Nat.reduceAdd, Nat.reduceSub, Nat.reduceMul, advN, adv1, stO, litV, fillV, splice, pv, ev, evs, lk, lkE, setE, putE, put, cond, ldC, ldE, nthN, tuAt, bin, bi, bs, bb, ikq, TI.cells, V.cells, V.one, oneL, toBlk, grd, nthO, beqB, gB, wnt, gOp, adG, adG1, pickV, sideP, evG, V.side, V.strip, afterCall, afterIdx, afterApp, afterApp0, packV, bindRs, bindR, bindGs, bindG, bindAs, bindA, ini, slotsV, opn, nsl, adD, setAll, Str.fk, ti_1, ti_2, ti_3, ti_4, ti_5, ti_6, ti_7, ti_8, ti_9, ti_10, ti_11, ti_12, ti_13, ti_14, ti_15, ti_16, ti_17, ti_18, ti_19, ti_21, ti_22, ti_23, ti_24, ti_25, ti_26, ti_27, ti_28, ti_29, ti_30, ti_31, ti_32, ti_33, ti_34, ti_35, ti_36, ti_37, ti_38, ti_39, ti_40, ti_41, ti_42, ti_43, ti_44, ti_45, ti_46, ti_47, ti_48, ti_49, ti_50, ti_51, ti_52, ti_53, ti_54, ti_56, ti_58, ti_59, ti_60, ti_61, ti_63, ti_64, ti_65, ti_66, ti_67, ti_68, ti_69, ti_71, ti_73, ti_74, ti_75, ti_76, ti_77, ti_78, ti_79, ti_80, ti_81, ti_82, ti_83, ti_84, ti_85, ti_86, ti_87, ti_88, ti_89, ti_90, ti_91, ti_92, ti_93, ti_94, ti_95, ti_96, ti_97, ti_99, ti_100, ti_102, ti_103, ti_104, ti_105, ti_106, ti_107, ti_108, ti_109, ti_110, ti_111, ti_112, ti_113, ti_114, ti_116, ti_117, ti_118, ti_119, ti_120, ti_121, ti_122, ti_124, ti_125, ti_126, ti_127, ti_131, ti_132, ti_133, ti_134, ti_135, ti_136, ti_137, ti_138, ti_139, ti_140, ti_141, ti_142, ti_143, ti_144, ti_145, ti_146, ti_147, ti_149, ti_150, ti_151, ti_152, ti_153, ti_154, ti_155, ti_156, ti_157, ti_159, ti_160, ti_161, ti_162, ti_163, ti_164, ti_165, ti_166, ti_167, ti_168, ti_170, ti_171, ti_175, ti_183, ti_184, ti_185, ti_189, ti_196, ti_198, zr_1, zr_2, zr_3, zr_4, zr_5, zr_6, zr_7, zr_8, zr_9, zr_10, zr_11, zr_12, zr_13, zr_14, zr_15, zr_16, zr_17, zr_18, zr_19, zr_21, zr_22, zr_23, zr_24, zr_25, zr_26, zr_27, zr_28, zr_29, zr_30, zr_31, zr_32, zr_33, zr_34, zr_35, zr_36, zr_37, zr_38, zr_39, zr_40, zr_41, zr_42, zr_43, zr_44, zr_45, zr_46, zr_47, zr_48, zr_49, zr_50, zr_51, zr_52, zr_53, zr_54, zr_56, zr_58, zr_59, zr_60, zr_61, zr_63, zr_64, zr_65, zr_66, zr_67, zr_68, zr_69, zr_71, zr_73, zr_74, zr_75, zr_76, zr_77, zr_78, zr_79, zr_80, zr_81, zr_82, zr_83, zr_84, zr_85, zr_86, zr_87, zr_88, zr_89, zr_90, zr_91, zr_92, zr_93, zr_94, zr_95, zr_96, zr_97, zr_99, zr_100, zr_102, zr_103, zr_104, zr_105, zr_106, zr_107, zr_108, zr_109, zr_110, zr_111, zr_112, zr_113, zr_114, zr_116, zr_117, zr_118, zr_119, zr_120, zr_121, zr_122, zr_124, zr_125, zr_126, zr_127, zr_131, zr_132, zr_133, zr_134, zr_135, zr_136, zr_137, zr_138, zr_139, zr_140, zr_141, zr_142, zr_143, zr_144, zr_145, zr_146, zr_147, zr_149, zr_150, zr_151, zr_152, zr_153, zr_154, zr_155, zr_156, zr_157, zr_159, zr_160, zr_161, zr_162, zr_163, zr_164, zr_165, zr_166, zr_167, zr_168, zr_170, zr_171, zr_175, zr_183, zr_184, zr_185, zr_196, zr_198, Nat.blt, Nat.succ_eq_add_one, Nat.ble, Nat.beq, Nat.pred, Nat.add_zero, Nat.zero_add, Nat.add_eq, List.toList_toArray, List.length, List.length_cons, List.length_nil, List.take, List.drop, List.append_nil, List.nil_append, List.cons_append, List.map, List.take_succ_cons, List.take_zero, List.take_nil, List.drop_succ_cons, List.drop_zero, List.drop_nil, List.size_toArray, List.getD, id, Op.operands, Call.operands, Value.cells, Array.size_empty]) (hgd : ArgsGd args = H := by dsimp only [ArgsGd]) : CTs f args res :=
  CT.of sysok hf hb hn hl (by rw [hi, hgd]; exact h)
theorem enM {G0 : Prop} {f : FuncId} {fn : Func} {code : Code} {n mk m0 nn : Nat} {E0 F0 E1 : List (Nat × En)} {args r : List V} (hf : Tryd.prog.funcs[f]? = some fn) (hn : fn.ntmps = n) (h : ∀ S w p hG hb hg, Run (cx fn (Bs.mut S w hG hb hg p mk E1 nn r G0) S w (Keep.refl _ _) (fun _ h => h) hb) [] ⟨n, m0, slotsV 0 args, E0 ++ F0 ++ pinsF p 0 mk⟩ [.code code]) (hb : fn.body = some code := by rfl) (hl : Nat.ble args.length n = true := by rfl) (hmk : Nat.ble mk m0 = true := by rfl) (hE : isCks E0 = true := by rfl) : CTMs f mk m0 E0 F0 args E1 nn r G0 :=
  CTM.of sysok hf hb hn hl hmk hE fun S w p hG hb hg => h S w p hG hb hg
theorem rzM {G0 G1 : Prop} {fn : Func} {S : Nat → Prop} {w : World} {hG : ∀ w', Keep S w w' → Gw w'} {hb : ∀ b, S b → b < w.heap.size} {hg : ∀ g ∈ gls, S g} {p : Nat → Loc} {mk nn : Nat} {E1 E1' : List (Nat × En)} {r r' : List V} {S1 : Nat → Prop} {w1 : World} {hk1 : Keep S w w1} {hs1 : ∀ b, S b → S1 b} {hd1 : ∀ b, S1 b → b < w1.heap.size} {res : List Re} {σ : St} {k : List It} {rs : List ResultVar} {vs : List V} (f is : List Nat) (hg1 : G1) (hG1 : G0 = G1) (hE : E1 = E1') (hr' : r = r') (hr : fn.results.toList = rs := by rfl) (hl : Nat.ble rs.length 4 = true := by rfl) (hv : rvsV ti σ.ρ σ.E rs = some vs := by dsimp only [ti_1, ti_2, ti_3, ti_4, ti_5, ti_6, ti_7, ti_8, ti_9, ti_10, ti_11, ti_12, ti_13, ti_14, ti_15, ti_16, ti_17, ti_18, ti_19, ti_21, ti_22, ti_23, ti_24, ti_25, ti_26, ti_27, ti_28, ti_29, ti_30, ti_31, ti_32, ti_33, ti_34, ti_35, ti_36, ti_37, ti_38, ti_39, ti_40, ti_41, ti_42, ti_43, ti_44, ti_45, ti_46, ti_47, ti_48, ti_49, ti_50, ti_51, ti_52, ti_53, ti_54, ti_56, ti_58, ti_59, ti_60, ti_61, ti_63, ti_64, ti_65, ti_66, ti_67, ti_68, ti_69, ti_71, ti_73, ti_74, ti_75, ti_76, ti_77, ti_78, ti_79, ti_80, ti_81, ti_82, ti_83, ti_84, ti_85, ti_86, ti_87, ti_88, ti_89, ti_90, ti_91, ti_92, ti_93, ti_94, ti_95, ti_96, ti_97, ti_99, ti_100, ti_102, ti_103, ti_104, ti_105, ti_106, ti_107, ti_108, ti_109, ti_110, ti_111, ti_112, ti_113, ti_114, ti_116, ti_117, ti_118, ti_119, ti_120, ti_121, ti_122, ti_124, ti_125, ti_126, ti_127, ti_131, ti_132, ti_133, ti_134, ti_135, ti_136, ti_137, ti_138, ti_139, ti_140, ti_141, ti_142, ti_143, ti_144, ti_145, ti_146, ti_147, ti_149, ti_150, ti_151, ti_152, ti_153, ti_154, ti_155, ti_156, ti_157, ti_159, ti_160, ti_161, ti_162, ti_163, ti_164, ti_165, ti_166, ti_167, ti_168, ti_170, ti_171, ti_175, ti_183, ti_184, ti_185, ti_189, ti_196, ti_198, rvsV, rvV, ldV, ldE, ldC, tuAt, lkE, cons2, lk, cond, Nat.beq, Nat.pred, Nat.ble, List.length, List.length_cons, List.length_nil, List.take, List.drop, List.take_succ_cons, List.drop_zero, List.take_zero, Nat.reduceAdd])
    (hs : SubE f σ.E is (E1' ++ pinsF p 0 mk) := by first | exact trivial | (dsimp only [SubE, V.ren, renL, En.ren, nthE, nthF, lk, cond, Nat.beq, Nat.pred, List.length, List.length_nil, Nat.reduceAdd, List.getElem?_cons_zero, List.getElem?_cons_succ, pinsF, borL, borN, List.cons_append, List.nil_append, List.append_nil]; (repeat' apply And.intro) <;> first | rfl | exact trivial)) (hlen : Nat.beq f.length (mk + nn) = true := by rfl) (hn : is.Nodup := by decide) (hres : renL f r' = some vs := by rfl) : Run (cx fn (Bs.mut S w hG hb hg p mk E1 nn r G0) S1 w1 hk1 hs1 hd1) res σ (.code .ret :: k) := by
  subst hE
  subst hr'
  exact Run.retM hr hl hv (hG1 ▸ hg1) (fun _ _ _ h => h) hs1 hk1 hb f is hlen hs hn hres
theorem rzE {G0 G1 : Prop} {fn : Func} {S : Nat → Prop} {w : World} {hG : ∀ w', Keep S w w' → Gw w'} {hb : ∀ b, S b → b < w.heap.size} {hg : ∀ g ∈ gls, S g} {p : Nat → Loc} {mk nn : Nat} {E1 E1' : List (Nat × En)} {r r' : List V} {S1 : Nat → Prop} {w1 : World} {hk1 : Keep S w w1} {hs1 : ∀ b, S b → S1 b} {hd1 : ∀ b, S1 b → b < w1.heap.size} {res : List Re} {σ : St} {rs : List ResultVar} {vs : List V} (f is : List Nat) (hg1 : G1) (hG1 : G0 = G1) (hE : E1 = E1') (hr' : r = r') (hr : fn.results.toList = rs := by rfl) (hl : Nat.ble rs.length 4 = true := by rfl) (hv : rvsV ti σ.ρ σ.E rs = some vs := by dsimp only [ti_1, ti_2, ti_3, ti_4, ti_5, ti_6, ti_7, ti_8, ti_9, ti_10, ti_11, ti_12, ti_13, ti_14, ti_15, ti_16, ti_17, ti_18, ti_19, ti_21, ti_22, ti_23, ti_24, ti_25, ti_26, ti_27, ti_28, ti_29, ti_30, ti_31, ti_32, ti_33, ti_34, ti_35, ti_36, ti_37, ti_38, ti_39, ti_40, ti_41, ti_42, ti_43, ti_44, ti_45, ti_46, ti_47, ti_48, ti_49, ti_50, ti_51, ti_52, ti_53, ti_54, ti_56, ti_58, ti_59, ti_60, ti_61, ti_63, ti_64, ti_65, ti_66, ti_67, ti_68, ti_69, ti_71, ti_73, ti_74, ti_75, ti_76, ti_77, ti_78, ti_79, ti_80, ti_81, ti_82, ti_83, ti_84, ti_85, ti_86, ti_87, ti_88, ti_89, ti_90, ti_91, ti_92, ti_93, ti_94, ti_95, ti_96, ti_97, ti_99, ti_100, ti_102, ti_103, ti_104, ti_105, ti_106, ti_107, ti_108, ti_109, ti_110, ti_111, ti_112, ti_113, ti_114, ti_116, ti_117, ti_118, ti_119, ti_120, ti_121, ti_122, ti_124, ti_125, ti_126, ti_127, ti_131, ti_132, ti_133, ti_134, ti_135, ti_136, ti_137, ti_138, ti_139, ti_140, ti_141, ti_142, ti_143, ti_144, ti_145, ti_146, ti_147, ti_149, ti_150, ti_151, ti_152, ti_153, ti_154, ti_155, ti_156, ti_157, ti_159, ti_160, ti_161, ti_162, ti_163, ti_164, ti_165, ti_166, ti_167, ti_168, ti_170, ti_171, ti_175, ti_183, ti_184, ti_185, ti_189, ti_196, ti_198, rvsV, rvV, ldV, ldE, ldC, tuAt, lkE, cons2, lk, cond, Nat.beq, Nat.pred, Nat.ble, List.length, List.length_cons, List.length_nil, List.take, List.drop, List.take_succ_cons, List.drop_zero, List.take_zero, Nat.reduceAdd])
    (hs : SubE f σ.E is (E1' ++ pinsF p 0 mk) := by first | exact trivial | (dsimp only [SubE, V.ren, renL, En.ren, nthE, nthF, lk, cond, Nat.beq, Nat.pred, List.length, List.length_nil, Nat.reduceAdd, List.getElem?_cons_zero, List.getElem?_cons_succ, pinsF, borL, borN, List.cons_append, List.nil_append, List.append_nil]; (repeat' apply And.intro) <;> first | rfl | exact trivial)) (hlen : Nat.beq f.length (mk + nn) = true := by rfl) (hn : is.Nodup := by decide) (hres : renL f r' = some vs := by rfl) : Run (cx fn (Bs.mut S w hG hb hg p mk E1 nn r G0) S1 w1 hk1 hs1 hd1) res σ [] := by
  subst hE
  subst hr'
  exact Run.endM hr hl hv (hG1 ▸ hg1) (fun _ _ _ h => h) hs1 hk1 hb f is hlen hs hn hres
theorem wrapN2 {i : Nat} (h : i + 2 ≤ 9223372036854775807) : IntKind.i64.wrap ((i : Int) + 2) = ((i + 2 : Nat) : Int) := by
  rw [IntWalk.i64_in _ (by omega)]; omega
theorem wrapN {i : Nat} (h : i + 1 ≤ 9223372036854775807) : IntKind.i64.wrap ((i : Int) + 1) = ((i + 1 : Nat) : Int) := by
  rw [IntWalk.i64_in _ (by omega)]; omega

end Go.Proofs.YtmjjcihoobnbgaaDoor.Fw