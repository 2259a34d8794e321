/-
  The texts Sy, Shelf, I, C1, C3, PD, B, B2, K1 of this proof, one behind the other: what each proves stands at its head. No condition.
-/
import Derived.Test.YtnjidaonbcbphaaGreatDoorProg
import Derived.KernelRfl
import Derived.Shelf.Strings.OnBuilder
import Derived.Shelf.LaysM
import Derived.Shelf.Strconv.Itoa3
import Derived.Shelf.LaysC
import Derived.Shelf.Strconv.AtoiAll
import Derived.Shelf.Strings.Fields
import Derived.Ground.PaProg
import Derived.Shelf.Hex.DecodeOwns
import Derived.Shelf.Hex.More
import Derived.Test.YtnjidaonbcbphaaGreatDoorScA
import Derived.Test.YtnjidaonbcbphaaGreatDoorScB
/-
  What all walks of this program share: its types, its zero values, and the steps. No condition. By program (wip/am/sy.py).
-/
namespace Go.Proofs.YtnjidaonbcbphaaGreatDoor.Fw
open Go.RowKit
set_option linter.unusedVariables false
set_option maxRecDepth 100000

def lkT : List (Nat × TI) → Nat → TI
  | [], _ => .no
  | (k, i) :: r, t => bif Nat.beq k t then i else lkT r t
theorem lkT_ok {P : Program} : ∀ {l : List (Nat × TI)}, (l.all fun p => p.2.chk P p.1) = true → ∀ t, (lkT l t).chk P t = true
  | [], _, _ => rfl
  | (k, i) :: r, h, t => by
    simp only [List.all_cons, Bool.and_eq_true] at h
    simp only [lkT]
    cases e : Nat.beq k t with
    | true => obtain rfl := Nat.eq_of_beq_eq_true e; exact h.1
    | false => exact lkT_ok h.2 t
def lkZ : List (Nat × Value) → Nat → Option Value
  | [], _ => none
  | (k, i) :: r, t => bif Nat.beq k t then some i else lkZ r t
def ZOk (P : Program) : List (Nat × Value) → Prop
  | [] => True
  | p :: r => (∀ w, (zeroValue p.1).run P w = .ok p.2 w) ∧ ZOk P r
theorem lkZ_ok {P : Program} : ∀ {l : List (Nat × Value)}, ZOk P l → ∀ t z, lkZ l t = some z → ∀ w, (zeroValue t).run P w = .ok z w
  | [], _, _, _, h => by cases h
  | (k, i) :: r, h, t, z, hz => by
    simp only [lkZ] at hz
    cases e : Nat.beq k t with
    | true => obtain rfl := Nat.eq_of_beq_eq_true e; rw [e] at hz; cases hz; exact h.1
    | false => rw [e] at hz; exact lkZ_ok h.2 t z hz
def tiL : List (Nat × TI) := [(1, .one),
  (2, .int .i64),
  (3, .int .i64),
  (4, .bool),
  (5, .int .u8),
  (6, .int .u8),
  (7, .st 4 [(0, 1), (1, 1), (2, 1), (3, 1)]),
  (8, .st 4 [(0, 1), (1, 1), (2, 1), (3, 1)]),
  (9, .str),
  (10, .str),
  (11, .str),
  (12, .int .u64),
  (13, .st 2 [(0, 1), (1, 1)]),
  (14, .st 2 [(0, 1), (1, 1)]),
  (15, .one),
  (16, .one),
  (17, .one),
  (18, .st 1 [(0, 1)]),
  (19, .st 1 [(0, 1)]),
  (21, .int .i32),
  (22, .sl 128 2 32),
  (23, .sl 136 10 160),
  (24, .sl 204 3 40),
  (25, .st 2 [(0, 1), (1, 1)]),
  (26, .st 2 [(0, 1), (1, 1)]),
  (27, .st 3 [(0, 1), (1, 2)]),
  (28, .st 3 [(0, 1), (1, 2)]),
  (29, .sl 142 8 96),
  (30, .sl 9 1 16),
  (31, .st 11 [(0, 1), (1, 1), (2, 3), (5, 1), (6, 1), (7, 1), (8, 1), (9, 1), (10, 1)]),
  (32, .st 11 [(0, 1), (1, 1), (2, 3), (5, 1), (6, 1), (7, 1), (8, 1), (9, 1), (10, 1)]),
  (33, .one),
  (34, .one),
  (35, .sl 154 2 32),
  (36, .sl 149 10 160),
  (37, .sl 211 3 40),
  (38, .st 2 [(0, 1), (1, 1)]),
  (39, .st 3 [(0, 1), (1, 2)]),
  (40, .st 3 [(0, 1), (1, 2)]),
  (41, .sl 153 8 96),
  (42, .st 11 [(0, 1), (1, 1), (2, 3), (5, 1), (6, 1), (7, 1), (8, 1), (9, 1), (10, 1)]),
  (43, .st 11 [(0, 1), (1, 1), (2, 3), (5, 1), (6, 1), (7, 1), (8, 1), (9, 1), (10, 1)]),
  (44, .one),
  (45, .one),
  (46, .one),
  (47, .one),
  (48, .one),
  (49, .one),
  (50, .one),
  (51, .sl 5 1 1),
  (52, .one),
  (53, .st 6 [(0, 1), (1, 1), (2, 1), (3, 1), (4, 1), (5, 1)]),
  (54, .st 6 [(0, 1), (1, 1), (2, 1), (3, 1), (4, 1), (5, 1)]),
  (55, .st 9 [(0, 1), (1, 1), (2, 1), (3, 6)]),
  (56, .st 9 [(0, 1), (1, 1), (2, 1), (3, 6)]),
  (57, .one),
  (58, .one),
  (60, .one),
  (61, .one),
  (62, .one),
  (63, .one),
  (65, .one),
  (66, .one),
  (67, .one),
  (69, .one),
  (70, .one),
  (71, .sl 56 9 96),
  (73, .one),
  (74, .one),
  (75, .one),
  (76, .one),
  (77, .one),
  (78, .one),
  (79, .one),
  (80, .one),
  (81, .one),
  (82, .one),
  (84, .one),
  (85, .one),
  (86, .one),
  (87, .one),
  (88, .one),
  (89, .one),
  (90, .one),
  (91, .one),
  (92, .one),
  (93, .one),
  (94, .one),
  (95, .one),
  (96, .one),
  (97, .one),
  (98, .one),
  (99, .one),
  (100, .one),
  (101, .one),
  (102, .one),
  (103, .one),
  (104, .one),
  (105, .one),
  (108, .one),
  (109, .one),
  (110, .one),
  (111, .one),
  (112, .one),
  (113, .one),
  (114, .one),
  (116, .one),
  (117, .one),
  (118, .one),
  (119, .one),
  (120, .one),
  (121, .one),
  (122, .one),
  (123, .one),
  (124, .one),
  (125, .one),
  (126, .one),
  (127, .st 2 [(0, 1), (1, 1)]),
  (128, .st 2 [(0, 1), (1, 1)]),
  (129, .one),
  (130, .sl 240 6 72),
  (131, .sl 242 3 32),
  (132, .st 2 [(0, 1), (1, 1)]),
  (133, .st 2 [(0, 1), (1, 1)]),
  (134, .sl 3 1 8),
  (135, .st 10 [(0, 1), (1, 1), (2, 1), (3, 1), (4, 1), (5, 1), (6, 2), (8, 1), (9, 1)]),
  (136, .st 10 [(0, 1), (1, 1), (2, 1), (3, 1), (4, 1), (5, 1), (6, 2), (8, 1), (9, 1)]),
  (137, .one),
  (138, .one),
  (139, .one),
  (140, .sl 245 7 80),
  (141, .st 8 [(0, 1), (1, 1), (2, 1), (3, 1), (4, 1), (5, 1), (6, 1), (7, 1)]),
  (142, .st 8 [(0, 1), (1, 1), (2, 1), (3, 1), (4, 1), (5, 1), (6, 1), (7, 1)]),
  (143, .one),
  (144, .one),
  (145, .sl 54 6 72),
  (146, .sl 181 3 32),
  (147, .st 2 [(0, 1), (1, 1)]),
  (148, .st 10 [(0, 1), (1, 1), (2, 1), (3, 1), (4, 1), (5, 1), (6, 2), (8, 1), (9, 1)]),
  (149, .st 10 [(0, 1), (1, 1), (2, 1), (3, 1), (4, 1), (5, 1), (6, 2), (8, 1), (9, 1)]),
  (150, .one),
  (151, .sl 179 7 80),
  (152, .st 8 [(0, 1), (1, 1), (2, 1), (3, 1), (4, 1), (5, 1), (6, 1), (7, 1)]),
  (153, .st 8 [(0, 1), (1, 1), (2, 1), (3, 1), (4, 1), (5, 1), (6, 1), (7, 1)]),
  (154, .st 2 [(0, 1), (1, 1)]),
  (155, .one),
  (156, .one),
  (157, .one),
  (158, .one),
  (159, .one),
  (160, .sl 30 1 24),
  (161, .one),
  (162, .one),
  (163, .one),
  (164, .one),
  (165, .one),
  (166, .one),
  (167, .one),
  (168, .one),
  (169, .one),
  (170, .one),
  (171, .one),
  (172, .one),
  (173, .one),
  (174, .one),
  (175, .one),
  (176, .one),
  (177, .one),
  (178, .st 7 [(0, 1), (1, 6)]),
  (179, .st 7 [(0, 1), (1, 6)]),
  (180, .st 3 [(0, 1), (1, 1), (2, 1)]),
  (181, .st 3 [(0, 1), (1, 1), (2, 1)]),
  (182, .st 3 [(0, 1), (1, 1), (2, 1)]),
  (183, .st 3 [(0, 1), (1, 1), (2, 1)]),
  (187, .one),
  (188, .one),
  (189, .one),
  (190, .one),
  (191, .one),
  (192, .one),
  (193, .one),
  (195, .one),
  (196, .one),
  (197, .one),
  (198, .one),
  (199, .one),
  (200, .one),
  (201, .one),
  (202, .one),
  (203, .st 3 [(0, 1), (1, 1), (2, 1)]),
  (204, .st 3 [(0, 1), (1, 1), (2, 1)]),
  (205, .one),
  (206, .one),
  (207, .one),
  (208, .one),
  (209, .one),
  (210, .st 3 [(0, 1), (1, 1), (2, 1)]),
  (211, .st 3 [(0, 1), (1, 1), (2, 1)]),
  (212, .one),
  (213, .one),
  (215, .one),
  (217, .one),
  (218, .one),
  (219, .one),
  (220, .one),
  (221, .one),
  (222, .one),
  (223, .one),
  (224, .one),
  (225, .one),
  (226, .one),
  (227, .one),
  (229, .one),
  (230, .int .u64),
  (231, .sl 233 2 16),
  (232, .st 2 [(0, 1), (1, 1)]),
  (233, .st 2 [(0, 1), (1, 1)]),
  (234, .int .u32),
  (235, .one),
  (236, .one),
  (237, .one),
  (238, .one),
  (239, .one),
  (240, .st 6 [(0, 1), (1, 1), (2, 1), (3, 1), (4, 1), (5, 1)]),
  (241, .one),
  (242, .st 3 [(0, 1), (1, 1), (2, 1)]),
  (243, .one),
  (244, .st 7 [(0, 1), (1, 6)]),
  (245, .st 7 [(0, 1), (1, 6)]),
  (246, .one),
  (247, .one),
  (248, .one),
  (249, .one),
  (250, .one),
  (251, .st 2 [(0, 1), (1, 1)]),
  (252, .st 2 [(0, 1), (1, 1)]),
  (253, .one),
  (254, .one),
  (255, .one),
  (256, .one),
  (258, .one),
  (259, .int .i64),
  (262, .one),
  (266, .sl 272 3 6),
  (267, .sl 275 3 12),
  (269, .st 3 [(0, 1), (1, 1), (2, 1)]),
  (272, .st 3 [(0, 1), (1, 1), (2, 1)]),
  (275, .st 3 [(0, 1), (1, 1), (2, 1)]),
  (281, .int .u64),
  (286, .one),
  (290, .st 3 [(0, 1), (1, 1), (2, 1)]),
  (292, .int .u8),
  (293, .one),
  (294, .one),
  (303, .one),
  (305, .st 1 [(0, 1)]),
  (307, .st 2 [(0, 1), (1, 1)])]
def ti (t : Nat) : TI := lkT tiL t
theorem tiok : ∀ t, (ti t).chk Tryz.prog t = true := lkT_ok (by kernel_rfl)
def zrL : List (Nat × Value) := [(1, Value.nilFunc),
  (2, Value.int IntKind.i64 0),
  (3, Value.int IntKind.i64 0),
  (4, Value.bool false),
  (5, Value.int IntKind.u8 0),
  (6, Value.int IntKind.u8 0),
  (7, Value.agg #[Value.int IntKind.i64 0, Value.int IntKind.i64 0, Value.bool false, Value.int IntKind.u8 0]),
  (8, Value.agg #[Value.int IntKind.i64 0, Value.int IntKind.i64 0, Value.bool false, Value.int IntKind.u8 0]),
  (9, Value.string { data := #[] }),
  (10, Value.string { data := #[] }),
  (11, Value.string { data := #[] }),
  (12, Value.int IntKind.u64 0),
  (13, Value.agg #[Value.string { data := #[] }, Value.int IntKind.u64 0]),
  (14, Value.agg #[Value.string { data := #[] }, Value.int IntKind.u64 0]),
  (15, Value.pointer none),
  (16, Value.pointer none),
  (17, Value.pointer none),
  (18, Value.agg #[Value.pointer none]),
  (19, Value.agg #[Value.pointer none]),
  (21, Value.int IntKind.i32 0),
  (22, Value.slice none 0 0),
  (23, Value.slice none 0 0),
  (24, Value.slice none 0 0),
  (25, Value.agg #[Value.string { data := #[] }, Value.int IntKind.i64 0]),
  (26, Value.agg #[Value.string { data := #[] }, Value.int IntKind.i64 0]),
  (27, Value.agg #[Value.slice none 0 0, Value.string { data := #[] }, Value.int IntKind.i64 0]),
  (28, Value.agg #[Value.slice none 0 0, Value.string { data := #[] }, Value.int IntKind.i64 0]),
  (29, Value.slice none 0 0),
  (30, Value.slice none 0 0),
  (31, Value.agg #[Value.slice none 0 0, Value.slice none 0 0, Value.slice none 0 0, Value.string { data := #[] }, Value.int IntKind.i64 0, Value.int IntKind.i64 0, Value.int IntKind.i64 0, Value.int IntKind.i64 0, Value.slice none 0 0, Value.slice none 0 0, Value.bool false]),
  (32, Value.agg #[Value.slice none 0 0, Value.slice none 0 0, Value.slice none 0 0, Value.string { data := #[] }, Value.int IntKind.i64 0, Value.int IntKind.i64 0, Value.int IntKind.i64 0, Value.int IntKind.i64 0, Value.slice none 0 0, Value.slice none 0 0, Value.bool false]),
  (33, Value.nilFunc),
  (34, Value.nilFunc),
  (35, Value.slice none 0 0),
  (36, Value.slice none 0 0),
  (37, Value.slice none 0 0),
  (38, Value.agg #[Value.string { data := #[] }, Value.int IntKind.i64 0]),
  (39, Value.agg #[Value.slice none 0 0, Value.string { data := #[] }, Value.int IntKind.i64 0]),
  (40, Value.agg #[Value.slice none 0 0, Value.string { data := #[] }, Value.int IntKind.i64 0]),
  (41, Value.slice none 0 0),
  (42, Value.agg #[Value.slice none 0 0, Value.slice none 0 0, Value.slice none 0 0, Value.string { data := #[] }, Value.int IntKind.i64 0, Value.int IntKind.i64 0, Value.int IntKind.i64 0, Value.int IntKind.i64 0, Value.slice none 0 0, Value.slice none 0 0, Value.bool false]),
  (43, Value.agg #[Value.slice none 0 0, Value.slice none 0 0, Value.slice none 0 0, Value.string { data := #[] }, Value.int IntKind.i64 0, Value.int IntKind.i64 0, Value.int IntKind.i64 0, Value.int IntKind.i64 0, Value.slice none 0 0, Value.slice none 0 0, Value.bool false]),
  (44, Value.nilFunc),
  (45, Value.nilFunc),
  (46, Value.nilFunc),
  (47, Value.nilFunc),
  (48, Value.nilFunc),
  (49, Value.nilFunc),
  (50, Value.nilFunc),
  (51, Value.slice none 0 0),
  (52, Value.nilFunc),
  (53, Value.agg #[Value.int IntKind.i64 0, Value.string { data := #[] }, Value.string { data := #[] }, Value.int IntKind.i64 0, Value.int IntKind.i64 0, Value.string { data := #[] }]),
  (54, Value.agg #[Value.int IntKind.i64 0, Value.string { data := #[] }, Value.string { data := #[] }, Value.int IntKind.i64 0, Value.int IntKind.i64 0, Value.string { data := #[] }]),
  (55, Value.agg #[Value.int IntKind.i64 0, Value.int IntKind.i64 0, Value.int IntKind.i64 0, Value.int IntKind.i64 0, Value.string { data := #[] }, Value.string { data := #[] }, Value.int IntKind.i64 0, Value.int IntKind.i64 0, Value.string { data := #[] }]),
  (56, Value.agg #[Value.int IntKind.i64 0, Value.int IntKind.i64 0, Value.int IntKind.i64 0, Value.int IntKind.i64 0, Value.string { data := #[] }, Value.string { data := #[] }, Value.int IntKind.i64 0, Value.int IntKind.i64 0, Value.string { data := #[] }]),
  (57, Value.nilFunc),
  (58, Value.nilFunc),
  (60, Value.nilFunc),
  (61, Value.nilFunc),
  (62, Value.nilFunc),
  (63, Value.nilFunc),
  (65, Value.nilFunc),
  (66, Value.nilFunc),
  (67, Value.nilFunc),
  (69, Value.nilFunc),
  (70, Value.nilFunc),
  (71, Value.slice none 0 0),
  (73, Value.nilFunc),
  (74, Value.nilFunc),
  (75, Value.nilFunc),
  (76, Value.nilFunc),
  (77, Value.nilFunc),
  (78, Value.nilFunc),
  (79, Value.nilFunc),
  (80, Value.nilFunc),
  (81, Value.nilFunc),
  (82, Value.nilFunc),
  (84, Value.nilFunc),
  (85, Value.nilFunc),
  (86, Value.nilFunc),
  (87, Value.nilFunc),
  (88, Value.nilFunc),
  (89, Value.nilFunc),
  (90, Value.nilFunc),
  (91, Value.nilFunc),
  (92, Value.nilFunc),
  (93, Value.nilFunc),
  (94, Value.nilFunc),
  (95, Value.nilFunc),
  (96, Value.nilFunc),
  (97, Value.nilFunc),
  (98, Value.nilFunc),
  (99, Value.nilFunc),
  (100, Value.nilFunc),
  (101, Value.pointer none),
  (102, Value.nilFunc),
  (103, Value.nilFunc),
  (104, Value.nilFunc),
  (105, Value.nilFunc),
  (108, Value.nilFunc),
  (109, Value.nilFunc),
  (110, Value.nilFunc),
  (111, Value.nilFunc),
  (112, Value.nilFunc),
  (113, Value.nilFunc),
  (114, Value.nilFunc),
  (116, Value.nilFunc),
  (117, Value.nilFunc),
  (118, Value.nilFunc),
  (119, Value.nilFunc),
  (120, Value.nilFunc),
  (121, Value.nilFunc),
  (122, Value.nilFunc),
  (123, Value.nilFunc),
  (124, Value.nilFunc),
  (125, Value.nilFunc),
  (126, Value.nilFunc),
  (127, Value.agg #[Value.string { data := #[] }, Value.string { data := #[] }]),
  (128, Value.agg #[Value.string { data := #[] }, Value.string { data := #[] }]),
  (129, Value.nilFunc),
  (130, Value.slice none 0 0),
  (131, Value.slice none 0 0),
  (132, Value.agg #[Value.slice none 0 0, Value.slice none 0 0]),
  (133, Value.agg #[Value.slice none 0 0, Value.slice none 0 0]),
  (134, Value.slice none 0 0),
  (135, Value.agg #[Value.int IntKind.i64 0, Value.int IntKind.i64 0, Value.int IntKind.i64 0, Value.int IntKind.i64 0, Value.slice none 0 0, Value.slice none 0 0, Value.slice none 0 0, Value.slice none 0 0, Value.slice none 0 0, Value.int IntKind.i64 0]),
  (136, Value.agg #[Value.int IntKind.i64 0, Value.int IntKind.i64 0, Value.int IntKind.i64 0, Value.int IntKind.i64 0, Value.slice none 0 0, Value.slice none 0 0, Value.slice none 0 0, Value.slice none 0 0, Value.slice none 0 0, Value.int IntKind.i64 0]),
  (137, Value.nilFunc),
  (138, Value.nilFunc),
  (139, Value.nilFunc),
  (140, Value.slice none 0 0),
  (141, Value.agg #[Value.int IntKind.i64 0, Value.int IntKind.i64 0, Value.int IntKind.i64 0, Value.slice none 0 0, Value.slice none 0 0, Value.int IntKind.i64 0, Value.int IntKind.i64 0, Value.bool false]),
  (142, Value.agg #[Value.int IntKind.i64 0, Value.int IntKind.i64 0, Value.int IntKind.i64 0, Value.slice none 0 0, Value.slice none 0 0, Value.int IntKind.i64 0, Value.int IntKind.i64 0, Value.bool false]),
  (143, Value.nilFunc),
  (144, Value.nilFunc),
  (145, Value.slice none 0 0),
  (146, Value.slice none 0 0),
  (147, Value.agg #[Value.slice none 0 0, Value.slice none 0 0]),
  (148, Value.agg #[Value.int IntKind.i64 0, Value.int IntKind.i64 0, Value.int IntKind.i64 0, Value.int IntKind.i64 0, Value.slice none 0 0, Value.slice none 0 0, Value.slice none 0 0, Value.slice none 0 0, Value.slice none 0 0, Value.int IntKind.i64 0]),
  (149, Value.agg #[Value.int IntKind.i64 0, Value.int IntKind.i64 0, Value.int IntKind.i64 0, Value.int IntKind.i64 0, Value.slice none 0 0, Value.slice none 0 0, Value.slice none 0 0, Value.slice none 0 0, Value.slice none 0 0, Value.int IntKind.i64 0]),
  (150, Value.nilFunc),
  (151, Value.slice none 0 0),
  (152, Value.agg #[Value.int IntKind.i64 0, Value.int IntKind.i64 0, Value.int IntKind.i64 0, Value.slice none 0 0, Value.slice none 0 0, Value.int IntKind.i64 0, Value.int IntKind.i64 0, Value.bool false]),
  (153, Value.agg #[Value.int IntKind.i64 0, Value.int IntKind.i64 0, Value.int IntKind.i64 0, Value.slice none 0 0, Value.slice none 0 0, Value.int IntKind.i64 0, Value.int IntKind.i64 0, Value.bool false]),
  (154, Value.agg #[Value.string { data := #[] }, Value.string { data := #[] }]),
  (155, Value.nilFunc),
  (156, Value.nilFunc),
  (157, Value.nilFunc),
  (158, Value.nilFunc),
  (159, Value.nilFunc),
  (160, Value.slice none 0 0),
  (161, Value.nilFunc),
  (162, Value.nilFunc),
  (163, Value.nilFunc),
  (164, Value.nilFunc),
  (165, Value.nilFunc),
  (166, Value.nilFunc),
  (167, Value.nilFunc),
  (168, Value.nilFunc),
  (169, Value.nilFunc),
  (170, Value.nilFunc),
  (171, Value.nilFunc),
  (172, Value.nilFunc),
  (173, Value.nilFunc),
  (174, Value.nilFunc),
  (175, Value.nilFunc),
  (176, Value.nilFunc),
  (177, Value.nilFunc),
  (178, Value.agg #[Value.int IntKind.i64 0, Value.int IntKind.i64 0, Value.string { data := #[] }, Value.string { data := #[] }, Value.int IntKind.i64 0, Value.int IntKind.i64 0, Value.string { data := #[] }]),
  (179, Value.agg #[Value.int IntKind.i64 0, Value.int IntKind.i64 0, Value.string { data := #[] }, Value.string { data := #[] }, Value.int IntKind.i64 0, Value.int IntKind.i64 0, Value.string { data := #[] }]),
  (180, Value.agg #[Value.int IntKind.i64 0, Value.int IntKind.i64 0, Value.string { data := #[] }]),
  (181, Value.agg #[Value.int IntKind.i64 0, Value.int IntKind.i64 0, Value.string { data := #[] }]),
  (182, Value.agg #[Value.slice none 0 0, Value.int IntKind.i64 0, Value.int IntKind.i64 0]),
  (183, Value.agg #[Value.slice none 0 0, Value.int IntKind.i64 0, Value.int IntKind.i64 0]),
  (187, Value.nilFunc),
  (188, Value.nilFunc),
  (189, Value.nilFunc),
  (190, Value.nilFunc),
  (191, Value.pointer none),
  (192, Value.nilFunc),
  (193, Value.nilFunc),
  (195, Value.nilFunc),
  (196, Value.nilFunc),
  (197, Value.nilFunc),
  (198, Value.nilFunc),
  (199, Value.nilFunc),
  (200, Value.nilFunc),
  (201, Value.nilFunc),
  (202, Value.nilFunc),
  (203, Value.agg #[Value.int IntKind.i64 0, Value.slice none 0 0, Value.bool false]),
  (204, Value.agg #[Value.int IntKind.i64 0, Value.slice none 0 0, Value.bool false]),
  (205, Value.nilFunc),
  (206, Value.nilFunc),
  (207, Value.nilFunc),
  (208, Value.nilFunc),
  (209, Value.nilFunc),
  (210, Value.agg #[Value.int IntKind.i64 0, Value.slice none 0 0, Value.bool false]),
  (211, Value.agg #[Value.int IntKind.i64 0, Value.slice none 0 0, Value.bool false]),
  (212, Value.nilFunc),
  (213, Value.nilFunc),
  (215, Value.nilFunc),
  (217, Value.nilFunc),
  (218, Value.nilFunc),
  (219, Value.nilFunc),
  (220, Value.nilFunc),
  (221, Value.nilFunc),
  (222, Value.nilFunc),
  (223, Value.nilFunc),
  (224, Value.nilFunc),
  (225, Value.nilFunc),
  (226, Value.nilFunc),
  (227, Value.nilFunc),
  (229, Value.nilFunc),
  (230, Value.int IntKind.u64 0),
  (231, Value.slice none 0 0),
  (232, Value.agg #[Value.int IntKind.i64 0, Value.int IntKind.i64 0]),
  (233, Value.agg #[Value.int IntKind.i64 0, Value.int IntKind.i64 0]),
  (234, Value.int IntKind.u32 0),
  (235, Value.nilFunc),
  (236, Value.pointer none),
  (237, Value.nilFunc),
  (238, Value.nilFunc),
  (239, Value.nilFunc),
  (240, Value.agg #[Value.int IntKind.i64 0, Value.string { data := #[] }, Value.string { data := #[] }, Value.int IntKind.i64 0, Value.int IntKind.i64 0, Value.string { data := #[] }]),
  (241, Value.nilFunc),
  (242, Value.agg #[Value.int IntKind.i64 0, Value.int IntKind.i64 0, Value.string { data := #[] }]),
  (243, Value.nilFunc),
  (244, Value.agg #[Value.int IntKind.i64 0, Value.int IntKind.i64 0, Value.string { data := #[] }, Value.string { data := #[] }, Value.int IntKind.i64 0, Value.int IntKind.i64 0, Value.string { data := #[] }]),
  (245, Value.agg #[Value.int IntKind.i64 0, Value.int IntKind.i64 0, Value.string { data := #[] }, Value.string { data := #[] }, Value.int IntKind.i64 0, Value.int IntKind.i64 0, Value.string { data := #[] }]),
  (246, Value.nilFunc),
  (247, Value.nilFunc),
  (248, Value.nilFunc),
  (249, Value.nilFunc),
  (250, Value.pointer none),
  (251, Value.agg #[Value.pointer none, Value.slice none 0 0]),
  (252, Value.agg #[Value.pointer none, Value.slice none 0 0]),
  (253, Value.nilFunc),
  (254, Value.nilFunc),
  (255, Value.nilFunc),
  (256, Value.nilFunc),
  (258, Value.nilFunc),
  (259, Value.int IntKind.i64 0),
  (262, Value.pointer none),
  (266, Value.slice none 0 0),
  (267, Value.slice none 0 0),
  (269, Value.agg #[Value.slice none 0 0, Value.slice none 0 0, Value.int IntKind.i64 0]),
  (272, Value.agg #[Value.int IntKind.u16 0, Value.int IntKind.u16 0, Value.int IntKind.u16 0]),
  (275, Value.agg #[Value.int IntKind.u32 0, Value.int IntKind.u32 0, Value.int IntKind.u32 0]),
  (281, Value.int IntKind.u64 0),
  (286, Value.pointer none),
  (292, Value.int IntKind.u8 0),
  (293, Value.pointer none),
  (294, Value.pointer none),
  (303, Value.pointer none),
  (305, Value.agg #[Value.string { data := #[] }]),
  (307, Value.agg #[Value.int IntKind.u8 0, Value.int IntKind.u8 0])]
def zr (t : Nat) : Option Value := lkZ zrL t
theorem zok : ∀ t z, zr t = some z → ∀ w, (zeroValue t).run Tryz.prog w = .ok z w := lkZ_ok ⟨Tryz.zeroValue1, Tryz.zeroValue2, Tryz.zeroValue3, Tryz.zeroValue4, Tryz.zeroValue5, Tryz.zeroValue6, Tryz.zeroValue7, Tryz.zeroValue8, Tryz.zeroValue9, Tryz.zeroValue10, Tryz.zeroValue11, Tryz.zeroValue12, Tryz.zeroValue13, Tryz.zeroValue14, Tryz.zeroValue15, Tryz.zeroValue16, Tryz.zeroValue17, Tryz.zeroValue18, Tryz.zeroValue19, Tryz.zeroValue21, Tryz.zeroValue22, Tryz.zeroValue23, Tryz.zeroValue24, Tryz.zeroValue25, Tryz.zeroValue26, Tryz.zeroValue27, Tryz.zeroValue28, Tryz.zeroValue29, Tryz.zeroValue30, Tryz.zeroValue31, Tryz.zeroValue32, Tryz.zeroValue33, Tryz.zeroValue34, Tryz.zeroValue35, Tryz.zeroValue36, Tryz.zeroValue37, Tryz.zeroValue38, Tryz.zeroValue39, Tryz.zeroValue40, Tryz.zeroValue41, Tryz.zeroValue42, Tryz.zeroValue43, Tryz.zeroValue44, Tryz.zeroValue45, Tryz.zeroValue46, Tryz.zeroValue47, Tryz.zeroValue48, Tryz.zeroValue49, Tryz.zeroValue50, Tryz.zeroValue51, Tryz.zeroValue52, Tryz.zeroValue53, Tryz.zeroValue54, Tryz.zeroValue55, Tryz.zeroValue56, Tryz.zeroValue57, Tryz.zeroValue58, Tryz.zeroValue60, Tryz.zeroValue61, Tryz.zeroValue62, Tryz.zeroValue63, Tryz.zeroValue65, Tryz.zeroValue66, Tryz.zeroValue67, Tryz.zeroValue69, Tryz.zeroValue70, Tryz.zeroValue71, Tryz.zeroValue73, Tryz.zeroValue74, Tryz.zeroValue75, Tryz.zeroValue76, Tryz.zeroValue77, Tryz.zeroValue78, Tryz.zeroValue79, Tryz.zeroValue80, Tryz.zeroValue81, Tryz.zeroValue82, Tryz.zeroValue84, Tryz.zeroValue85, Tryz.zeroValue86, Tryz.zeroValue87, Tryz.zeroValue88, Tryz.zeroValue89, Tryz.zeroValue90, Tryz.zeroValue91, Tryz.zeroValue92, Tryz.zeroValue93, Tryz.zeroValue94, Tryz.zeroValue95, Tryz.zeroValue96, Tryz.zeroValue97, Tryz.zeroValue98, Tryz.zeroValue99, Tryz.zeroValue100, Tryz.zeroValue101, Tryz.zeroValue102, Tryz.zeroValue103, Tryz.zeroValue104, Tryz.zeroValue105, Tryz.zeroValue108, Tryz.zeroValue109, Tryz.zeroValue110, Tryz.zeroValue111, Tryz.zeroValue112, Tryz.zeroValue113, Tryz.zeroValue114, Tryz.zeroValue116, Tryz.zeroValue117, Tryz.zeroValue118, Tryz.zeroValue119, Tryz.zeroValue120, Tryz.zeroValue121, Tryz.zeroValue122, Tryz.zeroValue123, Tryz.zeroValue124, Tryz.zeroValue125, Tryz.zeroValue126, Tryz.zeroValue127, Tryz.zeroValue128, Tryz.zeroValue129, Tryz.zeroValue130, Tryz.zeroValue131, Tryz.zeroValue132, Tryz.zeroValue133, Tryz.zeroValue134, Tryz.zeroValue135, Tryz.zeroValue136, Tryz.zeroValue137, Tryz.zeroValue138, Tryz.zeroValue139, Tryz.zeroValue140, Tryz.zeroValue141, Tryz.zeroValue142, Tryz.zeroValue143, Tryz.zeroValue144, Tryz.zeroValue145, Tryz.zeroValue146, Tryz.zeroValue147, Tryz.zeroValue148, Tryz.zeroValue149, Tryz.zeroValue150, Tryz.zeroValue151, Tryz.zeroValue152, Tryz.zeroValue153, Tryz.zeroValue154, Tryz.zeroValue155, Tryz.zeroValue156, Tryz.zeroValue157, Tryz.zeroValue158, Tryz.zeroValue159, Tryz.zeroValue160, Tryz.zeroValue161, Tryz.zeroValue162, Tryz.zeroValue163, Tryz.zeroValue164, Tryz.zeroValue165, Tryz.zeroValue166, Tryz.zeroValue167, Tryz.zeroValue168, Tryz.zeroValue169, Tryz.zeroValue170, Tryz.zeroValue171, Tryz.zeroValue172, Tryz.zeroValue173, Tryz.zeroValue174, Tryz.zeroValue175, Tryz.zeroValue176, Tryz.zeroValue177, Tryz.zeroValue178, Tryz.zeroValue179, Tryz.zeroValue180, Tryz.zeroValue181, Tryz.zeroValue182, Tryz.zeroValue183, Tryz.zeroValue187, Tryz.zeroValue188, Tryz.zeroValue189, Tryz.zeroValue190, Tryz.zeroValue191, Tryz.zeroValue192, Tryz.zeroValue193, Tryz.zeroValue195, Tryz.zeroValue196, Tryz.zeroValue197, Tryz.zeroValue198, Tryz.zeroValue199, Tryz.zeroValue200, Tryz.zeroValue201, Tryz.zeroValue202, Tryz.zeroValue203, Tryz.zeroValue204, Tryz.zeroValue205, Tryz.zeroValue206, Tryz.zeroValue207, Tryz.zeroValue208, Tryz.zeroValue209, Tryz.zeroValue210, Tryz.zeroValue211, Tryz.zeroValue212, Tryz.zeroValue213, Tryz.zeroValue215, Tryz.zeroValue217, Tryz.zeroValue218, Tryz.zeroValue219, Tryz.zeroValue220, Tryz.zeroValue221, Tryz.zeroValue222, Tryz.zeroValue223, Tryz.zeroValue224, Tryz.zeroValue225, Tryz.zeroValue226, Tryz.zeroValue227, Tryz.zeroValue229, Tryz.zeroValue230, Tryz.zeroValue231, Tryz.zeroValue232, Tryz.zeroValue233, Tryz.zeroValue234, Tryz.zeroValue235, Tryz.zeroValue236, Tryz.zeroValue237, Tryz.zeroValue238, Tryz.zeroValue239, Tryz.zeroValue240, Tryz.zeroValue241, Tryz.zeroValue242, Tryz.zeroValue243, Tryz.zeroValue244, Tryz.zeroValue245, Tryz.zeroValue246, Tryz.zeroValue247, Tryz.zeroValue248, Tryz.zeroValue249, Tryz.zeroValue250, Tryz.zeroValue251, Tryz.zeroValue252, Tryz.zeroValue253, Tryz.zeroValue254, Tryz.zeroValue255, Tryz.zeroValue256, Tryz.zeroValue258, Tryz.zeroValue259, Tryz.zeroValue262, Tryz.zeroValue266, Tryz.zeroValue267, Tryz.zeroValue269, Tryz.zeroValue272, Tryz.zeroValue275, Tryz.zeroValue281, Tryz.zeroValue286, Tryz.zeroValue292, Tryz.zeroValue293, Tryz.zeroValue294, Tryz.zeroValue303, Tryz.zeroValue305, Tryz.zeroValue307, trivial⟩
theorem ti_1 : ti 1 = .one := rfl
theorem ti_2 : ti 2 = .int .i64 := rfl
theorem ti_3 : ti 3 = .int .i64 := rfl
theorem ti_4 : ti 4 = .bool := rfl
theorem ti_5 : ti 5 = .int .u8 := rfl
theorem ti_6 : ti 6 = .int .u8 := rfl
theorem ti_7 : ti 7 = .st 4 [(0, 1), (1, 1), (2, 1), (3, 1)] := rfl
theorem ti_8 : ti 8 = .st 4 [(0, 1), (1, 1), (2, 1), (3, 1)] := rfl
theorem ti_9 : ti 9 = .str := rfl
theorem ti_10 : ti 10 = .str := rfl
theorem ti_11 : ti 11 = .str := rfl
theorem ti_12 : ti 12 = .int .u64 := rfl
theorem ti_13 : ti 13 = .st 2 [(0, 1), (1, 1)] := rfl
theorem ti_14 : ti 14 = .st 2 [(0, 1), (1, 1)] := rfl
theorem ti_15 : ti 15 = .one := rfl
theorem ti_16 : ti 16 = .one := rfl
theorem ti_17 : ti 17 = .one := rfl
theorem ti_18 : ti 18 = .st 1 [(0, 1)] := rfl
theorem ti_19 : ti 19 = .st 1 [(0, 1)] := rfl
theorem ti_21 : ti 21 = .int .i32 := rfl
theorem ti_22 : ti 22 = .sl 128 2 32 := rfl
theorem ti_23 : ti 23 = .sl 136 10 160 := rfl
theorem ti_24 : ti 24 = .sl 204 3 40 := rfl
theorem ti_25 : ti 25 = .st 2 [(0, 1), (1, 1)] := rfl
theorem ti_26 : ti 26 = .st 2 [(0, 1), (1, 1)] := rfl
theorem ti_27 : ti 27 = .st 3 [(0, 1), (1, 2)] := rfl
theorem ti_28 : ti 28 = .st 3 [(0, 1), (1, 2)] := rfl
theorem ti_29 : ti 29 = .sl 142 8 96 := rfl
theorem ti_30 : ti 30 = .sl 9 1 16 := rfl
theorem ti_31 : ti 31 = .st 11 [(0, 1), (1, 1), (2, 3), (5, 1), (6, 1), (7, 1), (8, 1), (9, 1), (10, 1)] := rfl
theorem ti_32 : ti 32 = .st 11 [(0, 1), (1, 1), (2, 3), (5, 1), (6, 1), (7, 1), (8, 1), (9, 1), (10, 1)] := rfl
theorem ti_33 : ti 33 = .one := rfl
theorem ti_34 : ti 34 = .one := rfl
theorem ti_35 : ti 35 = .sl 154 2 32 := rfl
theorem ti_36 : ti 36 = .sl 149 10 160 := rfl
theorem ti_37 : ti 37 = .sl 211 3 40 := rfl
theorem ti_38 : ti 38 = .st 2 [(0, 1), (1, 1)] := rfl
theorem ti_39 : ti 39 = .st 3 [(0, 1), (1, 2)] := rfl
theorem ti_40 : ti 40 = .st 3 [(0, 1), (1, 2)] := rfl
theorem ti_41 : ti 41 = .sl 153 8 96 := rfl
theorem ti_42 : ti 42 = .st 11 [(0, 1), (1, 1), (2, 3), (5, 1), (6, 1), (7, 1), (8, 1), (9, 1), (10, 1)] := rfl
theorem ti_43 : ti 43 = .st 11 [(0, 1), (1, 1), (2, 3), (5, 1), (6, 1), (7, 1), (8, 1), (9, 1), (10, 1)] := rfl
theorem ti_44 : ti 44 = .one := rfl
theorem ti_45 : ti 45 = .one := rfl
theorem ti_46 : ti 46 = .one := rfl
theorem ti_47 : ti 47 = .one := rfl
theorem ti_48 : ti 48 = .one := rfl
theorem ti_49 : ti 49 = .one := rfl
theorem ti_50 : ti 50 = .one := rfl
theorem ti_51 : ti 51 = .sl 5 1 1 := rfl
theorem ti_52 : ti 52 = .one := rfl
theorem ti_53 : ti 53 = .st 6 [(0, 1), (1, 1), (2, 1), (3, 1), (4, 1), (5, 1)] := rfl
theorem ti_54 : ti 54 = .st 6 [(0, 1), (1, 1), (2, 1), (3, 1), (4, 1), (5, 1)] := rfl
theorem ti_55 : ti 55 = .st 9 [(0, 1), (1, 1), (2, 1), (3, 6)] := rfl
theorem ti_56 : ti 56 = .st 9 [(0, 1), (1, 1), (2, 1), (3, 6)] := rfl
theorem ti_57 : ti 57 = .one := rfl
theorem ti_58 : ti 58 = .one := rfl
theorem ti_60 : ti 60 = .one := rfl
theorem ti_61 : ti 61 = .one := rfl
theorem ti_62 : ti 62 = .one := rfl
theorem ti_63 : ti 63 = .one := rfl
theorem ti_65 : ti 65 = .one := rfl
theorem ti_66 : ti 66 = .one := rfl
theorem ti_67 : ti 67 = .one := rfl
theorem ti_69 : ti 69 = .one := rfl
theorem ti_70 : ti 70 = .one := rfl
theorem ti_71 : ti 71 = .sl 56 9 96 := rfl
theorem ti_73 : ti 73 = .one := rfl
theorem ti_74 : ti 74 = .one := rfl
theorem ti_75 : ti 75 = .one := rfl
theorem ti_76 : ti 76 = .one := rfl
theorem ti_77 : ti 77 = .one := rfl
theorem ti_78 : ti 78 = .one := rfl
theorem ti_79 : ti 79 = .one := rfl
theorem ti_80 : ti 80 = .one := rfl
theorem ti_81 : ti 81 = .one := rfl
theorem ti_82 : ti 82 = .one := rfl
theorem ti_84 : ti 84 = .one := rfl
theorem ti_85 : ti 85 = .one := rfl
theorem ti_86 : ti 86 = .one := rfl
theorem ti_87 : ti 87 = .one := rfl
theorem ti_88 : ti 88 = .one := rfl
theorem ti_89 : ti 89 = .one := rfl
theorem ti_90 : ti 90 = .one := rfl
theorem ti_91 : ti 91 = .one := rfl
theorem ti_92 : ti 92 = .one := rfl
theorem ti_93 : ti 93 = .one := rfl
theorem ti_94 : ti 94 = .one := rfl
theorem ti_95 : ti 95 = .one := rfl
theorem ti_96 : ti 96 = .one := rfl
theorem ti_97 : ti 97 = .one := rfl
theorem ti_98 : ti 98 = .one := rfl
theorem ti_99 : ti 99 = .one := rfl
theorem ti_100 : ti 100 = .one := rfl
theorem ti_101 : ti 101 = .one := rfl
theorem ti_102 : ti 102 = .one := rfl
theorem ti_103 : ti 103 = .one := rfl
theorem ti_104 : ti 104 = .one := rfl
theorem ti_105 : ti 105 = .one := rfl
theorem ti_108 : ti 108 = .one := rfl
theorem ti_109 : ti 109 = .one := rfl
theorem ti_110 : ti 110 = .one := rfl
theorem ti_111 : ti 111 = .one := rfl
theorem ti_112 : ti 112 = .one := rfl
theorem ti_113 : ti 113 = .one := rfl
theorem ti_114 : ti 114 = .one := rfl
theorem ti_116 : ti 116 = .one := rfl
theorem ti_117 : ti 117 = .one := rfl
theorem ti_118 : ti 118 = .one := rfl
theorem ti_119 : ti 119 = .one := rfl
theorem ti_120 : ti 120 = .one := rfl
theorem ti_121 : ti 121 = .one := rfl
theorem ti_122 : ti 122 = .one := rfl
theorem ti_123 : ti 123 = .one := rfl
theorem ti_124 : ti 124 = .one := rfl
theorem ti_125 : ti 125 = .one := rfl
theorem ti_126 : ti 126 = .one := rfl
theorem ti_127 : ti 127 = .st 2 [(0, 1), (1, 1)] := rfl
theorem ti_128 : ti 128 = .st 2 [(0, 1), (1, 1)] := rfl
theorem ti_129 : ti 129 = .one := rfl
theorem ti_130 : ti 130 = .sl 240 6 72 := rfl
theorem ti_131 : ti 131 = .sl 242 3 32 := rfl
theorem ti_132 : ti 132 = .st 2 [(0, 1), (1, 1)] := rfl
theorem ti_133 : ti 133 = .st 2 [(0, 1), (1, 1)] := rfl
theorem ti_134 : ti 134 = .sl 3 1 8 := rfl
theorem ti_135 : ti 135 = .st 10 [(0, 1), (1, 1), (2, 1), (3, 1), (4, 1), (5, 1), (6, 2), (8, 1), (9, 1)] := rfl
theorem ti_136 : ti 136 = .st 10 [(0, 1), (1, 1), (2, 1), (3, 1), (4, 1), (5, 1), (6, 2), (8, 1), (9, 1)] := rfl
theorem ti_137 : ti 137 = .one := rfl
theorem ti_138 : ti 138 = .one := rfl
theorem ti_139 : ti 139 = .one := rfl
theorem ti_140 : ti 140 = .sl 245 7 80 := rfl
theorem ti_141 : ti 141 = .st 8 [(0, 1), (1, 1), (2, 1), (3, 1), (4, 1), (5, 1), (6, 1), (7, 1)] := rfl
theorem ti_142 : ti 142 = .st 8 [(0, 1), (1, 1), (2, 1), (3, 1), (4, 1), (5, 1), (6, 1), (7, 1)] := rfl
theorem ti_143 : ti 143 = .one := rfl
theorem ti_144 : ti 144 = .one := rfl
theorem ti_145 : ti 145 = .sl 54 6 72 := rfl
theorem ti_146 : ti 146 = .sl 181 3 32 := rfl
theorem ti_147 : ti 147 = .st 2 [(0, 1), (1, 1)] := rfl
theorem ti_148 : ti 148 = .st 10 [(0, 1), (1, 1), (2, 1), (3, 1), (4, 1), (5, 1), (6, 2), (8, 1), (9, 1)] := rfl
theorem ti_149 : ti 149 = .st 10 [(0, 1), (1, 1), (2, 1), (3, 1), (4, 1), (5, 1), (6, 2), (8, 1), (9, 1)] := rfl
theorem ti_150 : ti 150 = .one := rfl
theorem ti_151 : ti 151 = .sl 179 7 80 := rfl
theorem ti_152 : ti 152 = .st 8 [(0, 1), (1, 1), (2, 1), (3, 1), (4, 1), (5, 1), (6, 1), (7, 1)] := rfl
theorem ti_153 : ti 153 = .st 8 [(0, 1), (1, 1), (2, 1), (3, 1), (4, 1), (5, 1), (6, 1), (7, 1)] := rfl
theorem ti_154 : ti 154 = .st 2 [(0, 1), (1, 1)] := rfl
theorem ti_155 : ti 155 = .one := rfl
theorem ti_156 : ti 156 = .one := rfl
theorem ti_157 : ti 157 = .one := rfl
theorem ti_158 : ti 158 = .one := rfl
theorem ti_159 : ti 159 = .one := rfl
theorem ti_160 : ti 160 = .sl 30 1 24 := rfl
theorem ti_161 : ti 161 = .one := rfl
theorem ti_162 : ti 162 = .one := rfl
theorem ti_163 : ti 163 = .one := rfl
theorem ti_164 : ti 164 = .one := rfl
theorem ti_165 : ti 165 = .one := rfl
theorem ti_166 : ti 166 = .one := rfl
theorem ti_167 : ti 167 = .one := rfl
theorem ti_168 : ti 168 = .one := rfl
theorem ti_169 : ti 169 = .one := rfl
theorem ti_170 : ti 170 = .one := rfl
theorem ti_171 : ti 171 = .one := rfl
theorem ti_172 : ti 172 = .one := rfl
theorem ti_173 : ti 173 = .one := rfl
theorem ti_174 : ti 174 = .one := rfl
theorem ti_175 : ti 175 = .one := rfl
theorem ti_176 : ti 176 = .one := rfl
theorem ti_177 : ti 177 = .one := rfl
theorem ti_178 : ti 178 = .st 7 [(0, 1), (1, 6)] := rfl
theorem ti_179 : ti 179 = .st 7 [(0, 1), (1, 6)] := rfl
theorem ti_180 : ti 180 = .st 3 [(0, 1), (1, 1), (2, 1)] := rfl
theorem ti_181 : ti 181 = .st 3 [(0, 1), (1, 1), (2, 1)] := rfl
theorem ti_182 : ti 182 = .st 3 [(0, 1), (1, 1), (2, 1)] := rfl
theorem ti_183 : ti 183 = .st 3 [(0, 1), (1, 1), (2, 1)] := rfl
theorem ti_187 : ti 187 = .one := rfl
theorem ti_188 : ti 188 = .one := rfl
theorem ti_189 : ti 189 = .one := rfl
theorem ti_190 : ti 190 = .one := rfl
theorem ti_191 : ti 191 = .one := rfl
theorem ti_192 : ti 192 = .one := rfl
theorem ti_193 : ti 193 = .one := rfl
theorem ti_195 : ti 195 = .one := rfl
theorem ti_196 : ti 196 = .one := rfl
theorem ti_197 : ti 197 = .one := rfl
theorem ti_198 : ti 198 = .one := rfl
theorem ti_199 : ti 199 = .one := rfl
theorem ti_200 : ti 200 = .one := rfl
theorem ti_201 : ti 201 = .one := rfl
theorem ti_202 : ti 202 = .one := rfl
theorem ti_203 : ti 203 = .st 3 [(0, 1), (1, 1), (2, 1)] := rfl
theorem ti_204 : ti 204 = .st 3 [(0, 1), (1, 1), (2, 1)] := rfl
theorem ti_205 : ti 205 = .one := rfl
theorem ti_206 : ti 206 = .one := rfl
theorem ti_207 : ti 207 = .one := rfl
theorem ti_208 : ti 208 = .one := rfl
theorem ti_209 : ti 209 = .one := rfl
theorem ti_210 : ti 210 = .st 3 [(0, 1), (1, 1), (2, 1)] := rfl
theorem ti_211 : ti 211 = .st 3 [(0, 1), (1, 1), (2, 1)] := rfl
theorem ti_212 : ti 212 = .one := rfl
theorem ti_213 : ti 213 = .one := rfl
theorem ti_215 : ti 215 = .one := rfl
theorem ti_217 : ti 217 = .one := rfl
theorem ti_218 : ti 218 = .one := rfl
theorem ti_219 : ti 219 = .one := rfl
theorem ti_220 : ti 220 = .one := rfl
theorem ti_221 : ti 221 = .one := rfl
theorem ti_222 : ti 222 = .one := rfl
theorem ti_223 : ti 223 = .one := rfl
theorem ti_224 : ti 224 = .one := rfl
theorem ti_225 : ti 225 = .one := rfl
theorem ti_226 : ti 226 = .one := rfl
theorem ti_227 : ti 227 = .one := rfl
theorem ti_229 : ti 229 = .one := rfl
theorem ti_230 : ti 230 = .int .u64 := rfl
theorem ti_231 : ti 231 = .sl 233 2 16 := rfl
theorem ti_232 : ti 232 = .st 2 [(0, 1), (1, 1)] := rfl
theorem ti_233 : ti 233 = .st 2 [(0, 1), (1, 1)] := rfl
theorem ti_234 : ti 234 = .int .u32 := rfl
theorem ti_235 : ti 235 = .one := rfl
theorem ti_236 : ti 236 = .one := rfl
theorem ti_237 : ti 237 = .one := rfl
theorem ti_238 : ti 238 = .one := rfl
theorem ti_239 : ti 239 = .one := rfl
theorem ti_240 : ti 240 = .st 6 [(0, 1), (1, 1), (2, 1), (3, 1), (4, 1), (5, 1)] := rfl
theorem ti_241 : ti 241 = .one := rfl
theorem ti_242 : ti 242 = .st 3 [(0, 1), (1, 1), (2, 1)] := rfl
theorem ti_243 : ti 243 = .one := rfl
theorem ti_244 : ti 244 = .st 7 [(0, 1), (1, 6)] := rfl
theorem ti_245 : ti 245 = .st 7 [(0, 1), (1, 6)] := rfl
theorem ti_246 : ti 246 = .one := rfl
theorem ti_247 : ti 247 = .one := rfl
theorem ti_248 : ti 248 = .one := rfl
theorem ti_249 : ti 249 = .one := rfl
theorem ti_250 : ti 250 = .one := rfl
theorem ti_251 : ti 251 = .st 2 [(0, 1), (1, 1)] := rfl
theorem ti_252 : ti 252 = .st 2 [(0, 1), (1, 1)] := rfl
theorem ti_253 : ti 253 = .one := rfl
theorem ti_254 : ti 254 = .one := rfl
theorem ti_255 : ti 255 = .one := rfl
theorem ti_256 : ti 256 = .one := rfl
theorem ti_258 : ti 258 = .one := rfl
theorem ti_259 : ti 259 = .int .i64 := rfl
theorem ti_262 : ti 262 = .one := rfl
theorem ti_266 : ti 266 = .sl 272 3 6 := rfl
theorem ti_267 : ti 267 = .sl 275 3 12 := rfl
theorem ti_269 : ti 269 = .st 3 [(0, 1), (1, 1), (2, 1)] := rfl
theorem ti_272 : ti 272 = .st 3 [(0, 1), (1, 1), (2, 1)] := rfl
theorem ti_275 : ti 275 = .st 3 [(0, 1), (1, 1), (2, 1)] := rfl
theorem ti_281 : ti 281 = .int .u64 := rfl
theorem ti_286 : ti 286 = .one := rfl
theorem ti_290 : ti 290 = .st 3 [(0, 1), (1, 1), (2, 1)] := rfl
theorem ti_292 : ti 292 = .int .u8 := rfl
theorem ti_293 : ti 293 = .one := rfl
theorem ti_294 : ti 294 = .one := rfl
theorem ti_303 : ti 303 = .one := rfl
theorem ti_305 : ti 305 = .st 1 [(0, 1)] := rfl
theorem ti_307 : ti 307 = .st 2 [(0, 1), (1, 1)] := rfl
theorem zr_1 : zr 1 = some (Value.nilFunc) := rfl
theorem zr_2 : zr 2 = some (Value.int IntKind.i64 0) := rfl
theorem zr_3 : zr 3 = some (Value.int IntKind.i64 0) := rfl
theorem zr_4 : zr 4 = some (Value.bool false) := rfl
theorem zr_5 : zr 5 = some (Value.int IntKind.u8 0) := rfl
theorem zr_6 : zr 6 = some (Value.int IntKind.u8 0) := rfl
theorem zr_7 : zr 7 = some (Value.agg #[Value.int IntKind.i64 0, Value.int IntKind.i64 0, Value.bool false, Value.int IntKind.u8 0]) := rfl
theorem zr_8 : zr 8 = some (Value.agg #[Value.int IntKind.i64 0, Value.int IntKind.i64 0, Value.bool false, Value.int IntKind.u8 0]) := rfl
theorem zr_9 : zr 9 = some (Value.string { data := #[] }) := rfl
theorem zr_10 : zr 10 = some (Value.string { data := #[] }) := rfl
theorem zr_11 : zr 11 = some (Value.string { data := #[] }) := rfl
theorem zr_12 : zr 12 = some (Value.int IntKind.u64 0) := rfl
theorem zr_13 : zr 13 = some (Value.agg #[Value.string { data := #[] }, Value.int IntKind.u64 0]) := rfl
theorem zr_14 : zr 14 = some (Value.agg #[Value.string { data := #[] }, Value.int IntKind.u64 0]) := rfl
theorem zr_15 : zr 15 = some (Value.pointer none) := rfl
theorem zr_16 : zr 16 = some (Value.pointer none) := rfl
theorem zr_17 : zr 17 = some (Value.pointer none) := rfl
theorem zr_18 : zr 18 = some (Value.agg #[Value.pointer none]) := rfl
theorem zr_19 : zr 19 = some (Value.agg #[Value.pointer none]) := rfl
theorem zr_21 : zr 21 = some (Value.int IntKind.i32 0) := rfl
theorem zr_22 : zr 22 = some (Value.slice none 0 0) := rfl
theorem zr_23 : zr 23 = some (Value.slice none 0 0) := rfl
theorem zr_24 : zr 24 = some (Value.slice none 0 0) := rfl
theorem zr_25 : zr 25 = some (Value.agg #[Value.string { data := #[] }, Value.int IntKind.i64 0]) := rfl
theorem zr_26 : zr 26 = some (Value.agg #[Value.string { data := #[] }, Value.int IntKind.i64 0]) := rfl
theorem zr_27 : zr 27 = some (Value.agg #[Value.slice none 0 0, Value.string { data := #[] }, Value.int IntKind.i64 0]) := rfl
theorem zr_28 : zr 28 = some (Value.agg #[Value.slice none 0 0, Value.string { data := #[] }, Value.int IntKind.i64 0]) := rfl
theorem zr_29 : zr 29 = some (Value.slice none 0 0) := rfl
theorem zr_30 : zr 30 = some (Value.slice none 0 0) := rfl
theorem zr_31 : zr 31 = some (Value.agg #[Value.slice none 0 0, Value.slice none 0 0, Value.slice none 0 0, Value.string { data := #[] }, Value.int IntKind.i64 0, Value.int IntKind.i64 0, Value.int IntKind.i64 0, Value.int IntKind.i64 0, Value.slice none 0 0, Value.slice none 0 0, Value.bool false]) := rfl
theorem zr_32 : zr 32 = some (Value.agg #[Value.slice none 0 0, Value.slice none 0 0, Value.slice none 0 0, Value.string { data := #[] }, Value.int IntKind.i64 0, Value.int IntKind.i64 0, Value.int IntKind.i64 0, Value.int IntKind.i64 0, Value.slice none 0 0, Value.slice none 0 0, Value.bool false]) := rfl
theorem zr_33 : zr 33 = some (Value.nilFunc) := rfl
theorem zr_34 : zr 34 = some (Value.nilFunc) := rfl
theorem zr_35 : zr 35 = some (Value.slice none 0 0) := rfl
theorem zr_36 : zr 36 = some (Value.slice none 0 0) := rfl
theorem zr_37 : zr 37 = some (Value.slice none 0 0) := rfl
theorem zr_38 : zr 38 = some (Value.agg #[Value.string { data := #[] }, Value.int IntKind.i64 0]) := rfl
theorem zr_39 : zr 39 = some (Value.agg #[Value.slice none 0 0, Value.string { data := #[] }, Value.int IntKind.i64 0]) := rfl
theorem zr_40 : zr 40 = some (Value.agg #[Value.slice none 0 0, Value.string { data := #[] }, Value.int IntKind.i64 0]) := rfl
theorem zr_41 : zr 41 = some (Value.slice none 0 0) := rfl
theorem zr_42 : zr 42 = some (Value.agg #[Value.slice none 0 0, Value.slice none 0 0, Value.slice none 0 0, Value.string { data := #[] }, Value.int IntKind.i64 0, Value.int IntKind.i64 0, Value.int IntKind.i64 0, Value.int IntKind.i64 0, Value.slice none 0 0, Value.slice none 0 0, Value.bool false]) := rfl
theorem zr_43 : zr 43 = some (Value.agg #[Value.slice none 0 0, Value.slice none 0 0, Value.slice none 0 0, Value.string { data := #[] }, Value.int IntKind.i64 0, Value.int IntKind.i64 0, Value.int IntKind.i64 0, Value.int IntKind.i64 0, Value.slice none 0 0, Value.slice none 0 0, Value.bool false]) := rfl
theorem zr_44 : zr 44 = some (Value.nilFunc) := rfl
theorem zr_45 : zr 45 = some (Value.nilFunc) := rfl
theorem zr_46 : zr 46 = some (Value.nilFunc) := rfl
theorem zr_47 : zr 47 = some (Value.nilFunc) := rfl
theorem zr_48 : zr 48 = some (Value.nilFunc) := rfl
theorem zr_49 : zr 49 = some (Value.nilFunc) := rfl
theorem zr_50 : zr 50 = some (Value.nilFunc) := rfl
theorem zr_51 : zr 51 = some (Value.slice none 0 0) := rfl
theorem zr_52 : zr 52 = some (Value.nilFunc) := rfl
theorem zr_53 : zr 53 = some (Value.agg #[Value.int IntKind.i64 0, Value.string { data := #[] }, Value.string { data := #[] }, Value.int IntKind.i64 0, Value.int IntKind.i64 0, Value.string { data := #[] }]) := rfl
theorem zr_54 : zr 54 = some (Value.agg #[Value.int IntKind.i64 0, Value.string { data := #[] }, Value.string { data := #[] }, Value.int IntKind.i64 0, Value.int IntKind.i64 0, Value.string { data := #[] }]) := rfl
theorem zr_55 : zr 55 = some (Value.agg #[Value.int IntKind.i64 0, Value.int IntKind.i64 0, Value.int IntKind.i64 0, Value.int IntKind.i64 0, Value.string { data := #[] }, Value.string { data := #[] }, Value.int IntKind.i64 0, Value.int IntKind.i64 0, Value.string { data := #[] }]) := rfl
theorem zr_56 : zr 56 = some (Value.agg #[Value.int IntKind.i64 0, Value.int IntKind.i64 0, Value.int IntKind.i64 0, Value.int IntKind.i64 0, Value.string { data := #[] }, Value.string { data := #[] }, Value.int IntKind.i64 0, Value.int IntKind.i64 0, Value.string { data := #[] }]) := rfl
theorem zr_57 : zr 57 = some (Value.nilFunc) := rfl
theorem zr_58 : zr 58 = some (Value.nilFunc) := rfl
theorem zr_60 : zr 60 = some (Value.nilFunc) := rfl
theorem zr_61 : zr 61 = some (Value.nilFunc) := rfl
theorem zr_62 : zr 62 = some (Value.nilFunc) := rfl
theorem zr_63 : zr 63 = some (Value.nilFunc) := rfl
theorem zr_65 : zr 65 = some (Value.nilFunc) := rfl
theorem zr_66 : zr 66 = some (Value.nilFunc) := rfl
theorem zr_67 : zr 67 = some (Value.nilFunc) := rfl
theorem zr_69 : zr 69 = some (Value.nilFunc) := rfl
theorem zr_70 : zr 70 = some (Value.nilFunc) := rfl
theorem zr_71 : zr 71 = some (Value.slice none 0 0) := rfl
theorem zr_73 : zr 73 = some (Value.nilFunc) := rfl
theorem zr_74 : zr 74 = some (Value.nilFunc) := rfl
theorem zr_75 : zr 75 = some (Value.nilFunc) := rfl
theorem zr_76 : zr 76 = some (Value.nilFunc) := rfl
theorem zr_77 : zr 77 = some (Value.nilFunc) := rfl
theorem zr_78 : zr 78 = some (Value.nilFunc) := rfl
theorem zr_79 : zr 79 = some (Value.nilFunc) := rfl
theorem zr_80 : zr 80 = some (Value.nilFunc) := rfl
theorem zr_81 : zr 81 = some (Value.nilFunc) := rfl
theorem zr_82 : zr 82 = some (Value.nilFunc) := rfl
theorem zr_84 : zr 84 = some (Value.nilFunc) := rfl
theorem zr_85 : zr 85 = some (Value.nilFunc) := rfl
theorem zr_86 : zr 86 = some (Value.nilFunc) := rfl
theorem zr_87 : zr 87 = some (Value.nilFunc) := rfl
theorem zr_88 : zr 88 = some (Value.nilFunc) := rfl
theorem zr_89 : zr 89 = some (Value.nilFunc) := rfl
theorem zr_90 : zr 90 = some (Value.nilFunc) := rfl
theorem zr_91 : zr 91 = some (Value.nilFunc) := rfl
theorem zr_92 : zr 92 = some (Value.nilFunc) := rfl
theorem zr_93 : zr 93 = some (Value.nilFunc) := rfl
theorem zr_94 : zr 94 = some (Value.nilFunc) := rfl
theorem zr_95 : zr 95 = some (Value.nilFunc) := rfl
theorem zr_96 : zr 96 = some (Value.nilFunc) := rfl
theorem zr_97 : zr 97 = some (Value.nilFunc) := rfl
theorem zr_98 : zr 98 = some (Value.nilFunc) := rfl
theorem zr_99 : zr 99 = some (Value.nilFunc) := rfl
theorem zr_100 : zr 100 = some (Value.nilFunc) := rfl
theorem zr_101 : zr 101 = some (Value.pointer none) := rfl
theorem zr_102 : zr 102 = some (Value.nilFunc) := rfl
theorem zr_103 : zr 103 = some (Value.nilFunc) := rfl
theorem zr_104 : zr 104 = some (Value.nilFunc) := rfl
theorem zr_105 : zr 105 = some (Value.nilFunc) := rfl
theorem zr_108 : zr 108 = some (Value.nilFunc) := rfl
theorem zr_109 : zr 109 = some (Value.nilFunc) := rfl
theorem zr_110 : zr 110 = some (Value.nilFunc) := rfl
theorem zr_111 : zr 111 = some (Value.nilFunc) := rfl
theorem zr_112 : zr 112 = some (Value.nilFunc) := rfl
theorem zr_113 : zr 113 = some (Value.nilFunc) := rfl
theorem zr_114 : zr 114 = some (Value.nilFunc) := rfl
theorem zr_116 : zr 116 = some (Value.nilFunc) := rfl
theorem zr_117 : zr 117 = some (Value.nilFunc) := rfl
theorem zr_118 : zr 118 = some (Value.nilFunc) := rfl
theorem zr_119 : zr 119 = some (Value.nilFunc) := rfl
theorem zr_120 : zr 120 = some (Value.nilFunc) := rfl
theorem zr_121 : zr 121 = some (Value.nilFunc) := rfl
theorem zr_122 : zr 122 = some (Value.nilFunc) := rfl
theorem zr_123 : zr 123 = some (Value.nilFunc) := rfl
theorem zr_124 : zr 124 = some (Value.nilFunc) := rfl
theorem zr_125 : zr 125 = some (Value.nilFunc) := rfl
theorem zr_126 : zr 126 = some (Value.nilFunc) := rfl
theorem zr_127 : zr 127 = some (Value.agg #[Value.string { data := #[] }, Value.string { data := #[] }]) := rfl
theorem zr_128 : zr 128 = some (Value.agg #[Value.string { data := #[] }, Value.string { data := #[] }]) := rfl
theorem zr_129 : zr 129 = some (Value.nilFunc) := rfl
theorem zr_130 : zr 130 = some (Value.slice none 0 0) := rfl
theorem zr_131 : zr 131 = some (Value.slice none 0 0) := rfl
theorem zr_132 : zr 132 = some (Value.agg #[Value.slice none 0 0, Value.slice none 0 0]) := rfl
theorem zr_133 : zr 133 = some (Value.agg #[Value.slice none 0 0, Value.slice none 0 0]) := rfl
theorem zr_134 : zr 134 = some (Value.slice none 0 0) := rfl
theorem zr_135 : zr 135 = some (Value.agg #[Value.int IntKind.i64 0, Value.int IntKind.i64 0, Value.int IntKind.i64 0, Value.int IntKind.i64 0, Value.slice none 0 0, Value.slice none 0 0, Value.slice none 0 0, Value.slice none 0 0, Value.slice none 0 0, Value.int IntKind.i64 0]) := rfl
theorem zr_136 : zr 136 = some (Value.agg #[Value.int IntKind.i64 0, Value.int IntKind.i64 0, Value.int IntKind.i64 0, Value.int IntKind.i64 0, Value.slice none 0 0, Value.slice none 0 0, Value.slice none 0 0, Value.slice none 0 0, Value.slice none 0 0, Value.int IntKind.i64 0]) := rfl
theorem zr_137 : zr 137 = some (Value.nilFunc) := rfl
theorem zr_138 : zr 138 = some (Value.nilFunc) := rfl
theorem zr_139 : zr 139 = some (Value.nilFunc) := rfl
theorem zr_140 : zr 140 = some (Value.slice none 0 0) := rfl
theorem zr_141 : zr 141 = some (Value.agg #[Value.int IntKind.i64 0, Value.int IntKind.i64 0, Value.int IntKind.i64 0, Value.slice none 0 0, Value.slice none 0 0, Value.int IntKind.i64 0, Value.int IntKind.i64 0, Value.bool false]) := rfl
theorem zr_142 : zr 142 = some (Value.agg #[Value.int IntKind.i64 0, Value.int IntKind.i64 0, Value.int IntKind.i64 0, Value.slice none 0 0, Value.slice none 0 0, Value.int IntKind.i64 0, Value.int IntKind.i64 0, Value.bool false]) := rfl
theorem zr_143 : zr 143 = some (Value.nilFunc) := rfl
theorem zr_144 : zr 144 = some (Value.nilFunc) := rfl
theorem zr_145 : zr 145 = some (Value.slice none 0 0) := rfl
theorem zr_146 : zr 146 = some (Value.slice none 0 0) := rfl
theorem zr_147 : zr 147 = some (Value.agg #[Value.slice none 0 0, Value.slice none 0 0]) := rfl
theorem zr_148 : zr 148 = some (Value.agg #[Value.int IntKind.i64 0, Value.int IntKind.i64 0, Value.int IntKind.i64 0, Value.int IntKind.i64 0, Value.slice none 0 0, Value.slice none 0 0, Value.slice none 0 0, Value.slice none 0 0, Value.slice none 0 0, Value.int IntKind.i64 0]) := rfl
theorem zr_149 : zr 149 = some (Value.agg #[Value.int IntKind.i64 0, Value.int IntKind.i64 0, Value.int IntKind.i64 0, Value.int IntKind.i64 0, Value.slice none 0 0, Value.slice none 0 0, Value.slice none 0 0, Value.slice none 0 0, Value.slice none 0 0, Value.int IntKind.i64 0]) := rfl
theorem zr_150 : zr 150 = some (Value.nilFunc) := rfl
theorem zr_151 : zr 151 = some (Value.slice none 0 0) := rfl
theorem zr_152 : zr 152 = some (Value.agg #[Value.int IntKind.i64 0, Value.int IntKind.i64 0, Value.int IntKind.i64 0, Value.slice none 0 0, Value.slice none 0 0, Value.int IntKind.i64 0, Value.int IntKind.i64 0, Value.bool false]) := rfl
theorem zr_153 : zr 153 = some (Value.agg #[Value.int IntKind.i64 0, Value.int IntKind.i64 0, Value.int IntKind.i64 0, Value.slice none 0 0, Value.slice none 0 0, Value.int IntKind.i64 0, Value.int IntKind.i64 0, Value.bool false]) := rfl
theorem zr_154 : zr 154 = some (Value.agg #[Value.string { data := #[] }, Value.string { data := #[] }]) := rfl
theorem zr_155 : zr 155 = some (Value.nilFunc) := rfl
theorem zr_156 : zr 156 = some (Value.nilFunc) := rfl
theorem zr_157 : zr 157 = some (Value.nilFunc) := rfl
theorem zr_158 : zr 158 = some (Value.nilFunc) := rfl
theorem zr_159 : zr 159 = some (Value.nilFunc) := rfl
theorem zr_160 : zr 160 = some (Value.slice none 0 0) := rfl
theorem zr_161 : zr 161 = some (Value.nilFunc) := rfl
theorem zr_162 : zr 162 = some (Value.nilFunc) := rfl
theorem zr_163 : zr 163 = some (Value.nilFunc) := rfl
theorem zr_164 : zr 164 = some (Value.nilFunc) := rfl
theorem zr_165 : zr 165 = some (Value.nilFunc) := rfl
theorem zr_166 : zr 166 = some (Value.nilFunc) := rfl
theorem zr_167 : zr 167 = some (Value.nilFunc) := rfl
theorem zr_168 : zr 168 = some (Value.nilFunc) := rfl
theorem zr_169 : zr 169 = some (Value.nilFunc) := rfl
theorem zr_170 : zr 170 = some (Value.nilFunc) := rfl
theorem zr_171 : zr 171 = some (Value.nilFunc) := rfl
theorem zr_172 : zr 172 = some (Value.nilFunc) := rfl
theorem zr_173 : zr 173 = some (Value.nilFunc) := rfl
theorem zr_174 : zr 174 = some (Value.nilFunc) := rfl
theorem zr_175 : zr 175 = some (Value.nilFunc) := rfl
theorem zr_176 : zr 176 = some (Value.nilFunc) := rfl
theorem zr_177 : zr 177 = some (Value.nilFunc) := rfl
theorem zr_178 : zr 178 = some (Value.agg #[Value.int IntKind.i64 0, Value.int IntKind.i64 0, Value.string { data := #[] }, Value.string { data := #[] }, Value.int IntKind.i64 0, Value.int IntKind.i64 0, Value.string { data := #[] }]) := rfl
theorem zr_179 : zr 179 = some (Value.agg #[Value.int IntKind.i64 0, Value.int IntKind.i64 0, Value.string { data := #[] }, Value.string { data := #[] }, Value.int IntKind.i64 0, Value.int IntKind.i64 0, Value.string { data := #[] }]) := rfl
theorem zr_180 : zr 180 = some (Value.agg #[Value.int IntKind.i64 0, Value.int IntKind.i64 0, Value.string { data := #[] }]) := rfl
theorem zr_181 : zr 181 = some (Value.agg #[Value.int IntKind.i64 0, Value.int IntKind.i64 0, Value.string { data := #[] }]) := rfl
theorem zr_182 : zr 182 = some (Value.agg #[Value.slice none 0 0, Value.int IntKind.i64 0, Value.int IntKind.i64 0]) := rfl
theorem zr_183 : zr 183 = some (Value.agg #[Value.slice none 0 0, Value.int IntKind.i64 0, Value.int IntKind.i64 0]) := rfl
theorem zr_187 : zr 187 = some (Value.nilFunc) := rfl
theorem zr_188 : zr 188 = some (Value.nilFunc) := rfl
theorem zr_189 : zr 189 = some (Value.nilFunc) := rfl
theorem zr_190 : zr 190 = some (Value.nilFunc) := rfl
theorem zr_191 : zr 191 = some (Value.pointer none) := rfl
theorem zr_192 : zr 192 = some (Value.nilFunc) := rfl
theorem zr_193 : zr 193 = some (Value.nilFunc) := rfl
theorem zr_195 : zr 195 = some (Value.nilFunc) := rfl
theorem zr_196 : zr 196 = some (Value.nilFunc) := rfl
theorem zr_197 : zr 197 = some (Value.nilFunc) := rfl
theorem zr_198 : zr 198 = some (Value.nilFunc) := rfl
theorem zr_199 : zr 199 = some (Value.nilFunc) := rfl
theorem zr_200 : zr 200 = some (Value.nilFunc) := rfl
theorem zr_201 : zr 201 = some (Value.nilFunc) := rfl
theorem zr_202 : zr 202 = some (Value.nilFunc) := rfl
theorem zr_203 : zr 203 = some (Value.agg #[Value.int IntKind.i64 0, Value.slice none 0 0, Value.bool false]) := rfl
theorem zr_204 : zr 204 = some (Value.agg #[Value.int IntKind.i64 0, Value.slice none 0 0, Value.bool false]) := rfl
theorem zr_205 : zr 205 = some (Value.nilFunc) := rfl
theorem zr_206 : zr 206 = some (Value.nilFunc) := rfl
theorem zr_207 : zr 207 = some (Value.nilFunc) := rfl
theorem zr_208 : zr 208 = some (Value.nilFunc) := rfl
theorem zr_209 : zr 209 = some (Value.nilFunc) := rfl
theorem zr_210 : zr 210 = some (Value.agg #[Value.int IntKind.i64 0, Value.slice none 0 0, Value.bool false]) := rfl
theorem zr_211 : zr 211 = some (Value.agg #[Value.int IntKind.i64 0, Value.slice none 0 0, Value.bool false]) := rfl
theorem zr_212 : zr 212 = some (Value.nilFunc) := rfl
theorem zr_213 : zr 213 = some (Value.nilFunc) := rfl
theorem zr_215 : zr 215 = some (Value.nilFunc) := rfl
theorem zr_217 : zr 217 = some (Value.nilFunc) := rfl
theorem zr_218 : zr 218 = some (Value.nilFunc) := rfl
theorem zr_219 : zr 219 = some (Value.nilFunc) := rfl
theorem zr_220 : zr 220 = some (Value.nilFunc) := rfl
theorem zr_221 : zr 221 = some (Value.nilFunc) := rfl
theorem zr_222 : zr 222 = some (Value.nilFunc) := rfl
theorem zr_223 : zr 223 = some (Value.nilFunc) := rfl
theorem zr_224 : zr 224 = some (Value.nilFunc) := rfl
theorem zr_225 : zr 225 = some (Value.nilFunc) := rfl
theorem zr_226 : zr 226 = some (Value.nilFunc) := rfl
theorem zr_227 : zr 227 = some (Value.nilFunc) := rfl
theorem zr_229 : zr 229 = some (Value.nilFunc) := rfl
theorem zr_230 : zr 230 = some (Value.int IntKind.u64 0) := rfl
theorem zr_231 : zr 231 = some (Value.slice none 0 0) := rfl
theorem zr_232 : zr 232 = some (Value.agg #[Value.int IntKind.i64 0, Value.int IntKind.i64 0]) := rfl
theorem zr_233 : zr 233 = some (Value.agg #[Value.int IntKind.i64 0, Value.int IntKind.i64 0]) := rfl
theorem zr_234 : zr 234 = some (Value.int IntKind.u32 0) := rfl
theorem zr_235 : zr 235 = some (Value.nilFunc) := rfl
theorem zr_236 : zr 236 = some (Value.pointer none) := rfl
theorem zr_237 : zr 237 = some (Value.nilFunc) := rfl
theorem zr_238 : zr 238 = some (Value.nilFunc) := rfl
theorem zr_239 : zr 239 = some (Value.nilFunc) := rfl
theorem zr_240 : zr 240 = some (Value.agg #[Value.int IntKind.i64 0, Value.string { data := #[] }, Value.string { data := #[] }, Value.int IntKind.i64 0, Value.int IntKind.i64 0, Value.string { data := #[] }]) := rfl
theorem zr_241 : zr 241 = some (Value.nilFunc) := rfl
theorem zr_242 : zr 242 = some (Value.agg #[Value.int IntKind.i64 0, Value.int IntKind.i64 0, Value.string { data := #[] }]) := rfl
theorem zr_243 : zr 243 = some (Value.nilFunc) := rfl
theorem zr_244 : zr 244 = some (Value.agg #[Value.int IntKind.i64 0, Value.int IntKind.i64 0, Value.string { data := #[] }, Value.string { data := #[] }, Value.int IntKind.i64 0, Value.int IntKind.i64 0, Value.string { data := #[] }]) := rfl
theorem zr_245 : zr 245 = some (Value.agg #[Value.int IntKind.i64 0, Value.int IntKind.i64 0, Value.string { data := #[] }, Value.string { data := #[] }, Value.int IntKind.i64 0, Value.int IntKind.i64 0, Value.string { data := #[] }]) := rfl
theorem zr_246 : zr 246 = some (Value.nilFunc) := rfl
theorem zr_247 : zr 247 = some (Value.nilFunc) := rfl
theorem zr_248 : zr 248 = some (Value.nilFunc) := rfl
theorem zr_249 : zr 249 = some (Value.nilFunc) := rfl
theorem zr_250 : zr 250 = some (Value.pointer none) := rfl
theorem zr_251 : zr 251 = some (Value.agg #[Value.pointer none, Value.slice none 0 0]) := rfl
theorem zr_252 : zr 252 = some (Value.agg #[Value.pointer none, Value.slice none 0 0]) := rfl
theorem zr_253 : zr 253 = some (Value.nilFunc) := rfl
theorem zr_254 : zr 254 = some (Value.nilFunc) := rfl
theorem zr_255 : zr 255 = some (Value.nilFunc) := rfl
theorem zr_256 : zr 256 = some (Value.nilFunc) := rfl
theorem zr_258 : zr 258 = some (Value.nilFunc) := rfl
theorem zr_259 : zr 259 = some (Value.int IntKind.i64 0) := rfl
theorem zr_262 : zr 262 = some (Value.pointer none) := rfl
theorem zr_266 : zr 266 = some (Value.slice none 0 0) := rfl
theorem zr_267 : zr 267 = some (Value.slice none 0 0) := rfl
theorem zr_269 : zr 269 = some (Value.agg #[Value.slice none 0 0, Value.slice none 0 0, Value.int IntKind.i64 0]) := rfl
theorem zr_272 : zr 272 = some (Value.agg #[Value.int IntKind.u16 0, Value.int IntKind.u16 0, Value.int IntKind.u16 0]) := rfl
theorem zr_275 : zr 275 = some (Value.agg #[Value.int IntKind.u32 0, Value.int IntKind.u32 0, Value.int IntKind.u32 0]) := rfl
theorem zr_281 : zr 281 = some (Value.int IntKind.u64 0) := rfl
theorem zr_286 : zr 286 = some (Value.pointer none) := rfl
theorem zr_292 : zr 292 = some (Value.int IntKind.u8 0) := rfl
theorem zr_293 : zr 293 = some (Value.pointer none) := rfl
theorem zr_294 : zr 294 = some (Value.pointer none) := rfl
theorem zr_303 : zr 303 = some (Value.pointer none) := rfl
theorem zr_305 : zr 305 = some (Value.agg #[Value.string { data := #[] }]) := rfl
theorem zr_307 : zr 307 = some (Value.agg #[Value.int IntKind.u8 0, Value.int IntKind.u8 0]) := rfl
def Gw (w : World) : Prop := GV 0 (gl0.map Value.string) w ∧ GV 1 (gl1.map Value.string) w ∧ GV 2 (gl2.map (Value.int .u8)) w ∧ GV 8 (gl8.map (Value.int .u64)) w ∧ GE 4 w ∧ GE 5 w ∧ GE 6 w
theorem GV.keep {g : Nat} {cs : List Value} {w w' : World} (h : GV g cs w) (hk : Keep (Old w) w w') : GV g cs w' := by
  have hl := h.lt
  obtain ⟨T, fr, h⟩ := h
  exact ⟨T, fr, (hk.block g hl).trans h⟩
theorem Gstab : ∀ w w', Gw w → Keep (Old w) w w' → Gw w' := fun _ _ h hk => ⟨h.1.keep hk, h.2.1.keep hk, h.2.2.1.keep hk, h.2.2.2.1.keep hk, h.2.2.2.2.1.keep hk, h.2.2.2.2.2.1.keep hk, h.2.2.2.2.2.2.keep hk⟩
def gls : List Nat := [0, 1, 2, 8, 4, 5, 6]
theorem Gin (w : World) (h : Gw w) : ∀ g ∈ gls, Old w g := fun g hg => by
  simp only [gls, List.mem_cons, List.not_mem_nil, or_false] at hg
  rcases hg with rfl | rfl | rfl | rfl | rfl | rfl | rfl
  · exact h.1.lt
  · exact h.2.1.lt
  · exact h.2.2.1.lt
  · exact h.2.2.2.1.lt
  · exact h.2.2.2.2.1.lt
  · exact h.2.2.2.2.2.1.lt
  · exact h.2.2.2.2.2.2.lt
theorem Gl0 : ∀ w, Gw w → GV 0 (gl0.map Value.string) w := fun _ h => h.1
theorem Gl1 : ∀ w, Gw w → GV 1 (gl1.map Value.string) w := fun _ h => h.2.1
theorem Gl2 : ∀ w, Gw w → GV 2 (gl2.map (Value.int .u8)) w := fun _ h => h.2.2.1
theorem Gl8 : ∀ w, Gw w → GV 8 (gl8.map (Value.int .u64)) w := fun _ h => h.2.2.2.1
theorem Gl4 : ∀ w, Gw w → GE 4 w := fun _ h => h.2.2.2.2.1
theorem Gl5 : ∀ w, Gw w → GE 5 w := fun _ h => h.2.2.2.2.2.1
theorem Gl6 : ∀ w, Gw w → GE 6 w := fun _ h => h.2.2.2.2.2.2

theorem sysok : SysOk Tryz.prog ti zr Gw := ⟨tiok, zok, Gstab⟩
theorem mixed : Tryz.prog.follows .mixedOrders = true := by kernel_rfl
/-- Where a walk begins: what stands, and what is to be shown at the end. -/
structure Bs where
  S0 : Nat → Prop
  w : World
  gok : ∀ w', Keep S0 w w' → Gw w'
  base : ∀ b, S0 b → b < w.heap.size
  gin : ∀ g ∈ gls, S0 g
  Q : (World → Value → Prop) → World → Value → Prop
@[reducible] def Bs.old (w : World) (hG : Gw w) : Bs := ⟨Old w, w, fun w' hk => Gstab w w' hG hk, fun _ h => h, Gin w hG, fun R => R⟩
@[reducible] def Bs.mut (S : Nat → Prop) (w : World) (hG : ∀ w', Keep S w w' → Gw w') (hb : ∀ b, S b → b < w.heap.size) (hg : ∀ g ∈ gls, S g) (p : Nat → Loc) (mk : Nat) (E1 : List (Nat × En)) (nn : Nat) (r : List V) (G0 : Prop) : Bs := ⟨S, w, hG, hb, hg, fun _ => MQ S w p mk E1 nn r G0⟩
@[reducible] noncomputable def cx (fn : Func) (Bz : Bs) (S1 : Nat → Prop) (w1 : World) (hk1 : Keep Bz.S0 Bz.w w1) (hs1 : ∀ b, Bz.S0 b → S1 b) (hd1 : ∀ b, S1 b → b < w1.heap.size) : Cx := ⟨Tryz.prog, fn, ti, zr, Gw, S1, w1, tiok, zok, fun w' hk => Bz.gok w' (hk1.trans (hk.mono hs1)), hd1, Bz.Q⟩
abbrev CTEs (f : FuncId) (args : List Arg) (res : Value → List Re) (ok : Bool) : Prop := CTE Tryz.prog Gw f args res ok
abbrev CTMs (f : FuncId) (mk m0 : Nat) (E0 F0 : List (Nat × En)) (args : List V) (E1 : List (Nat × En)) (nn : Nat) (r : List V) (G0 : Prop) : Prop := CTM Tryz.prog Gw gls f mk m0 E0 F0 args E1 nn r G0
abbrev CTs (f : FuncId) (args : List Arg) (res : List Re) : Prop := CT Tryz.prog Gw f args res
theorem om {p : Prop} (h : p := by first | omega | (simp only [Bool.not_eq_eq_eq_not, Bool.not_true, Bool.not_false, decide_eq_true_eq, decide_eq_false_iff_not, Bool.not_eq_true', Bool.not_eq_false', Bool.or_eq_false_iff, Bool.or_eq_true, Bool.and_eq_true, Decidable.not_not] at *; omega) | ((repeat rw [IntWalk.i64_in _ (by omega)]); omega)) : p := h
section
variable {fn : Func} {Bz : Bs} {S1 : Nat → Prop} {w1 : World} {hk1 : Keep Bz.S0 Bz.w w1} {hs1 : ∀ b, Bz.S0 b → S1 b} {hd1 : ∀ b, S1 b → b < w1.heap.size} {res : List Re} {σ σ' : St} {k k' : List It}
/-- The machine goes on by itself, n steps. -/
theorem ad (n : Nat) (h : Run (cx fn Bz S1 w1 hk1 hs1 hd1) res σ' k') (hs : advN ti zr n (some (σ, k)) = some (σ', k') := by dsimp only [ncV, szA, cvV, rnR, rnE, V.rn, rnL, En.rn, dropE, memN, afterStE, an, stK, cdK, opK, gdK, nvK, cellsO, zcells, blK, bsK, stW, stV, ptK, litD, litC, pkV, wrV, binV, unV, ldV, faW, faV, agO, blV, exV, mfV, lenV, caV, fillT, fillS, stO', sdV, cons2, grdO, gBV, gPw, gPk, gGo, gK, gK1, gK2, tkK, tk1, rvsV, rvV, Nat.reduceAdd, Nat.reduceSub, Nat.reduceMul, advN, adv1, stO, litV, fillV, splice, pv, ev, evs, lk, lkE, setE, putE, put, cond, ldC, ldE, nthN, tuAt, bin, bi, bs, bb, ikq, TI.cells, V.cells, V.one, oneL, toBlk, grd, nthO, beqB, gB, wnt, gOp, adG, adG1, pickV, sideP, evG, V.side, V.strip, afterCall, afterIdx, afterApp, afterApp0, packV, bindRs, bindR, bindGs, bindG, bindAs, bindA, ini, slotsV, opn, nsl, adD, setAll, Str.fk, ti_1, ti_2, ti_3, ti_4, ti_5, ti_6, ti_7, ti_8, ti_9, ti_10, ti_11, ti_12, ti_13, ti_14, ti_15, ti_16, ti_17, ti_18, ti_19, ti_21, ti_22, ti_23, ti_24, ti_25, ti_26, ti_27, ti_28, ti_29, ti_30, ti_31, ti_32, ti_33, ti_34, ti_35, ti_36, ti_37, ti_38, ti_39, ti_40, ti_41, ti_42, ti_43, ti_44, ti_45, ti_46, ti_47, ti_48, ti_49, ti_50, ti_51, ti_52, ti_53, ti_54, ti_55, ti_56, ti_57, ti_58, ti_60, ti_61, ti_62, ti_63, ti_65, ti_66, ti_67, ti_69, ti_70, ti_71, ti_73, ti_74, ti_75, ti_76, ti_77, ti_78, ti_79, ti_80, ti_81, ti_82, ti_84, ti_85, ti_86, ti_87, ti_88, ti_89, ti_90, ti_91, ti_92, ti_93, ti_94, ti_95, ti_96, ti_97, ti_98, ti_99, ti_100, ti_101, ti_102, ti_103, ti_104, ti_105, ti_108, ti_109, ti_110, ti_111, ti_112, ti_113, ti_114, ti_116, ti_117, ti_118, ti_119, ti_120, ti_121, ti_122, ti_123, ti_124, ti_125, ti_126, ti_127, ti_128, ti_129, ti_130, ti_131, ti_132, ti_133, ti_134, ti_135, ti_136, ti_137, ti_138, ti_139, ti_140, ti_141, ti_142, ti_143, ti_144, ti_145, ti_146, ti_147, ti_148, ti_149, ti_150, ti_151, ti_152, ti_153, ti_154, ti_155, ti_156, ti_157, ti_158, ti_159, ti_160, ti_161, ti_162, ti_163, ti_164, ti_165, ti_166, ti_167, ti_168, ti_169, ti_170, ti_171, ti_172, ti_173, ti_174, ti_175, ti_176, ti_177, ti_178, ti_179, ti_180, ti_181, ti_182, ti_183, ti_187, ti_188, ti_189, ti_190, ti_191, ti_192, ti_193, ti_195, ti_196, ti_197, ti_198, ti_199, ti_200, ti_201, ti_202, ti_203, ti_204, ti_205, ti_206, ti_207, ti_208, ti_209, ti_210, ti_211, ti_212, ti_213, ti_215, ti_217, ti_218, ti_219, ti_220, ti_221, ti_222, ti_223, ti_224, ti_225, ti_226, ti_227, ti_229, ti_230, ti_231, ti_232, ti_233, ti_234, ti_235, ti_236, ti_237, ti_238, ti_239, ti_240, ti_241, ti_242, ti_243, ti_244, ti_245, ti_246, ti_247, ti_248, ti_249, ti_250, ti_251, ti_252, ti_253, ti_254, ti_255, ti_256, ti_258, ti_259, ti_262, ti_266, ti_267, ti_269, ti_272, ti_275, ti_281, ti_286, ti_290, ti_292, ti_293, ti_294, ti_303, ti_305, ti_307, zr_1, zr_2, zr_3, zr_4, zr_5, zr_6, zr_7, zr_8, zr_9, zr_10, zr_11, zr_12, zr_13, zr_14, zr_15, zr_16, zr_17, zr_18, zr_19, zr_21, zr_22, zr_23, zr_24, zr_25, zr_26, zr_27, zr_28, zr_29, zr_30, zr_31, zr_32, zr_33, zr_34, zr_35, zr_36, zr_37, zr_38, zr_39, zr_40, zr_41, zr_42, zr_43, zr_44, zr_45, zr_46, zr_47, zr_48, zr_49, zr_50, zr_51, zr_52, zr_53, zr_54, zr_55, zr_56, zr_57, zr_58, zr_60, zr_61, zr_62, zr_63, zr_65, zr_66, zr_67, zr_69, zr_70, zr_71, zr_73, zr_74, zr_75, zr_76, zr_77, zr_78, zr_79, zr_80, zr_81, zr_82, zr_84, zr_85, zr_86, zr_87, zr_88, zr_89, zr_90, zr_91, zr_92, zr_93, zr_94, zr_95, zr_96, zr_97, zr_98, zr_99, zr_100, zr_101, zr_102, zr_103, zr_104, zr_105, zr_108, zr_109, zr_110, zr_111, zr_112, zr_113, zr_114, zr_116, zr_117, zr_118, zr_119, zr_120, zr_121, zr_122, zr_123, zr_124, zr_125, zr_126, zr_127, zr_128, zr_129, zr_130, zr_131, zr_132, zr_133, zr_134, zr_135, zr_136, zr_137, zr_138, zr_139, zr_140, zr_141, zr_142, zr_143, zr_144, zr_145, zr_146, zr_147, zr_148, zr_149, zr_150, zr_151, zr_152, zr_153, zr_154, zr_155, zr_156, zr_157, zr_158, zr_159, zr_160, zr_161, zr_162, zr_163, zr_164, zr_165, zr_166, zr_167, zr_168, zr_169, zr_170, zr_171, zr_172, zr_173, zr_174, zr_175, zr_176, zr_177, zr_178, zr_179, zr_180, zr_181, zr_182, zr_183, zr_187, zr_188, zr_189, zr_190, zr_191, zr_192, zr_193, zr_195, zr_196, zr_197, zr_198, zr_199, zr_200, zr_201, zr_202, zr_203, zr_204, zr_205, zr_206, zr_207, zr_208, zr_209, zr_210, zr_211, zr_212, zr_213, zr_215, zr_217, zr_218, zr_219, zr_220, zr_221, zr_222, zr_223, zr_224, zr_225, zr_226, zr_227, zr_229, zr_230, zr_231, zr_232, zr_233, zr_234, zr_235, zr_236, zr_237, zr_238, zr_239, zr_240, zr_241, zr_242, zr_243, zr_244, zr_245, zr_246, zr_247, zr_248, zr_249, zr_250, zr_251, zr_252, zr_253, zr_254, zr_255, zr_256, zr_258, zr_259, zr_262, zr_266, zr_267, zr_269, zr_272, zr_275, zr_281, zr_286, zr_292, zr_293, zr_294, zr_303, zr_305, zr_307, Nat.blt, Nat.succ_eq_add_one, Nat.ble, Nat.beq, Nat.pred, Nat.add_zero, Nat.zero_add, Nat.add_eq, List.toList_toArray, List.length, List.length_cons, List.length_nil, List.take, List.drop, List.append_nil, List.nil_append, List.cons_append, List.map, List.take_succ_cons, List.take_zero, List.take_nil, List.drop_succ_cons, List.drop_zero, List.drop_nil, List.size_toArray, List.getD, id, Op.operands, Call.operands, Value.cells, Array.size_empty]) : Run (cx fn Bz S1 w1 hk1 hs1 hd1) res σ k := Run.advN n hs h
/-- .. under truths that are not known. -/
theorem ag (n : Nat) {l l' : List Oper} {all : Array Oper} {q : Prop} (h : Run (cx fn Bz S1 w1 hk1 hs1 hd1) res σ' (.ops l' all :: k)) (hs : adG ti zr all n (some (σ, l, True)) = some (σ', l', q) := by dsimp only [ncV, szA, cvV, rnR, rnE, V.rn, rnL, En.rn, dropE, memN, afterStE, an, stK, cdK, opK, gdK, nvK, cellsO, zcells, blK, bsK, stW, stV, ptK, litD, litC, pkV, wrV, binV, unV, ldV, faW, faV, agO, blV, exV, mfV, lenV, caV, fillT, fillS, stO', sdV, cons2, grdO, gBV, gPw, gPk, gGo, gK, gK1, gK2, tkK, tk1, rvsV, rvV, Nat.reduceAdd, Nat.reduceSub, Nat.reduceMul, advN, adv1, stO, litV, fillV, splice, pv, ev, evs, lk, lkE, setE, putE, put, cond, ldC, ldE, nthN, tuAt, bin, bi, bs, bb, ikq, TI.cells, V.cells, V.one, oneL, toBlk, grd, nthO, beqB, gB, wnt, gOp, adG, adG1, pickV, sideP, evG, V.side, V.strip, afterCall, afterIdx, afterApp, afterApp0, packV, bindRs, bindR, bindGs, bindG, bindAs, bindA, ini, slotsV, opn, nsl, adD, setAll, Str.fk, ti_1, ti_2, ti_3, ti_4, ti_5, ti_6, ti_7, ti_8, ti_9, ti_10, ti_11, ti_12, ti_13, ti_14, ti_15, ti_16, ti_17, ti_18, ti_19, ti_21, ti_22, ti_23, ti_24, ti_25, ti_26, ti_27, ti_28, ti_29, ti_30, ti_31, ti_32, ti_33, ti_34, ti_35, ti_36, ti_37, ti_38, ti_39, ti_40, ti_41, ti_42, ti_43, ti_44, ti_45, ti_46, ti_47, ti_48, ti_49, ti_50, ti_51, ti_52, ti_53, ti_54, ti_55, ti_56, ti_57, ti_58, ti_60, ti_61, ti_62, ti_63, ti_65, ti_66, ti_67, ti_69, ti_70, ti_71, ti_73, ti_74, ti_75, ti_76, ti_77, ti_78, ti_79, ti_80, ti_81, ti_82, ti_84, ti_85, ti_86, ti_87, ti_88, ti_89, ti_90, ti_91, ti_92, ti_93, ti_94, ti_95, ti_96, ti_97, ti_98, ti_99, ti_100, ti_101, ti_102, ti_103, ti_104, ti_105, ti_108, ti_109, ti_110, ti_111, ti_112, ti_113, ti_114, ti_116, ti_117, ti_118, ti_119, ti_120, ti_121, ti_122, ti_123, ti_124, ti_125, ti_126, ti_127, ti_128, ti_129, ti_130, ti_131, ti_132, ti_133, ti_134, ti_135, ti_136, ti_137, ti_138, ti_139, ti_140, ti_141, ti_142, ti_143, ti_144, ti_145, ti_146, ti_147, ti_148, ti_149, ti_150, ti_151, ti_152, ti_153, ti_154, ti_155, ti_156, ti_157, ti_158, ti_159, ti_160, ti_161, ti_162, ti_163, ti_164, ti_165, ti_166, ti_167, ti_168, ti_169, ti_170, ti_171, ti_172, ti_173, ti_174, ti_175, ti_176, ti_177, ti_178, ti_179, ti_180, ti_181, ti_182, ti_183, ti_187, ti_188, ti_189, ti_190, ti_191, ti_192, ti_193, ti_195, ti_196, ti_197, ti_198, ti_199, ti_200, ti_201, ti_202, ti_203, ti_204, ti_205, ti_206, ti_207, ti_208, ti_209, ti_210, ti_211, ti_212, ti_213, ti_215, ti_217, ti_218, ti_219, ti_220, ti_221, ti_222, ti_223, ti_224, ti_225, ti_226, ti_227, ti_229, ti_230, ti_231, ti_232, ti_233, ti_234, ti_235, ti_236, ti_237, ti_238, ti_239, ti_240, ti_241, ti_242, ti_243, ti_244, ti_245, ti_246, ti_247, ti_248, ti_249, ti_250, ti_251, ti_252, ti_253, ti_254, ti_255, ti_256, ti_258, ti_259, ti_262, ti_266, ti_267, ti_269, ti_272, ti_275, ti_281, ti_286, ti_290, ti_292, ti_293, ti_294, ti_303, ti_305, ti_307, zr_1, zr_2, zr_3, zr_4, zr_5, zr_6, zr_7, zr_8, zr_9, zr_10, zr_11, zr_12, zr_13, zr_14, zr_15, zr_16, zr_17, zr_18, zr_19, zr_21, zr_22, zr_23, zr_24, zr_25, zr_26, zr_27, zr_28, zr_29, zr_30, zr_31, zr_32, zr_33, zr_34, zr_35, zr_36, zr_37, zr_38, zr_39, zr_40, zr_41, zr_42, zr_43, zr_44, zr_45, zr_46, zr_47, zr_48, zr_49, zr_50, zr_51, zr_52, zr_53, zr_54, zr_55, zr_56, zr_57, zr_58, zr_60, zr_61, zr_62, zr_63, zr_65, zr_66, zr_67, zr_69, zr_70, zr_71, zr_73, zr_74, zr_75, zr_76, zr_77, zr_78, zr_79, zr_80, zr_81, zr_82, zr_84, zr_85, zr_86, zr_87, zr_88, zr_89, zr_90, zr_91, zr_92, zr_93, zr_94, zr_95, zr_96, zr_97, zr_98, zr_99, zr_100, zr_101, zr_102, zr_103, zr_104, zr_105, zr_108, zr_109, zr_110, zr_111, zr_112, zr_113, zr_114, zr_116, zr_117, zr_118, zr_119, zr_120, zr_121, zr_122, zr_123, zr_124, zr_125, zr_126, zr_127, zr_128, zr_129, zr_130, zr_131, zr_132, zr_133, zr_134, zr_135, zr_136, zr_137, zr_138, zr_139, zr_140, zr_141, zr_142, zr_143, zr_144, zr_145, zr_146, zr_147, zr_148, zr_149, zr_150, zr_151, zr_152, zr_153, zr_154, zr_155, zr_156, zr_157, zr_158, zr_159, zr_160, zr_161, zr_162, zr_163, zr_164, zr_165, zr_166, zr_167, zr_168, zr_169, zr_170, zr_171, zr_172, zr_173, zr_174, zr_175, zr_176, zr_177, zr_178, zr_179, zr_180, zr_181, zr_182, zr_183, zr_187, zr_188, zr_189, zr_190, zr_191, zr_192, zr_193, zr_195, zr_196, zr_197, zr_198, zr_199, zr_200, zr_201, zr_202, zr_203, zr_204, zr_205, zr_206, zr_207, zr_208, zr_209, zr_210, zr_211, zr_212, zr_213, zr_215, zr_217, zr_218, zr_219, zr_220, zr_221, zr_222, zr_223, zr_224, zr_225, zr_226, zr_227, zr_229, zr_230, zr_231, zr_232, zr_233, zr_234, zr_235, zr_236, zr_237, zr_238, zr_239, zr_240, zr_241, zr_242, zr_243, zr_244, zr_245, zr_246, zr_247, zr_248, zr_249, zr_250, zr_251, zr_252, zr_253, zr_254, zr_255, zr_256, zr_258, zr_259, zr_262, zr_266, zr_267, zr_269, zr_272, zr_275, zr_281, zr_286, zr_292, zr_293, zr_294, zr_303, zr_305, zr_307, Nat.blt, Nat.succ_eq_add_one, Nat.ble, Nat.beq, Nat.pred, Nat.add_zero, Nat.zero_add, Nat.add_eq, List.toList_toArray, List.length, List.length_cons, List.length_nil, List.take, List.drop, List.append_nil, List.nil_append, List.cons_append, List.map, List.take_succ_cons, List.take_zero, List.take_nil, List.drop_succ_cons, List.drop_zero, List.drop_nil, List.size_toArray, List.getD, id, Op.operands, Call.operands, Value.cells, Array.size_empty]) (hq : q := by (repeat' apply And.intro) <;> first | exact trivial | exact fun h => h | exact fun h => (Bool.and_eq_true_iff.1 h).1 | exact fun h => (Bool.and_eq_true_iff.1 h).2 | exact fun h => (Bool.and_eq_true_iff.1 (Bool.and_eq_true_iff.1 h).1).1 | (intro h; simp_all)) : Run (cx fn Bz S1 w1 hk1 hs1 hd1) res σ (.ops l all :: k) := Run.adG n hs hq h
theorem cd {x : Operand} {y z : Code} {b : Bool} (ht : b = true → Run (cx fn Bz S1 w1 hk1 hs1 hd1) res σ (.code y :: k)) (hf : b = false → Run (cx fn Bz S1 w1 hk1 hs1 hd1) res σ (.code z :: k)) (hx : ev σ.ρ x = some (.v (.bool b)) := by dsimp only [ev, evs, evsG, cons2, lk, lkE, cond, Nat.beq, evG, stO', V.strip, grd, grdO, nthO, gB, gBV, Nat.pred, wnt, List.toList_toArray, List.cons_append, List.nil_append, List.append_nil]) : Run (cx fn Bz S1 w1 hk1 hs1 hd1) res σ (.code (.cond x y z) :: k) := Run.cond hx ht hf
theorem op {o : Oper} {r : List Oper} {all : Array Oper} {σ1 : St} (ho : OpS (cx fn Bz S1 w1 hk1 hs1 hd1) σ all o σ1) (h : Run (cx fn Bz S1 w1 hk1 hs1 hd1) res σ' (.ops r all :: k)) (hs : σ1 = σ' := by dsimp only [afterCall, afterM, afterAppN, setV, fwE, En.fw, V.fw, fwL, nthG, pickE, consO, nthE, Nat.pred, afterIdx, afterIdxM, afterRos, afterStE, rnR, rnE, V.rn, rnL, En.rn, dropE, memN, V.names.namesL, V.names, afterApp, afterApp0, put, putE, setE, packV, bindRs, bindR, opn, nsl, id, cond, Nat.beq, Nat.reduceAdd, Nat.add_zero, Nat.zero_add, List.cons_append, List.nil_append, List.append_nil, List.append, List.length_cons, List.length_nil, Str.fk]) : Run (cx fn Bz S1 w1 hk1 hs1 hd1) res σ (.ops (o :: r) all :: k) := Run.op ho (by rw [hs]; exact h)
theorem og {o : Oper} {r : List Oper} {all : Array Oper} {σ1 : St} {G H : Prop} (ho : OpSg (cx fn Bz S1 w1 hk1 hs1 hd1) σ all o σ1 G) (h : H → Run (cx fn Bz S1 w1 hk1 hs1 hd1) res σ' (.ops r all :: k)) (hs : σ1 = σ' := by dsimp only [afterCall, afterM, afterAppN, setV, fwE, En.fw, V.fw, fwL, nthG, pickE, consO, nthE, Nat.pred, afterIdx, afterIdxM, afterRos, afterStE, rnR, rnE, V.rn, rnL, En.rn, dropE, memN, V.names.namesL, V.names, afterApp, afterApp0, put, putE, setE, packV, bindRs, bindR, opn, nsl, id, cond, Nat.beq, Nat.reduceAdd, Nat.add_zero, Nat.zero_add, List.cons_append, List.nil_append, List.append_nil, List.append, List.length_cons, List.length_nil, Str.fk]) (hh : G = H := by first | dsimp only [ResGd] | rfl) : Run (cx fn Bz S1 w1 hk1 hs1 hd1) res σ (.ops (o :: r) all :: k) := Run.opg ho (by rw [hs, hh]; exact h)
theorem fz (r : Nat) {α : Type} {d : Dat α} {xs : List α} {E' : List (Nat × En)} (h : Run (cx fn Bz S1 w1 hk1 hs1 hd1) res ⟨σ.n, σ.m, σ.ρ, E'⟩ k) (he : lkE σ.E r = some (.own α d xs) := by dsimp only [ev, evs, evsG, cons2, lk, lkE, cond, Nat.beq, evG, stO', V.strip, grd, grdO, nthO, gB, gBV, Nat.pred, wnt, List.toList_toArray, List.cons_append, List.nil_append, List.append_nil]) (hs : putE r (r, .ros α d xs) σ.E = E' := by dsimp only [afterCall, afterM, afterAppN, setV, fwE, En.fw, V.fw, fwL, nthG, pickE, consO, nthE, Nat.pred, afterIdx, afterIdxM, afterRos, afterStE, rnR, rnE, V.rn, rnL, En.rn, dropE, memN, V.names.namesL, V.names, afterApp, afterApp0, put, putE, setE, packV, bindRs, bindR, opn, nsl, id, cond, Nat.beq, Nat.reduceAdd, Nat.add_zero, Nat.zero_add, List.cons_append, List.nil_append, List.append_nil, List.append, List.length_cons, List.length_nil, Str.fk]) : Run (cx fn Bz S1 w1 hk1 hs1 hd1) res σ k := Run.freeze r he (by rw [hs]; exact h)
theorem gd (r : Nat) {α : Type} {d : Dat α} {xs : List α} (h : (@instDatList α d).good xs → Run (cx fn Bz S1 w1 hk1 hs1 hd1) res σ k) (hp : payE σ.E r = some ⟨α, d, xs⟩ := by rfl) : Run (cx fn Bz S1 w1 hk1 hs1 hd1) res σ k := Run.gd r hp h
theorem li (r : Nat) {α : Type} {d : Dat α} [s : @Str α d] (ys : List α) {cs : List V} {T n : Nat} {E' : List (Nat × En)} (h : Run (cx fn Bz S1 w1 hk1 hs1 hd1) res ⟨σ.n, σ.m, σ.ρ, E'⟩ k) (he : lkE σ.E r = some (.lit cs T n) := by dsimp only [ev, evs, evsG, cons2, lk, lkE, cond, Nat.beq, evG, stO', V.strip, grd, grdO, nthO, gB, gBV, Nat.pred, wnt, List.toList_toArray, List.cons_append, List.nil_append, List.append_nil]) (ho : ElOk σ.E (Dat.sz α) d s.fk ys cs := by dsimp only [ElOk, SlOwn, payOE, En.payO, lkE, cond, Nat.beq, FkO, agC, List.map, Str.fk, id, List.take, List.drop, List.take_succ_cons, List.drop_succ_cons, List.take_zero, List.drop_zero]; repeat' (first | assumption | exact gi _ | exact gs _ | rfl | exact trivial | apply And.intro | omega)) (hl : ys.length = n := by rfl) (hm : Nat.ble n 1000 = true := by rfl) (hn : V.names.namesL cs = [] := by rfl) (hs : putE r (r, .own α d ys) σ.E = E' := by dsimp only [afterCall, afterM, afterAppN, setV, fwE, En.fw, V.fw, fwL, nthG, pickE, consO, nthE, Nat.pred, afterIdx, afterIdxM, afterRos, afterStE, rnR, rnE, V.rn, rnL, En.rn, dropE, memN, V.names.namesL, V.names, afterApp, afterApp0, put, putE, setE, packV, bindRs, bindR, opn, nsl, id, cond, Nat.beq, Nat.reduceAdd, Nat.add_zero, Nat.zero_add, List.cons_append, List.nil_append, List.append_nil, List.append, List.length_cons, List.length_nil, Str.fk]) : Run (cx fn Bz S1 w1 hk1 hs1 hd1) res σ k := Run.lit r ys he hl hm hn ho (by rw [hs]; exact h)
theorem dr {id : Nat} {ops : Array Oper} (n : Nat) {σ' : St} (h : ∀ S2 w2 hk2 hs2 hd2, (∀ θ σ a w', R (cx fn Bz S2 w2 hk2 hs2 hd2) θ σ a w' → R (cx fn Bz S1 w1 hk1 hs1 hd1) θ σ a w') → RunD (cx fn Bz S2 w2 hk2 hs2 hd2) (kQ (cx fn Bz S1 w1 hk1 hs1 hd1) res k .normal) σ'.E σ'.m ops n [] (Array.replicate n false) σ') (hs : σ = σ' := by dsimp only) (hn : ops.size = n := by rfl) : Run (cx fn Bz S1 w1 hk1 hs1 hd1) res σ (.code (.region id ops true) :: k) := by
  subst hs
  exact Run.draw n mixed hn fun S w2 hk hs hd => h S w2 (hk1.trans ((show Keep S1 w1 w2 from hk).mono hs1)) (fun b hb => hs b (hs1 b hb)) hd (fun _ _ _ _ h => R.unbase (hk := hk) (hs := hs) (hd := hd) h)
theorem ds {id : Nat} {ops : Array Oper} (n : Nat) (is0 : List Nat) {E0 : List (Nat × En)} {σ' : St} (h : ∀ S2 w2 hk2 hs2 hd2, (∀ θ σ a w', R (cx fn Bz S2 w2 hk2 hs2 hd2) θ σ a w' → R (cx fn Bz S1 w1 hk1 hs1 hd1) θ σ a w') → RunD (cx fn Bz S2 w2 hk2 hs2 hd2) (kQ (cx fn Bz S1 w1 hk1 hs1 hd1) res k .normal) E0 σ'.m ops n [] (Array.replicate n false) σ') (hs : σ = σ' := by dsimp only) (hE : pk is0 σ.E = E0 := by dsimp only [pk, pkc, nthE, cond, Nat.beq, Nat.pred]) (hp : is0.map (nthE σ.E) = E0.map some := by rfl) (hd0 : is0.Nodup := by decide) (hn : ops.size = n := by rfl) : Run (cx fn Bz S1 w1 hk1 hs1 hd1) res σ (.code (.region id ops true) :: k) := by
  subst hs
  exact Run.drawS n is0 E0 hp hd0 mixed hn fun S w2 hk hs hd => h S w2 (hk1.trans ((show Keep S1 w1 w2 from hk).mono hs1)) (fun b hb => hs b (hs1 b hb)) hd (fun _ _ _ _ h => R.unbase (hk := hk) (hs := hs) (hd := hd) h)
end
section
variable {fn : Func} {Bz : Bs} {S1 : Nat → Prop} {w1 : World} {hk1 : Keep Bz.S0 Bz.w w1} {hs1 : ∀ b, Bz.S0 b → S1 b} {hd1 : ∀ b, S1 b → b < w1.heap.size} {K : Act → World → Prop} {E0 M : List (Nat × En)} {m0 : Nat} {ops : Array Oper} {σ σ' σ1 : St} {listed : Array Bool}
theorem tk (is : List Nat) {n n' : Nat} {q : Prop} (h : RunD (cx fn Bz S1 w1 hk1 hs1 hd1) K E0 m0 ops n M (setAll listed is) σ') (hn : n' = n + is.length := by rfl) (hb : okD ops listed is = true := by kernel_rfl) (hs : adD ti zr ops (M ++ E0) is (some (σ, True)) = some (σ', q) := by dsimp only [ncV, szA, cvV, rnR, rnE, V.rn, rnL, En.rn, dropE, memN, afterStE, an, stK, cdK, opK, gdK, nvK, cellsO, zcells, blK, bsK, stW, stV, ptK, litD, litC, pkV, wrV, binV, unV, ldV, faW, faV, agO, blV, exV, mfV, lenV, caV, fillT, fillS, stO', sdV, cons2, grdO, gBV, gPw, gPk, gGo, gK, gK1, gK2, tkK, tk1, rvsV, rvV, Nat.reduceAdd, Nat.reduceSub, Nat.reduceMul, advN, adv1, stO, litV, fillV, splice, pv, ev, evs, lk, lkE, setE, putE, put, cond, ldC, ldE, nthN, tuAt, bin, bi, bs, bb, ikq, TI.cells, V.cells, V.one, oneL, toBlk, grd, nthO, beqB, gB, wnt, gOp, adG, adG1, pickV, sideP, evG, V.side, V.strip, afterCall, afterIdx, afterApp, afterApp0, packV, bindRs, bindR, bindGs, bindG, bindAs, bindA, ini, slotsV, opn, nsl, adD, setAll, Str.fk, ti_1, ti_2, ti_3, ti_4, ti_5, ti_6, ti_7, ti_8, ti_9, ti_10, ti_11, ti_12, ti_13, ti_14, ti_15, ti_16, ti_17, ti_18, ti_19, ti_21, ti_22, ti_23, ti_24, ti_25, ti_26, ti_27, ti_28, ti_29, ti_30, ti_31, ti_32, ti_33, ti_34, ti_35, ti_36, ti_37, ti_38, ti_39, ti_40, ti_41, ti_42, ti_43, ti_44, ti_45, ti_46, ti_47, ti_48, ti_49, ti_50, ti_51, ti_52, ti_53, ti_54, ti_55, ti_56, ti_57, ti_58, ti_60, ti_61, ti_62, ti_63, ti_65, ti_66, ti_67, ti_69, ti_70, ti_71, ti_73, ti_74, ti_75, ti_76, ti_77, ti_78, ti_79, ti_80, ti_81, ti_82, ti_84, ti_85, ti_86, ti_87, ti_88, ti_89, ti_90, ti_91, ti_92, ti_93, ti_94, ti_95, ti_96, ti_97, ti_98, ti_99, ti_100, ti_101, ti_102, ti_103, ti_104, ti_105, ti_108, ti_109, ti_110, ti_111, ti_112, ti_113, ti_114, ti_116, ti_117, ti_118, ti_119, ti_120, ti_121, ti_122, ti_123, ti_124, ti_125, ti_126, ti_127, ti_128, ti_129, ti_130, ti_131, ti_132, ti_133, ti_134, ti_135, ti_136, ti_137, ti_138, ti_139, ti_140, ti_141, ti_142, ti_143, ti_144, ti_145, ti_146, ti_147, ti_148, ti_149, ti_150, ti_151, ti_152, ti_153, ti_154, ti_155, ti_156, ti_157, ti_158, ti_159, ti_160, ti_161, ti_162, ti_163, ti_164, ti_165, ti_166, ti_167, ti_168, ti_169, ti_170, ti_171, ti_172, ti_173, ti_174, ti_175, ti_176, ti_177, ti_178, ti_179, ti_180, ti_181, ti_182, ti_183, ti_187, ti_188, ti_189, ti_190, ti_191, ti_192, ti_193, ti_195, ti_196, ti_197, ti_198, ti_199, ti_200, ti_201, ti_202, ti_203, ti_204, ti_205, ti_206, ti_207, ti_208, ti_209, ti_210, ti_211, ti_212, ti_213, ti_215, ti_217, ti_218, ti_219, ti_220, ti_221, ti_222, ti_223, ti_224, ti_225, ti_226, ti_227, ti_229, ti_230, ti_231, ti_232, ti_233, ti_234, ti_235, ti_236, ti_237, ti_238, ti_239, ti_240, ti_241, ti_242, ti_243, ti_244, ti_245, ti_246, ti_247, ti_248, ti_249, ti_250, ti_251, ti_252, ti_253, ti_254, ti_255, ti_256, ti_258, ti_259, ti_262, ti_266, ti_267, ti_269, ti_272, ti_275, ti_281, ti_286, ti_290, ti_292, ti_293, ti_294, ti_303, ti_305, ti_307, zr_1, zr_2, zr_3, zr_4, zr_5, zr_6, zr_7, zr_8, zr_9, zr_10, zr_11, zr_12, zr_13, zr_14, zr_15, zr_16, zr_17, zr_18, zr_19, zr_21, zr_22, zr_23, zr_24, zr_25, zr_26, zr_27, zr_28, zr_29, zr_30, zr_31, zr_32, zr_33, zr_34, zr_35, zr_36, zr_37, zr_38, zr_39, zr_40, zr_41, zr_42, zr_43, zr_44, zr_45, zr_46, zr_47, zr_48, zr_49, zr_50, zr_51, zr_52, zr_53, zr_54, zr_55, zr_56, zr_57, zr_58, zr_60, zr_61, zr_62, zr_63, zr_65, zr_66, zr_67, zr_69, zr_70, zr_71, zr_73, zr_74, zr_75, zr_76, zr_77, zr_78, zr_79, zr_80, zr_81, zr_82, zr_84, zr_85, zr_86, zr_87, zr_88, zr_89, zr_90, zr_91, zr_92, zr_93, zr_94, zr_95, zr_96, zr_97, zr_98, zr_99, zr_100, zr_101, zr_102, zr_103, zr_104, zr_105, zr_108, zr_109, zr_110, zr_111, zr_112, zr_113, zr_114, zr_116, zr_117, zr_118, zr_119, zr_120, zr_121, zr_122, zr_123, zr_124, zr_125, zr_126, zr_127, zr_128, zr_129, zr_130, zr_131, zr_132, zr_133, zr_134, zr_135, zr_136, zr_137, zr_138, zr_139, zr_140, zr_141, zr_142, zr_143, zr_144, zr_145, zr_146, zr_147, zr_148, zr_149, zr_150, zr_151, zr_152, zr_153, zr_154, zr_155, zr_156, zr_157, zr_158, zr_159, zr_160, zr_161, zr_162, zr_163, zr_164, zr_165, zr_166, zr_167, zr_168, zr_169, zr_170, zr_171, zr_172, zr_173, zr_174, zr_175, zr_176, zr_177, zr_178, zr_179, zr_180, zr_181, zr_182, zr_183, zr_187, zr_188, zr_189, zr_190, zr_191, zr_192, zr_193, zr_195, zr_196, zr_197, zr_198, zr_199, zr_200, zr_201, zr_202, zr_203, zr_204, zr_205, zr_206, zr_207, zr_208, zr_209, zr_210, zr_211, zr_212, zr_213, zr_215, zr_217, zr_218, zr_219, zr_220, zr_221, zr_222, zr_223, zr_224, zr_225, zr_226, zr_227, zr_229, zr_230, zr_231, zr_232, zr_233, zr_234, zr_235, zr_236, zr_237, zr_238, zr_239, zr_240, zr_241, zr_242, zr_243, zr_244, zr_245, zr_246, zr_247, zr_248, zr_249, zr_250, zr_251, zr_252, zr_253, zr_254, zr_255, zr_256, zr_258, zr_259, zr_262, zr_266, zr_267, zr_269, zr_272, zr_275, zr_281, zr_286, zr_292, zr_293, zr_294, zr_303, zr_305, zr_307, Nat.blt, Nat.succ_eq_add_one, Nat.ble, Nat.beq, Nat.pred, Nat.add_zero, Nat.zero_add, Nat.add_eq, List.toList_toArray, List.length, List.length_cons, List.length_nil, List.take, List.drop, List.append_nil, List.nil_append, List.cons_append, List.map, List.take_succ_cons, List.take_zero, List.take_nil, List.drop_succ_cons, List.drop_zero, List.drop_nil, List.size_toArray, List.getD, id, Op.operands, Call.operands, Value.cells, Array.size_empty]) (hq : q := by (repeat' apply And.intro) <;> first | exact trivial | exact fun h => h | exact fun h => (Bool.and_eq_true_iff.1 h).1 | exact fun h => (Bool.and_eq_true_iff.1 h).2 | exact fun h => (Bool.and_eq_true_iff.1 (Bool.and_eq_true_iff.1 h).1).1 | (intro h; simp_all)) : RunD (cx fn Bz S1 w1 hk1 hs1 hd1) K E0 m0 ops n' M listed σ := by subst hn; exact RunD.takes is hb hs hq h
theorem on (i : Nat) (is : List Nat) {n n' : Nat} (ho : OpS (cx fn Bz S1 w1 hk1 hs1 hd1) σ ops (opAt ops.toList i) σ1) (h : RunD (cx fn Bz S1 w1 hk1 hs1 hd1) K E0 m0 ops n M (listed.setIfInBounds i true) σ') (hn : n' = n + 1 := by rfl) (hi : nthO ops.toList i = some (opAt ops.toList i) := by rfl) (hs : σ1 = σ' := by dsimp only [afterCall, afterM, afterAppN, setV, fwE, En.fw, V.fw, fwL, nthG, pickE, consO, nthE, Nat.pred, afterIdx, afterIdxM, afterRos, afterStE, rnR, rnE, V.rn, rnL, En.rn, dropE, memN, V.names.namesL, V.names, afterApp, afterApp0, put, putE, setE, packV, bindRs, bindR, opn, nsl, id, cond, Nat.beq, Nat.reduceAdd, Nat.add_zero, Nat.zero_add, List.cons_append, List.nil_append, List.append_nil, List.append, List.length_cons, List.length_nil, Str.fk]) (hp : is.map (nthE σ'.E) = E0.map some := by rfl) (hr : Region.ready .any ops listed = [i] := by kernel_rfl) (hd : is.Nodup := by decide) : RunD (cx fn Bz S1 w1 hk1 hs1 hd1) K E0 m0 ops n' M listed σ := by subst hs; subst hn; exact RunD.only i is hr hi ho hp hd h
theorem o2 (i j : Nat) {n n' : Nat} (h1 : RunD1 (cx fn Bz S1 w1 hk1 hs1 hd1) K E0 m0 ops n M listed σ i) (h2 : RunD1 (cx fn Bz S1 w1 hk1 hs1 hd1) K E0 m0 ops n M listed σ j) (hn : n' = n + 1 := by rfl) (hr : Region.ready .any ops listed = [i, j] := by kernel_rfl) : RunD (cx fn Bz S1 w1 hk1 hs1 hd1) K E0 m0 ops n' M listed σ := by
  subst hn
  refine RunD.alts hr (by simp) fun k hk => ?_
  rcases List.mem_cons.1 hk with rfl | hk
  · exact h1
  · obtain rfl := List.mem_singleton.1 hk
    exact h2
theorem on1 (i : Nat) (is : List Nat) {n : Nat} (ho : OpS (cx fn Bz S1 w1 hk1 hs1 hd1) σ ops (opAt ops.toList i) σ1) (h : RunD (cx fn Bz S1 w1 hk1 hs1 hd1) K E0 m0 ops n M (listed.setIfInBounds i true) σ') (hi : nthO ops.toList i = some (opAt ops.toList i) := by rfl) (hs : σ1 = σ' := by dsimp only [afterCall, afterM, afterAppN, setV, fwE, En.fw, V.fw, fwL, nthG, pickE, consO, nthE, Nat.pred, afterIdx, afterIdxM, afterRos, afterStE, rnR, rnE, V.rn, rnL, En.rn, dropE, memN, V.names.namesL, V.names, afterApp, afterApp0, put, putE, setE, packV, bindRs, bindR, opn, nsl, id, cond, Nat.beq, Nat.reduceAdd, Nat.add_zero, Nat.zero_add, List.cons_append, List.nil_append, List.append_nil, List.append, List.length_cons, List.length_nil, Str.fk]) (hp : is.map (nthE σ'.E) = E0.map some := by rfl) (hd : is.Nodup := by decide) : RunD1 (cx fn Bz S1 w1 hk1 hs1 hd1) K E0 m0 ops n M listed σ i := by subst hs; exact RunD1.ofg i is hi ho.g hp hd fun _ => h
theorem tx {n n' : Nat} {M1 M' : List (Nat × En)} (j : Nat) (ht : TkS (cx fn Bz S1 w1 hk1 hs1 hd1) E0 M σ ops listed j σ1 M1) (h : RunD (cx fn Bz S1 w1 hk1 hs1 hd1) K E0 m0 ops n M' (listed.setIfInBounds j true) σ') (hn : n' = n + 1 := by rfl) (hs : σ1 = σ' := by dsimp only [afterCall, afterM, afterAppN, setV, fwE, En.fw, V.fw, fwL, nthG, pickE, consO, nthE, Nat.pred, afterIdx, afterIdxM, afterRos, afterStE, rnR, rnE, V.rn, rnL, En.rn, dropE, memN, V.names.namesL, V.names, afterApp, afterApp0, put, putE, setE, packV, bindRs, bindR, opn, nsl, id, cond, Nat.beq, Nat.reduceAdd, Nat.add_zero, Nat.zero_add, List.cons_append, List.nil_append, List.append_nil, List.append, List.length_cons, List.length_nil, Str.fk]) (hM : M1 = M' := by dsimp only [afterCall, afterM, afterAppN, setV, fwE, En.fw, V.fw, fwL, nthG, pickE, consO, nthE, Nat.pred, afterIdx, afterIdxM, afterRos, afterStE, rnR, rnE, V.rn, rnL, En.rn, dropE, memN, V.names.namesL, V.names, afterApp, afterApp0, put, putE, setE, packV, bindRs, bindR, opn, nsl, id, cond, Nat.beq, Nat.reduceAdd, Nat.add_zero, Nat.zero_add, List.cons_append, List.nil_append, List.append_nil, List.append, List.length_cons, List.length_nil, Str.fk]) : RunD (cx fn Bz S1 w1 hk1 hs1 hd1) K E0 m0 ops n' M listed σ := by subst hs; subst hn; subst hM; exact ht _ _ _ h
theorem dx {α : Type} {dα : Dat α} [s : Str α] [Inhabited α] {t e by' r len d : Nat} {x y : Operand} {ty : TypeId} {pos : String} {after : Array Edge} {i : Int} {xs : List α} {j : Nat} (k : Nat) (hk : k < xs.length) (hi' : nthO ops.toList j = some ⟨some d, .indexAddr t x y, ty, pos, after, none⟩ := by rfl) (hB : takeB ops listed j = true := by kernel_rfl) (hx : ev σ.ρ x = some (.sl r len) := by dsimp only [ev, evs, evsG, cons2, lk, lkE, cond, Nat.beq, evG, stO', V.strip, grd, grdO, nthO, gB, gBV, Nat.pred, wnt, List.toList_toArray, List.cons_append, List.nil_append, List.append_nil]) (hy : ev σ.ρ y = some (.v (.int .i64 i)) := by dsimp only [ev, evs, evsG, cons2, lk, lkE, cond, Nat.beq, evG, stO', V.strip, grd, grdO, nthO, gB, gBV, Nat.pred, wnt, List.toList_toArray, List.cons_append, List.nil_append, List.append_nil]) (hp : lkE (M ++ E0) r = some (.ros α dα xs) := by dsimp only [ev, evs, evsG, cons2, lk, lkE, cond, Nat.beq, evG, stO', V.strip, grd, grdO, nthO, gB, gBV, Nat.pred, wnt, List.toList_toArray, List.cons_append, List.nil_append, List.append_nil]) (hl : len = xs.length := by first | rfl | simp only [List.length_set]) (hi : i = k := by rfl) (ht : ti t = .sl e (Dat.sz α) by' := by rfl) (hd : Nat.blt d σ.n = true := by rfl) : TkS (cx fn Bz S1 w1 hk1 hs1 hd1) E0 M σ ops listed j (afterIdx σ d (nth xs k) s.fk) (afterIdxM σ (nth xs k) s.fk M) := TkS.idx j k hk hi' hB hx hy hp hl hi ht hd
theorem tsx {t d : Nat} {x y : Operand} {i : Int} {s : ByteArray} {ty : TypeId} {pos : String} {after : Array Edge} {j : Nat} (k : Nat) (hk : k < s.size) (hi' : nthO ops.toList j = some ⟨some d, .index t x y, ty, pos, after, none⟩ := by rfl) (hB : takeB ops listed j = true := by kernel_rfl) (hx : ev σ.ρ x = some (.v (.string s)) := by dsimp only [ev, evs, evsG, cons2, lk, lkE, cond, Nat.beq, evG, stO', V.strip, grd, grdO, nthO, gB, gBV, Nat.pred, wnt, List.toList_toArray, List.cons_append, List.nil_append, List.append_nil]) (hy : ev σ.ρ y = some (.v (.int .i64 i)) := by dsimp only [ev, evs, evsG, cons2, lk, lkE, cond, Nat.beq, evG, stO', V.strip, grd, grdO, nthO, gB, gBV, Nat.pred, wnt, List.toList_toArray, List.cons_append, List.nil_append, List.append_nil]) (hi : i = k := by rfl) (ht : ti t = .str := by rfl) (hd : Nat.blt d σ.n = true := by rfl) : TkS (cx fn Bz S1 w1 hk1 hs1 hd1) E0 M σ ops listed j (put d (.v (.int .u8 (byteAt s k).toNat)) σ) M := TkS.sidx j k hk hi' hB hx hy ht hi hd
theorem tqo {t t' d : Nat} {x y : Operand} {k : IntKind} {i i2 : Int} {ty : TypeId} {pos : String} {after : Array Edge} {j : Nat} (hi' : nthO ops.toList j = some ⟨some d, .binOp .quo t x y t', ty, pos, after, none⟩ := by rfl) (hB : takeB ops listed j = true := by kernel_rfl) (hx : ev σ.ρ x = some (.v (.int k i)) := by dsimp only [ev, evs, evsG, cons2, lk, lkE, cond, Nat.beq, evG, stO', V.strip, grd, grdO, nthO, gB, gBV, Nat.pred, wnt, List.toList_toArray, List.cons_append, List.nil_append, List.append_nil]) (hy : ev σ.ρ y = some (.v (.int k i2)) := by dsimp only [ev, evs, evsG, cons2, lk, lkE, cond, Nat.beq, evG, stO', V.strip, grd, grdO, nthO, gB, gBV, Nat.pred, wnt, List.toList_toArray, List.cons_append, List.nil_append, List.append_nil]) (hj : i2 ≠ 0 := by decide) (hd : Nat.blt d σ.n = true := by rfl) : TkS (cx fn Bz S1 w1 hk1 hs1 hd1) E0 M σ ops listed j (put d (.v (.int k (k.wrap (i.tdiv i2)))) σ) M := TkS.quo j hj hi' hB hx hy hd
theorem trm {t t' d : Nat} {x y : Operand} {k : IntKind} {i i2 : Int} {ty : TypeId} {pos : String} {after : Array Edge} {j : Nat} (hi' : nthO ops.toList j = some ⟨some d, .binOp .rem t x y t', ty, pos, after, none⟩ := by rfl) (hB : takeB ops listed j = true := by kernel_rfl) (hx : ev σ.ρ x = some (.v (.int k i)) := by dsimp only [ev, evs, evsG, cons2, lk, lkE, cond, Nat.beq, evG, stO', V.strip, grd, grdO, nthO, gB, gBV, Nat.pred, wnt, List.toList_toArray, List.cons_append, List.nil_append, List.append_nil]) (hy : ev σ.ρ y = some (.v (.int k i2)) := by dsimp only [ev, evs, evsG, cons2, lk, lkE, cond, Nat.beq, evG, stO', V.strip, grd, grdO, nthO, gB, gBV, Nat.pred, wnt, List.toList_toArray, List.cons_append, List.nil_append, List.append_nil]) (hj : i2 ≠ 0 := by decide) (hd : Nat.blt d σ.n = true := by rfl) : TkS (cx fn Bz S1 w1 hk1 hs1 hd1) E0 M σ ops listed j (put d (.v (.int k (i.tmod i2))) σ) M := TkS.rem j hj hi' hB hx hy hd
theorem tca {t t' d : Nat} {x y : Operand} {p q : ByteArray} {ty : TypeId} {pos : String} {after : Array Edge} {j : Nat} (hi' : nthO ops.toList j = some ⟨some d, .binOp .add t x y t', ty, pos, after, none⟩ := by rfl) (hB : takeB ops listed j = true := by kernel_rfl) (hx : ev σ.ρ x = some (.v (.string p)) := by dsimp only [ev, evs, evsG, cons2, lk, lkE, cond, Nat.beq, evG, stO', V.strip, grd, grdO, nthO, gB, gBV, Nat.pred, wnt, List.toList_toArray, List.cons_append, List.nil_append, List.append_nil]) (hy : ev σ.ρ y = some (.v (.string q)) := by dsimp only [ev, evs, evsG, cons2, lk, lkE, cond, Nat.beq, evG, stO', V.strip, grd, grdO, nthO, gB, gBV, Nat.pred, wnt, List.toList_toArray, List.cons_append, List.nil_append, List.append_nil]) (hd : Nat.blt d σ.n = true := by rfl) (hs : p.size + q.size ≤ 9223372036854775807) : TkS (cx fn Bz S1 w1 hk1 hs1 hd1) E0 M σ ops listed j (put d (.v (.string (p ++ q))) σ) M := TkS.cat j hs hi' hB hx hy hd
theorem dn {res : List Re} {k : List It} {S2 : Nat → Prop} {w2 : World} {hk2 : Keep Bz.S0 Bz.w w2} {hs2 : ∀ b, Bz.S0 b → S2 b} {hd2 : ∀ b, S2 b → b < w2.heap.size} (hb : ∀ θ σ a w', R (cx fn Bz S2 w2 hk2 hs2 hd2) θ σ a w' → R (cx fn Bz S1 w1 hk1 hs1 hd1) θ σ a w') (h : Run (cx fn Bz S1 w1 hk1 hs1 hd1) res σ k) (hr : Region.ready .any ops listed = [] := by kernel_rfl) : RunD (cx fn Bz S2 w2 hk2 hs2 hd2) (kQ (cx fn Bz S1 w1 hk1 hs1 hd1) res k .normal) E0 m0 ops 0 M listed σ := fun θ0 η a w _ hR _ _ _ => h_end hr (h _ a w (hb _ _ _ _ hR))
end
section
variable {fn : Func} {Bz : Bs} {S1 : Nat → Prop} {w1 : World} {hk1 : Keep Bz.S0 Bz.w w1} {hs1 : ∀ b, Bz.S0 b → S1 b} {hd1 : ∀ b, S1 b → b < w1.heap.size} {σ : St} {all : Array Oper} {ty : TypeId} {pos : String} {after : Array Edge} {d : Nat}
theorem cl {res : List Re} {f : FuncId} {x : Operand} {cs : List V} {xs : Array Operand} {ts : Array TypeId} {args : List Arg} {vs : List V} (hct : CTs f args res) (hfn : FnOk Tryz.prog f) (hx : ev σ.ρ x = some (.fn f cs) := by dsimp only [ev, evs, evsG, cons2, lk, lkE, cond, Nat.beq, evG, stO', V.strip, grd, grdO, nthO, gB, gBV, Nat.pred, wnt, List.toList_toArray, List.cons_append, List.nil_append, List.append_nil]) (hev : evs σ.ρ xs.toList = some vs := by dsimp only [ev, evs, evsG, cons2, lk, lkE, cond, Nat.beq, evG, stO', V.strip, grd, grdO, nthO, gB, gBV, Nat.pred, wnt, List.toList_toArray, List.cons_append, List.nil_append, List.append_nil]) (hargs : ArgsOk σ.E (vs ++ cs) args := by dsimp only [lk, lkE, cond, Nat.beq, List.cons_append, List.nil_append, List.append_nil, ArgsOk, AsOk, Arg.ok, Ar0.ok, SlOk, payE, En.pay, FkV, agC, cellsAt, En.cells, List.map, Str.fk, id]; repeat' (first | assumption | rfl | exact trivial | apply And.intro | omega)) (hd : Nat.blt d σ.n = true := by rfl) :
    OpS (cx fn Bz S1 w1 hk1 hs1 hd1) σ all ⟨some d, .call { callee := .value x, args := xs, argTypes := ts }, ty, pos, after, none⟩ (afterCall σ d res) := OpS.call hct hfn hx hev hargs hd
theorem clg {res : List Re} {f : FuncId} {x : Operand} {cs : List V} {xs : Array Operand} {ts : Array TypeId} {args : List Arg} {vs : List V} (hct : CTs f args res) (hfn : FnOk Tryz.prog f) (hx : ev σ.ρ x = some (.fn f cs) := by dsimp only [ev, evs, evsG, cons2, lk, lkE, cond, Nat.beq, evG, stO', V.strip, grd, grdO, nthO, gB, gBV, Nat.pred, wnt, List.toList_toArray, List.cons_append, List.nil_append, List.append_nil]) (hev : evs σ.ρ xs.toList = some vs := by dsimp only [ev, evs, evsG, cons2, lk, lkE, cond, Nat.beq, evG, stO', V.strip, grd, grdO, nthO, gB, gBV, Nat.pred, wnt, List.toList_toArray, List.cons_append, List.nil_append, List.append_nil]) (hargs : ArgsOk σ.E (vs ++ cs) args := by dsimp only [lk, lkE, cond, Nat.beq, List.cons_append, List.nil_append, List.append_nil, ArgsOk, AsOk, Arg.ok, Ar0.ok, SlOk, payE, En.pay, FkV, agC, cellsAt, En.cells, List.map, Str.fk, id]; repeat' (first | assumption | rfl | exact trivial | apply And.intro | omega)) (hd : Nat.blt d σ.n = true := by rfl) :
    OpSg (cx fn Bz S1 w1 hk1 hs1 hd1) σ all ⟨some d, .call { callee := .value x, args := xs, argTypes := ts }, ty, pos, after, none⟩ (afterCall σ d res) (ResGd res) := OpSg.call hct hfn hx hev hargs hd
theorem cG {u : Value} {f : FuncId} {x : Operand} {cs : List V} {xs : Array Operand} {ts : Array TypeId} {args : List Arg} {vs : List V} {j : Nat} {want B : Bool} (hB : gB σ.ρ all j want = some B := by dsimp only [ev, evs, evsG, cons2, lk, lkE, cond, Nat.beq, evG, stO', V.strip, grd, grdO, nthO, gB, gBV, Nat.pred, wnt, List.toList_toArray, List.cons_append, List.nil_append, List.append_nil]) (hx : ev σ.ρ x = some (.fn f cs) := by dsimp only [ev, evs, evsG, cons2, lk, lkE, cond, Nat.beq, evG, stO', V.strip, grd, grdO, nthO, gB, gBV, Nat.pred, wnt, List.toList_toArray, List.cons_append, List.nil_append, List.append_nil]) (hvs' : evsG σ.ρ xs.toList = some vs := by dsimp only [ev, evs, evsG, cons2, lk, lkE, cond, Nat.beq, evG, stO', V.strip, grd, grdO, nthO, gB, gBV, Nat.pred, wnt, List.toList_toArray, List.cons_append, List.nil_append, List.append_nil]) (hct : B = true → CTs f args [.c u]) (hfn : FnOk Tryz.prog f) (hside : B = true → sideP B True σ.ρ xs.toList := by intro h; first | exact trivial | (dsimp only [sideP, sdV, ev, lk, cond, Nat.beq, V.side, List.toList_toArray]; (repeat' apply And.intro) <;> first | exact trivial | exact h | exact fun h => h | exact (Bool.and_eq_true_iff.1 h).1 | exact (Bool.and_eq_true_iff.1 h).2 | exact fun h => (Bool.and_eq_true_iff.1 h).1 | exact fun h => (Bool.and_eq_true_iff.1 h).2 | exact fun h => (Bool.and_eq_true_iff.1 (Bool.and_eq_true_iff.1 h).1).1 | (intro h; simp_all))) (hargs : B = true → ArgsOk σ.E (vs ++ cs) args := by intro h; dsimp only [lk, lkE, cond, Nat.beq, List.cons_append, List.nil_append, List.append_nil, ArgsOk, AsOk, Arg.ok, Ar0.ok, SlOk, payE, En.pay, FkV, agC, cellsAt, En.cells, List.map, Str.fk, id]; repeat' (first | assumption | rfl | exact trivial | apply And.intro | omega)) (hd : Nat.blt d σ.n = true := by rfl) :
    OpS (cx fn Bz S1 w1 hk1 hs1 hd1) σ all ⟨some d, .call { callee := .value x, args := xs, argTypes := ts }, ty, pos, after, some (j, want)⟩ (put d (.gd B (.v u)) σ) := have hvs := evsG_spec hvs'
    OpS.callG hB hct hfn hx (fun y hy => by
      have : evG σ.ρ y ∈ xs.toList.map (evG σ.ρ) := List.mem_map.2 ⟨y, hy, rfl⟩
      rw [hvs] at this
      obtain ⟨v, _, hv⟩ := List.mem_map.1 this
      rw [← hv]; rfl) hvs hside hargs hd
theorem cGs {α : Type} {dα : Dat α} {s : @Str α dα} {u : α} {cv : List V} {f : FuncId} {x : Operand} {cs : List V} {xs : Array Operand} {ts : Array TypeId} {args : List Arg} {vs : List V} {j : Nat} {want B : Bool} (hB : gB σ.ρ all j want = some B := by dsimp only [ev, evs, evsG, cons2, lk, lkE, cond, Nat.beq, evG, stO', V.strip, grd, grdO, nthO, gB, gBV, Nat.pred, wnt, List.toList_toArray, List.cons_append, List.nil_append, List.append_nil]) (hx : ev σ.ρ x = some (.fn f cs) := by dsimp only [ev, evs, evsG, cons2, lk, lkE, cond, Nat.beq, evG, stO', V.strip, grd, grdO, nthO, gB, gBV, Nat.pred, wnt, List.toList_toArray, List.cons_append, List.nil_append, List.append_nil]) (hvs' : evsG σ.ρ xs.toList = some vs := by dsimp only [ev, evs, evsG, cons2, lk, lkE, cond, Nat.beq, evG, stO', V.strip, grd, grdO, nthO, gB, gBV, Nat.pred, wnt, List.toList_toArray, List.cons_append, List.nil_append, List.append_nil]) (hct : B = true → CTs f args [.st α dα s u]) (hfn : FnOk Tryz.prog f) (hfl : flatV u s.fk = some cv := by rfl) (hside : B = true → sideP B True σ.ρ xs.toList := by intro h; first | exact trivial | (dsimp only [sideP, sdV, ev, lk, cond, Nat.beq, V.side, List.toList_toArray]; (repeat' apply And.intro) <;> first | exact trivial | exact h | exact fun h => h | exact (Bool.and_eq_true_iff.1 h).1 | exact (Bool.and_eq_true_iff.1 h).2 | exact fun h => (Bool.and_eq_true_iff.1 h).1 | exact fun h => (Bool.and_eq_true_iff.1 h).2 | exact fun h => (Bool.and_eq_true_iff.1 (Bool.and_eq_true_iff.1 h).1).1 | (intro h; simp_all))) (hargs : B = true → ArgsOk σ.E (vs ++ cs) args := by intro h; dsimp only [lk, lkE, cond, Nat.beq, List.cons_append, List.nil_append, List.append_nil, ArgsOk, AsOk, Arg.ok, Ar0.ok, SlOk, payE, En.pay, FkV, agC, cellsAt, En.cells, List.map, Str.fk, id]; repeat' (first | assumption | rfl | exact trivial | apply And.intro | omega)) (hd : Nat.blt d σ.n = true := by rfl) :
    OpS (cx fn Bz S1 w1 hk1 hs1 hd1) σ all ⟨some d, .call { callee := .value x, args := xs, argTypes := ts }, ty, pos, after, some (j, want)⟩ (put d (.gd B (.ag cv)) σ) := OpS.callGs hB hct hfl hfn hx (evsG_spec hvs') hside hargs hd
theorem qg {op : BinOp} {t t' : Nat} {x y : Operand} {vx vy : List V} {cx' cy : List Value} {r b : Bool} {j : Nat} {want B : Bool} (he : B = true → eqP Tryz.prog t cx' cy r) (hB : gB σ.ρ all j want = some B := by dsimp only [ev, evs, evsG, cons2, lk, lkE, cond, Nat.beq, evG, stO', V.strip, grd, grdO, nthO, gB, gBV, Nat.pred, wnt, List.toList_toArray, List.cons_append, List.nil_append, List.append_nil]) (hx : evG σ.ρ x = some (.ag vx) := by dsimp only [ev, evs, evsG, cons2, lk, lkE, cond, Nat.beq, evG, stO', V.strip, grd, grdO, nthO, gB, gBV, Nat.pred, wnt, List.toList_toArray, List.cons_append, List.nil_append, List.append_nil]) (hy : evG σ.ρ y = some (.ag vy) := by dsimp only [ev, evs, evsG, cons2, lk, lkE, cond, Nat.beq, evG, stO', V.strip, grd, grdO, nthO, gB, gBV, Nat.pred, wnt, List.toList_toArray, List.cons_append, List.nil_append, List.append_nil]) (hside : B = true → sideP B True σ.ρ [x, y] := by intro h; first | exact trivial | (dsimp only [sideP, sdV, ev, lk, cond, Nat.beq, V.side, List.toList_toArray]; (repeat' apply And.intro) <;> first | exact trivial | exact h | exact fun h => h | exact (Bool.and_eq_true_iff.1 h).1 | exact (Bool.and_eq_true_iff.1 h).2 | exact fun h => (Bool.and_eq_true_iff.1 h).1 | exact fun h => (Bool.and_eq_true_iff.1 h).2 | exact fun h => (Bool.and_eq_true_iff.1 (Bool.and_eq_true_iff.1 h).1).1 | (intro h; simp_all))) (hcx : plainL vx = some cx' := by rfl) (hcy : plainL vy = some cy := by rfl) (ho : op = .eql ∨ op = .neq := by first | exact .inl rfl | exact .inr rfl) (hb : (match op with | .eql => r | _ => !r) = b := by dsimp only) (hd : Nat.blt d σ.n = true := by rfl) :
    OpS (cx fn Bz S1 w1 hk1 hs1 hd1) σ all ⟨some d, .binOp op t x y t', ty, pos, after, some (j, want)⟩ (put d (.gd B (.v (.bool b))) σ) := by rw [← hb]; exact OpS.eqsG hB hx hy hside hcx hcy he ho hd
theorem sG {t : Nat} {x y : Operand} {i : Int} {s : ByteArray} {j : Nat} {want B : Bool} (k : Nat) (hB : gB σ.ρ all j want = some B := by dsimp only [ev, evs, evsG, cons2, lk, lkE, cond, Nat.beq, evG, stO', V.strip, grd, grdO, nthO, gB, gBV, Nat.pred, wnt, List.toList_toArray, List.cons_append, List.nil_append, List.append_nil]) (hx : evG σ.ρ x = some (.v (.string s)) := by dsimp only [ev, evs, evsG, cons2, lk, lkE, cond, Nat.beq, evG, stO', V.strip, grd, grdO, nthO, gB, gBV, Nat.pred, wnt, List.toList_toArray, List.cons_append, List.nil_append, List.append_nil]) (hy : evG σ.ρ y = some (.v (.int .i64 i)) := by dsimp only [ev, evs, evsG, cons2, lk, lkE, cond, Nat.beq, evG, stO', V.strip, grd, grdO, nthO, gB, gBV, Nat.pred, wnt, List.toList_toArray, List.cons_append, List.nil_append, List.append_nil]) (hk : B = true → k < s.size) (hi : B = true → i = k := by intro _; rfl) (hside : B = true → sideP B True σ.ρ [x, y] := by intro h; first | exact trivial | (dsimp only [sideP, sdV, ev, lk, cond, Nat.beq, V.side, List.toList_toArray]; (repeat' apply And.intro) <;> first | exact trivial | exact h | exact fun h => h | exact (Bool.and_eq_true_iff.1 h).1 | exact (Bool.and_eq_true_iff.1 h).2 | exact fun h => (Bool.and_eq_true_iff.1 h).1 | exact fun h => (Bool.and_eq_true_iff.1 h).2 | exact fun h => (Bool.and_eq_true_iff.1 (Bool.and_eq_true_iff.1 h).1).1 | (intro h; simp_all))) (ht : ti t = .str := by rfl) (hd : Nat.blt d σ.n = true := by rfl) :
    OpS (cx fn Bz S1 w1 hk1 hs1 hd1) σ all ⟨some d, .index t x y, ty, pos, after, some (j, want)⟩ (put d (.gd B (.v (.int .u8 (byteAt s k).toNat))) σ) := OpS.sidxG hB hx hy hside ht hi hk hd
theorem cm {fid : FuncId} {mk m0 nn : Nat} {E0 F0 E1 : List (Nat × En)} {args r : List V} (f fk is js rest : List Nat) {x : Operand} {cs : List V} {xs : Array Operand} {ts : Array TypeId} {vs : List V} {G0 : Prop} (hct : CTMs fid mk m0 E0 F0 args E1 nn r G0) (hfn : FnOk Tryz.prog fid) (hx : ev σ.ρ x = some (.fn fid cs) := by dsimp only [ev, evs, evsG, cons2, lk, lkE, cond, Nat.beq, evG, stO', V.strip, grd, grdO, nthO, gB, gBV, Nat.pred, wnt, List.toList_toArray, List.cons_append, List.nil_append, List.append_nil]) (hev : evs σ.ρ xs.toList = some vs := by dsimp only [ev, evs, evsG, cons2, lk, lkE, cond, Nat.beq, evG, stO', V.strip, grd, grdO, nthO, gB, gBV, Nat.pred, wnt, List.toList_toArray, List.cons_append, List.nil_append, List.append_nil]) (hva : renL f args = some (vs ++ cs) := by rfl) (hfm : Nat.beq f.length m0 = true := by rfl) (hfk : f.take mk = fk := by rfl) (hE0 : SubE f σ.E is E0 := by first | exact trivial | (dsimp only [SubE, V.ren, renL, En.ren, nthE, nthF, lk, cond, Nat.beq, Nat.pred, List.length, List.length_nil, Nat.reduceAdd, List.getElem?_cons_zero, List.getElem?_cons_succ, pinsF, borL, borN, List.cons_append, List.nil_append, List.append_nil]; (repeat' apply And.intro) <;> first | rfl | exact trivial)) (hF0 : SubE f (borL σ.E) js F0 := by first | exact trivial | (dsimp only [SubE, V.ren, renL, En.ren, nthE, nthF, lk, cond, Nat.beq, Nat.pred, List.length, List.length_nil, Nat.reduceAdd, List.getElem?_cons_zero, List.getElem?_cons_succ, pinsF, borL, borN, List.cons_append, List.nil_append, List.append_nil]; (repeat' apply And.intro) <;> first | rfl | exact trivial)) (hFs : isFs F0 = true := by rfl) (hdj : djB is js = true := by rfl) (hnd : (is ++ rest).Nodup := by decide) (hrest : rest.map (nthE σ.E) = (pickE σ.E rest).map some := by rfl) (hd : Nat.blt d σ.n = true := by rfl) (hlt : allLt σ.m f = true := by rfl) (hmk : Nat.ble mk m0 = true := by rfl) (hE1 : isCks E1 = true := by rfl) :
    OpSg (cx fn Bz S1 w1 hk1 hs1 hd1) σ all ⟨some d, .call { callee := .value x, args := xs, argTypes := ts }, ty, pos, after, none⟩ (afterM σ d fk E1 nn r rest) G0 := OpS.callM hct hfn (fun g hg => hs1 g (Bz.gin g hg)) f fk is js rest hx hev hva hfm hfk hE0 hF0 hFs hdj hnd hrest hd hlt hmk hE1
theorem ce {res : List Re} {k : List It} {r : List Oper} {res2 : Value → List Re} {ok : Bool} {f : FuncId} {x : Operand} {cs : List V} {xs : Array Operand} {ts : Array TypeId} {args : List Arg} {vs : List V} (hct : CTEs f args res2 ok) (hfn : FnOk Tryz.prog f) {σ' : Value → St} (h : ∀ u, ErrIs ok u → Run (cx fn Bz S1 w1 hk1 hs1 hd1) res (σ' u) (.ops r all :: k)) (hx : ev σ.ρ x = some (.fn f cs) := by dsimp only [ev, evs, evsG, cons2, lk, lkE, cond, Nat.beq, evG, stO', V.strip, grd, grdO, nthO, gB, gBV, Nat.pred, wnt, List.toList_toArray, List.cons_append, List.nil_append, List.append_nil]) (hev : evs σ.ρ xs.toList = some vs := by dsimp only [ev, evs, evsG, cons2, lk, lkE, cond, Nat.beq, evG, stO', V.strip, grd, grdO, nthO, gB, gBV, Nat.pred, wnt, List.toList_toArray, List.cons_append, List.nil_append, List.append_nil]) (hargs : ArgsOk σ.E (vs ++ cs) args := by dsimp only [lk, lkE, cond, Nat.beq, List.cons_append, List.nil_append, List.append_nil, ArgsOk, AsOk, Arg.ok, Ar0.ok, SlOk, payE, En.pay, FkV, agC, cellsAt, En.cells, List.map, Str.fk, id]; repeat' (first | assumption | rfl | exact trivial | apply And.intro | omega)) (hd : Nat.blt d σ.n = true := by rfl) (hs : ∀ u, afterCall σ d (res2 u) = σ' u := by intro u; dsimp only [afterCall, afterM, afterAppN, setV, fwE, En.fw, V.fw, fwL, nthG, pickE, consO, nthE, Nat.pred, afterIdx, afterIdxM, afterRos, afterStE, rnR, rnE, V.rn, rnL, En.rn, dropE, memN, V.names.namesL, V.names, afterApp, afterApp0, put, putE, setE, packV, bindRs, bindR, opn, nsl, id, cond, Nat.beq, Nat.reduceAdd, Nat.add_zero, Nat.zero_add, List.cons_append, List.nil_append, List.append_nil, List.append, List.length_cons, List.length_nil, Str.fk]) :
    Run (cx fn Bz S1 w1 hk1 hs1 hd1) res σ (.ops (⟨some d, .call { callee := .value x, args := xs, argTypes := ts }, ty, pos, after, none⟩ :: r) all :: k) := Run.callE hct hfn hx hev hargs hd (fun u hu => by rw [hs u]; exact h u hu)
theorem er {t t' : Nat} {x : Operand} {u : Value} {ok : Bool} (hu : ErrIs ok u) (hx : ev σ.ρ x = some (.v u) := by dsimp only [ev, evs, evsG, cons2, lk, lkE, cond, Nat.beq, evG, stO', V.strip, grd, grdO, nthO, gB, gBV, Nat.pred, wnt, List.toList_toArray, List.cons_append, List.nil_append, List.append_nil]) (ht : Tryz.prog.underlying t = some (.interface (Tryz.prog.methodsAt t)) := by kernel_rfl) (hd : Nat.blt d σ.n = true := by rfl) :
    OpS (cx fn Bz S1 w1 hk1 hs1 hd1) σ all ⟨some d, .binOp .neq t x (.const .nilIface) t', ty, pos, after, none⟩ (put d (.v (.bool (!ok))) σ) := OpS.errne hx hu ht hd
theorem rG {t t' : Nat} {x y : Operand} {k : IntKind} {i i2 : Int} {j : Nat} {want B : Bool} (hB : gB σ.ρ all j want = some B := by dsimp only [ev, evs, evsG, cons2, lk, lkE, cond, Nat.beq, evG, stO', V.strip, grd, grdO, nthO, gB, gBV, Nat.pred, wnt, List.toList_toArray, List.cons_append, List.nil_append, List.append_nil]) (hx : evG σ.ρ x = some (.v (.int k i)) := by dsimp only [ev, evs, evsG, cons2, lk, lkE, cond, Nat.beq, evG, stO', V.strip, grd, grdO, nthO, gB, gBV, Nat.pred, wnt, List.toList_toArray, List.cons_append, List.nil_append, List.append_nil]) (hy : evG σ.ρ y = some (.v (.int k i2)) := by dsimp only [ev, evs, evsG, cons2, lk, lkE, cond, Nat.beq, evG, stO', V.strip, grd, grdO, nthO, gB, gBV, Nat.pred, wnt, List.toList_toArray, List.cons_append, List.nil_append, List.append_nil]) (hside : B = true → sideP B True σ.ρ [x, y] := by intro h; first | exact trivial | (dsimp only [sideP, sdV, ev, lk, cond, Nat.beq, V.side, List.toList_toArray]; (repeat' apply And.intro) <;> first | exact trivial | exact h | exact fun h => h | (intro h; simp_all))) (hj : B = true → i2 ≠ 0 := by intro _; decide) (hd : Nat.blt d σ.n = true := by rfl) :
    OpS (cx fn Bz S1 w1 hk1 hs1 hd1) σ all ⟨some d, .binOp .rem t x y t', ty, pos, after, some (j, want)⟩ (put d (.gd B (.v (.int k (i.tmod i2)))) σ) := OpS.remG hB hx hy hside hj hd
theorem ix {α : Type} {dα : Dat α} [s : Str α] [Inhabited α] {t e by' r len : Nat} {x y : Operand} {i : Int} {xs : List α} (k : Nat) (hk : k < xs.length) (hx : ev σ.ρ x = some (.sl r len) := by dsimp only [ev, evs, evsG, cons2, lk, lkE, cond, Nat.beq, evG, stO', V.strip, grd, grdO, nthO, gB, gBV, Nat.pred, wnt, List.toList_toArray, List.cons_append, List.nil_append, List.append_nil]) (hy : ev σ.ρ y = some (.v (.int .i64 i)) := by dsimp only [ev, evs, evsG, cons2, lk, lkE, cond, Nat.beq, evG, stO', V.strip, grd, grdO, nthO, gB, gBV, Nat.pred, wnt, List.toList_toArray, List.cons_append, List.nil_append, List.append_nil]) (hp : lkE σ.E r = some (.ros α dα xs) := by dsimp only [ev, evs, evsG, cons2, lk, lkE, cond, Nat.beq, evG, stO', V.strip, grd, grdO, nthO, gB, gBV, Nat.pred, wnt, List.toList_toArray, List.cons_append, List.nil_append, List.append_nil]) (hl : len = xs.length := by first | rfl | simp only [List.length_set]) (hi : i = k := by rfl) (ht : ti t = .sl e (Dat.sz α) by' := by rfl) (hd : Nat.blt d σ.n = true := by rfl) :
    OpS (cx fn Bz S1 w1 hk1 hs1 hd1) σ all ⟨some d, .indexAddr t x y, ty, pos, after, none⟩ (afterIdx σ d (nth xs k) s.fk) := OpS.index hx hy hp hl ht hd hi hk
theorem sx {t : Nat} {x y : Operand} {i : Int} {s : ByteArray} (k : Nat) (hk : k < s.size) (hx : ev σ.ρ x = some (.v (.string s)) := by dsimp only [ev, evs, evsG, cons2, lk, lkE, cond, Nat.beq, evG, stO', V.strip, grd, grdO, nthO, gB, gBV, Nat.pred, wnt, List.toList_toArray, List.cons_append, List.nil_append, List.append_nil]) (hy : ev σ.ρ y = some (.v (.int .i64 i)) := by dsimp only [ev, evs, evsG, cons2, lk, lkE, cond, Nat.beq, evG, stO', V.strip, grd, grdO, nthO, gB, gBV, Nat.pred, wnt, List.toList_toArray, List.cons_append, List.nil_append, List.append_nil]) (hi : i = k := by rfl) (ht : ti t = .str := by rfl) (hd : Nat.blt d σ.n = true := by rfl) :
    OpS (cx fn Bz S1 w1 hk1 hs1 hd1) σ all ⟨some d, .index t x y, ty, pos, after, none⟩ (put d (.v (.int .u8 (byteAt s k).toNat)) σ) := OpS.sidx hx hy ht hd hi hk
theorem ca {t t' : Nat} {x y : Operand} {p q : ByteArray} (hx : ev σ.ρ x = some (.v (.string p)) := by dsimp only [ev, evs, evsG, cons2, lk, lkE, cond, Nat.beq, evG, stO', V.strip, grd, grdO, nthO, gB, gBV, Nat.pred, wnt, List.toList_toArray, List.cons_append, List.nil_append, List.append_nil]) (hy : ev σ.ρ y = some (.v (.string q)) := by dsimp only [ev, evs, evsG, cons2, lk, lkE, cond, Nat.beq, evG, stO', V.strip, grd, grdO, nthO, gB, gBV, Nat.pred, wnt, List.toList_toArray, List.cons_append, List.nil_append, List.append_nil]) (hd : Nat.blt d σ.n = true := by rfl) (hs : p.size + q.size ≤ 9223372036854775807) :
    OpS (cx fn Bz S1 w1 hk1 hs1 hd1) σ all ⟨some d, .binOp .add t x y t', ty, pos, after, none⟩ (put d (.v (.string (p ++ q))) σ) := OpS.cat hx hy hd hs
theorem ap {α : Type} {dα : Dat α} [s : @Str α dα] {t e by' r q n len T : Nat} {x y : Operand} {z : Value} {xs : List α} (ys : List α) {cs : List V} (hx : ev σ.ρ x = some (.sl r len) := by dsimp only [ev, evs, evsG, cons2, lk, lkE, cond, Nat.beq, evG, stO', V.strip, grd, grdO, nthO, gB, gBV, Nat.pred, wnt, List.toList_toArray, List.cons_append, List.nil_append, List.append_nil]) (hr : lkE σ.E r = some (.own α dα xs) := by dsimp only [ev, evs, evsG, cons2, lk, lkE, cond, Nat.beq, evG, stO', V.strip, grd, grdO, nthO, gB, gBV, Nat.pred, wnt, List.toList_toArray, List.cons_append, List.nil_append, List.append_nil]) (hy : ev σ.ρ y = some (.sl q n) := by dsimp only [ev, evs, evsG, cons2, lk, lkE, cond, Nat.beq, evG, stO', V.strip, grd, grdO, nthO, gB, gBV, Nat.pred, wnt, List.toList_toArray, List.cons_append, List.nil_append, List.append_nil]) (hq : lkE σ.E q = some (.lit cs T n) := by dsimp only [ev, evs, evsG, cons2, lk, lkE, cond, Nat.beq, evG, stO', V.strip, grd, grdO, nthO, gB, gBV, Nat.pred, wnt, List.toList_toArray, List.cons_append, List.nil_append, List.append_nil]) (ht : ti t = .sl e (Dat.sz α) by' := by rfl) (hz : zr e = some z := by rfl) (hm : xs.length + ys.length ≤ 9223372036854775807 := by first | omega | (simp only [List.length_cons, List.length_nil]; first | omega | exact om) | exact om) (hl : len = xs.length := by first | rfl | simp only [List.length_set])
    (hzs : z.cells.size = Dat.sz α := by rfl) (hd : Nat.blt d σ.n = true := by rfl) (hyl : ys.length = n := by rfl) (hnm : V.names.namesL cs = [] := by rfl) (h1 : oneL cs = true := by rfl) (hg : ElOk σ.E (Dat.sz α) dα s.fk ys cs) (hb : (xs.length + ys.length) * by' ≤ 140737488355328) :
    OpS (cx fn Bz S1 w1 hk1 hs1 hd1) σ all ⟨some d, .call { callee := .builtin .append, args := #[x, y], argTypes := #[t, t] }, ty, pos, after, none⟩ (afterApp σ d r dα (xs ++ ys)) := OpS.app hx hr hl hy hq ht hz hzs hd hyl hnm hg h1 hb hm
theorem a0 {α : Type} {dα : Dat α} [s : @Str α dα] {t e by' q n T : Nat} {x y : Operand} {z : Value} (ys : List α) {cs : List V} (hx : ev σ.ρ x = some (.v (.slice none 0 0)) := by dsimp only [ev, evs, evsG, cons2, lk, lkE, cond, Nat.beq, evG, stO', V.strip, grd, grdO, nthO, gB, gBV, Nat.pred, wnt, List.toList_toArray, List.cons_append, List.nil_append, List.append_nil]) (hy : ev σ.ρ y = some (.sl q n) := by dsimp only [ev, evs, evsG, cons2, lk, lkE, cond, Nat.beq, evG, stO', V.strip, grd, grdO, nthO, gB, gBV, Nat.pred, wnt, List.toList_toArray, List.cons_append, List.nil_append, List.append_nil]) (hq : lkE σ.E q = some (.lit cs T n) := by dsimp only [ev, evs, evsG, cons2, lk, lkE, cond, Nat.beq, evG, stO', V.strip, grd, grdO, nthO, gB, gBV, Nat.pred, wnt, List.toList_toArray, List.cons_append, List.nil_append, List.append_nil]) (ht : ti t = .sl e (Dat.sz α) by' := by rfl) (hz : zr e = some z := by rfl) (hm : ys.length ≤ 9223372036854775807 := by first | omega | (simp only [List.length_cons, List.length_nil]; first | omega | exact om) | exact om)
    (hzs : z.cells.size = Dat.sz α := by rfl) (hd : Nat.blt d σ.n = true := by rfl) (hyl : ys.length = n := by rfl) (hnm : V.names.namesL cs = [] := by rfl) (h1 : oneL cs = true := by rfl) (hg : ElOk σ.E (Dat.sz α) dα s.fk ys cs) (hb : ys.length * by' ≤ 140737488355328) :
    OpS (cx fn Bz S1 w1 hk1 hs1 hd1) σ all ⟨some d, .call { callee := .builtin .append, args := #[x, y], argTypes := #[t, t] }, ty, pos, after, none⟩ (afterApp0 σ d dα ys) := OpS.app0 hx hy hq ht hz hzs hd hyl hnm hg h1 hb hm
theorem ma {α : Type} {dα : Dat α} [s : @Str α dα] {t e by' : Nat} {x y : Operand} {z : Value} {i j : Int} (m : Nat) (z0 : α) (hx : ev σ.ρ x = some (.v (.int .i64 i)) := by dsimp only [ev, evs, evsG, cons2, lk, lkE, cond, Nat.beq, evG, stO', V.strip, grd, grdO, nthO, gB, gBV, Nat.pred, wnt, List.toList_toArray, List.cons_append, List.nil_append, List.append_nil]) (hy : ev σ.ρ y = some (.v (.int .i64 j)) := by dsimp only [ev, evs, evsG, cons2, lk, lkE, cond, Nat.beq, evG, stO', V.strip, grd, grdO, nthO, gB, gBV, Nat.pred, wnt, List.toList_toArray, List.cons_append, List.nil_append, List.append_nil]) (ht : ti t = .sl e (Dat.sz α) by' := by rfl) (hz : zr e = some z := by rfl) (hm : m ≤ 9223372036854775807 := by omega) (hb : by' * m ≤ 281474976710656 := by omega) (hi : i = m := by rfl) (hj : j = m := by rfl) (hzs : z.cells.size = Dat.sz α := by rfl) (ho : ElOk σ.E (Dat.sz α) dα s.fk [z0] (z.cells.toList.map V.v) := by dsimp only [Value.cells, List.toList_toArray, List.map]; dsimp only [ElOk, SlOwn, payOE, En.payO, lkE, cond, Nat.beq, FkO, agC, List.map, Str.fk, id, List.take, List.drop, List.take_succ_cons, List.drop_succ_cons, List.take_zero, List.drop_zero]; repeat' (first | assumption | exact gi _ | exact gs _ | rfl | exact trivial | apply And.intro | omega)) (hd : Nat.blt d σ.n = true := by rfl) :
    OpS (cx fn Bz S1 w1 hk1 hs1 hd1) σ all ⟨some d, .makeSlice t x y, ty, pos, after, none⟩ (afterApp0 σ d dα (List.replicate m z0)) := OpS.make m z0 hx hy hi hj ht hz hzs ho hb hm hd
theorem l0 {t e sz by' : Nat} (ht : ti t = .sl e sz by' := by rfl) (hd : Nat.blt d σ.n = true := by rfl) : OpS (cx fn Bz S1 w1 hk1 hs1 hd1) σ all ⟨some d, .buildSlice t 0 #[], ty, pos, after, none⟩ ⟨σ.n, σ.m + 1, (d, .sl σ.m 0) :: σ.ρ, (σ.m, .lit [] e 0) :: σ.E⟩ := OpS.lit0 ht hd
theorem rg {t : Nat} {x : Operand} {s : ByteArray} (hx : ev σ.ρ x = some (.v (.string s)) := by dsimp only [ev, evs, evsG, cons2, lk, lkE, cond, Nat.beq, evG, stO', V.strip, grd, grdO, nthO, gB, gBV, Nat.pred, wnt, List.toList_toArray, List.cons_append, List.nil_append, List.append_nil]) (ht : ti t = .str := by rfl) (hd : Nat.blt d σ.n = true := by rfl) :
    OpS (cx fn Bz S1 w1 hk1 hs1 hd1) σ all ⟨some d, .range t x, ty, pos, after, none⟩ ⟨σ.n, σ.m + 1, (d, .pt σ.m 0) :: σ.ρ, (σ.m, .itr s 0) :: σ.E⟩ := OpS.range hx ht hd
theorem nx {res : List Re} {k : List It} {rest : List Oper} {x : Operand} {r : Nat} {s : ByteArray} {p : Nat} {σ1 σ2 : St} (h1 : p < s.size → Run (cx fn Bz S1 w1 hk1 hs1 hd1) res σ1 (.ops rest all :: k)) (h2 : ¬ p < s.size → Run (cx fn Bz S1 w1 hk1 hs1 hd1) res σ2 (.ops rest all :: k)) (ha : ascii s) (hx : ev σ.ρ x = some (.pt r 0) := by dsimp only [ev, evs, evsG, cons2, lk, lkE, cond, Nat.beq, evG, stO', V.strip, grd, grdO, nthO, gB, gBV, Nat.pred, wnt, List.toList_toArray, List.cons_append, List.nil_append, List.append_nil]) (he : lkE σ.E r = some (.itr s p) := by dsimp only [ev, evs, evsG, cons2, lk, lkE, cond, Nat.beq, evG, stO', V.strip, grd, grdO, nthO, gB, gBV, Nat.pred, wnt, List.toList_toArray, List.cons_append, List.nil_append, List.append_nil])
    (e1 : (⟨σ.n, σ.m, (d, .tu [.v (.bool true), .v (.int .i64 p), .v (.int .i32 (byteAt s p).toNat)]) :: σ.ρ, putE r (r, .itr s (p + 1)) σ.E⟩ : St) = σ1 := by dsimp only [afterCall, afterM, afterAppN, setV, fwE, En.fw, V.fw, fwL, nthG, pickE, consO, nthE, Nat.pred, afterIdx, afterIdxM, afterRos, afterStE, rnR, rnE, V.rn, rnL, En.rn, dropE, memN, V.names.namesL, V.names, afterApp, afterApp0, put, putE, setE, packV, bindRs, bindR, opn, nsl, id, cond, Nat.beq, Nat.reduceAdd, Nat.add_zero, Nat.zero_add, List.cons_append, List.nil_append, List.append_nil, List.append, List.length_cons, List.length_nil, Str.fk]) (e2 : (⟨σ.n, σ.m, (d, .tu [.v (.bool false)]) :: σ.ρ, σ.E⟩ : St) = σ2 := by dsimp only [afterCall, afterM, afterAppN, setV, fwE, En.fw, V.fw, fwL, nthG, pickE, consO, nthE, Nat.pred, afterIdx, afterIdxM, afterRos, afterStE, rnR, rnE, V.rn, rnL, En.rn, dropE, memN, V.names.namesL, V.names, afterApp, afterApp0, put, putE, setE, packV, bindRs, bindR, opn, nsl, id, cond, Nat.beq, Nat.reduceAdd, Nat.add_zero, Nat.zero_add, List.cons_append, List.nil_append, List.append_nil, List.append, List.length_cons, List.length_nil, Str.fk]) (hd : Nat.blt d σ.n = true := by rfl) :
    Run (cx fn Bz S1 w1 hk1 hs1 hd1) res σ (.ops (⟨some d, .next x true, ty, pos, after, none⟩ :: rest) all :: k) := Run.next hx he ha hd (by rw [e1]; exact h1) (by rw [e2]; exact h2)
theorem ts {t u e by' : Nat} {x : Operand} {v : V} (xs : List UInt8) (hx : ev σ.ρ x = some v := by dsimp only [ev, evs, evsG, cons2, lk, lkE, cond, Nat.beq, evG, stO', V.strip, grd, grdO, nthO, gB, gBV, Nat.pred, wnt, List.toList_toArray, List.cons_append, List.nil_append, List.append_nil]) (hs : SlOk σ.E UInt8 instDatUInt8 xs v := by dsimp only [SlOk, payE, En.pay, lkE, cond, Nat.beq]; first | exact ⟨rfl, rfl⟩ | exact ⟨by exact om, rfl⟩) (ht : ti t = .sl e 1 by' := by rfl) (he : ti e = .int .u8 := by rfl) (hu : ti u = .str := by rfl) (hd : Nat.blt d σ.n = true := by rfl) :
    OpS (cx fn Bz S1 w1 hk1 hs1 hd1) σ all ⟨some d, .convert t u x, ty, pos, after, none⟩ (put d (.v (.string (bstr xs))) σ) := OpS.toStr xs hx hs ht he hu hd
theorem tb {t u e by' : Nat} {x : Operand} {s : ByteArray} (hx : ev σ.ρ x = some (.v (.string s)) := by dsimp only [ev, evs, evsG, cons2, lk, lkE, cond, Nat.beq, evG, stO', V.strip, grd, grdO, nthO, gB, gBV, Nat.pred, wnt, List.toList_toArray, List.cons_append, List.nil_append, List.append_nil]) (ht : ti u = .sl e 1 by' := by rfl) (he : ti e = .int .u8 := by rfl) (hu : ti t = .str := by rfl) (hd : Nat.blt d σ.n = true := by rfl) (hs : s.size ≤ maxLen) :
    OpS (cx fn Bz S1 w1 hk1 hs1 hd1) σ all ⟨some d, .convert t u x, ty, pos, after, none⟩ (afterRos σ d instDatUInt8 (sbytes s)) := OpS.toBytes hx hs ht he hu hd
theorem cu {t : Nat} {x : Operand} {lo hi : Option Operand} {s : ByteArray} (l h : Nat) (hx : ev σ.ρ x = some (.v (.string s)) := by dsimp only [ev, evs, evsG, cons2, lk, lkE, cond, Nat.beq, evG, stO', V.strip, grd, grdO, nthO, gB, gBV, Nat.pred, wnt, List.toList_toArray, List.cons_append, List.nil_append, List.append_nil]) (hl : bnd σ.ρ 0 l lo := by dsimp only [bnd, ev, lk, cond, Nat.beq]; first | rfl | exact ⟨_, rfl, rfl⟩ | exact ⟨_, rfl, by exact om⟩) (hh : bnd σ.ρ s.size h hi := by dsimp only [bnd, ev, lk, cond, Nat.beq]; first | rfl | exact ⟨_, rfl, rfl⟩ | exact ⟨_, rfl, by exact om⟩) (ht : ti t = .str := by rfl) (hd : Nat.blt d σ.n = true := by rfl) (h1 : l ≤ h := by exact om) (h2 : h ≤ s.size := by exact om) :
    OpS (cx fn Bz S1 w1 hk1 hs1 hd1) σ all ⟨some d, .slice t x lo hi none, ty, pos, after, none⟩ (put d (.v (.string (cutS s l h))) σ) := OpS.cut l h hx hl hh h1 h2 ht hd
theorem pa {α : Type} {dα : Dat α} {t e by' r len : Nat} {x : Operand} {lo hi : Option Operand} {xs : List α} (l h : Nat) (hx : ev σ.ρ x = some (.sl r len) := by dsimp only [ev, evs, evsG, cons2, lk, lkE, cond, Nat.beq, evG, stO', V.strip, grd, grdO, nthO, gB, gBV, Nat.pred, wnt, List.toList_toArray, List.cons_append, List.nil_append, List.append_nil]) (hp : lkE σ.E r = some (.ros α dα xs) := by dsimp only [ev, evs, evsG, cons2, lk, lkE, cond, Nat.beq, evG, stO', V.strip, grd, grdO, nthO, gB, gBV, Nat.pred, wnt, List.toList_toArray, List.cons_append, List.nil_append, List.append_nil]) (hlen : len = xs.length := by rfl) (hl : bnd σ.ρ 0 l lo := by dsimp only [bnd, ev, lk, cond, Nat.beq]; first | rfl | exact ⟨_, rfl, rfl⟩ | exact ⟨_, rfl, by exact om⟩) (hh : bnd σ.ρ xs.length h hi := by dsimp only [bnd, ev, lk, cond, Nat.beq]; first | rfl | exact ⟨_, rfl, rfl⟩ | exact ⟨_, rfl, by exact om⟩) (ht : ti t = .sl e (Dat.sz α) by' := by rfl) (hd : Nat.blt d σ.n = true := by rfl) (h1 : l ≤ h := by exact om) (h2 : h ≤ xs.length := by exact om) :
    OpS (cx fn Bz S1 w1 hk1 hs1 hd1) σ all ⟨some d, .slice t x lo hi none, ty, pos, after, none⟩ (afterRos σ d dα (cutL xs l h)) := OpS.part l h hx hp hlen hl hh h1 h2 ht hd
theorem gx {t len e g : Nat} {x y : Operand} {i : Int} {α : Type} [Inhabited α] (mk : α → Value) (xs : List α) (k : Nat) (hGV : ∀ w, Gw w → GV g (xs.map mk) w) (hk : k < xs.length) (hgl : g ∈ gls := by decide) (hx : ev σ.ρ x = some (.v (.pointer (some ⟨g, 0, none⟩))) := by dsimp only [ev, evs, evsG, cons2, lk, lkE, cond, Nat.beq, evG, stO', V.strip, grd, grdO, nthO, gB, gBV, Nat.pred, wnt, List.toList_toArray, List.cons_append, List.nil_append, List.append_nil]) (hy : ev σ.ρ y = some (.v (.int .i64 i)) := by dsimp only [ev, evs, evsG, cons2, lk, lkE, cond, Nat.beq, evG, stO', V.strip, grd, grdO, nthO, gB, gBV, Nat.pred, wnt, List.toList_toArray, List.cons_append, List.nil_append, List.append_nil]) (hi : i = k := by rfl) (hlen : xs.length = len := by rfl) (ht : chkArr Tryz.prog t len e = true := by kernel_rfl) (hd : Nat.blt d σ.n = true := by rfl) :
    OpS (cx fn Bz S1 w1 hk1 hs1 hd1) σ all ⟨some d, .indexAddr t x y, ty, pos, after, none⟩ ⟨σ.n, σ.m + 1, (d, .pt σ.m 0) :: σ.ρ, (σ.m, .roc [.v (mk (nth xs k))]) :: σ.E⟩ := OpS.gidx mk xs hGV (fun _ _ => hs1 _ (Bz.gin g hgl)) hx hy hi hk hlen ht hd
theorem gsl {t len e g : Nat} {x : Operand} (xs : List ByteArray) (hGV : ∀ w, Gw w → GV g (xs.map Value.string) w) (hgl : g ∈ gls := by decide) (hx : ev σ.ρ x = some (.v (.pointer (some ⟨g, 0, none⟩))) := by dsimp only [ev, evs, evsG, cons2, lk, lkE, cond, Nat.beq, evG, stO', V.strip, grd, grdO, nthO, gB, gBV, Nat.pred, wnt, List.toList_toArray, List.cons_append, List.nil_append, List.append_nil]) (ht : chkArr Tryz.prog t len e = true := by kernel_rfl) (hlen : xs.length = len := by rfl) (hm : Nat.ble len 1000000 = true := by rfl) (hgd : xs.all (fun s => Nat.ble s.size 1000) = true := by decide) (hd : Nat.blt d σ.n = true := by rfl) :
    OpS (cx fn Bz S1 w1 hk1 hs1 hd1) σ all ⟨some d, .slice t x none none none, ty, pos, after, none⟩ (afterRos σ d instDatByteArray xs) := OpS.gslice Value.string xs hGV (hs1 g (Bz.gin g hgl)) hx ht hlen rfl (Nat.le_of_ble_eq_true hm) (fun S w y hy => ⟨rfl, by have := Nat.le_of_ble_eq_true (List.all_eq_true.1 hgd y hy); show y.size ≤ maxLen; unfold maxLen; omega⟩) hd
end
section
variable {fn : Func} {Bz : Bs} {S1 : Nat → Prop} {w1 : World} {hk1 : Keep Bz.S0 Bz.w w1} {hs1 : ∀ b, Bz.S0 b → S1 b} {hd1 : ∀ b, S1 b → b < w1.heap.size} {res : List Re} {σ : St} {k : List It}
theorem rz {w : World} {hG : Gw w} {hk1 : Keep (Old w) w w1} {hs1 : ∀ b, Old w b → S1 b} {rs : List ResultVar} {vs : List V} {res' : List Re} (hq : res = res') (hr : (cx fn (Bs.old w hG) S1 w1 hk1 hs1 hd1).fn.results.toList = rs := by rfl) (hl : Nat.ble rs.length 4 = true := by rfl) (hv : rvsV ti σ.ρ σ.E rs = some vs := by dsimp only [ti_1, ti_2, ti_3, ti_4, ti_5, ti_6, ti_7, ti_8, ti_9, ti_10, ti_11, ti_12, ti_13, ti_14, ti_15, ti_16, ti_17, ti_18, ti_19, ti_21, ti_22, ti_23, ti_24, ti_25, ti_26, ti_27, ti_28, ti_29, ti_30, ti_31, ti_32, ti_33, ti_34, ti_35, ti_36, ti_37, ti_38, ti_39, ti_40, ti_41, ti_42, ti_43, ti_44, ti_45, ti_46, ti_47, ti_48, ti_49, ti_50, ti_51, ti_52, ti_53, ti_54, ti_55, ti_56, ti_57, ti_58, ti_60, ti_61, ti_62, ti_63, ti_65, ti_66, ti_67, ti_69, ti_70, ti_71, ti_73, ti_74, ti_75, ti_76, ti_77, ti_78, ti_79, ti_80, ti_81, ti_82, ti_84, ti_85, ti_86, ti_87, ti_88, ti_89, ti_90, ti_91, ti_92, ti_93, ti_94, ti_95, ti_96, ti_97, ti_98, ti_99, ti_100, ti_101, ti_102, ti_103, ti_104, ti_105, ti_108, ti_109, ti_110, ti_111, ti_112, ti_113, ti_114, ti_116, ti_117, ti_118, ti_119, ti_120, ti_121, ti_122, ti_123, ti_124, ti_125, ti_126, ti_127, ti_128, ti_129, ti_130, ti_131, ti_132, ti_133, ti_134, ti_135, ti_136, ti_137, ti_138, ti_139, ti_140, ti_141, ti_142, ti_143, ti_144, ti_145, ti_146, ti_147, ti_148, ti_149, ti_150, ti_151, ti_152, ti_153, ti_154, ti_155, ti_156, ti_157, ti_158, ti_159, ti_160, ti_161, ti_162, ti_163, ti_164, ti_165, ti_166, ti_167, ti_168, ti_169, ti_170, ti_171, ti_172, ti_173, ti_174, ti_175, ti_176, ti_177, ti_178, ti_179, ti_180, ti_181, ti_182, ti_183, ti_187, ti_188, ti_189, ti_190, ti_191, ti_192, ti_193, ti_195, ti_196, ti_197, ti_198, ti_199, ti_200, ti_201, ti_202, ti_203, ti_204, ti_205, ti_206, ti_207, ti_208, ti_209, ti_210, ti_211, ti_212, ti_213, ti_215, ti_217, ti_218, ti_219, ti_220, ti_221, ti_222, ti_223, ti_224, ti_225, ti_226, ti_227, ti_229, ti_230, ti_231, ti_232, ti_233, ti_234, ti_235, ti_236, ti_237, ti_238, ti_239, ti_240, ti_241, ti_242, ti_243, ti_244, ti_245, ti_246, ti_247, ti_248, ti_249, ti_250, ti_251, ti_252, ti_253, ti_254, ti_255, ti_256, ti_258, ti_259, ti_262, ti_266, ti_267, ti_269, ti_272, ti_275, ti_281, ti_286, ti_290, ti_292, ti_293, ti_294, ti_303, ti_305, ti_307, rvsV, rvV, ldV, ldE, ldC, tuAt, lkE, cons2, lk, cond, Nat.beq, Nat.pred, Nat.ble, List.length, List.length_cons, List.length_nil, List.take, List.drop, List.take_succ_cons, List.drop_zero, List.take_zero, Nat.reduceAdd]) (hn : (namesR vs res').Nodup := by dsimp only [namesR, agC, V.names.namesL, List.append_nil, List.nil_append, List.cons_append, List.map]; decide) (ho : ResOk σ.E vs res' := by dsimp only [ResOk, Re.ok, SlOwn, payOE, En.payO, lkE, cond, Nat.beq, FkO, agC, List.map, Str.fk, id]; repeat' (first | assumption | rfl | exact trivial | apply And.intro | omega)) : Run (cx fn (Bs.old w hG) S1 w1 hk1 hs1 hd1) res σ (.code .ret :: k) := Run.ret hr hl hv (by rw [hq]; exact ho) (by rw [hq]; exact hn) (fun _ _ h => h)
end
theorem bt {α : Type} {b : Bool} {x y : α} (h : b = true) : (bif b then x else y) = x := by rw [h]; rfl
theorem bf {α : Type} {b : Bool} {x y : α} (h : b = false) : (bif b then x else y) = y := by rw [h]; rfl
theorem su {f is : List Nat} {σ σ2 : St} (h : Sub f is σ σ2 := by dsimp only [Sub, SubR, SubE, V.ren, renL, En.ren, nthE, nthF, lk, cond, Nat.beq, Nat.pred, List.length, List.length_nil, Nat.reduceAdd, List.getElem?_cons_zero, List.getElem?_cons_succ]; (repeat' apply And.intro) <;> first | rfl | exact trivial | (rw [List.length_set])) : Sub f is σ σ2 := h
theorem gdt {p : Prop} (h : p := by dsimp only [ElOk, SlOwn, payOE, En.payO, lkE, cond, Nat.beq, FkO, agC, List.map, Str.fk, id, List.take, List.drop, List.take_succ_cons, List.drop_succ_cons, List.take_zero, List.drop_zero]; repeat' (first | assumption | rfl | exact trivial | apply And.intro | omega)) : p := h
theorem bifI {b : Bool} {x y : Int} (hx : I64 x) (hy : I64 y) : I64 (bif b then x else y) := by cases b <;> assumption
theorem bifS {b : Bool} {x y : ByteArray} (hx : x.size ≤ maxLen) (hy : y.size ≤ maxLen) : (bif b then x else y).size ≤ maxLen := by cases b <;> assumption
theorem bts (a : Array UInt8) : (⟨a⟩ : ByteArray).size = a.size := rfl
theorem szt {p : Prop} (h : p := by first | assumption | omega | (simp only [ByteArray.size_append, bts, List.size_toArray, List.length_cons, List.length_nil]; omega)) : p := h
theorem en {f : FuncId} {fn : Func} {code : Code} {n : Nat} {args : List Arg} {res : List Re} {σ : St} {H : Prop} (hf : Tryz.prog.funcs[f]? = some fn) (hn : fn.ntmps = n) (h : ∀ w (hG : Gw w), H → Run (cx fn (Bs.old w hG) (Old w) w (Keep.refl _ _) (fun _ h => h) (fun _ h => h)) res σ [.code code]) (hb : fn.body = some code := by rfl) (hl : Nat.ble args.length n = true := by rfl) (hi : ini n args = σ := by dsimp only [ncV, szA, cvV, rnR, rnE, V.rn, rnL, En.rn, dropE, memN, afterStE, an, stK, cdK, opK, gdK, nvK, cellsO, zcells, blK, bsK, stW, stV, ptK, litD, litC, pkV, wrV, binV, unV, ldV, faW, faV, agO, blV, exV, mfV, lenV, caV, fillT, fillS, stO', sdV, cons2, grdO, gBV, gPw, gPk, gGo, gK, gK1, gK2, tkK, tk1, rvsV, rvV, Nat.reduceAdd, Nat.reduceSub, Nat.reduceMul, advN, adv1, stO, litV, fillV, splice, pv, ev, evs, lk, lkE, setE, putE, put, cond, ldC, ldE, nthN, tuAt, bin, bi, bs, bb, ikq, TI.cells, V.cells, V.one, oneL, toBlk, grd, nthO, beqB, gB, wnt, gOp, adG, adG1, pickV, sideP, evG, V.side, V.strip, afterCall, afterIdx, afterApp, afterApp0, packV, bindRs, bindR, bindGs, bindG, bindAs, bindA, ini, slotsV, opn, nsl, adD, setAll, Str.fk, ti_1, ti_2, ti_3, ti_4, ti_5, ti_6, ti_7, ti_8, ti_9, ti_10, ti_11, ti_12, ti_13, ti_14, ti_15, ti_16, ti_17, ti_18, ti_19, ti_21, ti_22, ti_23, ti_24, ti_25, ti_26, ti_27, ti_28, ti_29, ti_30, ti_31, ti_32, ti_33, ti_34, ti_35, ti_36, ti_37, ti_38, ti_39, ti_40, ti_41, ti_42, ti_43, ti_44, ti_45, ti_46, ti_47, ti_48, ti_49, ti_50, ti_51, ti_52, ti_53, ti_54, ti_55, ti_56, ti_57, ti_58, ti_60, ti_61, ti_62, ti_63, ti_65, ti_66, ti_67, ti_69, ti_70, ti_71, ti_73, ti_74, ti_75, ti_76, ti_77, ti_78, ti_79, ti_80, ti_81, ti_82, ti_84, ti_85, ti_86, ti_87, ti_88, ti_89, ti_90, ti_91, ti_92, ti_93, ti_94, ti_95, ti_96, ti_97, ti_98, ti_99, ti_100, ti_101, ti_102, ti_103, ti_104, ti_105, ti_108, ti_109, ti_110, ti_111, ti_112, ti_113, ti_114, ti_116, ti_117, ti_118, ti_119, ti_120, ti_121, ti_122, ti_123, ti_124, ti_125, ti_126, ti_127, ti_128, ti_129, ti_130, ti_131, ti_132, ti_133, ti_134, ti_135, ti_136, ti_137, ti_138, ti_139, ti_140, ti_141, ti_142, ti_143, ti_144, ti_145, ti_146, ti_147, ti_148, ti_149, ti_150, ti_151, ti_152, ti_153, ti_154, ti_155, ti_156, ti_157, ti_158, ti_159, ti_160, ti_161, ti_162, ti_163, ti_164, ti_165, ti_166, ti_167, ti_168, ti_169, ti_170, ti_171, ti_172, ti_173, ti_174, ti_175, ti_176, ti_177, ti_178, ti_179, ti_180, ti_181, ti_182, ti_183, ti_187, ti_188, ti_189, ti_190, ti_191, ti_192, ti_193, ti_195, ti_196, ti_197, ti_198, ti_199, ti_200, ti_201, ti_202, ti_203, ti_204, ti_205, ti_206, ti_207, ti_208, ti_209, ti_210, ti_211, ti_212, ti_213, ti_215, ti_217, ti_218, ti_219, ti_220, ti_221, ti_222, ti_223, ti_224, ti_225, ti_226, ti_227, ti_229, ti_230, ti_231, ti_232, ti_233, ti_234, ti_235, ti_236, ti_237, ti_238, ti_239, ti_240, ti_241, ti_242, ti_243, ti_244, ti_245, ti_246, ti_247, ti_248, ti_249, ti_250, ti_251, ti_252, ti_253, ti_254, ti_255, ti_256, ti_258, ti_259, ti_262, ti_266, ti_267, ti_269, ti_272, ti_275, ti_281, ti_286, ti_290, ti_292, ti_293, ti_294, ti_303, ti_305, ti_307, zr_1, zr_2, zr_3, zr_4, zr_5, zr_6, zr_7, zr_8, zr_9, zr_10, zr_11, zr_12, zr_13, zr_14, zr_15, zr_16, zr_17, zr_18, zr_19, zr_21, zr_22, zr_23, zr_24, zr_25, zr_26, zr_27, zr_28, zr_29, zr_30, zr_31, zr_32, zr_33, zr_34, zr_35, zr_36, zr_37, zr_38, zr_39, zr_40, zr_41, zr_42, zr_43, zr_44, zr_45, zr_46, zr_47, zr_48, zr_49, zr_50, zr_51, zr_52, zr_53, zr_54, zr_55, zr_56, zr_57, zr_58, zr_60, zr_61, zr_62, zr_63, zr_65, zr_66, zr_67, zr_69, zr_70, zr_71, zr_73, zr_74, zr_75, zr_76, zr_77, zr_78, zr_79, zr_80, zr_81, zr_82, zr_84, zr_85, zr_86, zr_87, zr_88, zr_89, zr_90, zr_91, zr_92, zr_93, zr_94, zr_95, zr_96, zr_97, zr_98, zr_99, zr_100, zr_101, zr_102, zr_103, zr_104, zr_105, zr_108, zr_109, zr_110, zr_111, zr_112, zr_113, zr_114, zr_116, zr_117, zr_118, zr_119, zr_120, zr_121, zr_122, zr_123, zr_124, zr_125, zr_126, zr_127, zr_128, zr_129, zr_130, zr_131, zr_132, zr_133, zr_134, zr_135, zr_136, zr_137, zr_138, zr_139, zr_140, zr_141, zr_142, zr_143, zr_144, zr_145, zr_146, zr_147, zr_148, zr_149, zr_150, zr_151, zr_152, zr_153, zr_154, zr_155, zr_156, zr_157, zr_158, zr_159, zr_160, zr_161, zr_162, zr_163, zr_164, zr_165, zr_166, zr_167, zr_168, zr_169, zr_170, zr_171, zr_172, zr_173, zr_174, zr_175, zr_176, zr_177, zr_178, zr_179, zr_180, zr_181, zr_182, zr_183, zr_187, zr_188, zr_189, zr_190, zr_191, zr_192, zr_193, zr_195, zr_196, zr_197, zr_198, zr_199, zr_200, zr_201, zr_202, zr_203, zr_204, zr_205, zr_206, zr_207, zr_208, zr_209, zr_210, zr_211, zr_212, zr_213, zr_215, zr_217, zr_218, zr_219, zr_220, zr_221, zr_222, zr_223, zr_224, zr_225, zr_226, zr_227, zr_229, zr_230, zr_231, zr_232, zr_233, zr_234, zr_235, zr_236, zr_237, zr_238, zr_239, zr_240, zr_241, zr_242, zr_243, zr_244, zr_245, zr_246, zr_247, zr_248, zr_249, zr_250, zr_251, zr_252, zr_253, zr_254, zr_255, zr_256, zr_258, zr_259, zr_262, zr_266, zr_267, zr_269, zr_272, zr_275, zr_281, zr_286, zr_292, zr_293, zr_294, zr_303, zr_305, zr_307, Nat.blt, Nat.succ_eq_add_one, Nat.ble, Nat.beq, Nat.pred, Nat.add_zero, Nat.zero_add, Nat.add_eq, List.toList_toArray, List.length, List.length_cons, List.length_nil, List.take, List.drop, List.append_nil, List.nil_append, List.cons_append, List.map, List.take_succ_cons, List.take_zero, List.take_nil, List.drop_succ_cons, List.drop_zero, List.drop_nil, List.size_toArray, List.getD, id, Op.operands, Call.operands, Value.cells, Array.size_empty]) (hgd : ArgsGd args = H := by dsimp only [ArgsGd]) : CTs f args res :=
  CT.of sysok hf hb hn hl (by rw [hi, hgd]; exact h)
theorem enM {G0 : Prop} {f : FuncId} {fn : Func} {code : Code} {n mk m0 nn : Nat} {E0 F0 E1 : List (Nat × En)} {args r : List V} (hf : Tryz.prog.funcs[f]? = some fn) (hn : fn.ntmps = n) (h : ∀ S w p hG hb hg, Run (cx fn (Bs.mut S w hG hb hg p mk E1 nn r G0) S w (Keep.refl _ _) (fun _ h => h) hb) [] ⟨n, m0, slotsV 0 args, E0 ++ F0 ++ pinsF p 0 mk⟩ [.code code]) (hb : fn.body = some code := by rfl) (hl : Nat.ble args.length n = true := by rfl) (hmk : Nat.ble mk m0 = true := by rfl) (hE : isCks E0 = true := by rfl) : CTMs f mk m0 E0 F0 args E1 nn r G0 :=
  CTM.of sysok hf hb hn hl hmk hE fun S w p hG hb hg => h S w p hG hb hg
theorem rzE {G0 G1 : Prop} {fn : Func} {S : Nat → Prop} {w : World} {hG : ∀ w', Keep S w w' → Gw w'} {hb : ∀ b, S b → b < w.heap.size} {hg : ∀ g ∈ gls, S g} {p : Nat → Loc} {mk nn : Nat} {E1 E1' : List (Nat × En)} {r r' : List V} {S1 : Nat → Prop} {w1 : World} {hk1 : Keep S w w1} {hs1 : ∀ b, S b → S1 b} {hd1 : ∀ b, S1 b → b < w1.heap.size} {res : List Re} {σ : St} {rs : List ResultVar} {vs : List V} (f is : List Nat) (hg1 : G1) (hG1 : G0 = G1) (hE : E1 = E1') (hr' : r = r') (hr : fn.results.toList = rs := by rfl) (hl : Nat.ble rs.length 4 = true := by rfl) (hv : rvsV ti σ.ρ σ.E rs = some vs := by dsimp only [ti_1, ti_2, ti_3, ti_4, ti_5, ti_6, ti_7, ti_8, ti_9, ti_10, ti_11, ti_12, ti_13, ti_14, ti_15, ti_16, ti_17, ti_18, ti_19, ti_21, ti_22, ti_23, ti_24, ti_25, ti_26, ti_27, ti_28, ti_29, ti_30, ti_31, ti_32, ti_33, ti_34, ti_35, ti_36, ti_37, ti_38, ti_39, ti_40, ti_41, ti_42, ti_43, ti_44, ti_45, ti_46, ti_47, ti_48, ti_49, ti_50, ti_51, ti_52, ti_53, ti_54, ti_55, ti_56, ti_57, ti_58, ti_60, ti_61, ti_62, ti_63, ti_65, ti_66, ti_67, ti_69, ti_70, ti_71, ti_73, ti_74, ti_75, ti_76, ti_77, ti_78, ti_79, ti_80, ti_81, ti_82, ti_84, ti_85, ti_86, ti_87, ti_88, ti_89, ti_90, ti_91, ti_92, ti_93, ti_94, ti_95, ti_96, ti_97, ti_98, ti_99, ti_100, ti_101, ti_102, ti_103, ti_104, ti_105, ti_108, ti_109, ti_110, ti_111, ti_112, ti_113, ti_114, ti_116, ti_117, ti_118, ti_119, ti_120, ti_121, ti_122, ti_123, ti_124, ti_125, ti_126, ti_127, ti_128, ti_129, ti_130, ti_131, ti_132, ti_133, ti_134, ti_135, ti_136, ti_137, ti_138, ti_139, ti_140, ti_141, ti_142, ti_143, ti_144, ti_145, ti_146, ti_147, ti_148, ti_149, ti_150, ti_151, ti_152, ti_153, ti_154, ti_155, ti_156, ti_157, ti_158, ti_159, ti_160, ti_161, ti_162, ti_163, ti_164, ti_165, ti_166, ti_167, ti_168, ti_169, ti_170, ti_171, ti_172, ti_173, ti_174, ti_175, ti_176, ti_177, ti_178, ti_179, ti_180, ti_181, ti_182, ti_183, ti_187, ti_188, ti_189, ti_190, ti_191, ti_192, ti_193, ti_195, ti_196, ti_197, ti_198, ti_199, ti_200, ti_201, ti_202, ti_203, ti_204, ti_205, ti_206, ti_207, ti_208, ti_209, ti_210, ti_211, ti_212, ti_213, ti_215, ti_217, ti_218, ti_219, ti_220, ti_221, ti_222, ti_223, ti_224, ti_225, ti_226, ti_227, ti_229, ti_230, ti_231, ti_232, ti_233, ti_234, ti_235, ti_236, ti_237, ti_238, ti_239, ti_240, ti_241, ti_242, ti_243, ti_244, ti_245, ti_246, ti_247, ti_248, ti_249, ti_250, ti_251, ti_252, ti_253, ti_254, ti_255, ti_256, ti_258, ti_259, ti_262, ti_266, ti_267, ti_269, ti_272, ti_275, ti_281, ti_286, ti_290, ti_292, ti_293, ti_294, ti_303, ti_305, ti_307, rvsV, rvV, ldV, ldE, ldC, tuAt, lkE, cons2, lk, cond, Nat.beq, Nat.pred, Nat.ble, List.length, List.length_cons, List.length_nil, List.take, List.drop, List.take_succ_cons, List.drop_zero, List.take_zero, Nat.reduceAdd])
    (hs : SubE f σ.E is (E1' ++ pinsF p 0 mk) := by first | exact trivial | (dsimp only [SubE, V.ren, renL, En.ren, nthE, nthF, lk, cond, Nat.beq, Nat.pred, List.length, List.length_nil, Nat.reduceAdd, List.getElem?_cons_zero, List.getElem?_cons_succ, pinsF, borL, borN, List.cons_append, List.nil_append, List.append_nil]; (repeat' apply And.intro) <;> first | rfl | exact trivial)) (hlen : Nat.beq f.length (mk + nn) = true := by rfl) (hn : is.Nodup := by decide) (hres : renL f r' = some vs := by rfl) : Run (cx fn (Bs.mut S w hG hb hg p mk E1 nn r G0) S1 w1 hk1 hs1 hd1) res σ [] := by
  subst hE
  subst hr'
  exact Run.endM hr hl hv (hG1 ▸ hg1) (fun _ _ _ h => h) hs1 hk1 hb f is hlen hs hn hres
theorem wrapN2 {i : Nat} (h : i + 2 ≤ 9223372036854775807) : IntKind.i64.wrap ((i : Int) + 2) = ((i + 2 : Nat) : Int) := by
  rw [IntWalk.i64_in _ (by omega)]; omega
theorem wrapN {i : Nat} (h : i + 1 ≤ 9223372036854775807) : IntKind.i64.wrap ((i : Int) + 1) = ((i + 1 : Nat) : Int) := by
  rw [IntWalk.i64_in _ (by omega)]; omega

end Go.Proofs.YtnjidaonbcbphaaGreatDoor.Fw
/-
  Contracts of library functions at this program, laid by the shelf. No condition.
-/
namespace Go.Proofs
open Go.Shelf
def Tryz.laysM171_ren : Go.Shelf.Ren := ⟨fun | 171 => 129 | 243 => 179 | 246 => 206 | 283 => 228 | 284 => 229 | 285 => 230 | 286 => 231 | 129 => 243 | 317 => 242 | 318 => 244 | 319 => 245 | 320 => 246 | 337 => 253 | 338 => 254 | n => n, fun | 3 => 3 | 9 => 9 | 2 => 2 | 4 => 4 | 171 => 280 | 0 => 0 | 53 => 281 | 37 => 51 | 5 => 5 | 173 => 284 | 212 => 296 | 51 => 234 | 20 => 20 | 213 => 297 | 46 => 230 | 232 => 312 | 233 => 313 | n => n, fun | 17 => 8 | 18 => 11 | 19 => 12 | n => n⟩
theorem Tryz.laysM171 : Go.Proofs.LaysM.n171 Tryz.prog Tryz.laysM171_ren := {
  mixed := by kernel_rfl
  f129 := Tryz.func243.trans (congrArg some (by kernel_rfl))
  f171 := Tryz.func129.trans (congrArg some (by kernel_rfl))
  f243 := Tryz.func179.trans (congrArg some (by kernel_rfl))
  f246 := Tryz.func206.trans (congrArg some (by kernel_rfl))
  f283 := Tryz.func228.trans (congrArg some (by kernel_rfl))
  f284 := Tryz.func229.trans (congrArg some (by kernel_rfl))
  f285 := Tryz.func230.trans (congrArg some (by kernel_rfl))
  f286 := Tryz.func231.trans (congrArg some (by kernel_rfl))
  f317 := Tryz.func242.trans (congrArg some (by kernel_rfl))
  f318 := Tryz.func244.trans (congrArg some (by kernel_rfl))
  f319 := Tryz.func245.trans (congrArg some (by kernel_rfl))
  f320 := Tryz.func246.trans (congrArg some (by kernel_rfl))
  f337 := Tryz.func253.trans (congrArg some (by kernel_rfl))
  f338 := Tryz.func254.trans (congrArg some (by kernel_rfl))
  t0 := Tryz.underlying0
  a0 := Tryz.isAgg0
  z0 := Tryz.sizeOf0
  v0 := Tryz.zeroValue0
  t2 := Tryz.underlying2
  a2 := Tryz.isAgg2
  z2 := Tryz.sizeOf2
  v2 := Tryz.zeroValue2
  t3 := Tryz.underlying3
  a3 := Tryz.isAgg3
  z3 := Tryz.sizeOf3
  v3 := Tryz.zeroValue3
  t4 := Tryz.underlying4
  a4 := Tryz.isAgg4
  z4 := Tryz.sizeOf4
  v4 := Tryz.zeroValue4
  t5 := Tryz.underlying5
  a5 := Tryz.isAgg5
  z5 := Tryz.sizeOf5
  v5 := Tryz.zeroValue5
  t9 := Tryz.underlying9
  a9 := Tryz.isAgg9
  z9 := Tryz.sizeOf9
  v9 := Tryz.zeroValue9
  t20 := Tryz.underlying20
  a20 := Tryz.isAgg20
  z20 := Tryz.sizeOf20
  v20 := Tryz.zeroValue20
  t37 := Tryz.underlying51
  a37 := Tryz.isAgg51
  z37 := Tryz.sizeOf51
  v37 := Tryz.zeroValue51
  t46 := Tryz.underlying230
  a46 := Tryz.isAgg230
  z46 := Tryz.sizeOf230
  v46 := Tryz.zeroValue230
  t51 := Tryz.underlying234
  a51 := Tryz.isAgg234
  z51 := Tryz.sizeOf234
  v51 := Tryz.zeroValue234
  t53 := Tryz.underlying281
  a53 := Tryz.isAgg281
  z53 := Tryz.sizeOf281
  v53 := Tryz.zeroValue281
  t171 := Tryz.underlying280
  a171 := Tryz.isAgg280
  z171 := Tryz.sizeOf280
  v171 := Tryz.zeroValue280
  t173 := Tryz.underlying284
  a173 := Tryz.isAgg284
  z173 := Tryz.sizeOf284
  v173 := Tryz.zeroValue284
  t212 := Tryz.underlying296
  a212 := Tryz.isAgg296
  z212 := Tryz.sizeOf296
  v212 := Tryz.zeroValue296
  t213 := Tryz.underlying297
  a213 := Tryz.isAgg297
  z213 := Tryz.sizeOf297
  t232 := Tryz.underlying312
  a232 := Tryz.isAgg312
  z232 := Tryz.sizeOf312
  v232 := Tryz.zeroValue312
  t233 := Tryz.underlying313
  a233 := Tryz.isAgg313
  z233 := Tryz.sizeOf313
  v233 := Tryz.zeroValue313
  g17 := by kernel_rfl
  g18 := by kernel_rfl
  g19 := by kernel_rfl
  i0 := by kernel_rfl
  i2 := by kernel_rfl
  i3 := by kernel_rfl
  i4 := by kernel_rfl
  i5 := by kernel_rfl
  i9 := by kernel_rfl
  i20 := by kernel_rfl
  i37 := by kernel_rfl
  i46 := by kernel_rfl
  i51 := by kernel_rfl
  i53 := by kernel_rfl
  i171 := by kernel_rfl
  i173 := by kernel_rfl
  i212 := by kernel_rfl
  i232 := by kernel_rfl
  i233 := by kernel_rfl
  m17 := by kernel_rfl
  m18 := by kernel_rfl
  m19 := by kernel_rfl }
open Go.RowKit Go.Sort Go.Lib in
/-- strconv.Itoa: "Itoa is equivalent to FormatInt(int64(i), 10).": i's DECIMAL NUMERAL ('Lib.itoa': a '-' where i is negative, then the digits), FOR EVERY int. The world behind the call: the world before it, new blocks behind the heap (the library's 'var a [24]byte'), draws. (LAID: no walk: one application.) -/
theorem Tryz.strconv_Itoa (n : Int) (h0 : -9223372036854775808 ≤ n) (h1 : n ≤ 9223372036854775807) (w : World) (htab : Lib.TabIs Tryz.prog w "internal/strconv.uint64pow10" .u64 Lib.pow10Tab) :
    Calls Tryz.prog 129 #[.int .i64 n] w fun e w' => e = .returned (.string ⟨(Lib.itoa n).toArray⟩) ∧ ∃ k os, w' = grow (w.drewN k) os := Any.strconv_Itoa Tryz.laysM171 n h0 h1 w htab
def Tryz.laysC172_ren : Go.Shelf.Ren := ⟨fun | 172 => 152 | 244 => 193 | 245 => 194 | 247 => 215 | 279 => 216 | 280 => 217 | 281 => 218 | 282 => 219 | 287 => 234 | 316 => 235 | 171 => 129 | 205 => 236 | 321 => 249 | 322 => 250 | 243 => 179 | 246 => 206 | 283 => 228 | 284 => 229 | 285 => 230 | 286 => 231 | 129 => 243 | 317 => 242 | 318 => 244 | 319 => 245 | 320 => 246 | 337 => 253 | 338 => 254 | n => n, fun | 9 => 9 | 3 => 3 | 75 => 185 | 76 => 186 | 4 => 4 | 5 => 5 | 167 => 259 | 37 => 51 | 0 => 0 | 85 => 260 | 2 => 2 | 168 => 262 | 53 => 281 | 175 => 287 | 46 => 230 | 210 => 290 | 127 => 286 | 145 => 305 | 143 => 303 | 21 => 21 | 171 => 280 | 173 => 284 | 212 => 296 | 51 => 234 | 20 => 20 | 213 => 297 | 232 => 312 | 233 => 313 | 80 => 254 | n => n, fun | 15 => 4 | 16 => 5 | 17 => 8 | 18 => 11 | 19 => 12 | n => n⟩
theorem Tryz.laysC172 : Go.Proofs.LaysC.n172 Tryz.prog Tryz.laysC172_ren := {
  mixed := by kernel_rfl
  f129 := Tryz.func243.trans (congrArg some (by kernel_rfl))
  f171 := Tryz.func129.trans (congrArg some (by kernel_rfl))
  f172 := Tryz.func152.trans (congrArg some (by kernel_rfl))
  f205 := Tryz.func236.trans (congrArg some (by kernel_rfl))
  f243 := Tryz.func179.trans (congrArg some (by kernel_rfl))
  f244 := Tryz.func193.trans (congrArg some (by kernel_rfl))
  f245 := Tryz.func194.trans (congrArg some (by kernel_rfl))
  f246 := Tryz.func206.trans (congrArg some (by kernel_rfl))
  f247 := Tryz.func215.trans (congrArg some (by kernel_rfl))
  f279 := Tryz.func216.trans (congrArg some (by kernel_rfl))
  f280 := Tryz.func217.trans (congrArg some (by kernel_rfl))
  f281 := Tryz.func218.trans (congrArg some (by kernel_rfl))
  f282 := Tryz.func219.trans (congrArg some (by kernel_rfl))
  f283 := Tryz.func228.trans (congrArg some (by kernel_rfl))
  f284 := Tryz.func229.trans (congrArg some (by kernel_rfl))
  f285 := Tryz.func230.trans (congrArg some (by kernel_rfl))
  f286 := Tryz.func231.trans (congrArg some (by kernel_rfl))
  f287 := Tryz.func234.trans (congrArg some (by kernel_rfl))
  f316 := Tryz.func235.trans (congrArg some (by kernel_rfl))
  f317 := Tryz.func242.trans (congrArg some (by kernel_rfl))
  f318 := Tryz.func244.trans (congrArg some (by kernel_rfl))
  f319 := Tryz.func245.trans (congrArg some (by kernel_rfl))
  f320 := Tryz.func246.trans (congrArg some (by kernel_rfl))
  f321 := Tryz.func249.trans (congrArg some (by kernel_rfl))
  f322 := Tryz.func250.trans (congrArg some (by kernel_rfl))
  f337 := Tryz.func253.trans (congrArg some (by kernel_rfl))
  f338 := Tryz.func254.trans (congrArg some (by kernel_rfl))
  t0 := Tryz.underlying0
  a0 := Tryz.isAgg0
  z0 := Tryz.sizeOf0
  v0 := Tryz.zeroValue0
  t2 := Tryz.underlying2
  a2 := Tryz.isAgg2
  z2 := Tryz.sizeOf2
  v2 := Tryz.zeroValue2
  t3 := Tryz.underlying3
  a3 := Tryz.isAgg3
  z3 := Tryz.sizeOf3
  v3 := Tryz.zeroValue3
  t4 := Tryz.underlying4
  a4 := Tryz.isAgg4
  z4 := Tryz.sizeOf4
  v4 := Tryz.zeroValue4
  t5 := Tryz.underlying5
  a5 := Tryz.isAgg5
  z5 := Tryz.sizeOf5
  v5 := Tryz.zeroValue5
  t9 := Tryz.underlying9
  a9 := Tryz.isAgg9
  z9 := Tryz.sizeOf9
  v9 := Tryz.zeroValue9
  t20 := Tryz.underlying20
  a20 := Tryz.isAgg20
  z20 := Tryz.sizeOf20
  v20 := Tryz.zeroValue20
  t21 := Tryz.underlying21
  a21 := Tryz.isAgg21
  z21 := Tryz.sizeOf21
  v21 := Tryz.zeroValue21
  t37 := Tryz.underlying51
  a37 := Tryz.isAgg51
  z37 := Tryz.sizeOf51
  v37 := Tryz.zeroValue51
  t46 := Tryz.underlying230
  a46 := Tryz.isAgg230
  z46 := Tryz.sizeOf230
  v46 := Tryz.zeroValue230
  t51 := Tryz.underlying234
  a51 := Tryz.isAgg234
  z51 := Tryz.sizeOf234
  v51 := Tryz.zeroValue234
  t53 := Tryz.underlying281
  a53 := Tryz.isAgg281
  z53 := Tryz.sizeOf281
  v53 := Tryz.zeroValue281
  t75 := Tryz.underlying185
  a75 := Tryz.isAgg185
  z75 := Tryz.sizeOf185
  v75 := Tryz.zeroValue185
  t76 := Tryz.underlying186
  a76 := Tryz.isAgg186
  z76 := Tryz.sizeOf186
  v76 := Tryz.zeroValue186
  t85 := Tryz.underlying260
  a85 := Tryz.isAgg260
  z85 := Tryz.sizeOf260
  v85 := Tryz.zeroValue260
  t127 := Tryz.underlying286
  a127 := Tryz.isAgg286
  z127 := Tryz.sizeOf286
  v127 := Tryz.zeroValue286
  t143 := Tryz.underlying303
  a143 := Tryz.isAgg303
  z143 := Tryz.sizeOf303
  v143 := Tryz.zeroValue303
  t145 := Tryz.underlying305
  a145 := Tryz.isAgg305
  z145 := Tryz.sizeOf305
  v145 := Tryz.zeroValue305
  t167 := Tryz.underlying259
  a167 := Tryz.isAgg259
  z167 := Tryz.sizeOf259
  v167 := Tryz.zeroValue259
  t168 := Tryz.underlying262
  a168 := Tryz.isAgg262
  z168 := Tryz.sizeOf262
  v168 := Tryz.zeroValue262
  t171 := Tryz.underlying280
  a171 := Tryz.isAgg280
  z171 := Tryz.sizeOf280
  v171 := Tryz.zeroValue280
  t173 := Tryz.underlying284
  a173 := Tryz.isAgg284
  z173 := Tryz.sizeOf284
  v173 := Tryz.zeroValue284
  t175 := Tryz.underlying287
  a175 := Tryz.isAgg287
  z175 := Tryz.sizeOf287
  v175 := Tryz.zeroValue287
  t210 := Tryz.underlying290
  a210 := Tryz.isAgg290
  z210 := Tryz.sizeOf290
  v210 := Tryz.zeroValue290
  t212 := Tryz.underlying296
  a212 := Tryz.isAgg296
  z212 := Tryz.sizeOf296
  v212 := Tryz.zeroValue296
  t213 := Tryz.underlying297
  a213 := Tryz.isAgg297
  z213 := Tryz.sizeOf297
  t232 := Tryz.underlying312
  a232 := Tryz.isAgg312
  z232 := Tryz.sizeOf312
  v232 := Tryz.zeroValue312
  t233 := Tryz.underlying313
  a233 := Tryz.isAgg313
  z233 := Tryz.sizeOf313
  v233 := Tryz.zeroValue313
  g15 := by kernel_rfl
  g16 := by kernel_rfl
  g17 := by kernel_rfl
  g18 := by kernel_rfl
  g19 := by kernel_rfl
  t80 := Tryz.underlying254
  a80 := Tryz.isAgg254
  z80 := Tryz.sizeOf254
  v80 := Tryz.zeroValue254
  i0 := by kernel_rfl
  i2 := by kernel_rfl
  i3 := by kernel_rfl
  i4 := by kernel_rfl
  i5 := by kernel_rfl
  i9 := by kernel_rfl
  i20 := by kernel_rfl
  i21 := by kernel_rfl
  i37 := by kernel_rfl
  i46 := by kernel_rfl
  i51 := by kernel_rfl
  i53 := by kernel_rfl
  i75 := by kernel_rfl
  i76 := by kernel_rfl
  i80 := by kernel_rfl
  i85 := by kernel_rfl
  i127 := by kernel_rfl
  i143 := by kernel_rfl
  i145 := by kernel_rfl
  i167 := by kernel_rfl
  i168 := by kernel_rfl
  i171 := by kernel_rfl
  i173 := by kernel_rfl
  i175 := by kernel_rfl
  i210 := by kernel_rfl
  i212 := by kernel_rfl
  i232 := by kernel_rfl
  i233 := by kernel_rfl
  m15 := by kernel_rfl
  m16 := by kernel_rfl
  m17 := by kernel_rfl
  m18 := by kernel_rfl
  m19 := by kernel_rfl
  c0 := by kernel_rfl
  c2 := by kernel_rfl
  c3 := by kernel_rfl
  c4 := by kernel_rfl
  c5 := by kernel_rfl
  c9 := by kernel_rfl
  c20 := by kernel_rfl
  c21 := by kernel_rfl
  c37 := by kernel_rfl
  c46 := by kernel_rfl
  c51 := by kernel_rfl
  c53 := by kernel_rfl
  c75 := by kernel_rfl
  c76 := by kernel_rfl
  c80 := by kernel_rfl
  c85 := by kernel_rfl
  c127 := by kernel_rfl
  c143 := by kernel_rfl
  c145 := by kernel_rfl
  c167 := by kernel_rfl
  c168 := by kernel_rfl
  c171 := by kernel_rfl
  c173 := by kernel_rfl
  c175 := by kernel_rfl
  c210 := by kernel_rfl
  c212 := by kernel_rfl
  c213 := by kernel_rfl
  c232 := by kernel_rfl
  c233 := by kernel_rfl }
open Go.RowKit in
/-- strconv.Atoi, AT EVERY STRING THAT SPELLS AN int ('Lib.atoiAll .. = .ok v'; of whatever length: leading zeros count): v, AND NO ERROR. The world: as it was, or with the one new row that '[]byte(..)' lays. (LAID: no walk: one application.) -/
theorem Tryz.strconv_Atoi_ok (s : ByteArray) (hmax : s.size ≤ 9223372036854775806) (v : Int) (h : Lib.atoiAll s.data.toList = .ok v) (w : World) :
    Calls Tryz.prog 152 #[.string s] w fun e w' => e = .returned (.tuple #[.int .i64 v, .nilIface]) ∧ (w' = w ∨ ∃ t, w' = Lib.bytesWorld w 5 t) := Any.strconv_Atoi_ok Tryz.laysC172 s hmax v h w
def Tryz.lays157_ren : Go.Shelf.Ren := ⟨fun | 157 => 103 | 229 => 162 | 199 => 163 | 261 => 196 | 311 => 222 | 312 => 223 | n => n, fun | 9 => 9 | 31 => 30 | 3 => 3 | 5 => 5 | 4 => 4 | 119 => 194 | 0 => 0 | 40 => 196 | 152 => 231 | 21 => 21 | 154 => 233 | 51 => 234 | 141 => 236 | 196 => 269 | 193 => 266 | 198 => 272 | 49 => 270 | 194 => 267 | 201 => 275 | 226 => 293 | 46 => 230 | 227 => 294 | n => n, fun | 0 => 2 | 6 => 3 | n => n⟩
theorem Tryz.lays157 : Go.Proofs.Lays.n157 Tryz.prog Tryz.lays157_ren := {
  mixed := by kernel_rfl
  f157 := Tryz.func103.trans (congrArg some (by kernel_rfl))
  f199 := Tryz.func163.trans (congrArg some (by kernel_rfl))
  f229 := Tryz.func162.trans (congrArg some (by kernel_rfl))
  f261 := Tryz.func196.trans (congrArg some (by kernel_rfl))
  f311 := Tryz.func222.trans (congrArg some (by kernel_rfl))
  f312 := Tryz.func223.trans (congrArg some (by kernel_rfl))
  t0 := Tryz.underlying0
  a0 := Tryz.isAgg0
  z0 := Tryz.sizeOf0
  v0 := Tryz.zeroValue0
  t3 := Tryz.underlying3
  a3 := Tryz.isAgg3
  z3 := Tryz.sizeOf3
  v3 := Tryz.zeroValue3
  t4 := Tryz.underlying4
  a4 := Tryz.isAgg4
  z4 := Tryz.sizeOf4
  v4 := Tryz.zeroValue4
  t5 := Tryz.underlying5
  a5 := Tryz.isAgg5
  z5 := Tryz.sizeOf5
  v5 := Tryz.zeroValue5
  t9 := Tryz.underlying9
  a9 := Tryz.isAgg9
  z9 := Tryz.sizeOf9
  v9 := Tryz.zeroValue9
  t21 := Tryz.underlying21
  a21 := Tryz.isAgg21
  z21 := Tryz.sizeOf21
  v21 := Tryz.zeroValue21
  t31 := Tryz.underlying30
  a31 := Tryz.isAgg30
  z31 := Tryz.sizeOf30
  v31 := Tryz.zeroValue30
  t40 := Tryz.underlying196
  a40 := Tryz.isAgg196
  z40 := Tryz.sizeOf196
  v40 := Tryz.zeroValue196
  t46 := Tryz.underlying230
  a46 := Tryz.isAgg230
  z46 := Tryz.sizeOf230
  v46 := Tryz.zeroValue230
  t49 := Tryz.underlying270
  a49 := Tryz.isAgg270
  z49 := Tryz.sizeOf270
  v49 := Tryz.zeroValue270
  t51 := Tryz.underlying234
  a51 := Tryz.isAgg234
  z51 := Tryz.sizeOf234
  v51 := Tryz.zeroValue234
  t119 := Tryz.underlying194
  a119 := Tryz.isAgg194
  z119 := Tryz.sizeOf194
  t141 := Tryz.underlying236
  a141 := Tryz.isAgg236
  z141 := Tryz.sizeOf236
  v141 := Tryz.zeroValue236
  t152 := Tryz.underlying231
  a152 := Tryz.isAgg231
  z152 := Tryz.sizeOf231
  v152 := Tryz.zeroValue231
  t154 := Tryz.underlying233
  a154 := Tryz.isAgg233
  z154 := Tryz.sizeOf233
  v154 := Tryz.zeroValue233
  t193 := Tryz.underlying266
  a193 := Tryz.isAgg266
  z193 := Tryz.sizeOf266
  v193 := Tryz.zeroValue266
  t194 := Tryz.underlying267
  a194 := Tryz.isAgg267
  z194 := Tryz.sizeOf267
  v194 := Tryz.zeroValue267
  t196 := Tryz.underlying269
  a196 := Tryz.isAgg269
  z196 := Tryz.sizeOf269
  v196 := Tryz.zeroValue269
  t198 := Tryz.underlying272
  a198 := Tryz.isAgg272
  z198 := Tryz.sizeOf272
  v198 := Tryz.zeroValue272
  t201 := Tryz.underlying275
  a201 := Tryz.isAgg275
  z201 := Tryz.sizeOf275
  v201 := Tryz.zeroValue275
  t226 := Tryz.underlying293
  a226 := Tryz.isAgg293
  z226 := Tryz.sizeOf293
  v226 := Tryz.zeroValue293
  t227 := Tryz.underlying294
  a227 := Tryz.isAgg294
  z227 := Tryz.sizeOf294
  v227 := Tryz.zeroValue294
  g0 := by kernel_rfl
  g6 := by kernel_rfl }
open Go.RowKit Go.Lib in
/-- strings.Fields, the table by 'Lib.TabIs' (as strings.TrimSpace's contract). 'hg': the table's number, by its name: at a dump 'by kernel_rfl'. (LAID: no walk: one application.) -/
theorem Tryz.strings_Fields (s : ByteArray) (w : World) (hs : s.size < 4294967281) (hascii : ∀ (j : Nat) b, s.data.toList[j]? = some b → b.toNat < 128) (htab : Lib.TabIs Tryz.prog w "strings.asciiSpace" .u8 Lib.asciiSpaceTab) :
    Calls Tryz.prog 103 #[.string s] w fun e w' =>
      e = .returned (.slice (some ⟨w.heap.size, 0, none⟩) (Lib.fields s.data.toList).length (Lib.fields s.data.toList).length) ∧ w' = w.alloc (.cells ((Lib.fields s.data.toList).map fun l => Value.string ⟨l.toArray⟩).toArray 9) := Any.strings_Fields Tryz.lays157 (by kernel_rfl) (by kernel_rfl) s w hs hascii htab
def Tryz.laysPa41_ren : Go.Shelf.Ren := ⟨fun | 41 => 181 | n => n, fun | 3 => 3 | n => n, fun | n => n⟩
theorem Tryz.laysPa41 : Go.Proofs.Lays.p41 Tryz.prog Tryz.laysPa41_ren := {
  mixed := by kernel_rfl
  f41 := Tryz.func181.trans (congrArg some (by kernel_rfl))
  t3 := Tryz.underlying3
  a3 := Tryz.isAgg3
  z3 := Tryz.sizeOf3
  v3 := Tryz.zeroValue3 }
open Go.RowKit Go.Lib in
/-- encoding/hex.EncodedLen: "EncodedLen returns the length of an encoding of n source bytes. Specifically, it returns n * 2.": for 0 ≤ n < 2^62 (beyond it int's product wraps). (LAID: no walk: one application.) -/
theorem Tryz.hex_EncodedLen (n : Int) (h0 : 0 ≤ n) (h1 : n < 4611686018427387904) (w : World) :
    Calls Tryz.prog 181 #[.int .i64 n] w fun e w' => e = .returned (.int .i64 (n * 2)) ∧ w' = w := Any.hex_EncodedLen Tryz.laysPa41 n h0 h1 w
def Tryz.laysPah39_ren : Go.Shelf.Ren := ⟨fun | 39 => 132 | 41 => 181 | 40 => 182 | n => n, fun | 30 => 51 | 9 => 9 | 3 => 3 | 0 => 0 | 5 => 5 | 46 => 230 | n => n, fun | n => n⟩
theorem Tryz.laysPah39 : Go.Proofs.Lays.ph39 Tryz.prog Tryz.laysPah39_ren := {
  mixed := by kernel_rfl
  f39 := Tryz.func132.trans (congrArg some (by kernel_rfl))
  f40 := Tryz.func182.trans (congrArg some (by kernel_rfl))
  f41 := Tryz.func181.trans (congrArg some (by kernel_rfl))
  t0 := Tryz.underlying0
  a0 := Tryz.isAgg0
  z0 := Tryz.sizeOf0
  v0 := Tryz.zeroValue0
  t3 := Tryz.underlying3
  a3 := Tryz.isAgg3
  z3 := Tryz.sizeOf3
  v3 := Tryz.zeroValue3
  t5 := Tryz.underlying5
  a5 := Tryz.isAgg5
  z5 := Tryz.sizeOf5
  v5 := Tryz.zeroValue5
  t9 := Tryz.underlying9
  a9 := Tryz.isAgg9
  z9 := Tryz.sizeOf9
  v9 := Tryz.zeroValue9
  t30 := Tryz.underlying51
  a30 := Tryz.isAgg51
  z30 := Tryz.sizeOf51
  v30 := Tryz.zeroValue51
  t46 := Tryz.underlying230
  a46 := Tryz.isAgg230
  z46 := Tryz.sizeOf230
  v46 := Tryz.zeroValue230
  info5 := by kernel_rfl }
def Tryz.laysPah43_ren : Go.Shelf.Ren := ⟨fun | 43 => 195 | 42 => 220 | 44 => 221 | n => n, fun | 9 => 9 | 30 => 51 | 35 => 185 | 3 => 3 | 38 => 186 | 4 => 4 | 0 => 0 | 5 => 5 | 47 => 292 | 46 => 230 | 45 => 254 | n => n, fun | 0 => 6 | n => n⟩
theorem Tryz.laysPah43 : Go.Proofs.Lays.ph43 Tryz.prog Tryz.laysPah43_ren := {
  mixed := by kernel_rfl
  f42 := Tryz.func220.trans (congrArg some (by kernel_rfl))
  f43 := Tryz.func195.trans (congrArg some (by kernel_rfl))
  f44 := Tryz.func221.trans (congrArg some (by kernel_rfl))
  t0 := Tryz.underlying0
  a0 := Tryz.isAgg0
  z0 := Tryz.sizeOf0
  v0 := Tryz.zeroValue0
  t3 := Tryz.underlying3
  a3 := Tryz.isAgg3
  z3 := Tryz.sizeOf3
  v3 := Tryz.zeroValue3
  t4 := Tryz.underlying4
  a4 := Tryz.isAgg4
  z4 := Tryz.sizeOf4
  v4 := Tryz.zeroValue4
  t5 := Tryz.underlying5
  a5 := Tryz.isAgg5
  z5 := Tryz.sizeOf5
  v5 := Tryz.zeroValue5
  t9 := Tryz.underlying9
  a9 := Tryz.isAgg9
  z9 := Tryz.sizeOf9
  v9 := Tryz.zeroValue9
  t30 := Tryz.underlying51
  a30 := Tryz.isAgg51
  z30 := Tryz.sizeOf51
  v30 := Tryz.zeroValue51
  t35 := Tryz.underlying185
  a35 := Tryz.isAgg185
  z35 := Tryz.sizeOf185
  v35 := Tryz.zeroValue185
  t38 := Tryz.underlying186
  a38 := Tryz.isAgg186
  z38 := Tryz.sizeOf186
  v38 := Tryz.zeroValue186
  t45 := Tryz.underlying254
  a45 := Tryz.isAgg254
  z45 := Tryz.sizeOf254
  v45 := Tryz.zeroValue254
  t46 := Tryz.underlying230
  a46 := Tryz.isAgg230
  z46 := Tryz.sizeOf230
  v46 := Tryz.zeroValue230
  t47 := Tryz.underlying292
  a47 := Tryz.isAgg292
  z47 := Tryz.sizeOf292
  v47 := Tryz.zeroValue292
  g0 := by kernel_rfl
  info5 := by kernel_rfl }
open Go.RowKit Go.Lib in
/-- encoding/hex.DecodeString: the result slice OWNS the bytes decoded. (LAID: no walk: one application.) -/
theorem Tryz.hex_DecodeString_owns (s : ByteArray) (w : World) (ev : Value) (hE : w.cell? ⟨6, 0, none⟩ = some ev) (hbig : s.size ≤ 281474976710656) :
    Calls Tryz.prog 195 #[.string s] w fun e w' => ∃ v, e = .returned (.tuple #[v, Hx.errVal 292 ev (Hx.decode s.data.toList).2]) ∧
      w'.ownsRow w.heap.size 5 1 v (Hx.decode s.data.toList).1.length ((Hx.decode s.data.toList).1.map fun b => Value.int .u8 (b.toNat : Int)) ∧ Below w.heap.size w w' := Any.hex_DecodeString_owns Tryz.laysPah43 s w ev hE hbig
open Go.RowKit Go.Lib in
/-- encoding/hex.EncodeToString, the slice's content held AS BYTES. (LAID: no walk: one application.) -/
theorem Tryz.hex_EncodeToString_bytes (bs os cs : Nat) (l : List UInt8) (w : World) (hsrc : ∀ i (h : i < l.length), w.cell? ⟨bs, os + i, none⟩ = some (.int .u8 ((l[i]'h).toNat : Int))) (hb : bs < w.heap.size) (hbig : 2 * l.length ≤ 281474976710656) :
    Calls Tryz.prog 132 #[.slice (some ⟨bs, os, none⟩) l.length cs] w fun e w' => e = .returned (.string ⟨(Hx.encode l).toArray⟩) ∧ Below w.heap.size w w' := Any.hex_EncodeToString_bytes Tryz.laysPah39 bs os cs l w hsrc hb hbig
end Go.Proofs

/- strconv.Itoa: its contract out of the library shelf. By program (wip/gen). -/
namespace Go.Proofs.YtnjidaonbcbphaaGreatDoor.Fw
open Go.RowKit
set_option linter.unusedVariables false
set_option linter.unusedSimpArgs false


def strconv_Itoa (p0 : Int) : ByteArray := ⟨(Lib.itoa p0).toArray⟩
theorem gl8_eq : gl8 = Lib.pow10Tab := by decide
open Go.Sort in
theorem below_grow (w : World) (k : Nat) (os : Array Obj) : Below w.heap.size w (grow (w.drewN k) os) := by
  refine ⟨rfl, rfl, rfl, by simp [grow, World.drewN], fun b hb => ?_⟩
  show (w.heap ++ os)[b]? = w.heap[b]?
  rw [Array.getElem?_append_left hb]
theorem c_strconv_Itoa (p0 : Int) {w : World} (hi0 : I64 p0) (hG7 : GV 8 (gl8.map (Value.int .u64)) w) :
    Calls Tryz.prog 129 [.int .i64 p0].toArray w (fun e w' => e = .returned (.string (strconv_Itoa p0)) ∧ Below w.heap.size w w') := by
  have ht : Lib.TabIs Tryz.prog w "internal/strconv.uint64pow10" .u64 Lib.pow10Tab := by
    rw [← gl8_eq]
    exact hG7.var (by kernel_rfl)
  refine (Tryz.strconv_Itoa p0 hi0.1 hi0.2 w ht).mono fun e w2 h => ?_
  obtain ⟨h1, k, os, rfl⟩ := h
  exact ⟨h1, below_grow w k os⟩

end Go.Proofs.YtnjidaonbcbphaaGreatDoor.Fw

/- Contracts: each call returns what the model says. By program (wip/gen). -/
namespace Go.Proofs.YtnjidaonbcbphaaGreatDoor.Fw
open Go.RowKit
set_option linter.unusedVariables false
set_option linter.unusedSimpArgs false



/- F83 loop.example/g00974/impl.within -/
def impl_within (p0 : Int) (p1 : Int) (p2 : Int) : Bool := (decide (p0 ≥ p1)) && (decide (p0 ≤ p2))
theorem c_impl_within (p0 : Int) (p1 : Int) (p2 : Int) {w : World}  :
    Calls Tryz.prog 83 [.int .i64 p0, .int .i64 p1, .int .i64 p2].toArray w (fun e w' => e = .returned (.bool (impl_within p0 p1 p2)) ∧ Below w.heap.size w w') := by
  refine enter Tryz.func83 rfl Tryz.ntmps83 (Nat.le_of_ble_eq_true rfl) ?_
  intro a0 hE0
  have hS0 := SH.start w
  have hM := impl_within.eq_1 p0 p1 p2
  refine wp_seq (wp_region_lit ?_)
  refine st_val hE0 (y_assign hE0 rfl) rfl fun a1 hE1 => wpList_nil ?_
  clear hE0
  clear a0
  refine then_normal ?_
  refine wp_seq (wp_region_lit ?_)
  refine st_val hE1 (y_move hE1 rfl) rfl fun a2 hE2 => st_val hE2 (y_move hE2 rfl) rfl fun a3 hE3 => st_val hE3 (y_geq hE3 rfl rfl) rfl fun a4 hE4 => st_val hE4 (y_move hE4 rfl) rfl fun a5 hE5 => ?_
  refine st_mid 4 (fun a w2 => ∃ r : Bool, r = ((decide (p0 ≥ p1)) && (decide (p0 ≤ p2))) ∧ SH (Old w) w w2 [] ∧ Env 15 ((14, .bool r) :: [(0, .int .i64 p0), (1, .int .i64 p1), (2, .int .i64 p2), (6, .bool false), (7, .int .i64 p0), (8, .int .i64 p1), (9, .bool (decide (p0 ≥ p1))), (10, .bool (decide (p0 ≥ p1)))]) a) ?_ ?_
  ·
    rcases Bool.eq_false_or_eq_true (decide (p0 ≥ p1)) with hb7 | hb7
    ·
      have hb7f : p0 ≥ p1 := of_decide_eq_true hb7
      refine st_run hE5 rfl rfl rfl hb7 <| st_val hE5 (y_move hE5 rfl) rfl fun a8 hE8 => st_run hE8 rfl rfl rfl hb7 <| st_val hE8 (y_move hE8 rfl) rfl fun a9 hE9 => st_run hE9 rfl rfl rfl hb7 <| st_val hE9 (y_leq hE9 rfl rfl) rfl fun a10 hE10 => st_val hE10 (y_pick_t hE10 rfl hb7 rfl) rfl fun a11 hE11 => wpList_nil ?_
      exact ⟨decide (p0 ≤ p2), by simp only [hb7, Bool.true_and, Bool.false_and, Bool.true_or, Bool.false_or, Bool.and_true, Bool.or_true, Bool.and_false, Bool.or_false], hS0, hE11.weaken ⟨rfl, rfl, rfl, rfl, rfl, rfl, rfl, rfl, rfl, trivial⟩⟩
    ·
      have hb7f : ¬ (p0 ≥ p1) := of_decide_eq_false hb7
      refine st_skip hE5 rfl rfl rfl hb7 rfl fun a12 hE12 => st_skip hE12 rfl rfl rfl hb7 rfl fun a13 hE13 => st_skip hE13 rfl rfl rfl hb7 rfl fun a14 hE14 => st_val hE14 (y_pick_f hE14 rfl hb7 rfl) rfl fun a15 hE15 => wpList_nil ?_
      exact ⟨false, by simp only [hb7, Bool.true_and, Bool.false_and, Bool.true_or, Bool.false_or, Bool.and_true, Bool.or_true, Bool.and_false, Bool.or_false], hS0, hE15.weaken ⟨rfl, rfl, rfl, rfl, rfl, rfl, rfl, rfl, rfl, trivial⟩⟩
  rintro a16 w16 ⟨r16, hr16, hS16, hE16⟩
  subst hr16
  clear hE5 hE1 hE2 hE3 hE4
  refine st_val hE16 (y_assign hE16 rfl) rfl fun a17 hE17 => wpList_nil ?_
  clear hE16
  clear a16
  refine then_normal ?_
  refine wp_ret ?_
  exact fin1 hE17 rfl rfl ⟨by rw [hM], hS16.below⟩

/- F110 loop.example/g00974/spec.l01In -/
def spec_l01In (p0 : Int) (p1 : Int) (p2 : Int) : Bool := (decide (p0 ≥ p1)) && (decide (p0 ≤ p2))
theorem c_spec_l01In (p0 : Int) (p1 : Int) (p2 : Int) {w : World}  :
    Calls Tryz.prog 110 [.int .i64 p0, .int .i64 p1, .int .i64 p2].toArray w (fun e w' => e = .returned (.bool (spec_l01In p0 p1 p2)) ∧ Below w.heap.size w w') := by
  refine enter Tryz.func110 rfl Tryz.ntmps110 (Nat.le_of_ble_eq_true rfl) ?_
  intro a0 hE0
  have hS0 := SH.start w
  have hM := spec_l01In.eq_1 p0 p1 p2
  refine wp_seq (wp_region_lit ?_)
  refine st_val hE0 (y_assign hE0 rfl) rfl fun a1 hE1 => wpList_nil ?_
  clear hE0
  clear a0
  refine then_normal ?_
  refine wp_seq (wp_region_lit ?_)
  refine st_val hE1 (y_move hE1 rfl) rfl fun a2 hE2 => st_val hE2 (y_move hE2 rfl) rfl fun a3 hE3 => st_val hE3 (y_geq hE3 rfl rfl) rfl fun a4 hE4 => st_val hE4 (y_move hE4 rfl) rfl fun a5 hE5 => ?_
  refine st_mid 4 (fun a w2 => ∃ r : Bool, r = ((decide (p0 ≥ p1)) && (decide (p0 ≤ p2))) ∧ SH (Old w) w w2 [] ∧ Env 15 ((14, .bool r) :: [(0, .int .i64 p0), (1, .int .i64 p1), (2, .int .i64 p2), (6, .bool false), (7, .int .i64 p0), (8, .int .i64 p1), (9, .bool (decide (p0 ≥ p1))), (10, .bool (decide (p0 ≥ p1)))]) a) ?_ ?_
  ·
    rcases Bool.eq_false_or_eq_true (decide (p0 ≥ p1)) with hb7 | hb7
    ·
      have hb7f : p0 ≥ p1 := of_decide_eq_true hb7
      refine st_run hE5 rfl rfl rfl hb7 <| st_val hE5 (y_move hE5 rfl) rfl fun a8 hE8 => st_run hE8 rfl rfl rfl hb7 <| st_val hE8 (y_move hE8 rfl) rfl fun a9 hE9 => st_run hE9 rfl rfl rfl hb7 <| st_val hE9 (y_leq hE9 rfl rfl) rfl fun a10 hE10 => st_val hE10 (y_pick_t hE10 rfl hb7 rfl) rfl fun a11 hE11 => wpList_nil ?_
      exact ⟨decide (p0 ≤ p2), by simp only [hb7, Bool.true_and, Bool.false_and, Bool.true_or, Bool.false_or, Bool.and_true, Bool.or_true, Bool.and_false, Bool.or_false], hS0, hE11.weaken ⟨rfl, rfl, rfl, rfl, rfl, rfl, rfl, rfl, rfl, trivial⟩⟩
    ·
      have hb7f : ¬ (p0 ≥ p1) := of_decide_eq_false hb7
      refine st_skip hE5 rfl rfl rfl hb7 rfl fun a12 hE12 => st_skip hE12 rfl rfl rfl hb7 rfl fun a13 hE13 => st_skip hE13 rfl rfl rfl hb7 rfl fun a14 hE14 => st_val hE14 (y_pick_f hE14 rfl hb7 rfl) rfl fun a15 hE15 => wpList_nil ?_
      exact ⟨false, by simp only [hb7, Bool.true_and, Bool.false_and, Bool.true_or, Bool.false_or, Bool.and_true, Bool.or_true, Bool.and_false, Bool.or_false], hS0, hE15.weaken ⟨rfl, rfl, rfl, rfl, rfl, rfl, rfl, rfl, rfl, trivial⟩⟩
  rintro a16 w16 ⟨r16, hr16, hS16, hE16⟩
  subst hr16
  clear hE5 hE1 hE2 hE3 hE4
  refine st_val hE16 (y_assign hE16 rfl) rfl fun a17 hE17 => wpList_nil ?_
  clear hE16
  clear a16
  refine then_normal ?_
  refine wp_ret ?_
  exact fin1 hE17 rfl rfl ⟨by rw [hM], hS16.below⟩

theorem impl_within_t {a b c : Int} (h : impl_within a b c = true) : b ≤ a ∧ a ≤ c := by simpa [impl_within] using h
theorem spec_l01In_t {a b c : Int} (h : spec_l01In a b c = true) : b ≤ a ∧ a ≤ c := by simpa [spec_l01In] using h

end Go.Proofs.YtnjidaonbcbphaaGreatDoor.Fw

/- Contracts: each call returns what the model says. By program (wip/gen). -/
namespace Go.Proofs.YtnjidaonbcbphaaGreatDoor.Fw
open Go.RowKit
set_option linter.unusedVariables false
set_option linter.unusedSimpArgs false

theorem cv3_5 : chkConvI Tryz.prog 3 5 .u8 = true := by kernel_rfl
theorem fb120 : Tryz.f120.body.isNone = false := rfl
theorem fb129 : Tryz.f129.body.isNone = false := rfl
theorem fn120 : (Tryz.f120.name == "runtime.NumGoroutine") = false := by kernel_rfl
theorem fn129 : (Tryz.f129.name == "runtime.NumGoroutine") = false := by kernel_rfl

/- F120 loop.example/g00974/spec.l01Figure -/
def spec_l01Figure (p0 : Int) : Int := (if (decide (p0 < 10)) = true then IntKind.u8.wrap (IntKind.i64.wrap (48 + p0)) else IntKind.u8.wrap (IntKind.i64.wrap (IntKind.i64.wrap (97 + p0) - 10)))
theorem c_spec_l01Figure (p0 : Int) {w : World}  :
    Calls Tryz.prog 120 [.int .i64 p0].toArray w (fun e w' => e = .returned (.int .u8 (spec_l01Figure p0)) ∧ Below w.heap.size w w') := by
  refine enter Tryz.func120 rfl Tryz.ntmps120 (Nat.le_of_ble_eq_true rfl) ?_
  intro a0 hE0
  have hS0 := SH.start w
  have hM := spec_l01Figure.eq_1 p0
  refine wp_seq (wp_region_lit ?_)
  refine st_val hE0 (y_assign hE0 rfl) rfl fun a1 hE1 => wpList_nil ?_
  clear hE0
  clear a0
  refine then_normal ?_
  refine wp_seq (wp_seq (wp_region_lit ?_))
  refine st_val hE1 (y_move hE1 rfl) rfl fun a2 hE2 => st_val hE2 (y_lss hE2 rfl rfl) rfl fun a3 hE3 => wpList_nil ?_
  clear hE1 hE2
  clear a1 a2
  refine then_normal ?_
  refine cond_split hE3 rfl (fun hb4 => ?_) (fun hb4 => ?_)
  ·
    have hM := hM.trans (if_t hb4)
    have hb4f : p0 < 10 := of_decide_eq_true hb4
    refine wp_seq (wp_region_lit ?_)
    refine st_val hE3 (y_move hE3 rfl) rfl fun a5 hE5 => st_val hE5 (y_add hE5 rfl rfl) rfl fun a6 hE6 => st_val hE6 (y_convI hE6 rfl cv3_5) rfl fun a7 hE7 => st_val hE7 (y_assign hE7 rfl) rfl fun a8 hE8 => wpList_nil ?_
    clear hE3 hE5 hE6 hE7
    clear a3 a5 a6 a7
    refine then_normal ?_
    refine wp_ret ?_
    refine then_ret ?_
    exact fin1 hE8 rfl rfl ⟨by rw [hM], hS0.below⟩
  ·
    have hM := hM.trans (if_f hb4)
    have hb4f : ¬ (p0 < 10) := of_decide_eq_false hb4
    refine wp_skip ?_
    refine then_normal ?_
    refine wp_seq (wp_region_lit ?_)
    refine st_val hE3 (y_move hE3 rfl) rfl fun a9 hE9 => st_val hE9 (y_add hE9 rfl rfl) rfl fun a10 hE10 => st_val hE10 (y_sub hE10 rfl rfl) rfl fun a11 hE11 => st_val hE11 (y_convI hE11 rfl cv3_5) rfl fun a12 hE12 => st_val hE12 (y_assign hE12 rfl) rfl fun a13 hE13 => wpList_nil ?_
    clear hE3 hE9 hE10 hE11 hE12
    clear a3 a9 a10 a11 a12
    refine then_normal ?_
    refine wp_ret ?_
    exact fin1 hE13 rfl rfl ⟨by rw [hM], hS0.below⟩

/- F48 loop.example/g00974/spec.Decimal -/
def spec_Decimal_l1_after (p0 : Int) (s1_0 : Int) (s1_4 : ByteArray) : ByteArray := (if (decide (p0 < 0)) = true then ((⟨#[45]⟩ : ByteArray) ++ s1_4) else s1_4)
def spec_Decimal_l1 (p0 : Int) : Nat → Int → ByteArray → ByteArray
  | 0, s1_0, s1_4 => spec_Decimal_l1_after p0 s1_0 s1_4
  | fu1 + 1, s1_0, s1_4 => if (!decide (s1_0 = 0)) = true then (if (decide (Int.tmod s1_0 10 < 0)) = true then spec_Decimal_l1 p0 fu1 (IntKind.i64.wrap (Int.tdiv s1_0 10)) ((strOfNums [(spec_l01Figure (IntKind.i64.wrap (-(Int.tmod s1_0 10))))]) ++ s1_4) else spec_Decimal_l1 p0 fu1 (IntKind.i64.wrap (Int.tdiv s1_0 10)) ((strOfNums [(spec_l01Figure (Int.tmod s1_0 10))]) ++ s1_4)) else spec_Decimal_l1_after p0 s1_0 s1_4
def spec_Decimal (p0 : Int) : ByteArray := (if (decide (p0 = 0)) = true then (⟨#[48]⟩ : ByteArray) else spec_Decimal_l1 p0 (p0.natAbs) p0 (⟨#[]⟩ : ByteArray))
theorem c_spec_Decimal (p0 : Int) {w : World} (hi0 : I64 p0) :
    Calls Tryz.prog 48 [.int .i64 p0].toArray w (fun e w' => e = .returned (.string (spec_Decimal p0)) ∧ Below w.heap.size w w') := by
  refine enter Tryz.func48 rfl Tryz.ntmps48 (Nat.le_of_ble_eq_true rfl) ?_
  intro a0 hE0
  have hS0 := SH.start w
  have hM := spec_Decimal.eq_1 p0
  have hij0 : -9223372036854775808 ≤ p0 ∧ p0 ≤ 9223372036854775807 := hi0
  refine wp_seq (wp_region_lit ?_)
  refine st_val hE0 (y_assign hE0 rfl) rfl fun a1 hE1 => wpList_nil ?_
  clear hE0
  clear a0
  refine then_normal ?_
  refine wp_seq (wp_seq (wp_region_lit ?_))
  refine st_val hE1 (y_move hE1 rfl) rfl fun a2 hE2 => st_val hE2 (y_eql hE2 rfl rfl) rfl fun a3 hE3 => wpList_nil ?_
  clear hE1 hE2
  clear a1 a2
  refine then_normal ?_
  refine cond_split hE3 rfl (fun hb4 => ?_) (fun hb4 => ?_)
  ·
    have hM := hM.trans (if_t hb4)
    have hb4f : p0 = 0 := by simpa using hb4
    refine wp_seq (wp_region_lit ?_)
    refine st_val hE3 (y_assign hE3 rfl) rfl fun a5 hE5 => wpList_nil ?_
    clear hE3
    clear a3
    refine then_normal ?_
    refine wp_ret ?_
    refine then_ret ?_
    exact fin1 hE5 rfl rfl ⟨by rw [hM], hS0.below⟩
  ·
    have hM := hM.trans (if_f hb4)
    have hb4f : ¬ (p0 = 0) := by simpa using hb4
    refine wp_skip ?_
    refine then_normal ?_
    refine wp_seq (wp_region_lit ?_)
    refine st_val hE3 (y_move hE3 rfl) rfl fun a6 hE6 => st_val hE6 (y_lss hE6 rfl rfl) rfl fun a7 hE7 => st_val hE7 (y_assign hE7 rfl) rfl fun a8 hE8 => wpList_nil ?_
    clear hE3 hE6 hE7
    clear a3 a6 a7
    refine then_normal ?_
    refine wp_seq (wp_region_lit ?_)
    refine st_val hE8 (y_assign hE8 rfl) rfl fun a9 hE9 => wpList_nil ?_
    clear hE8
    clear a8
    refine then_normal ?_
    refine wp_seq (wp_block (wp_loop_ghost (fun fu1 a w2 => ∃ (s1_0 : Int) (s1_4 : ByteArray), s1_0.natAbs ≤ fu1 ∧ dig s1_4.size (s1_0.natAbs : Int) ∧ I64 s1_0 ∧ spec_Decimal p0 = spec_Decimal_l1 p0 fu1 s1_0 s1_4 ∧ Env 30 [(0, .int .i64 s1_0), (3, .bool (decide (p0 < 0))), (4, .string s1_4)] a ∧ SH (Old w) w w2 []) (p0.natAbs) ⟨p0, (⟨#[]⟩ : ByteArray), Nat.le_refl _, (show dig 0 _ from ⟨by omega, by simp; omega⟩), hi0, hM, hE9.weaken ⟨rfl, rfl, rfl, trivial⟩, hS0⟩ ?_))
    clear hM hE9
    rintro fu1 a10 w10 ⟨s1_0, s1_4, hme1, hin1_0, hgis1_0, hM, hE10, hS10⟩
    have hgjs1_0 : -9223372036854775808 ≤ s1_0 ∧ s1_0 ≤ 9223372036854775807 := hgis1_0
    refine wp_seq (wp_seq (wp_region_lit ?_))
    refine st_val hE10 (y_move hE10 rfl) rfl fun a11 hE11 => st_val hE11 (y_neq hE11 rfl rfl) rfl fun a12 hE12 => wpList_nil ?_
    clear hE10 hE11
    clear a10 a11
    refine then_normal ?_
    refine cond_split hE12 rfl (fun hb13 => ?_) (fun hb13 => ?_)
    ·
      have hb13f : ¬ (s1_0 = 0) := by simpa using hb13
      obtain ⟨fu1, rfl⟩ : ∃ m, fu1 = m + 1 := ⟨fu1 - 1, by omega⟩
      have hM := hM.trans ((spec_Decimal_l1.eq_2 _ _ _ _).trans (if_t hb13))
      refine wp_skip ?_
      refine then_normal ?_
      refine wp_block (wp_seq (wp_region_lit ?_))
      refine st_val hE12 (y_move hE12 rfl) rfl fun a14 hE14 => st_val hE14 (y_rem hE14 rfl rfl (by decide)) rfl fun a15 hE15 => st_val hE15 (y_assign hE15 rfl) rfl fun a16 hE16 => wpList_nil ?_
      clear hE12 hE14 hE15
      clear a12 a14 a15
      refine then_normal ?_
      refine wp_seq (wp_seq (wp_region_lit ?_))
      refine st_val hE16 (y_move hE16 rfl) rfl fun a17 hE17 => st_val hE17 (y_lss hE17 rfl rfl) rfl fun a18 hE18 => wpList_nil ?_
      clear hE16 hE17
      clear a16 a17
      refine then_normal ?_
      refine cond_split hE18 rfl (fun hb19 => ?_) (fun hb19 => ?_)
      ·
        have hM := hM.trans (if_t hb19)
        have hb19f : Int.tmod s1_0 10 < 0 := of_decide_eq_true hb19
        refine wp_region_lit ?_
        refine st_val hE18 (y_move hE18 rfl) rfl fun a20 hE20 => st_val hE20 (y_neg hE20 rfl) rfl fun a21 hE21 => st_val hE21 (y_assign hE21 rfl) rfl fun a22 hE22 => wpList_nil ?_
        clear hE18 hE20 hE21
        clear a18 a20 a21
        refine then_normal ?_
        refine wp_seq (wp_region_lit ?_)
        refine st_val hE22 (y_move hE22 rfl) rfl fun a23 hE23 => st_callF hE23 hS10 Tryz.func120 fb120 fn120 (c_spec_l01Figure (IntKind.i64.wrap (-(Int.tmod s1_0 10)))) rfl rfl fun w24 hS24 a25 hE25 => st_lit (is := [0]) (vs := [.int .u8 (spec_l01Figure (IntKind.i64.wrap (-(Int.tmod s1_0 10))))]) (cs := [.int .u8 (spec_l01Figure (IntKind.i64.wrap (-(Int.tmod s1_0 10))))]) (e := 5) hE25 hS24 rfl rfl (by kernel_rfl) rfl fun b26 w26 hS26 a27 hE27 => st_val hE27 (y_bytesStr (xs := [(spec_l01Figure (IntKind.i64.wrap (-(Int.tmod s1_0 10))))]) hE27 rfl Tryz.underlying51 Tryz.underlying5 Tryz.underlying9 rfl (hS26.cells (k := 0) rfl)) rfl fun a28 hE28 => st_val hE28 (y_move hE28 rfl) rfl fun a29 hE29 => st_val hE29 (y_cat hE29 rfl rfl (by have h := hin1_0.1; first | omega | (rw [strOfNums_size]; simp only [List.length]; omega) | (show 1 + _ ≤ _; omega))) rfl fun a30 hE30 => st_val hE30 (y_assign hE30 rfl) rfl fun a31 hE31 => wpList_nil ?_
        clear hE22 hE23 hE25 hE27 hE28 hE29 hE30
        clear a22 a23 a25 a27 a28 a29 a30
        refine then_normal ?_
        refine wp_region_lit ?_
        refine st_val hE31 (y_move hE31 rfl) rfl fun a32 hE32 => st_val hE32 (y_quo hE32 rfl rfl (by decide)) rfl fun a33 hE33 => st_val hE33 (y_assign hE33 rfl) rfl fun a34 hE34 => wpList_nil ?_
        clear hE31 hE32 hE33
        clear a31 a32 a33
        refine blk_normal ?_
        refine then_normal ⟨fu1, Nat.lt_succ_self _, IntKind.i64.wrap (Int.tdiv s1_0 10), ((strOfNums [(spec_l01Figure (IntKind.i64.wrap (-(Int.tmod s1_0 10))))]) ++ s1_4), (by rw [quo10_abs (by assumption)]; omega), (by rw [quo10_abs (by assumption), ByteArray.size_append, strOfNums_size]; show dig (1 + _) _; rw [Nat.add_comm]; exact dig_step hin1_0 (by omega)), (I64_wrap _), hM, hE34.weaken ⟨rfl, rfl, rfl, trivial⟩, (hS26.drop (k := 1))⟩
      ·
        have hM := hM.trans (if_f hb19)
        have hb19f : ¬ (Int.tmod s1_0 10 < 0) := of_decide_eq_false hb19
        refine wp_skip ?_
        refine then_normal ?_
        refine wp_seq (wp_region_lit ?_)
        refine st_val hE18 (y_move hE18 rfl) rfl fun a35 hE35 => st_callF hE35 hS10 Tryz.func120 fb120 fn120 (c_spec_l01Figure (Int.tmod s1_0 10)) rfl rfl fun w36 hS36 a37 hE37 => st_lit (is := [0]) (vs := [.int .u8 (spec_l01Figure (Int.tmod s1_0 10))]) (cs := [.int .u8 (spec_l01Figure (Int.tmod s1_0 10))]) (e := 5) hE37 hS36 rfl rfl (by kernel_rfl) rfl fun b38 w38 hS38 a39 hE39 => st_val hE39 (y_bytesStr (xs := [(spec_l01Figure (Int.tmod s1_0 10))]) hE39 rfl Tryz.underlying51 Tryz.underlying5 Tryz.underlying9 rfl (hS38.cells (k := 0) rfl)) rfl fun a40 hE40 => st_val hE40 (y_move hE40 rfl) rfl fun a41 hE41 => st_val hE41 (y_cat hE41 rfl rfl (by have h := hin1_0.1; first | omega | (rw [strOfNums_size]; simp only [List.length]; omega) | (show 1 + _ ≤ _; omega))) rfl fun a42 hE42 => st_val hE42 (y_assign hE42 rfl) rfl fun a43 hE43 => wpList_nil ?_
        clear hE18 hE35 hE37 hE39 hE40 hE41 hE42
        clear a18 a35 a37 a39 a40 a41 a42
        refine then_normal ?_
        refine wp_region_lit ?_
        refine st_val hE43 (y_move hE43 rfl) rfl fun a44 hE44 => st_val hE44 (y_quo hE44 rfl rfl (by decide)) rfl fun a45 hE45 => st_val hE45 (y_assign hE45 rfl) rfl fun a46 hE46 => wpList_nil ?_
        clear hE43 hE44 hE45
        clear a43 a44 a45
        refine blk_normal ?_
        refine then_normal ⟨fu1, Nat.lt_succ_self _, IntKind.i64.wrap (Int.tdiv s1_0 10), ((strOfNums [(spec_l01Figure (Int.tmod s1_0 10))]) ++ s1_4), (by rw [quo10_abs (by assumption)]; omega), (by rw [quo10_abs (by assumption), ByteArray.size_append, strOfNums_size]; show dig (1 + _) _; rw [Nat.add_comm]; exact dig_step hin1_0 (by omega)), (I64_wrap _), hM, hE46.weaken ⟨rfl, rfl, rfl, trivial⟩, (hS38.drop (k := 1))⟩
    ·
      have hb13f : s1_0 = 0 := by simpa using hb13
      have hM := hM.trans (show spec_Decimal_l1 p0 fu1 s1_0 s1_4 = spec_Decimal_l1_after p0 s1_0 s1_4 from by cases fu1 with | zero => exact spec_Decimal_l1.eq_1 _ _ _ | succ m => exact (spec_Decimal_l1.eq_2 _ _ _ _).trans (if_f hb13))
      have hM := hM.trans (spec_Decimal_l1_after.eq_1 _ _ _)
      refine wp_exit ?_
      refine then_exit ?_
      refine then_exit ?_
      refine blk_exit ?_
      refine then_normal ?_
      refine wp_seq (wp_seq (wp_region_lit ?_))
      refine st_val hE12 (y_move hE12 rfl) rfl fun a47 hE47 => wpList_nil ?_
      clear hE12
      clear a12
      refine then_normal ?_
      refine cond_split hE47 rfl (fun hb48 => ?_) (fun hb48 => ?_)
      ·
        have hM := hM.trans (if_t hb48)
        have hb48f : p0 < 0 := of_decide_eq_true hb48
        refine wp_seq (wp_region_lit ?_)
        refine st_val hE47 (y_move hE47 rfl) rfl fun a49 hE49 => st_val hE49 (y_cat hE49 rfl rfl (by have h := hin1_0.1; first | omega | (rw [strOfNums_size]; simp only [List.length]; omega) | (show 1 + _ ≤ _; omega))) rfl fun a50 hE50 => st_val hE50 (y_assign hE50 rfl) rfl fun a51 hE51 => wpList_nil ?_
        clear hE47 hE49 hE50
        clear a47 a49 a50
        refine then_normal ?_
        refine wp_ret ?_
        refine then_ret ?_
        exact fin1 hE51 rfl rfl ⟨by rw [hM], hS10.below⟩
      ·
        have hM := hM.trans (if_f hb48)
        have hb48f : ¬ (p0 < 0) := of_decide_eq_false hb48
        refine wp_skip ?_
        refine then_normal ?_
        refine wp_seq (wp_region_lit ?_)
        refine st_val hE47 (y_move hE47 rfl) rfl fun a52 hE52 => st_val hE52 (y_assign hE52 rfl) rfl fun a53 hE53 => wpList_nil ?_
        clear hE47 hE52
        clear a47 a52
        refine then_normal ?_
        refine wp_ret ?_
        exact fin1 hE53 rfl rfl ⟨by rw [hM], hS10.below⟩

/- F58 loop.example/g00974/impl.Decimal -/
def impl_Decimal (p0 : Int) : ByteArray := (strconv_Itoa p0)
theorem c_impl_Decimal (p0 : Int) {w : World} (hi0 : I64 p0) (hG8 : GV 8 (gl8.map (Value.int .u64)) w) :
    Calls Tryz.prog 58 [.int .i64 p0].toArray w (fun e w' => e = .returned (.string (impl_Decimal p0)) ∧ Below w.heap.size w w') := by
  refine enter Tryz.func58 rfl Tryz.ntmps58 (Nat.le_of_ble_eq_true rfl) ?_
  intro a0 hE0
  have hS0 := SH.start w
  have hM := impl_Decimal.eq_1 p0
  have hij0 : -9223372036854775808 ≤ p0 ∧ p0 ≤ 9223372036854775807 := hi0
  refine wp_seq (wp_region_lit ?_)
  refine st_val hE0 (y_assign hE0 rfl) rfl fun a1 hE1 => wpList_nil ?_
  clear hE0
  clear a0
  refine then_normal ?_
  refine wp_seq (wp_region_lit ?_)
  refine st_val hE1 (y_move hE1 rfl) rfl fun a2 hE2 => st_callF hE2 hS0 Tryz.func129 fb129 fn129 (c_strconv_Itoa p0 hi0 (GV.sh hS0 hG8)) rfl rfl fun w3 hS3 a4 hE4 => st_val hE4 (y_assign hE4 rfl) rfl fun a5 hE5 => wpList_nil ?_
  clear hE1 hE2 hE4
  clear a1 a2 a4
  refine then_normal ?_
  refine wp_ret ?_
  exact fin1 hE5 rfl rfl ⟨by rw [hM], hS3.below⟩

end Go.Proofs.YtnjidaonbcbphaaGreatDoor.Fw

/- Decimal: the reference and the program say the same numeral. By program (wip/gen). -/
namespace Go.Proofs.YtnjidaonbcbphaaGreatDoor.Fw
open Go.RowKit
set_option linter.unusedVariables false
set_option linter.unusedSimpArgs false


theorem figure_of {v : Int} (h0 : 0 ≤ v) (h1 : v ≤ 9) : strOfNums [spec_l01Figure v] = ⟨#[UInt8.ofNat (48 + v.toNat)]⟩ := by
  have e : spec_l01Figure v = 48 + v := by
    unfold spec_l01Figure
    rw [if_pos (decide_eq_true (by omega)), IntWalk.i64_in _ ⟨by omega, by omega⟩, IntWalk.u8_in _ ⟨by omega, by omega⟩]
  rw [e]
  have e2 : (48 + v).toNat = 48 + v.toNat := by omega
  simp [strOfNums, e2]
/-- The figures of a number, none for nought. -/
def figs (u : Nat) : ByteArray := if u = 0 then ⟨#[]⟩ else ⟨(Lib.decDigits u).toArray⟩
theorem bt_assoc (a b c : ByteArray) : a ++ (b ++ c) = (a ++ b) ++ c := (ByteArray.append_assoc).symm
theorem figs_step {u : Nat} (h : u ≠ 0) : figs (u / 10) ++ (⟨#[UInt8.ofNat (48 + u % 10)]⟩ : ByteArray) = figs u := by
  unfold figs
  rw [if_neg h]
  by_cases h9 : u < 10
  · rw [if_pos (by omega), Lib.decDigits, dif_pos h9, Nat.mod_eq_of_lt h9]
    rfl
  · rw [if_neg (by omega), Lib.decDigits.eq_def u, dif_neg h9]
    apply ByteArray.ext
    simp
theorem tmod_abs (s : Int) : (Int.tmod s 10).natAbs = s.natAbs % 10 := by
  rw [Int.natAbs_tmod]
  rfl
theorem spec_Decimal_l1_is (p0 : Int) : ∀ (fu : Nat) (s : Int) (o : ByteArray), I64 s → s.natAbs ≤ fu → spec_Decimal_l1 p0 fu s o = spec_Decimal_l1_after p0 0 (figs s.natAbs ++ o) := by
  intro fu
  induction fu with
  | zero =>
    intro s o hs h
    have e : s.natAbs = 0 := by omega
    rw [e]
    have e2 : figs 0 ++ o = o := by
      apply ByteArray.ext
      simp [figs]
    rw [e2]
    rfl
  | succ m ih =>
    intro s o hs h
    rw [spec_Decimal_l1]
    by_cases h0 : s = 0
    · subst h0
      simp only [decide_true, Bool.not_true, Bool.false_eq_true, if_false]
      have e2 : figs (Int.natAbs 0) ++ o = o := by
        apply ByteArray.ext
        simp [figs]
      rw [e2]
    · simp only [h0, decide_false, Bool.not_false, if_true]
      have ha := tmod_abs s
      have hb := quo10_abs hs
      have hu : s.natAbs ≠ 0 := by omega
      have hfin : ∀ v : Int, 0 ≤ v → v.natAbs = s.natAbs % 10 → spec_Decimal_l1 p0 m (IntKind.i64.wrap (Int.tdiv s 10)) (strOfNums [spec_l01Figure v] ++ o) = spec_Decimal_l1_after p0 0 (figs s.natAbs ++ o) := by
        intro v hv0 hv
        rw [ih _ _ (I64_wrap _) (by omega), hb, figure_of hv0 (by omega), bt_assoc, show v.toNat = s.natAbs % 10 by omega, figs_step hu]
      split
      · rename_i hneg
        have hneg' := of_decide_eq_true hneg
        rw [IntWalk.i64_in (-(Int.tmod s 10)) ⟨by omega, by omega⟩]
        exact hfin _ (by omega) (by omega)
      · rename_i hpos
        have hpos' : ¬ Int.tmod s 10 < 0 := by simpa using hpos
        exact hfin _ (by omega) (by omega)
theorem Decimal_twin {p0 : Int} (h : I64 p0) : spec_Decimal p0 = impl_Decimal p0 := by
  unfold spec_Decimal impl_Decimal strconv_Itoa
  by_cases h0 : p0 = 0
  · subst h0
    simp only [decide_true, if_true]
    unfold Lib.itoa
    rw [if_neg (by decide), Lib.decDigits, dif_pos (by decide)]
    rfl
  · simp only [h0, decide_false, Bool.false_eq_true, if_false]
    rw [spec_Decimal_l1_is p0 _ _ _ h (Nat.le_refl _)]
    unfold spec_Decimal_l1_after Lib.itoa figs
    rw [if_neg (show ¬ p0.natAbs = 0 by omega)]
    by_cases hn : p0 < 0
    · simp only [hn, decide_true, if_true]
      apply ByteArray.ext
      simp
    · simp only [hn, decide_false, Bool.false_eq_true, if_false]
      rw [show p0.toNat = p0.natAbs by omega]
      apply ByteArray.ext
      simp
theorem spec_Decimal_l1_size (p0 : Int) : ∀ (fu : Nat) (s : Int) (o : ByteArray), I64 s → dig o.size (s.natAbs : Int) → (spec_Decimal_l1 p0 fu s o).size ≤ 20 := by
  have haft : ∀ s o, o.size ≤ 19 → (spec_Decimal_l1_after p0 s o).size ≤ 20 := by
    intro s o ho
    unfold spec_Decimal_l1_after
    split
    · rw [ByteArray.size_append]
      show 1 + o.size ≤ 20
      omega
    · omega
  intro fu
  induction fu with
  | zero => intro s o hs h; exact haft _ _ h.1
  | succ m ih =>
    intro s o hs h
    rw [spec_Decimal_l1]
    split
    · rename_i hne
      have hne' : ¬ s = 0 := by simpa using hne
      have hstep : ∀ v : Int, dig (strOfNums [v] ++ o).size ((IntKind.i64.wrap (Int.tdiv s 10)).natAbs : Int) := by
        intro v
        rw [quo10_abs hs, ByteArray.size_append, strOfNums_size]
        show dig (1 + _) _
        rw [Nat.add_comm]
        exact dig_step h (by omega)
      split
      · exact ih _ _ (I64_wrap _) (hstep _)
      · exact ih _ _ (I64_wrap _) (hstep _)
    · exact haft _ _ h.1
theorem spec_Decimal_size {p0 : Int} (h : I64 p0) : (spec_Decimal p0).size ≤ 20 := by
  unfold spec_Decimal
  split
  · decide
  · exact spec_Decimal_l1_size _ _ _ _ h ⟨Nat.zero_le _, by
      show (p0.natAbs : Int) < 10 ^ 19
      have := h.1
      have := h.2
      omega⟩
theorem impl_Decimal_size {p0 : Int} (h : I64 p0) : (impl_Decimal p0).size ≤ 20 := by
  rw [← Decimal_twin h]
  exact spec_Decimal_size h

end Go.Proofs.YtnjidaonbcbphaaGreatDoor.Fw

/-
  Contracts of the other kind, carried over to the abstract machine: within, Decimal, figures, hexadecimal texts. No condition.
-/
namespace Go.Proofs.YtnjidaonbcbphaaGreatDoor.Fw
open Go.RowKit
set_option linter.unusedVariables false
set_option maxRecDepth 100000

theorem argsC {w : World} : ∀ {us vs : List Value}, ArgsR w vs (us.map fun u => .o (.c u)) → vs = us
  | [], [], _ => rfl
  | [], _ :: _, h => h.elim
  | _ :: _, [], h => h.elim
  | u :: us, v :: vs, h => by
    obtain ⟨h1, h2⟩ := h
    have e : v = u := h1
    rw [e, argsC h2]
theorem k_impl_within (p0 p1 p2 : Int) : CTs 83 [.o (.c (.int .i64 p0)), .o (.c (.int .i64 p1)), .o (.c (.int .i64 p2))] [.c (.bool (impl_within p0 p1 p2))] := CT.flat fun w vs hG hA => by
  obtain rfl := argsC (us := [.int .i64 p0, .int .i64 p1, .int .i64 p2]) hA
  exact c_impl_within p0 p1 p2
theorem k_spec_l01In (p0 p1 p2 : Int) : CTs 110 [.o (.c (.int .i64 p0)), .o (.c (.int .i64 p1)), .o (.c (.int .i64 p2))] [.c (.bool (spec_l01In p0 p1 p2))] := CT.flat fun w vs hG hA => by
  obtain rfl := argsC (us := [.int .i64 p0, .int .i64 p1, .int .i64 p2]) hA
  exact c_spec_l01In p0 p1 p2
theorem k_spec_Decimal (p0 : Int) (h : I64 p0) : CTs 48 [.o (.c (.int .i64 p0))] [.c (.string (spec_Decimal p0))] := CT.flat fun w vs hG hA => by
  obtain rfl := argsC (us := [.int .i64 p0]) hA
  exact c_spec_Decimal p0 h
theorem k_impl_Decimal (p0 : Int) (h : I64 p0) : CTs 58 [.o (.c (.int .i64 p0))] [.c (.string (impl_Decimal p0))] := CT.flat fun w vs hG hA => by
  obtain rfl := argsC (us := [.int .i64 p0]) hA
  exact c_impl_Decimal p0 h (Gl8 w hG)
def fig (p0 : Int) : UInt8 := bif decide (p0 < 10) then u8of (IntKind.i64.wrap (48 + p0)) else u8of (IntKind.i64.wrap (IntKind.i64.wrap (97 + p0) - 10))
theorem fig_eq (p0 : Int) : spec_l01Figure p0 = ((fig p0).toNat : Int) := by
  unfold spec_l01Figure fig
  by_cases h : p0 < 10
  · simp only [h, decide_true, if_true, cond_true, wrap_u8]
  · simp only [h, decide_false, Bool.false_eq_true, if_false, cond_false, wrap_u8]
theorem k_spec_l01Figure (p0 : Int) : CTs 120 [.o (.c (.int .i64 p0))] [.c (.int .u8 (fig p0).toNat)] := CT.flat fun w vs hG hA => by
  obtain rfl := argsC (us := [.int .i64 p0]) hA
  rw [← fig_eq]
  exact c_spec_l01Figure p0
def hexEnc (xs : List UInt8) : ByteArray := ⟨(Lib.Hx.encode xs).toArray⟩
theorem k_hexEnc (xs : List UInt8) (hne : xs ≠ []) (h : 2 * xs.length ≤ 281474976710656) : CTs 132 [.o (.sl UInt8 instDatUInt8 xs)] [.c (.string (hexEnc xs))] := CT.flat fun w vs hG hA => by
  cases vs with
  | nil => exact hA.elim
  | cons v r =>
    cases r with
    | cons => exact hA.2.elim
    | nil =>
      obtain ⟨A, cap, rfl, h1, h2, h3⟩ := (show SlR (Old w) w v xs from hA.1)
      obtain ⟨ad, rfl, hb, hc⟩ := h3 hne
      have hcell : ∀ i (hi : i < xs.length), w.cell? (ad.add i) = some (.int .u8 ((xs[i]'hi).toNat : Int)) := fun i hi => by
        obtain ⟨cs, hrd, hcs⟩ := hc i xs[i] (List.getElem?_eq_getElem hi)
        obtain ⟨v, r, rfl, hv, rfl⟩ := (inferInstance : Str UInt8).op hrd
        have h0 := hcs 0 v rfl
        have e1 : i * Dat.sz UInt8 = i := Nat.mul_one i
        rw [e1, Addr.add_zero'] at h0
        rw [h0, hv]
        rfl
      obtain ⟨bk, o, sp⟩ := ad
      have hsp : sp = none := by
        have h0 := hcell 0 (List.length_pos_iff.2 hne)
        rw [Addr.add_zero'] at h0
        cases sp with
        | none => rfl
        | some s =>
          unfold World.cell? at h0
          split at h0
          · simp at h0
          · simp at h0
      subst hsp
      refine (Tryz.hex_EncodeToString_bytes bk o cap xs w (fun i hi => ?_) hb h).mono fun e w2 h => h
      have := hcell i hi
      have e : (⟨bk, o, none⟩ : Addr).add i = ⟨bk, o + i, none⟩ := by
        unfold Addr.add
        split <;> simp_all
      rw [e] at this
      exact this
theorem sbytes_length (s : ByteArray) : (sbytes s).length = s.size := by unfold sbytes; rw [Array.length_toList]; rfl
theorem size_ne {s : ByteArray} (h : ¬ s = ⟨#[]⟩) : s.size ≠ 0 := by
  intro e
  apply h
  apply ByteArray.ext
  exact Array.eq_empty_of_size_eq_zero e
end Go.Proofs.YtnjidaonbcbphaaGreatDoor.Fw

/-
  Contracts of library functions that hand back errors or bytes, carried over to the abstract machine: Atoi, Fields, DecodeString, EncodeToString. No condition.
-/
namespace Go.Proofs.YtnjidaonbcbphaaGreatDoor.Fw
open Go.RowKit
set_option linter.unusedVariables false
set_option maxRecDepth 100000

theorem k_EncodedLen0 : CTs 181 [.o (.c (.int .i64 0))] [.c (.int .i64 0)] := CT.flat fun w vs hG hA => by
  obtain rfl := argsC (us := [.int .i64 0]) hA
  refine (Tryz.hex_EncodedLen 0 (by omega) (by omega) w).mono fun e w2 h => ?_
  obtain ⟨h1, rfl⟩ := h
  exact ⟨h1, Below.refl _ _⟩
theorem fok181 : FnOk Tryz.prog 181 := ⟨_, Tryz.func181, rfl, by kernel_rfl⟩
theorem fok182 : FnOk Tryz.prog 182 := ⟨_, Tryz.func182, rfl, by kernel_rfl⟩
theorem c_hexEncode0 : CTs 182 [.o (.sl UInt8 instDatUInt8 ([] : List UInt8)), .o (.sl UInt8 instDatUInt8 ([] : List UInt8))] [Re.c (.int .i64 0)] := by
  refine en Tryz.func182 Tryz.ntmps182 fun w hG hgd => ?_
  refine ad 16 ?_
  refine Run.loopM (ι := Unit) (T := ()) (fun _ => ()) (fun _ => ⟨33, 1, [(1, .sl 0 0), (9, .v (.int .i64 0)), (10, .v (.int .i64 0))], [(0, .ros UInt8 instDatUInt8 ([] : List UInt8))]⟩) (fun _ => True) (fun _ => 0) () [1] [1] rfl trivial su (by decide) ?_
  rintro ⟨⟩ _ _
  refine ad 5 ?_
  refine cd (fun h => absurd h (show ¬ decide ((0 : Int) < 0) = true by decide)) (fun h => ?_)
  refine ad 8 ?_
  exact rz (rs := [.tmp 4]) rfl
theorem c_hexEncStr0 : CTs 132 [.o (.sl UInt8 instDatUInt8 ([] : List UInt8))] [Re.c (.string ⟨#[]⟩)] := by
  refine en Tryz.func132 Tryz.ntmps132 fun w hG hgd => ?_
  refine ad 8 ?_
  refine op (cl k_EncodedLen0 fok181) ?_
  refine op (ma 0 (0 : UInt8)) ?_
  refine ad 6 ?_
  refine op (cl c_hexEncode0 fok182) ?_
  refine ad 4 ?_
  refine op (ts ([] : List UInt8)) ?_
  refine ad 2 ?_
  exact rz (rs := [.tmp 2]) rfl
theorem k_hexEncA (xs : List UInt8) (h : 2 * xs.length ≤ 281474976710656) : CTs 132 [.o (.sl UInt8 instDatUInt8 xs)] [.c (.string (hexEnc xs))] := by
  by_cases hne : xs = []
  · subst hne
    exact c_hexEncStr0
  · exact k_hexEnc xs hne h

def atoi (s : ByteArray) : Int × Bool := match Lib.atoiAll s.data.toList with
  | .ok v => (v, true)
  | .range => (Lib.atoiSat s.data.toList, false)
  | _ => (0, false)
theorem atoi_I64 (s : ByteArray) : I64 (atoi s).1 := by
  unfold atoi
  cases h : Lib.atoiAll s.data.toList with
  | ok v =>
    show I64 v
    unfold Lib.atoiAll at h
    split at h
    · cases h
    · simp only at h
      split at h
      · cases h
      · cases h
      · split at h
        · cases h
        · split at h
          · cases h
          · cases h
            unfold I64
            split <;> omega
  | range =>
    show I64 (Lib.atoiSat s.data.toList)
    unfold Lib.atoiSat I64
    split <;> omega
  | _ => exact (show I64 0 from ⟨by decide, by decide⟩)
theorem resE {w w' : World} {x u : Value} (hb : Below w.heap.size w w') : ResR (Old w) w w' (.tuple #[x, u]) [.c x, .c u] :=
  ⟨Keep.of_below hb fun _ h => h, [x, u], [], rfl, ⟨[], [], rfl, ⟨rfl, rfl⟩, [], [], rfl, ⟨rfl, rfl⟩, rfl⟩, List.nodup_nil, fun b hb => by cases hb⟩
theorem k_atoi (p0 : ByteArray) (hz : p0.size ≤ 281474976710656) : CTEs 152 [.o (.c (.string p0))] (fun u => [.c (.int .i64 (atoi p0).1), .c u]) (atoi p0).2 := fun w vs hG hA => by
  obtain rfl := argsC (us := [.string p0]) hA
  unfold atoi
  cases h : Lib.atoiAll p0.data.toList with
  | ok v =>
    refine (Tryz.strconv_Atoi_ok p0 (by omega) v h w).mono fun e w2 hr => ?_
    obtain ⟨rfl, hw⟩ := hr
    refine ⟨.nilIface, rfl, _, rfl, resE ?_⟩
    rcases hw with rfl | ⟨t, rfl⟩
    · exact Below.refl _ _
    · exact Lib.bytesWorld_below _ _ _
  | range =>
    obtain ⟨te, pe, hE⟩ := Gl5 w hG
    refine (Any.strconv_Atoi_range Tryz.laysC172 p0 hz h _ w hE (.inr ⟨te, pe, rfl⟩)).mono fun e w2 hr => ?_
    obtain ⟨N, rfl, _, _, hb⟩ := hr
    exact ⟨_, ⟨_, _, rfl⟩, _, rfl, resE hb⟩
  | _ =>
    obtain ⟨te, pe, hE⟩ := Gl4 w hG
    refine (Any.strconv_Atoi_syntax Tryz.laysC172 p0 hz h _ w hE (.inr ⟨te, pe, rfl⟩)).mono fun e w2 hr => ?_
    obtain ⟨N, rfl, _, _, hb⟩ := hr
    exact ⟨_, ⟨_, _, rfl⟩, _, rfl, resE hb⟩

theorem even_of {n : Nat} (h : (!decide (Int.tmod (n : Int) 2 = 0)) = false) : n % 2 = 0 := by
  have h2 : Int.tmod (n : Int) 2 = 0 := by simpa using h
  have h3 : ((n % 2 : Nat) : Int) = 0 := by rw [← h2]; rfl
  omega
/-- A row that a library call hands back, as data. -/
theorem slo_row {α : Type} [Dat α] {w : World} {base T n : Nat} {v : Value} {mk : α → Value} {xs : List α} (hsz : Dat.sz α = 1) (ho : ∀ x, x ∈ xs → Dat.own w [mk x] x []) (h : w.ownsRow base T 1 v n (xs.map mk)) (hn : n = xs.length) :
    ∃ F, SlO w v xs F ∧ F.Nodup ∧ ∀ b ∈ F, base ≤ b := by
  subst hn
  obtain ⟨hl, h⟩ := h
  rcases h with ⟨rfl, hz⟩ | ⟨g, cap, cur, rfl, hg, hh, h1, h2, h3, h4⟩
  · exact ⟨[], .inl ⟨rfl, List.length_eq_zero_iff.1 hz, rfl⟩, List.nodup_nil, fun b hb => by cases hb⟩
  · refine ⟨[g], .inr ⟨g, cap, cur, T, List.replicate xs.length [], rfl, hh, h1, h2, by rw [hsz, h3]; exact Nat.le_refl _, ?_, by simp, fun i x hi => ⟨[], ?_, ?_⟩⟩, by simp, fun b hb => by rw [List.mem_singleton.1 hb]; exact hg⟩
    · have : ∀ n, (List.replicate n ([] : List Nat)).flatten = [] := by
        intro n
        induction n with
        | zero => rfl
        | succ n ih => rw [List.replicate_succ, List.flatten_cons, ih]; rfl
      rw [this]
    · have hlt := (List.getElem?_eq_some_iff.1 hi).1
      simp [hlt]
    · have hlt := (List.getElem?_eq_some_iff.1 hi).1
      have hget : cur.toList[i]? = some (mk x) := by
        have := congrArg (fun l => l[i]?) h4
        simp only [List.getElem?_take, List.getElem?_map, hi, Option.map_some] at this
        rw [if_pos (by omega)] at this
        exact this
      have e : (cur.toList.drop (i * Dat.sz α)).take (Dat.sz α) = [mk x] := by
        rw [hsz, Nat.mul_one]
        obtain ⟨hi2, hx⟩ := List.getElem?_eq_some_iff.1 hget
        rw [List.drop_eq_getElem_cons hi2, hx]
        rfl
      rw [e]
      exact ho x (List.mem_of_getElem? hi)
def decodeS (s : ByteArray) : List UInt8 × Bool := ((Lib.Hx.decode s.data.toList).1, match (Lib.Hx.decode s.data.toList).2 with
  | .ok => true
  | _ => false)
theorem k_decode (p0 : ByteArray) (hz : p0.size ≤ 281474976710656) : CTEs 195 [.o (.c (.string p0))] (fun u => [.sl UInt8 instDatUInt8 (decodeS p0).1, .c u]) (decodeS p0).2 := fun w vs hG hA => by
  obtain rfl := argsC (us := [.string p0]) hA
  obtain ⟨te, pe, hE⟩ := Gl6 w hG
  refine (Tryz.hex_DecodeString_owns p0 w _ hE hz).mono fun e w2 hr => ?_
  obtain ⟨v, rfl, hrow, hb⟩ := hr
  obtain ⟨F, h1, h2, h3⟩ := slo_row (α := UInt8) (mk := fun b => Value.int .u8 (b.toNat : Int)) rfl (fun x _ => ⟨⟨rfl, trivial⟩, rfl⟩) hrow rfl
  refine ⟨_, ?_, _, rfl, Keep.of_below hb fun _ h => h, [v, _], F ++ [], rfl, ⟨F, [], rfl, h1, [], [], rfl, ⟨rfl, rfl⟩, rfl⟩, by rw [List.append_nil]; exact h2, fun b hbF => ?_⟩
  · unfold decodeS ErrIs
    cases hd : (Lib.Hx.decode p0.data.toList).2 with
    | ok => rfl
    | bad c => exact ⟨_, _, rfl⟩
    | odd => exact ⟨_, _, rfl⟩
  · rw [List.append_nil] at hbF
    have := h3 b hbF
    show ¬ b < w.heap.size
    omega
end Go.Proofs.YtnjidaonbcbphaaGreatDoor.Fw

/- Contracts: each call returns what the model says. By program (wip/am/gen2.py). -/
namespace Go.Proofs.YtnjidaonbcbphaaGreatDoor.Fw
open Go.RowKit
set_option linter.unusedVariables false
set_option maxRecDepth 100000

theorem fok61 : FnOk Tryz.prog 61 := ⟨_, Tryz.func61, rfl, by kernel_rfl⟩
theorem fok83 : FnOk Tryz.prog 83 := ⟨_, Tryz.func83, rfl, by kernel_rfl⟩
theorem fok90 : FnOk Tryz.prog 90 := ⟨_, Tryz.func90, rfl, by kernel_rfl⟩
theorem fok110 : FnOk Tryz.prog 110 := ⟨_, Tryz.func110, rfl, by kernel_rfl⟩
theorem fok120 : FnOk Tryz.prog 120 := ⟨_, Tryz.func120, rfl, by kernel_rfl⟩
theorem fok132 : FnOk Tryz.prog 132 := ⟨_, Tryz.func132, rfl, by kernel_rfl⟩
/- F90 loop.example/g00974/impl.fieldsOf -/
def impl_fieldsOf (p0 : Int) : ByteArray := bif (decide (p0 = 1)) || (decide (p0 = 3)) then ⟨#[78]⟩ else (bif (decide (p0 = 2)) || (decide (p0 = 4)) then ⟨#[78, 84]⟩ else (bif decide (p0 = 6) then ⟨#[78, 65, 66]⟩ else (bif decide (p0 = 7) then ⟨#[78, 65, 88]⟩ else (bif decide (p0 = 8) then ⟨#[78, 65]⟩ else (bif (decide (p0 = 10)) || (decide (p0 = 20)) then ⟨#[65, 88]⟩ else (bif (decide (p0 = 11)) || ((decide (p0 = 13)) || ((decide (p0 = 14)) || ((decide (p0 = 18)) || ((decide (p0 = 19)) || (decide (p0 = 21)))))) then ⟨#[65]⟩ else (bif decide (p0 = 16) then ⟨#[65, 66]⟩ else (bif decide (p0 = 22) then ⟨#[88]⟩ else ⟨#[]⟩))))))))
theorem c_impl_fieldsOf (p0 : Int) : CTs 90 [.o (.c (.int .i64 p0))] [Re.c (.string (impl_fieldsOf p0))] := by
  refine en Tryz.func90 Tryz.ntmps90 fun w hG hgd => ?_
  have hM := impl_fieldsOf.eq_1 p0
  refine ad 16 ?_
  refine Run.mid ⟨30, 0, [(3, .v (.int .i64 p0)), (4, .v (.bool ((decide (p0 = 1)) || (decide (p0 = 3)))))], []⟩ ?_ ?_
  · refine cd (fun h1 => ?_) (fun h1 => ?_)
    ·
      refine ad 1 ?_
      exact Run.at [] [] (by first | exact su | (rw [h1]; exact su)) (by decide)
    ·
      refine ad 4 ?_
      exact Run.at [] [] (by first | exact su | (rw [h1]; exact su)) (by decide)
  refine cd (fun h2 => ?_) (fun h2 => ?_)
  ·
    have hM := hM.trans (bt h2)
    refine ad 4 ?_
    exact rz (rs := [.tmp 2]) (congrArg (fun x => [Re.c (.string x)]) hM)
  ·
    have hM := hM.trans (bf h2)
    refine ad 6 ?_
    refine Run.mid ⟨30, 0, [(3, .v (.int .i64 p0)), (7, .v (.bool ((decide (p0 = 2)) || (decide (p0 = 4)))))], []⟩ ?_ ?_
    · refine cd (fun h3 => ?_) (fun h3 => ?_)
      ·
        refine ad 1 ?_
        exact Run.at [] [] (by first | exact su | (rw [h3]; exact su)) (by decide)
      ·
        refine ad 4 ?_
        exact Run.at [] [] (by first | exact su | (rw [h3]; exact su)) (by decide)
    refine cd (fun h4 => ?_) (fun h4 => ?_)
    ·
      have hM := hM.trans (bt h4)
      refine ad 4 ?_
      exact rz (rs := [.tmp 2]) (congrArg (fun x => [Re.c (.string x)]) hM)
    ·
      have hM := hM.trans (bf h4)
      refine ad 5 ?_
      refine cd (fun h5 => ?_) (fun h5 => ?_)
      ·
        have hM := hM.trans (bt h5)
        refine ad 4 ?_
        exact rz (rs := [.tmp 2]) (congrArg (fun x => [Re.c (.string x)]) hM)
      ·
        have hM := hM.trans (bf h5)
        refine ad 5 ?_
        refine cd (fun h6 => ?_) (fun h6 => ?_)
        ·
          have hM := hM.trans (bt h6)
          refine ad 4 ?_
          exact rz (rs := [.tmp 2]) (congrArg (fun x => [Re.c (.string x)]) hM)
        ·
          have hM := hM.trans (bf h6)
          refine ad 5 ?_
          refine cd (fun h7 => ?_) (fun h7 => ?_)
          ·
            have hM := hM.trans (bt h7)
            refine ad 4 ?_
            exact rz (rs := [.tmp 2]) (congrArg (fun x => [Re.c (.string x)]) hM)
          ·
            have hM := hM.trans (bf h7)
            refine ad 6 ?_
            refine Run.mid ⟨30, 0, [(3, .v (.int .i64 p0)), (16, .v (.bool ((decide (p0 = 10)) || (decide (p0 = 20)))))], []⟩ ?_ ?_
            · refine cd (fun h8 => ?_) (fun h8 => ?_)
              ·
                refine ad 1 ?_
                exact Run.at [] [] (by first | exact su | (rw [h8]; exact su)) (by decide)
              ·
                refine ad 4 ?_
                exact Run.at [] [] (by first | exact su | (rw [h8]; exact su)) (by decide)
            refine cd (fun h9 => ?_) (fun h9 => ?_)
            ·
              have hM := hM.trans (bt h9)
              refine ad 4 ?_
              exact rz (rs := [.tmp 2]) (congrArg (fun x => [Re.c (.string x)]) hM)
            ·
              have hM := hM.trans (bf h9)
              refine ad 6 ?_
              refine Run.mid ⟨30, 0, [(3, .v (.int .i64 p0)), (19, .v (.bool ((decide (p0 = 11)) || ((decide (p0 = 13)) || ((decide (p0 = 14)) || ((decide (p0 = 18)) || ((decide (p0 = 19)) || (decide (p0 = 21)))))))))], []⟩ ?_ ?_
              · refine cd (fun h10 => ?_) (fun h10 => ?_)
                ·
                  refine ad 1 ?_
                  exact Run.at [] [] (by first | exact su | (rw [h10]; exact su)) (by decide)
                ·
                  refine ad 5 ?_
                  refine Run.mid ⟨30, 0, [(3, .v (.int .i64 p0)), (19, .v (.bool ((decide (p0 = 13)) || ((decide (p0 = 14)) || ((decide (p0 = 18)) || ((decide (p0 = 19)) || (decide (p0 = 21))))))))], []⟩ ?_ ?_
                  · refine cd (fun h11 => ?_) (fun h11 => ?_)
                    ·
                      refine ad 1 ?_
                      exact Run.at [] [] (by first | exact su | (rw [h11]; exact su)) (by decide)
                    ·
                      refine ad 5 ?_
                      refine Run.mid ⟨30, 0, [(3, .v (.int .i64 p0)), (19, .v (.bool ((decide (p0 = 14)) || ((decide (p0 = 18)) || ((decide (p0 = 19)) || (decide (p0 = 21)))))))], []⟩ ?_ ?_
                      · refine cd (fun h12 => ?_) (fun h12 => ?_)
                        ·
                          refine ad 1 ?_
                          exact Run.at [] [] (by first | exact su | (rw [h12]; exact su)) (by decide)
                        ·
                          refine ad 5 ?_
                          refine Run.mid ⟨30, 0, [(3, .v (.int .i64 p0)), (19, .v (.bool ((decide (p0 = 18)) || ((decide (p0 = 19)) || (decide (p0 = 21))))))], []⟩ ?_ ?_
                          · refine cd (fun h13 => ?_) (fun h13 => ?_)
                            ·
                              refine ad 1 ?_
                              exact Run.at [] [] (by first | exact su | (rw [h13]; exact su)) (by decide)
                            ·
                              refine ad 5 ?_
                              refine Run.mid ⟨30, 0, [(3, .v (.int .i64 p0)), (19, .v (.bool ((decide (p0 = 19)) || (decide (p0 = 21)))))], []⟩ ?_ ?_
                              · refine cd (fun h14 => ?_) (fun h14 => ?_)
                                ·
                                  refine ad 1 ?_
                                  exact Run.at [] [] (by first | exact su | (rw [h14]; exact su)) (by decide)
                                ·
                                  refine ad 4 ?_
                                  exact Run.at [] [] (by first | exact su | (rw [h14]; exact su)) (by decide)
                              exact Run.at [] [] (by first | exact su | (rw [h13]; exact su)) (by decide)
                          exact Run.at [] [] (by first | exact su | (rw [h12]; exact su)) (by decide)
                      exact Run.at [] [] (by first | exact su | (rw [h11]; exact su)) (by decide)
                  exact Run.at [] [] (by first | exact su | (rw [h10]; exact su)) (by decide)
              refine cd (fun h15 => ?_) (fun h15 => ?_)
              ·
                have hM := hM.trans (bt h15)
                refine ad 4 ?_
                exact rz (rs := [.tmp 2]) (congrArg (fun x => [Re.c (.string x)]) hM)
              ·
                have hM := hM.trans (bf h15)
                refine ad 5 ?_
                refine cd (fun h16 => ?_) (fun h16 => ?_)
                ·
                  have hM := hM.trans (bt h16)
                  refine ad 4 ?_
                  exact rz (rs := [.tmp 2]) (congrArg (fun x => [Re.c (.string x)]) hM)
                ·
                  have hM := hM.trans (bf h16)
                  refine ad 5 ?_
                  refine cd (fun h17 => ?_) (fun h17 => ?_)
                  ·
                    have hM := hM.trans (bt h17)
                    refine ad 4 ?_
                    exact rz (rs := [.tmp 2]) (congrArg (fun x => [Re.c (.string x)]) hM)
                  ·
                    have hM := hM.trans (bf h17)
                    refine ad 6 ?_
                    exact rz (rs := [.tmp 2]) (congrArg (fun x => [Re.c (.string x)]) hM)
theorem asc_impl_fieldsOf (p0 : Int) : ascii (impl_fieldsOf p0) := by
  unfold impl_fieldsOf
  repeat' (first | refine asc_bif ?_ ?_ | exact ascii_of (by decide +kernel))
theorem szb {b : Bool} {x y : ByteArray} {n : Nat} (hx : x.size ≤ n) (hy : y.size ≤ n) : (bif b then x else y).size ≤ n := by cases b <;> assumption
theorem impl_fieldsOf_size (p0 : Int) : (impl_fieldsOf p0).size ≤ 3 := by
  unfold impl_fieldsOf
  repeat' (first | refine szb ?_ ?_ | exact Nat.le_of_ble_eq_true rfl)

/- F98 loop.example/g00974/spec.l38Uses -/
def spec_l38Uses (p0 : Int) : ByteArray := bif (decide (p0 = 1)) || (decide (p0 = 3)) then ⟨#[110]⟩ else (bif (decide (p0 = 2)) || (decide (p0 = 4)) then ⟨#[110, 116]⟩ else (bif decide (p0 = 6) then ⟨#[110, 97, 98]⟩ else (bif decide (p0 = 7) then ⟨#[110, 97, 120]⟩ else (bif decide (p0 = 8) then ⟨#[110, 97]⟩ else (bif (decide (p0 = 10)) || (decide (p0 = 20)) then ⟨#[97, 120]⟩ else (bif (decide (p0 = 11)) || ((decide (p0 = 13)) || ((decide (p0 = 14)) || ((decide (p0 = 18)) || ((decide (p0 = 19)) || (decide (p0 = 21)))))) then ⟨#[97]⟩ else (bif decide (p0 = 16) then ⟨#[97, 98]⟩ else (bif decide (p0 = 22) then ⟨#[120]⟩ else ⟨#[]⟩))))))))
theorem c_spec_l38Uses (p0 : Int) : CTs 98 [.o (.c (.int .i64 p0))] [Re.c (.string (spec_l38Uses p0))] := by
  refine en Tryz.func98 Tryz.ntmps98 fun w hG hgd => ?_
  have hM := spec_l38Uses.eq_1 p0
  refine ad 16 ?_
  refine Run.mid ⟨30, 0, [(3, .v (.int .i64 p0)), (4, .v (.bool ((decide (p0 = 1)) || (decide (p0 = 3)))))], []⟩ ?_ ?_
  · refine cd (fun h1 => ?_) (fun h1 => ?_)
    ·
      refine ad 1 ?_
      exact Run.at [] [] (by first | exact su | (rw [h1]; exact su)) (by decide)
    ·
      refine ad 4 ?_
      exact Run.at [] [] (by first | exact su | (rw [h1]; exact su)) (by decide)
  refine cd (fun h2 => ?_) (fun h2 => ?_)
  ·
    have hM := hM.trans (bt h2)
    refine ad 4 ?_
    exact rz (rs := [.tmp 2]) (congrArg (fun x => [Re.c (.string x)]) hM)
  ·
    have hM := hM.trans (bf h2)
    refine ad 6 ?_
    refine Run.mid ⟨30, 0, [(3, .v (.int .i64 p0)), (7, .v (.bool ((decide (p0 = 2)) || (decide (p0 = 4)))))], []⟩ ?_ ?_
    · refine cd (fun h3 => ?_) (fun h3 => ?_)
      ·
        refine ad 1 ?_
        exact Run.at [] [] (by first | exact su | (rw [h3]; exact su)) (by decide)
      ·
        refine ad 4 ?_
        exact Run.at [] [] (by first | exact su | (rw [h3]; exact su)) (by decide)
    refine cd (fun h4 => ?_) (fun h4 => ?_)
    ·
      have hM := hM.trans (bt h4)
      refine ad 4 ?_
      exact rz (rs := [.tmp 2]) (congrArg (fun x => [Re.c (.string x)]) hM)
    ·
      have hM := hM.trans (bf h4)
      refine ad 5 ?_
      refine cd (fun h5 => ?_) (fun h5 => ?_)
      ·
        have hM := hM.trans (bt h5)
        refine ad 4 ?_
        exact rz (rs := [.tmp 2]) (congrArg (fun x => [Re.c (.string x)]) hM)
      ·
        have hM := hM.trans (bf h5)
        refine ad 5 ?_
        refine cd (fun h6 => ?_) (fun h6 => ?_)
        ·
          have hM := hM.trans (bt h6)
          refine ad 4 ?_
          exact rz (rs := [.tmp 2]) (congrArg (fun x => [Re.c (.string x)]) hM)
        ·
          have hM := hM.trans (bf h6)
          refine ad 5 ?_
          refine cd (fun h7 => ?_) (fun h7 => ?_)
          ·
            have hM := hM.trans (bt h7)
            refine ad 4 ?_
            exact rz (rs := [.tmp 2]) (congrArg (fun x => [Re.c (.string x)]) hM)
          ·
            have hM := hM.trans (bf h7)
            refine ad 6 ?_
            refine Run.mid ⟨30, 0, [(3, .v (.int .i64 p0)), (16, .v (.bool ((decide (p0 = 10)) || (decide (p0 = 20)))))], []⟩ ?_ ?_
            · refine cd (fun h8 => ?_) (fun h8 => ?_)
              ·
                refine ad 1 ?_
                exact Run.at [] [] (by first | exact su | (rw [h8]; exact su)) (by decide)
              ·
                refine ad 4 ?_
                exact Run.at [] [] (by first | exact su | (rw [h8]; exact su)) (by decide)
            refine cd (fun h9 => ?_) (fun h9 => ?_)
            ·
              have hM := hM.trans (bt h9)
              refine ad 4 ?_
              exact rz (rs := [.tmp 2]) (congrArg (fun x => [Re.c (.string x)]) hM)
            ·
              have hM := hM.trans (bf h9)
              refine ad 6 ?_
              refine Run.mid ⟨30, 0, [(3, .v (.int .i64 p0)), (19, .v (.bool ((decide (p0 = 11)) || ((decide (p0 = 13)) || ((decide (p0 = 14)) || ((decide (p0 = 18)) || ((decide (p0 = 19)) || (decide (p0 = 21)))))))))], []⟩ ?_ ?_
              · refine cd (fun h10 => ?_) (fun h10 => ?_)
                ·
                  refine ad 1 ?_
                  exact Run.at [] [] (by first | exact su | (rw [h10]; exact su)) (by decide)
                ·
                  refine ad 5 ?_
                  refine Run.mid ⟨30, 0, [(3, .v (.int .i64 p0)), (19, .v (.bool ((decide (p0 = 13)) || ((decide (p0 = 14)) || ((decide (p0 = 18)) || ((decide (p0 = 19)) || (decide (p0 = 21))))))))], []⟩ ?_ ?_
                  · refine cd (fun h11 => ?_) (fun h11 => ?_)
                    ·
                      refine ad 1 ?_
                      exact Run.at [] [] (by first | exact su | (rw [h11]; exact su)) (by decide)
                    ·
                      refine ad 5 ?_
                      refine Run.mid ⟨30, 0, [(3, .v (.int .i64 p0)), (19, .v (.bool ((decide (p0 = 14)) || ((decide (p0 = 18)) || ((decide (p0 = 19)) || (decide (p0 = 21)))))))], []⟩ ?_ ?_
                      · refine cd (fun h12 => ?_) (fun h12 => ?_)
                        ·
                          refine ad 1 ?_
                          exact Run.at [] [] (by first | exact su | (rw [h12]; exact su)) (by decide)
                        ·
                          refine ad 5 ?_
                          refine Run.mid ⟨30, 0, [(3, .v (.int .i64 p0)), (19, .v (.bool ((decide (p0 = 18)) || ((decide (p0 = 19)) || (decide (p0 = 21))))))], []⟩ ?_ ?_
                          · refine cd (fun h13 => ?_) (fun h13 => ?_)
                            ·
                              refine ad 1 ?_
                              exact Run.at [] [] (by first | exact su | (rw [h13]; exact su)) (by decide)
                            ·
                              refine ad 5 ?_
                              refine Run.mid ⟨30, 0, [(3, .v (.int .i64 p0)), (19, .v (.bool ((decide (p0 = 19)) || (decide (p0 = 21)))))], []⟩ ?_ ?_
                              · refine cd (fun h14 => ?_) (fun h14 => ?_)
                                ·
                                  refine ad 1 ?_
                                  exact Run.at [] [] (by first | exact su | (rw [h14]; exact su)) (by decide)
                                ·
                                  refine ad 4 ?_
                                  exact Run.at [] [] (by first | exact su | (rw [h14]; exact su)) (by decide)
                              exact Run.at [] [] (by first | exact su | (rw [h13]; exact su)) (by decide)
                          exact Run.at [] [] (by first | exact su | (rw [h12]; exact su)) (by decide)
                      exact Run.at [] [] (by first | exact su | (rw [h11]; exact su)) (by decide)
                  exact Run.at [] [] (by first | exact su | (rw [h10]; exact su)) (by decide)
              refine cd (fun h15 => ?_) (fun h15 => ?_)
              ·
                have hM := hM.trans (bt h15)
                refine ad 4 ?_
                exact rz (rs := [.tmp 2]) (congrArg (fun x => [Re.c (.string x)]) hM)
              ·
                have hM := hM.trans (bf h15)
                refine ad 5 ?_
                refine cd (fun h16 => ?_) (fun h16 => ?_)
                ·
                  have hM := hM.trans (bt h16)
                  refine ad 4 ?_
                  exact rz (rs := [.tmp 2]) (congrArg (fun x => [Re.c (.string x)]) hM)
                ·
                  have hM := hM.trans (bf h16)
                  refine ad 5 ?_
                  refine cd (fun h17 => ?_) (fun h17 => ?_)
                  ·
                    have hM := hM.trans (bt h17)
                    refine ad 4 ?_
                    exact rz (rs := [.tmp 2]) (congrArg (fun x => [Re.c (.string x)]) hM)
                  ·
                    have hM := hM.trans (bf h17)
                    refine ad 6 ?_
                    exact rz (rs := [.tmp 2]) (congrArg (fun x => [Re.c (.string x)]) hM)
theorem spec_l38Uses_size (p0 : Int) : (spec_l38Uses p0).size ≤ 3 := by
  unfold spec_l38Uses
  repeat' (first | refine szb ?_ ?_ | exact Nat.le_of_ble_eq_true rfl)

/- F87 loop.example/g00974/impl.CallOk -/
def impl_CallOk (p0 : Call) : Bool := (((impl_within p0.Kind 1 22) && (decide ((p0.Name.size : Int) ≤ 20))) && (decide ((p0.To.size : Int) ≤ 20))) && (decide ((p0.Text.size : Int) ≤ 64))
theorem c_impl_CallOk (p0 : Call) : CTs 87 [.o (.st Call _ inferInstance p0)] [Re.c (.bool (impl_CallOk p0))] := by
  refine en Tryz.func87 Tryz.ntmps87 fun w hG hgd => ?_
  obtain ⟨hg_p0, _⟩ := hgd
  have hM := impl_CallOk.eq_1 p0
  refine ad 9 ?_
  refine op (cl (k_impl_within p0.Kind 1 22) fok83) ?_
  refine ad 1 ?_
  refine ag 5 ?_
  refine ad 1 ?_
  refine ag 5 ?_
  refine ad 1 ?_
  refine ag 5 ?_
  refine ad 2 ?_
  exact rz (rs := [.tmp 2]) (congrArg (fun x => [Re.c (.bool x)]) hM)
theorem impl_CallOk_t {p0 : Call} (h : impl_CallOk p0 = true) : (1 ≤ p0.Kind ∧ p0.Kind ≤ 22) ∧ p0.Name.size ≤ 20 ∧ p0.To.size ≤ 20 ∧ p0.Text.size ≤ 64 := by
  unfold impl_CallOk at h
  simp only [Bool.and_eq_true, decide_eq_true_eq] at h
  obtain ⟨⟨⟨h1, h2⟩, h3⟩, h4⟩ := h
  exact ⟨impl_within_t h1, by omega, by omega, by omega⟩

/- F107 loop.example/g00974/spec.CallOk -/
def spec_CallOk (p0 : Call) : Bool := (((spec_l01In p0.Kind 1 22) && (decide ((p0.Name.size : Int) ≤ 20))) && (decide ((p0.To.size : Int) ≤ 20))) && (decide ((p0.Text.size : Int) ≤ 64))
theorem c_spec_CallOk (p0 : Call) : CTs 107 [.o (.st Call _ inferInstance p0)] [Re.c (.bool (spec_CallOk p0))] := by
  refine en Tryz.func107 Tryz.ntmps107 fun w hG hgd => ?_
  obtain ⟨hg_p0, _⟩ := hgd
  have hM := spec_CallOk.eq_1 p0
  refine ad 9 ?_
  refine op (cl (k_spec_l01In p0.Kind 1 22) fok110) ?_
  refine ad 1 ?_
  refine ag 5 ?_
  refine ad 1 ?_
  refine ag 5 ?_
  refine ad 1 ?_
  refine ag 5 ?_
  refine ad 2 ?_
  exact rz (rs := [.tmp 2]) (congrArg (fun x => [Re.c (.bool x)]) hM)
theorem spec_CallOk_t {p0 : Call} (h : spec_CallOk p0 = true) : (1 ≤ p0.Kind ∧ p0.Kind ≤ 22) ∧ p0.Name.size ≤ 20 ∧ p0.To.size ≤ 20 ∧ p0.Text.size ≤ 64 := by
  unfold spec_CallOk at h
  simp only [Bool.and_eq_true, decide_eq_true_eq] at h
  obtain ⟨⟨⟨h1, h2⟩, h3⟩, h4⟩ := h
  exact ⟨spec_l01In_t h1, by omega, by omega, by omega⟩

/- F89 loop.example/g00974/impl.CallName -/
def impl_CallName (p0 : Int) : ByteArray := bif !(impl_within p0 1 22) then ⟨#[63]⟩ else (nth gl1 ((IntKind.i64.wrap (p0 - 1)).toNat))
theorem c_impl_CallName (p0 : Int) : CTs 89 [.o (.c (.int .i64 p0))] [Re.c (.string (impl_CallName p0))] := by
  refine en Tryz.func89 Tryz.ntmps89 fun w hG hgd => ?_
  have hM := impl_CallName.eq_1 p0
  refine ad 8 ?_
  refine op (cl (k_impl_within p0 1 22) fok83) ?_
  refine ad 2 ?_
  refine cd (fun h1 => ?_) (fun h1 => ?_)
  ·
    have hM := hM.trans (bt h1)
    refine ad 4 ?_
    exact rz (rs := [.tmp 2]) (congrArg (fun x => [Re.c (.string x)]) hM)
  ·
    have hM := hM.trans (bf h1)
    have th1 := impl_within_t (by simpa using h1)
    refine ad 5 ?_
    refine op (gx (len := 22) (e := 9) Value.string gl1 ((IntKind.i64.wrap (p0 - 1)).toNat) Gl1 (show ((IntKind.i64.wrap (p0 - 1)).toNat) < 22 from om) (hi := om)) ?_
    refine ad 3 ?_
    exact rz (rs := [.tmp 2]) (congrArg (fun x => [Re.c (.string x)]) hM)
theorem nth_szs {xs : List ByteArray} {n : Nat} (h : xs.all (fun s => Nat.ble s.size n) = true) (k : Nat) : (nth xs k).size ≤ n := nth_size h k
theorem impl_CallName_size (p0 : Int) : (impl_CallName p0).size ≤ 10 := by
  unfold impl_CallName
  exact szb (Nat.le_of_ble_eq_true rfl) (nth_szs (by decide) _)

/- F97 loop.example/g00974/spec.CallName -/
def spec_CallName (p0 : Int) : ByteArray := bif !(spec_l01In p0 1 22) then ⟨#[63]⟩ else (nth ([⟨#[]⟩, ⟨#[109, 97, 107, 101]⟩, ⟨#[108, 105, 110, 107]⟩, ⟨#[117, 110, 108, 105, 110, 107]⟩, ⟨#[114, 101, 110, 97, 109, 101]⟩, ⟨#[110, 97, 109, 101, 115]⟩, ⟨#[114, 101, 97, 100]⟩, ⟨#[119, 114, 105, 116, 101]⟩, ⟨#[99, 117, 116]⟩, ⟨#[112, 105, 112, 101]⟩, ⟨#[112, 117, 116]⟩, ⟨#[116, 97, 107, 101]⟩, ⟨#[115, 112, 97, 119, 110]⟩, ⟨#[101, 110, 100]⟩, ⟨#[114, 101, 97, 112]⟩, ⟨#[107, 105, 100, 115]⟩, ⟨#[115, 101, 110, 100]⟩, ⟨#[115, 105, 103, 110, 97, 108]⟩, ⟨#[116, 105, 109, 101, 114]⟩, ⟨#[116, 105, 99, 107]⟩, ⟨#[115, 116, 111, 114, 101]⟩, ⟨#[108, 111, 97, 100]⟩, ⟨#[111, 117, 116]⟩] : List ByteArray) p0.toNat)
theorem c_spec_CallName (p0 : Int) : CTs 97 [.o (.c (.int .i64 p0))] [Re.c (.string (spec_CallName p0))] := by
  refine en Tryz.func97 Tryz.ntmps97 fun w hG hgd => ?_
  have hM := spec_CallName.eq_1 p0
  refine ad 8 ?_
  refine op (cl (k_spec_l01In p0 1 22) fok110) ?_
  refine ad 2 ?_
  refine cd (fun h1 => ?_) (fun h1 => ?_)
  ·
    have hM := hM.trans (bt h1)
    refine ad 4 ?_
    exact rz (rs := [.tmp 2]) (congrArg (fun x => [Re.c (.string x)]) hM)
  ·
    have hM := hM.trans (bf h1)
    have th1 := spec_l01In_t (by simpa using h1)
    refine ad 5 ?_
    refine li 0 (d := instDatByteArray) ([⟨#[]⟩, ⟨#[109, 97, 107, 101]⟩, ⟨#[108, 105, 110, 107]⟩, ⟨#[117, 110, 108, 105, 110, 107]⟩, ⟨#[114, 101, 110, 97, 109, 101]⟩, ⟨#[110, 97, 109, 101, 115]⟩, ⟨#[114, 101, 97, 100]⟩, ⟨#[119, 114, 105, 116, 101]⟩, ⟨#[99, 117, 116]⟩, ⟨#[112, 105, 112, 101]⟩, ⟨#[112, 117, 116]⟩, ⟨#[116, 97, 107, 101]⟩, ⟨#[115, 112, 97, 119, 110]⟩, ⟨#[101, 110, 100]⟩, ⟨#[114, 101, 97, 112]⟩, ⟨#[107, 105, 100, 115]⟩, ⟨#[115, 101, 110, 100]⟩, ⟨#[115, 105, 103, 110, 97, 108]⟩, ⟨#[116, 105, 109, 101, 114]⟩, ⟨#[116, 105, 99, 107]⟩, ⟨#[115, 116, 111, 114, 101]⟩, ⟨#[108, 111, 97, 100]⟩, ⟨#[111, 117, 116]⟩] : List ByteArray) ?_
    refine fz 0 ?_
    refine op (ix (xs := ([⟨#[]⟩, ⟨#[109, 97, 107, 101]⟩, ⟨#[108, 105, 110, 107]⟩, ⟨#[117, 110, 108, 105, 110, 107]⟩, ⟨#[114, 101, 110, 97, 109, 101]⟩, ⟨#[110, 97, 109, 101, 115]⟩, ⟨#[114, 101, 97, 100]⟩, ⟨#[119, 114, 105, 116, 101]⟩, ⟨#[99, 117, 116]⟩, ⟨#[112, 105, 112, 101]⟩, ⟨#[112, 117, 116]⟩, ⟨#[116, 97, 107, 101]⟩, ⟨#[115, 112, 97, 119, 110]⟩, ⟨#[101, 110, 100]⟩, ⟨#[114, 101, 97, 112]⟩, ⟨#[107, 105, 100, 115]⟩, ⟨#[115, 101, 110, 100]⟩, ⟨#[115, 105, 103, 110, 97, 108]⟩, ⟨#[116, 105, 109, 101, 114]⟩, ⟨#[116, 105, 99, 107]⟩, ⟨#[115, 116, 111, 114, 101]⟩, ⟨#[108, 111, 97, 100]⟩, ⟨#[111, 117, 116]⟩] : List ByteArray)) p0.toNat (show p0.toNat < 23 from om) (hi := om)) ?_
    refine ad 3 ?_
    exact rz (rs := [.tmp 2]) (congrArg (fun x => [Re.c (.string x)]) hM)
theorem spec_CallName_size (p0 : Int) : (spec_CallName p0).size ≤ 10 := by
  unfold spec_CallName
  exact szb (Nat.le_of_ble_eq_true rfl) (nth_szs (by decide) _)

/- F88 loop.example/g00974/impl.Told -/
def impl_Told_l1 (p0 : Call) : Nat → ByteArray → ByteArray → Int → Int → ByteArray → Nat → Call
  | 0, c2_1, c2_2, c2_3, c2_4, c2_5, i => (Call.mk p0.Kind c2_1 c2_2 c2_3 c2_4 c2_5)
  | n + 1, c2_1, c2_2, c2_3, c2_4, c2_5, i => impl_Told_l1 p0 n (bif (decide (((byteAt (impl_fieldsOf p0.Kind) i).toNat : Int) = 78)) then p0.Name else c2_1) (bif (decide (((byteAt (impl_fieldsOf p0.Kind) i).toNat : Int) = 78)) then c2_2 else (bif (decide (((byteAt (impl_fieldsOf p0.Kind) i).toNat : Int) = 84)) then p0.To else c2_2)) (bif (decide (((byteAt (impl_fieldsOf p0.Kind) i).toNat : Int) = 78)) then c2_3 else (bif (decide (((byteAt (impl_fieldsOf p0.Kind) i).toNat : Int) = 84)) then c2_3 else (bif (decide (((byteAt (impl_fieldsOf p0.Kind) i).toNat : Int) = 65)) then p0.A else c2_3))) (bif (decide (((byteAt (impl_fieldsOf p0.Kind) i).toNat : Int) = 78)) then c2_4 else (bif (decide (((byteAt (impl_fieldsOf p0.Kind) i).toNat : Int) = 84)) then c2_4 else (bif (decide (((byteAt (impl_fieldsOf p0.Kind) i).toNat : Int) = 65)) then c2_4 else (bif (decide (((byteAt (impl_fieldsOf p0.Kind) i).toNat : Int) = 66)) then p0.B else c2_4)))) (bif (decide (((byteAt (impl_fieldsOf p0.Kind) i).toNat : Int) = 78)) then c2_5 else (bif (decide (((byteAt (impl_fieldsOf p0.Kind) i).toNat : Int) = 84)) then c2_5 else (bif (decide (((byteAt (impl_fieldsOf p0.Kind) i).toNat : Int) = 65)) then c2_5 else (bif (decide (((byteAt (impl_fieldsOf p0.Kind) i).toNat : Int) = 66)) then c2_5 else (bif (decide (((byteAt (impl_fieldsOf p0.Kind) i).toNat : Int) = 88)) then p0.Text else c2_5))))) (i + 1)
def impl_Told (p0 : Call) : Call := impl_Told_l1 p0 (((impl_fieldsOf p0.Kind).size) - 0) ⟨#[]⟩ ⟨#[]⟩ 0 0 ⟨#[]⟩ 0
theorem c_impl_Told (p0 : Call) : CTs 88 [.o (.st Call _ inferInstance p0)] [Re.st Call _ inferInstance (impl_Told p0)] := by
  refine en Tryz.func88 Tryz.ntmps88 fun w hG hgd => ?_
  obtain ⟨hg_p0, _⟩ := hgd
  have hM := impl_Told.eq_1 p0
  refine ad 18 ?_
  refine op (cl (c_impl_fieldsOf p0.Kind) fok90) ?_
  refine op (rg) ?_
  refine ad 2 ?_
  refine Run.loopM (ι := ByteArray × ByteArray × Int × Int × ByteArray × Nat) (fun s => impl_Told_l1 p0 (((impl_fieldsOf p0.Kind).size) - s.2.2.2.2.2) s.1 s.2.1 s.2.2.1 s.2.2.2.1 s.2.2.2.2.1 s.2.2.2.2.2) (fun s => ⟨43, 4, [(1, .pt 0 0), (2, .pt 1 0), (3, .pt 2 0), (12, .pt 3 0)], [(0, .var [.v (.int .i64 p0.Kind), .v (.string p0.Name), .v (.string p0.To), .v (.int .i64 p0.A), .v (.int .i64 p0.B), .v (.string p0.Text)] 54), (1, .var [.v (.int .i64 0), .v (.string ⟨#[]⟩), .v (.string ⟨#[]⟩), .v (.int .i64 0), .v (.int .i64 0), .v (.string ⟨#[]⟩)] 54), (2, .var [.v (.int .i64 p0.Kind), .v (.string s.1), .v (.string s.2.1), .v (.int .i64 s.2.2.1), .v (.int .i64 s.2.2.2.1), .v (.string s.2.2.2.2.1)] 54), (3, .itr (impl_fieldsOf p0.Kind) s.2.2.2.2.2)]⟩) (fun s => s.2.2.2.2.2 ≤ (impl_fieldsOf p0.Kind).size ∧ s.1.size ≤ maxLen ∧ s.2.1.size ≤ maxLen ∧ I64 s.2.2.1 ∧ I64 s.2.2.2.1 ∧ s.2.2.2.2.1.size ≤ maxLen) (fun s => ((impl_fieldsOf p0.Kind).size) - s.2.2.2.2.2) (⟨#[]⟩, ⟨#[]⟩, 0, 0, ⟨#[]⟩, 0) [0, 1, 2, 3] [3, 2, 1, 0] hM (by exact ⟨by (try dsimp only); first | omega | exact trivial, (gs ⟨#[]⟩), (gs ⟨#[]⟩), (gi 0), (gi 0), (gs ⟨#[]⟩)⟩) su (by decide) ?_
  rintro ⟨c2_1, c2_2, c2_3, c2_4, c2_5, i⟩ hv hE
  try dsimp only at hE
  obtain ⟨hi, hg_c2_1, hg_c2_2, hg_c2_3, hg_c2_4, hg_c2_5⟩ := hv
  try dsimp only at hi hg_c2_1 hg_c2_2 hg_c2_3 hg_c2_4 hg_c2_5
  refine ad 2 ?_
  refine nx (fun h1 => ?_) (fun h1 => ?_) (asc_impl_fieldsOf p0.Kind)
  ·
    have hM := hE.trans ((congrArg (fun n => impl_Told_l1 p0 n c2_1 c2_2 c2_3 c2_4 c2_5 i) (show ((impl_fieldsOf p0.Kind).size) - i = (((impl_fieldsOf p0.Kind).size) - (i + 1)) + 1 by omega)).trans (impl_Told_l1.eq_2 _ _ _ _ _ _ _ _))
    refine ad 21 ?_
    refine Run.mid ⟨43, 4, [(1, .pt 0 0), (2, .pt 1 0), (3, .pt 2 0), (12, .pt 3 0)], [(0, .var [.v (.int .i64 p0.Kind), .v (.string p0.Name), .v (.string p0.To), .v (.int .i64 p0.A), .v (.int .i64 p0.B), .v (.string p0.Text)] 54), (1, .var [.v (.int .i64 0), .v (.string ⟨#[]⟩), .v (.string ⟨#[]⟩), .v (.int .i64 0), .v (.int .i64 0), .v (.string ⟨#[]⟩)] 54), (2, .var [.v (.int .i64 p0.Kind), .v (.string (bif (decide (((byteAt (impl_fieldsOf p0.Kind) i).toNat : Int) = 78)) then p0.Name else c2_1)), .v (.string (bif (decide (((byteAt (impl_fieldsOf p0.Kind) i).toNat : Int) = 78)) then c2_2 else (bif (decide (((byteAt (impl_fieldsOf p0.Kind) i).toNat : Int) = 84)) then p0.To else c2_2))), .v (.int .i64 (bif (decide (((byteAt (impl_fieldsOf p0.Kind) i).toNat : Int) = 78)) then c2_3 else (bif (decide (((byteAt (impl_fieldsOf p0.Kind) i).toNat : Int) = 84)) then c2_3 else (bif (decide (((byteAt (impl_fieldsOf p0.Kind) i).toNat : Int) = 65)) then p0.A else c2_3)))), .v (.int .i64 (bif (decide (((byteAt (impl_fieldsOf p0.Kind) i).toNat : Int) = 78)) then c2_4 else (bif (decide (((byteAt (impl_fieldsOf p0.Kind) i).toNat : Int) = 84)) then c2_4 else (bif (decide (((byteAt (impl_fieldsOf p0.Kind) i).toNat : Int) = 65)) then c2_4 else (bif (decide (((byteAt (impl_fieldsOf p0.Kind) i).toNat : Int) = 66)) then p0.B else c2_4))))), .v (.string (bif (decide (((byteAt (impl_fieldsOf p0.Kind) i).toNat : Int) = 78)) then c2_5 else (bif (decide (((byteAt (impl_fieldsOf p0.Kind) i).toNat : Int) = 84)) then c2_5 else (bif (decide (((byteAt (impl_fieldsOf p0.Kind) i).toNat : Int) = 65)) then c2_5 else (bif (decide (((byteAt (impl_fieldsOf p0.Kind) i).toNat : Int) = 66)) then c2_5 else (bif (decide (((byteAt (impl_fieldsOf p0.Kind) i).toNat : Int) = 88)) then p0.Text else c2_5))))))] 54), (3, .itr (impl_fieldsOf p0.Kind) (i + 1))]⟩ ?_ ?_
    · refine cd (fun h2 => ?_) (fun h2 => ?_)
      ·
        refine ad 6 ?_
        exact Run.at [0, 1, 2, 3] [0, 1, 2, 3] (by first | exact su | (rw [h2]; exact su)) (by decide)
      ·
        refine ad 5 ?_
        refine Run.mid ⟨43, 4, [(1, .pt 0 0), (2, .pt 1 0), (3, .pt 2 0), (12, .pt 3 0)], [(0, .var [.v (.int .i64 p0.Kind), .v (.string p0.Name), .v (.string p0.To), .v (.int .i64 p0.A), .v (.int .i64 p0.B), .v (.string p0.Text)] 54), (1, .var [.v (.int .i64 0), .v (.string ⟨#[]⟩), .v (.string ⟨#[]⟩), .v (.int .i64 0), .v (.int .i64 0), .v (.string ⟨#[]⟩)] 54), (2, .var [.v (.int .i64 p0.Kind), .v (.string c2_1), .v (.string (bif (decide (((byteAt (impl_fieldsOf p0.Kind) i).toNat : Int) = 84)) then p0.To else c2_2)), .v (.int .i64 (bif (decide (((byteAt (impl_fieldsOf p0.Kind) i).toNat : Int) = 84)) then c2_3 else (bif (decide (((byteAt (impl_fieldsOf p0.Kind) i).toNat : Int) = 65)) then p0.A else c2_3))), .v (.int .i64 (bif (decide (((byteAt (impl_fieldsOf p0.Kind) i).toNat : Int) = 84)) then c2_4 else (bif (decide (((byteAt (impl_fieldsOf p0.Kind) i).toNat : Int) = 65)) then c2_4 else (bif (decide (((byteAt (impl_fieldsOf p0.Kind) i).toNat : Int) = 66)) then p0.B else c2_4)))), .v (.string (bif (decide (((byteAt (impl_fieldsOf p0.Kind) i).toNat : Int) = 84)) then c2_5 else (bif (decide (((byteAt (impl_fieldsOf p0.Kind) i).toNat : Int) = 65)) then c2_5 else (bif (decide (((byteAt (impl_fieldsOf p0.Kind) i).toNat : Int) = 66)) then c2_5 else (bif (decide (((byteAt (impl_fieldsOf p0.Kind) i).toNat : Int) = 88)) then p0.Text else c2_5)))))] 54), (3, .itr (impl_fieldsOf p0.Kind) (i + 1))]⟩ ?_ ?_
        · refine cd (fun h3 => ?_) (fun h3 => ?_)
          ·
            refine ad 6 ?_
            exact Run.at [0, 1, 2, 3] [0, 1, 2, 3] (by first | exact su | (rw [h3]; exact su)) (by decide)
          ·
            refine ad 5 ?_
            refine Run.mid ⟨43, 4, [(1, .pt 0 0), (2, .pt 1 0), (3, .pt 2 0), (12, .pt 3 0)], [(0, .var [.v (.int .i64 p0.Kind), .v (.string p0.Name), .v (.string p0.To), .v (.int .i64 p0.A), .v (.int .i64 p0.B), .v (.string p0.Text)] 54), (1, .var [.v (.int .i64 0), .v (.string ⟨#[]⟩), .v (.string ⟨#[]⟩), .v (.int .i64 0), .v (.int .i64 0), .v (.string ⟨#[]⟩)] 54), (2, .var [.v (.int .i64 p0.Kind), .v (.string c2_1), .v (.string c2_2), .v (.int .i64 (bif (decide (((byteAt (impl_fieldsOf p0.Kind) i).toNat : Int) = 65)) then p0.A else c2_3)), .v (.int .i64 (bif (decide (((byteAt (impl_fieldsOf p0.Kind) i).toNat : Int) = 65)) then c2_4 else (bif (decide (((byteAt (impl_fieldsOf p0.Kind) i).toNat : Int) = 66)) then p0.B else c2_4))), .v (.string (bif (decide (((byteAt (impl_fieldsOf p0.Kind) i).toNat : Int) = 65)) then c2_5 else (bif (decide (((byteAt (impl_fieldsOf p0.Kind) i).toNat : Int) = 66)) then c2_5 else (bif (decide (((byteAt (impl_fieldsOf p0.Kind) i).toNat : Int) = 88)) then p0.Text else c2_5))))] 54), (3, .itr (impl_fieldsOf p0.Kind) (i + 1))]⟩ ?_ ?_
            · refine cd (fun h4 => ?_) (fun h4 => ?_)
              ·
                refine ad 6 ?_
                exact Run.at [0, 1, 2, 3] [0, 1, 2, 3] (by first | exact su | (rw [h4]; exact su)) (by decide)
              ·
                refine ad 5 ?_
                refine Run.mid ⟨43, 4, [(1, .pt 0 0), (2, .pt 1 0), (3, .pt 2 0), (12, .pt 3 0)], [(0, .var [.v (.int .i64 p0.Kind), .v (.string p0.Name), .v (.string p0.To), .v (.int .i64 p0.A), .v (.int .i64 p0.B), .v (.string p0.Text)] 54), (1, .var [.v (.int .i64 0), .v (.string ⟨#[]⟩), .v (.string ⟨#[]⟩), .v (.int .i64 0), .v (.int .i64 0), .v (.string ⟨#[]⟩)] 54), (2, .var [.v (.int .i64 p0.Kind), .v (.string c2_1), .v (.string c2_2), .v (.int .i64 c2_3), .v (.int .i64 (bif (decide (((byteAt (impl_fieldsOf p0.Kind) i).toNat : Int) = 66)) then p0.B else c2_4)), .v (.string (bif (decide (((byteAt (impl_fieldsOf p0.Kind) i).toNat : Int) = 66)) then c2_5 else (bif (decide (((byteAt (impl_fieldsOf p0.Kind) i).toNat : Int) = 88)) then p0.Text else c2_5)))] 54), (3, .itr (impl_fieldsOf p0.Kind) (i + 1))]⟩ ?_ ?_
                · refine cd (fun h5 => ?_) (fun h5 => ?_)
                  ·
                    refine ad 6 ?_
                    exact Run.at [0, 1, 2, 3] [0, 1, 2, 3] (by first | exact su | (rw [h5]; exact su)) (by decide)
                  ·
                    refine ad 5 ?_
                    refine Run.mid ⟨43, 4, [(1, .pt 0 0), (2, .pt 1 0), (3, .pt 2 0), (12, .pt 3 0)], [(0, .var [.v (.int .i64 p0.Kind), .v (.string p0.Name), .v (.string p0.To), .v (.int .i64 p0.A), .v (.int .i64 p0.B), .v (.string p0.Text)] 54), (1, .var [.v (.int .i64 0), .v (.string ⟨#[]⟩), .v (.string ⟨#[]⟩), .v (.int .i64 0), .v (.int .i64 0), .v (.string ⟨#[]⟩)] 54), (2, .var [.v (.int .i64 p0.Kind), .v (.string c2_1), .v (.string c2_2), .v (.int .i64 c2_3), .v (.int .i64 c2_4), .v (.string (bif (decide (((byteAt (impl_fieldsOf p0.Kind) i).toNat : Int) = 88)) then p0.Text else c2_5))] 54), (3, .itr (impl_fieldsOf p0.Kind) (i + 1))]⟩ ?_ ?_
                    · refine cd (fun h6 => ?_) (fun h6 => ?_)
                      ·
                        refine ad 6 ?_
                        exact Run.at [0, 1, 2, 3] [0, 1, 2, 3] (by first | exact su | (rw [h6]; exact su)) (by decide)
                      ·
                        refine ad 1 ?_
                        exact Run.at [0, 1, 2, 3] [0, 1, 2, 3] (by first | exact su | (rw [h6]; exact su)) (by decide)
                    exact Run.at [0, 1, 2, 3] [0, 1, 2, 3] (by first | exact su | (rw [h5]; exact su)) (by decide)
                exact Run.at [0, 1, 2, 3] [0, 1, 2, 3] (by first | exact su | (rw [h4]; exact su)) (by decide)
            exact Run.at [0, 1, 2, 3] [0, 1, 2, 3] (by first | exact su | (rw [h3]; exact su)) (by decide)
        exact Run.at [0, 1, 2, 3] [0, 1, 2, 3] (by first | exact su | (rw [h2]; exact su)) (by decide)
    refine ad 2 ?_
    exact Run.again (bif (decide (((byteAt (impl_fieldsOf p0.Kind) i).toNat : Int) = 78)) then p0.Name else c2_1, bif (decide (((byteAt (impl_fieldsOf p0.Kind) i).toNat : Int) = 78)) then c2_2 else (bif (decide (((byteAt (impl_fieldsOf p0.Kind) i).toNat : Int) = 84)) then p0.To else c2_2), bif (decide (((byteAt (impl_fieldsOf p0.Kind) i).toNat : Int) = 78)) then c2_3 else (bif (decide (((byteAt (impl_fieldsOf p0.Kind) i).toNat : Int) = 84)) then c2_3 else (bif (decide (((byteAt (impl_fieldsOf p0.Kind) i).toNat : Int) = 65)) then p0.A else c2_3)), bif (decide (((byteAt (impl_fieldsOf p0.Kind) i).toNat : Int) = 78)) then c2_4 else (bif (decide (((byteAt (impl_fieldsOf p0.Kind) i).toNat : Int) = 84)) then c2_4 else (bif (decide (((byteAt (impl_fieldsOf p0.Kind) i).toNat : Int) = 65)) then c2_4 else (bif (decide (((byteAt (impl_fieldsOf p0.Kind) i).toNat : Int) = 66)) then p0.B else c2_4))), bif (decide (((byteAt (impl_fieldsOf p0.Kind) i).toNat : Int) = 78)) then c2_5 else (bif (decide (((byteAt (impl_fieldsOf p0.Kind) i).toNat : Int) = 84)) then c2_5 else (bif (decide (((byteAt (impl_fieldsOf p0.Kind) i).toNat : Int) = 65)) then c2_5 else (bif (decide (((byteAt (impl_fieldsOf p0.Kind) i).toNat : Int) = 66)) then c2_5 else (bif (decide (((byteAt (impl_fieldsOf p0.Kind) i).toNat : Int) = 88)) then p0.Text else c2_5)))), (i + 1)) [0, 1, 2, 3] [0, 1, 2, 3] ⟨by exact ⟨by (try dsimp only); first | omega | exact trivial, (bifS hg_p0.2.1 hg_c2_1), (bifS hg_c2_2 (bifS hg_p0.2.2.1 hg_c2_2)), (bifI hg_c2_3 (bifI hg_c2_3 (bifI hg_p0.2.2.2.1 hg_c2_3))), (bifI hg_c2_4 (bifI hg_c2_4 (bifI hg_c2_4 (bifI hg_p0.2.2.2.2.1 hg_c2_4)))), (bifS hg_c2_5 (bifS hg_c2_5 (bifS hg_c2_5 (bifS hg_c2_5 (bifS hg_p0.2.2.2.2.2 hg_c2_5)))))⟩, hM⟩ rfl (by show _ - _ < _ - _; (try dsimp only); omega) su (by decide)
  ·
    have hM := hE.trans ((congrArg (fun n => impl_Told_l1 p0 n c2_1 c2_2 c2_3 c2_4 c2_5 i) (show ((impl_fieldsOf p0.Kind).size) - i = 0 by omega)).trans (impl_Told_l1.eq_1 _ _ _ _ _ _ _))
    refine ad 10 ?_
    have hg7 : Dat.good (Call.mk p0.Kind c2_1 c2_2 c2_3 c2_4 c2_5 : Call) := ⟨hg_p0.1, hg_c2_1, hg_c2_2, hg_c2_3, hg_c2_4, hg_c2_5⟩
    exact rz (rs := [.cell 2 54]) (congrArg (fun x => [Re.st Call _ inferInstance x]) hM)

/- F108 loop.example/g00974/spec.Told -/
def spec_Told (p0 : Call) : Call := (Call.mk p0.Kind (bif ((decide (p0.Kind = 1)) || ((decide (p0.Kind = 3)) || ((decide (p0.Kind = 2)) || ((decide (p0.Kind = 4)) || ((decide (p0.Kind = 6)) || ((decide (p0.Kind = 7)) || (decide (p0.Kind = 8)))))))) then p0.Name else ⟨#[]⟩) (bif ((decide (p0.Kind = 2)) || (decide (p0.Kind = 4))) then p0.To else ⟨#[]⟩) (bif ((decide (p0.Kind = 2)) || (decide (p0.Kind = 4))) then 0 else (bif ((decide (p0.Kind = 6)) || (decide (p0.Kind = 16))) then p0.A else (bif ((decide (p0.Kind = 8)) || ((decide (p0.Kind = 11)) || ((decide (p0.Kind = 13)) || ((decide (p0.Kind = 14)) || ((decide (p0.Kind = 18)) || ((decide (p0.Kind = 19)) || (decide (p0.Kind = 21)))))))) then p0.A else (bif ((decide (p0.Kind = 7)) || ((decide (p0.Kind = 10)) || (decide (p0.Kind = 20)))) then p0.A else 0)))) (bif ((decide (p0.Kind = 2)) || (decide (p0.Kind = 4))) then 0 else (bif ((decide (p0.Kind = 6)) || (decide (p0.Kind = 16))) then p0.B else 0)) (bif ((decide (p0.Kind = 2)) || (decide (p0.Kind = 4))) then ⟨#[]⟩ else (bif ((decide (p0.Kind = 6)) || (decide (p0.Kind = 16))) then ⟨#[]⟩ else (bif ((decide (p0.Kind = 8)) || ((decide (p0.Kind = 11)) || ((decide (p0.Kind = 13)) || ((decide (p0.Kind = 14)) || ((decide (p0.Kind = 18)) || ((decide (p0.Kind = 19)) || (decide (p0.Kind = 21)))))))) then ⟨#[]⟩ else (bif ((decide (p0.Kind = 7)) || ((decide (p0.Kind = 10)) || (decide (p0.Kind = 20)))) then p0.Text else (bif (decide (p0.Kind = 22)) then p0.Text else ⟨#[]⟩))))))
theorem c_spec_Told (p0 : Call) : CTs 108 [.o (.st Call _ inferInstance p0)] [Re.st Call _ inferInstance (spec_Told p0)] := by
  refine en Tryz.func108 Tryz.ntmps108 fun w hG hgd => ?_
  obtain ⟨hg_p0, _⟩ := hgd
  have hM := spec_Told.eq_1 p0
  refine ad 26 ?_
  refine Run.mid ⟨64, 3, [(1, .pt 0 0), (2, .pt 1 0), (3, .pt 2 0), (9, .v (.bool ((decide (p0.Kind = 1)) || ((decide (p0.Kind = 3)) || ((decide (p0.Kind = 2)) || ((decide (p0.Kind = 4)) || ((decide (p0.Kind = 6)) || ((decide (p0.Kind = 7)) || (decide (p0.Kind = 8))))))))))], [(0, .var [.v (.int .i64 p0.Kind), .v (.string p0.Name), .v (.string p0.To), .v (.int .i64 p0.A), .v (.int .i64 p0.B), .v (.string p0.Text)] 54), (1, .var [.v (.int .i64 0), .v (.string ⟨#[]⟩), .v (.string ⟨#[]⟩), .v (.int .i64 0), .v (.int .i64 0), .v (.string ⟨#[]⟩)] 54), (2, .var [.v (.int .i64 p0.Kind), .v (.string ⟨#[]⟩), .v (.string ⟨#[]⟩), .v (.int .i64 0), .v (.int .i64 0), .v (.string ⟨#[]⟩)] 54)]⟩ ?_ ?_
  · refine cd (fun h1 => ?_) (fun h1 => ?_)
    ·
      refine ad 1 ?_
      exact Run.at [0, 1, 2] [2, 1, 0] (by first | exact su | (rw [h1]; exact su)) (by decide)
    ·
      refine ad 5 ?_
      refine Run.mid ⟨64, 3, [(1, .pt 0 0), (2, .pt 1 0), (3, .pt 2 0), (9, .v (.bool ((decide (p0.Kind = 3)) || ((decide (p0.Kind = 2)) || ((decide (p0.Kind = 4)) || ((decide (p0.Kind = 6)) || ((decide (p0.Kind = 7)) || (decide (p0.Kind = 8)))))))))], [(0, .var [.v (.int .i64 p0.Kind), .v (.string p0.Name), .v (.string p0.To), .v (.int .i64 p0.A), .v (.int .i64 p0.B), .v (.string p0.Text)] 54), (1, .var [.v (.int .i64 0), .v (.string ⟨#[]⟩), .v (.string ⟨#[]⟩), .v (.int .i64 0), .v (.int .i64 0), .v (.string ⟨#[]⟩)] 54), (2, .var [.v (.int .i64 p0.Kind), .v (.string ⟨#[]⟩), .v (.string ⟨#[]⟩), .v (.int .i64 0), .v (.int .i64 0), .v (.string ⟨#[]⟩)] 54)]⟩ ?_ ?_
      · refine cd (fun h2 => ?_) (fun h2 => ?_)
        ·
          refine ad 1 ?_
          exact Run.at [0, 1, 2] [2, 1, 0] (by first | exact su | (rw [h2]; exact su)) (by decide)
        ·
          refine ad 5 ?_
          refine Run.mid ⟨64, 3, [(1, .pt 0 0), (2, .pt 1 0), (3, .pt 2 0), (9, .v (.bool ((decide (p0.Kind = 2)) || ((decide (p0.Kind = 4)) || ((decide (p0.Kind = 6)) || ((decide (p0.Kind = 7)) || (decide (p0.Kind = 8))))))))], [(0, .var [.v (.int .i64 p0.Kind), .v (.string p0.Name), .v (.string p0.To), .v (.int .i64 p0.A), .v (.int .i64 p0.B), .v (.string p0.Text)] 54), (1, .var [.v (.int .i64 0), .v (.string ⟨#[]⟩), .v (.string ⟨#[]⟩), .v (.int .i64 0), .v (.int .i64 0), .v (.string ⟨#[]⟩)] 54), (2, .var [.v (.int .i64 p0.Kind), .v (.string ⟨#[]⟩), .v (.string ⟨#[]⟩), .v (.int .i64 0), .v (.int .i64 0), .v (.string ⟨#[]⟩)] 54)]⟩ ?_ ?_
          · refine cd (fun h3 => ?_) (fun h3 => ?_)
            ·
              refine ad 1 ?_
              exact Run.at [0, 1, 2] [2, 1, 0] (by first | exact su | (rw [h3]; exact su)) (by decide)
            ·
              refine ad 5 ?_
              refine Run.mid ⟨64, 3, [(1, .pt 0 0), (2, .pt 1 0), (3, .pt 2 0), (9, .v (.bool ((decide (p0.Kind = 4)) || ((decide (p0.Kind = 6)) || ((decide (p0.Kind = 7)) || (decide (p0.Kind = 8)))))))], [(0, .var [.v (.int .i64 p0.Kind), .v (.string p0.Name), .v (.string p0.To), .v (.int .i64 p0.A), .v (.int .i64 p0.B), .v (.string p0.Text)] 54), (1, .var [.v (.int .i64 0), .v (.string ⟨#[]⟩), .v (.string ⟨#[]⟩), .v (.int .i64 0), .v (.int .i64 0), .v (.string ⟨#[]⟩)] 54), (2, .var [.v (.int .i64 p0.Kind), .v (.string ⟨#[]⟩), .v (.string ⟨#[]⟩), .v (.int .i64 0), .v (.int .i64 0), .v (.string ⟨#[]⟩)] 54)]⟩ ?_ ?_
              · refine cd (fun h4 => ?_) (fun h4 => ?_)
                ·
                  refine ad 1 ?_
                  exact Run.at [0, 1, 2] [2, 1, 0] (by first | exact su | (rw [h4]; exact su)) (by decide)
                ·
                  refine ad 5 ?_
                  refine Run.mid ⟨64, 3, [(1, .pt 0 0), (2, .pt 1 0), (3, .pt 2 0), (9, .v (.bool ((decide (p0.Kind = 6)) || ((decide (p0.Kind = 7)) || (decide (p0.Kind = 8))))))], [(0, .var [.v (.int .i64 p0.Kind), .v (.string p0.Name), .v (.string p0.To), .v (.int .i64 p0.A), .v (.int .i64 p0.B), .v (.string p0.Text)] 54), (1, .var [.v (.int .i64 0), .v (.string ⟨#[]⟩), .v (.string ⟨#[]⟩), .v (.int .i64 0), .v (.int .i64 0), .v (.string ⟨#[]⟩)] 54), (2, .var [.v (.int .i64 p0.Kind), .v (.string ⟨#[]⟩), .v (.string ⟨#[]⟩), .v (.int .i64 0), .v (.int .i64 0), .v (.string ⟨#[]⟩)] 54)]⟩ ?_ ?_
                  · refine cd (fun h5 => ?_) (fun h5 => ?_)
                    ·
                      refine ad 1 ?_
                      exact Run.at [0, 1, 2] [2, 1, 0] (by first | exact su | (rw [h5]; exact su)) (by decide)
                    ·
                      refine ad 5 ?_
                      refine Run.mid ⟨64, 3, [(1, .pt 0 0), (2, .pt 1 0), (3, .pt 2 0), (9, .v (.bool ((decide (p0.Kind = 7)) || (decide (p0.Kind = 8)))))], [(0, .var [.v (.int .i64 p0.Kind), .v (.string p0.Name), .v (.string p0.To), .v (.int .i64 p0.A), .v (.int .i64 p0.B), .v (.string p0.Text)] 54), (1, .var [.v (.int .i64 0), .v (.string ⟨#[]⟩), .v (.string ⟨#[]⟩), .v (.int .i64 0), .v (.int .i64 0), .v (.string ⟨#[]⟩)] 54), (2, .var [.v (.int .i64 p0.Kind), .v (.string ⟨#[]⟩), .v (.string ⟨#[]⟩), .v (.int .i64 0), .v (.int .i64 0), .v (.string ⟨#[]⟩)] 54)]⟩ ?_ ?_
                      · refine cd (fun h6 => ?_) (fun h6 => ?_)
                        ·
                          refine ad 1 ?_
                          exact Run.at [0, 1, 2] [2, 1, 0] (by first | exact su | (rw [h6]; exact su)) (by decide)
                        ·
                          refine ad 4 ?_
                          exact Run.at [0, 1, 2] [2, 1, 0] (by first | exact su | (rw [h6]; exact su)) (by decide)
                      exact Run.at [0, 1, 2] [0, 1, 2] (by first | exact su | (rw [h5]; exact su)) (by decide)
                  exact Run.at [0, 1, 2] [0, 1, 2] (by first | exact su | (rw [h4]; exact su)) (by decide)
              exact Run.at [0, 1, 2] [0, 1, 2] (by first | exact su | (rw [h3]; exact su)) (by decide)
          exact Run.at [0, 1, 2] [0, 1, 2] (by first | exact su | (rw [h2]; exact su)) (by decide)
      exact Run.at [0, 1, 2] [0, 1, 2] (by first | exact su | (rw [h1]; exact su)) (by decide)
  refine Run.mid ⟨64, 3, [(1, .pt 0 0), (2, .pt 1 0), (3, .pt 2 0)], [(0, .var [.v (.int .i64 p0.Kind), .v (.string p0.Name), .v (.string p0.To), .v (.int .i64 p0.A), .v (.int .i64 p0.B), .v (.string p0.Text)] 54), (1, .var [.v (.int .i64 0), .v (.string ⟨#[]⟩), .v (.string ⟨#[]⟩), .v (.int .i64 0), .v (.int .i64 0), .v (.string ⟨#[]⟩)] 54), (2, .var [.v (.int .i64 p0.Kind), .v (.string (bif ((decide (p0.Kind = 1)) || ((decide (p0.Kind = 3)) || ((decide (p0.Kind = 2)) || ((decide (p0.Kind = 4)) || ((decide (p0.Kind = 6)) || ((decide (p0.Kind = 7)) || (decide (p0.Kind = 8)))))))) then p0.Name else ⟨#[]⟩)), .v (.string ⟨#[]⟩), .v (.int .i64 0), .v (.int .i64 0), .v (.string ⟨#[]⟩)] 54)]⟩ ?_ ?_
  · refine cd (fun h7 => ?_) (fun h7 => ?_)
    ·
      refine ad 6 ?_
      exact Run.at [0, 1, 2] [0, 1, 2] (by first | exact su | (rw [h7]; exact su)) (by decide)
    ·
      refine ad 1 ?_
      exact Run.at [0, 1, 2] [0, 1, 2] (by first | exact su | (rw [h7]; exact su)) (by decide)
  refine ad 14 ?_
  refine Run.mid ⟨64, 3, [(1, .pt 0 0), (2, .pt 1 0), (3, .pt 2 0), (21, .v (.int .i64 p0.Kind)), (22, .v (.bool ((decide (p0.Kind = 2)) || (decide (p0.Kind = 4)))))], [(0, .var [.v (.int .i64 p0.Kind), .v (.string p0.Name), .v (.string p0.To), .v (.int .i64 p0.A), .v (.int .i64 p0.B), .v (.string p0.Text)] 54), (1, .var [.v (.int .i64 0), .v (.string ⟨#[]⟩), .v (.string ⟨#[]⟩), .v (.int .i64 0), .v (.int .i64 0), .v (.string ⟨#[]⟩)] 54), (2, .var [.v (.int .i64 p0.Kind), .v (.string (bif ((decide (p0.Kind = 1)) || ((decide (p0.Kind = 3)) || ((decide (p0.Kind = 2)) || ((decide (p0.Kind = 4)) || ((decide (p0.Kind = 6)) || ((decide (p0.Kind = 7)) || (decide (p0.Kind = 8)))))))) then p0.Name else ⟨#[]⟩)), .v (.string ⟨#[]⟩), .v (.int .i64 0), .v (.int .i64 0), .v (.string ⟨#[]⟩)] 54)]⟩ ?_ ?_
  · refine cd (fun h8 => ?_) (fun h8 => ?_)
    ·
      refine ad 1 ?_
      exact Run.at [0, 1, 2] [0, 1, 2] (by first | exact su | (rw [h8]; exact su)) (by decide)
    ·
      refine ad 4 ?_
      exact Run.at [0, 1, 2] [0, 1, 2] (by first | exact su | (rw [h8]; exact su)) (by decide)
  refine Run.mid ⟨64, 2, [(2, .pt 0 0), (3, .pt 1 0)], [(0, .var [.v (.int .i64 0), .v (.string ⟨#[]⟩), .v (.string ⟨#[]⟩), .v (.int .i64 0), .v (.int .i64 0), .v (.string ⟨#[]⟩)] 54), (1, .var [.v (.int .i64 p0.Kind), .v (.string (bif ((decide (p0.Kind = 1)) || ((decide (p0.Kind = 3)) || ((decide (p0.Kind = 2)) || ((decide (p0.Kind = 4)) || ((decide (p0.Kind = 6)) || ((decide (p0.Kind = 7)) || (decide (p0.Kind = 8)))))))) then p0.Name else ⟨#[]⟩)), .v (.string (bif ((decide (p0.Kind = 2)) || (decide (p0.Kind = 4))) then p0.To else ⟨#[]⟩)), .v (.int .i64 (bif ((decide (p0.Kind = 2)) || (decide (p0.Kind = 4))) then 0 else (bif ((decide (p0.Kind = 6)) || (decide (p0.Kind = 16))) then p0.A else (bif ((decide (p0.Kind = 8)) || ((decide (p0.Kind = 11)) || ((decide (p0.Kind = 13)) || ((decide (p0.Kind = 14)) || ((decide (p0.Kind = 18)) || ((decide (p0.Kind = 19)) || (decide (p0.Kind = 21)))))))) then p0.A else (bif ((decide (p0.Kind = 7)) || ((decide (p0.Kind = 10)) || (decide (p0.Kind = 20)))) then p0.A else 0))))), .v (.int .i64 (bif ((decide (p0.Kind = 2)) || (decide (p0.Kind = 4))) then 0 else (bif ((decide (p0.Kind = 6)) || (decide (p0.Kind = 16))) then p0.B else 0))), .v (.string (bif ((decide (p0.Kind = 2)) || (decide (p0.Kind = 4))) then ⟨#[]⟩ else (bif ((decide (p0.Kind = 6)) || (decide (p0.Kind = 16))) then ⟨#[]⟩ else (bif ((decide (p0.Kind = 8)) || ((decide (p0.Kind = 11)) || ((decide (p0.Kind = 13)) || ((decide (p0.Kind = 14)) || ((decide (p0.Kind = 18)) || ((decide (p0.Kind = 19)) || (decide (p0.Kind = 21)))))))) then ⟨#[]⟩ else (bif ((decide (p0.Kind = 7)) || ((decide (p0.Kind = 10)) || (decide (p0.Kind = 20)))) then p0.Text else (bif (decide (p0.Kind = 22)) then p0.Text else ⟨#[]⟩))))))] 54)]⟩ ?_ ?_
  · refine cd (fun h9 => ?_) (fun h9 => ?_)
    ·
      refine ad 6 ?_
      exact Run.at [1, 2] [1, 2] (by first | exact su | (rw [h9]; exact su)) (by decide)
    ·
      refine ad 6 ?_
      refine Run.mid ⟨64, 3, [(1, .pt 0 0), (2, .pt 1 0), (3, .pt 2 0), (21, .v (.int .i64 p0.Kind)), (28, .v (.bool ((decide (p0.Kind = 6)) || (decide (p0.Kind = 16)))))], [(0, .var [.v (.int .i64 p0.Kind), .v (.string p0.Name), .v (.string p0.To), .v (.int .i64 p0.A), .v (.int .i64 p0.B), .v (.string p0.Text)] 54), (1, .var [.v (.int .i64 0), .v (.string ⟨#[]⟩), .v (.string ⟨#[]⟩), .v (.int .i64 0), .v (.int .i64 0), .v (.string ⟨#[]⟩)] 54), (2, .var [.v (.int .i64 p0.Kind), .v (.string (bif ((decide (p0.Kind = 1)) || ((decide (p0.Kind = 3)) || ((decide (p0.Kind = 2)) || ((decide (p0.Kind = 4)) || ((decide (p0.Kind = 6)) || ((decide (p0.Kind = 7)) || (decide (p0.Kind = 8)))))))) then p0.Name else ⟨#[]⟩)), .v (.string ⟨#[]⟩), .v (.int .i64 0), .v (.int .i64 0), .v (.string ⟨#[]⟩)] 54)]⟩ ?_ ?_
      · refine cd (fun h10 => ?_) (fun h10 => ?_)
        ·
          refine ad 1 ?_
          exact Run.at [0, 1, 2] [0, 1, 2] (by first | exact su | (rw [h10]; exact su)) (by decide)
        ·
          refine ad 4 ?_
          exact Run.at [0, 1, 2] [0, 1, 2] (by first | exact su | (rw [h10]; exact su)) (by decide)
      refine Run.mid ⟨64, 2, [(2, .pt 0 0), (3, .pt 1 0)], [(0, .var [.v (.int .i64 0), .v (.string ⟨#[]⟩), .v (.string ⟨#[]⟩), .v (.int .i64 0), .v (.int .i64 0), .v (.string ⟨#[]⟩)] 54), (1, .var [.v (.int .i64 p0.Kind), .v (.string (bif ((decide (p0.Kind = 1)) || ((decide (p0.Kind = 3)) || ((decide (p0.Kind = 2)) || ((decide (p0.Kind = 4)) || ((decide (p0.Kind = 6)) || ((decide (p0.Kind = 7)) || (decide (p0.Kind = 8)))))))) then p0.Name else ⟨#[]⟩)), .v (.string ⟨#[]⟩), .v (.int .i64 (bif ((decide (p0.Kind = 6)) || (decide (p0.Kind = 16))) then p0.A else (bif ((decide (p0.Kind = 8)) || ((decide (p0.Kind = 11)) || ((decide (p0.Kind = 13)) || ((decide (p0.Kind = 14)) || ((decide (p0.Kind = 18)) || ((decide (p0.Kind = 19)) || (decide (p0.Kind = 21)))))))) then p0.A else (bif ((decide (p0.Kind = 7)) || ((decide (p0.Kind = 10)) || (decide (p0.Kind = 20)))) then p0.A else 0)))), .v (.int .i64 (bif ((decide (p0.Kind = 6)) || (decide (p0.Kind = 16))) then p0.B else 0)), .v (.string (bif ((decide (p0.Kind = 6)) || (decide (p0.Kind = 16))) then ⟨#[]⟩ else (bif ((decide (p0.Kind = 8)) || ((decide (p0.Kind = 11)) || ((decide (p0.Kind = 13)) || ((decide (p0.Kind = 14)) || ((decide (p0.Kind = 18)) || ((decide (p0.Kind = 19)) || (decide (p0.Kind = 21)))))))) then ⟨#[]⟩ else (bif ((decide (p0.Kind = 7)) || ((decide (p0.Kind = 10)) || (decide (p0.Kind = 20)))) then p0.Text else (bif (decide (p0.Kind = 22)) then p0.Text else ⟨#[]⟩)))))] 54)]⟩ ?_ ?_
      · refine cd (fun h11 => ?_) (fun h11 => ?_)
        ·
          refine ad 13 ?_
          exact Run.at [1, 2] [1, 2] (by first | exact su | (rw [h11]; exact su)) (by decide)
        ·
          refine ad 6 ?_
          refine Run.mid ⟨64, 3, [(1, .pt 0 0), (2, .pt 1 0), (3, .pt 2 0), (21, .v (.int .i64 p0.Kind)), (37, .v (.bool ((decide (p0.Kind = 8)) || ((decide (p0.Kind = 11)) || ((decide (p0.Kind = 13)) || ((decide (p0.Kind = 14)) || ((decide (p0.Kind = 18)) || ((decide (p0.Kind = 19)) || (decide (p0.Kind = 21))))))))))], [(0, .var [.v (.int .i64 p0.Kind), .v (.string p0.Name), .v (.string p0.To), .v (.int .i64 p0.A), .v (.int .i64 p0.B), .v (.string p0.Text)] 54), (1, .var [.v (.int .i64 0), .v (.string ⟨#[]⟩), .v (.string ⟨#[]⟩), .v (.int .i64 0), .v (.int .i64 0), .v (.string ⟨#[]⟩)] 54), (2, .var [.v (.int .i64 p0.Kind), .v (.string (bif ((decide (p0.Kind = 1)) || ((decide (p0.Kind = 3)) || ((decide (p0.Kind = 2)) || ((decide (p0.Kind = 4)) || ((decide (p0.Kind = 6)) || ((decide (p0.Kind = 7)) || (decide (p0.Kind = 8)))))))) then p0.Name else ⟨#[]⟩)), .v (.string ⟨#[]⟩), .v (.int .i64 0), .v (.int .i64 0), .v (.string ⟨#[]⟩)] 54)]⟩ ?_ ?_
          · refine cd (fun h12 => ?_) (fun h12 => ?_)
            ·
              refine ad 1 ?_
              exact Run.at [0, 1, 2] [0, 1, 2] (by first | exact su | (rw [h12]; exact su)) (by decide)
            ·
              refine ad 5 ?_
              refine Run.mid ⟨64, 3, [(1, .pt 0 0), (2, .pt 1 0), (3, .pt 2 0), (21, .v (.int .i64 p0.Kind)), (37, .v (.bool ((decide (p0.Kind = 11)) || ((decide (p0.Kind = 13)) || ((decide (p0.Kind = 14)) || ((decide (p0.Kind = 18)) || ((decide (p0.Kind = 19)) || (decide (p0.Kind = 21)))))))))], [(0, .var [.v (.int .i64 p0.Kind), .v (.string p0.Name), .v (.string p0.To), .v (.int .i64 p0.A), .v (.int .i64 p0.B), .v (.string p0.Text)] 54), (1, .var [.v (.int .i64 0), .v (.string ⟨#[]⟩), .v (.string ⟨#[]⟩), .v (.int .i64 0), .v (.int .i64 0), .v (.string ⟨#[]⟩)] 54), (2, .var [.v (.int .i64 p0.Kind), .v (.string (bif ((decide (p0.Kind = 1)) || ((decide (p0.Kind = 3)) || ((decide (p0.Kind = 2)) || ((decide (p0.Kind = 4)) || ((decide (p0.Kind = 6)) || ((decide (p0.Kind = 7)) || (decide (p0.Kind = 8)))))))) then p0.Name else ⟨#[]⟩)), .v (.string ⟨#[]⟩), .v (.int .i64 0), .v (.int .i64 0), .v (.string ⟨#[]⟩)] 54)]⟩ ?_ ?_
              · refine cd (fun h13 => ?_) (fun h13 => ?_)
                ·
                  refine ad 1 ?_
                  exact Run.at [0, 1, 2] [0, 1, 2] (by first | exact su | (rw [h13]; exact su)) (by decide)
                ·
                  refine ad 5 ?_
                  refine Run.mid ⟨64, 3, [(1, .pt 0 0), (2, .pt 1 0), (3, .pt 2 0), (21, .v (.int .i64 p0.Kind)), (37, .v (.bool ((decide (p0.Kind = 13)) || ((decide (p0.Kind = 14)) || ((decide (p0.Kind = 18)) || ((decide (p0.Kind = 19)) || (decide (p0.Kind = 21))))))))], [(0, .var [.v (.int .i64 p0.Kind), .v (.string p0.Name), .v (.string p0.To), .v (.int .i64 p0.A), .v (.int .i64 p0.B), .v (.string p0.Text)] 54), (1, .var [.v (.int .i64 0), .v (.string ⟨#[]⟩), .v (.string ⟨#[]⟩), .v (.int .i64 0), .v (.int .i64 0), .v (.string ⟨#[]⟩)] 54), (2, .var [.v (.int .i64 p0.Kind), .v (.string (bif ((decide (p0.Kind = 1)) || ((decide (p0.Kind = 3)) || ((decide (p0.Kind = 2)) || ((decide (p0.Kind = 4)) || ((decide (p0.Kind = 6)) || ((decide (p0.Kind = 7)) || (decide (p0.Kind = 8)))))))) then p0.Name else ⟨#[]⟩)), .v (.string ⟨#[]⟩), .v (.int .i64 0), .v (.int .i64 0), .v (.string ⟨#[]⟩)] 54)]⟩ ?_ ?_
                  · refine cd (fun h14 => ?_) (fun h14 => ?_)
                    ·
                      refine ad 1 ?_
                      exact Run.at [0, 1, 2] [0, 1, 2] (by first | exact su | (rw [h14]; exact su)) (by decide)
                    ·
                      refine ad 5 ?_
                      refine Run.mid ⟨64, 3, [(1, .pt 0 0), (2, .pt 1 0), (3, .pt 2 0), (21, .v (.int .i64 p0.Kind)), (37, .v (.bool ((decide (p0.Kind = 14)) || ((decide (p0.Kind = 18)) || ((decide (p0.Kind = 19)) || (decide (p0.Kind = 21)))))))], [(0, .var [.v (.int .i64 p0.Kind), .v (.string p0.Name), .v (.string p0.To), .v (.int .i64 p0.A), .v (.int .i64 p0.B), .v (.string p0.Text)] 54), (1, .var [.v (.int .i64 0), .v (.string ⟨#[]⟩), .v (.string ⟨#[]⟩), .v (.int .i64 0), .v (.int .i64 0), .v (.string ⟨#[]⟩)] 54), (2, .var [.v (.int .i64 p0.Kind), .v (.string (bif ((decide (p0.Kind = 1)) || ((decide (p0.Kind = 3)) || ((decide (p0.Kind = 2)) || ((decide (p0.Kind = 4)) || ((decide (p0.Kind = 6)) || ((decide (p0.Kind = 7)) || (decide (p0.Kind = 8)))))))) then p0.Name else ⟨#[]⟩)), .v (.string ⟨#[]⟩), .v (.int .i64 0), .v (.int .i64 0), .v (.string ⟨#[]⟩)] 54)]⟩ ?_ ?_
                      · refine cd (fun h15 => ?_) (fun h15 => ?_)
                        ·
                          refine ad 1 ?_
                          exact Run.at [0, 1, 2] [0, 1, 2] (by first | exact su | (rw [h15]; exact su)) (by decide)
                        ·
                          refine ad 5 ?_
                          refine Run.mid ⟨64, 3, [(1, .pt 0 0), (2, .pt 1 0), (3, .pt 2 0), (21, .v (.int .i64 p0.Kind)), (37, .v (.bool ((decide (p0.Kind = 18)) || ((decide (p0.Kind = 19)) || (decide (p0.Kind = 21))))))], [(0, .var [.v (.int .i64 p0.Kind), .v (.string p0.Name), .v (.string p0.To), .v (.int .i64 p0.A), .v (.int .i64 p0.B), .v (.string p0.Text)] 54), (1, .var [.v (.int .i64 0), .v (.string ⟨#[]⟩), .v (.string ⟨#[]⟩), .v (.int .i64 0), .v (.int .i64 0), .v (.string ⟨#[]⟩)] 54), (2, .var [.v (.int .i64 p0.Kind), .v (.string (bif ((decide (p0.Kind = 1)) || ((decide (p0.Kind = 3)) || ((decide (p0.Kind = 2)) || ((decide (p0.Kind = 4)) || ((decide (p0.Kind = 6)) || ((decide (p0.Kind = 7)) || (decide (p0.Kind = 8)))))))) then p0.Name else ⟨#[]⟩)), .v (.string ⟨#[]⟩), .v (.int .i64 0), .v (.int .i64 0), .v (.string ⟨#[]⟩)] 54)]⟩ ?_ ?_
                          · refine cd (fun h16 => ?_) (fun h16 => ?_)
                            ·
                              refine ad 1 ?_
                              exact Run.at [0, 1, 2] [0, 1, 2] (by first | exact su | (rw [h16]; exact su)) (by decide)
                            ·
                              refine ad 5 ?_
                              refine Run.mid ⟨64, 3, [(1, .pt 0 0), (2, .pt 1 0), (3, .pt 2 0), (21, .v (.int .i64 p0.Kind)), (37, .v (.bool ((decide (p0.Kind = 19)) || (decide (p0.Kind = 21)))))], [(0, .var [.v (.int .i64 p0.Kind), .v (.string p0.Name), .v (.string p0.To), .v (.int .i64 p0.A), .v (.int .i64 p0.B), .v (.string p0.Text)] 54), (1, .var [.v (.int .i64 0), .v (.string ⟨#[]⟩), .v (.string ⟨#[]⟩), .v (.int .i64 0), .v (.int .i64 0), .v (.string ⟨#[]⟩)] 54), (2, .var [.v (.int .i64 p0.Kind), .v (.string (bif ((decide (p0.Kind = 1)) || ((decide (p0.Kind = 3)) || ((decide (p0.Kind = 2)) || ((decide (p0.Kind = 4)) || ((decide (p0.Kind = 6)) || ((decide (p0.Kind = 7)) || (decide (p0.Kind = 8)))))))) then p0.Name else ⟨#[]⟩)), .v (.string ⟨#[]⟩), .v (.int .i64 0), .v (.int .i64 0), .v (.string ⟨#[]⟩)] 54)]⟩ ?_ ?_
                              · refine cd (fun h17 => ?_) (fun h17 => ?_)
                                ·
                                  refine ad 1 ?_
                                  exact Run.at [0, 1, 2] [0, 1, 2] (by first | exact su | (rw [h17]; exact su)) (by decide)
                                ·
                                  refine ad 4 ?_
                                  exact Run.at [0, 1, 2] [0, 1, 2] (by first | exact su | (rw [h17]; exact su)) (by decide)
                              exact Run.at [0, 1, 2] [0, 1, 2] (by first | exact su | (rw [h16]; exact su)) (by decide)
                          exact Run.at [0, 1, 2] [0, 1, 2] (by first | exact su | (rw [h15]; exact su)) (by decide)
                      exact Run.at [0, 1, 2] [0, 1, 2] (by first | exact su | (rw [h14]; exact su)) (by decide)
                  exact Run.at [0, 1, 2] [0, 1, 2] (by first | exact su | (rw [h13]; exact su)) (by decide)
              exact Run.at [0, 1, 2] [0, 1, 2] (by first | exact su | (rw [h12]; exact su)) (by decide)
          refine Run.mid ⟨64, 2, [(2, .pt 0 0), (3, .pt 1 0)], [(0, .var [.v (.int .i64 0), .v (.string ⟨#[]⟩), .v (.string ⟨#[]⟩), .v (.int .i64 0), .v (.int .i64 0), .v (.string ⟨#[]⟩)] 54), (1, .var [.v (.int .i64 p0.Kind), .v (.string (bif ((decide (p0.Kind = 1)) || ((decide (p0.Kind = 3)) || ((decide (p0.Kind = 2)) || ((decide (p0.Kind = 4)) || ((decide (p0.Kind = 6)) || ((decide (p0.Kind = 7)) || (decide (p0.Kind = 8)))))))) then p0.Name else ⟨#[]⟩)), .v (.string ⟨#[]⟩), .v (.int .i64 (bif ((decide (p0.Kind = 8)) || ((decide (p0.Kind = 11)) || ((decide (p0.Kind = 13)) || ((decide (p0.Kind = 14)) || ((decide (p0.Kind = 18)) || ((decide (p0.Kind = 19)) || (decide (p0.Kind = 21)))))))) then p0.A else (bif ((decide (p0.Kind = 7)) || ((decide (p0.Kind = 10)) || (decide (p0.Kind = 20)))) then p0.A else 0))), .v (.int .i64 0), .v (.string (bif ((decide (p0.Kind = 8)) || ((decide (p0.Kind = 11)) || ((decide (p0.Kind = 13)) || ((decide (p0.Kind = 14)) || ((decide (p0.Kind = 18)) || ((decide (p0.Kind = 19)) || (decide (p0.Kind = 21)))))))) then ⟨#[]⟩ else (bif ((decide (p0.Kind = 7)) || ((decide (p0.Kind = 10)) || (decide (p0.Kind = 20)))) then p0.Text else (bif (decide (p0.Kind = 22)) then p0.Text else ⟨#[]⟩))))] 54)]⟩ ?_ ?_
          · refine cd (fun h18 => ?_) (fun h18 => ?_)
            ·
              refine ad 6 ?_
              exact Run.at [1, 2] [1, 2] (by first | exact su | (rw [h18]; exact su)) (by decide)
            ·
              refine ad 6 ?_
              refine Run.mid ⟨64, 3, [(1, .pt 0 0), (2, .pt 1 0), (3, .pt 2 0), (21, .v (.int .i64 p0.Kind)), (48, .v (.bool ((decide (p0.Kind = 7)) || ((decide (p0.Kind = 10)) || (decide (p0.Kind = 20))))))], [(0, .var [.v (.int .i64 p0.Kind), .v (.string p0.Name), .v (.string p0.To), .v (.int .i64 p0.A), .v (.int .i64 p0.B), .v (.string p0.Text)] 54), (1, .var [.v (.int .i64 0), .v (.string ⟨#[]⟩), .v (.string ⟨#[]⟩), .v (.int .i64 0), .v (.int .i64 0), .v (.string ⟨#[]⟩)] 54), (2, .var [.v (.int .i64 p0.Kind), .v (.string (bif ((decide (p0.Kind = 1)) || ((decide (p0.Kind = 3)) || ((decide (p0.Kind = 2)) || ((decide (p0.Kind = 4)) || ((decide (p0.Kind = 6)) || ((decide (p0.Kind = 7)) || (decide (p0.Kind = 8)))))))) then p0.Name else ⟨#[]⟩)), .v (.string ⟨#[]⟩), .v (.int .i64 0), .v (.int .i64 0), .v (.string ⟨#[]⟩)] 54)]⟩ ?_ ?_
              · refine cd (fun h19 => ?_) (fun h19 => ?_)
                ·
                  refine ad 1 ?_
                  exact Run.at [0, 1, 2] [0, 1, 2] (by first | exact su | (rw [h19]; exact su)) (by decide)
                ·
                  refine ad 5 ?_
                  refine Run.mid ⟨64, 3, [(1, .pt 0 0), (2, .pt 1 0), (3, .pt 2 0), (21, .v (.int .i64 p0.Kind)), (48, .v (.bool ((decide (p0.Kind = 10)) || (decide (p0.Kind = 20)))))], [(0, .var [.v (.int .i64 p0.Kind), .v (.string p0.Name), .v (.string p0.To), .v (.int .i64 p0.A), .v (.int .i64 p0.B), .v (.string p0.Text)] 54), (1, .var [.v (.int .i64 0), .v (.string ⟨#[]⟩), .v (.string ⟨#[]⟩), .v (.int .i64 0), .v (.int .i64 0), .v (.string ⟨#[]⟩)] 54), (2, .var [.v (.int .i64 p0.Kind), .v (.string (bif ((decide (p0.Kind = 1)) || ((decide (p0.Kind = 3)) || ((decide (p0.Kind = 2)) || ((decide (p0.Kind = 4)) || ((decide (p0.Kind = 6)) || ((decide (p0.Kind = 7)) || (decide (p0.Kind = 8)))))))) then p0.Name else ⟨#[]⟩)), .v (.string ⟨#[]⟩), .v (.int .i64 0), .v (.int .i64 0), .v (.string ⟨#[]⟩)] 54)]⟩ ?_ ?_
                  · refine cd (fun h20 => ?_) (fun h20 => ?_)
                    ·
                      refine ad 1 ?_
                      exact Run.at [0, 1, 2] [0, 1, 2] (by first | exact su | (rw [h20]; exact su)) (by decide)
                    ·
                      refine ad 4 ?_
                      exact Run.at [0, 1, 2] [0, 1, 2] (by first | exact su | (rw [h20]; exact su)) (by decide)
                  exact Run.at [0, 1, 2] [0, 1, 2] (by first | exact su | (rw [h19]; exact su)) (by decide)
              refine Run.mid ⟨64, 2, [(2, .pt 0 0), (3, .pt 1 0)], [(0, .var [.v (.int .i64 0), .v (.string ⟨#[]⟩), .v (.string ⟨#[]⟩), .v (.int .i64 0), .v (.int .i64 0), .v (.string ⟨#[]⟩)] 54), (1, .var [.v (.int .i64 p0.Kind), .v (.string (bif ((decide (p0.Kind = 1)) || ((decide (p0.Kind = 3)) || ((decide (p0.Kind = 2)) || ((decide (p0.Kind = 4)) || ((decide (p0.Kind = 6)) || ((decide (p0.Kind = 7)) || (decide (p0.Kind = 8)))))))) then p0.Name else ⟨#[]⟩)), .v (.string ⟨#[]⟩), .v (.int .i64 (bif ((decide (p0.Kind = 7)) || ((decide (p0.Kind = 10)) || (decide (p0.Kind = 20)))) then p0.A else 0)), .v (.int .i64 0), .v (.string (bif ((decide (p0.Kind = 7)) || ((decide (p0.Kind = 10)) || (decide (p0.Kind = 20)))) then p0.Text else (bif (decide (p0.Kind = 22)) then p0.Text else ⟨#[]⟩)))] 54)]⟩ ?_ ?_
              · refine cd (fun h21 => ?_) (fun h21 => ?_)
                ·
                  refine ad 13 ?_
                  exact Run.at [1, 2] [1, 2] (by first | exact su | (rw [h21]; exact su)) (by decide)
                ·
                  refine ad 5 ?_
                  refine Run.mid ⟨64, 2, [(2, .pt 0 0), (3, .pt 1 0)], [(0, .var [.v (.int .i64 0), .v (.string ⟨#[]⟩), .v (.string ⟨#[]⟩), .v (.int .i64 0), .v (.int .i64 0), .v (.string ⟨#[]⟩)] 54), (1, .var [.v (.int .i64 p0.Kind), .v (.string (bif ((decide (p0.Kind = 1)) || ((decide (p0.Kind = 3)) || ((decide (p0.Kind = 2)) || ((decide (p0.Kind = 4)) || ((decide (p0.Kind = 6)) || ((decide (p0.Kind = 7)) || (decide (p0.Kind = 8)))))))) then p0.Name else ⟨#[]⟩)), .v (.string ⟨#[]⟩), .v (.int .i64 0), .v (.int .i64 0), .v (.string (bif (decide (p0.Kind = 22)) then p0.Text else ⟨#[]⟩))] 54)]⟩ ?_ ?_
                  · refine cd (fun h22 => ?_) (fun h22 => ?_)
                    ·
                      refine ad 6 ?_
                      exact Run.at [1, 2] [1, 2] (by first | exact su | (rw [h22]; exact su)) (by decide)
                    ·
                      refine ad 1 ?_
                      exact Run.at [1, 2] [1, 2] (by first | exact su | (rw [h22]; exact su)) (by decide)
                  exact Run.at [0, 1] [0, 1] (by first | exact su | (rw [h21]; exact su)) (by decide)
              exact Run.at [0, 1] [0, 1] (by first | exact su | (rw [h18]; exact su)) (by decide)
          exact Run.at [0, 1] [0, 1] (by first | exact su | (rw [h11]; exact su)) (by decide)
      exact Run.at [0, 1] [0, 1] (by first | exact su | (rw [h9]; exact su)) (by decide)
  refine ad 6 ?_
  have hg23 : Dat.good (Call.mk p0.Kind (bif ((decide (p0.Kind = 1)) || ((decide (p0.Kind = 3)) || ((decide (p0.Kind = 2)) || ((decide (p0.Kind = 4)) || ((decide (p0.Kind = 6)) || ((decide (p0.Kind = 7)) || (decide (p0.Kind = 8)))))))) then p0.Name else ⟨#[]⟩) (bif ((decide (p0.Kind = 2)) || (decide (p0.Kind = 4))) then p0.To else ⟨#[]⟩) (bif ((decide (p0.Kind = 2)) || (decide (p0.Kind = 4))) then 0 else (bif ((decide (p0.Kind = 6)) || (decide (p0.Kind = 16))) then p0.A else (bif ((decide (p0.Kind = 8)) || ((decide (p0.Kind = 11)) || ((decide (p0.Kind = 13)) || ((decide (p0.Kind = 14)) || ((decide (p0.Kind = 18)) || ((decide (p0.Kind = 19)) || (decide (p0.Kind = 21)))))))) then p0.A else (bif ((decide (p0.Kind = 7)) || ((decide (p0.Kind = 10)) || (decide (p0.Kind = 20)))) then p0.A else 0)))) (bif ((decide (p0.Kind = 2)) || (decide (p0.Kind = 4))) then 0 else (bif ((decide (p0.Kind = 6)) || (decide (p0.Kind = 16))) then p0.B else 0)) (bif ((decide (p0.Kind = 2)) || (decide (p0.Kind = 4))) then ⟨#[]⟩ else (bif ((decide (p0.Kind = 6)) || (decide (p0.Kind = 16))) then ⟨#[]⟩ else (bif ((decide (p0.Kind = 8)) || ((decide (p0.Kind = 11)) || ((decide (p0.Kind = 13)) || ((decide (p0.Kind = 14)) || ((decide (p0.Kind = 18)) || ((decide (p0.Kind = 19)) || (decide (p0.Kind = 21)))))))) then ⟨#[]⟩ else (bif ((decide (p0.Kind = 7)) || ((decide (p0.Kind = 10)) || (decide (p0.Kind = 20)))) then p0.Text else (bif (decide (p0.Kind = 22)) then p0.Text else ⟨#[]⟩))))) : Call) := ⟨hg_p0.1, (bifS hg_p0.2.1 (gs ⟨#[]⟩)), (bifS hg_p0.2.2.1 (gs ⟨#[]⟩)), (bifI (gi 0) (bifI hg_p0.2.2.2.1 (bifI hg_p0.2.2.2.1 (bifI hg_p0.2.2.2.1 (gi 0))))), (bifI (gi 0) (bifI hg_p0.2.2.2.2.1 (gi 0))), (bifS (gs ⟨#[]⟩) (bifS (gs ⟨#[]⟩) (bifS (gs ⟨#[]⟩) (bifS hg_p0.2.2.2.2.2 (bifS hg_p0.2.2.2.2.2 (gs ⟨#[]⟩))))))⟩
  exact rz (rs := [.cell 2 54]) (congrArg (fun x => [Re.st Call _ inferInstance x]) hM)

/- F155 loop.example/g00974/impl.NameOk -/
def impl_NameOk_l1 (p0 : ByteArray) : Nat → Nat → Bool
  | 0, i => (impl_within (p0.size : Int) 1 12)
  | n + 1, i => bif (((!((decide (((byteAt p0 i).toNat : Int) ≥ 97)) && (decide (((byteAt p0 i).toNat : Int) ≤ 122)))) && (!((decide (((byteAt p0 i).toNat : Int) ≥ 48)) && (decide (((byteAt p0 i).toNat : Int) ≤ 57))))) && (!decide (((byteAt p0 i).toNat : Int) = 46))) && (!decide (((byteAt p0 i).toNat : Int) = 45)) then false else (impl_NameOk_l1 p0 n (i + 1))
def impl_NameOk (p0 : ByteArray) : Bool := impl_NameOk_l1 p0 (p0.size - 0) 0
theorem c_impl_NameOk (p0 : ByteArray) (hz_p0 : p0.size ≤ 9223372036854775807) : CTs 155 [.o (.c (.string p0))] [Re.c (.bool (impl_NameOk p0))] := by
  refine en Tryz.func155 Tryz.ntmps155 fun w hG hgd => ?_
  have hM := impl_NameOk.eq_1 p0
  refine ad 12 ?_
  refine Run.loopM (ι := Nat) (fun s => impl_NameOk_l1 p0 (p0.size - s) s) (fun s => ⟨41, 0, [(0, .v (.string p0)), (6, .v (.int .i64 (p0.size : Int))), (7, .v (.int .i64 (s : Int)))], []⟩) (fun s => s ≤ p0.size) (fun s => p0.size - s) 0 [] [] hM (by first | exact ⟨by omega, by simp⟩ | omega | simp | (dsimp only; omega)) su (by decide) ?_
  rintro i hv hE
  try dsimp only at hE
  have hi := hv
  try dsimp only at hi
  refine ad 5 ?_
  refine cd (fun h1 => ?_) (fun h1 => ?_)
  ·
    have h1l : i < p0.size := by have := of_decide_eq_true h1; omega
    have hM := hE.trans ((congrArg (fun n => impl_NameOk_l1 p0 n i) (show p0.size - i = (p0.size - (i + 1)) + 1 by omega)).trans (impl_NameOk_l1.eq_2 _ _ _))
    refine ad 12 ?_
    refine op (sx (s := p0) i om) ?_
    refine ad 7 ?_
    refine ag 3 ?_
    refine ad 2 ?_
    refine ag 8 ?_
    refine ad 1 ?_
    refine ag 3 ?_
    refine ad 1 ?_
    refine ag 3 ?_
    refine ad 1 ?_
    refine cd (fun h2 => ?_) (fun h2 => ?_)
    ·
      have hM := hM.trans (bt h2)
      refine ad 4 ?_
      exact rz (rs := [.tmp 2]) (congrArg (fun x => [Re.c (.bool x)]) hM)
    ·
      have hM := hM.trans (bf h2)
      refine ad 4 ?_
      rw [wrapN (i := i) (by first | omega | exact om)]
      refine ad 2 ?_
      exact Run.again (i + 1) [] [] ⟨by first | omega | exact trivial | (dsimp only; omega) | (refine ⟨by omega, ?_⟩; simp_all; try omega), hM⟩ rfl (by show _ - _ < _ - _; (try dsimp only); omega) su (by decide)
  ·
    have h1l : ¬ (i < p0.size) := by have := of_decide_eq_false h1; omega
    have hM := hE.trans ((congrArg (fun n => impl_NameOk_l1 p0 n i) (show p0.size - i = 0 by omega)).trans (impl_NameOk_l1.eq_1 _ _))
    refine ad 5 ?_
    refine op (cl (k_impl_within (p0.size : Int) 1 12) fok83) ?_
    refine ad 2 ?_
    exact rz (rs := [.tmp 2]) (congrArg (fun x => [Re.c (.bool x)]) hM)

/- F109 loop.example/g00974/spec.NameOk -/
def spec_NameOk_l1 (p0 : ByteArray) : Nat → Nat → Bool
  | 0, i => (spec_l01In (p0.size : Int) 1 12)
  | n + 1, i => bif (((!(spec_l01In (IntKind.i64.wrap ((byteAt p0 i).toNat : Int)) 97 122)) && (!(spec_l01In (IntKind.i64.wrap ((byteAt p0 i).toNat : Int)) 48 57))) && (!decide (((byteAt p0 i).toNat : Int) = 46))) && (!decide (((byteAt p0 i).toNat : Int) = 45)) then false else (spec_NameOk_l1 p0 n (i + 1))
def spec_NameOk (p0 : ByteArray) : Bool := spec_NameOk_l1 p0 (p0.size - 0) 0
theorem c_spec_NameOk (p0 : ByteArray) (hz_p0 : p0.size ≤ 9223372036854775807) : CTs 109 [.o (.c (.string p0))] [Re.c (.bool (spec_NameOk p0))] := by
  refine en Tryz.func109 Tryz.ntmps109 fun w hG hgd => ?_
  have hM := spec_NameOk.eq_1 p0
  refine ad 10 ?_
  refine Run.loopM (ι := Nat) (fun s => spec_NameOk_l1 p0 (p0.size - s) s) (fun s => ⟨35, 0, [(0, .v (.string p0)), (3, .v (.int .i64 (s : Int)))], []⟩) (fun s => s ≤ p0.size) (fun s => p0.size - s) 0 [] [] hM (by first | exact ⟨by omega, by simp⟩ | omega | simp | (dsimp only; omega)) su (by decide) ?_
  rintro i hv hE
  try dsimp only at hE
  have hi := hv
  try dsimp only at hi
  refine ad 8 ?_
  refine cd (fun h1 => ?_) (fun h1 => ?_)
  ·
    have h1l : i < p0.size := by have := of_decide_eq_true h1; omega
    have hM := hE.trans ((congrArg (fun n => spec_NameOk_l1 p0 n i) (show p0.size - i = (p0.size - (i + 1)) + 1 by omega)).trans (spec_NameOk_l1.eq_2 _ _ _))
    refine ad 7 ?_
    refine op (sx (s := p0) i om) ?_
    refine ad 6 ?_
    refine op (cl (k_spec_l01In (IntKind.i64.wrap ((byteAt p0 i).toNat : Int)) 97 122) fok110) ?_
    refine ad 2 ?_
    refine ag 2 ?_
    refine op (cG (hct := fun hB => (k_spec_l01In (IntKind.i64.wrap ((byteAt p0 i).toNat : Int)) 48 57)) (hfn := fok110)) ?_
    refine ag 2 ?_
    refine ad 1 ?_
    refine ag 3 ?_
    refine ad 1 ?_
    refine ag 3 ?_
    refine ad 1 ?_
    refine cd (fun h2 => ?_) (fun h2 => ?_)
    ·
      have hM := hM.trans (bt h2)
      refine ad 4 ?_
      exact rz (rs := [.tmp 2]) (congrArg (fun x => [Re.c (.bool x)]) hM)
    ·
      have hM := hM.trans (bf h2)
      refine ad 5 ?_
      rw [wrapN (i := i) (by first | omega | exact om)]
      refine ad 2 ?_
      exact Run.again (i + 1) [] [] ⟨by first | omega | exact trivial | (dsimp only; omega) | (refine ⟨by omega, ?_⟩; simp_all; try omega), hM⟩ rfl (by show _ - _ < _ - _; (try dsimp only); omega) su (by decide)
  ·
    have h1l : ¬ (i < p0.size) := by have := of_decide_eq_false h1; omega
    have hM := hE.trans ((congrArg (fun n => spec_NameOk_l1 p0 n i) (show p0.size - i = 0 by omega)).trans (spec_NameOk_l1.eq_1 _ _))
    refine ad 5 ?_
    refine op (cl (k_spec_l01In (p0.size : Int) 1 12) fok110) ?_
    refine ad 2 ?_
    exact rz (rs := [.tmp 2]) (congrArg (fun x => [Re.c (.bool x)]) hM)

/- F61 loop.example/g00974/impl.Hex -/
def impl_Hex (p0 : ByteArray) : ByteArray × Bool := bif decide ((p0.size : Int) > 20000) then (⟨#[]⟩, false) else ((hexEnc (sbytes p0)), true)
theorem c_impl_Hex (p0 : ByteArray) (hz_p0 : p0.size ≤ 9223372036854775807) : CTs 61 [.o (.c (.string p0))] [Re.c (.string ((impl_Hex p0).1)), Re.c (.bool ((impl_Hex p0).2))] := by
  refine en Tryz.func61 Tryz.ntmps61 fun w hG hgd => ?_
  have hM := impl_Hex.eq_1 p0
  refine ad 12 ?_
  refine cd (fun h1 => ?_) (fun h1 => ?_)
  ·
    have hM := hM.trans (bt h1)
    refine ad 5 ?_
    exact rz (rs := [.tmp 2, .tmp 3]) (congrArg (fun x => [Re.c (.string x.1), Re.c (.bool x.2)]) hM)
  ·
    have hM := hM.trans (bf h1)
    refine ad 4 ?_
    refine op (tb (hs := hz_p0)) ?_
    refine op (cl (k_hexEncA (sbytes p0) (by first | (rw [sbytes_length]; exact om) | (simp at hB; omega))) fok132) ?_
    refine ad 3 ?_
    exact rz (rs := [.tmp 2, .tmp 3]) (congrArg (fun x => [Re.c (.string x.1), Re.c (.bool x.2)]) hM)

/- F156 loop.example/g00974/impl.hexOf -/
def impl_hexOf (p0 : ByteArray) : ByteArray := (impl_Hex p0).1
theorem c_impl_hexOf (p0 : ByteArray) (hz_p0 : p0.size ≤ 9223372036854775807) : CTs 156 [.o (.c (.string p0))] [Re.c (.string (impl_hexOf p0))] := by
  refine en Tryz.func156 Tryz.ntmps156 fun w hG hgd => ?_
  have hM := impl_hexOf.eq_1 p0
  refine ad 7 ?_
  refine op (cl (c_impl_Hex p0 hz_p0) fok61) ?_
  refine ad 11 ?_
  exact rz (rs := [.tmp 2]) (congrArg (fun x => [Re.c (.string x)]) hM)
theorem impl_hexOf_size {p0 : ByteArray} (h : p0.size ≤ 64) : (impl_hexOf p0).size ≤ 128 := by
  unfold impl_hexOf impl_Hex
  have hc : ¬ (p0.size : Int) > 20000 := by omega
  simp only [hc, decide_false, cond_false]
  show ((Lib.Hx.encode (sbytes p0)).toArray).size ≤ 128
  rw [List.size_toArray, Lib.Hx.encode_length, sbytes_length]
  omega

/- F51 loop.example/g00974/spec.Hex -/
def spec_Hex_l1 (p0 : ByteArray) : Nat → (List UInt8) → Nat → ByteArray × Bool
  | 0, v4, i => (bstr v4, true)
  | n + 1, v4, i => spec_Hex_l1 p0 n (v4 ++ [fig (IntKind.i64.wrap (Int.tdiv (IntKind.i64.wrap ((byteAt p0 i).toNat : Int)) 16)), fig (Int.tmod (IntKind.i64.wrap ((byteAt p0 i).toNat : Int)) 16)]) (i + 1)
def spec_Hex (p0 : ByteArray) : ByteArray × Bool := bif decide ((p0.size : Int) > 20000) then (⟨#[]⟩, false) else (spec_Hex_l1 p0 (p0.size - 0) ([] : List UInt8) 0)
theorem c_spec_Hex (p0 : ByteArray) (hz_p0 : p0.size ≤ 9223372036854775807) : CTs 51 [.o (.c (.string p0))] [Re.c (.string ((spec_Hex p0).1)), Re.c (.bool ((spec_Hex p0).2))] := by
  refine en Tryz.func51 Tryz.ntmps51 fun w hG hgd => ?_
  have hM := spec_Hex.eq_1 p0
  refine ad 12 ?_
  refine cd (fun h1 => ?_) (fun h1 => ?_)
  ·
    have hM := hM.trans (bt h1)
    refine ad 5 ?_
    exact rz (rs := [.tmp 2, .tmp 3]) (congrArg (fun x => [Re.c (.string x.1), Re.c (.bool x.2)]) hM)
  ·
    have hM := hM.trans (bf h1)
    refine ad 3 ?_
    refine op (l0) ?_
    refine ad 8 ?_
    refine li 0 (d := instDatUInt8) ([] : List UInt8) ?_
    refine Run.loopM (ι := (List UInt8) × Nat) (fun s => spec_Hex_l1 p0 (p0.size - s.2) s.1 s.2) (fun s => ⟨33, 1, [(0, .v (.string p0)), (4, .sl 0 s.1.length), (5, .v (.int .i64 (s.2 : Int)))], [(0, .own UInt8 instDatUInt8 s.1)]⟩) (fun s => s.2 ≤ p0.size ∧ s.1.length = 2 * s.2) (fun s => p0.size - s.2) (([] : List UInt8), 0) [0] [0] hM (by dsimp only; exact ⟨by omega, rfl⟩) su (by decide) ?_
    rintro ⟨v4, i⟩ hv hE
    try dsimp only at hE
    obtain ⟨hi, hv0⟩ := hv
    try dsimp only at hi hv0
    refine ad 8 ?_
    refine cd (fun h2 => ?_) (fun h2 => ?_)
    ·
      have h2l : i < p0.size := by have := of_decide_eq_true h2; omega
      have hM := hE.trans ((congrArg (fun n => spec_Hex_l1 p0 n v4 i) (show p0.size - i = (p0.size - (i + 1)) + 1 by omega)).trans (spec_Hex_l1.eq_2 _ _ _ _))
      refine ad 3 ?_
      refine ds 16 [] fun _ _ _ _ _ hb => ?_
      refine tk [0, 1, 2] ?_
      refine tx 3 (tsx (s := p0) i om) ?_
      refine tk [4] ?_
      refine tx 5 (tqo) ?_
      refine tk [7, 8] ?_
      refine tx 9 (tsx (s := p0) i om) ?_
      refine tk [10] ?_
      refine tx 11 (trm) ?_
      refine on 6 [] (cl (k_spec_l01Figure (IntKind.i64.wrap (Int.tdiv (IntKind.i64.wrap ((byteAt p0 i).toNat : Int)) 16))) fok120) ?_
      refine on 12 [] (cl (k_spec_l01Figure (Int.tmod (IntKind.i64.wrap ((byteAt p0 i).toNat : Int)) 16)) fok120) ?_
      refine on 13 [] (OpS.st rfl) ?_
      refine on 14 [] (ap [fig (IntKind.i64.wrap (Int.tdiv (IntKind.i64.wrap ((byteAt p0 i).toNat : Int)) 16)), fig (Int.tmod (IntKind.i64.wrap ((byteAt p0 i).toNat : Int)) 16)] (hg := gdt) (hb := by simp only [List.length_cons, List.length_nil]; first | omega | exact om)) ?_
      refine tk [15] ?_
      refine dn hb ?_
      refine ad 4 ?_
      rw [wrapN (i := i) (by first | omega | exact om)]
      refine ad 2 ?_
      exact Run.again ((v4 ++ [fig (IntKind.i64.wrap (Int.tdiv (IntKind.i64.wrap ((byteAt p0 i).toNat : Int)) 16)), fig (Int.tmod (IntKind.i64.wrap ((byteAt p0 i).toNat : Int)) 16)]), (i + 1)) [2] [1] ⟨by dsimp only; exact ⟨by omega, by simp only [List.length_append, List.length_cons, List.length_nil]; omega⟩, hM⟩ rfl (by show _ - _ < _ - _; (try dsimp only); omega) su (by decide)
    ·
      have h2l : ¬ (i < p0.size) := by have := of_decide_eq_false h2; omega
      have hM := hE.trans ((congrArg (fun n => spec_Hex_l1 p0 n v4 i) (show p0.size - i = 0 by omega)).trans (spec_Hex_l1.eq_1 _ _ _))
      refine ad 4 ?_
      refine op (ts v4) ?_
      refine ad 3 ?_
      exact rz (rs := [.tmp 2, .tmp 3]) (congrArg (fun x => [Re.c (.string x.1), Re.c (.bool x.2)]) hM)

/- F106 loop.example/g00974/spec.l38Fits -/
def spec_l38Fits (p0 : Int) : Bool := (spec_l01In p0 0 1000000000)
theorem c_spec_l38Fits (p0 : Int) : CTs 106 [.o (.c (.int .i64 p0))] [Re.c (.bool (spec_l38Fits p0))] := by
  refine en Tryz.func106 Tryz.ntmps106 fun w hG hgd => ?_
  have hM := spec_l38Fits.eq_1 p0
  refine ad 7 ?_
  refine op (cl (k_spec_l01In p0 0 1000000000) fok110) ?_
  refine ad 2 ?_
  exact rz (rs := [.tmp 2]) (congrArg (fun x => [Re.c (.bool x)]) hM)

end Go.Proofs.YtnjidaonbcbphaaGreatDoor.Fw