/-
  The texts Sy, Sy5, Am17, Am18, Sy3, Am19, Sy4, Am22, Am23, Sy6, Am24, Am25, Sy7, Shelf, I, C1, C3, PD, B, B2 of this proof, one behind the other: what each proves stands at its head. No condition.
-/
import Derived.Test.YtppialklomgajaaGreatDoorProg
import Derived.KernelRfl
import Derived.Lib.SliceRun
import Derived.Laws.Externs
import Derived.Shelf.LaysM
import Derived.Shelf.Strconv.Itoa3
import Derived.Shelf.LaysC
import Derived.Shelf.Strconv.AtoiAll
import Derived.Shelf.Strings.Prefix
import Derived.Shelf.Strings.Split
import Derived.Ground.PaProg
import Derived.Shelf.Hex.DecodeOwns
import Derived.Shelf.Hex.More
import Derived.Test.YtppialklomgajaaGreatDoorSTA
import Derived.Test.YtppialklomgajaaGreatDoorSTB
set_option linter.unusedVariables false
set_option linter.unusedSimpArgs false
set_option maxRecDepth 100000
namespace Go.Proofs.YtppialklomgajaaGreatDoor.Fw
open Go.RowKit
def lkT : List (Nat × TI) → Nat → TI
  | [], _ => .no
  | (k, i) :: r, t => bif Nat.beq k t then i else lkT r t
theorem Yj5 {P : Program} : ∀ {l : List (Nat × TI)}, (l.all fun p => p.2.chk P p.1) = true → ∀ t, (lkT l t).chk P t = true
  | [], _, _ => rfl
  | (k, i) :: r, h, t => by
    simp only [List.all_cons, Bool.and_eq_true] at h
    simp only [lkT]
    cases e : Nat.beq k t with
    | true => obtain rfl := Nat.eq_of_beq_eq_true e; exact h.1
    | false => exact Yj5 h.2 t
def lkZ : List (Nat × Value) → Nat → Option Value
  | [], _ => none
  | (k, i) :: r, t => bif Nat.beq k t then some i else lkZ r t
def ZOk (P : Program) : List (Nat × Value) → Prop
  | [] => True
  | p :: r => (∀ w, (zeroValue p.1).run P w = .ok p.2 w) ∧ ZOk P r
theorem Yj4 {P : Program} : ∀ {l : List (Nat × Value)}, ZOk P l → ∀ t z, lkZ l t = some z → ∀ w, (zeroValue t).run P w = .ok z w
  | [], _, _, _, h => by cases h
  | (k, i) :: r, h, t, z, hz => by
    simp only [lkZ] at hz
    cases e : Nat.beq k t with
    | true => obtain rfl := Nat.eq_of_beq_eq_true e; rw [e] at hz; cases hz; exact h.1
    | false => rw [e] at hz; exact Yj4 h.2 t z hz
def tiL : List (Nat × TI) := [(1, .one),
  (2, .int .i64),
  (3, .int .i64),
  (4, .bool),
  (5, .int .u8),
  (6, .int .u8),
  (7, .st 4 [(0, 1), (1, 1), (2, 1), (3, 1)]),
  (8, .st 4 [(0, 1), (1, 1), (2, 1), (3, 1)]),
  (9, .str),
  (10, .str),
  (11, .str),
  (12, .int .u64),
  (13, .st 2 [(0, 1), (1, 1)]),
  (14, .st 2 [(0, 1), (1, 1)]),
  (15, .one),
  (16, .one),
  (17, .one),
  (18, .st 1 [(0, 1)]),
  (19, .st 1 [(0, 1)]),
  (21, .int .i32),
  (22, .sl 92 2 32),
  (23, .sl 99 10 160),
  (24, .sl 168 3 40),
  (25, .st 2 [(0, 1), (1, 1)]),
  (26, .st 2 [(0, 1), (1, 1)]),
  (27, .st 3 [(0, 1), (1, 2)]),
  (28, .st 3 [(0, 1), (1, 2)]),
  (29, .sl 105 8 96),
  (30, .sl 9 1 16),
  (31, .st 11 [(0, 1), (1, 1), (2, 3), (5, 1), (6, 1), (7, 1), (8, 1), (9, 1), (10, 1)]),
  (32, .st 11 [(0, 1), (1, 1), (2, 3), (5, 1), (6, 1), (7, 1), (8, 1), (9, 1), (10, 1)]),
  (33, .one),
  (34, .one),
  (35, .sl 114 2 32),
  (36, .sl 119 10 160),
  (37, .sl 108 3 40),
  (38, .st 2 [(0, 1), (1, 1)]),
  (39, .st 3 [(0, 1), (1, 2)]),
  (40, .st 3 [(0, 1), (1, 2)]),
  (41, .sl 80 8 96),
  (42, .st 11 [(0, 1), (1, 1), (2, 3), (5, 1), (6, 1), (7, 1), (8, 1), (9, 1), (10, 1)]),
  (43, .st 11 [(0, 1), (1, 1), (2, 3), (5, 1), (6, 1), (7, 1), (8, 1), (9, 1), (10, 1)]),
  (44, .one),
  (45, .one),
  (46, .one),
  (47, .one),
  (48, .one),
  (49, .one),
  (50, .one),
  (51, .one),
  (52, .one),
  (53, .one),
  (54, .one),
  (55, .one),
  (56, .one),
  (57, .one),
  (58, .one),
  (59, .one),
  (61, .one),
  (62, .one),
  (63, .one),
  (64, .one),
  (65, .one),
  (66, .one),
  (67, .one),
  (68, .one),
  (69, .one),
  (70, .one),
  (71, .one),
  (72, .one),
  (73, .one),
  (74, .one),
  (75, .one),
  (76, .one),
  (77, .sl 151 7 80),
  (78, .sl 154 3 32),
  (79, .st 8 [(0, 1), (1, 1), (2, 1), (3, 1), (4, 1), (5, 1), (6, 1), (7, 1)]),
  (80, .st 8 [(0, 1), (1, 1), (2, 1), (3, 1), (4, 1), (5, 1), (6, 1), (7, 1)]),
  (81, .one),
  (82, .one),
  (83, .one),
  (84, .one),
  (85, .one),
  (86, .one),
  (87, .sl 3 1 8),
  (88, .one),
  (89, .one),
  (90, .one),
  (91, .st 2 [(0, 1), (1, 1)]),
  (92, .st 2 [(0, 1), (1, 1)]),
  (93, .one),
  (94, .sl 205 6 72),
  (95, .sl 207 3 32),
  (96, .st 2 [(0, 1), (1, 1)]),
  (97, .st 2 [(0, 1), (1, 1)]),
  (98, .st 10 [(0, 1), (1, 1), (2, 1), (3, 1), (4, 1), (5, 1), (6, 2), (8, 1), (9, 1)]),
  (99, .st 10 [(0, 1), (1, 1), (2, 1), (3, 1), (4, 1), (5, 1), (6, 2), (8, 1), (9, 1)]),
  (100, .one),
  (101, .one),
  (102, .one),
  (103, .sl 210 7 80),
  (104, .st 8 [(0, 1), (1, 1), (2, 1), (3, 1), (4, 1), (5, 1), (6, 1), (7, 1)]),
  (105, .st 8 [(0, 1), (1, 1), (2, 1), (3, 1), (4, 1), (5, 1), (6, 1), (7, 1)]),
  (106, .one),
  (107, .st 3 [(0, 1), (1, 1), (2, 1)]),
  (108, .st 3 [(0, 1), (1, 1), (2, 1)]),
  (109, .one),
  (110, .sl 35 1 24),
  (112, .one),
  (113, .one),
  (114, .st 2 [(0, 1), (1, 1)]),
  (115, .one),
  (116, .sl 149 6 72),
  (117, .st 2 [(0, 1), (1, 1)]),
  (118, .st 10 [(0, 1), (1, 1), (2, 1), (3, 1), (4, 1), (5, 1), (6, 2), (8, 1), (9, 1)]),
  (119, .st 10 [(0, 1), (1, 1), (2, 1), (3, 1), (4, 1), (5, 1), (6, 2), (8, 1), (9, 1)]),
  (120, .one),
  (121, .one),
  (122, .one),
  (123, .one),
  (124, .one),
  (125, .one),
  (126, .one),
  (127, .one),
  (128, .one),
  (129, .one),
  (130, .one),
  (131, .one),
  (132, .one),
  (133, .one),
  (134, .one),
  (135, .one),
  (137, .one),
  (138, .one),
  (139, .one),
  (140, .one),
  (141, .one),
  (142, .one),
  (143, .one),
  (144, .sl 5 1 1),
  (145, .one),
  (146, .one),
  (147, .one),
  (148, .st 6 [(0, 1), (1, 1), (2, 1), (3, 1), (4, 1), (5, 1)]),
  (149, .st 6 [(0, 1), (1, 1), (2, 1), (3, 1), (4, 1), (5, 1)]),
  (150, .st 7 [(0, 1), (1, 6)]),
  (151, .st 7 [(0, 1), (1, 6)]),
  (152, .one),
  (153, .st 3 [(0, 1), (1, 1), (2, 1)]),
  (154, .st 3 [(0, 1), (1, 1), (2, 1)]),
  (155, .one),
  (156, .one),
  (157, .one),
  (158, .one),
  (159, .one),
  (160, .one),
  (161, .one),
  (162, .one),
  (163, .one),
  (164, .one),
  (165, .one),
  (166, .one),
  (167, .st 3 [(0, 1), (1, 1), (2, 1)]),
  (168, .st 3 [(0, 1), (1, 1), (2, 1)]),
  (169, .one),
  (170, .one),
  (171, .one),
  (172, .one),
  (173, .one),
  (175, .one),
  (176, .one),
  (177, .one),
  (178, .one),
  (179, .one),
  (180, .one),
  (181, .one),
  (182, .one),
  (183, .one),
  (184, .one),
  (185, .one),
  (186, .one),
  (187, .one),
  (188, .one),
  (189, .one),
  (190, .one),
  (192, .one),
  (193, .one),
  (194, .one),
  (195, .one),
  (196, .one),
  (197, .one),
  (198, .one),
  (199, .one),
  (200, .one),
  (201, .one),
  (202, .one),
  (203, .one),
  (204, .one),
  (205, .st 6 [(0, 1), (1, 1), (2, 1), (3, 1), (4, 1), (5, 1)]),
  (206, .one),
  (207, .st 3 [(0, 1), (1, 1), (2, 1)]),
  (208, .one),
  (209, .st 7 [(0, 1), (1, 6)]),
  (210, .st 7 [(0, 1), (1, 6)]),
  (211, .one),
  (212, .one),
  (213, .one),
  (214, .one),
  (215, .one),
  (216, .one),
  (217, .one),
  (218, .one),
  (219, .one),
  (220, .one),
  (222, .one),
  (223, .one),
  (224, .one),
  (225, .one),
  (229, .one),
  (230, .one),
  (231, .one),
  (232, .one),
  (233, .one),
  (234, .one),
  (235, .one),
  (237, .one),
  (238, .one),
  (239, .st 2 [(0, 1), (1, 1)]),
  (240, .st 2 [(0, 1), (1, 1)]),
  (241, .one),
  (242, .one),
  (243, .one),
  (244, .one),
  (245, .one),
  (246, .one),
  (247, .one),
  (249, .one),
  (250, .one),
  (251, .one),
  (252, .one),
  (253, .one),
  (254, .one),
  (255, .int .u8),
  (256, .int .u64),
  (257, .one),
  (258, .one),
  (259, .one),
  (260, .int .i64),
  (262, .one),
  (263, .one),
  (264, .one),
  (265, .one),
  (267, .one),
  (269, .int .u64),
  (270, .one),
  (271, .one),
  (273, .one),
  (274, .one),
  (276, .st 2 [(0, 1), (1, 1)]),
  (277, .st 2 [(0, 1), (1, 1)]),
  (280, .one),
  (281, .st 3 [(0, 1), (1, 1), (2, 1)]),
  (282, .st 3 [(0, 1), (1, 1), (2, 1)]),
  (283, .one),
  (284, .int .u32),
  (286, .one),
  (287, .one),
  (290, .one),
  (291, .one),
  (292, .one),
  (293, .one),
  (294, .st 1 [(0, 1)]),
  (295, .st 1 [(0, 1)]),
  (296, .one),
  (299, .one),
  (300, .one),
  (301, .st 4 [(0, 1), (1, 1), (2, 1), (3, 1)]),
  (302, .st 4 [(0, 1), (1, 1), (2, 1), (3, 1)]),
  (306, .int .u8),
  (307, .int .u8),
  (308, .one),
  (309, .int .i32),
  (310, .int .i32),
  (311, .st 11 [(0, 1), (1, 1), (2, 1), (3, 1), (4, 1), (5, 1), (6, 1), (7, 1), (8, 1), (9, 1), (10, 1)]),
  (312, .st 11 [(0, 1), (1, 1), (2, 1), (3, 1), (4, 1), (5, 1), (6, 1), (7, 1), (8, 1), (9, 1), (10, 1)]),
  (313, .one),
  (314, .st 2 [(0, 1), (1, 1)]),
  (315, .st 2 [(0, 1), (1, 1)]),
  (317, .st 2 [(0, 1), (1, 1)])]
def ti (t : Nat) : TI := lkT tiL t
theorem tiok : ∀ t, (ti t).chk Tryz.prog t = true := Yj5 (by kernel_rfl)
def zrL : List (Nat × Value) := [(1, Value.nilFunc),
  (2, Value.int IntKind.i64 0),
  (3, Value.int IntKind.i64 0),
  (4, Value.bool false),
  (5, Value.int IntKind.u8 0),
  (6, Value.int IntKind.u8 0),
  (7, Value.agg #[Value.int IntKind.i64 0, Value.int IntKind.i64 0, Value.bool false, Value.int IntKind.u8 0]),
  (8, Value.agg #[Value.int IntKind.i64 0, Value.int IntKind.i64 0, Value.bool false, Value.int IntKind.u8 0]),
  (9, Value.string { data := #[] }),
  (10, Value.string { data := #[] }),
  (11, Value.string { data := #[] }),
  (12, Value.int IntKind.u64 0),
  (13, Value.agg #[Value.string { data := #[] }, Value.int IntKind.u64 0]),
  (14, Value.agg #[Value.string { data := #[] }, Value.int IntKind.u64 0]),
  (15, Value.pointer none),
  (16, Value.pointer none),
  (17, Value.pointer none),
  (18, Value.agg #[Value.pointer none]),
  (19, Value.agg #[Value.pointer none]),
  (21, Value.int IntKind.i32 0),
  (22, Value.slice none 0 0),
  (23, Value.slice none 0 0),
  (24, Value.slice none 0 0),
  (25, Value.agg #[Value.string { data := #[] }, Value.int IntKind.i64 0]),
  (26, Value.agg #[Value.string { data := #[] }, Value.int IntKind.i64 0]),
  (27, Value.agg #[Value.slice none 0 0, Value.string { data := #[] }, Value.int IntKind.i64 0]),
  (28, Value.agg #[Value.slice none 0 0, Value.string { data := #[] }, Value.int IntKind.i64 0]),
  (29, Value.slice none 0 0),
  (30, Value.slice none 0 0),
  (31, Value.agg #[Value.slice none 0 0, Value.slice none 0 0, Value.slice none 0 0, Value.string { data := #[] }, Value.int IntKind.i64 0, Value.int IntKind.i64 0, Value.int IntKind.i64 0, Value.int IntKind.i64 0, Value.slice none 0 0, Value.slice none 0 0, Value.bool false]),
  (32, Value.agg #[Value.slice none 0 0, Value.slice none 0 0, Value.slice none 0 0, Value.string { data := #[] }, Value.int IntKind.i64 0, Value.int IntKind.i64 0, Value.int IntKind.i64 0, Value.int IntKind.i64 0, Value.slice none 0 0, Value.slice none 0 0, Value.bool false]),
  (33, Value.nilFunc),
  (34, Value.nilFunc),
  (35, Value.slice none 0 0),
  (36, Value.slice none 0 0),
  (37, Value.slice none 0 0),
  (38, Value.agg #[Value.string { data := #[] }, Value.int IntKind.i64 0]),
  (39, Value.agg #[Value.slice none 0 0, Value.string { data := #[] }, Value.int IntKind.i64 0]),
  (40, Value.agg #[Value.slice none 0 0, Value.string { data := #[] }, Value.int IntKind.i64 0]),
  (41, Value.slice none 0 0),
  (42, Value.agg #[Value.slice none 0 0, Value.slice none 0 0, Value.slice none 0 0, Value.string { data := #[] }, Value.int IntKind.i64 0, Value.int IntKind.i64 0, Value.int IntKind.i64 0, Value.int IntKind.i64 0, Value.slice none 0 0, Value.slice none 0 0, Value.bool false]),
  (43, Value.agg #[Value.slice none 0 0, Value.slice none 0 0, Value.slice none 0 0, Value.string { data := #[] }, Value.int IntKind.i64 0, Value.int IntKind.i64 0, Value.int IntKind.i64 0, Value.int IntKind.i64 0, Value.slice none 0 0, Value.slice none 0 0, Value.bool false]),
  (44, Value.nilFunc),
  (45, Value.nilFunc),
  (46, Value.nilFunc),
  (47, Value.nilFunc),
  (48, Value.nilFunc),
  (49, Value.nilFunc),
  (50, Value.nilFunc),
  (51, Value.nilFunc),
  (52, Value.nilFunc),
  (53, Value.nilFunc),
  (54, Value.nilFunc),
  (55, Value.nilFunc),
  (56, Value.nilFunc),
  (57, Value.nilFunc),
  (58, Value.nilFunc),
  (59, Value.nilFunc),
  (61, Value.nilFunc),
  (62, Value.nilFunc),
  (63, Value.nilFunc),
  (64, Value.nilFunc),
  (65, Value.nilFunc),
  (66, Value.nilFunc),
  (67, Value.nilFunc),
  (68, Value.nilFunc),
  (69, Value.nilFunc),
  (70, Value.nilFunc),
  (71, Value.nilFunc),
  (72, Value.nilFunc),
  (73, Value.nilFunc),
  (74, Value.nilFunc),
  (75, Value.nilFunc),
  (76, Value.nilFunc),
  (77, Value.slice none 0 0),
  (78, Value.slice none 0 0),
  (79, Value.agg #[Value.int IntKind.i64 0, Value.int IntKind.i64 0, Value.int IntKind.i64 0, Value.slice none 0 0, Value.slice none 0 0, Value.int IntKind.i64 0, Value.int IntKind.i64 0, Value.bool false]),
  (80, Value.agg #[Value.int IntKind.i64 0, Value.int IntKind.i64 0, Value.int IntKind.i64 0, Value.slice none 0 0, Value.slice none 0 0, Value.int IntKind.i64 0, Value.int IntKind.i64 0, Value.bool false]),
  (81, Value.nilFunc),
  (82, Value.nilFunc),
  (83, Value.nilFunc),
  (84, Value.nilFunc),
  (85, Value.nilFunc),
  (86, Value.nilFunc),
  (87, Value.slice none 0 0),
  (88, Value.nilFunc),
  (89, Value.nilFunc),
  (90, Value.nilFunc),
  (91, Value.agg #[Value.string { data := #[] }, Value.string { data := #[] }]),
  (92, Value.agg #[Value.string { data := #[] }, Value.string { data := #[] }]),
  (93, Value.nilFunc),
  (94, Value.slice none 0 0),
  (95, Value.slice none 0 0),
  (96, Value.agg #[Value.slice none 0 0, Value.slice none 0 0]),
  (97, Value.agg #[Value.slice none 0 0, Value.slice none 0 0]),
  (98, Value.agg #[Value.int IntKind.i64 0, Value.int IntKind.i64 0, Value.int IntKind.i64 0, Value.int IntKind.i64 0, Value.slice none 0 0, Value.slice none 0 0, Value.slice none 0 0, Value.slice none 0 0, Value.slice none 0 0, Value.int IntKind.i64 0]),
  (99, Value.agg #[Value.int IntKind.i64 0, Value.int IntKind.i64 0, Value.int IntKind.i64 0, Value.int IntKind.i64 0, Value.slice none 0 0, Value.slice none 0 0, Value.slice none 0 0, Value.slice none 0 0, Value.slice none 0 0, Value.int IntKind.i64 0]),
  (100, Value.nilFunc),
  (101, Value.nilFunc),
  (102, Value.nilFunc),
  (103, Value.slice none 0 0),
  (104, Value.agg #[Value.int IntKind.i64 0, Value.int IntKind.i64 0, Value.int IntKind.i64 0, Value.slice none 0 0, Value.slice none 0 0, Value.int IntKind.i64 0, Value.int IntKind.i64 0, Value.bool false]),
  (105, Value.agg #[Value.int IntKind.i64 0, Value.int IntKind.i64 0, Value.int IntKind.i64 0, Value.slice none 0 0, Value.slice none 0 0, Value.int IntKind.i64 0, Value.int IntKind.i64 0, Value.bool false]),
  (106, Value.nilFunc),
  (107, Value.agg #[Value.int IntKind.i64 0, Value.slice none 0 0, Value.bool false]),
  (108, Value.agg #[Value.int IntKind.i64 0, Value.slice none 0 0, Value.bool false]),
  (109, Value.nilFunc),
  (110, Value.slice none 0 0),
  (112, Value.nilFunc),
  (113, Value.nilFunc),
  (114, Value.agg #[Value.string { data := #[] }, Value.string { data := #[] }]),
  (115, Value.nilFunc),
  (116, Value.slice none 0 0),
  (117, Value.agg #[Value.slice none 0 0, Value.slice none 0 0]),
  (118, Value.agg #[Value.int IntKind.i64 0, Value.int IntKind.i64 0, Value.int IntKind.i64 0, Value.int IntKind.i64 0, Value.slice none 0 0, Value.slice none 0 0, Value.slice none 0 0, Value.slice none 0 0, Value.slice none 0 0, Value.int IntKind.i64 0]),
  (119, Value.agg #[Value.int IntKind.i64 0, Value.int IntKind.i64 0, Value.int IntKind.i64 0, Value.int IntKind.i64 0, Value.slice none 0 0, Value.slice none 0 0, Value.slice none 0 0, Value.slice none 0 0, Value.slice none 0 0, Value.int IntKind.i64 0]),
  (120, Value.nilFunc),
  (121, Value.nilFunc),
  (122, Value.nilFunc),
  (123, Value.nilFunc),
  (124, Value.nilFunc),
  (125, Value.nilFunc),
  (126, Value.nilFunc),
  (127, Value.nilFunc),
  (128, Value.nilFunc),
  (129, Value.nilFunc),
  (130, Value.nilFunc),
  (131, Value.nilFunc),
  (132, Value.nilFunc),
  (133, Value.nilFunc),
  (134, Value.nilFunc),
  (135, Value.nilFunc),
  (137, Value.nilFunc),
  (138, Value.nilFunc),
  (139, Value.nilFunc),
  (140, Value.nilFunc),
  (141, Value.nilFunc),
  (142, Value.nilFunc),
  (143, Value.nilFunc),
  (144, Value.slice none 0 0),
  (145, Value.nilFunc),
  (146, Value.nilFunc),
  (147, Value.nilFunc),
  (148, Value.agg #[Value.int IntKind.i64 0, Value.string { data := #[] }, Value.string { data := #[] }, Value.int IntKind.i64 0, Value.int IntKind.i64 0, Value.string { data := #[] }]),
  (149, Value.agg #[Value.int IntKind.i64 0, Value.string { data := #[] }, Value.string { data := #[] }, Value.int IntKind.i64 0, Value.int IntKind.i64 0, Value.string { data := #[] }]),
  (150, Value.agg #[Value.int IntKind.i64 0, Value.int IntKind.i64 0, Value.string { data := #[] }, Value.string { data := #[] }, Value.int IntKind.i64 0, Value.int IntKind.i64 0, Value.string { data := #[] }]),
  (151, Value.agg #[Value.int IntKind.i64 0, Value.int IntKind.i64 0, Value.string { data := #[] }, Value.string { data := #[] }, Value.int IntKind.i64 0, Value.int IntKind.i64 0, Value.string { data := #[] }]),
  (152, Value.nilFunc),
  (153, Value.agg #[Value.int IntKind.i64 0, Value.int IntKind.i64 0, Value.string { data := #[] }]),
  (154, Value.agg #[Value.int IntKind.i64 0, Value.int IntKind.i64 0, Value.string { data := #[] }]),
  (155, Value.nilFunc),
  (156, Value.nilFunc),
  (157, Value.nilFunc),
  (158, Value.nilFunc),
  (159, Value.nilFunc),
  (160, Value.nilFunc),
  (161, Value.nilFunc),
  (162, Value.nilFunc),
  (163, Value.nilFunc),
  (164, Value.nilFunc),
  (165, Value.nilFunc),
  (166, Value.nilFunc),
  (167, Value.agg #[Value.int IntKind.i64 0, Value.slice none 0 0, Value.bool false]),
  (168, Value.agg #[Value.int IntKind.i64 0, Value.slice none 0 0, Value.bool false]),
  (169, Value.nilFunc),
  (170, Value.nilFunc),
  (171, Value.nilFunc),
  (172, Value.nilFunc),
  (173, Value.nilFunc),
  (175, Value.nilFunc),
  (176, Value.nilFunc),
  (177, Value.nilFunc),
  (178, Value.nilFunc),
  (179, Value.nilFunc),
  (180, Value.nilFunc),
  (181, Value.nilFunc),
  (182, Value.nilFunc),
  (183, Value.nilFunc),
  (184, Value.nilFunc),
  (185, Value.nilFunc),
  (186, Value.nilFunc),
  (187, Value.nilFunc),
  (188, Value.nilFunc),
  (189, Value.nilFunc),
  (190, Value.nilFunc),
  (192, Value.nilFunc),
  (193, Value.nilFunc),
  (194, Value.nilFunc),
  (195, Value.nilFunc),
  (196, Value.nilFunc),
  (197, Value.nilFunc),
  (198, Value.nilFunc),
  (199, Value.nilFunc),
  (200, Value.nilFunc),
  (201, Value.nilFunc),
  (202, Value.nilFunc),
  (203, Value.nilFunc),
  (204, Value.nilFunc),
  (205, Value.agg #[Value.int IntKind.i64 0, Value.string { data := #[] }, Value.string { data := #[] }, Value.int IntKind.i64 0, Value.int IntKind.i64 0, Value.string { data := #[] }]),
  (206, Value.nilFunc),
  (207, Value.agg #[Value.int IntKind.i64 0, Value.int IntKind.i64 0, Value.string { data := #[] }]),
  (208, Value.nilFunc),
  (209, Value.agg #[Value.int IntKind.i64 0, Value.int IntKind.i64 0, Value.string { data := #[] }, Value.string { data := #[] }, Value.int IntKind.i64 0, Value.int IntKind.i64 0, Value.string { data := #[] }]),
  (210, Value.agg #[Value.int IntKind.i64 0, Value.int IntKind.i64 0, Value.string { data := #[] }, Value.string { data := #[] }, Value.int IntKind.i64 0, Value.int IntKind.i64 0, Value.string { data := #[] }]),
  (211, Value.nilFunc),
  (212, Value.nilFunc),
  (213, Value.nilFunc),
  (214, Value.nilFunc),
  (215, Value.nilFunc),
  (216, Value.nilFunc),
  (217, Value.nilFunc),
  (218, Value.nilFunc),
  (219, Value.nilFunc),
  (220, Value.nilFunc),
  (222, Value.nilFunc),
  (223, Value.nilFunc),
  (224, Value.nilFunc),
  (225, Value.nilFunc),
  (229, Value.nilFunc),
  (230, Value.nilFunc),
  (231, Value.nilFunc),
  (232, Value.nilFunc),
  (233, Value.nilFunc),
  (234, Value.nilFunc),
  (235, Value.nilFunc),
  (237, Value.nilFunc),
  (238, Value.pointer none),
  (239, Value.agg #[Value.pointer none, Value.slice none 0 0]),
  (240, Value.agg #[Value.pointer none, Value.slice none 0 0]),
  (241, Value.nilFunc),
  (242, Value.nilFunc),
  (243, Value.nilFunc),
  (244, Value.nilFunc),
  (245, Value.nilFunc),
  (246, Value.nilFunc),
  (247, Value.nilFunc),
  (249, Value.nilFunc),
  (250, Value.nilFunc),
  (251, Value.nilFunc),
  (252, Value.nilFunc),
  (253, Value.pointer none),
  (254, Value.nilFunc),
  (255, Value.int IntKind.u8 0),
  (256, Value.int IntKind.u64 0),
  (257, Value.nilFunc),
  (258, Value.nilFunc),
  (259, Value.nilFunc),
  (260, Value.int IntKind.i64 0),
  (262, Value.nilFunc),
  (263, Value.pointer none),
  (264, Value.nilFunc),
  (265, Value.nilFunc),
  (267, Value.nilFunc),
  (269, Value.int IntKind.u64 0),
  (270, Value.nilFunc),
  (271, Value.nilFunc),
  (273, Value.nilFunc),
  (274, Value.nilFunc),
  (276, Value.agg #[Value.int IntKind.u8 0, Value.int IntKind.u8 0]),
  (277, Value.agg #[Value.int IntKind.u8 0, Value.int IntKind.u8 0]),
  (280, Value.nilFunc),
  (283, Value.nilFunc),
  (284, Value.int IntKind.u32 0),
  (286, Value.nilFunc),
  (287, Value.nilFunc),
  (290, Value.nilFunc),
  (291, Value.nilFunc),
  (292, Value.nilFunc),
  (293, Value.pointer none),
  (294, Value.agg #[Value.string { data := #[] }]),
  (295, Value.agg #[Value.string { data := #[] }]),
  (296, Value.nilFunc),
  (299, Value.pointer none),
  (300, Value.pointer none),
  (301, Value.agg #[Value.pointer none, Value.pointer none, Value.pointer none, Value.string { data := #[] }]),
  (302, Value.agg #[Value.pointer none, Value.pointer none, Value.pointer none, Value.string { data := #[] }]),
  (306, Value.int IntKind.u8 0),
  (307, Value.int IntKind.u8 0),
  (308, Value.nilFunc),
  (309, Value.int IntKind.i32 0),
  (310, Value.int IntKind.i32 0),
  (311, Value.agg #[Value.int IntKind.u64 0, Value.int IntKind.u64 0, Value.int IntKind.u32 0, Value.int IntKind.u8 0, Value.int IntKind.u8 0, Value.int IntKind.u8 0, Value.int IntKind.u8 0, Value.nilFunc, Value.pointer none, Value.int IntKind.i32 0, Value.int IntKind.i32 0]),
  (312, Value.agg #[Value.int IntKind.u64 0, Value.int IntKind.u64 0, Value.int IntKind.u32 0, Value.int IntKind.u8 0, Value.int IntKind.u8 0, Value.int IntKind.u8 0, Value.int IntKind.u8 0, Value.nilFunc, Value.pointer none, Value.int IntKind.i32 0, Value.int IntKind.i32 0]),
  (313, Value.nilFunc),
  (317, Value.agg #[Value.string { data := #[] }, Value.slice none 0 0])]
def zr (t : Nat) : Option Value := lkZ zrL t
theorem zok : ∀ t z, zr t = some z → ∀ w, (zeroValue t).run Tryz.prog w = .ok z w := Yj4 ⟨Tryz.zeroValue1, Tryz.zeroValue2, Tryz.zeroValue3, Tryz.zeroValue4, Tryz.zeroValue5, Tryz.zeroValue6, Tryz.zeroValue7, Tryz.zeroValue8, Tryz.zeroValue9, Tryz.zeroValue10, Tryz.zeroValue11, Tryz.zeroValue12, Tryz.zeroValue13, Tryz.zeroValue14, Tryz.zeroValue15, Tryz.zeroValue16, Tryz.zeroValue17, Tryz.zeroValue18, Tryz.zeroValue19, Tryz.zeroValue21, Tryz.zeroValue22, Tryz.zeroValue23, Tryz.zeroValue24, Tryz.zeroValue25, Tryz.zeroValue26, Tryz.zeroValue27, Tryz.zeroValue28, Tryz.zeroValue29, Tryz.zeroValue30, Tryz.zeroValue31, Tryz.zeroValue32, Tryz.zeroValue33, Tryz.zeroValue34, Tryz.zeroValue35, Tryz.zeroValue36, Tryz.zeroValue37, Tryz.zeroValue38, Tryz.zeroValue39, Tryz.zeroValue40, Tryz.zeroValue41, Tryz.zeroValue42, Tryz.zeroValue43, Tryz.zeroValue44, Tryz.zeroValue45, Tryz.zeroValue46, Tryz.zeroValue47, Tryz.zeroValue48, Tryz.zeroValue49, Tryz.zeroValue50, Tryz.zeroValue51, Tryz.zeroValue52, Tryz.zeroValue53, Tryz.zeroValue54, Tryz.zeroValue55, Tryz.zeroValue56, Tryz.zeroValue57, Tryz.zeroValue58, Tryz.zeroValue59, Tryz.zeroValue61, Tryz.zeroValue62, Tryz.zeroValue63, Tryz.zeroValue64, Tryz.zeroValue65, Tryz.zeroValue66, Tryz.zeroValue67, Tryz.zeroValue68, Tryz.zeroValue69, Tryz.zeroValue70, Tryz.zeroValue71, Tryz.zeroValue72, Tryz.zeroValue73, Tryz.zeroValue74, Tryz.zeroValue75, Tryz.zeroValue76, Tryz.zeroValue77, Tryz.zeroValue78, Tryz.zeroValue79, Tryz.zeroValue80, Tryz.zeroValue81, Tryz.zeroValue82, Tryz.zeroValue83, Tryz.zeroValue84, Tryz.zeroValue85, Tryz.zeroValue86, Tryz.zeroValue87, Tryz.zeroValue88, Tryz.zeroValue89, Tryz.zeroValue90, Tryz.zeroValue91, Tryz.zeroValue92, Tryz.zeroValue93, Tryz.zeroValue94, Tryz.zeroValue95, Tryz.zeroValue96, Tryz.zeroValue97, Tryz.zeroValue98, Tryz.zeroValue99, Tryz.zeroValue100, Tryz.zeroValue101, Tryz.zeroValue102, Tryz.zeroValue103, Tryz.zeroValue104, Tryz.zeroValue105, Tryz.zeroValue106, Tryz.zeroValue107, Tryz.zeroValue108, Tryz.zeroValue109, Tryz.zeroValue110, Tryz.zeroValue112, Tryz.zeroValue113, Tryz.zeroValue114, Tryz.zeroValue115, Tryz.zeroValue116, Tryz.zeroValue117, Tryz.zeroValue118, Tryz.zeroValue119, Tryz.zeroValue120, Tryz.zeroValue121, Tryz.zeroValue122, Tryz.zeroValue123, Tryz.zeroValue124, Tryz.zeroValue125, Tryz.zeroValue126, Tryz.zeroValue127, Tryz.zeroValue128, Tryz.zeroValue129, Tryz.zeroValue130, Tryz.zeroValue131, Tryz.zeroValue132, Tryz.zeroValue133, Tryz.zeroValue134, Tryz.zeroValue135, Tryz.zeroValue137, Tryz.zeroValue138, Tryz.zeroValue139, Tryz.zeroValue140, Tryz.zeroValue141, Tryz.zeroValue142, Tryz.zeroValue143, Tryz.zeroValue144, Tryz.zeroValue145, Tryz.zeroValue146, Tryz.zeroValue147, Tryz.zeroValue148, Tryz.zeroValue149, Tryz.zeroValue150, Tryz.zeroValue151, Tryz.zeroValue152, Tryz.zeroValue153, Tryz.zeroValue154, Tryz.zeroValue155, Tryz.zeroValue156, Tryz.zeroValue157, Tryz.zeroValue158, Tryz.zeroValue159, Tryz.zeroValue160, Tryz.zeroValue161, Tryz.zeroValue162, Tryz.zeroValue163, Tryz.zeroValue164, Tryz.zeroValue165, Tryz.zeroValue166, Tryz.zeroValue167, Tryz.zeroValue168, Tryz.zeroValue169, Tryz.zeroValue170, Tryz.zeroValue171, Tryz.zeroValue172, Tryz.zeroValue173, Tryz.zeroValue175, Tryz.zeroValue176, Tryz.zeroValue177, Tryz.zeroValue178, Tryz.zeroValue179, Tryz.zeroValue180, Tryz.zeroValue181, Tryz.zeroValue182, Tryz.zeroValue183, Tryz.zeroValue184, Tryz.zeroValue185, Tryz.zeroValue186, Tryz.zeroValue187, Tryz.zeroValue188, Tryz.zeroValue189, Tryz.zeroValue190, Tryz.zeroValue192, Tryz.zeroValue193, Tryz.zeroValue194, Tryz.zeroValue195, Tryz.zeroValue196, Tryz.zeroValue197, Tryz.zeroValue198, Tryz.zeroValue199, Tryz.zeroValue200, Tryz.zeroValue201, Tryz.zeroValue202, Tryz.zeroValue203, Tryz.zeroValue204, Tryz.zeroValue205, Tryz.zeroValue206, Tryz.zeroValue207, Tryz.zeroValue208, Tryz.zeroValue209, Tryz.zeroValue210, Tryz.zeroValue211, Tryz.zeroValue212, Tryz.zeroValue213, Tryz.zeroValue214, Tryz.zeroValue215, Tryz.zeroValue216, Tryz.zeroValue217, Tryz.zeroValue218, Tryz.zeroValue219, Tryz.zeroValue220, Tryz.zeroValue222, Tryz.zeroValue223, Tryz.zeroValue224, Tryz.zeroValue225, Tryz.zeroValue229, Tryz.zeroValue230, Tryz.zeroValue231, Tryz.zeroValue232, Tryz.zeroValue233, Tryz.zeroValue234, Tryz.zeroValue235, Tryz.zeroValue237, Tryz.zeroValue238, Tryz.zeroValue239, Tryz.zeroValue240, Tryz.zeroValue241, Tryz.zeroValue242, Tryz.zeroValue243, Tryz.zeroValue244, Tryz.zeroValue245, Tryz.zeroValue246, Tryz.zeroValue247, Tryz.zeroValue249, Tryz.zeroValue250, Tryz.zeroValue251, Tryz.zeroValue252, Tryz.zeroValue253, Tryz.zeroValue254, Tryz.zeroValue255, Tryz.zeroValue256, Tryz.zeroValue257, Tryz.zeroValue258, Tryz.zeroValue259, Tryz.zeroValue260, Tryz.zeroValue262, Tryz.zeroValue263, Tryz.zeroValue264, Tryz.zeroValue265, Tryz.zeroValue267, Tryz.zeroValue269, Tryz.zeroValue270, Tryz.zeroValue271, Tryz.zeroValue273, Tryz.zeroValue274, Tryz.zeroValue276, Tryz.zeroValue277, Tryz.zeroValue280, Tryz.zeroValue283, Tryz.zeroValue284, Tryz.zeroValue286, Tryz.zeroValue287, Tryz.zeroValue290, Tryz.zeroValue291, Tryz.zeroValue292, Tryz.zeroValue293, Tryz.zeroValue294, Tryz.zeroValue295, Tryz.zeroValue296, Tryz.zeroValue299, Tryz.zeroValue300, Tryz.zeroValue301, Tryz.zeroValue302, Tryz.zeroValue306, Tryz.zeroValue307, Tryz.zeroValue308, Tryz.zeroValue309, Tryz.zeroValue310, Tryz.zeroValue311, Tryz.zeroValue312, Tryz.zeroValue313, Tryz.zeroValue317, trivial⟩
theorem ti_1 : ti 1 = .one := rfl
theorem ti_2 : ti 2 = .int .i64 := rfl
theorem ti_3 : ti 3 = .int .i64 := rfl
theorem ti_4 : ti 4 = .bool := rfl
theorem ti_5 : ti 5 = .int .u8 := rfl
theorem ti_6 : ti 6 = .int .u8 := rfl
theorem ti_7 : ti 7 = .st 4 [(0, 1), (1, 1), (2, 1), (3, 1)] := rfl
theorem ti_8 : ti 8 = .st 4 [(0, 1), (1, 1), (2, 1), (3, 1)] := rfl
theorem ti_9 : ti 9 = .str := rfl
theorem Q90 : ti 10 = .str := rfl
theorem Q9z : ti 11 = .str := rfl
theorem Q9y : ti 12 = .int .u64 := rfl
theorem Q9x : ti 13 = .st 2 [(0, 1), (1, 1)] := rfl
theorem Q9w : ti 14 = .st 2 [(0, 1), (1, 1)] := rfl
theorem Q9v : ti 15 = .one := rfl
theorem Q9u : ti 16 = .one := rfl
theorem Q9t : ti 17 = .one := rfl
theorem Q9s : ti 18 = .st 1 [(0, 1)] := rfl
theorem Q9r : ti 19 = .st 1 [(0, 1)] := rfl
theorem Q9q : ti 21 = .int .i32 := rfl
theorem Q9p : ti 22 = .sl 92 2 32 := rfl
theorem Q9o : ti 23 = .sl 99 10 160 := rfl
theorem Q9n : ti 24 = .sl 168 3 40 := rfl
theorem Q9m : ti 25 = .st 2 [(0, 1), (1, 1)] := rfl
theorem Q9l : ti 26 = .st 2 [(0, 1), (1, 1)] := rfl
theorem Q9k : ti 27 = .st 3 [(0, 1), (1, 2)] := rfl
theorem Q9j : ti 28 = .st 3 [(0, 1), (1, 2)] := rfl
theorem Q9i : ti 29 = .sl 105 8 96 := rfl
theorem Q9h : ti 30 = .sl 9 1 16 := rfl
theorem Q9g : ti 31 = .st 11 [(0, 1), (1, 1), (2, 3), (5, 1), (6, 1), (7, 1), (8, 1), (9, 1), (10, 1)] := rfl
theorem Q9f : ti 32 = .st 11 [(0, 1), (1, 1), (2, 3), (5, 1), (6, 1), (7, 1), (8, 1), (9, 1), (10, 1)] := rfl
theorem Q9e : ti 33 = .one := rfl
theorem Q9d : ti 34 = .one := rfl
theorem Q9c : ti 35 = .sl 114 2 32 := rfl
theorem Q9b : ti 36 = .sl 119 10 160 := rfl
theorem Q9a : ti 37 = .sl 108 3 40 := rfl
theorem Q89 : ti 38 = .st 2 [(0, 1), (1, 1)] := rfl
theorem Q88 : ti 39 = .st 3 [(0, 1), (1, 2)] := rfl
theorem Q87 : ti 40 = .st 3 [(0, 1), (1, 2)] := rfl
theorem Q86 : ti 41 = .sl 80 8 96 := rfl
theorem Q85 : ti 42 = .st 11 [(0, 1), (1, 1), (2, 3), (5, 1), (6, 1), (7, 1), (8, 1), (9, 1), (10, 1)] := rfl
theorem Q84 : ti 43 = .st 11 [(0, 1), (1, 1), (2, 3), (5, 1), (6, 1), (7, 1), (8, 1), (9, 1), (10, 1)] := rfl
theorem Q83 : ti 44 = .one := rfl
theorem Q82 : ti 45 = .one := rfl
theorem Q81 : ti 46 = .one := rfl
theorem Q80 : ti 47 = .one := rfl
theorem Q8z : ti 48 = .one := rfl
theorem Q8y : ti 49 = .one := rfl
theorem Q8x : ti 50 = .one := rfl
theorem Q8w : ti 51 = .one := rfl
theorem Q8v : ti 52 = .one := rfl
theorem Q8u : ti 53 = .one := rfl
theorem Q8t : ti 54 = .one := rfl
theorem Q8s : ti 55 = .one := rfl
theorem Q8r : ti 56 = .one := rfl
theorem Q8q : ti 57 = .one := rfl
theorem Q8p : ti 58 = .one := rfl
theorem Q8o : ti 59 = .one := rfl
theorem Q8n : ti 61 = .one := rfl
theorem Q8m : ti 62 = .one := rfl
theorem Q8l : ti 63 = .one := rfl
theorem Q8k : ti 64 = .one := rfl
theorem Q8j : ti 65 = .one := rfl
theorem Q8i : ti 66 = .one := rfl
theorem Q8h : ti 67 = .one := rfl
theorem Q8g : ti 68 = .one := rfl
theorem Q8f : ti 69 = .one := rfl
theorem Q8e : ti 70 = .one := rfl
theorem Q8d : ti 71 = .one := rfl
theorem Q8c : ti 72 = .one := rfl
theorem Q8b : ti 73 = .one := rfl
theorem Q8a : ti 74 = .one := rfl
theorem Q79 : ti 75 = .one := rfl
theorem Q78 : ti 76 = .one := rfl
theorem Q77 : ti 77 = .sl 151 7 80 := rfl
theorem Q76 : ti 78 = .sl 154 3 32 := rfl
theorem Q75 : ti 79 = .st 8 [(0, 1), (1, 1), (2, 1), (3, 1), (4, 1), (5, 1), (6, 1), (7, 1)] := rfl
theorem Q74 : ti 80 = .st 8 [(0, 1), (1, 1), (2, 1), (3, 1), (4, 1), (5, 1), (6, 1), (7, 1)] := rfl
theorem Q73 : ti 81 = .one := rfl
theorem Q72 : ti 82 = .one := rfl
theorem Q71 : ti 83 = .one := rfl
theorem Q70 : ti 84 = .one := rfl
theorem Q7z : ti 85 = .one := rfl
theorem Q7y : ti 86 = .one := rfl
theorem Q7x : ti 87 = .sl 3 1 8 := rfl
theorem Q7w : ti 88 = .one := rfl
theorem Q7v : ti 89 = .one := rfl
theorem Q7u : ti 90 = .one := rfl
theorem Q7t : ti 91 = .st 2 [(0, 1), (1, 1)] := rfl
theorem Q7s : ti 92 = .st 2 [(0, 1), (1, 1)] := rfl
theorem Q7r : ti 93 = .one := rfl
theorem Q7q : ti 94 = .sl 205 6 72 := rfl
theorem Q7p : ti 95 = .sl 207 3 32 := rfl
theorem Q7o : ti 96 = .st 2 [(0, 1), (1, 1)] := rfl
theorem Q7n : ti 97 = .st 2 [(0, 1), (1, 1)] := rfl
theorem Q7m : ti 98 = .st 10 [(0, 1), (1, 1), (2, 1), (3, 1), (4, 1), (5, 1), (6, 2), (8, 1), (9, 1)] := rfl
theorem Q7l : ti 99 = .st 10 [(0, 1), (1, 1), (2, 1), (3, 1), (4, 1), (5, 1), (6, 2), (8, 1), (9, 1)] := rfl
theorem Qvn : ti 100 = .one := rfl
theorem Qvm : ti 101 = .one := rfl
theorem Qvl : ti 102 = .one := rfl
theorem Qvk : ti 103 = .sl 210 7 80 := rfl
theorem Qvj : ti 104 = .st 8 [(0, 1), (1, 1), (2, 1), (3, 1), (4, 1), (5, 1), (6, 1), (7, 1)] := rfl
theorem Qvi : ti 105 = .st 8 [(0, 1), (1, 1), (2, 1), (3, 1), (4, 1), (5, 1), (6, 1), (7, 1)] := rfl
theorem Qvh : ti 106 = .one := rfl
theorem Qvg : ti 107 = .st 3 [(0, 1), (1, 1), (2, 1)] := rfl
theorem Qvf : ti 108 = .st 3 [(0, 1), (1, 1), (2, 1)] := rfl
theorem Qve : ti 109 = .one := rfl
theorem Qvd : ti 110 = .sl 35 1 24 := rfl
theorem Qvc : ti 112 = .one := rfl
theorem Qvb : ti 113 = .one := rfl
theorem Qva : ti 114 = .st 2 [(0, 1), (1, 1)] := rfl
theorem Qu9 : ti 115 = .one := rfl
theorem Qu8 : ti 116 = .sl 149 6 72 := rfl
theorem Qu7 : ti 117 = .st 2 [(0, 1), (1, 1)] := rfl
theorem Qu6 : ti 118 = .st 10 [(0, 1), (1, 1), (2, 1), (3, 1), (4, 1), (5, 1), (6, 2), (8, 1), (9, 1)] := rfl
theorem Qu5 : ti 119 = .st 10 [(0, 1), (1, 1), (2, 1), (3, 1), (4, 1), (5, 1), (6, 2), (8, 1), (9, 1)] := rfl
theorem Qu4 : ti 120 = .one := rfl
theorem Qu3 : ti 121 = .one := rfl
theorem Qu2 : ti 122 = .one := rfl
theorem Qu1 : ti 123 = .one := rfl
theorem Qu0 : ti 124 = .one := rfl
theorem Quz : ti 125 = .one := rfl
theorem Quy : ti 126 = .one := rfl
theorem Qux : ti 127 = .one := rfl
theorem Quw : ti 128 = .one := rfl
theorem Quv : ti 129 = .one := rfl
theorem Quu : ti 130 = .one := rfl
theorem Qut : ti 131 = .one := rfl
theorem Qus : ti 132 = .one := rfl
theorem Qur : ti 133 = .one := rfl
theorem Quq : ti 134 = .one := rfl
theorem Qup : ti 135 = .one := rfl
theorem Quo : ti 137 = .one := rfl
theorem Qun : ti 138 = .one := rfl
theorem Qum : ti 139 = .one := rfl
theorem Qul : ti 140 = .one := rfl
theorem Quk : ti 141 = .one := rfl
theorem Quj : ti 142 = .one := rfl
theorem Qui : ti 143 = .one := rfl
theorem Quh : ti 144 = .sl 5 1 1 := rfl
theorem Qug : ti 145 = .one := rfl
theorem Quf : ti 146 = .one := rfl
theorem Que : ti 147 = .one := rfl
theorem Qud : ti 148 = .st 6 [(0, 1), (1, 1), (2, 1), (3, 1), (4, 1), (5, 1)] := rfl
theorem Quc : ti 149 = .st 6 [(0, 1), (1, 1), (2, 1), (3, 1), (4, 1), (5, 1)] := rfl
theorem Qub : ti 150 = .st 7 [(0, 1), (1, 6)] := rfl
theorem Qua : ti 151 = .st 7 [(0, 1), (1, 6)] := rfl
theorem Qt9 : ti 152 = .one := rfl
theorem Qt8 : ti 153 = .st 3 [(0, 1), (1, 1), (2, 1)] := rfl
theorem Qt7 : ti 154 = .st 3 [(0, 1), (1, 1), (2, 1)] := rfl
theorem Qt6 : ti 155 = .one := rfl
theorem Qt5 : ti 156 = .one := rfl
theorem Qt4 : ti 157 = .one := rfl
theorem Qt3 : ti 158 = .one := rfl
theorem Qt2 : ti 159 = .one := rfl
theorem Qt1 : ti 160 = .one := rfl
theorem Qt0 : ti 161 = .one := rfl
theorem Qtz : ti 162 = .one := rfl
theorem Qty : ti 163 = .one := rfl
theorem Qtx : ti 164 = .one := rfl
theorem Qtw : ti 165 = .one := rfl
theorem Qtv : ti 166 = .one := rfl
theorem Qtu : ti 167 = .st 3 [(0, 1), (1, 1), (2, 1)] := rfl
theorem Qtt : ti 168 = .st 3 [(0, 1), (1, 1), (2, 1)] := rfl
theorem Qts : ti 169 = .one := rfl
theorem Qtr : ti 170 = .one := rfl
theorem Qtq : ti 171 = .one := rfl
theorem Qtp : ti 172 = .one := rfl
theorem Qto : ti 173 = .one := rfl
theorem Qtn : ti 175 = .one := rfl
theorem Qtm : ti 176 = .one := rfl
theorem Qtl : ti 177 = .one := rfl
theorem Qtk : ti 178 = .one := rfl
theorem Qtj : ti 179 = .one := rfl
theorem Qti : ti 180 = .one := rfl
theorem Qth : ti 181 = .one := rfl
theorem Qtg : ti 182 = .one := rfl
theorem Qtf : ti 183 = .one := rfl
theorem Qte : ti 184 = .one := rfl
theorem Qtd : ti 185 = .one := rfl
theorem Qtc : ti 186 = .one := rfl
theorem Qtb : ti 187 = .one := rfl
theorem Qta : ti 188 = .one := rfl
theorem Qs9 : ti 189 = .one := rfl
theorem Qs8 : ti 190 = .one := rfl
theorem Qs7 : ti 192 = .one := rfl
theorem Qs6 : ti 193 = .one := rfl
theorem Qs5 : ti 194 = .one := rfl
theorem Qs4 : ti 195 = .one := rfl
theorem Qs3 : ti 196 = .one := rfl
theorem Qs2 : ti 197 = .one := rfl
theorem Qs1 : ti 198 = .one := rfl
theorem Qs0 : ti 199 = .one := rfl
theorem Qsz : ti 200 = .one := rfl
theorem Qsy : ti 201 = .one := rfl
theorem Qsx : ti 202 = .one := rfl
theorem Qsw : ti 203 = .one := rfl
theorem Qsv : ti 204 = .one := rfl
theorem Qsu : ti 205 = .st 6 [(0, 1), (1, 1), (2, 1), (3, 1), (4, 1), (5, 1)] := rfl
theorem Qst : ti 206 = .one := rfl
theorem Qss : ti 207 = .st 3 [(0, 1), (1, 1), (2, 1)] := rfl
theorem Qsr : ti 208 = .one := rfl
theorem Qsq : ti 209 = .st 7 [(0, 1), (1, 6)] := rfl
theorem Qsp : ti 210 = .st 7 [(0, 1), (1, 6)] := rfl
theorem Qso : ti 211 = .one := rfl
theorem Qsn : ti 212 = .one := rfl
theorem Qsm : ti 213 = .one := rfl
theorem Qsl : ti 214 = .one := rfl
theorem Qsk : ti 215 = .one := rfl
theorem Qsj : ti 216 = .one := rfl
theorem Qsi : ti 217 = .one := rfl
theorem Qsh : ti 218 = .one := rfl
theorem Qsg : ti 219 = .one := rfl
theorem Qsf : ti 220 = .one := rfl
theorem Qse : ti 222 = .one := rfl
theorem Qsd : ti 223 = .one := rfl
theorem Qsc : ti 224 = .one := rfl
theorem Qsb : ti 225 = .one := rfl
theorem Qsa : ti 229 = .one := rfl
theorem Qr9 : ti 230 = .one := rfl
theorem Qr8 : ti 231 = .one := rfl
theorem Qr7 : ti 232 = .one := rfl
theorem Qr6 : ti 233 = .one := rfl
theorem Qr5 : ti 234 = .one := rfl
theorem Qr4 : ti 235 = .one := rfl
theorem Qr3 : ti 237 = .one := rfl
theorem Qr2 : ti 238 = .one := rfl
theorem Qr1 : ti 239 = .st 2 [(0, 1), (1, 1)] := rfl
theorem Qr0 : ti 240 = .st 2 [(0, 1), (1, 1)] := rfl
theorem Qrz : ti 241 = .one := rfl
theorem Qry : ti 242 = .one := rfl
theorem Qrx : ti 243 = .one := rfl
theorem Qrw : ti 244 = .one := rfl
theorem Qrv : ti 245 = .one := rfl
theorem Qru : ti 246 = .one := rfl
theorem Qrt : ti 247 = .one := rfl
theorem Qrs : ti 249 = .one := rfl
theorem Qrr : ti 250 = .one := rfl
theorem Qrq : ti 251 = .one := rfl
theorem Qrp : ti 252 = .one := rfl
theorem Qro : ti 253 = .one := rfl
theorem Qrn : ti 254 = .one := rfl
theorem Qrm : ti 255 = .int .u8 := rfl
theorem Qrl : ti 256 = .int .u64 := rfl
theorem Qrk : ti 257 = .one := rfl
theorem Qrj : ti 258 = .one := rfl
theorem Qri : ti 259 = .one := rfl
theorem Qrh : ti 260 = .int .i64 := rfl
theorem Qrg : ti 262 = .one := rfl
theorem Qrf : ti 263 = .one := rfl
theorem Qre : ti 264 = .one := rfl
theorem Qrd : ti 265 = .one := rfl
theorem Qrc : ti 267 = .one := rfl
theorem Qrb : ti 269 = .int .u64 := rfl
theorem Qra : ti 270 = .one := rfl
theorem Qq9 : ti 271 = .one := rfl
theorem Qq8 : ti 273 = .one := rfl
theorem Qq7 : ti 274 = .one := rfl
theorem Qq6 : ti 276 = .st 2 [(0, 1), (1, 1)] := rfl
theorem Qq5 : ti 277 = .st 2 [(0, 1), (1, 1)] := rfl
theorem Qq4 : ti 280 = .one := rfl
theorem Qq3 : ti 281 = .st 3 [(0, 1), (1, 1), (2, 1)] := rfl
theorem Qq2 : ti 282 = .st 3 [(0, 1), (1, 1), (2, 1)] := rfl
theorem Qq1 : ti 283 = .one := rfl
theorem Qq0 : ti 284 = .int .u32 := rfl
theorem Qqz : ti 286 = .one := rfl
theorem Qqy : ti 287 = .one := rfl
theorem Qqx : ti 290 = .one := rfl
theorem Qqw : ti 291 = .one := rfl
theorem Qqv : ti 292 = .one := rfl
theorem Qqu : ti 293 = .one := rfl
theorem Qqt : ti 294 = .st 1 [(0, 1)] := rfl
theorem Qqs : ti 295 = .st 1 [(0, 1)] := rfl
theorem Qqr : ti 296 = .one := rfl
theorem Qqq : ti 299 = .one := rfl
theorem Qqp : ti 300 = .one := rfl
theorem Qqo : ti 301 = .st 4 [(0, 1), (1, 1), (2, 1), (3, 1)] := rfl
theorem Qqn : ti 302 = .st 4 [(0, 1), (1, 1), (2, 1), (3, 1)] := rfl
theorem Qqm : ti 306 = .int .u8 := rfl
theorem Qql : ti 307 = .int .u8 := rfl
theorem Qqk : ti 308 = .one := rfl
theorem Qqj : ti 309 = .int .i32 := rfl
theorem Qqi : ti 310 = .int .i32 := rfl
theorem Qqh : ti 311 = .st 11 [(0, 1), (1, 1), (2, 1), (3, 1), (4, 1), (5, 1), (6, 1), (7, 1), (8, 1), (9, 1), (10, 1)] := rfl
theorem Qqg : ti 312 = .st 11 [(0, 1), (1, 1), (2, 1), (3, 1), (4, 1), (5, 1), (6, 1), (7, 1), (8, 1), (9, 1), (10, 1)] := rfl
theorem Qqf : ti 313 = .one := rfl
theorem Qqe : ti 314 = .st 2 [(0, 1), (1, 1)] := rfl
theorem Qqd : ti 315 = .st 2 [(0, 1), (1, 1)] := rfl
theorem Qqc : ti 317 = .st 2 [(0, 1), (1, 1)] := rfl
theorem zr_1 : zr 1 = some (Value.nilFunc) := rfl
theorem zr_2 : zr 2 = some (Value.int IntKind.i64 0) := rfl
theorem zr_3 : zr 3 = some (Value.int IntKind.i64 0) := rfl
theorem zr_4 : zr 4 = some (Value.bool false) := rfl
theorem zr_5 : zr 5 = some (Value.int IntKind.u8 0) := rfl
theorem zr_6 : zr 6 = some (Value.int IntKind.u8 0) := rfl
theorem zr_7 : zr 7 = some (Value.agg #[Value.int IntKind.i64 0, Value.int IntKind.i64 0, Value.bool false, Value.int IntKind.u8 0]) := rfl
theorem zr_8 : zr 8 = some (Value.agg #[Value.int IntKind.i64 0, Value.int IntKind.i64 0, Value.bool false, Value.int IntKind.u8 0]) := rfl
theorem zr_9 : zr 9 = some (Value.string { data := #[] }) := rfl
theorem Yfp : zr 10 = some (Value.string { data := #[] }) := rfl
theorem Yfo : zr 11 = some (Value.string { data := #[] }) := rfl
theorem Yfn : zr 12 = some (Value.int IntKind.u64 0) := rfl
theorem Yfm : zr 13 = some (Value.agg #[Value.string { data := #[] }, Value.int IntKind.u64 0]) := rfl
theorem Yfl : zr 14 = some (Value.agg #[Value.string { data := #[] }, Value.int IntKind.u64 0]) := rfl
theorem Yfk : zr 15 = some (Value.pointer none) := rfl
theorem Yfj : zr 16 = some (Value.pointer none) := rfl
theorem Yfi : zr 17 = some (Value.pointer none) := rfl
theorem Yfh : zr 18 = some (Value.agg #[Value.pointer none]) := rfl
theorem Yfg : zr 19 = some (Value.agg #[Value.pointer none]) := rfl
theorem Yff : zr 21 = some (Value.int IntKind.i32 0) := rfl
theorem Yfe : zr 22 = some (Value.slice none 0 0) := rfl
theorem Yfd : zr 23 = some (Value.slice none 0 0) := rfl
theorem Yfc : zr 24 = some (Value.slice none 0 0) := rfl
theorem Yfb : zr 25 = some (Value.agg #[Value.string { data := #[] }, Value.int IntKind.i64 0]) := rfl
theorem Yfa : zr 26 = some (Value.agg #[Value.string { data := #[] }, Value.int IntKind.i64 0]) := rfl
theorem Ye9 : zr 27 = some (Value.agg #[Value.slice none 0 0, Value.string { data := #[] }, Value.int IntKind.i64 0]) := rfl
theorem Ye8 : zr 28 = some (Value.agg #[Value.slice none 0 0, Value.string { data := #[] }, Value.int IntKind.i64 0]) := rfl
theorem Ye7 : zr 29 = some (Value.slice none 0 0) := rfl
theorem Ye6 : zr 30 = some (Value.slice none 0 0) := rfl
theorem Ye5 : zr 31 = some (Value.agg #[Value.slice none 0 0, Value.slice none 0 0, Value.slice none 0 0, Value.string { data := #[] }, Value.int IntKind.i64 0, Value.int IntKind.i64 0, Value.int IntKind.i64 0, Value.int IntKind.i64 0, Value.slice none 0 0, Value.slice none 0 0, Value.bool false]) := rfl
theorem Ye4 : zr 32 = some (Value.agg #[Value.slice none 0 0, Value.slice none 0 0, Value.slice none 0 0, Value.string { data := #[] }, Value.int IntKind.i64 0, Value.int IntKind.i64 0, Value.int IntKind.i64 0, Value.int IntKind.i64 0, Value.slice none 0 0, Value.slice none 0 0, Value.bool false]) := rfl
theorem Ye3 : zr 33 = some (Value.nilFunc) := rfl
theorem Ye2 : zr 34 = some (Value.nilFunc) := rfl
theorem Ye1 : zr 35 = some (Value.slice none 0 0) := rfl
theorem Ye0 : zr 36 = some (Value.slice none 0 0) := rfl
theorem Yez : zr 37 = some (Value.slice none 0 0) := rfl
theorem Yey : zr 38 = some (Value.agg #[Value.string { data := #[] }, Value.int IntKind.i64 0]) := rfl
theorem Yex : zr 39 = some (Value.agg #[Value.slice none 0 0, Value.string { data := #[] }, Value.int IntKind.i64 0]) := rfl
theorem Yew : zr 40 = some (Value.agg #[Value.slice none 0 0, Value.string { data := #[] }, Value.int IntKind.i64 0]) := rfl
theorem Yev : zr 41 = some (Value.slice none 0 0) := rfl
theorem Yeu : zr 42 = some (Value.agg #[Value.slice none 0 0, Value.slice none 0 0, Value.slice none 0 0, Value.string { data := #[] }, Value.int IntKind.i64 0, Value.int IntKind.i64 0, Value.int IntKind.i64 0, Value.int IntKind.i64 0, Value.slice none 0 0, Value.slice none 0 0, Value.bool false]) := rfl
theorem Yet : zr 43 = some (Value.agg #[Value.slice none 0 0, Value.slice none 0 0, Value.slice none 0 0, Value.string { data := #[] }, Value.int IntKind.i64 0, Value.int IntKind.i64 0, Value.int IntKind.i64 0, Value.int IntKind.i64 0, Value.slice none 0 0, Value.slice none 0 0, Value.bool false]) := rfl
theorem Yes : zr 44 = some (Value.nilFunc) := rfl
theorem Yer : zr 45 = some (Value.nilFunc) := rfl
theorem Yeq : zr 46 = some (Value.nilFunc) := rfl
theorem Yep : zr 47 = some (Value.nilFunc) := rfl
theorem Yeo : zr 48 = some (Value.nilFunc) := rfl
theorem Yen : zr 49 = some (Value.nilFunc) := rfl
theorem Yem : zr 50 = some (Value.nilFunc) := rfl
theorem Yel : zr 51 = some (Value.nilFunc) := rfl
theorem Yek : zr 52 = some (Value.nilFunc) := rfl
theorem Yej : zr 53 = some (Value.nilFunc) := rfl
theorem Yei : zr 54 = some (Value.nilFunc) := rfl
theorem Yeh : zr 55 = some (Value.nilFunc) := rfl
theorem Yeg : zr 56 = some (Value.nilFunc) := rfl
theorem Yef : zr 57 = some (Value.nilFunc) := rfl
theorem Yee : zr 58 = some (Value.nilFunc) := rfl
theorem Yed : zr 59 = some (Value.nilFunc) := rfl
theorem Yec : zr 61 = some (Value.nilFunc) := rfl
theorem Yeb : zr 62 = some (Value.nilFunc) := rfl
theorem Yea : zr 63 = some (Value.nilFunc) := rfl
theorem Yd9 : zr 64 = some (Value.nilFunc) := rfl
theorem Yd8 : zr 65 = some (Value.nilFunc) := rfl
theorem Yd7 : zr 66 = some (Value.nilFunc) := rfl
theorem Yd6 : zr 67 = some (Value.nilFunc) := rfl
theorem Yd5 : zr 68 = some (Value.nilFunc) := rfl
theorem Yd4 : zr 69 = some (Value.nilFunc) := rfl
theorem Yd3 : zr 70 = some (Value.nilFunc) := rfl
theorem Yd2 : zr 71 = some (Value.nilFunc) := rfl
theorem Yd1 : zr 72 = some (Value.nilFunc) := rfl
theorem Yd0 : zr 73 = some (Value.nilFunc) := rfl
theorem Ydz : zr 74 = some (Value.nilFunc) := rfl
theorem Ydy : zr 75 = some (Value.nilFunc) := rfl
theorem Ydx : zr 76 = some (Value.nilFunc) := rfl
theorem Ydw : zr 77 = some (Value.slice none 0 0) := rfl
theorem Ydv : zr 78 = some (Value.slice none 0 0) := rfl
theorem Ydu : zr 79 = some (Value.agg #[Value.int IntKind.i64 0, Value.int IntKind.i64 0, Value.int IntKind.i64 0, Value.slice none 0 0, Value.slice none 0 0, Value.int IntKind.i64 0, Value.int IntKind.i64 0, Value.bool false]) := rfl
theorem Ydt : zr 80 = some (Value.agg #[Value.int IntKind.i64 0, Value.int IntKind.i64 0, Value.int IntKind.i64 0, Value.slice none 0 0, Value.slice none 0 0, Value.int IntKind.i64 0, Value.int IntKind.i64 0, Value.bool false]) := rfl
theorem Yds : zr 81 = some (Value.nilFunc) := rfl
theorem Ydr : zr 82 = some (Value.nilFunc) := rfl
theorem Ydq : zr 83 = some (Value.nilFunc) := rfl
theorem Ydp : zr 84 = some (Value.nilFunc) := rfl
theorem Ydo : zr 85 = some (Value.nilFunc) := rfl
theorem Ydn : zr 86 = some (Value.nilFunc) := rfl
theorem Ydm : zr 87 = some (Value.slice none 0 0) := rfl
theorem Ydl : zr 88 = some (Value.nilFunc) := rfl
theorem Ydk : zr 89 = some (Value.nilFunc) := rfl
theorem Ydj : zr 90 = some (Value.nilFunc) := rfl
theorem Ydi : zr 91 = some (Value.agg #[Value.string { data := #[] }, Value.string { data := #[] }]) := rfl
theorem Ydh : zr 92 = some (Value.agg #[Value.string { data := #[] }, Value.string { data := #[] }]) := rfl
theorem Ydg : zr 93 = some (Value.nilFunc) := rfl
theorem Ydf : zr 94 = some (Value.slice none 0 0) := rfl
theorem Yde : zr 95 = some (Value.slice none 0 0) := rfl
theorem Ydd : zr 96 = some (Value.agg #[Value.slice none 0 0, Value.slice none 0 0]) := rfl
theorem Ydc : zr 97 = some (Value.agg #[Value.slice none 0 0, Value.slice none 0 0]) := rfl
theorem Ydb : zr 98 = some (Value.agg #[Value.int IntKind.i64 0, Value.int IntKind.i64 0, Value.int IntKind.i64 0, Value.int IntKind.i64 0, Value.slice none 0 0, Value.slice none 0 0, Value.slice none 0 0, Value.slice none 0 0, Value.slice none 0 0, Value.int IntKind.i64 0]) := rfl
theorem Yda : zr 99 = some (Value.agg #[Value.int IntKind.i64 0, Value.int IntKind.i64 0, Value.int IntKind.i64 0, Value.int IntKind.i64 0, Value.slice none 0 0, Value.slice none 0 0, Value.slice none 0 0, Value.slice none 0 0, Value.slice none 0 0, Value.int IntKind.i64 0]) := rfl
theorem Q5b : zr 100 = some (Value.nilFunc) := rfl
theorem Q5a : zr 101 = some (Value.nilFunc) := rfl
theorem Q49 : zr 102 = some (Value.nilFunc) := rfl
theorem Q48 : zr 103 = some (Value.slice none 0 0) := rfl
theorem Q47 : zr 104 = some (Value.agg #[Value.int IntKind.i64 0, Value.int IntKind.i64 0, Value.int IntKind.i64 0, Value.slice none 0 0, Value.slice none 0 0, Value.int IntKind.i64 0, Value.int IntKind.i64 0, Value.bool false]) := rfl
theorem Q46 : zr 105 = some (Value.agg #[Value.int IntKind.i64 0, Value.int IntKind.i64 0, Value.int IntKind.i64 0, Value.slice none 0 0, Value.slice none 0 0, Value.int IntKind.i64 0, Value.int IntKind.i64 0, Value.bool false]) := rfl
theorem Q45 : zr 106 = some (Value.nilFunc) := rfl
theorem Q44 : zr 107 = some (Value.agg #[Value.int IntKind.i64 0, Value.slice none 0 0, Value.bool false]) := rfl
theorem Q43 : zr 108 = some (Value.agg #[Value.int IntKind.i64 0, Value.slice none 0 0, Value.bool false]) := rfl
theorem Q42 : zr 109 = some (Value.nilFunc) := rfl
theorem Q41 : zr 110 = some (Value.slice none 0 0) := rfl
theorem Q40 : zr 112 = some (Value.nilFunc) := rfl
theorem Q4z : zr 113 = some (Value.nilFunc) := rfl
theorem Q4y : zr 114 = some (Value.agg #[Value.string { data := #[] }, Value.string { data := #[] }]) := rfl
theorem Q4x : zr 115 = some (Value.nilFunc) := rfl
theorem Q4w : zr 116 = some (Value.slice none 0 0) := rfl
theorem Q4v : zr 117 = some (Value.agg #[Value.slice none 0 0, Value.slice none 0 0]) := rfl
theorem Q4u : zr 118 = some (Value.agg #[Value.int IntKind.i64 0, Value.int IntKind.i64 0, Value.int IntKind.i64 0, Value.int IntKind.i64 0, Value.slice none 0 0, Value.slice none 0 0, Value.slice none 0 0, Value.slice none 0 0, Value.slice none 0 0, Value.int IntKind.i64 0]) := rfl
theorem Q4t : zr 119 = some (Value.agg #[Value.int IntKind.i64 0, Value.int IntKind.i64 0, Value.int IntKind.i64 0, Value.int IntKind.i64 0, Value.slice none 0 0, Value.slice none 0 0, Value.slice none 0 0, Value.slice none 0 0, Value.slice none 0 0, Value.int IntKind.i64 0]) := rfl
theorem Q4s : zr 120 = some (Value.nilFunc) := rfl
theorem Q4r : zr 121 = some (Value.nilFunc) := rfl
theorem Q4q : zr 122 = some (Value.nilFunc) := rfl
theorem Q4p : zr 123 = some (Value.nilFunc) := rfl
theorem Q4o : zr 124 = some (Value.nilFunc) := rfl
theorem Q4n : zr 125 = some (Value.nilFunc) := rfl
theorem Q4m : zr 126 = some (Value.nilFunc) := rfl
theorem Q4l : zr 127 = some (Value.nilFunc) := rfl
theorem Q4k : zr 128 = some (Value.nilFunc) := rfl
theorem Q4j : zr 129 = some (Value.nilFunc) := rfl
theorem Q4i : zr 130 = some (Value.nilFunc) := rfl
theorem Q4h : zr 131 = some (Value.nilFunc) := rfl
theorem Q4g : zr 132 = some (Value.nilFunc) := rfl
theorem Q4f : zr 133 = some (Value.nilFunc) := rfl
theorem Q4e : zr 134 = some (Value.nilFunc) := rfl
theorem Q4d : zr 135 = some (Value.nilFunc) := rfl
theorem Q4c : zr 137 = some (Value.nilFunc) := rfl
theorem Q4b : zr 138 = some (Value.nilFunc) := rfl
theorem Q4a : zr 139 = some (Value.nilFunc) := rfl
theorem Q39 : zr 140 = some (Value.nilFunc) := rfl
theorem Q38 : zr 141 = some (Value.nilFunc) := rfl
theorem Q37 : zr 142 = some (Value.nilFunc) := rfl
theorem Q36 : zr 143 = some (Value.nilFunc) := rfl
theorem Q35 : zr 144 = some (Value.slice none 0 0) := rfl
theorem Q34 : zr 145 = some (Value.nilFunc) := rfl
theorem Q33 : zr 146 = some (Value.nilFunc) := rfl
theorem Q32 : zr 147 = some (Value.nilFunc) := rfl
theorem Q31 : zr 148 = some (Value.agg #[Value.int IntKind.i64 0, Value.string { data := #[] }, Value.string { data := #[] }, Value.int IntKind.i64 0, Value.int IntKind.i64 0, Value.string { data := #[] }]) := rfl
theorem Q30 : zr 149 = some (Value.agg #[Value.int IntKind.i64 0, Value.string { data := #[] }, Value.string { data := #[] }, Value.int IntKind.i64 0, Value.int IntKind.i64 0, Value.string { data := #[] }]) := rfl
theorem Q3z : zr 150 = some (Value.agg #[Value.int IntKind.i64 0, Value.int IntKind.i64 0, Value.string { data := #[] }, Value.string { data := #[] }, Value.int IntKind.i64 0, Value.int IntKind.i64 0, Value.string { data := #[] }]) := rfl
theorem Q3y : zr 151 = some (Value.agg #[Value.int IntKind.i64 0, Value.int IntKind.i64 0, Value.string { data := #[] }, Value.string { data := #[] }, Value.int IntKind.i64 0, Value.int IntKind.i64 0, Value.string { data := #[] }]) := rfl
theorem Q3x : zr 152 = some (Value.nilFunc) := rfl
theorem Q3w : zr 153 = some (Value.agg #[Value.int IntKind.i64 0, Value.int IntKind.i64 0, Value.string { data := #[] }]) := rfl
theorem Q3v : zr 154 = some (Value.agg #[Value.int IntKind.i64 0, Value.int IntKind.i64 0, Value.string { data := #[] }]) := rfl
theorem Q3u : zr 155 = some (Value.nilFunc) := rfl
theorem Q3t : zr 156 = some (Value.nilFunc) := rfl
theorem Q3s : zr 157 = some (Value.nilFunc) := rfl
theorem Q3r : zr 158 = some (Value.nilFunc) := rfl
theorem Q3q : zr 159 = some (Value.nilFunc) := rfl
theorem Q3p : zr 160 = some (Value.nilFunc) := rfl
theorem Q3o : zr 161 = some (Value.nilFunc) := rfl
theorem Q3n : zr 162 = some (Value.nilFunc) := rfl
theorem Q3m : zr 163 = some (Value.nilFunc) := rfl
theorem Q3l : zr 164 = some (Value.nilFunc) := rfl
theorem Q3k : zr 165 = some (Value.nilFunc) := rfl
theorem Q3j : zr 166 = some (Value.nilFunc) := rfl
theorem Q3i : zr 167 = some (Value.agg #[Value.int IntKind.i64 0, Value.slice none 0 0, Value.bool false]) := rfl
theorem Q3h : zr 168 = some (Value.agg #[Value.int IntKind.i64 0, Value.slice none 0 0, Value.bool false]) := rfl
theorem Q3g : zr 169 = some (Value.nilFunc) := rfl
theorem Q3f : zr 170 = some (Value.nilFunc) := rfl
theorem Q3e : zr 171 = some (Value.nilFunc) := rfl
theorem Q3d : zr 172 = some (Value.nilFunc) := rfl
theorem Q3c : zr 173 = some (Value.nilFunc) := rfl
theorem Q3b : zr 175 = some (Value.nilFunc) := rfl
theorem Q3a : zr 176 = some (Value.nilFunc) := rfl
theorem Q29 : zr 177 = some (Value.nilFunc) := rfl
theorem Q28 : zr 178 = some (Value.nilFunc) := rfl
theorem Q27 : zr 179 = some (Value.nilFunc) := rfl
theorem Q26 : zr 180 = some (Value.nilFunc) := rfl
theorem Q25 : zr 181 = some (Value.nilFunc) := rfl
theorem Q24 : zr 182 = some (Value.nilFunc) := rfl
theorem Q23 : zr 183 = some (Value.nilFunc) := rfl
theorem Q22 : zr 184 = some (Value.nilFunc) := rfl
theorem Q21 : zr 185 = some (Value.nilFunc) := rfl
theorem Q20 : zr 186 = some (Value.nilFunc) := rfl
theorem Q2z : zr 187 = some (Value.nilFunc) := rfl
theorem Q2y : zr 188 = some (Value.nilFunc) := rfl
theorem Q2x : zr 189 = some (Value.nilFunc) := rfl
theorem Q2w : zr 190 = some (Value.nilFunc) := rfl
theorem Q2v : zr 192 = some (Value.nilFunc) := rfl
theorem Q2u : zr 193 = some (Value.nilFunc) := rfl
theorem Q2t : zr 194 = some (Value.nilFunc) := rfl
theorem Q2s : zr 195 = some (Value.nilFunc) := rfl
theorem Q2r : zr 196 = some (Value.nilFunc) := rfl
theorem Q2q : zr 197 = some (Value.nilFunc) := rfl
theorem Q2p : zr 198 = some (Value.nilFunc) := rfl
theorem Q2o : zr 199 = some (Value.nilFunc) := rfl
theorem Q2n : zr 200 = some (Value.nilFunc) := rfl
theorem Q2m : zr 201 = some (Value.nilFunc) := rfl
theorem Q2l : zr 202 = some (Value.nilFunc) := rfl
theorem Q2k : zr 203 = some (Value.nilFunc) := rfl
theorem Q2j : zr 204 = some (Value.nilFunc) := rfl
theorem Q2i : zr 205 = some (Value.agg #[Value.int IntKind.i64 0, Value.string { data := #[] }, Value.string { data := #[] }, Value.int IntKind.i64 0, Value.int IntKind.i64 0, Value.string { data := #[] }]) := rfl
theorem Q2h : zr 206 = some (Value.nilFunc) := rfl
theorem Q2g : zr 207 = some (Value.agg #[Value.int IntKind.i64 0, Value.int IntKind.i64 0, Value.string { data := #[] }]) := rfl
theorem Q2f : zr 208 = some (Value.nilFunc) := rfl
theorem Q2e : zr 209 = some (Value.agg #[Value.int IntKind.i64 0, Value.int IntKind.i64 0, Value.string { data := #[] }, Value.string { data := #[] }, Value.int IntKind.i64 0, Value.int IntKind.i64 0, Value.string { data := #[] }]) := rfl
theorem Q2d : zr 210 = some (Value.agg #[Value.int IntKind.i64 0, Value.int IntKind.i64 0, Value.string { data := #[] }, Value.string { data := #[] }, Value.int IntKind.i64 0, Value.int IntKind.i64 0, Value.string { data := #[] }]) := rfl
theorem Q2c : zr 211 = some (Value.nilFunc) := rfl
theorem Q2b : zr 212 = some (Value.nilFunc) := rfl
theorem Q2a : zr 213 = some (Value.nilFunc) := rfl
theorem Q19 : zr 214 = some (Value.nilFunc) := rfl
theorem Q18 : zr 215 = some (Value.nilFunc) := rfl
theorem Q17 : zr 216 = some (Value.nilFunc) := rfl
theorem Q16 : zr 217 = some (Value.nilFunc) := rfl
theorem Q15 : zr 218 = some (Value.nilFunc) := rfl
theorem Q14 : zr 219 = some (Value.nilFunc) := rfl
theorem Q13 : zr 220 = some (Value.nilFunc) := rfl
theorem Q12 : zr 222 = some (Value.nilFunc) := rfl
theorem Q11 : zr 223 = some (Value.nilFunc) := rfl
theorem Q10 : zr 224 = some (Value.nilFunc) := rfl
theorem Q1z : zr 225 = some (Value.nilFunc) := rfl
theorem Q1y : zr 229 = some (Value.nilFunc) := rfl
theorem Q1x : zr 230 = some (Value.nilFunc) := rfl
theorem Q1w : zr 231 = some (Value.nilFunc) := rfl
theorem Q1v : zr 232 = some (Value.nilFunc) := rfl
theorem Q1u : zr 233 = some (Value.nilFunc) := rfl
theorem Q1t : zr 234 = some (Value.nilFunc) := rfl
theorem Q1s : zr 235 = some (Value.nilFunc) := rfl
theorem Q1r : zr 237 = some (Value.nilFunc) := rfl
theorem Q1q : zr 238 = some (Value.pointer none) := rfl
theorem Q1p : zr 239 = some (Value.agg #[Value.pointer none, Value.slice none 0 0]) := rfl
theorem Q1o : zr 240 = some (Value.agg #[Value.pointer none, Value.slice none 0 0]) := rfl
theorem Q1n : zr 241 = some (Value.nilFunc) := rfl
theorem Q1m : zr 242 = some (Value.nilFunc) := rfl
theorem Q1l : zr 243 = some (Value.nilFunc) := rfl
theorem Q1k : zr 244 = some (Value.nilFunc) := rfl
theorem Q1j : zr 245 = some (Value.nilFunc) := rfl
theorem Q1i : zr 246 = some (Value.nilFunc) := rfl
theorem Q1h : zr 247 = some (Value.nilFunc) := rfl
theorem Q1g : zr 249 = some (Value.nilFunc) := rfl
theorem Q1f : zr 250 = some (Value.nilFunc) := rfl
theorem Q1e : zr 251 = some (Value.nilFunc) := rfl
theorem Q1d : zr 252 = some (Value.nilFunc) := rfl
theorem Q1c : zr 253 = some (Value.pointer none) := rfl
theorem Q1b : zr 254 = some (Value.nilFunc) := rfl
theorem Q1a : zr 255 = some (Value.int IntKind.u8 0) := rfl
theorem Q09 : zr 256 = some (Value.int IntKind.u64 0) := rfl
theorem Q08 : zr 257 = some (Value.nilFunc) := rfl
theorem Q07 : zr 258 = some (Value.nilFunc) := rfl
theorem Q06 : zr 259 = some (Value.nilFunc) := rfl
theorem Q05 : zr 260 = some (Value.int IntKind.i64 0) := rfl
theorem Q04 : zr 262 = some (Value.nilFunc) := rfl
theorem Q03 : zr 263 = some (Value.pointer none) := rfl
theorem Q02 : zr 264 = some (Value.nilFunc) := rfl
theorem Q01 : zr 265 = some (Value.nilFunc) := rfl
theorem Q00 : zr 267 = some (Value.nilFunc) := rfl
theorem Q0z : zr 269 = some (Value.int IntKind.u64 0) := rfl
theorem Q0y : zr 270 = some (Value.nilFunc) := rfl
theorem Q0x : zr 271 = some (Value.nilFunc) := rfl
theorem Q0w : zr 273 = some (Value.nilFunc) := rfl
theorem Q0v : zr 274 = some (Value.nilFunc) := rfl
theorem Q0u : zr 276 = some (Value.agg #[Value.int IntKind.u8 0, Value.int IntKind.u8 0]) := rfl
theorem Q0t : zr 277 = some (Value.agg #[Value.int IntKind.u8 0, Value.int IntKind.u8 0]) := rfl
theorem Q0s : zr 280 = some (Value.nilFunc) := rfl
theorem Q0r : zr 283 = some (Value.nilFunc) := rfl
theorem Q0q : zr 284 = some (Value.int IntKind.u32 0) := rfl
theorem Q0p : zr 286 = some (Value.nilFunc) := rfl
theorem Q0o : zr 287 = some (Value.nilFunc) := rfl
theorem Q0n : zr 290 = some (Value.nilFunc) := rfl
theorem Q0m : zr 291 = some (Value.nilFunc) := rfl
theorem Q0l : zr 292 = some (Value.nilFunc) := rfl
theorem Q0k : zr 293 = some (Value.pointer none) := rfl
theorem Q0j : zr 294 = some (Value.agg #[Value.string { data := #[] }]) := rfl
theorem Q0i : zr 295 = some (Value.agg #[Value.string { data := #[] }]) := rfl
theorem Q0h : zr 296 = some (Value.nilFunc) := rfl
theorem Q0g : zr 299 = some (Value.pointer none) := rfl
theorem Q0f : zr 300 = some (Value.pointer none) := rfl
theorem Q0e : zr 301 = some (Value.agg #[Value.pointer none, Value.pointer none, Value.pointer none, Value.string { data := #[] }]) := rfl
theorem Q0d : zr 302 = some (Value.agg #[Value.pointer none, Value.pointer none, Value.pointer none, Value.string { data := #[] }]) := rfl
theorem Q0c : zr 306 = some (Value.int IntKind.u8 0) := rfl
theorem Q0b : zr 307 = some (Value.int IntKind.u8 0) := rfl
theorem Q0a : zr 308 = some (Value.nilFunc) := rfl
theorem Qz9 : zr 309 = some (Value.int IntKind.i32 0) := rfl
theorem Qz8 : zr 310 = some (Value.int IntKind.i32 0) := rfl
theorem Qz7 : zr 311 = some (Value.agg #[Value.int IntKind.u64 0, Value.int IntKind.u64 0, Value.int IntKind.u32 0, Value.int IntKind.u8 0, Value.int IntKind.u8 0, Value.int IntKind.u8 0, Value.int IntKind.u8 0, Value.nilFunc, Value.pointer none, Value.int IntKind.i32 0, Value.int IntKind.i32 0]) := rfl
theorem Qz6 : zr 312 = some (Value.agg #[Value.int IntKind.u64 0, Value.int IntKind.u64 0, Value.int IntKind.u32 0, Value.int IntKind.u8 0, Value.int IntKind.u8 0, Value.int IntKind.u8 0, Value.int IntKind.u8 0, Value.nilFunc, Value.pointer none, Value.int IntKind.i32 0, Value.int IntKind.i32 0]) := rfl
theorem Qz5 : zr 313 = some (Value.nilFunc) := rfl
theorem Qz4 : zr 317 = some (Value.agg #[Value.string { data := #[] }, Value.slice none 0 0]) := rfl
def Gw (w : World) : Prop := GV 6 (gl6.map (Value.int .u64)) w ∧ GE 0 w ∧ GE 4 w ∧ GE 5 w
theorem GV.keep {g : Nat} {cs : List Value} {w w' : World} (h : GV g cs w) (hk : Keep (Old w) w w') : GV g cs w' := by
  have hl := h.lt
  obtain ⟨T, fr, h⟩ := h
  exact ⟨T, fr, (hk.block g hl).trans h⟩
theorem Ypa : ∀ w w', Gw w → Keep (Old w) w w' → Gw w' := fun _ _ h hk => ⟨h.1.keep hk, h.2.1.keep hk, h.2.2.1.keep hk, h.2.2.2.keep hk⟩
def gls : List Nat := [6, 0, 4, 5]
theorem Gin (w : World) (h : Gw w) : ∀ g ∈ gls, Old w g := fun g hg => by
  simp only [gls, List.mem_cons, List.not_mem_nil, or_false] at hg
  rcases hg with rfl | rfl | rfl | rfl
  · exact h.1.lt
  · exact h.2.1.lt
  · exact h.2.2.1.lt
  · exact h.2.2.2.lt
theorem Gl6 : ∀ w, Gw w → GV 6 (gl6.map (Value.int .u64)) w := fun _ h => h.1
theorem Gl0 : ∀ w, Gw w → GE 0 w := fun _ h => h.2.1
theorem Gl4 : ∀ w, Gw w → GE 4 w := fun _ h => h.2.2.1
theorem Gl5 : ∀ w, Gw w → GE 5 w := fun _ h => h.2.2.2
theorem Yle : SysOk Tryz.prog ti zr Gw := ⟨tiok, zok, Ypa⟩
theorem mixed : Tryz.prog.follows .mixedOrders = true := by kernel_rfl
structure Bs where
  S0 : Nat → Prop
  w : World
  gok : ∀ w', Keep S0 w w' → Gw w'
  base : ∀ b, S0 b → b < w.heap.size
  gin : ∀ g ∈ gls, S0 g
  Q : (World → Value → Prop) → World → Value → Prop
@[reducible] def Bs.old (w : World) (hG : Gw w) : Bs := ⟨Old w, w, fun w' hk => Ypa w w' hG hk, fun _ h => h, Gin w hG, fun R => R⟩
@[reducible] def Bs.mut (S : Nat → Prop) (w : World) (hG : ∀ w', Keep S w w' → Gw w') (hb : ∀ b, S b → b < w.heap.size) (hg : ∀ g ∈ gls, S g) (p : Nat → Loc) (mk : Nat) (E1 : List (Nat × En)) (nn : Nat) (r : List V) (G0 : Prop) : Bs := ⟨S, w, hG, hb, hg, fun _ => MQ S w p mk E1 nn r G0⟩
@[reducible] noncomputable def cx (fn : Func) (Bz : Bs) (S1 : Nat → Prop) (w1 : World) (hk1 : Keep Bz.S0 Bz.w w1) (hs1 : ∀ b, Bz.S0 b → S1 b) (hd1 : ∀ b, S1 b → b < w1.heap.size) : Cx := ⟨Tryz.prog, fn, ti, zr, Gw, S1, w1, tiok, zok, fun w' hk => Bz.gok w' (hk1.trans (hk.mono hs1)), hd1, Bz.Q⟩
abbrev CTEs (f : FuncId) (args : List Arg) (res : Value → List Re) (ok : Bool) : Prop := CTE Tryz.prog Gw f args res ok
abbrev CTMs (f : FuncId) (mk m0 : Nat) (E0 F0 : List (Nat × En)) (args : List V) (E1 : List (Nat × En)) (nn : Nat) (r : List V) (G0 : Prop) : Prop := CTM Tryz.prog Gw gls f mk m0 E0 F0 args E1 nn r G0
abbrev CTs (f : FuncId) (args : List Arg) (res : List Re) : Prop := CT Tryz.prog Gw f args res
theorem om {p : Prop} (h : p := by first | omega | (simp only [Bool.not_eq_eq_eq_not, Bool.not_true, Bool.not_false, decide_eq_true_eq, decide_eq_false_iff_not, Bool.not_eq_true', Bool.not_eq_false', Bool.or_eq_false_iff, Bool.or_eq_true, Bool.and_eq_true, Decidable.not_not] at *; omega) | ((repeat rw [IntWalk.i64_in _ (by omega)]); omega)) : p := h
section
variable {fn : Func} {Bz : Bs} {S1 : Nat → Prop} {w1 : World} {hk1 : Keep Bz.S0 Bz.w w1} {hs1 : ∀ b, Bz.S0 b → S1 b} {hd1 : ∀ b, S1 b → b < w1.heap.size} {res : List Re} {σ σ' : St} {k k' : List It}
theorem ad (n : Nat) (h : Run (cx fn Bz S1 w1 hk1 hs1 hd1) res σ' k') (hs : advN ti zr n (some (σ, k)) = some (σ', k') := by dsimp only [ncV, szA, cvV, rnR, rnE, V.rn, rnL, En.rn, Qfn, memN, Qcq, an, stK, cdK, opK, gdK, nvK, Qow, Qnp, blK, bsK, stW, stV, ptK, litD, litC, pkV, wrV, binV, unV, ldV, faW, faV, agO, blV, exV, mfV, lenV, caV, Q6b, Qyz, stO', sdV, Qa4, grdO, gBV, gPw, gPk, gGo, gK, gK1, gK2, tkK, tk1, rvsV, rvV, Nat.reduceAdd, Nat.reduceSub, Nat.reduceMul, advN, adv1, stO, litV, Qv9, Qmp, pv, ev, evs, lk, lkE, setE, putE, put, cond, ldC, ldE, nthN, tuAt, bin, bi, bs, bb, ikq, TI.cells, V.cells, V.one, oneL, Qnt, grd, nthO, beqB, gB, wnt, gOp, adG, adG1, Qys, Qff, evG, V.side, V.strip, Qb7, Qcs, Qdq, Qce, Qh5, Qe3, Qf4, Qhq, Ql5, Qir, Qkk, ini, Qj5, opn, nsl, adD, Qk4, Str.fk, ti_1, ti_2, ti_3, ti_4, ti_5, ti_6, ti_7, ti_8, ti_9, Q90, Q9z, Q9y, Q9x, Q9w, Q9v, Q9u, Q9t, Q9s, Q9r, Q9q, Q9p, Q9o, Q9n, Q9m, Q9l, Q9k, Q9j, Q9i, Q9h, Q9g, Q9f, Q9e, Q9d, Q9c, Q9b, Q9a, Q89, Q88, Q87, Q86, Q85, Q84, Q83, Q82, Q81, Q80, Q8z, Q8y, Q8x, Q8w, Q8v, Q8u, Q8t, Q8s, Q8r, Q8q, Q8p, Q8o, Q8n, Q8m, Q8l, Q8k, Q8j, Q8i, Q8h, Q8g, Q8f, Q8e, Q8d, Q8c, Q8b, Q8a, Q79, Q78, Q77, Q76, Q75, Q74, Q73, Q72, Q71, Q70, Q7z, Q7y, Q7x, Q7w, Q7v, Q7u, Q7t, Q7s, Q7r, Q7q, Q7p, Q7o, Q7n, Q7m, Q7l, Qvn, Qvm, Qvl, Qvk, Qvj, Qvi, Qvh, Qvg, Qvf, Qve, Qvd, Qvc, Qvb, Qva, Qu9, Qu8, Qu7, Qu6, Qu5, Qu4, Qu3, Qu2, Qu1, Qu0, Quz, Quy, Qux, Quw, Quv, Quu, Qut, Qus, Qur, Quq, Qup, Quo, Qun, Qum, Qul, Quk, Quj, Qui, Quh, Qug, Quf, Que, Qud, Quc, Qub, Qua, Qt9, Qt8, Qt7, Qt6, Qt5, Qt4, Qt3, Qt2, Qt1, Qt0, Qtz, Qty, Qtx, Qtw, Qtv, Qtu, Qtt, Qts, Qtr, Qtq, Qtp, Qto, Qtn, Qtm, Qtl, Qtk, Qtj, Qti, Qth, Qtg, Qtf, Qte, Qtd, Qtc, Qtb, Qta, Qs9, Qs8, Qs7, Qs6, Qs5, Qs4, Qs3, Qs2, Qs1, Qs0, Qsz, Qsy, Qsx, Qsw, Qsv, Qsu, Qst, Qss, Qsr, Qsq, Qsp, Qso, Qsn, Qsm, Qsl, Qsk, Qsj, Qsi, Qsh, Qsg, Qsf, Qse, Qsd, Qsc, Qsb, Qsa, Qr9, Qr8, Qr7, Qr6, Qr5, Qr4, Qr3, Qr2, Qr1, Qr0, Qrz, Qry, Qrx, Qrw, Qrv, Qru, Qrt, Qrs, Qrr, Qrq, Qrp, Qro, Qrn, Qrm, Qrl, Qrk, Qrj, Qri, Qrh, Qrg, Qrf, Qre, Qrd, Qrc, Qrb, Qra, Qq9, Qq8, Qq7, Qq6, Qq5, Qq4, Qq3, Qq2, Qq1, Qq0, Qqz, Qqy, Qqx, Qqw, Qqv, Qqu, Qqt, Qqs, Qqr, Qqq, Qqp, Qqo, Qqn, Qqm, Qql, Qqk, Qqj, Qqi, Qqh, Qqg, Qqf, Qqe, Qqd, Qqc, zr_1, zr_2, zr_3, zr_4, zr_5, zr_6, zr_7, zr_8, zr_9, Yfp, Yfo, Yfn, Yfm, Yfl, Yfk, Yfj, Yfi, Yfh, Yfg, Yff, Yfe, Yfd, Yfc, Yfb, Yfa, Ye9, Ye8, Ye7, Ye6, Ye5, Ye4, Ye3, Ye2, Ye1, Ye0, Yez, Yey, Yex, Yew, Yev, Yeu, Yet, Yes, Yer, Yeq, Yep, Yeo, Yen, Yem, Yel, Yek, Yej, Yei, Yeh, Yeg, Yef, Yee, Yed, Yec, Yeb, Yea, Yd9, Yd8, Yd7, Yd6, Yd5, Yd4, Yd3, Yd2, Yd1, Yd0, Ydz, Ydy, Ydx, Ydw, Ydv, Ydu, Ydt, Yds, Ydr, Ydq, Ydp, Ydo, Ydn, Ydm, Ydl, Ydk, Ydj, Ydi, Ydh, Ydg, Ydf, Yde, Ydd, Ydc, Ydb, Yda, Q5b, Q5a, Q49, Q48, Q47, Q46, Q45, Q44, Q43, Q42, Q41, Q40, Q4z, Q4y, Q4x, Q4w, Q4v, Q4u, Q4t, Q4s, Q4r, Q4q, Q4p, Q4o, Q4n, Q4m, Q4l, Q4k, Q4j, Q4i, Q4h, Q4g, Q4f, Q4e, Q4d, Q4c, Q4b, Q4a, Q39, Q38, Q37, Q36, Q35, Q34, Q33, Q32, Q31, Q30, Q3z, Q3y, Q3x, Q3w, Q3v, Q3u, Q3t, Q3s, Q3r, Q3q, Q3p, Q3o, Q3n, Q3m, Q3l, Q3k, Q3j, Q3i, Q3h, Q3g, Q3f, Q3e, Q3d, Q3c, Q3b, Q3a, Q29, Q28, Q27, Q26, Q25, Q24, Q23, Q22, Q21, Q20, Q2z, Q2y, Q2x, Q2w, Q2v, Q2u, Q2t, Q2s, Q2r, Q2q, Q2p, Q2o, Q2n, Q2m, Q2l, Q2k, Q2j, Q2i, Q2h, Q2g, Q2f, Q2e, Q2d, Q2c, Q2b, Q2a, Q19, Q18, Q17, Q16, Q15, Q14, Q13, Q12, Q11, Q10, Q1z, Q1y, Q1x, Q1w, Q1v, Q1u, Q1t, Q1s, Q1r, Q1q, Q1p, Q1o, Q1n, Q1m, Q1l, Q1k, Q1j, Q1i, Q1h, Q1g, Q1f, Q1e, Q1d, Q1c, Q1b, Q1a, Q09, Q08, Q07, Q06, Q05, Q04, Q03, Q02, Q01, Q00, Q0z, Q0y, Q0x, Q0w, Q0v, Q0u, Q0t, Q0s, Q0r, Q0q, Q0p, Q0o, Q0n, Q0m, Q0l, Q0k, Q0j, Q0i, Q0h, Q0g, Q0f, Q0e, Q0d, Q0c, Q0b, Q0a, Qz9, Qz8, Qz7, Qz6, Qz5, Qz4, Nat.blt, Nat.succ_eq_add_one, Nat.ble, Nat.beq, Nat.pred, Nat.add_zero, Nat.zero_add, Nat.add_eq, List.toList_toArray, List.length, List.length_cons, List.length_nil, List.take, List.drop, List.append_nil, List.nil_append, List.cons_append, List.map, List.take_succ_cons, List.take_zero, List.take_nil, List.drop_succ_cons, List.drop_zero, List.drop_nil, List.size_toArray, List.getD, id, Op.operands, Call.operands, Value.cells, Array.size_empty]) : Run (cx fn Bz S1 w1 hk1 hs1 hd1) res σ k := Run.advN n hs h
theorem ag (n : Nat) {l l' : List Oper} {all : Array Oper} {q : Prop} (h : Run (cx fn Bz S1 w1 hk1 hs1 hd1) res σ' (.ops l' all :: k)) (hs : adG ti zr all n (some (σ, l, True)) = some (σ', l', q) := by dsimp only [ncV, szA, cvV, rnR, rnE, V.rn, rnL, En.rn, Qfn, memN, Qcq, an, stK, cdK, opK, gdK, nvK, Qow, Qnp, blK, bsK, stW, stV, ptK, litD, litC, pkV, wrV, binV, unV, ldV, faW, faV, agO, blV, exV, mfV, lenV, caV, Q6b, Qyz, stO', sdV, Qa4, grdO, gBV, gPw, gPk, gGo, gK, gK1, gK2, tkK, tk1, rvsV, rvV, Nat.reduceAdd, Nat.reduceSub, Nat.reduceMul, advN, adv1, stO, litV, Qv9, Qmp, pv, ev, evs, lk, lkE, setE, putE, put, cond, ldC, ldE, nthN, tuAt, bin, bi, bs, bb, ikq, TI.cells, V.cells, V.one, oneL, Qnt, grd, nthO, beqB, gB, wnt, gOp, adG, adG1, Qys, Qff, evG, V.side, V.strip, Qb7, Qcs, Qdq, Qce, Qh5, Qe3, Qf4, Qhq, Ql5, Qir, Qkk, ini, Qj5, opn, nsl, adD, Qk4, Str.fk, ti_1, ti_2, ti_3, ti_4, ti_5, ti_6, ti_7, ti_8, ti_9, Q90, Q9z, Q9y, Q9x, Q9w, Q9v, Q9u, Q9t, Q9s, Q9r, Q9q, Q9p, Q9o, Q9n, Q9m, Q9l, Q9k, Q9j, Q9i, Q9h, Q9g, Q9f, Q9e, Q9d, Q9c, Q9b, Q9a, Q89, Q88, Q87, Q86, Q85, Q84, Q83, Q82, Q81, Q80, Q8z, Q8y, Q8x, Q8w, Q8v, Q8u, Q8t, Q8s, Q8r, Q8q, Q8p, Q8o, Q8n, Q8m, Q8l, Q8k, Q8j, Q8i, Q8h, Q8g, Q8f, Q8e, Q8d, Q8c, Q8b, Q8a, Q79, Q78, Q77, Q76, Q75, Q74, Q73, Q72, Q71, Q70, Q7z, Q7y, Q7x, Q7w, Q7v, Q7u, Q7t, Q7s, Q7r, Q7q, Q7p, Q7o, Q7n, Q7m, Q7l, Qvn, Qvm, Qvl, Qvk, Qvj, Qvi, Qvh, Qvg, Qvf, Qve, Qvd, Qvc, Qvb, Qva, Qu9, Qu8, Qu7, Qu6, Qu5, Qu4, Qu3, Qu2, Qu1, Qu0, Quz, Quy, Qux, Quw, Quv, Quu, Qut, Qus, Qur, Quq, Qup, Quo, Qun, Qum, Qul, Quk, Quj, Qui, Quh, Qug, Quf, Que, Qud, Quc, Qub, Qua, Qt9, Qt8, Qt7, Qt6, Qt5, Qt4, Qt3, Qt2, Qt1, Qt0, Qtz, Qty, Qtx, Qtw, Qtv, Qtu, Qtt, Qts, Qtr, Qtq, Qtp, Qto, Qtn, Qtm, Qtl, Qtk, Qtj, Qti, Qth, Qtg, Qtf, Qte, Qtd, Qtc, Qtb, Qta, Qs9, Qs8, Qs7, Qs6, Qs5, Qs4, Qs3, Qs2, Qs1, Qs0, Qsz, Qsy, Qsx, Qsw, Qsv, Qsu, Qst, Qss, Qsr, Qsq, Qsp, Qso, Qsn, Qsm, Qsl, Qsk, Qsj, Qsi, Qsh, Qsg, Qsf, Qse, Qsd, Qsc, Qsb, Qsa, Qr9, Qr8, Qr7, Qr6, Qr5, Qr4, Qr3, Qr2, Qr1, Qr0, Qrz, Qry, Qrx, Qrw, Qrv, Qru, Qrt, Qrs, Qrr, Qrq, Qrp, Qro, Qrn, Qrm, Qrl, Qrk, Qrj, Qri, Qrh, Qrg, Qrf, Qre, Qrd, Qrc, Qrb, Qra, Qq9, Qq8, Qq7, Qq6, Qq5, Qq4, Qq3, Qq2, Qq1, Qq0, Qqz, Qqy, Qqx, Qqw, Qqv, Qqu, Qqt, Qqs, Qqr, Qqq, Qqp, Qqo, Qqn, Qqm, Qql, Qqk, Qqj, Qqi, Qqh, Qqg, Qqf, Qqe, Qqd, Qqc, zr_1, zr_2, zr_3, zr_4, zr_5, zr_6, zr_7, zr_8, zr_9, Yfp, Yfo, Yfn, Yfm, Yfl, Yfk, Yfj, Yfi, Yfh, Yfg, Yff, Yfe, Yfd, Yfc, Yfb, Yfa, Ye9, Ye8, Ye7, Ye6, Ye5, Ye4, Ye3, Ye2, Ye1, Ye0, Yez, Yey, Yex, Yew, Yev, Yeu, Yet, Yes, Yer, Yeq, Yep, Yeo, Yen, Yem, Yel, Yek, Yej, Yei, Yeh, Yeg, Yef, Yee, Yed, Yec, Yeb, Yea, Yd9, Yd8, Yd7, Yd6, Yd5, Yd4, Yd3, Yd2, Yd1, Yd0, Ydz, Ydy, Ydx, Ydw, Ydv, Ydu, Ydt, Yds, Ydr, Ydq, Ydp, Ydo, Ydn, Ydm, Ydl, Ydk, Ydj, Ydi, Ydh, Ydg, Ydf, Yde, Ydd, Ydc, Ydb, Yda, Q5b, Q5a, Q49, Q48, Q47, Q46, Q45, Q44, Q43, Q42, Q41, Q40, Q4z, Q4y, Q4x, Q4w, Q4v, Q4u, Q4t, Q4s, Q4r, Q4q, Q4p, Q4o, Q4n, Q4m, Q4l, Q4k, Q4j, Q4i, Q4h, Q4g, Q4f, Q4e, Q4d, Q4c, Q4b, Q4a, Q39, Q38, Q37, Q36, Q35, Q34, Q33, Q32, Q31, Q30, Q3z, Q3y, Q3x, Q3w, Q3v, Q3u, Q3t, Q3s, Q3r, Q3q, Q3p, Q3o, Q3n, Q3m, Q3l, Q3k, Q3j, Q3i, Q3h, Q3g, Q3f, Q3e, Q3d, Q3c, Q3b, Q3a, Q29, Q28, Q27, Q26, Q25, Q24, Q23, Q22, Q21, Q20, Q2z, Q2y, Q2x, Q2w, Q2v, Q2u, Q2t, Q2s, Q2r, Q2q, Q2p, Q2o, Q2n, Q2m, Q2l, Q2k, Q2j, Q2i, Q2h, Q2g, Q2f, Q2e, Q2d, Q2c, Q2b, Q2a, Q19, Q18, Q17, Q16, Q15, Q14, Q13, Q12, Q11, Q10, Q1z, Q1y, Q1x, Q1w, Q1v, Q1u, Q1t, Q1s, Q1r, Q1q, Q1p, Q1o, Q1n, Q1m, Q1l, Q1k, Q1j, Q1i, Q1h, Q1g, Q1f, Q1e, Q1d, Q1c, Q1b, Q1a, Q09, Q08, Q07, Q06, Q05, Q04, Q03, Q02, Q01, Q00, Q0z, Q0y, Q0x, Q0w, Q0v, Q0u, Q0t, Q0s, Q0r, Q0q, Q0p, Q0o, Q0n, Q0m, Q0l, Q0k, Q0j, Q0i, Q0h, Q0g, Q0f, Q0e, Q0d, Q0c, Q0b, Q0a, Qz9, Qz8, Qz7, Qz6, Qz5, Qz4, Nat.blt, Nat.succ_eq_add_one, Nat.ble, Nat.beq, Nat.pred, Nat.add_zero, Nat.zero_add, Nat.add_eq, List.toList_toArray, List.length, List.length_cons, List.length_nil, List.take, List.drop, List.append_nil, List.nil_append, List.cons_append, List.map, List.take_succ_cons, List.take_zero, List.take_nil, List.drop_succ_cons, List.drop_zero, List.drop_nil, List.size_toArray, List.getD, id, Op.operands, Call.operands, Value.cells, Array.size_empty]) (hq : q := by (repeat' apply And.intro) <;> first | exact trivial | exact fun h => h | exact fun h => (Bool.and_eq_true_iff.1 h).1 | exact fun h => (Bool.and_eq_true_iff.1 h).2 | exact fun h => (Bool.and_eq_true_iff.1 (Bool.and_eq_true_iff.1 h).1).1 | (intro h; simp_all)) : Run (cx fn Bz S1 w1 hk1 hs1 hd1) res σ (.ops l all :: k) := Run.adG n hs hq h
theorem cd {x : Operand} {y z : Code} {b : Bool} (ht : b = true → Run (cx fn Bz S1 w1 hk1 hs1 hd1) res σ (.code y :: k)) (hf : b = false → Run (cx fn Bz S1 w1 hk1 hs1 hd1) res σ (.code z :: k)) (hx : ev σ.ρ x = some (.v (.bool b)) := by dsimp only [ev, evs, evsG, Qa4, lk, lkE, cond, Nat.beq, evG, stO', V.strip, grd, grdO, nthO, gB, gBV, Nat.pred, wnt, List.toList_toArray, List.cons_append, List.nil_append, List.append_nil]) : Run (cx fn Bz S1 w1 hk1 hs1 hd1) res σ (.code (.cond x y z) :: k) := Run.cond hx ht hf
theorem op {o : Oper} {r : List Oper} {all : Array Oper} {σ1 : St} (ho : OpS (cx fn Bz S1 w1 hk1 hs1 hd1) σ all o σ1) (h : Run (cx fn Bz S1 w1 hk1 hs1 hd1) res σ' (.ops r all :: k)) (hs : σ1 = σ' := by dsimp only [Qb7, Qif, Qdp, setV, fwE, En.fw, V.fw, fwL, nthG, pickE, Qmn, nthE, Nat.pred, Qcs, Qee, Qed, Qcq, rnR, rnE, V.rn, rnL, En.rn, Qfn, memN, V.names.namesL, V.names, Qdq, Qce, put, putE, setE, Qh5, Qe3, Qf4, opn, nsl, id, cond, Nat.beq, Nat.reduceAdd, Nat.add_zero, Nat.zero_add, List.cons_append, List.nil_append, List.append_nil, List.append, List.length_cons, List.length_nil, Str.fk]) : Run (cx fn Bz S1 w1 hk1 hs1 hd1) res σ (.ops (o :: r) all :: k) := Run.op ho (by rw [hs]; exact h)
theorem og {o : Oper} {r : List Oper} {all : Array Oper} {σ1 : St} {G H : Prop} (ho : OpSg (cx fn Bz S1 w1 hk1 hs1 hd1) σ all o σ1 G) (h : H → Run (cx fn Bz S1 w1 hk1 hs1 hd1) res σ' (.ops r all :: k)) (hs : σ1 = σ' := by dsimp only [Qb7, Qif, Qdp, setV, fwE, En.fw, V.fw, fwL, nthG, pickE, Qmn, nthE, Nat.pred, Qcs, Qee, Qed, Qcq, rnR, rnE, V.rn, rnL, En.rn, Qfn, memN, V.names.namesL, V.names, Qdq, Qce, put, putE, setE, Qh5, Qe3, Qf4, opn, nsl, id, cond, Nat.beq, Nat.reduceAdd, Nat.add_zero, Nat.zero_add, List.cons_append, List.nil_append, List.append_nil, List.append, List.length_cons, List.length_nil, Str.fk]) (hh : G = H := by first | dsimp only [Qzs] | rfl) : Run (cx fn Bz S1 w1 hk1 hs1 hd1) res σ (.ops (o :: r) all :: k) := Run.opg ho (by rw [hs, hh]; exact h)
theorem fz (r : Nat) {α : Type} {d : Dat α} {xs : List α} {E' : List (Nat × En)} (h : Run (cx fn Bz S1 w1 hk1 hs1 hd1) res ⟨σ.n, σ.m, σ.ρ, E'⟩ k) (he : lkE σ.E r = some (.own α d xs) := by dsimp only [ev, evs, evsG, Qa4, lk, lkE, cond, Nat.beq, evG, stO', V.strip, grd, grdO, nthO, gB, gBV, Nat.pred, wnt, List.toList_toArray, List.cons_append, List.nil_append, List.append_nil]) (hs : putE r (r, .ros α d xs) σ.E = E' := by dsimp only [Qb7, Qif, Qdp, setV, fwE, En.fw, V.fw, fwL, nthG, pickE, Qmn, nthE, Nat.pred, Qcs, Qee, Qed, Qcq, rnR, rnE, V.rn, rnL, En.rn, Qfn, memN, V.names.namesL, V.names, Qdq, Qce, put, putE, setE, Qh5, Qe3, Qf4, opn, nsl, id, cond, Nat.beq, Nat.reduceAdd, Nat.add_zero, Nat.zero_add, List.cons_append, List.nil_append, List.append_nil, List.append, List.length_cons, List.length_nil, Str.fk]) : Run (cx fn Bz S1 w1 hk1 hs1 hd1) res σ k := Run.freeze r he (by rw [hs]; exact h)
theorem nC (r j : Nat) (α : Type) (d : Dat α) {cs : List V} {T : TypeId} {σ' : St} (h : Run (cx fn Bz S1 w1 hk1 hs1 hd1) res σ' k) (hl : lkE σ.E r = some (.var cs T) := by dsimp only [ev, evs, evsG, Qa4, lk, lkE, cond, Nat.beq, evG, stO', V.strip, grd, grdO, nthO, gB, gBV, Nat.pred, wnt, List.toList_toArray, List.cons_append, List.nil_append, List.append_nil]) (hj : nthV cs j = some (.v (.slice none 0 0)) := by rfl) (hs : (⟨σ.n, σ.m + 1, σ.ρ, (σ.m, .own α d []) :: putE r (r, .var (setV (.sl σ.m 0) cs j) T) σ.E⟩ : St) = σ' := by dsimp only [Qb7, Qif, Qdp, setV, fwE, En.fw, V.fw, fwL, nthG, pickE, Qmn, nthE, Nat.pred, Qcs, Qee, Qed, Qcq, rnR, rnE, V.rn, rnL, En.rn, Qfn, memN, V.names.namesL, V.names, Qdq, Qce, put, putE, setE, Qh5, Qe3, Qf4, opn, nsl, id, cond, Nat.beq, Nat.reduceAdd, Nat.add_zero, Nat.zero_add, List.cons_append, List.nil_append, List.append_nil, List.append, List.length_cons, List.length_nil, Str.fk]) : Run (cx fn Bz S1 w1 hk1 hs1 hd1) res σ k := Run.nilC r j hl hj (by rw [hs]; exact h)
theorem gd (r : Nat) {α : Type} {d : Dat α} {xs : List α} (h : (@instDatList α d).good xs → Run (cx fn Bz S1 w1 hk1 hs1 hd1) res σ k) (hp : payE σ.E r = some ⟨α, d, xs⟩ := by rfl) : Run (cx fn Bz S1 w1 hk1 hs1 hd1) res σ k := Run.gd r hp h
theorem li (r : Nat) {α : Type} {d : Dat α} [s : @Str α d] (ys : List α) {cs : List V} {T n : Nat} {E' : List (Nat × En)} (h : Run (cx fn Bz S1 w1 hk1 hs1 hd1) res ⟨σ.n, σ.m, σ.ρ, E'⟩ k) (he : lkE σ.E r = some (.lit cs T n) := by dsimp only [ev, evs, evsG, Qa4, lk, lkE, cond, Nat.beq, evG, stO', V.strip, grd, grdO, nthO, gB, gBV, Nat.pred, wnt, List.toList_toArray, List.cons_append, List.nil_append, List.append_nil]) (ho : ElOk σ.E (Dat.sz α) d s.fk ys cs := by dsimp only [ElOk, Qyh, Qlr, En.payO, lkE, cond, Nat.beq, FkO, agC, List.map, Str.fk, id, List.take, List.drop, List.take_succ_cons, List.drop_succ_cons, List.take_zero, List.drop_zero]; repeat' (first | assumption | exact gi _ | exact gs _ | rfl | exact trivial | apply And.intro | omega)) (hl : ys.length = n := by rfl) (hm : Nat.ble n 1000 = true := by rfl) (hn : V.names.namesL cs = [] := by rfl) (hs : putE r (r, .own α d ys) σ.E = E' := by dsimp only [Qb7, Qif, Qdp, setV, fwE, En.fw, V.fw, fwL, nthG, pickE, Qmn, nthE, Nat.pred, Qcs, Qee, Qed, Qcq, rnR, rnE, V.rn, rnL, En.rn, Qfn, memN, V.names.namesL, V.names, Qdq, Qce, put, putE, setE, Qh5, Qe3, Qf4, opn, nsl, id, cond, Nat.beq, Nat.reduceAdd, Nat.add_zero, Nat.zero_add, List.cons_append, List.nil_append, List.append_nil, List.append, List.length_cons, List.length_nil, Str.fk]) : Run (cx fn Bz S1 w1 hk1 hs1 hd1) res σ k := Run.lit r ys he hl hm hn ho (by rw [hs]; exact h)
theorem dr {id : Nat} {ops : Array Oper} (n : Nat) {σ' : St} (h : ∀ S2 w2 hk2 hs2 hd2, (∀ θ σ a w', R (cx fn Bz S2 w2 hk2 hs2 hd2) θ σ a w' → R (cx fn Bz S1 w1 hk1 hs1 hd1) θ σ a w') → RunD (cx fn Bz S2 w2 hk2 hs2 hd2) (kQ (cx fn Bz S1 w1 hk1 hs1 hd1) res k .normal) σ'.E σ'.m ops n [] (Array.replicate n false) σ') (hs : σ = σ' := by dsimp only) (hn : ops.size = n := by rfl) : Run (cx fn Bz S1 w1 hk1 hs1 hd1) res σ (.code (.region id ops true) :: k) := by
  subst hs
  exact Run.draw n mixed hn fun S w2 hk hs hd => h S w2 (hk1.trans ((show Keep S1 w1 w2 from hk).mono hs1)) (fun b hb => hs b (hs1 b hb)) hd (fun _ _ _ _ h => R.unbase (hk := hk) (hs := hs) (hd := hd) h)
theorem ds {id : Nat} {ops : Array Oper} (n : Nat) (is0 : List Nat) {E0 : List (Nat × En)} {σ' : St} (h : ∀ S2 w2 hk2 hs2 hd2, (∀ θ σ a w', R (cx fn Bz S2 w2 hk2 hs2 hd2) θ σ a w' → R (cx fn Bz S1 w1 hk1 hs1 hd1) θ σ a w') → RunD (cx fn Bz S2 w2 hk2 hs2 hd2) (kQ (cx fn Bz S1 w1 hk1 hs1 hd1) res k .normal) E0 σ'.m ops n [] (Array.replicate n false) σ') (hs : σ = σ' := by dsimp only) (hE : pk is0 σ.E = E0 := by dsimp only [pk, pkc, nthE, cond, Nat.beq, Nat.pred]) (hp : is0.map (nthE σ.E) = E0.map some := by rfl) (hd0 : is0.Nodup := by decide) (hn : ops.size = n := by rfl) : Run (cx fn Bz S1 w1 hk1 hs1 hd1) res σ (.code (.region id ops true) :: k) := by
  subst hs
  exact Run.drawS n is0 E0 hp hd0 mixed hn fun S w2 hk hs hd => h S w2 (hk1.trans ((show Keep S1 w1 w2 from hk).mono hs1)) (fun b hb => hs b (hs1 b hb)) hd (fun _ _ _ _ h => R.unbase (hk := hk) (hs := hs) (hd := hd) h)
end
section
variable {fn : Func} {Bz : Bs} {S1 : Nat → Prop} {w1 : World} {hk1 : Keep Bz.S0 Bz.w w1} {hs1 : ∀ b, Bz.S0 b → S1 b} {hd1 : ∀ b, S1 b → b < w1.heap.size} {K : Act → World → Prop} {E0 M : List (Nat × En)} {m0 : Nat} {ops : Array Oper} {σ σ' σ1 : St} {listed : Array Bool}
theorem tk (is : List Nat) {n n' : Nat} {q : Prop} (h : RunD (cx fn Bz S1 w1 hk1 hs1 hd1) K E0 m0 ops n M (Qk4 listed is) σ') (hn : n' = n + is.length := by rfl) (hb : okD ops listed is = true := by kernel_rfl) (hs : adD ti zr ops (M ++ E0) is (some (σ, True)) = some (σ', q) := by dsimp only [ncV, szA, cvV, rnR, rnE, V.rn, rnL, En.rn, Qfn, memN, Qcq, an, stK, cdK, opK, gdK, nvK, Qow, Qnp, blK, bsK, stW, stV, ptK, litD, litC, pkV, wrV, binV, unV, ldV, faW, faV, agO, blV, exV, mfV, lenV, caV, Q6b, Qyz, stO', sdV, Qa4, grdO, gBV, gPw, gPk, gGo, gK, gK1, gK2, tkK, tk1, rvsV, rvV, Nat.reduceAdd, Nat.reduceSub, Nat.reduceMul, advN, adv1, stO, litV, Qv9, Qmp, pv, ev, evs, lk, lkE, setE, putE, put, cond, ldC, ldE, nthN, tuAt, bin, bi, bs, bb, ikq, TI.cells, V.cells, V.one, oneL, Qnt, grd, nthO, beqB, gB, wnt, gOp, adG, adG1, Qys, Qff, evG, V.side, V.strip, Qb7, Qcs, Qdq, Qce, Qh5, Qe3, Qf4, Qhq, Ql5, Qir, Qkk, ini, Qj5, opn, nsl, adD, Qk4, Str.fk, ti_1, ti_2, ti_3, ti_4, ti_5, ti_6, ti_7, ti_8, ti_9, Q90, Q9z, Q9y, Q9x, Q9w, Q9v, Q9u, Q9t, Q9s, Q9r, Q9q, Q9p, Q9o, Q9n, Q9m, Q9l, Q9k, Q9j, Q9i, Q9h, Q9g, Q9f, Q9e, Q9d, Q9c, Q9b, Q9a, Q89, Q88, Q87, Q86, Q85, Q84, Q83, Q82, Q81, Q80, Q8z, Q8y, Q8x, Q8w, Q8v, Q8u, Q8t, Q8s, Q8r, Q8q, Q8p, Q8o, Q8n, Q8m, Q8l, Q8k, Q8j, Q8i, Q8h, Q8g, Q8f, Q8e, Q8d, Q8c, Q8b, Q8a, Q79, Q78, Q77, Q76, Q75, Q74, Q73, Q72, Q71, Q70, Q7z, Q7y, Q7x, Q7w, Q7v, Q7u, Q7t, Q7s, Q7r, Q7q, Q7p, Q7o, Q7n, Q7m, Q7l, Qvn, Qvm, Qvl, Qvk, Qvj, Qvi, Qvh, Qvg, Qvf, Qve, Qvd, Qvc, Qvb, Qva, Qu9, Qu8, Qu7, Qu6, Qu5, Qu4, Qu3, Qu2, Qu1, Qu0, Quz, Quy, Qux, Quw, Quv, Quu, Qut, Qus, Qur, Quq, Qup, Quo, Qun, Qum, Qul, Quk, Quj, Qui, Quh, Qug, Quf, Que, Qud, Quc, Qub, Qua, Qt9, Qt8, Qt7, Qt6, Qt5, Qt4, Qt3, Qt2, Qt1, Qt0, Qtz, Qty, Qtx, Qtw, Qtv, Qtu, Qtt, Qts, Qtr, Qtq, Qtp, Qto, Qtn, Qtm, Qtl, Qtk, Qtj, Qti, Qth, Qtg, Qtf, Qte, Qtd, Qtc, Qtb, Qta, Qs9, Qs8, Qs7, Qs6, Qs5, Qs4, Qs3, Qs2, Qs1, Qs0, Qsz, Qsy, Qsx, Qsw, Qsv, Qsu, Qst, Qss, Qsr, Qsq, Qsp, Qso, Qsn, Qsm, Qsl, Qsk, Qsj, Qsi, Qsh, Qsg, Qsf, Qse, Qsd, Qsc, Qsb, Qsa, Qr9, Qr8, Qr7, Qr6, Qr5, Qr4, Qr3, Qr2, Qr1, Qr0, Qrz, Qry, Qrx, Qrw, Qrv, Qru, Qrt, Qrs, Qrr, Qrq, Qrp, Qro, Qrn, Qrm, Qrl, Qrk, Qrj, Qri, Qrh, Qrg, Qrf, Qre, Qrd, Qrc, Qrb, Qra, Qq9, Qq8, Qq7, Qq6, Qq5, Qq4, Qq3, Qq2, Qq1, Qq0, Qqz, Qqy, Qqx, Qqw, Qqv, Qqu, Qqt, Qqs, Qqr, Qqq, Qqp, Qqo, Qqn, Qqm, Qql, Qqk, Qqj, Qqi, Qqh, Qqg, Qqf, Qqe, Qqd, Qqc, zr_1, zr_2, zr_3, zr_4, zr_5, zr_6, zr_7, zr_8, zr_9, Yfp, Yfo, Yfn, Yfm, Yfl, Yfk, Yfj, Yfi, Yfh, Yfg, Yff, Yfe, Yfd, Yfc, Yfb, Yfa, Ye9, Ye8, Ye7, Ye6, Ye5, Ye4, Ye3, Ye2, Ye1, Ye0, Yez, Yey, Yex, Yew, Yev, Yeu, Yet, Yes, Yer, Yeq, Yep, Yeo, Yen, Yem, Yel, Yek, Yej, Yei, Yeh, Yeg, Yef, Yee, Yed, Yec, Yeb, Yea, Yd9, Yd8, Yd7, Yd6, Yd5, Yd4, Yd3, Yd2, Yd1, Yd0, Ydz, Ydy, Ydx, Ydw, Ydv, Ydu, Ydt, Yds, Ydr, Ydq, Ydp, Ydo, Ydn, Ydm, Ydl, Ydk, Ydj, Ydi, Ydh, Ydg, Ydf, Yde, Ydd, Ydc, Ydb, Yda, Q5b, Q5a, Q49, Q48, Q47, Q46, Q45, Q44, Q43, Q42, Q41, Q40, Q4z, Q4y, Q4x, Q4w, Q4v, Q4u, Q4t, Q4s, Q4r, Q4q, Q4p, Q4o, Q4n, Q4m, Q4l, Q4k, Q4j, Q4i, Q4h, Q4g, Q4f, Q4e, Q4d, Q4c, Q4b, Q4a, Q39, Q38, Q37, Q36, Q35, Q34, Q33, Q32, Q31, Q30, Q3z, Q3y, Q3x, Q3w, Q3v, Q3u, Q3t, Q3s, Q3r, Q3q, Q3p, Q3o, Q3n, Q3m, Q3l, Q3k, Q3j, Q3i, Q3h, Q3g, Q3f, Q3e, Q3d, Q3c, Q3b, Q3a, Q29, Q28, Q27, Q26, Q25, Q24, Q23, Q22, Q21, Q20, Q2z, Q2y, Q2x, Q2w, Q2v, Q2u, Q2t, Q2s, Q2r, Q2q, Q2p, Q2o, Q2n, Q2m, Q2l, Q2k, Q2j, Q2i, Q2h, Q2g, Q2f, Q2e, Q2d, Q2c, Q2b, Q2a, Q19, Q18, Q17, Q16, Q15, Q14, Q13, Q12, Q11, Q10, Q1z, Q1y, Q1x, Q1w, Q1v, Q1u, Q1t, Q1s, Q1r, Q1q, Q1p, Q1o, Q1n, Q1m, Q1l, Q1k, Q1j, Q1i, Q1h, Q1g, Q1f, Q1e, Q1d, Q1c, Q1b, Q1a, Q09, Q08, Q07, Q06, Q05, Q04, Q03, Q02, Q01, Q00, Q0z, Q0y, Q0x, Q0w, Q0v, Q0u, Q0t, Q0s, Q0r, Q0q, Q0p, Q0o, Q0n, Q0m, Q0l, Q0k, Q0j, Q0i, Q0h, Q0g, Q0f, Q0e, Q0d, Q0c, Q0b, Q0a, Qz9, Qz8, Qz7, Qz6, Qz5, Qz4, Nat.blt, Nat.succ_eq_add_one, Nat.ble, Nat.beq, Nat.pred, Nat.add_zero, Nat.zero_add, Nat.add_eq, List.toList_toArray, List.length, List.length_cons, List.length_nil, List.take, List.drop, List.append_nil, List.nil_append, List.cons_append, List.map, List.take_succ_cons, List.take_zero, List.take_nil, List.drop_succ_cons, List.drop_zero, List.drop_nil, List.size_toArray, List.getD, id, Op.operands, Call.operands, Value.cells, Array.size_empty]) (hq : q := by (repeat' apply And.intro) <;> first | exact trivial | exact fun h => h | exact fun h => (Bool.and_eq_true_iff.1 h).1 | exact fun h => (Bool.and_eq_true_iff.1 h).2 | exact fun h => (Bool.and_eq_true_iff.1 (Bool.and_eq_true_iff.1 h).1).1 | (intro h; simp_all)) : RunD (cx fn Bz S1 w1 hk1 hs1 hd1) K E0 m0 ops n' M listed σ := by subst hn; exact RunD.takes is hb hs hq h
theorem on (i : Nat) (is : List Nat) {n n' : Nat} (ho : OpS (cx fn Bz S1 w1 hk1 hs1 hd1) σ ops (opAt ops.toList i) σ1) (h : RunD (cx fn Bz S1 w1 hk1 hs1 hd1) K E0 m0 ops n M (listed.setIfInBounds i true) σ') (hn : n' = n + 1 := by rfl) (hi : nthO ops.toList i = some (opAt ops.toList i) := by rfl) (hs : σ1 = σ' := by dsimp only [Qb7, Qif, Qdp, setV, fwE, En.fw, V.fw, fwL, nthG, pickE, Qmn, nthE, Nat.pred, Qcs, Qee, Qed, Qcq, rnR, rnE, V.rn, rnL, En.rn, Qfn, memN, V.names.namesL, V.names, Qdq, Qce, put, putE, setE, Qh5, Qe3, Qf4, opn, nsl, id, cond, Nat.beq, Nat.reduceAdd, Nat.add_zero, Nat.zero_add, List.cons_append, List.nil_append, List.append_nil, List.append, List.length_cons, List.length_nil, Str.fk]) (hp : is.map (nthE σ'.E) = E0.map some := by rfl) (hr : Region.ready .any ops listed = [i] := by kernel_rfl) (hd : is.Nodup := by decide) : RunD (cx fn Bz S1 w1 hk1 hs1 hd1) K E0 m0 ops n' M listed σ := by subst hs; subst hn; exact RunD.only i is hr hi ho hp hd h
theorem ong (i : Nat) (is : List Nat) {n n' : Nat} {G H : Prop} (ho : OpSg (cx fn Bz S1 w1 hk1 hs1 hd1) σ ops (opAt ops.toList i) σ1 G) (h : H → RunD (cx fn Bz S1 w1 hk1 hs1 hd1) K E0 m0 ops n M (listed.setIfInBounds i true) σ') (hn : n' = n + 1 := by rfl) (hi : nthO ops.toList i = some (opAt ops.toList i) := by rfl) (hs : σ1 = σ' := by dsimp only [Qb7, Qif, Qdp, setV, fwE, En.fw, V.fw, fwL, nthG, pickE, Qmn, nthE, Nat.pred, Qcs, Qee, Qed, Qcq, rnR, rnE, V.rn, rnL, En.rn, Qfn, memN, V.names.namesL, V.names, Qdq, Qce, put, putE, setE, Qh5, Qe3, Qf4, opn, nsl, id, cond, Nat.beq, Nat.reduceAdd, Nat.add_zero, Nat.zero_add, List.cons_append, List.nil_append, List.append_nil, List.append, List.length_cons, List.length_nil, Str.fk]) (hh : G = H := by first | dsimp only [Qzs] | rfl) (hp : is.map (nthE σ'.E) = E0.map some := by rfl) (hr : Region.ready .any ops listed = [i] := by kernel_rfl) (hd : is.Nodup := by decide) : RunD (cx fn Bz S1 w1 hk1 hs1 hd1) K E0 m0 ops n' M listed σ := by subst hs; subst hn; subst hh; exact RunD.onlyg i is hr hi ho hp hd h
theorem o2 (i j : Nat) {n n' : Nat} (h1 : Qwj (cx fn Bz S1 w1 hk1 hs1 hd1) K E0 m0 ops n M listed σ i) (h2 : Qwj (cx fn Bz S1 w1 hk1 hs1 hd1) K E0 m0 ops n M listed σ j) (hn : n' = n + 1 := by rfl) (hr : Region.ready .any ops listed = [i, j] := by kernel_rfl) : RunD (cx fn Bz S1 w1 hk1 hs1 hd1) K E0 m0 ops n' M listed σ := by
  subst hn
  refine RunD.alts hr (by simp) fun k hk => ?_
  rcases List.mem_cons.1 hk with rfl | hk
  · exact h1
  · obtain rfl := List.mem_singleton.1 hk
    exact h2
theorem on1 (i : Nat) (is : List Nat) {n : Nat} (ho : OpS (cx fn Bz S1 w1 hk1 hs1 hd1) σ ops (opAt ops.toList i) σ1) (h : RunD (cx fn Bz S1 w1 hk1 hs1 hd1) K E0 m0 ops n M (listed.setIfInBounds i true) σ') (hi : nthO ops.toList i = some (opAt ops.toList i) := by rfl) (hs : σ1 = σ' := by dsimp only [Qb7, Qif, Qdp, setV, fwE, En.fw, V.fw, fwL, nthG, pickE, Qmn, nthE, Nat.pred, Qcs, Qee, Qed, Qcq, rnR, rnE, V.rn, rnL, En.rn, Qfn, memN, V.names.namesL, V.names, Qdq, Qce, put, putE, setE, Qh5, Qe3, Qf4, opn, nsl, id, cond, Nat.beq, Nat.reduceAdd, Nat.add_zero, Nat.zero_add, List.cons_append, List.nil_append, List.append_nil, List.append, List.length_cons, List.length_nil, Str.fk]) (hp : is.map (nthE σ'.E) = E0.map some := by rfl) (hd : is.Nodup := by decide) : Qwj (cx fn Bz S1 w1 hk1 hs1 hd1) K E0 m0 ops n M listed σ i := by subst hs; exact Qwj.ofg i is hi ho.g hp hd fun _ => h
theorem ong1 (i : Nat) (is : List Nat) {n : Nat} {G H : Prop} (ho : OpSg (cx fn Bz S1 w1 hk1 hs1 hd1) σ ops (opAt ops.toList i) σ1 G) (h : H → RunD (cx fn Bz S1 w1 hk1 hs1 hd1) K E0 m0 ops n M (listed.setIfInBounds i true) σ') (hi : nthO ops.toList i = some (opAt ops.toList i) := by rfl) (hs : σ1 = σ' := by dsimp only [Qb7, Qif, Qdp, setV, fwE, En.fw, V.fw, fwL, nthG, pickE, Qmn, nthE, Nat.pred, Qcs, Qee, Qed, Qcq, rnR, rnE, V.rn, rnL, En.rn, Qfn, memN, V.names.namesL, V.names, Qdq, Qce, put, putE, setE, Qh5, Qe3, Qf4, opn, nsl, id, cond, Nat.beq, Nat.reduceAdd, Nat.add_zero, Nat.zero_add, List.cons_append, List.nil_append, List.append_nil, List.append, List.length_cons, List.length_nil, Str.fk]) (hh : G = H := by first | dsimp only [Qzs] | rfl) (hp : is.map (nthE σ'.E) = E0.map some := by rfl) (hd : is.Nodup := by decide) : Qwj (cx fn Bz S1 w1 hk1 hs1 hd1) K E0 m0 ops n M listed σ i := by subst hs; subst hh; exact Qwj.ofg i is hi ho hp hd h
theorem tx {n n' : Nat} {M1 M' : List (Nat × En)} (j : Nat) (ht : TkS (cx fn Bz S1 w1 hk1 hs1 hd1) E0 M σ ops listed j σ1 M1) (h : RunD (cx fn Bz S1 w1 hk1 hs1 hd1) K E0 m0 ops n M' (listed.setIfInBounds j true) σ') (hn : n' = n + 1 := by rfl) (hs : σ1 = σ' := by dsimp only [Qb7, Qif, Qdp, setV, fwE, En.fw, V.fw, fwL, nthG, pickE, Qmn, nthE, Nat.pred, Qcs, Qee, Qed, Qcq, rnR, rnE, V.rn, rnL, En.rn, Qfn, memN, V.names.namesL, V.names, Qdq, Qce, put, putE, setE, Qh5, Qe3, Qf4, opn, nsl, id, cond, Nat.beq, Nat.reduceAdd, Nat.add_zero, Nat.zero_add, List.cons_append, List.nil_append, List.append_nil, List.append, List.length_cons, List.length_nil, Str.fk]) (hM : M1 = M' := by dsimp only [Qb7, Qif, Qdp, setV, fwE, En.fw, V.fw, fwL, nthG, pickE, Qmn, nthE, Nat.pred, Qcs, Qee, Qed, Qcq, rnR, rnE, V.rn, rnL, En.rn, Qfn, memN, V.names.namesL, V.names, Qdq, Qce, put, putE, setE, Qh5, Qe3, Qf4, opn, nsl, id, cond, Nat.beq, Nat.reduceAdd, Nat.add_zero, Nat.zero_add, List.cons_append, List.nil_append, List.append_nil, List.append, List.length_cons, List.length_nil, Str.fk]) : RunD (cx fn Bz S1 w1 hk1 hs1 hd1) K E0 m0 ops n' M listed σ := by subst hs; subst hn; subst hM; exact ht _ _ _ h
theorem dx {α : Type} {dα : Dat α} [s : Str α] [Inhabited α] {t e by' r len d : Nat} {x y : Operand} {ty : TypeId} {pos : String} {after : Array Edge} {i : Int} {xs : List α} {j : Nat} (k : Nat) (hk : k < xs.length) (hi' : nthO ops.toList j = some ⟨some d, .indexAddr t x y, ty, pos, after, none⟩ := by rfl) (hB : Qm3 ops listed j = true := by kernel_rfl) (hx : ev σ.ρ x = some (.sl r len) := by dsimp only [ev, evs, evsG, Qa4, lk, lkE, cond, Nat.beq, evG, stO', V.strip, grd, grdO, nthO, gB, gBV, Nat.pred, wnt, List.toList_toArray, List.cons_append, List.nil_append, List.append_nil]) (hy : ev σ.ρ y = some (.v (.int .i64 i)) := by dsimp only [ev, evs, evsG, Qa4, lk, lkE, cond, Nat.beq, evG, stO', V.strip, grd, grdO, nthO, gB, gBV, Nat.pred, wnt, List.toList_toArray, List.cons_append, List.nil_append, List.append_nil]) (hp : lkE (M ++ E0) r = some (.ros α dα xs) := by dsimp only [ev, evs, evsG, Qa4, lk, lkE, cond, Nat.beq, evG, stO', V.strip, grd, grdO, nthO, gB, gBV, Nat.pred, wnt, List.toList_toArray, List.cons_append, List.nil_append, List.append_nil]) (hl : len = xs.length := by first | rfl | simp only [List.length_set]) (hi : i = k := by rfl) (ht : ti t = .sl e (Dat.sz α) by' := by rfl) (hd : Nat.blt d σ.n = true := by rfl) : TkS (cx fn Bz S1 w1 hk1 hs1 hd1) E0 M σ ops listed j (Qcs σ d (nth xs k) s.fk) (Qee σ (nth xs k) s.fk M) := TkS.idx j k hk hi' hB hx hy hp hl hi ht hd
theorem tsx {t d : Nat} {x y : Operand} {i : Int} {s : ByteArray} {ty : TypeId} {pos : String} {after : Array Edge} {j : Nat} (k : Nat) (hk : k < s.size) (hi' : nthO ops.toList j = some ⟨some d, .index t x y, ty, pos, after, none⟩ := by rfl) (hB : Qm3 ops listed j = true := by kernel_rfl) (hx : ev σ.ρ x = some (.v (.string s)) := by dsimp only [ev, evs, evsG, Qa4, lk, lkE, cond, Nat.beq, evG, stO', V.strip, grd, grdO, nthO, gB, gBV, Nat.pred, wnt, List.toList_toArray, List.cons_append, List.nil_append, List.append_nil]) (hy : ev σ.ρ y = some (.v (.int .i64 i)) := by dsimp only [ev, evs, evsG, Qa4, lk, lkE, cond, Nat.beq, evG, stO', V.strip, grd, grdO, nthO, gB, gBV, Nat.pred, wnt, List.toList_toArray, List.cons_append, List.nil_append, List.append_nil]) (hi : i = k := by rfl) (ht : ti t = .str := by rfl) (hd : Nat.blt d σ.n = true := by rfl) : TkS (cx fn Bz S1 w1 hk1 hs1 hd1) E0 M σ ops listed j (put d (.v (.int .u8 (Qak s k).toNat)) σ) M := TkS.sidx j k hk hi' hB hx hy ht hi hd
theorem tqo {t t' d : Nat} {x y : Operand} {k : IntKind} {i i2 : Int} {ty : TypeId} {pos : String} {after : Array Edge} {j : Nat} (hi' : nthO ops.toList j = some ⟨some d, .binOp .quo t x y t', ty, pos, after, none⟩ := by rfl) (hB : Qm3 ops listed j = true := by kernel_rfl) (hx : ev σ.ρ x = some (.v (.int k i)) := by dsimp only [ev, evs, evsG, Qa4, lk, lkE, cond, Nat.beq, evG, stO', V.strip, grd, grdO, nthO, gB, gBV, Nat.pred, wnt, List.toList_toArray, List.cons_append, List.nil_append, List.append_nil]) (hy : ev σ.ρ y = some (.v (.int k i2)) := by dsimp only [ev, evs, evsG, Qa4, lk, lkE, cond, Nat.beq, evG, stO', V.strip, grd, grdO, nthO, gB, gBV, Nat.pred, wnt, List.toList_toArray, List.cons_append, List.nil_append, List.append_nil]) (hj : i2 ≠ 0 := by decide) (hd : Nat.blt d σ.n = true := by rfl) : TkS (cx fn Bz S1 w1 hk1 hs1 hd1) E0 M σ ops listed j (put d (.v (.int k (k.wrap (i.tdiv i2)))) σ) M := TkS.quo j hj hi' hB hx hy hd
theorem trm {t t' d : Nat} {x y : Operand} {k : IntKind} {i i2 : Int} {ty : TypeId} {pos : String} {after : Array Edge} {j : Nat} (hi' : nthO ops.toList j = some ⟨some d, .binOp .rem t x y t', ty, pos, after, none⟩ := by rfl) (hB : Qm3 ops listed j = true := by kernel_rfl) (hx : ev σ.ρ x = some (.v (.int k i)) := by dsimp only [ev, evs, evsG, Qa4, lk, lkE, cond, Nat.beq, evG, stO', V.strip, grd, grdO, nthO, gB, gBV, Nat.pred, wnt, List.toList_toArray, List.cons_append, List.nil_append, List.append_nil]) (hy : ev σ.ρ y = some (.v (.int k i2)) := by dsimp only [ev, evs, evsG, Qa4, lk, lkE, cond, Nat.beq, evG, stO', V.strip, grd, grdO, nthO, gB, gBV, Nat.pred, wnt, List.toList_toArray, List.cons_append, List.nil_append, List.append_nil]) (hj : i2 ≠ 0 := by decide) (hd : Nat.blt d σ.n = true := by rfl) : TkS (cx fn Bz S1 w1 hk1 hs1 hd1) E0 M σ ops listed j (put d (.v (.int k (i.tmod i2))) σ) M := TkS.rem j hj hi' hB hx hy hd
theorem tca {t t' d : Nat} {x y : Operand} {p q : ByteArray} {ty : TypeId} {pos : String} {after : Array Edge} {j : Nat} (hi' : nthO ops.toList j = some ⟨some d, .binOp .add t x y t', ty, pos, after, none⟩ := by rfl) (hB : Qm3 ops listed j = true := by kernel_rfl) (hx : ev σ.ρ x = some (.v (.string p)) := by dsimp only [ev, evs, evsG, Qa4, lk, lkE, cond, Nat.beq, evG, stO', V.strip, grd, grdO, nthO, gB, gBV, Nat.pred, wnt, List.toList_toArray, List.cons_append, List.nil_append, List.append_nil]) (hy : ev σ.ρ y = some (.v (.string q)) := by dsimp only [ev, evs, evsG, Qa4, lk, lkE, cond, Nat.beq, evG, stO', V.strip, grd, grdO, nthO, gB, gBV, Nat.pred, wnt, List.toList_toArray, List.cons_append, List.nil_append, List.append_nil]) (hd : Nat.blt d σ.n = true := by rfl) (hs : p.size + q.size ≤ 9223372036854775807) : TkS (cx fn Bz S1 w1 hk1 hs1 hd1) E0 M σ ops listed j (put d (.v (.string (p ++ q))) σ) M := TkS.cat j hs hi' hB hx hy hd
theorem dn {res : List Re} {k : List It} {S2 : Nat → Prop} {w2 : World} {hk2 : Keep Bz.S0 Bz.w w2} {hs2 : ∀ b, Bz.S0 b → S2 b} {hd2 : ∀ b, S2 b → b < w2.heap.size} (hb : ∀ θ σ a w', R (cx fn Bz S2 w2 hk2 hs2 hd2) θ σ a w' → R (cx fn Bz S1 w1 hk1 hs1 hd1) θ σ a w') (h : Run (cx fn Bz S1 w1 hk1 hs1 hd1) res σ k) (hr : Region.ready .any ops listed = [] := by kernel_rfl) : RunD (cx fn Bz S2 w2 hk2 hs2 hd2) (kQ (cx fn Bz S1 w1 hk1 hs1 hd1) res k .normal) E0 m0 ops 0 M listed σ := fun θ0 η a w _ hR _ _ _ => Yp4 hr (h _ a w (hb _ _ _ _ hR))
end
section
variable {fn : Func} {Bz : Bs} {S1 : Nat → Prop} {w1 : World} {hk1 : Keep Bz.S0 Bz.w w1} {hs1 : ∀ b, Bz.S0 b → S1 b} {hd1 : ∀ b, S1 b → b < w1.heap.size} {σ : St} {all : Array Oper} {ty : TypeId} {pos : String} {after : Array Edge} {d : Nat}
theorem cl {res : List Re} {f : FuncId} {x : Operand} {cs : List V} {xs : Array Operand} {ts : Array TypeId} {args : List Arg} {vs : List V} (hct : CTs f args res) (hfn : FnOk Tryz.prog f) (hx : ev σ.ρ x = some (.fn f cs) := by dsimp only [ev, evs, evsG, Qa4, lk, lkE, cond, Nat.beq, evG, stO', V.strip, grd, grdO, nthO, gB, gBV, Nat.pred, wnt, List.toList_toArray, List.cons_append, List.nil_append, List.append_nil]) (hev : evs σ.ρ xs.toList = some vs := by dsimp only [ev, evs, evsG, Qa4, lk, lkE, cond, Nat.beq, evG, stO', V.strip, grd, grdO, nthO, gB, gBV, Nat.pred, wnt, List.toList_toArray, List.cons_append, List.nil_append, List.append_nil]) (hargs : Qjj σ.E (vs ++ cs) args := by dsimp only [lk, lkE, cond, Nat.beq, List.cons_append, List.nil_append, List.append_nil, Qjj, AsOk, Arg.ok, Ar0.ok, SlOk, payE, En.pay, FkV, agC, Qpx, En.cells, List.map, Str.fk, id]; repeat' (first | assumption | rfl | exact trivial | apply And.intro | omega)) (hd : Nat.blt d σ.n = true := by rfl) :
    OpS (cx fn Bz S1 w1 hk1 hs1 hd1) σ all ⟨some d, .call { callee := .value x, args := xs, argTypes := ts }, ty, pos, after, none⟩ (Qb7 σ d res) := OpS.call hct hfn hx hev hargs hd
theorem clg {res : List Re} {f : FuncId} {x : Operand} {cs : List V} {xs : Array Operand} {ts : Array TypeId} {args : List Arg} {vs : List V} (hct : CTs f args res) (hfn : FnOk Tryz.prog f) (hx : ev σ.ρ x = some (.fn f cs) := by dsimp only [ev, evs, evsG, Qa4, lk, lkE, cond, Nat.beq, evG, stO', V.strip, grd, grdO, nthO, gB, gBV, Nat.pred, wnt, List.toList_toArray, List.cons_append, List.nil_append, List.append_nil]) (hev : evs σ.ρ xs.toList = some vs := by dsimp only [ev, evs, evsG, Qa4, lk, lkE, cond, Nat.beq, evG, stO', V.strip, grd, grdO, nthO, gB, gBV, Nat.pred, wnt, List.toList_toArray, List.cons_append, List.nil_append, List.append_nil]) (hargs : Qjj σ.E (vs ++ cs) args := by dsimp only [lk, lkE, cond, Nat.beq, List.cons_append, List.nil_append, List.append_nil, Qjj, AsOk, Arg.ok, Ar0.ok, SlOk, payE, En.pay, FkV, agC, Qpx, En.cells, List.map, Str.fk, id]; repeat' (first | assumption | rfl | exact trivial | apply And.intro | omega)) (hd : Nat.blt d σ.n = true := by rfl) :
    OpSg (cx fn Bz S1 w1 hk1 hs1 hd1) σ all ⟨some d, .call { callee := .value x, args := xs, argTypes := ts }, ty, pos, after, none⟩ (Qb7 σ d res) (Qzs res) := OpSg.call hct hfn hx hev hargs hd
theorem cG {u : Value} {f : FuncId} {x : Operand} {cs : List V} {xs : Array Operand} {ts : Array TypeId} {args : List Arg} {vs : List V} {j : Nat} {want B : Bool} (hB : gB σ.ρ all j want = some B := by dsimp only [ev, evs, evsG, Qa4, lk, lkE, cond, Nat.beq, evG, stO', V.strip, grd, grdO, nthO, gB, gBV, Nat.pred, wnt, List.toList_toArray, List.cons_append, List.nil_append, List.append_nil]) (hx : ev σ.ρ x = some (.fn f cs) := by dsimp only [ev, evs, evsG, Qa4, lk, lkE, cond, Nat.beq, evG, stO', V.strip, grd, grdO, nthO, gB, gBV, Nat.pred, wnt, List.toList_toArray, List.cons_append, List.nil_append, List.append_nil]) (hvs' : evsG σ.ρ xs.toList = some vs := by dsimp only [ev, evs, evsG, Qa4, lk, lkE, cond, Nat.beq, evG, stO', V.strip, grd, grdO, nthO, gB, gBV, Nat.pred, wnt, List.toList_toArray, List.cons_append, List.nil_append, List.append_nil]) (hct : B = true → CTs f args [.c u]) (hfn : FnOk Tryz.prog f) (hside : B = true → Qff B True σ.ρ xs.toList := by intro h; first | exact trivial | (dsimp only [Qff, sdV, ev, lk, cond, Nat.beq, V.side, List.toList_toArray]; (repeat' apply And.intro) <;> first | exact trivial | exact h | exact fun h => h | exact (Bool.and_eq_true_iff.1 h).1 | exact (Bool.and_eq_true_iff.1 h).2 | exact fun h => (Bool.and_eq_true_iff.1 h).1 | exact fun h => (Bool.and_eq_true_iff.1 h).2 | exact fun h => (Bool.and_eq_true_iff.1 (Bool.and_eq_true_iff.1 h).1).1 | (intro h; simp_all))) (hargs : B = true → Qjj σ.E (vs ++ cs) args := by intro h; dsimp only [lk, lkE, cond, Nat.beq, List.cons_append, List.nil_append, List.append_nil, Qjj, AsOk, Arg.ok, Ar0.ok, SlOk, payE, En.pay, FkV, agC, Qpx, En.cells, List.map, Str.fk, id]; repeat' (first | assumption | rfl | exact trivial | apply And.intro | omega)) (hd : Nat.blt d σ.n = true := by rfl) :
    OpS (cx fn Bz S1 w1 hk1 hs1 hd1) σ all ⟨some d, .call { callee := .value x, args := xs, argTypes := ts }, ty, pos, after, some (j, want)⟩ (put d (.gd B (.v u)) σ) := have hvs := Yal hvs'
    OpS.callG hB hct hfn hx (fun y hy => by
      have : evG σ.ρ y ∈ xs.toList.map (evG σ.ρ) := List.mem_map.2 ⟨y, hy, rfl⟩
      rw [hvs] at this
      obtain ⟨v, _, hv⟩ := List.mem_map.1 this
      rw [← hv]; rfl) hvs hside hargs hd
theorem sG {t : Nat} {x y : Operand} {i : Int} {s : ByteArray} {j : Nat} {want B : Bool} (k : Nat) (hB : gB σ.ρ all j want = some B := by dsimp only [ev, evs, evsG, Qa4, lk, lkE, cond, Nat.beq, evG, stO', V.strip, grd, grdO, nthO, gB, gBV, Nat.pred, wnt, List.toList_toArray, List.cons_append, List.nil_append, List.append_nil]) (hx : evG σ.ρ x = some (.v (.string s)) := by dsimp only [ev, evs, evsG, Qa4, lk, lkE, cond, Nat.beq, evG, stO', V.strip, grd, grdO, nthO, gB, gBV, Nat.pred, wnt, List.toList_toArray, List.cons_append, List.nil_append, List.append_nil]) (hy : evG σ.ρ y = some (.v (.int .i64 i)) := by dsimp only [ev, evs, evsG, Qa4, lk, lkE, cond, Nat.beq, evG, stO', V.strip, grd, grdO, nthO, gB, gBV, Nat.pred, wnt, List.toList_toArray, List.cons_append, List.nil_append, List.append_nil]) (hk : B = true → k < s.size) (hi : B = true → i = k := by intro _; rfl) (hside : B = true → Qff B True σ.ρ [x, y] := by intro h; first | exact trivial | (dsimp only [Qff, sdV, ev, lk, cond, Nat.beq, V.side, List.toList_toArray]; (repeat' apply And.intro) <;> first | exact trivial | exact h | exact fun h => h | exact (Bool.and_eq_true_iff.1 h).1 | exact (Bool.and_eq_true_iff.1 h).2 | exact fun h => (Bool.and_eq_true_iff.1 h).1 | exact fun h => (Bool.and_eq_true_iff.1 h).2 | exact fun h => (Bool.and_eq_true_iff.1 (Bool.and_eq_true_iff.1 h).1).1 | (intro h; simp_all))) (ht : ti t = .str := by rfl) (hd : Nat.blt d σ.n = true := by rfl) :
    OpS (cx fn Bz S1 w1 hk1 hs1 hd1) σ all ⟨some d, .index t x y, ty, pos, after, some (j, want)⟩ (put d (.gd B (.v (.int .u8 (Qak s k).toNat))) σ) := OpS.sidxG hB hx hy hside ht hi hk hd
theorem cm {fid : FuncId} {mk m0 nn : Nat} {E0 F0 E1 : List (Nat × En)} {args r : List V} (f fk is js rest : List Nat) {x : Operand} {cs : List V} {xs : Array Operand} {ts : Array TypeId} {vs : List V} {G0 : Prop} (hct : CTMs fid mk m0 E0 F0 args E1 nn r G0) (hfn : FnOk Tryz.prog fid) (hx : ev σ.ρ x = some (.fn fid cs) := by dsimp only [ev, evs, evsG, Qa4, lk, lkE, cond, Nat.beq, evG, stO', V.strip, grd, grdO, nthO, gB, gBV, Nat.pred, wnt, List.toList_toArray, List.cons_append, List.nil_append, List.append_nil]) (hev : evs σ.ρ xs.toList = some vs := by dsimp only [ev, evs, evsG, Qa4, lk, lkE, cond, Nat.beq, evG, stO', V.strip, grd, grdO, nthO, gB, gBV, Nat.pred, wnt, List.toList_toArray, List.cons_append, List.nil_append, List.append_nil]) (hva : renL f args = some (vs ++ cs) := by rfl) (hfm : Nat.beq f.length m0 = true := by rfl) (hfk : f.take mk = fk := by rfl) (hE0 : SubE f σ.E is E0 := by first | exact trivial | (dsimp only [SubE, V.ren, renL, En.ren, nthE, nthF, lk, cond, Nat.beq, Nat.pred, List.length, List.length_nil, Nat.reduceAdd, List.getElem?_cons_zero, List.getElem?_cons_succ, Qn4, borL, borN, List.cons_append, List.nil_append, List.append_nil]; (repeat' apply And.intro) <;> first | rfl | exact trivial)) (hF0 : SubE f (borL σ.E) js F0 := by first | exact trivial | (dsimp only [SubE, V.ren, renL, En.ren, nthE, nthF, lk, cond, Nat.beq, Nat.pred, List.length, List.length_nil, Nat.reduceAdd, List.getElem?_cons_zero, List.getElem?_cons_succ, Qn4, borL, borN, List.cons_append, List.nil_append, List.append_nil]; (repeat' apply And.intro) <;> first | rfl | exact trivial)) (hFs : isFs F0 = true := by rfl) (hdj : djB is js = true := by rfl) (hnd : (is ++ rest).Nodup := by decide) (hrest : rest.map (nthE σ.E) = (pickE σ.E rest).map some := by rfl) (hd : Nat.blt d σ.n = true := by rfl) (hlt : Yh7 σ.m f = true := by rfl) (hmk : Nat.ble mk m0 = true := by rfl) (hE1 : Ybk E1 = true := by rfl) :
    OpSg (cx fn Bz S1 w1 hk1 hs1 hd1) σ all ⟨some d, .call { callee := .value x, args := xs, argTypes := ts }, ty, pos, after, none⟩ (Qif σ d fk E1 nn r rest) G0 := OpS.callM hct hfn (fun g hg => hs1 g (Bz.gin g hg)) f fk is js rest hx hev hva hfm hfk hE0 hF0 hFs hdj hnd hrest hd hlt hmk hE1
theorem ce {res : List Re} {k : List It} {r : List Oper} {res2 : Value → List Re} {ok : Bool} {f : FuncId} {x : Operand} {cs : List V} {xs : Array Operand} {ts : Array TypeId} {args : List Arg} {vs : List V} (hct : CTEs f args res2 ok) (hfn : FnOk Tryz.prog f) {σ' : Value → St} (h : ∀ u, Yb8 ok u → Run (cx fn Bz S1 w1 hk1 hs1 hd1) res (σ' u) (.ops r all :: k)) (hx : ev σ.ρ x = some (.fn f cs) := by dsimp only [ev, evs, evsG, Qa4, lk, lkE, cond, Nat.beq, evG, stO', V.strip, grd, grdO, nthO, gB, gBV, Nat.pred, wnt, List.toList_toArray, List.cons_append, List.nil_append, List.append_nil]) (hev : evs σ.ρ xs.toList = some vs := by dsimp only [ev, evs, evsG, Qa4, lk, lkE, cond, Nat.beq, evG, stO', V.strip, grd, grdO, nthO, gB, gBV, Nat.pred, wnt, List.toList_toArray, List.cons_append, List.nil_append, List.append_nil]) (hargs : Qjj σ.E (vs ++ cs) args := by dsimp only [lk, lkE, cond, Nat.beq, List.cons_append, List.nil_append, List.append_nil, Qjj, AsOk, Arg.ok, Ar0.ok, SlOk, payE, En.pay, FkV, agC, Qpx, En.cells, List.map, Str.fk, id]; repeat' (first | assumption | rfl | exact trivial | apply And.intro | omega)) (hd : Nat.blt d σ.n = true := by rfl) (hs : ∀ u, Qb7 σ d (res2 u) = σ' u := by intro u; dsimp only [Qb7, Qif, Qdp, setV, fwE, En.fw, V.fw, fwL, nthG, pickE, Qmn, nthE, Nat.pred, Qcs, Qee, Qed, Qcq, rnR, rnE, V.rn, rnL, En.rn, Qfn, memN, V.names.namesL, V.names, Qdq, Qce, put, putE, setE, Qh5, Qe3, Qf4, opn, nsl, id, cond, Nat.beq, Nat.reduceAdd, Nat.add_zero, Nat.zero_add, List.cons_append, List.nil_append, List.append_nil, List.append, List.length_cons, List.length_nil, Str.fk]) :
    Run (cx fn Bz S1 w1 hk1 hs1 hd1) res σ (.ops (⟨some d, .call { callee := .value x, args := xs, argTypes := ts }, ty, pos, after, none⟩ :: r) all :: k) := Run.callE hct hfn hx hev hargs hd (fun u hu => by rw [hs u]; exact h u hu)
theorem er {t t' : Nat} {x : Operand} {u : Value} {ok : Bool} (hu : Yb8 ok u) (hx : ev σ.ρ x = some (.v u) := by dsimp only [ev, evs, evsG, Qa4, lk, lkE, cond, Nat.beq, evG, stO', V.strip, grd, grdO, nthO, gB, gBV, Nat.pred, wnt, List.toList_toArray, List.cons_append, List.nil_append, List.append_nil]) (ht : Tryz.prog.underlying t = some (.interface (Tryz.prog.methodsAt t)) := by kernel_rfl) (hd : Nat.blt d σ.n = true := by rfl) :
    OpS (cx fn Bz S1 w1 hk1 hs1 hd1) σ all ⟨some d, .binOp .neq t x (.const .nilIface) t', ty, pos, after, none⟩ (put d (.v (.bool (!ok))) σ) := OpS.errne hx hu ht hd
theorem rG {t t' : Nat} {x y : Operand} {k : IntKind} {i i2 : Int} {j : Nat} {want B : Bool} (hB : gB σ.ρ all j want = some B := by dsimp only [ev, evs, evsG, Qa4, lk, lkE, cond, Nat.beq, evG, stO', V.strip, grd, grdO, nthO, gB, gBV, Nat.pred, wnt, List.toList_toArray, List.cons_append, List.nil_append, List.append_nil]) (hx : evG σ.ρ x = some (.v (.int k i)) := by dsimp only [ev, evs, evsG, Qa4, lk, lkE, cond, Nat.beq, evG, stO', V.strip, grd, grdO, nthO, gB, gBV, Nat.pred, wnt, List.toList_toArray, List.cons_append, List.nil_append, List.append_nil]) (hy : evG σ.ρ y = some (.v (.int k i2)) := by dsimp only [ev, evs, evsG, Qa4, lk, lkE, cond, Nat.beq, evG, stO', V.strip, grd, grdO, nthO, gB, gBV, Nat.pred, wnt, List.toList_toArray, List.cons_append, List.nil_append, List.append_nil]) (hside : B = true → Qff B True σ.ρ [x, y] := by intro h; first | exact trivial | (dsimp only [Qff, sdV, ev, lk, cond, Nat.beq, V.side, List.toList_toArray]; (repeat' apply And.intro) <;> first | exact trivial | exact h | exact fun h => h | (intro h; simp_all))) (hj : B = true → i2 ≠ 0 := by intro _; decide) (hd : Nat.blt d σ.n = true := by rfl) :
    OpS (cx fn Bz S1 w1 hk1 hs1 hd1) σ all ⟨some d, .binOp .rem t x y t', ty, pos, after, some (j, want)⟩ (put d (.gd B (.v (.int k (i.tmod i2)))) σ) := OpS.remG hB hx hy hside hj hd
theorem ix {α : Type} {dα : Dat α} [s : Str α] [Inhabited α] {t e by' r len : Nat} {x y : Operand} {i : Int} {xs : List α} (k : Nat) (hk : k < xs.length) (hx : ev σ.ρ x = some (.sl r len) := by dsimp only [ev, evs, evsG, Qa4, lk, lkE, cond, Nat.beq, evG, stO', V.strip, grd, grdO, nthO, gB, gBV, Nat.pred, wnt, List.toList_toArray, List.cons_append, List.nil_append, List.append_nil]) (hy : ev σ.ρ y = some (.v (.int .i64 i)) := by dsimp only [ev, evs, evsG, Qa4, lk, lkE, cond, Nat.beq, evG, stO', V.strip, grd, grdO, nthO, gB, gBV, Nat.pred, wnt, List.toList_toArray, List.cons_append, List.nil_append, List.append_nil]) (hp : lkE σ.E r = some (.ros α dα xs) := by dsimp only [ev, evs, evsG, Qa4, lk, lkE, cond, Nat.beq, evG, stO', V.strip, grd, grdO, nthO, gB, gBV, Nat.pred, wnt, List.toList_toArray, List.cons_append, List.nil_append, List.append_nil]) (hl : len = xs.length := by first | rfl | simp only [List.length_set]) (hi : i = k := by rfl) (ht : ti t = .sl e (Dat.sz α) by' := by rfl) (hd : Nat.blt d σ.n = true := by rfl) :
    OpS (cx fn Bz S1 w1 hk1 hs1 hd1) σ all ⟨some d, .indexAddr t x y, ty, pos, after, none⟩ (Qcs σ d (nth xs k) s.fk) := OpS.index hx hy hp hl ht hd hi hk
theorem sx {t : Nat} {x y : Operand} {i : Int} {s : ByteArray} (k : Nat) (hk : k < s.size) (hx : ev σ.ρ x = some (.v (.string s)) := by dsimp only [ev, evs, evsG, Qa4, lk, lkE, cond, Nat.beq, evG, stO', V.strip, grd, grdO, nthO, gB, gBV, Nat.pred, wnt, List.toList_toArray, List.cons_append, List.nil_append, List.append_nil]) (hy : ev σ.ρ y = some (.v (.int .i64 i)) := by dsimp only [ev, evs, evsG, Qa4, lk, lkE, cond, Nat.beq, evG, stO', V.strip, grd, grdO, nthO, gB, gBV, Nat.pred, wnt, List.toList_toArray, List.cons_append, List.nil_append, List.append_nil]) (hi : i = k := by rfl) (ht : ti t = .str := by rfl) (hd : Nat.blt d σ.n = true := by rfl) :
    OpS (cx fn Bz S1 w1 hk1 hs1 hd1) σ all ⟨some d, .index t x y, ty, pos, after, none⟩ (put d (.v (.int .u8 (Qak s k).toNat)) σ) := OpS.sidx hx hy ht hd hi hk
theorem ca {t t' : Nat} {x y : Operand} {p q : ByteArray} (hx : ev σ.ρ x = some (.v (.string p)) := by dsimp only [ev, evs, evsG, Qa4, lk, lkE, cond, Nat.beq, evG, stO', V.strip, grd, grdO, nthO, gB, gBV, Nat.pred, wnt, List.toList_toArray, List.cons_append, List.nil_append, List.append_nil]) (hy : ev σ.ρ y = some (.v (.string q)) := by dsimp only [ev, evs, evsG, Qa4, lk, lkE, cond, Nat.beq, evG, stO', V.strip, grd, grdO, nthO, gB, gBV, Nat.pred, wnt, List.toList_toArray, List.cons_append, List.nil_append, List.append_nil]) (hd : Nat.blt d σ.n = true := by rfl) (hs : p.size + q.size ≤ 9223372036854775807) :
    OpS (cx fn Bz S1 w1 hk1 hs1 hd1) σ all ⟨some d, .binOp .add t x y t', ty, pos, after, none⟩ (put d (.v (.string (p ++ q))) σ) := OpS.cat hx hy hd hs
theorem ap {α : Type} {dα : Dat α} [s : @Str α dα] {t e by' r q n len T : Nat} {x y : Operand} {z : Value} {xs : List α} (ys : List α) {cs : List V} (hx : ev σ.ρ x = some (.sl r len) := by dsimp only [ev, evs, evsG, Qa4, lk, lkE, cond, Nat.beq, evG, stO', V.strip, grd, grdO, nthO, gB, gBV, Nat.pred, wnt, List.toList_toArray, List.cons_append, List.nil_append, List.append_nil]) (hr : lkE σ.E r = some (.own α dα xs) := by dsimp only [ev, evs, evsG, Qa4, lk, lkE, cond, Nat.beq, evG, stO', V.strip, grd, grdO, nthO, gB, gBV, Nat.pred, wnt, List.toList_toArray, List.cons_append, List.nil_append, List.append_nil]) (hy : ev σ.ρ y = some (.sl q n) := by dsimp only [ev, evs, evsG, Qa4, lk, lkE, cond, Nat.beq, evG, stO', V.strip, grd, grdO, nthO, gB, gBV, Nat.pred, wnt, List.toList_toArray, List.cons_append, List.nil_append, List.append_nil]) (hq : lkE σ.E q = some (.lit cs T n) := by dsimp only [ev, evs, evsG, Qa4, lk, lkE, cond, Nat.beq, evG, stO', V.strip, grd, grdO, nthO, gB, gBV, Nat.pred, wnt, List.toList_toArray, List.cons_append, List.nil_append, List.append_nil]) (ht : ti t = .sl e (Dat.sz α) by' := by rfl) (hz : zr e = some z := by rfl) (hm : xs.length + ys.length ≤ 9223372036854775807 := by first | omega | (simp only [List.length_cons, List.length_nil]; first | omega | exact om) | exact om) (hl : len = xs.length := by first | rfl | simp only [List.length_set])
    (hzs : z.cells.size = Dat.sz α := by rfl) (hd : Nat.blt d σ.n = true := by rfl) (hyl : ys.length = n := by rfl) (hnm : V.names.namesL cs = [] := by rfl) (h1 : oneL cs = true := by rfl) (hg : ElOk σ.E (Dat.sz α) dα s.fk ys cs) (hb : (xs.length + ys.length) * by' ≤ 140737488355328) :
    OpS (cx fn Bz S1 w1 hk1 hs1 hd1) σ all ⟨some d, .call { callee := .builtin .append, args := #[x, y], argTypes := #[t, t] }, ty, pos, after, none⟩ (Qdq σ d r dα (xs ++ ys)) := OpS.app hx hr hl hy hq ht hz hzs hd hyl hnm hg h1 hb hm
theorem a0 {α : Type} {dα : Dat α} [s : @Str α dα] {t e by' q n T : Nat} {x y : Operand} {z : Value} (ys : List α) {cs : List V} (hx : ev σ.ρ x = some (.v (.slice none 0 0)) := by dsimp only [ev, evs, evsG, Qa4, lk, lkE, cond, Nat.beq, evG, stO', V.strip, grd, grdO, nthO, gB, gBV, Nat.pred, wnt, List.toList_toArray, List.cons_append, List.nil_append, List.append_nil]) (hy : ev σ.ρ y = some (.sl q n) := by dsimp only [ev, evs, evsG, Qa4, lk, lkE, cond, Nat.beq, evG, stO', V.strip, grd, grdO, nthO, gB, gBV, Nat.pred, wnt, List.toList_toArray, List.cons_append, List.nil_append, List.append_nil]) (hq : lkE σ.E q = some (.lit cs T n) := by dsimp only [ev, evs, evsG, Qa4, lk, lkE, cond, Nat.beq, evG, stO', V.strip, grd, grdO, nthO, gB, gBV, Nat.pred, wnt, List.toList_toArray, List.cons_append, List.nil_append, List.append_nil]) (ht : ti t = .sl e (Dat.sz α) by' := by rfl) (hz : zr e = some z := by rfl) (hm : ys.length ≤ 9223372036854775807 := by first | omega | (simp only [List.length_cons, List.length_nil]; first | omega | exact om) | exact om)
    (hzs : z.cells.size = Dat.sz α := by rfl) (hd : Nat.blt d σ.n = true := by rfl) (hyl : ys.length = n := by rfl) (hnm : V.names.namesL cs = [] := by rfl) (h1 : oneL cs = true := by rfl) (hg : ElOk σ.E (Dat.sz α) dα s.fk ys cs) (hb : ys.length * by' ≤ 140737488355328) :
    OpS (cx fn Bz S1 w1 hk1 hs1 hd1) σ all ⟨some d, .call { callee := .builtin .append, args := #[x, y], argTypes := #[t, t] }, ty, pos, after, none⟩ (Qce σ d dα ys) := OpS.app0 hx hy hq ht hz hzs hd hyl hnm hg h1 hb hm
theorem aS {α : Type} {dα : Dat α} [s : @Str α dα] {t e by' : Nat} {x y : Operand} {z : Value} (xs ys : List α) (rs : List Nat) {vx vy : V} (hb : (xs.length + ys.length) * by' ≤ 140737488355328) (hm : xs.length + ys.length ≤ 9223372036854775807) (hx : ev σ.ρ x = some vx := by dsimp only [ev, evs, evsG, Qa4, lk, lkE, cond, Nat.beq, evG, stO', V.strip, grd, grdO, nthO, gB, gBV, Nat.pred, wnt, List.toList_toArray, List.cons_append, List.nil_append, List.append_nil]) (hy : ev σ.ρ y = some vy := by dsimp only [ev, evs, evsG, Qa4, lk, lkE, cond, Nat.beq, evG, stO', V.strip, grd, grdO, nthO, gB, gBV, Nat.pred, wnt, List.toList_toArray, List.cons_append, List.nil_append, List.append_nil]) (hr : XRow σ.E α dα xs rs vx := by dsimp only [XRow, Qlr, En.payO, lkE, cond, Nat.beq]; repeat' (first | rfl | exact trivial | apply And.intro)) (hq : SlOk σ.E α dα ys vy := by dsimp only [SlOk, payE, En.pay, lkE, cond, Nat.beq]; repeat' (first | rfl | exact trivial | apply And.intro)) (ht : ti t = .sl e (Dat.sz α) by' := by rfl) (hz : zr e = some z := by rfl) (hfl : Qmm s.fk = true := by rfl)
    (hzs : z.cells.size = Dat.sz α := by rfl) (hd : Nat.blt d σ.n = true := by rfl) :
    OpS (cx fn Bz S1 w1 hk1 hs1 hd1) σ all ⟨some d, .call { callee := .builtin .append, args := #[x, y], argTypes := #[t, t] }, ty, pos, after, none⟩ (Qdp σ d dα (xs ++ ys) rs) := OpS.appS hx hr hy hq hfl ht hz hzs hd hb hm
theorem aN {α : Type} {dα : Dat α} [s : @Str α dα] {t e by' q T : Nat} {x y : Operand} {z : Value} (xs : List α) (y0 : α) (rs : List Nat) {vx : V} {cs : List V} (hg : Dat.good y0) (hb : (xs.length + 1) * by' ≤ 140737488355328) (hm : xs.length + 1 ≤ 9223372036854775807) (hx : ev σ.ρ x = some vx := by dsimp only [ev, evs, evsG, Qa4, lk, lkE, cond, Nat.beq, evG, stO', V.strip, grd, grdO, nthO, gB, gBV, Nat.pred, wnt, List.toList_toArray, List.cons_append, List.nil_append, List.append_nil]) (hy : ev σ.ρ y = some (.sl q 1) := by dsimp only [ev, evs, evsG, Qa4, lk, lkE, cond, Nat.beq, evG, stO', V.strip, grd, grdO, nthO, gB, gBV, Nat.pred, wnt, List.toList_toArray, List.cons_append, List.nil_append, List.append_nil]) (hq : lkE σ.E q = some (.lit cs T 1) := by dsimp only [ev, evs, evsG, Qa4, lk, lkE, cond, Nat.beq, evG, stO', V.strip, grd, grdO, nthO, gB, gBV, Nat.pred, wnt, List.toList_toArray, List.cons_append, List.nil_append, List.append_nil]) (hr : XRow σ.E α dα xs rs vx := by dsimp only [XRow, Qlr, En.payO, lkE, cond, Nat.beq]; repeat' (first | rfl | exact trivial | apply And.intro)) (ht : ti t = .sl e (Dat.sz α) by' := by rfl) (hz : zr e = some z := by rfl)
    (hzs : z.cells.size = Dat.sz α := by rfl) (hd : Nat.blt d σ.n = true := by rfl) (hf : FkO σ.E y0 s.fk cs := by dsimp only [Qyh, Qlr, En.payO, lkE, cond, Nat.beq, FkO, Str.fk, id]; repeat' (first | assumption | rfl | exact trivial | apply And.intro | omega)) (h1 : oneL cs = true := by rfl) (hn : (rs ++ V.names.namesL cs).Nodup := by dsimp only [V.names.namesL, V.names, List.append_nil, List.nil_append, List.cons_append]; decide) :
    OpS (cx fn Bz S1 w1 hk1 hs1 hd1) σ all ⟨some d, .call { callee := .builtin .append, args := #[x, y], argTypes := #[t, t] }, ty, pos, after, none⟩ (Qdp σ d dα (xs ++ [y0]) (rs ++ V.names.namesL cs)) := OpS.appN y0 hx hr hy hq ht hz hzs hd hg hf h1 hn hb hm
theorem ma {α : Type} {dα : Dat α} [s : @Str α dα] {t e by' : Nat} {x y : Operand} {z : Value} {i j : Int} (m : Nat) (z0 : α) (hx : ev σ.ρ x = some (.v (.int .i64 i)) := by dsimp only [ev, evs, evsG, Qa4, lk, lkE, cond, Nat.beq, evG, stO', V.strip, grd, grdO, nthO, gB, gBV, Nat.pred, wnt, List.toList_toArray, List.cons_append, List.nil_append, List.append_nil]) (hy : ev σ.ρ y = some (.v (.int .i64 j)) := by dsimp only [ev, evs, evsG, Qa4, lk, lkE, cond, Nat.beq, evG, stO', V.strip, grd, grdO, nthO, gB, gBV, Nat.pred, wnt, List.toList_toArray, List.cons_append, List.nil_append, List.append_nil]) (ht : ti t = .sl e (Dat.sz α) by' := by rfl) (hz : zr e = some z := by rfl) (hm : m ≤ 9223372036854775807 := by omega) (hb : by' * m ≤ 281474976710656 := by omega) (hi : i = m := by rfl) (hj : j = m := by rfl) (hzs : z.cells.size = Dat.sz α := by rfl) (ho : ElOk σ.E (Dat.sz α) dα s.fk [z0] (z.cells.toList.map V.v) := by dsimp only [Value.cells, List.toList_toArray, List.map]; dsimp only [ElOk, Qyh, Qlr, En.payO, lkE, cond, Nat.beq, FkO, agC, List.map, Str.fk, id, List.take, List.drop, List.take_succ_cons, List.drop_succ_cons, List.take_zero, List.drop_zero]; repeat' (first | assumption | exact gi _ | exact gs _ | rfl | exact trivial | apply And.intro | omega)) (hd : Nat.blt d σ.n = true := by rfl) :
    OpS (cx fn Bz S1 w1 hk1 hs1 hd1) σ all ⟨some d, .makeSlice t x y, ty, pos, after, none⟩ (Qce σ d dα (List.replicate m z0)) := OpS.make m z0 hx hy hi hj ht hz hzs ho hb hm hd
theorem l0 {t e sz by' : Nat} (ht : ti t = .sl e sz by' := by rfl) (hd : Nat.blt d σ.n = true := by rfl) : OpS (cx fn Bz S1 w1 hk1 hs1 hd1) σ all ⟨some d, .buildSlice t 0 #[], ty, pos, after, none⟩ ⟨σ.n, σ.m + 1, (d, .sl σ.m 0) :: σ.ρ, (σ.m, .lit [] e 0) :: σ.E⟩ := OpS.lit0 ht hd
theorem nx {res : List Re} {k : List It} {rest : List Oper} {x : Operand} {r : Nat} {s : ByteArray} {p : Nat} {σ1 σ2 : St} (h1 : p < s.size → Run (cx fn Bz S1 w1 hk1 hs1 hd1) res σ1 (.ops rest all :: k)) (h2 : ¬ p < s.size → Run (cx fn Bz S1 w1 hk1 hs1 hd1) res σ2 (.ops rest all :: k)) (ha : Yo0 s) (hx : ev σ.ρ x = some (.pt r 0) := by dsimp only [ev, evs, evsG, Qa4, lk, lkE, cond, Nat.beq, evG, stO', V.strip, grd, grdO, nthO, gB, gBV, Nat.pred, wnt, List.toList_toArray, List.cons_append, List.nil_append, List.append_nil]) (he : lkE σ.E r = some (.itr s p) := by dsimp only [ev, evs, evsG, Qa4, lk, lkE, cond, Nat.beq, evG, stO', V.strip, grd, grdO, nthO, gB, gBV, Nat.pred, wnt, List.toList_toArray, List.cons_append, List.nil_append, List.append_nil])
    (e1 : (⟨σ.n, σ.m, (d, .tu [.v (.bool true), .v (.int .i64 p), .v (.int .i32 (Qak s p).toNat)]) :: σ.ρ, putE r (r, .itr s (p + 1)) σ.E⟩ : St) = σ1 := by dsimp only [Qb7, Qif, Qdp, setV, fwE, En.fw, V.fw, fwL, nthG, pickE, Qmn, nthE, Nat.pred, Qcs, Qee, Qed, Qcq, rnR, rnE, V.rn, rnL, En.rn, Qfn, memN, V.names.namesL, V.names, Qdq, Qce, put, putE, setE, Qh5, Qe3, Qf4, opn, nsl, id, cond, Nat.beq, Nat.reduceAdd, Nat.add_zero, Nat.zero_add, List.cons_append, List.nil_append, List.append_nil, List.append, List.length_cons, List.length_nil, Str.fk]) (e2 : (⟨σ.n, σ.m, (d, .tu [.v (.bool false)]) :: σ.ρ, σ.E⟩ : St) = σ2 := by dsimp only [Qb7, Qif, Qdp, setV, fwE, En.fw, V.fw, fwL, nthG, pickE, Qmn, nthE, Nat.pred, Qcs, Qee, Qed, Qcq, rnR, rnE, V.rn, rnL, En.rn, Qfn, memN, V.names.namesL, V.names, Qdq, Qce, put, putE, setE, Qh5, Qe3, Qf4, opn, nsl, id, cond, Nat.beq, Nat.reduceAdd, Nat.add_zero, Nat.zero_add, List.cons_append, List.nil_append, List.append_nil, List.append, List.length_cons, List.length_nil, Str.fk]) (hd : Nat.blt d σ.n = true := by rfl) :
    Run (cx fn Bz S1 w1 hk1 hs1 hd1) res σ (.ops (⟨some d, .next x true, ty, pos, after, none⟩ :: rest) all :: k) := Run.next hx he ha hd (by rw [e1]; exact h1) (by rw [e2]; exact h2)
theorem ts {t u e by' : Nat} {x : Operand} {v : V} (xs : List UInt8) (hx : ev σ.ρ x = some v := by dsimp only [ev, evs, evsG, Qa4, lk, lkE, cond, Nat.beq, evG, stO', V.strip, grd, grdO, nthO, gB, gBV, Nat.pred, wnt, List.toList_toArray, List.cons_append, List.nil_append, List.append_nil]) (hs : SlOk σ.E UInt8 instDatUInt8 xs v := by dsimp only [SlOk, payE, En.pay, lkE, cond, Nat.beq]; first | exact ⟨rfl, rfl⟩ | exact ⟨by exact om, rfl⟩) (ht : ti t = .sl e 1 by' := by rfl) (he : ti e = .int .u8 := by rfl) (hu : ti u = .str := by rfl) (hd : Nat.blt d σ.n = true := by rfl) :
    OpS (cx fn Bz S1 w1 hk1 hs1 hd1) σ all ⟨some d, .convert t u x, ty, pos, after, none⟩ (put d (.v (.string (bstr xs))) σ) := OpS.toStr xs hx hs ht he hu hd
theorem tb {t u e by' : Nat} {x : Operand} {s : ByteArray} (hx : ev σ.ρ x = some (.v (.string s)) := by dsimp only [ev, evs, evsG, Qa4, lk, lkE, cond, Nat.beq, evG, stO', V.strip, grd, grdO, nthO, gB, gBV, Nat.pred, wnt, List.toList_toArray, List.cons_append, List.nil_append, List.append_nil]) (ht : ti u = .sl e 1 by' := by rfl) (he : ti e = .int .u8 := by rfl) (hu : ti t = .str := by rfl) (hd : Nat.blt d σ.n = true := by rfl) (hs : s.size ≤ maxLen) :
    OpS (cx fn Bz S1 w1 hk1 hs1 hd1) σ all ⟨some d, .convert t u x, ty, pos, after, none⟩ (Qed σ d instDatUInt8 (Qax s)) := OpS.toBytes hx hs ht he hu hd
theorem cu {t : Nat} {x : Operand} {lo hi : Option Operand} {s : ByteArray} (l h : Nat) (hx : ev σ.ρ x = some (.v (.string s)) := by dsimp only [ev, evs, evsG, Qa4, lk, lkE, cond, Nat.beq, evG, stO', V.strip, grd, grdO, nthO, gB, gBV, Nat.pred, wnt, List.toList_toArray, List.cons_append, List.nil_append, List.append_nil]) (hl : bnd σ.ρ 0 l lo := by dsimp only [bnd, ev, lk, cond, Nat.beq]; first | rfl | exact ⟨_, rfl, rfl⟩ | exact ⟨_, rfl, by exact om⟩) (hh : bnd σ.ρ s.size h hi := by dsimp only [bnd, ev, lk, cond, Nat.beq]; first | rfl | exact ⟨_, rfl, rfl⟩ | exact ⟨_, rfl, by exact om⟩) (ht : ti t = .str := by rfl) (hd : Nat.blt d σ.n = true := by rfl) (h1 : l ≤ h := by exact om) (h2 : h ≤ s.size := by exact om) :
    OpS (cx fn Bz S1 w1 hk1 hs1 hd1) σ all ⟨some d, .slice t x lo hi none, ty, pos, after, none⟩ (put d (.v (.string (cutS s l h))) σ) := OpS.cut l h hx hl hh h1 h2 ht hd
theorem pa {α : Type} {dα : Dat α} {t e by' r len : Nat} {x : Operand} {lo hi : Option Operand} {xs : List α} (l h : Nat) (hx : ev σ.ρ x = some (.sl r len) := by dsimp only [ev, evs, evsG, Qa4, lk, lkE, cond, Nat.beq, evG, stO', V.strip, grd, grdO, nthO, gB, gBV, Nat.pred, wnt, List.toList_toArray, List.cons_append, List.nil_append, List.append_nil]) (hp : lkE σ.E r = some (.ros α dα xs) := by dsimp only [ev, evs, evsG, Qa4, lk, lkE, cond, Nat.beq, evG, stO', V.strip, grd, grdO, nthO, gB, gBV, Nat.pred, wnt, List.toList_toArray, List.cons_append, List.nil_append, List.append_nil]) (hlen : len = xs.length := by rfl) (hl : bnd σ.ρ 0 l lo := by dsimp only [bnd, ev, lk, cond, Nat.beq]; first | rfl | exact ⟨_, rfl, rfl⟩ | exact ⟨_, rfl, by exact om⟩) (hh : bnd σ.ρ xs.length h hi := by dsimp only [bnd, ev, lk, cond, Nat.beq]; first | rfl | exact ⟨_, rfl, rfl⟩ | exact ⟨_, rfl, by exact om⟩) (ht : ti t = .sl e (Dat.sz α) by' := by rfl) (hd : Nat.blt d σ.n = true := by rfl) (h1 : l ≤ h := by exact om) (h2 : h ≤ xs.length := by exact om) :
    OpS (cx fn Bz S1 w1 hk1 hs1 hd1) σ all ⟨some d, .slice t x lo hi none, ty, pos, after, none⟩ (Qed σ d dα (cutL xs l h)) := OpS.part l h hx hp hlen hl hh h1 h2 ht hd
theorem rm {t t' : Nat} {x y : Operand} {k : IntKind} {i j : Int} (hx : ev σ.ρ x = some (.v (.int k i)) := by dsimp only [ev, evs, evsG, Qa4, lk, lkE, cond, Nat.beq, evG, stO', V.strip, grd, grdO, nthO, gB, gBV, Nat.pred, wnt, List.toList_toArray, List.cons_append, List.nil_append, List.append_nil]) (hy : ev σ.ρ y = some (.v (.int k j)) := by dsimp only [ev, evs, evsG, Qa4, lk, lkE, cond, Nat.beq, evG, stO', V.strip, grd, grdO, nthO, gB, gBV, Nat.pred, wnt, List.toList_toArray, List.cons_append, List.nil_append, List.append_nil]) (hd : Nat.blt d σ.n = true := by rfl) (hj : j ≠ 0 := by decide) :
    OpS (cx fn Bz S1 w1 hk1 hs1 hd1) σ all ⟨some d, .binOp .rem t x y t', ty, pos, after, none⟩ (put d (.v (.int k (i.tmod j))) σ) := OpS.rem hx hy hd hj
theorem oi {α : Type} {dα : Dat α} {t e by' r len : Nat} {x y : Operand} {i : Int} {xs : List α} (k : Nat) (hk : k < xs.length) (hx : ev σ.ρ x = some (.sl r len) := by dsimp only [ev, evs, evsG, Qa4, lk, lkE, cond, Nat.beq, evG, stO', V.strip, grd, grdO, nthO, gB, gBV, Nat.pred, wnt, List.toList_toArray, List.cons_append, List.nil_append, List.append_nil]) (hy : ev σ.ρ y = some (.v (.int .i64 i)) := by dsimp only [ev, evs, evsG, Qa4, lk, lkE, cond, Nat.beq, evG, stO', V.strip, grd, grdO, nthO, gB, gBV, Nat.pred, wnt, List.toList_toArray, List.cons_append, List.nil_append, List.append_nil]) (hp : lkE σ.E r = some (.own α dα xs) := by dsimp only [ev, evs, evsG, Qa4, lk, lkE, cond, Nat.beq, evG, stO', V.strip, grd, grdO, nthO, gB, gBV, Nat.pred, wnt, List.toList_toArray, List.cons_append, List.nil_append, List.append_nil]) (hl : len = xs.length := by first | rfl | simp only [List.length_set]) (hi : i = k := by rfl) (ht : ti t = .sl e (Dat.sz α) by' := by rfl) (hd : Nat.blt d σ.n = true := by rfl) :
    OpS (cx fn Bz S1 w1 hk1 hs1 hd1) σ all ⟨some d, .indexAddr t x y, ty, pos, after, none⟩ (put d (.pt r (k * Dat.sz α)) σ) := OpS.oidx k hk hx hy hp hl hi ht hd
theorem se {α : Type} {dα : Dat α} [s : @Str α dα] {t : Nat} {x v : Operand} {r off : Nat} {xs : List α} {vv : V} {cs : List V} (k : Nat) (y : α) (hg : Dat.good y) (hk : k < xs.length) (hx : ev σ.ρ x = some (.pt r off) := by dsimp only [ev, evs, evsG, Qa4, lk, lkE, cond, Nat.beq, evG, stO', V.strip, grd, grdO, nthO, gB, gBV, Nat.pred, wnt, List.toList_toArray, List.cons_append, List.nil_append, List.append_nil]) (hr : lkE σ.E r = some (.own α dα xs) := by dsimp only [ev, evs, evsG, Qa4, lk, lkE, cond, Nat.beq, evG, stO', V.strip, grd, grdO, nthO, gB, gBV, Nat.pred, wnt, List.toList_toArray, List.cons_append, List.nil_append, List.append_nil]) (hoff : off = k * Dat.sz α := by rfl)
    (hv : ev σ.ρ v = some vv := by dsimp only [ev, evs, evsG, Qa4, lk, lkE, cond, Nat.beq, evG, stO', V.strip, grd, grdO, nthO, gB, gBV, Nat.pred, wnt, List.toList_toArray, List.cons_append, List.nil_append, List.append_nil]) (hvc : vv.cells = some cs := by rfl) (ht : (ti t).cells = some (Dat.sz α) := by rfl) (hf : FkO σ.E y s.fk cs := by dsimp only [Qyh, Qlr, En.payO, lkE, cond, Nat.beq, FkO, Str.fk, id]; repeat' (first | assumption | rfl | exact trivial | apply And.intro | omega)) (h1 : oneL cs = true := by rfl) (hn : (r :: V.names.namesL cs).Nodup := by dsimp only [V.names.namesL, V.names, List.append_nil, List.nil_append, List.cons_append]; decide) :
    OpS (cx fn Bz S1 w1 hk1 hs1 hd1) σ all ⟨none, .store t x v, ty, pos, after, none⟩ (Qcq σ r dα (xs.set k y) (V.names.namesL cs)) := OpS.stE k y hx hoff hr hk hv hvc ht hg hf h1 hn
end
section
variable {fn : Func} {Bz : Bs} {S1 : Nat → Prop} {w1 : World} {hk1 : Keep Bz.S0 Bz.w w1} {hs1 : ∀ b, Bz.S0 b → S1 b} {hd1 : ∀ b, S1 b → b < w1.heap.size} {res : List Re} {σ : St} {k : List It}
theorem rz {w : World} {hG : Gw w} {hk1 : Keep (Old w) w w1} {hs1 : ∀ b, Old w b → S1 b} {rs : List ResultVar} {vs : List V} {res' : List Re} (hq : res = res') (hr : (cx fn (Bs.old w hG) S1 w1 hk1 hs1 hd1).fn.results.toList = rs := by rfl) (hl : Nat.ble rs.length 4 = true := by rfl) (hv : rvsV ti σ.ρ σ.E rs = some vs := by dsimp only [ti_1, ti_2, ti_3, ti_4, ti_5, ti_6, ti_7, ti_8, ti_9, Q90, Q9z, Q9y, Q9x, Q9w, Q9v, Q9u, Q9t, Q9s, Q9r, Q9q, Q9p, Q9o, Q9n, Q9m, Q9l, Q9k, Q9j, Q9i, Q9h, Q9g, Q9f, Q9e, Q9d, Q9c, Q9b, Q9a, Q89, Q88, Q87, Q86, Q85, Q84, Q83, Q82, Q81, Q80, Q8z, Q8y, Q8x, Q8w, Q8v, Q8u, Q8t, Q8s, Q8r, Q8q, Q8p, Q8o, Q8n, Q8m, Q8l, Q8k, Q8j, Q8i, Q8h, Q8g, Q8f, Q8e, Q8d, Q8c, Q8b, Q8a, Q79, Q78, Q77, Q76, Q75, Q74, Q73, Q72, Q71, Q70, Q7z, Q7y, Q7x, Q7w, Q7v, Q7u, Q7t, Q7s, Q7r, Q7q, Q7p, Q7o, Q7n, Q7m, Q7l, Qvn, Qvm, Qvl, Qvk, Qvj, Qvi, Qvh, Qvg, Qvf, Qve, Qvd, Qvc, Qvb, Qva, Qu9, Qu8, Qu7, Qu6, Qu5, Qu4, Qu3, Qu2, Qu1, Qu0, Quz, Quy, Qux, Quw, Quv, Quu, Qut, Qus, Qur, Quq, Qup, Quo, Qun, Qum, Qul, Quk, Quj, Qui, Quh, Qug, Quf, Que, Qud, Quc, Qub, Qua, Qt9, Qt8, Qt7, Qt6, Qt5, Qt4, Qt3, Qt2, Qt1, Qt0, Qtz, Qty, Qtx, Qtw, Qtv, Qtu, Qtt, Qts, Qtr, Qtq, Qtp, Qto, Qtn, Qtm, Qtl, Qtk, Qtj, Qti, Qth, Qtg, Qtf, Qte, Qtd, Qtc, Qtb, Qta, Qs9, Qs8, Qs7, Qs6, Qs5, Qs4, Qs3, Qs2, Qs1, Qs0, Qsz, Qsy, Qsx, Qsw, Qsv, Qsu, Qst, Qss, Qsr, Qsq, Qsp, Qso, Qsn, Qsm, Qsl, Qsk, Qsj, Qsi, Qsh, Qsg, Qsf, Qse, Qsd, Qsc, Qsb, Qsa, Qr9, Qr8, Qr7, Qr6, Qr5, Qr4, Qr3, Qr2, Qr1, Qr0, Qrz, Qry, Qrx, Qrw, Qrv, Qru, Qrt, Qrs, Qrr, Qrq, Qrp, Qro, Qrn, Qrm, Qrl, Qrk, Qrj, Qri, Qrh, Qrg, Qrf, Qre, Qrd, Qrc, Qrb, Qra, Qq9, Qq8, Qq7, Qq6, Qq5, Qq4, Qq3, Qq2, Qq1, Qq0, Qqz, Qqy, Qqx, Qqw, Qqv, Qqu, Qqt, Qqs, Qqr, Qqq, Qqp, Qqo, Qqn, Qqm, Qql, Qqk, Qqj, Qqi, Qqh, Qqg, Qqf, Qqe, Qqd, Qqc, rvsV, rvV, ldV, ldE, ldC, tuAt, lkE, Qa4, lk, cond, Nat.beq, Nat.pred, Nat.ble, List.length, List.length_cons, List.length_nil, List.take, List.drop, List.take_succ_cons, List.drop_zero, List.take_zero, Nat.reduceAdd]) (hn : (Qmq vs res').Nodup := by dsimp only [Qmq, agC, V.names.namesL, List.append_nil, List.nil_append, List.cons_append, List.map]; decide) (ho : Ygg σ.E vs res' := by dsimp only [Ygg, Re.ok, Qyh, Qlr, En.payO, lkE, cond, Nat.beq, FkO, agC, List.map, Str.fk, id]; repeat' (first | assumption | rfl | exact trivial | apply And.intro | omega)) : Run (cx fn (Bs.old w hG) S1 w1 hk1 hs1 hd1) res σ (.code .ret :: k) := Run.ret hr hl hv (by rw [hq]; exact ho) (by rw [hq]; exact hn) (fun _ _ h => h)
end
theorem bt {α : Type} {b : Bool} {x y : α} (h : b = true) : (bif b then x else y) = x := by rw [h]; rfl
theorem bf {α : Type} {b : Bool} {x y : α} (h : b = false) : (bif b then x else y) = y := by rw [h]; rfl
theorem su {f is : List Nat} {σ σ2 : St} (h : Sub f is σ σ2 := by dsimp only [Sub, SubR, SubE, V.ren, renL, En.ren, nthE, nthF, lk, cond, Nat.beq, Nat.pred, List.length, List.length_nil, Nat.reduceAdd, List.getElem?_cons_zero, List.getElem?_cons_succ]; (repeat' apply And.intro) <;> first | rfl | exact trivial | (rw [List.length_set])) : Sub f is σ σ2 := h
theorem gdt {p : Prop} (h : p := by dsimp only [ElOk, Qyh, Qlr, En.payO, lkE, cond, Nat.beq, FkO, agC, List.map, Str.fk, id, List.take, List.drop, List.take_succ_cons, List.drop_succ_cons, List.take_zero, List.drop_zero]; repeat' (first | assumption | rfl | exact trivial | apply And.intro | omega)) : p := h
theorem bifS {b : Bool} {x y : ByteArray} (hx : x.size ≤ maxLen) (hy : y.size ≤ maxLen) : (bif b then x else y).size ≤ maxLen := by cases b <;> assumption
theorem bts (a : Array UInt8) : (⟨a⟩ : ByteArray).size = a.size := rfl
theorem szt {p : Prop} (h : p := by first | assumption | omega | (simp only [ByteArray.size_append, bts, List.size_toArray, List.length_cons, List.length_nil]; omega)) : p := h
theorem en {f : FuncId} {fn : Func} {code : Code} {n : Nat} {args : List Arg} {res : List Re} {σ : St} {H : Prop} (hf : Tryz.prog.funcs[f]? = some fn) (hn : fn.ntmps = n) (h : ∀ w (hG : Gw w), H → Run (cx fn (Bs.old w hG) (Old w) w (Keep.refl _ _) (fun _ h => h) (fun _ h => h)) res σ [.code code]) (hb : fn.body = some code := by rfl) (hl : Nat.ble args.length n = true := by rfl) (hi : ini n args = σ := by dsimp only [ncV, szA, cvV, rnR, rnE, V.rn, rnL, En.rn, Qfn, memN, Qcq, an, stK, cdK, opK, gdK, nvK, Qow, Qnp, blK, bsK, stW, stV, ptK, litD, litC, pkV, wrV, binV, unV, ldV, faW, faV, agO, blV, exV, mfV, lenV, caV, Q6b, Qyz, stO', sdV, Qa4, grdO, gBV, gPw, gPk, gGo, gK, gK1, gK2, tkK, tk1, rvsV, rvV, Nat.reduceAdd, Nat.reduceSub, Nat.reduceMul, advN, adv1, stO, litV, Qv9, Qmp, pv, ev, evs, lk, lkE, setE, putE, put, cond, ldC, ldE, nthN, tuAt, bin, bi, bs, bb, ikq, TI.cells, V.cells, V.one, oneL, Qnt, grd, nthO, beqB, gB, wnt, gOp, adG, adG1, Qys, Qff, evG, V.side, V.strip, Qb7, Qcs, Qdq, Qce, Qh5, Qe3, Qf4, Qhq, Ql5, Qir, Qkk, ini, Qj5, opn, nsl, adD, Qk4, Str.fk, ti_1, ti_2, ti_3, ti_4, ti_5, ti_6, ti_7, ti_8, ti_9, Q90, Q9z, Q9y, Q9x, Q9w, Q9v, Q9u, Q9t, Q9s, Q9r, Q9q, Q9p, Q9o, Q9n, Q9m, Q9l, Q9k, Q9j, Q9i, Q9h, Q9g, Q9f, Q9e, Q9d, Q9c, Q9b, Q9a, Q89, Q88, Q87, Q86, Q85, Q84, Q83, Q82, Q81, Q80, Q8z, Q8y, Q8x, Q8w, Q8v, Q8u, Q8t, Q8s, Q8r, Q8q, Q8p, Q8o, Q8n, Q8m, Q8l, Q8k, Q8j, Q8i, Q8h, Q8g, Q8f, Q8e, Q8d, Q8c, Q8b, Q8a, Q79, Q78, Q77, Q76, Q75, Q74, Q73, Q72, Q71, Q70, Q7z, Q7y, Q7x, Q7w, Q7v, Q7u, Q7t, Q7s, Q7r, Q7q, Q7p, Q7o, Q7n, Q7m, Q7l, Qvn, Qvm, Qvl, Qvk, Qvj, Qvi, Qvh, Qvg, Qvf, Qve, Qvd, Qvc, Qvb, Qva, Qu9, Qu8, Qu7, Qu6, Qu5, Qu4, Qu3, Qu2, Qu1, Qu0, Quz, Quy, Qux, Quw, Quv, Quu, Qut, Qus, Qur, Quq, Qup, Quo, Qun, Qum, Qul, Quk, Quj, Qui, Quh, Qug, Quf, Que, Qud, Quc, Qub, Qua, Qt9, Qt8, Qt7, Qt6, Qt5, Qt4, Qt3, Qt2, Qt1, Qt0, Qtz, Qty, Qtx, Qtw, Qtv, Qtu, Qtt, Qts, Qtr, Qtq, Qtp, Qto, Qtn, Qtm, Qtl, Qtk, Qtj, Qti, Qth, Qtg, Qtf, Qte, Qtd, Qtc, Qtb, Qta, Qs9, Qs8, Qs7, Qs6, Qs5, Qs4, Qs3, Qs2, Qs1, Qs0, Qsz, Qsy, Qsx, Qsw, Qsv, Qsu, Qst, Qss, Qsr, Qsq, Qsp, Qso, Qsn, Qsm, Qsl, Qsk, Qsj, Qsi, Qsh, Qsg, Qsf, Qse, Qsd, Qsc, Qsb, Qsa, Qr9, Qr8, Qr7, Qr6, Qr5, Qr4, Qr3, Qr2, Qr1, Qr0, Qrz, Qry, Qrx, Qrw, Qrv, Qru, Qrt, Qrs, Qrr, Qrq, Qrp, Qro, Qrn, Qrm, Qrl, Qrk, Qrj, Qri, Qrh, Qrg, Qrf, Qre, Qrd, Qrc, Qrb, Qra, Qq9, Qq8, Qq7, Qq6, Qq5, Qq4, Qq3, Qq2, Qq1, Qq0, Qqz, Qqy, Qqx, Qqw, Qqv, Qqu, Qqt, Qqs, Qqr, Qqq, Qqp, Qqo, Qqn, Qqm, Qql, Qqk, Qqj, Qqi, Qqh, Qqg, Qqf, Qqe, Qqd, Qqc, zr_1, zr_2, zr_3, zr_4, zr_5, zr_6, zr_7, zr_8, zr_9, Yfp, Yfo, Yfn, Yfm, Yfl, Yfk, Yfj, Yfi, Yfh, Yfg, Yff, Yfe, Yfd, Yfc, Yfb, Yfa, Ye9, Ye8, Ye7, Ye6, Ye5, Ye4, Ye3, Ye2, Ye1, Ye0, Yez, Yey, Yex, Yew, Yev, Yeu, Yet, Yes, Yer, Yeq, Yep, Yeo, Yen, Yem, Yel, Yek, Yej, Yei, Yeh, Yeg, Yef, Yee, Yed, Yec, Yeb, Yea, Yd9, Yd8, Yd7, Yd6, Yd5, Yd4, Yd3, Yd2, Yd1, Yd0, Ydz, Ydy, Ydx, Ydw, Ydv, Ydu, Ydt, Yds, Ydr, Ydq, Ydp, Ydo, Ydn, Ydm, Ydl, Ydk, Ydj, Ydi, Ydh, Ydg, Ydf, Yde, Ydd, Ydc, Ydb, Yda, Q5b, Q5a, Q49, Q48, Q47, Q46, Q45, Q44, Q43, Q42, Q41, Q40, Q4z, Q4y, Q4x, Q4w, Q4v, Q4u, Q4t, Q4s, Q4r, Q4q, Q4p, Q4o, Q4n, Q4m, Q4l, Q4k, Q4j, Q4i, Q4h, Q4g, Q4f, Q4e, Q4d, Q4c, Q4b, Q4a, Q39, Q38, Q37, Q36, Q35, Q34, Q33, Q32, Q31, Q30, Q3z, Q3y, Q3x, Q3w, Q3v, Q3u, Q3t, Q3s, Q3r, Q3q, Q3p, Q3o, Q3n, Q3m, Q3l, Q3k, Q3j, Q3i, Q3h, Q3g, Q3f, Q3e, Q3d, Q3c, Q3b, Q3a, Q29, Q28, Q27, Q26, Q25, Q24, Q23, Q22, Q21, Q20, Q2z, Q2y, Q2x, Q2w, Q2v, Q2u, Q2t, Q2s, Q2r, Q2q, Q2p, Q2o, Q2n, Q2m, Q2l, Q2k, Q2j, Q2i, Q2h, Q2g, Q2f, Q2e, Q2d, Q2c, Q2b, Q2a, Q19, Q18, Q17, Q16, Q15, Q14, Q13, Q12, Q11, Q10, Q1z, Q1y, Q1x, Q1w, Q1v, Q1u, Q1t, Q1s, Q1r, Q1q, Q1p, Q1o, Q1n, Q1m, Q1l, Q1k, Q1j, Q1i, Q1h, Q1g, Q1f, Q1e, Q1d, Q1c, Q1b, Q1a, Q09, Q08, Q07, Q06, Q05, Q04, Q03, Q02, Q01, Q00, Q0z, Q0y, Q0x, Q0w, Q0v, Q0u, Q0t, Q0s, Q0r, Q0q, Q0p, Q0o, Q0n, Q0m, Q0l, Q0k, Q0j, Q0i, Q0h, Q0g, Q0f, Q0e, Q0d, Q0c, Q0b, Q0a, Qz9, Qz8, Qz7, Qz6, Qz5, Qz4, Nat.blt, Nat.succ_eq_add_one, Nat.ble, Nat.beq, Nat.pred, Nat.add_zero, Nat.zero_add, Nat.add_eq, List.toList_toArray, List.length, List.length_cons, List.length_nil, List.take, List.drop, List.append_nil, List.nil_append, List.cons_append, List.map, List.take_succ_cons, List.take_zero, List.take_nil, List.drop_succ_cons, List.drop_zero, List.drop_nil, List.size_toArray, List.getD, id, Op.operands, Call.operands, Value.cells, Array.size_empty]) (hgd : Qm1 args = H := by dsimp only [Qm1]) : CTs f args res :=
  CT.of Yle hf hb hn hl (by rw [hi, hgd]; exact h)
theorem enM {G0 : Prop} {f : FuncId} {fn : Func} {code : Code} {n mk m0 nn : Nat} {E0 F0 E1 : List (Nat × En)} {args r : List V} (hf : Tryz.prog.funcs[f]? = some fn) (hn : fn.ntmps = n) (h : ∀ S w p hG hb hg, Run (cx fn (Bs.mut S w hG hb hg p mk E1 nn r G0) S w (Keep.refl _ _) (fun _ h => h) hb) [] ⟨n, m0, Qj5 0 args, E0 ++ F0 ++ Qn4 p 0 mk⟩ [.code code]) (hb : fn.body = some code := by rfl) (hl : Nat.ble args.length n = true := by rfl) (hmk : Nat.ble mk m0 = true := by rfl) (hE : Ybk E0 = true := by rfl) : CTMs f mk m0 E0 F0 args E1 nn r G0 :=
  CTM.of Yle hf hb hn hl hmk hE fun S w p hG hb hg => h S w p hG hb hg
theorem rzM {G0 G1 : Prop} {fn : Func} {S : Nat → Prop} {w : World} {hG : ∀ w', Keep S w w' → Gw w'} {hb : ∀ b, S b → b < w.heap.size} {hg : ∀ g ∈ gls, S g} {p : Nat → Loc} {mk nn : Nat} {E1 E1' : List (Nat × En)} {r r' : List V} {S1 : Nat → Prop} {w1 : World} {hk1 : Keep S w w1} {hs1 : ∀ b, S b → S1 b} {hd1 : ∀ b, S1 b → b < w1.heap.size} {res : List Re} {σ : St} {k : List It} {rs : List ResultVar} {vs : List V} (f is : List Nat) (hg1 : G1) (hG1 : G0 = G1) (hE : E1 = E1') (hr' : r = r') (hr : fn.results.toList = rs := by rfl) (hl : Nat.ble rs.length 4 = true := by rfl) (hv : rvsV ti σ.ρ σ.E rs = some vs := by dsimp only [ti_1, ti_2, ti_3, ti_4, ti_5, ti_6, ti_7, ti_8, ti_9, Q90, Q9z, Q9y, Q9x, Q9w, Q9v, Q9u, Q9t, Q9s, Q9r, Q9q, Q9p, Q9o, Q9n, Q9m, Q9l, Q9k, Q9j, Q9i, Q9h, Q9g, Q9f, Q9e, Q9d, Q9c, Q9b, Q9a, Q89, Q88, Q87, Q86, Q85, Q84, Q83, Q82, Q81, Q80, Q8z, Q8y, Q8x, Q8w, Q8v, Q8u, Q8t, Q8s, Q8r, Q8q, Q8p, Q8o, Q8n, Q8m, Q8l, Q8k, Q8j, Q8i, Q8h, Q8g, Q8f, Q8e, Q8d, Q8c, Q8b, Q8a, Q79, Q78, Q77, Q76, Q75, Q74, Q73, Q72, Q71, Q70, Q7z, Q7y, Q7x, Q7w, Q7v, Q7u, Q7t, Q7s, Q7r, Q7q, Q7p, Q7o, Q7n, Q7m, Q7l, Qvn, Qvm, Qvl, Qvk, Qvj, Qvi, Qvh, Qvg, Qvf, Qve, Qvd, Qvc, Qvb, Qva, Qu9, Qu8, Qu7, Qu6, Qu5, Qu4, Qu3, Qu2, Qu1, Qu0, Quz, Quy, Qux, Quw, Quv, Quu, Qut, Qus, Qur, Quq, Qup, Quo, Qun, Qum, Qul, Quk, Quj, Qui, Quh, Qug, Quf, Que, Qud, Quc, Qub, Qua, Qt9, Qt8, Qt7, Qt6, Qt5, Qt4, Qt3, Qt2, Qt1, Qt0, Qtz, Qty, Qtx, Qtw, Qtv, Qtu, Qtt, Qts, Qtr, Qtq, Qtp, Qto, Qtn, Qtm, Qtl, Qtk, Qtj, Qti, Qth, Qtg, Qtf, Qte, Qtd, Qtc, Qtb, Qta, Qs9, Qs8, Qs7, Qs6, Qs5, Qs4, Qs3, Qs2, Qs1, Qs0, Qsz, Qsy, Qsx, Qsw, Qsv, Qsu, Qst, Qss, Qsr, Qsq, Qsp, Qso, Qsn, Qsm, Qsl, Qsk, Qsj, Qsi, Qsh, Qsg, Qsf, Qse, Qsd, Qsc, Qsb, Qsa, Qr9, Qr8, Qr7, Qr6, Qr5, Qr4, Qr3, Qr2, Qr1, Qr0, Qrz, Qry, Qrx, Qrw, Qrv, Qru, Qrt, Qrs, Qrr, Qrq, Qrp, Qro, Qrn, Qrm, Qrl, Qrk, Qrj, Qri, Qrh, Qrg, Qrf, Qre, Qrd, Qrc, Qrb, Qra, Qq9, Qq8, Qq7, Qq6, Qq5, Qq4, Qq3, Qq2, Qq1, Qq0, Qqz, Qqy, Qqx, Qqw, Qqv, Qqu, Qqt, Qqs, Qqr, Qqq, Qqp, Qqo, Qqn, Qqm, Qql, Qqk, Qqj, Qqi, Qqh, Qqg, Qqf, Qqe, Qqd, Qqc, rvsV, rvV, ldV, ldE, ldC, tuAt, lkE, Qa4, lk, cond, Nat.beq, Nat.pred, Nat.ble, List.length, List.length_cons, List.length_nil, List.take, List.drop, List.take_succ_cons, List.drop_zero, List.take_zero, Nat.reduceAdd])
    (hs : SubE f σ.E is (E1' ++ Qn4 p 0 mk) := by first | exact trivial | (dsimp only [SubE, V.ren, renL, En.ren, nthE, nthF, lk, cond, Nat.beq, Nat.pred, List.length, List.length_nil, Nat.reduceAdd, List.getElem?_cons_zero, List.getElem?_cons_succ, Qn4, borL, borN, List.cons_append, List.nil_append, List.append_nil]; (repeat' apply And.intro) <;> first | rfl | exact trivial)) (hlen : Nat.beq f.length (mk + nn) = true := by rfl) (hn : is.Nodup := by decide) (hres : renL f r' = some vs := by rfl) : Run (cx fn (Bs.mut S w hG hb hg p mk E1 nn r G0) S1 w1 hk1 hs1 hd1) res σ (.code .ret :: k) := by
  subst hE
  subst hr'
  exact Run.retM hr hl hv (hG1 ▸ hg1) (fun _ _ _ h => h) hs1 hk1 hb f is hlen hs hn hres
theorem Ymf {i : Nat} (h : i + 2 ≤ 9223372036854775807) : IntKind.i64.wrap ((i : Int) + 2) = ((i + 2 : Nat) : Int) := by
  rw [IntWalk.i64_in _ (by omega)]; omega
theorem Qc9 {i : Nat} (h : i + 1 ≤ 9223372036854775807) : IntKind.i64.wrap ((i : Int) + 1) = ((i + 1 : Nat) : Int) := by
  rw [IntWalk.i64_in _ (by omega)]; omega
end Go.Proofs.YtppialklomgajaaGreatDoor.Fw
namespace Go.Proofs.YtppialklomgajaaGreatDoor.Fw
open Go.RowKit
section
variable {fn : Func} {Bz : Bs} {S1 : Nat → Prop} {w1 : World} {hk1 : Keep Bz.S0 Bz.w w1} {hs1 : ∀ b, Bz.S0 b → S1 b} {hd1 : ∀ b, S1 b → b < w1.heap.size} {res : List Re} {σ σ' : St} {k k' : List It}
theorem adu (n : Nat) (h : Run (cx fn Bz S1 w1 hk1 hs1 hd1) res σ' k') (hs : advN ti zr n (some (σ, k)) = some (σ', k') := by dsimp only [undef, ncV, szA, cvV, rnR, rnE, V.rn, rnL, En.rn, Qfn, memN, Qcq, an, stK, cdK, opK, gdK, nvK, Qow, Qnp, blK, bsK, stW, stV, ptK, litD, litC, pkV, wrV, binV, unV, ldV, faW, faV, agO, blV, exV, mfV, lenV, caV, Q6b, Qyz, stO', sdV, Qa4, grdO, gBV, gPw, gPk, gGo, gK, gK1, gK2, tkK, tk1, rvsV, rvV, Nat.reduceAdd, Nat.reduceSub, Nat.reduceMul, advN, adv1, stO, litV, Qv9, Qmp, pv, ev, evs, lk, lkE, setE, putE, put, cond, ldC, ldE, nthN, tuAt, bin, bi, bs, bb, ikq, TI.cells, V.cells, V.one, oneL, Qnt, grd, nthO, beqB, gB, wnt, gOp, adG, adG1, Qys, Qff, evG, V.side, V.strip, Qb7, Qcs, Qdq, Qce, Qh5, Qe3, Qf4, Qhq, Ql5, Qir, Qkk, ini, Qj5, opn, nsl, adD, Qk4, Str.fk, ti_1, ti_2, ti_3, ti_4, ti_5, ti_6, ti_7, ti_8, ti_9, Q90, Q9z, Q9y, Q9x, Q9w, Q9v, Q9u, Q9t, Q9s, Q9r, Q9q, Q9p, Q9o, Q9n, Q9m, Q9l, Q9k, Q9j, Q9i, Q9h, Q9g, Q9f, Q9e, Q9d, Q9c, Q9b, Q9a, Q89, Q88, Q87, Q86, Q85, Q84, Q83, Q82, Q81, Q80, Q8z, Q8y, Q8x, Q8w, Q8v, Q8u, Q8t, Q8s, Q8r, Q8q, Q8p, Q8o, Q8n, Q8m, Q8l, Q8k, Q8j, Q8i, Q8h, Q8g, Q8f, Q8e, Q8d, Q8c, Q8b, Q8a, Q79, Q78, Q77, Q76, Q75, Q74, Q73, Q72, Q71, Q70, Q7z, Q7y, Q7x, Q7w, Q7v, Q7u, Q7t, Q7s, Q7r, Q7q, Q7p, Q7o, Q7n, Q7m, Q7l, Qvn, Qvm, Qvl, Qvk, Qvj, Qvi, Qvh, Qvg, Qvf, Qve, Qvd, Qvc, Qvb, Qva, Qu9, Qu8, Qu7, Qu6, Qu5, Qu4, Qu3, Qu2, Qu1, Qu0, Quz, Quy, Qux, Quw, Quv, Quu, Qut, Qus, Qur, Quq, Qup, Quo, Qun, Qum, Qul, Quk, Quj, Qui, Quh, Qug, Quf, Que, Qud, Quc, Qub, Qua, Qt9, Qt8, Qt7, Qt6, Qt5, Qt4, Qt3, Qt2, Qt1, Qt0, Qtz, Qty, Qtx, Qtw, Qtv, Qtu, Qtt, Qts, Qtr, Qtq, Qtp, Qto, Qtn, Qtm, Qtl, Qtk, Qtj, Qti, Qth, Qtg, Qtf, Qte, Qtd, Qtc, Qtb, Qta, Qs9, Qs8, Qs7, Qs6, Qs5, Qs4, Qs3, Qs2, Qs1, Qs0, Qsz, Qsy, Qsx, Qsw, Qsv, Qsu, Qst, Qss, Qsr, Qsq, Qsp, Qso, Qsn, Qsm, Qsl, Qsk, Qsj, Qsi, Qsh, Qsg, Qsf, Qse, Qsd, Qsc, Qsb, Qsa, Qr9, Qr8, Qr7, Qr6, Qr5, Qr4, Qr3, Qr2, Qr1, Qr0, Qrz, Qry, Qrx, Qrw, Qrv, Qru, Qrt, Qrs, Qrr, Qrq, Qrp, Qro, Qrn, Qrm, Qrl, Qrk, Qrj, Qri, Qrh, Qrg, Qrf, Qre, Qrd, Qrc, Qrb, Qra, Qq9, Qq8, Qq7, Qq6, Qq5, Qq4, Qq3, Qq2, Qq1, Qq0, Qqz, Qqy, Qqx, Qqw, Qqv, Qqu, Qqt, Qqs, Qqr, Qqq, Qqp, Qqo, Qqn, Qqm, Qql, Qqk, Qqj, Qqi, Qqh, Qqg, Qqf, Qqe, Qqd, Qqc, zr_1, zr_2, zr_3, zr_4, zr_5, zr_6, zr_7, zr_8, zr_9, Yfp, Yfo, Yfn, Yfm, Yfl, Yfk, Yfj, Yfi, Yfh, Yfg, Yff, Yfe, Yfd, Yfc, Yfb, Yfa, Ye9, Ye8, Ye7, Ye6, Ye5, Ye4, Ye3, Ye2, Ye1, Ye0, Yez, Yey, Yex, Yew, Yev, Yeu, Yet, Yes, Yer, Yeq, Yep, Yeo, Yen, Yem, Yel, Yek, Yej, Yei, Yeh, Yeg, Yef, Yee, Yed, Yec, Yeb, Yea, Yd9, Yd8, Yd7, Yd6, Yd5, Yd4, Yd3, Yd2, Yd1, Yd0, Ydz, Ydy, Ydx, Ydw, Ydv, Ydu, Ydt, Yds, Ydr, Ydq, Ydp, Ydo, Ydn, Ydm, Ydl, Ydk, Ydj, Ydi, Ydh, Ydg, Ydf, Yde, Ydd, Ydc, Ydb, Yda, Q5b, Q5a, Q49, Q48, Q47, Q46, Q45, Q44, Q43, Q42, Q41, Q40, Q4z, Q4y, Q4x, Q4w, Q4v, Q4u, Q4t, Q4s, Q4r, Q4q, Q4p, Q4o, Q4n, Q4m, Q4l, Q4k, Q4j, Q4i, Q4h, Q4g, Q4f, Q4e, Q4d, Q4c, Q4b, Q4a, Q39, Q38, Q37, Q36, Q35, Q34, Q33, Q32, Q31, Q30, Q3z, Q3y, Q3x, Q3w, Q3v, Q3u, Q3t, Q3s, Q3r, Q3q, Q3p, Q3o, Q3n, Q3m, Q3l, Q3k, Q3j, Q3i, Q3h, Q3g, Q3f, Q3e, Q3d, Q3c, Q3b, Q3a, Q29, Q28, Q27, Q26, Q25, Q24, Q23, Q22, Q21, Q20, Q2z, Q2y, Q2x, Q2w, Q2v, Q2u, Q2t, Q2s, Q2r, Q2q, Q2p, Q2o, Q2n, Q2m, Q2l, Q2k, Q2j, Q2i, Q2h, Q2g, Q2f, Q2e, Q2d, Q2c, Q2b, Q2a, Q19, Q18, Q17, Q16, Q15, Q14, Q13, Q12, Q11, Q10, Q1z, Q1y, Q1x, Q1w, Q1v, Q1u, Q1t, Q1s, Q1r, Q1q, Q1p, Q1o, Q1n, Q1m, Q1l, Q1k, Q1j, Q1i, Q1h, Q1g, Q1f, Q1e, Q1d, Q1c, Q1b, Q1a, Q09, Q08, Q07, Q06, Q05, Q04, Q03, Q02, Q01, Q00, Q0z, Q0y, Q0x, Q0w, Q0v, Q0u, Q0t, Q0s, Q0r, Q0q, Q0p, Q0o, Q0n, Q0m, Q0l, Q0k, Q0j, Q0i, Q0h, Q0g, Q0f, Q0e, Q0d, Q0c, Q0b, Q0a, Qz9, Qz8, Qz7, Qz6, Qz5, Qz4, Nat.blt, Nat.succ_eq_add_one, Nat.ble, Nat.beq, Nat.pred, Nat.add_zero, Nat.zero_add, Nat.add_eq, List.toList_toArray, List.length, List.length_cons, List.length_nil, List.take, List.drop, List.append_nil, List.nil_append, List.cons_append, List.map, List.take_succ_cons, List.take_zero, List.take_nil, List.drop_succ_cons, List.drop_zero, List.drop_nil, List.size_toArray, List.getD, id, Op.operands, Call.operands, Value.cells, Array.size_empty]) : Run (cx fn Bz S1 w1 hk1 hs1 hd1) res σ k := Run.advN n hs h
end
end Go.Proofs.YtppialklomgajaaGreatDoor.Fw

namespace Go.Proofs.YtppialklomgajaaGreatDoor.Fw
open Go.RowKit
section
variable {α : Type} {x y : α} {u : Value} {w : World}
end
theorem Yl0 {l : List Value} {k sz j : Nat} {u : Value} (hj : j < sz) (i : Nat) : Fw.cut sz (l.set (k * sz + j) u) i = if i = k then (Fw.cut sz l k).set j u else Fw.cut sz l i := by
  unfold Fw.cut
  apply List.ext_getElem?
  intro n
  by_cases e : i = k
  · subst e
    rw [if_pos rfl, List.getElem?_take, List.getElem?_set]
    by_cases hn : n < sz
    · rw [if_pos hn, List.getElem?_drop, List.getElem?_set, List.getElem?_take, if_pos hn, List.getElem?_drop]
      by_cases hjn : j = n
      · subst hjn
        rw [if_pos rfl, if_pos rfl]
        by_cases hl : i * sz + j < l.length
        · rw [if_pos hl, if_pos (by rw [List.length_take, List.length_drop]; omega)]
        · rw [if_neg hl, if_neg (by rw [List.length_take, List.length_drop]; omega)]
      · rw [if_neg (by omega), if_neg hjn]
    · rw [if_neg hn, if_neg (by omega), List.getElem?_take, if_neg hn]
  · rw [if_neg e, List.getElem?_take, List.getElem?_take]
    by_cases hn : n < sz
    · rw [if_pos hn, if_pos hn, List.getElem?_drop, List.getElem?_drop, List.getElem?_set, if_neg]
      intro h
      rcases Nat.lt_or_gt_of_ne e with h1 | h1
      · have := Nat.mul_le_mul_right sz (show i + 1 ≤ k by omega)
        rw [Nat.succ_mul] at this
        omega
      · have := Nat.mul_le_mul_right sz (show k + 1 ≤ i by omega)
        rw [Nat.succ_mul] at this
        omega
    · rw [if_neg hn, if_neg hn]
theorem put1 {arr : Array Value} {off : Nat} {u : Value} (h : off < arr.size) : Qge arr off 1 [u] = (arr.toList.set off u).toArray := by
  unfold Qge
  rw [List.set_eq_take_append_cons_drop, if_pos (by rw [Array.length_toList]; exact h), List.append_assoc]
  rfl
section
variable {c : Cx} {σ : St} {all : Array Oper} {ty : TypeId} {pos : String} {after : Array Edge} {d : Nat}
end
end Go.Proofs.YtppialklomgajaaGreatDoor.Fw

namespace Go.Proofs.YtppialklomgajaaGreatDoor.Fw
open Go.RowKit
theorem Run.midO {c : Cx} {res : List Re} {σ : St} {l : List Oper} {all : Array Oper} {k : List It} (σ2 : St) (h : Run c res σ (.ops l all :: .goal (At c σ2) :: k)) (hk : Run c res σ2 k) : Run c res σ (.ops l all :: k) := by
  intro θ a w hR
  rw [Qms]
  refine Ql9 (Mid := At c σ2) l l.length a w ?_ ?_
  · rw [List.take_length]
    exact h θ a w hR
  · rw [List.drop_length]
    rintro a w ⟨θ', hR'⟩
    exact hk θ' a w hR'
theorem Run.bc {c : Cx} {res : List Re} {σ : St} {k : List It} (t : Nat) {b : Bool} (hl : lk σ.ρ t = some (.v (.bool b))) (ht : b = true → Run c res ⟨σ.n, σ.m, (t, .v (.bool true)) :: σ.ρ, σ.E⟩ k) (hf : b = false → Run c res ⟨σ.n, σ.m, (t, .v (.bool false)) :: σ.ρ, σ.E⟩ k) : Run c res σ k := by
  intro θ a w hR
  have key : ∀ b', b = b' → R c θ ⟨σ.n, σ.m, (t, .v (.bool b')) :: σ.ρ, σ.E⟩ a w := fun b' hb => by
    subst hb
    refine ⟨hR.len, ⟨hR.env.size, hR.env.defers, fun t' v hv => ?_⟩, hR.heap⟩
    simp only [lk] at hv
    by_cases e : Nat.beq t t' = true
    · rw [e] at hv
      obtain rfl := Nat.eq_of_beq_eq_true e
      cases hv
      exact hR.env.get t _ hl
    · rw [Bool.not_eq_true] at e
      rw [e] at hv
      exact hR.env.get t' v hv
  cases hb : b with
  | true => exact ht hb θ a w (key _ hb)
  | false => exact hf hb θ a w (key _ hb)
section
variable {P : Program} {n : Nat} {ρ : List (Nat × Value)} {a : Act} {w : World} {ty : TypeId}
theorem Ypo (hE : Env n ρ a) {x y : Operand} {ts : Array TypeId} {k q : IntKind} {i j : Int} (hx : ev? ρ x = some (.int k i)) (hy : ev? ρ y = some (.int q j)) :
    Qbw P a w (.call { callee := .builtin .min, args := #[x, y], argTypes := ts }) ty (.int k (min i j)) := by
  intro _ _ _ _
  have e : (if j < i then j else i) = min i j := by split <;> omega
  simp [execOp, resolve, hE.eval hx, hE.eval hy, invoke, builtin, Builtin.min_, Builtin.min2, e]
theorem Ypp (hE : Env n ρ a) {x y : Operand} {ts : Array TypeId} {k q : IntKind} {i j : Int} (hx : ev? ρ x = some (.int k i)) (hy : ev? ρ y = some (.int q j)) :
    Qbw P a w (.call { callee := .builtin .max, args := #[x, y], argTypes := ts }) ty (.int k (max i j)) := by
  intro _ _ _ _
  have e : (if i < j then j else i) = max i j := by split <;> omega
  simp [execOp, resolve, hE.eval hx, hE.eval hy, invoke, builtin, Builtin.max_, Builtin.max2, e]
theorem Yme (hE : Env n ρ a) {x y z : Operand} {ts : Array TypeId} {k q q' : IntKind} {i j m : Int} (hx : ev? ρ x = some (.int k i)) (hy : ev? ρ y = some (.int q j)) (hz : ev? ρ z = some (.int q' m)) :
    Qbw P a w (.call { callee := .builtin .min, args := #[x, y, z], argTypes := ts }) ty (.int k (min (min i j) m)) := by
  intro _ _ _ _
  have e : (if j < i then j else i) = min i j := by split <;> omega
  have e' : (if m < min i j then m else min i j) = min (min i j) m := by split <;> omega
  simp [execOp, resolve, hE.eval hx, hE.eval hy, hE.eval hz, invoke, builtin, Builtin.min_, Builtin.min2, e, e']
def ltB (x y : ByteArray) : Bool := Op.bytesLess x.toList y.toList
theorem Qp8 (hE : Env n ρ a) {x y : Operand} {t t' : Nat} {i j : ByteArray} (hx : ev? ρ x = some (.string i)) (hy : ev? ρ y = some (.string j)) :
    Qbw P a w (.binOp .lss t x y t') ty (.bool (ltB i j)) := by
  intro _ _ _ _
  simp only [execOp, hE.eval hx, hE.eval hy, eqGuard_at_string, binOp, Op.stringOp, Qj3, Sem.run_bind, Sem.run_pure, Result.andThen_ok, ltB]
theorem Qp9 (hE : Env n ρ a) {x y : Operand} {t t' : Nat} {i j : ByteArray} (hx : ev? ρ x = some (.string i)) (hy : ev? ρ y = some (.string j)) :
    Qbw P a w (.binOp .leq t x y t') ty (.bool (ltB i j || decide (i = j))) := by
  intro _ _ _ _
  simp only [execOp, hE.eval hx, hE.eval hy, eqGuard_at_string, binOp, Op.stringOp, Qj3, Sem.run_bind, Sem.run_pure, Result.andThen_ok, ltB]
theorem Qqa (hE : Env n ρ a) {x y : Operand} {t t' : Nat} {i j : ByteArray} (hx : ev? ρ x = some (.string i)) (hy : ev? ρ y = some (.string j)) :
    Qbw P a w (.binOp .gtr t x y t') ty (.bool (!(ltB i j || decide (i = j)))) := by
  intro _ _ _ _
  simp only [execOp, hE.eval hx, hE.eval hy, eqGuard_at_string, binOp, Op.stringOp, Qj3, Sem.run_bind, Sem.run_pure, Result.andThen_ok, ltB]
theorem Qqb (hE : Env n ρ a) {x y : Operand} {t t' : Nat} {i j : ByteArray} (hx : ev? ρ x = some (.string i)) (hy : ev? ρ y = some (.string j)) :
    Qbw P a w (.binOp .geq t x y t') ty (.bool (!(ltB i j))) := by
  intro _ _ _ _
  simp only [execOp, hE.eval hx, hE.eval hy, eqGuard_at_string, binOp, Op.stringOp, Qj3, Sem.run_bind, Sem.run_pure, Result.andThen_ok, ltB]
end
section
variable {c : Cx} {σ : St} {all : Array Oper} {ty : TypeId} {pos : String} {after : Array Edge} {d : Nat}
theorem OpS.min2 {x y : Operand} {ts : Array TypeId} {k q : IntKind} {i j : Int} (hx : ev σ.ρ x = some (.v (.int k i))) (hy : ev σ.ρ y = some (.v (.int q j))) (hd : Nat.blt d σ.n = true) :
    OpS c σ all ⟨some d, .call { callee := .builtin .min, args := #[x, y], argTypes := ts }, ty, pos, after, none⟩ (put d (.v (.int k (min i j))) σ) :=
  OpS.of fun θ a w h K Q hK => by
    unfold Oper.wp
    rw [Ypo (P := c.P) (w := w) (ty := ty) h.env.env (h.env.isv hx) (h.env.isv hy)]
    exact hK [] _ _ (h.put hd rfl).app0
theorem OpS.max2 {x y : Operand} {ts : Array TypeId} {k q : IntKind} {i j : Int} (hx : ev σ.ρ x = some (.v (.int k i))) (hy : ev σ.ρ y = some (.v (.int q j))) (hd : Nat.blt d σ.n = true) :
    OpS c σ all ⟨some d, .call { callee := .builtin .max, args := #[x, y], argTypes := ts }, ty, pos, after, none⟩ (put d (.v (.int k (max i j))) σ) :=
  OpS.of fun θ a w h K Q hK => by
    unfold Oper.wp
    rw [Ypp (P := c.P) (w := w) (ty := ty) h.env.env (h.env.isv hx) (h.env.isv hy)]
    exact hK [] _ _ (h.put hd rfl).app0
theorem OpS.min3 {x y z : Operand} {ts : Array TypeId} {k q q' : IntKind} {i j m : Int} (hx : ev σ.ρ x = some (.v (.int k i))) (hy : ev σ.ρ y = some (.v (.int q j))) (hz : ev σ.ρ z = some (.v (.int q' m))) (hd : Nat.blt d σ.n = true) :
    OpS c σ all ⟨some d, .call { callee := .builtin .min, args := #[x, y, z], argTypes := ts }, ty, pos, after, none⟩ (put d (.v (.int k (min (min i j) m))) σ) :=
  OpS.of fun θ a w h K Q hK => by
    unfold Oper.wp
    rw [Yme (P := c.P) (w := w) (ty := ty) h.env.env (h.env.isv hx) (h.env.isv hy) (h.env.isv hz)]
    exact hK [] _ _ (h.put hd rfl).app0
def cmpB : BinOp → ByteArray → ByteArray → Option Bool
  | .lss, i, j => some (ltB i j)
  | .leq, i, j => some (ltB i j || decide (i = j))
  | .gtr, i, j => some (!(ltB i j || decide (i = j)))
  | .geq, i, j => some (!(ltB i j))
  | _, _, _ => none
theorem OpS.scmp {o : BinOp} {t t' : Nat} {x y : Operand} {i j : ByteArray} {b : Bool} (hx : ev σ.ρ x = some (.v (.string i))) (hy : ev σ.ρ y = some (.v (.string j))) (hc : cmpB o i j = some b) (hd : Nat.blt d σ.n = true) :
    OpS c σ all ⟨some d, .binOp o t x y t', ty, pos, after, none⟩ (put d (.v (.bool b)) σ) :=
  OpS.of fun θ a w h K Q hK => by
    have hyy : Qbw c.P a w (.binOp o t x y t') ty (.bool b) := by
      cases o <;> simp only [cmpB] at hc <;> cases hc
      · exact Qp8 h.env.env (h.env.isv hx) (h.env.isv hy)
      · exact Qp9 h.env.env (h.env.isv hx) (h.env.isv hy)
      · exact Qqa h.env.env (h.env.isv hx) (h.env.isv hy)
      · exact Qqb h.env.env (h.env.isv hx) (h.env.isv hy)
    unfold Oper.wp
    rw [hyy]
    exact hK [] _ _ (h.put hd rfl).app0
end
end Go.Proofs.YtppialklomgajaaGreatDoor.Fw

namespace Go.Proofs.YtppialklomgajaaGreatDoor.Fw
open Go.RowKit
section
variable {fn : Func} {Bz : Bs} {S1 : Nat → Prop} {w1 : World} {hk1 : Keep Bz.S0 Bz.w w1} {hs1 : ∀ b, Bz.S0 b → S1 b} {hd1 : ∀ b, S1 b → b < w1.heap.size} {res : List Re} {k : List It} {σ σ' : St} {all : Array Oper} {ty : TypeId} {pos : String} {after : Array Edge} {d : Nat}
theorem bN {x y : Operand} {ts : Array TypeId} {k q : IntKind} {i j : Int} (hx : ev σ.ρ x = some (.v (.int k i)) := by dsimp only [ev, evs, evsG, Qa4, lk, lkE, cond, Nat.beq, evG, stO', V.strip, grd, grdO, nthO, gB, gBV, Nat.pred, wnt, List.toList_toArray, List.cons_append, List.nil_append, List.append_nil]) (hy : ev σ.ρ y = some (.v (.int q j)) := by dsimp only [ev, evs, evsG, Qa4, lk, lkE, cond, Nat.beq, evG, stO', V.strip, grd, grdO, nthO, gB, gBV, Nat.pred, wnt, List.toList_toArray, List.cons_append, List.nil_append, List.append_nil]) (hd : Nat.blt d σ.n = true := by rfl) :
    OpS (cx fn Bz S1 w1 hk1 hs1 hd1) σ all ⟨some d, .call { callee := .builtin .min, args := #[x, y], argTypes := ts }, ty, pos, after, none⟩ (put d (.v (.int k (min i j))) σ) := OpS.min2 hx hy hd
theorem bX {x y : Operand} {ts : Array TypeId} {k q : IntKind} {i j : Int} (hx : ev σ.ρ x = some (.v (.int k i)) := by dsimp only [ev, evs, evsG, Qa4, lk, lkE, cond, Nat.beq, evG, stO', V.strip, grd, grdO, nthO, gB, gBV, Nat.pred, wnt, List.toList_toArray, List.cons_append, List.nil_append, List.append_nil]) (hy : ev σ.ρ y = some (.v (.int q j)) := by dsimp only [ev, evs, evsG, Qa4, lk, lkE, cond, Nat.beq, evG, stO', V.strip, grd, grdO, nthO, gB, gBV, Nat.pred, wnt, List.toList_toArray, List.cons_append, List.nil_append, List.append_nil]) (hd : Nat.blt d σ.n = true := by rfl) :
    OpS (cx fn Bz S1 w1 hk1 hs1 hd1) σ all ⟨some d, .call { callee := .builtin .max, args := #[x, y], argTypes := ts }, ty, pos, after, none⟩ (put d (.v (.int k (max i j))) σ) := OpS.max2 hx hy hd
theorem b3 {x y z : Operand} {ts : Array TypeId} {k q q' : IntKind} {i j m : Int} (hx : ev σ.ρ x = some (.v (.int k i)) := by dsimp only [ev, evs, evsG, Qa4, lk, lkE, cond, Nat.beq, evG, stO', V.strip, grd, grdO, nthO, gB, gBV, Nat.pred, wnt, List.toList_toArray, List.cons_append, List.nil_append, List.append_nil]) (hy : ev σ.ρ y = some (.v (.int q j)) := by dsimp only [ev, evs, evsG, Qa4, lk, lkE, cond, Nat.beq, evG, stO', V.strip, grd, grdO, nthO, gB, gBV, Nat.pred, wnt, List.toList_toArray, List.cons_append, List.nil_append, List.append_nil]) (hz : ev σ.ρ z = some (.v (.int q' m)) := by dsimp only [ev, evs, evsG, Qa4, lk, lkE, cond, Nat.beq, evG, stO', V.strip, grd, grdO, nthO, gB, gBV, Nat.pred, wnt, List.toList_toArray, List.cons_append, List.nil_append, List.append_nil]) (hd : Nat.blt d σ.n = true := by rfl) :
    OpS (cx fn Bz S1 w1 hk1 hs1 hd1) σ all ⟨some d, .call { callee := .builtin .min, args := #[x, y, z], argTypes := ts }, ty, pos, after, none⟩ (put d (.v (.int k (min (min i j) m))) σ) := OpS.min3 hx hy hz hd
theorem sQ {o : BinOp} {t t' : Nat} {x y : Operand} {i j : ByteArray} {b : Bool} (hx : ev σ.ρ x = some (.v (.string i)) := by dsimp only [ev, evs, evsG, Qa4, lk, lkE, cond, Nat.beq, evG, stO', V.strip, grd, grdO, nthO, gB, gBV, Nat.pred, wnt, List.toList_toArray, List.cons_append, List.nil_append, List.append_nil]) (hy : ev σ.ρ y = some (.v (.string j)) := by dsimp only [ev, evs, evsG, Qa4, lk, lkE, cond, Nat.beq, evG, stO', V.strip, grd, grdO, nthO, gB, gBV, Nat.pred, wnt, List.toList_toArray, List.cons_append, List.nil_append, List.append_nil]) (hc : cmpB o i j = some b := by rfl) (hd : Nat.blt d σ.n = true := by rfl) :
    OpS (cx fn Bz S1 w1 hk1 hs1 hd1) σ all ⟨some d, .binOp o t x y t', ty, pos, after, none⟩ (put d (.v (.bool b)) σ) := OpS.scmp hx hy hc hd
theorem bc (t : Nat) {b : Bool} (ht : b = true → Run (cx fn Bz S1 w1 hk1 hs1 hd1) res ⟨σ.n, σ.m, (t, .v (.bool true)) :: σ.ρ, σ.E⟩ k) (hf : b = false → Run (cx fn Bz S1 w1 hk1 hs1 hd1) res ⟨σ.n, σ.m, (t, .v (.bool false)) :: σ.ρ, σ.E⟩ k) (hl : lk σ.ρ t = some (.v (.bool b)) := by dsimp only [ev, evs, evsG, Qa4, lk, lkE, cond, Nat.beq, evG, stO', V.strip, grd, grdO, nthO, gB, gBV, Nat.pred, wnt, List.toList_toArray, List.cons_append, List.nil_append, List.append_nil]) : Run (cx fn Bz S1 w1 hk1 hs1 hd1) res σ k := Run.bc t hl ht hf
end
end Go.Proofs.YtppialklomgajaaGreatDoor.Fw

namespace Go.Proofs.YtppialklomgajaaGreatDoor.Fw
open Go.RowKit
theorem Yc5 {f : List Nat} {E : List (Nat × En)} : ∀ {js : List Nat} {E2 : List (Nat × En)}, SubE f E js E2 → ∀ e ∈ E2, ∃ q e', f[e.1]? = some q ∧ e.2.ren f = some e' ∧ (q, e') ∈ E
  | [], [], _, _, h => by cases h
  | [], _ :: _, h, _, _ => h.elim
  | _ :: _, [], h, _, _ => h.elim
  | i :: is, (r, e) :: E2, h, x, hx => by
    obtain ⟨h1, h2⟩ := h
    rcases List.mem_cons.1 hx with rfl | hx
    · split at h1
      · rename_i q e' hq he
        exact ⟨q, e', Qw6 hq, he, List.mem_of_getElem? (Qi5 h1)⟩
      · exact h1.elim
    · exact Yc5 h2 x hx
theorem renθ_pre {f : List Nat} {m0 : Nat} {θ0 η : List Loc} (hl : θ0.length = m0) (h0 : f.take m0 = List.range m0) : renθ f (θ0 ++ η) = θ0 ++ renθ (f.drop m0) (θ0 ++ η) := by
  conv => lhs; rw [← List.take_append_drop m0 f]
  unfold renθ
  rw [List.map_append, h0]
  congr 1
  subst hl
  apply List.ext_getElem?
  intro i
  rw [List.getElem?_map]
  rcases Nat.lt_or_ge i θ0.length with h | h
  · rw [List.getElem?_range h, Option.map_some, List.getD_eq_getElem?_getD, List.getElem?_append_left h, List.getElem?_eq_getElem h]
    rfl
  · rw [List.getElem?_eq_none (by rw [List.length_range]; exact h), List.getElem?_eq_none h]
    rfl
theorem RunD.sub {c : Cx} {K : Act → World → Prop} {E0 : List (Nat × En)} {m0 : Nat} {ops : Array Oper} {n : Nat} {M : List (Nat × En)} {listed : Array Bool} {σ σ2 : St} (f is js : List Nat) (hs : Sub f is σ σ2) (hn : is.Nodup) (h0 : f.take m0 = List.range m0) (hM : SubE f M js M) (h : RunD c K E0 m0 ops n M listed σ2) : RunD c K E0 m0 ops n M listed σ := by
  intro θ0 η a w hl hR hS hB0 hF
  have hR2 := hR.sub hs hn
  rw [renθ_pre hl h0] at hR2
  refine h θ0 _ a w hl hR2 hS hB0 fun e he => ⟨?_, (hF e he).2⟩
  obtain ⟨q, e', hq, hr, hmem⟩ := Yc5 hM e he
  have := En.ren_ok hq hr (hF _ hmem).1
  rw [renθ_pre hl h0] at this
  exact this
def Q67 (c : Cx) (K : Act → World → Prop) (E0 : List (Nat × En)) (m0 : Nat) (ops : Array Oper) (n : Nat) (M : List (Nat × En)) (listed : Array Bool) (σ : St) : List Nat → Prop
  | [] => True
  | i :: is => Qwj c K E0 m0 ops n M listed σ i ∧ Q67 c K E0 m0 ops n M listed σ is
theorem Q67.all {c : Cx} {K : Act → World → Prop} {E0 : List (Nat × En)} {m0 : Nat} {ops : Array Oper} {n : Nat} {M : List (Nat × En)} {listed : Array Bool} {σ : St} : ∀ {L : List Nat}, Q67 c K E0 m0 ops n M listed σ L → ∀ i ∈ L, Qwj c K E0 m0 ops n M listed σ i
  | [], _, _, h => by cases h
  | j :: L, h, i, hi => by
    rcases List.mem_cons.1 hi with rfl | hi
    · exact h.1
    · exact Q67.all h.2 i hi
end Go.Proofs.YtppialklomgajaaGreatDoor.Fw

namespace Go.Proofs.YtppialklomgajaaGreatDoor.Fw
open Go.RowKit
section
variable {fn : Func} {Bz : Bs} {S1 : Nat → Prop} {w1 : World} {hk1 : Keep Bz.S0 Bz.w w1} {hs1 : ∀ b, Bz.S0 b → S1 b} {hd1 : ∀ b, S1 b → b < w1.heap.size} {K : Act → World → Prop} {E0 : List (Nat × En)} {m0 : Nat} {ops : Array Oper} {n : Nat} {M : List (Nat × En)} {listed : Array Bool} {σ σ' : St}
theorem dcut {P : Prop} (nn n2 : Nat) (is2 : List Nat) (σ2 : St) (h : P → RunD (cx fn Bz S1 w1 hk1 hs1 hd1) K E0 m0 ops n2 M (Qk4 (Array.replicate nn false) is2) σ2) (hk : (P → RunD (cx fn Bz S1 w1 hk1 hs1 hd1) K E0 m0 ops n2 M (Qk4 (Array.replicate nn false) is2) σ2) → RunD (cx fn Bz S1 w1 hk1 hs1 hd1) K E0 m0 ops n M listed σ) : RunD (cx fn Bz S1 w1 hk1 hs1 hd1) K E0 m0 ops n M listed σ := hk h
theorem dAt {listed2 : Array Bool} {σ2 : St} (f is js : List Nat) (r : RunD (cx fn Bz S1 w1 hk1 hs1 hd1) K E0 m0 ops n M listed2 σ2) (hs : Sub f is σ σ2) (hl : listed = listed2 := by kernel_rfl) (hn : is.Nodup := by decide) (h0 : f.take m0 = List.range m0 := by rfl) (hM : SubE f M js M := by dsimp only [SubE, V.ren, renL, En.ren, nthE, nthF, lk, cond, Nat.beq, Nat.pred]; (repeat' apply And.intro) <;> first | rfl | exact trivial) : RunD (cx fn Bz S1 w1 hk1 hs1 hd1) K E0 m0 ops n M listed σ := by
  subst hl
  exact RunD.sub f is js hs hn h0 hM r
theorem oL (L : List Nat) {n' : Nat} (h : Q67 (cx fn Bz S1 w1 hk1 hs1 hd1) K E0 m0 ops n M listed σ L) (hn : n' = n + 1 := by rfl) (hr : Region.ready .any ops listed = L := by kernel_rfl) (hL : L ≠ [] := by simp) : RunD (cx fn Bz S1 w1 hk1 hs1 hd1) K E0 m0 ops n' M listed σ := by
  subst hn
  exact RunD.alts hr hL (Q67.all h)
theorem d2 {i : Nat} {is : List Nat} (h1 : Qwj (cx fn Bz S1 w1 hk1 hs1 hd1) K E0 m0 ops n M listed σ i) (h2 : Q67 (cx fn Bz S1 w1 hk1 hs1 hd1) K E0 m0 ops n M listed σ is) : Q67 (cx fn Bz S1 w1 hk1 hs1 hd1) K E0 m0 ops n M listed σ (i :: is) := ⟨h1, h2⟩
theorem d0 : Q67 (cx fn Bz S1 w1 hk1 hs1 hd1) K E0 m0 ops n M listed σ [] := trivial
end
section
variable {fn : Func} {Bz : Bs} {S1 : Nat → Prop} {w1 : World} {hk1 : Keep Bz.S0 Bz.w w1} {hs1 : ∀ b, Bz.S0 b → S1 b} {hd1 : ∀ b, S1 b → b < w1.heap.size} {σ σ' : St} {all : Array Oper} {ty : TypeId} {pos : String} {after : Array Edge} {d : Nat}
end
theorem gnil {α : Type} {d : Dat α} : (@instDatList α d).good [] := ⟨Nat.zero_le _, fun _ h => by cases h⟩
theorem gdz {p : Prop} (h : p := by dsimp only [Value.cells, List.toList_toArray, List.map]; dsimp only [ElOk, Qyh, Qlr, En.payO, lkE, cond, Nat.beq, FkO, agC, List.map, Str.fk, id, List.take, List.drop, List.take_succ_cons, List.drop_succ_cons, List.take_zero, List.drop_zero]; repeat' (first | assumption | exact gi _ | exact gs _ | exact gnil | rfl | exact trivial | apply And.intro | omega)) : p := h
end Go.Proofs.YtppialklomgajaaGreatDoor.Fw

namespace Go.Proofs.YtppialklomgajaaGreatDoor.Fw
open Go.RowKit
section
variable {c : Cx} {σ : St} {all : Array Oper} {ty : TypeId} {pos : String} {after : Array Edge} {d : Nat}
theorem OpS.scmpG {op : BinOp} {t t' : Nat} {x y : Operand} {i1 i2 : ByteArray} {b : Bool} {j : Nat} {want B : Bool} (hB : gB σ.ρ all j want = some B) (hx : evG σ.ρ x = some (.v (.string i1))) (hy : evG σ.ρ y = some (.v (.string i2))) (hside : B = true → Qff B True σ.ρ [x, y]) (hc : cmpB op i1 i2 = some b) (hd : Nat.blt d σ.n = true) :
    OpS c σ all ⟨some d, .binOp op t x y t', ty, pos, after, some (j, want)⟩ (put d (.gd B (.v (.bool b))) σ) :=
  OpS.valG hB (fun hb θ a w h => by
    have h1 := Qgv h.env hb (hside hb) x (by simp) _ hx
    have h2 := Qgv h.env hb (hside hb) y (by simp) _ hy
    have e1 : ev? (selfρ a) x = some (.string i1) := by rw [h1.2, ← h1.1]; rfl
    have e2 : ev? (selfρ a) y = some (.string i2) := by rw [h2.2, ← h2.1]; rfl
    cases op <;> simp only [cmpB] at hc <;> cases hc
    · exact Qp8 h.env.env e1 e2
    · exact Qp9 h.env.env e1 e2
    · exact Qqa h.env.env e1 e2
    · exact Qqb h.env.env e1 e2) hd
end
end Go.Proofs.YtppialklomgajaaGreatDoor.Fw

namespace Go.Proofs.YtppialklomgajaaGreatDoor.Fw
open Go.RowKit
section
variable {P : Program} {α : Type} [Dat α] {w : World}
theorem Yit {t ts e ty sz bytes : Nat} {z : Value} (ht : Qdj P t e sz bytes = true) (hsz : sz = Dat.sz α) (hz : ∀ w, (zeroValue e).run P w = .ok z w) (hzs : z.cells.size = sz) {v : Value} {str : ByteArray} {xs ys : List α} {F : List Nat} (hv : SlO w v xs F) (hF : F.Nodup)
    {news : List Value} {Gs : List (List Nat)} (hts : P.underlying ts = some .string) (hstr : str.size = ys.length) (hfirst : ∀ w, (Builtin.firstCells (Dat.sz α) ys.length (.string str)).run P w = .ok news.toArray w) (hl : news.length = ys.length * Dat.sz α) (h1 : ∀ u ∈ news, u.oneCell' = true) (hy : Qhn w news ys Gs) (hG : Gs.flatten.Nodup) (hdis : ∀ b ∈ Gs.flatten, b ∉ F)
    (hb : (xs.length + ys.length) * bytes ≤ 140737488355328) (hm : xs.length + ys.length ≤ maxLen) :
    ∃ v' w' F', (Builtin.append_ #[t, ts] ty #[v, .string str]).run P w = .ok v' w' ∧ SlO w' v' (xs ++ ys) F' ∧ F'.Nodup ∧ w'.os = w.os ∧ w'.tape = w.tape ∧ w'.output = w.output ∧ w.heap.size ≤ w'.heap.size ∧
      (∀ b, b < w.heap.size → b ∉ F → w'.heap[b]? = w.heap[b]?) ∧ (∀ b ∈ F', b ∈ F ∨ b ∈ Gs.flatten ∨ w.heap.size ≤ b) := by
  obtain ⟨hu, i, hi, his, hib⟩ := Qbb ht
  have hzi : i.zero = some z := by
    have := hz w
    simp only [zeroValue, Sem.run_bind, typeInfo, run_program, hi, Sem.run_pure, Result.andThen_ok] at this
    cases hzz : i.zero with
    | none => rw [hzz] at this; simp at this
    | some z' => rw [hzz] at this; simp at this; rw [this]
  subst his
  have hszp : 0 < Dat.sz α := Dat.sz_pos α
  have grow : ∀ (old : Nat) (olds : List Value) (Fs : List (List Nat)), old < xs.length + ys.length → olds.length = xs.length * Dat.sz α → Qhn w olds xs Fs → (Fs.flatten ++ Gs.flatten).Nodup → (∀ b ∈ Fs.flatten, b ∈ F) →
      ∀ v' w', v' = .slice (some ⟨w.heap.size, 0, none⟩) (xs.length + ys.length) (grownCap w (xs.length + ys.length) old e) →
        w' = w.drew.alloc (.cells (olds.toArray ++ news.toArray ++ Builtin.zeroCells z.cells (grownCap w (xs.length + ys.length) old e - (xs.length + ys.length))) e) →
        ∃ F', SlO w' v' (xs ++ ys) F' ∧ F'.Nodup ∧ w'.os = w.os ∧ w'.tape = w.tape ∧ w'.output = w.output ∧ w.heap.size ≤ w'.heap.size ∧
          (∀ b, b < w.heap.size → b ∉ F → w'.heap[b]? = w.heap[b]?) ∧ (∀ b ∈ F', b ∈ F ∨ b ∈ Gs.flatten ∨ w.heap.size ≤ b) := by
    intro old olds Fs ho hlo hels hnd hsub v' w' ev ew
    subst ev
    subst ew
    have hge := grownCap_ge w (xs.length + ys.length) old e
    have hcm := grownCap_le_maxLen w (xs.length + ys.length) old e hm
    have hsame : ∀ (b : Nat), b < w.heap.size → (w.drew.alloc (.cells (olds.toArray ++ news.toArray ++ Builtin.zeroCells z.cells (grownCap w (xs.length + ys.length) old e - (xs.length + ys.length))) e)).heap[b]? = w.heap[b]? := fun b hb => heap_alloc_old w.drew _ hb
    have hltF := hels.lt
    have hltG := hy.lt
    refine ⟨w.heap.size :: (Fs ++ Gs).flatten, ?_, ?_, rfl, rfl, rfl, by simp, fun b hb _ => hsame b hb, ?_⟩
    · refine Qfy.2 (.inr ⟨w.heap.size, _, _, e, Fs ++ Gs, by rw [List.length_append], heap_alloc_new w.drew _, by rw [List.length_append]; exact hge, hcm, ?_, rfl, ?_⟩)
      · simp only [Array.size_append, List.size_toArray, size_zeroCells, hzs, hlo, hl, hsz]
        rw [← Nat.add_mul, ← Nat.add_mul]
        exact Nat.mul_le_mul_right _ (by omega)
      · refine (hels.same fun b hb => hsame b (hltF b hb)).app (hy.same fun b hb => hsame b (hltG b hb)) (l' := news) ?_ (by omega)
        simp only [Array.toList_append, List.append_assoc]
        rw [← List.append_assoc, List.take_append_of_le_length (by rw [List.length_append, hlo, hl, Nat.add_mul]; exact Nat.le_refl _), List.take_of_length_le (by rw [List.length_append, hlo, hl, Nat.add_mul]; exact Nat.le_refl _),
          List.take_of_length_le (by rw [hlo]; exact Nat.le_refl _)]
    · rw [List.flatten_append]
      refine List.nodup_cons.2 ⟨fun hb => ?_, hnd⟩
      rcases List.mem_append.1 hb with hb | hb
      · exact absurd (hltF _ hb) (by omega)
      · exact absurd (hltG _ hb) (by omega)
    · intro b hb
      rw [List.flatten_append] at hb
      rcases List.mem_cons.1 hb with rfl | hb
      · exact .inr (.inr (Nat.le_refl _))
      · rcases List.mem_append.1 hb with hb | hb
        · exact .inl (hsub b hb)
        · exact .inr (.inl hb)
  rcases Qfy.1 hv with ⟨rfl, rfl, rfl⟩ | ⟨g, cap, arr, T, Fs, rfl, hg, hlc, hcm, hsize, rfl, hels⟩
  · by_cases h0 : ys.length = 0
    · have : ys = [] := List.eq_nil_of_length_eq_zero h0
      subst this
      refine ⟨.slice none 0 0, w, [], ?_, Qfy.2 (.inl ⟨rfl, rfl, rfl⟩), by simp, rfl, rfl, rfl, Nat.le_refl _, fun _ _ _ => rfl, fun b hb => by cases hb⟩
      simp only [List.length_nil] at hfirst ⊢
      simp [Builtin.append_, run_underlying hu, run_underlying hts, hstr, sizeOf, typeInfo, hi, Builtin.lenOf, hsz, hfirst]
    · obtain ⟨F', h⟩ := grow 0 [] [] (by simp; omega) (by simp) Qhn.nil (by simpa using hG) (by simp) _ _ rfl rfl
      refine ⟨_, _, F', ?_, h⟩
      have h63' : ¬ (9223372036854775807 < (ys.length : Int)) := by simp only [List.length_nil, Nat.zero_add, maxLen] at hm; omega
      have h48' : ¬ (281474976710656 < Builtin.nextslicecap ys.length 0 * i.bytes) := by rw [nextslicecap_zero (by omega), hib]; simp only [List.length_nil, Nat.zero_add] at hb; omega
      simp only [List.length_nil, Nat.zero_add, Array.empty_append, List.toArray]
      simp [Builtin.append_, run_underlying hu, run_underlying hts, hstr, sizeOf, typeInfo, hi, hzi, Builtin.lenOf, hsz, hfirst, h0, h63', h48', zeroValue, grownCap, run_firstCells_none, newRow, Question.forced]
  · have hal : arr.toList.length = arr.size := Array.length_toList
    by_cases hroom : xs.length + ys.length ≤ cap
    · have hcut : (xs.length + ys.length) * Dat.sz α ≤ arr.size := Nat.le_trans (Nat.mul_le_mul_right _ hroom) hsize
      rw [Nat.add_mul] at hcut
      have hst := run_storeCells_at P g (xs.length * Dat.sz α) T news 0 arr w hg (by omega) h1
      simp only [Nat.add_zero] at hst
      have hother : ∀ b, b ≠ g → (w.setRow g (arr.toList.take (xs.length * Dat.sz α) ++ news ++ arr.toList.drop (xs.length * Dat.sz α + news.length)).toArray).heap[b]? = w.heap[b]? := fun b hb => setRow_other w g b _ hb
      have hnd := hF
      rw [List.nodup_cons] at hnd
      refine ⟨_, _, g :: (Fs ++ Gs).flatten, ?_, Qfy.2 (.inr ⟨g, cap, _, T, Fs ++ Gs, rfl, setRow_heap w g arr _ T _ hg, by rw [List.length_append]; exact hroom, hcm, ?_, rfl, ?_⟩), ?_, rfl, rfl, rfl, by simp, fun b _ hb => hother b (fun e => hb (by simp [e])), ?_⟩
      · rw [List.length_append]
        simp [Builtin.append_, run_underlying hu, run_underlying hts, hstr, sizeOf, typeInfo, hi, Builtin.lenOf, hroom, hsz, hfirst, Addr.add_lit, hst]
      · simp only [List.size_toArray, List.length_append, List.length_take, List.length_drop, hal]
        omega
      · refine (hels.same fun b hb => hother b (fun e => hnd.1 (e ▸ hb))).app (hy.same fun b hb => hother b (fun e => hdis b hb (by simp [e]))) (l' := news) ?_ (by rw [hal]; omega)
        rw [List.append_assoc, ← List.append_assoc, List.take_append_of_le_length (by rw [List.length_append, List.length_take, hal, hl, Nat.add_mul]; omega), List.take_of_length_le (by rw [List.length_append, List.length_take, hal, hl, Nat.add_mul]; omega)]
      · rw [List.flatten_append]
        refine List.nodup_cons.2 ⟨fun hb => ?_, List.nodup_append.2 ⟨hnd.2, hG, fun a ha b hb' => ?_⟩⟩
        · rcases List.mem_append.1 hb with hb | hb
          · exact hnd.1 hb
          · exact hdis g hb (by simp)
        · rintro rfl
          exact hdis a hb' (List.mem_cons_of_mem _ ha)
      · intro b hb
        rw [List.flatten_append] at hb
        rcases List.mem_cons.1 hb with rfl | hb
        · exact .inl (by simp)
        · rcases List.mem_append.1 hb with hb | hb
          · exact .inl (List.mem_cons_of_mem _ hb)
          · exact .inr (.inl hb)
    · have hnd := hF
      rw [List.nodup_cons] at hnd
      have hsz' : xs.length * Dat.sz α ≤ arr.size := Nat.le_trans (Nat.mul_le_mul_right _ hlc) hsize
      have hlo : (arr.toList.take (xs.length * Dat.sz α)).length = xs.length * Dat.sz α := by rw [List.length_take, hal]; omega
      have hels' : Qhn w (arr.toList.take (xs.length * Dat.sz α)) xs Fs := ⟨hels.1, fun i x hi => by
        obtain ⟨G, hG, ho⟩ := hels.2 i x hi
        refine ⟨G, hG, ?_⟩
        rw [Qkw ((List.getElem?_eq_some_iff.1 hi).1)]
        exact ho⟩
      obtain ⟨F', h⟩ := grow cap (arr.toList.take (xs.length * Dat.sz α)) Fs (by omega) hlo hels' (List.nodup_append.2 ⟨hnd.2, hG, fun a ha b hb' => by rintro rfl; exact hdis a hb' (List.mem_cons_of_mem _ ha)⟩) (fun b hb => List.mem_cons_of_mem _ hb) _ _ rfl rfl
      refine ⟨_, _, F', ?_, h⟩
      have hrow : Qbq w ⟨g, 0, none⟩ arr.toList := Qbq.row (by simpa using hg)
      have holds : ∀ j u, (arr.toList.take (xs.length * Dat.sz α))[j]? = some u → w.cell? ((⟨g, 0, none⟩ : Addr).add j) = some u := fun j u hj => by
        rw [List.getElem?_take] at hj
        split at hj
        · exact hrow j u hj
        · cases hj
      have hf2 := run_firstCells_some (P := P) w.drew (Dat.sz α) xs.length ⟨g, 0, none⟩ xs.length cap _ hlo holds
      have h63' : ¬ (9223372036854775807 < ((xs.length : Int) + (ys.length : Int))) := by simp only [maxLen] at hm; omega
      have h48' : ¬ (281474976710656 < Builtin.nextslicecap (xs.length + ys.length) cap * i.bytes) := by have := growslice_fits (old := cap) (need := xs.length + ys.length) (bytes := i.bytes) (by omega) (by rw [hib]; exact hb); omega
      have hng : ¬ (xs.length + ys.length ≤ cap) := hroom
      simp [Builtin.append_, run_underlying hu, run_underlying hts, hstr, sizeOf, typeInfo, hi, hzi, Builtin.lenOf, hsz, hfirst, hf2, hng, h63', h48', zeroValue, grownCap, newRow, Question.forced]
      congr 2
      apply Array.ext'
      simp [List.append_assoc]
end
section
variable {c : Cx} {σ : St} {all : Array Oper} {ty : TypeId} {pos : String} {after : Array Edge} {d : Nat}
end
end Go.Proofs.YtppialklomgajaaGreatDoor.Fw

namespace Go.Proofs.YtppialklomgajaaGreatDoor.Fw
open Go.RowKit
section
variable {fn : Func} {Bz : Bs} {S1 : Nat → Prop} {w1 : World} {hk1 : Keep Bz.S0 Bz.w w1} {hs1 : ∀ b, Bz.S0 b → S1 b} {hd1 : ∀ b, S1 b → b < w1.heap.size} {σ : St} {all : Array Oper} {ty : TypeId} {pos : String} {after : Array Edge} {d : Nat}
theorem sQG {op : BinOp} {t t' : Nat} {x y : Operand} {i1 i2 : ByteArray} {b : Bool} {j : Nat} {want B : Bool} (hB : gB σ.ρ all j want = some B := by dsimp only [ev, evs, evsG, Qa4, lk, lkE, cond, Nat.beq, evG, stO', V.strip, grd, grdO, nthO, gB, gBV, Nat.pred, wnt, List.toList_toArray, List.cons_append, List.nil_append, List.append_nil]) (hx : evG σ.ρ x = some (.v (.string i1)) := by dsimp only [ev, evs, evsG, Qa4, lk, lkE, cond, Nat.beq, evG, stO', V.strip, grd, grdO, nthO, gB, gBV, Nat.pred, wnt, List.toList_toArray, List.cons_append, List.nil_append, List.append_nil]) (hy : evG σ.ρ y = some (.v (.string i2)) := by dsimp only [ev, evs, evsG, Qa4, lk, lkE, cond, Nat.beq, evG, stO', V.strip, grd, grdO, nthO, gB, gBV, Nat.pred, wnt, List.toList_toArray, List.cons_append, List.nil_append, List.append_nil]) (hside : B = true → Qff B True σ.ρ [x, y] := by intro h; first | exact trivial | (dsimp only [Qff, sdV, ev, lk, cond, Nat.beq, V.side, List.toList_toArray]; (repeat' apply And.intro) <;> first | exact trivial | exact h | exact fun h => h | exact (Bool.and_eq_true_iff.1 h).1 | exact (Bool.and_eq_true_iff.1 h).2 | exact fun h => (Bool.and_eq_true_iff.1 h).1 | exact fun h => (Bool.and_eq_true_iff.1 h).2 | exact fun h => (Bool.and_eq_true_iff.1 (Bool.and_eq_true_iff.1 h).1).1 | (intro h; simp_all))) (hc : cmpB op i1 i2 = some b := by rfl) (hd : Nat.blt d σ.n = true := by rfl) :
    OpS (cx fn Bz S1 w1 hk1 hs1 hd1) σ all ⟨some d, .binOp op t x y t', ty, pos, after, some (j, want)⟩ (put d (.gd B (.v (.bool b))) σ) := OpS.scmpG hB hx hy hside hc hd
end
end Go.Proofs.YtppialklomgajaaGreatDoor.Fw

namespace Go.Proofs.YtppialklomgajaaGreatDoor.Fw
open Go.RowKit
def flV {α : Type} (x : α) : List (Fk α) → List V
  | [] => []
  | .int g :: fs => .v (.int .i64 (g x)) :: flV x fs
  | .byte g :: fs => .v (.int .u8 (g x).toNat) :: flV x fs
  | .bool g :: fs => .v (.bool (g x)) :: flV x fs
  | .str g :: fs => .v (.string (g x)) :: flV x fs
  | .sl _ _ _ :: fs => flV x fs
theorem Qxm {α : Type} {w : World} {x : α} {θ : List Loc} : ∀ {fk : List (Fk α)} {cs : List Value} {F : List Nat}, Qmm fk = true → OwL w x fk cs F → conL θ (flV x fk) = some cs
  | [], _, _, _, h => by rw [h.1]; rfl
  | f :: fs, _, _, hf, ⟨v, r, G, H, e1, e2, hv, hr⟩ => by
    subst e1
    cases f with
    | int g => exact Qe9 (congrArg some hv.1.1.symm) (Qxm hf hr)
    | byte g => exact Qe9 (congrArg some hv.1.symm) (Qxm hf hr)
    | bool g => exact Qe9 (congrArg some hv.1.symm) (Qxm hf hr)
    | str g => exact Qe9 (congrArg some hv.1.1.symm) (Qxm hf hr)
    | sl => cases hf
section
variable {c : Cx} {σ : St} {all : Array Oper} {ty : TypeId} {pos : String} {after : Array Edge} {d : Nat}
theorem OpS.ldO {α : Type} {dα : Dat α} [s : @Str α dα] [Inhabited α] {t : Nat} {x : Operand} {r off : Nat} {xs : List α} {v : V} (k : Nat) (hx : ev σ.ρ x = some (.pt r off)) (hoff : off = k * Dat.sz α) (hr : lkE σ.E r = some (.own α dα xs)) (hk : k < xs.length)
    (hfl : Qmm s.fk = true) (hv : ldC (c.ti t) 0 (flV (nth xs k) s.fk) = some v) (hd : Nat.blt d σ.n = true) :
    OpS c σ all ⟨some d, .load t x, ty, pos, after, none⟩ (put d v σ) :=
  OpS.of fun θ a w h K Q hK => by
    subst hoff
    obtain ⟨S, w1, hh⟩ := h.heap
    obtain ⟨l, hl, hown⟩ := hh.own hr
    rcases hown with ⟨e1, e2, _⟩ | ⟨g, cap, arr, T, Fs, e1, e2, e3, e4, e5, e6, e7, e8⟩
    · rw [e2] at hk; exact absurd hk (by simp)
    obtain ⟨G, hG, ho⟩ := e8 k (nth xs k) (by rw [List.getElem?_eq_getElem hk]; simp only [nth, List.getD_eq_getElem?_getD, List.getElem?_eq_getElem hk, Option.getD_some])
    have hcon : conL θ (flV (nth xs k) s.fk) = some (Fw.cut (Dat.sz α) arr.toList k) := Qxm hfl (s.oop ho)
    have hcells : Qbq w ((⟨g, 0, none⟩ : Addr).add (k * Dat.sz α)) (Fw.cut (Dat.sz α) arr.toList k) := (Qbq.row (by simpa using e2)).part rfl
    have hxe := h.env.con hx
    have hA : l.A = some ⟨g, 0, none⟩ := by injection e1
    obtain ⟨l', A', h1', h2', hp⟩ := Qn3 hxe
    rw [hl] at h1'; cases h1'
    rw [hA] at h2'; cases h2'
    have hx' := h.env.ev1 hx
    rw [hp] at hx'
    have hE := h.env.env
    have hti := c.tiok t
    unfold ldC at hv
    have hz0 : ∀ A : Addr, (A.add 0) = A := fun A => Addr.add_zero' A
    have hx2 : ev? (selfρ a) x = some (.pointer (some (((⟨g, 0, none⟩ : Addr).add (k * Dat.sz α)).add 0))) := by rw [hz0]; exact hx'
    split at hv
    · cases hv
    · rename_i n offs heq
      rw [heq] at hti
      simp only [TI.chk, Bool.and_eq_true] at hti
      cases hb : Nat.ble (0 + n) (flV (nth xs k) s.fk).length with
      | false => rw [hb] at hv; cases hv
      | true =>
        rw [hb] at hv
        cases hv
        have hlen := Qfj hcon
        have hle := Nat.le_of_ble_eq_true hb
        have hy := Q5e (P := c.P) (w := w) (ty := ty) hE hx2 hcells (t := t) (k := n) rfl (by rw [List.length_take, List.length_drop]; omega) hti.1
        unfold Oper.wp
        rw [hy]
        refine hK [] _ _ (h.put hd (v := .ag (((flV (nth xs k) s.fk).drop 0).take n)) ?_).app0
        simp only [V.con, Qkg n (Qkh 0 hcon), Option.map_some]
    · rename_i hno hst
      obtain ⟨u, hu, hcu⟩ := Qos hcon (Qlh hv)
      have hy := Ql8 (P := c.P) (w := w) (ty := ty) hE hx2 hcells hu (t := t) (by
        rcases TI.one_of hti with ⟨n, o, e⟩ | e | h
        · exact absurd e (by intro h; exact hst n o h)
        · exact absurd e (by intro h; exact hno h)
        · exact h.1)
      unfold Oper.wp
      rw [hy]
      exact hK [] _ _ (h.put hd hcu).app0
def OpSx (c : Cx) (σ : St) (all : Array Oper) (o : Oper) {ι : Type} (σ' : ι → St) (G : ι → Prop) : Prop :=
  ∀ θ a w, R c θ σ a w → ∀ (K : Act → World → Prop) (Q : Exit → Act → World → Prop), (∀ i η a' w', R c (θ ++ η) (σ' i) a' w' → G i → K a' w') →
    if Region.wanted o (yielded all a.tmps) then o.wp c.P a w K Q else K (a.put o.dst undef) w
theorem Run.opx {res : List Re} {o : Oper} {r : List Oper} {k : List It} {ι : Type} {σ' : ι → St} {G : ι → Prop} (ho : OpSx c σ all o σ' G) (h : ∀ i, G i → Run c res (σ' i) (.ops r all :: k)) : Run c res σ (.ops (o :: r) all :: k) := by
  intro θ a w hR
  rw [Qms]
  refine wpList_step fun K hK => ?_
  exact ho θ a w hR K _ fun i η a' w' h' hg => hK _ _ (h i hg _ a' w' h')
theorem OpS.isNil {α : Type} {dα : Dat α} {t t' e by' r len : Nat} {x : Operand} {xs : List α} (hx : ev σ.ρ x = some (.sl r len)) (hp : payE σ.E r = some ⟨α, dα, xs⟩) (hl : len = xs.length) (ht : c.ti t = .sl e (Dat.sz α) by') (hd : Nat.blt d σ.n = true) :
    OpSx c σ all ⟨some d, .binOp .eql t x (.const (.slice none 0 0)) t', ty, pos, after, none⟩ (fun b : Bool => put d (.v (.bool b)) σ) (fun b => b = true → xs = []) := by
  intro θ a w h K Q hK
  rw [if_pos (by simp [Region.wanted])]
  subst hl
  obtain ⟨S, w1, hh⟩ := h.heap
  have hA : ∃ l : Loc, θ[r]? = some l ∧ (l.A = none → xs = []) := by
    rcases Qw4 hp with he | he
    · obtain ⟨l, hl, ho⟩ := hh.own he
      refine ⟨l, hl, fun hn => ?_⟩
      rcases ho with ⟨_, e2, _⟩ | ⟨g, cap, arr, T, Fs, e1, _⟩
      · exact e2
      · injection e1 with e1; rw [hn] at e1; cases e1
    · obtain ⟨l, hl, A, cap, e1, _, _, e3⟩ := hh.ok _ (Qdv he)
      refine ⟨l, hl, fun hn => Classical.byContradiction fun hne => ?_⟩
      obtain ⟨ad, had, _⟩ := e3 hne
      injection e1 with e1
      rw [hn] at e1
      subst e1
      cases had
  obtain ⟨l, hl, hnil⟩ := hA
  have hc := h.env.con hx
  simp only [V.con, hl, Option.some.injEq] at hc
  have hu := (Qbb (c.tsl ht)).1
  have hrun : (execOp a.eval ⟨some d, .binOp .eql t x (.const (.slice none 0 0)) t', ty, pos, after, none⟩).run c.P w = .ok (.value (.bool l.A.isNone)) w := by
    have h1 := Lib.run_eql_slice_nil w t _ l.A xs.length l.cap 0 0 hu
    have h2 : a.eval (.const (.slice none 0 0)) = .slice none 0 0 := rfl
    simp only [execOp, ← hc, h2, eqGuard_at_slice, Sem.run_bind, Sem.run_pure, Result.andThen_ok, h1]
  unfold Oper.wp
  rw [hrun, Oper.upon_value]
  refine hK l.A.isNone [] _ _ (h.put hd rfl).app0 fun hb => hnil ?_
  cases hA : l.A with
  | none => rfl
  | some A => rw [hA] at hb; cases hb
theorem Qii : ∀ {k : Nat} {Fs : List (List Nat)}, List.Sublist (Fs.take k).flatten Fs.flatten
  | 0, Fs => by simp
  | k + 1, [] => by simp
  | k + 1, F :: Fs => by
    rw [List.take_succ_cons, List.flatten_cons, List.flatten_cons]
    exact (List.Sublist.refl F).append Qii
theorem SlO.pre {α : Type} [Dat α] {w : World} {l : Loc} {xs : List α} {k : Nat} (hk : k ≤ xs.length) (h : SlO w (.slice l.A xs.length l.cap) xs l.F) :
    ∃ F', List.Sublist F' l.F ∧ ∀ w2 : World, (∀ b ∈ F', w2.heap[b]? = w.heap[b]?) → SlO w2 (.slice l.A (xs.take k).length l.cap) (xs.take k) F' := by
  rcases h with ⟨e1, e2, e3⟩ | ⟨g, cap, arr, T, Fs, e1, e2, e3, e4, e5, e6, e7, e8⟩
  · subst e2
    injection e1 with h1 h2 h3
    refine ⟨[], List.nil_sublist _, fun w2 _ => .inl ⟨?_, by simp, rfl⟩⟩
    rw [h1, h3]
    simp
  · injection e1 with h1 h2 h3
    refine ⟨g :: (Fs.take k).flatten, by rw [e6]; exact Qii.cons_cons _, fun w2 hw => .inr ⟨g, cap, arr, T, Fs.take k, by rw [h1, h3], (hw g (by simp)).trans e2, by rw [List.length_take]; omega, e4, e5, rfl, by rw [List.length_take, List.length_take, e7], fun i x hi => ?_⟩⟩
    rw [List.getElem?_take] at hi
    by_cases hik : i < k
    · rw [if_pos hik] at hi
      obtain ⟨G, hG, ho⟩ := e8 i x hi
      have hG' : (Fs.take k)[i]? = some G := by rw [List.getElem?_take, if_pos hik, hG]
      exact ⟨G, hG', Dat.own_same ho fun b hb => hw b (List.mem_cons_of_mem _ (Qgo hG' hb))⟩
    · rw [if_neg hik] at hi
      cases hi
theorem OpS.cutO {α : Type} {dα : Dat α} {t e by' r len : Nat} {x y : Operand} {i : Int} {xs : List α} (k : Nat) (hk : k ≤ xs.length) (hx : ev σ.ρ x = some (.sl r len)) (hy : ev σ.ρ y = some (.v (.int .i64 i))) (hr : lkE σ.E r = some (.own α dα xs)) (hl : len = xs.length) (hi : i = k) (ht : c.ti t = .sl e (Dat.sz α) by') (hd : Nat.blt d σ.n = true) :
    OpS c σ all ⟨some d, .slice t x none (some y) none, ty, pos, after, none⟩ ⟨σ.n, σ.m + 1, (d, .sl σ.m (xs.take k).length) :: σ.ρ, (σ.m, .own α dα (xs.take k)) :: Qfn [r] σ.E⟩ :=
  OpS.of fun θ a w h K Q hK => by
    subst hl
    subst hi
    obtain ⟨S, w1, hh⟩ := h.heap
    obtain ⟨l, hlo, hown⟩ := hh.own hr
    have hc := h.env.con hx
    simp only [V.con, hlo, Option.some.injEq] at hc
    have hu := (Qbb (c.tsl ht)).1
    obtain ⟨inf, hin, hsz, _⟩ := (Qbb (c.tsl ht)).2
    have hcap := (Q65 (hown.rd (B := fun _ => True) fun _ _ => trivial)).1
    have hA0 : l.A.map (fun b => b.add 0) = l.A := by cases l.A <;> simp [Addr.add]
    have hle : k ≤ l.cap := by omega
    have elen : (xs.take k).length = k := by rw [List.length_take]; omega
    have hrun : (execOp a.eval ⟨some d, .slice t x none (some y) none, ty, pos, after, none⟩).run c.P w = .ok (.value (.slice l.A k l.cap)) w := by
      simp [execOp, ← hc, h.env.env.eval (h.env.isv hy), Instr.sliceAt, Instr.slice, run_underlying hu, Instr.sliceBounds, Instr.sliceBound, asIntOf, hle, sizeOf, typeInfo, hin, hA0]
    unfold Oper.wp
    rw [hrun, Oper.upon_value]
    obtain ⟨F', hF', hS⟩ := SlO.pre hk hown
    let l' : Loc := ⟨l.A, l.cap, F'⟩
    have hg' : (θ ++ [l'])[σ.m]? = some l' := by rw [← h.len]; exact Qec
    have hgr := Qdl (θ' := [l']) hlo
    have hon : ownN σ.E r := ⟨⟨α, dα, xs⟩, by unfold Qlr; rw [hr]; rfl⟩
    have hFt : ∀ b ∈ l.F, b ∈ (Qkm [r] σ.E).flatMap (fun e => (e.2.ck (θ ++ [l']) e.1).F) := fun b hb => Qnv (List.mem_singleton.2 rfl) hon (by rw [Qaf hgr]; exact hb)
    have hlF : ((En.own α dα xs).ck θ r).F = l.F := Qaf hlo
    have hge := hh.sh.ge _ (List.mem_map.2 ⟨_, Qdv hr, rfl⟩)
    have hnd : l.F.Nodup := by
      obtain ⟨i, hi⟩ := List.getElem?_of_mem (List.mem_map.2 ⟨_, Qdv hr, rfl⟩ : (En.own α dα xs).ck θ r ∈ σ.E.map fun e => e.2.ck θ e.1)
      have := (Qbi.1 hh.sh.apart).1 i _ hi
      rwa [hlF] at this
    have hfuse := (hh.ext (θ' := [l'])).fuse [r] (p := (σ.m, En.own α dα (xs.take k))) (w' := w) rfl rfl rfl (Nat.le_refl _) (fun _ _ _ => rfl) ?_ ?_ ?_ trivial
    · refine hK [l'] _ _ ⟨by rw [List.length_append, h.len]; rfl, (h.env.ext (θ' := [l'])).put hd ?_, S, w1, hfuse⟩
      simp only [V.con, hg', elen, l']
    · intro w2 hw2
      refine ⟨l', hg', hS w2 fun b hb => hw2 b ?_⟩
      show b ∈ locF _ σ.m
      rw [Qaf hg']
      exact hb
    · intro b hb
      have hb' : b ∈ F' := by
        have : b ∈ locF (θ ++ [l']) σ.m := hb
        rwa [Qaf hg'] at this
      exact ⟨.inl (hFt b (hF'.subset hb')), (hge b (by rw [hlF]; exact hF'.subset hb')).2⟩
    · show (locF _ σ.m).Nodup
      rw [Qaf hg']
      exact hnd.sublist hF'
theorem Qpw {sz k m : Nat} {l ds : List Value} (hd : ds.length = m * sz) (hl : k * sz + m * sz ≤ l.length) (i : Nat) : Fw.cut sz (l.take (k * sz) ++ ds ++ l.drop (k * sz + m * sz)) i = if i < k then Fw.cut sz l i else if i < k + m then Fw.cut sz ds (i - k) else Fw.cut sz l i := by
  have h1 : (l.take (k * sz)).length = k * sz := by rw [List.length_take]; omega
  have h2 : (l.take (k * sz) ++ ds).length = (k + m) * sz := by rw [List.length_append, h1, hd, Nat.add_mul]
  by_cases hi : i < k
  · rw [if_pos hi, List.append_assoc, Qhm h1 hi, Qkw hi]
  · rw [if_neg hi]
    by_cases hm : i < k + m
    · rw [if_pos hm, Qhm h2 hm, Qij h1 (by omega)]
    · rw [if_neg hm, Qij h2 (by omega)]
      unfold Fw.cut
      rw [List.drop_drop, ← Nat.add_mul, ← Nat.add_mul, show k + m + (i - (k + m)) = i by omega]
theorem Ycz {z : Array Value} {n i : Nat} (hz : 0 < z.size) (hi : i < n) : Fw.cut z.size (Builtin.zeroCells z n).toList i = z.toList := by
  apply List.ext_getElem?
  intro q
  unfold Fw.cut Builtin.zeroCells
  rw [List.getElem?_take]
  by_cases hq : q < z.size
  · rw [if_pos hq, List.getElem?_drop]
    have hlt : i * z.size + q < n * z.size := by
      have := Nat.mul_le_mul_right z.size (show i + 1 ≤ n by omega)
      rw [Nat.succ_mul] at this
      omega
    have hmod : (i * z.size + q) % z.size = q := by rw [Nat.add_comm, Nat.add_mul_mod_self_right, Nat.mod_eq_of_lt hq]
    simp [hlt, hmod, hq]
  · rw [if_neg hq, List.getElem?_eq_none (by rw [Array.length_toList]; omega)]
theorem EnvV.putU {n : Nat} {θ : List Loc} {ρ : List (Nat × V)} {a : Act} (h : EnvV n θ ρ a) {d : Nat} (hd : lk ρ d = none) (x : Value) : EnvV n θ ρ (a.put (some d) x) := by
  refine ⟨by simp [Act.put, h.size], by simp [Act.put, h.defers], fun t v hv => ?_⟩
  obtain ⟨h1, h2⟩ := h.get t v hv
  refine ⟨?_, h2⟩
  have hne : d ≠ t := fun e => by rw [← e, hd] at hv; cases hv
  rw [h1]
  simp only [Act.put, Array.getD_eq_getD_getElem?]
  rw [Array.getElem?_setIfInBounds_ne hne]
theorem R.turnO {θ : List Loc} {a : Act} {w w' : World} {α : Type} {dα : Dat α} {r : Nat} {l : Loc} {xs zs : List α} {F' : List Nat} (h : R c θ σ a w) (hr : lkE σ.E r = some (.own α dα xs)) (hlo : θ[r]? = some l) (hos : w'.os = w.os) (htape : w'.tape = w.tape) (hout : w'.output = w.output) (hsize : w.heap.size ≤ w'.heap.size)
    (hsame : ∀ b, b < w.heap.size → b ∉ l.F → w'.heap[b]? = w.heap[b]?) (hS : ∀ w2 : World, (∀ b ∈ F', w2.heap[b]? = w'.heap[b]?) → SlO w2 (.slice l.A zs.length l.cap) zs F') (hF : ∀ b ∈ F', (b ∈ l.F ∨ w.heap.size ≤ b) ∧ b < w'.heap.size) (hn : F'.Nodup) :
    R c (θ ++ [⟨l.A, l.cap, F'⟩]) (Qcq σ r dα zs []) a w' := by
  obtain ⟨S, w1, hh⟩ := h.heap
  let l' : Loc := ⟨l.A, l.cap, F'⟩
  have hg' : (θ ++ [l'])[σ.m]? = some l' := by rw [← h.len]; exact Qec
  have hgr := Qdl (θ' := [l']) hlo
  have hon : ownN σ.E r := ⟨⟨α, dα, xs⟩, by unfold Qlr; rw [hr]; rfl⟩
  have hFt : ∀ b ∈ l.F, b ∈ (Qkm [r] σ.E).flatMap (fun e => (e.2.ck (θ ++ [l']) e.1).F) := fun b hb => Qnv (List.mem_singleton.2 rfl) hon (by rw [Qaf hgr]; exact hb)
  have hfuse := (hh.ext (θ' := [l'])).fuse [r] (p := (σ.m, En.own α dα zs)) (w' := w') hos htape hout hsize (fun b hbl hbn => hsame b hbl fun hb => hbn (hFt b hb)) ?_ ?_ ?_ trivial
  · exact ⟨by rw [List.length_append, h.len]; rfl, (h.env.ext (θ' := [l'])).rn hgr hg' rfl rfl, S, w1, hfuse.rn hgr hg' rfl rfl⟩
  · intro w2 hw2
    refine ⟨l', hg', hS w2 fun b hb => hw2 b ?_⟩
    show b ∈ locF _ σ.m
    rw [Qaf hg']
    exact hb
  · intro b hb
    have hb' : b ∈ F' := by
      have : b ∈ locF (θ ++ [l']) σ.m := hb
      rwa [Qaf hg'] at this
    exact ⟨(hF b hb').1.elim (fun h => .inl (hFt b h)) .inr, (hF b hb').2⟩
  · show (locF _ σ.m).Nodup
    rw [Qaf hg']
    exact hn
theorem RH.ownF {θ : List Loc} {E : List (Nat × En)} {S : Nat → Prop} {w1 w : World} (hh : RH c θ E S w1 w) {α : Type} {dα : Dat α} {r : Nat} {l : Loc} {xs : List α} (hr : lkE E r = some (.own α dα xs)) (hlo : θ[r]? = some l) : l.F.Nodup ∧ ∀ b ∈ l.F, b < w.heap.size := by
  have hlF : ((En.own α dα xs).ck θ r).F = l.F := Qaf hlo
  have hge := hh.sh.ge _ (List.mem_map.2 ⟨_, Qdv hr, rfl⟩)
  refine ⟨?_, fun b hb => (hge b (by rw [hlF]; exact hb)).2⟩
  obtain ⟨i, hi⟩ := List.getElem?_of_mem (List.mem_map.2 ⟨_, Qdv hr, rfl⟩ : (En.own α dα xs).ck θ r ∈ E.map fun e => e.2.ck θ e.1)
  have := (Qbi.1 hh.sh.apart).1 i _ hi
  rwa [hlF] at this
theorem Run.clr {res : List Re} {k0 : List It} {rest : List Oper} {α : Type} {dα : Dat α} {t e by' r len dd : Nat} {x y : Operand} {i : Int} {xs : List α} {zv : Value} {ty2 : TypeId} {pos2 : String} {after2 : Array Edge} (z : α) (k : Nat) (hk : k ≤ xs.length) (h : Run c res (Qcq σ r dα (xs.take k ++ List.replicate (xs.length - k) z) []) (.ops rest all :: k0))
    (hx : ev σ.ρ x = some (.sl r len)) (hy : ev σ.ρ y = some (.v (.int .i64 i))) (hr : lkE σ.E r = some (.own α dα xs)) (hl : len = xs.length) (hi : i = k) (ht : c.ti t = .sl e (Dat.sz α) by') (hz : c.zr e = some zv) (hzs : zv.cells.size = Dat.sz α) (hz1 : ∀ u ∈ zv.cells.toList, u.oneCell' = true) (hzo : ∀ w, Dat.own w zv.cells.toList z []) (hnd : lk σ.ρ dd = none) (hdn : Nat.blt dd σ.n = true) :
    Run c res σ (.ops (⟨some dd, .slice t x (some y) none none, ty, pos, after, none⟩ :: ⟨none, .call { callee := .builtin .clear, args := #[.tmp dd], argTypes := #[t] }, ty2, pos2, after2, none⟩ :: rest) all :: k0) := by
  intro θ a w hR
  subst hl
  subst hi
  rw [Qms]
  refine wpList_step fun K hK => ?_
  rw [if_pos (by simp [Region.wanted])]
  obtain ⟨S, w1, hh⟩ := hR.heap
  obtain ⟨l, hlo, hown⟩ := hh.own hr
  obtain ⟨hnF, hltF⟩ := hh.ownF hr hlo
  have hc := hR.env.con hx
  simp only [V.con, hlo, Option.some.injEq] at hc
  have hu := (Qbb (c.tsl ht)).1
  obtain ⟨inf, hin, hsz, _⟩ := (Qbb (c.tsl ht)).2
  have hcap := (Q65 (hown.rd (B := fun _ => True) fun _ _ => trivial)).1
  obtain ⟨v1, hv1⟩ : ∃ v1 : Value, v1 = .slice (if l.cap = k then l.A else l.A.map (·.add (k * Dat.sz α))) (xs.length - k) (l.cap - k) := ⟨_, rfl⟩
  have hrun : (execOp a.eval ⟨some dd, .slice t x (some y) none none, ty, pos, after, none⟩).run c.P w = .ok (.value v1) w := by
    rw [hv1]
    simp [execOp, ← hc, hR.env.env.eval (hR.env.isv hy), Instr.sliceAt, Instr.slice, run_underlying hu, Instr.sliceBounds, Instr.sliceBound, asIntOf, hk, sizeOf, typeInfo, hin, hsz]
  unfold Oper.wp
  rw [hrun, Oper.upon_value]
  refine hK _ _ ?_
  have hR2 : R c θ σ (a.put (some dd) v1) w := ⟨hR.len, hR.env.putU hnd v1, hR.heap⟩
  have hev : (a.put (some dd) v1).eval (.tmp dd) = v1 := by
    have hd' : dd < a.tmps.size := by rw [hR.env.size]; simpa using hdn
    simp [Act.put, Act.eval, hd']
  refine wpList_step fun K2 hK2 => ?_
  rw [if_pos (by simp [Region.wanted])]
  have hend : ∀ w', (Builtin.clear_ #[t] ty2 #[v1]).run c.P w = .ok (.tuple #[]) w' → (R c (θ ++ [⟨l.A, l.cap, l.F⟩]) (Qcq σ r dα (xs.take k ++ List.replicate (xs.length - k) z) []) (a.put (some dd) v1) w' ∨ ∃ F', R c (θ ++ [⟨l.A, l.cap, F'⟩]) (Qcq σ r dα (xs.take k ++ List.replicate (xs.length - k) z) []) (a.put (some dd) v1) w') →
      Oper.wp c.P ⟨none, .call { callee := .builtin .clear, args := #[.tmp dd], argTypes := #[t] }, ty2, pos2, after2, none⟩ (a.put (some dd) v1) w K2 (kQ c res k0) := by
    intro w' hw hRR
    have hex : (execOp (a.put (some dd) v1).eval ⟨none, .call { callee := .builtin .clear, args := #[.tmp dd], argTypes := #[t] }, ty2, pos2, after2, none⟩).run c.P w = .ok (.value (.tuple #[])) w' := by
      simp only [execOp, resolve, invoke, builtin, Sem.run_bind, Sem.run_pure, Result.andThen_ok, List.map_toArray, List.map_cons, List.map_nil, hev, hw]
    unfold Oper.wp
    rw [hex, Oper.upon_value]
    rcases hRR with hRR | ⟨F', hRR⟩
    · exact hK2 _ _ (h _ _ _ hRR)
    · exact hK2 _ _ (h _ _ _ hRR)
  have hclr0 : ∀ A c', (Builtin.clear_ #[t] ty2 #[.slice A 0 c']).run c.P w = .ok (.tuple #[]) w := by
    intro A c'
    cases A <;> simp [Builtin.clear_, run_underlying hu]
  by_cases hkn : xs.length = k
  ·
    refine hend w ?_ (.inl ?_)
    · rw [hv1, show xs.length - k = 0 by omega]
      exact hclr0 _ _
    · have e0 : xs.take k ++ List.replicate (xs.length - k) z = xs := by rw [hkn, Nat.sub_self, List.replicate_zero, List.append_nil, List.take_of_length_le (by omega)]
      rw [e0]
      exact hR2.turnO hr hlo rfl rfl rfl (Nat.le_refl _) (fun _ _ _ => rfl) (fun w2 h2 => hown.same h2) (fun b hb => ⟨.inl hb, hltF b hb⟩) hnF
  rcases hown with ⟨e1, e2, _⟩ | ⟨g, cap, arr, T, Fs, e1, e2, e3, e4, e5, e6, e7, e8⟩
  · rw [e2] at hk hkn; simp at hk hkn; omega
  have hlen : xs.length = k + (xs.length - k) := by omega
  obtain ⟨m, hm⟩ : ∃ m, m = xs.length - k := ⟨_, rfl⟩
  have hA : l.A = some ⟨g, 0, none⟩ := by injection e1
  have hcp : l.cap = cap := by injection e1
  have hle : k * Dat.sz α + m * Dat.sz α ≤ arr.size := by
    have := Nat.mul_le_mul_right (Dat.sz α) (show k + m ≤ cap by omega)
    rw [Nat.add_mul] at this
    omega
  have hzl : (Builtin.zeroCells zv.cells m).toList.length = m * Dat.sz α := by rw [Array.length_toList, size_zeroCells, hzs]
  have hadd : (⟨g, 0, none⟩ : Addr).add (k * Dat.sz α) = ⟨g, k * Dat.sz α, none⟩ := Qmd _ _
  have hst := run_storeCells_at c.P g (k * Dat.sz α) T (Builtin.zeroCells zv.cells m).toList 0 arr w e2 (by omega) (fun u hu => by
    obtain ⟨j, hj⟩ := List.getElem?_of_mem hu
    have hj' := (List.getElem?_eq_some_iff.1 hj).1
    rw [hzl] at hj'
    have hsp := Dat.sz_pos α
    have hq : j / Dat.sz α < m := (Nat.div_lt_iff_lt_mul hsp).2 hj'
    have hct := Ycz (z := zv.cells) (n := m) (i := j / Dat.sz α) (by omega) hq
    rw [hzs] at hct
    have hmem : u ∈ zv.cells.toList := by
      rw [← hct]
      unfold Fw.cut
      refine List.mem_of_getElem? (i := j % Dat.sz α) ?_
      rw [List.getElem?_take, if_pos (Nat.mod_lt _ hsp), List.getElem?_drop, Nat.mul_comm, Nat.div_add_mod]
      exact hj
    exact hz1 u hmem)
  refine hend (w.setRow g (arr.toList.take (k * Dat.sz α) ++ (Builtin.zeroCells zv.cells m).toList ++ arr.toList.drop (k * Dat.sz α + m * Dat.sz α)).toArray) ?_ (.inr ⟨g :: (Fs.take k ++ List.replicate m []).flatten, ?_⟩)
  · rw [hv1, hA, if_neg (by omega), Option.map_some, hadd, ← hm]
    have hzz : ∀ w, (zeroValue e).run c.P w = .ok zv w := fun w => c.zok e zv hz w
    rw [Nat.add_zero, hzl] at hst
    obtain ⟨m', rfl⟩ : ∃ m', m = m' + 1 := ⟨m - 1, by omega⟩
    simp only [Builtin.clear_, List.size_toArray, List.length_cons, List.length_nil, Sem.run_bind, Sem.run_pure, Result.andThen_ok, run_underlying hu, hzz, hst, Nat.zero_add, Nat.zero_lt_one, getElem?_pos, List.getElem_toArray, List.getElem_cons_zero]
  · have hAl : (⟨g, 0, none⟩ : Addr) = ⟨g, 0, none⟩ := rfl
    have hg0 : g < w.heap.size := (Array.getElem?_eq_some_iff.1 e2).1
    obtain ⟨arr', harr⟩ : ∃ arr' : Array Value, arr' = (arr.toList.take (k * Dat.sz α) ++ (Builtin.zeroCells zv.cells m).toList ++ arr.toList.drop (k * Dat.sz α + m * Dat.sz α)).toArray := ⟨_, rfl⟩
    rw [← harr]
    have hsz' : arr'.size = arr.size := by
      rw [harr]
      simp only [List.size_toArray, List.length_append, List.length_take, List.length_drop, hzl, Array.length_toList]
      omega
    have hrow := setRow_heap w g arr arr' T (0, 0) e2
    have hother : ∀ b, b ≠ g → (w.setRow g arr').heap[b]? = w.heap[b]? := fun b hb => setRow_other w g b _ hb
    have hfl : (Fs.take k ++ List.replicate m []).flatten = (Fs.take k).flatten := by
      rw [List.flatten_append]
      have : ∀ n, (List.replicate n ([] : List Nat)).flatten = [] := by
        intro n
        induction n with
        | zero => rfl
        | succ n ih => rw [List.replicate_succ, List.flatten_cons, ih]; rfl
      rw [this, List.append_nil]
    have hsub : List.Sublist (g :: (Fs.take k ++ List.replicate m []).flatten) l.F := by
      rw [hfl, e6]
      exact Qii.cons_cons _
    have hlz : (xs.take k ++ List.replicate (xs.length - k) z).length = xs.length := by rw [List.length_append, List.length_take, List.length_replicate]; omega
    have hgn : g ∉ (Fs.take k).flatten := by
      have := hnF.sublist hsub
      rw [hfl] at this
      exact (List.nodup_cons.1 this).1
    refine hR2.turnO hr hlo rfl rfl rfl (by simp) (fun b hb hbF => hother b fun eb => hbF (by rw [e6, eb]; exact List.mem_cons_self)) (fun w2 h2 => ?_) (fun b hb => ⟨.inl (hsub.subset hb), by have := hltF b (hsub.subset hb); simpa using this⟩) (hnF.sublist hsub)
    rw [hA, hcp]
    refine Qfy.2 (.inr ⟨g, cap, arr', T, Fs.take k ++ List.replicate m [], rfl, (h2 g List.mem_cons_self).trans hrow, by rw [hlz]; exact e3, e4, by rw [hsz']; exact e5, rfl, ?_, fun i x hi => ?_⟩)
    · rw [hlz, List.length_append, List.length_take, List.length_replicate, e7]
      omega
    · have hix : i < xs.length := by rw [← hlz]; exact (List.getElem?_eq_some_iff.1 hi).1
      rw [harr]
      show ∃ G, _ ∧ Dat.own w2 (Fw.cut (Dat.sz α) (arr.toList.take (k * Dat.sz α) ++ (Builtin.zeroCells zv.cells m).toList ++ arr.toList.drop (k * Dat.sz α + m * Dat.sz α)) i) x G
      rw [Qpw hzl (by rw [Array.length_toList]; exact hle)]
      have hl1 : (xs.take k).length = k := by rw [List.length_take]; omega
      have hl2 : (Fs.take k).length = k := by rw [List.length_take]; omega
      by_cases hik : i < k
      · rw [if_pos hik]
        rw [List.getElem?_append_left (by omega), List.getElem?_take, if_pos hik] at hi
        obtain ⟨G, hG, ho⟩ := e8 i x hi
        have hG' : (Fs.take k)[i]? = some G := by rw [List.getElem?_take, if_pos hik, hG]
        refine ⟨G, by rw [List.getElem?_append_left (by omega)]; exact hG', Dat.own_same ho fun b hb => ?_⟩
        have hbm := Qgo hG' hb
        exact (h2 b (List.mem_cons_of_mem _ (by rw [hfl]; exact hbm))).trans (hother b fun eb => hgn (by rw [← eb]; exact hbm))
      · rw [if_neg hik, if_pos (by omega)]
        rw [List.getElem?_append_right (by omega), hl1, List.getElem?_replicate] at hi
        split at hi
        · cases hi
          refine ⟨[], by rw [List.getElem?_append_right (by omega), hl2, List.getElem?_replicate, if_pos (by omega)], ?_⟩
          have hct := Ycz (z := zv.cells) (n := m) (i := i - k) (by rw [hzs]; exact Dat.sz_pos α) (by omega)
          rw [hzs] at hct
          rw [hct]
          exact hzo w2
        · cases hi
end
end Go.Proofs.YtppialklomgajaaGreatDoor.Fw

namespace Go.Proofs.YtppialklomgajaaGreatDoor.Fw
open Go.RowKit
def insL {α : Type} (xs : List α) (k : Nat) (c : α) : List α := xs.take k ++ c :: xs.drop k
theorem Qnj {α : Type} {xs : List α} {k : Nat} {c : α} (hk : k ≤ xs.length) : (insL xs k c).length = xs.length + 1 := by
  unfold insL
  rw [List.length_append, List.length_take, List.length_cons, List.length_drop]
  omega
section
variable {α : Type} [dα : Dat α]
def FlE (l : List Value) (xs : List α) : Prop := ∀ i x, xs[i]? = some x → ∀ w, Dat.own w (Fw.cut (Dat.sz α) l i) x []
theorem Yiz (s : Str α) (hf : Qmm s.fk = true) {w w' : World} {cs : List Value} {x : α} {G : List Nat} (h : Dat.own w cs x G) : Dat.own w' cs x [] := Ycu s hf (Dat.own_rd (B := fun _ => True) h fun _ _ => trivial)
theorem Qlp : ∀ n, (List.replicate n ([] : List Nat)).flatten = [] := by
  intro n
  induction n with
  | zero => rfl
  | succ n ih => rw [List.replicate_succ, List.flatten_cons, ih]; rfl
theorem FlE.slo {w : World} {g cap n : Nat} {arr : Array Value} {T : TypeId} {xs : List α} (h : FlE arr.toList xs) (hg : w.heap[g]? = some (.cells arr T (0, 0))) (hn : n = xs.length) (h1 : n ≤ cap) (h2 : cap ≤ maxLen) (h3 : cap * Dat.sz α ≤ arr.size) : SlO w (.slice (some ⟨g, 0, none⟩) n cap) xs [g] := by
  subst hn
  refine Qfy.2 (.inr ⟨g, cap, arr, T, List.replicate xs.length [], rfl, hg, h1, h2, h3, by rw [Qlp], by rw [List.length_replicate], fun i x hi => ⟨[], ?_, h i x hi w⟩⟩)
  rw [List.getElem?_replicate, if_pos (List.getElem?_eq_some_iff.1 hi).1]
theorem SlO.fl (s : Str α) (hf : Qmm s.fk = true) {w : World} {v : Value} {xs : List α} {F : List Nat} (h : SlO w v xs F) : (v = .slice none 0 0 ∧ xs = []) ∨
    ∃ (g cap : Nat) (arr : Array Value) (T : TypeId), v = .slice (some ⟨g, 0, none⟩) xs.length cap ∧ w.heap[g]? = some (.cells arr T (0, 0)) ∧ xs.length ≤ cap ∧ cap ≤ maxLen ∧ cap * Dat.sz α ≤ arr.size ∧ g ∈ F ∧ FlE arr.toList xs := by
  rcases h with ⟨e1, e2, _⟩ | ⟨g, cap, arr, T, Fs, e1, e2, e3, e4, e5, e6, e7, e8⟩
  · exact .inl ⟨e1, e2⟩
  · refine .inr ⟨g, cap, arr, T, e1, e2, e3, e4, e5, by rw [e6]; exact List.mem_cons_self, fun i x hi w' => ?_⟩
    obtain ⟨G, _, ho⟩ := e8 i x hi
    exact Yiz s hf ho
theorem FlE.ins {l l2 ec : List Value} {xs : List α} {k : Nat} {c : α} (h : FlE l xs) (hk : k ≤ xs.length) (hc : ∀ w, Dat.own w ec c []) (h2 : ∀ i, i < xs.length + 1 → Fw.cut (Dat.sz α) l2 i = if i < k then Fw.cut (Dat.sz α) l i else if i = k then ec else Fw.cut (Dat.sz α) l (i - 1)) : FlE l2 (insL xs k c) := by
  intro i x hi w
  have hlt := (List.getElem?_eq_some_iff.1 hi).1
  rw [Qnj hk] at hlt
  rw [h2 i hlt]
  unfold insL at hi
  have h1 : (xs.take k).length = k := by rw [List.length_take]; omega
  by_cases h3 : i < k
  · rw [if_pos h3]
    rw [List.getElem?_append_left (by omega), List.getElem?_take, if_pos h3] at hi
    exact h i x hi w
  · rw [if_neg h3]
    rw [List.getElem?_append_right (by omega), h1] at hi
    by_cases h4 : i = k
    · rw [if_pos h4]
      rw [h4, Nat.sub_self, List.getElem?_cons_zero] at hi
      cases hi
      exact hc w
    · rw [if_neg h4]
      rw [show i - k = (i - k - 1) + 1 by omega, List.getElem?_cons_succ, List.getElem?_drop, show k + (i - k - 1) = i - 1 by omega] at hi
      exact h (i - 1) x hi w
theorem FlE.one {l : List Value} {xs : List α} (h : FlE l xs) (w : World) : ∀ u ∈ l.take (xs.length * Dat.sz α), u.oneCell' = true := by
  intro u hu
  obtain ⟨j, hj⟩ := List.getElem?_of_mem hu
  have hsp := Dat.sz_pos α
  rw [List.getElem?_take] at hj
  split at hj
  · rename_i hlt
    have hq : j / Dat.sz α < xs.length := (Nat.div_lt_iff_lt_mul hsp).2 hlt
    refine Dat.rd_one (Dat.own_rd (B := fun _ => True) (h _ _ (List.getElem?_eq_getElem hq) w) fun _ _ => trivial) u ?_
    unfold Fw.cut
    refine List.mem_of_getElem? (i := j % Dat.sz α) ?_
    rw [List.getElem?_take, if_pos (Nat.mod_lt _ hsp), List.getElem?_drop, Nat.mul_comm, Nat.div_add_mod]
    exact hj
  · cases hj
def midC (sz k m : Nat) (l : List Value) : List Value := (l.drop (k * sz)).take (m * sz)
theorem Ycm {sz k m : Nat} {l : List Value} (h : k * sz + m * sz ≤ l.length) : (midC sz k m l).length = m * sz := by unfold midC; rw [List.length_take, List.length_drop]; omega
theorem Ycl {sz k n : Nat} {l : List Value} (hk : k ≤ n) {u : Value} (h : u ∈ midC sz k (n - k) l) : u ∈ l.take (n * sz) := by
  unfold midC at h
  rw [show (n - k) * sz = n * sz - k * sz by rw [Nat.sub_mul], ← List.drop_take] at h
  exact List.mem_of_mem_drop h
theorem Ycn {sz k m i : Nat} {l : List Value} (hi : i < m) : Fw.cut sz (midC sz k m l) i = Fw.cut sz l (k + i) := by
  unfold midC
  rw [Qkw hi]
  unfold Fw.cut
  rw [List.drop_drop, ← Nat.add_mul]
end
section
variable {P : Program} {w : World} {t e ty sz by' : Nat}
theorem Q51 (ht : Qdj P t e sz by' = true) {g o dLen dCap sLen sCap m : Nat} {S : Addr} {news : List Value} {arr : Array Value} {T : TypeId} (hm : Nat.min sLen dLen = m) (hl : news.length = m * sz) (hsrc : ∀ j u, news[j]? = some u → w.cell? (S.add j) = some u) (hg : w.heap[g]? = some (.cells arr T (0, 0))) (hle : o + m * sz ≤ arr.size) (h1 : ∀ u ∈ news, u.oneCell' = true) :
    (Builtin.copy_ #[t, t] ty #[.slice (some ⟨g, o, none⟩) dLen dCap, .slice (some S) sLen sCap]).run P w = .ok (goInt m) (w.setRow g (arr.toList.take o ++ news ++ arr.toList.drop (o + m * sz)).toArray) := by
  obtain ⟨hu, i, hi, his, _⟩ := Qbb ht
  have hfirst := run_firstCells_some (P := P) w sz m S sLen sCap news hl hsrc
  have hst := run_storeCells_at P g o T news 0 arr w hg (by omega) h1
  rw [Nat.add_zero, hl] at hst
  subst his
  simp [Builtin.copy_, run_underlying hu, Builtin.lenOf, sizeOf, typeInfo, hi, hm, hfirst, hst]
end
def InsQ {α : Type} [Dat α] (ys : List α) (F : List Nat) (w : World) (e : Ending) (w' : World) : Prop := ∃ v' F', e = .returned v' ∧ SlO w' v' ys F' ∧ F'.Nodup ∧ w'.os = w.os ∧ w'.tape = w.tape ∧ w'.output = w.output ∧ w.heap.size ≤ w'.heap.size ∧ (∀ b, b < w.heap.size → b ∉ F → w'.heap[b]? = w.heap[b]?) ∧ ∀ b ∈ F', b ∈ F ∨ w.heap.size ≤ b
theorem CTM.row2 {P : Program} {G : World → Prop} {gs : List Nat} {f : FuncId} {α : Type} {dα : Dat α} {xs ys zs : List α} {k : Int}
    (h : ∀ (w : World) (v v2 : Value) (F F2 : List Nat), SlO w v xs F → F.Nodup → SlO w v2 ys F2 → (∀ b ∈ F2, b ∉ F) → Calls P f #[v, .int .i64 k, v2] w (InsQ zs F w)) :
    CTM P G gs f 0 2 [(0, .own α dα xs), (1, .own α dα ys)] [] [.sl 0 xs.length, .v (.int .i64 k), .sl 1 ys.length] [(0, .own α dα zs)] 1 [.sl 0 zs.length] True := by
  intro S w p us hG hgs hsh _ hargs
  have hus : us = [.slice (p 0).A xs.length (p 0).cap, .int .i64 k, .slice (p 1).A ys.length (p 1).cap] := by
    have : conL (thz p 2) [.sl 0 xs.length, .v (.int .i64 k), .sl 1 ys.length] = some [.slice (p 0).A xs.length (p 0).cap, .int .i64 k, .slice (p 1).A ys.length (p 1).cap] := by
      simp only [conL, V.con, Qf5 (p := p) (n := 2) (k := 0) (by omega), Qf5 (p := p) (n := 2) (k := 1) (by omega)]
    rw [this] at hargs
    exact (Option.some.inj hargs).symm
  subst hus
  have g0 := Qf5 (p := p) (n := 2) (k := 0) (by omega)
  have g1 := Qf5 (p := p) (n := 2) (k := 1) (by omega)
  have e0 : (([(0, .own α dα xs), (1, .own α dα ys)] : List (Nat × En)).map fun e => e.2.ck (thz p 2) e.1)[0]? = some ((En.own α dα xs).ck (thz p 2) 0) := rfl
  have e1 : (([(0, .own α dα xs), (1, .own α dα ys)] : List (Nat × En)).map fun e => e.2.ck (thz p 2) e.1)[1]? = some ((En.own α dα ys).ck (thz p 2) 1) := rfl
  obtain ⟨l0, hl0, s0⟩ := hsh.get e0
  obtain ⟨l1, hl1, s1⟩ := hsh.get e1
  rw [g0] at hl0; cases hl0
  rw [g1] at hl1; cases hl1
  have f0 : ((En.own α dα xs).ck (thz p 2) 0).F = (p 0).F := Qaf g0
  have f1 : ((En.own α dα ys).ck (thz p 2) 1).F = (p 1).F := Qaf g1
  have hnd := hsh.nd e0
  rw [f0] at hnd
  have hdj := hsh.dj e1 e0 (by omega)
  rw [f0, f1] at hdj
  have hge := hsh.ge _ (List.mem_of_getElem? e0)
  rw [f0] at hge
  refine (h w _ _ _ _ s0 hnd s1 hdj).mono fun e w' hq => ?_
  obtain ⟨v', F', rfl, r1, r2, r3, r4, r5, r6, r7, r8⟩ := hq
  obtain ⟨l', hv', hF'⟩ := Qw2 r1
  have gl : (thz p 0 ++ [l'])[0]? = some l' := rfl
  refine ⟨_, rfl, trivial, [l'], [v'], rfl, ?_, rfl, ?_⟩
  · simp only [conL, V.con, gl, hv']
  · have hk : Keep S w w' := ⟨r3, r4, r5, r6, fun b hb => r7 b (hsh.dom b hb) fun hbF => (hge b hbF).1 hb⟩
    have hlF : ((En.own α dα zs).ck (thz p 0 ++ [l']) 0).F = F' := (Qaf gl).trans hF'
    refine ⟨hk, hsh.dom, fun c hc => ?_, fun c hc b hb => ?_, ?_⟩
    · obtain rfl := List.mem_singleton.1 hc
      intro w2 hw2
      refine ⟨l', gl, ?_⟩
      rw [← hv', hF']
      exact r1.same fun b hb => hw2 b (by rw [hlF]; exact hb)
    · obtain rfl := List.mem_singleton.1 hc
      have hb' : b ∈ F' := by rw [← hlF]; exact hb
      refine ⟨fun hS => ?_, r1.lt b hb'⟩
      rcases r8 b hb' with hbF | hbs
      · exact (hge b hbF).1 hS
      · have := hsh.dom b hS
        omega
    · show (List.flatMap (·.F) [(En.own α dα zs).ck (thz p 0 ++ [l']) 0]).Nodup
      rw [List.flatMap_cons, List.flatMap_nil, List.append_nil, hlF]
      exact r2
end Go.Proofs.YtppialklomgajaaGreatDoor.Fw

namespace Go.Proofs.YtppialklomgajaaGreatDoor.Fw
open Go.RowKit
section
variable {fn : Func} {Bz : Bs} {S1 : Nat → Prop} {w1 : World} {hk1 : Keep Bz.S0 Bz.w w1} {hs1 : ∀ b, Bz.S0 b → S1 b} {hd1 : ∀ b, S1 b → b < w1.heap.size} {res : List Re} {σ σ' : St} {k k' : List It} {all : Array Oper} {ty : TypeId} {pos : String} {after : Array Edge} {d : Nat}
theorem lo {α : Type} {dα : Dat α} [s : @Str α dα] [Inhabited α] {t : Nat} {x : Operand} {r off : Nat} {xs : List α} {v : V} (j : Nat) (hj : j < xs.length) (hx : ev σ.ρ x = some (.pt r off) := by dsimp only [ev, evs, evsG, Qa4, lk, lkE, cond, Nat.beq, evG, stO', V.strip, grd, grdO, nthO, gB, gBV, Nat.pred, wnt, List.toList_toArray, List.cons_append, List.nil_append, List.append_nil]) (hr : lkE σ.E r = some (.own α dα xs) := by dsimp only [ev, evs, evsG, Qa4, lk, lkE, cond, Nat.beq, evG, stO', V.strip, grd, grdO, nthO, gB, gBV, Nat.pred, wnt, List.toList_toArray, List.cons_append, List.nil_append, List.append_nil]) (hoff : off = j * Dat.sz α := by rfl) (hfl : Qmm s.fk = true := by rfl) (hv : ldC (ti t) 0 (flV (nth xs j) s.fk) = some v := by dsimp only [flV, Str.fk, ncV, szA, cvV, rnR, rnE, V.rn, rnL, En.rn, Qfn, memN, Qcq, an, stK, cdK, opK, gdK, nvK, Qow, Qnp, blK, bsK, stW, stV, ptK, litD, litC, pkV, wrV, binV, unV, ldV, faW, faV, agO, blV, exV, mfV, lenV, caV, Q6b, Qyz, stO', sdV, Qa4, grdO, gBV, gPw, gPk, gGo, gK, gK1, gK2, tkK, tk1, rvsV, rvV, Nat.reduceAdd, Nat.reduceSub, Nat.reduceMul, advN, adv1, stO, litV, Qv9, Qmp, pv, ev, evs, lk, lkE, setE, putE, put, cond, ldC, ldE, nthN, tuAt, bin, bi, bs, bb, ikq, TI.cells, V.cells, V.one, oneL, Qnt, grd, nthO, beqB, gB, wnt, gOp, adG, adG1, Qys, Qff, evG, V.side, V.strip, Qb7, Qcs, Qdq, Qce, Qh5, Qe3, Qf4, Qhq, Ql5, Qir, Qkk, ini, Qj5, opn, nsl, adD, Qk4, Str.fk, ti_1, ti_2, ti_3, ti_4, ti_5, ti_6, ti_7, ti_8, ti_9, Q90, Q9z, Q9y, Q9x, Q9w, Q9v, Q9u, Q9t, Q9s, Q9r, Q9q, Q9p, Q9o, Q9n, Q9m, Q9l, Q9k, Q9j, Q9i, Q9h, Q9g, Q9f, Q9e, Q9d, Q9c, Q9b, Q9a, Q89, Q88, Q87, Q86, Q85, Q84, Q83, Q82, Q81, Q80, Q8z, Q8y, Q8x, Q8w, Q8v, Q8u, Q8t, Q8s, Q8r, Q8q, Q8p, Q8o, Q8n, Q8m, Q8l, Q8k, Q8j, Q8i, Q8h, Q8g, Q8f, Q8e, Q8d, Q8c, Q8b, Q8a, Q79, Q78, Q77, Q76, Q75, Q74, Q73, Q72, Q71, Q70, Q7z, Q7y, Q7x, Q7w, Q7v, Q7u, Q7t, Q7s, Q7r, Q7q, Q7p, Q7o, Q7n, Q7m, Q7l, Qvn, Qvm, Qvl, Qvk, Qvj, Qvi, Qvh, Qvg, Qvf, Qve, Qvd, Qvc, Qvb, Qva, Qu9, Qu8, Qu7, Qu6, Qu5, Qu4, Qu3, Qu2, Qu1, Qu0, Quz, Quy, Qux, Quw, Quv, Quu, Qut, Qus, Qur, Quq, Qup, Quo, Qun, Qum, Qul, Quk, Quj, Qui, Quh, Qug, Quf, Que, Qud, Quc, Qub, Qua, Qt9, Qt8, Qt7, Qt6, Qt5, Qt4, Qt3, Qt2, Qt1, Qt0, Qtz, Qty, Qtx, Qtw, Qtv, Qtu, Qtt, Qts, Qtr, Qtq, Qtp, Qto, Qtn, Qtm, Qtl, Qtk, Qtj, Qti, Qth, Qtg, Qtf, Qte, Qtd, Qtc, Qtb, Qta, Qs9, Qs8, Qs7, Qs6, Qs5, Qs4, Qs3, Qs2, Qs1, Qs0, Qsz, Qsy, Qsx, Qsw, Qsv, Qsu, Qst, Qss, Qsr, Qsq, Qsp, Qso, Qsn, Qsm, Qsl, Qsk, Qsj, Qsi, Qsh, Qsg, Qsf, Qse, Qsd, Qsc, Qsb, Qsa, Qr9, Qr8, Qr7, Qr6, Qr5, Qr4, Qr3, Qr2, Qr1, Qr0, Qrz, Qry, Qrx, Qrw, Qrv, Qru, Qrt, Qrs, Qrr, Qrq, Qrp, Qro, Qrn, Qrm, Qrl, Qrk, Qrj, Qri, Qrh, Qrg, Qrf, Qre, Qrd, Qrc, Qrb, Qra, Qq9, Qq8, Qq7, Qq6, Qq5, Qq4, Qq3, Qq2, Qq1, Qq0, Qqz, Qqy, Qqx, Qqw, Qqv, Qqu, Qqt, Qqs, Qqr, Qqq, Qqp, Qqo, Qqn, Qqm, Qql, Qqk, Qqj, Qqi, Qqh, Qqg, Qqf, Qqe, Qqd, Qqc, zr_1, zr_2, zr_3, zr_4, zr_5, zr_6, zr_7, zr_8, zr_9, Yfp, Yfo, Yfn, Yfm, Yfl, Yfk, Yfj, Yfi, Yfh, Yfg, Yff, Yfe, Yfd, Yfc, Yfb, Yfa, Ye9, Ye8, Ye7, Ye6, Ye5, Ye4, Ye3, Ye2, Ye1, Ye0, Yez, Yey, Yex, Yew, Yev, Yeu, Yet, Yes, Yer, Yeq, Yep, Yeo, Yen, Yem, Yel, Yek, Yej, Yei, Yeh, Yeg, Yef, Yee, Yed, Yec, Yeb, Yea, Yd9, Yd8, Yd7, Yd6, Yd5, Yd4, Yd3, Yd2, Yd1, Yd0, Ydz, Ydy, Ydx, Ydw, Ydv, Ydu, Ydt, Yds, Ydr, Ydq, Ydp, Ydo, Ydn, Ydm, Ydl, Ydk, Ydj, Ydi, Ydh, Ydg, Ydf, Yde, Ydd, Ydc, Ydb, Yda, Q5b, Q5a, Q49, Q48, Q47, Q46, Q45, Q44, Q43, Q42, Q41, Q40, Q4z, Q4y, Q4x, Q4w, Q4v, Q4u, Q4t, Q4s, Q4r, Q4q, Q4p, Q4o, Q4n, Q4m, Q4l, Q4k, Q4j, Q4i, Q4h, Q4g, Q4f, Q4e, Q4d, Q4c, Q4b, Q4a, Q39, Q38, Q37, Q36, Q35, Q34, Q33, Q32, Q31, Q30, Q3z, Q3y, Q3x, Q3w, Q3v, Q3u, Q3t, Q3s, Q3r, Q3q, Q3p, Q3o, Q3n, Q3m, Q3l, Q3k, Q3j, Q3i, Q3h, Q3g, Q3f, Q3e, Q3d, Q3c, Q3b, Q3a, Q29, Q28, Q27, Q26, Q25, Q24, Q23, Q22, Q21, Q20, Q2z, Q2y, Q2x, Q2w, Q2v, Q2u, Q2t, Q2s, Q2r, Q2q, Q2p, Q2o, Q2n, Q2m, Q2l, Q2k, Q2j, Q2i, Q2h, Q2g, Q2f, Q2e, Q2d, Q2c, Q2b, Q2a, Q19, Q18, Q17, Q16, Q15, Q14, Q13, Q12, Q11, Q10, Q1z, Q1y, Q1x, Q1w, Q1v, Q1u, Q1t, Q1s, Q1r, Q1q, Q1p, Q1o, Q1n, Q1m, Q1l, Q1k, Q1j, Q1i, Q1h, Q1g, Q1f, Q1e, Q1d, Q1c, Q1b, Q1a, Q09, Q08, Q07, Q06, Q05, Q04, Q03, Q02, Q01, Q00, Q0z, Q0y, Q0x, Q0w, Q0v, Q0u, Q0t, Q0s, Q0r, Q0q, Q0p, Q0o, Q0n, Q0m, Q0l, Q0k, Q0j, Q0i, Q0h, Q0g, Q0f, Q0e, Q0d, Q0c, Q0b, Q0a, Qz9, Qz8, Qz7, Qz6, Qz5, Qz4, Nat.blt, Nat.succ_eq_add_one, Nat.ble, Nat.beq, Nat.pred, Nat.add_zero, Nat.zero_add, Nat.add_eq, List.toList_toArray, List.length, List.length_cons, List.length_nil, List.take, List.drop, List.append_nil, List.nil_append, List.cons_append, List.map, List.take_succ_cons, List.take_zero, List.take_nil, List.drop_succ_cons, List.drop_zero, List.drop_nil, List.size_toArray, List.getD, id, Op.operands, Call.operands, Value.cells, Array.size_empty]) (hd : Nat.blt d σ.n = true := by rfl) :
    OpS (cx fn Bz S1 w1 hk1 hs1 hd1) σ all ⟨some d, .load t x, ty, pos, after, none⟩ (put d v σ) := OpS.ldO j hx hoff hr hj hfl hv hd
theorem nl {α : Type} {dα : Dat α} {t t' e by' r len : Nat} {x : Operand} {xs : List α} (hx : ev σ.ρ x = some (.sl r len) := by dsimp only [ev, evs, evsG, Qa4, lk, lkE, cond, Nat.beq, evG, stO', V.strip, grd, grdO, nthO, gB, gBV, Nat.pred, wnt, List.toList_toArray, List.cons_append, List.nil_append, List.append_nil]) (hp : payE σ.E r = some ⟨α, dα, xs⟩ := by rfl) (hl : len = xs.length := by rfl) (ht : ti t = .sl e (Dat.sz α) by' := by rfl) (hd : Nat.blt d σ.n = true := by rfl) :
    OpSx (cx fn Bz S1 w1 hk1 hs1 hd1) σ all ⟨some d, .binOp .eql t x (.const (.slice none 0 0)) t', ty, pos, after, none⟩ (fun b : Bool => put d (.v (.bool b)) σ) (fun b => b = true → xs = []) := OpS.isNil hx hp hl ht hd
theorem ox {o : Oper} {r : List Oper} {P : Bool → Prop} (ho : OpSx (cx fn Bz S1 w1 hk1 hs1 hd1) σ all o (fun b : Bool => put d (.v (.bool b)) σ) P) (h : ∀ b : Bool, P b → Run (cx fn Bz S1 w1 hk1 hs1 hd1) res (put d (.v (.bool b)) σ) (.ops r all :: k)) : Run (cx fn Bz S1 w1 hk1 hs1 hd1) res σ (.ops (o :: r) all :: k) := Run.opx ho h
theorem cO {α : Type} {dα : Dat α} {t e by' r len : Nat} {x y : Operand} {i : Int} {xs : List α} (j : Nat) (hj : j ≤ xs.length) (hx : ev σ.ρ x = some (.sl r len) := by dsimp only [ev, evs, evsG, Qa4, lk, lkE, cond, Nat.beq, evG, stO', V.strip, grd, grdO, nthO, gB, gBV, Nat.pred, wnt, List.toList_toArray, List.cons_append, List.nil_append, List.append_nil]) (hy : ev σ.ρ y = some (.v (.int .i64 i)) := by dsimp only [ev, evs, evsG, Qa4, lk, lkE, cond, Nat.beq, evG, stO', V.strip, grd, grdO, nthO, gB, gBV, Nat.pred, wnt, List.toList_toArray, List.cons_append, List.nil_append, List.append_nil]) (hr : lkE σ.E r = some (.own α dα xs) := by dsimp only [ev, evs, evsG, Qa4, lk, lkE, cond, Nat.beq, evG, stO', V.strip, grd, grdO, nthO, gB, gBV, Nat.pred, wnt, List.toList_toArray, List.cons_append, List.nil_append, List.append_nil]) (hl : len = xs.length := by first | rfl | simp only [List.length_set]) (hi : i = j := by rfl) (ht : ti t = .sl e (Dat.sz α) by' := by rfl) (hd : Nat.blt d σ.n = true := by rfl) :
    OpS (cx fn Bz S1 w1 hk1 hs1 hd1) σ all ⟨some d, .slice t x none (some y) none, ty, pos, after, none⟩ ⟨σ.n, σ.m + 1, (d, .sl σ.m (xs.take j).length) :: σ.ρ, (σ.m, .own α dα (xs.take j)) :: Qfn [r] σ.E⟩ := OpS.cutO j hj hx hy hr hl hi ht hd
theorem clr {rest : List Oper} {α : Type} {dα : Dat α} {t e by' r len dd : Nat} {x y : Operand} {i : Int} {xs : List α} {zv : Value} {ty2 : TypeId} {pos2 : String} {after2 : Array Edge} (z : α) (j : Nat) (hj : j ≤ xs.length) (h : Run (cx fn Bz S1 w1 hk1 hs1 hd1) res σ' (.ops rest all :: k)) (hx : ev σ.ρ x = some (.sl r len) := by dsimp only [ev, evs, evsG, Qa4, lk, lkE, cond, Nat.beq, evG, stO', V.strip, grd, grdO, nthO, gB, gBV, Nat.pred, wnt, List.toList_toArray, List.cons_append, List.nil_append, List.append_nil]) (hy : ev σ.ρ y = some (.v (.int .i64 i)) := by dsimp only [ev, evs, evsG, Qa4, lk, lkE, cond, Nat.beq, evG, stO', V.strip, grd, grdO, nthO, gB, gBV, Nat.pred, wnt, List.toList_toArray, List.cons_append, List.nil_append, List.append_nil]) (hr : lkE σ.E r = some (.own α dα xs) := by dsimp only [ev, evs, evsG, Qa4, lk, lkE, cond, Nat.beq, evG, stO', V.strip, grd, grdO, nthO, gB, gBV, Nat.pred, wnt, List.toList_toArray, List.cons_append, List.nil_append, List.append_nil]) (hl : len = xs.length := by first | rfl | simp only [List.length_set]) (hi : i = j := by rfl) (ht : ti t = .sl e (Dat.sz α) by' := by rfl) (hz : zr e = some zv := by rfl) (hzs : zv.cells.size = Dat.sz α := by rfl) (hz1 : ∀ u ∈ zv.cells.toList, u.oneCell' = true := by decide) (hzo : ∀ w, Dat.own w zv.cells.toList z []) (hnd : lk σ.ρ dd = none := by rfl) (hdn : Nat.blt dd σ.n = true := by rfl) (hs : Qcq σ r dα (xs.take j ++ List.replicate (xs.length - j) z) [] = σ' := by dsimp only [Qb7, Qif, Qdp, setV, fwE, En.fw, V.fw, fwL, nthG, pickE, Qmn, nthE, Nat.pred, Qcs, Qee, Qed, Qcq, rnR, rnE, V.rn, rnL, En.rn, Qfn, memN, V.names.namesL, V.names, Qdq, Qce, put, putE, setE, Qh5, Qe3, Qf4, opn, nsl, id, cond, Nat.beq, Nat.reduceAdd, Nat.add_zero, Nat.zero_add, List.cons_append, List.nil_append, List.append_nil, List.append, List.length_cons, List.length_nil, Str.fk]) :
    Run (cx fn Bz S1 w1 hk1 hs1 hd1) res σ (.ops (⟨some dd, .slice t x (some y) none none, ty, pos, after, none⟩ :: ⟨none, .call { callee := .builtin .clear, args := #[.tmp dd], argTypes := #[t] }, ty2, pos2, after2, none⟩ :: rest) all :: k) := Run.clr z j hj (by rw [hs]; exact h) hx hy hr hl hi ht hz hzs hz1 hzo hnd hdn
end
theorem Ygj : ∀ w, Dat.own w (Value.cells (.agg #[.string ⟨#[]⟩, .string ⟨#[]⟩])).toList (Cell.mk ⟨#[]⟩ ⟨#[]⟩) [] := fun _ => (inferInstance : Str Cell).omk ⟨_, _, [], [], rfl, rfl, ⟨⟨rfl, Nat.zero_le _⟩, rfl⟩, _, _, [], [], rfl, rfl, ⟨⟨rfl, Nat.zero_le _⟩, rfl⟩, rfl, rfl⟩
end Go.Proofs.YtppialklomgajaaGreatDoor.Fw

namespace Go.Proofs
open Go.Shelf
def Tryz.laysM171_ren : Go.Shelf.Ren := ⟨fun | 171 => 229 | 243 => 256 | 246 => 274 | 283 => 292 | 284 => 293 | 285 => 294 | 286 => 295 | 129 => 309 | 317 => 308 | 318 => 310 | 319 => 311 | 320 => 312 | 337 => 316 | 338 => 317 | n => n, fun | 3 => 3 | 9 => 9 | 2 => 2 | 4 => 4 | 171 => 268 | 0 => 0 | 53 => 269 | 37 => 144 | 5 => 5 | 173 => 272 | 212 => 288 | 51 => 284 | 20 => 20 | 213 => 289 | 46 => 256 | 232 => 297 | 233 => 298 | n => n, fun | 17 => 6 | 18 => 7 | 19 => 8 | n => n⟩
theorem Tryz.laysM171 : Go.Proofs.LaysM.n171 Tryz.prog Tryz.laysM171_ren := {
  mixed := by kernel_rfl
  f129 := Tryz.func309.trans (congrArg some (by kernel_rfl))
  f171 := Tryz.func229.trans (congrArg some (by kernel_rfl))
  f243 := Tryz.func256.trans (congrArg some (by kernel_rfl))
  f246 := Tryz.func274.trans (congrArg some (by kernel_rfl))
  f283 := Tryz.func292.trans (congrArg some (by kernel_rfl))
  f284 := Tryz.func293.trans (congrArg some (by kernel_rfl))
  f285 := Tryz.func294.trans (congrArg some (by kernel_rfl))
  f286 := Tryz.func295.trans (congrArg some (by kernel_rfl))
  f317 := Tryz.func308.trans (congrArg some (by kernel_rfl))
  f318 := Tryz.func310.trans (congrArg some (by kernel_rfl))
  f319 := Tryz.func311.trans (congrArg some (by kernel_rfl))
  f320 := Tryz.func312.trans (congrArg some (by kernel_rfl))
  f337 := Tryz.func316.trans (congrArg some (by kernel_rfl))
  f338 := Tryz.func317.trans (congrArg some (by kernel_rfl))
  t0 := Tryz.underlying0
  a0 := Tryz.isAgg0
  z0 := Tryz.sizeOf0
  v0 := Tryz.zeroValue0
  t2 := Tryz.underlying2
  a2 := Tryz.isAgg2
  z2 := Tryz.sizeOf2
  v2 := Tryz.zeroValue2
  t3 := Tryz.underlying3
  a3 := Tryz.isAgg3
  z3 := Tryz.sizeOf3
  v3 := Tryz.zeroValue3
  t4 := Tryz.underlying4
  a4 := Tryz.isAgg4
  z4 := Tryz.sizeOf4
  v4 := Tryz.zeroValue4
  t5 := Tryz.underlying5
  a5 := Tryz.isAgg5
  z5 := Tryz.sizeOf5
  v5 := Tryz.zeroValue5
  t9 := Tryz.underlying9
  a9 := Tryz.isAgg9
  z9 := Tryz.sizeOf9
  v9 := Tryz.zeroValue9
  t20 := Tryz.underlying20
  a20 := Tryz.isAgg20
  z20 := Tryz.sizeOf20
  v20 := Tryz.zeroValue20
  t37 := Tryz.underlying144
  a37 := Tryz.isAgg144
  z37 := Tryz.sizeOf144
  v37 := Tryz.zeroValue144
  t46 := Tryz.underlying256
  a46 := Tryz.isAgg256
  z46 := Tryz.sizeOf256
  v46 := Tryz.zeroValue256
  t51 := Tryz.underlying284
  a51 := Tryz.isAgg284
  z51 := Tryz.sizeOf284
  v51 := Tryz.zeroValue284
  t53 := Tryz.underlying269
  a53 := Tryz.isAgg269
  z53 := Tryz.sizeOf269
  v53 := Tryz.zeroValue269
  t171 := Tryz.underlying268
  a171 := Tryz.isAgg268
  z171 := Tryz.sizeOf268
  v171 := Tryz.zeroValue268
  t173 := Tryz.underlying272
  a173 := Tryz.isAgg272
  z173 := Tryz.sizeOf272
  v173 := Tryz.zeroValue272
  t212 := Tryz.underlying288
  a212 := Tryz.isAgg288
  z212 := Tryz.sizeOf288
  v212 := Tryz.zeroValue288
  t213 := Tryz.underlying289
  a213 := Tryz.isAgg289
  z213 := Tryz.sizeOf289
  t232 := Tryz.underlying297
  a232 := Tryz.isAgg297
  z232 := Tryz.sizeOf297
  v232 := Tryz.zeroValue297
  t233 := Tryz.underlying298
  a233 := Tryz.isAgg298
  z233 := Tryz.sizeOf298
  v233 := Tryz.zeroValue298
  g17 := by kernel_rfl
  g18 := by kernel_rfl
  g19 := by kernel_rfl
  i0 := by kernel_rfl
  i2 := by kernel_rfl
  i3 := by kernel_rfl
  i4 := by kernel_rfl
  i5 := by kernel_rfl
  i9 := by kernel_rfl
  i20 := by kernel_rfl
  i37 := by kernel_rfl
  i46 := by kernel_rfl
  i51 := by kernel_rfl
  i53 := by kernel_rfl
  i171 := by kernel_rfl
  i173 := by kernel_rfl
  i212 := by kernel_rfl
  i232 := by kernel_rfl
  i233 := by kernel_rfl
  m17 := by kernel_rfl
  m18 := by kernel_rfl
  m19 := by kernel_rfl }
open Go.RowKit Go.Sort Go.Lib in
theorem Tryz.strconv_Itoa (n : Int) (h0 : -9223372036854775808 ≤ n) (h1 : n ≤ 9223372036854775807) (w : World) (htab : Lib.TabIs Tryz.prog w "internal/strconv.uint64pow10" .u64 Lib.pow10Tab) :
    Calls Tryz.prog 229 #[.int .i64 n] w fun e w' => e = .returned (.string ⟨(Lib.itoa n).toArray⟩) ∧ ∃ k os, w' = grow (w.drewN k) os := Any.strconv_Itoa Tryz.laysM171 n h0 h1 w htab
def Tryz.laysC172_ren : Go.Shelf.Ren := ⟨fun | 172 => 243 | 244 => 268 | 245 => 269 | 247 => 282 | 279 => 283 | 280 => 284 | 281 => 285 | 282 => 286 | 287 => 303 | 316 => 304 | 171 => 229 | 205 => 305 | 321 => 314 | 322 => 315 | 243 => 256 | 246 => 274 | 283 => 292 | 284 => 293 | 285 => 294 | 286 => 295 | 129 => 309 | 317 => 308 | 318 => 310 | 319 => 311 | 320 => 312 | 337 => 316 | 338 => 317 | n => n, fun | 9 => 9 | 3 => 3 | 75 => 227 | 76 => 236 | 4 => 4 | 5 => 5 | 167 => 260 | 37 => 144 | 0 => 0 | 85 => 261 | 2 => 2 | 168 => 263 | 53 => 269 | 175 => 279 | 46 => 256 | 210 => 282 | 127 => 253 | 145 => 295 | 143 => 293 | 21 => 21 | 171 => 268 | 173 => 272 | 212 => 288 | 51 => 284 | 20 => 20 | 213 => 289 | 232 => 297 | 233 => 298 | 80 => 242 | n => n, fun | 15 => 4 | 16 => 5 | 17 => 6 | 18 => 7 | 19 => 8 | n => n⟩
theorem Tryz.laysC172 : Go.Proofs.LaysC.n172 Tryz.prog Tryz.laysC172_ren := {
  mixed := by kernel_rfl
  f129 := Tryz.func309.trans (congrArg some (by kernel_rfl))
  f171 := Tryz.func229.trans (congrArg some (by kernel_rfl))
  f172 := Tryz.func243.trans (congrArg some (by kernel_rfl))
  f205 := Tryz.func305.trans (congrArg some (by kernel_rfl))
  f243 := Tryz.func256.trans (congrArg some (by kernel_rfl))
  f244 := Tryz.func268.trans (congrArg some (by kernel_rfl))
  f245 := Tryz.func269.trans (congrArg some (by kernel_rfl))
  f246 := Tryz.func274.trans (congrArg some (by kernel_rfl))
  f247 := Tryz.func282.trans (congrArg some (by kernel_rfl))
  f279 := Tryz.func283.trans (congrArg some (by kernel_rfl))
  f280 := Tryz.func284.trans (congrArg some (by kernel_rfl))
  f281 := Tryz.func285.trans (congrArg some (by kernel_rfl))
  f282 := Tryz.func286.trans (congrArg some (by kernel_rfl))
  f283 := Tryz.func292.trans (congrArg some (by kernel_rfl))
  f284 := Tryz.func293.trans (congrArg some (by kernel_rfl))
  f285 := Tryz.func294.trans (congrArg some (by kernel_rfl))
  f286 := Tryz.func295.trans (congrArg some (by kernel_rfl))
  f287 := Tryz.func303.trans (congrArg some (by kernel_rfl))
  f316 := Tryz.func304.trans (congrArg some (by kernel_rfl))
  f317 := Tryz.func308.trans (congrArg some (by kernel_rfl))
  f318 := Tryz.func310.trans (congrArg some (by kernel_rfl))
  f319 := Tryz.func311.trans (congrArg some (by kernel_rfl))
  f320 := Tryz.func312.trans (congrArg some (by kernel_rfl))
  f321 := Tryz.func314.trans (congrArg some (by kernel_rfl))
  f322 := Tryz.func315.trans (congrArg some (by kernel_rfl))
  f337 := Tryz.func316.trans (congrArg some (by kernel_rfl))
  f338 := Tryz.func317.trans (congrArg some (by kernel_rfl))
  t0 := Tryz.underlying0
  a0 := Tryz.isAgg0
  z0 := Tryz.sizeOf0
  v0 := Tryz.zeroValue0
  t2 := Tryz.underlying2
  a2 := Tryz.isAgg2
  z2 := Tryz.sizeOf2
  v2 := Tryz.zeroValue2
  t3 := Tryz.underlying3
  a3 := Tryz.isAgg3
  z3 := Tryz.sizeOf3
  v3 := Tryz.zeroValue3
  t4 := Tryz.underlying4
  a4 := Tryz.isAgg4
  z4 := Tryz.sizeOf4
  v4 := Tryz.zeroValue4
  t5 := Tryz.underlying5
  a5 := Tryz.isAgg5
  z5 := Tryz.sizeOf5
  v5 := Tryz.zeroValue5
  t9 := Tryz.underlying9
  a9 := Tryz.isAgg9
  z9 := Tryz.sizeOf9
  v9 := Tryz.zeroValue9
  t20 := Tryz.underlying20
  a20 := Tryz.isAgg20
  z20 := Tryz.sizeOf20
  v20 := Tryz.zeroValue20
  t21 := Tryz.underlying21
  a21 := Tryz.isAgg21
  z21 := Tryz.sizeOf21
  v21 := Tryz.zeroValue21
  t37 := Tryz.underlying144
  a37 := Tryz.isAgg144
  z37 := Tryz.sizeOf144
  v37 := Tryz.zeroValue144
  t46 := Tryz.underlying256
  a46 := Tryz.isAgg256
  z46 := Tryz.sizeOf256
  v46 := Tryz.zeroValue256
  t51 := Tryz.underlying284
  a51 := Tryz.isAgg284
  z51 := Tryz.sizeOf284
  v51 := Tryz.zeroValue284
  t53 := Tryz.underlying269
  a53 := Tryz.isAgg269
  z53 := Tryz.sizeOf269
  v53 := Tryz.zeroValue269
  t75 := Tryz.underlying227
  a75 := Tryz.isAgg227
  z75 := Tryz.sizeOf227
  v75 := Tryz.zeroValue227
  t76 := Tryz.underlying236
  a76 := Tryz.isAgg236
  z76 := Tryz.sizeOf236
  v76 := Tryz.zeroValue236
  t85 := Tryz.underlying261
  a85 := Tryz.isAgg261
  z85 := Tryz.sizeOf261
  v85 := Tryz.zeroValue261
  t127 := Tryz.underlying253
  a127 := Tryz.isAgg253
  z127 := Tryz.sizeOf253
  v127 := Tryz.zeroValue253
  t143 := Tryz.underlying293
  a143 := Tryz.isAgg293
  z143 := Tryz.sizeOf293
  v143 := Tryz.zeroValue293
  t145 := Tryz.underlying295
  a145 := Tryz.isAgg295
  z145 := Tryz.sizeOf295
  v145 := Tryz.zeroValue295
  t167 := Tryz.underlying260
  a167 := Tryz.isAgg260
  z167 := Tryz.sizeOf260
  v167 := Tryz.zeroValue260
  t168 := Tryz.underlying263
  a168 := Tryz.isAgg263
  z168 := Tryz.sizeOf263
  v168 := Tryz.zeroValue263
  t171 := Tryz.underlying268
  a171 := Tryz.isAgg268
  z171 := Tryz.sizeOf268
  v171 := Tryz.zeroValue268
  t173 := Tryz.underlying272
  a173 := Tryz.isAgg272
  z173 := Tryz.sizeOf272
  v173 := Tryz.zeroValue272
  t175 := Tryz.underlying279
  a175 := Tryz.isAgg279
  z175 := Tryz.sizeOf279
  v175 := Tryz.zeroValue279
  t210 := Tryz.underlying282
  a210 := Tryz.isAgg282
  z210 := Tryz.sizeOf282
  v210 := Tryz.zeroValue282
  t212 := Tryz.underlying288
  a212 := Tryz.isAgg288
  z212 := Tryz.sizeOf288
  v212 := Tryz.zeroValue288
  t213 := Tryz.underlying289
  a213 := Tryz.isAgg289
  z213 := Tryz.sizeOf289
  t232 := Tryz.underlying297
  a232 := Tryz.isAgg297
  z232 := Tryz.sizeOf297
  v232 := Tryz.zeroValue297
  t233 := Tryz.underlying298
  a233 := Tryz.isAgg298
  z233 := Tryz.sizeOf298
  v233 := Tryz.zeroValue298
  g15 := by kernel_rfl
  g16 := by kernel_rfl
  g17 := by kernel_rfl
  g18 := by kernel_rfl
  g19 := by kernel_rfl
  t80 := Tryz.underlying242
  a80 := Tryz.isAgg242
  z80 := Tryz.sizeOf242
  v80 := Tryz.zeroValue242
  i0 := by kernel_rfl
  i2 := by kernel_rfl
  i3 := by kernel_rfl
  i4 := by kernel_rfl
  i5 := by kernel_rfl
  i9 := by kernel_rfl
  i20 := by kernel_rfl
  i21 := by kernel_rfl
  i37 := by kernel_rfl
  i46 := by kernel_rfl
  i51 := by kernel_rfl
  i53 := by kernel_rfl
  i75 := by kernel_rfl
  i76 := by kernel_rfl
  i80 := by kernel_rfl
  i85 := by kernel_rfl
  i127 := by kernel_rfl
  i143 := by kernel_rfl
  i145 := by kernel_rfl
  i167 := by kernel_rfl
  i168 := by kernel_rfl
  i171 := by kernel_rfl
  i173 := by kernel_rfl
  i175 := by kernel_rfl
  i210 := by kernel_rfl
  i212 := by kernel_rfl
  i232 := by kernel_rfl
  i233 := by kernel_rfl
  m15 := by kernel_rfl
  m16 := by kernel_rfl
  m17 := by kernel_rfl
  m18 := by kernel_rfl
  m19 := by kernel_rfl
  c0 := by kernel_rfl
  c2 := by kernel_rfl
  c3 := by kernel_rfl
  c4 := by kernel_rfl
  c5 := by kernel_rfl
  c9 := by kernel_rfl
  c20 := by kernel_rfl
  c21 := by kernel_rfl
  c37 := by kernel_rfl
  c46 := by kernel_rfl
  c51 := by kernel_rfl
  c53 := by kernel_rfl
  c75 := by kernel_rfl
  c76 := by kernel_rfl
  c80 := by kernel_rfl
  c85 := by kernel_rfl
  c127 := by kernel_rfl
  c143 := by kernel_rfl
  c145 := by kernel_rfl
  c167 := by kernel_rfl
  c168 := by kernel_rfl
  c171 := by kernel_rfl
  c173 := by kernel_rfl
  c175 := by kernel_rfl
  c210 := by kernel_rfl
  c212 := by kernel_rfl
  c213 := by kernel_rfl
  c232 := by kernel_rfl
  c233 := by kernel_rfl }
open Go.RowKit in
theorem Tryz.strconv_Atoi_ok (s : ByteArray) (hmax : s.size ≤ 9223372036854775806) (v : Int) (h : Lib.atoiAll s.data.toList = .ok v) (w : World) :
    Calls Tryz.prog 243 #[.string s] w fun e w' => e = .returned (.tuple #[.int .i64 v, .nilIface]) ∧ (w' = w ∨ ∃ t, w' = Lib.bytesWorld w 5 t) := Any.strconv_Atoi_ok Tryz.laysC172 s hmax v h w
def Tryz.lays219_ren : Go.Shelf.Ren := ⟨fun | 219 => 270 | 217 => 287 | 225 => 288 | 224 => 289 | 267 => 290 | 266 => 306 | 314 => 307 | n => n, fun | 9 => 9 | 3 => 3 | 4 => 4 | 5 => 5 | 46 => 256 | 146 => 285 | 51 => 284 | n => n, fun | 1 => 1 | n => n⟩
theorem Tryz.lays219 : Go.Proofs.Lays.n219 Tryz.prog Tryz.lays219_ren := {
  mixed := by kernel_rfl
  f217 := Tryz.func287.trans (congrArg some (by kernel_rfl))
  f219 := Tryz.func270.trans (congrArg some (by kernel_rfl))
  f224 := Tryz.func289.trans (congrArg some (by kernel_rfl))
  f225 := Tryz.func288.trans (congrArg some (by kernel_rfl))
  f266 := Tryz.func306.trans (congrArg some (by kernel_rfl))
  f267 := Tryz.func290.trans (congrArg some (by kernel_rfl))
  f314 := Tryz.func307.trans (congrArg some (by kernel_rfl))
  t3 := Tryz.underlying3
  a3 := Tryz.isAgg3
  z3 := Tryz.sizeOf3
  v3 := Tryz.zeroValue3
  t4 := Tryz.underlying4
  a4 := Tryz.isAgg4
  z4 := Tryz.sizeOf4
  v4 := Tryz.zeroValue4
  t5 := Tryz.underlying5
  a5 := Tryz.isAgg5
  z5 := Tryz.sizeOf5
  v5 := Tryz.zeroValue5
  t9 := Tryz.underlying9
  a9 := Tryz.isAgg9
  z9 := Tryz.sizeOf9
  v9 := Tryz.zeroValue9
  t46 := Tryz.underlying256
  a46 := Tryz.isAgg256
  z46 := Tryz.sizeOf256
  v46 := Tryz.zeroValue256
  t51 := Tryz.underlying284
  a51 := Tryz.isAgg284
  z51 := Tryz.sizeOf284
  v51 := Tryz.zeroValue284
  t146 := Tryz.underlying285
  a146 := Tryz.isAgg285
  z146 := Tryz.sizeOf285
  v146 := Tryz.zeroValue285
  g1 := by kernel_rfl }
open Go.RowKit Go.Lib in
theorem Tryz.stringslite_Index_one (s : ByteArray) (c : UInt8) (w : World) :
    Calls Tryz.prog 270 #[.string s, .string ⟨#[c]⟩] w fun e w' => e = .returned (.int .i64 (Lib.indexByte s.data.toList c)) ∧ w' = w := Any.stringslite_Index_one Tryz.lays219 s c w
def Tryz.lays143_ren : Go.Shelf.Ren := ⟨fun | 143 => 265 | 219 => 270 | 217 => 287 | 225 => 288 | 224 => 289 | 267 => 290 | 266 => 306 | 314 => 307 | n => n, fun | 9 => 9 | 3 => 3 | 4 => 4 | 5 => 5 | 46 => 256 | 146 => 285 | 51 => 284 | n => n, fun | 1 => 1 | n => n⟩
theorem Tryz.lays143 : Go.Proofs.Lays.n143 Tryz.prog Tryz.lays143_ren := {
  mixed := by kernel_rfl
  f143 := Tryz.func265.trans (congrArg some (by kernel_rfl))
  f217 := Tryz.func287.trans (congrArg some (by kernel_rfl))
  f219 := Tryz.func270.trans (congrArg some (by kernel_rfl))
  f224 := Tryz.func289.trans (congrArg some (by kernel_rfl))
  f225 := Tryz.func288.trans (congrArg some (by kernel_rfl))
  f266 := Tryz.func306.trans (congrArg some (by kernel_rfl))
  f267 := Tryz.func290.trans (congrArg some (by kernel_rfl))
  f314 := Tryz.func307.trans (congrArg some (by kernel_rfl))
  t3 := Tryz.underlying3
  a3 := Tryz.isAgg3
  z3 := Tryz.sizeOf3
  v3 := Tryz.zeroValue3
  t4 := Tryz.underlying4
  a4 := Tryz.isAgg4
  z4 := Tryz.sizeOf4
  v4 := Tryz.zeroValue4
  t5 := Tryz.underlying5
  a5 := Tryz.isAgg5
  z5 := Tryz.sizeOf5
  v5 := Tryz.zeroValue5
  t9 := Tryz.underlying9
  a9 := Tryz.isAgg9
  z9 := Tryz.sizeOf9
  v9 := Tryz.zeroValue9
  t46 := Tryz.underlying256
  a46 := Tryz.isAgg256
  z46 := Tryz.sizeOf256
  v46 := Tryz.zeroValue256
  t51 := Tryz.underlying284
  a51 := Tryz.isAgg284
  z51 := Tryz.sizeOf284
  v51 := Tryz.zeroValue284
  t146 := Tryz.underlying285
  a146 := Tryz.isAgg285
  z146 := Tryz.sizeOf285
  v146 := Tryz.zeroValue285
  g1 := by kernel_rfl }
open Go.RowKit Go.Lib in
theorem Tryz.strings_Index_one (s : ByteArray) (c : UInt8) (w : World) :
    Calls Tryz.prog 265 #[.string s, .string ⟨#[c]⟩] w fun e w' => e = .returned (.int .i64 (Lib.indexByte s.data.toList c)) ∧ w' = w := Any.strings_Index_one Tryz.lays143 s c w
def Tryz.lays100_ren : Go.Shelf.Ren := ⟨fun | 100 => 216 | 207 => 241 | n => n, fun | 9 => 9 | 4 => 4 | 3 => 3 | n => n, fun | n => n⟩
theorem Tryz.lays100 : Go.Proofs.Lays.n100 Tryz.prog Tryz.lays100_ren := {
  mixed := by kernel_rfl
  f100 := Tryz.func216.trans (congrArg some (by kernel_rfl))
  f207 := Tryz.func241.trans (congrArg some (by kernel_rfl))
  t3 := Tryz.underlying3
  a3 := Tryz.isAgg3
  z3 := Tryz.sizeOf3
  v3 := Tryz.zeroValue3
  t4 := Tryz.underlying4
  a4 := Tryz.isAgg4
  z4 := Tryz.sizeOf4
  v4 := Tryz.zeroValue4
  t9 := Tryz.underlying9
  a9 := Tryz.isAgg9
  z9 := Tryz.sizeOf9
  v9 := Tryz.zeroValue9 }
open Go.RowKit Go.Lib in
theorem Tryz.strings_HasSuffix (s p : ByteArray) (w : World) (hs : s.size ≤ 9223372036854775807) :
    Calls Tryz.prog 216 #[.string s, .string p] w fun e w' => e = .returned (.bool (Lib.hasSuffix s.data.toList p.data.toList)) ∧ w' = w := Any.strings_HasSuffix Tryz.lays100 s p w hs
def Tryz.lays221_ren : Go.Shelf.Ren := ⟨fun | 221 => 242 | 268 => 266 | 138 => 267 | 143 => 265 | 195 => 280 | 197 => 264 | 218 => 281 | 219 => 270 | 260 => 279 | 217 => 287 | 225 => 288 | 224 => 289 | 267 => 290 | 266 => 306 | 314 => 307 | n => n, fun | 9 => 9 | 3 => 3 | 31 => 30 | 4 => 4 | 0 => 0 | 105 => 248 | 21 => 21 | 5 => 5 | 46 => 256 | 119 => 275 | 139 => 278 | 138 => 277 | 146 => 285 | 51 => 284 | n => n, fun | 1 => 1 | 3 => 2 | 4 => 3 | n => n⟩
theorem Tryz.lays221 : Go.Proofs.Lays.n221 Tryz.prog Tryz.lays221_ren := {
  mixed := by kernel_rfl
  f138 := Tryz.func267.trans (congrArg some (by kernel_rfl))
  f143 := Tryz.func265.trans (congrArg some (by kernel_rfl))
  f195 := Tryz.func280.trans (congrArg some (by kernel_rfl))
  f197 := Tryz.func264.trans (congrArg some (by kernel_rfl))
  f217 := Tryz.func287.trans (congrArg some (by kernel_rfl))
  f218 := Tryz.func281.trans (congrArg some (by kernel_rfl))
  f219 := Tryz.func270.trans (congrArg some (by kernel_rfl))
  f221 := Tryz.func242.trans (congrArg some (by kernel_rfl))
  f224 := Tryz.func289.trans (congrArg some (by kernel_rfl))
  f225 := Tryz.func288.trans (congrArg some (by kernel_rfl))
  f260 := Tryz.func279.trans (congrArg some (by kernel_rfl))
  f266 := Tryz.func306.trans (congrArg some (by kernel_rfl))
  f267 := Tryz.func290.trans (congrArg some (by kernel_rfl))
  f268 := Tryz.func266.trans (congrArg some (by kernel_rfl))
  f314 := Tryz.func307.trans (congrArg some (by kernel_rfl))
  t0 := Tryz.underlying0
  a0 := Tryz.isAgg0
  z0 := Tryz.sizeOf0
  v0 := Tryz.zeroValue0
  t3 := Tryz.underlying3
  a3 := Tryz.isAgg3
  z3 := Tryz.sizeOf3
  v3 := Tryz.zeroValue3
  t4 := Tryz.underlying4
  a4 := Tryz.isAgg4
  z4 := Tryz.sizeOf4
  v4 := Tryz.zeroValue4
  t5 := Tryz.underlying5
  a5 := Tryz.isAgg5
  z5 := Tryz.sizeOf5
  v5 := Tryz.zeroValue5
  t9 := Tryz.underlying9
  a9 := Tryz.isAgg9
  z9 := Tryz.sizeOf9
  v9 := Tryz.zeroValue9
  t21 := Tryz.underlying21
  a21 := Tryz.isAgg21
  z21 := Tryz.sizeOf21
  v21 := Tryz.zeroValue21
  t31 := Tryz.underlying30
  a31 := Tryz.isAgg30
  z31 := Tryz.sizeOf30
  v31 := Tryz.zeroValue30
  t46 := Tryz.underlying256
  a46 := Tryz.isAgg256
  z46 := Tryz.sizeOf256
  v46 := Tryz.zeroValue256
  t51 := Tryz.underlying284
  a51 := Tryz.isAgg284
  z51 := Tryz.sizeOf284
  v51 := Tryz.zeroValue284
  t105 := Tryz.underlying248
  a105 := Tryz.isAgg248
  z105 := Tryz.sizeOf248
  v105 := Tryz.zeroValue248
  t119 := Tryz.underlying275
  a119 := Tryz.isAgg275
  z119 := Tryz.sizeOf275
  t138 := Tryz.underlying277
  a138 := Tryz.isAgg277
  z138 := Tryz.sizeOf277
  v138 := Tryz.zeroValue277
  t139 := Tryz.underlying278
  a139 := Tryz.isAgg278
  z139 := Tryz.sizeOf278
  v139 := Tryz.zeroValue278
  t146 := Tryz.underlying285
  a146 := Tryz.isAgg285
  z146 := Tryz.sizeOf285
  v146 := Tryz.zeroValue285
  g1 := by kernel_rfl
  g3 := by kernel_rfl
  g4 := by kernel_rfl }
def Tryz.laysPa41_ren : Go.Shelf.Ren := ⟨fun | 41 => 254 | n => n, fun | 3 => 3 | n => n, fun | n => n⟩
theorem Tryz.laysPa41 : Go.Proofs.Lays.p41 Tryz.prog Tryz.laysPa41_ren := {
  mixed := by kernel_rfl
  f41 := Tryz.func254.trans (congrArg some (by kernel_rfl))
  t3 := Tryz.underlying3
  a3 := Tryz.isAgg3
  z3 := Tryz.sizeOf3
  v3 := Tryz.zeroValue3 }
open Go.RowKit Go.Lib in
theorem Tryz.hex_EncodedLen (n : Int) (h0 : 0 ≤ n) (h1 : n < 4611686018427387904) (w : World) :
    Calls Tryz.prog 254 #[.int .i64 n] w fun e w' => e = .returned (.int .i64 (n * 2)) ∧ w' = w := Any.hex_EncodedLen Tryz.laysPa41 n h0 h1 w
def Tryz.laysPah39_ren : Go.Shelf.Ren := ⟨fun | 39 => 227 | 41 => 254 | 40 => 255 | n => n, fun | 30 => 144 | 9 => 9 | 3 => 3 | 0 => 0 | 5 => 5 | 46 => 256 | n => n, fun | n => n⟩
theorem Tryz.laysPah39 : Go.Proofs.Lays.ph39 Tryz.prog Tryz.laysPah39_ren := {
  mixed := by kernel_rfl
  f39 := Tryz.func227.trans (congrArg some (by kernel_rfl))
  f40 := Tryz.func255.trans (congrArg some (by kernel_rfl))
  f41 := Tryz.func254.trans (congrArg some (by kernel_rfl))
  t0 := Tryz.underlying0
  a0 := Tryz.isAgg0
  z0 := Tryz.sizeOf0
  v0 := Tryz.zeroValue0
  t3 := Tryz.underlying3
  a3 := Tryz.isAgg3
  z3 := Tryz.sizeOf3
  v3 := Tryz.zeroValue3
  t5 := Tryz.underlying5
  a5 := Tryz.isAgg5
  z5 := Tryz.sizeOf5
  v5 := Tryz.zeroValue5
  t9 := Tryz.underlying9
  a9 := Tryz.isAgg9
  z9 := Tryz.sizeOf9
  v9 := Tryz.zeroValue9
  t30 := Tryz.underlying144
  a30 := Tryz.isAgg144
  z30 := Tryz.sizeOf144
  v30 := Tryz.zeroValue144
  t46 := Tryz.underlying256
  a46 := Tryz.isAgg256
  z46 := Tryz.sizeOf256
  v46 := Tryz.zeroValue256
  info5 := by kernel_rfl }
def Tryz.laysPah43_ren : Go.Shelf.Ren := ⟨fun | 43 => 226 | 42 => 252 | 44 => 253 | n => n, fun | 9 => 9 | 30 => 144 | 35 => 227 | 3 => 3 | 38 => 236 | 4 => 4 | 0 => 0 | 5 => 5 | 47 => 255 | 46 => 256 | 45 => 242 | n => n, fun | 0 => 0 | n => n⟩
theorem Tryz.laysPah43 : Go.Proofs.Lays.ph43 Tryz.prog Tryz.laysPah43_ren := {
  mixed := by kernel_rfl
  f42 := Tryz.func252.trans (congrArg some (by kernel_rfl))
  f43 := Tryz.func226.trans (congrArg some (by kernel_rfl))
  f44 := Tryz.func253.trans (congrArg some (by kernel_rfl))
  t0 := Tryz.underlying0
  a0 := Tryz.isAgg0
  z0 := Tryz.sizeOf0
  v0 := Tryz.zeroValue0
  t3 := Tryz.underlying3
  a3 := Tryz.isAgg3
  z3 := Tryz.sizeOf3
  v3 := Tryz.zeroValue3
  t4 := Tryz.underlying4
  a4 := Tryz.isAgg4
  z4 := Tryz.sizeOf4
  v4 := Tryz.zeroValue4
  t5 := Tryz.underlying5
  a5 := Tryz.isAgg5
  z5 := Tryz.sizeOf5
  v5 := Tryz.zeroValue5
  t9 := Tryz.underlying9
  a9 := Tryz.isAgg9
  z9 := Tryz.sizeOf9
  v9 := Tryz.zeroValue9
  t30 := Tryz.underlying144
  a30 := Tryz.isAgg144
  z30 := Tryz.sizeOf144
  v30 := Tryz.zeroValue144
  t35 := Tryz.underlying227
  a35 := Tryz.isAgg227
  z35 := Tryz.sizeOf227
  v35 := Tryz.zeroValue227
  t38 := Tryz.underlying236
  a38 := Tryz.isAgg236
  z38 := Tryz.sizeOf236
  v38 := Tryz.zeroValue236
  t45 := Tryz.underlying242
  a45 := Tryz.isAgg242
  z45 := Tryz.sizeOf242
  v45 := Tryz.zeroValue242
  t46 := Tryz.underlying256
  a46 := Tryz.isAgg256
  z46 := Tryz.sizeOf256
  v46 := Tryz.zeroValue256
  t47 := Tryz.underlying255
  a47 := Tryz.isAgg255
  z47 := Tryz.sizeOf255
  v47 := Tryz.zeroValue255
  g0 := by kernel_rfl
  info5 := by kernel_rfl }
open Go.RowKit Go.Lib in
theorem Tryz.hex_DecodeString_owns (s : ByteArray) (w : World) (ev : Value) (hE : w.cell? ⟨0, 0, none⟩ = some ev) (hbig : s.size ≤ 281474976710656) :
    Calls Tryz.prog 226 #[.string s] w fun e w' => ∃ v, e = .returned (.tuple #[v, Hx.errVal 255 ev (Hx.decode s.data.toList).2]) ∧
      w'.ownsRow w.heap.size 5 1 v (Hx.decode s.data.toList).1.length ((Hx.decode s.data.toList).1.map fun b => Value.int .u8 (b.toNat : Int)) ∧ Below w.heap.size w w' := Any.hex_DecodeString_owns Tryz.laysPah43 s w ev hE hbig
open Go.RowKit Go.Lib in
theorem Tryz.hex_EncodeToString_bytes (bs os cs : Nat) (l : List UInt8) (w : World) (hsrc : ∀ i (h : i < l.length), w.cell? ⟨bs, os + i, none⟩ = some (.int .u8 ((l[i]'h).toNat : Int))) (hb : bs < w.heap.size) (hbig : 2 * l.length ≤ 281474976710656) :
    Calls Tryz.prog 227 #[.slice (some ⟨bs, os, none⟩) l.length cs] w fun e w' => e = .returned (.string ⟨(Hx.encode l).toArray⟩) ∧ Below w.heap.size w w' := Any.hex_EncodeToString_bytes Tryz.laysPah39 bs os cs l w hsrc hb hbig
end Go.Proofs

namespace Go.Proofs.YtppialklomgajaaGreatDoor.Fw
open Go.RowKit
def strconv_Itoa (p0 : Int) : ByteArray := ⟨(Lib.itoa p0).toArray⟩
theorem Ymt : gl6 = Lib.pow10Tab := by decide
open Go.Sort in
theorem Yge (w : World) (k : Nat) (os : Array Obj) : Below w.heap.size w (grow (w.drewN k) os) := by
  refine ⟨rfl, rfl, rfl, by simp [grow, World.drewN], fun b hb => ?_⟩
  show (w.heap ++ os)[b]? = w.heap[b]?
  rw [Array.getElem?_append_left hb]
theorem Qy3 (p0 : Int) {w : World} (hi0 : I64 p0) (hG7 : GV 6 (gl6.map (Value.int .u64)) w) :
    Calls Tryz.prog 229 [.int .i64 p0].toArray w (fun e w' => e = .returned (.string (strconv_Itoa p0)) ∧ Below w.heap.size w w') := by
  have ht : Lib.TabIs Tryz.prog w "internal/strconv.uint64pow10" .u64 Lib.pow10Tab := by
    rw [← Ymt]
    exact hG7.var (by kernel_rfl)
  refine (Tryz.strconv_Itoa p0 hi0.1 hi0.2 w ht).mono fun e w2 h => ?_
  obtain ⟨h1, k, os, rfl⟩ := h
  exact ⟨h1, Yge w k os⟩
end Go.Proofs.YtppialklomgajaaGreatDoor.Fw

namespace Go.Proofs.YtppialklomgajaaGreatDoor.Fw
open Go.RowKit
def Qbz (p0 : Int) (p1 : Int) (p2 : Int) : Bool := (decide (p0 ≥ p1)) && (decide (p0 ≤ p2))
theorem Q6z (p0 : Int) (p1 : Int) (p2 : Int) {w : World}  :
    Calls Tryz.prog 158 [.int .i64 p0, .int .i64 p1, .int .i64 p2].toArray w (fun e w' => e = .returned (.bool (Qbz p0 p1 p2)) ∧ Below w.heap.size w w') := by
  refine enter Tryz.func158 rfl Tryz.ntmps158 (Nat.le_of_ble_eq_true rfl) ?_
  intro a0 hE0
  have hS0 := SH.start w
  have hM := Qbz.eq_1 p0 p1 p2
  refine wp_seq (wp_region_lit ?_)
  refine Qas hE0 (Qcf hE0 rfl) rfl fun a1 hE1 => wpList_nil ?_
  clear hE0
  clear a0
  refine Qai ?_
  refine wp_seq (wp_region_lit ?_)
  refine Qas hE1 (Qdk hE1 rfl) rfl fun a2 hE2 => Qas hE2 (Qdk hE2 rfl) rfl fun a3 hE3 => Qas hE3 (Yk6 hE3 rfl rfl) rfl fun a4 hE4 => Qas hE4 (Qdk hE4 rfl) rfl fun a5 hE5 => ?_
  refine Yjy 4 (fun a w2 => ∃ r : Bool, r = ((decide (p0 ≥ p1)) && (decide (p0 ≤ p2))) ∧ SH (Old w) w w2 [] ∧ Env 15 ((14, .bool r) :: [(0, .int .i64 p0), (1, .int .i64 p1), (2, .int .i64 p2), (6, .bool false), (7, .int .i64 p0), (8, .int .i64 p1), (9, .bool (decide (p0 ≥ p1))), (10, .bool (decide (p0 ≥ p1)))]) a) ?_ ?_
  ·
    rcases Bool.eq_false_or_eq_true (decide (p0 ≥ p1)) with hb7 | hb7
    ·
      have hb7f : p0 ≥ p1 := of_decide_eq_true hb7
      refine Q5h hE5 rfl rfl rfl hb7 <| Qas hE5 (Qdk hE5 rfl) rfl fun a8 hE8 => Q5h hE8 rfl rfl rfl hb7 <| Qas hE8 (Qdk hE8 rfl) rfl fun a9 hE9 => Q5h hE9 rfl rfl rfl hb7 <| Qas hE9 (Yk5 hE9 rfl rfl) rfl fun a10 hE10 => Qas hE10 (Qwn hE10 rfl hb7 rfl) rfl fun a11 hE11 => wpList_nil ?_
      exact ⟨decide (p0 ≤ p2), by simp only [hb7, Bool.true_and, Bool.false_and, Bool.true_or, Bool.false_or, Bool.and_true, Bool.or_true, Bool.and_false, Bool.or_false], hS0, hE11.weaken ⟨rfl, rfl, rfl, rfl, rfl, rfl, rfl, rfl, rfl, trivial⟩⟩
    ·
      have hb7f : ¬ (p0 ≥ p1) := of_decide_eq_false hb7
      refine Qo9 hE5 rfl rfl rfl hb7 rfl fun a12 hE12 => Qo9 hE12 rfl rfl rfl hb7 rfl fun a13 hE13 => Qo9 hE13 rfl rfl rfl hb7 rfl fun a14 hE14 => Qas hE14 (Qwo hE14 rfl hb7 rfl) rfl fun a15 hE15 => wpList_nil ?_
      exact ⟨false, by simp only [hb7, Bool.true_and, Bool.false_and, Bool.true_or, Bool.false_or, Bool.and_true, Bool.or_true, Bool.and_false, Bool.or_false], hS0, hE15.weaken ⟨rfl, rfl, rfl, rfl, rfl, rfl, rfl, rfl, rfl, trivial⟩⟩
  rintro a16 w16 ⟨r16, hr16, hS16, hE16⟩
  subst hr16
  clear hE5 hE1 hE2 hE3 hE4
  refine Qas hE16 (Qcf hE16 rfl) rfl fun a17 hE17 => wpList_nil ?_
  clear hE16
  clear a16
  refine Qai ?_
  refine wp_ret ?_
  exact fin1 hE17 rfl rfl ⟨by rw [hM], hS16.below⟩
def Qb1 (p0 : Int) (p1 : Int) (p2 : Int) : Bool := (decide (p0 ≥ p1)) && (decide (p0 ≤ p2))
theorem Yaq (p0 : Int) (p1 : Int) (p2 : Int) {w : World}  :
    Calls Tryz.prog 146 [.int .i64 p0, .int .i64 p1, .int .i64 p2].toArray w (fun e w' => e = .returned (.bool (Qb1 p0 p1 p2)) ∧ Below w.heap.size w w') := by
  refine enter Tryz.func146 rfl Tryz.ntmps146 (Nat.le_of_ble_eq_true rfl) ?_
  intro a0 hE0
  have hS0 := SH.start w
  have hM := Qb1.eq_1 p0 p1 p2
  refine wp_seq (wp_region_lit ?_)
  refine Qas hE0 (Qcf hE0 rfl) rfl fun a1 hE1 => wpList_nil ?_
  clear hE0
  clear a0
  refine Qai ?_
  refine wp_seq (wp_region_lit ?_)
  refine Qas hE1 (Qdk hE1 rfl) rfl fun a2 hE2 => Qas hE2 (Qdk hE2 rfl) rfl fun a3 hE3 => Qas hE3 (Yk6 hE3 rfl rfl) rfl fun a4 hE4 => Qas hE4 (Qdk hE4 rfl) rfl fun a5 hE5 => ?_
  refine Yjy 4 (fun a w2 => ∃ r : Bool, r = ((decide (p0 ≥ p1)) && (decide (p0 ≤ p2))) ∧ SH (Old w) w w2 [] ∧ Env 15 ((14, .bool r) :: [(0, .int .i64 p0), (1, .int .i64 p1), (2, .int .i64 p2), (6, .bool false), (7, .int .i64 p0), (8, .int .i64 p1), (9, .bool (decide (p0 ≥ p1))), (10, .bool (decide (p0 ≥ p1)))]) a) ?_ ?_
  ·
    rcases Bool.eq_false_or_eq_true (decide (p0 ≥ p1)) with hb7 | hb7
    ·
      have hb7f : p0 ≥ p1 := of_decide_eq_true hb7
      refine Q5h hE5 rfl rfl rfl hb7 <| Qas hE5 (Qdk hE5 rfl) rfl fun a8 hE8 => Q5h hE8 rfl rfl rfl hb7 <| Qas hE8 (Qdk hE8 rfl) rfl fun a9 hE9 => Q5h hE9 rfl rfl rfl hb7 <| Qas hE9 (Yk5 hE9 rfl rfl) rfl fun a10 hE10 => Qas hE10 (Qwn hE10 rfl hb7 rfl) rfl fun a11 hE11 => wpList_nil ?_
      exact ⟨decide (p0 ≤ p2), by simp only [hb7, Bool.true_and, Bool.false_and, Bool.true_or, Bool.false_or, Bool.and_true, Bool.or_true, Bool.and_false, Bool.or_false], hS0, hE11.weaken ⟨rfl, rfl, rfl, rfl, rfl, rfl, rfl, rfl, rfl, trivial⟩⟩
    ·
      have hb7f : ¬ (p0 ≥ p1) := of_decide_eq_false hb7
      refine Qo9 hE5 rfl rfl rfl hb7 rfl fun a12 hE12 => Qo9 hE12 rfl rfl rfl hb7 rfl fun a13 hE13 => Qo9 hE13 rfl rfl rfl hb7 rfl fun a14 hE14 => Qas hE14 (Qwo hE14 rfl hb7 rfl) rfl fun a15 hE15 => wpList_nil ?_
      exact ⟨false, by simp only [hb7, Bool.true_and, Bool.false_and, Bool.true_or, Bool.false_or, Bool.and_true, Bool.or_true, Bool.and_false, Bool.or_false], hS0, hE15.weaken ⟨rfl, rfl, rfl, rfl, rfl, rfl, rfl, rfl, rfl, trivial⟩⟩
  rintro a16 w16 ⟨r16, hr16, hS16, hE16⟩
  subst hr16
  clear hE5 hE1 hE2 hE3 hE4
  refine Qas hE16 (Qcf hE16 rfl) rfl fun a17 hE17 => wpList_nil ?_
  clear hE16
  clear a16
  refine Qai ?_
  refine wp_ret ?_
  exact fin1 hE17 rfl rfl ⟨by rw [hM], hS16.below⟩
theorem Qfw {a b c : Int} (h : Qbz a b c = true) : b ≤ a ∧ a ≤ c := by simpa [Qbz] using h
theorem Qez {a b c : Int} (h : Qb1 a b c = true) : b ≤ a ∧ a ≤ c := by simpa [Qb1] using h
end Go.Proofs.YtppialklomgajaaGreatDoor.Fw

namespace Go.Proofs.YtppialklomgajaaGreatDoor.Fw
open Go.RowKit
theorem Yot : Qov Tryz.prog 3 5 .u8 = true := by kernel_rfl
theorem Yor : Tryz.f224.body.isNone = false := rfl
theorem Yrd : Tryz.f229.body.isNone = false := rfl
theorem Yop : (Tryz.f224.name == "runtime.NumGoroutine") = false := by kernel_rfl
theorem Yrc : (Tryz.f229.name == "runtime.NumGoroutine") = false := by kernel_rfl
def Qbl (p0 : Int) : Int := (if (decide (p0 < 10)) = true then IntKind.u8.wrap (IntKind.i64.wrap (48 + p0)) else IntKind.u8.wrap (IntKind.i64.wrap (IntKind.i64.wrap (97 + p0) - 10)))
theorem Qik (p0 : Int) {w : World}  :
    Calls Tryz.prog 224 [.int .i64 p0].toArray w (fun e w' => e = .returned (.int .u8 (Qbl p0)) ∧ Below w.heap.size w w') := by
  refine enter Tryz.func224 rfl Tryz.ntmps224 (Nat.le_of_ble_eq_true rfl) ?_
  intro a0 hE0
  have hS0 := SH.start w
  have hM := Qbl.eq_1 p0
  refine wp_seq (wp_region_lit ?_)
  refine Qas hE0 (Qcf hE0 rfl) rfl fun a1 hE1 => wpList_nil ?_
  clear hE0
  clear a0
  refine Qai ?_
  refine wp_seq (wp_seq (wp_region_lit ?_))
  refine Qas hE1 (Qdk hE1 rfl) rfl fun a2 hE2 => Qas hE2 (Ygm hE2 rfl rfl) rfl fun a3 hE3 => wpList_nil ?_
  clear hE1 hE2
  clear a1 a2
  refine Qai ?_
  refine Qg7 hE3 rfl (fun hb4 => ?_) (fun hb4 => ?_)
  ·
    have hM := hM.trans (if_t hb4)
    have hb4f : p0 < 10 := of_decide_eq_true hb4
    refine wp_seq (wp_region_lit ?_)
    refine Qas hE3 (Qdk hE3 rfl) rfl fun a5 hE5 => Qas hE5 (Yik hE5 rfl rfl) rfl fun a6 hE6 => Qas hE6 (Q5v hE6 rfl Yot) rfl fun a7 hE7 => Qas hE7 (Qcf hE7 rfl) rfl fun a8 hE8 => wpList_nil ?_
    clear hE3 hE5 hE6 hE7
    clear a3 a5 a6 a7
    refine Qai ?_
    refine wp_ret ?_
    refine Q5w ?_
    exact fin1 hE8 rfl rfl ⟨by rw [hM], hS0.below⟩
  ·
    have hM := hM.trans (if_f hb4)
    have hb4f : ¬ (p0 < 10) := of_decide_eq_false hb4
    refine wp_skip ?_
    refine Qai ?_
    refine wp_seq (wp_region_lit ?_)
    refine Qas hE3 (Qdk hE3 rfl) rfl fun a9 hE9 => Qas hE9 (Yik hE9 rfl rfl) rfl fun a10 hE10 => Qas hE10 (Yma hE10 rfl rfl) rfl fun a11 hE11 => Qas hE11 (Q5v hE11 rfl Yot) rfl fun a12 hE12 => Qas hE12 (Qcf hE12 rfl) rfl fun a13 hE13 => wpList_nil ?_
    clear hE3 hE9 hE10 hE11 hE12
    clear a3 a9 a10 a11 a12
    refine Qai ?_
    refine wp_ret ?_
    exact fin1 hE13 rfl rfl ⟨by rw [hM], hS0.below⟩
def Qb6 (p0 : Int) (s1_0 : Int) (s1_4 : ByteArray) : ByteArray := (if (decide (p0 < 0)) = true then ((⟨#[45]⟩ : ByteArray) ++ s1_4) else s1_4)
def Qcb (p0 : Int) : Nat → Int → ByteArray → ByteArray
  | 0, s1_0, s1_4 => Qb6 p0 s1_0 s1_4
  | fu1 + 1, s1_0, s1_4 => if (!decide (s1_0 = 0)) = true then (if (decide (Int.tmod s1_0 10 < 0)) = true then Qcb p0 fu1 (IntKind.i64.wrap (Int.tdiv s1_0 10)) ((strOfNums [(Qbl (IntKind.i64.wrap (-(Int.tmod s1_0 10))))]) ++ s1_4) else Qcb p0 fu1 (IntKind.i64.wrap (Int.tdiv s1_0 10)) ((strOfNums [(Qbl (Int.tmod s1_0 10))]) ++ s1_4)) else Qb6 p0 s1_0 s1_4
def Qbn (p0 : Int) : ByteArray := (if (decide (p0 = 0)) = true then (⟨#[48]⟩ : ByteArray) else Qcb p0 (p0.natAbs) p0 (⟨#[]⟩ : ByteArray))
theorem Qy8 (p0 : Int) {w : World} (hi0 : I64 p0) :
    Calls Tryz.prog 174 [.int .i64 p0].toArray w (fun e w' => e = .returned (.string (Qbn p0)) ∧ Below w.heap.size w w') := by
  refine enter Tryz.func174 rfl Tryz.ntmps174 (Nat.le_of_ble_eq_true rfl) ?_
  intro a0 hE0
  have hS0 := SH.start w
  have hM := Qbn.eq_1 p0
  have hij0 : -9223372036854775808 ≤ p0 ∧ p0 ≤ 9223372036854775807 := hi0
  refine wp_seq (wp_region_lit ?_)
  refine Qas hE0 (Qcf hE0 rfl) rfl fun a1 hE1 => wpList_nil ?_
  clear hE0
  clear a0
  refine Qai ?_
  refine wp_seq (wp_seq (wp_region_lit ?_))
  refine Qas hE1 (Qdk hE1 rfl) rfl fun a2 hE2 => Qas hE2 (Yk8 hE2 rfl rfl) rfl fun a3 hE3 => wpList_nil ?_
  clear hE1 hE2
  clear a1 a2
  refine Qai ?_
  refine Qg7 hE3 rfl (fun hb4 => ?_) (fun hb4 => ?_)
  ·
    have hM := hM.trans (if_t hb4)
    have hb4f : p0 = 0 := by simpa using hb4
    refine wp_seq (wp_region_lit ?_)
    refine Qas hE3 (Qcf hE3 rfl) rfl fun a5 hE5 => wpList_nil ?_
    clear hE3
    clear a3
    refine Qai ?_
    refine wp_ret ?_
    refine Q5w ?_
    exact fin1 hE5 rfl rfl ⟨by rw [hM], hS0.below⟩
  ·
    have hM := hM.trans (if_f hb4)
    have hb4f : ¬ (p0 = 0) := by simpa using hb4
    refine wp_skip ?_
    refine Qai ?_
    refine wp_seq (wp_region_lit ?_)
    refine Qas hE3 (Qdk hE3 rfl) rfl fun a6 hE6 => Qas hE6 (Ygm hE6 rfl rfl) rfl fun a7 hE7 => Qas hE7 (Qcf hE7 rfl) rfl fun a8 hE8 => wpList_nil ?_
    clear hE3 hE6 hE7
    clear a3 a6 a7
    refine Qai ?_
    refine wp_seq (wp_region_lit ?_)
    refine Qas hE8 (Qcf hE8 rfl) rfl fun a9 hE9 => wpList_nil ?_
    clear hE8
    clear a8
    refine Qai ?_
    refine wp_seq (wp_block (wp_loop_ghost (fun fu1 a w2 => ∃ (s1_0 : Int) (s1_4 : ByteArray), s1_0.natAbs ≤ fu1 ∧ dig s1_4.size (s1_0.natAbs : Int) ∧ I64 s1_0 ∧ Qbn p0 = Qcb p0 fu1 s1_0 s1_4 ∧ Env 30 [(0, .int .i64 s1_0), (3, .bool (decide (p0 < 0))), (4, .string s1_4)] a ∧ SH (Old w) w w2 []) (p0.natAbs) ⟨p0, (⟨#[]⟩ : ByteArray), Nat.le_refl _, (show dig 0 _ from ⟨by omega, by simp; omega⟩), hi0, hM, hE9.weaken ⟨rfl, rfl, rfl, trivial⟩, hS0⟩ ?_))
    clear hM hE9
    rintro fu1 a10 w10 ⟨s1_0, s1_4, hme1, hin1_0, hgis1_0, hM, hE10, hS10⟩
    have hgjs1_0 : -9223372036854775808 ≤ s1_0 ∧ s1_0 ≤ 9223372036854775807 := hgis1_0
    refine wp_seq (wp_seq (wp_region_lit ?_))
    refine Qas hE10 (Qdk hE10 rfl) rfl fun a11 hE11 => Qas hE11 (Ymc hE11 rfl rfl) rfl fun a12 hE12 => wpList_nil ?_
    clear hE10 hE11
    clear a10 a11
    refine Qai ?_
    refine Qg7 hE12 rfl (fun hb13 => ?_) (fun hb13 => ?_)
    ·
      have hb13f : ¬ (s1_0 = 0) := by simpa using hb13
      obtain ⟨fu1, rfl⟩ : ∃ m, fu1 = m + 1 := ⟨fu1 - 1, by omega⟩
      have hM := hM.trans ((Qcb.eq_2 _ _ _ _).trans (if_t hb13))
      refine wp_skip ?_
      refine Qai ?_
      refine wp_block (wp_seq (wp_region_lit ?_))
      refine Qas hE12 (Qdk hE12 rfl) rfl fun a14 hE14 => Qas hE14 (Yij hE14 rfl rfl (by decide)) rfl fun a15 hE15 => Qas hE15 (Qcf hE15 rfl) rfl fun a16 hE16 => wpList_nil ?_
      clear hE12 hE14 hE15
      clear a12 a14 a15
      refine Qai ?_
      refine wp_seq (wp_seq (wp_region_lit ?_))
      refine Qas hE16 (Qdk hE16 rfl) rfl fun a17 hE17 => Qas hE17 (Ygm hE17 rfl rfl) rfl fun a18 hE18 => wpList_nil ?_
      clear hE16 hE17
      clear a16 a17
      refine Qai ?_
      refine Qg7 hE18 rfl (fun hb19 => ?_) (fun hb19 => ?_)
      ·
        have hM := hM.trans (if_t hb19)
        have hb19f : Int.tmod s1_0 10 < 0 := of_decide_eq_true hb19
        refine wp_region_lit ?_
        refine Qas hE18 (Qdk hE18 rfl) rfl fun a20 hE20 => Qas hE20 (Ymd hE20 rfl) rfl fun a21 hE21 => Qas hE21 (Qcf hE21 rfl) rfl fun a22 hE22 => wpList_nil ?_
        clear hE18 hE20 hE21
        clear a18 a20 a21
        refine Qai ?_
        refine wp_seq (wp_region_lit ?_)
        refine Qas hE22 (Qdk hE22 rfl) rfl fun a23 hE23 => Q5x hE23 hS10 Tryz.func224 Yor Yop (Qik (IntKind.i64.wrap (-(Int.tmod s1_0 10)))) rfl rfl fun w24 hS24 a25 hE25 => Ygr (is := [0]) (vs := [.int .u8 (Qbl (IntKind.i64.wrap (-(Int.tmod s1_0 10))))]) (cs := [.int .u8 (Qbl (IntKind.i64.wrap (-(Int.tmod s1_0 10))))]) (e := 5) hE25 hS24 rfl rfl (by kernel_rfl) rfl fun b26 w26 hS26 a27 hE27 => Qas hE27 (Q5f (xs := [(Qbl (IntKind.i64.wrap (-(Int.tmod s1_0 10))))]) hE27 rfl Tryz.underlying144 Tryz.underlying5 Tryz.underlying9 rfl (hS26.cells (k := 0) rfl)) rfl fun a28 hE28 => Qas hE28 (Qdk hE28 rfl) rfl fun a29 hE29 => Qas hE29 (Ygo hE29 rfl rfl (by have h := hin1_0.1; first | omega | (rw [Qfz]; simp only [List.length]; omega) | (show 1 + _ ≤ _; omega))) rfl fun a30 hE30 => Qas hE30 (Qcf hE30 rfl) rfl fun a31 hE31 => wpList_nil ?_
        clear hE22 hE23 hE25 hE27 hE28 hE29 hE30
        clear a22 a23 a25 a27 a28 a29 a30
        refine Qai ?_
        refine wp_region_lit ?_
        refine Qas hE31 (Qdk hE31 rfl) rfl fun a32 hE32 => Qas hE32 (Yk4 hE32 rfl rfl (by decide)) rfl fun a33 hE33 => Qas hE33 (Qcf hE33 rfl) rfl fun a34 hE34 => wpList_nil ?_
        clear hE31 hE32 hE33
        clear a31 a32 a33
        refine Qp3 ?_
        refine Qai ⟨fu1, Nat.lt_succ_self _, IntKind.i64.wrap (Int.tdiv s1_0 10), ((strOfNums [(Qbl (IntKind.i64.wrap (-(Int.tmod s1_0 10))))]) ++ s1_4), (by rw [Qj7 (by assumption)]; omega), (by rw [Qj7 (by assumption), ByteArray.size_append, Qfz]; show dig (1 + _) _; rw [Nat.add_comm]; exact Q6d hin1_0 (by omega)), (Qk1 _), hM, hE34.weaken ⟨rfl, rfl, rfl, trivial⟩, (hS26.drop (k := 1))⟩
      ·
        have hM := hM.trans (if_f hb19)
        have hb19f : ¬ (Int.tmod s1_0 10 < 0) := of_decide_eq_false hb19
        refine wp_skip ?_
        refine Qai ?_
        refine wp_seq (wp_region_lit ?_)
        refine Qas hE18 (Qdk hE18 rfl) rfl fun a35 hE35 => Q5x hE35 hS10 Tryz.func224 Yor Yop (Qik (Int.tmod s1_0 10)) rfl rfl fun w36 hS36 a37 hE37 => Ygr (is := [0]) (vs := [.int .u8 (Qbl (Int.tmod s1_0 10))]) (cs := [.int .u8 (Qbl (Int.tmod s1_0 10))]) (e := 5) hE37 hS36 rfl rfl (by kernel_rfl) rfl fun b38 w38 hS38 a39 hE39 => Qas hE39 (Q5f (xs := [(Qbl (Int.tmod s1_0 10))]) hE39 rfl Tryz.underlying144 Tryz.underlying5 Tryz.underlying9 rfl (hS38.cells (k := 0) rfl)) rfl fun a40 hE40 => Qas hE40 (Qdk hE40 rfl) rfl fun a41 hE41 => Qas hE41 (Ygo hE41 rfl rfl (by have h := hin1_0.1; first | omega | (rw [Qfz]; simp only [List.length]; omega) | (show 1 + _ ≤ _; omega))) rfl fun a42 hE42 => Qas hE42 (Qcf hE42 rfl) rfl fun a43 hE43 => wpList_nil ?_
        clear hE18 hE35 hE37 hE39 hE40 hE41 hE42
        clear a18 a35 a37 a39 a40 a41 a42
        refine Qai ?_
        refine wp_region_lit ?_
        refine Qas hE43 (Qdk hE43 rfl) rfl fun a44 hE44 => Qas hE44 (Yk4 hE44 rfl rfl (by decide)) rfl fun a45 hE45 => Qas hE45 (Qcf hE45 rfl) rfl fun a46 hE46 => wpList_nil ?_
        clear hE43 hE44 hE45
        clear a43 a44 a45
        refine Qp3 ?_
        refine Qai ⟨fu1, Nat.lt_succ_self _, IntKind.i64.wrap (Int.tdiv s1_0 10), ((strOfNums [(Qbl (Int.tmod s1_0 10))]) ++ s1_4), (by rw [Qj7 (by assumption)]; omega), (by rw [Qj7 (by assumption), ByteArray.size_append, Qfz]; show dig (1 + _) _; rw [Nat.add_comm]; exact Q6d hin1_0 (by omega)), (Qk1 _), hM, hE46.weaken ⟨rfl, rfl, rfl, trivial⟩, (hS38.drop (k := 1))⟩
    ·
      have hb13f : s1_0 = 0 := by simpa using hb13
      have hM := hM.trans (show Qcb p0 fu1 s1_0 s1_4 = Qb6 p0 s1_0 s1_4 from by cases fu1 with | zero => exact Qcb.eq_1 _ _ _ | succ m => exact (Qcb.eq_2 _ _ _ _).trans (if_f hb13))
      have hM := hM.trans (Qb6.eq_1 _ _ _)
      refine wp_exit ?_
      refine Qnu ?_
      refine Qnu ?_
      refine Yc1 ?_
      refine Qai ?_
      refine wp_seq (wp_seq (wp_region_lit ?_))
      refine Qas hE12 (Qdk hE12 rfl) rfl fun a47 hE47 => wpList_nil ?_
      clear hE12
      clear a12
      refine Qai ?_
      refine Qg7 hE47 rfl (fun hb48 => ?_) (fun hb48 => ?_)
      ·
        have hM := hM.trans (if_t hb48)
        have hb48f : p0 < 0 := of_decide_eq_true hb48
        refine wp_seq (wp_region_lit ?_)
        refine Qas hE47 (Qdk hE47 rfl) rfl fun a49 hE49 => Qas hE49 (Ygo hE49 rfl rfl (by have h := hin1_0.1; first | omega | (rw [Qfz]; simp only [List.length]; omega) | (show 1 + _ ≤ _; omega))) rfl fun a50 hE50 => Qas hE50 (Qcf hE50 rfl) rfl fun a51 hE51 => wpList_nil ?_
        clear hE47 hE49 hE50
        clear a47 a49 a50
        refine Qai ?_
        refine wp_ret ?_
        refine Q5w ?_
        exact fin1 hE51 rfl rfl ⟨by rw [hM], hS10.below⟩
      ·
        have hM := hM.trans (if_f hb48)
        have hb48f : ¬ (p0 < 0) := of_decide_eq_false hb48
        refine wp_skip ?_
        refine Qai ?_
        refine wp_seq (wp_region_lit ?_)
        refine Qas hE47 (Qdk hE47 rfl) rfl fun a52 hE52 => Qas hE52 (Qcf hE52 rfl) rfl fun a53 hE53 => wpList_nil ?_
        clear hE47 hE52
        clear a47 a52
        refine Qai ?_
        refine wp_ret ?_
        exact fin1 hE53 rfl rfl ⟨by rw [hM], hS10.below⟩
def Qbo (p0 : Int) : ByteArray := (strconv_Itoa p0)
theorem Qzp (p0 : Int) {w : World} (hi0 : I64 p0) (hG6 : GV 6 (gl6.map (Value.int .u64)) w) :
    Calls Tryz.prog 182 [.int .i64 p0].toArray w (fun e w' => e = .returned (.string (Qbo p0)) ∧ Below w.heap.size w w') := by
  refine enter Tryz.func182 rfl Tryz.ntmps182 (Nat.le_of_ble_eq_true rfl) ?_
  intro a0 hE0
  have hS0 := SH.start w
  have hM := Qbo.eq_1 p0
  have hij0 : -9223372036854775808 ≤ p0 ∧ p0 ≤ 9223372036854775807 := hi0
  refine wp_seq (wp_region_lit ?_)
  refine Qas hE0 (Qcf hE0 rfl) rfl fun a1 hE1 => wpList_nil ?_
  clear hE0
  clear a0
  refine Qai ?_
  refine wp_seq (wp_region_lit ?_)
  refine Qas hE1 (Qdk hE1 rfl) rfl fun a2 hE2 => Q5x hE2 hS0 Tryz.func229 Yrd Yrc (Qy3 p0 hi0 (GV.sh hS0 hG6)) rfl rfl fun w3 hS3 a4 hE4 => Qas hE4 (Qcf hE4 rfl) rfl fun a5 hE5 => wpList_nil ?_
  clear hE1 hE2 hE4
  clear a1 a2 a4
  refine Qai ?_
  refine wp_ret ?_
  exact fin1 hE5 rfl rfl ⟨by rw [hM], hS3.below⟩
end Go.Proofs.YtppialklomgajaaGreatDoor.Fw

namespace Go.Proofs.YtppialklomgajaaGreatDoor.Fw
open Go.RowKit
theorem Yhq {v : Int} (h0 : 0 ≤ v) (h1 : v ≤ 9) : strOfNums [Qbl v] = ⟨#[UInt8.ofNat (48 + v.toNat)]⟩ := by
  have e : Qbl v = 48 + v := by
    unfold Qbl
    rw [if_pos (decide_eq_true (by omega)), IntWalk.i64_in _ ⟨by omega, by omega⟩, IntWalk.u8_in _ ⟨by omega, by omega⟩]
  rw [e]
  have e2 : (48 + v).toNat = 48 + v.toNat := by omega
  simp [strOfNums, e2]
def figs (u : Nat) : ByteArray := if u = 0 then ⟨#[]⟩ else ⟨(Lib.decDigits u).toArray⟩
theorem Yjl (a b c : ByteArray) : a ++ (b ++ c) = (a ++ b) ++ c := (ByteArray.append_assoc).symm
theorem Yhr {u : Nat} (h : u ≠ 0) : figs (u / 10) ++ (⟨#[UInt8.ofNat (48 + u % 10)]⟩ : ByteArray) = figs u := by
  unfold figs
  rw [if_neg h]
  by_cases h9 : u < 10
  · rw [if_pos (by omega), Lib.decDigits, dif_pos h9, Nat.mod_eq_of_lt h9]
    rfl
  · rw [if_neg (by omega), Lib.decDigits.eq_def u, dif_neg h9]
    apply ByteArray.ext
    simp
theorem Yim (s : Int) : (Int.tmod s 10).natAbs = s.natAbs % 10 := by
  rw [Int.natAbs_tmod]
  rfl
theorem Qny (p0 : Int) : ∀ (fu : Nat) (s : Int) (o : ByteArray), I64 s → s.natAbs ≤ fu → Qcb p0 fu s o = Qb6 p0 0 (figs s.natAbs ++ o) := by
  intro fu
  induction fu with
  | zero =>
    intro s o hs h
    have e : s.natAbs = 0 := by omega
    rw [e]
    have e2 : figs 0 ++ o = o := by
      apply ByteArray.ext
      simp [figs]
    rw [e2]
    rfl
  | succ m ih =>
    intro s o hs h
    rw [Qcb]
    by_cases h0 : s = 0
    · subst h0
      simp only [decide_true, Bool.not_true, Bool.false_eq_true, if_false]
      have e2 : figs (Int.natAbs 0) ++ o = o := by
        apply ByteArray.ext
        simp [figs]
      rw [e2]
    · simp only [h0, decide_false, Bool.not_false, if_true]
      have ha := Yim s
      have hb := Qj7 hs
      have hu : s.natAbs ≠ 0 := by omega
      have hfin : ∀ v : Int, 0 ≤ v → v.natAbs = s.natAbs % 10 → Qcb p0 m (IntKind.i64.wrap (Int.tdiv s 10)) (strOfNums [Qbl v] ++ o) = Qb6 p0 0 (figs s.natAbs ++ o) := by
        intro v hv0 hv
        rw [ih _ _ (Qk1 _) (by omega), hb, Yhq hv0 (by omega), Yjl, show v.toNat = s.natAbs % 10 by omega, Yhr hu]
      split
      · rename_i hneg
        have hneg' := of_decide_eq_true hneg
        rw [IntWalk.i64_in (-(Int.tmod s 10)) ⟨by omega, by omega⟩]
        exact hfin _ (by omega) (by omega)
      · rename_i hpos
        have hpos' : ¬ Int.tmod s 10 < 0 := by simpa using hpos
        exact hfin _ (by omega) (by omega)
theorem Qg8 {p0 : Int} (h : I64 p0) : Qbn p0 = Qbo p0 := by
  unfold Qbn Qbo strconv_Itoa
  by_cases h0 : p0 = 0
  · subst h0
    simp only [decide_true, if_true]
    unfold Lib.itoa
    rw [if_neg (by decide), Lib.decDigits, dif_pos (by decide)]
    rfl
  · simp only [h0, decide_false, Bool.false_eq_true, if_false]
    rw [Qny p0 _ _ _ h (Nat.le_refl _)]
    unfold Qb6 Lib.itoa figs
    rw [if_neg (show ¬ p0.natAbs = 0 by omega)]
    by_cases hn : p0 < 0
    · simp only [hn, decide_true, if_true]
      apply ByteArray.ext
      simp
    · simp only [hn, decide_false, Bool.false_eq_true, if_false]
      rw [show p0.toNat = p0.natAbs by omega]
      apply ByteArray.ext
      simp
theorem Qme (p0 : Int) : ∀ (fu : Nat) (s : Int) (o : ByteArray), I64 s → dig o.size (s.natAbs : Int) → (Qcb p0 fu s o).size ≤ 20 := by
  have haft : ∀ s o, o.size ≤ 19 → (Qb6 p0 s o).size ≤ 20 := by
    intro s o ho
    unfold Qb6
    split
    · rw [ByteArray.size_append]
      show 1 + o.size ≤ 20
      omega
    · omega
  intro fu
  induction fu with
  | zero => intro s o hs h; exact haft _ _ h.1
  | succ m ih =>
    intro s o hs h
    rw [Qcb]
    split
    · rename_i hne
      have hne' : ¬ s = 0 := by simpa using hne
      have hstep : ∀ v : Int, dig (strOfNums [v] ++ o).size ((IntKind.i64.wrap (Int.tdiv s 10)).natAbs : Int) := by
        intro v
        rw [Qj7 hs, ByteArray.size_append, Qfz]
        show dig (1 + _) _
        rw [Nat.add_comm]
        exact Q6d h (by omega)
      split
      · exact ih _ _ (Qk1 _) (hstep _)
      · exact ih _ _ (Qk1 _) (hstep _)
    · exact haft _ _ h.1
theorem Qef {p0 : Int} (h : I64 p0) : (Qbn p0).size ≤ 20 := by
  unfold Qbn
  split
  · decide
  · exact Qme _ _ _ _ h ⟨Nat.zero_le _, by
      show (p0.natAbs : Int) < 10 ^ 19
      have := h.1
      have := h.2
      omega⟩
theorem Qgl {p0 : Int} (h : I64 p0) : (Qbo p0).size ≤ 20 := by
  rw [← Qg8 h]
  exact Qef h
end Go.Proofs.YtppialklomgajaaGreatDoor.Fw

namespace Go.Proofs.YtppialklomgajaaGreatDoor.Fw
open Go.RowKit
theorem Qwi {w : World} : ∀ {us vs : List Value}, Q7f w vs (us.map fun u => .o (.c u)) → vs = us
  | [], [], _ => rfl
  | [], _ :: _, h => h.elim
  | _ :: _, [], h => h.elim
  | u :: us, v :: vs, h => by
    obtain ⟨h1, h2⟩ := h
    have e : v = u := h1
    rw [e, Qwi h2]
theorem Qfv (p0 p1 p2 : Int) : CTs 158 [.o (.c (.int .i64 p0)), .o (.c (.int .i64 p1)), .o (.c (.int .i64 p2))] [.c (.bool (Qbz p0 p1 p2))] := CT.flat fun w vs hG hA => by
  obtain rfl := Qwi (us := [.int .i64 p0, .int .i64 p1, .int .i64 p2]) hA
  exact Q6z p0 p1 p2
theorem Qgb (p0 p1 p2 : Int) : CTs 146 [.o (.c (.int .i64 p0)), .o (.c (.int .i64 p1)), .o (.c (.int .i64 p2))] [.c (.bool (Qb1 p0 p1 p2))] := CT.flat fun w vs hG hA => by
  obtain rfl := Qwi (us := [.int .i64 p0, .int .i64 p1, .int .i64 p2]) hA
  exact Yaq p0 p1 p2
theorem Qfi (p0 : Int) (h : I64 p0) : CTs 174 [.o (.c (.int .i64 p0))] [.c (.string (Qbn p0))] := CT.flat fun w vs hG hA => by
  obtain rfl := Qwi (us := [.int .i64 p0]) hA
  exact Qy8 p0 h
theorem Qh0 (p0 : Int) (h : I64 p0) : CTs 182 [.o (.c (.int .i64 p0))] [.c (.string (Qbo p0))] := CT.flat fun w vs hG hA => by
  obtain rfl := Qwi (us := [.int .i64 p0]) hA
  exact Qzp p0 h (Gl6 w hG)
def fig (p0 : Int) : UInt8 := bif decide (p0 < 10) then u8of (IntKind.i64.wrap (48 + p0)) else u8of (IntKind.i64.wrap (IntKind.i64.wrap (97 + p0) - 10))
theorem Yoq (p0 : Int) : Qbl p0 = ((fig p0).toNat : Int) := by
  unfold Qbl fig
  by_cases h : p0 < 10
  · simp only [h, decide_true, if_true, cond_true, Ya9]
  · simp only [h, decide_false, Bool.false_eq_true, if_false, cond_false, Ya9]
theorem Qk7 (p0 : Int) : CTs 224 [.o (.c (.int .i64 p0))] [.c (.int .u8 (fig p0).toNat)] := CT.flat fun w vs hG hA => by
  obtain rfl := Qwi (us := [.int .i64 p0]) hA
  rw [← Yoq]
  exact Qik p0
def Qid (xs : List UInt8) : ByteArray := ⟨(Lib.Hx.encode xs).toArray⟩
theorem Yi5 (xs : List UInt8) (hne : xs ≠ []) (h : 2 * xs.length ≤ 281474976710656) : CTs 227 [.o (.sl UInt8 instDatUInt8 xs)] [.c (.string (Qid xs))] := CT.flat fun w vs hG hA => by
  cases vs with
  | nil => exact hA.elim
  | cons v r =>
    cases r with
    | cons => exact hA.2.elim
    | nil =>
      obtain ⟨A, cap, rfl, h1, h2, h3⟩ := (show SlR (Old w) w v xs from hA.1)
      obtain ⟨ad, rfl, hb, hc⟩ := h3 hne
      have hcell : ∀ i (hi : i < xs.length), w.cell? (ad.add i) = some (.int .u8 ((xs[i]'hi).toNat : Int)) := fun i hi => by
        obtain ⟨cs, hrd, hcs⟩ := hc i xs[i] (List.getElem?_eq_getElem hi)
        obtain ⟨v, r, rfl, hv, rfl⟩ := (inferInstance : Str UInt8).op hrd
        have h0 := hcs 0 v rfl
        have e1 : i * Dat.sz UInt8 = i := Nat.mul_one i
        rw [e1, Addr.add_zero'] at h0
        rw [h0, hv]
        rfl
      obtain ⟨bk, o, sp⟩ := ad
      have hsp : sp = none := by
        have h0 := hcell 0 (List.length_pos_iff.2 hne)
        rw [Addr.add_zero'] at h0
        cases sp with
        | none => rfl
        | some s =>
          unfold World.cell? at h0
          split at h0
          · simp at h0
          · simp at h0
      subst hsp
      refine (Tryz.hex_EncodeToString_bytes bk o cap xs w (fun i hi => ?_) hb h).mono fun e w2 h => h
      have := hcell i hi
      have e : (⟨bk, o, none⟩ : Addr).add i = ⟨bk, o + i, none⟩ := by
        unfold Addr.add
        split <;> simp_all
      rw [e] at this
      exact this
theorem Qbf (s : ByteArray) : (Qax s).length = s.size := by unfold Qax; rw [Array.length_toList]; rfl
theorem Ygx {s : ByteArray} (h : ¬ s = ⟨#[]⟩) : s.size ≠ 0 := by
  intro e
  apply h
  apply ByteArray.ext
  exact Array.eq_empty_of_size_eq_zero e
end Go.Proofs.YtppialklomgajaaGreatDoor.Fw

namespace Go.Proofs.YtppialklomgajaaGreatDoor.Fw
open Go.RowKit
theorem Q55 : CTs 254 [.o (.c (.int .i64 0))] [.c (.int .i64 0)] := CT.flat fun w vs hG hA => by
  obtain rfl := Qwi (us := [.int .i64 0]) hA
  refine (Tryz.hex_EncodedLen 0 (by omega) (by omega) w).mono fun e w2 h => ?_
  obtain ⟨h1, rfl⟩ := h
  exact ⟨h1, Below.refl _ _⟩
theorem Ym3 : FnOk Tryz.prog 254 := ⟨_, Tryz.func254, rfl, by kernel_rfl⟩
theorem Ym2 : FnOk Tryz.prog 255 := ⟨_, Tryz.func255, rfl, by kernel_rfl⟩
theorem Yax : CTs 255 [.o (.sl UInt8 instDatUInt8 ([] : List UInt8)), .o (.sl UInt8 instDatUInt8 ([] : List UInt8))] [Re.c (.int .i64 0)] := by
  refine en Tryz.func255 Tryz.ntmps255 fun w hG hgd => ?_
  refine ad 16 ?_
  refine Run.loopM (ι := Unit) (T := ()) (fun _ => ()) (fun _ => ⟨33, 1, [(1, .sl 0 0), (9, .v (.int .i64 0)), (10, .v (.int .i64 0))], [(0, .ros UInt8 instDatUInt8 ([] : List UInt8))]⟩) (fun _ => True) (fun _ => 0) () [1] [1] rfl trivial su (by decide) ?_
  rintro ⟨⟩ _ _
  refine ad 5 ?_
  refine cd (fun h => absurd h (show ¬ decide ((0 : Int) < 0) = true by decide)) (fun h => ?_)
  refine ad 8 ?_
  exact rz (rs := [.tmp 4]) rfl
theorem Yay : CTs 227 [.o (.sl UInt8 instDatUInt8 ([] : List UInt8))] [Re.c (.string ⟨#[]⟩)] := by
  refine en Tryz.func227 Tryz.ntmps227 fun w hG hgd => ?_
  refine ad 8 ?_
  refine op (cl Q55 Ym3) ?_
  refine op (ma 0 (0 : UInt8)) ?_
  refine ad 6 ?_
  refine op (cl Yax Ym2) ?_
  refine ad 4 ?_
  refine op (ts ([] : List UInt8)) ?_
  refine ad 2 ?_
  exact rz (rs := [.tmp 2]) rfl
theorem Yad (xs : List UInt8) (h : 2 * xs.length ≤ 281474976710656) : CTs 227 [.o (.sl UInt8 instDatUInt8 xs)] [.c (.string (Qid xs))] := by
  by_cases hne : xs = []
  · subst hne
    exact Yay
  · exact Yi5 xs hne h
def atoi (s : ByteArray) : Int × Bool := match Lib.atoiAll s.data.toList with
  | .ok v => (v, true)
  | .range => (Lib.atoiSat s.data.toList, false)
  | _ => (0, false)
theorem Yjp (s : ByteArray) : I64 (atoi s).1 := by
  unfold atoi
  cases h : Lib.atoiAll s.data.toList with
  | ok v =>
    show I64 v
    unfold Lib.atoiAll at h
    split at h
    · cases h
    · simp only at h
      split at h
      · cases h
      · cases h
      · split at h
        · cases h
        · split at h
          · cases h
          · cases h
            unfold I64
            split <;> omega
  | range =>
    show I64 (Lib.atoiSat s.data.toList)
    unfold Lib.atoiSat I64
    split <;> omega
  | _ => exact (show I64 0 from ⟨by decide, by decide⟩)
theorem resE {w w' : World} {x u : Value} (hb : Below w.heap.size w w') : ResR (Old w) w w' (.tuple #[x, u]) [.c x, .c u] :=
  ⟨Keep.of_below hb fun _ h => h, [x, u], [], rfl, ⟨[], [], rfl, ⟨rfl, rfl⟩, [], [], rfl, ⟨rfl, rfl⟩, rfl⟩, List.nodup_nil, fun b hb => by cases hb⟩
theorem Yms (p0 : ByteArray) (hz : p0.size ≤ 281474976710656) : CTEs 243 [.o (.c (.string p0))] (fun u => [.c (.int .i64 (atoi p0).1), .c u]) (atoi p0).2 := fun w vs hG hA => by
  obtain rfl := Qwi (us := [.string p0]) hA
  unfold atoi
  cases h : Lib.atoiAll p0.data.toList with
  | ok v =>
    refine (Tryz.strconv_Atoi_ok p0 (by omega) v h w).mono fun e w2 hr => ?_
    obtain ⟨rfl, hw⟩ := hr
    refine ⟨.nilIface, rfl, _, rfl, resE ?_⟩
    rcases hw with rfl | ⟨t, rfl⟩
    · exact Below.refl _ _
    · exact Lib.bytesWorld_below _ _ _
  | range =>
    obtain ⟨te, pe, hE⟩ := Gl5 w hG
    refine (Any.strconv_Atoi_range Tryz.laysC172 p0 hz h _ w hE (.inr ⟨te, pe, rfl⟩)).mono fun e w2 hr => ?_
    obtain ⟨N, rfl, _, _, hb⟩ := hr
    exact ⟨_, ⟨_, _, rfl⟩, _, rfl, resE hb⟩
  | _ =>
    obtain ⟨te, pe, hE⟩ := Gl4 w hG
    refine (Any.strconv_Atoi_syntax Tryz.laysC172 p0 hz h _ w hE (.inr ⟨te, pe, rfl⟩)).mono fun e w2 hr => ?_
    obtain ⟨N, rfl, _, _, hb⟩ := hr
    exact ⟨_, ⟨_, _, rfl⟩, _, rfl, resE hb⟩
theorem Yhs {n : Nat} (h : (!decide (Int.tmod (n : Int) 2 = 0)) = false) : n % 2 = 0 := by
  have h2 : Int.tmod (n : Int) 2 = 0 := by simpa using h
  have h3 : ((n % 2 : Nat) : Int) = 0 := by rw [← h2]; rfl
  omega
theorem Ygv {α : Type} [Dat α] {w : World} {base T n : Nat} {v : Value} {mk : α → Value} {xs : List α} (hsz : Dat.sz α = 1) (ho : ∀ x, x ∈ xs → Dat.own w [mk x] x []) (h : w.ownsRow base T 1 v n (xs.map mk)) (hn : n = xs.length) :
    ∃ F, SlO w v xs F ∧ F.Nodup ∧ ∀ b ∈ F, base ≤ b := by
  subst hn
  obtain ⟨hl, h⟩ := h
  rcases h with ⟨rfl, hz⟩ | ⟨g, cap, cur, rfl, hg, hh, h1, h2, h3, h4⟩
  · exact ⟨[], .inl ⟨rfl, List.length_eq_zero_iff.1 hz, rfl⟩, List.nodup_nil, fun b hb => by cases hb⟩
  · refine ⟨[g], .inr ⟨g, cap, cur, T, List.replicate xs.length [], rfl, hh, h1, h2, by rw [hsz, h3]; exact Nat.le_refl _, ?_, by simp, fun i x hi => ⟨[], ?_, ?_⟩⟩, by simp, fun b hb => by rw [List.mem_singleton.1 hb]; exact hg⟩
    · have : ∀ n, (List.replicate n ([] : List Nat)).flatten = [] := by
        intro n
        induction n with
        | zero => rfl
        | succ n ih => rw [List.replicate_succ, List.flatten_cons, ih]; rfl
      rw [this]
    · have hlt := (List.getElem?_eq_some_iff.1 hi).1
      simp [hlt]
    · have hlt := (List.getElem?_eq_some_iff.1 hi).1
      have hget : cur.toList[i]? = some (mk x) := by
        have := congrArg (fun l => l[i]?) h4
        simp only [List.getElem?_take, List.getElem?_map, hi, Option.map_some] at this
        rw [if_pos (by omega)] at this
        exact this
      have e : (cur.toList.drop (i * Dat.sz α)).take (Dat.sz α) = [mk x] := by
        rw [hsz, Nat.mul_one]
        obtain ⟨hi2, hx⟩ := List.getElem?_eq_some_iff.1 hget
        rw [List.drop_eq_getElem_cons hi2, hx]
        rfl
      rw [e]
      exact ho x (List.mem_of_getElem? hi)
def Qf3 (s : ByteArray) : List UInt8 × Bool := ((Lib.Hx.decode s.data.toList).1, match (Lib.Hx.decode s.data.toList).2 with
  | .ok => true
  | _ => false)
theorem Yi6 (p0 : ByteArray) (hz : p0.size ≤ 281474976710656) : CTEs 226 [.o (.c (.string p0))] (fun u => [.sl UInt8 instDatUInt8 (Qf3 p0).1, .c u]) (Qf3 p0).2 := fun w vs hG hA => by
  obtain rfl := Qwi (us := [.string p0]) hA
  obtain ⟨te, pe, hE⟩ := Gl0 w hG
  refine (Tryz.hex_DecodeString_owns p0 w _ hE hz).mono fun e w2 hr => ?_
  obtain ⟨v, rfl, hrow, hb⟩ := hr
  obtain ⟨F, h1, h2, h3⟩ := Ygv (α := UInt8) (mk := fun b => Value.int .u8 (b.toNat : Int)) rfl (fun x _ => ⟨⟨rfl, trivial⟩, rfl⟩) hrow rfl
  refine ⟨_, ?_, _, rfl, Keep.of_below hb fun _ h => h, [v, _], F ++ [], rfl, ⟨F, [], rfl, h1, [], [], rfl, ⟨rfl, rfl⟩, rfl⟩, by rw [List.append_nil]; exact h2, fun b hbF => ?_⟩
  · unfold Qf3 Yb8
    cases hd : (Lib.Hx.decode p0.data.toList).2 with
    | ok => rfl
    | bad c => exact ⟨_, _, rfl⟩
    | odd => exact ⟨_, _, rfl⟩
  · rw [List.append_nil] at hbF
    have := h3 b hbF
    show ¬ b < w.heap.size
    omega
end Go.Proofs.YtppialklomgajaaGreatDoor.Fw
