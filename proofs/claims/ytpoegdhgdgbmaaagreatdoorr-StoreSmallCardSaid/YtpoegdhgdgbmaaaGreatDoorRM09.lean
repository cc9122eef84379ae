/- The small table of types of this translation, held against it. -/
import Derived.Test.YtpoegdhgdgbmaaaGreatDoorRM05
import Derived.Test.YtpoegdhgdgbmaaaGreatDoorRProg
import Derived.KernelRfl
import Derived.Test.YtpoegdhgdgbmaaaGreatDoorRM07
set_option linter.all false
namespace Go.Proofs.YtpoegdhgdgbmaaaGreatDoorR
open Go.Abs

def rows : List (TypeId × TRow) := [
  (1, ⟨.func, 1, 8, [.nilf]⟩),
  (2, ⟨.int .i64, 1, 8, [.int .i64 0]⟩),
  (3, ⟨.int .i64, 1, 8, [.int .i64 0]⟩),
  (4, ⟨.bool, 1, 1, [.bool false]⟩),
  (5, ⟨.int .u8, 1, 1, [.int .u8 0]⟩),
  (6, ⟨.int .u8, 1, 1, [.int .u8 0]⟩),
  (7, ⟨.struct [(0, 2), (1, 3), (2, 4), (3, 6)], 4, 24, [.int .i64 0, .int .i64 0, .bool false, .int .u8 0]⟩),
  (8, ⟨.struct [(0, 2), (1, 3), (2, 4), (3, 6)], 4, 24, [.int .i64 0, .int .i64 0, .bool false, .int .u8 0]⟩),
  (9, ⟨.str, 1, 16, [.str []]⟩),
  (10, ⟨.str, 1, 16, [.str []]⟩),
  (11, ⟨.str, 1, 16, [.str []]⟩),
  (12, ⟨.int .u64, 1, 8, [.int .u64 0]⟩),
  (15, ⟨.ptr, 1, 8, [.nilp]⟩),
  (16, ⟨.ptr, 1, 8, [.nilp]⟩),
  (17, ⟨.ptr, 1, 8, [.nilp]⟩),
  (21, ⟨.int .i32, 1, 4, [.int .i32 0]⟩),
  (22, ⟨.slice 25, 1, 24, [.sl 2 [] .full]⟩),
  (23, ⟨.slice 27, 1, 24, [.sl 4 [] .full]⟩),
  (24, ⟨.struct [(0, 9), (1, 23)], 2, 40, [.str [], .sl 4 [] .full]⟩),
  (25, ⟨.struct [(0, 9), (1, 23)], 2, 40, [.str [], .sl 4 [] .full]⟩),
  (26, ⟨.struct [(0, 5), (1, 3), (2, 9), (3, 23)], 4, 56, [.int .u8 0, .int .i64 0, .str [], .sl 4 [] .full]⟩),
  (27, ⟨.struct [(0, 5), (1, 3), (2, 9), (3, 23)], 4, 56, [.int .u8 0, .int .i64 0, .str [], .sl 4 [] .full]⟩),
  (28, ⟨.func, 1, 8, [.nilf]⟩),
  (29, ⟨.func, 1, 8, [.nilf]⟩),
  (30, ⟨.func, 1, 8, [.nilf]⟩),
  (31, ⟨.func, 1, 8, [.nilf]⟩),
  (32, ⟨.func, 1, 8, [.nilf]⟩),
  (33, ⟨.func, 1, 8, [.nilf]⟩),
  (34, ⟨.func, 1, 8, [.nilf]⟩),
  (35, ⟨.func, 1, 8, [.nilf]⟩),
  (36, ⟨.func, 1, 8, [.nilf]⟩),
  (37, ⟨.func, 1, 8, [.nilf]⟩),
  (38, ⟨.func, 1, 8, [.nilf]⟩),
  (39, ⟨.ptr, 1, 8, [.nilp]⟩),
  (40, ⟨.func, 1, 8, [.nilf]⟩),
  (41, ⟨.int .i64, 1, 8, [.int .i64 0]⟩),
  (43, ⟨.func, 1, 8, [.nilf]⟩),
  (44, ⟨.func, 1, 8, [.nilf]⟩),
  (45, ⟨.func, 1, 8, [.nilf]⟩),
  (47, ⟨.func, 1, 8, [.nilf]⟩),
  (48, ⟨.struct [(0, 9), (1, 3)], 2, 24, [.str [], .int .i64 0]⟩),
  (49, ⟨.struct [(0, 9), (1, 3)], 2, 24, [.str [], .int .i64 0]⟩),
  (50, ⟨.func, 1, 8, [.nilf]⟩),
  (51, ⟨.func, 1, 8, [.nilf]⟩),
  (52, ⟨.func, 1, 8, [.nilf]⟩),
  (53, ⟨.func, 1, 8, [.nilf]⟩),
  (54, ⟨.func, 1, 8, [.nilf]⟩),
  (55, ⟨.func, 1, 8, [.nilf]⟩),
  (56, ⟨.func, 1, 8, [.nilf]⟩),
  (57, ⟨.struct [(0, 22)], 1, 24, [.sl 2 [] .full]⟩),
  (58, ⟨.struct [(0, 22)], 1, 24, [.sl 2 [] .full]⟩),
  (59, ⟨.map 9 3, 1, 8, [.nilm]⟩),
  (60, ⟨.map 49 86, 1, 8, [.nilm]⟩),
  (61, ⟨.map 89 86, 1, 8, [.nilm]⟩),
  (62, ⟨.struct [(0, 58), (1, 59), (2, 60), (3, 61)], 4, 48, [.sl 2 [] .full, .nilm, .nilm, .nilm]⟩),
  (63, ⟨.struct [(0, 58), (1, 59), (2, 60), (3, 61)], 4, 48, [.sl 2 [] .full, .nilm, .nilm, .nilm]⟩),
  (64, ⟨.slice 39, 1, 24, [.sl 1 [] .full]⟩),
  (65, ⟨.slice 49, 1, 24, [.sl 2 [] .full]⟩),
  (66, ⟨.func, 1, 8, [.nilf]⟩),
  (67, ⟨.func, 1, 8, [.nilf]⟩),
  (68, ⟨.func, 1, 8, [.nilf]⟩),
  (69, ⟨.func, 1, 8, [.nilf]⟩),
  (70, ⟨.func, 1, 8, [.nilf]⟩),
  (72, ⟨.func, 1, 8, [.nilf]⟩),
  (73, ⟨.func, 1, 8, [.nilf]⟩),
  (75, ⟨.func, 1, 8, [.nilf]⟩),
  (76, ⟨.func, 1, 8, [.nilf]⟩),
  (77, ⟨.func, 1, 8, [.nilf]⟩),
  (78, ⟨.func, 1, 8, [.nilf]⟩),
  (79, ⟨.func, 1, 8, [.nilf]⟩),
  (80, ⟨.func, 1, 8, [.nilf]⟩),
  (81, ⟨.func, 1, 8, [.nilf]⟩),
  (82, ⟨.func, 1, 8, [.nilf]⟩),
  (83, ⟨.func, 1, 8, [.nilf]⟩),
  (84, ⟨.func, 1, 8, [.nilf]⟩),
  (85, ⟨.func, 1, 8, [.nilf]⟩),
  (86, ⟨.slice 3, 1, 24, [.sl 1 [] .full]⟩),
  (87, ⟨.func, 1, 8, [.nilf]⟩),
  (88, ⟨.struct [(0, 49), (2, 3), (3, 9)], 4, 48, [.str [], .int .i64 0, .int .i64 0, .str []]⟩),
  (89, ⟨.struct [(0, 49), (2, 3), (3, 9)], 4, 48, [.str [], .int .i64 0, .int .i64 0, .str []]⟩),
  (90, ⟨.func, 1, 8, [.nilf]⟩),
  (92, ⟨.func, 1, 8, [.nilf]⟩),
  (93, ⟨.func, 1, 8, [.nilf]⟩),
  (94, ⟨.func, 1, 8, [.nilf]⟩),
  (95, ⟨.func, 1, 8, [.nilf]⟩),
  (96, ⟨.func, 1, 8, [.nilf]⟩),
  (97, ⟨.func, 1, 8, [.nilf]⟩),
  (98, ⟨.func, 1, 8, [.nilf]⟩),
  (99, ⟨.func, 1, 8, [.nilf]⟩),
  (100, ⟨.func, 1, 8, [.nilf]⟩),
  (101, ⟨.func, 1, 8, [.nilf]⟩),
  (102, ⟨.func, 1, 8, [.nilf]⟩),
  (103, ⟨.func, 1, 8, [.nilf]⟩),
  (104, ⟨.func, 1, 8, [.nilf]⟩),
  (105, ⟨.func, 1, 8, [.nilf]⟩),
  (106, ⟨.func, 1, 8, [.nilf]⟩),
  (107, ⟨.func, 1, 8, [.nilf]⟩),
  (108, ⟨.func, 1, 8, [.nilf]⟩),
  (109, ⟨.func, 1, 8, [.nilf]⟩),
  (110, ⟨.func, 1, 8, [.nilf]⟩),
  (111, ⟨.func, 1, 8, [.nilf]⟩),
  (112, ⟨.func, 1, 8, [.nilf]⟩),
  (113, ⟨.func, 1, 8, [.nilf]⟩),
  (114, ⟨.func, 1, 8, [.nilf]⟩),
  (115, ⟨.func, 1, 8, [.nilf]⟩),
  (116, ⟨.slice 9, 1, 24, [.sl 1 [] .full]⟩),
  (117, ⟨.func, 1, 8, [.nilf]⟩),
  (118, ⟨.struct [(0, 27)], 4, 56, [.int .u8 0, .int .i64 0, .str [], .sl 4 [] .full]⟩),
  (119, ⟨.struct [(0, 27)], 4, 56, [.int .u8 0, .int .i64 0, .str [], .sl 4 [] .full]⟩),
  (120, ⟨.func, 1, 8, [.nilf]⟩),
  (121, ⟨.func, 1, 8, [.nilf]⟩),
  (122, ⟨.func, 1, 8, [.nilf]⟩),
  (123, ⟨.ptr, 1, 8, [.nilp]⟩),
  (124, ⟨.func, 1, 8, [.nilf]⟩),
  (125, ⟨.func, 1, 8, [.nilf]⟩),
  (126, ⟨.func, 1, 8, [.nilf]⟩),
  (127, ⟨.func, 1, 8, [.nilf]⟩),
  (128, ⟨.int .u64, 1, 8, [.int .u64 0]⟩),
  (129, ⟨.func, 1, 8, [.nilf]⟩),
  (130, ⟨.func, 1, 8, [.nilf]⟩),
  (131, ⟨.func, 1, 8, [.nilf]⟩),
  (132, ⟨.func, 1, 8, [.nilf]⟩),
  (133, ⟨.func, 1, 8, [.nilf]⟩),
  (134, ⟨.func, 1, 8, [.nilf]⟩),
  (135, ⟨.func, 1, 8, [.nilf]⟩),
  (136, ⟨.func, 1, 8, [.nilf]⟩),
  (137, ⟨.slice 5, 1, 24, [.sl 1 [] .full]⟩),
  (138, ⟨.func, 1, 8, [.nilf]⟩),
  (139, ⟨.ptr, 1, 8, [.nilp]⟩),
  (140, ⟨.struct [(0, 139), (1, 137)], 2, 32, [.nilp, .sl 1 [] .full]⟩),
  (141, ⟨.struct [(0, 139), (1, 137)], 2, 32, [.nilp, .sl 1 [] .full]⟩),
  (142, ⟨.func, 1, 8, [.nilf]⟩),
  (146, ⟨.func, 1, 8, [.nilf]⟩),
  (147, ⟨.func, 1, 8, [.nilf]⟩),
  (148, ⟨.func, 1, 8, [.nilf]⟩),
  (149, ⟨.func, 1, 8, [.nilf]⟩),
  (150, ⟨.int .i64, 1, 8, [.int .i64 0]⟩),
  (152, ⟨.func, 1, 8, [.nilf]⟩),
  (153, ⟨.func, 1, 8, [.nilf]⟩),
  (154, ⟨.func, 1, 8, [.nilf]⟩),
  (155, ⟨.func, 1, 8, [.nilf]⟩),
  (156, ⟨.func, 1, 8, [.nilf]⟩),
  (157, ⟨.int .u32, 1, 4, [.int .u32 0]⟩),
  (158, ⟨.func, 1, 8, [.nilf]⟩),
  (159, ⟨.int .u64, 1, 8, [.int .u64 0]⟩),
  (160, ⟨.func, 1, 8, [.nilf]⟩),
  (161, ⟨.func, 1, 8, [.nilf]⟩),
  (162, ⟨.func, 1, 8, [.nilf]⟩),
  (163, ⟨.func, 1, 8, [.nilf]⟩),
  (164, ⟨.func, 1, 8, [.nilf]⟩),
  (165, ⟨.func, 1, 8, [.nilf]⟩),
  (166, ⟨.map 5 30, 1, 8, [.nilm]⟩),
  (167, ⟨.func, 1, 8, [.nilf]⟩),
  (168, ⟨.func, 1, 8, [.nilf]⟩),
  (172, ⟨.func, 1, 8, [.nilf]⟩),
  (173, ⟨.func, 1, 8, [.nilf]⟩),
  (174, ⟨.ptr, 1, 8, [.nilp]⟩),
  (175, ⟨.ptr, 1, 8, [.nilp]⟩),
  (176, ⟨.func, 1, 8, [.nilf]⟩),
  (177, ⟨.int .u64, 1, 8, [.int .u64 0]⟩),
  (178, ⟨.func, 1, 8, [.nilf]⟩),
  (179, ⟨.func, 1, 8, [.nilf]⟩),
  (180, ⟨.func, 1, 8, [.nilf]⟩),
  (181, ⟨.ptr, 1, 8, [.nilp]⟩),
  (182, ⟨.func, 1, 8, [.nilf]⟩),
  (183, ⟨.func, 1, 8, [.nilf]⟩),
  (184, ⟨.func, 1, 8, [.nilf]⟩),
  (186, ⟨.func, 1, 8, [.nilf]⟩),
  (188, ⟨.func, 1, 8, [.nilf]⟩),
  (189, ⟨.func, 1, 8, [.nilf]⟩),
  (191, ⟨.func, 1, 8, [.nilf]⟩),
  (192, ⟨.func, 1, 8, [.nilf]⟩),
  (193, ⟨.func, 1, 8, [.nilf]⟩),
  (194, ⟨.ptr, 1, 8, [.nilp]⟩),
  (196, ⟨.func, 1, 8, [.nilf]⟩),
  (197, ⟨.func, 1, 8, [.nilf]⟩),
  (198, ⟨.func, 1, 8, [.nilf]⟩),
  (199, ⟨.array 24 5, 24, 24, [.int .u8 0, .int .u8 0, .int .u8 0, .int .u8 0, .int .u8 0, .int .u8 0, .int .u8 0, .int .u8 0, .int .u8 0, .int .u8 0, .int .u8 0, .int .u8 0, .int .u8 0, .int .u8 0, .int .u8 0, .int .u8 0, .int .u8 0, .int .u8 0, .int .u8 0, .int .u8 0, .int .u8 0, .int .u8 0, .int .u8 0, .int .u8 0]⟩),
  (200, ⟨.func, 1, 8, [.nilf]⟩),
  (202, ⟨.func, 1, 8, [.nilf]⟩),
  (203, ⟨.func, 1, 8, [.nilf]⟩),
  (204, ⟨.func, 1, 8, [.nilf]⟩),
  (206, ⟨.struct [(0, 5), (1, 5)], 2, 2, [.int .u8 0, .int .u8 0]⟩),
  (207, ⟨.struct [(0, 5), (1, 5)], 2, 2, [.int .u8 0, .int .u8 0]⟩),
  (208, ⟨.array 16 207, 32, 32, [.int .u8 0, .int .u8 0, .int .u8 0, .int .u8 0, .int .u8 0, .int .u8 0, .int .u8 0, .int .u8 0, .int .u8 0, .int .u8 0, .int .u8 0, .int .u8 0, .int .u8 0, .int .u8 0, .int .u8 0, .int .u8 0, .int .u8 0, .int .u8 0, .int .u8 0, .int .u8 0, .int .u8 0, .int .u8 0, .int .u8 0, .int .u8 0, .int .u8 0, .int .u8 0, .int .u8 0, .int .u8 0, .int .u8 0, .int .u8 0, .int .u8 0, .int .u8 0]⟩),
  (209, ⟨.func, 1, 8, [.nilf]⟩),
  (210, ⟨.func, 1, 8, [.nilf]⟩),
  (211, ⟨.array 20 159, 20, 160, [.int .u64 0, .int .u64 0, .int .u64 0, .int .u64 0, .int .u64 0, .int .u64 0, .int .u64 0, .int .u64 0, .int .u64 0, .int .u64 0, .int .u64 0, .int .u64 0, .int .u64 0, .int .u64 0, .int .u64 0, .int .u64 0, .int .u64 0, .int .u64 0, .int .u64 0, .int .u64 0]⟩),
  (214, ⟨.func, 1, 8, [.nilf]⟩),
  (215, ⟨.array 32 5, 32, 32, [.int .u8 0, .int .u8 0, .int .u8 0, .int .u8 0, .int .u8 0, .int .u8 0, .int .u8 0, .int .u8 0, .int .u8 0, .int .u8 0, .int .u8 0, .int .u8 0, .int .u8 0, .int .u8 0, .int .u8 0, .int .u8 0, .int .u8 0, .int .u8 0, .int .u8 0, .int .u8 0, .int .u8 0, .int .u8 0, .int .u8 0, .int .u8 0, .int .u8 0, .int .u8 0, .int .u8 0, .int .u8 0, .int .u8 0, .int .u8 0, .int .u8 0, .int .u8 0]⟩),
  (219, ⟨.array 0 16, 0, 0, []⟩),
  (222, ⟨.int .u8, 1, 1, [.int .u8 0]⟩),
  (223, ⟨.int .u8, 1, 1, [.int .u8 0]⟩),
  (224, ⟨.func, 1, 8, [.nilf]⟩),
  (225, ⟨.int .i32, 1, 4, [.int .i32 0]⟩),
  (226, ⟨.int .i32, 1, 4, [.int .i32 0]⟩)
]

def tt : TT := fun t => (rows.find? (·.1 == t)).map (·.2)

theorem tok : TOK Tryz.prog tt := tok_of_table (by kernel_rfl)

theorem mixed : Tryz.prog.follows .mixedOrders = true := by kernel_rfl

def cxP (P : Program) (φ : Fm) (n N : Nat) : Cx := ⟨P, tt, φ, n, N⟩

theorem ttT :
    tt 1 = some ⟨.func, 1, 8, [.nilf]⟩ ∧
    tt 2 = some ⟨.int .i64, 1, 8, [.int .i64 0]⟩ ∧
    tt 3 = some ⟨.int .i64, 1, 8, [.int .i64 0]⟩ ∧
    tt 4 = some ⟨.bool, 1, 1, [.bool false]⟩ ∧
    tt 5 = some ⟨.int .u8, 1, 1, [.int .u8 0]⟩ ∧
    tt 6 = some ⟨.int .u8, 1, 1, [.int .u8 0]⟩ ∧
    tt 7 = some ⟨.struct [(0, 2), (1, 3), (2, 4), (3, 6)], 4, 24, [.int .i64 0, .int .i64 0, .bool false, .int .u8 0]⟩ ∧
    tt 8 = some ⟨.struct [(0, 2), (1, 3), (2, 4), (3, 6)], 4, 24, [.int .i64 0, .int .i64 0, .bool false, .int .u8 0]⟩ ∧
    tt 9 = some ⟨.str, 1, 16, [.str []]⟩ ∧
    tt 10 = some ⟨.str, 1, 16, [.str []]⟩ ∧
    tt 11 = some ⟨.str, 1, 16, [.str []]⟩ ∧
    tt 12 = some ⟨.int .u64, 1, 8, [.int .u64 0]⟩ ∧
    tt 15 = some ⟨.ptr, 1, 8, [.nilp]⟩ ∧
    tt 16 = some ⟨.ptr, 1, 8, [.nilp]⟩ ∧
    tt 17 = some ⟨.ptr, 1, 8, [.nilp]⟩ ∧
    tt 21 = some ⟨.int .i32, 1, 4, [.int .i32 0]⟩ ∧
    tt 22 = some ⟨.slice 25, 1, 24, [.sl 2 [] .full]⟩ ∧
    tt 23 = some ⟨.slice 27, 1, 24, [.sl 4 [] .full]⟩ ∧
    tt 24 = some ⟨.struct [(0, 9), (1, 23)], 2, 40, [.str [], .sl 4 [] .full]⟩ ∧
    tt 25 = some ⟨.struct [(0, 9), (1, 23)], 2, 40, [.str [], .sl 4 [] .full]⟩ ∧
    tt 26 = some ⟨.struct [(0, 5), (1, 3), (2, 9), (3, 23)], 4, 56, [.int .u8 0, .int .i64 0, .str [], .sl 4 [] .full]⟩ ∧
    tt 27 = some ⟨.struct [(0, 5), (1, 3), (2, 9), (3, 23)], 4, 56, [.int .u8 0, .int .i64 0, .str [], .sl 4 [] .full]⟩ ∧
    tt 28 = some ⟨.func, 1, 8, [.nilf]⟩ ∧
    tt 29 = some ⟨.func, 1, 8, [.nilf]⟩ ∧
    tt 30 = some ⟨.func, 1, 8, [.nilf]⟩ ∧
    tt 31 = some ⟨.func, 1, 8, [.nilf]⟩ ∧
    tt 32 = some ⟨.func, 1, 8, [.nilf]⟩ ∧
    tt 33 = some ⟨.func, 1, 8, [.nilf]⟩ ∧
    tt 34 = some ⟨.func, 1, 8, [.nilf]⟩ ∧
    tt 35 = some ⟨.func, 1, 8, [.nilf]⟩ ∧
    tt 36 = some ⟨.func, 1, 8, [.nilf]⟩ ∧
    tt 37 = some ⟨.func, 1, 8, [.nilf]⟩ ∧
    tt 38 = some ⟨.func, 1, 8, [.nilf]⟩ ∧
    tt 39 = some ⟨.ptr, 1, 8, [.nilp]⟩ ∧
    tt 40 = some ⟨.func, 1, 8, [.nilf]⟩ ∧
    tt 41 = some ⟨.int .i64, 1, 8, [.int .i64 0]⟩ ∧
    tt 43 = some ⟨.func, 1, 8, [.nilf]⟩ ∧
    tt 44 = some ⟨.func, 1, 8, [.nilf]⟩ ∧
    tt 45 = some ⟨.func, 1, 8, [.nilf]⟩ ∧
    tt 47 = some ⟨.func, 1, 8, [.nilf]⟩ ∧
    tt 48 = some ⟨.struct [(0, 9), (1, 3)], 2, 24, [.str [], .int .i64 0]⟩ ∧
    tt 49 = some ⟨.struct [(0, 9), (1, 3)], 2, 24, [.str [], .int .i64 0]⟩ ∧
    tt 50 = some ⟨.func, 1, 8, [.nilf]⟩ ∧
    tt 51 = some ⟨.func, 1, 8, [.nilf]⟩ ∧
    tt 52 = some ⟨.func, 1, 8, [.nilf]⟩ ∧
    tt 53 = some ⟨.func, 1, 8, [.nilf]⟩ ∧
    tt 54 = some ⟨.func, 1, 8, [.nilf]⟩ ∧
    tt 55 = some ⟨.func, 1, 8, [.nilf]⟩ ∧
    tt 56 = some ⟨.func, 1, 8, [.nilf]⟩ ∧
    tt 57 = some ⟨.struct [(0, 22)], 1, 24, [.sl 2 [] .full]⟩ ∧
    tt 58 = some ⟨.struct [(0, 22)], 1, 24, [.sl 2 [] .full]⟩ ∧
    tt 59 = some ⟨.map 9 3, 1, 8, [.nilm]⟩ ∧
    tt 60 = some ⟨.map 49 86, 1, 8, [.nilm]⟩ ∧
    tt 61 = some ⟨.map 89 86, 1, 8, [.nilm]⟩ ∧
    tt 62 = some ⟨.struct [(0, 58), (1, 59), (2, 60), (3, 61)], 4, 48, [.sl 2 [] .full, .nilm, .nilm, .nilm]⟩ ∧
    tt 63 = some ⟨.struct [(0, 58), (1, 59), (2, 60), (3, 61)], 4, 48, [.sl 2 [] .full, .nilm, .nilm, .nilm]⟩ ∧
    tt 64 = some ⟨.slice 39, 1, 24, [.sl 1 [] .full]⟩ ∧
    tt 65 = some ⟨.slice 49, 1, 24, [.sl 2 [] .full]⟩ ∧
    tt 66 = some ⟨.func, 1, 8, [.nilf]⟩ ∧
    tt 67 = some ⟨.func, 1, 8, [.nilf]⟩ ∧
    tt 68 = some ⟨.func, 1, 8, [.nilf]⟩ ∧
    tt 69 = some ⟨.func, 1, 8, [.nilf]⟩ ∧
    tt 70 = some ⟨.func, 1, 8, [.nilf]⟩ ∧
    tt 72 = some ⟨.func, 1, 8, [.nilf]⟩ ∧
    tt 73 = some ⟨.func, 1, 8, [.nilf]⟩ ∧
    tt 75 = some ⟨.func, 1, 8, [.nilf]⟩ ∧
    tt 76 = some ⟨.func, 1, 8, [.nilf]⟩ ∧
    tt 77 = some ⟨.func, 1, 8, [.nilf]⟩ ∧
    tt 78 = some ⟨.func, 1, 8, [.nilf]⟩ ∧
    tt 79 = some ⟨.func, 1, 8, [.nilf]⟩ ∧
    tt 80 = some ⟨.func, 1, 8, [.nilf]⟩ ∧
    tt 81 = some ⟨.func, 1, 8, [.nilf]⟩ ∧
    tt 82 = some ⟨.func, 1, 8, [.nilf]⟩ ∧
    tt 83 = some ⟨.func, 1, 8, [.nilf]⟩ ∧
    tt 84 = some ⟨.func, 1, 8, [.nilf]⟩ ∧
    tt 85 = some ⟨.func, 1, 8, [.nilf]⟩ ∧
    tt 86 = some ⟨.slice 3, 1, 24, [.sl 1 [] .full]⟩ ∧
    tt 87 = some ⟨.func, 1, 8, [.nilf]⟩ ∧
    tt 88 = some ⟨.struct [(0, 49), (2, 3), (3, 9)], 4, 48, [.str [], .int .i64 0, .int .i64 0, .str []]⟩ ∧
    tt 89 = some ⟨.struct [(0, 49), (2, 3), (3, 9)], 4, 48, [.str [], .int .i64 0, .int .i64 0, .str []]⟩ ∧
    tt 90 = some ⟨.func, 1, 8, [.nilf]⟩ ∧
    tt 92 = some ⟨.func, 1, 8, [.nilf]⟩ ∧
    tt 93 = some ⟨.func, 1, 8, [.nilf]⟩ ∧
    tt 94 = some ⟨.func, 1, 8, [.nilf]⟩ ∧
    tt 95 = some ⟨.func, 1, 8, [.nilf]⟩ ∧
    tt 96 = some ⟨.func, 1, 8, [.nilf]⟩ ∧
    tt 97 = some ⟨.func, 1, 8, [.nilf]⟩ ∧
    tt 98 = some ⟨.func, 1, 8, [.nilf]⟩ ∧
    tt 99 = some ⟨.func, 1, 8, [.nilf]⟩ ∧
    tt 100 = some ⟨.func, 1, 8, [.nilf]⟩ ∧
    tt 101 = some ⟨.func, 1, 8, [.nilf]⟩ ∧
    tt 102 = some ⟨.func, 1, 8, [.nilf]⟩ ∧
    tt 103 = some ⟨.func, 1, 8, [.nilf]⟩ ∧
    tt 104 = some ⟨.func, 1, 8, [.nilf]⟩ ∧
    tt 105 = some ⟨.func, 1, 8, [.nilf]⟩ ∧
    tt 106 = some ⟨.func, 1, 8, [.nilf]⟩ ∧
    tt 107 = some ⟨.func, 1, 8, [.nilf]⟩ ∧
    tt 108 = some ⟨.func, 1, 8, [.nilf]⟩ ∧
    tt 109 = some ⟨.func, 1, 8, [.nilf]⟩ ∧
    tt 110 = some ⟨.func, 1, 8, [.nilf]⟩ ∧
    tt 111 = some ⟨.func, 1, 8, [.nilf]⟩ ∧
    tt 112 = some ⟨.func, 1, 8, [.nilf]⟩ ∧
    tt 113 = some ⟨.func, 1, 8, [.nilf]⟩ ∧
    tt 114 = some ⟨.func, 1, 8, [.nilf]⟩ ∧
    tt 115 = some ⟨.func, 1, 8, [.nilf]⟩ ∧
    tt 116 = some ⟨.slice 9, 1, 24, [.sl 1 [] .full]⟩ ∧
    tt 117 = some ⟨.func, 1, 8, [.nilf]⟩ ∧
    tt 118 = some ⟨.struct [(0, 27)], 4, 56, [.int .u8 0, .int .i64 0, .str [], .sl 4 [] .full]⟩ ∧
    tt 119 = some ⟨.struct [(0, 27)], 4, 56, [.int .u8 0, .int .i64 0, .str [], .sl 4 [] .full]⟩ ∧
    tt 120 = some ⟨.func, 1, 8, [.nilf]⟩ ∧
    tt 121 = some ⟨.func, 1, 8, [.nilf]⟩ ∧
    tt 122 = some ⟨.func, 1, 8, [.nilf]⟩ ∧
    tt 123 = some ⟨.ptr, 1, 8, [.nilp]⟩ ∧
    tt 124 = some ⟨.func, 1, 8, [.nilf]⟩ ∧
    tt 125 = some ⟨.func, 1, 8, [.nilf]⟩ ∧
    tt 126 = some ⟨.func, 1, 8, [.nilf]⟩ ∧
    tt 127 = some ⟨.func, 1, 8, [.nilf]⟩ ∧
    tt 128 = some ⟨.int .u64, 1, 8, [.int .u64 0]⟩ ∧
    tt 129 = some ⟨.func, 1, 8, [.nilf]⟩ ∧
    tt 130 = some ⟨.func, 1, 8, [.nilf]⟩ ∧
    tt 131 = some ⟨.func, 1, 8, [.nilf]⟩ ∧
    tt 132 = some ⟨.func, 1, 8, [.nilf]⟩ ∧
    tt 133 = some ⟨.func, 1, 8, [.nilf]⟩ ∧
    tt 134 = some ⟨.func, 1, 8, [.nilf]⟩ ∧
    tt 135 = some ⟨.func, 1, 8, [.nilf]⟩ ∧
    tt 136 = some ⟨.func, 1, 8, [.nilf]⟩ ∧
    tt 137 = some ⟨.slice 5, 1, 24, [.sl 1 [] .full]⟩ ∧
    tt 138 = some ⟨.func, 1, 8, [.nilf]⟩ ∧
    tt 139 = some ⟨.ptr, 1, 8, [.nilp]⟩ ∧
    tt 140 = some ⟨.struct [(0, 139), (1, 137)], 2, 32, [.nilp, .sl 1 [] .full]⟩ ∧
    tt 141 = some ⟨.struct [(0, 139), (1, 137)], 2, 32, [.nilp, .sl 1 [] .full]⟩ ∧
    tt 142 = some ⟨.func, 1, 8, [.nilf]⟩ ∧
    tt 146 = some ⟨.func, 1, 8, [.nilf]⟩ ∧
    tt 147 = some ⟨.func, 1, 8, [.nilf]⟩ ∧
    tt 148 = some ⟨.func, 1, 8, [.nilf]⟩ ∧
    tt 149 = some ⟨.func, 1, 8, [.nilf]⟩ ∧
    tt 150 = some ⟨.int .i64, 1, 8, [.int .i64 0]⟩ ∧
    tt 152 = some ⟨.func, 1, 8, [.nilf]⟩ ∧
    tt 153 = some ⟨.func, 1, 8, [.nilf]⟩ ∧
    tt 154 = some ⟨.func, 1, 8, [.nilf]⟩ ∧
    tt 155 = some ⟨.func, 1, 8, [.nilf]⟩ ∧
    tt 156 = some ⟨.func, 1, 8, [.nilf]⟩ ∧
    tt 157 = some ⟨.int .u32, 1, 4, [.int .u32 0]⟩ ∧
    tt 158 = some ⟨.func, 1, 8, [.nilf]⟩ ∧
    tt 159 = some ⟨.int .u64, 1, 8, [.int .u64 0]⟩ ∧
    tt 160 = some ⟨.func, 1, 8, [.nilf]⟩ ∧
    tt 161 = some ⟨.func, 1, 8, [.nilf]⟩ ∧
    tt 162 = some ⟨.func, 1, 8, [.nilf]⟩ ∧
    tt 163 = some ⟨.func, 1, 8, [.nilf]⟩ ∧
    tt 164 = some ⟨.func, 1, 8, [.nilf]⟩ ∧
    tt 165 = some ⟨.func, 1, 8, [.nilf]⟩ ∧
    tt 166 = some ⟨.map 5 30, 1, 8, [.nilm]⟩ ∧
    tt 167 = some ⟨.func, 1, 8, [.nilf]⟩ ∧
    tt 168 = some ⟨.func, 1, 8, [.nilf]⟩ ∧
    tt 172 = some ⟨.func, 1, 8, [.nilf]⟩ ∧
    tt 173 = some ⟨.func, 1, 8, [.nilf]⟩ ∧
    tt 174 = some ⟨.ptr, 1, 8, [.nilp]⟩ ∧
    tt 175 = some ⟨.ptr, 1, 8, [.nilp]⟩ ∧
    tt 176 = some ⟨.func, 1, 8, [.nilf]⟩ ∧
    tt 177 = some ⟨.int .u64, 1, 8, [.int .u64 0]⟩ ∧
    tt 178 = some ⟨.func, 1, 8, [.nilf]⟩ ∧
    tt 179 = some ⟨.func, 1, 8, [.nilf]⟩ ∧
    tt 180 = some ⟨.func, 1, 8, [.nilf]⟩ ∧
    tt 181 = some ⟨.ptr, 1, 8, [.nilp]⟩ ∧
    tt 182 = some ⟨.func, 1, 8, [.nilf]⟩ ∧
    tt 183 = some ⟨.func, 1, 8, [.nilf]⟩ ∧
    tt 184 = some ⟨.func, 1, 8, [.nilf]⟩ ∧
    tt 186 = some ⟨.func, 1, 8, [.nilf]⟩ ∧
    tt 188 = some ⟨.func, 1, 8, [.nilf]⟩ ∧
    tt 189 = some ⟨.func, 1, 8, [.nilf]⟩ ∧
    tt 191 = some ⟨.func, 1, 8, [.nilf]⟩ ∧
    tt 192 = some ⟨.func, 1, 8, [.nilf]⟩ ∧
    tt 193 = some ⟨.func, 1, 8, [.nilf]⟩ ∧
    tt 194 = some ⟨.ptr, 1, 8, [.nilp]⟩ ∧
    tt 196 = some ⟨.func, 1, 8, [.nilf]⟩ ∧
    tt 197 = some ⟨.func, 1, 8, [.nilf]⟩ ∧
    tt 198 = some ⟨.func, 1, 8, [.nilf]⟩ ∧
    tt 199 = some ⟨.array 24 5, 24, 24, [.int .u8 0, .int .u8 0, .int .u8 0, .int .u8 0, .int .u8 0, .int .u8 0, .int .u8 0, .int .u8 0, .int .u8 0, .int .u8 0, .int .u8 0, .int .u8 0, .int .u8 0, .int .u8 0, .int .u8 0, .int .u8 0, .int .u8 0, .int .u8 0, .int .u8 0, .int .u8 0, .int .u8 0, .int .u8 0, .int .u8 0, .int .u8 0]⟩ ∧
    tt 200 = some ⟨.func, 1, 8, [.nilf]⟩ ∧
    tt 202 = some ⟨.func, 1, 8, [.nilf]⟩ ∧
    tt 203 = some ⟨.func, 1, 8, [.nilf]⟩ ∧
    tt 204 = some ⟨.func, 1, 8, [.nilf]⟩ ∧
    tt 206 = some ⟨.struct [(0, 5), (1, 5)], 2, 2, [.int .u8 0, .int .u8 0]⟩ ∧
    tt 207 = some ⟨.struct [(0, 5), (1, 5)], 2, 2, [.int .u8 0, .int .u8 0]⟩ ∧
    tt 208 = some ⟨.array 16 207, 32, 32, [.int .u8 0, .int .u8 0, .int .u8 0, .int .u8 0, .int .u8 0, .int .u8 0, .int .u8 0, .int .u8 0, .int .u8 0, .int .u8 0, .int .u8 0, .int .u8 0, .int .u8 0, .int .u8 0, .int .u8 0, .int .u8 0, .int .u8 0, .int .u8 0, .int .u8 0, .int .u8 0, .int .u8 0, .int .u8 0, .int .u8 0, .int .u8 0, .int .u8 0, .int .u8 0, .int .u8 0, .int .u8 0, .int .u8 0, .int .u8 0, .int .u8 0, .int .u8 0]⟩ ∧
    tt 209 = some ⟨.func, 1, 8, [.nilf]⟩ ∧
    tt 210 = some ⟨.func, 1, 8, [.nilf]⟩ ∧
    tt 211 = some ⟨.array 20 159, 20, 160, [.int .u64 0, .int .u64 0, .int .u64 0, .int .u64 0, .int .u64 0, .int .u64 0, .int .u64 0, .int .u64 0, .int .u64 0, .int .u64 0, .int .u64 0, .int .u64 0, .int .u64 0, .int .u64 0, .int .u64 0, .int .u64 0, .int .u64 0, .int .u64 0, .int .u64 0, .int .u64 0]⟩ ∧
    tt 214 = some ⟨.func, 1, 8, [.nilf]⟩ ∧
    tt 215 = some ⟨.array 32 5, 32, 32, [.int .u8 0, .int .u8 0, .int .u8 0, .int .u8 0, .int .u8 0, .int .u8 0, .int .u8 0, .int .u8 0, .int .u8 0, .int .u8 0, .int .u8 0, .int .u8 0, .int .u8 0, .int .u8 0, .int .u8 0, .int .u8 0, .int .u8 0, .int .u8 0, .int .u8 0, .int .u8 0, .int .u8 0, .int .u8 0, .int .u8 0, .int .u8 0, .int .u8 0, .int .u8 0, .int .u8 0, .int .u8 0, .int .u8 0, .int .u8 0, .int .u8 0, .int .u8 0]⟩ ∧
    tt 219 = some ⟨.array 0 16, 0, 0, []⟩ ∧
    tt 222 = some ⟨.int .u8, 1, 1, [.int .u8 0]⟩ ∧
    tt 223 = some ⟨.int .u8, 1, 1, [.int .u8 0]⟩ ∧
    tt 224 = some ⟨.func, 1, 8, [.nilf]⟩ ∧
    tt 225 = some ⟨.int .i32, 1, 4, [.int .i32 0]⟩ ∧
    tt 226 = some ⟨.int .i32, 1, 4, [.int .i32 0]⟩ := by
  refine ⟨?_, ?_, ?_, ?_, ?_, ?_, ?_, ?_, ?_, ?_, ?_, ?_, ?_, ?_, ?_, ?_, ?_, ?_, ?_, ?_, ?_, ?_, ?_, ?_, ?_, ?_, ?_, ?_, ?_, ?_, ?_, ?_, ?_, ?_, ?_, ?_, ?_, ?_, ?_, ?_, ?_, ?_, ?_, ?_, ?_, ?_, ?_, ?_, ?_, ?_, ?_, ?_, ?_, ?_, ?_, ?_, ?_, ?_, ?_, ?_, ?_, ?_, ?_, ?_, ?_, ?_, ?_, ?_, ?_, ?_, ?_, ?_, ?_, ?_, ?_, ?_, ?_, ?_, ?_, ?_, ?_, ?_, ?_, ?_, ?_, ?_, ?_, ?_, ?_, ?_, ?_, ?_, ?_, ?_, ?_, ?_, ?_, ?_, ?_, ?_, ?_, ?_, ?_, ?_, ?_, ?_, ?_, ?_, ?_, ?_, ?_, ?_, ?_, ?_, ?_, ?_, ?_, ?_, ?_, ?_, ?_, ?_, ?_, ?_, ?_, ?_, ?_, ?_, ?_, ?_, ?_, ?_, ?_, ?_, ?_, ?_, ?_, ?_, ?_, ?_, ?_, ?_, ?_, ?_, ?_, ?_, ?_, ?_, ?_, ?_, ?_, ?_, ?_, ?_, ?_, ?_, ?_, ?_, ?_, ?_, ?_, ?_, ?_, ?_, ?_, ?_, ?_, ?_, ?_, ?_, ?_, ?_, ?_, ?_, ?_, ?_, ?_, ?_, ?_, ?_, ?_, ?_, ?_, ?_, ?_, ?_, ?_, ?_, ?_, ?_, ?_, ?_, ?_, ?_, ?_, ?_⟩ <;> rfl

theorem ttF :
    fieldOf tt 7 0 = some (0, ⟨.int .i64, 1, 8, [.int .i64 0]⟩) ∧
    fieldOf tt 7 1 = some (1, ⟨.int .i64, 1, 8, [.int .i64 0]⟩) ∧
    fieldOf tt 7 2 = some (2, ⟨.bool, 1, 1, [.bool false]⟩) ∧
    fieldOf tt 7 3 = some (3, ⟨.int .u8, 1, 1, [.int .u8 0]⟩) ∧
    fieldOf tt 8 0 = some (0, ⟨.int .i64, 1, 8, [.int .i64 0]⟩) ∧
    fieldOf tt 8 1 = some (1, ⟨.int .i64, 1, 8, [.int .i64 0]⟩) ∧
    fieldOf tt 8 2 = some (2, ⟨.bool, 1, 1, [.bool false]⟩) ∧
    fieldOf tt 8 3 = some (3, ⟨.int .u8, 1, 1, [.int .u8 0]⟩) ∧
    fieldOf tt 24 0 = some (0, ⟨.str, 1, 16, [.str []]⟩) ∧
    fieldOf tt 24 1 = some (1, ⟨.slice 27, 1, 24, [.sl 4 [] .full]⟩) ∧
    fieldOf tt 25 0 = some (0, ⟨.str, 1, 16, [.str []]⟩) ∧
    fieldOf tt 25 1 = some (1, ⟨.slice 27, 1, 24, [.sl 4 [] .full]⟩) ∧
    fieldOf tt 26 0 = some (0, ⟨.int .u8, 1, 1, [.int .u8 0]⟩) ∧
    fieldOf tt 26 1 = some (1, ⟨.int .i64, 1, 8, [.int .i64 0]⟩) ∧
    fieldOf tt 26 2 = some (2, ⟨.str, 1, 16, [.str []]⟩) ∧
    fieldOf tt 26 3 = some (3, ⟨.slice 27, 1, 24, [.sl 4 [] .full]⟩) ∧
    fieldOf tt 27 0 = some (0, ⟨.int .u8, 1, 1, [.int .u8 0]⟩) ∧
    fieldOf tt 27 1 = some (1, ⟨.int .i64, 1, 8, [.int .i64 0]⟩) ∧
    fieldOf tt 27 2 = some (2, ⟨.str, 1, 16, [.str []]⟩) ∧
    fieldOf tt 27 3 = some (3, ⟨.slice 27, 1, 24, [.sl 4 [] .full]⟩) ∧
    fieldOf tt 48 0 = some (0, ⟨.str, 1, 16, [.str []]⟩) ∧
    fieldOf tt 48 1 = some (1, ⟨.int .i64, 1, 8, [.int .i64 0]⟩) ∧
    fieldOf tt 49 0 = some (0, ⟨.str, 1, 16, [.str []]⟩) ∧
    fieldOf tt 49 1 = some (1, ⟨.int .i64, 1, 8, [.int .i64 0]⟩) ∧
    fieldOf tt 57 0 = some (0, ⟨.slice 25, 1, 24, [.sl 2 [] .full]⟩) ∧
    fieldOf tt 58 0 = some (0, ⟨.slice 25, 1, 24, [.sl 2 [] .full]⟩) ∧
    fieldOf tt 62 0 = some (0, ⟨.struct [(0, 22)], 1, 24, [.sl 2 [] .full]⟩) ∧
    fieldOf tt 62 1 = some (1, ⟨.map 9 3, 1, 8, [.nilm]⟩) ∧
    fieldOf tt 62 2 = some (2, ⟨.map 49 86, 1, 8, [.nilm]⟩) ∧
    fieldOf tt 62 3 = some (3, ⟨.map 89 86, 1, 8, [.nilm]⟩) ∧
    fieldOf tt 63 0 = some (0, ⟨.struct [(0, 22)], 1, 24, [.sl 2 [] .full]⟩) ∧
    fieldOf tt 63 1 = some (1, ⟨.map 9 3, 1, 8, [.nilm]⟩) ∧
    fieldOf tt 63 2 = some (2, ⟨.map 49 86, 1, 8, [.nilm]⟩) ∧
    fieldOf tt 63 3 = some (3, ⟨.map 89 86, 1, 8, [.nilm]⟩) ∧
    fieldOf tt 88 0 = some (0, ⟨.struct [(0, 9), (1, 3)], 2, 24, [.str [], .int .i64 0]⟩) ∧
    fieldOf tt 88 1 = some (2, ⟨.int .i64, 1, 8, [.int .i64 0]⟩) ∧
    fieldOf tt 88 2 = some (3, ⟨.str, 1, 16, [.str []]⟩) ∧
    fieldOf tt 89 0 = some (0, ⟨.struct [(0, 9), (1, 3)], 2, 24, [.str [], .int .i64 0]⟩) ∧
    fieldOf tt 89 1 = some (2, ⟨.int .i64, 1, 8, [.int .i64 0]⟩) ∧
    fieldOf tt 89 2 = some (3, ⟨.str, 1, 16, [.str []]⟩) ∧
    fieldOf tt 118 0 = some (0, ⟨.struct [(0, 5), (1, 3), (2, 9), (3, 23)], 4, 56, [.int .u8 0, .int .i64 0, .str [], .sl 4 [] .full]⟩) ∧
    fieldOf tt 119 0 = some (0, ⟨.struct [(0, 5), (1, 3), (2, 9), (3, 23)], 4, 56, [.int .u8 0, .int .i64 0, .str [], .sl 4 [] .full]⟩) ∧
    fieldOf tt 140 0 = some (0, ⟨.ptr, 1, 8, [.nilp]⟩) ∧
    fieldOf tt 140 1 = some (1, ⟨.slice 5, 1, 24, [.sl 1 [] .full]⟩) ∧
    fieldOf tt 141 0 = some (0, ⟨.ptr, 1, 8, [.nilp]⟩) ∧
    fieldOf tt 141 1 = some (1, ⟨.slice 5, 1, 24, [.sl 1 [] .full]⟩) ∧
    fieldOf tt 206 0 = some (0, ⟨.int .u8, 1, 1, [.int .u8 0]⟩) ∧
    fieldOf tt 206 1 = some (1, ⟨.int .u8, 1, 1, [.int .u8 0]⟩) ∧
    fieldOf tt 207 0 = some (0, ⟨.int .u8, 1, 1, [.int .u8 0]⟩) ∧
    fieldOf tt 207 1 = some (1, ⟨.int .u8, 1, 1, [.int .u8 0]⟩) := by
  refine ⟨?_, ?_, ?_, ?_, ?_, ?_, ?_, ?_, ?_, ?_, ?_, ?_, ?_, ?_, ?_, ?_, ?_, ?_, ?_, ?_, ?_, ?_, ?_, ?_, ?_, ?_, ?_, ?_, ?_, ?_, ?_, ?_, ?_, ?_, ?_, ?_, ?_, ?_, ?_, ?_, ?_, ?_, ?_, ?_, ?_, ?_, ?_, ?_, ?_, ?_⟩ <;> rfl

theorem ttS :
    sliceOf tt 22 = some (25, ⟨.struct [(0, 9), (1, 23)], 2, 40, [.str [], .sl 4 [] .full]⟩) ∧
    sliceOf tt 23 = some (27, ⟨.struct [(0, 5), (1, 3), (2, 9), (3, 23)], 4, 56, [.int .u8 0, .int .i64 0, .str [], .sl 4 [] .full]⟩) ∧
    sliceOf tt 64 = some (39, ⟨.ptr, 1, 8, [.nilp]⟩) ∧
    sliceOf tt 65 = some (49, ⟨.struct [(0, 9), (1, 3)], 2, 24, [.str [], .int .i64 0]⟩) ∧
    sliceOf tt 86 = some (3, ⟨.int .i64, 1, 8, [.int .i64 0]⟩) ∧
    sliceOf tt 116 = some (9, ⟨.str, 1, 16, [.str []]⟩) ∧
    sliceOf tt 137 = some (5, ⟨.int .u8, 1, 1, [.int .u8 0]⟩) := by
  refine ⟨?_, ?_, ?_, ?_, ?_, ?_, ?_⟩ <;> rfl

theorem ttD :
    tdOf tt 1 = some (.func) ∧
    tdOf tt 2 = some (.int .i64) ∧
    tdOf tt 3 = some (.int .i64) ∧
    tdOf tt 4 = some (.bool) ∧
    tdOf tt 5 = some (.int .u8) ∧
    tdOf tt 6 = some (.int .u8) ∧
    tdOf tt 9 = some (.str) ∧
    tdOf tt 10 = some (.str) ∧
    tdOf tt 11 = some (.str) ∧
    tdOf tt 12 = some (.int .u64) ∧
    tdOf tt 15 = some (.ptr) ∧
    tdOf tt 16 = some (.ptr) ∧
    tdOf tt 17 = some (.ptr) ∧
    tdOf tt 21 = some (.int .i32) ∧
    tdOf tt 28 = some (.func) ∧
    tdOf tt 29 = some (.func) ∧
    tdOf tt 30 = some (.func) ∧
    tdOf tt 31 = some (.func) ∧
    tdOf tt 32 = some (.func) ∧
    tdOf tt 33 = some (.func) ∧
    tdOf tt 34 = some (.func) ∧
    tdOf tt 35 = some (.func) ∧
    tdOf tt 36 = some (.func) ∧
    tdOf tt 37 = some (.func) ∧
    tdOf tt 38 = some (.func) ∧
    tdOf tt 39 = some (.ptr) ∧
    tdOf tt 40 = some (.func) ∧
    tdOf tt 41 = some (.int .i64) ∧
    tdOf tt 43 = some (.func) ∧
    tdOf tt 44 = some (.func) ∧
    tdOf tt 45 = some (.func) ∧
    tdOf tt 47 = some (.func) ∧
    tdOf tt 50 = some (.func) ∧
    tdOf tt 51 = some (.func) ∧
    tdOf tt 52 = some (.func) ∧
    tdOf tt 53 = some (.func) ∧
    tdOf tt 54 = some (.func) ∧
    tdOf tt 55 = some (.func) ∧
    tdOf tt 56 = some (.func) ∧
    tdOf tt 59 = some (.map 9 3) ∧
    tdOf tt 60 = some (.map 49 86) ∧
    tdOf tt 61 = some (.map 89 86) ∧
    tdOf tt 66 = some (.func) ∧
    tdOf tt 67 = some (.func) ∧
    tdOf tt 68 = some (.func) ∧
    tdOf tt 69 = some (.func) ∧
    tdOf tt 70 = some (.func) ∧
    tdOf tt 72 = some (.func) ∧
    tdOf tt 73 = some (.func) ∧
    tdOf tt 75 = some (.func) ∧
    tdOf tt 76 = some (.func) ∧
    tdOf tt 77 = some (.func) ∧
    tdOf tt 78 = some (.func) ∧
    tdOf tt 79 = some (.func) ∧
    tdOf tt 80 = some (.func) ∧
    tdOf tt 81 = some (.func) ∧
    tdOf tt 82 = some (.func) ∧
    tdOf tt 83 = some (.func) ∧
    tdOf tt 84 = some (.func) ∧
    tdOf tt 85 = some (.func) ∧
    tdOf tt 87 = some (.func) ∧
    tdOf tt 90 = some (.func) ∧
    tdOf tt 92 = some (.func) ∧
    tdOf tt 93 = some (.func) ∧
    tdOf tt 94 = some (.func) ∧
    tdOf tt 95 = some (.func) ∧
    tdOf tt 96 = some (.func) ∧
    tdOf tt 97 = some (.func) ∧
    tdOf tt 98 = some (.func) ∧
    tdOf tt 99 = some (.func) ∧
    tdOf tt 100 = some (.func) ∧
    tdOf tt 101 = some (.func) ∧
    tdOf tt 102 = some (.func) ∧
    tdOf tt 103 = some (.func) ∧
    tdOf tt 104 = some (.func) ∧
    tdOf tt 105 = some (.func) ∧
    tdOf tt 106 = some (.func) ∧
    tdOf tt 107 = some (.func) ∧
    tdOf tt 108 = some (.func) ∧
    tdOf tt 109 = some (.func) ∧
    tdOf tt 110 = some (.func) ∧
    tdOf tt 111 = some (.func) ∧
    tdOf tt 112 = some (.func) ∧
    tdOf tt 113 = some (.func) ∧
    tdOf tt 114 = some (.func) ∧
    tdOf tt 115 = some (.func) ∧
    tdOf tt 117 = some (.func) ∧
    tdOf tt 120 = some (.func) ∧
    tdOf tt 121 = some (.func) ∧
    tdOf tt 122 = some (.func) ∧
    tdOf tt 123 = some (.ptr) ∧
    tdOf tt 124 = some (.func) ∧
    tdOf tt 125 = some (.func) ∧
    tdOf tt 126 = some (.func) ∧
    tdOf tt 127 = some (.func) ∧
    tdOf tt 128 = some (.int .u64) ∧
    tdOf tt 129 = some (.func) ∧
    tdOf tt 130 = some (.func) ∧
    tdOf tt 131 = some (.func) ∧
    tdOf tt 132 = some (.func) ∧
    tdOf tt 133 = some (.func) ∧
    tdOf tt 134 = some (.func) ∧
    tdOf tt 135 = some (.func) ∧
    tdOf tt 136 = some (.func) ∧
    tdOf tt 138 = some (.func) ∧
    tdOf tt 139 = some (.ptr) ∧
    tdOf tt 142 = some (.func) ∧
    tdOf tt 146 = some (.func) ∧
    tdOf tt 147 = some (.func) ∧
    tdOf tt 148 = some (.func) ∧
    tdOf tt 149 = some (.func) ∧
    tdOf tt 150 = some (.int .i64) ∧
    tdOf tt 152 = some (.func) ∧
    tdOf tt 153 = some (.func) ∧
    tdOf tt 154 = some (.func) ∧
    tdOf tt 155 = some (.func) ∧
    tdOf tt 156 = some (.func) ∧
    tdOf tt 157 = some (.int .u32) ∧
    tdOf tt 158 = some (.func) ∧
    tdOf tt 159 = some (.int .u64) ∧
    tdOf tt 160 = some (.func) ∧
    tdOf tt 161 = some (.func) ∧
    tdOf tt 162 = some (.func) ∧
    tdOf tt 163 = some (.func) ∧
    tdOf tt 164 = some (.func) ∧
    tdOf tt 165 = some (.func) ∧
    tdOf tt 166 = some (.map 5 30) ∧
    tdOf tt 167 = some (.func) ∧
    tdOf tt 168 = some (.func) ∧
    tdOf tt 172 = some (.func) ∧
    tdOf tt 173 = some (.func) ∧
    tdOf tt 174 = some (.ptr) ∧
    tdOf tt 175 = some (.ptr) ∧
    tdOf tt 176 = some (.func) ∧
    tdOf tt 177 = some (.int .u64) ∧
    tdOf tt 178 = some (.func) ∧
    tdOf tt 179 = some (.func) ∧
    tdOf tt 180 = some (.func) ∧
    tdOf tt 181 = some (.ptr) ∧
    tdOf tt 182 = some (.func) ∧
    tdOf tt 183 = some (.func) ∧
    tdOf tt 184 = some (.func) ∧
    tdOf tt 186 = some (.func) ∧
    tdOf tt 188 = some (.func) ∧
    tdOf tt 189 = some (.func) ∧
    tdOf tt 191 = some (.func) ∧
    tdOf tt 192 = some (.func) ∧
    tdOf tt 193 = some (.func) ∧
    tdOf tt 194 = some (.ptr) ∧
    tdOf tt 196 = some (.func) ∧
    tdOf tt 197 = some (.func) ∧
    tdOf tt 198 = some (.func) ∧
    tdOf tt 200 = some (.func) ∧
    tdOf tt 202 = some (.func) ∧
    tdOf tt 203 = some (.func) ∧
    tdOf tt 204 = some (.func) ∧
    tdOf tt 209 = some (.func) ∧
    tdOf tt 210 = some (.func) ∧
    tdOf tt 214 = some (.func) ∧
    tdOf tt 222 = some (.int .u8) ∧
    tdOf tt 223 = some (.int .u8) ∧
    tdOf tt 224 = some (.func) ∧
    tdOf tt 225 = some (.int .i32) ∧
    tdOf tt 226 = some (.int .i32) := by
  refine ⟨?_, ?_, ?_, ?_, ?_, ?_, ?_, ?_, ?_, ?_, ?_, ?_, ?_, ?_, ?_, ?_, ?_, ?_, ?_, ?_, ?_, ?_, ?_, ?_, ?_, ?_, ?_, ?_, ?_, ?_, ?_, ?_, ?_, ?_, ?_, ?_, ?_, ?_, ?_, ?_, ?_, ?_, ?_, ?_, ?_, ?_, ?_, ?_, ?_, ?_, ?_, ?_, ?_, ?_, ?_, ?_, ?_, ?_, ?_, ?_, ?_, ?_, ?_, ?_, ?_, ?_, ?_, ?_, ?_, ?_, ?_, ?_, ?_, ?_, ?_, ?_, ?_, ?_, ?_, ?_, ?_, ?_, ?_, ?_, ?_, ?_, ?_, ?_, ?_, ?_, ?_, ?_, ?_, ?_, ?_, ?_, ?_, ?_, ?_, ?_, ?_, ?_, ?_, ?_, ?_, ?_, ?_, ?_, ?_, ?_, ?_, ?_, ?_, ?_, ?_, ?_, ?_, ?_, ?_, ?_, ?_, ?_, ?_, ?_, ?_, ?_, ?_, ?_, ?_, ?_, ?_, ?_, ?_, ?_, ?_, ?_, ?_, ?_, ?_, ?_, ?_, ?_, ?_, ?_, ?_, ?_, ?_, ?_, ?_, ?_, ?_, ?_, ?_, ?_, ?_, ?_, ?_, ?_, ?_, ?_, ?_, ?_, ?_, ?_⟩ <;> rfl

theorem ttM :
    mapOf tt 59 = some (9, 3, ⟨.int .i64, 1, 8, [.int .i64 0]⟩) ∧
    mapOf tt 60 = some (49, 86, ⟨.slice 3, 1, 24, [.sl 1 [] .full]⟩) ∧
    mapOf tt 61 = some (89, 86, ⟨.slice 3, 1, 24, [.sl 1 [] .full]⟩) ∧
    mapOf tt 166 = some (5, 30, ⟨.func, 1, 8, [.nilf]⟩) := by
  refine ⟨?_, ?_, ?_, ?_⟩ <;> rfl

end Go.Proofs.YtpoegdhgdgbmaaaGreatDoorR

/- Terms and atoms as plain data, and as abstract values. No program, no condition. -/
namespace Go.Abs

/-- A term of the program's data. -/
inductive Tm where
  | mk (kind num : Int) (name : List UInt8) (args : List Tm)

namespace Tm
def kind : Tm → Int | mk k _ _ _ => k
def num : Tm → Int | mk _ n _ _ => n
def name : Tm → List UInt8 | mk _ _ s _ => s
def args : Tm → List Tm | mk _ _ _ l => l

/-- The term as an abstract value. -/
def enc : Tm → AV
  | mk k n s l => .agg [.int .u8 k, .int .i64 n, .str s, .sl 4 (encs l) .any]
where encs : List Tm → List AV
  | [] => []
  | t :: r => enc t :: encs r

/-- A list of terms as a slice's elements. -/
abbrev encs (l : List Tm) : List AV := l.map enc

theorem encs_eq : ∀ l : List Tm, enc.encs l = l.map enc
  | [] => rfl
  | t :: r => by rw [enc.encs, encs_eq r]; rfl

theorem enc_eq (t : Tm) : t.enc = .agg [.int .u8 t.kind, .int .i64 t.num, .str t.name, .sl 4 (t.args.map enc) .any] := by
  cases t; rw [enc, encs_eq]; rfl

/-- The four cells. -/
def cs (t : Tm) : List AV := [.int .u8 t.kind, .int .i64 t.num, .str t.name, .sl 4 (t.args.map enc) .any]

theorem enc_cs (t : Tm) : t.enc = .agg t.cs := t.enc_eq
theorem cells_enc (t : Tm) : t.enc.cells = t.cs := by rw [enc_cs]; rfl
theorem cs_len (t : Tm) : t.cs.length = 4 := rfl
theorem size_lt {t : Tm} {u : Tm} (h : u ∈ t.args) : SizeOf.sizeOf u < SizeOf.sizeOf t := by
  cases t with
  | mk k n s l => have := List.sizeOf_lt_of_mem (show u ∈ l from h); simp; omega

theorem blw (n : Nat) : ∀ t : Tm, Below n t.enc
  | mk k m s l => by
    have hl : ∀ u ∈ l, Below n u.enc := fun u hu => by
      have := List.sizeOf_lt_of_mem hu
      exact blw n u
    rw [enc_eq]
    refine below_agg ?_
    simp only [List.mem_cons, List.not_mem_nil, or_false, forall_eq_or_imp, forall_eq]
    refine ⟨.int _ _, .int _ _, .str _, below_sla fun x hx => ?_⟩
    obtain ⟨u, hu, rfl⟩ := List.mem_map.1 hx
    exact hl u hu
termination_by t => SizeOf.sizeOf t

theorem _root_.Go.Abs.below_iptr {n : Nat} {cs : List AV} (h : AllP (fun c => Below n c) cs) : Below n (.iptr cs) := .iptr cs fun j hj => h.mem _ (List.getElem_mem hj)

/-- The four cells name no slot. -/
theorem bcs {n : Nat} (t : Tm) : AllP (fun c => Below n c) t.cs := ⟨.int _ _, .int _ _, .str _, below_sla (fun x hx => by obtain ⟨u, _, rfl⟩ := List.mem_map.1 hx; exact blw n u), trivial⟩

theorem ins {n : Nat} {p : Nat → Prop} (t : Tm) : Inside n p t.enc := (blw n t).inside
theorem inss {n : Nat} {p : Nat → Prop} (l : List Tm) (k : Nat) : Inside n p (.sl k (l.map enc) .any) := Below.inside (below_sla fun x hx => by obtain ⟨u, _, rfl⟩ := List.mem_map.1 hx; exact blw n u)
theorem cells_cs (t : Tm) : t.enc.cells = [.int .u8 t.kind, .int .i64 t.num, .str t.name, .sl 4 (t.args.map enc) .any] := cells_enc t
theorem fold (t : Tm) : AV.agg [.int .u8 t.kind, .int .i64 t.num, .str t.name, .sl 4 (t.args.map enc) .any] = t.enc := t.enc_eq.symm

theorem one_cs (t : Tm) : ones t.enc = true := by rw [enc_cs]; rfl

/-- The number of terms in it. -/
def sz : Tm → Nat
  | mk _ _ _ l => 1 + szs l
where szs : List Tm → Nat
  | [] => 0
  | t :: r => sz t + szs r

theorem sz_mem {u : Tm} : ∀ {l : List Tm}, u ∈ l → u.sz ≤ sz.szs l
  | t :: r, h => by
    simp only [sz.szs]
    rcases List.mem_cons.1 h with rfl | h
    · omega
    · have := sz_mem h; omega
theorem sz_pos (t : Tm) : 1 ≤ t.sz := by cases t; simp only [sz]; omega
theorem sz_len : ∀ l : List Tm, l.length ≤ sz.szs l
  | [] => Nat.le_refl _
  | t :: r => by have := sz_len r; have := sz_pos t; simp only [sz.szs, List.length_cons]; omega
theorem sz_eq (t : Tm) : t.sz = 1 + sz.szs t.args := by cases t; rfl
theorem sz_arg {t u : Tm} (h : u ∈ t.args) : u.sz < t.sz := by rw [sz_eq t]; have := sz_mem h; omega
theorem args_len (t : Tm) : t.args.length < t.sz := by rw [sz_eq t]; have := sz_len t.args; omega

/-- All names are strings. -/
inductive Nm : Tm → Prop
  | mk (k n : Int) (s : List UInt8) (l : List Tm) (h : s.length ≤ 140737488355328) (hk : 0 ≤ k ∧ k ≤ 255) (hn : -9223372036854775808 ≤ n ∧ n ≤ 9223372036854775807) (hl : ∀ u ∈ l, Nm u) : Nm (.mk k n s l)

/-- A term that is not too large. -/
structure Good (t : Tm) : Prop where
  sz : t.sz ≤ 1000000
  nm : Nm t

theorem Good.name {t : Tm} (h : Good t) : t.name.length ≤ 140737488355328 := by
  obtain ⟨_, h⟩ := h; cases h; assumption
theorem Good.arg {t u : Tm} (h : Good t) (hu : u ∈ t.args) : Good u := by
  refine ⟨Nat.le_of_lt (Nat.lt_of_lt_of_le (sz_arg hu) h.sz), ?_⟩
  obtain ⟨_, h⟩ := h; cases h with | mk k n s l _ _ _ hl => exact hl u hu
theorem Good.kind {t : Tm} (h : Good t) : 0 ≤ t.kind ∧ t.kind ≤ 255 := by obtain ⟨_, h⟩ := h; cases h; assumption
theorem Good.num {t : Tm} (h : Good t) : -9223372036854775808 ≤ t.num ∧ t.num ≤ 9223372036854775807 := by obtain ⟨_, h⟩ := h; cases h; assumption
theorem Good.len {t : Tm} (h : Good t) : t.args.length ≤ 1000000 := Nat.le_of_lt (Nat.lt_of_lt_of_le (args_len t) h.sz)

/-- All terms in it are such. -/
def all (p : Tm → Bool) : Tm → Bool
  | mk k n s l => p (mk k n s l) && alls p l
where alls (p : Tm → Bool) : List Tm → Bool
  | [] => true
  | t :: r => all p t && alls p r

theorem all_eq (p : Tm → Bool) (t : Tm) : all p t = (p t && all.alls p t.args) := by cases t; rfl
theorem alls_iff (p : Tm → Bool) : ∀ l : List Tm, all.alls p l = l.all (all p)
  | [] => rfl
  | t :: r => by rw [all.alls, alls_iff p r]; rfl

theorem getD_enc (l : List Tm) (i : Nat) (h : i < l.length) (d : AV) : (l.map enc).getD i d = (l[i]).enc := by
  rw [List.getD_eq_getElem?_getD, List.getElem?_map, List.getElem?_eq_getElem h]; rfl

end Tm

/-- An atom of the program's data. -/
structure Am where
  pred : List UInt8
  args : List Tm

namespace Am
def cs (a : Am) : List AV := [.str a.pred, .sl 4 (a.args.map Tm.enc) .any]
/-- The atom as an abstract value. -/
def enc (a : Am) : AV := .agg a.cs
theorem cells_cs (a : Am) : a.enc.cells = [.str a.pred, .sl 4 (a.args.map Tm.enc) .any] := rfl
theorem fold (a : Am) : AV.agg [.str a.pred, .sl 4 (a.args.map Tm.enc) .any] = a.enc := rfl
theorem bcs {n : Nat} (a : Am) : AllP (fun c => Below n c) a.cs := ⟨.str _, below_sla (fun x hx => by obtain ⟨u, _, rfl⟩ := List.mem_map.1 hx; exact u.blw n), trivial⟩
theorem blw (n : Nat) (a : Am) : Below n a.enc := below_agg a.bcs.mem
theorem ins {n : Nat} {p : Nat → Prop} (a : Am) : Inside n p a.enc := (a.blw n).inside
theorem inss {n : Nat} {p : Nat → Prop} (l : List Am) (k : Nat) : Inside n p (.sl k (l.map enc) .any) := Below.inside (below_sla fun x hx => by obtain ⟨u, _, rfl⟩ := List.mem_map.1 hx; exact blw n u)
theorem one_cs (a : Am) : ones a.enc = true := rfl
theorem getD_enc (l : List Am) (i : Nat) (h : i < l.length) (d : AV) : (l.map enc).getD i d = (l[i]).enc := by
  rw [List.getD_eq_getElem?_getD, List.getElem?_map, List.getElem?_eq_getElem h]; rfl

/-- The number of terms in it. -/
def sz (a : Am) : Nat := 1 + Tm.sz.szs a.args

/-- An atom that is not too large. -/
structure Good (a : Am) : Prop where
  pred : a.pred.length ≤ 140737488355328
  sz : a.sz ≤ 1000000
  nm : ∀ t ∈ a.args, Tm.Nm t
theorem Good.arg {a : Am} (h : Good a) {t : Tm} (ht : t ∈ a.args) : t.Good := by
  refine ⟨?_, h.nm t ht⟩
  have := Tm.sz_mem ht
  have := h.sz
  simp only [Am.sz] at this; omega
theorem Good.len {a : Am} (h : Good a) : a.args.length ≤ 1000000 := by
  have := Tm.sz_len a.args
  have := h.sz
  simp only [Am.sz] at this; omega
end Am

theorem ins_buf {n k j : Nat} {p : Nat → Prop} {xs : List AV} (hx : ∀ x ∈ xs, Below n x) (h : p j) : Inside n p (.sl k xs (.buf n j)) :=
  .sl k xs _ (fun i hi c hc => (((hx _ (List.getElem_mem hi)).cells _ (List.getElem_mem hc))).inside) (fun l j' e => by cases e; exact .inr ⟨rfl, h⟩)
theorem ins_buf_str {n k j : Nat} {p : Nat → Prop} {l : List (List UInt8)} (h : p j) : Inside n p (.sl k (l.map .str) (.buf n j)) := ins_buf (fun x hx => by obtain ⟨u, _, rfl⟩ := List.mem_map.1 hx; exact .str _) h
theorem Tm.ins_buf {n k j : Nat} {p : Nat → Prop} {l : List Tm} (h : p j) : Inside n p (.sl k (l.map Tm.enc) (.buf n j)) := Abs.ins_buf (fun x hx => by obtain ⟨u, _, rfl⟩ := List.mem_map.1 hx; exact u.blw n) h
theorem Am.ins_buf {n k j : Nat} {p : Nat → Prop} {l : List Am} (h : p j) : Inside n p (.sl k (l.map Am.enc) (.buf n j)) := Abs.ins_buf (fun x hx => by obtain ⟨u, _, rfl⟩ := List.mem_map.1 hx; exact u.blw n) h
theorem below_strs {n k : Nat} (l : List (List UInt8)) : Below n (.sl k (l.map .str) .any) := below_sla fun x hx => by obtain ⟨u, _, rfl⟩ := List.mem_map.1 hx; exact .str _
theorem below_tms {n k : Nat} (l : List Tm) : Below n (.sl k (l.map Tm.enc) .any) := below_sla fun x hx => by obtain ⟨u, _, rfl⟩ := List.mem_map.1 hx; exact u.blw n
theorem below_ams {n k : Nat} (l : List Am) : Below n (.sl k (l.map Am.enc) .any) := below_sla fun x hx => by obtain ⟨u, _, rfl⟩ := List.mem_map.1 hx; exact u.blw n
end Go.Abs

/- The standing list of rewriting rules. -/
namespace Go.Proofs.YtpoegdhgdgbmaaaGreatDoorR
open Go.Abs
theorem keyU8 (n : Int) : keyOK tt 5 (.int .u8 n) = true := rfl
theorem keyStr (l : List UInt8) : keyOK tt 9 (.str l) = true := rfl
theorem keySig (l : List UInt8) (n : Int) : keyOK tt 49 (.agg [.str l, .int .i64 n]) = true := by
  simp only [keyOK, show tt 49 = some ⟨.struct [(0, 9), (1, 3)], 2, 24, [.str [], .int .i64 0]⟩ from rfl, AV.cells, klAll, AV.kl]
  rfl
attribute [go_sem] Am.fold Am.cs Am.cells_cs List.mem_cons List.mem_singleton forall_eq_or_imp forall_eq List.not_mem_nil or_false delb keyU8 keyStr keySig Tm.cs cxP vcOps_nil vcOps_cons vcRun vcG_tt vcG_ff vcG_tf vcG_ft vcG_un vcAppend amAt plainO drawO guardDst stepP stepR stepW stepA thenW vcBuild evP evR evW evA evT avoids lookOpd setL setH AV.ofValue mv tyFix lkv lkb putT setb full argsA ldA isBuf isEq eqB mmOp intOp strOp fillA partsA placesA splice bnd inOrder ones numbered TRow.isAgg cellsT oneT List.drop_succ_cons List.drop_zero List.take_succ_cons List.take_zero List.getD_cons_zero List.getD_cons_succ List.length_cons List.length_nil List.all_cons List.all_nil List.map_cons List.map_nil Bool.and_true Bool.true_and Bool.and_self Bool.false_and Bool.and_false and_true true_and and_self Nat.zero_add Nat.le_refl Nat.zero_le Nat.add_zero ne_eq not_true_eq_false not_false_eq_true Option.some.injEq exists_eq' exists_eq forall_const false_implies implies_true Bool.false_eq_true Bool.true_eq_false List.length_map List.getElem?_cons_zero List.getElem?_cons_succ List.contains_nil List.nil_append List.append_nil List.cons_append List.drop_nil List.take_nil true_or or_true Int.natCast_nonneg Int.toNat_natCast Int.natCast_one Int.natCast_zero Int.cast_ofNat_Int gt_iff_lt ge_iff_le beq_self_eq_true List.isEmpty_cons List.isEmpty_nil Bool.not_true Bool.not_false Int.ofNat_lt Int.ofNat_le decide_true decide_false Option.map_some Option.bind_some Option.join_some Tm.fold Tm.cells_cs ttT ttF ttS ttD ttM
end Go.Proofs.YtpoegdhgdgbmaaaGreatDoorR

/- Bytes and names. -/
namespace Go.Proofs.YtpoegdhgdgbmaaaGreatDoorR
open Go.Abs
set_option maxRecDepth 100000

def isLow (b : Int) : Bool := decide (b ≥ 97) && decide (b ≤ 122)
def isUp (b : Int) : Bool := decide (b ≥ 65) && decide (b ≤ 90)
def isDig (b : Int) : Bool := decide (b ≥ 48) && decide (b ≤ 57)
def isIn (b : Int) : Bool := isLow b || isUp b || isDig b || b == 95

theorem a79 (b : Int) : Pure Tryz.prog 79 [.int .u8 b] (.bool (isLow b)) := by
  intro n H
  refine a_fun tok (fun_of Tryz.func79 rfl rfl) (by simp) fun B => ?_
  refine k_seq rfl ?_
  repeat refine kn rfl ?_
  refine k_region tok rfl (by kernel_rfl) ?_
  simp only [go_sem, simprocAttr]
  refine k_seq rfl ?_
  repeat refine kn rfl ?_
  refine k_region tok rfl (by kernel_rfl) ?_
  simp only [go_sem, simprocAttr]
  refine vcG_bool _ (fun hb => ?_) (fun hb => ?_) <;> simp only [go_sem, simprocAttr, hb]
  all_goals
    refine k_ret rfl (post_one ?_ (.bool _) rfl)
    simp only [go_sem, simprocAttr, isLow, hb]
    exact .refl _

theorem a82 (b : Int) : Pure Tryz.prog 82 [.int .u8 b] (.bool (isLow b)) := by
  intro n H
  refine a_fun tok (fun_of Tryz.func82 rfl rfl) (by simp) fun B => ?_
  refine k_seq rfl ?_
  repeat refine kn rfl ?_
  refine k_region tok rfl (by kernel_rfl) ?_
  simp only [go_sem, simprocAttr]
  refine k_seq rfl ?_
  repeat refine kn rfl ?_
  refine k_region tok rfl (by kernel_rfl) ?_
  simp only [go_sem, simprocAttr]
  refine vcG_bool _ (fun hb => ?_) (fun hb => ?_) <;> simp only [go_sem, simprocAttr, hb]
  all_goals
    refine k_ret rfl (post_one ?_ (.bool _) rfl)
    simp only [go_sem, simprocAttr, isLow, hb]
    exact .refl _

theorem a160 (b : Int) : Pure Tryz.prog 160 [.int .u8 b] (.bool (isUp b)) := by
  intro n H
  refine a_fun tok (fun_of Tryz.func160 rfl rfl) (by simp) fun B => ?_
  refine k_seq rfl ?_
  repeat refine kn rfl ?_
  refine k_region tok rfl (by kernel_rfl) ?_
  simp only [go_sem, simprocAttr]
  refine k_seq rfl ?_
  repeat refine kn rfl ?_
  refine k_region tok rfl (by kernel_rfl) ?_
  simp only [go_sem, simprocAttr]
  refine vcG_bool _ (fun hb => ?_) (fun hb => ?_) <;> simp only [go_sem, simprocAttr, hb]
  all_goals
    refine k_ret rfl (post_one ?_ (.bool _) rfl)
    simp only [go_sem, simprocAttr, isUp, hb]
    exact .refl _

theorem a115 (b : Int) : Pure Tryz.prog 115 [.int .u8 b] (.bool (isUp b)) := by
  intro n H
  refine a_fun tok (fun_of Tryz.func115 rfl rfl) (by simp) fun B => ?_
  refine k_seq rfl ?_
  repeat refine kn rfl ?_
  refine k_region tok rfl (by kernel_rfl) ?_
  simp only [go_sem, simprocAttr]
  refine k_seq rfl ?_
  repeat refine kn rfl ?_
  refine k_region tok rfl (by kernel_rfl) ?_
  simp only [go_sem, simprocAttr]
  refine vcG_bool _ (fun hb => ?_) (fun hb => ?_) <;> simp only [go_sem, simprocAttr, hb]
  all_goals
    refine k_ret rfl (post_one ?_ (.bool _) rfl)
    simp only [go_sem, simprocAttr, isUp, hb]
    exact .refl _

theorem a161 (b : Int) : Pure Tryz.prog 161 [.int .u8 b] (.bool (isDig b)) := by
  intro n H
  refine a_fun tok (fun_of Tryz.func161 rfl rfl) (by simp) fun B => ?_
  refine k_seq rfl ?_
  repeat refine kn rfl ?_
  refine k_region tok rfl (by kernel_rfl) ?_
  simp only [go_sem, simprocAttr]
  refine k_seq rfl ?_
  repeat refine kn rfl ?_
  refine k_region tok rfl (by kernel_rfl) ?_
  simp only [go_sem, simprocAttr]
  refine vcG_bool _ (fun hb => ?_) (fun hb => ?_) <;> simp only [go_sem, simprocAttr, hb]
  all_goals
    refine k_ret rfl (post_one ?_ (.bool _) rfl)
    simp only [go_sem, simprocAttr, isDig, hb]
    exact .refl _

theorem a116 (b : Int) : Pure Tryz.prog 116 [.int .u8 b] (.bool (isDig b)) := by
  intro n H
  refine a_fun tok (fun_of Tryz.func116 rfl rfl) (by simp) fun B => ?_
  refine k_seq rfl ?_
  repeat refine kn rfl ?_
  refine k_region tok rfl (by kernel_rfl) ?_
  simp only [go_sem, simprocAttr]
  refine k_seq rfl ?_
  repeat refine kn rfl ?_
  refine k_region tok rfl (by kernel_rfl) ?_
  simp only [go_sem, simprocAttr]
  refine vcG_bool _ (fun hb => ?_) (fun hb => ?_) <;> simp only [go_sem, simprocAttr, hb]
  all_goals
    refine k_ret rfl (post_one ?_ (.bool _) rfl)
    simp only [go_sem, simprocAttr, isDig, hb]
    exact .refl _

theorem a114 (b : Int) : Pure Tryz.prog 114 [.int .u8 b] (.bool (isIn b)) := by
  intro n H
  refine a_fun tok (fun_of Tryz.func114 rfl rfl) (by simp) fun B => ?_
  refine k_seq rfl ?_
  repeat refine kn rfl ?_
  refine k_region tok rfl (by kernel_rfl) ?_
  simp only [go_sem, simprocAttr]
  refine k_seq rfl ?_
  repeat refine kn rfl ?_
  refine k_region tok rfl (by kernel_rfl) ?_
  simp only [go_sem, simprocAttr]
  refine callP (fun_of Tryz.func79 rfl rfl) (a79 b) (by simp only [go_sem, simprocAttr]) ?_
  simp only [go_sem, simprocAttr]
  refine vcG_bool _ (fun hb => ?_) (fun hb => ?_) <;> simp only [go_sem, simprocAttr, hb]
  · refine k_ret rfl (post_one ?_ (.bool _) rfl)
    simp only [go_sem, simprocAttr, isIn, hb, Bool.true_or]
    exact .refl _
  refine callP (fun_of Tryz.func160 rfl rfl) (a160 b) (by simp only [go_sem, simprocAttr]) ?_
  simp only [go_sem, simprocAttr]
  refine vcG_bool _ (fun h2 => ?_) (fun h2 => ?_) <;> simp only [go_sem, simprocAttr, h2]
  · refine k_ret rfl (post_one ?_ (.bool _) rfl)
    simp only [go_sem, simprocAttr, isIn, h2, Bool.true_or, Bool.or_true]
    exact .refl _
  refine callP (fun_of Tryz.func161 rfl rfl) (a161 b) (by simp only [go_sem, simprocAttr]) ?_
  simp only [go_sem, simprocAttr]
  refine vcG_bool _ (fun h3 => ?_) (fun h3 => ?_) <;> simp only [go_sem, simprocAttr, h3]
  all_goals
    refine k_ret rfl (post_one ?_ (.bool _) rfl)
    simp only [go_sem, simprocAttr, isIn, hb, h2, h3, Bool.true_or, Bool.or_true, Bool.false_or]
    exact .refl _
end Go.Proofs.YtpoegdhgdgbmaaaGreatDoorR

/- Names, as the document's answer says it. -/
namespace Go.Proofs.YtpoegdhgdgbmaaaGreatDoorR
open Go.Abs
set_option maxRecDepth 100000

/-- A byte of a string, as a number. -/
abbrev bt (s : List UInt8) (i : Nat) : Int := ((s.getD i 0).toNat : Int)

def und : List UInt8 → Nat
  | [] => 0
  | b :: r => if ((b.toNat : Int) == 95) = true then und r + 1 else 0

theorem und_le : ∀ s : List UInt8, und s ≤ s.length
  | [] => Nat.le_refl _
  | b :: r => by
    simp only [und]; split
    · have := und_le r; simp; omega
    · simp
theorem und_lt : ∀ {s : List UInt8} {i : Nat}, i < und s → (bt s i == 95) = true
  | [], i, h => by simp [und] at h
  | b :: r, i, h => by
    simp only [und] at h
    split at h
    · rename_i hb
      cases i with
      | zero => exact hb
      | succ i => exact und_lt (s := r) (by omega)
    · omega
theorem und_at : ∀ {s : List UInt8}, und s < s.length → (bt s (und s) == 95) = false
  | [], h => by simp at h
  | b :: r, h => by
    simp only [und] at h ⊢
    split
    · rename_i hb
      rw [if_pos hb] at h
      exact und_at (s := r) (by simpa using h)
    · rename_i hb
      exact Bool.not_eq_true _ ▸ hb

def st81 (s : List UInt8) (H : AHeap) (i : Nat) : AState := ⟨[(3, .int .i64 i), (0, .str s)], [], H⟩

theorem a81 (s : List UInt8) (hs : s.length ≤ 9223372036854775807) : Pure Tryz.prog 81 [.str s] (.int .i64 (und s)) := by
  intro n H
  have hu := und_le s
  refine a_fun tok (fun_of Tryz.func81 rfl rfl) (by simp) fun B => ?_
  refine k_seq rfl ?_
  repeat refine kn rfl ?_
  refine k_region tok rfl (by kernel_rfl) ?_
  simp only [go_sem, simprocAttr]
  refine k_seq rfl ?_
  repeat refine kn rfl ?_
  refine k_region tok rfl (by kernel_rfl) ?_
  simp only [go_sem, simprocAttr]
  refine k_seq rfl ?_
  refine k_block rfl ?_
  refine k_loop_ix (st81 s H) (und s) rfl ?_ ?_
  · refine AWk_kept ?_ ?_ ?_ ?_ <;> repeat' first | exact trivial | refine q0 ?_ | exact qb | exact q1 | exact q2 | exact q3 | exact rfl | refine And.intro ?_ ?_ | exact q4 | exact q5 | exact q6 | exact q7 | exact Inside.ptr _ _ _ (.inr ⟨rfl, rfl⟩) | exact q8 | exact q9 | exact qd | exact Tm.ins _ | exact Tm.inss _ _ | exact Am.ins _ | exact Am.inss _ _ | refine ins_buf_str ?_ | refine Tm.ins_buf ?_ | refine Am.ins_buf ?_ | exact qf
  intro i hi
  refine k_st rfl ?_
  rcases Nat.lt_or_ge i (und s) with h | h
  · have hl : i < s.length := by omega
    refine k_seq rfl ?_
    refine k_seq rfl ?_
    repeat refine kn rfl ?_
    refine k_region tok rfl (by kernel_rfl) ?_
    simp only [go_sem, simprocAttr, hl, und_lt h]
    refine k_cond_t rfl (by simp only [go_sem, simprocAttr]) ?_
    refine k_skip rfl ?_
    refine k_block rfl ?_
    repeat refine kn rfl ?_
    refine k_region tok rfl (by kernel_rfl) ?_
    simp only [go_sem, simprocAttr]
    refine k_blk ?_
    refine k_nil ?_
    refine ⟨h, ?_⟩
    refine AWk_kept ?_ ?_ ?_ ?_ <;> repeat' first | exact trivial | refine q0 ?_ | exact qb | exact q1 | exact q2 | exact q3 | exact rfl | refine And.intro ?_ ?_ | exact q4 | exact q5 | exact q6 | exact q7 | exact Inside.ptr _ _ _ (.inr ⟨rfl, rfl⟩) | exact q8 | exact q9 | exact qd | exact Tm.ins _ | exact Tm.inss _ _ | exact Am.ins _ | exact Am.inss _ _ | refine ins_buf_str ?_ | refine Tm.ins_buf ?_ | refine Am.ins_buf ?_ | exact qf
    simp only [go_sem, simprocAttr]
    rw [IntWalk.i64_in _ (by omega)]; exact .refl _
  · have hi : i = und s := by omega
    subst hi
    have fin : ∀ tm, lkv tm 3 = .int .i64 (und s) → AKc (cxP Tryz.prog ⟨none, B⟩ n Tryz.f81.ntmps) [.code (bodyOf Tryz.f81).snd.snd.snd] (PostF Tryz.prog tt n Tryz.f81.results.toList fun r' H' => r' = .int .i64 (und s) ∧ H' = H) ⟨tm, [], H⟩ := by
      intro tm htm
      refine k_seq rfl ?_
      repeat refine kn rfl ?_
      refine k_region tok rfl (by kernel_rfl) ?_
      simp only [go_sem, simprocAttr, htm]
      refine k_ret rfl (post_one ?_ (.int _ _) rfl)
      simp only [go_sem, simprocAttr]
      exact .refl _
    rcases Nat.lt_or_ge (und s) s.length with hl | hl
    · refine k_seq rfl ?_
      refine k_seq rfl ?_
      repeat refine kn rfl ?_
      refine k_region tok rfl (by kernel_rfl) ?_
      simp only [go_sem, simprocAttr, hl, und_at hl]
      refine k_cond_f rfl (by simp only [go_sem, simprocAttr]) ?_
      refine k_exit_round rfl rfl rfl (fin _ ?_)
      simp only [go_sem, simprocAttr]
    · refine k_seq rfl ?_
      refine k_seq rfl ?_
      repeat refine kn rfl ?_
      refine k_region tok rfl (by kernel_rfl) ?_
      simp only [go_sem, simprocAttr, Nat.not_lt.2 hl]
      refine k_cond_f rfl (by simp only [go_sem, simprocAttr]) ?_
      refine k_exit_round rfl rfl rfl (fin _ ?_)
      simp only [go_sem, simprocAttr]
/-- All bytes from an index on belong into a name. -/
def wd (s : List UInt8) (f : Nat) : Bool := (s.drop f).all (fun b => isIn (b.toNat : Int)) && decide (s.length ≤ 32)

def st83 (s : List UInt8) (f : Nat) (H : AHeap) (i : Nat) : AState := ⟨[(5, .int .i64 ((f + i : Nat) : Int)), (0, .str s)], [], H⟩

theorem drop_all {s : List UInt8} {f : Nat} : (s.drop f).all (fun b => isIn (b.toNat : Int)) = true ↔ ∀ i, f + i < s.length → isIn (bt s (f + i)) = true := by
  rw [List.all_eq_true]
  constructor
  · intro h i hi
    have : s[f + i] ∈ s.drop f := by
      rw [List.mem_iff_getElem]
      exact ⟨i, by rw [List.length_drop]; omega, by rw [List.getElem_drop]⟩
    have := h _ this
    simpa [bt, List.getD_eq_getElem?_getD, List.getElem?_eq_getElem hi] using this
  · intro h b hb
    obtain ⟨i, hi, rfl⟩ := List.getElem_of_mem hb
    rw [List.length_drop] at hi
    have hlt : f + i < s.length := by omega
    have := h i hlt
    rw [List.getElem_drop]
    simpa [bt, List.getD_eq_getElem?_getD, List.getElem?_eq_getElem hlt] using this

theorem a83 (s : List UInt8) (f : Nat) (hf : f ≤ s.length) (hs : s.length ≤ 9223372036854775807) : Pure Tryz.prog 83 [.str s, .int .i64 f] (.bool (wd s f)) := by
  intro n H
  refine a_fun tok (fun_of Tryz.func83 rfl rfl) (by simp) fun B => ?_
  repeat refine kn rfl ?_
  refine k_region tok rfl (by kernel_rfl) ?_
  simp only [go_sem, simprocAttr]
  repeat refine kn rfl ?_
  refine k_region tok rfl (by kernel_rfl) ?_
  simp only [go_sem, simprocAttr]
  repeat refine kn rfl ?_
  refine k_loop_p (st83 s f H) (fun i => ∀ j, j < i → isIn (bt s (f + j)) = true) (s.length - f) rfl ?_ (fun j h => absurd h (Nat.not_lt_zero _)) ?_
  · refine AWk_kept ?_ ?_ ?_ ?_ <;> repeat' first | exact trivial | refine q0 ?_ | exact qb | exact q1 | exact q2 | exact q3 | exact rfl | refine And.intro ?_ ?_ | exact q4 | exact q5 | exact q6 | exact q7 | exact Inside.ptr _ _ _ (.inr ⟨rfl, rfl⟩) | exact q8 | exact q9 | exact qd | exact Tm.ins _ | exact Tm.inss _ _ | exact Am.ins _ | exact Am.inss _ _ | refine ins_buf_str ?_ | refine Tm.ins_buf ?_ | refine Am.ins_buf ?_ | exact qf
  intro i hi hp
  refine k_st rfl ?_
  rcases Nat.lt_or_ge (f + i) s.length with h | h
  · repeat refine kn rfl ?_
    refine k_region tok rfl (by kernel_rfl) ?_
    simp only [go_sem, simprocAttr, h]
    repeat refine kn rfl ?_
    refine k_cond_t rfl (by simp only [go_sem, simprocAttr]) ?_
    repeat refine kn rfl ?_
    refine k_cut ⟨[(37, .bool (!isIn (bt s (f + i)))), (5, .int .i64 ((f + i : Nat) : Int)), (0, .str s)], [], H⟩ ?_ ?_
    · repeat refine kn rfl ?_
      refine k_region tok rfl (by kernel_rfl) ?_
      simp only [go_sem, simprocAttr, h]
      refine callP (fun_of Tryz.func82 rfl rfl) (a82 (bt s (f + i))) (by simp only [go_sem, simprocAttr, h]) ?_
      simp only [go_sem, simprocAttr, h]
      cases h1 : isLow (bt s (f + i)) with
      | true =>
        simp only [go_sem, simprocAttr, h1, Bool.not_true]
        refine k_nil ⟨rfl, ?_⟩
        refine AWk_kept ?_ ?_ ?_ ?_ <;> repeat' first | exact trivial | refine q0 ?_ | exact qb | exact q1 | exact q2 | exact q3 | exact rfl | refine And.intro ?_ ?_ | exact q4 | exact q5 | exact q6 | exact q7 | exact Inside.ptr _ _ _ (.inr ⟨rfl, rfl⟩) | exact q8 | exact q9 | exact qd | exact Tm.ins _ | exact Tm.inss _ _ | exact Am.ins _ | exact Am.inss _ _ | refine ins_buf_str ?_ | refine Tm.ins_buf ?_ | refine Am.ins_buf ?_ | exact qf
        simp only [go_sem, simprocAttr, isIn, h1, Bool.true_or, Bool.not_true]
        exact .refl _
      | false =>
        simp only [go_sem, simprocAttr, h1, h, Bool.not_false]
        refine callP (fun_of Tryz.func115 rfl rfl) (a115 (bt s (f + i))) (by simp only [go_sem, simprocAttr, h]) ?_
        simp only [go_sem, simprocAttr, h]
        cases h2 : isUp (bt s (f + i)) with
        | true =>
          simp only [go_sem, simprocAttr, h2, Bool.not_true]
          refine k_nil ⟨rfl, ?_⟩
          refine AWk_kept ?_ ?_ ?_ ?_ <;> repeat' first | exact trivial | refine q0 ?_ | exact qb | exact q1 | exact q2 | exact q3 | exact rfl | refine And.intro ?_ ?_ | exact q4 | exact q5 | exact q6 | exact q7 | exact Inside.ptr _ _ _ (.inr ⟨rfl, rfl⟩) | exact q8 | exact q9 | exact qd | exact Tm.ins _ | exact Tm.inss _ _ | exact Am.ins _ | exact Am.inss _ _ | refine ins_buf_str ?_ | refine Tm.ins_buf ?_ | refine Am.ins_buf ?_ | exact qf
          simp only [go_sem, simprocAttr, isIn, h1, h2, Bool.true_or, Bool.or_true, Bool.not_true]
          exact .refl _
        | false =>
          simp only [go_sem, simprocAttr, h2, h, Bool.not_false]
          refine callP (fun_of Tryz.func116 rfl rfl) (a116 (bt s (f + i))) (by simp only [go_sem, simprocAttr, h]) ?_
          simp only [go_sem, simprocAttr, h]
          cases h3 : isDig (bt s (f + i)) with
          | true =>
            simp only [go_sem, simprocAttr, h3, Bool.not_true]
            refine k_nil ⟨rfl, ?_⟩
            refine AWk_kept ?_ ?_ ?_ ?_ <;> repeat' first | exact trivial | refine q0 ?_ | exact qb | exact q1 | exact q2 | exact q3 | exact rfl | refine And.intro ?_ ?_ | exact q4 | exact q5 | exact q6 | exact q7 | exact Inside.ptr _ _ _ (.inr ⟨rfl, rfl⟩) | exact q8 | exact q9 | exact qd | exact Tm.ins _ | exact Tm.inss _ _ | exact Am.ins _ | exact Am.inss _ _ | refine ins_buf_str ?_ | refine Tm.ins_buf ?_ | refine Am.ins_buf ?_ | exact qf
            simp only [go_sem, simprocAttr, isIn, h1, h2, h3, Bool.true_or, Bool.or_true, Bool.not_true]
            exact .refl _
          | false =>
            simp only [go_sem, simprocAttr, h3, h, Bool.not_false]
            refine k_nil ⟨rfl, ?_⟩
            refine AWk_kept ?_ ?_ ?_ ?_ <;> repeat' first | exact trivial | refine q0 ?_ | exact qb | exact q1 | exact q2 | exact q3 | exact rfl | refine And.intro ?_ ?_ | exact q4 | exact q5 | exact q6 | exact q7 | exact Inside.ptr _ _ _ (.inr ⟨rfl, rfl⟩) | exact q8 | exact q9 | exact qd | exact Tm.ins _ | exact Tm.inss _ _ | exact Am.ins _ | exact Am.inss _ _ | refine ins_buf_str ?_ | refine Tm.ins_buf ?_ | refine Am.ins_buf ?_ | exact qf
            simp only [go_sem, simprocAttr, isIn, h1, h2, h3, Bool.false_or, bne]
            exact .refl _
    cases hi1 : isIn (bt s (f + i)) with
    | false =>
      repeat refine kn rfl ?_
      refine k_cond_t rfl (by simp only [go_sem, simprocAttr, Bool.not_false]) ?_
      repeat refine kn rfl ?_
      refine k_region tok rfl (by kernel_rfl) ?_
      simp only [go_sem, simprocAttr]
      repeat refine kn rfl ?_
      refine k_ret_round rfl ?_
      refine post_one ?_ (.bool _) rfl
      have : wd s f = false := by
        unfold wd
        rw [Bool.and_eq_false_iff]
        left
        rw [← Bool.not_eq_true, drop_all]
        intro hh
        have := hh i h
        rw [hi1] at this; cases this
      rw [this]
      exact .refl _
    | true =>
      repeat refine kn rfl ?_
      refine k_cond_f rfl (by simp only [go_sem, simprocAttr, Bool.not_true]) ?_
      repeat refine kn rfl ?_
      refine k_region tok rfl (by kernel_rfl) ?_
      simp only [go_sem, simprocAttr]
      repeat refine kn rfl ?_
      refine k_nil ?_
      refine ⟨by omega, fun j hj => ?_, ?_⟩
      · rcases Nat.lt_or_ge j i with h' | h'
        · exact hp j h'
        · have : j = i := by omega
          subst this; exact hi1
      · refine AWk_kept ?_ ?_ ?_ ?_ <;> repeat' first | exact trivial | refine q0 ?_ | exact qb | exact q1 | exact q2 | exact q3 | exact rfl | refine And.intro ?_ ?_ | exact q4 | exact q5 | exact q6 | exact q7 | exact Inside.ptr _ _ _ (.inr ⟨rfl, rfl⟩) | exact q8 | exact q9 | exact qd | exact Tm.ins _ | exact Tm.inss _ _ | exact Am.ins _ | exact Am.inss _ _ | refine ins_buf_str ?_ | refine Tm.ins_buf ?_ | refine Am.ins_buf ?_ | exact qf
        simp only [go_sem, simprocAttr]
        rw [IntWalk.i64_in _ (by omega)]; exact .refl _
  · repeat refine kn rfl ?_
    refine k_region tok rfl (by kernel_rfl) ?_
    simp only [go_sem, simprocAttr, Nat.not_lt.2 h]
    repeat refine kn rfl ?_
    refine k_cond_f rfl (by simp only [go_sem, simprocAttr]) ?_
    repeat refine kn rfl ?_
    refine k_exit_round rfl rfl rfl ?_
    repeat refine kn rfl ?_
    refine k_region tok rfl (by kernel_rfl) ?_
    simp only [go_sem, simprocAttr]
    repeat refine kn rfl ?_
    refine k_ret rfl ?_
    refine post_one ?_ (.bool _) rfl
    have : wd s f = decide (s.length ≤ 32) := by
      unfold wd
      rw [(drop_all (s := s) (f := f)).2 (fun j hj => hp j (by omega)), Bool.true_and]
    rw [this]
    simp only [go_sem, simprocAttr]
    have e : decide ((s.length : Int) ≤ 32) = decide (s.length ≤ 32) := by congr 1; simp; omega
    first | exact .refl _ | (rw [e]; exact .refl _)
end Go.Proofs.YtpoegdhgdgbmaaaGreatDoorR

/- Names, as the document's answer says it. -/
namespace Go.Proofs.YtpoegdhgdgbmaaaGreatDoorR
open Go.Abs
set_option maxRecDepth 100000

def sNot : List UInt8 := [110, 111, 116]

def sym (s : List UInt8) : Bool := decide (und s < s.length) && isLow (bt s (und s)) && wd s (und s) && !(s == sNot)

theorem a47 (s : List UInt8) (hs : s.length ≤ 9223372036854775807) : Pure Tryz.prog 47 [.str s] (.bool (sym s)) := by
  intro n H
  have hu := und_le s
  refine a_fun tok (fun_of Tryz.func47 rfl rfl) (by simp) fun B => ?_
  repeat refine kn rfl ?_
  refine k_region tok rfl (by kernel_rfl) ?_
  simp only [go_sem, simprocAttr]
  repeat refine kn rfl ?_
  refine k_region tok rfl (by kernel_rfl) ?_
  simp only [go_sem, simprocAttr]
  refine callP (fun_of Tryz.func81 rfl rfl) (a81 s hs) (by simp only [go_sem, simprocAttr]) ?_
  simp only [go_sem, simprocAttr]
  rcases Nat.lt_or_ge (und s) s.length with h | h
  · repeat refine kn rfl ?_
    refine k_region tok rfl (by kernel_rfl) ?_
    simp only [go_sem, simprocAttr, h]
    refine callP (fun_of Tryz.func82 rfl rfl) (a82 (bt s (und s))) (by simp only [go_sem, simprocAttr, h]) ?_
    simp only [go_sem, simprocAttr, h]
    cases h1 : isLow (bt s (und s)) with
    | false =>
      simp only [go_sem, simprocAttr, h1]
      repeat refine kn rfl ?_
      refine k_ret rfl ?_
      refine post_one ?_ (.bool _) rfl
      simp only [go_sem, simprocAttr, sym, h, h1]
      exact .refl _
    | true =>
      simp only [go_sem, simprocAttr, h1]
      refine callP (fun_of Tryz.func83 rfl rfl) (a83 s (und s) hu hs) (by simp only [go_sem, simprocAttr]) ?_
      simp only [go_sem, simprocAttr]
      cases h2 : wd s (und s) with
      | false =>
        simp only [go_sem, simprocAttr, h2]
        repeat refine kn rfl ?_
        refine k_ret rfl ?_
        refine post_one ?_ (.bool _) rfl
        simp only [go_sem, simprocAttr, sym, h, h1, h2]
        exact .refl _
      | true =>
        simp only [go_sem, simprocAttr, h2]
        repeat refine kn rfl ?_
        refine k_ret rfl ?_
        refine post_one ?_ (.bool _) rfl
        simp only [go_sem, simprocAttr, sym, h, h1, h2]
        exact .refl _
  · repeat refine kn rfl ?_
    refine k_region tok rfl (by kernel_rfl) ?_
    simp only [go_sem, simprocAttr, Nat.not_lt.2 h]
    repeat refine kn rfl ?_
    refine k_ret rfl ?_
    refine post_one ?_ (.bool _) rfl
    simp only [go_sem, simprocAttr, sym, Nat.not_lt.2 h]
    exact .refl _
end Go.Proofs.YtpoegdhgdgbmaaaGreatDoorR
