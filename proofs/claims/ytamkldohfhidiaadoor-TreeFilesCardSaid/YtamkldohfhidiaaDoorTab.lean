import Derived.Test.YtamkldohfhidiaaDoorProg
import Derived.Test.YtamkldohfhidiaaDoorAbs2
namespace Go.Proofs.YtamkldohfhidiaaDoor
open Go Go.Abs
def tab : Tab := [
  (26, ⟨.struct [(0, 3), (1, 9), (2, 23), (3, 24), (4, 3)], 5, 80, [.val (.int .i64 0), .val (.string ⟨#[]⟩), .sl 5 [] true, .sl 1 [] true, .val (.int .i64 0)]⟩),
  (3, ⟨.int .i64, 1, 8, [.val (.int .i64 0)]⟩),
  (23, ⟨.slice 26, 1, 24, [.sl 5 [] true]⟩),
  (9, ⟨.str, 1, 16, [.val (.string ⟨#[]⟩)]⟩),
  (24, ⟨.slice 9, 1, 24, [.sl 1 [] true]⟩),
  (51, ⟨.ptr, 1, 8, [.val (.pointer none)]⟩),
  (66, ⟨.ptr, 1, 8, [.val (.pointer none)]⟩),
  (5, ⟨.int .u8, 1, 1, [.val (.int .u8 0)]⟩),
  (55, ⟨.struct [(0, 3), (1, 9), (2, 3)], 3, 32, [.val (.int .i64 0), .val (.string ⟨#[]⟩), .val (.int .i64 0)]⟩),
  (27, ⟨.int .i64, 1, 8, [.val (.int .i64 0)]⟩),
  (82, ⟨.struct [(0, 34), (1, 3)], 2, 32, [.sl 3 [] true, .val (.int .i64 0)]⟩),
  (70, ⟨.struct [(0, 67), (1, 68)], 2, 32, [.val (.pointer none), .sl 1 [] true]⟩),
  (68, ⟨.slice 5, 1, 24, [.sl 1 [] true]⟩),
  (34, ⟨.slice 55, 1, 24, [.sl 3 [] true]⟩),
  (21, ⟨.int .i32, 1, 4, [.val (.int .i32 0)]⟩),
  (72, ⟨.struct [(0, 70), (2, 4)], 3, 40, [.val (.pointer none), .sl 1 [] true, .val (.bool false)]⟩),
  (67, ⟨.ptr, 1, 8, [.val (.pointer none)]⟩),
  (102, ⟨.slice 105, 1, 24, [.sl 3 [] true]⟩),
  (79, ⟨.struct [(0, 3), (1, 27)], 2, 16, [.val (.int .i64 0), .val (.int .i64 0)]⟩),
  (112, ⟨.struct [(0, 5), (1, 5)], 2, 2, [.val (.int .u8 0), .val (.int .u8 0)]⟩),
  (125, ⟨.array 4 3, 4, 32, [.val (.int .i64 0), .val (.int .i64 0), .val (.int .i64 0), .val (.int .i64 0)]⟩),
  (105, ⟨.struct [(0, 3), (1, 9), (2, 3)], 3, 32, [.val (.int .i64 0), .val (.string ⟨#[]⟩), .val (.int .i64 0)]⟩),
  (4, ⟨.bool, 1, 1, [.val (.bool false)]⟩),
  (92, ⟨.array 20 9, 20, 320, [.val (.string ⟨#[]⟩), .val (.string ⟨#[]⟩), .val (.string ⟨#[]⟩), .val (.string ⟨#[]⟩), .val (.string ⟨#[]⟩), .val (.string ⟨#[]⟩), .val (.string ⟨#[]⟩), .val (.string ⟨#[]⟩), .val (.string ⟨#[]⟩), .val (.string ⟨#[]⟩), .val (.string ⟨#[]⟩), .val (.string ⟨#[]⟩), .val (.string ⟨#[]⟩), .val (.string ⟨#[]⟩), .val (.string ⟨#[]⟩), .val (.string ⟨#[]⟩), .val (.string ⟨#[]⟩), .val (.string ⟨#[]⟩), .val (.string ⟨#[]⟩), .val (.string ⟨#[]⟩)]⟩),
  (20, ⟨.iface, 1, 16, [.val .nilIface]⟩),
  (118, ⟨.ptr, 1, 8, [.val (.pointer none)]⟩),
  (113, ⟨.array 16 112, 32, 32, [.val (.int .u8 0), .val (.int .u8 0), .val (.int .u8 0), .val (.int .u8 0), .val (.int .u8 0), .val (.int .u8 0), .val (.int .u8 0), .val (.int .u8 0), .val (.int .u8 0), .val (.int .u8 0), .val (.int .u8 0), .val (.int .u8 0), .val (.int .u8 0), .val (.int .u8 0), .val (.int .u8 0), .val (.int .u8 0), .val (.int .u8 0), .val (.int .u8 0), .val (.int .u8 0), .val (.int .u8 0), .val (.int .u8 0), .val (.int .u8 0), .val (.int .u8 0), .val (.int .u8 0), .val (.int .u8 0), .val (.int .u8 0), .val (.int .u8 0), .val (.int .u8 0), .val (.int .u8 0), .val (.int .u8 0), .val (.int .u8 0), .val (.int .u8 0)]⟩),
  (1, ⟨.func, 1, 8, [.val .nilFunc]⟩),
  (2, ⟨.int .i64, 1, 8, [.val (.int .i64 0)]⟩),
  (6, ⟨.int .u8, 1, 1, [.val (.int .u8 0)]⟩),
  (7, ⟨.struct [(0, 2), (1, 3), (2, 4), (3, 6)], 4, 24, [.val (.int .i64 0), .val (.int .i64 0), .val (.bool false), .val (.int .u8 0)]⟩),
  (8, ⟨.struct [(0, 2), (1, 3), (2, 4), (3, 6)], 4, 24, [.val (.int .i64 0), .val (.int .i64 0), .val (.bool false), .val (.int .u8 0)]⟩),
  (10, ⟨.str, 1, 16, [.val (.string ⟨#[]⟩)]⟩),
  (11, ⟨.str, 1, 16, [.val (.string ⟨#[]⟩)]⟩),
  (12, ⟨.int .u64, 1, 8, [.val (.int .u64 0)]⟩),
  (13, ⟨.struct [(0, 9), (1, 12)], 2, 24, [.val (.string ⟨#[]⟩), .val (.int .u64 0)]⟩),
  (14, ⟨.struct [(0, 9), (1, 12)], 2, 24, [.val (.string ⟨#[]⟩), .val (.int .u64 0)]⟩),
  (15, ⟨.ptr, 1, 8, [.val (.pointer none)]⟩),
  (16, ⟨.ptr, 1, 8, [.val (.pointer none)]⟩),
  (17, ⟨.ptr, 1, 8, [.val (.pointer none)]⟩),
  (18, ⟨.struct [(0, 17)], 1, 8, [.val (.pointer none)]⟩),
  (19, ⟨.struct [(0, 17)], 1, 8, [.val (.pointer none)]⟩),
  (22, ⟨.func, 1, 8, [.val .nilFunc]⟩),
  (25, ⟨.struct [(0, 3), (1, 9), (2, 23), (3, 24), (4, 3)], 5, 80, [.val (.int .i64 0), .val (.string ⟨#[]⟩), .sl 5 [] true, .sl 1 [] true, .val (.int .i64 0)]⟩),
  (29, ⟨.func, 1, 8, [.val .nilFunc]⟩),
  (31, ⟨.func, 1, 8, [.val .nilFunc]⟩),
  (32, ⟨.func, 1, 8, [.val .nilFunc]⟩),
  (33, ⟨.func, 1, 8, [.val .nilFunc]⟩),
  (36, ⟨.func, 1, 8, [.val .nilFunc]⟩),
  (37, ⟨.func, 1, 8, [.val .nilFunc]⟩),
  (38, ⟨.func, 1, 8, [.val .nilFunc]⟩),
  (39, ⟨.func, 1, 8, [.val .nilFunc]⟩),
  (40, ⟨.func, 1, 8, [.val .nilFunc]⟩),
  (42, ⟨.func, 1, 8, [.val .nilFunc]⟩),
  (44, ⟨.func, 1, 8, [.val .nilFunc]⟩),
  (45, ⟨.func, 1, 8, [.val .nilFunc]⟩),
  (46, ⟨.func, 1, 8, [.val .nilFunc]⟩),
  (47, ⟨.func, 1, 8, [.val .nilFunc]⟩),
  (48, ⟨.func, 1, 8, [.val .nilFunc]⟩),
  (50, ⟨.func, 1, 8, [.val .nilFunc]⟩),
  (52, ⟨.func, 1, 8, [.val .nilFunc]⟩),
  (53, ⟨.func, 1, 8, [.val .nilFunc]⟩),
  (54, ⟨.struct [(0, 3), (1, 9), (2, 3)], 3, 32, [.val (.int .i64 0), .val (.string ⟨#[]⟩), .val (.int .i64 0)]⟩),
  (56, ⟨.func, 1, 8, [.val .nilFunc]⟩),
  (57, ⟨.func, 1, 8, [.val .nilFunc]⟩),
  (59, ⟨.func, 1, 8, [.val .nilFunc]⟩),
  (60, ⟨.func, 1, 8, [.val .nilFunc]⟩),
  (61, ⟨.func, 1, 8, [.val .nilFunc]⟩),
  (63, ⟨.func, 1, 8, [.val .nilFunc]⟩),
  (64, ⟨.func, 1, 8, [.val .nilFunc]⟩),
  (65, ⟨.func, 1, 8, [.val .nilFunc]⟩),
  (69, ⟨.struct [(0, 67), (1, 68)], 2, 32, [.val (.pointer none), .sl 1 [] true]⟩),
  (71, ⟨.struct [(0, 70), (2, 4)], 3, 40, [.val (.pointer none), .sl 1 [] true, .val (.bool false)]⟩),
  (73, ⟨.func, 1, 8, [.val .nilFunc]⟩),
  (74, ⟨.func, 1, 8, [.val .nilFunc]⟩),
  (75, ⟨.func, 1, 8, [.val .nilFunc]⟩),
  (76, ⟨.func, 1, 8, [.val .nilFunc]⟩),
  (77, ⟨.func, 1, 8, [.val .nilFunc]⟩),
  (78, ⟨.struct [(0, 3), (1, 27)], 2, 16, [.val (.int .i64 0), .val (.int .i64 0)]⟩),
  (81, ⟨.struct [(0, 34), (1, 3)], 2, 32, [.sl 3 [] true, .val (.int .i64 0)]⟩),
  (83, ⟨.func, 1, 8, [.val .nilFunc]⟩),
  (84, ⟨.func, 1, 8, [.val .nilFunc]⟩),
  (85, ⟨.func, 1, 8, [.val .nilFunc]⟩),
  (86, ⟨.func, 1, 8, [.val .nilFunc]⟩),
  (87, ⟨.func, 1, 8, [.val .nilFunc]⟩),
  (88, ⟨.func, 1, 8, [.val .nilFunc]⟩),
  (89, ⟨.func, 1, 8, [.val .nilFunc]⟩),
  (90, ⟨.func, 1, 8, [.val .nilFunc]⟩),
  (91, ⟨.func, 1, 8, [.val .nilFunc]⟩),
  (93, ⟨.func, 1, 8, [.val .nilFunc]⟩),
  (94, ⟨.func, 1, 8, [.val .nilFunc]⟩),
  (95, ⟨.iface, 1, 16, [.val .nilIface]⟩),
  (96, ⟨.iface, 1, 16, [.val .nilIface]⟩),
  (98, ⟨.func, 1, 8, [.val .nilFunc]⟩),
  (99, ⟨.func, 1, 8, [.val .nilFunc]⟩),
  (100, ⟨.func, 1, 8, [.val .nilFunc]⟩),
  (101, ⟨.func, 1, 8, [.val .nilFunc]⟩),
  (104, ⟨.func, 1, 8, [.val .nilFunc]⟩),
  (106, ⟨.func, 1, 8, [.val .nilFunc]⟩),
  (107, ⟨.func, 1, 8, [.val .nilFunc]⟩),
  (108, ⟨.func, 1, 8, [.val .nilFunc]⟩),
  (110, ⟨.int .u64, 1, 8, [.val (.int .u64 0)]⟩),
  (111, ⟨.struct [(0, 5), (1, 5)], 2, 2, [.val (.int .u8 0), .val (.int .u8 0)]⟩),
  (114, ⟨.func, 1, 8, [.val .nilFunc]⟩),
  (115, ⟨.func, 1, 8, [.val .nilFunc]⟩),
  (116, ⟨.func, 1, 8, [.val .nilFunc]⟩),
  (117, ⟨.func, 1, 8, [.val .nilFunc]⟩),
  (119, ⟨.func, 1, 8, [.val .nilFunc]⟩),
  (121, ⟨.func, 1, 8, [.val .nilFunc]⟩),
  (122, ⟨.func, 1, 8, [.val .nilFunc]⟩),
  (124, ⟨.func, 1, 8, [.val .nilFunc]⟩),
  (126, ⟨.func, 1, 8, [.val .nilFunc]⟩),
  (127, ⟨.struct [(0, 17), (1, 17), (2, 17), (3, 9)], 4, 40, [.val (.pointer none), .val (.pointer none), .val (.pointer none), .val (.string ⟨#[]⟩)]⟩),
  (128, ⟨.struct [(0, 17), (1, 17), (2, 17), (3, 9)], 4, 40, [.val (.pointer none), .val (.pointer none), .val (.pointer none), .val (.string ⟨#[]⟩)]⟩),
  (129, ⟨.array 0 16, 0, 0, []⟩),
  (130, ⟨.struct [(0, 129)], 0, 0, []⟩),
  (131, ⟨.struct [(0, 129)], 0, 0, []⟩),
  (132, ⟨.int .u32, 1, 4, [.val (.int .u32 0)]⟩),
  (133, ⟨.int .u8, 1, 1, [.val (.int .u8 0)]⟩),
  (134, ⟨.int .u8, 1, 1, [.val (.int .u8 0)]⟩),
  (135, ⟨.func, 1, 8, [.val .nilFunc]⟩),
  (136, ⟨.int .i32, 1, 4, [.val (.int .i32 0)]⟩),
  (137, ⟨.int .i32, 1, 4, [.val (.int .i32 0)]⟩),
  (138, ⟨.struct [(0, 12), (1, 12), (2, 132), (3, 133), (4, 5), (5, 5), (6, 134), (7, 135), (8, 118), (9, 136), (10, 137)], 11, 48, [.val (.int .u64 0), .val (.int .u64 0), .val (.int .u32 0), .val (.int .u8 0), .val (.int .u8 0), .val (.int .u8 0), .val (.int .u8 0), .val .nilFunc, .val (.pointer none), .val (.int .i32 0), .val (.int .i32 0)]⟩),
  (139, ⟨.struct [(0, 12), (1, 12), (2, 132), (3, 133), (4, 5), (5, 5), (6, 134), (7, 135), (8, 118), (9, 136), (10, 137)], 11, 48, [.val (.int .u64 0), .val (.int .u64 0), .val (.int .u32 0), .val (.int .u8 0), .val (.int .u8 0), .val (.int .u8 0), .val (.int .u8 0), .val .nilFunc, .val (.pointer none), .val (.int .i32 0), .val (.int .i32 0)]⟩)]
theorem ty26 : TIok Tryd.prog 26 ⟨.struct [(0, 3), (1, 9), (2, 23), (3, 24), (4, 3)], 5, 80, [.val (.int .i64 0), .val (.string ⟨#[]⟩), .sl 5 [] true, .sl 1 [] true, .val (.int .i64 0)]⟩ := ⟨⟨Tryd.t26, _, by kernel_rfl, rfl, rfl, rfl, rfl⟩, ⟨_, Tryd.underlying26, rfl⟩, rfl, rfl⟩
theorem ty3 : TIok Tryd.prog 3 ⟨.int .i64, 1, 8, [.val (.int .i64 0)]⟩ := ⟨⟨Tryd.t3, _, by kernel_rfl, rfl, rfl, rfl, rfl⟩, ⟨_, Tryd.underlying3, rfl⟩, rfl, rfl⟩
theorem ty23 : TIok Tryd.prog 23 ⟨.slice 26, 1, 24, [.sl 5 [] true]⟩ := ⟨⟨Tryd.t23, _, by kernel_rfl, rfl, rfl, rfl, rfl⟩, ⟨_, Tryd.underlying23, rfl⟩, rfl, rfl⟩
theorem ty9 : TIok Tryd.prog 9 ⟨.str, 1, 16, [.val (.string ⟨#[]⟩)]⟩ := ⟨⟨Tryd.t9, _, by kernel_rfl, rfl, rfl, rfl, rfl⟩, ⟨_, Tryd.underlying9, rfl⟩, rfl, rfl⟩
theorem ty24 : TIok Tryd.prog 24 ⟨.slice 9, 1, 24, [.sl 1 [] true]⟩ := ⟨⟨Tryd.t24, _, by kernel_rfl, rfl, rfl, rfl, rfl⟩, ⟨_, Tryd.underlying24, rfl⟩, rfl, rfl⟩
theorem ty51 : TIok Tryd.prog 51 ⟨.ptr, 1, 8, [.val (.pointer none)]⟩ := ⟨⟨Tryd.t51, _, by kernel_rfl, rfl, rfl, rfl, rfl⟩, ⟨_, Tryd.underlying51, rfl⟩, rfl, rfl⟩
theorem ty66 : TIok Tryd.prog 66 ⟨.ptr, 1, 8, [.val (.pointer none)]⟩ := ⟨⟨Tryd.t66, _, by kernel_rfl, rfl, rfl, rfl, rfl⟩, ⟨_, Tryd.underlying66, rfl⟩, rfl, rfl⟩
theorem ty5 : TIok Tryd.prog 5 ⟨.int .u8, 1, 1, [.val (.int .u8 0)]⟩ := ⟨⟨Tryd.t5, _, by kernel_rfl, rfl, rfl, rfl, rfl⟩, ⟨_, Tryd.underlying5, rfl⟩, rfl, rfl⟩
theorem ty55 : TIok Tryd.prog 55 ⟨.struct [(0, 3), (1, 9), (2, 3)], 3, 32, [.val (.int .i64 0), .val (.string ⟨#[]⟩), .val (.int .i64 0)]⟩ := ⟨⟨Tryd.t55, _, by kernel_rfl, rfl, rfl, rfl, rfl⟩, ⟨_, Tryd.underlying55, rfl⟩, rfl, rfl⟩
theorem ty27 : TIok Tryd.prog 27 ⟨.int .i64, 1, 8, [.val (.int .i64 0)]⟩ := ⟨⟨Tryd.t27, _, by kernel_rfl, rfl, rfl, rfl, rfl⟩, ⟨_, Tryd.underlying27, rfl⟩, rfl, rfl⟩
theorem ty82 : TIok Tryd.prog 82 ⟨.struct [(0, 34), (1, 3)], 2, 32, [.sl 3 [] true, .val (.int .i64 0)]⟩ := ⟨⟨Tryd.t82, _, by kernel_rfl, rfl, rfl, rfl, rfl⟩, ⟨_, Tryd.underlying82, rfl⟩, rfl, rfl⟩
theorem ty70 : TIok Tryd.prog 70 ⟨.struct [(0, 67), (1, 68)], 2, 32, [.val (.pointer none), .sl 1 [] true]⟩ := ⟨⟨Tryd.t70, _, by kernel_rfl, rfl, rfl, rfl, rfl⟩, ⟨_, Tryd.underlying70, rfl⟩, rfl, rfl⟩
theorem ty68 : TIok Tryd.prog 68 ⟨.slice 5, 1, 24, [.sl 1 [] true]⟩ := ⟨⟨Tryd.t68, _, by kernel_rfl, rfl, rfl, rfl, rfl⟩, ⟨_, Tryd.underlying68, rfl⟩, rfl, rfl⟩
theorem ty34 : TIok Tryd.prog 34 ⟨.slice 55, 1, 24, [.sl 3 [] true]⟩ := ⟨⟨Tryd.t34, _, by kernel_rfl, rfl, rfl, rfl, rfl⟩, ⟨_, Tryd.underlying34, rfl⟩, rfl, rfl⟩
theorem ty21 : TIok Tryd.prog 21 ⟨.int .i32, 1, 4, [.val (.int .i32 0)]⟩ := ⟨⟨Tryd.t21, _, by kernel_rfl, rfl, rfl, rfl, rfl⟩, ⟨_, Tryd.underlying21, rfl⟩, rfl, rfl⟩
theorem ty72 : TIok Tryd.prog 72 ⟨.struct [(0, 70), (2, 4)], 3, 40, [.val (.pointer none), .sl 1 [] true, .val (.bool false)]⟩ := ⟨⟨Tryd.t72, _, by kernel_rfl, rfl, rfl, rfl, rfl⟩, ⟨_, Tryd.underlying72, rfl⟩, rfl, rfl⟩
theorem ty67 : TIok Tryd.prog 67 ⟨.ptr, 1, 8, [.val (.pointer none)]⟩ := ⟨⟨Tryd.t67, _, by kernel_rfl, rfl, rfl, rfl, rfl⟩, ⟨_, Tryd.underlying67, rfl⟩, rfl, rfl⟩
theorem ty102 : TIok Tryd.prog 102 ⟨.slice 105, 1, 24, [.sl 3 [] true]⟩ := ⟨⟨Tryd.t102, _, by kernel_rfl, rfl, rfl, rfl, rfl⟩, ⟨_, Tryd.underlying102, rfl⟩, rfl, rfl⟩
theorem ty79 : TIok Tryd.prog 79 ⟨.struct [(0, 3), (1, 27)], 2, 16, [.val (.int .i64 0), .val (.int .i64 0)]⟩ := ⟨⟨Tryd.t79, _, by kernel_rfl, rfl, rfl, rfl, rfl⟩, ⟨_, Tryd.underlying79, rfl⟩, rfl, rfl⟩
theorem ty112 : TIok Tryd.prog 112 ⟨.struct [(0, 5), (1, 5)], 2, 2, [.val (.int .u8 0), .val (.int .u8 0)]⟩ := ⟨⟨Tryd.t112, _, by kernel_rfl, rfl, rfl, rfl, rfl⟩, ⟨_, Tryd.underlying112, rfl⟩, rfl, rfl⟩
theorem ty125 : TIok Tryd.prog 125 ⟨.array 4 3, 4, 32, [.val (.int .i64 0), .val (.int .i64 0), .val (.int .i64 0), .val (.int .i64 0)]⟩ := ⟨⟨Tryd.t125, _, by kernel_rfl, rfl, rfl, rfl, rfl⟩, ⟨_, Tryd.underlying125, rfl⟩, rfl, rfl⟩
theorem ty105 : TIok Tryd.prog 105 ⟨.struct [(0, 3), (1, 9), (2, 3)], 3, 32, [.val (.int .i64 0), .val (.string ⟨#[]⟩), .val (.int .i64 0)]⟩ := ⟨⟨Tryd.t105, _, by kernel_rfl, rfl, rfl, rfl, rfl⟩, ⟨_, Tryd.underlying105, rfl⟩, rfl, rfl⟩
theorem ty4 : TIok Tryd.prog 4 ⟨.bool, 1, 1, [.val (.bool false)]⟩ := ⟨⟨Tryd.t4, _, by kernel_rfl, rfl, rfl, rfl, rfl⟩, ⟨_, Tryd.underlying4, rfl⟩, rfl, rfl⟩
theorem ty92 : TIok Tryd.prog 92 ⟨.array 20 9, 20, 320, [.val (.string ⟨#[]⟩), .val (.string ⟨#[]⟩), .val (.string ⟨#[]⟩), .val (.string ⟨#[]⟩), .val (.string ⟨#[]⟩), .val (.string ⟨#[]⟩), .val (.string ⟨#[]⟩), .val (.string ⟨#[]⟩), .val (.string ⟨#[]⟩), .val (.string ⟨#[]⟩), .val (.string ⟨#[]⟩), .val (.string ⟨#[]⟩), .val (.string ⟨#[]⟩), .val (.string ⟨#[]⟩), .val (.string ⟨#[]⟩), .val (.string ⟨#[]⟩), .val (.string ⟨#[]⟩), .val (.string ⟨#[]⟩), .val (.string ⟨#[]⟩), .val (.string ⟨#[]⟩)]⟩ := ⟨⟨Tryd.t92, _, by kernel_rfl, rfl, rfl, rfl, rfl⟩, ⟨_, Tryd.underlying92, rfl⟩, rfl, rfl⟩
theorem ty20 : TIok Tryd.prog 20 ⟨.iface, 1, 16, [.val .nilIface]⟩ := ⟨⟨Tryd.t20, _, by kernel_rfl, rfl, rfl, rfl, rfl⟩, ⟨_, Tryd.underlying20, rfl⟩, rfl, rfl⟩
theorem ty118 : TIok Tryd.prog 118 ⟨.ptr, 1, 8, [.val (.pointer none)]⟩ := ⟨⟨Tryd.t118, _, by kernel_rfl, rfl, rfl, rfl, rfl⟩, ⟨_, Tryd.underlying118, rfl⟩, rfl, rfl⟩
theorem ty113 : TIok Tryd.prog 113 ⟨.array 16 112, 32, 32, [.val (.int .u8 0), .val (.int .u8 0), .val (.int .u8 0), .val (.int .u8 0), .val (.int .u8 0), .val (.int .u8 0), .val (.int .u8 0), .val (.int .u8 0), .val (.int .u8 0), .val (.int .u8 0), .val (.int .u8 0), .val (.int .u8 0), .val (.int .u8 0), .val (.int .u8 0), .val (.int .u8 0), .val (.int .u8 0), .val (.int .u8 0), .val (.int .u8 0), .val (.int .u8 0), .val (.int .u8 0), .val (.int .u8 0), .val (.int .u8 0), .val (.int .u8 0), .val (.int .u8 0), .val (.int .u8 0), .val (.int .u8 0), .val (.int .u8 0), .val (.int .u8 0), .val (.int .u8 0), .val (.int .u8 0), .val (.int .u8 0), .val (.int .u8 0)]⟩ := ⟨⟨Tryd.t113, _, by kernel_rfl, rfl, rfl, rfl, rfl⟩, ⟨_, Tryd.underlying113, rfl⟩, rfl, rfl⟩
theorem ty1 : TIok Tryd.prog 1 ⟨.func, 1, 8, [.val .nilFunc]⟩ := ⟨⟨Tryd.t1, _, by kernel_rfl, rfl, rfl, rfl, rfl⟩, ⟨_, Tryd.underlying1, rfl⟩, rfl, rfl⟩
theorem ty2 : TIok Tryd.prog 2 ⟨.int .i64, 1, 8, [.val (.int .i64 0)]⟩ := ⟨⟨Tryd.t2, _, by kernel_rfl, rfl, rfl, rfl, rfl⟩, ⟨_, Tryd.underlying2, rfl⟩, rfl, rfl⟩
theorem ty6 : TIok Tryd.prog 6 ⟨.int .u8, 1, 1, [.val (.int .u8 0)]⟩ := ⟨⟨Tryd.t6, _, by kernel_rfl, rfl, rfl, rfl, rfl⟩, ⟨_, Tryd.underlying6, rfl⟩, rfl, rfl⟩
theorem ty7 : TIok Tryd.prog 7 ⟨.struct [(0, 2), (1, 3), (2, 4), (3, 6)], 4, 24, [.val (.int .i64 0), .val (.int .i64 0), .val (.bool false), .val (.int .u8 0)]⟩ := ⟨⟨Tryd.t7, _, by kernel_rfl, rfl, rfl, rfl, rfl⟩, ⟨_, Tryd.underlying7, rfl⟩, rfl, rfl⟩
theorem ty8 : TIok Tryd.prog 8 ⟨.struct [(0, 2), (1, 3), (2, 4), (3, 6)], 4, 24, [.val (.int .i64 0), .val (.int .i64 0), .val (.bool false), .val (.int .u8 0)]⟩ := ⟨⟨Tryd.t8, _, by kernel_rfl, rfl, rfl, rfl, rfl⟩, ⟨_, Tryd.underlying8, rfl⟩, rfl, rfl⟩
theorem ty10 : TIok Tryd.prog 10 ⟨.str, 1, 16, [.val (.string ⟨#[]⟩)]⟩ := ⟨⟨Tryd.t10, _, by kernel_rfl, rfl, rfl, rfl, rfl⟩, ⟨_, Tryd.underlying10, rfl⟩, rfl, rfl⟩
theorem ty11 : TIok Tryd.prog 11 ⟨.str, 1, 16, [.val (.string ⟨#[]⟩)]⟩ := ⟨⟨Tryd.t11, _, by kernel_rfl, rfl, rfl, rfl, rfl⟩, ⟨_, Tryd.underlying11, rfl⟩, rfl, rfl⟩
theorem ty12 : TIok Tryd.prog 12 ⟨.int .u64, 1, 8, [.val (.int .u64 0)]⟩ := ⟨⟨Tryd.t12, _, by kernel_rfl, rfl, rfl, rfl, rfl⟩, ⟨_, Tryd.underlying12, rfl⟩, rfl, rfl⟩
theorem ty13 : TIok Tryd.prog 13 ⟨.struct [(0, 9), (1, 12)], 2, 24, [.val (.string ⟨#[]⟩), .val (.int .u64 0)]⟩ := ⟨⟨Tryd.t13, _, by kernel_rfl, rfl, rfl, rfl, rfl⟩, ⟨_, Tryd.underlying13, rfl⟩, rfl, rfl⟩
theorem ty14 : TIok Tryd.prog 14 ⟨.struct [(0, 9), (1, 12)], 2, 24, [.val (.string ⟨#[]⟩), .val (.int .u64 0)]⟩ := ⟨⟨Tryd.t14, _, by kernel_rfl, rfl, rfl, rfl, rfl⟩, ⟨_, Tryd.underlying14, rfl⟩, rfl, rfl⟩
theorem ty15 : TIok Tryd.prog 15 ⟨.ptr, 1, 8, [.val (.pointer none)]⟩ := ⟨⟨Tryd.t15, _, by kernel_rfl, rfl, rfl, rfl, rfl⟩, ⟨_, Tryd.underlying15, rfl⟩, rfl, rfl⟩
theorem ty16 : TIok Tryd.prog 16 ⟨.ptr, 1, 8, [.val (.pointer none)]⟩ := ⟨⟨Tryd.t16, _, by kernel_rfl, rfl, rfl, rfl, rfl⟩, ⟨_, Tryd.underlying16, rfl⟩, rfl, rfl⟩
theorem ty17 : TIok Tryd.prog 17 ⟨.ptr, 1, 8, [.val (.pointer none)]⟩ := ⟨⟨Tryd.t17, _, by kernel_rfl, rfl, rfl, rfl, rfl⟩, ⟨_, Tryd.underlying17, rfl⟩, rfl, rfl⟩
theorem ty18 : TIok Tryd.prog 18 ⟨.struct [(0, 17)], 1, 8, [.val (.pointer none)]⟩ := ⟨⟨Tryd.t18, _, by kernel_rfl, rfl, rfl, rfl, rfl⟩, ⟨_, Tryd.underlying18, rfl⟩, rfl, rfl⟩
theorem ty19 : TIok Tryd.prog 19 ⟨.struct [(0, 17)], 1, 8, [.val (.pointer none)]⟩ := ⟨⟨Tryd.t19, _, by kernel_rfl, rfl, rfl, rfl, rfl⟩, ⟨_, Tryd.underlying19, rfl⟩, rfl, rfl⟩
theorem ty22 : TIok Tryd.prog 22 ⟨.func, 1, 8, [.val .nilFunc]⟩ := ⟨⟨Tryd.t22, _, by kernel_rfl, rfl, rfl, rfl, rfl⟩, ⟨_, Tryd.underlying22, rfl⟩, rfl, rfl⟩
theorem ty25 : TIok Tryd.prog 25 ⟨.struct [(0, 3), (1, 9), (2, 23), (3, 24), (4, 3)], 5, 80, [.val (.int .i64 0), .val (.string ⟨#[]⟩), .sl 5 [] true, .sl 1 [] true, .val (.int .i64 0)]⟩ := ⟨⟨Tryd.t25, _, by kernel_rfl, rfl, rfl, rfl, rfl⟩, ⟨_, Tryd.underlying25, rfl⟩, rfl, rfl⟩
theorem ty29 : TIok Tryd.prog 29 ⟨.func, 1, 8, [.val .nilFunc]⟩ := ⟨⟨Tryd.t29, _, by kernel_rfl, rfl, rfl, rfl, rfl⟩, ⟨_, Tryd.underlying29, rfl⟩, rfl, rfl⟩
theorem ty31 : TIok Tryd.prog 31 ⟨.func, 1, 8, [.val .nilFunc]⟩ := ⟨⟨Tryd.t31, _, by kernel_rfl, rfl, rfl, rfl, rfl⟩, ⟨_, Tryd.underlying31, rfl⟩, rfl, rfl⟩
theorem ty32 : TIok Tryd.prog 32 ⟨.func, 1, 8, [.val .nilFunc]⟩ := ⟨⟨Tryd.t32, _, by kernel_rfl, rfl, rfl, rfl, rfl⟩, ⟨_, Tryd.underlying32, rfl⟩, rfl, rfl⟩
theorem ty33 : TIok Tryd.prog 33 ⟨.func, 1, 8, [.val .nilFunc]⟩ := ⟨⟨Tryd.t33, _, by kernel_rfl, rfl, rfl, rfl, rfl⟩, ⟨_, Tryd.underlying33, rfl⟩, rfl, rfl⟩
theorem ty36 : TIok Tryd.prog 36 ⟨.func, 1, 8, [.val .nilFunc]⟩ := ⟨⟨Tryd.t36, _, by kernel_rfl, rfl, rfl, rfl, rfl⟩, ⟨_, Tryd.underlying36, rfl⟩, rfl, rfl⟩
theorem ty37 : TIok Tryd.prog 37 ⟨.func, 1, 8, [.val .nilFunc]⟩ := ⟨⟨Tryd.t37, _, by kernel_rfl, rfl, rfl, rfl, rfl⟩, ⟨_, Tryd.underlying37, rfl⟩, rfl, rfl⟩
theorem ty38 : TIok Tryd.prog 38 ⟨.func, 1, 8, [.val .nilFunc]⟩ := ⟨⟨Tryd.t38, _, by kernel_rfl, rfl, rfl, rfl, rfl⟩, ⟨_, Tryd.underlying38, rfl⟩, rfl, rfl⟩
theorem ty39 : TIok Tryd.prog 39 ⟨.func, 1, 8, [.val .nilFunc]⟩ := ⟨⟨Tryd.t39, _, by kernel_rfl, rfl, rfl, rfl, rfl⟩, ⟨_, Tryd.underlying39, rfl⟩, rfl, rfl⟩
theorem ty40 : TIok Tryd.prog 40 ⟨.func, 1, 8, [.val .nilFunc]⟩ := ⟨⟨Tryd.t40, _, by kernel_rfl, rfl, rfl, rfl, rfl⟩, ⟨_, Tryd.underlying40, rfl⟩, rfl, rfl⟩
theorem ty42 : TIok Tryd.prog 42 ⟨.func, 1, 8, [.val .nilFunc]⟩ := ⟨⟨Tryd.t42, _, by kernel_rfl, rfl, rfl, rfl, rfl⟩, ⟨_, Tryd.underlying42, rfl⟩, rfl, rfl⟩
theorem ty44 : TIok Tryd.prog 44 ⟨.func, 1, 8, [.val .nilFunc]⟩ := ⟨⟨Tryd.t44, _, by kernel_rfl, rfl, rfl, rfl, rfl⟩, ⟨_, Tryd.underlying44, rfl⟩, rfl, rfl⟩
theorem ty45 : TIok Tryd.prog 45 ⟨.func, 1, 8, [.val .nilFunc]⟩ := ⟨⟨Tryd.t45, _, by kernel_rfl, rfl, rfl, rfl, rfl⟩, ⟨_, Tryd.underlying45, rfl⟩, rfl, rfl⟩
theorem ty46 : TIok Tryd.prog 46 ⟨.func, 1, 8, [.val .nilFunc]⟩ := ⟨⟨Tryd.t46, _, by kernel_rfl, rfl, rfl, rfl, rfl⟩, ⟨_, Tryd.underlying46, rfl⟩, rfl, rfl⟩
theorem ty47 : TIok Tryd.prog 47 ⟨.func, 1, 8, [.val .nilFunc]⟩ := ⟨⟨Tryd.t47, _, by kernel_rfl, rfl, rfl, rfl, rfl⟩, ⟨_, Tryd.underlying47, rfl⟩, rfl, rfl⟩
theorem ty48 : TIok Tryd.prog 48 ⟨.func, 1, 8, [.val .nilFunc]⟩ := ⟨⟨Tryd.t48, _, by kernel_rfl, rfl, rfl, rfl, rfl⟩, ⟨_, Tryd.underlying48, rfl⟩, rfl, rfl⟩
theorem ty50 : TIok Tryd.prog 50 ⟨.func, 1, 8, [.val .nilFunc]⟩ := ⟨⟨Tryd.t50, _, by kernel_rfl, rfl, rfl, rfl, rfl⟩, ⟨_, Tryd.underlying50, rfl⟩, rfl, rfl⟩
theorem ty52 : TIok Tryd.prog 52 ⟨.func, 1, 8, [.val .nilFunc]⟩ := ⟨⟨Tryd.t52, _, by kernel_rfl, rfl, rfl, rfl, rfl⟩, ⟨_, Tryd.underlying52, rfl⟩, rfl, rfl⟩
theorem ty53 : TIok Tryd.prog 53 ⟨.func, 1, 8, [.val .nilFunc]⟩ := ⟨⟨Tryd.t53, _, by kernel_rfl, rfl, rfl, rfl, rfl⟩, ⟨_, Tryd.underlying53, rfl⟩, rfl, rfl⟩
theorem ty54 : TIok Tryd.prog 54 ⟨.struct [(0, 3), (1, 9), (2, 3)], 3, 32, [.val (.int .i64 0), .val (.string ⟨#[]⟩), .val (.int .i64 0)]⟩ := ⟨⟨Tryd.t54, _, by kernel_rfl, rfl, rfl, rfl, rfl⟩, ⟨_, Tryd.underlying54, rfl⟩, rfl, rfl⟩
theorem ty56 : TIok Tryd.prog 56 ⟨.func, 1, 8, [.val .nilFunc]⟩ := ⟨⟨Tryd.t56, _, by kernel_rfl, rfl, rfl, rfl, rfl⟩, ⟨_, Tryd.underlying56, rfl⟩, rfl, rfl⟩
theorem ty57 : TIok Tryd.prog 57 ⟨.func, 1, 8, [.val .nilFunc]⟩ := ⟨⟨Tryd.t57, _, by kernel_rfl, rfl, rfl, rfl, rfl⟩, ⟨_, Tryd.underlying57, rfl⟩, rfl, rfl⟩
theorem ty59 : TIok Tryd.prog 59 ⟨.func, 1, 8, [.val .nilFunc]⟩ := ⟨⟨Tryd.t59, _, by kernel_rfl, rfl, rfl, rfl, rfl⟩, ⟨_, Tryd.underlying59, rfl⟩, rfl, rfl⟩
theorem ty60 : TIok Tryd.prog 60 ⟨.func, 1, 8, [.val .nilFunc]⟩ := ⟨⟨Tryd.t60, _, by kernel_rfl, rfl, rfl, rfl, rfl⟩, ⟨_, Tryd.underlying60, rfl⟩, rfl, rfl⟩
theorem ty61 : TIok Tryd.prog 61 ⟨.func, 1, 8, [.val .nilFunc]⟩ := ⟨⟨Tryd.t61, _, by kernel_rfl, rfl, rfl, rfl, rfl⟩, ⟨_, Tryd.underlying61, rfl⟩, rfl, rfl⟩
theorem ty63 : TIok Tryd.prog 63 ⟨.func, 1, 8, [.val .nilFunc]⟩ := ⟨⟨Tryd.t63, _, by kernel_rfl, rfl, rfl, rfl, rfl⟩, ⟨_, Tryd.underlying63, rfl⟩, rfl, rfl⟩
theorem ty64 : TIok Tryd.prog 64 ⟨.func, 1, 8, [.val .nilFunc]⟩ := ⟨⟨Tryd.t64, _, by kernel_rfl, rfl, rfl, rfl, rfl⟩, ⟨_, Tryd.underlying64, rfl⟩, rfl, rfl⟩
theorem ty65 : TIok Tryd.prog 65 ⟨.func, 1, 8, [.val .nilFunc]⟩ := ⟨⟨Tryd.t65, _, by kernel_rfl, rfl, rfl, rfl, rfl⟩, ⟨_, Tryd.underlying65, rfl⟩, rfl, rfl⟩
theorem ty69 : TIok Tryd.prog 69 ⟨.struct [(0, 67), (1, 68)], 2, 32, [.val (.pointer none), .sl 1 [] true]⟩ := ⟨⟨Tryd.t69, _, by kernel_rfl, rfl, rfl, rfl, rfl⟩, ⟨_, Tryd.underlying69, rfl⟩, rfl, rfl⟩
theorem ty71 : TIok Tryd.prog 71 ⟨.struct [(0, 70), (2, 4)], 3, 40, [.val (.pointer none), .sl 1 [] true, .val (.bool false)]⟩ := ⟨⟨Tryd.t71, _, by kernel_rfl, rfl, rfl, rfl, rfl⟩, ⟨_, Tryd.underlying71, rfl⟩, rfl, rfl⟩
theorem ty73 : TIok Tryd.prog 73 ⟨.func, 1, 8, [.val .nilFunc]⟩ := ⟨⟨Tryd.t73, _, by kernel_rfl, rfl, rfl, rfl, rfl⟩, ⟨_, Tryd.underlying73, rfl⟩, rfl, rfl⟩
theorem ty74 : TIok Tryd.prog 74 ⟨.func, 1, 8, [.val .nilFunc]⟩ := ⟨⟨Tryd.t74, _, by kernel_rfl, rfl, rfl, rfl, rfl⟩, ⟨_, Tryd.underlying74, rfl⟩, rfl, rfl⟩
theorem ty75 : TIok Tryd.prog 75 ⟨.func, 1, 8, [.val .nilFunc]⟩ := ⟨⟨Tryd.t75, _, by kernel_rfl, rfl, rfl, rfl, rfl⟩, ⟨_, Tryd.underlying75, rfl⟩, rfl, rfl⟩
theorem ty76 : TIok Tryd.prog 76 ⟨.func, 1, 8, [.val .nilFunc]⟩ := ⟨⟨Tryd.t76, _, by kernel_rfl, rfl, rfl, rfl, rfl⟩, ⟨_, Tryd.underlying76, rfl⟩, rfl, rfl⟩
theorem ty77 : TIok Tryd.prog 77 ⟨.func, 1, 8, [.val .nilFunc]⟩ := ⟨⟨Tryd.t77, _, by kernel_rfl, rfl, rfl, rfl, rfl⟩, ⟨_, Tryd.underlying77, rfl⟩, rfl, rfl⟩
theorem ty78 : TIok Tryd.prog 78 ⟨.struct [(0, 3), (1, 27)], 2, 16, [.val (.int .i64 0), .val (.int .i64 0)]⟩ := ⟨⟨Tryd.t78, _, by kernel_rfl, rfl, rfl, rfl, rfl⟩, ⟨_, Tryd.underlying78, rfl⟩, rfl, rfl⟩
theorem ty81 : TIok Tryd.prog 81 ⟨.struct [(0, 34), (1, 3)], 2, 32, [.sl 3 [] true, .val (.int .i64 0)]⟩ := ⟨⟨Tryd.t81, _, by kernel_rfl, rfl, rfl, rfl, rfl⟩, ⟨_, Tryd.underlying81, rfl⟩, rfl, rfl⟩
theorem ty83 : TIok Tryd.prog 83 ⟨.func, 1, 8, [.val .nilFunc]⟩ := ⟨⟨Tryd.t83, _, by kernel_rfl, rfl, rfl, rfl, rfl⟩, ⟨_, Tryd.underlying83, rfl⟩, rfl, rfl⟩
theorem ty84 : TIok Tryd.prog 84 ⟨.func, 1, 8, [.val .nilFunc]⟩ := ⟨⟨Tryd.t84, _, by kernel_rfl, rfl, rfl, rfl, rfl⟩, ⟨_, Tryd.underlying84, rfl⟩, rfl, rfl⟩
theorem ty85 : TIok Tryd.prog 85 ⟨.func, 1, 8, [.val .nilFunc]⟩ := ⟨⟨Tryd.t85, _, by kernel_rfl, rfl, rfl, rfl, rfl⟩, ⟨_, Tryd.underlying85, rfl⟩, rfl, rfl⟩
theorem ty86 : TIok Tryd.prog 86 ⟨.func, 1, 8, [.val .nilFunc]⟩ := ⟨⟨Tryd.t86, _, by kernel_rfl, rfl, rfl, rfl, rfl⟩, ⟨_, Tryd.underlying86, rfl⟩, rfl, rfl⟩
theorem ty87 : TIok Tryd.prog 87 ⟨.func, 1, 8, [.val .nilFunc]⟩ := ⟨⟨Tryd.t87, _, by kernel_rfl, rfl, rfl, rfl, rfl⟩, ⟨_, Tryd.underlying87, rfl⟩, rfl, rfl⟩
theorem ty88 : TIok Tryd.prog 88 ⟨.func, 1, 8, [.val .nilFunc]⟩ := ⟨⟨Tryd.t88, _, by kernel_rfl, rfl, rfl, rfl, rfl⟩, ⟨_, Tryd.underlying88, rfl⟩, rfl, rfl⟩
theorem ty89 : TIok Tryd.prog 89 ⟨.func, 1, 8, [.val .nilFunc]⟩ := ⟨⟨Tryd.t89, _, by kernel_rfl, rfl, rfl, rfl, rfl⟩, ⟨_, Tryd.underlying89, rfl⟩, rfl, rfl⟩
theorem ty90 : TIok Tryd.prog 90 ⟨.func, 1, 8, [.val .nilFunc]⟩ := ⟨⟨Tryd.t90, _, by kernel_rfl, rfl, rfl, rfl, rfl⟩, ⟨_, Tryd.underlying90, rfl⟩, rfl, rfl⟩
theorem ty91 : TIok Tryd.prog 91 ⟨.func, 1, 8, [.val .nilFunc]⟩ := ⟨⟨Tryd.t91, _, by kernel_rfl, rfl, rfl, rfl, rfl⟩, ⟨_, Tryd.underlying91, rfl⟩, rfl, rfl⟩
theorem ty93 : TIok Tryd.prog 93 ⟨.func, 1, 8, [.val .nilFunc]⟩ := ⟨⟨Tryd.t93, _, by kernel_rfl, rfl, rfl, rfl, rfl⟩, ⟨_, Tryd.underlying93, rfl⟩, rfl, rfl⟩
theorem ty94 : TIok Tryd.prog 94 ⟨.func, 1, 8, [.val .nilFunc]⟩ := ⟨⟨Tryd.t94, _, by kernel_rfl, rfl, rfl, rfl, rfl⟩, ⟨_, Tryd.underlying94, rfl⟩, rfl, rfl⟩
theorem ty95 : TIok Tryd.prog 95 ⟨.iface, 1, 16, [.val .nilIface]⟩ := ⟨⟨Tryd.t95, _, by kernel_rfl, rfl, rfl, rfl, rfl⟩, ⟨_, Tryd.underlying95, rfl⟩, rfl, rfl⟩
theorem ty96 : TIok Tryd.prog 96 ⟨.iface, 1, 16, [.val .nilIface]⟩ := ⟨⟨Tryd.t96, _, by kernel_rfl, rfl, rfl, rfl, rfl⟩, ⟨_, Tryd.underlying96, rfl⟩, rfl, rfl⟩
theorem ty98 : TIok Tryd.prog 98 ⟨.func, 1, 8, [.val .nilFunc]⟩ := ⟨⟨Tryd.t98, _, by kernel_rfl, rfl, rfl, rfl, rfl⟩, ⟨_, Tryd.underlying98, rfl⟩, rfl, rfl⟩
theorem ty99 : TIok Tryd.prog 99 ⟨.func, 1, 8, [.val .nilFunc]⟩ := ⟨⟨Tryd.t99, _, by kernel_rfl, rfl, rfl, rfl, rfl⟩, ⟨_, Tryd.underlying99, rfl⟩, rfl, rfl⟩
theorem ty100 : TIok Tryd.prog 100 ⟨.func, 1, 8, [.val .nilFunc]⟩ := ⟨⟨Tryd.t100, _, by kernel_rfl, rfl, rfl, rfl, rfl⟩, ⟨_, Tryd.underlying100, rfl⟩, rfl, rfl⟩
theorem ty101 : TIok Tryd.prog 101 ⟨.func, 1, 8, [.val .nilFunc]⟩ := ⟨⟨Tryd.t101, _, by kernel_rfl, rfl, rfl, rfl, rfl⟩, ⟨_, Tryd.underlying101, rfl⟩, rfl, rfl⟩
theorem ty104 : TIok Tryd.prog 104 ⟨.func, 1, 8, [.val .nilFunc]⟩ := ⟨⟨Tryd.t104, _, by kernel_rfl, rfl, rfl, rfl, rfl⟩, ⟨_, Tryd.underlying104, rfl⟩, rfl, rfl⟩
theorem ty106 : TIok Tryd.prog 106 ⟨.func, 1, 8, [.val .nilFunc]⟩ := ⟨⟨Tryd.t106, _, by kernel_rfl, rfl, rfl, rfl, rfl⟩, ⟨_, Tryd.underlying106, rfl⟩, rfl, rfl⟩
theorem ty107 : TIok Tryd.prog 107 ⟨.func, 1, 8, [.val .nilFunc]⟩ := ⟨⟨Tryd.t107, _, by kernel_rfl, rfl, rfl, rfl, rfl⟩, ⟨_, Tryd.underlying107, rfl⟩, rfl, rfl⟩
theorem ty108 : TIok Tryd.prog 108 ⟨.func, 1, 8, [.val .nilFunc]⟩ := ⟨⟨Tryd.t108, _, by kernel_rfl, rfl, rfl, rfl, rfl⟩, ⟨_, Tryd.underlying108, rfl⟩, rfl, rfl⟩
theorem ty110 : TIok Tryd.prog 110 ⟨.int .u64, 1, 8, [.val (.int .u64 0)]⟩ := ⟨⟨Tryd.t110, _, by kernel_rfl, rfl, rfl, rfl, rfl⟩, ⟨_, Tryd.underlying110, rfl⟩, rfl, rfl⟩
theorem ty111 : TIok Tryd.prog 111 ⟨.struct [(0, 5), (1, 5)], 2, 2, [.val (.int .u8 0), .val (.int .u8 0)]⟩ := ⟨⟨Tryd.t111, _, by kernel_rfl, rfl, rfl, rfl, rfl⟩, ⟨_, Tryd.underlying111, rfl⟩, rfl, rfl⟩
theorem ty114 : TIok Tryd.prog 114 ⟨.func, 1, 8, [.val .nilFunc]⟩ := ⟨⟨Tryd.t114, _, by kernel_rfl, rfl, rfl, rfl, rfl⟩, ⟨_, Tryd.underlying114, rfl⟩, rfl, rfl⟩
theorem ty115 : TIok Tryd.prog 115 ⟨.func, 1, 8, [.val .nilFunc]⟩ := ⟨⟨Tryd.t115, _, by kernel_rfl, rfl, rfl, rfl, rfl⟩, ⟨_, Tryd.underlying115, rfl⟩, rfl, rfl⟩
theorem ty116 : TIok Tryd.prog 116 ⟨.func, 1, 8, [.val .nilFunc]⟩ := ⟨⟨Tryd.t116, _, by kernel_rfl, rfl, rfl, rfl, rfl⟩, ⟨_, Tryd.underlying116, rfl⟩, rfl, rfl⟩
theorem ty117 : TIok Tryd.prog 117 ⟨.func, 1, 8, [.val .nilFunc]⟩ := ⟨⟨Tryd.t117, _, by kernel_rfl, rfl, rfl, rfl, rfl⟩, ⟨_, Tryd.underlying117, rfl⟩, rfl, rfl⟩
theorem ty119 : TIok Tryd.prog 119 ⟨.func, 1, 8, [.val .nilFunc]⟩ := ⟨⟨Tryd.t119, _, by kernel_rfl, rfl, rfl, rfl, rfl⟩, ⟨_, Tryd.underlying119, rfl⟩, rfl, rfl⟩
theorem ty121 : TIok Tryd.prog 121 ⟨.func, 1, 8, [.val .nilFunc]⟩ := ⟨⟨Tryd.t121, _, by kernel_rfl, rfl, rfl, rfl, rfl⟩, ⟨_, Tryd.underlying121, rfl⟩, rfl, rfl⟩
theorem ty122 : TIok Tryd.prog 122 ⟨.func, 1, 8, [.val .nilFunc]⟩ := ⟨⟨Tryd.t122, _, by kernel_rfl, rfl, rfl, rfl, rfl⟩, ⟨_, Tryd.underlying122, rfl⟩, rfl, rfl⟩
theorem ty124 : TIok Tryd.prog 124 ⟨.func, 1, 8, [.val .nilFunc]⟩ := ⟨⟨Tryd.t124, _, by kernel_rfl, rfl, rfl, rfl, rfl⟩, ⟨_, Tryd.underlying124, rfl⟩, rfl, rfl⟩
theorem ty126 : TIok Tryd.prog 126 ⟨.func, 1, 8, [.val .nilFunc]⟩ := ⟨⟨Tryd.t126, _, by kernel_rfl, rfl, rfl, rfl, rfl⟩, ⟨_, Tryd.underlying126, rfl⟩, rfl, rfl⟩
theorem ty127 : TIok Tryd.prog 127 ⟨.struct [(0, 17), (1, 17), (2, 17), (3, 9)], 4, 40, [.val (.pointer none), .val (.pointer none), .val (.pointer none), .val (.string ⟨#[]⟩)]⟩ := ⟨⟨Tryd.t127, _, by kernel_rfl, rfl, rfl, rfl, rfl⟩, ⟨_, Tryd.underlying127, rfl⟩, rfl, rfl⟩
theorem ty128 : TIok Tryd.prog 128 ⟨.struct [(0, 17), (1, 17), (2, 17), (3, 9)], 4, 40, [.val (.pointer none), .val (.pointer none), .val (.pointer none), .val (.string ⟨#[]⟩)]⟩ := ⟨⟨Tryd.t128, _, by kernel_rfl, rfl, rfl, rfl, rfl⟩, ⟨_, Tryd.underlying128, rfl⟩, rfl, rfl⟩
theorem ty129 : TIok Tryd.prog 129 ⟨.array 0 16, 0, 0, []⟩ := ⟨⟨Tryd.t129, _, by kernel_rfl, rfl, rfl, rfl, rfl⟩, ⟨_, Tryd.underlying129, rfl⟩, rfl, rfl⟩
theorem ty130 : TIok Tryd.prog 130 ⟨.struct [(0, 129)], 0, 0, []⟩ := ⟨⟨Tryd.t130, _, by kernel_rfl, rfl, rfl, rfl, rfl⟩, ⟨_, Tryd.underlying130, rfl⟩, rfl, rfl⟩
theorem ty131 : TIok Tryd.prog 131 ⟨.struct [(0, 129)], 0, 0, []⟩ := ⟨⟨Tryd.t131, _, by kernel_rfl, rfl, rfl, rfl, rfl⟩, ⟨_, Tryd.underlying131, rfl⟩, rfl, rfl⟩
theorem ty132 : TIok Tryd.prog 132 ⟨.int .u32, 1, 4, [.val (.int .u32 0)]⟩ := ⟨⟨Tryd.t132, _, by kernel_rfl, rfl, rfl, rfl, rfl⟩, ⟨_, Tryd.underlying132, rfl⟩, rfl, rfl⟩
theorem ty133 : TIok Tryd.prog 133 ⟨.int .u8, 1, 1, [.val (.int .u8 0)]⟩ := ⟨⟨Tryd.t133, _, by kernel_rfl, rfl, rfl, rfl, rfl⟩, ⟨_, Tryd.underlying133, rfl⟩, rfl, rfl⟩
theorem ty134 : TIok Tryd.prog 134 ⟨.int .u8, 1, 1, [.val (.int .u8 0)]⟩ := ⟨⟨Tryd.t134, _, by kernel_rfl, rfl, rfl, rfl, rfl⟩, ⟨_, Tryd.underlying134, rfl⟩, rfl, rfl⟩
theorem ty135 : TIok Tryd.prog 135 ⟨.func, 1, 8, [.val .nilFunc]⟩ := ⟨⟨Tryd.t135, _, by kernel_rfl, rfl, rfl, rfl, rfl⟩, ⟨_, Tryd.underlying135, rfl⟩, rfl, rfl⟩
theorem ty136 : TIok Tryd.prog 136 ⟨.int .i32, 1, 4, [.val (.int .i32 0)]⟩ := ⟨⟨Tryd.t136, _, by kernel_rfl, rfl, rfl, rfl, rfl⟩, ⟨_, Tryd.underlying136, rfl⟩, rfl, rfl⟩
theorem ty137 : TIok Tryd.prog 137 ⟨.int .i32, 1, 4, [.val (.int .i32 0)]⟩ := ⟨⟨Tryd.t137, _, by kernel_rfl, rfl, rfl, rfl, rfl⟩, ⟨_, Tryd.underlying137, rfl⟩, rfl, rfl⟩
theorem ty138 : TIok Tryd.prog 138 ⟨.struct [(0, 12), (1, 12), (2, 132), (3, 133), (4, 5), (5, 5), (6, 134), (7, 135), (8, 118), (9, 136), (10, 137)], 11, 48, [.val (.int .u64 0), .val (.int .u64 0), .val (.int .u32 0), .val (.int .u8 0), .val (.int .u8 0), .val (.int .u8 0), .val (.int .u8 0), .val .nilFunc, .val (.pointer none), .val (.int .i32 0), .val (.int .i32 0)]⟩ := ⟨⟨Tryd.t138, _, by kernel_rfl, rfl, rfl, rfl, rfl⟩, ⟨_, Tryd.underlying138, rfl⟩, rfl, rfl⟩
theorem ty139 : TIok Tryd.prog 139 ⟨.struct [(0, 12), (1, 12), (2, 132), (3, 133), (4, 5), (5, 5), (6, 134), (7, 135), (8, 118), (9, 136), (10, 137)], 11, 48, [.val (.int .u64 0), .val (.int .u64 0), .val (.int .u32 0), .val (.int .u8 0), .val (.int .u8 0), .val (.int .u8 0), .val (.int .u8 0), .val .nilFunc, .val (.pointer none), .val (.int .i32 0), .val (.int .i32 0)]⟩ := ⟨⟨Tryd.t139, _, by kernel_rfl, rfl, rfl, rfl, rfl⟩, ⟨_, Tryd.underlying139, rfl⟩, rfl, rfl⟩
theorem tab_ok : tab.Ok Tryd.prog := by
  unfold tab
  refine Tab.ok_cons ty26 ?_
  refine Tab.ok_cons ty3 ?_
  refine Tab.ok_cons ty23 ?_
  refine Tab.ok_cons ty9 ?_
  refine Tab.ok_cons ty24 ?_
  refine Tab.ok_cons ty51 ?_
  refine Tab.ok_cons ty66 ?_
  refine Tab.ok_cons ty5 ?_
  refine Tab.ok_cons ty55 ?_
  refine Tab.ok_cons ty27 ?_
  refine Tab.ok_cons ty82 ?_
  refine Tab.ok_cons ty70 ?_
  refine Tab.ok_cons ty68 ?_
  refine Tab.ok_cons ty34 ?_
  refine Tab.ok_cons ty21 ?_
  refine Tab.ok_cons ty72 ?_
  refine Tab.ok_cons ty67 ?_
  refine Tab.ok_cons ty102 ?_
  refine Tab.ok_cons ty79 ?_
  refine Tab.ok_cons ty112 ?_
  refine Tab.ok_cons ty125 ?_
  refine Tab.ok_cons ty105 ?_
  refine Tab.ok_cons ty4 ?_
  refine Tab.ok_cons ty92 ?_
  refine Tab.ok_cons ty20 ?_
  refine Tab.ok_cons ty118 ?_
  refine Tab.ok_cons ty113 ?_
  refine Tab.ok_cons ty1 ?_
  refine Tab.ok_cons ty2 ?_
  refine Tab.ok_cons ty6 ?_
  refine Tab.ok_cons ty7 ?_
  refine Tab.ok_cons ty8 ?_
  refine Tab.ok_cons ty10 ?_
  refine Tab.ok_cons ty11 ?_
  refine Tab.ok_cons ty12 ?_
  refine Tab.ok_cons ty13 ?_
  refine Tab.ok_cons ty14 ?_
  refine Tab.ok_cons ty15 ?_
  refine Tab.ok_cons ty16 ?_
  refine Tab.ok_cons ty17 ?_
  refine Tab.ok_cons ty18 ?_
  refine Tab.ok_cons ty19 ?_
  refine Tab.ok_cons ty22 ?_
  refine Tab.ok_cons ty25 ?_
  refine Tab.ok_cons ty29 ?_
  refine Tab.ok_cons ty31 ?_
  refine Tab.ok_cons ty32 ?_
  refine Tab.ok_cons ty33 ?_
  refine Tab.ok_cons ty36 ?_
  refine Tab.ok_cons ty37 ?_
  refine Tab.ok_cons ty38 ?_
  refine Tab.ok_cons ty39 ?_
  refine Tab.ok_cons ty40 ?_
  refine Tab.ok_cons ty42 ?_
  refine Tab.ok_cons ty44 ?_
  refine Tab.ok_cons ty45 ?_
  refine Tab.ok_cons ty46 ?_
  refine Tab.ok_cons ty47 ?_
  refine Tab.ok_cons ty48 ?_
  refine Tab.ok_cons ty50 ?_
  refine Tab.ok_cons ty52 ?_
  refine Tab.ok_cons ty53 ?_
  refine Tab.ok_cons ty54 ?_
  refine Tab.ok_cons ty56 ?_
  refine Tab.ok_cons ty57 ?_
  refine Tab.ok_cons ty59 ?_
  refine Tab.ok_cons ty60 ?_
  refine Tab.ok_cons ty61 ?_
  refine Tab.ok_cons ty63 ?_
  refine Tab.ok_cons ty64 ?_
  refine Tab.ok_cons ty65 ?_
  refine Tab.ok_cons ty69 ?_
  refine Tab.ok_cons ty71 ?_
  refine Tab.ok_cons ty73 ?_
  refine Tab.ok_cons ty74 ?_
  refine Tab.ok_cons ty75 ?_
  refine Tab.ok_cons ty76 ?_
  refine Tab.ok_cons ty77 ?_
  refine Tab.ok_cons ty78 ?_
  refine Tab.ok_cons ty81 ?_
  refine Tab.ok_cons ty83 ?_
  refine Tab.ok_cons ty84 ?_
  refine Tab.ok_cons ty85 ?_
  refine Tab.ok_cons ty86 ?_
  refine Tab.ok_cons ty87 ?_
  refine Tab.ok_cons ty88 ?_
  refine Tab.ok_cons ty89 ?_
  refine Tab.ok_cons ty90 ?_
  refine Tab.ok_cons ty91 ?_
  refine Tab.ok_cons ty93 ?_
  refine Tab.ok_cons ty94 ?_
  refine Tab.ok_cons ty95 ?_
  refine Tab.ok_cons ty96 ?_
  refine Tab.ok_cons ty98 ?_
  refine Tab.ok_cons ty99 ?_
  refine Tab.ok_cons ty100 ?_
  refine Tab.ok_cons ty101 ?_
  refine Tab.ok_cons ty104 ?_
  refine Tab.ok_cons ty106 ?_
  refine Tab.ok_cons ty107 ?_
  refine Tab.ok_cons ty108 ?_
  refine Tab.ok_cons ty110 ?_
  refine Tab.ok_cons ty111 ?_
  refine Tab.ok_cons ty114 ?_
  refine Tab.ok_cons ty115 ?_
  refine Tab.ok_cons ty116 ?_
  refine Tab.ok_cons ty117 ?_
  refine Tab.ok_cons ty119 ?_
  refine Tab.ok_cons ty121 ?_
  refine Tab.ok_cons ty122 ?_
  refine Tab.ok_cons ty124 ?_
  refine Tab.ok_cons ty126 ?_
  refine Tab.ok_cons ty127 ?_
  refine Tab.ok_cons ty128 ?_
  refine Tab.ok_cons ty129 ?_
  refine Tab.ok_cons ty130 ?_
  refine Tab.ok_cons ty131 ?_
  refine Tab.ok_cons ty132 ?_
  refine Tab.ok_cons ty133 ?_
  refine Tab.ok_cons ty134 ?_
  refine Tab.ok_cons ty135 ?_
  refine Tab.ok_cons ty136 ?_
  refine Tab.ok_cons ty137 ?_
  refine Tab.ok_cons ty138 ?_
  refine Tab.ok_cons ty139 ?_
  exact Tab.ok_nil

end Go.Proofs.YtamkldohfhidiaaDoor
