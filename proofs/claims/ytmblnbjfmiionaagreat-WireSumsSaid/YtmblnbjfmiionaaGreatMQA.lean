/-
  The seat's types, and the orders of its drawn regions.
  The sum of bytes: what a byte does to it, and the program's function.
  Frames of bytes: the library's Clone and Equal, the program's frame and Right.
  The reference's sum, frame and Right.
  The reference's Right, and the law WireSums as a call.
  The law WireSums as a call.
-/
import Derived.Test.YtmblnbjfmiionaaGreatMDA
import Derived.Test.YtmblnbjfmiionaaGreatMB
import Derived.Test.YtmblnbjfmiionaaGreatProg
import Derived.KernelRfl
import Derived.Test.YtmblnbjfmiionaaGreatMWA
set_option linter.all false
namespace Go.Af.Tryz
open Go Go.Proofs
def T : TT := [(3, ⟨.int .i64, 1, 8, .int .i64 0⟩),
  (28, ⟨.slice 3, 1, 24, .slice none 0 0⟩),
  (146, ⟨.struct [(0, 103), (1, 96), (2, 4), (3, 139), (6, 93)], 7, 72, .agg #[.pointer none, .pointer none, .bool false, .int .i64 0, .int .i64 0, .int .i64 0, .slice none 0 0]⟩),
  (37, ⟨.struct [(0, 3), (1, 28), (2, 3)], 3, 40, .agg #[.int .i64 0, .slice none 0 0, .int .i64 0]⟩),
  (49, ⟨.struct [(0, 47), (1, 3), (2, 3), (3, 3)], 4, 48, .agg #[.slice none 0 0, .int .i64 0, .int .i64 0, .int .i64 0]⟩),
  (4, ⟨.bool, 1, 1, .bool false⟩),
  (143, ⟨.slice 146, 1, 24, .slice none 0 0⟩),
  (33, ⟨.struct [(0, 30), (3, 3), (4, 4), (5, 3), (6, 3), (7, 31)], 8, 80, .agg #[.int .i64 0, .slice none 0 0, .int .i64 0, .int .i64 0, .bool false, .int .i64 0, .int .i64 0, .int .u64 0]⟩),
  (46, ⟨.struct [(0, 3), (1, 3), (2, 3), (3, 22)], 4, 48, .agg #[.int .i64 0, .int .i64 0, .int .i64 0, .slice none 0 0]⟩),
  (154, ⟨.struct [(0, 121), (1, 114), (2, 4), (3, 3), (4, 3), (5, 3), (6, 4), (7, 4)], 8, 56, .agg #[.pointer none, .pointer none, .bool false, .int .i64 0, .int .i64 0, .int .i64 0, .bool false, .bool false]⟩),
  (30, ⟨.struct [(0, 3), (1, 28), (2, 3)], 3, 40, .agg #[.int .i64 0, .slice none 0 0, .int .i64 0]⟩),
  (22, ⟨.slice 5, 1, 24, .slice none 0 0⟩),
  (53, ⟨.struct [(0, 3), (1, 3), (2, 28), (3, 22)], 4, 64, .agg #[.int .i64 0, .int .i64 0, .slice none 0 0, .slice none 0 0]⟩),
  (47, ⟨.slice 53, 1, 24, .slice none 0 0⟩),
  (113, ⟨.struct [(0, 39), (8, 31), (9, 110), (10, 111), (11, 90), (12, 56)], 16, 192, .agg #[.int .i64 0, .slice none 0 0, .int .i64 0, .int .i64 0, .bool false, .int .i64 0, .int .i64 0, .int .u64 0, .int .u64 0, .slice none 0 0, .slice none 0 0, .map none, .slice none 0 0, .int .i64 0, .int .i64 0, .int .i64 0]⟩),
  (34, ⟨.int .i64, 1, 8, .int .i64 0⟩),
  (95, ⟨.struct [(0, 33), (8, 87), (9, 92), (10, 88), (11, 88), (12, 89), (13, 93), (14, 90), (15, 91), (16, 49)], 20, 224, .agg #[.int .i64 0, .slice none 0 0, .int .i64 0, .int .i64 0, .bool false, .int .i64 0, .int .i64 0, .int .u64 0, .nilFunc, .slice none 0 0, .map none, .map none, .map none, .slice none 0 0, .map none, .map none, .slice none 0 0, .int .i64 0, .int .i64 0, .int .i64 0]⟩),
  (31, ⟨.int .u64, 1, 8, .int .u64 0⟩),
  (139, ⟨.struct [(0, 3), (1, 3), (2, 3)], 3, 24, .agg #[.int .i64 0, .int .i64 0, .int .i64 0]⟩),
  (123, ⟨.struct [(0, 120), (4, 3), (5, 3), (6, 28), (7, 4), (8, 28), (9, 28), (10, 3), (11, 3), (12, 3)], 13, 168, .agg #[.int .i64 0, .int .i64 0, .int .i64 0, .slice none 0 0, .int .i64 0, .int .i64 0, .slice none 0 0, .bool false, .slice none 0 0, .slice none 0 0, .int .i64 0, .int .i64 0, .int .i64 0]⟩),
  (5, ⟨.int .u8, 1, 1, .int .u8 0⟩),
  (110, ⟨.slice 121, 1, 24, .slice none 0 0⟩),
  (24, ⟨.int .u16, 1, 2, .int .u16 0⟩),
  (39, ⟨.struct [(0, 37), (3, 3), (4, 4), (5, 3), (6, 3), (7, 31)], 8, 80, .agg #[.int .i64 0, .slice none 0 0, .int .i64 0, .int .i64 0, .bool false, .int .i64 0, .int .i64 0, .int .u64 0]⟩),
  (163, ⟨.struct [(0, 3), (1, 3)], 2, 16, .agg #[.int .i64 0, .int .i64 0]⟩),
  (105, ⟨.struct [(0, 3), (1, 3), (2, 3), (3, 22), (4, 28), (5, 93), (6, 4), (7, 3)], 8, 112, .agg #[.int .i64 0, .int .i64 0, .int .i64 0, .slice none 0 0, .slice none 0 0, .slice none 0 0, .bool false, .int .i64 0]⟩),
  (161, ⟨.struct [(0, 3), (1, 3)], 2, 16, .agg #[.int .i64 0, .int .i64 0]⟩),
  (111, ⟨.slice 114, 1, 24, .slice none 0 0⟩),
  (42, ⟨.slice 46, 1, 24, .slice none 0 0⟩),
  (116, ⟨.struct [(0, 3), (1, 3), (2, 3), (3, 3), (4, 110), (5, 110)], 6, 80, .agg #[.int .i64 0, .int .i64 0, .int .i64 0, .int .i64 0, .slice none 0 0, .slice none 0 0]⟩),
  (56, ⟨.struct [(0, 54), (1, 3), (2, 3), (3, 3)], 4, 48, .agg #[.slice none 0 0, .int .i64 0, .int .i64 0, .int .i64 0]⟩),
  (88, ⟨.map 139 96, 1, 8, .map none⟩),
  (121, ⟨.ptr 123, 1, 8, .pointer none⟩),
  (93, ⟨.slice 139, 1, 24, .slice none 0 0⟩),
  (120, ⟨.struct [(0, 3), (1, 3), (2, 3), (3, 22)], 4, 48, .agg #[.int .i64 0, .int .i64 0, .int .i64 0, .slice none 0 0]⟩),
  (238, ⟨.int .u64, 1, 8, .int .u64 0⟩),
  (103, ⟨.ptr 105, 1, 8, .pointer none⟩),
  (64, ⟨.int .u64, 1, 8, .int .u64 0⟩),
  (152, ⟨.slice 154, 1, 24, .slice none 0 0⟩),
  (159, ⟨.slice 3, 1, 24, .slice none 0 0⟩),
  (185, ⟨.arr 2 3, 2, 16, .agg #[.int .i64 0, .int .i64 0]⟩),
  (9, ⟨.str, 1, 16, .string ⟨#[]⟩⟩),
  (114, ⟨.ptr 116, 1, 8, .pointer none⟩),
  (226, ⟨.int .u32, 1, 4, .int .u32 0⟩),
  (65, ⟨.arr 3 3, 3, 24, .agg #[.int .i64 0, .int .i64 0, .int .i64 0]⟩),
  (89, ⟨.map 139 3, 1, 8, .map none⟩),
  (99, ⟨.struct [(0, 97)], 1, 24, .agg #[.slice none 0 0]⟩),
  (90, ⟨.map 185 3, 1, 8, .map none⟩),
  (97, ⟨.slice 103, 1, 24, .slice none 0 0⟩),
  (173, ⟨.map 179 146, 1, 8, .map none⟩),
  (198, ⟨.struct [(0, 28), (1, 3)], 2, 32, .agg #[.slice none 0 0, .int .i64 0]⟩),
  (125, ⟨.struct [(0, 3), (1, 3), (2, 28), (3, 22)], 4, 64, .agg #[.int .i64 0, .int .i64 0, .slice none 0 0, .slice none 0 0]⟩),
  (54, ⟨.slice 125, 1, 24, .slice none 0 0⟩),
  (85, ⟨.int .u64, 1, 8, .int .u64 0⟩),
  (92, ⟨.slice 96, 1, 24, .slice none 0 0⟩),
  (59, ⟨.slice 120, 1, 24, .slice none 0 0⟩),
  (86, ⟨.ptr 95, 1, 8, .pointer none⟩),
  (75, ⟨.slice 4, 1, 24, .slice none 0 0⟩),
  (91, ⟨.map 185 28, 1, 8, .map none⟩),
  (96, ⟨.ptr 99, 1, 8, .pointer none⟩),
  (179, ⟨.struct [(0, 4), (1, 3), (2, 3)], 3, 24, .agg #[.bool false, .int .i64 0, .int .i64 0]⟩),
  (73, ⟨.slice 28, 1, 24, .slice none 0 0⟩),
  (87, ⟨.func, 1, 8, .nilFunc⟩),
  (219, ⟨.int .i64, 1, 8, .int .i64 0⟩),
  (142, ⟨.map 96 139, 1, 8, .map none⟩),
  (63, ⟨.arr 3 24, 3, 6, .agg #[.int .u16 0, .int .u16 0, .int .u16 0]⟩),
  (81, ⟨.slice 65, 1, 24, .slice none 0 0⟩),
  (166, ⟨.func, 1, 8, .nilFunc⟩)]
theorem ti3 : TIOk Tryz.prog 3 ⟨.int .i64, 1, 8, .int .i64 0⟩ := ⟨Tryz.underlying3, by kernel_rfl, rfl⟩
theorem ti28 : TIOk Tryz.prog 28 ⟨.slice 3, 1, 24, .slice none 0 0⟩ := ⟨Tryz.underlying28, by kernel_rfl, rfl⟩
theorem ti146 : TIOk Tryz.prog 146 ⟨.struct [(0, 103), (1, 96), (2, 4), (3, 139), (6, 93)], 7, 72, .agg #[.pointer none, .pointer none, .bool false, .int .i64 0, .int .i64 0, .int .i64 0, .slice none 0 0]⟩ := ⟨⟨_, Tryz.underlying146, rfl⟩, by kernel_rfl, rfl⟩
theorem ti37 : TIOk Tryz.prog 37 ⟨.struct [(0, 3), (1, 28), (2, 3)], 3, 40, .agg #[.int .i64 0, .slice none 0 0, .int .i64 0]⟩ := ⟨⟨_, Tryz.underlying37, rfl⟩, by kernel_rfl, rfl⟩
theorem ti49 : TIOk Tryz.prog 49 ⟨.struct [(0, 47), (1, 3), (2, 3), (3, 3)], 4, 48, .agg #[.slice none 0 0, .int .i64 0, .int .i64 0, .int .i64 0]⟩ := ⟨⟨_, Tryz.underlying49, rfl⟩, by kernel_rfl, rfl⟩
theorem ti4 : TIOk Tryz.prog 4 ⟨.bool, 1, 1, .bool false⟩ := ⟨Tryz.underlying4, by kernel_rfl, rfl⟩
theorem ti143 : TIOk Tryz.prog 143 ⟨.slice 146, 1, 24, .slice none 0 0⟩ := ⟨Tryz.underlying143, by kernel_rfl, rfl⟩
theorem ti33 : TIOk Tryz.prog 33 ⟨.struct [(0, 30), (3, 3), (4, 4), (5, 3), (6, 3), (7, 31)], 8, 80, .agg #[.int .i64 0, .slice none 0 0, .int .i64 0, .int .i64 0, .bool false, .int .i64 0, .int .i64 0, .int .u64 0]⟩ := ⟨⟨_, Tryz.underlying33, rfl⟩, by kernel_rfl, rfl⟩
theorem ti46 : TIOk Tryz.prog 46 ⟨.struct [(0, 3), (1, 3), (2, 3), (3, 22)], 4, 48, .agg #[.int .i64 0, .int .i64 0, .int .i64 0, .slice none 0 0]⟩ := ⟨⟨_, Tryz.underlying46, rfl⟩, by kernel_rfl, rfl⟩
theorem ti154 : TIOk Tryz.prog 154 ⟨.struct [(0, 121), (1, 114), (2, 4), (3, 3), (4, 3), (5, 3), (6, 4), (7, 4)], 8, 56, .agg #[.pointer none, .pointer none, .bool false, .int .i64 0, .int .i64 0, .int .i64 0, .bool false, .bool false]⟩ := ⟨⟨_, Tryz.underlying154, rfl⟩, by kernel_rfl, rfl⟩
theorem ti30 : TIOk Tryz.prog 30 ⟨.struct [(0, 3), (1, 28), (2, 3)], 3, 40, .agg #[.int .i64 0, .slice none 0 0, .int .i64 0]⟩ := ⟨⟨_, Tryz.underlying30, rfl⟩, by kernel_rfl, rfl⟩
theorem ti22 : TIOk Tryz.prog 22 ⟨.slice 5, 1, 24, .slice none 0 0⟩ := ⟨Tryz.underlying22, by kernel_rfl, rfl⟩
theorem ti53 : TIOk Tryz.prog 53 ⟨.struct [(0, 3), (1, 3), (2, 28), (3, 22)], 4, 64, .agg #[.int .i64 0, .int .i64 0, .slice none 0 0, .slice none 0 0]⟩ := ⟨⟨_, Tryz.underlying53, rfl⟩, by kernel_rfl, rfl⟩
theorem ti47 : TIOk Tryz.prog 47 ⟨.slice 53, 1, 24, .slice none 0 0⟩ := ⟨Tryz.underlying47, by kernel_rfl, rfl⟩
theorem ti113 : TIOk Tryz.prog 113 ⟨.struct [(0, 39), (8, 31), (9, 110), (10, 111), (11, 90), (12, 56)], 16, 192, .agg #[.int .i64 0, .slice none 0 0, .int .i64 0, .int .i64 0, .bool false, .int .i64 0, .int .i64 0, .int .u64 0, .int .u64 0, .slice none 0 0, .slice none 0 0, .map none, .slice none 0 0, .int .i64 0, .int .i64 0, .int .i64 0]⟩ := ⟨⟨_, Tryz.underlying113, rfl⟩, by kernel_rfl, rfl⟩
theorem ti34 : TIOk Tryz.prog 34 ⟨.int .i64, 1, 8, .int .i64 0⟩ := ⟨Tryz.underlying34, by kernel_rfl, rfl⟩
theorem ti95 : TIOk Tryz.prog 95 ⟨.struct [(0, 33), (8, 87), (9, 92), (10, 88), (11, 88), (12, 89), (13, 93), (14, 90), (15, 91), (16, 49)], 20, 224, .agg #[.int .i64 0, .slice none 0 0, .int .i64 0, .int .i64 0, .bool false, .int .i64 0, .int .i64 0, .int .u64 0, .nilFunc, .slice none 0 0, .map none, .map none, .map none, .slice none 0 0, .map none, .map none, .slice none 0 0, .int .i64 0, .int .i64 0, .int .i64 0]⟩ := ⟨⟨_, Tryz.underlying95, rfl⟩, by kernel_rfl, rfl⟩
theorem ti31 : TIOk Tryz.prog 31 ⟨.int .u64, 1, 8, .int .u64 0⟩ := ⟨Tryz.underlying31, by kernel_rfl, rfl⟩
theorem ti139 : TIOk Tryz.prog 139 ⟨.struct [(0, 3), (1, 3), (2, 3)], 3, 24, .agg #[.int .i64 0, .int .i64 0, .int .i64 0]⟩ := ⟨⟨_, Tryz.underlying139, rfl⟩, by kernel_rfl, rfl⟩
theorem ti123 : TIOk Tryz.prog 123 ⟨.struct [(0, 120), (4, 3), (5, 3), (6, 28), (7, 4), (8, 28), (9, 28), (10, 3), (11, 3), (12, 3)], 13, 168, .agg #[.int .i64 0, .int .i64 0, .int .i64 0, .slice none 0 0, .int .i64 0, .int .i64 0, .slice none 0 0, .bool false, .slice none 0 0, .slice none 0 0, .int .i64 0, .int .i64 0, .int .i64 0]⟩ := ⟨⟨_, Tryz.underlying123, rfl⟩, by kernel_rfl, rfl⟩
theorem ti5 : TIOk Tryz.prog 5 ⟨.int .u8, 1, 1, .int .u8 0⟩ := ⟨Tryz.underlying5, by kernel_rfl, rfl⟩
theorem ti110 : TIOk Tryz.prog 110 ⟨.slice 121, 1, 24, .slice none 0 0⟩ := ⟨Tryz.underlying110, by kernel_rfl, rfl⟩
theorem ti24 : TIOk Tryz.prog 24 ⟨.int .u16, 1, 2, .int .u16 0⟩ := ⟨Tryz.underlying24, by kernel_rfl, rfl⟩
theorem ti39 : TIOk Tryz.prog 39 ⟨.struct [(0, 37), (3, 3), (4, 4), (5, 3), (6, 3), (7, 31)], 8, 80, .agg #[.int .i64 0, .slice none 0 0, .int .i64 0, .int .i64 0, .bool false, .int .i64 0, .int .i64 0, .int .u64 0]⟩ := ⟨⟨_, Tryz.underlying39, rfl⟩, by kernel_rfl, rfl⟩
theorem ti163 : TIOk Tryz.prog 163 ⟨.struct [(0, 3), (1, 3)], 2, 16, .agg #[.int .i64 0, .int .i64 0]⟩ := ⟨⟨_, Tryz.underlying163, rfl⟩, by kernel_rfl, rfl⟩
theorem ti105 : TIOk Tryz.prog 105 ⟨.struct [(0, 3), (1, 3), (2, 3), (3, 22), (4, 28), (5, 93), (6, 4), (7, 3)], 8, 112, .agg #[.int .i64 0, .int .i64 0, .int .i64 0, .slice none 0 0, .slice none 0 0, .slice none 0 0, .bool false, .int .i64 0]⟩ := ⟨⟨_, Tryz.underlying105, rfl⟩, by kernel_rfl, rfl⟩
theorem ti161 : TIOk Tryz.prog 161 ⟨.struct [(0, 3), (1, 3)], 2, 16, .agg #[.int .i64 0, .int .i64 0]⟩ := ⟨⟨_, Tryz.underlying161, rfl⟩, by kernel_rfl, rfl⟩
theorem ti111 : TIOk Tryz.prog 111 ⟨.slice 114, 1, 24, .slice none 0 0⟩ := ⟨Tryz.underlying111, by kernel_rfl, rfl⟩
theorem ti42 : TIOk Tryz.prog 42 ⟨.slice 46, 1, 24, .slice none 0 0⟩ := ⟨Tryz.underlying42, by kernel_rfl, rfl⟩
theorem ti116 : TIOk Tryz.prog 116 ⟨.struct [(0, 3), (1, 3), (2, 3), (3, 3), (4, 110), (5, 110)], 6, 80, .agg #[.int .i64 0, .int .i64 0, .int .i64 0, .int .i64 0, .slice none 0 0, .slice none 0 0]⟩ := ⟨⟨_, Tryz.underlying116, rfl⟩, by kernel_rfl, rfl⟩
theorem ti56 : TIOk Tryz.prog 56 ⟨.struct [(0, 54), (1, 3), (2, 3), (3, 3)], 4, 48, .agg #[.slice none 0 0, .int .i64 0, .int .i64 0, .int .i64 0]⟩ := ⟨⟨_, Tryz.underlying56, rfl⟩, by kernel_rfl, rfl⟩
theorem ti88 : TIOk Tryz.prog 88 ⟨.map 139 96, 1, 8, .map none⟩ := ⟨Tryz.underlying88, by kernel_rfl, rfl⟩
theorem ti121 : TIOk Tryz.prog 121 ⟨.ptr 123, 1, 8, .pointer none⟩ := ⟨Tryz.underlying121, by kernel_rfl, rfl⟩
theorem ti93 : TIOk Tryz.prog 93 ⟨.slice 139, 1, 24, .slice none 0 0⟩ := ⟨Tryz.underlying93, by kernel_rfl, rfl⟩
theorem ti120 : TIOk Tryz.prog 120 ⟨.struct [(0, 3), (1, 3), (2, 3), (3, 22)], 4, 48, .agg #[.int .i64 0, .int .i64 0, .int .i64 0, .slice none 0 0]⟩ := ⟨⟨_, Tryz.underlying120, rfl⟩, by kernel_rfl, rfl⟩
theorem ti238 : TIOk Tryz.prog 238 ⟨.int .u64, 1, 8, .int .u64 0⟩ := ⟨Tryz.underlying238, by kernel_rfl, rfl⟩
theorem ti103 : TIOk Tryz.prog 103 ⟨.ptr 105, 1, 8, .pointer none⟩ := ⟨Tryz.underlying103, by kernel_rfl, rfl⟩
theorem ti64 : TIOk Tryz.prog 64 ⟨.int .u64, 1, 8, .int .u64 0⟩ := ⟨Tryz.underlying64, by kernel_rfl, rfl⟩
theorem ti152 : TIOk Tryz.prog 152 ⟨.slice 154, 1, 24, .slice none 0 0⟩ := ⟨Tryz.underlying152, by kernel_rfl, rfl⟩
theorem ti159 : TIOk Tryz.prog 159 ⟨.slice 3, 1, 24, .slice none 0 0⟩ := ⟨Tryz.underlying159, by kernel_rfl, rfl⟩
theorem ti185 : TIOk Tryz.prog 185 ⟨.arr 2 3, 2, 16, .agg #[.int .i64 0, .int .i64 0]⟩ := ⟨Tryz.underlying185, by kernel_rfl, rfl⟩
theorem ti9 : TIOk Tryz.prog 9 ⟨.str, 1, 16, .string ⟨#[]⟩⟩ := ⟨Tryz.underlying9, by kernel_rfl, rfl⟩
theorem ti114 : TIOk Tryz.prog 114 ⟨.ptr 116, 1, 8, .pointer none⟩ := ⟨Tryz.underlying114, by kernel_rfl, rfl⟩
theorem ti226 : TIOk Tryz.prog 226 ⟨.int .u32, 1, 4, .int .u32 0⟩ := ⟨Tryz.underlying226, by kernel_rfl, rfl⟩
theorem ti65 : TIOk Tryz.prog 65 ⟨.arr 3 3, 3, 24, .agg #[.int .i64 0, .int .i64 0, .int .i64 0]⟩ := ⟨Tryz.underlying65, by kernel_rfl, rfl⟩
theorem ti89 : TIOk Tryz.prog 89 ⟨.map 139 3, 1, 8, .map none⟩ := ⟨Tryz.underlying89, by kernel_rfl, rfl⟩
theorem ti99 : TIOk Tryz.prog 99 ⟨.struct [(0, 97)], 1, 24, .agg #[.slice none 0 0]⟩ := ⟨⟨_, Tryz.underlying99, rfl⟩, by kernel_rfl, rfl⟩
theorem ti90 : TIOk Tryz.prog 90 ⟨.map 185 3, 1, 8, .map none⟩ := ⟨Tryz.underlying90, by kernel_rfl, rfl⟩
theorem ti97 : TIOk Tryz.prog 97 ⟨.slice 103, 1, 24, .slice none 0 0⟩ := ⟨Tryz.underlying97, by kernel_rfl, rfl⟩
theorem ti173 : TIOk Tryz.prog 173 ⟨.map 179 146, 1, 8, .map none⟩ := ⟨Tryz.underlying173, by kernel_rfl, rfl⟩
theorem ti198 : TIOk Tryz.prog 198 ⟨.struct [(0, 28), (1, 3)], 2, 32, .agg #[.slice none 0 0, .int .i64 0]⟩ := ⟨⟨_, Tryz.underlying198, rfl⟩, by kernel_rfl, rfl⟩
theorem ti125 : TIOk Tryz.prog 125 ⟨.struct [(0, 3), (1, 3), (2, 28), (3, 22)], 4, 64, .agg #[.int .i64 0, .int .i64 0, .slice none 0 0, .slice none 0 0]⟩ := ⟨⟨_, Tryz.underlying125, rfl⟩, by kernel_rfl, rfl⟩
theorem ti54 : TIOk Tryz.prog 54 ⟨.slice 125, 1, 24, .slice none 0 0⟩ := ⟨Tryz.underlying54, by kernel_rfl, rfl⟩
theorem ti85 : TIOk Tryz.prog 85 ⟨.int .u64, 1, 8, .int .u64 0⟩ := ⟨Tryz.underlying85, by kernel_rfl, rfl⟩
theorem ti92 : TIOk Tryz.prog 92 ⟨.slice 96, 1, 24, .slice none 0 0⟩ := ⟨Tryz.underlying92, by kernel_rfl, rfl⟩
theorem ti59 : TIOk Tryz.prog 59 ⟨.slice 120, 1, 24, .slice none 0 0⟩ := ⟨Tryz.underlying59, by kernel_rfl, rfl⟩
theorem ti86 : TIOk Tryz.prog 86 ⟨.ptr 95, 1, 8, .pointer none⟩ := ⟨Tryz.underlying86, by kernel_rfl, rfl⟩
theorem ti75 : TIOk Tryz.prog 75 ⟨.slice 4, 1, 24, .slice none 0 0⟩ := ⟨Tryz.underlying75, by kernel_rfl, rfl⟩
theorem ti91 : TIOk Tryz.prog 91 ⟨.map 185 28, 1, 8, .map none⟩ := ⟨Tryz.underlying91, by kernel_rfl, rfl⟩
theorem ti96 : TIOk Tryz.prog 96 ⟨.ptr 99, 1, 8, .pointer none⟩ := ⟨Tryz.underlying96, by kernel_rfl, rfl⟩
theorem ti179 : TIOk Tryz.prog 179 ⟨.struct [(0, 4), (1, 3), (2, 3)], 3, 24, .agg #[.bool false, .int .i64 0, .int .i64 0]⟩ := ⟨⟨_, Tryz.underlying179, rfl⟩, by kernel_rfl, rfl⟩
theorem ti73 : TIOk Tryz.prog 73 ⟨.slice 28, 1, 24, .slice none 0 0⟩ := ⟨Tryz.underlying73, by kernel_rfl, rfl⟩
theorem ti87 : TIOk Tryz.prog 87 ⟨.func, 1, 8, .nilFunc⟩ := ⟨⟨_, _, _, Tryz.underlying87⟩, by kernel_rfl, rfl⟩
theorem ti219 : TIOk Tryz.prog 219 ⟨.int .i64, 1, 8, .int .i64 0⟩ := ⟨Tryz.underlying219, by kernel_rfl, rfl⟩
theorem ti142 : TIOk Tryz.prog 142 ⟨.map 96 139, 1, 8, .map none⟩ := ⟨Tryz.underlying142, by kernel_rfl, rfl⟩
theorem ti63 : TIOk Tryz.prog 63 ⟨.arr 3 24, 3, 6, .agg #[.int .u16 0, .int .u16 0, .int .u16 0]⟩ := ⟨Tryz.underlying63, by kernel_rfl, rfl⟩
theorem ti81 : TIOk Tryz.prog 81 ⟨.slice 65, 1, 24, .slice none 0 0⟩ := ⟨Tryz.underlying81, by kernel_rfl, rfl⟩
theorem ti166 : TIOk Tryz.prog 166 ⟨.func, 1, 8, .nilFunc⟩ := ⟨⟨_, _, _, Tryz.underlying166⟩, by kernel_rfl, rfl⟩
theorem tok : TOk Tryz.prog T := ⟨ti3, ti28, ti146, ti37, ti49, ti4, ti143, ti33, ti46, ti154, ti30, ti22, ti53, ti47, ti113, ti34, ti95, ti31, ti139, ti123, ti5, ti110, ti24, ti39, ti163, ti105, ti161, ti111, ti42, ti116, ti56, ti88, ti121, ti93, ti120, ti238, ti103, ti64, ti152, ti159, ti185, ti9, ti114, ti226, ti65, ti89, ti99, ti90, ti97, ti173, ti198, ti125, ti54, ti85, ti92, ti59, ti86, ti75, ti91, ti96, ti179, ti73, ti87, ti219, ti142, ti63, ti81, ti166, trivial⟩
theorem mx : Tryz.prog.follows .mixedOrders = true := by kernel_rfl
end Go.Af.Tryz
namespace Go.Af.Tryz
open Go Go.Proofs
attribute [local irreducible] awp ACall ACallX AYield AInvoke newSlice isCells rdCells wrCells aAppend rangeEnd roundBegin roundEnd

/-- A row of bytes. -/
def bys (l : List Nat) : List Value := l.map (fun x : Nat => Value.int IntKind.u8 (x : Int))
@[simp] theorem bys_length (l : List Nat) : (bys l).length = l.length := by simp [bys]
theorem bys_get (l : List Nat) (i : Nat) : (bys l)[i]? = (l[i]?).map (fun x : Nat => Value.int .u8 (x : Int)) := by simp [bys]
theorem bys_append (a b : List Nat) : bys (a ++ b) = bys a ++ bys b := by simp [bys]
theorem bys_take (l : List Nat) (n : Nat) : (bys l).take n = bys (l.take n) := by simp [bys, List.map_take]
theorem bys_one (l : List Nat) : (bys l).all oneCellV = true := by simp [bys, oneCellV]
theorem Ld_bys {l : List Nat} {o : Nat} {K : Value → Prop} (k : Nat) (x : Nat) (ho : o = k) (hk : l[k]? = some x) (h : K (.int .u8 (x : Int))) : Ld (bys l) o K := ⟨_, by rw [ho, bys_get, hk]; rfl, h⟩
def Bytes (l : List Nat) : Prop := ∀ x ∈ l, x < 256

/-! ### Plainly -/
def stepN (r : Nat) : Nat := if 32768 ≤ r then (2 * r % 65536) ^^^ 4129 else 2 * r
def stepsN : Nat → Nat → Nat
  | 0, r => r
  | n + 1, r => stepN (stepsN n r)
def byteN (r c : Nat) : Nat := stepsN 8 (r ^^^ (c * 256))
def sumN (l : List Nat) : Nat := l.foldl byteN 65535
theorem xor16_lt {a b : Nat} (ha : a < 65536) (hb : b < 65536) : a ^^^ b < 65536 := Nat.xor_lt_two_pow (n := 16) ha hb
theorem stepN_lt {r : Nat} (h : r < 65536) : stepN r < 65536 := by
  unfold stepN
  split
  · exact xor16_lt (Nat.mod_lt _ (by decide)) (by decide)
  · omega
theorem stepsN_lt {r : Nat} (h : r < 65536) : ∀ n, stepsN n r < 65536
  | 0 => h
  | n + 1 => stepN_lt (stepsN_lt h n)
theorem byteN_lt {r c : Nat} (h : r < 65536) (hc : c < 256) : byteN r c < 65536 := stepsN_lt (xor16_lt h (by omega)) 8
theorem fold_lt : ∀ {l : List Nat} (_ : Bytes l) {r : Nat}, r < 65536 → l.foldl byteN r < 65536
  | [], _, r, h => h
  | x :: l, hl, r, h => by
    rw [List.foldl_cons]
    exact fold_lt (fun y hy => hl y (List.mem_cons_of_mem _ hy)) (r := byteN r x) (byteN_lt h (hl x List.mem_cons_self))
theorem sumN_lt {l : List Nat} (hl : Bytes l) : sumN l < 65536 := fold_lt hl (by decide)
theorem sumN_snoc (l : List Nat) (x : Nat) : sumN (l ++ [x]) = byteN (sumN l) x := by simp [sumN]
theorem Bytes.take {l : List Nat} (h : Bytes l) (n : Nat) : Bytes (l.take n) := fun x hx => h x (List.mem_of_mem_take hx)
theorem Bytes.append {a b : List Nat} (h : Bytes a) (k : Bytes b) : Bytes (a ++ b) := fun x hx => (List.mem_append.1 hx).elim (h x) (k x)
theorem takeS {l : List Nat} {i : Nat} (hi : i < l.length) : l.take (i + 1) = l.take i ++ [l[i]] := List.take_succ_eq_append_getElem hi

/-! ### Numbers of 16 bits -/
theorem wrap16 (z : Int) : IntKind.u16.wrap z = z % 65536 := by
  show (if (false && decide (z % (2 ^ 16 : Int) ≥ 2 ^ 15)) = true then z % (2 ^ 16 : Int) - 2 ^ 16 else z % (2 ^ 16 : Int)) = z % 65536
  rw [Bool.false_and, if_neg (by decide)]
  rfl
theorem wrap8 (z : Int) : IntKind.u8.wrap z = z % 256 := by
  show (if (false && decide (z % (2 ^ 8 : Int) ≥ 2 ^ 7)) = true then z % (2 ^ 8 : Int) - 2 ^ 8 else z % (2 ^ 8 : Int)) = z % 256
  rw [Bool.false_and, if_neg (by decide)]
  rfl
theorem w16 {n : Nat} (h : n < 65536) : IntKind.u16.wrap (n : Int) = (n : Int) := by rw [wrap16]; omega
theorem shl1 (r : Nat) : IntKind.u16.wrap ((r : Int) * 2 ^ (min (1 : Int).toNat IntKind.u16.bits)) = ((2 * r % 65536 : Nat) : Int) := by
  rw [wrap16]
  show (r : Int) * 2 % 65536 = _
  omega
theorem shl8 {c : Nat} (hc : c < 256) : IntKind.u16.wrap ((c : Int) * 2 ^ (min (8 : Int).toNat IntKind.u16.bits)) = ((c * 256 : Nat) : Int) := by
  rw [wrap16]
  show (c : Int) * 256 % 65536 = _
  omega
theorem bv16 {a : Nat} (h : a < 65536) : (BitVec.ofInt IntKind.u16.bits (a : Int)).toNat = a := by
  show (BitVec.ofInt 16 (a : Int)).toNat = a
  rw [BitVec.toNat_ofInt]; omega
theorem xor16 {a b : Nat} (ha : a < 65536) (hb : b < 65536) : IntKind.u16.wrap ((BitVec.ofInt IntKind.u16.bits (a : Int) ^^^ BitVec.ofInt IntKind.u16.bits (b : Int)).toNat : Int) = ((a ^^^ b : Nat) : Int) := by
  rw [BitVec.toNat_xor, bv16 ha, bv16 hb]
  exact w16 (xor16_lt ha hb)

/-! ### The program -/
theorem c32 {H : List Blk} {R : Value → List Blk → Prop} {r : Nat} (hr : r < 65536) (h : R (.int .u16 (stepN r : Nat)) H) : ACall Tryz.prog 32 [.int .u16 (r : Int)] H R := by
  refine acall_vcg tok Tryz.call32 Tryz.func32 rfl Tryz.ntmps32 rfl (by simp) ?_
  refine And.intro (fun hc => ?_) (fun hc => ?_)
  · have hc : 32768 ≤ r := by simp at hc; omega
    refine ⟨by decide, ?_⟩
    refine ⟨(stepN r : Nat), ?_, h⟩
    rw [shl1]
    refine (xor16 (b := 4129) (Nat.mod_lt _ (by decide)) (by decide)).trans ?_
    rw [stepN, if_pos hc]
  · have hc : ¬ 32768 ≤ r := by simp at hc; omega
    refine ⟨by decide, ?_⟩
    show R (.int .u16 (IntKind.u16.wrap _)) H
    rw [shl1, Nat.mod_eq_of_lt (by omega)]
    rw [stepN, if_neg hc] at h
    exact h
abbrev stepV : Value := .func (.func 32) ⟨[]⟩ ⟨[]⟩
theorem g12 {H : List Blk} {R : Value → List Blk → Prop} {k c : Nat} {wr : Bool} {ys l : List Nat} (hk : bget H k = some (.cells wr 1 (bys ys))) (hys : ys.take l.length = l) (hl : l.length ≤ 1000000000) (hb : Bytes l)
    (h : R (.int .u16 (sumN l : Nat)) H) : ACall Tryz.prog 12 [.slice (some ⟨k, 0, none⟩) l.length c] H R := by
  have yg : ∀ {i : Nat} (hi : i < l.length), ys[i]? = some l[i] := fun {i} hi => by
    have h1 : (ys.take l.length)[i]? = some l[i] := by rw [hys]; simp [hi]
    rwa [List.getElem?_take_of_lt hi] at h1
  refine acall_vcg tok Tryz.call12 Tryz.func12 rfl Tryz.ntmps12 rfl (by simp) ?_
  refine vcg_loopR (α := Nat) tok (fun i => i ≤ l.length)
    (fun i => [(3, stepV), (4, .int .u16 (sumN (l.take i) : Nat)), (7, .slice (some ⟨k, 0, none⟩) l.length c), (8, .int .i64 (l.length : Int)), (9, .int .i64 (i : Int))]) (fun _ => H) (fun i => l.length - i) 0 (Nat.zero_le _) (Or.inl ⟨⟨rfl, rfl, rfl, rfl, rfl, trivial⟩, rfl⟩) ?_
  rintro i hi
  refine And.intro (fun hc => ?_) (fun hc => ?_)
  · have hlt : i < l.length := by simp at hc; omega
    have hx : l[i] < 256 := hb _ (List.getElem_mem hlt)
    have hs := sumN_lt (hb.take i)
    refine vops_gen (fun K0 hK0 => ?_)
    refine isCells_of hk ⟨i, rfl, hlt, ?_⟩
    refine rdCells_of hk (Ld_bys i l[i] (by simp) (yg hlt) ?_)
    refine hK0 _ _ ?_
    clear hK0 K0
    refine vops_gen (fun K0 hK0 => ?_)
    refine ⟨by decide, ?_⟩
    refine ⟨(sumN (l.take i) ^^^ (l[i] * 256) : Nat), ?_, ?_⟩
    · rw [w16 (by omega : l[i] < 65536), shl8 hx]
      exact xor16 hs (by omega)
    refine hK0 _ _ ?_
    clear hK0 K0
    refine vcg_loopR (α := Nat) tok (fun j => j ≤ 8)
      (fun j => [(3, stepV), (4, .int .u16 (stepsN j (sumN (l.take i) ^^^ (l[i] * 256)) : Nat)), (7, .slice (some ⟨k, 0, none⟩) l.length c), (8, .int .i64 (l.length : Int)), (9, .int .i64 (i : Int)), (18, .int .i64 (j : Int))]) (fun _ => H) (fun j => 8 - j) 0 (Nat.zero_le _) (Or.inl ⟨⟨rfl, rfl, rfl, rfl, rfl, rfl, trivial⟩, rfl⟩) ?_
    rintro j hj
    refine And.intro (fun hc => ?_) (fun hc => ?_)
    · have hlt : j < 8 := by simp at hc; omega
      refine vops_gen (fun K0 hK0 => ?_)
      refine c32 (stepsN_lt (xor16_lt hs (by omega)) j) ?_
      refine hK0 _ _ ?_
      clear hK0 K0
      refine Or.inl ⟨((j + 1 : Nat) : Int), by simp, by unfold I64; omega, ?_⟩
      exact ⟨j + 1, by omega, by omega, Or.inl ⟨⟨rfl, rfl, rfl, rfl, rfl, rfl, trivial⟩, rfl⟩⟩
    · have : j = 8 := by simp at hc; omega
      subst this
      refine Or.inl ⟨((i + 1 : Nat) : Int), by simp, by unfold I64; omega, ?_⟩
      exact ⟨i + 1, hlt, by omega, Or.inl ⟨⟨rfl, by rw [takeS hlt, sumN_snoc]; rfl, rfl, rfl, rfl, trivial⟩, rfl⟩⟩
  · have : i = l.length := by simp at hc; omega
    subst this
    rw [List.take_length]
    exact h
end Go.Af.Tryz
namespace Go.Af.Tryz
open Go Go.Proofs

section
variable {H0 H : List Blk} {o : Nat → Prop} {L : List (Bool × Nat × Blk)}
/-- Elements are appended to a row that has no room. -/
theorem appN_hs (h : HS H0 o L H) (i : Nat) {size bytes b n j o2 m c2 z : Nat} {wr : Bool} {xs ys us : List Value} {K : Value → List Blk → Prop} (hi : L[i]? = some (true, b, .cells true size xs)) (hsz : 0 < size) (hj : bget H j = some (.cells wr z ys)) (hys : (ys.drop o2).take (m * size) = us) (hm : 0 < m) (hml : o2 + m * size ≤ ys.length) (hone : us.all oneCellV = true)
    (hxl : xs.length = n * size) (hby : (n + m) * (bytes + 1) ≤ 70368744177664)
    (k : ∀ (H' : List Blk) (b' : Nat), b' = H.length → H'.length = b' + 1 → HS H0 o (L.set i (true, b', .cells true size (xs ++ us))) H' → K (.slice (some ⟨b', 0, none⟩) (n + m) (n + m)) H') :
    aAppend H size bytes (.slice (some ⟨b, 0, none⟩) n n) (.slice (some ⟨j, o2, none⟩) m c2) K := by
  refine ⟨hsz, ?_⟩
  simp only [appSrc, hj]
  refine ⟨.inr (by omega), us, hys, hone, ?_⟩
  refine .inr ⟨hm, ?_⟩
  have hb := h.get i hi
  have hbl := bget_lt hb
  simp only [hb]
  refine ⟨trivial, .inr ⟨by omega, hby, .inr (by omega), _, rfl, ?_⟩⟩
  have e : List.take (n * size) (List.drop 0 xs) ++ us = xs ++ us := by rw [List.drop_zero, List.take_of_length_le (by omega)]
  rw [e]
  refine set_of hbl fun H1 h1 h2 h3 => newS_of fun H' k1 k2 k3 => ?_
  rw [h1] at k1 k2 k3 ⊢
  refine k H' H.length rfl k1 ?_
  have hd := h.set (B' := .dead) i hi h1 h2 h3
  have hn := hd.new (B := .cells true size (xs ++ us)) (by rw [k1, h1]) (by rw [h1]; exact k2) (by rw [h1]; exact k3)
  rw [h1] at hn
  have hlt : i < L.length := (List.getElem?_eq_some_iff.1 hi).1
  refine ⟨fun {p c d D} hp => ?_, fun {p q x y} hp hq he => ?_, hn.u⟩
  · by_cases hip : i = p
    · subst hip
      rw [List.getElem?_set_self hlt] at hp
      simp at hp
      obtain ⟨rfl, rfl, rfl⟩ := hp
      exact ⟨k2, fun _ => .inr h.le⟩
    · rw [List.getElem?_set_ne hip] at hp
      exact hn.g (i := p + 1) (by simp [List.getElem?_set_ne hip, hp])
  · have old : ∀ {p : Nat} {x : Bool × Nat × Blk}, p ≠ i → (L.set i (true, H.length, .cells true size (xs ++ us)))[p]? = some x → L[p]? = some x := fun {p x} hpi hp => by
      rw [List.getElem?_set_ne (fun e => hpi e.symm)] at hp; exact hp
    have self : ∀ {x : Bool × Nat × Blk}, (L.set i (true, H.length, .cells true size (xs ++ us)))[i]? = some x → x.2.1 = H.length := fun {x} hp => by
      rw [List.getElem?_set_self hlt] at hp; cases hp; rfl
    have low : ∀ {p : Nat} {x : Bool × Nat × Blk}, L[p]? = some x → x.2.1 < H.length := fun {p x} hp => by
      obtain ⟨c, b', B'⟩ := x
      exact bget_lt (h.g hp).1
    by_cases hpi : p = i
    · by_cases hqi : q = i
      · rw [hpi, hqi]
      · subst hpi
        have := low (old hqi hq)
        rw [← he, self hp] at this
        omega
    · by_cases hqi : q = i
      · subst hqi
        have := low (old hpi hp)
        rw [he, self hq] at this
        omega
      · exact h.nd (old hpi hp) (old hqi hq) he
end

/-- Nothing is appended. -/
theorem app_zero {H : List Blk} {size bytes b n k o c z : Nat} {wr : Bool} {vs : List Value} {K : Value → List Blk → Prop} (hsz : 0 < size) (hk : bget H k = some (.cells wr z vs)) (h : K (.slice (some ⟨b, 0, none⟩) n n) H) :
    aAppend H size bytes (.slice (some ⟨b, 0, none⟩) n n) (.slice (some ⟨k, o, none⟩) 0 c) K := by
  refine ⟨hsz, ?_⟩
  simp only [appSrc, hk]
  refine ⟨.inl trivial, [], by simp, ⟨rfl, .inl ⟨trivial, Nat.le_refl _, h⟩⟩⟩
/-- A row that has room is not nil. -/
theorem nil_no {H : List Blk} {X : Bool → Prop} {xo yo : Operand} {k n c z : Nat} {wr : Bool} {vs : List Value} (hk : bget H k = some (.cells wr z vs)) (h : X false) : aeq Tryz.prog T H 22 xo yo (.slice (some ⟨k, 0, none⟩) n (c + 1)) (.slice none 0 0) X := by
  cases n with
  | zero => show (match bget H k with | some (.cells _ _ _) => X false | _ => False); rw [hk]; exact h
  | succ n => show (match bget H k with | some (.cells _ _ _) => X false | _ => False); rw [hk]; exact h
attribute [local irreducible] awp ACall ACallX AYield AInvoke newSlice isCells rdCells wrCells aAppend rangeEnd roundBegin roundEnd
abbrev none' : Nat → Prop := fun _ => False
/-! ### Frames -/
def frameN (l : List Nat) : List Nat := l ++ [sumN l / 256, sumN l % 256]
def rightN (l : List Nat) : Bool := decide (2 ≤ l.length) && decide (frameN (l.take (l.length - 2)) = l)
theorem frameN_bytes {l : List Nat} (h : Bytes l) : Bytes (frameN l) := h.append (fun x hx => by
  have := sumN_lt h
  simp at hx
  rcases hx with rfl | rfl <;> omega)
@[simp] theorem frameN_length (l : List Nat) : (frameN l).length = l.length + 2 := by simp [frameN]

attribute [local irreducible] aeq in
theorem g54 {H : List Blk} {R : Value → List Blk → Prop} {k n c : Nat} {wr : Bool} {ys l : List Nat} (hn : n = l.length) (hk : bget H k = some (.cells wr 1 (bys ys))) (hys : ys.take n = l) (hl : n ≤ 1000000000)
    (h : ∀ H' b, HS H none' [(true, b, .cells true 1 (bys l))] H' → R (.slice (some ⟨b, 0, none⟩) n n) H') : ACall Tryz.prog 54 [.slice (some ⟨k, 0, none⟩) n (c + 1)] H R := by
  have hly : n ≤ ys.length := by
    have := congrArg List.length hys
    rw [List.length_take] at this; omega
  refine acall_vcg tok Tryz.call54 Tryz.func54 rfl Tryz.ntmps54 rfl (by simp) ?_
  refine vops_gen (fun K0 hK0 => hK0 _ _ ?_)
  refine vops_gen (fun K0 hK0 => ?_)
  refine nil_no hk ?_
  refine hK0 _ _ ?_
  clear hK0 K0
  refine And.intro (fun h => absurd h (by decide)) (fun _ => ?_)
  refine vops_gen (fun K0 hK0 => ?_)
  refine And.intro (by decide) ?_
  refine newS_hs (HS.start H none') (fun H1 b e1 l1 hs1 => ?_)
  have hk1 : bget H1 k = some (.cells wr 1 (bys ys)) := (hs1.u.2 k (bget_lt hk) (fun h => h)).trans hk
  cases n with
  | zero =>
    have hl0 : l = [] := List.length_eq_zero_iff.1 hn.symm
    subst hl0
    refine And.intro rfl ?_
    refine app_zero (by decide) hk1 ?_
    refine hK0 _ _ ?_
    exact h H1 b hs1
  | succ n =>
    refine And.intro rfl ?_
    refine appN_hs hs1 0 (n := 0) (us := bys l) rfl (by decide) hk1 ?_ (Nat.succ_pos _) ?_ (bys_one l) rfl ?_ (fun H2 b2 e2 l2 hs2 => ?_)
    · rw [List.drop_zero, Nat.mul_one, bys_take, hys]
    · simp; omega
    · show (0 + (n + 1)) * (1 + 1) ≤ 70368744177664
      omega
    · refine hK0 _ _ ?_
      have h2 := h H2 b2 hs2
      rw [Nat.zero_add] 
      exact h2

theorem shr8 (s : Nat) : (s : Int).fdiv (2 ^ (min (8 : Int).toNat IntKind.u16.bits)) = ((s / 256 : Nat) : Int) := by
  show (s : Int).fdiv 256 = _
  rw [Int.fdiv_eq_ediv_of_nonneg _ (by decide)]
  omega
theorem cv8 {n : Nat} : IntKind.u8.wrap (n : Int) = ((n % 256 : Nat) : Int) := by rw [wrap8]; omega
theorem g34 {H : List Blk} {R : Value → List Blk → Prop} {k n c : Nat} {wr : Bool} {ys l : List Nat} (hn : n = l.length) (hk : bget H k = some (.cells wr 1 (bys ys))) (hys : ys.take n = l) (hl : n ≤ 100000000) (hb : Bytes l)
    (h : ∀ H' b, HS H none' [(true, b, .cells true 1 (bys (frameN l)))] H' → R (.slice (some ⟨b, 0, none⟩) (n + 2) (n + 2)) H') : ACall Tryz.prog 34 [.slice (some ⟨k, 0, none⟩) n (c + 1)] H R := by
  have hs := sumN_lt hb
  refine acall_vcg tok Tryz.call34 Tryz.func34 rfl Tryz.ntmps34 rfl (by simp) ?_
  refine vops_gen (fun K0 hK0 => hK0 _ _ ?_)
  refine vops_gen (fun K0 hK0 => ?_)
  subst hn
  refine g12 hk hys (by omega) hb ?_
  refine hK0 _ _ ?_
  clear hK0 K0
  refine vops_gen (fun K0 hK0 => ?_)
  refine g54 rfl hk hys (by omega) (fun H1 b hs1 => ?_)
  refine ⟨by decide, ((sumN l / 256 : Nat) : Int), shr8 _, ?_⟩
  refine And.intro (by decide) ?_
  refine newS_hs hs1 (fun H2 j e2 l2 hs2 => ?_)
  refine And.intro rfl ?_
  refine appN_hs hs2 1 (n := l.length) (o2 := 0) (m := 2) (us := bys [sumN l / 256, sumN l % 256]) rfl (by decide) (hs2.get 0 rfl) ?_ (by decide) ?_ (bys_one _) ?_ ?_ (fun H3 b3 e3 l3 hs3 => ?_)
  · show [Value.int .u8 (IntKind.u8.wrap ((sumN l / 256 : Nat) : Int)), Value.int .u8 (IntKind.u8.wrap ((sumN l : Nat) : Int))] = _
    rw [cv8, cv8, Nat.mod_eq_of_lt (by omega : sumN l / 256 < 256)]
    rfl
  · show 0 + 2 * 1 ≤ 2; decide
  · simp
  · show (l.length + 2) * (1 + 1) ≤ 70368744177664
    omega
  refine hK0 _ _ ?_
  have h3 : HS H none' [(true, b3, .cells true 1 (bys (frameN l)))] H3 := by
    have h4 := hs3.pick [1] (by decide) (L' := [(true, b3, .cells true 1 (bys l ++ bys [sumN l / 256, sumN l % 256]))]) rfl
    rwa [← bys_append] at h4
  exact h H3 b3 h3

theorem g33 {H : List Blk} {R : Value → List Blk → Prop} {k1 k2 n1 n2 c1 c2 : Nat} {w1 w2 : Bool} {y1 y2 l1 l2 : List Nat} (e1 : n1 = l1.length) (e2 : n2 = l2.length) (h1 : bget H k1 = some (.cells w1 1 (bys y1))) (hy1 : y1.take n1 = l1) (h2 : bget H k2 = some (.cells w2 1 (bys y2))) (hy2 : y2.take n2 = l2) (hl : n1 ≤ 1000000000)
    (h : R (.bool (decide (l1 = l2))) H) : ACall Tryz.prog 33 [.slice (some ⟨k1, 0, none⟩) n1 c1, .slice (some ⟨k2, 0, none⟩) n2 c2] H R := by
  subst e1; subst e2
  have yg1 : ∀ {i : Nat} (hi : i < l1.length), y1[i]? = some l1[i] := fun {i} hi => by
    have h1 : (y1.take l1.length)[i]? = some l1[i] := by rw [hy1]; simp [hi]
    rwa [List.getElem?_take_of_lt hi] at h1
  have yg2 : ∀ {i : Nat} (hi : i < l2.length), y2[i]? = some l2[i] := fun {i} hi => by
    have h1 : (y2.take l2.length)[i]? = some l2[i] := by rw [hy2]; simp [hi]
    rwa [List.getElem?_take_of_lt hi] at h1
  refine acall_vcg tok Tryz.call33 Tryz.func33 rfl Tryz.ntmps33 rfl (by simp) ?_
  refine vops_gen (fun K0 hK0 => hK0 _ _ ?_)
  refine And.intro (fun hc => ?_) (fun hc => ?_)
  · have hne : l1.length ≠ l2.length := by simp at hc; omega
    have e : decide (l1 = l2) = false := decide_eq_false (fun e => hne (by rw [e]))
    rw [e] at h
    exact h
  · have hlen : l1.length = l2.length := by simp at hc; omega
    refine vcg_loopR (α := Nat) tok (fun i => i ≤ l1.length ∧ l1.take i = l2.take i)
      (fun i => [(0, .slice (some ⟨k1, 0, none⟩) l1.length c1), (1, .slice (some ⟨k2, 0, none⟩) l2.length c2), (12, .int .i64 (l1.length : Int)), (13, .int .i64 (i : Int))]) (fun _ => H) (fun i => l1.length - i) 0 ⟨Nat.zero_le _, rfl⟩ (Or.inl ⟨⟨rfl, rfl, rfl, rfl, trivial⟩, rfl⟩) ?_
    rintro i ⟨hi, hp⟩
    refine And.intro (fun hc => ?_) (fun hc => ?_)
    · have hlt : i < l1.length := by simp at hc; omega
      have hlt2 : i < l2.length := by omega
      refine vops_gen (fun K0 hK0 => hK0 _ _ ?_)
      refine vcg_draw tok mx [0, 0, 3, 7, 0, 0, 48, 112, 255] [false, false, false, false, true, true, true, true, false] [0, 1, 2, 3, 4, 5, 6, 7, 8] (by kernel_rfl) ?_
      refine vopsO_gen (fun K0 hK0 => ?_)
      refine isCells_of h1 ⟨i, rfl, hlt, ?_⟩
      refine rdCells_of h1 (Ld_bys i l1[i] (by simp) (yg1 hlt) ?_)
      refine isCells_of h2 ⟨i, rfl, hlt2, ?_⟩
      refine rdCells_of h2 (Ld_bys i l2[i] (by simp) (yg2 hlt2) ?_)
      refine hK0 _ _ ?_
      clear hK0 K0
      refine And.intro (fun hc => ?_) (fun hc => ?_)
      · have hne : l1[i] ≠ l2[i] := by simp at hc; omega
        have e : decide (l1 = l2) = false := decide_eq_false (fun e => hne (by subst e; rfl))
        rw [e] at h
        exact h
      · have he : l1[i] = l2[i] := by simp at hc; omega
        refine Or.inl ⟨((i + 1 : Nat) : Int), by simp, by unfold I64; omega, ?_⟩
        exact ⟨i + 1, ⟨hlt, by rw [takeS hlt, takeS hlt2, hp, he]⟩, by omega, Or.inl ⟨⟨rfl, rfl, rfl, rfl, trivial⟩, rfl⟩⟩
    · have : i = l1.length := by simp at hc; omega
      subst this
      have e : l1 = l2 := by rw [List.take_length, hlen, List.take_length] at hp; exact hp
      rw [decide_eq_true e] at h
      exact h

theorem rightN_short {l : List Nat} (h : l.length < 2) : rightN l = false := by simp [rightN]; omega
theorem rightN_long {l : List Nat} (h : 2 ≤ l.length) : rightN l = decide (frameN (l.take (l.length - 2)) = l) := by simp [rightN, h]
theorem g14 {H : List Blk} {R : Value → List Blk → Prop} {k n c : Nat} {wr : Bool} {ys l : List Nat} (hn : n = l.length) (hc : n ≤ c) (hk : bget H k = some (.cells wr 1 (bys ys))) (hys : ys.take n = l) (hl : n ≤ 100000000) (hb : Bytes l)
    (h : ∀ H', HS H none' [] H' → R (.bool (rightN l)) H') : ACall Tryz.prog 14 [.slice (some ⟨k, 0, none⟩) n c] H R := by
  refine acall_vcg tok Tryz.call14 Tryz.func14 rfl Tryz.ntmps14 rfl (by simp) ?_
  refine vops_gen (fun K0 hK0 => hK0 _ _ ?_)
  refine Or.inl ⟨(n : Int) - 2, rfl, by unfold I64; omega, ?_⟩
  rcases Nat.lt_or_ge n 2 with h2 | h2
  · have e : decide ((0 : Int) ≤ (n : Int) - 2) = false := decide_eq_false (by omega)
    rw [rightN_short (by omega)] at h
    have h := h H (HS.start H none')
    refine vops_gen (fun K0 hK0 => hK0 _ _ ?_)
    refine vops_gen (fun K0 hK0 => ?_)
    refine And.intro (fun h => absurd (e.symm.trans h) (by decide)) (fun _ => ?_)
    refine And.intro (fun h => absurd h (by decide)) (fun _ => ?_)
    refine And.intro (fun h => absurd h (by decide)) (fun _ => ?_)
    refine And.intro (fun h => absurd h (by decide)) (fun _ => ?_)
    refine And.intro (fun h => absurd h (by decide)) (fun _ => ?_)
    refine And.intro (fun h => absurd h (by decide)) (fun _ => ?_)
    refine hK0 _ _ ?_
    exact h
  · have e : decide ((0 : Int) ≤ (n : Int) - 2) = true := decide_eq_true (by omega)
    obtain ⟨c, rfl⟩ : ∃ c', c = c' + 1 := ⟨c - 1, by omega⟩
    have hly : n ≤ ys.length := by
      have := congrArg List.length hys
      rw [List.length_take] at this; omega
    have hys2 : ys.take (n - 2) = l.take (n - 2) := by rw [← hys, List.take_take, Nat.min_eq_left (by omega)]
    refine vops_gen (fun K0 hK0 => hK0 _ _ ?_)
    refine vops_gen (fun K0 hK0 => ?_)
    refine And.intro (fun _ => ?_) (fun h => absurd (e.symm.trans h) (by decide))
    refine And.intro (fun _ => ?_) (fun h => absurd h (by decide))
    refine And.intro (fun _ => ?_) (fun h => absurd h (by decide))
    refine rdCells_of hk ?_
    refine ⟨rfl, n - 2, by omega, ⟨Nat.zero_le _, by omega⟩, ?_⟩
    refine And.intro (fun _ => ?_) (fun h => absurd h (by decide))
    refine (?_ : ACall Tryz.prog 34 [.slice (some ⟨k, 0, none⟩) (n - 2) (c + 1)] _ _)
    refine g34 (l := l.take (n - 2)) (by rw [List.length_take]; omega) hk hys2 (by omega) (hb.take _) (fun H1 b hs1 => ?_)
    have hk1 : bget H1 k = some (.cells wr 1 (bys ys)) := (hs1.u.2 k (bget_lt hk) (fun h => h)).trans hk
    refine And.intro (fun _ => ?_) (fun h => absurd h (by decide))
    refine And.intro (fun _ => ?_) (fun h => absurd h (by decide))
    refine g33 (n1 := n - 2 + 2) (n2 := n) (l1 := frameN (l.take (n - 2))) (l2 := l) (by rw [frameN_length, List.length_take]; omega) hn (hs1.get 0 rfl) ?_ hk1 hys (by omega) ?_
    · rw [List.take_of_length_le]; rw [frameN_length, List.length_take]; omega
    refine hK0 _ _ ?_
    have h := h H1 (hs1.pick [] (by decide) rfl)
    rw [rightN_long (by omega), ← hn] at h
    exact h
end Go.Af.Tryz
namespace Go.Af.Tryz
open Go Go.Proofs
attribute [local irreducible] awp ACall ACallX AYield AInvoke newSlice isCells rdCells wrCells aAppend rangeEnd roundBegin roundEnd

theorem wrap64 {z : Int} (h : I64 z) : IntKind.i64.wrap z = z := wrap_i64 h
theorem bv64 {a : Nat} (h : a < 65536) : (BitVec.ofInt IntKind.i64.bits (a : Int)).toNat = a := by
  show (BitVec.ofInt 64 (a : Int)).toNat = a
  rw [BitVec.toNat_ofInt]; omega
theorem xor64 {a b : Nat} (ha : a < 65536) (hb : b < 65536) : IntKind.i64.wrap ((BitVec.ofInt IntKind.i64.bits (a : Int) ^^^ BitVec.ofInt IntKind.i64.bits (b : Int)).toNat : Int) = ((a ^^^ b : Nat) : Int) := by
  rw [BitVec.toNat_xor, bv64 ha, bv64 hb]
  have := xor16_lt ha hb
  exact wrap64 (by unfold I64; omega)
theorem stepN_hi {r : Nat} (h : 32768 ≤ r) : stepN r = (2 * r % 65536) ^^^ 4129 := by rw [stepN, if_pos h]
theorem stepN_lo {r : Nat} (h : ¬ 32768 ≤ r) : stepN r = 2 * r % 65536 := by rw [stepN, if_neg h]; omega

theorem g13 {H : List Blk} {R : Value → List Blk → Prop} {k c : Nat} {wr : Bool} {ys l : List Nat} (hk : bget H k = some (.cells wr 1 (bys ys))) (hys : ys.take l.length = l) (hl : l.length ≤ 1000000000) (hb : Bytes l)
    (h : R (.int .u16 (sumN l : Nat)) H) : ACall Tryz.prog 13 [.slice (some ⟨k, 0, none⟩) l.length c] H R := by
  have yg : ∀ {i : Nat} (hi : i < l.length), ys[i]? = some l[i] := fun {i} hi => by
    have h1 : (ys.take l.length)[i]? = some l[i] := by rw [hys]; simp [hi]
    rwa [List.getElem?_take_of_lt hi] at h1
  refine acall_vcg tok Tryz.call13 Tryz.func13 rfl Tryz.ntmps13 rfl (by simp) ?_
  refine vcg_loopR (α := Nat) tok (fun i => i ≤ l.length)
    (fun i => [(0, .slice (some ⟨k, 0, none⟩) l.length c), (3, .int .i64 (sumN (l.take i) : Nat)), (4, .int .i64 (i : Int))]) (fun _ => H) (fun i => l.length - i) 0 (Nat.zero_le _) (Or.inl ⟨⟨rfl, rfl, rfl, trivial⟩, rfl⟩) ?_
  rintro i hi
  refine And.intro (fun hc => ?_) (fun hc => ?_)
  · have hlt : i < l.length := by simp at hc; omega
    have hx : l[i] < 256 := hb _ (List.getElem_mem hlt)
    have hs := sumN_lt (hb.take i)
    refine vops_gen (fun K0 hK0 => ?_)
    refine isCells_of hk ⟨i, rfl, hlt, ?_⟩
    refine rdCells_of hk (Ld_bys i l[i] (by simp) (yg hlt) ?_)
    refine Or.inl ⟨(l[i] : Int), rfl, by unfold I64; omega, ?_⟩
    refine Or.inl ⟨((l[i] * 256 : Nat) : Int), by simp, by unfold I64; omega, ?_⟩
    refine ⟨((sumN (l.take i) ^^^ (l[i] * 256) : Nat) : Int), xor64 hs (by omega), ?_⟩
    refine hK0 _ _ ?_
    clear hK0 K0
    refine vcg_loopR (α := Nat) tok (fun j => j ≤ 8)
      (fun j => [(0, .slice (some ⟨k, 0, none⟩) l.length c), (3, .int .i64 (stepsN j (sumN (l.take i) ^^^ (l[i] * 256)) : Nat)), (4, .int .i64 (i : Int)), (5, .int .i64 (j : Int))]) (fun _ => H) (fun j => 8 - j) 0 (Nat.zero_le _) (Or.inl ⟨⟨rfl, rfl, rfl, rfl, trivial⟩, rfl⟩) ?_
    rintro j hj
    refine And.intro (fun hc => ?_) (fun hc => ?_)
    · have hlt : j < 8 := by simp at hc; omega
      generalize hr : stepsN j (sumN (l.take i) ^^^ (l[i] * 256)) = r
      have hr6 : r < 65536 := by rw [← hr]; exact stepsN_lt (xor16_lt hs (by omega)) j
      refine vops_gen (fun K0 hK0 => hK0 _ _ ?_)
      refine vops_gen (fun K0 hK0 => ?_)
      refine Or.inl ⟨((2 * r : Nat) : Int), by simp, by unfold I64; omega, ?_⟩
      refine ⟨by decide, ((2 * r % 65536 : Nat) : Int), ?_, ?_⟩
      · show ((2 * r : Nat) : Int).tmod 65536 = _
        rw [Int.tmod_eq_emod_of_nonneg (by omega)]; omega
      refine hK0 _ _ ?_
      clear hK0 K0
      have hr1 : stepN r = stepsN (j + 1) (sumN (l.take i) ^^^ (l[i] * 256)) := by rw [← hr]; rfl
      have hm : 2 * r % 65536 < 65536 := Nat.mod_lt _ (by decide)
      refine And.intro (fun hc => ?_) (fun hc => ?_)
      · have hc : 32768 ≤ r := by simp at hc; omega
        refine ⟨(stepN r : Nat), ?_, ?_⟩
        · refine (xor64 (b := 4129) hm (by decide)).trans ?_
          rw [stepN_hi hc]
        refine Or.inl ⟨((j + 1 : Nat) : Int), by simp, by unfold I64; omega, ?_⟩
        exact ⟨j + 1, by omega, by omega, Or.inl ⟨⟨rfl, congrArg (fun z : Nat => some (Value.int .i64 (z : Int))) hr1, rfl, rfl, trivial⟩, rfl⟩⟩
      · have hc : ¬ 32768 ≤ r := by simp at hc; omega
        refine Or.inl ⟨((j + 1 : Nat) : Int), by simp, by unfold I64; omega, ?_⟩
        exact ⟨j + 1, by omega, by omega, Or.inl ⟨⟨rfl, congrArg (fun z : Nat => some (Value.int .i64 (z : Int))) ((stepN_lo hc).symm.trans hr1), rfl, rfl, trivial⟩, rfl⟩⟩
    · have : j = 8 := by simp at hc; omega
      subst this
      refine Or.inl ⟨((i + 1 : Nat) : Int), by simp, by unfold I64; omega, ?_⟩
      exact ⟨i + 1, hlt, by omega, Or.inl ⟨⟨rfl, by rw [takeS hlt, sumN_snoc]; rfl, rfl, trivial⟩, rfl⟩⟩
  · have : i = l.length := by simp at hc; omega
    subst this
    rw [List.take_length]
    show R (.int .u16 (IntKind.u16.wrap _)) H
    rw [w16 (sumN_lt hb)]
    exact h

theorem copy_hs {H H1 : List Blk} {b k n c : Nat} {wr : Bool} {ys l : List Nat} {K : Value → List Blk → Prop} (hs1 : HS H none' [(true, b, .cells true 1 [])] H1) (hn : n = l.length) (hk1 : bget H1 k = some (.cells wr 1 (bys ys))) (hys : ys.take n = l) (hly : n ≤ ys.length) (hl : n ≤ 1000000000)
    (h : ∀ H' b', HS H none' [(true, b', .cells true 1 (bys l))] H' → K (.slice (some ⟨b', 0, none⟩) n n) H') : aAppend H1 1 1 (.slice (some ⟨b, 0, none⟩) 0 0) (.slice (some ⟨k, 0, none⟩) n c) K := by
  cases n with
  | zero =>
    have hl0 : l = [] := List.length_eq_zero_iff.1 hn.symm
    subst hl0
    exact app_zero (by decide) hk1 (h H1 b hs1)
  | succ n =>
    refine appN_hs hs1 0 (n := 0) (us := bys l) rfl (by decide) hk1 ?_ (Nat.succ_pos _) ?_ (bys_one l) rfl (by omega) (fun H2 b2 e2 l2 hs2 => ?_)
    · rw [List.drop_zero, Nat.mul_one, bys_take, hys]
    · simp; omega
    · rw [Nat.zero_add]; exact h H2 b2 hs2
theorem q256 (s : Nat) (hs : s < 65536) : IntKind.u8.wrap (IntKind.u16.wrap ((s : Int).tdiv 256)) = ((s / 256 : Nat) : Int) := by
  rw [Int.tdiv_eq_ediv_of_nonneg (by omega), show (s : Int) / 256 = ((s / 256 : Nat) : Int) by omega, w16 (by omega), cv8, Nat.mod_eq_of_lt (by omega)]
theorem g16 {H : List Blk} {R : Value → List Blk → Prop} {k n c : Nat} {wr : Bool} {ys l : List Nat} (hn : n = l.length) (hk : bget H k = some (.cells wr 1 (bys ys))) (hys : ys.take n = l) (hl : n ≤ 100000000) (hb : Bytes l)
    (h : ∀ H' b, HS H none' [(true, b, .cells true 1 (bys (frameN l)))] H' → R (.slice (some ⟨b, 0, none⟩) (n + 2) (n + 2)) H') : ACall Tryz.prog 16 [.slice (some ⟨k, 0, none⟩) n c] H R := by
  have hs := sumN_lt hb
  have hly : n ≤ ys.length := by
    have := congrArg List.length hys
    rw [List.length_take] at this; omega
  refine acall_vcg tok Tryz.call16 Tryz.func16 rfl Tryz.ntmps16 rfl (by simp) ?_
  refine vops_gen (fun K0 hK0 => hK0 _ _ ?_)
  refine vops_gen (fun K0 hK0 => ?_)
  subst hn
  refine g13 hk hys (by omega) hb ?_
  refine hK0 _ _ ?_
  clear hK0 K0
  refine vops_gen (fun K0 hK0 => ?_)
  refine And.intro (by decide) ?_
  refine newS_hs (HS.start H none') (fun H1 b e1 l1 hs1 => ?_)
  have hk1 : bget H1 k = some (.cells wr 1 (bys ys)) := (hs1.u.2 k (bget_lt hk) (fun h => h)).trans hk
  have e2 : [Value.int .u8 (IntKind.u8.wrap (IntKind.u16.wrap ((sumN l : Int).tdiv 256))), Value.int .u8 (IntKind.u8.wrap ((sumN l : Int).tmod 256))] = bys [sumN l / 256, sumN l % 256] := by
    rw [q256 _ hs, Int.tmod_eq_emod_of_nonneg (by omega), show (sumN l : Int) % 256 = ((sumN l % 256 : Nat) : Int) by omega, cv8, Nat.mod_eq_of_lt (by omega : sumN l % 256 < 256)]
    rfl
  refine And.intro rfl ?_
  refine copy_hs hs1 rfl hk1 hys hly (by omega) (fun H2 b2 hs2 => ?_)
  refine ⟨by decide, ?_⟩
  refine ⟨by decide, _, rfl, ?_⟩
  refine And.intro (by decide) ?_
  refine newS_hs hs2 (fun H3 j e3 l3 hs3 => ?_)
  refine And.intro rfl ?_
  refine appN_hs hs3 1 (n := l.length) (o2 := 0) (m := 2) (us := bys [sumN l / 256, sumN l % 256]) rfl (by decide) (hs3.get 0 rfl) e2 (by decide) (by show 0 + 2 * 1 ≤ 2; decide) (bys_one _) (by simp) (by show (l.length + 2) * (1 + 1) ≤ 70368744177664; omega) (fun H4 b4 e4 l4 hs4 => ?_)
  refine hK0 _ _ ?_
  have h4 := hs4.pick [1] (by decide) (L' := [(true, b4, .cells true 1 (bys l ++ bys [sumN l / 256, sumN l % 256]))]) rfl
  rw [← bys_append] at h4
  exact h H4 b4 h4
end Go.Af.Tryz
namespace Go.Af.Tryz
open Go Go.Proofs
attribute [local irreducible] awp ACall ACallX AYield AInvoke newSlice isCells rdCells wrCells aAppend rangeEnd roundBegin roundEnd

theorem BRen.bys {ι : List (Nat × Nat)} {wr : Bool} {z : Nat} (xs : List Nat) : BRen ι 0 (.cells false z (bys xs)) (.cells wr z (bys xs)) :=
  BRen.cells (fun h => by cases h) fun i x hx => by
    rw [bys_get] at hx
    cases hq : xs[i]? with
    | none => rw [hq] at hx; cases hx
    | some y => rw [hq] at hx; cases hx; exact ⟨_, by rw [Nat.zero_add, bys_get, hq]; rfl, VRen.int _ _⟩
theorem x13 {H : List Blk} {R : Value → List Blk → Prop} {k n c : Nat} {wr : Bool} {ys l : List Nat} (hn : n = l.length) (hk : bget H k = some (.cells wr 1 (bys ys))) (hys : ys.take n = l) (hl : n ≤ 100000000) (hb : Bytes l)
    (h : R (.int .u16 (sumN l : Nat)) H) : ACallX Tryz.prog 13 [.slice (some ⟨k, 0, none⟩) n c] H R := by
  subst hn
  exact acallx_s (H2 := [.cells false 1 (bys ys)]) (args2 := [.slice (some ⟨0, 0, none⟩) l.length c]) (g13 (k := 0) rfl hys (by omega) hb ⟨rfl, rfl⟩) [(k, 0)] rfl (.cons (VRen.slice rfl rfl (Nat.le_refl _)) .nil) ⟨⟨_, hk, BRen.bys ys⟩, trivial⟩ rfl h

theorem rightN_sum {l : List Nat} {n : Nat} (hn : n = l.length) (h2 : 2 ≤ n) (hb : Bytes l) : rightN l = decide (sumN (l.take (n - 2)) = l[n - 2]! * 256 + l[n - 1]!) := by
  subst hn
  have hs := sumN_lt (hb.take (l.length - 2))
  generalize hp : l.take (l.length - 2) = p at hs
  have hl : l = p ++ [l[l.length - 2]!, l[l.length - 1]!] := by
    rw [getElem!_pos l _ (by omega), getElem!_pos l _ (by omega), ← hp]
    have e1 := List.take_append_drop (l.length - 2) l
    rw [List.drop_eq_getElem_cons (by omega), List.drop_eq_getElem_cons (by omega)] at e1
    rw [List.drop_of_length_le (by omega)] at e1
    have e3 : l.length - 2 + 1 = l.length - 1 := by omega
    simp only [e3] at e1
    exact e1.symm
  have ha : l[l.length - 2]! < 256 := by rw [getElem!_pos l _ (by omega)]; exact hb _ (List.getElem_mem _)
  have hb' : l[l.length - 1]! < 256 := by rw [getElem!_pos l _ (by omega)]; exact hb _ (List.getElem_mem _)
  rw [rightN_long h2, hp]
  generalize l[l.length - 2]! = a at *
  generalize l[l.length - 1]! = b at *
  rw [decide_eq_decide]
  conv => lhs; rw [hl]
  rw [frameN]
  constructor
  · intro h
    have h := List.append_cancel_left h
    simp at h; omega
  · intro h
    rw [show sumN p / 256 = a by omega, show sumN p % 256 = b by omega]
theorem g15 {H : List Blk} {R : Value → List Blk → Prop} {k n c : Nat} {wr : Bool} {ys l : List Nat} (hn : n = l.length) (hc : n ≤ c) (hk : bget H k = some (.cells wr 1 (bys ys))) (hys : ys.take n = l) (hl : n ≤ 100000000) (hb : Bytes l)
    (h : R (.bool (rightN l)) H) : ACall Tryz.prog 15 [.slice (some ⟨k, 0, none⟩) n c] H R := by
  have yg : ∀ {i : Nat} (hi : i < n), ys[i]? = some l[i]! := fun {i} hi => by
    have h1 : (ys.take n)[i]? = some l[i]! := by rw [hys]; rw [getElem!_pos l i (by omega)]; simp
    rwa [List.getElem?_take_of_lt hi] at h1
  refine acall_vcg tok Tryz.call15 Tryz.func15 rfl Tryz.ntmps15 rfl (by simp) ?_
  refine vops_gen (fun K0 hK0 => hK0 _ _ ?_)
  refine Or.inl ⟨(n : Int) - 2, rfl, by unfold I64; omega, ?_⟩
  refine vops_gen (fun K0 hK0 => hK0 _ _ ?_)
  rcases Nat.lt_or_ge n 2 with h2 | h2
  · have e : decide ((0 : Int) ≤ (n : Int) - 2) = false := decide_eq_false (by omega)
    rw [rightN_short (by omega)] at h
    refine vcg_draw tok mx [0, 1, 3, 7, 7, 31, 63, 7, 7, 391, 903, 1927, 3975, 7, 7, 16391, 57351, 122887, 253959, 524167, 1048575, 2097151, 4194303] [false, false, false, false, false, false, true, false, false, false, false, false, false, true, true, true, true, true, true, false, false, false, false] [0, 1, 2, 3, 4, 5, 7, 8, 9, 10, 11, 12, 13, 14, 15, 16, 17, 18, 19, 6, 20, 21, 22] (by kernel_rfl) ?_
    refine vopsO_gen (fun K0 hK0 => ?_)
    refine And.intro (fun h => absurd (e.symm.trans h) (by decide)) (fun _ => ?_)
    repeat refine And.intro (fun h => absurd h (by decide)) (fun _ => ?_)
    refine hK0 _ _ ?_
    exact h
  · have e : decide ((0 : Int) ≤ (n : Int) - 2) = true := decide_eq_true (by omega)
    have hys2 : ys.take (n - 2) = l.take (n - 2) := by rw [← hys, List.take_take, Nat.min_eq_left (by omega)]
    have ha : l[n - 2]! < 256 := by rw [getElem!_pos l _ (by omega)]; exact hb _ (List.getElem_mem _)
    have hb' : l[n - 1]! < 256 := by rw [getElem!_pos l _ (by omega)]; exact hb _ (List.getElem_mem _)
    refine vcg_draw tok mx [0, 1, 3, 7, 7, 31, 63, 7, 7, 391, 903, 1927, 3975, 7, 7, 16391, 57351, 122887, 253959, 524167, 1048575, 2097151, 4194303] [false, false, false, false, false, false, true, false, false, false, false, false, false, true, true, true, true, true, true, false, false, false, false] [0, 1, 2, 3, 4, 5, 7, 8, 9, 10, 11, 12, 13, 14, 15, 16, 17, 18, 19, 6, 20, 21, 22] (by kernel_rfl) ?_
    refine vopsO_gen (fun K0 hK0 => ?_)
    refine And.intro (fun _ => ?_) (fun h => absurd (e.symm.trans h) (by decide))
    refine And.intro (fun _ => ?_) (fun h => absurd h (by decide))
    refine And.intro (fun _ => ?_) (fun h => absurd h (by decide))
    refine rdCells_of hk ?_
    refine ⟨rfl, n - 2, by omega, ⟨Nat.zero_le _, by omega⟩, ?_⟩
    refine And.intro (fun _ => ?_) (fun h => absurd h (by decide))
    refine And.intro (fun _ => ?_) (fun h => absurd h (by decide))
    refine And.intro (fun _ => ?_) (fun h => absurd h (by decide))
    refine isCells_of hk ⟨n - 2, by omega, by omega, ?_⟩
    refine And.intro (fun _ => ?_) (fun h => absurd h (by decide))
    refine rdCells_of hk (Ld_bys (n - 2) l[n - 2]! (by simp) (yg (by omega)) ?_)
    refine And.intro (fun _ => ?_) (fun h => absurd h (by decide))
    refine And.intro (fun _ => ?_) (fun h => absurd h (by decide))
    refine And.intro (fun _ => ?_) (fun h => absurd h (by decide))
    refine And.intro (fun _ => ?_) (fun h => absurd h (by decide))
    refine And.intro (fun _ => ?_) (fun h => absurd h (by decide))
    refine Or.inl ⟨((n - 1 : Nat) : Int), by omega, by unfold I64; omega, ?_⟩
    refine And.intro (fun _ => ?_) (fun h => absurd h (by decide))
    refine isCells_of hk ⟨n - 1, by omega, by omega, ?_⟩
    refine And.intro (fun _ => ?_) (fun h => absurd h (by decide))
    refine rdCells_of hk (Ld_bys (n - 1) l[n - 1]! (by simp) (yg (by omega)) ?_)
    refine And.intro (fun _ => ?_) (fun h => absurd h (by decide))
    refine And.intro (fun _ => ?_) (fun h => absurd h (by decide))
    refine And.intro (fun _ => ?_) (fun h => absurd h (by decide))
    refine (?_ : ACallX Tryz.prog 13 [.slice (some ⟨k, 0, none⟩) (n - 2) c] _ _)
    refine x13 (l := l.take (n - 2)) (by rw [List.length_take]; omega) hk hys2 (by omega) (hb.take _) ?_
    refine And.intro (fun _ => ?_) (fun h => absurd h (by decide))
    refine hK0 _ _ ?_
    have e3 : IntKind.u16.wrap (IntKind.u16.wrap (IntKind.u16.wrap (l[n - 2]! : Int) * 256) + IntKind.u16.wrap (l[n - 1]! : Int)) = ((l[n - 2]! * 256 + l[n - 1]! : Nat) : Int) := by
      rw [w16 (by omega), w16 (by omega), show (l[n - 2]! : Int) * 256 = ((l[n - 2]! * 256 : Nat) : Int) by omega, w16 (by omega), show ((l[n - 2]! * 256 : Nat) : Int) + (l[n - 1]! : Int) = ((l[n - 2]! * 256 + l[n - 1]! : Nat) : Int) by omega, w16 (by omega)]
    show R (.bool (decide (((sumN (l.take (n - 2)) : Nat) : Int) = _))) H
    rw [e3]
    rw [rightN_sum hn h2 hb] at h
    have e4 : decide (((sumN (l.take (n - 2)) : Nat) : Int) = ((l[n - 2]! * 256 + l[n - 1]! : Nat) : Int)) = decide (sumN (l.take (n - 2)) = l[n - 2]! * 256 + l[n - 1]!) := by
      rw [decide_eq_decide]; omega
    rw [e4]
    exact h
end Go.Af.Tryz
namespace Go.Af.Tryz
open Go Go.Proofs
attribute [local irreducible] awp ACall ACallX AYield AInvoke newSlice isCells rdCells wrCells aAppend rangeEnd roundBegin roundEnd

theorem rightN_frame (l : List Nat) : rightN (frameN l) = true := by
  rw [rightN_long (by simp)]
  rw [frameN_length, Nat.add_sub_cancel]
  rw [show (frameN l).take l.length = l from by rw [frameN, List.take_left]]
  simp
theorem k3 (l : List Nat) (hb : Bytes l) {m : LM} {argsR : Array Value} {w : World} (ha : LRel m [sv 0 l.length] argsR.toList) (hr : HRel m [.cells false 1 (bys l)] w) :
    Calls Tryz.prog 3 argsR w fun e w' => ∃ vR, e = .returned vR ∧ AppOut m [.cells false 1 (bys l)] w (fun v _ => v = .bool true) vR w' := by
  refine calls_vcg tok Tryz.func3 rfl Tryz.ntmps3 rfl (by simp) ?_ ha hr
  generalize hH0 : [Blk.cells false 1 (bys l)] = H0
  have h0 : bget H0 0 = some (.cells false 1 (bys l)) := by rw [← hH0]; rfl
  refine vops_gen (fun K0 hK0 => hK0 _ _ ?_)
  refine And.intro (fun hc => ?_) (fun hc => ?_)
  · refine vops_gen (fun K0 hK0 => ?_)
    refine (W.worksX _ ?_).call
    refine hK0 _ _ ?_
    rfl
  · have hl : l.length ≤ 500 := by simp at hc; omega
    refine vops_gen (fun K0 hK0 => ?_)
    refine g12 h0 (List.take_length) (by omega) hb ?_
    refine g13 h0 (List.take_length) (by omega) hb ?_
    refine And.intro (fun _ => ?_) (fun h => absurd h (by simp))
    refine And.intro (fun _ => ?_) (fun h => absurd h (by decide))
    refine g14 rfl (Nat.le_refl _) h0 (List.take_length) (by omega) hb (fun H1 hs1 => ?_)
    have h1 : bget H1 0 = some (.cells false 1 (bys l)) := (hs1.u.2 0 (bget_lt h0) (fun h => h)).trans h0
    refine And.intro (fun _ => ?_) (fun h => absurd h (by decide))
    refine And.intro (fun _ => ?_) (fun h => absurd h (by decide))
    refine g15 rfl (Nat.le_refl _) h1 (List.take_length) (by omega) hb ?_
    refine And.intro (fun _ => ?_) (fun h => absurd h (by decide))
    refine And.intro (fun _ => ?_) (fun h => absurd h (by simp))
    refine And.intro (fun _ => ?_) (fun h => absurd h (by decide))
    refine g16 rfl h1 (List.take_length) (by omega) hb (fun H2 b hs2 => ?_)
    refine And.intro (fun _ => ?_) (fun h => absurd h (by decide))
    refine g14 (l := frameN l) (frameN_length l).symm (Nat.le_refl _) (hs2.get 0 rfl) (by rw [← frameN_length, List.take_length]) (by omega) (frameN_bytes hb) (fun H3 hs3 => ?_)
    rw [rightN_frame]
    refine And.intro (fun _ => ?_) (fun h => absurd h (by decide))
    refine (W.worksX _ ?_).call
    refine hK0 _ _ ?_
    rfl
end Go.Af.Tryz
