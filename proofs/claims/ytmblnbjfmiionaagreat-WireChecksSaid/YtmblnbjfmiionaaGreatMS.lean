/-
  The seat's types, and the orders of its drawn regions.
-/
import Derived.Test.YtmblnbjfmiionaaGreatMDA
import Derived.Test.YtmblnbjfmiionaaGreatMB
import Derived.Test.YtmblnbjfmiionaaGreatProg
import Derived.KernelRfl
set_option linter.all false
namespace Go.Af.Tryz
open Go Go.Proofs
def T : TT := [(3, ⟨.int .i64, 1, 8, .int .i64 0⟩),
  (28, ⟨.slice 3, 1, 24, .slice none 0 0⟩),
  (146, ⟨.struct [(0, 103), (1, 96), (2, 4), (3, 139), (6, 93)], 7, 72, .agg #[.pointer none, .pointer none, .bool false, .int .i64 0, .int .i64 0, .int .i64 0, .slice none 0 0]⟩),
  (37, ⟨.struct [(0, 3), (1, 28), (2, 3)], 3, 40, .agg #[.int .i64 0, .slice none 0 0, .int .i64 0]⟩),
  (49, ⟨.struct [(0, 47), (1, 3), (2, 3), (3, 3)], 4, 48, .agg #[.slice none 0 0, .int .i64 0, .int .i64 0, .int .i64 0]⟩),
  (4, ⟨.bool, 1, 1, .bool false⟩),
  (143, ⟨.slice 146, 1, 24, .slice none 0 0⟩),
  (33, ⟨.struct [(0, 30), (3, 3), (4, 4), (5, 3), (6, 3), (7, 31)], 8, 80, .agg #[.int .i64 0, .slice none 0 0, .int .i64 0, .int .i64 0, .bool false, .int .i64 0, .int .i64 0, .int .u64 0]⟩),
  (46, ⟨.struct [(0, 3), (1, 3), (2, 3), (3, 22)], 4, 48, .agg #[.int .i64 0, .int .i64 0, .int .i64 0, .slice none 0 0]⟩),
  (154, ⟨.struct [(0, 121), (1, 114), (2, 4), (3, 3), (4, 3), (5, 3), (6, 4), (7, 4)], 8, 56, .agg #[.pointer none, .pointer none, .bool false, .int .i64 0, .int .i64 0, .int .i64 0, .bool false, .bool false]⟩),
  (30, ⟨.struct [(0, 3), (1, 28), (2, 3)], 3, 40, .agg #[.int .i64 0, .slice none 0 0, .int .i64 0]⟩),
  (22, ⟨.slice 5, 1, 24, .slice none 0 0⟩),
  (53, ⟨.struct [(0, 3), (1, 3), (2, 28), (3, 22)], 4, 64, .agg #[.int .i64 0, .int .i64 0, .slice none 0 0, .slice none 0 0]⟩),
  (47, ⟨.slice 53, 1, 24, .slice none 0 0⟩),
  (113, ⟨.struct [(0, 39), (8, 31), (9, 110), (10, 111), (11, 90), (12, 56)], 16, 192, .agg #[.int .i64 0, .slice none 0 0, .int .i64 0, .int .i64 0, .bool false, .int .i64 0, .int .i64 0, .int .u64 0, .int .u64 0, .slice none 0 0, .slice none 0 0, .map none, .slice none 0 0, .int .i64 0, .int .i64 0, .int .i64 0]⟩),
  (34, ⟨.int .i64, 1, 8, .int .i64 0⟩),
  (95, ⟨.struct [(0, 33), (8, 87), (9, 92), (10, 88), (11, 88), (12, 89), (13, 93), (14, 90), (15, 91), (16, 49)], 20, 224, .agg #[.int .i64 0, .slice none 0 0, .int .i64 0, .int .i64 0, .bool false, .int .i64 0, .int .i64 0, .int .u64 0, .nilFunc, .slice none 0 0, .map none, .map none, .map none, .slice none 0 0, .map none, .map none, .slice none 0 0, .int .i64 0, .int .i64 0, .int .i64 0]⟩),
  (31, ⟨.int .u64, 1, 8, .int .u64 0⟩),
  (139, ⟨.struct [(0, 3), (1, 3), (2, 3)], 3, 24, .agg #[.int .i64 0, .int .i64 0, .int .i64 0]⟩),
  (123, ⟨.struct [(0, 120), (4, 3), (5, 3), (6, 28), (7, 4), (8, 28), (9, 28), (10, 3), (11, 3), (12, 3)], 13, 168, .agg #[.int .i64 0, .int .i64 0, .int .i64 0, .slice none 0 0, .int .i64 0, .int .i64 0, .slice none 0 0, .bool false, .slice none 0 0, .slice none 0 0, .int .i64 0, .int .i64 0, .int .i64 0]⟩),
  (5, ⟨.int .u8, 1, 1, .int .u8 0⟩),
  (110, ⟨.slice 121, 1, 24, .slice none 0 0⟩),
  (24, ⟨.int .u16, 1, 2, .int .u16 0⟩),
  (39, ⟨.struct [(0, 37), (3, 3), (4, 4), (5, 3), (6, 3), (7, 31)], 8, 80, .agg #[.int .i64 0, .slice none 0 0, .int .i64 0, .int .i64 0, .bool false, .int .i64 0, .int .i64 0, .int .u64 0]⟩),
  (163, ⟨.struct [(0, 3), (1, 3)], 2, 16, .agg #[.int .i64 0, .int .i64 0]⟩),
  (105, ⟨.struct [(0, 3), (1, 3), (2, 3), (3, 22), (4, 28), (5, 93), (6, 4), (7, 3)], 8, 112, .agg #[.int .i64 0, .int .i64 0, .int .i64 0, .slice none 0 0, .slice none 0 0, .slice none 0 0, .bool false, .int .i64 0]⟩),
  (161, ⟨.struct [(0, 3), (1, 3)], 2, 16, .agg #[.int .i64 0, .int .i64 0]⟩),
  (111, ⟨.slice 114, 1, 24, .slice none 0 0⟩),
  (42, ⟨.slice 46, 1, 24, .slice none 0 0⟩),
  (116, ⟨.struct [(0, 3), (1, 3), (2, 3), (3, 3), (4, 110), (5, 110)], 6, 80, .agg #[.int .i64 0, .int .i64 0, .int .i64 0, .int .i64 0, .slice none 0 0, .slice none 0 0]⟩),
  (56, ⟨.struct [(0, 54), (1, 3), (2, 3), (3, 3)], 4, 48, .agg #[.slice none 0 0, .int .i64 0, .int .i64 0, .int .i64 0]⟩),
  (88, ⟨.map 139 96, 1, 8, .map none⟩),
  (121, ⟨.ptr 123, 1, 8, .pointer none⟩),
  (93, ⟨.slice 139, 1, 24, .slice none 0 0⟩),
  (120, ⟨.struct [(0, 3), (1, 3), (2, 3), (3, 22)], 4, 48, .agg #[.int .i64 0, .int .i64 0, .int .i64 0, .slice none 0 0]⟩),
  (238, ⟨.int .u64, 1, 8, .int .u64 0⟩),
  (103, ⟨.ptr 105, 1, 8, .pointer none⟩),
  (64, ⟨.int .u64, 1, 8, .int .u64 0⟩),
  (152, ⟨.slice 154, 1, 24, .slice none 0 0⟩),
  (159, ⟨.slice 3, 1, 24, .slice none 0 0⟩),
  (185, ⟨.arr 2 3, 2, 16, .agg #[.int .i64 0, .int .i64 0]⟩),
  (9, ⟨.str, 1, 16, .string ⟨#[]⟩⟩),
  (114, ⟨.ptr 116, 1, 8, .pointer none⟩),
  (226, ⟨.int .u32, 1, 4, .int .u32 0⟩),
  (65, ⟨.arr 3 3, 3, 24, .agg #[.int .i64 0, .int .i64 0, .int .i64 0]⟩),
  (89, ⟨.map 139 3, 1, 8, .map none⟩),
  (99, ⟨.struct [(0, 97)], 1, 24, .agg #[.slice none 0 0]⟩),
  (90, ⟨.map 185 3, 1, 8, .map none⟩),
  (97, ⟨.slice 103, 1, 24, .slice none 0 0⟩),
  (173, ⟨.map 179 146, 1, 8, .map none⟩),
  (198, ⟨.struct [(0, 28), (1, 3)], 2, 32, .agg #[.slice none 0 0, .int .i64 0]⟩),
  (125, ⟨.struct [(0, 3), (1, 3), (2, 28), (3, 22)], 4, 64, .agg #[.int .i64 0, .int .i64 0, .slice none 0 0, .slice none 0 0]⟩),
  (54, ⟨.slice 125, 1, 24, .slice none 0 0⟩),
  (85, ⟨.int .u64, 1, 8, .int .u64 0⟩),
  (92, ⟨.slice 96, 1, 24, .slice none 0 0⟩),
  (59, ⟨.slice 120, 1, 24, .slice none 0 0⟩),
  (86, ⟨.ptr 95, 1, 8, .pointer none⟩),
  (75, ⟨.slice 4, 1, 24, .slice none 0 0⟩),
  (91, ⟨.map 185 28, 1, 8, .map none⟩),
  (96, ⟨.ptr 99, 1, 8, .pointer none⟩),
  (179, ⟨.struct [(0, 4), (1, 3), (2, 3)], 3, 24, .agg #[.bool false, .int .i64 0, .int .i64 0]⟩),
  (73, ⟨.slice 28, 1, 24, .slice none 0 0⟩),
  (87, ⟨.func, 1, 8, .nilFunc⟩),
  (219, ⟨.int .i64, 1, 8, .int .i64 0⟩),
  (142, ⟨.map 96 139, 1, 8, .map none⟩),
  (63, ⟨.arr 3 24, 3, 6, .agg #[.int .u16 0, .int .u16 0, .int .u16 0]⟩),
  (81, ⟨.slice 65, 1, 24, .slice none 0 0⟩),
  (166, ⟨.func, 1, 8, .nilFunc⟩)]
theorem ti3 : TIOk Tryz.prog 3 ⟨.int .i64, 1, 8, .int .i64 0⟩ := ⟨Tryz.underlying3, by kernel_rfl, rfl⟩
theorem ti28 : TIOk Tryz.prog 28 ⟨.slice 3, 1, 24, .slice none 0 0⟩ := ⟨Tryz.underlying28, by kernel_rfl, rfl⟩
theorem ti146 : TIOk Tryz.prog 146 ⟨.struct [(0, 103), (1, 96), (2, 4), (3, 139), (6, 93)], 7, 72, .agg #[.pointer none, .pointer none, .bool false, .int .i64 0, .int .i64 0, .int .i64 0, .slice none 0 0]⟩ := ⟨⟨_, Tryz.underlying146, rfl⟩, by kernel_rfl, rfl⟩
theorem ti37 : TIOk Tryz.prog 37 ⟨.struct [(0, 3), (1, 28), (2, 3)], 3, 40, .agg #[.int .i64 0, .slice none 0 0, .int .i64 0]⟩ := ⟨⟨_, Tryz.underlying37, rfl⟩, by kernel_rfl, rfl⟩
theorem ti49 : TIOk Tryz.prog 49 ⟨.struct [(0, 47), (1, 3), (2, 3), (3, 3)], 4, 48, .agg #[.slice none 0 0, .int .i64 0, .int .i64 0, .int .i64 0]⟩ := ⟨⟨_, Tryz.underlying49, rfl⟩, by kernel_rfl, rfl⟩
theorem ti4 : TIOk Tryz.prog 4 ⟨.bool, 1, 1, .bool false⟩ := ⟨Tryz.underlying4, by kernel_rfl, rfl⟩
theorem ti143 : TIOk Tryz.prog 143 ⟨.slice 146, 1, 24, .slice none 0 0⟩ := ⟨Tryz.underlying143, by kernel_rfl, rfl⟩
theorem ti33 : TIOk Tryz.prog 33 ⟨.struct [(0, 30), (3, 3), (4, 4), (5, 3), (6, 3), (7, 31)], 8, 80, .agg #[.int .i64 0, .slice none 0 0, .int .i64 0, .int .i64 0, .bool false, .int .i64 0, .int .i64 0, .int .u64 0]⟩ := ⟨⟨_, Tryz.underlying33, rfl⟩, by kernel_rfl, rfl⟩
theorem ti46 : TIOk Tryz.prog 46 ⟨.struct [(0, 3), (1, 3), (2, 3), (3, 22)], 4, 48, .agg #[.int .i64 0, .int .i64 0, .int .i64 0, .slice none 0 0]⟩ := ⟨⟨_, Tryz.underlying46, rfl⟩, by kernel_rfl, rfl⟩
theorem ti154 : TIOk Tryz.prog 154 ⟨.struct [(0, 121), (1, 114), (2, 4), (3, 3), (4, 3), (5, 3), (6, 4), (7, 4)], 8, 56, .agg #[.pointer none, .pointer none, .bool false, .int .i64 0, .int .i64 0, .int .i64 0, .bool false, .bool false]⟩ := ⟨⟨_, Tryz.underlying154, rfl⟩, by kernel_rfl, rfl⟩
theorem ti30 : TIOk Tryz.prog 30 ⟨.struct [(0, 3), (1, 28), (2, 3)], 3, 40, .agg #[.int .i64 0, .slice none 0 0, .int .i64 0]⟩ := ⟨⟨_, Tryz.underlying30, rfl⟩, by kernel_rfl, rfl⟩
theorem ti22 : TIOk Tryz.prog 22 ⟨.slice 5, 1, 24, .slice none 0 0⟩ := ⟨Tryz.underlying22, by kernel_rfl, rfl⟩
theorem ti53 : TIOk Tryz.prog 53 ⟨.struct [(0, 3), (1, 3), (2, 28), (3, 22)], 4, 64, .agg #[.int .i64 0, .int .i64 0, .slice none 0 0, .slice none 0 0]⟩ := ⟨⟨_, Tryz.underlying53, rfl⟩, by kernel_rfl, rfl⟩
theorem ti47 : TIOk Tryz.prog 47 ⟨.slice 53, 1, 24, .slice none 0 0⟩ := ⟨Tryz.underlying47, by kernel_rfl, rfl⟩
theorem ti113 : TIOk Tryz.prog 113 ⟨.struct [(0, 39), (8, 31), (9, 110), (10, 111), (11, 90), (12, 56)], 16, 192, .agg #[.int .i64 0, .slice none 0 0, .int .i64 0, .int .i64 0, .bool false, .int .i64 0, .int .i64 0, .int .u64 0, .int .u64 0, .slice none 0 0, .slice none 0 0, .map none, .slice none 0 0, .int .i64 0, .int .i64 0, .int .i64 0]⟩ := ⟨⟨_, Tryz.underlying113, rfl⟩, by kernel_rfl, rfl⟩
theorem ti34 : TIOk Tryz.prog 34 ⟨.int .i64, 1, 8, .int .i64 0⟩ := ⟨Tryz.underlying34, by kernel_rfl, rfl⟩
theorem ti95 : TIOk Tryz.prog 95 ⟨.struct [(0, 33), (8, 87), (9, 92), (10, 88), (11, 88), (12, 89), (13, 93), (14, 90), (15, 91), (16, 49)], 20, 224, .agg #[.int .i64 0, .slice none 0 0, .int .i64 0, .int .i64 0, .bool false, .int .i64 0, .int .i64 0, .int .u64 0, .nilFunc, .slice none 0 0, .map none, .map none, .map none, .slice none 0 0, .map none, .map none, .slice none 0 0, .int .i64 0, .int .i64 0, .int .i64 0]⟩ := ⟨⟨_, Tryz.underlying95, rfl⟩, by kernel_rfl, rfl⟩
theorem ti31 : TIOk Tryz.prog 31 ⟨.int .u64, 1, 8, .int .u64 0⟩ := ⟨Tryz.underlying31, by kernel_rfl, rfl⟩
theorem ti139 : TIOk Tryz.prog 139 ⟨.struct [(0, 3), (1, 3), (2, 3)], 3, 24, .agg #[.int .i64 0, .int .i64 0, .int .i64 0]⟩ := ⟨⟨_, Tryz.underlying139, rfl⟩, by kernel_rfl, rfl⟩
theorem ti123 : TIOk Tryz.prog 123 ⟨.struct [(0, 120), (4, 3), (5, 3), (6, 28), (7, 4), (8, 28), (9, 28), (10, 3), (11, 3), (12, 3)], 13, 168, .agg #[.int .i64 0, .int .i64 0, .int .i64 0, .slice none 0 0, .int .i64 0, .int .i64 0, .slice none 0 0, .bool false, .slice none 0 0, .slice none 0 0, .int .i64 0, .int .i64 0, .int .i64 0]⟩ := ⟨⟨_, Tryz.underlying123, rfl⟩, by kernel_rfl, rfl⟩
theorem ti5 : TIOk Tryz.prog 5 ⟨.int .u8, 1, 1, .int .u8 0⟩ := ⟨Tryz.underlying5, by kernel_rfl, rfl⟩
theorem ti110 : TIOk Tryz.prog 110 ⟨.slice 121, 1, 24, .slice none 0 0⟩ := ⟨Tryz.underlying110, by kernel_rfl, rfl⟩
theorem ti24 : TIOk Tryz.prog 24 ⟨.int .u16, 1, 2, .int .u16 0⟩ := ⟨Tryz.underlying24, by kernel_rfl, rfl⟩
theorem ti39 : TIOk Tryz.prog 39 ⟨.struct [(0, 37), (3, 3), (4, 4), (5, 3), (6, 3), (7, 31)], 8, 80, .agg #[.int .i64 0, .slice none 0 0, .int .i64 0, .int .i64 0, .bool false, .int .i64 0, .int .i64 0, .int .u64 0]⟩ := ⟨⟨_, Tryz.underlying39, rfl⟩, by kernel_rfl, rfl⟩
theorem ti163 : TIOk Tryz.prog 163 ⟨.struct [(0, 3), (1, 3)], 2, 16, .agg #[.int .i64 0, .int .i64 0]⟩ := ⟨⟨_, Tryz.underlying163, rfl⟩, by kernel_rfl, rfl⟩
theorem ti105 : TIOk Tryz.prog 105 ⟨.struct [(0, 3), (1, 3), (2, 3), (3, 22), (4, 28), (5, 93), (6, 4), (7, 3)], 8, 112, .agg #[.int .i64 0, .int .i64 0, .int .i64 0, .slice none 0 0, .slice none 0 0, .slice none 0 0, .bool false, .int .i64 0]⟩ := ⟨⟨_, Tryz.underlying105, rfl⟩, by kernel_rfl, rfl⟩
theorem ti161 : TIOk Tryz.prog 161 ⟨.struct [(0, 3), (1, 3)], 2, 16, .agg #[.int .i64 0, .int .i64 0]⟩ := ⟨⟨_, Tryz.underlying161, rfl⟩, by kernel_rfl, rfl⟩
theorem ti111 : TIOk Tryz.prog 111 ⟨.slice 114, 1, 24, .slice none 0 0⟩ := ⟨Tryz.underlying111, by kernel_rfl, rfl⟩
theorem ti42 : TIOk Tryz.prog 42 ⟨.slice 46, 1, 24, .slice none 0 0⟩ := ⟨Tryz.underlying42, by kernel_rfl, rfl⟩
theorem ti116 : TIOk Tryz.prog 116 ⟨.struct [(0, 3), (1, 3), (2, 3), (3, 3), (4, 110), (5, 110)], 6, 80, .agg #[.int .i64 0, .int .i64 0, .int .i64 0, .int .i64 0, .slice none 0 0, .slice none 0 0]⟩ := ⟨⟨_, Tryz.underlying116, rfl⟩, by kernel_rfl, rfl⟩
theorem ti56 : TIOk Tryz.prog 56 ⟨.struct [(0, 54), (1, 3), (2, 3), (3, 3)], 4, 48, .agg #[.slice none 0 0, .int .i64 0, .int .i64 0, .int .i64 0]⟩ := ⟨⟨_, Tryz.underlying56, rfl⟩, by kernel_rfl, rfl⟩
theorem ti88 : TIOk Tryz.prog 88 ⟨.map 139 96, 1, 8, .map none⟩ := ⟨Tryz.underlying88, by kernel_rfl, rfl⟩
theorem ti121 : TIOk Tryz.prog 121 ⟨.ptr 123, 1, 8, .pointer none⟩ := ⟨Tryz.underlying121, by kernel_rfl, rfl⟩
theorem ti93 : TIOk Tryz.prog 93 ⟨.slice 139, 1, 24, .slice none 0 0⟩ := ⟨Tryz.underlying93, by kernel_rfl, rfl⟩
theorem ti120 : TIOk Tryz.prog 120 ⟨.struct [(0, 3), (1, 3), (2, 3), (3, 22)], 4, 48, .agg #[.int .i64 0, .int .i64 0, .int .i64 0, .slice none 0 0]⟩ := ⟨⟨_, Tryz.underlying120, rfl⟩, by kernel_rfl, rfl⟩
theorem ti238 : TIOk Tryz.prog 238 ⟨.int .u64, 1, 8, .int .u64 0⟩ := ⟨Tryz.underlying238, by kernel_rfl, rfl⟩
theorem ti103 : TIOk Tryz.prog 103 ⟨.ptr 105, 1, 8, .pointer none⟩ := ⟨Tryz.underlying103, by kernel_rfl, rfl⟩
theorem ti64 : TIOk Tryz.prog 64 ⟨.int .u64, 1, 8, .int .u64 0⟩ := ⟨Tryz.underlying64, by kernel_rfl, rfl⟩
theorem ti152 : TIOk Tryz.prog 152 ⟨.slice 154, 1, 24, .slice none 0 0⟩ := ⟨Tryz.underlying152, by kernel_rfl, rfl⟩
theorem ti159 : TIOk Tryz.prog 159 ⟨.slice 3, 1, 24, .slice none 0 0⟩ := ⟨Tryz.underlying159, by kernel_rfl, rfl⟩
theorem ti185 : TIOk Tryz.prog 185 ⟨.arr 2 3, 2, 16, .agg #[.int .i64 0, .int .i64 0]⟩ := ⟨Tryz.underlying185, by kernel_rfl, rfl⟩
theorem ti9 : TIOk Tryz.prog 9 ⟨.str, 1, 16, .string ⟨#[]⟩⟩ := ⟨Tryz.underlying9, by kernel_rfl, rfl⟩
theorem ti114 : TIOk Tryz.prog 114 ⟨.ptr 116, 1, 8, .pointer none⟩ := ⟨Tryz.underlying114, by kernel_rfl, rfl⟩
theorem ti226 : TIOk Tryz.prog 226 ⟨.int .u32, 1, 4, .int .u32 0⟩ := ⟨Tryz.underlying226, by kernel_rfl, rfl⟩
theorem ti65 : TIOk Tryz.prog 65 ⟨.arr 3 3, 3, 24, .agg #[.int .i64 0, .int .i64 0, .int .i64 0]⟩ := ⟨Tryz.underlying65, by kernel_rfl, rfl⟩
theorem ti89 : TIOk Tryz.prog 89 ⟨.map 139 3, 1, 8, .map none⟩ := ⟨Tryz.underlying89, by kernel_rfl, rfl⟩
theorem ti99 : TIOk Tryz.prog 99 ⟨.struct [(0, 97)], 1, 24, .agg #[.slice none 0 0]⟩ := ⟨⟨_, Tryz.underlying99, rfl⟩, by kernel_rfl, rfl⟩
theorem ti90 : TIOk Tryz.prog 90 ⟨.map 185 3, 1, 8, .map none⟩ := ⟨Tryz.underlying90, by kernel_rfl, rfl⟩
theorem ti97 : TIOk Tryz.prog 97 ⟨.slice 103, 1, 24, .slice none 0 0⟩ := ⟨Tryz.underlying97, by kernel_rfl, rfl⟩
theorem ti173 : TIOk Tryz.prog 173 ⟨.map 179 146, 1, 8, .map none⟩ := ⟨Tryz.underlying173, by kernel_rfl, rfl⟩
theorem ti198 : TIOk Tryz.prog 198 ⟨.struct [(0, 28), (1, 3)], 2, 32, .agg #[.slice none 0 0, .int .i64 0]⟩ := ⟨⟨_, Tryz.underlying198, rfl⟩, by kernel_rfl, rfl⟩
theorem ti125 : TIOk Tryz.prog 125 ⟨.struct [(0, 3), (1, 3), (2, 28), (3, 22)], 4, 64, .agg #[.int .i64 0, .int .i64 0, .slice none 0 0, .slice none 0 0]⟩ := ⟨⟨_, Tryz.underlying125, rfl⟩, by kernel_rfl, rfl⟩
theorem ti54 : TIOk Tryz.prog 54 ⟨.slice 125, 1, 24, .slice none 0 0⟩ := ⟨Tryz.underlying54, by kernel_rfl, rfl⟩
theorem ti85 : TIOk Tryz.prog 85 ⟨.int .u64, 1, 8, .int .u64 0⟩ := ⟨Tryz.underlying85, by kernel_rfl, rfl⟩
theorem ti92 : TIOk Tryz.prog 92 ⟨.slice 96, 1, 24, .slice none 0 0⟩ := ⟨Tryz.underlying92, by kernel_rfl, rfl⟩
theorem ti59 : TIOk Tryz.prog 59 ⟨.slice 120, 1, 24, .slice none 0 0⟩ := ⟨Tryz.underlying59, by kernel_rfl, rfl⟩
theorem ti86 : TIOk Tryz.prog 86 ⟨.ptr 95, 1, 8, .pointer none⟩ := ⟨Tryz.underlying86, by kernel_rfl, rfl⟩
theorem ti75 : TIOk Tryz.prog 75 ⟨.slice 4, 1, 24, .slice none 0 0⟩ := ⟨Tryz.underlying75, by kernel_rfl, rfl⟩
theorem ti91 : TIOk Tryz.prog 91 ⟨.map 185 28, 1, 8, .map none⟩ := ⟨Tryz.underlying91, by kernel_rfl, rfl⟩
theorem ti96 : TIOk Tryz.prog 96 ⟨.ptr 99, 1, 8, .pointer none⟩ := ⟨Tryz.underlying96, by kernel_rfl, rfl⟩
theorem ti179 : TIOk Tryz.prog 179 ⟨.struct [(0, 4), (1, 3), (2, 3)], 3, 24, .agg #[.bool false, .int .i64 0, .int .i64 0]⟩ := ⟨⟨_, Tryz.underlying179, rfl⟩, by kernel_rfl, rfl⟩
theorem ti73 : TIOk Tryz.prog 73 ⟨.slice 28, 1, 24, .slice none 0 0⟩ := ⟨Tryz.underlying73, by kernel_rfl, rfl⟩
theorem ti87 : TIOk Tryz.prog 87 ⟨.func, 1, 8, .nilFunc⟩ := ⟨⟨_, _, _, Tryz.underlying87⟩, by kernel_rfl, rfl⟩
theorem ti219 : TIOk Tryz.prog 219 ⟨.int .i64, 1, 8, .int .i64 0⟩ := ⟨Tryz.underlying219, by kernel_rfl, rfl⟩
theorem ti142 : TIOk Tryz.prog 142 ⟨.map 96 139, 1, 8, .map none⟩ := ⟨Tryz.underlying142, by kernel_rfl, rfl⟩
theorem ti63 : TIOk Tryz.prog 63 ⟨.arr 3 24, 3, 6, .agg #[.int .u16 0, .int .u16 0, .int .u16 0]⟩ := ⟨Tryz.underlying63, by kernel_rfl, rfl⟩
theorem ti81 : TIOk Tryz.prog 81 ⟨.slice 65, 1, 24, .slice none 0 0⟩ := ⟨Tryz.underlying81, by kernel_rfl, rfl⟩
theorem ti166 : TIOk Tryz.prog 166 ⟨.func, 1, 8, .nilFunc⟩ := ⟨⟨_, _, _, Tryz.underlying166⟩, by kernel_rfl, rfl⟩
theorem tok : TOk Tryz.prog T := ⟨ti3, ti28, ti146, ti37, ti49, ti4, ti143, ti33, ti46, ti154, ti30, ti22, ti53, ti47, ti113, ti34, ti95, ti31, ti139, ti123, ti5, ti110, ti24, ti39, ti163, ti105, ti161, ti111, ti42, ti116, ti56, ti88, ti121, ti93, ti120, ti238, ti103, ti64, ti152, ti159, ti185, ti9, ti114, ti226, ti65, ti89, ti99, ti90, ti97, ti173, ti198, ti125, ti54, ti85, ti92, ti59, ti86, ti75, ti91, ti96, ti179, ti73, ti87, ti219, ti142, ti63, ti81, ti166, trivial⟩
theorem mx : Tryz.prog.follows .mixedOrders = true := by kernel_rfl
end Go.Af.Tryz
namespace Go.Af.Tryz
open Go Go.Proofs
attribute [local irreducible] awp ACall ACallX AYield
theorem c81 (n lo hi : Int) (H : List Blk) (R : Value → List Blk → Prop) (h : R (.bool (decide (lo ≤ n) && decide (n ≤ hi))) H) : ACall Tryz.prog 73 [.int .i64 n, .int .i64 lo, .int .i64 hi] H R := by
  refine acall_vcg tok Tryz.call73 Tryz.func73 rfl Tryz.ntmps73 rfl (by simp) ?_
  refine And.intro (fun h1 => ?_) (fun h1 => ?_)
  all_goals repeat (first | refine And.intro (fun _ => ?_) (fun h => absurd h (by decide)) | refine And.intro (fun h => absurd h (by decide)) (fun _ => ?_))
  · exact (by simpa [h1] using h : R (.bool (decide (n ≤ hi))) H)
  · exact (by simpa [h1] using h : R (.bool false) H)

end Go.Af.Tryz
namespace Go.Af.Tryz
open Go Go.Proofs
attribute [local irreducible] awp ACall ACallX AYield

def betw (n lo hi : Int) : Bool := decide (lo ≤ n) && decide (n ≤ hi)

/-- A power, as a loop makes it. -/
theorem l82 (k n : Int) (hb : ∀ i : Nat, (i : Int) ≤ n → I64 (k ^ i)) (hn : n ≤ 1000) :
    ACall Tryz.prog 74 [.int .i64 k, .int .i64 n] [] (fun v H => v = .int .i64 (k ^ n.toNat) ∧ H = []) := by
  refine acall_vcg tok Tryz.call74 Tryz.func74 rfl Tryz.ntmps74 rfl (by simp) ?_
  refine vcg_loopR tok (fun i : Nat => (i : Int) ≤ max n 0) (fun i => [(0, .int .i64 k), (5, .int .i64 (k ^ i)), (6, .int .i64 n), (7, .int .i64 i)]) (fun _ => []) (fun i => n.toNat - i) 0 (by simp; omega) ?_ ?_
  · exact Or.inl ⟨⟨rfl, by rw [Int.pow_zero]; rfl, rfl, rfl, trivial⟩, rfl⟩
  intro i hi
  refine And.intro (fun hc => ?_) (fun hc => ?_)
  · have hc : (i : Int) < n := by simpa using hc
    refine Or.inl ⟨k ^ (i + 1), by rw [Int.pow_succ], hb (i + 1) (by omega), ?_⟩
    refine Or.inl ⟨((i + 1 : Nat) : Int), by simp, by unfold I64; omega, ?_⟩
    exact ⟨i + 1, by omega, by omega, .inl ⟨⟨rfl, rfl, rfl, rfl, trivial⟩, rfl⟩⟩
  · have hc : n ≤ (i : Int) := by simpa using hc
    have : n.toNat = i := by omega
    subst this
    exact ⟨rfl, rfl⟩

theorem l61 (k n : Int) (hb : ∀ i : Nat, (i : Int) ≤ n → I64 (k ^ i)) (hn : n ≤ 1000) :
    ACall Tryz.prog 56 [.int .i64 k, .int .i64 n] [] (fun v H => v = .int .i64 (k ^ n.toNat) ∧ H = []) := by
  refine acall_vcg tok Tryz.call56 Tryz.func56 rfl Tryz.ntmps56 rfl (by simp) ?_
  refine vcg_loopR tok (fun i : Nat => (i : Int) ≤ max n 0) (fun i => [(0, .int .i64 k), (1, .int .i64 n), (5, .int .i64 (k ^ i)), (6, .int .i64 i)]) (fun _ => []) (fun i => n.toNat - i) 0 (by simp; omega) ?_ ?_
  · exact Or.inl ⟨⟨rfl, rfl, by rw [Int.pow_zero]; rfl, rfl, trivial⟩, rfl⟩
  intro i hi
  refine And.intro (fun hc => ?_) (fun hc => ?_)
  · have hc : (i : Int) < n := by simpa using hc
    refine Or.inl ⟨k ^ (i + 1), by rw [Int.pow_succ], hb (i + 1) (by omega), ?_⟩
    refine Or.inl ⟨((i + 1 : Nat) : Int), by simp, by unfold I64; omega, ?_⟩
    exact ⟨i + 1, by omega, by omega, .inl ⟨⟨rfl, rfl, rfl, rfl, trivial⟩, rfl⟩⟩
  · have hc : n ≤ (i : Int) := by simpa using hc
    have : n.toNat = i := by omega
    subst this
    exact ⟨rfl, rfl⟩

theorem l81 (n lo hi : Int) : ACall Tryz.prog 73 [.int .i64 n, .int .i64 lo, .int .i64 hi] [] (fun v H => v = .bool (betw n lo hi) ∧ H = []) := c81 n lo hi [] _ ⟨rfl, rfl⟩
theorem c82 {H : List Blk} {R : Value → List Blk → Prop} (k n : Int) (hb : ∀ i : Nat, (i : Int) ≤ n → I64 (k ^ i)) (hn : n ≤ 1000) (h : R (.int .i64 (k ^ n.toNat)) H) : ACallX Tryz.prog 74 [.int .i64 k, .int .i64 n] H R :=
  acallx_s (l82 k n hb hn) [] rfl (.cons (.int _ _) (.cons (.int _ _) .nil)) trivial rfl h
theorem c61 {H : List Blk} {R : Value → List Blk → Prop} (k n : Int) (hb : ∀ i : Nat, (i : Int) ≤ n → I64 (k ^ i)) (hn : n ≤ 1000) (h : R (.int .i64 (k ^ n.toNat)) H) : ACallX Tryz.prog 56 [.int .i64 k, .int .i64 n] H R :=
  acallx_s (l61 k n hb hn) [] rfl (.cons (.int _ _) (.cons (.int _ _) .nil)) trivial rfl h
theorem x81 {H : List Blk} {R : Value → List Blk → Prop} (n lo hi : Int) (h : R (.bool (betw n lo hi)) H) : ACallX Tryz.prog 73 [.int .i64 n, .int .i64 lo, .int .i64 hi] H R :=
  acallx_s (l81 n lo hi) [] rfl (.cons (.int _ _) (.cons (.int _ _) (.cons (.int _ _) .nil))) trivial rfl h

inductive Sh where
  | grid (g : List Int)
  | fat (k n : Int)
  | fly (a h : Int)

def gridN : List Int → Int → Option Int
  | [], n => some n
  | m :: r, n => if betw m 2 16 && decide (n * m ≤ 256) then gridN r (n * m) else none

def shapeF (kind : Int) (sides : List Int) (hosts : Int) : Option Sh :=
  if kind = 1 then
    match gridN sides 1 with
    | some _ => if betw sides.length 1 4 && betw hosts 1 4 then some (.grid sides) else none
    | none => none
  else if kind = 2 then
    match sides with
    | [k, n] => if betw k 2 8 && (betw n 1 4 && (decide (k ^ n.toNat ≤ 256) && decide (hosts = k))) then some (.fat k n) else none
    | _ => none
  else if kind = 3 then
    match sides with
    | [a, h] => if betw a 1 16 && (betw h 1 4 && (betw hosts 1 4 && decide (a * (a * h + 1) ≤ 256))) then some (.fly a h) else none
    | _ => none
  else none

def shT : Sh → TypeId
  | .grid _ => 159
  | .fat _ _ => 161
  | .fly _ _ => 163
def shU (v : Value) : Sh → Value
  | .grid _ => v
  | .fat k n => .agg ⟨[.int .i64 k, .int .i64 n]⟩
  | .fly a h => .agg ⟨[.int .i64 a, .int .i64 h]⟩
abbrev shV (v : Value) (s : Sh) : Value := .iface (shT s) (shU v s)

def shR (v : Value) : Option Sh → Value
  | some s => .tuple ⟨[shV v s, .int .i64 0]⟩
  | none => .tuple ⟨[.nilIface, .int .i64 2]⟩

theorem powb {k : Int} (h0 : 0 ≤ k) (h1 : k ≤ 16) {n : Int} (hn : n ≤ 4) (i : Nat) (hi : (i : Int) ≤ n) : I64 (k ^ i) := by
  obtain ⟨q, rfl⟩ : ∃ q : Nat, k = q := ⟨k.toNat, by omega⟩
  have e1 : q ^ i ≤ 16 ^ i := Nat.pow_le_pow_left (by omega) i
  have e2 : 16 ^ i ≤ 16 ^ 4 := Nat.pow_le_pow_right (by decide) (by omega)
  have e3 : ((q : Int) ^ i) = ((q ^ i : Nat) : Int) := by simp
  rw [e3]; unfold I64; omega
theorem mulb {a b A B : Int} (ha : 0 ≤ a) (hA : a ≤ A) (hb : 0 ≤ b) (hB : b ≤ B) : 0 ≤ a * b ∧ a * b ≤ A * B :=
  ⟨Int.mul_nonneg ha hb, Int.mul_le_mul hA hB hb (Int.le_trans ha hA)⟩

theorem l57 (kind hosts : Int) (sides : List Int) : ACall Tryz.prog 50 [.agg ⟨[.int .i64 kind, sv 0 sides.length, .int .i64 hosts]⟩] [ro sides] (fun v H => v = shR (sv 0 sides.length) (shapeF kind sides hosts) ∧ H = [ro sides]) := by
  refine acall_drop (acall_vcg tok Tryz.call50 Tryz.func50 rfl Tryz.ntmps50 rfl (by simp) ?_)
  refine And.intro (by decide) ?_
  refine ⟨_, rfl, ?_⟩
  refine (x81 _ _ _ ?_).call
  refine And.intro (by decide) ?_
  refine ⟨_, rfl, ?_⟩
  refine And.intro (fun h1 => ?_) (fun h1 => ?_)
  · have h1 : kind = 1 := by simpa using h1
    refine And.intro (by decide) ?_
    refine ⟨_, rfl, ?_⟩
    refine vcg_loopR tok (fun p : Nat × Int => p.1 ≤ sides.length ∧ gridN (sides.drop p.1) p.2 = gridN sides 1 ∧ (p.1 : Int) + 1 ≤ p.2 ∧ p.2 ≤ 256)
      (fun p => [(1, .pointer (some ⟨1, 0, none⟩)), (4, .bool (betw hosts 1 4)), (5, .int .i64 p.2), (16, sv 0 sides.length), (17, .int .i64 sides.length), (18, .int .i64 p.1)])
      (fun _ => [ro sides, .cells true 1 [.int .i64 kind, sv 0 sides.length, .int .i64 hosts]]) (fun p => sides.length - p.1) (0, 1) ⟨Nat.zero_le _, rfl, by decide, by decide⟩ ?_ ?_
    · exact Or.inl ⟨⟨rfl, rfl, rfl, rfl, rfl, rfl, trivial⟩, rfl⟩
    rintro ⟨i, n⟩ ⟨hi, hg, hn1, hn2⟩
    simp only at hi hg hn1 hn2
    refine And.intro (fun hc => ?_) (fun hc => ?_)
    · have hlt : i < sides.length := by simpa using hc
      have hd : sides.drop i = sides[i]! :: sides.drop (i + 1) := by rw [getElem!_pos sides i hlt]; exact List.drop_eq_getElem_cons hlt
      rw [hd] at hg
      simp only [gridN] at hg
      refine ⟨i, rfl, hlt, ?_⟩
      refine Ld_ints i sides[i]! (by simp) (by simp [hlt]) ?_
      refine (x81 _ _ _ ?_).call
      refine And.intro (fun hb => ?_) (fun hb => ?_)
      · have hb' : betw sides[i]! 2 16 = true := by simpa using hb
        have hb2 : 2 ≤ sides[i]! ∧ sides[i]! ≤ 16 := by simpa [betw] using hb'
        have hmb := mulb (a := n) (b := sides[i]!) (A := 256) (B := 16) (by omega) hn2 (by omega) hb2.2
        (repeat (first | refine And.intro (fun _ => ?_) (fun h => absurd h (by decide)) | refine And.intro (fun h => absurd h (by decide)) (fun _ => ?_) | refine Exists.intro _ (And.intro rfl ?_) | refine And.intro (by decide) ?_ | refine And.intro (by omega) ?_ | refine Or.inl (Exists.intro _ (And.intro rfl (And.intro (by unfold I64; omega) ?_)))))
        refine Or.inl ⟨n * sides[i]!, rfl, by unfold I64; omega, ?_⟩
        (repeat (first | refine And.intro (fun _ => ?_) (fun h => absurd h (by decide)) | refine And.intro (fun h => absurd h (by decide)) (fun _ => ?_) | refine Exists.intro _ (And.intro rfl ?_) | refine And.intro (by decide) ?_ | refine And.intro (by omega) ?_ | refine Or.inl (Exists.intro _ (And.intro rfl (And.intro (by unfold I64; omega) ?_)))))
        refine And.intro (fun hd => ?_) (fun hd => ?_)
        · have hd : 256 < n * sides[i]! := by simpa using hd
          have : ¬ (n * sides[i]! ≤ 256) := by omega
          have e : shapeF kind sides hosts = none := by
            simp only [hb', Bool.true_and, decide_eq_true_eq, this, if_false] at hg
            simp [shapeF, h1, ← hg]
          rw [e]
          refine ⟨[(0, 0)], _, [ro sides], by simp, anch_of rfl, ⟨⟨_, rfl, BRen.ints _ _ _⟩, trivial⟩, rfl, VRen.plain rfl, rfl, rfl⟩
        · have hd : n * sides[i]! ≤ 256 := by simpa using hd
          refine Or.inl ⟨n * sides[i]!, rfl, by unfold I64; omega, ?_⟩
          refine Or.inl ⟨((i + 1 : Nat) : Int), by simp, by unfold I64; omega, ?_⟩
          refine ⟨(i + 1, n * sides[i]!), ⟨hlt, ?_, ?_, hd⟩, by simp; omega, .inl ⟨⟨rfl, rfl, rfl, rfl, rfl, rfl, trivial⟩, rfl⟩⟩
          · rw [← hg, hb', decide_eq_true hd]; simp only [Bool.and_self, if_true]
          · have := Int.mul_le_mul_of_nonneg_left hb2.1 (show 0 ≤ n by omega)
            simp only; omega
      · have hb' : betw sides[i]! 2 16 = false := by simpa using hb
        have e : shapeF kind sides hosts = none := by
          simp only [hb', Bool.false_and] at hg
          simp [shapeF, h1, ← hg]
        (repeat (first | refine And.intro (fun _ => ?_) (fun h => absurd h (by decide)) | refine And.intro (fun h => absurd h (by decide)) (fun _ => ?_) | refine Exists.intro _ (And.intro rfl ?_) | refine And.intro (by decide) ?_ | refine And.intro (by omega) ?_ | refine Or.inl (Exists.intro _ (And.intro rfl (And.intro (by unfold I64; omega) ?_)))))
        rw [e]
        refine ⟨[(0, 0)], _, [ro sides], by simp, anch_of rfl, ⟨⟨_, rfl, BRen.ints _ _ _⟩, trivial⟩, rfl, VRen.plain rfl, rfl, rfl⟩
    · have hlt : ¬ (i < sides.length) := by simpa using hc
      have hd : sides.drop i = [] := List.drop_eq_nil_of_le (by omega)
      rw [hd] at hg
      simp only [gridN] at hg
      refine And.intro (by decide) ?_
      refine ⟨_, rfl, ?_⟩
      refine (x81 _ _ _ ?_).call
      refine And.intro (fun hb => ?_) (fun hb => ?_)
      · (repeat (first | refine And.intro (fun _ => ?_) (fun h => absurd h (by decide)) | refine And.intro (fun h => absurd h (by decide)) (fun _ => ?_) | refine Exists.intro _ (And.intro rfl ?_) | refine And.intro (by decide) ?_ | refine And.intro (by omega) ?_ | refine Or.inl (Exists.intro _ (And.intro rfl (And.intro (by unfold I64; omega) ?_)))))
        refine And.intro (fun hh => ?_) (fun hh => ?_)
        · refine And.intro (by decide) ?_
          refine ⟨_, rfl, ?_⟩
          have e : shapeF kind sides hosts = some (.grid sides) := by simp [shapeF, h1, ← hg, hb, hh]
          rw [e]
          refine ⟨[(0, 0)], _, [ro sides], by simp, anch_of rfl, ⟨⟨_, rfl, BRen.ints _ _ _⟩, trivial⟩, rfl, VRen.tuple (.cons (.iface _ (VRen.slice rfl rfl (Nat.le_refl _))) (.cons (.int _ _) .nil)), rfl, rfl⟩
        · have e : shapeF kind sides hosts = none := by simp [shapeF, h1, ← hg, hb, hh]
          rw [e]
          refine ⟨[(0, 0)], _, [ro sides], by simp, anch_of rfl, ⟨⟨_, rfl, BRen.ints _ _ _⟩, trivial⟩, rfl, VRen.plain rfl, rfl, rfl⟩
      · (repeat (first | refine And.intro (fun _ => ?_) (fun h => absurd h (by decide)) | refine And.intro (fun h => absurd h (by decide)) (fun _ => ?_) | refine Exists.intro _ (And.intro rfl ?_) | refine And.intro (by decide) ?_ | refine And.intro (by omega) ?_ | refine Or.inl (Exists.intro _ (And.intro rfl (And.intro (by unfold I64; omega) ?_)))))
        have e : shapeF kind sides hosts = none := by simp [shapeF, h1, ← hg, hb]
        rw [e]
        refine ⟨[(0, 0)], _, [ro sides], by simp, anch_of rfl, ⟨⟨_, rfl, BRen.ints _ _ _⟩, trivial⟩, rfl, VRen.plain rfl, rfl, rfl⟩
  · have h1 : ¬ kind = 1 := by simpa using h1
    refine And.intro (fun h2 => ?_) (fun h2 => ?_)
    · have h2 : kind = 2 := by simpa using h2
      refine vcg_draw tok mx [0, 1, 3, 7, 15, 31, 63, 127, 255, 511, 1023, 2047, 4095, 8191, 16383, 32767, 65535, 131071, 262143, 524287, 1048575, 2097151, 4194303, 524287, 8912895, 25690111, 59244543, 134217727, 268435455, 536870911, 1073741823, 2147483647, 4294967295, 2147483647, 10737418239, 27917287423, 62277025791, 137438953471, 274877906943] [false, false, false, false, false, false, false, false, false, false, false, false, false, false, false, false, false, false, false, false, false, false, false, true, true, true, true, false, false, false, false, false, false, true, true, true, true, false, false] [0, 1, 2, 3, 4, 5, 6, 7, 8, 9, 10, 11, 12, 13, 14, 15, 16, 17, 18, 19, 20, 21, 22, 23, 24, 25, 26, 27, 28, 29, 30, 31, 32, 33, 34, 35, 36, 37, 38] (by kernel_rfl) ?_
      by_cases hl : sides.length = 2
      · obtain ⟨k, n, rfl⟩ : ∃ k n, sides = [k, n] := by
          match sides, hl with
          | [k, n], _ => exact ⟨k, n, rfl⟩
        (repeat (first | refine And.intro (fun _ => ?_) (fun h => absurd h (by decide)) | refine And.intro (fun h => absurd h (by decide)) (fun _ => ?_) | refine Exists.intro _ (And.intro rfl ?_) | refine And.intro (by decide) ?_ | refine And.intro (by omega) ?_ | refine Or.inl (Exists.intro _ (And.intro rfl (And.intro (by unfold I64; omega) ?_)))))
        refine And.intro (fun _ => ?_) (fun h => absurd h (by simp))
        (repeat (first | refine And.intro (fun _ => ?_) (fun h => absurd h (by decide)) | refine And.intro (fun h => absurd h (by decide)) (fun _ => ?_) | refine Exists.intro _ (And.intro rfl ?_) | refine And.intro (by decide) ?_ | refine And.intro (by omega) ?_ | refine Or.inl (Exists.intro _ (And.intro rfl (And.intro (by unfold I64; omega) ?_)))))
        refine And.intro (by simp) ?_
        (repeat (first | refine And.intro (fun _ => ?_) (fun h => absurd h (by decide)) | refine And.intro (fun h => absurd h (by decide)) (fun _ => ?_) | refine Exists.intro _ (And.intro rfl ?_) | refine And.intro (by decide) ?_ | refine And.intro (by omega) ?_ | refine Or.inl (Exists.intro _ (And.intro rfl (And.intro (by unfold I64; omega) ?_)))))
        (first | refine x81 _ _ _ ?_ | refine (x81 _ _ _ ?_).call)
        refine And.intro (fun hk => ?_) (fun hk => ?_)
        · have hk2 : 2 ≤ k ∧ k ≤ 8 := by simpa [betw] using hk
          (repeat (first | refine And.intro (fun _ => ?_) (fun h => absurd h (by decide)) | refine And.intro (fun h => absurd h (by decide)) (fun _ => ?_) | refine Exists.intro _ (And.intro rfl ?_) | refine And.intro (by decide) ?_ | refine And.intro (by omega) ?_ | refine Or.inl (Exists.intro _ (And.intro rfl (And.intro (by unfold I64; omega) ?_)))))
          refine And.intro (by simp) ?_
          (repeat (first | refine And.intro (fun _ => ?_) (fun h => absurd h (by decide)) | refine And.intro (fun h => absurd h (by decide)) (fun _ => ?_) | refine Exists.intro _ (And.intro rfl ?_) | refine And.intro (by decide) ?_ | refine And.intro (by omega) ?_ | refine Or.inl (Exists.intro _ (And.intro rfl (And.intro (by unfold I64; omega) ?_)))))
          (first | refine x81 _ _ _ ?_ | refine (x81 _ _ _ ?_).call)
          refine And.intro (fun hn => ?_) (fun hn => ?_)
          · have hn2 : 1 ≤ n ∧ n ≤ 4 := by simpa [betw] using hn
            (repeat (first | refine And.intro (fun _ => ?_) (fun h => absurd h (by decide)) | refine And.intro (fun h => absurd h (by decide)) (fun _ => ?_) | refine Exists.intro _ (And.intro rfl ?_) | refine And.intro (by decide) ?_ | refine And.intro (by omega) ?_ | refine Or.inl (Exists.intro _ (And.intro rfl (And.intro (by unfold I64; omega) ?_)))))
            refine And.intro (by simp) ?_
            (repeat (first | refine And.intro (fun _ => ?_) (fun h => absurd h (by decide)) | refine And.intro (fun h => absurd h (by decide)) (fun _ => ?_) | refine Exists.intro _ (And.intro rfl ?_) | refine And.intro (by decide) ?_ | refine And.intro (by omega) ?_ | refine Or.inl (Exists.intro _ (And.intro rfl (And.intro (by unfold I64; omega) ?_)))))
            refine And.intro (by simp) ?_
            (repeat (first | refine And.intro (fun _ => ?_) (fun h => absurd h (by decide)) | refine And.intro (fun h => absurd h (by decide)) (fun _ => ?_) | refine Exists.intro _ (And.intro rfl ?_) | refine And.intro (by decide) ?_ | refine And.intro (by omega) ?_ | refine Or.inl (Exists.intro _ (And.intro rfl (And.intro (by unfold I64; omega) ?_)))))
            (first | refine c82 k n (powb (by omega) (by omega) (by omega)) (by omega) ?_ | refine (c82 k n (powb (by omega) (by omega) (by omega)) (by omega) ?_).call)
            (repeat (first | refine And.intro (fun _ => ?_) (fun h => absurd h (by decide)) | refine And.intro (fun h => absurd h (by decide)) (fun _ => ?_) | refine Exists.intro _ (And.intro rfl ?_) | refine And.intro (by decide) ?_ | refine And.intro (by omega) ?_ | refine Or.inl (Exists.intro _ (And.intro rfl (And.intro (by unfold I64; omega) ?_)))))
            refine And.intro (fun hp => ?_) (fun hp => ?_)
            · (repeat (first | refine And.intro (fun _ => ?_) (fun h => absurd h (by decide)) | refine And.intro (fun h => absurd h (by decide)) (fun _ => ?_) | refine Exists.intro _ (And.intro rfl ?_) | refine And.intro (by decide) ?_ | refine And.intro (by omega) ?_ | refine Or.inl (Exists.intro _ (And.intro rfl (And.intro (by unfold I64; omega) ?_)))))
              refine And.intro (by simp) ?_
              (repeat (first | refine And.intro (fun _ => ?_) (fun h => absurd h (by decide)) | refine And.intro (fun h => absurd h (by decide)) (fun _ => ?_) | refine Exists.intro _ (And.intro rfl ?_) | refine And.intro (by decide) ?_ | refine And.intro (by omega) ?_ | refine Or.inl (Exists.intro _ (And.intro rfl (And.intro (by unfold I64; omega) ?_)))))
              refine And.intro (fun hh => ?_) (fun hh => ?_)
              · refine vcg_draw tok mx [0, 1, 3, 7, 0, 16, 48, 112, 255, 511, 1023, 2047] [false, false, false, false, true, true, true, true, false, false, false, false] [0, 1, 2, 3, 4, 5, 6, 7, 8, 9, 10, 11] (by kernel_rfl) ?_
                (repeat (first | refine And.intro (fun _ => ?_) (fun h => absurd h (by decide)) | refine And.intro (fun h => absurd h (by decide)) (fun _ => ?_) | refine Exists.intro _ (And.intro rfl ?_) | refine And.intro (by decide) ?_ | refine And.intro (by omega) ?_ | refine Or.inl (Exists.intro _ (And.intro rfl (And.intro (by unfold I64; omega) ?_)))))
                refine And.intro (by simp) ?_
                (repeat (first | refine And.intro (fun _ => ?_) (fun h => absurd h (by decide)) | refine And.intro (fun h => absurd h (by decide)) (fun _ => ?_) | refine Exists.intro _ (And.intro rfl ?_) | refine And.intro (by decide) ?_ | refine And.intro (by omega) ?_ | refine Or.inl (Exists.intro _ (And.intro rfl (And.intro (by unfold I64; omega) ?_)))))
                refine And.intro (by simp) ?_
                (repeat (first | refine And.intro (fun _ => ?_) (fun h => absurd h (by decide)) | refine And.intro (fun h => absurd h (by decide)) (fun _ => ?_) | refine Exists.intro _ (And.intro rfl ?_) | refine And.intro (by decide) ?_ | refine And.intro (by omega) ?_ | refine Or.inl (Exists.intro _ (And.intro rfl (And.intro (by unfold I64; omega) ?_)))))
                have e : shapeF kind [k, n] hosts = some (.fat k n) := by
                  simp only [decide_eq_true_eq] at hp hh
                  simp [shapeF, h2, hk, hn, hp, hh]
                rw [e]
                refine ⟨[(0, 0)], _, [ro [k, n]], by simp, anch_of rfl, ⟨⟨_, rfl, BRen.ints _ _ _⟩, trivial⟩, rfl, VRen.plain rfl, rfl, rfl⟩
              · (repeat (first | refine And.intro (fun _ => ?_) (fun h => absurd h (by decide)) | refine And.intro (fun h => absurd h (by decide)) (fun _ => ?_) | refine Exists.intro _ (And.intro rfl ?_) | refine And.intro (by decide) ?_ | refine And.intro (by omega) ?_ | refine Or.inl (Exists.intro _ (And.intro rfl (And.intro (by unfold I64; omega) ?_)))))
                have e : shapeF kind [k, n] hosts = none := by
                  have hh : ¬ hosts = k := by simpa using hh
                  simp [shapeF, h2, hh]
                rw [e]
                refine ⟨[(0, 0)], _, [ro [k, n]], by simp, anch_of rfl, ⟨⟨_, rfl, BRen.ints _ _ _⟩, trivial⟩, rfl, VRen.plain rfl, rfl, rfl⟩
            · (repeat (first | refine And.intro (fun _ => ?_) (fun h => absurd h (by decide)) | refine And.intro (fun h => absurd h (by decide)) (fun _ => ?_) | refine Exists.intro _ (And.intro rfl ?_) | refine And.intro (by decide) ?_ | refine And.intro (by omega) ?_ | refine Or.inl (Exists.intro _ (And.intro rfl (And.intro (by unfold I64; omega) ?_)))))
              have e : shapeF kind [k, n] hosts = none := by
                have hp : ¬ k ^ n.toNat ≤ 256 := by simpa using hp
                simp [shapeF, h2, hp]
              rw [e]
              refine ⟨[(0, 0)], _, [ro [k, n]], by simp, anch_of rfl, ⟨⟨_, rfl, BRen.ints _ _ _⟩, trivial⟩, rfl, VRen.plain rfl, rfl, rfl⟩
          · (repeat (first | refine And.intro (fun _ => ?_) (fun h => absurd h (by decide)) | refine And.intro (fun h => absurd h (by decide)) (fun _ => ?_) | refine Exists.intro _ (And.intro rfl ?_) | refine And.intro (by decide) ?_ | refine And.intro (by omega) ?_ | refine Or.inl (Exists.intro _ (And.intro rfl (And.intro (by unfold I64; omega) ?_)))))
            have e : shapeF kind [k, n] hosts = none := by simp [shapeF, h2, hn]
            rw [e]
            refine ⟨[(0, 0)], _, [ro [k, n]], by simp, anch_of rfl, ⟨⟨_, rfl, BRen.ints _ _ _⟩, trivial⟩, rfl, VRen.plain rfl, rfl, rfl⟩
        · (repeat (first | refine And.intro (fun _ => ?_) (fun h => absurd h (by decide)) | refine And.intro (fun h => absurd h (by decide)) (fun _ => ?_) | refine Exists.intro _ (And.intro rfl ?_) | refine And.intro (by decide) ?_ | refine And.intro (by omega) ?_ | refine Or.inl (Exists.intro _ (And.intro rfl (And.intro (by unfold I64; omega) ?_)))))
          have e : shapeF kind [k, n] hosts = none := by simp [shapeF, h2, hk]
          rw [e]
          refine ⟨[(0, 0)], _, [ro [k, n]], by simp, anch_of rfl, ⟨⟨_, rfl, BRen.ints _ _ _⟩, trivial⟩, rfl, VRen.plain rfl, rfl, rfl⟩
      · refine And.intro (by decide) ?_
        refine ⟨_, rfl, ?_⟩
        refine And.intro (fun h => absurd (show (sides.length : Int) = 2 by simpa using h) (by omega)) (fun _ => ?_)
        (repeat (first | refine And.intro (fun _ => ?_) (fun h => absurd h (by decide)) | refine And.intro (fun h => absurd h (by decide)) (fun _ => ?_) | refine Exists.intro _ (And.intro rfl ?_) | refine And.intro (by decide) ?_ | refine And.intro (by omega) ?_ | refine Or.inl (Exists.intro _ (And.intro rfl (And.intro (by unfold I64; omega) ?_)))))
        have e : shapeF kind sides hosts = none := by
          unfold shapeF
          rw [if_neg h1, if_pos h2]
          match sides, hl with
          | [], _ => rfl
          | [_], _ => rfl
          | _ :: _ :: _ :: _, _ => rfl
        rw [e]
        refine ⟨[(0, 0)], _, [ro sides], by simp, anch_of rfl, ⟨⟨_, rfl, BRen.ints _ _ _⟩, trivial⟩, rfl, VRen.plain rfl, rfl, rfl⟩
    · have h2 : ¬ kind = 2 := by simpa using h2
      refine And.intro (fun h3 => ?_) (fun h3 => ?_)
      · have h3 : kind = 3 := by simpa using h3
        refine vcg_draw tok mx [0, 1, 3, 7, 15, 31, 63, 127, 255, 511, 1023, 2047, 4095, 8191, 16383, 32767, 65535, 131071, 262143, 524287, 1048575, 2097151, 4194303, 8388607, 16777215, 33554431, 4194303, 71303167, 205520895, 473956351, 4194303, 1077936127, 3225419775, 7520387071, 17116954623, 34296823807, 68719476735, 137438953471, 274877906943] [false, false, false, false, false, false, false, false, false, false, false, false, false, false, false, false, false, false, false, false, false, false, false, false, false, false, true, true, true, true, true, true, true, true, true, true, false, false, false] [0, 1, 2, 3, 4, 5, 6, 7, 8, 9, 10, 11, 12, 13, 14, 15, 16, 17, 18, 19, 20, 21, 22, 23, 24, 25, 26, 27, 28, 29, 30, 31, 32, 33, 34, 35, 36, 37, 38] (by kernel_rfl) ?_
        by_cases hl : sides.length = 2
        · obtain ⟨a, b, rfl⟩ : ∃ a b, sides = [a, b] := by
            match sides, hl with
            | [a, b], _ => exact ⟨a, b, rfl⟩
          (repeat (first | refine And.intro (fun _ => ?_) (fun h => absurd h (by decide)) | refine And.intro (fun h => absurd h (by decide)) (fun _ => ?_) | refine Exists.intro _ (And.intro rfl ?_) | refine And.intro (by decide) ?_ | refine And.intro (by omega) ?_ | refine Or.inl (Exists.intro _ (And.intro rfl (And.intro (by unfold I64; omega) ?_)))))
          refine And.intro (fun _ => ?_) (fun h => absurd h (by simp))
          (repeat (first | refine And.intro (fun _ => ?_) (fun h => absurd h (by decide)) | refine And.intro (fun h => absurd h (by decide)) (fun _ => ?_) | refine Exists.intro _ (And.intro rfl ?_) | refine And.intro (by decide) ?_ | refine And.intro (by omega) ?_ | refine Or.inl (Exists.intro _ (And.intro rfl (And.intro (by unfold I64; omega) ?_)))))
          refine And.intro (by simp) ?_
          (repeat (first | refine And.intro (fun _ => ?_) (fun h => absurd h (by decide)) | refine And.intro (fun h => absurd h (by decide)) (fun _ => ?_) | refine Exists.intro _ (And.intro rfl ?_) | refine And.intro (by decide) ?_ | refine And.intro (by omega) ?_ | refine Or.inl (Exists.intro _ (And.intro rfl (And.intro (by unfold I64; omega) ?_)))))
          (first | refine x81 _ _ _ ?_ | refine (x81 _ _ _ ?_).call)
          (repeat (first | refine And.intro (fun _ => ?_) (fun h => absurd h (by decide)) | refine And.intro (fun h => absurd h (by decide)) (fun _ => ?_) | refine Exists.intro _ (And.intro rfl ?_) | refine And.intro (by decide) ?_ | refine And.intro (by omega) ?_ | refine Or.inl (Exists.intro _ (And.intro rfl (And.intro (by unfold I64; omega) ?_)))))
          refine And.intro (fun hk => ?_) (fun hk => ?_)
          · have hk2 : 1 ≤ a ∧ a ≤ 16 := by simpa [betw] using hk
            (repeat (first | refine And.intro (fun _ => ?_) (fun h => absurd h (by decide)) | refine And.intro (fun h => absurd h (by decide)) (fun _ => ?_) | refine Exists.intro _ (And.intro rfl ?_) | refine And.intro (by decide) ?_ | refine And.intro (by omega) ?_ | refine Or.inl (Exists.intro _ (And.intro rfl (And.intro (by unfold I64; omega) ?_)))))
            refine And.intro (by simp) ?_
            (repeat (first | refine And.intro (fun _ => ?_) (fun h => absurd h (by decide)) | refine And.intro (fun h => absurd h (by decide)) (fun _ => ?_) | refine Exists.intro _ (And.intro rfl ?_) | refine And.intro (by decide) ?_ | refine And.intro (by omega) ?_ | refine Or.inl (Exists.intro _ (And.intro rfl (And.intro (by unfold I64; omega) ?_)))))
            (first | refine x81 _ _ _ ?_ | refine (x81 _ _ _ ?_).call)
            (repeat (first | refine And.intro (fun _ => ?_) (fun h => absurd h (by decide)) | refine And.intro (fun h => absurd h (by decide)) (fun _ => ?_) | refine Exists.intro _ (And.intro rfl ?_) | refine And.intro (by decide) ?_ | refine And.intro (by omega) ?_ | refine Or.inl (Exists.intro _ (And.intro rfl (And.intro (by unfold I64; omega) ?_)))))
            refine And.intro (fun hn => ?_) (fun hn => ?_)
            · have hn2 : 1 ≤ b ∧ b ≤ 4 := by simpa [betw] using hn
              have hm := mulb (a := a) (b := b) (A := 16) (B := 4) (by omega) (by omega) (by omega) (by omega)
              have hm2 := mulb (a := a) (b := a * b + 1) (A := 16) (B := 65) (by omega) (by omega) (by omega) (by omega)
              (repeat (first | refine And.intro (fun _ => ?_) (fun h => absurd h (by decide)) | refine And.intro (fun h => absurd h (by decide)) (fun _ => ?_) | refine Exists.intro _ (And.intro rfl ?_) | refine And.intro (by decide) ?_ | refine And.intro (by omega) ?_ | refine Or.inl (Exists.intro _ (And.intro rfl (And.intro (by unfold I64; omega) ?_)))))
              refine And.intro (fun hh => ?_) (fun hh => ?_)
              · (repeat (first | refine And.intro (fun _ => ?_) (fun h => absurd h (by decide)) | refine And.intro (fun h => absurd h (by decide)) (fun _ => ?_) | refine Exists.intro _ (And.intro rfl ?_) | refine And.intro (by decide) ?_ | refine And.intro (by omega) ?_ | refine Or.inl (Exists.intro _ (And.intro rfl (And.intro (by unfold I64; omega) ?_)))))
                refine And.intro (by simp) ?_
                (repeat (first | refine And.intro (fun _ => ?_) (fun h => absurd h (by decide)) | refine And.intro (fun h => absurd h (by decide)) (fun _ => ?_) | refine Exists.intro _ (And.intro rfl ?_) | refine And.intro (by decide) ?_ | refine And.intro (by omega) ?_ | refine Or.inl (Exists.intro _ (And.intro rfl (And.intro (by unfold I64; omega) ?_)))))
                refine And.intro (by simp) ?_
                (repeat (first | refine And.intro (fun _ => ?_) (fun h => absurd h (by decide)) | refine And.intro (fun h => absurd h (by decide)) (fun _ => ?_) | refine Exists.intro _ (And.intro rfl ?_) | refine And.intro (by decide) ?_ | refine And.intro (by omega) ?_ | refine Or.inl (Exists.intro _ (And.intro rfl (And.intro (by unfold I64; omega) ?_)))))
                refine And.intro (by simp) ?_
                (repeat (first | refine And.intro (fun _ => ?_) (fun h => absurd h (by decide)) | refine And.intro (fun h => absurd h (by decide)) (fun _ => ?_) | refine Exists.intro _ (And.intro rfl ?_) | refine And.intro (by decide) ?_ | refine And.intro (by omega) ?_ | refine Or.inl (Exists.intro _ (And.intro rfl (And.intro (by unfold I64; omega) ?_)))))
                refine And.intro (fun hp => ?_) (fun hp => ?_)
                · refine vcg_draw tok mx [0, 1, 3, 7, 0, 16, 48, 112, 255, 511, 1023, 2047] [false, false, false, false, true, true, true, true, false, false, false, false] [0, 1, 2, 3, 4, 5, 6, 7, 8, 9, 10, 11] (by kernel_rfl) ?_
                  (repeat (first | refine And.intro (fun _ => ?_) (fun h => absurd h (by decide)) | refine And.intro (fun h => absurd h (by decide)) (fun _ => ?_) | refine Exists.intro _ (And.intro rfl ?_) | refine And.intro (by decide) ?_ | refine And.intro (by omega) ?_ | refine Or.inl (Exists.intro _ (And.intro rfl (And.intro (by unfold I64; omega) ?_)))))
                  refine And.intro (by simp) ?_
                  (repeat (first | refine And.intro (fun _ => ?_) (fun h => absurd h (by decide)) | refine And.intro (fun h => absurd h (by decide)) (fun _ => ?_) | refine Exists.intro _ (And.intro rfl ?_) | refine And.intro (by decide) ?_ | refine And.intro (by omega) ?_ | refine Or.inl (Exists.intro _ (And.intro rfl (And.intro (by unfold I64; omega) ?_)))))
                  refine And.intro (by simp) ?_
                  (repeat (first | refine And.intro (fun _ => ?_) (fun h => absurd h (by decide)) | refine And.intro (fun h => absurd h (by decide)) (fun _ => ?_) | refine Exists.intro _ (And.intro rfl ?_) | refine And.intro (by decide) ?_ | refine And.intro (by omega) ?_ | refine Or.inl (Exists.intro _ (And.intro rfl (And.intro (by unfold I64; omega) ?_)))))
                  have hp : a * (a * b + 1) ≤ 256 := by simpa using hp
                  have e : shapeF kind [a, b] hosts = some (.fly a b) := by simp [shapeF, h3, hk, hn, hp, hh]
                  rw [e]
                  refine ⟨[(0, 0)], _, [ro [a, b]], by simp, anch_of rfl, ⟨⟨_, rfl, BRen.ints _ _ _⟩, trivial⟩, rfl, VRen.plain rfl, rfl, rfl⟩
                · (repeat (first | refine And.intro (fun _ => ?_) (fun h => absurd h (by decide)) | refine And.intro (fun h => absurd h (by decide)) (fun _ => ?_) | refine Exists.intro _ (And.intro rfl ?_) | refine And.intro (by decide) ?_ | refine And.intro (by omega) ?_ | refine Or.inl (Exists.intro _ (And.intro rfl (And.intro (by unfold I64; omega) ?_)))))
                  have hp : ¬ a * (a * b + 1) ≤ 256 := by simpa using hp
                  have e : shapeF kind [a, b] hosts = none := by simp [shapeF, h3, hp]
                  rw [e]
                  refine ⟨[(0, 0)], _, [ro [a, b]], by simp, anch_of rfl, ⟨⟨_, rfl, BRen.ints _ _ _⟩, trivial⟩, rfl, VRen.plain rfl, rfl, rfl⟩
              · (repeat (first | refine And.intro (fun _ => ?_) (fun h => absurd h (by decide)) | refine And.intro (fun h => absurd h (by decide)) (fun _ => ?_) | refine Exists.intro _ (And.intro rfl ?_) | refine And.intro (by decide) ?_ | refine And.intro (by omega) ?_ | refine Or.inl (Exists.intro _ (And.intro rfl (And.intro (by unfold I64; omega) ?_)))))
                have hh : betw hosts 1 4 = false := by simpa using hh
                have e : shapeF kind [a, b] hosts = none := by simp [shapeF, h3, hh]
                rw [e]
                refine ⟨[(0, 0)], _, [ro [a, b]], by simp, anch_of rfl, ⟨⟨_, rfl, BRen.ints _ _ _⟩, trivial⟩, rfl, VRen.plain rfl, rfl, rfl⟩
            · (repeat (first | refine And.intro (fun _ => ?_) (fun h => absurd h (by decide)) | refine And.intro (fun h => absurd h (by decide)) (fun _ => ?_) | refine Exists.intro _ (And.intro rfl ?_) | refine And.intro (by decide) ?_ | refine And.intro (by omega) ?_ | refine Or.inl (Exists.intro _ (And.intro rfl (And.intro (by unfold I64; omega) ?_)))))
              have hn : betw b 1 4 = false := by simpa using hn
              have e : shapeF kind [a, b] hosts = none := by simp [shapeF, h3, hn]
              rw [e]
              refine ⟨[(0, 0)], _, [ro [a, b]], by simp, anch_of rfl, ⟨⟨_, rfl, BRen.ints _ _ _⟩, trivial⟩, rfl, VRen.plain rfl, rfl, rfl⟩
          · (repeat (first | refine And.intro (fun _ => ?_) (fun h => absurd h (by decide)) | refine And.intro (fun h => absurd h (by decide)) (fun _ => ?_) | refine Exists.intro _ (And.intro rfl ?_) | refine And.intro (by decide) ?_ | refine And.intro (by omega) ?_ | refine Or.inl (Exists.intro _ (And.intro rfl (And.intro (by unfold I64; omega) ?_)))))
            have hk : betw a 1 16 = false := by simpa using hk
            have e : shapeF kind [a, b] hosts = none := by simp [shapeF, h3, hk]
            rw [e]
            refine ⟨[(0, 0)], _, [ro [a, b]], by simp, anch_of rfl, ⟨⟨_, rfl, BRen.ints _ _ _⟩, trivial⟩, rfl, VRen.plain rfl, rfl, rfl⟩
        · refine And.intro (by decide) ?_
          refine ⟨_, rfl, ?_⟩
          refine And.intro (fun h => absurd (show (sides.length : Int) = 2 by simpa using h) (by omega)) (fun _ => ?_)
          (repeat (first | refine And.intro (fun _ => ?_) (fun h => absurd h (by decide)) | refine And.intro (fun h => absurd h (by decide)) (fun _ => ?_) | refine Exists.intro _ (And.intro rfl ?_) | refine And.intro (by decide) ?_ | refine And.intro (by omega) ?_ | refine Or.inl (Exists.intro _ (And.intro rfl (And.intro (by unfold I64; omega) ?_)))))
          have e : shapeF kind sides hosts = none := by
            unfold shapeF
            rw [if_neg h1, if_neg h2, if_pos h3]
            match sides, hl with
            | [], _ => rfl
            | [_], _ => rfl
            | _ :: _ :: _ :: _, _ => rfl
          rw [e]
          refine ⟨[(0, 0)], _, [ro sides], by simp, anch_of rfl, ⟨⟨_, rfl, BRen.ints _ _ _⟩, trivial⟩, rfl, VRen.plain rfl, rfl, rfl⟩
      · have h3 : ¬ kind = 3 := by simpa using h3
        have e : shapeF kind sides hosts = none := by
          unfold shapeF
          rw [if_neg h1, if_neg h2, if_neg h3]
        rw [e]
        refine ⟨[(0, 0)], _, [ro sides], by simp, anch_of rfl, ⟨⟨_, rfl, BRen.ints _ _ _⟩, trivial⟩, rfl, VRen.plain rfl, rfl, rfl⟩
end Go.Af.Tryz
namespace Go.Af.Tryz
open Go Go.Proofs
attribute [local irreducible] awp ACall ACallX AYield

/-- A specification of a network as an argument. -/
abbrev spV (kind : Int) (v : Value) (hosts : Int) : Value := .agg ⟨[.int .i64 kind, v, .int .i64 hosts]⟩

theorem vback_sv {ι : List (Nat × Nat)} {j i n c : Nat} (h : ι[j]? = some (i, 0)) : VBack ι (.slice (some ⟨j, 0, none⟩) n c) (.slice (some ⟨i, 0, none⟩) n c) := by
  have := VBack.slice (o := 0) (l := n) (c := c) h
  simpa using this
theorem vback_shR {ι : List (Nat × Nat)} {j i n : Nat} (h : ι[j]? = some (i, 0)) (s : Option Sh) : VBack ι (shR (sv j n) s) (shR (sv i n) s) := by
  match s with
  | none => exact VBack.plain rfl
  | some (.grid g) => exact VBack.tuple (.cons (.iface _ (vback_sv h)) (.cons (.int _ _) .nil))
  | some (.fat k n) => exact VBack.plain rfl
  | some (.fly k n) => exact VBack.plain rfl

theorem c57 {H : List Blk} {R : Value → List Blk → Prop} {b c : Nat} {wr : Bool} {sides : List Int} (kind hosts : Int) (hb : bget H b = some (.cells wr 1 (ints sides))) (hc : sides.length ≤ c)
    (h : R (shR (sv b sides.length) (shapeF kind sides hosts)) H) : ACallX Tryz.prog 50 [spV kind (.slice (some ⟨b, 0, none⟩) sides.length c) hosts] H R :=
  acallx_ro (l57 kind hosts sides) [(b, 0)] rfl (.cons (.agg (.cons (.int _ _) (.cons (VRen.slice rfl rfl hc) (.cons (.int _ _) .nil)))) .nil)
    ⟨⟨_, hb, BRen.seg fun i x hx => by rw [Nat.zero_add, ints_get, hx]; rfl⟩, trivial⟩ (by
      rintro v2 H2' ⟨rfl, rfl⟩
      exact ⟨_, [], [], by simp, rfl, fun k b2 hk => by simp at hk, vback_shR rfl _, by simpa using h⟩)
end Go.Af.Tryz
namespace Go.Af.Tryz
open Go Go.Proofs
attribute [local irreducible] awp ACall ACallX AYield

theorem powle {k : Int} (h0 : 0 ≤ k) (h1 : k ≤ 16) (i : Nat) (hi : i ≤ 4) : 0 ≤ k ^ i ∧ k ^ i ≤ 65536 := by
  obtain ⟨q, rfl⟩ : ∃ q : Nat, k = q := ⟨k.toNat, by omega⟩
  have e1 : q ^ i ≤ 16 ^ i := Nat.pow_le_pow_left (by omega) i
  have e2 : 16 ^ i ≤ 16 ^ 4 := Nat.pow_le_pow_right (by decide) hi
  have e3 : ((q : Int) ^ i) = ((q ^ i : Nat) : Int) := by simp
  rw [e3]; omega

def prodF (g : List Int) : Int := g.foldl (fun n m => n * m) 1
theorem prodF_snoc (g : List Int) (i : Nat) (hi : i < g.length) : prodF (g.take (i + 1)) = prodF (g.take i) * g[i]! := by
  unfold prodF
  rw [List.take_succ_eq_append_getElem hi, List.foldl_append, getElem!_pos g i hi]; rfl
end Go.Af.Tryz
namespace Go.Af
open Go
end Go.Af
namespace Go.Af.Tryz
open Go Go.Proofs
attribute [local irreducible] awp ACall ACallX AYield AInvoke AInvokeX

theorem prod_take (g : List Int) : ∀ (n k : Int), 1 ≤ n → gridN g n = some k → (∀ m ∈ g, 2 ≤ m ∧ m ≤ 16) ∧ ∀ i, 1 ≤ (g.take i).foldl (fun n m => n * m) n ∧ ((g.take i).foldl (fun n m => n * m) n ≤ 256 ∨ i = 0 ∨ g = []) := by
  induction g with
  | nil => intro n k hn h; exact ⟨fun m hm => (by cases hm), fun i => (by simp [hn])⟩
  | cons m r ih =>
    intro n k hn h
    simp only [gridN] at h
    split at h
    · rename_i hc
      simp only [betw, Bool.and_eq_true, decide_eq_true_eq] at hc
      have h1 : 1 ≤ n * m := by
        have := Int.mul_le_mul hn (show (1 : Int) ≤ m by omega) (by decide) (by omega)
        simpa using this
      obtain ⟨k1, k2⟩ := ih (n * m) k h1 h
      refine ⟨fun x hx => ?_, fun i => ?_⟩
      · rcases List.mem_cons.1 hx with rfl | hx
        · exact ⟨hc.1.1, hc.1.2⟩
        · exact k1 x hx
      · cases i with
        | zero => exact ⟨by simpa using hn, .inr (.inl rfl)⟩
        | succ i =>
          refine ⟨by simpa using (k2 i).1, .inl ?_⟩
          rcases (k2 i).2 with h3 | rfl | rfl
          · simpa using h3
          · simpa using hc.2
          · simpa using hc.2
    · cases h

end Go.Af.Tryz
namespace Go.Af.Tryz
open Go Go.Proofs
attribute [local irreducible] awp ACall ACallX AYield AInvoke AInvokeX

/-! The reference's small functions. -/
theorem l60 (n lo hi : Int) : ACall Tryz.prog 55 [.int .i64 n, .int .i64 lo, .int .i64 hi] [] (fun v H => v = .bool (betw n lo hi) ∧ H = []) := by
  refine acall_vcg tok Tryz.call55 Tryz.func55 rfl Tryz.ntmps55 rfl (by simp) ?_
  refine And.intro (fun h1 => ?_) (fun h1 => ?_)
  all_goals repeat (first | refine And.intro (fun _ => ?_) (fun h => absurd h (by decide)) | refine And.intro (fun h => absurd h (by decide)) (fun _ => ?_))
  · exact ⟨by show Value.bool _ = _; rw [betw, h1, Bool.true_and], rfl⟩
  · exact ⟨by show Value.bool _ = _; rw [betw, h1]; rfl, rfl⟩
theorem x60 {H : List Blk} {R : Value → List Blk → Prop} (n lo hi : Int) (h : R (.bool (betw n lo hi)) H) : ACallX Tryz.prog 55 [.int .i64 n, .int .i64 lo, .int .i64 hi] H R :=
  acallx_s (l60 n lo hi) [] rfl (.cons (.int _ _) (.cons (.int _ _) (.cons (.int _ _) .nil))) trivial rfl h

/-- A specification that lies at b: its sides are read. -/
theorem acallx_sp {f : FuncId} {H : List Blk} {R : Value → List Blk → Prop} {b c : Nat} {wr : Bool} {sides : List Int} {kind hosts : Int} {xs : List Value} {V : Value} (hp : xs.all (plainV 6) = true)
    (hc : ACall Tryz.prog f (spV kind (sv 0 sides.length) hosts :: xs) [ro sides] (fun v H' => v = V ∧ H' = [ro sides])) (hb : bget H b = some (.cells wr 1 (ints sides))) (hl : sides.length ≤ c) (hV : plainV 6 V = true) (h : R V H) :
    ACallX Tryz.prog f (spV kind (.slice (some ⟨b, 0, none⟩) sides.length c) hosts :: xs) H R :=
  acallx_s hc [(b, 0)] rfl (.cons (.agg (.cons (.int _ _) (.cons (VRen.slice rfl rfl hl) (.cons (.int _ _) .nil)))) (LRen.of rfl fun i x2 x h1 h2 => by
      rw [h1] at h2; cases h2
      rw [List.all_eq_true] at hp
      exact VRen.plain (hp x2 (List.mem_of_getElem? h1))))
    ⟨⟨_, hb, BRen.seg fun i x hx => by rw [Nat.zero_add, ints_get, hx]; rfl⟩, trivial⟩ hV h
end Go.Af.Tryz
