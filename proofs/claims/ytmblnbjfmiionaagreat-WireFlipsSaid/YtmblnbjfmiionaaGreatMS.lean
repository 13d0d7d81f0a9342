/-
  The seat's types, and the orders of its drawn regions.
-/
import Derived.Test.YtmblnbjfmiionaaGreatMDA
import Derived.Test.YtmblnbjfmiionaaGreatMB
import Derived.Test.YtmblnbjfmiionaaGreatProg
import Derived.KernelRfl
set_option linter.all false
namespace Go.Af.Tryz
open Go Go.Proofs
def T : TT := [(3, ⟨.int .i64, 1, 8, .int .i64 0⟩),
  (28, ⟨.slice 3, 1, 24, .slice none 0 0⟩),
  (146, ⟨.struct [(0, 103), (1, 96), (2, 4), (3, 139), (6, 93)], 7, 72, .agg #[.pointer none, .pointer none, .bool false, .int .i64 0, .int .i64 0, .int .i64 0, .slice none 0 0]⟩),
  (37, ⟨.struct [(0, 3), (1, 28), (2, 3)], 3, 40, .agg #[.int .i64 0, .slice none 0 0, .int .i64 0]⟩),
  (49, ⟨.struct [(0, 47), (1, 3), (2, 3), (3, 3)], 4, 48, .agg #[.slice none 0 0, .int .i64 0, .int .i64 0, .int .i64 0]⟩),
  (4, ⟨.bool, 1, 1, .bool false⟩),
  (143, ⟨.slice 146, 1, 24, .slice none 0 0⟩),
  (33, ⟨.struct [(0, 30), (3, 3), (4, 4), (5, 3), (6, 3), (7, 31)], 8, 80, .agg #[.int .i64 0, .slice none 0 0, .int .i64 0, .int .i64 0, .bool false, .int .i64 0, .int .i64 0, .int .u64 0]⟩),
  (46, ⟨.struct [(0, 3), (1, 3), (2, 3), (3, 22)], 4, 48, .agg #[.int .i64 0, .int .i64 0, .int .i64 0, .slice none 0 0]⟩),
  (154, ⟨.struct [(0, 121), (1, 114), (2, 4), (3, 3), (4, 3), (5, 3), (6, 4), (7, 4)], 8, 56, .agg #[.pointer none, .pointer none, .bool false, .int .i64 0, .int .i64 0, .int .i64 0, .bool false, .bool false]⟩),
  (30, ⟨.struct [(0, 3), (1, 28), (2, 3)], 3, 40, .agg #[.int .i64 0, .slice none 0 0, .int .i64 0]⟩),
  (22, ⟨.slice 5, 1, 24, .slice none 0 0⟩),
  (53, ⟨.struct [(0, 3), (1, 3), (2, 28), (3, 22)], 4, 64, .agg #[.int .i64 0, .int .i64 0, .slice none 0 0, .slice none 0 0]⟩),
  (47, ⟨.slice 53, 1, 24, .slice none 0 0⟩),
  (113, ⟨.struct [(0, 39), (8, 31), (9, 110), (10, 111), (11, 90), (12, 56)], 16, 192, .agg #[.int .i64 0, .slice none 0 0, .int .i64 0, .int .i64 0, .bool false, .int .i64 0, .int .i64 0, .int .u64 0, .int .u64 0, .slice none 0 0, .slice none 0 0, .map none, .slice none 0 0, .int .i64 0, .int .i64 0, .int .i64 0]⟩),
  (34, ⟨.int .i64, 1, 8, .int .i64 0⟩),
  (95, ⟨.struct [(0, 33), (8, 87), (9, 92), (10, 88), (11, 88), (12, 89), (13, 93), (14, 90), (15, 91), (16, 49)], 20, 224, .agg #[.int .i64 0, .slice none 0 0, .int .i64 0, .int .i64 0, .bool false, .int .i64 0, .int .i64 0, .int .u64 0, .nilFunc, .slice none 0 0, .map none, .map none, .map none, .slice none 0 0, .map none, .map none, .slice none 0 0, .int .i64 0, .int .i64 0, .int .i64 0]⟩),
  (31, ⟨.int .u64, 1, 8, .int .u64 0⟩),
  (139, ⟨.struct [(0, 3), (1, 3), (2, 3)], 3, 24, .agg #[.int .i64 0, .int .i64 0, .int .i64 0]⟩),
  (123, ⟨.struct [(0, 120), (4, 3), (5, 3), (6, 28), (7, 4), (8, 28), (9, 28), (10, 3), (11, 3), (12, 3)], 13, 168, .agg #[.int .i64 0, .int .i64 0, .int .i64 0, .slice none 0 0, .int .i64 0, .int .i64 0, .slice none 0 0, .bool false, .slice none 0 0, .slice none 0 0, .int .i64 0, .int .i64 0, .int .i64 0]⟩),
  (5, ⟨.int .u8, 1, 1, .int .u8 0⟩),
  (110, ⟨.slice 121, 1, 24, .slice none 0 0⟩),
  (24, ⟨.int .u16, 1, 2, .int .u16 0⟩),
  (39, ⟨.struct [(0, 37), (3, 3), (4, 4), (5, 3), (6, 3), (7, 31)], 8, 80, .agg #[.int .i64 0, .slice none 0 0, .int .i64 0, .int .i64 0, .bool false, .int .i64 0, .int .i64 0, .int .u64 0]⟩),
  (163, ⟨.struct [(0, 3), (1, 3)], 2, 16, .agg #[.int .i64 0, .int .i64 0]⟩),
  (105, ⟨.struct [(0, 3), (1, 3), (2, 3), (3, 22), (4, 28), (5, 93), (6, 4), (7, 3)], 8, 112, .agg #[.int .i64 0, .int .i64 0, .int .i64 0, .slice none 0 0, .slice none 0 0, .slice none 0 0, .bool false, .int .i64 0]⟩),
  (161, ⟨.struct [(0, 3), (1, 3)], 2, 16, .agg #[.int .i64 0, .int .i64 0]⟩),
  (111, ⟨.slice 114, 1, 24, .slice none 0 0⟩),
  (42, ⟨.slice 46, 1, 24, .slice none 0 0⟩),
  (116, ⟨.struct [(0, 3), (1, 3), (2, 3), (3, 3), (4, 110), (5, 110)], 6, 80, .agg #[.int .i64 0, .int .i64 0, .int .i64 0, .int .i64 0, .slice none 0 0, .slice none 0 0]⟩),
  (56, ⟨.struct [(0, 54), (1, 3), (2, 3), (3, 3)], 4, 48, .agg #[.slice none 0 0, .int .i64 0, .int .i64 0, .int .i64 0]⟩),
  (88, ⟨.map 139 96, 1, 8, .map none⟩),
  (121, ⟨.ptr 123, 1, 8, .pointer none⟩),
  (93, ⟨.slice 139, 1, 24, .slice none 0 0⟩),
  (120, ⟨.struct [(0, 3), (1, 3), (2, 3), (3, 22)], 4, 48, .agg #[.int .i64 0, .int .i64 0, .int .i64 0, .slice none 0 0]⟩),
  (238, ⟨.int .u64, 1, 8, .int .u64 0⟩),
  (103, ⟨.ptr 105, 1, 8, .pointer none⟩),
  (64, ⟨.int .u64, 1, 8, .int .u64 0⟩),
  (152, ⟨.slice 154, 1, 24, .slice none 0 0⟩),
  (159, ⟨.slice 3, 1, 24, .slice none 0 0⟩),
  (185, ⟨.arr 2 3, 2, 16, .agg #[.int .i64 0, .int .i64 0]⟩),
  (9, ⟨.str, 1, 16, .string ⟨#[]⟩⟩),
  (114, ⟨.ptr 116, 1, 8, .pointer none⟩),
  (226, ⟨.int .u32, 1, 4, .int .u32 0⟩),
  (65, ⟨.arr 3 3, 3, 24, .agg #[.int .i64 0, .int .i64 0, .int .i64 0]⟩),
  (89, ⟨.map 139 3, 1, 8, .map none⟩),
  (99, ⟨.struct [(0, 97)], 1, 24, .agg #[.slice none 0 0]⟩),
  (90, ⟨.map 185 3, 1, 8, .map none⟩),
  (97, ⟨.slice 103, 1, 24, .slice none 0 0⟩),
  (173, ⟨.map 179 146, 1, 8, .map none⟩),
  (198, ⟨.struct [(0, 28), (1, 3)], 2, 32, .agg #[.slice none 0 0, .int .i64 0]⟩),
  (125, ⟨.struct [(0, 3), (1, 3), (2, 28), (3, 22)], 4, 64, .agg #[.int .i64 0, .int .i64 0, .slice none 0 0, .slice none 0 0]⟩),
  (54, ⟨.slice 125, 1, 24, .slice none 0 0⟩),
  (85, ⟨.int .u64, 1, 8, .int .u64 0⟩),
  (92, ⟨.slice 96, 1, 24, .slice none 0 0⟩),
  (59, ⟨.slice 120, 1, 24, .slice none 0 0⟩),
  (86, ⟨.ptr 95, 1, 8, .pointer none⟩),
  (75, ⟨.slice 4, 1, 24, .slice none 0 0⟩),
  (91, ⟨.map 185 28, 1, 8, .map none⟩),
  (96, ⟨.ptr 99, 1, 8, .pointer none⟩),
  (179, ⟨.struct [(0, 4), (1, 3), (2, 3)], 3, 24, .agg #[.bool false, .int .i64 0, .int .i64 0]⟩),
  (73, ⟨.slice 28, 1, 24, .slice none 0 0⟩),
  (87, ⟨.func, 1, 8, .nilFunc⟩),
  (219, ⟨.int .i64, 1, 8, .int .i64 0⟩),
  (142, ⟨.map 96 139, 1, 8, .map none⟩),
  (63, ⟨.arr 3 24, 3, 6, .agg #[.int .u16 0, .int .u16 0, .int .u16 0]⟩),
  (81, ⟨.slice 65, 1, 24, .slice none 0 0⟩),
  (166, ⟨.func, 1, 8, .nilFunc⟩)]
theorem ti3 : TIOk Tryz.prog 3 ⟨.int .i64, 1, 8, .int .i64 0⟩ := ⟨Tryz.underlying3, by kernel_rfl, rfl⟩
theorem ti28 : TIOk Tryz.prog 28 ⟨.slice 3, 1, 24, .slice none 0 0⟩ := ⟨Tryz.underlying28, by kernel_rfl, rfl⟩
theorem ti146 : TIOk Tryz.prog 146 ⟨.struct [(0, 103), (1, 96), (2, 4), (3, 139), (6, 93)], 7, 72, .agg #[.pointer none, .pointer none, .bool false, .int .i64 0, .int .i64 0, .int .i64 0, .slice none 0 0]⟩ := ⟨⟨_, Tryz.underlying146, rfl⟩, by kernel_rfl, rfl⟩
theorem ti37 : TIOk Tryz.prog 37 ⟨.struct [(0, 3), (1, 28), (2, 3)], 3, 40, .agg #[.int .i64 0, .slice none 0 0, .int .i64 0]⟩ := ⟨⟨_, Tryz.underlying37, rfl⟩, by kernel_rfl, rfl⟩
theorem ti49 : TIOk Tryz.prog 49 ⟨.struct [(0, 47), (1, 3), (2, 3), (3, 3)], 4, 48, .agg #[.slice none 0 0, .int .i64 0, .int .i64 0, .int .i64 0]⟩ := ⟨⟨_, Tryz.underlying49, rfl⟩, by kernel_rfl, rfl⟩
theorem ti4 : TIOk Tryz.prog 4 ⟨.bool, 1, 1, .bool false⟩ := ⟨Tryz.underlying4, by kernel_rfl, rfl⟩
theorem ti143 : TIOk Tryz.prog 143 ⟨.slice 146, 1, 24, .slice none 0 0⟩ := ⟨Tryz.underlying143, by kernel_rfl, rfl⟩
theorem ti33 : TIOk Tryz.prog 33 ⟨.struct [(0, 30), (3, 3), (4, 4), (5, 3), (6, 3), (7, 31)], 8, 80, .agg #[.int .i64 0, .slice none 0 0, .int .i64 0, .int .i64 0, .bool false, .int .i64 0, .int .i64 0, .int .u64 0]⟩ := ⟨⟨_, Tryz.underlying33, rfl⟩, by kernel_rfl, rfl⟩
theorem ti46 : TIOk Tryz.prog 46 ⟨.struct [(0, 3), (1, 3), (2, 3), (3, 22)], 4, 48, .agg #[.int .i64 0, .int .i64 0, .int .i64 0, .slice none 0 0]⟩ := ⟨⟨_, Tryz.underlying46, rfl⟩, by kernel_rfl, rfl⟩
theorem ti154 : TIOk Tryz.prog 154 ⟨.struct [(0, 121), (1, 114), (2, 4), (3, 3), (4, 3), (5, 3), (6, 4), (7, 4)], 8, 56, .agg #[.pointer none, .pointer none, .bool false, .int .i64 0, .int .i64 0, .int .i64 0, .bool false, .bool false]⟩ := ⟨⟨_, Tryz.underlying154, rfl⟩, by kernel_rfl, rfl⟩
theorem ti30 : TIOk Tryz.prog 30 ⟨.struct [(0, 3), (1, 28), (2, 3)], 3, 40, .agg #[.int .i64 0, .slice none 0 0, .int .i64 0]⟩ := ⟨⟨_, Tryz.underlying30, rfl⟩, by kernel_rfl, rfl⟩
theorem ti22 : TIOk Tryz.prog 22 ⟨.slice 5, 1, 24, .slice none 0 0⟩ := ⟨Tryz.underlying22, by kernel_rfl, rfl⟩
theorem ti53 : TIOk Tryz.prog 53 ⟨.struct [(0, 3), (1, 3), (2, 28), (3, 22)], 4, 64, .agg #[.int .i64 0, .int .i64 0, .slice none 0 0, .slice none 0 0]⟩ := ⟨⟨_, Tryz.underlying53, rfl⟩, by kernel_rfl, rfl⟩
theorem ti47 : TIOk Tryz.prog 47 ⟨.slice 53, 1, 24, .slice none 0 0⟩ := ⟨Tryz.underlying47, by kernel_rfl, rfl⟩
theorem ti113 : TIOk Tryz.prog 113 ⟨.struct [(0, 39), (8, 31), (9, 110), (10, 111), (11, 90), (12, 56)], 16, 192, .agg #[.int .i64 0, .slice none 0 0, .int .i64 0, .int .i64 0, .bool false, .int .i64 0, .int .i64 0, .int .u64 0, .int .u64 0, .slice none 0 0, .slice none 0 0, .map none, .slice none 0 0, .int .i64 0, .int .i64 0, .int .i64 0]⟩ := ⟨⟨_, Tryz.underlying113, rfl⟩, by kernel_rfl, rfl⟩
theorem ti34 : TIOk Tryz.prog 34 ⟨.int .i64, 1, 8, .int .i64 0⟩ := ⟨Tryz.underlying34, by kernel_rfl, rfl⟩
theorem ti95 : TIOk Tryz.prog 95 ⟨.struct [(0, 33), (8, 87), (9, 92), (10, 88), (11, 88), (12, 89), (13, 93), (14, 90), (15, 91), (16, 49)], 20, 224, .agg #[.int .i64 0, .slice none 0 0, .int .i64 0, .int .i64 0, .bool false, .int .i64 0, .int .i64 0, .int .u64 0, .nilFunc, .slice none 0 0, .map none, .map none, .map none, .slice none 0 0, .map none, .map none, .slice none 0 0, .int .i64 0, .int .i64 0, .int .i64 0]⟩ := ⟨⟨_, Tryz.underlying95, rfl⟩, by kernel_rfl, rfl⟩
theorem ti31 : TIOk Tryz.prog 31 ⟨.int .u64, 1, 8, .int .u64 0⟩ := ⟨Tryz.underlying31, by kernel_rfl, rfl⟩
theorem ti139 : TIOk Tryz.prog 139 ⟨.struct [(0, 3), (1, 3), (2, 3)], 3, 24, .agg #[.int .i64 0, .int .i64 0, .int .i64 0]⟩ := ⟨⟨_, Tryz.underlying139, rfl⟩, by kernel_rfl, rfl⟩
theorem ti123 : TIOk Tryz.prog 123 ⟨.struct [(0, 120), (4, 3), (5, 3), (6, 28), (7, 4), (8, 28), (9, 28), (10, 3), (11, 3), (12, 3)], 13, 168, .agg #[.int .i64 0, .int .i64 0, .int .i64 0, .slice none 0 0, .int .i64 0, .int .i64 0, .slice none 0 0, .bool false, .slice none 0 0, .slice none 0 0, .int .i64 0, .int .i64 0, .int .i64 0]⟩ := ⟨⟨_, Tryz.underlying123, rfl⟩, by kernel_rfl, rfl⟩
theorem ti5 : TIOk Tryz.prog 5 ⟨.int .u8, 1, 1, .int .u8 0⟩ := ⟨Tryz.underlying5, by kernel_rfl, rfl⟩
theorem ti110 : TIOk Tryz.prog 110 ⟨.slice 121, 1, 24, .slice none 0 0⟩ := ⟨Tryz.underlying110, by kernel_rfl, rfl⟩
theorem ti24 : TIOk Tryz.prog 24 ⟨.int .u16, 1, 2, .int .u16 0⟩ := ⟨Tryz.underlying24, by kernel_rfl, rfl⟩
theorem ti39 : TIOk Tryz.prog 39 ⟨.struct [(0, 37), (3, 3), (4, 4), (5, 3), (6, 3), (7, 31)], 8, 80, .agg #[.int .i64 0, .slice none 0 0, .int .i64 0, .int .i64 0, .bool false, .int .i64 0, .int .i64 0, .int .u64 0]⟩ := ⟨⟨_, Tryz.underlying39, rfl⟩, by kernel_rfl, rfl⟩
theorem ti163 : TIOk Tryz.prog 163 ⟨.struct [(0, 3), (1, 3)], 2, 16, .agg #[.int .i64 0, .int .i64 0]⟩ := ⟨⟨_, Tryz.underlying163, rfl⟩, by kernel_rfl, rfl⟩
theorem ti105 : TIOk Tryz.prog 105 ⟨.struct [(0, 3), (1, 3), (2, 3), (3, 22), (4, 28), (5, 93), (6, 4), (7, 3)], 8, 112, .agg #[.int .i64 0, .int .i64 0, .int .i64 0, .slice none 0 0, .slice none 0 0, .slice none 0 0, .bool false, .int .i64 0]⟩ := ⟨⟨_, Tryz.underlying105, rfl⟩, by kernel_rfl, rfl⟩
theorem ti161 : TIOk Tryz.prog 161 ⟨.struct [(0, 3), (1, 3)], 2, 16, .agg #[.int .i64 0, .int .i64 0]⟩ := ⟨⟨_, Tryz.underlying161, rfl⟩, by kernel_rfl, rfl⟩
theorem ti111 : TIOk Tryz.prog 111 ⟨.slice 114, 1, 24, .slice none 0 0⟩ := ⟨Tryz.underlying111, by kernel_rfl, rfl⟩
theorem ti42 : TIOk Tryz.prog 42 ⟨.slice 46, 1, 24, .slice none 0 0⟩ := ⟨Tryz.underlying42, by kernel_rfl, rfl⟩
theorem ti116 : TIOk Tryz.prog 116 ⟨.struct [(0, 3), (1, 3), (2, 3), (3, 3), (4, 110), (5, 110)], 6, 80, .agg #[.int .i64 0, .int .i64 0, .int .i64 0, .int .i64 0, .slice none 0 0, .slice none 0 0]⟩ := ⟨⟨_, Tryz.underlying116, rfl⟩, by kernel_rfl, rfl⟩
theorem ti56 : TIOk Tryz.prog 56 ⟨.struct [(0, 54), (1, 3), (2, 3), (3, 3)], 4, 48, .agg #[.slice none 0 0, .int .i64 0, .int .i64 0, .int .i64 0]⟩ := ⟨⟨_, Tryz.underlying56, rfl⟩, by kernel_rfl, rfl⟩
theorem ti88 : TIOk Tryz.prog 88 ⟨.map 139 96, 1, 8, .map none⟩ := ⟨Tryz.underlying88, by kernel_rfl, rfl⟩
theorem ti121 : TIOk Tryz.prog 121 ⟨.ptr 123, 1, 8, .pointer none⟩ := ⟨Tryz.underlying121, by kernel_rfl, rfl⟩
theorem ti93 : TIOk Tryz.prog 93 ⟨.slice 139, 1, 24, .slice none 0 0⟩ := ⟨Tryz.underlying93, by kernel_rfl, rfl⟩
theorem ti120 : TIOk Tryz.prog 120 ⟨.struct [(0, 3), (1, 3), (2, 3), (3, 22)], 4, 48, .agg #[.int .i64 0, .int .i64 0, .int .i64 0, .slice none 0 0]⟩ := ⟨⟨_, Tryz.underlying120, rfl⟩, by kernel_rfl, rfl⟩
theorem ti238 : TIOk Tryz.prog 238 ⟨.int .u64, 1, 8, .int .u64 0⟩ := ⟨Tryz.underlying238, by kernel_rfl, rfl⟩
theorem ti103 : TIOk Tryz.prog 103 ⟨.ptr 105, 1, 8, .pointer none⟩ := ⟨Tryz.underlying103, by kernel_rfl, rfl⟩
theorem ti64 : TIOk Tryz.prog 64 ⟨.int .u64, 1, 8, .int .u64 0⟩ := ⟨Tryz.underlying64, by kernel_rfl, rfl⟩
theorem ti152 : TIOk Tryz.prog 152 ⟨.slice 154, 1, 24, .slice none 0 0⟩ := ⟨Tryz.underlying152, by kernel_rfl, rfl⟩
theorem ti159 : TIOk Tryz.prog 159 ⟨.slice 3, 1, 24, .slice none 0 0⟩ := ⟨Tryz.underlying159, by kernel_rfl, rfl⟩
theorem ti185 : TIOk Tryz.prog 185 ⟨.arr 2 3, 2, 16, .agg #[.int .i64 0, .int .i64 0]⟩ := ⟨Tryz.underlying185, by kernel_rfl, rfl⟩
theorem ti9 : TIOk Tryz.prog 9 ⟨.str, 1, 16, .string ⟨#[]⟩⟩ := ⟨Tryz.underlying9, by kernel_rfl, rfl⟩
theorem ti114 : TIOk Tryz.prog 114 ⟨.ptr 116, 1, 8, .pointer none⟩ := ⟨Tryz.underlying114, by kernel_rfl, rfl⟩
theorem ti226 : TIOk Tryz.prog 226 ⟨.int .u32, 1, 4, .int .u32 0⟩ := ⟨Tryz.underlying226, by kernel_rfl, rfl⟩
theorem ti65 : TIOk Tryz.prog 65 ⟨.arr 3 3, 3, 24, .agg #[.int .i64 0, .int .i64 0, .int .i64 0]⟩ := ⟨Tryz.underlying65, by kernel_rfl, rfl⟩
theorem ti89 : TIOk Tryz.prog 89 ⟨.map 139 3, 1, 8, .map none⟩ := ⟨Tryz.underlying89, by kernel_rfl, rfl⟩
theorem ti99 : TIOk Tryz.prog 99 ⟨.struct [(0, 97)], 1, 24, .agg #[.slice none 0 0]⟩ := ⟨⟨_, Tryz.underlying99, rfl⟩, by kernel_rfl, rfl⟩
theorem ti90 : TIOk Tryz.prog 90 ⟨.map 185 3, 1, 8, .map none⟩ := ⟨Tryz.underlying90, by kernel_rfl, rfl⟩
theorem ti97 : TIOk Tryz.prog 97 ⟨.slice 103, 1, 24, .slice none 0 0⟩ := ⟨Tryz.underlying97, by kernel_rfl, rfl⟩
theorem ti173 : TIOk Tryz.prog 173 ⟨.map 179 146, 1, 8, .map none⟩ := ⟨Tryz.underlying173, by kernel_rfl, rfl⟩
theorem ti198 : TIOk Tryz.prog 198 ⟨.struct [(0, 28), (1, 3)], 2, 32, .agg #[.slice none 0 0, .int .i64 0]⟩ := ⟨⟨_, Tryz.underlying198, rfl⟩, by kernel_rfl, rfl⟩
theorem ti125 : TIOk Tryz.prog 125 ⟨.struct [(0, 3), (1, 3), (2, 28), (3, 22)], 4, 64, .agg #[.int .i64 0, .int .i64 0, .slice none 0 0, .slice none 0 0]⟩ := ⟨⟨_, Tryz.underlying125, rfl⟩, by kernel_rfl, rfl⟩
theorem ti54 : TIOk Tryz.prog 54 ⟨.slice 125, 1, 24, .slice none 0 0⟩ := ⟨Tryz.underlying54, by kernel_rfl, rfl⟩
theorem ti85 : TIOk Tryz.prog 85 ⟨.int .u64, 1, 8, .int .u64 0⟩ := ⟨Tryz.underlying85, by kernel_rfl, rfl⟩
theorem ti92 : TIOk Tryz.prog 92 ⟨.slice 96, 1, 24, .slice none 0 0⟩ := ⟨Tryz.underlying92, by kernel_rfl, rfl⟩
theorem ti59 : TIOk Tryz.prog 59 ⟨.slice 120, 1, 24, .slice none 0 0⟩ := ⟨Tryz.underlying59, by kernel_rfl, rfl⟩
theorem ti86 : TIOk Tryz.prog 86 ⟨.ptr 95, 1, 8, .pointer none⟩ := ⟨Tryz.underlying86, by kernel_rfl, rfl⟩
theorem ti75 : TIOk Tryz.prog 75 ⟨.slice 4, 1, 24, .slice none 0 0⟩ := ⟨Tryz.underlying75, by kernel_rfl, rfl⟩
theorem ti91 : TIOk Tryz.prog 91 ⟨.map 185 28, 1, 8, .map none⟩ := ⟨Tryz.underlying91, by kernel_rfl, rfl⟩
theorem ti96 : TIOk Tryz.prog 96 ⟨.ptr 99, 1, 8, .pointer none⟩ := ⟨Tryz.underlying96, by kernel_rfl, rfl⟩
theorem ti179 : TIOk Tryz.prog 179 ⟨.struct [(0, 4), (1, 3), (2, 3)], 3, 24, .agg #[.bool false, .int .i64 0, .int .i64 0]⟩ := ⟨⟨_, Tryz.underlying179, rfl⟩, by kernel_rfl, rfl⟩
theorem ti73 : TIOk Tryz.prog 73 ⟨.slice 28, 1, 24, .slice none 0 0⟩ := ⟨Tryz.underlying73, by kernel_rfl, rfl⟩
theorem ti87 : TIOk Tryz.prog 87 ⟨.func, 1, 8, .nilFunc⟩ := ⟨⟨_, _, _, Tryz.underlying87⟩, by kernel_rfl, rfl⟩
theorem ti219 : TIOk Tryz.prog 219 ⟨.int .i64, 1, 8, .int .i64 0⟩ := ⟨Tryz.underlying219, by kernel_rfl, rfl⟩
theorem ti142 : TIOk Tryz.prog 142 ⟨.map 96 139, 1, 8, .map none⟩ := ⟨Tryz.underlying142, by kernel_rfl, rfl⟩
theorem ti63 : TIOk Tryz.prog 63 ⟨.arr 3 24, 3, 6, .agg #[.int .u16 0, .int .u16 0, .int .u16 0]⟩ := ⟨Tryz.underlying63, by kernel_rfl, rfl⟩
theorem ti81 : TIOk Tryz.prog 81 ⟨.slice 65, 1, 24, .slice none 0 0⟩ := ⟨Tryz.underlying81, by kernel_rfl, rfl⟩
theorem ti166 : TIOk Tryz.prog 166 ⟨.func, 1, 8, .nilFunc⟩ := ⟨⟨_, _, _, Tryz.underlying166⟩, by kernel_rfl, rfl⟩
theorem tok : TOk Tryz.prog T := ⟨ti3, ti28, ti146, ti37, ti49, ti4, ti143, ti33, ti46, ti154, ti30, ti22, ti53, ti47, ti113, ti34, ti95, ti31, ti139, ti123, ti5, ti110, ti24, ti39, ti163, ti105, ti161, ti111, ti42, ti116, ti56, ti88, ti121, ti93, ti120, ti238, ti103, ti64, ti152, ti159, ti185, ti9, ti114, ti226, ti65, ti89, ti99, ti90, ti97, ti173, ti198, ti125, ti54, ti85, ti92, ti59, ti86, ti75, ti91, ti96, ti179, ti73, ti87, ti219, ti142, ti63, ti81, ti166, trivial⟩
theorem mx : Tryz.prog.follows .mixedOrders = true := by kernel_rfl
end Go.Af.Tryz
namespace Go.Af.Tryz
open Go Go.Proofs
attribute [local irreducible] awp ACall ACallX AYield
end Go.Af.Tryz
namespace Go.Af.Tryz
open Go Go.Proofs
attribute [local irreducible] awp ACall ACallX AYield

end Go.Af.Tryz
namespace Go.Af.Tryz
open Go Go.Proofs
attribute [local irreducible] awp ACall ACallX AYield

end Go.Af.Tryz
namespace Go.Af.Tryz
open Go Go.Proofs
attribute [local irreducible] awp ACall ACallX AYield

end Go.Af.Tryz
namespace Go.Af
open Go
end Go.Af
namespace Go.Af.Tryz
open Go Go.Proofs
attribute [local irreducible] awp ACall ACallX AYield AInvoke AInvokeX

end Go.Af.Tryz
namespace Go.Af.Tryz
open Go Go.Proofs
attribute [local irreducible] awp ACall ACallX AYield AInvoke AInvokeX

/-! The reference's small functions. -/
end Go.Af.Tryz
