/-
  The examples of the chapter on packets hold: the program's function works, computed.
  The examples of the chapter on packets hold, wherever works is called.
  (The examples' run.)
-/
import Derived.Test.YtmblnbjfmiionaaGreatMF
import Derived.Test.YtmblnbjfmiionaaGreatMB
import Derived.Test.YtmblnbjfmiionaaGreatProg
import Derived.KernelRfl
set_option linter.all false
namespace Go.Af.Tryz.W
open Go Go.Proofs
set_option maxRecDepth 100000
def T : TT := [(3, ⟨.int .i64, 1, 8, .int .i64 0⟩),
  (28, ⟨.slice 3, 1, 24, .slice none 0 0⟩),
  (146, ⟨.struct [(0, 103), (1, 96), (2, 4), (3, 139), (6, 93)], 7, 72, .agg #[.pointer none, .pointer none, .bool false, .int .i64 0, .int .i64 0, .int .i64 0, .slice none 0 0]⟩),
  (143, ⟨.slice 146, 1, 24, .slice none 0 0⟩),
  (95, ⟨.struct [(0, 33), (8, 87), (9, 92), (10, 88), (11, 88), (12, 89), (13, 93), (14, 90), (15, 91), (16, 49)], 20, 224, .agg #[.int .i64 0, .slice none 0 0, .int .i64 0, .int .i64 0, .bool false, .int .i64 0, .int .i64 0, .int .u64 0, .nilFunc, .slice none 0 0, .map none, .map none, .map none, .slice none 0 0, .map none, .map none, .slice none 0 0, .int .i64 0, .int .i64 0, .int .i64 0]⟩),
  (30, ⟨.struct [(0, 3), (1, 28), (2, 3)], 3, 40, .agg #[.int .i64 0, .slice none 0 0, .int .i64 0]⟩),
  (139, ⟨.struct [(0, 3), (1, 3), (2, 3)], 3, 24, .agg #[.int .i64 0, .int .i64 0, .int .i64 0]⟩),
  (4, ⟨.bool, 1, 1, .bool false⟩),
  (31, ⟨.int .u64, 1, 8, .int .u64 0⟩),
  (163, ⟨.struct [(0, 3), (1, 3)], 2, 16, .agg #[.int .i64 0, .int .i64 0]⟩),
  (105, ⟨.struct [(0, 3), (1, 3), (2, 3), (3, 22), (4, 28), (5, 93), (6, 4), (7, 3)], 8, 112, .agg #[.int .i64 0, .int .i64 0, .int .i64 0, .slice none 0 0, .slice none 0 0, .slice none 0 0, .bool false, .int .i64 0]⟩),
  (161, ⟨.struct [(0, 3), (1, 3)], 2, 16, .agg #[.int .i64 0, .int .i64 0]⟩),
  (33, ⟨.struct [(0, 30), (3, 3), (4, 4), (5, 3), (6, 3), (7, 31)], 8, 80, .agg #[.int .i64 0, .slice none 0 0, .int .i64 0, .int .i64 0, .bool false, .int .i64 0, .int .i64 0, .int .u64 0]⟩),
  (88, ⟨.map 139 96, 1, 8, .map none⟩),
  (22, ⟨.slice 5, 1, 24, .slice none 0 0⟩),
  (49, ⟨.struct [(0, 47), (1, 3), (2, 3), (3, 3)], 4, 48, .agg #[.slice none 0 0, .int .i64 0, .int .i64 0, .int .i64 0]⟩),
  (93, ⟨.slice 139, 1, 24, .slice none 0 0⟩),
  (238, ⟨.int .u64, 1, 8, .int .u64 0⟩),
  (46, ⟨.struct [(0, 3), (1, 3), (2, 3), (3, 22)], 4, 48, .agg #[.int .i64 0, .int .i64 0, .int .i64 0, .slice none 0 0]⟩),
  (103, ⟨.ptr 105, 1, 8, .pointer none⟩),
  (64, ⟨.int .u64, 1, 8, .int .u64 0⟩),
  (159, ⟨.slice 3, 1, 24, .slice none 0 0⟩),
  (5, ⟨.int .u8, 1, 1, .int .u8 0⟩),
  (226, ⟨.int .u32, 1, 4, .int .u32 0⟩),
  (89, ⟨.map 139 3, 1, 8, .map none⟩),
  (99, ⟨.struct [(0, 97)], 1, 24, .agg #[.slice none 0 0]⟩),
  (24, ⟨.int .u16, 1, 2, .int .u16 0⟩),
  (65, ⟨.arr 3 3, 3, 24, .agg #[.int .i64 0, .int .i64 0, .int .i64 0]⟩),
  (185, ⟨.arr 2 3, 2, 16, .agg #[.int .i64 0, .int .i64 0]⟩),
  (34, ⟨.int .i64, 1, 8, .int .i64 0⟩),
  (97, ⟨.slice 103, 1, 24, .slice none 0 0⟩),
  (173, ⟨.map 179 146, 1, 8, .map none⟩),
  (198, ⟨.struct [(0, 28), (1, 3)], 2, 32, .agg #[.slice none 0 0, .int .i64 0]⟩),
  (47, ⟨.slice 53, 1, 24, .slice none 0 0⟩),
  (53, ⟨.struct [(0, 3), (1, 3), (2, 28), (3, 22)], 4, 64, .agg #[.int .i64 0, .int .i64 0, .slice none 0 0, .slice none 0 0]⟩),
  (85, ⟨.int .u64, 1, 8, .int .u64 0⟩),
  (92, ⟨.slice 96, 1, 24, .slice none 0 0⟩),
  (86, ⟨.ptr 95, 1, 8, .pointer none⟩),
  (9, ⟨.str, 1, 16, .string ⟨#[]⟩⟩),
  (90, ⟨.map 185 3, 1, 8, .map none⟩),
  (91, ⟨.map 185 28, 1, 8, .map none⟩),
  (96, ⟨.ptr 99, 1, 8, .pointer none⟩),
  (179, ⟨.struct [(0, 4), (1, 3), (2, 3)], 3, 24, .agg #[.bool false, .int .i64 0, .int .i64 0]⟩),
  (87, ⟨.func, 1, 8, .nilFunc⟩),
  (219, ⟨.int .i64, 1, 8, .int .i64 0⟩),
  (42, ⟨.slice 46, 1, 24, .slice none 0 0⟩),
  (73, ⟨.slice 28, 1, 24, .slice none 0 0⟩),
  (142, ⟨.map 96 139, 1, 8, .map none⟩),
  (75, ⟨.slice 4, 1, 24, .slice none 0 0⟩),
  (81, ⟨.slice 65, 1, 24, .slice none 0 0⟩),
  (166, ⟨.func, 1, 8, .nilFunc⟩)]
theorem ti3 : TIOk Tryz.prog 3 ⟨.int .i64, 1, 8, .int .i64 0⟩ := ⟨Tryz.underlying3, by kernel_rfl, rfl⟩
theorem ti28 : TIOk Tryz.prog 28 ⟨.slice 3, 1, 24, .slice none 0 0⟩ := ⟨Tryz.underlying28, by kernel_rfl, rfl⟩
theorem ti146 : TIOk Tryz.prog 146 ⟨.struct [(0, 103), (1, 96), (2, 4), (3, 139), (6, 93)], 7, 72, .agg #[.pointer none, .pointer none, .bool false, .int .i64 0, .int .i64 0, .int .i64 0, .slice none 0 0]⟩ := ⟨⟨_, Tryz.underlying146, rfl⟩, by kernel_rfl, rfl⟩
theorem ti143 : TIOk Tryz.prog 143 ⟨.slice 146, 1, 24, .slice none 0 0⟩ := ⟨Tryz.underlying143, by kernel_rfl, rfl⟩
theorem ti95 : TIOk Tryz.prog 95 ⟨.struct [(0, 33), (8, 87), (9, 92), (10, 88), (11, 88), (12, 89), (13, 93), (14, 90), (15, 91), (16, 49)], 20, 224, .agg #[.int .i64 0, .slice none 0 0, .int .i64 0, .int .i64 0, .bool false, .int .i64 0, .int .i64 0, .int .u64 0, .nilFunc, .slice none 0 0, .map none, .map none, .map none, .slice none 0 0, .map none, .map none, .slice none 0 0, .int .i64 0, .int .i64 0, .int .i64 0]⟩ := ⟨⟨_, Tryz.underlying95, rfl⟩, by kernel_rfl, rfl⟩
theorem ti30 : TIOk Tryz.prog 30 ⟨.struct [(0, 3), (1, 28), (2, 3)], 3, 40, .agg #[.int .i64 0, .slice none 0 0, .int .i64 0]⟩ := ⟨⟨_, Tryz.underlying30, rfl⟩, by kernel_rfl, rfl⟩
theorem ti139 : TIOk Tryz.prog 139 ⟨.struct [(0, 3), (1, 3), (2, 3)], 3, 24, .agg #[.int .i64 0, .int .i64 0, .int .i64 0]⟩ := ⟨⟨_, Tryz.underlying139, rfl⟩, by kernel_rfl, rfl⟩
theorem ti4 : TIOk Tryz.prog 4 ⟨.bool, 1, 1, .bool false⟩ := ⟨Tryz.underlying4, by kernel_rfl, rfl⟩
theorem ti31 : TIOk Tryz.prog 31 ⟨.int .u64, 1, 8, .int .u64 0⟩ := ⟨Tryz.underlying31, by kernel_rfl, rfl⟩
theorem ti163 : TIOk Tryz.prog 163 ⟨.struct [(0, 3), (1, 3)], 2, 16, .agg #[.int .i64 0, .int .i64 0]⟩ := ⟨⟨_, Tryz.underlying163, rfl⟩, by kernel_rfl, rfl⟩
theorem ti105 : TIOk Tryz.prog 105 ⟨.struct [(0, 3), (1, 3), (2, 3), (3, 22), (4, 28), (5, 93), (6, 4), (7, 3)], 8, 112, .agg #[.int .i64 0, .int .i64 0, .int .i64 0, .slice none 0 0, .slice none 0 0, .slice none 0 0, .bool false, .int .i64 0]⟩ := ⟨⟨_, Tryz.underlying105, rfl⟩, by kernel_rfl, rfl⟩
theorem ti161 : TIOk Tryz.prog 161 ⟨.struct [(0, 3), (1, 3)], 2, 16, .agg #[.int .i64 0, .int .i64 0]⟩ := ⟨⟨_, Tryz.underlying161, rfl⟩, by kernel_rfl, rfl⟩
theorem ti33 : TIOk Tryz.prog 33 ⟨.struct [(0, 30), (3, 3), (4, 4), (5, 3), (6, 3), (7, 31)], 8, 80, .agg #[.int .i64 0, .slice none 0 0, .int .i64 0, .int .i64 0, .bool false, .int .i64 0, .int .i64 0, .int .u64 0]⟩ := ⟨⟨_, Tryz.underlying33, rfl⟩, by kernel_rfl, rfl⟩
theorem ti88 : TIOk Tryz.prog 88 ⟨.map 139 96, 1, 8, .map none⟩ := ⟨Tryz.underlying88, by kernel_rfl, rfl⟩
theorem ti22 : TIOk Tryz.prog 22 ⟨.slice 5, 1, 24, .slice none 0 0⟩ := ⟨Tryz.underlying22, by kernel_rfl, rfl⟩
theorem ti49 : TIOk Tryz.prog 49 ⟨.struct [(0, 47), (1, 3), (2, 3), (3, 3)], 4, 48, .agg #[.slice none 0 0, .int .i64 0, .int .i64 0, .int .i64 0]⟩ := ⟨⟨_, Tryz.underlying49, rfl⟩, by kernel_rfl, rfl⟩
theorem ti93 : TIOk Tryz.prog 93 ⟨.slice 139, 1, 24, .slice none 0 0⟩ := ⟨Tryz.underlying93, by kernel_rfl, rfl⟩
theorem ti238 : TIOk Tryz.prog 238 ⟨.int .u64, 1, 8, .int .u64 0⟩ := ⟨Tryz.underlying238, by kernel_rfl, rfl⟩
theorem ti46 : TIOk Tryz.prog 46 ⟨.struct [(0, 3), (1, 3), (2, 3), (3, 22)], 4, 48, .agg #[.int .i64 0, .int .i64 0, .int .i64 0, .slice none 0 0]⟩ := ⟨⟨_, Tryz.underlying46, rfl⟩, by kernel_rfl, rfl⟩
theorem ti103 : TIOk Tryz.prog 103 ⟨.ptr 105, 1, 8, .pointer none⟩ := ⟨Tryz.underlying103, by kernel_rfl, rfl⟩
theorem ti64 : TIOk Tryz.prog 64 ⟨.int .u64, 1, 8, .int .u64 0⟩ := ⟨Tryz.underlying64, by kernel_rfl, rfl⟩
theorem ti159 : TIOk Tryz.prog 159 ⟨.slice 3, 1, 24, .slice none 0 0⟩ := ⟨Tryz.underlying159, by kernel_rfl, rfl⟩
theorem ti5 : TIOk Tryz.prog 5 ⟨.int .u8, 1, 1, .int .u8 0⟩ := ⟨Tryz.underlying5, by kernel_rfl, rfl⟩
theorem ti226 : TIOk Tryz.prog 226 ⟨.int .u32, 1, 4, .int .u32 0⟩ := ⟨Tryz.underlying226, by kernel_rfl, rfl⟩
theorem ti89 : TIOk Tryz.prog 89 ⟨.map 139 3, 1, 8, .map none⟩ := ⟨Tryz.underlying89, by kernel_rfl, rfl⟩
theorem ti99 : TIOk Tryz.prog 99 ⟨.struct [(0, 97)], 1, 24, .agg #[.slice none 0 0]⟩ := ⟨⟨_, Tryz.underlying99, rfl⟩, by kernel_rfl, rfl⟩
theorem ti24 : TIOk Tryz.prog 24 ⟨.int .u16, 1, 2, .int .u16 0⟩ := ⟨Tryz.underlying24, by kernel_rfl, rfl⟩
theorem ti65 : TIOk Tryz.prog 65 ⟨.arr 3 3, 3, 24, .agg #[.int .i64 0, .int .i64 0, .int .i64 0]⟩ := ⟨Tryz.underlying65, by kernel_rfl, rfl⟩
theorem ti185 : TIOk Tryz.prog 185 ⟨.arr 2 3, 2, 16, .agg #[.int .i64 0, .int .i64 0]⟩ := ⟨Tryz.underlying185, by kernel_rfl, rfl⟩
theorem ti34 : TIOk Tryz.prog 34 ⟨.int .i64, 1, 8, .int .i64 0⟩ := ⟨Tryz.underlying34, by kernel_rfl, rfl⟩
theorem ti97 : TIOk Tryz.prog 97 ⟨.slice 103, 1, 24, .slice none 0 0⟩ := ⟨Tryz.underlying97, by kernel_rfl, rfl⟩
theorem ti173 : TIOk Tryz.prog 173 ⟨.map 179 146, 1, 8, .map none⟩ := ⟨Tryz.underlying173, by kernel_rfl, rfl⟩
theorem ti198 : TIOk Tryz.prog 198 ⟨.struct [(0, 28), (1, 3)], 2, 32, .agg #[.slice none 0 0, .int .i64 0]⟩ := ⟨⟨_, Tryz.underlying198, rfl⟩, by kernel_rfl, rfl⟩
theorem ti47 : TIOk Tryz.prog 47 ⟨.slice 53, 1, 24, .slice none 0 0⟩ := ⟨Tryz.underlying47, by kernel_rfl, rfl⟩
theorem ti53 : TIOk Tryz.prog 53 ⟨.struct [(0, 3), (1, 3), (2, 28), (3, 22)], 4, 64, .agg #[.int .i64 0, .int .i64 0, .slice none 0 0, .slice none 0 0]⟩ := ⟨⟨_, Tryz.underlying53, rfl⟩, by kernel_rfl, rfl⟩
theorem ti85 : TIOk Tryz.prog 85 ⟨.int .u64, 1, 8, .int .u64 0⟩ := ⟨Tryz.underlying85, by kernel_rfl, rfl⟩
theorem ti92 : TIOk Tryz.prog 92 ⟨.slice 96, 1, 24, .slice none 0 0⟩ := ⟨Tryz.underlying92, by kernel_rfl, rfl⟩
theorem ti86 : TIOk Tryz.prog 86 ⟨.ptr 95, 1, 8, .pointer none⟩ := ⟨Tryz.underlying86, by kernel_rfl, rfl⟩
theorem ti9 : TIOk Tryz.prog 9 ⟨.str, 1, 16, .string ⟨#[]⟩⟩ := ⟨Tryz.underlying9, by kernel_rfl, rfl⟩
theorem ti90 : TIOk Tryz.prog 90 ⟨.map 185 3, 1, 8, .map none⟩ := ⟨Tryz.underlying90, by kernel_rfl, rfl⟩
theorem ti91 : TIOk Tryz.prog 91 ⟨.map 185 28, 1, 8, .map none⟩ := ⟨Tryz.underlying91, by kernel_rfl, rfl⟩
theorem ti96 : TIOk Tryz.prog 96 ⟨.ptr 99, 1, 8, .pointer none⟩ := ⟨Tryz.underlying96, by kernel_rfl, rfl⟩
theorem ti179 : TIOk Tryz.prog 179 ⟨.struct [(0, 4), (1, 3), (2, 3)], 3, 24, .agg #[.bool false, .int .i64 0, .int .i64 0]⟩ := ⟨⟨_, Tryz.underlying179, rfl⟩, by kernel_rfl, rfl⟩
theorem ti87 : TIOk Tryz.prog 87 ⟨.func, 1, 8, .nilFunc⟩ := ⟨⟨_, _, _, Tryz.underlying87⟩, by kernel_rfl, rfl⟩
theorem ti219 : TIOk Tryz.prog 219 ⟨.int .i64, 1, 8, .int .i64 0⟩ := ⟨Tryz.underlying219, by kernel_rfl, rfl⟩
theorem ti42 : TIOk Tryz.prog 42 ⟨.slice 46, 1, 24, .slice none 0 0⟩ := ⟨Tryz.underlying42, by kernel_rfl, rfl⟩
theorem ti73 : TIOk Tryz.prog 73 ⟨.slice 28, 1, 24, .slice none 0 0⟩ := ⟨Tryz.underlying73, by kernel_rfl, rfl⟩
theorem ti142 : TIOk Tryz.prog 142 ⟨.map 96 139, 1, 8, .map none⟩ := ⟨Tryz.underlying142, by kernel_rfl, rfl⟩
theorem ti75 : TIOk Tryz.prog 75 ⟨.slice 4, 1, 24, .slice none 0 0⟩ := ⟨Tryz.underlying75, by kernel_rfl, rfl⟩
theorem ti81 : TIOk Tryz.prog 81 ⟨.slice 65, 1, 24, .slice none 0 0⟩ := ⟨Tryz.underlying81, by kernel_rfl, rfl⟩
theorem ti166 : TIOk Tryz.prog 166 ⟨.func, 1, 8, .nilFunc⟩ := ⟨⟨_, _, _, Tryz.underlying166⟩, by kernel_rfl, rfl⟩
theorem tok : TOk Tryz.prog T := ⟨ti3, ti28, ti146, ti143, ti95, ti30, ti139, ti4, ti31, ti163, ti105, ti161, ti33, ti88, ti22, ti49, ti93, ti238, ti46, ti103, ti64, ti159, ti5, ti226, ti89, ti99, ti24, ti65, ti185, ti34, ti97, ti173, ti198, ti47, ti53, ti85, ti92, ti86, ti9, ti90, ti91, ti96, ti179, ti87, ti219, ti42, ti73, ti142, ti75, ti81, ti166, trivial⟩
theorem mx : Tryz.prog.follows .mixedOrders = true := by kernel_rfl
def Ms : List (String × List (Nat × Nat)) := [("armada/net.homes", [(159, 172), (161, 183), (163, 193)]), ("armada/net.near", [(159, 173), (161, 184), (163, 194)]), ("armada/net.route", [(159, 175), (161, 186), (163, 196)]), ("armada/net.switches", [(159, 177), (161, 188), (163, 198)])]
theorem em0 (v : Value) (w : World) : (method (Tryz.prog.types.size + Made.depth) 159 v "armada/net.homes").run Tryz.prog w = .ok (172, v) w := by kernel_rfl
theorem em1 (v : Value) (w : World) : (method (Tryz.prog.types.size + Made.depth) 161 v "armada/net.homes").run Tryz.prog w = .ok (183, v) w := by kernel_rfl
theorem em2 (v : Value) (w : World) : (method (Tryz.prog.types.size + Made.depth) 163 v "armada/net.homes").run Tryz.prog w = .ok (193, v) w := by kernel_rfl
theorem em3 (v : Value) (w : World) : (method (Tryz.prog.types.size + Made.depth) 159 v "armada/net.near").run Tryz.prog w = .ok (173, v) w := by kernel_rfl
theorem em4 (v : Value) (w : World) : (method (Tryz.prog.types.size + Made.depth) 161 v "armada/net.near").run Tryz.prog w = .ok (184, v) w := by kernel_rfl
theorem em5 (v : Value) (w : World) : (method (Tryz.prog.types.size + Made.depth) 163 v "armada/net.near").run Tryz.prog w = .ok (194, v) w := by kernel_rfl
theorem em6 (v : Value) (w : World) : (method (Tryz.prog.types.size + Made.depth) 159 v "armada/net.route").run Tryz.prog w = .ok (175, v) w := by kernel_rfl
theorem em7 (v : Value) (w : World) : (method (Tryz.prog.types.size + Made.depth) 161 v "armada/net.route").run Tryz.prog w = .ok (186, v) w := by kernel_rfl
theorem em8 (v : Value) (w : World) : (method (Tryz.prog.types.size + Made.depth) 163 v "armada/net.route").run Tryz.prog w = .ok (196, v) w := by kernel_rfl
theorem em9 (v : Value) (w : World) : (method (Tryz.prog.types.size + Made.depth) 159 v "armada/net.switches").run Tryz.prog w = .ok (177, v) w := by kernel_rfl
theorem em10 (v : Value) (w : World) : (method (Tryz.prog.types.size + Made.depth) 161 v "armada/net.switches").run Tryz.prog w = .ok (188, v) w := by kernel_rfl
theorem em11 (v : Value) (w : World) : (method (Tryz.prog.types.size + Made.depth) 163 v "armada/net.switches").run Tryz.prog w = .ok (198, v) w := by kernel_rfl
theorem mkey139 : MKey Tryz.prog 139 [.i64, .i64, .i64] := mkey_struct (by kernel_rfl) (by kernel_rfl) (by kernel_rfl) (flatFs_of (by kernel_rfl))
theorem mkey179 : MKey Tryz.prog 179 [.bool, .i64, .i64] := mkey_struct (by kernel_rfl) (by kernel_rfl) (by kernel_rfl) (flatFs_of (by kernel_rfl))
theorem mkey185 : MKey Tryz.prog 185 [.i64, .i64] := mkey_arr (n := 2) (e := 3) (k := .i64) (by kernel_rfl) (i := (Tryz.prog.info? 3).getD default) (by kernel_rfl) (by kernel_rfl) (by kernel_rfl) (PK.of_ofB (by kernel_rfl))
def EE : Env := { T := T, eqs := [], mks := [(139, [.i64, .i64, .i64]), (179, [.bool, .i64, .i64]), (185, [.i64, .i64])], ms := Ms, ors := [] }
theorem eok : EOk Tryz.prog EE := by
  refine ⟨tok, fun t ks h => (by simp [EE] at h), fun t ks h => (by
    simp only [EE, List.mem_cons, List.not_mem_nil, or_false, Prod.mk.injEq] at h
    rcases h with ⟨rfl, rfl⟩ | ⟨rfl, rfl⟩ | ⟨rfl, rfl⟩
    · exact mkey139
    · exact mkey179
    · exact mkey185), fun name m h t f hm v w => ?_, fun f v h => (by simp [EE] at h)⟩
  simp only [EE, Ms, List.mem_cons, List.not_mem_nil, or_false] at h
  rcases h with h | h | h | h
  · cases h
    simp only [List.mem_cons, List.not_mem_nil, or_false] at hm
    rcases hm with hm | hm | hm
    · cases hm; exact em0 v w
    · cases hm; exact em1 v w
    · cases hm; exact em2 v w
  · cases h
    simp only [List.mem_cons, List.not_mem_nil, or_false] at hm
    rcases hm with hm | hm | hm
    · cases hm; exact em3 v w
    · cases hm; exact em4 v w
    · cases hm; exact em5 v w
  · cases h
    simp only [List.mem_cons, List.not_mem_nil, or_false] at hm
    rcases hm with hm | hm | hm
    · cases hm; exact em6 v w
    · cases hm; exact em7 v w
    · cases hm; exact em8 v w
  · cases h
    simp only [List.mem_cons, List.not_mem_nil, or_false] at hm
    rcases hm with hm | hm | hm
    · cases hm; exact em9 v w
    · cases hm; exact em10 v w
    · cases hm; exact em11 v w
noncomputable def i11 : FI := fiOf Tryz.f11 []
noncomputable def i12 : FI := fiOf Tryz.f12 []
noncomputable def i14 : FI := fiOf Tryz.f14 []
noncomputable def i17 : FI := fiOf Tryz.f17 []
noncomputable def i22 : FI := fiOf Tryz.f22 [(31, .ord [0, 1, 3, 7, 0, 16, 63, 127, 0, 511] [false, false, false, false, true, true, false, false, true, false] [0, 1, 2, 3, 4, 5, 6, 7, 8, 9])]
noncomputable def i27 : FI := fiOf Tryz.f27 [(4, .ord [0, 1, 0, 7, 0, 16, 63, 15, 255, 511] [false, true, false, true, false, false, false, true, false, false] [0, 2, 4, 5, 1, 3, 6, 7, 8, 9])]
noncomputable def i28 : FI := fiOf Tryz.f28 [(6, .ord [0, 0, 3, 7, 0, 0, 48, 112, 255] [false, false, false, false, true, true, true, true, false] [0, 1, 2, 3, 4, 5, 6, 7, 8])]
noncomputable def i29 : FI := fiOf Tryz.f29 [(8, .ord [0, 1, 0, 0, 12, 28, 63, 127, 255, 511, 255, 255, 3327, 7423, 16383, 32767, 65535, 131071, 262143, 131071, 131071, 1703935, 3801087, 8388607, 16777215, 33554431] [false, false, true, true, true, true, false, false, false, false, true, true, true, true, false, false, false, false, false, true, true, true, true, false, false, false] [0, 1, 2, 3, 4, 5, 6, 7, 8, 9, 10, 11, 12, 13, 14, 15, 16, 17, 18, 19, 20, 21, 22, 23, 24, 25])]
noncomputable def i30 : FI := fiOf Tryz.f30 []
noncomputable def i32 : FI := fiOf Tryz.f32 []
noncomputable def i33 : FI := fiOf Tryz.f33 [(6, .ord [0, 0, 3, 7, 0, 0, 48, 112, 255] [false, false, false, false, true, true, true, true, false] [0, 1, 2, 3, 4, 5, 6, 7, 8])]
noncomputable def i34 : FI := fiOf Tryz.f34 []
noncomputable def i35 : FI := fiOf Tryz.f35 []
noncomputable def i38 : FI := fiOf Tryz.f38 []
noncomputable def i39 : FI := fiOf Tryz.f39 []
noncomputable def i40 : FI := fiOf Tryz.f40 [(3, .ord [0, 1, 3, 7, 0, 31, 63, 127, 255, 255, 511, 2047] [false, false, false, false, true, false, false, false, false, false, false, false] [0, 1, 2, 3, 4, 5, 6, 7, 8, 9, 10, 11]), (6, .ord [0, 1, 3, 7, 0, 31, 63] [false, false, false, false, true, false, false] [0, 1, 2, 3, 4, 5, 6]), (7, .ord [0, 1, 3, 7, 0, 31, 0, 127] [false, false, false, false, true, false, true, false] [0, 1, 2, 3, 4, 5, 6, 7]), (5, .ord [0, 1, 3, 7, 0, 31, 63, 127, 255, 255, 511, 2047] [false, false, false, false, true, false, false, false, false, false, false, false] [0, 1, 2, 3, 4, 5, 6, 7, 8, 9, 10, 11])]
noncomputable def i41 : FI := fiOf Tryz.f41 []
noncomputable def i42 : FI := fiOf Tryz.f42 [(7, .ord [0, 0, 0, 6, 14, 0, 0, 64, 224, 480, 0, 2046, 4094, 8191, 16383] [false, false, false, false, false, true, true, true, true, true, true, false, false, false, false] [0, 1, 2, 3, 4, 5, 6, 7, 8, 9, 10, 11, 12, 13, 14])]
noncomputable def i43 : FI := fiOf Tryz.f43 []
noncomputable def i44 : FI := fiOf Tryz.f44 [(4, .ord [0, 0, 2, 6, 14, 0, 62, 0, 255] [false, false, false, false, false, true, false, true, false] [0, 1, 2, 3, 4, 5, 6, 7, 8]), (10, .ord [0, 0, 2, 6, 14, 30, 0, 64, 192, 448, 960, 0, 0, 4096, 12288, 28672, 61440, 0, 131072, 393216, 917504, 1966080, 4063232, 8388544, 16777152, 33554430, 67108863, 134217727, 268435455, 536870911] [false, false, false, false, false, false, true, true, true, true, true, true, true, true, true, true, true, true, true, true, true, true, true, true, true, false, false, false, false, false] [0, 1, 2, 3, 4, 5, 6, 7, 8, 9, 10, 11, 12, 13, 14, 15, 16, 17, 18, 19, 20, 21, 22, 23, 24, 25, 26, 27, 28, 29]), (15, .ev [0, 1, 3, 7, 0, 31, 63, 31, 159, 511] [0, 1, 2, 8] [.op 0 [], .op 1 [], .op 2 [], .op 3 [], .op 4 [], .op 5 [], .op 6 [], .op 7 [5, 6], .op 8 [], .op 9 []])] 2
noncomputable def i50 : FI := fiOf Tryz.f50 [(15, .ord [0, 1, 3, 7, 15, 31, 63, 127, 255, 511, 1023, 2047, 4095, 8191, 16383, 32767, 65535, 131071, 262143, 524287, 1048575, 2097151, 4194303, 524287, 8912895, 25690111, 59244543, 134217727, 268435455, 536870911, 1073741823, 2147483647, 4294967295, 2147483647, 10737418239, 27917287423, 62277025791, 137438953471, 274877906943] [false, false, false, false, false, false, false, false, false, false, false, false, false, false, false, false, false, false, false, false, false, false, false, true, true, true, true, false, false, false, false, false, false, true, true, true, true, false, false] [0, 1, 2, 3, 4, 5, 6, 7, 8, 9, 10, 11, 12, 13, 14, 15, 16, 17, 18, 19, 20, 21, 22, 23, 24, 25, 26, 27, 28, 29, 30, 31, 32, 33, 34, 35, 36, 37, 38]), (16, .ord [0, 1, 3, 7, 0, 16, 48, 112, 255, 511, 1023, 2047] [false, false, false, false, true, true, true, true, false, false, false, false] [0, 1, 2, 3, 4, 5, 6, 7, 8, 9, 10, 11]), (18, .ord [0, 1, 3, 7, 15, 31, 63, 127, 255, 511, 1023, 2047, 4095, 8191, 16383, 32767, 65535, 131071, 262143, 524287, 1048575, 2097151, 4194303, 8388607, 16777215, 33554431, 4194303, 71303167, 205520895, 473956351, 4194303, 1077936127, 3225419775, 7520387071, 17116954623, 34296823807, 68719476735, 137438953471, 274877906943] [false, false, false, false, false, false, false, false, false, false, false, false, false, false, false, false, false, false, false, false, false, false, false, false, false, false, true, true, true, true, true, true, true, true, true, true, false, false, false] [0, 1, 2, 3, 4, 5, 6, 7, 8, 9, 10, 11, 12, 13, 14, 15, 16, 17, 18, 19, 20, 21, 22, 23, 24, 25, 26, 27, 28, 29, 30, 31, 32, 33, 34, 35, 36, 37, 38]), (19, .ord [0, 1, 3, 7, 0, 16, 48, 112, 255, 511, 1023, 2047] [false, false, false, false, true, true, true, true, false, false, false, false] [0, 1, 2, 3, 4, 5, 6, 7, 8, 9, 10, 11])]
noncomputable def i53 : FI := fiOf Tryz.f53 []
noncomputable def i54 : FI := fiOf Tryz.f54 []
noncomputable def i59 : FI := fiOf Tryz.f59 []
noncomputable def i60 : FI := fiOf Tryz.f60 []
noncomputable def i61 : FI := fiOf Tryz.f61 []
noncomputable def i62 : FI := fiOf Tryz.f62 [(4, .ev [0, 0, 2, 7, 15, 31, 31, 0, 191, 511] [] [.op 0 [], .op 1 [], .res 7, .op 2 [0], .op 3 [], .op 4 [], .op 5 [], .op 6 [], .op 7 [], .op 8 [6], .op 9 []]), (5, .ord [0, 1, 3, 7, 15, 31, 63, 127, 7, 263, 775, 1799, 3847, 8191, 16383] [false, false, false, false, false, false, false, false, true, true, true, true, true, false, false] [0, 1, 2, 3, 4, 5, 6, 7, 8, 9, 10, 11, 12, 13, 14]), (6, .ord [0, 0, 2, 0, 15] [false, true, true, true, false] [0, 1, 3, 2, 4])] 2
noncomputable def i63 : FI := fiOf Tryz.f63 [(7, .ord [0, 1, 3, 7, 0, 16, 48, 112, 240, 496, 1023, 2047] [false, false, false, false, true, true, true, true, true, true, false, false] [0, 1, 2, 3, 4, 5, 6, 7, 8, 9, 10, 11]), (9, .ev [0, 1, 0, 4, 0, 0, 32, 0, 224, 0, 512, 1536, 3584, 0, 15872, 32256, 65504, 32275, 163347, 425491, 1048575, 2097151, 4194303] [0, 2, 4, 5, 6, 7, 8, 9, 10, 11] [.op 0 [], .op 1 [], .op 2 [], .op 3 [], .op 4 [], .op 5 [], .op 6 [], .op 7 [], .op 8 [], .op 9 [], .op 10 [], .op 11 [], .op 12 [], .op 13 [], .op 14 [], .op 15 [], .op 16 [], .op 17 [], .op 18 [], .op 19 [3, 15, 16], .op 20 [], .op 21 [], .op 22 []]), (10, .ord [0, 1, 3, 7, 0, 0, 32, 96, 224, 480, 1023] [false, false, false, false, true, true, true, true, true, true, false] [0, 1, 2, 3, 4, 5, 6, 7, 8, 9, 10]), (12, .ev [0, 1, 0, 4, 0, 16, 3, 67, 195, 511, 1023, 2047] [0, 2, 4] [.op 0 [], .op 1 [], .op 2 [], .op 3 [], .op 4 [], .op 5 [], .op 6 [], .op 7 [], .op 8 [3, 5], .op 9 [], .op 10 [], .op 11 []]), (14, .ord [0, 1, 0, 4, 12, 28, 60, 124, 255, 511, 1023] [false, false, true, true, true, true, true, true, false, false, false] [0, 1, 2, 3, 4, 5, 6, 7, 8, 9, 10]), (15, .ev [0, 1, 0, 4, 12, 28, 60, 0, 128, 384, 896, 2044, 4095, 8191, 16383] [0, 2, 7, 8] [.op 0 [], .op 1 [], .op 2 [], .op 3 [], .op 4 [], .op 5 [], .op 6 [], .op 7 [], .op 8 [], .op 9 [], .op 10 [1, 3, 4, 5, 6], .op 11 [1], .op 12 [], .op 13 [], .op 14 []]), (18, .ev [0, 1, 3, 7, 0, 16, 63, 127, 63, 319, 1023] [0, 1, 2, 4, 9] [.op 0 [], .op 1 [], .op 2 [], .op 3 [], .op 4 [], .op 5 [], .op 6 [], .op 7 [], .op 8 [6, 7], .op 9 [], .op 10 []])]
noncomputable def i73 : FI := fiOf Tryz.f73 []
noncomputable def i74 : FI := fiOf Tryz.f74 []
noncomputable def i75 : FI := fiOf Tryz.f75 []
noncomputable def i76 : FI := fiOf Tryz.f76 [(11, .ord [0, 0, 0, 0, 12, 28, 60, 127, 255] [false, true, true, true, true, true, true, false, false] [0, 1, 2, 3, 4, 5, 6, 7, 8])]
noncomputable def i77 : FI := fiOf Tryz.f77 []
noncomputable def i78 : FI := fiOf Tryz.f78 []
noncomputable def i79 : FI := fiOf Tryz.f79 []
noncomputable def i82 : FI := fiOf Tryz.f82 []
noncomputable def i83 : FI := fiOf Tryz.f83 []
noncomputable def i84 : FI := fiOf Tryz.f84 []
noncomputable def i85 : FI := fiOf Tryz.f85 [(1, .ord [0, 1, 3, 7, 15, 0, 32, 96, 224, 480, 1023, 2047] [false, false, false, false, false, true, true, true, true, true, false, false] [0, 1, 2, 3, 4, 5, 6, 7, 8, 9, 10, 11])]
noncomputable def i86 : FI := fiOf Tryz.f86 []
noncomputable def i87 : FI := fiOf Tryz.f87 [(1, .ord [0, 1, 3, 7, 15, 31, 63, 127, 255, 511, 1023, 2047, 127, 4223, 12415, 28799, 61567, 131071, 262143] [false, false, false, false, false, false, false, false, false, false, false, true, true, true, true, true, true, false, false] [0, 1, 2, 3, 4, 5, 6, 7, 8, 9, 10, 12, 13, 14, 15, 16, 11, 17, 18]), (7, .ord [0, 0, 2, 7, 15, 0, 32, 96, 255, 511, 1023] [false, false, false, false, false, true, true, true, false, false, false] [0, 1, 2, 3, 4, 5, 6, 7, 8, 9, 10]), (9, .ord [0, 0, 2, 6, 15, 0, 32, 127, 255] [false, false, false, false, false, false, false, false, false] [0, 1, 2, 3, 4, 5, 6, 7, 8])]
noncomputable def i88 : FI := fiOf Tryz.f88 [(1, .ord [0, 1, 3, 7, 0, 31, 63] [false, false, false, false, true, false, false] [0, 1, 2, 3, 4, 5, 6]), (2, .ev [0, 1, 3, 7, 0, 0, 32, 96, 224, 0, 0, 1024, 0, 4096, 511, 16895, 52735, 118783, 249855, 524287] [0, 1, 2, 5, 6, 7, 10, 12, 15, 18] [.op 0 [], .op 1 [], .op 2 [], .op 3 [], .op 4 [], .op 5 [], .op 6 [], .op 7 [], .op 8 [], .op 9 [], .op 10 [], .op 12 [], .res 11, .res 13, .op 14 [9], .op 15 [], .op 11 [], .op 16 [9], .op 17 [], .op 18 [], .op 13 [], .op 19 []]), (3, .ord [0, 0, 2, 6, 14, 0, 32, 126, 255, 511, 1023] [false, false, false, false, false, true, true, false, false, false, false] [0, 1, 2, 3, 4, 5, 6, 7, 8, 9, 10]), (4, .ord [0, 1, 3, 7, 0, 31, 0, 64, 192, 448, 0, 1984, 63, 8191] [false, false, false, false, true, false, true, true, true, true, true, true, true, false] [0, 1, 2, 3, 4, 5, 6, 7, 8, 9, 10, 11, 12, 13])]
noncomputable def i99 : FI := fiOf Tryz.f99 [(9, .ord [0, 0, 0, 6, 0, 0, 48, 126, 255, 511] [false, false, false, false, false, false, false, false, false, false] [0, 1, 2, 3, 4, 5, 6, 7, 8, 9])]
noncomputable def i100 : FI := fiOf Tryz.f100 []
noncomputable def i101 : FI := fiOf Tryz.f101 [(1, .ord [0, 1, 3, 7, 0, 16, 48, 112, 240, 511] [false, false, false, false, true, true, true, true, true, false] [0, 1, 2, 3, 4, 5, 6, 7, 8, 9]), (4, .ord [0, 1, 3, 7, 0, 16, 48, 112, 240, 511, 1023, 2047, 4095] [false, false, false, false, true, true, true, true, true, false, false, false, false] [0, 1, 2, 3, 4, 5, 6, 7, 8, 9, 10, 11, 12])]
noncomputable def i102 : FI := fiOf Tryz.f102 []
noncomputable def i103 : FI := fiOf Tryz.f103 []
noncomputable def i104 : FI := fiOf Tryz.f104 [(9, .ev [0, 0, 2, 6, 14, 0, 62, 127, 255, 511, 511, 0, 3071, 8191] [8, 9, 10, 13] [.op 0 [], .op 1 [], .op 2 [], .op 3 [], .op 4 [], .op 5 [], .op 6 [], .res 11, .op 7 [], .op 8 [], .op 9 [], .op 10 [], .op 11 [], .op 12 [], .op 13 []])]
noncomputable def i105 : FI := fiOf Tryz.f105 [(5, .ord [0, 1, 0, 4, 12, 28, 63, 127] [false, true, false, false, false, false, false, false] [0, 2, 3, 4, 5, 1, 6, 7]), (10, .ord [0, 0, 0, 4, 14, 30, 31, 127] [false, true, true, true, true, true, false, false] [0, 1, 2, 3, 4, 5, 6, 7]), (12, .ord [0, 0, 2, 0, 8, 24, 56, 127, 255, 0] [false, false, true, false, false, false, false, false, false, true] [0, 1, 3, 4, 5, 6, 9, 2, 7, 8]), (18, .ord [0, 0, 1, 7, 15] [false, false, true, false, false] [0, 1, 2, 3, 4]), (22, .ord [0, 0, 2, 0, 8, 24, 56, 127, 255, 511] [false, false, true, false, false, false, false, false, false, false] [0, 1, 3, 4, 5, 6, 2, 7, 8, 9]), (24, .ord [0, 0, 0, 4, 14, 30, 31, 127] [false, true, true, true, true, true, false, false] [0, 1, 2, 3, 4, 5, 6, 7])]
noncomputable def i106 : FI := fiOf Tryz.f106 [(17, .ord [0, 1, 3, 7, 7, 7, 39, 119, 247, 7, 7, 1543, 3591, 8191, 16383, 32767, 65535] [false, false, false, false, false, false, false, false, false, true, true, true, true, false, false, false, false] [0, 1, 2, 3, 4, 5, 6, 7, 8, 9, 10, 11, 12, 13, 14, 15, 16])]
noncomputable def i107 : FI := fiOf Tryz.f107 []
noncomputable def i108 : FI := fiOf Tryz.f108 []
noncomputable def i116 : FI := fiOf Tryz.f116 []
noncomputable def i117 : FI := fiOf Tryz.f117 []
noncomputable def i118 : FI := fiOf Tryz.f118 [(17, .ord [0, 1, 3, 7, 7, 23, 63, 127, 7, 7, 775, 1799, 4095, 8191, 16383] [false, false, false, false, false, false, false, false, true, true, true, true, false, false, false] [0, 1, 2, 3, 4, 5, 6, 7, 8, 9, 10, 11, 12, 13, 14])]
noncomputable def i119 : FI := fiOf Tryz.f119 [(1, .ord [0, 1, 3, 7, 0, 16, 48, 112, 240, 496, 1023, 2047, 4095] [false, false, false, false, true, true, true, true, true, true, false, false, false] [0, 1, 2, 3, 4, 5, 6, 7, 8, 9, 10, 11, 12])]
noncomputable def i120 : FI := fiOf Tryz.f120 [(1, .ord [0, 1, 3, 7, 15, 0, 32, 96, 224, 0, 992, 2047, 4095] [false, false, false, false, false, true, true, true, true, true, true, false, false] [0, 1, 2, 3, 4, 5, 6, 7, 8, 9, 10, 11, 12])]
noncomputable def i121 : FI := fiOf Tryz.f121 [(2, .ord [0, 1, 3, 7, 0, 31, 63, 127, 127, 255, 1023] [false, false, false, false, true, false, false, false, false, false, false] [0, 1, 2, 3, 4, 5, 6, 7, 8, 9, 10]), (5, .ord [0, 1, 3, 7, 0, 0, 63] [false, false, false, false, true, true, false] [0, 1, 2, 3, 4, 5, 6])]
noncomputable def i122 : FI := fiOf Tryz.f122 [(4, .ord [0, 0, 3, 7, 15, 15, 15, 111, 239, 15, 15, 1039, 3599, 7695, 16383, 32767, 65535] [false, false, false, false, false, false, false, false, false, true, true, true, true, true, false, false, false] [0, 1, 2, 3, 4, 5, 6, 7, 8, 9, 10, 11, 12, 13, 14, 15, 16]), (6, .ord [0, 0, 0, 0, 8, 0, 0, 64, 224, 480, 0, 0, 3072, 7168, 16355, 32739, 65535, 131071] [false, false, false, false, false, false, false, false, false, false, true, true, true, true, false, false, false, false] [0, 1, 2, 3, 4, 5, 6, 7, 8, 9, 10, 11, 12, 13, 14, 15, 16, 17])]
noncomputable def i123 : FI := fiOf Tryz.f123 [(10, .ord [0, 0, 0, 0, 0, 24, 0, 0, 0, 384, 960, 1984, 0, 0, 12288, 28672, 65475, 131011, 262143, 524287] [false, false, false, false, false, false, false, false, false, false, false, false, true, true, true, true, false, false, false, false] [0, 1, 2, 3, 4, 5, 6, 7, 8, 9, 10, 11, 12, 13, 14, 15, 16, 17, 18, 19])]
noncomputable def i124 : FI := fiOf Tryz.f124 [(10, .ord [0, 0, 0, 0, 0, 24, 0, 0, 0, 384, 960, 1984, 0, 0, 12288, 28672, 65475, 131011, 262143, 524287] [false, false, false, false, false, false, false, false, false, false, false, false, true, true, true, true, false, false, false, false] [0, 1, 2, 3, 4, 5, 6, 7, 8, 9, 10, 11, 12, 13, 14, 15, 16, 17, 18, 19])]
noncomputable def i125 : FI := fiOf Tryz.f125 []
noncomputable def i126 : FI := fiOf Tryz.f126 [(3, .ord [0, 0, 0, 0, 0, 0, 48, 112, 0, 0, 768, 1792, 4083, 8179, 16383, 32767] [false, false, false, false, false, false, false, false, true, true, true, true, false, false, false, false] [0, 1, 2, 3, 4, 5, 6, 7, 8, 9, 10, 11, 12, 13, 14, 15])]
noncomputable def i127 : FI := fiOf Tryz.f127 [(5, .ord [0, 0, 3, 7, 15, 15, 15, 111, 239, 15, 15, 1039, 3599, 7695, 16383, 32767, 65535, 131071] [false, false, false, false, false, false, false, false, false, true, true, true, true, true, false, false, false, false] [0, 1, 2, 3, 4, 5, 6, 7, 8, 9, 10, 11, 12, 13, 14, 15, 16, 17]), (11, .ord [0, 0, 0, 0, 8, 0, 0, 64, 224, 480, 0, 0, 3072, 7168, 16355, 32739, 65535, 131071] [false, false, false, false, false, false, false, false, false, false, true, true, true, true, false, false, false, false] [0, 1, 2, 3, 4, 5, 6, 7, 8, 9, 10, 11, 12, 13, 14, 15, 16, 17]), (16, .ord [0, 0, 0, 6, 14, 0, 0, 64, 224, 480, 1023, 2047, 4095] [false, false, false, false, false, true, true, true, true, true, false, false, false] [0, 1, 2, 3, 4, 5, 6, 7, 8, 9, 10, 11, 12]), (17, .ord [0, 0, 0, 0, 8, 0, 0, 64, 224, 480, 0, 0, 3072, 7168, 16355, 32739, 65535, 131071] [false, false, false, false, false, false, false, false, false, false, true, true, true, true, false, false, false, false] [0, 1, 2, 3, 4, 5, 6, 7, 8, 9, 10, 11, 12, 13, 14, 15, 16, 17]), (22, .ord [0, 0, 0, 6, 14, 0, 0, 64, 224, 480, 1023, 2047, 4095] [false, false, false, false, false, true, true, true, true, true, false, false, false] [0, 1, 2, 3, 4, 5, 6, 7, 8, 9, 10, 11, 12]), (23, .ord [0, 0, 0, 0, 8, 0, 0, 64, 224, 480, 0, 0, 3072, 7168, 16355, 32739, 65535, 131071] [false, false, false, false, false, false, false, false, false, false, true, true, true, true, false, false, false, false] [0, 1, 2, 3, 4, 5, 6, 7, 8, 9, 10, 11, 12, 13, 14, 15, 16, 17])]
noncomputable def i128 : FI := fiOf Tryz.f128 [(1, .ord [0, 0, 0, 0, 0, 0, 48, 112, 0, 0, 768, 1792, 4083, 8179, 16383, 32767] [false, false, false, false, false, false, false, false, true, true, true, true, false, false, false, false] [0, 1, 2, 3, 4, 5, 6, 7, 8, 9, 10, 11, 12, 13, 14, 15]), (3, .ord [0, 0, 3, 7, 15, 15, 15, 111, 239, 15, 15, 1551, 3599, 8191, 16383, 32767, 65535] [false, false, false, false, false, false, false, false, false, true, true, true, true, false, false, false, false] [0, 1, 2, 3, 4, 5, 6, 7, 8, 9, 10, 11, 12, 13, 14, 15, 16]), (5, .ord [0, 0, 3, 7, 15, 15, 15, 111, 239, 15, 15, 1551, 3599, 8191, 16383, 32767] [false, false, false, false, false, false, false, false, false, true, true, true, true, false, false, false] [0, 1, 2, 3, 4, 5, 6, 7, 8, 9, 10, 11, 12, 13, 14, 15]), (8, .ord [0, 0, 0, 0, 0, 0, 48, 112, 0, 0, 768, 1792, 4083, 8179, 16383, 32767] [false, false, false, false, false, false, false, false, true, true, true, true, false, false, false, false] [0, 1, 2, 3, 4, 5, 6, 7, 8, 9, 10, 11, 12, 13, 14, 15])]
noncomputable def i129 : FI := fiOf Tryz.f129 [(1, .ord [0, 0, 0, 0, 0, 0, 48, 112, 0, 0, 768, 1792, 4083, 8179, 16383, 32767] [false, false, false, false, false, false, false, false, true, true, true, true, false, false, false, false] [0, 1, 2, 3, 4, 5, 6, 7, 8, 9, 10, 11, 12, 13, 14, 15]), (3, .ord [0, 0, 3, 7, 15, 15, 15, 111, 239, 15, 15, 1551, 3599, 8191, 16383, 32767] [false, false, false, false, false, false, false, false, false, true, true, true, true, false, false, false] [0, 1, 2, 3, 4, 5, 6, 7, 8, 9, 10, 11, 12, 13, 14, 15]), (5, .ord [0, 0, 3, 7, 15, 15, 15, 111, 239, 15, 15, 1551, 3599, 8191, 16383, 32767, 65535] [false, false, false, false, false, false, false, false, false, true, true, true, true, false, false, false, false] [0, 1, 2, 3, 4, 5, 6, 7, 8, 9, 10, 11, 12, 13, 14, 15, 16]), (8, .ord [0, 0, 0, 0, 0, 0, 48, 112, 0, 0, 768, 1792, 4083, 8179, 16383, 32767] [false, false, false, false, false, false, false, false, true, true, true, true, false, false, false, false] [0, 1, 2, 3, 4, 5, 6, 7, 8, 9, 10, 11, 12, 13, 14, 15]), (10, .ord [0, 0, 0, 0, 0, 0, 48, 112, 0, 0, 768, 1792, 4083, 8179, 16383, 32767] [false, false, false, false, false, false, false, false, true, true, true, true, false, false, false, false] [0, 1, 2, 3, 4, 5, 6, 7, 8, 9, 10, 11, 12, 13, 14, 15]), (13, .ord [0, 0, 3, 7, 15, 15, 15, 111, 239, 15, 15, 1551, 3599, 8191, 16383, 32767] [false, false, false, false, false, false, false, false, false, true, true, true, true, false, false, false] [0, 1, 2, 3, 4, 5, 6, 7, 8, 9, 10, 11, 12, 13, 14, 15]), (15, .ord [0, 0, 3, 7, 15, 15, 15, 111, 239, 15, 15, 1551, 3599, 8191, 16383, 32767, 65535] [false, false, false, false, false, false, false, false, false, true, true, true, true, false, false, false, false] [0, 1, 2, 3, 4, 5, 6, 7, 8, 9, 10, 11, 12, 13, 14, 15, 16]), (18, .ord [0, 0, 0, 0, 0, 0, 48, 112, 0, 0, 768, 1792, 4083, 8179, 16383, 32767] [false, false, false, false, false, false, false, false, true, true, true, true, false, false, false, false] [0, 1, 2, 3, 4, 5, 6, 7, 8, 9, 10, 11, 12, 13, 14, 15]), (21, .ord [0, 0, 0, 0, 0, 0, 48, 112, 0, 0, 768, 1792, 4083, 8179, 16383, 32767] [false, false, false, false, false, false, false, false, true, true, true, true, false, false, false, false] [0, 1, 2, 3, 4, 5, 6, 7, 8, 9, 10, 11, 12, 13, 14, 15])]
noncomputable def i130 : FI := fiOf Tryz.f130 []
noncomputable def i131 : FI := fiOf Tryz.f131 []
noncomputable def i132 : FI := fiOf Tryz.f132 []
noncomputable def i133 : FI := fiOf Tryz.f133 []
noncomputable def i134 : FI := fiOf Tryz.f134 [(4, .ord [0, 0, 3, 7, 15, 15, 63, 127, 15, 15, 527, 1807, 3855, 8191, 16383] [false, false, false, false, false, false, false, false, true, true, true, true, true, false, false] [0, 1, 2, 3, 4, 5, 6, 7, 8, 9, 10, 11, 12, 13, 14]), (6, .ord [0, 0, 0, 0, 8, 0, 0, 64, 224, 480, 0, 0, 3072, 7168, 16355, 32739, 65535, 131071] [false, false, false, false, false, false, false, false, false, false, true, true, true, true, false, false, false, false] [0, 1, 2, 3, 4, 5, 6, 7, 8, 9, 10, 11, 12, 13, 14, 15, 16, 17])]
noncomputable def i135 : FI := fiOf Tryz.f135 [(10, .ord [0, 0, 0, 0, 0, 24, 0, 0, 0, 384, 960, 1984, 0, 0, 12288, 28672, 65475, 131011, 262143, 524287] [false, false, false, false, false, false, false, false, false, false, false, false, true, true, true, true, false, false, false, false] [0, 1, 2, 3, 4, 5, 6, 7, 8, 9, 10, 11, 12, 13, 14, 15, 16, 17, 18, 19])]
noncomputable def i136 : FI := fiOf Tryz.f136 [(10, .ord [0, 0, 0, 0, 0, 24, 0, 0, 0, 384, 960, 1984, 0, 0, 12288, 28672, 65475, 131011, 262143, 524287] [false, false, false, false, false, false, false, false, false, false, false, false, true, true, true, true, false, false, false, false] [0, 1, 2, 3, 4, 5, 6, 7, 8, 9, 10, 11, 12, 13, 14, 15, 16, 17, 18, 19])]
noncomputable def i137 : FI := fiOf Tryz.f137 []
noncomputable def i138 : FI := fiOf Tryz.f138 [(3, .ord [0, 0, 0, 0, 0, 0, 48, 112, 0, 0, 768, 1792, 4083, 8179, 16383, 32767] [false, false, false, false, false, false, false, false, true, true, true, true, false, false, false, false] [0, 1, 2, 3, 4, 5, 6, 7, 8, 9, 10, 11, 12, 13, 14, 15])]
noncomputable def i139 : FI := fiOf Tryz.f139 [(5, .ord [0, 0, 3, 7, 15, 15, 63, 127, 15, 15, 527, 1807, 3855, 8191, 16383, 32767] [false, false, false, false, false, false, false, false, true, true, true, true, true, false, false, false] [0, 1, 2, 3, 4, 5, 6, 7, 8, 9, 10, 11, 12, 13, 14, 15]), (11, .ord [0, 0, 0, 0, 8, 0, 0, 64, 224, 480, 0, 0, 3072, 7168, 16355, 32739, 65535, 131071] [false, false, false, false, false, false, false, false, false, false, true, true, true, true, false, false, false, false] [0, 1, 2, 3, 4, 5, 6, 7, 8, 9, 10, 11, 12, 13, 14, 15, 16, 17]), (16, .ord [0, 0, 3, 7, 0, 0, 32, 112, 240, 511, 1023] [false, false, false, false, true, true, true, true, true, false, false] [0, 1, 2, 3, 4, 5, 6, 7, 8, 9, 10]), (17, .ord [0, 0, 0, 0, 8, 0, 0, 64, 224, 480, 0, 0, 3072, 7168, 16355, 32739, 65535, 131071] [false, false, false, false, false, false, false, false, false, false, true, true, true, true, false, false, false, false] [0, 1, 2, 3, 4, 5, 6, 7, 8, 9, 10, 11, 12, 13, 14, 15, 16, 17]), (22, .ord [0, 0, 3, 7, 0, 0, 32, 112, 240, 511, 1023] [false, false, false, false, true, true, true, true, true, false, false] [0, 1, 2, 3, 4, 5, 6, 7, 8, 9, 10]), (23, .ord [0, 0, 0, 0, 8, 0, 0, 64, 224, 480, 0, 0, 3072, 7168, 16355, 32739, 65535, 131071] [false, false, false, false, false, false, false, false, false, false, true, true, true, true, false, false, false, false] [0, 1, 2, 3, 4, 5, 6, 7, 8, 9, 10, 11, 12, 13, 14, 15, 16, 17])]
noncomputable def i140 : FI := fiOf Tryz.f140 []
noncomputable def i141 : FI := fiOf Tryz.f141 [(1, .ord [0, 0, 0, 0, 0, 0, 48, 112, 0, 0, 768, 1792, 4083, 8179, 16383, 32767] [false, false, false, false, false, false, false, false, true, true, true, true, false, false, false, false] [0, 1, 2, 3, 4, 5, 6, 7, 8, 9, 10, 11, 12, 13, 14, 15]), (3, .ord [0, 0, 3, 7, 15, 15, 63, 127, 15, 15, 783, 1807, 4095, 8191, 16383] [false, false, false, false, false, false, false, false, true, true, true, true, false, false, false] [0, 1, 2, 3, 4, 5, 6, 7, 8, 9, 10, 11, 12, 13, 14]), (5, .ord [0, 0, 3, 7, 15, 15, 63, 127, 15, 15, 783, 1807, 4095, 8191] [false, false, false, false, false, false, false, false, true, true, true, true, false, false] [0, 1, 2, 3, 4, 5, 6, 7, 8, 9, 10, 11, 12, 13]), (8, .ord [0, 0, 0, 0, 0, 0, 48, 112, 0, 0, 768, 1792, 4083, 8179, 16383, 32767] [false, false, false, false, false, false, false, false, true, true, true, true, false, false, false, false] [0, 1, 2, 3, 4, 5, 6, 7, 8, 9, 10, 11, 12, 13, 14, 15])]
noncomputable def i142 : FI := fiOf Tryz.f142 [(1, .ord [0, 0, 0, 0, 0, 0, 48, 112, 0, 0, 768, 1792, 4083, 8179, 16383, 32767] [false, false, false, false, false, false, false, false, true, true, true, true, false, false, false, false] [0, 1, 2, 3, 4, 5, 6, 7, 8, 9, 10, 11, 12, 13, 14, 15]), (3, .ord [0, 0, 3, 7, 15, 15, 63, 127, 15, 15, 783, 1807, 4095, 8191] [false, false, false, false, false, false, false, false, true, true, true, true, false, false] [0, 1, 2, 3, 4, 5, 6, 7, 8, 9, 10, 11, 12, 13]), (5, .ord [0, 0, 3, 7, 15, 15, 63, 127, 15, 15, 783, 1807, 4095, 8191, 16383] [false, false, false, false, false, false, false, false, true, true, true, true, false, false, false] [0, 1, 2, 3, 4, 5, 6, 7, 8, 9, 10, 11, 12, 13, 14]), (8, .ord [0, 0, 0, 0, 0, 0, 48, 112, 0, 0, 768, 1792, 4083, 8179, 16383, 32767] [false, false, false, false, false, false, false, false, true, true, true, true, false, false, false, false] [0, 1, 2, 3, 4, 5, 6, 7, 8, 9, 10, 11, 12, 13, 14, 15]), (10, .ord [0, 0, 0, 0, 0, 0, 48, 112, 0, 0, 768, 1792, 4083, 8179, 16383, 32767] [false, false, false, false, false, false, false, false, true, true, true, true, false, false, false, false] [0, 1, 2, 3, 4, 5, 6, 7, 8, 9, 10, 11, 12, 13, 14, 15]), (13, .ord [0, 0, 3, 7, 15, 15, 63, 127, 15, 15, 783, 1807, 4095, 8191] [false, false, false, false, false, false, false, false, true, true, true, true, false, false] [0, 1, 2, 3, 4, 5, 6, 7, 8, 9, 10, 11, 12, 13]), (15, .ord [0, 0, 3, 7, 15, 15, 63, 127, 15, 15, 783, 1807, 4095, 8191, 16383] [false, false, false, false, false, false, false, false, true, true, true, true, false, false, false] [0, 1, 2, 3, 4, 5, 6, 7, 8, 9, 10, 11, 12, 13, 14]), (18, .ord [0, 0, 0, 0, 0, 0, 48, 112, 0, 0, 768, 1792, 4083, 8179, 16383, 32767] [false, false, false, false, false, false, false, false, true, true, true, true, false, false, false, false] [0, 1, 2, 3, 4, 5, 6, 7, 8, 9, 10, 11, 12, 13, 14, 15]), (21, .ord [0, 0, 0, 0, 0, 0, 48, 112, 0, 0, 768, 1792, 4083, 8179, 16383, 32767] [false, false, false, false, false, false, false, false, true, true, true, true, false, false, false, false] [0, 1, 2, 3, 4, 5, 6, 7, 8, 9, 10, 11, 12, 13, 14, 15])]
noncomputable def i143 : FI := fiOf Tryz.f143 []
noncomputable def i144 : FI := fiOf Tryz.f144 [(3, .ord [0, 1, 0, 7, 15, 31, 31, 31, 31, 415, 991, 2015, 31, 31, 31, 24607, 57375, 127007, 258079, 524287, 1048575, 2097151] [false, false, false, false, false, false, false, false, false, false, false, false, true, true, true, true, true, true, true, false, false, false] [0, 1, 2, 3, 4, 5, 6, 7, 8, 9, 10, 11, 12, 13, 14, 15, 16, 17, 18, 19, 20, 21]), (5, .ord [0, 0, 0, 0, 12, 30, 62, 0, 0, 0, 768, 1920, 3968, 8191, 16383, 32767] [false, false, false, false, false, false, false, true, true, true, true, true, true, false, false, false] [0, 1, 2, 3, 4, 5, 6, 7, 8, 9, 10, 11, 12, 13, 14, 15]), (6, .ord [0, 0, 0, 6, 0, 0, 0, 96, 0, 0, 0, 1536, 3840, 7936, 0, 0, 0, 98304, 245760, 507904, 1048335, 2096911, 4194303, 8388607] [false, false, false, false, false, false, false, false, false, false, false, false, false, false, true, true, true, true, true, true, false, false, false, false] [0, 1, 2, 3, 4, 5, 6, 7, 8, 9, 10, 11, 12, 13, 14, 15, 16, 17, 18, 19, 20, 21, 22, 23])]
noncomputable def i145 : FI := fiOf Tryz.f145 []
noncomputable def i146 : FI := fiOf Tryz.f146 [(1, .ord [0, 1, 3, 0, 8, 24, 56, 127, 255, 511] [false, false, false, true, true, true, true, false, false, false] [0, 1, 2, 3, 4, 5, 6, 7, 8, 9]), (2, .ord [0, 1, 3, 0, 8, 24, 56, 127, 255, 511] [false, false, false, true, true, true, true, false, false, false] [0, 1, 2, 3, 4, 5, 6, 7, 8, 9]), (3, .ord [0, 1, 3, 0, 8, 24, 56, 127, 255, 511] [false, false, false, true, true, true, true, false, false, false] [0, 1, 2, 3, 4, 5, 6, 7, 8, 9])]
noncomputable def i147 : FI := fiOf Tryz.f147 []
noncomputable def i148 : FI := fiOf Tryz.f148 []
noncomputable def i149 : FI := fiOf Tryz.f149 [(3, .ord [0, 1, 0, 7, 15, 31, 31, 31, 223, 511, 1023, 31, 31, 31, 12319, 28703, 63519, 129055, 262143, 524287] [false, false, false, false, false, false, false, false, false, false, false, true, true, true, true, true, true, true, false, false] [0, 1, 2, 3, 4, 5, 6, 7, 8, 9, 10, 11, 12, 13, 14, 15, 16, 17, 18, 19]), (5, .ord [0, 0, 0, 6, 15, 31, 0, 0, 0, 384, 960, 1984, 4095, 8191] [false, false, false, false, false, false, true, true, true, true, true, true, false, false] [0, 1, 2, 3, 4, 5, 6, 7, 8, 9, 10, 11, 12, 13]), (6, .ord [0, 0, 0, 6, 0, 0, 0, 96, 0, 0, 0, 1536, 3840, 7936, 0, 0, 0, 98304, 245760, 507904, 1048335, 2096911, 4194303, 8388607] [false, false, false, false, false, false, false, false, false, false, false, false, false, false, true, true, true, true, true, true, false, false, false, false] [0, 1, 2, 3, 4, 5, 6, 7, 8, 9, 10, 11, 12, 13, 14, 15, 16, 17, 18, 19, 20, 21, 22, 23])]
noncomputable def i150 : FI := fiOf Tryz.f150 []
noncomputable def i151 : FI := fiOf Tryz.f151 []
noncomputable def i152 : FI := fiOf Tryz.f152 []
noncomputable def i153 : FI := fiOf Tryz.f153 [(1, .ord [0, 0, 3, 7, 0, 0, 48, 112, 255, 511] [false, true, false, false, true, true, true, true, false, false] [0, 1, 2, 3, 4, 5, 6, 7, 8, 9])]
noncomputable def i154 : FI := fiOf Tryz.f154 [(1, .ord [0, 0, 0, 6, 14, 0, 0, 96, 224, 511, 1023] [false, false, false, false, false, true, true, true, true, false, false] [0, 1, 2, 3, 4, 5, 6, 7, 8, 9, 10])]
noncomputable def i155 : FI := fiOf Tryz.f155 [(1, .ord [0, 0, 3, 7, 0, 0, 48, 112, 255] [false, false, false, false, true, true, true, true, false] [0, 1, 2, 3, 4, 5, 6, 7, 8])]
noncomputable def i156 : FI := fiOf Tryz.f156 []
noncomputable def i172 : FI := fiOf Tryz.f172 []
noncomputable def i173 : FI := fiOf Tryz.f173 []
noncomputable def i174 : FI := fiOf Tryz.f174 [(5, .ord [0, 0, 0, 0, 12, 31, 63] [false, true, true, true, true, false, false] [0, 1, 2, 3, 4, 5, 6])]
noncomputable def i175 : FI := fiOf Tryz.f175 [(7, .ord [0, 0, 0, 0, 12, 28, 0, 0, 192, 448, 960, 2047, 4095, 0, 16383] [false, false, false, false, false, false, true, true, true, true, true, false, false, true, false] [0, 1, 2, 3, 4, 5, 6, 7, 8, 9, 10, 13, 11, 12, 14]), (9, .ord [0, 0, 3, 7, 0, 0, 48, 112, 255] [false, false, false, false, true, true, true, true, false] [0, 1, 2, 3, 4, 5, 6, 7, 8])]
noncomputable def i177 : FI := fiOf Tryz.f177 []
noncomputable def i178 : FI := fiOf Tryz.f178 []
noncomputable def i179 : FI := fiOf Tryz.f179 [(1, .ord [0, 0, 3, 0, 0, 24, 56, 127, 0, 0, 768, 1792, 4095, 8191] [false, false, false, false, false, false, false, false, true, true, true, true, false, false] [0, 1, 2, 3, 4, 5, 6, 7, 8, 9, 10, 11, 12, 13])]
noncomputable def i180 : FI := fiOf Tryz.f180 []
noncomputable def i181 : FI := fiOf Tryz.f181 []
noncomputable def i182 : FI := fiOf Tryz.f182 []
noncomputable def i183 : FI := fiOf Tryz.f183 []
noncomputable def i184 : FI := fiOf Tryz.f184 []
noncomputable def i185 : FI := fiOf Tryz.f185 [(1, .ord [0, 0, 2, 7, 0, 0, 38, 118, 255, 511] [false, false, true, true, true, true, false, false, false, false] [0, 1, 4, 5, 2, 3, 6, 7, 8, 9])]
noncomputable def i186 : FI := fiOf Tryz.f186 [(2, .ord [0, 1, 3, 0, 8, 24, 7, 127] [false, false, false, true, true, true, true, false] [0, 1, 2, 3, 4, 5, 6, 7]), (4, .ord [0, 0, 2, 0, 14, 31, 0, 0, 128, 0, 926, 2014, 4095] [false, false, false, true, true, true, true, true, true, true, false, false, false] [0, 1, 2, 3, 6, 7, 8, 9, 4, 5, 10, 11, 12]), (12, .ord [0, 0, 2, 6, 14, 3, 63] [false, false, false, false, false, false, false] [0, 1, 2, 3, 5, 4, 6])]
noncomputable def i188 : FI := fiOf Tryz.f188 [(1, .ord [0, 1, 0, 4, 15, 31] [false, false, true, true, false, false] [0, 1, 2, 3, 4, 5])]
noncomputable def i189 : FI := fiOf Tryz.f189 []
noncomputable def i190 : FI := fiOf Tryz.f190 [(4, .ord [0, 1, 3, 7, 0, 16, 48, 112, 15, 511] [false, false, false, false, true, true, true, true, true, false] [0, 1, 2, 3, 4, 5, 6, 7, 8, 9]), (6, .ord [0, 1, 3, 0, 8, 24, 56, 7, 255] [false, false, false, true, true, true, true, true, false] [0, 1, 2, 3, 4, 5, 6, 7, 8]), (11, .ord [0, 0, 0, 4, 14, 0, 0, 64, 192, 0, 0, 0, 2048, 0, 14348, 31756, 65516, 131070, 262143, 524287] [false, false, false, true, true, true, true, true, true, true, true, true, true, true, true, true, false, false, false, false] [0, 1, 2, 5, 6, 7, 8, 9, 10, 11, 12, 13, 3, 4, 14, 15, 16, 17, 18, 19])]
noncomputable def i191 : FI := fiOf Tryz.f191 [(2, .ord [0, 0, 0, 6, 0, 16, 62, 0, 0, 384, 0, 1024, 3968, 8190, 0, 32766, 65535, 131071] [false, false, false, false, false, false, false, true, true, true, true, true, true, false, true, false, false, false] [0, 1, 2, 3, 4, 5, 6, 7, 8, 9, 10, 11, 12, 13, 14, 15, 16, 17])]
noncomputable def i192 : FI := fiOf Tryz.f192 []
noncomputable def i193 : FI := fiOf Tryz.f193 []
noncomputable def i194 : FI := fiOf Tryz.f194 []
noncomputable def i195 : FI := fiOf Tryz.f195 [(1, .ord [0, 0, 2, 7, 0, 0, 32, 112, 255, 511] [false, false, false, false, true, true, true, true, false, false] [0, 1, 2, 3, 4, 5, 6, 7, 8, 9])]
noncomputable def i196 : FI := fiOf Tryz.f196 [(1, .ord [0, 0, 2, 7, 0, 0, 32, 112, 15, 511] [false, false, false, false, true, true, true, true, true, false] [0, 1, 2, 3, 4, 5, 6, 7, 8, 9])]
noncomputable def i198 : FI := fiOf Tryz.f198 [(1, .ord [0, 1, 0, 4, 15, 31] [false, false, true, true, false, false] [0, 1, 2, 3, 4, 5])]
noncomputable def i199 : FI := fiOf Tryz.f199 [(4, .ord [0, 0, 2, 6, 15, 31, 63, 63, 191, 447, 63, 1087, 4031, 63, 16319, 32767, 65535, 131071] [false, false, false, false, false, false, false, false, false, false, true, true, false, true, false, false, false, false] [0, 1, 2, 3, 4, 5, 6, 7, 8, 9, 10, 11, 12, 13, 14, 15, 16, 17]), (6, .ord [0, 1, 3, 0, 8, 31, 63] [false, false, false, true, true, false, false] [0, 1, 2, 3, 4, 5, 6]), (7, .ord [0, 0, 2, 6, 14, 0, 32, 126, 255] [false, false, false, false, false, true, true, false, false] [0, 1, 2, 3, 4, 5, 6, 7, 8]), (9, .ord [0, 0, 2, 6, 0, 16, 48, 0, 240, 496, 0, 1024, 4080, 8191, 16383, 32767, 32767, 65535, 262143] [false, true, true, true, true, true, true, true, true, true, true, true, true, false, false, false, false, false, false] [0, 1, 2, 3, 4, 5, 6, 7, 8, 9, 10, 11, 12, 13, 14, 15, 16, 17, 18])]
noncomputable def i200 : FI := fiOf Tryz.f200 [(1, .ord [0, 0, 3, 7, 0, 16, 63, 0, 176, 511, 1023] [false, false, false, false, false, true, true, true, false, false, false] [0, 1, 2, 3, 4, 7, 5, 6, 8, 9, 10]), (2, .ord [0, 0, 2, 7, 0, 0, 32, 112, 255, 0, 0, 1024, 3584, 0, 8192, 24576, 0, 122880, 0, 262144, 1040384, 2096640, 25087, 8388607] [false, false, false, false, true, true, true, true, false, true, true, true, true, true, true, true, true, true, true, true, true, true, true, false] [0, 1, 2, 3, 4, 5, 6, 7, 8, 9, 10, 11, 12, 13, 16, 18, 19, 14, 15, 17, 20, 21, 22, 23])]
noncomputable def i201 : FI := fiOf Tryz.f201 [(6, .ord [0, 0, 3, 7, 0, 0, 32, 112, 240, 511] [false, false, false, false, true, true, true, true, true, false] [0, 1, 2, 3, 4, 5, 6, 7, 8, 9]), (11, .ord [0, 0, 3, 7, 0, 0, 32, 112, 240, 511] [false, false, false, false, true, true, true, true, true, false] [0, 1, 2, 3, 4, 5, 6, 7, 8, 9])]
noncomputable def FNt : Tr FI := (.n (.n (.n (.n (.n (.n (.n (.n .e (some i127) .e) (some i63) (.n .e (some i191) .e)) none .e) none (.n (.n (.n .e (some i143) .e) (some i79) .e) none (.n (.n .e (some i175) .e) none .e))) none (.n (.n (.n (.n .e (some i135) .e) none (.n .e (some i199) .e)) (some i39) (.n .e (some i103) .e)) none (.n (.n (.n .e (some i151) .e) (some i87) .e) none (.n (.n .e (some i183) .e) (some i119) .e)))) none (.n (.n (.n (.n (.n .e (some i131) .e) none (.n .e (some i195) .e)) (some i35) (.n .e (some i99) .e)) none (.n (.n (.n .e (some i147) .e) (some i83) .e) none (.n (.n .e (some i179) .e) none .e))) (some i11) (.n (.n (.n (.n .e (some i139) .e) (some i75) .e) (some i43) (.n .e (some i107) .e)) (some i27) (.n (.n (.n .e (some i155) .e) none .e) (some i59) (.n .e (some i123) .e))))) none (.n (.n (.n (.n (.n (.n .e (some i129) .e) none (.n .e (some i193) .e)) (some i33) .e) (some i17) (.n (.n (.n .e (some i145) .e) none .e) none (.n (.n .e (some i177) .e) none .e))) none (.n (.n (.n (.n .e (some i137) .e) (some i73) (.n .e (some i201) .e)) (some i41) (.n .e (some i105) .e)) none (.n (.n (.n .e (some i153) .e) none .e) none (.n (.n .e (some i185) .e) (some i121) .e)))) none (.n (.n (.n (.n (.n .e (some i133) .e) none .e) none (.n .e (some i101) .e)) none (.n (.n (.n .e (some i149) .e) (some i85) .e) (some i53) (.n (.n .e (some i181) .e) (some i117) .e))) none (.n (.n (.n (.n .e (some i141) .e) (some i77) .e) none (.n (.n .e (some i173) .e) none .e)) (some i29) (.n .e (some i61) (.n (.n .e (some i189) .e) (some i125) .e)))))) none (.n (.n (.n (.n (.n (.n (.n .e (some i128) .e) none (.n .e (some i192) .e)) (some i32) .e) none (.n (.n (.n .e (some i144) .e) none .e) none .e)) none (.n (.n (.n (.n .e (some i136) .e) none (.n .e (some i200) .e)) (some i40) (.n .e (some i104) .e)) none (.n (.n (.n .e (some i152) .e) (some i88) .e) none (.n (.n .e (some i184) .e) (some i120) .e)))) none (.n (.n (.n (.n (.n .e (some i132) .e) none (.n .e (some i196) .e)) none (.n .e (some i100) .e)) none (.n (.n (.n .e (some i148) .e) (some i84) .e) none (.n (.n .e (some i180) .e) (some i116) .e))) (some i12) (.n (.n (.n (.n .e (some i140) .e) (some i76) .e) (some i44) (.n (.n .e (some i172) .e) (some i108) .e)) (some i28) (.n (.n (.n .e (some i156) .e) none .e) (some i60) (.n (.n .e (some i188) .e) (some i124) .e))))) none (.n (.n (.n (.n (.n (.n .e (some i130) .e) none (.n .e (some i194) .e)) (some i34) .e) none (.n (.n (.n .e (some i146) .e) (some i82) .e) (some i50) (.n (.n .e (some i178) .e) none .e))) none (.n (.n (.n (.n .e (some i138) .e) (some i74) .e) (some i42) (.n .e (some i106) .e)) none (.n (.n (.n .e (some i154) .e) none .e) none (.n (.n .e (some i186) .e) (some i122) .e)))) none (.n (.n (.n (.n (.n .e (some i134) .e) none (.n .e (some i198) .e)) (some i38) (.n .e (some i102) .e)) (some i22) (.n (.n (.n .e (some i150) .e) (some i86) .e) (some i54) (.n (.n .e (some i182) .e) (some i118) .e))) (some i14) (.n (.n (.n (.n .e (some i142) .e) (some i78) .e) none (.n (.n .e (some i174) .e) none .e)) (some i30) (.n .e (some i62) (.n (.n .e (some i190) .e) (some i126) .e)))))))
theorem o11 : FOk Tryz.prog 11 i11 := ⟨Tryz.call11, Tryz.f11, Tryz.func11, rfl, rfl, rfl⟩
theorem o12 : FOk Tryz.prog 12 i12 := ⟨Tryz.call12, Tryz.f12, Tryz.func12, rfl, rfl, rfl⟩
theorem o14 : FOk Tryz.prog 14 i14 := ⟨Tryz.call14, Tryz.f14, Tryz.func14, rfl, rfl, rfl⟩
theorem o17 : FOk Tryz.prog 17 i17 := ⟨Tryz.call17, Tryz.f17, Tryz.func17, rfl, rfl, rfl⟩
theorem o22 : FOk Tryz.prog 22 i22 := ⟨Tryz.call22, Tryz.f22, Tryz.func22, rfl, rfl, rfl⟩
theorem o27 : FOk Tryz.prog 27 i27 := ⟨Tryz.call27, Tryz.f27, Tryz.func27, rfl, rfl, rfl⟩
theorem o28 : FOk Tryz.prog 28 i28 := ⟨Tryz.call28, Tryz.f28, Tryz.func28, rfl, rfl, rfl⟩
theorem o29 : FOk Tryz.prog 29 i29 := ⟨Tryz.call29, Tryz.f29, Tryz.func29, rfl, rfl, rfl⟩
theorem o30 : FOk Tryz.prog 30 i30 := ⟨Tryz.call30, Tryz.f30, Tryz.func30, rfl, rfl, rfl⟩
theorem o32 : FOk Tryz.prog 32 i32 := ⟨Tryz.call32, Tryz.f32, Tryz.func32, rfl, rfl, rfl⟩
theorem o33 : FOk Tryz.prog 33 i33 := ⟨Tryz.call33, Tryz.f33, Tryz.func33, rfl, rfl, rfl⟩
theorem o34 : FOk Tryz.prog 34 i34 := ⟨Tryz.call34, Tryz.f34, Tryz.func34, rfl, rfl, rfl⟩
theorem o35 : FOk Tryz.prog 35 i35 := ⟨Tryz.call35, Tryz.f35, Tryz.func35, rfl, rfl, rfl⟩
theorem o38 : FOk Tryz.prog 38 i38 := ⟨Tryz.call38, Tryz.f38, Tryz.func38, rfl, rfl, rfl⟩
theorem o39 : FOk Tryz.prog 39 i39 := ⟨Tryz.call39, Tryz.f39, Tryz.func39, rfl, rfl, rfl⟩
theorem o40 : FOk Tryz.prog 40 i40 := ⟨Tryz.call40, Tryz.f40, Tryz.func40, rfl, rfl, rfl⟩
theorem o41 : FOk Tryz.prog 41 i41 := ⟨Tryz.call41, Tryz.f41, Tryz.func41, rfl, rfl, rfl⟩
theorem o42 : FOk Tryz.prog 42 i42 := ⟨Tryz.call42, Tryz.f42, Tryz.func42, rfl, rfl, rfl⟩
theorem o43 : FOk Tryz.prog 43 i43 := ⟨Tryz.call43, Tryz.f43, Tryz.func43, rfl, rfl, rfl⟩
theorem o44 : FOk Tryz.prog 44 i44 := ⟨Tryz.call44, Tryz.f44, Tryz.func44, rfl, rfl, rfl⟩
theorem o50 : FOk Tryz.prog 50 i50 := ⟨Tryz.call50, Tryz.f50, Tryz.func50, rfl, rfl, rfl⟩
theorem o53 : FOk Tryz.prog 53 i53 := ⟨Tryz.call53, Tryz.f53, Tryz.func53, rfl, rfl, rfl⟩
theorem o54 : FOk Tryz.prog 54 i54 := ⟨Tryz.call54, Tryz.f54, Tryz.func54, rfl, rfl, rfl⟩
theorem o59 : FOk Tryz.prog 59 i59 := ⟨Tryz.call59, Tryz.f59, Tryz.func59, rfl, rfl, rfl⟩
theorem o60 : FOk Tryz.prog 60 i60 := ⟨Tryz.call60, Tryz.f60, Tryz.func60, rfl, rfl, rfl⟩
theorem o61 : FOk Tryz.prog 61 i61 := ⟨Tryz.call61, Tryz.f61, Tryz.func61, rfl, rfl, rfl⟩
theorem o62 : FOk Tryz.prog 62 i62 := ⟨Tryz.call62, Tryz.f62, Tryz.func62, rfl, rfl, rfl⟩
theorem o63 : FOk Tryz.prog 63 i63 := ⟨Tryz.call63, Tryz.f63, Tryz.func63, rfl, rfl, rfl⟩
theorem o73 : FOk Tryz.prog 73 i73 := ⟨Tryz.call73, Tryz.f73, Tryz.func73, rfl, rfl, rfl⟩
theorem o74 : FOk Tryz.prog 74 i74 := ⟨Tryz.call74, Tryz.f74, Tryz.func74, rfl, rfl, rfl⟩
theorem o75 : FOk Tryz.prog 75 i75 := ⟨Tryz.call75, Tryz.f75, Tryz.func75, rfl, rfl, rfl⟩
theorem o76 : FOk Tryz.prog 76 i76 := ⟨Tryz.call76, Tryz.f76, Tryz.func76, rfl, rfl, rfl⟩
theorem o77 : FOk Tryz.prog 77 i77 := ⟨Tryz.call77, Tryz.f77, Tryz.func77, rfl, rfl, rfl⟩
theorem o78 : FOk Tryz.prog 78 i78 := ⟨Tryz.call78, Tryz.f78, Tryz.func78, rfl, rfl, rfl⟩
theorem o79 : FOk Tryz.prog 79 i79 := ⟨Tryz.call79, Tryz.f79, Tryz.func79, rfl, rfl, rfl⟩
theorem o82 : FOk Tryz.prog 82 i82 := ⟨Tryz.call82, Tryz.f82, Tryz.func82, rfl, rfl, rfl⟩
theorem o83 : FOk Tryz.prog 83 i83 := ⟨Tryz.call83, Tryz.f83, Tryz.func83, rfl, rfl, rfl⟩
theorem o84 : FOk Tryz.prog 84 i84 := ⟨Tryz.call84, Tryz.f84, Tryz.func84, rfl, rfl, rfl⟩
theorem o85 : FOk Tryz.prog 85 i85 := ⟨Tryz.call85, Tryz.f85, Tryz.func85, rfl, rfl, rfl⟩
theorem o86 : FOk Tryz.prog 86 i86 := ⟨Tryz.call86, Tryz.f86, Tryz.func86, rfl, rfl, rfl⟩
theorem o87 : FOk Tryz.prog 87 i87 := ⟨Tryz.call87, Tryz.f87, Tryz.func87, rfl, rfl, rfl⟩
theorem o88 : FOk Tryz.prog 88 i88 := ⟨Tryz.call88, Tryz.f88, Tryz.func88, rfl, rfl, rfl⟩
theorem o99 : FOk Tryz.prog 99 i99 := ⟨Tryz.call99, Tryz.f99, Tryz.func99, rfl, rfl, rfl⟩
theorem o100 : FOk Tryz.prog 100 i100 := ⟨Tryz.call100, Tryz.f100, Tryz.func100, rfl, rfl, rfl⟩
theorem o101 : FOk Tryz.prog 101 i101 := ⟨Tryz.call101, Tryz.f101, Tryz.func101, rfl, rfl, rfl⟩
theorem o102 : FOk Tryz.prog 102 i102 := ⟨Tryz.call102, Tryz.f102, Tryz.func102, rfl, rfl, rfl⟩
theorem o103 : FOk Tryz.prog 103 i103 := ⟨Tryz.call103, Tryz.f103, Tryz.func103, rfl, rfl, rfl⟩
theorem o104 : FOk Tryz.prog 104 i104 := ⟨Tryz.call104, Tryz.f104, Tryz.func104, rfl, rfl, rfl⟩
theorem o105 : FOk Tryz.prog 105 i105 := ⟨Tryz.call105, Tryz.f105, Tryz.func105, rfl, rfl, rfl⟩
theorem o106 : FOk Tryz.prog 106 i106 := ⟨Tryz.call106, Tryz.f106, Tryz.func106, rfl, rfl, rfl⟩
theorem o107 : FOk Tryz.prog 107 i107 := ⟨Tryz.call107, Tryz.f107, Tryz.func107, rfl, rfl, rfl⟩
theorem o108 : FOk Tryz.prog 108 i108 := ⟨Tryz.call108, Tryz.f108, Tryz.func108, rfl, rfl, rfl⟩
theorem o116 : FOk Tryz.prog 116 i116 := ⟨Tryz.call116, Tryz.f116, Tryz.func116, rfl, rfl, rfl⟩
theorem o117 : FOk Tryz.prog 117 i117 := ⟨Tryz.call117, Tryz.f117, Tryz.func117, rfl, rfl, rfl⟩
theorem o118 : FOk Tryz.prog 118 i118 := ⟨Tryz.call118, Tryz.f118, Tryz.func118, rfl, rfl, rfl⟩
theorem o119 : FOk Tryz.prog 119 i119 := ⟨Tryz.call119, Tryz.f119, Tryz.func119, rfl, rfl, rfl⟩
theorem o120 : FOk Tryz.prog 120 i120 := ⟨Tryz.call120, Tryz.f120, Tryz.func120, rfl, rfl, rfl⟩
theorem o121 : FOk Tryz.prog 121 i121 := ⟨Tryz.call121, Tryz.f121, Tryz.func121, rfl, rfl, rfl⟩
theorem o122 : FOk Tryz.prog 122 i122 := ⟨Tryz.call122, Tryz.f122, Tryz.func122, rfl, rfl, rfl⟩
theorem o123 : FOk Tryz.prog 123 i123 := ⟨Tryz.call123, Tryz.f123, Tryz.func123, rfl, rfl, rfl⟩
theorem o124 : FOk Tryz.prog 124 i124 := ⟨Tryz.call124, Tryz.f124, Tryz.func124, rfl, rfl, rfl⟩
theorem o125 : FOk Tryz.prog 125 i125 := ⟨Tryz.call125, Tryz.f125, Tryz.func125, rfl, rfl, rfl⟩
theorem o126 : FOk Tryz.prog 126 i126 := ⟨Tryz.call126, Tryz.f126, Tryz.func126, rfl, rfl, rfl⟩
theorem o127 : FOk Tryz.prog 127 i127 := ⟨Tryz.call127, Tryz.f127, Tryz.func127, rfl, rfl, rfl⟩
theorem o128 : FOk Tryz.prog 128 i128 := ⟨Tryz.call128, Tryz.f128, Tryz.func128, rfl, rfl, rfl⟩
theorem o129 : FOk Tryz.prog 129 i129 := ⟨Tryz.call129, Tryz.f129, Tryz.func129, rfl, rfl, rfl⟩
theorem o130 : FOk Tryz.prog 130 i130 := ⟨Tryz.call130, Tryz.f130, Tryz.func130, rfl, rfl, rfl⟩
theorem o131 : FOk Tryz.prog 131 i131 := ⟨Tryz.call131, Tryz.f131, Tryz.func131, rfl, rfl, rfl⟩
theorem o132 : FOk Tryz.prog 132 i132 := ⟨Tryz.call132, Tryz.f132, Tryz.func132, rfl, rfl, rfl⟩
theorem o133 : FOk Tryz.prog 133 i133 := ⟨Tryz.call133, Tryz.f133, Tryz.func133, rfl, rfl, rfl⟩
theorem o134 : FOk Tryz.prog 134 i134 := ⟨Tryz.call134, Tryz.f134, Tryz.func134, rfl, rfl, rfl⟩
theorem o135 : FOk Tryz.prog 135 i135 := ⟨Tryz.call135, Tryz.f135, Tryz.func135, rfl, rfl, rfl⟩
theorem o136 : FOk Tryz.prog 136 i136 := ⟨Tryz.call136, Tryz.f136, Tryz.func136, rfl, rfl, rfl⟩
theorem o137 : FOk Tryz.prog 137 i137 := ⟨Tryz.call137, Tryz.f137, Tryz.func137, rfl, rfl, rfl⟩
theorem o138 : FOk Tryz.prog 138 i138 := ⟨Tryz.call138, Tryz.f138, Tryz.func138, rfl, rfl, rfl⟩
theorem o139 : FOk Tryz.prog 139 i139 := ⟨Tryz.call139, Tryz.f139, Tryz.func139, rfl, rfl, rfl⟩
theorem o140 : FOk Tryz.prog 140 i140 := ⟨Tryz.call140, Tryz.f140, Tryz.func140, rfl, rfl, rfl⟩
theorem o141 : FOk Tryz.prog 141 i141 := ⟨Tryz.call141, Tryz.f141, Tryz.func141, rfl, rfl, rfl⟩
theorem o142 : FOk Tryz.prog 142 i142 := ⟨Tryz.call142, Tryz.f142, Tryz.func142, rfl, rfl, rfl⟩
theorem o143 : FOk Tryz.prog 143 i143 := ⟨Tryz.call143, Tryz.f143, Tryz.func143, rfl, rfl, rfl⟩
theorem o144 : FOk Tryz.prog 144 i144 := ⟨Tryz.call144, Tryz.f144, Tryz.func144, rfl, rfl, rfl⟩
theorem o145 : FOk Tryz.prog 145 i145 := ⟨Tryz.call145, Tryz.f145, Tryz.func145, rfl, rfl, rfl⟩
theorem o146 : FOk Tryz.prog 146 i146 := ⟨Tryz.call146, Tryz.f146, Tryz.func146, rfl, rfl, rfl⟩
theorem o147 : FOk Tryz.prog 147 i147 := ⟨Tryz.call147, Tryz.f147, Tryz.func147, rfl, rfl, rfl⟩
theorem o148 : FOk Tryz.prog 148 i148 := ⟨Tryz.call148, Tryz.f148, Tryz.func148, rfl, rfl, rfl⟩
theorem o149 : FOk Tryz.prog 149 i149 := ⟨Tryz.call149, Tryz.f149, Tryz.func149, rfl, rfl, rfl⟩
theorem o150 : FOk Tryz.prog 150 i150 := ⟨Tryz.call150, Tryz.f150, Tryz.func150, rfl, rfl, rfl⟩
theorem o151 : FOk Tryz.prog 151 i151 := ⟨Tryz.call151, Tryz.f151, Tryz.func151, rfl, rfl, rfl⟩
theorem o152 : FOk Tryz.prog 152 i152 := ⟨Tryz.call152, Tryz.f152, Tryz.func152, rfl, rfl, rfl⟩
theorem o153 : FOk Tryz.prog 153 i153 := ⟨Tryz.call153, Tryz.f153, Tryz.func153, rfl, rfl, rfl⟩
theorem o154 : FOk Tryz.prog 154 i154 := ⟨Tryz.call154, Tryz.f154, Tryz.func154, rfl, rfl, rfl⟩
theorem o155 : FOk Tryz.prog 155 i155 := ⟨Tryz.call155, Tryz.f155, Tryz.func155, rfl, rfl, rfl⟩
theorem o156 : FOk Tryz.prog 156 i156 := ⟨Tryz.call156, Tryz.f156, Tryz.func156, rfl, rfl, rfl⟩
theorem o172 : FOk Tryz.prog 172 i172 := ⟨Tryz.call172, Tryz.f172, Tryz.func172, rfl, rfl, rfl⟩
theorem o173 : FOk Tryz.prog 173 i173 := ⟨Tryz.call173, Tryz.f173, Tryz.func173, rfl, rfl, rfl⟩
theorem o174 : FOk Tryz.prog 174 i174 := ⟨Tryz.call174, Tryz.f174, Tryz.func174, rfl, rfl, rfl⟩
theorem o175 : FOk Tryz.prog 175 i175 := ⟨Tryz.call175, Tryz.f175, Tryz.func175, rfl, rfl, rfl⟩
theorem o177 : FOk Tryz.prog 177 i177 := ⟨Tryz.call177, Tryz.f177, Tryz.func177, rfl, rfl, rfl⟩
theorem o178 : FOk Tryz.prog 178 i178 := ⟨Tryz.call178, Tryz.f178, Tryz.func178, rfl, rfl, rfl⟩
theorem o179 : FOk Tryz.prog 179 i179 := ⟨Tryz.call179, Tryz.f179, Tryz.func179, rfl, rfl, rfl⟩
theorem o180 : FOk Tryz.prog 180 i180 := ⟨Tryz.call180, Tryz.f180, Tryz.func180, rfl, rfl, rfl⟩
theorem o181 : FOk Tryz.prog 181 i181 := ⟨Tryz.call181, Tryz.f181, Tryz.func181, rfl, rfl, rfl⟩
theorem o182 : FOk Tryz.prog 182 i182 := ⟨Tryz.call182, Tryz.f182, Tryz.func182, rfl, rfl, rfl⟩
theorem o183 : FOk Tryz.prog 183 i183 := ⟨Tryz.call183, Tryz.f183, Tryz.func183, rfl, rfl, rfl⟩
theorem o184 : FOk Tryz.prog 184 i184 := ⟨Tryz.call184, Tryz.f184, Tryz.func184, rfl, rfl, rfl⟩
theorem o185 : FOk Tryz.prog 185 i185 := ⟨Tryz.call185, Tryz.f185, Tryz.func185, rfl, rfl, rfl⟩
theorem o186 : FOk Tryz.prog 186 i186 := ⟨Tryz.call186, Tryz.f186, Tryz.func186, rfl, rfl, rfl⟩
theorem o188 : FOk Tryz.prog 188 i188 := ⟨Tryz.call188, Tryz.f188, Tryz.func188, rfl, rfl, rfl⟩
theorem o189 : FOk Tryz.prog 189 i189 := ⟨Tryz.call189, Tryz.f189, Tryz.func189, rfl, rfl, rfl⟩
theorem o190 : FOk Tryz.prog 190 i190 := ⟨Tryz.call190, Tryz.f190, Tryz.func190, rfl, rfl, rfl⟩
theorem o191 : FOk Tryz.prog 191 i191 := ⟨Tryz.call191, Tryz.f191, Tryz.func191, rfl, rfl, rfl⟩
theorem o192 : FOk Tryz.prog 192 i192 := ⟨Tryz.call192, Tryz.f192, Tryz.func192, rfl, rfl, rfl⟩
theorem o193 : FOk Tryz.prog 193 i193 := ⟨Tryz.call193, Tryz.f193, Tryz.func193, rfl, rfl, rfl⟩
theorem o194 : FOk Tryz.prog 194 i194 := ⟨Tryz.call194, Tryz.f194, Tryz.func194, rfl, rfl, rfl⟩
theorem o195 : FOk Tryz.prog 195 i195 := ⟨Tryz.call195, Tryz.f195, Tryz.func195, rfl, rfl, rfl⟩
theorem o196 : FOk Tryz.prog 196 i196 := ⟨Tryz.call196, Tryz.f196, Tryz.func196, rfl, rfl, rfl⟩
theorem o198 : FOk Tryz.prog 198 i198 := ⟨Tryz.call198, Tryz.f198, Tryz.func198, rfl, rfl, rfl⟩
theorem o199 : FOk Tryz.prog 199 i199 := ⟨Tryz.call199, Tryz.f199, Tryz.func199, rfl, rfl, rfl⟩
theorem o200 : FOk Tryz.prog 200 i200 := ⟨Tryz.call200, Tryz.f200, Tryz.func200, rfl, rfl, rfl⟩
theorem o201 : FOk Tryz.prog 201 i201 := ⟨Tryz.call201, Tryz.f201, Tryz.func201, rfl, rfl, rfl⟩
theorem fall : TrAll (FOk Tryz.prog) (fun m => m) FNt := ⟨⟨⟨⟨⟨⟨⟨⟨trivial, o127, trivial⟩, o63, ⟨trivial, o191, trivial⟩⟩, trivial, trivial⟩, trivial, ⟨⟨⟨trivial, o143, trivial⟩, o79, trivial⟩, trivial, ⟨⟨trivial, o175, trivial⟩, trivial, trivial⟩⟩⟩, trivial, ⟨⟨⟨⟨trivial, o135, trivial⟩, trivial, ⟨trivial, o199, trivial⟩⟩, o39, ⟨trivial, o103, trivial⟩⟩, trivial, ⟨⟨⟨trivial, o151, trivial⟩, o87, trivial⟩, trivial, ⟨⟨trivial, o183, trivial⟩, o119, trivial⟩⟩⟩⟩, trivial, ⟨⟨⟨⟨⟨trivial, o131, trivial⟩, trivial, ⟨trivial, o195, trivial⟩⟩, o35, ⟨trivial, o99, trivial⟩⟩, trivial, ⟨⟨⟨trivial, o147, trivial⟩, o83, trivial⟩, trivial, ⟨⟨trivial, o179, trivial⟩, trivial, trivial⟩⟩⟩, o11, ⟨⟨⟨⟨trivial, o139, trivial⟩, o75, trivial⟩, o43, ⟨trivial, o107, trivial⟩⟩, o27, ⟨⟨⟨trivial, o155, trivial⟩, trivial, trivial⟩, o59, ⟨trivial, o123, trivial⟩⟩⟩⟩⟩, trivial, ⟨⟨⟨⟨⟨⟨trivial, o129, trivial⟩, trivial, ⟨trivial, o193, trivial⟩⟩, o33, trivial⟩, o17, ⟨⟨⟨trivial, o145, trivial⟩, trivial, trivial⟩, trivial, ⟨⟨trivial, o177, trivial⟩, trivial, trivial⟩⟩⟩, trivial, ⟨⟨⟨⟨trivial, o137, trivial⟩, o73, ⟨trivial, o201, trivial⟩⟩, o41, ⟨trivial, o105, trivial⟩⟩, trivial, ⟨⟨⟨trivial, o153, trivial⟩, trivial, trivial⟩, trivial, ⟨⟨trivial, o185, trivial⟩, o121, trivial⟩⟩⟩⟩, trivial, ⟨⟨⟨⟨⟨trivial, o133, trivial⟩, trivial, trivial⟩, trivial, ⟨trivial, o101, trivial⟩⟩, trivial, ⟨⟨⟨trivial, o149, trivial⟩, o85, trivial⟩, o53, ⟨⟨trivial, o181, trivial⟩, o117, trivial⟩⟩⟩, trivial, ⟨⟨⟨⟨trivial, o141, trivial⟩, o77, trivial⟩, trivial, ⟨⟨trivial, o173, trivial⟩, trivial, trivial⟩⟩, o29, ⟨trivial, o61, ⟨⟨trivial, o189, trivial⟩, o125, trivial⟩⟩⟩⟩⟩⟩, trivial, ⟨⟨⟨⟨⟨⟨⟨trivial, o128, trivial⟩, trivial, ⟨trivial, o192, trivial⟩⟩, o32, trivial⟩, trivial, ⟨⟨⟨trivial, o144, trivial⟩, trivial, trivial⟩, trivial, trivial⟩⟩, trivial, ⟨⟨⟨⟨trivial, o136, trivial⟩, trivial, ⟨trivial, o200, trivial⟩⟩, o40, ⟨trivial, o104, trivial⟩⟩, trivial, ⟨⟨⟨trivial, o152, trivial⟩, o88, trivial⟩, trivial, ⟨⟨trivial, o184, trivial⟩, o120, trivial⟩⟩⟩⟩, trivial, ⟨⟨⟨⟨⟨trivial, o132, trivial⟩, trivial, ⟨trivial, o196, trivial⟩⟩, trivial, ⟨trivial, o100, trivial⟩⟩, trivial, ⟨⟨⟨trivial, o148, trivial⟩, o84, trivial⟩, trivial, ⟨⟨trivial, o180, trivial⟩, o116, trivial⟩⟩⟩, o12, ⟨⟨⟨⟨trivial, o140, trivial⟩, o76, trivial⟩, o44, ⟨⟨trivial, o172, trivial⟩, o108, trivial⟩⟩, o28, ⟨⟨⟨trivial, o156, trivial⟩, trivial, trivial⟩, o60, ⟨⟨trivial, o188, trivial⟩, o124, trivial⟩⟩⟩⟩⟩, trivial, ⟨⟨⟨⟨⟨⟨trivial, o130, trivial⟩, trivial, ⟨trivial, o194, trivial⟩⟩, o34, trivial⟩, trivial, ⟨⟨⟨trivial, o146, trivial⟩, o82, trivial⟩, o50, ⟨⟨trivial, o178, trivial⟩, trivial, trivial⟩⟩⟩, trivial, ⟨⟨⟨⟨trivial, o138, trivial⟩, o74, trivial⟩, o42, ⟨trivial, o106, trivial⟩⟩, trivial, ⟨⟨⟨trivial, o154, trivial⟩, trivial, trivial⟩, trivial, ⟨⟨trivial, o186, trivial⟩, o122, trivial⟩⟩⟩⟩, trivial, ⟨⟨⟨⟨⟨trivial, o134, trivial⟩, trivial, ⟨trivial, o198, trivial⟩⟩, o38, ⟨trivial, o102, trivial⟩⟩, o22, ⟨⟨⟨trivial, o150, trivial⟩, o86, trivial⟩, o54, ⟨⟨trivial, o182, trivial⟩, o118, trivial⟩⟩⟩, o14, ⟨⟨⟨⟨trivial, o142, trivial⟩, o78, trivial⟩, trivial, ⟨⟨trivial, o174, trivial⟩, trivial, trivial⟩⟩, o30, ⟨trivial, o62, ⟨⟨trivial, o190, trivial⟩, o126, trivial⟩⟩⟩⟩⟩⟩⟩
theorem fok : FnOk Tryz.prog FNt := fok_of fall
end Go.Af.Tryz.W
namespace Go.Af.Tryz.W
open Go Go.Proofs
set_option maxRecDepth 100000
theorem works_run : (evN FNt EE 100).call 0 11 [] .e 0 (fun v _ _ => match v with | .bool b => b | _ => false) = true := by kernel_rfl
end Go.Af.Tryz.W
namespace Go.Af.Tryz.W
open Go Go.Proofs
theorem works : ACall Tryz.prog 11 [] [] (fun v H => v = .bool true ∧ H = []) :=
  acall_drop ((run_ok fok eok mx works_run).mono fun v H h => by
    split at h
    · rename_i b; subst h
      exact ⟨[], .bool true, [], by simp, anch_of rfl, trivial, rfl, VRen.plain rfl, rfl, rfl⟩
    · cases h)
theorem worksX (H : List Blk) {R : Value → List Blk → Prop} (h : R (.bool true) H) : ACallX Tryz.prog 11 [] H R :=
  acallx_s works [] rfl .nil trivial rfl h
end Go.Af.Tryz.W

