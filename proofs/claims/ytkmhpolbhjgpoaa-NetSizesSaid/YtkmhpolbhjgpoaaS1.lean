/-
  The seat's types, and the orders of its drawn regions.
-/
import Derived.Test.YtkmhpolbhjgpoaaA21
import Derived.Test.YtkmhpolbhjgpoaaProg
import Derived.KernelRfl
namespace Go.Af.Try
open Go Go.Proofs
def T : TT := [(3, ⟨.int .i64, 1, 8, .int .i64 0⟩),
  (4, ⟨.bool, 1, 1, .bool false⟩),
  (5, ⟨.int .u8, 1, 1, .int .u8 0⟩),
  (22, ⟨.slice 3, 1, 24, .slice none 0 0⟩),
  (24, ⟨.struct [(0, 3), (1, 22), (2, 3)], 3, 40, .agg #[.int .i64 0, .slice none 0 0, .int .i64 0]⟩),
  (26, ⟨.int .i64, 1, 8, .int .i64 0⟩),
  (30, ⟨.struct [(0, 3), (1, 22), (2, 3)], 3, 40, .agg #[.int .i64 0, .slice none 0 0, .int .i64 0]⟩),
  (37, ⟨.slice 118, 1, 24, .slice none 0 0⟩),
  (38, ⟨.slice 22, 1, 24, .slice none 0 0⟩),
  (40, ⟨.struct [(0, 37), (1, 38)], 2, 48, .agg #[.slice none 0 0, .slice none 0 0]⟩),
  (53, ⟨.slice 4, 1, 24, .slice none 0 0⟩),
  (55, ⟨.slice 53, 1, 24, .slice none 0 0⟩),
  (65, ⟨.slice 73, 1, 24, .slice none 0 0⟩),
  (68, ⟨.slice 72, 1, 24, .slice none 0 0⟩),
  (72, ⟨.struct [(0, 3), (1, 3)], 2, 16, .agg #[.int .i64 0, .int .i64 0]⟩),
  (73, ⟨.struct [(0, 3), (1, 3)], 2, 16, .agg #[.int .i64 0, .int .i64 0]⟩),
  (88, ⟨.iface, 1, 16, .nilIface⟩),
  (106, ⟨.slice 3, 1, 24, .slice none 0 0⟩),
  (113, ⟨.func, 1, 8, .nilFunc⟩),
  (118, ⟨.arr 3 3, 3, 24, .agg #[.int .i64 0, .int .i64 0, .int .i64 0]⟩),
  (120, ⟨.struct [(0, 3), (1, 3)], 2, 16, .agg #[.int .i64 0, .int .i64 0]⟩),
  (122, ⟨.struct [(0, 3), (1, 3)], 2, 16, .agg #[.int .i64 0, .int .i64 0]⟩),
  (130, ⟨.struct [(0, 22), (1, 3)], 2, 32, .agg #[.slice none 0 0, .int .i64 0]⟩)]
theorem ti3 : TIOk Try.prog 3 ⟨.int .i64, 1, 8, .int .i64 0⟩ := ⟨Try.underlying3, by kernel_rfl, rfl⟩
theorem ti4 : TIOk Try.prog 4 ⟨.bool, 1, 1, .bool false⟩ := ⟨Try.underlying4, by kernel_rfl, rfl⟩
theorem ti5 : TIOk Try.prog 5 ⟨.int .u8, 1, 1, .int .u8 0⟩ := ⟨Try.underlying5, by kernel_rfl, rfl⟩
theorem ti22 : TIOk Try.prog 22 ⟨.slice 3, 1, 24, .slice none 0 0⟩ := ⟨Try.underlying22, by kernel_rfl, rfl⟩
theorem ti24 : TIOk Try.prog 24 ⟨.struct [(0, 3), (1, 22), (2, 3)], 3, 40, .agg #[.int .i64 0, .slice none 0 0, .int .i64 0]⟩ := ⟨⟨_, Try.underlying24, rfl⟩, by kernel_rfl, rfl⟩
theorem ti26 : TIOk Try.prog 26 ⟨.int .i64, 1, 8, .int .i64 0⟩ := ⟨Try.underlying26, by kernel_rfl, rfl⟩
theorem ti30 : TIOk Try.prog 30 ⟨.struct [(0, 3), (1, 22), (2, 3)], 3, 40, .agg #[.int .i64 0, .slice none 0 0, .int .i64 0]⟩ := ⟨⟨_, Try.underlying30, rfl⟩, by kernel_rfl, rfl⟩
theorem ti37 : TIOk Try.prog 37 ⟨.slice 118, 1, 24, .slice none 0 0⟩ := ⟨Try.underlying37, by kernel_rfl, rfl⟩
theorem ti38 : TIOk Try.prog 38 ⟨.slice 22, 1, 24, .slice none 0 0⟩ := ⟨Try.underlying38, by kernel_rfl, rfl⟩
theorem ti40 : TIOk Try.prog 40 ⟨.struct [(0, 37), (1, 38)], 2, 48, .agg #[.slice none 0 0, .slice none 0 0]⟩ := ⟨⟨_, Try.underlying40, rfl⟩, by kernel_rfl, rfl⟩
theorem ti53 : TIOk Try.prog 53 ⟨.slice 4, 1, 24, .slice none 0 0⟩ := ⟨Try.underlying53, by kernel_rfl, rfl⟩
theorem ti55 : TIOk Try.prog 55 ⟨.slice 53, 1, 24, .slice none 0 0⟩ := ⟨Try.underlying55, by kernel_rfl, rfl⟩
theorem ti65 : TIOk Try.prog 65 ⟨.slice 73, 1, 24, .slice none 0 0⟩ := ⟨Try.underlying65, by kernel_rfl, rfl⟩
theorem ti68 : TIOk Try.prog 68 ⟨.slice 72, 1, 24, .slice none 0 0⟩ := ⟨Try.underlying68, by kernel_rfl, rfl⟩
theorem ti72 : TIOk Try.prog 72 ⟨.struct [(0, 3), (1, 3)], 2, 16, .agg #[.int .i64 0, .int .i64 0]⟩ := ⟨⟨_, Try.underlying72, rfl⟩, by kernel_rfl, rfl⟩
theorem ti73 : TIOk Try.prog 73 ⟨.struct [(0, 3), (1, 3)], 2, 16, .agg #[.int .i64 0, .int .i64 0]⟩ := ⟨⟨_, Try.underlying73, rfl⟩, by kernel_rfl, rfl⟩
theorem ti88 : TIOk Try.prog 88 ⟨.iface, 1, 16, .nilIface⟩ := ⟨⟨_, Try.underlying88⟩, by kernel_rfl, rfl⟩
theorem ti106 : TIOk Try.prog 106 ⟨.slice 3, 1, 24, .slice none 0 0⟩ := ⟨Try.underlying106, by kernel_rfl, rfl⟩
theorem ti113 : TIOk Try.prog 113 ⟨.func, 1, 8, .nilFunc⟩ := ⟨⟨_, _, _, Try.underlying113⟩, by kernel_rfl, rfl⟩
theorem ti118 : TIOk Try.prog 118 ⟨.arr 3 3, 3, 24, .agg #[.int .i64 0, .int .i64 0, .int .i64 0]⟩ := ⟨Try.underlying118, by kernel_rfl, rfl⟩
theorem ti120 : TIOk Try.prog 120 ⟨.struct [(0, 3), (1, 3)], 2, 16, .agg #[.int .i64 0, .int .i64 0]⟩ := ⟨⟨_, Try.underlying120, rfl⟩, by kernel_rfl, rfl⟩
theorem ti122 : TIOk Try.prog 122 ⟨.struct [(0, 3), (1, 3)], 2, 16, .agg #[.int .i64 0, .int .i64 0]⟩ := ⟨⟨_, Try.underlying122, rfl⟩, by kernel_rfl, rfl⟩
theorem ti130 : TIOk Try.prog 130 ⟨.struct [(0, 22), (1, 3)], 2, 32, .agg #[.slice none 0 0, .int .i64 0]⟩ := ⟨⟨_, Try.underlying130, rfl⟩, by kernel_rfl, rfl⟩
theorem tok : TOk Try.prog T := ⟨ti3, ti4, ti5, ti22, ti24, ti26, ti30, ti37, ti38, ti40, ti53, ti55, ti65, ti68, ti72, ti73, ti88, ti106, ti113, ti118, ti120, ti122, ti130, trivial⟩
theorem mx : Try.prog.follows .mixedOrders = true := by kernel_rfl
end Go.Af.Try
