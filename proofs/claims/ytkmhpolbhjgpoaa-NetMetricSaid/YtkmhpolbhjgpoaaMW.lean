/-
  The examples of the chapter that every statement contains hold: the computing machine runs them.
-/
import Derived.Test.YtkmhpolbhjgpoaaMF
import Derived.Test.YtkmhpolbhjgpoaaProg
import Derived.KernelRfl
set_option linter.all false
namespace Go.Af.Try.W
open Go Go.Proofs
set_option maxRecDepth 100000
def T : TT := [(3, ⟨.int .i64, 1, 8, .int .i64 0⟩),
  (22, ⟨.slice 3, 1, 24, .slice none 0 0⟩),
  (24, ⟨.struct [(0, 3), (1, 22), (2, 3)], 3, 40, .agg #[.int .i64 0, .slice none 0 0, .int .i64 0]⟩),
  (122, ⟨.struct [(0, 3), (1, 3)], 2, 16, .agg #[.int .i64 0, .int .i64 0]⟩),
  (120, ⟨.struct [(0, 3), (1, 3)], 2, 16, .agg #[.int .i64 0, .int .i64 0]⟩),
  (106, ⟨.slice 3, 1, 24, .slice none 0 0⟩),
  (26, ⟨.int .i64, 1, 8, .int .i64 0⟩),
  (4, ⟨.bool, 1, 1, .bool false⟩)]
theorem ti3 : TIOk Try.prog 3 ⟨.int .i64, 1, 8, .int .i64 0⟩ := ⟨Try.underlying3, by kernel_rfl, rfl⟩
theorem ti22 : TIOk Try.prog 22 ⟨.slice 3, 1, 24, .slice none 0 0⟩ := ⟨Try.underlying22, by kernel_rfl, rfl⟩
theorem ti24 : TIOk Try.prog 24 ⟨.struct [(0, 3), (1, 22), (2, 3)], 3, 40, .agg #[.int .i64 0, .slice none 0 0, .int .i64 0]⟩ := ⟨⟨_, Try.underlying24, rfl⟩, by kernel_rfl, rfl⟩
theorem ti122 : TIOk Try.prog 122 ⟨.struct [(0, 3), (1, 3)], 2, 16, .agg #[.int .i64 0, .int .i64 0]⟩ := ⟨⟨_, Try.underlying122, rfl⟩, by kernel_rfl, rfl⟩
theorem ti120 : TIOk Try.prog 120 ⟨.struct [(0, 3), (1, 3)], 2, 16, .agg #[.int .i64 0, .int .i64 0]⟩ := ⟨⟨_, Try.underlying120, rfl⟩, by kernel_rfl, rfl⟩
theorem ti106 : TIOk Try.prog 106 ⟨.slice 3, 1, 24, .slice none 0 0⟩ := ⟨Try.underlying106, by kernel_rfl, rfl⟩
theorem ti26 : TIOk Try.prog 26 ⟨.int .i64, 1, 8, .int .i64 0⟩ := ⟨Try.underlying26, by kernel_rfl, rfl⟩
theorem ti4 : TIOk Try.prog 4 ⟨.bool, 1, 1, .bool false⟩ := ⟨Try.underlying4, by kernel_rfl, rfl⟩
theorem tok : TOk Try.prog T := ⟨ti3, ti22, ti24, ti122, ti120, ti106, ti26, ti4, trivial⟩
theorem mx : Try.prog.follows .mixedOrders = true := by kernel_rfl
def Ms : List (String × List (Nat × Nat)) := [("armada/net.homes", [(106, 131), (120, 140), (122, 152)]), ("armada/net.place", [(106, 66), (120, 142), (122, 154)]), ("armada/net.route", [(106, 133), (120, 143), (122, 155)]), ("armada/net.switches", [(106, 135), (120, 145), (122, 157)])]
theorem em0 (v : Value) (w : World) : (method (Try.prog.types.size + Made.depth) 106 v "armada/net.homes").run Try.prog w = .ok (131, v) w := by kernel_rfl
theorem em1 (v : Value) (w : World) : (method (Try.prog.types.size + Made.depth) 120 v "armada/net.homes").run Try.prog w = .ok (140, v) w := by kernel_rfl
theorem em2 (v : Value) (w : World) : (method (Try.prog.types.size + Made.depth) 122 v "armada/net.homes").run Try.prog w = .ok (152, v) w := by kernel_rfl
theorem em3 (v : Value) (w : World) : (method (Try.prog.types.size + Made.depth) 106 v "armada/net.place").run Try.prog w = .ok (66, v) w := by kernel_rfl
theorem em4 (v : Value) (w : World) : (method (Try.prog.types.size + Made.depth) 120 v "armada/net.place").run Try.prog w = .ok (142, v) w := by kernel_rfl
theorem em5 (v : Value) (w : World) : (method (Try.prog.types.size + Made.depth) 122 v "armada/net.place").run Try.prog w = .ok (154, v) w := by kernel_rfl
theorem em6 (v : Value) (w : World) : (method (Try.prog.types.size + Made.depth) 106 v "armada/net.route").run Try.prog w = .ok (133, v) w := by kernel_rfl
theorem em7 (v : Value) (w : World) : (method (Try.prog.types.size + Made.depth) 120 v "armada/net.route").run Try.prog w = .ok (143, v) w := by kernel_rfl
theorem em8 (v : Value) (w : World) : (method (Try.prog.types.size + Made.depth) 122 v "armada/net.route").run Try.prog w = .ok (155, v) w := by kernel_rfl
theorem em9 (v : Value) (w : World) : (method (Try.prog.types.size + Made.depth) 106 v "armada/net.switches").run Try.prog w = .ok (135, v) w := by kernel_rfl
theorem em10 (v : Value) (w : World) : (method (Try.prog.types.size + Made.depth) 120 v "armada/net.switches").run Try.prog w = .ok (145, v) w := by kernel_rfl
theorem em11 (v : Value) (w : World) : (method (Try.prog.types.size + Made.depth) 122 v "armada/net.switches").run Try.prog w = .ok (157, v) w := by kernel_rfl
def EE : Env := { T := T, eqs := [], ms := Ms }
theorem eok : EOk Try.prog EE := by
  refine ⟨tok, fun t ks h => (by simp [EE] at h), fun name m h t f hm v w => ?_⟩
  simp only [EE, Ms, List.mem_cons, List.not_mem_nil, or_false] at h
  rcases h with h | h | h | h
  · cases h
    simp only [List.mem_cons, List.not_mem_nil, or_false] at hm
    rcases hm with hm | hm | hm
    · cases hm; exact em0 v w
    · cases hm; exact em1 v w
    · cases hm; exact em2 v w
  · cases h
    simp only [List.mem_cons, List.not_mem_nil, or_false] at hm
    rcases hm with hm | hm | hm
    · cases hm; exact em3 v w
    · cases hm; exact em4 v w
    · cases hm; exact em5 v w
  · cases h
    simp only [List.mem_cons, List.not_mem_nil, or_false] at hm
    rcases hm with hm | hm | hm
    · cases hm; exact em6 v w
    · cases hm; exact em7 v w
    · cases hm; exact em8 v w
  · cases h
    simp only [List.mem_cons, List.not_mem_nil, or_false] at hm
    rcases hm with hm | hm | hm
    · cases hm; exact em9 v w
    · cases hm; exact em10 v w
    · cases hm; exact em11 v w
noncomputable def i12 : FI := fiOf Try.f12 []
noncomputable def i13 : FI := fiOf Try.f13 []
noncomputable def i16 : FI := fiOf Try.f16 []
noncomputable def i18 : FI := fiOf Try.f18 [(6, [0, 0, 3, 7, 0, 0, 48, 112, 255], [false, false, false, false, true, true, true, true, false], [0, 1, 2, 3, 4, 5, 6, 7, 8])]
noncomputable def i22 : FI := fiOf Try.f22 [(4, [0, 1, 0, 7, 0, 16, 63, 15, 255, 511], [false, true, false, true, false, false, false, true, false, false], [0, 2, 4, 5, 1, 3, 6, 7, 8, 9])]
noncomputable def i28 : FI := fiOf Try.f28 []
noncomputable def i47 : FI := fiOf Try.f47 []
noncomputable def i48 : FI := fiOf Try.f48 []
noncomputable def i49 : FI := fiOf Try.f49 []
noncomputable def i50 : FI := fiOf Try.f50 []
noncomputable def i51 : FI := fiOf Try.f51 []
noncomputable def i57 : FI := fiOf Try.f57 [(15, [0, 1, 3, 7, 15, 31, 63, 127, 255, 511, 1023, 2047, 4095, 8191, 16383, 32767, 65535, 131071, 262143, 524287, 1048575, 2097151, 4194303, 524287, 8912895, 25690111, 59244543, 134217727, 268435455, 536870911, 1073741823, 2147483647, 4294967295, 2147483647, 10737418239, 27917287423, 62277025791, 137438953471, 274877906943], [false, false, false, false, false, false, false, false, false, false, false, false, false, false, false, false, false, false, false, false, false, false, false, true, true, true, true, false, false, false, false, false, false, true, true, true, true, false, false], [0, 1, 2, 3, 4, 5, 6, 7, 8, 9, 10, 11, 12, 13, 14, 15, 16, 17, 18, 19, 20, 21, 22, 23, 24, 25, 26, 27, 28, 29, 30, 31, 32, 33, 34, 35, 36, 37, 38]), (16, [0, 1, 3, 7, 0, 16, 48, 112, 255, 511, 1023, 2047], [false, false, false, false, true, true, true, true, false, false, false, false], [0, 1, 2, 3, 4, 5, 6, 7, 8, 9, 10, 11]), (18, [0, 1, 3, 7, 15, 31, 63, 127, 255, 511, 1023, 2047, 4095, 8191, 16383, 32767, 65535, 131071, 262143, 524287, 1048575, 2097151, 4194303, 8388607, 16777215, 33554431, 4194303, 71303167, 205520895, 473956351, 4194303, 1077936127, 3225419775, 7520387071, 17116954623, 34296823807, 68719476735, 137438953471, 274877906943], [false, false, false, false, false, false, false, false, false, false, false, false, false, false, false, false, false, false, false, false, false, false, false, false, false, false, true, true, true, true, true, true, true, true, true, true, false, false, false], [0, 1, 2, 3, 4, 5, 6, 7, 8, 9, 10, 11, 12, 13, 14, 15, 16, 17, 18, 19, 20, 21, 22, 23, 24, 25, 26, 27, 28, 29, 30, 31, 32, 33, 34, 35, 36, 37, 38]), (19, [0, 1, 3, 7, 0, 16, 48, 112, 255, 511, 1023, 2047], [false, false, false, false, true, true, true, true, false, false, false, false], [0, 1, 2, 3, 4, 5, 6, 7, 8, 9, 10, 11])]
noncomputable def i62 : FI := fiOf Try.f62 []
noncomputable def i66 : FI := fiOf Try.f66 [(5, [0, 0, 0, 0, 12, 31, 63], [false, true, true, true, true, false, false], [0, 1, 2, 3, 4, 5, 6])]
noncomputable def i67 : FI := fiOf Try.f67 []
noncomputable def i81 : FI := fiOf Try.f81 []
noncomputable def i82 : FI := fiOf Try.f82 []
noncomputable def i83 : FI := fiOf Try.f83 []
noncomputable def i91 : FI := fiOf Try.f91 []
noncomputable def i131 : FI := fiOf Try.f131 []
noncomputable def i133 : FI := fiOf Try.f133 [(7, [0, 0, 0, 0, 12, 28, 0, 0, 192, 448, 960, 2047, 4095, 0, 16383], [false, false, false, false, false, false, true, true, true, true, true, false, false, true, false], [0, 1, 2, 3, 4, 5, 6, 7, 8, 9, 10, 13, 11, 12, 14]), (9, [0, 0, 3, 7, 0, 0, 48, 112, 255], [false, false, false, false, true, true, true, true, false], [0, 1, 2, 3, 4, 5, 6, 7, 8])]
noncomputable def i135 : FI := fiOf Try.f135 []
noncomputable def i137 : FI := fiOf Try.f137 [(1, [0, 0, 3, 0, 0, 24, 56, 127, 0, 0, 768, 1792, 4095, 8191], [false, false, false, false, false, false, false, false, true, true, true, true, false, false], [0, 1, 2, 3, 4, 5, 6, 7, 8, 9, 10, 11, 12, 13])]
noncomputable def i140 : FI := fiOf Try.f140 []
noncomputable def i142 : FI := fiOf Try.f142 [(1, [0, 0, 2, 7, 0, 0, 38, 118, 255, 511], [false, false, true, true, true, true, false, false, false, false], [0, 1, 4, 5, 2, 3, 6, 7, 8, 9])]
noncomputable def i143 : FI := fiOf Try.f143 [(2, [0, 1, 3, 0, 8, 24, 7, 127], [false, false, false, true, true, true, true, false], [0, 1, 2, 3, 4, 5, 6, 7]), (4, [0, 0, 2, 0, 14, 31, 0, 0, 128, 0, 926, 2014, 4095], [false, false, false, true, true, true, true, true, true, true, false, false, false], [0, 1, 2, 3, 6, 7, 8, 9, 4, 5, 10, 11, 12]), (12, [0, 0, 2, 6, 14, 3, 63], [false, false, false, false, false, false, false], [0, 1, 2, 3, 5, 4, 6])]
noncomputable def i145 : FI := fiOf Try.f145 [(1, [0, 1, 0, 4, 15, 31], [false, false, true, true, false, false], [0, 1, 2, 3, 4, 5])]
noncomputable def i146 : FI := fiOf Try.f146 []
noncomputable def i148 : FI := fiOf Try.f148 [(2, [0, 0, 0, 6, 0, 16, 62, 0, 0, 384, 0, 1024, 3968, 8190, 0, 32766, 65535, 131071], [false, false, false, false, false, false, false, true, true, true, true, true, true, false, true, false, false, false], [0, 1, 2, 3, 4, 5, 6, 7, 8, 9, 10, 11, 12, 13, 14, 15, 16, 17])]
noncomputable def i151 : FI := fiOf Try.f151 []
noncomputable def i152 : FI := fiOf Try.f152 []
noncomputable def i154 : FI := fiOf Try.f154 [(1, [0, 0, 2, 7, 0, 0, 32, 112, 255, 511], [false, false, false, false, true, true, true, true, false, false], [0, 1, 2, 3, 4, 5, 6, 7, 8, 9])]
noncomputable def i155 : FI := fiOf Try.f155 [(1, [0, 0, 2, 7, 0, 0, 32, 112, 15, 511], [false, false, false, false, true, true, true, true, true, false], [0, 1, 2, 3, 4, 5, 6, 7, 8, 9])]
noncomputable def i157 : FI := fiOf Try.f157 [(1, [0, 1, 0, 4, 15, 31], [false, false, true, true, false, false], [0, 1, 2, 3, 4, 5])]
noncomputable def i159 : FI := fiOf Try.f159 [(1, [0, 0, 3, 7, 0, 16, 63, 0, 176, 511, 1023], [false, false, false, false, false, true, true, true, false, false, false], [0, 1, 2, 3, 4, 7, 5, 6, 8, 9, 10]), (2, [0, 0, 2, 7, 0, 0, 32, 112, 255, 0, 0, 1024, 3584, 0, 8192, 24576, 0, 122880, 0, 262144, 1040384, 2096640, 25087, 8388607], [false, false, false, false, true, true, true, true, false, true, true, true, true, true, true, true, true, true, true, true, true, true, true, false], [0, 1, 2, 3, 4, 5, 6, 7, 8, 9, 10, 11, 12, 13, 16, 18, 19, 14, 15, 17, 20, 21, 22, 23])]
noncomputable def i160 : FI := fiOf Try.f160 [(6, [0, 0, 3, 7, 0, 0, 32, 112, 240, 511], [false, false, false, false, true, true, true, true, true, false], [0, 1, 2, 3, 4, 5, 6, 7, 8, 9]), (11, [0, 0, 3, 7, 0, 0, 32, 112, 240, 511], [false, false, false, false, true, true, true, true, true, false], [0, 1, 2, 3, 4, 5, 6, 7, 8, 9])]
noncomputable def FNt : Tr FI := (.n (.n (.n (.n (.n (.n .e none (.n (.n .e (some i159) .e) none .e)) none (.n (.n (.n .e (some i143) .e) none .e) (some i47) .e)) none (.n (.n (.n (.n .e (some i135) .e) none .e) none .e) none (.n (.n (.n .e (some i151) .e) none .e) none .e))) none (.n (.n (.n (.n (.n .e (some i131) .e) (some i67) .e) none .e) none (.n (.n .e (some i83) .e) (some i51) .e)) none (.n .e none (.n (.n (.n .e (some i155) .e) (some i91) .e) none .e)))) none (.n (.n (.n .e none (.n (.n (.n .e (some i145) .e) (some i81) .e) (some i49) .e)) none (.n (.n (.n (.n .e (some i137) .e) none .e) none .e) none (.n .e (some i57) .e))) none (.n (.n (.n (.n (.n .e (some i133) .e) none .e) none .e) none .e) (some i13) (.n .e none (.n (.n (.n .e (some i157) .e) none .e) none .e))))) none (.n (.n (.n (.n (.n .e none (.n (.n .e (some i160) .e) none .e)) (some i16) (.n .e (some i48) .e)) none (.n .e none (.n (.n (.n .e (some i152) .e) none .e) none .e))) none (.n (.n .e none (.n (.n (.n .e (some i148) .e) none .e) none .e)) (some i12) (.n (.n (.n (.n .e (some i140) .e) none .e) none .e) (some i28) .e))) none (.n (.n (.n (.n (.n .e (some i66) .e) none .e) (some i18) (.n (.n (.n .e (some i146) .e) (some i82) .e) (some i50) .e)) none (.n .e none (.n (.n (.n .e (some i154) .e) none .e) none .e))) none (.n (.n .e (some i22) .e) none (.n (.n (.n (.n .e (some i142) .e) none .e) none .e) none (.n .e (some i62) .e))))))
theorem o12 : FOk Try.prog 12 i12 := ⟨Try.call12, Try.f12, Try.func12, rfl, rfl, rfl⟩
theorem o13 : FOk Try.prog 13 i13 := ⟨Try.call13, Try.f13, Try.func13, rfl, rfl, rfl⟩
theorem o16 : FOk Try.prog 16 i16 := ⟨Try.call16, Try.f16, Try.func16, rfl, rfl, rfl⟩
theorem o18 : FOk Try.prog 18 i18 := ⟨Try.call18, Try.f18, Try.func18, rfl, rfl, rfl⟩
theorem o22 : FOk Try.prog 22 i22 := ⟨Try.call22, Try.f22, Try.func22, rfl, rfl, rfl⟩
theorem o28 : FOk Try.prog 28 i28 := ⟨Try.call28, Try.f28, Try.func28, rfl, rfl, rfl⟩
theorem o47 : FOk Try.prog 47 i47 := ⟨Try.call47, Try.f47, Try.func47, rfl, rfl, rfl⟩
theorem o48 : FOk Try.prog 48 i48 := ⟨Try.call48, Try.f48, Try.func48, rfl, rfl, rfl⟩
theorem o49 : FOk Try.prog 49 i49 := ⟨Try.call49, Try.f49, Try.func49, rfl, rfl, rfl⟩
theorem o50 : FOk Try.prog 50 i50 := ⟨Try.call50, Try.f50, Try.func50, rfl, rfl, rfl⟩
theorem o51 : FOk Try.prog 51 i51 := ⟨Try.call51, Try.f51, Try.func51, rfl, rfl, rfl⟩
theorem o57 : FOk Try.prog 57 i57 := ⟨Try.call57, Try.f57, Try.func57, rfl, rfl, rfl⟩
theorem o62 : FOk Try.prog 62 i62 := ⟨Try.call62, Try.f62, Try.func62, rfl, rfl, rfl⟩
theorem o66 : FOk Try.prog 66 i66 := ⟨Try.call66, Try.f66, Try.func66, rfl, rfl, rfl⟩
theorem o67 : FOk Try.prog 67 i67 := ⟨Try.call67, Try.f67, Try.func67, rfl, rfl, rfl⟩
theorem o81 : FOk Try.prog 81 i81 := ⟨Try.call81, Try.f81, Try.func81, rfl, rfl, rfl⟩
theorem o82 : FOk Try.prog 82 i82 := ⟨Try.call82, Try.f82, Try.func82, rfl, rfl, rfl⟩
theorem o83 : FOk Try.prog 83 i83 := ⟨Try.call83, Try.f83, Try.func83, rfl, rfl, rfl⟩
theorem o91 : FOk Try.prog 91 i91 := ⟨Try.call91, Try.f91, Try.func91, rfl, rfl, rfl⟩
theorem o131 : FOk Try.prog 131 i131 := ⟨Try.call131, Try.f131, Try.func131, rfl, rfl, rfl⟩
theorem o133 : FOk Try.prog 133 i133 := ⟨Try.call133, Try.f133, Try.func133, rfl, rfl, rfl⟩
theorem o135 : FOk Try.prog 135 i135 := ⟨Try.call135, Try.f135, Try.func135, rfl, rfl, rfl⟩
theorem o137 : FOk Try.prog 137 i137 := ⟨Try.call137, Try.f137, Try.func137, rfl, rfl, rfl⟩
theorem o140 : FOk Try.prog 140 i140 := ⟨Try.call140, Try.f140, Try.func140, rfl, rfl, rfl⟩
theorem o142 : FOk Try.prog 142 i142 := ⟨Try.call142, Try.f142, Try.func142, rfl, rfl, rfl⟩
theorem o143 : FOk Try.prog 143 i143 := ⟨Try.call143, Try.f143, Try.func143, rfl, rfl, rfl⟩
theorem o145 : FOk Try.prog 145 i145 := ⟨Try.call145, Try.f145, Try.func145, rfl, rfl, rfl⟩
theorem o146 : FOk Try.prog 146 i146 := ⟨Try.call146, Try.f146, Try.func146, rfl, rfl, rfl⟩
theorem o148 : FOk Try.prog 148 i148 := ⟨Try.call148, Try.f148, Try.func148, rfl, rfl, rfl⟩
theorem o151 : FOk Try.prog 151 i151 := ⟨Try.call151, Try.f151, Try.func151, rfl, rfl, rfl⟩
theorem o152 : FOk Try.prog 152 i152 := ⟨Try.call152, Try.f152, Try.func152, rfl, rfl, rfl⟩
theorem o154 : FOk Try.prog 154 i154 := ⟨Try.call154, Try.f154, Try.func154, rfl, rfl, rfl⟩
theorem o155 : FOk Try.prog 155 i155 := ⟨Try.call155, Try.f155, Try.func155, rfl, rfl, rfl⟩
theorem o157 : FOk Try.prog 157 i157 := ⟨Try.call157, Try.f157, Try.func157, rfl, rfl, rfl⟩
theorem o159 : FOk Try.prog 159 i159 := ⟨Try.call159, Try.f159, Try.func159, rfl, rfl, rfl⟩
theorem o160 : FOk Try.prog 160 i160 := ⟨Try.call160, Try.f160, Try.func160, rfl, rfl, rfl⟩
theorem fall : TrAll (FOk Try.prog) (fun m => m) FNt := ⟨⟨⟨⟨⟨⟨trivial, trivial, ⟨⟨trivial, o159, trivial⟩, trivial, trivial⟩⟩, trivial, ⟨⟨⟨trivial, o143, trivial⟩, trivial, trivial⟩, o47, trivial⟩⟩, trivial, ⟨⟨⟨⟨trivial, o135, trivial⟩, trivial, trivial⟩, trivial, trivial⟩, trivial, ⟨⟨⟨trivial, o151, trivial⟩, trivial, trivial⟩, trivial, trivial⟩⟩⟩, trivial, ⟨⟨⟨⟨⟨trivial, o131, trivial⟩, o67, trivial⟩, trivial, trivial⟩, trivial, ⟨⟨trivial, o83, trivial⟩, o51, trivial⟩⟩, trivial, ⟨trivial, trivial, ⟨⟨⟨trivial, o155, trivial⟩, o91, trivial⟩, trivial, trivial⟩⟩⟩⟩, trivial, ⟨⟨⟨trivial, trivial, ⟨⟨⟨trivial, o145, trivial⟩, o81, trivial⟩, o49, trivial⟩⟩, trivial, ⟨⟨⟨⟨trivial, o137, trivial⟩, trivial, trivial⟩, trivial, trivial⟩, trivial, ⟨trivial, o57, trivial⟩⟩⟩, trivial, ⟨⟨⟨⟨⟨trivial, o133, trivial⟩, trivial, trivial⟩, trivial, trivial⟩, trivial, trivial⟩, o13, ⟨trivial, trivial, ⟨⟨⟨trivial, o157, trivial⟩, trivial, trivial⟩, trivial, trivial⟩⟩⟩⟩⟩, trivial, ⟨⟨⟨⟨⟨trivial, trivial, ⟨⟨trivial, o160, trivial⟩, trivial, trivial⟩⟩, o16, ⟨trivial, o48, trivial⟩⟩, trivial, ⟨trivial, trivial, ⟨⟨⟨trivial, o152, trivial⟩, trivial, trivial⟩, trivial, trivial⟩⟩⟩, trivial, ⟨⟨trivial, trivial, ⟨⟨⟨trivial, o148, trivial⟩, trivial, trivial⟩, trivial, trivial⟩⟩, o12, ⟨⟨⟨⟨trivial, o140, trivial⟩, trivial, trivial⟩, trivial, trivial⟩, o28, trivial⟩⟩⟩, trivial, ⟨⟨⟨⟨⟨trivial, o66, trivial⟩, trivial, trivial⟩, o18, ⟨⟨⟨trivial, o146, trivial⟩, o82, trivial⟩, o50, trivial⟩⟩, trivial, ⟨trivial, trivial, ⟨⟨⟨trivial, o154, trivial⟩, trivial, trivial⟩, trivial, trivial⟩⟩⟩, trivial, ⟨⟨trivial, o22, trivial⟩, trivial, ⟨⟨⟨⟨trivial, o142, trivial⟩, trivial, trivial⟩, trivial, trivial⟩, trivial, ⟨trivial, o62, trivial⟩⟩⟩⟩⟩⟩
theorem fok : FnOk Try.prog FNt := fok_of fall
end Go.Af.Try.W
namespace Go.Af.Try.W
open Go Go.Proofs
theorem works_run : (evN FNt EE 100).call 0 12 [] .e 0 (fun v _ _ => match v with | .bool b => b | _ => false) = true := by kernel_rfl
theorem works : ACall Try.prog 12 [] [] (fun v H => v = .bool true ∧ H = []) :=
  acall_drop ((run_ok fok eok mx works_run).mono fun v H h => by
    split at h
    · rename_i b; subst h
      exact ⟨[], .bool true, [], by simp, anch_of rfl, trivial, rfl, VRen.plain rfl, rfl, rfl⟩
    · cases h)
end Go.Af.Try.W
