/-
  The examples of the chapter that every statement contains hold: the computing machine runs them.
-/
import Derived.Test.YtjncbbdiejkalaaGreatMF
import Derived.Test.YtjncbbdiejkalaaGreatProg
import Derived.KernelRfl
set_option linter.all false
namespace Go.Af.Tryz.W
open Go Go.Proofs
set_option maxRecDepth 100000
def T : TT := [(3, ⟨.int .i64, 1, 8, .int .i64 0⟩),
  (22, ⟨.slice 3, 1, 24, .slice none 0 0⟩),
  (24, ⟨.struct [(0, 3), (1, 22), (2, 3)], 3, 40, .agg #[.int .i64 0, .slice none 0 0, .int .i64 0]⟩),
  (138, ⟨.struct [(0, 3), (1, 3)], 2, 16, .agg #[.int .i64 0, .int .i64 0]⟩),
  (136, ⟨.struct [(0, 3), (1, 3)], 2, 16, .agg #[.int .i64 0, .int .i64 0]⟩),
  (118, ⟨.slice 3, 1, 24, .slice none 0 0⟩),
  (27, ⟨.int .i64, 1, 8, .int .i64 0⟩),
  (4, ⟨.bool, 1, 1, .bool false⟩)]
theorem ti3 : TIOk Tryz.prog 3 ⟨.int .i64, 1, 8, .int .i64 0⟩ := ⟨Tryz.underlying3, by kernel_rfl, rfl⟩
theorem ti22 : TIOk Tryz.prog 22 ⟨.slice 3, 1, 24, .slice none 0 0⟩ := ⟨Tryz.underlying22, by kernel_rfl, rfl⟩
theorem ti24 : TIOk Tryz.prog 24 ⟨.struct [(0, 3), (1, 22), (2, 3)], 3, 40, .agg #[.int .i64 0, .slice none 0 0, .int .i64 0]⟩ := ⟨⟨_, Tryz.underlying24, rfl⟩, by kernel_rfl, rfl⟩
theorem ti138 : TIOk Tryz.prog 138 ⟨.struct [(0, 3), (1, 3)], 2, 16, .agg #[.int .i64 0, .int .i64 0]⟩ := ⟨⟨_, Tryz.underlying138, rfl⟩, by kernel_rfl, rfl⟩
theorem ti136 : TIOk Tryz.prog 136 ⟨.struct [(0, 3), (1, 3)], 2, 16, .agg #[.int .i64 0, .int .i64 0]⟩ := ⟨⟨_, Tryz.underlying136, rfl⟩, by kernel_rfl, rfl⟩
theorem ti118 : TIOk Tryz.prog 118 ⟨.slice 3, 1, 24, .slice none 0 0⟩ := ⟨Tryz.underlying118, by kernel_rfl, rfl⟩
theorem ti27 : TIOk Tryz.prog 27 ⟨.int .i64, 1, 8, .int .i64 0⟩ := ⟨Tryz.underlying27, by kernel_rfl, rfl⟩
theorem ti4 : TIOk Tryz.prog 4 ⟨.bool, 1, 1, .bool false⟩ := ⟨Tryz.underlying4, by kernel_rfl, rfl⟩
theorem tok : TOk Tryz.prog T := ⟨ti3, ti22, ti24, ti138, ti136, ti118, ti27, ti4, trivial⟩
theorem mx : Tryz.prog.follows .mixedOrders = true := by kernel_rfl
def Ms : List (String × List (Nat × Nat)) := [("armada/net.homes", [(118, 149), (136, 156), (138, 166)]), ("armada/net.place", [(118, 76), (136, 158), (138, 168)]), ("armada/net.route", [(118, 151), (136, 159), (138, 169)]), ("armada/net.switches", [(118, 153), (136, 161), (138, 171)])]
theorem em0 (v : Value) (w : World) : (method (Tryz.prog.types.size + Made.depth) 118 v "armada/net.homes").run Tryz.prog w = .ok (149, v) w := by kernel_rfl
theorem em1 (v : Value) (w : World) : (method (Tryz.prog.types.size + Made.depth) 136 v "armada/net.homes").run Tryz.prog w = .ok (156, v) w := by kernel_rfl
theorem em2 (v : Value) (w : World) : (method (Tryz.prog.types.size + Made.depth) 138 v "armada/net.homes").run Tryz.prog w = .ok (166, v) w := by kernel_rfl
theorem em3 (v : Value) (w : World) : (method (Tryz.prog.types.size + Made.depth) 118 v "armada/net.place").run Tryz.prog w = .ok (76, v) w := by kernel_rfl
theorem em4 (v : Value) (w : World) : (method (Tryz.prog.types.size + Made.depth) 136 v "armada/net.place").run Tryz.prog w = .ok (158, v) w := by kernel_rfl
theorem em5 (v : Value) (w : World) : (method (Tryz.prog.types.size + Made.depth) 138 v "armada/net.place").run Tryz.prog w = .ok (168, v) w := by kernel_rfl
theorem em6 (v : Value) (w : World) : (method (Tryz.prog.types.size + Made.depth) 118 v "armada/net.route").run Tryz.prog w = .ok (151, v) w := by kernel_rfl
theorem em7 (v : Value) (w : World) : (method (Tryz.prog.types.size + Made.depth) 136 v "armada/net.route").run Tryz.prog w = .ok (159, v) w := by kernel_rfl
theorem em8 (v : Value) (w : World) : (method (Tryz.prog.types.size + Made.depth) 138 v "armada/net.route").run Tryz.prog w = .ok (169, v) w := by kernel_rfl
theorem em9 (v : Value) (w : World) : (method (Tryz.prog.types.size + Made.depth) 118 v "armada/net.switches").run Tryz.prog w = .ok (153, v) w := by kernel_rfl
theorem em10 (v : Value) (w : World) : (method (Tryz.prog.types.size + Made.depth) 136 v "armada/net.switches").run Tryz.prog w = .ok (161, v) w := by kernel_rfl
theorem em11 (v : Value) (w : World) : (method (Tryz.prog.types.size + Made.depth) 138 v "armada/net.switches").run Tryz.prog w = .ok (171, v) w := by kernel_rfl
def EE : Env := { T := T, eqs := [], ms := Ms }
theorem eok : EOk Tryz.prog EE := by
  refine ⟨tok, fun t ks h => (by simp [EE] at h), fun name m h t f hm v w => ?_⟩
  simp only [EE, Ms, List.mem_cons, List.not_mem_nil, or_false] at h
  rcases h with h | h | h | h
  · cases h
    simp only [List.mem_cons, List.not_mem_nil, or_false] at hm
    rcases hm with hm | hm | hm
    · cases hm; exact em0 v w
    · cases hm; exact em1 v w
    · cases hm; exact em2 v w
  · cases h
    simp only [List.mem_cons, List.not_mem_nil, or_false] at hm
    rcases hm with hm | hm | hm
    · cases hm; exact em3 v w
    · cases hm; exact em4 v w
    · cases hm; exact em5 v w
  · cases h
    simp only [List.mem_cons, List.not_mem_nil, or_false] at hm
    rcases hm with hm | hm | hm
    · cases hm; exact em6 v w
    · cases hm; exact em7 v w
    · cases hm; exact em8 v w
  · cases h
    simp only [List.mem_cons, List.not_mem_nil, or_false] at hm
    rcases hm with hm | hm | hm
    · cases hm; exact em9 v w
    · cases hm; exact em10 v w
    · cases hm; exact em11 v w
noncomputable def i8 : FI := fiOf Tryz.f8 []
noncomputable def i14 : FI := fiOf Tryz.f14 [(6, [0, 0, 3, 7, 0, 0, 48, 112, 255], [false, false, false, false, true, true, true, true, false], [0, 1, 2, 3, 4, 5, 6, 7, 8])]
noncomputable def i30 : FI := fiOf Tryz.f30 []
noncomputable def i31 : FI := fiOf Tryz.f31 []
noncomputable def i32 : FI := fiOf Tryz.f32 []
noncomputable def i33 : FI := fiOf Tryz.f33 []
noncomputable def i34 : FI := fiOf Tryz.f34 []
noncomputable def i35 : FI := fiOf Tryz.f35 []
noncomputable def i40 : FI := fiOf Tryz.f40 [(4, [0, 1, 0, 7, 0, 16, 63, 15, 255, 511], [false, true, false, true, false, false, false, true, false, false], [0, 2, 4, 5, 1, 3, 6, 7, 8, 9])]
noncomputable def i41 : FI := fiOf Tryz.f41 []
noncomputable def i51 : FI := fiOf Tryz.f51 [(15, [0, 1, 3, 7, 15, 31, 63, 127, 255, 511, 1023, 2047, 4095, 8191, 16383, 32767, 65535, 131071, 262143, 524287, 1048575, 2097151, 4194303, 524287, 8912895, 25690111, 59244543, 134217727, 268435455, 536870911, 1073741823, 2147483647, 4294967295, 2147483647, 10737418239, 27917287423, 62277025791, 137438953471, 274877906943], [false, false, false, false, false, false, false, false, false, false, false, false, false, false, false, false, false, false, false, false, false, false, false, true, true, true, true, false, false, false, false, false, false, true, true, true, true, false, false], [0, 1, 2, 3, 4, 5, 6, 7, 8, 9, 10, 11, 12, 13, 14, 15, 16, 17, 18, 19, 20, 21, 22, 23, 24, 25, 26, 27, 28, 29, 30, 31, 32, 33, 34, 35, 36, 37, 38]), (16, [0, 1, 3, 7, 0, 16, 48, 112, 255, 511, 1023, 2047], [false, false, false, false, true, true, true, true, false, false, false, false], [0, 1, 2, 3, 4, 5, 6, 7, 8, 9, 10, 11]), (18, [0, 1, 3, 7, 15, 31, 63, 127, 255, 511, 1023, 2047, 4095, 8191, 16383, 32767, 65535, 131071, 262143, 524287, 1048575, 2097151, 4194303, 8388607, 16777215, 33554431, 4194303, 71303167, 205520895, 473956351, 4194303, 1077936127, 3225419775, 7520387071, 17116954623, 34296823807, 68719476735, 137438953471, 274877906943], [false, false, false, false, false, false, false, false, false, false, false, false, false, false, false, false, false, false, false, false, false, false, false, false, false, false, true, true, true, true, true, true, true, true, true, true, false, false, false], [0, 1, 2, 3, 4, 5, 6, 7, 8, 9, 10, 11, 12, 13, 14, 15, 16, 17, 18, 19, 20, 21, 22, 23, 24, 25, 26, 27, 28, 29, 30, 31, 32, 33, 34, 35, 36, 37, 38]), (19, [0, 1, 3, 7, 0, 16, 48, 112, 255, 511, 1023, 2047], [false, false, false, false, true, true, true, true, false, false, false, false], [0, 1, 2, 3, 4, 5, 6, 7, 8, 9, 10, 11])]
noncomputable def i74 : FI := fiOf Tryz.f74 []
noncomputable def i75 : FI := fiOf Tryz.f75 []
noncomputable def i76 : FI := fiOf Tryz.f76 [(5, [0, 0, 0, 0, 12, 31, 63], [false, true, true, true, true, false, false], [0, 1, 2, 3, 4, 5, 6])]
noncomputable def i77 : FI := fiOf Tryz.f77 []
noncomputable def i89 : FI := fiOf Tryz.f89 []
noncomputable def i90 : FI := fiOf Tryz.f90 []
noncomputable def i103 : FI := fiOf Tryz.f103 []
noncomputable def i112 : FI := fiOf Tryz.f112 []
noncomputable def i149 : FI := fiOf Tryz.f149 []
noncomputable def i151 : FI := fiOf Tryz.f151 [(7, [0, 0, 0, 0, 12, 28, 0, 0, 192, 448, 960, 2047, 4095, 0, 16383], [false, false, false, false, false, false, true, true, true, true, true, false, false, true, false], [0, 1, 2, 3, 4, 5, 6, 7, 8, 9, 10, 13, 11, 12, 14]), (9, [0, 0, 3, 7, 0, 0, 48, 112, 255], [false, false, false, false, true, true, true, true, false], [0, 1, 2, 3, 4, 5, 6, 7, 8])]
noncomputable def i153 : FI := fiOf Tryz.f153 []
noncomputable def i155 : FI := fiOf Tryz.f155 [(1, [0, 0, 3, 0, 0, 24, 56, 127, 0, 0, 768, 1792, 4095, 8191], [false, false, false, false, false, false, false, false, true, true, true, true, false, false], [0, 1, 2, 3, 4, 5, 6, 7, 8, 9, 10, 11, 12, 13])]
noncomputable def i156 : FI := fiOf Tryz.f156 []
noncomputable def i158 : FI := fiOf Tryz.f158 [(1, [0, 0, 2, 7, 0, 0, 38, 118, 255, 511], [false, false, true, true, true, true, false, false, false, false], [0, 1, 4, 5, 2, 3, 6, 7, 8, 9])]
noncomputable def i159 : FI := fiOf Tryz.f159 [(2, [0, 1, 3, 0, 8, 24, 7, 127], [false, false, false, true, true, true, true, false], [0, 1, 2, 3, 4, 5, 6, 7]), (4, [0, 0, 2, 0, 14, 31, 0, 0, 128, 0, 926, 2014, 4095], [false, false, false, true, true, true, true, true, true, true, false, false, false], [0, 1, 2, 3, 6, 7, 8, 9, 4, 5, 10, 11, 12]), (12, [0, 0, 2, 6, 14, 3, 63], [false, false, false, false, false, false, false], [0, 1, 2, 3, 5, 4, 6])]
noncomputable def i161 : FI := fiOf Tryz.f161 [(1, [0, 1, 0, 4, 15, 31], [false, false, true, true, false, false], [0, 1, 2, 3, 4, 5])]
noncomputable def i162 : FI := fiOf Tryz.f162 []
noncomputable def i164 : FI := fiOf Tryz.f164 [(2, [0, 0, 0, 6, 0, 16, 62, 0, 0, 384, 0, 1024, 3968, 8190, 0, 32766, 65535, 131071], [false, false, false, false, false, false, false, true, true, true, true, true, true, false, true, false, false, false], [0, 1, 2, 3, 4, 5, 6, 7, 8, 9, 10, 11, 12, 13, 14, 15, 16, 17])]
noncomputable def i165 : FI := fiOf Tryz.f165 []
noncomputable def i166 : FI := fiOf Tryz.f166 []
noncomputable def i168 : FI := fiOf Tryz.f168 [(1, [0, 0, 2, 7, 0, 0, 32, 112, 255, 511], [false, false, false, false, true, true, true, true, false, false], [0, 1, 2, 3, 4, 5, 6, 7, 8, 9])]
noncomputable def i169 : FI := fiOf Tryz.f169 [(1, [0, 0, 2, 7, 0, 0, 32, 112, 15, 511], [false, false, false, false, true, true, true, true, true, false], [0, 1, 2, 3, 4, 5, 6, 7, 8, 9])]
noncomputable def i171 : FI := fiOf Tryz.f171 [(1, [0, 1, 0, 4, 15, 31], [false, false, true, true, false, false], [0, 1, 2, 3, 4, 5])]
noncomputable def i173 : FI := fiOf Tryz.f173 [(1, [0, 0, 3, 7, 0, 16, 63, 0, 176, 511, 1023], [false, false, false, false, false, true, true, true, false, false, false], [0, 1, 2, 3, 4, 7, 5, 6, 8, 9, 10]), (2, [0, 0, 2, 7, 0, 0, 32, 112, 255, 0, 0, 1024, 3584, 0, 8192, 24576, 0, 122880, 0, 262144, 1040384, 2096640, 25087, 8388607], [false, false, false, false, true, true, true, true, false, true, true, true, true, true, true, true, true, true, true, true, true, true, true, false], [0, 1, 2, 3, 4, 5, 6, 7, 8, 9, 10, 11, 12, 13, 16, 18, 19, 14, 15, 17, 20, 21, 22, 23])]
noncomputable def i174 : FI := fiOf Tryz.f174 [(6, [0, 0, 3, 7, 0, 0, 32, 112, 240, 511], [false, false, false, false, true, true, true, true, true, false], [0, 1, 2, 3, 4, 5, 6, 7, 8, 9]), (11, [0, 0, 3, 7, 0, 0, 32, 112, 240, 511], [false, false, false, false, true, true, true, true, true, false], [0, 1, 2, 3, 4, 5, 6, 7, 8, 9])]
noncomputable def FNt : Tr FI := (.n (.n (.n (.n (.n (.n .e (some i31) (.n (.n .e (some i159) .e) none .e)) none .e) none (.n (.n .e none (.n .e (some i103) .e)) none (.n (.n (.n .e (some i151) .e) none .e) none .e))) none (.n (.n (.n .e (some i35) .e) none (.n .e (some i51) .e)) none (.n (.n (.n .e (some i75) .e) none (.n (.n .e (some i171) .e) none .e)) none (.n (.n (.n .e (some i155) .e) none .e) none .e)))) none (.n (.n (.n (.n .e (some i33) (.n (.n .e (some i161) .e) none .e)) none .e) none (.n (.n .e (some i41) (.n (.n .e (some i169) .e) none .e)) none (.n (.n (.n .e (some i153) .e) (some i89) .e) none .e))) none (.n (.n (.n .e none (.n (.n .e (some i165) .e) none .e)) none (.n (.n (.n .e (some i149) .e) none .e) none .e)) none (.n (.n (.n .e (some i77) .e) none (.n (.n .e (some i173) .e) none .e)) none .e)))) none (.n (.n (.n (.n (.n .e (some i32) .e) none (.n .e none (.n .e (some i112) .e))) (some i8) (.n (.n .e (some i40) (.n (.n .e (some i168) .e) none .e)) none .e)) none (.n (.n (.n .e none (.n (.n .e (some i164) .e) none .e)) none .e) none (.n (.n (.n .e (some i76) .e) none .e) none (.n (.n (.n .e (some i156) .e) none .e) none .e)))) none (.n (.n (.n (.n .e (some i34) (.n (.n .e (some i162) .e) none .e)) none .e) none (.n (.n (.n .e (some i74) .e) none .e) none (.n (.n .e (some i90) .e) none .e))) none (.n (.n (.n .e none (.n (.n .e (some i166) .e) none .e)) none .e) (some i14) (.n (.n .e none (.n (.n .e (some i174) .e) none .e)) (some i30) (.n (.n (.n .e (some i158) .e) none .e) none .e))))))
theorem o8 : FOk Tryz.prog 8 i8 := ⟨Tryz.call8, Tryz.f8, Tryz.func8, rfl, rfl, rfl⟩
theorem o14 : FOk Tryz.prog 14 i14 := ⟨Tryz.call14, Tryz.f14, Tryz.func14, rfl, rfl, rfl⟩
theorem o30 : FOk Tryz.prog 30 i30 := ⟨Tryz.call30, Tryz.f30, Tryz.func30, rfl, rfl, rfl⟩
theorem o31 : FOk Tryz.prog 31 i31 := ⟨Tryz.call31, Tryz.f31, Tryz.func31, rfl, rfl, rfl⟩
theorem o32 : FOk Tryz.prog 32 i32 := ⟨Tryz.call32, Tryz.f32, Tryz.func32, rfl, rfl, rfl⟩
theorem o33 : FOk Tryz.prog 33 i33 := ⟨Tryz.call33, Tryz.f33, Tryz.func33, rfl, rfl, rfl⟩
theorem o34 : FOk Tryz.prog 34 i34 := ⟨Tryz.call34, Tryz.f34, Tryz.func34, rfl, rfl, rfl⟩
theorem o35 : FOk Tryz.prog 35 i35 := ⟨Tryz.call35, Tryz.f35, Tryz.func35, rfl, rfl, rfl⟩
theorem o40 : FOk Tryz.prog 40 i40 := ⟨Tryz.call40, Tryz.f40, Tryz.func40, rfl, rfl, rfl⟩
theorem o41 : FOk Tryz.prog 41 i41 := ⟨Tryz.call41, Tryz.f41, Tryz.func41, rfl, rfl, rfl⟩
theorem o51 : FOk Tryz.prog 51 i51 := ⟨Tryz.call51, Tryz.f51, Tryz.func51, rfl, rfl, rfl⟩
theorem o74 : FOk Tryz.prog 74 i74 := ⟨Tryz.call74, Tryz.f74, Tryz.func74, rfl, rfl, rfl⟩
theorem o75 : FOk Tryz.prog 75 i75 := ⟨Tryz.call75, Tryz.f75, Tryz.func75, rfl, rfl, rfl⟩
theorem o76 : FOk Tryz.prog 76 i76 := ⟨Tryz.call76, Tryz.f76, Tryz.func76, rfl, rfl, rfl⟩
theorem o77 : FOk Tryz.prog 77 i77 := ⟨Tryz.call77, Tryz.f77, Tryz.func77, rfl, rfl, rfl⟩
theorem o89 : FOk Tryz.prog 89 i89 := ⟨Tryz.call89, Tryz.f89, Tryz.func89, rfl, rfl, rfl⟩
theorem o90 : FOk Tryz.prog 90 i90 := ⟨Tryz.call90, Tryz.f90, Tryz.func90, rfl, rfl, rfl⟩
theorem o103 : FOk Tryz.prog 103 i103 := ⟨Tryz.call103, Tryz.f103, Tryz.func103, rfl, rfl, rfl⟩
theorem o112 : FOk Tryz.prog 112 i112 := ⟨Tryz.call112, Tryz.f112, Tryz.func112, rfl, rfl, rfl⟩
theorem o149 : FOk Tryz.prog 149 i149 := ⟨Tryz.call149, Tryz.f149, Tryz.func149, rfl, rfl, rfl⟩
theorem o151 : FOk Tryz.prog 151 i151 := ⟨Tryz.call151, Tryz.f151, Tryz.func151, rfl, rfl, rfl⟩
theorem o153 : FOk Tryz.prog 153 i153 := ⟨Tryz.call153, Tryz.f153, Tryz.func153, rfl, rfl, rfl⟩
theorem o155 : FOk Tryz.prog 155 i155 := ⟨Tryz.call155, Tryz.f155, Tryz.func155, rfl, rfl, rfl⟩
theorem o156 : FOk Tryz.prog 156 i156 := ⟨Tryz.call156, Tryz.f156, Tryz.func156, rfl, rfl, rfl⟩
theorem o158 : FOk Tryz.prog 158 i158 := ⟨Tryz.call158, Tryz.f158, Tryz.func158, rfl, rfl, rfl⟩
theorem o159 : FOk Tryz.prog 159 i159 := ⟨Tryz.call159, Tryz.f159, Tryz.func159, rfl, rfl, rfl⟩
theorem o161 : FOk Tryz.prog 161 i161 := ⟨Tryz.call161, Tryz.f161, Tryz.func161, rfl, rfl, rfl⟩
theorem o162 : FOk Tryz.prog 162 i162 := ⟨Tryz.call162, Tryz.f162, Tryz.func162, rfl, rfl, rfl⟩
theorem o164 : FOk Tryz.prog 164 i164 := ⟨Tryz.call164, Tryz.f164, Tryz.func164, rfl, rfl, rfl⟩
theorem o165 : FOk Tryz.prog 165 i165 := ⟨Tryz.call165, Tryz.f165, Tryz.func165, rfl, rfl, rfl⟩
theorem o166 : FOk Tryz.prog 166 i166 := ⟨Tryz.call166, Tryz.f166, Tryz.func166, rfl, rfl, rfl⟩
theorem o168 : FOk Tryz.prog 168 i168 := ⟨Tryz.call168, Tryz.f168, Tryz.func168, rfl, rfl, rfl⟩
theorem o169 : FOk Tryz.prog 169 i169 := ⟨Tryz.call169, Tryz.f169, Tryz.func169, rfl, rfl, rfl⟩
theorem o171 : FOk Tryz.prog 171 i171 := ⟨Tryz.call171, Tryz.f171, Tryz.func171, rfl, rfl, rfl⟩
theorem o173 : FOk Tryz.prog 173 i173 := ⟨Tryz.call173, Tryz.f173, Tryz.func173, rfl, rfl, rfl⟩
theorem o174 : FOk Tryz.prog 174 i174 := ⟨Tryz.call174, Tryz.f174, Tryz.func174, rfl, rfl, rfl⟩
theorem fall : TrAll (FOk Tryz.prog) (fun m => m) FNt := ⟨⟨⟨⟨⟨⟨trivial, o31, ⟨⟨trivial, o159, trivial⟩, trivial, trivial⟩⟩, trivial, trivial⟩, trivial, ⟨⟨trivial, trivial, ⟨trivial, o103, trivial⟩⟩, trivial, ⟨⟨⟨trivial, o151, trivial⟩, trivial, trivial⟩, trivial, trivial⟩⟩⟩, trivial, ⟨⟨⟨trivial, o35, trivial⟩, trivial, ⟨trivial, o51, trivial⟩⟩, trivial, ⟨⟨⟨trivial, o75, trivial⟩, trivial, ⟨⟨trivial, o171, trivial⟩, trivial, trivial⟩⟩, trivial, ⟨⟨⟨trivial, o155, trivial⟩, trivial, trivial⟩, trivial, trivial⟩⟩⟩⟩, trivial, ⟨⟨⟨⟨trivial, o33, ⟨⟨trivial, o161, trivial⟩, trivial, trivial⟩⟩, trivial, trivial⟩, trivial, ⟨⟨trivial, o41, ⟨⟨trivial, o169, trivial⟩, trivial, trivial⟩⟩, trivial, ⟨⟨⟨trivial, o153, trivial⟩, o89, trivial⟩, trivial, trivial⟩⟩⟩, trivial, ⟨⟨⟨trivial, trivial, ⟨⟨trivial, o165, trivial⟩, trivial, trivial⟩⟩, trivial, ⟨⟨⟨trivial, o149, trivial⟩, trivial, trivial⟩, trivial, trivial⟩⟩, trivial, ⟨⟨⟨trivial, o77, trivial⟩, trivial, ⟨⟨trivial, o173, trivial⟩, trivial, trivial⟩⟩, trivial, trivial⟩⟩⟩⟩, trivial, ⟨⟨⟨⟨⟨trivial, o32, trivial⟩, trivial, ⟨trivial, trivial, ⟨trivial, o112, trivial⟩⟩⟩, o8, ⟨⟨trivial, o40, ⟨⟨trivial, o168, trivial⟩, trivial, trivial⟩⟩, trivial, trivial⟩⟩, trivial, ⟨⟨⟨trivial, trivial, ⟨⟨trivial, o164, trivial⟩, trivial, trivial⟩⟩, trivial, trivial⟩, trivial, ⟨⟨⟨trivial, o76, trivial⟩, trivial, trivial⟩, trivial, ⟨⟨⟨trivial, o156, trivial⟩, trivial, trivial⟩, trivial, trivial⟩⟩⟩⟩, trivial, ⟨⟨⟨⟨trivial, o34, ⟨⟨trivial, o162, trivial⟩, trivial, trivial⟩⟩, trivial, trivial⟩, trivial, ⟨⟨⟨trivial, o74, trivial⟩, trivial, trivial⟩, trivial, ⟨⟨trivial, o90, trivial⟩, trivial, trivial⟩⟩⟩, trivial, ⟨⟨⟨trivial, trivial, ⟨⟨trivial, o166, trivial⟩, trivial, trivial⟩⟩, trivial, trivial⟩, o14, ⟨⟨trivial, trivial, ⟨⟨trivial, o174, trivial⟩, trivial, trivial⟩⟩, o30, ⟨⟨⟨trivial, o158, trivial⟩, trivial, trivial⟩, trivial, trivial⟩⟩⟩⟩⟩⟩
theorem fok : FnOk Tryz.prog FNt := fok_of fall
end Go.Af.Tryz.W
namespace Go.Af.Tryz.W
open Go Go.Proofs
theorem works_run : (evN FNt EE 100).call 0 8 [] .e 0 (fun v _ _ => match v with | .bool b => b | _ => false) = true := by kernel_rfl
theorem works : ACall Tryz.prog 8 [] [] (fun v H => v = .bool true ∧ H = []) :=
  acall_drop ((run_ok fok eok mx works_run).mono fun v H h => by
    split at h
    · rename_i b; subst h
      exact ⟨[], .bool true, [], by simp, anch_of rfl, trivial, rfl, VRen.plain rfl, rfl, rfl⟩
    · cases h)
end Go.Af.Tryz.W
