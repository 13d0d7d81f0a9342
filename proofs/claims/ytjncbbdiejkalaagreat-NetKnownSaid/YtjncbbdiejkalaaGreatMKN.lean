/-
  The tables of the computing machine: all that the chapter's examples come to.
  The examples of the chapter: the computing machine runs them.
-/
import Derived.Test.YtjncbbdiejkalaaGreatMF
import Derived.Test.YtjncbbdiejkalaaGreatProg
import Derived.KernelRfl
import Derived.Laws.StructEq
set_option linter.all false
namespace Go.Af.Tryz.K
open Go Go.Proofs
set_option maxRecDepth 100000
def T : TT := [(3, ⟨.int .i64, 1, 8, .int .i64 0⟩),
  (22, ⟨.slice 3, 1, 24, .slice none 0 0⟩),
  (24, ⟨.struct [(0, 3), (1, 22), (2, 3)], 3, 40, .agg #[.int .i64 0, .slice none 0 0, .int .i64 0]⟩),
  (4, ⟨.bool, 1, 1, .bool false⟩),
  (27, ⟨.int .i64, 1, 8, .int .i64 0⟩),
  (138, ⟨.struct [(0, 3), (1, 3)], 2, 16, .agg #[.int .i64 0, .int .i64 0]⟩),
  (136, ⟨.struct [(0, 3), (1, 3)], 2, 16, .agg #[.int .i64 0, .int .i64 0]⟩),
  (162, ⟨.int .u64, 1, 8, .int .u64 0⟩),
  (85, ⟨.struct [(0, 24), (3, 81), (4, 82), (5, 83)], 6, 88, .agg #[.int .i64 0, .slice none 0 0, .int .i64 0, .nilIface, .slice none 0 0, .map none]⟩),
  (82, ⟨.slice 4, 1, 24, .slice none 0 0⟩),
  (74, ⟨.struct [(0, 3), (1, 3)], 2, 16, .agg #[.int .i64 0, .int .i64 0]⟩),
  (173, ⟨.int .u64, 1, 8, .int .u64 0⟩),
  (42, ⟨.ptr 85, 1, 8, .pointer none⟩),
  (118, ⟨.slice 3, 1, 24, .slice none 0 0⟩),
  (150, ⟨.int .u64, 1, 8, .int .u64 0⟩),
  (159, ⟨.int .u32, 1, 4, .int .u32 0⟩),
  (81, ⟨.iface, 1, 16, .nilIface⟩),
  (83, ⟨.map 74 4, 1, 8, .map none⟩),
  (92, ⟨.func, 1, 8, .nilFunc⟩),
  (125, ⟨.struct [(0, 22), (1, 3)], 2, 32, .agg #[.slice none 0 0, .int .i64 0]⟩),
  (5, ⟨.int .u8, 1, 1, .int .u8 0⟩),
  (9, ⟨.str, 1, 16, .string ⟨#[]⟩⟩),
  (70, ⟨.slice 74, 1, 24, .slice none 0 0⟩),
  (166, ⟨.int .i64, 1, 8, .int .i64 0⟩),
  (20, ⟨.iface, 1, 16, .nilIface⟩)]
theorem ti3 : TIOk Tryz.prog 3 ⟨.int .i64, 1, 8, .int .i64 0⟩ := ⟨Tryz.underlying3, by kernel_rfl, rfl⟩
theorem ti22 : TIOk Tryz.prog 22 ⟨.slice 3, 1, 24, .slice none 0 0⟩ := ⟨Tryz.underlying22, by kernel_rfl, rfl⟩
theorem ti24 : TIOk Tryz.prog 24 ⟨.struct [(0, 3), (1, 22), (2, 3)], 3, 40, .agg #[.int .i64 0, .slice none 0 0, .int .i64 0]⟩ := ⟨⟨_, Tryz.underlying24, rfl⟩, by kernel_rfl, rfl⟩
theorem ti4 : TIOk Tryz.prog 4 ⟨.bool, 1, 1, .bool false⟩ := ⟨Tryz.underlying4, by kernel_rfl, rfl⟩
theorem ti27 : TIOk Tryz.prog 27 ⟨.int .i64, 1, 8, .int .i64 0⟩ := ⟨Tryz.underlying27, by kernel_rfl, rfl⟩
theorem ti138 : TIOk Tryz.prog 138 ⟨.struct [(0, 3), (1, 3)], 2, 16, .agg #[.int .i64 0, .int .i64 0]⟩ := ⟨⟨_, Tryz.underlying138, rfl⟩, by kernel_rfl, rfl⟩
theorem ti136 : TIOk Tryz.prog 136 ⟨.struct [(0, 3), (1, 3)], 2, 16, .agg #[.int .i64 0, .int .i64 0]⟩ := ⟨⟨_, Tryz.underlying136, rfl⟩, by kernel_rfl, rfl⟩
theorem ti162 : TIOk Tryz.prog 162 ⟨.int .u64, 1, 8, .int .u64 0⟩ := ⟨Tryz.underlying162, by kernel_rfl, rfl⟩
theorem ti85 : TIOk Tryz.prog 85 ⟨.struct [(0, 24), (3, 81), (4, 82), (5, 83)], 6, 88, .agg #[.int .i64 0, .slice none 0 0, .int .i64 0, .nilIface, .slice none 0 0, .map none]⟩ := ⟨⟨_, Tryz.underlying85, rfl⟩, by kernel_rfl, rfl⟩
theorem ti82 : TIOk Tryz.prog 82 ⟨.slice 4, 1, 24, .slice none 0 0⟩ := ⟨Tryz.underlying82, by kernel_rfl, rfl⟩
theorem ti74 : TIOk Tryz.prog 74 ⟨.struct [(0, 3), (1, 3)], 2, 16, .agg #[.int .i64 0, .int .i64 0]⟩ := ⟨⟨_, Tryz.underlying74, rfl⟩, by kernel_rfl, rfl⟩
theorem ti173 : TIOk Tryz.prog 173 ⟨.int .u64, 1, 8, .int .u64 0⟩ := ⟨Tryz.underlying173, by kernel_rfl, rfl⟩
theorem ti42 : TIOk Tryz.prog 42 ⟨.ptr 85, 1, 8, .pointer none⟩ := ⟨Tryz.underlying42, by kernel_rfl, rfl⟩
theorem ti118 : TIOk Tryz.prog 118 ⟨.slice 3, 1, 24, .slice none 0 0⟩ := ⟨Tryz.underlying118, by kernel_rfl, rfl⟩
theorem ti150 : TIOk Tryz.prog 150 ⟨.int .u64, 1, 8, .int .u64 0⟩ := ⟨Tryz.underlying150, by kernel_rfl, rfl⟩
theorem ti159 : TIOk Tryz.prog 159 ⟨.int .u32, 1, 4, .int .u32 0⟩ := ⟨Tryz.underlying159, by kernel_rfl, rfl⟩
theorem ti81 : TIOk Tryz.prog 81 ⟨.iface, 1, 16, .nilIface⟩ := ⟨⟨_, Tryz.underlying81⟩, by kernel_rfl, rfl⟩
theorem ti83 : TIOk Tryz.prog 83 ⟨.map 74 4, 1, 8, .map none⟩ := ⟨Tryz.underlying83, by kernel_rfl, rfl⟩
theorem ti92 : TIOk Tryz.prog 92 ⟨.func, 1, 8, .nilFunc⟩ := ⟨⟨_, _, _, Tryz.underlying92⟩, by kernel_rfl, rfl⟩
theorem ti125 : TIOk Tryz.prog 125 ⟨.struct [(0, 22), (1, 3)], 2, 32, .agg #[.slice none 0 0, .int .i64 0]⟩ := ⟨⟨_, Tryz.underlying125, rfl⟩, by kernel_rfl, rfl⟩
theorem ti5 : TIOk Tryz.prog 5 ⟨.int .u8, 1, 1, .int .u8 0⟩ := ⟨Tryz.underlying5, by kernel_rfl, rfl⟩
theorem ti9 : TIOk Tryz.prog 9 ⟨.str, 1, 16, .string ⟨#[]⟩⟩ := ⟨Tryz.underlying9, by kernel_rfl, rfl⟩
theorem ti70 : TIOk Tryz.prog 70 ⟨.slice 74, 1, 24, .slice none 0 0⟩ := ⟨Tryz.underlying70, by kernel_rfl, rfl⟩
theorem ti166 : TIOk Tryz.prog 166 ⟨.int .i64, 1, 8, .int .i64 0⟩ := ⟨Tryz.underlying166, by kernel_rfl, rfl⟩
theorem ti20 : TIOk Tryz.prog 20 ⟨.iface, 1, 16, .nilIface⟩ := ⟨⟨_, Tryz.underlying20⟩, by kernel_rfl, rfl⟩
theorem tok : TOk Tryz.prog T := ⟨ti3, ti22, ti24, ti4, ti27, ti138, ti136, ti162, ti85, ti82, ti74, ti173, ti42, ti118, ti150, ti159, ti81, ti83, ti92, ti125, ti5, ti9, ti70, ti166, ti20, trivial⟩
theorem mx : Tryz.prog.follows .mixedOrders = true := by kernel_rfl
def Ms : List (String × List (Nat × Nat)) := [("armada/net.homes", [(118, 149), (136, 156), (138, 166)]), ("armada/net.near", [(118, 150), (136, 157), (138, 167)]), ("armada/net.place", [(118, 76), (136, 158), (138, 168)]), ("armada/net.route", [(118, 151), (136, 159), (138, 169)]), ("armada/net.switches", [(118, 153), (136, 161), (138, 171)])]
theorem em0 (v : Value) (w : World) : (method (Tryz.prog.types.size + Made.depth) 118 v "armada/net.homes").run Tryz.prog w = .ok (149, v) w := by kernel_rfl
theorem em1 (v : Value) (w : World) : (method (Tryz.prog.types.size + Made.depth) 136 v "armada/net.homes").run Tryz.prog w = .ok (156, v) w := by kernel_rfl
theorem em2 (v : Value) (w : World) : (method (Tryz.prog.types.size + Made.depth) 138 v "armada/net.homes").run Tryz.prog w = .ok (166, v) w := by kernel_rfl
theorem em3 (v : Value) (w : World) : (method (Tryz.prog.types.size + Made.depth) 118 v "armada/net.near").run Tryz.prog w = .ok (150, v) w := by kernel_rfl
theorem em4 (v : Value) (w : World) : (method (Tryz.prog.types.size + Made.depth) 136 v "armada/net.near").run Tryz.prog w = .ok (157, v) w := by kernel_rfl
theorem em5 (v : Value) (w : World) : (method (Tryz.prog.types.size + Made.depth) 138 v "armada/net.near").run Tryz.prog w = .ok (167, v) w := by kernel_rfl
theorem em6 (v : Value) (w : World) : (method (Tryz.prog.types.size + Made.depth) 118 v "armada/net.place").run Tryz.prog w = .ok (76, v) w := by kernel_rfl
theorem em7 (v : Value) (w : World) : (method (Tryz.prog.types.size + Made.depth) 136 v "armada/net.place").run Tryz.prog w = .ok (158, v) w := by kernel_rfl
theorem em8 (v : Value) (w : World) : (method (Tryz.prog.types.size + Made.depth) 138 v "armada/net.place").run Tryz.prog w = .ok (168, v) w := by kernel_rfl
theorem em9 (v : Value) (w : World) : (method (Tryz.prog.types.size + Made.depth) 118 v "armada/net.route").run Tryz.prog w = .ok (151, v) w := by kernel_rfl
theorem em10 (v : Value) (w : World) : (method (Tryz.prog.types.size + Made.depth) 136 v "armada/net.route").run Tryz.prog w = .ok (159, v) w := by kernel_rfl
theorem em11 (v : Value) (w : World) : (method (Tryz.prog.types.size + Made.depth) 138 v "armada/net.route").run Tryz.prog w = .ok (169, v) w := by kernel_rfl
theorem em12 (v : Value) (w : World) : (method (Tryz.prog.types.size + Made.depth) 118 v "armada/net.switches").run Tryz.prog w = .ok (153, v) w := by kernel_rfl
theorem em13 (v : Value) (w : World) : (method (Tryz.prog.types.size + Made.depth) 136 v "armada/net.switches").run Tryz.prog w = .ok (161, v) w := by kernel_rfl
theorem em14 (v : Value) (w : World) : (method (Tryz.prog.types.size + Made.depth) 138 v "armada/net.switches").run Tryz.prog w = .ok (171, v) w := by kernel_rfl
theorem und3 : Tryz.prog.underlying 3 = some (.int .i64) := by kernel_rfl
theorem eqi3 (d : Nat) (a b : Int) (w : World) : (Op.equalIn (d + 1) 3 (.int .i64 a) (.int .i64 b)).run Tryz.prog w = .ok (decide (a = b)) w := by
  rw [Op.equalIn]; simp [run_und und3]
  by_cases h : a = b <;> simp [h]
theorem part3 (xs : Array Value) (i : Nat) (v : Value) (h : xs[i]? = some v) (w : World) : (part 3 xs i).run Tryz.prog w = .ok v w := by
  simp [part, isAgg, run_und und3, h]
theorem eqF2 {d : Nat} {xs ys : Array Value} {a0 a1 b0 b1 : Int} (h0 : xs[0]? = some (.int .i64 a0)) (h1 : xs[1]? = some (.int .i64 a1)) (k0 : ys[0]? = some (.int .i64 b0)) (k1 : ys[1]? = some (.int .i64 b1)) (w : World) :
    ∀ fs : List Field, fs.map (fun f => (f.name == "_", f.type, f.offset)) = [(false, 3, 0), (false, 3, 1)] → (Op.eqFields (d + 1) xs ys fs).run Tryz.prog w = .ok (decide ([a0, a1] = [b0, b1])) w := by
  intro fs hfs
  have hl := congrArg List.length hfs
  simp only [List.length_map, List.length_cons, List.length_nil] at hl
  obtain ⟨f, g, rfl⟩ : ∃ f g, fs = [f, g] := by
    rcases fs with _ | ⟨f, _ | ⟨g, _ | ⟨e, r⟩⟩⟩
    · simp at hl
    · simp at hl
    · exact ⟨f, g, rfl⟩
    · simp at hl
  simp only [List.map_cons, List.map_nil, List.cons.injEq, Prod.mk.injEq, and_true, beq_eq_false_iff_ne] at hfs
  obtain ⟨⟨n0, t0, o0⟩, ⟨n1, t1, o1⟩⟩ := hfs
  simp only [Op.eqFields, if_pos n0, if_pos n1, t0, o0, t1, o1, Sem.run_bind, part3 xs 0 _ h0, part3 ys 0 _ k0, part3 xs 1 _ h1, part3 ys 1 _ k1, Result.andThen_ok, eqi3]
  by_cases e0 : a0 = b0
  · by_cases e1 : a1 = b1 <;> simp [e0, e1, part3 xs 1 _ h1, part3 ys 1 _ k1, eqi3]
  · simp [e0]
theorem ht74 : Tryz.prog.underlying 74 = some (.struct (Tryz.prog.fieldsOf 74)) := by kernel_rfl
theorem hp74 : Tryz.prog.stoodInHeld 74 = false := by kernel_rfl
theorem ag74 : Tryz.prog.eqGuardType Tryz.prog.depth 74 = false := by kernel_rfl
theorem fl74 : (Tryz.prog.fieldsOf 74).toList.map (fun f => (f.name == "_", f.type, f.offset)) = [(false, 3, 0), (false, 3, 1)] := by kernel_rfl
theorem aggEq74 : AggEq Tryz.prog 74 [.i64, .i64] := by
  intro xs ys ha hb w
  obtain ⟨a0, a1, rfl⟩ : ∃ a0 a1, xs = [a0, a1] := by
    match xs, ha with
    | [a, b], _ => exact ⟨a, b, rfl⟩
  obtain ⟨b0, b1, rfl⟩ : ∃ a0 a1, ys = [a0, a1] := by
    match ys, hb with
    | [a, b], _ => exact ⟨a, b, rfl⟩
  refine ⟨?_, fun op x y => run_eqGuard_agg (P := Tryz.prog) w op 74 x y _ _ ag74⟩
  unfold Op.equal Op.maxDepth
  rw [run_equalIn_struct (P := Tryz.prog) w 9999 74 _ _ ht74 hp74]
  exact eqF2 (d := 9998) rfl rfl rfl rfl w _ fl74
theorem two_fields {fs : Array Field} (hfs : fs.toList.map (fun f => (f.name == "_", f.type, f.offset)) = [(false, 3, 0), (false, 3, 1)]) : ∃ f g, fs = #[f, g] ∧ (f.name ≠ "_" ∧ f.type = 3 ∧ f.offset = 0) ∧ (g.name ≠ "_" ∧ g.type = 3 ∧ g.offset = 1) := by
  obtain ⟨l⟩ := fs
  have hl := congrArg List.length hfs
  simp only [List.length_map, List.length_cons, List.length_nil] at hl
  obtain ⟨f, g, rfl⟩ : ∃ f g, l = [f, g] := by
    rcases l with _ | ⟨f, _ | ⟨g, _ | ⟨e, r⟩⟩⟩
    · simp at hl
    · simp at hl
    · exact ⟨f, g, rfl⟩
    · simp at hl
  simp only [List.map_cons, List.map_nil, List.cons.injEq, Prod.mk.injEq, and_true, beq_eq_false_iff_ne] at hfs
  exact ⟨f, g, rfl, hfs.1, hfs.2⟩
theorem ck3 (e : Bool) (d : Nat) (a : Int) (w : World) : (Instr.checkKey e (d + 1) 3 (.int .i64 a)).run Tryz.prog w = .ok () w := by
  rw [Instr.checkKey]; simp [run_und und3]
theorem mkey74 : MKey Tryz.prog 74 [.i64, .i64] := by
  refine ⟨aggEq74, fun xs hx e w => ?_⟩
  obtain ⟨a0, a1, rfl⟩ : ∃ a0 a1, xs = [a0, a1] := by
    match xs, hx with
    | [a, b], _ => exact ⟨a, b, rfl⟩
  obtain ⟨f, g, hfg, ⟨n0, t0, o0⟩, ⟨n1, t1, o1⟩⟩ := two_fields fl74
  rw [show (10000 : Nat) = 9998 + 1 + 1 from rfl, Instr.checkKey]
  have h0 : ∀ w, (part 3 #[Value.int .i64 a0, .int .i64 a1] 0).run Tryz.prog w = .ok (.int .i64 a0) w := fun w => part3 _ 0 _ rfl w
  have h1 : ∀ w, (part 3 #[Value.int .i64 a0, .int .i64 a1] 1).run Tryz.prog w = .ok (.int .i64 a1) w := fun w => part3 _ 1 _ rfl w
  simp [run_und ht74, hfg, n0, n1, t0, t1, o0, o1, h0, h1, ck3]
def EE : Env := { T := T, eqs := [(74, [.i64, .i64])], mks := [(74, [.i64, .i64])], ms := Ms }
theorem eok : EOk Tryz.prog EE := by
  refine ⟨tok, fun t ks h => (by
    simp only [EE, List.mem_cons, List.not_mem_nil, or_false, Prod.mk.injEq] at h
    rcases h with ⟨rfl, rfl⟩
    · exact aggEq74), fun t ks h => (by
    simp only [EE, List.mem_cons, List.not_mem_nil, or_false, Prod.mk.injEq] at h
    rcases h with ⟨rfl, rfl⟩
    · exact mkey74), fun name m h t f hm v w => ?_⟩
  simp only [EE, Ms, List.mem_cons, List.not_mem_nil, or_false] at h
  rcases h with h | h | h | h | h
  · cases h
    simp only [List.mem_cons, List.not_mem_nil, or_false] at hm
    rcases hm with hm | hm | hm
    · cases hm; exact em0 v w
    · cases hm; exact em1 v w
    · cases hm; exact em2 v w
  · cases h
    simp only [List.mem_cons, List.not_mem_nil, or_false] at hm
    rcases hm with hm | hm | hm
    · cases hm; exact em3 v w
    · cases hm; exact em4 v w
    · cases hm; exact em5 v w
  · cases h
    simp only [List.mem_cons, List.not_mem_nil, or_false] at hm
    rcases hm with hm | hm | hm
    · cases hm; exact em6 v w
    · cases hm; exact em7 v w
    · cases hm; exact em8 v w
  · cases h
    simp only [List.mem_cons, List.not_mem_nil, or_false] at hm
    rcases hm with hm | hm | hm
    · cases hm; exact em9 v w
    · cases hm; exact em10 v w
    · cases hm; exact em11 v w
  · cases h
    simp only [List.mem_cons, List.not_mem_nil, or_false] at hm
    rcases hm with hm | hm | hm
    · cases hm; exact em12 v w
    · cases hm; exact em13 v w
    · cases hm; exact em14 v w
noncomputable def i6 : FI := fiOf Tryz.f6 [(8, .ord [0, 0, 3, 7, 0, 0, 48, 112, 255] [false, false, false, false, true, true, true, true, false] [0, 1, 2, 3, 4, 5, 6, 7, 8])]
noncomputable def i8 : FI := fiOf Tryz.f8 []
noncomputable def i9 : FI := fiOf Tryz.f9 []
noncomputable def i12 : FI := fiOf Tryz.f12 []
noncomputable def i14 : FI := fiOf Tryz.f14 [(6, .ord [0, 0, 3, 7, 0, 0, 48, 112, 255] [false, false, false, false, true, true, true, true, false] [0, 1, 2, 3, 4, 5, 6, 7, 8])]
noncomputable def i16 : FI := fiOf Tryz.f16 [(5, .ev [0, 0, 0, 4, 12, 0, 63, 127, 255, 511] [1, 2, 8, 9] [.op 0 [], .op 1 [], .op 2 [], .res 5, .op 3 [0], .op 4 [0], .op 5 [], .op 6 [], .op 7 [], .op 8 [], .op 9 []])]
noncomputable def i17 : FI := fiOf Tryz.f17 []
noncomputable def i18 : FI := fiOf Tryz.f18 [(4, .ord [0, 1, 3, 7, 0, 31, 63] [false, false, false, false, true, false, false] [0, 1, 2, 3, 4, 5, 6]), (6, .ord [0, 1, 3, 7, 0, 31] [false, false, false, false, true, false] [0, 1, 2, 3, 4, 5])]
noncomputable def i19 : FI := fiOf Tryz.f19 []
noncomputable def i20 : FI := fiOf Tryz.f20 [(6, .ev [0, 1, 3, 7, 0, 0, 48, 112, 240, 0, 512, 2047, 0, 8191] [5, 7] [.op 0 [], .op 1 [], .op 2 [], .op 3 [], .op 4 [], .op 5 [], .op 9 [], .op 10 [], .res 12, .op 6 [0, 1, 2, 3, 9, 10], .op 7 [], .op 8 [], .op 11 [], .op 12 [], .op 13 []])]
noncomputable def i28 : FI := fiOf Tryz.f28 []
noncomputable def i29 : FI := fiOf Tryz.f29 []
noncomputable def i30 : FI := fiOf Tryz.f30 []
noncomputable def i31 : FI := fiOf Tryz.f31 []
noncomputable def i32 : FI := fiOf Tryz.f32 []
noncomputable def i33 : FI := fiOf Tryz.f33 []
noncomputable def i34 : FI := fiOf Tryz.f34 []
noncomputable def i35 : FI := fiOf Tryz.f35 []
noncomputable def i36 : FI := fiOf Tryz.f36 []
noncomputable def i37 : FI := fiOf Tryz.f37 []
noncomputable def i38 : FI := fiOf Tryz.f38 [(3, .ord [0, 1, 0, 4, 12, 28, 0, 64, 192, 448, 963, 0, 2048, 6144, 14336, 32707, 65535, 131071, 262143] [false, true, false, false, false, false, true, true, true, true, true, true, true, true, true, true, false, false, false] [0, 2, 3, 4, 5, 6, 7, 8, 9, 11, 12, 13, 14, 1, 10, 15, 16, 17, 18])]
noncomputable def i40 : FI := fiOf Tryz.f40 [(4, .ord [0, 1, 0, 7, 0, 16, 63, 15, 255, 511] [false, true, false, true, false, false, false, true, false, false] [0, 2, 4, 5, 1, 3, 6, 7, 8, 9])]
noncomputable def i41 : FI := fiOf Tryz.f41 []
noncomputable def i42 : FI := fiOf Tryz.f42 [(11, .ord [0, 0, 0, 0, 12, 28, 60, 127, 255] [false, true, true, true, true, true, true, false, false] [0, 1, 2, 3, 4, 5, 6, 7, 8])]
noncomputable def i43 : FI := fiOf Tryz.f43 []
noncomputable def i46 : FI := fiOf Tryz.f46 []
noncomputable def i47 : FI := fiOf Tryz.f47 []
noncomputable def i48 : FI := fiOf Tryz.f48 [(1, .ord [0, 0, 3, 7, 0, 0, 48, 112, 255, 511] [false, true, false, false, true, true, true, true, false, false] [0, 1, 2, 3, 4, 5, 6, 7, 8, 9])]
noncomputable def i50 : FI := fiOf Tryz.f50 []
noncomputable def i51 : FI := fiOf Tryz.f51 [(15, .ord [0, 1, 3, 7, 15, 31, 63, 127, 255, 511, 1023, 2047, 4095, 8191, 16383, 32767, 65535, 131071, 262143, 524287, 1048575, 2097151, 4194303, 524287, 8912895, 25690111, 59244543, 134217727, 268435455, 536870911, 1073741823, 2147483647, 4294967295, 2147483647, 10737418239, 27917287423, 62277025791, 137438953471, 274877906943] [false, false, false, false, false, false, false, false, false, false, false, false, false, false, false, false, false, false, false, false, false, false, false, true, true, true, true, false, false, false, false, false, false, true, true, true, true, false, false] [0, 1, 2, 3, 4, 5, 6, 7, 8, 9, 10, 11, 12, 13, 14, 15, 16, 17, 18, 19, 20, 21, 22, 23, 24, 25, 26, 27, 28, 29, 30, 31, 32, 33, 34, 35, 36, 37, 38]), (16, .ord [0, 1, 3, 7, 0, 16, 48, 112, 255, 511, 1023, 2047] [false, false, false, false, true, true, true, true, false, false, false, false] [0, 1, 2, 3, 4, 5, 6, 7, 8, 9, 10, 11]), (18, .ord [0, 1, 3, 7, 15, 31, 63, 127, 255, 511, 1023, 2047, 4095, 8191, 16383, 32767, 65535, 131071, 262143, 524287, 1048575, 2097151, 4194303, 8388607, 16777215, 33554431, 4194303, 71303167, 205520895, 473956351, 4194303, 1077936127, 3225419775, 7520387071, 17116954623, 34296823807, 68719476735, 137438953471, 274877906943] [false, false, false, false, false, false, false, false, false, false, false, false, false, false, false, false, false, false, false, false, false, false, false, false, false, false, true, true, true, true, true, true, true, true, true, true, false, false, false] [0, 1, 2, 3, 4, 5, 6, 7, 8, 9, 10, 11, 12, 13, 14, 15, 16, 17, 18, 19, 20, 21, 22, 23, 24, 25, 26, 27, 28, 29, 30, 31, 32, 33, 34, 35, 36, 37, 38]), (19, .ord [0, 1, 3, 7, 0, 16, 48, 112, 255, 511, 1023, 2047] [false, false, false, false, true, true, true, true, false, false, false, false] [0, 1, 2, 3, 4, 5, 6, 7, 8, 9, 10, 11])]
noncomputable def i52 : FI := fiOf Tryz.f52 []
noncomputable def i53 : FI := fiOf Tryz.f53 [(4, .ord [0, 1, 3, 7, 0, 31] [false, false, false, false, true, false] [0, 1, 2, 3, 4, 5])]
noncomputable def i54 : FI := fiOf Tryz.f54 []
noncomputable def i55 : FI := fiOf Tryz.f55 []
noncomputable def i56 : FI := fiOf Tryz.f56 []
noncomputable def i57 : FI := fiOf Tryz.f57 [(1, .ord [0, 0, 3, 7, 0, 0, 48, 112, 255, 511, 1023, 1023, 4095, 8191, 1023, 1023, 50175, 115711, 262143, 524287, 1048575, 1048575, 4194303, 8388607, 16777215, 33554431] [false, true, false, false, true, true, true, true, false, false, false, true, false, false, true, true, true, true, false, false, false, false, false, false, false, false] [0, 1, 2, 3, 4, 5, 6, 7, 8, 9, 10, 11, 12, 13, 14, 15, 16, 17, 18, 19, 20, 21, 22, 23, 24, 25])]
noncomputable def i58 : FI := fiOf Tryz.f58 []
noncomputable def i59 : FI := fiOf Tryz.f59 [(8, .ord [0, 1, 3, 7, 0, 31, 63] [false, false, false, false, true, false, false] [0, 1, 2, 3, 4, 5, 6]), (9, .ord [0, 1, 3, 7, 0, 31] [false, false, false, false, true, false] [0, 1, 2, 3, 4, 5]), (11, .ord [0, 0, 0, 7, 15, 31, 31, 31, 255, 511, 1023, 2047, 2047, 8191, 16383, 32767, 65535, 131071, 262143, 262143, 1048575, 2097151, 4194303, 8388607, 16777215, 16777215, 67108863, 134217727, 268435455, 16777215, 16777215, 1627389951, 3774873599, 8589934591, 17179869183, 34359738367] [false, true, true, false, false, false, true, true, false, false, false, false, true, false, false, false, false, false, false, true, false, false, false, false, false, true, false, false, false, true, true, true, true, false, false, false] [0, 1, 2, 3, 4, 5, 6, 7, 8, 9, 10, 11, 12, 13, 14, 15, 16, 17, 18, 19, 20, 21, 22, 23, 24, 25, 26, 27, 28, 29, 30, 31, 32, 33, 34, 35]), (12, .ord [0, 0, 0, 0, 12, 28, 60, 127, 255, 511] [false, true, true, true, true, true, true, false, false, false] [0, 1, 2, 3, 4, 5, 6, 7, 8, 9])]
noncomputable def i73 : FI := fiOf Tryz.f73 []
noncomputable def i74 : FI := fiOf Tryz.f74 []
noncomputable def i75 : FI := fiOf Tryz.f75 []
noncomputable def i76 : FI := fiOf Tryz.f76 [(5, .ord [0, 0, 0, 0, 12, 31, 63] [false, true, true, true, true, false, false] [0, 1, 2, 3, 4, 5, 6])]
noncomputable def i77 : FI := fiOf Tryz.f77 []
noncomputable def i78 : FI := fiOf Tryz.f78 []
noncomputable def i79 : FI := fiOf Tryz.f79 []
noncomputable def i81 : FI := fiOf Tryz.f81 [(9, .ord [0, 0, 0, 6, 0, 0, 48, 126, 255, 511] [false, false, false, false, false, false, false, false, false, false] [0, 1, 2, 3, 4, 5, 6, 7, 8, 9])]
noncomputable def i82 : FI := fiOf Tryz.f82 []
noncomputable def i83 : FI := fiOf Tryz.f83 [(1, .ord [0, 1, 3, 7, 0, 16, 48, 112, 240, 511] [false, false, false, false, true, true, true, true, true, false] [0, 1, 2, 3, 4, 5, 6, 7, 8, 9]), (4, .ord [0, 1, 3, 7, 0, 16, 48, 112, 240, 511, 1023, 2047, 4095] [false, false, false, false, true, true, true, true, true, false, false, false, false] [0, 1, 2, 3, 4, 5, 6, 7, 8, 9, 10, 11, 12])]
noncomputable def i85 : FI := fiOf Tryz.f85 []
noncomputable def i86 : FI := fiOf Tryz.f86 []
noncomputable def i87 : FI := fiOf Tryz.f87 []
noncomputable def i89 : FI := fiOf Tryz.f89 []
noncomputable def i90 : FI := fiOf Tryz.f90 []
noncomputable def i103 : FI := fiOf Tryz.f103 []
noncomputable def i105 : FI := fiOf Tryz.f105 []
noncomputable def i106 : FI := fiOf Tryz.f106 []
noncomputable def i107 : FI := fiOf Tryz.f107 [(17, .ord [0, 1, 3, 7, 7, 23, 63, 127, 7, 7, 775, 1799, 4095, 8191, 16383] [false, false, false, false, false, false, false, false, true, true, true, true, false, false, false] [0, 1, 2, 3, 4, 5, 6, 7, 8, 9, 10, 11, 12, 13, 14])]
noncomputable def i108 : FI := fiOf Tryz.f108 []
noncomputable def i112 : FI := fiOf Tryz.f112 []
noncomputable def i113 : FI := fiOf Tryz.f113 []
noncomputable def i114 : FI := fiOf Tryz.f114 []
noncomputable def i115 : FI := fiOf Tryz.f115 [(4, .ord [0, 0, 3, 7, 15, 15, 63, 127, 15, 15, 527, 1807, 3855, 8191, 16383] [false, false, false, false, false, false, false, false, true, true, true, true, true, false, false] [0, 1, 2, 3, 4, 5, 6, 7, 8, 9, 10, 11, 12, 13, 14]), (6, .ord [0, 0, 0, 0, 8, 0, 0, 64, 224, 480, 0, 0, 3072, 7168, 16355, 32739, 65535, 131071] [false, false, false, false, false, false, false, false, false, false, true, true, true, true, false, false, false, false] [0, 1, 2, 3, 4, 5, 6, 7, 8, 9, 10, 11, 12, 13, 14, 15, 16, 17])]
noncomputable def i116 : FI := fiOf Tryz.f116 [(10, .ord [0, 0, 0, 0, 0, 24, 0, 0, 0, 384, 960, 1984, 0, 0, 12288, 28672, 65475, 131011, 262143, 524287] [false, false, false, false, false, false, false, false, false, false, false, false, true, true, true, true, false, false, false, false] [0, 1, 2, 3, 4, 5, 6, 7, 8, 9, 10, 11, 12, 13, 14, 15, 16, 17, 18, 19])]
noncomputable def i117 : FI := fiOf Tryz.f117 [(10, .ord [0, 0, 0, 0, 0, 24, 0, 0, 0, 384, 960, 1984, 0, 0, 12288, 28672, 65475, 131011, 262143, 524287] [false, false, false, false, false, false, false, false, false, false, false, false, true, true, true, true, false, false, false, false] [0, 1, 2, 3, 4, 5, 6, 7, 8, 9, 10, 11, 12, 13, 14, 15, 16, 17, 18, 19])]
noncomputable def i118 : FI := fiOf Tryz.f118 []
noncomputable def i119 : FI := fiOf Tryz.f119 [(3, .ord [0, 0, 0, 0, 0, 0, 48, 112, 0, 0, 768, 1792, 4083, 8179, 16383, 32767] [false, false, false, false, false, false, false, false, true, true, true, true, false, false, false, false] [0, 1, 2, 3, 4, 5, 6, 7, 8, 9, 10, 11, 12, 13, 14, 15])]
noncomputable def i120 : FI := fiOf Tryz.f120 [(5, .ord [0, 0, 3, 7, 15, 15, 63, 127, 15, 15, 527, 1807, 3855, 8191, 16383, 32767] [false, false, false, false, false, false, false, false, true, true, true, true, true, false, false, false] [0, 1, 2, 3, 4, 5, 6, 7, 8, 9, 10, 11, 12, 13, 14, 15]), (11, .ord [0, 0, 0, 0, 8, 0, 0, 64, 224, 480, 0, 0, 3072, 7168, 16355, 32739, 65535, 131071] [false, false, false, false, false, false, false, false, false, false, true, true, true, true, false, false, false, false] [0, 1, 2, 3, 4, 5, 6, 7, 8, 9, 10, 11, 12, 13, 14, 15, 16, 17]), (16, .ord [0, 0, 3, 7, 0, 0, 32, 112, 240, 511, 1023] [false, false, false, false, true, true, true, true, true, false, false] [0, 1, 2, 3, 4, 5, 6, 7, 8, 9, 10]), (17, .ord [0, 0, 0, 0, 8, 0, 0, 64, 224, 480, 0, 0, 3072, 7168, 16355, 32739, 65535, 131071] [false, false, false, false, false, false, false, false, false, false, true, true, true, true, false, false, false, false] [0, 1, 2, 3, 4, 5, 6, 7, 8, 9, 10, 11, 12, 13, 14, 15, 16, 17]), (22, .ord [0, 0, 3, 7, 0, 0, 32, 112, 240, 511, 1023] [false, false, false, false, true, true, true, true, true, false, false] [0, 1, 2, 3, 4, 5, 6, 7, 8, 9, 10]), (23, .ord [0, 0, 0, 0, 8, 0, 0, 64, 224, 480, 0, 0, 3072, 7168, 16355, 32739, 65535, 131071] [false, false, false, false, false, false, false, false, false, false, true, true, true, true, false, false, false, false] [0, 1, 2, 3, 4, 5, 6, 7, 8, 9, 10, 11, 12, 13, 14, 15, 16, 17])]
noncomputable def i121 : FI := fiOf Tryz.f121 []
noncomputable def i122 : FI := fiOf Tryz.f122 [(1, .ord [0, 0, 0, 0, 0, 0, 48, 112, 0, 0, 768, 1792, 4083, 8179, 16383, 32767] [false, false, false, false, false, false, false, false, true, true, true, true, false, false, false, false] [0, 1, 2, 3, 4, 5, 6, 7, 8, 9, 10, 11, 12, 13, 14, 15]), (3, .ord [0, 0, 3, 7, 15, 15, 63, 127, 15, 15, 783, 1807, 4095, 8191, 16383] [false, false, false, false, false, false, false, false, true, true, true, true, false, false, false] [0, 1, 2, 3, 4, 5, 6, 7, 8, 9, 10, 11, 12, 13, 14]), (5, .ord [0, 0, 3, 7, 15, 15, 63, 127, 15, 15, 783, 1807, 4095, 8191] [false, false, false, false, false, false, false, false, true, true, true, true, false, false] [0, 1, 2, 3, 4, 5, 6, 7, 8, 9, 10, 11, 12, 13]), (8, .ord [0, 0, 0, 0, 0, 0, 48, 112, 0, 0, 768, 1792, 4083, 8179, 16383, 32767] [false, false, false, false, false, false, false, false, true, true, true, true, false, false, false, false] [0, 1, 2, 3, 4, 5, 6, 7, 8, 9, 10, 11, 12, 13, 14, 15])]
noncomputable def i123 : FI := fiOf Tryz.f123 [(1, .ord [0, 0, 0, 0, 0, 0, 48, 112, 0, 0, 768, 1792, 4083, 8179, 16383, 32767] [false, false, false, false, false, false, false, false, true, true, true, true, false, false, false, false] [0, 1, 2, 3, 4, 5, 6, 7, 8, 9, 10, 11, 12, 13, 14, 15]), (3, .ord [0, 0, 3, 7, 15, 15, 63, 127, 15, 15, 783, 1807, 4095, 8191] [false, false, false, false, false, false, false, false, true, true, true, true, false, false] [0, 1, 2, 3, 4, 5, 6, 7, 8, 9, 10, 11, 12, 13]), (5, .ord [0, 0, 3, 7, 15, 15, 63, 127, 15, 15, 783, 1807, 4095, 8191, 16383] [false, false, false, false, false, false, false, false, true, true, true, true, false, false, false] [0, 1, 2, 3, 4, 5, 6, 7, 8, 9, 10, 11, 12, 13, 14]), (8, .ord [0, 0, 0, 0, 0, 0, 48, 112, 0, 0, 768, 1792, 4083, 8179, 16383, 32767] [false, false, false, false, false, false, false, false, true, true, true, true, false, false, false, false] [0, 1, 2, 3, 4, 5, 6, 7, 8, 9, 10, 11, 12, 13, 14, 15]), (10, .ord [0, 0, 0, 0, 0, 0, 48, 112, 0, 0, 768, 1792, 4083, 8179, 16383, 32767] [false, false, false, false, false, false, false, false, true, true, true, true, false, false, false, false] [0, 1, 2, 3, 4, 5, 6, 7, 8, 9, 10, 11, 12, 13, 14, 15]), (13, .ord [0, 0, 3, 7, 15, 15, 63, 127, 15, 15, 783, 1807, 4095, 8191] [false, false, false, false, false, false, false, false, true, true, true, true, false, false] [0, 1, 2, 3, 4, 5, 6, 7, 8, 9, 10, 11, 12, 13]), (15, .ord [0, 0, 3, 7, 15, 15, 63, 127, 15, 15, 783, 1807, 4095, 8191, 16383] [false, false, false, false, false, false, false, false, true, true, true, true, false, false, false] [0, 1, 2, 3, 4, 5, 6, 7, 8, 9, 10, 11, 12, 13, 14]), (18, .ord [0, 0, 0, 0, 0, 0, 48, 112, 0, 0, 768, 1792, 4083, 8179, 16383, 32767] [false, false, false, false, false, false, false, false, true, true, true, true, false, false, false, false] [0, 1, 2, 3, 4, 5, 6, 7, 8, 9, 10, 11, 12, 13, 14, 15]), (21, .ord [0, 0, 0, 0, 0, 0, 48, 112, 0, 0, 768, 1792, 4083, 8179, 16383, 32767] [false, false, false, false, false, false, false, false, true, true, true, true, false, false, false, false] [0, 1, 2, 3, 4, 5, 6, 7, 8, 9, 10, 11, 12, 13, 14, 15])]
noncomputable def i124 : FI := fiOf Tryz.f124 []
noncomputable def i125 : FI := fiOf Tryz.f125 []
noncomputable def i127 : FI := fiOf Tryz.f127 [(3, .ord [0, 1, 0, 7, 15, 31, 31, 31, 223, 511, 1023, 31, 31, 31, 12319, 28703, 63519, 129055, 262143, 524287] [false, false, false, false, false, false, false, false, false, false, false, true, true, true, true, true, true, true, false, false] [0, 1, 2, 3, 4, 5, 6, 7, 8, 9, 10, 11, 12, 13, 14, 15, 16, 17, 18, 19]), (5, .ord [0, 0, 0, 6, 15, 31, 0, 0, 0, 384, 960, 1984, 4095, 8191] [false, false, false, false, false, false, true, true, true, true, true, true, false, false] [0, 1, 2, 3, 4, 5, 6, 7, 8, 9, 10, 11, 12, 13]), (6, .ord [0, 0, 0, 6, 0, 0, 0, 96, 0, 0, 0, 1536, 3840, 7936, 0, 0, 0, 98304, 245760, 507904, 1048335, 2096911, 4194303, 8388607] [false, false, false, false, false, false, false, false, false, false, false, false, false, false, true, true, true, true, true, true, false, false, false, false] [0, 1, 2, 3, 4, 5, 6, 7, 8, 9, 10, 11, 12, 13, 14, 15, 16, 17, 18, 19, 20, 21, 22, 23])]
noncomputable def i128 : FI := fiOf Tryz.f128 []
noncomputable def i129 : FI := fiOf Tryz.f129 [(1, .ord [0, 1, 3, 0, 8, 24, 56, 127, 255, 511] [false, false, false, true, true, true, true, false, false, false] [0, 1, 2, 3, 4, 5, 6, 7, 8, 9]), (2, .ord [0, 1, 3, 0, 8, 24, 56, 127, 255, 511] [false, false, false, true, true, true, true, false, false, false] [0, 1, 2, 3, 4, 5, 6, 7, 8, 9]), (3, .ord [0, 1, 3, 0, 8, 24, 56, 127, 255, 511] [false, false, false, true, true, true, true, false, false, false] [0, 1, 2, 3, 4, 5, 6, 7, 8, 9])]
noncomputable def i130 : FI := fiOf Tryz.f130 []
noncomputable def i131 : FI := fiOf Tryz.f131 []
noncomputable def i132 : FI := fiOf Tryz.f132 []
noncomputable def i133 : FI := fiOf Tryz.f133 [(1, .ord [0, 0, 3, 7, 0, 0, 48, 112, 255] [false, false, false, false, true, true, true, true, false] [0, 1, 2, 3, 4, 5, 6, 7, 8])]
noncomputable def i149 : FI := fiOf Tryz.f149 []
noncomputable def i150 : FI := fiOf Tryz.f150 []
noncomputable def i151 : FI := fiOf Tryz.f151 [(7, .ord [0, 0, 0, 0, 12, 28, 0, 0, 192, 448, 960, 2047, 4095, 0, 16383] [false, false, false, false, false, false, true, true, true, true, true, false, false, true, false] [0, 1, 2, 3, 4, 5, 6, 7, 8, 9, 10, 13, 11, 12, 14]), (9, .ord [0, 0, 3, 7, 0, 0, 48, 112, 255] [false, false, false, false, true, true, true, true, false] [0, 1, 2, 3, 4, 5, 6, 7, 8])]
noncomputable def i153 : FI := fiOf Tryz.f153 []
noncomputable def i154 : FI := fiOf Tryz.f154 []
noncomputable def i155 : FI := fiOf Tryz.f155 [(1, .ord [0, 0, 3, 0, 0, 24, 56, 127, 0, 0, 768, 1792, 4095, 8191] [false, false, false, false, false, false, false, false, true, true, true, true, false, false] [0, 1, 2, 3, 4, 5, 6, 7, 8, 9, 10, 11, 12, 13])]
noncomputable def i156 : FI := fiOf Tryz.f156 []
noncomputable def i157 : FI := fiOf Tryz.f157 []
noncomputable def i158 : FI := fiOf Tryz.f158 [(1, .ord [0, 0, 2, 7, 0, 0, 38, 118, 255, 511] [false, false, true, true, true, true, false, false, false, false] [0, 1, 4, 5, 2, 3, 6, 7, 8, 9])]
noncomputable def i159 : FI := fiOf Tryz.f159 [(2, .ord [0, 1, 3, 0, 8, 24, 7, 127] [false, false, false, true, true, true, true, false] [0, 1, 2, 3, 4, 5, 6, 7]), (4, .ord [0, 0, 2, 0, 14, 31, 0, 0, 128, 0, 926, 2014, 4095] [false, false, false, true, true, true, true, true, true, true, false, false, false] [0, 1, 2, 3, 6, 7, 8, 9, 4, 5, 10, 11, 12]), (12, .ord [0, 0, 2, 6, 14, 3, 63] [false, false, false, false, false, false, false] [0, 1, 2, 3, 5, 4, 6])]
noncomputable def i161 : FI := fiOf Tryz.f161 [(1, .ord [0, 1, 0, 4, 15, 31] [false, false, true, true, false, false] [0, 1, 2, 3, 4, 5])]
noncomputable def i162 : FI := fiOf Tryz.f162 []
noncomputable def i163 : FI := fiOf Tryz.f163 [(4, .ord [0, 1, 3, 7, 0, 16, 48, 112, 15, 511] [false, false, false, false, true, true, true, true, true, false] [0, 1, 2, 3, 4, 5, 6, 7, 8, 9]), (6, .ord [0, 1, 3, 0, 8, 24, 56, 7, 255] [false, false, false, true, true, true, true, true, false] [0, 1, 2, 3, 4, 5, 6, 7, 8]), (11, .ord [0, 0, 0, 4, 14, 0, 0, 64, 192, 0, 0, 0, 2048, 0, 14348, 31756, 65516, 131070, 262143, 524287] [false, false, false, true, true, true, true, true, true, true, true, true, true, true, true, true, false, false, false, false] [0, 1, 2, 5, 6, 7, 8, 9, 10, 11, 12, 13, 3, 4, 14, 15, 16, 17, 18, 19])]
noncomputable def i164 : FI := fiOf Tryz.f164 [(2, .ord [0, 0, 0, 6, 0, 16, 62, 0, 0, 384, 0, 1024, 3968, 8190, 0, 32766, 65535, 131071] [false, false, false, false, false, false, false, true, true, true, true, true, true, false, true, false, false, false] [0, 1, 2, 3, 4, 5, 6, 7, 8, 9, 10, 11, 12, 13, 14, 15, 16, 17])]
noncomputable def i165 : FI := fiOf Tryz.f165 []
noncomputable def i166 : FI := fiOf Tryz.f166 []
noncomputable def i167 : FI := fiOf Tryz.f167 []
noncomputable def i168 : FI := fiOf Tryz.f168 [(1, .ord [0, 0, 2, 7, 0, 0, 32, 112, 255, 511] [false, false, false, false, true, true, true, true, false, false] [0, 1, 2, 3, 4, 5, 6, 7, 8, 9])]
noncomputable def i169 : FI := fiOf Tryz.f169 [(1, .ord [0, 0, 2, 7, 0, 0, 32, 112, 15, 511] [false, false, false, false, true, true, true, true, true, false] [0, 1, 2, 3, 4, 5, 6, 7, 8, 9])]
noncomputable def i171 : FI := fiOf Tryz.f171 [(1, .ord [0, 1, 0, 4, 15, 31] [false, false, true, true, false, false] [0, 1, 2, 3, 4, 5])]
noncomputable def i172 : FI := fiOf Tryz.f172 [(4, .ord [0, 0, 2, 6, 15, 31, 63, 63, 191, 447, 63, 1087, 4031, 63, 16319, 32767, 65535, 131071] [false, false, false, false, false, false, false, false, false, false, true, true, false, true, false, false, false, false] [0, 1, 2, 3, 4, 5, 6, 7, 8, 9, 10, 11, 12, 13, 14, 15, 16, 17]), (6, .ord [0, 1, 3, 0, 8, 31, 63] [false, false, false, true, true, false, false] [0, 1, 2, 3, 4, 5, 6]), (7, .ord [0, 0, 2, 6, 14, 0, 32, 126, 255] [false, false, false, false, false, true, true, false, false] [0, 1, 2, 3, 4, 5, 6, 7, 8]), (9, .ord [0, 0, 2, 6, 0, 16, 48, 0, 240, 496, 0, 1024, 4080, 8191, 16383, 32767, 32767, 65535, 262143] [false, true, true, true, true, true, true, true, true, true, true, true, true, false, false, false, false, false, false] [0, 1, 2, 3, 4, 5, 6, 7, 8, 9, 10, 11, 12, 13, 14, 15, 16, 17, 18])]
noncomputable def i173 : FI := fiOf Tryz.f173 [(1, .ord [0, 0, 3, 7, 0, 16, 63, 0, 176, 511, 1023] [false, false, false, false, false, true, true, true, false, false, false] [0, 1, 2, 3, 4, 7, 5, 6, 8, 9, 10]), (2, .ord [0, 0, 2, 7, 0, 0, 32, 112, 255, 0, 0, 1024, 3584, 0, 8192, 24576, 0, 122880, 0, 262144, 1040384, 2096640, 25087, 8388607] [false, false, false, false, true, true, true, true, false, true, true, true, true, true, true, true, true, true, true, true, true, true, true, false] [0, 1, 2, 3, 4, 5, 6, 7, 8, 9, 10, 11, 12, 13, 16, 18, 19, 14, 15, 17, 20, 21, 22, 23])]
noncomputable def i174 : FI := fiOf Tryz.f174 [(6, .ord [0, 0, 3, 7, 0, 0, 32, 112, 240, 511] [false, false, false, false, true, true, true, true, true, false] [0, 1, 2, 3, 4, 5, 6, 7, 8, 9]), (11, .ord [0, 0, 3, 7, 0, 0, 32, 112, 240, 511] [false, false, false, false, true, true, true, true, true, false] [0, 1, 2, 3, 4, 5, 6, 7, 8, 9])]
noncomputable def FNt : Tr FI := (.n (.n (.n (.n (.n (.n (.n (.n .e (some i127) .e) none .e) (some i31) (.n (.n .e (some i159) .e) none .e)) none (.n (.n .e (some i79) .e) (some i47) .e)) none (.n (.n .e none (.n (.n .e (some i167) .e) (some i103) .e)) none (.n (.n (.n .e (some i151) .e) (some i87) .e) (some i55) (.n .e (some i119) .e)))) none (.n (.n (.n (.n (.n .e (some i131) .e) none .e) (some i35) (.n (.n .e (some i163) .e) none .e)) (some i19) (.n (.n .e (some i83) .e) (some i51) (.n .e (some i115) .e))) none (.n (.n (.n .e (some i75) .e) (some i43) (.n (.n .e (some i171) .e) (some i107) .e)) none (.n (.n (.n .e (some i155) .e) none .e) (some i59) (.n .e (some i123) .e))))) none (.n (.n (.n (.n (.n (.n .e (some i129) .e) none .e) (some i33) (.n (.n .e (some i161) .e) none .e)) (some i17) (.n (.n .e (some i81) .e) none (.n .e (some i113) .e))) (some i9) (.n (.n (.n .e (some i73) .e) (some i41) (.n (.n .e (some i169) .e) (some i105) .e)) none (.n (.n (.n .e (some i153) .e) (some i89) .e) (some i57) (.n .e (some i121) .e)))) none (.n (.n (.n (.n (.n .e (some i133) .e) none .e) (some i37) (.n (.n .e (some i165) .e) none .e)) none (.n (.n (.n .e (some i149) .e) (some i85) .e) (some i53) (.n .e (some i117) .e))) none (.n (.n (.n .e (some i77) .e) none (.n (.n .e (some i173) .e) none .e)) (some i29) (.n (.n (.n .e (some i157) .e) none .e) none (.n .e (some i125) .e)))))) none (.n (.n (.n (.n (.n (.n (.n .e (some i128) .e) none .e) (some i32) .e) (some i16) (.n .e (some i48) (.n .e (some i112) .e))) (some i8) (.n (.n .e (some i40) (.n (.n .e (some i168) .e) none .e)) none (.n .e (some i56) (.n .e (some i120) .e)))) none (.n (.n (.n (.n (.n .e (some i132) .e) none .e) (some i36) (.n (.n .e (some i164) .e) none .e)) (some i20) (.n .e (some i52) (.n .e (some i116) .e))) (some i12) (.n (.n (.n .e (some i76) .e) none (.n (.n .e (some i172) .e) (some i108) .e)) (some i28) (.n (.n (.n .e (some i156) .e) none .e) none (.n .e (some i124) .e))))) none (.n (.n (.n (.n (.n (.n .e (some i130) .e) none .e) (some i34) (.n (.n .e (some i162) .e) none .e)) (some i18) (.n (.n .e (some i82) .e) (some i50) (.n .e (some i114) .e))) none (.n (.n (.n .e (some i74) .e) (some i42) (.n .e (some i106) .e)) none (.n (.n (.n .e (some i154) .e) (some i90) .e) (some i58) (.n .e (some i122) .e)))) (some i6) (.n (.n (.n .e (some i38) (.n (.n .e (some i166) .e) none .e)) none (.n (.n (.n .e (some i150) .e) (some i86) .e) (some i54) (.n .e (some i118) .e))) (some i14) (.n (.n (.n .e (some i78) .e) (some i46) (.n (.n .e (some i174) .e) none .e)) (some i30) (.n (.n (.n .e (some i158) .e) none .e) none .e))))))
theorem o6 : FOk Tryz.prog 6 i6 := ⟨Tryz.call6, Tryz.f6, Tryz.func6, rfl, rfl, rfl⟩
theorem o8 : FOk Tryz.prog 8 i8 := ⟨Tryz.call8, Tryz.f8, Tryz.func8, rfl, rfl, rfl⟩
theorem o9 : FOk Tryz.prog 9 i9 := ⟨Tryz.call9, Tryz.f9, Tryz.func9, rfl, rfl, rfl⟩
theorem o12 : FOk Tryz.prog 12 i12 := ⟨Tryz.call12, Tryz.f12, Tryz.func12, rfl, rfl, rfl⟩
theorem o14 : FOk Tryz.prog 14 i14 := ⟨Tryz.call14, Tryz.f14, Tryz.func14, rfl, rfl, rfl⟩
theorem o16 : FOk Tryz.prog 16 i16 := ⟨Tryz.call16, Tryz.f16, Tryz.func16, rfl, rfl, rfl⟩
theorem o17 : FOk Tryz.prog 17 i17 := ⟨Tryz.call17, Tryz.f17, Tryz.func17, rfl, rfl, rfl⟩
theorem o18 : FOk Tryz.prog 18 i18 := ⟨Tryz.call18, Tryz.f18, Tryz.func18, rfl, rfl, rfl⟩
theorem o19 : FOk Tryz.prog 19 i19 := ⟨Tryz.call19, Tryz.f19, Tryz.func19, rfl, rfl, rfl⟩
theorem o20 : FOk Tryz.prog 20 i20 := ⟨Tryz.call20, Tryz.f20, Tryz.func20, rfl, rfl, rfl⟩
theorem o28 : FOk Tryz.prog 28 i28 := ⟨Tryz.call28, Tryz.f28, Tryz.func28, rfl, rfl, rfl⟩
theorem o29 : FOk Tryz.prog 29 i29 := ⟨Tryz.call29, Tryz.f29, Tryz.func29, rfl, rfl, rfl⟩
theorem o30 : FOk Tryz.prog 30 i30 := ⟨Tryz.call30, Tryz.f30, Tryz.func30, rfl, rfl, rfl⟩
theorem o31 : FOk Tryz.prog 31 i31 := ⟨Tryz.call31, Tryz.f31, Tryz.func31, rfl, rfl, rfl⟩
theorem o32 : FOk Tryz.prog 32 i32 := ⟨Tryz.call32, Tryz.f32, Tryz.func32, rfl, rfl, rfl⟩
theorem o33 : FOk Tryz.prog 33 i33 := ⟨Tryz.call33, Tryz.f33, Tryz.func33, rfl, rfl, rfl⟩
theorem o34 : FOk Tryz.prog 34 i34 := ⟨Tryz.call34, Tryz.f34, Tryz.func34, rfl, rfl, rfl⟩
theorem o35 : FOk Tryz.prog 35 i35 := ⟨Tryz.call35, Tryz.f35, Tryz.func35, rfl, rfl, rfl⟩
theorem o36 : FOk Tryz.prog 36 i36 := ⟨Tryz.call36, Tryz.f36, Tryz.func36, rfl, rfl, rfl⟩
theorem o37 : FOk Tryz.prog 37 i37 := ⟨Tryz.call37, Tryz.f37, Tryz.func37, rfl, rfl, rfl⟩
theorem o38 : FOk Tryz.prog 38 i38 := ⟨Tryz.call38, Tryz.f38, Tryz.func38, rfl, rfl, rfl⟩
theorem o40 : FOk Tryz.prog 40 i40 := ⟨Tryz.call40, Tryz.f40, Tryz.func40, rfl, rfl, rfl⟩
theorem o41 : FOk Tryz.prog 41 i41 := ⟨Tryz.call41, Tryz.f41, Tryz.func41, rfl, rfl, rfl⟩
theorem o42 : FOk Tryz.prog 42 i42 := ⟨Tryz.call42, Tryz.f42, Tryz.func42, rfl, rfl, rfl⟩
theorem o43 : FOk Tryz.prog 43 i43 := ⟨Tryz.call43, Tryz.f43, Tryz.func43, rfl, rfl, rfl⟩
theorem o46 : FOk Tryz.prog 46 i46 := ⟨Tryz.call46, Tryz.f46, Tryz.func46, rfl, rfl, rfl⟩
theorem o47 : FOk Tryz.prog 47 i47 := ⟨Tryz.call47, Tryz.f47, Tryz.func47, rfl, rfl, rfl⟩
theorem o48 : FOk Tryz.prog 48 i48 := ⟨Tryz.call48, Tryz.f48, Tryz.func48, rfl, rfl, rfl⟩
theorem o50 : FOk Tryz.prog 50 i50 := ⟨Tryz.call50, Tryz.f50, Tryz.func50, rfl, rfl, rfl⟩
theorem o51 : FOk Tryz.prog 51 i51 := ⟨Tryz.call51, Tryz.f51, Tryz.func51, rfl, rfl, rfl⟩
theorem o52 : FOk Tryz.prog 52 i52 := ⟨Tryz.call52, Tryz.f52, Tryz.func52, rfl, rfl, rfl⟩
theorem o53 : FOk Tryz.prog 53 i53 := ⟨Tryz.call53, Tryz.f53, Tryz.func53, rfl, rfl, rfl⟩
theorem o54 : FOk Tryz.prog 54 i54 := ⟨Tryz.call54, Tryz.f54, Tryz.func54, rfl, rfl, rfl⟩
theorem o55 : FOk Tryz.prog 55 i55 := ⟨Tryz.call55, Tryz.f55, Tryz.func55, rfl, rfl, rfl⟩
theorem o56 : FOk Tryz.prog 56 i56 := ⟨Tryz.call56, Tryz.f56, Tryz.func56, rfl, rfl, rfl⟩
theorem o57 : FOk Tryz.prog 57 i57 := ⟨Tryz.call57, Tryz.f57, Tryz.func57, rfl, rfl, rfl⟩
theorem o58 : FOk Tryz.prog 58 i58 := ⟨Tryz.call58, Tryz.f58, Tryz.func58, rfl, rfl, rfl⟩
theorem o59 : FOk Tryz.prog 59 i59 := ⟨Tryz.call59, Tryz.f59, Tryz.func59, rfl, rfl, rfl⟩
theorem o73 : FOk Tryz.prog 73 i73 := ⟨Tryz.call73, Tryz.f73, Tryz.func73, rfl, rfl, rfl⟩
theorem o74 : FOk Tryz.prog 74 i74 := ⟨Tryz.call74, Tryz.f74, Tryz.func74, rfl, rfl, rfl⟩
theorem o75 : FOk Tryz.prog 75 i75 := ⟨Tryz.call75, Tryz.f75, Tryz.func75, rfl, rfl, rfl⟩
theorem o76 : FOk Tryz.prog 76 i76 := ⟨Tryz.call76, Tryz.f76, Tryz.func76, rfl, rfl, rfl⟩
theorem o77 : FOk Tryz.prog 77 i77 := ⟨Tryz.call77, Tryz.f77, Tryz.func77, rfl, rfl, rfl⟩
theorem o78 : FOk Tryz.prog 78 i78 := ⟨Tryz.call78, Tryz.f78, Tryz.func78, rfl, rfl, rfl⟩
theorem o79 : FOk Tryz.prog 79 i79 := ⟨Tryz.call79, Tryz.f79, Tryz.func79, rfl, rfl, rfl⟩
theorem o81 : FOk Tryz.prog 81 i81 := ⟨Tryz.call81, Tryz.f81, Tryz.func81, rfl, rfl, rfl⟩
theorem o82 : FOk Tryz.prog 82 i82 := ⟨Tryz.call82, Tryz.f82, Tryz.func82, rfl, rfl, rfl⟩
theorem o83 : FOk Tryz.prog 83 i83 := ⟨Tryz.call83, Tryz.f83, Tryz.func83, rfl, rfl, rfl⟩
theorem o85 : FOk Tryz.prog 85 i85 := ⟨Tryz.call85, Tryz.f85, Tryz.func85, rfl, rfl, rfl⟩
theorem o86 : FOk Tryz.prog 86 i86 := ⟨Tryz.call86, Tryz.f86, Tryz.func86, rfl, rfl, rfl⟩
theorem o87 : FOk Tryz.prog 87 i87 := ⟨Tryz.call87, Tryz.f87, Tryz.func87, rfl, rfl, rfl⟩
theorem o89 : FOk Tryz.prog 89 i89 := ⟨Tryz.call89, Tryz.f89, Tryz.func89, rfl, rfl, rfl⟩
theorem o90 : FOk Tryz.prog 90 i90 := ⟨Tryz.call90, Tryz.f90, Tryz.func90, rfl, rfl, rfl⟩
theorem o103 : FOk Tryz.prog 103 i103 := ⟨Tryz.call103, Tryz.f103, Tryz.func103, rfl, rfl, rfl⟩
theorem o105 : FOk Tryz.prog 105 i105 := ⟨Tryz.call105, Tryz.f105, Tryz.func105, rfl, rfl, rfl⟩
theorem o106 : FOk Tryz.prog 106 i106 := ⟨Tryz.call106, Tryz.f106, Tryz.func106, rfl, rfl, rfl⟩
theorem o107 : FOk Tryz.prog 107 i107 := ⟨Tryz.call107, Tryz.f107, Tryz.func107, rfl, rfl, rfl⟩
theorem o108 : FOk Tryz.prog 108 i108 := ⟨Tryz.call108, Tryz.f108, Tryz.func108, rfl, rfl, rfl⟩
theorem o112 : FOk Tryz.prog 112 i112 := ⟨Tryz.call112, Tryz.f112, Tryz.func112, rfl, rfl, rfl⟩
theorem o113 : FOk Tryz.prog 113 i113 := ⟨Tryz.call113, Tryz.f113, Tryz.func113, rfl, rfl, rfl⟩
theorem o114 : FOk Tryz.prog 114 i114 := ⟨Tryz.call114, Tryz.f114, Tryz.func114, rfl, rfl, rfl⟩
theorem o115 : FOk Tryz.prog 115 i115 := ⟨Tryz.call115, Tryz.f115, Tryz.func115, rfl, rfl, rfl⟩
theorem o116 : FOk Tryz.prog 116 i116 := ⟨Tryz.call116, Tryz.f116, Tryz.func116, rfl, rfl, rfl⟩
theorem o117 : FOk Tryz.prog 117 i117 := ⟨Tryz.call117, Tryz.f117, Tryz.func117, rfl, rfl, rfl⟩
theorem o118 : FOk Tryz.prog 118 i118 := ⟨Tryz.call118, Tryz.f118, Tryz.func118, rfl, rfl, rfl⟩
theorem o119 : FOk Tryz.prog 119 i119 := ⟨Tryz.call119, Tryz.f119, Tryz.func119, rfl, rfl, rfl⟩
theorem o120 : FOk Tryz.prog 120 i120 := ⟨Tryz.call120, Tryz.f120, Tryz.func120, rfl, rfl, rfl⟩
theorem o121 : FOk Tryz.prog 121 i121 := ⟨Tryz.call121, Tryz.f121, Tryz.func121, rfl, rfl, rfl⟩
theorem o122 : FOk Tryz.prog 122 i122 := ⟨Tryz.call122, Tryz.f122, Tryz.func122, rfl, rfl, rfl⟩
theorem o123 : FOk Tryz.prog 123 i123 := ⟨Tryz.call123, Tryz.f123, Tryz.func123, rfl, rfl, rfl⟩
theorem o124 : FOk Tryz.prog 124 i124 := ⟨Tryz.call124, Tryz.f124, Tryz.func124, rfl, rfl, rfl⟩
theorem o125 : FOk Tryz.prog 125 i125 := ⟨Tryz.call125, Tryz.f125, Tryz.func125, rfl, rfl, rfl⟩
theorem o127 : FOk Tryz.prog 127 i127 := ⟨Tryz.call127, Tryz.f127, Tryz.func127, rfl, rfl, rfl⟩
theorem o128 : FOk Tryz.prog 128 i128 := ⟨Tryz.call128, Tryz.f128, Tryz.func128, rfl, rfl, rfl⟩
theorem o129 : FOk Tryz.prog 129 i129 := ⟨Tryz.call129, Tryz.f129, Tryz.func129, rfl, rfl, rfl⟩
theorem o130 : FOk Tryz.prog 130 i130 := ⟨Tryz.call130, Tryz.f130, Tryz.func130, rfl, rfl, rfl⟩
theorem o131 : FOk Tryz.prog 131 i131 := ⟨Tryz.call131, Tryz.f131, Tryz.func131, rfl, rfl, rfl⟩
theorem o132 : FOk Tryz.prog 132 i132 := ⟨Tryz.call132, Tryz.f132, Tryz.func132, rfl, rfl, rfl⟩
theorem o133 : FOk Tryz.prog 133 i133 := ⟨Tryz.call133, Tryz.f133, Tryz.func133, rfl, rfl, rfl⟩
theorem o149 : FOk Tryz.prog 149 i149 := ⟨Tryz.call149, Tryz.f149, Tryz.func149, rfl, rfl, rfl⟩
theorem o150 : FOk Tryz.prog 150 i150 := ⟨Tryz.call150, Tryz.f150, Tryz.func150, rfl, rfl, rfl⟩
theorem o151 : FOk Tryz.prog 151 i151 := ⟨Tryz.call151, Tryz.f151, Tryz.func151, rfl, rfl, rfl⟩
theorem o153 : FOk Tryz.prog 153 i153 := ⟨Tryz.call153, Tryz.f153, Tryz.func153, rfl, rfl, rfl⟩
theorem o154 : FOk Tryz.prog 154 i154 := ⟨Tryz.call154, Tryz.f154, Tryz.func154, rfl, rfl, rfl⟩
theorem o155 : FOk Tryz.prog 155 i155 := ⟨Tryz.call155, Tryz.f155, Tryz.func155, rfl, rfl, rfl⟩
theorem o156 : FOk Tryz.prog 156 i156 := ⟨Tryz.call156, Tryz.f156, Tryz.func156, rfl, rfl, rfl⟩
theorem o157 : FOk Tryz.prog 157 i157 := ⟨Tryz.call157, Tryz.f157, Tryz.func157, rfl, rfl, rfl⟩
theorem o158 : FOk Tryz.prog 158 i158 := ⟨Tryz.call158, Tryz.f158, Tryz.func158, rfl, rfl, rfl⟩
theorem o159 : FOk Tryz.prog 159 i159 := ⟨Tryz.call159, Tryz.f159, Tryz.func159, rfl, rfl, rfl⟩
theorem o161 : FOk Tryz.prog 161 i161 := ⟨Tryz.call161, Tryz.f161, Tryz.func161, rfl, rfl, rfl⟩
theorem o162 : FOk Tryz.prog 162 i162 := ⟨Tryz.call162, Tryz.f162, Tryz.func162, rfl, rfl, rfl⟩
theorem o163 : FOk Tryz.prog 163 i163 := ⟨Tryz.call163, Tryz.f163, Tryz.func163, rfl, rfl, rfl⟩
theorem o164 : FOk Tryz.prog 164 i164 := ⟨Tryz.call164, Tryz.f164, Tryz.func164, rfl, rfl, rfl⟩
theorem o165 : FOk Tryz.prog 165 i165 := ⟨Tryz.call165, Tryz.f165, Tryz.func165, rfl, rfl, rfl⟩
theorem o166 : FOk Tryz.prog 166 i166 := ⟨Tryz.call166, Tryz.f166, Tryz.func166, rfl, rfl, rfl⟩
theorem o167 : FOk Tryz.prog 167 i167 := ⟨Tryz.call167, Tryz.f167, Tryz.func167, rfl, rfl, rfl⟩
theorem o168 : FOk Tryz.prog 168 i168 := ⟨Tryz.call168, Tryz.f168, Tryz.func168, rfl, rfl, rfl⟩
theorem o169 : FOk Tryz.prog 169 i169 := ⟨Tryz.call169, Tryz.f169, Tryz.func169, rfl, rfl, rfl⟩
theorem o171 : FOk Tryz.prog 171 i171 := ⟨Tryz.call171, Tryz.f171, Tryz.func171, rfl, rfl, rfl⟩
theorem o172 : FOk Tryz.prog 172 i172 := ⟨Tryz.call172, Tryz.f172, Tryz.func172, rfl, rfl, rfl⟩
theorem o173 : FOk Tryz.prog 173 i173 := ⟨Tryz.call173, Tryz.f173, Tryz.func173, rfl, rfl, rfl⟩
theorem o174 : FOk Tryz.prog 174 i174 := ⟨Tryz.call174, Tryz.f174, Tryz.func174, rfl, rfl, rfl⟩
theorem fall : TrAll (FOk Tryz.prog) (fun m => m) FNt := ⟨⟨⟨⟨⟨⟨⟨⟨trivial, o127, trivial⟩, trivial, trivial⟩, o31, ⟨⟨trivial, o159, trivial⟩, trivial, trivial⟩⟩, trivial, ⟨⟨trivial, o79, trivial⟩, o47, trivial⟩⟩, trivial, ⟨⟨trivial, trivial, ⟨⟨trivial, o167, trivial⟩, o103, trivial⟩⟩, trivial, ⟨⟨⟨trivial, o151, trivial⟩, o87, trivial⟩, o55, ⟨trivial, o119, trivial⟩⟩⟩⟩, trivial, ⟨⟨⟨⟨⟨trivial, o131, trivial⟩, trivial, trivial⟩, o35, ⟨⟨trivial, o163, trivial⟩, trivial, trivial⟩⟩, o19, ⟨⟨trivial, o83, trivial⟩, o51, ⟨trivial, o115, trivial⟩⟩⟩, trivial, ⟨⟨⟨trivial, o75, trivial⟩, o43, ⟨⟨trivial, o171, trivial⟩, o107, trivial⟩⟩, trivial, ⟨⟨⟨trivial, o155, trivial⟩, trivial, trivial⟩, o59, ⟨trivial, o123, trivial⟩⟩⟩⟩⟩, trivial, ⟨⟨⟨⟨⟨⟨trivial, o129, trivial⟩, trivial, trivial⟩, o33, ⟨⟨trivial, o161, trivial⟩, trivial, trivial⟩⟩, o17, ⟨⟨trivial, o81, trivial⟩, trivial, ⟨trivial, o113, trivial⟩⟩⟩, o9, ⟨⟨⟨trivial, o73, trivial⟩, o41, ⟨⟨trivial, o169, trivial⟩, o105, trivial⟩⟩, trivial, ⟨⟨⟨trivial, o153, trivial⟩, o89, trivial⟩, o57, ⟨trivial, o121, trivial⟩⟩⟩⟩, trivial, ⟨⟨⟨⟨⟨trivial, o133, trivial⟩, trivial, trivial⟩, o37, ⟨⟨trivial, o165, trivial⟩, trivial, trivial⟩⟩, trivial, ⟨⟨⟨trivial, o149, trivial⟩, o85, trivial⟩, o53, ⟨trivial, o117, trivial⟩⟩⟩, trivial, ⟨⟨⟨trivial, o77, trivial⟩, trivial, ⟨⟨trivial, o173, trivial⟩, trivial, trivial⟩⟩, o29, ⟨⟨⟨trivial, o157, trivial⟩, trivial, trivial⟩, trivial, ⟨trivial, o125, trivial⟩⟩⟩⟩⟩⟩, trivial, ⟨⟨⟨⟨⟨⟨⟨trivial, o128, trivial⟩, trivial, trivial⟩, o32, trivial⟩, o16, ⟨trivial, o48, ⟨trivial, o112, trivial⟩⟩⟩, o8, ⟨⟨trivial, o40, ⟨⟨trivial, o168, trivial⟩, trivial, trivial⟩⟩, trivial, ⟨trivial, o56, ⟨trivial, o120, trivial⟩⟩⟩⟩, trivial, ⟨⟨⟨⟨⟨trivial, o132, trivial⟩, trivial, trivial⟩, o36, ⟨⟨trivial, o164, trivial⟩, trivial, trivial⟩⟩, o20, ⟨trivial, o52, ⟨trivial, o116, trivial⟩⟩⟩, o12, ⟨⟨⟨trivial, o76, trivial⟩, trivial, ⟨⟨trivial, o172, trivial⟩, o108, trivial⟩⟩, o28, ⟨⟨⟨trivial, o156, trivial⟩, trivial, trivial⟩, trivial, ⟨trivial, o124, trivial⟩⟩⟩⟩⟩, trivial, ⟨⟨⟨⟨⟨⟨trivial, o130, trivial⟩, trivial, trivial⟩, o34, ⟨⟨trivial, o162, trivial⟩, trivial, trivial⟩⟩, o18, ⟨⟨trivial, o82, trivial⟩, o50, ⟨trivial, o114, trivial⟩⟩⟩, trivial, ⟨⟨⟨trivial, o74, trivial⟩, o42, ⟨trivial, o106, trivial⟩⟩, trivial, ⟨⟨⟨trivial, o154, trivial⟩, o90, trivial⟩, o58, ⟨trivial, o122, trivial⟩⟩⟩⟩, o6, ⟨⟨⟨trivial, o38, ⟨⟨trivial, o166, trivial⟩, trivial, trivial⟩⟩, trivial, ⟨⟨⟨trivial, o150, trivial⟩, o86, trivial⟩, o54, ⟨trivial, o118, trivial⟩⟩⟩, o14, ⟨⟨⟨trivial, o78, trivial⟩, o46, ⟨⟨trivial, o174, trivial⟩, trivial, trivial⟩⟩, o30, ⟨⟨⟨trivial, o158, trivial⟩, trivial, trivial⟩, trivial, trivial⟩⟩⟩⟩⟩⟩
theorem fok : FnOk Tryz.prog FNt := fok_of fall
end Go.Af.Tryz.K
namespace Go.Af.Tryz.K
open Go Go.Proofs
theorem known_run : (evN FNt EE 100).call 0 6 [] .e 0 (fun v _ _ => match v with | .bool b => b | _ => false) = true := by kernel_rfl
end Go.Af.Tryz.K
