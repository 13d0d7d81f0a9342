/-
  slices.Compact of a row of numbers.
  Routes in a dragonfly, as the program finds them.
-/
import Derived.Test.YtjncbbdiejkalaaGreatMU
import Derived.Test.YtjncbbdiejkalaaGreatMC
set_option linter.all false
namespace Go.Af.Tryz
open Go Go.Proofs
attribute [local irreducible] awp ACall ACallX AYield AInvoke


end Go.Af.Tryz
namespace Go.Af.Tryz
open Go Go.Proofs
attribute [local irreducible] awp ACall ACallX AYield AInvoke

/-- How far a group lies behind another one. -/
def gapF (a h gx gy : Int) : Int := (gy - gx - 1 + (a * h + 1)).tmod (a * h + 1)
def porF (a h g e : Int) : Int := g * a + e.tdiv h
theorem gap_in {a h gx gy : Int} (h0 : 0 ≤ gx) (h1 : gx < a * h + 1) (h2 : 0 ≤ gy) (h3 : gy < a * h + 1) (hne : gx ≠ gy) : 0 ≤ gapF a h gx gy ∧ gapF a h gx gy ≤ a * h + 1 - 2 := by
  unfold gapF
  rw [Int.tmod_eq_emod_of_nonneg (by omega)]
  by_cases h : gx < gy
  · rw [Int.add_emod_right, Int.emod_eq_of_lt (by omega) (by omega)]; omega
  · rw [Int.emod_eq_of_lt (by omega) (by omega)]; omega

theorem l159 (a h gx gy d : Int) (ha : 1 ≤ a ∧ a ≤ 16) (hh : 1 ≤ h ∧ h ≤ 4) (h0 : 0 ≤ gx) (h1 : gx < a * h + 1) (h2 : 0 ≤ gy) (h3 : gy < a * h + 1) (hd : gapF a h gx gy = d) (hg : 0 ≤ d ∧ d ≤ a * h + 1 - 2) : ACall Tryz.prog 173 [twoV a h, .int .i64 gx, .int .i64 gy] []
    (fun v H => v = .tuple ⟨[.int .i64 (porF a h gx d), .int .i64 (porF a h gy (a * h + 1 - 2 - d))]⟩ ∧ H = []) := by
  have hm := mulb (a := a) (b := h) (A := 16) (B := 4) (by omega) (by omega) (by omega) (by omega)
  have hx := mulb (a := gx) (b := a) (A := 65) (B := 16) (by omega) (by omega) (by omega) (by omega)
  have hy := mulb (a := gy) (b := a) (A := 65) (B := 16) (by omega) (by omega) (by omega) (by omega)
  refine acall_drop (acall_vcg tok Tryz.call173 Tryz.func173 rfl Tryz.ntmps173 rfl (by simp) ?_)
  refine vcg_draw tok mx [0, 0, 3, 7, 0, 16, 63, 0, 176, 511, 1023] [false, false, false, false, false, true, true, true, false, false, false] [0, 1, 2, 3, 4, 7, 5, 6, 8, 9, 10] (by kernel_rfl) ?_
  (repeat (first | refine And.intro (fun _ => ?_) (fun h => absurd h (by decide)) | refine And.intro (fun h => absurd h (by decide)) (fun _ => ?_) | refine Exists.intro _ (And.intro rfl ?_) | refine And.intro (by decide) ?_ | refine And.intro (by omega) ?_ | refine Or.inl (Exists.intro _ (And.intro rfl (And.intro (by unfold I64; omega) ?_)))))
  (first | refine c151 a h ha hh ?_ | refine (c151 a h ha hh ?_).call)
  (repeat (first | refine And.intro (fun _ => ?_) (fun h => absurd h (by decide)) | refine And.intro (fun h => absurd h (by decide)) (fun _ => ?_) | refine Exists.intro _ (And.intro rfl ?_) | refine And.intro (by decide) ?_ | refine And.intro (by omega) ?_ | refine Or.inl (Exists.intro _ (And.intro rfl (And.intro (by unfold I64; omega) ?_)))))
  (first | refine c151 a h ha hh ?_ | refine (c151 a h ha hh ?_).call)
  refine And.intro (by omega) ⟨d, hd, ?_⟩
  clear hd
  have d1 : 0 ≤ d.tdiv h ∧ d.tdiv h ≤ 65 := ⟨Int.tdiv_nonneg hg.1 (by omega), by
    have := Int.tdiv_le_self h hg.1; omega⟩
  obtain ⟨e, he⟩ : ∃ e, a * h + 1 - 2 - d = e := ⟨_, rfl⟩
  have d2 : 0 ≤ e.tdiv h ∧ e.tdiv h ≤ 65 := ⟨Int.tdiv_nonneg (by omega) (by omega), by
    have := Int.tdiv_le_self h (a := e) (by omega); omega⟩
  rw [he]
  obtain ⟨q1, hq1⟩ : ∃ q, d.tdiv h = q := ⟨_, rfl⟩
  obtain ⟨q2, hq2⟩ : ∃ q, e.tdiv h = q := ⟨_, rfl⟩
  unfold porF
  rw [hq1, hq2]
  rw [hq1] at d1
  rw [hq2] at d2
  refine vcg_draw tok mx [0, 0, 2, 7, 0, 0, 32, 112, 255, 0, 0, 1024, 3584, 0, 8192, 24576, 0, 122880, 0, 262144, 1040384, 2096640, 25087, 8388607] [false, false, false, false, true, true, true, true, false, true, true, true, true, true, true, true, true, true, true, true, true, true, true, false] [0, 1, 2, 3, 4, 5, 6, 7, 8, 9, 10, 11, 12, 13, 16, 18, 19, 14, 15, 17, 20, 21, 22, 23] (by kernel_rfl) ?_
  refine vopsO_gen (fun K0 hK0 => ?_)
  refine And.intro (by decide) (Exists.intro _ (And.intro rfl ?_))
  refine Or.inl ⟨gx * a, rfl, by unfold I64; omega, ?_⟩
  refine And.intro (by decide) (Exists.intro _ (And.intro rfl ?_))
  refine And.intro (by omega) ?_
  refine Or.inl ⟨q1, hq1, by unfold I64; omega, ?_⟩
  refine Or.inl ⟨gx * a + q1, rfl, by unfold I64; omega, ?_⟩
  refine And.intro (by decide) (Exists.intro _ (And.intro rfl ?_))
  refine Or.inl ⟨gy * a, rfl, by unfold I64; omega, ?_⟩
  refine ⟨_, rfl, _, rfl, ?_⟩
  refine And.intro (by decide) (Exists.intro _ (And.intro rfl ?_))
  (first | refine c151 a h ha hh ?_ | refine (c151 a h ha hh ?_).call)
  refine Or.inl ⟨a * h + 1 - 2, rfl, by unfold I64; omega, ?_⟩
  refine Or.inl ⟨e, he, by unfold I64; omega, ?_⟩
  refine And.intro (by omega) ?_
  refine Or.inl ⟨q2, hq2, by unfold I64; omega, ?_⟩
  refine Or.inl ⟨gy * a + q2, rfl, by unfold I64; omega, ?_⟩
  refine hK0 _ _ ?_
  clear hK0 K0
  exact ⟨[], _, [], by simp, anch_of rfl, trivial, rfl, VRen.plain rfl, rfl, rfl⟩
end Go.Af.Tryz
namespace Go.Af.Tryz
open Go Go.Proofs
attribute [local irreducible] awp ACall ACallX AYield AInvoke

end Go.Af.Tryz
namespace Go.Af.Tryz
open Go Go.Proofs
attribute [local irreducible] awp ACall ACallX AYield AInvoke

theorem c159 {H : List Blk} {R : Value → List Blk → Prop} {a h gx gy d : Int} (ha : 1 ≤ a ∧ a ≤ 16) (hh : 1 ≤ h ∧ h ≤ 4) (h0 : 0 ≤ gx) (h1 : gx < a * h + 1) (h2 : 0 ≤ gy) (h3 : gy < a * h + 1) (hd : gapF a h gx gy = d) (hg : 0 ≤ d ∧ d ≤ a * h + 1 - 2)
    (hR : R (.tuple ⟨[.int .i64 (porF a h gx d), .int .i64 (porF a h gy (a * h + 1 - 2 - d))]⟩) H) : ACallX Tryz.prog 173 [twoV a h, .int .i64 gx, .int .i64 gy] H R :=
  acallx_s (l159 a h gx gy d ha hh h0 h1 h2 h3 hd hg) [] rfl (.cons lren_two (.cons (.int _ _) (.cons (.int _ _) .nil))) trivial rfl hR

theorem fly_grp {a h x : Int} (ha : 1 ≤ a) (hx : 0 ≤ x ∧ x < a * (a * h + 1)) : 0 ≤ x.tdiv a ∧ x.tdiv a < a * h + 1 := by
  refine ⟨Int.tdiv_nonneg hx.1 (by omega), ?_⟩
  rw [Int.tdiv_eq_ediv_of_nonneg hx.1]
  exact Int.ediv_lt_of_lt_mul (by omega) (by rw [Int.mul_comm]; exact hx.2)



end Go.Af.Tryz
