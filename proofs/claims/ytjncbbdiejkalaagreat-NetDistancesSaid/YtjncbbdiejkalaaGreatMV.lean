/-
  slices.Compact of a row of numbers.
  Routes in a dragonfly, as the program finds them.
-/
import Derived.Test.YtjncbbdiejkalaaGreatMU
import Derived.Test.YtjncbbdiejkalaaGreatMC
set_option linter.all false
namespace Go.Af.Tryz
open Go Go.Proofs
attribute [local irreducible] awp ACall ACallX AYield AInvoke


theorem c64' {H : List Blk} {R : Value → List Blk → Prop} {b : Nat} {wr : Bool} {kind hosts : Int} {g : List Int} {x : Int} (hg : ∀ m ∈ g, 2 ≤ m) (hl : g.length ≤ 1000) (hx : I64 x) (hb : bget H b = some (.cells wr 1 (ints g)))
    (h : bsnocK H 0 (rw' (coords g x)) (fun i H' => R (.slice (some ⟨i, 0, none⟩) g.length g.length) H')) : ACallX Tryz.prog 109 [spV kind (sv b g.length) hosts, .int .i64 x] H R := c64 hg hl hx hb (Nat.le_refl _) h





end Go.Af.Tryz
namespace Go.Af.Tryz
open Go Go.Proofs
attribute [local irreducible] awp ACall ACallX AYield AInvoke

/-- How far a group lies behind another one. -/
def gapF (a h gx gy : Int) : Int := (gy - gx - 1 + (a * h + 1)).tmod (a * h + 1)
def porF (a h g e : Int) : Int := g * a + e.tdiv h
theorem gap_in {a h gx gy : Int} (h0 : 0 ≤ gx) (h1 : gx < a * h + 1) (h2 : 0 ≤ gy) (h3 : gy < a * h + 1) (hne : gx ≠ gy) : 0 ≤ gapF a h gx gy ∧ gapF a h gx gy ≤ a * h + 1 - 2 := by
  unfold gapF
  rw [Int.tmod_eq_emod_of_nonneg (by omega)]
  by_cases h : gx < gy
  · rw [Int.add_emod_right, Int.emod_eq_of_lt (by omega) (by omega)]; omega
  · rw [Int.emod_eq_of_lt (by omega) (by omega)]; omega

theorem l159 (a h gx gy d : Int) (ha : 1 ≤ a ∧ a ≤ 16) (hh : 1 ≤ h ∧ h ≤ 4) (h0 : 0 ≤ gx) (h1 : gx < a * h + 1) (h2 : 0 ≤ gy) (h3 : gy < a * h + 1) (hd : gapF a h gx gy = d) (hg : 0 ≤ d ∧ d ≤ a * h + 1 - 2) : ACall Tryz.prog 173 [twoV a h, .int .i64 gx, .int .i64 gy] []
    (fun v H => v = .tuple ⟨[.int .i64 (porF a h gx d), .int .i64 (porF a h gy (a * h + 1 - 2 - d))]⟩ ∧ H = []) := by
  have hm := mulb (a := a) (b := h) (A := 16) (B := 4) (by omega) (by omega) (by omega) (by omega)
  have hx := mulb (a := gx) (b := a) (A := 65) (B := 16) (by omega) (by omega) (by omega) (by omega)
  have hy := mulb (a := gy) (b := a) (A := 65) (B := 16) (by omega) (by omega) (by omega) (by omega)
  refine acall_drop (acall_vcg tok Tryz.call173 Tryz.func173 rfl Tryz.ntmps173 rfl (by simp) ?_)
  refine vcg_draw tok mx [0, 0, 3, 7, 0, 16, 63, 0, 176, 511, 1023] [false, false, false, false, false, true, true, true, false, false, false] [0, 1, 2, 3, 4, 7, 5, 6, 8, 9, 10] (by kernel_rfl) ?_
  (repeat (first | refine And.intro (fun _ => ?_) (fun h => absurd h (by decide)) | refine And.intro (fun h => absurd h (by decide)) (fun _ => ?_) | refine Exists.intro _ (And.intro rfl ?_) | refine And.intro (by decide) ?_ | refine And.intro (by omega) ?_ | refine Or.inl (Exists.intro _ (And.intro rfl (And.intro (by unfold I64; omega) ?_)))))
  (first | refine c151 a h ha hh ?_ | refine (c151 a h ha hh ?_).call)
  (repeat (first | refine And.intro (fun _ => ?_) (fun h => absurd h (by decide)) | refine And.intro (fun h => absurd h (by decide)) (fun _ => ?_) | refine Exists.intro _ (And.intro rfl ?_) | refine And.intro (by decide) ?_ | refine And.intro (by omega) ?_ | refine Or.inl (Exists.intro _ (And.intro rfl (And.intro (by unfold I64; omega) ?_)))))
  (first | refine c151 a h ha hh ?_ | refine (c151 a h ha hh ?_).call)
  refine And.intro (by omega) ⟨d, hd, ?_⟩
  clear hd
  have d1 : 0 ≤ d.tdiv h ∧ d.tdiv h ≤ 65 := ⟨Int.tdiv_nonneg hg.1 (by omega), by
    have := Int.tdiv_le_self h hg.1; omega⟩
  obtain ⟨e, he⟩ : ∃ e, a * h + 1 - 2 - d = e := ⟨_, rfl⟩
  have d2 : 0 ≤ e.tdiv h ∧ e.tdiv h ≤ 65 := ⟨Int.tdiv_nonneg (by omega) (by omega), by
    have := Int.tdiv_le_self h (a := e) (by omega); omega⟩
  rw [he]
  obtain ⟨q1, hq1⟩ : ∃ q, d.tdiv h = q := ⟨_, rfl⟩
  obtain ⟨q2, hq2⟩ : ∃ q, e.tdiv h = q := ⟨_, rfl⟩
  unfold porF
  rw [hq1, hq2]
  rw [hq1] at d1
  rw [hq2] at d2
  refine vcg_draw tok mx [0, 0, 2, 7, 0, 0, 32, 112, 255, 0, 0, 1024, 3584, 0, 8192, 24576, 0, 122880, 0, 262144, 1040384, 2096640, 25087, 8388607] [false, false, false, false, true, true, true, true, false, true, true, true, true, true, true, true, true, true, true, true, true, true, true, false] [0, 1, 2, 3, 4, 5, 6, 7, 8, 9, 10, 11, 12, 13, 16, 18, 19, 14, 15, 17, 20, 21, 22, 23] (by kernel_rfl) ?_
  refine vopsO_gen (fun K0 hK0 => ?_)
  refine And.intro (by decide) (Exists.intro _ (And.intro rfl ?_))
  refine Or.inl ⟨gx * a, rfl, by unfold I64; omega, ?_⟩
  refine And.intro (by decide) (Exists.intro _ (And.intro rfl ?_))
  refine And.intro (by omega) ?_
  refine Or.inl ⟨q1, hq1, by unfold I64; omega, ?_⟩
  refine Or.inl ⟨gx * a + q1, rfl, by unfold I64; omega, ?_⟩
  refine And.intro (by decide) (Exists.intro _ (And.intro rfl ?_))
  refine Or.inl ⟨gy * a, rfl, by unfold I64; omega, ?_⟩
  refine ⟨_, rfl, _, rfl, ?_⟩
  refine And.intro (by decide) (Exists.intro _ (And.intro rfl ?_))
  (first | refine c151 a h ha hh ?_ | refine (c151 a h ha hh ?_).call)
  refine Or.inl ⟨a * h + 1 - 2, rfl, by unfold I64; omega, ?_⟩
  refine Or.inl ⟨e, he, by unfold I64; omega, ?_⟩
  refine And.intro (by omega) ?_
  refine Or.inl ⟨q2, hq2, by unfold I64; omega, ?_⟩
  refine Or.inl ⟨gy * a + q2, rfl, by unfold I64; omega, ?_⟩
  refine hK0 _ _ ?_
  clear hK0 K0
  exact ⟨[], _, [], by simp, anch_of rfl, trivial, rfl, VRen.plain rfl, rfl, rfl⟩
end Go.Af.Tryz
namespace Go.Af.Tryz
open Go Go.Proofs
attribute [local irreducible] awp ACall ACallX AYield AInvoke

/-- A list without a number that is equal to the one before. -/
def ddF (l : List Int) : List Int := l.foldl (fun acc x => if acc.getLast? = some x then acc else acc ++ [x]) []
theorem ddF_snoc (l : List Int) (x : Int) : ddF (l ++ [x]) = if (ddF l).getLast? = some x then ddF l else ddF l ++ [x] := by unfold ddF; rw [List.foldl_append]; rfl
theorem ddF_last (l : List Int) (x : Int) : (ddF (l ++ [x])).getLast? = some x := by
  rw [ddF_snoc]; split
  · assumption
  · simp
theorem ddF_takelast {l : List Int} {i : Nat} (h0 : 0 < i) (hi : i ≤ l.length) : (ddF (l.take i)).getLast? = some l[i - 1]! := by
  obtain ⟨i, rfl⟩ : ∃ j, i = j + 1 := ⟨i - 1, by omega⟩
  rw [List.take_succ_eq_append_getElem (by omega), ddF_last, Nat.add_sub_cancel, getElem!_pos l i (by omega)]
theorem seg_zero (t : List Int) (k : Nat) (hk : k ≤ t.length) : setSeg (ints t) k (zeroRep (t.length - k) [.int .i64 0]) = ints (t.take k ++ List.replicate (t.length - k) 0) := by
  show setSeg (ints t) k (List.replicate (t.length - k) (.int .i64 0)) = _
  rw [ints_replicate]
  have il : ∀ x : List Int, (ints x).length = x.length := fun x => by simp [ints]
  apply List.ext_getElem?
  intro i
  rw [setSeg_get _ _ _ _ (by rw [il, il]; simp; omega)]
  simp only [ints_get, il, List.getElem?_append, List.length_take, List.length_replicate]
  by_cases h1 : i < k
  · rw [if_neg (by omega), if_pos (by omega), List.getElem?_take, if_pos h1]
  · rw [if_neg (show ¬ i < min k t.length by omega)]
    by_cases h2 : i < t.length
    · rw [if_pos (by omega)]
      rw [List.getElem?_replicate, List.getElem?_replicate, if_pos (by omega), if_pos (by omega)]
    · rw [if_neg (by omega), List.getElem?_replicate, if_neg (by omega), List.getElem?_eq_none (by omega)]

end Go.Af.Tryz
namespace Go.Af.Tryz
open Go Go.Proofs
attribute [local irreducible] awp ACall ACallX AYield AInvoke

theorem c159 {H : List Blk} {R : Value → List Blk → Prop} {a h gx gy d : Int} (ha : 1 ≤ a ∧ a ≤ 16) (hh : 1 ≤ h ∧ h ≤ 4) (h0 : 0 ≤ gx) (h1 : gx < a * h + 1) (h2 : 0 ≤ gy) (h3 : gy < a * h + 1) (hd : gapF a h gx gy = d) (hg : 0 ≤ d ∧ d ≤ a * h + 1 - 2)
    (hR : R (.tuple ⟨[.int .i64 (porF a h gx d), .int .i64 (porF a h gy (a * h + 1 - 2 - d))]⟩) H) : ACallX Tryz.prog 173 [twoV a h, .int .i64 gx, .int .i64 gy] H R :=
  acallx_s (l159 a h gx gy d ha hh h0 h1 h2 h3 hd hg) [] rfl (.cons lren_two (.cons (.int _ _) (.cons (.int _ _) .nil))) trivial rfl hR

/-- The switches that a route may have. -/
def flyL (a h x g : Int) : List Int :=
  if x.tdiv a = g.tdiv a then [x, g] else [x, porF a h (x.tdiv a) (gapF a h (x.tdiv a) (g.tdiv a)), porF a h (g.tdiv a) (a * h + 1 - 2 - gapF a h (x.tdiv a) (g.tdiv a)), g]
def clsF (a i : Int) (p : List Int) : List Int := p.map fun y => if y.tdiv a = i then 0 else 1
def flyF (a h x g : Int) : List Int × List Int := (ddF (flyL a h x g), clsF a (x.tdiv a) (ddF (flyL a h x g)).dropLast)
theorem flyL_len (a h x g : Int) : 2 ≤ (flyL a h x g).length ∧ (flyL a h x g).length ≤ 4 := by unfold flyL; split <;> simp

theorem ddF_pos {l : List Int} (h : l ≠ []) : 1 ≤ (ddF l).length := by
  have h1 := ddF_takelast (l := l) (i := l.length) (by have := List.length_pos_iff.2 h; omega) (Nat.le_refl _)
  rw [List.take_length] at h1
  cases hd : ddF l with
  | nil => rw [hd] at h1; cases h1
  | cons x r => simp

theorem fly_grp {a h x : Int} (ha : 1 ≤ a) (hx : 0 ≤ x ∧ x < a * (a * h + 1)) : 0 ≤ x.tdiv a ∧ x.tdiv a < a * h + 1 := by
  refine ⟨Int.tdiv_nonneg hx.1 (by omega), ?_⟩
  rw [Int.tdiv_eq_ediv_of_nonneg hx.1]
  exact Int.ediv_lt_of_lt_mul (by omega) (by rw [Int.mul_comm]; exact hx.2)



end Go.Af.Tryz
