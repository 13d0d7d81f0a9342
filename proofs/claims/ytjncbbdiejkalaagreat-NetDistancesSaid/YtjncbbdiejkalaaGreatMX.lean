/-
  Routes in a dragonfly, as the reference finds them.
  Routes: what both sides come to. No program is in sight.
  Route and Classes, of both sides.
  Route and Classes, of both sides.
  Route and Classes of the reference.
  The law NetRoutes, as a call.
-/
import Derived.Test.YtjncbbdiejkalaaGreatMV
import Derived.Test.YtjncbbdiejkalaaGreatMC
import Derived.Test.YtjncbbdiejkalaaGreatMT
set_option linter.all false
namespace Go.Af.Tryz
open Go Go.Proofs
attribute [local irreducible] awp ACall ACallX AYield AInvoke

theorem l80 (kind hosts a h g e : Int) (ha : 1 ≤ a ∧ a ≤ 16) (hh : 1 ≤ h ∧ h ≤ 4) (hg : 0 ≤ g ∧ g ≤ 64) (he : 0 ≤ e ∧ e ≤ 64) : ACall Tryz.prog 111 [spV kind (sv 0 2) hosts, .int .i64 g, .int .i64 e] [ro [a, h]] (fun v H => v = .int .i64 (porF a h g e) ∧ H = [ro [a, h]]) := by
  have hm := mulb (a := g) (b := a) (A := 64) (B := 16) (by omega) (by omega) (by omega) (by omega)
  have h1 := Int.tdiv_nonneg he.1 (show 0 ≤ h by omega)
  have h2 := Int.tdiv_le_self h he.1
  refine acall_drop (acall_vcg tok Tryz.call111 Tryz.func111 rfl Tryz.ntmps111 rfl (by simp) ?_)
  (repeat (first | refine And.intro (fun _ => ?_) (fun h => absurd h (by decide)) | refine And.intro (fun h => absurd h (by decide)) (fun _ => ?_) | refine Exists.intro _ (And.intro rfl ?_) | refine And.intro (by decide) ?_ | refine And.intro (by omega) ?_ | refine Or.inl (Exists.intro _ (And.intro rfl (And.intro (by unfold I64; omega) ?_)))))
  refine vcg_draw tok mx [0, 0, 2, 6, 14, 31, 0, 0, 128, 384, 896, 1984, 4095, 8191] [false, false, false, false, false, false, true, true, true, true, true, true, false, false] [0, 1, 2, 3, 4, 5, 6, 7, 8, 9, 10, 11, 12, 13] (by kernel_rfl) ?_
  refine vopsO_gen (fun K0 hK0 => ?_)
  (repeat (first | refine And.intro (fun _ => ?_) (fun h => absurd h (by decide)) | refine And.intro (fun h => absurd h (by decide)) (fun _ => ?_) | refine Exists.intro _ (And.intro rfl ?_) | refine And.intro (by decide) ?_ | refine And.intro (by omega) ?_ | refine Or.inl (Exists.intro _ (And.intro rfl (And.intro (by unfold I64; omega) ?_))) | refine And.intro (show (_ : Nat) < _ from by simp) ?_))
  refine hK0 _ _ ?_
  exact ⟨[(0, 0)], _, [ro [a, h]], by simp, anch_of rfl, ⟨⟨_, rfl, BRen.ints _ _ _⟩, trivial⟩, rfl, VRen.plain rfl, rfl, rfl⟩
theorem c80 {H : List Blk} {R : Value → List Blk → Prop} {b : Nat} {wr : Bool} {kind hosts a h g e : Int} (ha : 1 ≤ a ∧ a ≤ 16) (hh : 1 ≤ h ∧ h ≤ 4) (hg : 0 ≤ g ∧ g ≤ 64) (he : 0 ≤ e ∧ e ≤ 64) (hb : bget H b = some (.cells wr 1 (ints [a, h]))) (hR : R (.int .i64 (porF a h g e)) H) :
    ACallX Tryz.prog 111 [spV kind (sv b 2) hosts, .int .i64 g, .int .i64 e] H R := acallx_sp (sides := [a, h]) rfl (l80 kind hosts a h g e ha hh hg he) hb (Nat.le_refl _) rfl hR

theorem por_grp {a h g d : Int} (ha : 1 ≤ a) (hh : 1 ≤ h) (hg : 0 ≤ g) (hd : 0 ≤ d ∧ d < a * h) : (porF a h g d).tdiv a = g := by
  unfold porF
  have h1 := Int.tdiv_nonneg hd.1 (show 0 ≤ h by omega)
  have h2 : d.tdiv h < a := by
    rw [Int.tdiv_eq_ediv_of_nonneg hd.1]
    exact Int.ediv_lt_of_lt_mul (by omega) hd.2
  have h3 := Int.mul_nonneg hg (show 0 ≤ a by omega)
  generalize d.tdiv h = q at *
  rw [Int.tdiv_eq_ediv_of_nonneg (by omega), Int.add_comm, Int.add_mul_ediv_right _ _ (by omega), Int.ediv_eq_zero_of_lt h1 h2, Int.zero_add]
end Go.Af.Tryz
namespace Go.Af.Tryz
open Go

theorem step_in {m d a : Int} (hm : 2 ≤ m) (hd : d = 1 ∨ d = -1) (h0 : 0 ≤ a) : 0 ≤ stepF m d a ∧ stepF m d a < m := by
  unfold stepF
  exact ⟨Int.tmod_nonneg _ (by omega), Int.tmod_lt_of_pos _ (by omega)⟩
theorem inn_len (g : List Int) (i : Nat) (m d : Int) : ∀ (k : Nat) (e : List Int) (c : Int) (p q : List Int), (inn g i m d k e c p q).2.1.length = p.length + k ∧ (inn g i m d k e c p q).2.2.length = q.length + k
  | 0, _, _, _, _ => ⟨rfl, rfl⟩
  | k + 1, e, c, p, q => by
    have := inn_len g i m d k (e.set i (stepF m d e[i]!)) (if stepF m d e[i]! - e[i]! ≠ d then 1 else c) (p ++ [numF g (e.set i (stepF m d e[i]!))]) (q ++ [if stepF m d e[i]! - e[i]! ≠ d then 1 else c])
    simp only [inn]
    rw [this.1, this.2]
    simp; omega
end Go.Af.Tryz
namespace Go.Af.Tryz
open Go Go.Proofs
attribute [local irreducible] awp ACall ACallX AYield AInvoke

/-! ### The reference's errors -/

def twF (o : Option Sh) (x y : Int) : Int := if isF o x = 0 then isF o y else isF o x
theorem l77 (kind hosts : Int) (sides : List Int) (x y : Int) : ACall Tryz.prog 44 [spV kind (sv 0 sides.length) hosts, .int .i64 x, .int .i64 y] [ro sides] (fun v H => v = .int .i64 (twF (shapeF kind sides hosts) x y) ∧ H = [ro sides]) := by
  refine acall_drop (acall_vcg tok Tryz.call44 Tryz.func44 rfl Tryz.ntmps44 rfl (by simp) ?_)
  (repeat (first | refine And.intro (fun _ => ?_) (fun h => absurd h (by decide)) | refine And.intro (fun h => absurd h (by decide)) (fun _ => ?_) | refine Exists.intro _ (And.intro rfl ?_) | refine And.intro (by decide) ?_ | refine And.intro (by omega) ?_ | refine Or.inl (Exists.intro _ (And.intro rfl (And.intro (by unfold I64; omega) ?_)))))
  (first | refine c63 rfl (Nat.le_refl _) ?_ | refine (c63 rfl (Nat.le_refl _) ?_).call)
  unfold twF
  generalize isF (shapeF kind sides hosts) x = e1
  (repeat (first | refine And.intro (fun _ => ?_) (fun h => absurd h (by decide)) | refine And.intro (fun h => absurd h (by decide)) (fun _ => ?_) | refine Exists.intro _ (And.intro rfl ?_) | refine And.intro (by decide) ?_ | refine And.intro (by omega) ?_ | refine Or.inl (Exists.intro _ (And.intro rfl (And.intro (by unfold I64; omega) ?_)))))
  refine And.intro (fun hc => ?_) (fun hc => ?_)
  · have hc : ¬ e1 = 0 := by simpa using hc
    rw [if_neg hc]
    (repeat (first | refine And.intro (fun _ => ?_) (fun h => absurd h (by decide)) | refine And.intro (fun h => absurd h (by decide)) (fun _ => ?_) | refine Exists.intro _ (And.intro rfl ?_) | refine And.intro (by decide) ?_ | refine And.intro (by omega) ?_ | refine Or.inl (Exists.intro _ (And.intro rfl (And.intro (by unfold I64; omega) ?_)))))
    refine ⟨[(0, 0)], _, [ro (sides)], by simp, anch_of rfl, ⟨⟨_, rfl, BRen.ints _ _ _⟩, trivial⟩, rfl, VRen.plain rfl, rfl, rfl⟩
  · have hc : e1 = 0 := by simpa using hc
    rw [if_pos hc]
    (repeat (first | refine And.intro (fun _ => ?_) (fun h => absurd h (by decide)) | refine And.intro (fun h => absurd h (by decide)) (fun _ => ?_) | refine Exists.intro _ (And.intro rfl ?_) | refine And.intro (by decide) ?_ | refine And.intro (by omega) ?_ | refine Or.inl (Exists.intro _ (And.intro rfl (And.intro (by unfold I64; omega) ?_)))))
    (first | refine c63 rfl (Nat.le_refl _) ?_ | refine (c63 rfl (Nat.le_refl _) ?_).call)
    generalize isF (shapeF kind sides hosts) y = e2
    (repeat (first | refine And.intro (fun _ => ?_) (fun h => absurd h (by decide)) | refine And.intro (fun h => absurd h (by decide)) (fun _ => ?_) | refine Exists.intro _ (And.intro rfl ?_) | refine And.intro (by decide) ?_ | refine And.intro (by omega) ?_ | refine Or.inl (Exists.intro _ (And.intro rfl (And.intro (by unfold I64; omega) ?_)))))
    refine ⟨[(0, 0)], _, [ro (sides)], by simp, anch_of rfl, ⟨⟨_, rfl, BRen.ints _ _ _⟩, trivial⟩, rfl, VRen.plain rfl, rfl, rfl⟩
theorem c77 {H : List Blk} {R : Value → List Blk → Prop} {b c : Nat} {wr : Bool} {kind hosts : Int} {sides : List Int} {x y : Int} (hb : bget H b = some (.cells wr 1 (ints sides))) (hl : sides.length ≤ c) (h : R (.int .i64 (twF (shapeF kind sides hosts) x y)) H) :
    ACallX Tryz.prog 44 [spV kind (.slice (some ⟨b, 0, none⟩) sides.length c) hosts, .int .i64 x, .int .i64 y] H R := acallx_sp rfl (l77 kind hosts sides x y) hb hl rfl h

theorem twF_some (s : Sh) (x y : Int) : twF (some s) x y = if 0 ≤ x ∧ x < s.sw then (if 0 ≤ y ∧ y < s.sw then 0 else 3) else 3 := by
  show (if (if 0 ≤ x ∧ x < s.sw then (0 : Int) else 3) = 0 then (if 0 ≤ y ∧ y < s.sw then (0 : Int) else 3) else (if 0 ≤ x ∧ x < s.sw then (0 : Int) else 3)) = _
  by_cases h1 : 0 ≤ x ∧ x < s.sw
  · rw [if_pos h1, if_pos rfl, if_pos h1]
  · rw [if_neg h1, if_neg (by decide), if_neg h1]
end Go.Af.Tryz
namespace Go.Af.Tryz
open Go Go.Proofs
attribute [local irreducible] awp ACall ACallX AYield AInvoke

end Go.Af.Tryz
namespace Go.Af.Tryz
open Go Go.Proofs
attribute [local irreducible] awp ACall ACallX AYield AInvoke

end Go.Af.Tryz
namespace Go.Af.Tryz
open Go Go.Proofs
attribute [local irreducible] awp ACall ACallX AYield AInvoke

end Go.Af.Tryz
