/-
  Routes in a dragonfly, as the reference finds them.
  Routes: what both sides come to. No program is in sight.
  Route and Classes, of both sides.
  Route and Classes, of both sides.
  Route and Classes of the reference.
  The law NetRoutes, as a call.
-/
import Derived.Test.YtkmhpolbhjgpoaaMV
import Derived.Test.YtkmhpolbhjgpoaaMC
import Derived.Test.YtkmhpolbhjgpoaaMT
set_option linter.all false
namespace Go.Af.Try
open Go Go.Proofs
attribute [local irreducible] awp ACall ACallX AYield AInvoke

theorem l80 (kind hosts a h g e : Int) (ha : 1 ≤ a ∧ a ≤ 16) (hh : 1 ≤ h ∧ h ≤ 4) (hg : 0 ≤ g ∧ g ≤ 64) (he : 0 ≤ e ∧ e ≤ 64) : ACall Try.prog 80 [spV kind (sv 0 2) hosts, .int .i64 g, .int .i64 e] [ro [a, h]] (fun v H => v = .int .i64 (porF a h g e) ∧ H = [ro [a, h]]) := by
  have hm := mulb (a := g) (b := a) (A := 64) (B := 16) (by omega) (by omega) (by omega) (by omega)
  have h1 := Int.tdiv_nonneg he.1 (show 0 ≤ h by omega)
  have h2 := Int.tdiv_le_self h he.1
  refine acall_drop (acall_vcg tok Try.call80 Try.func80 rfl Try.ntmps80 rfl (by simp) ?_)
  (repeat (first | refine And.intro (fun _ => ?_) (fun h => absurd h (by decide)) | refine And.intro (fun h => absurd h (by decide)) (fun _ => ?_) | refine Exists.intro _ (And.intro rfl ?_) | refine And.intro (by decide) ?_ | refine And.intro (by omega) ?_ | refine Or.inl (Exists.intro _ (And.intro rfl (And.intro (by unfold I64; omega) ?_)))))
  refine vcg_draw tok mx [0, 0, 2, 6, 14, 31, 0, 0, 128, 384, 896, 1984, 4095, 8191] [false, false, false, false, false, false, true, true, true, true, true, true, false, false] [0, 1, 2, 3, 4, 5, 6, 7, 8, 9, 10, 11, 12, 13] (by kernel_rfl) ?_
  refine vopsO_gen (fun K0 hK0 => ?_)
  (repeat (first | refine And.intro (fun _ => ?_) (fun h => absurd h (by decide)) | refine And.intro (fun h => absurd h (by decide)) (fun _ => ?_) | refine Exists.intro _ (And.intro rfl ?_) | refine And.intro (by decide) ?_ | refine And.intro (by omega) ?_ | refine Or.inl (Exists.intro _ (And.intro rfl (And.intro (by unfold I64; omega) ?_))) | refine And.intro (show (_ : Nat) < _ from by simp) ?_))
  refine hK0 _ _ ?_
  exact ⟨[(0, 0)], _, [ro [a, h]], by simp, anch_of rfl, ⟨⟨_, rfl, BRen.ints _ _ _⟩, trivial⟩, rfl, VRen.plain rfl, rfl, rfl⟩
theorem c80 {H : List Blk} {R : Value → List Blk → Prop} {b : Nat} {wr : Bool} {kind hosts a h g e : Int} (ha : 1 ≤ a ∧ a ≤ 16) (hh : 1 ≤ h ∧ h ≤ 4) (hg : 0 ≤ g ∧ g ≤ 64) (he : 0 ≤ e ∧ e ≤ 64) (hb : bget H b = some (.cells wr 1 (ints [a, h]))) (hR : R (.int .i64 (porF a h g e)) H) :
    ACallX Try.prog 80 [spV kind (sv b 2) hosts, .int .i64 g, .int .i64 e] H R := acallx_sp (sides := [a, h]) rfl (l80 kind hosts a h g e ha hh hg he) hb (Nat.le_refl _) rfl hR

end Go.Af.Try
namespace Go.Af.Try
open Go

theorem step_in {m d a : Int} (hm : 2 ≤ m) (hd : d = 1 ∨ d = -1) (h0 : 0 ≤ a) : 0 ≤ stepF m d a ∧ stepF m d a < m := by
  unfold stepF
  exact ⟨Int.tmod_nonneg _ (by omega), Int.tmod_lt_of_pos _ (by omega)⟩
end Go.Af.Try
namespace Go.Af.Try
open Go Go.Proofs
attribute [local irreducible] awp ACall ACallX AYield AInvoke

/-! ### The reference's errors -/

end Go.Af.Try
namespace Go.Af.Try
open Go Go.Proofs
attribute [local irreducible] awp ACall ACallX AYield AInvoke

end Go.Af.Try
namespace Go.Af.Try
open Go Go.Proofs
attribute [local irreducible] awp ACall ACallX AYield AInvoke

end Go.Af.Try
namespace Go.Af.Try
open Go Go.Proofs
attribute [local irreducible] awp ACall ACallX AYield AInvoke

end Go.Af.Try
