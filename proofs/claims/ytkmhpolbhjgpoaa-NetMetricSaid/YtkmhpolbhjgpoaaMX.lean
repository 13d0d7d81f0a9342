/-
  Routes in a dragonfly, as the reference finds them.
  Routes: what both sides come to. No program is in sight.
  Route and Classes, of both sides.
  Route and Classes, of both sides.
  Route and Classes of the reference.
  The law NetRoutes, as a call.
-/
import Derived.Test.YtkmhpolbhjgpoaaMV
import Derived.Test.YtkmhpolbhjgpoaaMC
import Derived.Test.YtkmhpolbhjgpoaaMT
set_option linter.all false
namespace Go.Af.Try
open Go Go.Proofs
attribute [local irreducible] awp ACall ACallX AYield AInvoke

theorem por_grp {a h g d : Int} (ha : 1 ≤ a) (hh : 1 ≤ h) (hg : 0 ≤ g) (hd : 0 ≤ d ∧ d < a * h) : (porF a h g d).tdiv a = g := by
  unfold porF
  have h1 := Int.tdiv_nonneg hd.1 (show 0 ≤ h by omega)
  have h2 : d.tdiv h < a := by
    rw [Int.tdiv_eq_ediv_of_nonneg hd.1]
    exact Int.ediv_lt_of_lt_mul (by omega) hd.2
  have h3 := Int.mul_nonneg hg (show 0 ≤ a by omega)
  generalize d.tdiv h = q at *
  rw [Int.tdiv_eq_ediv_of_nonneg (by omega), Int.add_comm, Int.add_mul_ediv_right _ _ (by omega), Int.ediv_eq_zero_of_lt h1 h2, Int.zero_add]
end Go.Af.Try
namespace Go.Af.Try
open Go

theorem step_in {m d a : Int} (hm : 2 ≤ m) (hd : d = 1 ∨ d = -1) (h0 : 0 ≤ a) : 0 ≤ stepF m d a ∧ stepF m d a < m := by
  unfold stepF
  exact ⟨Int.tmod_nonneg _ (by omega), Int.tmod_lt_of_pos _ (by omega)⟩
theorem inn_len (g : List Int) (i : Nat) (m d : Int) : ∀ (k : Nat) (e : List Int) (c : Int) (p q : List Int), (inn g i m d k e c p q).2.1.length = p.length + k ∧ (inn g i m d k e c p q).2.2.length = q.length + k
  | 0, _, _, _, _ => ⟨rfl, rfl⟩
  | k + 1, e, c, p, q => by
    have := inn_len g i m d k (e.set i (stepF m d e[i]!)) (if stepF m d e[i]! - e[i]! ≠ d then 1 else c) (p ++ [numF g (e.set i (stepF m d e[i]!))]) (q ++ [if stepF m d e[i]! - e[i]! ≠ d then 1 else c])
    simp only [inn]
    rw [this.1, this.2]
    simp; omega
end Go.Af.Try
namespace Go.Af.Try
open Go Go.Proofs
attribute [local irreducible] awp ACall ACallX AYield AInvoke

/-! ### The reference's errors -/

end Go.Af.Try
namespace Go.Af.Try
open Go Go.Proofs
attribute [local irreducible] awp ACall ACallX AYield AInvoke

end Go.Af.Try
namespace Go.Af.Try
open Go Go.Proofs
attribute [local irreducible] awp ACall ACallX AYield AInvoke

end Go.Af.Try
namespace Go.Af.Try
open Go Go.Proofs
attribute [local irreducible] awp ACall ACallX AYield AInvoke

end Go.Af.Try
