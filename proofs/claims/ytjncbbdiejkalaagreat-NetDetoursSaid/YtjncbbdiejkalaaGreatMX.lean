/-
  Routes in a dragonfly, as the reference finds them.
  Routes: what both sides come to. No program is in sight.
  Route and Classes, of both sides.
  Route and Classes, of both sides.
  Route and Classes of the reference.
  The law NetRoutes, as a call.
-/
import Derived.Test.YtjncbbdiejkalaaGreatMV
import Derived.Test.YtjncbbdiejkalaaGreatMC
import Derived.Test.YtjncbbdiejkalaaGreatMT
set_option linter.all false
namespace Go.Af.Tryz
open Go Go.Proofs
attribute [local irreducible] awp ACall ACallX AYield AInvoke

end Go.Af.Tryz
namespace Go.Af.Tryz
open Go

theorem step_in {m d a : Int} (hm : 2 ≤ m) (hd : d = 1 ∨ d = -1) (h0 : 0 ≤ a) : 0 ≤ stepF m d a ∧ stepF m d a < m := by
  unfold stepF
  exact ⟨Int.tmod_nonneg _ (by omega), Int.tmod_lt_of_pos _ (by omega)⟩
end Go.Af.Tryz
namespace Go.Af.Tryz
open Go Go.Proofs
attribute [local irreducible] awp ACall ACallX AYield AInvoke

/-! ### The reference's errors -/

end Go.Af.Tryz
namespace Go.Af.Tryz
open Go Go.Proofs
attribute [local irreducible] awp ACall ACallX AYield AInvoke

end Go.Af.Tryz
namespace Go.Af.Tryz
open Go Go.Proofs
attribute [local irreducible] awp ACall ACallX AYield AInvoke

end Go.Af.Tryz
namespace Go.Af.Tryz
open Go Go.Proofs
attribute [local irreducible] awp ACall ACallX AYield AInvoke

end Go.Af.Tryz
