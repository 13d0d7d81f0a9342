/-
  Prices, totals, and the error of a machine.
  The error of a machine (plan.Check).
  Two rows are equal (equal); the error of a machine, as the reference has it (armadaref10.Check).
-/
import Derived.Test.YtgdbclgcbbbenaaGreatMPB
import Derived.Test.YtgdbclgcbbbenaaGreatMCA
set_option linter.all false
namespace Go.Af.Tryz
open Go Go.Proofs Go.Af.Pl Co Ne
open Go.Af.Coll (St)
set_option maxRecDepth 100000
set_option maxHeartbeats 4000000
attribute [local irreducible] awp qi qw qH qy qx isCells qo qj qI qG ql roundEnd zD wS keyK vX zL xh

end Go.Af.Tryz
namespace Go.Af.Tryz
open Go Go.Proofs Go.Af.Pl Co Ne
open Go.Af.Coll (St)
set_option maxRecDepth 100000
set_option maxHeartbeats 4000000

def prE (m:Mc):Prop:=(m.st<0\/1000000<m.st)\/(m.hp<0\/1000000<m.hp)\/(m.wd<0\/1000000<m.wd)\/(m.jn<0\/1000000<m.jn)
instance (m:Mc):Decidable (prE m):=by unfold prE;infer_instance
attribute [local irreducible] awp qi qw qH qy qx isCells qo qj qI qG ql roundEnd zD wS keyK vX zL xh
end Go.Af.Tryz
namespace Go.Af.Tryz
open Go Go.Proofs Go.Af.Pl Co Ne
open Go.Af.Coll (St)
set_option maxRecDepth 100000
set_option maxHeartbeats 4000000
attribute [local irreducible] awp qi qw qH qy qx isCells qo qj qI qG ql roundEnd zD wS keyK vX zL xh
end Go.Af.Tryz
