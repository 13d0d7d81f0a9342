/-
  Grids: the neighbours of a rank.
  Grids: the neighbours of a process, as the tasks ask for them.
-/
import Derived.Test.YtgdbclgcbbbenaaGreatMGD
set_option linter.all false
namespace Go.Af.Tryz.Co
open Go Go.Proofs
set_option maxRecDepth 100000
set_option maxHeartbeats 4000000
attribute [local irreducible] awp qi qw qH qy qx isCells qo qj qI qG ql roundEnd

end Go.Af.Tryz.Co
namespace Go.Af.Tryz.Co
open Go Go.Proofs
set_option maxRecDepth 100000
set_option maxHeartbeats 4000000
attribute [local irreducible] awp qi qw qH qy qx isCells qo qj qI qG ql roundEnd

end Go.Af.Tryz.Co
