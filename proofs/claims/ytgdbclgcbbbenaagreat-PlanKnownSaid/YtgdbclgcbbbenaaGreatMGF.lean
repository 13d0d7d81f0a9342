/-
  What a process must have in the end: copies and joins are added.
  Where the copies come from.
  What a process must have in the end.
-/
import Derived.Test.YtgdbclgcbbbenaaGreatMGE
set_option linter.all false
namespace Go.Af.Tryz.Co
open Go Go.Proofs
set_option maxRecDepth 100000
set_option maxHeartbeats 4000000
attribute [local irreducible] awp qi qw qH qy qx isCells qo qj qI qG ql roundEnd

structure Fi where
 s:Int
 r:Int
 f:Int
 u:Int
end Go.Af.Tryz.Co
namespace Go.Af.Tryz.Co
open Go Go.Proofs
set_option maxRecDepth 100000
set_option maxHeartbeats 4000000
attribute [local irreducible] awp qi qw qH qy qx isCells qo qj qI qG ql roundEnd

end Go.Af.Tryz.Co
namespace Go.Af.Tryz.Co
open Go Go.Proofs
set_option maxRecDepth 100000
set_option maxHeartbeats 4000000
attribute [local irreducible] awp qi qw qH qy qx isCells qo qj qI qG ql roundEnd

section
variable {P:Program} {T' : TT}
end
end Go.Af.Tryz.Co
