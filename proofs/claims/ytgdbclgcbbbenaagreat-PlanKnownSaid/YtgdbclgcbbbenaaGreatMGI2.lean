/-
  The origins of a trace are processes: plainly.
-/
import Derived.Test.YtgdbclgcbbbenaaGreatMGI
set_option linter.all false
namespace Go.Af.Tryz.Co
open Go Go.Proofs
open Go.Af.Coll (St)
set_option maxRecDepth 100000
set_option maxHeartbeats 4000000

end Go.Af.Tryz.Co
