/-
  slices.IndexFunc and slices.DeleteFunc of rows of integers, with a function that only reads.
  Hops and Distance, with their errors.
  Distances: there is one between all switches, the same both ways; a grid's is the sum of those along its sides. No program is in sight.
  The law NetMetric, as a call.
-/
import Derived.Test.YtjncbbdiejkalaaGreatMO
import Derived.Test.YtjncbbdiejkalaaGreatMX
import Derived.Test.YtjncbbdiejkalaaGreatMR
set_option linter.all false
namespace Go.Af.Tryz
open Go Go.Proofs
attribute [local irreducible] awp ACall ACallX AYield AInvoke newSlice isCells rdCells wrCells aAppend rangeEnd roundBegin roundEnd


end Go.Af.Tryz
namespace Go.Af.Tryz
open Go Go.Proofs
attribute [local irreducible] awp ACall ACallX AYield AInvoke newSlice isCells rdCells wrCells aAppend rangeEnd roundBegin roundEnd


end Go.Af.Tryz
namespace Go.Af.Tryz
open Go

end Go.Af.Tryz
namespace Go.Af.Tryz
open Go Go.Proofs
attribute [local irreducible] awp ACall ACallX AYield AInvoke newSlice isCells rdCells wrCells aAppend rangeEnd roundBegin roundEnd


end Go.Af.Tryz
