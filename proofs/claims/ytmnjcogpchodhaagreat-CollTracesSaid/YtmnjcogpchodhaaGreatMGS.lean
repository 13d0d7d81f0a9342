/-
  The library's sort, in place, at a row of numbers: by the kit's contract.
-/
import Derived.Test.YtmnjcogpchodhaaGreatMGG
import Derived.Shelf.Sort.Plain
set_option linter.all false
namespace Go.Proofs
open Go Go.RowKit Go.Sort Go.Shelf
end Go.Proofs
namespace Go.Af.Tryz
open Go Go.Proofs
set_option maxRecDepth 100000
set_option maxHeartbeats 4000000

section nil
attribute [local irreducible] awp qC vK vS vH
end nil

end Go.Af.Tryz
