/-

-/
import Derived.Test.YtgdbclgcbbbenaaGreatMT
import Derived.Test.YtgdbclgcbbbenaaGreatMW
set_option linter.all false
namespace Go.Af.Tryz.Ne
open Go Go.Proofs
attribute [local irreducible] awp qj qm qP qH

end Go.Af.Tryz.Ne
