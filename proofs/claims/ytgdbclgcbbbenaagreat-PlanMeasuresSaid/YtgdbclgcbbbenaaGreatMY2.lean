/-
  The law NetRoutes, as a call.
  How many links are across the standard sides. No program is in sight.
  Whether a network is small, and the snake as the program makes it.
  The snake, as the program makes it.
  The snake, place by place: how the reference goes on from one place to the next. No program is in sight.
  The snake, as the reference makes it.
  The snake's places are homes. No program is in sight.
-/
import Derived.Test.YtgdbclgcbbbenaaGreatMX
import Derived.Test.YtgdbclgcbbbenaaGreatMT3
import Derived.Test.YtgdbclgcbbbenaaGreatMY
import Derived.Test.YtgdbclgcbbbenaaGreatMU
import Derived.Test.YtgdbclgcbbbenaaGreatMC
set_option linter.all false
namespace Go.Af.Tryz.Ne
open Go Go.Proofs
attribute [local irreducible] awp qj qm qP qH

end Go.Af.Tryz.Ne
namespace Go.Af.Tryz.Ne
open Go

section
variable {g:List Int} {n:Nat}
end

/-! ### Fat trees and dragonflies,checked -/
end Go.Af.Tryz.Ne
namespace Go.Af.Tryz.Ne
open Go Go.Proofs
attribute [local irreducible] awp qj qm qP qH

end Go.Af.Tryz.Ne
namespace Go.Af.Tryz.Ne
open Go Go.Proofs
attribute [local irreducible] awp qj qm qP qH qJ isCells qA qx qZ

end Go.Af.Tryz.Ne
namespace Go.Af.Tryz.Ne
open Go

/-! ### The place and the directions -/
section
variable {g:List Int} {x:Nat}
end
end Go.Af.Tryz.Ne
namespace Go.Af.Tryz.Ne
open Go Go.Proofs
attribute [local irreducible] awp qj qm qP qH qJ isCells qA qx qZ

end Go.Af.Tryz.Ne
namespace Go.Af.Tryz.Ne
open Go

section
variable {g:List Int}
end
end Go.Af.Tryz.Ne
