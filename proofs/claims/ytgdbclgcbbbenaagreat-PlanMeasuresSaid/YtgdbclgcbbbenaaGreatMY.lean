/-
  Routes never go back to a channel of a lower rank. No program is in sight.
  The neighbours in a grid, handed out one by one.
  The neighbours in a fat tree, handed out one by one.
  The neighbours in a dragonfly, handed out one by one.
  The neighbours of a switch, whatever the network's kind.
  Neighbours: how many, and that they are switches. No program is in sight.
  How many channels cross from one side of a network to the other.
  How many channels a side is expected to have.
  The sides of a network, handed out one by one: grids.
  The sides of a dragonfly and of a fat tree, handed out one by one.
  The sides of a fat tree, handed out one by one.
  The sides of a network, whatever its kind.
  The sides as rows.
  How many sides there are. No program is in sight.
  Across a side there are as many channels as across its complement, if neighbours are symmetric. No program is in sight.
  Neighbours are symmetric if a table says so. No program is in sight.
  Neighbours in a grid are symmetric. No program is in sight.
  Neighbours are symmetric in fat trees and dragonflies with at most 64 switches: checked one by one. No program is in sight.
  When the reference calls two switches linked.
  The neighbours, and the links, as the reference lists them.
  Three more types.
-/
import Derived.Test.YtgdbclgcbbbenaaGreatMX
import Derived.Test.YtgdbclgcbbbenaaGreatMC
import Derived.Test.YtgdbclgcbbbenaaGreatMT3
import Derived.Test.YtgdbclgcbbbenaaGreatMCA
set_option linter.all false
namespace Go.Af.Tryz.Ne
open Go

/-! ### A torus -/

end Go.Af.Tryz.Ne
namespace Go.Af.Tryz.Ne
open Go Go.Proofs
attribute [local irreducible] awp qj qm qP qH qJ isCells qA qx qZ

end Go.Af.Tryz.Ne
namespace Go.Af.Tryz.Ne
open Go Go.Proofs
attribute [local irreducible] awp qj qm qP qH qJ isCells qA qx qZ

end Go.Af.Tryz.Ne
namespace Go.Af.Tryz.Ne
open Go Go.Proofs
attribute [local irreducible] awp qj qm qP qH qJ isCells qA qx qZ

end Go.Af.Tryz.Ne
namespace Go.Af.Tryz.Ne
open Go Go.Proofs
attribute [local irreducible] awp qj qm qP qH qJ isCells qA qx qZ

end Go.Af.Tryz.Ne
namespace Go.Af.Tryz.Ne
open Go

end Go.Af.Tryz.Ne
namespace Go.Af.Tryz.Ne
open Go Go.Proofs
attribute [local irreducible] awp qj qm qP qH qJ isCells qA qx qZ qX qI roundEnd

end Go.Af.Tryz.Ne
namespace Go.Af.Tryz.Ne
open Go Go.Proofs
attribute [local irreducible] awp qj qm qP qH

end Go.Af.Tryz.Ne
namespace Go.Af.Tryz.Ne
open Go Go.Proofs
attribute [local irreducible] awp qj qm qP qH qJ isCells qA qx qZ

end Go.Af.Tryz.Ne
namespace Go.Af.Tryz.Ne
open Go Go.Proofs
attribute [local irreducible] awp qj qm qP qH qJ isCells qA qx qZ





end Go.Af.Tryz.Ne
namespace Go.Af.Tryz.Ne
open Go Go.Proofs
attribute [local irreducible] awp qj qm qP qH qJ isCells qA qx qZ





end Go.Af.Tryz.Ne
namespace Go.Af.Tryz.Ne
open Go Go.Proofs
attribute [local irreducible] awp qj qm qP qH qJ isCells qA qx qZ

end Go.Af.Tryz.Ne
namespace Go.Af.Tryz.Ne
open Go Go.Proofs
attribute [local irreducible] awp qj qm qP qH qJ isCells qA qx qZ qX qI roundEnd


end Go.Af.Tryz.Ne
namespace Go.Af.Tryz.Ne
open Go

end Go.Af.Tryz.Ne
namespace Go.Af.Tryz.Ne
open Go

end Go.Af.Tryz.Ne
namespace Go.Af.Tryz.Ne
open Go

end Go.Af.Tryz.Ne
namespace Go.Af.Tryz.Ne
open Go

end Go.Af.Tryz.Ne
namespace Go.Af.Tryz.Ne
open Go

end Go.Af.Tryz.Ne
namespace Go.Af.Tryz.Ne
open Go Go.Proofs
attribute [local irreducible] awp qj qm qP qH

end Go.Af.Tryz.Ne
namespace Go.Af.Tryz.Ne
open Go Go.Proofs
attribute [local irreducible] awp qj qm qP qH qJ isCells qA qx qZ

end Go.Af.Tryz.Ne
namespace Go.Af.Tryz.Ne
open Go Go.Proofs
end Go.Af.Tryz.Ne
