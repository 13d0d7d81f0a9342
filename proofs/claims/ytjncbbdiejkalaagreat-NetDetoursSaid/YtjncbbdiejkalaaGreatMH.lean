/-
  The sides of a network, handed out one by one: grids.
  The sides of a dragonfly and of a fat tree, handed out one by one.
  The sides of a fat tree, handed out one by one.
  The sides of a network, whatever its kind.
  The sides as rows.
-/
import Derived.Test.YtjncbbdiejkalaaGreatMG
set_option linter.all false
namespace Go.Af.Tryz
open Go Go.Proofs
attribute [local irreducible] awp ACall ACallX AYield AInvoke newSlice isCells rdCells wrCells aAppend

structure GS where
  H : List Blk
  o : Nat → Prop
  i : Nat

end Go.Af.Tryz
namespace Go.Af.Tryz
open Go Go.Proofs
attribute [local irreducible] awp ACall ACallX AYield AInvoke newSlice isCells rdCells wrCells aAppend





end Go.Af.Tryz
namespace Go.Af.Tryz
open Go Go.Proofs
attribute [local irreducible] awp ACall ACallX AYield AInvoke newSlice isCells rdCells wrCells aAppend





end Go.Af.Tryz
namespace Go.Af.Tryz
open Go Go.Proofs
attribute [local irreducible] awp ACall ACallX AYield AInvoke newSlice isCells rdCells wrCells aAppend

end Go.Af.Tryz
namespace Go.Af.Tryz
open Go Go.Proofs
attribute [local irreducible] awp ACall ACallX AYield AInvoke newSlice isCells rdCells wrCells aAppend rangeEnd roundBegin roundEnd


theorem bls_set {gs : List Bool} {i : Nat} {v : Bool} : setSeg (bls gs) (0 + i * 1) (cellsL (.bool v)) = bls (gs.set i v) := by
  rw [Nat.zero_add, Nat.mul_one]
  show (bls gs).set i (.bool v) = _
  simp [bls, List.map_set]

end Go.Af.Tryz
