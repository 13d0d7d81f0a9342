/-
  What the steps of a round cost, as the reference counts: the same. No program is in sight.
  Rows of loads in memory: add, greatest (the reference's).
-/
import Derived.Test.YtgdbclgcbbbenaaGreatMPA
import Derived.Test.YtgdbclgcbbbenaaGreatMPD
set_option linter.all false
namespace Go.Af.Pl
open Go Go.Af
end Go.Af.Pl
namespace Go.Af.Tryz
open Go Go.Proofs Go.Af.Pl Co Ne
open Go.Af.Coll (St)
end Go.Af.Tryz
namespace Go.Af.Tryz
open Go Go.Proofs Go.Af.Pl Co Ne
set_option maxRecDepth 100000
set_option maxHeartbeats 4000000
attribute [local irreducible] awp qi qw qH qy qx isCells qo qj qI qG ql roundEnd zD wS keyK vX zL xh

def flC (O:List (List Int)):List Value:=O.flatMap ints
theorem flC_len {z:Nat} : ∀ {O:List (List Int)},(∀ x∈O,x.length=z)->(flC O).length=O.length*z
 | [],_=>by simp[flC]
 | x::O,h=>by
   have ih:=flC_len (O:=O) (fun y hy=>h y (List.mem_cons_of_mem _ hy))
   show (ints x++flC O).length=_
   rw[List.length_append,ih]
   simp[h x List.mem_cons_self,Nat.add_mul];omega
theorem flC_app (O P:List (List Int)):flC (O++P)=flC O++flC P:=List.flatMap_append
end Go.Af.Tryz
