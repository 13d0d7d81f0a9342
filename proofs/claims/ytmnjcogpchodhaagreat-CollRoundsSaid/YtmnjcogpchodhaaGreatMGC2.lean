/-
  The form of a schedule: the reference's Sound and Rounds.
-/
import Derived.Test.YtmnjcogpchodhaaGreatMGC
set_option linter.all false
namespace Go.Af.Tryz
open Go Go.Proofs
open Go.Af.Coll (St Ck lk upd wU emp sndP sndR wV ve zg addF badP cmpF befF faultF twiceF busyF)
set_option maxRecDepth 100000
set_option maxHeartbeats 4000000
attribute [local irreducible] awp qy qJ qP qH qo isCells qg qc qA qx qf roundEnd rdMap xx keyK wJ

end Go.Af.Tryz
