/-
  The form of a schedule: the reference's Sound and Rounds.
-/
import Derived.Test.YtmnjcogpchodhaaGreatMGC
set_option linter.all false
namespace Go.Af.Tryz
open Go Go.Proofs
open Go.Af.Coll (St Ck lk upd zn emp sndP sndR xQ vz zX addF badP cmpF befF faultF twiceF busyF)
set_option maxRecDepth 100000
set_option maxHeartbeats 4000000
attribute [local irreducible] awp qB qM qO qK qx isCells qp qo qG qC qi roundEnd yj zl keyK vY

end Go.Af.Tryz
