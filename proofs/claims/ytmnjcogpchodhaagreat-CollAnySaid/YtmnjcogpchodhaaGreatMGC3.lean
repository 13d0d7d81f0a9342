/-
  The form of a schedule: the reference's Sound and Rounds; the law as a call.
-/
import Derived.Test.YtmnjcogpchodhaaGreatMGC2
import Derived.Test.YtmnjcogpchodhaaGreatMWA
set_option linter.all false
namespace Go.Af.Tryz
open Go Go.Proofs
open Go.Af.Coll (Ck lk upd zn emp sndP sndR xQ vz zX addF badP cmpF befF faultF twiceF busyF snd_eq Pst)
set_option maxRecDepth 100000
set_option maxHeartbeats 4000000
attribute [local irreducible] awp qB qM qO qK qx isCells qp qo qG qC qi roundEnd yj zl keyK vY

theorem snd_ref (t:Tk) (l:List Coll.St):sndP t.pr (sltF t) none emp l=sndR t.pr (sltF t) [] l:=snd_eq t.pr (sltF t) l [] emp ⟨rfl,rfl⟩
end Go.Af.Tryz
