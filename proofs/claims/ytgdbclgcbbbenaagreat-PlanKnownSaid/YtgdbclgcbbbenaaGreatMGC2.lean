/-
  The form of a schedule: the reference's Sound and Rounds.
  The form of a schedule: the reference's Sound and Rounds; the law as a call.
-/
import Derived.Test.YtgdbclgcbbbenaaGreatMGC
set_option linter.all false
namespace Go.Af.Tryz.Co
open Go Go.Proofs
open Go.Af.Coll (St Ck lk upd zn emp sndP sndR xE vH zT addF badP cmpF befF faultF twiceF busyF)
set_option maxRecDepth 100000
set_option maxHeartbeats 4000000
attribute [local irreducible] awp qi qw qH qy qx isCells qo qj qI qG ql roundEnd zD wS keyK vX

end Go.Af.Tryz.Co
namespace Go.Af.Tryz.Co
open Go Go.Proofs
open Go.Af.Coll (Ck lk upd zn emp sndP sndR xE vH zT addF badP cmpF befF faultF twiceF busyF snd_eq Pst)
set_option maxRecDepth 100000
set_option maxHeartbeats 4000000
attribute [local irreducible] awp qi qw qH qy qx isCells qo qj qI qG ql roundEnd zD wS keyK vX

theorem snd_ref (t:Tk) (l:List Coll.St):sndP t.pr (sltF t) none emp l=sndR t.pr (sltF t) [] l:=snd_eq t.pr (sltF t) l [] emp ⟨rfl,rfl⟩
end Go.Af.Tryz.Co
