/- A part of the proof. -/
import Derived.Test.YtmnjcogpchodhaaGreatMGC
import Derived.Test.YtmnjcogpchodhaaGreatMCA
set_option linter.all false
set_option maxHeartbeats 4000000
set_option maxRecDepth 100000
namespace Go.Af.Tryz
open Go Go.Proofs
open Go.Af.Coll (St Ck lk upd zh emp sndP sndR zF vK zJ addF badP cmpF befF yP zT QO)
attribute [local irreducible] awp qj qJ qL qC qo isCells qx qp qA qw qh roundEnd zG wX keyK vY

end Go.Af.Tryz
namespace Go.Af.Tryz
open Go Go.Proofs
open Go.Af.Coll (Ck lk upd zh emp sndP sndR zF vK zJ addF badP cmpF befF yP zT QO snd_eq Pst)
attribute [local irreducible] awp qj qJ qL qC qo isCells qx qp qA qw qh roundEnd zG wX keyK vY

theorem snd_ref (t:Tk) (l:List Coll.St):sndP t.pr (sltF t) none emp l=sndR t.pr (sltF t) [] l:=snd_eq t.pr (sltF t) l [] emp ⟨rfl,rfl⟩
end Go.Af.Tryz
