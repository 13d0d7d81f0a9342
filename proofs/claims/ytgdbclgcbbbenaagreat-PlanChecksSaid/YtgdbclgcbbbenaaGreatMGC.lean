/-
  A checker: fresh, takes; steps over its maps.
  The form of a schedule: the program's Sound.
  Schedules for the reference; rounds; what is examined.
-/
import Derived.Test.YtgdbclgcbbbenaaGreatMGB
set_option linter.all false
namespace Go.Af.Tryz.Co
open Go Go.Proofs
open Go.Af.Coll (St Ck lk upd takesF emp)
set_option maxRecDepth 100000
set_option maxHeartbeats 4000000
attribute [local irreducible] awp qo qA qN qI qG isCells qC qw qY ve qM roundEnd xK zN keyK wY

section
variable {H0 H:List Blk} {o:Nat->Prop} {L:List (Bool × Nat × Blk)}
end

/-! ### Schedules -/
abbrev schC (t:Tk) (alg:Int) (b c d n:Nat):List Value := [.int .i64 t.op, .int .i64 t.pr, .int .i64 t.ro, .int .i64 t.pa,sv b t.sz.length,sv c t.ws.length, .int .i64 alg,sv d n]
abbrev schV (t:Tk) (alg:Int) (b c d n:Nat):Value := .agg ⟨schC t alg b c d n⟩
structure Sts (H:List Blk) (l:List St) (d:Nat):Prop where
 s : ∃ w,bget H d=some (.cells w 6 (stsC l))
end Go.Af.Tryz.Co
namespace Go.Af.Tryz.Co
open Go Go.Proofs
open Go.Af.Coll (St Ck lk upd takesF emp sndP selfF roundF freshF addF badP cmpF befF)
set_option maxRecDepth 100000
set_option maxHeartbeats 4000000
attribute [local irreducible] awp qo qA qN qI qG isCells qC qw qY ve qM roundEnd xK zN keyK wY

end Go.Af.Tryz.Co
namespace Go.Af.Tryz.Co
open Go Go.Proofs
open Go.Af.Coll (St Ck lk upd takesF emp sndP selfF roundF freshF addF badP cmpF befF)
set_option maxRecDepth 100000
set_option maxHeartbeats 4000000
attribute [local irreducible] awp qo qA qN qI qG isCells qC qw qY ve qM roundEnd xK zN keyK wY

end Go.Af.Tryz.Co
