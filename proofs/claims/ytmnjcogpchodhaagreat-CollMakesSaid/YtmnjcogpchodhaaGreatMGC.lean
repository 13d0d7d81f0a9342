/- A part of the proof. -/
import Derived.Test.YtmnjcogpchodhaaGreatMGB
import Derived.Test.YtmnjcogpchodhaaGreatMCA
set_option linter.all false
set_option maxHeartbeats 4000000
set_option maxRecDepth 100000
namespace Go.Af.Tryz
open Go Go.Proofs
open Go.Af.Coll (St Ck lk upd XV emp)
attribute [local irreducible] awp qj qI qK qE qm isCells ql qi qB qx qh roundEnd zG wZ keyK wE

section
variable {H0 H:List Blk} {o:Nat->Prop} {L:List (Bool × Nat × Blk)}
end

/-! ### Schedules -/
abbrev schC (t:Tk) (alg:Int) (b c d n:Nat):List Value := [.int .i64 t.op, .int .i64 t.pr, .int .i64 t.ro, .int .i64 t.pa,sv b t.sz.length,sv c t.ws.length, .int .i64 alg,sv d n]
abbrev schV (t:Tk) (alg:Int) (b c d n:Nat):Value := .agg ⟨schC t alg b c d n⟩
end Go.Af.Tryz
namespace Go.Af.Tryz
open Go Go.Proofs
open Go.Af.Coll (St Ck lk upd XV emp sndP zS0 UU Yw addF badP cmpF befF)
attribute [local irreducible] awp qj qI qK qE qm isCells ql qi qB qx qh roundEnd zG wZ keyK wE

end Go.Af.Tryz
namespace Go.Af.Tryz
open Go Go.Proofs Tryz
open Go.Af.Coll (St Ck lk upd XV emp sndP zS0 UU Yw addF badP cmpF befF)
attribute [local irreducible] awp qj qI qK qE qm isCells ql qi qB qx qh roundEnd zG wZ keyK wE

theorem c14 {H:List Blk} {t:Tk} {b c:Nat} {m:Int} {R:Value->List Blk->Prop} (h : ∀ H',HS H none' [] H' -> R (.bool (decide (t.sz.length<=10/\t.ws.length<=10/\(t.pr<=m\/64<t.pr)))) H'):qj prog 14 [tkV t b c, .int .i64 m] H R:=by
 refine avN call14 func14 ntmps14 ?_;refine qo (HS.start H none') (fun H1 b1 e1 l1 hs=>?_);refine qg (fun _ hKs=>hKs _ _ ?_);clear hKs
 replace h:=h H1 (qc hs)
 repeat' first|refine zTw ?_|intro _ _ hs|intro K0 hK0|intro hc|refine dI ?_ ?_|(refine hK0 _ _ ?_;clear hK0)
 all_goals try (rw[decide_eq_true (by omega)] at h;exact h;done)
 all_goals try (rw[decide_eq_false (by omega)] at h;exact h;done)
 all_goals (
  first
   | (rw[show decide (t.sz.length<=10/\t.ws.length<=10/\(t.pr<=m\/64<t.pr))=decide (64<t.pr) from decide_eq_decide.2 (by omega)] at h;exact h)
   | (rw[show decide (t.sz.length<=10/\t.ws.length<=10/\(t.pr<=m\/64<t.pr))=decide (t.pr > 64) from decide_eq_decide.2 (by omega)] at h;exact h))

end Go.Af.Tryz
