/-
  A checker: fresh, takes; steps over its maps.
  The form of a schedule: the program's Sound.
  Schedules for the reference; rounds; what is examined.
-/
import Derived.Test.YtmnjcogpchodhaaGreatMGB
set_option linter.all false
namespace Go.Af.Tryz
open Go Go.Proofs
open Go.Af.Coll (St Ck lk upd takesF emp)
set_option maxRecDepth 100000
set_option maxHeartbeats 4000000
attribute [local irreducible] awp qV vU vZ vW ve isCells qP qN vN vz qW roundEnd rdMap wrMap keyK xn

section
variable {H0 H : List Blk} {o : Nat→Prop} {L : List (Bool × Nat × Blk)}
end

/-! ### Schedules -/
abbrev schC (t : Tk) (alg : Int) (b c d n : Nat) : List Value := [.int .i64 t.op, .int .i64 t.pr, .int .i64 t.ro, .int .i64 t.pa,sv b t.sz.length,sv c t.ws.length, .int .i64 alg,sv d n]
abbrev schV (t : Tk) (alg : Int) (b c d n : Nat) : Value := .agg ⟨schC t alg b c d n⟩
end Go.Af.Tryz
namespace Go.Af.Tryz
open Go Go.Proofs
open Go.Af.Coll (St Ck lk upd takesF emp sndP selfF roundF freshF addF badP cmpF befF)
set_option maxRecDepth 100000
set_option maxHeartbeats 4000000
attribute [local irreducible] awp qV vU vZ vW ve isCells qP qN vN vz qW roundEnd rdMap wrMap keyK xn

end Go.Af.Tryz
namespace Go.Af.Tryz
open Go Go.Proofs
open Go.Af.Coll (St Ck lk upd takesF emp sndP selfF roundF freshF addF badP cmpF befF)
set_option maxRecDepth 100000
set_option maxHeartbeats 4000000
attribute [local irreducible] awp qV vU vZ vW ve isCells qP qN vN vz qW roundEnd rdMap wrMap keyK xn

theorem c14 {H : List Blk} {t : Tk} {b c : Nat} {m : Int} {R : Value→List Blk→Prop} (h : ∀ H',HS H none' [] H' → R (.bool (decide (t.sz.length≤10∧t.ws.length≤10∧(t.pr≤m∨64 < t.pr)))) H') : qV Tryz.prog 14 [tkV t b c, .int .i64 m] H R := by
  refine qJ tok Tryz.call14 Tryz.func14 rfl Tryz.ntmps14 rfl (by simp) ?_
  refine qI (HS.start H none') (fun H1 b1 e1 l1 hs=>?_)
  refine qO (fun _ hKs=>hKs _ _ ?_);clear hKs
  replace h := h H1 (qQ hs)
  repeat' (first|with_reducible (first|refine ql ?_|refine qo (fun K0 hK0=>?_)|refine qw ?_|refine qx ?_|refine qf ?_|refine qi ?_|refine qg ?_|refine qc ?_|refine qy (fun K0 hK0=>?_)|refine qB ?_|refine qH ?_|refine qp ?_|refine qG ?_|refine qA ?_|refine qj ?_|refine qh ?_|refine qC ?_|refine qE rfl ?_|refine qm rfl ?_)|refine aI (by decide) ?_|refine iS hs ?_|refine rS hs ?_|refine eI _ (aI rfl ?_)|refine cF (fun _=>?_)|refine cT (fun _=>?_)|refine aI (by omega) ?_|refine oJ ?_|refine qI hs (fun _ _ _ _ hs=>?_)|refine qF hs (fun _ _ _ _ hs=>?_)|refine sS hs 0 (fun _ _ hs=>?_)|refine sS hs 1 (fun _ _ hs=>?_)|refine sS hs 2 (fun _ _ hs=>?_)|((refine aI (fun hc=>?_) (fun hc=>?_)) <;> (try simp only [decide_eq_true_eq,decide_eq_false_iff_not,Bool.not_eq_true',Bool.not_eq_false',Bool.not_false,Bool.not_true,bne_iff_ne,ne_eq,Decidable.not_not,Int.not_lt,Int.not_le] at hc) <;> (try (exfalso;omega)))|refine rd ?_|(refine hK0 _ _ ?_;clear hK0)|fail)
  all_goals try (rw [decide_eq_true (by omega)] at h;exact h;done)
  all_goals try (rw [decide_eq_false (by omega)] at h;exact h;done)
  all_goals (
    first
      | (rw [show decide (t.sz.length≤10∧t.ws.length≤10∧(t.pr≤m∨64 < t.pr)) = decide (64 < t.pr) from decide_eq_decide.2 (by omega)] at h;exact h)
      | (rw [show decide (t.sz.length≤10∧t.ws.length≤10∧(t.pr≤m∨64 < t.pr)) = decide (t.pr > 64) from decide_eq_decide.2 (by omega)] at h;exact h))

end Go.Af.Tryz
