/-
  The examples of the chapter that every statement contains hold: the computing machine runs them.
-/
import Derived.Test.YtkmhpolbhjgpoaaW9
namespace Go.Af.Try.W
open Go Go.Proofs
theorem works_run : (evN FNt EE 100).call 0 12 [] .e 0 (fun v _ _ => match v with | .bool b => b | _ => false) = true := by kernel_rfl
theorem works : ACall Try.prog 12 [] [] (fun v H => v = .bool true ∧ H = []) :=
  acall_drop ((run_ok fok eok mx works_run).mono fun v H h => by
    split at h
    · rename_i b; subst h
      exact ⟨[], .bool true, [], by simp, anch_of rfl, trivial, rfl, VRen.plain rfl, rfl, rfl⟩
    · cases h)
end Go.Af.Try.W
