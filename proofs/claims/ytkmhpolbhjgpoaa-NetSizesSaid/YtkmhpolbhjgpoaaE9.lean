/-
  Tables of functions.
-/
import Derived.Test.YtkmhpolbhjgpoaaE8
namespace Go.Af
open Go
structure FOk (P : Program) (f : Nat) (fi : FI) : Prop where
  ok : (∀ (as : Array Value) (w : World), (callFunc f as).run P w = .ok (.enter f as) w) ∧ ∃ fn, P.funcs[f]? = some fn ∧ fn.body = some fi.code ∧ fn.ntmps = fi.nt ∧ fn.results.toList = fi.res
noncomputable def fiOf (fn : Func) (dr : DT) : FI := ⟨fn.ntmps, fn.results.toList, (match fn.body with | some c => c | none => .skip), dr⟩
/-- All that stands in a trie. -/
def TrAll (p : Nat → FI → Prop) : (Nat → Nat) → Tr FI → Prop
  | _, .e => True
  | g, .n l v r => TrAll p (fun m => g (2 * m)) l ∧ (match v with | some x => p (g 1 - 1) x | none => True) ∧ TrAll p (fun m => g (2 * m + 1)) r
theorem TrAll.get {p : Nat → FI → Prop} : ∀ {t : Tr FI} {g : Nat → Nat} (_ : TrAll p g t) {q : Ps} {x : FI} (_ : t.get q = some x), p (g q.nat - 1) x
  | .e, g, h, q, x, hx => by cases q <;> cases hx
  | .n l v r, g, h, .h, x, hx => by have h2 := h.2.1; have hv : v = some x := hx; rw [hv] at h2; exact h2
  | .n l v r, g, h, .o q, x, hx => TrAll.get h.1 (q := q) hx
  | .n l v r, g, h, .i q, x, hx => TrAll.get h.2.2 (q := q) hx
theorem psOf_nat (n : Nat) : (psOf n).nat - 1 = n := by have := psGo_nat (n + 1) (n + 1) (by omega) (by omega); show (psGo (n + 1) (n + 1)).nat - 1 = n; omega
theorem fok_of {P : Program} {t : Tr FI} (h : TrAll (FOk P) (fun m => m) t) : FnOk P t := ⟨fun f fi hf => by have := h.get hf; rw [psOf_nat] at this; exact this.ok⟩
end Go.Af
