/-
  Code that computes is sound: calls, regions, control.
-/
import Derived.Test.YtkmhpolbhjgpoaaE6
namespace Go.Af
open Go
variable {rd : Bool}
attribute [local irreducible] awp ACall ACallX AYield

structure EvOk (P : Program) (ev : Ev) : Prop where
  call : ∀ {lim f : Nat} {args : List Value} {B M : Tr EB} {n : Nat} {H : List Blk} {K : HK}, ev.call lim f args M n K = true → HOk B lim M n H → ACall P f args H (Aft B lim K)
  yld : ∀ {lim l : Nat} {args : List Value} {B M : Tr EB} {n : Nat} {H : List Blk} {K : HK}, ev.yld lim l args M n K = true → HOk B lim M n H → AYield P l args H (Aft B lim K)

theorem cOp_call {E : Env} {o : Op} {f : EV} {args : List EV} (h : cOp E o = .call f args) : ∃ c f', o = .call c ∧ c.callee = .value f' ∧ f = cv f' ∧ args = c.args.toList.map cv := by
  cases o with
  | slice t x lo hi mx => cases mx <;> simp only [cOp] at h <;> (repeat' split at h) <;> cases h
  | call c =>
    obtain ⟨callee, as, ats⟩ := c
    cases callee with
    | value f' => simp only [cOp] at h; cases h; exact ⟨_, f', rfl, rfl, rfl, rfl⟩
    | invoke r m => cases h
    | builtin b => cases b <;> simp only [cOp] at h <;> (repeat' split at h) <;> cases h
  | _ => simp only [cOp] at h <;> (repeat' split at h) <;> cases h
theorem cOp_inv {E : Env} {o : Op} {f : EV} {ms : List (Nat × Nat)} {args : List EV} (h : cOp E o = .inv f ms args) : ∃ c f' name, o = .call c ∧ c.callee = .invoke f' name ∧ f = cv f' ∧ ms = msF E.ms name ∧ args = c.args.toList.map cv := by
  cases o with
  | slice t x lo hi mx => cases mx <;> simp only [cOp] at h <;> (repeat' split at h) <;> cases h
  | call c =>
    obtain ⟨callee, as, ats⟩ := c
    cases callee with
    | value f' => cases h
    | invoke r m => simp only [cOp] at h; cases h; exact ⟨_, r, m, rfl, rfl, rfl, rfl, rfl⟩
    | builtin b => cases b <;> simp only [cOp] at h <;> (repeat' split at h) <;> cases h
  | _ => simp only [cOp] at h <;> (repeat' split at h) <;> cases h
theorem valX_op {E : Env} {o : Op} (h : valX (cOp E o) = true) : (valOp o || allocOp o) = true := by
  cases o <;> try rfl
  all_goals (simp only [cOp] at h; try (cases h; done))
  · split at h <;> cases h
  · rename_i c
    obtain ⟨callee, args, ats⟩ := c
    cases callee with
    | value f => cases h
    | invoke r m => cases h
    | builtin b => cases b <;> first | rfl | (simp only at h; (repeat' split at h) <;> cases h)

section
variable {P : Program} {E : Env} {ev : Ev} {B M : Tr EB} {lim n : Nat} {H : List Blk} {F : Tr Value} {sl : List (Nat × Value)} {K : HK} {K' : Value → List Blk → Prop}

theorem quiet_call (hev : EvOk P ev) (hh : HOk B lim M n H) {f : Nat} {args : List Value} (h : ev.call n f args M n K = true) : ACallX P f args H (Aft B lim K) :=
  acallx_quiet hh fun B' H' h' => hev.call h h'

theorem callV_spec (hs : SlOk F sl) {q : Bool} {f : Operand} {args : List Operand} (h : opE ev lim q (.call (cv f) (args.map cv)) F M n K = true) :
    ∃ fv as, Go.Af.ev sl f = some fv ∧ evs sl args = some as ∧
      ((∃ g first captured, fv = .func (.func g) first captured ∧ ev.call (Bool.rec lim n q) g (first.toList ++ (as ++ captured.toList)) M n K = true) ∨
       (∃ l first captured, fv = .func (.yield l) first captured ∧ first.toList = [] ∧ q = false ∧ ev.yld lim l as M n K = true)) := by
  simp only [opE] at h
  obtain ⟨fv, h1, h2⟩ := gv_spec hs h
  obtain ⟨as, h3, h4⟩ := gvs_spec hs h2
  refine ⟨fv, as, h1, h3, ?_⟩
  split at h4
  · rw [lapp_eq, lapp_eq] at h4
    exact .inl ⟨_, _, _, rfl, h4⟩
  · split at h4
    · rename_i hf
      cases q with
      | false => exact .inr ⟨_, _, _, rfl, hf, rfl, h4⟩
      | true => cases h4
    · cases h4
  · cases h4
theorem invV_spec (hs : SlOk F sl) {q : Bool} {r : Operand} {ms : List (Nat × Nat)} {args : List Operand} (h : opE ev lim q (.inv (cv r) ms (args.map cv)) F M n K = true) :
    ∃ t v as g, Go.Af.ev sl r = some (.iface t v) ∧ evs sl args = some as ∧ (t, g) ∈ ms ∧ ev.call (Bool.rec lim n q) g (v :: as) M n K = true := by
  simp only [opE] at h
  obtain ⟨rv, h1, h2⟩ := gv_spec hs h
  split at h2
  · obtain ⟨as, h3, h4⟩ := gvs_spec hs h2
    split at h4
    · rename_i g hg
      exact ⟨_, _, as, g, h1, h3, ndF_spec hg, h4⟩
    · cases h4
  · cases h2

theorem opE_eop {x : XO} {q : Bool} (hc : ∀ f args, x ≠ .call f args) (hi : ∀ f ms args, x ≠ .inv f ms args) (h : opE ev lim q x F M n K = true) : eop x lim F M n K = true ∧ (q = true → valX x = true) := by
  have h' : Bool.rec (motive := fun _ => Bool) (eop x lim F M n K) (Bool.rec (motive := fun _ => Bool) false (eop x lim F M n K) (valX x)) q = true := by
    cases x <;> first | exact absurd rfl (hc _ _) | exact absurd rfl (hi _ _ _) | exact h
  cases q with
  | false => exact ⟨h', fun h => by cases h⟩
  | true => obtain ⟨h1, h2⟩ := brT' h'; exact ⟨h2, fun _ => h1⟩

theorem AYield.mono {P : Program} {l : Nat} {args : List Value} {H : List Blk} {R R' : Value → List Blk → Prop} (h : AYield P l args H R) (hr : ∀ v H, R v H → R' v H) : AYield P l args H R' := by
  unfold AYield at *
  intro m argsR w r h1 h2 h3
  obtain ⟨nx, w1, k1, k2⟩ := h m argsR w r h1 h2 h3
  exact ⟨nx, w1, k1, k2.mono fun _ _ h => h.mono hr⟩
theorem opE_c (hE : EOk P E) (hev : EvOk P ev) (hs : SlOk F sl) (hh : HOk B lim M n H) (hK : ∀ v M' n' H', HOk B lim M' n' H' → K v M' n' = true → K' v H') {o : Op} (h : opE ev lim false (cOp E o) F M n K = true) : cstep P E.T o sl H K' := by
  have aft : ∀ v H', Aft B lim K v H' → K' v H' := fun v H' ⟨M', n', h1, h2⟩ => hK v M' n' H' h1 h2
  by_cases hcall : ∃ f args, cOp E o = .call f args
  · obtain ⟨f, args, he⟩ := hcall
    obtain ⟨c, f', rfl, hc, rfl, rfl⟩ := cOp_call he
    rw [he] at h
    obtain ⟨fv, as, h1, h2, h3⟩ := callV_spec hs h
    simp only [cstep, hc, h1, h2]
    rcases h3 with ⟨g, first, captured, rfl, h4⟩ | ⟨l, first, captured, rfl, hf, _, h4⟩
    · exact (hev.call h4 hh).mono aft
    · simp only [AVal, hf]; exact (hev.yld h4 hh).mono aft
  by_cases hinv : ∃ f ms args, cOp E o = .inv f ms args
  · obtain ⟨f, ms, args, he⟩ := hinv
    obtain ⟨c, f', name, rfl, hc, rfl, rfl, rfl⟩ := cOp_inv he
    rw [he] at h
    obtain ⟨t, v, as, g, h1, h2, h3, h4⟩ := invV_spec hs h
    simp only [cstep, hc, h1, h2]
    obtain ⟨m, h5, h6⟩ := msF_spec h3
    exact ⟨g, fun v w => hE.ms name m h5 t g h6 v w, (hev.call h4 hh).mono aft⟩
  obtain ⟨h1, _⟩ := opE_eop (fun f args he => hcall ⟨f, args, he⟩) (fun f ms args he => hinv ⟨f, ms, args, he⟩) h
  have := eop_ok hE hs hh hK h1
  cases o with
  | call c =>
    obtain ⟨callee, args, ats⟩ := c
    cases callee with
    | value f => exact absurd ⟨_, _, rfl⟩ hcall
    | invoke r m => exact absurd ⟨_, _, _, rfl⟩ hinv
    | builtin b => exact this
  | _ => exact this

theorem opE_x (hE : EOk P E) (hev : EvOk P ev) (hs : SlOk F sl) (hh : HOk B lim M n H) (hK : ∀ v M' n' H', HOk B lim M' n' H' → K v M' n' = true → K' v H') {o : Op} (h : opE ev lim true (cOp E o) F M n K = true) : xstep P E.T o sl H K' := by
  have aft : ∀ v H', Aft B lim K v H' → K' v H' := fun v H' ⟨M', n', h1, h2⟩ => hK v M' n' H' h1 h2
  by_cases hcall : ∃ f args, cOp E o = .call f args
  · obtain ⟨f, args, he⟩ := hcall
    obtain ⟨c, f', rfl, hc, rfl, rfl⟩ := cOp_call he
    rw [he] at h
    obtain ⟨fv, as, h1, h2, h3⟩ := callV_spec hs h
    simp only [xstep, hc, h1, h2]
    rcases h3 with ⟨g, first, captured, rfl, h4⟩ | ⟨l, first, captured, rfl, hf, hq, h4⟩
    · exact (quiet_call hev hh h4).mono aft
    · cases hq
  by_cases hinv : ∃ f ms args, cOp E o = .inv f ms args
  · obtain ⟨f, ms, args, he⟩ := hinv
    obtain ⟨c, f', name, rfl, hc, rfl, rfl, rfl⟩ := cOp_inv he
    rw [he] at h
    obtain ⟨t, v, as, g, h1, h2, h3, h4⟩ := invV_spec hs h
    simp only [xstep, hc, h1, h2]
    obtain ⟨m, h5, h6⟩ := msF_spec h3
    exact ⟨g, fun v w => hE.ms name m h5 t g h6 v w, (quiet_call hev hh h4).mono aft⟩
  obtain ⟨h1, h2⟩ := opE_eop (fun f args he => hcall ⟨f, args, he⟩) (fun f ms args he => hinv ⟨f, ms, args, he⟩) h
  have hst := eop_ok hE hs hh hK h1
  have hv := valX_op (h2 rfl)
  cases o with
  | call c =>
    obtain ⟨callee, args, ats⟩ := c
    cases callee with
    | value f => exact absurd ⟨_, _, rfl⟩ hcall
    | invoke r m => exact absurd ⟨_, _, _, rfl⟩ hinv
    | builtin b =>
      have hv' : valOp (.call ⟨.builtin b, args, ats⟩) = true := by simpa [allocOp] using hv
      simp only [xstep, hv']; exact hst
  | _ => first | (simp only [xstep, hv]; exact hst) | cases hv

theorem stepE_ok (hE : EOk P E) (hev : EvOk P ev) (hs : SlOk F sl) (hh : HOk B lim M n H) (hK : ∀ v M' n' H', HOk B lim M' n' H' → K v M' n' = true → K' v H') {o : Op} {q : Bool} (h : opE ev lim q (cOp E o) F M n K = true) : stepQ P E.T q o sl H K' := by
  cases q with
  | false => exact opE_c hE hev hs hh hK h
  | true => exact opE_x hE hev hs hh hK h

/-! ### Monotone conditions -/
end
end Go.Af
