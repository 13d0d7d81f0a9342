/-
  A function: from its code to its call.
-/
import Derived.Test.YtkmhpolbhjgpoaaA14
namespace Go.Af
open Go
set_option linter.unusedSimpArgs false

/-- The calls deferred by ranges over functions (there are none) are taken when the function returns. -/
def resK (T : TT) (sl : List (Nat × Value)) (H : List Blk) : List ResultVar → (List Value → Prop) → Prop
  | [], K => K []
  | .tmp t :: r, K => match look sl t with
    | some v => resK T sl H r (fun vs => K (v :: vs))
    | none => False
  | .cell a t :: r, K => match tget T t with
    | some i => match look sl a with
      | some (.pointer (some ⟨b, o, none⟩)) => match bget H b with
        | some (.cells _ _ vs) => match i.kind.agg with
          | true => segK vs o i.size (fun seg => resK T sl H r (fun us => K (.agg ⟨seg⟩ :: us)))
          | false => Ld vs o (fun v => resK T sl H r (fun us => K (v :: us)))
        | _ => False
      | _ => False
    | none => False

def resV : List Value → Value
  | [v] => v
  | vs => .tuple ⟨vs⟩

/-- What a function's end is asked: its results, and what becomes of the heap. -/
def bodyQ (T : TT) (rs : List ResultVar) (R : Value → List Blk → Prop) (e : Ex) (a : AF) (H : List Blk) : Prop :=
  match e with
  | .exit _ => False
  | _ => resK T a.sl H rs (fun vs => R (resV vs) H)

section
variable {P : Program}

theorem st_take {fr : Frame} {cs : List Frame} {w : World} {r : Nat} {ds : List Deferred} (hm : fr.mode = .returning) (hd : fr.defers = { target := .collected r, args := #[] } :: ds) (hw : w.heap[r]? = some (.deferred (some []))) :
    step P (lone fr cs w) = .next (lone { fr with defers := ds } cs { w with heap := w.heap.setIfInBounds r (.deferred none) }) := by
  have hr : (Instr.takeDeferred r).run P w = .ok [] { w with heap := w.heap.setIfInBounds r (.deferred none) } := by
    simp [Instr.takeDeferred, getObj, setObj, Sem.run, hw]
  refine step_lone_go ?_
  simp only [stepG, hm]
  simp [unwind, hd, Sem.runT_eq, hr, hm]

theorem st_ret {b : FB} {a : Act} {k : List Item} {cs : List Frame} {w : World} (hb : b.roundOf = none) : step P (lone (b.at a (.code .ret :: k)) cs w) = .next (lone { b.at a (.code .ret :: k) with mode := .returning } cs w) :=
  step_lone_go (by simp [stepG, stepG.exec, FB.at, hb])
theorem st_end {b : FB} {a : Act} {cs : List Frame} {w : World} (hb : b.roundOf = none) : step P (lone (b.at a []) cs w) = .next (lone { b.at a [] with mode := .returning } cs w) :=
  step_lone_go (by simp [stepG, stepG.exec, FB.at, hb])

theorem HRel.setObj {m : LM} {H : List Blk} {w : World} (h : HRel m H w) {i r : Nat} (hi : m i = some (.obj r)) {b b' : Blk} (hb : H[i]? = some b) (hrw : b.isRw = true) {o : Obj} (hB : BRel m b' (.obj r) { w with heap := w.heap.setIfInBounds r o }) :
    HRel m (H.set i b') { w with heap := w.heap.setIfInBounds r o } ∧ Fr H.length m H w m (H.set i b') { w with heap := w.heap.setIfInBounds r o } := by
  have hir : locBlk (m i) = some r := by rw [hi]; rfl
  have hil := h.dom i _ hi
  have hot : ∀ r', r' ≠ r → ({ w with heap := w.heap.setIfInBounds r o } : World).heap[r']? = w.heap[r']? := fun r' hr' => by
    show (w.heap.setIfInBounds r o)[r']? = _
    rw [Array.getElem?_setIfInBounds]; simp [Ne.symm hr']
  refine ⟨⟨fun j l hj => by simpa using h.dom j l hj, fun j l b0 hj hd hb0 => ?_, fun j hj => ?_, fun j k r' b0 hj hb0 hw hk => ?_⟩, ⟨by simp, fun _ => by simp, fun _ _ _ h => .inl h, fun _ _ h => h, fun j _ b0 hb0 hr0 => ?_, fun r' hr hw => ⟨hot r' (fun e => hw ⟨i, _, by rw [hir, e], hb, hrw⟩), fun ⟨j, b0, k1, k2, k3⟩ => ?_⟩, ⟨rfl, rfl, rfl⟩⟩⟩
  · rw [List.getElem?_set] at hb0
    by_cases hij : i = j
    · subst hij
      rw [hi] at hj; cases hj
      simp [hil] at hb0; subst hb0
      exact hB
    · simp [hij] at hb0
      exact (h.blk j l b0 hj hd hb0).same (fun r' hr' => hot r' (fun e => hij (h.own i j r b hir hb hrw (by rw [hj, hr', e]))))
  · rw [List.getElem?_set]
    have : i ≠ j := fun e => by subst e; rw [hi] at hj; cases hj
    simp only [this, if_false]; exact h.dd j hj
  · rw [List.getElem?_set] at hb0
    by_cases hij : i = j
    · subst hij
      exact h.own i k r' b hj hb hrw hk
    · simp [hij] at hb0
      exact h.own j k r' b0 hj hb0 hw hk
  · rw [List.getElem?_set] at hb0
    by_cases hij : i = j
    · subst hij; exact ⟨_, hb, hrw⟩
    · simp [hij] at hb0; exact ⟨b0, hb0, hr0⟩
  · rw [List.getElem?_set] at k2
    by_cases hij : i = j
    · subst hij; exact hw ⟨i, _, k1, hb, hrw⟩
    · simp [hij] at k2; exact hw ⟨j, b0, k1, k2, k3⟩

theorem take_steps {m : LM} {H : List Blk} : ∀ (ds : List Deferred) {w : World} (_ : DfOk m H w ds) (fr : Frame) (_ : fr.mode = .returning) (_ : fr.defers = ds) (cs : List Frame),
    ∃ w', OutEq w w' ∧ w'.heap.size = w.heap.size ∧ (∀ r, (∀ d ∈ ds, d.target ≠ .collected r) → w'.heap[r]? = w.heap[r]?) ∧ Steps P (lone fr cs w) (lone { fr with defers := [] } cs w')
  | [], w, _, fr, hm, hf, cs => ⟨w, .refl _, rfl, fun _ _ => rfl, by rw [← hf]; exact .refl _ _⟩
  | d :: ds, w, ⟨⟨r, h1, h2, h3, h4⟩, h⟩, fr, hm, hf, cs => by
    have hds : DfOk m H { w with heap := w.heap.setIfInBounds r (.deferred none) } ds := by
      clear hf
      induction ds with
      | nil => exact trivial
      | cons e es ih =>
        obtain ⟨⟨q, g1, g2, g3, g4⟩, g⟩ := h
        refine ⟨⟨q, g1, ?_, g3, g4⟩, ih (fun d' hd' => h4 d' (by simp [hd'])) g⟩
        have : r ≠ q := fun e' => by subst e'; exact h4 e (by simp) (by rw [g1])
        show (w.heap.setIfInBounds r (.deferred none))[q]? = _
        rw [Array.getElem?_setIfInBounds]; simp [this, g2]
    obtain ⟨w', q0, q1, q2, q3⟩ := take_steps ds hds { fr with defers := ds } hm rfl cs
    refine ⟨w', (show OutEq w { w with heap := w.heap.setIfInBounds r (.deferred none) } from ⟨rfl, rfl, rfl⟩).trans q0, by simpa using q1, fun q hq => ?_, .head (st_take hm (by rw [hf, h1]) h2) (by simpa using q3)⟩
    rw [q2 q (fun d' hd' => hq d' (by simp [hd']))]
    have : r ≠ q := fun e => by subst e; exact hq d (by simp) (by rw [h1])
    show (w.heap.setIfInBounds r (.deferred none))[q]? = _
    rw [Array.getElem?_setIfInBounds]; simp [this]

theorem DfOk.own {m : LM} {H : List Blk} {w : World} : ∀ {ds : List Deferred} (_ : DfOk m H w ds) {d : Deferred} (_ : d ∈ ds), ∃ r, d.target = .collected r ∧ ¬ Wr m H r ∧ w.heap[r]? = some (.deferred (some []))
  | [], _, d, hd => by cases hd
  | e :: ds, ⟨⟨r, h1, h2, h3, _⟩, h⟩, d, hd => by
    rcases List.mem_cons.1 hd with rfl | hd
    · exact ⟨r, by rw [h1], h3, h2⟩
    · exact h.own hd

def resF (tmps : Array Value) : ResultVar → Sem Value
  | .tmp t => pure (tmps.getD t undef)
  | .cell a t => do loadVar t (← asAddr (tmps.getD a undef))
theorem results_eq (fn : Func) (tmps : Array Value) : results fn tmps = (do
    let vs ← fn.results.mapM (resF tmps)
    pure (if h : vs.size = 1 then vs[0] else .tuple vs)) := rfl

theorem res_run {T : TT} (hT : TOk P T) {m : LM} {H : List Blk} {w : World} (hh : HRel m H w) {sl : List (Nat × Value)} {tmps : Array Value} (hs : SlRel m sl tmps) : ∀ (rs : List ResultVar) {K : List Value → Prop} (_ : resK T sl H rs K),
    ∃ vs vsR : List Value, K vs ∧ LRel m vs vsR ∧ (rs.mapM (resF tmps)).run P w = .ok vsR w
  | [], K, h => ⟨[], [], h, .nil m, by simp⟩
  | .tmp t :: r, K, h => by
    simp only [resK] at h
    split at h
    · rename_i v hv
      obtain ⟨vs, vsR, h1, h2, h3⟩ := res_run hT hh hs r h
      obtain ⟨v', g1, g2⟩ := hs t v hv
      exact ⟨v :: vs, v' :: vsR, h1, .cons g2 h2, by simp only [List.mapM_cons, Sem.run_bind, Sem.run_pure, Result.andThen_ok, h3, resF]; simp [g1]⟩
    · exact h.elim
  | .cell a t :: r, K, h => by
    simp only [resK] at h
    split at h
    · rename_i i hi
      split at h
      · rename_i b o hv
        split at h
        · rename_i wr z vs0 hb
          obtain ⟨v', g1, g2⟩ := hs a _ hv
          obtain ⟨rr, sh, tot, esz, hm, hu, hb'⟩ := ptr_inv hh hb g2
          obtain ⟨v, vR, h1, h2, h3⟩ := run_loadVar hT hi hh hm hb' (K := fun v => resK T sl H r (fun us => K (v :: us))) h
          obtain ⟨vs, vsR, k1, k2, k3⟩ := res_run hT hh hs r h1
          refine ⟨v :: vs, vR :: vsR, k1, .cons h3 k2, ?_⟩
          have e : tmps.getD a undef = .pointer (some ⟨rr, sh + o, none⟩) := by simp [g1, hu]
          have ea : (asAddr (tmps.getD a undef)).run P w = .ok ⟨rr, sh + o, none⟩ w := by rw [e]; rfl
          simp only [List.mapM_cons, Sem.run_bind, Sem.run_pure, Result.andThen_ok, resF, ea, h2 w (.refl w), k3]
        · exact h.elim
      · exact h.elim
    · exact h.elim

theorem results_run {T : TT} (hT : TOk P T) {m : LM} {H : List Blk} {w : World} (hh : HRel m H w) {sl : List (Nat × Value)} {tmps : Array Value} (hs : SlRel m sl tmps) {fn : Func} {K : List Value → Prop} (h : resK T sl H fn.results.toList K) :
    ∃ vs vR, K vs ∧ VRel m (resV vs) vR ∧ (results fn tmps).run P w = .ok vR w := by
  obtain ⟨vs, vsR, h1, h2, h3⟩ := res_run hT hh hs _ h
  refine ⟨vs, if h : vsR.toArray.size = 1 then vsR.toArray[0] else .tuple vsR.toArray, h1, ?_, ?_⟩
  · match vs, vsR, h2 with
    | [], _, h2 => have := h2.inv_nil; subst this; exact .tuple' (.nil m)
    | [v], _, h2 =>
      obtain ⟨y, ys, rfl, g1, g2⟩ := h2.inv_cons
      have := g2.inv_nil; subst this
      simpa [resV] using g1
    | v :: u :: r, vsR, h2 =>
      have hl := h2.1
      simp at hl
      have : ¬ vsR.toArray.size = 1 := by simp; omega
      rw [dif_neg this]
      exact .tuple' (by simpa using h2)
  · rw [results_eq, Array.mapM_eq_mapM_toList]
    simp only [Sem.run_bind, Sem.run_map, h3, Result.andThen_ok, Sem.run_pure]

/-- The arguments' slots. -/
def argSl : List Value → Nat → List (Nat × Value)
  | [], _ => []
  | v :: r, i => (i, v) :: argSl r (i + 1)

theorem argSl_look : ∀ (args : List Value) (i s : Nat) (v : Value), look (argSl args i) s = some v → i ≤ s ∧ args[s - i]? = some v
  | [], _, _, _, h => by cases h
  | v :: r, i, s, u, h => by
    simp only [argSl, look] at h
    split at h
    · rename_i hk; cases h; have := Nat.eq_of_beq_eq_true hk; subst this; simp
    · obtain ⟨h1, h2⟩ := argSl_look r (i + 1) s u h
      refine ⟨by omega, ?_⟩
      have : s - i = (s - (i + 1)) + 1 := by omega
      rw [this]; simpa using h2

theorem body_returns {T : TT} (hT : TOk P T) {f : FuncId} {fn : Func} {c : Code} {args : List Value} {H : List Blk} {R : Value → List Blk → Prop} (hf : P.funcs[f]? = some fn) (hb : fn.body = some c) (hn : args.length ≤ fn.ntmps)
    (h : awp P false H.length c (bodyQ T fn.results.toList R) { n := fn.ntmps, sl := argSl args 0 } H) {m : LM} {argsR : Array Value} {w : World} (ha : LRel m args argsR.toList) (hh : HRel m H w) (cs : List Frame) :
    ∃ fr w' vR, fr.leaving P w' (.returned vR) ∧ fr.fn = f ∧ AppOut m H w R vR w' ∧ Steps P (lone (Frame.enter P f argsR .normal) cs w) (lone fr cs w') := by
  let b : FB := { fn := f, kind := .normal, roundOf := none }
  let a0 : Act := { tmps := argsR ++ Array.replicate (fn.ntmps - argsR.size) undef, defers := [] }
  have hsz : argsR.size = args.length := by have := ha.1; simpa using this.symm
  have henter : Frame.enter P f argsR .normal = b.at a0 [.code c] := by simp [Frame.enter, FB.at, hf, hb, b, a0]
  have hs0 : SRel m { n := fn.ntmps, sl := argSl args 0 } H a0 w := by
    refine ⟨by simp [a0]; omega, fun s v hv => ?_, trivial, hh⟩
    obtain ⟨_, hv⟩ := argSl_look args 0 s v hv
    obtain ⟨y, h1, h2⟩ := ha.getArr (by simpa using hv)
    exact ⟨y, by rw [Array.getElem?_append_left (Array.getElem?_eq_some_iff.1 h1).1]; exact h1, h2⟩
  obtain ⟨e, a', H', m', aR', w', hq, hs', hf', harr⟩ := h (Nat.le_refl _) m a0 w hs0 b [] cs (fun _ => rfl)
  rw [← henter] at harr
  have fin : ∀ (todo : List Item), Steps P (lone (Frame.enter P f argsR .normal) cs w) (lone { b.at aR' todo with mode := .returning } cs w') → resK T a'.sl H' fn.results.toList (fun vs => R (resV vs) H') →
      ∃ fr w' vR, fr.leaving P w' (.returned vR) ∧ fr.fn = f ∧ AppOut m H w R vR w' ∧ Steps P (lone (Frame.enter P f argsR .normal) cs w) (lone fr cs w') := by
    intro todo hst hq
    obtain ⟨w2, q0, q1, q2, q5⟩ := take_steps (P := P) aR'.defers hs'.df { b.at aR' todo with mode := .returning } rfl rfl cs
    obtain ⟨new, e1, e2⟩ := hf'.dn
    have e1' : aR'.defers = new := by simpa [a0] using e1
    have hsame : ∀ r, r < w.heap.size → w2.heap[r]? = w'.heap[r]? := fun r hr => q2 r fun d hd he => by
      have := e2 d (by rw [← e1']; exact hd) r he; omega
    have hown : ∀ i r, locBlk (m' i) = some r → w2.heap[r]? = w'.heap[r]? := fun i r hi => q2 r fun d hd he => by
      obtain ⟨r', g1, g2, g3⟩ := hs'.df.own hd
      rw [he] at g1; cases g1
      cases hmi : m' i with
      | none => rw [hmi] at hi; cases hi
      | some l =>
        have hl : l ≠ .dead := fun e => by subst e; rw [hmi] at hi; cases hi
        obtain ⟨bb, k1, k2⟩ := hs'.heap.get hmi hl
        by_cases hrw : bb.isRw = true
        · exact g2 ⟨i, bb, hi, k1, hrw⟩
        · rw [hmi] at hi
          cases l with
          | dead => exact hl rfl
          | obj q => cases bb with
            | map wr es c => simp only [locBlk] at hi; cases hi; obtain ⟨_, k3, _⟩ := k2; rw [g3] at k3; cases k3
            | cells wr z vs => exact k2.elim
            | ghost => simp only [locBlk] at hi; cases hi; obtain ⟨_, k3, k4⟩ := k2; rw [g3] at k3; cases k3; exact (k4 _ rfl).elim
            | dead => exact k2.elim
            | iter o => exact hrw rfl
            | loop => exact hrw rfl
            | defr => exact hrw rfl
          | cel q sh tot esz => cases bb with
            | cells wr z vs => simp only [locBlk] at hi; cases hi; obtain ⟨_, _, _, k3, _⟩ := k2; rw [g3] at k3; cases k3
            | map wr es c => exact k2.elim
            | ghost => exact k2.elim
            | dead => exact k2.elim
            | iter o => exact hrw rfl
            | loop => exact hrw rfl
            | defr => exact hrw rfl
    have hh2 : HRel m' H' w2 := hs'.heap.same hown
    obtain ⟨vs, vR, r1, r2, r3⟩ := results_run hT hh2 hs'.sl (fn := fn) hq
    refine ⟨_, w2, vR, ⟨rfl, rfl, rfl, fn, hf, r3⟩, rfl, ⟨_, H', m', r1, r2, hh2, ?_⟩, hst.trans q5⟩
    exact ⟨by rw [q1]; exact hf'.size, hf'.len, hf'.base, hf'.base', hf'.rw, fun r hr hw => ⟨by rw [hsame r hr]; exact (hf'.keep r hr hw).1, (hf'.keep r hr hw).2⟩, hf'.out.trans q0⟩
  cases e with
  | normal => exact fin [] (Steps.trans harr (.one (st_end rfl))) hq
  | exit id => exact hq.elim
  | ret => obtain ⟨k', hst⟩ := harr; exact fin _ (hst.trans (.one (st_ret rfl))) hq

/-- A FUNCTION's CALL, out of its code. -/
theorem acall_of {T : TT} (hT : TOk P T) {f : FuncId} {fn : Func} {c : Code} {args : List Value} {H : List Blk} {R : Value → List Blk → Prop} (hc : ∀ (as : Array Value) (w : World), (callFunc f as).run P w = .ok (.enter f as) w) (hf : P.funcs[f]? = some fn) (hb : fn.body = some c)
    (hn : args.length ≤ fn.ntmps) (h : awp P false H.length c (bodyQ T fn.results.toList R) { n := fn.ntmps, sl := argSl args 0 } H) : ACall P f args H R :=
  ⟨hc, fun m argsR w ha hh c cs => by
    obtain ⟨fr, w', vR, h1, _, h3, h4⟩ := body_returns hT hf hb hn h ha hh (c :: cs)
    exact ⟨vR, w', h3, h4.trans (.one (step_leave_returned h1))⟩⟩

/-- The same, in the house's own words. -/
theorem calls_of {T : TT} (hT : TOk P T) {f : FuncId} {fn : Func} {c : Code} {args : List Value} {H : List Blk} {R : Value → List Blk → Prop} (hf : P.funcs[f]? = some fn) (hb : fn.body = some c)
    (hn : args.length ≤ fn.ntmps) (h : awp P false H.length c (bodyQ T fn.results.toList R) { n := fn.ntmps, sl := argSl args 0 } H) {m : LM} {argsR : Array Value} {w : World} (ha : LRel m args argsR.toList) (hh : HRel m H w) :
    Calls P f argsR w fun e w' => ∃ vR, e = .returned vR ∧ AppOut m H w R vR w' := fun cs => by
  obtain ⟨fr, w', vR, h1, h2, h3, h4⟩ := body_returns hT hf hb hn h ha hh cs
  exact ⟨.returned vR, w', fr, ⟨vR, rfl, h3⟩, h4, h2, h1⟩

/-- A contract in the house's words serves as one of ours. -/
theorem Enters.of_calls {f : FuncId} {argsR : Array Value} {w : World} {R : Value → World → Prop} (h : Calls P f argsR w fun e w' => ∃ vR, e = .returned vR ∧ R vR w') : Enters P (Frame.enter P f argsR .normal) w R := fun c cs => by
  obtain ⟨e, w', fr, ⟨vR, rfl, hR⟩, h4, h2, h1⟩ := h (c :: cs)
  exact ⟨vR, w', hR, Steps.trans h4 (.one (step_leave_returned h1))⟩

end
end Go.Af
