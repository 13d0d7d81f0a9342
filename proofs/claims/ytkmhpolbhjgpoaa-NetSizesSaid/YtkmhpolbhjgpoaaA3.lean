/-
  Code over the abstract heap: the judgement, and the rules of control.
-/
import Derived.Test.YtkmhpolbhjgpoaaA2
namespace Go.Af
open Go
variable {rd : Bool}

/-- What stays of a frame while its code runs. -/
structure FB where
  fn : FuncId
  kind : CallKind
  roundOf : Option Nat

def FB.at (b : FB) (a : Act) (todo : List Item) : Frame := { fn := b.fn, tmps := a.tmps, todo, defers := a.defers, mode := .run, kind := b.kind, roundOf := b.roundOf }

theorem FB.eval (b : FB) (a : Act) (todo : List Item) : (b.at a todo).eval = a.eval := by funext x; cases x <;> rfl

section steps
variable {P : Program} {b : FB} {a : Act} {k : List Item} {cs : List Frame} {w : World}
theorem st_skip : step P (lone (b.at a (.code .skip :: k)) cs w) = .next (lone (b.at a k) cs w) := step_lone_go (by simp [stepG, stepG.exec, FB.at])
theorem st_inBlock {id : Nat} : step P (lone (b.at a (.inBlock id :: k)) cs w) = .next (lone (b.at a k) cs w) := step_lone_go (by simp [stepG, stepG.exec, FB.at])
theorem st_inScope {c : Code} : step P (lone (b.at a (.inScope c :: k)) cs w) = .next (lone (b.at a k) cs w) := step_lone_go (by simp [stepG, stepG.exec, FB.at])
theorem st_seq {x y : Code} : step P (lone (b.at a (.code (.seq x y) :: k)) cs w) = .next (lone (b.at a (.code x :: .code y :: k)) cs w) := step_lone_go (by simp [stepG, stepG.exec, FB.at])
theorem st_cond {c : Operand} {x y : Code} {t : Bool} (h : a.eval c = .bool t) :
    step P (lone (b.at a (.code (.cond c x y) :: k)) cs w) = .next (lone (b.at a (.code (if t then x else y) :: k)) cs w) :=
  step_lone_go (by
    have := congrFun (FB.eval b a (.code (.cond c x y) :: k)) c
    simp only [FB.at] at this
    simp [stepG, stepG.exec, FB.at, this, h])
theorem st_block {id : Nat} {c : Code} : step P (lone (b.at a (.code (.block id c) :: k)) cs w) = .next (lone (b.at a (.code c :: .inBlock id :: k)) cs w) := step_lone_go (by simp [stepG, stepG.exec, FB.at])
theorem st_scope {c : Code} : step P (lone (b.at a (.code (.scope c) :: k)) cs w) = .next (lone (b.at a (.code c :: .inScope c :: k)) cs w) := step_lone_go (by simp [stepG, stepG.exec, FB.at])
theorem st_loop {c : Code} : step P (lone (b.at a (.code (.loop c) :: k)) cs w) = .next (lone (b.at a (.code c :: .inLoop c :: k)) cs w) := step_lone_go (by simp [stepG, stepG.exec, FB.at])
theorem st_inLoop {c : Code} : step P (lone (b.at a (.inLoop c :: k)) cs w) = .next (lone (b.at a (.code c :: .inLoop c :: k)) cs w) := step_lone_go (by simp [stepG, stepG.exec, FB.at])
theorem st_exit {id : Nat} {k' : List Item} (h : exitTo id k = some k') : step P (lone (b.at a (.code (.exit id) :: k)) cs w) = .next (lone (b.at a k') cs w) := step_lone_go (by simp [stepG, stepG.exec, FB.at, h])
theorem st_region {id : Nat} {ops : Array Oper} : step P (lone (b.at a (.code (.region id ops false) :: k)) cs w) = .next (lone (b.at a (.inRegion ops (List.range ops.size) :: k)) cs w) :=
  step_lone_go (by simp [stepG, stepG.exec, FB.at])
theorem st_region_draw {id : Nat} {ops : Array Oper} :
    step P (lone (b.at a (.code (.region id ops true) :: k)) cs w) =
      .next (lone (b.at a (.inRegion ops (Region.schedule (P.follows .mixedOrders) ops (w.tape w.drawn (.order b.fn id))) :: k)) cs { w with drawn := w.drawn + 1 }) :=
  step_lone_go (by simp [stepG, stepG.exec, FB.at, choose, Sem.run, Question.forced, Question.cut])
theorem st_region_end {ops : Array Oper} : step P (lone (b.at a (.inRegion ops [] :: k)) cs w) = .next (lone (b.at a k) cs w) := step_lone_go (by simp [stepG, stepG.exec, FB.at])

theorem FB.finish_at (b : FB) (a : Act) (ops : Array Oper) (i : Nat) (rest : List Nat) (k : List Item) (v : Value) :
    (b.at a (.inRegion ops (i :: rest) :: k)).finish v = b.at (a.put ((ops[i]?).bind (·.dst)) v) (.inRegion ops rest :: k) := by
  cases h : (ops[i]?).bind (·.dst) <;> simp [Frame.finish, FB.at, Act.put, h]

theorem st_op_skip {ops : Array Oper} {i : Nat} {rest : List Nat} (h : ((ops[i]?).map (Region.wanted · (yielded ops a.tmps))).getD false = false) :
    step P (lone (b.at a (.inRegion ops (i :: rest) :: k)) cs w) =
      .next (lone (b.at (a.put ((ops[i]?).bind (·.dst)) undef) (.inRegion ops rest :: k)) cs w) := by
  rw [← FB.finish_at]
  exact step_lone_go (by
    have h' := h
    simp only [FB.at] at *
    simp [stepG, stepG.exec, h'])

def Op.isDefer : Op → Bool
  | .defer _ => true
  | _ => false

theorem stG_op {ops : Array Oper} {i : Nat} {rest : List Nat} {o : Oper} (ho : ops[i]? = some o) (hw : Region.wanted o (yielded ops a.tmps) = true) (hd : Op.isDefer o.op = false) :
    stepG P true { frame := b.at a (.inRegion ops (i :: rest) :: k), callers := cs, status := .running, dying := none } w =
      stepG.apply P true (b.at a (.inRegion ops (i :: rest) :: k)) cs none (execOp a.eval o) w := by
  have he := FB.eval b a (.inRegion ops (i :: rest) :: k)
  simp only [FB.at] at he
  have e1 : stepG P true { frame := b.at a (.inRegion ops (i :: rest) :: k), callers := cs, status := .running, dying := none } w =
      stepG.oper P true (b.at a (.inRegion ops (i :: rest) :: k)) cs none w := by
    simp [stepG, stepG.exec, FB.at, ho, hw]
  rw [e1]
  unfold stepG.oper
  have e2 : (b.at a (.inRegion ops (i :: rest) :: k)).oper? = some o := by simp [Frame.oper?, FB.at, ho]
  rw [e2]
  dsimp only
  split
  · rename_i l c h1 h2
    rw [h2] at hd; cases hd
  · rw [show (b.at a (.inRegion ops (i :: rest) :: k)).eval = a.eval from FB.eval b a _]
end steps

/-- A frame that has been entered comes back with a value. -/
def Enters (P : Program) (fr : Frame) (w : World) (R : Value → World → Prop) : Prop :=
  ∀ (c : Frame) (cs : List Frame), ∃ v w', R v w' ∧ Steps P (lone fr (c :: cs) w) (lone (c.finish v) cs w')

theorem Enters.mono {P : Program} {fr : Frame} {w : World} {R R' : Value → World → Prop} (h : Enters P fr w R) (hr : ∀ v w', R v w' → R' v w') : Enters P fr w R' :=
  fun c cs => let ⟨v, w', a, b⟩ := h c cs; ⟨v, w', hr _ _ a, b⟩

/-- What an operation has answered comes to a value. -/
def NextRuns (P : Program) (nx : Next) (w : World) (R : Value → World → Prop) : Prop :=
  match nx with
  | .value v => R v w
  | .skip => R undef w
  | .enter f args => Enters P (Frame.enter P f args .normal) w R
  | .round l f tmps assign body => Enters P (Frame.round l f tmps assign body .normal) w R
  | _ => False

theorem NextRuns.mono {P : Program} {nx : Next} {w : World} {R R' : Value → World → Prop} (h : NextRuns P nx w R) (hr : ∀ v w', R v w' → R' v w') : NextRuns P nx w R' := by
  unfold NextRuns at *
  split at h <;> first | exact hr _ _ h | exact h.mono hr | exact h.elim

theorem op_runs {P : Program} {b : FB} {a : Act} {k : List Item} {cs : List Frame} {w w1 : World} {ops : Array Oper} {i : Nat} {rest : List Nat} {o : Oper} {nx : Next} {R : Value → World → Prop}
    (ho : ops[i]? = some o) (hw : Region.wanted o (yielded ops a.tmps) = true) (hd : Op.isDefer o.op = false) (hr : (execOp a.eval o).run P w = .ok nx w1) (hn : NextRuns P nx w1 R) :
    ∃ v w', R v w' ∧ Steps P (lone (b.at a (.inRegion ops (i :: rest) :: k)) cs w) (lone (b.at (a.put o.dst v) (.inRegion ops rest :: k)) cs w') := by
  have hg := stG_op (P := P) (b := b) (k := k) (cs := cs) (w := w) (rest := rest) ho hw hd
  have hfin : ∀ v, (b.at a (.inRegion ops (i :: rest) :: k)).finish v = b.at (a.put o.dst v) (.inRegion ops rest :: k) := by
    intro v; rw [FB.finish_at, ho]; rfl
  unfold NextRuns at hn
  split at hn
  · rename_i v
    refine ⟨v, w1, hn, .one (step_lone_go ?_)⟩
    rw [hg, ← hfin]; simp [stepG.apply, hr]
  · refine ⟨undef, w1, hn, .one (step_lone_go ?_)⟩
    rw [hg, ← hfin]; simp [stepG.apply, hr]
  · rename_i f args
    obtain ⟨v, w', h1, h2⟩ := hn (b.at a (.inRegion ops (i :: rest) :: k)) cs
    refine ⟨v, w', h1, ?_⟩
    rw [← hfin]
    exact .head (step_lone_go (by rw [hg]; simp [stepG.apply, hr, FB.at])) h2
  · rename_i l f tmps assign body
    obtain ⟨v, w', h1, h2⟩ := hn (b.at a (.inRegion ops (i :: rest) :: k)) cs
    refine ⟨v, w', h1, ?_⟩
    rw [← hfin]
    exact .head (step_lone_go (by rw [hg]; simp [stepG.apply, hr, FB.at])) h2
  · exact hn.elim

/-! ### The judgement -/

inductive Ex where
  | normal
  | exit (id : Nat)
  | ret

/-- Code before 'k' has come to this end. -/
def Arr (P : Program) (m0 : Machine) (b : FB) (k : List Item) (cs : List Frame) : Ex → Act → World → Prop
  | .normal, a, w => Steps P m0 (lone (b.at a k) cs w)
  | .exit id, a, w => ∃ k', exitTo id k' = exitTo id k ∧ Steps P m0 (lone (b.at a (.code (.exit id) :: k')) cs w)
  | .ret, a, w => ∃ k', Steps P m0 (lone (b.at a (.code .ret :: k')) cs w)

theorem Arr.of_steps {P : Program} {m m1 : Machine} {b : FB} {k : List Item} {cs : List Frame} {e : Ex} {a : Act} {w : World} (h : Steps P m m1) (h' : Arr P m1 b k cs e a w) : Arr P m b k cs e a w := by
  cases e with
  | normal => exact h.trans h'
  | exit id => obtain ⟨k', h1, h2⟩ := h'; exact ⟨k', h1, h.trans h2⟩
  | ret => obtain ⟨k', h2⟩ := h'; exact ⟨k', h.trans h2⟩

/-- The known slots of a frame. -/
structure AF where
  n : Nat
  sl : List (Nat × Value)

/-- The deferred calls of a frame: blocks that ranges over functions have laid, each of its own, none with a call in it. -/
def DfOk (m : LM) (H : List Blk) (w : World) : List Deferred → Prop
  | [] => True
  | d :: ds => (∃ r, d = { target := .collected r, args := #[] } ∧ w.heap[r]? = some (.deferred (some [])) ∧ ¬ Wr m H r ∧ ∀ d' ∈ ds, d'.target ≠ .collected r) ∧ DfOk m H w ds

theorem DfOk.keep {m m' : LM} {H H' : List Blk} {w w' : World} (hk : ∀ r, r < w.heap.size → ¬ Wr m H r → w'.heap[r]? = w.heap[r]? ∧ ¬ Wr m' H' r) : ∀ {ds : List Deferred}, DfOk m H w ds → DfOk m' H' w' ds
  | [], _ => trivial
  | _ :: _, ⟨⟨r, h1, h2, h3, h4⟩, h⟩ => by
    obtain ⟨k1, k2⟩ := hk r (Array.getElem?_eq_some_iff.1 h2).1 h3
    exact ⟨⟨r, h1, by rw [k1]; exact h2, k2, h4⟩, h.keep hk⟩

structure SRel (m : LM) (a : AF) (H : List Blk) (aR : Act) (w : World) : Prop where
  n : aR.tmps.size = a.n
  sl : SlRel m a.sl aR.tmps
  df : DfOk m H w aR.defers
  heap : HRel m H w

/-- What a frame has deferred since is new. -/
def DNew (w : World) (aR aR' : Act) : Prop := ∃ new, aR'.defers = new ++ aR.defers ∧ ∀ d ∈ new, ∀ r, d.target = .collected r → w.heap.size ≤ r
theorem DNew.refl (w : World) (aR : Act) : DNew w aR aR := ⟨[], rfl, by simp⟩
theorem DNew.of_eq {w : World} {aR aR' : Act} (h : aR'.defers = aR.defers) : DNew w aR aR' := ⟨[], h, by simp⟩
theorem DNew.trans {w w1 : World} {a a1 a2 : Act} (h : DNew w a a1) (k : DNew w1 a1 a2) (hs : w.heap.size ≤ w1.heap.size) : DNew w a a2 := by
  obtain ⟨n1, e1, h1⟩ := h
  obtain ⟨n2, e2, h2⟩ := k
  refine ⟨n2 ++ n1, by rw [e2, e1, List.append_assoc], fun d hd r hr => ?_⟩
  rcases List.mem_append.1 hd with hd | hd
  · exact Nat.le_trans hs (h2 d hd r hr)
  · exact h1 d hd r hr

/-- What a frame's code keeps. -/
structure FrA (n : Nat) (m : LM) (H : List Blk) (w : World) (aR : Act) (m' : LM) (H' : List Blk) (w' : World) (aR' : Act) : Prop extends Fr n m H w m' H' w' where
  dn : DNew w aR aR'
theorem FrA.refl (n : Nat) (m : LM) (H : List Blk) (w : World) (aR : Act) : FrA n m H w aR m H w aR := ⟨.refl _ _ _ _, .refl _ _⟩
theorem FrA.trans {n : Nat} {m m1 m2 : LM} {H H1 H2 : List Blk} {w w1 w2 : World} {a a1 a2 : Act} (h : FrA n m H w a m1 H1 w1 a1) (k : FrA n m1 H1 w1 a1 m2 H2 w2 a2) : FrA n m H w a m2 H2 w2 a2 :=
  ⟨h.toFr.trans k.toFr, h.dn.trans k.dn h.size⟩

def awp (P : Program) (rd : Bool) (n0 : Nat) (c : Code) (Q : Ex → AF → List Blk → Prop) (a : AF) (H : List Blk) : Prop :=
  n0 ≤ H.length → ∀ m aR w, SRel m a H aR w → ∀ b k cs, (rd = false → b.roundOf = none) → ∃ e a' H' m' aR' w', Q e a' H' ∧ SRel m' a' H' aR' w' ∧ FrA n0 m H w aR m' H' w' aR' ∧ Arr P (lone (b.at aR (.code c :: k)) cs w) b k cs e aR' w'

/-! ### Operands -/

def ev (sl : List (Nat × Value)) : Operand → Option Value
  | .tmp t => look sl t
  | .const v => match plainV 6 v with
    | true => some v
    | false => none
  | .global _ => none
  | .func f => some (.func (.func f) #[] #[])

theorem ev_rel {m : LM} {sl : List (Nat × Value)} {aR : Act} (h : SlRel m sl aR.tmps) {x : Operand} {v : Value} (hv : ev sl x = some v) : VRel m v (aR.eval x) := by
  cases x with
  | tmp t =>
    obtain ⟨v', h1, h2⟩ := h t v hv
    have : aR.eval (.tmp t) = v' := by simp [Act.eval, h1]
    rw [this]; exact h2
  | const c =>
    simp only [ev] at hv
    split at hv
    · rename_i hp; cases hv; exact VRel.plain m 6 _ hp
    · cases hv
  | global g => cases hv
  | func f =>
    cases hv
    exact .func _ _ _ _ _ _ (.same _ (by simp)) rfl rfl (fun i x x' h => by simp at h) (fun i x x' h => by simp at h)

section rules
variable {P : Program} {n0 : Nat} {Q : Ex → AF → List Blk → Prop} {a : AF} {H : List Blk}

theorem awp_mono {c : Code} {Q' : Ex → AF → List Blk → Prop} (h : awp P rd n0 c Q a H) (hq : ∀ e a H, Q e a H → Q' e a H) : awp P rd n0 c Q' a H :=
  fun hn m aR w hs b k cs hb => let ⟨e, a', H', m', aR', w', q, r⟩ := h hn m aR w hs b k cs hb; ⟨e, a', H', m', aR', w', hq _ _ _ q, r⟩

theorem awp_skip (h : Q .normal a H) : awp P rd n0 .skip Q a H := fun _ m aR w hs _ _ _ _ => ⟨.normal, a, H, m, aR, w, h, hs, .refl _ _ _ _ _, .one st_skip⟩
theorem awp_exit {id : Nat} (h : Q (.exit id) a H) : awp P rd n0 (.exit id) Q a H := fun _ m aR w hs _ k _ _ => ⟨.exit id, a, H, m, aR, w, h, hs, .refl _ _ _ _ _, k, rfl, .refl _ _⟩
theorem awp_ret (h : Q .ret a H) : awp P rd n0 .ret Q a H := fun _ m aR w hs _ k _ _ => ⟨.ret, a, H, m, aR, w, h, hs, .refl _ _ _ _ _, k, .refl _ _⟩

def Ex.then (next : AF → List Blk → Prop) (Q : Ex → AF → List Blk → Prop) : Ex → AF → List Blk → Prop
  | .normal, a, H => next a H
  | e, a, H => Q e a H

theorem Arr.pass {P : Program} {m : Machine} {b : FB} {x : Item} {k : List Item} {cs : List Frame} {e : Ex} {a : Act} {w : World} (hx : x.plain = true) (he : e ≠ .normal) (h : Arr P m b (x :: k) cs e a w) : Arr P m b k cs e a w := by
  cases e with
  | normal => exact absurd rfl he
  | exit id => obtain ⟨k', h1, h2⟩ := h; exact ⟨k', h1.trans (by cases x <;> simp_all [exitTo, Item.plain]), h2⟩
  | ret => exact h

theorem awp_seq {x y : Code} (h : awp P rd n0 x (Ex.then (awp P rd n0 y Q) Q) a H) : awp P rd n0 (.seq x y) Q a H := by
  intro hn m aR w hs b k cs hb
  obtain ⟨e, a1, H1, m1, aR1, w1, hq, hs1, hf1, harr⟩ := h hn m aR w hs b (.code y :: k) cs hb
  cases e with
  | normal =>
    obtain ⟨e2, a2, H2, m2, aR2, w2, hq2, hs2, hf2, harr2⟩ := hq (hf1.len hn) m1 aR1 w1 hs1 b k cs hb
    exact ⟨e2, a2, H2, m2, aR2, w2, hq2, hs2, hf1.trans hf2, .of_steps (.head st_seq harr) harr2⟩
  | exit id => exact ⟨_, a1, H1, m1, aR1, w1, hq, hs1, hf1, .of_steps (.one st_seq) (.pass (x := .code y) rfl (by simp) harr)⟩
  | ret => exact ⟨_, a1, H1, m1, aR1, w1, hq, hs1, hf1, .of_steps (.one st_seq) (.pass (x := .code y) rfl (by simp) harr)⟩

def Ex.inBlock (id : Nat) (Q : Ex → AF → List Blk → Prop) : Ex → AF → List Blk → Prop
  | .exit id', a, H => match Nat.beq id' id with
    | true => Q .normal a H
    | false => Q (.exit id') a H
  | e, a, H => Q e a H

theorem awp_block {id : Nat} {c : Code} (h : awp P rd n0 c (Ex.inBlock id Q) a H) : awp P rd n0 (.block id c) Q a H := by
  intro hn m aR w hs b k cs hb
  obtain ⟨e, a1, H1, m1, aR1, w1, hq, hs1, hf1, harr⟩ := h hn m aR w hs b (.inBlock id :: k) cs hb
  cases e with
  | normal => exact ⟨.normal, a1, H1, m1, aR1, w1, hq, hs1, hf1, .head st_block (Steps.trans harr (.one st_inBlock))⟩
  | exit id' =>
    obtain ⟨k', h1, h2⟩ := harr
    by_cases hid : id' = id
    · subst hid
      have hq' : Q .normal a1 H1 := by simpa [Ex.inBlock] using hq
      refine ⟨.normal, a1, H1, m1, aR1, w1, hq', hs1, hf1, .head st_block (Steps.trans h2 (.one (st_exit ?_)))⟩
      rw [h1]; simp [exitTo]
    · have hb : Nat.beq id' id = false := by cases h : Nat.beq id' id; rfl; exact absurd (Nat.eq_of_beq_eq_true h) hid
      have hq' : Q (.exit id') a1 H1 := by simpa [Ex.inBlock, hb] using hq
      refine ⟨.exit id', a1, H1, m1, aR1, w1, hq', hs1, hf1, k', ?_, .head st_block h2⟩
      rw [h1]
      have : (id == id') = false := by simp; exact fun h => hid h.symm
      simp [exitTo, this]
  | ret => exact ⟨_, a1, H1, m1, aR1, w1, hq, hs1, hf1, .of_steps (.one st_block) harr⟩

theorem awp_scope {c : Code} (h : awp P rd n0 c Q a H) : awp P rd n0 (.scope c) Q a H := by
  intro hn m aR w hs b k cs hb
  obtain ⟨e, a1, H1, m1, aR1, w1, hq, hs1, hf1, harr⟩ := h hn m aR w hs b (.inScope c :: k) cs hb
  cases e with
  | normal => exact ⟨.normal, a1, H1, m1, aR1, w1, hq, hs1, hf1, .head st_scope (Steps.trans harr (.one st_inScope))⟩
  | exit id' =>
    obtain ⟨k', h1, h2⟩ := harr
    exact ⟨.exit id', a1, H1, m1, aR1, w1, hq, hs1, hf1, k', by rw [h1]; simp [exitTo], .head st_scope h2⟩
  | ret => exact ⟨_, a1, H1, m1, aR1, w1, hq, hs1, hf1, .of_steps (.one st_scope) harr⟩

theorem awp_cond {c : Operand} {x y : Code} {t : Bool} (hc : ev a.sl c = some (.bool t)) (ht : t = true → awp P rd n0 x Q a H) (hf : t = false → awp P rd n0 y Q a H) : awp P rd n0 (.cond c x y) Q a H := by
  intro hn m aR w hs b k cs hb
  have hv := ev_rel hs.sl hc
  have hc' : aR.eval c = .bool t := by
    generalize aR.eval c = u at hv
    cases hv; rfl
  cases t with
  | true =>
    obtain ⟨e, a', H', m', aR', w', hq, hs', hf', harr⟩ := ht rfl hn m aR w hs b k cs hb
    exact ⟨e, a', H', m', aR', w', hq, hs', hf', .of_steps (.one (st_cond hc')) harr⟩
  | false =>
    obtain ⟨e, a', H', m', aR', w', hq, hs', hf', harr⟩ := hf rfl hn m aR w hs b k cs hb
    exact ⟨e, a', H', m', aR', w', hq, hs', hf', .of_steps (.one (st_cond hc')) harr⟩

/-- A loop: an invariant, and a measure that every round lowers. -/
theorem awp_loop {c : Code} (I : Nat → AF → List Blk → Prop) {n : Nat} (h0 : I n a H)
    (round : ∀ n a H, I n a H → awp P rd n0 c (Ex.then (fun a' H' => ∃ n', n' < n ∧ I n' a' H') Q) a H) : awp P rd n0 (.loop c) Q a H := by
  intro hn m aR w hs b k cs hb
  have key : ∀ n a H m aR w, n0 ≤ H.length → I n a H → SRel m a H aR w → ∃ e a' H' m' aR' w', Q e a' H' ∧ SRel m' a' H' aR' w' ∧ FrA n0 m H w aR m' H' w' aR' ∧ Arr P (lone (b.at aR (.code c :: .inLoop c :: k)) cs w) b k cs e aR' w' := by
    intro n
    induction n using Nat.strongRecOn with
    | _ n ih =>
      intro a H m aR w hn hI hs
      obtain ⟨e, a1, H1, m1, aR1, w1, hq, hs1, hf1, harr⟩ := round n a H hI hn m aR w hs b (.inLoop c :: k) cs hb
      cases e with
      | normal =>
        obtain ⟨n', hlt, hI1⟩ := hq
        obtain ⟨e2, a2, H2, m2, aR2, w2, hq2, hs2, hf2, harr2⟩ := ih n' hlt a1 H1 m1 aR1 w1 (hf1.len hn) hI1 hs1
        exact ⟨e2, a2, H2, m2, aR2, w2, hq2, hs2, hf1.trans hf2, .of_steps (Steps.trans harr (.one st_inLoop)) harr2⟩
      | exit id => exact ⟨_, a1, H1, m1, aR1, w1, hq, hs1, hf1, .pass (x := .inLoop c) rfl (by simp) harr⟩
      | ret => exact ⟨_, a1, H1, m1, aR1, w1, hq, hs1, hf1, .pass (x := .inLoop c) rfl (by simp) harr⟩
  obtain ⟨e, a', H', m', aR', w', hq, hs', hf, harr⟩ := key n a H m aR w hn h0 hs
  exact ⟨e, a', H', m', aR', w', hq, hs', hf, .of_steps (.one st_loop) harr⟩

end rules

end Go.Af
