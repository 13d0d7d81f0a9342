/-
  From code to conditions: 'vcg' says what is to be shown of a piece of code; loops, calls of function values and drawn regions are left as they are.
  Forgetting: slots and blocks that are not needed any more; loops whose state is put into a form; calls over memory that is only read.
  Contracts over local memory, used in any heap: rows of numbers that can be read, results that are new.
  A region whose order is drawn, and whose operations do not commute: the orders are walked one by one, as a tree.
  Results that are rows of numbers among the new blocks, of whatever number: calls that return two of them, and the forgetting of what is between.
  The control structures, each as a step of its own, so that a state can be put into a form (vcg_cut) in the midst of a body; more rows appended.
  Steps over blocks whose numbers are no literals: what comes out is told by what lies where.
  Functions that hand out values one by one: what is asked of the rounds, over heaps that are letters.
  A heap of which some blocks are known, each at a place of its own, under letters for numbers.
  Rows that are nil, seen as rows that are empty; a row that grows among known blocks.
  What comes behind a piece of code is a matter for later: a mere letter for the length of the piece.
-/
import Derived.Test.YtjncbbdiejkalaaGreatMB
set_option linter.all false
namespace Go.Af
open Go
variable {rd : Bool}

def condK (sl : List (Nat × Value)) (c : Operand) (yes no : Prop) : Prop :=
  match ev sl c with
  | some (.bool b) => (b = true → yes) ∧ (b = false → no)
  | _ => False

/-- An end of 'vcg' as an end of 'awp'. -/
def aft (n : Nat) (Q : Ex → List (Nat × Value) → List Blk → Prop) : Ex → AF → List Blk → Prop := fun e a H => a.n = n ∧ Q e a.sl H

def vcg (P : Program) (T : TT) (rd : Bool) (n0 n : Nat) : Code → (Ex → List (Nat × Value) → List Blk → Prop) → List (Nat × Value) → List Blk → Prop
  | .skip, Q, sl, H => Q .normal sl H
  | .seq x y, Q, sl, H => vcg P T rd n0 n x (fun e sl H => match e with
      | .normal => vcg P T rd n0 n y Q sl H
      | .exit i => Q (.exit i) sl H
      | .ret => Q .ret sl H) sl H
  | .cond c x y, Q, sl, H => condK sl c (vcg P T rd n0 n x Q sl H) (vcg P T rd n0 n y Q sl H)
  | .block id c, Q, sl, H => vcg P T rd n0 n c (fun e sl H => match e with
      | .normal => Q .normal sl H
      | .exit i => match Nat.beq i id with
        | true => Q .normal sl H
        | false => Q (.exit i) sl H
      | .ret => Q .ret sl H) sl H
  | .scope c, Q, sl, H => vcg P T rd n0 n c Q sl H
  | .exit id, Q, sl, H => Q (.exit id) sl H
  | .ret, Q, sl, H => Q .ret sl H
  | .region _ ops false, Q, sl, H => vops P T n ops.toList ops.toList (fun sl H => Q .normal sl H) sl H
  | .region id ops true, Q, sl, H => awp P rd n0 (.region id ops true) (aft n Q) ⟨n, sl⟩ H
  | .loop c, Q, sl, H => awp P rd n0 (.loop c) (aft n Q) ⟨n, sl⟩ H
  | .rangeFunc f ps as body, Q, sl, H => match rd with
    | true => False
    | false => match ev sl f with
      | some (.func (.func g) ⟨first⟩ ⟨captured⟩) => bsnocK H 0 (.loop .ready none n sl ps as body) (fun l H1 => ACall P g (first ++ (.func (.yield l) #[] #[] :: captured)) H1 (fun _ H2 => rangeEnd l H2 (fun e H3 => Q e sl H3)))
      | _ => False
  | _, _, _, _ => False

section
variable {P : Program} {T : TT}

theorem vcg_sound (hT : TOk P T) {n0 n : Nat} : ∀ (c : Code) {Q : Ex → List (Nat × Value) → List Blk → Prop} {sl : List (Nat × Value)} {H : List Blk}, vcg P T rd n0 n c Q sl H →
    awp P rd n0 c (aft n Q) ⟨n, sl⟩ H
  | .skip, Q, sl, H, h => awp_skip ⟨rfl, h⟩
  | .seq x y, Q, sl, H, h => by
    simp only [vcg] at h
    refine awp_seq (awp_mono (vcg_sound hT x h) ?_)
    rintro e ⟨n', sl'⟩ H' ⟨rfl, hq⟩
    cases e with
    | normal => exact vcg_sound hT y hq
    | exit i => exact ⟨rfl, hq⟩
    | ret => exact ⟨rfl, hq⟩
  | .cond c x y, Q, sl, H, h => by
    simp only [vcg, condK] at h
    split at h
    · rename_i b hb
      exact awp_cond hb (fun hb => vcg_sound hT x (h.1 hb)) (fun hb => vcg_sound hT y (h.2 hb))
    · exact h.elim
  | .block id c, Q, sl, H, h => by
    simp only [vcg] at h
    refine awp_block (awp_mono (vcg_sound hT c h) ?_)
    rintro e ⟨n', sl'⟩ H' ⟨rfl, hq⟩
    cases e with
    | normal => exact ⟨rfl, hq⟩
    | exit i =>
      simp only at hq
      simp only [Ex.inBlock]
      split at hq
      · rename_i hb; rw [hb]; exact ⟨rfl, hq⟩
      · rename_i hb; rw [hb]; exact ⟨rfl, hq⟩
    | ret => exact ⟨rfl, hq⟩
  | .scope c, Q, sl, H, h => awp_scope (vcg_sound hT c h)
  | .exit id, Q, sl, H, h => awp_exit ⟨rfl, h⟩
  | .ret, Q, sl, H, h => awp_ret ⟨rfl, h⟩
  | .region id ops false, Q, sl, H, h => by
    simp only [vcg] at h
    exact awp_mono (awp_region hT (Q := fun e a H => e = .normal ∧ a.n = n ∧ Q .normal a.sl H) (a := ⟨n, sl⟩) (by
      have hmono : ∀ (l : List Oper) (sl : List (Nat × Value)) (H : List Blk), vops P T n ops.toList l (fun sl H => Q .normal sl H) sl H → vops P T n ops.toList l (fun sl H => Ex.normal = Ex.normal ∧ n = n ∧ Q .normal sl H) sl H := by
        intro l sl H h; simpa using h
      exact hmono _ _ _ h)) (fun e a H ⟨h1, h2, h4⟩ => by subst h1; exact ⟨h2, h4⟩)
  | .region id ops true, Q, sl, H, h => h
  | .loop c, Q, sl, H, h => h
  | .rangeFunc f ps as body, Q, sl, H, h => by
    simp only [vcg] at h
    split at h
    · exact h.elim
    · split at h
      · rename_i g first captured hf
        rw [bsnocK_eq, Nat.zero_add] at h
        exact awp_range (a := ⟨n, sl⟩) hf (h.mono fun v H hq => rangeEnd_mono hq fun e H hq => ⟨rfl, hq⟩)
      · exact h.elim
  | .label _, _, _, _, h => h.elim
  | .goto _, _, _, _, h => h.elim
  | .refuse _, _, _, _, h => h.elim

theorem ayield_vcg (hT : TOk P T) {l : Nat} {args : List Value} {H : List Blk} {R : Value → List Blk → Prop}
    (h : yieldC l args H (fun n as body sl => vcg P T true H.length n as (fun e sl1 H1 => match e with
      | .normal => roundBegin l H1 (fun H2 => vcg P T true H.length n body (fun e _ H3 => roundEnd l e H3 R) sl1 H2)
      | .exit _ => False
      | .ret => False) sl H)) : AYield P l args H R := by
  refine ayield_of (yieldC_mono h fun n as body sl h => awp_mono (vcg_sound hT as h) ?_)
  rintro e ⟨n2, sl2⟩ H2 ⟨rfl, hq⟩
  cases e with
  | normal => exact roundBegin_mono hq fun H3 h => awp_mono (vcg_sound hT body h) fun e a H4 ⟨_, hq⟩ => hq
  | exit i => exact hq.elim
  | ret => exact hq.elim

/-- What a function's end is asked. -/
def endQ (T : TT) (rs : List ResultVar) (R : Value → List Blk → Prop) (e : Ex) (sl : List (Nat × Value)) (H : List Blk) : Prop :=
  match e with
  | .exit _ => False
  | .normal => resK T sl H rs (fun vs => R (resV vs) H)
  | .ret => resK T sl H rs (fun vs => R (resV vs) H)

/-- A FUNCTION (with no range over a function at its top), out of its conditions. -/
theorem acall_vcg (hT : TOk P T) {f : FuncId} {fn : Func} {c : Code} {args : List Value} {H : List Blk} {R : Value → List Blk → Prop} (hc : ∀ (as : Array Value) (w : World), (callFunc f as).run P w = .ok (.enter f as) w) (hf : P.funcs[f]? = some fn) (hb : fn.body = some c) {n : Nat} (hnt : fn.ntmps = n)
    {rs : Array ResultVar} (hrs : fn.results = rs) (hn : args.length ≤ n) (h : vcg P T false H.length n c (endQ T rs.toList R) (argSl args 0) H) : ACall P f args H R := by
  subst hnt; subst hrs
  refine acall_of hT hc hf hb hn (awp_mono (vcg_sound hT c h) ?_)
  rintro e ⟨n', sl'⟩ H' ⟨h1, hq⟩
  cases e with
  | normal => exact hq
  | exit i => exact hq.elim
  | ret => exact hq

theorem calls_vcg (hT : TOk P T) {f : FuncId} {fn : Func} {c : Code} {args : List Value} {H : List Blk} {R : Value → List Blk → Prop} (hf : P.funcs[f]? = some fn) (hb : fn.body = some c) {n : Nat} (hnt : fn.ntmps = n)
    {rs : Array ResultVar} (hrs : fn.results = rs) (hn : args.length ≤ n) (h : vcg P T false H.length n c (endQ T rs.toList R) (argSl args 0) H) {m : LM} {argsR : Array Value} {w : World} (ha : LRel m args argsR.toList) (hh : HRel m H w) :
    Calls P f argsR w fun e w' => ∃ vR, e = .returned vR ∧ AppOut m H w R vR w' := by
  subst hnt; subst hrs
  refine calls_of hT hf hb hn (awp_mono (vcg_sound hT c h) ?_) ha hh
  rintro e ⟨n', sl'⟩ H' ⟨h1, hq⟩
  cases e with
  | normal => exact hq
  | exit i => exact hq.elim
  | ret => exact hq

/-- A drawn region inside 'vcg'. -/
theorem vcg_draw (hT : TOk P T) (hm : P.follows .mixedOrders = true) {n0 n : Nat} {Q : Ex → List (Nat × Value) → List Blk → Prop} {sl : List (Nat × Value)} {H : List Blk} {id : Nat} {ops : List Oper} (bf : List Nat) (qs : List Bool) (σ : List Nat) (hB : drawB ops.toArray bf.toArray qs σ = true)
    (h : vopsO P T n ops qs σ (fun sl H => Q .normal sl H) sl H) : awp P rd n0 (.region id ops.toArray true) (aft n Q) ⟨n, sl⟩ H := by
  refine awp_mono (awp_draw hT hm (Q := fun e a H => e = .normal ∧ a.n = n ∧ Q .normal a.sl H) (a := ⟨n, sl⟩) bf qs σ hB (by simpa using h)) ?_
  intro e a H ⟨h1, h2, h4⟩
  subst h1; exact ⟨h2, h4⟩

/-- A loop inside 'vcg': an invariant on the slots and the heap, and a measure. -/
theorem vcg_loop (hT : TOk P T) {n0 n : Nat} {Q : Ex → List (Nat × Value) → List Blk → Prop} {sl : List (Nat × Value)} {H : List Blk} {c : Code} (I : Nat → List (Nat × Value) → List Blk → Prop) (k : Nat) (h0 : I k sl H)
    (round : ∀ k sl H, I k sl H → vcg P T rd n0 n c (fun e sl' H' => match e with
      | .normal => ∃ k', k' < k ∧ I k' sl' H'
      | .exit i => Q (.exit i) sl' H'
      | .ret => Q .ret sl' H') sl H) : awp P rd n0 (.loop c) (aft n Q) ⟨n, sl⟩ H := by
  refine awp_loop (fun k a H => a.n = n ∧ I k a.sl H) (n := k) ⟨rfl, h0⟩ ?_
  rintro k ⟨n', sl'⟩ H' ⟨rfl, hI⟩
  refine awp_mono (vcg_sound hT c (round k sl' H' hI)) ?_
  rintro e ⟨n2, sl2⟩ H2 ⟨rfl, hq⟩
  cases e with
  | normal => obtain ⟨k', h1, h2⟩ := hq; exact ⟨k', h1, rfl, h2⟩
  | exit i => exact ⟨rfl, hq⟩
  | ret => exact ⟨rfl, hq⟩

end

/-! ### Rows of numbers -/

def ints (xs : List Int) : List Value := xs.map (Value.int .i64)
@[simp] theorem ints_length (xs : List Int) : (ints xs).length = xs.length := by simp [ints]
theorem ints_get (xs : List Int) (i : Nat) : (ints xs)[i]? = (xs[i]?).map (Value.int .i64) := by simp [ints]
end Go.Af
namespace Go.Af
open Go
variable {rd : Bool}

section
variable {P : Program} {T : TT}

/-! ### Memory that is only read -/

def allRo : List Blk → Bool
  | [] => true
  | b :: r => !b.isRw && allRo r
theorem allRo_get : ∀ {H : List Blk} (_ : allRo H = true) {i : Nat} {b : Blk} (_ : H[i]? = some b), b.isRw = false
  | [], _, i, b, h => by simp at h
  | x :: r, hr, 0, b, h => by simp [allRo] at hr h; subst h; exact hr.1
  | x :: r, hr, i + 1, b, h => by simp [allRo] at hr; exact allRo_get hr.2 (by simpa using h)
end
end Go.Af
namespace Go.Af
open Go
abbrev ro (xs : List Int) : Blk := .cells false 1 (ints xs)
abbrev sv (b n : Nat) : Value := .slice (some ⟨b, 0, none⟩) n n

/-! ### Rows that can be read -/

section
variable {P : Program} {f : FuncId} {args2 args : List Value} {H2 H : List Blk} {R : Value → List Blk → Prop}

end
end Go.Af
namespace Go.Af
open Go

section
variable {P : Program} {T : TT}

end
end Go.Af
namespace Go.Af
open Go

section
variable {P : Program} {f : FuncId} {args2 args : List Value} {H2 H : List Blk} {R : Value → List Blk → Prop}
end

end Go.Af
namespace Go.Af
open Go
variable {rd : Bool}
section
variable {P : Program} {T : TT}

end

end Go.Af
namespace Go.Af
open Go

end Go.Af
namespace Go.Af
open Go

section
variable {P : Program} {l N : Nat} {xs : List Value} {I : List Value → (Nat → Prop) → List Blk → Prop} {Z : List Blk → Prop}
end

/-! The record of a range over a function, at a place that is a letter. -/
end Go.Af
namespace Go.Af
open Go

section
variable {H0 H H' : List Blk} {o : Nat → Prop} {L : List (Bool × Nat × Blk)}
/-! ### Steps -/
end
/-! ### Rounds -/
end Go.Af
namespace Go.Af
open Go
variable {rd : Bool}

section
variable {P : Program} {T : TT}
end
section
variable {H0 H H' : List Blk} {o : Nat → Prop} {L : List (Bool × Nat × Blk)}
end
end Go.Af
namespace Go.Af
open Go
variable {rd : Bool} {P : Program} {T : TT}
end Go.Af
