/-
  Loops of a few rounds, taken one by one; records of ranges over functions among known blocks.
  Steps over code by its own form: each piece of code with what comes behind it.
-/
import Derived.Test.YtmnjcogpchodhaaGreatMC
set_option linter.all false
namespace Go.Af
open Go
section
variable {rd : Bool} {P : Program} {T : TT}
end
section
variable {H0 H : List Blk} {o : Nat → Prop} {L : List (Bool × Nat × Blk)}
theorem roundBegin_hs (h : HS H0 o L H) (i : Nat) {l n : Nat} {K : List Blk → Prop} {pend : Option Code} {sl : List (Nat × Value)} {ps : Array Tmp} {as body : Code} (hi : L[i]? = some (true, l, .loop .ready pend n sl ps as body))
    (k : ∀ H' : List Blk, HS H0 o (L.set i (true, l, .loop .busy pend n sl ps as body)) H' → K H') : roundBegin l H K :=
  roundBegin_of (h.get i hi) (fun H' h1 h2 h3 => k H' (h.set i hi h1 h2 h3))
theorem roundGo_hs (h : HS H0 o L H) (i : Nat) {l n : Nat} {R : Value → List Blk → Prop} {st : LoopState} {pend : Option Code} {sl : List (Nat × Value)} {ps : Array Tmp} {as body : Code} (hi : L[i]? = some (true, l, .loop st pend n sl ps as body))
    (k : ∀ H' : List Blk, HS H0 o (L.set i (true, l, .loop .ready none n sl ps as body)) H' → R (.bool true) H') : roundEnd l .normal H R :=
  roundEnd_go (h.get i hi) (fun H' h1 h2 h3 => k H' (h.set i hi h1 h2 h3))
theorem rangeEnd_hs (h : HS H0 o L H) (i : Nat) {l n : Nat} {K : Ex → List Blk → Prop} {st : LoopState} {pend : Option Code} {sl : List (Nat × Value)} {ps : Array Tmp} {as body : Code} (hi : L[i]? = some (true, l, .loop st pend n sl ps as body)) (hs : st ≠ .busy)
    (k : ∀ H' : List Blk, HS H0 o (L.eraseIdx i) H' → jumpK pend (fun e => K e H')) : rangeEnd l H K := by
  refine rangeEnd_of (h.get i hi) hs (fun H' h1 h3 => k H' ?_)
  have hlt : i < L.length := (List.getElem?_eq_some_iff.1 hi).1
  have hp : L.Perm ((true, l, .loop st pend n sl ps as body) :: L.eraseIdx i) := by
    have e : L = L.take i ++ (true, l, .loop st pend n sl ps as body) :: L.drop (i + 1) := by
      conv => lhs; rw [← List.take_append_drop i L, List.drop_eq_getElem_cons hlt, (List.getElem?_eq_some_iff.1 hi).2]
    rw [List.eraseIdx_eq_take_drop_succ]
    conv => lhs; rw [e]
    exact List.perm_middle
  exact (h.perm hp).forget h1 h3
end
end Go.Af
namespace Go.Af
open Go
section
variable {rd : Bool} {P : Program} {T : TT} {n0 n : Nat} {x y z : Code} {Q : Ex → List (Nat × Value) → List Blk → Prop} {sl : List (Nat × Value)} {H : List Blk}
def blkQ (P : Program) (T : TT) (rd : Bool) (n0 n id : Nat) (z : Code) (Q : Ex → List (Nat × Value) → List Blk → Prop) : Ex → List (Nat × Value) → List Blk → Prop := fun e sl H => match e with
  | .normal => vcg P T rd n0 n z Q sl H
  | .exit i => match Nat.beq i id with
    | true => vcg P T rd n0 n z Q sl H
    | false => Q (.exit i) sl H
  | .ret => Q .ret sl H
theorem blkQ_normal {id : Nat} (h : vcg P T rd n0 n z Q sl H) : blkQ P T rd n0 n id z Q .normal sl H := h
theorem blkQ_ret {id : Nat} (h : Q .ret sl H) : blkQ P T rd n0 n id z Q .ret sl H := h
theorem blkQ_hit {id i : Nat} (hi : Nat.beq i id = true) (h : vcg P T rd n0 n z Q sl H) : blkQ P T rd n0 n id z Q (.exit i) sl H := by
  unfold blkQ; simp only; rw [hi]; exact h
theorem blkQ_miss {id i : Nat} (hi : Nat.beq i id = false) (h : Q (.exit i) sl H) : blkQ P T rd n0 n id z Q (.exit i) sl H := by
  unfold blkQ; simp only; rw [hi]; exact h
theorem vcg_assoc (h : vcg P T rd n0 n (.seq x (.seq y z)) Q sl H) : vcg P T rd n0 n (.seq (.seq x y) z) Q sl H := by
  unfold vcg at h ⊢
  unfold vcg
  exact h
theorem vcg_seqSkip (h : vcg P T rd n0 n z Q sl H) : vcg P T rd n0 n (.seq .skip z) Q sl H := h
theorem vcg_seqRet (h : Q .ret sl H) : vcg P T rd n0 n (.seq .ret z) Q sl H := h
theorem vcg_seqExit {i : Nat} (h : Q (.exit i) sl H) : vcg P T rd n0 n (.seq (.exit i) z) Q sl H := h
theorem vcg_seqScope (h : vcg P T rd n0 n (.seq x z) Q sl H) : vcg P T rd n0 n (.seq (.scope x) z) Q sl H := h
theorem vcg_skip (h : Q .normal sl H) : vcg P T rd n0 n .skip Q sl H := h
theorem vcg_ret (h : Q .ret sl H) : vcg P T rd n0 n .ret Q sl H := h
theorem vcg_exit {i : Nat} (h : Q (.exit i) sl H) : vcg P T rd n0 n (.exit i) Q sl H := h
theorem vcg_scope (h : vcg P T rd n0 n x Q sl H) : vcg P T rd n0 n (.scope x) Q sl H := h
theorem vcg_seqC {c : Operand} (h : condK sl c (vcg P T rd n0 n (.seq x z) Q sl H) (vcg P T rd n0 n (.seq y z) Q sl H)) : vcg P T rd n0 n (.seq (.cond c x y) z) Q sl H := h
theorem vcg_cond {c : Operand} (h : condK sl c (vcg P T rd n0 n x Q sl H) (vcg P T rd n0 n y Q sl H)) : vcg P T rd n0 n (.cond c x y) Q sl H := h
theorem vcg_seqR {id : Nat} {ops : Array Oper} (h : ∀ K0 : List (Nat × Value) → List Blk → Prop, (∀ sl H, vcg P T rd n0 n z Q sl H → K0 sl H) → vops P T n ops.toList ops.toList K0 sl H) : vcg P T rd n0 n (.seq (.region id ops false) z) Q sl H :=
  h (fun sl H => vcg P T rd n0 n z Q sl H) (fun _ _ h => h)
theorem vcg_regR {id : Nat} {ops : Array Oper} (h : ∀ K0 : List (Nat × Value) → List Blk → Prop, (∀ sl H, Q .normal sl H → K0 sl H) → vops P T n ops.toList ops.toList K0 sl H) : vcg P T rd n0 n (.region id ops false) Q sl H :=
  h (fun sl H => Q .normal sl H) (fun _ _ h => h)
theorem vcg_seqB {id : Nat} (h : vcg P T rd n0 n x (blkQ P T rd n0 n id z Q) sl H) : vcg P T rd n0 n (.seq (.block id x) z) Q sl H := by
  unfold vcg
  conv => unfold vcg
  exact h
theorem vcg_blk {id : Nat} (h : vcg P T rd n0 n x (blkQ P T rd n0 n id .skip Q) sl H) : vcg P T rd n0 n (.block id x) Q sl H := h
end
end Go.Af
