/-
  Loops of a few rounds, taken one by one; records of ranges over functions among known blocks.
  Steps over code by its own form: each piece of code with what comes behind it.
  Short names, for scripts that stand in many places.
-/
import Derived.Test.YtmnjcogpchodhaaGreatMC
set_option linter.all false
namespace Go.Af
open Go
section
variable {rd : Bool} {P : Program} {T : TT}
end
section
variable {H0 H : List Blk} {o : Nat→Prop} {L : List (Bool × Nat × Blk)}
theorem wL (h : HS H0 o L H) (i : Nat) {l n : Nat} {K : List Blk→Prop} {pend : Option Code} {sl : List (Nat × Value)} {ps : Array Tmp} {as body : Code} (hi : L[i]? = some (true,l, .loop .ready pend n sl ps as body))
    (k : ∀ H' : List Blk,HS H0 o (L.set i (true,l, .loop .busy pend n sl ps as body)) H' → K H') : qW l H K :=
  roundBegin_of (h.get i hi) (fun H' h1 h2 h3=>k H' (h.set i hi h1 h2 h3))
theorem zJ (h : HS H0 o L H) (i : Nat) {l n : Nat} {R : Value→List Blk→Prop} {st : LoopState} {pend : Option Code} {sl : List (Nat × Value)} {ps : Array Tmp} {as body : Code} (hi : L[i]? = some (true,l, .loop st pend n sl ps as body))
    (k : ∀ H' : List Blk,HS H0 o (L.set i (true,l, .loop .ready none n sl ps as body)) H' → R (.bool true) H') : roundEnd l .normal H R :=
  roundEnd_go (h.get i hi) (fun H' h1 h2 h3=>k H' (h.set i hi h1 h2 h3))
theorem zo (h : HS H0 o L H) (i : Nat) {l n : Nat} {K : Ex→List Blk→Prop} {st : LoopState} {pend : Option Code} {sl : List (Nat × Value)} {ps : Array Tmp} {as body : Code} (hi : L[i]? = some (true,l, .loop st pend n sl ps as body)) (hs : st ≠ .busy)
    (k : ∀ H' : List Blk,HS H0 o (L.eraseIdx i) H' → jumpK pend (fun e=>K e H')) : vz l H K := by
  refine rangeEnd_of (h.get i hi) hs (fun H' h1 h3=>k H' ?_)
  have hlt : i < L.length := (List.getElem?_eq_some_iff.1 hi).1
  have hp : L.Perm ((true,l, .loop st pend n sl ps as body) :: L.eraseIdx i) := by
    have e : L = L.take i ++ (true,l, .loop st pend n sl ps as body) :: L.drop (i + 1) := by
      conv=>lhs;rw [← List.take_append_drop i L,List.drop_eq_getElem_cons hlt,(List.getElem?_eq_some_iff.1 hi).2]
    rw [List.eraseIdx_eq_take_drop_succ]
    conv=>lhs;rw [e]
    exact List.perm_middle
  exact (h.perm hp).forget h1 h3
end
end Go.Af
namespace Go.Af
open Go
section
variable {rd : Bool} {P : Program} {T : TT} {n0 n : Nat} {x y z : Code} {Q : Ex→List (Nat × Value)→List Blk→Prop} {sl : List (Nat × Value)} {H : List Blk}
def blkQ (P : Program) (T : TT) (rd : Bool) (n0 n id : Nat) (z : Code) (Q : Ex→List (Nat × Value)→List Blk→Prop) : Ex→List (Nat × Value)→List Blk→Prop := fun e sl H=>match e with
  | .normal=>vcg P T rd n0 n z Q sl H
  | .exit i=>match Nat.beq i id with
    | true=>vcg P T rd n0 n z Q sl H
    | false=>Q (.exit i) sl H
  | .ret=>Q .ret sl H
theorem qh {id : Nat} (h : vcg P T rd n0 n z Q sl H) : blkQ P T rd n0 n id z Q .normal sl H := h
theorem qC {id : Nat} (h : Q .ret sl H) : blkQ P T rd n0 n id z Q .ret sl H := h
theorem qE {id i : Nat} (hi : Nat.beq i id = true) (h : vcg P T rd n0 n z Q sl H) : blkQ P T rd n0 n id z Q (.exit i) sl H := by
  unfold blkQ;simp only;rw [hi];exact h
theorem qm {id i : Nat} (hi : Nat.beq i id = false) (h : Q (.exit i) sl H) : blkQ P T rd n0 n id z Q (.exit i) sl H := by
  unfold blkQ;simp only;rw [hi];exact h
theorem ql (h : vcg P T rd n0 n (.seq x (.seq y z)) Q sl H) : vcg P T rd n0 n (.seq (.seq x y) z) Q sl H := by
  unfold vcg at h ⊢
  unfold vcg
  exact h
theorem qf (h : vcg P T rd n0 n z Q sl H) : vcg P T rd n0 n (.seq .skip z) Q sl H := h
theorem qi (h : Q .ret sl H) : vcg P T rd n0 n (.seq .ret z) Q sl H := h
theorem qg {i : Nat} (h : Q (.exit i) sl H) : vcg P T rd n0 n (.seq (.exit i) z) Q sl H := h
theorem qc (h : vcg P T rd n0 n (.seq x z) Q sl H) : vcg P T rd n0 n (.seq (.scope x) z) Q sl H := h
theorem qp (h : Q .normal sl H) : vcg P T rd n0 n .skip Q sl H := h
theorem qG (h : Q .ret sl H) : vcg P T rd n0 n .ret Q sl H := h
theorem qA {i : Nat} (h : Q (.exit i) sl H) : vcg P T rd n0 n (.exit i) Q sl H := h
theorem qj (h : vcg P T rd n0 n x Q sl H) : vcg P T rd n0 n (.scope x) Q sl H := h
theorem qw {c : Operand} (h : condK sl c (vcg P T rd n0 n (.seq x z) Q sl H) (vcg P T rd n0 n (.seq y z) Q sl H)) : vcg P T rd n0 n (.seq (.cond c x y) z) Q sl H := h
theorem qB {c : Operand} (h : condK sl c (vcg P T rd n0 n x Q sl H) (vcg P T rd n0 n y Q sl H)) : vcg P T rd n0 n (.cond c x y) Q sl H := h
theorem qo {id : Nat} {ops : Array Oper} (h : ∀ K0 : List (Nat × Value)→List Blk→Prop,(∀ sl H,vcg P T rd n0 n z Q sl H→K0 sl H)→vops P T n ops.toList ops.toList K0 sl H) : vcg P T rd n0 n (.seq (.region id ops false) z) Q sl H :=
  h (fun sl H=>vcg P T rd n0 n z Q sl H) (fun _ _ h=>h)
theorem qy {id : Nat} {ops : Array Oper} (h : ∀ K0 : List (Nat × Value)→List Blk→Prop,(∀ sl H,Q .normal sl H→K0 sl H)→vops P T n ops.toList ops.toList K0 sl H) : vcg P T rd n0 n (.region id ops false) Q sl H :=
  h (fun sl H=>Q .normal sl H) (fun _ _ h=>h)
theorem qx {id : Nat} (h : vcg P T rd n0 n x (blkQ P T rd n0 n id z Q) sl H) : vcg P T rd n0 n (.seq (.block id x) z) Q sl H := by
  unfold vcg
  conv=>unfold vcg
  exact h
theorem qH {id : Nat} (h : vcg P T rd n0 n x (blkQ P T rd n0 n id .skip Q) sl H) : vcg P T rd n0 n (.block id x) Q sl H := h
end
end Go.Af
namespace Go.Af
open Go
theorem mH {α : Type} {a : α} {l : List α} : a∈a :: l := List.mem_cons_self
theorem mT {α : Type} {a b : α} {l : List α} (h : a∈l) : a∈b :: l := List.mem_cons_of_mem _ h
theorem lB {a b : Nat} (h : Nat.ble a b = true) : a≤b := Nat.le_of_ble_eq_true h
theorem aI {a b : Prop} (x : a) (y : b) : a∧b := ⟨x,y⟩
theorem eI {α : Sort _} {p : α→Prop} (x : α) (h : p x) : Exists p := ⟨x,h⟩
section
variable {H0 H : List Blk} {o : Nat→Prop} {L : List (Bool × Nat × Blk)}
theorem iS (hs : HS H0 o L H) {c wr : Bool} {b z : Nat} {vs : List Value} {K : Prop} (h : K) (hm : (c,b,Blk.cells wr z vs)∈L := by repeat (first | exact mH | refine mT ?_)) : isCells H b K := vP (hs.mem hm) h
theorem rS (hs : HS H0 o L H) {c wr : Bool} {b z : Nat} {vs : List Value} {K : Nat→List Value→Prop} (h : K z vs) (hm : (c,b,Blk.cells wr z vs)∈L := by repeat (first | exact mH | refine mT ?_)) : qP H b K := vH (hs.mem hm) h
theorem sS (h : HS H0 o L H) (i : Nat) {b z p n : Nat} {vs vs' : List Value} {v : Value} {K : List Blk→Prop}
    (k : ∀ H' : List Blk,H'.length = H.length→HS H0 o (L.set i (true,b, .cells true z vs')) H' → K H')
    (hi : L[i]? = some (true,b, .cells true z vs) := by exact rfl) (h1 : (qU v).length = n := by exact rfl) (h2 : (qU v).all vS = true := by exact rfl) (h3 : p + n≤vs.length := by exact lB rfl) (h4 : setSeg vs p (qU v) = vs' := by exact rfl) :
    qN H b (fun z vs=>((qU v).length = n∧(qU v).all vS = true∧p + n≤vs.length)∧∃ vs',setSeg vs p (qU v) = vs' ∧ zi H b (.cells true z vs') K) := wK h i hi vs' h1 h2 h3 h4 k
end
theorem cF {a b c d : Prop} (h : b→d) (hn : ¬ a := by decide) : (a→c)∧(b→d) := ⟨fun x=>absurd x hn,h⟩
theorem cT {a b c d : Prop} (h : a→c) (hn : ¬ b := by decide) : (a→c)∧(b→d) := ⟨h,fun x=>absurd x hn⟩
theorem oJ {z : Int} {p : Int→Prop} {q : Prop} (h : p z) (hz : I64 z := by unfold I64;omega) : (∃ y,z = y∧I64 y∧p y)∨q := .inl ⟨z,rfl,hz,h⟩
end Go.Af
