/-
  Calls, and regions in the order of the text.
-/
import Derived.Test.YtkmhpolbhjgpoaaA12
namespace Go.Af
open Go
variable {rd : Bool}
set_option linter.unusedSimpArgs false

/-- A call of a function of the program, over the abstract heap. -/
def ACall (P : Program) (f : FuncId) (args : List Value) (H : List Blk) (R : Value → List Blk → Prop) : Prop :=
  (∀ (as : Array Value) (w : World), (callFunc f as).run P w = .ok (.enter f as) w) ∧
  ∀ (m : LM) (argsR : Array Value) (w : World), LRel m args argsR.toList → HRel m H w → Enters P (Frame.enter P f argsR .normal) w (AppOut m H w R)

/-- A call of the function value that a range over a function hands out. -/
def AYield (P : Program) (l : Nat) (args : List Value) (H : List Blk) (R : Value → List Blk → Prop) : Prop :=
  ∀ (m : LM) (argsR : Array Value) (w : World) (r : Nat), m l = some (.obj r) → LRel m args argsR.toList → HRel m H w → ∃ nx w1, (Instr.yield r argsR).run P w = .ok nx w1 ∧ NextRuns P nx w1 (AppOut m H w R)

def AInvoke (P : Program) (t : TypeId) (v : Value) (name : String) (args : List Value) (H : List Blk) (R : Value → List Blk → Prop) : Prop :=
  ∃ f, (∀ (v : Value) (w : World), (method (P.types.size + Made.depth) t v name).run P w = .ok (f, v) w) ∧ ACall P f (v :: args) H R

def AVal (P : Program) (fv : Value) (args : List Value) (H : List Blk) (R : Value → List Blk → Prop) : Prop :=
  match fv with
  | .func (.func f) first captured => ACall P f (first.toList ++ (args ++ captured.toList)) H R
  | .func (.yield l) first _ => match first.toList with
    | [] => AYield P l args H R
    | _ :: _ => False
  | .func (.method name) first _ => match first.toList with
    | [.iface t v] => AInvoke P t v name args H R
    | _ => False
  | _ => False

theorem AppOut.mono {m : LM} {H : List Blk} {w : World} {R R' : Value → List Blk → Prop} {v : Value} {w' : World} (h : AppOut m H w R v w') (hr : ∀ v H, R v H → R' v H) : AppOut m H w R' v w' :=
  let ⟨v, H', m', h1, h2⟩ := h; ⟨v, H', m', hr _ _ h1, h2⟩

theorem ACall.mono {P : Program} {f : FuncId} {args : List Value} {H : List Blk} {R R' : Value → List Blk → Prop} (h : ACall P f args H R) (hr : ∀ v H, R v H → R' v H) : ACall P f args H R' :=
  ⟨h.1, fun m argsR w h1 h2 => (h.2 m argsR w h1 h2).mono fun _ _ h => h.mono hr⟩

def cstep (P : Program) (T : TT) (o : Op) (sl : List (Nat × Value)) (H : List Blk) (K : Value → List Blk → Prop) : Prop :=
  match o with
  | .call c => match c.callee with
    | .value fo => match ev sl fo, evs sl c.args.toList with
      | some fv, some args => AVal P fv args H K
      | _, _ => False
    | .invoke r name => match ev sl r, evs sl c.args.toList with
      | some (.iface t v), some args => AInvoke P t v name args H K
      | _, _ => False
    | .builtin _ => astep P T o sl H K
  | o => astep P T o sl H K

section
variable {P : Program} {T : TT} {sl : List (Nat × Value)} {H : List Blk} {K : Value → List Blk → Prop} {o : Oper}

theorem run_callFunc {f : FuncId} {as : Array Value} {w : World} (h : ∀ (as : Array Value) (w : World), (callFunc f as).run P w = .ok (.enter f as) w) : (callFunc f as).run P w = .ok (.enter f as) w := h as w

theorem AInvoke.run {t : TypeId} {v vR : Value} {name : String} {args : List Value} {argsR : Array Value} {R : Value → List Blk → Prop} {m : LM} {w : World} (h : AInvoke P t v name args H R) (hv : VRel m v vR) (ha : LRel m args argsR.toList) (hh : HRel m H w) :
    ∃ nx, (callMethod (.iface t vR) name argsR).run P w = .ok nx w ∧ NextRuns P nx w (AppOut m H w R) := by
  obtain ⟨f, h1, h2, h3⟩ := h
  refine ⟨.enter f (#[vR] ++ argsR), by simp [callMethod, h1, h2], ?_⟩
  exact h3 m (#[vR] ++ argsR) w (by simpa using LRel.cons hv ha) hh

theorem cstep_sound (hT : TOk P T) (h : cstep P T o.op sl H K) : OpS P o sl H K ∧ Op.isDefer o.op = false := by
  unfold cstep at h
  split at h
  · rename_i c hop
    obtain ⟨callee, args, ats⟩ := c
    split at h
    · rename_i fo hcal
      simp only at hcal; subst hcal
      split at h
      · rename_i fv as hf ha
        refine ⟨fun m aR w hs hh => ?_, by rw [hop]; rfl⟩
        have rf := ev_rel hs hf
        have ra := evs_rel hs ha
        unfold AVal at h
        split at h
        · rename_i f first captured
          obtain ⟨f', xs', ys', he, hfr, hx, hy⟩ := rf.inv_func
          cases hfr
          obtain ⟨h1, h2⟩ := h
          refine ⟨.enter f (xs' ++ args.map aR.eval ++ ys'), w, ?_, ?_⟩
          · simp only [execOp, hop, resolve, he, Deferred.ofValue, Sem.run_bind, Sem.run_pure, Result.andThen_ok, invoke, h1]
          · refine h2 m _ w ?_ hh
            have := hx.append ((by simpa using ra : LRel m as (args.map aR.eval).toList).append hy)
            simpa using this
        · rename_i l first captured
          split at h
          · rename_i hfst
            obtain ⟨f', xs', ys', he, hfr, hx, hy⟩ := rf.inv_func
            rw [hfst] at hx
            have hx' : xs' = #[] := by have := hx.inv_nil; simpa using this
            subst hx'
            cases hfr with
            | same _ hne => exact absurd rfl (hne l)
            | yield _ r hm =>
            obtain ⟨nx, w1, h1, h2⟩ := h m (args.map aR.eval) w r hm (by simpa using ra) hh
            refine ⟨nx, w1, ?_, h2⟩
            simp only [execOp, hop, resolve, he, Deferred.ofValue, Sem.run_bind, Sem.run_pure, Result.andThen_ok, invoke, Array.empty_append, h1]
          · exact h.elim
        · rename_i name first captured
          split at h
          · rename_i t v hfst
            obtain ⟨f', xs', ys', he, hfr, hx, hy⟩ := rf.inv_func
            rw [hfst] at hx
            obtain ⟨y, ys'', e1, hvy, hnil⟩ := hx.inv_cons
            have hnil := hnil.inv_nil
            subst hnil
            cases hvy with
            | iface _ _ v' hvv =>
            have e1 := arr1 e1
            subst e1
            cases hfr
            obtain ⟨nx, h1, h2⟩ := h.run hvv (by simpa using ra : LRel m as (args.map aR.eval).toList) hh
            refine ⟨nx, w, ?_, h2⟩
            simp only [execOp, hop, resolve, he, Deferred.ofValue, Sem.run_bind, Sem.run_pure, Result.andThen_ok, invoke]
            have e0 : (#[Value.iface t v'] ++ args.map aR.eval)[0]? = some (Value.iface t v') := by rw [Array.getElem?_append_left (by simp)]; rfl
            have e2 : (#[Value.iface t v'] ++ args.map aR.eval).extract 1 (#[Value.iface t v'] ++ args.map aR.eval).size = args.map aR.eval := by
              apply Array.ext'
              simp [List.extract_eq_take_drop]
              exact List.take_of_length_le (by simp)
            simp only [e0, e2, h1]
          · exact h.elim
        · exact h.elim
      · exact h.elim
    · rename_i r name hcal
      simp only at hcal; subst hcal
      split at h
      · rename_i t v as hr ha
        refine ⟨fun m aR w hs hh => ?_, by rw [hop]; rfl⟩
        have rr := ev_rel hs hr
        have ra := evs_rel hs ha
        generalize hur : aR.eval r = ur at rr
        cases rr with
        | iface _ _ v' hvv =>
        obtain ⟨nx, h1, h2⟩ := h.run hvv (by simpa using ra : LRel m as (args.map aR.eval).toList) hh
        refine ⟨nx, w, ?_, h2⟩
        simp only [execOp, hop, resolve, hur, Sem.run_bind, Sem.run_pure, Result.andThen_ok, invoke]
        have e0 : (#[Value.iface t v'] ++ args.map aR.eval)[0]? = some (Value.iface t v') := by rw [Array.getElem?_append_left (by simp)]; rfl
        have e2 : (#[Value.iface t v'] ++ args.map aR.eval).extract 1 (#[Value.iface t v'] ++ args.map aR.eval).size = args.map aR.eval := by
          apply Array.ext'
          simp [List.extract_eq_take_drop]
          exact List.take_of_length_le (by simp)
        simp only [e0, e2, h1]
      · exact h.elim
    · exact astep_sound hT h
  · exact astep_sound hT h

/-! ### Calls that at most make more memory -/

def ACallX (P : Program) (f : FuncId) (args : List Value) (H : List Blk) (R : Value → List Blk → Prop) : Prop :=
  (∀ (as : Array Value) (w : World), (callFunc f as).run P w = .ok (.enter f as) w) ∧
  ∀ (m : LM) (argsR : Array Value) (w : World), LRel m args argsR.toList → HRel m H w → Enters P (Frame.enter P f argsR .normal) w (fun vR w' => AppOut m H w R vR w' ∧ ExtW w w')

theorem ACallX.mono {P : Program} {f : FuncId} {args : List Value} {H : List Blk} {R R' : Value → List Blk → Prop} (h : ACallX P f args H R) (hr : ∀ v H, R v H → R' v H) : ACallX P f args H R' :=
  ⟨h.1, fun m argsR w h1 h2 => (h.2 m argsR w h1 h2).mono fun _ _ h => ⟨h.1.mono hr, h.2⟩⟩
theorem ACallX.call {P : Program} {f : FuncId} {args : List Value} {H : List Blk} {R : Value → List Blk → Prop} (h : ACallX P f args H R) : ACall P f args H R :=
  ⟨h.1, fun m argsR w h1 h2 => (h.2 m argsR w h1 h2).mono fun _ _ h => h.1⟩

def AInvokeX (P : Program) (t : TypeId) (v : Value) (name : String) (args : List Value) (H : List Blk) (R : Value → List Blk → Prop) : Prop :=
  ∃ f, (∀ (v : Value) (w : World), (method (P.types.size + Made.depth) t v name).run P w = .ok (f, v) w) ∧ ACallX P f (v :: args) H R

def xstep (P : Program) (T : TT) (o : Op) (sl : List (Nat × Value)) (H : List Blk) (K : Value → List Blk → Prop) : Prop :=
  match o with
  | .call c => match c.callee with
    | .value fo => match ev sl fo, evs sl c.args.toList with
      | some (.func (.func f) first captured), some args => ACallX P f (first.toList ++ (args ++ captured.toList)) H K
      | _, _ => False
    | .invoke r name => match ev sl r, evs sl c.args.toList with
      | some (.iface t v), some args => AInvokeX P t v name args H K
      | _, _ => False
    | .builtin _ => match valOp (.call c) with
      | true => astep P T (.call c) sl H K
      | false => False
  | o => match valOp o || allocOp o with
    | true => astep P T o sl H K
    | false => False

theorem xstep_sound {P : Program} {T : TT} {sl : List (Nat × Value)} {H : List Blk} {K : Value → List Blk → Prop} {o : Oper} (hT : TOk P T) (h : xstep P T o.op sl H K) : OpX P o sl H K ∧ Op.isDefer o.op = false := by
  unfold xstep at h
  split at h
  · rename_i c hop
    obtain ⟨callee, args, ats⟩ := c
    split at h
    · rename_i fo hcal
      simp only at hcal; subst hcal
      split at h
      · rename_i f first captured as hf ha
        refine ⟨fun m aR w hs hh => ?_, by rw [hop]; rfl⟩
        have rf := ev_rel hs hf
        have ra := evs_rel hs ha
        obtain ⟨f', xs', ys', he, hfr, hx, hy⟩ := rf.inv_func
        cases hfr
        obtain ⟨h1, h2⟩ := h
        refine ⟨.enter f (xs' ++ args.map aR.eval ++ ys'), w, ?_, ?_⟩
        · simp only [execOp, hop, resolve, he, Deferred.ofValue, Sem.run_bind, Sem.run_pure, Result.andThen_ok, invoke, h1]
        · refine h2 m _ w ?_ hh
          have := hx.append ((by simpa using ra : LRel m as (args.map aR.eval).toList).append hy)
          simpa using this
      · exact h.elim
    · rename_i r name hcal
      simp only at hcal; subst hcal
      split at h
      · rename_i t v as hr ha
        refine ⟨fun m aR w hs hh => ?_, by rw [hop]; rfl⟩
        have rr := ev_rel hs hr
        have ra := evs_rel hs ha
        generalize hur : aR.eval r = ur at rr
        cases rr with
        | iface _ _ v' hvv =>
        obtain ⟨f, h1, h2, h3⟩ := h
        refine ⟨.enter f (#[v'] ++ args.map aR.eval), w, ?_, h3 m _ w (by simpa using LRel.cons hvv (by simpa using ra)) hh⟩
        simp only [execOp, hop, resolve, hur, Sem.run_bind, Sem.run_pure, Result.andThen_ok, invoke]
        have e0 : (#[Value.iface t v'] ++ args.map aR.eval)[0]? = some (Value.iface t v') := by rw [Array.getElem?_append_left (by simp)]; rfl
        have e2 : (#[Value.iface t v'] ++ args.map aR.eval).extract 1 (#[Value.iface t v'] ++ args.map aR.eval).size = args.map aR.eval := by
          apply Array.ext'
          simp [List.extract_eq_take_drop]
          exact List.take_of_length_le (by simp)
        simp only [e0, e2]
        simp [callMethod, h1, h2]
      · exact h.elim
    · split at h
      · rename_i hv
        rw [← hop] at hv h
        have := astep_val hT hv h
        exact ⟨this.1.ext, this.2⟩
      · exact h.elim
  · split at h
    · rename_i hv
      simp only [Bool.or_eq_true] at hv
      rcases hv with hv | hv
      · have := astep_val hT hv h; exact ⟨this.1.ext, this.2⟩
      · have := astep_alloc hT hv h; exact ⟨this.1.ext, this.2⟩
    · exact h.elim

/-! ### Regions -/

/-- What an operation writes goes into its slot. -/
def putK (n : Nat) (dst : Option Tmp) (v : Value) (sl : List (Nat × Value)) (K : List (Nat × Value) → Prop) : Prop :=
  match dst with
  | none => K sl
  | some d => match Nat.blt d n with
    | true => K ((d, v) :: sl)
    | false => False

theorem SlRel.put {m : LM} {sl : List (Nat × Value)} {t : Array Value} (h : SlRel m sl t) {d : Nat} {v vR : Value} (hd : d < t.size) (hv : VRel m v vR) : SlRel m ((d, v) :: sl) (t.setIfInBounds d vR) := by
  intro s u hu
  simp only [look] at hu
  rw [Array.getElem?_setIfInBounds]
  split at hu
  · rename_i hb
    cases hu
    have := Nat.eq_of_beq_eq_true hb
    subst this
    simp [hd]; exact hv
  · rename_i hb
    have hne : d ≠ s := fun e => by subst e; simp at hb
    obtain ⟨v', h1, h2⟩ := h s u hu
    exact ⟨v', by simp [hne, h1], h2⟩

theorem putK_spec {n : Nat} {dst : Option Tmp} {v vR : Value} {sl : List (Nat × Value)} {K : List (Nat × Value) → Prop} {m : LM} {aR : Act} (h : putK n dst v sl K) (hs : SlRel m sl aR.tmps) (hn : aR.tmps.size = n) (hv : VRel m v vR) :
    ∃ sl', K sl' ∧ SlRel m sl' (aR.put dst vR).tmps ∧ (aR.put dst vR).tmps.size = n ∧ (aR.put dst vR).defers = aR.defers := by
  unfold putK at h
  split at h
  · exact ⟨sl, h, hs, hn, rfl⟩
  · rename_i d
    split at h
    · rename_i hb
      have hd : d < n := Nat.le_of_ble_eq_true hb
      exact ⟨_, h, hs.put (t := aR.tmps) (hn ▸ hd) hv, by simp [Act.put, hn], rfl⟩
    · exact h.elim

def dstOf : List Oper → Nat → Option Tmp
  | [], _ => none
  | o :: _, 0 => o.dst
  | _ :: r, n + 1 => dstOf r n
theorem dstOf_eq : ∀ (l : List Oper) (n : Nat), dstOf l n = (l[n]?).bind (·.dst)
  | [], _ => by simp [dstOf]
  | o :: _, 0 => rfl
  | o :: r, n + 1 => by simpa [dstOf] using dstOf_eq r n

/-- The value of a guard: yes, no; each way with the slot written out. -/
def guardK (all : List Oper) (g : Option (Nat × Bool)) (sl : List (Nat × Value)) (yes no : List (Nat × Value) → Prop) : Prop :=
  match g with
  | none => yes sl
  | some (j, want) => match dstOf all j with
    | none => False
    | some d => match look sl d with
      | some (.bool b) => (b = want → yes ((d, .bool want) :: sl)) ∧ (b = (!want) → no ((d, .bool (!want)) :: sl))
      | some (.tuple _) => no sl
      | _ => False

def vops (P : Program) (T : TT) (n : Nat) (all : List Oper) : List Oper → (List (Nat × Value) → List Blk → Prop) → List (Nat × Value) → List Blk → Prop
  | [], K, sl, H => K sl H
  | o :: rest, K, sl, H => guardK all o.guard sl (fun sl => cstep P T o.op sl H (fun v H' => putK n o.dst v sl (fun sl' => vops P T n all rest K sl' H')))
      (fun sl => putK n o.dst undef sl (fun sl' => vops P T n all rest K sl' H))

theorem SlRel.rebool {m : LM} {sl : List (Nat × Value)} {t : Array Value} (h : SlRel m sl t) {d : Nat} {b : Bool} (hd : look sl d = some (.bool b)) : SlRel m ((d, .bool b) :: sl) t := by
  intro s u hu
  simp only [look] at hu
  split at hu
  · rename_i hb
    cases hu
    have := Nat.eq_of_beq_eq_true hb
    subst this
    exact h d _ hd
  · exact h s u hu

theorem guardK_spec {all : List Oper} {g : Option (Nat × Bool)} {sl : List (Nat × Value)} {yes no : List (Nat × Value) → Prop} {m : LM} {aR : Act} (h : guardK all g sl yes no) (hs : SlRel m sl aR.tmps) (o : Oper) (ho : o.guard = g) :
    ∃ sl', SlRel m sl' aR.tmps ∧ ((Region.wanted o (yielded all.toArray aR.tmps) = true ∧ yes sl') ∨ (Region.wanted o (yielded all.toArray aR.tmps) = false ∧ no sl')) := by
  unfold guardK at h
  split at h
  · exact ⟨sl, hs, .inl ⟨by simp [Region.wanted, ho], h⟩⟩
  · rename_i j want
    split at h
    · exact h.elim
    · rename_i d hd
      rw [dstOf_eq] at hd
      split at h
      · rename_i b hl
        obtain ⟨v', h1, h2⟩ := hs d _ hl
        cases h2
        have hy : yielded all.toArray aR.tmps j = some b := by simp [yielded, hd, h1]
        by_cases hb : b = want
        · subst hb
          exact ⟨_, hs.rebool hl, .inl ⟨by simp [Region.wanted, ho, hy], h.1 rfl⟩⟩
        · have hb' : b = !want := by cases b <;> cases want <;> simp_all
          subst hb'
          exact ⟨_, hs.rebool hl, .inr ⟨by simp [Region.wanted, ho, hy], h.2 rfl⟩⟩
      · rename_i xs hl
        obtain ⟨v', h1, h2⟩ := hs d _ hl
        obtain ⟨ys, rfl, _⟩ := h2.inv_tuple
        have hy : yielded all.toArray aR.tmps j = none := by simp [yielded, hd, h1]
        exact ⟨sl, hs, .inr ⟨by simp [Region.wanted, ho, hy], h⟩⟩
      · exact h.elim

theorem vops_sound (hT : TOk P T) {all : List Oper} : ∀ (l : List Oper) (i : Nat) (_ : ∀ j, l[j]? = all[i + j]?) {K : List (Nat × Value) → List Blk → Prop} {a : AF} {H : List Blk} (_ : vops P T a.n all l K a.sl H)
    {m : LM} {aR : Act} {w : World} (_ : SRel m a H aR w) (b : FB) (k : List Item) (cs : List Frame),
    ∃ a' H' m' aR' w', K a'.sl H' ∧ a'.n = a.n ∧ aR'.defers = aR.defers ∧ SRel m' a' H' aR' w' ∧ Fr H.length m H w m' H' w' ∧
      Steps P (lone (b.at aR (.inRegion all.toArray (List.range' i l.length) :: k)) cs w) (lone (b.at aR' k) cs w')
  | [], i, _, K, a, H, h, m, aR, w, hs, b, k, cs => ⟨a, H, m, aR, w, h, rfl, rfl, hs, .refl _ _ _ _, .one st_region_end⟩
  | o :: rest, i, hl, K, a, H, h, m, aR, w, hs, b, k, cs => by
    simp only [vops] at h
    have ho : all.toArray[i]? = some o := by have := hl 0; simp at this; simpa using this.symm
    have hl' : ∀ j, rest[j]? = all[i + 1 + j]? := fun j => by have := hl (j + 1); simp at this; rw [this]; congr 1; omega
    obtain ⟨sl', hsl, hg⟩ := guardK_spec (aR := aR) h hs.sl o rfl
    have e1 : List.range' i (o :: rest).length = i :: List.range' (i + 1) rest.length := by simp [List.range'_succ]
    rcases hg with ⟨hw, hg⟩ | ⟨hw, hg⟩
    · obtain ⟨ops, hnd⟩ := cstep_sound hT hg
      obtain ⟨nx, w1, hr, hn⟩ := ops m aR w hsl hs.heap
      obtain ⟨vR, w2, ⟨v, H', m', hk, hv, hh, hf⟩, hst⟩ := op_runs (P := P) (b := b) (k := k) (cs := cs) (rest := List.range' (i + 1) rest.length) ho hw hnd hr hn
      have hle : m.le m' := hf.le hs.heap.dom
      obtain ⟨sl2, hk2, hs2, hn2, hd2⟩ := putK_spec (aR := aR) hk (hsl.mono hle) hs.n hv
      obtain ⟨a3, H3, m3, aR3, w3, q1, q2, q3, q4, q5, q6⟩ := vops_sound hT rest (i + 1) hl' (a := { n := a.n, sl := sl2 }) hk2 (m := m') (aR := aR.put o.dst vR) (w := w2) ⟨hn2, hs2, by rw [hd2]; exact hs.df.keep hf.keep, hh⟩ b k cs
      exact ⟨a3, H3, m3, aR3, w3, q1, q2, q3.trans hd2, q4, hf.trans (q5.weaken (hf.len (Nat.le_refl _)) (Nat.le_refl _)), by rw [e1]; exact hst.trans q6⟩
    · obtain ⟨sl2, hk2, hs2, hn2, hd2⟩ := putK_spec (aR := aR) (vR := undef) hg hsl hs.n (VRel.plain m 6 _ rfl)
      obtain ⟨a3, H3, m3, aR3, w3, q1, q2, q3, q4, q5, q6⟩ := vops_sound hT rest (i + 1) hl' (a := { n := a.n, sl := sl2 }) hk2 (m := m) (aR := aR.put o.dst undef) (w := w) ⟨hn2, hs2, by rw [hd2]; exact hs.df, hs.heap⟩ b k cs
      refine ⟨a3, H3, m3, aR3, w3, q1, q2, q3.trans hd2, q4, q5, ?_⟩
      rw [e1]
      have := st_op_skip (P := P) (b := b) (a := aR) (k := k) (cs := cs) (w := w) (ops := all.toArray) (i := i) (rest := List.range' (i + 1) rest.length) (by rw [ho]; simpa using hw)
      rw [ho] at this
      exact .head this q6

theorem awp_region (hT : TOk P T) {n0 : Nat} {Q : Ex → AF → List Blk → Prop} {a : AF} {H : List Blk} {id : Nat} {ops : Array Oper} (h : vops P T a.n ops.toList ops.toList (fun sl H => Q .normal { n := a.n, sl := sl } H) a.sl H) :
    awp P rd n0 (.region id ops false) Q a H := by
  intro hn m aR w hs b k cs hb
  obtain ⟨a', H', m', aR', w', q1, q2, q3, q4, q5, q6⟩ := vops_sound hT ops.toList 0 (fun j => by simp) h hs b k cs
  have ea : a' = { n := a.n, sl := a'.sl } := by cases a'; simp_all
  refine ⟨.normal, a', H', m', aR', w', by rw [ea]; exact q1, q4, ⟨q5.weaken hn (Nat.le_refl _), .of_eq q3⟩, .head st_region ?_⟩
  rw [List.range_eq_range']
  simpa using q6

end
end Go.Af
