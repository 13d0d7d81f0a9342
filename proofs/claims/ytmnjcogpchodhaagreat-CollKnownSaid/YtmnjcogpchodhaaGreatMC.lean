/-
  From code to conditions: 'vcg' says what is to be shown of a piece of code; loops, calls of function values and drawn regions are left as they are.
  Forgetting: slots and blocks that are not needed any more; loops whose state is put into a form; calls over memory that is only read.
  Contracts over local memory, used in any heap: rows of numbers that can be read, results that are new.
  A region whose order is drawn, and whose operations do not commute: the orders are walked one by one, as a tree.
  Results that are rows of numbers among the new blocks, of whatever number: calls that return two of them, and the forgetting of what is between.
  The control structures, each as a step of its own, so that a state can be put into a form (vcg_cut) in the midst of a body; more rows appended.
  Steps over blocks whose numbers are no literals: what comes out is told by what lies where.
  Functions that hand out values one by one: what is asked of the rounds, over heaps that are letters.
  A heap of which some blocks are known, each at a place of its own, under letters for numbers.
  Rows that are nil, seen as rows that are empty; a row that grows among known blocks.
  What comes behind a piece of code is a matter for later: a mere letter for the length of the piece.
-/
import Derived.Test.YtmnjcogpchodhaaGreatMB
set_option linter.all false
namespace Go.Af
open Go
variable {rd : Bool}

def condK (sl : List (Nat × Value)) (c : Operand) (yes no : Prop) : Prop :=
  match ev sl c with
  | some (.bool b) => (b = true → yes) ∧ (b = false → no)
  | _ => False

/-- An end of 'vcg' as an end of 'awp'. -/
def aft (n : Nat) (Q : Ex → List (Nat × Value) → List Blk → Prop) : Ex → AF → List Blk → Prop := fun e a H => a.n = n ∧ Q e a.sl H

def vcg (P : Program) (T : TT) (rd : Bool) (n0 n : Nat) : Code → (Ex → List (Nat × Value) → List Blk → Prop) → List (Nat × Value) → List Blk → Prop
  | .skip, Q, sl, H => Q .normal sl H
  | .seq x y, Q, sl, H => vcg P T rd n0 n x (fun e sl H => match e with
      | .normal => vcg P T rd n0 n y Q sl H
      | .exit i => Q (.exit i) sl H
      | .ret => Q .ret sl H) sl H
  | .cond c x y, Q, sl, H => condK sl c (vcg P T rd n0 n x Q sl H) (vcg P T rd n0 n y Q sl H)
  | .block id c, Q, sl, H => vcg P T rd n0 n c (fun e sl H => match e with
      | .normal => Q .normal sl H
      | .exit i => match Nat.beq i id with
        | true => Q .normal sl H
        | false => Q (.exit i) sl H
      | .ret => Q .ret sl H) sl H
  | .scope c, Q, sl, H => vcg P T rd n0 n c Q sl H
  | .exit id, Q, sl, H => Q (.exit id) sl H
  | .ret, Q, sl, H => Q .ret sl H
  | .region _ ops false, Q, sl, H => vops P T n ops.toList ops.toList (fun sl H => Q .normal sl H) sl H
  | .region id ops true, Q, sl, H => awp P rd n0 (.region id ops true) (aft n Q) ⟨n, sl⟩ H
  | .loop c, Q, sl, H => awp P rd n0 (.loop c) (aft n Q) ⟨n, sl⟩ H
  | .rangeFunc f ps as body, Q, sl, H => match rd with
    | true => False
    | false => match ev sl f with
      | some (.func (.func g) ⟨first⟩ ⟨captured⟩) => bsnocK H 0 (.loop .ready none n sl ps as body) (fun l H1 => ACall P g (first ++ (.func (.yield l) #[] #[] :: captured)) H1 (fun _ H2 => rangeEnd l H2 (fun e H3 => Q e sl H3)))
      | _ => False
  | _, _, _, _ => False

section
variable {P : Program} {T : TT}

theorem vcg_sound (hT : TOk P T) {n0 n : Nat} : ∀ (c : Code) {Q : Ex → List (Nat × Value) → List Blk → Prop} {sl : List (Nat × Value)} {H : List Blk}, vcg P T rd n0 n c Q sl H →
    awp P rd n0 c (aft n Q) ⟨n, sl⟩ H
  | .skip, Q, sl, H, h => awp_skip ⟨rfl, h⟩
  | .seq x y, Q, sl, H, h => by
    simp only [vcg] at h
    refine awp_seq (awp_mono (vcg_sound hT x h) ?_)
    rintro e ⟨n', sl'⟩ H' ⟨rfl, hq⟩
    cases e with
    | normal => exact vcg_sound hT y hq
    | exit i => exact ⟨rfl, hq⟩
    | ret => exact ⟨rfl, hq⟩
  | .cond c x y, Q, sl, H, h => by
    simp only [vcg, condK] at h
    split at h
    · rename_i b hb
      exact awp_cond hb (fun hb => vcg_sound hT x (h.1 hb)) (fun hb => vcg_sound hT y (h.2 hb))
    · exact h.elim
  | .block id c, Q, sl, H, h => by
    simp only [vcg] at h
    refine awp_block (awp_mono (vcg_sound hT c h) ?_)
    rintro e ⟨n', sl'⟩ H' ⟨rfl, hq⟩
    cases e with
    | normal => exact ⟨rfl, hq⟩
    | exit i =>
      simp only at hq
      simp only [Ex.inBlock]
      split at hq
      · rename_i hb; rw [hb]; exact ⟨rfl, hq⟩
      · rename_i hb; rw [hb]; exact ⟨rfl, hq⟩
    | ret => exact ⟨rfl, hq⟩
  | .scope c, Q, sl, H, h => awp_scope (vcg_sound hT c h)
  | .exit id, Q, sl, H, h => awp_exit ⟨rfl, h⟩
  | .ret, Q, sl, H, h => awp_ret ⟨rfl, h⟩
  | .region id ops false, Q, sl, H, h => by
    simp only [vcg] at h
    exact awp_mono (awp_region hT (Q := fun e a H => e = .normal ∧ a.n = n ∧ Q .normal a.sl H) (a := ⟨n, sl⟩) (by
      have hmono : ∀ (l : List Oper) (sl : List (Nat × Value)) (H : List Blk), vops P T n ops.toList l (fun sl H => Q .normal sl H) sl H → vops P T n ops.toList l (fun sl H => Ex.normal = Ex.normal ∧ n = n ∧ Q .normal sl H) sl H := by
        intro l sl H h; simpa using h
      exact hmono _ _ _ h)) (fun e a H ⟨h1, h2, h4⟩ => by subst h1; exact ⟨h2, h4⟩)
  | .region id ops true, Q, sl, H, h => h
  | .loop c, Q, sl, H, h => h
  | .rangeFunc f ps as body, Q, sl, H, h => by
    simp only [vcg] at h
    split at h
    · exact h.elim
    · split at h
      · rename_i g first captured hf
        rw [bsnocK_eq, Nat.zero_add] at h
        exact awp_range (a := ⟨n, sl⟩) hf (h.mono fun v H hq => rangeEnd_mono hq fun e H hq => ⟨rfl, hq⟩)
      · exact h.elim
  | .label _, _, _, _, h => h.elim
  | .goto _, _, _, _, h => h.elim
  | .refuse _, _, _, _, h => h.elim

theorem ayield_vcg (hT : TOk P T) {l : Nat} {args : List Value} {H : List Blk} {R : Value → List Blk → Prop}
    (h : yieldC l args H (fun n as body sl => vcg P T true H.length n as (fun e sl1 H1 => match e with
      | .normal => roundBegin l H1 (fun H2 => vcg P T true H.length n body (fun e _ H3 => roundEnd l e H3 R) sl1 H2)
      | .exit _ => False
      | .ret => False) sl H)) : AYield P l args H R := by
  refine ayield_of (yieldC_mono h fun n as body sl h => awp_mono (vcg_sound hT as h) ?_)
  rintro e ⟨n2, sl2⟩ H2 ⟨rfl, hq⟩
  cases e with
  | normal => exact roundBegin_mono hq fun H3 h => awp_mono (vcg_sound hT body h) fun e a H4 ⟨_, hq⟩ => hq
  | exit i => exact hq.elim
  | ret => exact hq.elim

/-- What a function's end is asked. -/
def endQ (T : TT) (rs : List ResultVar) (R : Value → List Blk → Prop) (e : Ex) (sl : List (Nat × Value)) (H : List Blk) : Prop :=
  match e with
  | .exit _ => False
  | .normal => resK T sl H rs (fun vs => R (resV vs) H)
  | .ret => resK T sl H rs (fun vs => R (resV vs) H)

/-- A FUNCTION (with no range over a function at its top), out of its conditions. -/
theorem acall_vcg (hT : TOk P T) {f : FuncId} {fn : Func} {c : Code} {args : List Value} {H : List Blk} {R : Value → List Blk → Prop} (hc : ∀ (as : Array Value) (w : World), (callFunc f as).run P w = .ok (.enter f as) w) (hf : P.funcs[f]? = some fn) (hb : fn.body = some c) {n : Nat} (hnt : fn.ntmps = n)
    {rs : Array ResultVar} (hrs : fn.results = rs) (hn : args.length ≤ n) (h : vcg P T false H.length n c (endQ T rs.toList R) (argSl args 0) H) : ACall P f args H R := by
  subst hnt; subst hrs
  refine acall_of hT hc hf hb hn (awp_mono (vcg_sound hT c h) ?_)
  rintro e ⟨n', sl'⟩ H' ⟨h1, hq⟩
  cases e with
  | normal => exact hq
  | exit i => exact hq.elim
  | ret => exact hq

theorem calls_vcg (hT : TOk P T) {f : FuncId} {fn : Func} {c : Code} {args : List Value} {H : List Blk} {R : Value → List Blk → Prop} (hf : P.funcs[f]? = some fn) (hb : fn.body = some c) {n : Nat} (hnt : fn.ntmps = n)
    {rs : Array ResultVar} (hrs : fn.results = rs) (hn : args.length ≤ n) (h : vcg P T false H.length n c (endQ T rs.toList R) (argSl args 0) H) {m : LM} {argsR : Array Value} {w : World} (ha : LRel m args argsR.toList) (hh : HRel m H w) :
    Calls P f argsR w fun e w' => ∃ vR, e = .returned vR ∧ AppOut m H w R vR w' := by
  subst hnt; subst hrs
  refine calls_of hT hf hb hn (awp_mono (vcg_sound hT c h) ?_) ha hh
  rintro e ⟨n', sl'⟩ H' ⟨h1, hq⟩
  cases e with
  | normal => exact hq
  | exit i => exact hq.elim
  | ret => exact hq

/-- A drawn region inside 'vcg'. -/
theorem vcg_draw (hT : TOk P T) (hm : P.follows .mixedOrders = true) {n0 n : Nat} {Q : Ex → List (Nat × Value) → List Blk → Prop} {sl : List (Nat × Value)} {H : List Blk} {id : Nat} {ops : List Oper} (bf : List Nat) (qs : List Bool) (σ : List Nat) (hB : drawB ops.toArray bf.toArray qs σ = true)
    (h : vopsO P T n ops qs σ (fun sl H => Q .normal sl H) sl H) : awp P rd n0 (.region id ops.toArray true) (aft n Q) ⟨n, sl⟩ H := by
  refine awp_mono (awp_draw hT hm (Q := fun e a H => e = .normal ∧ a.n = n ∧ Q .normal a.sl H) (a := ⟨n, sl⟩) bf qs σ hB (by simpa using h)) ?_
  intro e a H ⟨h1, h2, h4⟩
  subst h1; exact ⟨h2, h4⟩

/-- A loop inside 'vcg': an invariant on the slots and the heap, and a measure. -/
theorem vcg_loop (hT : TOk P T) {n0 n : Nat} {Q : Ex → List (Nat × Value) → List Blk → Prop} {sl : List (Nat × Value)} {H : List Blk} {c : Code} (I : Nat → List (Nat × Value) → List Blk → Prop) (k : Nat) (h0 : I k sl H)
    (round : ∀ k sl H, I k sl H → vcg P T rd n0 n c (fun e sl' H' => match e with
      | .normal => ∃ k', k' < k ∧ I k' sl' H'
      | .exit i => Q (.exit i) sl' H'
      | .ret => Q .ret sl' H') sl H) : awp P rd n0 (.loop c) (aft n Q) ⟨n, sl⟩ H := by
  refine awp_loop (fun k a H => a.n = n ∧ I k a.sl H) (n := k) ⟨rfl, h0⟩ ?_
  rintro k ⟨n', sl'⟩ H' ⟨rfl, hI⟩
  refine awp_mono (vcg_sound hT c (round k sl' H' hI)) ?_
  rintro e ⟨n2, sl2⟩ H2 ⟨rfl, hq⟩
  cases e with
  | normal => obtain ⟨k', h1, h2⟩ := hq; exact ⟨k', h1, rfl, h2⟩
  | exit i => exact ⟨rfl, hq⟩
  | ret => exact ⟨rfl, hq⟩

end

/-! ### Rows of numbers -/

def ints (xs : List Int) : List Value := xs.map (Value.int .i64)
@[simp] theorem ints_length (xs : List Int) : (ints xs).length = xs.length := by simp [ints]
theorem ints_get (xs : List Int) (i : Nat) : (ints xs)[i]? = (xs[i]?).map (Value.int .i64) := by simp [ints]
end Go.Af
namespace Go.Af
open Go
variable {rd : Bool}

section
variable {P : Program} {T : TT}

/-- Behind a call, blocks that nobody needs are forgotten. -/
def Drop (n0 : Nat) (R : Value → List Blk → Prop) (v : Value) (H : List Blk) : Prop :=
  ∃ ι v2 H2, n0 ≤ H2.length ∧ anch n0 ι ∧ BlksRen ι H ι H2 ∧ injB ι H2 = true ∧ VRen ι v2 v ∧ R v2 H2

theorem Fr.re' {n0 : Nat} {m m' : LM} {H H2 H' : List Blk} {w w' : World} {ι : List (Nat × Nat)} (hb : BlksRen ι H' ι H2) (ha : anch n0 ι) (hn : n0 ≤ H2.length) (h : Fr n0 m H w m' H' w') : Fr n0 m H w (m'.re ι) H2 w' := by
  have e : ∀ i, i < n0 → m'.re ι i = m' i := fun i hi => by simp [LM.re, ha i hi, shiftO_zero]
  refine ⟨h.size, fun _ => hn, fun i hi l hl => by rw [e i hi]; exact h.base i hi l hl, fun i hi hl => by rw [e i hi]; exact h.base' i hi hl, fun i hi b' hb' hr' => ?_, fun r hr hw => ?_, h.out⟩
  · obtain ⟨b, b2, k1, k2, k3⟩ := hb.get (ha i hi)
    rw [hb'] at k2; cases k2
    exact h.rw i hi b k1 (k3.1 hr')
  · obtain ⟨g1, g2⟩ := h.keep r hr hw
    exact ⟨g1, fun hw' => g2 (hw'.re hb)⟩

theorem acall_drop {f : FuncId} {args : List Value} {H : List Blk} {R : Value → List Blk → Prop} (h : ACall P f args H (Drop H.length R)) : ACall P f args H R :=
  ⟨h.1, fun m argsR w hl hh => (h.2 m argsR w hl hh).mono fun vR w' ⟨v, H', m', ⟨ι, v2, H2, h1, h2, h3, h4, h5, h6⟩, r2, r3, r4⟩ =>
    ⟨v2, H2, m'.re ι, h6, h5 m' _ r2, r3.re h3 h4, r4.re' h3 h2 h1⟩⟩

/-! ### Memory that is only read -/

def allRo : List Blk → Bool
  | [] => true
  | b :: r => !b.isRw && allRo r
theorem allRo_get : ∀ {H : List Blk} (_ : allRo H = true) {i : Nat} {b : Blk} (_ : H[i]? = some b), b.isRw = false
  | [], _, i, b, h => by simp at h
  | x :: r, hr, 0, b, h => by simp [allRo] at hr h; subst h; exact hr.1
  | x :: r, hr, i + 1, b, h => by simp [allRo] at hr; exact allRo_get hr.2 (by simpa using h)
theorem allRo_inj : ∀ {ι : List (Nat × Nat)} {H : List Blk} (_ : allRo H = true), injB ι H = true := by
  intro ι
  induction ι with
  | nil => intro H _; simp [injB]
  | cons x r ih =>
    intro H hH
    cases H with
    | nil => simp [injB]
    | cons b bs =>
      simp [allRo] at hH
      have nt : ∀ (l : List (Nat × Nat)) (bs : List Blk), allRo bs = true → noTwin (x.1, b.isRw) l bs = true := by
        intro l
        induction l with
        | nil => intro bs _; simp [noTwin]
        | cons y l ihl =>
          intro bs hbs
          cases bs with
          | nil => simp [noTwin]
          | cons c bs => simp [allRo] at hbs; simpa [noTwin, hH.1, hbs.1] using ihl bs hbs.2
      simp [injB, ih hH.2, nt r bs hH.2]

/-- A CALL OVER MEMORY THAT IS ONLY READ: of any heap in which its arguments can be read. -/
theorem acallx_ro {f : FuncId} {args2 args : List Value} {H2 H : List Blk} {R2 R : Value → List Blk → Prop} (hc : ACall P f args2 H2 R2) (ι : List (Nat × Nat)) (hro : allRo H2 = true) (ha : LRen ι args2 args) (hb : BlksRen ι H ι H2)
    (hR : ∀ v2 H2', R2 v2 H2' → ∃ v N2 N, H2' = H2 ++ N2 ∧ N.length = N2.length ∧ (∀ (k : Nat) (b2 : Blk), N2[k]? = some b2 → (b2.isRw = true ∨ b2 = .dead) ∧ ∃ b, N[k]? = some b ∧ BBack (ι ++ (List.range N2.length).map (fun k => (H.length + k, 0))) b2 b) ∧
      VBack (ι ++ (List.range N2.length).map (fun k => (H.length + k, 0))) v2 v ∧ R v (H ++ N)) : ACallX P f args H R :=
  ⟨hc.1, fun m argsR w hl hh => by
    have hi : injB ι H2 = true := allRo_inj hro
    have hno : ∀ (j i s : Nat) (b2 : Blk), ι[j]? = some (i, s) → H2[j]? = some b2 → b2.isRw = true → False := fun j i s b2 _ h2 h3 => by rw [allRo_get hro h2] at h3; cases h3
    refine (hc.2 (m.re ι) argsR w (ha m _ hl) (hh.re hb hi)).mono ?_
    rintro vR w' ⟨v2, H2', m2', r1, r2, r3, r4⟩
    obtain ⟨v, N2, N, rfl, e1, e2, e3, e4⟩ := hR v2 H2' r1
    have hlen := hb.len
    obtain ⟨m', k1, k2, k3⟩ := emb_core (H' := H ++ N) (ι' := ι ++ (List.range N2.length).map (fun k => (H.length + k, 0))) hh hb hi (fun j i s b2 h1 h2 h3 => (hno j i s b2 h1 h2 h3).elim) r3 r4
      ⟨by simp, by simp [e1], by simp, fun j i s b2 h1 h2 h3 => (hno j i s b2 h1 h2 h3).elim, fun i hi _ => by rw [List.getElem?_append_left hi], fun k b2 hk => by
        rw [List.getElem?_append_right (by omega), Nat.add_sub_cancel_left] at hk
        obtain ⟨g1, b, g2, g3⟩ := e2 k b2 hk
        exact ⟨g1, b, by rw [List.getElem?_append_right (by omega), Nat.add_sub_cancel_left]; exact g2, g3⟩⟩
    refine ⟨⟨v, _, m', e4, e3 m2' m' k3 _ r2, k1, k2⟩, r4.size, fun r hr => (r4.keep r hr ?_).1⟩
    rintro ⟨i, b, h1, h2, h3⟩
    rw [allRo_get hro h2] at h3; cases h3⟩

end
end Go.Af
namespace Go.Af
open Go
abbrev ro (xs : List Int) : Blk := .cells false 1 (ints xs)
abbrev sv (b n : Nat) : Value := .slice (some ⟨b, 0, none⟩) n n

theorem anch_of {n : Nat} {ι : List (Nat × Nat)} (h : ((List.range n).all fun i => decide (ι[i]? = some (i, 0))) = true) : anch n ι := fun i hi => by
  rw [List.all_eq_true] at h
  simpa using h i (List.mem_range.2 hi)

theorem VRel.plain_eq : ∀ (n : Nat) (v : Value) {m : LM} {u : Value}, plainV n v = true → VRel m v u → u = v := by
  intro n
  induction n with
  | zero => intro v m u h; cases h
  | succ n ih =>
    intro v m u h hr
    have lst : ∀ (l : List Value) (us : List Value), l.all (plainV n) = true → LRel m l us → us = l := by
      intro l
      induction l with
      | nil => intro us _ hu; exact hu.inv_nil
      | cons y l ihl =>
        intro us hl hu
        obtain ⟨z, us', rfl, h1, h2⟩ := hu.inv_cons
        simp at hl
        rw [ih y hl.1 h1, ihl us' (by simpa using hl.2) h2]
    unfold plainV at h
    split at h <;> first | exact absurd h (by decide) | (cases hr; rfl) | skip
    · obtain ⟨ys, rfl, hl⟩ := hr.inv_agg
      have := lst _ _ h hl
      rw [Array.ext' this]
    · obtain ⟨ys, rfl, hl⟩ := hr.inv_tuple
      have := lst _ _ h hl
      rw [Array.ext' this]
    · cases hr with
      | iface _ _ v' hv => rw [ih _ h hv]
theorem VBack.plain {ι : List (Nat × Nat)} {v : Value} (h : plainV 6 v = true) : VBack ι v v := fun _ _ _ vR hr => by
  rw [VRel.plain_eq 6 v h hr]; exact VRel.plain _ 6 _ h
theorem VRen.plain {ι : List (Nat × Nat)} {v : Value} (h : plainV 6 v = true) : VRen ι v v := fun m vR hr => by
  rw [VRel.plain_eq 6 v h hr]; exact VRel.plain _ 6 _ h
/-! ### Rows that can be read -/

section
variable {P : Program} {f : FuncId} {args2 args : List Value} {H2 H : List Blk} {R : Value → List Blk → Prop}

/-- The result is plain, nothing else is left. -/
theorem acallx_s {V : Value} (hc : ACall P f args2 H2 (fun v H' => v = V ∧ H' = H2)) (ι : List (Nat × Nat)) (hro : allRo H2 = true) (ha : LRen ι args2 args) (hb : BlksRen ι H ι H2) (hV : plainV 6 V = true) (h : R V H) : ACallX P f args H R :=
  acallx_ro hc ι hro ha hb (by
    rintro v2 H2' ⟨rfl, rfl⟩
    exact ⟨v2, [], [], by simp, rfl, fun k b2 hk => by simp at hk, VBack.plain hV, by simpa using h⟩)

end
end Go.Af
namespace Go.Af
open Go

inductive Plan where
  | done
  | first (i : Nat) (p : Plan)
  | alt (i : Nat) (p q : Plan)
  | no

def vopsT (P : Program) (T : TT) (n : Nat) (all : List Oper) (qs : List Bool) (K : List (Nat × Value) → List Blk → Prop) : Plan → List (Nat × Value) → List Blk → Prop
  | .done, sl, H => K sl H
  | .no, _, _ => True
  | .first i p, sl, H => match opGet all i with
    | some o => guardK all o.guard sl (fun sl => stepQ P T (bAt qs i) o.op sl H (fun v H' => putK n o.dst v sl (fun sl' => vopsT P T n all qs K p sl' H')))
        (fun sl => putK n o.dst undef sl (fun sl' => vopsT P T n all qs K p sl' H))
    | none => False
  | .alt i p q, sl, H => (match opGet all i with
    | some o => guardK all o.guard sl (fun sl => stepQ P T (bAt qs i) o.op sl H (fun v H' => putK n o.dst v sl (fun sl' => vopsT P T n all qs K p sl' H')))
        (fun sl => putK n o.dst undef sl (fun sl' => vopsT P T n all qs K p sl' H))
    | none => False) ∧ vopsT P T n all qs K q sl H

def planB (ops : Array Oper) (bf : Array Nat) (q : Nat → Bool) : Plan → Nat → Array Bool → List Nat → Bool
  | .done, _, listed, ks => ks.isEmpty && (Region.ready .any ops listed).isEmpty
  | .no, 0, _, _ => false
  | .no, _ + 1, listed, ks => !ks.isEmpty && (Region.ready .any ops listed).all fun i => ks.contains i
  | .first _ _, 0, _, _ => false
  | .first i p, fuel + 1, listed, ks => ks.isEmpty && (Region.ready .any ops listed).contains i &&
    (match ops[i]? with
     | none => false
     | some oi => (List.range ops.size).all fun j => j == i || listed.getD j true || waitsFor bf j i || (valOp oi.op && (match ops[j]? with | some oj => oi.apart ops oj && (!readOp oi.op || q j) | none => true))) &&
    planB ops bf q p fuel (listed.setIfInBounds i true) []
  | .alt _ _ _, 0, _, _ => false
  | .alt i p r, fuel + 1, listed, ks => (Region.ready .any ops listed).contains i && planB ops bf q p fuel (listed.setIfInBounds i true) [] && planB ops bf q r (fuel + 1) listed (i :: ks)

def planOk (ops : Array Oper) (bf : Array Nat) (qs : List Bool) (p : Plan) : Bool :=
  Region.noSelect ops && closedB ops bf && planB ops bf (fun i => qs.getD i false) p ops.size (Array.replicate ops.size false) []

section
variable {P : Program} {T : TT}

theorem step_sOp (hT : TOk P T) {all : List Oper} {qs : List Bool} {i : Nat} {o : Oper} (ho : all[i]? = some o) {n n0 : Nat} {m0 : LM} {H0 : List Blk} {w0 : World} {C : List (Nat × Value) → List Blk → Prop} {X : Act → World → Prop} {dfs : List Deferred}
    {sl : List (Nat × Value)} {H : List Blk} (h : guardK all o.guard sl (fun sl => stepQ P T (bAt qs i) o.op sl H (fun v H' => putK n o.dst v sl (fun sl' => C sl' H'))) (fun sl => putK n o.dst undef sl (fun sl' => C sl' H)))
    {m : LM} {aR : Act} {w : World} (hs : SRel m { n, sl } H aR w) (hf : Fr n0 m0 H0 w0 m H w) (hn : n0 ≤ H.length) (hdf : aR.defers = dfs)
    (hC : ∀ {sl' : List (Nat × Value)} {H' : List Blk} {m' : LM} {aR' : Act} {w' : World}, C sl' H' → SRel m' { n, sl := sl' } H' aR' w' → Fr n0 m0 H0 w0 m' H' w' → n0 ≤ H'.length → aR'.defers = dfs → X aR' w') :
    sOp P all.toArray (fun i => qs.getD i false) i X aR w := by
  obtain ⟨sl', hsl, hg⟩ := guardK_spec (aR := aR) h hs.sl o rfl
  have ho' : all.toArray[i]? = some o := by simpa using ho
  have go : ∀ {v : Value} {H' : List Blk} {m' : LM} {vR : Value} {w' : World}, putK n o.dst v sl' (fun sl'' => C sl'' H') → VRel m' v vR → HRel m' H' w' → Fr H.length m H w m' H' w' → X (aR.put o.dst vR) w' := by
    intro v H' m' vR w' hk hv hh hf'
    have hle : m.le m' := hf'.le hs.heap.dom
    obtain ⟨sl2, hk2, hs2, hn2, hd2⟩ := putK_spec (aR := aR) hk (hsl.mono hle) hs.n hv
    have hfw := hf'.weaken hn (Nat.le_refl _)
    exact hC hk2 ⟨hn2, hs2, by rw [hd2]; exact hs.df.keep hf'.keep, hh⟩ (hf.trans hfw) (hfw.len hn) (hd2.trans hdf)
  unfold sOp
  simp only [ho']
  rcases hg with ⟨hw, hg⟩ | ⟨hw, hg⟩
  · simp only [hw, if_true]
    unfold stepQ at hg
    rw [bAt_eq] at hg
    split at hg
    · rename_i hq
      obtain ⟨hX, hd⟩ := xstep_sound hT hg
      obtain ⟨nx, w1, h1, h2⟩ := hX m aR w hsl hs.heap
      exact ⟨hd, nx, w1, h1, h2.mono fun vR w' ⟨⟨v, H', m', k1, k2, k3, k4⟩, k5⟩ => ⟨fun _ => k5, go k1 k2 k3 k4⟩⟩
    · rename_i hq
      obtain ⟨hS, hd⟩ := cstep_sound hT hg
      obtain ⟨nx, w1, h1, h2⟩ := hS m aR w hsl hs.heap
      exact ⟨hd, nx, w1, h1, h2.mono fun vR w' ⟨v, H', m', k1, k2, k3, k4⟩ => ⟨fun hq' => absurd hq' (by rw [hq]; simp), go k1 k2 k3 k4⟩⟩
  · simp only [hw, Bool.false_eq_true, if_false]
    exact go hg (VRel.plain m 6 _ rfl) hs.heap (.refl _ _ _ _)

theorem val_first (hT : TOk P T) {all : List Oper} {qs : List Bool} {bf : Array Nat} (hc : Closed all.toArray bf) (hsel : Region.noSelect all.toArray = true) {i : Nat} {o : Oper} (ho : all[i]? = some o) (hv : valOp o.op = true) {n n0 : Nat} {m0 : LM} {H0 : List Blk} {w0 : World} {C : List (Nat × Value) → List Blk → Prop} {dfs : List Deferred}
    {sl : List (Nat × Value)} {H : List Blk} (h : guardK all o.guard sl (fun sl => stepQ P T (bAt qs i) o.op sl H (fun v H' => putK n o.dst v sl (fun sl' => C sl' H'))) (fun sl => putK n o.dst undef sl (fun sl' => C sl' H)))
    {m : LM} {aR : Act} {w : World} (hs : SRel m { n, sl } H aR w) (hf : Fr n0 m0 H0 w0 m H w) (hn : n0 ≤ H.length) (hdf : aR.defers = dfs) {fuel : Nat} {listed : Array Bool} (hdc : DC bf listed) (hr' : i ∈ Region.ready .any all.toArray listed)
    (hfree : ∀ j oj, all.toArray[j]? = some oj → j ≠ i → listed.getD j true = false → waitsFor bf j i = false → o.apart all.toArray oj = true ∧ (readOp o.op = true → qs.getD j false = true)) {Q : Act → World → Prop}
    (hC : ∀ {sl' : List (Nat × Value)} {H' : List Blk} {m' : LM} {aR' : Act} {w' : World}, C sl' H' → SRel m' { n, sl := sl' } H' aR' w' → Fr n0 m0 H0 w0 m' H' w' → n0 ≤ H'.length → aR'.defers = dfs → sAny P all.toArray (fun i => qs.getD i false) Q fuel (listed.setIfInBounds i true) aR' w') :
    sAny P all.toArray (fun i => qs.getD i false) Q (fuel + 1) listed aR w := by
  obtain ⟨sl', hsl, hg⟩ := guardK_spec (aR := aR) h hs.sl o rfl
  have ho' : all.toArray[i]? = some o := by simpa using ho
  have go : ∀ {v : Value} {H' : List Blk} {m' : LM} {vR : Value} {w' : World}, putK n o.dst v sl' (fun sl'' => C sl'' H') → VRel m' v vR → HRel m' H' w' → Fr H.length m H w m' H' w' → sAny P all.toArray (fun i => qs.getD i false) Q fuel (listed.setIfInBounds i true) (aR.put o.dst vR) w' := by
    intro v H' m' vR w' hk hv hh hf'
    have hle : m.le m' := hf'.le hs.heap.dom
    obtain ⟨sl2, hk2, hs2, hn2, hd2⟩ := putK_spec (aR := aR) hk (hsl.mono hle) hs.n hv
    have hfw := hf'.weaken hn (Nat.le_refl _)
    exact hC hk2 ⟨hn2, hs2, by rw [hd2]; exact hs.df.keep hf'.keep, hh⟩ (hf.trans hfw) (hfw.len hn) (hd2.trans hdf)
  rcases hg with ⟨hw, hg⟩ | ⟨hw, hg⟩
  · have ha : astep P T o.op sl' H (fun v H' => putK n o.dst v sl' (fun sl' => C sl' H')) := by
      unfold stepQ at hg
      split at hg
      · exact xstep_valOp hv hg
      · exact cstep_valOp hv hg
    obtain ⟨hV, hd⟩ := astep_val hT hv ha
    obtain ⟨v, vR, h1, h2, h3⟩ := hV m aR w hsl hs.heap
    exact sAny_first hc ho' (Region.noSelect_spec hsel) _ _ _ _ hdc hfree hr' (.inl ⟨hw, hd, h2⟩) (go h1 h3 hs.heap (.refl _ _ _ _))
  · exact sAny_first hc ho' (Region.noSelect_spec hsel) _ _ _ _ hdc hfree hr' (.inr ⟨hw, rfl⟩) (go hg (VRel.plain m 6 _ rfl) hs.heap (.refl _ _ _ _))

theorem vopsT_any (hT : TOk P T) {all : List Oper} {bf : Array Nat} {qs : List Bool} (hc : Closed all.toArray bf) (hsel : Region.noSelect all.toArray = true) {n n0 : Nat} {m0 : LM} {H0 : List Blk} {w0 : World} {K : List (Nat × Value) → List Blk → Prop} {dfs : List Deferred} :
    ∀ (p : Plan) (fuel : Nat) (listed : Array Bool) (ks : List Nat) (_ : planB all.toArray bf (fun i => qs.getD i false) p fuel listed ks = true) (_ : DC bf listed) {sl : List (Nat × Value)} {H : List Blk} (_ : vopsT P T n all qs K p sl H) {m : LM} {aR : Act} {w : World}
      (_ : SRel m { n, sl } H aR w) (_ : Fr n0 m0 H0 w0 m H w) (_ : n0 ≤ H.length) (_ : aR.defers = dfs),
      (ks = [] → sAny P all.toArray (fun i => qs.getD i false) (fun aR' w' => ∃ sl' H' m', K sl' H' ∧ SRel m' { n, sl := sl' } H' aR' w' ∧ Fr n0 m0 H0 w0 m' H' w' ∧ aR'.defers = dfs) fuel listed aR w) ∧
      (ks ≠ [] → ∃ f, fuel = f + 1 ∧ ∀ j ∈ Region.ready .any all.toArray listed, j ∈ ks ∨ sOp P all.toArray (fun i => qs.getD i false) j (sAny P all.toArray (fun i => qs.getD i false) (fun aR' w' => ∃ sl' H' m', K sl' H' ∧ SRel m' { n, sl := sl' } H' aR' w' ∧ Fr n0 m0 H0 w0 m' H' w' ∧ aR'.defers = dfs) f (listed.setIfInBounds j true)) aR w) := by
  intro p
  induction p with
  | done =>
    intro fuel listed ks hB hdc sl H h m aR w hs hf hn hdf
    simp only [planB, Bool.and_eq_true] at hB
    have hk : ks = [] := by simpa using hB.1
    have hr : Region.ready .any all.toArray listed = [] := by simpa using hB.2
    refine ⟨fun _ => ?_, fun h => absurd hk h⟩
    have hq : ∃ sl' H' m', K sl' H' ∧ SRel m' { n, sl := sl' } H' aR w ∧ Fr n0 m0 H0 w0 m' H' w ∧ aR.defers = dfs := ⟨sl, H, m, h, hs, hf, hdf⟩
    cases fuel with
    | zero => exact ⟨hr, hq⟩
    | succ f => exact ⟨fun _ => hq, fun i hi => by rw [hr] at hi; cases hi⟩
  | no =>
    intro fuel listed ks hB hdc sl H h m aR w hs hf hn hdf
    cases fuel with
    | zero => simp [planB] at hB
    | succ fuel =>
    simp only [planB, Bool.and_eq_true, List.all_eq_true] at hB
    refine ⟨fun hk => ?_, fun _ => ⟨fuel, rfl, fun j hj => .inl (by simpa using hB.2 j hj)⟩⟩
    rw [hk] at hB; simp at hB
  | first i p ih =>
    intro fuel listed ks hB hdc sl H h m aR w hs hf hn hdf
    cases fuel with
    | zero => simp [planB] at hB
    | succ fuel =>
    simp only [planB, Bool.and_eq_true] at hB
    obtain ⟨⟨⟨hk, hr⟩, hall⟩, hB'⟩ := hB
    have hk : ks = [] := by simpa using hk
    have hr' : i ∈ Region.ready .any all.toArray listed := by simpa using hr
    refine ⟨fun _ => ?_, fun h => absurd hk h⟩
    simp only [vopsT, opGet_eq] at h
    cases ho : all[i]? with
    | none => rw [ho] at h; exact h.elim
    | some o =>
      rw [ho] at h
      have ho' : all.toArray[i]? = some o := by simpa using ho
      simp only [ho', List.all_eq_true, List.mem_range, Bool.or_eq_true, beq_iff_eq, Bool.and_eq_true] at hall
      have hdc' := dc_set hc hdc hr'
      by_cases hv : valOp o.op = true
      · refine val_first hT hc hsel ho hv h hs hf hn hdf hdc hr' (fun j oj hj hne hun hno => ?_) (fun hk hs hf hn hdf => (ih _ _ _ hB' hdc' hk hs hf hn hdf).1 rfl)
        have h1 := hall j (Array.getElem?_eq_some_iff.1 hj).1
        simp only [hne, false_or, hun, hno, hj, Bool.false_eq_true] at h1
        have h2 := h1.2
        rw [Bool.and_eq_true] at h2
        refine ⟨h2.1, fun hr => ?_⟩
        have h3 := h2.2
        rw [hr] at h3; simpa using h3
      · have hforce : ∀ j oj, all.toArray[j]? = some oj → j ≠ i → listed.getD j true = false → waitsFor bf j i = true := fun j oj hj hne hun => by
          have h1 := hall j (Array.getElem?_eq_some_iff.1 hj).1
          simp only [hne, false_or, hun, Bool.false_eq_true] at h1
          rcases h1 with h1 | h1
          · exact h1
          · exact absurd h1.1 hv
        refine sAny_forced hc hdc hr' hforce ?_
        exact step_sOp hT ho h hs hf hn hdf (fun hk hs hf hn hdf => (ih _ _ _ hB' hdc' hk hs hf hn hdf).1 rfl)
  | alt i p r ihp ihr =>
    intro fuel listed ks hB hdc sl H h m aR w hs hf hn hdf
    cases fuel with
    | zero => simp [planB] at hB
    | succ fuel =>
    simp only [planB, Bool.and_eq_true] at hB
    obtain ⟨⟨hr, hBp⟩, hBr⟩ := hB
    have hr' : i ∈ Region.ready .any all.toArray listed := by simpa using hr
    simp only [vopsT, opGet_eq] at h
    obtain ⟨h, hrest⟩ := h
    have hdc' := dc_set hc hdc hr'
    obtain ⟨f, hfu, hres⟩ := (ihr _ _ _ hBr hdc hrest hs hf hn hdf).2 (by simp)
    cases hfu
    have hi : sOp P all.toArray (fun i => qs.getD i false) i (sAny P all.toArray (fun i => qs.getD i false) (fun aR' w' => ∃ sl' H' m', K sl' H' ∧ SRel m' { n, sl := sl' } H' aR' w' ∧ Fr n0 m0 H0 w0 m' H' w' ∧ aR'.defers = dfs) fuel (listed.setIfInBounds i true)) aR w := by
      cases ho : all[i]? with
      | none => rw [ho] at h; exact h.elim
      | some o =>
        rw [ho] at h
        exact step_sOp hT ho h hs hf hn hdf (fun hk hs hf hn hdf => (ihp _ _ _ hBp hdc' hk hs hf hn hdf).1 rfl)
    have all' : ∀ j ∈ Region.ready .any all.toArray listed, j ∈ ks ∨ sOp P all.toArray (fun i => qs.getD i false) j (sAny P all.toArray (fun i => qs.getD i false) (fun aR' w' => ∃ sl' H' m', K sl' H' ∧ SRel m' { n, sl := sl' } H' aR' w' ∧ Fr n0 m0 H0 w0 m' H' w' ∧ aR'.defers = dfs) fuel (listed.setIfInBounds j true)) aR w := by
      intro j hj
      rcases hres j hj with h1 | h1
      · rcases List.mem_cons.1 h1 with rfl | h1
        · exact .inr hi
        · exact .inl h1
      · exact .inr h1
    refine ⟨fun hk => ⟨fun h0 => (by rw [h0] at hr'; cases hr'), fun j hj => ?_⟩, fun _ => ⟨fuel, rfl, all'⟩⟩
    rcases all' j hj with h1 | h1
    · rw [hk] at h1; cases h1
    · exact h1

theorem awp_drawT (hT : TOk P T) (hm : P.follows .mixedOrders = true) {rd : Bool} {n0 : Nat} {Q : Ex → AF → List Blk → Prop} {a : AF} {H : List Blk} {id : Nat} {ops : List Oper} (bf : List Nat) (qs : List Bool) (p : Plan) (hB : planOk ops.toArray bf.toArray qs p = true)
    (h : vopsT P T a.n ops qs (fun sl H => Q .normal { n := a.n, sl := sl } H) p a.sl H) : awp P rd n0 (.region id ops.toArray true) Q a H := by
  intro hn m aR w hs b k cs hb
  simp only [planOk, Bool.and_eq_true] at hB
  obtain ⟨⟨h1, h2⟩, h4⟩ := hB
  have hdc : DC bf.toArray (Array.replicate ops.toArray.size false) := fun j hj => by
    rcases Nat.lt_or_ge j ops.toArray.size with h | h
    · simp at h; simp [h] at hj
    · simp at h; simp [h] at hj
  have hs' : SRel m { n := a.n, sl := a.sl } H aR { w with drawn := w.drawn + 1 } := ⟨hs.n, hs.sl, DfOk.keep (w := w) (w' := { w with drawn := w.drawn + 1 }) (m := m) (m' := m) (H := H) (H' := H) (fun _ _ h => ⟨rfl, h⟩) hs.df, hs.heap.drawn _⟩
  have hany := (vopsT_any hT (closedB_spec h2) h1 (n := a.n) (n0 := n0) (m0 := m) (H0 := H) (w0 := w) (dfs := aR.defers) p _ _ _ h4 hdc h (w := { w with drawn := w.drawn + 1 }) hs' (Fr.drawn _) hn rfl).1 rfl
  obtain ⟨aR', w', ⟨sl', H', m', k1, k2, k3, k4⟩, hst⟩ := sAny_steps b k cs ops.toArray.size (w.tape w.drawn (.order b.fn id)) _ _ _ hany
  refine ⟨.normal, _, H', m', aR', w', k1, k2, ⟨k3, .of_eq k4⟩, .head st_region_draw ?_⟩
  simpa [Region.schedule, hm, Region.linearise] using hst

theorem vcg_drawT (hT : TOk P T) (hm : P.follows .mixedOrders = true) {rd : Bool} {n0 n : Nat} {Q : Ex → List (Nat × Value) → List Blk → Prop} {sl : List (Nat × Value)} {H : List Blk} {id : Nat} {ops : List Oper} (bf : List Nat) (qs : List Bool) (p : Plan) (hB : planOk ops.toArray bf.toArray qs p = true)
    (h : vopsT P T n ops qs (fun sl H => Q .normal sl H) p sl H) : awp P rd n0 (.region id ops.toArray true) (aft n Q) ⟨n, sl⟩ H := by
  refine awp_mono (awp_drawT hT hm (Q := fun e a H => e = .normal ∧ a.n = n ∧ Q .normal a.sl H) (a := ⟨n, sl⟩) bf qs p hB ?_) ?_
  · simpa using h
  intro e a H ⟨h1, h2, h4⟩
  subst h1; exact ⟨h2, h4⟩
end
end Go.Af
namespace Go.Af
open Go

section
variable {P : Program} {f : FuncId} {args2 args : List Value} {H2 H : List Blk} {R : Value → List Blk → Prop}
end

end Go.Af
namespace Go.Af
open Go
variable {rd : Bool}
section
variable {P : Program} {T : TT}

end

end Go.Af
namespace Go.Af
open Go

end Go.Af
namespace Go.Af
open Go

section
variable {P : Program} {l N : Nat} {xs : List Value} {I : List Value → (Nat → Prop) → List Blk → Prop} {Z : List Blk → Prop}
end

/-! The record of a range over a function, at a place that is a letter. -/
end Go.Af
namespace Go.Af
open Go

section
variable {H0 H H' : List Blk} {o : Nat → Prop} {L : List (Bool × Nat × Blk)}
/-! ### Steps -/
end
/-! ### Rounds -/
end Go.Af
namespace Go.Af
open Go
variable {rd : Bool}

section
variable {P : Program} {T : TT}
end
section
variable {H0 H H' : List Blk} {o : Nat → Prop} {L : List (Bool × Nat × Blk)}
end
end Go.Af
namespace Go.Af
open Go
variable {rd : Bool} {P : Program} {T : TT}
end Go.Af
