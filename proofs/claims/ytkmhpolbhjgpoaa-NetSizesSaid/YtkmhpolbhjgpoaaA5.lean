/-
  The operations, continued: equality, memory, slices, append; 'astep', which says of an operation what it comes to, and its proof.
-/
import Derived.Test.YtkmhpolbhjgpoaaA4
namespace Go.Af
open Go

/-- What an operation over the abstract heap promises of the model's own. -/
def OpS (P : Program) (o : Oper) (sl : List (Nat × Value)) (H : List Blk) (K : Value → List Blk → Prop) : Prop :=
  ∀ (m : LM) (aR : Act) (w : World), SlRel m sl aR.tmps → HRel m H w → ∃ nx w1, (execOp aR.eval o).run P w = .ok nx w1 ∧
    NextRuns P nx w1 (fun vR w' => ∃ v H' m', K v H' ∧ VRel m' v vR ∧ HRel m' H' w' ∧ Fr H.length m H w m' H' w')

/-- What was there is as it was. -/
def ExtW (w w' : World) : Prop := w.heap.size ≤ w'.heap.size ∧ ∀ r, r < w.heap.size → w'.heap[r]? = w.heap[r]?
theorem ExtW.refl (w : World) : ExtW w w := ⟨Nat.le_refl _, fun _ _ => rfl⟩
theorem ExtW.trans {a b c : World} (h : ExtW a b) (k : ExtW b c) : ExtW a c := ⟨Nat.le_trans h.1 k.1, fun r hr => (k.2 r (Nat.lt_of_lt_of_le hr h.1)).trans (h.2 r hr)⟩
theorem HRel.ext {m : LM} {H : List Blk} {w w' : World} (h : HRel m H w) (hx : ExtW w w') : HRel m H w' := h.same fun _ r hi => hx.2 r (h.lt hi)

/-- An operation that looks at memory. -/
def readOp : Op → Bool
  | .load .. | .lookup .. | .range .. | .next .. | .entry .. | .mapEntry .. => true
  | _ => false

/-- An operation that makes a value and touches nothing, now and (if it looks at memory) whenever there is more memory, else whatever becomes of memory. -/
def OpV (P : Program) (o : Oper) (sl : List (Nat × Value)) (H : List Blk) (K : Value → List Blk → Prop) : Prop :=
  ∀ (m : LM) (aR : Act) (w : World), SlRel m sl aR.tmps → HRel m H w → ∃ v vR, K v H ∧ (∀ w', (readOp o.op = true → ExtW w w') → (execOp aR.eval o).run P w' = .ok (.value vR) w') ∧ VRel m v vR

theorem OpV.ops {P : Program} {o : Oper} {sl : List (Nat × Value)} {H : List Blk} {K : Value → List Blk → Prop} (h : OpV P o sl H K) : OpS P o sl H K := by
  intro m aR w hs hh
  obtain ⟨v, vR, h1, h2, h3⟩ := h m aR w hs hh
  exact ⟨_, _, h2 w (fun _ => .refl w), v, H, m, h1, h3, hh, .refl _ _ _ _⟩

/-- An operation that makes a row of cells, and nothing else. -/
def OpA (P : Program) (o : Oper) (sl : List (Nat × Value)) (H : List Blk) (K : Value → List Blk → Prop) : Prop :=
  ∀ (m : LM) (aR : Act) (w : World), SlRel m sl aR.tmps → HRel m H w → ∃ (z : Nat) (vs : List Value) (vs' : Array Value) (e : TypeId) (v vR : Value), 0 < z ∧ K v (H ++ [.cells true z vs]) ∧ (execOp aR.eval o).run P w = .ok (.value vR) { w with heap := w.heap.push (.cells vs' e) } ∧
      LRel m vs vs'.toList ∧ VRel (m.put H.length (.cel w.heap.size 0 vs'.size z)) v vR

theorem ExtW.push (w : World) (o : Obj) : ExtW w { w with heap := w.heap.push o } := ⟨by simp, fun _ hr => heap_push_lt hr⟩

/-- An operation that at most makes more memory. -/
def OpX (P : Program) (o : Oper) (sl : List (Nat × Value)) (H : List Blk) (K : Value → List Blk → Prop) : Prop :=
  ∀ (m : LM) (aR : Act) (w : World), SlRel m sl aR.tmps → HRel m H w → ∃ nx w1, (execOp aR.eval o).run P w = .ok nx w1 ∧
    NextRuns P nx w1 (fun vR w' => (∃ v H' m', K v H' ∧ VRel m' v vR ∧ HRel m' H' w' ∧ Fr H.length m H w m' H' w') ∧ ExtW w w')

theorem OpX.ops {P : Program} {o : Oper} {sl : List (Nat × Value)} {H : List Blk} {K : Value → List Blk → Prop} (h : OpX P o sl H K) : OpS P o sl H K := fun m aR w hs hh =>
  let ⟨nx, w1, h1, h2⟩ := h m aR w hs hh
  ⟨nx, w1, h1, h2.mono fun _ _ h => h.1⟩

theorem OpV.ext {P : Program} {o : Oper} {sl : List (Nat × Value)} {H : List Blk} {K : Value → List Blk → Prop} (h : OpV P o sl H K) : OpX P o sl H K := by
  intro m aR w hs hh
  obtain ⟨v, vR, h1, h2, h3⟩ := h m aR w hs hh
  exact ⟨_, _, h2 w (fun _ => .refl w), ⟨v, H, m, h1, h3, hh, .refl _ _ _ _⟩, .refl w⟩

theorem OpA.ext {P : Program} {o : Oper} {sl : List (Nat × Value)} {H : List Blk} {K : Value → List Blk → Prop} (h : OpA P o sl H K) : OpX P o sl H K := by
  intro m aR w hs hh
  obtain ⟨z, vs, vs', e, v, vR, hz, h1, h2, h3, h4⟩ := h m aR w hs hh
  refine ⟨_, _, h2, ⟨v, _, _, h1, h4, hh.alloc rfl ?_, Fr.alloc hh _ _ rfl⟩, .push _ _⟩
  refine ⟨vs', e, (0, 0), by simp, fun i x hx => ?_, .inr rfl, fun _ => ⟨fun j hj => by omega, rfl, hz, rfl⟩⟩
  obtain ⟨y, hy, hr⟩ := h3.get hx
  exact ⟨y, by simpa using hy, hr.mono (LM.le_put hh.none_len)⟩

theorem run_pureNext {P : Program} {w : World} {s : Sem Value} {v : Value} {w' : World} (h : s.run P w = .ok v w') : (do pure (Next.value (← s)) : Sem Next).run P w = .ok (.value v) w' := by simp [h]

/-! ### Equality -/

/-- The equality of two rows of numbers, of a struct or an array type: a closed fact on the type. -/
def AggEq (P : Program) (t : TypeId) (ks : List IntKind) : Prop :=
  ∀ (as bs : List Int), as.length = ks.length → bs.length = ks.length → ∀ w : World,
    (Op.equal t (.agg ⟨List.zipWith Value.int ks as⟩) (.agg ⟨List.zipWith Value.int ks bs⟩)).run P w = .ok (decide (as = bs)) w ∧
    ∀ (op : BinOp) (x y : Operand), (eqGuard op t x y (.agg ⟨List.zipWith Value.int ks as⟩) (.agg ⟨List.zipWith Value.int ks bs⟩)).run P w = .ok () w

def intsOf : List Value → List IntKind → (List Int → Prop) → Prop
  | [], [], K => K []
  | .int k n :: r, j :: ks, K => match sameK k j with
    | true => intsOf r ks (fun l => K (n :: l))
    | false => False
  | _, _, _ => False
theorem intsOf_spec : ∀ (l : List Value) (ks : List IntKind) (K : List Int → Prop), intsOf l ks K → ∃ as, K as ∧ as.length = ks.length ∧ l = List.zipWith Value.int ks as
  | [], [], K, h => ⟨[], h, rfl, rfl⟩
  | .int k n :: r, j :: ks, K, h => by
    simp only [intsOf] at h
    split at h
    · rename_i hk
      obtain ⟨as, h1, h2, h3⟩ := intsOf_spec r ks _ h
      have := sameK_eq hk; subst this
      exact ⟨n :: as, h1, by simp [h2], by simp [← h3]⟩
    · exact h.elim
  | [], _ :: _, _, h => h.elim
  | .int _ _ :: _, [], _, h => h.elim
  | .bool _ :: _, _, _, h => by cases ‹List IntKind› <;> exact h.elim
  | .float _ _ :: _, _, _, h => by cases ‹List IntKind› <;> exact h.elim
  | .complex _ _ _ :: _, _, _, h => by cases ‹List IntKind› <;> exact h.elim
  | .string _ :: _, _, _, h => by cases ‹List IntKind› <;> exact h.elim
  | .pointer _ :: _, _, _, h => by cases ‹List IntKind› <;> exact h.elim
  | .slice _ _ _ :: _, _, _, h => by cases ‹List IntKind› <;> exact h.elim
  | .map _ :: _, _, _, h => by cases ‹List IntKind› <;> exact h.elim
  | .chan _ :: _, _, _, h => by cases ‹List IntKind› <;> exact h.elim
  | .func _ _ _ :: _, _, _, h => by cases ‹List IntKind› <;> exact h.elim
  | .nilFunc :: _, _, _, h => by cases ‹List IntKind› <;> exact h.elim
  | .iface _ _ :: _, _, _, h => by cases ‹List IntKind› <;> exact h.elim
  | .nilIface :: _, _, _, h => by cases ‹List IntKind› <;> exact h.elim
  | .agg _ :: _, _, _, h => by cases ‹List IntKind› <;> exact h.elim
  | .tuple _ :: _, _, _, h => by cases ‹List IntKind› <;> exact h.elim

theorem LRel.ints {m : LM} {ys : List Value} : ∀ {ks : List IntKind} {as : List Int}, LRel m (List.zipWith Value.int ks as) ys → ys = List.zipWith Value.int ks as
  | [], _, h => by simp at h; exact h.inv_nil.trans (by simp)
  | k :: ks, [], h => by simp at h; exact h.inv_nil.trans (by simp)
  | k :: ks, a :: as, h => by
    simp only [List.zipWith_cons_cons] at h ⊢
    obtain ⟨y, ys', rfl, h1, h2⟩ := h.inv_cons
    cases h1
    rw [LRel.ints h2]

def isConstO : Operand → Bool
  | .const _ => true
  | _ => false

section eqs
variable {P : Program} {t : TypeId} (w : World) (d : Nat)
theorem eqIn_bool (h : P.underlying t = some .bool) (a b : Bool) : (Op.equalIn (d + 1) t (.bool a) (.bool b)).run P w = .ok (a == b) w := by rw [Op.equalIn]; simp [run_und h]
theorem eqIn_ptr0 {e : TypeId} (h : P.underlying t = some (.pointer e)) (b : Option Addr) : (Op.equalIn (d + 1) t (.pointer none) (.pointer b)).run P w = .ok b.isNone w := by rw [Op.equalIn]; simp [run_und h]
theorem eqIn_ptr1 {e : TypeId} (h : P.underlying t = some (.pointer e)) (a : Addr) : (Op.equalIn (d + 1) t (.pointer (some a)) (.pointer none)).run P w = .ok false w := by rw [Op.equalIn]; simp [run_und h]
theorem eqIn_if0 {ms : Array (String × TypeId)} (h : P.underlying t = some (.interface ms)) : (Op.equalIn (d + 1) t .nilIface .nilIface).run P w = .ok true w := by rw [Op.equalIn]; simp [run_und h]
theorem eqIn_if1 {ms : Array (String × TypeId)} (h : P.underlying t = some (.interface ms)) (u : TypeId) (v : Value) : (Op.equalIn (d + 1) t .nilIface (.iface u v)).run P w = .ok false w := by rw [Op.equalIn]; simp [run_und h]
theorem eqIn_if2 {ms : Array (String × TypeId)} (h : P.underlying t = some (.interface ms)) (u : TypeId) (v : Value) : (Op.equalIn (d + 1) t (.iface u v) .nilIface).run P w = .ok false w := by rw [Op.equalIn]; simp [run_und h]
theorem eqIn_sl0 {e : TypeId} (h : P.underlying t = some (.slice e)) (l c : Nat) (b : Option Addr) (l' c' : Nat) : (Op.equalIn (d + 1) t (.slice none l c) (.slice b l' c')).run P w = .ok b.isNone w := by rw [Op.equalIn]; simp [run_und h]
theorem eqIn_sl1 {e : TypeId} (h : P.underlying t = some (.slice e)) (a : Addr) (l c : Nat) (l' c' : Nat) : (Op.equalIn (d + 1) t (.slice (some a) l c) (.slice none l' c')).run P w = .ok false w := by rw [Op.equalIn]; simp [run_und h]
theorem eqIn_map0 {k e : TypeId} (h : P.underlying t = some (.map k e)) (b : Option Nat) : (Op.equalIn (d + 1) t (.map none) (.map b)).run P w = .ok b.isNone w := by rw [Op.equalIn]; simp [run_und h]
theorem eqIn_map1 {k e : TypeId} (h : P.underlying t = some (.map k e)) (b : Nat) : (Op.equalIn (d + 1) t (.map (some b)) (.map none)).run P w = .ok false w := by rw [Op.equalIn]; simp [run_und h]
theorem eqIn_fn0 {a b : Array TypeId} {v : Bool} (h : P.underlying t = some (.func a b v)) : (Op.equalIn (d + 1) t .nilFunc .nilFunc).run P w = .ok true w := by rw [Op.equalIn]; simp [run_und h]
theorem eqIn_fn1 {a b : Array TypeId} {v : Bool} (h : P.underlying t = some (.func a b v)) (f : Fn) (xs ys : Array Value) : (Op.equalIn (d + 1) t (.func f xs ys) .nilFunc).run P w = .ok false w := by rw [Op.equalIn]; simp [run_und h]
end eqs

/-- Neither numbers nor strings: '==' asks Op.equal. -/
def eqKind : Value → Bool
  | .int _ _ | .float _ _ | .complex _ _ _ | .string _ => false
  | _ => true
theorem binOp_eql {P : Program} {t : TypeId} {x y : Value} {w : World} {b : Bool} (hx : eqKind x = true) (h : (Op.equalIn (9999 + 1) t x y).run P w = .ok b w) :
    (binOp .eql t x y).run P w = .ok (.bool b) w ∧ (binOp .neq t x y).run P w = .ok (.bool (!b)) w := by
  have h' : (Op.equal t x y).run P w = .ok b w := h
  cases x <;> simp only [eqKind, Bool.false_eq_true] at hx <;> simp only [binOp, Sem.run_bind, h', Result.andThen_ok, Sem.run_pure, and_self]

def guardKind : Value → Bool
  | .agg _ | .nilIface => false
  | _ => true
theorem guard_l {P : Program} {t : TypeId} {x y : Value} {w : World} (hx : guardKind x = true) (op : BinOp) (xo yo : Operand) : (eqGuard op t xo yo x y).run P w = .ok () w := by
  cases op <;> cases x <;> simp only [guardKind, Bool.false_eq_true] at hx <;> simp [eqGuard]
theorem guard_r {P : Program} {t : TypeId} {x y : Value} {w : World} (hx : guardKind y = true) (op : BinOp) (xo yo : Operand) : (eqGuard op t xo yo x y).run P w = .ok () w := by
  cases op <;> cases y <;> simp only [guardKind, Bool.false_eq_true] at hx <;> cases x <;> simp [eqGuard]
theorem guard_nil {P : Program} {t : TypeId} {w : World} {xo yo : Operand} (h : (isConstO xo || isConstO yo) = true) (op : BinOp) : (eqGuard op t xo yo .nilIface .nilIface).run P w = .ok () w := by
  cases op <;> cases xo <;> cases yo <;> simp [isConstO] at h <;> simp [eqGuard]

def aeq (P : Program) (T : TT) (H : List Blk) (t : TypeId) (xo yo : Operand) (x y : Value) (K : Bool → Prop) : Prop :=
  match tget T t with
  | none => False
  | some i => match i.kind, x, y with
    | .int _, .int k a, .int j b => match sameK k j with
      | true => K (decide (a = b))
      | false => False
    | .bool, .bool a, .bool b => K (a == b)
    | .str, .string a, .string b => K (a.toList == b.toList)
    | .ptr _, .pointer none, .pointer none => K true
    | .ptr _, .pointer none, .pointer (some _) => K false
    | .ptr _, .pointer (some _), .pointer none => K false
    | .iface, .nilIface, .iface _ _ => K false
    | .iface, .iface _ _, .nilIface => K false
    | .iface, .nilIface, .nilIface => match isConstO xo || isConstO yo with
      | true => K true
      | false => False
    | .slice _, .slice none _ _, .slice none _ _ => K true
    | .slice _, .slice (some ⟨b, _, none⟩) (_ + 1) _, .slice none _ _ => match bget H b with
      | some (.cells _ _ _) => K false
      | _ => False
    | .map _ _, .map none, .map none => K true
    | .map _ _, .map (some _), .map none => K false
    | .func, .nilFunc, .nilFunc => K true
    | .func, .func _ _ _, .nilFunc => K false
    | .struct _, .agg xs, .agg ys => ∃ ks, AggEq P t ks ∧ intsOf xs.toList ks (fun as => intsOf ys.toList ks (fun bs => K (decide (as = bs))))
    | .arr _ _, .agg xs, .agg ys => ∃ ks, AggEq P t ks ∧ intsOf xs.toList ks (fun as => intsOf ys.toList ks (fun bs => K (decide (as = bs))))
    | _, _, _ => False

theorem slicePtr {m : LM} {b o l c : Nat} {v : Value} (h : VRel m (.slice (some ⟨b, o, none⟩) (l + 1) c) v) (hd : m b ≠ some .dead) : ∃ a c', v = .slice (some a) (l + 1) c' := by
  cases h with
  | slice b o r sh tot esz l c c' h hc hl => exact ⟨_, _, rfl⟩
  | sliceDead b o l c c' a h _ => exact absurd h hd

theorem aeq_agg {P : Program} {t : TypeId} {x y : Array Value} {K : Bool → Prop} {m : LM} {x' y' : Value} (hx : VRel m (.agg x) x') (hy : VRel m (.agg y) y')
    (h : ∃ ks, AggEq P t ks ∧ intsOf x.toList ks (fun as => intsOf y.toList ks (fun bs => K (decide (as = bs))))) :
    ∃ b, K b ∧ (∀ w, (Op.equal t x' y').run P w = .ok b w) ∧ (∀ (w : World) (op : BinOp) (xo yo : Operand), (eqGuard op t xo yo x' y').run P w = .ok () w) ∧ (∃ a, x' = .agg a) := by
  obtain ⟨ks, h1, h2⟩ := h
  obtain ⟨as, h3, h4, h5⟩ := intsOf_spec _ _ _ h2
  obtain ⟨bs, h6, h7, h8⟩ := intsOf_spec _ _ _ h3
  obtain ⟨xs', rfl, hx1⟩ := hx.inv_agg
  obtain ⟨ys', rfl, hy1⟩ := hy.inv_agg
  rw [h5] at hx1; rw [h8] at hy1
  have ex : xs' = ⟨List.zipWith Value.int ks as⟩ := by have := hx1.ints; cases xs'; simpa using this
  have ey : ys' = ⟨List.zipWith Value.int ks bs⟩ := by have := hy1.ints; cases ys'; simpa using this
  subst ex; subst ey
  have := h1 as bs h4 h7
  exact ⟨_, h6, fun w => (this w).1, fun w => (this w).2, _, rfl⟩

theorem aeq_run {P : Program} {T : TT} (hT : TOk P T) {H : List Blk} {w : World} {t : TypeId} {xo yo : Operand} {x y : Value} {K : Bool → Prop} {m : LM} {x' y' : Value} (hH : HRel m H w)
    (hx : VRel m x x') (hy : VRel m y y') (h : aeq P T H t xo yo x y K) :
    ∃ b, K b ∧ (∀ w, (binOp .eql t x' y').run P w = .ok (.bool b) w ∧ (binOp .neq t x' y').run P w = .ok (.bool (!b)) w) ∧ (∀ (w : World) (op : BinOp), (eqGuard op t xo yo x' y').run P w = .ok () w) := by
  unfold aeq at h
  split at h
  · exact h.elim
  rename_i i hi
  have ht := (hT.get hi).und
  split at h <;> try exact h.elim
  all_goals (rename_i hk; try rw [hk] at ht; simp only [KOk] at ht)
  · -- int
    split at h
    · rename_i hs; have := sameK_eq hs; subst this
      cases hx; cases hy
      refine ⟨_, h, fun w => ⟨?_, ?_⟩, fun w op => guard_l rfl op xo yo⟩
      · simp only [binOp]; simp [Op.intCmp]; rfl
      · simp only [binOp]; simp [Op.intCmp, bne]; rfl
    · exact h.elim
  · cases hx; cases hy
    exact ⟨_, h, fun w => binOp_eql rfl (eqIn_bool w _ ht _ _), fun w op => guard_l rfl op xo yo⟩
  · cases hx; cases hy
    refine ⟨_, h, fun w => ⟨?_, ?_⟩, fun w op => guard_l rfl op xo yo⟩
    · simp only [binOp]; simp [Op.stringOp]
    · simp only [binOp]; simp [Op.stringOp]
  · cases hx; cases hy
    exact ⟨_, h, fun w => binOp_eql rfl (eqIn_ptr0 w _ ht _), fun w op => guard_l rfl op xo yo⟩
  · cases hx
    cases hy <;> exact ⟨_, h, fun w => binOp_eql rfl (eqIn_ptr0 w _ ht _), fun w op => guard_l rfl op xo yo⟩
  · cases hy
    cases hx <;> exact ⟨_, h, fun w => binOp_eql rfl (eqIn_ptr1 w _ ht _), fun w op => guard_l rfl op xo yo⟩
  · obtain ⟨ms, ht⟩ := ht
    cases hx; cases hy
    exact ⟨_, h, fun w => binOp_eql rfl (eqIn_if1 w _ ht _ _), fun w op => guard_r rfl op xo yo⟩
  · obtain ⟨ms, ht⟩ := ht
    cases hx; cases hy
    exact ⟨_, h, fun w => binOp_eql rfl (eqIn_if2 w _ ht _ _), fun w op => guard_l rfl op xo yo⟩
  · obtain ⟨ms, ht⟩ := ht
    cases hx; cases hy
    split at h
    · rename_i hcst
      exact ⟨_, h, fun w => binOp_eql rfl (eqIn_if0 w _ ht), fun w op => guard_nil hcst op⟩
    · exact h.elim
  · cases hx; cases hy
    exact ⟨_, h, fun w => binOp_eql rfl (eqIn_sl0 w _ ht _ _ _ _ _), fun w op => guard_l rfl op xo yo⟩
  · split at h
    · rename_i hb
      obtain ⟨a, c', rfl⟩ := slicePtr hx (fun hd => by have := hH.dd _ hd; rw [bget_eq, this] at hb; cases hb)
      cases hy
      exact ⟨_, h, fun w => binOp_eql rfl (eqIn_sl1 w _ ht _ _ _ _ _), fun w op => guard_l rfl op xo yo⟩
    · exact h.elim
  · cases hx; cases hy
    exact ⟨_, h, fun w => binOp_eql rfl (eqIn_map0 w _ ht _), fun w op => guard_l rfl op xo yo⟩
  · cases hx; cases hy
    exact ⟨_, h, fun w => binOp_eql rfl (eqIn_map1 w _ ht _), fun w op => guard_l rfl op xo yo⟩
  · obtain ⟨_, _, _, ht⟩ := ht
    cases hx; cases hy
    exact ⟨_, h, fun w => binOp_eql rfl (eqIn_fn0 w _ ht), fun w op => guard_l rfl op xo yo⟩
  · obtain ⟨_, _, _, ht⟩ := ht
    obtain ⟨f', xs', ys', rfl, _⟩ := hx.inv_func
    cases hy
    exact ⟨_, h, fun w => binOp_eql rfl (eqIn_fn1 w _ ht _ _ _), fun w op => guard_l rfl op xo yo⟩
  · obtain ⟨b, h1, h2, h3, a, rfl⟩ := aeq_agg hx hy h
    obtain ⟨ys', rfl, _⟩ := hy.inv_agg
    exact ⟨b, h1, fun w => binOp_eql rfl (h2 w), fun w op => h3 w op xo yo⟩
  · obtain ⟨b, h1, h2, h3, a, rfl⟩ := aeq_agg hx hy h
    obtain ⟨ys', rfl, _⟩ := hy.inv_agg
    exact ⟨b, h1, fun w => binOp_eql rfl (h2 w), fun w op => h3 w op xo yo⟩

end Go.Af
