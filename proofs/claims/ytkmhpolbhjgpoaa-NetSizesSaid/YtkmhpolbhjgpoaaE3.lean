/-
  What the computed operations do is what the conditions of the abstract heap ask.
-/
import Derived.Test.YtkmhpolbhjgpoaaE2
namespace Go.Af
open Go

def SlOk (F : Tr Value) (sl : List (Nat × Value)) : Prop := ∀ s v, F.get (psOf s) = some v → look sl s = some v

def BOk (w : Bool) (eb : EB) (b : Blk) : Prop :=
  match eb with
  | .cells z vs => b = .cells w z vs
  | .loop st pend n F ps as body _ => match w with
    | true => ∃ sl, SlOk F sl ∧ b = .loop st pend n sl ps as body
    | false => b = .ghost
  | .dead => b = .dead

structure HOk (B : Tr EB) (lim : Nat) (M : Tr EB) (n : Nat) (H : List Blk) : Prop where
  len : H.length = n
  le : lim ≤ n
  get : ∀ i eb, M.get (psOf i) = some eb → i < n ∧ ∃ b, H[i]? = some b ∧ BOk (Nat.ble lim i) eb b
  all : ∀ i, i < n → ∃ eb, M.get (psOf i) = some eb
  base : ∀ i, i < lim → M.get (psOf i) = B.get (psOf i)

structure EOk (P : Program) (E : Env) : Prop where
  T : TOk P E.T
  eqs : ∀ t ks, (t, ks) ∈ E.eqs → AggEq P t ks
  ms : ∀ name m, (name, m) ∈ E.ms → ∀ t f, (t, f) ∈ m → ∀ (v : Value) (w : World), (method (P.types.size + Made.depth) t v name).run P w = .ok (f, v) w

theorem bnd {a b : Bool} (h : (a && b) = true) : a = true ∧ b = true := by cases a <;> cases b <;> simp_all
theorem brT {f t : Bool} {b : Bool} (h : Bool.rec (motive := fun _ => Bool) f t b = true) (hf : f = false) : b = true ∧ t = true := by cases b <;> simp_all
theorem brT' {t : Bool} {b : Bool} (h : Bool.rec (motive := fun _ => Bool) false t b = true) : b = true ∧ t = true := brT h rfl

section
variable {F : Tr Value} {sl : List (Nat × Value)}
theorem gv_spec {x : Operand} {K : Value → Bool} (hs : SlOk F sl) (h : gv (cv x) F K = true) : ∃ v, ev sl x = some v ∧ K v = true := by
  cases x with
  | tmp t =>
    obtain ⟨v, h1, h2⟩ := Tr.getK_spec (show F.getK K (psOf t) = true from h)
    exact ⟨v, hs t v h1, h2⟩
  | const v =>
    simp only [cv] at h
    split at h
    · rename_i hp; exact ⟨v, by simp [ev, hp], h⟩
    · cases h
  | global g => cases h
  | func f => exact ⟨_, rfl, h⟩
theorem gvs_spec (hs : SlOk F sl) : ∀ {l : List Operand} {K : List Value → Bool} (_ : gvs (l.map cv) F K = true), ∃ vs, evs sl l = some vs ∧ K vs = true
  | [], K, h => ⟨[], rfl, h⟩
  | x :: l, K, h => by
    obtain ⟨v, h1, h2⟩ := gv_spec hs (show gv (cv x) F (fun v => gvs (l.map cv) F (fun vs => K (v :: vs))) = true from h)
    obtain ⟨vs, h3, h4⟩ := gvs_spec hs h2
    exact ⟨v :: vs, by simp [evs, h1, h3], h4⟩
end

section
variable {B M : Tr EB} {lim n : Nat} {H : List Blk}
theorem HOk.alloc (hh : HOk B lim M n H) {eb : EB} {b : Blk} (hb : BOk true eb b) : HOk B lim (M.set eb (psOf n)) (n + 1) (H ++ [b]) := by
  refine ⟨by simp [hh.len], by have := hh.le; omega, fun i e he => ?_, fun i hi => ?_, fun i hi => ?_⟩
  · rw [Tr.get_set] at he
    split at he
    · rename_i hp; have := psOf_inj hp; subst this; cases he
      refine ⟨by omega, b, by rw [List.getElem?_append_right (by rw [hh.len]; exact Nat.le_refl _)]; simp [hh.len], ?_⟩
      rw [Nat.ble_eq_true_of_le hh.le]; exact hb
    · obtain ⟨h1, b', h2, h3⟩ := hh.get i e he
      exact ⟨by omega, b', by rw [List.getElem?_append_left (by rw [hh.len]; exact h1)]; exact h2, h3⟩
  · rw [Tr.get_set]
    split
    · exact ⟨_, rfl⟩
    · rename_i hp; exact hh.all i (by have : i ≠ n := fun e => hp (by rw [e]); omega)
  · rw [Tr.get_set, if_neg (fun hp => by have := psOf_inj hp; have := hh.le; omega)]
    exact hh.base i hi
theorem HOk.write (hh : HOk B lim M n H) {i : Nat} (hl : lim ≤ i) (hi : i < n) {eb : EB} {b : Blk} (hb : BOk true eb b) : HOk B lim (M.set eb (psOf i)) n (H.set i b) := by
  refine ⟨by simp [hh.len], hh.le, fun j e he => ?_, fun j hj => ?_, fun j hj => ?_⟩
  · rw [Tr.get_set] at he
    split at he
    · rename_i hp; have := psOf_inj hp; subst this; cases he
      refine ⟨hi, b, by simp [hh.len, hi], ?_⟩
      rw [Nat.ble_eq_true_of_le hl]; exact hb
    · rename_i hp
      obtain ⟨h1, b', h2, h3⟩ := hh.get j e he
      have hne : i ≠ j := fun e => hp (by rw [e])
      exact ⟨h1, b', by simp [hne, h2], h3⟩
  · rw [Tr.get_set]
    split
    · exact ⟨_, rfl⟩
    · exact hh.all j hj
  · rw [Tr.get_set, if_neg (fun hp => by have := psOf_inj hp; omega)]
    exact hh.base j hj

theorem cellsE_spec (hh : HOk B lim M n H) {b : Nat} {K : Nat → List Value → Bool} (h : cellsE M b K = true) : ∃ z vs, bget H b = some (.cells (Nat.ble lim b) z vs) ∧ b < n ∧ M.get (psOf b) = some (.cells z vs) ∧ K z vs = true := by
  obtain ⟨eb, h1, h2⟩ := Tr.getK_spec h
  obtain ⟨h3, b', h4, h5⟩ := hh.get b eb h1
  split at h2
  · exact ⟨_, _, by rw [bget_eq, h4, h5], h3, h1, h2⟩
  · cases h2

/-- What is asked of what follows. -/
abbrev Aft (B : Tr EB) (lim : Nat) (K : HK) : Value → List Blk → Prop := fun v H' => ∃ M' n', HOk B lim M' n' H' ∧ K v M' n' = true

theorem allocE_spec (hh : HOk B lim M n H) {eb : EB} {b : Blk} (hb : BOk true eb b) {K : Nat → Tr EB → Nat → Bool} (h : allocE M n eb K = true) {R : Nat → List Blk → Prop} (hR : ∀ i M' n' H', HOk B lim M' n' H' → K i M' n' = true → R i H') :
    bsnocK H 0 b R := by
  rw [bsnocK_eq, Nat.zero_add, hh.len]
  simp only [allocE, Tr.setK_eq, natF_eq] at h
  exact hR _ _ _ _ (hh.alloc hb) h
end

theorem allOne_eq : ∀ (l : List Value), allOne l = l.all oneCellV
  | [] => rfl
  | x :: l => by
    show Bool.rec (motive := fun _ => Bool) false (allOne l) (oneCellV x) = _
    rw [allOne_eq l]; cases h : oneCellV x <;> simp [h]

theorem numE_spec {k : IntKind} {z : Int} {K : Value → Bool} (h : numE k z K = true) {K' : Value → Prop} (hK : ∀ v, K v = true → K' v) : numK k z K' := by
  cases k <;> simp only [numE, intF_eq] at h <;> simp only [numK] <;> try exact hK _ h
  obtain ⟨h1, h2⟩ := brT' h
  exact .inl ⟨z, rfl, fit64_spec h1, hK _ h2⟩

theorem arithE_spec {op : BinOp} {x y : Value} {K : Value → Bool} (h : arithE op x y K = true) {K' : Value → Prop} (hK : ∀ v, K v = true → K' v) : abin op x y K' := by
  unfold arithE at h
  split at h <;> try (cases h; done)
  · rename_i k a
    split at h <;> try (cases h; done)
    rename_i j b
    have two : ∀ {t : Bool}, Bool.rec (motive := fun _ => Bool) false t (sameK k j) = true → sameK k j = true ∧ t = true := fun h => brT' h
    cases op <;> simp only [abin] <;> simp only at h
    case shl => obtain ⟨q, rfl, h'⟩ := natOf_spec h; have h := h'; exact ⟨by omega, numE_spec (by simpa using h) hK⟩
    case shr => obtain ⟨q, rfl, h'⟩ := natOf_spec h; have h := h'; rw [intF_eq] at h; exact ⟨by omega, _, rfl, hK _ (by simpa using h)⟩
    all_goals (obtain ⟨hs, h⟩ := two h; rw [hs]; simp only)
    case add => exact numE_spec h hK
    case sub => exact numE_spec h hK
    case mul => exact numE_spec h hK
    case quo =>
      cases hb : ieq b 0 with
      | true => rw [hb] at h; cases h
      | false => rw [hb] at h; rw [ieq_eq] at hb; exact ⟨by simpa using hb, numE_spec h hK⟩
    case rem =>
      cases hb : ieq b 0 with
      | true => rw [hb] at h; cases h
      | false => rw [hb] at h; rw [ieq_eq] at hb; rw [intF_eq] at h; exact ⟨by simpa using hb, _, rfl, hK _ h⟩
    case and => rw [intF_eq] at h; exact ⟨_, rfl, hK _ h⟩
    case or => rw [intF_eq] at h; exact ⟨_, rfl, hK _ h⟩
    case xor => rw [intF_eq] at h; exact ⟨_, rfl, hK _ h⟩
    case andNot => rw [intF_eq] at h; exact ⟨_, rfl, hK _ h⟩
    case lss => rw [boolF_eq, ilt_eq] at h; exact hK _ h
    case leq => rw [boolF_eq, ile_eq] at h; exact hK _ h
    case gtr => rw [boolF_eq, ilt_eq] at h; exact hK _ h
    case geq => rw [boolF_eq, ile_eq] at h; exact hK _ h
    all_goals cases h
  · rename_i a
    split at h <;> try (cases h; done)
    rename_i b
    cases op <;> simp only [abin] <;> simp only at h <;> try (cases h; done)
    case add => obtain ⟨h1, h2⟩ := brT' h; exact ⟨Nat.le_of_ble_eq_true h1, hK _ h2⟩
    all_goals (rw [boolF_eq] at h; exact hK _ h)

theorem intsE_spec : ∀ {l : List Value} {ks : List IntKind} {K : List Int → Bool} (_ : intsE l ks K = true) {K' : List Int → Prop} (_ : ∀ as, K as = true → K' as), intsOf l ks K'
  | [], [], K, h, K', hK => hK _ h
  | .int k n :: r, j :: ks, K, h, K', hK => by
    simp only [intsE] at h
    obtain ⟨h1, h2⟩ := brT' h
    simp only [intsOf, h1]
    exact intsE_spec h2 fun as h => hK _ h
  | [], _ :: _, _, h, _, _ => by cases h
  | .int _ _ :: _, [], _, h, _, _ => by cases h
  | .bool _ :: _, ks, _, h, _, _ => by cases ks <;> cases h
  | .float _ _ :: _, ks, _, h, _, _ => by cases ks <;> cases h
  | .complex _ _ _ :: _, ks, _, h, _, _ => by cases ks <;> cases h
  | .string _ :: _, ks, _, h, _, _ => by cases ks <;> cases h
  | .pointer _ :: _, ks, _, h, _, _ => by cases ks <;> cases h
  | .slice _ _ _ :: _, ks, _, h, _, _ => by cases ks <;> cases h
  | .map _ :: _, ks, _, h, _, _ => by cases ks <;> cases h
  | .chan _ :: _, ks, _, h, _, _ => by cases ks <;> cases h
  | .func _ _ _ :: _, ks, _, h, _, _ => by cases ks <;> cases h
  | .nilFunc :: _, ks, _, h, _, _ => by cases ks <;> cases h
  | .iface _ _ :: _, ks, _, h, _, _ => by cases ks <;> cases h
  | .nilIface :: _, ks, _, h, _, _ => by cases ks <;> cases h
  | .agg _ :: _, ks, _, h, _, _ => by cases ks <;> cases h
  | .tuple _ :: _, ks, _, h, _, _ => by cases ks <;> cases h
theorem leqI_eq : ∀ (a b : List Int), leqI a b = decide (a = b)
  | [], [] => rfl
  | [], y :: b => by show false = _; simp
  | x :: a, [] => by show false = _; simp
  | x :: a, y :: b => by
    show Bool.rec (motive := fun _ => Bool) false (leqI a b) (ieq x y) = _
    rw [ieq_eq, leqI_eq a b]
    by_cases h : x = y <;> simp [h]

theorem eqE_spec {P : Program} {E : Env} (hE : EOk P E) {B M : Tr EB} {lim n : Nat} {H : List Blk} (hh : HOk B lim M n H) {t : TypeId} {xo yo : Operand} {i : TI} (hi : tget E.T t = some i) {x y : Value} {K : Bool → Bool} (h : eqE (eqKind' E t xo yo i.kind) M x y K = true)
    {K' : Bool → Prop} (hK : ∀ b, K b = true → K' b) : aeq P E.T H t xo yo x y K' := by
  unfold aeq
  simp only [hi]
  have agg : ∀ {k : EqK} {X : Prop}, (k = match E.eqs.find? (fun x => Nat.beq x.1 t) with | some x => .agg x.2 | none => .bad) → eqE k M x y K = true → (∀ xs ys : Array Value, x = .agg xs → y = .agg ys → (∃ ks, AggEq P t ks ∧ intsOf xs.toList ks (fun as => intsOf ys.toList ks (fun bs => K' (decide (as = bs))))) → X) → X := by
    intro k X hk h hX
    split at hk
    · rename_i p hf
      subst hk
      have hm := List.mem_of_find?_eq_some hf
      have hp := List.find?_some hf
      have := Nat.eq_of_beq_eq_true hp
      simp only [eqE] at h
      split at h <;> try (cases h; done)
      refine hX _ _ rfl rfl ⟨p.2, hE.eqs t p.2 (by rw [← this]; exact hm), intsE_spec h fun as h => intsE_spec h fun bs h => ?_⟩
      rw [boolF_eq, leqI_eq] at h; exact hK _ h
    · subst hk; cases h
  cases hk : i.kind <;> rw [hk] at h <;> simp only [eqKind'] at h
  case int k =>
    simp only [eqE] at h
    split at h <;> try (cases h; done)
    obtain ⟨h1, h2⟩ := brT' h
    simp only [h1]; rw [boolF_eq, ieq_eq] at h2; exact hK _ h2
  case bool =>
    simp only [eqE] at h
    split at h <;> try (cases h; done)
    rw [boolF_eq] at h; exact hK _ h
  case str =>
    simp only [eqE] at h
    split at h <;> try (cases h; done)
    rw [boolF_eq] at h; exact hK _ h
  case ptr e =>
    simp only [eqE] at h
    split at h <;> first | (cases h; done) | exact hK _ h
  case iface =>
    simp only [eqE] at h
    split at h <;> try (cases h; done)
    · exact hK _ h
    · exact hK _ h
    · obtain ⟨h1, h2⟩ := brT' h
      simp only [h1]; exact hK _ h2
  case slice e =>
    simp only [eqE] at h
    split at h <;> try (cases h; done)
    · exact hK _ h
    · rename_i b o l c _ _
      cases hb : Nat.beq l 0 with
      | true => rw [hb] at h; cases h
      | false =>
        rw [hb] at h
        obtain ⟨z, vs, h1, h2, h3, h4⟩ := cellsE_spec hh h
        cases l with
        | zero => cases hb
        | succ l => show (match bget H b with | some (.cells _ _ _) => K' false | _ => False); rw [h1]; exact hK _ h4
  case map k e =>
    simp only [eqE] at h
    split at h <;> first | (cases h; done) | exact hK _ h
  case func =>
    simp only [eqE] at h
    split at h <;> first | (cases h; done) | exact hK _ h
  case struct fs => exact agg rfl h fun xs ys hx hy h9 => by subst hx; subst hy; exact h9
  case arr m e => exact agg rfl h fun xs ys hx hy h9 => by subst hx; subst hy; exact h9
  case float k => cases h

theorem segK_of {vs : List Value} : ∀ {n o : Nat} {K : List Value → Prop} (_ : n = 0 ∨ o + n ≤ vs.length) (_ : K ((vs.drop o).take n)), segK vs o n K
  | 0, o, K, _, h => by simpa [segK] using h
  | n + 1, o, K, hl, h => by
    have hlt : o < vs.length := by rcases hl with hl | hl; cases hl; omega
    refine ⟨vs[o], by simp [hlt], segK_of (n := n) (o := o + 1) (K := fun r => K (vs[o] :: r)) ?_ ?_⟩
    · rcases hl with hl | hl
      · cases hl
      · exact .inr (by omega)
    · rw [List.drop_eq_getElem_cons hlt, List.take_succ_cons] at h; exact h

/-! ### Parts -/
section
variable {F : Tr Value} {sl : List (Nat × Value)}
theorem partsE_spec (hs : SlOk F sl) {places : Nat → Option (Nat × Nat)} : ∀ {ps : List (Nat × Operand)} {l : List (Nat × Nat × EV)} (_ : cParts places ps = some l) {zs : List Value} {K : List Value → Bool} (_ : partsE F K l zs = true),
    ∃ pv zs', evParts sl ps = some pv ∧ setParts places zs pv = some zs' ∧ K zs' = true
  | [], l, hc, zs, K, h => by cases hc; exact ⟨[], zs, rfl, rfl, h⟩
  | (i, x) :: r, l, hc, zs, K, h => by
    simp only [cParts] at hc
    split at hc
    · rename_i off size hp
      split at hc
      · cases hc
      · rename_i s
        split at hc
        · rename_i l' hl
          cases hc
          obtain ⟨v, h1, h2⟩ := gv_spec hs (show gv (cv x) F (fun v => Bool.rec false (lover (cellsL v) zs off (partsE F K l')) (Nat.beq (llen (cellsL v)) (s + 1))) = true from h)
          obtain ⟨h3, h4⟩ := brT' h2
          obtain ⟨h5, h6⟩ := lover_spec h4
          have e1 : (cellsL v).length = s + 1 := by rw [← llen_eq]; exact Nat.eq_of_beq_eq_true h3
          have e2 : off + (s + 1) ≤ zs.length := by
            rcases h5 with h5 | h5
            · rw [h5] at e1; cases e1
            · omega
          obtain ⟨pv, zs', k1, k2, k3⟩ := partsE_spec hs hl h6
          refine ⟨(i, v) :: pv, zs', by simp [evParts, h1, k1], ?_, k3⟩
          simp only [setParts, hp]
          have : (Nat.beq (cellsL v).length (s + 1) && Nat.ble (off + (s + 1)) zs.length) = true := by
            rw [e1, Nat.ble_eq_true_of_le e2]; simp
          rw [this]; exact k2
        · cases hc
    · cases hc
end

section
variable {B M : Tr EB} {lim n : Nat} {H : List Blk} {F : Tr Value} {sl : List (Nat × Value)}

theorem hiE_spec (hs : SlOk F sl) {x : Option Operand} {l : Nat} {K : Nat → Bool} (h : hiE (x.map cv) F l K = true) : ∃ q, K q = true ∧ ∀ K' : Nat → Prop, K' q → hiK sl x l K' := by
  cases x with
  | none => exact ⟨l, h, fun K' h => h⟩
  | some x =>
    obtain ⟨v, h1, h2⟩ := gv_spec hs (show gv (cv x) F _ = true from h)
    split at h2
    · rename_i k z
      obtain ⟨q, rfl, h3⟩ := natOf_spec h2
      exact ⟨q, h3, fun K' h => by simp only [hiK, h1]; exact ⟨q, rfl, h⟩⟩
    · cases h2

theorem zz {l c : Nat} (h : (Nat.beq l 0 && Nat.beq c 0) = true) : l = 0 ∧ c = 0 := by
  obtain ⟨h1, h2⟩ := bnd h
  exact ⟨Nat.eq_of_beq_eq_true h1, Nat.eq_of_beq_eq_true h2⟩

theorem srcE_spec (hh : HOk B lim M n H) {size : Nat} (h0 : 0 < size) {x : Value} {K : Nat → List Value → Bool} (h : srcE M size x K = true) : ∃ m new, K m new = true ∧ new.length = m * size ∧ ∀ K' : Nat → List Value → Prop, K' m new → appSrc H size x K' := by
  unfold srcE at h
  split at h
  · rename_i l c
    obtain ⟨h1, h2⟩ := brT' h
    obtain ⟨rfl, rfl⟩ := zz h1
    exact ⟨0, [], h2, by simp, fun K' h => h⟩
  · rename_i b o m c
    obtain ⟨z, vs, h1, h2, h3, h4⟩ := cellsE_spec hh h
    rw [natF_eq] at h4
    obtain ⟨h5, h6⟩ := lseg_spec h4
    refine ⟨m, _, h6, ?_, fun K' h => ?_⟩
    · have e : m.mul size = m * size := rfl
      rw [e] at h5 ⊢; simp only [List.length_take, List.length_drop]; omega
    simp only [appSrc, h1]
    refine ⟨?_, _, rfl, h⟩
    rcases h5 with h5 | h5
    · have h5' : m * size = 0 := h5
      rcases Nat.mul_eq_zero.1 h5' with h | h
      · exact .inl h
      · omega
    · exact .inr h5
  · rename_i l c
    obtain ⟨h1, h2⟩ := brT' h
    obtain ⟨rfl, rfl⟩ := zz h1
    exact ⟨0, [], h2, by simp, fun K' h => h⟩
  · rename_i s
    obtain ⟨h1, h2⟩ := brT' h
    have := Nat.eq_of_beq_eq_true h1
    subst this
    rw [lfin_eq] at h2
    exact ⟨s.size, _, h2, by rw [List.length_map, Array.length_toList, Nat.mul_one]; rfl, fun K' h => ⟨_, rfl, h⟩⟩
  · cases h
end
end Go.Af
